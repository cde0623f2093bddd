/- PartOf and MoveElements of the program, at orders without a number twice. -/
import Derived.Test.YtefneihlgclkbaaGreatDoorPart
import Derived.Test.YtefneihlgclkbaaGreatDoorEach
import Derived.Test.YtefneihlgclkbaaGreatDoorPairL
namespace Go.Proofs.YtefneihlgclkbaaGreatDoor.partof
set_option linter.unusedVariables false
set_option linter.unusedSimpArgs false
open Go.ChangeShapes Go.WideShapes Go.ChangeAt Go.RowKit
open Go.Proofs.YtefneihlgclkbaaGreatDoor.lib Go.Proofs.YtefneihlgclkbaaGreatDoor.st Go.Proofs.YtefneihlgclkbaaGreatDoor.base Go.Proofs.YtefneihlgclkbaaGreatDoor.make Go.Proofs.YtefneihlgclkbaaGreatDoor.part Go.Proofs.YtefneihlgclkbaaGreatDoor.fits Go.Proofs.YtefneihlgclkbaaGreatDoor.each

theorem take_reads {w : World} {b off m cap k : Nat} {l : List Nat} (h : Reads w (.slice (some ⟨b, off, none⟩) m cap) (ints l)) (hk : k < l.length) : Reads w (.slice (some ⟨b, off, none⟩) k cap) (ints (l.take k)) := by
  obtain ⟨ao, c, hv, hr, hc⟩ := h
  simp only [Value.slice.injEq] at hv
  obtain ⟨rfl, rfl, rfl⟩ := hv
  rw [ints_len] at hr hc
  have hl : (l.take k).length = k := by rw [List.length_take]; omega
  refine ⟨_, _, by rw [ints_len, hl], ?_, ?_⟩
  · rcases hr with e | ⟨b', off', e, hr⟩
    · have : (ints l).length = 0 := by rw [e]; rfl
      rw [ints_len] at this; omega
    · refine .inr ⟨b', off', e, fun i hi => ?_⟩
      rw [ints_len, hl] at hi
      have e2 := hr i (by omega)
      rw [e2]
      congr 2
      simp [ints, List.getD_eq_getElem?_getD, List.getElem?_take, hi]
  · intro e; cases e

set_option maxHeartbeats 1600000 in
theorem allDifferent_any (ao : Option Addr) (cap : Nat) (l : List Nat) (w : World) (h : Reads w (.slice ao l.length cap) (ints l)) (hcap : l.length ≤ cap ∧ cap ≤ 9223372036854775807) (hn : l.Nodup) (h1 : 1 ≤ l.length) (h8 : l.length ≤ 100) :
    Calls Tryz.prog 43 #[.slice ao l.length cap] w fun e w' => e = .returned (.bool true) ∧ w' = w := by
  obtain ⟨n, hnl⟩ : ∃ n, n = l.length := ⟨_, rfl⟩
  rw [← hnl] at h h1 h8 hcap ⊢
  obtain ⟨b, off, rfl, hb, hc⟩ := lies h hnl h1
  have HC := Lib.hid hc
  have HR := Lib.hid h
  have HN := Lib.hid hn
  have HL := Lib.hid hnl
  obtain ⟨hcap1, hcap2⟩ := hcap
  clear hc h hn hnl
  go_enter Tryz.func43, Tryz.ntmps43
  go_wp2_with fail
  go_loop [3, 4, 7] (fun _ _ i => ∃ k : Nat, k ≤ n ∧ i = .int .i64 k) (fun _ _ i => n - (intOf i).toNat)
  case atStart => exact ⟨0, Nat.zero_le _, rfl⟩
  case round =>
    obtain ⟨k, hk, rfl⟩ := hrel
    by_cases hlt : k < n
    · have c1 := HC.out k hlt
      obtain ⟨y, hy⟩ : ∃ y, y = l.getD k 0 := ⟨_, rfl⟩
      have HY := Lib.hid hy
      rw [← hy] at c1
      clear hy
      have hno : Hid ((l.take k).contains y = false) := by
        rw [Hid, HY.out]
        have hkl : k < l.length := by have := HL.out; omega
        refine Bool.eq_false_iff.2 fun hm => ?_
        obtain ⟨j, hj, e⟩ := List.getElem_of_mem (List.contains_iff_mem.1 hm)
        rw [List.length_take] at hj
        rw [List.getElem_take, List.getD_eq_getElem?_getD, List.getElem?_eq_getElem hkl, Option.getD_some] at e
        exact List.pairwise_iff_getElem.1 HN.out j k (by omega) hkl (by omega) e
      go_wp2_with fail
      refine (contains_any _ (l.take k) y _ (take_reads HR.out (by have := HL.out; omega)) (by rw [List.length_take]; have := HL.out; omega)).mono ?_
      rintro e WX ⟨rfl, rfl⟩
      rw [hno.out]
      go_wp2
      go_round
      case rel => exact ⟨k + 1, by omega, by go_num⟩
      case measure => simp [intOf]; omega
    · obtain rfl : n = k := by omega
      go_wp2
      go_ret
      exact ⟨rfl, rfl⟩

set_option maxHeartbeats 1600000 in
theorem partOf_yes (N : Nat) (s r : ByteArray) (ao : Option Addr) (cap : Nat) (l : List Nat) (w : World) (hv : validB N s r = true) (hN : N ≤ 8) (hs : s.size = N) (hr' : r.size = N * N) (h : Reads w (.slice ao l.length cap) (ints l)) (hcap : l.length ≤ cap ∧ cap ≤ 9223372036854775807) (hl : ∀ y, y ∈ l → y < N) (hn : l.Nodup) (h1 : 1 ≤ l.length) (h8 : l.length ≤ 8) :
    Calls Tryz.prog 24 #[.agg #[.int .i64 N, .string s, .string r], .slice ao l.length cap] w fun e w' => e = .returned (.tuple #[.agg #[.int .i64 l.length, .string (bS (pS s l) l.length), .string (bR (pR N r l) l.length l.length)], .bool true]) ∧ Below w.heap.size w w' := by
  obtain ⟨W0, hW0⟩ : ∃ W0, W0 = (w.alloc (.cells #[.int .i64 N, .string s, .string r] 24)).alloc (.cells #[.int .i64 0, .string ⟨#[]⟩, .string ⟨#[]⟩] 24) := ⟨_, rfl⟩
  have BA_0 : Hid (Box 24 W0 w.heap.size N s r) := by rw [hW0]; exact (Box.new 24 w w.heap.size rfl N s r).below ((Below.refl (w.heap.size + 1) _).alloc (by simp) _) (by omega)
  have BZ_0 : Hid (Box 24 W0 (w.heap.size + 1) 0 ⟨#[]⟩ ⟨#[]⟩) := by rw [hW0]; exact Box.new 24 _ (w.heap.size + 1) (by simp) 0 ⟨#[]⟩ ⟨#[]⟩
  have AW_0 : Hid (Below w.heap.size w W0) := by rw [hW0]; exact ((Below.refl _ _).alloc (Nat.le_refl _) _).alloc (by simp) _
  have R_0 : Hid (Reads W0 (.slice ao l.length cap) (ints l)) := by rw [hW0]; exact h.below (((Below.refl w.heap.size w).alloc (Nat.le_refl _) _).alloc (by simp) _) (Nat.le_refl _)
  have HALL : Hid ((ints l).all (pairL.elIn N) = true) := by
    refine List.all_eq_true.2 fun x hx => ?_
    obtain ⟨y, hy, rfl⟩ := List.mem_map.1 hx
    have := hl y hy
    unfold pairL.elIn
    simp; omega
  have HX := Lib.hid (show _ ∧ _ ∧ _ ∧ _ ∧ _ ∧ _ ∧ _ from ⟨hv, hcap, hl, hn, h8, hs, hr'⟩)
  have HW0 := Lib.hid hW0
  have tl : ((l.length : Int) == 0) = false := beq_eq_false_iff_ne.2 (by omega)
  clear hv hcap hl hn hs hr' h hW0
  go_enter Tryz.func24, Tryz.ntmps24
  go_wp2_with fail
  rw [← HW0.out]
  clear HW0
  refine (isStructure_any N s r _ (by have := HX.out.2.2.2.2.2.1; omega) (by have := HX.out.2.2.2.2.2.2; have : N * N ≤ 8 * 8 := Nat.mul_le_mul hN hN; omega)).mono ?_
  rintro e W1 ⟨rfl, hb⟩
  have BA_1 := Lib.hid (BA_0.out.below hb BA_0.out.lt)
  have BZ_1 := Lib.hid (BZ_0.out.below hb BZ_0.out.lt)
  have AW_1 : Hid (Below w.heap.size w W1) := AW_0.out.trans (hb.mono AW_0.out.size)
  have R_1 : Hid (Reads W1 (.slice ao l.length cap) (ints l)) := R_0.out.below hb (Nat.le_refl _)
  clear hb BA_0 BZ_0 AW_0 R_0
  rw [HX.out.1]
  obtain ⟨a0, a1, a2⟩ := Box.c BA_1.out
  go_wp2_with fail
  clear a0 a1 a2
  refine (pairL.areElements_any N s r _ (ints l) _ R_1.out (by rw [ints_len]; omega)).mono ?_
  rintro e W2 ⟨rfl, hb⟩
  have BA_2 := Lib.hid (BA_1.out.below hb BA_1.out.lt)
  have BZ_2 := Lib.hid (BZ_1.out.below hb BZ_1.out.lt)
  have AW_2 : Hid (Below w.heap.size w W2) := AW_1.out.trans (hb.mono AW_1.out.size)
  have R_2 : Hid (Reads W2 (.slice ao l.length cap) (ints l)) := R_1.out.below hb (Nat.le_refl _)
  clear hb BA_1 BZ_1 AW_1 R_1
  rw [HALL.out]
  obtain ⟨a0, a1, a2⟩ := Box.c BA_2.out
  go_wp2_with fail
  clear a0 a1 a2
  refine (allDifferent_any ao cap l _ R_2.out HX.out.2.1 HX.out.2.2.2.1 h1 (by omega)).mono ?_
  rintro e WX ⟨rfl, rfl⟩
  obtain ⟨a0, a1, a2⟩ := Box.c BA_2.out
  go_wp2_with fail
  clear a0 a1 a2
  refine (partOf_any N s r l _ _ R_2.out HX.out.2.2.1 h8 HX.out.2.2.2.2.2.1 HX.out.2.2.2.2.2.2 hN).mono ?_
  rintro e W3 ⟨rfl, hb⟩
  obtain ⟨ps, hps⟩ : ∃ z, z = bS (pS s l) l.length := ⟨_, rfl⟩
  obtain ⟨pr, hpr⟩ : ∃ z, z = bR (pR N r l) l.length l.length := ⟨_, rfl⟩
  rw [← hps, ← hpr]
  have HPS := Lib.hid hps
  have HPR := Lib.hid hpr
  clear hps hpr
  have AW_3 : Hid (Below w.heap.size w W3) := AW_2.out.trans (hb.mono AW_2.out.size)
  have BZ1 := Lib.hid (BZ_2.out.below hb BZ_2.out.lt)
  obtain ⟨z0, z1, z2⟩ := BZ1.out.c
  have f0 := BZ1.out.free 0
  have f1 := BZ1.out.free 1
  have f2 := BZ1.out.free 2
  obtain ⟨e0, e1, e2⟩ := (((BZ1.out.set0 l.length).set1 ps).set2 pr).c
  have HF := Lib.hid (show _ ∧ _ ∧ _ from ⟨e0, e1, e2⟩)
  clear e0 e1 e2
  have R := Lib.hid (((AW_3.out.setCell (p := ⟨w.heap.size + 1, 0, none⟩) (by simp) (.int .i64 l.length)).setCell (p := ⟨w.heap.size + 1, 1, none⟩) (by simp) (.string ps)).setCell (p := ⟨w.heap.size + 1, 2, none⟩) (by simp) (.string pr))
  go_wp2
  exact bodyPost_ret (v := .tuple #[.agg #[.int .i64 l.length, .string ps, .string pr], .bool true]) (by simp [results, Tryz.results24, go_sem, HF.out.1, HF.out.2.1, HF.out.2.2]) rfl ⟨by rw [HPS.out, HPR.out], R.out⟩
end Go.Proofs.YtefneihlgclkbaaGreatDoor.partof
