/- MoveElements of the program at a good order; FnColours in plain words. -/
import Derived.Test.YtefneihlgclkbaaGreatDoorPartOf
import Derived.Test.YtefneihlgclkbaaGreatDoorColM
import Derived.Test.YtefneihlgclkbaaGreatDoorPkE
import Derived.Test.YtefneihlgclkbaaGreatDoorVal
namespace Go.Proofs.YtefneihlgclkbaaGreatDoor.move
set_option linter.unusedVariables false
set_option linter.unusedSimpArgs false
open Go.ChangeShapes Go.WideShapes Go.ChangeAt Go.RowKit
open Go.Proofs.YtefneihlgclkbaaGreatDoor.lib Go.Proofs.YtefneihlgclkbaaGreatDoor.st Go.Proofs.YtefneihlgclkbaaGreatDoor.base Go.Proofs.YtefneihlgclkbaaGreatDoor.make Go.Proofs.YtefneihlgclkbaaGreatDoor.part Go.Proofs.YtefneihlgclkbaaGreatDoor.fits Go.Proofs.YtefneihlgclkbaaGreatDoor.val Go.Proofs.YtefneihlgclkbaaGreatDoor.col Go.Proofs.YtefneihlgclkbaaGreatDoor.colp Go.Proofs.YtefneihlgclkbaaGreatDoor.both Go.Proofs.YtefneihlgclkbaaGreatDoor.specd Go.Proofs.YtefneihlgclkbaaGreatDoor.coli Go.Proofs.YtefneihlgclkbaaGreatDoor.colq

set_option maxHeartbeats 1600000 in
theorem move_yes (N : Nat) (s r : ByteArray) (ao : Option Addr) (cap : Nat) (l : List Nat) (w : World) (hv : validB N s r = true) (h1 : 1 ≤ N) (hN : N ≤ 8) (hs : s.size = N) (hr' : r.size = N * N) (hlen : l.length = N) (h : Reads w (.slice ao N cap) (ints l)) (hcap : N ≤ cap ∧ cap ≤ 9223372036854775807) (hl : ∀ y, y ∈ l → y < N) (hn : l.Nodup) :
    Calls Tryz.prog 9 #[.agg #[.int .i64 N, .string s, .string r], .slice ao N cap] w fun e w' => e = .returned (.tuple #[.agg #[.int .i64 N, .string (bS (pS s l) N), .string (bR (pR N r l) N N)], .bool true]) ∧ Below w.heap.size w w' := by
  obtain ⟨W0, hW0⟩ : ∃ W0, W0 = (w.alloc (.cells #[.int .i64 N, .string s, .string r] 24)).alloc (.cells #[.int .i64 0, .string ⟨#[]⟩, .string ⟨#[]⟩] 24) := ⟨_, rfl⟩
  have BA_0 : Hid (Box 24 W0 w.heap.size N s r) := by rw [hW0]; exact (Box.new 24 w w.heap.size rfl N s r).below ((Below.refl (w.heap.size + 1) _).alloc (by simp) _) (by omega)
  have BZ_0 : Hid (Box 24 W0 (w.heap.size + 1) 0 ⟨#[]⟩ ⟨#[]⟩) := by rw [hW0]; exact Box.new 24 _ (w.heap.size + 1) (by simp) 0 ⟨#[]⟩ ⟨#[]⟩
  have AW_0 : Hid (Below w.heap.size w W0) := by rw [hW0]; exact ((Below.refl _ _).alloc (Nat.le_refl _) _).alloc (by simp) _
  have R_0 : Hid (Reads W0 (.slice ao l.length cap) (ints l)) := by rw [hW0, hlen]; exact h.below (((Below.refl w.heap.size w).alloc (Nat.le_refl _) _).alloc (by simp) _) (Nat.le_refl _)
  have HX := Lib.hid (show _ ∧ _ ∧ _ ∧ _ ∧ _ ∧ _ ∧ _ from ⟨hv, hcap, hl, hn, hlen, hs, hr'⟩)
  have HW0 := Lib.hid hW0
  have CP : Hid (∀ W, Reads W (.slice ao N cap) (ints l) → Calls Tryz.prog 24 #[.agg #[.int .i64 N, .string s, .string r], .slice ao N cap] W fun e w' => e = .returned (.tuple #[.agg #[.int .i64 N, .string (bS (pS s l) N), .string (bR (pR N r l) N N)], .bool true]) ∧ Below W.heap.size W w') := by
    intro W hR
    have := partof.partOf_yes N s r ao cap l W hv hN hs hr' (by rw [hlen]; exact hR) (by rw [hlen]; exact hcap) hl hn (by omega) (by omega)
    rw [hlen] at this; exact this
  have R_1 : Hid (Reads W0 (.slice ao N cap) (ints l)) := by have := R_0.out; rw [hlen] at this; exact this
  clear hv hcap hl hn hs hr' h hW0 R_0 hlen
  go_enter Tryz.func9, Tryz.ntmps9
  go_wp2_with fail
  rw [← HW0.out]
  clear HW0
  obtain ⟨a0, a1, a2⟩ := Box.c BA_0.out
  go_wp2_with fail
  clear a0 a1 a2
  refine (CP.out _ R_1.out).mono ?_
  rintro e W3 ⟨rfl, hb⟩
  obtain ⟨ps, hps⟩ : ∃ z, z = bS (pS s l) N := ⟨_, rfl⟩
  obtain ⟨pr, hpr⟩ : ∃ z, z = bR (pR N r l) N N := ⟨_, rfl⟩
  rw [← hps, ← hpr]
  have HPS := Lib.hid hps
  have HPR := Lib.hid hpr
  clear hps hpr
  have AW_3 : Hid (Below w.heap.size w W3) := AW_0.out.trans (hb.mono AW_0.out.size)
  have BZ1 := Lib.hid (BZ_0.out.below hb BZ_0.out.lt)
  obtain ⟨z0, z1, z2⟩ := BZ1.out.c
  have f0 := BZ1.out.free 0
  have f1 := BZ1.out.free 1
  have f2 := BZ1.out.free 2
  obtain ⟨e0, e1, e2⟩ := (((BZ1.out.set0 N).set1 ps).set2 pr).c
  have HF := Lib.hid (show _ ∧ _ ∧ _ from ⟨e0, e1, e2⟩)
  clear e0 e1 e2
  have R := Lib.hid (((AW_3.out.setCell (p := ⟨w.heap.size + 1, 0, none⟩) (by simp) (.int .i64 N)).setCell (p := ⟨w.heap.size + 1, 1, none⟩) (by simp) (.string ps)).setCell (p := ⟨w.heap.size + 1, 2, none⟩) (by simp) (.string pr))
  go_wp2
  exact bodyPost_ret (v := .tuple #[.agg #[.int .i64 N, .string ps, .string pr], .bool true]) (by simp [results, Tryz.results9, go_sem, HF.out.1, HF.out.2.1, HF.out.2.2]) rfl ⟨by rw [HPS.out, HPR.out], R.out⟩

/-- the order in which the elements are moved -/
def turned (N M k : Nat) : List Nat := (List.range k).map fun i => (i + M) % N
theorem turned_succ (N M k : Nat) : turned N M (k + 1) = turned N M k ++ [(k + M) % N] := by simp [turned, List.range_succ]
theorem turned_get {N M i : Nat} (h : i < N) : (turned N M N).getD i 0 = (i + M) % N := getD_map_range _ h
theorem mod_inj {N M i j : Nat} (hi : i < N) (hj : j < N) (e : (i + M) % N = (j + M) % N) : i = j := by
  have h1 := Nat.div_add_mod (i + M) N
  have h2 := Nat.div_add_mod (j + M) N
  rw [e] at h1
  rcases Nat.lt_trichotomy ((i + M) / N) ((j + M) / N) with h | h | h
  · have : N * ((i + M) / N) + N ≤ N * ((j + M) / N) := by rw [← Nat.mul_succ]; exact Nat.mul_le_mul_left N h
    omega
  · rw [h] at h1; omega
  · have : N * ((j + M) / N) + N ≤ N * ((i + M) / N) := by rw [← Nat.mul_succ]; exact Nat.mul_le_mul_left N h
    omega
theorem turned_iso {N M : Nat} {s r : ByteArray} (h1 : 1 ≤ N) : Iso N s r (bS (pS s (turned N M N)) N) (bR (pR N r (turned N M N)) N N) (turned N M N) := by
  refine Iso.of_fun _ (fun i _ => Nat.mod_lt _ (by omega)) (fun i j hi hj e => mod_inj hi hj e) (fun i hi => ?_) (fun i j hi hj => ?_)
  · rw [bit_bS hi]; unfold pS; rw [turned_get hi]
  · rw [bit_bR hi hj]; unfold pR; rw [turned_get hi, turned_get hj]
/-- what the law asks -/
structure Fact (N K M : Nat) (s r : ByteArray) (P Q C : List Int) : Prop where
  n1 : 1 ≤ N
  n8 : N ≤ 8
  k : K ≤ 8
  hv : validB N s r = true
  hs : s.size = N
  hr : r.size = N * N
  pl : P.length = N
  ql : Q.length = N
  cl : C.length = N
  nx : colsR N s r (min ((K : Int) + 1) 8) = Q
  mv : colsR N (bS (pS s (turned N M N)) N) (bR (pR N r (turned N M N)) N N) K = C
  back : ∀ x y : Nat, x < N → y < N → Q.getD x 0 = Q.getD y 0 → P.getD x 0 = P.getD y 0
  moved : ∀ x : Nat, x < N → C.getD x 0 = P.getD ((x + M) % N) 0
  orbit : ∀ o, Iso N s r s r o → ∀ x : Nat, x < N → P.getD (o.getD x 0) 0 = P.getD x 0
  full : ∀ x y : Nat, x < N → ∀ c : Int, 0 ≤ c → c ≤ P.getD x 0 → c ∈ P
  pos : ∀ x : Nat, x < N → 0 ≤ P.getD x 0 ∧ P.getD x 0 ≤ 8
  lt : ∀ y, y ∈ turned N M N → y < N
  nd : (turned N M N).Nodup
  tl : (turned N M N).length = N
theorem fact {n : Int} {s r : ByteArray} {x : Int} (M : Nat) (h : colsR n s r x ≠ []) : ∃ N K : Nat, n = N ∧ x = K ∧ ∃ Q C, Fact N K M s r (colsR n s r x) Q C := by
  by_cases hv : validB n s r = true ∧ basic.inB x 0 8 = true
  · obtain ⟨N, rfl, h1, h8, hs, hr⟩ := valid_size hv.1
    have hx := of_decide_eq_true hv.2
    obtain ⟨K, rfl, hK⟩ : ∃ K : Nat, x = K ∧ K ≤ 8 := ⟨x.toNat, by omega, by omega⟩
    have e1 := colsR_yes hv.1 hK
    obtain ⟨L, hL, hL8⟩ : ∃ L : Nat, min ((K : Int) + 1) 8 = L ∧ L = min (K + 1) 8 := ⟨(min ((K : Int) + 1) 8).toNat, by omega, by omega⟩
    have e2 := colsR_yes (C := L) hv.1 (by omega)
    have hv2 : validB N (bS (pS s (turned N M N)) N) (bR (pR N r (turned N M N)) N N) = true := valid_made _ _ h1 h8
    have e3 := colsR_yes hv2 hK
    have hI := turned_iso (s := s) (r := r) (M := M) h1
    have hful := fun c : Int => colm.full (a := ⟨N, s, r⟩) (show 0 < (⟨N, s, r⟩ : St).n from h1) K (x := c)
    have hmem : ∀ x : Nat, x < N → (cols [⟨N, s, r⟩] K).getD x 0 ∈ cols [⟨N, s, r⟩] K := fun x hx => by
      have hl := one_len ⟨N, s, r⟩ K
      rw [List.getD_eq_getElem?_getD, List.getElem?_eq_getElem (by rw [hl]; exact hx)]
      exact List.getElem_mem _
    have hbd : ∀ c : Int, c ∈ cols [⟨N, s, r⟩] K → 0 ≤ c ∧ c < most (cols [⟨N, s, r⟩] K) ∧ most (cols [⟨N, s, r⟩] K) ≤ 8 := fun c hc => by
      have := colsR_bd (n := N) (s := s) (r := r) (c := (K : Int)) (x := c) (by rw [e1]; exact hc)
      rw [e1] at this; exact this
    refine ⟨N, K, rfl, rfl, cols [⟨N, s, r⟩] L, cols [⟨N, bS (pS s (turned N M N)) N, bR (pR N r (turned N M N)) N N⟩] K, ?_⟩
    rw [e1]
    refine ⟨h1, h8, hK, hv.1, hs, hr, one_len _ _, one_len _ _, one_len ⟨N, _, _⟩ _, by rw [hL, e2], e3, fun x y hx hy e => ?_, fun x hx => ?_, fun o ho x hx => colm.orbit ho K hx, fun x y hx c h0 hc => ?_, fun x hx => ?_, fun y hy => ?_, ?_, ?_⟩
    · rw [hL8] at e
      exact colm.next_back (a := ⟨N, s, r⟩) hx hy e hK
    · rw [colm.moved hI K hx, turned_get hx]
    · have := (hful _).1 (hmem x hx)
      exact (hful c).2 ⟨h0, by omega⟩
    · have := hbd _ (hmem x hx)
      omega
    · obtain ⟨i, hi, rfl⟩ := List.mem_map.1 hy
      exact Nat.mod_lt _ (by omega)
    · rw [List.nodup_iff_pairwise_ne, List.pairwise_iff_getElem]
      intro i j hi hj hij e
      have h2 : (turned N M N).length = N := by simp [turned]
      have e' : (turned N M N).getD i 0 = (turned N M N).getD j 0 := by
        rw [List.getD_eq_getElem?_getD, List.getElem?_eq_getElem hi, List.getD_eq_getElem?_getD, List.getElem?_eq_getElem hj]; simp [e]
      rw [turned_get (by omega), turned_get (by omega)] at e'
      have := mod_inj (by omega) (by omega) e'
      omega
    · simp [turned]
  · exact absurd (colsR_no hv) h
end Go.Proofs.YtefneihlgclkbaaGreatDoor.move
