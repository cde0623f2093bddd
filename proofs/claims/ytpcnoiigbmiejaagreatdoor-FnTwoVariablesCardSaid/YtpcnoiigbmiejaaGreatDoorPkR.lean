/- Several texts in one: Part, PartR. -/
import Derived.Test.YtpcnoiigbmiejaaGreatDoorPk3
import Derived.Test.YtpcnoiigbmiejaaGreatDoorPk2
import Derived.Test.YtpcnoiigbmiejaaGreatDoorPk5
/- partOf: the structure of some elements, in the program. -/
namespace Go.Proofs.YtpcnoiigbmiejaaGreatDoor.part
set_option linter.unusedVariables false
set_option linter.unusedSimpArgs false
open Go.ChangeShapes Go.WideShapes Go.ChangeAt Go.RowKit
open Go.Proofs.YtpcnoiigbmiejaaGreatDoor.lib Go.Proofs.YtpcnoiigbmiejaaGreatDoor.st Go.Proofs.YtpcnoiigbmiejaaGreatDoor.base Go.Proofs.YtpcnoiigbmiejaaGreatDoor.make Go.Proofs.YtpcnoiigbmiejaaGreatDoor.flow Go.Proofs.YtpcnoiigbmiejaaGreatDoor.fits

/-- the bits of the part -/
def pS (sa : ByteArray) (l : List Nat) (x : Nat) : Bool := bitAt sa (l.getD x 0)
def pR (n : Nat) (ra : ByteArray) (l : List Nat) (x y : Nat) : Bool := bitAt ra (l.getD x 0 * n + l.getD y 0)
/-- where a list lies that is not empty -/
theorem lies {w : World} {ao : Option Addr} {m cap : Nat} {l : List Nat} (h : Reads w (.slice ao m cap) (ints l)) (hm : m = l.length) (h1 : 1 ≤ m) :
    ∃ b off, ao = some ⟨b, off, none⟩ ∧ b < w.heap.size ∧ ∀ i, i < m → w.cell? ⟨b, off + i, none⟩ = some (.int .i64 (l.getD i 0 : Nat)) := by
  obtain ⟨ao', c', hv', hc', _⟩ := h
  simp only [Value.slice.injEq] at hv'
  rw [ints_len] at hc'
  rcases hc' with h | ⟨b, off, he, hc⟩
  · have h2 : (ints l).length = 0 := by rw [h]; rfl
    rw [ints_len] at h2; omega
  · have key : ∀ i, i < m → w.cell? ⟨b, off + i, none⟩ = some (.int .i64 (l.getD i 0 : Nat)) := fun i hi => by rw [hc i (by omega), ints_get]
    exact ⟨b, off, hv'.1.trans he, World.block_lt_of_cell? w _ (key 0 (by omega)), key⟩
theorem getD_lt {l : List Nat} {n i : Nat} (h : ∀ y, y ∈ l → y < n) (hi : i < l.length) : l.getD i 0 < n := by
  rw [List.getD_eq_getElem?_getD, List.getElem?_eq_getElem hi]; exact h _ (List.getElem_mem hi)

end Go.Proofs.YtpcnoiigbmiejaaGreatDoor.part

/- l1Part of the reference. -/
namespace Go.Proofs.YtpcnoiigbmiejaaGreatDoor.part
set_option linter.unusedVariables false
set_option linter.unusedSimpArgs false
open Go.ChangeShapes Go.WideShapes Go.ChangeAt Go.RowKit
open Go.Proofs.YtpcnoiigbmiejaaGreatDoor.lib Go.Proofs.YtpcnoiigbmiejaaGreatDoor.st Go.Proofs.YtpcnoiigbmiejaaGreatDoor.base Go.Proofs.YtpcnoiigbmiejaaGreatDoor.make Go.Proofs.YtpcnoiigbmiejaaGreatDoor.flow Go.Proofs.YtpcnoiigbmiejaaGreatDoor.fits Go.Proofs.YtpcnoiigbmiejaaGreatDoor.prod

/-- what l1Part returns -/
def Parted (n : Nat) (sa ra : ByteArray) (l : List Nat) (w : World) (e : Ending) (w' : World) : Prop :=
  e = .returned (.agg #[.int .i64 l.length, .string (bS (pS sa l) l.length), .string (bR (pR n ra l) l.length l.length)]) ∧ Below w.heap.size w w'
theorem reads_set {l : List Nat} {m cap b off r : Nat} {w W W' : World} {u : Value} (hm : m = l.length) (h1 : 1 ≤ m) (h : Reads W (.slice (some ⟨b, off, none⟩) m cap) (ints l)) (hb : Below W.heap.size W W')
    (hl : ∃ b' off', (some (⟨b, off, none⟩ : Addr)) = some ⟨b', off', none⟩ ∧ b' < w.heap.size) : Reads (W'.setCell ⟨w.heap.size + 1 + 1, r, none⟩ u) (.slice (some ⟨b, off, none⟩) m cap) (ints l) := by
  obtain ⟨b', off', he, hlt⟩ := hl
  simp only [Option.some.injEq, Addr.mk.injEq] at he
  obtain ⟨rfl, rfl, -⟩ := he
  obtain ⟨b', off', he, _, hc⟩ := lies h hm h1
  simp only [Option.some.injEq, Addr.mk.injEq] at he
  obtain ⟨rfl, rfl, -⟩ := he
  refine ⟨some ⟨b, off, none⟩, cap, by rw [ints_len, ← hm], .inr ⟨b, off, rfl, fun i hi => ?_⟩, fun h => by cases h⟩
  rw [ints_len, ← hm] at hi
  rw [ints_get, World.cell?_of_block (w := W') (heap_setCell_other _ _ _ _ (by show b ≠ w.heap.size + 1 + 1; omega))]
  exact keepCell hb (hc i hi)
set_option maxHeartbeats 4000000 in
set_option maxRecDepth 100000 in
theorem l1Part_any (n : Nat) (sa ra : ByteArray) (l : List Nat) (v : Value) (w : World) (hr : Reads w v (ints l)) (hl : ∀ y, y ∈ l → y < n) (h8 : l.length ≤ 8) (hsa : sa.size = n) (hra : ra.size = n * n) (hn : n ≤ 8) :
    Calls Tryz.prog 59 #[.agg #[.int .i64 n, .string sa, .string ra], v] w (Parted n sa ra l w) := by
  unfold Parted
  obtain ⟨ao, cap, rfl⟩ := hr.len
  rw [ints_len] at hr ⊢
  obtain ⟨m, hm⟩ : ∃ m, m = l.length := ⟨_, rfl⟩
  rw [← hm] at hr h8 ⊢
  obtain ⟨W3, hW3⟩ : ∃ W3, W3 = (((w.alloc (.cells #[.int .i64 n, .string sa, .string ra] 24)).alloc (.cells #[.int .i64 0, .string ⟨#[]⟩, .string ⟨#[]⟩] 24)).alloc (.cells #[.int .i64 m, .string ⟨#[]⟩, .string ⟨#[]⟩] 24)) := ⟨_, rfl⟩
  have BA : Hid (Box 24 W3 w.heap.size n sa ra) := by rw [hW3]; exact ((Box.new 24 w w.heap.size rfl n sa ra).below ((Below.refl (w.heap.size + 1) _).alloc (by simp) _) (by omega)).below ((Below.refl (w.heap.size + 1) _).alloc (by simp) _) (by omega)
  have BZ : Hid (Box 24 W3 (w.heap.size + 1) 0 ⟨#[]⟩ ⟨#[]⟩) := by rw [hW3]; exact (Box.new 24 _ (w.heap.size + 1) (by simp) 0 ⟨#[]⟩ ⟨#[]⟩).below ((Below.refl (w.heap.size + 1 + 1) _).alloc (by simp) _) (by omega)
  have BO : Hid (Box 24 W3 (w.heap.size + 1 + 1) m (bS (pS sa l) 0) (bR (pR n ra l) m 0)) := by rw [hW3]; exact Box.new 24 _ (w.heap.size + 1 + 1) (by simp) m ⟨#[]⟩ ⟨#[]⟩
  have AW : Hid (Below w.heap.size w W3) := by rw [hW3]; exact (((Below.refl _ _).alloc (Nat.le_refl _) _).alloc (by simp) _).alloc (by simp only [World.size_alloc]; omega) _
  have HB1 : ∀ {k : Nat}, k < m → ∃ b off, ao = some ⟨b, off, none⟩ ∧ b < w.heap.size := fun {k} h => by
    obtain ⟨b, off, h1, h2, _⟩ := lies hr hm (by omega)
    exact ⟨b, off, h1, h2⟩
  have RD := Lib.hid (hr.below AW.out (Nat.le_refl _))
  have HH := Lib.hid (show _ ∧ _ ∧ _ ∧ _ from ⟨hm, hl, hsa, hra⟩)
  have HW := Lib.hid hW3
  clear hW3 hr hm hl hsa hra
  go_enter Tryz.func59, Tryz.ntmps59
  go_wp2_with fail
  rw [← HW.out]
  go_loopw [6] (fun i wr => ∃ k : Nat, k ≤ m ∧ i = .int .i64 k ∧ Box 24 wr (w.heap.size + 1 + 1) m (bS (pS sa l) k) (bR (pR n ra l) m k) ∧ Box 24 wr w.heap.size n sa ra ∧ Box 24 wr (w.heap.size + 1) 0 ⟨#[]⟩ ⟨#[]⟩ ∧ Below (w.heap.size + 1) W3 wr ∧ Reads wr (.slice ao m cap) (ints l)) (fun i _ => m - (intOf i).toNat)
  case atStart => exact ⟨0, Nat.zero_le _, rfl, BO.out, BA.out, BZ.out, Below.refl _ _, RD.out⟩
  case round =>
    clear BO BA BZ RD HW
    obtain ⟨k, hk, rfl, h1, h2, h3, h4, h5⟩ := hrel
    have HQ := Lib.hid (show _ ∧ _ ∧ _ ∧ _ ∧ _ from ⟨h1, h2, h3, h4, h5⟩)
    have HO := Lib.hid h1
    have BAR := Lib.hid h2
    clear h1 h2 h3 h4 h5
    by_cases hkm : k < m
    · obtain ⟨b, off, rfl, hb, hc⟩ := lies HQ.out.2.2.2.2 HH.out.1 (by omega)
      obtain ⟨x, hx⟩ : ∃ x, x = l.getD k 0 := ⟨_, rfl⟩
      have k1 := hc k hkm
      rw [← hx] at k1
      have hxn : x < n := by rw [hx]; exact getD_lt HH.out.2.1 (by have := HH.out.1; omega)
      obtain ⟨p, hp⟩ : ∃ p, p = bitAt sa x := ⟨_, rfl⟩
      have HP : Hid (pS sa l k = p) := by rw [hp, hx]; rfl
      have HK1 := Lib.hid k1
      have HX := Lib.hid hx
      have CS : Hid (∀ W, Calls Tryz.prog 86 #[.agg #[.int .i64 n, .string sa, .string ra], .int .i64 x] W fun e w' => e = .returned (.bool p) ∧ Below W.heap.size W w') := fun W => by rw [hp]; exact l1Set_any n sa ra x W (by have := HH.out.2.2.1; omega) (by have := HH.out.2.2.1; omega)
      clear hc hx hp k1
      have ca : ∀ X : Wd (fun W => Hid (Below wr.heap.size wr W)), X.w.cell? ⟨w.heap.size, 0, none⟩ = some (.int .i64 n) ∧ X.w.cell? ⟨w.heap.size, 1, none⟩ = some (.string sa) ∧ X.w.cell? ⟨w.heap.size, 2, none⟩ = some (.string ra) := fun X => (BAR.out.below X.ok.out BAR.out.lt).c
      have ca0 := fun X => (ca X).1
      have ca1 := fun X => (ca X).2.1
      have ca2 := fun X => (ca X).2.2
      clear ca
      have co : ∀ X : Wd (fun W => Hid (Below wr.heap.size wr W)), X.w.cell? ⟨w.heap.size + 1 + 1, 0, none⟩ = some (.int .i64 m) ∧ X.w.cell? ⟨w.heap.size + 1 + 1, 1, none⟩ = some (.string (bS (pS sa l) k)) ∧ X.w.cell? ⟨w.heap.size + 1 + 1, 2, none⟩ = some (.string (bR (pR n ra l) m k)) := fun X => (HO.out.below X.ok.out HO.out.lt).c
      have co0 := fun X => (co X).1
      have co1 := fun X => (co X).2.1
      have co2 := fun X => (co X).2.2
      clear co
      have hne : Nonempty (Wd (fun W => Hid (Below wr.heap.size wr W))) := ⟨⟨wr, Lib.hid (Below.refl _ _)⟩⟩
      have ck : ∀ X : Wd (fun W => Hid (Below wr.heap.size wr W)), X.w.cell? ⟨b, off + k, none⟩ = some (.int .i64 x) := fun X => keepCell X.ok.out HK1.out
      have hadd : ∀ W, (Op.stringOp .add (bS (pS sa l) k) (bit1 p)).run Tryz.prog W = .ok (.string (bS (pS sa l) (k + 1))) W := fun W => (run_string_add_sum W _ _ (by rw [bS_size, bit1_size]; omega)).trans (by rw [bS, HP.out])
      go_wp2_with fail
      refine flow_last (S := (fun W => Hid (Below wr.heap.size wr W))) (by kernel_rfl) (by kernel_rfl) (by kernel_rfl) (by kernel_rfl) (by kernel_rfl) (Lib.hid (Below.refl _ _).drew) ?_
      simp only [List.dropLast_cons_cons, List.dropLast_singleton, List.getLast?_cons_cons, List.getLast?_singleton, Option.toList_some]
      repeat (go_big_quiet_step (first | (with_reducible refine (CS.out _).mono ?_; rintro e W ⟨rfl, hb⟩; exact ⟨rfl, Wd.on (Wd.ok _) hb⟩) | (go_at_call 58; with_reducible refine (l1Bit_at _ _).mono ?_; rintro e W ⟨rfl, rfl⟩; exact ⟨rfl, _, rfl⟩)))
      refine wpQuiet_nil ?_
      rintro _ ⟨X, rfl⟩
      have HXX := Lib.hid X.ok.out
      have BX2 := HO.out.below HXX.out HO.out.lt
      have f1 := BX2.free 1
      obtain ⟨o0, o1, o2⟩ := BX2.c
      have R : Hid (Box 24 (X.w.setCell ⟨w.heap.size + 1 + 1, 1, none⟩ (.string (bS (pS sa l) (k + 1)))) (w.heap.size + 1 + 1) m (bS (pS sa l) (k + 1)) (bR (pR n ra l) m k) ∧ Box 24 (X.w.setCell ⟨w.heap.size + 1 + 1, 1, none⟩ (.string (bS (pS sa l) (k + 1)))) w.heap.size n sa ra ∧ Box 24 (X.w.setCell ⟨w.heap.size + 1 + 1, 1, none⟩ (.string (bS (pS sa l) (k + 1)))) (w.heap.size + 1) 0 ⟨#[]⟩ ⟨#[]⟩ ∧ Below (w.heap.size + 1) W3 (X.w.setCell ⟨w.heap.size + 1 + 1, 1, none⟩ (.string (bS (pS sa l) (k + 1)))) ∧ Reads (X.w.setCell ⟨w.heap.size + 1 + 1, 1, none⟩ (.string (bS (pS sa l) (k + 1)))) (.slice (some ⟨b, off, none⟩) m cap) (ints l)) := by
        have hz := HO.out.lt
        have hbA : Below wr.heap.size wr X.w := HXX.out
        refine ⟨BX2.set1 _, ?_, ?_, (HQ.out.2.2.2.1.trans (hbA.mono (by omega))).setCell (by show w.heap.size + 1 ≤ w.heap.size + 1 + 1; omega) _, ?_⟩
        · unfold Box; rw [heap_setCell_other _ _ _ _ (by show w.heap.size ≠ w.heap.size + 1 + 1; omega)]; exact HQ.out.2.1.below hbA (by omega)
        · unfold Box; rw [heap_setCell_other _ _ _ _ (by show w.heap.size + 1 ≠ w.heap.size + 1 + 1; omega)]; exact HQ.out.2.2.1.below hbA (by omega)
        · exact reads_set HH.out.1 (by omega) HQ.out.2.2.2.2 hbA (HB1 hkm)
      clear ca0 ca1 ca2 co0 co1 co2 hne ck
      go_wp2
      go_loopw [7] (fun i wr => ∃ j : Nat, j ≤ m ∧ i = .int .i64 j ∧ Box 24 wr (w.heap.size + 1 + 1) m (bS (pS sa l) (k + 1)) (bRow (bR (pR n ra l) m k) (pR n ra l k) j) ∧ Box 24 wr w.heap.size n sa ra ∧ Box 24 wr (w.heap.size + 1) 0 ⟨#[]⟩ ⟨#[]⟩ ∧ Below (w.heap.size + 1) W3 wr ∧ Reads wr (.slice (some ⟨b, off, none⟩) m cap) (ints l)) (fun i _ => m - (intOf i).toNat)
      case atStart => exact ⟨0, Nat.zero_le _, rfl, R.out⟩
      case round =>
        clear R HQ HO BAR HK1 BX2 f1 hadd o0 o1 o2
        obtain ⟨j, hj, rfl, h1, h2, h3, h4, h5⟩ := hrel
        have HQ := Lib.hid (show _ ∧ _ ∧ _ ∧ _ ∧ _ from ⟨h1, h2, h3, h4, h5⟩)
        have HO := Lib.hid h1
        have BAR := Lib.hid h2
        clear h1 h2 h3 h4 h5
        by_cases hjm : j < m
        · obtain ⟨b', off', he, hb', hc⟩ := lies HQ.out.2.2.2.2 HH.out.1 (by omega)
          simp only [Option.some.injEq, Addr.mk.injEq] at he
          obtain ⟨rfl, rfl, -⟩ := he
          obtain ⟨y, hy⟩ : ∃ y, y = l.getD j 0 := ⟨_, rfl⟩
          have k1 := hc k hkm
          have k2 := hc j hjm
          rw [← HX.out] at k1
          rw [← hy] at k2
          have hyn : y < n := by rw [hy]; exact getD_lt HH.out.2.1 (by have := HH.out.1; omega)
          obtain ⟨q, hq⟩ : ∃ q, q = bitAt ra (x * n + y) := ⟨_, rfl⟩
          have HP2 : Hid (pR n ra l k j = q) := by rw [hq, hy, HX.out]; rfl
          have HK := Lib.hid (show _ ∧ _ from ⟨k1, k2⟩)
          have CR : Hid (∀ W, Calls Tryz.prog 87 #[.agg #[.int .i64 n, .string sa, .string ra], .int .i64 x, .int .i64 y] W fun e w' => e = .returned (.bool q) ∧ Below W.heap.size W w') := fun W => by rw [hq]; exact l1Rel_any n sa ra x y W hxn hyn hn HH.out.2.2.2
          clear hc hy hq k1 k2
          have ca : ∀ X : Wd (fun W => Hid (Below wr.heap.size wr W)), X.w.cell? ⟨w.heap.size, 0, none⟩ = some (.int .i64 n) ∧ X.w.cell? ⟨w.heap.size, 1, none⟩ = some (.string sa) ∧ X.w.cell? ⟨w.heap.size, 2, none⟩ = some (.string ra) := fun X => (BAR.out.below X.ok.out BAR.out.lt).c
          have ca0 := fun X => (ca X).1
          have ca1 := fun X => (ca X).2.1
          have ca2 := fun X => (ca X).2.2
          clear ca
          have co : ∀ X : Wd (fun W => Hid (Below wr.heap.size wr W)), X.w.cell? ⟨w.heap.size + 1 + 1, 0, none⟩ = some (.int .i64 m) ∧ X.w.cell? ⟨w.heap.size + 1 + 1, 1, none⟩ = some (.string (bS (pS sa l) (k + 1))) ∧ X.w.cell? ⟨w.heap.size + 1 + 1, 2, none⟩ = some (.string (bRow (bR (pR n ra l) m k) (pR n ra l k) j)) := fun X => (HO.out.below X.ok.out HO.out.lt).c
          have co0 := fun X => (co X).1
          have co1 := fun X => (co X).2.1
          have co2 := fun X => (co X).2.2
          clear co
          have hne : Nonempty (Wd (fun W => Hid (Below wr.heap.size wr W))) := ⟨⟨wr, Lib.hid (Below.refl _ _)⟩⟩
          have ck : ∀ X : Wd (fun W => Hid (Below wr.heap.size wr W)), X.w.cell? ⟨b, off + k, none⟩ = some (.int .i64 x) := fun X => keepCell X.ok.out HK.out.1
          have cj : ∀ X : Wd (fun W => Hid (Below wr.heap.size wr W)), X.w.cell? ⟨b, off + j, none⟩ = some (.int .i64 y) := fun X => keepCell X.ok.out HK.out.2
          have hadd : ∀ W, (Op.stringOp .add (bRow (bR (pR n ra l) m k) (pR n ra l k) j) (bit1 q)).run Tryz.prog W = .ok (.string (bRow (bR (pR n ra l) m k) (pR n ra l k) (j + 1))) W := fun W => (run_string_add_sum W _ _ (by rw [bRow_size, bR_size, bit1_size]; have : k * m ≤ 8 * 8 := Nat.mul_le_mul (by omega) h8; omega)).trans (by rw [bRow, HP2.out])
          go_wp2_with fail
          refine flow_last (S := (fun W => Hid (Below wr.heap.size wr W))) (by kernel_rfl) (by kernel_rfl) (by kernel_rfl) (by kernel_rfl) (by kernel_rfl) (Lib.hid (Below.refl _ _).drew) ?_
          simp only [List.dropLast_cons_cons, List.dropLast_singleton, List.getLast?_cons_cons, List.getLast?_singleton, Option.toList_some]
          repeat (go_big_quiet_step (first | (with_reducible refine (CR.out _).mono ?_; rintro e W ⟨rfl, hb⟩; exact ⟨rfl, Wd.on (Wd.ok _) hb⟩) | (go_at_call 58; with_reducible refine (l1Bit_at _ _).mono ?_; rintro e W ⟨rfl, rfl⟩; exact ⟨rfl, _, rfl⟩)))
          refine wpQuiet_nil ?_
          rintro _ ⟨X, rfl⟩
          have HXX := Lib.hid X.ok.out
          have BX2 := HO.out.below HXX.out HO.out.lt
          have f1 := BX2.free 2
          obtain ⟨o0, o1, o2⟩ := BX2.c
          have R : Hid (Box 24 (X.w.setCell ⟨w.heap.size + 1 + 1, 2, none⟩ (.string (bRow (bR (pR n ra l) m k) (pR n ra l k) (j + 1)))) (w.heap.size + 1 + 1) m (bS (pS sa l) (k + 1)) (bRow (bR (pR n ra l) m k) (pR n ra l k) (j + 1)) ∧ Box 24 (X.w.setCell ⟨w.heap.size + 1 + 1, 2, none⟩ (.string (bRow (bR (pR n ra l) m k) (pR n ra l k) (j + 1)))) w.heap.size n sa ra ∧ Box 24 (X.w.setCell ⟨w.heap.size + 1 + 1, 2, none⟩ (.string (bRow (bR (pR n ra l) m k) (pR n ra l k) (j + 1)))) (w.heap.size + 1) 0 ⟨#[]⟩ ⟨#[]⟩ ∧ Below (w.heap.size + 1) W3 (X.w.setCell ⟨w.heap.size + 1 + 1, 2, none⟩ (.string (bRow (bR (pR n ra l) m k) (pR n ra l k) (j + 1)))) ∧ Reads (X.w.setCell ⟨w.heap.size + 1 + 1, 2, none⟩ (.string (bRow (bR (pR n ra l) m k) (pR n ra l k) (j + 1)))) (.slice (some ⟨b, off, none⟩) m cap) (ints l)) := by
            have hz := HO.out.lt
            have hbA : Below wr.heap.size wr X.w := HXX.out
            refine ⟨BX2.set2 _, ?_, ?_, (HQ.out.2.2.2.1.trans (hbA.mono (by omega))).setCell (by show w.heap.size + 1 ≤ w.heap.size + 1 + 1; omega) _, ?_⟩
            · unfold Box; rw [heap_setCell_other _ _ _ _ (by show w.heap.size ≠ w.heap.size + 1 + 1; omega)]; exact HQ.out.2.1.below hbA (by omega)
            · unfold Box; rw [heap_setCell_other _ _ _ _ (by show w.heap.size + 1 ≠ w.heap.size + 1 + 1; omega)]; exact HQ.out.2.2.1.below hbA (by omega)
            · exact reads_set HH.out.1 (by omega) HQ.out.2.2.2.2 hbA (HB1 hkm)
          clear ca0 ca1 ca2 co0 co1 co2 hne ck cj
          go_wp2
          go_roundw
          case rel => exact ⟨j + 1, by omega, by go_num, R.out⟩
          case measure => simp [intOf]; omega
        · obtain rfl : m = j := by omega
          go_wp2
          go_roundw
          case rel => exact ⟨k + 1, by omega, by go_num, HQ.out⟩
          case measure => simp [intOf]; omega
    · obtain rfl : m = k := by omega
      obtain ⟨o0, o1, o2⟩ := HO.out.c
      obtain ⟨z0, z1, z2⟩ := HQ.out.2.2.1.c
      have g0 := HQ.out.2.2.1.free 0
      have g1 := HQ.out.2.2.1.free 1
      have g2 := HQ.out.2.2.1.free 2
      have HF := Lib.hid (((HQ.out.2.2.1.set0 m).set1 (bS (pS sa l) m)).set2 (bR (pR n ra l) m m)).c
      have R := Lib.hid ((((AW.out.trans (HQ.out.2.2.2.1.mono (by omega))).setCell (p := ⟨w.heap.size + 1, 0, none⟩) (by show w.heap.size ≤ w.heap.size + 1; omega) (.int .i64 m)).setCell (p := ⟨w.heap.size + 1, 1, none⟩) (by show w.heap.size ≤ w.heap.size + 1; omega) (.string (bS (pS sa l) m))).setCell (p := ⟨w.heap.size + 1, 2, none⟩) (by show w.heap.size ≤ w.heap.size + 1; omega) (.string (bR (pR n ra l) m m)))
      go_wp2
      exact bodyPost_ret (v := .agg #[.int .i64 m, .string (bS (pS sa l) m), .string (bR (pR n ra l) m m)]) (by simp [results, Tryz.results59, go_sem, HF.out.1, HF.out.2.1, HF.out.2.2]) rfl ⟨rfl, R.out⟩
end Go.Proofs.YtpcnoiigbmiejaaGreatDoor.part
