/- SameBall of the program. -/
import Derived.Test.YtlnmebjbinmeiaaDoorSameI
namespace Go.Proofs.YtlnmebjbinmeiaaDoor.same
set_option linter.unusedVariables false
set_option linter.unusedSimpArgs false
open Go.ChangeShapes Go.WideShapes Go.ChangeAt Go.RowKit
open Go.Proofs.YtlnmebjbinmeiaaDoor.lib Go.Proofs.YtlnmebjbinmeiaaDoor.st Go.Proofs.YtlnmebjbinmeiaaDoor.base Go.Proofs.YtlnmebjbinmeiaaDoor.make Go.Proofs.YtlnmebjbinmeiaaDoor.near Go.Proofs.YtlnmebjbinmeiaaDoor.dist Go.Proofs.YtlnmebjbinmeiaaDoor.ball

/-- what SameBall returns -/
noncomputable def sameR (n : Int) (sa ra : ByteArray) (x m : Int) (sb rb : ByteArray) (y rad : Int) : Bool := elemB n sa ra x && (elemB m sb rb y && (basic.inB rad 0 100 && sameB n.toNat sa ra x.toNat m.toNat sb rb y.toNat rad))

set_option maxHeartbeats 1600000 in
theorem implSameBall_any (n : Int) (sa ra : ByteArray) (x m : Int) (sb rb : ByteArray) (y rad : Int) (w : World) (hsa : sa.size ≤ 9223372036854775807) (hra : ra.size ≤ 9223372036854775807) (hsb : sb.size ≤ 9223372036854775807) (hrb : rb.size ≤ 9223372036854775807) :
    Calls Tryd.prog 28 #[.agg #[.int .i64 n, .string sa, .string ra], .int .i64 x, .agg #[.int .i64 m, .string sb, .string rb], .int .i64 y, .int .i64 rad] w fun e w' => e = .returned (.bool (sameR n sa ra x m sb rb y rad)) ∧ Below w.heap.size w w' := by
  have B1 : Hid (Box 25 (w.alloc (.cells #[.int .i64 n, .string sa, .string ra] 25)) w.heap.size n sa ra) := Box.new _ w _ rfl _ _ _
  obtain ⟨W0, hW0⟩ : ∃ W0, W0 = (w.alloc (.cells #[.int .i64 n, .string sa, .string ra] 25)).alloc (.cells #[.int .i64 m, .string sb, .string rb] 25) := ⟨_, rfl⟩
  have BA : Hid (Box 25 W0 w.heap.size n sa ra) := by rw [hW0]; exact B1.out.below ((Below.refl _ _).alloc (Nat.le_refl _) _) B1.out.lt
  have BB : Hid (Box 25 W0 (w.heap.size + 1) m sb rb) := by rw [hW0]; exact Box.new _ _ _ (by simp) _ _ _
  have AW : Hid (Below w.heap.size w W0) := by rw [hW0]; exact ((Below.refl _ _).alloc (Nat.le_refl _) _).alloc (by simp) _
  have HW := Lib.hid hW0
  clear hW0 B1
  go_enter Tryd.func28, Tryd.ntmps28
  go_wp2_with fail
  rw [← HW.out]
  clear HW
  refine (hasElement_any n sa ra x _ (by omega) (by omega)).mono ?_
  rintro e w1 ⟨rfl, hw⟩
  have AW1 : Hid (Below w.heap.size w w1) := AW.out.trans (hw.mono AW.out.size)
  have BA1 := Lib.hid (BA.out.below hw BA.out.lt)
  have BB1 := Lib.hid (BB.out.below hw BB.out.lt)
  clear hw AW BA BB
  cases h1 : elemB n sa ra x with
  | false =>
    have HE : Hid (sameR n sa ra x m sb rb y rad = false) := by rw [Hid, sameR, h1]; rfl
    clear h1
    go_wp2
    go_ret
    exact ⟨by rw [HE.out]; rfl, AW1.out⟩
  | true =>
  obtain ⟨b0, b1, b2⟩ := BB1.out.c
  go_wp2_with fail
  refine (hasElement_any m sb rb y _ (by omega) (by omega)).mono ?_
  rintro e w2 ⟨rfl, hw⟩
  have AW2 : Hid (Below w.heap.size w w2) := AW1.out.trans (hw.mono AW1.out.size)
  have BA2 := Lib.hid (BA1.out.below hw BA1.out.lt)
  have BB2 := Lib.hid (BB1.out.below hw BB1.out.lt)
  clear hw AW1 BA1 BB1 b0 b1 b2
  cases h2 : elemB m sb rb y with
  | false =>
    have HE : Hid (sameR n sa ra x m sb rb y rad = false) := by rw [Hid, sameR, h1, h2]; rfl
    clear h1 h2
    go_wp2
    go_ret
    exact ⟨by rw [HE.out]; rfl, AW2.out⟩
  | true =>
  go_wp2_with fail
  refine (isRadius_any rad _).mono ?_
  rintro e w3 ⟨rfl, rfl⟩
  cases h3 : basic.inB rad 0 100 with
  | false =>
    have HE : Hid (sameR n sa ra x m sb rb y rad = false) := by rw [Hid, sameR, h1, h2, h3]; rfl
    clear h1 h2 h3
    go_wp2
    go_ret
    exact ⟨by rw [HE.out]; rfl, AW2.out⟩
  | true =>
  obtain ⟨N, X, rfl, rfl, hX, hN, hsN, hrN⟩ := valid_nat h1
  obtain ⟨M, Y, rfl, rfl, hY, hM, hsM, hrM⟩ := valid_nat h2
  have HE : Hid (sameR N sa ra X M sb rb Y rad = sameB N sa ra X M sb rb Y rad) := by rw [Hid, sameR, h1, h2, h3]; rfl
  have HS := Lib.hid (show _ ∧ _ ∧ _ ∧ _ from ⟨hsN, hrN, hsM, hrM⟩)
  clear h1 h2 h3 hsN hrN hsM hrM
  obtain ⟨a0, a1, a2⟩ := BA2.out.c
  obtain ⟨b0, b1, b2⟩ := BB2.out.c
  go_wp2_with fail
  refine (sameBall_any N sa ra X M sb rb Y rad _ hX hN ⟨HS.out.1, HS.out.2.1⟩ hY hM ⟨HS.out.2.2.1, HS.out.2.2.2⟩).mono ?_
  rintro e w4 ⟨rfl, hw⟩
  have AW4 : Hid (Below w.heap.size w w4) := AW2.out.trans (hw.mono AW2.out.size)
  clear hw a0 a1 a2 b0 b1 b2
  go_wp2
  go_ret
  exact ⟨by rw [HE.out]; rfl, AW4.out⟩
end Go.Proofs.YtlnmebjbinmeiaaDoor.same
