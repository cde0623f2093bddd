/- InSet of the program at a valid structure's elements. -/
import Derived.Test.YtefneihlgclkbaaDoorNear
namespace Go.Proofs.YtefneihlgclkbaaDoor.inset
set_option linter.unusedVariables false
set_option linter.unusedSimpArgs false
open Go.ChangeShapes Go.WideShapes Go.ChangeAt Go.RowKit
open Go.Proofs.YtefneihlgclkbaaDoor.lib Go.Proofs.YtefneihlgclkbaaDoor.st Go.Proofs.YtefneihlgclkbaaDoor.base Go.Proofs.YtefneihlgclkbaaDoor.near
set_option maxHeartbeats 800000 in
theorem implInSet_any (N : Nat) (s r : ByteArray) (X : Nat) (w : World) (hv : validB N s r = true) (hX : X < N) (hs : s.size ≤ 100) (hr : r.size ≤ 100) :
    Calls Tryd.prog 14 #[.agg #[.int .i64 N, .string s, .string r], .int .i64 X] w fun e w' => e = .returned (.bool (bitAt s X)) ∧ Below w.heap.size w w' := by
  have BX : Hid (Box 24 (w.alloc (.cells #[.int .i64 N, .string s, .string r] 24)) w.heap.size N s r) := Box.new _ w _ rfl N s r
  have AW : Hid (Below w.heap.size w (w.alloc (.cells #[.int .i64 N, .string s, .string r] 24))) := (Below.refl _ _).alloc (Nat.le_refl _) _
  have EX : Hid (elemB N s r X = true) := elemB_iff.2 ⟨hv, by omega, by omega⟩
  obtain ⟨N', X', e1, e2, hlt, h8, hsN, hrN⟩ := valid_nat EX.out
  obtain rfl : N = N' := by omega
  clear hv e1 e2
  go_enter Tryd.func14, Tryd.ntmps14
  go_wp2_with fail
  refine (hasElement_any N s r X _ (by omega) (by omega)).mono ?_
  rintro e w1 ⟨rfl, hw⟩
  rw [EX.out]
  have AW1 : Hid (Below w.heap.size w w1) := AW.out.trans (hw.mono (by simp))
  have BX1 := Lib.hid (BX.out.below hw (by simp))
  obtain ⟨c0, c1, c2⟩ := BX1.out.c
  clear hw
  go_wp2_with fail
  refine (inSet_any N s r X _ (by omega) (by omega)).mono ?_
  rintro e w3 ⟨rfl, hw⟩
  have AW3 : Hid (Below w.heap.size w w3) := AW1.out.trans (hw.mono AW1.out.size)
  clear hw c0 c1 c2
  go_wp2
  go_ret
  exact ⟨rfl, AW3.out⟩
end Go.Proofs.YtefneihlgclkbaaDoor.inset
