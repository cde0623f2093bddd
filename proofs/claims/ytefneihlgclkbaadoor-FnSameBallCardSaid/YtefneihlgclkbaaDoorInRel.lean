/- InRel of the program at a valid structure's elements. -/
import Derived.Test.YtefneihlgclkbaaDoorNear
namespace Go.Proofs.YtefneihlgclkbaaDoor.inrel
set_option linter.unusedVariables false
set_option linter.unusedSimpArgs false
open Go.ChangeShapes Go.WideShapes Go.ChangeAt Go.RowKit
open Go.Proofs.YtefneihlgclkbaaDoor.lib Go.Proofs.YtefneihlgclkbaaDoor.st Go.Proofs.YtefneihlgclkbaaDoor.base Go.Proofs.YtefneihlgclkbaaDoor.near
set_option maxHeartbeats 800000 in
theorem implInRel_any (N : Nat) (s r : ByteArray) (X Y : Nat) (w : World) (hv : validB N s r = true) (hX : X < N) (hY : Y < N) (hs : s.size ≤ 100) (hr : r.size ≤ 100) :
    Calls Tryd.prog 15 #[.agg #[.int .i64 N, .string s, .string r], .int .i64 X, .int .i64 Y] w fun e w' => e = .returned (.bool (bitAt r (X * N + Y))) ∧ Below w.heap.size w w' := by
  have BX : Hid (Box 24 (w.alloc (.cells #[.int .i64 N, .string s, .string r] 24)) w.heap.size N s r) := Box.new _ w _ rfl N s r
  have AW : Hid (Below w.heap.size w (w.alloc (.cells #[.int .i64 N, .string s, .string r] 24))) := (Below.refl _ _).alloc (Nat.le_refl _) _
  have EX : Hid (elemB N s r X = true ∧ elemB N s r Y = true) := ⟨elemB_iff.2 ⟨hv, by omega, by omega⟩, elemB_iff.2 ⟨hv, by omega, by omega⟩⟩
  obtain ⟨N', X', e1, e2, hlt, h8, hsN, hrN⟩ := valid_nat EX.out.1
  obtain rfl : N = N' := by omega
  clear hv e1 e2
  go_enter Tryd.func15, Tryd.ntmps15
  go_wp2_with fail
  refine (hasElement_any N s r X _ (by omega) (by omega)).mono ?_
  rintro e w1 ⟨rfl, hw⟩
  rw [EX.out.1]
  have AW1 : Hid (Below w.heap.size w w1) := AW.out.trans (hw.mono (by simp))
  have BX1 := Lib.hid (BX.out.below hw (by simp))
  obtain ⟨c0, c1, c2⟩ := BX1.out.c
  clear hw
  go_wp2_with fail
  refine (hasElement_any N s r Y _ (by omega) (by omega)).mono ?_
  rintro e w2 ⟨rfl, hw⟩
  rw [EX.out.2]
  have AW2 : Hid (Below w.heap.size w w2) := AW1.out.trans (hw.mono AW1.out.size)
  have BX2 := Lib.hid (BX1.out.below hw BX1.out.lt)
  clear hw c0 c1 c2
  obtain ⟨c0, c1, c2⟩ := BX2.out.c
  go_wp2_with fail
  refine (inRel_any N s r X Y _ hX hY h8 hrN).mono ?_
  rintro e w3 ⟨rfl, hw⟩
  have AW3 : Hid (Below w.heap.size w w3) := AW2.out.trans (hw.mono AW2.out.size)
  clear hw c0 c1 c2
  go_wp2
  go_ret
  exact ⟨rfl, AW3.out⟩
theorem implValid_any (n : Int) (s r : ByteArray) (w : World) (hs : s.size ≤ 9223372036854775807) (hr : r.size ≤ 9223372036854775807) :
    Calls Tryd.prog 36 #[.agg #[.int .i64 n, .string s, .string r]] w fun e w' => e = .returned (.bool (validB n s r)) ∧ Below w.heap.size w w' := by
  have AW : Hid (Below w.heap.size w (w.alloc (.cells #[.int .i64 n, .string s, .string r] 24))) := (Below.refl _ _).alloc (Nat.le_refl _) _
  go_enter Tryd.func36, Tryd.ntmps36
  go_wp2_with fail
  refine (isStructure_any n s r _ hs hr).mono ?_
  rintro e w1 ⟨rfl, hw⟩
  have AW1 : Hid (Below w.heap.size w w1) := AW.out.trans (hw.mono (by simp))
  clear hw
  go_wp2
  go_ret
  exact ⟨rfl, AW1.out⟩
end Go.Proofs.YtefneihlgclkbaaDoor.inrel
