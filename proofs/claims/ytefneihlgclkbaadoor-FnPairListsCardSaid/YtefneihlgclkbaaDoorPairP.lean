/- PairPlace, in the program and in the reference. -/
import Derived.Test.YtefneihlgclkbaaDoorRows
import Derived.Test.YtefneihlgclkbaaDoorBase
namespace Go.Proofs.YtefneihlgclkbaaDoor.pairP
set_option linter.unusedVariables false
set_option linter.unusedSimpArgs false
open Go.ChangeShapes Go.WideShapes Go.ChangeAt Go.RowKit
open Go.Proofs.YtefneihlgclkbaaDoor.lib Go.Proofs.YtefneihlgclkbaaDoor.st Go.Proofs.YtefneihlgclkbaaDoor.base

def place (n : Int) (s r : ByteArray) (m : Int) (t q : ByteArray) (x y : Int) : Int := if (elemB n s r x && elemB m t q y) = true then x * m + y else -1

set_option maxHeartbeats 400000 in
theorem impl_PairPlace_any (n : Int) (s r : ByteArray) (m : Int) (t q : ByteArray) (x y : Int) (w : World) (hn : (Lit.int .i64 n).wf = true) (hm : (Lit.int .i64 m).wf = true) (hs : s.size ≤ 9223372036854775807) (hr : r.size ≤ 9223372036854775807) (ht : t.size ≤ 9223372036854775807) (hq : q.size ≤ 9223372036854775807) :
    Calls Tryd.prog 13 #[.agg #[.int .i64 n, .string s, .string r], .agg #[.int .i64 m, .string t, .string q], .int .i64 x, .int .i64 y] w fun e w' => e = .returned (.int .i64 (place n s r m t q x y)) ∧ Below w.heap.size w w' := by
  have BX : Hid (Box 24 ((w.alloc (.cells #[.int .i64 n, .string s, .string r] 24)).alloc (.cells #[.int .i64 m, .string t, .string q] 24)) (w.heap.size + 1) m t q) := Box.new _ _ _ (by simp) m t q
  have AW : Hid (Below w.heap.size w ((w.alloc (.cells #[.int .i64 n, .string s, .string r] 24)).alloc (.cells #[.int .i64 m, .string t, .string q] 24))) := ((Below.refl _ _).alloc (Nat.le_refl _) _).alloc (by simp) _
  have HN := Lib.hid hn
  have HM := Lib.hid hm
  clear hn hm
  go_enter Tryd.func13, Tryd.ntmps13
  go_wp2_with fail
  refine (hasElement_any n s r x _  hs hr).mono ?_
  rintro e w1 ⟨rfl, hw⟩
  have AW1 : Hid (Below w.heap.size w w1) := AW.out.trans (hw.mono (by simp only [World.size_alloc]; omega))
  have BX1 := Lib.hid (BX.out.below hw (by simp))
  obtain ⟨c0, c1, c2⟩ := BX1.out.c
  clear hw AW BX
  cases hb : elemB n s r x with
  | false =>
    have HE : Hid (place n s r m t q x y = -1) := by rw [Hid, place, hb]; rfl
    clear hb
    go_wp2
    go_ret
    exact ⟨by rw [HE.out]; rfl, AW1.out⟩
  | true =>
    have HX := Lib.hid (elemB_iff.1 hb).2
    have HX2 := Lib.hid (validB_iff.1 (elemB_iff.1 hb).1).1
    have HBB := Lib.hid hb
    clear hb
    go_wp2_with fail
    refine (hasElement_any m t q y _  ht hq).mono ?_
    rintro e w2 ⟨rfl, hw⟩
    have AW2 : Hid (Below w.heap.size w w2) := AW1.out.trans (hw.mono AW1.out.size)
    have BX2 := Lib.hid (BX1.out.below hw (BX1.out.lt))
    clear c0 c1 c2
    obtain ⟨c0, c1, c2⟩ := BX2.out.c
    clear hw AW1 BX1
    cases hb : elemB m t q y with
    | false =>
      have HE : Hid (place n s r m t q x y = -1) := by rw [Hid, place, hb, Bool.and_false]; rfl
      clear hb
      go_wp2
      go_ret
      exact ⟨by rw [HE.out]; rfl, AW2.out⟩
    | true =>
      have HE : Hid (place n s r m t q x y = x * m + y) := by rw [Hid, place, HBB.out, hb]; rfl
      have hy := (elemB_iff.1 hb).2
      have hv := (validB_iff.1 (elemB_iff.1 hb).1).1
      have hx := HX.out
      have hx2 := HX2.out
      have hmul : 0 ≤ x * m ∧ x * m ≤ 64 := by
        have a1 : x * m ≤ x * 8 := Int.mul_le_mul_of_nonneg_left hv.2 hx.1
        have a2 : 0 ≤ x * m := Int.mul_nonneg hx.1 (by omega)
        omega
      clear hb hx hx2
      go_wp2
      go_ret
      exact ⟨by rw [HE.out]; rfl, AW2.out⟩

theorem implE (n : Int) (s r : ByteArray) (m : Int) (t q : ByteArray) (x y : Int) (hn : (Lit.int .i64 n).wf = true) (hm : (Lit.int .i64 m).wf = true) (_ : (Lit.int .i64 x).wf = true) (_ : (Lit.int .i64 y).wf = true) : s.size + r.size + (t.size + q.size) ≤ 1048576 → ∀ (w : World),
    Calls Tryd.prog 13 #[.agg #[.int .i64 n, .string s, .string r], .agg #[.int .i64 m, .string t, .string q], .int .i64 x, .int .i64 y] w fun e w' => e = .returned (.int .i64 (place n s r m t q x y)) ∧ Below w.heap.size w w' :=
  fun h w => impl_PairPlace_any n s r m t q x y w hn hm (by omega) (by omega) (by omega) (by omega)
end Go.Proofs.YtefneihlgclkbaaDoor.pairP
