/- BallOf in the program and in the reference. -/
import Derived.Test.YtefneihlgclkbaaDoorPkG
namespace Go.Proofs.YtefneihlgclkbaaDoor.ball
set_option linter.unusedVariables false
set_option linter.unusedSimpArgs false
open Go.ChangeShapes Go.WideShapes Go.ChangeAt Go.RowKit
open Go.Proofs.YtefneihlgclkbaaDoor.lib Go.Proofs.YtefneihlgclkbaaDoor.st Go.Proofs.YtefneihlgclkbaaDoor.base Go.Proofs.YtefneihlgclkbaaDoor.near Go.Proofs.YtefneihlgclkbaaDoor.dist Go.Proofs.YtefneihlgclkbaaDoor.ins

/-- what BallOf returns -/
noncomputable def ballR (n : Int) (s r : ByteArray) (x rad : Int) : List Int := if elemB n s r x = true then (if basic.inB rad 0 100 = true then ballTo n.toNat r x.toNat rad n.toNat else []) else []

theorem l9Radius_any (d : Int) (w : World) : Calls Tryd.prog 83 #[.int .i64 d] w fun e w' => e = .returned (.bool (basic.inB d 0 100)) ∧ w = w' := by
  go_enter Tryd.func83, Tryd.ntmps83
  go_wp2_with fail
  refine (basic.l1In_any _ _ _ _).mono ?_
  rintro e w1 ⟨rfl, rfl⟩
  go_wp2
  go_ret
  exact ⟨rfl, rfl⟩

set_option maxHeartbeats 800000 in
theorem implBall_any (n : Int) (s r : ByteArray) (x rad : Int) (w : World) (hs : s.size ≤ 9223372036854775807) (hr : r.size ≤ 9223372036854775807) :
    Calls Tryd.prog 38 #[.agg #[.int .i64 n, .string s, .string r], .int .i64 x, .int .i64 rad] w fun e w' => ∃ v, e = .returned v ∧ OwnI 3 w' w.heap.size v (ballR n s r x rad) ∧ Below w.heap.size w w' := by
  have BX : Hid (Box 24 (w.alloc (.cells #[.int .i64 n, .string s, .string r] 24)) w.heap.size n s r) := Box.new _ w _ rfl n s r
  have AW : Hid (Below w.heap.size w (w.alloc (.cells #[.int .i64 n, .string s, .string r] 24))) := (Below.refl _ _).alloc (Nat.le_refl _) _
  go_enter Tryd.func38, Tryd.ntmps38
  go_wp2_with fail
  refine (hasElement_any n s r x _ hs hr).mono ?_
  rintro e w1 ⟨rfl, hw⟩
  have AW1 : Hid (Below w.heap.size w w1) := AW.out.trans (hw.mono (by simp))
  obtain ⟨c0, c1, c2⟩ := (BX.out.below hw (by simp)).c
  clear hw
  cases hb : elemB n s r x with
  | false =>
    have HE : Hid (ballR n s r x rad = []) := by rw [Hid, ballR, hb]; rfl
    clear hb
    go_wp2
    go_ret
    exact ⟨_, rfl, by rw [HE.out]; exact OwnI.nil _ _ _, AW1.out⟩
  | true =>
    go_wp2_with fail
    refine (isRadius_any rad _).mono ?_
    rintro e w1 ⟨rfl, rfl⟩
    cases hib : basic.inB rad 0 100 with
    | false =>
      have HE : Hid (ballR n s r x rad = []) := by rw [Hid, ballR, hb, hib]; rfl
      clear hb hib
      go_wp2
      go_ret
      exact ⟨_, rfl, by rw [HE.out]; exact OwnI.nil _ _ _, AW1.out⟩
    | true =>
      obtain ⟨N, X, rfl, rfl, hX, hN, hsN, hrN⟩ := valid_nat hb
      have HE : Hid (ballR N s r X rad = ballTo N r X rad N) := by rw [Hid, ballR, hb, hib]; rfl
      have HH := Lib.hid hrN
      clear hb hib hsN hrN
      go_wp2_with fail
      refine (ballOf_any N s r X rad _ hX hN HH.out).mono ?_
      rintro e w2 ⟨v, rfl, ho, hw⟩
      have R : Hid (OwnI 3 w2 w.heap.size v (ballTo N r X rad N) ∧ Below w.heap.size w w2) := ⟨ho.mono AW1.out.size, AW1.out.trans (hw.mono AW1.out.size)⟩
      clear ho hw
      go_wp2
      go_ret
      exact ⟨_, rfl, by rw [HE.out]; exact R.out.1, R.out.2⟩

theorem len0 (n : Int) (s r : ByteArray) (x rad : Int) : s.size + r.size ≤ 1048576 → (ballR n s r x rad).length ≤ 4194304 := by
  intro _; unfold ballR; split
  · rename_i h
    obtain ⟨N, X, rfl, rfl, hX, hN, _⟩ := valid_nat h
    split
    · have := ballTo_len N r X rad N
      simp; omega
    · simp
  · simp
theorem implE (n : Int) (s r : ByteArray) (x rad : Int) (hn : (Lit.int .i64 n).wf = true) (_ : (Lit.int .i64 x).wf = true) (_ : (Lit.int .i64 rad).wf = true) : s.size + r.size ≤ 1048576 → ∀ (w : World),
    Calls Tryd.prog 38 #[.agg #[.int .i64 n, .string s, .string r], .int .i64 x, .int .i64 rad] w fun e w' => ∃ v0, e = .returned (v0) ∧ OwnI 3 w' w.heap.size v0 (ballR n s r x rad) ∧ Below w.heap.size w w' :=
  fun h w => implBall_any n s r x rad w (by omega) (by omega)
end Go.Proofs.YtefneihlgclkbaaDoor.ball
