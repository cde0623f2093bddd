/- DistanceOf in the program and in the reference. -/
import Derived.Test.YtlnmebjbinmeiaaDoorDist
import Derived.Test.YtlnmebjbinmeiaaDoorDistS
namespace Go.Proofs.YtlnmebjbinmeiaaDoor.dist
set_option linter.unusedVariables false
set_option linter.unusedSimpArgs false
open Go.ChangeShapes Go.WideShapes Go.ChangeAt Go.RowKit
open Go.Proofs.YtlnmebjbinmeiaaDoor.lib Go.Proofs.YtlnmebjbinmeiaaDoor.st Go.Proofs.YtlnmebjbinmeiaaDoor.base Go.Proofs.YtlnmebjbinmeiaaDoor.near Go.Proofs.YtlnmebjbinmeiaaDoor.que

/-- what DistanceOf returns -/
noncomputable def distR (n : Int) (s r : ByteArray) (x y : Int) : Int := if elemB n s r x = true then (if elemB n s r y = true then (distL (adj n.toNat r) n.toNat x.toNat).getD y.toNat 0 else -2) else -2
theorem distR_eq {N X Y : Nat} {s r : ByteArray} {out : List Int} (hx : elemB N s r X = true) (hy : elemB N s r Y = true) (hX : X < N) (h : IsDist (adj N r) N X out) : distR N s r X Y = out.getD Y 0 := by
  unfold distR
  rw [if_pos hx, if_pos hy]
  simp only [Int.toNat_natCast]
  rw [distL_eq hX h]

set_option maxHeartbeats 800000 in
theorem implDistanceOf_any (n : Int) (s r : ByteArray) (x y : Int) (w : World) (hs : s.size ≤ 9223372036854775807) (hr : r.size ≤ 9223372036854775807) :
    Calls Tryd.prog 45 #[.agg #[.int .i64 n, .string s, .string r], .int .i64 x, .int .i64 y] w fun e w' => e = .returned (.int .i64 (distR n s r x y)) ∧ Below w.heap.size w w' := by
  have BX : Hid (Box 25 (w.alloc (.cells #[.int .i64 n, .string s, .string r] 25)) w.heap.size n s r) := Box.new _ w _ rfl n s r
  have AW : Hid (Below w.heap.size w (w.alloc (.cells #[.int .i64 n, .string s, .string r] 25))) := (Below.refl _ _).alloc (Nat.le_refl _) _
  go_enter Tryd.func45, Tryd.ntmps45
  go_wp2_with fail
  refine (hasElement_any n s r x _ hs hr).mono ?_
  rintro e w1 ⟨rfl, hw⟩
  have AW1 : Hid (Below w.heap.size w w1) := AW.out.trans (hw.mono (by simp))
  obtain ⟨c0, c1, c2⟩ := (BX.out.below hw (by simp)).c
  have BX1 := Lib.hid (BX.out.below hw (by simp))
  clear hw
  cases hb : elemB n s r x with
  | false =>
    have HE : Hid (distR n s r x y = -2) := by rw [Hid, distR, hb]; rfl
    clear hb
    go_wp2
    go_ret
    exact ⟨by rw [HE.out]; rfl, AW1.out⟩
  | true =>
    go_wp2_with fail
    refine (hasElement_any n s r y _ hs hr).mono ?_
    rintro e w2 ⟨rfl, hw⟩
    have AW2 : Hid (Below w.heap.size w w2) := AW1.out.trans (hw.mono AW1.out.size)
    clear c0 c1 c2
    obtain ⟨c0, c1, c2⟩ := (BX1.out.below hw BX1.out.lt).c
    have BX2 := Lib.hid (BX1.out.below hw BX1.out.lt)
    clear hw BX1 AW1
    cases hb2 : elemB n s r y with
    | false =>
      have HE : Hid (distR n s r x y = -2) := by rw [Hid, distR, hb, hb2]; rfl
      clear hb hb2
      go_wp2
      go_ret
      exact ⟨by rw [HE.out]; rfl, AW2.out⟩
    | true =>
      obtain ⟨N, X, rfl, rfl, hX, hN, hsN, hrN⟩ := valid_nat hb
      obtain ⟨Y, rfl, hY⟩ : ∃ Y : Nat, y = Y ∧ Y < N := by
        have h := (elemB_iff.1 hb2).2
        exact ⟨y.toNat, by omega, by omega⟩
      have HBB := Lib.hid (show _ ∧ _ ∧ _ ∧ _ from ⟨hb, hb2, hsN, hrN⟩)
      clear hb hb2 hsN hrN
      go_wp2_with fail
      refine (distancesFrom_any N s r X _ hX hN HBB.out.2.2.2).mono ?_
      rintro e w3 ⟨v, out, rfl, ho, hd, hw⟩
      have hl := hd.len
      rcases ho.shape with ⟨_, h0⟩ | ⟨go, co, rfl⟩
      · rw [h0] at hl; simp at hl; omega
      have hc := ho.cell Y (by omega)
      rw [hl] at ho ⊢
      have HE : Hid (distR N s r X Y = out.getD Y 0) := distR_eq HBB.out.1 HBB.out.2.1 hX hd
      rw [← HE.out] at hc
      have AW3 : Hid (Below w.heap.size w w3) := AW2.out.trans (hw.mono AW2.out.size)
      clear ho hd hw hl HE
      go_wp2
      go_ret
      exact ⟨rfl, AW3.out⟩

set_option maxHeartbeats 800000 in
theorem specDistanceOf_any (n : Int) (s r : ByteArray) (x y : Int) (w : World) (hwf : (Lit.int .i64 n).wf = true) (hs : s.size ≤ 9223372036854775807) (hr : r.size ≤ 9223372036854775807) :
    Calls Tryd.prog 46 #[.agg #[.int .i64 n, .string s, .string r], .int .i64 x, .int .i64 y] w fun e w' => e = .returned (.int .i64 (distR n s r x y)) ∧ Below w.heap.size w w' := by
  have BX : Hid (Box 25 (w.alloc (.cells #[.int .i64 n, .string s, .string r] 25)) w.heap.size n s r) := Box.new _ w _ rfl n s r
  have AW : Hid (Below w.heap.size w (w.alloc (.cells #[.int .i64 n, .string s, .string r] 25))) := (Below.refl _ _).alloc (Nat.le_refl _) _
  have HWF := Lib.hid hwf
  clear hwf
  go_enter Tryd.func46, Tryd.ntmps46
  go_wp2_with fail
  refine (l9Element_any n s r x _ HWF.out hs hr).mono ?_
  rintro e w1 ⟨rfl, hw⟩
  have AW1 : Hid (Below w.heap.size w w1) := AW.out.trans (hw.mono (by simp))
  obtain ⟨c0, c1, c2⟩ := (BX.out.below hw (by simp)).c
  have BX1 := Lib.hid (BX.out.below hw (by simp))
  clear hw
  cases hb : elemB n s r x with
  | false =>
    have HE : Hid (distR n s r x y = -2) := by rw [Hid, distR, hb]; rfl
    clear hb
    go_wp2
    go_ret
    exact ⟨by rw [HE.out]; rfl, AW1.out⟩
  | true =>
    go_wp2_with fail
    refine (l9Element_any n s r y _ HWF.out hs hr).mono ?_
    rintro e w2 ⟨rfl, hw⟩
    have AW2 : Hid (Below w.heap.size w w2) := AW1.out.trans (hw.mono AW1.out.size)
    clear c0 c1 c2
    obtain ⟨c0, c1, c2⟩ := (BX1.out.below hw BX1.out.lt).c
    have BX2 := Lib.hid (BX1.out.below hw BX1.out.lt)
    clear hw BX1 AW1
    cases hb2 : elemB n s r y with
    | false =>
      have HE : Hid (distR n s r x y = -2) := by rw [Hid, distR, hb, hb2]; rfl
      clear hb hb2
      go_wp2
      go_ret
      exact ⟨by rw [HE.out]; rfl, AW2.out⟩
    | true =>
      obtain ⟨N, X, rfl, rfl, hX, hN, hsN, hrN⟩ := valid_nat hb
      obtain ⟨Y, rfl, hY⟩ : ∃ Y : Nat, y = Y ∧ Y < N := by
        have h := (elemB_iff.1 hb2).2
        exact ⟨y.toNat, by omega, by omega⟩
      have HBB := Lib.hid (show _ ∧ _ ∧ _ ∧ _ from ⟨hb, hb2, hsN, hrN⟩)
      clear hb hb2 hsN hrN
      go_wp2_with fail
      refine (l9Distances_any N s r X _ hX hN HBB.out.2.2.2).mono ?_
      rintro e w3 ⟨v, out, rfl, ho, hd, hw⟩
      have hl := hd.len
      rcases ho.shape with ⟨_, h0⟩ | ⟨go, co, rfl⟩
      · rw [h0] at hl; simp at hl; omega
      have hc := ho.cell Y (by omega)
      rw [hl] at ho ⊢
      have HE : Hid (distR N s r X Y = out.getD Y 0) := distR_eq HBB.out.1 HBB.out.2.1 hX hd
      rw [← HE.out] at hc
      have AW3 : Hid (Below w.heap.size w w3) := AW2.out.trans (hw.mono AW2.out.size)
      clear ho hd hw hl HE
      go_wp2
      go_ret
      exact ⟨rfl, AW3.out⟩

theorem specE (n : Int) (s r : ByteArray) (x y : Int) (hn : (Lit.int .i64 n).wf = true) (_ : (Lit.int .i64 x).wf = true) (_ : (Lit.int .i64 y).wf = true) : s.size + r.size ≤ 1048576 → ∀ (w : World),
    Calls Tryd.prog 46 #[.agg #[.int .i64 n, .string s, .string r], .int .i64 x, .int .i64 y] w fun e w' => e = .returned (.int .i64 (distR n s r x y)) ∧ Below w.heap.size w w' :=
  fun h w => specDistanceOf_any n s r x y w hn (by omega) (by omega)
theorem implE (n : Int) (s r : ByteArray) (x y : Int) (hn : (Lit.int .i64 n).wf = true) (_ : (Lit.int .i64 x).wf = true) (_ : (Lit.int .i64 y).wf = true) : s.size + r.size ≤ 1048576 → ∀ (w : World),
    Calls Tryd.prog 45 #[.agg #[.int .i64 n, .string s, .string r], .int .i64 x, .int .i64 y] w fun e w' => e = .returned (.int .i64 (distR n s r x y)) ∧ Below w.heap.size w w' :=
  fun h w => implDistanceOf_any n s r x y w (by omega) (by omega)
end Go.Proofs.YtlnmebjbinmeiaaDoor.dist
