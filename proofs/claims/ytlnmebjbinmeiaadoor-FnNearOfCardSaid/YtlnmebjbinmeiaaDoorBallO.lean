/- BallOf in the program and in the reference. -/
import Derived.Test.YtlnmebjbinmeiaaDoorBallS
namespace Go.Proofs.YtlnmebjbinmeiaaDoor.ball
set_option linter.unusedVariables false
set_option linter.unusedSimpArgs false
open Go.ChangeShapes Go.WideShapes Go.ChangeAt Go.RowKit
open Go.Proofs.YtlnmebjbinmeiaaDoor.lib Go.Proofs.YtlnmebjbinmeiaaDoor.st Go.Proofs.YtlnmebjbinmeiaaDoor.base Go.Proofs.YtlnmebjbinmeiaaDoor.near Go.Proofs.YtlnmebjbinmeiaaDoor.dist Go.Proofs.YtlnmebjbinmeiaaDoor.ins

/-- what BallOf returns -/
noncomputable def ballR (n : Int) (s r : ByteArray) (x rad : Int) : List Int := if elemB n s r x = true then (if basic.inB rad 0 100 = true then ballTo n.toNat r x.toNat rad n.toNat else []) else []

theorem l9Radius_any (d : Int) (w : World) : Calls Tryd.prog 66 #[.int .i64 d] w fun e w' => e = .returned (.bool (basic.inB d 0 100)) ∧ w = w' := by
  go_enter Tryd.func66, Tryd.ntmps66
  go_wp2_with fail
  refine (basic.l1In_any _ _ _ _).mono ?_
  rintro e w1 ⟨rfl, rfl⟩
  go_wp2
  go_ret
  exact ⟨rfl, rfl⟩

set_option maxHeartbeats 800000 in
theorem implBall_any (n : Int) (s r : ByteArray) (x rad : Int) (w : World) (hs : s.size ≤ 9223372036854775807) (hr : r.size ≤ 9223372036854775807) :
    Calls Tryd.prog 26 #[.agg #[.int .i64 n, .string s, .string r], .int .i64 x, .int .i64 rad] w fun e w' => ∃ v, e = .returned v ∧ OwnI 3 w' w.heap.size v (ballR n s r x rad) ∧ Below w.heap.size w w' := by
  have BX : Hid (Box 25 (w.alloc (.cells #[.int .i64 n, .string s, .string r] 25)) w.heap.size n s r) := Box.new _ w _ rfl n s r
  have AW : Hid (Below w.heap.size w (w.alloc (.cells #[.int .i64 n, .string s, .string r] 25))) := (Below.refl _ _).alloc (Nat.le_refl _) _
  go_enter Tryd.func26, Tryd.ntmps26
  go_wp2_with fail
  refine (hasElement_any n s r x _ hs hr).mono ?_
  rintro e w1 ⟨rfl, hw⟩
  have AW1 : Hid (Below w.heap.size w w1) := AW.out.trans (hw.mono (by simp))
  obtain ⟨c0, c1, c2⟩ := (BX.out.below hw (by simp)).c
  clear hw
  cases hb : elemB n s r x with
  | false =>
    have HE : Hid (ballR n s r x rad = []) := by rw [Hid, ballR, hb]; rfl
    clear hb
    go_wp2
    go_ret
    exact ⟨_, rfl, by rw [HE.out]; exact OwnI.nil _ _ _, AW1.out⟩
  | true =>
    go_wp2_with fail
    refine (isRadius_any rad _).mono ?_
    rintro e w1 ⟨rfl, rfl⟩
    cases hib : basic.inB rad 0 100 with
    | false =>
      have HE : Hid (ballR n s r x rad = []) := by rw [Hid, ballR, hb, hib]; rfl
      clear hb hib
      go_wp2
      go_ret
      exact ⟨_, rfl, by rw [HE.out]; exact OwnI.nil _ _ _, AW1.out⟩
    | true =>
      obtain ⟨N, X, rfl, rfl, hX, hN, hsN, hrN⟩ := valid_nat hb
      have HE : Hid (ballR N s r X rad = ballTo N r X rad N) := by rw [Hid, ballR, hb, hib]; rfl
      have HH := Lib.hid hrN
      clear hb hib hsN hrN
      go_wp2_with fail
      refine (ballOf_any N s r X rad _ hX hN HH.out).mono ?_
      rintro e w2 ⟨v, rfl, ho, hw⟩
      have R : Hid (OwnI 3 w2 w.heap.size v (ballTo N r X rad N) ∧ Below w.heap.size w w2) := ⟨ho.mono AW1.out.size, AW1.out.trans (hw.mono AW1.out.size)⟩
      clear ho hw
      go_wp2
      go_ret
      exact ⟨_, rfl, by rw [HE.out]; exact R.out.1, R.out.2⟩

set_option maxHeartbeats 1600000 in
theorem specBall_any (n : Int) (s r : ByteArray) (x rad : Int) (w : World) (hwf : (Lit.int .i64 n).wf = true) (hs : s.size ≤ 9223372036854775807) (hr : r.size ≤ 9223372036854775807) :
    Calls Tryd.prog 25 #[.agg #[.int .i64 n, .string s, .string r], .int .i64 x, .int .i64 rad] w fun e w' => ∃ v, e = .returned v ∧ OwnI 3 w' w.heap.size v (ballR n s r x rad) ∧ Below w.heap.size w w' := by
  obtain ⟨HB, hHB⟩ : ∃ HB, HB = w.heap.size + 1 := ⟨_, rfl⟩
  have BX : Hid (Box 25 (w.alloc (.cells #[.int .i64 n, .string s, .string r] 25)) w.heap.size n s r) := Box.new _ w _ rfl n s r
  have AW : Hid (Below w.heap.size w (w.alloc (.cells #[.int .i64 n, .string s, .string r] 25))) := (Below.refl _ _).alloc (Nat.le_refl _) _
  have he : Hid (OwnI 3 ((w.alloc (.cells #[.int .i64 n, .string s, .string r] 25)).alloc (.cells #[] 3)) HB (.slice (some ⟨w.heap.size + 1, 0, none⟩) 0 0) []) := emptyRow _ _ _ _ (by simp) (by omega)
  have hb0 : Hid (Below HB (w.alloc (.cells #[.int .i64 n, .string s, .string r] 25)) ((w.alloc (.cells #[.int .i64 n, .string s, .string r] 25)).alloc (.cells #[] 3))) := (Below.refl _ _).alloc (by simp; omega) _
  have HSZ : Hid ((w.alloc (.cells #[.int .i64 n, .string s, .string r] 25)).heap.size = HB) := by rw [hHB]; simp [Hid]
  have HHB := Lib.hid hHB
  have HWF := Lib.hid hwf
  clear hHB hwf
  go_enter Tryd.func25, Tryd.ntmps25
  obtain ⟨c0, c1, c2⟩ := (BX.out.below hb0.out (by have := HHB.out; omega)).c
  go_wp2_with fail
  refine (l9Element_any n s r x _ HWF.out hs hr).mono ?_
  rintro e w1 ⟨rfl, hw⟩
  clear c0 c1 c2
  have HST : Hid (OwnI 3 w1 HB (.slice (some ⟨w.heap.size + 1, 0, none⟩) 0 0) [] ∧ Below HB (w.alloc (.cells #[.int .i64 n, .string s, .string r] 25)) w1) := ⟨he.out.below hw (Nat.le_refl _), hb0.out.trans (hw.mono (by have := hb0.out.size; have := HSZ.out; omega))⟩
  obtain ⟨c0, c1, c2⟩ := (BX.out.below HST.out.2 (by have := HHB.out; omega)).c
  clear hw
  cases hb : elemB n s r x with
  | false =>
    have HE : Hid (ballR n s r x rad = []) := by rw [Hid, ballR, hb]; rfl
    clear hb
    go_wp2
    go_ret
    exact ⟨_, rfl, by rw [HE.out]; exact HST.out.1.mono (by have := HHB.out; omega), AW.out.trans (HST.out.2.mono (by have := HHB.out; omega))⟩
  | true =>
    go_wp2_with fail
    refine (l9Radius_any rad _).mono ?_
    rintro e w1 ⟨rfl, rfl⟩
    cases hib : basic.inB rad 0 100 with
    | false =>
      have HE : Hid (ballR n s r x rad = []) := by rw [Hid, ballR, hb, hib]; rfl
      clear hb hib
      go_wp2
      go_ret
      exact ⟨_, rfl, by rw [HE.out]; exact HST.out.1.mono (by have := HHB.out; omega), AW.out.trans (HST.out.2.mono (by have := HHB.out; omega))⟩
    | true =>
      obtain ⟨N, X, rfl, rfl, hX, hN, hsN, hrN⟩ := valid_nat hb
      have HE : Hid (ballR N s r X rad = insAll (midTo N r X rad N)) := by
        rw [Hid, ballR, hb, hib, mid_ball N r X rad hX (by have := of_decide_eq_true hib; omega)]; rfl
      have HH := Lib.hid hrN
      clear hb hib hsN hrN
      go_wp2_with fail
      refine (l9Ball_any N s r X rad _ hX hN HH.out).mono ?_
      rintro e w2 ⟨mv, rfl, ho, hw⟩
      have hml := midTo_len N r X rad N
      obtain ⟨ML, hML⟩ : ∃ q, q = midTo N r X rad N := ⟨_, rfl⟩
      rw [← hML] at ho hml HE
      obtain ⟨ao, cm, hmv, hmc, _⟩ := ho.reads
      obtain ⟨m, hm⟩ : ∃ q, q = ML.length := ⟨_, rfl⟩
      rw [← hm] at hmv hml
      subst hmv
      have HMM := Lib.hid hm
      have HST2 : Hid (OwnI 3 w2 HB (.slice (some ⟨w.heap.size + 1, 0, none⟩) 0 0) [] ∧ Below HB (w.alloc (.cells #[.int .i64 N, .string s, .string r] 25)) w2 ∧ OwnI 3 w2 w1.heap.size (.slice ao m cm) ML) := ⟨HST.out.1.below hw (Nat.le_refl _), HST.out.2.trans (hw.mono (by have := HST.out.2.size; have := HSZ.out; omega)), ho⟩
      have HMC := Lib.hid hmc
      clear ho hw hmc hm hML c0 c1 c2
      go_wp2_with fail
      go_loopw [7, 9] (fun v i wr => ∃ (k g cap : Nat), k ≤ m ∧ i = .int .i64 k ∧ v = .slice (some ⟨g, 0, none⟩) (insAll (ML.take k)).length cap ∧ OwnI 3 wr HB (.slice (some ⟨g, 0, none⟩) (insAll (ML.take k)).length cap) (insAll (ML.take k)) ∧ Below HB (w.alloc (.cells #[.int .i64 N, .string s, .string r] 25)) wr ∧ (∀ y, y < m → ∃ b off, ao = some ⟨b, off, none⟩ ∧ b ≠ g ∧ wr.cell? ⟨b, off + y, none⟩ = some (.int .i64 (ML.getD y 0)))) (fun _ i _ => m - (intOf i).toNat)
      case atStart =>
        refine ⟨0, _, _, Nat.zero_le _, rfl, rfl, HST2.out.1, HST2.out.2.1, fun y hy => ?_⟩
        rcases HMC.out with h | ⟨b, off, h1, h2⟩
        · have := HMM.out; rw [h] at this; simp at this; omega
        · refine ⟨b, off, h1, ?_, h2 y (by have := HMM.out; omega)⟩
          rcases HST2.out.2.2.shape with ⟨h3, h4⟩ | ⟨g3, c3, h3⟩
          · have := HMM.out; rw [h4] at this; simp at this; omega
          · have h5 := World.ownsRow.lt HST2.out.2.2 b (by rw [h1]; rfl)
            have h6 := HST.out.1.ge.2
            omega
      case round =>
        clear HST2
        obtain ⟨k, g, cap, hk, rfl, rfl, hown, hb, hcell⟩ := hrel
        have HO := Lib.hid (show _ ∧ _ ∧ _ from ⟨hown, hb, hcell⟩)
        have hlen : (insAll (ML.take k)).length ≤ 1000 := by
          have := insAll_len (ML.take k); rw [List.length_take] at this; omega
        clear hown hb hcell
        by_cases hlt : k < m
        · obtain ⟨b, off, rfl, hbg, hc⟩ := HO.out.2.2 k hlt
          obtain ⟨y, hy⟩ : ∃ y, y = ML.getD k 0 := ⟨_, rfl⟩
          rw [← hy] at hc
          have HI : Hid (insAll (ML.take (k + 1)) = ins (insAll (ML.take k)) y) := by rw [hy]; exact insAll_succ ML k (by have := HMM.out; omega)
          have hsz : HB ≤ wr.heap.size := by have := HO.out.2.1.size; have := HSZ.out; omega
          clear hy
          go_wp2_with fail
          refine (insert_any HB g cap (insAll (ML.take k)) y _ HO.out.1 hsz hlen).mono ?_
          rintro e w3 ⟨g', cap', rfl, ho3, hg3, hn3⟩
          have hb3 : Below HB wr w3 := below_of_grown hg3 hsz (fun q hq => by cases hq; exact HO.out.1.ge.1)
          have R2 : Hid (∀ y, y < m → ∃ b' off', (some (⟨b, off, none⟩ : Addr)) = some ⟨b', off', none⟩ ∧ b' ≠ g' ∧ w3.cell? ⟨b', off' + y, none⟩ = some (.int .i64 (ML.getD y 0))) := by
            intro y hy
            obtain ⟨b2, off2, h1, h2, h3⟩ := HO.out.2.2 y hy
            have hlt2 := World.block_lt_of_cell? wr _ h3
            refine ⟨b2, off2, h1, ?_, hg3.cell h3 (by simpa using h2)⟩
            rcases hn3 with rfl | hn3
            · exact h2
            · have : b2 < wr.heap.size := hlt2; omega
          have R : Hid (OwnI 3 w3 HB (.slice (some ⟨g', 0, none⟩) (insAll (ML.take (k + 1))).length cap') (insAll (ML.take (k + 1))) ∧ Below HB (w.alloc (.cells #[.int .i64 N, .string s, .string r] 25)) w3) := ⟨by rw [HI.out]; exact ho3, HO.out.2.1.trans hb3⟩
          clear ho3 hb3 hg3 hn3
          go_wp2
          go_roundw
          case rel => exact ⟨k + 1, g', cap', by omega, by go_num, by rw [HI.out], R.out.1, R.out.2, R2.out⟩
          case measure => simp [intOf]; omega
        · obtain rfl : m = k := by omega
          have R : Hid (OwnI 3 wr w.heap.size (.slice (some ⟨g, 0, none⟩) (insAll (ML.take m)).length cap) (insAll ML) ∧ Below w.heap.size w wr) := by
            refine ⟨?_, AW.out.trans (HO.out.2.1.mono (by have := HHB.out; omega))⟩
            have h := HO.out.1.mono (show w.heap.size ≤ HB by have := HHB.out; omega)
            have e : ML.take m = ML := by rw [HMM.out, List.take_length]
            rw [e] at h ⊢; exact h
          go_wp2
          go_ret
          exact ⟨_, rfl, by rw [HE.out]; exact R.out.1, R.out.2⟩

theorem len0 (n : Int) (s r : ByteArray) (x rad : Int) : s.size + r.size ≤ 1048576 → (ballR n s r x rad).length ≤ 4194304 := by
  intro _; unfold ballR; split
  · rename_i h
    obtain ⟨N, X, rfl, rfl, hX, hN, _⟩ := valid_nat h
    split
    · have := ballTo_len N r X rad N
      simp; omega
    · simp
  · simp
theorem specE (n : Int) (s r : ByteArray) (x rad : Int) (hn : (Lit.int .i64 n).wf = true) (_ : (Lit.int .i64 x).wf = true) (_ : (Lit.int .i64 rad).wf = true) : s.size + r.size ≤ 1048576 → ∀ (w : World),
    Calls Tryd.prog 25 #[.agg #[.int .i64 n, .string s, .string r], .int .i64 x, .int .i64 rad] w fun e w' => ∃ v0, e = .returned (v0) ∧ OwnI 3 w' w.heap.size v0 (ballR n s r x rad) ∧ Below w.heap.size w w' :=
  fun h w => specBall_any n s r x rad w hn (by omega) (by omega)
theorem implE (n : Int) (s r : ByteArray) (x rad : Int) (hn : (Lit.int .i64 n).wf = true) (_ : (Lit.int .i64 x).wf = true) (_ : (Lit.int .i64 rad).wf = true) : s.size + r.size ≤ 1048576 → ∀ (w : World),
    Calls Tryd.prog 26 #[.agg #[.int .i64 n, .string s, .string r], .int .i64 x, .int .i64 rad] w fun e w' => ∃ v0, e = .returned (v0) ∧ OwnI 3 w' w.heap.size v0 (ballR n s r x rad) ∧ Below w.heap.size w w' :=
  fun h w => implBall_any n s r x rad w (by omega) (by omega)
end Go.Proofs.YtlnmebjbinmeiaaDoor.ball
