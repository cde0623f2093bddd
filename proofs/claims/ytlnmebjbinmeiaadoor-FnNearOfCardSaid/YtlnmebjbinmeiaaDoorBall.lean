/- BallOf in the program and in the reference. -/
import Derived.Test.YtlnmebjbinmeiaaDoorNear
import Derived.Test.YtlnmebjbinmeiaaDoorDistS
import Derived.Test.YtlnmebjbinmeiaaDoorReach
import Derived.Test.YtlnmebjbinmeiaaDoorIns
import Derived.Test.YtlnmebjbinmeiaaDoorBasic
namespace Go.Proofs.YtlnmebjbinmeiaaDoor.ball
set_option linter.unusedVariables false
set_option linter.unusedSimpArgs false
open Go.ChangeShapes Go.WideShapes Go.ChangeAt Go.RowKit
open Go.Proofs.YtlnmebjbinmeiaaDoor.lib Go.Proofs.YtlnmebjbinmeiaaDoor.st Go.Proofs.YtlnmebjbinmeiaaDoor.base Go.Proofs.YtlnmebjbinmeiaaDoor.near Go.Proofs.YtlnmebjbinmeiaaDoor.dist

/-- within the radius -/
noncomputable def inBall (n : Nat) (r : ByteArray) (x : Nat) (rad : Int) (y : Nat) : Bool := decide (0 ≤ D (adj n r) n x y ∧ D (adj n r) n x y ≤ rad)
/-- those up to k -/
noncomputable def ballTo (n : Nat) (r : ByteArray) (x : Nat) (rad : Int) (k : Nat) : List Int := ((List.range k).filter (inBall n r x rad)).map fun (y : Nat) => (y : Int)
theorem ballTo_yes {n : Nat} {r : ByteArray} {x : Nat} {rad : Int} {k : Nat} (h : inBall n r x rad k = true) : ballTo n r x rad (k + 1) = ballTo n r x rad k ++ [(k : Int)] := by
  simp [ballTo, List.range_succ, h]
theorem ballTo_no {n : Nat} {r : ByteArray} {x : Nat} {rad : Int} {k : Nat} (h : inBall n r x rad k = false) : ballTo n r x rad (k + 1) = ballTo n r x rad k := by
  simp [ballTo, List.range_succ, h]
theorem ballTo_len (n : Nat) (r : ByteArray) (x : Nat) (rad : Int) (k : Nat) : (ballTo n r x rad k).length ≤ k := by
  unfold ballTo; rw [List.length_map]
  have := List.length_filter_le (inBall n r x rad) (List.range k)
  rw [List.length_range] at this; exact this

theorem isRadius_any (d : Int) (w : World) : Calls Tryd.prog 70 #[.int .i64 d] w fun e w' => e = .returned (.bool (basic.inB d 0 100)) ∧ w = w' := by
  by_cases h1 : 0 ≤ d
  · by_cases h2 : d ≤ 100
    · have HE : Hid (basic.inB d 0 100 = true) := basic.inB_true h1 h2
      go_enter Tryd.func70, Tryd.ntmps70
      go_wp2
      go_ret
      exact ⟨by rw [HE.out]; rfl, rfl⟩
    · have HE : Hid (basic.inB d 0 100 = false) := basic.inB_false (by omega)
      go_enter Tryd.func70, Tryd.ntmps70
      go_wp2
      go_ret
      exact ⟨by rw [HE.out]; rfl, rfl⟩
  · have HE : Hid (basic.inB d 0 100 = false) := basic.inB_false (by omega)
    go_enter Tryd.func70, Tryd.ntmps70
    go_wp2
    go_ret
    exact ⟨by rw [HE.out]; rfl, rfl⟩

set_option maxHeartbeats 1600000 in
theorem ballOf_any (n : Nat) (s r : ByteArray) (x : Nat) (rad : Int) (w : World) (hx : x < n) (hn : n ≤ 8) (hr : r.size = n * n) :
    Calls Tryd.prog 71 #[.agg #[.int .i64 n, .string s, .string r], .int .i64 x, .int .i64 rad] w fun e w' => ∃ v, e = .returned v ∧ OwnI 3 w' w.heap.size v (ballTo n r x rad n) ∧ Below w.heap.size w w' := by
  obtain ⟨HB, hHB⟩ : ∃ HB, HB = w.heap.size + 1 := ⟨_, rfl⟩
  have BX : Hid (Box 25 (w.alloc (.cells #[.int .i64 n, .string s, .string r] 25)) w.heap.size n s r) := Box.new _ w _ rfl n s r
  have AW : Hid (Below w.heap.size w (w.alloc (.cells #[.int .i64 n, .string s, .string r] 25))) := (Below.refl _ _).alloc (Nat.le_refl _) _
  have he : Hid (OwnI 3 ((w.alloc (.cells #[.int .i64 n, .string s, .string r] 25)).alloc (.cells #[] 3)) HB (.slice (some ⟨w.heap.size + 1, 0, none⟩) 0 0) []) := emptyRow _ _ _ _ (by simp) (by omega)
  have hb0 : Hid (Below HB (w.alloc (.cells #[.int .i64 n, .string s, .string r] 25)) ((w.alloc (.cells #[.int .i64 n, .string s, .string r] 25)).alloc (.cells #[] 3))) := (Below.refl _ _).alloc (by simp; omega) _
  have HBS : Hid ((w.alloc (.cells #[.int .i64 n, .string s, .string r] 25)).heap.size = HB) := by rw [hHB]; simp [Hid]
  have HHB := Lib.hid hHB
  have HR := Lib.hid hr
  clear hr hHB
  go_enter Tryd.func71, Tryd.ntmps71
  obtain ⟨c0, c1, c2⟩ := (BX.out.below hb0.out (by have := HHB.out; omega)).c
  go_wp2_with fail
  refine (distancesFrom_any n s r x _ hx hn HR.out).mono ?_
  rintro e w1 ⟨dv, out, rfl, ho, hd, hw⟩
  have hl := hd.len
  rcases ho.shape with ⟨_, h0⟩ | ⟨go, co, rfl⟩
  · rw [h0] at hl; simp at hl; omega
  rw [hl] at ho ⊢
  have HD : Hid (∀ y, y < n → inBall n r x rad y = decide (0 ≤ out.getD y 0 ∧ out.getD y 0 ≤ rad)) := fun y hy => by
    unfold inBall D; rw [distL_eq hx hd]
  have HO1 := Lib.hid (show _ ∧ _ ∧ _ ∧ _ from ⟨he.out.below hw (Nat.le_refl _), hb0.out.trans (hw.mono (by have := hb0.out.size; have := HBS.out; omega)), ho, hl⟩)
  have hgo := ho.ge
  have HGO := Lib.hid hgo
  have hge : HB < go := by have h1 := hb0.out.size; have h2 := HBS.out; have h3 := hgo.1; simp only [World.size_alloc] at h3; simp at h2; omega
  clear c0 c1 c2 ho hd hw hl hgo
  go_wp2_with fail
  go_loopw [7, 15] (fun v i wr => ∃ k : Nat, k ≤ n ∧ i = .int .i64 k ∧ OwnI 3 wr HB v (ballTo n r x rad k) ∧ Below HB (w.alloc (.cells #[.int .i64 n, .string s, .string r] 25)) wr ∧ (∀ y, y < n → wr.cell? ⟨go, y, none⟩ = some (.int .i64 (out.getD y 0))) ∧ (∀ q, v.ownBlock = some q → q ≠ go) ∧ go < wr.heap.size) (fun _ i _ => n - (intOf i).toNat)
  case atStart =>
    refine ⟨0, Nat.zero_le _, rfl, HO1.out.1, HO1.out.2.1, fun y hy => HO1.out.2.2.1.cell y (by have := HO1.out.2.2.2; omega), fun q hq => ?_, HGO.out.2⟩
    simp [Value.ownBlock] at hq
    have := HHB.out; omega
  case round =>
    obtain ⟨k, hk, rfl, hown, hb, hcell, hne, hgl⟩ := hrel
    have HO := Lib.hid (show _ ∧ _ ∧ _ ∧ _ ∧ _ from ⟨hown, hb, hcell, hne, hgl⟩)
    have HL := Lib.hid (ballTo_len n r x rad k)
    clear hown hb hcell hne hgl
    by_cases hlt : k < n
    · have hc := HO.out.2.2.1 k hlt
      obtain ⟨d, hdd⟩ : ∃ d, d = out.getD k 0 := ⟨_, rfl⟩
      rw [← hdd] at hc
      have hdk := HD.out k hlt
      rw [← hdd] at hdk
      have HDK := Lib.hid hdk
      clear hdd hdk
      by_cases h0 : 0 ≤ d
      · by_cases h1 : d ≤ rad
        · have HS : Hid (ballTo n r x rad (k + 1) = ballTo n r x rad k ++ [(k : Int)]) := ballTo_yes (by rw [HDK.out]; exact decide_eq_true ⟨h0, h1⟩)
          have hsz : HB ≤ wr.heap.size := by have := HO.out.2.1.size; have := HBS.out; omega
          go_wp2_with (at_builtin; refine wpList_app1 wr rfl (.tmp 27) (.tmp 29) 31 rfl HB 3 (.int .i64 0) 8 Tryd.underlying31 infoInt rfl (by decide) _ _ _ (.int .i64 k) rfl HO.out.1 wr.heap.size rfl rfl rfl (by have := HL.out; omega) hsz ?_)
          intro g cap' w9 hown9 hgr
          have R : Hid (OwnI 3 w9 HB (.slice (some ⟨g, 0, none⟩) ((ballTo n r x rad k).length + 1) cap') (ballTo n r x rad (k + 1)) ∧ Below HB (w.alloc (.cells #[.int .i64 n, .string s, .string r] 25)) w9 ∧ (∀ y, y < n → w9.cell? ⟨go, y, none⟩ = some (.int .i64 (out.getD y 0))) ∧ g ≠ go ∧ go < w9.heap.size) := by
            refine ⟨by rw [HS.out]; unfold OwnI; rw [List.length_append, ivs_append]; exact hown9, HO.out.2.1.trans (hgr.below HO.out.1 hsz), fun y hy => hgr.grown.cell (HO.out.2.2.1 y hy) (fun e => HO.out.2.2.2.1 _ e.symm rfl), ?_, Nat.lt_of_lt_of_le HO.out.2.2.2.2 hgr.grown.size⟩
            rcases hgr.blk g (by simp [Value.ownBlock]) with hb | hb
            · exact HO.out.2.2.2.1 g hb
            · have := HO.out.2.2.2.2; omega
          clear hown9 hgr hsz
          go_wp2
          go_roundw
          case rel => exact ⟨k + 1, by omega, by go_num, R.out.1, R.out.2.1, R.out.2.2.1, fun q hq => by simp [Value.ownBlock] at hq; have := R.out.2.2.2.1; omega, R.out.2.2.2.2⟩
          case measure => simp [intOf]; omega
        · have R : Hid (OwnI 3 wr HB u7 (ballTo n r x rad (k + 1))) := by
            rw [Hid, ballTo_no (by rw [HDK.out]; exact decide_eq_false (by omega))]; exact HO.out.1
          go_wp2
          go_roundw
          case rel => exact ⟨k + 1, by omega, by go_num, R.out, HO.out.2⟩
          case measure => simp [intOf]; omega
      · have R : Hid (OwnI 3 wr HB u7 (ballTo n r x rad (k + 1))) := by
          rw [Hid, ballTo_no (by rw [HDK.out]; exact decide_eq_false (by omega))]; exact HO.out.1
        go_wp2
        go_roundw
        case rel => exact ⟨k + 1, by omega, by go_num, R.out, HO.out.2⟩
        case measure => simp [intOf]; omega
    · obtain rfl : n = k := by omega
      go_wp2
      go_ret
      exact ⟨_, rfl, HO.out.1.mono (by have := HHB.out; omega), AW.out.trans (HO.out.2.1.mono (by have := HHB.out; omega))⟩
end Go.Proofs.YtlnmebjbinmeiaaDoor.ball
