/- Formulas in the reference: fresh variables and names. -/
import Derived.Test.YtefneihlgclkbaaFmI
namespace Go.Proofs.Ytefneihlgclkbaa.fmj
set_option linter.unusedVariables false
set_option linter.unusedSimpArgs false
open Go.ChangeShapes Go.WideShapes Go.ChangeAt Go.RowKit
open Go.Proofs.Ytefneihlgclkbaa.lib Go.Proofs.Ytefneihlgclkbaa.fm Go.Proofs.Ytefneihlgclkbaa.fms Go.Proofs.Ytefneihlgclkbaa.fmp Go.Proofs.Ytefneihlgclkbaa.fmq Go.Proofs.Ytefneihlgclkbaa.fme Go.Proofs.Ytefneihlgclkbaa.fmf Go.Proofs.Ytefneihlgclkbaa.fmi

def nm (v : Nat) : ByteArray := ⟨#[vb v]⟩
theorem l11Name_any (v : Nat) (h : v < 4) (w : World) : Calls Try.prog 26 #[.int .i64 v] w fun e w' => e = .returned (.string (nm v)) ∧ w = w' := by
  obtain rfl | rfl | rfl | rfl : v = 0 ∨ v = 1 ∨ v = 2 ∨ v = 3 := by omega
  all_goals
    clear h
    go_enter Try.func26, Try.ntmps26
    go_wp2
    go_ret
    exact ⟨rfl, rfl⟩
theorem l11Images_at (x : Int) (s : Nat) (hx : x = s) (m : Nat → Nat) (w : World) (hs : s < 16) (hm : ∀ v, v < 4 → m v < 4) :
    Calls Try.prog 33 #[.int .i64 x, .agg #[.int .i64 (m 0), .int .i64 (m 1), .int .i64 (m 2), .int .i64 (m 3)]] w fun e w' => e = .returned (.int .i64 (imgs s m 4)) ∧ Below w.heap.size w w' := by
  subst hx
  exact l11Images_any s m w hs hm
/-- the answer of fresh -/
def frI : Option Nat → Int
  | some u => (u : Nat)
  | none => -1
theorem fresh_own {v s t : Nat} {m : Nat → Nat} (ht : t = imgs (s &&& (15 ^^^ 1 <<< v)) m 4) (h : inS t v = false) : frI (fresh v s m) = v := by
  unfold fresh
  rw [← ht]
  simp only [h, if_true]
  rfl
theorem fresh_at {v s t k : Nat} {m : Nat → Nat} (ht : t = imgs (s &&& (15 ^^^ 1 <<< v)) m 4) (h : inS t v = true) (hk : k < 4) (h1 : ∀ j, j < k → inS t j = true) (h2 : inS t k = false) : frI (fresh v s m) = k := by
  unfold fresh
  rw [← ht]
  simp only [h, Bool.true_eq_false, if_false]
  have e : (List.range 4).find? (fun w => !inS t w) = some k := by
    obtain rfl | rfl | rfl | rfl : k = 0 ∨ k = 1 ∨ k = 2 ∨ k = 3 := by omega
    · simp [List.range, List.range.loop, h2]
    · simp [List.range, List.range.loop, h2, h1 0 (by omega)]
    · simp [List.range, List.range.loop, h2, h1 0 (by omega), h1 1 (by omega)]
    · simp [List.range, List.range.loop, h2, h1 0 (by omega), h1 1 (by omega), h1 2 (by omega)]
  rw [e]
  rfl
theorem fresh_none {v s t : Nat} {m : Nat → Nat} (ht : t = imgs (s &&& (15 ^^^ 1 <<< v)) m 4) (h : inS t v = true) (h1 : ∀ j, j < 4 → inS t j = true) : frI (fresh v s m) = -1 := by
  unfold fresh
  rw [← ht]
  simp only [h, Bool.true_eq_false, if_false]
  have e : (List.range 4).find? (fun w => !inS t w) = none := by
    simp [List.range, List.range.loop, h1 0 (by omega), h1 1 (by omega), h1 2 (by omega), h1 3 (by omega)]
  rw [e]
  rfl
set_option maxHeartbeats 3200000 in
theorem l11Fresh_any (v s : Nat) (m : Nat → Nat) (w : World) (hv : v < 4) (hs : s < 16) (hm : ∀ v, v < 4 → m v < 4) :
    Calls Try.prog 27 #[.int .i64 v, .int .i64 s, .agg #[.int .i64 (m 0), .int .i64 (m 1), .int .i64 (m 2), .int .i64 (m 3)]] w fun e w' => e = .returned (.int .i64 (frI (fresh v s m))) ∧ Below w.heap.size w w' := by
  have HM := Lib.hid hm
  have AW : Hid (Below w.heap.size w (w.alloc (.cells #[.int .i64 (m 0), .int .i64 (m 1), .int .i64 (m 2), .int .i64 (m 3)] 35))) := (Below.refl _ _).alloc (Nat.le_refl _) _
  have hsv : s &&& (15 ^^^ 1 <<< v) < 16 := and_lt ⟨s, hs⟩ ⟨v, hv⟩
  obtain ⟨t, ht⟩ : ∃ t, t = imgs (s &&& (15 ^^^ 1 <<< v)) m 4 := ⟨_, rfl⟩
  have htl : t < 16 := by rw [ht]; exact imgs_lt hm (Nat.le_refl 4)
  have HT := Lib.hid ht
  clear hm ht
  obtain rfl | rfl | rfl | rfl : v = 0 ∨ v = 1 ∨ v = 2 ∨ v = 3 := by omega
  · have tv := b_out_0 htl
    cases hb : inS t 0 with
    | false =>
      rw [hb] at tv
      have HI := Lib.hid hb
      clear hb
      go_enter Try.func27, Try.ntmps27
      go_wp2_with fail
      refine (l11Images_at _ _ (b_an1 hs) m _ hsv HM.out).mono ?_
      rintro eo w1 ⟨rfl, hb⟩
      have BW := Lib.hid (AW.out.trans (hb.mono AW.out.size))
      clear hb
      rw [← HT.out]
      have HE : Hid (frI (fresh 0 s m) = ((0 : Nat) : Int)) := fresh_own HT.out HI.out
      go_wp2
      go_ret
      exact ⟨by rw [HE.out]; rfl, BW.out⟩
    | true =>
      rw [hb] at tv
      have HI := Lib.hid hb
      clear hb
      go_enter Try.func27, Try.ntmps27
      go_wp2_with fail
      refine (l11Images_at _ _ (b_an1 hs) m _ hsv HM.out).mono ?_
      rintro eo w1 ⟨rfl, hb⟩
      have BW := Lib.hid (AW.out.trans (hb.mono AW.out.size))
      clear hb
      rw [← HT.out]
      go_wp2_with fail
      go_loop [8] (fun i => ∃ k : Nat, k ≤ 4 ∧ i = .int .i64 k ∧ Hid (∀ j, j < k → inS t j = true)) (fun i => 4 - (intOf i).toNat)
      case atStart => exact ⟨0, Nat.zero_le _, rfl, fun j hj => by omega⟩
      case round =>
        obtain ⟨k, hk, rfl, hst⟩ := hrel
        obtain rfl | rfl | rfl | rfl | rfl : k = 0 ∨ k = 1 ∨ k = 2 ∨ k = 3 ∨ k = 4 := by omega
        · have tk := b_out_0 htl
          have hb := HI.out
          rw [hb] at tk
          have HS : Hid (∀ j, j < 1 → inS t j = true) := fun j hj => by
            by_cases h : j = 0
            · subst h; exact hb
            · exact hst.out j (by omega)
          clear hb hst
          go_wp2
          go_round
          case rel => exact ⟨1, by omega, rfl, HS⟩
          case measure => simp [intOf]
        · have tk := b_out_1 htl
          cases hb : inS t 1 with
          | false =>
            rw [hb] at tk
            have HE : Hid (frI (fresh 0 s m) = ((1 : Nat) : Int)) := fresh_at HT.out HI.out (by decide) hst.out hb
            clear hb hst
            go_wp2
            go_ret
            exact ⟨by rw [HE.out]; rfl, BW.out⟩
          | true =>
            rw [hb] at tk
            have HS : Hid (∀ j, j < 2 → inS t j = true) := fun j hj => by
              by_cases h : j = 1
              · subst h; exact hb
              · exact hst.out j (by omega)
            clear hb hst
            go_wp2
            go_round
            case rel => exact ⟨2, by omega, rfl, HS⟩
            case measure => simp [intOf]
        · have tk := b_out_2 htl
          cases hb : inS t 2 with
          | false =>
            rw [hb] at tk
            have HE : Hid (frI (fresh 0 s m) = ((2 : Nat) : Int)) := fresh_at HT.out HI.out (by decide) hst.out hb
            clear hb hst
            go_wp2
            go_ret
            exact ⟨by rw [HE.out]; rfl, BW.out⟩
          | true =>
            rw [hb] at tk
            have HS : Hid (∀ j, j < 3 → inS t j = true) := fun j hj => by
              by_cases h : j = 2
              · subst h; exact hb
              · exact hst.out j (by omega)
            clear hb hst
            go_wp2
            go_round
            case rel => exact ⟨3, by omega, rfl, HS⟩
            case measure => simp [intOf]
        · have tk := b_out_3 htl
          cases hb : inS t 3 with
          | false =>
            rw [hb] at tk
            have HE : Hid (frI (fresh 0 s m) = ((3 : Nat) : Int)) := fresh_at HT.out HI.out (by decide) hst.out hb
            clear hb hst
            go_wp2
            go_ret
            exact ⟨by rw [HE.out]; rfl, BW.out⟩
          | true =>
            rw [hb] at tk
            have HS : Hid (∀ j, j < 4 → inS t j = true) := fun j hj => by
              by_cases h : j = 3
              · subst h; exact hb
              · exact hst.out j (by omega)
            clear hb hst
            go_wp2
            go_round
            case rel => exact ⟨4, by omega, rfl, HS⟩
            case measure => simp [intOf]
        · have HE : Hid (frI (fresh 0 s m) = -1) := fresh_none HT.out HI.out hst.out
          clear hst
          go_wp2
          go_ret
          exact ⟨by rw [HE.out]; rfl, BW.out⟩
  · have tv := b_out_1 htl
    cases hb : inS t 1 with
    | false =>
      rw [hb] at tv
      have HI := Lib.hid hb
      clear hb
      go_enter Try.func27, Try.ntmps27
      go_wp2_with fail
      refine (l11Images_at _ _ (b_an2 hs) m _ hsv HM.out).mono ?_
      rintro eo w1 ⟨rfl, hb⟩
      have BW := Lib.hid (AW.out.trans (hb.mono AW.out.size))
      clear hb
      rw [← HT.out]
      have HE : Hid (frI (fresh 1 s m) = ((1 : Nat) : Int)) := fresh_own HT.out HI.out
      go_wp2
      go_ret
      exact ⟨by rw [HE.out]; rfl, BW.out⟩
    | true =>
      rw [hb] at tv
      have HI := Lib.hid hb
      clear hb
      go_enter Try.func27, Try.ntmps27
      go_wp2_with fail
      refine (l11Images_at _ _ (b_an2 hs) m _ hsv HM.out).mono ?_
      rintro eo w1 ⟨rfl, hb⟩
      have BW := Lib.hid (AW.out.trans (hb.mono AW.out.size))
      clear hb
      rw [← HT.out]
      go_wp2_with fail
      go_loop [8] (fun i => ∃ k : Nat, k ≤ 4 ∧ i = .int .i64 k ∧ Hid (∀ j, j < k → inS t j = true)) (fun i => 4 - (intOf i).toNat)
      case atStart => exact ⟨0, Nat.zero_le _, rfl, fun j hj => by omega⟩
      case round =>
        obtain ⟨k, hk, rfl, hst⟩ := hrel
        obtain rfl | rfl | rfl | rfl | rfl : k = 0 ∨ k = 1 ∨ k = 2 ∨ k = 3 ∨ k = 4 := by omega
        · have tk := b_out_0 htl
          cases hb : inS t 0 with
          | false =>
            rw [hb] at tk
            have HE : Hid (frI (fresh 1 s m) = ((0 : Nat) : Int)) := fresh_at HT.out HI.out (by decide) hst.out hb
            clear hb hst
            go_wp2
            go_ret
            exact ⟨by rw [HE.out]; rfl, BW.out⟩
          | true =>
            rw [hb] at tk
            have HS : Hid (∀ j, j < 1 → inS t j = true) := fun j hj => by
              by_cases h : j = 0
              · subst h; exact hb
              · exact hst.out j (by omega)
            clear hb hst
            go_wp2
            go_round
            case rel => exact ⟨1, by omega, rfl, HS⟩
            case measure => simp [intOf]
        · have tk := b_out_1 htl
          have hb := HI.out
          rw [hb] at tk
          have HS : Hid (∀ j, j < 2 → inS t j = true) := fun j hj => by
            by_cases h : j = 1
            · subst h; exact hb
            · exact hst.out j (by omega)
          clear hb hst
          go_wp2
          go_round
          case rel => exact ⟨2, by omega, rfl, HS⟩
          case measure => simp [intOf]
        · have tk := b_out_2 htl
          cases hb : inS t 2 with
          | false =>
            rw [hb] at tk
            have HE : Hid (frI (fresh 1 s m) = ((2 : Nat) : Int)) := fresh_at HT.out HI.out (by decide) hst.out hb
            clear hb hst
            go_wp2
            go_ret
            exact ⟨by rw [HE.out]; rfl, BW.out⟩
          | true =>
            rw [hb] at tk
            have HS : Hid (∀ j, j < 3 → inS t j = true) := fun j hj => by
              by_cases h : j = 2
              · subst h; exact hb
              · exact hst.out j (by omega)
            clear hb hst
            go_wp2
            go_round
            case rel => exact ⟨3, by omega, rfl, HS⟩
            case measure => simp [intOf]
        · have tk := b_out_3 htl
          cases hb : inS t 3 with
          | false =>
            rw [hb] at tk
            have HE : Hid (frI (fresh 1 s m) = ((3 : Nat) : Int)) := fresh_at HT.out HI.out (by decide) hst.out hb
            clear hb hst
            go_wp2
            go_ret
            exact ⟨by rw [HE.out]; rfl, BW.out⟩
          | true =>
            rw [hb] at tk
            have HS : Hid (∀ j, j < 4 → inS t j = true) := fun j hj => by
              by_cases h : j = 3
              · subst h; exact hb
              · exact hst.out j (by omega)
            clear hb hst
            go_wp2
            go_round
            case rel => exact ⟨4, by omega, rfl, HS⟩
            case measure => simp [intOf]
        · have HE : Hid (frI (fresh 1 s m) = -1) := fresh_none HT.out HI.out hst.out
          clear hst
          go_wp2
          go_ret
          exact ⟨by rw [HE.out]; rfl, BW.out⟩
  · have tv := b_out_2 htl
    cases hb : inS t 2 with
    | false =>
      rw [hb] at tv
      have HI := Lib.hid hb
      clear hb
      go_enter Try.func27, Try.ntmps27
      go_wp2_with fail
      refine (l11Images_at _ _ (b_an4 hs) m _ hsv HM.out).mono ?_
      rintro eo w1 ⟨rfl, hb⟩
      have BW := Lib.hid (AW.out.trans (hb.mono AW.out.size))
      clear hb
      rw [← HT.out]
      have HE : Hid (frI (fresh 2 s m) = ((2 : Nat) : Int)) := fresh_own HT.out HI.out
      go_wp2
      go_ret
      exact ⟨by rw [HE.out]; rfl, BW.out⟩
    | true =>
      rw [hb] at tv
      have HI := Lib.hid hb
      clear hb
      go_enter Try.func27, Try.ntmps27
      go_wp2_with fail
      refine (l11Images_at _ _ (b_an4 hs) m _ hsv HM.out).mono ?_
      rintro eo w1 ⟨rfl, hb⟩
      have BW := Lib.hid (AW.out.trans (hb.mono AW.out.size))
      clear hb
      rw [← HT.out]
      go_wp2_with fail
      go_loop [8] (fun i => ∃ k : Nat, k ≤ 4 ∧ i = .int .i64 k ∧ Hid (∀ j, j < k → inS t j = true)) (fun i => 4 - (intOf i).toNat)
      case atStart => exact ⟨0, Nat.zero_le _, rfl, fun j hj => by omega⟩
      case round =>
        obtain ⟨k, hk, rfl, hst⟩ := hrel
        obtain rfl | rfl | rfl | rfl | rfl : k = 0 ∨ k = 1 ∨ k = 2 ∨ k = 3 ∨ k = 4 := by omega
        · have tk := b_out_0 htl
          cases hb : inS t 0 with
          | false =>
            rw [hb] at tk
            have HE : Hid (frI (fresh 2 s m) = ((0 : Nat) : Int)) := fresh_at HT.out HI.out (by decide) hst.out hb
            clear hb hst
            go_wp2
            go_ret
            exact ⟨by rw [HE.out]; rfl, BW.out⟩
          | true =>
            rw [hb] at tk
            have HS : Hid (∀ j, j < 1 → inS t j = true) := fun j hj => by
              by_cases h : j = 0
              · subst h; exact hb
              · exact hst.out j (by omega)
            clear hb hst
            go_wp2
            go_round
            case rel => exact ⟨1, by omega, rfl, HS⟩
            case measure => simp [intOf]
        · have tk := b_out_1 htl
          cases hb : inS t 1 with
          | false =>
            rw [hb] at tk
            have HE : Hid (frI (fresh 2 s m) = ((1 : Nat) : Int)) := fresh_at HT.out HI.out (by decide) hst.out hb
            clear hb hst
            go_wp2
            go_ret
            exact ⟨by rw [HE.out]; rfl, BW.out⟩
          | true =>
            rw [hb] at tk
            have HS : Hid (∀ j, j < 2 → inS t j = true) := fun j hj => by
              by_cases h : j = 1
              · subst h; exact hb
              · exact hst.out j (by omega)
            clear hb hst
            go_wp2
            go_round
            case rel => exact ⟨2, by omega, rfl, HS⟩
            case measure => simp [intOf]
        · have tk := b_out_2 htl
          have hb := HI.out
          rw [hb] at tk
          have HS : Hid (∀ j, j < 3 → inS t j = true) := fun j hj => by
            by_cases h : j = 2
            · subst h; exact hb
            · exact hst.out j (by omega)
          clear hb hst
          go_wp2
          go_round
          case rel => exact ⟨3, by omega, rfl, HS⟩
          case measure => simp [intOf]
        · have tk := b_out_3 htl
          cases hb : inS t 3 with
          | false =>
            rw [hb] at tk
            have HE : Hid (frI (fresh 2 s m) = ((3 : Nat) : Int)) := fresh_at HT.out HI.out (by decide) hst.out hb
            clear hb hst
            go_wp2
            go_ret
            exact ⟨by rw [HE.out]; rfl, BW.out⟩
          | true =>
            rw [hb] at tk
            have HS : Hid (∀ j, j < 4 → inS t j = true) := fun j hj => by
              by_cases h : j = 3
              · subst h; exact hb
              · exact hst.out j (by omega)
            clear hb hst
            go_wp2
            go_round
            case rel => exact ⟨4, by omega, rfl, HS⟩
            case measure => simp [intOf]
        · have HE : Hid (frI (fresh 2 s m) = -1) := fresh_none HT.out HI.out hst.out
          clear hst
          go_wp2
          go_ret
          exact ⟨by rw [HE.out]; rfl, BW.out⟩
  · have tv := b_out_3 htl
    cases hb : inS t 3 with
    | false =>
      rw [hb] at tv
      have HI := Lib.hid hb
      clear hb
      go_enter Try.func27, Try.ntmps27
      go_wp2_with fail
      refine (l11Images_at _ _ (b_an8 hs) m _ hsv HM.out).mono ?_
      rintro eo w1 ⟨rfl, hb⟩
      have BW := Lib.hid (AW.out.trans (hb.mono AW.out.size))
      clear hb
      rw [← HT.out]
      have HE : Hid (frI (fresh 3 s m) = ((3 : Nat) : Int)) := fresh_own HT.out HI.out
      go_wp2
      go_ret
      exact ⟨by rw [HE.out]; rfl, BW.out⟩
    | true =>
      rw [hb] at tv
      have HI := Lib.hid hb
      clear hb
      go_enter Try.func27, Try.ntmps27
      go_wp2_with fail
      refine (l11Images_at _ _ (b_an8 hs) m _ hsv HM.out).mono ?_
      rintro eo w1 ⟨rfl, hb⟩
      have BW := Lib.hid (AW.out.trans (hb.mono AW.out.size))
      clear hb
      rw [← HT.out]
      go_wp2_with fail
      go_loop [8] (fun i => ∃ k : Nat, k ≤ 4 ∧ i = .int .i64 k ∧ Hid (∀ j, j < k → inS t j = true)) (fun i => 4 - (intOf i).toNat)
      case atStart => exact ⟨0, Nat.zero_le _, rfl, fun j hj => by omega⟩
      case round =>
        obtain ⟨k, hk, rfl, hst⟩ := hrel
        obtain rfl | rfl | rfl | rfl | rfl : k = 0 ∨ k = 1 ∨ k = 2 ∨ k = 3 ∨ k = 4 := by omega
        · have tk := b_out_0 htl
          cases hb : inS t 0 with
          | false =>
            rw [hb] at tk
            have HE : Hid (frI (fresh 3 s m) = ((0 : Nat) : Int)) := fresh_at HT.out HI.out (by decide) hst.out hb
            clear hb hst
            go_wp2
            go_ret
            exact ⟨by rw [HE.out]; rfl, BW.out⟩
          | true =>
            rw [hb] at tk
            have HS : Hid (∀ j, j < 1 → inS t j = true) := fun j hj => by
              by_cases h : j = 0
              · subst h; exact hb
              · exact hst.out j (by omega)
            clear hb hst
            go_wp2
            go_round
            case rel => exact ⟨1, by omega, rfl, HS⟩
            case measure => simp [intOf]
        · have tk := b_out_1 htl
          cases hb : inS t 1 with
          | false =>
            rw [hb] at tk
            have HE : Hid (frI (fresh 3 s m) = ((1 : Nat) : Int)) := fresh_at HT.out HI.out (by decide) hst.out hb
            clear hb hst
            go_wp2
            go_ret
            exact ⟨by rw [HE.out]; rfl, BW.out⟩
          | true =>
            rw [hb] at tk
            have HS : Hid (∀ j, j < 2 → inS t j = true) := fun j hj => by
              by_cases h : j = 1
              · subst h; exact hb
              · exact hst.out j (by omega)
            clear hb hst
            go_wp2
            go_round
            case rel => exact ⟨2, by omega, rfl, HS⟩
            case measure => simp [intOf]
        · have tk := b_out_2 htl
          cases hb : inS t 2 with
          | false =>
            rw [hb] at tk
            have HE : Hid (frI (fresh 3 s m) = ((2 : Nat) : Int)) := fresh_at HT.out HI.out (by decide) hst.out hb
            clear hb hst
            go_wp2
            go_ret
            exact ⟨by rw [HE.out]; rfl, BW.out⟩
          | true =>
            rw [hb] at tk
            have HS : Hid (∀ j, j < 3 → inS t j = true) := fun j hj => by
              by_cases h : j = 2
              · subst h; exact hb
              · exact hst.out j (by omega)
            clear hb hst
            go_wp2
            go_round
            case rel => exact ⟨3, by omega, rfl, HS⟩
            case measure => simp [intOf]
        · have tk := b_out_3 htl
          have hb := HI.out
          rw [hb] at tk
          have HS : Hid (∀ j, j < 4 → inS t j = true) := fun j hj => by
            by_cases h : j = 3
            · subst h; exact hb
            · exact hst.out j (by omega)
          clear hb hst
          go_wp2
          go_round
          case rel => exact ⟨4, by omega, rfl, HS⟩
          case measure => simp [intOf]
        · have HE : Hid (frI (fresh 3 s m) = -1) := fresh_none HT.out HI.out hst.out
          clear hst
          go_wp2
          go_ret
          exact ⟨by rw [HE.out]; rfl, BW.out⟩
end Go.Proofs.Ytefneihlgclkbaa.fmj
