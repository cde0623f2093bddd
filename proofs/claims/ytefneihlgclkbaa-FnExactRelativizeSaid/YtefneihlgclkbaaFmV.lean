/- Formulas in the program: slices.Index over four bools. -/
import Derived.Test.YtefneihlgclkbaaFmU
import Derived.Test.YtefneihlgclkbaaFmJ
namespace Go.Proofs.Ytefneihlgclkbaa.fmv
set_option linter.unusedVariables false
set_option linter.unusedSimpArgs false
open Go.ChangeShapes Go.WideShapes Go.ChangeAt Go.RowKit
open Go.Proofs.Ytefneihlgclkbaa.lib Go.Proofs.Ytefneihlgclkbaa.fm Go.Proofs.Ytefneihlgclkbaa.fmj

def idx (b : Nat → Bool) : Option Nat := (List.range 4).find? fun j => !b j
theorem idx_at {b : Nat → Bool} {k : Nat} (hk : k < 4) (h1 : ∀ j, j < k → b j = true) (h2 : b k = false) : frI (idx b) = k := by
  have e : idx b = some k := by
    unfold idx
    obtain rfl | rfl | rfl | rfl : k = 0 ∨ k = 1 ∨ k = 2 ∨ k = 3 := by omega
    · simp [List.range, List.range.loop, h2]
    · simp [List.range, List.range.loop, h2, h1 0 (by omega)]
    · simp [List.range, List.range.loop, h2, h1 0 (by omega), h1 1 (by omega)]
    · simp [List.range, List.range.loop, h2, h1 0 (by omega), h1 1 (by omega), h1 2 (by omega)]
  rw [e]; rfl
theorem idx_none {b : Nat → Bool} (h1 : ∀ j, j < 4 → b j = true) : frI (idx b) = -1 := by
  have e : idx b = none := by
    unfold idx
    simp [List.range, List.range.loop, h1 0 (by omega), h1 1 (by omega), h1 2 (by omega), h1 3 (by omega)]
  rw [e]; rfl
set_option maxHeartbeats 1600000 in
theorem index_any (H cap : Nat) (b : Nat → Bool) (w : World) (hc : ∀ j, j < 4 → w.cell? ⟨H, j, none⟩ = some (.bool (b j))) :
    Calls Try.prog 35 #[.slice (some ⟨H, 0, none⟩) 4 cap, .bool false] w fun e w' => e = .returned (.int .i64 (frI (idx b))) ∧ w = w' := by
  have HC := Lib.hid hc
  clear hc
  go_enter Try.func35, Try.ntmps35
  go_wp2_with fail
  go_loop [8] (fun i => ∃ k : Nat, k ≤ 4 ∧ i = .int .i64 k ∧ Hid (∀ j, j < k → b j = true)) (fun i => 4 - (intOf i).toNat)
  case atStart => exact ⟨0, Nat.zero_le _, rfl, fun j hj => by omega⟩
  case round =>
    obtain ⟨k, hk, rfl, hst⟩ := hrel
    obtain rfl | rfl | rfl | rfl | rfl : k = 0 ∨ k = 1 ∨ k = 2 ∨ k = 3 ∨ k = 4 := by omega
    · have c0 := HC.out 0 (by decide)
      cases hb : b 0 with
      | false =>
        rw [hb] at c0
        have HE : Hid (frI (idx b) = ((0 : Nat) : Int)) := idx_at (by decide) hst.out hb
        clear hb hst
        go_wp2
        go_ret
        exact ⟨by rw [HE.out]; rfl, rfl⟩
      | true =>
        rw [hb] at c0
        have HS : Hid (∀ j, j < 1 → b j = true) := fun j hj => by
          by_cases h : j = 0
          · subst h; exact hb
          · exact hst.out j (by omega)
        clear hb hst
        go_wp2
        go_round
        case rel => exact ⟨1, by omega, rfl, HS⟩
        case measure => simp [intOf]
    · have c0 := HC.out 1 (by decide)
      cases hb : b 1 with
      | false =>
        rw [hb] at c0
        have HE : Hid (frI (idx b) = ((1 : Nat) : Int)) := idx_at (by decide) hst.out hb
        clear hb hst
        go_wp2
        go_ret
        exact ⟨by rw [HE.out]; rfl, rfl⟩
      | true =>
        rw [hb] at c0
        have HS : Hid (∀ j, j < 2 → b j = true) := fun j hj => by
          by_cases h : j = 1
          · subst h; exact hb
          · exact hst.out j (by omega)
        clear hb hst
        go_wp2
        go_round
        case rel => exact ⟨2, by omega, rfl, HS⟩
        case measure => simp [intOf]
    · have c0 := HC.out 2 (by decide)
      cases hb : b 2 with
      | false =>
        rw [hb] at c0
        have HE : Hid (frI (idx b) = ((2 : Nat) : Int)) := idx_at (by decide) hst.out hb
        clear hb hst
        go_wp2
        go_ret
        exact ⟨by rw [HE.out]; rfl, rfl⟩
      | true =>
        rw [hb] at c0
        have HS : Hid (∀ j, j < 3 → b j = true) := fun j hj => by
          by_cases h : j = 2
          · subst h; exact hb
          · exact hst.out j (by omega)
        clear hb hst
        go_wp2
        go_round
        case rel => exact ⟨3, by omega, rfl, HS⟩
        case measure => simp [intOf]
    · have c0 := HC.out 3 (by decide)
      cases hb : b 3 with
      | false =>
        rw [hb] at c0
        have HE : Hid (frI (idx b) = ((3 : Nat) : Int)) := idx_at (by decide) hst.out hb
        clear hb hst
        go_wp2
        go_ret
        exact ⟨by rw [HE.out]; rfl, rfl⟩
      | true =>
        rw [hb] at c0
        have HS : Hid (∀ j, j < 4 → b j = true) := fun j hj => by
          by_cases h : j = 3
          · subst h; exact hb
          · exact hst.out j (by omega)
        clear hb hst
        go_wp2
        go_round
        case rel => exact ⟨4, by omega, rfl, HS⟩
        case measure => simp [intOf]
    · have HE : Hid (frI (idx b) = -1) := idx_none hst.out
      clear hst
      go_wp2
      go_ret
      exact ⟨by rw [HE.out]; rfl, rfl⟩
end Go.Proofs.Ytefneihlgclkbaa.fmv
