/- RadiusFor, the program's and the reference's, and the walk of FnExactRadiusFor. -/
import Derived.Test.YtpcnoiigbmiejaaDoorRows
import Derived.Test.YtpcnoiigbmiejaaDoorLib
import Derived.Test.YtpcnoiigbmiejaaDoorBasic
namespace Go.Proofs.YtpcnoiigbmiejaaDoor.radius
set_option linter.unusedVariables false
set_option linter.unusedSimpArgs false
open Go.ChangeShapes Go.WideShapes Go.ChangeAt Go.RowKit

def rad : Nat → Int
  | 0 => 0
  | k + 1 => 3 * rad k + 1
theorem rad_b (k : Nat) (h : k ≤ 3) : 0 ≤ rad k ∧ rad k ≤ 13 := by
  have : k = 0 ∨ k = 1 ∨ k = 2 ∨ k = 3 := by omega
  rcases this with rfl | rfl | rfl | rfl <;> simp [rad]
/-- what both return -/
def radR (n : Int) : Int := if n < 0 ∨ 3 < n then -1 else rad n.toNat

theorem impl_any (n : Int) (w : World) :
    Calls Tryd.prog 28 #[.int .i64 n] w fun e w' => e = .returned (.int .i64 (radR n)) ∧ w = w' := by
  by_cases h : n < 0 ∨ 3 < n
  · have HE : Hid (radR n = -1) := if_pos h
    rcases h with h | h
    all_goals
      go_enter Tryd.func28, Tryd.ntmps28
      go_wp2
      go_ret
      exact ⟨by rw [HE.out]; rfl, rfl⟩
  · obtain ⟨m, rfl⟩ : ∃ m : Nat, n = m := ⟨n.toNat, by omega⟩
    have HE : Hid (radR m = rad m) := by unfold Hid radR; rw [if_neg h]; simp
    have hm : m ≤ 3 := by omega
    clear h
    go_enter Tryd.func28, Tryd.ntmps28
    go_wp2
    go_loop [3, 11] (fun r i => ∃ k : Nat, k ≤ m ∧ i = .int .i64 k ∧ r = .int .i64 (rad k)) (fun _ i => m - (intOf i).toNat)
    case atStart => exact ⟨0, Nat.zero_le _, rfl, rfl⟩
    case round =>
      obtain ⟨k, hk, rfl, rfl⟩ := hrel
      have hb := rad_b k (by omega)
      by_cases hlt : k < m
      · go_wp2
        go_round
        case rel => exact ⟨k + 1, by omega, by go_num, by simp only [rad]⟩
        case measure => simp [intOf]; omega
      · obtain rfl : k = m := by omega
        go_wp2
        go_ret
        exact ⟨by rw [HE.out]; rfl, rfl⟩

theorem spec_any (n : Int) (w : World) :
    Calls Tryd.prog 29 #[.int .i64 n] w fun e w' => e = .returned (.int .i64 (radR n)) ∧ w = w' := by
  by_cases h : n < 0 ∨ 3 < n
  · have HE : Hid (radR n = -1) := if_pos h
    have hd : basic.inB n 0 3 = false := basic.inB_false (by omega)
    go_enter Tryd.func29, Tryd.ntmps29
    go_wp2_with (go_at_call 67; refine (basic.l1In_any _ _ _ _).mono ?_; rintro e w' ⟨rfl, rfl⟩; rw [hd])
    go_ret
    exact ⟨by rw [HE.out]; rfl, rfl⟩
  · obtain ⟨m, rfl⟩ : ∃ m : Nat, n = m := ⟨n.toNat, by omega⟩
    have HE : Hid (radR m = rad m) := by unfold Hid radR; rw [if_neg h]; simp
    have hm : m ≤ 3 := by omega
    have hd : basic.inB (m : Int) 0 3 = true := basic.inB_true (by omega) (by omega)
    clear h
    go_enter Tryd.func29, Tryd.ntmps29
    go_wp2_with (go_at_call 67; refine (basic.l1In_any _ _ _ _).mono ?_; rintro e w' ⟨rfl, rfl⟩; rw [hd])
    go_loop [3, 4] (fun r i => ∃ k : Nat, k ≤ m ∧ i = .int .i64 k ∧ r = .int .i64 (rad k)) (fun _ i => m - (intOf i).toNat)
    case atStart => exact ⟨0, Nat.zero_le _, rfl, rfl⟩
    case round =>
      obtain ⟨k, hk, rfl, rfl⟩ := hrel
      have hb := rad_b k (by omega)
      clear hd
      by_cases hlt : k < m
      · go_wp2
        go_round
        case rel => exact ⟨k + 1, by omega, by go_num, by simp only [rad]⟩
        case measure => simp [intOf]; omega
      · obtain rfl : k = m := by omega
        go_wp2
        go_ret
        exact ⟨by rw [HE.out]; rfl, rfl⟩

end Go.Proofs.YtpcnoiigbmiejaaDoor.radius
