/- DistanceFormula in the program and in the reference. -/
import Derived.Test.YtpjfpiohhgoeaaaDoorRows
import Derived.Test.YtpjfpiohhgoeaaaDoorLib
import Derived.Test.YtpjfpiohhgoeaaaDoorBasic
import Derived.Laws.Concat
import Derived.WalkSpells
namespace Go.Proofs.YtpjfpiohhgoeaaaDoor.df
set_option linter.unusedVariables false
set_option linter.unusedSimpArgs false
open Go.ChangeShapes Go.WideShapes Go.ChangeAt Go.RowKit
open Go.Proofs.YtpjfpiohhgoeaaaDoor.lib

/-- the formula for a distance: v and h are the variables that are exchanged -/
def wl : Nat → UInt8 → UInt8 → List UInt8
  | 0, v, _ => [61, v, 98]
  | d + 1, v, h => [124, 61, v, 98, 83, h, 38, 124, 69, v, h, 69, h, v] ++ wl d h v
theorem wl_len : ∀ (d : Nat) (v h : UInt8), (wl d v h).length = 14 * d + 3
  | 0, _, _ => rfl
  | d + 1, v, h => by rw [wl, List.length_append, wl_len d h v]; simp; omega
def wb (d : Nat) (v h : UInt8) : ByteArray := ⟨(wl d v h).toArray⟩
theorem wb_size (d : Nat) (v h : UInt8) : (wb d v h).size = 14 * d + 3 := by
  show (wl d v h).toArray.size = _
  rw [List.size_toArray, wl_len]

set_option maxHeartbeats 400000 in
theorem within_any : ∀ (d : Nat), d ≤ 100 → (∀ w : World, Calls Tryd.prog 35 #[.int .i64 d, .string ⟨#[97]⟩, .string ⟨#[98]⟩, .string ⟨#[99]⟩] w fun e w' => e = .returned (.string (wb d 97 99)) ∧ w = w') ∧
    (∀ w : World, Calls Tryd.prog 35 #[.int .i64 d, .string ⟨#[99]⟩, .string ⟨#[98]⟩, .string ⟨#[97]⟩] w fun e w' => e = .returned (.string (wb d 99 97)) ∧ w = w')
  | 0, _ => by
    constructor
    all_goals
      intro w
      go_enter Tryd.func35, Tryd.ntmps35
      go_wp2
      go_ret
      exact ⟨rfl, rfl⟩
  | d + 1, hd => by
    obtain ⟨ih1, ih2⟩ := within_any d (by omega)
    have I1 := Lib.hid ih1
    have I2 := Lib.hid ih2
    clear ih1 ih2
    have z1 : (wb d 99 97).size ≤ 2000 := by rw [wb_size]; omega
    have z2 : (wb d 97 99).size ≤ 2000 := by rw [wb_size]; omega
    have cat : ∀ (A B : List UInt8) (x : ByteArray), x = ⟨B.toArray⟩ → ∀ y : ByteArray, y.data.toList = A → y ++ x = ⟨(A ++ B).toArray⟩ := by
      rintro A B x rfl y rfl
      apply ByteArray.ext
      rw [ByteArray.data_append]
      simp
    have CAT := Lib.hid cat
    clear cat
    constructor
    · intro w
      go_enter Tryd.func35, Tryd.ntmps35
      go_wp2_with fail
      refine (I2.out _).mono ?_
      rintro e w1 ⟨rfl, rfl⟩
      go_wp2
      go_ret
      exact ⟨congrArg (fun b => Ending.returned (Value.string b)) (CAT.out [124, 61, 97, 98, 83, 99, 38, 124, 69, 97, 99, 69, 99, 97] _ _ rfl _ rfl), rfl⟩
    · intro w
      go_enter Tryd.func35, Tryd.ntmps35
      go_wp2_with fail
      refine (I1.out _).mono ?_
      rintro e w1 ⟨rfl, rfl⟩
      go_wp2
      go_ret
      exact ⟨congrArg (fun b => Ending.returned (Value.string b)) (CAT.out [124, 61, 99, 98, 83, 97, 38, 124, 69, 99, 97, 69, 97, 99] _ _ rfl _ rfl), rfl⟩
end Go.Proofs.YtpjfpiohhgoeaaaDoor.df
