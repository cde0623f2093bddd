/- Formulas in the program: isQuantifier, and whether a letter is a variable. -/
import Derived.Test.YtefneihlgclkbaaFmT
import Derived.Test.YtefneihlgclkbaaFmE
import Derived.Test.YtefneihlgclkbaaShelfF
namespace Go.Proofs.Ytefneihlgclkbaa.fmu
set_option linter.unusedVariables false
set_option linter.unusedSimpArgs false
open Go.Shelf
open Go.ChangeShapes Go.WideShapes Go.ChangeAt Go.RowKit
open Go.Proofs.Ytefneihlgclkbaa.lib Go.Proofs.Ytefneihlgclkbaa.fm Go.Proofs.Ytefneihlgclkbaa.fms Go.Proofs.Ytefneihlgclkbaa.fme Go.Proofs.Ytefneihlgclkbaa.fmt

set_option maxRecDepth 20000 in
theorem q_at0 : ∀ c : Fin 256, decide (0 ≤ Lib.indexByte [65, 83, 50, 51, 52] (UInt8.ofNat c.1)) = isQ c.1 := by decide
set_option maxRecDepth 20000 in
theorem v_at0 : ∀ c : Fin 256, decide (0 ≤ Lib.indexByte [97, 98, 99, 100] (UInt8.ofNat c.1)) = isV (UInt8.ofNat c.1) := by decide
theorem isVar_any (c : UInt8) (w : World) : Calls Try.prog 34 #[.string ⟨#[97, 98, 99, 100]⟩, .string ⟨#[c]⟩] w fun e w' => e = .returned (.bool (isV c)) ∧ w = w' := by
  have h := Any.strings_Contains_one Try.lays144 ⟨#[97, 98, 99, 100]⟩ c w
  refine h.mono fun e w' hh => ⟨?_, hh.2.symm⟩
  have hv := v_at0 ⟨c.toNat, c.toNat_lt⟩
  simp only [UInt8.ofNat_toNat] at hv
  rw [hh.1, ← hv]
theorem isQuantifier_any (T : TypeId) (H : Nat) (op : UInt8) (vs ps : List Nat) (fr al : Nat) (w : World) (hn : fmt.Node T w H op vs ps fr al) :
    Calls Try.prog 31 #[.pointer (some ⟨H, 0, none⟩)] w fun e w' => e = .returned (.bool (isQ op.toNat)) ∧ w = w' := by
  obtain ⟨vv, pv, _, _, c0, _⟩ := hn.cells
  have HQ : Hid (decide (0 ≤ Lib.indexByte [65, 83, 50, 51, 52] op) = isQ op.toNat) := by
    have hv := q_at0 ⟨op.toNat, op.toNat_lt⟩
    simp only [UInt8.ofNat_toNat] at hv
    exact hv
  have HI : Hid (∀ W, Calls Try.prog 36 #[.string ⟨#[65, 83, 50, 51, 52]⟩, .int .u8 op.toNat] W fun e w' => e = .returned (.int .i64 (Lib.indexByte [65, 83, 50, 51, 52] op)) ∧ W = w') := fun W => by
    have h := Any.strings_IndexByte Try.lays137 ⟨#[65, 83, 50, 51, 52]⟩ op.toNat W
    refine h.mono fun e w' hh => ⟨?_, hh.2.symm⟩
    rw [hh.1]
    simp
  obtain ⟨z, hz⟩ : ∃ z, z = Lib.indexByte [65, 83, 50, 51, 52] op := ⟨_, rfl⟩
  rw [← hz] at HQ HI
  clear hz
  go_enter Try.func31, Try.ntmps31
  go_wp2_with fail
  refine (HI.out _).mono ?_
  rintro e w1 ⟨rfl, rfl⟩
  go_wp2
  go_ret
  exact ⟨by rw [← HQ.out]; rfl, rfl⟩
end Go.Proofs.Ytefneihlgclkbaa.fmu
