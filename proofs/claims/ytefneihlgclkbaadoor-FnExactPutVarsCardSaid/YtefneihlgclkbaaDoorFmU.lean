/- Formulas in the program: isQuantifier, and whether a letter is a variable. -/
import Derived.Test.YtefneihlgclkbaaDoorFmT
import Derived.Test.YtefneihlgclkbaaDoorFmE
import Derived.Test.YtefneihlgclkbaaDoorShelfF
namespace Go.Proofs.YtefneihlgclkbaaDoor.fmu
set_option linter.unusedVariables false
set_option linter.unusedSimpArgs false
open Go.Shelf
open Go.ChangeShapes Go.WideShapes Go.ChangeAt Go.RowKit
open Go.Proofs.YtefneihlgclkbaaDoor.lib Go.Proofs.YtefneihlgclkbaaDoor.fm Go.Proofs.YtefneihlgclkbaaDoor.fms Go.Proofs.YtefneihlgclkbaaDoor.fme Go.Proofs.YtefneihlgclkbaaDoor.fmt

set_option maxRecDepth 20000 in
theorem q_at0 : ∀ c : Fin 256, decide (0 ≤ Lib.indexByte [65, 83, 50, 51, 52] (UInt8.ofNat c.1)) = isQ c.1 := by decide
set_option maxRecDepth 20000 in
theorem v_at0 : ∀ c : Fin 256, decide (0 ≤ Lib.indexByte [97, 98, 99, 100] (UInt8.ofNat c.1)) = isV (UInt8.ofNat c.1) := by decide
theorem isVar_any (c : UInt8) (w : World) : Calls Tryd.prog 153 #[.string ⟨#[97, 98, 99, 100]⟩, .string ⟨#[c]⟩] w fun e w' => e = .returned (.bool (isV c)) ∧ w = w' := by
  have h := Any.strings_Contains_one Tryd.lays144 ⟨#[97, 98, 99, 100]⟩ c w
  refine h.mono fun e w' hh => ⟨?_, hh.2.symm⟩
  have hv := v_at0 ⟨c.toNat, c.toNat_lt⟩
  simp only [UInt8.ofNat_toNat] at hv
  rw [hh.1, ← hv]
theorem isQuantifier_any (T : TypeId) (H : Nat) (op : UInt8) (vs ps : List Nat) (fr al : Nat) (w : World) (hn : fmt.Node T w H op vs ps fr al) :
    Calls Tryd.prog 145 #[.pointer (some ⟨H, 0, none⟩)] w fun e w' => e = .returned (.bool (isQ op.toNat)) ∧ w = w' := by
  obtain ⟨vv, pv, _, _, c0, _⟩ := hn.cells
  have HQ : Hid (decide (0 ≤ Lib.indexByte [65, 83, 50, 51, 52] op) = isQ op.toNat) := by
    have hv := q_at0 ⟨op.toNat, op.toNat_lt⟩
    simp only [UInt8.ofNat_toNat] at hv
    exact hv
  have HI : Hid (∀ W, Calls Tryd.prog 158 #[.string ⟨#[65, 83, 50, 51, 52]⟩, .int .u8 op.toNat] W fun e w' => e = .returned (.int .i64 (Lib.indexByte [65, 83, 50, 51, 52] op)) ∧ W = w') := fun W => by
    have h := Any.strings_IndexByte Tryd.lays137 ⟨#[65, 83, 50, 51, 52]⟩ op.toNat W
    refine h.mono fun e w' hh => ⟨?_, hh.2.symm⟩
    rw [hh.1]
    simp
  obtain ⟨z, hz⟩ : ∃ z, z = Lib.indexByte [65, 83, 50, 51, 52] op := ⟨_, rfl⟩
  rw [← hz] at HQ HI
  clear hz
  go_enter Tryd.func145, Tryd.ntmps145
  go_wp2_with fail
  refine (HI.out _).mono ?_
  rintro e w1 ⟨rfl, rfl⟩
  go_wp2
  go_ret
  exact ⟨by rw [← HQ.out]; rfl, rfl⟩
end Go.Proofs.YtefneihlgclkbaaDoor.fmu
