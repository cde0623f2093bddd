/- FnDistanceFormula: the statement, out of the lifted theorem. -/
import Derived.Test.YtpcnoiigbmiejaaDoorFnDistanceFormulaA
namespace Go.Proofs.YtpcnoiigbmiejaaDoor.fnDistanceFormula
set_option linter.unusedVariables false
set_option linter.unusedSimpArgs false
open Go.ChangeShapes Go.WideShapes Go.ChangeAt Go.RowKit
open Go.ChangeMaps (open_string shut_string)
open Go.Proofs.YtpcnoiigbmiejaaDoor.row
set_option linter.unusedVariables false
/-! closed facts of the program, one by one: together they are too much for one declaration -/
theorem j1 : (Rows.fnDistanceFormulaRow.inPlace == Tryd.prog.inPlace 8) = true := by kernel_rfl
theorem j2 : (Rows.fnDistanceFormulaRow.unfollowed == Tryd.prog.unfollowed 8) = true := by kernel_rfl
theorem j3 : (Rows.fnDistanceFormulaRow.recurses == Tryd.prog.recurses 8) = true := by kernel_rfl
theorem j4 : (Rows.fnDistanceFormulaRow.named == Tryd.prog.varsNamed 8) = true := by kernel_rfl
theorem closed : joinedFacts Tryd.prog 8 Tryd.f8 (OpenSpec.ofChange Rows.fnDistanceFormulaSpec).bare Rows.fnDistanceFormulaRow = true := by
  unfold joinedFacts
  rw [j1, j2, j3, j4]
  kernel_rfl
theorem named : Tryd.prog.funcNamed Rows.fnDistanceFormulaRow.func = some 8 := by kernel_rfl
theorem inst : Tryd.f8.isInstance Tryd.prog Rows.fnDistanceFormulaRow.origin Rows.fnDistanceFormulaRow.targs := of_decide_eq_true (by kernel_rfl)
theorem wrapper : Tryd.f8.isWrapper Tryd.prog Rows.fnDistanceFormulaRow.wrapper Rows.fnDistanceFormulaRow.mainSum := by unfold Func.isWrapper; first | (rw [if_pos (by decide +kernel)]; kernel_rfl) | (rw [if_neg (by decide +kernel)]; exact ⟨rfl, rfl⟩)
theorem said : Rows.FnDistanceFormulaSaid :=
  OpenClaim.holds_of_cond 8 Tryd.f8 rfl rfl rfl rfl rfl rfl rfl ⟨rfl, rfl, rfl, rfl, rfl⟩ rfl rfl rfl rfl rfl named Tryd.func8 closed
    inst wrapper
    (fun os started H enc _ F => by rw [OpenClaim.pre_eq_preRow]; exact lifted os started H enc F)
theorem plain (f : FuncId) (fn : Func) (hf : Tryd.pinned.checked.prog.funcNamed Rows.fnDistanceFormulaRow.func = some f) (hfn : Tryd.pinned.checked.prog.funcs[f]? = some fn) :
    false = Tryd.pinned.checked.prog.looks [] ∧ ∀ (j : Nat) t, fn.params[j]? = some t → Tryd.pinned.checked.prog.wantsStandIn t = false := by
  obtain rfl : f = 8 := Option.some.inj ((show Tryd.prog.funcNamed Rows.fnDistanceFormulaRow.func = some 8 by kernel_rfl).symm.trans hf) |>.symm
  obtain rfl : fn = Tryd.f8 := (Option.some.inj (Tryd.func8.symm.trans hfn)).symm
  refine ⟨by kernel_rfl, fun j t ht => ?_⟩
  rw [Tryd.params8] at ht
  have hall : (#[22, 22] : Array TypeId).toList.all (fun t => !Tryd.prog.wantsStandIn t) = true := by kernel_rfl
  have := List.all_eq_true.1 hall t (Array.mem_toList_iff.2 (Array.mem_of_getElem? ht))
  have h2 : Tryd.prog.wantsStandIn t = false := by simpa using this
  exact h2
/-- THE CARD -/
theorem card : Rows.FnDistanceFormulaCardSaid :=
  Claim7.holds_tied_plain_at .later [] _ _ _ _ said (fun _ h => by cases h) (by kernel_rfl) (fun _ h => by cases h) fnDistanceFormula_row_tie rfl ⟨rfl, rfl⟩ (by kernel_rfl) rfl plain (by kernel_rfl)
end Go.Proofs.YtpcnoiigbmiejaaDoor.fnDistanceFormula
