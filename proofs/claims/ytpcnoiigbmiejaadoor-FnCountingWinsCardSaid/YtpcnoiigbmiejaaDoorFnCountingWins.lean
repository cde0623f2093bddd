/- FnCountingWins: the statement, out of the lifted theorem. -/
import Derived.Test.YtpcnoiigbmiejaaDoorFnCountingWinsA
namespace Go.Proofs.YtpcnoiigbmiejaaDoor.fnCountingWins
set_option linter.unusedVariables false
set_option linter.unusedSimpArgs false
open Go.ChangeShapes Go.WideShapes Go.ChangeAt Go.RowKit
open Go.ChangeMaps (open_string shut_string)
open Go.Proofs.YtpcnoiigbmiejaaDoor.row
set_option linter.unusedVariables false
/-! closed facts of the program, one by one: together they are too much for one declaration -/
theorem j1 : (Rows.fnCountingWinsRow.inPlace == Tryd.prog.inPlace 5) = true := by kernel_rfl
theorem j2 : (Rows.fnCountingWinsRow.unfollowed == Tryd.prog.unfollowed 5) = true := by kernel_rfl
theorem j3 : (Rows.fnCountingWinsRow.recurses == Tryd.prog.recurses 5) = true := by kernel_rfl
theorem j4 : (Rows.fnCountingWinsRow.named == Tryd.prog.varsNamed 5) = true := by kernel_rfl
theorem closed : joinedFacts Tryd.prog 5 Tryd.f5 (OpenSpec.ofChange Rows.fnCountingWinsSpec).bare Rows.fnCountingWinsRow = true := by
  unfold joinedFacts
  rw [j1, j2, j3, j4]
  kernel_rfl
theorem named : Tryd.prog.funcNamed Rows.fnCountingWinsRow.func = some 5 := by kernel_rfl
theorem inst : Tryd.f5.isInstance Tryd.prog Rows.fnCountingWinsRow.origin Rows.fnCountingWinsRow.targs := of_decide_eq_true (by kernel_rfl)
theorem wrapper : Tryd.f5.isWrapper Tryd.prog Rows.fnCountingWinsRow.wrapper Rows.fnCountingWinsRow.mainSum := by unfold Func.isWrapper; first | (rw [if_pos (by decide +kernel)]; kernel_rfl) | (rw [if_neg (by decide +kernel)]; exact ⟨rfl, rfl⟩)
theorem said : Rows.FnCountingWinsSaid :=
  OpenClaim.holds_of_cond 5 Tryd.f5 rfl rfl rfl rfl rfl rfl rfl ⟨rfl, rfl, rfl, rfl, rfl⟩ rfl rfl rfl rfl rfl named Tryd.func5 closed
    inst wrapper
    (fun os started H enc _ F => by rw [OpenClaim.pre_eq_preRow]; exact lifted os started H enc F)
theorem plain (f : FuncId) (fn : Func) (hf : Tryd.pinned.checked.prog.funcNamed Rows.fnCountingWinsRow.func = some f) (hfn : Tryd.pinned.checked.prog.funcs[f]? = some fn) :
    false = Tryd.pinned.checked.prog.looks [] ∧ ∀ (j : Nat) t, fn.params[j]? = some t → Tryd.pinned.checked.prog.wantsStandIn t = false := by
  obtain rfl : f = 5 := Option.some.inj ((show Tryd.prog.funcNamed Rows.fnCountingWinsRow.func = some 5 by kernel_rfl).symm.trans hf) |>.symm
  obtain rfl : fn = Tryd.f5 := (Option.some.inj (Tryd.func5.symm.trans hfn)).symm
  refine ⟨by kernel_rfl, fun j t ht => ?_⟩
  rw [Tryd.params5] at ht
  have hall : (#[22] : Array TypeId).toList.all (fun t => !Tryd.prog.wantsStandIn t) = true := by kernel_rfl
  have := List.all_eq_true.1 hall t (Array.mem_toList_iff.2 (Array.mem_of_getElem? ht))
  have h2 : Tryd.prog.wantsStandIn t = false := by simpa using this
  exact h2
/-- THE CARD -/
theorem card : Rows.FnCountingWinsCardSaid :=
  Claim7.holds_tied_plain_at .later [] _ _ _ _ said (fun _ h => by cases h) (by kernel_rfl) (fun _ h => by cases h) fnCountingWins_row_tie rfl ⟨rfl, rfl⟩ (by kernel_rfl) rfl plain (by kernel_rfl)
end Go.Proofs.YtpcnoiigbmiejaaDoor.fnCountingWins
