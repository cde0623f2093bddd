/- Opening of a row's argument: a structure by value. -/
import Derived.Test.YtglehegjimhbjaaDoorRows
import Derived.Test.YtglehegjimhbjaaDoorRow
namespace Go.Proofs.YtglehegjimhbjaaDoor.row
set_option linter.unusedVariables false
set_option linter.unusedSimpArgs false
open Go.ChangeShapes Go.WideShapes Go.ChangeAt Go.RowKit
open Go.ChangeMaps (open_string shut_string)

theorem cellsS : Tryd.prog.cellsOf 23 = 3 := by kernel_rfl
set_option maxRecDepth 100000 in
theorem struct_of {H : Type} {enc : TypeId × Value → H} {W : World} {v : Value} {d : DataW H} {p : List MemPlace} {base : Nat} (hv : Value.okWide Tryd.prog W .any base 23 v) (h : DataW.Trod enc Tryd.prog W 0 (fun _ => true) true 23 v d p) :
    ∃ (n : Int) (s r : ByteArray), v = .agg #[.int .i64 n, .string s, .string r] ∧ (Lit.int .i64 n).wf = true ∧ s.size ≤ maxLen ∧ r.size ≤ maxLen := by
  obtain ⟨c0, c1, c2, y0, y1, y2, m, rfl, rfl, rfl, h0, h1, h2⟩ := Joins.open_agg3 Tryd.underlying23 (by kernel_rfl) cellsS hv h
  obtain ⟨n, e0, _, w0⟩ := DataW.trod_int Tryd.underlying3 h0
  obtain ⟨s, e1, _, w1⟩ := DataW.trod_string Tryd.underlying9 h1
  obtain ⟨r, e2, _, w2⟩ := DataW.trod_string Tryd.underlying9 h2
  simp at e0 e1 e2
  subst e0 e1 e2
  exact ⟨n, s, r, rfl, w0, w1, w2⟩

end Go.Proofs.YtglehegjimhbjaaDoor.row
