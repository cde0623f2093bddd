/- Formulas in the program: parsePart, letters with variables alone. -/
import Derived.Test.YtefneihlgclkbaaFmX
namespace Go.Proofs.Ytefneihlgclkbaa.fmy
set_option linter.unusedVariables false
set_option linter.unusedSimpArgs false
open Go.ChangeShapes Go.WideShapes Go.ChangeAt Go.RowKit
open Go.Proofs.Ytefneihlgclkbaa.lib Go.Proofs.Ytefneihlgclkbaa.fm Go.Proofs.Ytefneihlgclkbaa.fmp Go.Proofs.Ytefneihlgclkbaa.fmt Go.Proofs.Ytefneihlgclkbaa.fmu Go.Proofs.Ytefneihlgclkbaa.fme Go.Proofs.Ytefneihlgclkbaa.fmf Go.Proofs.Ytefneihlgclkbaa.fmw Go.Proofs.Ytefneihlgclkbaa.fmx

theorem tree_p {w w2 : World} {C H lo : Nat} {op : UInt8} {v p : Value} {m : Nat} (ho : op = 80) (h : Nd w C H op v p [m] [] (alls [m]) (alls [m])) (hlo : lo ≤ H) (hg : Agree lo w.heap.size w w2) : fmt.Node 49 w2 H 80 [m] [] (1 <<< m) (1 <<< m) := by
  subst ho
  have := h.nodeS hlo hg
  rw [show alls [m] = 1 <<< m from Nat.zero_or _] at this
  exact this
theorem tree_r {w w2 : World} {C H lo : Nat} {op : UInt8} {v p : Value} {m u : Nat} (h : Nd w C H op v p [m, u] [] (alls [m, u]) (alls [m, u])) (hlo : lo ≤ H) (hg : Agree lo w.heap.size w w2) : fmt.Node 49 w2 H op [m, u] [] (1 <<< m ||| 1 <<< u) (1 <<< m ||| 1 <<< u) := by
  have := h.nodeS hlo hg
  rw [show alls [m, u] = 1 <<< m ||| 1 <<< u from congrArg (· ||| 1 <<< u) (Nat.zero_or _)] at this
  exact this
theorem read_rv {c v : UInt8} {l : List UInt8} (h : sort c = .r) (hv : isV v = false) : read (c :: (([] : List Nat).map vb ++ v :: l)) = none := by
  cases l with
  | nil => exact read_r1 h
  | cons u l => exact read_rn h (by rw [hv]; simp)
theorem read_ru {c u : UInt8} {l : List UInt8} {us : List Nat} (h : sort c = .r) (hul : us.length = 1) (hv : isV u = false) : read (c :: (us.map vb ++ u :: l)) = none := by
  match us, hul with
  | [m], _ => exact read_rn h (by rw [hv]; simp)
theorem read_re {c : UInt8} {us : List Nat} (h : sort c = .r) (hul : us.length = 1) : read (c :: (us.map vb ++ [])) = none := by
  match us, hul with
  | [m], _ => exact read_r1 h

end Go.Proofs.Ytefneihlgclkbaa.fmy
