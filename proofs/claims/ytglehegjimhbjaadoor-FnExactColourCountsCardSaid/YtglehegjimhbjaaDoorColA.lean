/- The descriptions of several structures, one behind the other: plain words for the program's coloursAfter. -/
import Derived.Test.YtglehegjimhbjaaDoorCol
namespace Go.Proofs.YtglehegjimhbjaaDoor.cola
set_option linter.unusedVariables false
set_option linter.unusedSimpArgs false
open Go.Proofs.YtglehegjimhbjaaDoor.lib Go.Proofs.YtglehegjimhbjaaDoor.st Go.Proofs.YtglehegjimhbjaaDoor.base Go.Proofs.YtglehegjimhbjaaDoor.col Go.Proofs.YtglehegjimhbjaaDoor.colp

theorem firsts_take : ∀ (As : List St) (i : Nat) (a : St), As[i]? = some a → firsts (As.take (i + 1)) = firsts (As.take i) ++ (List.range a.n).map (d0 a)
  | [], i, a, h => by simp at h
  | b :: As, 0, a, h => by
    simp only [List.getElem?_cons_zero, Option.some.injEq] at h
    subst h
    simp [firsts]
  | b :: As, i + 1, a, h => by
    rw [List.getElem?_cons_succ] at h
    rw [List.take_succ_cons, List.take_succ_cons, firsts, firsts, firsts_take As i a h, List.append_assoc]
theorem total_take : ∀ (As : List St) (i : Nat) (a : St), As[i]? = some a → total (As.take (i + 1)) = total (As.take i) + a.n
  | [], i, a, h => by simp at h
  | b :: As, 0, a, h => by
    simp only [List.getElem?_cons_zero, Option.some.injEq] at h
    subst h
    simp [total]
  | b :: As, i + 1, a, h => by
    rw [List.getElem?_cons_succ] at h
    rw [List.take_succ_cons, List.take_succ_cons, total, total, total_take As i a h, Nat.add_assoc]
theorem nexts_take : ∀ (As : List St) (c : List Int) (i : Nat) (a : St), As[i]? = some a → nexts (As.take (i + 1)) c = nexts (As.take i) c ++ (List.range a.n).map (desc a ((c.drop (total (As.take i))).take a.n))
  | [], c, i, a, h => by simp at h
  | b :: As, c, 0, a, h => by
    simp only [List.getElem?_cons_zero, Option.some.injEq] at h
    subst h
    simp [nexts, total]
  | b :: As, c, i + 1, a, h => by
    rw [List.getElem?_cons_succ] at h
    rw [List.take_succ_cons, List.take_succ_cons, nexts, nexts, nexts_take As (c.drop b.n) i a h, List.append_assoc, total, List.drop_drop]
end Go.Proofs.YtglehegjimhbjaaDoor.cola
