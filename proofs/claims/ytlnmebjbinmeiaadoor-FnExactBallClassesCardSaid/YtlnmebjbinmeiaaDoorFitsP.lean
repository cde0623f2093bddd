/- The reference's way to see whether an element may stand behind others, and what a first element does: plain words. -/
import Derived.Test.YtlnmebjbinmeiaaDoorFits
namespace Go.Proofs.YtlnmebjbinmeiaaDoor.fits
set_option linter.unusedVariables false
set_option linter.unusedSimpArgs false
open Go.Proofs.YtlnmebjbinmeiaaDoor.base Go.Proofs.YtlnmebjbinmeiaaDoor.ord

/-- the element at i of those that more ends with x is to x as i is to the last place -/
def stepF (n : Nat) (ra rb : ByteArray) (more : List Nat) (x m i : Nat) : Bool :=
  ((more.getD i 0 == x) == (i == m)) && ((bitAt ra (more.getD i 0 * n + x) == bitAt rb (i * n + m)) && (bitAt ra (x * n + more.getD i 0) == bitAt rb (m * n + i)))
def fitsB (n : Nat) (sa ra sb rb : ByteArray) (more : List Nat) (x m : Nat) : Bool := (bitAt sa x == bitAt sb m) && (List.range (m + 1)).all (stepF n ra rb more x m)

theorem all_and {α : Type} (l : List α) (p q : α → Bool) : l.all (fun x => p x && q x) = (l.all p && l.all q) := by
  induction l with
  | nil => rfl
  | cons a l ih => simp only [List.all_cons, ih]; cases p a <;> cases q a <;> cases l.all p <;> simp
theorem all_congr {α : Type} {l : List α} {p q : α → Bool} (h : ∀ a, a ∈ l → p a = q a) : l.all p = l.all q := by
  rw [Bool.eq_iff_iff, List.all_eq_true, List.all_eq_true]
  exact ⟨fun k a ha => by rw [← h a ha]; exact k a ha, fun k a ha => by rw [h a ha]; exact k a ha⟩
theorem contains_range (pre : List Nat) (x : Nat) : (List.range pre.length).all (fun i => !(pre.getD i 0 == x)) = !pre.contains x := by
  rw [Bool.eq_iff_iff, List.all_eq_true, Bool.not_eq_true', ← Bool.not_eq_true, List.contains_iff_mem]
  constructor
  · intro h hx
    obtain ⟨i, hi, e⟩ := List.getElem_of_mem hx
    have := h i (List.mem_range.2 hi)
    rw [List.getD_eq_getElem?_getD, List.getElem?_eq_getElem hi] at this
    simp [e] at this
  · intro h i hi
    have hi := List.mem_range.1 hi
    rw [List.getD_eq_getElem?_getD, List.getElem?_eq_getElem hi]
    simp only [Option.getD_some, Bool.not_eq_true', beq_eq_false_iff_ne]
    exact fun e => h (by rw [← e]; exact List.getElem_mem hi)
theorem fitsB_ok (n : Nat) (sa ra sb rb : ByteArray) (pre : List Nat) (x : Nat) : fitsB n sa ra sb rb (pre ++ [x]) x pre.length = okB n sa ra sb rb pre x := by
  unfold fitsB okB placedB
  have h1 : (List.range (pre.length + 1)).all (stepF n ra rb (pre ++ [x]) x pre.length) = ((bitAt ra (x * n + x) == bitAt rb (pre.length * n + pre.length)) && (!pre.contains x && (List.range pre.length).all (stepB n ra rb pre x))) := by
    rw [List.range_succ, List.all_append, ← contains_range, ← all_and]
    have hl : [pre.length].all (stepF n ra rb (pre ++ [x]) x pre.length) = (bitAt ra (x * n + x) == bitAt rb (pre.length * n + pre.length)) := by
      simp [stepF]
    rw [hl, Bool.and_comm]
    congr 1
    refine all_congr fun i hi => ?_
    have hi := List.mem_range.1 hi
    have hg : (pre ++ [x]).getD i 0 = pre.getD i 0 := by simp [List.getD_eq_getElem?_getD, List.getElem?_append_left hi]
    have he : (i == pre.length) = false := by simpa using Nat.ne_of_lt hi
    unfold stepF stepB
    rw [hg, he]
    cases (pre.getD i 0 == x) <;> simp [Bool.and_comm]
  rw [h1]
  cases (bitAt sa x == bitAt sb pre.length) <;> cases (bitAt ra (x * n + x) == bitAt rb (pre.length * n + pre.length)) <;> cases pre.contains x <;> simp

/-- a first element fits if the bits are alike -/
theorem okB_zero (n : Nat) (sa ra sb rb : ByteArray) : okB n sa ra sb rb [] 0 = ((bitAt sa 0 == bitAt sb 0) && (bitAt ra 0 == bitAt rb 0)) := by
  simp [okB, placedB]
end Go.Proofs.YtlnmebjbinmeiaaDoor.fits
