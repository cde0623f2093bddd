/- The counting laws in plain words: who is ready, turned and by themselves. -/
import Derived.Test.YtpcnoiigbmiejaaDoorPkY
import Derived.Test.YtpcnoiigbmiejaaDoorPkC
namespace Go.Proofs.YtpcnoiigbmiejaaDoor.pbi
set_option linter.unusedVariables false
set_option linter.unusedSimpArgs false
open Go.Proofs.YtpcnoiigbmiejaaDoor.lib Go.Proofs.YtpcnoiigbmiejaaDoor.peb Go.Proofs.YtpcnoiigbmiejaaDoor.base
theorem signB_symm {la lb : List Int} (h : la.length = lb.length) : signB la lb = signB lb la := by
  unfold signB
  rw [h]
  exact decide_eq_decide.2 ⟨fun k i hi => (k i hi).symm, fun k i hi => (k i hi).symm⟩
theorem readyB_symm {n m : Int} {s r t q : ByteArray} {la lb : List Int} : readyB n s r la m t q lb = readyB m t q lb n s r la := by
  have key : ∀ {n m : Int} {s r t q : ByteArray} {la lb : List Int}, readyB n s r la m t q lb = true → readyB m t q lb n s r la = true := fun {n m s r t q la lb} h => by
    unfold readyB at h ⊢
    simp only [Bool.and_eq_true, decide_eq_true_eq] at h ⊢
    obtain ⟨h1, h2, h3, h4, h5, h6⟩ := h
    exact ⟨h2, h1, h4, h3, h5.symm, by rw [signB_symm h5.symm]; exact h6⟩
  rw [Bool.eq_iff_iff]
  exact ⟨key, key⟩
theorem readyB_self {n m : Int} {s r t q : ByteArray} {la lb : List Int} (h : readyB n s r la m t q lb = true) : readyB n s r la n s r la = true := by
  unfold readyB at h ⊢
  simp only [Bool.and_eq_true, decide_eq_true_eq] at h ⊢
  obtain ⟨h1, h2, h3, h4, h5, h6⟩ := h
  exact ⟨h1, h1, h3, h3, trivial, decide_eq_true fun i _ => Iff.rfl⟩
/-- both numbers are those of structures -/
theorem ready_nat {n m : Int} {s r t q : ByteArray} {la lb : List Int} (h : readyB n s r la m t q lb = true) : (n.toNat : Int) = n ∧ (m.toNat : Int) = m := by
  unfold readyB at h
  simp only [Bool.and_eq_true, decide_eq_true_eq] at h
  have a := (validB_iff.1 h.1).1
  have b := (validB_iff.1 h.2.1).1
  omega
/-- what a counting game answers -/
def cwB (n : Int) (s r : ByteArray) (la : List Int) (m : Int) (t q : ByteArray) (lb : List Int) (T : Nat) : Prop := Cw (gob.gr n.toNat s r) (gob.gr m.toNat t q) T (plc la) (plc lb)
theorem ready_pl {n m : Int} {s r t q : ByteArray} {la lb : List Int} (h : readyB n s r la m t q lb = true) : Pl (gob.gr n.toNat s r) la.length (plc la) ∧ Pl (gob.gr m.toNat t q) la.length (plc lb) := by
  obtain ⟨e1, e2⟩ := ready_nat h
  rw [← e1, ← e2] at h
  have f := ready_facts h
  have key : ∀ {N M : Nat} {ps qs : List Nat}, Lay N M ps qs → (∀ i, i < ps.length → ps.getD i 0 ≤ N) := fun {N M ps qs} hl i hi => (hl i hi).2.1
  refine ⟨⟨plc_len la, fun i hi => (f.lay i hi).2.1⟩, ⟨by rw [plc_len]; exact f.len.symm, fun i hi => (f.lay i (by rw [plc_len] at hi ⊢; rw [f.len]; exact hi)).2.2⟩⟩
theorem ready_pos {n m : Int} {s r t q : ByteArray} {la lb : List Int} (h : readyB n s r la m t q lb = true) : 1 ≤ la.length := by
  obtain ⟨e1, e2⟩ := ready_nat h
  rw [← e1, ← e2] at h
  exact (ready_facts h).sz.2.2.1.1
end Go.Proofs.YtpcnoiigbmiejaaDoor.pbi
