/- Orders of the elements of a structure that fit another one: what the search tells, and in which order. No program in sight. -/
import Derived.WalkKit
namespace Go.Proofs.YtlnmebjbinmeiaaDoor.ord
set_option linter.unusedVariables false
set_option linter.unusedSimpArgs false

/-- the orders that begin with pre and take d elements more, each of which may be had behind those ahead of it -/
def ords (n : Nat) (ok : List Nat → Nat → Bool) : Nat → List Nat → List (List Nat)
  | 0, pre => [pre]
  | d + 1, pre => (List.range n).flatMap fun x => if ok pre x = true then ords n ok d (pre ++ [x]) else []
/-- those of them whose next element is less than k -/
def upto (n : Nat) (ok : List Nat → Nat → Bool) (d : Nat) (pre : List Nat) (k : Nat) : List (List Nat) :=
  (List.range k).flatMap fun x => if ok pre x = true then ords n ok d (pre ++ [x]) else []
theorem upto_zero (n : Nat) (ok : List Nat → Nat → Bool) (d : Nat) (pre : List Nat) : upto n ok d pre 0 = [] := rfl
theorem upto_full (n : Nat) (ok : List Nat → Nat → Bool) (d : Nat) (pre : List Nat) : upto n ok d pre n = ords n ok (d + 1) pre := rfl
theorem upto_yes {n : Nat} {ok : List Nat → Nat → Bool} {d : Nat} {pre : List Nat} {k : Nat} (h : ok pre k = true) : upto n ok d pre (k + 1) = upto n ok d pre k ++ ords n ok d (pre ++ [k]) := by
  simp [upto, List.range_succ, h]
theorem upto_no {n : Nat} {ok : List Nat → Nat → Bool} {d : Nat} {pre : List Nat} {k : Nat} (h : ok pre k = false) : upto n ok d pre (k + 1) = upto n ok d pre k := by
  simp [upto, List.range_succ, h]
theorem upto_part (n : Nat) (ok : List Nat → Nat → Bool) (d : Nat) (pre : List Nat) {k : Nat} (h : k ≤ n) : ∃ m, ords n ok (d + 1) pre = upto n ok d pre k ++ m := by
  obtain ⟨j, rfl⟩ := Nat.le.dest h
  refine ⟨(((List.range j).map (k + ·)).flatMap fun x => if ok pre x = true then ords (k + j) ok d (pre ++ [x]) else []), ?_⟩
  rw [← upto_full, upto, List.range_add, List.flatMap_append]
  rfl

/-- telling one after another, until it is enough -/
def run {σ : Type} (st : σ → List Nat → σ × Bool) : List (List Nat) → σ → σ × Bool
  | [], s => (s, true)
  | o :: os, s => if (st s o).2 = true then run st os (st s o).1 else ((st s o).1, false)
theorem run_app {σ : Type} (st : σ → List Nat → σ × Bool) : ∀ (l m : List (List Nat)) (s : σ), run st (l ++ m) s = if (run st l s).2 = true then run st m (run st l s).1 else ((run st l s).1, false)
  | [], m, s => by simp [run]
  | o :: os, m, s => by
    by_cases h : (st s o).2 = true
    · simp only [List.cons_append, run, h, if_true]; exact run_app st os m _
    · simp [run, h]
theorem run_on {σ : Type} {st : σ → List Nat → σ × Bool} {l : List (List Nat)} {s s' : σ} (h : run st l s = (s', true)) (m : List (List Nat)) : run st (l ++ m) s = run st m s' := by rw [run_app, h]; rfl
theorem run_stop {σ : Type} {st : σ → List Nat → σ × Bool} {l : List (List Nat)} {s s' : σ} (h : run st l s = (s', false)) (m : List (List Nat)) : run st (l ++ m) s = (s', false) := by rw [run_app, h]; rfl
theorem run_one {σ : Type} (st : σ → List Nat → σ × Bool) (o : List Nat) (s : σ) : run st [o] s = st s o := by
  obtain ⟨t, b, h⟩ : ∃ t b, st s o = (t, b) := ⟨_, _, rfl⟩
  cases b <;> simp [run, h]

/-- what is among them -/
theorem mem_ords {n : Nat} {ok : List Nat → Nat → Bool} : ∀ {d : Nat} {pre o : List Nat}, o ∈ ords n ok d pre ↔ ∃ l : List Nat, o = pre ++ l ∧ l.length = d ∧ ∀ i, i < d → l.getD i 0 < n ∧ ok (pre ++ l.take i) (l.getD i 0) = true
  | 0, pre, o => by
    simp only [ords, List.mem_singleton]
    constructor
    · rintro rfl; exact ⟨[], by simp, rfl, fun i hi => by omega⟩
    · rintro ⟨l, rfl, hl, _⟩; rw [List.length_eq_zero_iff.1 hl]; simp
  | d + 1, pre, o => by
    simp only [ords, List.mem_flatMap, List.mem_range]
    constructor
    · rintro ⟨x, hx, h⟩
      split at h
      · rename_i hok
        obtain ⟨l, rfl, hl, hi⟩ := mem_ords.1 h
        refine ⟨x :: l, by simp, by simp [hl], fun i hid => ?_⟩
        cases i with
        | zero => simpa using ⟨hx, hok⟩
        | succ i =>
          have := hi i (by omega)
          simpa using this
      · cases h
    · rintro ⟨l, rfl, hl, hi⟩
      cases l with
      | nil => simp at hl
      | cons x l =>
        have h0 := hi 0 (by omega)
        simp at h0
        refine ⟨x, h0.1, ?_⟩
        rw [if_pos h0.2]
        refine mem_ords.2 ⟨l, by simp, by simpa using hl, fun i hid => ?_⟩
        have := hi (i + 1) (by omega)
        simpa using this
theorem ords_len {n : Nat} {ok : List Nat → Nat → Bool} {d : Nat} {pre o : List Nat} (h : o ∈ ords n ok d pre) : o.length = pre.length + d := by
  obtain ⟨l, rfl, hl, _⟩ := mem_ords.1 h
  simp [hl]

/-- the first one, as a search that stops there -/
def first : List Nat → List (List Nat) → Option (List Nat)
  | _, [] => none
  | _, o :: _ => some o
theorem head_app {α : Type} (l m : List α) : (l ++ m).head? = l.head?.or m.head? := by cases l <;> simp

/-- the first elements: an order that begins with 0 stands ahead of all others -/
theorem head_zero {n : Nat} {ok : List Nat → Nat → Bool} {d : Nat} (hn : 1 ≤ n) : (ords n ok (d + 1) []).head?.any (fun o => o.getD 0 0 == 0) = (ok [] 0 && !(ords n ok d [0]).isEmpty) := by
  obtain ⟨m, rfl⟩ := Nat.exists_eq_add_of_le hn
  have hb : ∀ x o, o ∈ (if ok [] x = true then ords (1 + m) ok d ([] ++ [x]) else []) → o.getD 0 0 = x := by
    intro x o ho
    split at ho
    · obtain ⟨l, rfl, _, _⟩ := mem_ords.1 ho; simp
    · cases ho
  rw [ords, List.range_add, List.flatMap_append]
  have e0 : ((List.range 1).flatMap fun x => if ok [] x = true then ords (1 + m) ok d ([] ++ [x]) else []) = (if ok [] 0 = true then ords (1 + m) ok d [0] else []) := by simp [List.range_succ]
  rw [e0]
  cases hf : (if ok [] 0 = true then ords (1 + m) ok d [0] else []) with
  | cons o os =>
    have h0 : ok [] 0 = true := by
      cases h : ok [] 0 with
      | true => rfl
      | false => rw [h] at hf; simp at hf
    rw [if_pos h0] at hf
    have := hb 0 o (by rw [if_pos h0]; simp [hf])
    simp [h0, hf]
    simpa using this
  | nil =>
    have e1 : (ok [] 0 && !(ords (1 + m) ok d [0]).isEmpty) = false := by
      cases h : ok [] 0 with
      | false => rfl
      | true => rw [if_pos h] at hf; rw [hf]; rfl
    rw [e1, List.nil_append]
    cases hh : (((List.range m).map (1 + ·)).flatMap fun x => if ok [] x = true then ords (1 + m) ok d ([] ++ [x]) else []).head? with
    | none => rfl
    | some o =>
      have hm := List.mem_of_head? hh
      obtain ⟨x, hx, ho⟩ := List.mem_flatMap.1 hm
      obtain ⟨y, _, rfl⟩ := List.mem_map.1 hx
      have := hb _ o ho
      simp only [Option.any_some]
      rw [this]
      simp
end Go.Proofs.YtlnmebjbinmeiaaDoor.ord
