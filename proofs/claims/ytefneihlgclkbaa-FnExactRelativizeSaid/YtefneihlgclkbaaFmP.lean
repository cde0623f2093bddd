/- Formulas in the reference: where one ends, in plain words. -/
import Derived.Test.YtefneihlgclkbaaFmS
namespace Go.Proofs.Ytefneihlgclkbaa.fmp
set_option linter.unusedVariables false
set_option linter.unusedSimpArgs false
open Go.ChangeShapes Go.WideShapes Go.ChangeAt Go.RowKit
open Go.Proofs.Ytefneihlgclkbaa.lib Go.Proofs.Ytefneihlgclkbaa.fm Go.Proofs.Ytefneihlgclkbaa.fms

/-- where the formula that begins at k ends -/
def endI (f : ByteArray) (k : Nat) : Int := match read (f.data.toList.drop k) with
  | some (_, t) => ((f.size - t.length : Nat) : Int)
  | none => -1
theorem lsz (f : ByteArray) : f.data.toList.length = f.size := by simp
theorem drop_at {f : ByteArray} {k : Nat} (h : k < f.size) : f.data.toList.drop k = f[k] :: f.data.toList.drop (k + 1) := by
  rw [List.drop_eq_getElem_cons (by simpa using h)]; rfl
theorem tail_of {f : ByteArray} {k : Nat} {t : List UInt8} (h : t <:+ f.data.toList.drop k) : t = f.data.toList.drop (f.size - t.length) := by
  obtain ⟨p, hp⟩ := h
  have hl := congrArg List.length hp
  rw [List.length_append, List.length_drop, lsz] at hl
  have h2 : t = (f.data.toList.drop k).drop p.length := by rw [← hp]; simp
  by_cases ht : t.length = 0
  · have : t = [] := List.length_eq_zero_iff.1 ht
    rw [this, List.length_nil, Nat.sub_zero, List.drop_of_length_le (by rw [lsz]; omega)]
  rw [List.drop_drop] at h2
  rw [show f.size - t.length = k + p.length from by omega]
  exact h2
theorem read_suff {l t : List UInt8} {a : Fm} (h : read l = some (a, t)) : t <:+ l := ⟨a.txt, (read_sound h).2.1.symm⟩
theorem end_top {f : ByteArray} : endI f f.size = -1 := by unfold endI; rw [List.drop_of_length_le (by rw [lsz]; exact Nat.le_refl _), read_nil]
theorem varI_of {f : ByteArray} {k : Nat} (h : k < f.size) : varI f k = if isV f[k] = true then ((vn f[k] : Nat) : Int) else -1 := by unfold varI; rw [fms.get_at h]
theorem varI_top {f : ByteArray} {k : Nat} (h : f.size ≤ k) : varI f k = -1 := by unfold varI; rw [List.getElem?_eq_none (by rw [lsz]; exact h)]
theorem case_tf {f : ByteArray} {k : Nat} (h : k < f.size) (hs : sort f[k] = .tf) : endI f k = ((k + 1 : Nat) : Int) := by
  unfold endI
  rw [drop_at h, read_tf hs]
  show ((f.size - (f.data.toList.drop (k + 1)).length : Nat) : Int) = _
  rw [List.length_drop, lsz]
  congr 1; omega
theorem case_bad {f : ByteArray} {k : Nat} (h : k < f.size) (hs : sort f[k] = .bad) : endI f k = -1 := by
  unfold endI
  rw [drop_at h, read_bad hs]
theorem case_p {f : ByteArray} {k : Nat} (h : k < f.size) (hs : sort f[k] = .p) : (∃ m : Nat, varI f (k + 1) = m ∧ endI f k = ((k + 2 : Nat) : Int)) ∨ (varI f (k + 1) = -1 ∧ endI f k = -1) := by
  unfold endI
  rw [drop_at h]
  by_cases h1 : k + 1 < f.size
  · rw [drop_at h1, varI_of h1]
    cases hv : isV f[k + 1] with
    | true =>
      refine .inl ⟨_, by rw [if_pos rfl], ?_⟩
      rw [read_p hs hv]
      show ((f.size - (f.data.toList.drop (k + 1 + 1)).length : Nat) : Int) = _
      rw [List.length_drop, lsz]
      congr 1; omega
    | false => exact .inr ⟨by simp, by rw [read_pn hs hv]⟩
  · rw [List.drop_of_length_le (by rw [lsz]; omega), read_p0 hs]
    exact .inr ⟨varI_top (by omega), rfl⟩
theorem case_r {f : ByteArray} {k : Nat} (h : k < f.size) (hs : sort f[k] = .r) : (∃ m n : Nat, varI f (k + 1) = m ∧ varI f (k + 2) = n ∧ endI f k = ((k + 3 : Nat) : Int)) ∨ (varI f (k + 1) = -1 ∧ endI f k = -1) ∨ (∃ m : Nat, varI f (k + 1) = m ∧ varI f (k + 2) = -1 ∧ endI f k = -1) := by
  unfold endI
  rw [drop_at h]
  by_cases h1 : k + 1 < f.size
  · rw [drop_at h1, varI_of h1]
    by_cases h2 : k + 2 < f.size
    · rw [drop_at (f := f) (k := k + 1 + 1) h2, varI_of h2]
      cases hv : isV f[k + 1] with
      | true =>
        cases hu : isV f[k + 2] with
        | true =>
          refine .inl ⟨_, _, by rw [if_pos rfl], by rw [if_pos rfl], ?_⟩
          rw [read_r hs hv hu]
          show ((f.size - (f.data.toList.drop (k + 1 + 1 + 1)).length : Nat) : Int) = _
          rw [List.length_drop, lsz]
          congr 1; omega
        | false => exact .inr (.inr ⟨_, by rw [if_pos rfl], by simp, by rw [read_rn hs (fun ⟨_, x⟩ => by rw [hu] at x; cases x)]⟩)
      | false => exact .inr (.inl ⟨by simp, by rw [read_rn hs (fun ⟨x, _⟩ => by rw [hv] at x; cases x)]⟩)
    · rw [List.drop_of_length_le (i := k + 1 + 1) (by rw [lsz]; omega), read_r1 hs, varI_top (k := k + 2) (by omega)]
      cases hv : isV f[k + 1] with
      | true => exact .inr (.inr ⟨_, by rw [if_pos rfl], rfl, rfl⟩)
      | false => exact .inr (.inl ⟨by simp, rfl⟩)
  · rw [List.drop_of_length_le (by rw [lsz]; omega), read_r0 hs]
    exact .inr (.inl ⟨varI_top (by omega), rfl⟩)
theorem case_no {f : ByteArray} {k : Nat} (h : k < f.size) (hs : sort f[k] = .no) : endI f k = endI f (k + 1) := by
  unfold endI
  rw [drop_at h, read_no hs]
  cases read (f.data.toList.drop (k + 1)) with
  | none => rfl
  | some x => rfl
theorem case_two {f : ByteArray} {k : Nat} (h : k < f.size) (hs : sort f[k] = .two) : (endI f (k + 1) = -1 ∧ endI f k = -1) ∨ (∃ j : Nat, endI f (k + 1) = j ∧ k < j ∧ j ≤ f.size ∧ endI f k = endI f j) := by
  have he : endI f k = match read (f[k] :: f.data.toList.drop (k + 1)) with
    | some (_, t) => ((f.size - t.length : Nat) : Int)
    | none => -1 := by conv => lhs; unfold endI; rw [drop_at h]
  rw [he, read_two hs]
  cases h1 : read (f.data.toList.drop (k + 1)) with
  | none => exact .inl ⟨by unfold endI; rw [h1], rfl⟩
  | some x =>
    obtain ⟨a, t⟩ := x
    have h2 := (read_sound h1).2.2
    rw [List.length_drop, lsz] at h2
    have h3 := tail_of (read_suff h1)
    refine .inr ⟨f.size - t.length, by unfold endI; rw [h1], by omega, by omega, ?_⟩
    unfold endI
    rw [← h3]
    cases h9 : read t with
    | none => simp only [h9]
    | some x => simp only [h9]
theorem case_qu {f : ByteArray} {k : Nat} (h : k < f.size) (hs : sort f[k] = .qu) : (varI f (k + 1) = -1 ∧ endI f k = -1) ∨ (∃ m : Nat, varI f (k + 1) = m ∧ k + 2 ≤ f.size ∧ endI f k = endI f (k + 2)) := by
  unfold endI
  rw [drop_at h]
  by_cases h1 : k + 1 < f.size
  · rw [drop_at h1, varI_of h1]
    cases hv : isV f[k + 1] with
    | true =>
      refine .inr ⟨_, by rw [if_pos rfl], by omega, ?_⟩
      rw [read_qu hs hv]
      show _ = match read (f.data.toList.drop (k + 1 + 1)) with
        | some (_, t) => ((f.size - t.length : Nat) : Int)
        | none => -1
      cases read (f.data.toList.drop (k + 1 + 1)) with
      | none => rfl
      | some x => rfl
    | false => exact .inl ⟨by simp, by rw [read_qun hs hv]⟩
  · rw [List.drop_of_length_le (by rw [lsz]; omega), read_qu0 hs]
    exact .inl ⟨varI_top (by omega), rfl⟩
theorem sort_of {c : UInt8} {s : Sor} (n : Nat) (h : c.toNat = n) (hn : sort (UInt8.ofNat n) = s) : sort c = s := by
  rw [← hn, ← h, UInt8.ofNat_toNat]
theorem sort_none {c : UInt8} (h : ∀ n, n ∈ [116, 102, 80, 61, 69, 33, 38, 124, 65, 83, 50, 51, 52] → c.toNat ≠ n) : sort c = .bad := by
  have e : ∀ n : Nat, n ∈ [116, 102, 80, 61, 69, 33, 38, 124, 65, 83, 50, 51, 52] → n < 256 → c ≠ UInt8.ofNat n := fun n hn h2 hc => h n hn (by rw [hc, UInt8.toNat_ofNat']; exact Nat.mod_eq_of_lt h2)
  unfold sort
  rw [if_neg (by rintro (h | h) <;> first | exact e 116 (by decide) (by decide) h | exact e 102 (by decide) (by decide) h), if_neg (show ¬ c = 80 from e 80 (by decide) (by decide)), if_neg (by rintro (h | h) <;> first | exact e 61 (by decide) (by decide) h | exact e 69 (by decide) (by decide) h), if_neg (show ¬ c = 33 from e 33 (by decide) (by decide)), if_neg (by rintro (h | h) <;> first | exact e 38 (by decide) (by decide) h | exact e 124 (by decide) (by decide) h), if_neg (by rintro (h | h | h | h | h) <;> first | exact e 65 (by decide) (by decide) h | exact e 83 (by decide) (by decide) h | exact e 50 (by decide) (by decide) h | exact e 51 (by decide) (by decide) h | exact e 52 (by decide) (by decide) h)]
/-- FormulaValid -/
def fmB (f : ByteArray) : Bool := decide (f.size ≤ 4000) && decide (endI f 0 = (f.size : Int))
end Go.Proofs.Ytefneihlgclkbaa.fmp
