/- Formulas in the reference: what a text that is read says, place by place. -/
import Derived.Test.YtefneihlgclkbaaFmP
namespace Go.Proofs.Ytefneihlgclkbaa.fmq
set_option linter.unusedVariables false
set_option linter.unusedSimpArgs false
open Go.ChangeShapes Go.WideShapes Go.ChangeAt Go.RowKit
open Go.Proofs.Ytefneihlgclkbaa.lib Go.Proofs.Ytefneihlgclkbaa.fm Go.Proofs.Ytefneihlgclkbaa.fms Go.Proofs.Ytefneihlgclkbaa.fmp

/-- the formula a stands in f from k up to e -/
def At (f : ByteArray) (k : Nat) (a : Fm) (e : Nat) : Prop := e ≤ f.size ∧ read (f.data.toList.drop k) = some (a, f.data.toList.drop e)
theorem drop_inj {f : ByteArray} {i j : Nat} (hi : i ≤ f.size) (hj : j ≤ f.size) (h : f.data.toList.drop i = f.data.toList.drop j) : i = j := by
  have := congrArg List.length h
  rw [List.length_drop, List.length_drop, lsz] at this
  omega
theorem At.lt {f : ByteArray} {k e : Nat} {a : Fm} (h : At f k a e) : k < f.size ∧ k < e := by
  have h2 := (read_sound h.2).2.2
  rw [List.length_drop, List.length_drop, lsz] at h2
  have := h.1
  omega
theorem At.ok {f : ByteArray} {k e : Nat} {a : Fm} (h : At f k a e) : a.ok := (read_sound h.2).1
theorem At.of {f : ByteArray} {k : Nat} {a : Fm} {t : List UInt8} (h : read (f.data.toList.drop k) = some (a, t)) : ∃ e, At f k a e ∧ t = f.data.toList.drop e := by
  have h3 := tail_of (read_suff h)
  exact ⟨f.size - t.length, ⟨Nat.sub_le _ _, by rw [h, ← h3]⟩, h3⟩
theorem inv_tf {f : ByteArray} {k e : Nat} {a : Fm} (h : k < f.size) (hr : At f k a e) (hs : sort f[k] = .tf) : a = .tf f[k] ∧ e = k + 1 := by
  obtain ⟨he, hr⟩ := hr
  rw [drop_at h, read_tf hs] at hr
  simp only [Option.some.injEq, Prod.mk.injEq] at hr
  exact ⟨hr.1.symm, (drop_inj (by omega) he hr.2).symm⟩
theorem inv_bad {f : ByteArray} {k e : Nat} {a : Fm} (h : k < f.size) (hr : At f k a e) (hs : sort f[k] = .bad) : False := by
  have hr := hr.2
  rw [drop_at h, read_bad hs] at hr
  cases hr
theorem inv_p {f : ByteArray} {k e : Nat} {a : Fm} (h : k < f.size) (hr : At f k a e) (hs : sort f[k] = .p) : ∃ m, m < 4 ∧ varI f (k + 1) = (m : Nat) ∧ a = .p m ∧ e = k + 2 := by
  obtain ⟨he, hr⟩ := hr
  rw [drop_at h] at hr
  by_cases h1 : k + 1 < f.size
  · rw [drop_at h1] at hr
    cases hv : isV f[k + 1] with
    | true =>
      rw [read_p hs hv] at hr
      simp only [Option.some.injEq, Prod.mk.injEq] at hr
      exact ⟨_, vn_lt hv, by rw [varI_of h1, if_pos hv], hr.1.symm, (drop_inj (by omega) he hr.2).symm⟩
    | false => rw [read_pn hs hv] at hr; cases hr
  · rw [List.drop_of_length_le (i := k + 1) (by rw [lsz]; omega), read_p0 hs] at hr; cases hr
theorem inv_r {f : ByteArray} {k e : Nat} {a : Fm} (h : k < f.size) (hr : At f k a e) (hs : sort f[k] = .r) : ∃ m m2, m < 4 ∧ m2 < 4 ∧ varI f (k + 1) = (m : Nat) ∧ varI f (k + 2) = (m2 : Nat) ∧ a = .r f[k] m m2 ∧ e = k + 3 := by
  obtain ⟨he, hr⟩ := hr
  rw [drop_at h] at hr
  by_cases h1 : k + 1 < f.size
  · rw [drop_at h1] at hr
    by_cases h2 : k + 2 < f.size
    · rw [drop_at (f := f) (k := k + 1 + 1) h2] at hr
      by_cases hv : isV f[k + 1] = true ∧ isV f[k + 2] = true
      · rw [read_r hs hv.1 hv.2] at hr
        simp only [Option.some.injEq, Prod.mk.injEq] at hr
        exact ⟨_, _, vn_lt hv.1, vn_lt hv.2, by rw [varI_of h1, if_pos hv.1], by rw [varI_of h2, if_pos hv.2], hr.1.symm, (drop_inj (by omega) he hr.2).symm⟩
      · rw [read_rn hs hv] at hr; cases hr
    · rw [List.drop_of_length_le (i := k + 1 + 1) (by rw [lsz]; omega), read_r1 hs] at hr; cases hr
  · rw [List.drop_of_length_le (i := k + 1) (by rw [lsz]; omega), read_r0 hs] at hr; cases hr
theorem inv_no {f : ByteArray} {k e : Nat} {a : Fm} (h : k < f.size) (hr : At f k a e) (hs : sort f[k] = .no) : ∃ b, At f (k + 1) b e ∧ a = .no b := by
  obtain ⟨he, hr⟩ := hr
  rw [drop_at h, read_no hs] at hr
  cases h1 : read (f.data.toList.drop (k + 1)) with
  | none => rw [h1] at hr; cases hr
  | some x =>
    obtain ⟨b, t⟩ := x
    rw [h1] at hr
    simp only [Option.some.injEq, Prod.mk.injEq] at hr
    exact ⟨b, ⟨he, by rw [h1, hr.2]⟩, hr.1.symm⟩
theorem inv_two {f : ByteArray} {k e : Nat} {a : Fm} (h : k < f.size) (hr : At f k a e) (hs : sort f[k] = .two) : ∃ b d j, At f (k + 1) b j ∧ At f j d e ∧ a = .two f[k] b d := by
  obtain ⟨he, hr⟩ := hr
  rw [drop_at h, read_two hs] at hr
  cases h1 : read (f.data.toList.drop (k + 1)) with
  | none => rw [h1] at hr; cases hr
  | some x =>
    obtain ⟨b, t⟩ := x
    obtain ⟨j, hj, ht⟩ := At.of h1
    rw [h1] at hr
    cases h2 : read t with
    | none => simp only [h2] at hr; cases hr
    | some y =>
      obtain ⟨d, t2⟩ := y
      simp only [h2, Option.some.injEq, Prod.mk.injEq] at hr
      exact ⟨b, d, j, hj, ⟨he, by rw [← ht, h2, hr.2]⟩, hr.1.symm⟩
theorem inv_qu {f : ByteArray} {k e : Nat} {a : Fm} (h : k < f.size) (hr : At f k a e) (hs : sort f[k] = .qu) : ∃ m b, m < 4 ∧ varI f (k + 1) = (m : Nat) ∧ At f (k + 2) b e ∧ a = .qu f[k] m b := by
  obtain ⟨he, hr⟩ := hr
  rw [drop_at h] at hr
  by_cases h1 : k + 1 < f.size
  · rw [drop_at h1] at hr
    cases hv : isV f[k + 1] with
    | true =>
      rw [read_qu hs hv] at hr
      cases h2 : read (f.data.toList.drop (k + 1 + 1)) with
      | none => rw [h2] at hr; cases hr
      | some x =>
        obtain ⟨b, t⟩ := x
        rw [h2] at hr
        simp only [Option.some.injEq, Prod.mk.injEq] at hr
        exact ⟨_, b, vn_lt hv, by rw [varI_of h1, if_pos hv], ⟨he, by rw [show k + 2 = k + 1 + 1 from rfl, h2, hr.2]⟩, hr.1.symm⟩
    | false => rw [read_qun hs hv] at hr; cases hr
  · rw [List.drop_of_length_le (i := k + 1) (by rw [lsz]; omega), read_qu0 hs] at hr; cases hr
theorem At.endI {f : ByteArray} {k e : Nat} {a : Fm} (h : At f k a e) : endI f k = (e : Nat) := by
  unfold fmp.endI
  rw [h.2]
  show ((f.size - (f.data.toList.drop e).length : Nat) : Int) = _
  rw [List.length_drop, lsz]
  have := h.1
  congr 1; omega
theorem fmB_iff {f : ByteArray} : fmB f = true ↔ f.size ≤ 4000 ∧ ∃ a, At f 0 a f.size := by
  unfold fmB
  rw [Bool.and_eq_true, decide_eq_true_eq, decide_eq_true_eq]
  refine and_congr_right fun _ => ⟨fun h => ?_, fun ⟨a, h⟩ => h.endI⟩
  cases hr : read (f.data.toList.drop 0) with
  | none => unfold fmp.endI at h; rw [hr] at h; simp at h
  | some x =>
    obtain ⟨a, t⟩ := x
    obtain ⟨e, he, _⟩ := At.of hr
    rw [he.endI] at h
    obtain rfl : e = f.size := by omega
    exact ⟨a, he⟩
end Go.Proofs.Ytefneihlgclkbaa.fmq
