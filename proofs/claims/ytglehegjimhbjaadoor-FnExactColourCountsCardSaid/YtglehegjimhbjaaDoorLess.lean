/- The reference's order of lists: l8Less, l8Equal. -/
import Derived.Test.YtglehegjimhbjaaDoorSlL
import Derived.Test.YtglehegjimhbjaaDoorColP
import Derived.RegionTactic
import Derived.ChangeAlike
namespace Go.Proofs.YtglehegjimhbjaaDoor.less
set_option linter.unusedVariables false
set_option linter.unusedSimpArgs false
open Go.ChangeShapes Go.WideShapes Go.ChangeAt Go.RowKit
open Go.Proofs.YtglehegjimhbjaaDoor.lib Go.Proofs.YtglehegjimhbjaaDoor.sll Go.Proofs.YtglehegjimhbjaaDoor.colp

theorem less_drop : ∀ (k : Nat) (l m : List Int), l.take k = m.take k → k ≤ l.length → k ≤ m.length → lessL l m = lessL (l.drop k) (m.drop k)
  | 0, l, m, _, _, _ => by simp
  | k + 1, [], m, _, h, _ => by simp at h
  | k + 1, a :: l, [], _, _, h => by simp at h
  | k + 1, a :: l, b :: m, h, h1, h2 => by
    simp only [List.take_succ_cons, List.cons.injEq] at h
    rw [lessL, if_pos h.1, List.drop_succ_cons, List.drop_succ_cons]
    exact less_drop k l m h.2 (by simpa using h1) (by simpa using h2)
theorem less_at {l m : List Int} {k : Nat} (h : l.take k = m.take k) (h1 : k < l.length) (h2 : k < m.length) (hne : l.getD k 0 ≠ m.getD k 0) : lessL l m = decide (l.getD k 0 < m.getD k 0) := by
  rw [less_drop k l m h (by omega) (by omega), List.drop_eq_getElem_cons h1, List.drop_eq_getElem_cons h2]
  simp only [List.getD_eq_getElem?_getD, List.getElem?_eq_getElem h1, List.getElem?_eq_getElem h2, Option.getD_some] at hne ⊢
  rw [lessL, if_neg hne]
theorem less_end {l m : List Int} {k : Nat} (h : l.take k = m.take k) (h1 : k ≤ l.length) (h2 : k ≤ m.length) (hk : l.length = k ∨ m.length = k) : lessL l m = decide (l.length < m.length) := by
  rw [less_drop k l m h h1 h2]
  rcases hk with hk | hk
  · rw [List.drop_eq_nil_of_le (by omega)]
    cases hd : m.drop k with
    | nil =>
      have : (m.drop k).length = 0 := by rw [hd]; rfl
      rw [List.length_drop] at this
      rw [lessL, decide_eq_false (by omega)]
    | cons a t =>
      have : (m.drop k).length = t.length + 1 := by rw [hd]; rfl
      rw [List.length_drop] at this
      rw [lessL, decide_eq_true (by omega)]
  · rw [List.drop_eq_nil_of_le (show m.length ≤ k by omega)]
    rw [decide_eq_false (by omega)]
    cases l.drop k <;> rfl

set_option maxHeartbeats 1600000 in
theorem l8Less_any (v v2 : Value) (l m : List Int) (w : World) (h : Reads w v l) (h2 : Reads w v2 m) (hn : l.length ≤ 17592186044416) (hn2 : m.length ≤ 17592186044416) :
    Calls Tryd.prog 55 #[v, v2] w fun e w' => e = .returned (.bool (lessL l m)) ∧ Below w.heap.size w w' := by
  obtain ⟨ao, ca, rfl, hl, _⟩ := h
  obtain ⟨bo, cb, rfl, hm, _⟩ := h2
  obtain ⟨n, hnl⟩ : ∃ n, n = l.length := ⟨_, rfl⟩
  obtain ⟨p, hpm⟩ : ∃ p, p = m.length := ⟨_, rfl⟩
  rw [← hnl] at hn ⊢
  rw [← hpm] at hn2 ⊢
  have HN := Lib.hid (show _ ∧ _ from ⟨hnl, hpm⟩)
  have HL := Lib.hid hl
  have HM := Lib.hid hm
  obtain ⟨R, hR⟩ : ∃ R, R = lessL l m := ⟨_, rfl⟩
  have HR := Lib.hid hR
  rw [← hR]
  clear hl hm hnl hpm hR
  go_enter Tryd.func55, Tryd.ntmps55
  go_wp2
  go_loopw [5] (fun i wr => ∃ k : Nat, k ≤ n ∧ k ≤ p ∧ i = .int .i64 k ∧ l.take k = m.take k ∧ ∃ j, wr = w.drewN j) (fun i _ => n - (intOf i).toNat)
  case atStart => exact ⟨0, Nat.zero_le _, Nat.zero_le _, rfl, rfl, 0, rfl⟩
  case round =>
    obtain ⟨k, hk, hk2, rfl, he, j, rfl⟩ := hrel
    by_cases hlt : k < n
    · by_cases hlt2 : k < p
      · have hl' : ∃ b off, ao = some ⟨b, off, none⟩ ∧ ∀ i, i < l.length → w.cell? ⟨b, off + i, none⟩ = some (.int .i64 (l.getD i 0)) := by
          rcases HL.out with h | h
          · have := HN.out.1; rw [h] at this; simp at this; omega
          · exact h
        have hm' : ∃ b off, bo = some ⟨b, off, none⟩ ∧ ∀ i, i < m.length → w.cell? ⟨b, off + i, none⟩ = some (.int .i64 (m.getD i 0)) := by
          rcases HM.out with h | h
          · have := HN.out.2; rw [h] at this; simp at this; omega
          · exact h
        obtain ⟨b, off, rfl, hc⟩ := hl'
        obtain ⟨b', off', rfl, hc'⟩ := hm'
        have c1 := hc k (by have := HN.out; omega)
        have c2 := hc' k (by have := HN.out; omega)
        obtain ⟨x, hx⟩ : ∃ x, x = l.getD k 0 := ⟨_, rfl⟩
        obtain ⟨y, hy⟩ : ∃ y, y = m.getD k 0 := ⟨_, rfl⟩
        rw [← hx] at c1
        rw [← hy] at c2
        have HX : Hid (x = l.getD k 0 ∧ y = m.getD k 0) := ⟨hx, hy⟩
        have HE := Lib.hid he
        clear hc hc' hx hy he HL HM
        by_cases hxy : x = y
        · subst hxy
          have hb : (x != x) = false := by simp
          go_wp2
          go_region
          go_wp2
          go_roundw
          case rel => exact ⟨k + 1, by omega, by omega, by go_num, take_step l m k (by have := HN.out; omega) (by have := HN.out; omega) HE.out (by rw [← HX.out.1, ← HX.out.2]), j + 1, rfl⟩
          case measure => simp [intOf]; omega
        · have hb : (x != y) = true := by simpa using hxy
          have hf : R = decide (x < y) := by
            have h := HX.out
            rw [HR.out, h.1, h.2]
            exact less_at HE.out (by have := HN.out; omega) (by have := HN.out; omega) (by rw [← h.1, ← h.2]; exact hxy)
          have HF := Lib.hid hf
          clear hf hxy
          go_wp2
          go_region
          go_wp2
          go_region
          go_wp2
          go_ret
          exact ⟨by rw [HF.out]; rfl, below_drewN (Below.refl _ _) (j + 1 + 1)⟩
      · have hf : R = decide (n < p) := by
          have h := HN.out
          rw [HR.out, h.1, h.2]
          exact less_end he (by omega) (by omega) (.inr (by omega))
        have HF := Lib.hid hf
        clear hf he
        go_wp2
        go_ret
        exact ⟨by rw [HF.out]; simp, below_drewN (Below.refl _ _) j⟩
    · have hf : R = decide (n < p) := by
        have h := HN.out
        rw [HR.out, h.1, h.2]
        exact less_end he (by omega) (by omega) (.inl (by omega))
      have HF := Lib.hid hf
      clear hf he
      go_wp2
      go_ret
      exact ⟨by rw [HF.out]; simp, below_drewN (Below.refl _ _) j⟩

theorem l8Equal_any (v v2 : Value) (l m : List Int) (w : World) (h : Reads w v l) (h2 : Reads w v2 m) (hn : l.length ≤ 17592186044416) (hn2 : m.length ≤ 17592186044416) :
    Calls Tryd.prog 44 #[v, v2] w fun e w' => e = .returned (.bool (decide (l = m))) ∧ Below w.heap.size w w' := by
  obtain ⟨R, hR⟩ : ∃ R, R = decide (l = m) := ⟨_, rfl⟩
  have HR := Lib.hid hR
  have H1 := Lib.hid h
  have H2 := Lib.hid h2
  rw [← hR]
  clear hR h h2
  go_enter Tryd.func44, Tryd.ntmps44
  go_wp2_with fail
  refine (l8Less_any v v2 l m _ H1.out H2.out hn hn2).mono ?_
  rintro e w1 ⟨rfl, hb⟩
  have HB := Lib.hid hb
  clear hb
  cases h1 : lessL l m with
  | true =>
    have HF : Hid (R = false) := by rw [Hid, HR.out]; exact decide_eq_false fun e => by rw [e, less_irr] at h1; cases h1
    clear h1
    go_wp2
    go_ret
    exact ⟨by rw [HF.out]; rfl, HB.out⟩
  | false =>
    go_wp2_with fail
    refine (l8Less_any v2 v m l _ (H2.out.below HB.out (Nat.le_refl _)) (H1.out.below HB.out (Nat.le_refl _)) hn2 hn).mono ?_
    rintro e w2 ⟨rfl, hb⟩
    have HB2 := Lib.hid (HB.out.trans (hb.mono HB.out.size))
    clear hb
    have HF : Hid (R = !lessL m l) := by
      rw [Hid, HR.out]
      cases h2 : lessL m l with
      | true => exact decide_eq_false fun e => by rw [e, less_irr] at h2; cases h2
      | false => exact decide_eq_true (less_tri h1 h2)
    clear h1
    go_wp2
    go_ret
    exact ⟨by rw [HF.out]; cases lessL m l <;> rfl, HB2.out⟩
end Go.Proofs.YtglehegjimhbjaaDoor.less
