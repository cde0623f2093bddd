/- The library's order of lists of numbers: cmp.Compare, slices.Compare, slices.Equal. -/
import Derived.Test.YtglehegjimhbjaaDoorLess
import Derived.Test.YtglehegjimhbjaaDoorShelfG
namespace Go.Proofs.YtglehegjimhbjaaDoor.cmp
set_option linter.unusedVariables false
set_option linter.unusedSimpArgs false
open Go.ChangeShapes Go.WideShapes Go.ChangeAt Go.RowKit
open Go.Proofs.YtglehegjimhbjaaDoor.lib Go.Proofs.YtglehegjimhbjaaDoor.sll Go.Proofs.YtglehegjimhbjaaDoor.colp Go.Proofs.YtglehegjimhbjaaDoor.less

theorem isNaN_any (x : Int) (w : World) :
    Calls Tryd.prog 86 #[.int .i64 x] w fun e w' => e = .returned (.bool false) ∧ w = w' := by
  have t1 : (x != x) = false := by simp
  go_enter Tryd.func86, Tryd.ntmps86
  go_wp2
  go_ret
  exact ⟨rfl, rfl⟩
/-- -1, 0, 1 -/
def cmpI (x y : Int) : Int := if x < y then -1 else if y < x then 1 else 0
theorem cmpI_ne {x y : Int} (h : x ≠ y) : cmpI x y ≠ 0 := by
  unfold cmpI
  by_cases h1 : x < y
  · rw [if_pos h1]; decide
  · rw [if_neg h1, if_pos (by omega)]; decide
theorem compare_any (x y : Int) (w : World) :
    Calls Tryd.prog 80 #[.int .i64 x, .int .i64 y] w fun e w' => e = .returned (.int .i64 (cmpI x y)) ∧ w = w' := by
  obtain ⟨R, hR⟩ : ∃ R, R = cmpI x y := ⟨_, rfl⟩
  have HR := Lib.hid hR
  rw [← hR]
  clear hR
  go_enter Tryd.func80, Tryd.ntmps80
  go_wp2_with fail
  refine (isNaN_any _ _).mono ?_
  rintro e w1 ⟨rfl, rfl⟩
  go_wp2_with fail
  refine (isNaN_any _ _).mono ?_
  rintro e w1 ⟨rfl, rfl⟩
  by_cases h1 : x < y
  · have hf : Hid (R = -1) := by rw [Hid, HR.out, cmpI, if_pos h1]
    go_wp2
    go_ret
    exact ⟨by rw [hf.out]; rfl, rfl⟩
  · by_cases h2 : y < x
    · have hf : Hid (R = 1) := by rw [Hid, HR.out, cmpI, if_neg h1, if_pos h2]
      go_wp2
      go_ret
      exact ⟨by rw [hf.out]; rfl, rfl⟩
    · have hf : Hid (R = 0) := by rw [Hid, HR.out, cmpI, if_neg h1, if_neg h2]
      go_wp2
      go_ret
      exact ⟨by rw [hf.out]; rfl, rfl⟩

/-- -1, 0, 1 -/
def cmpL (l m : List Int) : Int := if lessL l m = true then -1 else if lessL m l = true then 1 else 0
theorem cmpL_lt {l m : List Int} : decide (cmpL l m < 0) = lessL l m := by
  unfold cmpL
  cases h : lessL l m with
  | true => simp
  | false =>
    rw [if_neg (by simp)]
    split <;> simp
theorem cmpL_at {l m : List Int} {k : Nat} (h : l.take k = m.take k) (h1 : k < l.length) (h2 : k < m.length) (hne : l.getD k 0 ≠ m.getD k 0) : cmpL l m = cmpI (l.getD k 0) (m.getD k 0) := by
  rw [cmpL, cmpI, less_at h h1 h2 hne, less_at h.symm h2 h1 (fun e => hne e.symm)]
  simp
theorem cmpL_end {l m : List Int} {k : Nat} (h : l.take k = m.take k) (h1 : k ≤ l.length) (h2 : k ≤ m.length) (hk : l.length = k ∨ m.length = k) : cmpL l m = cmpI l.length m.length := by
  rw [cmpL, cmpI, less_end h h1 h2 hk, less_end h.symm h2 h1 hk.symm]
  simp

set_option maxHeartbeats 1600000 in
theorem compareS_any (v v2 : Value) (l m : List Int) (w : World) (h : Reads w v l) (h2 : Reads w v2 m) (hn : l.length ≤ 17592186044416) (hn2 : m.length ≤ 17592186044416) :
    Calls Tryd.prog 52 #[v, v2] w fun e w' => e = .returned (.int .i64 (cmpL l m)) ∧ ∃ q, w' = w.drewN q := by
  obtain ⟨ao, ca, rfl, hl, _⟩ := h
  obtain ⟨bo, cb, rfl, hm, _⟩ := h2
  obtain ⟨n, hnl⟩ : ∃ n, n = l.length := ⟨_, rfl⟩
  obtain ⟨p, hpm⟩ : ∃ p, p = m.length := ⟨_, rfl⟩
  rw [← hnl] at hn ⊢
  rw [← hpm] at hn2 ⊢
  have HN := Lib.hid (show _ ∧ _ from ⟨hnl, hpm⟩)
  have HL := Lib.hid hl
  have HM := Lib.hid hm
  obtain ⟨R, hR⟩ : ∃ R, R = cmpL l m := ⟨_, rfl⟩
  have HR := Lib.hid hR
  rw [← hR]
  clear hl hm hnl hpm hR
  go_enter Tryd.func52, Tryd.ntmps52
  go_wp2
  go_loopw [11] (fun i wr => ∃ k : Nat, k ≤ n ∧ k ≤ p ∧ i = .int .i64 k ∧ l.take k = m.take k ∧ ∃ j, wr = w.drewN j) (fun i _ => n - (intOf i).toNat)
  case atStart => exact ⟨0, Nat.zero_le _, Nat.zero_le _, rfl, rfl, 0, rfl⟩
  case round =>
    obtain ⟨k, hk, hk2, rfl, he, j, rfl⟩ := hrel
    by_cases hlt : k < n
    · have hl' : ∃ b off, ao = some ⟨b, off, none⟩ ∧ ∀ i, i < l.length → w.cell? ⟨b, off + i, none⟩ = some (.int .i64 (l.getD i 0)) := by
        rcases HL.out with h | h
        · have := HN.out.1; rw [h] at this; simp at this; omega
        · exact h
      obtain ⟨b, off, rfl, hc⟩ := hl'
      have c1 := hc k (by have := HN.out; omega)
      obtain ⟨x, hx⟩ : ∃ x, x = l.getD k 0 := ⟨_, rfl⟩
      rw [← hx] at c1
      by_cases hlt2 : k < p
      · have hm' : ∃ b off, bo = some ⟨b, off, none⟩ ∧ ∀ i, i < m.length → w.cell? ⟨b, off + i, none⟩ = some (.int .i64 (m.getD i 0)) := by
          rcases HM.out with h | h
          · have := HN.out.2; rw [h] at this; simp at this; omega
          · exact h
        obtain ⟨b', off', rfl, hc'⟩ := hm'
        have c2 := hc' k (by have := HN.out; omega)
        obtain ⟨y, hy⟩ : ∃ y, y = m.getD k 0 := ⟨_, rfl⟩
        rw [← hy] at c2
        have HX : Hid (x = l.getD k 0 ∧ y = m.getD k 0) := ⟨hx, hy⟩
        have HE := Lib.hid he
        clear hc hc' hx hy he HL HM
        go_wp2_with fail
        refine (compare_any x y _).mono ?_
        rintro e w1 ⟨rfl, rfl⟩
        by_cases hxy : x = y
        · have hb : cmpI x y = 0 := by rw [cmpI, if_neg (by omega), if_neg (by omega)]
          rw [hb]
          have HXY := Lib.hid hxy
          clear hb hxy
          go_wp2
          go_roundw
          case rel => exact ⟨k + 1, by omega, by omega, by go_num, take_step l m k (by have := HN.out; omega) (by have := HN.out; omega) HE.out (by rw [← HX.out.1, ← HX.out.2]; exact HXY.out), j, rfl⟩
          case measure => simp [intOf]; omega
        · obtain ⟨z, hz⟩ : ∃ z, z = cmpI x y := ⟨_, rfl⟩
          have hb : (z != 0) = true := by
            have : z ≠ 0 := by rw [hz]; exact cmpI_ne hxy
            simpa using this
          have hf : R = z := by
            have h := HX.out
            rw [HR.out, hz, h.1, h.2]
            exact cmpL_at HE.out (by have := HN.out; omega) (by have := HN.out; omega) (by rw [← h.1, ← h.2]; exact hxy)
          rw [← hz]
          have HF := Lib.hid hf
          clear hf hxy hz
          go_wp2
          go_ret
          exact ⟨by rw [HF.out]; rfl, j, rfl⟩
      · have hf : R = 1 := by
          have h := HN.out
          rw [HR.out, cmpL_end he (by omega) (by omega) (.inr (by omega)), cmpI, if_neg (by omega), if_pos (by omega)]
        have HF := Lib.hid hf
        have HE := Lib.hid he
        clear hf he hx hc
        go_wp2
        go_ret
        exact ⟨by rw [HF.out]; rfl, j, rfl⟩
    · have hf : R = if n < p then -1 else 0 := by
        have h := HN.out
        rw [HR.out, cmpL_end he (by omega) (by omega) (.inl (by omega)), cmpI, ← h.1, ← h.2]
        by_cases hnp : n < p
        · rw [if_pos (by omega), if_pos hnp]
        · rw [if_neg (by omega), if_neg (by omega), if_neg hnp]
      have HF := Lib.hid hf
      clear hf he
      by_cases hnp : n < p
      · go_wp2
        go_ret
        exact ⟨by rw [HF.out, if_pos hnp]; rfl, j, rfl⟩
      · go_wp2
        go_ret
        exact ⟨by rw [HF.out, if_neg hnp]; rfl, j, rfl⟩

theorem equal_any (v v2 : Value) (l m : List Int) (w : World) (h : Reads w v l) (h2 : Reads w v2 m) (hl0 : l ≠ []) (hm0 : m ≠ []) (hn : l.length ≤ 17592186044416) (hn2 : m.length ≤ 17592186044416) :
    Calls Tryd.prog 33 #[v, v2] w fun e w' => e = .returned (.bool (decide (l = m))) ∧ ∃ q, w' = w.drewN q := by
  obtain ⟨ao, ca, rfl, hl, _⟩ := h
  obtain ⟨bo, cb, rfl, hm, _⟩ := h2
  rcases hl with hl | ⟨b, off, rfl, hc⟩
  · exact absurd hl hl0
  rcases hm with hm | ⟨b', off', rfl, hc'⟩
  · exact absurd hm hm0
  refine (Any.slices_Equal_int Tryd.lays111 b off l.length ca b' off' m.length cb l m w (Nat.le_refl _) (Nat.le_refl _) (by omega) (by omega) hc hc').mono ?_
  rintro e w' ⟨rfl, hq⟩
  refine ⟨?_, hq⟩
  rw [List.take_length, List.take_length]
  have e : (l == m) = decide (l = m) := by rw [Bool.eq_iff_iff]; simp
  rw [e]
end Go.Proofs.YtglehegjimhbjaaDoor.cmp
