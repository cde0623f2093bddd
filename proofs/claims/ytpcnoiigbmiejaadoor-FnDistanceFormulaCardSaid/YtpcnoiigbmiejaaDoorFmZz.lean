/- Formulas in the program: parsePart and parseFormula. -/
import Derived.Test.YtpcnoiigbmiejaaDoorPk8
import Derived.Test.YtpcnoiigbmiejaaDoorFmYr
import Derived.Test.YtpcnoiigbmiejaaDoorPk9
import Derived.Test.YtpcnoiigbmiejaaDoorFmZq
namespace Go.Proofs.YtpcnoiigbmiejaaDoor.fmzz
set_option linter.unusedVariables false
set_option linter.unusedSimpArgs false
open Go.ChangeShapes Go.WideShapes Go.ChangeAt Go.RowKit
open Go.Proofs.YtpcnoiigbmiejaaDoor.lib Go.Proofs.YtpcnoiigbmiejaaDoor.fm Go.Proofs.YtpcnoiigbmiejaaDoor.fmp Go.Proofs.YtpcnoiigbmiejaaDoor.fmq Go.Proofs.YtpcnoiigbmiejaaDoor.fmt Go.Proofs.YtpcnoiigbmiejaaDoor.fmu Go.Proofs.YtpcnoiigbmiejaaDoor.fme Go.Proofs.YtpcnoiigbmiejaaDoor.fmw Go.Proofs.YtpcnoiigbmiejaaDoor.fmx

theorem parsePart_any : ∀ (n : Nat) (s : ByteArray), s.size ≤ n → s.size ≤ 4000 → ∀ w, Calls Tryd.prog 135 #[.string s] w (PartP 84 w s.data.toList) := by
  intro n
  induction n with
  | zero =>
    intro s h0 hs w
    obtain rfl : s = ⟨#[]⟩ := by
      apply ByteArray.ext
      apply Array.eq_empty_of_size_eq_zero
      have : s.data.size = s.size := rfl
      omega
    exact part_empty _ w
  | succ n ih =>
    intro s hn hs w
    by_cases h0 : 0 < s.size
    · have hne := (full_of h0).1
      have IH : ∀ t : ByteArray, t.size < s.size → ∀ w, Calls Tryd.prog 135 #[.string t] w (PartP 84 w t.data.toList) := fun t ht w => ih t (by omega) (by omega) w
      by_cases h116 : s[0].toNat = 116
      · exact part_tf s hs h0 hne h116 w
      by_cases h102 : s[0].toNat = 102
      · exact part_tf2 s hs h0 hne h102 w
      by_cases h80 : s[0].toNat = 80
      · exact fmya.part_80 s hs h0 hne h80 w
      by_cases h61 : s[0].toNat = 61
      · exact fmyr.part_r s hs h0 hne (.inl h61) w
      by_cases h69 : s[0].toNat = 69
      · exact fmyr.part_r s hs h0 hne (.inr (h69)) w
      by_cases h33 : s[0].toNat = 33
      · exact fmza.part_33 s hs h0 hne h33 IH w
      by_cases h38 : s[0].toNat = 38
      · exact fmzt.part_t s hs h0 hne (.inl h38) IH w
      by_cases h124 : s[0].toNat = 124
      · exact fmzt.part_t s hs h0 hne (.inr (h124)) IH w
      by_cases h65 : s[0].toNat = 65
      · exact fmzq.part_q s hs h0 hne (.inl h65) IH w
      by_cases h83 : s[0].toNat = 83
      · exact fmzq.part_q s hs h0 hne (.inr (.inl h83)) IH w
      by_cases h50 : s[0].toNat = 50
      · exact fmzq.part_q s hs h0 hne (.inr (.inr (.inl h50))) IH w
      by_cases h51 : s[0].toNat = 51
      · exact fmzq.part_q s hs h0 hne (.inr (.inr (.inr (.inl h51)))) IH w
      by_cases h52 : s[0].toNat = 52
      · exact fmzq.part_q s hs h0 hne (.inr (.inr (.inr (.inr (h52))))) IH w
      refine part_bad s hs h0 hne (fun n hn => ?_) w
      simp only [List.mem_cons, List.not_mem_nil, or_false] at hn
      rcases hn with rfl | rfl | rfl | rfl | rfl | rfl | rfl | rfl | rfl | rfl | rfl | rfl | rfl <;> assumption
    · obtain rfl : s = ⟨#[]⟩ := by
        apply ByteArray.ext
        apply Array.eq_empty_of_size_eq_zero
        have : s.data.size = s.size := rfl
        omega
      exact part_empty _ w
/-- what parseFormula returns: the formula that the text says, or nil -/
def ParseP (w : World) (f : ByteArray) (e : Ending) (w' : World) : Prop :=
  ∃ p : Value, e = .returned p ∧ Below w.heap.size w w' ∧ ((fmB f = false ∧ p = .pointer none) ∨ fmB f = true ∧ ∃ a H, At f 0 a f.size ∧ p = .pointer (some ⟨H, 0, none⟩) ∧ Tree 84 w' a H)
theorem fmB_long {f : ByteArray} (h : ¬ f.size ≤ 4000) : fmB f = false := by unfold fmB; rw [decide_eq_false h]; rfl
theorem fmB_none {f : ByteArray} (h : read f.data.toList = none) : fmB f = false := by
  cases hb : fmB f with
  | false => rfl
  | true =>
    obtain ⟨_, a, ha⟩ := fmB_iff.1 hb
    have := ha.2
    rw [List.drop_zero, h] at this
    cases this
theorem fmB_rest {f : ByteArray} {a : Fm} {r : List UInt8} (h : read f.data.toList = some (a, r)) (hr : r ≠ []) : fmB f = false := by
  cases hb : fmB f with
  | false => rfl
  | true =>
    obtain ⟨_, b, hb2⟩ := fmB_iff.1 hb
    have := hb2.2
    rw [List.drop_zero, h] at this
    simp only [Option.some.injEq, Prod.mk.injEq] at this
    rw [List.drop_of_length_le (by rw [lsz]; omega)] at this
    exact absurd this.2 hr
theorem fmB_full {f : ByteArray} {a : Fm} (hs : f.size ≤ 4000) (h : read f.data.toList = some (a, [])) : fmB f = true ∧ At f 0 a f.size := by
  have hat : At f 0 a f.size := ⟨Nat.le_refl _, by rw [List.drop_zero, h, List.drop_of_length_le (by rw [lsz]; omega)]⟩
  exact ⟨fmB_iff.2 ⟨hs, a, hat⟩, hat⟩
set_option maxHeartbeats 1600000 in
set_option maxRecDepth 100000 in
theorem parseFormula_any (f : ByteArray) (w : World) : Calls Tryd.prog 87 #[.string f] w (ParseP w f) := by
  by_cases hs : f.size ≤ 4000
  · have e1 : decide ((4000 : Int) < (f.size : Int)) = false := by simp; omega
    have e2 : decide (4000 < f.size) = false := by simp; omega
    have HC := Lib.hid (parsePart_any f.size f (Nat.le_refl _) hs)
    have HS := Lib.hid hs
    clear hs
    cases hr : read f.data.toList with
    | none =>
      have HR := Lib.hid hr
      have HE := Lib.hid (fmB_none hr)
      clear hr
      go_enter Tryd.func87, Tryd.ntmps87
      go_wp2_with fail
      refine (HC.out _).mono ?_
      rintro eo w1 ⟨p1, t1, rfl, hb, hm⟩
      rw [HR.out] at hm
      obtain rfl : p1 = .pointer none := hm
      have HB := Lib.hid hb
      clear hb
      cases h1 : t1.toList.isEmpty with
      | true =>
        go_wp2
        go_ret
        exact ⟨_, rfl, HB.out, .inl ⟨HE.out, rfl⟩⟩
      | false =>
        go_wp2
        go_ret
        exact ⟨_, rfl, HB.out, .inl ⟨HE.out, rfl⟩⟩
    | some x =>
      obtain ⟨a, r⟩ := x
      have HR := Lib.hid hr
      clear hr
      go_enter Tryd.func87, Tryd.ntmps87
      go_wp2_with fail
      refine (HC.out _).mono ?_
      rintro eo w1 ⟨p1, t1, rfl, hb, hm⟩
      rw [HR.out] at hm
      obtain ⟨ht1, H, rfl, hts⟩ := hm
      have HB := Lib.hid hb
      have HT := Lib.hid hts.tree
      have HT1 := Lib.hid ht1
      clear hb hts ht1
      have hl : t1.toList = r := by rw [HT1.out, ByteArray.toList_mk]
      cases r with
      | nil =>
        have h1 : t1.toList.isEmpty = true := by rw [hl]; rfl
        have HE := Lib.hid (fmB_full HS.out HR.out)
        clear hl
        go_wp2
        go_ret
        exact ⟨_, rfl, HB.out, .inr ⟨HE.out.1, a, H, HE.out.2, rfl, HT.out⟩⟩
      | cons c r =>
        have h1 : t1.toList.isEmpty = false := by rw [hl]; rfl
        have HE := Lib.hid (fmB_rest HR.out (by simp))
        clear hl
        go_wp2
        go_ret
        exact ⟨_, rfl, HB.out, .inl ⟨HE.out, rfl⟩⟩
  · have e1 : decide ((4000 : Int) < (f.size : Int)) = true := by simp; omega
    have e2 : decide (4000 < f.size) = true := by simp; omega
    have HE := Lib.hid (fmB_long hs)
    clear hs
    go_enter Tryd.func87, Tryd.ntmps87
    go_wp2
    go_ret
    exact ⟨_, rfl, Below.refl _ _, .inl ⟨HE.out, rfl⟩⟩
/-- the program's shortFormula -/
theorem shortFormula_any (t : ByteArray) (b : Bool) (w : World) (S : ByteArray) (B : Bool) (h : Hid (if b = true ∧ t.size ≤ 4000 then S = t ∧ B = true else S = ⟨#[]⟩ ∧ B = false)) :
    Calls Tryd.prog 84 #[.string t, .bool b] w fun e w' => e = .returned (.tuple #[.string S, .bool B]) ∧ w = w' := by
  cases b with
  | false =>
    have h2 : Hid (S = ⟨#[]⟩ ∧ B = false) := by have := h.out; rw [if_neg (fun h => by cases h.1)] at this; exact this
    clear h
    go_enter Tryd.func84, Tryd.ntmps84
    go_wp2
    go_ret2
    exact ⟨by rw [h2.out.1, h2.out.2]; rfl, rfl⟩
  | true =>
    by_cases hs : t.size ≤ 4000
    · have e1 : decide ((4000 : Int) < (t.size : Int)) = false := by simp; omega
      have e2 : decide (4000 < t.size) = false := by simp; omega
      have h2 : Hid (S = t ∧ B = true) := by have := h.out; rw [if_pos ⟨rfl, hs⟩] at this; exact this
      clear h hs
      go_enter Tryd.func84, Tryd.ntmps84
      go_wp2
      go_ret2
      exact ⟨by rw [h2.out.1, h2.out.2]; rfl, rfl⟩
    · have e1 : decide ((4000 : Int) < (t.size : Int)) = true := by simp; omega
      have e2 : decide (4000 < t.size) = true := by simp; omega
      have h2 : Hid (S = ⟨#[]⟩ ∧ B = false) := by have := h.out; rw [if_neg (fun h => hs h.2)] at this; exact this
      clear h hs
      go_enter Tryd.func84, Tryd.ntmps84
      go_wp2
      go_ret2
      exact ⟨by rw [h2.out.1, h2.out.2]; rfl, rfl⟩
end Go.Proofs.YtpcnoiigbmiejaaDoor.fmzz
