/- Formulas in the reference: reading. -/
import Derived.Test.YtefneihlgclkbaaFm
import Derived.Test.YtefneihlgclkbaaRows
import Derived.Test.YtefneihlgclkbaaBasic
namespace Go.Proofs.Ytefneihlgclkbaa.fms
set_option linter.unusedVariables false
set_option linter.unusedSimpArgs false
open Go.ChangeShapes Go.WideShapes Go.ChangeAt Go.RowKit
open Go.Proofs.Ytefneihlgclkbaa.lib Go.Proofs.Ytefneihlgclkbaa.fm

/-- where a letter first stands -/
def fnd (s : ByteArray) (c : Nat) : Int := match s.data.toList.findIdx? (fun x => x.toNat == c) with
  | some i => (i : Int)
  | none => -1
theorem get_at {f : ByteArray} {k : Nat} (h : k < f.size) : f.data.toList[k]? = some f[k] := by
  rw [List.getElem?_eq_getElem (by simpa using h)]; rfl
theorem l15Find_any (s : ByteArray) (c : Nat) (w : World) (hs : s.size ≤ 9223372036854775807) :
    Calls Try.prog 32 #[.string s, .int .u8 c] w fun e w' => e = .returned (.int .i64 (fnd s c)) ∧ w = w' := by
  have hyes : ∀ k (h : k < s.size), (∀ j (hj : j < s.size), j < k → s[j].toNat ≠ c) → s[k].toNat = c → fnd s c = (k : Int) := by
    intro k h h1 h2
    unfold fnd
    rw [List.findIdx?_eq_some_iff_getElem.2 ⟨by simpa using h, by simp; exact h2, fun j hj => by simp; exact h1 j (by omega) hj⟩]
  have hno : (∀ j (hj : j < s.size), j < s.size → s[j].toNat ≠ c) → fnd s c = -1 := by
    intro h1
    unfold fnd
    rw [List.findIdx?_eq_none_iff.2 fun x hx => by
      obtain ⟨j, hj, rfl⟩ := List.mem_iff_getElem.1 hx
      simp; exact h1 j (by simpa using hj) (by simpa using hj)]
  have HB := Lib.hid (show _ ∧ _ from ⟨hyes, hno⟩)
  clear hyes hno
  go_enter Try.func32, Try.ntmps32
  go_wp2
  go_loop [5] (fun i => ∃ k : Nat, k ≤ s.size ∧ i = .int .i64 k ∧ Hid (∀ j (hj : j < s.size), j < k → s[j].toNat ≠ c)) (fun i => s.size - (intOf i).toNat)
  case atStart => exact ⟨0, Nat.zero_le _, rfl, fun j _ hj => by omega⟩
  case round =>
    obtain ⟨k, hk, rfl, hrel⟩ := hrel
    by_cases hlt : k < s.size
    · by_cases he : s[k].toNat = c
      · have e1 : ((s[k].toNat : Int) == (c : Int)) = true := by simp; omega
        have HE : Hid (fnd s c = (k : Int)) := HB.out.1 k hlt hrel.out he
        clear hrel he
        go_wp2
        go_ret
        exact ⟨by rw [HE.out]; rfl, rfl⟩
      · have e1 : ((s[k].toNat : Int) == (c : Int)) = false := by simp; omega
        have HS : Hid (∀ j (hj : j < s.size), j < k + 1 → s[j].toNat ≠ c) := by
          intro j hj hjk
          by_cases h : j = k
          · subst h; exact he
          · exact hrel j hj (by omega)
        clear hrel he
        go_wp2
        go_round
        case rel => exact ⟨k + 1, by omega, by go_num, HS⟩
        case measure => simp [intOf]; omega
    · obtain rfl : k = s.size := by omega
      have HE : Hid (fnd s c = -1) := HB.out.2 hrel.out
      clear hrel
      go_wp2
      go_ret
      exact ⟨by rw [HE.out]; rfl, rfl⟩
set_option maxRecDepth 20000 in
theorem fnd_abcd0 : ∀ c : Fin 256, fnd ⟨#[97, 98, 99, 100]⟩ c.1 = if 97 ≤ c.1 ∧ c.1 ≤ 100 then ((c.1 - 97 : Nat) : Int) else -1 := by decide
theorem fnd_yes {c : UInt8} (h : isV c = true) : fnd ⟨#[97, 98, 99, 100]⟩ c.toNat = (vn c : Nat) := by
  have := fnd_abcd0 ⟨c.toNat, c.toNat_lt⟩
  rw [if_pos (of_decide_eq_true h)] at this
  exact this
theorem fnd_no {c : UInt8} (h : isV c = false) : fnd ⟨#[97, 98, 99, 100]⟩ c.toNat = -1 := by
  have := fnd_abcd0 ⟨c.toNat, c.toNat_lt⟩
  rw [if_neg (of_decide_eq_false h)] at this
  exact this
set_option maxRecDepth 20000 in
theorem fnd_q0 : ∀ c : Fin 256, decide (0 ≤ fnd ⟨#[65, 83, 50, 51, 52]⟩ c.1) = decide (c.1 = 65 ∨ c.1 = 83 ∨ c.1 = 50 ∨ c.1 = 51 ∨ c.1 = 52) := by decide
/-- the variable at a place -/
def varI (f : ByteArray) (k : Nat) : Int := match f.data.toList[k]? with
  | some c => if isV c = true then (vn c : Nat) else -1
  | none => -1
theorem l2Var_any (f : ByteArray) (x : Int) (k : Nat) (hx : x = k) (w : World) (hs : f.size ≤ 9223372036854775807) :
    Calls Try.prog 25 #[.string f, .int .i64 x] w fun e w' => e = .returned (.int .i64 (varI f k)) ∧ w = w' := by
  subst hx
  by_cases hlt : k < f.size
  · have HE : Hid (fnd ⟨#[97, 98, 99, 100]⟩ f[k].toNat = varI f k) := by
      unfold Hid varI
      rw [get_at hlt]
      cases h : isV f[k] with
      | true => rw [fnd_yes h]; simp only [h, if_true]
      | false => rw [fnd_no h]; simp only [h, Bool.false_eq_true, if_false]
    go_enter Try.func25, Try.ntmps25
    go_wp2_with fail
    refine (l15Find_any _ _ _ (by decide)).mono ?_
    rintro e w1 ⟨rfl, rfl⟩
    rw [HE.out]
    go_wp2
    go_ret
    exact ⟨rfl, rfl⟩
  · have HE : Hid (varI f k = -1) := by
      unfold Hid varI
      rw [List.getElem?_eq_none (by simpa using hlt)]
    have e1 : decide (f.size ≤ k) = true := by simp; omega
    have e2 : decide ((f.size : Int) ≤ (k : Int)) = true := by simp; omega
    go_enter Try.func25, Try.ntmps25
    go_wp2
    go_ret
    exact ⟨by rw [HE.out]; rfl, rfl⟩
end Go.Proofs.Ytefneihlgclkbaa.fms
