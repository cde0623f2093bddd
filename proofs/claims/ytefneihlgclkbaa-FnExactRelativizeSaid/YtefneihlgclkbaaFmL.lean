/- Formulas in the reference: putting without views, and results. -/
import Derived.Test.YtefneihlgclkbaaFmK
namespace Go.Proofs.Ytefneihlgclkbaa.fml
set_option linter.unusedVariables false
set_option linter.unusedSimpArgs false
open Go.ChangeShapes Go.WideShapes Go.ChangeAt Go.RowKit
open Go.Proofs.Ytefneihlgclkbaa.lib Go.Proofs.Ytefneihlgclkbaa.fm Go.Proofs.Ytefneihlgclkbaa.fms Go.Proofs.Ytefneihlgclkbaa.fmp Go.Proofs.Ytefneihlgclkbaa.fmq Go.Proofs.Ytefneihlgclkbaa.fme Go.Proofs.Ytefneihlgclkbaa.fmf Go.Proofs.Ytefneihlgclkbaa.fmi Go.Proofs.Ytefneihlgclkbaa.fmj Go.Proofs.Ytefneihlgclkbaa.fmk

theorem l11Put0_any (f : ByteArray) (hs : f.size ≤ 4000) (k : Nat) (a : Fm) (e : Nat) (m : Nat → Nat) (hat : At f k a e) (hm : ∀ v, v < 4 → m v < 4) (x : Int) (hx : x = k) (w : World) :
    Calls Try.prog 14 #[.string f, .int .i64 x, .agg #[.int .i64 (m 0), .int .i64 (m 1), .int .i64 (m 2), .int .i64 (m 3)], .agg #[.string ⟨#[]⟩, .string ⟨#[]⟩]] w (PutP w (put0 a m) e (e - k)) := by
  have h := l11Put_gen f hs ⟨#[]⟩ ⟨#[]⟩ none none 1 ⟨by decide, by decide⟩ (.inl ⟨rfl, rfl⟩) (.inl ⟨rfl, rfl⟩) f.size x k a e m hx hat hm (by omega) w
  rw [put_none, Nat.one_mul] at h
  exact h
/-- with views: the second one may be missing -/
theorem l11PutV_any (f : ByteArray) (hs : f.size ≤ 4000) (sv rv : ByteArray) (s r : Fm) (hsv : sv.size ≤ 4000 ∧ sv.toList.isEmpty = false ∧ At sv 0 s sv.size) (hrv : rv.size ≤ 4000 ∧ rv.toList.isEmpty = false ∧ At rv 0 r rv.size)
    (k : Nat) (a : Fm) (e : Nat) (m : Nat → Nat) (hat : At f k a e) (hm : ∀ v, v < 4 → m v < 4) (x : Int) (hx : x = k) (w : World) :
    Calls Try.prog 14 #[.string f, .int .i64 x, .agg #[.int .i64 (m 0), .int .i64 (m 1), .int .i64 (m 2), .int .i64 (m 3)], .agg #[.string sv, .string rv]] w (PutP w (put (some s) (some r) a m) e (4000 * (e - k))) := by
  have wk : ∀ {w w' : World} {a : Option (List UInt8)} {e B B' : Nat} {eo : Ending}, B ≤ B' → PutP w a e B eo w' → PutP w a e B' eo w' := fun h ⟨s, h1, h2, h3, h4⟩ => ⟨s, h1, h2, Nat.le_trans h3 h, h4⟩
  refine l11Put_gen f hs sv rv (some s) (some r) 4000 ⟨by decide, Nat.le_refl _⟩ (.inr ⟨hsv.2.1, s, rfl, fun v w hv => ?_⟩) (.inr ⟨hrv.2.1, r, rfl, fun v u w hv hu => ?_⟩) f.size x k a e m hx hat hm (by omega) w
  · refine (l11Put0_any sv hsv.1 0 s sv.size (map1 v) hsv.2.2 (fun x hx => ?_) 0 rfl w).mono fun eo w' h => wk (by have := hsv.1; omega) h
    unfold map1; split <;> omega
  · refine (l11Put0_any rv hrv.1 0 r rv.size (map2 v u) hrv.2.2 (fun x hx => ?_) 0 rfl w).mono fun eo w' h => wk (by have := hrv.1; omega) h
    unfold map2; split
    · exact hv
    · split <;> omega
/-- what is returned of a text -/
def resS : Option (List UInt8) → ByteArray
  | some t => if t.length ≤ 4000 then ⟨t.toArray⟩ else ⟨#[]⟩
  | none => ⟨#[]⟩
def resB : Option (List UInt8) → Bool
  | some t => decide (t.length ≤ 4000)
  | none => false
theorem l11Result_any (s : ByteArray) (a : Option (List UInt8)) (ht : ∀ t, a = some t → s = ⟨t.toArray⟩) (hz : s.size ≤ 9223372036854775807) (w : World) :
    Calls Try.prog 16 #[.string s, .bool a.isSome] w fun e w' => e = .returned (.tuple #[.string (resS a), .bool (resB a)]) ∧ w = w' := by
  cases a with
  | none =>
    clear ht
    go_enter Try.func16, Try.ntmps16
    go_wp2
    go_ret2
    exact ⟨rfl, rfl⟩
  | some t =>
    obtain rfl := ht t rfl
    have hl : (⟨t.toArray⟩ : ByteArray).size = t.length := by simp [ByteArray.size]
    obtain ⟨s, hs⟩ : ∃ s : ByteArray, s = ⟨t.toArray⟩ := ⟨_, rfl⟩
    rw [← hs] at hl hz ⊢
    have HS := Lib.hid hs
    clear hs ht
    by_cases h : t.length ≤ 4000
    · have e1 : decide ((4000 : Int) < (s.size : Int)) = false := by simp; omega
      have e2 : decide (4000 < s.size) = false := by simp; omega
      have HE : Hid (resS (some t) = s ∧ resB (some t) = true) := ⟨by unfold resS; simp only; rw [if_pos h]; exact HS.out.symm, decide_eq_true h⟩
      clear h hl
      go_enter Try.func16, Try.ntmps16
      go_wp2
      go_ret2
      exact ⟨by rw [HE.out.1, HE.out.2]; rfl, rfl⟩
    · have e1 : decide ((4000 : Int) < (s.size : Int)) = true := by simp; omega
      have e2 : decide (4000 < s.size) = true := by simp; omega
      have HE : Hid (resS (some t) = ⟨#[]⟩ ∧ resB (some t) = false) := ⟨by unfold resS; simp only; rw [if_neg h], decide_eq_false h⟩
      clear h hl
      go_enter Try.func16, Try.ntmps16
      go_wp2
      go_ret2
      exact ⟨by rw [HE.out.1, HE.out.2]; rfl, rfl⟩
end Go.Proofs.Ytefneihlgclkbaa.fml
