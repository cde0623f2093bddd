/- Formulas in the program: put, all sorts. -/
import Derived.Test.YtefneihlgclkbaaPkV
import Derived.Test.YtefneihlgclkbaaFmPd
import Derived.Test.YtefneihlgclkbaaPkW
namespace Go.Proofs.Ytefneihlgclkbaa.fmpz
set_option linter.unusedVariables false
set_option linter.unusedSimpArgs false
open Go.ChangeShapes Go.WideShapes Go.ChangeAt Go.RowKit
open Go.Proofs.Ytefneihlgclkbaa.lib Go.Proofs.Ytefneihlgclkbaa.fm Go.Proofs.Ytefneihlgclkbaa.fmt Go.Proofs.Ytefneihlgclkbaa.fmu Go.Proofs.Ytefneihlgclkbaa.fme Go.Proofs.Ytefneihlgclkbaa.fmx Go.Proofs.Ytefneihlgclkbaa.fmj Go.Proofs.Ytefneihlgclkbaa.fmv
open Go.Proofs.Ytefneihlgclkbaa.fmo

theorem put_gen (So Ro : Option Fm) (M : Nat) (hM : 1 ≤ M ∧ M ≤ 4000) (hS : So = none ∨ ∃ s, So = some s ∧ s.ok ∧ s.free >>> 1 = 0 ∧ s.txt.length ≤ M ∧ ∀ (Hs v : Nat) (w : World), v < 4 → Tree 49 w s Hs → Calls Try.prog 29 #[.agg #[.pointer none, .pointer none], .pointer (some ⟨Hs, 0, none⟩), .agg #[.int .u8 (97 + (v : Nat) : Int), .int .u8 98, .int .u8 99, .int .u8 100]] w (PutQ w (put0 s (map1 v)))) (hR : Ro = none ∨ ∃ s, Ro = some s ∧ s.ok ∧ s.free >>> 2 = 0 ∧ s.txt.length ≤ M ∧ ∀ (Hs v u : Nat) (w : World), v < 4 → u < 4 → Tree 49 w s Hs → Calls Try.prog 29 #[.agg #[.pointer none, .pointer none], .pointer (some ⟨Hs, 0, none⟩), .agg #[.int .u8 (97 + (v : Nat) : Int), .int .u8 (97 + (u : Nat) : Int), .int .u8 99, .int .u8 100]] w (PutQ w (put0 s (map2 v u)))) (sv rv : Value) :
    ∀ (a : Fm), M * a.txt.length ≤ 16000000 → a.ok → ∀ (m : Nat → Nat) (H : Nat) (w : World), (∀ x, x < 4 → m x < 4) → VT w sv So → VT w rv Ro → Tree 49 w a H →
    Calls Try.prog 29 #[.agg #[sv, rv], .pointer (some ⟨H, 0, none⟩), .agg #[.int .u8 (97 + (m 0 : Nat) : Int), .int .u8 (97 + (m 1 : Nat) : Int), .int .u8 (97 + (m 2 : Nat) : Int), .int .u8 (97 + (m 3 : Nat) : Int)]] w (PutQ w (put So Ro a m))
  | .tf op, _, hok, m, H, w, hm, vs, vr, ht => fmpa.pt_tf So Ro M hM hS hR sv rv m H w hm vs vr op hok ht
  | .p v, _, hok, m, H, w, hm, vs, vr, ht => by
    cases hSo : So with
    | none => rw [← hSo]; exact fmpa.pt_p So Ro M hM hS hR sv rv m H w hm vs vr v hok hSo ht
    | some s => rw [← hSo]; exact fmpc.pt_pv So Ro M hM hS hR sv rv m H w hm vs vr v hok s hSo ht
  | .r op v u, _, hok, m, H, w, hm, vs, vr, ht => by
    by_cases he : op = 69
    · subst he
      cases hRo : Ro with
      | none => rw [← hRo]; exact fmpb.pt_r2 So Ro M hM hS hR sv rv m H w hm vs vr v u hRo hok.2.1 hok.2.2 ht
      | some s => rw [← hRo]; exact fmpd.pt_rv So Ro M hM hS hR sv rv m H w hm vs vr v u hok.2.1 hok.2.2 s hRo ht
    · exact fmpb.pt_r1 So Ro M hM hS hR sv rv m H w hm vs vr op v u hok.1 he hok.2.1 hok.2.2 ht
  | .no a, hl, hok, m, H, w, hm, vs, vr, ht => fmpe.pt_no So Ro M hM hS hR sv rv m H w hm vs vr a hl hok (fun h1 h2 => put_gen So Ro M hM hS hR sv rv a h1 h2) ht
  | .two op a b, hl, hok, m, H, w, hm, vs, vr, ht => fmpf.pt_two So Ro M hM hS hR sv rv m H w hm vs vr op a b hl hok (fun h1 h2 => put_gen So Ro M hM hS hR sv rv a h1 h2) (fun h1 h2 => put_gen So Ro M hM hS hR sv rv b h1 h2) ht
  | .qu op v a, hl, hok, m, H, w, hm, vs, vr, ht => by
    have hv : v < 4 := hok.2.1
    obtain rfl | rfl | rfl | rfl : v = 0 ∨ v = 1 ∨ v = 2 ∨ v = 3 := by omega
    · exact fmph.pt_qu0 So Ro M hM hS hR sv rv m H w hm vs vr op a hl hok (fun h1 h2 => put_gen So Ro M hM hS hR sv rv a h1 h2) ht
    · exact fmpg.pt_qu1 So Ro M hM hS hR sv rv m H w hm vs vr op a hl hok (fun h1 h2 => put_gen So Ro M hM hS hR sv rv a h1 h2) ht
    · exact fmpi.pt_qu2 So Ro M hM hS hR sv rv m H w hm vs vr op a hl hok (fun h1 h2 => put_gen So Ro M hM hS hR sv rv a h1 h2) ht
    · exact fmpj.pt_qu3 So Ro M hM hS hR sv rv m H w hm vs vr op a hl hok (fun h1 h2 => put_gen So Ro M hM hS hR sv rv a h1 h2) ht
/-- without views -/
theorem put0_any (a : Fm) (hl : a.txt.length ≤ 4000) (hok : a.ok) (m : Nat → Nat) (H : Nat) (w : World) (hm : ∀ x, x < 4 → m x < 4) (ht : Tree 49 w a H) :
    Calls Try.prog 29 #[.agg #[.pointer none, .pointer none], .pointer (some ⟨H, 0, none⟩), .agg #[.int .u8 (97 + (m 0 : Nat) : Int), .int .u8 (97 + (m 1 : Nat) : Int), .int .u8 (97 + (m 2 : Nat) : Int), .int .u8 (97 + (m 3 : Nat) : Int)]] w (PutQ w (put0 a m)) := by
  have h := put_gen none none 1 ⟨by decide, by decide⟩ (.inl rfl) (.inl rfl) (.pointer none) (.pointer none) a (by omega) hok m H w hm ⟨fun _ => rfl, fun s h => (by cases h)⟩ ⟨fun _ => rfl, fun s h => (by cases h)⟩ ht
  rw [put_none] at h
  exact h
/-- with views -/
theorem putV_any (s r : Fm) (hs : s.txt.length ≤ 4000 ∧ s.ok ∧ s.free >>> 1 = 0) (hr : r.txt.length ≤ 4000 ∧ r.ok ∧ r.free >>> 2 = 0) (Hs Hr : Nat) (a : Fm) (hl : a.txt.length ≤ 4000) (hok : a.ok) (m : Nat → Nat) (H : Nat) (w : World) (hm : ∀ x, x < 4 → m x < 4) (hts : Tree 49 w s Hs) (htr : Tree 49 w r Hr) (ht : Tree 49 w a H) :
    Calls Try.prog 29 #[.agg #[.pointer (some ⟨Hs, 0, none⟩), .pointer (some ⟨Hr, 0, none⟩)], .pointer (some ⟨H, 0, none⟩), .agg #[.int .u8 (97 + (m 0 : Nat) : Int), .int .u8 (97 + (m 1 : Nat) : Int), .int .u8 (97 + (m 2 : Nat) : Int), .int .u8 (97 + (m 3 : Nat) : Int)]] w (PutQ w (put (some s) (some r) a m)) := by
  refine put_gen (some s) (some r) 4000 ⟨by decide, Nat.le_refl _⟩ (.inr ⟨s, rfl, hs.2.1, hs.2.2, hs.1, fun Hs v w hv ht => ?_⟩) (.inr ⟨r, rfl, hr.2.1, hr.2.2, hr.1, fun Hs v u w hv hu ht => ?_⟩) (.pointer (some ⟨Hs, 0, none⟩)) (.pointer (some ⟨Hr, 0, none⟩)) a (by omega) hok m H w hm ⟨fun h => (by cases h), fun s9 h => (by cases h; exact ⟨Hs, rfl, hts⟩)⟩ ⟨fun h => (by cases h), fun s9 h => (by cases h; exact ⟨Hr, rfl, htr⟩)⟩ ht
  · rw [← put0_pm1 hs.2.1 hs.2.2]
    exact put0_any s hs.1 hs.2.1 (pm1 v) Hs w (fun x hx => by unfold pm1; split <;> omega) ht
  · rw [← put0_pm2 hr.2.1 hr.2.2]
    exact put0_any r hr.1 hr.2.1 (pm2 v u) Hs w (fun x hx => by unfold pm2; split; exact hv; split <;> omega) ht
/-- the length of a formula that a text says -/
theorem len_of {f : ByteArray} {a : Fm} (h : fmq.At f 0 a f.size) : a.txt.length = f.size ∧ a.ok := by
  have h1 := h.2
  rw [List.drop_zero, List.drop_of_length_le (by rw [fmp.lsz]; omega)] at h1
  obtain ⟨h2, h3, _⟩ := read_sound h1
  rw [List.append_nil] at h3
  exact ⟨by rw [← fmp.lsz, h3], h2⟩
end Go.Proofs.Ytefneihlgclkbaa.fmpz
