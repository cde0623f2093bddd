/- Several texts in one: FmE, FmF, FmI, FmJ. -/
import Derived.Test.YtpcnoiigbmiejaaDoorPk1
/- Formulas in the reference: where one ends. -/
namespace Go.Proofs.YtpcnoiigbmiejaaDoor.fme
set_option linter.unusedVariables false
set_option linter.unusedSimpArgs false
open Go.ChangeShapes Go.WideShapes Go.ChangeAt Go.RowKit
open Go.Proofs.YtpcnoiigbmiejaaDoor.lib Go.Proofs.YtpcnoiigbmiejaaDoor.fm Go.Proofs.YtpcnoiigbmiejaaDoor.fms Go.Proofs.YtpcnoiigbmiejaaDoor.fmp

def isQ (c : Nat) : Bool := decide (c = 65 ∨ c = 83 ∨ c = 50 ∨ c = 51 ∨ c = 52)
end Go.Proofs.YtpcnoiigbmiejaaDoor.fme

/- Formulas in the reference: free variables. -/
namespace Go.Proofs.YtpcnoiigbmiejaaDoor.fmf
set_option linter.unusedVariables false
set_option linter.unusedSimpArgs false
open Go.ChangeShapes Go.WideShapes Go.ChangeAt Go.RowKit
open Go.Proofs.YtpcnoiigbmiejaaDoor.lib Go.Proofs.YtpcnoiigbmiejaaDoor.fm Go.Proofs.YtpcnoiigbmiejaaDoor.fms Go.Proofs.YtpcnoiigbmiejaaDoor.fmp Go.Proofs.YtpcnoiigbmiejaaDoor.fmq Go.Proofs.YtpcnoiigbmiejaaDoor.fme

theorem b_or0 : ∀ a : Fin 16, ∀ b : Fin 16, bits .or .i64 (a.1 : Nat) (b.1 : Nat) = ((a.1 ||| b.1 : Nat) : Int) := by decide
theorem b_or {x y : Nat} (hx : x < 16) (hy : y < 16) : bits .or .i64 (x : Int) (y : Int) = ((x ||| y : Nat) : Int) := b_or0 ⟨x, hx⟩ ⟨y, hy⟩
theorem b_an0 : ∀ a : Fin 16, ∀ b : Fin 4, bits .andNot .i64 (a.1 : Nat) ((1 <<< b.1 : Nat) : Int) = ((a.1 &&& (15 ^^^ 1 <<< b.1) : Nat) : Int) := by decide
theorem b_an {x v : Nat} (hx : x < 16) (hv : v < 4) : bits .andNot .i64 (x : Int) ((1 <<< v : Nat) : Int) = ((x &&& (15 ^^^ 1 <<< v) : Nat) : Int) := b_an0 ⟨x, hx⟩ ⟨v, hv⟩
theorem b_an1 {x : Nat} (hx : x < 16) : bits .andNot .i64 (x : Int) 1 = ((x &&& (15 ^^^ 1 <<< 0) : Nat) : Int) := b_an (v := 0) hx (by decide)
theorem b_an2 {x : Nat} (hx : x < 16) : bits .andNot .i64 (x : Int) 2 = ((x &&& (15 ^^^ 1 <<< 1) : Nat) : Int) := b_an (v := 1) hx (by decide)
theorem b_an4 {x : Nat} (hx : x < 16) : bits .andNot .i64 (x : Int) 4 = ((x &&& (15 ^^^ 1 <<< 2) : Nat) : Int) := b_an (v := 2) hx (by decide)
theorem b_an8 {x : Nat} (hx : x < 16) : bits .andNot .i64 (x : Int) 8 = ((x &&& (15 ^^^ 1 <<< 3) : Nat) : Int) := b_an (v := 3) hx (by decide)

end Go.Proofs.YtpcnoiigbmiejaaDoor.fmf

/- Formulas in the reference: images and fresh variables. -/
namespace Go.Proofs.YtpcnoiigbmiejaaDoor.fmi
set_option linter.unusedVariables false
set_option linter.unusedSimpArgs false
open Go.ChangeShapes Go.WideShapes Go.ChangeAt Go.RowKit
open Go.Proofs.YtpcnoiigbmiejaaDoor.lib Go.Proofs.YtpcnoiigbmiejaaDoor.fm Go.Proofs.YtpcnoiigbmiejaaDoor.fms Go.Proofs.YtpcnoiigbmiejaaDoor.fmp Go.Proofs.YtpcnoiigbmiejaaDoor.fmq Go.Proofs.YtpcnoiigbmiejaaDoor.fme Go.Proofs.YtpcnoiigbmiejaaDoor.fmf

theorem b_in0 : ∀ a : Fin 16, ∀ v : Fin 4, (bits .and .i64 (((a.1 : Nat) : Int) / ((2 ^ v.1 : Nat) : Int)) 1 == 1) = inS a.1 v.1 := by decide
theorem b_out0 : ∀ a : Fin 16, ∀ v : Fin 4, (bits .and .i64 (((a.1 : Nat) : Int) / ((2 ^ v.1 : Nat) : Int)) 1 == 0) = !inS a.1 v.1 := by decide
theorem b_in_0 {s : Nat} (h : s < 16) : (bits .and .i64 ((s : Int)) 1 == 1) = (inS s 0) := by
  have := b_in0 ⟨s, h⟩ ⟨0, by decide⟩
  simpa using this
theorem b_out_0 {s : Nat} (h : s < 16) : (bits .and .i64 ((s : Int)) 1 == 0) = (!inS s 0) := by
  have := b_out0 ⟨s, h⟩ ⟨0, by decide⟩
  simpa using this
theorem b_in_1 {s : Nat} (h : s < 16) : (bits .and .i64 ((s : Int) / 2) 1 == 1) = (inS s 1) := by
  have := b_in0 ⟨s, h⟩ ⟨1, by decide⟩
  simpa using this
theorem b_out_1 {s : Nat} (h : s < 16) : (bits .and .i64 ((s : Int) / 2) 1 == 0) = (!inS s 1) := by
  have := b_out0 ⟨s, h⟩ ⟨1, by decide⟩
  simpa using this
theorem b_in_2 {s : Nat} (h : s < 16) : (bits .and .i64 ((s : Int) / 4) 1 == 1) = (inS s 2) := by
  have := b_in0 ⟨s, h⟩ ⟨2, by decide⟩
  simpa using this
theorem b_out_2 {s : Nat} (h : s < 16) : (bits .and .i64 ((s : Int) / 4) 1 == 0) = (!inS s 2) := by
  have := b_out0 ⟨s, h⟩ ⟨2, by decide⟩
  simpa using this
theorem b_in_3 {s : Nat} (h : s < 16) : (bits .and .i64 ((s : Int) / 8) 1 == 1) = (inS s 3) := by
  have := b_in0 ⟨s, h⟩ ⟨3, by decide⟩
  simpa using this
theorem b_out_3 {s : Nat} (h : s < 16) : (bits .and .i64 ((s : Int) / 8) 1 == 0) = (!inS s 3) := by
  have := b_out0 ⟨s, h⟩ ⟨3, by decide⟩
  simpa using this
theorem shl_wrap {v : Nat} (h : v < 4) : wrap64 (2 ^ min (IntKind.u64.wrap (v : Int)).toNat 64) = ((1 <<< v : Nat) : Int) := by
  obtain rfl | rfl | rfl | rfl : v = 0 ∨ v = 1 ∨ v = 2 ∨ v = 3 := by omega
  all_goals first | (simp [wrap64, IntKind.wrap, IntKind.bits, IntKind.signed]; done) | rfl | (kernel_rfl)
theorem imgs_lt {s : Nat} {m : Nat → Nat} (hm : ∀ v, v < 4 → m v < 4) : ∀ {k : Nat}, k ≤ 4 → imgs s m k < 16
  | 0, _ => by show 0 < 16; decide
  | k + 1, hk => by
    unfold imgs
    split
    · exact or_lt ⟨_, imgs_lt hm (by omega)⟩ ⟨1 <<< m k, sh_lt ⟨m k, hm k (by omega)⟩⟩
    · exact imgs_lt hm (by omega)
theorem imgs_yes {s k : Nat} {m : Nat → Nat} (hm : ∀ v, v < 4 → m v < 4) (hk : k < 4) (h : inS s k = true) : bits .or .i64 (imgs s m k : Nat) (wrap64 (2 ^ min (IntKind.u64.wrap (m k : Int)).toNat 64)) = (imgs s m (k + 1) : Nat) := by
  rw [shl_wrap (hm k hk), b_or (imgs_lt hm (by omega)) (sh_lt ⟨m k, hm k hk⟩)]
  conv => rhs; unfold imgs
  rw [if_pos h]
theorem imgs_no {s k : Nat} {m : Nat → Nat} (h : inS s k = false) : imgs s m (k + 1) = imgs s m k := by
  conv => lhs; unfold imgs
  rw [if_neg (by rw [h]; simp)]
end Go.Proofs.YtpcnoiigbmiejaaDoor.fmi

/- Formulas in the reference: fresh variables and names. -/
namespace Go.Proofs.YtpcnoiigbmiejaaDoor.fmj
set_option linter.unusedVariables false
set_option linter.unusedSimpArgs false
open Go.ChangeShapes Go.WideShapes Go.ChangeAt Go.RowKit
open Go.Proofs.YtpcnoiigbmiejaaDoor.lib Go.Proofs.YtpcnoiigbmiejaaDoor.fm Go.Proofs.YtpcnoiigbmiejaaDoor.fms Go.Proofs.YtpcnoiigbmiejaaDoor.fmp Go.Proofs.YtpcnoiigbmiejaaDoor.fmq Go.Proofs.YtpcnoiigbmiejaaDoor.fme Go.Proofs.YtpcnoiigbmiejaaDoor.fmf Go.Proofs.YtpcnoiigbmiejaaDoor.fmi

def nm (v : Nat) : ByteArray := ⟨#[vb v]⟩
/-- the answer of fresh -/
def frI : Option Nat → Int
  | some u => (u : Nat)
  | none => -1
theorem fresh_own {v s t : Nat} {m : Nat → Nat} (ht : t = imgs (s &&& (15 ^^^ 1 <<< v)) m 4) (h : inS t v = false) : frI (fresh v s m) = v := by
  unfold fresh
  rw [← ht]
  simp only [h, if_true]
  rfl
theorem fresh_at {v s t k : Nat} {m : Nat → Nat} (ht : t = imgs (s &&& (15 ^^^ 1 <<< v)) m 4) (h : inS t v = true) (hk : k < 4) (h1 : ∀ j, j < k → inS t j = true) (h2 : inS t k = false) : frI (fresh v s m) = k := by
  unfold fresh
  rw [← ht]
  simp only [h, Bool.true_eq_false, if_false]
  have e : (List.range 4).find? (fun w => !inS t w) = some k := by
    obtain rfl | rfl | rfl | rfl : k = 0 ∨ k = 1 ∨ k = 2 ∨ k = 3 := by omega
    · simp [List.range, List.range.loop, h2]
    · simp [List.range, List.range.loop, h2, h1 0 (by omega)]
    · simp [List.range, List.range.loop, h2, h1 0 (by omega), h1 1 (by omega)]
    · simp [List.range, List.range.loop, h2, h1 0 (by omega), h1 1 (by omega), h1 2 (by omega)]
  rw [e]
  rfl
theorem fresh_none {v s t : Nat} {m : Nat → Nat} (ht : t = imgs (s &&& (15 ^^^ 1 <<< v)) m 4) (h : inS t v = true) (h1 : ∀ j, j < 4 → inS t j = true) : frI (fresh v s m) = -1 := by
  unfold fresh
  rw [← ht]
  simp only [h, Bool.true_eq_false, if_false]
  have e : (List.range 4).find? (fun w => !inS t w) = none := by
    simp [List.range, List.range.loop, h1 0 (by omega), h1 1 (by omega), h1 2 (by omega), h1 3 (by omega)]
  rw [e]
  rfl
end Go.Proofs.YtpcnoiigbmiejaaDoor.fmj
