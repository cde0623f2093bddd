/- classesBy; PiecesOf in the program and in the reference. -/
import Derived.Test.YtpcnoiigbmiejaaDoorNear
import Derived.Test.YtpcnoiigbmiejaaDoorMake
import Derived.Test.YtpcnoiigbmiejaaDoorPkF
import Derived.Test.YtpcnoiigbmiejaaDoorCls
namespace Go.Proofs.YtpcnoiigbmiejaaDoor.pieces
set_option linter.unusedVariables false
set_option linter.unusedSimpArgs false
open Go.ChangeShapes Go.WideShapes Go.ChangeAt Go.RowKit
open Go.Proofs.YtpcnoiigbmiejaaDoor.lib Go.Proofs.YtpcnoiigbmiejaaDoor.st Go.Proofs.YtpcnoiigbmiejaaDoor.base Go.Proofs.YtpcnoiigbmiejaaDoor.near Go.Proofs.YtpcnoiigbmiejaaDoor.dist Go.Proofs.YtpcnoiigbmiejaaDoor.cls

/-- the state of the outer loop -/
def Cs (p : Nat → Nat → Bool) (w : World) (HB x : Nat) (v nx : Value) (wr : World) : Prop :=
  ∃ g cap, v = .slice (some ⟨g, 0, none⟩) x cap ∧ nx = .int .i64 ((clsOf p x).2 : Int) ∧ OwnI 3 wr HB (.slice (some ⟨g, 0, none⟩) x cap) (clsOf p x).1 ∧ Below HB w wr

/-- being connected -/
noncomputable def conn (n : Nat) (r : ByteArray) (y x : Nat) : Bool := decide (0 ≤ D (adj n r) n y x)
theorem adj_symm (n : Nat) (r : ByteArray) (a b : Nat) : adj n r a b = adj n r b a := by
  unfold adj
  rw [Bool.or_comm]
  congr 1
  by_cases h : a = b
  · subst h; rfl
  · have h1 : (a != b) = true := by simpa using h
    have h2 : (b != a) = true := by simpa using fun e : b = a => h e.symm
    rw [h1, h2]
theorem conn_eqv (n : Nat) (r : ByteArray) : Eqv (conn n r) n where
  refl x hx := by
    have := (D_zero (nb := adj n r) hx hx).2 rfl
    unfold conn; rw [this]; rfl
  symm x y hx hy h := by unfold conn at *; rw [D_symm (adj_symm n r) hy hx]; exact h
  trans x y z hx hy hz h1 h2 := by
    unfold conn at *
    simp only [decide_eq_true_eq] at *
    exact (D_tri hx hy hz h1 h2).1

/-- what PiecesOf returns -/
noncomputable def piecesR (n : Int) (s r : ByteArray) : List Int := if validB n s r = true then (clsOf (conn n.toNat r) n.toNat).1 else []
theorem valid_size {n : Int} {s r : ByteArray} (h : validB n s r = true) : ∃ N : Nat, n = N ∧ 1 ≤ N ∧ N ≤ 8 ∧ s.size = N ∧ r.size = N * N := by
  obtain ⟨⟨h2, h3⟩, hs, hr, _⟩ := validB_iff.1 h
  refine ⟨n.toNat, by omega, by omega, by omega, by omega, ?_⟩
  have e : (n.toNat : Int) = n := by omega
  have : ((n.toNat * n.toNat : Nat) : Int) = n * n := by rw [Int.natCast_mul, e]
  omega
/-! the reference -/
/-- the state of the inner loop: the class found so far of those before k -/
def At (p : Nat → Nat → Bool) (x k : Nat) (at_ : Int) : Prop :=
  ((∀ y, y < k → p y x = false) ∧ at_ = ((clsOf p x).2 : Int)) ∨ ∃ y, y < k ∧ p y x = true ∧ at_ = (clsOf p x).1.getD y 0
theorem At.no {p : Nat → Nat → Bool} {x k : Nat} {c : Int} (h : At p x k c) (hp : p k x = false) : At p x (k + 1) c := by
  rcases h with ⟨h, e⟩ | ⟨y, hy, h, e⟩
  · refine .inl ⟨fun y hy => ?_, e⟩
    by_cases e : y = k
    · subst e; exact hp
    · exact h y (by omega)
  · exact .inr ⟨y, by omega, h, e⟩
theorem At.yes {p : Nat → Nat → Bool} {x k : Nat} (hp : p k x = true) : At p x (k + 1) ((clsOf p x).1.getD k 0) := .inr ⟨k, by omega, hp, rfl⟩
/-- at the end: the next round's numbers -/
theorem At.fin {p : Nat → Nat → Bool} {n x : Nat} {c : Int} (hp : Eqv p n) (hx : x < n) (h : At p x x c) :
    (c = ((clsOf p x).2 : Int) ∧ clsOf p (x + 1) = ((clsOf p x).1 ++ [c], (clsOf p x).2 + 1)) ∨ (c ≠ ((clsOf p x).2 : Int) ∧ clsOf p (x + 1) = ((clsOf p x).1 ++ [c], (clsOf p x).2)) := by
  rcases h with ⟨h, e⟩ | ⟨y, hy, h, e⟩
  · exact .inl ⟨e, by rw [e]; exact cls_succ_none (firstBy_at h)⟩
  · have hb := cls_bounds p x y hy
    refine .inr ⟨by omega, ?_⟩
    cases hf : firstBy p x x with
    | none => have := firstBy_none hf y hy; rw [h] at this; cases this
    | some z =>
      obtain ⟨hz, hzx⟩ := firstBy_some hf
      rw [cls_succ_some hf, e]
      have := (cls_iff hp x (by omega) z y hz hy).2 (hp.trans z x y (by omega) (by omega) (by omega) hzx (hp.symm y x (by omega) (by omega) h))
      rw [this]
end Go.Proofs.YtpcnoiigbmiejaaDoor.pieces
