/- FnPieces: the plain law: numbers are given in order; pieces, balls and relations. -/
import Derived.Test.YtpcnoiigbmiejaaGreatDoorLeast
import Derived.Test.YtpcnoiigbmiejaaGreatDoorPkG
namespace Go.Proofs.YtpcnoiigbmiejaaGreatDoor.cls
set_option linter.unusedVariables false
set_option linter.unusedSimpArgs false
theorem cls_prefix (p : Nat → Nat → Bool) : ∀ m x, x < m → (clsOf p m).1.getD x 0 = (clsOf p (x + 1)).1.getD x 0
  | 0, _, h => absurd h (Nat.not_lt_zero _)
  | m + 1, x, h => by
    by_cases hx : x = m
    · subst hx; rfl
    · have hl := (cls_len p m).1
      have ih := cls_prefix p m x (by omega)
      cases hf : firstBy p m m with
      | some y => rw [cls_succ_some hf]; simp only [getD_app]; rw [if_pos (by omega)]; exact ih
      | none => rw [cls_succ_none hf]; simp only [getD_app]; rw [if_pos (by omega)]; exact ih
theorem cls_most {p : Nat → Nat → Bool} {n x : Nat} (hx : x < n) :
    (clsOf p n).1.getD x 0 ≤ ((clsOf p x).2 : Int) ∧ max (((clsOf p x).2 : Int) - 1) ((clsOf p n).1.getD x 0) = ((clsOf p (x + 1)).2 : Int) - 1 := by
  rw [cls_prefix p n x hx]
  have hl := (cls_len p x).1
  cases hf : firstBy p x x with
  | some y =>
    have hy := (firstBy_some hf).1
    have hb := cls_bounds p x y hy
    rw [cls_succ_some hf]
    simp only [getD_app]
    rw [if_neg (by omega), if_pos hl.symm]
    omega
  | none =>
    rw [cls_succ_none hf]
    simp only [getD_app]
    rw [if_neg (by omega), if_pos hl.symm]
    omega
end Go.Proofs.YtpcnoiigbmiejaaGreatDoor.cls
namespace Go.Proofs.YtpcnoiigbmiejaaGreatDoor.dist
open Go.Proofs.YtpcnoiigbmiejaaGreatDoor.near Go.Proofs.YtpcnoiigbmiejaaGreatDoor.pieces Go.Proofs.YtpcnoiigbmiejaaGreatDoor.cls Go.Proofs.YtpcnoiigbmiejaaGreatDoor.ball Go.Proofs.YtpcnoiigbmiejaaGreatDoor.base
theorem ball_mem {N X Y : Nat} {r : ByteArray} {rad : Int} (hY : Y < N) : (Y : Int) ∈ ballTo N r X rad N ↔ 0 ≤ D (adj N r) N X Y ∧ D (adj N r) N X Y ≤ rad := by
  unfold ballTo
  constructor
  · intro h
    obtain ⟨y, hy, he⟩ := List.mem_map.1 h
    obtain rfl : y = Y := by omega
    have := (List.mem_filter.1 hy).2
    simpa [inBall] using this
  · intro h
    exact List.mem_map.2 ⟨Y, List.mem_filter.2 ⟨List.mem_range.2 hY, by simpa [inBall] using h⟩, rfl⟩
/-- elements of one piece -/
theorem one_piece {N X Y : Nat} {r : ByteArray} (hX : X < N) (hY : Y < N) (h : (clsOf (conn N r) N).1.getD X 0 = (clsOf (conn N r) N).1.getD Y 0) : (Y : Int) ∈ ballTo N r X N N :=
  (ball_mem hY).2 ⟨(cls_D hX hY).1 h, by have := D_small (nb := adj N r) hX hY; omega⟩
/-- elements of two -/
theorem two_pieces {N X Y : Nat} {r : ByteArray} {rad : Int} (hX : X < N) (hY : Y < N) (h : (clsOf (conn N r) N).1.getD X 0 ≠ (clsOf (conn N r) N).1.getD Y 0) : bitAt r (X * N + Y) = false ∧ (Y : Int) ∉ ballTo N r X rad N := by
  have hd : ¬ 0 ≤ D (adj N r) N X Y := fun h' => h ((cls_D hX hY).2 h')
  refine ⟨?_, fun hm => hd ((ball_mem hY).1 hm).1⟩
  cases hb : bitAt r (X * N + Y) with
  | false => rfl
  | true =>
    exfalso
    by_cases hxy : X = Y
    · exact h (by rw [hxy])
    · have ha : adj N r X Y = true := by simp [adj, hb, hxy]
      have := (D_one (nb := adj N r) (adj_irr N r) hX hY).2 ha
      omega
end Go.Proofs.YtpcnoiigbmiejaaGreatDoor.dist
