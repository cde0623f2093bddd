/- FnBallOf in plain words: a greater ball has the elements next to a smaller one's. -/
import Derived.Test.YtlnmebjbinmeiaaDoorPlaw
import Derived.Test.YtlnmebjbinmeiaaDoorLeast
namespace Go.Proofs.YtlnmebjbinmeiaaDoor.blaw
set_option linter.unusedVariables false
set_option linter.unusedSimpArgs false
open Go.Proofs.YtlnmebjbinmeiaaDoor.base Go.Proofs.YtlnmebjbinmeiaaDoor.near Go.Proofs.YtlnmebjbinmeiaaDoor.dist Go.Proofs.YtlnmebjbinmeiaaDoor.ball Go.Proofs.YtlnmebjbinmeiaaDoor.cls Go.Proofs.YtlnmebjbinmeiaaDoor.pieces
theorem ball_get {N X i : Nat} {r : ByteArray} {rad : Int} (hi : i < (ballTo N r X rad N).length) : ∃ Y : Nat, (ballTo N r X rad N).getD i 0 = (Y : Int) ∧ Y < N ∧ (Y : Int) ∈ ballTo N r X rad N := by
  have hm : (ballTo N r X rad N).getD i 0 ∈ ballTo N r X rad N := by
    rw [List.getD_eq_getElem?_getD, List.getElem?_eq_getElem hi]; exact List.getElem_mem hi
  obtain ⟨Y, hY, e⟩ := List.mem_map.1 hm
  refine ⟨Y, e.symm, List.mem_range.1 (List.mem_filter.1 hY).1, ?_⟩
  rw [e]; exact hm
theorem near_iff {N Y Z : Nat} {r : ByteArray} (hZ : Z < N) : (Z : Int) ∈ nearTo N r Y N ↔ adj N r Y Z = true := by
  constructor
  · intro h
    obtain ⟨i, hi, e⟩ := List.getElem_of_mem h
    obtain ⟨W, hW, _, ha⟩ := nearTo_get hi
    rw [List.getD_eq_getElem?_getD, List.getElem?_eq_getElem hi, Option.getD_some, e] at hW
    have : Z = W := by omega
    rw [this]; exact ha
  · exact nearTo_mem hZ
theorem ball_symm {N X Y : Nat} {r : ByteArray} {rad : Int} (hX : X < N) (hY : Y < N) : (Y : Int) ∈ ballTo N r X rad N ↔ (X : Int) ∈ ballTo N r Y rad N := by
  rw [ball_mem hY, ball_mem hX, D_symm (fun a b => adj_symm N r a b) hX hY]
theorem ball_grow {N X Z : Nat} {r : ByteArray} {rad : Int} (hX : X < N) (hZ : Z < N) (h0 : 0 ≤ rad) :
    (Z : Int) ∈ ballTo N r X (rad + 1) N ↔ (Z : Int) ∈ ballTo N r X rad N ∨ ∃ Y : Nat, Y < N ∧ (Y : Int) ∈ ballTo N r X rad N ∧ (Z : Int) ∈ nearTo N r Y N := by
  rw [ball_mem hZ, ball_mem hZ]
  constructor
  · rintro ⟨h1, h2⟩
    by_cases h3 : D (adj N r) N X Z ≤ rad
    · exact .inl ⟨h1, h3⟩
    · obtain ⟨k, hk⟩ : ∃ k : Nat, D (adj N r) N X Z = ((k + 1 : Nat) : Int) := ⟨(D (adj N r) N X Z - 1).toNat, by omega⟩
      obtain ⟨z, hz, hrk, ha⟩ := RK_of_D (nb := adj N r) hX (k + 1) Z hZ hk
      have hle := D_le (nb := adj N r) hX hz hrk
      exact .inr ⟨z, hz, (ball_mem hz).2 ⟨hle.1, by omega⟩, (near_iff hZ).2 ha⟩
  · rintro (⟨h1, h2⟩ | ⟨Y, hY, h1, h2⟩)
    · exact ⟨h1, by omega⟩
    · have h3 := (ball_mem hY).1 h1
      have h4 : D (adj N r) N Y Z = 1 := (D_one (adj_irr N r) hY hZ).2 ((near_iff hZ).1 h2)
      have := D_tri (nb := adj N r) hX hY hZ h3.1 (by omega)
      exact ⟨this.1, by omega⟩
/-- whether an element is in the ball or next to one of its first i -/
noncomputable def someTo (N : Nat) (r : ByteArray) (X : Nat) (rad : Int) (Z i : Nat) : Bool := decide ((Z : Int) ∈ ballTo N r X rad N) || ((ballTo N r X rad N).take i).any fun y => decide ((Z : Int) ∈ nearTo N r y.toNat N)
theorem someTo_zero (N : Nat) (r : ByteArray) (X : Nat) (rad : Int) (Z : Nat) : someTo N r X rad Z 0 = decide ((Z : Int) ∈ ballTo N r X rad N) := by simp [someTo]
theorem someTo_succ {N X Z i Y : Nat} {r : ByteArray} {rad : Int} (hi : i < (ballTo N r X rad N).length) (hY : (ballTo N r X rad N).getD i 0 = (Y : Int)) : someTo N r X rad Z (i + 1) = (someTo N r X rad Z i || decide ((Z : Int) ∈ nearTo N r Y N)) := by
  unfold someTo
  rw [List.take_succ_eq_append_getElem hi, List.any_append]
  rw [List.getD_eq_getElem?_getD, List.getElem?_eq_getElem hi, Option.getD_some] at hY
  rw [hY]
  simp [Bool.or_assoc]
theorem someTo_all {N X Z : Nat} {r : ByteArray} {rad : Int} (hX : X < N) (hZ : Z < N) (h0 : 0 ≤ rad) : someTo N r X rad Z (ballTo N r X rad N).length = decide ((Z : Int) ∈ ballTo N r X (rad + 1) N) := by
  rw [Bool.eq_iff_iff]
  unfold someTo
  rw [List.take_length, Bool.or_eq_true, decide_eq_true_iff, decide_eq_true_iff, List.any_eq_true, ball_grow hX hZ h0]
  constructor
  · rintro (h | ⟨y, hy, h⟩)
    · exact .inl h
    · obtain ⟨Y, hm, rfl⟩ := List.mem_map.1 hy
      have h := of_decide_eq_true h
      rw [Int.toNat_natCast] at h
      exact .inr ⟨Y, List.mem_range.1 (List.mem_filter.1 hm).1, hy, h⟩
  · rintro (h | ⟨Y, _, hy, h⟩)
    · exact .inl h
    · exact .inr ⟨Y, hy, decide_eq_true (by rw [Int.toNat_natCast]; exact h)⟩
theorem mid_ball {N X : Nat} {r : ByteArray} {rad : Int} (hX : X < N) (h0 : 0 ≤ rad) : (X : Int) ∈ ballTo N r X rad N := by
  rw [ball_mem hX, (D_zero hX hX).2 rfl]; omega
end Go.Proofs.YtlnmebjbinmeiaaDoor.blaw
