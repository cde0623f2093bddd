/- FnBallClasses in plain words. -/
import Derived.Test.YtefneihlgclkbaaDoorNarrow
import Derived.Test.YtefneihlgclkbaaDoorPkI
namespace Go.Proofs.YtefneihlgclkbaaDoor.bcl
set_option linter.unusedVariables false
set_option linter.unusedSimpArgs false
open Go.Proofs.YtefneihlgclkbaaDoor.base Go.Proofs.YtefneihlgclkbaaDoor.near Go.Proofs.YtefneihlgclkbaaDoor.same Go.Proofs.YtefneihlgclkbaaDoor.sbc Go.Proofs.YtefneihlgclkbaaDoor.cls
/-- what the law asks -/
structure Fact (N K : Nat) (s r : ByteArray) (P Q : List Int) : Prop where
  n1 : 1 ≤ N
  n8 : N ≤ 8
  k : K ≤ 100
  pl : P.length = N
  ql : Q.length = N
  nx : classR N s r (min ((K : Int) + 1) 100) = Q
  eq : ∀ x y : Nat, x < N → y < N → sameR N s r x N s r y K = (P.getD x 0 == P.getD y 0)
  back : ∀ x y : Nat, x < N → y < N → Q.getD x 0 = Q.getD y 0 → P.getD x 0 = P.getD y 0
  zero : P.getD 0 0 = 0
theorem class_yes {N K : Nat} {s r : ByteArray} (h : validB N s r = true) (hk : K ≤ 100) : classR N s r K = (clsOf (shp N s r K) N).1 := by
  unfold classR
  rw [if_pos h, if_pos (show basic.inB (K : Int) 0 100 = true from decide_eq_true (by omega))]; rfl
theorem class_zero {p : Nat → Nat → Bool} {n : Nat} (h : 1 ≤ n) : (clsOf p n).1.getD 0 0 = 0 := by
  have h1 : (clsOf p 1).1.getD 0 0 = 0 := by
    rw [cls_succ_none (p := p) (x := 0) (firstBy_at fun y hy => absurd hy (Nat.not_lt_zero _))]
    rfl
  have : ∀ m, 1 ≤ m → (clsOf p m).1.getD 0 0 = 0 := by
    intro m hm
    induction m with
    | zero => omega
    | succ m ih =>
      by_cases e : m = 0
      · subst e; exact h1
      · have hl := (cls_len p m).1
        cases hf : firstBy p m m with
        | some y => rw [cls_succ_some hf]; simp only [getD_app]; rw [if_pos (by omega)]; exact ih (by omega)
        | none => rw [cls_succ_none hf]; simp only [getD_app]; rw [if_pos (by omega)]; exact ih (by omega)
  exact this n h
theorem fact {n : Int} {s r : ByteArray} {x : Int} (h : classR n s r x ≠ []) : ∃ N K : Nat, n = N ∧ x = K ∧ ∃ Q, Fact N K s r (classR n s r x) Q := by
  by_cases hv : validB n s r = true
  · by_cases hx : basic.inB x 0 100 = true
    · obtain ⟨N, rfl, h1, h8, hs, hr⟩ := pieces.valid_size hv
      have hx' := of_decide_eq_true hx
      obtain ⟨K, rfl⟩ : ∃ K : Nat, x = K := ⟨x.toNat, by omega⟩
      have hK : K ≤ 100 := by omega
      have e1 := class_yes hv hK
      obtain ⟨L, hL⟩ : ∃ L : Nat, min ((K : Int) + 1) 100 = L := ⟨(min ((K : Int) + 1) 100).toNat, by omega⟩
      have hL1 : K ≤ L ∧ L ≤ 100 := by omega
      have e2 := class_yes hv hL1.2
      refine ⟨N, K, rfl, rfl, (clsOf (shp N s r L) N).1, ?_⟩
      rw [e1]
      refine ⟨h1, h8, hK, (cls_len _ _).1, (cls_len _ _).1, by rw [hL, e2], fun x y hx hy => ?_, fun x y hx hy e => ?_, class_zero h1⟩
      · have e3 : sameR N s r x N s r y K = shp N s r K x y := by
          unfold sameR
          rw [elemB_iff.2 ⟨hv, by omega, by omega⟩, elemB_iff.2 ⟨hv, by omega, by omega⟩, show basic.inB K 0 100 = true from decide_eq_true (by omega)]
          rfl
        rw [e3]
        exact Bool.eq_iff_iff.2 ((cls_iff (shp_eqv N s r K) N (Nat.le_refl _) x y hx hy).symm.trans beq_iff_eq.symm)
      · refine (cls_iff (shp_eqv N s r K) N (Nat.le_refl _) x y hx hy).2 ?_
        have h2 := (cls_iff (shp_eqv N s r L) N (Nat.le_refl _) x y hx hy).1 e
        exact narrow.less hx hy (by omega) (by omega) h2
    · exact absurd (by unfold classR; rw [if_pos hv, if_neg hx]) h
  · exact absurd (by unfold classR; rw [if_neg hv]) h
end Go.Proofs.YtefneihlgclkbaaDoor.bcl
