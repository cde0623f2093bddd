/- FnSameBall in plain words. -/
import Derived.Test.YtefneihlgclkbaaDoorPkM
import Derived.Test.YtefneihlgclkbaaDoorPkJ
import Derived.Test.YtefneihlgclkbaaDoorPkI
import Derived.Test.YtefneihlgclkbaaDoorBallO
namespace Go.Proofs.YtefneihlgclkbaaDoor.sbl
set_option linter.unusedVariables false
set_option linter.unusedSimpArgs false
open Go.Proofs.YtefneihlgclkbaaDoor.base Go.Proofs.YtefneihlgclkbaaDoor.near Go.Proofs.YtefneihlgclkbaaDoor.dist Go.Proofs.YtefneihlgclkbaaDoor.ball Go.Proofs.YtefneihlgclkbaaDoor.same Go.Proofs.YtefneihlgclkbaaDoor.around Go.Proofs.YtefneihlgclkbaaDoor.emb Go.Proofs.YtefneihlgclkbaaDoor.narrow Go.Proofs.YtefneihlgclkbaaDoor.fits Go.Proofs.YtefneihlgclkbaaDoor.still Go.Proofs.YtefneihlgclkbaaDoor.ispart Go.Proofs.YtefneihlgclkbaaDoor.pairL

/-- a ball has as many elements as its structure -/
theorem ball_len {n : Nat} {r : ByteArray} {x : Nat} {rad : Int} (hx : x < n) (h0 : 0 ≤ rad) : (ballTo n r x rad n).length = (midN n r x rad).length := by
  rw [ballN_ints, ints_len]
  have hn : (ballN n r x rad).Nodup := List.nodup_range.filter _
  refine List.Perm.length_eq ((List.perm_ext_iff_of_nodup hn (midN_nodup n r x rad)).2 fun z => ?_)
  rw [mem_mid hx h0]
  unfold ballN
  rw [List.mem_filter, List.mem_range]
  constructor
  · rintro ⟨h1, h2⟩
    exact ⟨h1, (in_rk hx h1).1 (of_decide_eq_true h2)⟩
  · rintro ⟨h1, h2⟩
    exact ⟨h1, decide_eq_true ((in_rk hx h1).2 h2)⟩
theorem sw_one {N : Nat} {s r : ByteArray} {X M : Nat} {t q : ByteArray} {Y : Nat} : swB N s r [X] M t q [Y] = true ↔ bitAt s X = bitAt t Y ∧ bitAt r (X * N + X) = bitAt q (Y * M + Y) := by
  unfold swB still.stB
  simp [List.range_succ]
/-- what the law asks, at an element of the first structure and a radius -/
structure Fact (N X : Nat) (s r : ByteArray) (m y : Int) (t q : ByteArray) (rad : Int) (S I : Bool) (P Q : List Int) : Prop where
  n1 : 1 ≤ N
  n8 : N ≤ 8
  hv : validB N s r = true
  hs : s.size = N
  hr : r.size = N * N
  hX : X < N
  eS : S = sameR N s r X m t q y rad
  eP : P = ballR N s r X rad
  eQ : Q = ballR m t q y rad
  pl : P.length ≤ 8
  ql : Q.length ≤ 8
  turned : sameR m t q y N s r X rad = S
  orbit : ∀ o, Iso N s r s r o → sameR N s r X N s r (o.getD X 0 : Nat) rad = true
  len : S = true → P.length = Q.length
  less : S = true → rad ≠ 0 → sameR N s r X m t q y (rad - 1) = true
  ip : I = ipB N s r [(X : Int)] m t q [y]
  part : S = true → I = true
  zero : rad = 0 → S = I
theorem fact {n : Int} {s r : ByteArray} {x m : Int} {t q : ByteArray} {y rad : Int} (hv : validB n s r = true) (hx : 0 ≤ x ∧ x < n) (hy : 0 ≤ y ∧ y < m) (hr : 0 ≤ rad ∧ rad ≤ 100) :
    ∃ N X : Nat, n = N ∧ x = X ∧ ∃ S I P Q, Fact N X s r m y t q rad S I P Q := by
  obtain ⟨N, rfl, n1, n8, zs, zr⟩ := prod.valid_size hv
  obtain ⟨X, rfl⟩ : ∃ X : Nat, x = X := ⟨x.toNat, by omega⟩
  have hX : X < N := by omega
  have hex : elemB N s r X = true := elemB_iff.2 ⟨hv, by omega, by omega⟩
  have hin : basic.inB rad 0 100 = true := decide_eq_true (by omega)
  have el : ∀ {n : Nat} {s r : ByteArray} {x : Nat}, validB n s r = true → x < n → elemB n s r x = true := fun hv hx => elemB_iff.2 ⟨hv, by omega, by omega⟩
  have blen : ∀ {n : Nat} {s r : ByteArray} {x : Nat}, elemB n s r x = true → ballR n s r x rad = ballTo n r x rad n := fun h => by
    unfold ballR; rw [if_pos h, if_pos hin]; rfl
  have hmid8 : ∀ {n : Nat} {r : ByteArray} {x : Nat}, x < n → n ≤ 8 → (ballTo n r x rad n).length ≤ 8 := fun hx h8 => by
    rw [ball_len hx hr.1]; exact Nat.le_trans (midN_len hx) h8
  have orb : ∀ o, Iso N s r s r o → sameR N s r X N s r (o.getD X 0 : Nat) rad = true := fun o ho => by
    unfold sameR
    rw [hex, el hv (ho.lt X hX), hin]
    exact narrow.same_iso ho hX rad
  refine ⟨N, X, rfl, rfl, sameR N s r X m t q y rad, ipB N s r [(X : Int)] m t q [y], ballR N s r X rad, ballR m t q y rad, ?_⟩
  cases hw : validB m t q with
  | false =>
    have hey : elemB m t q y = false := by
      cases h : elemB m t q y with
      | false => rfl
      | true => rw [(elemB_iff.1 h).1] at hw; cases hw
    have hS : sameR N s r X m t q y rad = false := by unfold sameR; rw [hey]; simp
    have hQ : ballR m t q y rad = [] := by unfold ballR; rw [hey]; rfl
    have hI : ipB N s r [(X : Int)] m t q [y] = false := by unfold ipB okLs okL; rw [hw]; simp
    refine ⟨n1, n8, hv, zs, zr, hX, rfl, rfl, rfl, ?_, ?_, ?_, orb, ?_, ?_, rfl, ?_, ?_⟩
    · rw [blen hex]; exact hmid8 hX n8
    · rw [hQ]; simp
    · rw [hS]; unfold sameR; rw [hey]; rfl
    · rw [hS]; intro h; cases h
    · rw [hS]; intro h; cases h
    · rw [hS]; intro h; cases h
    · rw [hS, hI]; intro _; rfl
  | true =>
    obtain ⟨M, rfl, m1, m8, zt, zq⟩ := prod.valid_size hw
    obtain ⟨Y, rfl⟩ : ∃ Y : Nat, y = Y := ⟨y.toNat, by omega⟩
    have hY : Y < M := by omega
    have hey := el hw hY
    have hS : sameR N s r X M t q Y rad = sameB N s r X M t q Y rad := by unfold sameR; rw [hex, hey, hin]; rfl
    have hS2 : sameR M t q Y N s r X rad = sameB M t q Y N s r X rad := by unfold sameR; rw [hex, hey, hin]; rfl
    have hI : ipB N s r [(X : Int)] M t q [(Y : Int)] = swB N s r [X] M t q [Y] := by
      unfold ipB okLs okL
      rw [hv, hw]
      have e1 : elIn N (X : Int) = true := decide_eq_true (by omega)
      have e2 : elIn M (Y : Int) = true := decide_eq_true (by omega)
      simp [nats, e1, e2]
    have part : sameB N s r X M t q Y rad = true → swB N s r [X] M t q [Y] = true := fun h => by
      obtain ⟨a, b⟩ := same_mid h
      exact sw_one.2 ⟨a.symm, b.symm⟩
    refine ⟨n1, n8, hv, zs, zr, hX, rfl, rfl, rfl, ?_, ?_, ?_, orb, ?_, ?_, rfl, ?_, ?_⟩
    · rw [blen hex]; exact hmid8 hX n8
    · rw [blen hey]; exact hmid8 hY m8
    · rw [hS, hS2]; exact sameB_comm _ _ _ _ _ _ _ _ _
    · rw [hS]; intro h
      rw [blen hex, blen hey, ball_len hX hr.1, ball_len hY hr.1]
      exact same_len h
    · rw [hS]; intro h h0
      have hin2 : basic.inB (rad - 1) 0 100 = true := decide_eq_true (by omega)
      unfold sameR; rw [hex, hey, hin2]
      exact narrow.less hX hY (by omega) (by omega) h
    · rw [hS, hI]; exact part
    · intro h0
      subst h0
      rw [hS, hI]
      have key : sameB N s r X M t q Y 0 = true ↔ swB N s r [X] M t q [Y] = true := by
        rw [same_zero hX hY, sw_one]
        exact ⟨fun h => ⟨h.1.symm, h.2.symm⟩, fun h => ⟨h.1.symm, h.2.symm⟩⟩
      cases h1 : sameB N s r X M t q Y 0 <;> cases h2 : swB N s r [X] M t q [Y]
      · rfl
      · rw [key.2 h2] at h1; cases h1
      · rw [key.1 h1] at h2; cases h2
      · rfl
end Go.Proofs.YtefneihlgclkbaaDoor.sbl
