/- FnProductOf in plain words. -/
import Derived.Test.YtefneihlgclkbaaDoorProd
import Derived.Test.YtefneihlgclkbaaDoorPairP
import Derived.Test.YtefneihlgclkbaaDoorShape
import Derived.Test.YtefneihlgclkbaaDoorVal
namespace Go.Proofs.YtefneihlgclkbaaDoor.prodl
set_option linter.unusedVariables false
set_option linter.unusedSimpArgs false
open Go.Proofs.YtefneihlgclkbaaDoor.base Go.Proofs.YtefneihlgclkbaaDoor.make Go.Proofs.YtefneihlgclkbaaDoor.prod Go.Proofs.YtefneihlgclkbaaDoor.val Go.Proofs.YtefneihlgclkbaaDoor.shape Go.Proofs.YtefneihlgclkbaaDoor.fits Go.Proofs.YtefneihlgclkbaaDoor.pairP Go.Proofs.YtefneihlgclkbaaDoor.trim
theorem pair_div {M x y : Nat} (hy : y < M) : (x * M + y) / M = x ∧ (x * M + y) % M = y := by
  have hM : 0 < M := by omega
  constructor
  · rw [Nat.mul_comm, Nat.mul_add_div hM, Nat.div_eq_of_lt hy, Nat.add_zero]
  · rw [Nat.mul_comm, Nat.mul_add_mod, Nat.mod_eq_of_lt hy]
theorem pair_lt {N M x y : Nat} (hx : x < N) (hy : y < M) : x * M + y < N * M := by
  have : (x + 1) * M ≤ N * M := Nat.mul_le_mul_right M hx
  rw [Nat.succ_mul] at this; omega
theorem div_lt {N M p : Nat} (h : p < N * M) : p / M < N ∧ p % M < M ∧ p / M * M + p % M = p := by
  have hM : 0 < M := by
    cases M with
    | zero => simp at h
    | succ M => omega
  exact ⟨Nat.div_lt_of_lt_mul (by rw [Nat.mul_comm]; exact h), Nat.mod_lt _ hM, by rw [Nat.mul_comm]; exact Nat.div_add_mod p M⟩
/-- where a pair lies in the product of the exchanged structures -/
def ex (N M p : Nat) : Nat := p % N * M + p / N
theorem ex_lt {N M p : Nat} (h : p < M * N) : ex N M p < N * M := by
  obtain ⟨h1, h2, -⟩ := div_lt h
  exact pair_lt h2 h1
theorem ex_inj {N M p p' : Nat} (h : p < M * N) (h' : p' < M * N) (e : ex N M p = ex N M p') : p = p' := by
  obtain ⟨h1, h2, h3⟩ := div_lt h
  obtain ⟨h1', h2', h3'⟩ := div_lt h'
  unfold ex at e
  have a := pair_div (x := p % N) h1
  have b := pair_div (x := p' % N) h1'
  rw [e] at a
  rw [← h3, ← h3', ← a.1, ← a.2, b.1, b.2]
/-- the product's texts -/
def pS' (N : Nat) (s : ByteArray) (M : Nat) (t : ByteArray) : ByteArray := bS (pSet s M t) (N * M)
def pR' (N : Nat) (r : ByteArray) (M : Nat) (q : ByteArray) : ByteArray := bR (pRel N r M q) (N * M) (N * M)
theorem bit_s {N M x y : Nat} {s t : ByteArray} (hx : x < N) (hy : y < M) : bitAt (pS' N s M t) (x * M + y) = (bitAt s x && bitAt t y) := by
  have := pair_div (x := x) hy
  rw [pS', bit_bS (pair_lt hx hy), pSet, this.1, this.2]
theorem bit_r {N M x y u v : Nat} {r q : ByteArray} (hx : x < N) (hy : y < M) (hu : u < N) (hv : v < M) : bitAt (pR' N r M q) ((x * M + y) * (N * M) + (u * M + v)) = (bitAt r (x * N + u) && bitAt q (y * M + v)) := by
  have a := pair_div (x := x) hy
  have b := pair_div (x := u) hv
  rw [pR', bit_bR (pair_lt hx hy) (pair_lt hu hv), pRel, a.1, a.2, b.1, b.2]
/-- products in either order are alike -/
theorem ex_iso {N M : Nat} {s r t q : ByteArray} : Iso (N * M) (pS' N s M t) (pR' N r M q) (bS (pSet t N s) (N * M)) (bR (pRel M q N r) (N * M) (N * M)) ((List.range (N * M)).map (ex N M)) := by
  have hc : M * N = N * M := Nat.mul_comm _ _
  refine Iso.of_fun _ (fun i hi => ex_lt (by rw [hc]; exact hi)) (fun i j hi hj e => ex_inj (by rw [hc]; exact hi) (by rw [hc]; exact hj) e) (fun i hi => ?_) (fun i j hi hj => ?_)
  · obtain ⟨h1, h2, h3⟩ := div_lt (N := M) (M := N) (p := i) (by rw [hc]; exact hi)
    rw [ex, bit_s h2 h1, bit_bS hi, pSet, Bool.and_comm]
  · obtain ⟨h1, h2, -⟩ := div_lt (N := M) (M := N) (p := i) (by rw [hc]; exact hi)
    obtain ⟨k1, k2, -⟩ := div_lt (N := M) (M := N) (p := j) (by rw [hc]; exact hj)
    rw [ex, ex, bit_r h2 h1 k2 k1, bit_bR hi hj, pRel, Bool.and_comm]
/-- the structure of one element that has all -/
def one : ByteArray := ⟨#[49]⟩
theorem one_valid : validB 1 one one = true := validB_iff.2 ⟨⟨by omega, by omega⟩, rfl, rfl, by decide, by decide⟩
theorem one_s {N : Nat} {s : ByteArray} (hs : s.size = N) (hb : bitsB s = true) : bS (pSet s 1 one) (N * 1) = s := by
  refine bits_ext (bits_bS _ _) hb (by rw [bS_size]; omega) fun i hi => ?_
  rw [bS_size] at hi
  have e : bitAt one 0 = true := by decide
  rw [bit_bS hi, pSet, Nat.div_one, Nat.mod_one, e, Bool.and_true]
theorem one_r {N : Nat} {r : ByteArray} (hr : r.size = N * N) (hb : bitsB r = true) : bR (pRel N r 1 one) (N * 1) (N * 1) = r := by
  rw [Nat.mul_one]
  refine rel_ext (n := N) (bits_bR _ _ _) hb (by rw [bR_size]) hr fun x y hx hy => ?_
  have e : bitAt one 0 = true := by decide
  rw [bit_bR hx hy, pRel, Nat.div_one, Nat.mod_one, Nat.div_one, Nat.mod_one, show 0 * 1 + 0 = 0 from rfl, e, Bool.and_true]
/-- what the law asks -/
structure Fact (N M K : Nat) (s r t q S1 R1 S2 R2 : ByteArray) : Prop where
  n : 1 ≤ N
  m : 1 ≤ M
  n8 : N ≤ 8
  m8 : M ≤ 8
  k : K = N * M
  k8 : K ≤ 8
  va : validB N s r = true
  vb : validB M t q = true
  v1 : validB K S1 R1 = true
  z : s.size ≤ 100 ∧ r.size ≤ 100 ∧ t.size ≤ 100 ∧ q.size ≤ 100 ∧ S1.size ≤ 100 ∧ R1.size ≤ 100 ∧ S2.size ≤ 100 ∧ R2.size ≤ 100
  c1 : okP N s r M t q = true ∧ pn N s r M t q = K ∧ ps N s r M t q = S1 ∧ pr N s r M t q = R1
  c2 : okP M t q N s r = true ∧ pn M t q N s r = K ∧ ps M t q N s r = S2 ∧ pr M t q N s r = R2
  c3 : okP N s r 1 one one = true ∧ pn N s r 1 one one = N ∧ ps N s r 1 one one = s ∧ pr N s r 1 one one = r
  pl : ∀ x y : Nat, x < N → y < M → place N s r M t q x y = ((x * M + y : Nat) : Int)
  lt : ∀ x y : Nat, x < N → y < M → x * M + y < K
  bs : ∀ x y : Nat, x < N → y < M → bitAt S1 (x * M + y) = (bitAt s x && bitAt t y)
  br : ∀ x y u v : Nat, x < N → y < M → u < N → v < M → bitAt R1 ((x * M + y) * K + (u * M + v)) = (bitAt r (x * N + u) && bitAt q (y * M + v))
  sh : shpR K S1 R1 K S2 R2 = true
theorem fact {n : Int} {s r : ByteArray} {m : Int} {t q : ByteArray} (h : okP n s r m t q = true) : ∃ N M K : Nat, n = N ∧ m = M ∧ ∃ S1 R1 S2 R2, Fact N M K s r t q S1 R1 S2 R2 := by
  have h' := h
  unfold okP at h'
  rw [Bool.and_eq_true, Bool.and_eq_true, decide_eq_true_iff] at h'
  obtain ⟨va, vb, h8⟩ := h'
  obtain ⟨N, rfl, hN1, hN8, hs, hr⟩ := prod.valid_size va
  obtain ⟨M, rfl, hM1, hM8, ht, hq⟩ := prod.valid_size vb
  have hc : M * N = N * M := Nat.mul_comm _ _
  have hK8 : N * M ≤ 8 := by
    have : ((N * M : Nat) : Int) = (N : Int) * M := by push_cast; rfl
    omega
  have hK1 : 1 ≤ N * M := Nat.mul_le_mul hN1 hM1
  have h2 : okP M t q N s r = true := by
    unfold okP
    rw [va, vb, decide_eq_true (by rw [Int.mul_comm]; exact h8)]; rfl
  have h3 : okP N s r 1 one one = true := by
    unfold okP
    rw [va, one_valid, decide_eq_true (by omega)]; rfl
  obtain ⟨a1, a2, a3⟩ := p_yes h
  obtain ⟨b1, b2, b3⟩ := p_yes_at (K := N * M) hc.symm h2
  obtain ⟨d1, d2, d3⟩ := p_yes (M := 1) h3
  obtain ⟨-, -, -, sa, ra⟩ := validB_iff.1 va
  have v1 : validB (N * M : Nat) (bS (pSet s M t) (N * M)) (bR (pRel N r M q) (N * M) (N * M)) = true := valid_made _ _ hK1 hK8
  have v2 : validB (N * M : Nat) (bS (pSet t N s) (N * M)) (bR (pRel M q N r) (N * M) (N * M)) = true := valid_made _ _ hK1 hK8
  have hKK : N * M * (N * M) ≤ 8 * 8 := Nat.mul_le_mul hK8 hK8
  have hNN : N * N ≤ 8 * 8 := Nat.mul_le_mul hN8 hN8
  have hMM : M * M ≤ 8 * 8 := Nat.mul_le_mul hM8 hM8
  refine ⟨N, M, N * M, rfl, rfl, _, _, _, _, hN1, hM1, hN8, hM8, rfl, hK8, va, vb, v1, ?_, ⟨h, a1, a2, a3⟩, ⟨h2, b1, b2, b3⟩, ⟨h3, ?_, ?_, ?_⟩, fun x y hx hy => ?_, fun x y hx hy => pair_lt hx hy, fun x y hx hy => bit_s hx hy, fun x y u v hx hy hu hv => bit_r hx hy hu hv, ?_⟩
  · rw [bS_size, bR_size, bS_size, bR_size]; omega
  · rw [Nat.mul_one] at d1; exact d1
  · have := one_s hs sa; exact d2.trans this
  · have := one_r hr ra; exact d3.trans this
  · unfold place
    rw [elemB_iff.2 ⟨va, by omega, by omega⟩, elemB_iff.2 ⟨vb, by omega, by omega⟩]
    have : ((x * M + y : Nat) : Int) = (x : Int) * M + y := by push_cast; rfl
    simp [this]
  · refine shpR_iff.2 ⟨v1, v2, rfl, ?_⟩
    rw [Int.toNat_natCast]
    exact ⟨_, ex_iso⟩
end Go.Proofs.YtefneihlgclkbaaDoor.prodl
