/- FnSumColours in plain words: the parts of a sum keep their balls, and sums in either order are alike. -/
import Derived.Test.YtefneihlgclkbaaDoorEmb
import Derived.Test.YtefneihlgclkbaaDoorAssoc
import Derived.Test.YtefneihlgclkbaaDoorPkI
import Derived.Test.YtefneihlgclkbaaDoorColQ
namespace Go.Proofs.YtefneihlgclkbaaDoor.sumc
set_option linter.unusedVariables false
set_option linter.unusedSimpArgs false
open Go.Proofs.YtefneihlgclkbaaDoor.base Go.Proofs.YtefneihlgclkbaaDoor.near Go.Proofs.YtefneihlgclkbaaDoor.same Go.Proofs.YtefneihlgclkbaaDoor.fits Go.Proofs.YtefneihlgclkbaaDoor.make Go.Proofs.YtefneihlgclkbaaDoor.emb Go.Proofs.YtefneihlgclkbaaDoor.sum Go.Proofs.YtefneihlgclkbaaDoor.val Go.Proofs.YtefneihlgclkbaaDoor.assoc Go.Proofs.YtefneihlgclkbaaDoor.sbs
/-- the sum's relation -/
def rr (N : Nat) (r : ByteArray) (M : Nat) (q : ByteArray) : ByteArray := bR (sumRel false N r M q) (N + M) (N + M)
theorem sum_valid {N M : Nat} {s r t q : ByteArray} (h1 : validB N s r = true) (h2 : validB M t q = true) (h8 : N + M ≤ 8) : validB (N + M : Nat) (s ++ t) (rr N r M q) = true := by
  obtain ⟨⟨a1, a2⟩, a3, a4, a5, a6⟩ := validB_iff.1 h1
  obtain ⟨⟨b1, b2⟩, b3, b4, b5, b6⟩ := validB_iff.1 h2
  refine validB_iff.2 ⟨by omega, by rw [ByteArray.size_append]; omega, ?_, bits_app a5 b5, bits_bR _ _ _⟩
  rw [rr, bR_size]; push_cast; rfl
theorem adj_bit {n : Nat} {r : ByteArray} {x y : Nat} (h1 : bitAt r (x * n + y) = false) (h2 : bitAt r (y * n + x) = false) : adj n r x y = false := by
  unfold adj
  rw [h1, h2]; simp
theorem left {N M : Nat} {s r t q : ByteArray} (hs : s.size = N) : Emb N s r (N + M) (s ++ t) (rr N r M q) id where
  lt i hi := by show i < N + M; omega
  inj i j _ _ e := e
  s i hi := by show bitAt (s ++ t) i = _; rw [bit_app, if_pos (by omega)]
  r i j hi hj := by
    show bitAt (rr N r M q) (i * (N + M) + j) = _
    rw [rr, bit_bR (by omega) (by omega), sumRel_ll hi hj]
  out i z hi hz e := by
    refine ⟨z, ?_, rfl⟩
    refine Classical.byContradiction fun hn => ?_
    have e : adj (N + M) (rr N r M q) i z = true := e
    rw [adj_bit (by rw [rr, bit_bR (by omega) (by omega), sumRel_lr hi (by omega)]) (by rw [rr, bit_bR (by omega) (by omega), sumRel_rl (by omega) hi])] at e
    cases e
theorem right {N M : Nat} {s r t q : ByteArray} (hs : s.size = N) : Emb M t q (N + M) (s ++ t) (rr N r M q) (fun y => N + y) where
  lt i hi := by show N + i < N + M; omega
  inj i j _ _ e := by have e : N + i = N + j := e; omega
  s i hi := by
    show bitAt (s ++ t) (N + i) = _
    rw [bit_app, if_neg (by omega), show N + i - s.size = i by omega]
  r i j hi hj := by
    show bitAt (rr N r M q) ((N + i) * (N + M) + (N + j)) = _
    rw [rr, bit_bR (by omega) (by omega), sumRel_rr (by omega) (by omega), show N + i - N = i by omega, show N + j - N = j by omega]
  out i z hi hz e := by
    refine ⟨z - N, ?_, ?_⟩
    · omega
    · have e : adj (N + M) (rr N r M q) (N + i) z = true := e
      by_cases hz2 : N ≤ z
      · show N + (z - N) = z; omega
      · rw [adj_bit (by rw [rr, bit_bR (by omega) (by omega), sumRel_rl (by omega) (by omega)]) (by rw [rr, bit_bR (by omega) (by omega), sumRel_lr (by omega) (by omega)])] at e
        cases e
/-- where the elements of the sum lie in the other one -/
def tr (N M : Nat) (x : Nat) : Nat := if x < N then M + x else x - N
theorem tr_lt {N M x : Nat} (h : x < N + M) : tr N M x < N + M := by unfold tr; split <;> omega
theorem tr_tr {N M x : Nat} (h : x < N + M) : tr M N (tr N M x) = x := by
  unfold tr; split <;> split <;> omega
theorem tr_inj {N M x y : Nat} (hx : x < N + M) (hy : y < N + M) (e : tr N M x = tr N M y) : x = y := by
  rw [← tr_tr (N := N) (M := M) hx, ← tr_tr (N := N) (M := M) hy, e]
theorem tr_s {N M : Nat} {s t : ByteArray} (hs : s.size = N) (ht : t.size = M) {i : Nat} (hi : i < N + M) : bitAt (t ++ s) (tr N M i) = bitAt (s ++ t) i := by
  rw [bit_app, bit_app]
  unfold tr
  by_cases h : i < N
  · rw [if_pos h, if_neg (by omega), if_pos (by omega), show M + i - t.size = i by omega]
  · rw [if_neg h, if_pos (by omega), if_neg (by omega), show i - s.size = i - N by omega]
theorem tr_r {N M : Nat} {r q : ByteArray} {i j : Nat} (hi : i < N + M) (hj : j < N + M) : bitAt (rr M q N r) (tr N M i * (M + N) + tr N M j) = bitAt (rr N r M q) (i * (N + M) + j) := by
  have a := tr_lt (N := N) (M := M) hi
  have b := tr_lt (N := N) (M := M) hj
  rw [rr, rr, bit_bR (by omega) (by omega), bit_bR hi hj]
  unfold tr
  by_cases h : i < N
  · by_cases h2 : j < N
    · rw [if_pos h, if_pos h2, sumRel_rr (by omega) (by omega), sumRel_ll h h2, show M + i - M = i by omega, show M + j - M = j by omega]
    · rw [if_pos h, if_neg h2, sumRel_rl (by omega) (by omega), sumRel_lr h (by omega)]
  · by_cases h2 : j < N
    · rw [if_neg h, if_pos h2, sumRel_lr (by omega) (by omega), sumRel_rl (by omega) h2]
    · rw [if_neg h, if_neg h2, sumRel_ll (by omega) (by omega), sumRel_rr (by omega) (by omega)]
theorem turn {N M : Nat} {s r t q : ByteArray} (hs : s.size = N) (ht : t.size = M) : Emb (N + M) (s ++ t) (rr N r M q) (N + M) (t ++ s) (rr M q N r) (tr N M) where
  lt i hi := tr_lt hi
  inj i j hi hj e := tr_inj hi hj e
  s i hi := tr_s hs ht hi
  r i j hi hj := by have := tr_r (r := r) (q := q) hi hj; rw [Nat.add_comm M N] at this; exact this
  out i z hi hz _ := ⟨tr M N z, by have := tr_lt (N := M) (M := N) (x := z) (by omega); omega, tr_tr (N := M) (M := N) (by omega)⟩
/-- sums in either order are alike -/
theorem turn_iso {N M : Nat} {s r t q : ByteArray} (hs : s.size = N) (ht : t.size = M) : Iso (N + M) (t ++ s) (rr M q N r) (s ++ t) (rr N r M q) ((List.range (N + M)).map (tr N M)) :=
  Iso.of_fun _ (fun _ hi => tr_lt hi) (fun _ _ hi hj e => tr_inj hi hj e) (fun _ hi => tr_s hs ht hi) (fun i j hi hj => by have := tr_r (r := r) (q := q) hi hj; rw [Nat.add_comm M N] at this; exact this)
theorem cnt_eq {n : Nat} {f : Nat → Nat} (lt : ∀ i, i < n → f i < n) (sur : ∀ z, z < n → ∃ i, i < n ∧ f i = z) (inj : ∀ i j, i < n → j < n → f i = f j → i = j) {p q : Nat → Bool} (h : ∀ i, i < n → q (f i) = p i) : cnt p n = cnt q n := by
  have nd : ((List.range n).map f).Nodup := nodup_map f (fun i j hi hj => inj i j (List.mem_range.1 hi) (List.mem_range.1 hj)) List.nodup_range
  have hp : ((List.range n).map f).Perm (List.range n) := by
    refine (List.perm_ext_iff_of_nodup nd List.nodup_range).2 fun x => ⟨fun hx => ?_, fun hx => ?_⟩
    · obtain ⟨i, hi, rfl⟩ := List.mem_map.1 hx
      exact List.mem_range.2 (lt i (List.mem_range.1 hi))
    · obtain ⟨i, hi, rfl⟩ := sur x (List.mem_range.1 hx)
      exact List.mem_map.2 ⟨i, List.mem_range.2 hi, rfl⟩
  unfold cnt
  have := (hp.filter q).length_eq
  rw [← this, List.filter_map, List.length_map]
  congr 1
  refine List.filter_congr fun i hi => ?_
  exact (h i (List.mem_range.1 hi)).symm
theorem balls_turn {N M : Nat} {s r t q : ByteArray} (hs : s.size = N) (ht : t.size = M) {rad : Int} {x : Nat} : balls (N + M) (s ++ t) (rr N r M q) (t ++ s) (rr M q N r) rad x = true := by
  unfold balls
  have E := turn (r := r) (q := q) hs ht
  refine beq_iff_eq.2 (cnt_eq (f := tr N M) (fun i hi => tr_lt hi) (fun z hz => ⟨tr M N z, by have := tr_lt (N := M) (M := N) (x := z) (by omega); omega, tr_tr (N := M) (M := N) (by omega)⟩) (fun i j hi hj e => tr_inj hi hj e) fun i hi => ?_)
  refine Bool.eq_iff_iff.2 ⟨fun h => ?_, fun h => ?_⟩
  · exact sameB_trans h (sameB_symm (E.same hi))
  · exact sameB_trans h (E.same hi)
/-- what the law asks -/
structure Fact (N M : Nat) (s r t q : ByteArray) : Prop where
  n : 1 ≤ N
  m : 1 ≤ M
  k : N + M ≤ 8
  l : ∀ (x : Nat) (rad : Int), x < N → 0 ≤ rad → rad < 4 → same.sameR N s r x (N + M : Nat) (s ++ t) (rr N r M q) x rad = true
  r' : ∀ (y : Nat) (rad : Int), y < M → 0 ≤ rad → rad < 4 → same.sameR M t q y (N + M : Nat) (s ++ t) (rr N r M q) (N + y : Nat) rad = true
  b : ∀ rad : Int, 0 ≤ rad → rad < 4 → sbsR (N + M : Nat) (s ++ t) (rr N r M q) (N + M : Nat) (t ++ s) (rr M q N r) rad = true
  c : specd.sameR (N + M : Nat) (s ++ t) (rr N r M q) (N + M : Nat) (t ++ s) (rr M q N r) = true
theorem fact {N M : Nat} {s r t q : ByteArray} (h1 : validB N s r = true) (h2 : validB M t q = true) (h8 : N + M ≤ 8) : Fact N M s r t q := by
  have v1 := sum_valid h1 h2 h8
  have v2 := sum_valid h2 h1 (by omega)
  rw [Nat.add_comm M N] at v2
  obtain ⟨⟨a1, a2⟩, a3, -⟩ := validB_iff.1 h1
  obtain ⟨⟨b1, b2⟩, b3, -⟩ := validB_iff.1 h2
  have hs : s.size = N := by omega
  have ht : t.size = M := by omega
  refine ⟨by omega, by omega, h8, fun x rad hx h0 h4 => ?_, fun y rad hy h0 h4 => ?_, fun rad h0 h4 => ?_, ?_⟩
  · unfold same.sameR
    rw [elemB_iff.2 ⟨h1, by omega, by omega⟩, elemB_iff.2 ⟨v1, by omega, by omega⟩, basic.inB_true h0 (by omega)]
    simp only [Bool.true_and, Int.toNat_natCast]
    exact (left hs).same hx
  · unfold same.sameR
    rw [elemB_iff.2 ⟨h2, by omega, by omega⟩, elemB_iff.2 ⟨v1, by omega, by omega⟩, basic.inB_true h0 (by omega)]
    simp only [Bool.true_and, Int.toNat_natCast]
    exact (right hs).same hy
  · unfold sbsR
    rw [v1, v2, basic.inB_true h0 (by omega), decide_eq_true rfl]
    simp only [Bool.true_and, Int.toNat_natCast]
    exact List.all_eq_true.2 fun x _ => balls_turn hs ht
  · unfold specd.sameR
    rw [v1, v2]
    simp only [Bool.true_and, Int.toNat_natCast]
    rw [colq.same_swap]
    exact colq.iso_same (turn_iso hs ht) _
end Go.Proofs.YtefneihlgclkbaaDoor.sumc
