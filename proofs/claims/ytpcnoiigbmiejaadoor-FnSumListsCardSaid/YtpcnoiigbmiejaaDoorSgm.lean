/- Games on sums and products of drawn structures, in plain words. No program in sight. -/
import Derived.Test.YtpcnoiigbmiejaaDoorPkQ
import Derived.Test.YtpcnoiigbmiejaaDoorWinC
import Derived.Test.YtpcnoiigbmiejaaDoorSum
import Derived.Test.YtpcnoiigbmiejaaDoorProd
import Derived.Test.YtpcnoiigbmiejaaDoorAssoc
import Derived.Test.YtpcnoiigbmiejaaDoorJoin
namespace Go.Proofs.YtpcnoiigbmiejaaDoor.sgm
set_option linter.unusedVariables false
set_option linter.unusedSimpArgs false
open Go.RowKit
open Go.Proofs.YtpcnoiigbmiejaaDoor.lib Go.Proofs.YtpcnoiigbmiejaaDoor.make Go.Proofs.YtpcnoiigbmiejaaDoor.fits Go.Proofs.YtpcnoiigbmiejaaDoor.base Go.Proofs.YtpcnoiigbmiejaaDoor.game Go.Proofs.YtpcnoiigbmiejaaDoor.gob Go.Proofs.YtpcnoiigbmiejaaDoor.gow Go.Proofs.YtpcnoiigbmiejaaDoor.sum Go.Proofs.YtpcnoiigbmiejaaDoor.prod Go.Proofs.YtpcnoiigbmiejaaDoor.val Go.Proofs.YtpcnoiigbmiejaaDoor.assoc Go.Proofs.YtpcnoiigbmiejaaDoor.ispart Go.Proofs.YtpcnoiigbmiejaaDoor.pairL Go.Proofs.YtpcnoiigbmiejaaDoor.still Go.Proofs.YtpcnoiigbmiejaaDoor.gox Go.Proofs.YtpcnoiigbmiejaaDoor.join

theorem alk_sum (o : Bool) {N M : Nat} {s r t q : ByteArray} (hs : s.size = N) : Alk (sumG o (gr N s r) (gr M t q)) (gr (N + M) (s ++ t) (bR (sumRel o N r M q) (N + M) (N + M))) := by
  refine ⟨rfl, fun x hx => ?_, fun x y hx hy => ?_⟩
  · have hx : x < N + M := hx
    show (if x < N then bitAt s x else bitAt t (x - N)) = bitAt (s ++ t) x
    rw [bit_app, hs]
  · have hx : x < N + M := hx
    have hy : y < N + M := hy
    show _ = bitAt _ (x * (N + M) + y)
    rw [bit_bR hx hy]
    by_cases h1 : x < N <;> by_cases h2 : y < N
    · rw [sumRel_ll h1 h2]; exact sumG_l (A := gr N s r) h1 h2
    · rw [sumRel_lr h1 (by omega)]
      have := sumG_lr (o := o) (A := gr N s r) (C := gr M t q) (y := y - N) (x := x) h1
      rwa [show (gr N s r).n + (y - N) = y from by show N + (y - N) = y; omega] at this
    · rw [sumRel_rl (by omega) h2]
      have := sumG_rl (o := o) (A := gr N s r) (C := gr M t q) (x := x - N) (y := y) h2
      rwa [show (gr N s r).n + (x - N) = x from by show N + (x - N) = x; omega] at this
    · rw [sumRel_rr (by omega) (by omega)]
      have := sumG_r (o := o) (A := gr N s r) (C := gr M t q) (x := x - N) (y := y - N)
      rw [show (gr N s r).n + (x - N) = x from by show N + (x - N) = x; omega, show (gr N s r).n + (y - N) = y from by show N + (y - N) = y; omega] at this
      exact this
theorem alk_prod {N M : Nat} {s r t q : ByteArray} : Alk (prodG (gr N s r) (gr M t q)) (gr (N * M) (bS (pSet s M t) (N * M)) (bR (pRel N r M q) (N * M) (N * M))) := by
  refine ⟨rfl, fun x hx => ?_, fun x y hx hy => ?_⟩
  · have hx : x < N * M := hx
    show _ = bitAt _ x
    rw [bit_bS hx]; rfl
  · have hx : x < N * M := hx
    have hy : y < N * M := hy
    show _ = bitAt _ (x * (N * M) + y)
    rw [bit_bR hx hy]; rfl
/-- what the answer of SecondWins means -/
theorem swn_iff {N : Nat} {s r : ByteArray} {la : List Nat} {M : Nat} {t q : ByteArray} {lb : List Nat} {k : Nat} : swnB N s r (ints la) M t q (ints lb) k = true ↔ validB N s r = true ∧ validB M t q = true ∧ la.length = lb.length ∧ la.length ≤ 4 ∧ (∀ x, x ∈ la → x < N) ∧ (∀ x, x ∈ lb → x < M) ∧ k ≤ 3 ∧ Win (gr N s r) (gr M t q) k (la.zip lb) := by
  have hall : ∀ (n : Nat) (l : List Nat), (ints l).all (elIn n) = true ↔ ∀ x, x ∈ l → x < n := fun n l => by
    rw [List.all_eq_true]
    constructor
    · intro h x hx
      have := of_decide_eq_true (h (x : Int) (List.mem_map.2 ⟨x, hx, rfl⟩))
      omega
    · intro h x hx
      obtain ⟨y, hy, rfl⟩ := List.mem_map.1 hx
      have := h y hy
      exact decide_eq_true (by omega)
  have hlen : ∀ l : List Nat, (ints l).length = l.length := fun l => by simp [ints]
  unfold swnB gmB okLs okL
  simp only [Bool.and_eq_true, decide_eq_true_eq, hall, hlen, nats_ints, Int.toNat_natCast]
  constructor
  · rintro ⟨⟨⟨⟨h1, h2, h3⟩, ⟨h4, h5, h6⟩, h7⟩, h8, h9⟩, hw⟩
    exact ⟨h1, h4, h7, h2, h3, h6, by omega, (win_iff h7 h3 h6).1 hw⟩
  · rintro ⟨h1, h4, h7, h2, h3, h6, h9, hw⟩
    exact ⟨⟨⟨⟨h1, h2, h3⟩, ⟨h4, by omega, h6⟩, h7⟩, by omega, by omega⟩, (win_iff h7 h3 h6).2 hw⟩
/-- what stands in an answer of SecondWins -/
theorem swn_form {n : Int} {s r : ByteArray} {la : List Int} {m : Int} {t q : ByteArray} {lb : List Int} {x : Int} (h : swnB n s r la m t q lb x = true) : ∃ (N M k : Nat) (xa xb : List Nat), n = N ∧ m = M ∧ x = k ∧ la = ints xa ∧ lb = ints xb := by
  have h1 : gmB n s r la m t q lb x = true := by unfold swnB at h; simp only [Bool.and_eq_true] at h; exact h.1
  unfold gmB at h1
  simp only [Bool.and_eq_true, decide_eq_true_eq] at h1
  obtain ⟨N, M, e1, e2, -, -, -, -, -, -, -, -, -, -, -, -, e3, e4, -⟩ := ok_facts h1.1
  exact ⟨N, M, x.toNat, nats la, nats lb, e1, e2, by omega, e3.symm, e4.symm⟩
theorem nil_form {n : Int} {s r : ByteArray} {m : Int} {t q : ByteArray} {x : Int} (h : swnB n s r [] m t q [] x = true) : ∃ (N M k : Nat), n = N ∧ m = M ∧ x = k ∧ validB N s r = true ∧ validB M t q = true ∧ k ≤ 3 ∧ Win (gr N s r) (gr M t q) k [] := by
  obtain ⟨N, M, k, _, _, rfl, rfl, rfl, _, _⟩ := swn_form h
  obtain ⟨h1, h2, -, -, -, -, h3, h4⟩ := (swn_iff (la := []) (lb := [])).1 h
  exact ⟨N, M, k, rfl, rfl, rfl, h1, h2, h3, h4⟩
theorem size_of {N : Nat} {s r : ByteArray} (h : validB N s r = true) : s.size = N := by
  obtain ⟨-, h, -⟩ := validB_iff.1 h; omega
/-- the game of a structure and itself -/
theorem self_wins {n : Int} {s r : ByteArray} {x : Int} (hv : validB n s r = true) (h0 : 0 ≤ x) (h3 : x ≤ 3) : swnB n s r [] n s r [] x = true := by
  obtain ⟨N, rfl, -⟩ := prod.valid_size hv
  obtain ⟨k, rfl⟩ := Int.eq_ofNat_of_zero_le h0
  exact (swn_iff (la := []) (lb := [])).2 ⟨hv, hv, rfl, by decide, by simp, by simp, by omega, Win.refl _ _ (by simp)⟩
/-- sums of parts whose games are won -/
theorem sum_wins (o : Bool) {n : Int} {s r : ByteArray} {m : Int} {t q : ByteArray} {c : Int} {u v : ByteArray} {d : Int} {y z : ByteArray} {x : Int} (h1 : swnB n s r [] m t q [] x = true) (h2 : swnB c u v [] d y z [] x = true) (k1 : okS n s r c u v = true) (k2 : okS m t q d y z = true) :
    swnB (sn n s r c u v) (ss n s r c u v) (sr o n s r c u v) [] (sn m t q d y z) (ss m t q d y z) (sr o m t q d y z) [] x = true := by
  obtain ⟨N, M, k, rfl, rfl, rfl, va, vb, hk, hw⟩ := nil_form h1
  obtain ⟨C, D, k', rfl, rfl, e, vc, vd, -, hw2⟩ := nil_form h2
  obtain rfl : k = k' := by omega
  obtain ⟨a1, a2, a3⟩ := s_yes o rfl k1
  obtain ⟨b1, b2, b3⟩ := s_yes o rfl k2
  have n8 : N + C ≤ 8 := by unfold okS at k1; simp only [Bool.and_eq_true, decide_eq_true_eq] at k1; omega
  have m8 : M + D ≤ 8 := by unfold okS at k2; simp only [Bool.and_eq_true, decide_eq_true_eq] at k2; omega
  rw [a1, a2, a3, b1, b2, b3]
  refine (swn_iff (la := []) (lb := [])).2 ⟨valid_sum va vc n8, valid_sum vb vd m8, rfl, by decide, by simp, by simp, hk, ?_⟩
  exact (alk_sum o (size_of va)).win (alk_sum o (size_of vb)) (win_sum (P1 := []) (P2 := []) (fun p hp => by cases hp) hw hw2)
theorem prod_wins {n : Int} {s r : ByteArray} {m : Int} {t q : ByteArray} {c : Int} {u v : ByteArray} {d : Int} {y z : ByteArray} {x : Int} (h1 : swnB n s r [] m t q [] x = true) (h2 : swnB c u v [] d y z [] x = true) (k1 : okP n s r c u v = true) (k2 : okP m t q d y z = true) :
    swnB (pn n s r c u v) (ps n s r c u v) (pr n s r c u v) [] (pn m t q d y z) (ps m t q d y z) (pr m t q d y z) [] x = true := by
  obtain ⟨N, M, k, rfl, rfl, rfl, va, vb, hk, hw⟩ := nil_form h1
  obtain ⟨C, D, k', rfl, rfl, e, vc, vd, -, hw2⟩ := nil_form h2
  obtain rfl : k = k' := by omega
  obtain ⟨a1, a2, a3⟩ := p_yes k1
  obtain ⟨b1, b2, b3⟩ := p_yes k2
  obtain ⟨_, e1, N1, -⟩ := prod.valid_size va
  obtain ⟨_, e2, C1, -⟩ := prod.valid_size vc
  obtain ⟨_, e3, M1, -⟩ := prod.valid_size vb
  obtain ⟨_, e4, D1, -⟩ := prod.valid_size vd
  have n8 : N * C ≤ 8 := by
    unfold okP at k1; simp only [Bool.and_eq_true, decide_eq_true_eq] at k1
    have : ((N * C : Nat) : Int) = (N : Int) * C := by push_cast; rfl
    omega
  have m8 : M * D ≤ 8 := by
    unfold okP at k2; simp only [Bool.and_eq_true, decide_eq_true_eq] at k2
    have : ((M * D : Nat) : Int) = (M : Int) * D := by push_cast; rfl
    omega
  have n1 : 1 ≤ N * C := Nat.mul_pos (by omega) (by omega)
  have m1 : 1 ≤ M * D := Nat.mul_pos (by omega) (by omega)
  rw [a1, a2, a3, b1, b2, b3]
  refine (swn_iff (la := []) (lb := [])).2 ⟨valid_made _ _ n1 n8, valid_made _ _ m1 m8, rfl, by decide, by simp, by simp, hk, ?_⟩
  exact alk_prod.win alk_prod (win_prod (P1 := []) (P2 := []) (fun p hp => by cases hp) hw hw2)
/-- lists within sums with a third structure -/
theorem lists_first {n : Int} {s r : ByteArray} {la : List Int} {m : Int} {t q : ByteArray} {lb : List Int} {c : Int} {u v : ByteArray} {x : Int} (h1 : swnB n s r la m t q lb x = true) (k1 : okS n s r c u v = true) (k2 : okS m t q c u v = true) :
    swnB (sn n s r c u v) (ss n s r c u v) (sr false n s r c u v) la (sn m t q c u v) (ss m t q c u v) (sr false m t q c u v) lb x = true := by
  obtain ⟨N, M, k, xa, xb, rfl, rfl, rfl, rfl, rfl⟩ := swn_form h1
  obtain ⟨va, vb, hl, h4, ha, hb, hk, hw⟩ := swn_iff.1 h1
  have vc : validB c u v = true := by unfold okS at k1; simp only [Bool.and_eq_true] at k1; exact k1.2.1
  obtain ⟨C, rfl, -⟩ := prod.valid_size vc
  obtain ⟨a1, a2, a3⟩ := s_yes false rfl k1
  obtain ⟨b1, b2, b3⟩ := s_yes false rfl k2
  have n8 : N + C ≤ 8 := by unfold okS at k1; simp only [Bool.and_eq_true, decide_eq_true_eq] at k1; omega
  have m8 : M + C ≤ 8 := by unfold okS at k2; simp only [Bool.and_eq_true, decide_eq_true_eq] at k2; omega
  rw [a1, a2, a3, b1, b2, b3]
  refine swn_iff.2 ⟨valid_sum va vc n8, valid_sum vb vc m8, hl, h4, fun x hx => by have := ha x hx; omega, fun x hx => by have := hb x hx; omega, hk, ?_⟩
  exact (alk_sum false (size_of va)).win (alk_sum false (size_of vb)) (win_sum (P1 := xa.zip xb) (P2 := []) (fun p hp => .inl hp) hw (Win.refl _ _ (by simp)))
theorem joined {C : Nat} {xa : List Nat} {N : Nat} (ha : ∀ x, x ∈ xa → x < N) (hN : C + N ≤ 8) : joinL C [] (ints xa) = ints (xa.map fun x => C + x) := by
  have key : ∀ x : Nat, x ∈ xa → wrap64 ((x : Int) + (C : Int)) = ((C + x : Nat) : Int) := fun x hx => by
    have := ha x hx
    rw [IntWalk.wrap64_in _ (by omega)]; omega
  unfold joinL
  rw [List.nil_append]
  unfold ints
  rw [List.map_map, List.map_map]
  refine List.map_congr_left fun x hx => ?_
  rw [Function.comp_apply, Function.comp_apply]
  exact key x hx
theorem zip_shift (C : Nat) : ∀ (xa xb : List Nat) (p : Nat × Nat), p ∈ (xa.map fun x => C + x).zip (xb.map fun x => C + x) → ∃ q, q ∈ xa.zip xb ∧ p = (C + q.1, C + q.2)
  | [], _, _, h => by simp at h
  | _ :: _, [], _, h => by simp at h
  | a :: xa, b :: xb, p, h => by
    rw [List.map_cons, List.map_cons, List.zip_cons_cons] at h
    rcases List.mem_cons.1 h with rfl | h
    · exact ⟨(a, b), List.mem_cons_self, rfl⟩
    · obtain ⟨q, hq, e⟩ := zip_shift C xa xb p h
      exact ⟨q, List.mem_cons_of_mem _ hq, e⟩
theorem lists_second {n : Int} {s r : ByteArray} {la : List Int} {m : Int} {t q : ByteArray} {lb : List Int} {c : Int} {u v : ByteArray} {x : Int} (h1 : swnB n s r la m t q lb x = true) (k1 : okS c u v n s r = true) (k2 : okS c u v m t q = true) :
    swnB (sn c u v n s r) (ss c u v n s r) (sr true c u v n s r) (joinL c [] la) (sn c u v m t q) (ss c u v m t q) (sr true c u v m t q) (joinL c [] lb) x = true := by
  obtain ⟨N, M, k, xa, xb, rfl, rfl, rfl, rfl, rfl⟩ := swn_form h1
  obtain ⟨va, vb, hl, h4, ha, hb, hk, hw⟩ := swn_iff.1 h1
  have vc : validB c u v = true := by unfold okS at k1; simp only [Bool.and_eq_true] at k1; exact k1.1
  obtain ⟨C, rfl, -⟩ := prod.valid_size vc
  obtain ⟨a1, a2, a3⟩ := s_yes true rfl k1
  obtain ⟨b1, b2, b3⟩ := s_yes true rfl k2
  have n8 : C + N ≤ 8 := by unfold okS at k1; simp only [Bool.and_eq_true, decide_eq_true_eq] at k1; omega
  have m8 : C + M ≤ 8 := by unfold okS at k2; simp only [Bool.and_eq_true, decide_eq_true_eq] at k2; omega
  rw [a1, a2, a3, b1, b2, b3, joined ha n8, joined hb m8]
  refine swn_iff.2 ⟨valid_sum vc va n8, valid_sum vc vb m8, by simp [hl], by simp [h4], fun x hx => ?_, fun x hx => ?_, hk, ?_⟩
  · obtain ⟨y, hy, rfl⟩ := List.mem_map.1 hx
    have := ha y hy; omega
  · obtain ⟨y, hy, rfl⟩ := List.mem_map.1 hx
    have := hb y hy; omega
  · refine (alk_sum true (size_of vc)).win (alk_sum true (size_of vc)) (win_sum (P1 := []) (P2 := xa.zip xb) (fun p hp => ?_) (Win.refl _ _ (by simp)) hw)
    exact .inr (zip_shift C xa xb p hp)
end Go.Proofs.YtpcnoiigbmiejaaDoor.sgm
