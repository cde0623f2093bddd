/- Sums in either grouping: plain words, and the contracts of the program's sums under short names. -/
import Derived.Test.YtpcnoiigbmiejaaDoorVal
import Derived.Laws.StructEq
namespace Go.Proofs.YtpcnoiigbmiejaaDoor.assoc
set_option linter.unusedVariables false
set_option linter.unusedSimpArgs false
open Go.ChangeShapes Go.WideShapes Go.ChangeAt Go.RowKit
open Go.Proofs.YtpcnoiigbmiejaaDoor.lib Go.Proofs.YtpcnoiigbmiejaaDoor.st Go.Proofs.YtpcnoiigbmiejaaDoor.base Go.Proofs.YtpcnoiigbmiejaaDoor.make Go.Proofs.YtpcnoiigbmiejaaDoor.prod Go.Proofs.YtpcnoiigbmiejaaDoor.sum Go.Proofs.YtpcnoiigbmiejaaDoor.val

/-- '==' and '!=' at one structure -/
theorem eq_struct (n : Int) (s r : ByteArray) (w : World) : (binOp .eql 24 (.agg #[.int .i64 n, .string s, .string r]) (.agg #[.int .i64 n, .string s, .string r])).run Tryd.prog w = .ok (.bool true) w := by
  have u3 := Tryd.underlying3
  have a3 := Tryd.isAgg3
  have z3 := Tryd.sizeOf3
  have u4 := Tryd.underlying9
  have a4 := Tryd.isAgg9
  have z4 := Tryd.sizeOf9
  have hS : Tryd.prog.underlying 24 = some (.struct (Tryd.prog.fieldsOf 24)) := by kernel_rfl
  have hp : Tryd.prog.stoodInHeld 24 = false := by kernel_rfl
  rw [run_eql_struct, show (10000 : Nat) = 9999 + 1 from rfl, run_equalIn_agg w 9999 24 _ _ hS hp]
  simp only [Program.fieldsOf, Tryd.underlying24]
  go_simp

theorem sumRel_ll {o : Bool} {n m x y : Nat} {r q : ByteArray} (hx : x < n) (hy : y < n) : sumRel o n r m q x y = bitAt r (x * n + y) := by rw [sumRel, if_pos ⟨hx, hy⟩]
theorem sumRel_rr {o : Bool} {n m x y : Nat} {r q : ByteArray} (hx : n ≤ x) (hy : n ≤ y) : sumRel o n r m q x y = bitAt q ((x - n) * m + (y - n)) := by
  rw [sumRel, if_neg (by omega), if_pos ⟨hx, hy⟩]
theorem sumRel_lr {o : Bool} {n m x y : Nat} {r q : ByteArray} (hx : x < n) (hy : n ≤ y) : sumRel o n r m q x y = o := by
  rw [sumRel, if_neg (by omega), if_neg (by omega), decide_eq_true hx, Bool.and_true]
theorem sumRel_rl {o : Bool} {n m x y : Nat} {r q : ByteArray} (hx : n ≤ x) (hy : y < n) : sumRel o n r m q x y = false := by
  rw [sumRel, if_neg (by omega), if_neg (by omega), decide_eq_false (by omega), Bool.and_false]
/-- the relation of a sum of three -/
theorem rel_assoc (o : Bool) (N M K : Nat) (r q v : ByteArray) :
    bR (sumRel o (N + M) (bR (sumRel o N r M q) (N + M) (N + M)) K v) (N + M + K) (N + M + K) = bR (sumRel o N r (M + K) (bR (sumRel o M q K v) (M + K) (M + K))) (N + M + K) (N + M + K) := by
  refine rel_ext (n := N + M + K) (bits_bR _ _ _) (bits_bR _ _ _) (bR_size _ _ _) (bR_size _ _ _) fun x y hx hy => ?_
  rw [bit_bR hx hy, bit_bR hx hy]
  by_cases h1 : x < N + M
  · by_cases h2 : y < N + M
    · rw [sumRel_ll h1 h2, bit_bR h1 h2]
      by_cases h3 : x < N
      · by_cases h4 : y < N
        · rw [sumRel_ll h3 h4, sumRel_ll h3 h4]
        · rw [sumRel_lr h3 (by omega), sumRel_lr h3 (by omega)]
      · by_cases h4 : y < N
        · rw [sumRel_rl (by omega) h4, sumRel_rl (by omega) h4]
        · rw [sumRel_rr (n := N) (by omega) (by omega), sumRel_rr (n := N) (m := M + K) (by omega) (by omega), bit_bR (by omega) (by omega), sumRel_ll (by omega) (by omega)]
    · rw [sumRel_lr h1 (by omega)]
      by_cases h3 : x < N
      · rw [sumRel_lr h3 (by omega)]
      · rw [sumRel_rr (n := N) (m := M + K) (by omega) (by omega), bit_bR (by omega) (by omega), sumRel_lr (by omega) (by omega)]
  · by_cases h2 : y < N + M
    · rw [sumRel_rl (by omega) h2]
      by_cases h4 : y < N
      · rw [sumRel_rl (by omega) h4]
      · rw [sumRel_rr (n := N) (m := M + K) (by omega) (by omega), bit_bR (by omega) (by omega), sumRel_rl (by omega) (by omega)]
    · rw [sumRel_rr (n := N + M) (by omega) (by omega), sumRel_rr (n := N) (m := M + K) (by omega) (by omega), bit_bR (by omega) (by omega), sumRel_rr (n := M) (by omega) (by omega)]
      congr 1
      rw [show x - (N + M) = x - N - M by omega, show y - (N + M) = y - N - M by omega]
theorem set_assoc (s t u : ByteArray) : s ++ t ++ u = s ++ (t ++ u) := by
  have : (s ++ t ++ u).data.toList = (s ++ (t ++ u)).data.toList := by simp [toList_append]
  have h2 : (s ++ t ++ u).data = (s ++ (t ++ u)).data := Array.toList_inj.1 this
  exact ByteArray.ext h2

/-- a call of a sum with named results -/
def SC (F : FuncId) (n : Int) (s r : ByteArray) (m : Int) (t q : ByteArray) (x : Int) (y z : ByteArray) (b : Bool) : Prop :=
  ∀ W : World, Calls Tryd.prog F #[.agg #[.int .i64 n, .string s, .string r], .agg #[.int .i64 m, .string t, .string q]] W fun e w' => e = .returned (.tuple #[.agg #[.int .i64 x, .string y, .string z], .bool b]) ∧ Below W.heap.size W w'
theorem sc_ord {n : Int} {s r : ByteArray} {m : Int} {t q : ByteArray} (hs : s.size ≤ 200) (hr : r.size ≤ 200) (ht : t.size ≤ 200) (hq : q.size ≤ 200) : SC 14 n s r m t q (sn n s r m t q) (ss n s r m t q) (sr true n s r m t q) (okS n s r m t q) :=
  fun W => implOrderedSum_any n s r m t q W (by omega) (by omega) (by omega) (by omega)
theorem sc_dis {n : Int} {s r : ByteArray} {m : Int} {t q : ByteArray} (hs : s.size ≤ 200) (hr : r.size ≤ 200) (ht : t.size ≤ 200) (hq : q.size ≤ 200) : SC 13 n s r m t q (sn n s r m t q) (ss n s r m t q) (sr false n s r m t q) (okS n s r m t q) :=
  fun W => implDisjointSum_any n s r m t q W (by omega) (by omega) (by omega) (by omega)
theorem sum_size (o : Bool) (n : Int) (s r : ByteArray) (m : Int) (t q : ByteArray) : (ss n s r m t q).size ≤ 200 ∧ (sr o n s r m t q).size ≤ 200 := by
  cases h : okS n s r m t q with
  | false =>
    obtain ⟨_, h2, h3⟩ := s_no o h
    rw [h2, h3]; exact ⟨by decide, by decide⟩
  | true =>
    obtain ⟨hv1, hv2, hk⟩ : validB n s r = true ∧ validB m t q = true ∧ n + m ≤ 8 := by simpa [okS] using h
    obtain ⟨N, rfl, hN1, hN8, hsN, hrN⟩ := valid_size hv1
    obtain ⟨M, rfl, hM1, hM8, hsM, hrM⟩ := valid_size hv2
    obtain ⟨_, h2, h3⟩ := s_yes (K := N + M) o rfl h
    rw [h2, h3, ByteArray.size_append, bR_size]
    have : (N + M) * (N + M) ≤ 8 * 8 := Nat.mul_le_mul (by omega) (by omega)
    omega
/-- the sums of three, if all can be made -/
theorem three {F : FuncId} {o : Bool} (hF : ∀ {n : Int} {s r : ByteArray} {m : Int} {t q : ByteArray}, s.size ≤ 200 → r.size ≤ 200 → t.size ≤ 200 → q.size ≤ 200 → SC F n s r m t q (sn n s r m t q) (ss n s r m t q) (sr o n s r m t q) (okS n s r m t q))
    {N M K : Nat} {s r t q u v : ByteArray} (h1 : validB N s r = true) (h2 : validB M t q = true) (h3 : validB K u v = true) (h8 : N + M + K ≤ 8) :
    ∃ (en : Int) (es er : ByteArray) (fn : Int) (fs fr : ByteArray), SC F (N + M : Nat) (s ++ t) (bR (sumRel o N r M q) (N + M) (N + M)) K u v fn fs fr true ∧ SC F M t q K u v en es er true ∧ SC F N s r en es er fn fs fr true := by
  obtain ⟨a0, a1, a2, -, -⟩ := validB_iff.1 h1
  obtain ⟨b0, b1, b2, -, -⟩ := validB_iff.1 h2
  obtain ⟨c0, c1, c2, -, -⟩ := validB_iff.1 h3
  rw [← Int.natCast_mul] at a2 b2 c2
  have m1 : N * N ≤ 8 * 8 := Nat.mul_le_mul (by omega) (by omega)
  have m2 : M * M ≤ 8 * 8 := Nat.mul_le_mul (by omega) (by omega)
  have m3 : K * K ≤ 8 * 8 := Nat.mul_le_mul (by omega) (by omega)
  have m4 : (N + M) * (N + M) ≤ 8 * 8 := Nat.mul_le_mul (by omega) (by omega)
  have m5 : (M + K) * (M + K) ≤ 8 * 8 := Nat.mul_le_mul (by omega) (by omega)
  have v12 := valid_sum (o := o) h1 h2 (by omega)
  have v23 := valid_sum (o := o) h2 h3 (by omega)
  have ok1 : okS ((N + M : Nat) : Int) (s ++ t) (bR (sumRel o N r M q) (N + M) (N + M)) K u v = true := by rw [okS, v12, h3]; simp; omega
  have ok2 : okS M t q K u v = true := by rw [okS, h2, h3]; simp; omega
  have ok3 : okS N s r ((M + K : Nat) : Int) (t ++ u) (bR (sumRel o M q K v) (M + K) (M + K)) = true := by rw [okS, h1, v23]; simp; omega
  have c1' := hF (n := ((N + M : Nat) : Int)) (s := s ++ t) (r := bR (sumRel o N r M q) (N + M) (N + M)) (m := K) (t := u) (q := v) (by rw [ByteArray.size_append]; omega) (by rw [bR_size]; omega) (by omega) (by omega)
  have c2' := hF (n := M) (s := t) (r := q) (m := K) (t := u) (q := v) (by omega) (by omega) (by omega) (by omega)
  have c3' := hF (n := N) (s := s) (r := r) (m := ((M + K : Nat) : Int)) (t := t ++ u) (q := bR (sumRel o M q K v) (M + K) (M + K)) (by omega) (by omega) (by rw [ByteArray.size_append]; omega) (by rw [bR_size]; omega)
  obtain ⟨x1, x2, x3⟩ := s_yes (K := N + M + K) o rfl ok1
  obtain ⟨y1, y2, y3⟩ := s_yes (K := M + K) o rfl ok2
  obtain ⟨z1, z2, z3⟩ := s_yes (K := N + M + K) o (by omega) ok3
  rw [x1, x2, x3, ok1] at c1'
  rw [y1, y2, y3, ok2] at c2'
  rw [z1, z2, z3, ok3] at c3'
  refine ⟨_, _, _, _, _, _, c1', c2', ?_⟩
  rw [rel_assoc, set_assoc]
  exact c3'
/-- the sums of three, if the third one is not valid or too great -/
theorem three_no {F : FuncId} {o : Bool} (hF : ∀ {n : Int} {s r : ByteArray} {m : Int} {t q : ByteArray}, s.size ≤ 200 → r.size ≤ 200 → t.size ≤ 200 → q.size ≤ 200 → SC F n s r m t q (sn n s r m t q) (ss n s r m t q) (sr o n s r m t q) (okS n s r m t q))
    {N M : Nat} {k : Int} {s r t q u v : ByteArray} (hs : s.size ≤ 200) (hr : r.size ≤ 200) (ht : t.size ≤ 200) (hq : q.size ≤ 200) (hu : u.size ≤ 200) (hv : v.size ≤ 200) {R : ByteArray} (hst : (s ++ t).size ≤ 200) (hR : R.size ≤ 200) (h : ¬ (validB k u v = true ∧ (N : Int) + M + k ≤ 8)) :
    ∃ (dn : Int) (ds dr : ByteArray) (en : Int) (es er : ByteArray) (eb : Bool) (fn : Int) (fs fr : ByteArray) (fb : Bool), SC F (N + M : Nat) (s ++ t) R k u v dn ds dr false ∧ SC F M t q k u v en es er eb ∧ SC F N s r en es er fn fs fr fb := by
  have c1' := hF (n := ((N + M : Nat) : Int)) (s := s ++ t) (r := R) (m := k) (t := u) (q := v) hst hR hu hv
  have e1 : okS ((N + M : Nat) : Int) (s ++ t) R k u v = false := by
    rw [okS]
    cases hx : validB k u v with
    | false => simp
    | true =>
      have : ¬ (N : Int) + M + k ≤ 8 := fun h8 => h ⟨hx, h8⟩
      rw [decide_eq_false (by omega), Bool.and_false, Bool.and_false]
  rw [e1] at c1'
  have c2' := hF (n := M) (s := t) (r := q) (m := k) (t := u) (q := v) ht hq hu hv
  have hz := sum_size o M t q k u v
  exact ⟨_, _, _, _, _, _, _, _, _, _, _, c1', c2', hF (n := N) (s := s) (r := r) hs hr hz.1 hz.2⟩
end Go.Proofs.YtpcnoiigbmiejaaDoor.assoc
