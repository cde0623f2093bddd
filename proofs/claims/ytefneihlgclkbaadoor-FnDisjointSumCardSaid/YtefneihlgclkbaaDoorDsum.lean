/- FnDisjointSum in plain words: the parts of a sum are both structures. -/
import Derived.Test.YtefneihlgclkbaaDoorSumC
import Derived.Test.YtefneihlgclkbaaDoorShape
import Derived.Test.YtefneihlgclkbaaDoorPartOf
namespace Go.Proofs.YtefneihlgclkbaaDoor.dsum
set_option linter.unusedVariables false
set_option linter.unusedSimpArgs false
open Go.Proofs.YtefneihlgclkbaaDoor.base Go.Proofs.YtefneihlgclkbaaDoor.near Go.Proofs.YtefneihlgclkbaaDoor.same Go.Proofs.YtefneihlgclkbaaDoor.fits Go.Proofs.YtefneihlgclkbaaDoor.make Go.Proofs.YtefneihlgclkbaaDoor.emb Go.Proofs.YtefneihlgclkbaaDoor.sum Go.Proofs.YtefneihlgclkbaaDoor.val Go.Proofs.YtefneihlgclkbaaDoor.assoc Go.Proofs.YtefneihlgclkbaaDoor.sumc Go.Proofs.YtefneihlgclkbaaDoor.part Go.Proofs.YtefneihlgclkbaaDoor.shape Go.Proofs.YtefneihlgclkbaaDoor.trim
/-- the elements from C on -/
def from' (C k : Nat) : List Nat := (List.range k).map fun i => C + i
theorem from_succ (C k : Nat) : from' C (k + 1) = from' C k ++ [C + k] := by simp [from', List.range_succ]
theorem from_len (C k : Nat) : (from' C k).length = k := by simp [from']
theorem from_get {C k i : Nat} (h : i < k) : (from' C k).getD i 0 = C + i := getD_map_range _ h
theorem from_lt {C k N y : Nat} (h : C + k ≤ N) (hy : y ∈ from' C k) : y < N := by
  obtain ⟨i, hi, rfl⟩ := List.mem_map.1 hy
  have := List.mem_range.1 hi
  show C + i < N; omega
theorem from_nodup (C k : Nat) : (from' C k).Nodup := nodup_map _ (fun i j _ _ e => by have e : C + i = C + j := e; omega) List.nodup_range
/-- the sum's relation, in order or not -/
def ro (o : Bool) (N : Nat) (r : ByteArray) (M : Nat) (q : ByteArray) : ByteArray := bR (sumRel o N r M q) (N + M) (N + M)
theorem left_s {N M : Nat} {s t : ByteArray} (hs : s.size = N) (hb : bitsB s = true) : bS (pS (s ++ t) (from' 0 N)) N = s := by
  refine bits_ext (bits_bS _ _) hb (by rw [bS_size, hs]) fun i hi => ?_
  rw [bS_size] at hi
  rw [bit_bS hi]
  unfold pS
  rw [from_get hi, bit_app, if_pos (by omega), Nat.zero_add]
theorem left_r {o : Bool} {N M : Nat} {r q : ByteArray} (hr : r.size = N * N) (hb : bitsB r = true) : bR (pR (N + M) (ro o N r M q) (from' 0 N)) N N = r := by
  refine rel_ext (n := N) (bits_bR _ _ _) hb (by rw [bR_size]) hr fun x y hx hy => ?_
  rw [bit_bR hx hy]
  unfold pR
  rw [from_get hx, from_get hy, ro, bit_bR (by omega) (by omega), sumRel_ll (by omega) (by omega), Nat.zero_add, Nat.zero_add]
theorem right_s {N M : Nat} {s t : ByteArray} (hs : s.size = N) (ht : t.size = M) (hb : bitsB t = true) : bS (pS (s ++ t) (from' N M)) M = t := by
  refine bits_ext (bits_bS _ _) hb (by rw [bS_size, ht]) fun i hi => ?_
  rw [bS_size] at hi
  rw [bit_bS hi]
  unfold pS
  rw [from_get hi, bit_app, if_neg (by omega), show N + i - s.size = i by omega]
theorem right_r {o : Bool} {N M : Nat} {r q : ByteArray} (hq : q.size = M * M) (hb : bitsB q = true) : bR (pR (N + M) (ro o N r M q) (from' N M)) M M = q := by
  refine rel_ext (n := M) (bits_bR _ _ _) hb (by rw [bR_size]) hq fun x y hx hy => ?_
  rw [bit_bR hx hy]
  unfold pR
  rw [from_get hx, from_get hy, ro, bit_bR (by omega) (by omega), sumRel_rr (by omega) (by omega), show N + x - N = x by omega, show N + y - N = y by omega]
/-- what the law asks -/
structure Fact (N M K : Nat) (s r t q S1 R1 R2 S3 R3 : ByteArray) : Prop where
  k : K = N + M
  n : 1 ≤ N
  m : 1 ≤ M
  k8 : N + M ≤ 8
  hs : s.size = N
  hr : r.size = N * N
  ht : t.size = M
  hq : q.size = M * M
  v1 : validB K S1 R1 = true
  v2 : validB K S1 R2 = true
  z1 : S1.size = K ∧ R1.size = K * K ∧ R2.size = K * K ∧ S3.size = K ∧ R3.size = K * K
  ls : bS (pS S1 (from' 0 N)) N = s
  lr : bR (pR K R1 (from' 0 N)) N N = r
  lr2 : bR (pR K R2 (from' 0 N)) N N = r
  rs : bS (pS S1 (from' N M)) M = t
  rr : bR (pR K R1 (from' N M)) M M = q
  rr2 : bR (pR K R2 (from' N M)) M M = q
  b1 : ∀ x y, x < N → N ≤ y → y < K → bitAt R1 (x * K + y) = false
  b2 : ∀ x y, x < N → N ≤ y → y < K → bitAt R1 (y * K + x) = false
  b3 : ∀ x y, x < N → N ≤ y → y < K → bitAt R2 (x * K + y) = true
  b4 : ∀ x y, x < N → N ≤ y → y < K → bitAt R2 (y * K + x) = false
  sh : shpR K S1 R1 K S3 R3 = true
theorem fact {N M : Nat} {s r t q : ByteArray} (h1 : validB N s r = true) (h2 : validB M t q = true) (h8 : N + M ≤ 8) : Fact N M (N + M) s r t q (s ++ t) (ro false N r M q) (ro true N r M q) (t ++ s) (ro false M q N r) := by
  have v1 := valid_sum (o := false) h1 h2 h8
  have v2 := valid_sum (o := true) h1 h2 h8
  have v3 := valid_sum (o := false) h2 h1 (by omega)
  rw [Nat.add_comm M N] at v3
  obtain ⟨⟨a1, a2⟩, a3, a4, a5, a6⟩ := validB_iff.1 h1
  obtain ⟨⟨b1, b2⟩, b3, b4, b5, b6⟩ := validB_iff.1 h2
  have hs : s.size = N := by omega
  have ht : t.size = M := by omega
  have hr : r.size = N * N := by
    have : ((N * N : Nat) : Int) = (N : Int) * N := by push_cast; rfl
    omega
  have hq : q.size = M * M := by
    have : ((M * M : Nat) : Int) = (M : Int) * M := by push_cast; rfl
    omega
  have e3 : ro false M q N r = sumc.rr M q N r := rfl
  have e1 : ro false N r M q = sumc.rr N r M q := rfl
  refine ⟨rfl, by omega, by omega, h8, hs, hr, ht, hq, v1, v2, ⟨by rw [ByteArray.size_append]; omega, by rw [ro, bR_size], by rw [ro, bR_size], by rw [ByteArray.size_append]; omega, by rw [ro, bR_size, Nat.add_comm M N]⟩,
    left_s (M := M) hs a5, left_r hr a6, left_r hr a6, right_s hs ht b5, right_r hq b6, right_r hq b6, fun x y hx hy hk => ?_, fun x y hx hy hk => ?_, fun x y hx hy hk => ?_, fun x y hx hy hk => ?_, ?_⟩
  · rw [ro, bit_bR (by omega) (by omega), sumRel_lr hx hy]
  · rw [ro, bit_bR (by omega) (by omega), sumRel_rl hy hx]
  · rw [ro, bit_bR (by omega) (by omega), sumRel_lr hx hy]
  · rw [ro, bit_bR (by omega) (by omega), sumRel_rl hy hx]
  · refine shpR_iff.2 ⟨v1, ?_, rfl, ?_⟩
    · rw [ro, Nat.add_comm M N]; exact v3
    · rw [Int.toNat_natCast, e1, e3]
      have := turn_iso (N := M) (M := N) (s := t) (r := q) (t := s) (q := r) ht hs
      rw [Nat.add_comm M N] at this
      exact ⟨_, this⟩
end Go.Proofs.YtefneihlgclkbaaDoor.dsum
