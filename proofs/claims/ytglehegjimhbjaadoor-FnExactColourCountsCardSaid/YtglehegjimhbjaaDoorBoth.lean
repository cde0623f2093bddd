/- l8Both of the reference: the colours of two structures after some rounds. -/
import Derived.Test.YtglehegjimhbjaaDoorRefine
namespace Go.Proofs.YtglehegjimhbjaaDoor.both
set_option linter.unusedVariables false
set_option linter.unusedSimpArgs false
open Go.ChangeShapes Go.WideShapes Go.ChangeAt Go.RowKit
open Go.Proofs.YtglehegjimhbjaaDoor.lib Go.Proofs.YtglehegjimhbjaaDoor.st Go.Proofs.YtglehegjimhbjaaDoor.base Go.Proofs.YtglehegjimhbjaaDoor.col Go.Proofs.YtglehegjimhbjaaDoor.colp Go.Proofs.YtglehegjimhbjaaDoor.sll Go.Proofs.YtglehegjimhbjaaDoor.refine

theorem zero_pair (a b : St) : nums (drow a true [] a.n ++ drow b true [] b.n) = cols [a, b] 0 := by
  unfold cols firsts firsts firsts drow
  have h : ∀ x : St, dsc x true [] = d0 x := fun x => by funext y; rfl
  rw [h, h, List.append_nil]
theorem succ_pair (a b : St) (k : Nat) : nums (drow a false ((cols [a, b] k).take a.n) a.n ++ drow b false ((cols [a, b] k).drop a.n) b.n) = cols [a, b] (k + 1) := by
  have hl := cols_len [a, b] k
  simp only [total] at hl
  rw [cols, nexts, nexts, nexts, List.append_nil]
  unfold drow
  have h : ∀ (x : St) (c : List Int), dsc x false c = desc x c := fun x c => by funext y; rfl
  rw [h, h, List.take_of_length_le (l := (cols [a, b] k).drop a.n) (by rw [List.length_drop]; omega)]
theorem take_len (a b : St) (k : Nat) : ((cols [a, b] k).take a.n).length = a.n ∧ ((cols [a, b] k).drop a.n).length = b.n := by
  have hl := cols_len [a, b] k
  simp only [total] at hl
  rw [List.length_take, List.length_drop]; omega
/-- the colours of the first, of the second one -/
def colA (a b : St) (k : Nat) : List Int := (cols [a, b] k).take a.n
def colB (a b : St) (k : Nat) : List Int := (cols [a, b] k).drop a.n

set_option maxHeartbeats 3200000 in
set_option maxRecDepth 100000 in
theorem l8Both_any (N : Nat) (s r : ByteArray) (M : Nat) (t q : ByteArray) (R : Nat) (w : World) (hRR : R ≤ 100) (hN1 : 1 ≤ N) (hN : N ≤ 8) (hs : s.size = N) (hr : r.size = N * N) (hM1 : 1 ≤ M) (hM : M ≤ 8) (ht : t.size = M) (hq : q.size = M * M) :
    Calls Tryd.prog 28 #[.agg #[.int .i64 N, .string s, .string r], .agg #[.int .i64 M, .string t, .string q], .int .i64 R] w fun e w' => ∃ v1 v2, e = .returned (.tuple #[v1, v2]) ∧
      Reads w' v1 (colA ⟨N, s, r⟩ ⟨M, t, q⟩ R) ∧ Reads w' v2 (colB ⟨N, s, r⟩ ⟨M, t, q⟩ R) ∧ OwnI 3 w' w.heap.size v1 (colA ⟨N, s, r⟩ ⟨M, t, q⟩ R) ∧ Below w.heap.size w w' := by
  obtain ⟨W0, hW0⟩ : ∃ W0, W0 = (w.alloc (.cells #[.int .i64 N, .string s, .string r] 28)).alloc (.cells #[.int .i64 M, .string t, .string q] 28) := ⟨_, rfl⟩
  have BA : Box 28 W0 w.heap.size N s r := by rw [hW0]; exact (Box.new 28 w w.heap.size rfl N s r).below ((Below.refl (w.heap.size + 1) _).alloc (by simp) _) (by omega)
  have BB : Box 28 W0 (w.heap.size + 1) M t q := by rw [hW0]; exact Box.new 28 _ (w.heap.size + 1) (by simp) M t q
  have AW : Below w.heap.size w W0 := by rw [hW0]; exact ((Below.refl _ _).alloc (Nat.le_refl _) _).alloc (by simp) _
  have Z0 : W0.heap.size = w.heap.size + 2 := by rw [hW0]; simp
  obtain ⟨W2, hW2⟩ : ∃ W2, W2 = (W0.alloc (.cells #[] 3)).alloc (.cells #[] 3) := ⟨_, rfl⟩
  have A2 : Below W0.heap.size W0 W2 := by rw [hW2]; exact ((Below.refl _ _).alloc (Nat.le_refl _) _).alloc (by simp) _
  have HQ := Lib.hid (show _ ∧ _ ∧ _ from ⟨AW.trans (A2.mono AW.size), BA.below A2 BA.lt, BB.below A2 BB.lt⟩)
  have HZ := Lib.hid (show _ ∧ _ ∧ _ ∧ _ from ⟨hs, hr, ht, hq⟩)
  have HW := Lib.hid hW2
  have HW0 := Lib.hid hW0
  clear hW0 hW2 BA BB AW A2 Z0 hs hr ht hq
  go_enter Tryd.func28, Tryd.ntmps28
  go_wp2_with fail
  rw [← HW0.out, ← HW.out]
  refine (l8Refine_any N s r M t q [] [] _ _ _ hN1 hN HZ.out.1 HZ.out.2.1 hM1 hM HZ.out.2.2.1 HZ.out.2.2.2 ⟨_, _, rfl, .inl rfl, fun h => by cases h⟩ ⟨_, _, rfl, .inl rfl, fun h => by cases h⟩ (.inl rfl)).mono ?_
  rintro e w1 ⟨v1, v2, rfl, h1, h2, h3, hb⟩
  have START : Hid (Reads w1 v1 (colA ⟨N, s, r⟩ ⟨M, t, q⟩ 0) ∧ Reads w1 v2 (colB ⟨N, s, r⟩ ⟨M, t, q⟩ 0) ∧ OwnI 3 w1 w.heap.size v1 (colA ⟨N, s, r⟩ ⟨M, t, q⟩ 0) ∧ Below w.heap.size w w1 ∧ Box 28 w1 w.heap.size N s r ∧ Box 28 w1 (w.heap.size + 1) M t q) := by
    have e0 := zero_pair ⟨N, s, r⟩ ⟨M, t, q⟩
    simp only [List.isEmpty_nil] at h1 h2 h3
    unfold colA colB
    rw [← e0]
    exact ⟨h1, h2, h3.mono HQ.out.1.size, HQ.out.1.trans (hb.mono HQ.out.1.size), HQ.out.2.1.below hb HQ.out.2.1.lt, HQ.out.2.2.below hb HQ.out.2.2.lt⟩
  clear h1 h2 h3 hb HQ
  go_wp2_with fail
  go_loopw [8, 9, 10] (fun u1 u2 i wr => ∃ k : Nat, k ≤ R ∧ i = .int .i64 k ∧ Reads wr u1 (colA ⟨N, s, r⟩ ⟨M, t, q⟩ k) ∧ Reads wr u2 (colB ⟨N, s, r⟩ ⟨M, t, q⟩ k) ∧ OwnI 3 wr w.heap.size u1 (colA ⟨N, s, r⟩ ⟨M, t, q⟩ k) ∧ Below w.heap.size w wr ∧ Box 28 wr w.heap.size N s r ∧ Box 28 wr (w.heap.size + 1) M t q) (fun _ _ i _ => R - (intOf i).toNat)
  case atStart => exact ⟨0, Nat.zero_le _, rfl, START.out⟩
  case round =>
    clear START
    obtain ⟨k, hk, rfl, h1, h2, h3, h4, h5, h6⟩ := hrel
    have HQ := Lib.hid (show _ ∧ _ ∧ _ ∧ _ ∧ _ ∧ _ from ⟨h1, h2, h3, h4, h5, h6⟩)
    clear h1 h2 h3 h4 h5 h6
    by_cases hkR : k < R
    · obtain ⟨a0, a1, a2⟩ := HQ.out.2.2.2.2.1.c
      obtain ⟨b0, b1, b2⟩ := HQ.out.2.2.2.2.2.c
      have hlen := take_len ⟨N, s, r⟩ ⟨M, t, q⟩ k
      go_wp2_with fail
      refine (l8Refine_any N s r M t q (colA ⟨N, s, r⟩ ⟨M, t, q⟩ k) (colB ⟨N, s, r⟩ ⟨M, t, q⟩ k) _ _ _ hN1 hN HZ.out.1 HZ.out.2.1 hM1 hM HZ.out.2.2.1 HZ.out.2.2.2 HQ.out.1 HQ.out.2.1 (.inr hlen)).mono ?_
      rintro e w2 ⟨v3, v4, rfl, h1, h2, h3, hb⟩
      have R1 : Hid (Reads w2 v3 (colA ⟨N, s, r⟩ ⟨M, t, q⟩ (k + 1)) ∧ Reads w2 v4 (colB ⟨N, s, r⟩ ⟨M, t, q⟩ (k + 1)) ∧ OwnI 3 w2 w.heap.size v3 (colA ⟨N, s, r⟩ ⟨M, t, q⟩ (k + 1)) ∧ Below w.heap.size w w2 ∧ Box 28 w2 w.heap.size N s r ∧ Box 28 w2 (w.heap.size + 1) M t q) := by
        have e0 := succ_pair ⟨N, s, r⟩ ⟨M, t, q⟩ k
        have ee : (colA ⟨N, s, r⟩ ⟨M, t, q⟩ k).isEmpty = false := by
          have hx : (colA ⟨N, s, r⟩ ⟨M, t, q⟩ k).length = N := hlen.1
          cases hc : colA ⟨N, s, r⟩ ⟨M, t, q⟩ k with
          | nil => rw [hc] at hx; simp at hx; omega
          | cons a l => rfl
        rw [ee] at h1 h2 h3
        unfold colA colB at h1 h2 h3 ⊢
        rw [← e0]
        exact ⟨h1, h2, h3.mono HQ.out.2.2.2.1.size, HQ.out.2.2.2.1.trans (hb.mono HQ.out.2.2.2.1.size), HQ.out.2.2.2.2.1.below hb HQ.out.2.2.2.2.1.lt, HQ.out.2.2.2.2.2.below hb HQ.out.2.2.2.2.2.lt⟩
      clear h1 h2 h3 hb a0 a1 a2 b0 b1 b2 hlen
      go_wp2
      go_roundw
      case rel => exact ⟨k + 1, by omega, by go_num, R1.out⟩
      case measure => simp [intOf]; omega
    · obtain rfl : R = k := by omega
      go_wp2
      go_ret2
      exact ⟨_, _, rfl, HQ.out.1, HQ.out.2.1, HQ.out.2.2.1, HQ.out.2.2.2.1⟩
end Go.Proofs.YtglehegjimhbjaaDoor.both
