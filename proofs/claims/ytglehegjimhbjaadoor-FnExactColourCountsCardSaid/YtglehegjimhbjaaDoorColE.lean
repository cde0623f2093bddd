/- The colour functions of both sides, as the exact laws ask for them. -/
import Derived.Test.YtglehegjimhbjaaDoorColJ
namespace Go.Proofs.YtglehegjimhbjaaDoor.cole
set_option linter.unusedVariables false
set_option linter.unusedSimpArgs false
open Go.ChangeShapes Go.WideShapes Go.ChangeAt Go.RowKit
open Go.Proofs.YtglehegjimhbjaaDoor.lib Go.Proofs.YtglehegjimhbjaaDoor.st Go.Proofs.YtglehegjimhbjaaDoor.base Go.Proofs.YtglehegjimhbjaaDoor.col Go.Proofs.YtglehegjimhbjaaDoor.colp Go.Proofs.YtglehegjimhbjaaDoor.sll Go.Proofs.YtglehegjimhbjaaDoor.both Go.Proofs.YtglehegjimhbjaaDoor.specc Go.Proofs.YtglehegjimhbjaaDoor.specd Go.Proofs.YtglehegjimhbjaaDoor.coli Go.Proofs.YtglehegjimhbjaaDoor.colj Go.Proofs.YtglehegjimhbjaaDoor.flow

/-- a slice that reads as a list, in a block that is there -/
def RB (w : World) (v : Value) (l : List Int) : Prop := Reads w v l ∧ ∀ k, v.ownBlock = some k → k < w.heap.size
theorem RB.reads {w : World} {v : Value} {l : List Int} (h : RB w v l) : Reads w v l := h.1
theorem RB.below {w w' : World} {C : Nat} {v : Value} {l : List Int} (h : RB w v l) (hb : Below C w w') (hC : w.heap.size ≤ C) : RB w' v l := ⟨h.1.below hb hC, fun k hk => Nat.lt_of_lt_of_le (h.2 k hk) hb.size⟩
theorem RB.keepMark {w w' : World} {v v2 : Value} {l : List Int} (h : RB w v l) (hg : w.grownBy w' v2.ownBlock) (ha : Apart v v2) : RB w' v l :=
  ⟨sll.reads_kept h.1 hg fun k hk e => ha k e hk, fun k hk => Nat.lt_of_lt_of_le (h.2 k hk) hg.size⟩
theorem RB.apart {T : TypeId} {w w' : World} {v v2 : Value} {l l2 : List Int} (h : OwnI T w' w.heap.size v l) (h2 : RB w v2 l2) : Apart v v2 := fun k h1 h3 => by
  have := (World.ownsRow.lt h k h1).1
  have := h2.2 k h3
  omega
theorem RB.of_reads {w : World} {v : Value} {l : List Int} (h : Reads w v l) (hl : l ≠ []) : RB w v l := ⟨h, fun _ hk => sll.reads_block h hk hl⟩

set_option maxHeartbeats 1600000 in
set_option maxRecDepth 100000 in
theorem specBothColours_any (n : Int) (s r : ByteArray) (m : Int) (t q : ByteArray) (c : Int) (w : World) (hs : s.size ≤ 9223372036854775807) (hr : r.size ≤ 9223372036854775807) (ht : t.size ≤ 9223372036854775807) (hq : q.size ≤ 9223372036854775807) :
    Calls Tryd.prog 10 #[.agg #[.int .i64 n, .string s, .string r], .agg #[.int .i64 m, .string t, .string q], .int .i64 c] w fun e w' => ∃ v0 v1, e = .returned (.tuple #[v0, v1]) ∧ (RB w' v0 (bothA n s r m t q c) ∧ RB w' v1 (bothB n s r m t q c) ∧ True) ∧ Below w.heap.size w w' := by
  obtain ⟨W0, hW0⟩ : ∃ W0, W0 = (w.alloc (.cells #[.int .i64 n, .string s, .string r] 28)).alloc (.cells #[.int .i64 m, .string t, .string q] 28) := ⟨_, rfl⟩
  have BA : Hid (Box 28 W0 w.heap.size n s r) := by rw [hW0]; exact (Box.new 28 w w.heap.size rfl n s r).below ((Below.refl (w.heap.size + 1) _).alloc (by simp) _) (by omega)
  have BBx : Hid (Box 28 W0 (w.heap.size + 1) m t q) := by rw [hW0]; exact Box.new 28 _ (w.heap.size + 1) (by simp) m t q
  have AW : Hid (Below w.heap.size w W0) := by rw [hW0]; exact ((Below.refl _ _).alloc (Nat.le_refl _) _).alloc (by simp) _
  have HZ := Lib.hid (show _ ∧ _ ∧ _ ∧ _ from ⟨hs, hr, ht, hq⟩)
  have HW0 := Lib.hid hW0
  have EMP : Hid (∀ W : World, Below w.heap.size w W → RB ((W.alloc (.cells #[] 3)).alloc (.cells #[] 3)) (.slice (some ⟨W.heap.size, 0, none⟩) 0 0) [] ∧ RB ((W.alloc (.cells #[] 3)).alloc (.cells #[] 3)) (.slice (some ⟨W.heap.size + 1, 0, none⟩) 0 0) [] ∧ Below w.heap.size w ((W.alloc (.cells #[] 3)).alloc (.cells #[] 3))) := fun W h => by
    refine ⟨⟨⟨_, _, rfl, .inl rfl, fun h => by cases h⟩, fun k hk => ?_⟩, ⟨⟨_, _, rfl, .inl rfl, fun h => by cases h⟩, fun k hk => ?_⟩, (h.alloc h.size _).alloc (h.alloc h.size _).size _⟩
    · have : W.heap.size = k := Option.some.inj hk
      simp; omega
    · have : W.heap.size + 1 = k := Option.some.inj hk
      simp; omega
  clear hs hr ht hq hW0
  go_enter Tryd.func10, Tryd.ntmps10
  go_wp2_with fail
  rw [← HW0.out]
  clear HW0
  refine (StructureValid_any n s r _ HZ.out.1 HZ.out.2.1).mono ?_
  rintro e w1 ⟨rfl, hw⟩
  have HQ := Lib.hid (show _ ∧ _ ∧ _ from ⟨BA.out.below hw BA.out.lt, BBx.out.below hw BBx.out.lt, AW.out.trans (hw.mono AW.out.size)⟩)
  clear hw BA BBx AW
  obtain ⟨a0, a1, a2⟩ := HQ.out.1.c
  obtain ⟨b0, b1, b2⟩ := HQ.out.2.1.c
  cases hv : validB n s r with
  | false =>
    have HE := Lib.hid (both_no (n := n) (s := s) (r := r) (m := m) (t := t) (q := q) (c := c) (by rw [hv]; simp))
    have R := Lib.hid (EMP.out _ HQ.out.2.2)
    clear hv
    go_wp2
    go_ret2
    exact ⟨_, _, rfl, ⟨by rw [HE.out.1]; exact R.out.1, by rw [HE.out.2]; exact R.out.2.1, trivial⟩, R.out.2.2⟩
  | true =>
    go_wp2_with fail
    refine (StructureValid_any m t q _ HZ.out.2.2.1 HZ.out.2.2.2).mono ?_
    rintro e w1 ⟨rfl, hw⟩
    have HQ2 := Lib.hid (show _ ∧ _ ∧ _ from ⟨HQ.out.1.below hw HQ.out.1.lt, HQ.out.2.1.below hw HQ.out.2.1.lt, HQ.out.2.2.trans (hw.mono HQ.out.2.2.size)⟩)
    clear hw HQ a0 a1 a2 b0 b1 b2
    obtain ⟨a0, a1, a2⟩ := HQ2.out.1.c
    obtain ⟨b0, b1, b2⟩ := HQ2.out.2.1.c
    cases hv2 : validB m t q with
    | false =>
      have HE := Lib.hid (both_no (n := n) (s := s) (r := r) (m := m) (t := t) (q := q) (c := c) (by rw [hv2]; simp))
      have R := Lib.hid (EMP.out _ HQ2.out.2.2)
      clear hv hv2
      go_wp2
      go_ret2
      exact ⟨_, _, rfl, ⟨by rw [HE.out.1]; exact R.out.1, by rw [HE.out.2]; exact R.out.2.1, trivial⟩, R.out.2.2⟩
    | true =>
      go_wp2_with fail
      refine (basic.l1In_any _ _ _ _).mono ?_
      rintro e w2 ⟨rfl, rfl⟩
      cases hc : basic.inB c 0 8 with
      | false =>
        have HE := Lib.hid (both_no (n := n) (s := s) (r := r) (m := m) (t := t) (q := q) (c := c) (by rw [hc]; simp))
        have R := Lib.hid (EMP.out _ HQ2.out.2.2)
        clear hv hv2 hc
        go_wp2
        go_ret2
        exact ⟨_, _, rfl, ⟨by rw [HE.out.1]; exact R.out.1, by rw [HE.out.2]; exact R.out.2.1, trivial⟩, R.out.2.2⟩
      | true =>
        obtain ⟨N, rfl, hN1, hN8, hsN, hrN⟩ := valid_size hv
        obtain ⟨M, rfl, hM1, hM8, hsM, hrM⟩ := valid_size hv2
        obtain ⟨C, rfl, hC⟩ : ∃ C : Nat, c = C ∧ C ≤ 8 := ⟨c.toNat, by have := of_decide_eq_true hc; omega, by have := of_decide_eq_true hc; omega⟩
        have HE := Lib.hid (both_yes hv hv2 hC)
        have HH := Lib.hid (show _ ∧ _ ∧ _ ∧ _ from ⟨hsN, hrN, hsM, hrM⟩)
        clear hv hv2 hc hsN hrN hsM hrM EMP
        go_wp2_with fail
        refine (l8Both_any N s r M t q C _ (by omega) hN1 hN8 HH.out.1 HH.out.2.1 hM1 hM8 HH.out.2.2.1 HH.out.2.2.2).mono ?_
        rintro e w2 ⟨v1, v2, rfl, hr1, hr2, -, hb⟩
        have lA := colA_len ⟨N, s, r⟩ ⟨M, t, q⟩ C
        have lB := colB_len ⟨N, s, r⟩ ⟨M, t, q⟩ C
        have R : Hid (RB w2 v1 (bothA N s r M t q C) ∧ RB w2 v2 (bothB N s r M t q C) ∧ Below w.heap.size w w2) := by
          refine ⟨?_, ?_, HQ2.out.2.2.trans (hb.mono HQ2.out.2.2.size)⟩
          · rw [HE.out.1]; exact RB.of_reads hr1 (fun e => by rw [e] at lA; simp at lA; omega)
          · rw [HE.out.2]; exact RB.of_reads hr2 (fun e => by rw [e] at lB; simp at lB; omega)
        clear hr1 hr2 hb lA lB a0 a1 a2 b0 b1 b2
        go_wp2
        go_ret2
        exact ⟨_, _, rfl, ⟨R.out.1, R.out.2.1, trivial⟩, R.out.2.2⟩
theorem both_lens (n : Int) (s r : ByteArray) (m : Int) (t q : ByteArray) (c : Int) : (bothA n s r m t q c).length ≤ 8 ∧ (bothB n s r m t q c).length ≤ 8 := by
  by_cases h : validB n s r = true ∧ validB m t q = true ∧ basic.inB c 0 8 = true
  · obtain ⟨N, rfl, h1, h8, -, -⟩ := valid_size h.1
    obtain ⟨M, rfl, g1, g8, -, -⟩ := valid_size h.2.1
    unfold bothA bothB
    rw [if_pos h, if_pos h, colA_len, colB_len]
    simp only [Int.toNat_natCast]
    omega
  · rw [(both_no h).1, (both_no h).2]; simp
namespace cof
theorem len0 (n : Int) (s r : ByteArray) (c : Int) : s.size + r.size ≤ 1048576 → (colsR n s r c).length ≤ 4194304 := fun _ => by have := colsR_len n s r c; omega
theorem specE (n : Int) (s r : ByteArray) (c : Int) (_ : (Lit.int .i64 n).wf = true) (_ : (Lit.int .i64 c).wf = true) : s.size + r.size ≤ 1048576 → ∀ (w : World),
    Calls Tryd.prog 16 #[.agg #[.int .i64 n, .string s, .string r], .int .i64 c] w fun e w' => ∃ v0, e = .returned (v0) ∧ OwnI 3 w' w.heap.size v0 (colsR n s r c) ∧ Below w.heap.size w w' := fun h w => specColoursOf_any n s r c w (by omega) (by omega)
theorem implE (n : Int) (s r : ByteArray) (c : Int) (_ : (Lit.int .i64 n).wf = true) (_ : (Lit.int .i64 c).wf = true) : s.size + r.size ≤ 1048576 → ∀ (w : World),
    Calls Tryd.prog 17 #[.agg #[.int .i64 n, .string s, .string r], .int .i64 c] w fun e w' => ∃ v0, e = .returned (v0) ∧ OwnI 3 w' w.heap.size v0 (colsR n s r c) ∧ Below w.heap.size w w' := fun h w => implColoursOf_any n s r c w (by omega) (by omega)
end cof
namespace cnt
theorem len0 (n : Int) (s r : ByteArray) (c : Int) : s.size + r.size ≤ 1048576 → (countsR n s r c).length ≤ 4194304 := fun _ => by
  have := colsR_most n s r c
  unfold countsR counts
  rw [List.length_map, List.length_range]; omega
theorem specE (n : Int) (s r : ByteArray) (c : Int) (_ : (Lit.int .i64 n).wf = true) (_ : (Lit.int .i64 c).wf = true) : s.size + r.size ≤ 1048576 → ∀ (w : World),
    Calls Tryd.prog 24 #[.agg #[.int .i64 n, .string s, .string r], .int .i64 c] w fun e w' => ∃ v0, e = .returned (v0) ∧ OwnI 3 w' w.heap.size v0 (countsR n s r c) ∧ Below w.heap.size w w' := fun h w => specColourCounts_any n s r c w (by omega) (by omega)
theorem implE (n : Int) (s r : ByteArray) (c : Int) (_ : (Lit.int .i64 n).wf = true) (_ : (Lit.int .i64 c).wf = true) : s.size + r.size ≤ 1048576 → ∀ (w : World),
    Calls Tryd.prog 25 #[.agg #[.int .i64 n, .string s, .string r], .int .i64 c] w fun e w' => ∃ v0, e = .returned (v0) ∧ OwnI 3 w' w.heap.size v0 (countsR n s r c) ∧ Below w.heap.size w w' := fun h w => implColourCounts_any n s r c w (by omega) (by omega)
end cnt
namespace stb
theorem len0 (n : Int) (s r : ByteArray) : s.size + r.size ≤ 1048576 → (stableL n s r).length ≤ 4194304 := fun _ => by have := stable_len n s r; omega
theorem specE (n : Int) (s r : ByteArray) (_ : (Lit.int .i64 n).wf = true) : s.size + r.size ≤ 1048576 → ∀ (w : World),
    Calls Tryd.prog 22 #[.agg #[.int .i64 n, .string s, .string r]] w fun e w' => ∃ v0, e = .returned (.tuple #[v0, .int .i64 (stableN n s r)]) ∧ OwnI 3 w' w.heap.size v0 (stableL n s r) ∧ Below w.heap.size w w' := fun h w => specStableColours_any n s r w (by omega) (by omega)
theorem implE (n : Int) (s r : ByteArray) (_ : (Lit.int .i64 n).wf = true) : s.size + r.size ≤ 1048576 → ∀ (w : World),
    Calls Tryd.prog 23 #[.agg #[.int .i64 n, .string s, .string r]] w fun e w' => ∃ v0, e = .returned (.tuple #[v0, .int .i64 (stableN n s r)]) ∧ OwnI 3 w' w.heap.size v0 (stableL n s r) ∧ Below w.heap.size w w' := fun h w => implStableColours_any n s r w (by omega) (by omega)
end stb
namespace bth
theorem len0 (n : Int) (s r : ByteArray) (m : Int) (t q : ByteArray) (c : Int) : s.size + r.size + (t.size + q.size) ≤ 1048576 → (bothA n s r m t q c).length ≤ 4194304 := fun _ => by have := both_lens n s r m t q c; omega
theorem len1 (n : Int) (s r : ByteArray) (m : Int) (t q : ByteArray) (c : Int) : s.size + r.size + (t.size + q.size) ≤ 1048576 → (bothB n s r m t q c).length ≤ 4194304 := fun _ => by have := both_lens n s r m t q c; omega
theorem specE (n : Int) (s r : ByteArray) (m : Int) (t q : ByteArray) (c : Int) (_ : (Lit.int .i64 n).wf = true) (_ : (Lit.int .i64 m).wf = true) (_ : (Lit.int .i64 c).wf = true) : s.size + r.size + (t.size + q.size) ≤ 1048576 → ∀ (w : World),
    Calls Tryd.prog 10 #[.agg #[.int .i64 n, .string s, .string r], .agg #[.int .i64 m, .string t, .string q], .int .i64 c] w fun e w' => ∃ v0 v1, e = .returned (.tuple #[v0, v1]) ∧ (RB w' v0 (bothA n s r m t q c) ∧ RB w' v1 (bothB n s r m t q c) ∧ True) ∧ Below w.heap.size w w' := fun h w => specBothColours_any n s r m t q c w (by omega) (by omega) (by omega) (by omega)
theorem implE (n : Int) (s r : ByteArray) (m : Int) (t q : ByteArray) (c : Int) (_ : (Lit.int .i64 n).wf = true) (_ : (Lit.int .i64 m).wf = true) (_ : (Lit.int .i64 c).wf = true) : s.size + r.size + (t.size + q.size) ≤ 1048576 → ∀ (w : World),
    Calls Tryd.prog 12 #[.agg #[.int .i64 n, .string s, .string r], .agg #[.int .i64 m, .string t, .string q], .int .i64 c] w fun e w' => ∃ v0 v1, e = .returned (.tuple #[v0, v1]) ∧ Two 3 w' w.heap.size v0 v1 (bothA n s r m t q c) (bothB n s r m t q c) ∧ Below w.heap.size w w' := fun h w => implBothColours_any n s r m t q c w (by omega) (by omega) (by omega) (by omega)
end bth
namespace sam
theorem specE (n : Int) (s r : ByteArray) (m : Int) (t q : ByteArray) (_ : (Lit.int .i64 n).wf = true) (_ : (Lit.int .i64 m).wf = true) : s.size + r.size + (t.size + q.size) ≤ 1048576 → ∀ (w : World),
    Calls Tryd.prog 18 #[.agg #[.int .i64 n, .string s, .string r], .agg #[.int .i64 m, .string t, .string q]] w fun e w' => e = .returned (.bool (sameR n s r m t q)) ∧ Below w.heap.size w w' := fun h w => specSameColours_any n s r m t q w (by omega) (by omega) (by omega) (by omega)
theorem implE (n : Int) (s r : ByteArray) (m : Int) (t q : ByteArray) (_ : (Lit.int .i64 n).wf = true) (_ : (Lit.int .i64 m).wf = true) : s.size + r.size + (t.size + q.size) ≤ 1048576 → ∀ (w : World),
    Calls Tryd.prog 19 #[.agg #[.int .i64 n, .string s, .string r], .agg #[.int .i64 m, .string t, .string q]] w fun e w' => e = .returned (.bool (sameR n s r m t q)) ∧ Below w.heap.size w w' := fun h w => implSameColours_any n s r m t q w (by omega) (by omega) (by omega) (by omega)
end sam
namespace rnd
theorem specE (n : Int) (s r : ByteArray) (m : Int) (t q : ByteArray) (_ : (Lit.int .i64 n).wf = true) (_ : (Lit.int .i64 m).wf = true) : s.size + r.size + (t.size + q.size) ≤ 1048576 → ∀ (w : World),
    Calls Tryd.prog 20 #[.agg #[.int .i64 n, .string s, .string r], .agg #[.int .i64 m, .string t, .string q]] w fun e w' => e = .returned (.int .i64 (roundR n s r m t q)) ∧ Below w.heap.size w w' := fun h w => specColourRound_any n s r m t q w (by omega) (by omega) (by omega) (by omega)
theorem implE (n : Int) (s r : ByteArray) (m : Int) (t q : ByteArray) (_ : (Lit.int .i64 n).wf = true) (_ : (Lit.int .i64 m).wf = true) : s.size + r.size + (t.size + q.size) ≤ 1048576 → ∀ (w : World),
    Calls Tryd.prog 21 #[.agg #[.int .i64 n, .string s, .string r], .agg #[.int .i64 m, .string t, .string q]] w fun e w' => e = .returned (.int .i64 (roundR n s r m t q)) ∧ Below w.heap.size w w' := fun h w => implColourRound_any n s r m t q w (by omega) (by omega) (by omega) (by omega)
end rnd
end Go.Proofs.YtglehegjimhbjaaDoor.cole
