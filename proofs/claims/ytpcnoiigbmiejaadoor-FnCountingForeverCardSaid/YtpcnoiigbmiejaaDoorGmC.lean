/- CountingWins, CountingForever of the reference. -/
import Derived.Test.YtpcnoiigbmiejaaDoorGmG
namespace Go.Proofs.YtpcnoiigbmiejaaDoor.pbi
set_option linter.unusedVariables false
set_option linter.unusedSimpArgs false
open Go.ChangeShapes Go.WideShapes Go.ChangeAt Go.RowKit
open Go.Proofs.YtpcnoiigbmiejaaDoor.lib Go.Proofs.YtpcnoiigbmiejaaDoor.st Go.Proofs.YtpcnoiigbmiejaaDoor.flow Go.Proofs.YtpcnoiigbmiejaaDoor.chain Go.Proofs.YtpcnoiigbmiejaaDoor.base Go.Proofs.YtpcnoiigbmiejaaDoor.fits Go.Proofs.YtpcnoiigbmiejaaDoor.still Go.Proofs.YtpcnoiigbmiejaaDoor.gow Go.Proofs.YtpcnoiigbmiejaaDoor.peb Go.Proofs.YtpcnoiigbmiejaaDoor.tab Go.Proofs.YtpcnoiigbmiejaaDoor.make Go.Proofs.YtpcnoiigbmiejaaDoor.near Go.Proofs.YtpcnoiigbmiejaaDoor.game Go.Proofs.YtpcnoiigbmiejaaDoor.basic
theorem rdy_sc {N M : Nat} {s r t q : ByteArray} {la lb : List Int} (f : Rdy N s r la M t q lb) : Sc N s r ∧ Sc M t q ∧ (1 ≤ la.length ∧ la.length ≤ 3) ∧ (plc la).length = la.length ∧ (plc lb).length = la.length ∧ (∀ p, p ∈ plc la → p ≤ N) ∧ ∀ p, p ∈ plc lb → p ≤ M := by
  refine ⟨⟨f.sz.1.2, f.sa, f.ra⟩, ⟨f.sz.2.1.2, f.sb, f.rb⟩, f.sz.2.2.1, plc_len la, by rw [plc_len]; exact f.len.symm, fun p hp => ?_, fun p hp => ?_⟩
  · obtain ⟨i, hi, rfl⟩ := List.mem_iff_getElem.1 hp
    have := (f.lay i hi).2.1
    rw [List.getD_eq_getElem?_getD, List.getElem?_eq_getElem hi] at this; exact this
  · obtain ⟨i, hi, rfl⟩ := List.mem_iff_getElem.1 hp
    have := (f.lay i (by rw [plc_len] at hi ⊢; rw [f.len]; exact hi)).2.2
    rw [List.getD_eq_getElem?_getD, List.getElem?_eq_getElem hi] at this; exact this
theorem inB_iff {x a b : Int} : inB x a b = true ↔ a ≤ x ∧ x ≤ b := by unfold inB; rw [decide_eq_true_iff]

set_option maxHeartbeats 6400000 in
set_option maxRecDepth 100000 in
theorem specCW_any (n : Int) (s r : ByteArray) (va : Value) (la : List Int) (m : Int) (t q : ByteArray) (vb : Value) (lb : List Int) (T : Int) (w : World) (ha : Reads w va la) (hb : Reads w vb lb) (hla : la.length ≤ 1000000) (hlb : lb.length ≤ 1000000) (hs : s.size ≤ 9223372036854775807) (hr : r.size ≤ 9223372036854775807) (ht : t.size ≤ 9223372036854775807) (hq : q.size ≤ 9223372036854775807) :
    Calls Tryd.prog 23 #[.agg #[.int .i64 n, .string s, .string r], va, .agg #[.int .i64 m, .string t, .string q], vb, .int .i64 T] w fun e w' => ∃ b : Bool, e = .returned (.bool b) ∧ (b = true ↔ readyB n s r la m t q lb = true ∧ (0 ≤ T ∧ T ≤ 4) ∧ gameW true (gob.gr n.toNat s r) (gob.gr m.toNat t q) T.toNat (plc la) (plc lb)) ∧ Below w.heap.size w w' := by
  by_cases hrd : readyB n s r la m t q lb = true
  rotate_left
  · have HNR := Lib.hid hrd
    have HRD : Hid (readyB n s r la m t q lb = false) := by simpa [Hid] using hrd
    clear hrd
    obtain ⟨a1o, c1, rfl⟩ := ha.len
    obtain ⟨a2o, c2, rfl⟩ := hb.len
    obtain ⟨W0, hW0⟩ : ∃ W0, W0 = (w.alloc (.cells #[.int .i64 n, .string s, .string r] 24)).alloc (.cells #[.int .i64 m, .string t, .string q] 24) := ⟨_, rfl⟩
    have AW0 : Hid (Below w.heap.size w W0) := by rw [hW0]; exact ((Below.refl _ _).alloc (Nat.le_refl _) _).alloc (by simp) _
    have RA0 := Lib.hid (ha.below AW0.out (Nat.le_refl _))
    have RB0 := Lib.hid (hb.below AW0.out (Nat.le_refl _))
    have BA0 : Hid (Box 24 W0 w.heap.size n s r) := by
      rw [hW0]; exact (Box.new 24 w w.heap.size rfl n s r).below ((Below.refl (w.heap.size + 1) _).alloc (by simp) _) (by omega)
    have BB0 : Hid (Box 24 W0 (w.heap.size + 1) m t q) := by
      rw [hW0]; exact Box.new 24 (w.alloc (.cells #[.int .i64 n, .string s, .string r] 24)) (w.heap.size + 1) (by simp) m t q
    have HZ := Lib.hid (show _ ∧ _ ∧ _ ∧ _ ∧ _ ∧ _ from ⟨hs, hr, ht, hq, hla, hlb⟩)
    have HW0 := Lib.hid hW0
    clear ha hb hs hr ht hq hla hlb hW0
    go_enter Tryd.func23, Tryd.ntmps23
    go_wp2_with fail
    rw [← HW0.out]
    clear HW0
    have hc := l7Ready_any n s r _ la m t q _ lb W0 RA0.out RB0.out HZ.out.2.2.2.2.1 HZ.out.2.2.2.2.2 HZ.out.1 HZ.out.2.1 HZ.out.2.2.1 HZ.out.2.2.2.1
    rw [HRD.out] at hc
    refine hc.mono ?_
    clear hc
    rintro e w1 ⟨rfl, hw⟩
    have AW1 : Hid (Below w.heap.size w w1) := AW0.out.trans (hw.mono AW0.out.size)
    have BA1 := Lib.hid (BA0.out.below hw BA0.out.lt)
    have BB1 := Lib.hid (BB0.out.below hw BB0.out.lt)
    have RA1 := Lib.hid (RA0.out.below hw (Nat.le_refl _))
    have RB1 := Lib.hid (RB0.out.below hw (Nat.le_refl _))
    clear hw AW0 BA0 BB0 RA0 RB0
    go_wp2
    go_ret
    exact ⟨false, rfl, ⟨fun h => (by cases h), fun h => absurd h.1 HNR.out⟩, AW1.out⟩
  · skip
    obtain ⟨e1, e2⟩ := ready_nat hrd
    obtain ⟨N, rfl⟩ : ∃ N : Nat, n = (N : Int) := ⟨n.toNat, e1.symm⟩
    obtain ⟨M, rfl⟩ : ∃ M : Nat, m = (M : Int) := ⟨m.toNat, e2.symm⟩
    have HRD := Lib.hid hrd
    have HF := Lib.hid (ready_facts hrd)
    clear hrd e1 e2
    simp only [Int.toNat_natCast]
    obtain ⟨a1o, c1, rfl⟩ := ha.len
    obtain ⟨a2o, c2, rfl⟩ := hb.len
    obtain ⟨W0, hW0⟩ : ∃ W0, W0 = (w.alloc (.cells #[.int .i64 (N : Int), .string s, .string r] 24)).alloc (.cells #[.int .i64 (M : Int), .string t, .string q] 24) := ⟨_, rfl⟩
    have AW0 : Hid (Below w.heap.size w W0) := by rw [hW0]; exact ((Below.refl _ _).alloc (Nat.le_refl _) _).alloc (by simp) _
    have RA0 := Lib.hid (ha.below AW0.out (Nat.le_refl _))
    have RB0 := Lib.hid (hb.below AW0.out (Nat.le_refl _))
    have BA0 : Hid (Box 24 W0 w.heap.size (N : Int) s r) := by
      rw [hW0]; exact (Box.new 24 w w.heap.size rfl (N : Int) s r).below ((Below.refl (w.heap.size + 1) _).alloc (by simp) _) (by omega)
    have BB0 : Hid (Box 24 W0 (w.heap.size + 1) (M : Int) t q) := by
      rw [hW0]; exact Box.new 24 (w.alloc (.cells #[.int .i64 (N : Int), .string s, .string r] 24)) (w.heap.size + 1) (by simp) (M : Int) t q
    have HZ := Lib.hid (show _ ∧ _ ∧ _ ∧ _ ∧ _ ∧ _ from ⟨hs, hr, ht, hq, hla, hlb⟩)
    have HW0 := Lib.hid hW0
    clear ha hb hs hr ht hq hla hlb hW0
    go_enter Tryd.func23, Tryd.ntmps23
    go_wp2_with fail
    rw [← HW0.out]
    clear HW0
    have hc := l7Ready_any (N : Int) s r _ la (M : Int) t q _ lb W0 RA0.out RB0.out HZ.out.2.2.2.2.1 HZ.out.2.2.2.2.2 HZ.out.1 HZ.out.2.1 HZ.out.2.2.1 HZ.out.2.2.2.1
    rw [HRD.out] at hc
    refine hc.mono ?_
    clear hc
    rintro e w1 ⟨rfl, hw⟩
    have AW1 : Hid (Below w.heap.size w w1) := AW0.out.trans (hw.mono AW0.out.size)
    have BA1 := Lib.hid (BA0.out.below hw BA0.out.lt)
    have BB1 := Lib.hid (BB0.out.below hw BB0.out.lt)
    have RA1 := Lib.hid (RA0.out.below hw (Nat.le_refl _))
    have RB1 := Lib.hid (RB0.out.below hw (Nat.le_refl _))
    clear hw AW0 BA0 BB0 RA0 RB0
    go_wp2_with fail
    refine (l1In_any T 0 4 w1).mono ?_
    rintro e w1' ⟨rfl, rfl⟩
    cases hin : inB T 0 4 with
    | false =>
      have HIN : Hid (¬ (0 ≤ T ∧ T ≤ 4)) := fun h => by rw [inB_iff.2 h] at hin; cases hin
      clear hin
      go_wp2
      go_ret
      exact ⟨false, rfl, ⟨fun h => (by cases h), fun h => absurd h.2.1 HIN.out⟩, AW1.out⟩
    | true =>
      have hT := inB_iff.1 hin
      obtain ⟨k, rfl⟩ : ∃ k : Nat, T = (k : Int) := ⟨T.toNat, by omega⟩
      have HK : Hid (k ≤ 4) := by show k ≤ 4; omega
      clear hin hT
      simp only [Int.toNat_natCast]
      have f := rdy_sc HF.out
      obtain ⟨a0, a1, a2⟩ := BA1.out.c
      obtain ⟨b0, b1, b2⟩ := BB1.out.c
      have hra : Reads w1 (.slice a1o la.length c1) (pbs (plc la)) := by rw [HF.out.a]; exact RA1.out
      have hrb : Reads w1 (.slice a2o lb.length c2) (pbs (plc lb)) := by rw [HF.out.b]; exact RB1.out
      go_wp2_with fail
      clear a0 a1 a2 b0 b1 b2
      have hc := l8Game_any N s r (.slice a1o la.length c1) (plc la) M t q (.slice a2o lb.length c2) (plc lb) la.length k w1 f.1 f.2.1 hra hrb f.2.2.1.1 f.2.2.1.2 f.2.2.2.1 f.2.2.2.2.1 f.2.2.2.2.2.1 f.2.2.2.2.2.2 (.inl HK.out)
      refine hc.mono ?_
      clear hc hra hrb f
      rintro e w2 ⟨b, rfl, hb, hw⟩
      have AW2 : Hid (Below w.heap.size w w2) := AW1.out.trans (hw.mono AW1.out.size)
      have HB := Lib.hid hb
      clear hb hw
      go_wp2
      go_ret
      exact ⟨b, rfl, ⟨fun h => ⟨HRD.out, by have := HK.out; omega, (HB.out.1 (by have := HK.out; omega)).1 h⟩, fun h => (HB.out.1 (by have := HK.out; omega)).2 h.2.2⟩, AW2.out⟩

set_option maxHeartbeats 6400000 in
set_option maxRecDepth 100000 in
theorem specCE_any (n : Int) (s r : ByteArray) (va : Value) (la : List Int) (m : Int) (t q : ByteArray) (vb : Value) (lb : List Int) (w : World) (ha : Reads w va la) (hb : Reads w vb lb) (hla : la.length ≤ 1000000) (hlb : lb.length ≤ 1000000) (hs : s.size ≤ 9223372036854775807) (hr : r.size ≤ 9223372036854775807) (ht : t.size ≤ 9223372036854775807) (hq : q.size ≤ 9223372036854775807) :
    Calls Tryd.prog 32 #[.agg #[.int .i64 n, .string s, .string r], va, .agg #[.int .i64 m, .string t, .string q], vb] w fun e w' => ∃ b : Bool, e = .returned (.bool b) ∧ (b = true ↔ readyB n s r la m t q lb = true ∧ ∀ k, gameW true (gob.gr n.toNat s r) (gob.gr m.toNat t q) k (plc la) (plc lb)) ∧ Below w.heap.size w w' := by
  by_cases hrd : readyB n s r la m t q lb = true
  rotate_left
  · have HNR := Lib.hid hrd
    have HRD : Hid (readyB n s r la m t q lb = false) := by simpa [Hid] using hrd
    clear hrd
    obtain ⟨a1o, c1, rfl⟩ := ha.len
    obtain ⟨a2o, c2, rfl⟩ := hb.len
    obtain ⟨W0, hW0⟩ : ∃ W0, W0 = (w.alloc (.cells #[.int .i64 n, .string s, .string r] 24)).alloc (.cells #[.int .i64 m, .string t, .string q] 24) := ⟨_, rfl⟩
    have AW0 : Hid (Below w.heap.size w W0) := by rw [hW0]; exact ((Below.refl _ _).alloc (Nat.le_refl _) _).alloc (by simp) _
    have RA0 := Lib.hid (ha.below AW0.out (Nat.le_refl _))
    have RB0 := Lib.hid (hb.below AW0.out (Nat.le_refl _))
    have BA0 : Hid (Box 24 W0 w.heap.size n s r) := by
      rw [hW0]; exact (Box.new 24 w w.heap.size rfl n s r).below ((Below.refl (w.heap.size + 1) _).alloc (by simp) _) (by omega)
    have BB0 : Hid (Box 24 W0 (w.heap.size + 1) m t q) := by
      rw [hW0]; exact Box.new 24 (w.alloc (.cells #[.int .i64 n, .string s, .string r] 24)) (w.heap.size + 1) (by simp) m t q
    have HZ := Lib.hid (show _ ∧ _ ∧ _ ∧ _ ∧ _ ∧ _ from ⟨hs, hr, ht, hq, hla, hlb⟩)
    have HW0 := Lib.hid hW0
    clear ha hb hs hr ht hq hla hlb hW0
    go_enter Tryd.func32, Tryd.ntmps32
    go_wp2_with fail
    rw [← HW0.out]
    clear HW0
    have hc := l7Ready_any n s r _ la m t q _ lb W0 RA0.out RB0.out HZ.out.2.2.2.2.1 HZ.out.2.2.2.2.2 HZ.out.1 HZ.out.2.1 HZ.out.2.2.1 HZ.out.2.2.2.1
    rw [HRD.out] at hc
    refine hc.mono ?_
    clear hc
    rintro e w1 ⟨rfl, hw⟩
    have AW1 : Hid (Below w.heap.size w w1) := AW0.out.trans (hw.mono AW0.out.size)
    have BA1 := Lib.hid (BA0.out.below hw BA0.out.lt)
    have BB1 := Lib.hid (BB0.out.below hw BB0.out.lt)
    have RA1 := Lib.hid (RA0.out.below hw (Nat.le_refl _))
    have RB1 := Lib.hid (RB0.out.below hw (Nat.le_refl _))
    clear hw AW0 BA0 BB0 RA0 RB0
    go_wp2
    go_ret
    exact ⟨false, rfl, ⟨fun h => (by cases h), fun h => absurd h.1 HNR.out⟩, AW1.out⟩
  · skip
    obtain ⟨e1, e2⟩ := ready_nat hrd
    obtain ⟨N, rfl⟩ : ∃ N : Nat, n = (N : Int) := ⟨n.toNat, e1.symm⟩
    obtain ⟨M, rfl⟩ : ∃ M : Nat, m = (M : Int) := ⟨m.toNat, e2.symm⟩
    have HRD := Lib.hid hrd
    have HF := Lib.hid (ready_facts hrd)
    clear hrd e1 e2
    simp only [Int.toNat_natCast]
    obtain ⟨a1o, c1, rfl⟩ := ha.len
    obtain ⟨a2o, c2, rfl⟩ := hb.len
    obtain ⟨W0, hW0⟩ : ∃ W0, W0 = (w.alloc (.cells #[.int .i64 (N : Int), .string s, .string r] 24)).alloc (.cells #[.int .i64 (M : Int), .string t, .string q] 24) := ⟨_, rfl⟩
    have AW0 : Hid (Below w.heap.size w W0) := by rw [hW0]; exact ((Below.refl _ _).alloc (Nat.le_refl _) _).alloc (by simp) _
    have RA0 := Lib.hid (ha.below AW0.out (Nat.le_refl _))
    have RB0 := Lib.hid (hb.below AW0.out (Nat.le_refl _))
    have BA0 : Hid (Box 24 W0 w.heap.size (N : Int) s r) := by
      rw [hW0]; exact (Box.new 24 w w.heap.size rfl (N : Int) s r).below ((Below.refl (w.heap.size + 1) _).alloc (by simp) _) (by omega)
    have BB0 : Hid (Box 24 W0 (w.heap.size + 1) (M : Int) t q) := by
      rw [hW0]; exact Box.new 24 (w.alloc (.cells #[.int .i64 (N : Int), .string s, .string r] 24)) (w.heap.size + 1) (by simp) (M : Int) t q
    have HZ := Lib.hid (show _ ∧ _ ∧ _ ∧ _ ∧ _ ∧ _ from ⟨hs, hr, ht, hq, hla, hlb⟩)
    have HW0 := Lib.hid hW0
    clear ha hb hs hr ht hq hla hlb hW0
    go_enter Tryd.func32, Tryd.ntmps32
    go_wp2_with fail
    rw [← HW0.out]
    clear HW0
    have hc := l7Ready_any (N : Int) s r _ la (M : Int) t q _ lb W0 RA0.out RB0.out HZ.out.2.2.2.2.1 HZ.out.2.2.2.2.2 HZ.out.1 HZ.out.2.1 HZ.out.2.2.1 HZ.out.2.2.2.1
    rw [HRD.out] at hc
    refine hc.mono ?_
    clear hc
    rintro e w1 ⟨rfl, hw⟩
    have AW1 : Hid (Below w.heap.size w w1) := AW0.out.trans (hw.mono AW0.out.size)
    have BA1 := Lib.hid (BA0.out.below hw BA0.out.lt)
    have BB1 := Lib.hid (BB0.out.below hw BB0.out.lt)
    have RA1 := Lib.hid (RA0.out.below hw (Nat.le_refl _))
    have RB1 := Lib.hid (RB0.out.below hw (Nat.le_refl _))
    clear hw AW0 BA0 BB0 RA0 RB0
    have f := rdy_sc HF.out
    obtain ⟨a0, a1, a2⟩ := BA1.out.c
    obtain ⟨b0, b1, b2⟩ := BB1.out.c
    have hra : Reads w1 (.slice a1o la.length c1) (pbs (plc la)) := by rw [HF.out.a]; exact RA1.out
    have hrb : Reads w1 (.slice a2o lb.length c2) (pbs (plc lb)) := by rw [HF.out.b]; exact RB1.out
    go_wp2_with fail
    clear a0 a1 a2 b0 b1 b2
    have hc := l8Game_any N s r (.slice a1o la.length c1) (plc la) M t q (.slice a2o lb.length c2) (plc lb) la.length 2000 w1 f.1 f.2.1 hra hrb f.2.2.1.1 f.2.2.1.2 f.2.2.2.1 f.2.2.2.2.1 f.2.2.2.2.2.1 f.2.2.2.2.2.2 (.inr rfl)
    refine hc.mono ?_
    clear hc hra hrb f
    rintro e w2 ⟨b, rfl, hb, hw⟩
    have AW2 : Hid (Below w.heap.size w w2) := AW1.out.trans (hw.mono AW1.out.size)
    have HB := Lib.hid hb
    clear hb hw
    go_wp2
    go_ret
    exact ⟨b, rfl, ⟨fun h => ⟨HRD.out, (HB.out.2 trivial).1 h⟩, fun h => (HB.out.2 trivial).2 h.2⟩, AW2.out⟩
end Go.Proofs.YtpcnoiigbmiejaaDoor.pbi
