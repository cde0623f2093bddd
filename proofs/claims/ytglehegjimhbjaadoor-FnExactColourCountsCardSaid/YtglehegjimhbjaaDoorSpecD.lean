/- The reference's colour functions: ColoursOf, StableColours, ColourCounts, BothColours, SameColours, ColourRound. -/
import Derived.Test.YtglehegjimhbjaaDoorSpecC
import Derived.Test.YtglehegjimhbjaaDoorBasic
namespace Go.Proofs.YtglehegjimhbjaaDoor.specd
set_option linter.unusedVariables false
set_option linter.unusedSimpArgs false
open Go.ChangeShapes Go.WideShapes Go.ChangeAt Go.RowKit
open Go.Proofs.YtglehegjimhbjaaDoor.lib Go.Proofs.YtglehegjimhbjaaDoor.st Go.Proofs.YtglehegjimhbjaaDoor.base Go.Proofs.YtglehegjimhbjaaDoor.col Go.Proofs.YtglehegjimhbjaaDoor.colp Go.Proofs.YtglehegjimhbjaaDoor.sll Go.Proofs.YtglehegjimhbjaaDoor.both Go.Proofs.YtglehegjimhbjaaDoor.descr Go.Proofs.YtglehegjimhbjaaDoor.flow Go.Proofs.YtglehegjimhbjaaDoor.less Go.Proofs.YtglehegjimhbjaaDoor.specc

theorem valid_size {n : Int} {s r : ByteArray} (h : validB n s r = true) : ∃ N : Nat, n = N ∧ 1 ≤ N ∧ N ≤ 8 ∧ s.size = N ∧ r.size = N * N := by
  obtain ⟨⟨h2, h3⟩, hs, hr, _⟩ := validB_iff.1 h
  refine ⟨n.toNat, by omega, by omega, by omega, by omega, ?_⟩
  have e : (n.toNat : Int) = n := by omega
  have : ((n.toNat * n.toNat : Nat) : Int) = n * n := by rw [Int.natCast_mul, e]
  omega
theorem emptyRow (T : TypeId) (w : World) (B H : Nat) (hH : w.heap.size = H) (hB : B ≤ H) : OwnI T (w.alloc (.cells #[] T)) B (.slice (some ⟨H, 0, none⟩) 0 0) [] := by
  subst hH
  exact World.ownsRow_made w #[] 0 hB (by decide) rfl
/-- the colours of one after c rounds -/
def colsR (n : Int) (s r : ByteArray) (c : Int) : List Int := if validB n s r = true ∧ basic.inB c 0 8 = true then cols [⟨n.toNat, s, r⟩] c.toNat else []
theorem colsR_no {n : Int} {s r : ByteArray} {c : Int} (h : ¬ (validB n s r = true ∧ basic.inB c 0 8 = true)) : colsR n s r c = [] := if_neg h
theorem colsR_yes {N C : Nat} {s r : ByteArray} (h : validB N s r = true) (hc : C ≤ 8) : colsR N s r C = cols [⟨N, s, r⟩] C := by
  unfold colsR
  rw [if_pos ⟨h, basic.inB_true (by omega) (by omega)⟩]; rfl
theorem colA_self (a : St) (k : Nat) : colA a a k = cols [a] k := by
  unfold colA
  rw [cols_two]
  have h := cols_len [a] k
  simp only [total] at h
  rw [List.take_append_of_le_length (by omega), List.take_of_length_le (by omega)]
theorem colsR_len (n : Int) (s r : ByteArray) (c : Int) : (colsR n s r c).length ≤ 8 := by
  unfold colsR
  split
  · rename_i h
    obtain ⟨N, rfl, h1, h8, -, -⟩ := valid_size h.1
    have h := cols_len [⟨N, s, r⟩] c.toNat
    simp only [total] at h
    simp only [Int.toNat_natCast]
    omega
  · simp
theorem colsR_bd {n : Int} {s r : ByteArray} {c x : Int} (hx : x ∈ colsR n s r c) : 0 ≤ x ∧ x < most (colsR n s r c) ∧ most (colsR n s r c) ≤ 8 := by
  unfold colsR at *
  split at hx
  · rename_i h
    rw [if_pos h]
    obtain ⟨N, rfl, h1, h8, -, -⟩ := valid_size h.1
    simp only [Int.toNat_natCast] at hx ⊢
    have h2 := (cols_all (As := [⟨N, s, r⟩]) (by simp [total]; omega) c.toNat).1 hx
    have h3 := cols_most_le [⟨N, s, r⟩] c.toNat
    simp only [total] at h3
    exact ⟨h2.1, h2.2, by omega⟩
  · cases hx
theorem colsR_most (n : Int) (s r : ByteArray) (c : Int) : 0 ≤ most (colsR n s r c) ∧ most (colsR n s r c) ≤ 8 := by
  refine ⟨most_nonneg _, ?_⟩
  cases h : colsR n s r c with
  | nil => decide
  | cons a l => rw [← h]; exact (colsR_bd (x := a) (by rw [h]; exact List.mem_cons_self ..)).2.2

set_option maxHeartbeats 800000 in
theorem specColoursOf_any (n : Int) (s r : ByteArray) (c : Int) (w : World) (hs : s.size ≤ 9223372036854775807) (hr : r.size ≤ 9223372036854775807) :
    Calls Tryd.prog 16 #[.agg #[.int .i64 n, .string s, .string r], .int .i64 c] w fun e w' => ∃ v, e = .returned v ∧ OwnI 3 w' w.heap.size v (colsR n s r c) ∧ Below w.heap.size w w' := by
  have BX : Hid (Box 28 (w.alloc (.cells #[.int .i64 n, .string s, .string r] 28)) w.heap.size n s r) := Box.new _ w _ rfl n s r
  have AW : Hid (Below w.heap.size w (w.alloc (.cells #[.int .i64 n, .string s, .string r] 28))) := (Below.refl _ _).alloc (Nat.le_refl _) _
  go_enter Tryd.func16, Tryd.ntmps16
  go_wp2_with fail
  refine (StructureValid_any n s r _ hs hr).mono ?_
  rintro e w1 ⟨rfl, hw⟩
  have AW1 : Hid (Below w.heap.size w w1) := AW.out.trans (hw.mono (by simp))
  obtain ⟨c0, c1, c2⟩ := (BX.out.below hw (by simp)).c
  have HSZ : Hid (w.heap.size < w1.heap.size) := by have := hw.size; unfold Hid; simp at this; omega
  clear hw BX AW
  cases hv : validB n s r with
  | false =>
    have HE : Hid (colsR n s r c = []) := colsR_no (by rw [hv]; simp)
    clear hv
    go_wp2
    go_ret
    exact ⟨_, rfl, by rw [HE.out]; exact emptyRow _ _ _ _ rfl (Nat.le_of_lt HSZ.out), AW1.out.alloc AW1.out.size _⟩
  | true =>
    go_wp2_with fail
    refine (basic.l1In_any _ _ _ _).mono ?_
    rintro e w2 ⟨rfl, rfl⟩
    cases hc : basic.inB c 0 8 with
    | false =>
      have HE : Hid (colsR n s r c = []) := colsR_no (by rw [hc]; simp)
      clear hv hc
      go_wp2
      go_ret
      exact ⟨_, rfl, by rw [HE.out]; exact emptyRow _ _ _ _ rfl (Nat.le_of_lt HSZ.out), AW1.out.alloc AW1.out.size _⟩
    | true =>
      obtain ⟨N, rfl, hN1, hN8, hsN, hrN⟩ := valid_size hv
      obtain ⟨C, rfl, hC⟩ : ∃ C : Nat, c = C ∧ C ≤ 8 := ⟨c.toNat, by have := of_decide_eq_true hc; omega, by have := of_decide_eq_true hc; omega⟩
      have HE : Hid (colsR N s r C = colA ⟨N, s, r⟩ ⟨N, s, r⟩ C) := by rw [Hid, colA_self]; exact colsR_yes hv hC
      have HH := Lib.hid (show _ ∧ _ from ⟨hsN, hrN⟩)
      clear hv hc hsN hrN
      go_wp2_with fail
      refine (l8Both_any N s r N s r C _ (by omega) hN1 hN8 HH.out.1 HH.out.2 hN1 hN8 HH.out.1 HH.out.2).mono ?_
      rintro e w2 ⟨v1, v2, rfl, -, -, ho, hb⟩
      have R : Hid (OwnI 3 w2 w.heap.size v1 (colsR N s r C) ∧ Below w.heap.size w w2) := ⟨by rw [HE.out]; exact ho.mono AW1.out.size, AW1.out.trans (hb.mono AW1.out.size)⟩
      clear ho hb c0 c1 c2
      go_wp2
      go_ret
      exact ⟨_, rfl, R.out⟩

/-- the colours of one, counted -/
def countsR (n : Int) (s r : ByteArray) (c : Int) : List Int := counts (colsR n s r c) (most (colsR n s r c)).toNat
set_option maxHeartbeats 800000 in
theorem specColourCounts_any (n : Int) (s r : ByteArray) (c : Int) (w : World) (hs : s.size ≤ 9223372036854775807) (hr : r.size ≤ 9223372036854775807) :
    Calls Tryd.prog 24 #[.agg #[.int .i64 n, .string s, .string r], .int .i64 c] w fun e w' => ∃ v, e = .returned v ∧ OwnI 3 w' w.heap.size v (countsR n s r c) ∧ Below w.heap.size w w' := by
  have BX : Hid (Box 28 (w.alloc (.cells #[.int .i64 n, .string s, .string r] 28)) w.heap.size n s r) := Box.new _ w _ rfl n s r
  have AW : Hid (Below w.heap.size w (w.alloc (.cells #[.int .i64 n, .string s, .string r] 28))) := (Below.refl _ _).alloc (Nat.le_refl _) _
  go_enter Tryd.func24, Tryd.ntmps24
  go_wp2_with fail
  refine (specColoursOf_any n s r c _ hs hr).mono ?_
  rintro e w1 ⟨v, rfl, ho, hw⟩
  have hlen := colsR_len n s r c
  have hmost := colsR_most n s r c
  have HB : Hid (∀ x, x ∈ colsR n s r c → 0 ≤ x ∧ x < ((most (colsR n s r c)).toNat : Int)) := fun x hx => by have := colsR_bd hx; omega
  obtain ⟨m, hm⟩ : ∃ m : Nat, most (colsR n s r c) = (m : Int) := ⟨(most (colsR n s r c)).toNat, by omega⟩
  have HM := Lib.hid hm
  have R1 : Hid (OwnI 3 w1 w.heap.size v (colsR n s r c) ∧ Below w.heap.size w w1) := ⟨ho.mono AW.out.size, AW.out.trans (hw.mono AW.out.size)⟩
  clear ho hw hm BX AW
  go_wp2_with fail
  refine (l8Most_any v (colsR n s r c) _ (OwnI.reads R1.out.1) (by omega) (fun x hx => by have := HB.out x hx; omega)).mono ?_
  rintro e w2 ⟨rfl, rfl⟩
  rw [HM.out]
  have hm8 : m ≤ 8 := by have := HM.out; omega
  go_wp2_with fail
  refine (l8Counts_any v (colsR n s r c) m _ (OwnI.reads R1.out.1) (by omega) (by omega) (fun x hx => by have := HB.out x hx; have := HM.out; omega)).mono ?_
  rintro e w2 ⟨v2, rfl, ho, hb⟩
  have R : Hid (OwnI 3 w2 w.heap.size v2 (countsR n s r c) ∧ Below w.heap.size w w2) := by
    refine ⟨?_, R1.out.2.trans (hb.mono R1.out.2.size)⟩
    unfold countsR
    rw [HM.out]
    exact ho.mono R1.out.2.size
  clear ho hb
  go_wp2
  go_ret
  exact ⟨_, rfl, R.out⟩

/-- the first round whose colours no further round refines -/
def stab (a : St) : Nat := ((List.range 8).find? fun k => decide (most (cols [a] k) = most (cols [a] (k + 1)))).getD 7
theorem stab_at {a : St} {k : Nat} (hk : k < 8) (h : most (cols [a] k) = most (cols [a] (k + 1))) (h2 : ∀ j, j < k → most (cols [a] j) ≠ most (cols [a] (j + 1))) : stab a = k := by
  have : (List.range 8).find? (fun k => decide (most (cols [a] k) = most (cols [a] (k + 1)))) = some k :=
    List.find?_range_eq_some.2 ⟨decide_eq_true h, List.mem_range.2 hk, fun j hj => by simpa using h2 j hj⟩
  unfold stab
  rw [this]; rfl
def stableL (n : Int) (s r : ByteArray) : List Int := if validB n s r = true then cols [⟨n.toNat, s, r⟩] (stab ⟨n.toNat, s, r⟩) else []
def stableN (n : Int) (s r : ByteArray) : Int := if validB n s r = true then (stab ⟨n.toNat, s, r⟩ : Nat) else -1
theorem stable_no {n : Int} {s r : ByteArray} (h : validB n s r = false) : stableL n s r = [] ∧ stableN n s r = -1 := by simp [stableL, stableN, h]
theorem stable_yes {N k : Nat} {s r : ByteArray} (h : validB N s r = true) (hk : stab ⟨N, s, r⟩ = k) : stableL N s r = cols [⟨N, s, r⟩] k ∧ stableN N s r = k := by simp [stableL, stableN, h, hk]
theorem stable_len (n : Int) (s r : ByteArray) : (stableL n s r).length ≤ 8 := by
  cases h : validB n s r with
  | false => rw [(stable_no h).1]; simp
  | true =>
    obtain ⟨N, rfl, h1, h8, -, -⟩ := valid_size h
    rw [(stable_yes h rfl).1, cols_len]
    simp only [total]; omega

set_option maxHeartbeats 1600000 in
set_option maxRecDepth 100000 in
theorem specStableColours_any (n : Int) (s r : ByteArray) (w : World) (hs : s.size ≤ 9223372036854775807) (hr : r.size ≤ 9223372036854775807) :
    Calls Tryd.prog 22 #[.agg #[.int .i64 n, .string s, .string r]] w fun e w' => ∃ v, e = .returned (.tuple #[v, .int .i64 (stableN n s r)]) ∧ OwnI 3 w' w.heap.size v (stableL n s r) ∧ Below w.heap.size w w' := by
  have BX : Hid (Box 28 (w.alloc (.cells #[.int .i64 n, .string s, .string r] 28)) w.heap.size n s r) := Box.new _ w _ rfl n s r
  have AW : Hid (Below w.heap.size w (w.alloc (.cells #[.int .i64 n, .string s, .string r] 28))) := (Below.refl _ _).alloc (Nat.le_refl _) _
  have HZ := Lib.hid (show _ ∧ _ from ⟨hs, hr⟩)
  clear hs hr
  go_enter Tryd.func22, Tryd.ntmps22
  go_wp2_with fail
  refine (StructureValid_any n s r _ HZ.out.1 HZ.out.2).mono ?_
  rintro e w1 ⟨rfl, hw⟩
  have AW1 : Hid (Below w.heap.size w w1) := AW.out.trans (hw.mono (by simp))
  have BX1 := Lib.hid (BX.out.below hw (by simp))
  clear hw AW BX
  cases hv : validB n s r with
  | false =>
    have HE := Lib.hid (stable_no hv)
    have HSZ : Hid (w.heap.size < w1.heap.size) := BX1.out.lt
    clear hv
    go_wp2
    go_ret2
    exact ⟨.slice (some ⟨w1.heap.size, 0, none⟩) 0 0, by rw [HE.out.2]; rfl, by rw [HE.out.1]; exact emptyRow _ _ _ _ rfl (Nat.le_of_lt HSZ.out), AW1.out.alloc AW1.out.size _⟩
  | true =>
    obtain ⟨N, rfl, hN1, hN8, hsN, hrN⟩ := valid_size hv
    have HV := Lib.hid hv
    clear hv hsN hrN
    obtain ⟨c0, c1, c2⟩ := BX1.out.c
    go_wp2_with fail
    refine (specColoursOf_any N s r (0 : Nat) _ HZ.out.1 HZ.out.2).mono ?_
    rintro e w2 ⟨v, rfl, ho, hb⟩
    have START : Hid (OwnI 3 w2 w.heap.size v (cols [⟨N, s, r⟩] 0) ∧ Below w.heap.size w w2 ∧ Box 28 w2 w.heap.size N s r) := ⟨by rw [← colsR_yes HV.out (Nat.zero_le 8)]; exact ho.mono AW1.out.size, AW1.out.trans (hb.mono AW1.out.size), BX1.out.below hb BX1.out.lt⟩
    clear ho hb AW1 BX1 c0 c1 c2
    go_wp2_with fail
    go_loopw [4, 5] (fun u i wr => ∃ k : Nat, k < 8 ∧ i = .int .i64 k ∧ OwnI 3 wr w.heap.size u (cols [⟨N, s, r⟩] k) ∧ Below w.heap.size w wr ∧ Box 28 wr w.heap.size N s r ∧ (∀ j, j < k → most (cols [⟨N, s, r⟩] j) ≠ most (cols [⟨N, s, r⟩] (j + 1)))) (fun _ i _ => 8 - (intOf i).toNat)
    case atStart => exact ⟨0, by omega, rfl, START.out.1, START.out.2.1, START.out.2.2, fun j hj => absurd hj (Nat.not_lt_zero _)⟩
    case round =>
      clear START
      obtain ⟨k, hk, rfl, h1, h2, h3, h4⟩ := hrel
      have HQ := Lib.hid (show _ ∧ _ ∧ _ ∧ _ from ⟨h1, h2, h3, h4⟩)
      clear h1 h2 h3 h4
      obtain ⟨c0, c1, c2⟩ := HQ.out.2.2.1.c
      go_wp2_with fail
      refine (specColoursOf_any N s r (k + 1 : Nat) _ HZ.out.1 HZ.out.2).mono ?_
      rintro e w3 ⟨v3, rfl, ho, hb⟩
      have R : Hid (OwnI 3 w3 w.heap.size v3 (cols [⟨N, s, r⟩] (k + 1)) ∧ OwnI 3 w3 w.heap.size u4 (cols [⟨N, s, r⟩] k) ∧ Below w.heap.size w w3 ∧ Box 28 w3 w.heap.size N s r) := ⟨by rw [← colsR_yes HV.out (by omega)]; exact ho.mono HQ.out.2.1.size, HQ.out.1.below hb (Nat.le_refl _), HQ.out.2.1.trans (hb.mono HQ.out.2.1.size), HQ.out.2.2.1.below hb HQ.out.2.2.1.lt⟩
      have hl : ∀ j, (cols [⟨N, s, r⟩] j).length ≤ 8 := fun j => by rw [cols_len]; simp only [total]; omega
      have hbd : ∀ j x, x ∈ cols [⟨N, s, r⟩] j → 0 ≤ x ∧ x < 100 := fun j x hx => by
        have h2 := (cols_all (As := [⟨N, s, r⟩]) (by simp [total]; omega) j).1 hx
        have h3 := cols_most_le [⟨N, s, r⟩] j
        simp only [total] at h3
        omega
      have HL := Lib.hid (show _ ∧ _ from ⟨hl, hbd⟩)
      clear ho hb c0 c1 c2 hl hbd
      go_wp2_with fail
      refine (l8Most_any v3 _ _ (OwnI.reads R.out.1) (by have := HL.out.1 (k + 1); omega) (HL.out.2 _)).mono ?_
      rintro e w4 ⟨rfl, rfl⟩
      go_wp2_with fail
      refine (l8Most_any _ _ _ (OwnI.reads R.out.2.1) (by have := HL.out.1 k; omega) (HL.out.2 _)).mono ?_
      rintro e w4 ⟨rfl, rfl⟩
      obtain ⟨m1, hm1⟩ : ∃ m1, m1 = most (cols [⟨N, s, r⟩] k) := ⟨_, rfl⟩
      obtain ⟨m2, hm2⟩ : ∃ m2, m2 = most (cols [⟨N, s, r⟩] (k + 1)) := ⟨_, rfl⟩
      rw [← hm1, ← hm2]
      by_cases he : m1 = m2
      · have HS := Lib.hid (stable_yes HV.out (stab_at hk (by rw [← hm1, ← hm2]; exact he) HQ.out.2.2.2))
        have t1 : (m2 == m1) = true := by simp [he]
        clear he hm1 hm2
        go_wp2
        go_ret2
        exact ⟨u4, by rw [HS.out.2]; rfl, by rw [HS.out.1]; exact R.out.2.1, R.out.2.2.1⟩
      · have t1 : (m2 == m1) = false := by simp; exact fun h => he h.symm
        have hk7 : k + 1 < 8 := by
          by_cases h7 : k = 7
          · subst h7
            exact absurd (by rw [hm1, hm2]; exact stable_at (As := [⟨N, s, r⟩]) (by simp [total]; omega) (by simp [total]; omega) HQ.out.2.2.2) he
          · omega
        have t2 : ((k : Int) + 1 == 8) = false := by simp; omega
        have R2 : Hid (∀ j, j < k + 1 → most (cols [⟨N, s, r⟩] j) ≠ most (cols [⟨N, s, r⟩] (j + 1))) := fun j hj => by
          by_cases e : j = k
          · subst e; rw [← hm1, ← hm2]; exact he
          · exact HQ.out.2.2.2 j (by omega)
        clear he hm1 hm2
        go_wp2
        go_roundw
        case rel => exact ⟨k + 1, hk7, by go_num, R.out.1, R.out.2.2.1, R.out.2.2.2, R2.out⟩
        case measure => simp [intOf]; omega
end Go.Proofs.YtglehegjimhbjaaDoor.specd
