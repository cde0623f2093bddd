/- The reference's functions of two structures' colours: BothColours, l8Same, SameColours, ColourRound. -/
import Derived.Test.YtpcnoiigbmiejaaGreatDoorPkB
namespace Go.Proofs.YtpcnoiigbmiejaaGreatDoor.specd
set_option linter.unusedVariables false
set_option linter.unusedSimpArgs false
open Go.ChangeShapes Go.WideShapes Go.ChangeAt Go.RowKit
open Go.Proofs.YtpcnoiigbmiejaaGreatDoor.lib Go.Proofs.YtpcnoiigbmiejaaGreatDoor.st Go.Proofs.YtpcnoiigbmiejaaGreatDoor.base Go.Proofs.YtpcnoiigbmiejaaGreatDoor.col Go.Proofs.YtpcnoiigbmiejaaGreatDoor.colp Go.Proofs.YtpcnoiigbmiejaaGreatDoor.sll Go.Proofs.YtpcnoiigbmiejaaGreatDoor.both Go.Proofs.YtpcnoiigbmiejaaGreatDoor.descr Go.Proofs.YtpcnoiigbmiejaaGreatDoor.flow Go.Proofs.YtpcnoiigbmiejaaGreatDoor.less Go.Proofs.YtpcnoiigbmiejaaGreatDoor.specc

theorem colA_len (a b : St) (k : Nat) : (colA a b k).length = a.n := (both.take_len a b k).1
theorem colB_len (a b : St) (k : Nat) : (colB a b k).length = b.n := (both.take_len a b k).2
theorem both_bd {a b : St} {k : Nat} {x : Int} (h : 0 < total [a, b]) (hx : x ∈ cols [a, b] k) : 0 ≤ x ∧ x < total [a, b] := by
  have h2 := (cols_all h k).1 hx
  have h3 := cols_most_le [a, b] k
  omega
theorem colA_bd {a b : St} {k : Nat} {x : Int} (h : 0 < total [a, b]) (hx : x ∈ colA a b k) : 0 ≤ x ∧ x < total [a, b] := both_bd h (List.mem_of_mem_take hx)
theorem colB_bd {a b : St} {k : Nat} {x : Int} (h : 0 < total [a, b]) (hx : x ∈ colB a b k) : 0 ≤ x ∧ x < total [a, b] := both_bd h (List.mem_of_mem_drop hx)
theorem most_le {c : List Int} {m : Int} (hm : 0 ≤ m) (h : ∀ x, x ∈ c → x < m) : most c ≤ m := by
  rcases (fold_max c 0).2.2 with h3 | ⟨x, hx, h3⟩
  · unfold most; rw [h3]; exact hm
  · unfold most; rw [h3]; have := h x hx; omega
theorem same_counts {a b : St} {k m : Nat} (h : 0 < total [a, b]) (hA : most (colA a b k) ≤ m) (hB : most (colB a b k) ≤ m) : decide (counts (colA a b k) m = counts (colB a b k) m) = sameAt a b k := by
  unfold sameAt
  rw [decide_eq_decide]
  exact counts_perm (fun x hx => ⟨(colA_bd h hx).1, by have := most_ge hx; omega⟩) (fun x hx => ⟨(colB_bd h hx).1, by have := most_ge hx; omega⟩)

set_option maxHeartbeats 1600000 in
set_option maxRecDepth 100000 in
theorem l8Same_any (N : Nat) (s r : ByteArray) (M : Nat) (t q : ByteArray) (R : Nat) (w : World) (hRR : R ≤ 100) (hN1 : 1 ≤ N) (hN : N ≤ 8) (hs : s.size = N) (hr : r.size = N * N) (hM1 : 1 ≤ M) (hM : M ≤ 8) (ht : t.size = M) (hq : q.size = M * M) :
    Calls Tryz.prog 31 #[.agg #[.int .i64 N, .string s, .string r], .agg #[.int .i64 M, .string t, .string q], .int .i64 R] w fun e w' => e = .returned (.bool (sameAt ⟨N, s, r⟩ ⟨M, t, q⟩ R)) ∧ Below w.heap.size w w' := by
  have AW : Hid (Below w.heap.size w ((w.alloc (.cells #[.int .i64 N, .string s, .string r] 24)).alloc (.cells #[.int .i64 M, .string t, .string q] 24))) := ((Below.refl _ _).alloc (Nat.le_refl _) _).alloc (by simp) _
  have HZ := Lib.hid (show _ ∧ _ ∧ _ ∧ _ from ⟨hs, hr, ht, hq⟩)
  clear hs hr ht hq
  have ht0 : 0 < total [⟨N, s, r⟩, ⟨M, t, q⟩] ∧ total [⟨N, s, r⟩, ⟨M, t, q⟩] = N + M := by simp [total]; omega
  obtain ⟨ca, hca⟩ : ∃ ca, ca = colA ⟨N, s, r⟩ ⟨M, t, q⟩ R := ⟨_, rfl⟩
  obtain ⟨cb, hcb⟩ : ∃ cb, cb = colB ⟨N, s, r⟩ ⟨M, t, q⟩ R := ⟨_, rfl⟩
  have HA : Hid (ca.length = N ∧ (∀ x, x ∈ ca → 0 ≤ x ∧ x < ((N + M : Nat) : Int)) ∧ most ca ≤ ((N + M : Nat) : Int)) := by
    have h1 : ∀ x, x ∈ ca → 0 ≤ x ∧ x < ((N + M : Nat) : Int) := fun x hx => by
      rw [hca] at hx
      have := colA_bd ht0.1 hx
      rw [ht0.2] at this; exact this
    exact ⟨by rw [hca, colA_len], h1, most_le (by omega) fun x hx => (h1 x hx).2⟩
  have HB : Hid (cb.length = M ∧ (∀ x, x ∈ cb → 0 ≤ x ∧ x < ((N + M : Nat) : Int)) ∧ most cb ≤ ((N + M : Nat) : Int)) := by
    have h1 : ∀ x, x ∈ cb → 0 ≤ x ∧ x < ((N + M : Nat) : Int) := fun x hx => by
      rw [hcb] at hx
      have := colB_bd ht0.1 hx
      rw [ht0.2] at this; exact this
    exact ⟨by rw [hcb, colB_len], h1, most_le (by omega) fun x hx => (h1 x hx).2⟩
  obtain ⟨m, hm⟩ : ∃ m : Nat, max (most ca) (most cb) = (m : Int) := ⟨(max (most ca) (most cb)).toNat, by have := most_nonneg ca; omega⟩
  have HS : Hid (decide (counts ca m = counts cb m) = sameAt ⟨N, s, r⟩ ⟨M, t, q⟩ R) := by
    rw [hca, hcb] at hm ⊢
    exact same_counts ht0.1 (by omega) (by omega)
  have HM : Hid (m ≤ 16 ∧ most ca ≤ m ∧ most cb ≤ m) := by have := HA.out.2.2; have := HB.out.2.2; unfold Hid; omega
  obtain ⟨ma, hma⟩ : ∃ ma, ma = most ca := ⟨_, rfl⟩
  obtain ⟨mb, hmb⟩ : ∃ mb, mb = most cb := ⟨_, rfl⟩
  have HMA := Lib.hid (show _ ∧ _ from ⟨hma, hmb⟩)
  have HMM : Hid (max ma mb = (m : Int)) := by rw [Hid, hma, hmb]; exact hm
  have HC := Lib.hid (show _ ∧ _ from ⟨hca, hcb⟩)
  clear hm hma hmb hca hcb ht0
  go_enter Tryz.func31, Tryz.ntmps31
  go_wp2_with fail
  refine (l8Both_any N s r M t q R _ hRR hN1 hN HZ.out.1 HZ.out.2.1 hM1 hM HZ.out.2.2.1 HZ.out.2.2.2).mono ?_
  rintro e w1 ⟨v1, v2, rfl, h1, h2, -, hb⟩
  rw [← HC.out.1] at h1
  rw [← HC.out.2] at h2
  have HQ := Lib.hid (show _ ∧ _ ∧ _ from ⟨h1, h2, AW.out.trans (hb.mono AW.out.size)⟩)
  clear h1 h2 hb AW
  go_wp2_with fail
  refine (l8Most_any v1 ca _ HQ.out.1 (by have := HA.out.1; omega) (fun x hx => by have := HA.out.2.1 x hx; omega)).mono ?_
  rintro e w2 ⟨rfl, rfl⟩
  rw [← HMA.out.1]
  go_wp2_with fail
  refine (l8Most_any v2 cb _ HQ.out.2.1 (by have := HB.out.1; omega) (fun x hx => by have := HB.out.2.1 x hx; omega)).mono ?_
  rintro e w2 ⟨rfl, rfl⟩
  rw [← HMA.out.2]
  go_wp2_with fail
  rw [HMM.out]
  refine (l8Counts_any v1 ca m _ HQ.out.1 (by have := HA.out.1; omega) (by have := HM.out; omega) (fun x hx => ⟨(HA.out.2.1 x hx).1, by have := most_ge hx; have := HM.out; omega⟩)).mono ?_
  rintro e w2 ⟨u1, rfl, ho, hb⟩
  have HQ2 := Lib.hid (show _ ∧ _ ∧ _ from ⟨ho, HQ.out.2.1.below hb (Nat.le_refl _), HQ.out.2.2.trans (hb.mono HQ.out.2.2.size)⟩)
  clear ho hb HQ
  go_wp2_with fail
  refine (l8Counts_any v2 cb m _ HQ2.out.2.1 (by have := HB.out.1; omega) (by have := HM.out; omega) (fun x hx => ⟨(HB.out.2.1 x hx).1, by have := most_ge hx; have := HM.out; omega⟩)).mono ?_
  rintro e w3 ⟨u2, rfl, ho, hb⟩
  have HQ3 := Lib.hid (show _ ∧ _ ∧ _ from ⟨HQ2.out.1.below hb (Nat.le_refl _), ho, HQ2.out.2.2.trans (hb.mono HQ2.out.2.2.size)⟩)
  clear ho hb HQ2
  go_wp2_with fail
  refine (l8Equal_any u1 u2 _ _ _ (OwnI.reads HQ3.out.1) (OwnI.reads HQ3.out.2.1) (by rw [counts_len]; have := HM.out; omega) (by rw [counts_len]; have := HM.out; omega)).mono ?_
  rintro e w4 ⟨rfl, hb⟩
  rw [HS.out]
  have R1 := Lib.hid (HQ3.out.2.2.trans (hb.mono HQ3.out.2.2.size))
  clear hb
  go_wp2
  go_ret
  exact ⟨rfl, R1.out⟩

/-- whether two structures have the same colours at the end -/
def sameR (n : Int) (s r : ByteArray) (m : Int) (t q : ByteArray) : Bool := validB n s r && (validB m t q && sameAt ⟨n.toNat, s, r⟩ ⟨m.toNat, t, q⟩ (n.toNat + m.toNat))
/-- the first round that tells both apart -/
def roundR (n : Int) (s r : ByteArray) (m : Int) (t q : ByteArray) : Int := if validB n s r = true ∧ validB m t q = true then roundTo ⟨n.toNat, s, r⟩ ⟨m.toNat, t, q⟩ (n.toNat + m.toNat + 1) else -2
theorem round_no {n : Int} {s r : ByteArray} {m : Int} {t q : ByteArray} (h : ¬ (validB n s r = true ∧ validB m t q = true)) : roundR n s r m t q = -2 := if_neg h
theorem round_yes {N M : Nat} {s r t q : ByteArray} (h : validB N s r = true) (h2 : validB M t q = true) : roundR N s r M t q = roundTo ⟨N, s, r⟩ ⟨M, t, q⟩ (N + M + 1) := by
  unfold roundR; rw [if_pos ⟨h, h2⟩]; rfl
theorem same_round (n : Int) (s r : ByteArray) (m : Int) (t q : ByteArray) : decide (roundR n s r m t q = -1) = sameR n s r m t q := by
  unfold roundR sameR
  cases h1 : validB n s r with
  | false => simp
  | true =>
    cases h2 : validB m t q with
    | false => simp
    | true =>
      simp only [Bool.true_and, and_self, if_true]
      cases h : sameAt ⟨n.toNat, s, r⟩ ⟨m.toNat, t, q⟩ (n.toNat + m.toNat) with
      | true => exact decide_eq_true (roundTo_none.2 h)
      | false => exact decide_eq_false fun e => by rw [roundTo_none.1 e] at h; cases h

set_option maxHeartbeats 1600000 in
set_option maxRecDepth 100000 in
theorem specSameColours_any (n : Int) (s r : ByteArray) (m : Int) (t q : ByteArray) (w : World) (hs : s.size ≤ 9223372036854775807) (hr : r.size ≤ 9223372036854775807) (ht : t.size ≤ 9223372036854775807) (hq : q.size ≤ 9223372036854775807) :
    Calls Tryz.prog 9 #[.agg #[.int .i64 n, .string s, .string r], .agg #[.int .i64 m, .string t, .string q]] w fun e w' => e = .returned (.bool (sameR n s r m t q)) ∧ Below w.heap.size w w' := by
  have BA : Hid (Box 24 ((w.alloc (.cells #[.int .i64 n, .string s, .string r] 24)).alloc (.cells #[.int .i64 m, .string t, .string q] 24)) w.heap.size n s r) := (Box.new 24 w w.heap.size rfl n s r).below ((Below.refl (w.heap.size + 1) _).alloc (by simp) _) (by omega)
  have BB : Hid (Box 24 ((w.alloc (.cells #[.int .i64 n, .string s, .string r] 24)).alloc (.cells #[.int .i64 m, .string t, .string q] 24)) (w.heap.size + 1) m t q) := Box.new 24 _ (w.heap.size + 1) (by simp) m t q
  have AW : Hid (Below w.heap.size w ((w.alloc (.cells #[.int .i64 n, .string s, .string r] 24)).alloc (.cells #[.int .i64 m, .string t, .string q] 24))) := ((Below.refl _ _).alloc (Nat.le_refl _) _).alloc (by simp) _
  have HZ := Lib.hid (show _ ∧ _ ∧ _ ∧ _ from ⟨hs, hr, ht, hq⟩)
  clear hs hr ht hq
  go_enter Tryz.func9, Tryz.ntmps9
  go_wp2_with fail
  refine (StructureValid_any n s r _ HZ.out.1 HZ.out.2.1).mono ?_
  rintro e w1 ⟨rfl, hw⟩
  have HQ := Lib.hid (show _ ∧ _ ∧ _ from ⟨BA.out.below hw BA.out.lt, BB.out.below hw BB.out.lt, AW.out.trans (hw.mono AW.out.size)⟩)
  clear hw BA BB AW
  obtain ⟨a0, a1, a2⟩ := HQ.out.1.c
  obtain ⟨b0, b1, b2⟩ := HQ.out.2.1.c
  cases hv : validB n s r with
  | false =>
    have HE : Hid (sameR n s r m t q = false) := by rw [Hid, sameR, hv, Bool.false_and]
    clear hv
    go_wp2
    go_ret
    exact ⟨by rw [HE.out]; rfl, HQ.out.2.2⟩
  | true =>
    go_wp2_with fail
    refine (StructureValid_any m t q _ HZ.out.2.2.1 HZ.out.2.2.2).mono ?_
    rintro e w2 ⟨rfl, hw⟩
    have HQ2 := Lib.hid (show _ ∧ _ ∧ _ from ⟨HQ.out.1.below hw HQ.out.1.lt, HQ.out.2.1.below hw HQ.out.2.1.lt, HQ.out.2.2.trans (hw.mono HQ.out.2.2.size)⟩)
    clear hw HQ a0 a1 a2 b0 b1 b2
    obtain ⟨a0, a1, a2⟩ := HQ2.out.1.c
    obtain ⟨b0, b1, b2⟩ := HQ2.out.2.1.c
    cases hv2 : validB m t q with
    | false =>
      have HE : Hid (sameR n s r m t q = false) := by rw [Hid, sameR, hv2, Bool.false_and, Bool.and_false]
      clear hv hv2
      go_wp2
      go_ret
      exact ⟨by rw [HE.out]; rfl, HQ2.out.2.2⟩
    | true =>
      obtain ⟨N, rfl, hN1, hN8, hsN, hrN⟩ := valid_size hv
      obtain ⟨M, rfl, hM1, hM8, hsM, hrM⟩ := valid_size hv2
      have HE : Hid (sameR N s r M t q = sameAt ⟨N, s, r⟩ ⟨M, t, q⟩ (N + M)) := by rw [Hid, sameR, hv, hv2, Bool.true_and, Bool.true_and]; rfl
      have HH := Lib.hid (show _ ∧ _ ∧ _ ∧ _ from ⟨hsN, hrN, hsM, hrM⟩)
      clear hv hv2 hsN hrN hsM hrM
      go_wp2_with fail
      refine (l8Same_any N s r M t q (N + M) _ (by omega) hN1 hN8 HH.out.1 HH.out.2.1 hM1 hM8 HH.out.2.2.1 HH.out.2.2.2).mono ?_
      rintro e w3 ⟨rfl, hw⟩
      have R := Lib.hid (HQ2.out.2.2.trans (hw.mono HQ2.out.2.2.size))
      clear hw
      go_wp2
      go_ret
      exact ⟨by rw [HE.out]; rfl, R.out⟩

end Go.Proofs.YtpcnoiigbmiejaaGreatDoor.specd
