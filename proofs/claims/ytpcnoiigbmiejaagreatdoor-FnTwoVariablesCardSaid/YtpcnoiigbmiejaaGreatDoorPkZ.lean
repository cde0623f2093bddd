/- Several texts in one: FmZz, HoldsIn. -/
import Derived.Test.YtpcnoiigbmiejaaGreatDoorPk8
import Derived.Test.YtpcnoiigbmiejaaGreatDoorFmYr
import Derived.Test.YtpcnoiigbmiejaaGreatDoorPk9
import Derived.Test.YtpcnoiigbmiejaaGreatDoorFmZq
import Derived.Test.YtpcnoiigbmiejaaGreatDoorPk6
import Derived.Test.YtpcnoiigbmiejaaGreatDoorPk5
/- Formulas in the program: parsePart and parseFormula. -/
namespace Go.Proofs.YtpcnoiigbmiejaaGreatDoor.fmzz
set_option linter.unusedVariables false
set_option linter.unusedSimpArgs false
open Go.ChangeShapes Go.WideShapes Go.ChangeAt Go.RowKit
open Go.Proofs.YtpcnoiigbmiejaaGreatDoor.lib Go.Proofs.YtpcnoiigbmiejaaGreatDoor.fm Go.Proofs.YtpcnoiigbmiejaaGreatDoor.fmp Go.Proofs.YtpcnoiigbmiejaaGreatDoor.fmq Go.Proofs.YtpcnoiigbmiejaaGreatDoor.fmt Go.Proofs.YtpcnoiigbmiejaaGreatDoor.fmu Go.Proofs.YtpcnoiigbmiejaaGreatDoor.fme Go.Proofs.YtpcnoiigbmiejaaGreatDoor.fmw Go.Proofs.YtpcnoiigbmiejaaGreatDoor.fmx

theorem parsePart_any : ∀ (n : Nat) (s : ByteArray), s.size ≤ n → s.size ≤ 4000 → ∀ w, Calls Tryz.prog 122 #[.string s] w (PartP 111 w s.data.toList) := by
  intro n
  induction n with
  | zero =>
    intro s h0 hs w
    obtain rfl : s = ⟨#[]⟩ := by
      apply ByteArray.ext
      apply Array.eq_empty_of_size_eq_zero
      have : s.data.size = s.size := rfl
      omega
    exact part_empty _ w
  | succ n ih =>
    intro s hn hs w
    by_cases h0 : 0 < s.size
    · have hne := (full_of h0).1
      have IH : ∀ t : ByteArray, t.size < s.size → ∀ w, Calls Tryz.prog 122 #[.string t] w (PartP 111 w t.data.toList) := fun t ht w => ih t (by omega) (by omega) w
      by_cases h116 : s[0].toNat = 116
      · exact part_tf s hs h0 hne h116 w
      by_cases h102 : s[0].toNat = 102
      · exact part_tf2 s hs h0 hne h102 w
      by_cases h80 : s[0].toNat = 80
      · exact fmya.part_80 s hs h0 hne h80 w
      by_cases h61 : s[0].toNat = 61
      · exact fmyr.part_r s hs h0 hne (.inl h61) w
      by_cases h69 : s[0].toNat = 69
      · exact fmyr.part_r s hs h0 hne (.inr (h69)) w
      by_cases h33 : s[0].toNat = 33
      · exact fmza.part_33 s hs h0 hne h33 IH w
      by_cases h38 : s[0].toNat = 38
      · exact fmzt.part_t s hs h0 hne (.inl h38) IH w
      by_cases h124 : s[0].toNat = 124
      · exact fmzt.part_t s hs h0 hne (.inr (h124)) IH w
      by_cases h65 : s[0].toNat = 65
      · exact fmzq.part_q s hs h0 hne (.inl h65) IH w
      by_cases h83 : s[0].toNat = 83
      · exact fmzq.part_q s hs h0 hne (.inr (.inl h83)) IH w
      by_cases h50 : s[0].toNat = 50
      · exact fmzq.part_q s hs h0 hne (.inr (.inr (.inl h50))) IH w
      by_cases h51 : s[0].toNat = 51
      · exact fmzq.part_q s hs h0 hne (.inr (.inr (.inr (.inl h51)))) IH w
      by_cases h52 : s[0].toNat = 52
      · exact fmzq.part_q s hs h0 hne (.inr (.inr (.inr (.inr (h52))))) IH w
      refine part_bad s hs h0 hne (fun n hn => ?_) w
      simp only [List.mem_cons, List.not_mem_nil, or_false] at hn
      rcases hn with rfl | rfl | rfl | rfl | rfl | rfl | rfl | rfl | rfl | rfl | rfl | rfl | rfl <;> assumption
    · obtain rfl : s = ⟨#[]⟩ := by
        apply ByteArray.ext
        apply Array.eq_empty_of_size_eq_zero
        have : s.data.size = s.size := rfl
        omega
      exact part_empty _ w
/-- what parseFormula returns: the formula that the text says, or nil -/
def ParseP (w : World) (f : ByteArray) (e : Ending) (w' : World) : Prop :=
  ∃ p : Value, e = .returned p ∧ Below w.heap.size w w' ∧ ((fmB f = false ∧ p = .pointer none) ∨ fmB f = true ∧ ∃ a H, At f 0 a f.size ∧ p = .pointer (some ⟨H, 0, none⟩) ∧ Tree 111 w' a H)
theorem fmB_long {f : ByteArray} (h : ¬ f.size ≤ 4000) : fmB f = false := by unfold fmB; rw [decide_eq_false h]; rfl
theorem fmB_none {f : ByteArray} (h : read f.data.toList = none) : fmB f = false := by
  cases hb : fmB f with
  | false => rfl
  | true =>
    obtain ⟨_, a, ha⟩ := fmB_iff.1 hb
    have := ha.2
    rw [List.drop_zero, h] at this
    cases this
theorem fmB_rest {f : ByteArray} {a : Fm} {r : List UInt8} (h : read f.data.toList = some (a, r)) (hr : r ≠ []) : fmB f = false := by
  cases hb : fmB f with
  | false => rfl
  | true =>
    obtain ⟨_, b, hb2⟩ := fmB_iff.1 hb
    have := hb2.2
    rw [List.drop_zero, h] at this
    simp only [Option.some.injEq, Prod.mk.injEq] at this
    rw [List.drop_of_length_le (by rw [lsz]; omega)] at this
    exact absurd this.2 hr
theorem fmB_full {f : ByteArray} {a : Fm} (hs : f.size ≤ 4000) (h : read f.data.toList = some (a, [])) : fmB f = true ∧ At f 0 a f.size := by
  have hat : At f 0 a f.size := ⟨Nat.le_refl _, by rw [List.drop_zero, h, List.drop_of_length_le (by rw [lsz]; omega)]⟩
  exact ⟨fmB_iff.2 ⟨hs, a, hat⟩, hat⟩
set_option maxHeartbeats 1600000 in
set_option maxRecDepth 100000 in
theorem parseFormula_any (f : ByteArray) (w : World) : Calls Tryz.prog 98 #[.string f] w (ParseP w f) := by
  by_cases hs : f.size ≤ 4000
  · have e1 : decide ((4000 : Int) < (f.size : Int)) = false := by simp; omega
    have e2 : decide (4000 < f.size) = false := by simp; omega
    have HC := Lib.hid (parsePart_any f.size f (Nat.le_refl _) hs)
    have HS := Lib.hid hs
    clear hs
    cases hr : read f.data.toList with
    | none =>
      have HR := Lib.hid hr
      have HE := Lib.hid (fmB_none hr)
      clear hr
      go_enter Tryz.func98, Tryz.ntmps98
      go_wp2_with fail
      refine (HC.out _).mono ?_
      rintro eo w1 ⟨p1, t1, rfl, hb, hm⟩
      rw [HR.out] at hm
      obtain rfl : p1 = .pointer none := hm
      have HB := Lib.hid hb
      clear hb
      cases h1 : t1.toList.isEmpty with
      | true =>
        go_wp2
        go_ret
        exact ⟨_, rfl, HB.out, .inl ⟨HE.out, rfl⟩⟩
      | false =>
        go_wp2
        go_ret
        exact ⟨_, rfl, HB.out, .inl ⟨HE.out, rfl⟩⟩
    | some x =>
      obtain ⟨a, r⟩ := x
      have HR := Lib.hid hr
      clear hr
      go_enter Tryz.func98, Tryz.ntmps98
      go_wp2_with fail
      refine (HC.out _).mono ?_
      rintro eo w1 ⟨p1, t1, rfl, hb, hm⟩
      rw [HR.out] at hm
      obtain ⟨ht1, H, rfl, hts⟩ := hm
      have HB := Lib.hid hb
      have HT := Lib.hid hts.tree
      have HT1 := Lib.hid ht1
      clear hb hts ht1
      have hl : t1.toList = r := by rw [HT1.out, ByteArray.toList_mk]
      cases r with
      | nil =>
        have h1 : t1.toList.isEmpty = true := by rw [hl]; rfl
        have HE := Lib.hid (fmB_full HS.out HR.out)
        clear hl
        go_wp2
        go_ret
        exact ⟨_, rfl, HB.out, .inr ⟨HE.out.1, a, H, HE.out.2, rfl, HT.out⟩⟩
      | cons c r =>
        have h1 : t1.toList.isEmpty = false := by rw [hl]; rfl
        have HE := Lib.hid (fmB_rest HR.out (by simp))
        clear hl
        go_wp2
        go_ret
        exact ⟨_, rfl, HB.out, .inl ⟨HE.out, rfl⟩⟩
  · have e1 : decide ((4000 : Int) < (f.size : Int)) = true := by simp; omega
    have e2 : decide (4000 < f.size) = true := by simp; omega
    have HE := Lib.hid (fmB_long hs)
    clear hs
    go_enter Tryz.func98, Tryz.ntmps98
    go_wp2
    go_ret
    exact ⟨_, rfl, Below.refl _ _, .inl ⟨HE.out, rfl⟩⟩
end Go.Proofs.YtpcnoiigbmiejaaGreatDoor.fmzz

/- HoldsIn of the program, at a valid structure. -/
namespace Go.Proofs.YtpcnoiigbmiejaaGreatDoor.ist
set_option linter.unusedVariables false
set_option linter.unusedSimpArgs false
open Go.ChangeShapes Go.WideShapes Go.ChangeAt Go.RowKit
open Go.Proofs.YtpcnoiigbmiejaaGreatDoor.lib Go.Proofs.YtpcnoiigbmiejaaGreatDoor.st Go.Proofs.YtpcnoiigbmiejaaGreatDoor.flow Go.Proofs.YtpcnoiigbmiejaaGreatDoor.chain Go.Proofs.YtpcnoiigbmiejaaGreatDoor.base Go.Proofs.YtpcnoiigbmiejaaGreatDoor.make Go.Proofs.YtpcnoiigbmiejaaGreatDoor.fm Go.Proofs.YtpcnoiigbmiejaaGreatDoor.fmt Go.Proofs.YtpcnoiigbmiejaaGreatDoor.fmp Go.Proofs.YtpcnoiigbmiejaaGreatDoor.fmq Go.Proofs.YtpcnoiigbmiejaaGreatDoor.sat Go.Proofs.YtpcnoiigbmiejaaGreatDoor.game Go.Proofs.YtpcnoiigbmiejaaGreatDoor.keys Go.Proofs.YtpcnoiigbmiejaaGreatDoor.mapr Go.Proofs.YtpcnoiigbmiejaaGreatDoor.tab Go.Proofs.YtpcnoiigbmiejaaGreatDoor.hold Go.Proofs.YtpcnoiigbmiejaaGreatDoor.fmzz Go.Proofs.YtpcnoiigbmiejaaGreatDoor.pairL

/-- what HoldsIn answers -/
def HoldsP (N : Nat) (s r f : ByteArray) (w : World) (e : Ending) (w' : World) : Prop :=
  ∃ x ok, e = .returned (.tuple #[.bool x, .bool ok]) ∧ Below w.heap.size w w' ∧ (ok = true → ∃ a, At f 0 a f.size ∧ a.ok ∧ a.free = 0 ∧ x = sat (gob.gr N s r) a fun _ => 0)
/-- what was found lies in new blocks -/
theorem out_below {D : Nat → Prop} {W W1 W2 : World} (hb : Below W.heap.size W W1) (ho : Out D W1 W2) (hD : ∀ k, D k → W.heap.size ≤ k) : Below W.heap.size W W2 :=
  ⟨ho.os.trans hb.os, ho.tape.trans hb.tape, ho.output.trans hb.output, Nat.le_trans hb.size ho.size, fun k hk => (ho.block k (by have := hb.size; omega) fun h => by have := hD k h; omega).trans (hb.block k hk)⟩
theorem nil_reads (w : World) : Reads w (.slice none 0 0) [] := ⟨none, 0, rfl, .inl rfl, fun _ => ⟨rfl, rfl⟩⟩
set_option maxHeartbeats 3200000 in
set_option maxRecDepth 100000 in
theorem holdsAt_nil (N : Nat) (s r f : ByteArray) (hv : validB (N : Int) s r = true) (w : World) :
    Calls Tryz.prog 52 #[.agg #[.int .i64 (N : Int), .string s, .string r], .string f, .slice none 0 0] w (HoldsP N s r f w) := by
  obtain ⟨v1, v2, v3, -, -⟩ := validB_iff.1 hv
  have hN : N ≤ 8 := by omega
  have hss : s.size = N := by omega
  have hrr : r.size = N * N := by
    have e : ((N * N : Nat) : Int) = (N : Int) * (N : Int) := Int.natCast_mul N N
    omega
  have hnn : N * N ≤ 64 := Nat.mul_le_mul hN hN
  have HSZ := Lib.hid (show _ ∧ _ ∧ _ from ⟨hN, hss, hrr⟩)
  have HVV : Hid (∀ W, Calls Tryz.prog 32 #[.agg #[.int .i64 (N : Int), .string s, .string r]] W fun e w' => e = .returned (.bool true) ∧ Below W.heap.size W w') := fun W => by
    rw [← hv]; exact isStructure_any (N : Int) s r W (by omega) (by omega)
  clear hv v1 v2 v3 hN hss hrr hnn
  obtain ⟨W1, hW1⟩ : ∃ W1, W1 = w.alloc (.cells #[.int .i64 (N : Int), .string s, .string r] 24) := ⟨_, rfl⟩
  have BX : Hid (Box 24 W1 w.heap.size (N : Int) s r) := by rw [hW1]; exact Box.new _ w _ rfl _ _ _
  have HB1 : Hid (Below w.heap.size w W1) := by rw [hW1]; exact (Below.refl _ _).alloc (Nat.le_refl _) _
  have HW1 := Lib.hid hW1
  clear hW1
  go_enter Tryz.func52, Tryz.ntmps52
  go_wp2_with fail
  rw [← HW1.out]
  refine (parseFormula_any f _).mono ?_
  rintro e2 W2 ⟨p, rfl, hb2, hp⟩
  have HB2 := Lib.hid (HB1.out.trans (hb2.mono HB1.out.size))
  have BX2 := Lib.hid (BX.out.below hb2 BX.out.lt)
  clear hb2 BX HB1 HW1
  rcases hp with ⟨_, rfl⟩ | ⟨_, a, H, hat, rfl, ht⟩
  · have HR : Hid (HoldsP N s r f w (.returned (.tuple #[.bool false, .bool false])) W2) := ⟨false, false, rfl, HB2.out, fun h => by cases h⟩
    go_wp2
    go_ret2
    exact HR.out
  · have HAT := Lib.hid hat
    have HT := Lib.hid ht
    obtain ⟨op, vs, ps, hnode⟩ := ht.free
    have HND := Lib.hid hnode
    have hfl : a.free < 16 := Fm.free_lt hat.ok
    clear hat ht hnode
    obtain ⟨b0, b1, b2⟩ := Box.c BX2.out
    go_wp2_with fail
    clear b0 b1 b2
    refine (HVV.out _).mono ?_
    rintro e3 W3 ⟨rfl, hb3⟩
    have HB3 := Lib.hid (HB2.out.trans (hb3.mono HB2.out.size))
    have BX3 := Lib.hid (BX2.out.below hb3 BX2.out.lt)
    have HT3 := Lib.hid (HT.out.below hb3 (Nat.le_refl _))
    have HND3 := Lib.hid (HND.out.below hb3 (Nat.le_refl _))
    clear hb3 HB2 BX2 HT HND
    obtain ⟨b0, b1, b2⟩ := Box.c BX3.out
    go_wp2_with fail
    clear b0 b1 b2
    refine (areElements_any (N : Int) s r (.slice none 0 0) [] _ (by exact nil_reads _) (by simp)).mono ?_
    rintro e4 W4 ⟨he4, hb4⟩
    have he4 : e4 = .returned (.bool true) := he4
    subst he4
    have HB4 := Lib.hid (HB3.out.trans (hb4.mono HB3.out.size))
    have BX4 := Lib.hid (BX3.out.below hb4 BX3.out.lt)
    have HT4 := Lib.hid (HT3.out.below hb4 (Nat.le_refl _))
    have HND4 := Lib.hid (HND3.out.below hb4 (Nat.le_refl _))
    clear hb4 HB3 BX3 HT3 HND3
    obtain ⟨vv, pv, -, -, -, -, -, cf, -⟩ := HND4.out.cells
    by_cases h0 : a.free = 0
    · rw [h0] at cf
      have HF0 := Lib.hid h0
      clear h0 hfl
      obtain ⟨b0, b1, b2⟩ := Box.c BX4.out
      go_wp2_with fail
      clear b0 b1 b2 cf
      refine (newHolder_any N s r _).mono ?_
      rintro e5 W5 ⟨m0, h0, rfl, hst, hm0, hb5⟩
      have HST := Lib.hid hst
      have HM0 := Lib.hid hm0
      have HB5 := Lib.hid hb5
      clear hst hm0 hb5
      go_wp2_with fail
      refine (holds_nil HSZ.out.1 HSZ.out.2.1 HSZ.out.2.2 HAT.out.ok HT4.out HF0.out (HST.out _)).mono ?_
      rintro e6 W6 ⟨D6, rfl, -, ho6, -⟩
      have HR : Hid (HoldsP N s r f w (.returned (.tuple #[.bool (sat (gob.gr N s r) a fun _ => 0), .bool true])) W6) :=
        ⟨_, true, rfl, HB4.out.trans ((out_below HB5.out ho6 fun k hk => by rw [hk]; exact HM0.out).mono HB4.out.size), fun _ => ⟨a, HAT.out, HAT.out.ok, HF0.out, rfl⟩⟩
      clear ho6
      go_wp2
      go_ret2
      exact HR.out
    · have HR : Hid (HoldsP N s r f w (.returned (.tuple #[.bool false, .bool false])) W4) := ⟨false, false, rfl, HB4.out, fun h => by cases h⟩
      have tz : ((a.free : Int) != 0) = true := by simp; omega
      have tz2 : ((a.free : Int) == 0) = false := by simp; omega
      have tz3 : decide ((a.free : Int) = 0) = false := by simp; omega
      go_wp2
      go_ret2
      exact HR.out
set_option maxHeartbeats 3200000 in
set_option maxRecDepth 100000 in
theorem holdsIn_any (N : Nat) (s r f : ByteArray) (hv : validB (N : Int) s r = true) (w : World) :
    Calls Tryz.prog 21 #[.agg #[.int .i64 (N : Int), .string s, .string r], .string f] w (HoldsP N s r f w) := by
  have HV := Lib.hid hv
  clear hv
  obtain ⟨W1, hW1⟩ : ∃ W1, W1 = w.alloc (.cells #[.int .i64 (N : Int), .string s, .string r] 24) := ⟨_, rfl⟩
  have HB1 : Hid (Below w.heap.size w W1) := by rw [hW1]; exact (Below.refl _ _).alloc (Nat.le_refl _) _
  have BX : Hid (Box 24 W1 w.heap.size (N : Int) s r) := by rw [hW1]; exact Box.new _ w _ rfl _ _ _
  have HW1 := Lib.hid hW1
  clear hW1
  go_enter Tryz.func21, Tryz.ntmps21
  go_wp2_with fail
  refine (holdsAt_nil N s r f HV.out _).mono ?_
  rintro e w1 ⟨x, ok, rfl, hb, hx⟩
  have HR : Hid (HoldsP N s r f w (.returned (.tuple #[.bool x, .bool ok])) w1) := ⟨x, ok, rfl, by
    have hb := hb
    rw [← HW1.out] at hb
    exact HB1.out.trans (hb.mono HB1.out.size), hx⟩
  clear hb hx BX HB1 HW1
  go_wp2
  go_ret2
  exact HR.out
end Go.Proofs.YtpcnoiigbmiejaaGreatDoor.ist
