/- Several texts in one: SameR, SameRS, PiecesS, Sbc, Sbs. -/
import Derived.Test.YtpcnoiigbmiejaaGreatDoorSameI
import Derived.Test.YtpcnoiigbmiejaaGreatDoorPkH
import Derived.Test.YtpcnoiigbmiejaaGreatDoorPieces
import Derived.Test.YtpcnoiigbmiejaaGreatDoorTwin
/- SameBall of the program. -/
namespace Go.Proofs.YtpcnoiigbmiejaaGreatDoor.same
set_option linter.unusedVariables false
set_option linter.unusedSimpArgs false
open Go.ChangeShapes Go.WideShapes Go.ChangeAt Go.RowKit
open Go.Proofs.YtpcnoiigbmiejaaGreatDoor.lib Go.Proofs.YtpcnoiigbmiejaaGreatDoor.st Go.Proofs.YtpcnoiigbmiejaaGreatDoor.base Go.Proofs.YtpcnoiigbmiejaaGreatDoor.make Go.Proofs.YtpcnoiigbmiejaaGreatDoor.near Go.Proofs.YtpcnoiigbmiejaaGreatDoor.dist Go.Proofs.YtpcnoiigbmiejaaGreatDoor.ball

/-- what SameBall returns -/
noncomputable def sameR (n : Int) (sa ra : ByteArray) (x m : Int) (sb rb : ByteArray) (y rad : Int) : Bool := elemB n sa ra x && (elemB m sb rb y && (basic.inB rad 0 100 && sameB n.toNat sa ra x.toNat m.toNat sb rb y.toNat rad))

end Go.Proofs.YtpcnoiigbmiejaaGreatDoor.same

/- SameBall of the reference. -/
namespace Go.Proofs.YtpcnoiigbmiejaaGreatDoor.same
set_option linter.unusedVariables false
set_option linter.unusedSimpArgs false
open Go.ChangeShapes Go.WideShapes Go.ChangeAt Go.RowKit
open Go.Proofs.YtpcnoiigbmiejaaGreatDoor.lib Go.Proofs.YtpcnoiigbmiejaaGreatDoor.st Go.Proofs.YtpcnoiigbmiejaaGreatDoor.base Go.Proofs.YtpcnoiigbmiejaaGreatDoor.make Go.Proofs.YtpcnoiigbmiejaaGreatDoor.near Go.Proofs.YtpcnoiigbmiejaaGreatDoor.dist Go.Proofs.YtpcnoiigbmiejaaGreatDoor.ball

end Go.Proofs.YtpcnoiigbmiejaaGreatDoor.same

/- PiecesOf in the reference. -/
namespace Go.Proofs.YtpcnoiigbmiejaaGreatDoor.pieces
set_option linter.unusedVariables false
set_option linter.unusedSimpArgs false
open Go.ChangeShapes Go.WideShapes Go.ChangeAt Go.RowKit
open Go.Proofs.YtpcnoiigbmiejaaGreatDoor.lib Go.Proofs.YtpcnoiigbmiejaaGreatDoor.st Go.Proofs.YtpcnoiigbmiejaaGreatDoor.base Go.Proofs.YtpcnoiigbmiejaaGreatDoor.near Go.Proofs.YtpcnoiigbmiejaaGreatDoor.dist Go.Proofs.YtpcnoiigbmiejaaGreatDoor.cls

theorem len0 (n : Int) (s r : ByteArray) : s.size + r.size ≤ 1048576 → (piecesR n s r).length ≤ 4194304 := by
  intro _; unfold piecesR; split
  · rename_i h
    obtain ⟨N, rfl, hN1, hN8, _⟩ := valid_size h
    have := (cls_len (conn N r) N).1
    simp only [Int.toNat_natCast]; omega
  · simp
end Go.Proofs.YtpcnoiigbmiejaaGreatDoor.pieces

/- BallClasses in the program and in the reference. -/
namespace Go.Proofs.YtpcnoiigbmiejaaGreatDoor.sbc
set_option linter.unusedVariables false
set_option linter.unusedSimpArgs false
open Go.ChangeShapes Go.WideShapes Go.ChangeAt Go.RowKit
open Go.Proofs.YtpcnoiigbmiejaaGreatDoor.lib Go.Proofs.YtpcnoiigbmiejaaGreatDoor.st Go.Proofs.YtpcnoiigbmiejaaGreatDoor.base Go.Proofs.YtpcnoiigbmiejaaGreatDoor.near Go.Proofs.YtpcnoiigbmiejaaGreatDoor.dist Go.Proofs.YtpcnoiigbmiejaaGreatDoor.cls Go.Proofs.YtpcnoiigbmiejaaGreatDoor.pieces Go.Proofs.YtpcnoiigbmiejaaGreatDoor.same Go.Proofs.YtpcnoiigbmiejaaGreatDoor.ball
/-- what BallClasses returns -/
noncomputable def classR (n : Int) (s r : ByteArray) (rad : Int) : List Int := if validB n s r = true then (if basic.inB rad 0 100 = true then (clsOf (shp n.toNat s r rad) n.toNat).1 else []) else []

set_option maxHeartbeats 1600000 in
theorem shpCl_any (n : Nat) (s r : ByteArray) (rad : Int) (H : Nat) (y x : Nat) (w : World) (hb : Box 24 w H n s r) (hr : w.cell? ⟨H + 1, 0, none⟩ = some (.int .i64 rad)) (hy : y < n) (hx : x < n) (hn : n ≤ 8) (hs : s.size = n ∧ r.size = n * n) :
    Calls Tryz.prog 46 #[.int .i64 y, .int .i64 x, .pointer (some ⟨H, 0, none⟩), .pointer (some ⟨H + 1, 0, none⟩)] w fun e w' => e = .returned (.bool (shp n s r rad y x)) ∧ Below w.heap.size w w' := by
  obtain ⟨c0, c1, c2⟩ := hb.c
  have HS := Lib.hid hs
  clear hb hs
  go_enter Tryz.func46, Tryz.ntmps46
  go_wp2_with fail
  refine (sameBall_any n s r y n s r x rad _ hy hn HS.out hx hn HS.out).mono ?_
  rintro e w1 ⟨rfl, hw⟩
  have HW := Lib.hid hw
  clear hw
  go_wp2
  go_ret
  exact ⟨rfl, HW.out⟩

set_option maxHeartbeats 1600000 in
theorem implClasses_any (n : Int) (s r : ByteArray) (rad : Int) (w : World) (hs : s.size ≤ 9223372036854775807) (hr : r.size ≤ 9223372036854775807) :
    Calls Tryz.prog 17 #[.agg #[.int .i64 n, .string s, .string r], .int .i64 rad] w fun e w' => ∃ v, e = .returned v ∧ OwnI 3 w' w.heap.size v (classR n s r rad) ∧ Below w.heap.size w w' := by
  obtain ⟨W0, hW0⟩ : ∃ W0, W0 = (w.alloc (.cells #[.int .i64 n, .string s, .string r] 24)).alloc (.cells #[.int .i64 rad] 3) := ⟨_, rfl⟩
  have BX : Hid (Box 24 W0 w.heap.size n s r) := by rw [hW0]; exact (Box.new 24 w w.heap.size rfl n s r).below ((Below.refl _ _).alloc (Nat.le_refl _) _) (by simp)
  have CR : Hid (W0.cell? ⟨w.heap.size + 1, 0, none⟩ = some (.int .i64 rad)) := by
    obtain ⟨W1, hW1⟩ : ∃ W1, W1 = w.alloc (.cells #[.int .i64 n, .string s, .string r] 24) := ⟨_, rfl⟩
    have z1 : W1.heap.size = w.heap.size + 1 := by rw [hW1]; simp
    rw [← hW1] at hW0
    have h := heap_alloc_new W1 (.cells #[.int .i64 rad] 3)
    rw [z1] at h
    exact Lib.hid (by simp [World.cell?, hW0, h])
  have AW : Hid (Below w.heap.size w W0) := by rw [hW0]; exact ((Below.refl _ _).alloc (Nat.le_refl _) _).alloc (by simp) _
  have HW := Lib.hid hW0
  clear hW0
  go_enter Tryz.func17, Tryz.ntmps17
  go_wp2_with fail
  rw [← HW.out]
  clear HW
  refine (isStructure_any n s r _ hs hr).mono ?_
  rintro e w1 ⟨rfl, hw⟩
  have AW1 : Hid (Below w.heap.size w w1) := AW.out.trans (hw.mono AW.out.size)
  have BX1 := Lib.hid (BX.out.below hw BX.out.lt)
  have CR1 := Lib.hid (keepCell hw CR.out)
  obtain ⟨c0, c1, c2⟩ := BX1.out.c
  have cr := CR1.out
  clear hw AW BX CR
  cases hb : validB n s r with
  | false =>
    have HE : Hid (classR n s r rad = []) := by rw [Hid, classR, hb]; rfl
    clear hb
    go_wp2
    go_ret
    exact ⟨_, rfl, by rw [HE.out]; exact OwnI.nil _ _ _, AW1.out⟩
  | true =>
    go_wp2_with fail
    refine (isRadius_any rad _).mono ?_
    rintro e w2 ⟨rfl, rfl⟩
    cases hib : basic.inB rad 0 100 with
    | false =>
      have HE : Hid (classR n s r rad = []) := by rw [Hid, classR, hb, hib]; rfl
      clear hb hib
      go_wp2
      go_ret
      exact ⟨_, rfl, by rw [HE.out]; exact OwnI.nil _ _ _, AW1.out⟩
    | true =>
      obtain ⟨N, rfl, hN1, hN8, hsN, hrN⟩ := valid_size hb
      have HE : Hid (classR N s r rad = (clsOf (shp N s r rad) N).1) := by rw [Hid, classR, hb, hib]; rfl
      have HR := Lib.hid (show _ ∧ _ from ⟨hsN, hrN⟩)
      clear hb hib hsN hrN
      go_wp2_with fail
      refine (classesBy_any N hN8 46 #[.pointer (some ⟨w.heap.size, 0, none⟩), .pointer (some ⟨w.heap.size + 1, 0, none⟩)] (shp N s r rad) _ (make.enters_of Tryz.func46 (by kernel_rfl) rfl)
        (fun W hW y x hy hx => shpCl_any N s r rad w.heap.size y x W (BX1.out.below hW BX1.out.lt) (keepCell hW CR1.out) hy hx hN8 HR.out)).mono ?_
      rintro e w2 ⟨v, rfl, ho, hw⟩
      have R : Hid (OwnI 3 w2 w.heap.size v (clsOf (shp N s r rad) N).1 ∧ Below w.heap.size w w2) := ⟨ho.mono AW1.out.size, AW1.out.trans (hw.mono AW1.out.size)⟩
      clear ho hw
      go_wp2
      go_ret
      exact ⟨_, rfl, by rw [HE.out]; exact R.out.1, R.out.2⟩

/-- the state of the reference's inner loop, which goes down: the class found among those from k on -/
def AtD (p : Nat → Nat → Bool) (x k : Nat) (at_ : Int) : Prop :=
  ((∀ y, k ≤ y → y < x → p y x = false) ∧ at_ = ((clsOf p x).2 : Int)) ∨ ∃ y, y < x ∧ p y x = true ∧ at_ = (clsOf p x).1.getD y 0
theorem AtD.no {p : Nat → Nat → Bool} {x k : Nat} {c : Int} (h : AtD p x (k + 1) c) (hp : p k x = false) : AtD p x k c := by
  rcases h with ⟨h, e⟩ | h
  · refine .inl ⟨fun y h1 h2 => ?_, e⟩
    by_cases e : y = k
    · subst e; exact hp
    · exact h y (by omega) h2
  · exact .inr h
theorem AtD.yes {p : Nat → Nat → Bool} {x k : Nat} (hk : k < x) (hp : p k x = true) : AtD p x k ((clsOf p x).1.getD k 0) := .inr ⟨k, hk, hp, rfl⟩
theorem AtD.fin {p : Nat → Nat → Bool} {x : Nat} {c : Int} (h : AtD p x 0 c) : At p x x c := by
  rcases h with ⟨h, e⟩ | ⟨y, h1, h2, e⟩
  · exact .inl ⟨fun y hy => h y (by omega) hy, e⟩
  · exact .inr ⟨y, h1, h2, e⟩

theorem len0 (n : Int) (s r : ByteArray) (rad : Int) : s.size + r.size ≤ 1048576 → (classR n s r rad).length ≤ 4194304 := by
  intro _; unfold classR; split
  · rename_i h
    obtain ⟨N, rfl, hN1, hN8, _⟩ := valid_size h
    split
    · have := (cls_len (shp N s r rad) N).1
      simp only [Int.toNat_natCast]; omega
    · simp
  · simp
end Go.Proofs.YtpcnoiigbmiejaaGreatDoor.sbc

/- SameBalls in the program and in the reference. -/
namespace Go.Proofs.YtpcnoiigbmiejaaGreatDoor.sbs
set_option linter.unusedVariables false
set_option linter.unusedSimpArgs false
open Go.ChangeShapes Go.WideShapes Go.ChangeAt Go.RowKit
open Go.Proofs.YtpcnoiigbmiejaaGreatDoor.lib Go.Proofs.YtpcnoiigbmiejaaGreatDoor.st Go.Proofs.YtpcnoiigbmiejaaGreatDoor.base Go.Proofs.YtpcnoiigbmiejaaGreatDoor.near Go.Proofs.YtpcnoiigbmiejaaGreatDoor.dist Go.Proofs.YtpcnoiigbmiejaaGreatDoor.pieces Go.Proofs.YtpcnoiigbmiejaaGreatDoor.same Go.Proofs.YtpcnoiigbmiejaaGreatDoor.ball
/-- how many of the first k a test is true of -/
def cnt (q : Nat → Bool) (k : Nat) : Nat := ((List.range k).filter q).length
theorem cnt_zero (q : Nat → Bool) : cnt q 0 = 0 := rfl
theorem cnt_yes {q : Nat → Bool} {k : Nat} (h : q k = true) : cnt q (k + 1) = cnt q k + 1 := by simp [cnt, List.range_succ, h]
theorem cnt_no {q : Nat → Bool} {k : Nat} (h : q k = false) : cnt q (k + 1) = cnt q k := by simp [cnt, List.range_succ, h]
theorem cnt_le (q : Nat → Bool) (k : Nat) : cnt q k ≤ k := by
  have := List.length_filter_le q (List.range k)
  rw [List.length_range] at this; exact this
/-- as many balls are as that of x in both -/
noncomputable def balls (n : Nat) (sa ra sb rb : ByteArray) (rad : Int) (x : Nat) : Bool := cnt (fun y => sameB n sa ra x n sa ra y rad) n == cnt (fun y => sameB n sa ra x n sb rb y rad) n
/-- what SameBalls returns -/
noncomputable def sbsR (n : Int) (sa ra : ByteArray) (m : Int) (sb rb : ByteArray) (rad : Int) : Bool :=
  validB n sa ra && (validB m sb rb && (basic.inB rad 0 100 && (decide (n = m) && (List.range n.toNat).all (balls n.toNat sa ra sb rb rad))))
theorem l2Int_any (b : Bool) (w : World) : Calls Tryz.prog 43 #[.bool b] w fun e w' => e = .returned (.int .i64 (if b = true then 1 else 0)) ∧ w = w' := by
  cases b
  · go_enter Tryz.func43, Tryz.ntmps43
    go_wp2
    go_ret
    exact ⟨rfl, rfl⟩
  · go_enter Tryz.func43, Tryz.ntmps43
    go_wp2
    go_ret
    exact ⟨rfl, rfl⟩
theorem all_upto {f : Nat → Bool} {k : Nat} (h : ∀ j, j < k → f j = true) : (List.range k).all f = true := List.all_eq_true.2 fun j hj => h j (List.mem_range.1 hj)
theorem all_not {f : Nat → Bool} {k j : Nat} (hj : j < k) (h : f j = false) : (List.range k).all f = false := List.all_eq_false.2 ⟨j, List.mem_range.2 hj, by simp [h]⟩

set_option maxHeartbeats 3200000 in
theorem implSbs_any (n : Int) (sa ra : ByteArray) (m : Int) (sb rb : ByteArray) (rad : Int) (w : World) (hsa : sa.size ≤ 9223372036854775807) (hra : ra.size ≤ 9223372036854775807) (hsb : sb.size ≤ 9223372036854775807) (hrb : rb.size ≤ 9223372036854775807) :
    Calls Tryz.prog 14 #[.agg #[.int .i64 n, .string sa, .string ra], .agg #[.int .i64 m, .string sb, .string rb], .int .i64 rad] w fun e w' => e = .returned (.bool (sbsR n sa ra m sb rb rad)) ∧ Below w.heap.size w w' := by
  have B1 : Hid (Box 24 (w.alloc (.cells #[.int .i64 n, .string sa, .string ra] 24)) w.heap.size n sa ra) := Box.new _ w _ rfl _ _ _
  obtain ⟨W0, hW0⟩ : ∃ W0, W0 = (w.alloc (.cells #[.int .i64 n, .string sa, .string ra] 24)).alloc (.cells #[.int .i64 m, .string sb, .string rb] 24) := ⟨_, rfl⟩
  have BA : Hid (Box 24 W0 w.heap.size n sa ra) := by rw [hW0]; exact B1.out.below ((Below.refl _ _).alloc (Nat.le_refl _) _) B1.out.lt
  have BB : Hid (Box 24 W0 (w.heap.size + 1) m sb rb) := by rw [hW0]; exact Box.new _ _ _ (by simp) _ _ _
  have AW : Hid (Below w.heap.size w W0) := by rw [hW0]; exact ((Below.refl _ _).alloc (Nat.le_refl _) _).alloc (by simp) _
  have HW := Lib.hid hW0
  clear hW0 B1
  go_enter Tryz.func14, Tryz.ntmps14
  go_wp2_with fail
  rw [← HW.out]
  clear HW
  refine (isStructure_any n sa ra _ (by omega) (by omega)).mono ?_
  rintro e w1 ⟨rfl, hw⟩
  have AW1 : Hid (Below w.heap.size w w1) := AW.out.trans (hw.mono AW.out.size)
  have BA1 := Lib.hid (BA.out.below hw BA.out.lt)
  have BB1 := Lib.hid (BB.out.below hw BB.out.lt)
  clear hw AW BA BB
  cases h1 : validB n sa ra with
  | false =>
    have HE : Hid (sbsR n sa ra m sb rb rad = false) := by rw [Hid, sbsR, h1]; rfl
    clear h1
    go_wp2
    go_ret
    exact ⟨by rw [HE.out]; rfl, AW1.out⟩
  | true =>
  obtain ⟨b0, b1, b2⟩ := BB1.out.c
  go_wp2_with fail
  refine (isStructure_any m sb rb _ (by omega) (by omega)).mono ?_
  rintro e w2 ⟨rfl, hw⟩
  have AW2 : Hid (Below w.heap.size w w2) := AW1.out.trans (hw.mono AW1.out.size)
  have BA2 := Lib.hid (BA1.out.below hw BA1.out.lt)
  have BB2 := Lib.hid (BB1.out.below hw BB1.out.lt)
  clear hw AW1 BA1 BB1 b0 b1 b2
  cases h2 : validB m sb rb with
  | false =>
    have HE : Hid (sbsR n sa ra m sb rb rad = false) := by rw [Hid, sbsR, h1, h2]; rfl
    clear h1 h2
    go_wp2
    go_ret
    exact ⟨by rw [HE.out]; rfl, AW2.out⟩
  | true =>
  go_wp2_with fail
  refine (isRadius_any rad _).mono ?_
  rintro e w3 ⟨rfl, rfl⟩
  cases h3 : basic.inB rad 0 100 with
  | false =>
    have HE : Hid (sbsR n sa ra m sb rb rad = false) := by rw [Hid, sbsR, h1, h2, h3]; rfl
    clear h1 h2 h3
    go_wp2
    go_ret
    exact ⟨by rw [HE.out]; rfl, AW2.out⟩
  | true =>
  obtain ⟨N, rfl, hN1, hN8, hsN, hrN⟩ := valid_size h1
  obtain ⟨M, rfl, hM1, hM8, hsM, hrM⟩ := valid_size h2
  obtain ⟨a0, a1, a2⟩ := BA2.out.c
  obtain ⟨b0, b1, b2⟩ := BB2.out.c
  by_cases hNM : N = M
  case neg =>
    have HE : Hid (sbsR N sa ra M sb rb rad = false) := by rw [Hid, sbsR, h1, h2, h3, decide_eq_false (show ¬ (N : Int) = (M : Int) by omega)]; rfl
    have t : ((N : Int) != (M : Int)) = true := by simp; omega
    clear h1 h2 h3 hNM
    go_wp2
    go_ret
    exact ⟨by rw [HE.out]; rfl, AW2.out⟩
  subst hNM
  have HE : Hid (sbsR N sa ra N sb rb rad = (List.range N).all (balls N sa ra sb rb rad)) := by rw [Hid, sbsR, h1, h2, h3, decide_eq_true rfl]; rfl
  have CA : Hid (∀ x y, x < N → y < N → ∀ W, Calls Tryz.prog 39 #[.agg #[.int .i64 N, .string sa, .string ra], .int .i64 x, .agg #[.int .i64 N, .string sa, .string ra], .int .i64 y, .int .i64 rad] W fun e w' => e = .returned (.bool (sameB N sa ra x N sa ra y rad)) ∧ Below W.heap.size W w') := fun x y hx hy W =>
    sameBall_any N sa ra x N sa ra y rad W hx hN8 ⟨hsN, hrN⟩ hy hN8 ⟨hsN, hrN⟩
  have CB : Hid (∀ x y, x < N → y < N → ∀ W, Calls Tryz.prog 39 #[.agg #[.int .i64 N, .string sa, .string ra], .int .i64 x, .agg #[.int .i64 N, .string sb, .string rb], .int .i64 y, .int .i64 rad] W fun e w' => e = .returned (.bool (sameB N sa ra x N sb rb y rad)) ∧ Below W.heap.size W w') := fun x y hx hy W =>
    sameBall_any N sa ra x N sb rb y rad W hx hN8 ⟨hsN, hrN⟩ hy hN8 ⟨hsM, hrM⟩
  clear h1 h2 h3 hsN hrN hsM hrM hsa hra hsb hrb hM1 hM8
  go_wp2_with fail
  go_loopw [33] (fun i wr => ∃ x : Nat, x ≤ N ∧ i = .int .i64 x ∧ (∀ j, j < x → balls N sa ra sb rb rad j = true) ∧ Below w.heap.size w wr ∧ Box 24 wr w.heap.size N sa ra ∧ Box 24 wr (w.heap.size + 1) N sb rb) (fun i _ => N - (intOf i).toNat)
  case atStart => exact ⟨0, Nat.zero_le _, rfl, fun j hj => absurd hj (Nat.not_lt_zero _), AW2.out, BA2.out, BB2.out⟩
  case round =>
    clear a0 a1 a2 b0 b1 b2 AW2 BA2 BB2
    obtain ⟨x, hx, rfl, h1, h2, h3, h4⟩ := hrel
    have HQ := Lib.hid (show _ ∧ _ ∧ _ ∧ _ from ⟨h1, h2, h3, h4⟩)
    clear h1 h2 h3 h4
    obtain ⟨a0, a1, a2⟩ := HQ.out.2.2.1.c
    by_cases hxn : x < N
    · obtain ⟨p, hp⟩ : ∃ p, p = fun y => sameB N sa ra x N sa ra y rad := ⟨_, rfl⟩
      obtain ⟨q, hq⟩ : ∃ q, q = fun y => sameB N sa ra x N sb rb y rad := ⟨_, rfl⟩
      have HB : Hid (balls N sa ra sb rb rad x = (cnt p N == cnt q N)) := by rw [hp, hq]; rfl
      have HYES := Lib.hid HQ.out.1
      have HPP := Lib.hid (show _ ∧ _ from ⟨hp, hq⟩)
      clear hp hq
      go_wp2_with fail
      clear a0 a1 a2
      go_loopw [8, 9, 38] (fun o1 o2 i wr => ∃ k : Nat, k ≤ N ∧ i = .int .i64 k ∧ o1 = .int .i64 (cnt p k : Nat) ∧ o2 = .int .i64 (cnt q k : Nat) ∧ Below w.heap.size w wr ∧ Box 24 wr w.heap.size N sa ra ∧ Box 24 wr (w.heap.size + 1) N sb rb) (fun _ _ i _ => N - (intOf i).toNat)
      case atStart => exact ⟨0, Nat.zero_le _, rfl, rfl, rfl, HQ.out.2⟩
      case round =>
        clear HQ
        obtain ⟨k, hk, rfl, rfl, rfl, h2, h3, h4⟩ := hrel
        have HQ := Lib.hid (show _ ∧ _ ∧ _ from ⟨h2, h3, h4⟩)
        clear h2 h3 h4
        have hcp := cnt_le p k
        have hcq := cnt_le q k
        by_cases hkn : k < N
        · obtain ⟨a0, a1, a2⟩ := HQ.out.2.1.c
          obtain ⟨b0, b1, b2⟩ := HQ.out.2.2.c
          go_wp2_with fail
          refine (CA.out x k hxn hkn _).mono ?_
          rintro e w5 ⟨rfl, hb⟩
          have HQ5 := Lib.hid (show _ ∧ _ ∧ _ from ⟨HQ.out.1.trans (hb.mono HQ.out.1.size), HQ.out.2.1.below hb HQ.out.2.1.lt, HQ.out.2.2.below hb HQ.out.2.2.lt⟩)
          clear hb a0 a1 a2 b0 b1 b2
          obtain ⟨a0, a1, a2⟩ := HQ5.out.2.1.c
          obtain ⟨b0, b1, b2⟩ := HQ5.out.2.2.c
          have ep : p k = sameB N sa ra x N sa ra k rad := by rw [HPP.out.1]
          have eq : q k = sameB N sa ra x N sb rb k rad := by rw [HPP.out.2]
          rw [← ep]
          have CBB : Hid (∀ W, Calls Tryz.prog 39 #[.agg #[.int .i64 N, .string sa, .string ra], .int .i64 x, .agg #[.int .i64 N, .string sb, .string rb], .int .i64 k, .int .i64 rad] W fun e w' => e = .returned (.bool (q k)) ∧ Below W.heap.size W w') := fun W => by rw [eq]; exact CB.out x k hxn hkn W
          clear ep eq
          by_cases h7 : p k = true
          · rw [h7]
            have HP : Hid (cnt p (k + 1) = cnt p k + 1) := cnt_yes h7
            go_wp2_with fail
            refine (CBB.out _).mono ?_
            rintro e w6 ⟨rfl, hb⟩
            have HQ6 := Lib.hid (show _ ∧ _ ∧ _ from ⟨HQ5.out.1.trans (hb.mono HQ5.out.1.size), HQ5.out.2.1.below hb HQ5.out.2.1.lt, HQ5.out.2.2.below hb HQ5.out.2.2.lt⟩)
            clear hb a0 a1 a2 b0 b1 b2 h7
            cases h8 : q k with
            | true =>
              have HQC : Hid (cnt q (k + 1) = cnt q k + 1) := cnt_yes h8
              clear h8
              go_wp2
              go_roundw
              case rel => exact ⟨k + 1, by omega, by go_num, by first | (rw [HP.out]; done) | (rw [HP.out]; first | rfl | go_num), by first | (rw [HQC.out]; done) | (rw [HQC.out]; first | rfl | go_num), HQ6.out⟩
              case measure => simp [intOf]; omega
            | false =>
              have HQC : Hid (cnt q (k + 1) = cnt q k) := cnt_no h8
              clear h8
              go_wp2
              go_roundw
              case rel => exact ⟨k + 1, by omega, by go_num, by first | (rw [HP.out]; done) | (rw [HP.out]; first | rfl | go_num), by first | (rw [HQC.out]; done) | (rw [HQC.out]; first | rfl | go_num), HQ6.out⟩
              case measure => simp [intOf]; omega
          · have h7 : p k = false := by simpa using h7
            rw [h7]
            have HP : Hid (cnt p (k + 1) = cnt p k) := cnt_no h7
            go_wp2_with fail
            refine (CBB.out _).mono ?_
            rintro e w6 ⟨rfl, hb⟩
            have HQ6 := Lib.hid (show _ ∧ _ ∧ _ from ⟨HQ5.out.1.trans (hb.mono HQ5.out.1.size), HQ5.out.2.1.below hb HQ5.out.2.1.lt, HQ5.out.2.2.below hb HQ5.out.2.2.lt⟩)
            clear hb a0 a1 a2 b0 b1 b2 h7
            cases h8 : q k with
            | true =>
              have HQC : Hid (cnt q (k + 1) = cnt q k + 1) := cnt_yes h8
              clear h8
              go_wp2
              go_roundw
              case rel => exact ⟨k + 1, by omega, by go_num, by first | (rw [HP.out]; done) | (rw [HP.out]; first | rfl | go_num), by first | (rw [HQC.out]; done) | (rw [HQC.out]; first | rfl | go_num), HQ6.out⟩
              case measure => simp [intOf]; omega
            | false =>
              have HQC : Hid (cnt q (k + 1) = cnt q k) := cnt_no h8
              clear h8
              go_wp2
              go_roundw
              case rel => exact ⟨k + 1, by omega, by go_num, by first | (rw [HP.out]; done) | (rw [HP.out]; first | rfl | go_num), by first | (rw [HQC.out]; done) | (rw [HQC.out]; first | rfl | go_num), HQ6.out⟩
              case measure => simp [intOf]; omega
        · obtain rfl : N = k := by omega
          clear hcp hcq
          have hcp := cnt_le p N
          have hcq := cnt_le q N
          by_cases hcc : cnt p N = cnt q N
          · have HY : Hid (∀ j, j < x + 1 → balls N sa ra sb rb rad j = true) := fun j hj => by
              by_cases e : j = x
              · subst e; rw [HB.out, hcc]; simp
              · exact HYES.out j (by omega)
            have t : ((cnt p N : Int) != (cnt q N : Int)) = false := by rw [hcc]; simp
            have t2 := Lib.hid hcc
            clear hcc
            go_wp2
            go_roundw
            case rel => exact ⟨x + 1, by omega, by go_num, HY.out, HQ.out⟩
            case measure => simp [intOf]; omega
          · have HF : Hid (sbsR N sa ra N sb rb rad = false) := by rw [Hid, HE.out]; exact all_not hxn (by rw [HB.out]; simpa using hcc)
            have t : ((cnt p N : Int) != (cnt q N : Int)) = true := by simp; omega
            clear hcc
            go_wp2
            go_ret
            exact ⟨by rw [HF.out]; rfl, HQ.out.1⟩
    · obtain rfl : N = x := by omega
      have HT : Hid (sbsR N sa ra N sb rb rad = true) := by rw [Hid, HE.out]; exact all_upto HQ.out.1
      go_wp2
      go_ret
      exact ⟨by rw [HT.out]; rfl, HQ.out.2.1⟩

set_option maxHeartbeats 3200000 in
theorem specSbs_any (n : Int) (sa ra : ByteArray) (m : Int) (sb rb : ByteArray) (rad : Int) (w : World) (hsa : sa.size ≤ 9223372036854775807) (hra : ra.size ≤ 9223372036854775807) (hsb : sb.size ≤ 9223372036854775807) (hrb : rb.size ≤ 9223372036854775807) :
    Calls Tryz.prog 16 #[.agg #[.int .i64 n, .string sa, .string ra], .agg #[.int .i64 m, .string sb, .string rb], .int .i64 rad] w fun e w' => e = .returned (.bool (sbsR n sa ra m sb rb rad)) ∧ Below w.heap.size w w' := by
  have B1 : Hid (Box 24 (w.alloc (.cells #[.int .i64 n, .string sa, .string ra] 24)) w.heap.size n sa ra) := Box.new _ w _ rfl _ _ _
  obtain ⟨W0, hW0⟩ : ∃ W0, W0 = (w.alloc (.cells #[.int .i64 n, .string sa, .string ra] 24)).alloc (.cells #[.int .i64 m, .string sb, .string rb] 24) := ⟨_, rfl⟩
  have BA : Hid (Box 24 W0 w.heap.size n sa ra) := by rw [hW0]; exact B1.out.below ((Below.refl _ _).alloc (Nat.le_refl _) _) B1.out.lt
  have BB : Hid (Box 24 W0 (w.heap.size + 1) m sb rb) := by rw [hW0]; exact Box.new _ _ _ (by simp) _ _ _
  have AW : Hid (Below w.heap.size w W0) := by rw [hW0]; exact ((Below.refl _ _).alloc (Nat.le_refl _) _).alloc (by simp) _
  have HW := Lib.hid hW0
  clear hW0 B1
  go_enter Tryz.func16, Tryz.ntmps16
  go_wp2_with fail
  rw [← HW.out]
  clear HW
  refine (StructureValid_any n sa ra _ (by omega) (by omega)).mono ?_
  rintro e w1 ⟨rfl, hw⟩
  have AW1 : Hid (Below w.heap.size w w1) := AW.out.trans (hw.mono AW.out.size)
  have BA1 := Lib.hid (BA.out.below hw BA.out.lt)
  have BB1 := Lib.hid (BB.out.below hw BB.out.lt)
  clear hw AW BA BB
  cases h1 : validB n sa ra with
  | false =>
    have HE : Hid (sbsR n sa ra m sb rb rad = false) := by rw [Hid, sbsR, h1]; rfl
    clear h1
    go_wp2
    go_ret
    exact ⟨by rw [HE.out]; rfl, AW1.out⟩
  | true =>
  obtain ⟨b0, b1, b2⟩ := BB1.out.c
  go_wp2_with fail
  refine (StructureValid_any m sb rb _ (by omega) (by omega)).mono ?_
  rintro e w2 ⟨rfl, hw⟩
  have AW2 : Hid (Below w.heap.size w w2) := AW1.out.trans (hw.mono AW1.out.size)
  have BA2 := Lib.hid (BA1.out.below hw BA1.out.lt)
  have BB2 := Lib.hid (BB1.out.below hw BB1.out.lt)
  clear hw AW1 BA1 BB1 b0 b1 b2
  cases h2 : validB m sb rb with
  | false =>
    have HE : Hid (sbsR n sa ra m sb rb rad = false) := by rw [Hid, sbsR, h1, h2]; rfl
    clear h1 h2
    go_wp2
    go_ret
    exact ⟨by rw [HE.out]; rfl, AW2.out⟩
  | true =>
  go_wp2_with fail
  refine (l9Radius_any rad _).mono ?_
  rintro e w3 ⟨rfl, rfl⟩
  cases h3 : basic.inB rad 0 100 with
  | false =>
    have HE : Hid (sbsR n sa ra m sb rb rad = false) := by rw [Hid, sbsR, h1, h2, h3]; rfl
    clear h1 h2 h3
    go_wp2
    go_ret
    exact ⟨by rw [HE.out]; rfl, AW2.out⟩
  | true =>
  obtain ⟨N, rfl, hN1, hN8, hsN, hrN⟩ := valid_size h1
  obtain ⟨M, rfl, hM1, hM8, hsM, hrM⟩ := valid_size h2
  obtain ⟨a0, a1, a2⟩ := BA2.out.c
  obtain ⟨b0, b1, b2⟩ := BB2.out.c
  by_cases hNM : N = M
  case neg =>
    have HE : Hid (sbsR N sa ra M sb rb rad = false) := by rw [Hid, sbsR, h1, h2, h3, decide_eq_false (show ¬ (N : Int) = (M : Int) by omega)]; rfl
    have t : ((N : Int) != (M : Int)) = true := by simp; omega
    clear h1 h2 h3 hNM
    go_wp2
    go_ret
    exact ⟨by rw [HE.out]; rfl, AW2.out⟩
  subst hNM
  have HE : Hid (sbsR N sa ra N sb rb rad = (List.range N).all (balls N sa ra sb rb rad)) := by rw [Hid, sbsR, h1, h2, h3, decide_eq_true rfl]; rfl
  have CA : Hid (∀ x y, x < N → y < N → ∀ W, Calls Tryz.prog 44 #[.agg #[.int .i64 N, .string sa, .string ra], .int .i64 x, .agg #[.int .i64 N, .string sa, .string ra], .int .i64 y, .int .i64 rad] W fun e w' => e = .returned (.bool (sameB N sa ra x N sa ra y rad)) ∧ Below W.heap.size W w') := fun x y hx hy W =>
    l9Same_any N sa ra x N sa ra y rad W hx hN8 ⟨hsN, hrN⟩ hy hN8 ⟨hsN, hrN⟩
  have CB : Hid (∀ x y, x < N → y < N → ∀ W, Calls Tryz.prog 44 #[.agg #[.int .i64 N, .string sa, .string ra], .int .i64 x, .agg #[.int .i64 N, .string sb, .string rb], .int .i64 y, .int .i64 rad] W fun e w' => e = .returned (.bool (sameB N sa ra x N sb rb y rad)) ∧ Below W.heap.size W w') := fun x y hx hy W =>
    l9Same_any N sa ra x N sb rb y rad W hx hN8 ⟨hsN, hrN⟩ hy hN8 ⟨hsM, hrM⟩
  clear h1 h2 h3 hsN hrN hsM hrM hsa hra hsb hrb hM1 hM8
  go_wp2_with fail
  go_loopw [7] (fun i wr => ∃ x : Nat, x ≤ N ∧ i = .int .i64 x ∧ (∀ j, j < x → balls N sa ra sb rb rad j = true) ∧ Below w.heap.size w wr ∧ Box 24 wr w.heap.size N sa ra ∧ Box 24 wr (w.heap.size + 1) N sb rb) (fun i _ => N - (intOf i).toNat)
  case atStart => exact ⟨0, Nat.zero_le _, rfl, fun j hj => absurd hj (Nat.not_lt_zero _), AW2.out, BA2.out, BB2.out⟩
  case round =>
    clear a0 a1 a2 b0 b1 b2 AW2 BA2 BB2
    obtain ⟨x, hx, rfl, h1, h2, h3, h4⟩ := hrel
    have HQ := Lib.hid (show _ ∧ _ ∧ _ ∧ _ from ⟨h1, h2, h3, h4⟩)
    clear h1 h2 h3 h4
    obtain ⟨a0, a1, a2⟩ := HQ.out.2.2.1.c
    by_cases hxn : x < N
    · obtain ⟨p, hp⟩ : ∃ p, p = fun y => sameB N sa ra x N sa ra y rad := ⟨_, rfl⟩
      obtain ⟨q, hq⟩ : ∃ q, q = fun y => sameB N sa ra x N sb rb y rad := ⟨_, rfl⟩
      have HB : Hid (balls N sa ra sb rb rad x = (cnt p N == cnt q N)) := by rw [hp, hq]; rfl
      have HYES := Lib.hid HQ.out.1
      have HPP := Lib.hid (show _ ∧ _ from ⟨hp, hq⟩)
      clear hp hq
      go_wp2_with fail
      clear a0 a1 a2
      go_loopw [8, 9, 10] (fun o1 o2 i wr => ∃ k : Nat, k ≤ N ∧ i = .int .i64 k ∧ o1 = .int .i64 (cnt p k : Nat) ∧ o2 = .int .i64 (cnt q k : Nat) ∧ Below w.heap.size w wr ∧ Box 24 wr w.heap.size N sa ra ∧ Box 24 wr (w.heap.size + 1) N sb rb) (fun _ _ i _ => N - (intOf i).toNat)
      case atStart => exact ⟨0, Nat.zero_le _, rfl, rfl, rfl, HQ.out.2⟩
      case round =>
        clear HQ
        obtain ⟨k, hk, rfl, rfl, rfl, h2, h3, h4⟩ := hrel
        have HQ := Lib.hid (show _ ∧ _ ∧ _ from ⟨h2, h3, h4⟩)
        clear h2 h3 h4
        have hcp := cnt_le p k
        have hcq := cnt_le q k
        by_cases hkn : k < N
        · obtain ⟨a0, a1, a2⟩ := HQ.out.2.1.c
          obtain ⟨b0, b1, b2⟩ := HQ.out.2.2.c
          go_wp2_with fail
          refine (CA.out x k hxn hkn _).mono ?_
          rintro e w5 ⟨rfl, hb⟩
          have HQ5 := Lib.hid (show _ ∧ _ ∧ _ from ⟨HQ.out.1.trans (hb.mono HQ.out.1.size), HQ.out.2.1.below hb HQ.out.2.1.lt, HQ.out.2.2.below hb HQ.out.2.2.lt⟩)
          clear hb a0 a1 a2 b0 b1 b2
          obtain ⟨a0, a1, a2⟩ := HQ5.out.2.1.c
          obtain ⟨b0, b1, b2⟩ := HQ5.out.2.2.c
          have ep : p k = sameB N sa ra x N sa ra k rad := by rw [HPP.out.1]
          have eq : q k = sameB N sa ra x N sb rb k rad := by rw [HPP.out.2]
          rw [← ep]
          have CBB : Hid (∀ W, Calls Tryz.prog 44 #[.agg #[.int .i64 N, .string sa, .string ra], .int .i64 x, .agg #[.int .i64 N, .string sb, .string rb], .int .i64 k, .int .i64 rad] W fun e w' => e = .returned (.bool (q k)) ∧ Below W.heap.size W w') := fun W => by rw [eq]; exact CB.out x k hxn hkn W
          clear ep eq
          by_cases h7 : p k = true
          · rw [h7]
            have HP : Hid (cnt p (k + 1) = cnt p k + 1) := cnt_yes h7
            go_wp2_with fail
            refine (l2Int_any _ _).mono ?_
            rintro e wx ⟨rfl, rfl⟩
            simp only [if_true, Bool.false_eq_true, if_false]
            go_wp2_with fail
            refine (CBB.out _).mono ?_
            rintro e w6 ⟨rfl, hb⟩
            have HQ6 := Lib.hid (show _ ∧ _ ∧ _ from ⟨HQ5.out.1.trans (hb.mono HQ5.out.1.size), HQ5.out.2.1.below hb HQ5.out.2.1.lt, HQ5.out.2.2.below hb HQ5.out.2.2.lt⟩)
            clear hb a0 a1 a2 b0 b1 b2 h7
            cases h8 : q k with
            | true =>
              have HQC : Hid (cnt q (k + 1) = cnt q k + 1) := cnt_yes h8
              clear h8
              go_wp2_with fail
              refine (l2Int_any _ _).mono ?_
              rintro e wx ⟨rfl, rfl⟩
              simp only [if_true, Bool.false_eq_true, if_false]
              go_wp2
              go_roundw
              case rel => exact ⟨k + 1, by omega, by go_num, by first | (rw [HP.out]; done) | (rw [HP.out]; first | rfl | go_num), by first | (rw [HQC.out]; done) | (rw [HQC.out]; first | rfl | go_num), HQ6.out⟩
              case measure => simp [intOf]; omega
            | false =>
              have HQC : Hid (cnt q (k + 1) = cnt q k) := cnt_no h8
              clear h8
              go_wp2_with fail
              refine (l2Int_any _ _).mono ?_
              rintro e wx ⟨rfl, rfl⟩
              simp only [if_true, Bool.false_eq_true, if_false]
              go_wp2
              go_roundw
              case rel => exact ⟨k + 1, by omega, by go_num, by first | (rw [HP.out]; done) | (rw [HP.out]; first | rfl | go_num), by first | (rw [HQC.out]; done) | (rw [HQC.out]; first | rfl | go_num), HQ6.out⟩
              case measure => simp [intOf]; omega
          · have h7 : p k = false := by simpa using h7
            rw [h7]
            have HP : Hid (cnt p (k + 1) = cnt p k) := cnt_no h7
            go_wp2_with fail
            refine (l2Int_any _ _).mono ?_
            rintro e wx ⟨rfl, rfl⟩
            simp only [if_true, Bool.false_eq_true, if_false]
            go_wp2_with fail
            refine (CBB.out _).mono ?_
            rintro e w6 ⟨rfl, hb⟩
            have HQ6 := Lib.hid (show _ ∧ _ ∧ _ from ⟨HQ5.out.1.trans (hb.mono HQ5.out.1.size), HQ5.out.2.1.below hb HQ5.out.2.1.lt, HQ5.out.2.2.below hb HQ5.out.2.2.lt⟩)
            clear hb a0 a1 a2 b0 b1 b2 h7
            cases h8 : q k with
            | true =>
              have HQC : Hid (cnt q (k + 1) = cnt q k + 1) := cnt_yes h8
              clear h8
              go_wp2_with fail
              refine (l2Int_any _ _).mono ?_
              rintro e wx ⟨rfl, rfl⟩
              simp only [if_true, Bool.false_eq_true, if_false]
              go_wp2
              go_roundw
              case rel => exact ⟨k + 1, by omega, by go_num, by first | (rw [HP.out]; done) | (rw [HP.out]; first | rfl | go_num), by first | (rw [HQC.out]; done) | (rw [HQC.out]; first | rfl | go_num), HQ6.out⟩
              case measure => simp [intOf]; omega
            | false =>
              have HQC : Hid (cnt q (k + 1) = cnt q k) := cnt_no h8
              clear h8
              go_wp2_with fail
              refine (l2Int_any _ _).mono ?_
              rintro e wx ⟨rfl, rfl⟩
              simp only [if_true, Bool.false_eq_true, if_false]
              go_wp2
              go_roundw
              case rel => exact ⟨k + 1, by omega, by go_num, by first | (rw [HP.out]; done) | (rw [HP.out]; first | rfl | go_num), by first | (rw [HQC.out]; done) | (rw [HQC.out]; first | rfl | go_num), HQ6.out⟩
              case measure => simp [intOf]; omega
        · obtain rfl : N = k := by omega
          clear hcp hcq
          obtain ⟨a0, a1, a2⟩ := HQ.out.2.1.c
          have hcp := cnt_le p N
          have hcq := cnt_le q N
          by_cases hcc : cnt p N = cnt q N
          · have HY : Hid (∀ j, j < x + 1 → balls N sa ra sb rb rad j = true) := fun j hj => by
              by_cases e : j = x
              · subst e; rw [HB.out, hcc]; simp
              · exact HYES.out j (by omega)
            have t : ((cnt p N : Int) != (cnt q N : Int)) = false := by rw [hcc]; simp
            have t2 := Lib.hid hcc
            clear hcc
            go_wp2
            go_roundw
            case rel => exact ⟨x + 1, by omega, by go_num, HY.out, HQ.out⟩
            case measure => simp [intOf]; omega
          · have HF : Hid (sbsR N sa ra N sb rb rad = false) := by rw [Hid, HE.out]; exact all_not hxn (by rw [HB.out]; simpa using hcc)
            have t : ((cnt p N : Int) != (cnt q N : Int)) = true := by simp; omega
            clear hcc
            go_wp2
            go_ret
            exact ⟨by rw [HF.out]; rfl, HQ.out.1⟩
    · obtain rfl : N = x := by omega
      have HT : Hid (sbsR N sa ra N sb rb rad = true) := by rw [Hid, HE.out]; exact all_upto HQ.out.1
      go_wp2
      go_ret
      exact ⟨by rw [HT.out]; rfl, HQ.out.2.1⟩
end Go.Proofs.YtpcnoiigbmiejaaGreatDoor.sbs
