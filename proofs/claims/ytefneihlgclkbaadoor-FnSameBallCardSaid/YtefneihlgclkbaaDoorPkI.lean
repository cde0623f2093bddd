/- Several texts in one: SameR, SameRS, PiecesS, Sbc, Sbs. -/
import Derived.Test.YtefneihlgclkbaaDoorSameI
import Derived.Test.YtefneihlgclkbaaDoorPkH
import Derived.Test.YtefneihlgclkbaaDoorPieces
import Derived.Test.YtefneihlgclkbaaDoorTwin
/- SameBall of the program. -/
namespace Go.Proofs.YtefneihlgclkbaaDoor.same
set_option linter.unusedVariables false
set_option linter.unusedSimpArgs false
open Go.ChangeShapes Go.WideShapes Go.ChangeAt Go.RowKit
open Go.Proofs.YtefneihlgclkbaaDoor.lib Go.Proofs.YtefneihlgclkbaaDoor.st Go.Proofs.YtefneihlgclkbaaDoor.base Go.Proofs.YtefneihlgclkbaaDoor.make Go.Proofs.YtefneihlgclkbaaDoor.near Go.Proofs.YtefneihlgclkbaaDoor.dist Go.Proofs.YtefneihlgclkbaaDoor.ball

/-- what SameBall returns -/
noncomputable def sameR (n : Int) (sa ra : ByteArray) (x m : Int) (sb rb : ByteArray) (y rad : Int) : Bool := elemB n sa ra x && (elemB m sb rb y && (basic.inB rad 0 100 && sameB n.toNat sa ra x.toNat m.toNat sb rb y.toNat rad))

set_option maxHeartbeats 1600000 in
theorem implSameBall_any (n : Int) (sa ra : ByteArray) (x m : Int) (sb rb : ByteArray) (y rad : Int) (w : World) (hsa : sa.size ≤ 9223372036854775807) (hra : ra.size ≤ 9223372036854775807) (hsb : sb.size ≤ 9223372036854775807) (hrb : rb.size ≤ 9223372036854775807) :
    Calls Tryd.prog 34 #[.agg #[.int .i64 n, .string sa, .string ra], .int .i64 x, .agg #[.int .i64 m, .string sb, .string rb], .int .i64 y, .int .i64 rad] w fun e w' => e = .returned (.bool (sameR n sa ra x m sb rb y rad)) ∧ Below w.heap.size w w' := by
  have B1 : Hid (Box 24 (w.alloc (.cells #[.int .i64 n, .string sa, .string ra] 24)) w.heap.size n sa ra) := Box.new _ w _ rfl _ _ _
  obtain ⟨W0, hW0⟩ : ∃ W0, W0 = (w.alloc (.cells #[.int .i64 n, .string sa, .string ra] 24)).alloc (.cells #[.int .i64 m, .string sb, .string rb] 24) := ⟨_, rfl⟩
  have BA : Hid (Box 24 W0 w.heap.size n sa ra) := by rw [hW0]; exact B1.out.below ((Below.refl _ _).alloc (Nat.le_refl _) _) B1.out.lt
  have BB : Hid (Box 24 W0 (w.heap.size + 1) m sb rb) := by rw [hW0]; exact Box.new _ _ _ (by simp) _ _ _
  have AW : Hid (Below w.heap.size w W0) := by rw [hW0]; exact ((Below.refl _ _).alloc (Nat.le_refl _) _).alloc (by simp) _
  have HW := Lib.hid hW0
  clear hW0 B1
  go_enter Tryd.func34, Tryd.ntmps34
  go_wp2_with fail
  rw [← HW.out]
  clear HW
  refine (hasElement_any n sa ra x _ (by omega) (by omega)).mono ?_
  rintro e w1 ⟨rfl, hw⟩
  have AW1 : Hid (Below w.heap.size w w1) := AW.out.trans (hw.mono AW.out.size)
  have BA1 := Lib.hid (BA.out.below hw BA.out.lt)
  have BB1 := Lib.hid (BB.out.below hw BB.out.lt)
  clear hw AW BA BB
  cases h1 : elemB n sa ra x with
  | false =>
    have HE : Hid (sameR n sa ra x m sb rb y rad = false) := by rw [Hid, sameR, h1]; rfl
    clear h1
    go_wp2
    go_ret
    exact ⟨by rw [HE.out]; rfl, AW1.out⟩
  | true =>
  obtain ⟨b0, b1, b2⟩ := BB1.out.c
  go_wp2_with fail
  refine (hasElement_any m sb rb y _ (by omega) (by omega)).mono ?_
  rintro e w2 ⟨rfl, hw⟩
  have AW2 : Hid (Below w.heap.size w w2) := AW1.out.trans (hw.mono AW1.out.size)
  have BA2 := Lib.hid (BA1.out.below hw BA1.out.lt)
  have BB2 := Lib.hid (BB1.out.below hw BB1.out.lt)
  clear hw AW1 BA1 BB1 b0 b1 b2
  cases h2 : elemB m sb rb y with
  | false =>
    have HE : Hid (sameR n sa ra x m sb rb y rad = false) := by rw [Hid, sameR, h1, h2]; rfl
    clear h1 h2
    go_wp2
    go_ret
    exact ⟨by rw [HE.out]; rfl, AW2.out⟩
  | true =>
  go_wp2_with fail
  refine (isRadius_any rad _).mono ?_
  rintro e w3 ⟨rfl, rfl⟩
  cases h3 : basic.inB rad 0 100 with
  | false =>
    have HE : Hid (sameR n sa ra x m sb rb y rad = false) := by rw [Hid, sameR, h1, h2, h3]; rfl
    clear h1 h2 h3
    go_wp2
    go_ret
    exact ⟨by rw [HE.out]; rfl, AW2.out⟩
  | true =>
  obtain ⟨N, X, rfl, rfl, hX, hN, hsN, hrN⟩ := valid_nat h1
  obtain ⟨M, Y, rfl, rfl, hY, hM, hsM, hrM⟩ := valid_nat h2
  have HE : Hid (sameR N sa ra X M sb rb Y rad = sameB N sa ra X M sb rb Y rad) := by rw [Hid, sameR, h1, h2, h3]; rfl
  have HS := Lib.hid (show _ ∧ _ ∧ _ ∧ _ from ⟨hsN, hrN, hsM, hrM⟩)
  clear h1 h2 h3 hsN hrN hsM hrM
  obtain ⟨a0, a1, a2⟩ := BA2.out.c
  obtain ⟨b0, b1, b2⟩ := BB2.out.c
  go_wp2_with fail
  refine (sameBall_any N sa ra X M sb rb Y rad _ hX hN ⟨HS.out.1, HS.out.2.1⟩ hY hM ⟨HS.out.2.2.1, HS.out.2.2.2⟩).mono ?_
  rintro e w4 ⟨rfl, hw⟩
  have AW4 : Hid (Below w.heap.size w w4) := AW2.out.trans (hw.mono AW2.out.size)
  clear hw a0 a1 a2 b0 b1 b2
  go_wp2
  go_ret
  exact ⟨by rw [HE.out]; rfl, AW4.out⟩
end Go.Proofs.YtefneihlgclkbaaDoor.same

/- SameBall of the reference. -/
namespace Go.Proofs.YtefneihlgclkbaaDoor.same
set_option linter.unusedVariables false
set_option linter.unusedSimpArgs false
open Go.ChangeShapes Go.WideShapes Go.ChangeAt Go.RowKit
open Go.Proofs.YtefneihlgclkbaaDoor.lib Go.Proofs.YtefneihlgclkbaaDoor.st Go.Proofs.YtefneihlgclkbaaDoor.base Go.Proofs.YtefneihlgclkbaaDoor.make Go.Proofs.YtefneihlgclkbaaDoor.near Go.Proofs.YtefneihlgclkbaaDoor.dist Go.Proofs.YtefneihlgclkbaaDoor.ball

set_option maxHeartbeats 1600000 in
theorem specSameBall_any (n : Int) (sa ra : ByteArray) (x m : Int) (sb rb : ByteArray) (y rad : Int) (w : World) (zn : (Lit.int .i64 n).wf = true) (zm : (Lit.int .i64 m).wf = true) (hsa : sa.size ≤ 9223372036854775807) (hra : ra.size ≤ 9223372036854775807) (hsb : sb.size ≤ 9223372036854775807) (hrb : rb.size ≤ 9223372036854775807) :
    Calls Tryd.prog 35 #[.agg #[.int .i64 n, .string sa, .string ra], .int .i64 x, .agg #[.int .i64 m, .string sb, .string rb], .int .i64 y, .int .i64 rad] w fun e w' => e = .returned (.bool (sameR n sa ra x m sb rb y rad)) ∧ Below w.heap.size w w' := by
  have B1 : Hid (Box 24 (w.alloc (.cells #[.int .i64 n, .string sa, .string ra] 24)) w.heap.size n sa ra) := Box.new _ w _ rfl _ _ _
  obtain ⟨W0, hW0⟩ : ∃ W0, W0 = (w.alloc (.cells #[.int .i64 n, .string sa, .string ra] 24)).alloc (.cells #[.int .i64 m, .string sb, .string rb] 24) := ⟨_, rfl⟩
  have BA : Hid (Box 24 W0 w.heap.size n sa ra) := by rw [hW0]; exact B1.out.below ((Below.refl _ _).alloc (Nat.le_refl _) _) B1.out.lt
  have BB : Hid (Box 24 W0 (w.heap.size + 1) m sb rb) := by rw [hW0]; exact Box.new _ _ _ (by simp) _ _ _
  have AW : Hid (Below w.heap.size w W0) := by rw [hW0]; exact ((Below.refl _ _).alloc (Nat.le_refl _) _).alloc (by simp) _
  have HW := Lib.hid hW0
  clear hW0 B1
  go_enter Tryd.func35, Tryd.ntmps35
  go_wp2_with fail
  rw [← HW.out]
  clear HW
  refine (l9Element_any n sa ra x _ zn (by omega) (by omega)).mono ?_
  rintro e w1 ⟨rfl, hw⟩
  have AW1 : Hid (Below w.heap.size w w1) := AW.out.trans (hw.mono AW.out.size)
  have BA1 := Lib.hid (BA.out.below hw BA.out.lt)
  have BB1 := Lib.hid (BB.out.below hw BB.out.lt)
  clear hw AW BA BB
  cases h1 : elemB n sa ra x with
  | false =>
    have HE : Hid (sameR n sa ra x m sb rb y rad = false) := by rw [Hid, sameR, h1]; rfl
    clear h1
    go_wp2
    go_ret
    exact ⟨by rw [HE.out]; rfl, AW1.out⟩
  | true =>
  obtain ⟨b0, b1, b2⟩ := BB1.out.c
  go_wp2_with fail
  refine (l9Element_any m sb rb y _ zm (by omega) (by omega)).mono ?_
  rintro e w2 ⟨rfl, hw⟩
  have AW2 : Hid (Below w.heap.size w w2) := AW1.out.trans (hw.mono AW1.out.size)
  have BA2 := Lib.hid (BA1.out.below hw BA1.out.lt)
  have BB2 := Lib.hid (BB1.out.below hw BB1.out.lt)
  clear hw AW1 BA1 BB1 b0 b1 b2
  cases h2 : elemB m sb rb y with
  | false =>
    have HE : Hid (sameR n sa ra x m sb rb y rad = false) := by rw [Hid, sameR, h1, h2]; rfl
    clear h1 h2
    go_wp2
    go_ret
    exact ⟨by rw [HE.out]; rfl, AW2.out⟩
  | true =>
  go_wp2_with fail
  refine (l9Radius_any rad _).mono ?_
  rintro e w3 ⟨rfl, rfl⟩
  cases h3 : basic.inB rad 0 100 with
  | false =>
    have HE : Hid (sameR n sa ra x m sb rb y rad = false) := by rw [Hid, sameR, h1, h2, h3]; rfl
    clear h1 h2 h3
    go_wp2
    go_ret
    exact ⟨by rw [HE.out]; rfl, AW2.out⟩
  | true =>
  obtain ⟨N, X, rfl, rfl, hX, hN, hsN, hrN⟩ := valid_nat h1
  obtain ⟨M, Y, rfl, rfl, hY, hM, hsM, hrM⟩ := valid_nat h2
  have HE : Hid (sameR N sa ra X M sb rb Y rad = sameB N sa ra X M sb rb Y rad) := by rw [Hid, sameR, h1, h2, h3]; rfl
  have HS := Lib.hid (show _ ∧ _ ∧ _ ∧ _ from ⟨hsN, hrN, hsM, hrM⟩)
  clear h1 h2 h3 hsN hrN hsM hrM
  obtain ⟨a0, a1, a2⟩ := BA2.out.c
  obtain ⟨b0, b1, b2⟩ := BB2.out.c
  go_wp2_with fail
  refine (l9Same_any N sa ra X M sb rb Y rad _ hX hN ⟨HS.out.1, HS.out.2.1⟩ hY hM ⟨HS.out.2.2.1, HS.out.2.2.2⟩).mono ?_
  rintro e w4 ⟨rfl, hw⟩
  have AW4 : Hid (Below w.heap.size w w4) := AW2.out.trans (hw.mono AW2.out.size)
  clear hw a0 a1 a2 b0 b1 b2
  go_wp2
  go_ret
  exact ⟨by rw [HE.out]; rfl, AW4.out⟩
end Go.Proofs.YtefneihlgclkbaaDoor.same

/- PiecesOf in the reference. -/
namespace Go.Proofs.YtefneihlgclkbaaDoor.pieces
set_option linter.unusedVariables false
set_option linter.unusedSimpArgs false
open Go.ChangeShapes Go.WideShapes Go.ChangeAt Go.RowKit
open Go.Proofs.YtefneihlgclkbaaDoor.lib Go.Proofs.YtefneihlgclkbaaDoor.st Go.Proofs.YtefneihlgclkbaaDoor.base Go.Proofs.YtefneihlgclkbaaDoor.near Go.Proofs.YtefneihlgclkbaaDoor.dist Go.Proofs.YtefneihlgclkbaaDoor.cls

theorem len0 (n : Int) (s r : ByteArray) : s.size + r.size ≤ 1048576 → (piecesR n s r).length ≤ 4194304 := by
  intro _; unfold piecesR; split
  · rename_i h
    obtain ⟨N, rfl, hN1, hN8, _⟩ := valid_size h
    have := (cls_len (conn N r) N).1
    simp only [Int.toNat_natCast]; omega
  · simp
end Go.Proofs.YtefneihlgclkbaaDoor.pieces

/- BallClasses in the program and in the reference. -/
namespace Go.Proofs.YtefneihlgclkbaaDoor.sbc
set_option linter.unusedVariables false
set_option linter.unusedSimpArgs false
open Go.ChangeShapes Go.WideShapes Go.ChangeAt Go.RowKit
open Go.Proofs.YtefneihlgclkbaaDoor.lib Go.Proofs.YtefneihlgclkbaaDoor.st Go.Proofs.YtefneihlgclkbaaDoor.base Go.Proofs.YtefneihlgclkbaaDoor.near Go.Proofs.YtefneihlgclkbaaDoor.dist Go.Proofs.YtefneihlgclkbaaDoor.cls Go.Proofs.YtefneihlgclkbaaDoor.pieces Go.Proofs.YtefneihlgclkbaaDoor.same Go.Proofs.YtefneihlgclkbaaDoor.ball
/-- what BallClasses returns -/
noncomputable def classR (n : Int) (s r : ByteArray) (rad : Int) : List Int := if validB n s r = true then (if basic.inB rad 0 100 = true then (clsOf (shp n.toNat s r rad) n.toNat).1 else []) else []

set_option maxHeartbeats 1600000 in
theorem shpCl_any (n : Nat) (s r : ByteArray) (rad : Int) (H : Nat) (y x : Nat) (w : World) (hb : Box 24 w H n s r) (hr : w.cell? ⟨H + 1, 0, none⟩ = some (.int .i64 rad)) (hy : y < n) (hx : x < n) (hn : n ≤ 8) (hs : s.size = n ∧ r.size = n * n) :
    Calls Tryd.prog 88 #[.int .i64 y, .int .i64 x, .pointer (some ⟨H, 0, none⟩), .pointer (some ⟨H + 1, 0, none⟩)] w fun e w' => e = .returned (.bool (shp n s r rad y x)) ∧ Below w.heap.size w w' := by
  obtain ⟨c0, c1, c2⟩ := hb.c
  have HS := Lib.hid hs
  clear hb hs
  go_enter Tryd.func88, Tryd.ntmps88
  go_wp2_with fail
  refine (sameBall_any n s r y n s r x rad _ hy hn HS.out hx hn HS.out).mono ?_
  rintro e w1 ⟨rfl, hw⟩
  have HW := Lib.hid hw
  clear hw
  go_wp2
  go_ret
  exact ⟨rfl, HW.out⟩

set_option maxHeartbeats 1600000 in
theorem implClasses_any (n : Int) (s r : ByteArray) (rad : Int) (w : World) (hs : s.size ≤ 9223372036854775807) (hr : r.size ≤ 9223372036854775807) :
    Calls Tryd.prog 40 #[.agg #[.int .i64 n, .string s, .string r], .int .i64 rad] w fun e w' => ∃ v, e = .returned v ∧ OwnI 3 w' w.heap.size v (classR n s r rad) ∧ Below w.heap.size w w' := by
  obtain ⟨W0, hW0⟩ : ∃ W0, W0 = (w.alloc (.cells #[.int .i64 n, .string s, .string r] 24)).alloc (.cells #[.int .i64 rad] 3) := ⟨_, rfl⟩
  have BX : Hid (Box 24 W0 w.heap.size n s r) := by rw [hW0]; exact (Box.new 24 w w.heap.size rfl n s r).below ((Below.refl _ _).alloc (Nat.le_refl _) _) (by simp)
  have CR : Hid (W0.cell? ⟨w.heap.size + 1, 0, none⟩ = some (.int .i64 rad)) := by
    obtain ⟨W1, hW1⟩ : ∃ W1, W1 = w.alloc (.cells #[.int .i64 n, .string s, .string r] 24) := ⟨_, rfl⟩
    have z1 : W1.heap.size = w.heap.size + 1 := by rw [hW1]; simp
    rw [← hW1] at hW0
    have h := heap_alloc_new W1 (.cells #[.int .i64 rad] 3)
    rw [z1] at h
    exact Lib.hid (by simp [World.cell?, hW0, h])
  have AW : Hid (Below w.heap.size w W0) := by rw [hW0]; exact ((Below.refl _ _).alloc (Nat.le_refl _) _).alloc (by simp) _
  have HW := Lib.hid hW0
  clear hW0
  go_enter Tryd.func40, Tryd.ntmps40
  go_wp2_with fail
  rw [← HW.out]
  clear HW
  refine (isStructure_any n s r _ hs hr).mono ?_
  rintro e w1 ⟨rfl, hw⟩
  have AW1 : Hid (Below w.heap.size w w1) := AW.out.trans (hw.mono AW.out.size)
  have BX1 := Lib.hid (BX.out.below hw BX.out.lt)
  have CR1 := Lib.hid (keepCell hw CR.out)
  obtain ⟨c0, c1, c2⟩ := BX1.out.c
  have cr := CR1.out
  clear hw AW BX CR
  cases hb : validB n s r with
  | false =>
    have HE : Hid (classR n s r rad = []) := by rw [Hid, classR, hb]; rfl
    clear hb
    go_wp2
    go_ret
    exact ⟨_, rfl, by rw [HE.out]; exact OwnI.nil _ _ _, AW1.out⟩
  | true =>
    go_wp2_with fail
    refine (isRadius_any rad _).mono ?_
    rintro e w2 ⟨rfl, rfl⟩
    cases hib : basic.inB rad 0 100 with
    | false =>
      have HE : Hid (classR n s r rad = []) := by rw [Hid, classR, hb, hib]; rfl
      clear hb hib
      go_wp2
      go_ret
      exact ⟨_, rfl, by rw [HE.out]; exact OwnI.nil _ _ _, AW1.out⟩
    | true =>
      obtain ⟨N, rfl, hN1, hN8, hsN, hrN⟩ := valid_size hb
      have HE : Hid (classR N s r rad = (clsOf (shp N s r rad) N).1) := by rw [Hid, classR, hb, hib]; rfl
      have HR := Lib.hid (show _ ∧ _ from ⟨hsN, hrN⟩)
      clear hb hib hsN hrN
      go_wp2_with fail
      refine (classesBy_any N hN8 88 #[.pointer (some ⟨w.heap.size, 0, none⟩), .pointer (some ⟨w.heap.size + 1, 0, none⟩)] (shp N s r rad) _ (make.enters_of Tryd.func88 (by kernel_rfl) rfl)
        (fun W hW y x hy hx => shpCl_any N s r rad w.heap.size y x W (BX1.out.below hW BX1.out.lt) (keepCell hW CR1.out) hy hx hN8 HR.out)).mono ?_
      rintro e w2 ⟨v, rfl, ho, hw⟩
      have R : Hid (OwnI 3 w2 w.heap.size v (clsOf (shp N s r rad) N).1 ∧ Below w.heap.size w w2) := ⟨ho.mono AW1.out.size, AW1.out.trans (hw.mono AW1.out.size)⟩
      clear ho hw
      go_wp2
      go_ret
      exact ⟨_, rfl, by rw [HE.out]; exact R.out.1, R.out.2⟩

/-- the state of the reference's inner loop, which goes down: the class found among those from k on -/
def AtD (p : Nat → Nat → Bool) (x k : Nat) (at_ : Int) : Prop :=
  ((∀ y, k ≤ y → y < x → p y x = false) ∧ at_ = ((clsOf p x).2 : Int)) ∨ ∃ y, y < x ∧ p y x = true ∧ at_ = (clsOf p x).1.getD y 0
theorem AtD.no {p : Nat → Nat → Bool} {x k : Nat} {c : Int} (h : AtD p x (k + 1) c) (hp : p k x = false) : AtD p x k c := by
  rcases h with ⟨h, e⟩ | h
  · refine .inl ⟨fun y h1 h2 => ?_, e⟩
    by_cases e : y = k
    · subst e; exact hp
    · exact h y (by omega) h2
  · exact .inr h
theorem AtD.yes {p : Nat → Nat → Bool} {x k : Nat} (hk : k < x) (hp : p k x = true) : AtD p x k ((clsOf p x).1.getD k 0) := .inr ⟨k, hk, hp, rfl⟩
theorem AtD.fin {p : Nat → Nat → Bool} {x : Nat} {c : Int} (h : AtD p x 0 c) : At p x x c := by
  rcases h with ⟨h, e⟩ | ⟨y, h1, h2, e⟩
  · exact .inl ⟨fun y hy => h y (by omega) hy, e⟩
  · exact .inr ⟨y, h1, h2, e⟩

set_option maxHeartbeats 3200000 in
theorem specClasses_any (n : Int) (s r : ByteArray) (rad : Int) (w : World) (hs : s.size ≤ 9223372036854775807) (hr : r.size ≤ 9223372036854775807) :
    Calls Tryd.prog 41 #[.agg #[.int .i64 n, .string s, .string r], .int .i64 rad] w fun e w' => ∃ v, e = .returned v ∧ OwnI 3 w' w.heap.size v (classR n s r rad) ∧ Below w.heap.size w w' := by
  obtain ⟨HB, hHB⟩ : ∃ HB, HB = w.heap.size + 1 := ⟨_, rfl⟩
  have BX : Hid (Box 24 (w.alloc (.cells #[.int .i64 n, .string s, .string r] 24)) w.heap.size n s r) := Box.new _ w _ rfl n s r
  have AW : Hid (Below w.heap.size w (w.alloc (.cells #[.int .i64 n, .string s, .string r] 24))) := (Below.refl _ _).alloc (Nat.le_refl _) _
  have he : Hid (OwnI 3 ((w.alloc (.cells #[.int .i64 n, .string s, .string r] 24)).alloc (.cells #[] 3)) HB (.slice (some ⟨w.heap.size + 1, 0, none⟩) 0 0) []) := emptyRow _ _ _ _ (by simp) (by omega)
  have hb0 : Hid (Below HB (w.alloc (.cells #[.int .i64 n, .string s, .string r] 24)) ((w.alloc (.cells #[.int .i64 n, .string s, .string r] 24)).alloc (.cells #[] 3))) := (Below.refl _ _).alloc (by simp; omega) _
  have HHB := Lib.hid hHB
  clear hHB
  go_enter Tryd.func41, Tryd.ntmps41
  obtain ⟨c0, c1, c2⟩ := (BX.out.below hb0.out (by have := HHB.out; omega)).c
  go_wp2_with fail
  refine (StructureValid_any n s r _ hs hr).mono ?_
  rintro e w1 ⟨rfl, hw⟩
  clear c0 c1 c2
  have HST : Hid (OwnI 3 w1 HB (.slice (some ⟨w.heap.size + 1, 0, none⟩) 0 0) [] ∧ Below HB (w.alloc (.cells #[.int .i64 n, .string s, .string r] 24)) w1) := ⟨he.out.below hw (Nat.le_refl _), hb0.out.trans (hw.mono (by have := HHB.out; simp; omega))⟩
  clear hw
  cases hb : validB n s r with
  | false =>
    have HE : Hid (classR n s r rad = []) := by rw [Hid, classR, hb]; rfl
    clear hb
    go_wp2
    go_ret
    exact ⟨_, rfl, by rw [HE.out]; exact HST.out.1.mono (by have := HHB.out; omega), AW.out.trans (HST.out.2.mono (by have := HHB.out; omega))⟩
  | true =>
    go_wp2_with fail
    refine (l9Radius_any rad _).mono ?_
    rintro e w2 ⟨rfl, rfl⟩
    cases hib : basic.inB rad 0 100 with
    | false =>
      have HE : Hid (classR n s r rad = []) := by rw [Hid, classR, hb, hib]; rfl
      clear hb hib
      go_wp2
      go_ret
      exact ⟨_, rfl, by rw [HE.out]; exact HST.out.1.mono (by have := HHB.out; omega), AW.out.trans (HST.out.2.mono (by have := HHB.out; omega))⟩
    | true =>
    obtain ⟨N, rfl, hN1, hN8, hsN, hrN⟩ := valid_size hb
    have HE : Hid (classR N s r rad = (clsOf (shp N s r rad) N).1) := by rw [Hid, classR, hb, hib]; rfl
    have HR := Lib.hid (show _ ∧ _ from ⟨hsN, hrN⟩)
    clear hb hib hsN hrN
    obtain ⟨p, hp⟩ : ∃ p, p = shp N s r rad := ⟨_, rfl⟩
    rw [← hp] at HE
    have hev : Eqv p N := by rw [hp]; exact shp_eqv N s r rad
    have CS : Hid (∀ x y, x < N → y < N → ∀ W, Calls Tryd.prog 84 #[.agg #[.int .i64 N, .string s, .string r], .int .i64 x, .agg #[.int .i64 N, .string s, .string r], .int .i64 y, .int .i64 rad] W fun e w' => e = .returned (.bool (p y x)) ∧ Below W.heap.size W w') := fun x y hx hy W => by
      have h := l9Same_any N s r x N s r y rad W hx hN8 HR.out hy hN8 HR.out
      rw [sameB_comm] at h
      rw [hp]; exact h
    have HEV := Lib.hid hev
    clear hp hev
    obtain ⟨c0, c1, c2⟩ := (BX.out.below HST.out.2 (by have := HHB.out; omega)).c
    have START : Hid (Cs p (w.alloc (.cells #[.int .i64 N, .string s, .string r] 24)) HB 0 (.slice (some ⟨w.heap.size + 1, 0, none⟩) 0 0) (.int .i64 0) w1) := ⟨_, _, rfl, rfl, HST.out.1, HST.out.2⟩
    have HSZ : Hid ((w.alloc (.cells #[.int .i64 N, .string s, .string r] 24)).heap.size = HB) := by rw [HHB.out]; simp [Hid]
    go_wp2
    go_loopw [5, 6, 7] (fun v nx i wr => ∃ x : Nat, x ≤ N ∧ i = .int .i64 x ∧ Cs p (w.alloc (.cells #[.int .i64 N, .string s, .string r] 24)) HB x v nx wr) (fun _ _ i _ => N - (intOf i).toNat)
    case atStart => exact ⟨0, Nat.zero_le _, rfl, START.out⟩
    case round =>
      clear START c0 c1 c2
      obtain ⟨x, hx, rfl, g, cap, rfl, rfl, hown, hb⟩ := hrel
      obtain ⟨c0, c1, c2⟩ := (BX.out.below hb (by have := HHB.out; omega)).c
      have HO := Lib.hid (show _ ∧ _ from ⟨hown, hb⟩)
      have HL := Lib.hid (cls_len p x)
      have hnx : (clsOf p x).2 ≤ 8 := by have := HL.out.2; omega
      obtain ⟨M, hM⟩ : ∃ M, M = (clsOf p x).2 := ⟨_, rfl⟩
      rw [← hM] at hnx ⊢
      have HM := Lib.hid hM
      clear hown hb hM
      by_cases hxn : x < N
      · go_wp2_with fail
        clear c0 c1 c2
        go_loopw [8, 9] (fun a i wr => ∃ (k : Nat) (c : Int), k ≤ x ∧ i = .int .i64 ((k : Int) - 1) ∧ a = .int .i64 c ∧ AtD p x k c ∧ OwnI 3 wr HB (.slice (some ⟨g, 0, none⟩) x cap) (clsOf p x).1 ∧ Below HB (w.alloc (.cells #[.int .i64 N, .string s, .string r] 24)) wr) (fun _ i _ => (intOf i + 1).toNat)
        case atStart => exact ⟨x, M, Nat.le_refl _, by first | rfl | go_num, rfl, .inl ⟨fun y h1 h2 => (by omega), by rw [HM.out]⟩, HO.out⟩
        case round =>
          obtain ⟨k, c, hk, rfl, rfl, hat, hown, hb⟩ := hrel
          have HAT := Lib.hid hat
          have HO2 := Lib.hid (show _ ∧ _ from ⟨hown, hb⟩)
          obtain ⟨c0, c1, c2⟩ := (BX.out.below hb (by have := HHB.out; omega)).c
          clear hat hown hb HO
          have hsz : HB ≤ wr.heap.size := by have := HO2.out.2.size; have := HSZ.out; omega
          cases k with
          | succ k =>
            have ek : ((k + 1 : Nat) : Int) - 1 = (k : Int) := by omega
            rw [ek]
            go_wp2_with fail
            refine (CS.out x k hxn (by omega) _).mono ?_
            rintro e w3 ⟨rfl, hw⟩
            have hcc := (HO2.out.1.below hw (Nat.le_refl _)).cell k (by have := HL.out.1; omega)
            obtain ⟨cc, hcc2⟩ : ∃ q, q = (clsOf p x).1.getD k 0 := ⟨_, rfl⟩
            rw [← hcc2] at hcc
            have HO3 := Lib.hid (show _ ∧ _ from ⟨HO2.out.1.below hw (Nat.le_refl _), HO2.out.2.trans (hw.mono hsz)⟩)
            clear hw c0 c1 c2
            cases hq : p k x with
            | true =>
              have R : Hid (AtD p x k cc) := by rw [hcc2]; exact AtD.yes (by omega) hq
              clear hq hcc2
              go_wp2
              go_roundw
              case rel => exact ⟨k, cc, by omega, by go_num, rfl, R.out, HO3.out⟩
              case measure => simp [intOf]
            | false =>
              have R : Hid (AtD p x k c) := HAT.out.no hq
              clear hq hcc2
              go_wp2
              go_roundw
              case rel => exact ⟨k, c, by omega, by go_num, rfl, R.out, HO3.out⟩
              case measure => simp [intOf]
          | zero =>
            have e0 : ((0 : Nat) : Int) - 1 = -1 := by omega
            rw [e0]
            rcases HAT.out.fin.fin HEV.out hxn with ⟨hc, hS⟩ | ⟨hc, hS⟩
            · have ht : ((c : Int) == (M : Int)) = true := by rw [hc, HM.out]; simp
              have HS := Lib.hid hS
              clear hc hS
              go_wp2_with (at_builtin; refine wpList_app1 wr rfl (.tmp 48) (.tmp 50) 32 rfl HB 3 (.int .i64 0) 8 Tryd.underlying32 infoInt rfl (by decide) _ _ _ (.int .i64 c) rfl HO2.out.1 wr.heap.size rfl rfl rfl (by have := HL.out.1; omega) hsz ?_)
              intro g' cap' w9 hown9 hgr
              have R : Hid (Cs p (w.alloc (.cells #[.int .i64 N, .string s, .string r] 24)) HB (x + 1) (.slice (some ⟨g', 0, none⟩) (x + 1) cap') (.int .i64 ((M + 1 : Nat) : Int)) w9) := by
                have hl := HL.out.1
                refine ⟨g', cap', rfl, by rw [HS.out, HM.out], ?_, HO2.out.2.trans (hgr.below HO2.out.1 hsz)⟩
                rw [HS.out]
                rw [hl] at hown9
                unfold OwnI
                rw [List.length_append, ivs_append, hl]
                exact hown9
              rw [HL.out.1]
              clear hown9 hgr hsz c0 c1 c2
              go_wp2
              go_roundw
              case rel => exact ⟨x + 1, by omega, by go_num, R.out⟩
              case measure => simp [intOf]; omega
            · have ht : ((c : Int) == (M : Int)) = false := by rw [HM.out]; simpa using hc
              have HS := Lib.hid hS
              clear hc hS
              go_wp2_with (at_builtin; refine wpList_app1 wr rfl (.tmp 48) (.tmp 50) 32 rfl HB 3 (.int .i64 0) 8 Tryd.underlying32 infoInt rfl (by decide) _ _ _ (.int .i64 c) rfl HO2.out.1 wr.heap.size rfl rfl rfl (by have := HL.out.1; omega) hsz ?_)
              intro g' cap' w9 hown9 hgr
              have R : Hid (Cs p (w.alloc (.cells #[.int .i64 N, .string s, .string r] 24)) HB (x + 1) (.slice (some ⟨g', 0, none⟩) (x + 1) cap') (.int .i64 M) w9) := by
                have hl := HL.out.1
                refine ⟨g', cap', rfl, by rw [HS.out, HM.out], ?_, HO2.out.2.trans (hgr.below HO2.out.1 hsz)⟩
                rw [HS.out]
                rw [hl] at hown9
                unfold OwnI
                rw [List.length_append, ivs_append, hl]
                exact hown9
              rw [HL.out.1]
              clear hown9 hgr hsz c0 c1 c2
              go_wp2
              go_roundw
              case rel => exact ⟨x + 1, by omega, by go_num, R.out⟩
              case measure => simp [intOf]; omega
      · obtain rfl : N = x := by omega
        go_wp2
        go_ret
        exact ⟨_, rfl, by rw [HE.out]; exact HO.out.1.mono (by have := HHB.out; omega), AW.out.trans (HO.out.2.mono (by have := HHB.out; omega))⟩

theorem len0 (n : Int) (s r : ByteArray) (rad : Int) : s.size + r.size ≤ 1048576 → (classR n s r rad).length ≤ 4194304 := by
  intro _; unfold classR; split
  · rename_i h
    obtain ⟨N, rfl, hN1, hN8, _⟩ := valid_size h
    split
    · have := (cls_len (shp N s r rad) N).1
      simp only [Int.toNat_natCast]; omega
    · simp
  · simp
end Go.Proofs.YtefneihlgclkbaaDoor.sbc

/- SameBalls in the program and in the reference. -/
namespace Go.Proofs.YtefneihlgclkbaaDoor.sbs
set_option linter.unusedVariables false
set_option linter.unusedSimpArgs false
open Go.ChangeShapes Go.WideShapes Go.ChangeAt Go.RowKit
open Go.Proofs.YtefneihlgclkbaaDoor.lib Go.Proofs.YtefneihlgclkbaaDoor.st Go.Proofs.YtefneihlgclkbaaDoor.base Go.Proofs.YtefneihlgclkbaaDoor.near Go.Proofs.YtefneihlgclkbaaDoor.dist Go.Proofs.YtefneihlgclkbaaDoor.pieces Go.Proofs.YtefneihlgclkbaaDoor.same Go.Proofs.YtefneihlgclkbaaDoor.ball
/-- how many of the first k a test is true of -/
def cnt (q : Nat → Bool) (k : Nat) : Nat := ((List.range k).filter q).length
theorem cnt_zero (q : Nat → Bool) : cnt q 0 = 0 := rfl
theorem cnt_yes {q : Nat → Bool} {k : Nat} (h : q k = true) : cnt q (k + 1) = cnt q k + 1 := by simp [cnt, List.range_succ, h]
theorem cnt_no {q : Nat → Bool} {k : Nat} (h : q k = false) : cnt q (k + 1) = cnt q k := by simp [cnt, List.range_succ, h]
theorem cnt_le (q : Nat → Bool) (k : Nat) : cnt q k ≤ k := by
  have := List.length_filter_le q (List.range k)
  rw [List.length_range] at this; exact this
/-- as many balls are as that of x in both -/
noncomputable def balls (n : Nat) (sa ra sb rb : ByteArray) (rad : Int) (x : Nat) : Bool := cnt (fun y => sameB n sa ra x n sa ra y rad) n == cnt (fun y => sameB n sa ra x n sb rb y rad) n
/-- what SameBalls returns -/
noncomputable def sbsR (n : Int) (sa ra : ByteArray) (m : Int) (sb rb : ByteArray) (rad : Int) : Bool :=
  validB n sa ra && (validB m sb rb && (basic.inB rad 0 100 && (decide (n = m) && (List.range n.toNat).all (balls n.toNat sa ra sb rb rad))))
theorem all_upto {f : Nat → Bool} {k : Nat} (h : ∀ j, j < k → f j = true) : (List.range k).all f = true := List.all_eq_true.2 fun j hj => h j (List.mem_range.1 hj)
theorem all_not {f : Nat → Bool} {k j : Nat} (hj : j < k) (h : f j = false) : (List.range k).all f = false := List.all_eq_false.2 ⟨j, List.mem_range.2 hj, by simp [h]⟩

end Go.Proofs.YtefneihlgclkbaaDoor.sbs
