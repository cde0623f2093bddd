/- The drawing of the arguments of SplitList and JoinLists. -/
import Derived.Test.YtpjfpiohhgoeaaaDrawL
namespace Go.Proofs.Ytpjfpiohhgoeaaa.draw
set_option linter.unusedVariables false
set_option linter.unusedSimpArgs false
open Go.ChangeShapes Go.WideShapes Go.ChangeAt Go.RowKit
open Go.Proofs.Ytpjfpiohhgoeaaa.lib Go.Proofs.Ytpjfpiohhgoeaaa.st Go.Proofs.Ytpjfpiohhgoeaaa.flow Go.Proofs.Ytpjfpiohhgoeaaa.chain

theorem Byt.up {w w' : World} {R R' : Nat} {ao : Option Addr} {len : Nat} (h : Byt w R ao len) (hR : R ≤ R') (hb : ∀ k, k < R → w'.heap[k]? = w.heap[k]?) : Byt w' R' ao len := by
  rcases h.keep hb with h | ⟨b, off, rfl, hlt, hc⟩
  · exact .inl h
  · exact .inr ⟨b, off, rfl, by omega, hc⟩

/-- what DrawSplitList leaves -/
def DrawnSplit (w : World) (e : Ending) (w' : World) : Prop :=
  ∃ (N : Nat) (s r : ByteArray) (v : Value) (l : List Int), e = .returned (.tuple #[.agg #[.int .i64 N, .string s, .string r], v]) ∧ 1 ≤ N ∧ N ≤ 8 ∧ l.length ≤ 5 ∧ (∀ x ∈ l, 0 ≤ x ∧ x < (8 : Int)) ∧ OwnI 3 w' w.heap.size v l ∧ Below w.heap.size w w'
def MidSp (w : World) (R : Nat) (ao : Option Addr) (len cap HA N j : Nat) (s r : ByteArray) (v : Value) (wr : World) : Prop :=
  ∃ (l : List Int) (p : Nat), l.length + j ≤ 4 ∧ (∀ x ∈ l, 0 ≤ x ∧ x < (8 : Int)) ∧ OwnI 3 wr (HA + 1) v l ∧ Rd wr R ao len cap p ∧ p + j ≤ 1000 ∧ Below w.heap.size w wr ∧ Box 29 wr HA N s r ∧ Box 29 wr w.heap.size 0 ⟨#[]⟩ ⟨#[]⟩

set_option maxHeartbeats 1600000 in
theorem drawSplit_any (ao : Option Addr) (len cap : Nat) (w : World) (h : Byt w w.heap.size ao len) (hc : len ≤ cap) (hm : cap ≤ 9223372036854775807) :
    Calls Try.prog 19 #[.slice ao len cap] w (DrawnSplit w) := by
  have B0 : Hid (Box 29 (w.alloc (.cells #[.int .i64 0, .string ⟨#[]⟩, .string ⟨#[]⟩] 29)) w.heap.size 0 ⟨#[]⟩ ⟨#[]⟩) := Box.new _ w _ rfl _ _ _
  have HBY := Lib.hid (Byt.up h (w' := w.alloc (.cells #[.int .i64 0, .string ⟨#[]⟩, .string ⟨#[]⟩] 29)) (R' := (w.alloc (.cells #[.int .i64 0, .string ⟨#[]⟩, .string ⟨#[]⟩] 29)).heap.size) (by simp) (fun k hk => heap_alloc_old w _ hk))
  clear h
  go_enter Try.func19, Try.ntmps19
  go_wp2_with fail
  refine (open_any ao len cap _ HBY.out hc hm).mono ?_
  rintro e w1 ⟨R, ao1, len1, cap1, rfl, hrd, hR, hb⟩
  simp only [World.size_alloc] at hR
  have HP1 := Lib.hid (show _ ∧ _ from ⟨hrd, ((Below.refl w.heap.size w).alloc (Nat.le_refl _) _).trans (hb.mono (by simp))⟩)
  have BX1 := Lib.hid (B0.out.below hb (by simp))
  clear hrd hb
  go_wp2_with fail
  refine (l10Small_any R ao1 len1 cap1 0 _ HP1.out.1 (by omega)).mono ?_
  rintro e w2 ⟨N, s, r, p2, rfl, hN1, hN2, hs, hr, hsb, hrb, hrd, hp2, hg⟩
  obtain ⟨HA, hHA⟩ : ∃ HA, HA = w2.heap.size := ⟨_, rfl⟩
  have hRA : R < HA := by rw [hHA]; exact hrd.lt
  have hwA : w.heap.size < R := by omega
  have HZ := Lib.hid (show _ ∧ _ ∧ _ ∧ _ from ⟨hs, hr, hsb, hrb⟩)
  have HP2 := Lib.hid (show _ ∧ _ ∧ _ from ⟨hrd, HP1.out.2.grown hg HP1.out.2.size (fun k hk => by cases hk; omega), Box.kept (row := some R) BX1.out hg (by simp; omega)⟩)
  have hpp : p2 ≤ 201 := by omega
  clear hs hr hsb hrb hrd hg hp2
  go_wp2_with fail
  have BXA : Hid (Box 29 (w2.alloc (.cells #[.int .i64 N, .string s, .string r] 29)) HA N s r) := by rw [hHA]; exact Box.new _ _ _ rfl _ _ _
  refine (pick_any R ao1 len1 cap1 p2 5 _ ((HP2.out.1.alloc _).alloc _) (by omega) (by omega) (by omega)).mono ?_
  rintro e w3 ⟨m, hmm, rfl, hr3, hg3⟩
  have START : Hid (MidSp w R ao1 len1 cap1 HA N m s r (.slice (some ⟨w2.heap.size + 1, 0, none⟩) 0 0) w3) := by
    refine ⟨[], p2 + 1, by simp; omega, fun x hx => (by cases hx), ?_, hr3, by omega, ?_, ?_, ?_⟩
    · exact ownKept (emptyRow _ _ _ _ (by simp) (by omega)) hg3 (by omega)
    · exact ((HP2.out.2.1.alloc (by have := HP2.out.2.1.size; omega) _).alloc (by have := HP2.out.2.1.size; simp; omega) _).grown hg3 (by have := HP2.out.2.1.size; simp; omega) (fun k hk => by cases hk; omega)
    · exact Box.kept (row := some R) (BXA.out.below ((Below.refl (HA + 1) _).alloc (by rw [hHA]; simp) _) (by omega)) hg3 (by simp; omega)
    · exact Box.kept (row := some R) ((HP2.out.2.2.below ((Below.refl HA _).alloc (by omega) _) (by omega)).below ((Below.refl HA _).alloc (by simp; omega) _) (by omega)) hg3 (by simp; omega)
  clear hr3 hg3
  subst hHA
  go_wp2_with fail
  go_loopw [6, 7] (fun v i wr => ∃ j : Nat, i = .int .i64 j ∧ j ≤ 4 ∧ MidSp w R ao1 len1 cap1 w2.heap.size N j s r v wr) (fun _ i _ => (intOf i).toNat)
  case atStart => exact ⟨m, rfl, by omega, START.out⟩
  case round =>
    clear START
    obtain ⟨j, rfl, hj, l, p, hl, hlx, hown, hrd, hpj, hbl, hbx, hb0⟩ := hrel
    have hll : l.length ≤ 4 := by omega
    have HQ := Lib.hid (show _ ∧ _ ∧ _ ∧ _ ∧ _ ∧ _ ∧ _ from ⟨hl, hlx, hown, hrd, hbl, hbx, hb0⟩)
    clear hl hlx hown hrd hbl hbx hb0
    by_cases hj0 : 0 < j
    · go_wp2_with fail
      refine (pick_any R ao1 len1 cap1 p 8 _ HQ.out.2.2.2.1 (by omega) (by omega) (by omega)).mono ?_
      rintro e w4 ⟨y, hy, rfl, hr4, hg4⟩
      have HO1 := Lib.hid (ownKept HQ.out.2.2.1 hg4 (by omega))
      have HP := Lib.hid (show _ ∧ _ ∧ _ ∧ _ from ⟨hr4, HQ.out.2.2.2.2.1.grown hg4 (by have := HQ.out.2.2.2.2.1.size; omega) (fun k hk => by cases hk; omega), Box.kept (row := some R) HQ.out.2.2.2.2.2.1 hg4 (by simp; omega), Box.kept (row := some R) HQ.out.2.2.2.2.2.2 hg4 (by simp; omega)⟩)
      have hsz : w2.heap.size + 1 ≤ w4.heap.size := HP.out.2.2.1.lt
      clear hr4 hg4
      go_wp2_with (at_builtin; refine wpList_app1 w4 rfl (.tmp 19) (.tmp 22) 26 rfl (w2.heap.size + 1) 3 (.int .i64 0) 8 Try.underlying26 infoInt rfl (by decide) _ _ _ (.int .i64 y) rfl HO1.out w4.heap.size rfl rfl rfl (by omega) hsz ?_)
      intro g cap' w9 hown9 hgr
      have R9 : Hid (MidSp w R ao1 len1 cap1 w2.heap.size N (j - 1) s r (.slice (some ⟨g, 0, none⟩) (l.length + 1) cap') w9) := by
        have hb9 : Below (w2.heap.size + 1) w4 w9 := hgr.below HO1.out hsz
        refine ⟨l ++ [(y : Int)], p + 1, by have := HQ.out.1; simp; omega, fun x hx => ?_, by unfold OwnI; rw [List.length_append, ivs_append]; exact hown9, HP.out.1.below hb9 (by omega), by omega, HP.out.2.1.trans (hb9.mono (by omega)), HP.out.2.2.1.below hb9 (by omega), HP.out.2.2.2.below hb9 (by omega)⟩
        rcases List.mem_append.1 hx with hx | hx
        · exact HQ.out.2.1 x hx
        · simp at hx; omega
      clear hown9 hgr hsz
      go_wp2
      go_roundw
      case rel => exact ⟨j - 1, by go_num, by omega, R9.out⟩
      case measure => simp [intOf]; omega
    · obtain rfl : 0 = j := by omega
      obtain ⟨b0, b1, b2⟩ := HQ.out.2.2.2.2.2.1.c
      have HF := Lib.hid (ret_struct (w := w) N s r HQ.out.2.2.2.2.2.2)
      obtain ⟨z0, z1, z2⟩ := HQ.out.2.2.2.2.2.2.c
      have g0 := HQ.out.2.2.2.2.2.2.free 0
      have g1 := HQ.out.2.2.2.2.2.2.free 1
      have g2 := HQ.out.2.2.2.2.2.2.free 2
      have RES : Hid (OwnI 3 (((wr.setCell ⟨w.heap.size, 0, none⟩ (.int .i64 N)).setCell ⟨w.heap.size, 1, none⟩ (.string s)).setCell ⟨w.heap.size, 2, none⟩ (.string r)) w.heap.size u6 l ∧ Below w.heap.size w (((wr.setCell ⟨w.heap.size, 0, none⟩ (.int .i64 N)).setCell ⟨w.heap.size, 1, none⟩ (.string s)).setCell ⟨w.heap.size, 2, none⟩ (.string r))) :=
        ⟨(ownKept (ownKept (ownKept HQ.out.2.2.1 (grown_setCell _ _ _ _) (by omega)) (grown_setCell _ _ _ _) (by omega)) (grown_setCell _ _ _ _) (by omega)).mono (by omega), Below.setCell (Below.setCell (Below.setCell HQ.out.2.2.2.2.1 (by simp) _) (by simp) _) (by simp) _⟩
      go_wp2
      exact bodyPost_ret (v := .tuple #[.agg #[.int .i64 N, .string s, .string r], u6]) (by simp [results, Try.results19, go_sem, HF.out.1, HF.out.2.1, HF.out.2.2]) rfl ⟨N, s, r, _, l, rfl, hN1, hN2, by omega, HQ.out.2.1, RES.out.1, RES.out.2⟩

/-- what DrawJoinLists leaves -/
def DrawnJoin (w : World) (e : Ending) (w' : World) : Prop :=
  ∃ (N : Nat) (s r : ByteArray) (v1 v2 : Value) (l1 l2 : List Int), e = .returned (.tuple #[.agg #[.int .i64 N, .string s, .string r], v1, v2]) ∧ 1 ≤ N ∧ N ≤ 8 ∧ l1.length ≤ 5 ∧ l2.length ≤ 5 ∧ (∀ x ∈ l1, 0 ≤ x ∧ x < (N : Int)) ∧ (∀ x ∈ l2, 0 ≤ x ∧ x < (N : Int)) ∧ OwnI 3 w' w.heap.size v1 l1 ∧ OwnI 3 w' w.heap.size v2 l2 ∧ Below w.heap.size w w'

set_option maxHeartbeats 1600000 in
theorem drawJoin_any (ao : Option Addr) (len cap : Nat) (w : World) (h : Byt w w.heap.size ao len) (hc : len ≤ cap) (hm : cap ≤ 9223372036854775807) :
    Calls Try.prog 20 #[.slice ao len cap] w (DrawnJoin w) := by
  have B0 : Hid (Box 29 (w.alloc (.cells #[.int .i64 0, .string ⟨#[]⟩, .string ⟨#[]⟩] 29)) w.heap.size 0 ⟨#[]⟩ ⟨#[]⟩) := Box.new _ w _ rfl _ _ _
  have HBY := Lib.hid (Byt.up h (w' := w.alloc (.cells #[.int .i64 0, .string ⟨#[]⟩, .string ⟨#[]⟩] 29)) (R' := (w.alloc (.cells #[.int .i64 0, .string ⟨#[]⟩, .string ⟨#[]⟩] 29)).heap.size) (by simp) (fun k hk => heap_alloc_old w _ hk))
  clear h
  go_enter Try.func20, Try.ntmps20
  go_wp2_with fail
  refine (open_any ao len cap _ HBY.out hc hm).mono ?_
  rintro e w1 ⟨R, ao1, len1, cap1, rfl, hrd, hR, hb⟩
  simp only [World.size_alloc] at hR
  have HP1 := Lib.hid (show _ ∧ _ from ⟨hrd, ((Below.refl w.heap.size w).alloc (Nat.le_refl _) _).trans (hb.mono (by simp))⟩)
  have BX1 := Lib.hid (B0.out.below hb (by simp))
  clear hrd hb
  go_wp2_with fail
  refine (l10Small_any R ao1 len1 cap1 0 _ HP1.out.1 (by omega)).mono ?_
  rintro e w2 ⟨N, s, r, p2, rfl, hN1, hN2, hs, hr, hsb, hrb, hrd, hp2, hg⟩
  obtain ⟨HA, hHA⟩ : ∃ HA, HA = w2.heap.size := ⟨_, rfl⟩
  have hRA : R < HA := by rw [hHA]; exact hrd.lt
  have hwA : w.heap.size < R := by omega
  have HZ := Lib.hid (show _ ∧ _ ∧ _ ∧ _ from ⟨hs, hr, hsb, hrb⟩)
  have HP2 := Lib.hid (show _ ∧ _ ∧ _ from ⟨hrd, HP1.out.2.grown hg HP1.out.2.size (fun k hk => by cases hk; omega), Box.kept (row := some R) BX1.out hg (by simp; omega)⟩)
  have hpp : p2 ≤ 201 := by omega
  clear hs hr hsb hrb hrd hg hp2
  have BXA : Hid (Box 29 (w2.alloc (.cells #[.int .i64 N, .string s, .string r] 29)) HA N s r) := by rw [hHA]; exact Box.new _ _ _ rfl _ _ _
  obtain ⟨w3, hw3⟩ : ∃ q, q = w2.alloc (.cells #[.int .i64 N, .string s, .string r] 29) := ⟨_, rfl⟩
  have HP3 : Hid (Rd w3 R ao1 len1 cap1 p2 ∧ Below w.heap.size w w3 ∧ Box 29 w3 w.heap.size 0 ⟨#[]⟩ ⟨#[]⟩ ∧ Box 29 w3 HA N s r) := by
    rw [hw3]
    exact ⟨HP2.out.1.alloc _, HP2.out.2.1.alloc (by have := HP2.out.2.1.size; omega) _, HP2.out.2.2.below ((Below.refl HA _).alloc (by omega) _) (by omega), BXA.out⟩
  go_wp2_with fail
  rw [← hw3, ← hHA]
  clear hw3 hHA BXA
  have c0 : ∀ X : Wd (fun X => X.cell? ⟨HA, 0, none⟩ = some (.int .i64 N) ∧ X.cell? ⟨HA, 1, none⟩ = some (.string s) ∧ X.cell? ⟨HA, 2, none⟩ = some (.string r)), X.w.cell? ⟨HA, 0, none⟩ = some (.int .i64 N) := fun X => X.ok.1
  have c1 : ∀ X : Wd (fun X => X.cell? ⟨HA, 0, none⟩ = some (.int .i64 N) ∧ X.cell? ⟨HA, 1, none⟩ = some (.string s) ∧ X.cell? ⟨HA, 2, none⟩ = some (.string r)), X.w.cell? ⟨HA, 1, none⟩ = some (.string s) := fun X => X.ok.2.1
  have c2 : ∀ X : Wd (fun X => X.cell? ⟨HA, 0, none⟩ = some (.int .i64 N) ∧ X.cell? ⟨HA, 1, none⟩ = some (.string s) ∧ X.cell? ⟨HA, 2, none⟩ = some (.string r)), X.w.cell? ⟨HA, 2, none⟩ = some (.string r) := fun X => X.ok.2.2
  have hne : Nonempty (Wd (fun X => X.cell? ⟨HA, 0, none⟩ = some (.int .i64 N) ∧ X.cell? ⟨HA, 1, none⟩ = some (.string s) ∧ X.cell? ⟨HA, 2, none⟩ = some (.string r))) := ⟨⟨w3, HP3.out.2.2.2.c⟩⟩
  refine chain (S := (fun X => X.cell? ⟨HA, 0, none⟩ = some (.int .i64 N) ∧ X.cell? ⟨HA, 1, none⟩ = some (.string s) ∧ X.cell? ⟨HA, 2, none⟩ = some (.string r))) [([true, true, true, true, false, false, true, true, true], 4), ([], 5), ([], 9), ([], 10), ([], 11)] [false, false, false, false, false, false, false, false, false, false, false, false, true, true] (by kernel_rfl) (by kernel_rfl) (by kernel_rfl) HP3.out.2.2.2.c ?_
  simp only [wpSegs, pickB, List.dropLast_cons_cons, List.dropLast_singleton, List.getLast?_cons_cons, List.getLast?_singleton, List.toList_toArray, List.getElem?_toArray, List.getElem?_cons_succ, List.getElem?_cons_zero, Option.toList_some]
  repeat (go_big_quiet_step (fail))
  refine wpQuiet_nil ?_
  intro K hK
  go_wp2_with fail
  have HD := Lib.hid (show Rd w3.drew R ao1 len1 cap1 p2 ∧ Below w.heap.size w w3.drew ∧ Box 29 w3.drew w.heap.size 0 ⟨#[]⟩ ⟨#[]⟩ ∧ Box 29 w3.drew HA N s r from ⟨HP3.out.1.drew, HP3.out.2.1.drew, Box.drew HP3.out.2.2.1, Box.drew HP3.out.2.2.2⟩)
  refine (pick_any R ao1 len1 cap1 p2 3 _ HD.out.1 (by omega) (by omega) (by omega)).mono ?_
  rintro e w4 ⟨y1, hy1, rfl, hrn, hgn⟩
  have HP4 := Lib.hid (show _ ∧ _ ∧ _ ∧ _ from ⟨hrn, HD.out.2.1.grown hgn (by have := HD.out.2.1.size; omega) (fun k hk => by cases hk; omega), Box.kept (row := some R) HD.out.2.2.1 hgn (by simp; omega), Box.kept (row := some R) HD.out.2.2.2 hgn (by simp; omega)⟩)
  clear hrn hgn
  go_wp2_with fail
  refine hK _ _ HP4.out.2.2.2.c ?_
  clear hK K
  repeat (go_big_quiet_step (fail))
  refine wpQuiet_nil ?_
  intro K hK
  go_wp2_with fail
  refine (l4Some_any R ao1 len1 cap1 (p2 + 1) y1 N s r _ HP4.out.1 (by omega) (by omega) hN1 hN2).mono ?_
  rintro e w5 ⟨v1, l1, rfl, hl1, hx1, ho1, hrn, hgn⟩
  have HP5 := Lib.hid (show _ ∧ _ ∧ _ ∧ _ from ⟨hrn, HP4.out.2.1.grown hgn (by have := HP4.out.2.1.size; omega) (fun k hk => by cases hk; omega), Box.kept (row := some R) HP4.out.2.2.1 hgn (by simp; omega), Box.kept (row := some R) HP4.out.2.2.2 hgn (by simp; omega)⟩)
  have O1 := Lib.hid (show _ ∧ _ ∧ _ from ⟨ho1.mono (show HA + 1 ≤ _ from HP4.out.2.2.2.lt), hl1, hx1⟩)
  clear hrn hgn ho1 hl1 hx1
  go_wp2_with fail
  refine hK _ _ HP5.out.2.2.2.c ?_
  clear hK K
  repeat (go_big_quiet_step (fail))
  refine wpQuiet_nil ?_
  intro K hK
  go_wp2_with fail
  refine (pick_any R ao1 len1 cap1 (p2 + 1 + y1) 3 _ HP5.out.1 (by omega) (by omega) (by omega)).mono ?_
  rintro e w6 ⟨y2, hy2, rfl, hrn, hgn⟩
  have HP6 := Lib.hid (show _ ∧ _ ∧ _ ∧ _ from ⟨hrn, HP5.out.2.1.grown hgn (by have := HP5.out.2.1.size; omega) (fun k hk => by cases hk; omega), Box.kept (row := some R) HP5.out.2.2.1 hgn (by simp; omega), Box.kept (row := some R) HP5.out.2.2.2 hgn (by simp; omega)⟩)
  have O1b := Lib.hid (ownKept O1.out.1 hgn (by omega))
  clear hrn hgn
  go_wp2_with fail
  refine hK _ _ HP6.out.2.2.2.c ?_
  clear hK K
  repeat (go_big_quiet_step (fail))
  refine wpQuiet_nil ?_
  intro K hK
  go_wp2_with fail
  refine (l4Some_any R ao1 len1 cap1 (p2 + 1 + y1 + 1) y2 N s r _ HP6.out.1 (by omega) (by omega) hN1 hN2).mono ?_
  rintro e w7 ⟨v2, l2, rfl, hl2, hx2, ho2, hrn, hgn⟩
  have HP7 := Lib.hid (show _ ∧ _ ∧ _ ∧ _ from ⟨hrn, HP6.out.2.1.grown hgn (by have := HP6.out.2.1.size; omega) (fun k hk => by cases hk; omega), Box.kept (row := some R) HP6.out.2.2.1 hgn (by simp; omega), Box.kept (row := some R) HP6.out.2.2.2 hgn (by simp; omega)⟩)
  have O1c := Lib.hid (ownKept O1b.out hgn (by omega))
  have O2 := Lib.hid (show _ ∧ _ ∧ _ from ⟨ho2.mono (show HA + 1 ≤ _ from HP6.out.2.2.2.lt), hl2, hx2⟩)
  clear hrn hgn ho2 hl2 hx2
  go_wp2_with fail
  refine hK _ _ HP7.out.2.2.2.c ?_
  clear hK K
  obtain ⟨z0, z1, z2⟩ := HP7.out.2.2.1.c
  have g0 := HP7.out.2.2.1.free 0
  have g1 := HP7.out.2.2.1.free 1
  have g2 := HP7.out.2.2.1.free 2
  repeat (go_big_quiet_step (fail))
  refine wpQuiet_nil ?_
  intro K hK
  go_wp2_with fail
  refine hK _ _ (Box.kept (row := some w.heap.size) (Box.kept (row := some w.heap.size) (Box.kept (row := some w.heap.size) HP7.out.2.2.2 (grown_setCell _ _ _ _) (by simp; omega)) (grown_setCell _ _ _ _) (by simp; omega)) (grown_setCell _ _ _ _) (by simp; omega)).c ?_
  clear hK K
  repeat (go_big_quiet_step (fail))
  refine wpQuiet_nil ?_
  have HF := Lib.hid (ret_struct (w := w) N s r HP7.out.2.2.1)
  have RES : Hid (OwnI 3 (((w7.setCell ⟨w.heap.size, 0, none⟩ (.int .i64 N)).setCell ⟨w.heap.size, 1, none⟩ (.string s)).setCell ⟨w.heap.size, 2, none⟩ (.string r)) w.heap.size v1 l1 ∧ OwnI 3 (((w7.setCell ⟨w.heap.size, 0, none⟩ (.int .i64 N)).setCell ⟨w.heap.size, 1, none⟩ (.string s)).setCell ⟨w.heap.size, 2, none⟩ (.string r)) w.heap.size v2 l2 ∧ Below w.heap.size w (((w7.setCell ⟨w.heap.size, 0, none⟩ (.int .i64 N)).setCell ⟨w.heap.size, 1, none⟩ (.string s)).setCell ⟨w.heap.size, 2, none⟩ (.string r))) :=
    ⟨(ownKept (ownKept (ownKept O1c.out (grown_setCell _ _ _ _) (by omega)) (grown_setCell _ _ _ _) (by omega)) (grown_setCell _ _ _ _) (by omega)).mono (by omega),
     (ownKept (ownKept (ownKept O2.out.1 (grown_setCell _ _ _ _) (by omega)) (grown_setCell _ _ _ _) (by omega)) (grown_setCell _ _ _ _) (by omega)).mono (by omega),
     Below.setCell (Below.setCell (Below.setCell HP7.out.2.1 (by simp) _) (by simp) _) (by simp) _⟩
  go_wp2
  exact bodyPost_ret (v := .tuple #[.agg #[.int .i64 N, .string s, .string r], v1, v2]) (by simp [results, Try.results20, go_sem, HF.out.1, HF.out.2.1, HF.out.2.2]) rfl ⟨N, s, r, v1, v2, l1, l2, rfl, hN1, hN2, by have := O1.out.2.1; omega, by have := O2.out.2.1; omega, O1.out.2.2, O2.out.2.2, RES.out.1, RES.out.2.1, RES.out.2.2⟩
end Go.Proofs.Ytpjfpiohhgoeaaa.draw
