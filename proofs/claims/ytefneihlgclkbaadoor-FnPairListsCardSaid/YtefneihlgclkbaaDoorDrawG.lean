/- The drawing of two structures that are sometimes not valid: l10Pair, DrawOrderedSum, DrawDisjointSum, DrawProductOf. -/
import Derived.Test.YtefneihlgclkbaaDoorPkD
namespace Go.Proofs.YtefneihlgclkbaaDoor.draw
set_option linter.unusedVariables false
set_option linter.unusedSimpArgs false
open Go.ChangeShapes Go.WideShapes Go.ChangeAt Go.RowKit
open Go.Proofs.YtefneihlgclkbaaDoor.lib Go.Proofs.YtefneihlgclkbaaDoor.st Go.Proofs.YtefneihlgclkbaaDoor.flow Go.Proofs.YtefneihlgclkbaaDoor.chain

theorem box_other {T : TypeId} {w : World} {H k j : Nat} {n : Int} {s r : ByteArray} {u : Value} (h : Box T w H n s r) (hne : H ≠ k) : Box T (w.setCell ⟨k, j, none⟩ u) H n s r :=
  Box.kept (row := some k) h (grown_setCell _ _ _ _) (fun e => hne (Option.some.inj e).symm)
theorem box_others {T : TypeId} {w : World} {H k : Nat} {n : Int} {s r : ByteArray} {u0 u1 u2 : Value} (h : Box T w H n s r) (hne : H ≠ k) : Box T (((w.setCell ⟨k, 0, none⟩ u0).setCell ⟨k, 1, none⟩ u1).setCell ⟨k, 2, none⟩ u2) H n s r :=
  box_other (box_other (box_other h hne) hne) hne
theorem rd_sets {w : World} {R : Nat} {ao : Option Addr} {len cap p : Nat} (h : Rd w R ao len cap p) {b : Nat} {u0 u1 u2 : Value} (hb : R < b) : Rd (((w.setCell ⟨b, 0, none⟩ u0).setCell ⟨b, 1, none⟩ u1).setCell ⟨b, 2, none⟩ u2) R ao len cap p := ((h.setNew hb).setNew hb).setNew hb
theorem grown_sets {w w' : World} {row : Option Nat} (h : w.grownBy w' row) {b : Nat} {u0 u1 u2 : Value} (hb : w.heap.size ≤ b) : w.grownBy (((w'.setCell ⟨b, 0, none⟩ u0).setCell ⟨b, 1, none⟩ u1).setCell ⟨b, 2, none⟩ u2) row := grown_new (grown_new (grown_new h hb) hb) hb
/-- what the drawing of two structures leaves -/
def DrawnP (w : World) (R : Nat) (ao : Option Addr) (len cap P : Nat) (e : Ending) (w' : World) : Prop :=
  ∃ (n : Int) (s r : ByteArray) (m : Int) (t q : ByteArray) (p : Nat), e = .returned (.tuple #[.agg #[.int .i64 n, .string s, .string r], .agg #[.int .i64 m, .string t, .string q]]) ∧ (Lit.int .i64 n).wf = true ∧ s.size ≤ 100 ∧ r.size ≤ 100 ∧ (Lit.int .i64 m).wf = true ∧ t.size ≤ 100 ∧ q.size ≤ 100 ∧ Rd w' R ao len cap p ∧ p ≤ P ∧ w.grownBy w' (some R)
/-- what the drawing of two structures out of bytes leaves -/
def DrawnQ (w : World) (e : Ending) (w' : World) : Prop :=
  ∃ (n : Int) (s r : ByteArray) (m : Int) (t q : ByteArray), e = .returned (.tuple #[.agg #[.int .i64 n, .string s, .string r], .agg #[.int .i64 m, .string t, .string q]]) ∧ (Lit.int .i64 n).wf = true ∧ s.size ≤ 100 ∧ r.size ≤ 100 ∧ (Lit.int .i64 m).wf = true ∧ t.size ≤ 100 ∧ q.size ≤ 100 ∧ Below w.heap.size w w'

set_option maxHeartbeats 6400000 in
set_option maxRecDepth 100000 in
theorem l10Pair_any (R : Nat) (ao : Option Addr) (len cap p : Nat) (w : World) (h : Rd w R ao len cap p) (hp : p ≤ 80000000) :
    Calls Tryd.prog 44 #[.pointer (some ⟨R, 0, none⟩)] w (DrawnP w R ao len cap (p + 700)) := by
  have hRl := h.lt
  have H := Lib.hid h
  have BA : Hid (Box 24 ((w.alloc (.cells #[.int .i64 0, .string ⟨#[]⟩, .string ⟨#[]⟩] 24)).alloc (.cells #[.int .i64 0, .string ⟨#[]⟩, .string ⟨#[]⟩] 24)) w.heap.size 0 ⟨#[]⟩ ⟨#[]⟩) := (Box.new 24 w w.heap.size rfl 0 ⟨#[]⟩ ⟨#[]⟩).below ((Below.refl (w.heap.size + 1) _).alloc (by simp) _) (by omega)
  have BB : Hid (Box 24 ((w.alloc (.cells #[.int .i64 0, .string ⟨#[]⟩, .string ⟨#[]⟩] 24)).alloc (.cells #[.int .i64 0, .string ⟨#[]⟩, .string ⟨#[]⟩] 24)) (w.heap.size + 1) 0 ⟨#[]⟩ ⟨#[]⟩) := Box.new 24 _ (w.heap.size + 1) (by simp) 0 ⟨#[]⟩ ⟨#[]⟩
  clear h
  go_enter Tryd.func44, Tryd.ntmps44
  go_wp2_with fail
  refine (l10Small_any R ao len cap p _ ((H.out.alloc _).alloc _) (by omega)).mono ?_
  rintro e w1 ⟨N, s, r, p1, rfl, hN1, hN2, hs, hr, -, -, hrd, hp1, hg⟩
  have hNN : 1 ≤ r.size ∧ r.size ≤ 64 := by
    rw [hr]; exact ⟨Nat.mul_le_mul hN1 hN1, Nat.mul_le_mul hN2 hN2⟩
  have hz1 : w.heap.size + 1 < w1.heap.size := by have := hg.size; simp at this; omega
  have AC : Below w1.heap.size w1 (w1.alloc (.cells #[.int .i64 N, .string s, .string r] 24)) := (Below.refl w1.heap.size _).alloc (Nat.le_refl _) _
  have HP := Lib.hid (show _ ∧ _ ∧ _ ∧ _ ∧ _ from ⟨hrd.alloc (.cells #[.int .i64 N, .string s, .string r] 24), grown_alloc (grown_trans (grown_alloc (World.grownBy_alloc w _ _) _) hg) (.cells #[.int .i64 N, .string s, .string r] 24), (Box.kept (row := some R) BA.out hg (by simp; omega)).below AC (by omega), (Box.kept (row := some R) BB.out hg (by simp; omega)).below AC hz1, Box.new 24 w1 w1.heap.size rfl N s r⟩)
  clear hrd hg hr BA BB AC
  go_wp2_with fail
  refine (l10Small_any R ao len cap p1 _ HP.out.1 (by omega)).mono ?_
  rintro e w2 ⟨M, t, q, p2, rfl, hM1, hM2, ht, hq, -, -, hrd, hp2, hg⟩
  have hMM : 1 ≤ q.size ∧ q.size ≤ 64 := by
    rw [hq]; exact ⟨Nat.mul_le_mul hM1 hM1, Nat.mul_le_mul hM2 hM2⟩
  have hz2 : w1.heap.size < w2.heap.size := by have := hg.size; simp at this; omega
  have ADD : Below w2.heap.size w2 (w2.alloc (.cells #[.int .i64 M, .string t, .string q] 24)) := (Below.refl w2.heap.size _).alloc (Nat.le_refl _) _
  have HP2 := Lib.hid (show _ ∧ _ ∧ _ ∧ _ ∧ _ ∧ _ from ⟨hrd.alloc (.cells #[.int .i64 M, .string t, .string q] 24), grown_alloc (grown_trans HP.out.2.1 hg) (.cells #[.int .i64 M, .string t, .string q] 24), (Box.kept (row := some R) HP.out.2.2.1 hg (by simp; omega)).below ADD (by omega), (Box.kept (row := some R) HP.out.2.2.2.1 hg (by simp; omega)).below ADD (by omega), (Box.kept (row := some R) HP.out.2.2.2.2 hg (by simp; omega)).below ADD hz2, Box.new 24 w2 w2.heap.size rfl M t q⟩)
  clear hrd hg hq HP ADD
  go_wp2_with fail
  refine (pick_any R ao len cap p2 8 _ HP2.out.1 (by omega) (by omega) (by omega)).mono ?_
  rintro e w3 ⟨v, hv, rfl, hrd, hg⟩
  have HP3 := Lib.hid (show _ ∧ _ ∧ _ ∧ _ ∧ _ ∧ _ from ⟨hrd, grown_trans HP2.out.2.1 hg, Box.kept (row := some R) HP2.out.2.2.1 hg (by simp; omega), Box.kept (row := some R) HP2.out.2.2.2.1 hg (by simp; omega), Box.kept (row := some R) HP2.out.2.2.2.2.1 hg (by simp; omega), Box.kept (row := some R) HP2.out.2.2.2.2.2 hg (by simp; omega)⟩)
  clear hrd hg HP2
  by_cases hv0 : v = 0
  · subst hv0
    obtain ⟨d0, d1, d2⟩ := Box.c HP3.out.2.2.2.2.2
    have g0 := Box.free HP3.out.2.2.2.2.2 0
    have g1 := Box.free HP3.out.2.2.2.2.2 1
    have g2 := Box.free HP3.out.2.2.2.2.2 2
    clear d0 d1 d2 g0 g1 g2
    go_wp2_with fail
    refine (l1Some_any R ao len cap (p2 + 1) _ HP3.out.1 (by omega)).mono ?_
    rintro e w4 ⟨M', t', q', p4, rfl, hM1', hM2', ht', hq', -, -, hrd, hp4, hg⟩
    have HP4 := Lib.hid (show _ ∧ _ ∧ _ ∧ _ ∧ _ ∧ _ from ⟨hrd, grown_trans HP3.out.2.1 hg, Box.kept (row := some R) HP3.out.2.2.1 hg (by simp; omega), Box.kept (row := some R) HP3.out.2.2.2.1 hg (by simp; omega), Box.kept (row := some R) HP3.out.2.2.2.2.1 hg (by simp; omega), Box.kept (row := some R) HP3.out.2.2.2.2.2 hg (by simp; omega)⟩)
    clear hrd hg HP3 hMM hM1 hM2 ht
    have hMM : 1 ≤ q'.size ∧ q'.size ≤ 64 := by
      rw [hq']; exact ⟨Nat.mul_le_mul hM1' hM1', Nat.mul_le_mul hM2' hM2'⟩
    have HZ := Lib.hid (show _ ∧ _ ∧ _ ∧ _ from ⟨hM1', hM2', ht', hMM⟩)
    have HP5 := Lib.hid (show _ ∧ _ ∧ _ ∧ _ ∧ _ ∧ _ from ⟨rd_sets (u0 := .int .i64 M') (u1 := .string t') (u2 := .string q') HP4.out.1 (show R < w2.heap.size by omega), grown_sets (u0 := .int .i64 M') (u1 := .string t') (u2 := .string q') HP4.out.2.1 (show w.heap.size ≤ w2.heap.size by omega), box_others (u0 := .int .i64 M') (u1 := .string t') (u2 := .string q') HP4.out.2.2.1 (show w.heap.size ≠ w2.heap.size by omega), box_others (u0 := .int .i64 M') (u1 := .string t') (u2 := .string q') HP4.out.2.2.2.1 (show w.heap.size + 1 ≠ w2.heap.size by omega), box_others (u0 := .int .i64 M') (u1 := .string t') (u2 := .string q') HP4.out.2.2.2.2.1 (show w1.heap.size ≠ w2.heap.size by omega), ((HP4.out.2.2.2.2.2.set0 M').set1 t').set2 q'⟩)
    obtain ⟨d0, d1, d2⟩ := Box.c HP4.out.2.2.2.2.2
    have g0 := Box.free HP4.out.2.2.2.2.2 0
    have g1 := Box.free HP4.out.2.2.2.2.2 1
    have g2 := Box.free HP4.out.2.2.2.2.2 2
    clear hM1' hM2' ht' hq' hMM
    go_upto_region 5 with (fail)
    clear d0 d1 d2 g0 g1 g2
    obtain ⟨W5, hW5⟩ : ∃ W5, W5 = (((w4.setCell ⟨w2.heap.size, 0, none⟩ (.int .i64 M')).setCell ⟨w2.heap.size, 1, none⟩ (.string t')).setCell ⟨w2.heap.size, 2, none⟩ (.string q')) := ⟨_, rfl⟩
    rw [← hW5] at HP5 ⊢
    clear hW5 HP4
    have hM2 := HZ.out.2.1
    have ht := HZ.out.2.2.1
    have hMM := HZ.out.2.2.2
    obtain ⟨c0, c1, c2⟩ := Box.c HP5.out.2.2.2.2.1
    obtain ⟨d0, d1, d2⟩ := Box.c HP5.out.2.2.2.2.2
    have q0 : ∀ QQ : Wd (fun X => X.cell? ⟨w1.heap.size, 0, none⟩ = some (.int .i64 N) ∧ X.cell? ⟨w1.heap.size, 1, none⟩ = some (.string s) ∧ X.cell? ⟨w1.heap.size, 2, none⟩ = some (.string r) ∧ X.cell? ⟨w2.heap.size, 0, none⟩ = some (.int .i64 M') ∧ X.cell? ⟨w2.heap.size, 1, none⟩ = some (.string t') ∧ X.cell? ⟨w2.heap.size, 2, none⟩ = some (.string q')), QQ.w.cell? ⟨w1.heap.size, 0, none⟩ = some (.int .i64 N) := fun QQ => QQ.ok.1
    have q1 : ∀ QQ : Wd (fun X => X.cell? ⟨w1.heap.size, 0, none⟩ = some (.int .i64 N) ∧ X.cell? ⟨w1.heap.size, 1, none⟩ = some (.string s) ∧ X.cell? ⟨w1.heap.size, 2, none⟩ = some (.string r) ∧ X.cell? ⟨w2.heap.size, 0, none⟩ = some (.int .i64 M') ∧ X.cell? ⟨w2.heap.size, 1, none⟩ = some (.string t') ∧ X.cell? ⟨w2.heap.size, 2, none⟩ = some (.string q')), QQ.w.cell? ⟨w1.heap.size, 1, none⟩ = some (.string s) := fun QQ => QQ.ok.2.1
    have q2 : ∀ QQ : Wd (fun X => X.cell? ⟨w1.heap.size, 0, none⟩ = some (.int .i64 N) ∧ X.cell? ⟨w1.heap.size, 1, none⟩ = some (.string s) ∧ X.cell? ⟨w1.heap.size, 2, none⟩ = some (.string r) ∧ X.cell? ⟨w2.heap.size, 0, none⟩ = some (.int .i64 M') ∧ X.cell? ⟨w2.heap.size, 1, none⟩ = some (.string t') ∧ X.cell? ⟨w2.heap.size, 2, none⟩ = some (.string q')), QQ.w.cell? ⟨w1.heap.size, 2, none⟩ = some (.string r) := fun QQ => QQ.ok.2.2.1
    have q3 : ∀ QQ : Wd (fun X => X.cell? ⟨w1.heap.size, 0, none⟩ = some (.int .i64 N) ∧ X.cell? ⟨w1.heap.size, 1, none⟩ = some (.string s) ∧ X.cell? ⟨w1.heap.size, 2, none⟩ = some (.string r) ∧ X.cell? ⟨w2.heap.size, 0, none⟩ = some (.int .i64 M') ∧ X.cell? ⟨w2.heap.size, 1, none⟩ = some (.string t') ∧ X.cell? ⟨w2.heap.size, 2, none⟩ = some (.string q')), QQ.w.cell? ⟨w2.heap.size, 0, none⟩ = some (.int .i64 M') := fun QQ => QQ.ok.2.2.2.1
    have q4 : ∀ QQ : Wd (fun X => X.cell? ⟨w1.heap.size, 0, none⟩ = some (.int .i64 N) ∧ X.cell? ⟨w1.heap.size, 1, none⟩ = some (.string s) ∧ X.cell? ⟨w1.heap.size, 2, none⟩ = some (.string r) ∧ X.cell? ⟨w2.heap.size, 0, none⟩ = some (.int .i64 M') ∧ X.cell? ⟨w2.heap.size, 1, none⟩ = some (.string t') ∧ X.cell? ⟨w2.heap.size, 2, none⟩ = some (.string q')), QQ.w.cell? ⟨w2.heap.size, 1, none⟩ = some (.string t') := fun QQ => QQ.ok.2.2.2.2.1
    have q5 : ∀ QQ : Wd (fun X => X.cell? ⟨w1.heap.size, 0, none⟩ = some (.int .i64 N) ∧ X.cell? ⟨w1.heap.size, 1, none⟩ = some (.string s) ∧ X.cell? ⟨w1.heap.size, 2, none⟩ = some (.string r) ∧ X.cell? ⟨w2.heap.size, 0, none⟩ = some (.int .i64 M') ∧ X.cell? ⟨w2.heap.size, 1, none⟩ = some (.string t') ∧ X.cell? ⟨w2.heap.size, 2, none⟩ = some (.string q')), QQ.w.cell? ⟨w2.heap.size, 2, none⟩ = some (.string q') := fun QQ => QQ.ok.2.2.2.2.2
    have hne : Nonempty (Wd (fun X => X.cell? ⟨w1.heap.size, 0, none⟩ = some (.int .i64 N) ∧ X.cell? ⟨w1.heap.size, 1, none⟩ = some (.string s) ∧ X.cell? ⟨w1.heap.size, 2, none⟩ = some (.string r) ∧ X.cell? ⟨w2.heap.size, 0, none⟩ = some (.int .i64 M') ∧ X.cell? ⟨w2.heap.size, 1, none⟩ = some (.string t') ∧ X.cell? ⟨w2.heap.size, 2, none⟩ = some (.string q'))) := ⟨⟨W5, ⟨c0, c1, c2, d0, d1, d2⟩⟩⟩
    go_wp2_with fail
    refine chain (S := (fun X => X.cell? ⟨w1.heap.size, 0, none⟩ = some (.int .i64 N) ∧ X.cell? ⟨w1.heap.size, 1, none⟩ = some (.string s) ∧ X.cell? ⟨w1.heap.size, 2, none⟩ = some (.string r) ∧ X.cell? ⟨w2.heap.size, 0, none⟩ = some (.int .i64 M') ∧ X.cell? ⟨w2.heap.size, 1, none⟩ = some (.string t') ∧ X.cell? ⟨w2.heap.size, 2, none⟩ = some (.string q'))) [([true, true, false, true, true], 2), ([], 5), ([], 6), ([], 7)] [] (by kernel_rfl) (by kernel_rfl) (by kernel_rfl) ⟨c0, c1, c2, d0, d1, d2⟩ ?_
    simp only [wpSegs, pickB, List.dropLast_cons_cons, List.dropLast_singleton, List.getLast?_cons_cons, List.getLast?_singleton, List.toList_toArray, List.getElem?_toArray, List.getElem?_cons_succ, List.getElem?_cons_zero, Option.toList_some]
    repeat (go_big_quiet_step (fail))
    refine wpQuiet_nil ?_
    intro K hK
    go_wp2_with fail
    refine (l1Bad_any R ao len cap p4 N s r _ (Rd.drew HP5.out.1) (by omega) hN2 hs hNN.1 hNN.2).mono ?_
    rintro e v1 ⟨x1, y1, u1, p5, rfl, hx1, hy1, hu1, hrd, hp5, hg⟩
    have hg := grown_trans (grown_drew (World.grownBy.refl W5 (some R))) hg
    have HX := Lib.hid (show _ ∧ _ ∧ _ ∧ _ ∧ _ ∧ _ from ⟨hrd, grown_trans HP5.out.2.1 hg, Box.kept (row := some R) HP5.out.2.2.1 hg (by simp; omega), Box.kept (row := some R) HP5.out.2.2.2.1 hg (by simp; omega), Box.kept (row := some R) HP5.out.2.2.2.2.1 hg (by simp; omega), Box.kept (row := some R) HP5.out.2.2.2.2.2 hg (by simp; omega)⟩)
    clear hrd hg
    go_wp2_with fail
    refine hK _ _ ⟨(Box.c HX.out.2.2.2.2.1).1, (Box.c HX.out.2.2.2.2.1).2.1, (Box.c HX.out.2.2.2.2.1).2.2, (Box.c HX.out.2.2.2.2.2).1, (Box.c HX.out.2.2.2.2.2).2.1, (Box.c HX.out.2.2.2.2.2).2.2⟩ ?_
    clear hK K
    repeat (go_big_quiet_step (fail))
    refine wpQuiet_nil ?_
    intro K hK
    go_wp2_with fail
    refine (l1Bad_any R ao len cap p5 M' t' q' _ HX.out.1 (by omega) hM2 ht hMM.1 hMM.2).mono ?_
    rintro e v2 ⟨x2, y2, u2, p6, rfl, hx2, hy2, hu2, hrd, hp6, hg⟩
    have HY := Lib.hid (show _ ∧ _ ∧ _ ∧ _ ∧ _ ∧ _ from ⟨hrd, grown_trans HX.out.2.1 hg, Box.kept (row := some R) HX.out.2.2.1 hg (by simp; omega), Box.kept (row := some R) HX.out.2.2.2.1 hg (by simp; omega), Box.kept (row := some R) HX.out.2.2.2.2.1 hg (by simp; omega), Box.kept (row := some R) HX.out.2.2.2.2.2 hg (by simp; omega)⟩)
    clear hrd hg HX
    go_wp2_with fail
    refine hK _ _ ⟨(Box.c HY.out.2.2.2.2.1).1, (Box.c HY.out.2.2.2.2.1).2.1, (Box.c HY.out.2.2.2.2.1).2.2, (Box.c HY.out.2.2.2.2.2).1, (Box.c HY.out.2.2.2.2.2).2.1, (Box.c HY.out.2.2.2.2.2).2.2⟩ ?_
    clear hK K
    clear q0 q1 q2 q3 q4 q5 hne
    obtain ⟨z0, z1, z2⟩ := Box.c HY.out.2.2.1
    have f0 := Box.free HY.out.2.2.1 0
    have f1 := Box.free HY.out.2.2.1 1
    have f2 := Box.free HY.out.2.2.1 2
    repeat (go_big_quiet_step (fail))
    refine wpQuiet_nil ?_
    intro K hK
    go_wp2_with fail
    clear z0 z1 z2 f0 f1 f2
    have HV : Hid (Rd (((v2.setCell ⟨w.heap.size, 0, none⟩ (.int .i64 x1)).setCell ⟨w.heap.size, 1, none⟩ (.string y1)).setCell ⟨w.heap.size, 2, none⟩ (.string u1)) R ao len cap p6 ∧ w.grownBy (((v2.setCell ⟨w.heap.size, 0, none⟩ (.int .i64 x1)).setCell ⟨w.heap.size, 1, none⟩ (.string y1)).setCell ⟨w.heap.size, 2, none⟩ (.string u1)) (some R) ∧ Box 24 (((v2.setCell ⟨w.heap.size, 0, none⟩ (.int .i64 x1)).setCell ⟨w.heap.size, 1, none⟩ (.string y1)).setCell ⟨w.heap.size, 2, none⟩ (.string u1)) w.heap.size x1 y1 u1 ∧ Box 24 (((v2.setCell ⟨w.heap.size, 0, none⟩ (.int .i64 x1)).setCell ⟨w.heap.size, 1, none⟩ (.string y1)).setCell ⟨w.heap.size, 2, none⟩ (.string u1)) (w.heap.size + 1) 0 ⟨#[]⟩ ⟨#[]⟩ ∧ Box 24 (((v2.setCell ⟨w.heap.size, 0, none⟩ (.int .i64 x1)).setCell ⟨w.heap.size, 1, none⟩ (.string y1)).setCell ⟨w.heap.size, 2, none⟩ (.string u1)) w1.heap.size N s r ∧ Box 24 (((v2.setCell ⟨w.heap.size, 0, none⟩ (.int .i64 x1)).setCell ⟨w.heap.size, 1, none⟩ (.string y1)).setCell ⟨w.heap.size, 2, none⟩ (.string u1)) w2.heap.size M' t' q') := ⟨rd_sets HY.out.1 (by omega), grown_sets HY.out.2.1 (Nat.le_refl _), ((HY.out.2.2.1.set0 x1).set1 y1).set2 u1, box_others HY.out.2.2.2.1 (by omega), box_others HY.out.2.2.2.2.1 (by omega), box_others HY.out.2.2.2.2.2 (by omega)⟩
    obtain ⟨V3, hV3⟩ : ∃ V3, V3 = (((v2.setCell ⟨w.heap.size, 0, none⟩ (.int .i64 x1)).setCell ⟨w.heap.size, 1, none⟩ (.string y1)).setCell ⟨w.heap.size, 2, none⟩ (.string u1)) := ⟨_, rfl⟩
    rw [← hV3] at HV ⊢
    clear hV3 HY
    refine hK _ _ ⟨(Box.c HV.out.2.2.2.2.1).1, (Box.c HV.out.2.2.2.2.1).2.1, (Box.c HV.out.2.2.2.2.1).2.2, (Box.c HV.out.2.2.2.2.2).1, (Box.c HV.out.2.2.2.2.2).2.1, (Box.c HV.out.2.2.2.2.2).2.2⟩ ?_
    clear hK K
    obtain ⟨z0, z1, z2⟩ := Box.c HV.out.2.2.2.1
    have f0 := Box.free HV.out.2.2.2.1 0
    have f1 := Box.free HV.out.2.2.2.1 1
    have f2 := Box.free HV.out.2.2.2.1 2
    repeat (go_big_quiet_step (fail))
    refine wpQuiet_nil ?_
    intro K hK
    go_wp2_with fail
    refine hK _ _ ⟨(Box.c (box_others HV.out.2.2.2.2.1 (by omega))).1, (Box.c (box_others HV.out.2.2.2.2.1 (by omega))).2.1, (Box.c (box_others HV.out.2.2.2.2.1 (by omega))).2.2, (Box.c (box_others HV.out.2.2.2.2.2 (by omega))).1, (Box.c (box_others HV.out.2.2.2.2.2 (by omega))).2.1, (Box.c (box_others HV.out.2.2.2.2.2 (by omega))).2.2⟩ ?_
    clear hK K
    repeat (go_big_quiet_step (fail))
    refine wpQuiet_nil ?_
    clear z0 z1 z2 f0 f1 f2
    have BAF := Box.c (box_others (k := w.heap.size + 1) (u0 := .int .i64 x2) (u1 := .string y2) (u2 := .string u2) HV.out.2.2.1 (by omega))
    have BBF := Box.c (((HV.out.2.2.2.1.set0 x2).set1 y2).set2 u2)
    have RES := Lib.hid (show _ ∧ _ from ⟨rd_sets (b := w.heap.size + 1) (u0 := .int .i64 x2) (u1 := .string y2) (u2 := .string u2) HV.out.1 (by omega), grown_sets (b := w.heap.size + 1) (u0 := .int .i64 x2) (u1 := .string y2) (u2 := .string u2) HV.out.2.1 (by omega)⟩)
    have HF := Lib.hid (show _ ∧ _ from ⟨BAF, BBF⟩)
    clear BAF BBF HV
    go_wp2
    exact bodyPost_ret (v := .tuple #[.agg #[.int .i64 x1, .string y1, .string u1], .agg #[.int .i64 x2, .string y2, .string u2]]) (by simp [results, Tryd.results44, go_sem, HF.out.1.1, HF.out.1.2.1, HF.out.1.2.2, HF.out.2.1, HF.out.2.2.1, HF.out.2.2.2]) rfl ⟨x1, y1, u1, x2, y2, u2, p6, rfl, hx1, hy1, hu1, hx2, hy2, hu2, RES.out.1, by omega, RES.out.2⟩
  · have t0 : ((v : Int) == 0) = false := by simp; omega
    obtain ⟨c0, c1, c2⟩ := Box.c HP3.out.2.2.2.2.1
    obtain ⟨d0, d1, d2⟩ := Box.c HP3.out.2.2.2.2.2
    have q0 : ∀ QQ : Wd (fun X => X.cell? ⟨w1.heap.size, 0, none⟩ = some (.int .i64 N) ∧ X.cell? ⟨w1.heap.size, 1, none⟩ = some (.string s) ∧ X.cell? ⟨w1.heap.size, 2, none⟩ = some (.string r) ∧ X.cell? ⟨w2.heap.size, 0, none⟩ = some (.int .i64 M) ∧ X.cell? ⟨w2.heap.size, 1, none⟩ = some (.string t) ∧ X.cell? ⟨w2.heap.size, 2, none⟩ = some (.string q)), QQ.w.cell? ⟨w1.heap.size, 0, none⟩ = some (.int .i64 N) := fun QQ => QQ.ok.1
    have q1 : ∀ QQ : Wd (fun X => X.cell? ⟨w1.heap.size, 0, none⟩ = some (.int .i64 N) ∧ X.cell? ⟨w1.heap.size, 1, none⟩ = some (.string s) ∧ X.cell? ⟨w1.heap.size, 2, none⟩ = some (.string r) ∧ X.cell? ⟨w2.heap.size, 0, none⟩ = some (.int .i64 M) ∧ X.cell? ⟨w2.heap.size, 1, none⟩ = some (.string t) ∧ X.cell? ⟨w2.heap.size, 2, none⟩ = some (.string q)), QQ.w.cell? ⟨w1.heap.size, 1, none⟩ = some (.string s) := fun QQ => QQ.ok.2.1
    have q2 : ∀ QQ : Wd (fun X => X.cell? ⟨w1.heap.size, 0, none⟩ = some (.int .i64 N) ∧ X.cell? ⟨w1.heap.size, 1, none⟩ = some (.string s) ∧ X.cell? ⟨w1.heap.size, 2, none⟩ = some (.string r) ∧ X.cell? ⟨w2.heap.size, 0, none⟩ = some (.int .i64 M) ∧ X.cell? ⟨w2.heap.size, 1, none⟩ = some (.string t) ∧ X.cell? ⟨w2.heap.size, 2, none⟩ = some (.string q)), QQ.w.cell? ⟨w1.heap.size, 2, none⟩ = some (.string r) := fun QQ => QQ.ok.2.2.1
    have q3 : ∀ QQ : Wd (fun X => X.cell? ⟨w1.heap.size, 0, none⟩ = some (.int .i64 N) ∧ X.cell? ⟨w1.heap.size, 1, none⟩ = some (.string s) ∧ X.cell? ⟨w1.heap.size, 2, none⟩ = some (.string r) ∧ X.cell? ⟨w2.heap.size, 0, none⟩ = some (.int .i64 M) ∧ X.cell? ⟨w2.heap.size, 1, none⟩ = some (.string t) ∧ X.cell? ⟨w2.heap.size, 2, none⟩ = some (.string q)), QQ.w.cell? ⟨w2.heap.size, 0, none⟩ = some (.int .i64 M) := fun QQ => QQ.ok.2.2.2.1
    have q4 : ∀ QQ : Wd (fun X => X.cell? ⟨w1.heap.size, 0, none⟩ = some (.int .i64 N) ∧ X.cell? ⟨w1.heap.size, 1, none⟩ = some (.string s) ∧ X.cell? ⟨w1.heap.size, 2, none⟩ = some (.string r) ∧ X.cell? ⟨w2.heap.size, 0, none⟩ = some (.int .i64 M) ∧ X.cell? ⟨w2.heap.size, 1, none⟩ = some (.string t) ∧ X.cell? ⟨w2.heap.size, 2, none⟩ = some (.string q)), QQ.w.cell? ⟨w2.heap.size, 1, none⟩ = some (.string t) := fun QQ => QQ.ok.2.2.2.2.1
    have q5 : ∀ QQ : Wd (fun X => X.cell? ⟨w1.heap.size, 0, none⟩ = some (.int .i64 N) ∧ X.cell? ⟨w1.heap.size, 1, none⟩ = some (.string s) ∧ X.cell? ⟨w1.heap.size, 2, none⟩ = some (.string r) ∧ X.cell? ⟨w2.heap.size, 0, none⟩ = some (.int .i64 M) ∧ X.cell? ⟨w2.heap.size, 1, none⟩ = some (.string t) ∧ X.cell? ⟨w2.heap.size, 2, none⟩ = some (.string q)), QQ.w.cell? ⟨w2.heap.size, 2, none⟩ = some (.string q) := fun QQ => QQ.ok.2.2.2.2.2
    have hne : Nonempty (Wd (fun X => X.cell? ⟨w1.heap.size, 0, none⟩ = some (.int .i64 N) ∧ X.cell? ⟨w1.heap.size, 1, none⟩ = some (.string s) ∧ X.cell? ⟨w1.heap.size, 2, none⟩ = some (.string r) ∧ X.cell? ⟨w2.heap.size, 0, none⟩ = some (.int .i64 M) ∧ X.cell? ⟨w2.heap.size, 1, none⟩ = some (.string t) ∧ X.cell? ⟨w2.heap.size, 2, none⟩ = some (.string q))) := ⟨⟨w3, ⟨c0, c1, c2, d0, d1, d2⟩⟩⟩
    go_wp2_with fail
    refine chain (S := (fun X => X.cell? ⟨w1.heap.size, 0, none⟩ = some (.int .i64 N) ∧ X.cell? ⟨w1.heap.size, 1, none⟩ = some (.string s) ∧ X.cell? ⟨w1.heap.size, 2, none⟩ = some (.string r) ∧ X.cell? ⟨w2.heap.size, 0, none⟩ = some (.int .i64 M) ∧ X.cell? ⟨w2.heap.size, 1, none⟩ = some (.string t) ∧ X.cell? ⟨w2.heap.size, 2, none⟩ = some (.string q))) [([true, true, false, true, true], 2), ([], 5), ([], 6), ([], 7)] [] (by kernel_rfl) (by kernel_rfl) (by kernel_rfl) ⟨c0, c1, c2, d0, d1, d2⟩ ?_
    simp only [wpSegs, pickB, List.dropLast_cons_cons, List.dropLast_singleton, List.getLast?_cons_cons, List.getLast?_singleton, List.toList_toArray, List.getElem?_toArray, List.getElem?_cons_succ, List.getElem?_cons_zero, Option.toList_some]
    repeat (go_big_quiet_step (fail))
    refine wpQuiet_nil ?_
    intro K hK
    go_wp2_with fail
    refine (l1Bad_any R ao len cap (p2 + 1) N s r _ (Rd.drew HP3.out.1) (by omega) hN2 hs hNN.1 hNN.2).mono ?_
    rintro e v1 ⟨x1, y1, u1, p5, rfl, hx1, hy1, hu1, hrd, hp5, hg⟩
    have hg := grown_trans (grown_drew (World.grownBy.refl w3 (some R))) hg
    have HX := Lib.hid (show _ ∧ _ ∧ _ ∧ _ ∧ _ ∧ _ from ⟨hrd, grown_trans HP3.out.2.1 hg, Box.kept (row := some R) HP3.out.2.2.1 hg (by simp; omega), Box.kept (row := some R) HP3.out.2.2.2.1 hg (by simp; omega), Box.kept (row := some R) HP3.out.2.2.2.2.1 hg (by simp; omega), Box.kept (row := some R) HP3.out.2.2.2.2.2 hg (by simp; omega)⟩)
    clear hrd hg
    go_wp2_with fail
    refine hK _ _ ⟨(Box.c HX.out.2.2.2.2.1).1, (Box.c HX.out.2.2.2.2.1).2.1, (Box.c HX.out.2.2.2.2.1).2.2, (Box.c HX.out.2.2.2.2.2).1, (Box.c HX.out.2.2.2.2.2).2.1, (Box.c HX.out.2.2.2.2.2).2.2⟩ ?_
    clear hK K
    repeat (go_big_quiet_step (fail))
    refine wpQuiet_nil ?_
    intro K hK
    go_wp2_with fail
    refine (l1Bad_any R ao len cap p5 M t q _ HX.out.1 (by omega) hM2 ht hMM.1 hMM.2).mono ?_
    rintro e v2 ⟨x2, y2, u2, p6, rfl, hx2, hy2, hu2, hrd, hp6, hg⟩
    have HY := Lib.hid (show _ ∧ _ ∧ _ ∧ _ ∧ _ ∧ _ from ⟨hrd, grown_trans HX.out.2.1 hg, Box.kept (row := some R) HX.out.2.2.1 hg (by simp; omega), Box.kept (row := some R) HX.out.2.2.2.1 hg (by simp; omega), Box.kept (row := some R) HX.out.2.2.2.2.1 hg (by simp; omega), Box.kept (row := some R) HX.out.2.2.2.2.2 hg (by simp; omega)⟩)
    clear hrd hg HX
    go_wp2_with fail
    refine hK _ _ ⟨(Box.c HY.out.2.2.2.2.1).1, (Box.c HY.out.2.2.2.2.1).2.1, (Box.c HY.out.2.2.2.2.1).2.2, (Box.c HY.out.2.2.2.2.2).1, (Box.c HY.out.2.2.2.2.2).2.1, (Box.c HY.out.2.2.2.2.2).2.2⟩ ?_
    clear hK K
    clear q0 q1 q2 q3 q4 q5 hne
    obtain ⟨z0, z1, z2⟩ := Box.c HY.out.2.2.1
    have f0 := Box.free HY.out.2.2.1 0
    have f1 := Box.free HY.out.2.2.1 1
    have f2 := Box.free HY.out.2.2.1 2
    repeat (go_big_quiet_step (fail))
    refine wpQuiet_nil ?_
    intro K hK
    go_wp2_with fail
    clear z0 z1 z2 f0 f1 f2
    have HV : Hid (Rd (((v2.setCell ⟨w.heap.size, 0, none⟩ (.int .i64 x1)).setCell ⟨w.heap.size, 1, none⟩ (.string y1)).setCell ⟨w.heap.size, 2, none⟩ (.string u1)) R ao len cap p6 ∧ w.grownBy (((v2.setCell ⟨w.heap.size, 0, none⟩ (.int .i64 x1)).setCell ⟨w.heap.size, 1, none⟩ (.string y1)).setCell ⟨w.heap.size, 2, none⟩ (.string u1)) (some R) ∧ Box 24 (((v2.setCell ⟨w.heap.size, 0, none⟩ (.int .i64 x1)).setCell ⟨w.heap.size, 1, none⟩ (.string y1)).setCell ⟨w.heap.size, 2, none⟩ (.string u1)) w.heap.size x1 y1 u1 ∧ Box 24 (((v2.setCell ⟨w.heap.size, 0, none⟩ (.int .i64 x1)).setCell ⟨w.heap.size, 1, none⟩ (.string y1)).setCell ⟨w.heap.size, 2, none⟩ (.string u1)) (w.heap.size + 1) 0 ⟨#[]⟩ ⟨#[]⟩ ∧ Box 24 (((v2.setCell ⟨w.heap.size, 0, none⟩ (.int .i64 x1)).setCell ⟨w.heap.size, 1, none⟩ (.string y1)).setCell ⟨w.heap.size, 2, none⟩ (.string u1)) w1.heap.size N s r ∧ Box 24 (((v2.setCell ⟨w.heap.size, 0, none⟩ (.int .i64 x1)).setCell ⟨w.heap.size, 1, none⟩ (.string y1)).setCell ⟨w.heap.size, 2, none⟩ (.string u1)) w2.heap.size M t q) := ⟨rd_sets HY.out.1 (by omega), grown_sets HY.out.2.1 (Nat.le_refl _), ((HY.out.2.2.1.set0 x1).set1 y1).set2 u1, box_others HY.out.2.2.2.1 (by omega), box_others HY.out.2.2.2.2.1 (by omega), box_others HY.out.2.2.2.2.2 (by omega)⟩
    obtain ⟨V3, hV3⟩ : ∃ V3, V3 = (((v2.setCell ⟨w.heap.size, 0, none⟩ (.int .i64 x1)).setCell ⟨w.heap.size, 1, none⟩ (.string y1)).setCell ⟨w.heap.size, 2, none⟩ (.string u1)) := ⟨_, rfl⟩
    rw [← hV3] at HV ⊢
    clear hV3 HY
    refine hK _ _ ⟨(Box.c HV.out.2.2.2.2.1).1, (Box.c HV.out.2.2.2.2.1).2.1, (Box.c HV.out.2.2.2.2.1).2.2, (Box.c HV.out.2.2.2.2.2).1, (Box.c HV.out.2.2.2.2.2).2.1, (Box.c HV.out.2.2.2.2.2).2.2⟩ ?_
    clear hK K
    obtain ⟨z0, z1, z2⟩ := Box.c HV.out.2.2.2.1
    have f0 := Box.free HV.out.2.2.2.1 0
    have f1 := Box.free HV.out.2.2.2.1 1
    have f2 := Box.free HV.out.2.2.2.1 2
    repeat (go_big_quiet_step (fail))
    refine wpQuiet_nil ?_
    intro K hK
    go_wp2_with fail
    refine hK _ _ ⟨(Box.c (box_others HV.out.2.2.2.2.1 (by omega))).1, (Box.c (box_others HV.out.2.2.2.2.1 (by omega))).2.1, (Box.c (box_others HV.out.2.2.2.2.1 (by omega))).2.2, (Box.c (box_others HV.out.2.2.2.2.2 (by omega))).1, (Box.c (box_others HV.out.2.2.2.2.2 (by omega))).2.1, (Box.c (box_others HV.out.2.2.2.2.2 (by omega))).2.2⟩ ?_
    clear hK K
    repeat (go_big_quiet_step (fail))
    refine wpQuiet_nil ?_
    clear z0 z1 z2 f0 f1 f2
    have BAF := Box.c (box_others (k := w.heap.size + 1) (u0 := .int .i64 x2) (u1 := .string y2) (u2 := .string u2) HV.out.2.2.1 (by omega))
    have BBF := Box.c (((HV.out.2.2.2.1.set0 x2).set1 y2).set2 u2)
    have RES := Lib.hid (show _ ∧ _ from ⟨rd_sets (b := w.heap.size + 1) (u0 := .int .i64 x2) (u1 := .string y2) (u2 := .string u2) HV.out.1 (by omega), grown_sets (b := w.heap.size + 1) (u0 := .int .i64 x2) (u1 := .string y2) (u2 := .string u2) HV.out.2.1 (by omega)⟩)
    have HF := Lib.hid (show _ ∧ _ from ⟨BAF, BBF⟩)
    clear BAF BBF HV
    go_wp2
    exact bodyPost_ret (v := .tuple #[.agg #[.int .i64 x1, .string y1, .string u1], .agg #[.int .i64 x2, .string y2, .string u2]]) (by simp [results, Tryd.results44, go_sem, HF.out.1.1, HF.out.1.2.1, HF.out.1.2.2, HF.out.2.1, HF.out.2.2.1, HF.out.2.2.2]) rfl ⟨x1, y1, u1, x2, y2, u2, p6, rfl, hx1, hy1, hu1, hx2, hy2, hu2, RES.out.1, by omega, RES.out.2⟩

set_option maxHeartbeats 3200000 in
theorem drawDisjointSum_any (ao : Option Addr) (len cap : Nat) (w : World) (h : Byt w w.heap.size ao len) (hc : len ≤ cap) (hm : cap ≤ 9223372036854775807) :
    Calls Tryd.prog 17 #[.slice ao len cap] w (DrawnQ w) := by
  have BA : Hid (Box 24 ((w.alloc (.cells #[.int .i64 0, .string ⟨#[]⟩, .string ⟨#[]⟩] 24)).alloc (.cells #[.int .i64 0, .string ⟨#[]⟩, .string ⟨#[]⟩] 24)) w.heap.size 0 ⟨#[]⟩ ⟨#[]⟩) := (Box.new 24 w w.heap.size rfl 0 ⟨#[]⟩ ⟨#[]⟩).below ((Below.refl (w.heap.size + 1) _).alloc (by simp) _) (by omega)
  have BB : Hid (Box 24 ((w.alloc (.cells #[.int .i64 0, .string ⟨#[]⟩, .string ⟨#[]⟩] 24)).alloc (.cells #[.int .i64 0, .string ⟨#[]⟩, .string ⟨#[]⟩] 24)) (w.heap.size + 1) 0 ⟨#[]⟩ ⟨#[]⟩) := Box.new 24 _ (w.heap.size + 1) (by simp) 0 ⟨#[]⟩ ⟨#[]⟩
  have AW : Hid (Below w.heap.size w ((w.alloc (.cells #[.int .i64 0, .string ⟨#[]⟩, .string ⟨#[]⟩] 24)).alloc (.cells #[.int .i64 0, .string ⟨#[]⟩, .string ⟨#[]⟩] 24))) := ((Below.refl _ _).alloc (Nat.le_refl _) _).alloc (by simp) _
  have HBY := Lib.hid (Byt.up h (w' := ((w.alloc (.cells #[.int .i64 0, .string ⟨#[]⟩, .string ⟨#[]⟩] 24)).alloc (.cells #[.int .i64 0, .string ⟨#[]⟩, .string ⟨#[]⟩] 24))) (R' := ((w.alloc (.cells #[.int .i64 0, .string ⟨#[]⟩, .string ⟨#[]⟩] 24)).alloc (.cells #[.int .i64 0, .string ⟨#[]⟩, .string ⟨#[]⟩] 24)).heap.size) (by simp; omega) (fun k hk => by rw [heap_alloc_old _ _ (by simp; omega)]; exact heap_alloc_old w _ hk))
  clear h
  go_enter Tryd.func17, Tryd.ntmps17
  go_wp2_with fail
  refine (open_any ao len cap _ HBY.out hc hm).mono ?_
  rintro e w1 ⟨R, ao1, len1, cap1, rfl, hrd, hR, hb⟩
  simp only [World.size_alloc] at hR
  have HP1 := Lib.hid (show _ ∧ _ ∧ _ ∧ _ from ⟨hrd, AW.out.trans (hb.mono (by simp; omega)), BA.out.below hb (by simp; omega), BB.out.below hb (by simp)⟩)
  clear hrd hb BA BB AW
  go_wp2_with fail
  refine (l10Pair_any R ao1 len1 cap1 0 _ HP1.out.1 (by omega)).mono ?_
  rintro e w2 ⟨n, s, r, m, t, q, p2, rfl, hnw, hs, hr, hmw, ht, hq, hrd, hp2, hg⟩
  have hRA : R < w2.heap.size := hrd.lt
  have HP2 := Lib.hid (show _ ∧ _ ∧ _ from ⟨HP1.out.2.1.grown hg HP1.out.2.1.size (fun k hk => by cases hk; omega), Box.kept (row := some R) HP1.out.2.2.1 hg (by simp; omega), Box.kept (row := some R) HP1.out.2.2.2 hg (by simp; omega)⟩)
  clear hrd hg hp2 HP1
  obtain ⟨z0, z1, z2⟩ := Box.c HP2.out.2.1
  have g0 := Box.free HP2.out.2.1 0
  have g1 := Box.free HP2.out.2.1 1
  have g2 := Box.free HP2.out.2.1 2
  have BB3 := box_others (k := w.heap.size) (u0 := .int .i64 n) (u1 := .string s) (u2 := .string r) HP2.out.2.2 (by omega)
  obtain ⟨y0, y1, y2⟩ := BB3.c
  have k0 := BB3.free 0
  have k1 := BB3.free 1
  have k2 := BB3.free 2
  have BAF := Box.c (box_others (k := w.heap.size + 1) (u0 := .int .i64 m) (u1 := .string t) (u2 := .string q) (((HP2.out.2.1.set0 n).set1 s).set2 r) (by omega))
  have BBF := Box.c (((BB3.set0 m).set1 t).set2 q)
  have HF := Lib.hid (show _ ∧ _ from ⟨BAF, BBF⟩)
  have RES := Lib.hid ((((((HP2.out.1.setCell (p := ⟨w.heap.size, 0, none⟩) (Nat.le_refl _) (.int .i64 n)).setCell (p := ⟨w.heap.size, 1, none⟩) (Nat.le_refl _) (.string s)).setCell (p := ⟨w.heap.size, 2, none⟩) (Nat.le_refl _) (.string r)).setCell (p := ⟨w.heap.size + 1, 0, none⟩) (by simp) (.int .i64 m)).setCell (p := ⟨w.heap.size + 1, 1, none⟩) (by simp) (.string t)).setCell (p := ⟨w.heap.size + 1, 2, none⟩) (by simp) (.string q))
  clear BAF BBF BB3
  go_wp2
  exact bodyPost_ret (v := .tuple #[.agg #[.int .i64 n, .string s, .string r], .agg #[.int .i64 m, .string t, .string q]]) (by simp [results, Tryd.results17, go_sem, HF.out.1.1, HF.out.1.2.1, HF.out.1.2.2, HF.out.2.1, HF.out.2.2.1, HF.out.2.2.2]) rfl ⟨n, s, r, m, t, q, rfl, hnw, hs, hr, hmw, ht, hq, RES.out⟩

set_option maxHeartbeats 3200000 in
theorem drawProductOf_any (ao : Option Addr) (len cap : Nat) (w : World) (h : Byt w w.heap.size ao len) (hc : len ≤ cap) (hm : cap ≤ 9223372036854775807) :
    Calls Tryd.prog 10 #[.slice ao len cap] w (DrawnQ w) := by
  have BA : Hid (Box 24 ((w.alloc (.cells #[.int .i64 0, .string ⟨#[]⟩, .string ⟨#[]⟩] 24)).alloc (.cells #[.int .i64 0, .string ⟨#[]⟩, .string ⟨#[]⟩] 24)) w.heap.size 0 ⟨#[]⟩ ⟨#[]⟩) := (Box.new 24 w w.heap.size rfl 0 ⟨#[]⟩ ⟨#[]⟩).below ((Below.refl (w.heap.size + 1) _).alloc (by simp) _) (by omega)
  have BB : Hid (Box 24 ((w.alloc (.cells #[.int .i64 0, .string ⟨#[]⟩, .string ⟨#[]⟩] 24)).alloc (.cells #[.int .i64 0, .string ⟨#[]⟩, .string ⟨#[]⟩] 24)) (w.heap.size + 1) 0 ⟨#[]⟩ ⟨#[]⟩) := Box.new 24 _ (w.heap.size + 1) (by simp) 0 ⟨#[]⟩ ⟨#[]⟩
  have AW : Hid (Below w.heap.size w ((w.alloc (.cells #[.int .i64 0, .string ⟨#[]⟩, .string ⟨#[]⟩] 24)).alloc (.cells #[.int .i64 0, .string ⟨#[]⟩, .string ⟨#[]⟩] 24))) := ((Below.refl _ _).alloc (Nat.le_refl _) _).alloc (by simp) _
  have HBY := Lib.hid (Byt.up h (w' := ((w.alloc (.cells #[.int .i64 0, .string ⟨#[]⟩, .string ⟨#[]⟩] 24)).alloc (.cells #[.int .i64 0, .string ⟨#[]⟩, .string ⟨#[]⟩] 24))) (R' := ((w.alloc (.cells #[.int .i64 0, .string ⟨#[]⟩, .string ⟨#[]⟩] 24)).alloc (.cells #[.int .i64 0, .string ⟨#[]⟩, .string ⟨#[]⟩] 24)).heap.size) (by simp; omega) (fun k hk => by rw [heap_alloc_old _ _ (by simp; omega)]; exact heap_alloc_old w _ hk))
  clear h
  go_enter Tryd.func10, Tryd.ntmps10
  go_wp2_with fail
  refine (open_any ao len cap _ HBY.out hc hm).mono ?_
  rintro e w1 ⟨R, ao1, len1, cap1, rfl, hrd, hR, hb⟩
  simp only [World.size_alloc] at hR
  have HP1 := Lib.hid (show _ ∧ _ ∧ _ ∧ _ from ⟨hrd, AW.out.trans (hb.mono (by simp; omega)), BA.out.below hb (by simp; omega), BB.out.below hb (by simp)⟩)
  clear hrd hb BA BB AW
  go_wp2_with fail
  refine (l10Pair_any R ao1 len1 cap1 0 _ HP1.out.1 (by omega)).mono ?_
  rintro e w2 ⟨n, s, r, m, t, q, p2, rfl, hnw, hs, hr, hmw, ht, hq, hrd, hp2, hg⟩
  have hRA : R < w2.heap.size := hrd.lt
  have HP2 := Lib.hid (show _ ∧ _ ∧ _ from ⟨HP1.out.2.1.grown hg HP1.out.2.1.size (fun k hk => by cases hk; omega), Box.kept (row := some R) HP1.out.2.2.1 hg (by simp; omega), Box.kept (row := some R) HP1.out.2.2.2 hg (by simp; omega)⟩)
  clear hrd hg hp2 HP1
  obtain ⟨z0, z1, z2⟩ := Box.c HP2.out.2.1
  have g0 := Box.free HP2.out.2.1 0
  have g1 := Box.free HP2.out.2.1 1
  have g2 := Box.free HP2.out.2.1 2
  have BB3 := box_others (k := w.heap.size) (u0 := .int .i64 n) (u1 := .string s) (u2 := .string r) HP2.out.2.2 (by omega)
  obtain ⟨y0, y1, y2⟩ := BB3.c
  have k0 := BB3.free 0
  have k1 := BB3.free 1
  have k2 := BB3.free 2
  have BAF := Box.c (box_others (k := w.heap.size + 1) (u0 := .int .i64 m) (u1 := .string t) (u2 := .string q) (((HP2.out.2.1.set0 n).set1 s).set2 r) (by omega))
  have BBF := Box.c (((BB3.set0 m).set1 t).set2 q)
  have HF := Lib.hid (show _ ∧ _ from ⟨BAF, BBF⟩)
  have RES := Lib.hid ((((((HP2.out.1.setCell (p := ⟨w.heap.size, 0, none⟩) (Nat.le_refl _) (.int .i64 n)).setCell (p := ⟨w.heap.size, 1, none⟩) (Nat.le_refl _) (.string s)).setCell (p := ⟨w.heap.size, 2, none⟩) (Nat.le_refl _) (.string r)).setCell (p := ⟨w.heap.size + 1, 0, none⟩) (by simp) (.int .i64 m)).setCell (p := ⟨w.heap.size + 1, 1, none⟩) (by simp) (.string t)).setCell (p := ⟨w.heap.size + 1, 2, none⟩) (by simp) (.string q))
  clear BAF BBF BB3
  go_wp2
  exact bodyPost_ret (v := .tuple #[.agg #[.int .i64 n, .string s, .string r], .agg #[.int .i64 m, .string t, .string q]]) (by simp [results, Tryd.results10, go_sem, HF.out.1.1, HF.out.1.2.1, HF.out.1.2.2, HF.out.2.1, HF.out.2.2.1, HF.out.2.2.2]) rfl ⟨n, s, r, m, t, q, rfl, hnw, hs, hr, hmw, ht, hq, RES.out⟩
end Go.Proofs.YtefneihlgclkbaaDoor.draw
