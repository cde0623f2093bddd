/- The drawing of the arguments of CopiesOf. -/
import Derived.Test.YtefneihlgclkbaaDoorDrawH
import Derived.Test.YtefneihlgclkbaaDoorPkD
namespace Go.Proofs.YtefneihlgclkbaaDoor.draw
set_option linter.unusedVariables false
set_option linter.unusedSimpArgs false
open Go.ChangeShapes Go.WideShapes Go.ChangeAt Go.RowKit
open Go.Proofs.YtefneihlgclkbaaDoor.lib Go.Proofs.YtefneihlgclkbaaDoor.st Go.Proofs.YtefneihlgclkbaaDoor.flow Go.Proofs.YtefneihlgclkbaaDoor.chain

set_option maxHeartbeats 3200000 in
theorem drawCopies_any (ao : Option Addr) (len cap : Nat) (w : World) (h : Byt w w.heap.size ao len) (hc : len ≤ cap) (hm : cap ≤ 9223372036854775807) :
    Calls Tryd.prog 23 #[.slice ao len cap] w (Drawn1 w) := by
  have B0 : Hid (Box 24 (w.alloc (.cells #[.int .i64 0, .string ⟨#[]⟩, .string ⟨#[]⟩] 24)) w.heap.size 0 ⟨#[]⟩ ⟨#[]⟩) := Box.new _ w _ rfl _ _ _
  have HBY := Lib.hid (Byt.up h (w' := w.alloc (.cells #[.int .i64 0, .string ⟨#[]⟩, .string ⟨#[]⟩] 24)) (R' := (w.alloc (.cells #[.int .i64 0, .string ⟨#[]⟩, .string ⟨#[]⟩] 24)).heap.size) (by simp) (fun k hk => heap_alloc_old w _ hk))
  clear h
  go_enter Tryd.func23, Tryd.ntmps23
  go_wp2_with fail
  refine (open_any ao len cap _ HBY.out hc hm).mono ?_
  rintro e w1 ⟨R, ao1, len1, cap1, rfl, hrd, hR, hb⟩
  simp only [World.size_alloc] at hR
  have HP1 := Lib.hid (show _ ∧ _ from ⟨hrd, ((Below.refl w.heap.size w).alloc (Nat.le_refl _) _).trans (hb.mono (by simp))⟩)
  have BX1 := Lib.hid (B0.out.below hb (by simp))
  clear hrd hb
  go_wp2_with fail
  refine (l10Small_any R ao1 len1 cap1 0 _ HP1.out.1 (by omega)).mono ?_
  rintro e w1b ⟨Ns, s0, r0, p1, rfl, hN1, hN8, hs0, hr0, -, -, hrd, hp1, hg⟩
  have hR1 : R < w1b.heap.size := hrd.lt
  have hr1 : 1 ≤ r0.size := by rw [hr0]; exact Nat.mul_le_mul hN1 hN1
  have hr2 : r0.size ≤ 64 := by rw [hr0]; exact Nat.mul_le_mul hN8 hN8
  have HP1b := Lib.hid (show _ ∧ _ from ⟨hrd, HP1.out.2.grown hg HP1.out.2.size (fun k hk => by cases hk; omega)⟩)
  have BX1b := Lib.hid (Box.kept (row := some R) BX1.out hg (by simp; omega))
  clear hrd hg HP1 BX1 hr0
  have HP1 := HP1b
  have BX1 := BX1b
  clear HP1b BX1b
  go_wp2_with fail
  refine (l1Bad_any R ao1 len1 cap1 p1 Ns s0 r0 _ HP1.out.1 (by omega) hN8 hs0 hr1 hr2).mono ?_
  rintro e w2 ⟨n, s, r, p2, rfl, hnw, hs, hr, hrd, hp2, hg⟩
  have hRA : R < w2.heap.size := hrd.lt
  have hwA : w.heap.size < R := by omega
  have HP2 := Lib.hid (show _ ∧ _ ∧ _ from ⟨hrd, HP1.out.2.grown hg HP1.out.2.size (fun k hk => by cases hk; omega), Box.kept (row := some R) BX1.out hg (by simp; omega)⟩)
  have hpp : p2 ≤ 203 := by omega
  clear hrd hg hp2
  obtain ⟨HA, hHA⟩ : ∃ HA, HA = w2.heap.size := ⟨_, rfl⟩
  have BXA : Hid (Box 24 (w2.alloc (.cells #[.int .i64 n, .string s, .string r] 24)) HA n s r) := by rw [hHA]; exact Box.new _ _ _ rfl _ _ _
  obtain ⟨w3, hw3⟩ : ∃ q, q = w2.alloc (.cells #[.int .i64 n, .string s, .string r] 24) := ⟨_, rfl⟩
  rw [← hHA] at hRA
  have HP3 : Hid (Rd w3 R ao1 len1 cap1 p2 ∧ Below w.heap.size w w3 ∧ Box 24 w3 w.heap.size 0 ⟨#[]⟩ ⟨#[]⟩ ∧ Box 24 w3 HA n s r) := by
    rw [hw3]
    exact ⟨HP2.out.1.alloc _, HP2.out.2.1.alloc (by have := HP2.out.2.1.size; omega) _, HP2.out.2.2.below ((Below.refl HA _).alloc (by omega) _) (by omega), BXA.out⟩
  go_wp2_with fail
  rw [← hw3, ← hHA]
  clear hw3 hHA BXA
  have c0 : ∀ X : Wd (fun X => X.cell? ⟨HA, 0, none⟩ = some (.int .i64 n) ∧ X.cell? ⟨HA, 1, none⟩ = some (.string s) ∧ X.cell? ⟨HA, 2, none⟩ = some (.string r)), X.w.cell? ⟨HA, 0, none⟩ = some (.int .i64 n) := fun X => X.ok.1
  have c1 : ∀ X : Wd (fun X => X.cell? ⟨HA, 0, none⟩ = some (.int .i64 n) ∧ X.cell? ⟨HA, 1, none⟩ = some (.string s) ∧ X.cell? ⟨HA, 2, none⟩ = some (.string r)), X.w.cell? ⟨HA, 1, none⟩ = some (.string s) := fun X => X.ok.2.1
  have c2 : ∀ X : Wd (fun X => X.cell? ⟨HA, 0, none⟩ = some (.int .i64 n) ∧ X.cell? ⟨HA, 1, none⟩ = some (.string s) ∧ X.cell? ⟨HA, 2, none⟩ = some (.string r)), X.w.cell? ⟨HA, 2, none⟩ = some (.string r) := fun X => X.ok.2.2
  have hne : Nonempty (Wd (fun X => X.cell? ⟨HA, 0, none⟩ = some (.int .i64 n) ∧ X.cell? ⟨HA, 1, none⟩ = some (.string s) ∧ X.cell? ⟨HA, 2, none⟩ = some (.string r))) := ⟨⟨w3, HP3.out.2.2.2.c⟩⟩
  have hwA3 : w.heap.size < w3.heap.size := by have := HP3.out.1.lt; omega
  have HD : Hid (Rd w3.drew R ao1 len1 cap1 p2 ∧ Below w.heap.size w w3.drew ∧ Box 24 w3.drew w.heap.size 0 ⟨#[]⟩ ⟨#[]⟩ ∧ Box 24 w3.drew HA n s r) := ⟨HP3.out.1.drew, HP3.out.2.1.drew, Box.drew HP3.out.2.2.1, Box.drew HP3.out.2.2.2⟩
  have AL : Hid (Below w3.drew.heap.size w3.drew (w3.drew.alloc (.cells #[.int .i64 2, .int .i64 3, .int .i64 1, .int .i64 4, .int .i64 2, .int .i64 0, .int .i64 9, .int .i64 (-1), .int .i64 9223372036854775807] 3))) := (Below.refl _ _).alloc (Nat.le_refl _) _
  refine chain (S := (fun X => X.cell? ⟨HA, 0, none⟩ = some (.int .i64 n) ∧ X.cell? ⟨HA, 1, none⟩ = some (.string s) ∧ X.cell? ⟨HA, 2, none⟩ = some (.string r))) [([true, true], 2), ([], 3), ([], 4)] [false, false, false, false, false, true] (by kernel_rfl) (by kernel_rfl) (by kernel_rfl) HP3.out.2.2.2.c ?_
  simp only [wpSegs, pickB, List.dropLast_cons_cons, List.dropLast_singleton, List.getLast?_cons_cons, List.getLast?_singleton, List.toList_toArray, List.getElem?_toArray, List.getElem?_cons_succ, List.getElem?_cons_zero, Option.toList_some]
  repeat (go_big_quiet_step (fail))
  refine wpQuiet_nil ?_
  intro K hK
  go_wp2_with fail
  refine hK _ _ (HD.out.2.2.2.below AL.out HD.out.2.2.2.lt).c ?_
  clear hK K
  repeat (go_big_quiet_step (fail))
  refine wpQuiet_nil ?_
  intro K hK
  go_wp2_with fail
  refine (num_lit R ao1 len1 cap1 p2 9 w3.heap.size _ [2, 3, 1, 4, 2, 0, 9, -1, 9223372036854775807] w3.drew HD.out.1 (by omega) rfl rfl (by decide) (by decide) rfl).mono ?_
  rintro e w4 ⟨x, hx, rfl, hrn, hgn⟩
  have hgn := grown_trans (World.grownBy_alloc w3.drew _ (some R)) hgn
  have hxw : (Lit.int .i64 x).wf = true := by
    simp only [List.mem_cons, List.not_mem_nil, or_false] at hx
    rcases hx with rfl | rfl | rfl | rfl | rfl | rfl | rfl | rfl | rfl <;> decide
  have HP4 := Lib.hid (show _ ∧ _ ∧ _ ∧ _ from ⟨hrn, HD.out.2.1.grown hgn (by have := HD.out.2.1.size; omega) (fun k hk => by cases hk; omega), Box.kept (row := some R) HD.out.2.2.1 hgn (by simp; omega), Box.kept (row := some R) HD.out.2.2.2 hgn (by simp; omega)⟩)
  clear hrn hgn hx HD AL
  go_wp2_with fail
  refine hK _ _ HP4.out.2.2.2.c ?_
  clear hK K
  repeat (go_big_quiet_step (fail))
  refine wpQuiet_nil ?_
  obtain ⟨z0, z1, z2⟩ := Box.c HP4.out.2.2.1
  have g0 := Box.free HP4.out.2.2.1 0
  have g1 := Box.free HP4.out.2.2.1 1
  have g2 := Box.free HP4.out.2.2.1 2
  intro K hK
  go_wp2_with fail
  refine hK _ _ (Box.kept (row := some w.heap.size) (Box.kept (row := some w.heap.size) (Box.kept (row := some w.heap.size) HP4.out.2.2.2 (grown_setCell _ _ _ _) (by simp; omega)) (grown_setCell _ _ _ _) (by simp; omega)) (grown_setCell _ _ _ _) (by simp; omega)).c ?_
  clear hK K
  repeat (go_big_quiet_step (fail))
  refine wpQuiet_nil ?_
  have HF := Lib.hid (ret_struct (w := w4) n s r HP4.out.2.2.1)
  have RES : Hid (Below w.heap.size w (((w4.setCell ⟨w.heap.size, 0, none⟩ (.int .i64 n)).setCell ⟨w.heap.size, 1, none⟩ (.string s)).setCell ⟨w.heap.size, 2, none⟩ (.string r))) := Below.setCell (Below.setCell (Below.setCell HP4.out.2.1 (by simp) _) (by simp) _) (by simp) _
  go_wp2
  exact bodyPost_ret (v := .tuple #[.agg #[.int .i64 n, .string s, .string r], .int .i64 x]) (by simp [results, Tryd.results23, go_sem, HF.out.1, HF.out.2.1, HF.out.2.2]) rfl ⟨n, s, r, x, rfl, hnw, hs, hr, hxw, RES.out⟩
end Go.Proofs.YtefneihlgclkbaaDoor.draw
