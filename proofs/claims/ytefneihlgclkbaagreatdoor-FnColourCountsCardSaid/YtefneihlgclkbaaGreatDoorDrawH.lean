/- The drawing of the arguments of StableColours, ColoursOf, ColourCounts. -/
import Derived.Test.YtefneihlgclkbaaGreatDoorPkD
namespace Go.Proofs.YtefneihlgclkbaaGreatDoor.draw
set_option linter.unusedVariables false
set_option linter.unusedSimpArgs false
open Go.ChangeShapes Go.WideShapes Go.ChangeAt Go.RowKit
open Go.Proofs.YtefneihlgclkbaaGreatDoor.lib Go.Proofs.YtefneihlgclkbaaGreatDoor.st Go.Proofs.YtefneihlgclkbaaGreatDoor.flow Go.Proofs.YtefneihlgclkbaaGreatDoor.chain

set_option maxHeartbeats 800000 in
theorem l1Open_any (R : Nat) (ao : Option Addr) (len cap p : Nat) (w : World) (h : Rd w R ao len cap p) (hp : p ≤ 80000000) :
    Calls Tryz.prog 17 #[.pointer (some ⟨R, 0, none⟩)] w (DrawnB w R ao len cap (p + 203)) := by
  have hRl := h.lt
  have H := Lib.hid h
  have B0 : Hid (Box 24 (w.alloc (.cells #[.int .i64 0, .string ⟨#[]⟩, .string ⟨#[]⟩] 24)) w.heap.size 0 ⟨#[]⟩ ⟨#[]⟩) := Box.new _ w _ rfl _ _ _
  clear h
  go_enter Tryz.func17, Tryz.ntmps17
  go_wp2_with fail
  refine (l1Some_any R ao len cap p _ (H.out.alloc _) (by omega)).mono ?_
  rintro e w1 ⟨N, s, r, p1, rfl, hN1, hN2, hs, hr, -, -, hrd, hp1, hg⟩
  have hNN : 1 ≤ r.size ∧ r.size ≤ 64 := by
    rw [hr]; exact ⟨Nat.mul_le_mul hN1 hN1, Nat.mul_le_mul hN2 hN2⟩
  have HP := Lib.hid (show _ ∧ _ ∧ _ from ⟨hrd, grown_trans (World.grownBy_alloc w _ _) hg, Box.kept (row := some R) B0.out hg (by simp; omega)⟩)
  clear hrd hg hr
  go_wp2_with fail
  refine (l1Bad_any R ao len cap p1 N s r _ HP.out.1 (by omega) hN2 hs hNN.1 hNN.2).mono ?_
  rintro e w2 ⟨n, s2, r2, p2, rfl, hnw, hs2, hr2, hrd, hp2, hg⟩
  have hb0 := Box.kept (row := some R) HP.out.2.2 hg (by simp; omega)
  have HF := Lib.hid (ret_struct (w := w2) n s2 r2 hb0)
  obtain ⟨z0, z1, z2⟩ := hb0.c
  have g0 := hb0.free 0
  have g1 := hb0.free 1
  have g2 := hb0.free 2
  have RES : Hid (Rd (((w2.setCell ⟨w.heap.size, 0, none⟩ (.int .i64 n)).setCell ⟨w.heap.size, 1, none⟩ (.string s2)).setCell ⟨w.heap.size, 2, none⟩ (.string r2)) R ao len cap p2 ∧ w.grownBy (((w2.setCell ⟨w.heap.size, 0, none⟩ (.int .i64 n)).setCell ⟨w.heap.size, 1, none⟩ (.string s2)).setCell ⟨w.heap.size, 2, none⟩ (.string r2)) (some R)) :=
    ⟨((hrd.setNew hRl).setNew hRl).setNew hRl, grown_new (grown_new (grown_new (grown_trans HP.out.2.1 hg) (Nat.le_refl _)) (Nat.le_refl _)) (Nat.le_refl _)⟩
  clear hrd hg hb0
  go_wp2
  exact bodyPost_ret (v := .agg #[.int .i64 n, .string s2, .string r2]) (by simp [results, Tryz.results17, go_sem, HF.out.1, HF.out.2.1, HF.out.2.2]) rfl ⟨n, s2, r2, p2, rfl, hnw, hs2, hr2, RES.out.1, by omega, RES.out.2⟩


set_option maxHeartbeats 3200000 in
theorem drawColours_any (ao : Option Addr) (len cap : Nat) (w : World) (h : Byt w w.heap.size ao len) (hc : len ≤ cap) (hm : cap ≤ 9223372036854775807) :
    Calls Tryz.prog 5 #[.slice ao len cap] w (Drawn1 w) := by
  have B0 : Hid (Box 24 (w.alloc (.cells #[.int .i64 0, .string ⟨#[]⟩, .string ⟨#[]⟩] 24)) w.heap.size 0 ⟨#[]⟩ ⟨#[]⟩) := Box.new _ w _ rfl _ _ _
  have HBY := Lib.hid (Byt.up h (w' := w.alloc (.cells #[.int .i64 0, .string ⟨#[]⟩, .string ⟨#[]⟩] 24)) (R' := (w.alloc (.cells #[.int .i64 0, .string ⟨#[]⟩, .string ⟨#[]⟩] 24)).heap.size) (by simp) (fun k hk => heap_alloc_old w _ hk))
  clear h
  go_enter Tryz.func5, Tryz.ntmps5
  go_wp2_with fail
  refine (open_any ao len cap _ HBY.out hc hm).mono ?_
  rintro e w1 ⟨R, ao1, len1, cap1, rfl, hrd, hR, hb⟩
  simp only [World.size_alloc] at hR
  have HP1 := Lib.hid (show _ ∧ _ from ⟨hrd, ((Below.refl w.heap.size w).alloc (Nat.le_refl _) _).trans (hb.mono (by simp))⟩)
  have BX1 := Lib.hid (B0.out.below hb (by simp))
  clear hrd hb
  go_wp2_with fail
  refine (l1Open_any R ao1 len1 cap1 0 _ HP1.out.1 (by omega)).mono ?_
  rintro e w2 ⟨n, s, r, p2, rfl, hnw, hs, hr, hrd, hp2, hg⟩
  have hRA : R < w2.heap.size := hrd.lt
  have hwA : w.heap.size < R := by omega
  have HP2 := Lib.hid (show _ ∧ _ ∧ _ from ⟨hrd, HP1.out.2.grown hg HP1.out.2.size (fun k hk => by cases hk; omega), Box.kept (row := some R) BX1.out hg (by simp; omega)⟩)
  have hpp : p2 ≤ 203 := by omega
  clear hrd hg hp2
  obtain ⟨HA, hHA⟩ : ∃ HA, HA = w2.heap.size := ⟨_, rfl⟩
  have BXA : Hid (Box 24 (w2.alloc (.cells #[.int .i64 n, .string s, .string r] 24)) HA n s r) := by rw [hHA]; exact Box.new _ _ _ rfl _ _ _
  obtain ⟨w3, hw3⟩ : ∃ q, q = w2.alloc (.cells #[.int .i64 n, .string s, .string r] 24) := ⟨_, rfl⟩
  rw [← hHA] at hRA
  have HP3 : Hid (Rd w3 R ao1 len1 cap1 p2 ∧ Below w.heap.size w w3 ∧ Box 24 w3 w.heap.size 0 ⟨#[]⟩ ⟨#[]⟩ ∧ Box 24 w3 HA n s r) := by
    rw [hw3]
    exact ⟨HP2.out.1.alloc _, HP2.out.2.1.alloc (by have := HP2.out.2.1.size; omega) _, HP2.out.2.2.below ((Below.refl HA _).alloc (by omega) _) (by omega), BXA.out⟩
  go_wp2_with fail
  rw [← hw3, ← hHA]
  clear hw3 hHA BXA
  have c0 : ∀ X : Wd (fun X => X.cell? ⟨HA, 0, none⟩ = some (.int .i64 n) ∧ X.cell? ⟨HA, 1, none⟩ = some (.string s) ∧ X.cell? ⟨HA, 2, none⟩ = some (.string r)), X.w.cell? ⟨HA, 0, none⟩ = some (.int .i64 n) := fun X => X.ok.1
  have c1 : ∀ X : Wd (fun X => X.cell? ⟨HA, 0, none⟩ = some (.int .i64 n) ∧ X.cell? ⟨HA, 1, none⟩ = some (.string s) ∧ X.cell? ⟨HA, 2, none⟩ = some (.string r)), X.w.cell? ⟨HA, 1, none⟩ = some (.string s) := fun X => X.ok.2.1
  have c2 : ∀ X : Wd (fun X => X.cell? ⟨HA, 0, none⟩ = some (.int .i64 n) ∧ X.cell? ⟨HA, 1, none⟩ = some (.string s) ∧ X.cell? ⟨HA, 2, none⟩ = some (.string r)), X.w.cell? ⟨HA, 2, none⟩ = some (.string r) := fun X => X.ok.2.2
  have hne : Nonempty (Wd (fun X => X.cell? ⟨HA, 0, none⟩ = some (.int .i64 n) ∧ X.cell? ⟨HA, 1, none⟩ = some (.string s) ∧ X.cell? ⟨HA, 2, none⟩ = some (.string r))) := ⟨⟨w3, HP3.out.2.2.2.c⟩⟩
  have hwA3 : w.heap.size < w3.heap.size := by have := HP3.out.1.lt; omega
  have HD : Hid (Rd w3.drew R ao1 len1 cap1 p2 ∧ Below w.heap.size w w3.drew ∧ Box 24 w3.drew w.heap.size 0 ⟨#[]⟩ ⟨#[]⟩ ∧ Box 24 w3.drew HA n s r) := ⟨HP3.out.1.drew, HP3.out.2.1.drew, Box.drew HP3.out.2.2.1, Box.drew HP3.out.2.2.2⟩
  have AL : Hid (Below w3.drew.heap.size w3.drew (w3.drew.alloc (.cells #[.int .i64 1, .int .i64 2, .int .i64 0, .int .i64 3, .int .i64 1, .int .i64 8, .int .i64 9, .int .i64 (-1)] 3))) := (Below.refl _ _).alloc (Nat.le_refl _) _
  refine chain (S := (fun X => X.cell? ⟨HA, 0, none⟩ = some (.int .i64 n) ∧ X.cell? ⟨HA, 1, none⟩ = some (.string s) ∧ X.cell? ⟨HA, 2, none⟩ = some (.string r))) [([true, true], 2), ([], 3), ([], 4)] [false, false, false, false, false, true] (by kernel_rfl) (by kernel_rfl) (by kernel_rfl) HP3.out.2.2.2.c ?_
  simp only [wpSegs, pickB, List.dropLast_cons_cons, List.dropLast_singleton, List.getLast?_cons_cons, List.getLast?_singleton, List.toList_toArray, List.getElem?_toArray, List.getElem?_cons_succ, List.getElem?_cons_zero, Option.toList_some]
  repeat (go_big_quiet_step (fail))
  refine wpQuiet_nil ?_
  intro K hK
  go_wp2_with fail
  refine hK _ _ (HD.out.2.2.2.below AL.out HD.out.2.2.2.lt).c ?_
  clear hK K
  repeat (go_big_quiet_step (fail))
  refine wpQuiet_nil ?_
  intro K hK
  go_wp2_with fail
  refine (num_lit R ao1 len1 cap1 p2 8 w3.heap.size _ [1, 2, 0, 3, 1, 8, 9, -1] w3.drew HD.out.1 (by omega) rfl rfl (by decide) (by decide) rfl).mono ?_
  rintro e w4 ⟨x, hx, rfl, hrn, hgn⟩
  have hgn := grown_trans (World.grownBy_alloc w3.drew _ (some R)) hgn
  have hxw : (Lit.int .i64 x).wf = true := by
    simp only [List.mem_cons, List.not_mem_nil, or_false] at hx
    rcases hx with rfl | rfl | rfl | rfl | rfl | rfl | rfl | rfl <;> decide
  have HP4 := Lib.hid (show _ ∧ _ ∧ _ ∧ _ from ⟨hrn, HD.out.2.1.grown hgn (by have := HD.out.2.1.size; omega) (fun k hk => by cases hk; omega), Box.kept (row := some R) HD.out.2.2.1 hgn (by simp; omega), Box.kept (row := some R) HD.out.2.2.2 hgn (by simp; omega)⟩)
  clear hrn hgn hx HD AL
  go_wp2_with fail
  refine hK _ _ HP4.out.2.2.2.c ?_
  clear hK K
  repeat (go_big_quiet_step (fail))
  refine wpQuiet_nil ?_
  obtain ⟨z0, z1, z2⟩ := Box.c HP4.out.2.2.1
  have g0 := Box.free HP4.out.2.2.1 0
  have g1 := Box.free HP4.out.2.2.1 1
  have g2 := Box.free HP4.out.2.2.1 2
  intro K hK
  go_wp2_with fail
  refine hK _ _ (Box.kept (row := some w.heap.size) (Box.kept (row := some w.heap.size) (Box.kept (row := some w.heap.size) HP4.out.2.2.2 (grown_setCell _ _ _ _) (by simp; omega)) (grown_setCell _ _ _ _) (by simp; omega)) (grown_setCell _ _ _ _) (by simp; omega)).c ?_
  clear hK K
  repeat (go_big_quiet_step (fail))
  refine wpQuiet_nil ?_
  have HF := Lib.hid (ret_struct (w := w4) n s r HP4.out.2.2.1)
  have RES : Hid (Below w.heap.size w (((w4.setCell ⟨w.heap.size, 0, none⟩ (.int .i64 n)).setCell ⟨w.heap.size, 1, none⟩ (.string s)).setCell ⟨w.heap.size, 2, none⟩ (.string r))) := Below.setCell (Below.setCell (Below.setCell HP4.out.2.1 (by simp) _) (by simp) _) (by simp) _
  go_wp2
  exact bodyPost_ret (v := .tuple #[.agg #[.int .i64 n, .string s, .string r], .int .i64 x]) (by simp [results, Tryz.results5, go_sem, HF.out.1, HF.out.2.1, HF.out.2.2]) rfl ⟨n, s, r, x, rfl, hnw, hs, hr, hxw, RES.out⟩

set_option maxHeartbeats 1600000 in
theorem drawCounts_any (ao : Option Addr) (len cap : Nat) (w : World) (h : Byt w w.heap.size ao len) (hc : len ≤ cap) (hm : cap ≤ 9223372036854775807) :
    Calls Tryz.prog 12 #[.slice ao len cap] w (Drawn1 w) := by
  have B0 : Hid (Box 24 (w.alloc (.cells #[.int .i64 0, .string ⟨#[]⟩, .string ⟨#[]⟩] 24)) w.heap.size 0 ⟨#[]⟩ ⟨#[]⟩) := Box.new _ w _ rfl _ _ _
  have HBY := Lib.hid (Byt.up h (w' := w.alloc (.cells #[.int .i64 0, .string ⟨#[]⟩, .string ⟨#[]⟩] 24)) (R' := (w.alloc (.cells #[.int .i64 0, .string ⟨#[]⟩, .string ⟨#[]⟩] 24)).heap.size) (by simp) (fun k hk => heap_alloc_old w _ hk))
  clear h
  go_enter Tryz.func12, Tryz.ntmps12
  go_wp2_with fail
  refine (drawColours_any ao len cap _ HBY.out hc hm).mono ?_
  rintro e w2 ⟨n, s, r, x, rfl, hnw, hs, hr, hxw, hb⟩
  have HP2 := Lib.hid (show Below w.heap.size w w2 ∧ Box 24 w2 w.heap.size 0 ⟨#[]⟩ ⟨#[]⟩ from ⟨((Below.refl w.heap.size w).alloc (Nat.le_refl _) _).trans (hb.mono (by simp)), B0.out.below hb (by simp)⟩)
  clear hb B0 HBY
  obtain ⟨z0, z1, z2⟩ := Box.c HP2.out.2
  have g0 := Box.free HP2.out.2 0
  have g1 := Box.free HP2.out.2 1
  have g2 := Box.free HP2.out.2 2
  have HF := Lib.hid (ret_struct (w := w2) n s r HP2.out.2)
  have RES : Hid (Below w.heap.size w (((w2.setCell ⟨w.heap.size, 0, none⟩ (.int .i64 n)).setCell ⟨w.heap.size, 1, none⟩ (.string s)).setCell ⟨w.heap.size, 2, none⟩ (.string r))) := Below.setCell (Below.setCell (Below.setCell HP2.out.1 (by simp) _) (by simp) _) (by simp) _
  go_wp2
  exact bodyPost_ret (v := .tuple #[.agg #[.int .i64 n, .string s, .string r], .int .i64 x]) (by simp [results, Tryz.results12, go_sem, HF.out.1, HF.out.2.1, HF.out.2.2]) rfl ⟨n, s, r, x, rfl, hnw, hs, hr, hxw, RES.out⟩
end Go.Proofs.YtefneihlgclkbaaGreatDoor.draw
