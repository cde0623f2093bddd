/- The drawing of the arguments of BallClasses. -/
import Derived.Test.YtefneihlgclkbaaDoorPkD
namespace Go.Proofs.YtefneihlgclkbaaDoor.draw
set_option linter.unusedVariables false
set_option linter.unusedSimpArgs false
open Go.ChangeShapes Go.WideShapes Go.ChangeAt Go.RowKit
open Go.Proofs.YtefneihlgclkbaaDoor.lib Go.Proofs.YtefneihlgclkbaaDoor.st Go.Proofs.YtefneihlgclkbaaDoor.flow Go.Proofs.YtefneihlgclkbaaDoor.chain

set_option maxHeartbeats 3200000 in
theorem drawClasses_any (ao : Option Addr) (len cap : Nat) (w : World) (h : Byt w w.heap.size ao len) (hc : len ≤ cap) (hm : cap ≤ 9223372036854775807) :
    Calls Tryd.prog 39 #[.slice ao len cap] w (Drawn1 w) := by
  have B0 : Hid (Box 24 (w.alloc (.cells #[.int .i64 0, .string ⟨#[]⟩, .string ⟨#[]⟩] 24)) w.heap.size 0 ⟨#[]⟩ ⟨#[]⟩) := Box.new _ w _ rfl _ _ _
  have HBY := Lib.hid (Byt.up h (w' := w.alloc (.cells #[.int .i64 0, .string ⟨#[]⟩, .string ⟨#[]⟩] 24)) (R' := (w.alloc (.cells #[.int .i64 0, .string ⟨#[]⟩, .string ⟨#[]⟩] 24)).heap.size) (by simp) (fun k hk => heap_alloc_old w _ hk))
  clear h
  go_enter Tryd.func39, Tryd.ntmps39
  go_wp2_with fail
  refine (open_any ao len cap _ HBY.out hc hm).mono ?_
  rintro e w1 ⟨R, ao1, len1, cap1, rfl, hrd, hR, hb⟩
  simp only [World.size_alloc] at hR
  have HP1 := Lib.hid (show _ ∧ _ from ⟨hrd, ((Below.refl w.heap.size w).alloc (Nat.le_refl _) _).trans (hb.mono (by simp))⟩)
  have BX1 := Lib.hid (B0.out.below hb (by simp))
  clear hrd hb
  go_wp2_with fail
  refine (l9Open_any R ao1 len1 cap1 0 _ HP1.out.1 (by omega)).mono ?_
  rintro e w2 ⟨n, s, r, p2, rfl, hnw, hs, hr, hrd, hp2, hg⟩
  have hRA : R < w2.heap.size := hrd.lt
  have hwA : w.heap.size < R := by omega
  have HP2 := Lib.hid (show _ ∧ _ ∧ _ from ⟨hrd, HP1.out.2.grown hg HP1.out.2.size (fun k hk => by cases hk; omega), Box.kept (row := some R) BX1.out hg (by simp; omega)⟩)
  have hpp : p2 ≤ 302 := by omega
  clear hrd hg hp2
  obtain ⟨HA, hHA⟩ : ∃ HA, HA = w2.heap.size := ⟨_, rfl⟩
  have BXA : Hid (Box 24 (w2.alloc (.cells #[.int .i64 n, .string s, .string r] 24)) HA n s r) := by rw [hHA]; exact Box.new _ _ _ rfl _ _ _
  obtain ⟨w3, hw3⟩ : ∃ q, q = w2.alloc (.cells #[.int .i64 n, .string s, .string r] 24) := ⟨_, rfl⟩
  rw [← hHA] at hRA
  have HP3 : Hid (Rd w3 R ao1 len1 cap1 p2 ∧ Below w.heap.size w w3 ∧ Box 24 w3 w.heap.size 0 ⟨#[]⟩ ⟨#[]⟩ ∧ Box 24 w3 HA n s r) := by
    rw [hw3]
    exact ⟨HP2.out.1.alloc _, HP2.out.2.1.alloc (by have := HP2.out.2.1.size; omega) _, HP2.out.2.2.below ((Below.refl HA _).alloc (by omega) _) (by omega), BXA.out⟩
  go_wp2_with fail
  rw [← hw3, ← hHA]
  clear hw3 hHA BXA
  have c0 : ∀ X : Wd (fun X => X.cell? ⟨HA, 0, none⟩ = some (.int .i64 n) ∧ X.cell? ⟨HA, 1, none⟩ = some (.string s) ∧ X.cell? ⟨HA, 2, none⟩ = some (.string r)), X.w.cell? ⟨HA, 0, none⟩ = some (.int .i64 n) := fun X => X.ok.1
  have c1 : ∀ X : Wd (fun X => X.cell? ⟨HA, 0, none⟩ = some (.int .i64 n) ∧ X.cell? ⟨HA, 1, none⟩ = some (.string s) ∧ X.cell? ⟨HA, 2, none⟩ = some (.string r)), X.w.cell? ⟨HA, 1, none⟩ = some (.string s) := fun X => X.ok.2.1
  have c2 : ∀ X : Wd (fun X => X.cell? ⟨HA, 0, none⟩ = some (.int .i64 n) ∧ X.cell? ⟨HA, 1, none⟩ = some (.string s) ∧ X.cell? ⟨HA, 2, none⟩ = some (.string r)), X.w.cell? ⟨HA, 2, none⟩ = some (.string r) := fun X => X.ok.2.2
  have hne : Nonempty (Wd (fun X => X.cell? ⟨HA, 0, none⟩ = some (.int .i64 n) ∧ X.cell? ⟨HA, 1, none⟩ = some (.string s) ∧ X.cell? ⟨HA, 2, none⟩ = some (.string r))) := ⟨⟨w3, HP3.out.2.2.2.c⟩⟩
  refine chain (S := (fun X => X.cell? ⟨HA, 0, none⟩ = some (.int .i64 n) ∧ X.cell? ⟨HA, 1, none⟩ = some (.string s) ∧ X.cell? ⟨HA, 2, none⟩ = some (.string r))) [([true, true], 2), ([], 3)] [false, false, false, false, true] (by kernel_rfl) (by kernel_rfl) (by kernel_rfl) HP3.out.2.2.2.c ?_
  simp only [wpSegs, pickB, List.dropLast_cons_cons, List.dropLast_singleton, List.getLast?_cons_cons, List.getLast?_singleton, List.toList_toArray, List.getElem?_toArray, List.getElem?_cons_succ, List.getElem?_cons_zero, Option.toList_some]
  repeat (go_big_quiet_step (fail))
  refine wpQuiet_nil ?_
  intro K hK
  go_wp2_with fail
  have HD := Lib.hid (show Rd w3.drew R ao1 len1 cap1 p2 ∧ Below w.heap.size w w3.drew ∧ Box 24 w3.drew w.heap.size 0 ⟨#[]⟩ ⟨#[]⟩ ∧ Box 24 w3.drew HA n s r from ⟨HP3.out.1.drew, HP3.out.2.1.drew, Box.drew HP3.out.2.2.1, Box.drew HP3.out.2.2.2⟩)
  refine (l9Distance_any R ao1 len1 cap1 p2 _ HD.out.1 (by omega)).mono ?_
  rintro e w4 ⟨x, rfl, hxw, hrn, hgn⟩
  have HP4 := Lib.hid (show _ ∧ _ ∧ _ ∧ _ from ⟨hrn, HD.out.2.1.grown hgn (by have := HD.out.2.1.size; omega) (fun k hk => by cases hk; omega), Box.kept (row := some R) HD.out.2.2.1 hgn (by simp; omega), Box.kept (row := some R) HD.out.2.2.2 hgn (by simp; omega)⟩)
  clear hrn hgn
  go_wp2_with fail
  refine hK _ _ HP4.out.2.2.2.c ?_
  clear hK K
  obtain ⟨z0, z1, z2⟩ := Box.c HP4.out.2.2.1
  have g0 := Box.free HP4.out.2.2.1 0
  have g1 := Box.free HP4.out.2.2.1 1
  have g2 := Box.free HP4.out.2.2.1 2
  repeat (go_big_quiet_step (fail))
  refine wpQuiet_nil ?_
  intro K hK
  go_wp2_with fail
  refine hK _ _ (Box.kept (row := some w.heap.size) (Box.kept (row := some w.heap.size) (Box.kept (row := some w.heap.size) HP4.out.2.2.2 (grown_setCell _ _ _ _) (by simp; omega)) (grown_setCell _ _ _ _) (by simp; omega)) (grown_setCell _ _ _ _) (by simp; omega)).c ?_
  clear hK K
  repeat (go_big_quiet_step (fail))
  refine wpQuiet_nil ?_
  have HF := Lib.hid (ret_struct (w := w4) n s r HP4.out.2.2.1)
  have RES : Hid (Below w.heap.size w (((w4.setCell ⟨w.heap.size, 0, none⟩ (.int .i64 n)).setCell ⟨w.heap.size, 1, none⟩ (.string s)).setCell ⟨w.heap.size, 2, none⟩ (.string r))) := Below.setCell (Below.setCell (Below.setCell HP4.out.2.1 (by simp) _) (by simp) _) (by simp) _
  go_wp2
  exact bodyPost_ret (v := .tuple #[.agg #[.int .i64 n, .string s, .string r], .int .i64 x]) (by simp [results, Tryd.results39, go_sem, HF.out.1, HF.out.2.1, HF.out.2.2]) rfl ⟨n, s, r, x, rfl, hnw, hs, hr, dist_wf x hxw, RES.out⟩
end Go.Proofs.YtefneihlgclkbaaDoor.draw
