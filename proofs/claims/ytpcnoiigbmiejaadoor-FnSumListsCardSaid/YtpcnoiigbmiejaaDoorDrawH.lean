/- The drawing of the arguments of StableColours, ColoursOf, ColourCounts. -/
import Derived.Test.YtpcnoiigbmiejaaDoorPkD
namespace Go.Proofs.YtpcnoiigbmiejaaDoor.draw
set_option linter.unusedVariables false
set_option linter.unusedSimpArgs false
open Go.ChangeShapes Go.WideShapes Go.ChangeAt Go.RowKit
open Go.Proofs.YtpcnoiigbmiejaaDoor.lib Go.Proofs.YtpcnoiigbmiejaaDoor.st Go.Proofs.YtpcnoiigbmiejaaDoor.flow Go.Proofs.YtpcnoiigbmiejaaDoor.chain

set_option maxHeartbeats 800000 in
theorem l1Open_any (R : Nat) (ao : Option Addr) (len cap p : Nat) (w : World) (h : Rd w R ao len cap p) (hp : p ≤ 80000000) :
    Calls Tryd.prog 61 #[.pointer (some ⟨R, 0, none⟩)] w (DrawnB w R ao len cap (p + 203)) := by
  have hRl := h.lt
  have H := Lib.hid h
  have B0 : Hid (Box 24 (w.alloc (.cells #[.int .i64 0, .string ⟨#[]⟩, .string ⟨#[]⟩] 24)) w.heap.size 0 ⟨#[]⟩ ⟨#[]⟩) := Box.new _ w _ rfl _ _ _
  clear h
  go_enter Tryd.func61, Tryd.ntmps61
  go_wp2_with fail
  refine (l1Some_any R ao len cap p _ (H.out.alloc _) (by omega)).mono ?_
  rintro e w1 ⟨N, s, r, p1, rfl, hN1, hN2, hs, hr, -, -, hrd, hp1, hg⟩
  have hNN : 1 ≤ r.size ∧ r.size ≤ 64 := by
    rw [hr]; exact ⟨Nat.mul_le_mul hN1 hN1, Nat.mul_le_mul hN2 hN2⟩
  have HP := Lib.hid (show _ ∧ _ ∧ _ from ⟨hrd, grown_trans (World.grownBy_alloc w _ _) hg, Box.kept (row := some R) B0.out hg (by simp; omega)⟩)
  clear hrd hg hr
  go_wp2_with fail
  refine (l1Bad_any R ao len cap p1 N s r _ HP.out.1 (by omega) hN2 hs hNN.1 hNN.2).mono ?_
  rintro e w2 ⟨n, s2, r2, p2, rfl, hnw, hs2, hr2, hrd, hp2, hg⟩
  have hb0 := Box.kept (row := some R) HP.out.2.2 hg (by simp; omega)
  have HF := Lib.hid (ret_struct (w := w2) n s2 r2 hb0)
  obtain ⟨z0, z1, z2⟩ := hb0.c
  have g0 := hb0.free 0
  have g1 := hb0.free 1
  have g2 := hb0.free 2
  have RES : Hid (Rd (((w2.setCell ⟨w.heap.size, 0, none⟩ (.int .i64 n)).setCell ⟨w.heap.size, 1, none⟩ (.string s2)).setCell ⟨w.heap.size, 2, none⟩ (.string r2)) R ao len cap p2 ∧ w.grownBy (((w2.setCell ⟨w.heap.size, 0, none⟩ (.int .i64 n)).setCell ⟨w.heap.size, 1, none⟩ (.string s2)).setCell ⟨w.heap.size, 2, none⟩ (.string r2)) (some R)) :=
    ⟨((hrd.setNew hRl).setNew hRl).setNew hRl, grown_new (grown_new (grown_new (grown_trans HP.out.2.1 hg) (Nat.le_refl _)) (Nat.le_refl _)) (Nat.le_refl _)⟩
  clear hrd hg hb0
  go_wp2
  exact bodyPost_ret (v := .agg #[.int .i64 n, .string s2, .string r2]) (by simp [results, Tryd.results61, go_sem, HF.out.1, HF.out.2.1, HF.out.2.2]) rfl ⟨n, s2, r2, p2, rfl, hnw, hs2, hr2, RES.out.1, by omega, RES.out.2⟩


end Go.Proofs.YtpcnoiigbmiejaaDoor.draw
