/- The drawing of the arguments of StableColours, ColoursOf, ColourCounts. -/
import Derived.Test.YtpcnoiigbmiejaaGreatDoorPkD
namespace Go.Proofs.YtpcnoiigbmiejaaGreatDoor.draw
set_option linter.unusedVariables false
set_option linter.unusedSimpArgs false
open Go.ChangeShapes Go.WideShapes Go.ChangeAt Go.RowKit
open Go.Proofs.YtpcnoiigbmiejaaGreatDoor.lib Go.Proofs.YtpcnoiigbmiejaaGreatDoor.st Go.Proofs.YtpcnoiigbmiejaaGreatDoor.flow Go.Proofs.YtpcnoiigbmiejaaGreatDoor.chain

set_option maxHeartbeats 800000 in
theorem l1Open_any (R : Nat) (ao : Option Addr) (len cap p : Nat) (w : World) (h : Rd w R ao len cap p) (hp : p ≤ 80000000) :
    Calls Tryz.prog 50 #[.pointer (some ⟨R, 0, none⟩)] w (DrawnB w R ao len cap (p + 203)) := by
  have hRl := h.lt
  have H := Lib.hid h
  have B0 : Hid (Box 24 (w.alloc (.cells #[.int .i64 0, .string ⟨#[]⟩, .string ⟨#[]⟩] 24)) w.heap.size 0 ⟨#[]⟩ ⟨#[]⟩) := Box.new _ w _ rfl _ _ _
  clear h
  go_enter Tryz.func50, Tryz.ntmps50
  go_wp2_with fail
  refine (l1Some_any R ao len cap p _ (H.out.alloc _) (by omega)).mono ?_
  rintro e w1 ⟨N, s, r, p1, rfl, hN1, hN2, hs, hr, -, -, hrd, hp1, hg⟩
  have hNN : 1 ≤ r.size ∧ r.size ≤ 64 := by
    rw [hr]; exact ⟨Nat.mul_le_mul hN1 hN1, Nat.mul_le_mul hN2 hN2⟩
  have HP := Lib.hid (show _ ∧ _ ∧ _ from ⟨hrd, grown_trans (World.grownBy_alloc w _ _) hg, Box.kept (row := some R) B0.out hg (by simp; omega)⟩)
  clear hrd hg hr
  go_wp2_with fail
  refine (l1Bad_any R ao len cap p1 N s r _ HP.out.1 (by omega) hN2 hs hNN.1 hNN.2).mono ?_
  rintro e w2 ⟨n, s2, r2, p2, rfl, hnw, hs2, hr2, hrd, hp2, hg⟩
  have hb0 := Box.kept (row := some R) HP.out.2.2 hg (by simp; omega)
  have HF := Lib.hid (ret_struct (w := w2) n s2 r2 hb0)
  obtain ⟨z0, z1, z2⟩ := hb0.c
  have g0 := hb0.free 0
  have g1 := hb0.free 1
  have g2 := hb0.free 2
  have RES : Hid (Rd (((w2.setCell ⟨w.heap.size, 0, none⟩ (.int .i64 n)).setCell ⟨w.heap.size, 1, none⟩ (.string s2)).setCell ⟨w.heap.size, 2, none⟩ (.string r2)) R ao len cap p2 ∧ w.grownBy (((w2.setCell ⟨w.heap.size, 0, none⟩ (.int .i64 n)).setCell ⟨w.heap.size, 1, none⟩ (.string s2)).setCell ⟨w.heap.size, 2, none⟩ (.string r2)) (some R)) :=
    ⟨((hrd.setNew hRl).setNew hRl).setNew hRl, grown_new (grown_new (grown_new (grown_trans HP.out.2.1 hg) (Nat.le_refl _)) (Nat.le_refl _)) (Nat.le_refl _)⟩
  clear hrd hg hb0
  go_wp2
  exact bodyPost_ret (v := .agg #[.int .i64 n, .string s2, .string r2]) (by simp [results, Tryz.results50, go_sem, HF.out.1, HF.out.2.1, HF.out.2.2]) rfl ⟨n, s2, r2, p2, rfl, hnw, hs2, hr2, RES.out.1, by omega, RES.out.2⟩


set_option maxHeartbeats 1600000 in
theorem drawStable_any (ao : Option Addr) (len cap : Nat) (w : World) (h : Byt w w.heap.size ao len) (hc : len ≤ cap) (hm : cap ≤ 9223372036854775807) :
    Calls Tryz.prog 22 #[.slice ao len cap] w (Drawn0 w) := by
  have B0 : Hid (Box 24 (w.alloc (.cells #[.int .i64 0, .string ⟨#[]⟩, .string ⟨#[]⟩] 24)) w.heap.size 0 ⟨#[]⟩ ⟨#[]⟩) := Box.new _ w _ rfl _ _ _
  have HBY := Lib.hid (Byt.up h (w' := w.alloc (.cells #[.int .i64 0, .string ⟨#[]⟩, .string ⟨#[]⟩] 24)) (R' := (w.alloc (.cells #[.int .i64 0, .string ⟨#[]⟩, .string ⟨#[]⟩] 24)).heap.size) (by simp) (fun k hk => heap_alloc_old w _ hk))
  clear h
  go_enter Tryz.func22, Tryz.ntmps22
  go_wp2_with fail
  refine (open_any ao len cap _ HBY.out hc hm).mono ?_
  rintro e w1 ⟨R, ao1, len1, cap1, rfl, hrd, hR, hb⟩
  simp only [World.size_alloc] at hR
  have HP1 := Lib.hid (show _ ∧ _ from ⟨hrd, ((Below.refl w.heap.size w).alloc (Nat.le_refl _) _).trans (hb.mono (by simp))⟩)
  have BX1 := Lib.hid (B0.out.below hb (by simp))
  clear hrd hb
  go_wp2_with fail
  refine (pick_any R ao1 len1 cap1 0 3 _ HP1.out.1 (by omega) (by omega) (by omega)).mono ?_
  rintro e w2 ⟨v, hv3, rfl, hrd, hg⟩
  have hRA : R < w2.heap.size := hrd.lt
  have hwA : w.heap.size < R := by omega
  have HP2 := Lib.hid (show _ ∧ _ ∧ _ from ⟨hrd, HP1.out.2.grown hg HP1.out.2.size (fun k hk => by cases hk; omega), Box.kept (row := some R) BX1.out hg (by simp; omega)⟩)
  clear hrd hg HP1 BX1
  by_cases h0 : v = 0
  · have t1 : ((v : Int) == 0) = true := by simp [h0]
    clear h0
    go_wp2_with fail
    refine (l1Draw_any R ao1 len1 cap1 _ 8 _ HP2.out.1 (by omega) (by omega) (by omega)).mono ?_
    rintro e w3 ⟨s, r, p2, rfl, hs, hr, -, -, hrd, hp2, hg⟩
    have HP3 := Lib.hid (show _ ∧ _ ∧ _ from ⟨hrd, HP2.out.2.1.grown hg HP2.out.2.1.size (fun k hk => by cases hk; omega), Box.kept (row := some R) HP2.out.2.2 hg (by simp; omega)⟩)
    clear hrd hg t1
    have hs' : s.size ≤ 100 := by omega
    have hr' : r.size ≤ 100 := by omega
    have HF := Lib.hid (ret_struct (w := w3) 8 s r HP3.out.2.2)
    obtain ⟨z0, z1, z2⟩ := Box.c HP3.out.2.2
    have g0 := Box.free HP3.out.2.2 0
    have g1 := Box.free HP3.out.2.2 1
    have g2 := Box.free HP3.out.2.2 2
    have RES : Hid (Below w.heap.size w (((w3.setCell ⟨w.heap.size, 0, none⟩ (.int .i64 8)).setCell ⟨w.heap.size, 1, none⟩ (.string s)).setCell ⟨w.heap.size, 2, none⟩ (.string r))) := Below.setCell (Below.setCell (Below.setCell HP3.out.2.1 (by simp) _) (by simp) _) (by simp) _
    go_wp2
    exact bodyPost_ret (v := .agg #[.int .i64 8, .string s, .string r]) (by simp [results, Tryz.results22, go_sem, HF.out.1, HF.out.2.1, HF.out.2.2]) rfl ⟨8, s, r, rfl, (by decide), hs', hr', RES.out⟩
  · have t1 : ((v : Int) == 0) = false := by simp; omega
    clear h0
    go_wp2_with fail
    refine (l1Open_any R ao1 len1 cap1 _ _ HP2.out.1 (by omega)).mono ?_
    rintro e w3 ⟨n, s, r, p2, rfl, hnw, hs, hr, hrd, hp2, hg⟩
    have HP3 := Lib.hid (show _ ∧ _ ∧ _ from ⟨hrd, HP2.out.2.1.grown hg HP2.out.2.1.size (fun k hk => by cases hk; omega), Box.kept (row := some R) HP2.out.2.2 hg (by simp; omega)⟩)
    clear hrd hg t1
    have HF := Lib.hid (ret_struct (w := w3) n s r HP3.out.2.2)
    obtain ⟨z0, z1, z2⟩ := Box.c HP3.out.2.2
    have g0 := Box.free HP3.out.2.2 0
    have g1 := Box.free HP3.out.2.2 1
    have g2 := Box.free HP3.out.2.2 2
    have RES : Hid (Below w.heap.size w (((w3.setCell ⟨w.heap.size, 0, none⟩ (.int .i64 n)).setCell ⟨w.heap.size, 1, none⟩ (.string s)).setCell ⟨w.heap.size, 2, none⟩ (.string r))) := Below.setCell (Below.setCell (Below.setCell HP3.out.2.1 (by simp) _) (by simp) _) (by simp) _
    go_wp2
    exact bodyPost_ret (v := .agg #[.int .i64 n, .string s, .string r]) (by simp [results, Tryz.results22, go_sem, HF.out.1, HF.out.2.1, HF.out.2.2]) rfl ⟨n, s, r, rfl, hnw, hs, hr, RES.out⟩

end Go.Proofs.YtpcnoiigbmiejaaGreatDoor.draw
