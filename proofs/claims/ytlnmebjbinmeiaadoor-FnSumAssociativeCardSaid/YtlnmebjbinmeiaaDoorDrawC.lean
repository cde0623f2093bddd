/- The drawing of a structure with few related elements: l9Draw. -/
import Derived.Test.YtlnmebjbinmeiaaDoorDrawB
namespace Go.Proofs.YtlnmebjbinmeiaaDoor.draw
set_option linter.unusedVariables false
set_option linter.unusedSimpArgs false
open Go.ChangeShapes Go.WideShapes Go.ChangeAt Go.RowKit
open Go.Proofs.YtlnmebjbinmeiaaDoor.lib Go.Proofs.YtlnmebjbinmeiaaDoor.st Go.Proofs.YtlnmebjbinmeiaaDoor.flow Go.Proofs.YtlnmebjbinmeiaaDoor.chain

theorem add4 (k x N : Nat) (h : k = x * N + N) : k = (x + 1) * N := by rw [Nat.succ_mul]; exact h

set_option maxHeartbeats 3200000 in
set_option maxRecDepth 100000 in
theorem l9Draw_any (R : Nat) (ao : Option Addr) (len cap p : Nat) (w : World) (h : Rd w R ao len cap p) (hp : p ≤ 80000000) :
    Calls Tryd.prog 112 #[.pointer (some ⟨R, 0, none⟩)] w (DrawnS w R ao len cap (p + 300)) := by
  have hRl := h.lt
  have H := Lib.hid h
  have B0 : Hid (Box 25 (w.alloc (.cells #[.int .i64 0, .string ⟨#[]⟩, .string ⟨#[]⟩] 25)) w.heap.size 0 ⟨#[]⟩ ⟨#[]⟩) := Box.new _ w _ rfl _ _ _
  clear h
  go_enter Tryd.func112, Tryd.ntmps112
  go_wp2_with fail
  refine (num_lit R ao len cap p 6 (w.heap.size + 1) _ [4, 5, 3, 6, 2, 1] _ (H.out.alloc _) (by omega) rfl rfl (by decide) (by decide) (by simp)).mono ?_
  rintro e w1 ⟨x, hx, rfl, hr, hg⟩
  obtain ⟨N, rfl, hN1, hN2⟩ : ∃ N : Nat, x = N ∧ 1 ≤ N ∧ N ≤ 6 := by
    simp at hx
    exact ⟨x.toNat, by omega, by omega, by omega⟩
  have HP1 := Lib.hid (show _ ∧ _ ∧ _ from ⟨hr, grown_trans (grown_alloc (World.grownBy_alloc w _ _) _) hg, Box.kept (row := some R) (B0.out.below ((Below.refl (w.heap.size + 1) _).alloc (by simp) _) (by omega)) hg (by simp; omega)⟩)
  clear hr hg hx
  obtain ⟨HX, hHX⟩ : ∃ HX, HX = w1.heap.size := ⟨_, rfl⟩
  have hHR : R < HX := by have := HP1.out.1.lt; omega
  have hHw1 : w.heap.size < HX := by have := HP1.out.2.2.lt; omega
  have hHw : w.heap.size ≤ HX := by omega
  have START : Hid (Dw w R ao len cap HX N 0 (0 * N) (p + 1 + 0 * 13) (w1.alloc (.cells #[.int .i64 N, .string ⟨#[]⟩, .string ⟨#[]⟩] 25))) :=
    ⟨⟨#[]⟩, ⟨#[]⟩, p + 1, Box.new _ w1 _ hHX.symm _ _ _, rfl, by simp; rfl, rfl, rfl, HP1.out.1.alloc _, by omega, grown_alloc HP1.out.2.1 _, Box.kept (row := none) HP1.out.2.2 (World.grownBy_alloc _ _ _) (by simp)⟩
  go_wp2_with fail
  rw [← hHX]
  have HHX := Lib.hid hHX
  clear hHX
  go_loopw [5] (fun i wr => ∃ x : Nat, x ≤ N ∧ i = .int .i64 x ∧ Dw w R ao len cap HX N x (x * N) (p + 1 + x * 13) wr) (fun i _ => N - (intOf i).toNat)
  case atStart => exact ⟨0, Nat.zero_le _, rfl, START.out⟩
  case round =>
    clear START
    obtain ⟨x, hx, rfl, s, r, p', hbox, hsz, hrz, hsb, hrb, hrd, hpp, hgr, hb0⟩ := hrel
    obtain ⟨b0, b1, b2⟩ := hbox.c
    have f1 := hbox.free 1
    have HQ := Lib.hid (show _ ∧ _ ∧ _ ∧ _ ∧ _ ∧ _ ∧ _ ∧ _ ∧ _ from ⟨hbox, hsz, hrz, hsb, hrb, hrd, hpp, hgr, hb0⟩)
    clear hbox hsz hrz hsb hrb hrd hpp hgr hb0
    by_cases hxn : x < N
    · have hss : s.size ≤ 100 := by have := HQ.out.2.1; omega
      go_wp2_with fail
      have cb : ∀ X : Wd (fun X => X.cell? ⟨HX, 1, none⟩ = some (.string s)), X.w.cell? ⟨HX, 1, none⟩ = some (.string s) := fun X => X.ok
      have hne : Nonempty (Wd (fun X => X.cell? ⟨HX, 1, none⟩ = some (.string s))) := ⟨⟨wr, b1⟩⟩
      refine chain_last (S := (fun X => X.cell? ⟨HX, 1, none⟩ = some (.string s))) [([true, true, true], 3), ([false, false, false, false, true], 5)] [false, false, false, false, false, false, true, true] (by kernel_rfl) (by kernel_rfl) (by kernel_rfl) (by kernel_rfl) (by kernel_rfl) (by kernel_rfl) (by simpa using b1) ?_
      simp only [wpSegs, pickB, List.dropLast_cons_cons, List.dropLast_singleton, List.getLast?_cons_cons, List.getLast?_singleton, List.toList_toArray, List.getElem?_toArray, List.getElem?_cons_succ, List.getElem?_cons_zero, Option.toList_some]
      repeat (go_big_quiet_step (fail))
      refine wpQuiet_nil ?_
      intro K hK
      go_wp2_with fail
      refine (pick_any R ao len cap p' 6 _ HQ.out.2.2.2.2.2.1.drew (by have := HQ.out.2.2.2.2.2.2.1; omega) (by omega) (by omega)).mono ?_
      rintro e w2 ⟨v2, hv2, rfl, hr, hg⟩
      have b2 := hg.cell (show World.cell? wr.drew ⟨HX, 1, none⟩ = some (.string s) by simpa using b1) (by simp; omega)
      have HP2 := Lib.hid (show _ ∧ _ ∧ _ ∧ _ from ⟨hr, grown_trans (grown_drew HQ.out.2.2.2.2.2.2.2.1) hg, Box.kept (row := some R) (Box.drew HQ.out.1) hg (by simp; omega), Box.kept (row := some R) (Box.drew HQ.out.2.2.2.2.2.2.2.2) hg (by simp; omega)⟩)
      have f2 := HP2.out.2.2.1.free 1
      clear hr hg
      have hadd := addS s ((v2 : Int) == 0) hss
      go_wp2_with fail
      refine hK _ _ b2 ?_
      clear hK K
      repeat (go_big_quiet_step (fail))
      refine wpQuiet_nil ?_
      intro K hK
      go_wp2_with fail
      refine (l1Bit_draw _ _).mono ?_
      rintro e X ⟨rfl, rfl⟩
      go_wp2_with fail
      refine hK _ _ b2 ?_
      clear hK K
      repeat (go_big_quiet_step (fail))
      refine wpQuiet_nil ?_
      show wpList _ _ _ _ _ _
      have IN : Hid (Dw w R ao len cap HX N (x + 1) (x * N + 0) (p + 1 + x * 13 + 1 + 2 * 0) (w2.setCell ⟨HX, 1, none⟩ (.string (s ++ bitS ((v2 : Int) == 0))))) :=
        ⟨_, _, p' + 1, Box.set1 HP2.out.2.2.1 _, by rw [(allB_push s ((v2 : Int) == 0) HQ.out.2.2.2.1).2, HQ.out.2.1], by simpa using HQ.out.2.2.1, (allB_push s ((v2 : Int) == 0) HQ.out.2.2.2.1).1, HQ.out.2.2.2.2.1, Rd.setNew HP2.out.1 hHR, by have := HQ.out.2.2.2.2.2.2.1; omega, grown_new HP2.out.2.1 hHw, Box.kept (row := some HX) HP2.out.2.2.2 (grown_setCell _ _ _ _) (by simp; omega)⟩
      go_wp2_with fail
      clear hadd cb hne HP2 b2 f2 HQ b0 b1 f1
      go_loopw [6] (fun i wr => ∃ y : Nat, y ≤ N ∧ i = .int .i64 y ∧ Dw w R ao len cap HX N (x + 1) (x * N + y) (p + 1 + x * 13 + 1 + 2 * y) wr) (fun i _ => N - (intOf i).toNat)
      case atStart => exact ⟨0, Nat.zero_le _, rfl, IN.out⟩
      case round =>
        clear IN
        obtain ⟨y, hy, rfl, s, r, p', hbox, hsz, hrz, hsb, hrb, hrd, hpp, hgr, hb0⟩ := hrel
        obtain ⟨b0, b1, b2⟩ := hbox.c
        have f2 := hbox.free 2
        have HQ := Lib.hid (show _ ∧ _ ∧ _ ∧ _ ∧ _ ∧ _ ∧ _ ∧ _ ∧ _ from ⟨hbox, hsz, hrz, hsb, hrb, hrd, hpp, hgr, hb0⟩)
        clear hbox hsz hrz hsb hrb hrd hpp hgr hb0
        by_cases hyn : y < N
        · have hrz : r.size ≤ 100 := by have h1 := HQ.out.2.2.1; have h2 : x * N ≤ 6 * 6 := Nat.mul_le_mul (by omega) hN2; omega
          go_wp2_with fail
          have cb : ∀ X : Wd (fun X => X.cell? ⟨HX, 2, none⟩ = some (.string r)), X.w.cell? ⟨HX, 2, none⟩ = some (.string r) := fun X => X.ok
          have hne : Nonempty (Wd (fun X => X.cell? ⟨HX, 2, none⟩ = some (.string r))) := ⟨⟨wr, b2⟩⟩
          refine chain_last (S := (fun X => X.cell? ⟨HX, 2, none⟩ = some (.string r))) [([true, true, true, true, true], 5), ([false, false, false, false, false, false, true, true, true, true, true, true, true, true], 14), ([false, false, false, false, false, false, false, false, false, false, false, false, false, false, false, true, true, true], 18)] [false, false, false, false, false, false, false, false, false, false, false, false, false, false, false, false, false, false, false, true, true] (by kernel_rfl) (by kernel_rfl) (by kernel_rfl) (by kernel_rfl) (by kernel_rfl) (by kernel_rfl) (by simpa using b2) ?_
          simp only [wpSegs, pickB, List.dropLast_cons_cons, List.dropLast_singleton, List.getLast?_cons_cons, List.getLast?_singleton, List.toList_toArray, List.getElem?_toArray, List.getElem?_cons_succ, List.getElem?_cons_zero, Option.toList_some]
          repeat (go_big_quiet_step (fail))
          refine wpQuiet_nil ?_
          intro K hK
          go_wp2_with fail
          refine (pick_any R ao len cap p' (N + 2) _ HQ.out.2.2.2.2.2.1.drew (by have := HQ.out.2.2.2.2.2.2.1; omega) (by omega) (by omega)).mono ?_
          rintro e w3 ⟨v3, hv3, rfl, hr, hg⟩
          have b3 := hg.cell (show World.cell? wr.drew ⟨HX, 2, none⟩ = some (.string r) by simpa using b2) (by simp; omega)
          have HP3 := Lib.hid (show _ ∧ _ ∧ _ ∧ _ from ⟨hr, grown_trans (grown_drew HQ.out.2.2.2.2.2.2.2.1) hg, Box.kept (row := some R) (Box.drew HQ.out.1) hg (by simp; omega), Box.kept (row := some R) (Box.drew HQ.out.2.2.2.2.2.2.2.2) hg (by simp; omega)⟩)
          have f3 := HP3.out.2.2.1.free 2
          clear hr hg
          go_wp2_with fail
          refine hK _ _ b3 ?_
          clear hK K
          by_cases hv0 : v3 = 0
          · have t0 : ((v3 : Int) == 0) = true := by simp; omega
            have hadd := addS r true hrz
            repeat (go_big_quiet_step (fail))
            refine wpQuiet_nil ?_
            intro K hK
            go_wp2_with fail
            refine hK _ _ b3 ?_
            clear hK K
            repeat (go_big_quiet_step (fail))
            refine wpQuiet_nil ?_
            intro K hK
            go_wp2_with fail
            refine (l1Bit_draw _ _).mono ?_
            rintro e X ⟨rfl, rfl⟩
            go_wp2_with fail
            refine hK _ _ b3 ?_
            clear hK K
            repeat (go_big_quiet_step (fail))
            refine wpQuiet_nil ?_
            show wpList _ _ _ _ _ _
            have RN : Hid (Dw w R ao len cap HX N (x + 1) (x * N + (y + 1)) (p + 1 + x * 13 + 1 + 2 * (y + 1)) (w3.setCell ⟨HX, 2, none⟩ (.string (r ++ bitS true)))) :=
              ⟨_, _, p' + 1, Box.set2 HP3.out.2.2.1 _, HQ.out.2.1, by rw [(allB_push r true HQ.out.2.2.2.2.1).2, HQ.out.2.2.1]; rfl, HQ.out.2.2.2.1, (allB_push r true HQ.out.2.2.2.2.1).1, Rd.setNew HP3.out.1 hHR, by have := HQ.out.2.2.2.2.2.2.1; omega, grown_new HP3.out.2.1 hHw, Box.kept (row := some HX) HP3.out.2.2.2 (grown_setCell _ _ _ _) (by simp; omega)⟩
            clear cb hne
            go_wp2_with fail
            go_roundw
            case rel => exact ⟨y + 1, by omega, by go_num, RN.out⟩
            case measure => simp [intOf]; omega
          · by_cases hyx : y = x + 1
            · have t0 : ((v3 : Int) == 0) = false := by simp; omega
              have ty : ((y : Int) == (x : Int) + 1) = true := by simp; omega
              repeat (go_big_quiet_step (fail))
              refine wpQuiet_nil ?_
              intro K hK
              go_wp2_with fail
              refine (pick_any R ao len cap (p' + 1) 3 _ HP3.out.1 (by have := HQ.out.2.2.2.2.2.2.1; omega) (by omega) (by omega)).mono ?_
              rintro e w4 ⟨v4, hv4, rfl, hr, hg⟩
              have b4 := hg.cell (show World.cell? w3 ⟨HX, 2, none⟩ = some (.string r) by simpa using b3) (by simp; omega)
              have HP4 := Lib.hid (show _ ∧ _ ∧ _ ∧ _ from ⟨hr, grown_trans HP3.out.2.1 hg, Box.kept (row := some R) HP3.out.2.2.1 hg (by simp; omega), Box.kept (row := some R) HP3.out.2.2.2 hg (by simp; omega)⟩)
              have f4 := HP4.out.2.2.1.free 2
              clear hr hg
              have hadd := addS r (decide (0 < v4)) hrz
              go_wp2_with fail
              refine hK _ _ b4 ?_
              clear hK K
              repeat (go_big_quiet_step (fail))
              refine wpQuiet_nil ?_
              intro K hK
              go_wp2_with fail
              refine (l1Bit_draw _ _).mono ?_
              rintro e X ⟨rfl, rfl⟩
              go_wp2_with fail
              refine hK _ _ b4 ?_
              clear hK K
              repeat (go_big_quiet_step (fail))
              refine wpQuiet_nil ?_
              show wpList _ _ _ _ _ _
              have RN : Hid (Dw w R ao len cap HX N (x + 1) (x * N + (y + 1)) (p + 1 + x * 13 + 1 + 2 * (y + 1)) (w4.setCell ⟨HX, 2, none⟩ (.string (r ++ bitS (decide (0 < v4)))))) :=
                ⟨_, _, p' + 2, Box.set2 HP4.out.2.2.1 _, HQ.out.2.1, by rw [(allB_push r (decide (0 < v4)) HQ.out.2.2.2.2.1).2, HQ.out.2.2.1]; rfl, HQ.out.2.2.2.1, (allB_push r (decide (0 < v4)) HQ.out.2.2.2.2.1).1, Rd.setNew HP4.out.1 hHR, by have := HQ.out.2.2.2.2.2.2.1; omega, grown_new HP4.out.2.1 hHw, Box.kept (row := some HX) HP4.out.2.2.2 (grown_setCell _ _ _ _) (by simp; omega)⟩
              clear cb hne
              go_wp2_with fail
              go_roundw
              case rel => exact ⟨y + 1, by omega, by go_num, RN.out⟩
              case measure => simp [intOf]; omega
            · have t0 : ((v3 : Int) == 0) = false := by simp; omega
              have ty : ((y : Int) == (x : Int) + 1) = false := by simp; omega
              have hadd := addS r false hrz
              repeat (go_big_quiet_step (fail))
              refine wpQuiet_nil ?_
              intro K hK
              go_wp2_with fail
              refine hK _ _ b3 ?_
              clear hK K
              repeat (go_big_quiet_step (fail))
              refine wpQuiet_nil ?_
              intro K hK
              go_wp2_with fail
              refine (l1Bit_draw _ _).mono ?_
              rintro e X ⟨rfl, rfl⟩
              go_wp2_with fail
              refine hK _ _ b3 ?_
              clear hK K
              repeat (go_big_quiet_step (fail))
              refine wpQuiet_nil ?_
              show wpList _ _ _ _ _ _
              have RN : Hid (Dw w R ao len cap HX N (x + 1) (x * N + (y + 1)) (p + 1 + x * 13 + 1 + 2 * (y + 1)) (w3.setCell ⟨HX, 2, none⟩ (.string (r ++ bitS false)))) :=
                ⟨_, _, p' + 1, Box.set2 HP3.out.2.2.1 _, HQ.out.2.1, by rw [(allB_push r false HQ.out.2.2.2.2.1).2, HQ.out.2.2.1]; rfl, HQ.out.2.2.2.1, (allB_push r false HQ.out.2.2.2.2.1).1, Rd.setNew HP3.out.1 hHR, by have := HQ.out.2.2.2.2.2.2.1; omega, grown_new HP3.out.2.1 hHw, Box.kept (row := some HX) HP3.out.2.2.2 (grown_setCell _ _ _ _) (by simp; omega)⟩
              clear cb hne
              go_wp2_with fail
              go_roundw
              case rel => exact ⟨y + 1, by omega, by go_num, RN.out⟩
              case measure => simp [intOf]; omega
        · obtain rfl : N = y := by omega
          have OUT : Hid (Dw w R ao len cap HX N (x + 1) ((x + 1) * N) (p + 1 + (x + 1) * 13) wr) :=
            Dw.weak ⟨s, r, p', HQ.out⟩ (by rw [Nat.succ_mul]) (by omega)
          go_wp2
          go_roundw
          case rel => exact ⟨x + 1, by omega, by go_num, OUT.out⟩
          case measure => simp [intOf]; omega
    · obtain rfl : N = x := by omega
      go_wp2_with fail
      refine (pick_any R ao len cap p' 4 _ HQ.out.2.2.2.2.2.1 (by have := HQ.out.2.2.2.2.2.2.1; omega) (by omega) (by omega)).mono ?_
      rintro e w5 ⟨v, hv, rfl, hr, hg⟩
      have hbx := Box.kept (row := some R) HQ.out.1 hg (by simp; omega)
      have hb0 := Box.kept (row := some R) HQ.out.2.2.2.2.2.2.2.2 hg (by simp; omega)
      have HP := Lib.hid (show _ ∧ _ ∧ _ ∧ _ from ⟨hr, grown_trans HQ.out.2.2.2.2.2.2.2.1 hg, hbx, hb0⟩)
      clear hr hg
      by_cases hv0 : v = 0
      · subst hv0
        clear hbx hb0
        go_wp2_with fail
        refine (l1Some_any R ao len cap (p' + 1) _ HP.out.1 (by have := HQ.out.2.2.2.2.2.2.1; omega)).mono ?_
        rintro e w6 ⟨M, s6, r6, p6, rfl, hM1, hM2, hs, hr, hsb, hrb, hrd, hp6, hg⟩
        have hb0 := Box.kept (row := some R) HP.out.2.2.2 hg (by simp; omega)
        have HF := Lib.hid (ret_struct (w := w6) M s6 r6 hb0)
        obtain ⟨z0, z1, z2⟩ := hb0.c
        have g0 := hb0.free 0
        have g1 := hb0.free 1
        have g2 := hb0.free 2
        have RES : Hid (Rd (((w6.setCell ⟨w.heap.size, 0, none⟩ (.int .i64 M)).setCell ⟨w.heap.size, 1, none⟩ (.string s6)).setCell ⟨w.heap.size, 2, none⟩ (.string r6)) R ao len cap p6 ∧ w.grownBy (((w6.setCell ⟨w.heap.size, 0, none⟩ (.int .i64 M)).setCell ⟨w.heap.size, 1, none⟩ (.string s6)).setCell ⟨w.heap.size, 2, none⟩ (.string r6)) (some R)) :=
          ⟨((hrd.setNew hRl).setNew hRl).setNew hRl, grown_new (grown_new (grown_new (grown_trans HP.out.2.1 hg) (Nat.le_refl _)) (Nat.le_refl _)) (Nat.le_refl _)⟩
        have HZ := Lib.hid (show _ ∧ _ ∧ _ ∧ _ ∧ _ from ⟨hs, hr, hsb, hrb, hp6⟩)
        clear hs hr hsb hrb hrd hp6 hg hb0
        go_wp2
        exact bodyPost_ret (v := .agg #[.int .i64 M, .string s6, .string r6]) (by simp [results, Tryd.results112, go_sem, HF.out.1, HF.out.2.1, HF.out.2.2]) rfl ⟨M, s6, r6, p6, rfl, hM1, hM2, HZ.out.1, HZ.out.2.1, HZ.out.2.2.1, HZ.out.2.2.2.1, RES.out.1, by have := HZ.out.2.2.2.2; have := HQ.out.2.2.2.2.2.2.1; omega, RES.out.2⟩
      · have tv : ((v : Int) == 0) = false := by simp; omega
        clear b0 b1 b2 f1
        obtain ⟨b0, b1, b2⟩ := hbx.c
        obtain ⟨z0, z1, z2⟩ := hb0.c
        have g0 := hb0.free 0
        have g1 := hb0.free 1
        have g2 := hb0.free 2
        have HF := Lib.hid (ret_struct (w := w5) N s r hb0)
        have RES : Hid (Rd (((w5.setCell ⟨w.heap.size, 0, none⟩ (.int .i64 N)).setCell ⟨w.heap.size, 1, none⟩ (.string s)).setCell ⟨w.heap.size, 2, none⟩ (.string r)) R ao len cap (p' + 1) ∧ w.grownBy (((w5.setCell ⟨w.heap.size, 0, none⟩ (.int .i64 N)).setCell ⟨w.heap.size, 1, none⟩ (.string s)).setCell ⟨w.heap.size, 2, none⟩ (.string r)) (some R)) :=
          ⟨((HP.out.1.setNew hRl).setNew hRl).setNew hRl, grown_new (grown_new (grown_new HP.out.2.1 (Nat.le_refl _)) (Nat.le_refl _)) (Nat.le_refl _)⟩
        clear hbx hb0
        go_wp2
        exact bodyPost_ret (v := .agg #[.int .i64 N, .string s, .string r]) (by simp [results, Tryd.results112, go_sem, HF.out.1, HF.out.2.1, HF.out.2.2]) rfl ⟨N, s, r, p' + 1, rfl, hN1, by omega, HQ.out.2.1, HQ.out.2.2.1, HQ.out.2.2.2.1, HQ.out.2.2.2.2.1, RES.out.1, by have := HQ.out.2.2.2.2.2.2.1; omega, RES.out.2⟩
end Go.Proofs.YtlnmebjbinmeiaaDoor.draw
