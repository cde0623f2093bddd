/- The drawing of a structure: l1Draw. -/
import Derived.Test.YtlnmebjbinmeiaaDoorRows
import Derived.Test.YtlnmebjbinmeiaaDoorLib
import Derived.Test.YtlnmebjbinmeiaaDoorStr
import Derived.Test.YtlnmebjbinmeiaaDoorDraw
import Derived.Test.YtlnmebjbinmeiaaDoorChain
import Derived.Deep.CutRange
import Derived.Deep.CutBlock
import Derived.Laws.Concat
import Derived.WalkSpells
namespace Go.Proofs.YtlnmebjbinmeiaaDoor.draw
set_option linter.unusedVariables false
set_option linter.unusedSimpArgs false
open Go.ChangeShapes Go.WideShapes Go.ChangeAt Go.RowKit
open Go.Proofs.YtlnmebjbinmeiaaDoor.lib Go.Proofs.YtlnmebjbinmeiaaDoor.st Go.Proofs.YtlnmebjbinmeiaaDoor.flow Go.Proofs.YtlnmebjbinmeiaaDoor.chain

def bitS (b : Bool) : ByteArray := ⟨#[if b then 49 else 48]⟩
theorem l1Bit_draw (b : Bool) (w : World) :
    Calls Tryd.prog 84 #[.bool b] w fun e w' => e = .returned (.string (bitS b)) ∧ w = w' := by
  cases b
  all_goals
    go_enter Tryd.func84, Tryd.ntmps84
    go_wp2
    go_ret
    exact ⟨rfl, rfl⟩

/-- every byte is a bit -/
def allB (s : ByteArray) : Bool := s.data.toList.all fun b => b == 48 || b == 49
theorem allB_push (s : ByteArray) (b : Bool) (h : allB s = true) : allB (s ++ bitS b) = true ∧ (s ++ bitS b).size = s.size + 1 := by
  constructor
  · unfold allB at *
    rw [ByteArray.data_append, Array.toList_append, List.all_append, h]
    cases b <;> rfl
  · rw [ByteArray.size_append]
    rfl

theorem addS (s : ByteArray) (b : Bool) (h : s.size ≤ 100) (W : World) : (Op.stringOp .add s (bitS b)).run Tryd.prog W = .ok (.string (s ++ bitS b)) W :=
  run_string_add_sum W _ _ (by show s.size + 1 ≤ _; omega)

theorem grown_new {w w' : World} {row : Option Nat} (h : w.grownBy w' row) {b o : Nat} {v : Value} (hb : w.heap.size ≤ b) : w.grownBy (w'.setCell ⟨b, o, none⟩ v) row :=
  ⟨h.os, h.tape, h.output, Nat.le_trans h.size (by simp), fun k hk hne => (heap_setCell_other _ _ _ _ (by show k ≠ b; omega)).trans (h.block k hk hne)⟩
theorem grown_alloc {w w' : World} {row : Option Nat} (h : w.grownBy w' row) (o : Obj) : w.grownBy (w'.alloc o) row := grown_trans h (World.grownBy_alloc _ _ _)
theorem grown_drew {w w' : World} {row : Option Nat} (h : w.grownBy w' row) : w.grownBy w'.drew row := grown_trans h ⟨rfl, rfl, rfl, Nat.le_refl _, fun _ _ _ => rfl⟩
theorem Rd.drew {w : World} {R : Nat} {ao : Option Addr} {len cap p : Nat} (h : Rd w R ao len cap p) : Rd w.drew R ao len cap p := h.kept (row := none) ⟨rfl, rfl, rfl, Nat.le_refl _, fun _ _ _ => rfl⟩ (fun _ h => by cases h)
theorem Rd.setNew {w : World} {R : Nat} {ao : Option Addr} {len cap p : Nat} (h : Rd w R ao len cap p) {b o : Nat} {v : Value} (hb : R < b) : Rd (w.setCell ⟨b, o, none⟩ v) R ao len cap p :=
  h.kept (grown_setCell w b o v) (fun k e => by cases e; exact hb)
theorem Rd.alloc {w : World} {R : Nat} {ao : Option Addr} {len cap p : Nat} (h : Rd w R ao len cap p) (o : Obj) : Rd (w.alloc o) R ao len cap p :=
  h.kept (World.grownBy_alloc w o none) (fun _ h => by cases h)
theorem Box.kept {T : TypeId} {w w' : World} {H : Nat} {n : Int} {s r : ByteArray} {row : Option Nat} (h : Box T w H n s r) (hg : w.grownBy w' row) (hne : row ≠ some H) : Box T w' H n s r := by
  have hl := h.lt
  unfold Box at *
  rw [hg.block H hl (fun e => hne e.symm)]; exact h

theorem Box.drew {T : TypeId} {w : World} {H : Nat} {n : Int} {s r : ByteArray} (h : Box T w H n s r) : Box T w.drew H n s r := h
/-- the state of the drawing of a structure: the box at H -/
def Dw (w : World) (R : Nat) (ao : Option Addr) (len cap H N a b P : Nat) (wr : World) : Prop :=
  ∃ (s r : ByteArray) (p : Nat), Box 25 wr H N s r ∧ s.size = a ∧ r.size = b ∧ allB s = true ∧ allB r = true ∧ Rd wr R ao len cap p ∧ p ≤ P ∧ w.grownBy wr (some R) ∧ Box 25 wr w.heap.size 0 ⟨#[]⟩ ⟨#[]⟩
theorem Dw.weak {w wr : World} {R : Nat} {ao : Option Addr} {len cap H N a b b' P P' : Nat} (h : Dw w R ao len cap H N a b P wr) (hb : b = b') (hP : P ≤ P') : Dw w R ao len cap H N a b' P' wr := by
  subst hb
  obtain ⟨s, r, p, h1, h2, h3, h4, h5, h6, h7, h8⟩ := h
  exact ⟨s, r, p, h1, h2, h3, h4, h5, h6, by omega, h8⟩

/-- what the drawing of a structure of a size leaves -/
def Drawn (w : World) (R : Nat) (ao : Option Addr) (len cap P N : Nat) (e : Ending) (w' : World) : Prop :=
  ∃ (s r : ByteArray) (p : Nat), e = .returned (.agg #[.int .i64 N, .string s, .string r]) ∧ s.size = N ∧ r.size = N * N ∧ allB s = true ∧ allB r = true ∧ Rd w' R ao len cap p ∧ p ≤ P ∧ w.grownBy w' (some R)

set_option maxHeartbeats 3200000 in
set_option maxRecDepth 100000 in
theorem l1Draw_any (R : Nat) (ao : Option Addr) (len cap p N : Nat) (w : World) (h : Rd w R ao len cap p) (hp : p ≤ 100000000) (hN : 1 ≤ N) (hN2 : N ≤ 8) :
    Calls Tryd.prog 117 #[.pointer (some ⟨R, 0, none⟩), .int .i64 N] w (Drawn w R ao len cap (p + 200) N) := by
  have H := Lib.hid h
  have hRl : R < w.heap.size := h.lt
  clear h
  go_enter Tryd.func117, Tryd.ntmps117
  go_wp2_with fail
  refine (pick_any R ao len cap p 8 _ (((H.out.alloc _).alloc _)) (by omega) (by omega) (by omega)).mono ?_
  rintro e w1 ⟨kind, hkind, rfl, hr, hg⟩
  go_wp2_with fail
  obtain ⟨HX, hHX⟩ : ∃ HX, HX = w.heap.size + 1 := ⟨_, rfl⟩
  have hHR : R < HX := by omega
  have hHw : w.heap.size ≤ HX := by omega
  have START : Hid (Dw w R ao len cap HX N 0 (0 * N) (p + 1 + 0 * 9) w1) := by
    refine ⟨⟨#[]⟩, ⟨#[]⟩, p + 1, ?_, rfl, by simp; rfl, rfl, rfl, hr, by omega, grown_trans (grown_alloc (World.grownBy_alloc _ _ _) _) hg, ?_⟩
    · refine Box.kept (row := some R) ?_ hg (by simp; omega)
      exact Box.new _ _ _ (by simp; omega) _ _ _
    · refine Box.kept (row := some R) ?_ hg (by simp; omega)
      exact (Box.new 25 w _ rfl 0 ⟨#[]⟩ ⟨#[]⟩).below ((Below.refl (w.heap.size + 1) _).alloc (by simp) _) (by omega)
  have HHX := Lib.hid hHX
  rw [← hHX]
  clear hr hg hHX
  go_loopw [7] (fun i wr => ∃ x : Nat, x ≤ N ∧ i = .int .i64 x ∧ Dw w R ao len cap HX N x (x * N) (p + 1 + x * 9) wr) (fun i _ => N - (intOf i).toNat)
  case atStart => exact ⟨0, Nat.zero_le _, rfl, START.out⟩
  case round =>
    clear START
    obtain ⟨x, hx, rfl, s, r, p', hbox, hsz, hrz, hsb, hrb, hrd, hpp, hgr, hb0⟩ := hrel
    obtain ⟨b0, b1, b2⟩ := hbox.c
    have f1 := hbox.free 1
    have HQ := Lib.hid (show _ ∧ _ ∧ _ ∧ _ ∧ _ ∧ _ ∧ _ ∧ _ ∧ _ from ⟨hbox, hsz, hrz, hsb, hrb, hrd, hpp, hgr, hb0⟩)
    clear hbox hsz hrz hsb hrb hrd hpp hgr hb0
    by_cases hxn : x < N
    · by_cases hk : 2 < kind
      · have hkd : decide ((2 : Int) < (kind : Int)) = true := by simp; omega
        go_wp2_with fail
        have cb : ∀ X : Wd (fun X => X.cell? ⟨HX, 1, none⟩ = some (.string s)), X.w.cell? ⟨HX, 1, none⟩ = some (.string s) := fun X => X.ok
        have hne : Nonempty (Wd (fun X => X.cell? ⟨HX, 1, none⟩ = some (.string s))) := ⟨⟨wr, b1⟩⟩
        refine chain_last (S := (fun X => X.cell? ⟨HX, 1, none⟩ = some (.string s))) [([true, true, true, true, true, true], 6), ([false, false, false, false, false, false, false, true, true], 9)] [false, false, false, false, false, false, false, false, false, false, true, true] (by kernel_rfl) (by kernel_rfl) (by kernel_rfl) (by kernel_rfl) (by kernel_rfl) (by kernel_rfl) (by simpa using b1) ?_
        simp only [wpSegs, pickB, List.dropLast_cons_cons, List.dropLast_singleton, List.getLast?_cons_cons, List.getLast?_singleton, List.toList_toArray, List.getElem?_toArray, List.getElem?_cons_succ, List.getElem?_cons_zero, Option.toList_some]
        repeat (go_big_quiet_step (fail))
        refine wpQuiet_nil ?_
        intro K hK
        go_wp2_with fail
        refine (pick_any R ao len cap p' 3 _ HQ.out.2.2.2.2.2.1.drew (by have := HQ.out.2.2.2.2.2.2.1; omega) (by omega) (by omega)).mono ?_
        rintro e w2 ⟨v, hv, rfl, hr2, hg2⟩
        have b1x := hg2.cell (show wr.drew.cell? ⟨HX, 1, none⟩ = some (.string s) by simpa using b1) (by simp; omega)
        have f1x : w2.frozen? ⟨HX, 1, none⟩ = false := (Box.kept (row := some R) (Box.drew HQ.out.1) hg2 (by simp; omega)).free 1
        have HP := Lib.hid (show _ ∧ _ from ⟨hr2, hg2⟩)
        have hadd := addS s ((v : Int) == 0) (by have := HQ.out.2.1; omega)
        clear hr2 hg2
        go_wp2_with fail
        refine hK _ _ b1x ?_
        clear hK K
        repeat (go_big_quiet_step (fail))
        refine wpQuiet_nil ?_
        intro K hK
        go_wp2_with fail
        refine (l1Bit_draw _ _).mono ?_
        rintro e X ⟨rfl, rfl⟩
        go_wp2_with fail
        refine hK _ _ b1x ?_
        clear hK K
        repeat (go_big_quiet_step (fail))
        refine wpQuiet_nil ?_
        show wpList _ _ _ _ _ _
        have IN : Hid (Dw w R ao len cap HX N (x + 1) (x * N + 0) (p + 1 + x * 9 + 1 + 0) (w2.setCell ⟨HX, 1, none⟩ (.string (s ++ bitS ((v : Int) == 0))))) :=
          ⟨_, _, (p' + 1), Box.set1 (Box.kept (row := some R) (Box.drew HQ.out.1) HP.out.2 (by simp; omega)) _, by rw [(allB_push s ((v : Int) == 0) HQ.out.2.2.2.1).2, HQ.out.2.1], by simpa using HQ.out.2.2.1, (allB_push s ((v : Int) == 0) HQ.out.2.2.2.1).1, HQ.out.2.2.2.2.1, Rd.setNew HP.out.1 hHR, by have := HQ.out.2.2.2.2.2.2.1; omega, grown_new (grown_trans (grown_drew HQ.out.2.2.2.2.2.2.2.1) HP.out.2) hHw, Box.kept (row := some HX) (Box.kept (row := some R) (Box.drew HQ.out.2.2.2.2.2.2.2.2) HP.out.2 (by simp; omega)) (grown_setCell _ _ _ _) (by simp; have := HHX.out; omega)⟩
        go_wp2_with fail
        clear hadd cb hne
        clear HP b1x f1x
        clear HQ b0 b1 b2 f1
        go_loopw [8] (fun i wr => ∃ y : Nat, y ≤ N ∧ i = .int .i64 y ∧ Dw w R ao len cap HX N (x + 1) (x * N + y) (p + 1 + x * 9 + 1 + y) wr) (fun i _ => N - (intOf i).toNat)
        case atStart => exact ⟨0, Nat.zero_le _, rfl, IN.out⟩
        case round =>
          clear IN
          obtain ⟨y, hy, rfl, s, r, p', hbox, hsz, hrz, hsb, hrb, hrd, hpp, hgr, hb0⟩ := hrel
          have HQ := Lib.hid (show _ ∧ _ ∧ _ ∧ _ ∧ _ ∧ _ ∧ _ ∧ _ ∧ _ from ⟨hbox, hsz, hrz, hsb, hrb, hrd, hpp, hgr, hb0⟩)
          clear hbox hsz hrz hsb hrb hrd hpp hgr hb0
          have hpb : p' ≤ 1000000000 := by have := HQ.out.2.2.2.2.2.2.1; omega
          by_cases hyn : y < N
          · go_wp2_with fail
            refine (pick_any R ao len cap p' 3 _ HQ.out.2.2.2.2.2.1 hpb (by omega) (by omega)).mono ?_
            rintro e w3 ⟨v, hv, rfl, hr3, hg3⟩
            have HB3 := Lib.hid (Box.kept (row := some R) HQ.out.1 hg3 (by simp; omega))
            have HP := Lib.hid (show _ ∧ _ ∧ _ from ⟨hr3, grown_trans HQ.out.2.2.2.2.2.2.2.1 hg3, Box.kept (row := some R) HQ.out.2.2.2.2.2.2.2.2 hg3 (by simp; omega)⟩)
            obtain ⟨cv, hcv⟩ : ∃ c : Bool, ((v : Int) == 0) = c := ⟨_, rfl⟩
            obtain ⟨ca, hca⟩ : ∃ c : Bool, ((x : Int) == (y : Int)) = c := ⟨_, rfl⟩
            obtain ⟨cb, hcb⟩ : ∃ c : Bool, ((x : Int) != (y : Int)) = c := ⟨_, rfl⟩
            obtain ⟨cc, hcc⟩ : ∃ c : Bool, ((y : Int) == (x : Int) + 1) = c := ⟨_, rfl⟩
            obtain ⟨cd, hcd⟩ : ∃ c : Bool, ((x : Int) == (y : Int) + 1) = c := ⟨_, rfl⟩
            obtain ⟨ce, hce⟩ : ∃ c : Bool, (((x : Int) + 1) / 2 == ((y : Int) + 1) / 2) = c := ⟨_, rfl⟩
            clear hr3 hg3
            go_upto_block 4 with (fail)
            go_cut [9] from 36 to 103 (fun b wx => ∃ c : Bool, b = .bool c ∧ wx = w3)
            case first =>
              have hk8 : kind = 0 ∨ kind = 1 ∨ kind = 2 ∨ kind = 3 ∨ kind = 4 ∨ kind = 5 ∨ 5 < kind := by omega
              rcases hk8 with hk0 | hk0 | hk0 | hk0 | hk0 | hk0 | hk0
              · have t0 : ((kind : Int) == 0) = true := by simp; omega
                clear hk0 HQ HP HB3
                go_wp2
                all_goals go_meet
                all_goals exact ⟨_, rfl, rfl⟩
              · have t0 : ((kind : Int) == 0) = false := by simp; omega
                have t1 : ((kind : Int) == 1) = true := by simp; omega
                clear hk0 HQ HP HB3
                go_wp2
                all_goals go_meet
                all_goals exact ⟨_, rfl, rfl⟩
              · have t0 : ((kind : Int) == 0) = false := by simp; omega
                have t1 : ((kind : Int) == 1) = false := by simp; omega
                have t2 : ((kind : Int) == 2) = true := by simp; omega
                clear hk0 HQ HP HB3
                go_wp2
                all_goals go_meet
                all_goals exact ⟨_, rfl, rfl⟩
              · have t0 : ((kind : Int) == 0) = false := by simp; omega
                have t1 : ((kind : Int) == 1) = false := by simp; omega
                have t2 : ((kind : Int) == 2) = false := by simp; omega
                have t3 : ((kind : Int) == 3) = true := by simp; omega
                clear hk0 HQ HP HB3
                go_wp2
                all_goals go_meet
                all_goals exact ⟨_, rfl, rfl⟩
              · have t0 : ((kind : Int) == 0) = false := by simp; omega
                have t1 : ((kind : Int) == 1) = false := by simp; omega
                have t2 : ((kind : Int) == 2) = false := by simp; omega
                have t3 : ((kind : Int) == 3) = false := by simp; omega
                have t4 : ((kind : Int) == 4) = true := by simp; omega
                clear hk0 HQ HP HB3
                go_wp2
                all_goals go_meet
                all_goals exact ⟨_, rfl, rfl⟩
              · have t0 : ((kind : Int) == 0) = false := by simp; omega
                have t1 : ((kind : Int) == 1) = false := by simp; omega
                have t2 : ((kind : Int) == 2) = false := by simp; omega
                have t3 : ((kind : Int) == 3) = false := by simp; omega
                have t4 : ((kind : Int) == 4) = false := by simp; omega
                have t5 : ((kind : Int) == 5) = true := by simp; omega
                clear hk0 HQ HP HB3
                go_wp2
                all_goals go_meet
                all_goals exact ⟨_, rfl, rfl⟩
              · have t0 : ((kind : Int) == 0) = false := by simp; omega
                have t1 : ((kind : Int) == 1) = false := by simp; omega
                have t2 : ((kind : Int) == 2) = false := by simp; omega
                have t3 : ((kind : Int) == 3) = false := by simp; omega
                have t4 : ((kind : Int) == 4) = false := by simp; omega
                have t5 : ((kind : Int) == 5) = false := by simp; omega
                clear hk0 HQ HP HB3
                go_wp2
                all_goals go_meet
                all_goals exact ⟨_, rfl, rfl⟩
            case rest =>
              obtain ⟨c, rfl, rfl⟩ := hcut
              obtain ⟨b0, b1, b2⟩ := HB3.out.c
              have f2 := HB3.out.free 2
              have hrz : r.size ≤ 100 := by have h1 := HQ.out.2.2.1; have h2 : x * N ≤ 8 * 8 := Nat.mul_le_mul (by omega) hN2; omega
              go_wp2_with fail
              have cb : ∀ X : Wd (fun X => X.cell? ⟨HX, 2, none⟩ = some (.string r)), X.w.cell? ⟨HX, 2, none⟩ = some (.string r) := fun X => X.ok
              have hne : Nonempty (Wd (fun X => X.cell? ⟨HX, 2, none⟩ = some (.string r))) := ⟨⟨wc, b2⟩⟩
              have hadd := addS r c hrz
              refine chain_last (S := (fun X => X.cell? ⟨HX, 2, none⟩ = some (.string r))) [([true, true, true], 3)] [false, false, false, false, true, true] (by kernel_rfl) (by kernel_rfl) (by kernel_rfl) (by kernel_rfl) (by kernel_rfl) (by kernel_rfl) (by simpa using b2) ?_
              simp only [wpSegs, pickB, List.dropLast_cons_cons, List.dropLast_singleton, List.getLast?_cons_cons, List.getLast?_singleton, List.toList_toArray, List.getElem?_toArray, List.getElem?_cons_succ, List.getElem?_cons_zero, Option.toList_some]
              repeat (go_big_quiet_step (fail))
              refine wpQuiet_nil ?_
              intro K hK
              go_wp2_with fail
              refine (l1Bit_draw _ _).mono ?_
              rintro e X ⟨rfl, rfl⟩
              go_wp2_with fail
              refine hK _ _ (by simpa using b2) ?_
              clear hK K
              repeat (go_big_quiet_step (fail))
              refine wpQuiet_nil ?_
              show wpList _ _ _ _ _ _
              have IN : Hid (Dw w R ao len cap HX N (x + 1) (x * N + (y + 1)) (p + 1 + x * 9 + 1 + (y + 1)) (wc.drew.setCell ⟨HX, 2, none⟩ (.string (r ++ bitS c)))) :=
                ⟨_, _, p' + 1, Box.set2 (Box.drew HB3.out) _, HQ.out.2.1, by rw [(allB_push r c HQ.out.2.2.2.2.1).2, HQ.out.2.2.1]; rfl, HQ.out.2.2.2.1, (allB_push r c HQ.out.2.2.2.2.1).1, Rd.setNew HP.out.1.drew hHR, by have := HQ.out.2.2.2.2.2.2.1; omega, grown_new (grown_drew HP.out.2.1) hHw, Box.kept (row := some HX) (Box.drew HP.out.2.2) (grown_setCell _ _ _ _) (by simp; have := HHX.out; omega)⟩
              clear hadd cb hne
              go_wp2_with fail
              go_roundw
              case rel => exact ⟨y + 1, by omega, by go_num, IN.out⟩
              case measure => simp [intOf]; omega
          · obtain rfl : N = y := by omega
            have OUT : Hid (Dw w R ao len cap HX N (x + 1) ((x + 1) * N) (p + 1 + (x + 1) * 9) wr) :=
              Dw.weak ⟨s, r, p', HQ.out⟩ (by rw [Nat.succ_mul]) (by omega)
            go_wp2
            go_roundw
            case rel => exact ⟨x + 1, by omega, by go_num, OUT.out⟩
            case measure => simp [intOf]; omega
      · have hkd : decide ((2 : Int) < (kind : Int)) = false := by simp; omega
        go_wp2_with fail
        have cb : ∀ X : Wd (fun X => X.cell? ⟨HX, 1, none⟩ = some (.string s)), X.w.cell? ⟨HX, 1, none⟩ = some (.string s) := fun X => X.ok
        have hne : Nonempty (Wd (fun X => X.cell? ⟨HX, 1, none⟩ = some (.string s))) := ⟨⟨wr, b1⟩⟩
        have hadd := addS s false (by have := HQ.out.2.1; omega)
        refine chain_last (S := (fun X => X.cell? ⟨HX, 1, none⟩ = some (.string s))) [([true, true, true, true, true, true], 6), ([false, false, false, false, false, false, false, true, true], 9)] [false, false, false, false, false, false, false, false, false, false, true, true] (by kernel_rfl) (by kernel_rfl) (by kernel_rfl) (by kernel_rfl) (by kernel_rfl) (by kernel_rfl) (by simpa using b1) ?_
        simp only [wpSegs, pickB, List.dropLast_cons_cons, List.dropLast_singleton, List.getLast?_cons_cons, List.getLast?_singleton, List.toList_toArray, List.getElem?_toArray, List.getElem?_cons_succ, List.getElem?_cons_zero, Option.toList_some]
        repeat (go_big_quiet_step (fail))
        refine wpQuiet_nil ?_
        intro K hK
        go_wp2_with fail
        refine hK _ _ (by simpa using b1) ?_
        clear hK K
        repeat (go_big_quiet_step (fail))
        refine wpQuiet_nil ?_
        intro K hK
        go_wp2_with fail
        refine (l1Bit_draw _ _).mono ?_
        rintro e X ⟨rfl, rfl⟩
        go_wp2_with fail
        refine hK _ _ (by simpa using b1) ?_
        clear hK K
        repeat (go_big_quiet_step (fail))
        refine wpQuiet_nil ?_
        show wpList _ _ _ _ _ _
        have IN : Hid (Dw w R ao len cap HX N (x + 1) (x * N + 0) (p + 1 + x * 9 + 1 + 0) (wr.drew.setCell ⟨HX, 1, none⟩ (.string (s ++ bitS false)))) :=
          ⟨_, _, p', Box.set1 (Box.drew HQ.out.1) _, by rw [(allB_push s false HQ.out.2.2.2.1).2, HQ.out.2.1], by simpa using HQ.out.2.2.1, (allB_push s false HQ.out.2.2.2.1).1, HQ.out.2.2.2.2.1, Rd.setNew HQ.out.2.2.2.2.2.1.drew hHR, by have := HQ.out.2.2.2.2.2.2.1; omega, grown_new (grown_drew HQ.out.2.2.2.2.2.2.2.1) hHw, Box.kept (row := some HX) (Box.drew HQ.out.2.2.2.2.2.2.2.2) (grown_setCell _ _ _ _) (by simp; have := HHX.out; omega)⟩
        go_wp2_with fail
        clear hadd cb hne
        clear HQ b0 b1 b2 f1
        go_loopw [8] (fun i wr => ∃ y : Nat, y ≤ N ∧ i = .int .i64 y ∧ Dw w R ao len cap HX N (x + 1) (x * N + y) (p + 1 + x * 9 + 1 + y) wr) (fun i _ => N - (intOf i).toNat)
        case atStart => exact ⟨0, Nat.zero_le _, rfl, IN.out⟩
        case round =>
          clear IN
          obtain ⟨y, hy, rfl, s, r, p', hbox, hsz, hrz, hsb, hrb, hrd, hpp, hgr, hb0⟩ := hrel
          have HQ := Lib.hid (show _ ∧ _ ∧ _ ∧ _ ∧ _ ∧ _ ∧ _ ∧ _ ∧ _ from ⟨hbox, hsz, hrz, hsb, hrb, hrd, hpp, hgr, hb0⟩)
          clear hbox hsz hrz hsb hrb hrd hpp hgr hb0
          have hpb : p' ≤ 1000000000 := by have := HQ.out.2.2.2.2.2.2.1; omega
          by_cases hyn : y < N
          · go_wp2_with fail
            refine (pick_any R ao len cap p' 3 _ HQ.out.2.2.2.2.2.1 hpb (by omega) (by omega)).mono ?_
            rintro e w3 ⟨v, hv, rfl, hr3, hg3⟩
            have HB3 := Lib.hid (Box.kept (row := some R) HQ.out.1 hg3 (by simp; omega))
            have HP := Lib.hid (show _ ∧ _ ∧ _ from ⟨hr3, grown_trans HQ.out.2.2.2.2.2.2.2.1 hg3, Box.kept (row := some R) HQ.out.2.2.2.2.2.2.2.2 hg3 (by simp; omega)⟩)
            obtain ⟨cv, hcv⟩ : ∃ c : Bool, ((v : Int) == 0) = c := ⟨_, rfl⟩
            obtain ⟨ca, hca⟩ : ∃ c : Bool, ((x : Int) == (y : Int)) = c := ⟨_, rfl⟩
            obtain ⟨cb, hcb⟩ : ∃ c : Bool, ((x : Int) != (y : Int)) = c := ⟨_, rfl⟩
            obtain ⟨cc, hcc⟩ : ∃ c : Bool, ((y : Int) == (x : Int) + 1) = c := ⟨_, rfl⟩
            obtain ⟨cd, hcd⟩ : ∃ c : Bool, ((x : Int) == (y : Int) + 1) = c := ⟨_, rfl⟩
            obtain ⟨ce, hce⟩ : ∃ c : Bool, (((x : Int) + 1) / 2 == ((y : Int) + 1) / 2) = c := ⟨_, rfl⟩
            clear hr3 hg3
            go_upto_block 4 with (fail)
            go_cut [9] from 36 to 103 (fun b wx => ∃ c : Bool, b = .bool c ∧ wx = w3)
            case first =>
              have hk8 : kind = 0 ∨ kind = 1 ∨ kind = 2 ∨ kind = 3 ∨ kind = 4 ∨ kind = 5 ∨ 5 < kind := by omega
              rcases hk8 with hk0 | hk0 | hk0 | hk0 | hk0 | hk0 | hk0
              · have t0 : ((kind : Int) == 0) = true := by simp; omega
                clear hk0 HQ HP HB3
                go_wp2
                all_goals go_meet
                all_goals exact ⟨_, rfl, rfl⟩
              · have t0 : ((kind : Int) == 0) = false := by simp; omega
                have t1 : ((kind : Int) == 1) = true := by simp; omega
                clear hk0 HQ HP HB3
                go_wp2
                all_goals go_meet
                all_goals exact ⟨_, rfl, rfl⟩
              · have t0 : ((kind : Int) == 0) = false := by simp; omega
                have t1 : ((kind : Int) == 1) = false := by simp; omega
                have t2 : ((kind : Int) == 2) = true := by simp; omega
                clear hk0 HQ HP HB3
                go_wp2
                all_goals go_meet
                all_goals exact ⟨_, rfl, rfl⟩
              · have t0 : ((kind : Int) == 0) = false := by simp; omega
                have t1 : ((kind : Int) == 1) = false := by simp; omega
                have t2 : ((kind : Int) == 2) = false := by simp; omega
                have t3 : ((kind : Int) == 3) = true := by simp; omega
                clear hk0 HQ HP HB3
                go_wp2
                all_goals go_meet
                all_goals exact ⟨_, rfl, rfl⟩
              · have t0 : ((kind : Int) == 0) = false := by simp; omega
                have t1 : ((kind : Int) == 1) = false := by simp; omega
                have t2 : ((kind : Int) == 2) = false := by simp; omega
                have t3 : ((kind : Int) == 3) = false := by simp; omega
                have t4 : ((kind : Int) == 4) = true := by simp; omega
                clear hk0 HQ HP HB3
                go_wp2
                all_goals go_meet
                all_goals exact ⟨_, rfl, rfl⟩
              · have t0 : ((kind : Int) == 0) = false := by simp; omega
                have t1 : ((kind : Int) == 1) = false := by simp; omega
                have t2 : ((kind : Int) == 2) = false := by simp; omega
                have t3 : ((kind : Int) == 3) = false := by simp; omega
                have t4 : ((kind : Int) == 4) = false := by simp; omega
                have t5 : ((kind : Int) == 5) = true := by simp; omega
                clear hk0 HQ HP HB3
                go_wp2
                all_goals go_meet
                all_goals exact ⟨_, rfl, rfl⟩
              · have t0 : ((kind : Int) == 0) = false := by simp; omega
                have t1 : ((kind : Int) == 1) = false := by simp; omega
                have t2 : ((kind : Int) == 2) = false := by simp; omega
                have t3 : ((kind : Int) == 3) = false := by simp; omega
                have t4 : ((kind : Int) == 4) = false := by simp; omega
                have t5 : ((kind : Int) == 5) = false := by simp; omega
                clear hk0 HQ HP HB3
                go_wp2
                all_goals go_meet
                all_goals exact ⟨_, rfl, rfl⟩
            case rest =>
              obtain ⟨c, rfl, rfl⟩ := hcut
              obtain ⟨b0, b1, b2⟩ := HB3.out.c
              have f2 := HB3.out.free 2
              have hrz : r.size ≤ 100 := by have h1 := HQ.out.2.2.1; have h2 : x * N ≤ 8 * 8 := Nat.mul_le_mul (by omega) hN2; omega
              go_wp2_with fail
              have cb : ∀ X : Wd (fun X => X.cell? ⟨HX, 2, none⟩ = some (.string r)), X.w.cell? ⟨HX, 2, none⟩ = some (.string r) := fun X => X.ok
              have hne : Nonempty (Wd (fun X => X.cell? ⟨HX, 2, none⟩ = some (.string r))) := ⟨⟨wc, b2⟩⟩
              have hadd := addS r c hrz
              refine chain_last (S := (fun X => X.cell? ⟨HX, 2, none⟩ = some (.string r))) [([true, true, true], 3)] [false, false, false, false, true, true] (by kernel_rfl) (by kernel_rfl) (by kernel_rfl) (by kernel_rfl) (by kernel_rfl) (by kernel_rfl) (by simpa using b2) ?_
              simp only [wpSegs, pickB, List.dropLast_cons_cons, List.dropLast_singleton, List.getLast?_cons_cons, List.getLast?_singleton, List.toList_toArray, List.getElem?_toArray, List.getElem?_cons_succ, List.getElem?_cons_zero, Option.toList_some]
              repeat (go_big_quiet_step (fail))
              refine wpQuiet_nil ?_
              intro K hK
              go_wp2_with fail
              refine (l1Bit_draw _ _).mono ?_
              rintro e X ⟨rfl, rfl⟩
              go_wp2_with fail
              refine hK _ _ (by simpa using b2) ?_
              clear hK K
              repeat (go_big_quiet_step (fail))
              refine wpQuiet_nil ?_
              show wpList _ _ _ _ _ _
              have IN : Hid (Dw w R ao len cap HX N (x + 1) (x * N + (y + 1)) (p + 1 + x * 9 + 1 + (y + 1)) (wc.drew.setCell ⟨HX, 2, none⟩ (.string (r ++ bitS c)))) :=
                ⟨_, _, p' + 1, Box.set2 (Box.drew HB3.out) _, HQ.out.2.1, by rw [(allB_push r c HQ.out.2.2.2.2.1).2, HQ.out.2.2.1]; rfl, HQ.out.2.2.2.1, (allB_push r c HQ.out.2.2.2.2.1).1, Rd.setNew HP.out.1.drew hHR, by have := HQ.out.2.2.2.2.2.2.1; omega, grown_new (grown_drew HP.out.2.1) hHw, Box.kept (row := some HX) (Box.drew HP.out.2.2) (grown_setCell _ _ _ _) (by simp; have := HHX.out; omega)⟩
              clear hadd cb hne
              go_wp2_with fail
              go_roundw
              case rel => exact ⟨y + 1, by omega, by go_num, IN.out⟩
              case measure => simp [intOf]; omega
          · obtain rfl : N = y := by omega
            have OUT : Hid (Dw w R ao len cap HX N (x + 1) ((x + 1) * N) (p + 1 + (x + 1) * 9) wr) :=
              Dw.weak ⟨s, r, p', HQ.out⟩ (by rw [Nat.succ_mul]) (by omega)
            go_wp2
            go_roundw
            case rel => exact ⟨x + 1, by omega, by go_num, OUT.out⟩
            case measure => simp [intOf]; omega
    · obtain rfl : N = x := by omega
      obtain ⟨z0, z1, z2⟩ := HQ.out.2.2.2.2.2.2.2.2.c
      have g0 := HQ.out.2.2.2.2.2.2.2.2.free 0
      have g1 := HQ.out.2.2.2.2.2.2.2.2.free 1
      have g2 := HQ.out.2.2.2.2.2.2.2.2.free 2
      have BE := (((HQ.out.2.2.2.2.2.2.2.2).set0 N).set1 s).set2 r
      obtain ⟨e0, e1, e2⟩ := BE.c
      have HF := Lib.hid (show _ ∧ _ ∧ _ from ⟨e0, e1, e2⟩)
      have RES : Hid (Rd (((wr.setCell ⟨w.heap.size, 0, none⟩ (.int .i64 N)).setCell ⟨w.heap.size, 1, none⟩ (.string s)).setCell ⟨w.heap.size, 2, none⟩ (.string r)) R ao len cap p' ∧ w.grownBy (((wr.setCell ⟨w.heap.size, 0, none⟩ (.int .i64 N)).setCell ⟨w.heap.size, 1, none⟩ (.string s)).setCell ⟨w.heap.size, 2, none⟩ (.string r)) (some R)) :=
        ⟨((HQ.out.2.2.2.2.2.1.setNew hRl).setNew hRl).setNew hRl, grown_new (grown_new (grown_new HQ.out.2.2.2.2.2.2.2.1 (Nat.le_refl _)) (Nat.le_refl _)) (Nat.le_refl _)⟩
      clear e0 e1 e2 BE
      go_wp2
      exact bodyPost_ret (v := .agg #[.int .i64 N, .string s, .string r]) (by simp [results, Tryd.results117, go_sem, HF.out.1, HF.out.2.1, HF.out.2.2]) rfl ⟨s, r, p', rfl, HQ.out.2.1, HQ.out.2.2.1, HQ.out.2.2.2.1, HQ.out.2.2.2.2.1, RES.out.1, by have := HQ.out.2.2.2.2.2.2.1; omega, RES.out.2⟩
end Go.Proofs.YtlnmebjbinmeiaaDoor.draw
