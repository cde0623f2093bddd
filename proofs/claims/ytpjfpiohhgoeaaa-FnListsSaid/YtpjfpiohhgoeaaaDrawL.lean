/- Draws of numbers from written lists, small structures, lists of elements. -/
import Derived.Test.YtpjfpiohhgoeaaaDrawS
namespace Go.Proofs.Ytpjfpiohhgoeaaa.draw
set_option linter.unusedVariables false
set_option linter.unusedSimpArgs false
open Go.ChangeShapes Go.WideShapes Go.ChangeAt Go.RowKit
open Go.Proofs.Ytpjfpiohhgoeaaa.lib Go.Proofs.Ytpjfpiohhgoeaaa.st Go.Proofs.Ytpjfpiohhgoeaaa.flow Go.Proofs.Ytpjfpiohhgoeaaa.chain

/-- what a draw from a written list leaves: one of its members -/
def OneOf (w : World) (R : Nat) (ao : Option Addr) (len cap p : Nat) (l : List Int) (e : Ending) (w' : World) : Prop :=
  ∃ x : Int, x ∈ l ∧ e = .returned (.int .i64 x) ∧ Rd w' R ao len cap (p + 1) ∧ w.grownBy w' (some R)
theorem num_lit (R : Nat) (ao : Option Addr) (len cap p n H : Nat) (A : Array Value) (l : List Int) (W : World) (h : Rd W R ao len cap p) (hp : p ≤ 1000000000) (hA : A = (ivs l).toArray) (hn : n = l.length) (h0 : 1 ≤ l.length) (h1 : l.length ≤ 1000000000) (hH : W.heap.size = H) :
    Calls Try.prog 29 #[.pointer (some ⟨R, 0, none⟩), .slice (some ⟨H, 0, none⟩) n n] (W.alloc (.cells A 3)) (OneOf (W.alloc (.cells A 3)) R ao len cap p l) := by
  subst hA hn
  have hR := h.lt
  refine (num_any R ao len cap p H 0 l.length l _ (h.alloc _) hp h0 h1 (by omega) (fun i hi => by rw [Nat.zero_add]; exact cells_ivs W _ l H hH i hi)).mono ?_
  rintro e w' ⟨i, hi, he, hr, hg⟩
  refine ⟨l.getD i 0, ?_, he, hr, hg⟩
  rw [List.getD_eq_getElem?_getD, List.getElem?_eq_getElem hi]
  exact List.getElem_mem hi

/-- what the drawing of a structure leaves -/
def DrawnS (w : World) (R : Nat) (ao : Option Addr) (len cap P : Nat) (e : Ending) (w' : World) : Prop :=
  ∃ (N : Nat) (s r : ByteArray) (p : Nat), e = .returned (.agg #[.int .i64 N, .string s, .string r]) ∧ 1 ≤ N ∧ N ≤ 8 ∧ s.size = N ∧ r.size = N * N ∧ allB s = true ∧ allB r = true ∧ Rd w' R ao len cap p ∧ p ≤ P ∧ w.grownBy w' (some R)

theorem ret_struct {w wr : World} {H : Nat} {n : Int} {s r : ByteArray} (n' : Int) (s' r' : ByteArray) (h : Box 29 wr H n s r) :
    (((wr.setCell ⟨H, 0, none⟩ (.int .i64 n')).setCell ⟨H, 1, none⟩ (.string s')).setCell ⟨H, 2, none⟩ (.string r')).cell? ⟨H, 0, none⟩ = some (.int .i64 n') ∧
    (((wr.setCell ⟨H, 0, none⟩ (.int .i64 n')).setCell ⟨H, 1, none⟩ (.string s')).setCell ⟨H, 2, none⟩ (.string r')).cell? ⟨H, 1, none⟩ = some (.string s') ∧
    (((wr.setCell ⟨H, 0, none⟩ (.int .i64 n')).setCell ⟨H, 1, none⟩ (.string s')).setCell ⟨H, 2, none⟩ (.string r')).cell? ⟨H, 2, none⟩ = some (.string r') :=
  (((h.set0 n').set1 s').set2 r').c

set_option maxHeartbeats 800000 in
theorem l10Small_any (R : Nat) (ao : Option Addr) (len cap p : Nat) (w : World) (h : Rd w R ao len cap p) (hp : p ≤ 90000000) :
    Calls Try.prog 25 #[.pointer (some ⟨R, 0, none⟩)] w (DrawnS w R ao len cap (p + 201)) := by
  have hRl := h.lt
  have H := Lib.hid h
  have B0 : Hid (Box 29 (w.alloc (.cells #[.int .i64 0, .string ⟨#[]⟩, .string ⟨#[]⟩] 29)) w.heap.size 0 ⟨#[]⟩ ⟨#[]⟩) := Box.new _ w _ rfl _ _ _
  clear h
  go_enter Try.func25, Try.ntmps25
  go_wp2_with fail
  refine (num_lit R ao len cap p 5 (w.heap.size + 1) _ [2, 3, 1, 2, 4] _ (H.out.alloc _) (by omega) rfl rfl (by decide) (by decide) (by simp)).mono ?_
  rintro e w1 ⟨x, hx, rfl, hr, hg⟩
  obtain ⟨N, rfl, hN1, hN2⟩ : ∃ N : Nat, x = N ∧ 1 ≤ N ∧ N ≤ 8 := by
    simp at hx
    exact ⟨x.toNat, by omega, by omega, by omega⟩
  have HP := Lib.hid (show _ ∧ _ ∧ _ from ⟨hr, grown_trans (grown_alloc (World.grownBy_alloc w _ _) _) hg, Box.kept (row := some R) (B0.out.below ((Below.refl (w.heap.size + 1) _).alloc (by simp) _) (by omega)) hg (by simp; omega)⟩)
  clear hr hg hx
  go_wp2_with fail
  refine (l1Draw_any R ao len cap (p + 1) N _ HP.out.1 (by omega) hN1 hN2).mono ?_
  rintro e w2 ⟨s, r, p2, rfl, hs, hr, hsb, hrb, hrd, hp2, hg⟩
  have hb0 := Box.kept (row := some R) HP.out.2.2 hg (by simp; omega)
  have HF := Lib.hid (ret_struct (w := w2) N s r hb0)
  obtain ⟨z0, z1, z2⟩ := hb0.c
  have g0 := hb0.free 0
  have g1 := hb0.free 1
  have g2 := hb0.free 2
  have RES : Hid (Rd (((w2.setCell ⟨w.heap.size, 0, none⟩ (.int .i64 N)).setCell ⟨w.heap.size, 1, none⟩ (.string s)).setCell ⟨w.heap.size, 2, none⟩ (.string r)) R ao len cap p2 ∧ w.grownBy (((w2.setCell ⟨w.heap.size, 0, none⟩ (.int .i64 N)).setCell ⟨w.heap.size, 1, none⟩ (.string s)).setCell ⟨w.heap.size, 2, none⟩ (.string r)) (some R)) :=
    ⟨((hrd.setNew hRl).setNew hRl).setNew hRl, grown_new (grown_new (grown_new (grown_trans HP.out.2.1 hg) (Nat.le_refl _)) (Nat.le_refl _)) (Nat.le_refl _)⟩
  have HZ := Lib.hid (show _ ∧ _ ∧ _ ∧ _ ∧ _ from ⟨hs, hr, hsb, hrb, hp2⟩)
  clear hs hr hsb hrb hrd hp2 hg hb0
  go_wp2
  exact bodyPost_ret (v := .agg #[.int .i64 N, .string s, .string r]) (by simp [results, Try.results25, go_sem, HF.out.1, HF.out.2.1, HF.out.2.2]) rfl ⟨N, s, r, p2, rfl, hN1, hN2, HZ.out.1, HZ.out.2.1, HZ.out.2.2.1, HZ.out.2.2.2.1, RES.out.1, by have := HZ.out.2.2.2.2; omega, RES.out.2⟩

theorem emptyRow (T : TypeId) (w : World) (B H : Nat) (hH : w.heap.size = H) (hB : B ≤ H) : OwnI T (w.alloc (.cells #[] T)) B (.slice (some ⟨H, 0, none⟩) 0 0) [] := by
  subst hH
  exact World.ownsRow_made w #[] 0 hB (by decide) rfl
theorem infoInt : (Try.prog.info? 3).map (fun i => (i.zero, i.size, i.bytes)) = some (some (.int .i64 0), 1, 8) := by kernel_rfl
theorem ownKept {T : TypeId} {w w' : World} {B R : Nat} {v : Value} {l : List Int} (h : OwnI T w B v l) (hg : w.grownBy w' (some R)) (hR : R < B) : OwnI T w' B v l := by
  refine World.ownsRow.kept h hg ?_
  cases hv : v.ownBlock with
  | none => exact .inl rfl
  | some k => exact .inr (fun e => by cases e; have := (World.ownsRow.lt h R hv).1; omega)

/-- what the drawing of a list of n elements below N leaves -/
def DrawnL (w : World) (R : Nat) (ao : Option Addr) (len cap p n N : Nat) (e : Ending) (w' : World) : Prop :=
  ∃ (v : Value) (l : List Int), e = .returned v ∧ l.length = n ∧ (∀ x ∈ l, 0 ≤ x ∧ x < (N : Int)) ∧ OwnI 3 w' w.heap.size v l ∧ Rd w' R ao len cap (p + n) ∧ w.grownBy w' (some R)
/-- within the loop -/
def MidL (w : World) (R : Nat) (ao : Option Addr) (len cap p N k : Nat) (s r : ByteArray) (v : Value) (wr : World) : Prop :=
  ∃ l : List Int, l.length = k ∧ (∀ x ∈ l, 0 ≤ x ∧ x < (N : Int)) ∧ OwnI 3 wr w.heap.size v l ∧ Rd wr R ao len cap (p + k) ∧ w.grownBy wr (some R) ∧ Box 29 wr w.heap.size N s r ∧ (∀ g, v.ownBlock = some g → w.heap.size < g)

set_option maxHeartbeats 1600000 in
theorem l4Some_any (R : Nat) (ao : Option Addr) (len cap p n N : Nat) (s r : ByteArray) (w : World) (h : Rd w R ao len cap p) (hp : p ≤ 100000000) (hn : n ≤ 1000) (hN : 1 ≤ N) (hN2 : N ≤ 8) :
    Calls Try.prog 27 #[.pointer (some ⟨R, 0, none⟩), .agg #[.int .i64 N, .string s, .string r], .int .i64 n] w (DrawnL w R ao len cap p n N) := by
  have hRl := h.lt
  have H := Lib.hid h
  clear h
  have START : Hid (MidL w R ao len cap p N 0 s r (.slice (some ⟨w.heap.size + 1, 0, none⟩) 0 0) ((w.alloc (.cells #[.int .i64 N, .string s, .string r] 29)).alloc (.cells #[] 3))) :=
    ⟨[], rfl, fun x hx => (by cases hx), emptyRow _ _ _ _ (by simp) (by omega), (H.out.alloc _).alloc _, grown_alloc (World.grownBy_alloc _ _ _) _, (Box.new 29 w _ rfl N s r).below ((Below.refl (w.heap.size + 1) _).alloc (by simp) _) (by omega), fun g hg => by simp [Value.ownBlock] at hg; omega⟩
  go_enter Try.func27, Try.ntmps27
  go_wp2
  go_loopw [7, 8] (fun v i wr => ∃ k : Nat, k ≤ n ∧ i = .int .i64 k ∧ MidL w R ao len cap p N k s r v wr) (fun _ i _ => n - (intOf i).toNat)
  case atStart => exact ⟨0, Nat.zero_le _, rfl, START.out⟩
  case round =>
    clear START
    obtain ⟨k, hk, rfl, l, hl, hlx, hown, hrd, hgr, hbx, hblk⟩ := hrel
    obtain ⟨c0, c1, c2⟩ := hbx.c
    have HQ := Lib.hid (show _ ∧ _ ∧ _ ∧ _ ∧ _ ∧ _ ∧ _ from ⟨hl, hlx, hown, hrd, hgr, hbx, hblk⟩)
    clear hl hlx hown hrd hgr hbx hblk
    by_cases hkn : k < n
    · have hmin : min (N : Int) 8 = (N : Int) := by omega
      have hmax : max (N : Int) 1 = (N : Int) := by omega
      go_wp2_with fail
      refine (pick_any R ao len cap (p + k) N _ HQ.out.2.2.2.1 (by omega) hN (by omega)).mono ?_
      rintro e w1 ⟨y, hy, rfl, hr1, hg1⟩
      have HO1 := Lib.hid (ownKept HQ.out.2.2.1 hg1 hRl)
      have HP := Lib.hid (show _ ∧ _ ∧ _ from ⟨hr1, grown_trans HQ.out.2.2.2.2.1 hg1, Box.kept (row := some R) HQ.out.2.2.2.2.2.1 hg1 (by simp; omega)⟩)
      have hsz : w.heap.size ≤ w1.heap.size := HP.out.2.1.size
      clear hr1 hg1
      go_wp2_with (at_builtin; refine wpList_app1 w1 rfl (.tmp 15) (.tmp 22) 26 rfl w.heap.size 3 (.int .i64 0) 8 Try.underlying26 infoInt rfl (by decide) _ _ _ (.int .i64 y) rfl HO1.out w1.heap.size rfl rfl rfl (by have := HQ.out.1; omega) hsz ?_)
      intro g cap' w9 hown9 hgr
      have R9 : Hid (MidL w R ao len cap p N (k + 1) s r (.slice (some ⟨g, 0, none⟩) (l.length + 1) cap') w9) := by
        have hgw : w1.grownBy w9 (u7.ownBlock) := hgr.grown
        have hrow : ∀ q, u7.ownBlock = some q → w.heap.size < q := HQ.out.2.2.2.2.2.2
        refine ⟨l ++ [(y : Int)], by simp [HQ.out.1], fun x hx => ?_, by unfold OwnI; rw [List.length_append, ivs_append]; exact hown9, ?_, ?_, ?_, fun q hq => ?_⟩
        · rcases List.mem_append.1 hx with hx | hx
          · exact HQ.out.2.1 x hx
          · simp at hx; omega
        · exact (HP.out.1).kept hgw (fun q hq => by have := hrow q hq; omega)
        · refine ⟨hgw.os.trans HP.out.2.1.os, hgw.tape.trans HP.out.2.1.tape, hgw.output.trans HP.out.2.1.output, Nat.le_trans HP.out.2.1.size hgw.size, fun q hq hne => (hgw.block q (by omega) (fun e => by have := hrow q e.symm; omega)).trans (HP.out.2.1.block q hq hne)⟩
        · exact Box.kept HP.out.2.2 hgw (fun e => by have := hrow _ e; omega)
        · simp [Value.ownBlock] at hq
          subst hq
          rcases hgr.blk g (by simp [Value.ownBlock]) with hb | hb
          · exact hrow g hb
          · have := HP.out.2.2.lt; omega
      clear hown9 hgr hsz
      go_wp2
      go_roundw
      case rel => exact ⟨k + 1, by omega, by go_num, R9.out⟩
      case measure => simp [intOf]; omega
    · obtain rfl : n = k := by omega
      go_wp2
      go_ret
      exact ⟨_, l, rfl, HQ.out.1, HQ.out.2.1, HQ.out.2.2.1, HQ.out.2.2.2.1, HQ.out.2.2.2.2.1⟩
end Go.Proofs.Ytpjfpiohhgoeaaa.draw
