/- Draws of numbers from written lists, small structures, lists of elements. -/
import Derived.Test.YtlnmebjbinmeiaaDoorDrawS
namespace Go.Proofs.YtlnmebjbinmeiaaDoor.draw
set_option linter.unusedVariables false
set_option linter.unusedSimpArgs false
open Go.ChangeShapes Go.WideShapes Go.ChangeAt Go.RowKit
open Go.Proofs.YtlnmebjbinmeiaaDoor.lib Go.Proofs.YtlnmebjbinmeiaaDoor.st Go.Proofs.YtlnmebjbinmeiaaDoor.flow Go.Proofs.YtlnmebjbinmeiaaDoor.chain

/-- what a draw from a written list leaves: one of its members -/
def OneOf (w : World) (R : Nat) (ao : Option Addr) (len cap p : Nat) (l : List Int) (e : Ending) (w' : World) : Prop :=
  ∃ x : Int, x ∈ l ∧ e = .returned (.int .i64 x) ∧ Rd w' R ao len cap (p + 1) ∧ w.grownBy w' (some R)
theorem num_lit (R : Nat) (ao : Option Addr) (len cap p n H : Nat) (A : Array Value) (l : List Int) (W : World) (h : Rd W R ao len cap p) (hp : p ≤ 1000000000) (hA : A = (ivs l).toArray) (hn : n = l.length) (h0 : 1 ≤ l.length) (h1 : l.length ≤ 1000000000) (hH : W.heap.size = H) :
    Calls Tryd.prog 113 #[.pointer (some ⟨R, 0, none⟩), .slice (some ⟨H, 0, none⟩) n n] (W.alloc (.cells A 3)) (OneOf (W.alloc (.cells A 3)) R ao len cap p l) := by
  subst hA hn
  have hR := h.lt
  refine (num_any R ao len cap p H 0 l.length l _ (h.alloc _) hp h0 h1 (by omega) (fun i hi => by rw [Nat.zero_add]; exact cells_ivs W _ l H hH i hi)).mono ?_
  rintro e w' ⟨i, hi, he, hr, hg⟩
  refine ⟨l.getD i 0, ?_, he, hr, hg⟩
  rw [List.getD_eq_getElem?_getD, List.getElem?_eq_getElem hi]
  exact List.getElem_mem hi

/-- what the drawing of a structure leaves -/
def DrawnS (w : World) (R : Nat) (ao : Option Addr) (len cap P : Nat) (e : Ending) (w' : World) : Prop :=
  ∃ (N : Nat) (s r : ByteArray) (p : Nat), e = .returned (.agg #[.int .i64 N, .string s, .string r]) ∧ 1 ≤ N ∧ N ≤ 8 ∧ s.size = N ∧ r.size = N * N ∧ allB s = true ∧ allB r = true ∧ Rd w' R ao len cap p ∧ p ≤ P ∧ w.grownBy w' (some R)

theorem ret_struct {w wr : World} {H : Nat} {n : Int} {s r : ByteArray} (n' : Int) (s' r' : ByteArray) (h : Box 25 wr H n s r) :
    (((wr.setCell ⟨H, 0, none⟩ (.int .i64 n')).setCell ⟨H, 1, none⟩ (.string s')).setCell ⟨H, 2, none⟩ (.string r')).cell? ⟨H, 0, none⟩ = some (.int .i64 n') ∧
    (((wr.setCell ⟨H, 0, none⟩ (.int .i64 n')).setCell ⟨H, 1, none⟩ (.string s')).setCell ⟨H, 2, none⟩ (.string r')).cell? ⟨H, 1, none⟩ = some (.string s') ∧
    (((wr.setCell ⟨H, 0, none⟩ (.int .i64 n')).setCell ⟨H, 1, none⟩ (.string s')).setCell ⟨H, 2, none⟩ (.string r')).cell? ⟨H, 2, none⟩ = some (.string r') :=
  (((h.set0 n').set1 s').set2 r').c

set_option maxHeartbeats 800000 in
theorem l10Small_any (R : Nat) (ao : Option Addr) (len cap p : Nat) (w : World) (h : Rd w R ao len cap p) (hp : p ≤ 90000000) :
    Calls Tryd.prog 104 #[.pointer (some ⟨R, 0, none⟩)] w (DrawnS w R ao len cap (p + 201)) := by
  have hRl := h.lt
  have H := Lib.hid h
  have B0 : Hid (Box 25 (w.alloc (.cells #[.int .i64 0, .string ⟨#[]⟩, .string ⟨#[]⟩] 25)) w.heap.size 0 ⟨#[]⟩ ⟨#[]⟩) := Box.new _ w _ rfl _ _ _
  clear h
  go_enter Tryd.func104, Tryd.ntmps104
  go_wp2_with fail
  refine (num_lit R ao len cap p 5 (w.heap.size + 1) _ [2, 3, 1, 2, 4] _ (H.out.alloc _) (by omega) rfl rfl (by decide) (by decide) (by simp)).mono ?_
  rintro e w1 ⟨x, hx, rfl, hr, hg⟩
  obtain ⟨N, rfl, hN1, hN2⟩ : ∃ N : Nat, x = N ∧ 1 ≤ N ∧ N ≤ 8 := by
    simp at hx
    exact ⟨x.toNat, by omega, by omega, by omega⟩
  have HP := Lib.hid (show _ ∧ _ ∧ _ from ⟨hr, grown_trans (grown_alloc (World.grownBy_alloc w _ _) _) hg, Box.kept (row := some R) (B0.out.below ((Below.refl (w.heap.size + 1) _).alloc (by simp) _) (by omega)) hg (by simp; omega)⟩)
  clear hr hg hx
  go_wp2_with fail
  refine (l1Draw_any R ao len cap (p + 1) N _ HP.out.1 (by omega) hN1 hN2).mono ?_
  rintro e w2 ⟨s, r, p2, rfl, hs, hr, hsb, hrb, hrd, hp2, hg⟩
  have hb0 := Box.kept (row := some R) HP.out.2.2 hg (by simp; omega)
  have HF := Lib.hid (ret_struct (w := w2) N s r hb0)
  obtain ⟨z0, z1, z2⟩ := hb0.c
  have g0 := hb0.free 0
  have g1 := hb0.free 1
  have g2 := hb0.free 2
  have RES : Hid (Rd (((w2.setCell ⟨w.heap.size, 0, none⟩ (.int .i64 N)).setCell ⟨w.heap.size, 1, none⟩ (.string s)).setCell ⟨w.heap.size, 2, none⟩ (.string r)) R ao len cap p2 ∧ w.grownBy (((w2.setCell ⟨w.heap.size, 0, none⟩ (.int .i64 N)).setCell ⟨w.heap.size, 1, none⟩ (.string s)).setCell ⟨w.heap.size, 2, none⟩ (.string r)) (some R)) :=
    ⟨((hrd.setNew hRl).setNew hRl).setNew hRl, grown_new (grown_new (grown_new (grown_trans HP.out.2.1 hg) (Nat.le_refl _)) (Nat.le_refl _)) (Nat.le_refl _)⟩
  have HZ := Lib.hid (show _ ∧ _ ∧ _ ∧ _ ∧ _ from ⟨hs, hr, hsb, hrb, hp2⟩)
  clear hs hr hsb hrb hrd hp2 hg hb0
  go_wp2
  exact bodyPost_ret (v := .agg #[.int .i64 N, .string s, .string r]) (by simp [results, Tryd.results104, go_sem, HF.out.1, HF.out.2.1, HF.out.2.2]) rfl ⟨N, s, r, p2, rfl, hN1, hN2, HZ.out.1, HZ.out.2.1, HZ.out.2.2.1, HZ.out.2.2.2.1, RES.out.1, by have := HZ.out.2.2.2.2; omega, RES.out.2⟩

theorem emptyRow (T : TypeId) (w : World) (B H : Nat) (hH : w.heap.size = H) (hB : B ≤ H) : OwnI T (w.alloc (.cells #[] T)) B (.slice (some ⟨H, 0, none⟩) 0 0) [] := by
  subst hH
  exact World.ownsRow_made w #[] 0 hB (by decide) rfl
theorem infoInt : (Tryd.prog.info? 3).map (fun i => (i.zero, i.size, i.bytes)) = some (some (.int .i64 0), 1, 8) := by kernel_rfl
theorem ownKept {T : TypeId} {w w' : World} {B R : Nat} {v : Value} {l : List Int} (h : OwnI T w B v l) (hg : w.grownBy w' (some R)) (hR : R < B) : OwnI T w' B v l := by
  refine World.ownsRow.kept h hg ?_
  cases hv : v.ownBlock with
  | none => exact .inl rfl
  | some k => exact .inr (fun e => by cases e; have := (World.ownsRow.lt h R hv).1; omega)

/-- what the drawing of a list of n elements below N leaves -/
def DrawnL (w : World) (R : Nat) (ao : Option Addr) (len cap p n N : Nat) (e : Ending) (w' : World) : Prop :=
  ∃ (v : Value) (l : List Int), e = .returned v ∧ l.length = n ∧ (∀ x ∈ l, 0 ≤ x ∧ x < (N : Int)) ∧ OwnI 3 w' w.heap.size v l ∧ Rd w' R ao len cap (p + n) ∧ w.grownBy w' (some R)
/-- within the loop -/
def MidL (w : World) (R : Nat) (ao : Option Addr) (len cap p N k : Nat) (s r : ByteArray) (v : Value) (wr : World) : Prop :=
  ∃ l : List Int, l.length = k ∧ (∀ x ∈ l, 0 ≤ x ∧ x < (N : Int)) ∧ OwnI 3 wr w.heap.size v l ∧ Rd wr R ao len cap (p + k) ∧ w.grownBy wr (some R) ∧ Box 25 wr w.heap.size N s r ∧ (∀ g, v.ownBlock = some g → w.heap.size < g)

end Go.Proofs.YtlnmebjbinmeiaaDoor.draw
