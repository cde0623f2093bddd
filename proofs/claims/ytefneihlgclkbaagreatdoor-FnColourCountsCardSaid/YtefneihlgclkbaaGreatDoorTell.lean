/- factsOf of the program at one element: what tell writes. -/
import Derived.Test.YtefneihlgclkbaaGreatDoorBase
import Derived.Test.YtefneihlgclkbaaGreatDoorNear
import Derived.Test.YtefneihlgclkbaaGreatDoorMake
namespace Go.Proofs.YtefneihlgclkbaaGreatDoor.tell
set_option linter.unusedVariables false
set_option linter.unusedSimpArgs false
open Go.ChangeShapes Go.WideShapes Go.ChangeAt Go.RowKit
open Go.Proofs.YtefneihlgclkbaaGreatDoor.lib Go.Proofs.YtefneihlgclkbaaGreatDoor.st Go.Proofs.YtefneihlgclkbaaGreatDoor.base Go.Proofs.YtefneihlgclkbaaGreatDoor.near

theorem infoS : (Tryz.prog.info? 9).map (fun i => (i.zero, i.size, i.bytes)) = some (some (.string ⟨#[]⟩), 1, 16) := by kernel_rfl
theorem infoB : (Tryz.prog.info? 4).map (fun i => (i.zero, i.size, i.bytes)) = some (some (.bool false), 1, 1) := by kernel_rfl
/-- the facts told so far, in two cells: their texts and whether they are true -/
def Kf (cf ci B n : Nat) (bs : List Bool) (W : World) : Prop :=
  ∃ v1 v2 xs, W.heap[cf]? = some (.cells #[v1] 67 (0, 0)) ∧ W.heap[ci]? = some (.cells #[v2] 65 (0, 0)) ∧ W.ownsRow B 9 1 v1 n xs ∧ W.ownsRow B 4 1 v2 bs.length (bs.map Value.bool) ∧
    (∀ k, v1.ownBlock = some k → k ≠ cf ∧ k ≠ ci) ∧ (∀ k, v2.ownBlock = some k → k ≠ cf ∧ k ≠ ci) ∧ Apart v1 v2
theorem Kf.below {cf ci B n : Nat} {bs : List Bool} {W W' : World} {C : Nat} (h : Kf cf ci B n bs W) (hb : Below C W W') (hC : W.heap.size ≤ C) : Kf cf ci B n bs W' := by
  obtain ⟨v1, v2, xs, h1, h2, h3, h4, h5⟩ := h
  have hg : W.grownBy W' none := ⟨hb.os, hb.tape, hb.output, hb.size, fun k hk _ => hb.block k (by omega)⟩
  have l1 := (Array.getElem?_eq_some_iff.1 h1).1
  have l2 := (Array.getElem?_eq_some_iff.1 h2).1
  have key : ∀ v : Value, v.ownBlock = none ∨ v.ownBlock ≠ none := fun v => by cases v.ownBlock <;> simp
  exact ⟨v1, v2, xs, by rw [hb.block cf (by omega)]; exact h1, by rw [hb.block ci (by omega)]; exact h2, h3.kept hg (key v1), h4.kept hg (key v2), h5⟩
/-- what telling a fact leaves -/
def ToldF (cf ci B n : Nat) (bs : List Bool) (b : Bool) (W : World) (e : Ending) (W' : World) : Prop := (∃ v, e = .returned v) ∧ Kf cf ci B (n + 1) (bs ++ [b]) W' ∧ Below B W W'
set_option maxHeartbeats 1600000 in
set_option maxRecDepth 100000 in
theorem tell_any (cf ci B n : Nat) (bs : List Bool) (s : ByteArray) (b : Bool) (W : World) (hk : Kf cf ci B n bs W) (hne : cf ≠ ci) (hB : B ≤ cf ∧ B ≤ ci) (hn : n ≤ 100) (hl : bs.length ≤ 100) :
    Calls Tryz.prog 70 #[.string s, .bool b, .pointer (some ⟨cf, 0, none⟩), .pointer (some ⟨ci, 0, none⟩)] W (ToldF cf ci B n bs b W) := by
  obtain ⟨v1, v2, xs, h1, h2, h3, h4, h5, h6, h7⟩ := hk
  have l1 := (Array.getElem?_eq_some_iff.1 h1).1
  have l2 := (Array.getElem?_eq_some_iff.1 h2).1
  have c1 : W.cell? ⟨cf, 0, none⟩ = some v1 := by simp [World.cell?, h1]
  have H1 := Lib.hid h1
  have H2 := Lib.hid h2
  have H3 := Lib.hid h3
  have H4 := Lib.hid h4
  have H5 := Lib.hid h5
  have H6 := Lib.hid h6
  have H7 := Lib.hid h7
  have hBW : B ≤ W.heap.size := by omega
  clear h1 h2 h3 h4 h5 h6 h7
  go_enter Tryz.func70, Tryz.ntmps70
  go_wp2_with (at_builtin; refine wpList_app1 W rfl (.tmp 6) (.tmp 8) 67 rfl B 9 (.string ⟨#[]⟩) 16 Tryz.underlying67 infoS rfl (by decide) v1 n xs (.string s) rfl H3.out W.heap.size rfl rfl rfl (by omega) hBW ?_)
  intro g cap W1 hown hgr
  have hb1 : Below B W W1 := below_of_grown hgr.grown hBW fun k hk => (H3.out.lt k hk).1
  have hk1 : W1.heap[cf]? = some (.cells #[v1] 67 (0, 0)) := by rw [hgr.grown.block cf l1 (fun e => (H5.out cf e.symm).1 rfl)]; exact H1.out
  have hk2 : W1.heap[ci]? = some (.cells #[v2] 65 (0, 0)) := by rw [hgr.grown.block ci l2 (fun e => (H5.out ci e.symm).2 rfl)]; exact H2.out
  obtain ⟨hr2, hap⟩ := hgr.keep H4.out H7.out
  have hgne : g ≠ cf ∧ g ≠ ci := by
    rcases hgr.blk g rfl with h | h
    · exact H5.out g h
    · omega
  have hc1 : W1.cell? ⟨cf, 0, none⟩ = some v1 := by simp [World.cell?, hk1]
  have hf1 : W1.frozen? ⟨cf, 0, none⟩ = false := frozen_of_row W1 cf 0 _ _ hk1
  have hc2 : W1.cell? ⟨ci, 0, none⟩ = some v2 := by simp [World.cell?, hk2]
  obtain ⟨W2, hW2⟩ : ∃ W2, W2 = W1.setCell ⟨cf, 0, none⟩ (.slice (some ⟨g, 0, none⟩) (n + 1) cap) := ⟨_, rfl⟩
  have kk1 : W2.heap[cf]? = some (.cells #[.slice (some ⟨g, 0, none⟩) (n + 1) cap] 67 (0, 0)) := by rw [hW2, heap_setCell_same _ _ _ _ _ _ hk1]; rfl
  have kk2 : W2.heap[ci]? = some (.cells #[v2] 65 (0, 0)) := by rw [hW2, heap_setCell_other _ _ _ _ (fun e => hne (by rw [e]))]; exact hk2
  have hcl1 : cf < W1.heap.size := (Array.getElem?_eq_some_iff.1 hk1).1
  have gs : W1.grownBy W2 (some cf) := by rw [hW2]; exact ⟨rfl, rfl, rfl, by simp, fun k hk h => heap_setCell_other _ _ _ _ (fun e => h (by rw [e]))⟩
  have r1 : W2.ownsRow B 9 1 (.slice (some ⟨g, 0, none⟩) (n + 1) cap) (n + 1) (xs ++ [.string s]) := hown.kept gs (.inr (fun e => hgne.1 (by simpa [Value.ownBlock] using e)))
  have r2 : W2.ownsRow B 4 1 v2 bs.length (bs.map Value.bool) := hr2.kept gs (by
    cases hv : v2.ownBlock with
    | none => exact .inl rfl
    | some k => exact .inr (fun e => (H6.out k hv).1 (Option.some.inj e)))
  have hb2 : Below B W W2 := hb1.trans (below_of_grown gs (by omega) fun k hk => by cases hk; omega)
  have hc3 : W2.cell? ⟨ci, 0, none⟩ = some v2 := by simp [World.cell?, kk2]
  have HW2 := Lib.hid hW2
  have A := Lib.hid (show _ ∧ _ ∧ _ ∧ _ ∧ _ ∧ _ from ⟨kk1, kk2, r1, r2, hb2, hgne⟩)
  have AP := Lib.hid hap
  have hBW2 : B ≤ W2.heap.size := hb2.trans (Below.refl _ _) |>.size |> Nat.le_trans hBW
  have hz2 : W2.heap.size = W1.heap.size := by rw [hW2]; simp
  have HZ2 := Lib.hid hz2
  clear hown hgr hb1 hk1 hk2 hr2 hap hcl1 gs r1 r2 hb2 kk1 kk2 hW2 c1 hz2
  go_wp2_with (at_builtin; rw [← HW2.out]; refine wpList_app1 W2 rfl (.tmp 10) (.tmp 12) 65 rfl B 4 (.bool false) 1 Tryz.underlying65 infoB rfl (by decide) v2 _ _ (.bool b) rfl A.out.2.2.2.1 W1.heap.size HZ2.out rfl rfl (by omega) (by rw [← HZ2.out]; exact hBW2) ?_)
  intro g2 cap2 W3 hown hgr
  have l1 : cf < W2.heap.size := (Array.getElem?_eq_some_iff.1 A.out.1).1
  have l2 : ci < W2.heap.size := (Array.getElem?_eq_some_iff.1 A.out.2.1).1
  have hb1 : Below B W2 W3 := below_of_grown hgr.grown hBW2 fun k hk => (A.out.2.2.2.1.lt k hk).1
  have hk1 : W3.heap[cf]? = some (.cells #[.slice (some ⟨g, 0, none⟩) (n + 1) cap] 67 (0, 0)) := by rw [hgr.grown.block cf l1 (fun e => (H6.out cf e.symm).1 rfl)]; exact A.out.1
  have hk2 : W3.heap[ci]? = some (.cells #[v2] 65 (0, 0)) := by rw [hgr.grown.block ci l2 (fun e => (H6.out ci e.symm).2 rfl)]; exact A.out.2.1
  obtain ⟨hr1, hap2⟩ := hgr.keep A.out.2.2.1 AP.out.symm
  have hgne2 : g2 ≠ cf ∧ g2 ≠ ci := by
    rcases hgr.blk g2 rfl with h | h
    · exact H6.out g2 h
    · omega
  have hc1 : W3.cell? ⟨ci, 0, none⟩ = some v2 := by simp [World.cell?, hk2]
  have hf1 : W3.frozen? ⟨ci, 0, none⟩ = false := frozen_of_row W3 ci 0 _ _ hk2
  obtain ⟨W4, hW4⟩ : ∃ W4, W4 = W3.setCell ⟨ci, 0, none⟩ (.slice (some ⟨g2, 0, none⟩) (bs.length + 1) cap2) := ⟨_, rfl⟩
  have kk2 : W4.heap[ci]? = some (.cells #[.slice (some ⟨g2, 0, none⟩) (bs.length + 1) cap2] 65 (0, 0)) := by rw [hW4, heap_setCell_same _ _ _ _ _ _ hk2]; rfl
  have kk1 : W4.heap[cf]? = some (.cells #[.slice (some ⟨g, 0, none⟩) (n + 1) cap] 67 (0, 0)) := by rw [hW4, heap_setCell_other _ _ _ _ (fun e => hne (by rw [e]))]; exact hk1
  have gs : W3.grownBy W4 (some ci) := by rw [hW4]; exact ⟨rfl, rfl, rfl, by simp, fun k hk h => heap_setCell_other _ _ _ _ (fun e => h (by rw [e]))⟩
  have r2 : W4.ownsRow B 4 1 (.slice (some ⟨g2, 0, none⟩) (bs.length + 1) cap2) (bs ++ [b]).length ((bs ++ [b]).map Value.bool) := by
    have := hown.kept gs (.inr (fun e => hgne2.2 (by simpa [Value.ownBlock] using e)))
    rw [List.length_append, List.map_append]; exact this
  have r1 : W4.ownsRow B 9 1 (.slice (some ⟨g, 0, none⟩) (n + 1) cap) (n + 1) (xs ++ [.string s]) := hr1.kept gs (.inr (fun e => A.out.2.2.2.2.2.2 (by simpa [Value.ownBlock] using e)))
  have RES : Hid (Kf cf ci B (n + 1) (bs ++ [b]) W4 ∧ Below B W W4) := by
    refine ⟨⟨_, _, _, kk1, kk2, r1, r2, fun k hk => ?_, fun k hk => ?_, hap2.symm⟩, A.out.2.2.2.2.1.trans ((hb1.trans (below_of_grown gs (Nat.le_trans hBW2 hb1.size) fun k hk => by cases hk; omega)).mono (Nat.le_refl _))⟩
    · obtain rfl : g = k := by simpa [Value.ownBlock] using hk
      exact A.out.2.2.2.2.2
    · obtain rfl : g2 = k := by simpa [Value.ownBlock] using hk
      exact hgne2
  have HW4 := Lib.hid hW4
  clear hown hgr hb1 hk1 hk2 hr1 hap2 gs r1 r2 kk1 kk2 hW4 hc3
  go_wp2
  rw [← HW4.out]
  have R : Hid (ToldF cf ci B n bs b W (.returned (.tuple #[])) W4) := ⟨⟨_, rfl⟩, RES.out.1, RES.out.2⟩
  exact bodyPost_ret (v := .tuple #[]) (by simp [results, Tryz.results70, go_sem]) rfl R.out
end Go.Proofs.YtefneihlgclkbaaGreatDoor.tell
