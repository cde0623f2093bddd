/- A structure that is sometimes not valid: l1Bad, l9Open. -/
import Derived.Test.YtlnmebjbinmeiaaDoorDrawC
namespace Go.Proofs.YtlnmebjbinmeiaaDoor.draw
set_option linter.unusedVariables false
set_option linter.unusedSimpArgs false
open Go.ChangeShapes Go.WideShapes Go.ChangeAt Go.RowKit
open Go.Proofs.YtlnmebjbinmeiaaDoor.lib Go.Proofs.YtlnmebjbinmeiaaDoor.st Go.Proofs.YtlnmebjbinmeiaaDoor.flow Go.Proofs.YtlnmebjbinmeiaaDoor.chain

theorem small_wf (N : Nat) (h : N < 10) : (Lit.int .i64 (N : Int)).wf = true := by
  revert N; decide

/-- what the drawing of a structure leaves that is sometimes not valid -/
def DrawnB (w : World) (R : Nat) (ao : Option Addr) (len cap P : Nat) (e : Ending) (w' : World) : Prop :=
  ∃ (n : Int) (s r : ByteArray) (p : Nat), e = .returned (.agg #[.int .i64 n, .string s, .string r]) ∧ (Lit.int .i64 n).wf = true ∧ s.size ≤ 100 ∧ r.size ≤ 100 ∧ Rd w' R ao len cap p ∧ p ≤ P ∧ w.grownBy w' (some R)

set_option maxHeartbeats 3200000 in
set_option maxRecDepth 100000 in
theorem l1Bad_any (R : Nat) (ao : Option Addr) (len cap p N : Nat) (s r : ByteArray) (w : World) (h : Rd w R ao len cap p) (hp : p ≤ 90000000) (hN : N ≤ 8) (hs : s.size = N) (hr1 : 1 ≤ r.size) (hr2 : r.size ≤ 64) :
    Calls Tryd.prog 107 #[.pointer (some ⟨R, 0, none⟩), .agg #[.int .i64 N, .string s, .string r]] w (DrawnB w R ao len cap (p + 2)) := by
  have hRl := h.lt
  have H := Lib.hid h
  have hNw : (Lit.int .i64 (N : Int)).wf = true := small_wf N (by omega)
  have B0 : Hid (Box 25 (w.alloc (.cells #[.int .i64 N, .string s, .string r] 25)) w.heap.size N s r) := Box.new _ w _ rfl _ _ _
  have B1 : Hid (Box 25 ((w.alloc (.cells #[.int .i64 N, .string s, .string r] 25)).alloc (.cells #[.int .i64 0, .string ⟨#[]⟩, .string ⟨#[]⟩] 25)) (w.heap.size + 1) 0 ⟨#[]⟩ ⟨#[]⟩) := Box.new _ _ _ (by simp) _ _ _
  clear h
  go_enter Tryd.func107, Tryd.ntmps107
  go_wp2_with fail
  refine (pick_any R ao len cap p 40 _ ((H.out.alloc _).alloc _) (by omega) (by omega) (by omega)).mono ?_
  rintro e w1 ⟨v, hv, rfl, hr, hg⟩
  have HP := Lib.hid (show _ ∧ _ ∧ _ ∧ _ from ⟨hr, grown_trans (grown_alloc (World.grownBy_alloc w _ _) _) hg, Box.kept (row := some R) (B0.out.below ((Below.refl (w.heap.size + 1) _).alloc (by simp) _) (by omega)) hg (by simp; omega), Box.kept (row := some R) B1.out hg (by simp; omega)⟩)
  clear hr hg B0 B1
  obtain ⟨b0, b1, b2⟩ := Box.c HP.out.2.2.1
  have hv4 : v = 0 ∨ v = 1 ∨ v = 2 ∨ v = 3 ∨ 3 < v := by omega
  rcases hv4 with h0 | h1 | h2 | h3 | h4
  · subst h0
    clear b0 b1 b2
    obtain ⟨b0, b1, b2⟩ := Box.c HP.out.2.2.1
    have f0 := Box.free HP.out.2.2.1 0
    go_wp2_with fail
    refine (num_lit R ao len cap (p + 1) 5 w1.heap.size _ [0, -1, (N : Int) + 1, 9, 9223372036854775807] _ HP.out.1 (by omega) rfl rfl (by simp) (by simp) rfl).mono ?_
    rintro e w2 ⟨x, hx, rfl, hr, hg⟩
    have hxw : (Lit.int .i64 x).wf = true := by
      have : x = 0 ∨ x = -1 ∨ x = (N : Int) + 1 ∨ x = 9 ∨ x = 9223372036854775807 := by simpa using hx
      rcases this with rfl | rfl | rfl | rfl | rfl
      · decide
      · decide
      · exact small_wf (N + 1) (by omega)
      · decide
      · decide
    have hg' := grown_trans (World.grownBy_alloc w1 (.cells #[.int .i64 0, .int .i64 (-1), .int .i64 ((N : Int) + 1), .int .i64 9, .int .i64 9223372036854775807] 3) (some R)) hg
    have HP2 := Lib.hid (show _ ∧ _ ∧ _ ∧ _ from ⟨hr, grown_trans HP.out.2.1 hg', Box.kept (row := some R) HP.out.2.2.1 hg' (by simp; omega), Box.kept (row := some R) HP.out.2.2.2 hg' (by simp; omega)⟩)
    clear hr hg hg' hx b0 b1 b2 f0
    have f0 := Box.free HP2.out.2.2.1 0
    have HP3 : Hid (Rd (w2.setCell ⟨w.heap.size, 0, none⟩ (.int .i64 x)) R ao len cap (p + 2) ∧ w.grownBy (w2.setCell ⟨w.heap.size, 0, none⟩ (.int .i64 x)) (some R) ∧ Box 25 (w2.setCell ⟨w.heap.size, 0, none⟩ (.int .i64 x)) w.heap.size x s r ∧ Box 25 (w2.setCell ⟨w.heap.size, 0, none⟩ (.int .i64 x)) (w.heap.size + 1) 0 ⟨#[]⟩ ⟨#[]⟩) :=
      ⟨HP2.out.1.setNew (by omega), grown_new HP2.out.2.1 (by omega), Box.set0 HP2.out.2.2.1 _, Box.kept (row := some w.heap.size) HP2.out.2.2.2 (grown_setCell _ _ _ _) (by simp)⟩
    obtain ⟨b0, b1, b2⟩ := Box.c HP2.out.2.2.1
    obtain ⟨z0, z1, z2⟩ := Box.c HP2.out.2.2.2
    have g0 := Box.free HP2.out.2.2.2 0
    have g1 := Box.free HP2.out.2.2.2 1
    have g2 := Box.free HP2.out.2.2.2 2
    have HF := Lib.hid (ret_struct (w := (w2.setCell ⟨w.heap.size, 0, none⟩ (.int .i64 x))) x s r HP3.out.2.2.2)
    have RES : Hid (Rd ((((w2.setCell ⟨w.heap.size, 0, none⟩ (.int .i64 x)).setCell ⟨w.heap.size + 1, 0, none⟩ (.int .i64 x)).setCell ⟨w.heap.size + 1, 1, none⟩ (.string s)).setCell ⟨w.heap.size + 1, 2, none⟩ (.string r)) R ao len cap (p + 2) ∧ w.grownBy ((((w2.setCell ⟨w.heap.size, 0, none⟩ (.int .i64 x)).setCell ⟨w.heap.size + 1, 0, none⟩ (.int .i64 x)).setCell ⟨w.heap.size + 1, 1, none⟩ (.string s)).setCell ⟨w.heap.size + 1, 2, none⟩ (.string r)) (some R)) :=
      ⟨((HP3.out.1.setNew (by omega)).setNew (by omega)).setNew (by omega), grown_new (grown_new (grown_new HP3.out.2.1 (by omega)) (by omega)) (by omega)⟩
    go_wp2
    exact bodyPost_ret (v := .agg #[.int .i64 x, .string s, .string r]) (by simp [results, Tryd.results107, go_sem, HF.out.1, HF.out.2.1, HF.out.2.2]) rfl ⟨x, s, r, (p + 2), rfl, hxw, by omega, by omega, RES.out.1, by omega, RES.out.2⟩
  · subst h1
    have hadd : ∀ W, (Op.stringOp .add s ⟨#[48]⟩).run Tryd.prog W = .ok (.string (s ++ ⟨#[48]⟩)) W := fun W => run_string_add_sum W _ _ (by show s.size + 1 ≤ _; omega)
    have f1 := Box.free HP.out.2.2.1 1
    have HP3 : Hid (Rd (w1.setCell ⟨w.heap.size, 1, none⟩ (.string (s ++ ⟨#[48]⟩))) R ao len cap (p + 1) ∧ w.grownBy (w1.setCell ⟨w.heap.size, 1, none⟩ (.string (s ++ ⟨#[48]⟩))) (some R) ∧ Box 25 (w1.setCell ⟨w.heap.size, 1, none⟩ (.string (s ++ ⟨#[48]⟩))) w.heap.size N (s ++ ⟨#[48]⟩) r ∧ Box 25 (w1.setCell ⟨w.heap.size, 1, none⟩ (.string (s ++ ⟨#[48]⟩))) (w.heap.size + 1) 0 ⟨#[]⟩ ⟨#[]⟩) :=
      ⟨HP.out.1.setNew (by omega), grown_new HP.out.2.1 (by omega), Box.set1 HP.out.2.2.1 _, Box.kept (row := some w.heap.size) HP.out.2.2.2 (grown_setCell _ _ _ _) (by simp)⟩
    have hsz : (s ++ (⟨#[48]⟩ : ByteArray)).size ≤ 100 := by rw [ByteArray.size_append]; show s.size + 1 ≤ 100; omega
    clear b0 b1 b2
    obtain ⟨b0, b1, b2⟩ := Box.c HP.out.2.2.1
    obtain ⟨z0, z1, z2⟩ := Box.c HP.out.2.2.2
    have g0 := Box.free HP.out.2.2.2 0
    have g1 := Box.free HP.out.2.2.2 1
    have g2 := Box.free HP.out.2.2.2 2
    have HF := Lib.hid (ret_struct (w := (w1.setCell ⟨w.heap.size, 1, none⟩ (.string (s ++ ⟨#[48]⟩)))) N (s ++ ⟨#[48]⟩) r HP3.out.2.2.2)
    have RES : Hid (Rd ((((w1.setCell ⟨w.heap.size, 1, none⟩ (.string (s ++ ⟨#[48]⟩))).setCell ⟨w.heap.size + 1, 0, none⟩ (.int .i64 N)).setCell ⟨w.heap.size + 1, 1, none⟩ (.string (s ++ ⟨#[48]⟩))).setCell ⟨w.heap.size + 1, 2, none⟩ (.string r)) R ao len cap (p + 1) ∧ w.grownBy ((((w1.setCell ⟨w.heap.size, 1, none⟩ (.string (s ++ ⟨#[48]⟩))).setCell ⟨w.heap.size + 1, 0, none⟩ (.int .i64 N)).setCell ⟨w.heap.size + 1, 1, none⟩ (.string (s ++ ⟨#[48]⟩))).setCell ⟨w.heap.size + 1, 2, none⟩ (.string r)) (some R)) :=
      ⟨((HP3.out.1.setNew (by omega)).setNew (by omega)).setNew (by omega), grown_new (grown_new (grown_new HP3.out.2.1 (by omega)) (by omega)) (by omega)⟩
    go_wp2
    exact bodyPost_ret (v := .agg #[.int .i64 N, .string (s ++ ⟨#[48]⟩), .string r]) (by simp [results, Tryd.results107, go_sem, HF.out.1, HF.out.2.1, HF.out.2.2]) rfl ⟨N, (s ++ ⟨#[48]⟩), r, (p + 1), rfl, hNw, hsz, by omega, RES.out.1, by omega, RES.out.2⟩
  · subst h2
    have f2 := Box.free HP.out.2.2.1 2
    have cb : ∀ X : Wd (fun X => X.cell? ⟨w.heap.size, 2, none⟩ = some (.string r)), X.w.cell? ⟨w.heap.size, 2, none⟩ = some (.string r) := fun X => X.ok
    have hne : Nonempty (Wd (fun X => X.cell? ⟨w.heap.size, 2, none⟩ = some (.string r))) := ⟨⟨w1, b2⟩⟩
    go_wp2_with fail
    refine chain_last (S := (fun X => X.cell? ⟨w.heap.size, 2, none⟩ = some (.string r))) [([true, true, true, true, true, true, true, true], 8), ([], 9)] [false, false, false, false, false, false, false, false, false, false, true, true] (by kernel_rfl) (by kernel_rfl) (by kernel_rfl) (by kernel_rfl) (by kernel_rfl) (by kernel_rfl) (by simpa using b2) ?_
    simp only [wpSegs, pickB, List.dropLast_cons_cons, List.dropLast_singleton, List.getLast?_cons_cons, List.getLast?_singleton, List.toList_toArray, List.getElem?_toArray, List.getElem?_cons_succ, List.getElem?_cons_zero, Option.toList_some]
    repeat (go_big_quiet_step (fail))
    refine wpQuiet_nil ?_
    intro K hK
    go_wp2_with fail
    skip
    refine hK _ _ (((HP.out.2.2.1.below ((Below.refl (w.heap.size + 2) _).alloc (by have := HP.out.2.2.2.lt; omega) _) (by omega))).c).2.2 ?_
    clear hK K
    repeat (go_big_quiet_step (fail))
    refine wpQuiet_nil ?_
    intro K hK
    go_wp2_with fail
    have ofl : ∀ i, i < 3 → ∃ x : ByteArray, x.size ≤ 2 ∧ (#[.string ⟨#[]⟩, .string ⟨#[50]⟩, .string ⟨#[48, 49]⟩] : Array Value)[i]? = some (.string x) := by
      intro i hi
      have : i = 0 ∨ i = 1 ∨ i = 2 := by omega
      rcases this with rfl | rfl | rfl
      · exact ⟨⟨#[]⟩, by decide, rfl⟩
      · exact ⟨⟨#[50]⟩, by decide, rfl⟩
      · exact ⟨⟨#[48, 49]⟩, by decide, rfl⟩
    refine (of_lit R ao len cap (p + 1) 3 w1.heap.size #[.string ⟨#[]⟩, .string ⟨#[50]⟩, .string ⟨#[48, 49]⟩] w1.drew HP.out.1.drew (by omega) (by omega) (by omega) ofl rfl 9).mono ?_
    rintro e w2 ⟨x, hx, rfl, hr, hg⟩
    have hg' := grown_trans (World.grownBy_alloc w1.drew (.cells #[.string ⟨#[]⟩, .string ⟨#[50]⟩, .string ⟨#[48, 49]⟩] 9) (some R)) hg
    have HP2 := Lib.hid (show _ ∧ _ ∧ _ ∧ _ from ⟨hr, grown_trans (grown_drew HP.out.2.1) hg', Box.kept (row := some R) (Box.drew HP.out.2.2.1) hg' (by simp; omega), Box.kept (row := some R) (Box.drew HP.out.2.2.2) hg' (by simp; omega)⟩)
    clear hr hg hg' ofl f2
    have f2 := Box.free HP2.out.2.2.1 2
    have bx := (Box.c HP2.out.2.2.1).2.2
    have hes : (r.extract 0 (r.size - 1)).size ≤ 64 := by rw [ByteArray.size_extract]; omega
    have hadd : ∀ W, (Op.stringOp .add (r.extract 0 (r.size - 1)) x).run Tryd.prog W = .ok (.string (r.extract 0 (r.size - 1) ++ x)) W := fun W => run_string_add_sum W _ _ (by omega)
    have hsz : (r.extract 0 (r.size - 1) ++ x).size ≤ 100 := by rw [ByteArray.size_append]; omega
    go_wp2_with fail
    refine hK _ _ bx ?_
    clear hK K
    repeat (go_big_quiet_step (fail))
    refine wpQuiet_nil ?_
    show wpList _ _ _ _ _ _
    have HP3 : Hid (Rd (w2.setCell ⟨w.heap.size, 2, none⟩ (.string (r.extract 0 (r.size - 1) ++ x))) R ao len cap (p + 2) ∧ w.grownBy (w2.setCell ⟨w.heap.size, 2, none⟩ (.string (r.extract 0 (r.size - 1) ++ x))) (some R) ∧ Box 25 (w2.setCell ⟨w.heap.size, 2, none⟩ (.string (r.extract 0 (r.size - 1) ++ x))) w.heap.size N s (r.extract 0 (r.size - 1) ++ x) ∧ Box 25 (w2.setCell ⟨w.heap.size, 2, none⟩ (.string (r.extract 0 (r.size - 1) ++ x))) (w.heap.size + 1) 0 ⟨#[]⟩ ⟨#[]⟩) :=
      ⟨HP2.out.1.setNew (by omega), grown_new HP2.out.2.1 (by omega), Box.set2 HP2.out.2.2.1 _, Box.kept (row := some w.heap.size) HP2.out.2.2.2 (grown_setCell _ _ _ _) (by simp)⟩
    clear cb hne bx b0 b1 b2
    obtain ⟨b0, b1, b2⟩ := Box.c HP2.out.2.2.1
    obtain ⟨z0, z1, z2⟩ := Box.c HP2.out.2.2.2
    have g0 := Box.free HP2.out.2.2.2 0
    have g1 := Box.free HP2.out.2.2.2 1
    have g2 := Box.free HP2.out.2.2.2 2
    have HF := Lib.hid (ret_struct (w := (w2.setCell ⟨w.heap.size, 2, none⟩ (.string (r.extract 0 (r.size - 1) ++ x)))) N s (r.extract 0 (r.size - 1) ++ x) HP3.out.2.2.2)
    have RES : Hid (Rd ((((w2.setCell ⟨w.heap.size, 2, none⟩ (.string (r.extract 0 (r.size - 1) ++ x))).setCell ⟨w.heap.size + 1, 0, none⟩ (.int .i64 N)).setCell ⟨w.heap.size + 1, 1, none⟩ (.string s)).setCell ⟨w.heap.size + 1, 2, none⟩ (.string (r.extract 0 (r.size - 1) ++ x))) R ao len cap (p + 2) ∧ w.grownBy ((((w2.setCell ⟨w.heap.size, 2, none⟩ (.string (r.extract 0 (r.size - 1) ++ x))).setCell ⟨w.heap.size + 1, 0, none⟩ (.int .i64 N)).setCell ⟨w.heap.size + 1, 1, none⟩ (.string s)).setCell ⟨w.heap.size + 1, 2, none⟩ (.string (r.extract 0 (r.size - 1) ++ x))) (some R)) :=
      ⟨((HP3.out.1.setNew (by omega)).setNew (by omega)).setNew (by omega), grown_new (grown_new (grown_new HP3.out.2.1 (by omega)) (by omega)) (by omega)⟩
    go_wp2
    exact bodyPost_ret (v := .agg #[.int .i64 N, .string s, .string (r.extract 0 (r.size - 1) ++ x)]) (by simp [results, Tryd.results107, go_sem, HF.out.1, HF.out.2.1, HF.out.2.2]) rfl ⟨N, s, (r.extract 0 (r.size - 1) ++ x), (p + 2), rfl, hNw, by omega, hsz, RES.out.1, by omega, RES.out.2⟩
  · subst h3
    go_wp2_with fail
    refine (many_any ⟨#[48]⟩ 9 _ rfl (by omega)).mono ?_
    rintro e W1 ⟨x9, hx9, rfl, rfl⟩
    go_wp2_with fail
    refine (many_any ⟨#[49]⟩ 81 _ rfl (by omega)).mono ?_
    rintro e W2 ⟨x81, hx81, rfl, rfl⟩
    clear b0 b1 b2
    obtain ⟨b0, b1, b2⟩ := Box.c HP.out.2.2.1
    obtain ⟨z0, z1, z2⟩ := Box.c HP.out.2.2.2
    have g0 := Box.free HP.out.2.2.2 0
    have g1 := Box.free HP.out.2.2.2 1
    have g2 := Box.free HP.out.2.2.2 2
    have HF := Lib.hid (ret_struct (w := w1) 9 x9 x81 HP.out.2.2.2)
    have RES : Hid (Rd (((w1.setCell ⟨w.heap.size + 1, 0, none⟩ (.int .i64 9)).setCell ⟨w.heap.size + 1, 1, none⟩ (.string x9)).setCell ⟨w.heap.size + 1, 2, none⟩ (.string x81)) R ao len cap (p + 1) ∧ w.grownBy (((w1.setCell ⟨w.heap.size + 1, 0, none⟩ (.int .i64 9)).setCell ⟨w.heap.size + 1, 1, none⟩ (.string x9)).setCell ⟨w.heap.size + 1, 2, none⟩ (.string x81)) (some R)) :=
      ⟨((HP.out.1.setNew (by omega)).setNew (by omega)).setNew (by omega), grown_new (grown_new (grown_new HP.out.2.1 (by omega)) (by omega)) (by omega)⟩
    go_wp2
    exact bodyPost_ret (v := .agg #[.int .i64 9, .string x9, .string x81]) (by simp [results, Tryd.results107, go_sem, HF.out.1, HF.out.2.1, HF.out.2.2]) rfl ⟨9, x9, x81, (p + 1), rfl, by decide, by omega, by omega, RES.out.1, by omega, RES.out.2⟩
  · have t0 : ((v : Int) == 0) = false := by simp; omega
    have t1 : ((v : Int) == 1) = false := by simp; omega
    have t2 : ((v : Int) == 2) = false := by simp; omega
    have t3 : ((v : Int) == 3) = false := by simp; omega
    clear b0 b1 b2
    obtain ⟨b0, b1, b2⟩ := Box.c HP.out.2.2.1
    obtain ⟨z0, z1, z2⟩ := Box.c HP.out.2.2.2
    have g0 := Box.free HP.out.2.2.2 0
    have g1 := Box.free HP.out.2.2.2 1
    have g2 := Box.free HP.out.2.2.2 2
    have HF := Lib.hid (ret_struct (w := w1) N s r HP.out.2.2.2)
    have RES : Hid (Rd (((w1.setCell ⟨w.heap.size + 1, 0, none⟩ (.int .i64 N)).setCell ⟨w.heap.size + 1, 1, none⟩ (.string s)).setCell ⟨w.heap.size + 1, 2, none⟩ (.string r)) R ao len cap (p + 1) ∧ w.grownBy (((w1.setCell ⟨w.heap.size + 1, 0, none⟩ (.int .i64 N)).setCell ⟨w.heap.size + 1, 1, none⟩ (.string s)).setCell ⟨w.heap.size + 1, 2, none⟩ (.string r)) (some R)) :=
      ⟨((HP.out.1.setNew (by omega)).setNew (by omega)).setNew (by omega), grown_new (grown_new (grown_new HP.out.2.1 (by omega)) (by omega)) (by omega)⟩
    go_wp2
    exact bodyPost_ret (v := .agg #[.int .i64 N, .string s, .string r]) (by simp [results, Tryd.results107, go_sem, HF.out.1, HF.out.2.1, HF.out.2.2]) rfl ⟨N, s, r, (p + 1), rfl, hNw, by omega, by omega, RES.out.1, by omega, RES.out.2⟩
end Go.Proofs.YtlnmebjbinmeiaaDoor.draw
