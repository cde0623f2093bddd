/- The drawing of the arguments of SecondWins and of CountSymmetries. -/
import Derived.Test.YtpcnoiigbmiejaaDoorDrawL5
import Derived.Test.YtpcnoiigbmiejaaDoorDrawH
namespace Go.Proofs.YtpcnoiigbmiejaaDoor.l5
set_option linter.unusedVariables false
set_option linter.unusedSimpArgs false
open Go.ChangeShapes Go.WideShapes Go.ChangeAt Go.RowKit
open Go.Proofs.YtpcnoiigbmiejaaDoor.lib Go.Proofs.YtpcnoiigbmiejaaDoor.st Go.Proofs.YtpcnoiigbmiejaaDoor.flow Go.Proofs.YtpcnoiigbmiejaaDoor.chain Go.Proofs.YtpcnoiigbmiejaaDoor.draw Go.Proofs.YtpcnoiigbmiejaaDoor.shuf Go.Proofs.YtpcnoiigbmiejaaDoor.pair Go.Proofs.YtpcnoiigbmiejaaDoor.l4 Go.Proofs.YtpcnoiigbmiejaaDoor.tab
/-- what DrawSecondWins leaves -/
def DrawnW (w : World) (e : Ending) (w' : World) : Prop :=
  ∃ (n : Int) (s r : ByteArray) (va : Value) (la : List Int) (m : Int) (t q : ByteArray) (vb : Value) (lb : List Int) (x : Int), e = .returned (.tuple #[.agg #[.int .i64 n, .string s, .string r], va, .agg #[.int .i64 m, .string t, .string q], vb, .int .i64 x]) ∧
    ((Lit.int .i64 n).wf = true ∧ s.size ≤ 100 ∧ r.size ≤ 100) ∧ ((Lit.int .i64 m).wf = true ∧ t.size ≤ 100 ∧ q.size ≤ 100) ∧ (la.length ≤ 100 ∧ Nearly la) ∧ (lb.length ≤ 100 ∧ Nearly lb) ∧ (RL w.heap.size w' va la ∧ RL w.heap.size w' vb lb) ∧ (-1 ≤ x ∧ x ≤ 4) ∧ Below w.heap.size w w'
theorem out_sets {w : World} {D : Nat → Prop} {b : Nat} {u0 u1 u2 : Value} (hb : D b) : Out D w (((w.setCell ⟨b, 0, none⟩ u0).setCell ⟨b, 1, none⟩ u1).setCell ⟨b, 2, none⟩ u2) :=
  ((Out.of_grown (grown_setCell w b 0 u0) (fun g e => Option.some.inj e ▸ hb)).trans (Out.of_grown (grown_setCell _ b 1 u1) (fun g e => Option.some.inj e ▸ hb)) (fun _ h => .inl h)).trans (Out.of_grown (grown_setCell _ b 2 u2) (fun g e => Option.some.inj e ▸ hb)) (fun _ h => .inl h)

set_option maxHeartbeats 6400000 in
set_option maxRecDepth 100000 in
theorem drawSecondWins_any (ao : Option Addr) (len cap : Nat) (w : World) (h : Byt w w.heap.size ao len) (hc : len ≤ cap) (hm : cap ≤ 9223372036854775807) :
    Calls Tryd.prog 16 #[.slice ao len cap] w (DrawnW w) := by
  obtain ⟨W0, hW0⟩ : ∃ QZ, QZ = ((w.alloc (.cells #[.int .i64 0, .string ⟨#[]⟩, .string ⟨#[]⟩] 24)).alloc (.cells #[.int .i64 0, .string ⟨#[]⟩, .string ⟨#[]⟩] 24)) := ⟨_, rfl⟩
  have BA_0 : Hid (Box 24 W0 w.heap.size 0 ⟨#[]⟩ ⟨#[]⟩) := by rw [hW0]; exact (Box.new 24 w w.heap.size rfl 0 ⟨#[]⟩ ⟨#[]⟩).below ((Below.refl (w.heap.size + 1) _).alloc (by simp) _) (by omega)
  have BB_0 : Hid (Box 24 W0 (w.heap.size + 1) 0 ⟨#[]⟩ ⟨#[]⟩) := by rw [hW0]; exact Box.new 24 _ (w.heap.size + 1) (by simp) 0 ⟨#[]⟩ ⟨#[]⟩
  have BL_0 : Hid (Below w.heap.size w W0) := by rw [hW0]; exact ((Below.refl _ _).alloc (Nat.le_refl _) _).alloc (by simp) _
  have HBY : Hid (Byt W0 W0.heap.size ao len) := by rw [hW0]; exact Byt.up h (by simp; omega) (fun k hk => by rw [heap_alloc_old _ _ (by simp; omega)]; exact heap_alloc_old w _ hk)
  have hz0 : w.heap.size + 1 < W0.heap.size := BB_0.out.lt
  clear h
  go_enter Tryd.func16, Tryd.ntmps16
  go_wp2_with fail
  rw [← hW0]
  clear hW0
  refine (open_any ao len cap _ HBY.out hc hm).mono ?_
  rintro e W1 ⟨R, ao1, len1, cap1, rfl, hrd, hR, hb⟩
  have RD_1 := Lib.hid hrd
  have BL_1 := Lib.hid (BL_0.out.trans (hb.mono BL_0.out.size))
  have BA_1 := Lib.hid (BA_0.out.below hb BA_0.out.lt)
  have BB_1 := Lib.hid (BB_0.out.below hb BB_0.out.lt)
  clear hrd hb BA_0 BB_0 BL_0 HBY
  go_wp2_with fail
  have BBL : Hid (w.heap.size + 1 < W1.heap.size) := BB_1.out.lt
  refine (l5Draw_any R ao1 len1 cap1 0 _ RD_1.out (by omega)).mono ?_
  rintro e W2 ⟨n, s, r, va, la, m, t, q, vb, lb, x, p2, rfl, hn, hm2, hla, hlb, ⟨hoa, hob⟩, hxx, hrd, hp2, hg⟩
  have RD_2 := Lib.hid hrd
  have BL_2 := Lib.hid (BL_1.out.grown hg BL_1.out.size (fun k hk => by cases hk; omega))
  have BA_2 := Lib.hid (Box.kept (row := some R) BA_1.out hg (by simp; omega))
  have BB_2 := Lib.hid (Box.kept (row := some R) BB_1.out hg (by simp; omega))
  clear hrd hg
  clear BL_1 RD_1 BA_1 BB_1
  have HN := Lib.hid (show _ ∧ _ ∧ _ ∧ _ ∧ _ from ⟨hn, hm2, hla, hlb, hxx⟩)
  have OA_2 := Lib.hid hoa
  have OB_2 := Lib.hid hob
  have hz1 : w.heap.size + 1 < W1.heap.size := BBL.out
  clear hn hm2 hla hlb hoa hob hxx
  obtain ⟨z0, z1, z2⟩ := Box.c BA_2.out
  have f0 := Box.free BA_2.out 0
  have f1 := Box.free BA_2.out 1
  have f2 := Box.free BA_2.out 2
  obtain ⟨y0, y1, y2⟩ := Box.c BB_2.out
  have g0 := Box.free BB_2.out 0
  have g1 := Box.free BB_2.out 1
  have g2 := Box.free BB_2.out 2
  obtain ⟨W3, hW3⟩ : ∃ QZ, QZ = (((W2.setCell ⟨w.heap.size, 0, none⟩ (.int .i64 n)).setCell ⟨w.heap.size, 1, none⟩ (.string s)).setCell ⟨w.heap.size, 2, none⟩ (.string r)) := ⟨_, rfl⟩
  obtain ⟨W4, hW4⟩ : ∃ QZ, QZ = (((W3.setCell ⟨w.heap.size + 1, 0, none⟩ (.int .i64 m)).setCell ⟨w.heap.size + 1, 1, none⟩ (.string t)).setCell ⟨w.heap.size + 1, 2, none⟩ (.string q)) := ⟨_, rfl⟩
  have RES : Hid ((RL w.heap.size W4 va la ∧ RL w.heap.size W4 vb lb) ∧ Below w.heap.size w W4) := by
    have ho : Out (fun k => k = w.heap.size ∨ k = w.heap.size + 1) W2 W4 := by
      rw [hW4, hW3]; exact (out_sets (D := fun k => k = w.heap.size ∨ k = w.heap.size + 1) (.inl rfl)).trans (out_sets (D := fun k => k = w.heap.size ∨ k = w.heap.size + 1) (.inr rfl)) (fun _ h => .inl h)
    refine ⟨⟨ends (OA_2.out.out ho (fun k hk => by rcases hk with rfl | rfl <;> omega)) (by omega), ends (OB_2.out.out ho (fun k hk => by rcases hk with rfl | rfl <;> omega)) (by omega)⟩, ?_⟩
    rw [hW4, hW3]
    exact Below.setCell (Below.setCell (Below.setCell (Below.setCell (Below.setCell (Below.setCell BL_2.out (by simp) _) (by simp) _) (by simp) _) (by simp) _) (by simp) _) (by simp) _
  have BA9 : Hid (Box 24 W3 w.heap.size n s r) := by rw [hW3]; exact ((Box.set0 BA_2.out n).set1 s).set2 r
  have HF : Hid ((W4.cell? ⟨w.heap.size, 0, none⟩ = some (.int .i64 n) ∧ W4.cell? ⟨w.heap.size, 1, none⟩ = some (.string s) ∧ W4.cell? ⟨w.heap.size, 2, none⟩ = some (.string r)) ∧ (W4.cell? ⟨w.heap.size + 1, 0, none⟩ = some (.int .i64 m) ∧ W4.cell? ⟨w.heap.size + 1, 1, none⟩ = some (.string t) ∧ W4.cell? ⟨w.heap.size + 1, 2, none⟩ = some (.string q))) := by
    have hB3 : Box 24 W3 (w.heap.size + 1) 0 ⟨#[]⟩ ⟨#[]⟩ := by rw [hW3]; exact box_others BB_2.out (by omega)
    have hA4 : Box 24 W4 w.heap.size n s r := by rw [hW4]; exact box_others BA9.out (by omega)
    have hB4 : Box 24 W4 (w.heap.size + 1) m t q := by rw [hW4]; exact ((Box.set0 hB3 m).set1 t).set2 q
    exact ⟨hA4.c, hB4.c⟩
  clear OA_2 OB_2 BA_2 BB_2 BL_2 RD_2 BA9

  go_wp2
  rw [← hW3, ← hW4]
  clear hW3 hW4
  exact bodyPost_ret (v := .tuple #[.agg #[.int .i64 n, .string s, .string r], va, .agg #[.int .i64 m, .string t, .string q], vb, .int .i64 x]) (by simp [results, Tryd.results16, go_sem, HF.out.1.1, HF.out.1.2.1, HF.out.1.2.2, HF.out.2.1, HF.out.2.2.1, HF.out.2.2.2]) rfl ⟨n, s, r, va, la, m, t, q, vb, lb, x, rfl, HN.out.1, HN.out.2.1, HN.out.2.2.1, HN.out.2.2.2.1, RES.out.1, HN.out.2.2.2.2, RES.out.2⟩

set_option maxHeartbeats 1600000 in
theorem drawSym_any (ao : Option Addr) (len cap : Nat) (w : World) (h : Byt w w.heap.size ao len) (hc : len ≤ cap) (hm : cap ≤ 9223372036854775807) :
    Calls Tryd.prog 19 #[.slice ao len cap] w (Drawn0 w) := by
  have B0 : Hid (Box 24 (w.alloc (.cells #[.int .i64 0, .string ⟨#[]⟩, .string ⟨#[]⟩] 24)) w.heap.size 0 ⟨#[]⟩ ⟨#[]⟩) := Box.new _ w _ rfl _ _ _
  have HBY := Lib.hid (Byt.up h (w' := w.alloc (.cells #[.int .i64 0, .string ⟨#[]⟩, .string ⟨#[]⟩] 24)) (R' := (w.alloc (.cells #[.int .i64 0, .string ⟨#[]⟩, .string ⟨#[]⟩] 24)).heap.size) (by simp) (fun k hk => heap_alloc_old w _ hk))
  clear h
  go_enter Tryd.func19, Tryd.ntmps19
  go_wp2_with fail
  refine (open_any ao len cap _ HBY.out hc hm).mono ?_
  rintro e w1 ⟨R, ao1, len1, cap1, rfl, hrd, hR, hb⟩
  simp only [World.size_alloc] at hR
  have HP1 := Lib.hid (show _ ∧ _ from ⟨hrd, ((Below.refl w.heap.size w).alloc (Nat.le_refl _) _).trans (hb.mono (by simp))⟩)
  have BX1 := Lib.hid (B0.out.below hb (by simp))
  clear hrd hb
  go_wp2_with fail
  refine (l1Open_any R ao1 len1 cap1 0 _ HP1.out.1 (by omega)).mono ?_
  rintro e w2 ⟨n, s, r, p2, rfl, hnw, hs, hr, hrd, hp2, hg⟩
  have hRA : R < w2.heap.size := hrd.lt
  have hwA : w.heap.size < R := by omega
  have HP2 := Lib.hid (show _ ∧ _ ∧ _ from ⟨hrd, HP1.out.2.grown hg HP1.out.2.size (fun k hk => by cases hk; omega), Box.kept (row := some R) BX1.out hg (by simp; omega)⟩)
  have hpp : p2 ≤ 203 := by omega
  clear hrd hg hp2
  have HF := Lib.hid (ret_struct (w := w2) n s r HP2.out.2.2)
  obtain ⟨z0, z1, z2⟩ := Box.c HP2.out.2.2
  have g0 := Box.free HP2.out.2.2 0
  have g1 := Box.free HP2.out.2.2 1
  have g2 := Box.free HP2.out.2.2 2
  have RES : Hid (Below w.heap.size w (((w2.setCell ⟨w.heap.size, 0, none⟩ (.int .i64 n)).setCell ⟨w.heap.size, 1, none⟩ (.string s)).setCell ⟨w.heap.size, 2, none⟩ (.string r))) := Below.setCell (Below.setCell (Below.setCell HP2.out.2.1 (by simp) _) (by simp) _) (by simp) _
  go_wp2
  exact bodyPost_ret (v := .agg #[.int .i64 n, .string s, .string r]) (by simp [results, Tryd.results19, go_sem, HF.out.1, HF.out.2.1, HF.out.2.2]) rfl ⟨n, s, r, rfl, hnw, hs, hr, RES.out⟩
end Go.Proofs.YtpcnoiigbmiejaaDoor.l5
