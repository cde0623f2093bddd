/- The drawing of the arguments of CountingForever and CountingWins. -/
import Derived.Test.YtpcnoiigbmiejaaDoorL7
import Derived.Test.YtpcnoiigbmiejaaDoorDrawP
namespace Go.Proofs.YtpcnoiigbmiejaaDoor.l7s
set_option linter.unusedVariables false
set_option linter.unusedSimpArgs false
open Go.ChangeShapes Go.WideShapes Go.ChangeAt Go.RowKit
open Go.Proofs.YtpcnoiigbmiejaaDoor.lib Go.Proofs.YtpcnoiigbmiejaaDoor.st Go.Proofs.YtpcnoiigbmiejaaDoor.flow Go.Proofs.YtpcnoiigbmiejaaDoor.chain Go.Proofs.YtpcnoiigbmiejaaDoor.draw Go.Proofs.YtpcnoiigbmiejaaDoor.shuf Go.Proofs.YtpcnoiigbmiejaaDoor.pair Go.Proofs.YtpcnoiigbmiejaaDoor.drawp
/-- what DrawCountingForever leaves -/
def DrawnV (w : World) (e : Ending) (w' : World) : Prop :=
  ∃ (n : Int) (s r : ByteArray) (va : Value) (la : List Int) (m : Int) (t q : ByteArray) (vb : Value) (lb : List Int), e = .returned (.tuple #[.agg #[.int .i64 n, .string s, .string r], va, .agg #[.int .i64 m, .string t, .string q], vb]) ∧
    ((Lit.int .i64 n).wf = true ∧ s.size ≤ 100 ∧ r.size ≤ 100) ∧ ((Lit.int .i64 m).wf = true ∧ t.size ≤ 100 ∧ q.size ≤ 100) ∧ (la.length ≤ 100 ∧ Nearly la) ∧ (lb.length ≤ 100 ∧ Nearly lb) ∧ OwnI 3 w' w.heap.size va la ∧ OwnI 3 w' w.heap.size vb lb ∧ Below w.heap.size w w'

set_option maxHeartbeats 6400000 in
set_option maxRecDepth 100000 in
theorem drawCE_any (ao : Option Addr) (len cap : Nat) (w : World) (h : Byt w w.heap.size ao len) (hc : len ≤ cap) (hm : cap ≤ 9223372036854775807) :
    Calls Tryd.prog 30 #[.slice ao len cap] w (DrawnV w) := by
  obtain ⟨W0, hW0⟩ : ∃ QZ, QZ = ((w.alloc (.cells #[.int .i64 0, .string ⟨#[]⟩, .string ⟨#[]⟩] 24)).alloc (.cells #[.int .i64 0, .string ⟨#[]⟩, .string ⟨#[]⟩] 24)) := ⟨_, rfl⟩
  have BA_0 : Hid (Box 24 W0 w.heap.size 0 ⟨#[]⟩ ⟨#[]⟩) := by rw [hW0]; exact (Box.new 24 w w.heap.size rfl 0 ⟨#[]⟩ ⟨#[]⟩).below ((Below.refl (w.heap.size + 1) _).alloc (by simp) _) (by omega)
  have BB_0 : Hid (Box 24 W0 (w.heap.size + 1) 0 ⟨#[]⟩ ⟨#[]⟩) := by rw [hW0]; exact Box.new 24 _ (w.heap.size + 1) (by simp) 0 ⟨#[]⟩ ⟨#[]⟩
  have BL_0 : Hid (Below w.heap.size w W0) := by rw [hW0]; exact ((Below.refl _ _).alloc (Nat.le_refl _) _).alloc (by simp) _
  have HBY : Hid (Byt W0 W0.heap.size ao len) := by rw [hW0]; exact Byt.up h (by simp; omega) (fun k hk => by rw [heap_alloc_old _ _ (by simp; omega)]; exact heap_alloc_old w _ hk)
  have hz0 : w.heap.size + 1 < W0.heap.size := BB_0.out.lt
  clear h
  go_enter Tryd.func30, Tryd.ntmps30
  go_wp2_with fail
  rw [← hW0]
  clear hW0
  refine (open_any ao len cap _ HBY.out hc hm).mono ?_
  rintro e W1 ⟨R, ao1, len1, cap1, rfl, hrd, hR, hb⟩
  have RD_1 := Lib.hid hrd
  have BL_1 := Lib.hid (BL_0.out.trans (hb.mono BL_0.out.size))
  have BA_1 := Lib.hid (BA_0.out.below hb BA_0.out.lt)
  have BB_1 := Lib.hid (BB_0.out.below hb BB_0.out.lt)
  clear hrd hb BA_0 BB_0 BL_0 HBY
  go_wp2_with fail
  have BBL : Hid (w.heap.size + 1 < W1.heap.size) := BB_1.out.lt
  refine (l7Some_any R ao1 len1 cap1 0 _ RD_1.out (by omega)).mono ?_
  rintro e W2 ⟨n, s, r, va, la, m, t, q, vb, lb, p2, rfl, hn, hm2, hla, hlb, hoa, hob, hrd, hp2, hg⟩
  have RD_2 := Lib.hid hrd
  have BL_2 := Lib.hid (BL_1.out.grown hg BL_1.out.size (fun k hk => by cases hk; omega))
  have BA_2 := Lib.hid (Box.kept (row := some R) BA_1.out hg (by simp; omega))
  have BB_2 := Lib.hid (Box.kept (row := some R) BB_1.out hg (by simp; omega))
  clear hrd hg
  clear BL_1 RD_1 BA_1 BB_1
  have HN := Lib.hid (show _ ∧ _ ∧ _ ∧ _ from ⟨hn, hm2, hla, hlb⟩)
  have OA_2 := Lib.hid hoa
  have OB_2 := Lib.hid hob
  have hz1 : w.heap.size + 1 < W1.heap.size := BBL.out
  clear hn hm2 hla hlb hoa hob
  obtain ⟨z0, z1, z2⟩ := Box.c BA_2.out
  have f0 := Box.free BA_2.out 0
  have f1 := Box.free BA_2.out 1
  have f2 := Box.free BA_2.out 2
  obtain ⟨y0, y1, y2⟩ := Box.c BB_2.out
  have g0 := Box.free BB_2.out 0
  have g1 := Box.free BB_2.out 1
  have g2 := Box.free BB_2.out 2
  obtain ⟨W3, hW3⟩ : ∃ QZ, QZ = (((W2.setCell ⟨w.heap.size, 0, none⟩ (.int .i64 n)).setCell ⟨w.heap.size, 1, none⟩ (.string s)).setCell ⟨w.heap.size, 2, none⟩ (.string r)) := ⟨_, rfl⟩
  obtain ⟨W4, hW4⟩ : ∃ QZ, QZ = (((W3.setCell ⟨w.heap.size + 1, 0, none⟩ (.int .i64 m)).setCell ⟨w.heap.size + 1, 1, none⟩ (.string t)).setCell ⟨w.heap.size + 1, 2, none⟩ (.string q)) := ⟨_, rfl⟩
  have RES : Hid (OwnI 3 W4 w.heap.size va la ∧ OwnI 3 W4 w.heap.size vb lb ∧ Below w.heap.size w W4) := by
    refine ⟨?_, ?_, ?_⟩
    · rw [hW4, hW3]; exact (own_sets (own_sets OA_2.out (by omega)) (by omega)).mono (by omega)
    · rw [hW4, hW3]; exact (own_sets (own_sets OB_2.out (by omega)) (by omega)).mono (by omega)
    · rw [hW4, hW3]
      exact Below.setCell (Below.setCell (Below.setCell (Below.setCell (Below.setCell (Below.setCell BL_2.out (by simp) _) (by simp) _) (by simp) _) (by simp) _) (by simp) _) (by simp) _
  have BA9 : Hid (Box 24 W3 w.heap.size n s r) := by rw [hW3]; exact ((Box.set0 BA_2.out n).set1 s).set2 r
  have HF : Hid ((W4.cell? ⟨w.heap.size, 0, none⟩ = some (.int .i64 n) ∧ W4.cell? ⟨w.heap.size, 1, none⟩ = some (.string s) ∧ W4.cell? ⟨w.heap.size, 2, none⟩ = some (.string r)) ∧ (W4.cell? ⟨w.heap.size + 1, 0, none⟩ = some (.int .i64 m) ∧ W4.cell? ⟨w.heap.size + 1, 1, none⟩ = some (.string t) ∧ W4.cell? ⟨w.heap.size + 1, 2, none⟩ = some (.string q))) := by
    have hB3 : Box 24 W3 (w.heap.size + 1) 0 ⟨#[]⟩ ⟨#[]⟩ := by rw [hW3]; exact box_others BB_2.out (by omega)
    have hA4 : Box 24 W4 w.heap.size n s r := by rw [hW4]; exact box_others BA9.out (by omega)
    have hB4 : Box 24 W4 (w.heap.size + 1) m t q := by rw [hW4]; exact ((Box.set0 hB3 m).set1 t).set2 q
    exact ⟨hA4.c, hB4.c⟩
  clear OA_2 OB_2 BA_2 BB_2 BL_2 RD_2 BA9
  go_wp2
  rw [← hW3, ← hW4]
  clear hW3 hW4
  exact bodyPost_ret (v := .tuple #[.agg #[.int .i64 n, .string s, .string r], va, .agg #[.int .i64 m, .string t, .string q], vb]) (by simp [results, Tryd.results30, go_sem, HF.out.1.1, HF.out.1.2.1, HF.out.1.2.2, HF.out.2.1, HF.out.2.2.1, HF.out.2.2.2]) rfl ⟨n, s, r, va, la, m, t, q, vb, lb, rfl, HN.out.1, HN.out.2.1, HN.out.2.2.1, HN.out.2.2.2, RES.out⟩
/-- what DrawCountingWins leaves -/
def DrawnCW (w : World) (e : Ending) (w' : World) : Prop :=
  ∃ (n : Int) (s r : ByteArray) (va : Value) (la : List Int) (m : Int) (t q : ByteArray) (vb : Value) (lb : List Int) (x : Int), e = .returned (.tuple #[.agg #[.int .i64 n, .string s, .string r], va, .agg #[.int .i64 m, .string t, .string q], vb, .int .i64 x]) ∧
    ((Lit.int .i64 n).wf = true ∧ s.size ≤ 100 ∧ r.size ≤ 100) ∧ ((Lit.int .i64 m).wf = true ∧ t.size ≤ 100 ∧ q.size ≤ 100) ∧ la.length ≤ 100 ∧ lb.length ≤ 100 ∧ (-1 ≤ x ∧ x ≤ 5) ∧ OwnI 3 w' w.heap.size va la ∧ OwnI 3 w' w.heap.size vb lb ∧ Below w.heap.size w w'

set_option maxHeartbeats 6400000 in
set_option maxRecDepth 100000 in
theorem drawCW_any (ao : Option Addr) (len cap : Nat) (w : World) (h : Byt w w.heap.size ao len) (hc : len ≤ cap) (hm : cap ≤ 9223372036854775807) :
    Calls Tryd.prog 21 #[.slice ao len cap] w (DrawnCW w) := by
  obtain ⟨W0, hW0⟩ : ∃ QZ, QZ = ((w.alloc (.cells #[.int .i64 0, .string ⟨#[]⟩, .string ⟨#[]⟩] 24)).alloc (.cells #[.int .i64 0, .string ⟨#[]⟩, .string ⟨#[]⟩] 24)) := ⟨_, rfl⟩
  have BA_0 : Hid (Box 24 W0 w.heap.size 0 ⟨#[]⟩ ⟨#[]⟩) := by rw [hW0]; exact (Box.new 24 w w.heap.size rfl 0 ⟨#[]⟩ ⟨#[]⟩).below ((Below.refl (w.heap.size + 1) _).alloc (by simp) _) (by omega)
  have BB_0 : Hid (Box 24 W0 (w.heap.size + 1) 0 ⟨#[]⟩ ⟨#[]⟩) := by rw [hW0]; exact Box.new 24 _ (w.heap.size + 1) (by simp) 0 ⟨#[]⟩ ⟨#[]⟩
  have BL_0 : Hid (Below w.heap.size w W0) := by rw [hW0]; exact ((Below.refl _ _).alloc (Nat.le_refl _) _).alloc (by simp) _
  have HBY : Hid (Byt W0 W0.heap.size ao len) := by rw [hW0]; exact Byt.up h (by simp; omega) (fun k hk => by rw [heap_alloc_old _ _ (by simp; omega)]; exact heap_alloc_old w _ hk)
  have hz0 : w.heap.size + 1 < W0.heap.size := BB_0.out.lt
  clear h
  go_enter Tryd.func21, Tryd.ntmps21
  go_wp2_with fail
  rw [← hW0]
  clear hW0
  refine (open_any ao len cap _ HBY.out hc hm).mono ?_
  rintro e W1 ⟨R, ao1, len1, cap1, rfl, hrd, hR, hb⟩
  have RD_1 := Lib.hid hrd
  have BL_1 := Lib.hid (BL_0.out.trans (hb.mono BL_0.out.size))
  have BA_1 := Lib.hid (BA_0.out.below hb BA_0.out.lt)
  have BB_1 := Lib.hid (BB_0.out.below hb BB_0.out.lt)
  clear hrd hb BA_0 BB_0 BL_0 HBY
  go_wp2_with fail
  obtain ⟨HB, hHB⟩ : ∃ HB, HB = W1.heap.size := ⟨_, rfl⟩
  have hRB : R < HB ∧ w.heap.size + 1 < HB := by rw [hHB]; exact ⟨RD_1.out.lt, BB_1.out.lt⟩
  refine (l7Some_any R ao1 len1 cap1 0 _ RD_1.out (by omega)).mono ?_
  rintro e W2 ⟨n, s, r, va, la, m, t, q, vb, lb, p2, rfl, hn, hm2, hla, hlb, hoa, hob, hrd, hp2, hg⟩
  have RD_2 := Lib.hid hrd
  have BL_2 := Lib.hid (BL_1.out.grown hg BL_1.out.size (fun k hk => by cases hk; omega))
  have BA_2 := Lib.hid (Box.kept (row := some R) BA_1.out hg (by simp; omega))
  have BB_2 := Lib.hid (Box.kept (row := some R) BB_1.out hg (by simp; omega))
  clear hrd hg
  clear BL_1 RD_1 BA_1 BB_1
  have HN := Lib.hid (show _ ∧ _ ∧ _ ∧ _ from ⟨hn, hm2, hla.1, hlb.1⟩)
  rw [← hHB] at hoa hob
  have hRB2 := hRB.2
  have hRB := hRB.1
  have OA_2 := Lib.hid hoa
  have OB_2 := Lib.hid hob
  clear hn hm2 hla hlb hoa hob hHB
  obtain ⟨HC, hHC⟩ : ∃ QZ, QZ = W2.heap.size := ⟨_, rfl⟩
  obtain ⟨HD, hHD⟩ : ∃ QZ, QZ = HC + 1 := ⟨_, rfl⟩
  have hlC : w.heap.size + 1 < HC := by rw [hHC]; exact BB_2.out.lt
  have hRC : R < HC := by rw [hHC]; exact RD_2.out.lt
  have hlD : HC < HD := by omega
  obtain ⟨W9, hW9⟩ : ∃ QZ, QZ = (W2.alloc (.cells #[.int .i64 n, .string s, .string r] 24)).alloc (.cells #[.int .i64 m, .string t, .string q] 24) := ⟨_, rfl⟩
  have RD_3 : Hid (Rd W9 R ao1 len1 cap1 p2) := by rw [hW9]; exact (RD_2.out.alloc _).alloc _
  have BL_3 : Hid (Below w.heap.size w W9) := by rw [hW9]; exact (BL_2.out.alloc BL_2.out.size _).alloc (BL_2.out.alloc BL_2.out.size _).size _
  have BA_3 : Hid (Box 24 W9 (w.heap.size) 0 ⟨#[]⟩ ⟨#[]⟩) := by rw [hW9]; exact BA_2.out.below (((Below.refl W2.heap.size W2).alloc (Nat.le_refl _) _).alloc (by simp) _) BA_2.out.lt
  have BB_3 : Hid (Box 24 W9 (w.heap.size + 1) 0 ⟨#[]⟩ ⟨#[]⟩) := by rw [hW9]; exact BB_2.out.below (((Below.refl W2.heap.size W2).alloc (Nat.le_refl _) _).alloc (by simp) _) BB_2.out.lt
  have BC_3 : Hid (Box 24 W9 HC n s r) := by rw [hW9, hHC]; exact (Box.new 24 W2 _ rfl n s r).below ((Below.refl (W2.heap.size + 1) _).alloc (by simp) _) (by omega)
  have BD_3 : Hid (Box 24 W9 HD m t q) := by rw [hW9, hHD, hHC]; exact Box.new 24 _ _ (by simp) m t q
  have OA_3 : Hid (OwnI 3 W9 HB va la) := by rw [hW9]; exact OA_2.out.below (((Below.refl W2.heap.size W2).alloc (Nat.le_refl _) _).alloc (by simp) _) (Nat.le_refl _)
  have OB_3 : Hid (OwnI 3 W9 HB vb lb) := by rw [hW9]; exact OB_2.out.below (((Below.refl W2.heap.size W2).alloc (Nat.le_refl _) _).alloc (by simp) _) (Nat.le_refl _)
  clear BL_2 RD_2 BA_2 BB_2 OA_2 OB_2
  go_upto_region 3 with (fail)
  rw [← hW9, ← hHC, ← hHD]
  clear hW9 hHC hHD
  have q0 : ∀ QQ : Wd (fun Q => Q.cell? ⟨HC, 0, none⟩ = some (.int .i64 n) ∧ Q.cell? ⟨HC, 1, none⟩ = some (.string s) ∧ Q.cell? ⟨HC, 2, none⟩ = some (.string r) ∧ Q.cell? ⟨HD, 0, none⟩ = some (.int .i64 m) ∧ Q.cell? ⟨HD, 1, none⟩ = some (.string t) ∧ Q.cell? ⟨HD, 2, none⟩ = some (.string q)), QQ.w.cell? ⟨HC, 0, none⟩ = some (.int .i64 n) := fun QQ => QQ.ok.1
  have q1 : ∀ QQ : Wd (fun Q => Q.cell? ⟨HC, 0, none⟩ = some (.int .i64 n) ∧ Q.cell? ⟨HC, 1, none⟩ = some (.string s) ∧ Q.cell? ⟨HC, 2, none⟩ = some (.string r) ∧ Q.cell? ⟨HD, 0, none⟩ = some (.int .i64 m) ∧ Q.cell? ⟨HD, 1, none⟩ = some (.string t) ∧ Q.cell? ⟨HD, 2, none⟩ = some (.string q)), QQ.w.cell? ⟨HC, 1, none⟩ = some (.string s) := fun QQ => QQ.ok.2.1
  have q2 : ∀ QQ : Wd (fun Q => Q.cell? ⟨HC, 0, none⟩ = some (.int .i64 n) ∧ Q.cell? ⟨HC, 1, none⟩ = some (.string s) ∧ Q.cell? ⟨HC, 2, none⟩ = some (.string r) ∧ Q.cell? ⟨HD, 0, none⟩ = some (.int .i64 m) ∧ Q.cell? ⟨HD, 1, none⟩ = some (.string t) ∧ Q.cell? ⟨HD, 2, none⟩ = some (.string q)), QQ.w.cell? ⟨HC, 2, none⟩ = some (.string r) := fun QQ => QQ.ok.2.2.1
  have q3 : ∀ QQ : Wd (fun Q => Q.cell? ⟨HC, 0, none⟩ = some (.int .i64 n) ∧ Q.cell? ⟨HC, 1, none⟩ = some (.string s) ∧ Q.cell? ⟨HC, 2, none⟩ = some (.string r) ∧ Q.cell? ⟨HD, 0, none⟩ = some (.int .i64 m) ∧ Q.cell? ⟨HD, 1, none⟩ = some (.string t) ∧ Q.cell? ⟨HD, 2, none⟩ = some (.string q)), QQ.w.cell? ⟨HD, 0, none⟩ = some (.int .i64 m) := fun QQ => QQ.ok.2.2.2.1
  have q4 : ∀ QQ : Wd (fun Q => Q.cell? ⟨HC, 0, none⟩ = some (.int .i64 n) ∧ Q.cell? ⟨HC, 1, none⟩ = some (.string s) ∧ Q.cell? ⟨HC, 2, none⟩ = some (.string r) ∧ Q.cell? ⟨HD, 0, none⟩ = some (.int .i64 m) ∧ Q.cell? ⟨HD, 1, none⟩ = some (.string t) ∧ Q.cell? ⟨HD, 2, none⟩ = some (.string q)), QQ.w.cell? ⟨HD, 1, none⟩ = some (.string t) := fun QQ => QQ.ok.2.2.2.2.1
  have q5 : ∀ QQ : Wd (fun Q => Q.cell? ⟨HC, 0, none⟩ = some (.int .i64 n) ∧ Q.cell? ⟨HC, 1, none⟩ = some (.string s) ∧ Q.cell? ⟨HC, 2, none⟩ = some (.string r) ∧ Q.cell? ⟨HD, 0, none⟩ = some (.int .i64 m) ∧ Q.cell? ⟨HD, 1, none⟩ = some (.string t) ∧ Q.cell? ⟨HD, 2, none⟩ = some (.string q)), QQ.w.cell? ⟨HD, 2, none⟩ = some (.string q) := fun QQ => QQ.ok.2.2.2.2.2
  have hne : Nonempty (Wd (fun Q => Q.cell? ⟨HC, 0, none⟩ = some (.int .i64 n) ∧ Q.cell? ⟨HC, 1, none⟩ = some (.string s) ∧ Q.cell? ⟨HC, 2, none⟩ = some (.string r) ∧ Q.cell? ⟨HD, 0, none⟩ = some (.int .i64 m) ∧ Q.cell? ⟨HD, 1, none⟩ = some (.string t) ∧ Q.cell? ⟨HD, 2, none⟩ = some (.string q))) := ⟨⟨W9, ⟨(Box.c BC_3.out).1, (Box.c BC_3.out).2.1, (Box.c BC_3.out).2.2, (Box.c BD_3.out).1, (Box.c BD_3.out).2.1, (Box.c BD_3.out).2.2⟩⟩⟩
  go_wp2_with fail
  refine chain (S := (fun Q => Q.cell? ⟨HC, 0, none⟩ = some (.int .i64 n) ∧ Q.cell? ⟨HC, 1, none⟩ = some (.string s) ∧ Q.cell? ⟨HC, 2, none⟩ = some (.string r) ∧ Q.cell? ⟨HD, 0, none⟩ = some (.int .i64 m) ∧ Q.cell? ⟨HD, 1, none⟩ = some (.string t) ∧ Q.cell? ⟨HD, 2, none⟩ = some (.string q))) [([true, true, true, true, true], 5), ([], 6), ([], 7), ([false, false, false, false, false, false, false, false, true], 9)] [false, false, false, false, false, false, false, false, false, false, true, true] (by kernel_rfl) (by kernel_rfl) (by kernel_rfl) ⟨(Box.c BC_3.out).1, (Box.c BC_3.out).2.1, (Box.c BC_3.out).2.2, (Box.c BD_3.out).1, (Box.c BD_3.out).2.1, (Box.c BD_3.out).2.2⟩ ?_
  simp only [wpSegs, pickB, List.dropLast_cons_cons, List.dropLast_singleton, List.getLast?_cons_cons, List.getLast?_singleton, List.toList_toArray, List.getElem?_toArray, List.getElem?_cons_succ, List.getElem?_cons_zero, Option.toList_some]
  have OA_4 : Hid (OwnI 3 W9.drew HB va la) := OA_3.out.below (Below.refl _ _).drew (Nat.le_refl _)
  have OB_4 : Hid (OwnI 3 W9.drew HB vb lb) := OB_3.out.below (Below.refl _ _).drew (Nat.le_refl _)
  have RD_4 : Hid (Rd W9.drew R ao1 len1 cap1 p2) := RD_3.out.drew
  have BL_4 := Lib.hid BL_3.out.drew
  have BA_4 : Hid (Box 24 W9.drew (w.heap.size) 0 ⟨#[]⟩ ⟨#[]⟩) := Box.drew BA_3.out
  have BB_4 : Hid (Box 24 W9.drew (w.heap.size + 1) 0 ⟨#[]⟩ ⟨#[]⟩) := Box.drew BB_3.out
  have BC_4 : Hid (Box 24 W9.drew HC n s r) := Box.drew BC_3.out
  have BD_4 : Hid (Box 24 W9.drew HD m t q) := Box.drew BD_3.out
  clear BL_3 RD_3 BA_3 BB_3 BC_3 BD_3 OA_3 OB_3
  repeat (go_big_quiet_step (fail))
  refine wpQuiet_nil ?_
  intro K hK
  go_wp2_with fail
  obtain ⟨VB, hV⟩ : ∃ QZ, QZ = (W9.alloc (.cells #[.int .i64 1, .int .i64 2, .int .i64 0, .int .i64 3, .int .i64 2, .int .i64 4, .int .i64 5, .int .i64 (-1)] 3)).drew := ⟨_, rfl⟩
  obtain ⟨HL, hHL⟩ : ∃ QZ, QZ = W9.heap.size := ⟨_, rfl⟩
  have hba : Below W9.heap.size W9.drew VB := by rw [hV]; exact Below.trans (b := W9) ⟨rfl, rfl, rfl, Nat.le_refl _, fun _ _ => rfl⟩ ((Below.refl W9.heap.size W9).alloc (Nat.le_refl _) _).drew
  have hLR : R < HL := by rw [hHL]; exact RD_4.out.lt
  have CL : Hid (∀ i, i < 8 → VB.cell? ⟨HL, 0 + i, none⟩ = some (.int .i64 (([1, 2, 0, 3, 2, 4, 5, -1] : List Int).getD i 0))) := fun i hi => by
    rw [hV, hHL, Nat.zero_add]
    have := cells_ivs W9 3 [1, 2, 0, 3, 2, 4, 5, -1] W9.heap.size rfl i hi
    exact this
  have hrd := rd_below RD_4.out hba RD_4.out.lt
  have hg : W9.drew.grownBy VB (some R) := grown_of_below hba
  clear hba
  have OA_5 : Hid (OwnI 3 VB HB va la) := ownKept (R := R) OA_4.out hg hRB
  have OB_5 : Hid (OwnI 3 VB HB vb lb) := ownKept (R := R) OB_4.out hg hRB
  have RD_5 := Lib.hid hrd
  have BL_5 := Lib.hid (BL_4.out.grown hg BL_4.out.size (fun k hk => by cases hk; omega))
  have BA_5 := Lib.hid (Box.kept (row := some R) BA_4.out hg (by simp; omega))
  have BB_5 := Lib.hid (Box.kept (row := some R) BB_4.out hg (by simp; omega))
  have BC_5 := Lib.hid (Box.kept (row := some R) BC_4.out hg (by simp; omega))
  have BD_5 := Lib.hid (Box.kept (row := some R) BD_4.out hg (by simp; omega))
  clear hrd hg
  clear BL_4 RD_4 BA_4 BB_4 BC_4 BD_4 OA_4 OB_4
  rw [← hV, ← hHL]
  clear hV hHL
  refine hK _ _ ⟨(Box.c BC_5.out).1, (Box.c BC_5.out).2.1, (Box.c BC_5.out).2.2, (Box.c BD_5.out).1, (Box.c BD_5.out).2.1, (Box.c BD_5.out).2.2⟩ ?_
  clear hK K
  repeat (go_big_quiet_step (fail))
  refine wpQuiet_nil ?_
  intro K hK
  go_wp2_with fail
  refine (num_any R ao1 len1 cap1 p2 HL 0 8 [1, 2, 0, 3, 2, 4, 5, -1] _ RD_5.out (by omega) (by decide) (by decide) (by omega) CL.out).mono ?_
  rintro e V3 ⟨ix, hix, rfl, hrd, hg⟩
  have key : ∀ i, i < 8 → (-1 ≤ ([1, 2, 0, 3, 2, 4, 5, -1] : List Int).getD i 0 ∧ ([1, 2, 0, 3, 2, 4, 5, -1] : List Int).getD i 0 ≤ 5) := by decide
  have hxw := key ix hix
  obtain ⟨x, hx⟩ : ∃ QZ, QZ = ([1, 2, 0, 3, 2, 4, 5, -1] : List Int).getD ix 0 := ⟨_, rfl⟩
  rw [← hx] at hxw ⊢
  have HXW := Lib.hid hxw
  clear hx hxw key hix
  have OA_6 : Hid (OwnI 3 V3 HB va la) := ownKept (R := R) OA_5.out hg hRB
  have OB_6 : Hid (OwnI 3 V3 HB vb lb) := ownKept (R := R) OB_5.out hg hRB
  have RD_6 := Lib.hid hrd
  have BL_6 := Lib.hid (BL_5.out.grown hg BL_5.out.size (fun k hk => by cases hk; omega))
  have BA_6 := Lib.hid (Box.kept (row := some R) BA_5.out hg (by simp; omega))
  have BB_6 := Lib.hid (Box.kept (row := some R) BB_5.out hg (by simp; omega))
  have BC_6 := Lib.hid (Box.kept (row := some R) BC_5.out hg (by simp; omega))
  have BD_6 := Lib.hid (Box.kept (row := some R) BD_5.out hg (by simp; omega))
  clear hrd hg
  clear BL_5 RD_5 BA_5 BB_5 BC_5 BD_5 OA_5 OB_5
  go_wp2_with fail
  refine hK _ _ ⟨(Box.c BC_6.out).1, (Box.c BC_6.out).2.1, (Box.c BC_6.out).2.2, (Box.c BD_6.out).1, (Box.c BD_6.out).2.1, (Box.c BD_6.out).2.2⟩ ?_
  clear hK K
  obtain ⟨z0, z1, z2⟩ := Box.c BA_6.out
  have f0 := Box.free BA_6.out 0
  have f1 := Box.free BA_6.out 1
  have f2 := Box.free BA_6.out 2
  repeat (go_big_quiet_step (fail))
  refine wpQuiet_nil ?_
  intro K hK
  go_wp2_with fail
  clear z0 z1 z2 f0 f1 f2
  obtain ⟨W7, hW7⟩ : ∃ QZ, QZ = (((V3.setCell ⟨w.heap.size, 0, none⟩ (.int .i64 n)).setCell ⟨w.heap.size, 1, none⟩ (.string s)).setCell ⟨w.heap.size, 2, none⟩ (.string r)) := ⟨_, rfl⟩
  have BL_7 : Hid (Below w.heap.size w W7) := by rw [hW7]; exact Below.setCell (Below.setCell (Below.setCell BL_6.out (by simp) _) (by simp) _) (by simp) _
  have BA_7 : Hid (Box 24 W7 (w.heap.size) n s r) := by rw [hW7]; exact ((Box.set0 BA_6.out n).set1 s).set2 r
  have BB_7 : Hid (Box 24 W7 (w.heap.size + 1) 0 ⟨#[]⟩ ⟨#[]⟩) := by rw [hW7]; exact box_others BB_6.out (by omega)
  have BC_7 : Hid (Box 24 W7 HC n s r) := by rw [hW7]; exact box_others BC_6.out (by omega)
  have BD_7 : Hid (Box 24 W7 HD m t q) := by rw [hW7]; exact box_others BD_6.out (by omega)
  have OA_7 : Hid (OwnI 3 W7 HB va la) := by rw [hW7]; exact own_sets OA_6.out (by omega)
  have OB_7 : Hid (OwnI 3 W7 HB vb lb) := by rw [hW7]; exact own_sets OB_6.out (by omega)
  clear BL_6 RD_6 BA_6 BB_6 BC_6 BD_6 OA_6 OB_6
  rw [← hW7]
  clear hW7
  refine hK _ _ ⟨(Box.c BC_7.out).1, (Box.c BC_7.out).2.1, (Box.c BC_7.out).2.2, (Box.c BD_7.out).1, (Box.c BD_7.out).2.1, (Box.c BD_7.out).2.2⟩ ?_
  clear hK K
  obtain ⟨z0, z1, z2⟩ := Box.c BB_7.out
  have f0 := Box.free BB_7.out 0
  have f1 := Box.free BB_7.out 1
  have f2 := Box.free BB_7.out 2
  repeat (go_big_quiet_step (fail))
  refine wpQuiet_nil ?_
  intro K hK
  go_wp2_with fail
  clear z0 z1 z2 f0 f1 f2
  obtain ⟨W8, hW8⟩ : ∃ QZ, QZ = (((W7.setCell ⟨w.heap.size + 1, 0, none⟩ (.int .i64 m)).setCell ⟨w.heap.size + 1, 1, none⟩ (.string t)).setCell ⟨w.heap.size + 1, 2, none⟩ (.string q)) := ⟨_, rfl⟩
  have BL_8 : Hid (Below w.heap.size w W8) := by rw [hW8]; exact Below.setCell (Below.setCell (Below.setCell BL_7.out (by simp) _) (by simp) _) (by simp) _
  have BA_8 : Hid (Box 24 W8 (w.heap.size) n s r) := by rw [hW8]; exact box_others BA_7.out (by omega)
  have BB_8 : Hid (Box 24 W8 (w.heap.size + 1) m t q) := by rw [hW8]; exact ((Box.set0 BB_7.out m).set1 t).set2 q
  have BC_8 : Hid (Box 24 W8 HC n s r) := by rw [hW8]; exact box_others BC_7.out (by omega)
  have BD_8 : Hid (Box 24 W8 HD m t q) := by rw [hW8]; exact box_others BD_7.out (by omega)
  have OA_8 : Hid (OwnI 3 W8 HB va la) := by rw [hW8]; exact own_sets OA_7.out (by omega)
  have OB_8 : Hid (OwnI 3 W8 HB vb lb) := by rw [hW8]; exact own_sets OB_7.out (by omega)
  clear BL_7 BA_7 BB_7 BC_7 BD_7 OA_7 OB_7
  rw [← hW8]
  clear hW8
  refine hK _ _ ⟨(Box.c BC_8.out).1, (Box.c BC_8.out).2.1, (Box.c BC_8.out).2.2, (Box.c BD_8.out).1, (Box.c BD_8.out).2.1, (Box.c BD_8.out).2.2⟩ ?_
  clear hK K
  repeat (go_big_quiet_step (fail))
  refine wpQuiet_nil ?_
  have HF := Lib.hid (show _ ∧ _ from ⟨Box.c BA_8.out, Box.c BB_8.out⟩)
  have RES := Lib.hid (show _ ∧ _ ∧ _ from ⟨OA_8.out.mono (show w.heap.size ≤ HB by omega), OB_8.out.mono (show w.heap.size ≤ HB by omega), BL_8.out⟩)
  clear BL_8 BA_8 BB_8 BC_8 BD_8 OA_8 OB_8 q0 q1 q2 q3 q4 q5 hne
  go_wp2
  exact bodyPost_ret (v := .tuple #[.agg #[.int .i64 n, .string s, .string r], va, .agg #[.int .i64 m, .string t, .string q], vb, .int .i64 x]) (by simp [results, Tryd.results21, go_sem, HF.out.1.1, HF.out.1.2.1, HF.out.1.2.2, HF.out.2.1, HF.out.2.2.1, HF.out.2.2.2]) rfl ⟨n, s, r, va, la, m, t, q, vb, lb, x, rfl, HN.out.1, HN.out.2.1, HN.out.2.2.1, HN.out.2.2.2, HXW.out, RES.out⟩
end Go.Proofs.YtpcnoiigbmiejaaDoor.l7s
