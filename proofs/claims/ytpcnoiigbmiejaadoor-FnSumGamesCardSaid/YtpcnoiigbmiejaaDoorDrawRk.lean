/- The drawing of the arguments of SameRank. -/
import Derived.Test.YtpcnoiigbmiejaaDoorPair
import Derived.Test.YtpcnoiigbmiejaaDoorPkD
namespace Go.Proofs.YtpcnoiigbmiejaaDoor.drawrk
set_option linter.unusedVariables false
set_option linter.unusedSimpArgs false
open Go.ChangeShapes Go.WideShapes Go.ChangeAt Go.RowKit
open Go.Proofs.YtpcnoiigbmiejaaDoor.lib Go.Proofs.YtpcnoiigbmiejaaDoor.st Go.Proofs.YtpcnoiigbmiejaaDoor.flow Go.Proofs.YtpcnoiigbmiejaaDoor.chain Go.Proofs.YtpcnoiigbmiejaaDoor.draw Go.Proofs.YtpcnoiigbmiejaaDoor.shuf Go.Proofs.YtpcnoiigbmiejaaDoor.pair
/-- what DrawSameRank leaves -/
def DrawnR (w : World) (e : Ending) (w' : World) : Prop :=
  ∃ (n : Int) (s r : ByteArray) (m : Int) (t q : ByteArray) (x : Int), e = .returned (.tuple #[.agg #[.int .i64 n, .string s, .string r], .agg #[.int .i64 m, .string t, .string q], .int .i64 x]) ∧ (Lit.int .i64 n).wf = true ∧ s.size ≤ 100 ∧ r.size ≤ 100 ∧ (Lit.int .i64 m).wf = true ∧ t.size ≤ 100 ∧ q.size ≤ 100 ∧ (-1 ≤ x ∧ x ≤ 4) ∧ Below w.heap.size w w'

set_option maxHeartbeats 6400000 in
set_option maxRecDepth 100000 in
theorem drawSameRank_any (ao : Option Addr) (len cap : Nat) (w : World) (h : Byt w w.heap.size ao len) (hc : len ≤ cap) (hm : cap ≤ 9223372036854775807) :
    Calls Tryd.prog 9 #[.slice ao len cap] w (DrawnR w) := by
  obtain ⟨W0, hW0⟩ : ∃ QZ, QZ = ((w.alloc (.cells #[.int .i64 0, .string ⟨#[]⟩, .string ⟨#[]⟩] 24)).alloc (.cells #[.int .i64 0, .string ⟨#[]⟩, .string ⟨#[]⟩] 24)) := ⟨_, rfl⟩
  have BA_0 : Hid (Box 24 W0 w.heap.size 0 ⟨#[]⟩ ⟨#[]⟩) := by rw [hW0]; exact (Box.new 24 w w.heap.size rfl 0 ⟨#[]⟩ ⟨#[]⟩).below ((Below.refl (w.heap.size + 1) _).alloc (by simp) _) (by omega)
  have BB_0 : Hid (Box 24 W0 (w.heap.size + 1) 0 ⟨#[]⟩ ⟨#[]⟩) := by rw [hW0]; exact Box.new 24 _ (w.heap.size + 1) (by simp) 0 ⟨#[]⟩ ⟨#[]⟩
  have BL_0 : Hid (Below w.heap.size w W0) := by rw [hW0]; exact ((Below.refl _ _).alloc (Nat.le_refl _) _).alloc (by simp) _
  have HBY : Hid (Byt W0 W0.heap.size ao len) := by rw [hW0]; exact Byt.up h (by simp; omega) (fun k hk => by rw [heap_alloc_old _ _ (by simp; omega)]; exact heap_alloc_old w _ hk)
  have hz0 : w.heap.size + 1 < W0.heap.size := BB_0.out.lt
  clear h
  go_enter Tryd.func9, Tryd.ntmps9
  go_wp2_with fail
  rw [← hW0]
  clear hW0
  refine (open_any ao len cap _ HBY.out hc hm).mono ?_
  rintro e W1 ⟨R, ao1, len1, cap1, rfl, hrd, hR, hb⟩
  have RD_1 := Lib.hid hrd
  have BL_1 := Lib.hid (BL_0.out.trans (hb.mono BL_0.out.size))
  have BA_1 := Lib.hid (BA_0.out.below hb BA_0.out.lt)
  have BB_1 := Lib.hid (BB_0.out.below hb BB_0.out.lt)
  clear hrd hb BA_0 BB_0 BL_0 HBY
  go_wp2_with fail
  refine (l1Pair_any R ao1 len1 cap1 0 _ RD_1.out (by omega)).mono ?_
  rintro e W2 ⟨N, s, r, M, t, q, p2, rfl, ⟨hN1, hN2, hs, hr⟩, ⟨hM1, hM2, ht, hq⟩, hrd, hp2, hg⟩
  have RD_2 := Lib.hid hrd
  have BL_2 := Lib.hid (BL_1.out.grown hg BL_1.out.size (fun k hk => by cases hk; omega))
  have BA_2 := Lib.hid (Box.kept (row := some R) BA_1.out hg (by simp; omega))
  have BB_2 := Lib.hid (Box.kept (row := some R) BB_1.out hg (by simp; omega))
  clear hrd hg
  clear BL_1 RD_1 BA_1 BB_1
  have hNN : 1 ≤ r.size ∧ r.size ≤ 64 := by rw [hr]; exact ⟨Nat.mul_le_mul hN1 hN1, Nat.mul_le_mul hN2 hN2⟩
  have hQ : t.size ≤ 100 ∧ q.size ≤ 100 ∧ (Lit.int .i64 (M : Int)).wf = true := by
    have h64 : M * M ≤ 8 * 8 := Nat.mul_le_mul hM2 hM2
    exact ⟨by omega, by omega, small_wf M (by omega)⟩
  have HQ := Lib.hid hQ
  have HS := Lib.hid hs
  clear hr ht hq hs hQ
  obtain ⟨HC, hHC⟩ : ∃ QZ, QZ = W2.heap.size := ⟨_, rfl⟩
  obtain ⟨HD, hHD⟩ : ∃ QZ, QZ = HC + 1 := ⟨_, rfl⟩
  have hlC : w.heap.size + 1 < HC := by rw [hHC]; exact BB_2.out.lt
  have hRC : R < HC := by rw [hHC]; exact RD_2.out.lt
  have hlD : HC < HD := by omega
  obtain ⟨W9, hW9⟩ : ∃ QZ, QZ = (W2.alloc (.cells #[.int .i64 N, .string s, .string r] 24)).alloc (.cells #[.int .i64 M, .string t, .string q] 24) := ⟨_, rfl⟩
  have RD_3 : Hid (Rd W9 R ao1 len1 cap1 p2) := by rw [hW9]; exact (RD_2.out.alloc _).alloc _
  have BL_3 : Hid (Below w.heap.size w W9) := by rw [hW9]; exact (BL_2.out.alloc BL_2.out.size _).alloc (BL_2.out.alloc BL_2.out.size _).size _
  have BA_3 : Hid (Box 24 W9 (w.heap.size) 0 ⟨#[]⟩ ⟨#[]⟩) := by rw [hW9]; exact BA_2.out.below (((Below.refl W2.heap.size W2).alloc (Nat.le_refl _) _).alloc (by simp) _) BA_2.out.lt
  have BB_3 : Hid (Box 24 W9 (w.heap.size + 1) 0 ⟨#[]⟩ ⟨#[]⟩) := by rw [hW9]; exact BB_2.out.below (((Below.refl W2.heap.size W2).alloc (Nat.le_refl _) _).alloc (by simp) _) BB_2.out.lt
  have BC_3 : Hid (Box 24 W9 HC N s r) := by rw [hW9, hHC]; exact (Box.new 24 W2 _ rfl N s r).below ((Below.refl (W2.heap.size + 1) _).alloc (by simp) _) (by omega)
  have BD_3 : Hid (Box 24 W9 HD M t q) := by rw [hW9, hHD, hHC]; exact Box.new 24 _ _ (by simp) M t q
  clear BL_2 RD_2 BA_2 BB_2
  go_wp2_with fail
  rw [← hW9]
  rw [← hHC]
  rw [← hHD]
  clear hW9 hHC hHD
  refine (pick_any R ao1 len1 cap1 p2 30 _ RD_3.out (by omega) (by decide) (by decide)).mono ?_
  rintro e W4 ⟨v, hv, rfl, hrd, hg⟩
  have RD_4 := Lib.hid hrd
  have BL_4 := Lib.hid (BL_3.out.grown hg BL_3.out.size (fun k hk => by cases hk; omega))
  have BA_4 := Lib.hid (Box.kept (row := some R) BA_3.out hg (by simp; omega))
  have BB_4 := Lib.hid (Box.kept (row := some R) BB_3.out hg (by simp; omega))
  have BC_4 := Lib.hid (Box.kept (row := some R) BC_3.out hg (by simp; omega))
  have BD_4 := Lib.hid (Box.kept (row := some R) BD_3.out hg (by simp; omega))
  clear hrd hg
  clear BL_3 RD_3 BA_3 BB_3 BC_3 BD_3
  clear hv
  have hNW : (Lit.int .i64 (N : Int)).wf = true ∧ s.size ≤ 100 ∧ r.size ≤ 100 := by have := HS.out; exact ⟨small_wf N (by omega), by omega, by omega⟩
  have HNW := Lib.hid hNW
  clear hNW
  by_cases hv0 : v = 0
  · have e0 : ((v : Int) == 0) = true := by simp; omega
    clear hv0
    have q0 : ∀ QQ : Wd (fun Q => Q.cell? ⟨HC, 0, none⟩ = some (.int .i64 N) ∧ Q.cell? ⟨HC, 1, none⟩ = some (.string s) ∧ Q.cell? ⟨HC, 2, none⟩ = some (.string r) ∧ Q.cell? ⟨HD, 0, none⟩ = some (.int .i64 M) ∧ Q.cell? ⟨HD, 1, none⟩ = some (.string t) ∧ Q.cell? ⟨HD, 2, none⟩ = some (.string q)), QQ.w.cell? ⟨HC, 0, none⟩ = some (.int .i64 N) := fun QQ => QQ.ok.1
    have q1 : ∀ QQ : Wd (fun Q => Q.cell? ⟨HC, 0, none⟩ = some (.int .i64 N) ∧ Q.cell? ⟨HC, 1, none⟩ = some (.string s) ∧ Q.cell? ⟨HC, 2, none⟩ = some (.string r) ∧ Q.cell? ⟨HD, 0, none⟩ = some (.int .i64 M) ∧ Q.cell? ⟨HD, 1, none⟩ = some (.string t) ∧ Q.cell? ⟨HD, 2, none⟩ = some (.string q)), QQ.w.cell? ⟨HC, 1, none⟩ = some (.string s) := fun QQ => QQ.ok.2.1
    have q2 : ∀ QQ : Wd (fun Q => Q.cell? ⟨HC, 0, none⟩ = some (.int .i64 N) ∧ Q.cell? ⟨HC, 1, none⟩ = some (.string s) ∧ Q.cell? ⟨HC, 2, none⟩ = some (.string r) ∧ Q.cell? ⟨HD, 0, none⟩ = some (.int .i64 M) ∧ Q.cell? ⟨HD, 1, none⟩ = some (.string t) ∧ Q.cell? ⟨HD, 2, none⟩ = some (.string q)), QQ.w.cell? ⟨HC, 2, none⟩ = some (.string r) := fun QQ => QQ.ok.2.2.1
    have q3 : ∀ QQ : Wd (fun Q => Q.cell? ⟨HC, 0, none⟩ = some (.int .i64 N) ∧ Q.cell? ⟨HC, 1, none⟩ = some (.string s) ∧ Q.cell? ⟨HC, 2, none⟩ = some (.string r) ∧ Q.cell? ⟨HD, 0, none⟩ = some (.int .i64 M) ∧ Q.cell? ⟨HD, 1, none⟩ = some (.string t) ∧ Q.cell? ⟨HD, 2, none⟩ = some (.string q)), QQ.w.cell? ⟨HD, 0, none⟩ = some (.int .i64 M) := fun QQ => QQ.ok.2.2.2.1
    have q4 : ∀ QQ : Wd (fun Q => Q.cell? ⟨HC, 0, none⟩ = some (.int .i64 N) ∧ Q.cell? ⟨HC, 1, none⟩ = some (.string s) ∧ Q.cell? ⟨HC, 2, none⟩ = some (.string r) ∧ Q.cell? ⟨HD, 0, none⟩ = some (.int .i64 M) ∧ Q.cell? ⟨HD, 1, none⟩ = some (.string t) ∧ Q.cell? ⟨HD, 2, none⟩ = some (.string q)), QQ.w.cell? ⟨HD, 1, none⟩ = some (.string t) := fun QQ => QQ.ok.2.2.2.2.1
    have q5 : ∀ QQ : Wd (fun Q => Q.cell? ⟨HC, 0, none⟩ = some (.int .i64 N) ∧ Q.cell? ⟨HC, 1, none⟩ = some (.string s) ∧ Q.cell? ⟨HC, 2, none⟩ = some (.string r) ∧ Q.cell? ⟨HD, 0, none⟩ = some (.int .i64 M) ∧ Q.cell? ⟨HD, 1, none⟩ = some (.string t) ∧ Q.cell? ⟨HD, 2, none⟩ = some (.string q)), QQ.w.cell? ⟨HD, 2, none⟩ = some (.string q) := fun QQ => QQ.ok.2.2.2.2.2
    have hne : Nonempty (Wd (fun Q => Q.cell? ⟨HC, 0, none⟩ = some (.int .i64 N) ∧ Q.cell? ⟨HC, 1, none⟩ = some (.string s) ∧ Q.cell? ⟨HC, 2, none⟩ = some (.string r) ∧ Q.cell? ⟨HD, 0, none⟩ = some (.int .i64 M) ∧ Q.cell? ⟨HD, 1, none⟩ = some (.string t) ∧ Q.cell? ⟨HD, 2, none⟩ = some (.string q))) := ⟨⟨W4, ⟨(Box.c BC_4.out).1, (Box.c BC_4.out).2.1, (Box.c BC_4.out).2.2, (Box.c BD_4.out).1, (Box.c BD_4.out).2.1, (Box.c BD_4.out).2.2⟩⟩⟩
    go_wp2_with fail
    refine tree (S := (fun Q => Q.cell? ⟨HC, 0, none⟩ = some (.int .i64 N) ∧ Q.cell? ⟨HC, 1, none⟩ = some (.string s) ∧ Q.cell? ⟨HC, 2, none⟩ = some (.string r) ∧ Q.cell? ⟨HD, 0, none⟩ = some (.int .i64 M) ∧ Q.cell? ⟨HD, 1, none⟩ = some (.string t) ∧ Q.cell? ⟨HD, 2, none⟩ = some (.string q))) (Tr.two [true, true, false, true, true] 2 (Tr.one [] 5 (Tr.one [] 6 (Tr.one [] 7 (Tr.one [] 8 (Tr.leaf [false, false, false, false, false, false, false, false, false, true]))))) 5 (Tr.one [] 2 (Tr.one [] 6 (Tr.one [] 7 (Tr.one [] 8 (Tr.leaf [false, false, false, false, false, false, false, false, false, true])))))) (by kernel_rfl) (by kernel_rfl) (by kernel_rfl) ⟨(Box.c BC_4.out).1, (Box.c BC_4.out).2.1, (Box.c BC_4.out).2.2, (Box.c BD_4.out).1, (Box.c BD_4.out).2.1, (Box.c BD_4.out).2.2⟩ ?_
    simp only [wpTr, pickB, List.toList_toArray, List.getElem?_toArray, List.getElem?_cons_succ, List.getElem?_cons_zero, Option.toList_some]
    have RD_5 : Hid (Rd W4.drew R ao1 len1 cap1 (p2 + 1)) := RD_4.out.drew
    have BL_5 := Lib.hid BL_4.out.drew
    have BA_5 : Hid (Box 24 W4.drew (w.heap.size) 0 ⟨#[]⟩ ⟨#[]⟩) := Box.drew BA_4.out
    have BB_5 : Hid (Box 24 W4.drew (w.heap.size + 1) 0 ⟨#[]⟩ ⟨#[]⟩) := Box.drew BB_4.out
    have BC_5 : Hid (Box 24 W4.drew HC N s r) := Box.drew BC_4.out
    have BD_5 : Hid (Box 24 W4.drew HD M t q) := Box.drew BD_4.out
    clear BL_4 RD_4 BA_4 BB_4 BC_4 BD_4
    repeat (go_big_quiet_step (fail))
    refine wpQuiet_nil ?_
    constructor
    · intro K hK
      go_wp2_with fail
      refine (l1Bad_any R ao1 len1 cap1 (p2 + 1) N s r _ RD_5.out (by omega) hN2 HS.out hNN.1 hNN.2).mono ?_
      rintro e V1 ⟨n, s2, r2, p5, rfl, hnw, hs2, hr2, hrd, hp5, hg⟩
      have HB := Lib.hid (show _ ∧ _ ∧ _ from ⟨hnw, hs2, hr2⟩)
      clear hnw hs2 hr2
      have RD_6 := Lib.hid hrd
      have BL_6 := Lib.hid (BL_5.out.grown hg BL_5.out.size (fun k hk => by cases hk; omega))
      have BA_6 := Lib.hid (Box.kept (row := some R) BA_5.out hg (by simp; omega))
      have BB_6 := Lib.hid (Box.kept (row := some R) BB_5.out hg (by simp; omega))
      have BC_6 := Lib.hid (Box.kept (row := some R) BC_5.out hg (by simp; omega))
      have BD_6 := Lib.hid (Box.kept (row := some R) BD_5.out hg (by simp; omega))
      clear hrd hg
      clear BL_5 RD_5 BA_5 BB_5 BC_5 BD_5
      go_wp2_with fail
      refine hK _ _ ⟨(Box.c BC_6.out).1, (Box.c BC_6.out).2.1, (Box.c BC_6.out).2.2, (Box.c BD_6.out).1, (Box.c BD_6.out).2.1, (Box.c BD_6.out).2.2⟩ ?_
      clear hK K
      repeat (go_big_quiet_step (fail))
      refine wpQuiet_nil ?_
      intro K hK
      go_wp2_with fail
      obtain ⟨VB, hV⟩ : ∃ QZ, QZ = V1.alloc (.cells #[.int .i64 (-1), .int .i64 4, .int .i64 0] 3) := ⟨_, rfl⟩
      obtain ⟨HL, hHL⟩ : ∃ QZ, QZ = V1.heap.size := ⟨_, rfl⟩
      have hba : Below V1.heap.size V1 VB := by rw [hV]; exact (Below.refl _ _).alloc (Nat.le_refl _) _
      have hLR : R < HL := by rw [hHL]; exact RD_6.out.lt
      have CL : Hid (∀ i, i < 3 → VB.cell? ⟨HL, 0 + i, none⟩ = some (.int .i64 (([-1, 4, 0] : List Int).getD i 0))) := fun i hi => by
        rw [hV, hHL, Nat.zero_add]
        have := cells_ivs V1 3 [-1, 4, 0] V1.heap.size rfl i hi
        exact this
      have hrd := rd_below RD_6.out hba RD_6.out.lt
      have hg : V1.grownBy VB (some R) := grown_of_below hba
      clear hba
      have RD_7 := Lib.hid hrd
      have BL_7 := Lib.hid (BL_6.out.grown hg BL_6.out.size (fun k hk => by cases hk; omega))
      have BA_7 := Lib.hid (Box.kept (row := some R) BA_6.out hg (by simp; omega))
      have BB_7 := Lib.hid (Box.kept (row := some R) BB_6.out hg (by simp; omega))
      have BC_7 := Lib.hid (Box.kept (row := some R) BC_6.out hg (by simp; omega))
      have BD_7 := Lib.hid (Box.kept (row := some R) BD_6.out hg (by simp; omega))
      clear hrd hg
      clear BL_6 RD_6 BA_6 BB_6 BC_6 BD_6
      rw [← hV, ← hHL]
      clear hV hHL
      refine hK _ _ ⟨(Box.c BC_7.out).1, (Box.c BC_7.out).2.1, (Box.c BC_7.out).2.2, (Box.c BD_7.out).1, (Box.c BD_7.out).2.1, (Box.c BD_7.out).2.2⟩ ?_
      clear hK K
      repeat (go_big_quiet_step (fail))
      refine wpQuiet_nil ?_
      intro K hK
      go_wp2_with fail
      refine (num_any R ao1 len1 cap1 p5 HL 0 3 [-1, 4, 0] _ RD_7.out (by omega) (by decide) (by decide) (by omega) CL.out).mono ?_
      rintro e V3 ⟨ix, hix, rfl, hrd, hg⟩
      have key : ∀ i, i < 3 → (-1 ≤ ([-1, 4, 0] : List Int).getD i 0 ∧ ([-1, 4, 0] : List Int).getD i 0 ≤ 4) := by decide
      have hxw := key ix hix
      obtain ⟨x, hx⟩ : ∃ QZ, QZ = ([-1, 4, 0] : List Int).getD ix 0 := ⟨_, rfl⟩
      rw [← hx] at hxw ⊢
      have HXW := Lib.hid hxw
      clear hx hxw key hix
      have RD_8 := Lib.hid hrd
      have BL_8 := Lib.hid (BL_7.out.grown hg BL_7.out.size (fun k hk => by cases hk; omega))
      have BA_8 := Lib.hid (Box.kept (row := some R) BA_7.out hg (by simp; omega))
      have BB_8 := Lib.hid (Box.kept (row := some R) BB_7.out hg (by simp; omega))
      have BC_8 := Lib.hid (Box.kept (row := some R) BC_7.out hg (by simp; omega))
      have BD_8 := Lib.hid (Box.kept (row := some R) BD_7.out hg (by simp; omega))
      clear hrd hg
      clear BL_7 RD_7 BA_7 BB_7 BC_7 BD_7
      go_wp2_with fail
      refine hK _ _ ⟨(Box.c BC_8.out).1, (Box.c BC_8.out).2.1, (Box.c BC_8.out).2.2, (Box.c BD_8.out).1, (Box.c BD_8.out).2.1, (Box.c BD_8.out).2.2⟩ ?_
      clear hK K
      obtain ⟨z0, z1, z2⟩ := Box.c BA_8.out
      have f0 := Box.free BA_8.out 0
      have f1 := Box.free BA_8.out 1
      have f2 := Box.free BA_8.out 2
      repeat (go_big_quiet_step (fail))
      refine wpQuiet_nil ?_
      intro K hK
      go_wp2_with fail
      clear z0 z1 z2 f0 f1 f2
      obtain ⟨W9, hW9⟩ : ∃ QZ, QZ = (((V3.setCell ⟨w.heap.size, 0, none⟩ (.int .i64 n)).setCell ⟨w.heap.size, 1, none⟩ (.string s2)).setCell ⟨w.heap.size, 2, none⟩ (.string r2)) := ⟨_, rfl⟩
      have BL_9 : Hid (Below w.heap.size w W9) := by rw [hW9]; exact Below.setCell (Below.setCell (Below.setCell BL_8.out (by simp) _) (by simp) _) (by simp) _
      have BA_9 : Hid (Box 24 W9 (w.heap.size) n s2 r2) := by rw [hW9]; exact ((Box.set0 BA_8.out n).set1 s2).set2 r2
      have BB_9 : Hid (Box 24 W9 (w.heap.size + 1) 0 ⟨#[]⟩ ⟨#[]⟩) := by rw [hW9]; exact box_others BB_8.out (by omega)
      have BC_9 : Hid (Box 24 W9 HC N s r) := by rw [hW9]; exact box_others BC_8.out (by omega)
      have BD_9 : Hid (Box 24 W9 HD M t q) := by rw [hW9]; exact box_others BD_8.out (by omega)
      clear BL_8 RD_8 BA_8 BB_8 BC_8 BD_8
      rw [← hW9]
      clear hW9
      refine hK _ _ ⟨(Box.c BC_9.out).1, (Box.c BC_9.out).2.1, (Box.c BC_9.out).2.2, (Box.c BD_9.out).1, (Box.c BD_9.out).2.1, (Box.c BD_9.out).2.2⟩ ?_
      clear hK K
      obtain ⟨z0, z1, z2⟩ := Box.c BB_9.out
      have f0 := Box.free BB_9.out 0
      have f1 := Box.free BB_9.out 1
      have f2 := Box.free BB_9.out 2
      repeat (go_big_quiet_step (fail))
      refine wpQuiet_nil ?_
      intro K hK
      go_wp2_with fail
      clear z0 z1 z2 f0 f1 f2
      obtain ⟨W10, hW10⟩ : ∃ QZ, QZ = (((W9.setCell ⟨w.heap.size + 1, 0, none⟩ (.int .i64 M)).setCell ⟨w.heap.size + 1, 1, none⟩ (.string t)).setCell ⟨w.heap.size + 1, 2, none⟩ (.string q)) := ⟨_, rfl⟩
      have BL_10 : Hid (Below w.heap.size w W10) := by rw [hW10]; exact Below.setCell (Below.setCell (Below.setCell BL_9.out (by simp) _) (by simp) _) (by simp) _
      have BA_10 : Hid (Box 24 W10 (w.heap.size) n s2 r2) := by rw [hW10]; exact box_others BA_9.out (by omega)
      have BB_10 : Hid (Box 24 W10 (w.heap.size + 1) M t q) := by rw [hW10]; exact ((Box.set0 BB_9.out M).set1 t).set2 q
      have BC_10 : Hid (Box 24 W10 HC N s r) := by rw [hW10]; exact box_others BC_9.out (by omega)
      have BD_10 : Hid (Box 24 W10 HD M t q) := by rw [hW10]; exact box_others BD_9.out (by omega)
      clear BL_9 BA_9 BB_9 BC_9 BD_9
      rw [← hW10]
      clear hW10
      refine hK _ _ ⟨(Box.c BC_10.out).1, (Box.c BC_10.out).2.1, (Box.c BC_10.out).2.2, (Box.c BD_10.out).1, (Box.c BD_10.out).2.1, (Box.c BD_10.out).2.2⟩ ?_
      clear hK K
      repeat (go_big_quiet_step (fail))
      refine wpQuiet_nil ?_
      have HF := Lib.hid (show _ ∧ _ from ⟨Box.c BA_10.out, Box.c BB_10.out⟩)
      have RES := BL_10
      clear BL_10 BA_10 BB_10 BC_10 BD_10 q0 q1 q2 q3 q4 q5 hne
      go_wp2
      exact bodyPost_ret (v := .tuple #[.agg #[.int .i64 n, .string s2, .string r2], .agg #[.int .i64 M, .string t, .string q], .int .i64 x]) (by simp [results, Tryd.results9, go_sem, HF.out.1.1, HF.out.1.2.1, HF.out.1.2.2, HF.out.2.1, HF.out.2.2.1, HF.out.2.2.2]) rfl ⟨n, s2, r2, M, t, q, x, rfl, HB.out.1, HB.out.2.1, HB.out.2.2, HQ.out.2.2, HQ.out.1, HQ.out.2.1, HXW.out, RES.out⟩
    · intro K hK
      go_wp2_with fail
      obtain ⟨VB, hV⟩ : ∃ QZ, QZ = (W4.alloc (.cells #[.int .i64 (-1), .int .i64 4, .int .i64 0] 3)).drew := ⟨_, rfl⟩
      obtain ⟨HL, hHL⟩ : ∃ QZ, QZ = W4.heap.size := ⟨_, rfl⟩
      have hba : Below W4.heap.size W4.drew VB := by rw [hV]; exact Below.trans (b := W4) ⟨rfl, rfl, rfl, Nat.le_refl _, fun _ _ => rfl⟩ ((Below.refl W4.heap.size W4).alloc (Nat.le_refl _) _).drew
      have hLR : R < HL := by rw [hHL]; exact RD_5.out.lt
      have CL : Hid (∀ i, i < 3 → VB.cell? ⟨HL, 0 + i, none⟩ = some (.int .i64 (([-1, 4, 0] : List Int).getD i 0))) := fun i hi => by
        rw [hV, hHL, Nat.zero_add]
        have := cells_ivs W4 3 [-1, 4, 0] W4.heap.size rfl i hi
        exact this
      have hrd := rd_below RD_5.out hba RD_5.out.lt
      have hg : W4.drew.grownBy VB (some R) := grown_of_below hba
      clear hba
      have RD_6 := Lib.hid hrd
      have BL_6 := Lib.hid (BL_5.out.grown hg BL_5.out.size (fun k hk => by cases hk; omega))
      have BA_6 := Lib.hid (Box.kept (row := some R) BA_5.out hg (by simp; omega))
      have BB_6 := Lib.hid (Box.kept (row := some R) BB_5.out hg (by simp; omega))
      have BC_6 := Lib.hid (Box.kept (row := some R) BC_5.out hg (by simp; omega))
      have BD_6 := Lib.hid (Box.kept (row := some R) BD_5.out hg (by simp; omega))
      clear hrd hg
      clear BL_5 RD_5 BA_5 BB_5 BC_5 BD_5
      rw [← hV, ← hHL]
      clear hV hHL
      refine hK _ _ ⟨(Box.c BC_6.out).1, (Box.c BC_6.out).2.1, (Box.c BC_6.out).2.2, (Box.c BD_6.out).1, (Box.c BD_6.out).2.1, (Box.c BD_6.out).2.2⟩ ?_
      clear hK K
      repeat (go_big_quiet_step (fail))
      refine wpQuiet_nil ?_
      intro K hK
      go_wp2_with fail
      refine (l1Bad_any R ao1 len1 cap1 (p2 + 1) N s r _ RD_6.out (by omega) hN2 HS.out hNN.1 hNN.2).mono ?_
      rintro e V1 ⟨n, s2, r2, p5, rfl, hnw, hs2, hr2, hrd, hp5, hg⟩
      have HB := Lib.hid (show _ ∧ _ ∧ _ from ⟨hnw, hs2, hr2⟩)
      clear hnw hs2 hr2
      have CL2 := CL.out
      have CL : Hid (∀ i, i < 3 → V1.cell? ⟨HL, 0 + i, none⟩ = some (.int .i64 (([-1, 4, 0] : List Int).getD i 0))) := fun i hi => hg.cell (CL2 i hi) (by simp; omega)
      clear CL2
      have RD_7 := Lib.hid hrd
      have BL_7 := Lib.hid (BL_6.out.grown hg BL_6.out.size (fun k hk => by cases hk; omega))
      have BA_7 := Lib.hid (Box.kept (row := some R) BA_6.out hg (by simp; omega))
      have BB_7 := Lib.hid (Box.kept (row := some R) BB_6.out hg (by simp; omega))
      have BC_7 := Lib.hid (Box.kept (row := some R) BC_6.out hg (by simp; omega))
      have BD_7 := Lib.hid (Box.kept (row := some R) BD_6.out hg (by simp; omega))
      clear hrd hg
      clear BL_6 RD_6 BA_6 BB_6 BC_6 BD_6
      go_wp2_with fail
      refine hK _ _ ⟨(Box.c BC_7.out).1, (Box.c BC_7.out).2.1, (Box.c BC_7.out).2.2, (Box.c BD_7.out).1, (Box.c BD_7.out).2.1, (Box.c BD_7.out).2.2⟩ ?_
      clear hK K
      repeat (go_big_quiet_step (fail))
      refine wpQuiet_nil ?_
      intro K hK
      go_wp2_with fail
      refine (num_any R ao1 len1 cap1 p5 HL 0 3 [-1, 4, 0] _ RD_7.out (by omega) (by decide) (by decide) (by omega) CL.out).mono ?_
      rintro e V3 ⟨ix, hix, rfl, hrd, hg⟩
      have key : ∀ i, i < 3 → (-1 ≤ ([-1, 4, 0] : List Int).getD i 0 ∧ ([-1, 4, 0] : List Int).getD i 0 ≤ 4) := by decide
      have hxw := key ix hix
      obtain ⟨x, hx⟩ : ∃ QZ, QZ = ([-1, 4, 0] : List Int).getD ix 0 := ⟨_, rfl⟩
      rw [← hx] at hxw ⊢
      have HXW := Lib.hid hxw
      clear hx hxw key hix
      have RD_8 := Lib.hid hrd
      have BL_8 := Lib.hid (BL_7.out.grown hg BL_7.out.size (fun k hk => by cases hk; omega))
      have BA_8 := Lib.hid (Box.kept (row := some R) BA_7.out hg (by simp; omega))
      have BB_8 := Lib.hid (Box.kept (row := some R) BB_7.out hg (by simp; omega))
      have BC_8 := Lib.hid (Box.kept (row := some R) BC_7.out hg (by simp; omega))
      have BD_8 := Lib.hid (Box.kept (row := some R) BD_7.out hg (by simp; omega))
      clear hrd hg
      clear BL_7 RD_7 BA_7 BB_7 BC_7 BD_7
      go_wp2_with fail
      refine hK _ _ ⟨(Box.c BC_8.out).1, (Box.c BC_8.out).2.1, (Box.c BC_8.out).2.2, (Box.c BD_8.out).1, (Box.c BD_8.out).2.1, (Box.c BD_8.out).2.2⟩ ?_
      clear hK K
      obtain ⟨z0, z1, z2⟩ := Box.c BA_8.out
      have f0 := Box.free BA_8.out 0
      have f1 := Box.free BA_8.out 1
      have f2 := Box.free BA_8.out 2
      repeat (go_big_quiet_step (fail))
      refine wpQuiet_nil ?_
      intro K hK
      go_wp2_with fail
      clear z0 z1 z2 f0 f1 f2
      obtain ⟨W9, hW9⟩ : ∃ QZ, QZ = (((V3.setCell ⟨w.heap.size, 0, none⟩ (.int .i64 n)).setCell ⟨w.heap.size, 1, none⟩ (.string s2)).setCell ⟨w.heap.size, 2, none⟩ (.string r2)) := ⟨_, rfl⟩
      have BL_9 : Hid (Below w.heap.size w W9) := by rw [hW9]; exact Below.setCell (Below.setCell (Below.setCell BL_8.out (by simp) _) (by simp) _) (by simp) _
      have BA_9 : Hid (Box 24 W9 (w.heap.size) n s2 r2) := by rw [hW9]; exact ((Box.set0 BA_8.out n).set1 s2).set2 r2
      have BB_9 : Hid (Box 24 W9 (w.heap.size + 1) 0 ⟨#[]⟩ ⟨#[]⟩) := by rw [hW9]; exact box_others BB_8.out (by omega)
      have BC_9 : Hid (Box 24 W9 HC N s r) := by rw [hW9]; exact box_others BC_8.out (by omega)
      have BD_9 : Hid (Box 24 W9 HD M t q) := by rw [hW9]; exact box_others BD_8.out (by omega)
      clear BL_8 RD_8 BA_8 BB_8 BC_8 BD_8
      rw [← hW9]
      clear hW9
      refine hK _ _ ⟨(Box.c BC_9.out).1, (Box.c BC_9.out).2.1, (Box.c BC_9.out).2.2, (Box.c BD_9.out).1, (Box.c BD_9.out).2.1, (Box.c BD_9.out).2.2⟩ ?_
      clear hK K
      obtain ⟨z0, z1, z2⟩ := Box.c BB_9.out
      have f0 := Box.free BB_9.out 0
      have f1 := Box.free BB_9.out 1
      have f2 := Box.free BB_9.out 2
      repeat (go_big_quiet_step (fail))
      refine wpQuiet_nil ?_
      intro K hK
      go_wp2_with fail
      clear z0 z1 z2 f0 f1 f2
      obtain ⟨W10, hW10⟩ : ∃ QZ, QZ = (((W9.setCell ⟨w.heap.size + 1, 0, none⟩ (.int .i64 M)).setCell ⟨w.heap.size + 1, 1, none⟩ (.string t)).setCell ⟨w.heap.size + 1, 2, none⟩ (.string q)) := ⟨_, rfl⟩
      have BL_10 : Hid (Below w.heap.size w W10) := by rw [hW10]; exact Below.setCell (Below.setCell (Below.setCell BL_9.out (by simp) _) (by simp) _) (by simp) _
      have BA_10 : Hid (Box 24 W10 (w.heap.size) n s2 r2) := by rw [hW10]; exact box_others BA_9.out (by omega)
      have BB_10 : Hid (Box 24 W10 (w.heap.size + 1) M t q) := by rw [hW10]; exact ((Box.set0 BB_9.out M).set1 t).set2 q
      have BC_10 : Hid (Box 24 W10 HC N s r) := by rw [hW10]; exact box_others BC_9.out (by omega)
      have BD_10 : Hid (Box 24 W10 HD M t q) := by rw [hW10]; exact box_others BD_9.out (by omega)
      clear BL_9 BA_9 BB_9 BC_9 BD_9
      rw [← hW10]
      clear hW10
      refine hK _ _ ⟨(Box.c BC_10.out).1, (Box.c BC_10.out).2.1, (Box.c BC_10.out).2.2, (Box.c BD_10.out).1, (Box.c BD_10.out).2.1, (Box.c BD_10.out).2.2⟩ ?_
      clear hK K
      repeat (go_big_quiet_step (fail))
      refine wpQuiet_nil ?_
      have HF := Lib.hid (show _ ∧ _ from ⟨Box.c BA_10.out, Box.c BB_10.out⟩)
      have RES := BL_10
      clear BL_10 BA_10 BB_10 BC_10 BD_10 q0 q1 q2 q3 q4 q5 hne
      go_wp2
      exact bodyPost_ret (v := .tuple #[.agg #[.int .i64 n, .string s2, .string r2], .agg #[.int .i64 M, .string t, .string q], .int .i64 x]) (by simp [results, Tryd.results9, go_sem, HF.out.1.1, HF.out.1.2.1, HF.out.1.2.2, HF.out.2.1, HF.out.2.2.1, HF.out.2.2.2]) rfl ⟨n, s2, r2, M, t, q, x, rfl, HB.out.1, HB.out.2.1, HB.out.2.2, HQ.out.2.2, HQ.out.1, HQ.out.2.1, HXW.out, RES.out⟩
  · have e0 : ((v : Int) == 0) = false := by simp; omega
    clear hv0
    have q0 : ∀ QQ : Wd (fun Q => Q.cell? ⟨HC, 0, none⟩ = some (.int .i64 N) ∧ Q.cell? ⟨HC, 1, none⟩ = some (.string s) ∧ Q.cell? ⟨HC, 2, none⟩ = some (.string r) ∧ Q.cell? ⟨HD, 0, none⟩ = some (.int .i64 M) ∧ Q.cell? ⟨HD, 1, none⟩ = some (.string t) ∧ Q.cell? ⟨HD, 2, none⟩ = some (.string q)), QQ.w.cell? ⟨HC, 0, none⟩ = some (.int .i64 N) := fun QQ => QQ.ok.1
    have q1 : ∀ QQ : Wd (fun Q => Q.cell? ⟨HC, 0, none⟩ = some (.int .i64 N) ∧ Q.cell? ⟨HC, 1, none⟩ = some (.string s) ∧ Q.cell? ⟨HC, 2, none⟩ = some (.string r) ∧ Q.cell? ⟨HD, 0, none⟩ = some (.int .i64 M) ∧ Q.cell? ⟨HD, 1, none⟩ = some (.string t) ∧ Q.cell? ⟨HD, 2, none⟩ = some (.string q)), QQ.w.cell? ⟨HC, 1, none⟩ = some (.string s) := fun QQ => QQ.ok.2.1
    have q2 : ∀ QQ : Wd (fun Q => Q.cell? ⟨HC, 0, none⟩ = some (.int .i64 N) ∧ Q.cell? ⟨HC, 1, none⟩ = some (.string s) ∧ Q.cell? ⟨HC, 2, none⟩ = some (.string r) ∧ Q.cell? ⟨HD, 0, none⟩ = some (.int .i64 M) ∧ Q.cell? ⟨HD, 1, none⟩ = some (.string t) ∧ Q.cell? ⟨HD, 2, none⟩ = some (.string q)), QQ.w.cell? ⟨HC, 2, none⟩ = some (.string r) := fun QQ => QQ.ok.2.2.1
    have q3 : ∀ QQ : Wd (fun Q => Q.cell? ⟨HC, 0, none⟩ = some (.int .i64 N) ∧ Q.cell? ⟨HC, 1, none⟩ = some (.string s) ∧ Q.cell? ⟨HC, 2, none⟩ = some (.string r) ∧ Q.cell? ⟨HD, 0, none⟩ = some (.int .i64 M) ∧ Q.cell? ⟨HD, 1, none⟩ = some (.string t) ∧ Q.cell? ⟨HD, 2, none⟩ = some (.string q)), QQ.w.cell? ⟨HD, 0, none⟩ = some (.int .i64 M) := fun QQ => QQ.ok.2.2.2.1
    have q4 : ∀ QQ : Wd (fun Q => Q.cell? ⟨HC, 0, none⟩ = some (.int .i64 N) ∧ Q.cell? ⟨HC, 1, none⟩ = some (.string s) ∧ Q.cell? ⟨HC, 2, none⟩ = some (.string r) ∧ Q.cell? ⟨HD, 0, none⟩ = some (.int .i64 M) ∧ Q.cell? ⟨HD, 1, none⟩ = some (.string t) ∧ Q.cell? ⟨HD, 2, none⟩ = some (.string q)), QQ.w.cell? ⟨HD, 1, none⟩ = some (.string t) := fun QQ => QQ.ok.2.2.2.2.1
    have q5 : ∀ QQ : Wd (fun Q => Q.cell? ⟨HC, 0, none⟩ = some (.int .i64 N) ∧ Q.cell? ⟨HC, 1, none⟩ = some (.string s) ∧ Q.cell? ⟨HC, 2, none⟩ = some (.string r) ∧ Q.cell? ⟨HD, 0, none⟩ = some (.int .i64 M) ∧ Q.cell? ⟨HD, 1, none⟩ = some (.string t) ∧ Q.cell? ⟨HD, 2, none⟩ = some (.string q)), QQ.w.cell? ⟨HD, 2, none⟩ = some (.string q) := fun QQ => QQ.ok.2.2.2.2.2
    have hne : Nonempty (Wd (fun Q => Q.cell? ⟨HC, 0, none⟩ = some (.int .i64 N) ∧ Q.cell? ⟨HC, 1, none⟩ = some (.string s) ∧ Q.cell? ⟨HC, 2, none⟩ = some (.string r) ∧ Q.cell? ⟨HD, 0, none⟩ = some (.int .i64 M) ∧ Q.cell? ⟨HD, 1, none⟩ = some (.string t) ∧ Q.cell? ⟨HD, 2, none⟩ = some (.string q))) := ⟨⟨W4, ⟨(Box.c BC_4.out).1, (Box.c BC_4.out).2.1, (Box.c BC_4.out).2.2, (Box.c BD_4.out).1, (Box.c BD_4.out).2.1, (Box.c BD_4.out).2.2⟩⟩⟩
    go_wp2_with fail
    refine chain (S := (fun Q => Q.cell? ⟨HC, 0, none⟩ = some (.int .i64 N) ∧ Q.cell? ⟨HC, 1, none⟩ = some (.string s) ∧ Q.cell? ⟨HC, 2, none⟩ = some (.string r) ∧ Q.cell? ⟨HD, 0, none⟩ = some (.int .i64 M) ∧ Q.cell? ⟨HD, 1, none⟩ = some (.string t) ∧ Q.cell? ⟨HD, 2, none⟩ = some (.string q))) [([true, true, true], 3), ([], 4), ([], 5), ([], 6)] [false, false, false, false, false, false, false, true] (by kernel_rfl) (by kernel_rfl) (by kernel_rfl) ⟨(Box.c BC_4.out).1, (Box.c BC_4.out).2.1, (Box.c BC_4.out).2.2, (Box.c BD_4.out).1, (Box.c BD_4.out).2.1, (Box.c BD_4.out).2.2⟩ ?_
    simp only [wpSegs, pickB, List.dropLast_cons_cons, List.dropLast_singleton, List.getLast?_cons_cons, List.getLast?_singleton, List.toList_toArray, List.getElem?_toArray, List.getElem?_cons_succ, List.getElem?_cons_zero, Option.toList_some]
    have RD_5 : Hid (Rd W4.drew R ao1 len1 cap1 (p2 + 1)) := RD_4.out.drew
    have BL_5 := Lib.hid BL_4.out.drew
    have BA_5 : Hid (Box 24 W4.drew (w.heap.size) 0 ⟨#[]⟩ ⟨#[]⟩) := Box.drew BA_4.out
    have BB_5 : Hid (Box 24 W4.drew (w.heap.size + 1) 0 ⟨#[]⟩ ⟨#[]⟩) := Box.drew BB_4.out
    have BC_5 : Hid (Box 24 W4.drew HC N s r) := Box.drew BC_4.out
    have BD_5 : Hid (Box 24 W4.drew HD M t q) := Box.drew BD_4.out
    clear BL_4 RD_4 BA_4 BB_4 BC_4 BD_4
    repeat (go_big_quiet_step (fail))
    refine wpQuiet_nil ?_
    intro K hK
    go_wp2_with fail
    obtain ⟨VB, hV⟩ : ∃ QZ, QZ = (W4.alloc (.cells #[.int .i64 2, .int .i64 1, .int .i64 3, .int .i64 2, .int .i64 0] 3)).drew := ⟨_, rfl⟩
    obtain ⟨HL, hHL⟩ : ∃ QZ, QZ = W4.heap.size := ⟨_, rfl⟩
    have hba : Below W4.heap.size W4.drew VB := by rw [hV]; exact Below.trans (b := W4) ⟨rfl, rfl, rfl, Nat.le_refl _, fun _ _ => rfl⟩ ((Below.refl W4.heap.size W4).alloc (Nat.le_refl _) _).drew
    have hLR : R < HL := by rw [hHL]; exact RD_5.out.lt
    have CL : Hid (∀ i, i < 5 → VB.cell? ⟨HL, 0 + i, none⟩ = some (.int .i64 (([2, 1, 3, 2, 0] : List Int).getD i 0))) := fun i hi => by
      rw [hV, hHL, Nat.zero_add]
      have := cells_ivs W4 3 [2, 1, 3, 2, 0] W4.heap.size rfl i hi
      exact this
    have hrd := rd_below RD_5.out hba RD_5.out.lt
    have hg : W4.drew.grownBy VB (some R) := grown_of_below hba
    clear hba
    have RD_6 := Lib.hid hrd
    have BL_6 := Lib.hid (BL_5.out.grown hg BL_5.out.size (fun k hk => by cases hk; omega))
    have BA_6 := Lib.hid (Box.kept (row := some R) BA_5.out hg (by simp; omega))
    have BB_6 := Lib.hid (Box.kept (row := some R) BB_5.out hg (by simp; omega))
    have BC_6 := Lib.hid (Box.kept (row := some R) BC_5.out hg (by simp; omega))
    have BD_6 := Lib.hid (Box.kept (row := some R) BD_5.out hg (by simp; omega))
    clear hrd hg
    clear BL_5 RD_5 BA_5 BB_5 BC_5 BD_5
    rw [← hV, ← hHL]
    clear hV hHL
    refine hK _ _ ⟨(Box.c BC_6.out).1, (Box.c BC_6.out).2.1, (Box.c BC_6.out).2.2, (Box.c BD_6.out).1, (Box.c BD_6.out).2.1, (Box.c BD_6.out).2.2⟩ ?_
    clear hK K
    repeat (go_big_quiet_step (fail))
    refine wpQuiet_nil ?_
    intro K hK
    go_wp2_with fail
    refine (num_any R ao1 len1 cap1 (p2 + 1) HL 0 5 [2, 1, 3, 2, 0] _ RD_6.out (by omega) (by decide) (by decide) (by omega) CL.out).mono ?_
    rintro e V3 ⟨ix, hix, rfl, hrd, hg⟩
    have key : ∀ i, i < 5 → (-1 ≤ ([2, 1, 3, 2, 0] : List Int).getD i 0 ∧ ([2, 1, 3, 2, 0] : List Int).getD i 0 ≤ 4) := by decide
    have hxw := key ix hix
    obtain ⟨x, hx⟩ : ∃ QZ, QZ = ([2, 1, 3, 2, 0] : List Int).getD ix 0 := ⟨_, rfl⟩
    rw [← hx] at hxw ⊢
    have HXW := Lib.hid hxw
    clear hx hxw key hix
    have RD_7 := Lib.hid hrd
    have BL_7 := Lib.hid (BL_6.out.grown hg BL_6.out.size (fun k hk => by cases hk; omega))
    have BA_7 := Lib.hid (Box.kept (row := some R) BA_6.out hg (by simp; omega))
    have BB_7 := Lib.hid (Box.kept (row := some R) BB_6.out hg (by simp; omega))
    have BC_7 := Lib.hid (Box.kept (row := some R) BC_6.out hg (by simp; omega))
    have BD_7 := Lib.hid (Box.kept (row := some R) BD_6.out hg (by simp; omega))
    clear hrd hg
    clear BL_6 RD_6 BA_6 BB_6 BC_6 BD_6
    go_wp2_with fail
    refine hK _ _ ⟨(Box.c BC_7.out).1, (Box.c BC_7.out).2.1, (Box.c BC_7.out).2.2, (Box.c BD_7.out).1, (Box.c BD_7.out).2.1, (Box.c BD_7.out).2.2⟩ ?_
    clear hK K
    obtain ⟨z0, z1, z2⟩ := Box.c BA_7.out
    have f0 := Box.free BA_7.out 0
    have f1 := Box.free BA_7.out 1
    have f2 := Box.free BA_7.out 2
    repeat (go_big_quiet_step (fail))
    refine wpQuiet_nil ?_
    intro K hK
    go_wp2_with fail
    clear z0 z1 z2 f0 f1 f2
    obtain ⟨W8, hW8⟩ : ∃ QZ, QZ = (((V3.setCell ⟨w.heap.size, 0, none⟩ (.int .i64 N)).setCell ⟨w.heap.size, 1, none⟩ (.string s)).setCell ⟨w.heap.size, 2, none⟩ (.string r)) := ⟨_, rfl⟩
    have BL_8 : Hid (Below w.heap.size w W8) := by rw [hW8]; exact Below.setCell (Below.setCell (Below.setCell BL_7.out (by simp) _) (by simp) _) (by simp) _
    have BA_8 : Hid (Box 24 W8 (w.heap.size) N s r) := by rw [hW8]; exact ((Box.set0 BA_7.out N).set1 s).set2 r
    have BB_8 : Hid (Box 24 W8 (w.heap.size + 1) 0 ⟨#[]⟩ ⟨#[]⟩) := by rw [hW8]; exact box_others BB_7.out (by omega)
    have BC_8 : Hid (Box 24 W8 HC N s r) := by rw [hW8]; exact box_others BC_7.out (by omega)
    have BD_8 : Hid (Box 24 W8 HD M t q) := by rw [hW8]; exact box_others BD_7.out (by omega)
    clear BL_7 RD_7 BA_7 BB_7 BC_7 BD_7
    rw [← hW8]
    clear hW8
    refine hK _ _ ⟨(Box.c BC_8.out).1, (Box.c BC_8.out).2.1, (Box.c BC_8.out).2.2, (Box.c BD_8.out).1, (Box.c BD_8.out).2.1, (Box.c BD_8.out).2.2⟩ ?_
    clear hK K
    obtain ⟨z0, z1, z2⟩ := Box.c BB_8.out
    have f0 := Box.free BB_8.out 0
    have f1 := Box.free BB_8.out 1
    have f2 := Box.free BB_8.out 2
    repeat (go_big_quiet_step (fail))
    refine wpQuiet_nil ?_
    intro K hK
    go_wp2_with fail
    clear z0 z1 z2 f0 f1 f2
    obtain ⟨W9, hW9⟩ : ∃ QZ, QZ = (((W8.setCell ⟨w.heap.size + 1, 0, none⟩ (.int .i64 M)).setCell ⟨w.heap.size + 1, 1, none⟩ (.string t)).setCell ⟨w.heap.size + 1, 2, none⟩ (.string q)) := ⟨_, rfl⟩
    have BL_9 : Hid (Below w.heap.size w W9) := by rw [hW9]; exact Below.setCell (Below.setCell (Below.setCell BL_8.out (by simp) _) (by simp) _) (by simp) _
    have BA_9 : Hid (Box 24 W9 (w.heap.size) N s r) := by rw [hW9]; exact box_others BA_8.out (by omega)
    have BB_9 : Hid (Box 24 W9 (w.heap.size + 1) M t q) := by rw [hW9]; exact ((Box.set0 BB_8.out M).set1 t).set2 q
    have BC_9 : Hid (Box 24 W9 HC N s r) := by rw [hW9]; exact box_others BC_8.out (by omega)
    have BD_9 : Hid (Box 24 W9 HD M t q) := by rw [hW9]; exact box_others BD_8.out (by omega)
    clear BL_8 BA_8 BB_8 BC_8 BD_8
    rw [← hW9]
    clear hW9
    refine hK _ _ ⟨(Box.c BC_9.out).1, (Box.c BC_9.out).2.1, (Box.c BC_9.out).2.2, (Box.c BD_9.out).1, (Box.c BD_9.out).2.1, (Box.c BD_9.out).2.2⟩ ?_
    clear hK K
    repeat (go_big_quiet_step (fail))
    refine wpQuiet_nil ?_
    have HF := Lib.hid (show _ ∧ _ from ⟨Box.c BA_9.out, Box.c BB_9.out⟩)
    have RES := BL_9
    clear BL_9 BA_9 BB_9 BC_9 BD_9 q0 q1 q2 q3 q4 q5 hne
    go_wp2
    exact bodyPost_ret (v := .tuple #[.agg #[.int .i64 N, .string s, .string r], .agg #[.int .i64 M, .string t, .string q], .int .i64 x]) (by simp [results, Tryd.results9, go_sem, HF.out.1.1, HF.out.1.2.1, HF.out.1.2.2, HF.out.2.1, HF.out.2.2.1, HF.out.2.2.2]) rfl ⟨N, s, r, M, t, q, x, rfl, HNW.out.1, HNW.out.2.1, HNW.out.2.2, HQ.out.2.2, HQ.out.1, HQ.out.2.1, HXW.out, RES.out⟩
end Go.Proofs.YtpcnoiigbmiejaaDoor.drawrk
