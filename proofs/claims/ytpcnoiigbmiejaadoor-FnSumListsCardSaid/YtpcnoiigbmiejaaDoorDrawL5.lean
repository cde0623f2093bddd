/- The drawing of the arguments of SecondWins and of CountSymmetries. -/
import Derived.Test.YtpcnoiigbmiejaaDoorPkN
import Derived.Test.YtpcnoiigbmiejaaDoorTab
import Derived.Test.YtpcnoiigbmiejaaDoorPkQ
namespace Go.Proofs.YtpcnoiigbmiejaaDoor.l5
set_option linter.unusedVariables false
set_option linter.unusedSimpArgs false
open Go.ChangeShapes Go.WideShapes Go.ChangeAt Go.RowKit
open Go.Proofs.YtpcnoiigbmiejaaDoor.lib Go.Proofs.YtpcnoiigbmiejaaDoor.st Go.Proofs.YtpcnoiigbmiejaaDoor.flow Go.Proofs.YtpcnoiigbmiejaaDoor.chain Go.Proofs.YtpcnoiigbmiejaaDoor.draw Go.Proofs.YtpcnoiigbmiejaaDoor.shuf Go.Proofs.YtpcnoiigbmiejaaDoor.pair Go.Proofs.YtpcnoiigbmiejaaDoor.l4 Go.Proofs.YtpcnoiigbmiejaaDoor.tab Go.Proofs.YtpcnoiigbmiejaaDoor.still Go.Proofs.YtpcnoiigbmiejaaDoor.gow
/-- a list that was drawn, in a block from B on -/
def RL (B : Nat) (W : World) (v : Value) (l : List Int) : Prop := Reads W v l ∧ Room v ∧ ∀ g, v.ownBlock = some g → B ≤ g ∧ g < W.heap.size
theorem RL.of {W : World} {B : Nat} {v : Value} {l : List Int} (h : OwnI 3 W B v l) : RL B W v l := ⟨h.reads, room_own h, fun g hg => World.ownsRow.lt h g hg⟩
theorem RL.out {B : Nat} {W W' : World} {D : Nat → Prop} {v : Value} {l : List Int} (h : RL B W v l) (ho : Out D W W') (hD : ∀ k, D k → k < B) : RL B W' v l :=
  ⟨ho.reads h.1 fun g hg hd => by have := hD g hd; have := (h.2.2 g hg).1; omega, h.2.1, fun g hg => ⟨(h.2.2 g hg).1, Nat.lt_of_lt_of_le (h.2.2 g hg).2 ho.size⟩⟩
theorem own_form {T : TypeId} {W : World} {B : Nat} {v : Value} {l : List Int} (h : OwnI T W B v l) (h1 : 1 ≤ l.length) : ∃ g c, v = .slice (some ⟨g, 0, none⟩) l.length c ∧ l.length ≤ c ∧ c ≤ maxLen := by
  rcases h.2 with ⟨_, hn⟩ | ⟨g, cap, cur, hv, _, _, h3, h4, _⟩
  · omega
  · exact ⟨g, cap, hv, h3, h4⟩
theorem RL.take2 {B : Nat} {W : World} {g n c : Nat} {l : List Int} (h : RL B W (.slice (some ⟨g, 0, none⟩) n c) l) (hn : n = l.length) (h2 : 2 ≤ n) (hc : n ≤ c) (hm : c ≤ maxLen) : RL B W (.slice (some ⟨g, 0, none⟩) 2 c) (l.take 2) := by
  have hl : (l.take 2).length = 2 := by rw [List.length_take]; omega
  refine ⟨⟨some ⟨g, 0, none⟩, c, by rw [hl], .inr ⟨g, 0, rfl, fun i hi => ?_⟩, fun e => by cases e⟩, ⟨by omega, hm⟩, fun k hk => h.2.2 k hk⟩
  obtain ⟨ao, cap, hv, hr, _⟩ := h.1
  simp only [Value.slice.injEq] at hv
  rw [hl] at hi
  rcases hr with e | ⟨b, off, e, hc⟩
  · rw [e] at hn; simp at hn; omega
  · rw [e] at hv
    simp only [Option.some.injEq, Addr.mk.injEq] at hv
    have := hc i (by omega)
    rw [← hv.1.1, ← hv.1.2.1] at this
    rw [this]
    congr 2
    rw [List.getD_eq_getElem?_getD, List.getD_eq_getElem?_getD, List.getElem?_take, if_pos hi]
theorem nearly_take2 {l : List Int} (h : Nearly l) : Nearly (l.take 2) := fun x hx => h x (List.mem_of_mem_take hx)
/-- what l5Draw leaves -/
def DrawnL5 (w : World) (R : Nat) (ao : Option Addr) (len cap P : Nat) (e : Ending) (w' : World) : Prop :=
  ∃ (n : Int) (s r : ByteArray) (va : Value) (la : List Int) (m : Int) (t q : ByteArray) (vb : Value) (lb : List Int) (x : Int) (p : Nat), e = .returned (.tuple #[.agg #[.int .i64 n, .string s, .string r], va, .agg #[.int .i64 m, .string t, .string q], vb, .int .i64 x]) ∧
    ((Lit.int .i64 n).wf = true ∧ s.size ≤ 100 ∧ r.size ≤ 100) ∧ ((Lit.int .i64 m).wf = true ∧ t.size ≤ 100 ∧ q.size ≤ 100) ∧ (la.length ≤ 100 ∧ Nearly la) ∧ (lb.length ≤ 100 ∧ Nearly lb) ∧ (RL w.heap.size w' va la ∧ RL w.heap.size w' vb lb) ∧ (-1 ≤ x ∧ x ≤ 4) ∧ Rd w' R ao len cap p ∧ p ≤ P ∧ w.grownBy w' (some R)
theorem ends {B C : Nat} {W : World} {v : Value} {l : List Int} (h : RL B W v l) (hC : C ≤ B) : RL C W v l := ⟨h.1, h.2.1, fun g hg => ⟨by have := (h.2.2 g hg).1; omega, (h.2.2 g hg).2⟩⟩

set_option maxHeartbeats 12800000 in
set_option maxRecDepth 100000 in
theorem l5Draw_any (R : Nat) (ao : Option Addr) (len cap p : Nat) (w : World) (h : Rd w R ao len cap p) (hp : p ≤ 40000000) :
    Calls Tryd.prog 56 #[.pointer (some ⟨R, 0, none⟩)] w (DrawnL5 w R ao len cap (p + 2010)) := by
  have hRl := h.lt
  obtain ⟨W0, hW0⟩ : ∃ QZ, QZ = ((w.alloc (.cells #[.int .i64 0, .string ⟨#[]⟩, .string ⟨#[]⟩] 24)).alloc (.cells #[.int .i64 0, .string ⟨#[]⟩, .string ⟨#[]⟩] 24)) := ⟨_, rfl⟩
  have RD_0 : Hid (Rd W0 R ao len cap p) := by rw [hW0]; exact h.alloc _ |>.alloc _
  have GR_0 : Hid (w.grownBy W0 (some R)) := by rw [hW0]; exact (grown_alloc (World.grownBy_alloc w _ _) _)
  have BA_0 : Hid (Box 24 W0 (w.heap.size) 0 ⟨#[]⟩ ⟨#[]⟩) := by rw [hW0]; exact (Box.new 24 w w.heap.size rfl 0 ⟨#[]⟩ ⟨#[]⟩).below ((Below.refl (w.heap.size + 1) _).alloc (by simp) _) (by omega)
  have BB_0 : Hid (Box 24 W0 (w.heap.size + 1) 0 ⟨#[]⟩ ⟨#[]⟩) := by rw [hW0]; exact Box.new 24 _ (w.heap.size + 1) (by simp) 0 ⟨#[]⟩ ⟨#[]⟩
  clear h
  go_enter Tryd.func56, Tryd.ntmps56
  go_wp2_with fail
  have hz0 : W0.heap.size = w.heap.size + 2 := by rw [hW0]; simp
  have HZ0 := Lib.hid hz0
  rw [← hW0]
  clear hW0
  refine (l4Pair_any R ao len cap p _ RD_0.out (by omega)).mono ?_
  rintro e U2 ⟨n, s, r, va, la, m, t, q, vb, lb, p2, rfl, hn, hm2, hla, hlb, hoa, hob, hrd, hp2, hg⟩
  have RD_1 := Lib.hid hrd
  have GR_1 := Lib.hid (grown_trans GR_0.out hg)
  have BA_1 := Lib.hid (Box.kept (row := some R) BA_0.out hg (by simp; omega))
  have BB_1 := Lib.hid (Box.kept (row := some R) BB_0.out hg (by simp; omega))
  clear hrd hg
  clear RD_0 GR_0 BA_0 BB_0
  have HN := Lib.hid (show _ ∧ _ ∧ _ ∧ _ from ⟨hn, hm2, hla, hlb⟩)
  clear hn hm2
  have KP_1 : Hid (Out (fun k => k = R ∨ k = w.heap.size ∨ k = w.heap.size + 1) U2 U2) := Out.refl _ _
  obtain ⟨HC, hHC⟩ : ∃ QZ, QZ = U2.heap.size := ⟨_, rfl⟩
  have hlC : (w.heap.size + 1) < HC := by rw [hHC]; exact BB_1.out.lt
  obtain ⟨W2, hW2⟩ : ∃ QZ, QZ = U2.alloc (.cells #[.int .i64 n, .string s, .string r] 24) := ⟨_, rfl⟩
  have RD_2 : Hid (Rd W2 R ao len cap p2) := by rw [hW2]; exact RD_1.out.alloc _
  have GR_2 : Hid (w.grownBy W2 (some R)) := by rw [hW2]; exact grown_alloc GR_1.out _
  have BA_2 : Hid (Box 24 W2 (w.heap.size) 0 ⟨#[]⟩ ⟨#[]⟩) := by rw [hW2]; exact BA_1.out.below ((Below.refl U2.heap.size U2).alloc (Nat.le_refl _) _) BA_1.out.lt
  have BB_2 : Hid (Box 24 W2 (w.heap.size + 1) 0 ⟨#[]⟩ ⟨#[]⟩) := by rw [hW2]; exact BB_1.out.below ((Below.refl U2.heap.size U2).alloc (Nat.le_refl _) _) BB_1.out.lt
  have BC_2 : Hid (Box 24 W2 HC n s r) := by rw [hW2, hHC]; exact Box.new _ _ _ rfl _ _ _
  clear RD_1 GR_1 BA_1 BB_1
  have KP_2 : Hid (Out (fun k => k = R ∨ k = w.heap.size ∨ k = w.heap.size + 1) U2 W2) := by rw [hW2]; exact KP_1.out.trans (Out.of_below ((Below.refl _ _).alloc (Nat.le_refl _) _) (Nat.le_refl _)) (fun k hk => .inl hk)
  clear KP_1
  obtain ⟨HD, hHD⟩ : ∃ QZ, QZ = W2.heap.size := ⟨_, rfl⟩
  have hlD : HC < HD := by rw [hHD]; exact BC_2.out.lt
  obtain ⟨W3, hW3⟩ : ∃ QZ, QZ = W2.alloc (.cells #[.int .i64 m, .string t, .string q] 24) := ⟨_, rfl⟩
  have RD_3 : Hid (Rd W3 R ao len cap p2) := by rw [hW3]; exact RD_2.out.alloc _
  have GR_3 : Hid (w.grownBy W3 (some R)) := by rw [hW3]; exact grown_alloc GR_2.out _
  have BA_3 : Hid (Box 24 W3 (w.heap.size) 0 ⟨#[]⟩ ⟨#[]⟩) := by rw [hW3]; exact BA_2.out.below ((Below.refl W2.heap.size W2).alloc (Nat.le_refl _) _) BA_2.out.lt
  have BB_3 : Hid (Box 24 W3 (w.heap.size + 1) 0 ⟨#[]⟩ ⟨#[]⟩) := by rw [hW3]; exact BB_2.out.below ((Below.refl W2.heap.size W2).alloc (Nat.le_refl _) _) BB_2.out.lt
  have BC_3 : Hid (Box 24 W3 HC n s r) := by rw [hW3]; exact BC_2.out.below ((Below.refl W2.heap.size W2).alloc (Nat.le_refl _) _) BC_2.out.lt
  have BD_3 : Hid (Box 24 W3 HD m t q) := by rw [hW3, hHD]; exact Box.new _ _ _ rfl _ _ _
  clear RD_2 GR_2 BA_2 BB_2 BC_2
  have KP_3 : Hid (Out (fun k => k = R ∨ k = w.heap.size ∨ k = w.heap.size + 1) U2 W3) := by rw [hW3]; exact KP_2.out.trans (Out.of_below ((Below.refl _ _).alloc (Nat.le_refl _) _) (Nat.le_refl _)) (fun k hk => .inl hk)
  clear KP_2
  have hHD2 : HD = HC + 1 := by rw [hHD, hW2, hHC]; simp
  clear hHD
  have RA0 : Hid (RL (w.heap.size + 2) U2 va la) := by have := RL.of hoa; rw [hz0] at this; exact this
  have RB0 : Hid (RL (w.heap.size + 2) U2 vb lb) := by have := RL.of hob; rw [hz0] at this; exact this
  have HO := Lib.hid (show _ ∧ _ from ⟨hoa, hob⟩)
  have HLL := Lib.hid (show _ ∧ _ from ⟨hla, hlb⟩)
  clear hoa hob hla hlb hz0
  have HM := Lib.hid (show va = va ∧ vb = vb from ⟨rfl, rfl⟩)
  clear HM
  by_cases hcc : 2 < la.length ∧ la.length = lb.length
  · obtain ⟨g1, c1, hva, hc1, hm1⟩ := own_form HO.out.1 (by omega)
    obtain ⟨g2, c2, hvb, hc2, hm2⟩ := own_form HO.out.2 (by omega)
    obtain ⟨na, hna⟩ : ∃ k, k = la.length := ⟨_, rfl⟩
    have hnb : lb.length = na := by rw [hna]; exact hcc.2.symm
    rw [hnb] at hvb hc2
    rw [← hna] at hva hc1
    subst hva hvb
    have hn2 : 2 < na := by omega
    have RA1 := RA0.out.take2 hna (by omega) hc1 hm1
    have RB1 := RB0.out.take2 hnb.symm (by omega) hc2 hm2
    have HL2 : Hid (((la.take 2).length ≤ 100 ∧ Nearly (la.take 2)) ∧ ((lb.take 2).length ≤ 100 ∧ Nearly (lb.take 2))) := ⟨⟨by rw [List.length_take]; omega, nearly_take2 HLL.out.1.2⟩, ⟨by rw [List.length_take]; omega, nearly_take2 HLL.out.2.2⟩⟩
    obtain ⟨la2, hla2⟩ : ∃ l, l = la.take 2 := ⟨_, rfl⟩
    obtain ⟨lb2, hlb2⟩ : ∃ l, l = lb.take 2 := ⟨_, rfl⟩
    rw [← hla2] at RA1 HL2
    rw [← hlb2] at RB1 HL2
    have RA := Lib.hid RA1
    have RB := Lib.hid RB1
    have hc1' : 2 ≤ c1 := by omega
    have hc2' : 2 ≤ c2 := by omega
    have t1 : decide (2 < na) = true := decide_eq_true hn2
    have hm1' : c1 ≤ 9223372036854775807 := by have : maxLen ≤ 9223372036854775807 := by decide
                                               omega
    have hm2' : c2 ≤ 9223372036854775807 := by have : maxLen ≤ 9223372036854775807 := by decide
                                               omega
    clear hla2 hlb2 RA1 RB1 RA0 RB0 HO hna hnb hcc hc1 hc2 hm1 hm2
    go_wp2_with fail
    rw [← hW2]
    rw [← hHC]
    rw [← hW3]
    rw [← hHD2]
    clear hW2 hHC hW3 hHD2
    refine (pick_any R ao len cap p2 30 _ RD_3.out (by omega) (by decide) (by decide)).mono ?_
    rintro e W4 ⟨v, hv, rfl, hrd, hg⟩
    have KP_4 : Hid (Out (fun k => k = R ∨ k = w.heap.size ∨ k = w.heap.size + 1) U2 W4) := KP_3.out.trans (Out.of_grown hg (fun g e => .inl (Option.some.inj e).symm)) (fun k hk => .inl hk)
    have RD_4 := Lib.hid hrd
    have GR_4 := Lib.hid (grown_trans GR_3.out hg)
    have BA_4 := Lib.hid (Box.kept (row := some R) BA_3.out hg (by simp; omega))
    have BB_4 := Lib.hid (Box.kept (row := some R) BB_3.out hg (by simp; omega))
    have BC_4 := Lib.hid (Box.kept (row := some R) BC_3.out hg (by simp; omega))
    have BD_4 := Lib.hid (Box.kept (row := some R) BD_3.out hg (by simp; omega))
    clear hrd hg
    clear RD_3 GR_3 BA_3 BB_3 BC_3 BD_3 KP_3
    clear hv
    by_cases hv0 : v = 0
    · have e0 : ((v : Int) == 0) = true := by simp; omega
      clear hv0
      have q0 : ∀ QQ : Wd (fun Q => Q.cell? ⟨HC, 0, none⟩ = some (.int .i64 n) ∧ Q.cell? ⟨HC, 1, none⟩ = some (.string s) ∧ Q.cell? ⟨HC, 2, none⟩ = some (.string r) ∧ Q.cell? ⟨HD, 0, none⟩ = some (.int .i64 m) ∧ Q.cell? ⟨HD, 1, none⟩ = some (.string t) ∧ Q.cell? ⟨HD, 2, none⟩ = some (.string q)), QQ.w.cell? ⟨HC, 0, none⟩ = some (.int .i64 n) := fun QQ => QQ.ok.1
      have q1 : ∀ QQ : Wd (fun Q => Q.cell? ⟨HC, 0, none⟩ = some (.int .i64 n) ∧ Q.cell? ⟨HC, 1, none⟩ = some (.string s) ∧ Q.cell? ⟨HC, 2, none⟩ = some (.string r) ∧ Q.cell? ⟨HD, 0, none⟩ = some (.int .i64 m) ∧ Q.cell? ⟨HD, 1, none⟩ = some (.string t) ∧ Q.cell? ⟨HD, 2, none⟩ = some (.string q)), QQ.w.cell? ⟨HC, 1, none⟩ = some (.string s) := fun QQ => QQ.ok.2.1
      have q2 : ∀ QQ : Wd (fun Q => Q.cell? ⟨HC, 0, none⟩ = some (.int .i64 n) ∧ Q.cell? ⟨HC, 1, none⟩ = some (.string s) ∧ Q.cell? ⟨HC, 2, none⟩ = some (.string r) ∧ Q.cell? ⟨HD, 0, none⟩ = some (.int .i64 m) ∧ Q.cell? ⟨HD, 1, none⟩ = some (.string t) ∧ Q.cell? ⟨HD, 2, none⟩ = some (.string q)), QQ.w.cell? ⟨HC, 2, none⟩ = some (.string r) := fun QQ => QQ.ok.2.2.1
      have q3 : ∀ QQ : Wd (fun Q => Q.cell? ⟨HC, 0, none⟩ = some (.int .i64 n) ∧ Q.cell? ⟨HC, 1, none⟩ = some (.string s) ∧ Q.cell? ⟨HC, 2, none⟩ = some (.string r) ∧ Q.cell? ⟨HD, 0, none⟩ = some (.int .i64 m) ∧ Q.cell? ⟨HD, 1, none⟩ = some (.string t) ∧ Q.cell? ⟨HD, 2, none⟩ = some (.string q)), QQ.w.cell? ⟨HD, 0, none⟩ = some (.int .i64 m) := fun QQ => QQ.ok.2.2.2.1
      have q4 : ∀ QQ : Wd (fun Q => Q.cell? ⟨HC, 0, none⟩ = some (.int .i64 n) ∧ Q.cell? ⟨HC, 1, none⟩ = some (.string s) ∧ Q.cell? ⟨HC, 2, none⟩ = some (.string r) ∧ Q.cell? ⟨HD, 0, none⟩ = some (.int .i64 m) ∧ Q.cell? ⟨HD, 1, none⟩ = some (.string t) ∧ Q.cell? ⟨HD, 2, none⟩ = some (.string q)), QQ.w.cell? ⟨HD, 1, none⟩ = some (.string t) := fun QQ => QQ.ok.2.2.2.2.1
      have q5 : ∀ QQ : Wd (fun Q => Q.cell? ⟨HC, 0, none⟩ = some (.int .i64 n) ∧ Q.cell? ⟨HC, 1, none⟩ = some (.string s) ∧ Q.cell? ⟨HC, 2, none⟩ = some (.string r) ∧ Q.cell? ⟨HD, 0, none⟩ = some (.int .i64 m) ∧ Q.cell? ⟨HD, 1, none⟩ = some (.string t) ∧ Q.cell? ⟨HD, 2, none⟩ = some (.string q)), QQ.w.cell? ⟨HD, 2, none⟩ = some (.string q) := fun QQ => QQ.ok.2.2.2.2.2
      have hne : Nonempty (Wd (fun Q => Q.cell? ⟨HC, 0, none⟩ = some (.int .i64 n) ∧ Q.cell? ⟨HC, 1, none⟩ = some (.string s) ∧ Q.cell? ⟨HC, 2, none⟩ = some (.string r) ∧ Q.cell? ⟨HD, 0, none⟩ = some (.int .i64 m) ∧ Q.cell? ⟨HD, 1, none⟩ = some (.string t) ∧ Q.cell? ⟨HD, 2, none⟩ = some (.string q))) := ⟨⟨W4, ⟨(Box.c BC_4.out).1, (Box.c BC_4.out).2.1, (Box.c BC_4.out).2.2, (Box.c BD_4.out).1, (Box.c BD_4.out).2.1, (Box.c BD_4.out).2.2⟩⟩⟩
      go_wp2_with fail
      refine chain (S := (fun Q => Q.cell? ⟨HC, 0, none⟩ = some (.int .i64 n) ∧ Q.cell? ⟨HC, 1, none⟩ = some (.string s) ∧ Q.cell? ⟨HC, 2, none⟩ = some (.string r) ∧ Q.cell? ⟨HD, 0, none⟩ = some (.int .i64 m) ∧ Q.cell? ⟨HD, 1, none⟩ = some (.string t) ∧ Q.cell? ⟨HD, 2, none⟩ = some (.string q))) [([true, true, true, true, true], 5), ([], 6), ([], 7), ([false, false, false, false, false, false, false, false, true], 9)] [false, false, false, false, false, false, false, false, false, false, true, true] (by kernel_rfl) (by kernel_rfl) (by kernel_rfl) ⟨(Box.c BC_4.out).1, (Box.c BC_4.out).2.1, (Box.c BC_4.out).2.2, (Box.c BD_4.out).1, (Box.c BD_4.out).2.1, (Box.c BD_4.out).2.2⟩ ?_
      simp only [wpSegs, pickB, List.dropLast_cons_cons, List.dropLast_singleton, List.getLast?_cons_cons, List.getLast?_singleton, List.toList_toArray, List.getElem?_toArray, List.getElem?_cons_succ, List.getElem?_cons_zero, Option.toList_some]
      have KP_5 : Hid (Out (fun k => k = R ∨ k = w.heap.size ∨ k = w.heap.size + 1) U2 W4.drew) := KP_4.out.trans (Out.of_below (Below.refl _ _).drew (Nat.le_refl _)) (fun k hk => .inl hk)
      have RD_5 : Hid (Rd W4.drew R ao len cap (p2 + 1)) := RD_4.out.drew
      have GR_5 := Lib.hid (grown_drew GR_4.out)
      have BA_5 : Hid (Box 24 W4.drew (w.heap.size) 0 ⟨#[]⟩ ⟨#[]⟩) := Box.drew BA_4.out
      have BB_5 : Hid (Box 24 W4.drew (w.heap.size + 1) 0 ⟨#[]⟩ ⟨#[]⟩) := Box.drew BB_4.out
      have BC_5 : Hid (Box 24 W4.drew HC n s r) := Box.drew BC_4.out
      have BD_5 : Hid (Box 24 W4.drew HD m t q) := Box.drew BD_4.out
      clear RD_4 GR_4 BA_4 BB_4 BC_4 BD_4 KP_4
      repeat (go_big_quiet_step (fail))
      refine wpQuiet_nil ?_
      intro K hK
      go_wp2_with fail
      obtain ⟨VB, hV⟩ : ∃ QZ, QZ = (W4.alloc (.cells #[.int .i64 (-1), .int .i64 4] 3)).drew := ⟨_, rfl⟩
      obtain ⟨HL, hHL⟩ : ∃ QZ, QZ = W4.heap.size := ⟨_, rfl⟩
      have hba : Below W4.heap.size W4.drew VB := by rw [hV]; exact Below.trans (b := W4) ⟨rfl, rfl, rfl, Nat.le_refl _, fun _ _ => rfl⟩ ((Below.refl W4.heap.size W4).alloc (Nat.le_refl _) _).drew
      have hLR : R < HL := by rw [hHL]; exact RD_5.out.lt
      have CL : Hid (∀ i, i < 2 → VB.cell? ⟨HL, 0 + i, none⟩ = some (.int .i64 (([-1, 4] : List Int).getD i 0))) := fun i hi => by
        rw [hV, hHL, Nat.zero_add]
        have := cells_ivs W4 3 [-1, 4] W4.heap.size rfl i hi
        exact this
      have hrd := rd_below RD_5.out hba RD_5.out.lt
      have hg : W4.drew.grownBy VB (some R) := grown_of_below hba
      clear hba
      have KP_6 : Hid (Out (fun k => k = R ∨ k = w.heap.size ∨ k = w.heap.size + 1) U2 VB) := KP_5.out.trans (Out.of_grown hg (fun g e => .inl (Option.some.inj e).symm)) (fun k hk => .inl hk)
      have RD_6 := Lib.hid hrd
      have GR_6 := Lib.hid (grown_trans GR_5.out hg)
      have BA_6 := Lib.hid (Box.kept (row := some R) BA_5.out hg (by simp; omega))
      have BB_6 := Lib.hid (Box.kept (row := some R) BB_5.out hg (by simp; omega))
      have BC_6 := Lib.hid (Box.kept (row := some R) BC_5.out hg (by simp; omega))
      have BD_6 := Lib.hid (Box.kept (row := some R) BD_5.out hg (by simp; omega))
      clear hrd hg
      clear RD_5 GR_5 BA_5 BB_5 BC_5 BD_5 KP_5
      rw [← hV, ← hHL]
      clear hV hHL
      refine hK _ _ ⟨(Box.c BC_6.out).1, (Box.c BC_6.out).2.1, (Box.c BC_6.out).2.2, (Box.c BD_6.out).1, (Box.c BD_6.out).2.1, (Box.c BD_6.out).2.2⟩ ?_
      clear hK K
      repeat (go_big_quiet_step (fail))
      refine wpQuiet_nil ?_
      intro K hK
      go_wp2_with fail
      refine (num_any R ao len cap (p2 + 1) HL 0 2 [-1, 4] _ RD_6.out (by omega) (by decide) (by decide) (by omega) CL.out).mono ?_
      rintro e V3 ⟨ix, hix, rfl, hrd, hg⟩
      have key : ∀ i, i < 2 → (-1 ≤ ([-1, 4] : List Int).getD i 0 ∧ ([-1, 4] : List Int).getD i 0 ≤ 4) := by decide
      have hxw := key ix hix
      obtain ⟨x, hx⟩ : ∃ QZ, QZ = ([-1, 4] : List Int).getD ix 0 := ⟨_, rfl⟩
      rw [← hx] at hxw ⊢
      have HXW := Lib.hid hxw
      clear hx hxw key hix
      have KP_7 : Hid (Out (fun k => k = R ∨ k = w.heap.size ∨ k = w.heap.size + 1) U2 V3) := KP_6.out.trans (Out.of_grown hg (fun g e => .inl (Option.some.inj e).symm)) (fun k hk => .inl hk)
      have RD_7 := Lib.hid hrd
      have GR_7 := Lib.hid (grown_trans GR_6.out hg)
      have BA_7 := Lib.hid (Box.kept (row := some R) BA_6.out hg (by simp; omega))
      have BB_7 := Lib.hid (Box.kept (row := some R) BB_6.out hg (by simp; omega))
      have BC_7 := Lib.hid (Box.kept (row := some R) BC_6.out hg (by simp; omega))
      have BD_7 := Lib.hid (Box.kept (row := some R) BD_6.out hg (by simp; omega))
      clear hrd hg
      clear RD_6 GR_6 BA_6 BB_6 BC_6 BD_6 KP_6
      go_wp2_with fail
      refine hK _ _ ⟨(Box.c BC_7.out).1, (Box.c BC_7.out).2.1, (Box.c BC_7.out).2.2, (Box.c BD_7.out).1, (Box.c BD_7.out).2.1, (Box.c BD_7.out).2.2⟩ ?_
      clear hK K
      obtain ⟨z0, z1, z2⟩ := Box.c BA_7.out
      have f0 := Box.free BA_7.out 0
      have f1 := Box.free BA_7.out 1
      have f2 := Box.free BA_7.out 2
      repeat (go_big_quiet_step (fail))
      refine wpQuiet_nil ?_
      intro K hK
      go_wp2_with fail
      clear z0 z1 z2 f0 f1 f2
      have KPt : Hid (Out (fun k => k = R ∨ k = w.heap.size ∨ k = w.heap.size + 1) U2 (((V3.setCell ⟨w.heap.size, 0, none⟩ (.int .i64 n)).setCell ⟨w.heap.size, 1, none⟩ (.string s)).setCell ⟨w.heap.size, 2, none⟩ (.string r))) := ((KP_7.out.trans (Out.of_grown (grown_setCell _ _ _ _) (fun g e => .inr (.inl (Option.some.inj e).symm))) (fun k hk => .inl hk)).trans (Out.of_grown (grown_setCell _ _ _ _) (fun g e => .inr (.inl (Option.some.inj e).symm))) (fun k hk => .inl hk)).trans (Out.of_grown (grown_setCell _ _ _ _) (fun g e => .inr (.inl (Option.some.inj e).symm))) (fun k hk => .inl hk)
      obtain ⟨W8, hW8⟩ : ∃ QZ, QZ = (((V3.setCell ⟨w.heap.size, 0, none⟩ (.int .i64 n)).setCell ⟨w.heap.size, 1, none⟩ (.string s)).setCell ⟨w.heap.size, 2, none⟩ (.string r)) := ⟨_, rfl⟩
      have RD_8 : Hid (Rd W8 R ao len cap ((p2 + 1) + 1)) := by rw [hW8]; exact rd_sets RD_7.out (by omega)
      have GR_8 : Hid (w.grownBy W8 (some R)) := by rw [hW8]; exact grown_sets GR_7.out (by omega)
      have BA_8 : Hid (Box 24 W8 (w.heap.size) n s r) := by rw [hW8]; exact ((Box.set0 BA_7.out n).set1 s).set2 r
      have BB_8 : Hid (Box 24 W8 (w.heap.size + 1) 0 ⟨#[]⟩ ⟨#[]⟩) := by rw [hW8]; exact box_others BB_7.out (by omega)
      have BC_8 : Hid (Box 24 W8 HC n s r) := by rw [hW8]; exact box_others BC_7.out (by omega)
      have BD_8 : Hid (Box 24 W8 HD m t q) := by rw [hW8]; exact box_others BD_7.out (by omega)
      rw [← hW8] at KPt
      have KP_8 := KPt
      clear KPt KP_7
      clear RD_7 GR_7 BA_7 BB_7 BC_7 BD_7
      rw [← hW8]
      clear hW8
      refine hK _ _ ⟨(Box.c BC_8.out).1, (Box.c BC_8.out).2.1, (Box.c BC_8.out).2.2, (Box.c BD_8.out).1, (Box.c BD_8.out).2.1, (Box.c BD_8.out).2.2⟩ ?_
      clear hK K
      obtain ⟨z0, z1, z2⟩ := Box.c BB_8.out
      have f0 := Box.free BB_8.out 0
      have f1 := Box.free BB_8.out 1
      have f2 := Box.free BB_8.out 2
      repeat (go_big_quiet_step (fail))
      refine wpQuiet_nil ?_
      intro K hK
      go_wp2_with fail
      clear z0 z1 z2 f0 f1 f2
      have KPt : Hid (Out (fun k => k = R ∨ k = w.heap.size ∨ k = w.heap.size + 1) U2 (((W8.setCell ⟨w.heap.size + 1, 0, none⟩ (.int .i64 m)).setCell ⟨w.heap.size + 1, 1, none⟩ (.string t)).setCell ⟨w.heap.size + 1, 2, none⟩ (.string q))) := ((KP_8.out.trans (Out.of_grown (grown_setCell _ _ _ _) (fun g e => .inr (.inr (Option.some.inj e).symm))) (fun k hk => .inl hk)).trans (Out.of_grown (grown_setCell _ _ _ _) (fun g e => .inr (.inr (Option.some.inj e).symm))) (fun k hk => .inl hk)).trans (Out.of_grown (grown_setCell _ _ _ _) (fun g e => .inr (.inr (Option.some.inj e).symm))) (fun k hk => .inl hk)
      obtain ⟨W9, hW9⟩ : ∃ QZ, QZ = (((W8.setCell ⟨w.heap.size + 1, 0, none⟩ (.int .i64 m)).setCell ⟨w.heap.size + 1, 1, none⟩ (.string t)).setCell ⟨w.heap.size + 1, 2, none⟩ (.string q)) := ⟨_, rfl⟩
      have RD_9 : Hid (Rd W9 R ao len cap ((p2 + 1) + 1)) := by rw [hW9]; exact rd_sets RD_8.out (by omega)
      have GR_9 : Hid (w.grownBy W9 (some R)) := by rw [hW9]; exact grown_sets GR_8.out (by omega)
      have BA_9 : Hid (Box 24 W9 (w.heap.size) n s r) := by rw [hW9]; exact box_others BA_8.out (by omega)
      have BB_9 : Hid (Box 24 W9 (w.heap.size + 1) m t q) := by rw [hW9]; exact ((Box.set0 BB_8.out m).set1 t).set2 q
      have BC_9 : Hid (Box 24 W9 HC n s r) := by rw [hW9]; exact box_others BC_8.out (by omega)
      have BD_9 : Hid (Box 24 W9 HD m t q) := by rw [hW9]; exact box_others BD_8.out (by omega)
      rw [← hW9] at KPt
      have KP_9 := KPt
      clear KPt KP_8
      clear RD_8 GR_8 BA_8 BB_8 BC_8 BD_8
      rw [← hW9]
      clear hW9
      refine hK _ _ ⟨(Box.c BC_9.out).1, (Box.c BC_9.out).2.1, (Box.c BC_9.out).2.2, (Box.c BD_9.out).1, (Box.c BD_9.out).2.1, (Box.c BD_9.out).2.2⟩ ?_
      clear hK K
      repeat (go_big_quiet_step (fail))
      refine wpQuiet_nil ?_
      have HF := Lib.hid (show _ ∧ _ from ⟨Box.c BA_9.out, Box.c BB_9.out⟩)
      have RES := Lib.hid (show _ ∧ _ ∧ _ from ⟨RD_9.out, GR_9.out, KP_9.out⟩)
      clear RD_9 GR_9 BA_9 BB_9 BC_9 BD_9 KP_9 q0 q1 q2 q3 q4 q5 hne
      go_wp2
      exact bodyPost_ret (v := .tuple #[.agg #[.int .i64 n, .string s, .string r], (.slice (some ⟨g1, 0, none⟩) 2 c1), .agg #[.int .i64 m, .string t, .string q], (.slice (some ⟨g2, 0, none⟩) 2 c2), .int .i64 x]) (by simp [results, Tryd.results56, go_sem, HF.out.1.1, HF.out.1.2.1, HF.out.1.2.2, HF.out.2.1, HF.out.2.2.1, HF.out.2.2.2]) rfl ⟨n, s, r, (.slice (some ⟨g1, 0, none⟩) 2 c1), la2, m, t, q, (.slice (some ⟨g2, 0, none⟩) 2 c2), lb2, x, _, rfl, HN.out.1, HN.out.2.1, HL2.out.1, HL2.out.2, ⟨ends (RA.out.out RES.out.2.2 (fun k hk => by rcases hk with rfl | rfl | rfl <;> omega)) (by omega), ends (RB.out.out RES.out.2.2 (fun k hk => by rcases hk with rfl | rfl | rfl <;> omega)) (by omega)⟩, HXW.out, RES.out.1, by omega, RES.out.2.1⟩
    · have e0 : ((v : Int) == 0) = false := by simp; omega
      clear hv0
      have q0 : ∀ QQ : Wd (fun Q => Q.cell? ⟨HC, 0, none⟩ = some (.int .i64 n) ∧ Q.cell? ⟨HC, 1, none⟩ = some (.string s) ∧ Q.cell? ⟨HC, 2, none⟩ = some (.string r) ∧ Q.cell? ⟨HD, 0, none⟩ = some (.int .i64 m) ∧ Q.cell? ⟨HD, 1, none⟩ = some (.string t) ∧ Q.cell? ⟨HD, 2, none⟩ = some (.string q)), QQ.w.cell? ⟨HC, 0, none⟩ = some (.int .i64 n) := fun QQ => QQ.ok.1
      have q1 : ∀ QQ : Wd (fun Q => Q.cell? ⟨HC, 0, none⟩ = some (.int .i64 n) ∧ Q.cell? ⟨HC, 1, none⟩ = some (.string s) ∧ Q.cell? ⟨HC, 2, none⟩ = some (.string r) ∧ Q.cell? ⟨HD, 0, none⟩ = some (.int .i64 m) ∧ Q.cell? ⟨HD, 1, none⟩ = some (.string t) ∧ Q.cell? ⟨HD, 2, none⟩ = some (.string q)), QQ.w.cell? ⟨HC, 1, none⟩ = some (.string s) := fun QQ => QQ.ok.2.1
      have q2 : ∀ QQ : Wd (fun Q => Q.cell? ⟨HC, 0, none⟩ = some (.int .i64 n) ∧ Q.cell? ⟨HC, 1, none⟩ = some (.string s) ∧ Q.cell? ⟨HC, 2, none⟩ = some (.string r) ∧ Q.cell? ⟨HD, 0, none⟩ = some (.int .i64 m) ∧ Q.cell? ⟨HD, 1, none⟩ = some (.string t) ∧ Q.cell? ⟨HD, 2, none⟩ = some (.string q)), QQ.w.cell? ⟨HC, 2, none⟩ = some (.string r) := fun QQ => QQ.ok.2.2.1
      have q3 : ∀ QQ : Wd (fun Q => Q.cell? ⟨HC, 0, none⟩ = some (.int .i64 n) ∧ Q.cell? ⟨HC, 1, none⟩ = some (.string s) ∧ Q.cell? ⟨HC, 2, none⟩ = some (.string r) ∧ Q.cell? ⟨HD, 0, none⟩ = some (.int .i64 m) ∧ Q.cell? ⟨HD, 1, none⟩ = some (.string t) ∧ Q.cell? ⟨HD, 2, none⟩ = some (.string q)), QQ.w.cell? ⟨HD, 0, none⟩ = some (.int .i64 m) := fun QQ => QQ.ok.2.2.2.1
      have q4 : ∀ QQ : Wd (fun Q => Q.cell? ⟨HC, 0, none⟩ = some (.int .i64 n) ∧ Q.cell? ⟨HC, 1, none⟩ = some (.string s) ∧ Q.cell? ⟨HC, 2, none⟩ = some (.string r) ∧ Q.cell? ⟨HD, 0, none⟩ = some (.int .i64 m) ∧ Q.cell? ⟨HD, 1, none⟩ = some (.string t) ∧ Q.cell? ⟨HD, 2, none⟩ = some (.string q)), QQ.w.cell? ⟨HD, 1, none⟩ = some (.string t) := fun QQ => QQ.ok.2.2.2.2.1
      have q5 : ∀ QQ : Wd (fun Q => Q.cell? ⟨HC, 0, none⟩ = some (.int .i64 n) ∧ Q.cell? ⟨HC, 1, none⟩ = some (.string s) ∧ Q.cell? ⟨HC, 2, none⟩ = some (.string r) ∧ Q.cell? ⟨HD, 0, none⟩ = some (.int .i64 m) ∧ Q.cell? ⟨HD, 1, none⟩ = some (.string t) ∧ Q.cell? ⟨HD, 2, none⟩ = some (.string q)), QQ.w.cell? ⟨HD, 2, none⟩ = some (.string q) := fun QQ => QQ.ok.2.2.2.2.2
      have hne : Nonempty (Wd (fun Q => Q.cell? ⟨HC, 0, none⟩ = some (.int .i64 n) ∧ Q.cell? ⟨HC, 1, none⟩ = some (.string s) ∧ Q.cell? ⟨HC, 2, none⟩ = some (.string r) ∧ Q.cell? ⟨HD, 0, none⟩ = some (.int .i64 m) ∧ Q.cell? ⟨HD, 1, none⟩ = some (.string t) ∧ Q.cell? ⟨HD, 2, none⟩ = some (.string q))) := ⟨⟨W4, ⟨(Box.c BC_4.out).1, (Box.c BC_4.out).2.1, (Box.c BC_4.out).2.2, (Box.c BD_4.out).1, (Box.c BD_4.out).2.1, (Box.c BD_4.out).2.2⟩⟩⟩
      go_wp2_with fail
      refine chain (S := (fun Q => Q.cell? ⟨HC, 0, none⟩ = some (.int .i64 n) ∧ Q.cell? ⟨HC, 1, none⟩ = some (.string s) ∧ Q.cell? ⟨HC, 2, none⟩ = some (.string r) ∧ Q.cell? ⟨HD, 0, none⟩ = some (.int .i64 m) ∧ Q.cell? ⟨HD, 1, none⟩ = some (.string t) ∧ Q.cell? ⟨HD, 2, none⟩ = some (.string q))) [([true, true, true, true, true], 5), ([], 6), ([], 7), ([false, false, false, false, false, false, false, false, true], 9)] [false, false, false, false, false, false, false, false, false, false, true, true] (by kernel_rfl) (by kernel_rfl) (by kernel_rfl) ⟨(Box.c BC_4.out).1, (Box.c BC_4.out).2.1, (Box.c BC_4.out).2.2, (Box.c BD_4.out).1, (Box.c BD_4.out).2.1, (Box.c BD_4.out).2.2⟩ ?_
      simp only [wpSegs, pickB, List.dropLast_cons_cons, List.dropLast_singleton, List.getLast?_cons_cons, List.getLast?_singleton, List.toList_toArray, List.getElem?_toArray, List.getElem?_cons_succ, List.getElem?_cons_zero, Option.toList_some]
      have KP_5 : Hid (Out (fun k => k = R ∨ k = w.heap.size ∨ k = w.heap.size + 1) U2 W4.drew) := KP_4.out.trans (Out.of_below (Below.refl _ _).drew (Nat.le_refl _)) (fun k hk => .inl hk)
      have RD_5 : Hid (Rd W4.drew R ao len cap (p2 + 1)) := RD_4.out.drew
      have GR_5 := Lib.hid (grown_drew GR_4.out)
      have BA_5 : Hid (Box 24 W4.drew (w.heap.size) 0 ⟨#[]⟩ ⟨#[]⟩) := Box.drew BA_4.out
      have BB_5 : Hid (Box 24 W4.drew (w.heap.size + 1) 0 ⟨#[]⟩ ⟨#[]⟩) := Box.drew BB_4.out
      have BC_5 : Hid (Box 24 W4.drew HC n s r) := Box.drew BC_4.out
      have BD_5 : Hid (Box 24 W4.drew HD m t q) := Box.drew BD_4.out
      clear RD_4 GR_4 BA_4 BB_4 BC_4 BD_4 KP_4
      repeat (go_big_quiet_step (fail))
      refine wpQuiet_nil ?_
      intro K hK
      go_wp2_with fail
      obtain ⟨VB, hV⟩ : ∃ QZ, QZ = (W4.alloc (.cells #[.int .i64 2, .int .i64 1, .int .i64 0, .int .i64 2, .int .i64 3, .int .i64 1] 3)).drew := ⟨_, rfl⟩
      obtain ⟨HL, hHL⟩ : ∃ QZ, QZ = W4.heap.size := ⟨_, rfl⟩
      have hba : Below W4.heap.size W4.drew VB := by rw [hV]; exact Below.trans (b := W4) ⟨rfl, rfl, rfl, Nat.le_refl _, fun _ _ => rfl⟩ ((Below.refl W4.heap.size W4).alloc (Nat.le_refl _) _).drew
      have hLR : R < HL := by rw [hHL]; exact RD_5.out.lt
      have CL : Hid (∀ i, i < 6 → VB.cell? ⟨HL, 0 + i, none⟩ = some (.int .i64 (([2, 1, 0, 2, 3, 1] : List Int).getD i 0))) := fun i hi => by
        rw [hV, hHL, Nat.zero_add]
        have := cells_ivs W4 3 [2, 1, 0, 2, 3, 1] W4.heap.size rfl i hi
        exact this
      have hrd := rd_below RD_5.out hba RD_5.out.lt
      have hg : W4.drew.grownBy VB (some R) := grown_of_below hba
      clear hba
      have KP_6 : Hid (Out (fun k => k = R ∨ k = w.heap.size ∨ k = w.heap.size + 1) U2 VB) := KP_5.out.trans (Out.of_grown hg (fun g e => .inl (Option.some.inj e).symm)) (fun k hk => .inl hk)
      have RD_6 := Lib.hid hrd
      have GR_6 := Lib.hid (grown_trans GR_5.out hg)
      have BA_6 := Lib.hid (Box.kept (row := some R) BA_5.out hg (by simp; omega))
      have BB_6 := Lib.hid (Box.kept (row := some R) BB_5.out hg (by simp; omega))
      have BC_6 := Lib.hid (Box.kept (row := some R) BC_5.out hg (by simp; omega))
      have BD_6 := Lib.hid (Box.kept (row := some R) BD_5.out hg (by simp; omega))
      clear hrd hg
      clear RD_5 GR_5 BA_5 BB_5 BC_5 BD_5 KP_5
      rw [← hV, ← hHL]
      clear hV hHL
      refine hK _ _ ⟨(Box.c BC_6.out).1, (Box.c BC_6.out).2.1, (Box.c BC_6.out).2.2, (Box.c BD_6.out).1, (Box.c BD_6.out).2.1, (Box.c BD_6.out).2.2⟩ ?_
      clear hK K
      repeat (go_big_quiet_step (fail))
      refine wpQuiet_nil ?_
      intro K hK
      go_wp2_with fail
      refine (num_any R ao len cap (p2 + 1) HL 0 6 [2, 1, 0, 2, 3, 1] _ RD_6.out (by omega) (by decide) (by decide) (by omega) CL.out).mono ?_
      rintro e V3 ⟨ix, hix, rfl, hrd, hg⟩
      have key : ∀ i, i < 6 → (-1 ≤ ([2, 1, 0, 2, 3, 1] : List Int).getD i 0 ∧ ([2, 1, 0, 2, 3, 1] : List Int).getD i 0 ≤ 4) := by decide
      have hxw := key ix hix
      obtain ⟨x, hx⟩ : ∃ QZ, QZ = ([2, 1, 0, 2, 3, 1] : List Int).getD ix 0 := ⟨_, rfl⟩
      rw [← hx] at hxw ⊢
      have HXW := Lib.hid hxw
      clear hx hxw key hix
      have KP_7 : Hid (Out (fun k => k = R ∨ k = w.heap.size ∨ k = w.heap.size + 1) U2 V3) := KP_6.out.trans (Out.of_grown hg (fun g e => .inl (Option.some.inj e).symm)) (fun k hk => .inl hk)
      have RD_7 := Lib.hid hrd
      have GR_7 := Lib.hid (grown_trans GR_6.out hg)
      have BA_7 := Lib.hid (Box.kept (row := some R) BA_6.out hg (by simp; omega))
      have BB_7 := Lib.hid (Box.kept (row := some R) BB_6.out hg (by simp; omega))
      have BC_7 := Lib.hid (Box.kept (row := some R) BC_6.out hg (by simp; omega))
      have BD_7 := Lib.hid (Box.kept (row := some R) BD_6.out hg (by simp; omega))
      clear hrd hg
      clear RD_6 GR_6 BA_6 BB_6 BC_6 BD_6 KP_6
      go_wp2_with fail
      refine hK _ _ ⟨(Box.c BC_7.out).1, (Box.c BC_7.out).2.1, (Box.c BC_7.out).2.2, (Box.c BD_7.out).1, (Box.c BD_7.out).2.1, (Box.c BD_7.out).2.2⟩ ?_
      clear hK K
      obtain ⟨z0, z1, z2⟩ := Box.c BA_7.out
      have f0 := Box.free BA_7.out 0
      have f1 := Box.free BA_7.out 1
      have f2 := Box.free BA_7.out 2
      repeat (go_big_quiet_step (fail))
      refine wpQuiet_nil ?_
      intro K hK
      go_wp2_with fail
      clear z0 z1 z2 f0 f1 f2
      have KPt : Hid (Out (fun k => k = R ∨ k = w.heap.size ∨ k = w.heap.size + 1) U2 (((V3.setCell ⟨w.heap.size, 0, none⟩ (.int .i64 n)).setCell ⟨w.heap.size, 1, none⟩ (.string s)).setCell ⟨w.heap.size, 2, none⟩ (.string r))) := ((KP_7.out.trans (Out.of_grown (grown_setCell _ _ _ _) (fun g e => .inr (.inl (Option.some.inj e).symm))) (fun k hk => .inl hk)).trans (Out.of_grown (grown_setCell _ _ _ _) (fun g e => .inr (.inl (Option.some.inj e).symm))) (fun k hk => .inl hk)).trans (Out.of_grown (grown_setCell _ _ _ _) (fun g e => .inr (.inl (Option.some.inj e).symm))) (fun k hk => .inl hk)
      obtain ⟨W8, hW8⟩ : ∃ QZ, QZ = (((V3.setCell ⟨w.heap.size, 0, none⟩ (.int .i64 n)).setCell ⟨w.heap.size, 1, none⟩ (.string s)).setCell ⟨w.heap.size, 2, none⟩ (.string r)) := ⟨_, rfl⟩
      have RD_8 : Hid (Rd W8 R ao len cap ((p2 + 1) + 1)) := by rw [hW8]; exact rd_sets RD_7.out (by omega)
      have GR_8 : Hid (w.grownBy W8 (some R)) := by rw [hW8]; exact grown_sets GR_7.out (by omega)
      have BA_8 : Hid (Box 24 W8 (w.heap.size) n s r) := by rw [hW8]; exact ((Box.set0 BA_7.out n).set1 s).set2 r
      have BB_8 : Hid (Box 24 W8 (w.heap.size + 1) 0 ⟨#[]⟩ ⟨#[]⟩) := by rw [hW8]; exact box_others BB_7.out (by omega)
      have BC_8 : Hid (Box 24 W8 HC n s r) := by rw [hW8]; exact box_others BC_7.out (by omega)
      have BD_8 : Hid (Box 24 W8 HD m t q) := by rw [hW8]; exact box_others BD_7.out (by omega)
      rw [← hW8] at KPt
      have KP_8 := KPt
      clear KPt KP_7
      clear RD_7 GR_7 BA_7 BB_7 BC_7 BD_7
      rw [← hW8]
      clear hW8
      refine hK _ _ ⟨(Box.c BC_8.out).1, (Box.c BC_8.out).2.1, (Box.c BC_8.out).2.2, (Box.c BD_8.out).1, (Box.c BD_8.out).2.1, (Box.c BD_8.out).2.2⟩ ?_
      clear hK K
      obtain ⟨z0, z1, z2⟩ := Box.c BB_8.out
      have f0 := Box.free BB_8.out 0
      have f1 := Box.free BB_8.out 1
      have f2 := Box.free BB_8.out 2
      repeat (go_big_quiet_step (fail))
      refine wpQuiet_nil ?_
      intro K hK
      go_wp2_with fail
      clear z0 z1 z2 f0 f1 f2
      have KPt : Hid (Out (fun k => k = R ∨ k = w.heap.size ∨ k = w.heap.size + 1) U2 (((W8.setCell ⟨w.heap.size + 1, 0, none⟩ (.int .i64 m)).setCell ⟨w.heap.size + 1, 1, none⟩ (.string t)).setCell ⟨w.heap.size + 1, 2, none⟩ (.string q))) := ((KP_8.out.trans (Out.of_grown (grown_setCell _ _ _ _) (fun g e => .inr (.inr (Option.some.inj e).symm))) (fun k hk => .inl hk)).trans (Out.of_grown (grown_setCell _ _ _ _) (fun g e => .inr (.inr (Option.some.inj e).symm))) (fun k hk => .inl hk)).trans (Out.of_grown (grown_setCell _ _ _ _) (fun g e => .inr (.inr (Option.some.inj e).symm))) (fun k hk => .inl hk)
      obtain ⟨W9, hW9⟩ : ∃ QZ, QZ = (((W8.setCell ⟨w.heap.size + 1, 0, none⟩ (.int .i64 m)).setCell ⟨w.heap.size + 1, 1, none⟩ (.string t)).setCell ⟨w.heap.size + 1, 2, none⟩ (.string q)) := ⟨_, rfl⟩
      have RD_9 : Hid (Rd W9 R ao len cap ((p2 + 1) + 1)) := by rw [hW9]; exact rd_sets RD_8.out (by omega)
      have GR_9 : Hid (w.grownBy W9 (some R)) := by rw [hW9]; exact grown_sets GR_8.out (by omega)
      have BA_9 : Hid (Box 24 W9 (w.heap.size) n s r) := by rw [hW9]; exact box_others BA_8.out (by omega)
      have BB_9 : Hid (Box 24 W9 (w.heap.size + 1) m t q) := by rw [hW9]; exact ((Box.set0 BB_8.out m).set1 t).set2 q
      have BC_9 : Hid (Box 24 W9 HC n s r) := by rw [hW9]; exact box_others BC_8.out (by omega)
      have BD_9 : Hid (Box 24 W9 HD m t q) := by rw [hW9]; exact box_others BD_8.out (by omega)
      rw [← hW9] at KPt
      have KP_9 := KPt
      clear KPt KP_8
      clear RD_8 GR_8 BA_8 BB_8 BC_8 BD_8
      rw [← hW9]
      clear hW9
      refine hK _ _ ⟨(Box.c BC_9.out).1, (Box.c BC_9.out).2.1, (Box.c BC_9.out).2.2, (Box.c BD_9.out).1, (Box.c BD_9.out).2.1, (Box.c BD_9.out).2.2⟩ ?_
      clear hK K
      repeat (go_big_quiet_step (fail))
      refine wpQuiet_nil ?_
      have HF := Lib.hid (show _ ∧ _ from ⟨Box.c BA_9.out, Box.c BB_9.out⟩)
      have RES := Lib.hid (show _ ∧ _ ∧ _ from ⟨RD_9.out, GR_9.out, KP_9.out⟩)
      clear RD_9 GR_9 BA_9 BB_9 BC_9 BD_9 KP_9 q0 q1 q2 q3 q4 q5 hne
      go_wp2
      exact bodyPost_ret (v := .tuple #[.agg #[.int .i64 n, .string s, .string r], (.slice (some ⟨g1, 0, none⟩) 2 c1), .agg #[.int .i64 m, .string t, .string q], (.slice (some ⟨g2, 0, none⟩) 2 c2), .int .i64 x]) (by simp [results, Tryd.results56, go_sem, HF.out.1.1, HF.out.1.2.1, HF.out.1.2.2, HF.out.2.1, HF.out.2.2.1, HF.out.2.2.2]) rfl ⟨n, s, r, (.slice (some ⟨g1, 0, none⟩) 2 c1), la2, m, t, q, (.slice (some ⟨g2, 0, none⟩) 2 c2), lb2, x, _, rfl, HN.out.1, HN.out.2.1, HL2.out.1, HL2.out.2, ⟨ends (RA.out.out RES.out.2.2 (fun k hk => by rcases hk with rfl | rfl | rfl <;> omega)) (by omega), ends (RB.out.out RES.out.2.2 (fun k hk => by rcases hk with rfl | rfl | rfl <;> omega)) (by omega)⟩, HXW.out, RES.out.1, by omega, RES.out.2.1⟩
  · obtain ⟨ao1, c1, hva⟩ := RA0.out.1.len
    obtain ⟨ao2, c2, hvb⟩ := RB0.out.1.len
    obtain ⟨na, hna⟩ : ∃ k, k = la.length := ⟨_, rfl⟩
    obtain ⟨nb, hnb⟩ : ∃ k, k = lb.length := ⟨_, rfl⟩
    rw [← hna] at hva
    rw [← hnb] at hvb
    rw [← hna, ← hnb] at hcc
    subst hva hvb
    have RA := RA0
    have RB := RB0
    have HL2 := HLL
    clear RA0 RB0 HLL HO hna hnb
    by_cases h2 : 2 < na
    · have hne : ¬ na = nb := fun e => hcc ⟨h2, e⟩
      have t2 : ((na : Int) == (nb : Int)) = false := by simp; omega
      have t1 : decide (2 < na) = true := decide_eq_true h2
      clear hcc
      go_wp2_with fail
      rw [← hW2]
      rw [← hHC]
      rw [← hW3]
      rw [← hHD2]
      clear hW2 hHC hW3 hHD2
      refine (pick_any R ao len cap p2 30 _ RD_3.out (by omega) (by decide) (by decide)).mono ?_
      rintro e W4 ⟨v, hv, rfl, hrd, hg⟩
      have KP_4 : Hid (Out (fun k => k = R ∨ k = w.heap.size ∨ k = w.heap.size + 1) U2 W4) := KP_3.out.trans (Out.of_grown hg (fun g e => .inl (Option.some.inj e).symm)) (fun k hk => .inl hk)
      have RD_4 := Lib.hid hrd
      have GR_4 := Lib.hid (grown_trans GR_3.out hg)
      have BA_4 := Lib.hid (Box.kept (row := some R) BA_3.out hg (by simp; omega))
      have BB_4 := Lib.hid (Box.kept (row := some R) BB_3.out hg (by simp; omega))
      have BC_4 := Lib.hid (Box.kept (row := some R) BC_3.out hg (by simp; omega))
      have BD_4 := Lib.hid (Box.kept (row := some R) BD_3.out hg (by simp; omega))
      clear hrd hg
      clear RD_3 GR_3 BA_3 BB_3 BC_3 BD_3 KP_3
      clear hv
      by_cases hv0 : v = 0
      · have e0 : ((v : Int) == 0) = true := by simp; omega
        clear hv0
        have q0 : ∀ QQ : Wd (fun Q => Q.cell? ⟨HC, 0, none⟩ = some (.int .i64 n) ∧ Q.cell? ⟨HC, 1, none⟩ = some (.string s) ∧ Q.cell? ⟨HC, 2, none⟩ = some (.string r) ∧ Q.cell? ⟨HD, 0, none⟩ = some (.int .i64 m) ∧ Q.cell? ⟨HD, 1, none⟩ = some (.string t) ∧ Q.cell? ⟨HD, 2, none⟩ = some (.string q)), QQ.w.cell? ⟨HC, 0, none⟩ = some (.int .i64 n) := fun QQ => QQ.ok.1
        have q1 : ∀ QQ : Wd (fun Q => Q.cell? ⟨HC, 0, none⟩ = some (.int .i64 n) ∧ Q.cell? ⟨HC, 1, none⟩ = some (.string s) ∧ Q.cell? ⟨HC, 2, none⟩ = some (.string r) ∧ Q.cell? ⟨HD, 0, none⟩ = some (.int .i64 m) ∧ Q.cell? ⟨HD, 1, none⟩ = some (.string t) ∧ Q.cell? ⟨HD, 2, none⟩ = some (.string q)), QQ.w.cell? ⟨HC, 1, none⟩ = some (.string s) := fun QQ => QQ.ok.2.1
        have q2 : ∀ QQ : Wd (fun Q => Q.cell? ⟨HC, 0, none⟩ = some (.int .i64 n) ∧ Q.cell? ⟨HC, 1, none⟩ = some (.string s) ∧ Q.cell? ⟨HC, 2, none⟩ = some (.string r) ∧ Q.cell? ⟨HD, 0, none⟩ = some (.int .i64 m) ∧ Q.cell? ⟨HD, 1, none⟩ = some (.string t) ∧ Q.cell? ⟨HD, 2, none⟩ = some (.string q)), QQ.w.cell? ⟨HC, 2, none⟩ = some (.string r) := fun QQ => QQ.ok.2.2.1
        have q3 : ∀ QQ : Wd (fun Q => Q.cell? ⟨HC, 0, none⟩ = some (.int .i64 n) ∧ Q.cell? ⟨HC, 1, none⟩ = some (.string s) ∧ Q.cell? ⟨HC, 2, none⟩ = some (.string r) ∧ Q.cell? ⟨HD, 0, none⟩ = some (.int .i64 m) ∧ Q.cell? ⟨HD, 1, none⟩ = some (.string t) ∧ Q.cell? ⟨HD, 2, none⟩ = some (.string q)), QQ.w.cell? ⟨HD, 0, none⟩ = some (.int .i64 m) := fun QQ => QQ.ok.2.2.2.1
        have q4 : ∀ QQ : Wd (fun Q => Q.cell? ⟨HC, 0, none⟩ = some (.int .i64 n) ∧ Q.cell? ⟨HC, 1, none⟩ = some (.string s) ∧ Q.cell? ⟨HC, 2, none⟩ = some (.string r) ∧ Q.cell? ⟨HD, 0, none⟩ = some (.int .i64 m) ∧ Q.cell? ⟨HD, 1, none⟩ = some (.string t) ∧ Q.cell? ⟨HD, 2, none⟩ = some (.string q)), QQ.w.cell? ⟨HD, 1, none⟩ = some (.string t) := fun QQ => QQ.ok.2.2.2.2.1
        have q5 : ∀ QQ : Wd (fun Q => Q.cell? ⟨HC, 0, none⟩ = some (.int .i64 n) ∧ Q.cell? ⟨HC, 1, none⟩ = some (.string s) ∧ Q.cell? ⟨HC, 2, none⟩ = some (.string r) ∧ Q.cell? ⟨HD, 0, none⟩ = some (.int .i64 m) ∧ Q.cell? ⟨HD, 1, none⟩ = some (.string t) ∧ Q.cell? ⟨HD, 2, none⟩ = some (.string q)), QQ.w.cell? ⟨HD, 2, none⟩ = some (.string q) := fun QQ => QQ.ok.2.2.2.2.2
        have hne : Nonempty (Wd (fun Q => Q.cell? ⟨HC, 0, none⟩ = some (.int .i64 n) ∧ Q.cell? ⟨HC, 1, none⟩ = some (.string s) ∧ Q.cell? ⟨HC, 2, none⟩ = some (.string r) ∧ Q.cell? ⟨HD, 0, none⟩ = some (.int .i64 m) ∧ Q.cell? ⟨HD, 1, none⟩ = some (.string t) ∧ Q.cell? ⟨HD, 2, none⟩ = some (.string q))) := ⟨⟨W4, ⟨(Box.c BC_4.out).1, (Box.c BC_4.out).2.1, (Box.c BC_4.out).2.2, (Box.c BD_4.out).1, (Box.c BD_4.out).2.1, (Box.c BD_4.out).2.2⟩⟩⟩
        go_wp2_with fail
        refine chain (S := (fun Q => Q.cell? ⟨HC, 0, none⟩ = some (.int .i64 n) ∧ Q.cell? ⟨HC, 1, none⟩ = some (.string s) ∧ Q.cell? ⟨HC, 2, none⟩ = some (.string r) ∧ Q.cell? ⟨HD, 0, none⟩ = some (.int .i64 m) ∧ Q.cell? ⟨HD, 1, none⟩ = some (.string t) ∧ Q.cell? ⟨HD, 2, none⟩ = some (.string q))) [([true, true, true, true, true], 5), ([], 6), ([], 7), ([false, false, false, false, false, false, false, false, true], 9)] [false, false, false, false, false, false, false, false, false, false, true, true] (by kernel_rfl) (by kernel_rfl) (by kernel_rfl) ⟨(Box.c BC_4.out).1, (Box.c BC_4.out).2.1, (Box.c BC_4.out).2.2, (Box.c BD_4.out).1, (Box.c BD_4.out).2.1, (Box.c BD_4.out).2.2⟩ ?_
        simp only [wpSegs, pickB, List.dropLast_cons_cons, List.dropLast_singleton, List.getLast?_cons_cons, List.getLast?_singleton, List.toList_toArray, List.getElem?_toArray, List.getElem?_cons_succ, List.getElem?_cons_zero, Option.toList_some]
        have KP_5 : Hid (Out (fun k => k = R ∨ k = w.heap.size ∨ k = w.heap.size + 1) U2 W4.drew) := KP_4.out.trans (Out.of_below (Below.refl _ _).drew (Nat.le_refl _)) (fun k hk => .inl hk)
        have RD_5 : Hid (Rd W4.drew R ao len cap (p2 + 1)) := RD_4.out.drew
        have GR_5 := Lib.hid (grown_drew GR_4.out)
        have BA_5 : Hid (Box 24 W4.drew (w.heap.size) 0 ⟨#[]⟩ ⟨#[]⟩) := Box.drew BA_4.out
        have BB_5 : Hid (Box 24 W4.drew (w.heap.size + 1) 0 ⟨#[]⟩ ⟨#[]⟩) := Box.drew BB_4.out
        have BC_5 : Hid (Box 24 W4.drew HC n s r) := Box.drew BC_4.out
        have BD_5 : Hid (Box 24 W4.drew HD m t q) := Box.drew BD_4.out
        clear RD_4 GR_4 BA_4 BB_4 BC_4 BD_4 KP_4
        repeat (go_big_quiet_step (fail))
        refine wpQuiet_nil ?_
        intro K hK
        go_wp2_with fail
        obtain ⟨VB, hV⟩ : ∃ QZ, QZ = (W4.alloc (.cells #[.int .i64 (-1), .int .i64 4] 3)).drew := ⟨_, rfl⟩
        obtain ⟨HL, hHL⟩ : ∃ QZ, QZ = W4.heap.size := ⟨_, rfl⟩
        have hba : Below W4.heap.size W4.drew VB := by rw [hV]; exact Below.trans (b := W4) ⟨rfl, rfl, rfl, Nat.le_refl _, fun _ _ => rfl⟩ ((Below.refl W4.heap.size W4).alloc (Nat.le_refl _) _).drew
        have hLR : R < HL := by rw [hHL]; exact RD_5.out.lt
        have CL : Hid (∀ i, i < 2 → VB.cell? ⟨HL, 0 + i, none⟩ = some (.int .i64 (([-1, 4] : List Int).getD i 0))) := fun i hi => by
          rw [hV, hHL, Nat.zero_add]
          have := cells_ivs W4 3 [-1, 4] W4.heap.size rfl i hi
          exact this
        have hrd := rd_below RD_5.out hba RD_5.out.lt
        have hg : W4.drew.grownBy VB (some R) := grown_of_below hba
        clear hba
        have KP_6 : Hid (Out (fun k => k = R ∨ k = w.heap.size ∨ k = w.heap.size + 1) U2 VB) := KP_5.out.trans (Out.of_grown hg (fun g e => .inl (Option.some.inj e).symm)) (fun k hk => .inl hk)
        have RD_6 := Lib.hid hrd
        have GR_6 := Lib.hid (grown_trans GR_5.out hg)
        have BA_6 := Lib.hid (Box.kept (row := some R) BA_5.out hg (by simp; omega))
        have BB_6 := Lib.hid (Box.kept (row := some R) BB_5.out hg (by simp; omega))
        have BC_6 := Lib.hid (Box.kept (row := some R) BC_5.out hg (by simp; omega))
        have BD_6 := Lib.hid (Box.kept (row := some R) BD_5.out hg (by simp; omega))
        clear hrd hg
        clear RD_5 GR_5 BA_5 BB_5 BC_5 BD_5 KP_5
        rw [← hV, ← hHL]
        clear hV hHL
        refine hK _ _ ⟨(Box.c BC_6.out).1, (Box.c BC_6.out).2.1, (Box.c BC_6.out).2.2, (Box.c BD_6.out).1, (Box.c BD_6.out).2.1, (Box.c BD_6.out).2.2⟩ ?_
        clear hK K
        repeat (go_big_quiet_step (fail))
        refine wpQuiet_nil ?_
        intro K hK
        go_wp2_with fail
        refine (num_any R ao len cap (p2 + 1) HL 0 2 [-1, 4] _ RD_6.out (by omega) (by decide) (by decide) (by omega) CL.out).mono ?_
        rintro e V3 ⟨ix, hix, rfl, hrd, hg⟩
        have key : ∀ i, i < 2 → (-1 ≤ ([-1, 4] : List Int).getD i 0 ∧ ([-1, 4] : List Int).getD i 0 ≤ 4) := by decide
        have hxw := key ix hix
        obtain ⟨x, hx⟩ : ∃ QZ, QZ = ([-1, 4] : List Int).getD ix 0 := ⟨_, rfl⟩
        rw [← hx] at hxw ⊢
        have HXW := Lib.hid hxw
        clear hx hxw key hix
        have KP_7 : Hid (Out (fun k => k = R ∨ k = w.heap.size ∨ k = w.heap.size + 1) U2 V3) := KP_6.out.trans (Out.of_grown hg (fun g e => .inl (Option.some.inj e).symm)) (fun k hk => .inl hk)
        have RD_7 := Lib.hid hrd
        have GR_7 := Lib.hid (grown_trans GR_6.out hg)
        have BA_7 := Lib.hid (Box.kept (row := some R) BA_6.out hg (by simp; omega))
        have BB_7 := Lib.hid (Box.kept (row := some R) BB_6.out hg (by simp; omega))
        have BC_7 := Lib.hid (Box.kept (row := some R) BC_6.out hg (by simp; omega))
        have BD_7 := Lib.hid (Box.kept (row := some R) BD_6.out hg (by simp; omega))
        clear hrd hg
        clear RD_6 GR_6 BA_6 BB_6 BC_6 BD_6 KP_6
        go_wp2_with fail
        refine hK _ _ ⟨(Box.c BC_7.out).1, (Box.c BC_7.out).2.1, (Box.c BC_7.out).2.2, (Box.c BD_7.out).1, (Box.c BD_7.out).2.1, (Box.c BD_7.out).2.2⟩ ?_
        clear hK K
        obtain ⟨z0, z1, z2⟩ := Box.c BA_7.out
        have f0 := Box.free BA_7.out 0
        have f1 := Box.free BA_7.out 1
        have f2 := Box.free BA_7.out 2
        repeat (go_big_quiet_step (fail))
        refine wpQuiet_nil ?_
        intro K hK
        go_wp2_with fail
        clear z0 z1 z2 f0 f1 f2
        have KPt : Hid (Out (fun k => k = R ∨ k = w.heap.size ∨ k = w.heap.size + 1) U2 (((V3.setCell ⟨w.heap.size, 0, none⟩ (.int .i64 n)).setCell ⟨w.heap.size, 1, none⟩ (.string s)).setCell ⟨w.heap.size, 2, none⟩ (.string r))) := ((KP_7.out.trans (Out.of_grown (grown_setCell _ _ _ _) (fun g e => .inr (.inl (Option.some.inj e).symm))) (fun k hk => .inl hk)).trans (Out.of_grown (grown_setCell _ _ _ _) (fun g e => .inr (.inl (Option.some.inj e).symm))) (fun k hk => .inl hk)).trans (Out.of_grown (grown_setCell _ _ _ _) (fun g e => .inr (.inl (Option.some.inj e).symm))) (fun k hk => .inl hk)
        obtain ⟨W8, hW8⟩ : ∃ QZ, QZ = (((V3.setCell ⟨w.heap.size, 0, none⟩ (.int .i64 n)).setCell ⟨w.heap.size, 1, none⟩ (.string s)).setCell ⟨w.heap.size, 2, none⟩ (.string r)) := ⟨_, rfl⟩
        have RD_8 : Hid (Rd W8 R ao len cap ((p2 + 1) + 1)) := by rw [hW8]; exact rd_sets RD_7.out (by omega)
        have GR_8 : Hid (w.grownBy W8 (some R)) := by rw [hW8]; exact grown_sets GR_7.out (by omega)
        have BA_8 : Hid (Box 24 W8 (w.heap.size) n s r) := by rw [hW8]; exact ((Box.set0 BA_7.out n).set1 s).set2 r
        have BB_8 : Hid (Box 24 W8 (w.heap.size + 1) 0 ⟨#[]⟩ ⟨#[]⟩) := by rw [hW8]; exact box_others BB_7.out (by omega)
        have BC_8 : Hid (Box 24 W8 HC n s r) := by rw [hW8]; exact box_others BC_7.out (by omega)
        have BD_8 : Hid (Box 24 W8 HD m t q) := by rw [hW8]; exact box_others BD_7.out (by omega)
        rw [← hW8] at KPt
        have KP_8 := KPt
        clear KPt KP_7
        clear RD_7 GR_7 BA_7 BB_7 BC_7 BD_7
        rw [← hW8]
        clear hW8
        refine hK _ _ ⟨(Box.c BC_8.out).1, (Box.c BC_8.out).2.1, (Box.c BC_8.out).2.2, (Box.c BD_8.out).1, (Box.c BD_8.out).2.1, (Box.c BD_8.out).2.2⟩ ?_
        clear hK K
        obtain ⟨z0, z1, z2⟩ := Box.c BB_8.out
        have f0 := Box.free BB_8.out 0
        have f1 := Box.free BB_8.out 1
        have f2 := Box.free BB_8.out 2
        repeat (go_big_quiet_step (fail))
        refine wpQuiet_nil ?_
        intro K hK
        go_wp2_with fail
        clear z0 z1 z2 f0 f1 f2
        have KPt : Hid (Out (fun k => k = R ∨ k = w.heap.size ∨ k = w.heap.size + 1) U2 (((W8.setCell ⟨w.heap.size + 1, 0, none⟩ (.int .i64 m)).setCell ⟨w.heap.size + 1, 1, none⟩ (.string t)).setCell ⟨w.heap.size + 1, 2, none⟩ (.string q))) := ((KP_8.out.trans (Out.of_grown (grown_setCell _ _ _ _) (fun g e => .inr (.inr (Option.some.inj e).symm))) (fun k hk => .inl hk)).trans (Out.of_grown (grown_setCell _ _ _ _) (fun g e => .inr (.inr (Option.some.inj e).symm))) (fun k hk => .inl hk)).trans (Out.of_grown (grown_setCell _ _ _ _) (fun g e => .inr (.inr (Option.some.inj e).symm))) (fun k hk => .inl hk)
        obtain ⟨W9, hW9⟩ : ∃ QZ, QZ = (((W8.setCell ⟨w.heap.size + 1, 0, none⟩ (.int .i64 m)).setCell ⟨w.heap.size + 1, 1, none⟩ (.string t)).setCell ⟨w.heap.size + 1, 2, none⟩ (.string q)) := ⟨_, rfl⟩
        have RD_9 : Hid (Rd W9 R ao len cap ((p2 + 1) + 1)) := by rw [hW9]; exact rd_sets RD_8.out (by omega)
        have GR_9 : Hid (w.grownBy W9 (some R)) := by rw [hW9]; exact grown_sets GR_8.out (by omega)
        have BA_9 : Hid (Box 24 W9 (w.heap.size) n s r) := by rw [hW9]; exact box_others BA_8.out (by omega)
        have BB_9 : Hid (Box 24 W9 (w.heap.size + 1) m t q) := by rw [hW9]; exact ((Box.set0 BB_8.out m).set1 t).set2 q
        have BC_9 : Hid (Box 24 W9 HC n s r) := by rw [hW9]; exact box_others BC_8.out (by omega)
        have BD_9 : Hid (Box 24 W9 HD m t q) := by rw [hW9]; exact box_others BD_8.out (by omega)
        rw [← hW9] at KPt
        have KP_9 := KPt
        clear KPt KP_8
        clear RD_8 GR_8 BA_8 BB_8 BC_8 BD_8
        rw [← hW9]
        clear hW9
        refine hK _ _ ⟨(Box.c BC_9.out).1, (Box.c BC_9.out).2.1, (Box.c BC_9.out).2.2, (Box.c BD_9.out).1, (Box.c BD_9.out).2.1, (Box.c BD_9.out).2.2⟩ ?_
        clear hK K
        repeat (go_big_quiet_step (fail))
        refine wpQuiet_nil ?_
        have HF := Lib.hid (show _ ∧ _ from ⟨Box.c BA_9.out, Box.c BB_9.out⟩)
        have RES := Lib.hid (show _ ∧ _ ∧ _ from ⟨RD_9.out, GR_9.out, KP_9.out⟩)
        clear RD_9 GR_9 BA_9 BB_9 BC_9 BD_9 KP_9 q0 q1 q2 q3 q4 q5 hne
        go_wp2
        exact bodyPost_ret (v := .tuple #[.agg #[.int .i64 n, .string s, .string r], (.slice ao1 na c1), .agg #[.int .i64 m, .string t, .string q], (.slice ao2 nb c2), .int .i64 x]) (by simp [results, Tryd.results56, go_sem, HF.out.1.1, HF.out.1.2.1, HF.out.1.2.2, HF.out.2.1, HF.out.2.2.1, HF.out.2.2.2]) rfl ⟨n, s, r, (.slice ao1 na c1), la, m, t, q, (.slice ao2 nb c2), lb, x, _, rfl, HN.out.1, HN.out.2.1, HL2.out.1, HL2.out.2, ⟨ends (RA.out.out RES.out.2.2 (fun k hk => by rcases hk with rfl | rfl | rfl <;> omega)) (by omega), ends (RB.out.out RES.out.2.2 (fun k hk => by rcases hk with rfl | rfl | rfl <;> omega)) (by omega)⟩, HXW.out, RES.out.1, by omega, RES.out.2.1⟩
      · have e0 : ((v : Int) == 0) = false := by simp; omega
        clear hv0
        have q0 : ∀ QQ : Wd (fun Q => Q.cell? ⟨HC, 0, none⟩ = some (.int .i64 n) ∧ Q.cell? ⟨HC, 1, none⟩ = some (.string s) ∧ Q.cell? ⟨HC, 2, none⟩ = some (.string r) ∧ Q.cell? ⟨HD, 0, none⟩ = some (.int .i64 m) ∧ Q.cell? ⟨HD, 1, none⟩ = some (.string t) ∧ Q.cell? ⟨HD, 2, none⟩ = some (.string q)), QQ.w.cell? ⟨HC, 0, none⟩ = some (.int .i64 n) := fun QQ => QQ.ok.1
        have q1 : ∀ QQ : Wd (fun Q => Q.cell? ⟨HC, 0, none⟩ = some (.int .i64 n) ∧ Q.cell? ⟨HC, 1, none⟩ = some (.string s) ∧ Q.cell? ⟨HC, 2, none⟩ = some (.string r) ∧ Q.cell? ⟨HD, 0, none⟩ = some (.int .i64 m) ∧ Q.cell? ⟨HD, 1, none⟩ = some (.string t) ∧ Q.cell? ⟨HD, 2, none⟩ = some (.string q)), QQ.w.cell? ⟨HC, 1, none⟩ = some (.string s) := fun QQ => QQ.ok.2.1
        have q2 : ∀ QQ : Wd (fun Q => Q.cell? ⟨HC, 0, none⟩ = some (.int .i64 n) ∧ Q.cell? ⟨HC, 1, none⟩ = some (.string s) ∧ Q.cell? ⟨HC, 2, none⟩ = some (.string r) ∧ Q.cell? ⟨HD, 0, none⟩ = some (.int .i64 m) ∧ Q.cell? ⟨HD, 1, none⟩ = some (.string t) ∧ Q.cell? ⟨HD, 2, none⟩ = some (.string q)), QQ.w.cell? ⟨HC, 2, none⟩ = some (.string r) := fun QQ => QQ.ok.2.2.1
        have q3 : ∀ QQ : Wd (fun Q => Q.cell? ⟨HC, 0, none⟩ = some (.int .i64 n) ∧ Q.cell? ⟨HC, 1, none⟩ = some (.string s) ∧ Q.cell? ⟨HC, 2, none⟩ = some (.string r) ∧ Q.cell? ⟨HD, 0, none⟩ = some (.int .i64 m) ∧ Q.cell? ⟨HD, 1, none⟩ = some (.string t) ∧ Q.cell? ⟨HD, 2, none⟩ = some (.string q)), QQ.w.cell? ⟨HD, 0, none⟩ = some (.int .i64 m) := fun QQ => QQ.ok.2.2.2.1
        have q4 : ∀ QQ : Wd (fun Q => Q.cell? ⟨HC, 0, none⟩ = some (.int .i64 n) ∧ Q.cell? ⟨HC, 1, none⟩ = some (.string s) ∧ Q.cell? ⟨HC, 2, none⟩ = some (.string r) ∧ Q.cell? ⟨HD, 0, none⟩ = some (.int .i64 m) ∧ Q.cell? ⟨HD, 1, none⟩ = some (.string t) ∧ Q.cell? ⟨HD, 2, none⟩ = some (.string q)), QQ.w.cell? ⟨HD, 1, none⟩ = some (.string t) := fun QQ => QQ.ok.2.2.2.2.1
        have q5 : ∀ QQ : Wd (fun Q => Q.cell? ⟨HC, 0, none⟩ = some (.int .i64 n) ∧ Q.cell? ⟨HC, 1, none⟩ = some (.string s) ∧ Q.cell? ⟨HC, 2, none⟩ = some (.string r) ∧ Q.cell? ⟨HD, 0, none⟩ = some (.int .i64 m) ∧ Q.cell? ⟨HD, 1, none⟩ = some (.string t) ∧ Q.cell? ⟨HD, 2, none⟩ = some (.string q)), QQ.w.cell? ⟨HD, 2, none⟩ = some (.string q) := fun QQ => QQ.ok.2.2.2.2.2
        have hne : Nonempty (Wd (fun Q => Q.cell? ⟨HC, 0, none⟩ = some (.int .i64 n) ∧ Q.cell? ⟨HC, 1, none⟩ = some (.string s) ∧ Q.cell? ⟨HC, 2, none⟩ = some (.string r) ∧ Q.cell? ⟨HD, 0, none⟩ = some (.int .i64 m) ∧ Q.cell? ⟨HD, 1, none⟩ = some (.string t) ∧ Q.cell? ⟨HD, 2, none⟩ = some (.string q))) := ⟨⟨W4, ⟨(Box.c BC_4.out).1, (Box.c BC_4.out).2.1, (Box.c BC_4.out).2.2, (Box.c BD_4.out).1, (Box.c BD_4.out).2.1, (Box.c BD_4.out).2.2⟩⟩⟩
        go_wp2_with fail
        refine chain (S := (fun Q => Q.cell? ⟨HC, 0, none⟩ = some (.int .i64 n) ∧ Q.cell? ⟨HC, 1, none⟩ = some (.string s) ∧ Q.cell? ⟨HC, 2, none⟩ = some (.string r) ∧ Q.cell? ⟨HD, 0, none⟩ = some (.int .i64 m) ∧ Q.cell? ⟨HD, 1, none⟩ = some (.string t) ∧ Q.cell? ⟨HD, 2, none⟩ = some (.string q))) [([true, true, true, true, true], 5), ([], 6), ([], 7), ([false, false, false, false, false, false, false, false, true], 9)] [false, false, false, false, false, false, false, false, false, false, true, true] (by kernel_rfl) (by kernel_rfl) (by kernel_rfl) ⟨(Box.c BC_4.out).1, (Box.c BC_4.out).2.1, (Box.c BC_4.out).2.2, (Box.c BD_4.out).1, (Box.c BD_4.out).2.1, (Box.c BD_4.out).2.2⟩ ?_
        simp only [wpSegs, pickB, List.dropLast_cons_cons, List.dropLast_singleton, List.getLast?_cons_cons, List.getLast?_singleton, List.toList_toArray, List.getElem?_toArray, List.getElem?_cons_succ, List.getElem?_cons_zero, Option.toList_some]
        have KP_5 : Hid (Out (fun k => k = R ∨ k = w.heap.size ∨ k = w.heap.size + 1) U2 W4.drew) := KP_4.out.trans (Out.of_below (Below.refl _ _).drew (Nat.le_refl _)) (fun k hk => .inl hk)
        have RD_5 : Hid (Rd W4.drew R ao len cap (p2 + 1)) := RD_4.out.drew
        have GR_5 := Lib.hid (grown_drew GR_4.out)
        have BA_5 : Hid (Box 24 W4.drew (w.heap.size) 0 ⟨#[]⟩ ⟨#[]⟩) := Box.drew BA_4.out
        have BB_5 : Hid (Box 24 W4.drew (w.heap.size + 1) 0 ⟨#[]⟩ ⟨#[]⟩) := Box.drew BB_4.out
        have BC_5 : Hid (Box 24 W4.drew HC n s r) := Box.drew BC_4.out
        have BD_5 : Hid (Box 24 W4.drew HD m t q) := Box.drew BD_4.out
        clear RD_4 GR_4 BA_4 BB_4 BC_4 BD_4 KP_4
        repeat (go_big_quiet_step (fail))
        refine wpQuiet_nil ?_
        intro K hK
        go_wp2_with fail
        obtain ⟨VB, hV⟩ : ∃ QZ, QZ = (W4.alloc (.cells #[.int .i64 2, .int .i64 1, .int .i64 0, .int .i64 2, .int .i64 3, .int .i64 1] 3)).drew := ⟨_, rfl⟩
        obtain ⟨HL, hHL⟩ : ∃ QZ, QZ = W4.heap.size := ⟨_, rfl⟩
        have hba : Below W4.heap.size W4.drew VB := by rw [hV]; exact Below.trans (b := W4) ⟨rfl, rfl, rfl, Nat.le_refl _, fun _ _ => rfl⟩ ((Below.refl W4.heap.size W4).alloc (Nat.le_refl _) _).drew
        have hLR : R < HL := by rw [hHL]; exact RD_5.out.lt
        have CL : Hid (∀ i, i < 6 → VB.cell? ⟨HL, 0 + i, none⟩ = some (.int .i64 (([2, 1, 0, 2, 3, 1] : List Int).getD i 0))) := fun i hi => by
          rw [hV, hHL, Nat.zero_add]
          have := cells_ivs W4 3 [2, 1, 0, 2, 3, 1] W4.heap.size rfl i hi
          exact this
        have hrd := rd_below RD_5.out hba RD_5.out.lt
        have hg : W4.drew.grownBy VB (some R) := grown_of_below hba
        clear hba
        have KP_6 : Hid (Out (fun k => k = R ∨ k = w.heap.size ∨ k = w.heap.size + 1) U2 VB) := KP_5.out.trans (Out.of_grown hg (fun g e => .inl (Option.some.inj e).symm)) (fun k hk => .inl hk)
        have RD_6 := Lib.hid hrd
        have GR_6 := Lib.hid (grown_trans GR_5.out hg)
        have BA_6 := Lib.hid (Box.kept (row := some R) BA_5.out hg (by simp; omega))
        have BB_6 := Lib.hid (Box.kept (row := some R) BB_5.out hg (by simp; omega))
        have BC_6 := Lib.hid (Box.kept (row := some R) BC_5.out hg (by simp; omega))
        have BD_6 := Lib.hid (Box.kept (row := some R) BD_5.out hg (by simp; omega))
        clear hrd hg
        clear RD_5 GR_5 BA_5 BB_5 BC_5 BD_5 KP_5
        rw [← hV, ← hHL]
        clear hV hHL
        refine hK _ _ ⟨(Box.c BC_6.out).1, (Box.c BC_6.out).2.1, (Box.c BC_6.out).2.2, (Box.c BD_6.out).1, (Box.c BD_6.out).2.1, (Box.c BD_6.out).2.2⟩ ?_
        clear hK K
        repeat (go_big_quiet_step (fail))
        refine wpQuiet_nil ?_
        intro K hK
        go_wp2_with fail
        refine (num_any R ao len cap (p2 + 1) HL 0 6 [2, 1, 0, 2, 3, 1] _ RD_6.out (by omega) (by decide) (by decide) (by omega) CL.out).mono ?_
        rintro e V3 ⟨ix, hix, rfl, hrd, hg⟩
        have key : ∀ i, i < 6 → (-1 ≤ ([2, 1, 0, 2, 3, 1] : List Int).getD i 0 ∧ ([2, 1, 0, 2, 3, 1] : List Int).getD i 0 ≤ 4) := by decide
        have hxw := key ix hix
        obtain ⟨x, hx⟩ : ∃ QZ, QZ = ([2, 1, 0, 2, 3, 1] : List Int).getD ix 0 := ⟨_, rfl⟩
        rw [← hx] at hxw ⊢
        have HXW := Lib.hid hxw
        clear hx hxw key hix
        have KP_7 : Hid (Out (fun k => k = R ∨ k = w.heap.size ∨ k = w.heap.size + 1) U2 V3) := KP_6.out.trans (Out.of_grown hg (fun g e => .inl (Option.some.inj e).symm)) (fun k hk => .inl hk)
        have RD_7 := Lib.hid hrd
        have GR_7 := Lib.hid (grown_trans GR_6.out hg)
        have BA_7 := Lib.hid (Box.kept (row := some R) BA_6.out hg (by simp; omega))
        have BB_7 := Lib.hid (Box.kept (row := some R) BB_6.out hg (by simp; omega))
        have BC_7 := Lib.hid (Box.kept (row := some R) BC_6.out hg (by simp; omega))
        have BD_7 := Lib.hid (Box.kept (row := some R) BD_6.out hg (by simp; omega))
        clear hrd hg
        clear RD_6 GR_6 BA_6 BB_6 BC_6 BD_6 KP_6
        go_wp2_with fail
        refine hK _ _ ⟨(Box.c BC_7.out).1, (Box.c BC_7.out).2.1, (Box.c BC_7.out).2.2, (Box.c BD_7.out).1, (Box.c BD_7.out).2.1, (Box.c BD_7.out).2.2⟩ ?_
        clear hK K
        obtain ⟨z0, z1, z2⟩ := Box.c BA_7.out
        have f0 := Box.free BA_7.out 0
        have f1 := Box.free BA_7.out 1
        have f2 := Box.free BA_7.out 2
        repeat (go_big_quiet_step (fail))
        refine wpQuiet_nil ?_
        intro K hK
        go_wp2_with fail
        clear z0 z1 z2 f0 f1 f2
        have KPt : Hid (Out (fun k => k = R ∨ k = w.heap.size ∨ k = w.heap.size + 1) U2 (((V3.setCell ⟨w.heap.size, 0, none⟩ (.int .i64 n)).setCell ⟨w.heap.size, 1, none⟩ (.string s)).setCell ⟨w.heap.size, 2, none⟩ (.string r))) := ((KP_7.out.trans (Out.of_grown (grown_setCell _ _ _ _) (fun g e => .inr (.inl (Option.some.inj e).symm))) (fun k hk => .inl hk)).trans (Out.of_grown (grown_setCell _ _ _ _) (fun g e => .inr (.inl (Option.some.inj e).symm))) (fun k hk => .inl hk)).trans (Out.of_grown (grown_setCell _ _ _ _) (fun g e => .inr (.inl (Option.some.inj e).symm))) (fun k hk => .inl hk)
        obtain ⟨W8, hW8⟩ : ∃ QZ, QZ = (((V3.setCell ⟨w.heap.size, 0, none⟩ (.int .i64 n)).setCell ⟨w.heap.size, 1, none⟩ (.string s)).setCell ⟨w.heap.size, 2, none⟩ (.string r)) := ⟨_, rfl⟩
        have RD_8 : Hid (Rd W8 R ao len cap ((p2 + 1) + 1)) := by rw [hW8]; exact rd_sets RD_7.out (by omega)
        have GR_8 : Hid (w.grownBy W8 (some R)) := by rw [hW8]; exact grown_sets GR_7.out (by omega)
        have BA_8 : Hid (Box 24 W8 (w.heap.size) n s r) := by rw [hW8]; exact ((Box.set0 BA_7.out n).set1 s).set2 r
        have BB_8 : Hid (Box 24 W8 (w.heap.size + 1) 0 ⟨#[]⟩ ⟨#[]⟩) := by rw [hW8]; exact box_others BB_7.out (by omega)
        have BC_8 : Hid (Box 24 W8 HC n s r) := by rw [hW8]; exact box_others BC_7.out (by omega)
        have BD_8 : Hid (Box 24 W8 HD m t q) := by rw [hW8]; exact box_others BD_7.out (by omega)
        rw [← hW8] at KPt
        have KP_8 := KPt
        clear KPt KP_7
        clear RD_7 GR_7 BA_7 BB_7 BC_7 BD_7
        rw [← hW8]
        clear hW8
        refine hK _ _ ⟨(Box.c BC_8.out).1, (Box.c BC_8.out).2.1, (Box.c BC_8.out).2.2, (Box.c BD_8.out).1, (Box.c BD_8.out).2.1, (Box.c BD_8.out).2.2⟩ ?_
        clear hK K
        obtain ⟨z0, z1, z2⟩ := Box.c BB_8.out
        have f0 := Box.free BB_8.out 0
        have f1 := Box.free BB_8.out 1
        have f2 := Box.free BB_8.out 2
        repeat (go_big_quiet_step (fail))
        refine wpQuiet_nil ?_
        intro K hK
        go_wp2_with fail
        clear z0 z1 z2 f0 f1 f2
        have KPt : Hid (Out (fun k => k = R ∨ k = w.heap.size ∨ k = w.heap.size + 1) U2 (((W8.setCell ⟨w.heap.size + 1, 0, none⟩ (.int .i64 m)).setCell ⟨w.heap.size + 1, 1, none⟩ (.string t)).setCell ⟨w.heap.size + 1, 2, none⟩ (.string q))) := ((KP_8.out.trans (Out.of_grown (grown_setCell _ _ _ _) (fun g e => .inr (.inr (Option.some.inj e).symm))) (fun k hk => .inl hk)).trans (Out.of_grown (grown_setCell _ _ _ _) (fun g e => .inr (.inr (Option.some.inj e).symm))) (fun k hk => .inl hk)).trans (Out.of_grown (grown_setCell _ _ _ _) (fun g e => .inr (.inr (Option.some.inj e).symm))) (fun k hk => .inl hk)
        obtain ⟨W9, hW9⟩ : ∃ QZ, QZ = (((W8.setCell ⟨w.heap.size + 1, 0, none⟩ (.int .i64 m)).setCell ⟨w.heap.size + 1, 1, none⟩ (.string t)).setCell ⟨w.heap.size + 1, 2, none⟩ (.string q)) := ⟨_, rfl⟩
        have RD_9 : Hid (Rd W9 R ao len cap ((p2 + 1) + 1)) := by rw [hW9]; exact rd_sets RD_8.out (by omega)
        have GR_9 : Hid (w.grownBy W9 (some R)) := by rw [hW9]; exact grown_sets GR_8.out (by omega)
        have BA_9 : Hid (Box 24 W9 (w.heap.size) n s r) := by rw [hW9]; exact box_others BA_8.out (by omega)
        have BB_9 : Hid (Box 24 W9 (w.heap.size + 1) m t q) := by rw [hW9]; exact ((Box.set0 BB_8.out m).set1 t).set2 q
        have BC_9 : Hid (Box 24 W9 HC n s r) := by rw [hW9]; exact box_others BC_8.out (by omega)
        have BD_9 : Hid (Box 24 W9 HD m t q) := by rw [hW9]; exact box_others BD_8.out (by omega)
        rw [← hW9] at KPt
        have KP_9 := KPt
        clear KPt KP_8
        clear RD_8 GR_8 BA_8 BB_8 BC_8 BD_8
        rw [← hW9]
        clear hW9
        refine hK _ _ ⟨(Box.c BC_9.out).1, (Box.c BC_9.out).2.1, (Box.c BC_9.out).2.2, (Box.c BD_9.out).1, (Box.c BD_9.out).2.1, (Box.c BD_9.out).2.2⟩ ?_
        clear hK K
        repeat (go_big_quiet_step (fail))
        refine wpQuiet_nil ?_
        have HF := Lib.hid (show _ ∧ _ from ⟨Box.c BA_9.out, Box.c BB_9.out⟩)
        have RES := Lib.hid (show _ ∧ _ ∧ _ from ⟨RD_9.out, GR_9.out, KP_9.out⟩)
        clear RD_9 GR_9 BA_9 BB_9 BC_9 BD_9 KP_9 q0 q1 q2 q3 q4 q5 hne
        go_wp2
        exact bodyPost_ret (v := .tuple #[.agg #[.int .i64 n, .string s, .string r], (.slice ao1 na c1), .agg #[.int .i64 m, .string t, .string q], (.slice ao2 nb c2), .int .i64 x]) (by simp [results, Tryd.results56, go_sem, HF.out.1.1, HF.out.1.2.1, HF.out.1.2.2, HF.out.2.1, HF.out.2.2.1, HF.out.2.2.2]) rfl ⟨n, s, r, (.slice ao1 na c1), la, m, t, q, (.slice ao2 nb c2), lb, x, _, rfl, HN.out.1, HN.out.2.1, HL2.out.1, HL2.out.2, ⟨ends (RA.out.out RES.out.2.2 (fun k hk => by rcases hk with rfl | rfl | rfl <;> omega)) (by omega), ends (RB.out.out RES.out.2.2 (fun k hk => by rcases hk with rfl | rfl | rfl <;> omega)) (by omega)⟩, HXW.out, RES.out.1, by omega, RES.out.2.1⟩
    · have t1 : decide (2 < na) = false := decide_eq_false h2
      clear hcc
      go_wp2_with fail
      rw [← hW2]
      rw [← hHC]
      rw [← hW3]
      rw [← hHD2]
      clear hW2 hHC hW3 hHD2
      refine (pick_any R ao len cap p2 30 _ RD_3.out (by omega) (by decide) (by decide)).mono ?_
      rintro e W4 ⟨v, hv, rfl, hrd, hg⟩
      have KP_4 : Hid (Out (fun k => k = R ∨ k = w.heap.size ∨ k = w.heap.size + 1) U2 W4) := KP_3.out.trans (Out.of_grown hg (fun g e => .inl (Option.some.inj e).symm)) (fun k hk => .inl hk)
      have RD_4 := Lib.hid hrd
      have GR_4 := Lib.hid (grown_trans GR_3.out hg)
      have BA_4 := Lib.hid (Box.kept (row := some R) BA_3.out hg (by simp; omega))
      have BB_4 := Lib.hid (Box.kept (row := some R) BB_3.out hg (by simp; omega))
      have BC_4 := Lib.hid (Box.kept (row := some R) BC_3.out hg (by simp; omega))
      have BD_4 := Lib.hid (Box.kept (row := some R) BD_3.out hg (by simp; omega))
      clear hrd hg
      clear RD_3 GR_3 BA_3 BB_3 BC_3 BD_3 KP_3
      clear hv
      by_cases hv0 : v = 0
      · have e0 : ((v : Int) == 0) = true := by simp; omega
        clear hv0
        have q0 : ∀ QQ : Wd (fun Q => Q.cell? ⟨HC, 0, none⟩ = some (.int .i64 n) ∧ Q.cell? ⟨HC, 1, none⟩ = some (.string s) ∧ Q.cell? ⟨HC, 2, none⟩ = some (.string r) ∧ Q.cell? ⟨HD, 0, none⟩ = some (.int .i64 m) ∧ Q.cell? ⟨HD, 1, none⟩ = some (.string t) ∧ Q.cell? ⟨HD, 2, none⟩ = some (.string q)), QQ.w.cell? ⟨HC, 0, none⟩ = some (.int .i64 n) := fun QQ => QQ.ok.1
        have q1 : ∀ QQ : Wd (fun Q => Q.cell? ⟨HC, 0, none⟩ = some (.int .i64 n) ∧ Q.cell? ⟨HC, 1, none⟩ = some (.string s) ∧ Q.cell? ⟨HC, 2, none⟩ = some (.string r) ∧ Q.cell? ⟨HD, 0, none⟩ = some (.int .i64 m) ∧ Q.cell? ⟨HD, 1, none⟩ = some (.string t) ∧ Q.cell? ⟨HD, 2, none⟩ = some (.string q)), QQ.w.cell? ⟨HC, 1, none⟩ = some (.string s) := fun QQ => QQ.ok.2.1
        have q2 : ∀ QQ : Wd (fun Q => Q.cell? ⟨HC, 0, none⟩ = some (.int .i64 n) ∧ Q.cell? ⟨HC, 1, none⟩ = some (.string s) ∧ Q.cell? ⟨HC, 2, none⟩ = some (.string r) ∧ Q.cell? ⟨HD, 0, none⟩ = some (.int .i64 m) ∧ Q.cell? ⟨HD, 1, none⟩ = some (.string t) ∧ Q.cell? ⟨HD, 2, none⟩ = some (.string q)), QQ.w.cell? ⟨HC, 2, none⟩ = some (.string r) := fun QQ => QQ.ok.2.2.1
        have q3 : ∀ QQ : Wd (fun Q => Q.cell? ⟨HC, 0, none⟩ = some (.int .i64 n) ∧ Q.cell? ⟨HC, 1, none⟩ = some (.string s) ∧ Q.cell? ⟨HC, 2, none⟩ = some (.string r) ∧ Q.cell? ⟨HD, 0, none⟩ = some (.int .i64 m) ∧ Q.cell? ⟨HD, 1, none⟩ = some (.string t) ∧ Q.cell? ⟨HD, 2, none⟩ = some (.string q)), QQ.w.cell? ⟨HD, 0, none⟩ = some (.int .i64 m) := fun QQ => QQ.ok.2.2.2.1
        have q4 : ∀ QQ : Wd (fun Q => Q.cell? ⟨HC, 0, none⟩ = some (.int .i64 n) ∧ Q.cell? ⟨HC, 1, none⟩ = some (.string s) ∧ Q.cell? ⟨HC, 2, none⟩ = some (.string r) ∧ Q.cell? ⟨HD, 0, none⟩ = some (.int .i64 m) ∧ Q.cell? ⟨HD, 1, none⟩ = some (.string t) ∧ Q.cell? ⟨HD, 2, none⟩ = some (.string q)), QQ.w.cell? ⟨HD, 1, none⟩ = some (.string t) := fun QQ => QQ.ok.2.2.2.2.1
        have q5 : ∀ QQ : Wd (fun Q => Q.cell? ⟨HC, 0, none⟩ = some (.int .i64 n) ∧ Q.cell? ⟨HC, 1, none⟩ = some (.string s) ∧ Q.cell? ⟨HC, 2, none⟩ = some (.string r) ∧ Q.cell? ⟨HD, 0, none⟩ = some (.int .i64 m) ∧ Q.cell? ⟨HD, 1, none⟩ = some (.string t) ∧ Q.cell? ⟨HD, 2, none⟩ = some (.string q)), QQ.w.cell? ⟨HD, 2, none⟩ = some (.string q) := fun QQ => QQ.ok.2.2.2.2.2
        have hne : Nonempty (Wd (fun Q => Q.cell? ⟨HC, 0, none⟩ = some (.int .i64 n) ∧ Q.cell? ⟨HC, 1, none⟩ = some (.string s) ∧ Q.cell? ⟨HC, 2, none⟩ = some (.string r) ∧ Q.cell? ⟨HD, 0, none⟩ = some (.int .i64 m) ∧ Q.cell? ⟨HD, 1, none⟩ = some (.string t) ∧ Q.cell? ⟨HD, 2, none⟩ = some (.string q))) := ⟨⟨W4, ⟨(Box.c BC_4.out).1, (Box.c BC_4.out).2.1, (Box.c BC_4.out).2.2, (Box.c BD_4.out).1, (Box.c BD_4.out).2.1, (Box.c BD_4.out).2.2⟩⟩⟩
        go_wp2_with fail
        refine chain (S := (fun Q => Q.cell? ⟨HC, 0, none⟩ = some (.int .i64 n) ∧ Q.cell? ⟨HC, 1, none⟩ = some (.string s) ∧ Q.cell? ⟨HC, 2, none⟩ = some (.string r) ∧ Q.cell? ⟨HD, 0, none⟩ = some (.int .i64 m) ∧ Q.cell? ⟨HD, 1, none⟩ = some (.string t) ∧ Q.cell? ⟨HD, 2, none⟩ = some (.string q))) [([true, true, true, true, true], 5), ([], 6), ([], 7), ([false, false, false, false, false, false, false, false, true], 9)] [false, false, false, false, false, false, false, false, false, false, true, true] (by kernel_rfl) (by kernel_rfl) (by kernel_rfl) ⟨(Box.c BC_4.out).1, (Box.c BC_4.out).2.1, (Box.c BC_4.out).2.2, (Box.c BD_4.out).1, (Box.c BD_4.out).2.1, (Box.c BD_4.out).2.2⟩ ?_
        simp only [wpSegs, pickB, List.dropLast_cons_cons, List.dropLast_singleton, List.getLast?_cons_cons, List.getLast?_singleton, List.toList_toArray, List.getElem?_toArray, List.getElem?_cons_succ, List.getElem?_cons_zero, Option.toList_some]
        have KP_5 : Hid (Out (fun k => k = R ∨ k = w.heap.size ∨ k = w.heap.size + 1) U2 W4.drew) := KP_4.out.trans (Out.of_below (Below.refl _ _).drew (Nat.le_refl _)) (fun k hk => .inl hk)
        have RD_5 : Hid (Rd W4.drew R ao len cap (p2 + 1)) := RD_4.out.drew
        have GR_5 := Lib.hid (grown_drew GR_4.out)
        have BA_5 : Hid (Box 24 W4.drew (w.heap.size) 0 ⟨#[]⟩ ⟨#[]⟩) := Box.drew BA_4.out
        have BB_5 : Hid (Box 24 W4.drew (w.heap.size + 1) 0 ⟨#[]⟩ ⟨#[]⟩) := Box.drew BB_4.out
        have BC_5 : Hid (Box 24 W4.drew HC n s r) := Box.drew BC_4.out
        have BD_5 : Hid (Box 24 W4.drew HD m t q) := Box.drew BD_4.out
        clear RD_4 GR_4 BA_4 BB_4 BC_4 BD_4 KP_4
        repeat (go_big_quiet_step (fail))
        refine wpQuiet_nil ?_
        intro K hK
        go_wp2_with fail
        obtain ⟨VB, hV⟩ : ∃ QZ, QZ = (W4.alloc (.cells #[.int .i64 (-1), .int .i64 4] 3)).drew := ⟨_, rfl⟩
        obtain ⟨HL, hHL⟩ : ∃ QZ, QZ = W4.heap.size := ⟨_, rfl⟩
        have hba : Below W4.heap.size W4.drew VB := by rw [hV]; exact Below.trans (b := W4) ⟨rfl, rfl, rfl, Nat.le_refl _, fun _ _ => rfl⟩ ((Below.refl W4.heap.size W4).alloc (Nat.le_refl _) _).drew
        have hLR : R < HL := by rw [hHL]; exact RD_5.out.lt
        have CL : Hid (∀ i, i < 2 → VB.cell? ⟨HL, 0 + i, none⟩ = some (.int .i64 (([-1, 4] : List Int).getD i 0))) := fun i hi => by
          rw [hV, hHL, Nat.zero_add]
          have := cells_ivs W4 3 [-1, 4] W4.heap.size rfl i hi
          exact this
        have hrd := rd_below RD_5.out hba RD_5.out.lt
        have hg : W4.drew.grownBy VB (some R) := grown_of_below hba
        clear hba
        have KP_6 : Hid (Out (fun k => k = R ∨ k = w.heap.size ∨ k = w.heap.size + 1) U2 VB) := KP_5.out.trans (Out.of_grown hg (fun g e => .inl (Option.some.inj e).symm)) (fun k hk => .inl hk)
        have RD_6 := Lib.hid hrd
        have GR_6 := Lib.hid (grown_trans GR_5.out hg)
        have BA_6 := Lib.hid (Box.kept (row := some R) BA_5.out hg (by simp; omega))
        have BB_6 := Lib.hid (Box.kept (row := some R) BB_5.out hg (by simp; omega))
        have BC_6 := Lib.hid (Box.kept (row := some R) BC_5.out hg (by simp; omega))
        have BD_6 := Lib.hid (Box.kept (row := some R) BD_5.out hg (by simp; omega))
        clear hrd hg
        clear RD_5 GR_5 BA_5 BB_5 BC_5 BD_5 KP_5
        rw [← hV, ← hHL]
        clear hV hHL
        refine hK _ _ ⟨(Box.c BC_6.out).1, (Box.c BC_6.out).2.1, (Box.c BC_6.out).2.2, (Box.c BD_6.out).1, (Box.c BD_6.out).2.1, (Box.c BD_6.out).2.2⟩ ?_
        clear hK K
        repeat (go_big_quiet_step (fail))
        refine wpQuiet_nil ?_
        intro K hK
        go_wp2_with fail
        refine (num_any R ao len cap (p2 + 1) HL 0 2 [-1, 4] _ RD_6.out (by omega) (by decide) (by decide) (by omega) CL.out).mono ?_
        rintro e V3 ⟨ix, hix, rfl, hrd, hg⟩
        have key : ∀ i, i < 2 → (-1 ≤ ([-1, 4] : List Int).getD i 0 ∧ ([-1, 4] : List Int).getD i 0 ≤ 4) := by decide
        have hxw := key ix hix
        obtain ⟨x, hx⟩ : ∃ QZ, QZ = ([-1, 4] : List Int).getD ix 0 := ⟨_, rfl⟩
        rw [← hx] at hxw ⊢
        have HXW := Lib.hid hxw
        clear hx hxw key hix
        have KP_7 : Hid (Out (fun k => k = R ∨ k = w.heap.size ∨ k = w.heap.size + 1) U2 V3) := KP_6.out.trans (Out.of_grown hg (fun g e => .inl (Option.some.inj e).symm)) (fun k hk => .inl hk)
        have RD_7 := Lib.hid hrd
        have GR_7 := Lib.hid (grown_trans GR_6.out hg)
        have BA_7 := Lib.hid (Box.kept (row := some R) BA_6.out hg (by simp; omega))
        have BB_7 := Lib.hid (Box.kept (row := some R) BB_6.out hg (by simp; omega))
        have BC_7 := Lib.hid (Box.kept (row := some R) BC_6.out hg (by simp; omega))
        have BD_7 := Lib.hid (Box.kept (row := some R) BD_6.out hg (by simp; omega))
        clear hrd hg
        clear RD_6 GR_6 BA_6 BB_6 BC_6 BD_6 KP_6
        go_wp2_with fail
        refine hK _ _ ⟨(Box.c BC_7.out).1, (Box.c BC_7.out).2.1, (Box.c BC_7.out).2.2, (Box.c BD_7.out).1, (Box.c BD_7.out).2.1, (Box.c BD_7.out).2.2⟩ ?_
        clear hK K
        obtain ⟨z0, z1, z2⟩ := Box.c BA_7.out
        have f0 := Box.free BA_7.out 0
        have f1 := Box.free BA_7.out 1
        have f2 := Box.free BA_7.out 2
        repeat (go_big_quiet_step (fail))
        refine wpQuiet_nil ?_
        intro K hK
        go_wp2_with fail
        clear z0 z1 z2 f0 f1 f2
        have KPt : Hid (Out (fun k => k = R ∨ k = w.heap.size ∨ k = w.heap.size + 1) U2 (((V3.setCell ⟨w.heap.size, 0, none⟩ (.int .i64 n)).setCell ⟨w.heap.size, 1, none⟩ (.string s)).setCell ⟨w.heap.size, 2, none⟩ (.string r))) := ((KP_7.out.trans (Out.of_grown (grown_setCell _ _ _ _) (fun g e => .inr (.inl (Option.some.inj e).symm))) (fun k hk => .inl hk)).trans (Out.of_grown (grown_setCell _ _ _ _) (fun g e => .inr (.inl (Option.some.inj e).symm))) (fun k hk => .inl hk)).trans (Out.of_grown (grown_setCell _ _ _ _) (fun g e => .inr (.inl (Option.some.inj e).symm))) (fun k hk => .inl hk)
        obtain ⟨W8, hW8⟩ : ∃ QZ, QZ = (((V3.setCell ⟨w.heap.size, 0, none⟩ (.int .i64 n)).setCell ⟨w.heap.size, 1, none⟩ (.string s)).setCell ⟨w.heap.size, 2, none⟩ (.string r)) := ⟨_, rfl⟩
        have RD_8 : Hid (Rd W8 R ao len cap ((p2 + 1) + 1)) := by rw [hW8]; exact rd_sets RD_7.out (by omega)
        have GR_8 : Hid (w.grownBy W8 (some R)) := by rw [hW8]; exact grown_sets GR_7.out (by omega)
        have BA_8 : Hid (Box 24 W8 (w.heap.size) n s r) := by rw [hW8]; exact ((Box.set0 BA_7.out n).set1 s).set2 r
        have BB_8 : Hid (Box 24 W8 (w.heap.size + 1) 0 ⟨#[]⟩ ⟨#[]⟩) := by rw [hW8]; exact box_others BB_7.out (by omega)
        have BC_8 : Hid (Box 24 W8 HC n s r) := by rw [hW8]; exact box_others BC_7.out (by omega)
        have BD_8 : Hid (Box 24 W8 HD m t q) := by rw [hW8]; exact box_others BD_7.out (by omega)
        rw [← hW8] at KPt
        have KP_8 := KPt
        clear KPt KP_7
        clear RD_7 GR_7 BA_7 BB_7 BC_7 BD_7
        rw [← hW8]
        clear hW8
        refine hK _ _ ⟨(Box.c BC_8.out).1, (Box.c BC_8.out).2.1, (Box.c BC_8.out).2.2, (Box.c BD_8.out).1, (Box.c BD_8.out).2.1, (Box.c BD_8.out).2.2⟩ ?_
        clear hK K
        obtain ⟨z0, z1, z2⟩ := Box.c BB_8.out
        have f0 := Box.free BB_8.out 0
        have f1 := Box.free BB_8.out 1
        have f2 := Box.free BB_8.out 2
        repeat (go_big_quiet_step (fail))
        refine wpQuiet_nil ?_
        intro K hK
        go_wp2_with fail
        clear z0 z1 z2 f0 f1 f2
        have KPt : Hid (Out (fun k => k = R ∨ k = w.heap.size ∨ k = w.heap.size + 1) U2 (((W8.setCell ⟨w.heap.size + 1, 0, none⟩ (.int .i64 m)).setCell ⟨w.heap.size + 1, 1, none⟩ (.string t)).setCell ⟨w.heap.size + 1, 2, none⟩ (.string q))) := ((KP_8.out.trans (Out.of_grown (grown_setCell _ _ _ _) (fun g e => .inr (.inr (Option.some.inj e).symm))) (fun k hk => .inl hk)).trans (Out.of_grown (grown_setCell _ _ _ _) (fun g e => .inr (.inr (Option.some.inj e).symm))) (fun k hk => .inl hk)).trans (Out.of_grown (grown_setCell _ _ _ _) (fun g e => .inr (.inr (Option.some.inj e).symm))) (fun k hk => .inl hk)
        obtain ⟨W9, hW9⟩ : ∃ QZ, QZ = (((W8.setCell ⟨w.heap.size + 1, 0, none⟩ (.int .i64 m)).setCell ⟨w.heap.size + 1, 1, none⟩ (.string t)).setCell ⟨w.heap.size + 1, 2, none⟩ (.string q)) := ⟨_, rfl⟩
        have RD_9 : Hid (Rd W9 R ao len cap ((p2 + 1) + 1)) := by rw [hW9]; exact rd_sets RD_8.out (by omega)
        have GR_9 : Hid (w.grownBy W9 (some R)) := by rw [hW9]; exact grown_sets GR_8.out (by omega)
        have BA_9 : Hid (Box 24 W9 (w.heap.size) n s r) := by rw [hW9]; exact box_others BA_8.out (by omega)
        have BB_9 : Hid (Box 24 W9 (w.heap.size + 1) m t q) := by rw [hW9]; exact ((Box.set0 BB_8.out m).set1 t).set2 q
        have BC_9 : Hid (Box 24 W9 HC n s r) := by rw [hW9]; exact box_others BC_8.out (by omega)
        have BD_9 : Hid (Box 24 W9 HD m t q) := by rw [hW9]; exact box_others BD_8.out (by omega)
        rw [← hW9] at KPt
        have KP_9 := KPt
        clear KPt KP_8
        clear RD_8 GR_8 BA_8 BB_8 BC_8 BD_8
        rw [← hW9]
        clear hW9
        refine hK _ _ ⟨(Box.c BC_9.out).1, (Box.c BC_9.out).2.1, (Box.c BC_9.out).2.2, (Box.c BD_9.out).1, (Box.c BD_9.out).2.1, (Box.c BD_9.out).2.2⟩ ?_
        clear hK K
        repeat (go_big_quiet_step (fail))
        refine wpQuiet_nil ?_
        have HF := Lib.hid (show _ ∧ _ from ⟨Box.c BA_9.out, Box.c BB_9.out⟩)
        have RES := Lib.hid (show _ ∧ _ ∧ _ from ⟨RD_9.out, GR_9.out, KP_9.out⟩)
        clear RD_9 GR_9 BA_9 BB_9 BC_9 BD_9 KP_9 q0 q1 q2 q3 q4 q5 hne
        go_wp2
        exact bodyPost_ret (v := .tuple #[.agg #[.int .i64 n, .string s, .string r], (.slice ao1 na c1), .agg #[.int .i64 m, .string t, .string q], (.slice ao2 nb c2), .int .i64 x]) (by simp [results, Tryd.results56, go_sem, HF.out.1.1, HF.out.1.2.1, HF.out.1.2.2, HF.out.2.1, HF.out.2.2.1, HF.out.2.2.2]) rfl ⟨n, s, r, (.slice ao1 na c1), la, m, t, q, (.slice ao2 nb c2), lb, x, _, rfl, HN.out.1, HN.out.2.1, HL2.out.1, HL2.out.2, ⟨ends (RA.out.out RES.out.2.2 (fun k hk => by rcases hk with rfl | rfl | rfl <;> omega)) (by omega), ends (RB.out.out RES.out.2.2 (fun k hk => by rcases hk with rfl | rfl | rfl <;> omega)) (by omega)⟩, HXW.out, RES.out.1, by omega, RES.out.2.1⟩
      · have e0 : ((v : Int) == 0) = false := by simp; omega
        clear hv0
        have q0 : ∀ QQ : Wd (fun Q => Q.cell? ⟨HC, 0, none⟩ = some (.int .i64 n) ∧ Q.cell? ⟨HC, 1, none⟩ = some (.string s) ∧ Q.cell? ⟨HC, 2, none⟩ = some (.string r) ∧ Q.cell? ⟨HD, 0, none⟩ = some (.int .i64 m) ∧ Q.cell? ⟨HD, 1, none⟩ = some (.string t) ∧ Q.cell? ⟨HD, 2, none⟩ = some (.string q)), QQ.w.cell? ⟨HC, 0, none⟩ = some (.int .i64 n) := fun QQ => QQ.ok.1
        have q1 : ∀ QQ : Wd (fun Q => Q.cell? ⟨HC, 0, none⟩ = some (.int .i64 n) ∧ Q.cell? ⟨HC, 1, none⟩ = some (.string s) ∧ Q.cell? ⟨HC, 2, none⟩ = some (.string r) ∧ Q.cell? ⟨HD, 0, none⟩ = some (.int .i64 m) ∧ Q.cell? ⟨HD, 1, none⟩ = some (.string t) ∧ Q.cell? ⟨HD, 2, none⟩ = some (.string q)), QQ.w.cell? ⟨HC, 1, none⟩ = some (.string s) := fun QQ => QQ.ok.2.1
        have q2 : ∀ QQ : Wd (fun Q => Q.cell? ⟨HC, 0, none⟩ = some (.int .i64 n) ∧ Q.cell? ⟨HC, 1, none⟩ = some (.string s) ∧ Q.cell? ⟨HC, 2, none⟩ = some (.string r) ∧ Q.cell? ⟨HD, 0, none⟩ = some (.int .i64 m) ∧ Q.cell? ⟨HD, 1, none⟩ = some (.string t) ∧ Q.cell? ⟨HD, 2, none⟩ = some (.string q)), QQ.w.cell? ⟨HC, 2, none⟩ = some (.string r) := fun QQ => QQ.ok.2.2.1
        have q3 : ∀ QQ : Wd (fun Q => Q.cell? ⟨HC, 0, none⟩ = some (.int .i64 n) ∧ Q.cell? ⟨HC, 1, none⟩ = some (.string s) ∧ Q.cell? ⟨HC, 2, none⟩ = some (.string r) ∧ Q.cell? ⟨HD, 0, none⟩ = some (.int .i64 m) ∧ Q.cell? ⟨HD, 1, none⟩ = some (.string t) ∧ Q.cell? ⟨HD, 2, none⟩ = some (.string q)), QQ.w.cell? ⟨HD, 0, none⟩ = some (.int .i64 m) := fun QQ => QQ.ok.2.2.2.1
        have q4 : ∀ QQ : Wd (fun Q => Q.cell? ⟨HC, 0, none⟩ = some (.int .i64 n) ∧ Q.cell? ⟨HC, 1, none⟩ = some (.string s) ∧ Q.cell? ⟨HC, 2, none⟩ = some (.string r) ∧ Q.cell? ⟨HD, 0, none⟩ = some (.int .i64 m) ∧ Q.cell? ⟨HD, 1, none⟩ = some (.string t) ∧ Q.cell? ⟨HD, 2, none⟩ = some (.string q)), QQ.w.cell? ⟨HD, 1, none⟩ = some (.string t) := fun QQ => QQ.ok.2.2.2.2.1
        have q5 : ∀ QQ : Wd (fun Q => Q.cell? ⟨HC, 0, none⟩ = some (.int .i64 n) ∧ Q.cell? ⟨HC, 1, none⟩ = some (.string s) ∧ Q.cell? ⟨HC, 2, none⟩ = some (.string r) ∧ Q.cell? ⟨HD, 0, none⟩ = some (.int .i64 m) ∧ Q.cell? ⟨HD, 1, none⟩ = some (.string t) ∧ Q.cell? ⟨HD, 2, none⟩ = some (.string q)), QQ.w.cell? ⟨HD, 2, none⟩ = some (.string q) := fun QQ => QQ.ok.2.2.2.2.2
        have hne : Nonempty (Wd (fun Q => Q.cell? ⟨HC, 0, none⟩ = some (.int .i64 n) ∧ Q.cell? ⟨HC, 1, none⟩ = some (.string s) ∧ Q.cell? ⟨HC, 2, none⟩ = some (.string r) ∧ Q.cell? ⟨HD, 0, none⟩ = some (.int .i64 m) ∧ Q.cell? ⟨HD, 1, none⟩ = some (.string t) ∧ Q.cell? ⟨HD, 2, none⟩ = some (.string q))) := ⟨⟨W4, ⟨(Box.c BC_4.out).1, (Box.c BC_4.out).2.1, (Box.c BC_4.out).2.2, (Box.c BD_4.out).1, (Box.c BD_4.out).2.1, (Box.c BD_4.out).2.2⟩⟩⟩
        go_wp2_with fail
        refine chain (S := (fun Q => Q.cell? ⟨HC, 0, none⟩ = some (.int .i64 n) ∧ Q.cell? ⟨HC, 1, none⟩ = some (.string s) ∧ Q.cell? ⟨HC, 2, none⟩ = some (.string r) ∧ Q.cell? ⟨HD, 0, none⟩ = some (.int .i64 m) ∧ Q.cell? ⟨HD, 1, none⟩ = some (.string t) ∧ Q.cell? ⟨HD, 2, none⟩ = some (.string q))) [([true, true, true, true, true], 5), ([], 6), ([], 7), ([false, false, false, false, false, false, false, false, true], 9)] [false, false, false, false, false, false, false, false, false, false, true, true] (by kernel_rfl) (by kernel_rfl) (by kernel_rfl) ⟨(Box.c BC_4.out).1, (Box.c BC_4.out).2.1, (Box.c BC_4.out).2.2, (Box.c BD_4.out).1, (Box.c BD_4.out).2.1, (Box.c BD_4.out).2.2⟩ ?_
        simp only [wpSegs, pickB, List.dropLast_cons_cons, List.dropLast_singleton, List.getLast?_cons_cons, List.getLast?_singleton, List.toList_toArray, List.getElem?_toArray, List.getElem?_cons_succ, List.getElem?_cons_zero, Option.toList_some]
        have KP_5 : Hid (Out (fun k => k = R ∨ k = w.heap.size ∨ k = w.heap.size + 1) U2 W4.drew) := KP_4.out.trans (Out.of_below (Below.refl _ _).drew (Nat.le_refl _)) (fun k hk => .inl hk)
        have RD_5 : Hid (Rd W4.drew R ao len cap (p2 + 1)) := RD_4.out.drew
        have GR_5 := Lib.hid (grown_drew GR_4.out)
        have BA_5 : Hid (Box 24 W4.drew (w.heap.size) 0 ⟨#[]⟩ ⟨#[]⟩) := Box.drew BA_4.out
        have BB_5 : Hid (Box 24 W4.drew (w.heap.size + 1) 0 ⟨#[]⟩ ⟨#[]⟩) := Box.drew BB_4.out
        have BC_5 : Hid (Box 24 W4.drew HC n s r) := Box.drew BC_4.out
        have BD_5 : Hid (Box 24 W4.drew HD m t q) := Box.drew BD_4.out
        clear RD_4 GR_4 BA_4 BB_4 BC_4 BD_4 KP_4
        repeat (go_big_quiet_step (fail))
        refine wpQuiet_nil ?_
        intro K hK
        go_wp2_with fail
        obtain ⟨VB, hV⟩ : ∃ QZ, QZ = (W4.alloc (.cells #[.int .i64 2, .int .i64 1, .int .i64 0, .int .i64 2, .int .i64 3, .int .i64 1] 3)).drew := ⟨_, rfl⟩
        obtain ⟨HL, hHL⟩ : ∃ QZ, QZ = W4.heap.size := ⟨_, rfl⟩
        have hba : Below W4.heap.size W4.drew VB := by rw [hV]; exact Below.trans (b := W4) ⟨rfl, rfl, rfl, Nat.le_refl _, fun _ _ => rfl⟩ ((Below.refl W4.heap.size W4).alloc (Nat.le_refl _) _).drew
        have hLR : R < HL := by rw [hHL]; exact RD_5.out.lt
        have CL : Hid (∀ i, i < 6 → VB.cell? ⟨HL, 0 + i, none⟩ = some (.int .i64 (([2, 1, 0, 2, 3, 1] : List Int).getD i 0))) := fun i hi => by
          rw [hV, hHL, Nat.zero_add]
          have := cells_ivs W4 3 [2, 1, 0, 2, 3, 1] W4.heap.size rfl i hi
          exact this
        have hrd := rd_below RD_5.out hba RD_5.out.lt
        have hg : W4.drew.grownBy VB (some R) := grown_of_below hba
        clear hba
        have KP_6 : Hid (Out (fun k => k = R ∨ k = w.heap.size ∨ k = w.heap.size + 1) U2 VB) := KP_5.out.trans (Out.of_grown hg (fun g e => .inl (Option.some.inj e).symm)) (fun k hk => .inl hk)
        have RD_6 := Lib.hid hrd
        have GR_6 := Lib.hid (grown_trans GR_5.out hg)
        have BA_6 := Lib.hid (Box.kept (row := some R) BA_5.out hg (by simp; omega))
        have BB_6 := Lib.hid (Box.kept (row := some R) BB_5.out hg (by simp; omega))
        have BC_6 := Lib.hid (Box.kept (row := some R) BC_5.out hg (by simp; omega))
        have BD_6 := Lib.hid (Box.kept (row := some R) BD_5.out hg (by simp; omega))
        clear hrd hg
        clear RD_5 GR_5 BA_5 BB_5 BC_5 BD_5 KP_5
        rw [← hV, ← hHL]
        clear hV hHL
        refine hK _ _ ⟨(Box.c BC_6.out).1, (Box.c BC_6.out).2.1, (Box.c BC_6.out).2.2, (Box.c BD_6.out).1, (Box.c BD_6.out).2.1, (Box.c BD_6.out).2.2⟩ ?_
        clear hK K
        repeat (go_big_quiet_step (fail))
        refine wpQuiet_nil ?_
        intro K hK
        go_wp2_with fail
        refine (num_any R ao len cap (p2 + 1) HL 0 6 [2, 1, 0, 2, 3, 1] _ RD_6.out (by omega) (by decide) (by decide) (by omega) CL.out).mono ?_
        rintro e V3 ⟨ix, hix, rfl, hrd, hg⟩
        have key : ∀ i, i < 6 → (-1 ≤ ([2, 1, 0, 2, 3, 1] : List Int).getD i 0 ∧ ([2, 1, 0, 2, 3, 1] : List Int).getD i 0 ≤ 4) := by decide
        have hxw := key ix hix
        obtain ⟨x, hx⟩ : ∃ QZ, QZ = ([2, 1, 0, 2, 3, 1] : List Int).getD ix 0 := ⟨_, rfl⟩
        rw [← hx] at hxw ⊢
        have HXW := Lib.hid hxw
        clear hx hxw key hix
        have KP_7 : Hid (Out (fun k => k = R ∨ k = w.heap.size ∨ k = w.heap.size + 1) U2 V3) := KP_6.out.trans (Out.of_grown hg (fun g e => .inl (Option.some.inj e).symm)) (fun k hk => .inl hk)
        have RD_7 := Lib.hid hrd
        have GR_7 := Lib.hid (grown_trans GR_6.out hg)
        have BA_7 := Lib.hid (Box.kept (row := some R) BA_6.out hg (by simp; omega))
        have BB_7 := Lib.hid (Box.kept (row := some R) BB_6.out hg (by simp; omega))
        have BC_7 := Lib.hid (Box.kept (row := some R) BC_6.out hg (by simp; omega))
        have BD_7 := Lib.hid (Box.kept (row := some R) BD_6.out hg (by simp; omega))
        clear hrd hg
        clear RD_6 GR_6 BA_6 BB_6 BC_6 BD_6 KP_6
        go_wp2_with fail
        refine hK _ _ ⟨(Box.c BC_7.out).1, (Box.c BC_7.out).2.1, (Box.c BC_7.out).2.2, (Box.c BD_7.out).1, (Box.c BD_7.out).2.1, (Box.c BD_7.out).2.2⟩ ?_
        clear hK K
        obtain ⟨z0, z1, z2⟩ := Box.c BA_7.out
        have f0 := Box.free BA_7.out 0
        have f1 := Box.free BA_7.out 1
        have f2 := Box.free BA_7.out 2
        repeat (go_big_quiet_step (fail))
        refine wpQuiet_nil ?_
        intro K hK
        go_wp2_with fail
        clear z0 z1 z2 f0 f1 f2
        have KPt : Hid (Out (fun k => k = R ∨ k = w.heap.size ∨ k = w.heap.size + 1) U2 (((V3.setCell ⟨w.heap.size, 0, none⟩ (.int .i64 n)).setCell ⟨w.heap.size, 1, none⟩ (.string s)).setCell ⟨w.heap.size, 2, none⟩ (.string r))) := ((KP_7.out.trans (Out.of_grown (grown_setCell _ _ _ _) (fun g e => .inr (.inl (Option.some.inj e).symm))) (fun k hk => .inl hk)).trans (Out.of_grown (grown_setCell _ _ _ _) (fun g e => .inr (.inl (Option.some.inj e).symm))) (fun k hk => .inl hk)).trans (Out.of_grown (grown_setCell _ _ _ _) (fun g e => .inr (.inl (Option.some.inj e).symm))) (fun k hk => .inl hk)
        obtain ⟨W8, hW8⟩ : ∃ QZ, QZ = (((V3.setCell ⟨w.heap.size, 0, none⟩ (.int .i64 n)).setCell ⟨w.heap.size, 1, none⟩ (.string s)).setCell ⟨w.heap.size, 2, none⟩ (.string r)) := ⟨_, rfl⟩
        have RD_8 : Hid (Rd W8 R ao len cap ((p2 + 1) + 1)) := by rw [hW8]; exact rd_sets RD_7.out (by omega)
        have GR_8 : Hid (w.grownBy W8 (some R)) := by rw [hW8]; exact grown_sets GR_7.out (by omega)
        have BA_8 : Hid (Box 24 W8 (w.heap.size) n s r) := by rw [hW8]; exact ((Box.set0 BA_7.out n).set1 s).set2 r
        have BB_8 : Hid (Box 24 W8 (w.heap.size + 1) 0 ⟨#[]⟩ ⟨#[]⟩) := by rw [hW8]; exact box_others BB_7.out (by omega)
        have BC_8 : Hid (Box 24 W8 HC n s r) := by rw [hW8]; exact box_others BC_7.out (by omega)
        have BD_8 : Hid (Box 24 W8 HD m t q) := by rw [hW8]; exact box_others BD_7.out (by omega)
        rw [← hW8] at KPt
        have KP_8 := KPt
        clear KPt KP_7
        clear RD_7 GR_7 BA_7 BB_7 BC_7 BD_7
        rw [← hW8]
        clear hW8
        refine hK _ _ ⟨(Box.c BC_8.out).1, (Box.c BC_8.out).2.1, (Box.c BC_8.out).2.2, (Box.c BD_8.out).1, (Box.c BD_8.out).2.1, (Box.c BD_8.out).2.2⟩ ?_
        clear hK K
        obtain ⟨z0, z1, z2⟩ := Box.c BB_8.out
        have f0 := Box.free BB_8.out 0
        have f1 := Box.free BB_8.out 1
        have f2 := Box.free BB_8.out 2
        repeat (go_big_quiet_step (fail))
        refine wpQuiet_nil ?_
        intro K hK
        go_wp2_with fail
        clear z0 z1 z2 f0 f1 f2
        have KPt : Hid (Out (fun k => k = R ∨ k = w.heap.size ∨ k = w.heap.size + 1) U2 (((W8.setCell ⟨w.heap.size + 1, 0, none⟩ (.int .i64 m)).setCell ⟨w.heap.size + 1, 1, none⟩ (.string t)).setCell ⟨w.heap.size + 1, 2, none⟩ (.string q))) := ((KP_8.out.trans (Out.of_grown (grown_setCell _ _ _ _) (fun g e => .inr (.inr (Option.some.inj e).symm))) (fun k hk => .inl hk)).trans (Out.of_grown (grown_setCell _ _ _ _) (fun g e => .inr (.inr (Option.some.inj e).symm))) (fun k hk => .inl hk)).trans (Out.of_grown (grown_setCell _ _ _ _) (fun g e => .inr (.inr (Option.some.inj e).symm))) (fun k hk => .inl hk)
        obtain ⟨W9, hW9⟩ : ∃ QZ, QZ = (((W8.setCell ⟨w.heap.size + 1, 0, none⟩ (.int .i64 m)).setCell ⟨w.heap.size + 1, 1, none⟩ (.string t)).setCell ⟨w.heap.size + 1, 2, none⟩ (.string q)) := ⟨_, rfl⟩
        have RD_9 : Hid (Rd W9 R ao len cap ((p2 + 1) + 1)) := by rw [hW9]; exact rd_sets RD_8.out (by omega)
        have GR_9 : Hid (w.grownBy W9 (some R)) := by rw [hW9]; exact grown_sets GR_8.out (by omega)
        have BA_9 : Hid (Box 24 W9 (w.heap.size) n s r) := by rw [hW9]; exact box_others BA_8.out (by omega)
        have BB_9 : Hid (Box 24 W9 (w.heap.size + 1) m t q) := by rw [hW9]; exact ((Box.set0 BB_8.out m).set1 t).set2 q
        have BC_9 : Hid (Box 24 W9 HC n s r) := by rw [hW9]; exact box_others BC_8.out (by omega)
        have BD_9 : Hid (Box 24 W9 HD m t q) := by rw [hW9]; exact box_others BD_8.out (by omega)
        rw [← hW9] at KPt
        have KP_9 := KPt
        clear KPt KP_8
        clear RD_8 GR_8 BA_8 BB_8 BC_8 BD_8
        rw [← hW9]
        clear hW9
        refine hK _ _ ⟨(Box.c BC_9.out).1, (Box.c BC_9.out).2.1, (Box.c BC_9.out).2.2, (Box.c BD_9.out).1, (Box.c BD_9.out).2.1, (Box.c BD_9.out).2.2⟩ ?_
        clear hK K
        repeat (go_big_quiet_step (fail))
        refine wpQuiet_nil ?_
        have HF := Lib.hid (show _ ∧ _ from ⟨Box.c BA_9.out, Box.c BB_9.out⟩)
        have RES := Lib.hid (show _ ∧ _ ∧ _ from ⟨RD_9.out, GR_9.out, KP_9.out⟩)
        clear RD_9 GR_9 BA_9 BB_9 BC_9 BD_9 KP_9 q0 q1 q2 q3 q4 q5 hne
        go_wp2
        exact bodyPost_ret (v := .tuple #[.agg #[.int .i64 n, .string s, .string r], (.slice ao1 na c1), .agg #[.int .i64 m, .string t, .string q], (.slice ao2 nb c2), .int .i64 x]) (by simp [results, Tryd.results56, go_sem, HF.out.1.1, HF.out.1.2.1, HF.out.1.2.2, HF.out.2.1, HF.out.2.2.1, HF.out.2.2.2]) rfl ⟨n, s, r, (.slice ao1 na c1), la, m, t, q, (.slice ao2 nb c2), lb, x, _, rfl, HN.out.1, HN.out.2.1, HL2.out.1, HL2.out.2, ⟨ends (RA.out.out RES.out.2.2 (fun k hk => by rcases hk with rfl | rfl | rfl <;> omega)) (by omega), ends (RB.out.out RES.out.2.2 (fun k hk => by rcases hk with rfl | rfl | rfl <;> omega)) (by omega)⟩, HXW.out, RES.out.1, by omega, RES.out.2.1⟩
end Go.Proofs.YtpcnoiigbmiejaaDoor.l5
