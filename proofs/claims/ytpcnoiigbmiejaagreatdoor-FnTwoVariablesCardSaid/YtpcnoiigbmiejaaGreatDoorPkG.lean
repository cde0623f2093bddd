/- Several texts in one: DrawG, Shuf. -/
import Derived.Test.YtpcnoiigbmiejaaGreatDoorPkD
import Derived.Test.YtpcnoiigbmiejaaGreatDoorPk1
import Derived.Deep.CutRange
/- The drawing of two structures that are sometimes not valid: l10Pair, DrawOrderedSum, DrawDisjointSum, DrawProductOf. -/
namespace Go.Proofs.YtpcnoiigbmiejaaGreatDoor.draw
set_option linter.unusedVariables false
set_option linter.unusedSimpArgs false
open Go.ChangeShapes Go.WideShapes Go.ChangeAt Go.RowKit
open Go.Proofs.YtpcnoiigbmiejaaGreatDoor.lib Go.Proofs.YtpcnoiigbmiejaaGreatDoor.st Go.Proofs.YtpcnoiigbmiejaaGreatDoor.flow Go.Proofs.YtpcnoiigbmiejaaGreatDoor.chain

theorem box_other {T : TypeId} {w : World} {H k j : Nat} {n : Int} {s r : ByteArray} {u : Value} (h : Box T w H n s r) (hne : H ≠ k) : Box T (w.setCell ⟨k, j, none⟩ u) H n s r :=
  Box.kept (row := some k) h (grown_setCell _ _ _ _) (fun e => hne (Option.some.inj e).symm)
theorem box_others {T : TypeId} {w : World} {H k : Nat} {n : Int} {s r : ByteArray} {u0 u1 u2 : Value} (h : Box T w H n s r) (hne : H ≠ k) : Box T (((w.setCell ⟨k, 0, none⟩ u0).setCell ⟨k, 1, none⟩ u1).setCell ⟨k, 2, none⟩ u2) H n s r :=
  box_other (box_other (box_other h hne) hne) hne
theorem rd_sets {w : World} {R : Nat} {ao : Option Addr} {len cap p : Nat} (h : Rd w R ao len cap p) {b : Nat} {u0 u1 u2 : Value} (hb : R < b) : Rd (((w.setCell ⟨b, 0, none⟩ u0).setCell ⟨b, 1, none⟩ u1).setCell ⟨b, 2, none⟩ u2) R ao len cap p := ((h.setNew hb).setNew hb).setNew hb
theorem grown_sets {w w' : World} {row : Option Nat} (h : w.grownBy w' row) {b : Nat} {u0 u1 u2 : Value} (hb : w.heap.size ≤ b) : w.grownBy (((w'.setCell ⟨b, 0, none⟩ u0).setCell ⟨b, 1, none⟩ u1).setCell ⟨b, 2, none⟩ u2) row := grown_new (grown_new (grown_new h hb) hb) hb
/-- what the drawing of two structures out of bytes leaves -/
def DrawnQ (w : World) (e : Ending) (w' : World) : Prop :=
  ∃ (n : Int) (s r : ByteArray) (m : Int) (t q : ByteArray), e = .returned (.tuple #[.agg #[.int .i64 n, .string s, .string r], .agg #[.int .i64 m, .string t, .string q]]) ∧ (Lit.int .i64 n).wf = true ∧ s.size ≤ 100 ∧ r.size ≤ 100 ∧ (Lit.int .i64 m).wf = true ∧ t.size ≤ 100 ∧ q.size ≤ 100 ∧ Below w.heap.size w w'

end Go.Proofs.YtpcnoiigbmiejaaGreatDoor.draw

/- l1Shuffle of the reference: an order of the first numbers is drawn. -/
namespace Go.Proofs.YtpcnoiigbmiejaaGreatDoor.shuf
set_option linter.unusedVariables false
set_option linter.unusedSimpArgs false
open Go.ChangeShapes Go.WideShapes Go.ChangeAt Go.RowKit
open Go.Proofs.YtpcnoiigbmiejaaGreatDoor.lib Go.Proofs.YtpcnoiigbmiejaaGreatDoor.st Go.Proofs.YtpcnoiigbmiejaaGreatDoor.flow Go.Proofs.YtpcnoiigbmiejaaGreatDoor.chain Go.Proofs.YtpcnoiigbmiejaaGreatDoor.sll Go.Proofs.YtpcnoiigbmiejaaGreatDoor.draw

theorem emptyRow (T : TypeId) (w : World) (B H : Nat) (hH : w.heap.size = H) (hB : B ≤ H) : OwnI T (w.alloc (.cells #[] T)) B (.slice (some ⟨H, 0, none⟩) 0 0) [] := by
  subst hH; exact World.ownsRow_made w #[] 0 hB (Nat.zero_le _) rfl
theorem grown_of_below {w w' : World} {row : Option Nat} (h : Below w.heap.size w w') : w.grownBy w' row := ⟨h.os, h.tape, h.output, h.size, fun k hk _ => h.block k hk⟩
theorem rd_below {w w' : World} {R C : Nat} {ao : Option Addr} {len cap p : Nat} (h : Rd w R ao len cap p) (hb : Below C w w') (hC : R < C) : Rd w' R ao len cap p :=
  ⟨by rw [hb.block R hC]; exact h.blk, h.byt.keep fun k hk => hb.block k (by omega), h.len⟩
/-- an append of what lies at a place -/
theorem wpList_appL {P : Program} (w : World) {ops : Array Oper} {rest : List Oper} {o : Oper} {a : Act} {Q : Exit → Act → World → Prop} (hgd : o.guard = none)
    (s x : Operand) (t : TypeId) (hop : o.op = Op.call { callee := Callee.builtin Builtin.append, args := #[s, x], argTypes := #[t, t] })
    (base : Nat) (e : TypeId) (h1 : P.underlying t = some (.slice e)) (hinfo : (P.info? e).map (fun i => (i.zero, i.size, i.bytes)) = some (some (.int .i64 0), 1, 8))
    (v : Value) (l : List Int) (hs : a.eval s = v) (hown : OwnI e w base v l) (H : Nat) (u : Int) (hx : a.eval x = .slice (some ⟨H, 0, none⟩) 1 1) (hc : w.cell? ⟨H, 0, none⟩ = some (.int .i64 u))
    (b1 : l.length + 1 ≤ 4398046511104) (b4 : base ≤ w.heap.size)
    (h : ∀ g cap w', OwnI e w' base (.slice (some ⟨g, 0, none⟩) (l.length + 1) cap) (l ++ [u]) → Grew w w' v (.slice (some ⟨g, 0, none⟩) (l.length + 1) cap) → wpList P ops Q rest (a.put o.dst (.slice (some ⟨g, 0, none⟩) (l.length + 1) cap)) w') :
    wpList P ops Q (o :: rest) a w := by
  refine wpList_plain hgd fun K hK => ?_
  refine wp_appL w s x t hop base e (.int .i64 0) 8 h1 hinfo rfl (by decide) v l.length (ivs l) hs hown ⟨H, 0, none⟩ 1 1 [.int .i64 u] hx rfl ?_ ?_ (by decide) b1 b4 (fun g cap w' ho hg => hK _ _ (h g cap w' ?_ hg))
  · intro j y hj
    match j, hj with
    | 0, hj => simp at hj; subst hj; simpa [Addr.add] using hc
  · intro y hy; simp at hy; subst hy; rfl
  · unfold OwnI; rw [List.length_append, ivs_append]; exact ho
/-- what a world keeps of an older one -/
theorem keepCell {W W' : World} {B : Nat} (hb : Below B W W') {a : Addr} {v : Value} (h : W.cell? a = some v) (hB : W.heap.size ≤ B := by exact Nat.le_refl _) : W'.cell? a = some v := by
  rw [hb.cell (Nat.lt_of_lt_of_le (World.block_lt_of_cell? W a h) hB)]; exact h
/-- what l1Shuffle leaves -/
def Shuffled (w : World) (R : Nat) (ao : Option Addr) (len cap P N : Nat) (e : Ending) (w' : World) : Prop :=
  ∃ (v : Value) (l : List Int) (p : Nat), e = .returned v ∧ l.length = N ∧ (∀ x, x ∈ l → 0 ≤ x ∧ x < (N : Int)) ∧ OwnI 3 w' w.heap.size v l ∧ Rd w' R ao len cap p ∧ p ≤ P ∧ w.grownBy w' (some R)
set_option maxHeartbeats 12800000 in
set_option maxRecDepth 100000 in
theorem shuffle_any (R : Nat) (ao : Option Addr) (len cap0 p N : Nat) (w : World) (h : Rd w R ao len cap0 p) (hp : p ≤ 80000000) (hN8 : N ≤ 8) :
    Calls Tryz.prog 60 #[.pointer (some ⟨R, 0, none⟩), .int .i64 N] w (Shuffled w R ao len cap0 (p + 8) N) := by
  have hRl := h.lt
  have START : Hid (OwnI 3 (w.alloc (.cells #[] 3)) w.heap.size (.slice (some ⟨w.heap.size, 0, none⟩) 0 0) [] ∧ Rd (w.alloc (.cells #[] 3)) R ao len cap0 p ∧ w.grownBy (w.alloc (.cells #[] 3)) (some R)) := ⟨emptyRow _ _ _ _ rfl (Nat.le_refl _), h.alloc _, World.grownBy_alloc _ _ _⟩
  clear h
  go_enter Tryz.func60, Tryz.ntmps60
  go_wp2
  go_loopw [5, 6] (fun u i wr => ∃ (ii : Int) (l : List Int) (p3 g cap : Nat), i = .int .i64 ii ∧ u = .slice (some ⟨g, 0, none⟩) l.length cap ∧ 0 ≤ ii ∧ ii ≤ N ∧ (l.length : Int) = ii ∧ (∀ x, x ∈ l → 0 ≤ x ∧ x < (N : Int)) ∧ OwnI 3 wr w.heap.size u l ∧ Rd wr R ao len cap0 p3 ∧ (p3 : Int) ≤ p + ii ∧ w.grownBy wr (some R)) (fun _ i _ => N - (intOf i).toNat)
  case atStart => exact ⟨0, [], p, w.heap.size, 0, rfl, rfl, Int.le_refl _, by omega, rfl, by simp, START.out.1, START.out.2.1, by omega, START.out.2.2⟩
  case round =>
    clear START
    obtain ⟨ii, l, p3, g, cap, rfl, hu, hi0, hiN, hll, hlb, ho, hrd, hpp, hg⟩ := hrel
    obtain ⟨m, hm⟩ : ∃ m, m = l.length := ⟨_, rfl⟩
    have hmi : (m : Int) ≤ ii ∧ ii ≤ (m : Int) := by omega
    obtain ⟨hmi1, hmi3⟩ := hmi
    have HO := Lib.hid (show _ ∧ _ ∧ _ ∧ _ from ⟨ho, hrd, hg, hlb⟩)
    have HM := Lib.hid hm
    clear ho hrd hg hlb hll hm
    by_cases hlt : ii < N
    · subst hu
      rw [← HM.out] at HO ⊢
      go_wp2_with fail
      refine (pick_any R ao len cap0 p3 (m + 1) _ HO.out.2.1 (by omega) (by omega) (by omega)).mono ?_
      rintro e w3 ⟨k, hk, rfl, hrd, hg⟩
      have ho3 : OwnI 3 w3 w.heap.size (.slice (some ⟨g, 0, none⟩) m cap) l := World.ownsRow.kept HO.out.1 hg (.inr (by
        have := (World.ownsRow.lt HO.out.1 g rfl).1
        simp [Value.ownBlock]; omega))
      have HW3 : Hid (w.heap.size ≤ w3.heap.size ∧ Rd w3 R ao len cap0 (p3 + 1) ∧ w.grownBy w3 (some R) ∧ R < w3.heap.size) := ⟨(grown_trans HO.out.2.2.1 hg).size, hrd, grown_trans HO.out.2.2.1 hg, hrd.lt⟩
      have HB := Lib.hid HO.out.2.2.2
      clear hrd hg HO
      obtain ⟨p3, hp3⟩ : ∃ q, q = p3 + 1 := ⟨_, rfl⟩
      rw [← hp3] at HW3
      have hpp3 : (p3 : Int) ≤ p + ii + 1 := by omega
      have hcap : m ≤ cap ∧ cap ≤ 9223372036854775807 := by
        rcases ho3.2 with ⟨h', _⟩ | ⟨g', cap', cur, h', hb, hh, hnc, hcm, _⟩
        · simp at h'
        · simp only [Value.slice.injEq] at h'
          obtain ⟨_, hx, rfl⟩ := h'
          exact ⟨by omega, hcm⟩
      obtain ⟨R0, hR0⟩ : ∃ q, q = l.take k ++ [ii] ++ l.drop k := ⟨_, rfl⟩
      have HE : Hid (R0 = l.take k ++ [ii] ++ l.drop k) := hR0
      have HRB : Hid (∀ x, x ∈ R0 → 0 ≤ x ∧ x < (N : Int)) := fun x hx => by
        rw [hR0] at hx
        rcases List.mem_append.1 hx with hx | hx
        · rcases List.mem_append.1 hx with hx | hx
          · exact HB.out x (List.mem_of_mem_take hx)
          · rw [List.mem_singleton.1 hx]; omega
        · exact HB.out x (List.mem_of_mem_drop hx)
      have RT : Hid (Reads w3 (.slice (some ⟨g, 0, none⟩) k cap) (l.take k) ∧ Reads w3 (.slice (some ⟨g, k, none⟩) (m - k) (cap - k)) (l.drop k)) := by
        have hlk : (l.take k).length = k := by simp; have := HM.out; omega
        have hld : (l.drop k).length = m - k := by simp; have := HM.out; omega
        have hml := HM.out
        refine ⟨⟨some ⟨g, 0, none⟩, cap, by rw [hlk], .inr ⟨g, 0, rfl, fun i hi => ?_⟩, fun h => by cases h⟩, ⟨some ⟨g, k, none⟩, cap - k, by rw [hld], .inr ⟨g, k, rfl, fun i hi => ?_⟩, fun h => by cases h⟩⟩
        · have := ho3.cell i (by omega)
          rw [Nat.zero_add, this]
          simp [List.getD_eq_getElem?_getD, List.getElem?_take, show i < k by omega]
        · have := ho3.cell (k + i) (by omega)
          rw [this]
          simp [List.getD_eq_getElem?_getD, List.getElem?_drop]
      obtain ⟨tk, htk⟩ : ∃ q, q = l.take k := ⟨_, rfl⟩
      obtain ⟨dk, hdk⟩ : ∃ q, q = l.drop k := ⟨_, rfl⟩
      rw [← htk, ← hdk] at HE RT
      have htl : tk.length = k := by rw [htk]; simp; have := HM.out; omega
      have hdl : dk.length = m - k := by rw [hdk]; simp; have := HM.out; omega
      have HRL : Hid (R0.length = m + 1) := by rw [Hid, HE.out, List.length_append, List.length_append, htl, hdl]; simp; omega
      have HTD := Lib.hid (show _ ∧ _ from ⟨htl, hdl⟩)
      have hgl := ho3.ge.2
      clear htk hdk htl hdl ho3 hR0 hp3 hpp HB
      have hkm : k ≤ cap := by omega
      rcases Nat.eq_zero_or_pos k with rfl | hk0
      · by_cases hkc : 0 < cap
        · go_wp2_with fail
          go_wp2_with fail
          refine tree (S := fun _ => True) (Tr.two [false, true, true, true, false, true, false, false, true, true, true] 0 (Tr.two [] 4 (Tr.one [] 6 (Tr.one [] 7 (Tr.one [] 11 (Tr.leaf [false, false, false, false, false, false, false, false, false, false, false, false, true])))) 6 (Tr.one [] 4 (Tr.one [] 7 (Tr.one [] 11 (Tr.leaf [false, false, false, false, false, false, false, false, false, false, false, false, true]))))) 6 (Tr.one [] 0 (Tr.one [] 4 (Tr.one [] 7 (Tr.one [] 11 (Tr.leaf [false, false, false, false, false, false, false, false, false, false, false, false, true])))))) (by kernel_rfl) (by kernel_rfl) (by kernel_rfl) trivial ?_
          simp only [wpTr, pickB, List.toList_toArray, List.getElem?_toArray, List.getElem?_cons_succ, List.getElem?_cons_zero, Option.toList_some]
          have hne : Nonempty (Wd (fun _ : World => True)) := ⟨⟨w3, trivial⟩⟩
          repeat (go_big_quiet_step (fail))
          refine wpQuiet_nil ?_
          constructor
          · intro K hK
            have BB0 : Hid (Below w3.heap.size w3 w3.drew) := (Below.refl _ _).drew
            have RD0 := Lib.hid (show _ ∧ _ from ⟨Reads.below RT.out.1 BB0.out (Nat.le_refl _), Reads.below RT.out.2 BB0.out (Nat.le_refl _)⟩)
            go_wp2_with fail
            obtain ⟨v1, hv1⟩ : ∃ q, q = (w3.alloc (.cells #[] 3)).drew := ⟨_, rfl⟩
            have hba : Below w3.heap.size w3.drew v1 := by rw [hv1]; exact Below.trans (b := w3) ⟨rfl, rfl, rfl, Nat.le_refl _, fun _ _ => rfl⟩ ((Below.refl w3.heap.size w3).alloc (Nat.le_refl _) _).drew
            have EE1 : Hid (OwnI 3 v1 w3.heap.size (.slice (some ⟨w3.heap.size, 0, none⟩) 0 0) []) := by rw [hv1]; exact emptyRow _ _ _ _ rfl BB0.out.size
            have BB1 : Hid (Below w3.heap.size w3 v1) := BB0.out.trans (hba.mono BB0.out.size)
            rw [← hv1]
            refine hK _ _ trivial ?_
            clear hK K hv1 hba
            have RD1 := Lib.hid (show _ ∧ _ from ⟨Reads.below RT.out.1 BB1.out (Nat.le_refl _), Reads.below RT.out.2 BB1.out (Nat.le_refl _)⟩)
            repeat (go_big_quiet_step (fail))
            refine wpQuiet_nil ?_
            constructor
            · intro K hK
              go_wp2_with (at_builtin; refine wpList_appAll v1 rfl (.tmp 19) (.tmp 22) 29 rfl w3.heap.size 3 Tryz.underlying29 sll.infoInt _ [] tk rfl EE1.out _ rfl RD1.out.1 (by have := HTD.out; simp; omega) BB1.out.size ?_)
              intro vv v2 ho hg hge
              try rw [List.nil_append] at ho
              have hba : Below w3.heap.size v1 v2 := below_of_grown hg BB1.out.size (fun q hq => (World.ownsRow.lt EE1.out q hq).1)
              have BB2 : Hid (Below w3.heap.size w3 v2) := BB1.out.trans hba
              have VV2 := Lib.hid ho
              clear ho hg hba hge
              refine hK _ _ trivial ?_
              clear hK K
              have RD2 := Lib.hid (show _ ∧ _ from ⟨Reads.below RT.out.1 BB2.out (Nat.le_refl _), Reads.below RT.out.2 BB2.out (Nat.le_refl _)⟩)
              repeat (go_big_quiet_step (fail))
              refine wpQuiet_nil ?_
              intro K hK
              go_wp2_with fail
              obtain ⟨v3, hv3⟩ : ∃ q, q = v2.alloc (.cells #[.int .i64 ii] 3) := ⟨_, rfl⟩
              have hba : Below v2.heap.size v2 v3 := by rw [hv3]; exact (Below.refl _ _).alloc (Nat.le_refl _) _
              have VV3 := Lib.hid (VV2.out.below hba (Nat.le_refl _))
              have CC3 : Hid (v3.cell? ⟨v2.heap.size, 0, none⟩ = some (.int .i64 ii)) := by rw [hv3]; simp [Hid]
              have BB3 : Hid (Below w3.heap.size w3 v3) := BB2.out.trans (hba.mono BB2.out.size)
              rw [← hv3]
              refine hK _ _ trivial ?_
              clear hK K hv3 hba
              have RD3 := Lib.hid (show _ ∧ _ from ⟨Reads.below RT.out.1 BB3.out (Nat.le_refl _), Reads.below RT.out.2 BB3.out (Nat.le_refl _)⟩)
              repeat (go_big_quiet_step (fail))
              refine wpQuiet_nil ?_
              intro K hK
              go_wp2_with (at_builtin; refine wpList_appL v3 rfl (.tmp 23) (.tmp 25) 29 rfl w3.heap.size 3 Tryz.underlying29 sll.infoInt _ tk rfl VV3.out (v2.heap.size) ii rfl CC3.out (by have := HTD.out; simp; omega) BB3.out.size ?_)
              intro gq cq v4 ho hgr
              have hg := hgr.grown
              have hba : Below w3.heap.size v3 v4 := below_of_grown hg BB3.out.size (fun q hq => (World.ownsRow.lt VV3.out q hq).1)
              have BB4 : Hid (Below w3.heap.size w3 v4) := BB3.out.trans hba
              have VV4 := Lib.hid ho
              clear ho hg hba hgr
              refine hK _ _ trivial ?_
              clear hK K
              have RD4 := Lib.hid (show _ ∧ _ from ⟨Reads.below RT.out.1 BB4.out (Nat.le_refl _), Reads.below RT.out.2 BB4.out (Nat.le_refl _)⟩)
              repeat (go_big_quiet_step (fail))
              refine wpQuiet_nil ?_
              intro K hK
              go_wp2_with (at_builtin; refine wpList_appAll v4 rfl (.tmp 26) (.tmp 29) 29 rfl w3.heap.size 3 Tryz.underlying29 sll.infoInt _ (tk ++ [ii]) dk rfl VV4.out _ rfl RD4.out.2 (by have := HTD.out; simp; omega) BB4.out.size ?_)
              intro vv v5 ho hg hge
              have hba : Below w3.heap.size v4 v5 := below_of_grown hg BB4.out.size (fun q hq => (World.ownsRow.lt VV4.out q hq).1)
              have BB5 : Hid (Below w3.heap.size w3 v5) := BB4.out.trans hba
              have VV5 := Lib.hid ho
              clear ho hg hba hge
              refine hK _ _ trivial ?_
              clear hK K
              have RD5 := Lib.hid (show _ ∧ _ from ⟨Reads.below RT.out.1 BB5.out (Nat.le_refl _), Reads.below RT.out.2 BB5.out (Nat.le_refl _)⟩)
              repeat (go_big_quiet_step (fail))
              refine wpQuiet_nil ?_
              rcases VV5.out.shape with ⟨_, h0⟩ | ⟨gz, cz, rfl⟩
              · simp at h0
              have e : Hid (R0 = tk ++ ii :: dk) := by rw [Hid, HE.out]; simp
              have RR : Hid (OwnI 3 v5 w.heap.size (.slice (some ⟨gz, 0, none⟩) (tk ++ [ii] ++ dk).length cz) R0 ∧ Rd v5 R ao len cap0 p3 ∧ w.grownBy v5 (some R)) := by
                have ho' := VV5.out
                have hb' := BB5.out
                refine ⟨?_, rd_below HW3.out.2.1 hb' HW3.out.2.2.2, grown_trans HW3.out.2.2.1 (grown_of_below hb')⟩
                rw [e.out]
                exact (by simpa using ho'.mono HW3.out.1)
              go_wp2
              go_roundw
              case rel => exact ⟨ii + 1, R0, p3, gz, cz, by go_num, (by rw [e.out]; try simp), by omega, by omega, by have := HRL.out; omega, HRB.out, by have h := RR.out.1; simpa using h, RR.out.2.1, by omega, RR.out.2.2⟩
              case measure => simp [intOf]; omega
            · intro K hK
              go_wp2_with fail
              obtain ⟨v2, hv2⟩ : ∃ q, q = v1.alloc (.cells #[.int .i64 ii] 3) := ⟨_, rfl⟩
              have hba : Below v1.heap.size v1 v2 := by rw [hv2]; exact (Below.refl _ _).alloc (Nat.le_refl _) _
              have EE2 := Lib.hid (EE1.out.below hba (Nat.le_refl _))
              have CC2 : Hid (v2.cell? ⟨v1.heap.size, 0, none⟩ = some (.int .i64 ii)) := by rw [hv2]; simp [Hid]
              have HNE : Hid (v1.heap.size ≠ w3.heap.size) := Nat.ne_of_gt (EE1.out.ge.2)
              have BB2 : Hid (Below w3.heap.size w3 v2) := BB1.out.trans (hba.mono BB1.out.size)
              rw [← hv2]
              refine hK _ _ trivial ?_
              clear hK K hv2 hba
              have RD2 := Lib.hid (show _ ∧ _ from ⟨Reads.below RT.out.1 BB2.out (Nat.le_refl _), Reads.below RT.out.2 BB2.out (Nat.le_refl _)⟩)
              repeat (go_big_quiet_step (fail))
              refine wpQuiet_nil ?_
              intro K hK
              go_wp2_with (at_builtin; refine wpList_appAll v2 rfl (.tmp 19) (.tmp 22) 29 rfl w3.heap.size 3 Tryz.underlying29 sll.infoInt _ [] tk rfl EE2.out _ rfl RD2.out.1 (by have := HTD.out; simp; omega) BB2.out.size ?_)
              intro vv v3 ho hg hge
              try rw [List.nil_append] at ho
              have hba : Below w3.heap.size v2 v3 := below_of_grown hg BB2.out.size (fun q hq => (World.ownsRow.lt EE2.out q hq).1)
              have BB3 : Hid (Below w3.heap.size w3 v3) := BB2.out.trans hba
              have CC3 : Hid (v3.cell? ⟨v1.heap.size, 0, none⟩ = some (.int .i64 ii)) := hg.cell CC2.out (by have := HNE.out; simpa [Value.ownBlock] using this)
              have VV3 := Lib.hid ho
              clear ho hg hba hge
              refine hK _ _ trivial ?_
              clear hK K
              have RD3 := Lib.hid (show _ ∧ _ from ⟨Reads.below RT.out.1 BB3.out (Nat.le_refl _), Reads.below RT.out.2 BB3.out (Nat.le_refl _)⟩)
              repeat (go_big_quiet_step (fail))
              refine wpQuiet_nil ?_
              intro K hK
              go_wp2_with (at_builtin; refine wpList_appL v3 rfl (.tmp 23) (.tmp 25) 29 rfl w3.heap.size 3 Tryz.underlying29 sll.infoInt _ tk rfl VV3.out (v1.heap.size) ii rfl CC3.out (by have := HTD.out; simp; omega) BB3.out.size ?_)
              intro gq cq v4 ho hgr
              have hg := hgr.grown
              have hba : Below w3.heap.size v3 v4 := below_of_grown hg BB3.out.size (fun q hq => (World.ownsRow.lt VV3.out q hq).1)
              have BB4 : Hid (Below w3.heap.size w3 v4) := BB3.out.trans hba
              have VV4 := Lib.hid ho
              clear ho hg hba hgr
              refine hK _ _ trivial ?_
              clear hK K
              have RD4 := Lib.hid (show _ ∧ _ from ⟨Reads.below RT.out.1 BB4.out (Nat.le_refl _), Reads.below RT.out.2 BB4.out (Nat.le_refl _)⟩)
              repeat (go_big_quiet_step (fail))
              refine wpQuiet_nil ?_
              intro K hK
              go_wp2_with (at_builtin; refine wpList_appAll v4 rfl (.tmp 26) (.tmp 29) 29 rfl w3.heap.size 3 Tryz.underlying29 sll.infoInt _ (tk ++ [ii]) dk rfl VV4.out _ rfl RD4.out.2 (by have := HTD.out; simp; omega) BB4.out.size ?_)
              intro vv v5 ho hg hge
              have hba : Below w3.heap.size v4 v5 := below_of_grown hg BB4.out.size (fun q hq => (World.ownsRow.lt VV4.out q hq).1)
              have BB5 : Hid (Below w3.heap.size w3 v5) := BB4.out.trans hba
              have VV5 := Lib.hid ho
              clear ho hg hba hge
              refine hK _ _ trivial ?_
              clear hK K
              have RD5 := Lib.hid (show _ ∧ _ from ⟨Reads.below RT.out.1 BB5.out (Nat.le_refl _), Reads.below RT.out.2 BB5.out (Nat.le_refl _)⟩)
              repeat (go_big_quiet_step (fail))
              refine wpQuiet_nil ?_
              rcases VV5.out.shape with ⟨_, h0⟩ | ⟨gz, cz, rfl⟩
              · simp at h0
              have e : Hid (R0 = tk ++ ii :: dk) := by rw [Hid, HE.out]; simp
              have RR : Hid (OwnI 3 v5 w.heap.size (.slice (some ⟨gz, 0, none⟩) (tk ++ [ii] ++ dk).length cz) R0 ∧ Rd v5 R ao len cap0 p3 ∧ w.grownBy v5 (some R)) := by
                have ho' := VV5.out
                have hb' := BB5.out
                refine ⟨?_, rd_below HW3.out.2.1 hb' HW3.out.2.2.2, grown_trans HW3.out.2.2.1 (grown_of_below hb')⟩
                rw [e.out]
                exact (by simpa using ho'.mono HW3.out.1)
              go_wp2
              go_roundw
              case rel => exact ⟨ii + 1, R0, p3, gz, cz, by go_num, (by rw [e.out]; try simp), by omega, by omega, by have := HRL.out; omega, HRB.out, by have h := RR.out.1; simpa using h, RR.out.2.1, by omega, RR.out.2.2⟩
              case measure => simp [intOf]; omega
          · intro K hK
            have BB0 : Hid (Below w3.heap.size w3 w3.drew) := (Below.refl _ _).drew
            have RD0 := Lib.hid (show _ ∧ _ from ⟨Reads.below RT.out.1 BB0.out (Nat.le_refl _), Reads.below RT.out.2 BB0.out (Nat.le_refl _)⟩)
            go_wp2_with fail
            obtain ⟨v1, hv1⟩ : ∃ q, q = (w3.alloc (.cells #[.int .i64 ii] 3)).drew := ⟨_, rfl⟩
            have hba : Below w3.heap.size w3.drew v1 := by rw [hv1]; exact Below.trans (b := w3) ⟨rfl, rfl, rfl, Nat.le_refl _, fun _ _ => rfl⟩ ((Below.refl w3.heap.size w3).alloc (Nat.le_refl _) _).drew
            have CC1 : Hid (v1.cell? ⟨w3.heap.size, 0, none⟩ = some (.int .i64 ii)) := by rw [hv1]; simp [Hid]
            have BB1 : Hid (Below w3.heap.size w3 v1) := BB0.out.trans (hba.mono BB0.out.size)
            rw [← hv1]
            refine hK _ _ trivial ?_
            clear hK K hv1 hba
            have RD1 := Lib.hid (show _ ∧ _ from ⟨Reads.below RT.out.1 BB1.out (Nat.le_refl _), Reads.below RT.out.2 BB1.out (Nat.le_refl _)⟩)
            repeat (go_big_quiet_step (fail))
            refine wpQuiet_nil ?_
            intro K hK
            go_wp2_with fail
            obtain ⟨v2, hv2⟩ : ∃ q, q = v1.alloc (.cells #[] 3) := ⟨_, rfl⟩
            have hba : Below v1.heap.size v1 v2 := by rw [hv2]; exact (Below.refl _ _).alloc (Nat.le_refl _) _
            have CC2 : Hid (v2.cell? ⟨w3.heap.size, 0, none⟩ = some (.int .i64 ii)) := keepCell hba CC1.out
            have EE2 : Hid (OwnI 3 v2 w3.heap.size (.slice (some ⟨v1.heap.size, 0, none⟩) 0 0) []) := by rw [hv2]; exact emptyRow _ _ _ _ rfl BB1.out.size
            have HNE : Hid (w3.heap.size ≠ v1.heap.size) := Nat.ne_of_lt (World.block_lt_of_cell? _ _ CC1.out)
            have BB2 : Hid (Below w3.heap.size w3 v2) := BB1.out.trans (hba.mono BB1.out.size)
            rw [← hv2]
            refine hK _ _ trivial ?_
            clear hK K hv2 hba
            have RD2 := Lib.hid (show _ ∧ _ from ⟨Reads.below RT.out.1 BB2.out (Nat.le_refl _), Reads.below RT.out.2 BB2.out (Nat.le_refl _)⟩)
            repeat (go_big_quiet_step (fail))
            refine wpQuiet_nil ?_
            intro K hK
            go_wp2_with (at_builtin; refine wpList_appAll v2 rfl (.tmp 19) (.tmp 22) 29 rfl w3.heap.size 3 Tryz.underlying29 sll.infoInt _ [] tk rfl EE2.out _ rfl RD2.out.1 (by have := HTD.out; simp; omega) BB2.out.size ?_)
            intro vv v3 ho hg hge
            try rw [List.nil_append] at ho
            have hba : Below w3.heap.size v2 v3 := below_of_grown hg BB2.out.size (fun q hq => (World.ownsRow.lt EE2.out q hq).1)
            have BB3 : Hid (Below w3.heap.size w3 v3) := BB2.out.trans hba
            have CC3 : Hid (v3.cell? ⟨w3.heap.size, 0, none⟩ = some (.int .i64 ii)) := hg.cell CC2.out (by have := HNE.out; simpa [Value.ownBlock] using this)
            have VV3 := Lib.hid ho
            clear ho hg hba hge
            refine hK _ _ trivial ?_
            clear hK K
            have RD3 := Lib.hid (show _ ∧ _ from ⟨Reads.below RT.out.1 BB3.out (Nat.le_refl _), Reads.below RT.out.2 BB3.out (Nat.le_refl _)⟩)
            repeat (go_big_quiet_step (fail))
            refine wpQuiet_nil ?_
            intro K hK
            go_wp2_with (at_builtin; refine wpList_appL v3 rfl (.tmp 23) (.tmp 25) 29 rfl w3.heap.size 3 Tryz.underlying29 sll.infoInt _ tk rfl VV3.out (w3.heap.size) ii rfl CC3.out (by have := HTD.out; simp; omega) BB3.out.size ?_)
            intro gq cq v4 ho hgr
            have hg := hgr.grown
            have hba : Below w3.heap.size v3 v4 := below_of_grown hg BB3.out.size (fun q hq => (World.ownsRow.lt VV3.out q hq).1)
            have BB4 : Hid (Below w3.heap.size w3 v4) := BB3.out.trans hba
            have VV4 := Lib.hid ho
            clear ho hg hba hgr
            refine hK _ _ trivial ?_
            clear hK K
            have RD4 := Lib.hid (show _ ∧ _ from ⟨Reads.below RT.out.1 BB4.out (Nat.le_refl _), Reads.below RT.out.2 BB4.out (Nat.le_refl _)⟩)
            repeat (go_big_quiet_step (fail))
            refine wpQuiet_nil ?_
            intro K hK
            go_wp2_with (at_builtin; refine wpList_appAll v4 rfl (.tmp 26) (.tmp 29) 29 rfl w3.heap.size 3 Tryz.underlying29 sll.infoInt _ (tk ++ [ii]) dk rfl VV4.out _ rfl RD4.out.2 (by have := HTD.out; simp; omega) BB4.out.size ?_)
            intro vv v5 ho hg hge
            have hba : Below w3.heap.size v4 v5 := below_of_grown hg BB4.out.size (fun q hq => (World.ownsRow.lt VV4.out q hq).1)
            have BB5 : Hid (Below w3.heap.size w3 v5) := BB4.out.trans hba
            have VV5 := Lib.hid ho
            clear ho hg hba hge
            refine hK _ _ trivial ?_
            clear hK K
            have RD5 := Lib.hid (show _ ∧ _ from ⟨Reads.below RT.out.1 BB5.out (Nat.le_refl _), Reads.below RT.out.2 BB5.out (Nat.le_refl _)⟩)
            repeat (go_big_quiet_step (fail))
            refine wpQuiet_nil ?_
            rcases VV5.out.shape with ⟨_, h0⟩ | ⟨gz, cz, rfl⟩
            · simp at h0
            have e : Hid (R0 = tk ++ ii :: dk) := by rw [Hid, HE.out]; simp
            have RR : Hid (OwnI 3 v5 w.heap.size (.slice (some ⟨gz, 0, none⟩) (tk ++ [ii] ++ dk).length cz) R0 ∧ Rd v5 R ao len cap0 p3 ∧ w.grownBy v5 (some R)) := by
              have ho' := VV5.out
              have hb' := BB5.out
              refine ⟨?_, rd_below HW3.out.2.1 hb' HW3.out.2.2.2, grown_trans HW3.out.2.2.1 (grown_of_below hb')⟩
              rw [e.out]
              exact (by simpa using ho'.mono HW3.out.1)
            go_wp2
            go_roundw
            case rel => exact ⟨ii + 1, R0, p3, gz, cz, by go_num, (by rw [e.out]; try simp), by omega, by omega, by have := HRL.out; omega, HRB.out, by have h := RR.out.1; simpa using h, RR.out.2.1, by omega, RR.out.2.2⟩
            case measure => simp [intOf]; omega

        · have hkc2 : cap = 0 := by omega
          have hkm2 : m = 0 := by omega
          subst hkc2
          subst hkm2
          have hdk0 : dk = [] := List.length_eq_zero_iff.1 (by have := HTD.out.2; omega)
          have RT2 : Hid (Reads w3 (.slice (some ⟨g, 0, none⟩) (0) (0)) tk ∧ Reads w3 (.slice (some ⟨g, 0, none⟩) 0 0) dk) := ⟨by have h := RT.out.1; exact h, by rw [hdk0]; exact ⟨some ⟨g, 0, none⟩, 0, rfl, .inl rfl, fun h => by cases h⟩⟩
          clear RT hdk0
          have RT := RT2
          clear RT2
          go_wp2_with fail
          go_wp2_with fail
          refine tree (S := fun _ => True) (Tr.two [false, true, true, true, false, true, false, false, true, true, true] 0 (Tr.two [] 4 (Tr.one [] 6 (Tr.one [] 7 (Tr.one [] 11 (Tr.leaf [false, false, false, false, false, false, false, false, false, false, false, false, true])))) 6 (Tr.one [] 4 (Tr.one [] 7 (Tr.one [] 11 (Tr.leaf [false, false, false, false, false, false, false, false, false, false, false, false, true]))))) 6 (Tr.one [] 0 (Tr.one [] 4 (Tr.one [] 7 (Tr.one [] 11 (Tr.leaf [false, false, false, false, false, false, false, false, false, false, false, false, true])))))) (by kernel_rfl) (by kernel_rfl) (by kernel_rfl) trivial ?_
          simp only [wpTr, pickB, List.toList_toArray, List.getElem?_toArray, List.getElem?_cons_succ, List.getElem?_cons_zero, Option.toList_some]
          have hne : Nonempty (Wd (fun _ : World => True)) := ⟨⟨w3, trivial⟩⟩
          repeat (go_big_quiet_step (fail))
          refine wpQuiet_nil ?_
          constructor
          · intro K hK
            have BB0 : Hid (Below w3.heap.size w3 w3.drew) := (Below.refl _ _).drew
            have RD0 := Lib.hid (show _ ∧ _ from ⟨Reads.below RT.out.1 BB0.out (Nat.le_refl _), Reads.below RT.out.2 BB0.out (Nat.le_refl _)⟩)
            go_wp2_with fail
            obtain ⟨v1, hv1⟩ : ∃ q, q = (w3.alloc (.cells #[] 3)).drew := ⟨_, rfl⟩
            have hba : Below w3.heap.size w3.drew v1 := by rw [hv1]; exact Below.trans (b := w3) ⟨rfl, rfl, rfl, Nat.le_refl _, fun _ _ => rfl⟩ ((Below.refl w3.heap.size w3).alloc (Nat.le_refl _) _).drew
            have EE1 : Hid (OwnI 3 v1 w3.heap.size (.slice (some ⟨w3.heap.size, 0, none⟩) 0 0) []) := by rw [hv1]; exact emptyRow _ _ _ _ rfl BB0.out.size
            have BB1 : Hid (Below w3.heap.size w3 v1) := BB0.out.trans (hba.mono BB0.out.size)
            rw [← hv1]
            refine hK _ _ trivial ?_
            clear hK K hv1 hba
            have RD1 := Lib.hid (show _ ∧ _ from ⟨Reads.below RT.out.1 BB1.out (Nat.le_refl _), Reads.below RT.out.2 BB1.out (Nat.le_refl _)⟩)
            repeat (go_big_quiet_step (fail))
            refine wpQuiet_nil ?_
            constructor
            · intro K hK
              go_wp2_with (at_builtin; refine wpList_appAll v1 rfl (.tmp 19) (.tmp 22) 29 rfl w3.heap.size 3 Tryz.underlying29 sll.infoInt _ [] tk rfl EE1.out _ rfl RD1.out.1 (by have := HTD.out; simp; omega) BB1.out.size ?_)
              intro vv v2 ho hg hge
              try rw [List.nil_append] at ho
              have hba : Below w3.heap.size v1 v2 := below_of_grown hg BB1.out.size (fun q hq => (World.ownsRow.lt EE1.out q hq).1)
              have BB2 : Hid (Below w3.heap.size w3 v2) := BB1.out.trans hba
              have VV2 := Lib.hid ho
              clear ho hg hba hge
              refine hK _ _ trivial ?_
              clear hK K
              have RD2 := Lib.hid (show _ ∧ _ from ⟨Reads.below RT.out.1 BB2.out (Nat.le_refl _), Reads.below RT.out.2 BB2.out (Nat.le_refl _)⟩)
              repeat (go_big_quiet_step (fail))
              refine wpQuiet_nil ?_
              intro K hK
              go_wp2_with fail
              obtain ⟨v3, hv3⟩ : ∃ q, q = v2.alloc (.cells #[.int .i64 ii] 3) := ⟨_, rfl⟩
              have hba : Below v2.heap.size v2 v3 := by rw [hv3]; exact (Below.refl _ _).alloc (Nat.le_refl _) _
              have VV3 := Lib.hid (VV2.out.below hba (Nat.le_refl _))
              have CC3 : Hid (v3.cell? ⟨v2.heap.size, 0, none⟩ = some (.int .i64 ii)) := by rw [hv3]; simp [Hid]
              have BB3 : Hid (Below w3.heap.size w3 v3) := BB2.out.trans (hba.mono BB2.out.size)
              rw [← hv3]
              refine hK _ _ trivial ?_
              clear hK K hv3 hba
              have RD3 := Lib.hid (show _ ∧ _ from ⟨Reads.below RT.out.1 BB3.out (Nat.le_refl _), Reads.below RT.out.2 BB3.out (Nat.le_refl _)⟩)
              repeat (go_big_quiet_step (fail))
              refine wpQuiet_nil ?_
              intro K hK
              go_wp2_with (at_builtin; refine wpList_appL v3 rfl (.tmp 23) (.tmp 25) 29 rfl w3.heap.size 3 Tryz.underlying29 sll.infoInt _ tk rfl VV3.out (v2.heap.size) ii rfl CC3.out (by have := HTD.out; simp; omega) BB3.out.size ?_)
              intro gq cq v4 ho hgr
              have hg := hgr.grown
              have hba : Below w3.heap.size v3 v4 := below_of_grown hg BB3.out.size (fun q hq => (World.ownsRow.lt VV3.out q hq).1)
              have BB4 : Hid (Below w3.heap.size w3 v4) := BB3.out.trans hba
              have VV4 := Lib.hid ho
              clear ho hg hba hgr
              refine hK _ _ trivial ?_
              clear hK K
              have RD4 := Lib.hid (show _ ∧ _ from ⟨Reads.below RT.out.1 BB4.out (Nat.le_refl _), Reads.below RT.out.2 BB4.out (Nat.le_refl _)⟩)
              repeat (go_big_quiet_step (fail))
              refine wpQuiet_nil ?_
              intro K hK
              go_wp2_with (at_builtin; refine wpList_appAll v4 rfl (.tmp 26) (.tmp 29) 29 rfl w3.heap.size 3 Tryz.underlying29 sll.infoInt _ (tk ++ [ii]) dk rfl VV4.out _ rfl RD4.out.2 (by have := HTD.out; simp; omega) BB4.out.size ?_)
              intro vv v5 ho hg hge
              have hba : Below w3.heap.size v4 v5 := below_of_grown hg BB4.out.size (fun q hq => (World.ownsRow.lt VV4.out q hq).1)
              have BB5 : Hid (Below w3.heap.size w3 v5) := BB4.out.trans hba
              have VV5 := Lib.hid ho
              clear ho hg hba hge
              refine hK _ _ trivial ?_
              clear hK K
              have RD5 := Lib.hid (show _ ∧ _ from ⟨Reads.below RT.out.1 BB5.out (Nat.le_refl _), Reads.below RT.out.2 BB5.out (Nat.le_refl _)⟩)
              repeat (go_big_quiet_step (fail))
              refine wpQuiet_nil ?_
              rcases VV5.out.shape with ⟨_, h0⟩ | ⟨gz, cz, rfl⟩
              · simp at h0
              have e : Hid (R0 = tk ++ ii :: dk) := by rw [Hid, HE.out]; simp
              have RR : Hid (OwnI 3 v5 w.heap.size (.slice (some ⟨gz, 0, none⟩) (tk ++ [ii] ++ dk).length cz) R0 ∧ Rd v5 R ao len cap0 p3 ∧ w.grownBy v5 (some R)) := by
                have ho' := VV5.out
                have hb' := BB5.out
                refine ⟨?_, rd_below HW3.out.2.1 hb' HW3.out.2.2.2, grown_trans HW3.out.2.2.1 (grown_of_below hb')⟩
                rw [e.out]
                exact (by simpa using ho'.mono HW3.out.1)
              go_wp2
              go_roundw
              case rel => exact ⟨ii + 1, R0, p3, gz, cz, by go_num, (by rw [e.out]; try simp), by omega, by omega, by have := HRL.out; omega, HRB.out, by have h := RR.out.1; simpa using h, RR.out.2.1, by omega, RR.out.2.2⟩
              case measure => simp [intOf]; omega
            · intro K hK
              go_wp2_with fail
              obtain ⟨v2, hv2⟩ : ∃ q, q = v1.alloc (.cells #[.int .i64 ii] 3) := ⟨_, rfl⟩
              have hba : Below v1.heap.size v1 v2 := by rw [hv2]; exact (Below.refl _ _).alloc (Nat.le_refl _) _
              have EE2 := Lib.hid (EE1.out.below hba (Nat.le_refl _))
              have CC2 : Hid (v2.cell? ⟨v1.heap.size, 0, none⟩ = some (.int .i64 ii)) := by rw [hv2]; simp [Hid]
              have HNE : Hid (v1.heap.size ≠ w3.heap.size) := Nat.ne_of_gt (EE1.out.ge.2)
              have BB2 : Hid (Below w3.heap.size w3 v2) := BB1.out.trans (hba.mono BB1.out.size)
              rw [← hv2]
              refine hK _ _ trivial ?_
              clear hK K hv2 hba
              have RD2 := Lib.hid (show _ ∧ _ from ⟨Reads.below RT.out.1 BB2.out (Nat.le_refl _), Reads.below RT.out.2 BB2.out (Nat.le_refl _)⟩)
              repeat (go_big_quiet_step (fail))
              refine wpQuiet_nil ?_
              intro K hK
              go_wp2_with (at_builtin; refine wpList_appAll v2 rfl (.tmp 19) (.tmp 22) 29 rfl w3.heap.size 3 Tryz.underlying29 sll.infoInt _ [] tk rfl EE2.out _ rfl RD2.out.1 (by have := HTD.out; simp; omega) BB2.out.size ?_)
              intro vv v3 ho hg hge
              try rw [List.nil_append] at ho
              have hba : Below w3.heap.size v2 v3 := below_of_grown hg BB2.out.size (fun q hq => (World.ownsRow.lt EE2.out q hq).1)
              have BB3 : Hid (Below w3.heap.size w3 v3) := BB2.out.trans hba
              have CC3 : Hid (v3.cell? ⟨v1.heap.size, 0, none⟩ = some (.int .i64 ii)) := hg.cell CC2.out (by have := HNE.out; simpa [Value.ownBlock] using this)
              have VV3 := Lib.hid ho
              clear ho hg hba hge
              refine hK _ _ trivial ?_
              clear hK K
              have RD3 := Lib.hid (show _ ∧ _ from ⟨Reads.below RT.out.1 BB3.out (Nat.le_refl _), Reads.below RT.out.2 BB3.out (Nat.le_refl _)⟩)
              repeat (go_big_quiet_step (fail))
              refine wpQuiet_nil ?_
              intro K hK
              go_wp2_with (at_builtin; refine wpList_appL v3 rfl (.tmp 23) (.tmp 25) 29 rfl w3.heap.size 3 Tryz.underlying29 sll.infoInt _ tk rfl VV3.out (v1.heap.size) ii rfl CC3.out (by have := HTD.out; simp; omega) BB3.out.size ?_)
              intro gq cq v4 ho hgr
              have hg := hgr.grown
              have hba : Below w3.heap.size v3 v4 := below_of_grown hg BB3.out.size (fun q hq => (World.ownsRow.lt VV3.out q hq).1)
              have BB4 : Hid (Below w3.heap.size w3 v4) := BB3.out.trans hba
              have VV4 := Lib.hid ho
              clear ho hg hba hgr
              refine hK _ _ trivial ?_
              clear hK K
              have RD4 := Lib.hid (show _ ∧ _ from ⟨Reads.below RT.out.1 BB4.out (Nat.le_refl _), Reads.below RT.out.2 BB4.out (Nat.le_refl _)⟩)
              repeat (go_big_quiet_step (fail))
              refine wpQuiet_nil ?_
              intro K hK
              go_wp2_with (at_builtin; refine wpList_appAll v4 rfl (.tmp 26) (.tmp 29) 29 rfl w3.heap.size 3 Tryz.underlying29 sll.infoInt _ (tk ++ [ii]) dk rfl VV4.out _ rfl RD4.out.2 (by have := HTD.out; simp; omega) BB4.out.size ?_)
              intro vv v5 ho hg hge
              have hba : Below w3.heap.size v4 v5 := below_of_grown hg BB4.out.size (fun q hq => (World.ownsRow.lt VV4.out q hq).1)
              have BB5 : Hid (Below w3.heap.size w3 v5) := BB4.out.trans hba
              have VV5 := Lib.hid ho
              clear ho hg hba hge
              refine hK _ _ trivial ?_
              clear hK K
              have RD5 := Lib.hid (show _ ∧ _ from ⟨Reads.below RT.out.1 BB5.out (Nat.le_refl _), Reads.below RT.out.2 BB5.out (Nat.le_refl _)⟩)
              repeat (go_big_quiet_step (fail))
              refine wpQuiet_nil ?_
              rcases VV5.out.shape with ⟨_, h0⟩ | ⟨gz, cz, rfl⟩
              · simp at h0
              have e : Hid (R0 = tk ++ ii :: dk) := by rw [Hid, HE.out]; simp
              have RR : Hid (OwnI 3 v5 w.heap.size (.slice (some ⟨gz, 0, none⟩) (tk ++ [ii] ++ dk).length cz) R0 ∧ Rd v5 R ao len cap0 p3 ∧ w.grownBy v5 (some R)) := by
                have ho' := VV5.out
                have hb' := BB5.out
                refine ⟨?_, rd_below HW3.out.2.1 hb' HW3.out.2.2.2, grown_trans HW3.out.2.2.1 (grown_of_below hb')⟩
                rw [e.out]
                exact (by simpa using ho'.mono HW3.out.1)
              go_wp2
              go_roundw
              case rel => exact ⟨ii + 1, R0, p3, gz, cz, by go_num, (by rw [e.out]; try simp), by omega, by omega, by have := HRL.out; omega, HRB.out, by have h := RR.out.1; simpa using h, RR.out.2.1, by omega, RR.out.2.2⟩
              case measure => simp [intOf]; omega
          · intro K hK
            have BB0 : Hid (Below w3.heap.size w3 w3.drew) := (Below.refl _ _).drew
            have RD0 := Lib.hid (show _ ∧ _ from ⟨Reads.below RT.out.1 BB0.out (Nat.le_refl _), Reads.below RT.out.2 BB0.out (Nat.le_refl _)⟩)
            go_wp2_with fail
            obtain ⟨v1, hv1⟩ : ∃ q, q = (w3.alloc (.cells #[.int .i64 ii] 3)).drew := ⟨_, rfl⟩
            have hba : Below w3.heap.size w3.drew v1 := by rw [hv1]; exact Below.trans (b := w3) ⟨rfl, rfl, rfl, Nat.le_refl _, fun _ _ => rfl⟩ ((Below.refl w3.heap.size w3).alloc (Nat.le_refl _) _).drew
            have CC1 : Hid (v1.cell? ⟨w3.heap.size, 0, none⟩ = some (.int .i64 ii)) := by rw [hv1]; simp [Hid]
            have BB1 : Hid (Below w3.heap.size w3 v1) := BB0.out.trans (hba.mono BB0.out.size)
            rw [← hv1]
            refine hK _ _ trivial ?_
            clear hK K hv1 hba
            have RD1 := Lib.hid (show _ ∧ _ from ⟨Reads.below RT.out.1 BB1.out (Nat.le_refl _), Reads.below RT.out.2 BB1.out (Nat.le_refl _)⟩)
            repeat (go_big_quiet_step (fail))
            refine wpQuiet_nil ?_
            intro K hK
            go_wp2_with fail
            obtain ⟨v2, hv2⟩ : ∃ q, q = v1.alloc (.cells #[] 3) := ⟨_, rfl⟩
            have hba : Below v1.heap.size v1 v2 := by rw [hv2]; exact (Below.refl _ _).alloc (Nat.le_refl _) _
            have CC2 : Hid (v2.cell? ⟨w3.heap.size, 0, none⟩ = some (.int .i64 ii)) := keepCell hba CC1.out
            have EE2 : Hid (OwnI 3 v2 w3.heap.size (.slice (some ⟨v1.heap.size, 0, none⟩) 0 0) []) := by rw [hv2]; exact emptyRow _ _ _ _ rfl BB1.out.size
            have HNE : Hid (w3.heap.size ≠ v1.heap.size) := Nat.ne_of_lt (World.block_lt_of_cell? _ _ CC1.out)
            have BB2 : Hid (Below w3.heap.size w3 v2) := BB1.out.trans (hba.mono BB1.out.size)
            rw [← hv2]
            refine hK _ _ trivial ?_
            clear hK K hv2 hba
            have RD2 := Lib.hid (show _ ∧ _ from ⟨Reads.below RT.out.1 BB2.out (Nat.le_refl _), Reads.below RT.out.2 BB2.out (Nat.le_refl _)⟩)
            repeat (go_big_quiet_step (fail))
            refine wpQuiet_nil ?_
            intro K hK
            go_wp2_with (at_builtin; refine wpList_appAll v2 rfl (.tmp 19) (.tmp 22) 29 rfl w3.heap.size 3 Tryz.underlying29 sll.infoInt _ [] tk rfl EE2.out _ rfl RD2.out.1 (by have := HTD.out; simp; omega) BB2.out.size ?_)
            intro vv v3 ho hg hge
            try rw [List.nil_append] at ho
            have hba : Below w3.heap.size v2 v3 := below_of_grown hg BB2.out.size (fun q hq => (World.ownsRow.lt EE2.out q hq).1)
            have BB3 : Hid (Below w3.heap.size w3 v3) := BB2.out.trans hba
            have CC3 : Hid (v3.cell? ⟨w3.heap.size, 0, none⟩ = some (.int .i64 ii)) := hg.cell CC2.out (by have := HNE.out; simpa [Value.ownBlock] using this)
            have VV3 := Lib.hid ho
            clear ho hg hba hge
            refine hK _ _ trivial ?_
            clear hK K
            have RD3 := Lib.hid (show _ ∧ _ from ⟨Reads.below RT.out.1 BB3.out (Nat.le_refl _), Reads.below RT.out.2 BB3.out (Nat.le_refl _)⟩)
            repeat (go_big_quiet_step (fail))
            refine wpQuiet_nil ?_
            intro K hK
            go_wp2_with (at_builtin; refine wpList_appL v3 rfl (.tmp 23) (.tmp 25) 29 rfl w3.heap.size 3 Tryz.underlying29 sll.infoInt _ tk rfl VV3.out (w3.heap.size) ii rfl CC3.out (by have := HTD.out; simp; omega) BB3.out.size ?_)
            intro gq cq v4 ho hgr
            have hg := hgr.grown
            have hba : Below w3.heap.size v3 v4 := below_of_grown hg BB3.out.size (fun q hq => (World.ownsRow.lt VV3.out q hq).1)
            have BB4 : Hid (Below w3.heap.size w3 v4) := BB3.out.trans hba
            have VV4 := Lib.hid ho
            clear ho hg hba hgr
            refine hK _ _ trivial ?_
            clear hK K
            have RD4 := Lib.hid (show _ ∧ _ from ⟨Reads.below RT.out.1 BB4.out (Nat.le_refl _), Reads.below RT.out.2 BB4.out (Nat.le_refl _)⟩)
            repeat (go_big_quiet_step (fail))
            refine wpQuiet_nil ?_
            intro K hK
            go_wp2_with (at_builtin; refine wpList_appAll v4 rfl (.tmp 26) (.tmp 29) 29 rfl w3.heap.size 3 Tryz.underlying29 sll.infoInt _ (tk ++ [ii]) dk rfl VV4.out _ rfl RD4.out.2 (by have := HTD.out; simp; omega) BB4.out.size ?_)
            intro vv v5 ho hg hge
            have hba : Below w3.heap.size v4 v5 := below_of_grown hg BB4.out.size (fun q hq => (World.ownsRow.lt VV4.out q hq).1)
            have BB5 : Hid (Below w3.heap.size w3 v5) := BB4.out.trans hba
            have VV5 := Lib.hid ho
            clear ho hg hba hge
            refine hK _ _ trivial ?_
            clear hK K
            have RD5 := Lib.hid (show _ ∧ _ from ⟨Reads.below RT.out.1 BB5.out (Nat.le_refl _), Reads.below RT.out.2 BB5.out (Nat.le_refl _)⟩)
            repeat (go_big_quiet_step (fail))
            refine wpQuiet_nil ?_
            rcases VV5.out.shape with ⟨_, h0⟩ | ⟨gz, cz, rfl⟩
            · simp at h0
            have e : Hid (R0 = tk ++ ii :: dk) := by rw [Hid, HE.out]; simp
            have RR : Hid (OwnI 3 v5 w.heap.size (.slice (some ⟨gz, 0, none⟩) (tk ++ [ii] ++ dk).length cz) R0 ∧ Rd v5 R ao len cap0 p3 ∧ w.grownBy v5 (some R)) := by
              have ho' := VV5.out
              have hb' := BB5.out
              refine ⟨?_, rd_below HW3.out.2.1 hb' HW3.out.2.2.2, grown_trans HW3.out.2.2.1 (grown_of_below hb')⟩
              rw [e.out]
              exact (by simpa using ho'.mono HW3.out.1)
            go_wp2
            go_roundw
            case rel => exact ⟨ii + 1, R0, p3, gz, cz, by go_num, (by rw [e.out]; try simp), by omega, by omega, by have := HRL.out; omega, HRB.out, by have h := RR.out.1; simpa using h, RR.out.2.1, by omega, RR.out.2.2⟩
            case measure => simp [intOf]; omega

      · obtain ⟨k', rfl⟩ : ∃ k', k = k' + 1 := ⟨k - 1, by omega⟩
        by_cases hkc : k' + 1 < cap
        · go_wp2_with fail
          go_wp2_with fail
          refine tree (S := fun _ => True) (Tr.two [false, true, true, true, false, true, false, false, true, true, true] 0 (Tr.two [] 4 (Tr.one [] 6 (Tr.one [] 7 (Tr.one [] 11 (Tr.leaf [false, false, false, false, false, false, false, false, false, false, false, false, true])))) 6 (Tr.one [] 4 (Tr.one [] 7 (Tr.one [] 11 (Tr.leaf [false, false, false, false, false, false, false, false, false, false, false, false, true]))))) 6 (Tr.one [] 0 (Tr.one [] 4 (Tr.one [] 7 (Tr.one [] 11 (Tr.leaf [false, false, false, false, false, false, false, false, false, false, false, false, true])))))) (by kernel_rfl) (by kernel_rfl) (by kernel_rfl) trivial ?_
          simp only [wpTr, pickB, List.toList_toArray, List.getElem?_toArray, List.getElem?_cons_succ, List.getElem?_cons_zero, Option.toList_some]
          have hne : Nonempty (Wd (fun _ : World => True)) := ⟨⟨w3, trivial⟩⟩
          repeat (go_big_quiet_step (fail))
          refine wpQuiet_nil ?_
          constructor
          · intro K hK
            have BB0 : Hid (Below w3.heap.size w3 w3.drew) := (Below.refl _ _).drew
            have RD0 := Lib.hid (show _ ∧ _ from ⟨Reads.below RT.out.1 BB0.out (Nat.le_refl _), Reads.below RT.out.2 BB0.out (Nat.le_refl _)⟩)
            go_wp2_with fail
            obtain ⟨v1, hv1⟩ : ∃ q, q = (w3.alloc (.cells #[] 3)).drew := ⟨_, rfl⟩
            have hba : Below w3.heap.size w3.drew v1 := by rw [hv1]; exact Below.trans (b := w3) ⟨rfl, rfl, rfl, Nat.le_refl _, fun _ _ => rfl⟩ ((Below.refl w3.heap.size w3).alloc (Nat.le_refl _) _).drew
            have EE1 : Hid (OwnI 3 v1 w3.heap.size (.slice (some ⟨w3.heap.size, 0, none⟩) 0 0) []) := by rw [hv1]; exact emptyRow _ _ _ _ rfl BB0.out.size
            have BB1 : Hid (Below w3.heap.size w3 v1) := BB0.out.trans (hba.mono BB0.out.size)
            rw [← hv1]
            refine hK _ _ trivial ?_
            clear hK K hv1 hba
            have RD1 := Lib.hid (show _ ∧ _ from ⟨Reads.below RT.out.1 BB1.out (Nat.le_refl _), Reads.below RT.out.2 BB1.out (Nat.le_refl _)⟩)
            repeat (go_big_quiet_step (fail))
            refine wpQuiet_nil ?_
            constructor
            · intro K hK
              go_wp2_with (at_builtin; refine wpList_appAll v1 rfl (.tmp 19) (.tmp 22) 29 rfl w3.heap.size 3 Tryz.underlying29 sll.infoInt _ [] tk rfl EE1.out _ rfl RD1.out.1 (by have := HTD.out; simp; omega) BB1.out.size ?_)
              intro vv v2 ho hg hge
              try rw [List.nil_append] at ho
              have hba : Below w3.heap.size v1 v2 := below_of_grown hg BB1.out.size (fun q hq => (World.ownsRow.lt EE1.out q hq).1)
              have BB2 : Hid (Below w3.heap.size w3 v2) := BB1.out.trans hba
              have VV2 := Lib.hid ho
              clear ho hg hba hge
              refine hK _ _ trivial ?_
              clear hK K
              have RD2 := Lib.hid (show _ ∧ _ from ⟨Reads.below RT.out.1 BB2.out (Nat.le_refl _), Reads.below RT.out.2 BB2.out (Nat.le_refl _)⟩)
              repeat (go_big_quiet_step (fail))
              refine wpQuiet_nil ?_
              intro K hK
              go_wp2_with fail
              obtain ⟨v3, hv3⟩ : ∃ q, q = v2.alloc (.cells #[.int .i64 ii] 3) := ⟨_, rfl⟩
              have hba : Below v2.heap.size v2 v3 := by rw [hv3]; exact (Below.refl _ _).alloc (Nat.le_refl _) _
              have VV3 := Lib.hid (VV2.out.below hba (Nat.le_refl _))
              have CC3 : Hid (v3.cell? ⟨v2.heap.size, 0, none⟩ = some (.int .i64 ii)) := by rw [hv3]; simp [Hid]
              have BB3 : Hid (Below w3.heap.size w3 v3) := BB2.out.trans (hba.mono BB2.out.size)
              rw [← hv3]
              refine hK _ _ trivial ?_
              clear hK K hv3 hba
              have RD3 := Lib.hid (show _ ∧ _ from ⟨Reads.below RT.out.1 BB3.out (Nat.le_refl _), Reads.below RT.out.2 BB3.out (Nat.le_refl _)⟩)
              repeat (go_big_quiet_step (fail))
              refine wpQuiet_nil ?_
              intro K hK
              go_wp2_with (at_builtin; refine wpList_appL v3 rfl (.tmp 23) (.tmp 25) 29 rfl w3.heap.size 3 Tryz.underlying29 sll.infoInt _ tk rfl VV3.out (v2.heap.size) ii rfl CC3.out (by have := HTD.out; simp; omega) BB3.out.size ?_)
              intro gq cq v4 ho hgr
              have hg := hgr.grown
              have hba : Below w3.heap.size v3 v4 := below_of_grown hg BB3.out.size (fun q hq => (World.ownsRow.lt VV3.out q hq).1)
              have BB4 : Hid (Below w3.heap.size w3 v4) := BB3.out.trans hba
              have VV4 := Lib.hid ho
              clear ho hg hba hgr
              refine hK _ _ trivial ?_
              clear hK K
              have RD4 := Lib.hid (show _ ∧ _ from ⟨Reads.below RT.out.1 BB4.out (Nat.le_refl _), Reads.below RT.out.2 BB4.out (Nat.le_refl _)⟩)
              repeat (go_big_quiet_step (fail))
              refine wpQuiet_nil ?_
              intro K hK
              go_wp2_with (at_builtin; refine wpList_appAll v4 rfl (.tmp 26) (.tmp 29) 29 rfl w3.heap.size 3 Tryz.underlying29 sll.infoInt _ (tk ++ [ii]) dk rfl VV4.out _ rfl RD4.out.2 (by have := HTD.out; simp; omega) BB4.out.size ?_)
              intro vv v5 ho hg hge
              have hba : Below w3.heap.size v4 v5 := below_of_grown hg BB4.out.size (fun q hq => (World.ownsRow.lt VV4.out q hq).1)
              have BB5 : Hid (Below w3.heap.size w3 v5) := BB4.out.trans hba
              have VV5 := Lib.hid ho
              clear ho hg hba hge
              refine hK _ _ trivial ?_
              clear hK K
              have RD5 := Lib.hid (show _ ∧ _ from ⟨Reads.below RT.out.1 BB5.out (Nat.le_refl _), Reads.below RT.out.2 BB5.out (Nat.le_refl _)⟩)
              repeat (go_big_quiet_step (fail))
              refine wpQuiet_nil ?_
              rcases VV5.out.shape with ⟨_, h0⟩ | ⟨gz, cz, rfl⟩
              · simp at h0
              have e : Hid (R0 = tk ++ ii :: dk) := by rw [Hid, HE.out]; simp
              have RR : Hid (OwnI 3 v5 w.heap.size (.slice (some ⟨gz, 0, none⟩) (tk ++ [ii] ++ dk).length cz) R0 ∧ Rd v5 R ao len cap0 p3 ∧ w.grownBy v5 (some R)) := by
                have ho' := VV5.out
                have hb' := BB5.out
                refine ⟨?_, rd_below HW3.out.2.1 hb' HW3.out.2.2.2, grown_trans HW3.out.2.2.1 (grown_of_below hb')⟩
                rw [e.out]
                exact (by simpa using ho'.mono HW3.out.1)
              go_wp2
              go_roundw
              case rel => exact ⟨ii + 1, R0, p3, gz, cz, by go_num, (by rw [e.out]; try simp), by omega, by omega, by have := HRL.out; omega, HRB.out, by have h := RR.out.1; simpa using h, RR.out.2.1, by omega, RR.out.2.2⟩
              case measure => simp [intOf]; omega
            · intro K hK
              go_wp2_with fail
              obtain ⟨v2, hv2⟩ : ∃ q, q = v1.alloc (.cells #[.int .i64 ii] 3) := ⟨_, rfl⟩
              have hba : Below v1.heap.size v1 v2 := by rw [hv2]; exact (Below.refl _ _).alloc (Nat.le_refl _) _
              have EE2 := Lib.hid (EE1.out.below hba (Nat.le_refl _))
              have CC2 : Hid (v2.cell? ⟨v1.heap.size, 0, none⟩ = some (.int .i64 ii)) := by rw [hv2]; simp [Hid]
              have HNE : Hid (v1.heap.size ≠ w3.heap.size) := Nat.ne_of_gt (EE1.out.ge.2)
              have BB2 : Hid (Below w3.heap.size w3 v2) := BB1.out.trans (hba.mono BB1.out.size)
              rw [← hv2]
              refine hK _ _ trivial ?_
              clear hK K hv2 hba
              have RD2 := Lib.hid (show _ ∧ _ from ⟨Reads.below RT.out.1 BB2.out (Nat.le_refl _), Reads.below RT.out.2 BB2.out (Nat.le_refl _)⟩)
              repeat (go_big_quiet_step (fail))
              refine wpQuiet_nil ?_
              intro K hK
              go_wp2_with (at_builtin; refine wpList_appAll v2 rfl (.tmp 19) (.tmp 22) 29 rfl w3.heap.size 3 Tryz.underlying29 sll.infoInt _ [] tk rfl EE2.out _ rfl RD2.out.1 (by have := HTD.out; simp; omega) BB2.out.size ?_)
              intro vv v3 ho hg hge
              try rw [List.nil_append] at ho
              have hba : Below w3.heap.size v2 v3 := below_of_grown hg BB2.out.size (fun q hq => (World.ownsRow.lt EE2.out q hq).1)
              have BB3 : Hid (Below w3.heap.size w3 v3) := BB2.out.trans hba
              have CC3 : Hid (v3.cell? ⟨v1.heap.size, 0, none⟩ = some (.int .i64 ii)) := hg.cell CC2.out (by have := HNE.out; simpa [Value.ownBlock] using this)
              have VV3 := Lib.hid ho
              clear ho hg hba hge
              refine hK _ _ trivial ?_
              clear hK K
              have RD3 := Lib.hid (show _ ∧ _ from ⟨Reads.below RT.out.1 BB3.out (Nat.le_refl _), Reads.below RT.out.2 BB3.out (Nat.le_refl _)⟩)
              repeat (go_big_quiet_step (fail))
              refine wpQuiet_nil ?_
              intro K hK
              go_wp2_with (at_builtin; refine wpList_appL v3 rfl (.tmp 23) (.tmp 25) 29 rfl w3.heap.size 3 Tryz.underlying29 sll.infoInt _ tk rfl VV3.out (v1.heap.size) ii rfl CC3.out (by have := HTD.out; simp; omega) BB3.out.size ?_)
              intro gq cq v4 ho hgr
              have hg := hgr.grown
              have hba : Below w3.heap.size v3 v4 := below_of_grown hg BB3.out.size (fun q hq => (World.ownsRow.lt VV3.out q hq).1)
              have BB4 : Hid (Below w3.heap.size w3 v4) := BB3.out.trans hba
              have VV4 := Lib.hid ho
              clear ho hg hba hgr
              refine hK _ _ trivial ?_
              clear hK K
              have RD4 := Lib.hid (show _ ∧ _ from ⟨Reads.below RT.out.1 BB4.out (Nat.le_refl _), Reads.below RT.out.2 BB4.out (Nat.le_refl _)⟩)
              repeat (go_big_quiet_step (fail))
              refine wpQuiet_nil ?_
              intro K hK
              go_wp2_with (at_builtin; refine wpList_appAll v4 rfl (.tmp 26) (.tmp 29) 29 rfl w3.heap.size 3 Tryz.underlying29 sll.infoInt _ (tk ++ [ii]) dk rfl VV4.out _ rfl RD4.out.2 (by have := HTD.out; simp; omega) BB4.out.size ?_)
              intro vv v5 ho hg hge
              have hba : Below w3.heap.size v4 v5 := below_of_grown hg BB4.out.size (fun q hq => (World.ownsRow.lt VV4.out q hq).1)
              have BB5 : Hid (Below w3.heap.size w3 v5) := BB4.out.trans hba
              have VV5 := Lib.hid ho
              clear ho hg hba hge
              refine hK _ _ trivial ?_
              clear hK K
              have RD5 := Lib.hid (show _ ∧ _ from ⟨Reads.below RT.out.1 BB5.out (Nat.le_refl _), Reads.below RT.out.2 BB5.out (Nat.le_refl _)⟩)
              repeat (go_big_quiet_step (fail))
              refine wpQuiet_nil ?_
              rcases VV5.out.shape with ⟨_, h0⟩ | ⟨gz, cz, rfl⟩
              · simp at h0
              have e : Hid (R0 = tk ++ ii :: dk) := by rw [Hid, HE.out]; simp
              have RR : Hid (OwnI 3 v5 w.heap.size (.slice (some ⟨gz, 0, none⟩) (tk ++ [ii] ++ dk).length cz) R0 ∧ Rd v5 R ao len cap0 p3 ∧ w.grownBy v5 (some R)) := by
                have ho' := VV5.out
                have hb' := BB5.out
                refine ⟨?_, rd_below HW3.out.2.1 hb' HW3.out.2.2.2, grown_trans HW3.out.2.2.1 (grown_of_below hb')⟩
                rw [e.out]
                exact (by simpa using ho'.mono HW3.out.1)
              go_wp2
              go_roundw
              case rel => exact ⟨ii + 1, R0, p3, gz, cz, by go_num, (by rw [e.out]; try simp), by omega, by omega, by have := HRL.out; omega, HRB.out, by have h := RR.out.1; simpa using h, RR.out.2.1, by omega, RR.out.2.2⟩
              case measure => simp [intOf]; omega
          · intro K hK
            have BB0 : Hid (Below w3.heap.size w3 w3.drew) := (Below.refl _ _).drew
            have RD0 := Lib.hid (show _ ∧ _ from ⟨Reads.below RT.out.1 BB0.out (Nat.le_refl _), Reads.below RT.out.2 BB0.out (Nat.le_refl _)⟩)
            go_wp2_with fail
            obtain ⟨v1, hv1⟩ : ∃ q, q = (w3.alloc (.cells #[.int .i64 ii] 3)).drew := ⟨_, rfl⟩
            have hba : Below w3.heap.size w3.drew v1 := by rw [hv1]; exact Below.trans (b := w3) ⟨rfl, rfl, rfl, Nat.le_refl _, fun _ _ => rfl⟩ ((Below.refl w3.heap.size w3).alloc (Nat.le_refl _) _).drew
            have CC1 : Hid (v1.cell? ⟨w3.heap.size, 0, none⟩ = some (.int .i64 ii)) := by rw [hv1]; simp [Hid]
            have BB1 : Hid (Below w3.heap.size w3 v1) := BB0.out.trans (hba.mono BB0.out.size)
            rw [← hv1]
            refine hK _ _ trivial ?_
            clear hK K hv1 hba
            have RD1 := Lib.hid (show _ ∧ _ from ⟨Reads.below RT.out.1 BB1.out (Nat.le_refl _), Reads.below RT.out.2 BB1.out (Nat.le_refl _)⟩)
            repeat (go_big_quiet_step (fail))
            refine wpQuiet_nil ?_
            intro K hK
            go_wp2_with fail
            obtain ⟨v2, hv2⟩ : ∃ q, q = v1.alloc (.cells #[] 3) := ⟨_, rfl⟩
            have hba : Below v1.heap.size v1 v2 := by rw [hv2]; exact (Below.refl _ _).alloc (Nat.le_refl _) _
            have CC2 : Hid (v2.cell? ⟨w3.heap.size, 0, none⟩ = some (.int .i64 ii)) := keepCell hba CC1.out
            have EE2 : Hid (OwnI 3 v2 w3.heap.size (.slice (some ⟨v1.heap.size, 0, none⟩) 0 0) []) := by rw [hv2]; exact emptyRow _ _ _ _ rfl BB1.out.size
            have HNE : Hid (w3.heap.size ≠ v1.heap.size) := Nat.ne_of_lt (World.block_lt_of_cell? _ _ CC1.out)
            have BB2 : Hid (Below w3.heap.size w3 v2) := BB1.out.trans (hba.mono BB1.out.size)
            rw [← hv2]
            refine hK _ _ trivial ?_
            clear hK K hv2 hba
            have RD2 := Lib.hid (show _ ∧ _ from ⟨Reads.below RT.out.1 BB2.out (Nat.le_refl _), Reads.below RT.out.2 BB2.out (Nat.le_refl _)⟩)
            repeat (go_big_quiet_step (fail))
            refine wpQuiet_nil ?_
            intro K hK
            go_wp2_with (at_builtin; refine wpList_appAll v2 rfl (.tmp 19) (.tmp 22) 29 rfl w3.heap.size 3 Tryz.underlying29 sll.infoInt _ [] tk rfl EE2.out _ rfl RD2.out.1 (by have := HTD.out; simp; omega) BB2.out.size ?_)
            intro vv v3 ho hg hge
            try rw [List.nil_append] at ho
            have hba : Below w3.heap.size v2 v3 := below_of_grown hg BB2.out.size (fun q hq => (World.ownsRow.lt EE2.out q hq).1)
            have BB3 : Hid (Below w3.heap.size w3 v3) := BB2.out.trans hba
            have CC3 : Hid (v3.cell? ⟨w3.heap.size, 0, none⟩ = some (.int .i64 ii)) := hg.cell CC2.out (by have := HNE.out; simpa [Value.ownBlock] using this)
            have VV3 := Lib.hid ho
            clear ho hg hba hge
            refine hK _ _ trivial ?_
            clear hK K
            have RD3 := Lib.hid (show _ ∧ _ from ⟨Reads.below RT.out.1 BB3.out (Nat.le_refl _), Reads.below RT.out.2 BB3.out (Nat.le_refl _)⟩)
            repeat (go_big_quiet_step (fail))
            refine wpQuiet_nil ?_
            intro K hK
            go_wp2_with (at_builtin; refine wpList_appL v3 rfl (.tmp 23) (.tmp 25) 29 rfl w3.heap.size 3 Tryz.underlying29 sll.infoInt _ tk rfl VV3.out (w3.heap.size) ii rfl CC3.out (by have := HTD.out; simp; omega) BB3.out.size ?_)
            intro gq cq v4 ho hgr
            have hg := hgr.grown
            have hba : Below w3.heap.size v3 v4 := below_of_grown hg BB3.out.size (fun q hq => (World.ownsRow.lt VV3.out q hq).1)
            have BB4 : Hid (Below w3.heap.size w3 v4) := BB3.out.trans hba
            have VV4 := Lib.hid ho
            clear ho hg hba hgr
            refine hK _ _ trivial ?_
            clear hK K
            have RD4 := Lib.hid (show _ ∧ _ from ⟨Reads.below RT.out.1 BB4.out (Nat.le_refl _), Reads.below RT.out.2 BB4.out (Nat.le_refl _)⟩)
            repeat (go_big_quiet_step (fail))
            refine wpQuiet_nil ?_
            intro K hK
            go_wp2_with (at_builtin; refine wpList_appAll v4 rfl (.tmp 26) (.tmp 29) 29 rfl w3.heap.size 3 Tryz.underlying29 sll.infoInt _ (tk ++ [ii]) dk rfl VV4.out _ rfl RD4.out.2 (by have := HTD.out; simp; omega) BB4.out.size ?_)
            intro vv v5 ho hg hge
            have hba : Below w3.heap.size v4 v5 := below_of_grown hg BB4.out.size (fun q hq => (World.ownsRow.lt VV4.out q hq).1)
            have BB5 : Hid (Below w3.heap.size w3 v5) := BB4.out.trans hba
            have VV5 := Lib.hid ho
            clear ho hg hba hge
            refine hK _ _ trivial ?_
            clear hK K
            have RD5 := Lib.hid (show _ ∧ _ from ⟨Reads.below RT.out.1 BB5.out (Nat.le_refl _), Reads.below RT.out.2 BB5.out (Nat.le_refl _)⟩)
            repeat (go_big_quiet_step (fail))
            refine wpQuiet_nil ?_
            rcases VV5.out.shape with ⟨_, h0⟩ | ⟨gz, cz, rfl⟩
            · simp at h0
            have e : Hid (R0 = tk ++ ii :: dk) := by rw [Hid, HE.out]; simp
            have RR : Hid (OwnI 3 v5 w.heap.size (.slice (some ⟨gz, 0, none⟩) (tk ++ [ii] ++ dk).length cz) R0 ∧ Rd v5 R ao len cap0 p3 ∧ w.grownBy v5 (some R)) := by
              have ho' := VV5.out
              have hb' := BB5.out
              refine ⟨?_, rd_below HW3.out.2.1 hb' HW3.out.2.2.2, grown_trans HW3.out.2.2.1 (grown_of_below hb')⟩
              rw [e.out]
              exact (by simpa using ho'.mono HW3.out.1)
            go_wp2
            go_roundw
            case rel => exact ⟨ii + 1, R0, p3, gz, cz, by go_num, (by rw [e.out]; try simp), by omega, by omega, by have := HRL.out; omega, HRB.out, by have h := RR.out.1; simpa using h, RR.out.2.1, by omega, RR.out.2.2⟩
            case measure => simp [intOf]; omega

        · have hkc2 : cap = k' + 1 := by omega
          have hkm2 : m = k' + 1 := by omega
          subst hkc2
          subst hkm2
          have hdk0 : dk = [] := List.length_eq_zero_iff.1 (by have := HTD.out.2; omega)
          have RT2 : Hid (Reads w3 (.slice (some ⟨g, 0, none⟩) (k' + 1) (k' + 1)) tk ∧ Reads w3 (.slice (some ⟨g, 0, none⟩) 0 0) dk) := ⟨by have h := RT.out.1; exact h, by rw [hdk0]; exact ⟨some ⟨g, 0, none⟩, 0, rfl, .inl rfl, fun h => by cases h⟩⟩
          clear RT hdk0
          have RT := RT2
          clear RT2
          go_wp2_with fail
          go_wp2_with fail
          refine tree (S := fun _ => True) (Tr.two [false, true, true, true, false, true, false, false, true, true, true] 0 (Tr.two [] 4 (Tr.one [] 6 (Tr.one [] 7 (Tr.one [] 11 (Tr.leaf [false, false, false, false, false, false, false, false, false, false, false, false, true])))) 6 (Tr.one [] 4 (Tr.one [] 7 (Tr.one [] 11 (Tr.leaf [false, false, false, false, false, false, false, false, false, false, false, false, true]))))) 6 (Tr.one [] 0 (Tr.one [] 4 (Tr.one [] 7 (Tr.one [] 11 (Tr.leaf [false, false, false, false, false, false, false, false, false, false, false, false, true])))))) (by kernel_rfl) (by kernel_rfl) (by kernel_rfl) trivial ?_
          simp only [wpTr, pickB, List.toList_toArray, List.getElem?_toArray, List.getElem?_cons_succ, List.getElem?_cons_zero, Option.toList_some]
          have hne : Nonempty (Wd (fun _ : World => True)) := ⟨⟨w3, trivial⟩⟩
          repeat (go_big_quiet_step (fail))
          refine wpQuiet_nil ?_
          constructor
          · intro K hK
            have BB0 : Hid (Below w3.heap.size w3 w3.drew) := (Below.refl _ _).drew
            have RD0 := Lib.hid (show _ ∧ _ from ⟨Reads.below RT.out.1 BB0.out (Nat.le_refl _), Reads.below RT.out.2 BB0.out (Nat.le_refl _)⟩)
            go_wp2_with fail
            obtain ⟨v1, hv1⟩ : ∃ q, q = (w3.alloc (.cells #[] 3)).drew := ⟨_, rfl⟩
            have hba : Below w3.heap.size w3.drew v1 := by rw [hv1]; exact Below.trans (b := w3) ⟨rfl, rfl, rfl, Nat.le_refl _, fun _ _ => rfl⟩ ((Below.refl w3.heap.size w3).alloc (Nat.le_refl _) _).drew
            have EE1 : Hid (OwnI 3 v1 w3.heap.size (.slice (some ⟨w3.heap.size, 0, none⟩) 0 0) []) := by rw [hv1]; exact emptyRow _ _ _ _ rfl BB0.out.size
            have BB1 : Hid (Below w3.heap.size w3 v1) := BB0.out.trans (hba.mono BB0.out.size)
            rw [← hv1]
            refine hK _ _ trivial ?_
            clear hK K hv1 hba
            have RD1 := Lib.hid (show _ ∧ _ from ⟨Reads.below RT.out.1 BB1.out (Nat.le_refl _), Reads.below RT.out.2 BB1.out (Nat.le_refl _)⟩)
            repeat (go_big_quiet_step (fail))
            refine wpQuiet_nil ?_
            constructor
            · intro K hK
              go_wp2_with (at_builtin; refine wpList_appAll v1 rfl (.tmp 19) (.tmp 22) 29 rfl w3.heap.size 3 Tryz.underlying29 sll.infoInt _ [] tk rfl EE1.out _ rfl RD1.out.1 (by have := HTD.out; simp; omega) BB1.out.size ?_)
              intro vv v2 ho hg hge
              try rw [List.nil_append] at ho
              have hba : Below w3.heap.size v1 v2 := below_of_grown hg BB1.out.size (fun q hq => (World.ownsRow.lt EE1.out q hq).1)
              have BB2 : Hid (Below w3.heap.size w3 v2) := BB1.out.trans hba
              have VV2 := Lib.hid ho
              clear ho hg hba hge
              refine hK _ _ trivial ?_
              clear hK K
              have RD2 := Lib.hid (show _ ∧ _ from ⟨Reads.below RT.out.1 BB2.out (Nat.le_refl _), Reads.below RT.out.2 BB2.out (Nat.le_refl _)⟩)
              repeat (go_big_quiet_step (fail))
              refine wpQuiet_nil ?_
              intro K hK
              go_wp2_with fail
              obtain ⟨v3, hv3⟩ : ∃ q, q = v2.alloc (.cells #[.int .i64 ii] 3) := ⟨_, rfl⟩
              have hba : Below v2.heap.size v2 v3 := by rw [hv3]; exact (Below.refl _ _).alloc (Nat.le_refl _) _
              have VV3 := Lib.hid (VV2.out.below hba (Nat.le_refl _))
              have CC3 : Hid (v3.cell? ⟨v2.heap.size, 0, none⟩ = some (.int .i64 ii)) := by rw [hv3]; simp [Hid]
              have BB3 : Hid (Below w3.heap.size w3 v3) := BB2.out.trans (hba.mono BB2.out.size)
              rw [← hv3]
              refine hK _ _ trivial ?_
              clear hK K hv3 hba
              have RD3 := Lib.hid (show _ ∧ _ from ⟨Reads.below RT.out.1 BB3.out (Nat.le_refl _), Reads.below RT.out.2 BB3.out (Nat.le_refl _)⟩)
              repeat (go_big_quiet_step (fail))
              refine wpQuiet_nil ?_
              intro K hK
              go_wp2_with (at_builtin; refine wpList_appL v3 rfl (.tmp 23) (.tmp 25) 29 rfl w3.heap.size 3 Tryz.underlying29 sll.infoInt _ tk rfl VV3.out (v2.heap.size) ii rfl CC3.out (by have := HTD.out; simp; omega) BB3.out.size ?_)
              intro gq cq v4 ho hgr
              have hg := hgr.grown
              have hba : Below w3.heap.size v3 v4 := below_of_grown hg BB3.out.size (fun q hq => (World.ownsRow.lt VV3.out q hq).1)
              have BB4 : Hid (Below w3.heap.size w3 v4) := BB3.out.trans hba
              have VV4 := Lib.hid ho
              clear ho hg hba hgr
              refine hK _ _ trivial ?_
              clear hK K
              have RD4 := Lib.hid (show _ ∧ _ from ⟨Reads.below RT.out.1 BB4.out (Nat.le_refl _), Reads.below RT.out.2 BB4.out (Nat.le_refl _)⟩)
              repeat (go_big_quiet_step (fail))
              refine wpQuiet_nil ?_
              intro K hK
              go_wp2_with (at_builtin; refine wpList_appAll v4 rfl (.tmp 26) (.tmp 29) 29 rfl w3.heap.size 3 Tryz.underlying29 sll.infoInt _ (tk ++ [ii]) dk rfl VV4.out _ rfl RD4.out.2 (by have := HTD.out; simp; omega) BB4.out.size ?_)
              intro vv v5 ho hg hge
              have hba : Below w3.heap.size v4 v5 := below_of_grown hg BB4.out.size (fun q hq => (World.ownsRow.lt VV4.out q hq).1)
              have BB5 : Hid (Below w3.heap.size w3 v5) := BB4.out.trans hba
              have VV5 := Lib.hid ho
              clear ho hg hba hge
              refine hK _ _ trivial ?_
              clear hK K
              have RD5 := Lib.hid (show _ ∧ _ from ⟨Reads.below RT.out.1 BB5.out (Nat.le_refl _), Reads.below RT.out.2 BB5.out (Nat.le_refl _)⟩)
              repeat (go_big_quiet_step (fail))
              refine wpQuiet_nil ?_
              rcases VV5.out.shape with ⟨_, h0⟩ | ⟨gz, cz, rfl⟩
              · simp at h0
              have e : Hid (R0 = tk ++ ii :: dk) := by rw [Hid, HE.out]; simp
              have RR : Hid (OwnI 3 v5 w.heap.size (.slice (some ⟨gz, 0, none⟩) (tk ++ [ii] ++ dk).length cz) R0 ∧ Rd v5 R ao len cap0 p3 ∧ w.grownBy v5 (some R)) := by
                have ho' := VV5.out
                have hb' := BB5.out
                refine ⟨?_, rd_below HW3.out.2.1 hb' HW3.out.2.2.2, grown_trans HW3.out.2.2.1 (grown_of_below hb')⟩
                rw [e.out]
                exact (by simpa using ho'.mono HW3.out.1)
              go_wp2
              go_roundw
              case rel => exact ⟨ii + 1, R0, p3, gz, cz, by go_num, (by rw [e.out]; try simp), by omega, by omega, by have := HRL.out; omega, HRB.out, by have h := RR.out.1; simpa using h, RR.out.2.1, by omega, RR.out.2.2⟩
              case measure => simp [intOf]; omega
            · intro K hK
              go_wp2_with fail
              obtain ⟨v2, hv2⟩ : ∃ q, q = v1.alloc (.cells #[.int .i64 ii] 3) := ⟨_, rfl⟩
              have hba : Below v1.heap.size v1 v2 := by rw [hv2]; exact (Below.refl _ _).alloc (Nat.le_refl _) _
              have EE2 := Lib.hid (EE1.out.below hba (Nat.le_refl _))
              have CC2 : Hid (v2.cell? ⟨v1.heap.size, 0, none⟩ = some (.int .i64 ii)) := by rw [hv2]; simp [Hid]
              have HNE : Hid (v1.heap.size ≠ w3.heap.size) := Nat.ne_of_gt (EE1.out.ge.2)
              have BB2 : Hid (Below w3.heap.size w3 v2) := BB1.out.trans (hba.mono BB1.out.size)
              rw [← hv2]
              refine hK _ _ trivial ?_
              clear hK K hv2 hba
              have RD2 := Lib.hid (show _ ∧ _ from ⟨Reads.below RT.out.1 BB2.out (Nat.le_refl _), Reads.below RT.out.2 BB2.out (Nat.le_refl _)⟩)
              repeat (go_big_quiet_step (fail))
              refine wpQuiet_nil ?_
              intro K hK
              go_wp2_with (at_builtin; refine wpList_appAll v2 rfl (.tmp 19) (.tmp 22) 29 rfl w3.heap.size 3 Tryz.underlying29 sll.infoInt _ [] tk rfl EE2.out _ rfl RD2.out.1 (by have := HTD.out; simp; omega) BB2.out.size ?_)
              intro vv v3 ho hg hge
              try rw [List.nil_append] at ho
              have hba : Below w3.heap.size v2 v3 := below_of_grown hg BB2.out.size (fun q hq => (World.ownsRow.lt EE2.out q hq).1)
              have BB3 : Hid (Below w3.heap.size w3 v3) := BB2.out.trans hba
              have CC3 : Hid (v3.cell? ⟨v1.heap.size, 0, none⟩ = some (.int .i64 ii)) := hg.cell CC2.out (by have := HNE.out; simpa [Value.ownBlock] using this)
              have VV3 := Lib.hid ho
              clear ho hg hba hge
              refine hK _ _ trivial ?_
              clear hK K
              have RD3 := Lib.hid (show _ ∧ _ from ⟨Reads.below RT.out.1 BB3.out (Nat.le_refl _), Reads.below RT.out.2 BB3.out (Nat.le_refl _)⟩)
              repeat (go_big_quiet_step (fail))
              refine wpQuiet_nil ?_
              intro K hK
              go_wp2_with (at_builtin; refine wpList_appL v3 rfl (.tmp 23) (.tmp 25) 29 rfl w3.heap.size 3 Tryz.underlying29 sll.infoInt _ tk rfl VV3.out (v1.heap.size) ii rfl CC3.out (by have := HTD.out; simp; omega) BB3.out.size ?_)
              intro gq cq v4 ho hgr
              have hg := hgr.grown
              have hba : Below w3.heap.size v3 v4 := below_of_grown hg BB3.out.size (fun q hq => (World.ownsRow.lt VV3.out q hq).1)
              have BB4 : Hid (Below w3.heap.size w3 v4) := BB3.out.trans hba
              have VV4 := Lib.hid ho
              clear ho hg hba hgr
              refine hK _ _ trivial ?_
              clear hK K
              have RD4 := Lib.hid (show _ ∧ _ from ⟨Reads.below RT.out.1 BB4.out (Nat.le_refl _), Reads.below RT.out.2 BB4.out (Nat.le_refl _)⟩)
              repeat (go_big_quiet_step (fail))
              refine wpQuiet_nil ?_
              intro K hK
              go_wp2_with (at_builtin; refine wpList_appAll v4 rfl (.tmp 26) (.tmp 29) 29 rfl w3.heap.size 3 Tryz.underlying29 sll.infoInt _ (tk ++ [ii]) dk rfl VV4.out _ rfl RD4.out.2 (by have := HTD.out; simp; omega) BB4.out.size ?_)
              intro vv v5 ho hg hge
              have hba : Below w3.heap.size v4 v5 := below_of_grown hg BB4.out.size (fun q hq => (World.ownsRow.lt VV4.out q hq).1)
              have BB5 : Hid (Below w3.heap.size w3 v5) := BB4.out.trans hba
              have VV5 := Lib.hid ho
              clear ho hg hba hge
              refine hK _ _ trivial ?_
              clear hK K
              have RD5 := Lib.hid (show _ ∧ _ from ⟨Reads.below RT.out.1 BB5.out (Nat.le_refl _), Reads.below RT.out.2 BB5.out (Nat.le_refl _)⟩)
              repeat (go_big_quiet_step (fail))
              refine wpQuiet_nil ?_
              rcases VV5.out.shape with ⟨_, h0⟩ | ⟨gz, cz, rfl⟩
              · simp at h0
              have e : Hid (R0 = tk ++ ii :: dk) := by rw [Hid, HE.out]; simp
              have RR : Hid (OwnI 3 v5 w.heap.size (.slice (some ⟨gz, 0, none⟩) (tk ++ [ii] ++ dk).length cz) R0 ∧ Rd v5 R ao len cap0 p3 ∧ w.grownBy v5 (some R)) := by
                have ho' := VV5.out
                have hb' := BB5.out
                refine ⟨?_, rd_below HW3.out.2.1 hb' HW3.out.2.2.2, grown_trans HW3.out.2.2.1 (grown_of_below hb')⟩
                rw [e.out]
                exact (by simpa using ho'.mono HW3.out.1)
              go_wp2
              go_roundw
              case rel => exact ⟨ii + 1, R0, p3, gz, cz, by go_num, (by rw [e.out]; try simp), by omega, by omega, by have := HRL.out; omega, HRB.out, by have h := RR.out.1; simpa using h, RR.out.2.1, by omega, RR.out.2.2⟩
              case measure => simp [intOf]; omega
          · intro K hK
            have BB0 : Hid (Below w3.heap.size w3 w3.drew) := (Below.refl _ _).drew
            have RD0 := Lib.hid (show _ ∧ _ from ⟨Reads.below RT.out.1 BB0.out (Nat.le_refl _), Reads.below RT.out.2 BB0.out (Nat.le_refl _)⟩)
            go_wp2_with fail
            obtain ⟨v1, hv1⟩ : ∃ q, q = (w3.alloc (.cells #[.int .i64 ii] 3)).drew := ⟨_, rfl⟩
            have hba : Below w3.heap.size w3.drew v1 := by rw [hv1]; exact Below.trans (b := w3) ⟨rfl, rfl, rfl, Nat.le_refl _, fun _ _ => rfl⟩ ((Below.refl w3.heap.size w3).alloc (Nat.le_refl _) _).drew
            have CC1 : Hid (v1.cell? ⟨w3.heap.size, 0, none⟩ = some (.int .i64 ii)) := by rw [hv1]; simp [Hid]
            have BB1 : Hid (Below w3.heap.size w3 v1) := BB0.out.trans (hba.mono BB0.out.size)
            rw [← hv1]
            refine hK _ _ trivial ?_
            clear hK K hv1 hba
            have RD1 := Lib.hid (show _ ∧ _ from ⟨Reads.below RT.out.1 BB1.out (Nat.le_refl _), Reads.below RT.out.2 BB1.out (Nat.le_refl _)⟩)
            repeat (go_big_quiet_step (fail))
            refine wpQuiet_nil ?_
            intro K hK
            go_wp2_with fail
            obtain ⟨v2, hv2⟩ : ∃ q, q = v1.alloc (.cells #[] 3) := ⟨_, rfl⟩
            have hba : Below v1.heap.size v1 v2 := by rw [hv2]; exact (Below.refl _ _).alloc (Nat.le_refl _) _
            have CC2 : Hid (v2.cell? ⟨w3.heap.size, 0, none⟩ = some (.int .i64 ii)) := keepCell hba CC1.out
            have EE2 : Hid (OwnI 3 v2 w3.heap.size (.slice (some ⟨v1.heap.size, 0, none⟩) 0 0) []) := by rw [hv2]; exact emptyRow _ _ _ _ rfl BB1.out.size
            have HNE : Hid (w3.heap.size ≠ v1.heap.size) := Nat.ne_of_lt (World.block_lt_of_cell? _ _ CC1.out)
            have BB2 : Hid (Below w3.heap.size w3 v2) := BB1.out.trans (hba.mono BB1.out.size)
            rw [← hv2]
            refine hK _ _ trivial ?_
            clear hK K hv2 hba
            have RD2 := Lib.hid (show _ ∧ _ from ⟨Reads.below RT.out.1 BB2.out (Nat.le_refl _), Reads.below RT.out.2 BB2.out (Nat.le_refl _)⟩)
            repeat (go_big_quiet_step (fail))
            refine wpQuiet_nil ?_
            intro K hK
            go_wp2_with (at_builtin; refine wpList_appAll v2 rfl (.tmp 19) (.tmp 22) 29 rfl w3.heap.size 3 Tryz.underlying29 sll.infoInt _ [] tk rfl EE2.out _ rfl RD2.out.1 (by have := HTD.out; simp; omega) BB2.out.size ?_)
            intro vv v3 ho hg hge
            try rw [List.nil_append] at ho
            have hba : Below w3.heap.size v2 v3 := below_of_grown hg BB2.out.size (fun q hq => (World.ownsRow.lt EE2.out q hq).1)
            have BB3 : Hid (Below w3.heap.size w3 v3) := BB2.out.trans hba
            have CC3 : Hid (v3.cell? ⟨w3.heap.size, 0, none⟩ = some (.int .i64 ii)) := hg.cell CC2.out (by have := HNE.out; simpa [Value.ownBlock] using this)
            have VV3 := Lib.hid ho
            clear ho hg hba hge
            refine hK _ _ trivial ?_
            clear hK K
            have RD3 := Lib.hid (show _ ∧ _ from ⟨Reads.below RT.out.1 BB3.out (Nat.le_refl _), Reads.below RT.out.2 BB3.out (Nat.le_refl _)⟩)
            repeat (go_big_quiet_step (fail))
            refine wpQuiet_nil ?_
            intro K hK
            go_wp2_with (at_builtin; refine wpList_appL v3 rfl (.tmp 23) (.tmp 25) 29 rfl w3.heap.size 3 Tryz.underlying29 sll.infoInt _ tk rfl VV3.out (w3.heap.size) ii rfl CC3.out (by have := HTD.out; simp; omega) BB3.out.size ?_)
            intro gq cq v4 ho hgr
            have hg := hgr.grown
            have hba : Below w3.heap.size v3 v4 := below_of_grown hg BB3.out.size (fun q hq => (World.ownsRow.lt VV3.out q hq).1)
            have BB4 : Hid (Below w3.heap.size w3 v4) := BB3.out.trans hba
            have VV4 := Lib.hid ho
            clear ho hg hba hgr
            refine hK _ _ trivial ?_
            clear hK K
            have RD4 := Lib.hid (show _ ∧ _ from ⟨Reads.below RT.out.1 BB4.out (Nat.le_refl _), Reads.below RT.out.2 BB4.out (Nat.le_refl _)⟩)
            repeat (go_big_quiet_step (fail))
            refine wpQuiet_nil ?_
            intro K hK
            go_wp2_with (at_builtin; refine wpList_appAll v4 rfl (.tmp 26) (.tmp 29) 29 rfl w3.heap.size 3 Tryz.underlying29 sll.infoInt _ (tk ++ [ii]) dk rfl VV4.out _ rfl RD4.out.2 (by have := HTD.out; simp; omega) BB4.out.size ?_)
            intro vv v5 ho hg hge
            have hba : Below w3.heap.size v4 v5 := below_of_grown hg BB4.out.size (fun q hq => (World.ownsRow.lt VV4.out q hq).1)
            have BB5 : Hid (Below w3.heap.size w3 v5) := BB4.out.trans hba
            have VV5 := Lib.hid ho
            clear ho hg hba hge
            refine hK _ _ trivial ?_
            clear hK K
            have RD5 := Lib.hid (show _ ∧ _ from ⟨Reads.below RT.out.1 BB5.out (Nat.le_refl _), Reads.below RT.out.2 BB5.out (Nat.le_refl _)⟩)
            repeat (go_big_quiet_step (fail))
            refine wpQuiet_nil ?_
            rcases VV5.out.shape with ⟨_, h0⟩ | ⟨gz, cz, rfl⟩
            · simp at h0
            have e : Hid (R0 = tk ++ ii :: dk) := by rw [Hid, HE.out]; simp
            have RR : Hid (OwnI 3 v5 w.heap.size (.slice (some ⟨gz, 0, none⟩) (tk ++ [ii] ++ dk).length cz) R0 ∧ Rd v5 R ao len cap0 p3 ∧ w.grownBy v5 (some R)) := by
              have ho' := VV5.out
              have hb' := BB5.out
              refine ⟨?_, rd_below HW3.out.2.1 hb' HW3.out.2.2.2, grown_trans HW3.out.2.2.1 (grown_of_below hb')⟩
              rw [e.out]
              exact (by simpa using ho'.mono HW3.out.1)
            go_wp2
            go_roundw
            case rel => exact ⟨ii + 1, R0, p3, gz, cz, by go_num, (by rw [e.out]; try simp), by omega, by omega, by have := HRL.out; omega, HRB.out, by have h := RR.out.1; simpa using h, RR.out.2.1, by omega, RR.out.2.2⟩
            case measure => simp [intOf]; omega

    · have hR : ii = N := by omega
      have hlN : l.length = N := by have := HM.out; omega
      have hpN : p3 ≤ p + 8 := by omega
      subst hu
      rw [hlN] at HO ⊢
      have HLN := Lib.hid hlN
      clear hR hlN
      go_wp2
      go_ret
      exact ⟨_, l, p3, rfl, HLN.out, HO.out.2.2.2, HO.out.1, HO.out.2.1, hpN, HO.out.2.2.1⟩
end Go.Proofs.YtpcnoiigbmiejaaGreatDoor.shuf
