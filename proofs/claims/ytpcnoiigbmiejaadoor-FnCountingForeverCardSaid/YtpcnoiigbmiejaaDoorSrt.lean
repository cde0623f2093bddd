/- l8Sort: the reference puts a number into a sorted list. -/
import Derived.Test.YtpcnoiigbmiejaaDoorRows
import Derived.Test.YtpcnoiigbmiejaaDoorPk2
import Derived.Test.YtpcnoiigbmiejaaDoorTree
import Derived.Test.YtpcnoiigbmiejaaDoorPkB
import Derived.Deep.CutRange
namespace Go.Proofs.YtpcnoiigbmiejaaDoor.srt
set_option linter.unusedVariables false
set_option linter.unusedSimpArgs false
open Go.ChangeShapes Go.WideShapes Go.ChangeAt Go.RowKit
open Go.Proofs.YtpcnoiigbmiejaaDoor.lib Go.Proofs.YtpcnoiigbmiejaaDoor.flow Go.Proofs.YtpcnoiigbmiejaaDoor.chain Go.Proofs.YtpcnoiigbmiejaaDoor.sll Go.Proofs.YtpcnoiigbmiejaaDoor.col

theorem emptyRow (T : TypeId) (w : World) (B H : Nat) (hH : w.heap.size = H) (hB : B ≤ H) : OwnI T (w.alloc (.cells #[] T)) B (.slice (some ⟨H, 0, none⟩) 0 0) [] := by
  subst hH; exact World.ownsRow_made w #[] 0 hB (Nat.zero_le _) rfl
theorem sorted_le {l : List Int} {i j : Nat} (hij : i ≤ j) (hj : j < l.length) : (sortI l).getD i 0 ≤ (sortI l).getD j 0 := by
  have hl := sortI_len l
  by_cases e : i = j
  · subst e; exact Int.le_refl _
  · have := List.pairwise_iff_getElem.1 (sortI_sorted l) i j (by omega) (by omega) (by omega)
    rw [List.getD_eq_getElem?_getD, List.getD_eq_getElem?_getD, List.getElem?_eq_getElem (by omega), List.getElem?_eq_getElem (by omega)]
    exact this
/-- an append of what lies at a place -/
theorem wpList_appL {P : Program} (w : World) {ops : Array Oper} {rest : List Oper} {o : Oper} {a : Act} {Q : Exit → Act → World → Prop} (hgd : o.guard = none)
    (s x : Operand) (t : TypeId) (hop : o.op = Op.call { callee := Callee.builtin Builtin.append, args := #[s, x], argTypes := #[t, t] })
    (base : Nat) (e : TypeId) (h1 : P.underlying t = some (.slice e)) (hinfo : (P.info? e).map (fun i => (i.zero, i.size, i.bytes)) = some (some (.int .i64 0), 1, 8))
    (v : Value) (l : List Int) (hs : a.eval s = v) (hown : OwnI e w base v l) (H : Nat) (u : Int) (hx : a.eval x = .slice (some ⟨H, 0, none⟩) 1 1) (hc : w.cell? ⟨H, 0, none⟩ = some (.int .i64 u))
    (b1 : l.length + 1 ≤ 4398046511104) (b4 : base ≤ w.heap.size)
    (h : ∀ g cap w', OwnI e w' base (.slice (some ⟨g, 0, none⟩) (l.length + 1) cap) (l ++ [u]) → Grew w w' v (.slice (some ⟨g, 0, none⟩) (l.length + 1) cap) → wpList P ops Q rest (a.put o.dst (.slice (some ⟨g, 0, none⟩) (l.length + 1) cap)) w') :
    wpList P ops Q (o :: rest) a w := by
  refine wpList_plain hgd fun K hK => ?_
  refine wp_appL w s x t hop base e (.int .i64 0) 8 h1 hinfo rfl (by decide) v l.length (ivs l) hs hown ⟨H, 0, none⟩ 1 1 [.int .i64 u] hx rfl ?_ ?_ (by decide) b1 b4 (fun g cap w' ho hg => hK _ _ (h g cap w' ?_ hg))
  · intro j y hj
    match j, hj with
    | 0, hj => simp at hj; subst hj; simpa [Addr.add] using hc
  · intro y hy; simp at hy; subst hy; rfl
  · unfold OwnI; rw [List.length_append, ivs_append]; exact ho

/-- what a world keeps of an older one -/
theorem keepCell {W W' : World} {B : Nat} (hb : Below B W W') {a : Addr} {v : Value} (h : W.cell? a = some v) (hB : W.heap.size ≤ B := by exact Nat.le_refl _) : W'.cell? a = some v := by
  rw [hb.cell (Nat.lt_of_lt_of_le (World.block_lt_of_cell? W a h) hB)]; exact h

set_option maxHeartbeats 3200000 in
theorem l8Sort_any (B g cap : Nat) (l0 : List Int) (n : Int) (w : World) (hown : OwnI 3 w B (.slice (some ⟨g, 0, none⟩) l0.length cap) (sortI l0)) (hB : B ≤ w.heap.size) (hl : l0.length ≤ 1000) :
    Calls Tryd.prog 156 #[.slice (some ⟨g, 0, none⟩) l0.length cap, .int .i64 n] w fun e w' => ∃ g' cap', e = .returned (.slice (some ⟨g', 0, none⟩) (l0.length + 1) cap') ∧ OwnI 3 w' w.heap.size (.slice (some ⟨g', 0, none⟩) (l0.length + 1) cap') (sortI (l0 ++ [n])) ∧ Below w.heap.size w w' := by
  have hcap : l0.length ≤ cap ∧ cap ≤ 9223372036854775807 := by
    rcases hown.2 with ⟨h', _⟩ | ⟨g', cap', cur, h', hb, hh, hnc, hcm, _⟩
    · simp at h'
    · simp only [Value.slice.injEq] at h'
      obtain ⟨_, hx, rfl⟩ := h'
      exact ⟨by omega, hcm⟩
  obtain ⟨m, hm⟩ : ∃ m, m = l0.length := ⟨_, rfl⟩
  obtain ⟨l, hll⟩ : ∃ l, l = sortI l0 := ⟨_, rfl⟩
  obtain ⟨R, hR⟩ : ∃ R, R = sortI (l0 ++ [n]) := ⟨_, rfl⟩
  rw [← hll] at hown
  have HO := Lib.hid hown
  rw [← hm] at hl hcap HO ⊢
  rw [← hR]
  have HM : Hid (m = l.length) := by rw [Hid, hm, hll, sortI_len]
  have HL := Lib.hid (show _ ∧ _ ∧ _ from ⟨hm, hll, hR⟩)
  clear hown hm hll hR
  go_enter Tryd.func156, Tryd.ntmps156
  go_wp2
  go_loop [5] (fun i => ∃ k : Nat, k ≤ m ∧ i = .int .i64 k ∧ Hid (∀ j, k ≤ j → j < m → n < l.getD j 0)) (fun i => (intOf i).toNat)
  case atStart => exact ⟨m, Nat.le_refl _, rfl, fun j h1 h2 => (by omega)⟩
  case round =>
    obtain ⟨k, hk, rfl, hlo⟩ := hrel
    have fin : (k = 0 ∨ l.getD (k - 1) 0 ≤ n) → R = l.take k ++ [n] ++ l.drop k := fun h => by
      have h3 := HL.out
      rw [h3.2.2, h3.2.1]
      refine (sort_put (by omega) (fun i hi => ?_) (fun i h1 h2 => ?_)).symm
      · rcases h with h | h
        · omega
        · have := sorted_le (l := l0) (i := i) (j := k - 1) (by omega) (by omega)
          rw [← h3.2.1] at this ⊢
          omega
      · have := hlo.out i h1 (by omega)
        rw [h3.2.1] at this; exact this
    have FIN := Lib.hid fin
    clear fin
    have hstop : (k = 0 ∨ l.getD (k - 1) 0 ≤ n) ∨ (0 < k ∧ n < l.getD (k - 1) 0) := by omega
    rcases hstop with hst | ⟨hk0, hgt⟩
    · have HE : Hid (R = l.take k ++ [n] ++ l.drop k) := FIN.out hst
      have RT : Hid (Reads w (.slice (some ⟨g, 0, none⟩) k cap) (l.take k) ∧ Reads w (.slice (some ⟨g, k, none⟩) (m - k) (cap - k)) (l.drop k)) := by
        have hlk : (l.take k).length = k := by simp; have := HM.out; omega
        have hld : (l.drop k).length = m - k := by simp; have := HM.out; omega
        have hml := HM.out
        refine ⟨⟨some ⟨g, 0, none⟩, cap, by rw [hlk], .inr ⟨g, 0, rfl, fun i hi => ?_⟩, fun h => by cases h⟩, ⟨some ⟨g, k, none⟩, cap - k, by rw [hld], .inr ⟨g, k, rfl, fun i hi => ?_⟩, fun h => by cases h⟩⟩
        · have := HO.out.cell i (by omega)
          rw [Nat.zero_add, this]
          simp [List.getD_eq_getElem?_getD, List.getElem?_take, show i < k by omega]
        · have := HO.out.cell (k + i) (by omega)
          rw [this]
          simp [List.getD_eq_getElem?_getD, List.getElem?_drop]
      obtain ⟨tk, htk⟩ : ∃ q, q = l.take k := ⟨_, rfl⟩
      obtain ⟨dk, hdk⟩ : ∃ q, q = l.drop k := ⟨_, rfl⟩
      rw [← htk, ← hdk] at HE RT
      have htl : tk.length = k := by rw [htk]; simp; have := HM.out; omega
      have hdl : dk.length = m - k := by rw [hdk]; simp; have := HM.out; omega
      have HRL : Hid (R.length = m + 1) := by rw [Hid, HE.out, List.length_append, List.length_append, htl, hdl]; simp; omega
      have HTD := Lib.hid (show _ ∧ _ from ⟨htl, hdl⟩)
      have hgl := HO.out.ge.2
      have HHO := Lib.hid HO.out
      clear htk hdk htl hdl HO FIN hlo
      have hkm : k ≤ cap := by omega
      have hk0 : k = 0 ∨ (0 < k ∧ l.getD (k - 1) 0 ≤ n) := by
        rcases hst with h | h
        · exact .inl h
        · by_cases e : k = 0
          · exact .inl e
          · exact .inr ⟨by omega, h⟩
      clear hst
      rcases hk0 with rfl | ⟨hk0, hle⟩
      · by_cases hkc : 0 < cap
        · go_wp2_with fail
          go_cut [4] from 21 to 32 (fun q wx => ∃ g' cap', q = .slice (some ⟨g', 0, none⟩) (m + 1) cap' ∧ OwnI 3 wx w.heap.size q R ∧ Below w.heap.size w wx)
          case first =>
            go_wp2_with fail
            refine tree (S := fun _ => True) (Tr.two [false, true, true, true, false, true, false, false, true, true, true] 0 (Tr.two [] 4 (Tr.one [] 6 (Tr.one [] 7 (Tr.one [] 11 (Tr.leaf [false, false, false, false, false, false, false, false, false, false, false, false, true])))) 6 (Tr.one [] 4 (Tr.one [] 7 (Tr.one [] 11 (Tr.leaf [false, false, false, false, false, false, false, false, false, false, false, false, true]))))) 6 (Tr.one [] 0 (Tr.one [] 4 (Tr.one [] 7 (Tr.one [] 11 (Tr.leaf [false, false, false, false, false, false, false, false, false, false, false, false, true])))))) (by kernel_rfl) (by kernel_rfl) (by kernel_rfl) trivial ?_
            simp only [wpTr, pickB, List.toList_toArray, List.getElem?_toArray, List.getElem?_cons_succ, List.getElem?_cons_zero, Option.toList_some]
            have hne : Nonempty (Wd (fun _ : World => True)) := ⟨⟨w, trivial⟩⟩
            repeat (go_big_quiet_step (fail))
            refine wpQuiet_nil ?_
            constructor
            · intro K hK
              have BB0 : Hid (Below w.heap.size w w.drew) := (Below.refl _ _).drew
              have RD0 := Lib.hid (show _ ∧ _ from ⟨Reads.below RT.out.1 BB0.out (Nat.le_refl _), Reads.below RT.out.2 BB0.out (Nat.le_refl _)⟩)
              go_wp2_with fail
              obtain ⟨v1, hv1⟩ : ∃ q, q = (w.alloc (.cells #[] 3)).drew := ⟨_, rfl⟩
              have hba : Below w.heap.size w.drew v1 := by rw [hv1]; exact Below.trans (b := w) ⟨rfl, rfl, rfl, Nat.le_refl _, fun _ _ => rfl⟩ ((Below.refl w.heap.size w).alloc (Nat.le_refl _) _).drew
              have EE1 : Hid (OwnI 3 v1 w.heap.size (.slice (some ⟨w.heap.size, 0, none⟩) 0 0) []) := by rw [hv1]; exact emptyRow _ _ _ _ rfl BB0.out.size
              have BB1 : Hid (Below w.heap.size w v1) := BB0.out.trans (hba.mono BB0.out.size)
              rw [← hv1]
              refine hK _ _ trivial ?_
              clear hK K hv1 hba
              have RD1 := Lib.hid (show _ ∧ _ from ⟨Reads.below RT.out.1 BB1.out (Nat.le_refl _), Reads.below RT.out.2 BB1.out (Nat.le_refl _)⟩)
              repeat (go_big_quiet_step (fail))
              refine wpQuiet_nil ?_
              constructor
              · intro K hK
                go_wp2_with (at_builtin; refine wpList_appAll v1 rfl (.tmp 21) (.tmp 24) 32 rfl w.heap.size 3 Tryd.underlying32 infoInt _ [] tk rfl EE1.out _ rfl RD1.out.1 (by have := HTD.out; simp; omega) BB1.out.size ?_)
                intro vv v2 ho hg hge
                try rw [List.nil_append] at ho
                have hba : Below w.heap.size v1 v2 := below_of_grown hg BB1.out.size (fun q hq => (World.ownsRow.lt EE1.out q hq).1)
                have BB2 : Hid (Below w.heap.size w v2) := BB1.out.trans hba
                have VV2 := Lib.hid ho
                clear ho hg hba hge
                refine hK _ _ trivial ?_
                clear hK K
                have RD2 := Lib.hid (show _ ∧ _ from ⟨Reads.below RT.out.1 BB2.out (Nat.le_refl _), Reads.below RT.out.2 BB2.out (Nat.le_refl _)⟩)
                repeat (go_big_quiet_step (fail))
                refine wpQuiet_nil ?_
                intro K hK
                go_wp2_with fail
                obtain ⟨v3, hv3⟩ : ∃ q, q = v2.alloc (.cells #[.int .i64 n] 3) := ⟨_, rfl⟩
                have hba : Below v2.heap.size v2 v3 := by rw [hv3]; exact (Below.refl _ _).alloc (Nat.le_refl _) _
                have VV3 := Lib.hid (VV2.out.below hba (Nat.le_refl _))
                have CC3 : Hid (v3.cell? ⟨v2.heap.size, 0, none⟩ = some (.int .i64 n)) := by rw [hv3]; simp [Hid]
                have BB3 : Hid (Below w.heap.size w v3) := BB2.out.trans (hba.mono BB2.out.size)
                rw [← hv3]
                refine hK _ _ trivial ?_
                clear hK K hv3 hba
                have RD3 := Lib.hid (show _ ∧ _ from ⟨Reads.below RT.out.1 BB3.out (Nat.le_refl _), Reads.below RT.out.2 BB3.out (Nat.le_refl _)⟩)
                repeat (go_big_quiet_step (fail))
                refine wpQuiet_nil ?_
                intro K hK
                go_wp2_with (at_builtin; refine wpList_appL v3 rfl (.tmp 25) (.tmp 27) 32 rfl w.heap.size 3 Tryd.underlying32 infoInt _ tk rfl VV3.out (v2.heap.size) n rfl CC3.out (by have := HTD.out; simp; omega) BB3.out.size ?_)
                intro gq cq v4 ho hgr
                have hg := hgr.grown
                have hba : Below w.heap.size v3 v4 := below_of_grown hg BB3.out.size (fun q hq => (World.ownsRow.lt VV3.out q hq).1)
                have BB4 : Hid (Below w.heap.size w v4) := BB3.out.trans hba
                have VV4 := Lib.hid ho
                clear ho hg hba hgr
                refine hK _ _ trivial ?_
                clear hK K
                have RD4 := Lib.hid (show _ ∧ _ from ⟨Reads.below RT.out.1 BB4.out (Nat.le_refl _), Reads.below RT.out.2 BB4.out (Nat.le_refl _)⟩)
                repeat (go_big_quiet_step (fail))
                refine wpQuiet_nil ?_
                intro K hK
                go_wp2_with (at_builtin; refine wpList_appAll v4 rfl (.tmp 28) (.tmp 31) 32 rfl w.heap.size 3 Tryd.underlying32 infoInt _ (tk ++ [n]) dk rfl VV4.out _ rfl RD4.out.2 (by have := HTD.out; simp; omega) BB4.out.size ?_)
                intro vv v5 ho hg hge
                have hba : Below w.heap.size v4 v5 := below_of_grown hg BB4.out.size (fun q hq => (World.ownsRow.lt VV4.out q hq).1)
                have BB5 : Hid (Below w.heap.size w v5) := BB4.out.trans hba
                have VV5 := Lib.hid ho
                clear ho hg hba hge
                refine hK _ _ trivial ?_
                clear hK K
                have RD5 := Lib.hid (show _ ∧ _ from ⟨Reads.below RT.out.1 BB5.out (Nat.le_refl _), Reads.below RT.out.2 BB5.out (Nat.le_refl _)⟩)
                repeat (go_big_quiet_step (fail))
                refine wpQuiet_nil ?_
                rcases VV5.out.shape with ⟨_, h0⟩ | ⟨gz, cz, rfl⟩
                · simp at h0
                have e : Hid (R = tk ++ n :: dk) := by rw [Hid, HE.out]; simp
                go_wp2_with fail
                go_meet
                have eL : (tk ++ n :: dk).length = m + 1 := by rw [← e.out]; exact HRL.out
                have hv := VV5.out
                refine ⟨gz, cz, ?_, by rw [e.out]; simpa using hv, BB5.out⟩
                simp only [List.length_append, List.length_cons, List.length_nil] at eL ⊢
                first | rfl | (congr 1; done) | (congr 1; omega)
              · intro K hK
                go_wp2_with fail
                obtain ⟨v2, hv2⟩ : ∃ q, q = v1.alloc (.cells #[.int .i64 n] 3) := ⟨_, rfl⟩
                have hba : Below v1.heap.size v1 v2 := by rw [hv2]; exact (Below.refl _ _).alloc (Nat.le_refl _) _
                have EE2 := Lib.hid (EE1.out.below hba (Nat.le_refl _))
                have CC2 : Hid (v2.cell? ⟨v1.heap.size, 0, none⟩ = some (.int .i64 n)) := by rw [hv2]; simp [Hid]
                have HNE : Hid (v1.heap.size ≠ w.heap.size) := Nat.ne_of_gt (EE1.out.ge.2)
                have BB2 : Hid (Below w.heap.size w v2) := BB1.out.trans (hba.mono BB1.out.size)
                rw [← hv2]
                refine hK _ _ trivial ?_
                clear hK K hv2 hba
                have RD2 := Lib.hid (show _ ∧ _ from ⟨Reads.below RT.out.1 BB2.out (Nat.le_refl _), Reads.below RT.out.2 BB2.out (Nat.le_refl _)⟩)
                repeat (go_big_quiet_step (fail))
                refine wpQuiet_nil ?_
                intro K hK
                go_wp2_with (at_builtin; refine wpList_appAll v2 rfl (.tmp 21) (.tmp 24) 32 rfl w.heap.size 3 Tryd.underlying32 infoInt _ [] tk rfl EE2.out _ rfl RD2.out.1 (by have := HTD.out; simp; omega) BB2.out.size ?_)
                intro vv v3 ho hg hge
                try rw [List.nil_append] at ho
                have hba : Below w.heap.size v2 v3 := below_of_grown hg BB2.out.size (fun q hq => (World.ownsRow.lt EE2.out q hq).1)
                have BB3 : Hid (Below w.heap.size w v3) := BB2.out.trans hba
                have CC3 : Hid (v3.cell? ⟨v1.heap.size, 0, none⟩ = some (.int .i64 n)) := hg.cell CC2.out (by have := HNE.out; simpa [Value.ownBlock] using this)
                have VV3 := Lib.hid ho
                clear ho hg hba hge
                refine hK _ _ trivial ?_
                clear hK K
                have RD3 := Lib.hid (show _ ∧ _ from ⟨Reads.below RT.out.1 BB3.out (Nat.le_refl _), Reads.below RT.out.2 BB3.out (Nat.le_refl _)⟩)
                repeat (go_big_quiet_step (fail))
                refine wpQuiet_nil ?_
                intro K hK
                go_wp2_with (at_builtin; refine wpList_appL v3 rfl (.tmp 25) (.tmp 27) 32 rfl w.heap.size 3 Tryd.underlying32 infoInt _ tk rfl VV3.out (v1.heap.size) n rfl CC3.out (by have := HTD.out; simp; omega) BB3.out.size ?_)
                intro gq cq v4 ho hgr
                have hg := hgr.grown
                have hba : Below w.heap.size v3 v4 := below_of_grown hg BB3.out.size (fun q hq => (World.ownsRow.lt VV3.out q hq).1)
                have BB4 : Hid (Below w.heap.size w v4) := BB3.out.trans hba
                have VV4 := Lib.hid ho
                clear ho hg hba hgr
                refine hK _ _ trivial ?_
                clear hK K
                have RD4 := Lib.hid (show _ ∧ _ from ⟨Reads.below RT.out.1 BB4.out (Nat.le_refl _), Reads.below RT.out.2 BB4.out (Nat.le_refl _)⟩)
                repeat (go_big_quiet_step (fail))
                refine wpQuiet_nil ?_
                intro K hK
                go_wp2_with (at_builtin; refine wpList_appAll v4 rfl (.tmp 28) (.tmp 31) 32 rfl w.heap.size 3 Tryd.underlying32 infoInt _ (tk ++ [n]) dk rfl VV4.out _ rfl RD4.out.2 (by have := HTD.out; simp; omega) BB4.out.size ?_)
                intro vv v5 ho hg hge
                have hba : Below w.heap.size v4 v5 := below_of_grown hg BB4.out.size (fun q hq => (World.ownsRow.lt VV4.out q hq).1)
                have BB5 : Hid (Below w.heap.size w v5) := BB4.out.trans hba
                have VV5 := Lib.hid ho
                clear ho hg hba hge
                refine hK _ _ trivial ?_
                clear hK K
                have RD5 := Lib.hid (show _ ∧ _ from ⟨Reads.below RT.out.1 BB5.out (Nat.le_refl _), Reads.below RT.out.2 BB5.out (Nat.le_refl _)⟩)
                repeat (go_big_quiet_step (fail))
                refine wpQuiet_nil ?_
                rcases VV5.out.shape with ⟨_, h0⟩ | ⟨gz, cz, rfl⟩
                · simp at h0
                have e : Hid (R = tk ++ n :: dk) := by rw [Hid, HE.out]; simp
                go_wp2_with fail
                go_meet
                have eL : (tk ++ n :: dk).length = m + 1 := by rw [← e.out]; exact HRL.out
                have hv := VV5.out
                refine ⟨gz, cz, ?_, by rw [e.out]; simpa using hv, BB5.out⟩
                simp only [List.length_append, List.length_cons, List.length_nil] at eL ⊢
                first | rfl | (congr 1; done) | (congr 1; omega)
            · intro K hK
              have BB0 : Hid (Below w.heap.size w w.drew) := (Below.refl _ _).drew
              have RD0 := Lib.hid (show _ ∧ _ from ⟨Reads.below RT.out.1 BB0.out (Nat.le_refl _), Reads.below RT.out.2 BB0.out (Nat.le_refl _)⟩)
              go_wp2_with fail
              obtain ⟨v1, hv1⟩ : ∃ q, q = (w.alloc (.cells #[.int .i64 n] 3)).drew := ⟨_, rfl⟩
              have hba : Below w.heap.size w.drew v1 := by rw [hv1]; exact Below.trans (b := w) ⟨rfl, rfl, rfl, Nat.le_refl _, fun _ _ => rfl⟩ ((Below.refl w.heap.size w).alloc (Nat.le_refl _) _).drew
              have CC1 : Hid (v1.cell? ⟨w.heap.size, 0, none⟩ = some (.int .i64 n)) := by rw [hv1]; simp [Hid]
              have BB1 : Hid (Below w.heap.size w v1) := BB0.out.trans (hba.mono BB0.out.size)
              rw [← hv1]
              refine hK _ _ trivial ?_
              clear hK K hv1 hba
              have RD1 := Lib.hid (show _ ∧ _ from ⟨Reads.below RT.out.1 BB1.out (Nat.le_refl _), Reads.below RT.out.2 BB1.out (Nat.le_refl _)⟩)
              repeat (go_big_quiet_step (fail))
              refine wpQuiet_nil ?_
              intro K hK
              go_wp2_with fail
              obtain ⟨v2, hv2⟩ : ∃ q, q = v1.alloc (.cells #[] 3) := ⟨_, rfl⟩
              have hba : Below v1.heap.size v1 v2 := by rw [hv2]; exact (Below.refl _ _).alloc (Nat.le_refl _) _
              have CC2 : Hid (v2.cell? ⟨w.heap.size, 0, none⟩ = some (.int .i64 n)) := keepCell hba CC1.out
              have EE2 : Hid (OwnI 3 v2 w.heap.size (.slice (some ⟨v1.heap.size, 0, none⟩) 0 0) []) := by rw [hv2]; exact emptyRow _ _ _ _ rfl BB1.out.size
              have HNE : Hid (w.heap.size ≠ v1.heap.size) := Nat.ne_of_lt (World.block_lt_of_cell? _ _ CC1.out)
              have BB2 : Hid (Below w.heap.size w v2) := BB1.out.trans (hba.mono BB1.out.size)
              rw [← hv2]
              refine hK _ _ trivial ?_
              clear hK K hv2 hba
              have RD2 := Lib.hid (show _ ∧ _ from ⟨Reads.below RT.out.1 BB2.out (Nat.le_refl _), Reads.below RT.out.2 BB2.out (Nat.le_refl _)⟩)
              repeat (go_big_quiet_step (fail))
              refine wpQuiet_nil ?_
              intro K hK
              go_wp2_with (at_builtin; refine wpList_appAll v2 rfl (.tmp 21) (.tmp 24) 32 rfl w.heap.size 3 Tryd.underlying32 infoInt _ [] tk rfl EE2.out _ rfl RD2.out.1 (by have := HTD.out; simp; omega) BB2.out.size ?_)
              intro vv v3 ho hg hge
              try rw [List.nil_append] at ho
              have hba : Below w.heap.size v2 v3 := below_of_grown hg BB2.out.size (fun q hq => (World.ownsRow.lt EE2.out q hq).1)
              have BB3 : Hid (Below w.heap.size w v3) := BB2.out.trans hba
              have CC3 : Hid (v3.cell? ⟨w.heap.size, 0, none⟩ = some (.int .i64 n)) := hg.cell CC2.out (by have := HNE.out; simpa [Value.ownBlock] using this)
              have VV3 := Lib.hid ho
              clear ho hg hba hge
              refine hK _ _ trivial ?_
              clear hK K
              have RD3 := Lib.hid (show _ ∧ _ from ⟨Reads.below RT.out.1 BB3.out (Nat.le_refl _), Reads.below RT.out.2 BB3.out (Nat.le_refl _)⟩)
              repeat (go_big_quiet_step (fail))
              refine wpQuiet_nil ?_
              intro K hK
              go_wp2_with (at_builtin; refine wpList_appL v3 rfl (.tmp 25) (.tmp 27) 32 rfl w.heap.size 3 Tryd.underlying32 infoInt _ tk rfl VV3.out (w.heap.size) n rfl CC3.out (by have := HTD.out; simp; omega) BB3.out.size ?_)
              intro gq cq v4 ho hgr
              have hg := hgr.grown
              have hba : Below w.heap.size v3 v4 := below_of_grown hg BB3.out.size (fun q hq => (World.ownsRow.lt VV3.out q hq).1)
              have BB4 : Hid (Below w.heap.size w v4) := BB3.out.trans hba
              have VV4 := Lib.hid ho
              clear ho hg hba hgr
              refine hK _ _ trivial ?_
              clear hK K
              have RD4 := Lib.hid (show _ ∧ _ from ⟨Reads.below RT.out.1 BB4.out (Nat.le_refl _), Reads.below RT.out.2 BB4.out (Nat.le_refl _)⟩)
              repeat (go_big_quiet_step (fail))
              refine wpQuiet_nil ?_
              intro K hK
              go_wp2_with (at_builtin; refine wpList_appAll v4 rfl (.tmp 28) (.tmp 31) 32 rfl w.heap.size 3 Tryd.underlying32 infoInt _ (tk ++ [n]) dk rfl VV4.out _ rfl RD4.out.2 (by have := HTD.out; simp; omega) BB4.out.size ?_)
              intro vv v5 ho hg hge
              have hba : Below w.heap.size v4 v5 := below_of_grown hg BB4.out.size (fun q hq => (World.ownsRow.lt VV4.out q hq).1)
              have BB5 : Hid (Below w.heap.size w v5) := BB4.out.trans hba
              have VV5 := Lib.hid ho
              clear ho hg hba hge
              refine hK _ _ trivial ?_
              clear hK K
              have RD5 := Lib.hid (show _ ∧ _ from ⟨Reads.below RT.out.1 BB5.out (Nat.le_refl _), Reads.below RT.out.2 BB5.out (Nat.le_refl _)⟩)
              repeat (go_big_quiet_step (fail))
              refine wpQuiet_nil ?_
              rcases VV5.out.shape with ⟨_, h0⟩ | ⟨gz, cz, rfl⟩
              · simp at h0
              have e : Hid (R = tk ++ n :: dk) := by rw [Hid, HE.out]; simp
              go_wp2_with fail
              go_meet
              have eL : (tk ++ n :: dk).length = m + 1 := by rw [← e.out]; exact HRL.out
              have hv := VV5.out
              refine ⟨gz, cz, ?_, by rw [e.out]; simpa using hv, BB5.out⟩
              simp only [List.length_append, List.length_cons, List.length_nil] at eL ⊢
              first | rfl | (congr 1; done) | (congr 1; omega)
          case rest =>
            obtain ⟨g', cap', rfl, ho', hb'⟩ := hcut
            have RR := Lib.hid (show _ ∧ _ from ⟨ho', hb'⟩)
            clear ho' hb'
            go_wp2
            go_ret
            exact ⟨g', cap', rfl, RR.out.1, RR.out.2⟩
        · have hkc2 : cap = 0 := by omega
          have hkm2 : m = 0 := by omega
          subst hkc2
          subst hkm2
          have hdk0 : dk = [] := List.length_eq_zero_iff.1 (by have := HTD.out.2; omega)
          have RT2 : Hid (Reads w (.slice (some ⟨g, 0, none⟩) (0) (0)) tk ∧ Reads w (.slice (some ⟨g, 0, none⟩) 0 0) dk) := ⟨by have h := RT.out.1; exact h, by rw [hdk0]; exact ⟨some ⟨g, 0, none⟩, 0, rfl, .inl rfl, fun h => by cases h⟩⟩
          clear RT hdk0
          have RT := RT2
          clear RT2
          go_wp2_with fail
          go_cut [4] from 21 to 32 (fun q wx => ∃ g' cap', q = .slice (some ⟨g', 0, none⟩) (0 + 1) cap' ∧ OwnI 3 wx w.heap.size q R ∧ Below w.heap.size w wx)
          case first =>
            go_wp2_with fail
            refine tree (S := fun _ => True) (Tr.two [false, true, true, true, false, true, false, false, true, true, true] 0 (Tr.two [] 4 (Tr.one [] 6 (Tr.one [] 7 (Tr.one [] 11 (Tr.leaf [false, false, false, false, false, false, false, false, false, false, false, false, true])))) 6 (Tr.one [] 4 (Tr.one [] 7 (Tr.one [] 11 (Tr.leaf [false, false, false, false, false, false, false, false, false, false, false, false, true]))))) 6 (Tr.one [] 0 (Tr.one [] 4 (Tr.one [] 7 (Tr.one [] 11 (Tr.leaf [false, false, false, false, false, false, false, false, false, false, false, false, true])))))) (by kernel_rfl) (by kernel_rfl) (by kernel_rfl) trivial ?_
            simp only [wpTr, pickB, List.toList_toArray, List.getElem?_toArray, List.getElem?_cons_succ, List.getElem?_cons_zero, Option.toList_some]
            have hne : Nonempty (Wd (fun _ : World => True)) := ⟨⟨w, trivial⟩⟩
            repeat (go_big_quiet_step (fail))
            refine wpQuiet_nil ?_
            constructor
            · intro K hK
              have BB0 : Hid (Below w.heap.size w w.drew) := (Below.refl _ _).drew
              have RD0 := Lib.hid (show _ ∧ _ from ⟨Reads.below RT.out.1 BB0.out (Nat.le_refl _), Reads.below RT.out.2 BB0.out (Nat.le_refl _)⟩)
              go_wp2_with fail
              obtain ⟨v1, hv1⟩ : ∃ q, q = (w.alloc (.cells #[] 3)).drew := ⟨_, rfl⟩
              have hba : Below w.heap.size w.drew v1 := by rw [hv1]; exact Below.trans (b := w) ⟨rfl, rfl, rfl, Nat.le_refl _, fun _ _ => rfl⟩ ((Below.refl w.heap.size w).alloc (Nat.le_refl _) _).drew
              have EE1 : Hid (OwnI 3 v1 w.heap.size (.slice (some ⟨w.heap.size, 0, none⟩) 0 0) []) := by rw [hv1]; exact emptyRow _ _ _ _ rfl BB0.out.size
              have BB1 : Hid (Below w.heap.size w v1) := BB0.out.trans (hba.mono BB0.out.size)
              rw [← hv1]
              refine hK _ _ trivial ?_
              clear hK K hv1 hba
              have RD1 := Lib.hid (show _ ∧ _ from ⟨Reads.below RT.out.1 BB1.out (Nat.le_refl _), Reads.below RT.out.2 BB1.out (Nat.le_refl _)⟩)
              repeat (go_big_quiet_step (fail))
              refine wpQuiet_nil ?_
              constructor
              · intro K hK
                go_wp2_with (at_builtin; refine wpList_appAll v1 rfl (.tmp 21) (.tmp 24) 32 rfl w.heap.size 3 Tryd.underlying32 infoInt _ [] tk rfl EE1.out _ rfl RD1.out.1 (by have := HTD.out; simp; omega) BB1.out.size ?_)
                intro vv v2 ho hg hge
                try rw [List.nil_append] at ho
                have hba : Below w.heap.size v1 v2 := below_of_grown hg BB1.out.size (fun q hq => (World.ownsRow.lt EE1.out q hq).1)
                have BB2 : Hid (Below w.heap.size w v2) := BB1.out.trans hba
                have VV2 := Lib.hid ho
                clear ho hg hba hge
                refine hK _ _ trivial ?_
                clear hK K
                have RD2 := Lib.hid (show _ ∧ _ from ⟨Reads.below RT.out.1 BB2.out (Nat.le_refl _), Reads.below RT.out.2 BB2.out (Nat.le_refl _)⟩)
                repeat (go_big_quiet_step (fail))
                refine wpQuiet_nil ?_
                intro K hK
                go_wp2_with fail
                obtain ⟨v3, hv3⟩ : ∃ q, q = v2.alloc (.cells #[.int .i64 n] 3) := ⟨_, rfl⟩
                have hba : Below v2.heap.size v2 v3 := by rw [hv3]; exact (Below.refl _ _).alloc (Nat.le_refl _) _
                have VV3 := Lib.hid (VV2.out.below hba (Nat.le_refl _))
                have CC3 : Hid (v3.cell? ⟨v2.heap.size, 0, none⟩ = some (.int .i64 n)) := by rw [hv3]; simp [Hid]
                have BB3 : Hid (Below w.heap.size w v3) := BB2.out.trans (hba.mono BB2.out.size)
                rw [← hv3]
                refine hK _ _ trivial ?_
                clear hK K hv3 hba
                have RD3 := Lib.hid (show _ ∧ _ from ⟨Reads.below RT.out.1 BB3.out (Nat.le_refl _), Reads.below RT.out.2 BB3.out (Nat.le_refl _)⟩)
                repeat (go_big_quiet_step (fail))
                refine wpQuiet_nil ?_
                intro K hK
                go_wp2_with (at_builtin; refine wpList_appL v3 rfl (.tmp 25) (.tmp 27) 32 rfl w.heap.size 3 Tryd.underlying32 infoInt _ tk rfl VV3.out (v2.heap.size) n rfl CC3.out (by have := HTD.out; simp; omega) BB3.out.size ?_)
                intro gq cq v4 ho hgr
                have hg := hgr.grown
                have hba : Below w.heap.size v3 v4 := below_of_grown hg BB3.out.size (fun q hq => (World.ownsRow.lt VV3.out q hq).1)
                have BB4 : Hid (Below w.heap.size w v4) := BB3.out.trans hba
                have VV4 := Lib.hid ho
                clear ho hg hba hgr
                refine hK _ _ trivial ?_
                clear hK K
                have RD4 := Lib.hid (show _ ∧ _ from ⟨Reads.below RT.out.1 BB4.out (Nat.le_refl _), Reads.below RT.out.2 BB4.out (Nat.le_refl _)⟩)
                repeat (go_big_quiet_step (fail))
                refine wpQuiet_nil ?_
                intro K hK
                go_wp2_with (at_builtin; refine wpList_appAll v4 rfl (.tmp 28) (.tmp 31) 32 rfl w.heap.size 3 Tryd.underlying32 infoInt _ (tk ++ [n]) dk rfl VV4.out _ rfl RD4.out.2 (by have := HTD.out; simp; omega) BB4.out.size ?_)
                intro vv v5 ho hg hge
                have hba : Below w.heap.size v4 v5 := below_of_grown hg BB4.out.size (fun q hq => (World.ownsRow.lt VV4.out q hq).1)
                have BB5 : Hid (Below w.heap.size w v5) := BB4.out.trans hba
                have VV5 := Lib.hid ho
                clear ho hg hba hge
                refine hK _ _ trivial ?_
                clear hK K
                have RD5 := Lib.hid (show _ ∧ _ from ⟨Reads.below RT.out.1 BB5.out (Nat.le_refl _), Reads.below RT.out.2 BB5.out (Nat.le_refl _)⟩)
                repeat (go_big_quiet_step (fail))
                refine wpQuiet_nil ?_
                rcases VV5.out.shape with ⟨_, h0⟩ | ⟨gz, cz, rfl⟩
                · simp at h0
                have e : Hid (R = tk ++ n :: dk) := by rw [Hid, HE.out]; simp
                go_wp2_with fail
                go_meet
                have eL : (tk ++ n :: dk).length = 0 + 1 := by rw [← e.out]; exact HRL.out
                have hv := VV5.out
                refine ⟨gz, cz, ?_, by rw [e.out]; simpa using hv, BB5.out⟩
                simp only [List.length_append, List.length_cons, List.length_nil] at eL ⊢
                first | rfl | (congr 1; done) | (congr 1; omega)
              · intro K hK
                go_wp2_with fail
                obtain ⟨v2, hv2⟩ : ∃ q, q = v1.alloc (.cells #[.int .i64 n] 3) := ⟨_, rfl⟩
                have hba : Below v1.heap.size v1 v2 := by rw [hv2]; exact (Below.refl _ _).alloc (Nat.le_refl _) _
                have EE2 := Lib.hid (EE1.out.below hba (Nat.le_refl _))
                have CC2 : Hid (v2.cell? ⟨v1.heap.size, 0, none⟩ = some (.int .i64 n)) := by rw [hv2]; simp [Hid]
                have HNE : Hid (v1.heap.size ≠ w.heap.size) := Nat.ne_of_gt (EE1.out.ge.2)
                have BB2 : Hid (Below w.heap.size w v2) := BB1.out.trans (hba.mono BB1.out.size)
                rw [← hv2]
                refine hK _ _ trivial ?_
                clear hK K hv2 hba
                have RD2 := Lib.hid (show _ ∧ _ from ⟨Reads.below RT.out.1 BB2.out (Nat.le_refl _), Reads.below RT.out.2 BB2.out (Nat.le_refl _)⟩)
                repeat (go_big_quiet_step (fail))
                refine wpQuiet_nil ?_
                intro K hK
                go_wp2_with (at_builtin; refine wpList_appAll v2 rfl (.tmp 21) (.tmp 24) 32 rfl w.heap.size 3 Tryd.underlying32 infoInt _ [] tk rfl EE2.out _ rfl RD2.out.1 (by have := HTD.out; simp; omega) BB2.out.size ?_)
                intro vv v3 ho hg hge
                try rw [List.nil_append] at ho
                have hba : Below w.heap.size v2 v3 := below_of_grown hg BB2.out.size (fun q hq => (World.ownsRow.lt EE2.out q hq).1)
                have BB3 : Hid (Below w.heap.size w v3) := BB2.out.trans hba
                have CC3 : Hid (v3.cell? ⟨v1.heap.size, 0, none⟩ = some (.int .i64 n)) := hg.cell CC2.out (by have := HNE.out; simpa [Value.ownBlock] using this)
                have VV3 := Lib.hid ho
                clear ho hg hba hge
                refine hK _ _ trivial ?_
                clear hK K
                have RD3 := Lib.hid (show _ ∧ _ from ⟨Reads.below RT.out.1 BB3.out (Nat.le_refl _), Reads.below RT.out.2 BB3.out (Nat.le_refl _)⟩)
                repeat (go_big_quiet_step (fail))
                refine wpQuiet_nil ?_
                intro K hK
                go_wp2_with (at_builtin; refine wpList_appL v3 rfl (.tmp 25) (.tmp 27) 32 rfl w.heap.size 3 Tryd.underlying32 infoInt _ tk rfl VV3.out (v1.heap.size) n rfl CC3.out (by have := HTD.out; simp; omega) BB3.out.size ?_)
                intro gq cq v4 ho hgr
                have hg := hgr.grown
                have hba : Below w.heap.size v3 v4 := below_of_grown hg BB3.out.size (fun q hq => (World.ownsRow.lt VV3.out q hq).1)
                have BB4 : Hid (Below w.heap.size w v4) := BB3.out.trans hba
                have VV4 := Lib.hid ho
                clear ho hg hba hgr
                refine hK _ _ trivial ?_
                clear hK K
                have RD4 := Lib.hid (show _ ∧ _ from ⟨Reads.below RT.out.1 BB4.out (Nat.le_refl _), Reads.below RT.out.2 BB4.out (Nat.le_refl _)⟩)
                repeat (go_big_quiet_step (fail))
                refine wpQuiet_nil ?_
                intro K hK
                go_wp2_with (at_builtin; refine wpList_appAll v4 rfl (.tmp 28) (.tmp 31) 32 rfl w.heap.size 3 Tryd.underlying32 infoInt _ (tk ++ [n]) dk rfl VV4.out _ rfl RD4.out.2 (by have := HTD.out; simp; omega) BB4.out.size ?_)
                intro vv v5 ho hg hge
                have hba : Below w.heap.size v4 v5 := below_of_grown hg BB4.out.size (fun q hq => (World.ownsRow.lt VV4.out q hq).1)
                have BB5 : Hid (Below w.heap.size w v5) := BB4.out.trans hba
                have VV5 := Lib.hid ho
                clear ho hg hba hge
                refine hK _ _ trivial ?_
                clear hK K
                have RD5 := Lib.hid (show _ ∧ _ from ⟨Reads.below RT.out.1 BB5.out (Nat.le_refl _), Reads.below RT.out.2 BB5.out (Nat.le_refl _)⟩)
                repeat (go_big_quiet_step (fail))
                refine wpQuiet_nil ?_
                rcases VV5.out.shape with ⟨_, h0⟩ | ⟨gz, cz, rfl⟩
                · simp at h0
                have e : Hid (R = tk ++ n :: dk) := by rw [Hid, HE.out]; simp
                go_wp2_with fail
                go_meet
                have eL : (tk ++ n :: dk).length = 0 + 1 := by rw [← e.out]; exact HRL.out
                have hv := VV5.out
                refine ⟨gz, cz, ?_, by rw [e.out]; simpa using hv, BB5.out⟩
                simp only [List.length_append, List.length_cons, List.length_nil] at eL ⊢
                first | rfl | (congr 1; done) | (congr 1; omega)
            · intro K hK
              have BB0 : Hid (Below w.heap.size w w.drew) := (Below.refl _ _).drew
              have RD0 := Lib.hid (show _ ∧ _ from ⟨Reads.below RT.out.1 BB0.out (Nat.le_refl _), Reads.below RT.out.2 BB0.out (Nat.le_refl _)⟩)
              go_wp2_with fail
              obtain ⟨v1, hv1⟩ : ∃ q, q = (w.alloc (.cells #[.int .i64 n] 3)).drew := ⟨_, rfl⟩
              have hba : Below w.heap.size w.drew v1 := by rw [hv1]; exact Below.trans (b := w) ⟨rfl, rfl, rfl, Nat.le_refl _, fun _ _ => rfl⟩ ((Below.refl w.heap.size w).alloc (Nat.le_refl _) _).drew
              have CC1 : Hid (v1.cell? ⟨w.heap.size, 0, none⟩ = some (.int .i64 n)) := by rw [hv1]; simp [Hid]
              have BB1 : Hid (Below w.heap.size w v1) := BB0.out.trans (hba.mono BB0.out.size)
              rw [← hv1]
              refine hK _ _ trivial ?_
              clear hK K hv1 hba
              have RD1 := Lib.hid (show _ ∧ _ from ⟨Reads.below RT.out.1 BB1.out (Nat.le_refl _), Reads.below RT.out.2 BB1.out (Nat.le_refl _)⟩)
              repeat (go_big_quiet_step (fail))
              refine wpQuiet_nil ?_
              intro K hK
              go_wp2_with fail
              obtain ⟨v2, hv2⟩ : ∃ q, q = v1.alloc (.cells #[] 3) := ⟨_, rfl⟩
              have hba : Below v1.heap.size v1 v2 := by rw [hv2]; exact (Below.refl _ _).alloc (Nat.le_refl _) _
              have CC2 : Hid (v2.cell? ⟨w.heap.size, 0, none⟩ = some (.int .i64 n)) := keepCell hba CC1.out
              have EE2 : Hid (OwnI 3 v2 w.heap.size (.slice (some ⟨v1.heap.size, 0, none⟩) 0 0) []) := by rw [hv2]; exact emptyRow _ _ _ _ rfl BB1.out.size
              have HNE : Hid (w.heap.size ≠ v1.heap.size) := Nat.ne_of_lt (World.block_lt_of_cell? _ _ CC1.out)
              have BB2 : Hid (Below w.heap.size w v2) := BB1.out.trans (hba.mono BB1.out.size)
              rw [← hv2]
              refine hK _ _ trivial ?_
              clear hK K hv2 hba
              have RD2 := Lib.hid (show _ ∧ _ from ⟨Reads.below RT.out.1 BB2.out (Nat.le_refl _), Reads.below RT.out.2 BB2.out (Nat.le_refl _)⟩)
              repeat (go_big_quiet_step (fail))
              refine wpQuiet_nil ?_
              intro K hK
              go_wp2_with (at_builtin; refine wpList_appAll v2 rfl (.tmp 21) (.tmp 24) 32 rfl w.heap.size 3 Tryd.underlying32 infoInt _ [] tk rfl EE2.out _ rfl RD2.out.1 (by have := HTD.out; simp; omega) BB2.out.size ?_)
              intro vv v3 ho hg hge
              try rw [List.nil_append] at ho
              have hba : Below w.heap.size v2 v3 := below_of_grown hg BB2.out.size (fun q hq => (World.ownsRow.lt EE2.out q hq).1)
              have BB3 : Hid (Below w.heap.size w v3) := BB2.out.trans hba
              have CC3 : Hid (v3.cell? ⟨w.heap.size, 0, none⟩ = some (.int .i64 n)) := hg.cell CC2.out (by have := HNE.out; simpa [Value.ownBlock] using this)
              have VV3 := Lib.hid ho
              clear ho hg hba hge
              refine hK _ _ trivial ?_
              clear hK K
              have RD3 := Lib.hid (show _ ∧ _ from ⟨Reads.below RT.out.1 BB3.out (Nat.le_refl _), Reads.below RT.out.2 BB3.out (Nat.le_refl _)⟩)
              repeat (go_big_quiet_step (fail))
              refine wpQuiet_nil ?_
              intro K hK
              go_wp2_with (at_builtin; refine wpList_appL v3 rfl (.tmp 25) (.tmp 27) 32 rfl w.heap.size 3 Tryd.underlying32 infoInt _ tk rfl VV3.out (w.heap.size) n rfl CC3.out (by have := HTD.out; simp; omega) BB3.out.size ?_)
              intro gq cq v4 ho hgr
              have hg := hgr.grown
              have hba : Below w.heap.size v3 v4 := below_of_grown hg BB3.out.size (fun q hq => (World.ownsRow.lt VV3.out q hq).1)
              have BB4 : Hid (Below w.heap.size w v4) := BB3.out.trans hba
              have VV4 := Lib.hid ho
              clear ho hg hba hgr
              refine hK _ _ trivial ?_
              clear hK K
              have RD4 := Lib.hid (show _ ∧ _ from ⟨Reads.below RT.out.1 BB4.out (Nat.le_refl _), Reads.below RT.out.2 BB4.out (Nat.le_refl _)⟩)
              repeat (go_big_quiet_step (fail))
              refine wpQuiet_nil ?_
              intro K hK
              go_wp2_with (at_builtin; refine wpList_appAll v4 rfl (.tmp 28) (.tmp 31) 32 rfl w.heap.size 3 Tryd.underlying32 infoInt _ (tk ++ [n]) dk rfl VV4.out _ rfl RD4.out.2 (by have := HTD.out; simp; omega) BB4.out.size ?_)
              intro vv v5 ho hg hge
              have hba : Below w.heap.size v4 v5 := below_of_grown hg BB4.out.size (fun q hq => (World.ownsRow.lt VV4.out q hq).1)
              have BB5 : Hid (Below w.heap.size w v5) := BB4.out.trans hba
              have VV5 := Lib.hid ho
              clear ho hg hba hge
              refine hK _ _ trivial ?_
              clear hK K
              have RD5 := Lib.hid (show _ ∧ _ from ⟨Reads.below RT.out.1 BB5.out (Nat.le_refl _), Reads.below RT.out.2 BB5.out (Nat.le_refl _)⟩)
              repeat (go_big_quiet_step (fail))
              refine wpQuiet_nil ?_
              rcases VV5.out.shape with ⟨_, h0⟩ | ⟨gz, cz, rfl⟩
              · simp at h0
              have e : Hid (R = tk ++ n :: dk) := by rw [Hid, HE.out]; simp
              go_wp2_with fail
              go_meet
              have eL : (tk ++ n :: dk).length = 0 + 1 := by rw [← e.out]; exact HRL.out
              have hv := VV5.out
              refine ⟨gz, cz, ?_, by rw [e.out]; simpa using hv, BB5.out⟩
              simp only [List.length_append, List.length_cons, List.length_nil] at eL ⊢
              first | rfl | (congr 1; done) | (congr 1; omega)
          case rest =>
            obtain ⟨g', cap', rfl, ho', hb'⟩ := hcut
            have RR := Lib.hid (show _ ∧ _ from ⟨ho', hb'⟩)
            clear ho' hb'
            go_wp2
            go_ret
            exact ⟨g', cap', rfl, RR.out.1, RR.out.2⟩
      · have hck := HHO.out.cell (k - 1) (by have := HM.out; omega)
        obtain ⟨y, hy⟩ : ∃ y, y = l.getD (k - 1) 0 := ⟨_, rfl⟩
        rw [← hy] at hck hle
        clear hy
        obtain ⟨k', rfl⟩ : ∃ k', k = k' + 1 := ⟨k - 1, by omega⟩
        rw [Nat.add_sub_cancel] at hck
        by_cases hkc : k' + 1 < cap
        · go_wp2_with fail
          go_cut [4] from 21 to 32 (fun q wx => ∃ g' cap', q = .slice (some ⟨g', 0, none⟩) (m + 1) cap' ∧ OwnI 3 wx w.heap.size q R ∧ Below w.heap.size w wx)
          case first =>
            go_wp2_with fail
            refine tree (S := fun _ => True) (Tr.two [false, true, true, true, false, true, false, false, true, true, true] 0 (Tr.two [] 4 (Tr.one [] 6 (Tr.one [] 7 (Tr.one [] 11 (Tr.leaf [false, false, false, false, false, false, false, false, false, false, false, false, true])))) 6 (Tr.one [] 4 (Tr.one [] 7 (Tr.one [] 11 (Tr.leaf [false, false, false, false, false, false, false, false, false, false, false, false, true]))))) 6 (Tr.one [] 0 (Tr.one [] 4 (Tr.one [] 7 (Tr.one [] 11 (Tr.leaf [false, false, false, false, false, false, false, false, false, false, false, false, true])))))) (by kernel_rfl) (by kernel_rfl) (by kernel_rfl) trivial ?_
            simp only [wpTr, pickB, List.toList_toArray, List.getElem?_toArray, List.getElem?_cons_succ, List.getElem?_cons_zero, Option.toList_some]
            have hne : Nonempty (Wd (fun _ : World => True)) := ⟨⟨w, trivial⟩⟩
            repeat (go_big_quiet_step (fail))
            refine wpQuiet_nil ?_
            constructor
            · intro K hK
              have BB0 : Hid (Below w.heap.size w w.drew) := (Below.refl _ _).drew
              have RD0 := Lib.hid (show _ ∧ _ from ⟨Reads.below RT.out.1 BB0.out (Nat.le_refl _), Reads.below RT.out.2 BB0.out (Nat.le_refl _)⟩)
              go_wp2_with fail
              obtain ⟨v1, hv1⟩ : ∃ q, q = (w.alloc (.cells #[] 3)).drew := ⟨_, rfl⟩
              have hba : Below w.heap.size w.drew v1 := by rw [hv1]; exact Below.trans (b := w) ⟨rfl, rfl, rfl, Nat.le_refl _, fun _ _ => rfl⟩ ((Below.refl w.heap.size w).alloc (Nat.le_refl _) _).drew
              have EE1 : Hid (OwnI 3 v1 w.heap.size (.slice (some ⟨w.heap.size, 0, none⟩) 0 0) []) := by rw [hv1]; exact emptyRow _ _ _ _ rfl BB0.out.size
              have BB1 : Hid (Below w.heap.size w v1) := BB0.out.trans (hba.mono BB0.out.size)
              rw [← hv1]
              refine hK _ _ trivial ?_
              clear hK K hv1 hba
              have RD1 := Lib.hid (show _ ∧ _ from ⟨Reads.below RT.out.1 BB1.out (Nat.le_refl _), Reads.below RT.out.2 BB1.out (Nat.le_refl _)⟩)
              repeat (go_big_quiet_step (fail))
              refine wpQuiet_nil ?_
              constructor
              · intro K hK
                go_wp2_with (at_builtin; refine wpList_appAll v1 rfl (.tmp 21) (.tmp 24) 32 rfl w.heap.size 3 Tryd.underlying32 infoInt _ [] tk rfl EE1.out _ rfl RD1.out.1 (by have := HTD.out; simp; omega) BB1.out.size ?_)
                intro vv v2 ho hg hge
                try rw [List.nil_append] at ho
                have hba : Below w.heap.size v1 v2 := below_of_grown hg BB1.out.size (fun q hq => (World.ownsRow.lt EE1.out q hq).1)
                have BB2 : Hid (Below w.heap.size w v2) := BB1.out.trans hba
                have VV2 := Lib.hid ho
                clear ho hg hba hge
                refine hK _ _ trivial ?_
                clear hK K
                have RD2 := Lib.hid (show _ ∧ _ from ⟨Reads.below RT.out.1 BB2.out (Nat.le_refl _), Reads.below RT.out.2 BB2.out (Nat.le_refl _)⟩)
                repeat (go_big_quiet_step (fail))
                refine wpQuiet_nil ?_
                intro K hK
                go_wp2_with fail
                obtain ⟨v3, hv3⟩ : ∃ q, q = v2.alloc (.cells #[.int .i64 n] 3) := ⟨_, rfl⟩
                have hba : Below v2.heap.size v2 v3 := by rw [hv3]; exact (Below.refl _ _).alloc (Nat.le_refl _) _
                have VV3 := Lib.hid (VV2.out.below hba (Nat.le_refl _))
                have CC3 : Hid (v3.cell? ⟨v2.heap.size, 0, none⟩ = some (.int .i64 n)) := by rw [hv3]; simp [Hid]
                have BB3 : Hid (Below w.heap.size w v3) := BB2.out.trans (hba.mono BB2.out.size)
                rw [← hv3]
                refine hK _ _ trivial ?_
                clear hK K hv3 hba
                have RD3 := Lib.hid (show _ ∧ _ from ⟨Reads.below RT.out.1 BB3.out (Nat.le_refl _), Reads.below RT.out.2 BB3.out (Nat.le_refl _)⟩)
                repeat (go_big_quiet_step (fail))
                refine wpQuiet_nil ?_
                intro K hK
                go_wp2_with (at_builtin; refine wpList_appL v3 rfl (.tmp 25) (.tmp 27) 32 rfl w.heap.size 3 Tryd.underlying32 infoInt _ tk rfl VV3.out (v2.heap.size) n rfl CC3.out (by have := HTD.out; simp; omega) BB3.out.size ?_)
                intro gq cq v4 ho hgr
                have hg := hgr.grown
                have hba : Below w.heap.size v3 v4 := below_of_grown hg BB3.out.size (fun q hq => (World.ownsRow.lt VV3.out q hq).1)
                have BB4 : Hid (Below w.heap.size w v4) := BB3.out.trans hba
                have VV4 := Lib.hid ho
                clear ho hg hba hgr
                refine hK _ _ trivial ?_
                clear hK K
                have RD4 := Lib.hid (show _ ∧ _ from ⟨Reads.below RT.out.1 BB4.out (Nat.le_refl _), Reads.below RT.out.2 BB4.out (Nat.le_refl _)⟩)
                repeat (go_big_quiet_step (fail))
                refine wpQuiet_nil ?_
                intro K hK
                go_wp2_with (at_builtin; refine wpList_appAll v4 rfl (.tmp 28) (.tmp 31) 32 rfl w.heap.size 3 Tryd.underlying32 infoInt _ (tk ++ [n]) dk rfl VV4.out _ rfl RD4.out.2 (by have := HTD.out; simp; omega) BB4.out.size ?_)
                intro vv v5 ho hg hge
                have hba : Below w.heap.size v4 v5 := below_of_grown hg BB4.out.size (fun q hq => (World.ownsRow.lt VV4.out q hq).1)
                have BB5 : Hid (Below w.heap.size w v5) := BB4.out.trans hba
                have VV5 := Lib.hid ho
                clear ho hg hba hge
                refine hK _ _ trivial ?_
                clear hK K
                have RD5 := Lib.hid (show _ ∧ _ from ⟨Reads.below RT.out.1 BB5.out (Nat.le_refl _), Reads.below RT.out.2 BB5.out (Nat.le_refl _)⟩)
                repeat (go_big_quiet_step (fail))
                refine wpQuiet_nil ?_
                rcases VV5.out.shape with ⟨_, h0⟩ | ⟨gz, cz, rfl⟩
                · simp at h0
                have e : Hid (R = tk ++ n :: dk) := by rw [Hid, HE.out]; simp
                go_wp2_with fail
                go_meet
                have eL : (tk ++ n :: dk).length = m + 1 := by rw [← e.out]; exact HRL.out
                have hv := VV5.out
                refine ⟨gz, cz, ?_, by rw [e.out]; simpa using hv, BB5.out⟩
                simp only [List.length_append, List.length_cons, List.length_nil] at eL ⊢
                first | rfl | (congr 1; done) | (congr 1; omega)
              · intro K hK
                go_wp2_with fail
                obtain ⟨v2, hv2⟩ : ∃ q, q = v1.alloc (.cells #[.int .i64 n] 3) := ⟨_, rfl⟩
                have hba : Below v1.heap.size v1 v2 := by rw [hv2]; exact (Below.refl _ _).alloc (Nat.le_refl _) _
                have EE2 := Lib.hid (EE1.out.below hba (Nat.le_refl _))
                have CC2 : Hid (v2.cell? ⟨v1.heap.size, 0, none⟩ = some (.int .i64 n)) := by rw [hv2]; simp [Hid]
                have HNE : Hid (v1.heap.size ≠ w.heap.size) := Nat.ne_of_gt (EE1.out.ge.2)
                have BB2 : Hid (Below w.heap.size w v2) := BB1.out.trans (hba.mono BB1.out.size)
                rw [← hv2]
                refine hK _ _ trivial ?_
                clear hK K hv2 hba
                have RD2 := Lib.hid (show _ ∧ _ from ⟨Reads.below RT.out.1 BB2.out (Nat.le_refl _), Reads.below RT.out.2 BB2.out (Nat.le_refl _)⟩)
                repeat (go_big_quiet_step (fail))
                refine wpQuiet_nil ?_
                intro K hK
                go_wp2_with (at_builtin; refine wpList_appAll v2 rfl (.tmp 21) (.tmp 24) 32 rfl w.heap.size 3 Tryd.underlying32 infoInt _ [] tk rfl EE2.out _ rfl RD2.out.1 (by have := HTD.out; simp; omega) BB2.out.size ?_)
                intro vv v3 ho hg hge
                try rw [List.nil_append] at ho
                have hba : Below w.heap.size v2 v3 := below_of_grown hg BB2.out.size (fun q hq => (World.ownsRow.lt EE2.out q hq).1)
                have BB3 : Hid (Below w.heap.size w v3) := BB2.out.trans hba
                have CC3 : Hid (v3.cell? ⟨v1.heap.size, 0, none⟩ = some (.int .i64 n)) := hg.cell CC2.out (by have := HNE.out; simpa [Value.ownBlock] using this)
                have VV3 := Lib.hid ho
                clear ho hg hba hge
                refine hK _ _ trivial ?_
                clear hK K
                have RD3 := Lib.hid (show _ ∧ _ from ⟨Reads.below RT.out.1 BB3.out (Nat.le_refl _), Reads.below RT.out.2 BB3.out (Nat.le_refl _)⟩)
                repeat (go_big_quiet_step (fail))
                refine wpQuiet_nil ?_
                intro K hK
                go_wp2_with (at_builtin; refine wpList_appL v3 rfl (.tmp 25) (.tmp 27) 32 rfl w.heap.size 3 Tryd.underlying32 infoInt _ tk rfl VV3.out (v1.heap.size) n rfl CC3.out (by have := HTD.out; simp; omega) BB3.out.size ?_)
                intro gq cq v4 ho hgr
                have hg := hgr.grown
                have hba : Below w.heap.size v3 v4 := below_of_grown hg BB3.out.size (fun q hq => (World.ownsRow.lt VV3.out q hq).1)
                have BB4 : Hid (Below w.heap.size w v4) := BB3.out.trans hba
                have VV4 := Lib.hid ho
                clear ho hg hba hgr
                refine hK _ _ trivial ?_
                clear hK K
                have RD4 := Lib.hid (show _ ∧ _ from ⟨Reads.below RT.out.1 BB4.out (Nat.le_refl _), Reads.below RT.out.2 BB4.out (Nat.le_refl _)⟩)
                repeat (go_big_quiet_step (fail))
                refine wpQuiet_nil ?_
                intro K hK
                go_wp2_with (at_builtin; refine wpList_appAll v4 rfl (.tmp 28) (.tmp 31) 32 rfl w.heap.size 3 Tryd.underlying32 infoInt _ (tk ++ [n]) dk rfl VV4.out _ rfl RD4.out.2 (by have := HTD.out; simp; omega) BB4.out.size ?_)
                intro vv v5 ho hg hge
                have hba : Below w.heap.size v4 v5 := below_of_grown hg BB4.out.size (fun q hq => (World.ownsRow.lt VV4.out q hq).1)
                have BB5 : Hid (Below w.heap.size w v5) := BB4.out.trans hba
                have VV5 := Lib.hid ho
                clear ho hg hba hge
                refine hK _ _ trivial ?_
                clear hK K
                have RD5 := Lib.hid (show _ ∧ _ from ⟨Reads.below RT.out.1 BB5.out (Nat.le_refl _), Reads.below RT.out.2 BB5.out (Nat.le_refl _)⟩)
                repeat (go_big_quiet_step (fail))
                refine wpQuiet_nil ?_
                rcases VV5.out.shape with ⟨_, h0⟩ | ⟨gz, cz, rfl⟩
                · simp at h0
                have e : Hid (R = tk ++ n :: dk) := by rw [Hid, HE.out]; simp
                go_wp2_with fail
                go_meet
                have eL : (tk ++ n :: dk).length = m + 1 := by rw [← e.out]; exact HRL.out
                have hv := VV5.out
                refine ⟨gz, cz, ?_, by rw [e.out]; simpa using hv, BB5.out⟩
                simp only [List.length_append, List.length_cons, List.length_nil] at eL ⊢
                first | rfl | (congr 1; done) | (congr 1; omega)
            · intro K hK
              have BB0 : Hid (Below w.heap.size w w.drew) := (Below.refl _ _).drew
              have RD0 := Lib.hid (show _ ∧ _ from ⟨Reads.below RT.out.1 BB0.out (Nat.le_refl _), Reads.below RT.out.2 BB0.out (Nat.le_refl _)⟩)
              go_wp2_with fail
              obtain ⟨v1, hv1⟩ : ∃ q, q = (w.alloc (.cells #[.int .i64 n] 3)).drew := ⟨_, rfl⟩
              have hba : Below w.heap.size w.drew v1 := by rw [hv1]; exact Below.trans (b := w) ⟨rfl, rfl, rfl, Nat.le_refl _, fun _ _ => rfl⟩ ((Below.refl w.heap.size w).alloc (Nat.le_refl _) _).drew
              have CC1 : Hid (v1.cell? ⟨w.heap.size, 0, none⟩ = some (.int .i64 n)) := by rw [hv1]; simp [Hid]
              have BB1 : Hid (Below w.heap.size w v1) := BB0.out.trans (hba.mono BB0.out.size)
              rw [← hv1]
              refine hK _ _ trivial ?_
              clear hK K hv1 hba
              have RD1 := Lib.hid (show _ ∧ _ from ⟨Reads.below RT.out.1 BB1.out (Nat.le_refl _), Reads.below RT.out.2 BB1.out (Nat.le_refl _)⟩)
              repeat (go_big_quiet_step (fail))
              refine wpQuiet_nil ?_
              intro K hK
              go_wp2_with fail
              obtain ⟨v2, hv2⟩ : ∃ q, q = v1.alloc (.cells #[] 3) := ⟨_, rfl⟩
              have hba : Below v1.heap.size v1 v2 := by rw [hv2]; exact (Below.refl _ _).alloc (Nat.le_refl _) _
              have CC2 : Hid (v2.cell? ⟨w.heap.size, 0, none⟩ = some (.int .i64 n)) := keepCell hba CC1.out
              have EE2 : Hid (OwnI 3 v2 w.heap.size (.slice (some ⟨v1.heap.size, 0, none⟩) 0 0) []) := by rw [hv2]; exact emptyRow _ _ _ _ rfl BB1.out.size
              have HNE : Hid (w.heap.size ≠ v1.heap.size) := Nat.ne_of_lt (World.block_lt_of_cell? _ _ CC1.out)
              have BB2 : Hid (Below w.heap.size w v2) := BB1.out.trans (hba.mono BB1.out.size)
              rw [← hv2]
              refine hK _ _ trivial ?_
              clear hK K hv2 hba
              have RD2 := Lib.hid (show _ ∧ _ from ⟨Reads.below RT.out.1 BB2.out (Nat.le_refl _), Reads.below RT.out.2 BB2.out (Nat.le_refl _)⟩)
              repeat (go_big_quiet_step (fail))
              refine wpQuiet_nil ?_
              intro K hK
              go_wp2_with (at_builtin; refine wpList_appAll v2 rfl (.tmp 21) (.tmp 24) 32 rfl w.heap.size 3 Tryd.underlying32 infoInt _ [] tk rfl EE2.out _ rfl RD2.out.1 (by have := HTD.out; simp; omega) BB2.out.size ?_)
              intro vv v3 ho hg hge
              try rw [List.nil_append] at ho
              have hba : Below w.heap.size v2 v3 := below_of_grown hg BB2.out.size (fun q hq => (World.ownsRow.lt EE2.out q hq).1)
              have BB3 : Hid (Below w.heap.size w v3) := BB2.out.trans hba
              have CC3 : Hid (v3.cell? ⟨w.heap.size, 0, none⟩ = some (.int .i64 n)) := hg.cell CC2.out (by have := HNE.out; simpa [Value.ownBlock] using this)
              have VV3 := Lib.hid ho
              clear ho hg hba hge
              refine hK _ _ trivial ?_
              clear hK K
              have RD3 := Lib.hid (show _ ∧ _ from ⟨Reads.below RT.out.1 BB3.out (Nat.le_refl _), Reads.below RT.out.2 BB3.out (Nat.le_refl _)⟩)
              repeat (go_big_quiet_step (fail))
              refine wpQuiet_nil ?_
              intro K hK
              go_wp2_with (at_builtin; refine wpList_appL v3 rfl (.tmp 25) (.tmp 27) 32 rfl w.heap.size 3 Tryd.underlying32 infoInt _ tk rfl VV3.out (w.heap.size) n rfl CC3.out (by have := HTD.out; simp; omega) BB3.out.size ?_)
              intro gq cq v4 ho hgr
              have hg := hgr.grown
              have hba : Below w.heap.size v3 v4 := below_of_grown hg BB3.out.size (fun q hq => (World.ownsRow.lt VV3.out q hq).1)
              have BB4 : Hid (Below w.heap.size w v4) := BB3.out.trans hba
              have VV4 := Lib.hid ho
              clear ho hg hba hgr
              refine hK _ _ trivial ?_
              clear hK K
              have RD4 := Lib.hid (show _ ∧ _ from ⟨Reads.below RT.out.1 BB4.out (Nat.le_refl _), Reads.below RT.out.2 BB4.out (Nat.le_refl _)⟩)
              repeat (go_big_quiet_step (fail))
              refine wpQuiet_nil ?_
              intro K hK
              go_wp2_with (at_builtin; refine wpList_appAll v4 rfl (.tmp 28) (.tmp 31) 32 rfl w.heap.size 3 Tryd.underlying32 infoInt _ (tk ++ [n]) dk rfl VV4.out _ rfl RD4.out.2 (by have := HTD.out; simp; omega) BB4.out.size ?_)
              intro vv v5 ho hg hge
              have hba : Below w.heap.size v4 v5 := below_of_grown hg BB4.out.size (fun q hq => (World.ownsRow.lt VV4.out q hq).1)
              have BB5 : Hid (Below w.heap.size w v5) := BB4.out.trans hba
              have VV5 := Lib.hid ho
              clear ho hg hba hge
              refine hK _ _ trivial ?_
              clear hK K
              have RD5 := Lib.hid (show _ ∧ _ from ⟨Reads.below RT.out.1 BB5.out (Nat.le_refl _), Reads.below RT.out.2 BB5.out (Nat.le_refl _)⟩)
              repeat (go_big_quiet_step (fail))
              refine wpQuiet_nil ?_
              rcases VV5.out.shape with ⟨_, h0⟩ | ⟨gz, cz, rfl⟩
              · simp at h0
              have e : Hid (R = tk ++ n :: dk) := by rw [Hid, HE.out]; simp
              go_wp2_with fail
              go_meet
              have eL : (tk ++ n :: dk).length = m + 1 := by rw [← e.out]; exact HRL.out
              have hv := VV5.out
              refine ⟨gz, cz, ?_, by rw [e.out]; simpa using hv, BB5.out⟩
              simp only [List.length_append, List.length_cons, List.length_nil] at eL ⊢
              first | rfl | (congr 1; done) | (congr 1; omega)
          case rest =>
            obtain ⟨g', cap', rfl, ho', hb'⟩ := hcut
            have RR := Lib.hid (show _ ∧ _ from ⟨ho', hb'⟩)
            clear ho' hb'
            go_wp2
            go_ret
            exact ⟨g', cap', rfl, RR.out.1, RR.out.2⟩
        · have hkc2 : cap = k' + 1 := by omega
          have hkm2 : m = k' + 1 := by omega
          subst hkc2
          subst hkm2
          have hdk0 : dk = [] := List.length_eq_zero_iff.1 (by have := HTD.out.2; omega)
          have RT2 : Hid (Reads w (.slice (some ⟨g, 0, none⟩) (k' + 1) (k' + 1)) tk ∧ Reads w (.slice (some ⟨g, 0, none⟩) 0 0) dk) := ⟨by have h := RT.out.1; exact h, by rw [hdk0]; exact ⟨some ⟨g, 0, none⟩, 0, rfl, .inl rfl, fun h => by cases h⟩⟩
          clear RT hdk0
          have RT := RT2
          clear RT2
          go_wp2_with fail
          go_cut [4] from 21 to 32 (fun q wx => ∃ g' cap', q = .slice (some ⟨g', 0, none⟩) (k' + 1 + 1) cap' ∧ OwnI 3 wx w.heap.size q R ∧ Below w.heap.size w wx)
          case first =>
            go_wp2_with fail
            refine tree (S := fun _ => True) (Tr.two [false, true, true, true, false, true, false, false, true, true, true] 0 (Tr.two [] 4 (Tr.one [] 6 (Tr.one [] 7 (Tr.one [] 11 (Tr.leaf [false, false, false, false, false, false, false, false, false, false, false, false, true])))) 6 (Tr.one [] 4 (Tr.one [] 7 (Tr.one [] 11 (Tr.leaf [false, false, false, false, false, false, false, false, false, false, false, false, true]))))) 6 (Tr.one [] 0 (Tr.one [] 4 (Tr.one [] 7 (Tr.one [] 11 (Tr.leaf [false, false, false, false, false, false, false, false, false, false, false, false, true])))))) (by kernel_rfl) (by kernel_rfl) (by kernel_rfl) trivial ?_
            simp only [wpTr, pickB, List.toList_toArray, List.getElem?_toArray, List.getElem?_cons_succ, List.getElem?_cons_zero, Option.toList_some]
            have hne : Nonempty (Wd (fun _ : World => True)) := ⟨⟨w, trivial⟩⟩
            repeat (go_big_quiet_step (fail))
            refine wpQuiet_nil ?_
            constructor
            · intro K hK
              have BB0 : Hid (Below w.heap.size w w.drew) := (Below.refl _ _).drew
              have RD0 := Lib.hid (show _ ∧ _ from ⟨Reads.below RT.out.1 BB0.out (Nat.le_refl _), Reads.below RT.out.2 BB0.out (Nat.le_refl _)⟩)
              go_wp2_with fail
              obtain ⟨v1, hv1⟩ : ∃ q, q = (w.alloc (.cells #[] 3)).drew := ⟨_, rfl⟩
              have hba : Below w.heap.size w.drew v1 := by rw [hv1]; exact Below.trans (b := w) ⟨rfl, rfl, rfl, Nat.le_refl _, fun _ _ => rfl⟩ ((Below.refl w.heap.size w).alloc (Nat.le_refl _) _).drew
              have EE1 : Hid (OwnI 3 v1 w.heap.size (.slice (some ⟨w.heap.size, 0, none⟩) 0 0) []) := by rw [hv1]; exact emptyRow _ _ _ _ rfl BB0.out.size
              have BB1 : Hid (Below w.heap.size w v1) := BB0.out.trans (hba.mono BB0.out.size)
              rw [← hv1]
              refine hK _ _ trivial ?_
              clear hK K hv1 hba
              have RD1 := Lib.hid (show _ ∧ _ from ⟨Reads.below RT.out.1 BB1.out (Nat.le_refl _), Reads.below RT.out.2 BB1.out (Nat.le_refl _)⟩)
              repeat (go_big_quiet_step (fail))
              refine wpQuiet_nil ?_
              constructor
              · intro K hK
                go_wp2_with (at_builtin; refine wpList_appAll v1 rfl (.tmp 21) (.tmp 24) 32 rfl w.heap.size 3 Tryd.underlying32 infoInt _ [] tk rfl EE1.out _ rfl RD1.out.1 (by have := HTD.out; simp; omega) BB1.out.size ?_)
                intro vv v2 ho hg hge
                try rw [List.nil_append] at ho
                have hba : Below w.heap.size v1 v2 := below_of_grown hg BB1.out.size (fun q hq => (World.ownsRow.lt EE1.out q hq).1)
                have BB2 : Hid (Below w.heap.size w v2) := BB1.out.trans hba
                have VV2 := Lib.hid ho
                clear ho hg hba hge
                refine hK _ _ trivial ?_
                clear hK K
                have RD2 := Lib.hid (show _ ∧ _ from ⟨Reads.below RT.out.1 BB2.out (Nat.le_refl _), Reads.below RT.out.2 BB2.out (Nat.le_refl _)⟩)
                repeat (go_big_quiet_step (fail))
                refine wpQuiet_nil ?_
                intro K hK
                go_wp2_with fail
                obtain ⟨v3, hv3⟩ : ∃ q, q = v2.alloc (.cells #[.int .i64 n] 3) := ⟨_, rfl⟩
                have hba : Below v2.heap.size v2 v3 := by rw [hv3]; exact (Below.refl _ _).alloc (Nat.le_refl _) _
                have VV3 := Lib.hid (VV2.out.below hba (Nat.le_refl _))
                have CC3 : Hid (v3.cell? ⟨v2.heap.size, 0, none⟩ = some (.int .i64 n)) := by rw [hv3]; simp [Hid]
                have BB3 : Hid (Below w.heap.size w v3) := BB2.out.trans (hba.mono BB2.out.size)
                rw [← hv3]
                refine hK _ _ trivial ?_
                clear hK K hv3 hba
                have RD3 := Lib.hid (show _ ∧ _ from ⟨Reads.below RT.out.1 BB3.out (Nat.le_refl _), Reads.below RT.out.2 BB3.out (Nat.le_refl _)⟩)
                repeat (go_big_quiet_step (fail))
                refine wpQuiet_nil ?_
                intro K hK
                go_wp2_with (at_builtin; refine wpList_appL v3 rfl (.tmp 25) (.tmp 27) 32 rfl w.heap.size 3 Tryd.underlying32 infoInt _ tk rfl VV3.out (v2.heap.size) n rfl CC3.out (by have := HTD.out; simp; omega) BB3.out.size ?_)
                intro gq cq v4 ho hgr
                have hg := hgr.grown
                have hba : Below w.heap.size v3 v4 := below_of_grown hg BB3.out.size (fun q hq => (World.ownsRow.lt VV3.out q hq).1)
                have BB4 : Hid (Below w.heap.size w v4) := BB3.out.trans hba
                have VV4 := Lib.hid ho
                clear ho hg hba hgr
                refine hK _ _ trivial ?_
                clear hK K
                have RD4 := Lib.hid (show _ ∧ _ from ⟨Reads.below RT.out.1 BB4.out (Nat.le_refl _), Reads.below RT.out.2 BB4.out (Nat.le_refl _)⟩)
                repeat (go_big_quiet_step (fail))
                refine wpQuiet_nil ?_
                intro K hK
                go_wp2_with (at_builtin; refine wpList_appAll v4 rfl (.tmp 28) (.tmp 31) 32 rfl w.heap.size 3 Tryd.underlying32 infoInt _ (tk ++ [n]) dk rfl VV4.out _ rfl RD4.out.2 (by have := HTD.out; simp; omega) BB4.out.size ?_)
                intro vv v5 ho hg hge
                have hba : Below w.heap.size v4 v5 := below_of_grown hg BB4.out.size (fun q hq => (World.ownsRow.lt VV4.out q hq).1)
                have BB5 : Hid (Below w.heap.size w v5) := BB4.out.trans hba
                have VV5 := Lib.hid ho
                clear ho hg hba hge
                refine hK _ _ trivial ?_
                clear hK K
                have RD5 := Lib.hid (show _ ∧ _ from ⟨Reads.below RT.out.1 BB5.out (Nat.le_refl _), Reads.below RT.out.2 BB5.out (Nat.le_refl _)⟩)
                repeat (go_big_quiet_step (fail))
                refine wpQuiet_nil ?_
                rcases VV5.out.shape with ⟨_, h0⟩ | ⟨gz, cz, rfl⟩
                · simp at h0
                have e : Hid (R = tk ++ n :: dk) := by rw [Hid, HE.out]; simp
                go_wp2_with fail
                go_meet
                have eL : (tk ++ n :: dk).length = k' + 1 + 1 := by rw [← e.out]; exact HRL.out
                have hv := VV5.out
                refine ⟨gz, cz, ?_, by rw [e.out]; simpa using hv, BB5.out⟩
                simp only [List.length_append, List.length_cons, List.length_nil] at eL ⊢
                first | rfl | (congr 1; done) | (congr 1; omega)
              · intro K hK
                go_wp2_with fail
                obtain ⟨v2, hv2⟩ : ∃ q, q = v1.alloc (.cells #[.int .i64 n] 3) := ⟨_, rfl⟩
                have hba : Below v1.heap.size v1 v2 := by rw [hv2]; exact (Below.refl _ _).alloc (Nat.le_refl _) _
                have EE2 := Lib.hid (EE1.out.below hba (Nat.le_refl _))
                have CC2 : Hid (v2.cell? ⟨v1.heap.size, 0, none⟩ = some (.int .i64 n)) := by rw [hv2]; simp [Hid]
                have HNE : Hid (v1.heap.size ≠ w.heap.size) := Nat.ne_of_gt (EE1.out.ge.2)
                have BB2 : Hid (Below w.heap.size w v2) := BB1.out.trans (hba.mono BB1.out.size)
                rw [← hv2]
                refine hK _ _ trivial ?_
                clear hK K hv2 hba
                have RD2 := Lib.hid (show _ ∧ _ from ⟨Reads.below RT.out.1 BB2.out (Nat.le_refl _), Reads.below RT.out.2 BB2.out (Nat.le_refl _)⟩)
                repeat (go_big_quiet_step (fail))
                refine wpQuiet_nil ?_
                intro K hK
                go_wp2_with (at_builtin; refine wpList_appAll v2 rfl (.tmp 21) (.tmp 24) 32 rfl w.heap.size 3 Tryd.underlying32 infoInt _ [] tk rfl EE2.out _ rfl RD2.out.1 (by have := HTD.out; simp; omega) BB2.out.size ?_)
                intro vv v3 ho hg hge
                try rw [List.nil_append] at ho
                have hba : Below w.heap.size v2 v3 := below_of_grown hg BB2.out.size (fun q hq => (World.ownsRow.lt EE2.out q hq).1)
                have BB3 : Hid (Below w.heap.size w v3) := BB2.out.trans hba
                have CC3 : Hid (v3.cell? ⟨v1.heap.size, 0, none⟩ = some (.int .i64 n)) := hg.cell CC2.out (by have := HNE.out; simpa [Value.ownBlock] using this)
                have VV3 := Lib.hid ho
                clear ho hg hba hge
                refine hK _ _ trivial ?_
                clear hK K
                have RD3 := Lib.hid (show _ ∧ _ from ⟨Reads.below RT.out.1 BB3.out (Nat.le_refl _), Reads.below RT.out.2 BB3.out (Nat.le_refl _)⟩)
                repeat (go_big_quiet_step (fail))
                refine wpQuiet_nil ?_
                intro K hK
                go_wp2_with (at_builtin; refine wpList_appL v3 rfl (.tmp 25) (.tmp 27) 32 rfl w.heap.size 3 Tryd.underlying32 infoInt _ tk rfl VV3.out (v1.heap.size) n rfl CC3.out (by have := HTD.out; simp; omega) BB3.out.size ?_)
                intro gq cq v4 ho hgr
                have hg := hgr.grown
                have hba : Below w.heap.size v3 v4 := below_of_grown hg BB3.out.size (fun q hq => (World.ownsRow.lt VV3.out q hq).1)
                have BB4 : Hid (Below w.heap.size w v4) := BB3.out.trans hba
                have VV4 := Lib.hid ho
                clear ho hg hba hgr
                refine hK _ _ trivial ?_
                clear hK K
                have RD4 := Lib.hid (show _ ∧ _ from ⟨Reads.below RT.out.1 BB4.out (Nat.le_refl _), Reads.below RT.out.2 BB4.out (Nat.le_refl _)⟩)
                repeat (go_big_quiet_step (fail))
                refine wpQuiet_nil ?_
                intro K hK
                go_wp2_with (at_builtin; refine wpList_appAll v4 rfl (.tmp 28) (.tmp 31) 32 rfl w.heap.size 3 Tryd.underlying32 infoInt _ (tk ++ [n]) dk rfl VV4.out _ rfl RD4.out.2 (by have := HTD.out; simp; omega) BB4.out.size ?_)
                intro vv v5 ho hg hge
                have hba : Below w.heap.size v4 v5 := below_of_grown hg BB4.out.size (fun q hq => (World.ownsRow.lt VV4.out q hq).1)
                have BB5 : Hid (Below w.heap.size w v5) := BB4.out.trans hba
                have VV5 := Lib.hid ho
                clear ho hg hba hge
                refine hK _ _ trivial ?_
                clear hK K
                have RD5 := Lib.hid (show _ ∧ _ from ⟨Reads.below RT.out.1 BB5.out (Nat.le_refl _), Reads.below RT.out.2 BB5.out (Nat.le_refl _)⟩)
                repeat (go_big_quiet_step (fail))
                refine wpQuiet_nil ?_
                rcases VV5.out.shape with ⟨_, h0⟩ | ⟨gz, cz, rfl⟩
                · simp at h0
                have e : Hid (R = tk ++ n :: dk) := by rw [Hid, HE.out]; simp
                go_wp2_with fail
                go_meet
                have eL : (tk ++ n :: dk).length = k' + 1 + 1 := by rw [← e.out]; exact HRL.out
                have hv := VV5.out
                refine ⟨gz, cz, ?_, by rw [e.out]; simpa using hv, BB5.out⟩
                simp only [List.length_append, List.length_cons, List.length_nil] at eL ⊢
                first | rfl | (congr 1; done) | (congr 1; omega)
            · intro K hK
              have BB0 : Hid (Below w.heap.size w w.drew) := (Below.refl _ _).drew
              have RD0 := Lib.hid (show _ ∧ _ from ⟨Reads.below RT.out.1 BB0.out (Nat.le_refl _), Reads.below RT.out.2 BB0.out (Nat.le_refl _)⟩)
              go_wp2_with fail
              obtain ⟨v1, hv1⟩ : ∃ q, q = (w.alloc (.cells #[.int .i64 n] 3)).drew := ⟨_, rfl⟩
              have hba : Below w.heap.size w.drew v1 := by rw [hv1]; exact Below.trans (b := w) ⟨rfl, rfl, rfl, Nat.le_refl _, fun _ _ => rfl⟩ ((Below.refl w.heap.size w).alloc (Nat.le_refl _) _).drew
              have CC1 : Hid (v1.cell? ⟨w.heap.size, 0, none⟩ = some (.int .i64 n)) := by rw [hv1]; simp [Hid]
              have BB1 : Hid (Below w.heap.size w v1) := BB0.out.trans (hba.mono BB0.out.size)
              rw [← hv1]
              refine hK _ _ trivial ?_
              clear hK K hv1 hba
              have RD1 := Lib.hid (show _ ∧ _ from ⟨Reads.below RT.out.1 BB1.out (Nat.le_refl _), Reads.below RT.out.2 BB1.out (Nat.le_refl _)⟩)
              repeat (go_big_quiet_step (fail))
              refine wpQuiet_nil ?_
              intro K hK
              go_wp2_with fail
              obtain ⟨v2, hv2⟩ : ∃ q, q = v1.alloc (.cells #[] 3) := ⟨_, rfl⟩
              have hba : Below v1.heap.size v1 v2 := by rw [hv2]; exact (Below.refl _ _).alloc (Nat.le_refl _) _
              have CC2 : Hid (v2.cell? ⟨w.heap.size, 0, none⟩ = some (.int .i64 n)) := keepCell hba CC1.out
              have EE2 : Hid (OwnI 3 v2 w.heap.size (.slice (some ⟨v1.heap.size, 0, none⟩) 0 0) []) := by rw [hv2]; exact emptyRow _ _ _ _ rfl BB1.out.size
              have HNE : Hid (w.heap.size ≠ v1.heap.size) := Nat.ne_of_lt (World.block_lt_of_cell? _ _ CC1.out)
              have BB2 : Hid (Below w.heap.size w v2) := BB1.out.trans (hba.mono BB1.out.size)
              rw [← hv2]
              refine hK _ _ trivial ?_
              clear hK K hv2 hba
              have RD2 := Lib.hid (show _ ∧ _ from ⟨Reads.below RT.out.1 BB2.out (Nat.le_refl _), Reads.below RT.out.2 BB2.out (Nat.le_refl _)⟩)
              repeat (go_big_quiet_step (fail))
              refine wpQuiet_nil ?_
              intro K hK
              go_wp2_with (at_builtin; refine wpList_appAll v2 rfl (.tmp 21) (.tmp 24) 32 rfl w.heap.size 3 Tryd.underlying32 infoInt _ [] tk rfl EE2.out _ rfl RD2.out.1 (by have := HTD.out; simp; omega) BB2.out.size ?_)
              intro vv v3 ho hg hge
              try rw [List.nil_append] at ho
              have hba : Below w.heap.size v2 v3 := below_of_grown hg BB2.out.size (fun q hq => (World.ownsRow.lt EE2.out q hq).1)
              have BB3 : Hid (Below w.heap.size w v3) := BB2.out.trans hba
              have CC3 : Hid (v3.cell? ⟨w.heap.size, 0, none⟩ = some (.int .i64 n)) := hg.cell CC2.out (by have := HNE.out; simpa [Value.ownBlock] using this)
              have VV3 := Lib.hid ho
              clear ho hg hba hge
              refine hK _ _ trivial ?_
              clear hK K
              have RD3 := Lib.hid (show _ ∧ _ from ⟨Reads.below RT.out.1 BB3.out (Nat.le_refl _), Reads.below RT.out.2 BB3.out (Nat.le_refl _)⟩)
              repeat (go_big_quiet_step (fail))
              refine wpQuiet_nil ?_
              intro K hK
              go_wp2_with (at_builtin; refine wpList_appL v3 rfl (.tmp 25) (.tmp 27) 32 rfl w.heap.size 3 Tryd.underlying32 infoInt _ tk rfl VV3.out (w.heap.size) n rfl CC3.out (by have := HTD.out; simp; omega) BB3.out.size ?_)
              intro gq cq v4 ho hgr
              have hg := hgr.grown
              have hba : Below w.heap.size v3 v4 := below_of_grown hg BB3.out.size (fun q hq => (World.ownsRow.lt VV3.out q hq).1)
              have BB4 : Hid (Below w.heap.size w v4) := BB3.out.trans hba
              have VV4 := Lib.hid ho
              clear ho hg hba hgr
              refine hK _ _ trivial ?_
              clear hK K
              have RD4 := Lib.hid (show _ ∧ _ from ⟨Reads.below RT.out.1 BB4.out (Nat.le_refl _), Reads.below RT.out.2 BB4.out (Nat.le_refl _)⟩)
              repeat (go_big_quiet_step (fail))
              refine wpQuiet_nil ?_
              intro K hK
              go_wp2_with (at_builtin; refine wpList_appAll v4 rfl (.tmp 28) (.tmp 31) 32 rfl w.heap.size 3 Tryd.underlying32 infoInt _ (tk ++ [n]) dk rfl VV4.out _ rfl RD4.out.2 (by have := HTD.out; simp; omega) BB4.out.size ?_)
              intro vv v5 ho hg hge
              have hba : Below w.heap.size v4 v5 := below_of_grown hg BB4.out.size (fun q hq => (World.ownsRow.lt VV4.out q hq).1)
              have BB5 : Hid (Below w.heap.size w v5) := BB4.out.trans hba
              have VV5 := Lib.hid ho
              clear ho hg hba hge
              refine hK _ _ trivial ?_
              clear hK K
              have RD5 := Lib.hid (show _ ∧ _ from ⟨Reads.below RT.out.1 BB5.out (Nat.le_refl _), Reads.below RT.out.2 BB5.out (Nat.le_refl _)⟩)
              repeat (go_big_quiet_step (fail))
              refine wpQuiet_nil ?_
              rcases VV5.out.shape with ⟨_, h0⟩ | ⟨gz, cz, rfl⟩
              · simp at h0
              have e : Hid (R = tk ++ n :: dk) := by rw [Hid, HE.out]; simp
              go_wp2_with fail
              go_meet
              have eL : (tk ++ n :: dk).length = k' + 1 + 1 := by rw [← e.out]; exact HRL.out
              have hv := VV5.out
              refine ⟨gz, cz, ?_, by rw [e.out]; simpa using hv, BB5.out⟩
              simp only [List.length_append, List.length_cons, List.length_nil] at eL ⊢
              first | rfl | (congr 1; done) | (congr 1; omega)
          case rest =>
            obtain ⟨g', cap', rfl, ho', hb'⟩ := hcut
            have RR := Lib.hid (show _ ∧ _ from ⟨ho', hb'⟩)
            clear ho' hb'
            go_wp2
            go_ret
            exact ⟨g', cap', rfl, RR.out.1, RR.out.2⟩
    · have hck := HO.out.cell (k - 1) (by have := HM.out; omega)
      obtain ⟨y, hy⟩ : ∃ y, y = l.getD (k - 1) 0 := ⟨_, rfl⟩
      rw [← hy] at hck hgt
      have HN : Hid (∀ j, k - 1 ≤ j → j < m → n < l.getD j 0) := fun j h1 h2 => by
        by_cases e : j = k - 1
        · subst e; rw [← hy]; exact hgt
        · exact hlo.out j (by omega) h2
      obtain ⟨k', rfl⟩ : ∃ k', k = k' + 1 := ⟨k - 1, by omega⟩
      rw [Nat.add_sub_cancel] at hck HN
      clear hy hlo FIN
      go_wp2
      go_round
      case rel => exact ⟨k', by omega, by go_num, HN⟩
      case measure => simp [intOf]
end Go.Proofs.YtpcnoiigbmiejaaDoor.srt
