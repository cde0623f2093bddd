/- Several texts in one: Numb, Typ, DecS, Atoms, NewT, TypeP. -/
import Derived.Test.YtpcnoiigbmiejaaDoorTab
import Derived.Test.YtpcnoiigbmiejaaDoorRows
import Derived.Test.YtpcnoiigbmiejaaDoorChain
import Derived.Test.YtpcnoiigbmiejaaDoorSl
import Derived.Deep.CutRange
import Derived.Deep.CutBlock
import Derived.Test.YtpcnoiigbmiejaaDoorGame
import Derived.Test.YtpcnoiigbmiejaaDoorIns
import Derived.Test.YtpcnoiigbmiejaaDoorPkQ
import Derived.Laws.IdiomStrings
import Derived.Laws.Concat
import Derived.Laws.MakeOwn
/- The reference's table: l5New, l5Number. -/
namespace Go.Proofs.YtpcnoiigbmiejaaDoor.tab
set_option linter.unusedVariables false
set_option linter.unusedSimpArgs false
open Go.ChangeShapes Go.WideShapes Go.ChangeAt Go.RowKit
open Go.Proofs.YtpcnoiigbmiejaaDoor.lib Go.Proofs.YtpcnoiigbmiejaaDoor.flow Go.Proofs.YtpcnoiigbmiejaaDoor.chain

abbrev TabP (gl cl gc cc : Nat) (w : World) (D : Nat → Prop) (L : List ByteArray) (vs : List Value) : Prop := Tab 174 172 3 gl cl gc cc w D L vs
def hashTo (s : ByteArray) (j : Nat) : Nat := (s.data.toList.take j).foldl (fun k c => (k * 31 + c.toNat) % 997) 0
theorem hashTo_lt (s : ByteArray) (j : Nat) : hashTo s j < 997 := by
  have key : ∀ (l : List UInt8) (k : Nat), k < 997 → l.foldl (fun k c => (k * 31 + c.toNat) % 997) k < 997 := fun l => by
    induction l with
    | nil => intro k h; exact h
    | cons a l ih => intro k h; exact ih _ (Nat.mod_lt _ (by decide))
  exact key _ 0 (by decide)
theorem hashTo_full (s : ByteArray) : hashTo s s.size = hashB s := by
  unfold hashTo hashB
  rw [List.take_of_length_le (by simp)]
theorem hashTo_succ (s : ByteArray) (j : Nat) (h : j < s.size) : hashTo s (j + 1) = (hashTo s j * 31 + s[j].toNat) % 997 := by
  unfold hashTo
  have hj : j < s.data.toList.length := by simpa using h
  rw [List.take_add_one, List.getElem?_eq_getElem hj, Option.toList_some, List.foldl_append, List.foldl_cons, List.foldl_nil]
  rfl
theorem tmod_nat (n : Nat) : ((n : Int)).tmod 997 = ((n % 997 : Nat) : Int) := by
  rw [Int.tmod_eq_emod_of_nonneg (Int.natCast_nonneg n)]; rfl
theorem toList_loop (b : ByteArray) : ∀ (k i : Nat) (r : List UInt8), b.size - i = k → ByteArray.toList.loop b i r = r.reverse ++ b.data.toList.drop i
  | 0, i, r, h => by
    unfold ByteArray.toList.loop
    rw [if_neg (by omega), List.drop_eq_nil_of_le (by simp; show b.size ≤ i; omega), List.append_nil]
  | k + 1, i, r, h => by
    unfold ByteArray.toList.loop
    have hi : i < b.size := by omega
    have hi2 : i < b.data.toList.length := by simpa using hi
    rw [if_pos hi, toList_loop b k (i + 1) _ (by omega), List.drop_eq_getElem_cons hi2, List.reverse_cons, List.append_assoc]
    have e : b.get! i = b.data.toList[i] := by
      show b.data[i]! = _
      rw [getElem!_pos b.data i hi]; simp
    rw [e]; rfl
theorem toList_data (b : ByteArray) : b.toList = b.data.toList := by
  unfold ByteArray.toList
  rw [toList_loop b _ 0 [] rfl]; simp
theorem str_ne {t s : ByteArray} (h : ¬ t = s) : (t.toList == s.toList) = false := by
  rw [toList_data, toList_data, beq_eq_false_iff_ne]
  intro e
  exact h (ByteArray.ext (Array.toList_inj.1 e))
/-- a row as the walk reads it -/
theorem row_form {w : World} {T : TypeId} {u : Value} {l : List (ByteArray × Nat)} (h : w.ownsRow 0 T 2 u l.length (cellsE l)) : ∃ ao cap, u = .slice ao l.length cap ∧ l.length ≤ cap ∧ cap ≤ maxLen ∧ (l.length = 0 ∨ ∃ g, ao = some ⟨g, 0, none⟩ ∧ ∀ i (hi : i < l.length), w.cell? ⟨g, i * 2, none⟩ = some (.string l[i].1) ∧ w.cell? ⟨g, i * 2 + 1, none⟩ = some (.int .i64 (l[i].2 : Int))) := by
  have h0 := h
  rcases h.2 with ⟨rfl, hn⟩ | ⟨g, cap, cur, rfl, _, _, hc, hm, _⟩
  · exact ⟨none, 0, by rw [hn], by omega, by decide, .inl hn⟩
  · refine ⟨_, cap, rfl, hc, hm, .inr ⟨g, rfl, fun i hi => ?_⟩⟩
    obtain ⟨e1, e2⟩ := cellsE_get l i hi
    exact ⟨by rw [h0.cellAt (i * 2) (by omega), e1], by rw [h0.cellAt (i * 2 + 1) (by omega), e2]⟩

/-- what l5Number answers and leaves behind -/
def NumPost (gl cl gc cc : Nat) (s : ByteArray) (w : World) (D : Nat → Prop) (L : List ByteArray) (e : Ending) (w' : World) : Prop :=
  ∃ (n : Nat) (L' : List ByteArray) (D' : Nat → Prop) (vs' : List Value), e = .returned (.int .i64 n) ∧ (L' = L ∨ (L' = L ++ [s] ∧ s ∉ L)) ∧ L'[n]? = some s ∧ TabP gl cl gc cc w' D' L' vs' ∧ Out D w w' ∧ ∀ k, D' k → D k ∨ w.heap.size ≤ k

/-- the table with one entry more -/
theorem num_end {gl cl gc cc : Nat} {s : ByteArray} {w w2 w3 w9 : World} {D : Nat → Prop} {L : List ByteArray} {vs : List Value} (h : TabP gl cl gc cc w D L vs) (hn : s ∉ L) {k0 m ne g1 cap1 : Nat} {E : List (ByteArray × Nat)} {u : Value}
    (hk0 : k0 = hashB s) (hu : vs[k0]? = some u) (hm : m = L.length) (hE : E = rowE L k0) (hne : ne = E.length) (G2 : w.grownBy w2 (some gc)) (oc : OwnI 3 w2 0 (.slice (some ⟨gc, 0, none⟩) 1 cc) [((m + 1 : Nat) : Int)])
    (hw3 : Below w2.heap.size w2 w3) (G9 : w3.grownBy w9 u.ownBlock) (hv : w9.ownsRow 0 174 2 (.slice (some ⟨g1, 0, none⟩) (ne + 1) cap1) (ne + 1) (cellsE E ++ [.string s, .int .i64 (m : Int)])) (hg9 : u.ownBlock = some g1 ∨ w.heap.size ≤ g1) :
    NumPost gl cl gc cc s w D L (.returned (.int .i64 (m : Int))) (w9.setCell ⟨gl, k0, none⟩ (.slice (some ⟨g1, 0, none⟩) (ne + 1) cap1)) := by
  subst hk0 hm hE hne
  have hlt : ∀ k, D k → k < w.heap.size := h.lt
  have ku : ∀ g, u.ownBlock = some g → D g := fun g hg => h.dr _ u g hu hg
  have key9 : ∀ k, k < w.heap.size → k ≠ gc → u.ownBlock ≠ some k → w9.heap[k]? = w.heap[k]? := fun k hk h1 h2 => by
    rw [G9.block k (Nat.lt_of_lt_of_le (Nat.lt_of_lt_of_le hk G2.size) hw3.size) (fun e => h2 e.symm), hw3.block k (Nat.lt_of_lt_of_le hk G2.size), G2.block k hk (fun e => h1 (Option.some.inj e))]
  have hgl1 : gl ≠ g1 := by
    rcases hg9 with e | e
    · exact ((h.off _ u g1 hu e).1).symm
    · have := hlt gl h.dl; omega
  have ngu : u.ownBlock ≠ some gl := fun e => (h.off _ u gl hu e).1 rfl
  have ncu : u.ownBlock ≠ some gc := fun e => (h.off _ u gc hu e).2 rfl
  have r9 : w9.ownsRow 0 172 1 (.slice (some ⟨gl, 0, none⟩) 997 cl) 997 vs := owns_same h.rows fun g hg => by cases hg; exact key9 gl (hlt gl h.dl) h.ne ngu
  have c9 : OwnI 3 w9 0 (.slice (some ⟨gc, 0, none⟩) 1 cc) [((L.length + 1 : Nat) : Int)] := owns_same oc fun g hg => by
    cases hg
    have hgc := (oc.lt gc rfl).2
    rw [G9.block gc (Nat.lt_of_lt_of_le hgc hw3.size) (fun e => ncu e.symm), hw3.block gc hgc]
  obtain ⟨rF, GF⟩ := World.ownsRow.stored r9 (hashB s) (.slice (some ⟨g1, 0, none⟩) ((rowE L (hashB s)).length + 1) cap1)
  have hszF : w.heap.size ≤ (w9.setCell ⟨gl, hashB s, none⟩ (.slice (some ⟨g1, 0, none⟩) ((rowE L (hashB s)).length + 1) cap1)).heap.size := by
    have := G2.size; have := hw3.size; have := G9.size; have := GF.size; omega
  have sz9 : w.heap.size ≤ w9.heap.size := by have := G2.size; have := hw3.size; have := G9.size; omega
  have keyF : ∀ k, k < w.heap.size → k ≠ gl → k ≠ gc → u.ownBlock ≠ some k → (w9.setCell ⟨gl, hashB s, none⟩ (.slice (some ⟨g1, 0, none⟩) ((rowE L (hashB s)).length + 1) cap1)).heap[k]? = w.heap[k]? := fun k hk h1 h2 h3 => by
    rw [GF.block k (by omega) (fun e => h1 (Option.some.inj e)), key9 k hk h2 h3]
  have T := h.more (TE := 174) (w' := w9.setCell ⟨gl, hashB s, none⟩ (.slice (some ⟨g1, 0, none⟩) ((rowE L (hashB s)).length + 1) cap1)) hn hu rF
    (c9.kept GF (.inr (by intro e; exact h.ne (Option.some.inj e).symm))) (hv.kept GF (.inr (by intro e; exact hgl1 (Option.some.inj e).symm))) keyF hszF
    (fun g hg => by cases hg; exact hg9)
  refine ⟨L.length, L ++ [s], _, _, rfl, .inr ⟨rfl, hn⟩, by simp, T, ⟨?_, ?_, ?_, hszF, fun k hk hnd => keyF k hk (fun e => hnd (e ▸ h.dl)) (fun e => hnd (e ▸ h.dc)) (fun e => hnd (ku k e))⟩, fun k hk => ?_⟩
  · exact (GF.os.trans G9.os).trans (hw3.os.trans G2.os)
  · exact (GF.tape.trans G9.tape).trans (hw3.tape.trans G2.tape)
  · exact (GF.output.trans G9.output).trans (hw3.output.trans G2.output)
  · rcases hk with hk | hk
    · exact .inl hk
    · cases hk
      rcases hg9 with e | e
      · exact .inl (ku _ e)
      · exact .inr e

set_option maxHeartbeats 6400000 in
theorem number_any (gl cl gc cc : Nat) (s : ByteArray) (w : World) (D : Nat → Prop) (L : List ByteArray) (vs : List Value) (h : TabP gl cl gc cc w D L vs) (hs : s.size ≤ 100000) (hL : L.length ≤ 100000) :
    Calls Tryd.prog 152 #[tv gl cl gc cc, .string s] w fun e w' => NumPost gl cl gc cc s w D L e w' := by
  unfold tv
  have HT := Lib.hid h
  clear h
  obtain ⟨k0, hk0⟩ : ∃ k, k = hashB s := ⟨_, rfl⟩
  have hk9 : k0 < 997 := by rw [hk0]; exact hash_lt s
  have HK := Lib.hid hk0
  clear hk0
  obtain ⟨u, hu⟩ : ∃ u, vs[k0]? = some u := ⟨_, List.getElem?_eq_getElem (by rw [HT.out.len]; exact hk9)⟩
  obtain ⟨E, hE⟩ : ∃ E, E = rowE L k0 := ⟨_, rfl⟩
  have hr := HT.out.row k0 u hu
  rw [← hE] at hr
  obtain ⟨ao, cap, huv, hcap, hcm, hrow⟩ := row_form hr
  obtain ⟨ne, hne⟩ : ∃ n, n = E.length := ⟨_, rfl⟩
  rw [← hne] at huv hcap
  have hne9 : ne ≤ 100000 := by rw [hne, hE]; exact Nat.le_trans (row_len L k0) hL
  have HE := Lib.hid (show _ ∧ _ from ⟨hE, hne⟩)
  have HU := Lib.hid (show _ ∧ _ from ⟨hu, huv⟩)
  have HR := Lib.hid hrow
  have AW : Hid (Below w.heap.size w (w.alloc (.cells #[.slice (some ⟨gl, 0, none⟩) 997 cl, .slice (some ⟨gc, 0, none⟩) 1 cc] 105))) := (Below.refl _ _).alloc (Nat.le_refl _) _
  obtain ⟨w1, hw1⟩ : ∃ w1, w1 = w.alloc (.cells #[.slice (some ⟨gl, 0, none⟩) 997 cl, .slice (some ⟨gc, 0, none⟩) 1 cc] 105) := ⟨_, rfl⟩
  have HW := Lib.hid hw1
  have ck : w1.cell? ⟨gl, k0, none⟩ = some (.slice ao ne cap) := by
    rw [hw1, AW.out.cell (p := ⟨gl, k0, none⟩) (HT.out.lt _ HT.out.dl)]
    have := HT.out.rows.cellAt k0 (by omega)
    rw [this, hu, huv]
  have HCK := Lib.hid ck
  clear hE hr hrow hne hu huv ck hw1
  have hcl := HT.out.rows.2
  go_enter Tryd.func152, Tryd.ntmps152
  go_wp2
  go_loop [5, 6] (fun k i => ∃ j : Nat, j ≤ s.size ∧ i = .int .i64 j ∧ k = .int .i64 (hashTo s j : Nat)) (fun _ i => s.size - (intOf i).toNat)
  case atStart => exact ⟨0, Nat.zero_le _, rfl, rfl⟩
  case round =>
    obtain ⟨j, hj, rfl, rfl⟩ := hrel
    by_cases hlt : j < s.size
    · have hs1 := Lib.hid (hashTo_succ s j hlt)
      obtain ⟨h, hh⟩ : ∃ h, h = hashTo s j := ⟨_, rfl⟩
      have h9 : h < 997 := by rw [hh]; exact hashTo_lt s j
      rw [← hh] at hs1 ⊢
      clear hh
      go_wp2
      go_round
      case rel =>
        refine ⟨j + 1, by omega, by go_num, ?_⟩
        rw [hs1.out]
        have hc := s[j].toNat_lt
        have e1 : wrap64 (s[j].toNat : Int) = (s[j].toNat : Int) := IntWalk.wrap64_in _ (by omega)
        have e2 : wrap64 ((h : Int) * 31 + (s[j].toNat : Int)) = ((h * 31 + s[j].toNat : Nat) : Int) := by rw [IntWalk.wrap64_in _ (by omega)]; omega
        rw [e1, e2, tmod_nat]
      case measure => simp [intOf]; omega
    · obtain rfl : j = s.size := by omega
      clear hlt
      rw [hashTo_full, ← HK.out]
      have ck := HCK.out
      rw [HW.out] at ck
      go_wp2
      go_loop [7] (fun i => ∃ j : Nat, j ≤ ne ∧ i = .int .i64 j ∧ Hid (∀ x (hx : x < E.length), x < j → E[x].1 ≠ s)) (fun i => ne - (intOf i).toNat)
      case atStart => exact ⟨0, Nat.zero_le _, rfl, fun x _ hx => by omega⟩
      case round =>
        obtain ⟨j, hj, rfl, hB⟩ := hrel
        by_cases hlt : j < ne
        · have hjE : j < E.length := by rw [← HE.out.2]; exact hlt
          rcases HR.out with h0 | ⟨g, rfl, hcs⟩
          · omega
          · obtain ⟨c1, c2⟩ := hcs j hjE
            have b1 : (w.alloc (.cells #[.slice (some ⟨gl, 0, none⟩) 997 cl, .slice (some ⟨gc, 0, none⟩) 1 cc] 105)).cell? ⟨g, j * 2, none⟩ = some (.string E[j].1) := by rw [AW.out.cell (p := ⟨g, j * 2, none⟩) (World.block_lt_of_cell? w _ c1)]; exact c1
            have b2 : (w.alloc (.cells #[.slice (some ⟨gl, 0, none⟩) 997 cl, .slice (some ⟨gc, 0, none⟩) 1 cc] 105)).cell? ⟨g, j * 2 + 1, none⟩ = some (.int .i64 (E[j].2 : Int)) := by rw [AW.out.cell (p := ⟨g, j * 2 + 1, none⟩) (World.block_lt_of_cell? w _ c2)]; exact c2
            clear c1 c2 hcs
            have hmem := row_mem (L := L) (k := k0) (e := E[j]) (by rw [← HE.out.1]; exact List.getElem_mem hjE)
            obtain ⟨t, ht⟩ : ∃ t, t = E[j].1 := ⟨_, rfl⟩
            obtain ⟨n, hn⟩ : ∃ n, n = E[j].2 := ⟨_, rfl⟩
            rw [← ht] at b1 hmem
            rw [← hn] at b2 hmem
            have HM := Lib.hid (show _ ∧ _ from ⟨hmem, ht⟩)
            clear hmem ht hn
            by_cases hts : t = s
            · subst hts
              clear hB
              go_wp2
              go_ret
              exact ⟨n, L, D, vs, rfl, .inl rfl, HM.out.1, HT.out.below AW.out (Nat.le_refl _), .of_below AW.out (Nat.le_refl _), fun k hk => .inl hk⟩
            · have HB : Hid (∀ x (hx : x < E.length), x < j + 1 → E[x].1 ≠ s) := fun x hx hxj => by
                by_cases e : x = j
                · subst e; rw [← HM.out.2]; exact hts
                · exact hB.out x hx (by omega)
              have hts2 := str_ne hts
              clear hB hts
              go_wp2
              go_round
              case rel => exact ⟨j + 1, by omega, by go_num, HB⟩
              case measure => simp [intOf]; omega
        · skip
          have hnot : Hid (s ∉ L) := fun hin => by
            obtain ⟨x, hx, rfl⟩ := row_has hin
            rw [← HK.out, ← HE.out.1] at hx
            obtain ⟨i, hi, rfl⟩ := List.mem_iff_getElem.1 hx
            exact hB.out i hi (by have := HE.out.2; omega) rfl
          obtain rfl : ne = j := by omega
          clear hB hlt
          have hgc := HT.out.count.lt gc rfl
          have hgl := HT.out.rows.lt gl rfl
          obtain ⟨m, hm⟩ : ∃ m, m = L.length := ⟨_, rfl⟩
          have cc0 : (w.alloc (.cells #[.slice (some ⟨gl, 0, none⟩) 997 cl, .slice (some ⟨gc, 0, none⟩) 1 cc] 105)).cell? ⟨gc, 0, none⟩ = some (.int .i64 (m : Int)) := by rw [AW.out.cell (p := ⟨gc, 0, none⟩) hgc.2, hm]; exact HT.out.count.cell 0 (by simp)
          have fc0 : (w.alloc (.cells #[.slice (some ⟨gl, 0, none⟩) 997 cl, .slice (some ⟨gc, 0, none⟩) 1 cc] 105)).frozen? ⟨gc, 0, none⟩ = false := (HT.out.count.below AW.out (Nat.le_refl _)).free 0
          have hmm : m ≤ 100000 := by rw [hm]; exact hL
          have HM := Lib.hid hm
          have hcap2 : ne ≤ m := by rw [hm, HE.out.2, HE.out.1]; exact row_len L k0
          clear hm
          obtain ⟨wz, hwz⟩ : ∃ wz, wz = w.setCell ⟨gc, 0, none⟩ (.int .i64 ((m : Int) + 1)) := ⟨_, rfl⟩
          have hzs : wz.heap.size = w.heap.size := by rw [hwz]; simp
          have G1 : Hid (w.grownBy wz (some gc)) := by rw [hwz]; exact HT.out.count.setGrown 0 _
          obtain ⟨w2, hw2⟩ : ∃ w2, w2 = wz.alloc (.cells #[.slice (some ⟨gl, 0, none⟩) 997 cl, .slice (some ⟨gc, 0, none⟩) 1 cc] 105) := ⟨_, rfl⟩
          have G2 : Hid (w.grownBy w2 (some gc)) := by rw [hw2]; exact grown_trans G1.out (World.grownBy_alloc _ _ _)
          have b0 : w2.cell? ⟨w.heap.size, 0, none⟩ = some (.slice (some ⟨gl, 0, none⟩) 997 cl) := by rw [hw2, ← hzs]; simp
          have b1 : w2.cell? ⟨gl, k0, none⟩ = some (.slice ao ne cap) := G2.out.cell (a := ⟨gl, k0, none⟩) (by have := HT.out.rows.cellAt k0 (by omega); rw [this, HU.out.1, HU.out.2]) (by intro e; simp at e; exact HT.out.ne e)
          have ow : w2.ownsRow 0 174 2 (.slice ao ne cap) ne (cellsE E) := by
            have := HT.out.row k0 u HU.out.1
            rw [← HE.out.1, ← HE.out.2, HU.out.2] at this
            refine owns_same this fun g hg => G2.out.block g (this.lt g hg).2 ?_
            intro e; cases e
            exact (HT.out.off k0 u gc HU.out.1 (by rw [HU.out.2]; exact hg)).2 rfl
          have oc : OwnI 3 w2 0 (.slice (some ⟨gc, 0, none⟩) 1 cc) [((m + 1 : Nat) : Int)] := by
            have := HT.out.count.set 0 ((m : Int) + 1)
            rw [← hwz] at this
            rw [hw2]
            exact World.ownsRow.alloc this _
          have orr : w2.ownsRow 0 172 1 (.slice (some ⟨gl, 0, none⟩) 997 cl) 997 vs := owns_same HT.out.rows fun g hg => G2.out.block g (HT.out.rows.lt g hg).2 (by cases hg; intro e; cases e; exact HT.out.ne rfl)
          have hsz2 : w2.heap.size = w.heap.size + 1 := by rw [hw2]; simp [hzs]
          rw [hwz] at hw2
          clear hzs G1 hwz wz
          have H2 := Lib.hid (show _ ∧ _ ∧ _ ∧ _ from ⟨ow, oc, orr, hsz2⟩)
          have HW2 := Lib.hid hw2
          have BB := Lib.hid (show _ ∧ _ from ⟨b0, b1⟩)
          have hgl2 : gl < w2.heap.size := by omega
          clear ow oc orr hsz2 hw2 b0 b1
          go_upto_region 13 with (fail)
          rw [← HW2.out]
          obtain ⟨b0, b1⟩ := BB.out
          have q0 : ∀ QQ : Wd (fun Q => Q.cell? ⟨w.heap.size, 0, none⟩ = some (.slice (some ⟨gl, 0, none⟩) 997 cl) ∧ Q.cell? ⟨gl, k0, none⟩ = some (.slice ao ne cap)), QQ.w.cell? ⟨w.heap.size, 0, none⟩ = some (.slice (some ⟨gl, 0, none⟩) 997 cl) := fun QQ => QQ.ok.1
          have q1 : ∀ QQ : Wd (fun Q => Q.cell? ⟨w.heap.size, 0, none⟩ = some (.slice (some ⟨gl, 0, none⟩) 997 cl) ∧ Q.cell? ⟨gl, k0, none⟩ = some (.slice ao ne cap)), QQ.w.cell? ⟨gl, k0, none⟩ = some (.slice ao ne cap) := fun QQ => QQ.ok.2
          have hne : Nonempty (Wd (fun Q => Q.cell? ⟨w.heap.size, 0, none⟩ = some (.slice (some ⟨gl, 0, none⟩) 997 cl) ∧ Q.cell? ⟨gl, k0, none⟩ = some (.slice ao ne cap))) := ⟨⟨w2, BB.out⟩⟩
          have AL : Hid (Below w2.heap.size w2 (w2.alloc (.cells #[.string s, .int .i64 m] 174)).drew) := ((Below.refl _ _).alloc (Nat.le_refl _) _).drew
          have OWN : Hid ((w2.drew.alloc (.cells #[.string s, .int .i64 m] 174)).ownsRow 0 174 2 (.slice ao ne cap) ne (cellsE E)) := World.ownsRow.alloc (World.ownsRow.drew H2.out.1) _
          clear b0 b1 ck cc0 fc0
          go_wp2_with fail
          refine chain_last (S := (fun Q => Q.cell? ⟨w.heap.size, 0, none⟩ = some (.slice (some ⟨gl, 0, none⟩) 997 cl) ∧ Q.cell? ⟨gl, k0, none⟩ = some (.slice ao ne cap))) [([true, true, true, true, true, true, true, true, true, true, true], 11), ([], 12)] [false, false, false, false, false, false, false, false, false, false, false, false, false, true] (by kernel_rfl) (by kernel_rfl) (by kernel_rfl) (by kernel_rfl) (by kernel_rfl) (by kernel_rfl) BB.out ?_
          simp only [wpSegs, pickB, List.dropLast_cons_cons, List.dropLast_singleton, List.getLast?_cons_cons, List.getLast?_singleton, List.toList_toArray, List.getElem?_toArray, List.getElem?_cons_succ, List.getElem?_cons_zero, Option.toList_some]
          repeat (go_big_quiet_step (fail))
          refine wpQuiet_nil ?_
          intro K hK
          go_wp2_with fail
          refine hK _ _ ⟨by rw [AL.out.cell (p := ⟨w.heap.size, 0, none⟩) (by have := H2.out.2.2.2; show w.heap.size < _; omega)]; exact BB.out.1, by rw [AL.out.cell (p := ⟨gl, k0, none⟩) hgl2]; exact BB.out.2⟩ ?_
          clear hK K
          repeat (go_big_quiet_step (fail))
          refine wpQuiet_nil ?_
          intro K hK
          go_wp2_with (at_builtin; refine wpList_app2 _ rfl (.tmp 69) (.tmp 73) 172 rfl 0 174 (.agg #[.string ⟨#[]⟩, .int .i64 0]) 24 Tryd.underlying172 (by kernel_rfl) rfl (by decide) _ _ _ (.string s) (.int .i64 m) rfl OWN.out w2.heap.size rfl (by simp) (by simp) rfl rfl (by omega) (Nat.zero_le _) ?_)
          intro g1 cap1 w9 hown9 hgr hg9
          have W3 : Hid (Below w2.heap.size w2 ((w2.alloc (.cells #[.string s, .int .i64 m] 174)).drew)) := AL.out
          have hg8 : u.ownBlock = some g1 ∨ w.heap.size ≤ g1 := by rw [HU.out.2]; exact hg9.imp id (fun e => by have := H2.out.2.2.2; omega)
          have KF : Hid (w9.cell? ⟨w.heap.size, 0, none⟩ = some (.slice (some ⟨gl, 0, none⟩) 997 cl) ∧ w9.cell? ⟨gl, k0, none⟩ = some (.slice ao ne cap)) := ⟨hgr.cell (a := ⟨w.heap.size, 0, none⟩) (by rw [W3.out.cell (p := ⟨w.heap.size, 0, none⟩) (by have := H2.out.2.2.2; show w.heap.size < _; omega)]; exact BB.out.1) (by intro e; have := HT.out.lt _ (HT.out.dr k0 u w.heap.size HU.out.1 (by rw [HU.out.2]; exact e.symm)); omega), hgr.cell (a := ⟨gl, k0, none⟩) (by rw [W3.out.cell (p := ⟨gl, k0, none⟩) hgl2]; exact BB.out.2) (by intro e; exact (HT.out.off k0 u gl HU.out.1 (by rw [HU.out.2]; exact e.symm)).1 rfl)⟩
          have FZ : Hid (w9.frozen? ⟨gl, k0, none⟩ = false) := by rw [Hid, World.frozen?_of_block (w := w2) (a := ⟨gl, k0, none⟩) ((hgr.block gl (by have := W3.out.size; omega) (by intro e; exact (HT.out.off k0 u gl HU.out.1 (by rw [HU.out.2]; exact e.symm)).1 rfl)).trans (W3.out.block gl hgl2))]; exact H2.out.2.2.1.frozenAt k0
          rw [← HU.out.2] at hgr
          have FIN := Lib.hid (num_end HT.out hnot.out HK.out HU.out.1 HM.out HE.out.1 HE.out.2 G2.out H2.out.2.1 W3.out hgr hown9 hg8)
          clear hown9 hgr hg9 hg8 W3
          go_wp2_with fail
          refine hK _ _ KF.out ?_
          clear hK K
          repeat (go_big_quiet_step (fail))
          refine wpQuiet_nil ?_
          show wpList _ _ _ _ _ _
          clear q0 q1 hne
          obtain ⟨b0, b1⟩ := KF.out
          have fz := FZ.out
          go_wp2
          go_ret
          exact FIN.out
end Go.Proofs.YtpcnoiigbmiejaaDoor.tab

/- Descriptions and their numbers in plain words: equal numbers mean that the second player wins. -/
namespace Go.Proofs.YtpcnoiigbmiejaaDoor.game
set_option linter.unusedVariables false
set_option linter.unusedSimpArgs false
open Go.Proofs.YtpcnoiigbmiejaaDoor.ins

/-- decimal digits -/
def dec (n : Nat) : List UInt8 := if h : n < 10 then [UInt8.ofNat (48 + n)] else dec (n / 10) ++ [UInt8.ofNat (48 + n % 10)]
  termination_by n
  decreasing_by omega
def val (l : List UInt8) : Nat := l.foldl (fun a c => a * 10 + (c.toNat - 48)) 0
theorem digit_nat {k : Nat} (h : k < 10) : (UInt8.ofNat (48 + k)).toNat = 48 + k := by
  rw [UInt8.toNat_ofNat_of_lt']
  show 48 + k < 256
  omega
theorem dec_lt {n : Nat} (h : n < 10) : dec n = [UInt8.ofNat (48 + n)] := by rw [dec, dif_pos h]
theorem dec_ge {n : Nat} (h : ¬ n < 10) : dec n = dec (n / 10) ++ [UInt8.ofNat (48 + n % 10)] := by rw [dec, dif_neg h]
theorem val_dec (n : Nat) : val (dec n) = n := by
  induction n using Nat.strongRecOn with
  | ind n ih =>
    by_cases h : n < 10
    · rw [dec_lt h]
      show 0 * 10 + ((UInt8.ofNat (48 + n)).toNat - 48) = n
      rw [digit_nat h]; omega
    · rw [dec_ge h]
      unfold val
      rw [List.foldl_append]
      have := ih (n / 10) (by omega)
      unfold val at this
      rw [this]
      show n / 10 * 10 + ((UInt8.ofNat (48 + n % 10)).toNat - 48) = n
      rw [digit_nat (by omega)]; omega
theorem dec_inj {n m : Nat} (h : dec n = dec m) : n = m := by rw [← val_dec n, h, val_dec]
theorem dec_digit (n : Nat) : ∀ c, c ∈ dec n → 48 ≤ c.toNat ∧ c.toNat ≤ 57 := by
  induction n using Nat.strongRecOn with
  | ind n ih =>
    intro c hc
    by_cases h : n < 10
    · rw [dec_lt h, List.mem_singleton] at hc
      rw [hc, digit_nat h]; omega
    · rw [dec_ge h, List.mem_append, List.mem_singleton] at hc
      rcases hc with hc | rfl
      · exact ih (n / 10) (by omega) c hc
      · rw [digit_nat (by omega)]; omega
/-- numbers behind commas -/
def commas (l : List Nat) : List UInt8 := l.flatMap fun n => 44 :: dec n
theorem commas_shape : ∀ l : List Nat, commas l = [] ∨ ∃ t, commas l = 44 :: t
  | [] => .inl rfl
  | n :: l => .inr ⟨_, by unfold commas; rw [List.flatMap_cons]; rfl⟩
/-- the bits of elements, as the reference lists them -/
def bit (b : Bool) : UInt8 := if b then 49 else 48
theorem bit_inj {a b : Bool} (h : bit a = bit b) : a = b := by cases a <;> cases b <;> first | rfl | (exact absurd h (by decide))
def row (A : Gr) (xs : List Nat) (i : Nat) : List UInt8 :=
  bit (A.S (xs.getD i 0)) :: (List.range (i + 1)).flatMap fun k => [bit (xs.getD i 0 == xs.getD k 0), bit (A.R (xs.getD i 0) (xs.getD k 0)), bit (A.R (xs.getD k 0) (xs.getD i 0))]
def atoms (A : Gr) (xs : List Nat) : List UInt8 := (List.range xs.length).flatMap (row A xs)
theorem flat_len {α : Type} (f : Nat → List α) (c : Nat → Nat) (h : ∀ i, (f i).length = c i) : ∀ n, ((List.range n).flatMap f).length = ((List.range n).map c).sum
  | 0 => rfl
  | n + 1 => by
    rw [List.range_succ, List.flatMap_append, List.length_append, flat_len f c h n, List.map_append, List.sum_append]
    simp [h n]
theorem flat_eq {α : Type} {f g : Nat → List α} (h : ∀ i, (f i).length = (g i).length) : ∀ {n : Nat}, (List.range n).flatMap f = (List.range n).flatMap g ↔ ∀ i, i < n → f i = g i
  | 0 => by simp
  | n + 1 => by
    rw [List.range_succ, List.flatMap_append, List.flatMap_append]
    have hl : ((List.range n).flatMap f).length = ((List.range n).flatMap g).length := by
      rw [flat_len f (fun i => (f i).length) (fun _ => rfl) n, flat_len g (fun i => (f i).length) (fun i => (h i).symm) n]
    constructor
    · intro e i hi
      obtain ⟨e1, e2⟩ := List.append_inj e hl
      by_cases hin : i < n
      · exact (flat_eq h).1 e1 i hin
      · obtain rfl : i = n := by omega
        simpa using e2
    · intro e
      rw [(flat_eq h).2 fun i hi => e i (by omega)]
      congr 1
      simpa using e n (by omega)
theorem sum_const (c : Nat) : ∀ n, ((List.range n).map fun _ => c).sum = c * n
  | 0 => rfl
  | n + 1 => by rw [List.range_succ, List.map_append, List.sum_append, sum_const c n, Nat.mul_succ]; simp
theorem row_len (A : Gr) (xs : List Nat) (i : Nat) : (row A xs i).length = 1 + 3 * (i + 1) := by
  unfold row
  rw [List.length_cons, flat_len _ (fun _ => 3) (fun _ => rfl), sum_const]
  omega
theorem row_iff {A B : Gr} {xs ys : List Nat} {i : Nat} : row A xs i = row B ys i ↔ A.S (xs.getD i 0) = B.S (ys.getD i 0) ∧ ∀ k, k ≤ i → (xs.getD i 0 == xs.getD k 0) = (ys.getD i 0 == ys.getD k 0) ∧ A.R (xs.getD i 0) (xs.getD k 0) = B.R (ys.getD i 0) (ys.getD k 0) ∧ A.R (xs.getD k 0) (xs.getD i 0) = B.R (ys.getD k 0) (ys.getD i 0) := by
  unfold row
  have hf := @flat_eq UInt8 (fun k => [bit (xs.getD i 0 == xs.getD k 0), bit (A.R (xs.getD i 0) (xs.getD k 0)), bit (A.R (xs.getD k 0) (xs.getD i 0))]) (fun k => [bit (ys.getD i 0 == ys.getD k 0), bit (B.R (ys.getD i 0) (ys.getD k 0)), bit (B.R (ys.getD k 0) (ys.getD i 0))]) (fun _ => rfl) (i + 1)
  rw [List.cons.injEq, hf]
  constructor
  · rintro ⟨h1, h2⟩
    refine ⟨bit_inj h1, fun k hk => ?_⟩
    have := h2 k (by omega)
    simp only [List.cons.injEq, and_true] at this
    exact ⟨bit_inj this.1, bit_inj this.2.1, bit_inj this.2.2⟩
  · rintro ⟨h1, h2⟩
    refine ⟨by rw [h1], fun k hk => ?_⟩
    obtain ⟨a, b, c⟩ := h2 k (by omega)
    rw [a, b, c]
theorem zip_mem {xs ys : List Nat} (hl : xs.length = ys.length) {p : Nat × Nat} : p ∈ xs.zip ys ↔ ∃ i, i < xs.length ∧ p = (xs.getD i 0, ys.getD i 0) := by
  rw [List.mem_iff_getElem]
  constructor
  · rintro ⟨i, hi, rfl⟩
    rw [List.length_zip] at hi
    refine ⟨i, by omega, ?_⟩
    rw [List.getElem_zip, List.getD_eq_getElem?_getD, List.getD_eq_getElem?_getD, List.getElem?_eq_getElem (by omega), List.getElem?_eq_getElem (by omega)]
    rfl
  · rintro ⟨i, hi, rfl⟩
    refine ⟨i, by rw [List.length_zip]; omega, ?_⟩
    rw [List.getElem_zip, List.getD_eq_getElem?_getD, List.getD_eq_getElem?_getD, List.getElem?_eq_getElem (by omega), List.getElem?_eq_getElem (by omega)]
    rfl
/-- elements of a structure -/
def Els (A : Gr) (xs : List Nat) : Prop := ∀ x, x ∈ xs → x < A.n
theorem Els.get {A : Gr} {xs : List Nat} (h : Els A xs) {i : Nat} (hi : i < xs.length) : xs.getD i 0 < A.n := by
  rw [List.getD_eq_getElem?_getD, List.getElem?_eq_getElem hi]
  exact h _ (List.getElem_mem _)
theorem Els.snoc {A : Gr} {xs : List Nat} (h : Els A xs) {x : Nat} (hx : x < A.n) : Els A (xs ++ [x]) := fun y hy => by
  rcases List.mem_append.1 hy with h' | h'
  · exact h y h'
  · rw [List.mem_singleton.1 h']; exact hx
theorem atoms_iff {A B : Gr} {xs ys : List Nat} (hl : xs.length = ys.length) (ha : Els A xs) (hb : Els B ys) : atoms A xs = atoms B ys ↔ Gway A B (xs.zip ys) := by
  unfold atoms
  rw [← hl, flat_eq (fun i => by rw [row_len, row_len])]
  constructor
  · intro h
    have key : ∀ i k, i < xs.length → k ≤ i → (xs.getD i 0 == xs.getD k 0) = (ys.getD i 0 == ys.getD k 0) ∧ A.R (xs.getD i 0) (xs.getD k 0) = B.R (ys.getD i 0) (ys.getD k 0) ∧ A.R (xs.getD k 0) (xs.getD i 0) = B.R (ys.getD k 0) (ys.getD i 0) := fun i k hi hk => (row_iff.1 (h i hi)).2 k hk
    have eqi : ∀ {a b c d : Nat}, (a == b) = (c == d) → (a = b ↔ c = d) := fun {a b c d} e => by
      rw [Bool.eq_iff_iff, beq_iff_eq, beq_iff_eq] at e; exact e
    refine ⟨fun p hp => ?_, fun p q hp hq => ?_⟩
    · obtain ⟨i, hi, rfl⟩ := (zip_mem hl).1 hp
      exact ⟨ha.get hi, hb.get (by omega), (row_iff.1 (h i hi)).1⟩
    · obtain ⟨i, hi, rfl⟩ := (zip_mem hl).1 hp
      obtain ⟨k, hk, rfl⟩ := (zip_mem hl).1 hq
      by_cases hik : k ≤ i
      · obtain ⟨a, b, _⟩ := key i k hi hik
        exact ⟨eqi a, b⟩
      · obtain ⟨a, _, c⟩ := key k i hk (by omega)
        have := eqi a
        exact ⟨⟨fun e => (this.1 e.symm).symm, fun e => (this.2 e.symm).symm⟩, c⟩
  · intro h i hi
    have hm : ∀ j, j < xs.length → (xs.getD j 0, ys.getD j 0) ∈ xs.zip ys := fun j hj => (zip_mem hl).2 ⟨j, hj, rfl⟩
    refine row_iff.2 ⟨(h.1 _ (hm i hi)).2.2, fun k hk => ?_⟩
    obtain ⟨a, b⟩ := h.2 _ _ (hm i hi) (hm k (by omega))
    obtain ⟨_, d⟩ := h.2 _ _ (hm k (by omega)) (hm i hi)
    exact ⟨by rw [Bool.eq_iff_iff, beq_iff_eq, beq_iff_eq]; exact a, b, d⟩
/-- the text of a description -/
def txt (r : Nat) (at_ : List UInt8) (l : List Nat) : List UInt8 := dec r ++ 58 :: (at_ ++ commas l)
/-- sorted numbers, each once -/
def nums (l : List Int) : List Nat := (l.foldl ins []).map Int.toNat
/-- the numbers of what can come next -/
def nexts (n : Nat) (f : Nat → Nat) : List Int := (List.range n).map fun x => (f x : Int)
/-- n is the number, in the table, of what can happen in so many rounds -/
def Ty (T : List (List UInt8)) (A : Gr) : Nat → List Nat → Nat → Prop
  | 0, xs, n => T[n]? = some (txt 0 (atoms A xs) [])
  | r + 1, xs, n => ∃ f : Nat → Nat, (∀ x, x < A.n → Ty T A r (xs ++ [x]) (f x)) ∧ T[n]? = some (txt (r + 1) (atoms A xs) (nums (nexts A.n f)))
theorem Ty.mono {T T' : List (List UInt8)} {A : Gr} (h : T <+: T') : ∀ {r : Nat} {xs : List Nat} {n : Nat}, Ty T A r xs n → Ty T' A r xs n
  | 0, xs, n, ht => by
    obtain ⟨t, rfl⟩ := h
    have ht : T[n]? = _ := ht
    show (T ++ t)[n]? = _
    rw [List.getElem?_append_left (List.getElem?_eq_some_iff.1 ht).1]; exact ht
  | r + 1, xs, n, ht => by
    obtain ⟨f, hf, ht⟩ := ht
    refine ⟨f, fun x hx => (hf x hx).mono h, ?_⟩
    obtain ⟨t, rfl⟩ := h
    rw [List.getElem?_append_left (List.getElem?_eq_some_iff.1 ht).1]; exact ht
theorem nodup_at {T : List (List UInt8)} (hT : T.Nodup) {n m : Nat} {a b : List UInt8} (h1 : T[n]? = some a) (h2 : T[m]? = some b) : n = m ↔ a = b := by
  constructor
  · rintro rfl; rw [h1] at h2; exact Option.some.inj h2
  · rintro rfl
    obtain ⟨i1, e1⟩ := List.getElem?_eq_some_iff.1 h1
    obtain ⟨i2, e2⟩ := List.getElem?_eq_some_iff.1 h2
    exact (List.getElem_inj (h₀ := i1) (h₁ := i2) hT).1 (by rw [e1, e2])
end Go.Proofs.YtpcnoiigbmiejaaDoor.game

/- The reference's l15Dec and l4With. -/
namespace Go.Proofs.YtpcnoiigbmiejaaDoor.tab
set_option linter.unusedVariables false
set_option linter.unusedSimpArgs false
open Go.ChangeShapes Go.WideShapes Go.ChangeAt Go.RowKit
open Go.Proofs.YtpcnoiigbmiejaaDoor.lib Go.Proofs.YtpcnoiigbmiejaaDoor.flow Go.Proofs.YtpcnoiigbmiejaaDoor.chain Go.Proofs.YtpcnoiigbmiejaaDoor.game Go.Proofs.YtpcnoiigbmiejaaDoor.gow Go.Proofs.YtpcnoiigbmiejaaDoor.still Go.Proofs.YtpcnoiigbmiejaaDoor.fits

def decB (n : Nat) : ByteArray := ⟨(dec n).toArray⟩
theorem decB_list (n : Nat) : (decB n).data.toList = dec n := by simp [decB]
theorem dec_len (n : Nat) : (dec n).length ≤ n + 1 := by
  induction n using Nat.strongRecOn with
  | ind n ih =>
    by_cases h : n < 10
    · rw [dec_lt h]; simp
    · rw [dec_ge h, List.length_append]
      have := ih (n / 10) (by omega)
      simp only [List.length_singleton]; omega
theorem bytes_eq {a b : ByteArray} (h : a.data.toList = b.data.toList) : a = b := ByteArray.ext (Array.toList_inj.1 h)
set_option maxHeartbeats 1600000 in
set_option maxRecDepth 100000 in
theorem dec_any (n : Nat) (w : World) (hn : n ≤ 1000000) :
    Calls Tryd.prog 151 #[.int .i64 n] w fun e w' => e = .returned (.string (decB n)) ∧ Below w.heap.size w w' := by
  have t1 : decide ((n : Int) < -9223372036854775807) = false := by simp
  have t2 : decide ((n : Int) < 0) = false := by simp
  have BACK : ∀ (W : World) (z : Int), 0 ≤ z ∧ z < 256 → (convert 22 9 (.slice (some ⟨W.heap.size, 0, none⟩) 1 1)).run Tryd.prog (W.alloc (.cells #[.int .u8 z] 5)) = .ok (.string ⟨#[UInt8.ofNat z.toNat]⟩) (W.alloc (.cells #[.int .u8 z] 5)) := fun W z hz => by
    refine run_convert_bytes_back _ 22 9 5 ⟨W.heap.size, 0, none⟩ 1 [UInt8.ofNat z.toNat] Tryd.underlying22 Tryd.underlying5 Tryd.underlying9 fun j hj => ?_
    have : j = 0 := by simpa using hj
    subst this
    simp only [Addr.add, List.getElem_cons_zero]
    rw [show ((UInt8.ofNat z.toNat).toNat : Int) = z by simp; omega]
    simp
  have HBK := Lib.hid BACK
  clear BACK
  go_enter Tryd.func151, Tryd.ntmps151
  go_wp2
  go_loopw [0, 3] (fun a o wr => ∃ (m : Nat) (out : ByteArray), a = .int .i64 m ∧ m ≤ n ∧ o = .string out ∧ Hid (dec n = dec m ++ out.data.toList ∧ Below w.heap.size w wr)) (fun a _ _ => (intOf a).toNat)
  case atStart => exact ⟨n, ⟨#[]⟩, rfl, Nat.le_refl _, rfl, by simp, Below.refl _ _⟩
  case round =>
    obtain ⟨m, out, rfl, hm, rfl, hst⟩ := hrel
    have hsz : out.size ≤ 1000001 := by
      have e := congrArg List.length hst.out.1
      rw [List.length_append] at e
      have h1 := dec_len n
      have h2 : out.data.toList.length = out.size := by simp
      omega
    by_cases hlt : 9 < m
    · have x1 : decide (9 < (m : Int)) = true := by simp; omega
      have hc := HBK.out wr (48 + (m : Int) % 10) ⟨by omega, by omega⟩
      obtain ⟨c, hcc⟩ : ∃ c : ByteArray, c = ⟨#[UInt8.ofNat (48 + (m : Int) % 10).toNat]⟩ := ⟨_, rfl⟩
      have hcs : c.size = 1 := by rw [hcc]; rfl
      rw [← hcc] at hc
      have hadd : ∀ W, (Op.stringOp .add c out).run Tryd.prog W = .ok (.string (c ++ out)) W := fun W => run_string_add_sum W _ _ (by omega)
      have ST : Hid (dec n = dec (m / 10) ++ (c ++ out).data.toList ∧ Below w.heap.size w (wr.alloc (.cells #[.int .u8 (48 + (m : Int) % 10)] 5))) := by
        refine ⟨?_, hst.out.2.alloc hst.out.2.size _⟩
        rw [hst.out.1, dec_ge (n := m) (by omega), List.append_assoc, hcc, ByteArray.data_append, Array.toList_append, show (48 + (m : Int) % 10).toNat = 48 + m % 10 from by omega]
      have hd : IntKind.i64.wrap ((m : Int).tdiv 10) = ((m / 10 : Nat) : Int) := by rw [Int.tdiv_eq_ediv_of_nonneg (by omega), IntWalk.i64_in _ (by omega)]; omega
      clear hst hcc hsz hcs
      go_wp2
      go_roundw
      case rel => exact ⟨m / 10, c ++ out, by go_num, by omega, rfl, ST.out⟩
      case measure => simp [intOf]; omega
    · have x1 : decide (9 < (m : Int)) = false := by simp; omega
      have hc := HBK.out wr (48 + (m : Int)) ⟨by omega, by omega⟩
      obtain ⟨c, hcc⟩ : ∃ c : ByteArray, c = ⟨#[UInt8.ofNat (48 + (m : Int)).toNat]⟩ := ⟨_, rfl⟩
      have hcs : c.size = 1 := by rw [hcc]; rfl
      rw [← hcc] at hc
      have hadd : ∀ W, (Op.stringOp .add c out).run Tryd.prog W = .ok (.string (c ++ out)) W := fun W => run_string_add_sum W _ _ (by omega)
      have ST : Hid (c ++ out = decB n ∧ Below w.heap.size w (wr.alloc (.cells #[.int .u8 (48 + (m : Int))] 5))) := by
        refine ⟨bytes_eq ?_, hst.out.2.alloc hst.out.2.size _⟩
        rw [decB_list, hst.out.1, dec_lt (n := m) (by omega), hcc, ByteArray.data_append, Array.toList_append, show (48 + (m : Int)).toNat = 48 + m from by omega]
      clear hst hcc hsz hcs
      go_wp2
      go_ret
      exact ⟨by first | rfl | (rw [ST.out.1]; rfl), ST.out.2⟩
end Go.Proofs.YtpcnoiigbmiejaaDoor.tab

/- The reference's l5Atoms. -/
namespace Go.Proofs.YtpcnoiigbmiejaaDoor.tab
set_option linter.unusedVariables false
set_option linter.unusedSimpArgs false
open Go.ChangeShapes Go.WideShapes Go.ChangeAt Go.RowKit
open Go.Proofs.YtpcnoiigbmiejaaDoor.lib Go.Proofs.YtpcnoiigbmiejaaDoor.st Go.Proofs.YtpcnoiigbmiejaaDoor.base Go.Proofs.YtpcnoiigbmiejaaDoor.flow Go.Proofs.YtpcnoiigbmiejaaDoor.chain Go.Proofs.YtpcnoiigbmiejaaDoor.gob Go.Proofs.YtpcnoiigbmiejaaDoor.gow Go.Proofs.YtpcnoiigbmiejaaDoor.still Go.Proofs.YtpcnoiigbmiejaaDoor.fits Go.Proofs.YtpcnoiigbmiejaaDoor.make

def bitB (b : Bool) : ByteArray := ⟨#[if b then 49 else 48]⟩
theorem bitB_app (o : ByteArray) (b : Bool) : (o ++ bitB b).data.toList = o.data.toList ++ [game.bit b] := by
  rw [ByteArray.data_append, Array.toList_append]; rfl
theorem bitB_size (o : ByteArray) (b : Bool) : (o ++ bitB b).size = o.size + 1 := by
  rw [ByteArray.size_append]; rfl
theorem addB (o : ByteArray) (b : Bool) (h : o.size ≤ 100000) (W : World) : (Op.stringOp .add o (bitB b)).run Tryd.prog W = .ok (.string (o ++ bitB b)) W :=
  run_string_add_sum W _ _ (by show o.size + 1 ≤ _; omega)
theorem bit_at (b : Bool) (w : World) : Calls Tryd.prog 141 #[.bool b] w fun e w' => e = .returned (.string (bitB b)) ∧ w' = w := (l1Bit_any b w).mono fun _ _ h => ⟨h.1, h.2.symm⟩
/-- half a row -/
def half (A : game.Gr) (xs : List Nat) (i m : Nat) : List UInt8 :=
  game.bit (A.S (xs.getD i 0)) :: (List.range m).flatMap fun k => [game.bit (xs.getD i 0 == xs.getD k 0), game.bit (A.R (xs.getD i 0) (xs.getD k 0)), game.bit (A.R (xs.getD k 0) (xs.getD i 0))]
theorem half_succ (A : game.Gr) (xs : List Nat) (i m : Nat) : half A xs i (m + 1) = half A xs i m ++ [game.bit (xs.getD i 0 == xs.getD m 0), game.bit (A.R (xs.getD i 0) (xs.getD m 0)), game.bit (A.R (xs.getD m 0) (xs.getD i 0))] := by
  unfold half; rw [List.range_succ, List.flatMap_append]; simp
theorem rows_succ (A : game.Gr) (xs : List Nat) (i : Nat) : (List.range (i + 1)).flatMap (game.row A xs) = (List.range i).flatMap (game.row A xs) ++ half A xs i (i + 1) := by
  rw [List.range_succ, List.flatMap_append]; simp [half, game.row]

set_option maxHeartbeats 6400000 in
set_option maxRecDepth 100000 in
theorem atoms_any (N : Nat) (s r : ByteArray) (v : Value) (la : List Nat) (w : World) (hsc : Sc N s r) (hls : Ls w v la N) (hlen : la.length ≤ 20) :
    Calls Tryd.prog 148 #[.agg #[.int .i64 N, .string s, .string r], v] w fun e w' => ∃ o : ByteArray, e = .returned (.string o) ∧ o.data.toList = game.atoms (gr N s r) la ∧ o.size ≤ 2000 ∧ Below w.heap.size w w' := by
  obtain ⟨hn, hs, hr⟩ := hsc
  obtain ⟨n, hnl⟩ : ∃ n, n = la.length := ⟨_, rfl⟩
  obtain ⟨ao, cap, rfl, hrd, -⟩ := hls.1
  rw [ints_len, ← hnl] at hls
  rw [ints_len] at hrd
  have HN := Lib.hid hnl
  have hn20 : n ≤ 20 := by omega
  have HR : Hid (la.length = 0 ∨ ∃ b off, ao = some ⟨b, off, none⟩ ∧ ∀ i, i < la.length → w.cell? ⟨b, off + i, none⟩ = some (.int .i64 ((la.getD i 0 : Nat) : Int))) := by
    rcases hrd with h | ⟨b, off, ha, hc⟩
    · left; have := congrArg List.length h; rw [ints_len] at this; exact this
    · exact .inr ⟨b, off, ha, fun i hi => by rw [hc i hi, ints_get]⟩
  have HE : Hid (∀ i, i < la.length → la.getD i 0 < N) := fun i hi => by
    rw [List.getD_eq_getElem?_getD, List.getElem?_eq_getElem hi]
    exact hls.2.2 _ (List.getElem_mem _)
  rw [ints_len, ← hnl]
  clear hls hrd hlen hnl
  have AW : Hid (Below w.heap.size w (w.alloc (.cells #[.int .i64 N, .string s, .string r] 24)) ∧ Box 24 (w.alloc (.cells #[.int .i64 N, .string s, .string r] 24)) w.heap.size N s r) := ⟨(Below.refl _ _).alloc (Nat.le_refl _) _, Box.new _ _ _ rfl _ _ _⟩
  go_enter Tryd.func148, Tryd.ntmps148
  go_wp2
  go_loopw [5, 6] (fun o i wr => ∃ (k : Nat) (out : ByteArray), k ≤ n ∧ i = .int .i64 k ∧ o = .string out ∧ out.size ≤ 100 * k ∧ Hid (out.data.toList = (List.range k).flatMap (game.row (gr N s r) la)) ∧ Hid (Below w.heap.size w wr ∧ Box 24 wr w.heap.size N s r)) (fun _ i _ => n - (intOf i).toNat)
  case atStart => exact ⟨0, ⟨#[]⟩, Nat.zero_le _, rfl, rfl, Nat.zero_le _, rfl, AW.out⟩
  case round =>
    clear AW
    obtain ⟨k, out, hk, rfl, rfl, hos, HO, HQ⟩ := hrel
    by_cases hlt : k < n
    · have x1 : (k : Int) < (n : Int) := by omega
      rcases HR.out with h0 | ⟨b, off, rfl, hc⟩
      · have := HN.out; omega
      have HC := Lib.hid hc
      clear hc HR
      obtain ⟨x, hxx⟩ : ∃ x, x = la.getD k 0 := ⟨_, rfl⟩
      have hx : x < N := by rw [hxx]; exact HE.out k (by have := HN.out; omega)
      have hxs : x < s.size := by omega
      have hcx : w.cell? ⟨b, off + k, none⟩ = some (.int .i64 (x : Nat)) := by rw [hxx]; exact HC.out k (by have := HN.out; omega)
      have HCX := Lib.hid hcx
      clear hcx
      have HX := Lib.hid hxx
      clear hxx
      have kx : wr.cell? ⟨b, off + k, none⟩ = some (.int .i64 (x : Nat)) := ins.keepCell HQ.out.1 HCX.out
      obtain ⟨p, hp⟩ : ∃ p, p = bitAt s x := ⟨_, rfl⟩
      have HP := Lib.hid hp
      clear hp
      have hos2 : out.size ≤ 100000 := by omega
      have H0 : Hid (Below w.heap.size w wr.drew ∧ Box 24 wr.drew w.heap.size N s r ∧ wr.drew.cell? ⟨b, off + k, none⟩ = some (.int .i64 (x : Nat))) := ⟨HQ.out.1.drew, HQ.out.2, kx⟩
      have q0 : ∀ QQ : Wd (fun Q => Q.cell? ⟨w.heap.size, 0, none⟩ = some (.int .i64 N) ∧ Q.cell? ⟨w.heap.size, 1, none⟩ = some (.string s) ∧ Q.cell? ⟨w.heap.size, 2, none⟩ = some (.string r) ∧ Q.cell? ⟨b, off + k, none⟩ = some (.int .i64 (x : Nat))), QQ.w.cell? ⟨w.heap.size, 0, none⟩ = some (.int .i64 N) := fun QQ => QQ.ok.1
      have q1 : ∀ QQ : Wd (fun Q => Q.cell? ⟨w.heap.size, 0, none⟩ = some (.int .i64 N) ∧ Q.cell? ⟨w.heap.size, 1, none⟩ = some (.string s) ∧ Q.cell? ⟨w.heap.size, 2, none⟩ = some (.string r) ∧ Q.cell? ⟨b, off + k, none⟩ = some (.int .i64 (x : Nat))), QQ.w.cell? ⟨w.heap.size, 1, none⟩ = some (.string s) := fun QQ => QQ.ok.2.1
      have q2 : ∀ QQ : Wd (fun Q => Q.cell? ⟨w.heap.size, 0, none⟩ = some (.int .i64 N) ∧ Q.cell? ⟨w.heap.size, 1, none⟩ = some (.string s) ∧ Q.cell? ⟨w.heap.size, 2, none⟩ = some (.string r) ∧ Q.cell? ⟨b, off + k, none⟩ = some (.int .i64 (x : Nat))), QQ.w.cell? ⟨w.heap.size, 2, none⟩ = some (.string r) := fun QQ => QQ.ok.2.2.1
      have q3 : ∀ QQ : Wd (fun Q => Q.cell? ⟨w.heap.size, 0, none⟩ = some (.int .i64 N) ∧ Q.cell? ⟨w.heap.size, 1, none⟩ = some (.string s) ∧ Q.cell? ⟨w.heap.size, 2, none⟩ = some (.string r) ∧ Q.cell? ⟨b, off + k, none⟩ = some (.int .i64 (x : Nat))), QQ.w.cell? ⟨b, off + k, none⟩ = some (.int .i64 (x : Nat)) := fun QQ => QQ.ok.2.2.2
      have hne : Nonempty (Wd (fun Q => Q.cell? ⟨w.heap.size, 0, none⟩ = some (.int .i64 N) ∧ Q.cell? ⟨w.heap.size, 1, none⟩ = some (.string s) ∧ Q.cell? ⟨w.heap.size, 2, none⟩ = some (.string r) ∧ Q.cell? ⟨b, off + k, none⟩ = some (.int .i64 (x : Nat)))) := ⟨⟨wr.drew, ⟨(Box.c H0.out.2.1).1, (Box.c H0.out.2.1).2.1, (Box.c H0.out.2.1).2.2, H0.out.2.2⟩⟩⟩
      have hadd := fun W => addB out p hos2 W
      clear kx
      go_wp2_with fail
      refine chain (S := (fun Q => Q.cell? ⟨w.heap.size, 0, none⟩ = some (.int .i64 N) ∧ Q.cell? ⟨w.heap.size, 1, none⟩ = some (.string s) ∧ Q.cell? ⟨w.heap.size, 2, none⟩ = some (.string r) ∧ Q.cell? ⟨b, off + k, none⟩ = some (.int .i64 (x : Nat)))) [([true, true, true, true, true, true], 6), ([], 7)] [false, false, false, false, false, false, false, false, true, true] (by kernel_rfl) (by kernel_rfl) (by kernel_rfl) ⟨(Box.c H0.out.2.1).1, (Box.c H0.out.2.1).2.1, (Box.c H0.out.2.1).2.2, H0.out.2.2⟩ ?_
      simp only [wpSegs, pickB, List.dropLast_cons_cons, List.dropLast_singleton, List.getLast?_cons_cons, List.getLast?_singleton, List.toList_toArray, List.getElem?_toArray, List.getElem?_cons_succ, List.getElem?_cons_zero, Option.toList_some]
      repeat (go_big_quiet_step (fail))
      refine wpQuiet_nil ?_
      intro K hK
      go_wp2_with fail
      refine (prod.l1Set_at N s r _ x p _ rfl HP.out.symm hxs (by omega)).mono ?_
      rintro er V1 ⟨rfl, hb⟩
      have H1 : Hid (Below w.heap.size w V1 ∧ Box 24 V1 w.heap.size N s r ∧ V1.cell? ⟨b, off + k, none⟩ = some (.int .i64 (x : Nat))) := ⟨H0.out.1.trans (hb.mono H0.out.1.size), H0.out.2.1.below hb H0.out.2.1.lt, ins.keepCell hb H0.out.2.2⟩
      clear hb
      go_wp2_with fail
      refine hK _ _ ⟨(Box.c H1.out.2.1).1, (Box.c H1.out.2.1).2.1, (Box.c H1.out.2.1).2.2, H1.out.2.2⟩ ?_
      clear hK K
      repeat (go_big_quiet_step (fail))
      refine wpQuiet_nil ?_
      intro K hK
      go_wp2_with fail
      refine (bit_at p _).mono ?_
      rintro er V2 ⟨rfl, rfl⟩
      go_wp2_with fail
      refine hK _ _ ⟨(Box.c H1.out.2.1).1, (Box.c H1.out.2.1).2.1, (Box.c H1.out.2.1).2.2, H1.out.2.2⟩ ?_
      clear hK K
      repeat (go_big_quiet_step (fail))
      refine wpQuiet_nil ?_
      clear q0 q1 q2 q3 hne hadd
      have HH : Hid ((out ++ bitB p).data.toList = (List.range k).flatMap (game.row (gr N s r) la) ++ half (gr N s r) la k 0) := by
        rw [Hid, bitB_app, HO.out, HP.out, HX.out]; rfl
      have hsz : (out ++ bitB p).size ≤ 100 * k + 1 := by rw [bitB_size]; omega
      obtain ⟨ou, hou⟩ : ∃ ou, ou = out ++ bitB p := ⟨_, rfl⟩
      rw [← hou] at HH hsz ⊢
      clear hou hos hos2 HO HQ H0
      go_wp2_with fail
      go_loopw [5, 7] (fun o j wr => ∃ (m : Nat) (out : ByteArray), m ≤ k + 1 ∧ j = .int .i64 m ∧ o = .string out ∧ out.size ≤ 100 * k + 1 + 3 * m ∧ Hid (out.data.toList = (List.range k).flatMap (game.row (gr N s r) la) ++ half (gr N s r) la k m) ∧ Hid (Below w.heap.size w wr ∧ Box 24 wr w.heap.size N s r)) (fun _ j _ => k + 1 - (intOf j).toNat)
      case atStart => exact ⟨0, ou, Nat.zero_le _, rfl, rfl, by omega, HH.out, H1.out.1, H1.out.2.1⟩
      case round =>
        clear H1 HH hsz
        obtain ⟨m, out, hm, rfl, rfl, hos, HO, HQ⟩ := hrel
        by_cases hlt2 : m < k + 1
        · have y1 : (m : Int) ≤ (k : Int) := by omega
          have y2 : (m : Int) < (n : Int) := by omega
          obtain ⟨y, hyy⟩ : ∃ y, y = la.getD m 0 := ⟨_, rfl⟩
          have hy : y < N := by rw [hyy]; exact HE.out m (by have := HN.out; omega)
          have ky : wr.cell? ⟨b, off + m, none⟩ = some (.int .i64 (y : Nat)) := by rw [hyy]; exact ins.keepCell HQ.out.1 (HC.out m (by have := HN.out; omega))
          have kx : wr.cell? ⟨b, off + k, none⟩ = some (.int .i64 (x : Nat)) := ins.keepCell HQ.out.1 HCX.out
          have HY := Lib.hid hyy
          clear hyy
          obtain ⟨e1, he1⟩ : ∃ p, p = ((x : Int) == (y : Int)) := ⟨_, rfl⟩
          obtain ⟨r1, hr1⟩ : ∃ p, p = bitAt r (x * N + y) := ⟨_, rfl⟩
          obtain ⟨r2, hr2⟩ : ∃ p, p = bitAt r (y * N + x) := ⟨_, rfl⟩
          have HB1 : Hid (e1 = (x == y) ∧ r1 = bitAt r (x * N + y) ∧ r2 = bitAt r (y * N + x)) := ⟨by rw [he1, Bool.eq_iff_iff, beq_iff_eq, beq_iff_eq]; omega, hr1, hr2⟩
          have he1' : ((x : Int) == (y : Int)) = e1 := he1.symm
          clear he1 hr1 hr2
          have hos2 : out.size ≤ 100000 := by omega
          have H0 : Hid (Below w.heap.size w wr.drew ∧ Box 24 wr.drew w.heap.size N s r ∧ wr.drew.cell? ⟨b, off + k, none⟩ = some (.int .i64 (x : Nat)) ∧ wr.drew.cell? ⟨b, off + m, none⟩ = some (.int .i64 (y : Nat))) := ⟨HQ.out.1.drew, HQ.out.2, kx, ky⟩
          have q0 : ∀ QQ : Wd (fun Q => Q.cell? ⟨w.heap.size, 0, none⟩ = some (.int .i64 N) ∧ Q.cell? ⟨w.heap.size, 1, none⟩ = some (.string s) ∧ Q.cell? ⟨w.heap.size, 2, none⟩ = some (.string r) ∧ Q.cell? ⟨b, off + k, none⟩ = some (.int .i64 (x : Nat)) ∧ Q.cell? ⟨b, off + m, none⟩ = some (.int .i64 (y : Nat))), QQ.w.cell? ⟨w.heap.size, 0, none⟩ = some (.int .i64 N) := fun QQ => QQ.ok.1
          have q1 : ∀ QQ : Wd (fun Q => Q.cell? ⟨w.heap.size, 0, none⟩ = some (.int .i64 N) ∧ Q.cell? ⟨w.heap.size, 1, none⟩ = some (.string s) ∧ Q.cell? ⟨w.heap.size, 2, none⟩ = some (.string r) ∧ Q.cell? ⟨b, off + k, none⟩ = some (.int .i64 (x : Nat)) ∧ Q.cell? ⟨b, off + m, none⟩ = some (.int .i64 (y : Nat))), QQ.w.cell? ⟨w.heap.size, 1, none⟩ = some (.string s) := fun QQ => QQ.ok.2.1
          have q2 : ∀ QQ : Wd (fun Q => Q.cell? ⟨w.heap.size, 0, none⟩ = some (.int .i64 N) ∧ Q.cell? ⟨w.heap.size, 1, none⟩ = some (.string s) ∧ Q.cell? ⟨w.heap.size, 2, none⟩ = some (.string r) ∧ Q.cell? ⟨b, off + k, none⟩ = some (.int .i64 (x : Nat)) ∧ Q.cell? ⟨b, off + m, none⟩ = some (.int .i64 (y : Nat))), QQ.w.cell? ⟨w.heap.size, 2, none⟩ = some (.string r) := fun QQ => QQ.ok.2.2.1
          have q3 : ∀ QQ : Wd (fun Q => Q.cell? ⟨w.heap.size, 0, none⟩ = some (.int .i64 N) ∧ Q.cell? ⟨w.heap.size, 1, none⟩ = some (.string s) ∧ Q.cell? ⟨w.heap.size, 2, none⟩ = some (.string r) ∧ Q.cell? ⟨b, off + k, none⟩ = some (.int .i64 (x : Nat)) ∧ Q.cell? ⟨b, off + m, none⟩ = some (.int .i64 (y : Nat))), QQ.w.cell? ⟨b, off + k, none⟩ = some (.int .i64 (x : Nat)) := fun QQ => QQ.ok.2.2.2.1
          have q4 : ∀ QQ : Wd (fun Q => Q.cell? ⟨w.heap.size, 0, none⟩ = some (.int .i64 N) ∧ Q.cell? ⟨w.heap.size, 1, none⟩ = some (.string s) ∧ Q.cell? ⟨w.heap.size, 2, none⟩ = some (.string r) ∧ Q.cell? ⟨b, off + k, none⟩ = some (.int .i64 (x : Nat)) ∧ Q.cell? ⟨b, off + m, none⟩ = some (.int .i64 (y : Nat))), QQ.w.cell? ⟨b, off + m, none⟩ = some (.int .i64 (y : Nat)) := fun QQ => QQ.ok.2.2.2.2
          have hne : Nonempty (Wd (fun Q => Q.cell? ⟨w.heap.size, 0, none⟩ = some (.int .i64 N) ∧ Q.cell? ⟨w.heap.size, 1, none⟩ = some (.string s) ∧ Q.cell? ⟨w.heap.size, 2, none⟩ = some (.string r) ∧ Q.cell? ⟨b, off + k, none⟩ = some (.int .i64 (x : Nat)) ∧ Q.cell? ⟨b, off + m, none⟩ = some (.int .i64 (y : Nat)))) := ⟨⟨wr.drew, ⟨(Box.c H0.out.2.1).1, (Box.c H0.out.2.1).2.1, (Box.c H0.out.2.1).2.2, H0.out.2.2.1, H0.out.2.2.2⟩⟩⟩
          have hadd1 := fun W => addB out e1 hos2 W
          have hadd2 := fun W => addB (out ++ bitB e1) r1 (by rw [bitB_size]; omega) W
          have hadd3 := fun W => addB (out ++ bitB e1 ++ bitB r1) r2 (by rw [bitB_size, bitB_size]; omega) W
          clear kx ky
          go_wp2_with fail
          refine chain (S := (fun Q => Q.cell? ⟨w.heap.size, 0, none⟩ = some (.int .i64 N) ∧ Q.cell? ⟨w.heap.size, 1, none⟩ = some (.string s) ∧ Q.cell? ⟨w.heap.size, 2, none⟩ = some (.string r) ∧ Q.cell? ⟨b, off + k, none⟩ = some (.int .i64 (x : Nat)) ∧ Q.cell? ⟨b, off + m, none⟩ = some (.int .i64 (y : Nat)))) [([true, true, true, true, true, true, true, true, true, true, false, false, true, true, true, true, true, true, true, true, true, false, false, false, true, true, true, true, true, true, true, true, true], 10), ([false, false, false, false, false, false, false, false, false, false, false, true], 21), ([], 22), ([false, false, false, false, false, false, false, false, false, false, false, false, false, false, false, false, false, false, false, false, false, false, false, true], 33), ([], 34)] [false, false, false, false, false, false, false, false, false, false, false, false, false, false, false, false, false, false, false, false, false, false, false, false, false, false, false, false, false, false, false, false, false, false, false, true, true] (by kernel_rfl) (by kernel_rfl) (by kernel_rfl) ⟨(Box.c H0.out.2.1).1, (Box.c H0.out.2.1).2.1, (Box.c H0.out.2.1).2.2, H0.out.2.2.1, H0.out.2.2.2⟩ ?_
          simp only [wpSegs, pickB, List.dropLast_cons_cons, List.dropLast_singleton, List.getLast?_cons_cons, List.getLast?_singleton, List.toList_toArray, List.getElem?_toArray, List.getElem?_cons_succ, List.getElem?_cons_zero, Option.toList_some]
          repeat (go_big_quiet_step (fail))
          refine wpQuiet_nil ?_
          intro K hK
          go_wp2_with fail
          refine (bit_at e1 _).mono ?_
          rintro er V9 ⟨rfl, rfl⟩
          go_wp2_with fail
          refine hK _ _ ⟨(Box.c H0.out.2.1).1, (Box.c H0.out.2.1).2.1, (Box.c H0.out.2.1).2.2, H0.out.2.2.1, H0.out.2.2.2⟩ ?_
          clear hK K
          repeat (go_big_quiet_step (fail))
          refine wpQuiet_nil ?_
          intro K hK
          go_wp2_with fail
          refine (prod.l1Rel_at N s r _ _ x y r1 _ rfl rfl HB1.out.2.1.symm hx hy hn hr).mono ?_
          rintro er V1 ⟨rfl, hb⟩
          have H1 : Hid (Below w.heap.size w V1 ∧ Box 24 V1 w.heap.size N s r ∧ V1.cell? ⟨b, off + k, none⟩ = some (.int .i64 (x : Nat)) ∧ V1.cell? ⟨b, off + m, none⟩ = some (.int .i64 (y : Nat))) := ⟨H0.out.1.trans (hb.mono H0.out.1.size), H0.out.2.1.below hb H0.out.2.1.lt, ins.keepCell hb H0.out.2.2.1, ins.keepCell hb H0.out.2.2.2⟩
          clear hb
          go_wp2_with fail
          refine hK _ _ ⟨(Box.c H1.out.2.1).1, (Box.c H1.out.2.1).2.1, (Box.c H1.out.2.1).2.2, H1.out.2.2.1, H1.out.2.2.2⟩ ?_
          clear hK K
          repeat (go_big_quiet_step (fail))
          refine wpQuiet_nil ?_
          intro K hK
          go_wp2_with fail
          refine (bit_at r1 _).mono ?_
          rintro er V8 ⟨rfl, rfl⟩
          go_wp2_with fail
          refine hK _ _ ⟨(Box.c H1.out.2.1).1, (Box.c H1.out.2.1).2.1, (Box.c H1.out.2.1).2.2, H1.out.2.2.1, H1.out.2.2.2⟩ ?_
          clear hK K
          repeat (go_big_quiet_step (fail))
          refine wpQuiet_nil ?_
          intro K hK
          go_wp2_with fail
          refine (prod.l1Rel_at N s r _ _ y x r2 _ rfl rfl HB1.out.2.2.symm hy hx hn hr).mono ?_
          rintro er V2 ⟨rfl, hb⟩
          have H2 : Hid (Below w.heap.size w V2 ∧ Box 24 V2 w.heap.size N s r ∧ V2.cell? ⟨b, off + k, none⟩ = some (.int .i64 (x : Nat)) ∧ V2.cell? ⟨b, off + m, none⟩ = some (.int .i64 (y : Nat))) := ⟨H1.out.1.trans (hb.mono H1.out.1.size), H1.out.2.1.below hb H1.out.2.1.lt, ins.keepCell hb H1.out.2.2.1, ins.keepCell hb H1.out.2.2.2⟩
          clear hb
          go_wp2_with fail
          refine hK _ _ ⟨(Box.c H2.out.2.1).1, (Box.c H2.out.2.1).2.1, (Box.c H2.out.2.1).2.2, H2.out.2.2.1, H2.out.2.2.2⟩ ?_
          clear hK K
          repeat (go_big_quiet_step (fail))
          refine wpQuiet_nil ?_
          intro K hK
          go_wp2_with fail
          refine (bit_at r2 _).mono ?_
          rintro er V7 ⟨rfl, rfl⟩
          go_wp2_with fail
          refine hK _ _ ⟨(Box.c H2.out.2.1).1, (Box.c H2.out.2.1).2.1, (Box.c H2.out.2.1).2.2, H2.out.2.2.1, H2.out.2.2.2⟩ ?_
          clear hK K
          repeat (go_big_quiet_step (fail))
          refine wpQuiet_nil ?_
          clear q0 q1 q2 q3 q4 hne hadd1 hadd2 hadd3
          have HH : Hid ((out ++ bitB e1 ++ bitB r1 ++ bitB r2).data.toList = (List.range k).flatMap (game.row (gr N s r) la) ++ half (gr N s r) la k (m + 1)) := by
            rw [Hid, bitB_app, bitB_app, bitB_app, HO.out, half_succ, HB1.out.1, HB1.out.2.1, HB1.out.2.2, HX.out, HY.out]
            simp [gr]
          have hsz : (out ++ bitB e1 ++ bitB r1 ++ bitB r2).size ≤ 100 * k + 1 + 3 * (m + 1) := by rw [bitB_size, bitB_size, bitB_size]; omega
          obtain ⟨ou, hou⟩ : ∃ ou, ou = out ++ bitB e1 ++ bitB r1 ++ bitB r2 := ⟨_, rfl⟩
          rw [← hou] at HH hsz ⊢
          have FIN : Hid (Below w.heap.size w V7 ∧ Box 24 V7 w.heap.size N s r) := ⟨H2.out.1, H2.out.2.1⟩
          clear hou hos hos2 HO HQ H0 H1 H2 he1'
          go_wp2
          go_roundw
          case rel => exact ⟨m + 1, ou, by omega, by go_num, rfl, hsz, HH.out, FIN.out⟩
          case measure => simp [intOf]; omega
        · obtain rfl : k + 1 = m := by omega
          have y1 : ¬ ((k + 1 : Nat) : Int) ≤ (k : Int) := by omega
          have HH : Hid (out.data.toList = (List.range (k + 1)).flatMap (game.row (gr N s r) la)) := by rw [Hid, HO.out, rows_succ]
          have hsz : out.size ≤ 100 * (k + 1) := by omega
          clear hos HO hlt2
          go_wp2
          go_roundw
          case rel => exact ⟨k + 1, out, by omega, by go_num, rfl, hsz, HH.out, HQ.out⟩
          case measure => simp [intOf]; omega
    · obtain rfl : n = k := by omega
      have HF : Hid (out.data.toList = game.atoms (gr N s r) la ∧ out.size ≤ 2000 ∧ Below w.heap.size w wr) := ⟨by rw [HO.out, HN.out]; rfl, by omega, HQ.out.1⟩
      clear HO
      go_wp2
      go_ret
      exact ⟨out, rfl, HF.out⟩
end Go.Proofs.YtpcnoiigbmiejaaDoor.tab

/- The reference's l5New. -/
namespace Go.Proofs.YtpcnoiigbmiejaaDoor.tab
set_option linter.unusedVariables false
set_option linter.unusedSimpArgs false
open Go.ChangeShapes Go.WideShapes Go.ChangeAt Go.RowKit
open Go.Proofs.YtpcnoiigbmiejaaDoor.lib Go.Proofs.YtpcnoiigbmiejaaDoor.flow Go.Proofs.YtpcnoiigbmiejaaDoor.chain
def NewPost (w : World) (e : Ending) (w' : World) : Prop :=
  ∃ (gl cl gc cc : Nat) (D : Nat → Prop) (vs : List Value), e = .returned (tv gl cl gc cc) ∧ TabP gl cl gc cc w' D [] vs ∧ Below w.heap.size w w' ∧ ∀ k, D k → w.heap.size ≤ k
theorem infoRow : (Tryd.prog.info? 172).map (fun i => (i.zero, i.size, i.bytes)) = some (some (.slice none 0 0), 1, 24) := by kernel_rfl
theorem tab_new {gl gc B : Nat} {w : World} {vs : List Value} (hv : vs = List.replicate 997 (.slice none 0 0)) (hr : w.ownsRow B 172 1 (.slice (some ⟨gl, 0, none⟩) 997 997) 997 vs) (hc : OwnI 3 w B (.slice (some ⟨gc, 0, none⟩) 1 1) [0]) (hn : gl ≠ gc) :
    TabP gl 997 gc 1 w (fun k => k = gl ∨ k = gc) [] vs where
  len := by rw [hv]; exact List.length_replicate
  rows := ⟨hr.1, by
    rcases hr.2 with h | ⟨g, cap, cur, hv, hb, r⟩
    · exact .inl h
    · exact .inr ⟨g, cap, cur, hv, Nat.zero_le _, r⟩⟩
  count := hc.mono (Nat.zero_le _)
  ne := hn
  dl := .inl rfl
  dc := .inr rfl
  row := fun k u hu => by
    rw [hv] at hu
    have : u = .slice none 0 0 := by have := List.mem_of_getElem? hu; exact List.eq_of_mem_replicate this
    rw [this]; exact World.ownsRow_nil _ _ _ _
  dr := fun k u g hu hg => by
    rw [hv] at hu
    have : u = .slice none 0 0 := by have := List.mem_of_getElem? hu; exact List.eq_of_mem_replicate this
    rw [this] at hg; cases hg
  apart := fun j k u u' g _ hu _ hg => by
    rw [hv] at hu
    have : u = .slice none 0 0 := by have := List.mem_of_getElem? hu; exact List.eq_of_mem_replicate this
    rw [this] at hg; cases hg
  off := fun k u g hu hg => by
    rw [hv] at hu
    have : u = .slice none 0 0 := by have := List.mem_of_getElem? hu; exact List.eq_of_mem_replicate this
    rw [this] at hg; cases hg
  nodup := List.nodup_nil
  lt := fun k hk => by
    rcases hk with rfl | rfl
    · exact (hr.lt _ rfl).2
    · exact (hc.lt _ rfl).2
set_option maxHeartbeats 3200000 in
set_option maxRecDepth 100000 in
theorem new_any (w : World) : Calls Tryd.prog 110 #[] w (NewPost w) := by
  obtain ⟨i0, hi, hz0, hz1, hz2⟩ := info_parts infoRow
  go_enter Tryd.func110, Tryd.ntmps110
  go_wp2_with (at_make; refine wpList_make_full _ rfl _ _ 103 rfl (w.heap.size + 1) 172 i0 (.slice none 0 0) 1 Tryd.underlying103 hi hz0 hz1 _ _ _ _ 997 rfl rfl (by omega) (by omega) ?b2 ?b3 (by simp) ?_)
  case b2 => rw [hz2]; omega
  case b3 => unfold maxLen; omega
  intro w1 hown0 hgrow0
  obtain ⟨vs, hvs⟩ : ∃ vs, vs = (madeCells #[Value.slice none 0 0] 997).toList := ⟨_, rfl⟩
  have hown1 : w1.ownsRow (w.heap.size + 1) 172 1 (.slice (some ⟨w.heap.size + 1, 0, none⟩) 997 997) 997 vs := by rw [hvs]; exact hown0
  rw [toList_madeCells_one] at hvs
  obtain ⟨h, hh⟩ : ∃ h, h = w.heap.size := ⟨_, rfl⟩
  rw [← hh] at hown1 ⊢
  have hb : w1.heap[h]? = some (.cells #[.slice none 0 0, .slice none 0 0] 105 (0, 0)) := by
    rw [hgrow0.block h (by rw [hh]; simp) (by simp), hh]; exact heap_alloc_new w _
  have hlt : h + 1 < w1.heap.size := (hown1.lt _ rfl).2
  have k0 : w1.cell? ⟨h, 0, none⟩ = some (.slice none 0 0) := by rw [cell_of_row w1 h 0 _ _ (0, 0) hb]; rfl
  have k1 : w1.cell? ⟨h, 1, none⟩ = some (.slice none 0 0) := by rw [cell_of_row w1 h 1 _ _ (0, 0) hb]; rfl
  have f0 : w1.frozen? ⟨h, 0, none⟩ = false := frozen_of_row w1 h 0 _ _ hb
  have f1 : w1.frozen? ⟨h, 1, none⟩ = false := frozen_of_row w1 h 1 _ _ hb
  have hB0 : Below w.heap.size w w1 := by
    have h1 : Below w.heap.size w (w.alloc (.cells #[.slice none 0 0, .slice none 0 0] 105)) := (Below.refl _ _).alloc (Nat.le_refl _) _
    exact h1.trans ((below_of_grown hgrow0 (Nat.le_refl _) (fun k h => by cases h)).mono (by simp))
  have HV := Lib.hid (show _ ∧ _ ∧ _ ∧ _ from ⟨hvs, hown1, hb, hB0⟩)
  have HH := Lib.hid hh
  obtain ⟨t, ht⟩ : ∃ t : Nat, t = 997 := ⟨_, rfl⟩
  have HT := Lib.hid ht
  rw [← ht]
  have hlt0 : h < w1.heap.size := by omega
  have A0 : ∀ o, (w1.alloc o).cell? ⟨h, 0, none⟩ = some (.slice none 0 0) := fun o => by rw [World.cell?_alloc_lt _ _ _ hlt0]; exact k0
  have A1 : ∀ o, (w1.alloc o).cell? ⟨h, 1, none⟩ = some (.slice none 0 0) := fun o => by rw [World.cell?_alloc_lt _ _ _ hlt0]; exact k1
  have F0 : ∀ o, (w1.alloc o).frozen? ⟨h, 0, none⟩ = false := fun o => by rw [World.frozen?_of_block (w := w1) (heap_alloc_old w1 o hlt0)]; exact f0
  have F1 : ∀ o, (w1.alloc o).frozen? ⟨h, 1, none⟩ = false := fun o => by rw [World.frozen?_of_block (w := w1) (heap_alloc_old w1 o hlt0)]; exact f1
  clear hvs hown1 hb hB0 hown0 hgrow0 hi hz0 hz1 hz2 hh ht
  go_wp2
  obtain ⟨v0, hv0⟩ : ∃ v, v = Value.slice (some ⟨h + 1, 0, none⟩) t t := ⟨_, rfl⟩
  obtain ⟨v1, hv1⟩ : ∃ v, v = Value.slice (some ⟨w1.heap.size, 0, none⟩) 1 1 := ⟨_, rfl⟩
  obtain ⟨W, hW⟩ : ∃ W, W = (((w1.setCell ⟨h, 0, none⟩ v0).setCell ⟨h, 1, none⟩ v1).alloc (.cells #[.int .i64 0] 3)) := ⟨_, rfl⟩
  have hbF : W.heap[h]? = some (.cells #[v0, v1] 105 (0, 0)) := by
    rw [hW, heap_alloc_old _ _ (by simpa using hlt0)]
    exact heap_setCell_same _ h 1 _ _ v1 (heap_setCell_same w1 h 0 _ _ v0 HV.out.2.2.1)
  have kk : ∀ k, k ≠ h → k < w1.heap.size → W.heap[k]? = w1.heap[k]? := fun k hk hlt => by
    rw [hW, heap_alloc_old _ _ (by simpa using hlt), heap_setCell_other _ ⟨h, 1, none⟩ k _ hk, heap_setCell_other _ ⟨h, 0, none⟩ k _ hk]
  have hsz : W.heap.size = w1.heap.size + 1 := by rw [hW]; simp
  have c0 : W.cell? ⟨h, 0, none⟩ = some v0 := by rw [cell_of_row W h 0 _ _ (0, 0) hbF]; rfl
  have c1 : W.cell? ⟨h, 1, none⟩ = some v1 := by rw [cell_of_row W h 1 _ _ (0, 0) hbF]; rfl
  have HF : Hid (TabP (h + 1) 997 w1.heap.size 1 W (fun k => k = h + 1 ∨ k = w1.heap.size) [] vs ∧ Below w.heap.size w W) := by
    refine ⟨tab_new HV.out.1 (B := h + 1) (owns_same HV.out.2.1 fun g hg => ?_) ?_ (by omega), ?_⟩
    · cases hg; exact kk (h + 1) (by omega) hlt
    · refine ⟨rfl, .inr ⟨w1.heap.size, 1, #[.int .i64 0], rfl, by omega, ?_, by decide, by decide, rfl, rfl⟩⟩
      rw [hW]
      have := heap_alloc_new ((w1.setCell ⟨h, 0, none⟩ v0).setCell ⟨h, 1, none⟩ v1) (.cells #[.int .i64 0] 3)
      simpa using this
    · rw [hW]
      exact (((HV.out.2.2.2.setCell (p := ⟨h, 0, none⟩) (by rw [← HH.out]; exact Nat.le_refl _) v0).setCell (p := ⟨h, 1, none⟩) (by rw [← HH.out]; exact Nat.le_refl _) v1).alloc (by have := HV.out.2.2.2.size; simpa using this) _)
  rw [← hv0, ← hv1, ← hW]
  clear hW kk hsz hbF A0 A1 F0 F1 k0 k1 f0 f1
  exact bodyPost_ret (v := .agg #[v0, v1]) (by simp [results, Tryd.results110, go_sem, c0, c1]) rfl ⟨h + 1, t, w1.heap.size, 1, _, vs, by rw [hv0, hv1, HT.out]; rfl, by rw [HT.out]; exact HF.out.1, HF.out.2, fun k hk => by rcases hk with rfl | rfl <;> (have := HH.out; omega)⟩
end Go.Proofs.YtpcnoiigbmiejaaDoor.tab

/- What a call of l5Type leaves, in words about memory; the descriptions' texts. -/
namespace Go.Proofs.YtpcnoiigbmiejaaDoor.tab
set_option linter.unusedVariables false
set_option linter.unusedSimpArgs false
open Go.ChangeShapes Go.WideShapes Go.ChangeAt Go.RowKit
open Go.Proofs.YtpcnoiigbmiejaaDoor.lib Go.Proofs.YtpcnoiigbmiejaaDoor.st Go.Proofs.YtpcnoiigbmiejaaDoor.flow Go.Proofs.YtpcnoiigbmiejaaDoor.chain Go.Proofs.YtpcnoiigbmiejaaDoor.gob Go.Proofs.YtpcnoiigbmiejaaDoor.gow Go.Proofs.YtpcnoiigbmiejaaDoor.still Go.Proofs.YtpcnoiigbmiejaaDoor.fits

/-- the descriptions as lists -/
def TL (L : List ByteArray) : List (List UInt8) := L.map fun b => b.data.toList
theorem TL_nodup {L : List ByteArray} (h : L.Nodup) : (TL L).Nodup := by
  unfold TL
  rw [List.nodup_iff_pairwise_ne] at h ⊢
  rw [List.pairwise_map]
  exact h.imp fun hab e => hab (bytes_eq e)
theorem TL_at {L : List ByteArray} {n : Nat} {s : ByteArray} (h : L[n]? = some s) : (TL L)[n]? = some s.data.toList := by
  unfold TL; rw [List.getElem?_map, h]; rfl
theorem TL_more {L L' : List ByteArray} {s : ByteArray} (h : L' = L ∨ (L' = L ++ [s] ∧ s ∉ L)) : TL L <+: TL L' ∧ L'.length ≤ L.length + 1 := by
  rcases h with rfl | ⟨rfl, _⟩
  · exact ⟨List.prefix_refl _, by omega⟩
  · unfold TL; rw [List.map_append]; exact ⟨List.prefix_append _ _, by simp⟩
/-- under way in a call of l5Type -/
structure SS (gl cl gc cc N : Nat) (s r : ByteArray) (w : World) (D0 : Nat → Prop) (L0 : List ByteArray) (W : World) (D : Nat → Prop) (L : List ByteArray) (vs : List Value) : Prop where
  tab : TabP gl cl gc cc W D L vs
  out : Out D0 w W
  d : ∀ k, D k → D0 k ∨ w.heap.size + 2 ≤ k
  d0 : ∀ k, D0 k → k < w.heap.size
  c0 : W.cell? ⟨w.heap.size, 0, none⟩ = some (.slice (some ⟨gl, 0, none⟩) 997 cl)
  c1 : W.cell? ⟨w.heap.size, 1, none⟩ = some (.slice (some ⟨gc, 0, none⟩) 1 cc)
  box : Box 24 W (w.heap.size + 1) N s r
  pre : TL L0 <+: TL L
section
variable {gl cl gc cc N : Nat} {s r : ByteArray} {w W W' : World} {D0 D D' : Nat → Prop} {L0 L L' : List ByteArray} {vs vs' : List Value}
theorem SS.not (h : SS gl cl gc cc N s r w D0 L0 W D L vs) {k : Nat} (h1 : w.heap.size ≤ k) (h2 : k < w.heap.size + 2) : ¬ D k := fun hd => by
  rcases h.d k hd with e | e
  · have := h.d0 k e; omega
  · omega
theorem SS.lt (h : SS gl cl gc cc N s r w D0 L0 W D L vs) : w.heap.size + 2 ≤ W.heap.size := by have := h.box.lt; omega
theorem SS.below {C : Nat} (h : SS gl cl gc cc N s r w D0 L0 W D L vs) (hb : Below C W W') (hC : W.heap.size ≤ C) : SS gl cl gc cc N s r w D0 L0 W' D L vs where
  tab := h.tab.below hb hC
  out := h.out.trans (Out.of_below (D := fun _ => False) hb hC) (fun k hk => hk.elim)
  d := h.d
  d0 := h.d0
  c0 := ins.keepCell hb h.c0 hC
  c1 := ins.keepCell hb h.c1 hC
  box := h.box.below hb (by have := h.lt; omega)
  pre := h.pre
theorem SS.step (h : SS gl cl gc cc N s r w D0 L0 W D L vs) (ht : TabP gl cl gc cc W' D' L' vs') (ho : Out D W W') (hd : ∀ k, D' k → D k ∨ W.heap.size ≤ k) (hp : TL L <+: TL L') : SS gl cl gc cc N s r w D0 L0 W' D' L' vs' where
  tab := ht
  out := h.out.trans ho fun k hk => by
    rcases h.d k hk with e | e
    · exact .inl e
    · exact .inr (by omega)
  d := fun k hk => by
    rcases hd k hk with e | e
    · exact h.d k e
    · exact .inr (by have := h.lt; omega)
  d0 := h.d0
  c0 := ho.cell h.c0 (h.not (k := w.heap.size) (Nat.le_refl _) (by omega))
  c1 := ho.cell h.c1 (h.not (k := w.heap.size) (Nat.le_refl _) (by omega))
  box := (ho.block _ h.box.lt (h.not (by omega) (by omega))).trans h.box
  pre := h.pre.trans hp
/-- a list of the call's own grew -/
theorem SS.grown {g : Nat} (h : SS gl cl gc cc N s r w D0 L0 W D L vs) (hg : W.grownBy W' (some g)) (hn : ¬ D g) (hB : w.heap.size + 2 ≤ g) : SS gl cl gc cc N s r w D0 L0 W' D L vs where
  tab := h.tab.kept (fun k hk => hg.block k (h.tab.lt k hk) fun e => by cases e; exact hn hk) hg.size
  out := h.out.trans (Out.of_grown (D := fun k => k = g) hg fun k e => (Option.some.inj e).symm) fun k hk => .inr (by rw [hk]; omega)
  d := h.d
  d0 := h.d0
  c0 := hg.cell h.c0 (by intro e; have := Option.some.inj e; simp at this; omega)
  c1 := hg.cell h.c1 (by intro e; have := Option.some.inj e; simp at this; omega)
  box := (hg.block _ h.box.lt (by intro e; have := Option.some.inj e; omega)).trans h.box
  pre := h.pre
end
theorem commas_snoc (l : List Nat) (n : Nat) : game.commas (l ++ [n]) = game.commas l ++ 44 :: game.dec n := by
  unfold game.commas; rw [List.flatMap_append]; simp
end Go.Proofs.YtpcnoiigbmiejaaDoor.tab
