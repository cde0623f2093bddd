/- Several texts in one: ColI, ColJ, ColE. -/
import Derived.Test.YtefneihlgclkbaaGreatDoorPkC
import Derived.Test.YtefneihlgclkbaaGreatDoorPkB
import Derived.Test.YtefneihlgclkbaaGreatDoorTree
import Derived.Deep.CutRange
/- ColoursOf and ColourCounts of the program. -/
namespace Go.Proofs.YtefneihlgclkbaaGreatDoor.coli
set_option linter.unusedVariables false
set_option linter.unusedSimpArgs false
open Go.ChangeShapes Go.WideShapes Go.ChangeAt Go.RowKit
open Go.Proofs.YtefneihlgclkbaaGreatDoor.lib Go.Proofs.YtefneihlgclkbaaGreatDoor.st Go.Proofs.YtefneihlgclkbaaGreatDoor.base Go.Proofs.YtefneihlgclkbaaGreatDoor.col Go.Proofs.YtefneihlgclkbaaGreatDoor.colp Go.Proofs.YtefneihlgclkbaaGreatDoor.sll Go.Proofs.YtefneihlgclkbaaGreatDoor.both Go.Proofs.YtefneihlgclkbaaGreatDoor.cmp Go.Proofs.YtefneihlgclkbaaGreatDoor.less Go.Proofs.YtefneihlgclkbaaGreatDoor.specc Go.Proofs.YtefneihlgclkbaaGreatDoor.specd Go.Proofs.YtefneihlgclkbaaGreatDoor.colsa Go.Proofs.YtefneihlgclkbaaGreatDoor.flow Go.Proofs.YtefneihlgclkbaaGreatDoor.descr

theorem strs_one {w : World} {H N : Nat} {s r : ByteArray} (h : Box 24 w H N s r) (hf : Fit ⟨N, s, r⟩) : Strs w H [⟨N, s, r⟩] := by
  obtain ⟨h0, h1, h2⟩ := h.c
  refine ⟨h.lt, fun i a hi => ?_, fun a ha => ?_⟩
  · match i, hi with
    | 0, hi => simp only [List.getElem?_cons_zero, Option.some.injEq] at hi; subst hi; exact ⟨h0, h1, h2⟩
    | i + 1, hi => simp at hi
  · rw [List.mem_singleton.1 ha]; exact hf
theorem strs_two {w : World} {H N M : Nat} {s r t q : ByteArray} (hH : w.heap.size = H) (hf : Fit ⟨N, s, r⟩) (hf2 : Fit ⟨M, t, q⟩) : Strs (w.alloc (.cells #[.int .i64 N, .string s, .string r, .int .i64 M, .string t, .string q] 24)) H [⟨N, s, r⟩, ⟨M, t, q⟩] := by
  subst hH
  have hc : ∀ j u, (#[Value.int .i64 N, .string s, .string r, .int .i64 M, .string t, .string q] : Array Value)[j]? = some u → (w.alloc (.cells #[.int .i64 N, .string s, .string r, .int .i64 M, .string t, .string q] 24)).cell? ⟨w.heap.size, j, none⟩ = some u := fun j u hj => by
    rw [cell_of_row _ _ j _ _ (0, 0) (heap_alloc_new w _)]; exact hj
  refine ⟨by simp, fun i a hi => ?_, fun a ha => ?_⟩
  · match i, hi with
    | 0, hi => simp only [List.getElem?_cons_zero, Option.some.injEq] at hi; subst hi; exact ⟨hc 0 _ rfl, hc 1 _ rfl, hc 2 _ rfl⟩
    | 1, hi => simp only [List.getElem?_cons_succ, List.getElem?_cons_zero, Option.some.injEq] at hi; subst hi; exact ⟨hc 3 _ rfl, hc 4 _ rfl, hc 5 _ rfl⟩
    | i + 2, hi => simp at hi
  · rcases List.mem_cons.1 ha with rfl | ha
    · exact hf
    · rw [List.mem_singleton.1 ha]; exact hf2
/-- coloursAfter of one structure, of two -/
theorem after_one (w : World) (H N R : Nat) (s r : ByteArray) (hH : w.heap.size = H) (hf : Fit ⟨N, s, r⟩) (hR : R ≤ 100) :
    Calls Tryz.prog 20 #[.slice (some ⟨H, 0, none⟩) 1 1, .int .i64 R] (w.alloc (.cells #[.int .i64 N, .string s, .string r] 24)) fun e w' => ∃ u, e = .returned u ∧ OwnI 3 w' w.heap.size u (cols [⟨N, s, r⟩] R) ∧ Below w.heap.size w w' := by
  have AL : Below w.heap.size w (w.alloc (.cells #[.int .i64 N, .string s, .string r] 24)) := (Below.refl _ _).alloc (Nat.le_refl _) _
  refine (after_any _ H 1 R [⟨N, s, r⟩] (strs_one (Box.new _ _ _ hH _ _ _) hf) rfl (Nat.le_refl _) (by omega) hR).mono ?_
  rintro e w' ⟨u, he, ho, hb⟩
  exact ⟨u, he, ho.mono AL.size, AL.trans (hb.mono AL.size)⟩
theorem after_two (w : World) (H N M R : Nat) (s r t q : ByteArray) (hH : w.heap.size = H) (hf : Fit ⟨N, s, r⟩) (hf2 : Fit ⟨M, t, q⟩) (hR : R ≤ 100) :
    Calls Tryz.prog 20 #[.slice (some ⟨H, 0, none⟩) 2 2, .int .i64 R] (w.alloc (.cells #[.int .i64 N, .string s, .string r, .int .i64 M, .string t, .string q] 24)) fun e w' => ∃ u, e = .returned u ∧ OwnI 3 w' w.heap.size u (cols [⟨N, s, r⟩, ⟨M, t, q⟩] R) ∧ Below w.heap.size w w' := by
  have AL : Below w.heap.size w (w.alloc (.cells #[.int .i64 N, .string s, .string r, .int .i64 M, .string t, .string q] 24)) := (Below.refl _ _).alloc (Nat.le_refl _) _
  refine (after_any _ H 2 R [⟨N, s, r⟩, ⟨M, t, q⟩] (strs_two hH hf hf2) rfl (by omega) (Nat.le_refl _) hR).mono ?_
  rintro e w' ⟨u, he, ho, hb⟩
  exact ⟨u, he, ho.mono AL.size, AL.trans (hb.mono AL.size)⟩

set_option maxHeartbeats 800000 in
theorem implColoursOf_any (n : Int) (s r : ByteArray) (c : Int) (w : World) (hs : s.size ≤ 9223372036854775807) (hr : r.size ≤ 9223372036854775807) :
    Calls Tryz.prog 6 #[.agg #[.int .i64 n, .string s, .string r], .int .i64 c] w fun e w' => ∃ v, e = .returned v ∧ OwnI 3 w' w.heap.size v (colsR n s r c) ∧ Below w.heap.size w w' := by
  have BX : Hid (Box 24 (w.alloc (.cells #[.int .i64 n, .string s, .string r] 24)) w.heap.size n s r) := Box.new _ w _ rfl n s r
  have AW : Hid (Below w.heap.size w (w.alloc (.cells #[.int .i64 n, .string s, .string r] 24))) := (Below.refl _ _).alloc (Nat.le_refl _) _
  go_enter Tryz.func6, Tryz.ntmps6
  go_wp2_with fail
  refine (isStructure_any n s r _ hs hr).mono ?_
  rintro e w1 ⟨rfl, hw⟩
  have AW1 : Hid (Below w.heap.size w w1) := AW.out.trans (hw.mono (by simp))
  obtain ⟨c0, c1, c2⟩ := (BX.out.below hw (by simp)).c
  clear hw BX AW
  cases hv : validB n s r with
  | false =>
    have HE : Hid (colsR n s r c = []) := colsR_no (by rw [hv]; simp)
    clear hv
    go_wp2
    go_ret
    exact ⟨_, rfl, by rw [HE.out]; exact OwnI.nil _ _ _, AW1.out⟩
  | true =>
    by_cases h1 : c < 0
    · have HE : Hid (colsR n s r c = []) := colsR_no (by rw [show basic.inB c 0 8 = false from decide_eq_false (by omega)]; simp)
      clear hv
      go_wp2
      go_ret
      exact ⟨_, rfl, by rw [HE.out]; exact OwnI.nil _ _ _, AW1.out⟩
    by_cases h2 : 8 < c
    · have HE : Hid (colsR n s r c = []) := colsR_no (by rw [show basic.inB c 0 8 = false from decide_eq_false (by omega)]; simp)
      clear hv
      go_wp2
      go_ret
      exact ⟨_, rfl, by rw [HE.out]; exact OwnI.nil _ _ _, AW1.out⟩
    obtain ⟨N, rfl, hN1, hN8, hsN, hrN⟩ := valid_size hv
    obtain ⟨C, rfl, hC⟩ : ∃ C : Nat, c = C ∧ C ≤ 8 := ⟨c.toNat, by omega, by omega⟩
    have HE : Hid (colsR N s r C = cols [⟨N, s, r⟩] C) := colsR_yes hv hC
    have HH : Hid (Fit ⟨N, s, r⟩) := ⟨hN1, hN8, hsN, hrN⟩
    have t1 : ((C : Int) > 8) = False := by simp; omega
    clear hv hsN hrN h1 h2
    go_wp2_with fail
    refine (after_one _ _ N C s r rfl HH.out (by omega)).mono ?_
    rintro e w2 ⟨v, rfl, ho, hb⟩
    have R : Hid (OwnI 3 w2 w.heap.size v (colsR N s r C) ∧ Below w.heap.size w w2) := ⟨by rw [HE.out]; exact ho.mono AW1.out.size, AW1.out.trans (hb.mono AW1.out.size)⟩
    clear ho hb c0 c1 c2 t1
    go_wp2
    go_ret
    exact ⟨_, rfl, R.out⟩

set_option maxHeartbeats 1600000 in
set_option maxRecDepth 100000 in
theorem implColourCounts_any (n : Int) (s r : ByteArray) (c : Int) (w : World) (hs : s.size ≤ 9223372036854775807) (hr : r.size ≤ 9223372036854775807) :
    Calls Tryz.prog 13 #[.agg #[.int .i64 n, .string s, .string r], .int .i64 c] w fun e w' => ∃ v, e = .returned v ∧ OwnI 3 w' w.heap.size v (countsR n s r c) ∧ Below w.heap.size w w' := by
  have BX : Hid (Box 24 (w.alloc (.cells #[.int .i64 n, .string s, .string r] 24)) w.heap.size n s r) := Box.new _ w _ rfl n s r
  have AW : Hid (Below w.heap.size w (w.alloc (.cells #[.int .i64 n, .string s, .string r] 24))) := (Below.refl _ _).alloc (Nat.le_refl _) _
  obtain ⟨i0, hi, hz0, hz1, hz2⟩ := info_parts sll.infoInt
  go_enter Tryz.func13, Tryz.ntmps13
  go_wp2_with fail
  refine (implColoursOf_any n s r c _ hs hr).mono ?_
  rintro e wx ⟨v, rfl, ho, hw⟩
  have hlen := colsR_len n s r c
  have hmost := colsR_most n s r c
  obtain ⟨m, hm⟩ : ∃ m : Nat, most (colsR n s r c) = (m : Int) := ⟨(most (colsR n s r c)).toNat, by omega⟩
  have HBD : Hid (∀ x, x ∈ colsR n s r c → 0 ≤ x ∧ x < (m : Int)) := fun x hx => by have := colsR_bd hx; omega
  have HM := Lib.hid hm
  have hm8 : m ≤ 8 := by omega
  have hcr : countsR n s r c = counts (colsR n s r c) m := by unfold countsR; rw [hm]; rfl
  obtain ⟨L, hL⟩ : ∃ L, L = colsR n s r c := ⟨_, rfl⟩
  have R1 : Hid (OwnI 3 wx w.heap.size v L ∧ Below w.heap.size w wx) := ⟨by rw [hL]; exact ho.mono AW.out.size, AW.out.trans (hw.mono AW.out.size)⟩
  rw [← hL] at hlen HBD HM hcr
  have HCR := Lib.hid hcr
  clear ho hw hm BX AW hmost hcr hL
  obtain ⟨ao, cap, hv⟩ := R1.out.1.reads.len
  obtain ⟨nn, hn⟩ : ∃ q, q = L.length := ⟨_, rfl⟩
  rw [← hn] at hv hlen
  have HN := Lib.hid hn
  subst hv
  clear hn
  by_cases h0 : nn = 0
  · have HE : Hid (countsR n s r c = []) := by
      have hl0 : L = [] := List.length_eq_zero_iff.1 (by rw [← HN.out]; exact h0)
      have hm0 : m = 0 := by have := HM.out; rw [hl0] at this; have h2 : most ([] : List Int) = 0 := rfl; omega
      rw [Hid, HCR.out, hm0]; rfl
    have t1 : ((nn : Int) == 0) = true := by simp [h0]
    clear h0
    go_wp2
    go_ret
    exact ⟨_, rfl, by rw [HE.out]; exact OwnI.nil _ _ _, R1.out.2⟩
  · have t1 : ((nn : Int) == 0) = false := by simp; omega
    have hne : L ≠ [] := fun e => h0 (by rw [HN.out, e]; rfl)
    have HNE := Lib.hid hne
    have hn1 : 1 ≤ nn := by omega
    clear h0 hne
    go_wp2_with fail
    refine (max_any _ L _ (OwnI.reads R1.out.1) HNE.out (by have := HN.out; omega) (fun x hx => (HBD.out x hx).1)).mono ?_
    rintro e wy ⟨rfl, rfl⟩
    rw [HM.out]
    have hm1 : 1 ≤ m := by
      obtain ⟨x, hx⟩ := List.exists_mem_of_ne_nil L HNE.out
      have := HBD.out x hx
      omega
    clear t1
    have HC0 : Hid (countsTo L m 0 = List.replicate m 0) := countsTo_zero L m
    go_wp2_with (at_make; refine wpList_make_full _ rfl _ _ 27 rfl wx.heap.size 3 i0 (.int .i64 0) 1 Tryz.underlying27 hi hz0 hz1 _ _ _ _ m rfl rfl (by omega) (by omega) ?b2 ?b3 (by simp) ?_)
    case b2 => rw [hz2]; omega
    case b3 => unfold maxLen; omega
    intro w1 hown0 hgrow0
    have HST : Hid (OwnI 3 w1 wx.heap.size (.slice (some ⟨wx.heap.size, 0, none⟩) m m) (countsTo L m 0) ∧ Below wx.heap.size wx w1) := by
      refine ⟨?_, below_of_grown hgrow0 (Nat.le_refl _) (fun k h => by cases h)⟩
      have h1 := OwnI.made hown0
      rw [HC0.out]
      simpa using h1
    obtain ⟨go, hgo⟩ : ∃ go, go = wx.heap.size := ⟨_, rfl⟩
    have HGO := Lib.hid hgo
    rw [← hgo] at HST ⊢
    clear hown0 hgrow0 hgo hz0 hz1 hz2 hi HC0
    go_wp2_with fail
    go_loopw [21] (fun i wr => ∃ k : Nat, k ≤ nn ∧ i = .int .i64 k ∧ OwnI 3 wr go (.slice (some ⟨go, 0, none⟩) m m) (countsTo L m k) ∧ Below go wx wr) (fun i _ => nn - (intOf i).toNat)
    case atStart => exact ⟨0, Nat.zero_le _, rfl, HST.out⟩
    case round =>
      clear HST
      obtain ⟨k, hk, rfl, hown, hbl⟩ := hrel
      have HO := Lib.hid (show _ ∧ _ from ⟨hown, hbl⟩)
      clear hown hbl
      by_cases hkn : k < nn
      · obtain ⟨b, off, rfl, hbw, hcell⟩ := int_spot (OwnI.reads R1.out.1) HN.out (by omega)
        have hkc : k < L.length := by have := HN.out; omega
        have hmem : L.getD k 0 ∈ L := by rw [List.getD_eq_getElem?_getD, List.getElem?_eq_getElem hkc]; exact List.getElem_mem hkc
        obtain ⟨y, hy⟩ : ∃ y : Nat, L.getD k 0 = (y : Int) := ⟨(L.getD k 0).toNat, by have := HBD.out _ hmem; omega⟩
        have hym : y < m := by have := HBD.out _ hmem; omega
        have hbd := countsTo_bd L m k y hym
        have hs := countsTo_succ hkc hy hym
        have hck0 := hcell k hkn
        rw [hy] at hck0
        have hck : wr.cell? ⟨b, off + k, none⟩ = some (.int .i64 y) := by rw [HO.out.2.cell (by rw [HGO.out]; exact hbw)]; exact hck0
        have hlen2 : (countsTo L m k).length = m := counts_len _ _
        have hcy := HO.out.1.cell y (by omega)
        have hfz := HO.out.1.free y
        obtain ⟨z, hz⟩ : ∃ z, z = (countsTo L m k).getD y 0 := ⟨_, rfl⟩
        rw [← hz] at hcy hs hbd
        obtain ⟨z1, z2⟩ := hbd
        have RR : Hid (∀ W : World, W.heap = wr.heap → Below go wx W → OwnI 3 (W.setCell ⟨go, y, none⟩ (.int .i64 (z + 1))) go (.slice (some ⟨go, 0, none⟩) m m) (countsTo L m (k + 1)) ∧ Below go wx (W.setCell ⟨go, y, none⟩ (.int .i64 (z + 1)))) := fun W hW hbW => by
          rw [hs]
          have hbb : OwnI 3 W go (.slice (some ⟨go, 0, none⟩) m m) (countsTo L m k) := by
            refine ⟨HO.out.1.1, ?_⟩
            rcases HO.out.1.2 with h | ⟨g9, c9, cu, h1, h2, h3, h4⟩
            · exact .inl h
            · exact .inr ⟨g9, c9, cu, h1, h2, by rw [hW]; exact h3, h4⟩
          exact ⟨hbb.set y (z + 1), hbW.setCell (Nat.le_refl _) _⟩
        have R := Lib.hid (RR.out wr rfl HO.out.2)
        clear hck0 hs hz hy hcell hkc hlen2 hmem RR
        go_wp2
        go_roundw
        case rel => exact ⟨k + 1, by omega, by go_num, R.out⟩
        case measure => simp [intOf]; omega
      · obtain rfl : nn = k := by omega
        have HF : Hid (countsTo L m nn = countsR n s r c) := by rw [Hid, HCR.out, HN.out]; exact countsTo_full L m
        have RF : Hid (OwnI 3 wr w.heap.size (.slice (some ⟨go, 0, none⟩) m m) (countsR n s r c) ∧ Below w.heap.size w wr) := by
          have e := HGO.out
          have h2 := R1.out.2.size
          rw [← HF.out]
          exact ⟨HO.out.1.mono (by omega), R1.out.2.trans (HO.out.2.mono (by omega))⟩
        go_wp2
        go_ret
        exact ⟨_, rfl, RF.out⟩
end Go.Proofs.YtefneihlgclkbaaGreatDoor.coli

/- StableColours, BothColours, ColourRound, SameColours of the program. -/
namespace Go.Proofs.YtefneihlgclkbaaGreatDoor.colj
set_option linter.unusedVariables false
set_option linter.unusedSimpArgs false
open Go.ChangeShapes Go.WideShapes Go.ChangeAt Go.RowKit
open Go.Proofs.YtefneihlgclkbaaGreatDoor.lib Go.Proofs.YtefneihlgclkbaaGreatDoor.st Go.Proofs.YtefneihlgclkbaaGreatDoor.base Go.Proofs.YtefneihlgclkbaaGreatDoor.col Go.Proofs.YtefneihlgclkbaaGreatDoor.colp Go.Proofs.YtefneihlgclkbaaGreatDoor.sll Go.Proofs.YtefneihlgclkbaaGreatDoor.both Go.Proofs.YtefneihlgclkbaaGreatDoor.cmp Go.Proofs.YtefneihlgclkbaaGreatDoor.less Go.Proofs.YtefneihlgclkbaaGreatDoor.specc Go.Proofs.YtefneihlgclkbaaGreatDoor.specd Go.Proofs.YtefneihlgclkbaaGreatDoor.colsa Go.Proofs.YtefneihlgclkbaaGreatDoor.coli Go.Proofs.YtefneihlgclkbaaGreatDoor.flow Go.Proofs.YtefneihlgclkbaaGreatDoor.chain Go.Proofs.YtefneihlgclkbaaGreatDoor.descr

/-- an append of a part that is not empty -/
theorem wpList_appG {P : Program} (w : World) {ops : Array Oper} {rest : List Oper} {o : Oper} {a : Act} {Q : Exit → Act → World → Prop} (hgd : o.guard = none)
    (s x : Operand) (t : TypeId) (hop : o.op = Op.call { callee := Callee.builtin Builtin.append, args := #[s, x], argTypes := #[t, t] })
    (base : Nat) (e : TypeId) (h1 : P.underlying t = some (.slice e)) (hinfo : (P.info? e).map (fun i => (i.zero, i.size, i.bytes)) = some (some (.int .i64 0), 1, 8))
    (v : Value) (l : List Int) (hs : a.eval s = v) (hown : OwnI e w base v l) (v2 : Value) (m : List Int) (hx : a.eval x = v2) (hr : Reads w v2 m) (hm : m ≠ [])
    (b1 : l.length + m.length ≤ 4398046511104) (b4 : base ≤ w.heap.size)
    (h : ∀ v' w', OwnI e w' base v' (l ++ m) → Grew w w' v v' → wpList P ops Q rest (a.put o.dst v') w') : wpList P ops Q (o :: rest) a w := by
  obtain ⟨ao, cap, rfl, hc, -⟩ := hr
  rcases hc with hc | ⟨b, off, rfl, hc⟩
  · exact absurd hc hm
  refine wpList_plain hgd fun K hK => ?_
  refine wp_appL w s x t hop base e (.int .i64 0) 8 h1 hinfo rfl (by decide) v l.length (ivs l) hs hown ⟨b, off, none⟩ m.length cap (ivs m) hx (by simp [ivs]) ?_ ?_ (List.length_pos_iff.2 hm) b1 b4 (fun g' cap' w' ho hg => hK _ _ (h _ w' ?_ hg))
  · intro j u hj
    have hjl : j < m.length := by
      have := (List.getElem?_eq_some_iff.1 hj).1; simpa [ivs] using this
    rw [ivs_get m j hjl] at hj
    cases hj
    have := hc j hjl
    rw [show (⟨b, off, none⟩ : Addr).add j = ⟨b, off + j, none⟩ from by simp [Addr.add]]
    exact this
  · intro u hu
    simp only [ivs, List.mem_map] at hu
    obtain ⟨z, -, rfl⟩ := hu; rfl
  · unfold OwnI; rw [List.length_append, ivs_append]; exact ho
theorem keptG {T2 : TypeId} {w w' : World} {B : Nat} {v v' v2 : Value} {l2 : List Int} (hg : Grew w w' v v') (h2 : OwnI T2 w B v2 l2) (ha : Apart v v2) : OwnI T2 w' B v2 l2 ∧ Apart v' v2 := hg.keep h2 ha
theorem apart_new {T : TypeId} {w : World} {B n c : Nat} {v : Value} {l : List Int} (h : OwnI T w B v l) (H : Nat) (hH : w.heap.size = H) : Apart v (.slice (some ⟨H, 0, none⟩) n c) := fun k h1 h2 => by
  have := (World.ownsRow.lt h k h1).2
  have : H = k := Option.some.inj h2
  omega
/-- the two parts of a list of the call's own -/
theorem parts {T : TypeId} {w : World} {B g N M cap : Nat} {l : List Int} (h : OwnI T w B (.slice (some ⟨g, 0, none⟩) (N + M) cap) l) :
    Reads w (.slice (some ⟨g, 0, none⟩) N cap) (l.take N) ∧ Reads w (.slice (some ⟨g, N, none⟩) M (cap - N)) (l.drop N) ∧ l.length = N + M ∧ N + M ≤ cap ∧ cap ≤ 9223372036854775807 ∧ g < w.heap.size := by
  have hn := h.len
  have hc := own_cap h
  have hlk : (l.take N).length = N := by simp; omega
  have hld : (l.drop N).length = M := by simp; omega
  refine ⟨⟨some ⟨g, 0, none⟩, cap, by rw [hlk], .inr ⟨g, 0, rfl, fun i hi => ?_⟩, fun h => by cases h⟩, ⟨some ⟨g, N, none⟩, cap - N, by rw [hld], .inr ⟨g, N, rfl, fun i hi => ?_⟩, fun h => by cases h⟩, hn.symm, hc.1, hc.2, h.ge.2⟩
  · have := h.cell i (by omega)
    rw [Nat.zero_add, this]
    simp [List.getD_eq_getElem?_getD, List.getElem?_take, show i < N by omega]
  · have := h.cell (N + i) (by omega)
    rw [this]
    simp [List.getD_eq_getElem?_getD, List.getElem?_drop]
theorem below_drewNx {w w' : World} (h : ∃ n, w' = w.drewN n) : Below w.heap.size w w' := by
  obtain ⟨n, rfl⟩ := h
  exact below_drewN (Below.refl _ _) n
def bothA (n : Int) (s r : ByteArray) (m : Int) (t q : ByteArray) (c : Int) : List Int := if validB n s r = true ∧ validB m t q = true ∧ basic.inB c 0 8 = true then colA ⟨n.toNat, s, r⟩ ⟨m.toNat, t, q⟩ c.toNat else []
def bothB (n : Int) (s r : ByteArray) (m : Int) (t q : ByteArray) (c : Int) : List Int := if validB n s r = true ∧ validB m t q = true ∧ basic.inB c 0 8 = true then colB ⟨n.toNat, s, r⟩ ⟨m.toNat, t, q⟩ c.toNat else []
theorem both_no {n : Int} {s r : ByteArray} {m : Int} {t q : ByteArray} {c : Int} (h : ¬ (validB n s r = true ∧ validB m t q = true ∧ basic.inB c 0 8 = true)) : bothA n s r m t q c = [] ∧ bothB n s r m t q c = [] := ⟨if_neg h, if_neg h⟩
theorem both_yes {N M C : Nat} {s r t q : ByteArray} (h : validB N s r = true) (h2 : validB M t q = true) (hc : C ≤ 8) : bothA N s r M t q C = colA ⟨N, s, r⟩ ⟨M, t, q⟩ C ∧ bothB N s r M t q C = colB ⟨N, s, r⟩ ⟨M, t, q⟩ C := by
  have hi : basic.inB (C : Int) 0 8 = true := basic.inB_true (by omega) (by omega)
  exact ⟨by unfold bothA; rw [if_pos ⟨h, h2, hi⟩]; rfl, by unfold bothB; rw [if_pos ⟨h, h2, hi⟩]; rfl⟩
theorem cmp_empty (T : TypeId) (w : World) (B H : Nat) (hH : w.heap.size = H) (hB : B ≤ H) : OwnI T (w.alloc (.cells #[] T)) B (.slice (some ⟨H, 0, none⟩) 0 0) [] := specd.emptyRow T w B H hH hB
/-- a slice that lies below -/
theorem reads_lowB {w w' : World} {C g off n cap : Nat} {l : List Int} (h : Reads w (.slice (some ⟨g, off, none⟩) n cap) l) (hb : Below C w w') (hg : g < C) : Reads w' (.slice (some ⟨g, off, none⟩) n cap) l := by
  obtain ⟨ao, cp, hv, h, hnn⟩ := h
  refine ⟨ao, cp, hv, ?_, hnn⟩
  rcases h with h | ⟨b, o, ha, hc⟩
  · exact .inl h
  · simp only [Value.slice.injEq] at hv
    have e : g = b := by have := hv.1.trans ha; simp only [Option.some.injEq, Addr.mk.injEq] at this; exact this.1
    refine .inr ⟨b, o, ha, fun i hi => ?_⟩
    rw [hb.cell (p := ⟨b, o + i, none⟩) (by show b < C; omega)]; exact hc i hi

end Go.Proofs.YtefneihlgclkbaaGreatDoor.colj

/- The colour functions of both sides, as the exact laws ask for them. -/
namespace Go.Proofs.YtefneihlgclkbaaGreatDoor.cole
set_option linter.unusedVariables false
set_option linter.unusedSimpArgs false
open Go.ChangeShapes Go.WideShapes Go.ChangeAt Go.RowKit
open Go.Proofs.YtefneihlgclkbaaGreatDoor.lib Go.Proofs.YtefneihlgclkbaaGreatDoor.st Go.Proofs.YtefneihlgclkbaaGreatDoor.base Go.Proofs.YtefneihlgclkbaaGreatDoor.col Go.Proofs.YtefneihlgclkbaaGreatDoor.colp Go.Proofs.YtefneihlgclkbaaGreatDoor.sll Go.Proofs.YtefneihlgclkbaaGreatDoor.both Go.Proofs.YtefneihlgclkbaaGreatDoor.specc Go.Proofs.YtefneihlgclkbaaGreatDoor.specd Go.Proofs.YtefneihlgclkbaaGreatDoor.coli Go.Proofs.YtefneihlgclkbaaGreatDoor.colj Go.Proofs.YtefneihlgclkbaaGreatDoor.flow

/-- a slice that reads as a list, in a block that is there -/
def RB (w : World) (v : Value) (l : List Int) : Prop := Reads w v l ∧ ∀ k, v.ownBlock = some k → k < w.heap.size
theorem RB.reads {w : World} {v : Value} {l : List Int} (h : RB w v l) : Reads w v l := h.1
theorem RB.below {w w' : World} {C : Nat} {v : Value} {l : List Int} (h : RB w v l) (hb : Below C w w') (hC : w.heap.size ≤ C) : RB w' v l := ⟨h.1.below hb hC, fun k hk => Nat.lt_of_lt_of_le (h.2 k hk) hb.size⟩
theorem RB.keepMark {w w' : World} {v v2 : Value} {l : List Int} (h : RB w v l) (hg : w.grownBy w' v2.ownBlock) (ha : Apart v v2) : RB w' v l :=
  ⟨sll.reads_kept h.1 hg fun k hk e => ha k e hk, fun k hk => Nat.lt_of_lt_of_le (h.2 k hk) hg.size⟩
theorem RB.apart {T : TypeId} {w w' : World} {v v2 : Value} {l l2 : List Int} (h : OwnI T w' w.heap.size v l) (h2 : RB w v2 l2) : Apart v v2 := fun k h1 h3 => by
  have := (World.ownsRow.lt h k h1).1
  have := h2.2 k h3
  omega
theorem RB.of_reads {w : World} {v : Value} {l : List Int} (h : Reads w v l) (hl : l ≠ []) : RB w v l := ⟨h, fun _ hk => sll.reads_block h hk hl⟩

theorem both_lens (n : Int) (s r : ByteArray) (m : Int) (t q : ByteArray) (c : Int) : (bothA n s r m t q c).length ≤ 8 ∧ (bothB n s r m t q c).length ≤ 8 := by
  by_cases h : validB n s r = true ∧ validB m t q = true ∧ basic.inB c 0 8 = true
  · obtain ⟨N, rfl, h1, h8, -, -⟩ := valid_size h.1
    obtain ⟨M, rfl, g1, g8, -, -⟩ := valid_size h.2.1
    unfold bothA bothB
    rw [if_pos h, if_pos h, colA_len, colB_len]
    simp only [Int.toNat_natCast]
    omega
  · rw [(both_no h).1, (both_no h).2]; simp
namespace cof
theorem len0 (n : Int) (s r : ByteArray) (c : Int) : s.size + r.size ≤ 1048576 → (colsR n s r c).length ≤ 4194304 := fun _ => by have := colsR_len n s r c; omega
end cof
namespace cnt
theorem len0 (n : Int) (s r : ByteArray) (c : Int) : s.size + r.size ≤ 1048576 → (countsR n s r c).length ≤ 4194304 := fun _ => by
  have := colsR_most n s r c
  unfold countsR counts
  rw [List.length_map, List.length_range]; omega
end cnt
namespace stb
theorem len0 (n : Int) (s r : ByteArray) : s.size + r.size ≤ 1048576 → (stableL n s r).length ≤ 4194304 := fun _ => by have := stable_len n s r; omega
end stb
namespace bth
theorem len0 (n : Int) (s r : ByteArray) (m : Int) (t q : ByteArray) (c : Int) : s.size + r.size + (t.size + q.size) ≤ 1048576 → (bothA n s r m t q c).length ≤ 4194304 := fun _ => by have := both_lens n s r m t q c; omega
theorem len1 (n : Int) (s r : ByteArray) (m : Int) (t q : ByteArray) (c : Int) : s.size + r.size + (t.size + q.size) ≤ 1048576 → (bothB n s r m t q c).length ≤ 4194304 := fun _ => by have := both_lens n s r m t q c; omega
end bth
namespace sam
end sam
namespace rnd
end rnd
end Go.Proofs.YtefneihlgclkbaaGreatDoor.cole
