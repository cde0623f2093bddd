/- ColoursOf and ColourCounts of the program. -/
import Derived.Test.YtglehegjimhbjaaDoorColsA
import Derived.Test.YtglehegjimhbjaaDoorSpecD
namespace Go.Proofs.YtglehegjimhbjaaDoor.coli
set_option linter.unusedVariables false
set_option linter.unusedSimpArgs false
open Go.ChangeShapes Go.WideShapes Go.ChangeAt Go.RowKit
open Go.Proofs.YtglehegjimhbjaaDoor.lib Go.Proofs.YtglehegjimhbjaaDoor.st Go.Proofs.YtglehegjimhbjaaDoor.base Go.Proofs.YtglehegjimhbjaaDoor.col Go.Proofs.YtglehegjimhbjaaDoor.colp Go.Proofs.YtglehegjimhbjaaDoor.sll Go.Proofs.YtglehegjimhbjaaDoor.both Go.Proofs.YtglehegjimhbjaaDoor.cmp Go.Proofs.YtglehegjimhbjaaDoor.less Go.Proofs.YtglehegjimhbjaaDoor.specc Go.Proofs.YtglehegjimhbjaaDoor.specd Go.Proofs.YtglehegjimhbjaaDoor.colsa Go.Proofs.YtglehegjimhbjaaDoor.flow Go.Proofs.YtglehegjimhbjaaDoor.descr

theorem strs_one {w : World} {H N : Nat} {s r : ByteArray} (h : Box 28 w H N s r) (hf : Fit ⟨N, s, r⟩) : Strs w H [⟨N, s, r⟩] := by
  obtain ⟨h0, h1, h2⟩ := h.c
  refine ⟨h.lt, fun i a hi => ?_, fun a ha => ?_⟩
  · match i, hi with
    | 0, hi => simp only [List.getElem?_cons_zero, Option.some.injEq] at hi; subst hi; exact ⟨h0, h1, h2⟩
    | i + 1, hi => simp at hi
  · rw [List.mem_singleton.1 ha]; exact hf
theorem strs_two {w : World} {H N M : Nat} {s r t q : ByteArray} (hH : w.heap.size = H) (hf : Fit ⟨N, s, r⟩) (hf2 : Fit ⟨M, t, q⟩) : Strs (w.alloc (.cells #[.int .i64 N, .string s, .string r, .int .i64 M, .string t, .string q] 28)) H [⟨N, s, r⟩, ⟨M, t, q⟩] := by
  subst hH
  have hc : ∀ j u, (#[Value.int .i64 N, .string s, .string r, .int .i64 M, .string t, .string q] : Array Value)[j]? = some u → (w.alloc (.cells #[.int .i64 N, .string s, .string r, .int .i64 M, .string t, .string q] 28)).cell? ⟨w.heap.size, j, none⟩ = some u := fun j u hj => by
    rw [cell_of_row _ _ j _ _ (0, 0) (heap_alloc_new w _)]; exact hj
  refine ⟨by simp, fun i a hi => ?_, fun a ha => ?_⟩
  · match i, hi with
    | 0, hi => simp only [List.getElem?_cons_zero, Option.some.injEq] at hi; subst hi; exact ⟨hc 0 _ rfl, hc 1 _ rfl, hc 2 _ rfl⟩
    | 1, hi => simp only [List.getElem?_cons_succ, List.getElem?_cons_zero, Option.some.injEq] at hi; subst hi; exact ⟨hc 3 _ rfl, hc 4 _ rfl, hc 5 _ rfl⟩
    | i + 2, hi => simp at hi
  · rcases List.mem_cons.1 ha with rfl | ha
    · exact hf
    · rw [List.mem_singleton.1 ha]; exact hf2
/-- coloursAfter of one structure, of two -/
theorem after_one (w : World) (H N R : Nat) (s r : ByteArray) (hH : w.heap.size = H) (hf : Fit ⟨N, s, r⟩) (hR : R ≤ 100) :
    Calls Tryd.prog 30 #[.slice (some ⟨H, 0, none⟩) 1 1, .int .i64 R] (w.alloc (.cells #[.int .i64 N, .string s, .string r] 28)) fun e w' => ∃ u, e = .returned u ∧ OwnI 3 w' w.heap.size u (cols [⟨N, s, r⟩] R) ∧ Below w.heap.size w w' := by
  have AL : Below w.heap.size w (w.alloc (.cells #[.int .i64 N, .string s, .string r] 28)) := (Below.refl _ _).alloc (Nat.le_refl _) _
  refine (after_any _ H 1 R [⟨N, s, r⟩] (strs_one (Box.new _ _ _ hH _ _ _) hf) rfl (Nat.le_refl _) (by omega) hR).mono ?_
  rintro e w' ⟨u, he, ho, hb⟩
  exact ⟨u, he, ho.mono AL.size, AL.trans (hb.mono AL.size)⟩
theorem after_two (w : World) (H N M R : Nat) (s r t q : ByteArray) (hH : w.heap.size = H) (hf : Fit ⟨N, s, r⟩) (hf2 : Fit ⟨M, t, q⟩) (hR : R ≤ 100) :
    Calls Tryd.prog 30 #[.slice (some ⟨H, 0, none⟩) 2 2, .int .i64 R] (w.alloc (.cells #[.int .i64 N, .string s, .string r, .int .i64 M, .string t, .string q] 28)) fun e w' => ∃ u, e = .returned u ∧ OwnI 3 w' w.heap.size u (cols [⟨N, s, r⟩, ⟨M, t, q⟩] R) ∧ Below w.heap.size w w' := by
  have AL : Below w.heap.size w (w.alloc (.cells #[.int .i64 N, .string s, .string r, .int .i64 M, .string t, .string q] 28)) := (Below.refl _ _).alloc (Nat.le_refl _) _
  refine (after_any _ H 2 R [⟨N, s, r⟩, ⟨M, t, q⟩] (strs_two hH hf hf2) rfl (by omega) (Nat.le_refl _) hR).mono ?_
  rintro e w' ⟨u, he, ho, hb⟩
  exact ⟨u, he, ho.mono AL.size, AL.trans (hb.mono AL.size)⟩

set_option maxHeartbeats 800000 in
theorem implColoursOf_any (n : Int) (s r : ByteArray) (c : Int) (w : World) (hs : s.size ≤ 9223372036854775807) (hr : r.size ≤ 9223372036854775807) :
    Calls Tryd.prog 17 #[.agg #[.int .i64 n, .string s, .string r], .int .i64 c] w fun e w' => ∃ v, e = .returned v ∧ OwnI 3 w' w.heap.size v (colsR n s r c) ∧ Below w.heap.size w w' := by
  have BX : Hid (Box 28 (w.alloc (.cells #[.int .i64 n, .string s, .string r] 28)) w.heap.size n s r) := Box.new _ w _ rfl n s r
  have AW : Hid (Below w.heap.size w (w.alloc (.cells #[.int .i64 n, .string s, .string r] 28))) := (Below.refl _ _).alloc (Nat.le_refl _) _
  go_enter Tryd.func17, Tryd.ntmps17
  go_wp2_with fail
  refine (isStructure_any n s r _ hs hr).mono ?_
  rintro e w1 ⟨rfl, hw⟩
  have AW1 : Hid (Below w.heap.size w w1) := AW.out.trans (hw.mono (by simp))
  obtain ⟨c0, c1, c2⟩ := (BX.out.below hw (by simp)).c
  clear hw BX AW
  cases hv : validB n s r with
  | false =>
    have HE : Hid (colsR n s r c = []) := colsR_no (by rw [hv]; simp)
    clear hv
    go_wp2
    go_ret
    exact ⟨_, rfl, by rw [HE.out]; exact OwnI.nil _ _ _, AW1.out⟩
  | true =>
    by_cases h1 : c < 0
    · have HE : Hid (colsR n s r c = []) := colsR_no (by rw [show basic.inB c 0 8 = false from decide_eq_false (by omega)]; simp)
      clear hv
      go_wp2
      go_ret
      exact ⟨_, rfl, by rw [HE.out]; exact OwnI.nil _ _ _, AW1.out⟩
    by_cases h2 : 8 < c
    · have HE : Hid (colsR n s r c = []) := colsR_no (by rw [show basic.inB c 0 8 = false from decide_eq_false (by omega)]; simp)
      clear hv
      go_wp2
      go_ret
      exact ⟨_, rfl, by rw [HE.out]; exact OwnI.nil _ _ _, AW1.out⟩
    obtain ⟨N, rfl, hN1, hN8, hsN, hrN⟩ := valid_size hv
    obtain ⟨C, rfl, hC⟩ : ∃ C : Nat, c = C ∧ C ≤ 8 := ⟨c.toNat, by omega, by omega⟩
    have HE : Hid (colsR N s r C = cols [⟨N, s, r⟩] C) := colsR_yes hv hC
    have HH : Hid (Fit ⟨N, s, r⟩) := ⟨hN1, hN8, hsN, hrN⟩
    have t1 : ((C : Int) > 8) = False := by simp; omega
    clear hv hsN hrN h1 h2
    go_wp2_with fail
    refine (after_one _ _ N C s r rfl HH.out (by omega)).mono ?_
    rintro e w2 ⟨v, rfl, ho, hb⟩
    have R : Hid (OwnI 3 w2 w.heap.size v (colsR N s r C) ∧ Below w.heap.size w w2) := ⟨by rw [HE.out]; exact ho.mono AW1.out.size, AW1.out.trans (hb.mono AW1.out.size)⟩
    clear ho hb c0 c1 c2 t1
    go_wp2
    go_ret
    exact ⟨_, rfl, R.out⟩

set_option maxHeartbeats 1600000 in
set_option maxRecDepth 100000 in
theorem implColourCounts_any (n : Int) (s r : ByteArray) (c : Int) (w : World) (hs : s.size ≤ 9223372036854775807) (hr : r.size ≤ 9223372036854775807) :
    Calls Tryd.prog 25 #[.agg #[.int .i64 n, .string s, .string r], .int .i64 c] w fun e w' => ∃ v, e = .returned v ∧ OwnI 3 w' w.heap.size v (countsR n s r c) ∧ Below w.heap.size w w' := by
  have BX : Hid (Box 28 (w.alloc (.cells #[.int .i64 n, .string s, .string r] 28)) w.heap.size n s r) := Box.new _ w _ rfl n s r
  have AW : Hid (Below w.heap.size w (w.alloc (.cells #[.int .i64 n, .string s, .string r] 28))) := (Below.refl _ _).alloc (Nat.le_refl _) _
  obtain ⟨i0, hi, hz0, hz1, hz2⟩ := info_parts sll.infoInt
  go_enter Tryd.func25, Tryd.ntmps25
  go_wp2_with fail
  refine (implColoursOf_any n s r c _ hs hr).mono ?_
  rintro e wx ⟨v, rfl, ho, hw⟩
  have hlen := colsR_len n s r c
  have hmost := colsR_most n s r c
  obtain ⟨m, hm⟩ : ∃ m : Nat, most (colsR n s r c) = (m : Int) := ⟨(most (colsR n s r c)).toNat, by omega⟩
  have HBD : Hid (∀ x, x ∈ colsR n s r c → 0 ≤ x ∧ x < (m : Int)) := fun x hx => by have := colsR_bd hx; omega
  have HM := Lib.hid hm
  have hm8 : m ≤ 8 := by omega
  have hcr : countsR n s r c = counts (colsR n s r c) m := by unfold countsR; rw [hm]; rfl
  obtain ⟨L, hL⟩ : ∃ L, L = colsR n s r c := ⟨_, rfl⟩
  have R1 : Hid (OwnI 3 wx w.heap.size v L ∧ Below w.heap.size w wx) := ⟨by rw [hL]; exact ho.mono AW.out.size, AW.out.trans (hw.mono AW.out.size)⟩
  rw [← hL] at hlen HBD HM hcr
  have HCR := Lib.hid hcr
  clear ho hw hm BX AW hmost hcr hL
  obtain ⟨ao, cap, hv⟩ := R1.out.1.reads.len
  obtain ⟨nn, hn⟩ : ∃ q, q = L.length := ⟨_, rfl⟩
  rw [← hn] at hv hlen
  have HN := Lib.hid hn
  subst hv
  clear hn
  by_cases h0 : nn = 0
  · have HE : Hid (countsR n s r c = []) := by
      have hl0 : L = [] := List.length_eq_zero_iff.1 (by rw [← HN.out]; exact h0)
      have hm0 : m = 0 := by have := HM.out; rw [hl0] at this; have h2 : most ([] : List Int) = 0 := rfl; omega
      rw [Hid, HCR.out, hm0]; rfl
    have t1 : ((nn : Int) == 0) = true := by simp [h0]
    clear h0
    go_wp2
    go_ret
    exact ⟨_, rfl, by rw [HE.out]; exact OwnI.nil _ _ _, R1.out.2⟩
  · have t1 : ((nn : Int) == 0) = false := by simp; omega
    have hne : L ≠ [] := fun e => h0 (by rw [HN.out, e]; rfl)
    have HNE := Lib.hid hne
    have hn1 : 1 ≤ nn := by omega
    clear h0 hne
    go_wp2_with fail
    refine (max_any _ L _ (OwnI.reads R1.out.1) HNE.out (by have := HN.out; omega) (fun x hx => (HBD.out x hx).1)).mono ?_
    rintro e wy ⟨rfl, rfl⟩
    rw [HM.out]
    have hm1 : 1 ≤ m := by
      obtain ⟨x, hx⟩ := List.exists_mem_of_ne_nil L HNE.out
      have := HBD.out x hx
      omega
    clear t1
    have HC0 : Hid (countsTo L m 0 = List.replicate m 0) := countsTo_zero L m
    go_wp2_with (at_make; refine wpList_make_full _ rfl _ _ 25 rfl wx.heap.size 3 i0 (.int .i64 0) 1 Tryd.underlying25 hi hz0 hz1 _ _ _ _ m rfl rfl (by omega) (by omega) ?b2 ?b3 (by simp) ?_)
    case b2 => rw [hz2]; omega
    case b3 => unfold maxLen; omega
    intro w1 hown0 hgrow0
    have HST : Hid (OwnI 3 w1 wx.heap.size (.slice (some ⟨wx.heap.size, 0, none⟩) m m) (countsTo L m 0) ∧ Below wx.heap.size wx w1) := by
      refine ⟨?_, below_of_grown hgrow0 (Nat.le_refl _) (fun k h => by cases h)⟩
      have h1 := OwnI.made hown0
      rw [HC0.out]
      simpa using h1
    obtain ⟨go, hgo⟩ : ∃ go, go = wx.heap.size := ⟨_, rfl⟩
    have HGO := Lib.hid hgo
    rw [← hgo] at HST ⊢
    clear hown0 hgrow0 hgo hz0 hz1 hz2 hi HC0
    go_wp2_with fail
    go_loopw [21] (fun i wr => ∃ k : Nat, k ≤ nn ∧ i = .int .i64 k ∧ OwnI 3 wr go (.slice (some ⟨go, 0, none⟩) m m) (countsTo L m k) ∧ Below go wx wr) (fun i _ => nn - (intOf i).toNat)
    case atStart => exact ⟨0, Nat.zero_le _, rfl, HST.out⟩
    case round =>
      clear HST
      obtain ⟨k, hk, rfl, hown, hbl⟩ := hrel
      have HO := Lib.hid (show _ ∧ _ from ⟨hown, hbl⟩)
      clear hown hbl
      by_cases hkn : k < nn
      · obtain ⟨b, off, rfl, hbw, hcell⟩ := int_spot (OwnI.reads R1.out.1) HN.out (by omega)
        have hkc : k < L.length := by have := HN.out; omega
        have hmem : L.getD k 0 ∈ L := by rw [List.getD_eq_getElem?_getD, List.getElem?_eq_getElem hkc]; exact List.getElem_mem hkc
        obtain ⟨y, hy⟩ : ∃ y : Nat, L.getD k 0 = (y : Int) := ⟨(L.getD k 0).toNat, by have := HBD.out _ hmem; omega⟩
        have hym : y < m := by have := HBD.out _ hmem; omega
        have hbd := countsTo_bd L m k y hym
        have hs := countsTo_succ hkc hy hym
        have hck0 := hcell k hkn
        rw [hy] at hck0
        have hck : wr.cell? ⟨b, off + k, none⟩ = some (.int .i64 y) := by rw [HO.out.2.cell (by rw [HGO.out]; exact hbw)]; exact hck0
        have hlen2 : (countsTo L m k).length = m := counts_len _ _
        have hcy := HO.out.1.cell y (by omega)
        have hfz := HO.out.1.free y
        obtain ⟨z, hz⟩ : ∃ z, z = (countsTo L m k).getD y 0 := ⟨_, rfl⟩
        rw [← hz] at hcy hs hbd
        obtain ⟨z1, z2⟩ := hbd
        have RR : Hid (∀ W : World, W.heap = wr.heap → Below go wx W → OwnI 3 (W.setCell ⟨go, y, none⟩ (.int .i64 (z + 1))) go (.slice (some ⟨go, 0, none⟩) m m) (countsTo L m (k + 1)) ∧ Below go wx (W.setCell ⟨go, y, none⟩ (.int .i64 (z + 1)))) := fun W hW hbW => by
          rw [hs]
          have hbb : OwnI 3 W go (.slice (some ⟨go, 0, none⟩) m m) (countsTo L m k) := by
            refine ⟨HO.out.1.1, ?_⟩
            rcases HO.out.1.2 with h | ⟨g9, c9, cu, h1, h2, h3, h4⟩
            · exact .inl h
            · exact .inr ⟨g9, c9, cu, h1, h2, by rw [hW]; exact h3, h4⟩
          exact ⟨hbb.set y (z + 1), hbW.setCell (Nat.le_refl _) _⟩
        have R := Lib.hid (RR.out wr rfl HO.out.2)
        clear hck0 hs hz hy hcell hkc hlen2 hmem RR
        go_wp2
        go_roundw
        case rel => exact ⟨k + 1, by omega, by go_num, R.out⟩
        case measure => simp [intOf]; omega
      · obtain rfl : nn = k := by omega
        have HF : Hid (countsTo L m nn = countsR n s r c) := by rw [Hid, HCR.out, HN.out]; exact countsTo_full L m
        have RF : Hid (OwnI 3 wr w.heap.size (.slice (some ⟨go, 0, none⟩) m m) (countsR n s r c) ∧ Below w.heap.size w wr) := by
          have e := HGO.out
          have h2 := R1.out.2.size
          rw [← HF.out]
          exact ⟨HO.out.1.mono (by omega), R1.out.2.trans (HO.out.2.mono (by omega))⟩
        go_wp2
        go_ret
        exact ⟨_, rfl, RF.out⟩
end Go.Proofs.YtglehegjimhbjaaDoor.coli
