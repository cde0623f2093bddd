/- FnLists: the walk over the contracts, and the plain law. -/
import Derived.Test.YtpjfpiohhgoeaaaDrawJ
import Derived.Test.YtpjfpiohhgoeaaaGs
import Derived.Test.YtpjfpiohhgoeaaaJoin
import Derived.Test.YtpjfpiohhgoeaaaRow
namespace Go.Proofs.Ytpjfpiohhgoeaaa.fnListsW
set_option linter.unusedVariables false
set_option linter.unusedSimpArgs false
open Go.ChangeShapes Go.WideShapes Go.ChangeAt Go.RowKit
open Go.Proofs.Ytpjfpiohhgoeaaa.lib Go.Proofs.Ytpjfpiohhgoeaaa.st Go.Proofs.Ytpjfpiohhgoeaaa.draw Go.Proofs.Ytpjfpiohhgoeaaa.gs Go.Proofs.Ytpjfpiohhgoeaaa.join

theorem wrap_in (x : Int) (h0 : -1000 ≤ x) (h1 : x ≤ 1000) : wrap64 x = x := by unfold wrap64; omega
/-- joined lists are split into both again -/
theorem split_join (N : Nat) (l1 l2 : List Int) (hN : N ≤ 8) (h1 : ∀ x ∈ l1, 0 ≤ x ∧ x < (N : Int)) (h2 : ∀ x ∈ l2, 0 ≤ x ∧ x < (N : Int)) : loL N (joinL N l1 l2) = l1 ∧ hiL N (joinL N l1 l2) = l2 := by
  have hw : l2.map (fun x => wrap64 (x + (N : Int))) = l2.map (fun x => x + (N : Int)) := List.map_congr_left fun x hx => by
    have := h2 x hx; exact wrap_in _ (by omega) (by omega)
  have f1 : l1.filter (fun x => decide (x < (N : Int))) = l1 := List.filter_eq_self.2 fun x hx => by have := h1 x hx; simpa using this.2
  have f2 : (l2.map (fun x => x + (N : Int))).filter (fun x => decide (x < (N : Int))) = [] := List.filter_eq_nil_iff.2 fun x hx => by
    obtain ⟨y, hy, rfl⟩ := List.mem_map.1 hx
    have := h2 y hy; simp; omega
  have f3 : l1.filter (fun x => !decide (x < (N : Int))) = [] := List.filter_eq_nil_iff.2 fun x hx => by have := h1 x hx; simp; omega
  have f4 : (l2.map (fun x => x + (N : Int))).filter (fun x => !decide (x < (N : Int))) = l2.map (fun x => x + (N : Int)) := List.filter_eq_self.2 fun x hx => by
    obtain ⟨y, hy, rfl⟩ := List.mem_map.1 hx
    have := h2 y hy; simp; omega
  unfold loL hiL joinL
  rw [hw, List.filter_append, List.filter_append, f1, f2, f3, f4]
  refine ⟨by simp, ?_⟩
  rw [List.nil_append, List.map_map]
  conv => rhs; rw [← List.map_id l2]
  refine List.map_congr_left fun x hx => ?_
  have := h2 x hx
  show wrap64 (x + (N : Int) - (N : Int)) = x
  rw [wrap_in _ (by omega) (by omega)]; omega
theorem split_len (N : Int) (l : List Int) : (loL N l).length + (hiL N l).length = l.length := by
  unfold loL hiL
  rw [List.length_map]
  induction l with
  | nil => rfl
  | cons a l ih =>
    simp only [List.filter_cons]
    by_cases h : a < N
    · simp [h]; omega
    · simp [h]; omega
theorem join_split_len (N : Int) (l : List Int) : (joinL N (loL N l) (hiL N l)).length = l.length := by rw [join_len, split_len]
theorem join_split_mem (N : Nat) (l : List Int) (hN : N ≤ 8) (h : ∀ x ∈ l, 0 ≤ x ∧ x < (8 : Int)) (x : Int) (hx : x ∈ l) : x ∈ joinL N (loL N l) (hiL N l) := by
  have hb := h x hx
  unfold joinL
  by_cases hlt : x < (N : Int)
  · exact List.mem_append.2 (.inl (List.mem_filter.2 ⟨hx, by simpa using hlt⟩))
  · refine List.mem_append.2 (.inr (List.mem_map.2 ⟨wrap64 (x - N), ?_, ?_⟩))
    · exact List.mem_map.2 ⟨x, List.mem_filter.2 ⟨hx, by simpa using hlt⟩, rfl⟩
    · show wrap64 (wrap64 (x - N) + N) = x
      rw [wrap_in (x - N) (by omega) (by omega), wrap_in _ (by omega) (by omega)]; omega

/-- bytes that came in may be drawn from -/
theorem byt_of_row {w : World} {a : Option Addr} {n c : Nat} {zs : List Int} (h : row.IsRow .u8 w a n c zs) : Byt w w.heap.size a n ∧ n ≤ c ∧ c ≤ 9223372036854775807 := by
  rcases h with ⟨rfl, rfl, rfl, rfl⟩ | ⟨x, rfl, hl, hm, hz, hcell, hwf⟩
  · exact ⟨.inl rfl, Nat.le_refl _, by omega⟩
  · refine ⟨?_, hl, hm⟩
    by_cases h0 : n = 0
    · exact .inl h0
    · obtain ⟨b, off, spot⟩ := x
      have hc := hcell 0 (by omega)
      have hspot : spot = none := by simpa [Addr.add] using World.cell?_spot hc
      subst hspot
      have hlt := World.block_lt_of_cell? w _ hc
      refine .inr ⟨b, off, rfl, by simpa [Addr.add] using hlt, fun i hi => ?_⟩
      have hci := hcell i (by omega)
      have hw := hwf (zs.getD i 0) (by rw [List.getD_eq_getElem?_getD, List.getElem?_eq_getElem (by omega)]; exact List.getElem_mem _)
      have hb : 0 ≤ zs.getD i 0 ∧ zs.getD i 0 ≤ 255 := by
        generalize zs.getD i 0 = z at hw ⊢
        simp only [Lit.wf, IntKind.min, IntKind.max, IntKind.signed, IntKind.bits, Bool.and_eq_true, decide_eq_true_eq] at hw
        simp at hw
        omega
      refine ⟨(zs.getD i 0).toNat, by omega, ?_⟩
      rw [show (⟨b, off, none⟩ : Addr).add i = ⟨b, off + i, none⟩ from by simp only [Addr.add]; split <;> simp [*]] at hci
      rw [hci, show (((zs.getD i 0).toNat : Nat) : Int) = zs.getD i 0 from by omega]

set_option maxHeartbeats 3200000 in
theorem walk (a0 : Option Addr) (n0 c0 : Nat) (l0 : List Int) (a1 : Option Addr) (n1 c1 : Nat) (l1 : List Int) (w : World) (h0 : row.IsRow .u8 w a0 n0 c0 l0) (h1 : row.IsRow .u8 w a1 n1 c1 l1) :
    Calls Try.prog 6 #[.slice a0 n0 c0, .slice a1 n1 c1] w fun e w' => e = .returned (.bool true) ∧ Below w.heap.size w w' := by
  obtain ⟨by0, nc0, cm0⟩ := byt_of_row h0
  obtain ⟨by1, nc1, cm1⟩ := byt_of_row h1
  have BY0 := Lib.hid by0
  have BY1 := Lib.hid by1
  clear by0 by1 h0 h1
  by_cases hg0 : 1048576 < n0
  · go_enter Try.func6, Try.ntmps6
    go_wp2
    go_ret
    exact ⟨rfl, Below.refl _ _⟩
  by_cases hg1 : 1048576 < n1
  · go_enter Try.func6, Try.ntmps6
    go_wp2
    go_ret
    exact ⟨rfl, Below.refl _ _⟩
  go_enter Try.func6, Try.ntmps6
  have AW_0 : Hid (Below w.heap.size w w) := Below.refl _ _
  go_wp2_with fail
  refine (drawSplit_any a0 n0 c0 _ BY0.out nc0 cm0).mono ?_
  rintro e w_1 ⟨N, s, r, v, l, rfl, hN1, hN2, hl5, hx8, ho, hb⟩
  have hbn := hb
  have AW_1 : Hid (Below w.heap.size w w_1) := AW_0.out.trans (hbn.mono AW_0.out.size)
  clear hbn AW_0 
  have FL_1 := Lib.hid (ho)
  have HX := Lib.hid hx8
  clear ho hx8 hb
  obtain ⟨ao, cl, hv⟩ := FL_1.out.reads.len
  obtain ⟨nl, hnl⟩ : ∃ q, q = l.length := ⟨_, rfl⟩
  rw [← hnl] at hv hl5
  subst hv
  have HNL := Lib.hid hnl
  clear hnl
  have FA_1 : Hid (Box 29 (w_1.alloc (.cells #[.int .i64 N, .string s, .string r] 29)) w_1.heap.size N s r) := Box.new _ _ _ rfl _ _ _
  obtain ⟨a0, a1, a2⟩ := Box.c FA_1.out
  go_wp2_with fail
  clear a0 a1 a2
  refine (impl_split_any N s r _ l _ (OwnI.reads (FL_1.out.below ((Below.refl _ w_1).alloc (Nat.le_refl _) _) (Nat.le_refl _))) (by have := HNL.out; omega)).mono ?_
  rintro e w_2 ⟨va, vb, rfl, ⟨ho1, ho2, hap⟩, hb⟩
  have hbn : Below w_1.heap.size w_1 w_2 := ((Below.refl _ w_1).alloc (Nat.le_refl _) _).trans (hb.mono (by simp))
  have FL_2 := Lib.hid (FL_1.out.below hbn (Nat.le_refl _))
  have FA_2 := Lib.hid (FA_1.out.below hb (by simp))
  have AW_2 : Hid (Below w.heap.size w w_2) := AW_1.out.trans (hbn.mono AW_1.out.size)
  clear hbn AW_1 FL_1 FA_1
  have Fva_2 := Lib.hid (ho1)
  have Fvb_2 := Lib.hid (ho2)
  clear ho1 ho2 hap hb
  obtain ⟨a0, a1, a2⟩ := Box.c FA_2.out
  go_wp2_with fail
  clear a0 a1 a2
  refine (spec_split_any N s r _ l _ (OwnI.reads FL_2.out) (by have := HNL.out; omega)).mono ?_
  rintro e w_3 ⟨wa, wb, rfl, ⟨ho1, ho2, hap⟩, hb⟩
  have hbn := hb
  have FL_3 := Lib.hid (FL_2.out.below hbn (Nat.le_refl _))
  have FA_3 := Lib.hid (FA_2.out.below hbn FA_2.out.lt)
  have Fva_3 := Lib.hid (Fva_2.out.below hbn (Nat.le_refl _))
  have Fvb_3 := Lib.hid (Fvb_2.out.below hbn (Nat.le_refl _))
  have AW_3 : Hid (Below w.heap.size w w_3) := AW_2.out.trans (hbn.mono AW_2.out.size)
  clear hbn AW_2 FL_2 FA_2 Fva_2 Fvb_2
  have Fwa_3 := Lib.hid (ho1)
  have Fwb_3 := Lib.hid (ho2)
  clear ho1 ho2 hap hb
  go_wp2_with fail
  refine (drawJoin_any a1 n1 c1 _ (BY1.out.up AW_3.out.size (fun k hk => AW_3.out.block k hk)) nc1 cm1).mono ?_
  rintro e w_4 ⟨M, t, q, x1, x2, m1, m2, rfl, hM1, hM2, hm1, hm2, hy1, hy2, ho1, ho2, hb⟩
  have hbn := hb
  have FL_4 := Lib.hid (FL_3.out.below hbn (Nat.le_refl _))
  have FA_4 := Lib.hid (FA_3.out.below hbn FA_3.out.lt)
  have Fva_4 := Lib.hid (Fva_3.out.below hbn (Nat.le_refl _))
  have Fvb_4 := Lib.hid (Fvb_3.out.below hbn (Nat.le_refl _))
  have Fwa_4 := Lib.hid (Fwa_3.out.below hbn (Nat.le_refl _))
  have Fwb_4 := Lib.hid (Fwb_3.out.below hbn (Nat.le_refl _))
  have AW_4 : Hid (Below w.heap.size w w_4) := AW_3.out.trans (hbn.mono AW_3.out.size)
  clear hbn AW_3 FL_3 FA_3 Fva_3 Fvb_3 Fwa_3 Fwb_3
  have Fx1_4 := Lib.hid (ho1)
  have Fx2_4 := Lib.hid (ho2)
  have HY := Lib.hid (show _ ∧ _ from ⟨hy1, hy2⟩)
  clear ho1 ho2 hb hy1 hy2
  have FC_4 : Hid (Box 29 (w_4.alloc (.cells #[.int .i64 M, .string t, .string q] 29)) w_4.heap.size M t q) := Box.new _ _ _ rfl _ _ _
  obtain ⟨c0, c1, c2⟩ := Box.c FC_4.out
  go_wp2_with fail
  clear c0 c1 c2
  refine (impl_any M t q _ _ m1 m2 _ (OwnI.reads (Fx1_4.out.below ((Below.refl _ w_4).alloc (Nat.le_refl _) _) (Nat.le_refl _))) (OwnI.reads (Fx2_4.out.below ((Below.refl _ w_4).alloc (Nat.le_refl _) _) (Nat.le_refl _))) (by omega)).mono ?_
  rintro e w_5 ⟨vj, rfl, ho, hb⟩
  have hbn : Below w_4.heap.size w_4 w_5 := ((Below.refl _ w_4).alloc (Nat.le_refl _) _).trans (hb.mono (by simp))
  have FL_5 := Lib.hid (FL_4.out.below hbn (Nat.le_refl _))
  have FA_5 := Lib.hid (FA_4.out.below hbn FA_4.out.lt)
  have Fva_5 := Lib.hid (Fva_4.out.below hbn (Nat.le_refl _))
  have Fvb_5 := Lib.hid (Fvb_4.out.below hbn (Nat.le_refl _))
  have Fwa_5 := Lib.hid (Fwa_4.out.below hbn (Nat.le_refl _))
  have Fwb_5 := Lib.hid (Fwb_4.out.below hbn (Nat.le_refl _))
  have Fx1_5 := Lib.hid (Fx1_4.out.below hbn (Nat.le_refl _))
  have Fx2_5 := Lib.hid (Fx2_4.out.below hbn (Nat.le_refl _))
  have FC_5 := Lib.hid (FC_4.out.below hb (by simp))
  have AW_5 : Hid (Below w.heap.size w w_5) := AW_4.out.trans (hbn.mono AW_4.out.size)
  clear hbn AW_4 FL_4 FA_4 Fva_4 Fvb_4 Fwa_4 Fwb_4 Fx1_4 Fx2_4 FC_4
  have Fvj_5 := Lib.hid (ho)
  clear ho hb
  have hls := split_len N l
  have HLS : Hid ((loL N l).length ≤ 5 ∧ (hiL N l).length ≤ 5) := by have := HNL.out; unfold Hid; omega
  have HJL : Hid ((joinL M m1 m2).length ≤ 10) := by unfold Hid; rw [join_len]; omega
  clear hls
  go_wp2_with fail
  refine (gsSame_same _ _ (loL N l) _ (OwnI.reads Fva_5.out) (OwnI.reads Fwa_5.out) (by have := HLS.out; omega)).mono ?_
  rintro e w_6 ⟨rfl, hb⟩
  have hbn := hb
  have FL_6 := Lib.hid (FL_5.out.below hbn (Nat.le_refl _))
  have FA_6 := Lib.hid (FA_5.out.below hbn FA_5.out.lt)
  have Fva_6 := Lib.hid (Fva_5.out.below hbn (Nat.le_refl _))
  have Fvb_6 := Lib.hid (Fvb_5.out.below hbn (Nat.le_refl _))
  have Fwa_6 := Lib.hid (Fwa_5.out.below hbn (Nat.le_refl _))
  have Fwb_6 := Lib.hid (Fwb_5.out.below hbn (Nat.le_refl _))
  have Fx1_6 := Lib.hid (Fx1_5.out.below hbn (Nat.le_refl _))
  have Fx2_6 := Lib.hid (Fx2_5.out.below hbn (Nat.le_refl _))
  have FC_6 := Lib.hid (FC_5.out.below hbn FC_5.out.lt)
  have Fvj_6 := Lib.hid (Fvj_5.out.below hbn (Nat.le_refl _))
  have AW_6 : Hid (Below w.heap.size w w_6) := AW_5.out.trans (hbn.mono AW_5.out.size)
  clear hbn AW_5 FL_5 FA_5 Fva_5 Fvb_5 Fwa_5 Fwb_5 Fx1_5 Fx2_5 FC_5 Fvj_5
  clear hb
  go_wp2_with fail
  refine (gsSame_same _ _ (hiL N l) _ (OwnI.reads Fvb_6.out) (OwnI.reads Fwb_6.out) (by have := HLS.out; omega)).mono ?_
  rintro e w_7 ⟨rfl, hb⟩
  have hbn := hb
  have FL_7 := Lib.hid (FL_6.out.below hbn (Nat.le_refl _))
  have FA_7 := Lib.hid (FA_6.out.below hbn FA_6.out.lt)
  have Fva_7 := Lib.hid (Fva_6.out.below hbn (Nat.le_refl _))
  have Fvb_7 := Lib.hid (Fvb_6.out.below hbn (Nat.le_refl _))
  have Fwa_7 := Lib.hid (Fwa_6.out.below hbn (Nat.le_refl _))
  have Fwb_7 := Lib.hid (Fwb_6.out.below hbn (Nat.le_refl _))
  have Fx1_7 := Lib.hid (Fx1_6.out.below hbn (Nat.le_refl _))
  have Fx2_7 := Lib.hid (Fx2_6.out.below hbn (Nat.le_refl _))
  have FC_7 := Lib.hid (FC_6.out.below hbn FC_6.out.lt)
  have Fvj_7 := Lib.hid (Fvj_6.out.below hbn (Nat.le_refl _))
  have AW_7 : Hid (Below w.heap.size w w_7) := AW_6.out.trans (hbn.mono AW_6.out.size)
  clear hbn AW_6 FL_6 FA_6 Fva_6 Fvb_6 Fwa_6 Fwb_6 Fx1_6 Fx2_6 FC_6 Fvj_6
  clear hb
  obtain ⟨c0, c1, c2⟩ := Box.c FC_7.out
  go_wp2_with fail
  clear c0 c1 c2
  refine (spec_any M t q _ _ m1 m2 _ (OwnI.reads Fx1_7.out) (OwnI.reads Fx2_7.out) (by omega)).mono ?_
  rintro e w_8 ⟨wj, rfl, ho, hb⟩
  have hbn := hb
  have FL_8 := Lib.hid (FL_7.out.below hbn (Nat.le_refl _))
  have FA_8 := Lib.hid (FA_7.out.below hbn FA_7.out.lt)
  have Fva_8 := Lib.hid (Fva_7.out.below hbn (Nat.le_refl _))
  have Fvb_8 := Lib.hid (Fvb_7.out.below hbn (Nat.le_refl _))
  have Fwa_8 := Lib.hid (Fwa_7.out.below hbn (Nat.le_refl _))
  have Fwb_8 := Lib.hid (Fwb_7.out.below hbn (Nat.le_refl _))
  have Fx1_8 := Lib.hid (Fx1_7.out.below hbn (Nat.le_refl _))
  have Fx2_8 := Lib.hid (Fx2_7.out.below hbn (Nat.le_refl _))
  have FC_8 := Lib.hid (FC_7.out.below hbn FC_7.out.lt)
  have Fvj_8 := Lib.hid (Fvj_7.out.below hbn (Nat.le_refl _))
  have AW_8 : Hid (Below w.heap.size w w_8) := AW_7.out.trans (hbn.mono AW_7.out.size)
  clear hbn AW_7 FL_7 FA_7 Fva_7 Fvb_7 Fwa_7 Fwb_7 Fx1_7 Fx2_7 FC_7 Fvj_7
  have Fwj_8 := Lib.hid (ho)
  clear ho hb
  go_wp2_with fail
  refine (gsSame_same _ _ (joinL M m1 m2) _ (OwnI.reads Fvj_8.out) (OwnI.reads Fwj_8.out) (by have := HJL.out; omega)).mono ?_
  rintro e w_9 ⟨rfl, hb⟩
  have hbn := hb
  have FL_9 := Lib.hid (FL_8.out.below hbn (Nat.le_refl _))
  have FA_9 := Lib.hid (FA_8.out.below hbn FA_8.out.lt)
  have Fva_9 := Lib.hid (Fva_8.out.below hbn (Nat.le_refl _))
  have Fvb_9 := Lib.hid (Fvb_8.out.below hbn (Nat.le_refl _))
  have Fwa_9 := Lib.hid (Fwa_8.out.below hbn (Nat.le_refl _))
  have Fwb_9 := Lib.hid (Fwb_8.out.below hbn (Nat.le_refl _))
  have Fx1_9 := Lib.hid (Fx1_8.out.below hbn (Nat.le_refl _))
  have Fx2_9 := Lib.hid (Fx2_8.out.below hbn (Nat.le_refl _))
  have FC_9 := Lib.hid (FC_8.out.below hbn FC_8.out.lt)
  have Fvj_9 := Lib.hid (Fvj_8.out.below hbn (Nat.le_refl _))
  have Fwj_9 := Lib.hid (Fwj_8.out.below hbn (Nat.le_refl _))
  have AW_9 : Hid (Below w.heap.size w w_9) := AW_8.out.trans (hbn.mono AW_8.out.size)
  clear hbn AW_8 FL_8 FA_8 Fva_8 Fvb_8 Fwa_8 Fwb_8 Fx1_8 Fx2_8 FC_8 Fvj_8 Fwj_8
  clear hb
  obtain ⟨c0, c1, c2⟩ := Box.c FC_9.out
  go_wp2_with fail
  clear c0 c1 c2
  refine (impl_split_any M t q _ (joinL M m1 m2) _ (OwnI.reads Fvj_9.out) (by have := HJL.out; omega)).mono ?_
  rintro e w_10 ⟨p1, p2, rfl, ⟨ho1, ho2, hap⟩, hb⟩
  have hbn := hb
  have FL_10 := Lib.hid (FL_9.out.below hbn (Nat.le_refl _))
  have FA_10 := Lib.hid (FA_9.out.below hbn FA_9.out.lt)
  have Fva_10 := Lib.hid (Fva_9.out.below hbn (Nat.le_refl _))
  have Fvb_10 := Lib.hid (Fvb_9.out.below hbn (Nat.le_refl _))
  have Fwa_10 := Lib.hid (Fwa_9.out.below hbn (Nat.le_refl _))
  have Fwb_10 := Lib.hid (Fwb_9.out.below hbn (Nat.le_refl _))
  have Fx1_10 := Lib.hid (Fx1_9.out.below hbn (Nat.le_refl _))
  have Fx2_10 := Lib.hid (Fx2_9.out.below hbn (Nat.le_refl _))
  have FC_10 := Lib.hid (FC_9.out.below hbn FC_9.out.lt)
  have Fvj_10 := Lib.hid (Fvj_9.out.below hbn (Nat.le_refl _))
  have Fwj_10 := Lib.hid (Fwj_9.out.below hbn (Nat.le_refl _))
  have AW_10 : Hid (Below w.heap.size w w_10) := AW_9.out.trans (hbn.mono AW_9.out.size)
  clear hbn AW_9 FL_9 FA_9 Fva_9 Fvb_9 Fwa_9 Fwb_9 Fx1_9 Fx2_9 FC_9 Fvj_9 Fwj_9
  obtain ⟨sj1, sj2⟩ := split_join M m1 m2 hM2 HY.out.1 HY.out.2
  rw [sj1] at ho1
  rw [sj2] at ho2
  have Fp1_10 := Lib.hid (ho1)
  have Fp2_10 := Lib.hid (ho2)
  clear ho1 ho2 hap hb sj1 sj2
  obtain ⟨a0, a1, a2⟩ := Box.c FA_10.out
  go_wp2_with fail
  clear a0 a1 a2
  refine (impl_any N s r _ _ (loL N l) (hiL N l) _ (OwnI.reads Fva_10.out) (OwnI.reads Fvb_10.out) (by have := HLS.out; omega)).mono ?_
  rintro e w_11 ⟨vg, rfl, ho, hb⟩
  have hbn := hb
  have FL_11 := Lib.hid (FL_10.out.below hbn (Nat.le_refl _))
  have FA_11 := Lib.hid (FA_10.out.below hbn FA_10.out.lt)
  have Fva_11 := Lib.hid (Fva_10.out.below hbn (Nat.le_refl _))
  have Fvb_11 := Lib.hid (Fvb_10.out.below hbn (Nat.le_refl _))
  have Fwa_11 := Lib.hid (Fwa_10.out.below hbn (Nat.le_refl _))
  have Fwb_11 := Lib.hid (Fwb_10.out.below hbn (Nat.le_refl _))
  have Fx1_11 := Lib.hid (Fx1_10.out.below hbn (Nat.le_refl _))
  have Fx2_11 := Lib.hid (Fx2_10.out.below hbn (Nat.le_refl _))
  have FC_11 := Lib.hid (FC_10.out.below hbn FC_10.out.lt)
  have Fvj_11 := Lib.hid (Fvj_10.out.below hbn (Nat.le_refl _))
  have Fwj_11 := Lib.hid (Fwj_10.out.below hbn (Nat.le_refl _))
  have Fp1_11 := Lib.hid (Fp1_10.out.below hbn (Nat.le_refl _))
  have Fp2_11 := Lib.hid (Fp2_10.out.below hbn (Nat.le_refl _))
  have AW_11 : Hid (Below w.heap.size w w_11) := AW_10.out.trans (hbn.mono AW_10.out.size)
  clear hbn AW_10 FL_10 FA_10 Fva_10 Fvb_10 Fwa_10 Fwb_10 Fx1_10 Fx2_10 FC_10 Fvj_10 Fwj_10 Fp1_10 Fp2_10
  have Fvg_11 := Lib.hid (ho)
  clear ho hb
  obtain ⟨ag, cg, hv⟩ := Fvg_11.out.reads.len
  have HGL : Hid ((joinL N (loL N l) (hiL N l)).length = nl) := by rw [Hid, join_split_len]; exact HNL.out.symm
  rw [HGL.out] at hv
  subst hv
  have HCL : Hid (l = [] ∨ ∃ b off, ao = some ⟨b, off, none⟩ ∧ ∀ i, i < l.length → w_11.cell? ⟨b, off + i, none⟩ = some (.int .i64 (l.getD i 0))) := by
    obtain ⟨ao', c', hv', hc', _⟩ := FL_11.out.reads
    simp only [Value.slice.injEq] at hv'
    rw [hv'.1]; exact hc'
  go_wp2_with fail
  go_loop [18] (fun i => ∃ k : Nat, k ≤ nl ∧ i = .int .i64 k) (fun i => nl - (intOf i).toNat)
  case atStart => exact ⟨0, Nat.zero_le _, rfl⟩
  case round =>
    obtain ⟨k, hk, rfl⟩ := hrel
    by_cases hkn : k < nl
    · have hl' : ∃ b off, ao = some ⟨b, off, none⟩ ∧ ∀ i, i < l.length → w_11.cell? ⟨b, off + i, none⟩ = some (.int .i64 (l.getD i 0)) := by
        rcases HCL.out with h | h
        · have := HNL.out; rw [h] at this; simp at this; omega
        · exact h
      obtain ⟨b, off, rfl, hc⟩ := hl'
      have ck := hc k (by have := HNL.out; omega)
      obtain ⟨y, hy⟩ : ∃ y, y = l.getD k 0 := ⟨_, rfl⟩
      have hm : decide (y ∈ joinL N (loL N l) (hiL N l)) = true := by
        refine decide_eq_true (join_split_mem N l hN2 HX.out y ?_)
        have hkl : k < l.length := by have := HNL.out; omega
        rw [hy, List.getD_eq_getElem?_getD, List.getElem?_eq_getElem hkl]
        exact List.getElem_mem hkl
      rw [← hy] at ck
      have HM := Lib.hid hm
      clear hc hm hy HCL
      go_wp2_with fail
      refine (gsHas_any _ (joinL N (loL N l) (hiL N l)) y _ (OwnI.reads Fvg_11.out) (by have := HGL.out; omega)).mono ?_
      rintro e WX ⟨rfl, rfl⟩
      rw [HM.out]
      go_wp2
      go_round
      case rel => exact ⟨k + 1, by omega, by go_num⟩
      case measure => simp [intOf]; omega
    · obtain rfl : nl = k := by omega
      go_wp2_with fail
      refine (gsSame_same _ _ m1 _ (OwnI.reads Fp1_11.out) (OwnI.reads Fx1_11.out) (by omega)).mono ?_
      rintro e w_12 ⟨rfl, hb⟩
      have hbn := hb
      have FL_12 := Lib.hid (FL_11.out.below hbn (Nat.le_refl _))
      have FA_12 := Lib.hid (FA_11.out.below hbn FA_11.out.lt)
      have Fva_12 := Lib.hid (Fva_11.out.below hbn (Nat.le_refl _))
      have Fvb_12 := Lib.hid (Fvb_11.out.below hbn (Nat.le_refl _))
      have Fwa_12 := Lib.hid (Fwa_11.out.below hbn (Nat.le_refl _))
      have Fwb_12 := Lib.hid (Fwb_11.out.below hbn (Nat.le_refl _))
      have Fx1_12 := Lib.hid (Fx1_11.out.below hbn (Nat.le_refl _))
      have Fx2_12 := Lib.hid (Fx2_11.out.below hbn (Nat.le_refl _))
      have FC_12 := Lib.hid (FC_11.out.below hbn FC_11.out.lt)
      have Fvj_12 := Lib.hid (Fvj_11.out.below hbn (Nat.le_refl _))
      have Fwj_12 := Lib.hid (Fwj_11.out.below hbn (Nat.le_refl _))
      have Fp1_12 := Lib.hid (Fp1_11.out.below hbn (Nat.le_refl _))
      have Fp2_12 := Lib.hid (Fp2_11.out.below hbn (Nat.le_refl _))
      have Fvg_12 := Lib.hid (Fvg_11.out.below hbn (Nat.le_refl _))
      have AW_12 : Hid (Below w.heap.size w w_12) := AW_11.out.trans (hbn.mono AW_11.out.size)
      clear hbn AW_11 FL_11 FA_11 Fva_11 Fvb_11 Fwa_11 Fwb_11 Fx1_11 Fx2_11 FC_11 Fvj_11 Fwj_11 Fp1_11 Fp2_11 Fvg_11
      clear hb
      go_wp2_with fail
      refine (gsSame_same _ _ m2 _ (OwnI.reads Fp2_12.out) (OwnI.reads Fx2_12.out) (by omega)).mono ?_
      rintro e w_13 ⟨rfl, hb⟩
      have hbn := hb
      have FL_13 := Lib.hid (FL_12.out.below hbn (Nat.le_refl _))
      have FA_13 := Lib.hid (FA_12.out.below hbn FA_12.out.lt)
      have Fva_13 := Lib.hid (Fva_12.out.below hbn (Nat.le_refl _))
      have Fvb_13 := Lib.hid (Fvb_12.out.below hbn (Nat.le_refl _))
      have Fwa_13 := Lib.hid (Fwa_12.out.below hbn (Nat.le_refl _))
      have Fwb_13 := Lib.hid (Fwb_12.out.below hbn (Nat.le_refl _))
      have Fx1_13 := Lib.hid (Fx1_12.out.below hbn (Nat.le_refl _))
      have Fx2_13 := Lib.hid (Fx2_12.out.below hbn (Nat.le_refl _))
      have FC_13 := Lib.hid (FC_12.out.below hbn FC_12.out.lt)
      have Fvj_13 := Lib.hid (Fvj_12.out.below hbn (Nat.le_refl _))
      have Fwj_13 := Lib.hid (Fwj_12.out.below hbn (Nat.le_refl _))
      have Fp1_13 := Lib.hid (Fp1_12.out.below hbn (Nat.le_refl _))
      have Fp2_13 := Lib.hid (Fp2_12.out.below hbn (Nat.le_refl _))
      have Fvg_13 := Lib.hid (Fvg_12.out.below hbn (Nat.le_refl _))
      have AW_13 : Hid (Below w.heap.size w w_13) := AW_12.out.trans (hbn.mono AW_12.out.size)
      clear hbn AW_12 FL_12 FA_12 Fva_12 Fvb_12 Fwa_12 Fwb_12 Fx1_12 Fx2_12 FC_12 Fvj_12 Fwj_12 Fp1_12 Fp2_12 Fvg_12
      clear hb
      go_wp2
      go_ret
      exact ⟨rfl, AW_13.out⟩
end Go.Proofs.Ytpjfpiohhgoeaaa.fnListsW
