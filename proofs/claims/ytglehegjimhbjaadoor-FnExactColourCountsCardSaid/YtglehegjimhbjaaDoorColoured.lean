/- colouredOf of the program: the colours by descriptions. -/
import Derived.Test.YtglehegjimhbjaaDoorCompF
import Derived.Test.YtglehegjimhbjaaDoorSpecC
namespace Go.Proofs.YtglehegjimhbjaaDoor.coloured
set_option linter.unusedVariables false
set_option linter.unusedSimpArgs false
open Go.ChangeShapes Go.WideShapes Go.ChangeAt Go.RowKit
open Go.Proofs.YtglehegjimhbjaaDoor.lib Go.Proofs.YtglehegjimhbjaaDoor.st Go.Proofs.YtglehegjimhbjaaDoor.base Go.Proofs.YtglehegjimhbjaaDoor.col Go.Proofs.YtglehegjimhbjaaDoor.colp Go.Proofs.YtglehegjimhbjaaDoor.sll Go.Proofs.YtglehegjimhbjaaDoor.less Go.Proofs.YtglehegjimhbjaaDoor.cmp

theorem emptyRow (T : TypeId) (w : World) (B H : Nat) (hH : w.heap.size = H) (hB : B ≤ H) : OwnI T (w.alloc (.cells #[] T)) B (.slice (some ⟨H, 0, none⟩) 0 0) [] := by
  subst hH
  exact World.ownsRow_made w #[] 0 hB (by decide) rfl
theorem nums_num {L C : List (List Int)} (h : ∀ x, x ∈ C ↔ x ∈ L) {i : Nat} (hi : i < L.length) : (nums L).take (i + 1) = (nums L).take i ++ [((num C (L.getD i []) : Nat) : Int)] := by
  rw [List.take_succ_eq_append_getElem (by rw [nums_len]; exact hi)]
  congr 2
  have := nums_get (L := L) hi
  rw [List.getD_eq_getElem?_getD, List.getElem?_eq_getElem (by rw [nums_len]; exact hi)] at this
  rw [num_congr h, List.getD_eq_getElem?_getD, List.getElem?_eq_getElem hi]
  exact this

set_option maxHeartbeats 3200000 in
set_option maxRecDepth 100000 in
theorem colouredOf_any (w : World) (B0 g0 n c0 : Nat) (L : List (List Int)) (h : OwnL w B0 (.slice (some ⟨g0, 0, none⟩) n c0) L) (h1 : 1 ≤ n) (hn1 : n ≤ 100) (hs : ∀ l, l ∈ L → l.length ≤ 1000) :
    Calls Tryd.prog 42 #[.slice (some ⟨g0, 0, none⟩) n c0] w fun e w' => ∃ u, e = .returned u ∧ OwnI 3 w' w.heap.size u (nums L) ∧ Below w.heap.size w w' := by
  obtain ⟨hn, -, -, -, hg0⟩ := ownL_form h
  obtain ⟨us, hul, hown0, hr⟩ := OwnL.row h
  have hun : us.length = n := by omega
  have HO := Lib.hid (show _ ∧ _ ∧ _ ∧ _ from ⟨h, hn, hs, hr⟩)
  have HU := Lib.hid hun
  have OW := Lib.hid (show w.ownsRow B0 25 1 (.slice (some ⟨g0, 0, none⟩) n c0) n us by rw [← hun]; exact (by rw [hun] at hown0 ⊢; exact hown0))
  obtain ⟨i0, hi, hz0, hz1, hz2⟩ := info_parts sll.infoSl
  obtain ⟨H, hH⟩ : ∃ H, H = w.heap.size := ⟨_, rfl⟩
  have HH := Lib.hid hH
  have ROW0 : Hid ((w.alloc (.cells #[] 25)).ownsRow H 25 1 (.slice (some ⟨w.heap.size, 0, none⟩) 0 0) 0 []) := by rw [hH]; exact World.ownsRow_made w #[] 0 (Nat.le_refl _) (Nat.zero_le _) rfl
  have A0 : Hid (Below w.heap.size w (w.alloc (.cells #[] 25))) := (Below.refl _ _).alloc (Nat.le_refl _) _
  have NEW : Hid ((∀ j u, us[j]? = some u → (w.alloc (.cells #[] 25)).cell? ((⟨g0, 0, none⟩ : Addr).add j) = some u) ∧ ∀ u ∈ us, u.oneCell' = true) := by
    refine ⟨fun j u hj => ?_, fun u hu => ?_⟩
    · have hc := OW.out.cells (g := g0) rfl j u hj
      have hb : ((⟨g0, 0, none⟩ : Addr).add j).block = g0 := by simp only [Addr.add]; split <;> rfl
      exact (A0.out.cell (by rw [hb]; exact hg0)).trans hc
    · obtain ⟨i, hi, rfl⟩ := List.getElem_of_mem hu
      have := (HO.out.2.2.2 i (by have := HO.out.2.1; have := HU.out; omega)).2.1
      rw [List.getD_eq_getElem?_getD, List.getElem?_eq_getElem hi] at this
      exact sl_one this
  clear h hn hs hr hul hown0 hH hun
  go_enter Tryd.func42, Tryd.ntmps42
  go_wp2_with (at_builtin; refine wpList_append_own (w.alloc (.cells #[] 25)) rfl (.tmp 9) (.tmp 10) 51 rfl H 25 i0 (.slice none 0 0) 1 24 Tryd.underlying51 hi hz0 hz1 hz2 rfl (by decide) _ 0 [] rfl ROW0.out ⟨g0, 0, none⟩ n c0 us rfl (by have := HU.out; omega) NEW.out.1 NEW.out.2 (by unfold maxLen; omega) (by omega) (by rw [HH.out]; simp) ?_)
  intro v1 w1 hown1 hgr1 _
  have hb1 : Below H w w1 := by
    have h1 := A0.out
    rw [HH.out]
    exact ⟨hgr1.os.trans h1.os, hgr1.tape.trans h1.tape, hgr1.output.trans h1.output, Nat.le_trans h1.size hgr1.size, fun k hk => (hgr1.block k (Nat.lt_of_lt_of_le hk h1.size) (fun e => by have : k = w.heap.size := Option.some.inj e; omega)).trans (h1.block k hk)⟩
  have ROW1 : OwnL w1 H v1 L := by
    refine ⟨us, by have := HO.out.2.1; have := HU.out; omega, ?_, fun i hi => ?_⟩
    · rw [show us.length = n from HU.out]
      exact hown1
    · obtain ⟨x1, x2, -⟩ := HO.out.2.2.2 i hi
      refine ⟨x1, x2.below hb1 (by rw [HH.out]; exact Nat.le_refl _), fun k hk hk2 => ?_⟩
      have := reads_block x2 hk2 x1
      have := (hown1.lt k hk).1
      have := HH.out
      omega
  obtain ⟨g, cap, hv1, hg1⟩ : ∃ g cap, v1 = .slice (some ⟨g, 0, none⟩) n cap ∧ H ≤ g := by
    rcases ROW1.len with ⟨-, h0⟩ | ⟨g, cap, hv, hg, -⟩
    · have := HO.out.2.1; rw [h0] at this; simp at this; omega
    · exact ⟨g, cap, by rw [hv, ← HO.out.2.1], hg⟩
  subst hv1
  have R1 := Lib.hid (show _ ∧ _ from ⟨ROW1, hb1⟩)
  clear ROW1 hb1 hown1 hgr1 hi hz0 hz1 hz2 A0 NEW ROW0 hg1
  go_wp2_with fail
  refine (sortF_any _ H g n cap L R1.out.1 HO.out.2.1.symm h1 (by omega) HO.out.2.2.1).mono ?_
  rintro e w2 ⟨rfl, M, hMp, hMs, hMo, hb2⟩
  have hMl : M.length = n := by rw [hMp.length_eq]; exact HO.out.2.1.symm
  have R2 := Lib.hid (show _ ∧ _ ∧ _ ∧ _ ∧ _ from ⟨hMo, hMs, (fun l hl => HO.out.2.2.1 l (hMp.mem_iff.1 hl) : ∀ l, l ∈ M → l.length ≤ 1000), (fun x => hMp.mem_iff : ∀ x, x ∈ M ↔ x ∈ L), R1.out.2.trans hb2⟩)
  clear hMp hMs hMo hb2 hMl R1
  go_wp2_with fail
  refine (compact_any _ H g n cap M R2.out.1 h1 (by omega) R2.out.2.2.1 R2.out.2.1).mono ?_
  rintro e w3 ⟨k, rfl, C, hCl, hk1, hkn, hCs, hCm, hCo, hb3⟩
  have R3 := Lib.hid (show _ ∧ _ ∧ _ ∧ _ ∧ _ ∧ _ from ⟨hCo, hCs, hCl, (fun l hl => R2.out.2.2.1 l ((hCm l).1 hl) : ∀ l, l ∈ C → l.length ≤ 1000), (fun x => (hCm x).trans (R2.out.2.2.2.1 x) : ∀ x, x ∈ C ↔ x ∈ L), R2.out.2.2.2.2.trans hb3⟩)
  clear hCl hCs hCm hCo hb3 R2
  obtain ⟨HB, hHB⟩ : ∃ HB, HB = w3.heap.size := ⟨_, rfl⟩
  have HHB := Lib.hid hHB
  have START : Hid (OwnI 3 (w3.alloc (.cells #[] 3)) HB (.slice (some ⟨HB, 0, none⟩) 0 0) ((nums L).take 0) ∧ Below HB w3 (w3.alloc (.cells #[] 3))) := by
    rw [hHB]; exact ⟨emptyRow _ _ _ _ rfl (Nat.le_refl _), (Below.refl _ _).alloc (Nat.le_refl _) _⟩
  have hHle : H ≤ HB := by have := R3.out.2.2.2.2.2.size; have := HH.out; omega
  clear hHB
  go_wp2_with fail
  rw [← HHB.out]
  go_loopw [4, 19] (fun u i wr => ∃ j : Nat, j ≤ n ∧ i = .int .i64 j ∧ OwnI 3 wr HB u ((nums L).take j) ∧ Below HB w3 wr) (fun _ i _ => n - (intOf i).toNat)
  case atStart => exact ⟨0, Nat.zero_le _, rfl, START.out⟩
  case round =>
    clear START
    obtain ⟨j, hj, rfl, q1, q2⟩ := hrel
    have HQ := Lib.hid (show _ ∧ _ from ⟨q1, q2⟩)
    clear q1 q2
    by_cases hjn : j < n
    · have AW : Hid (Below H w wr) := R3.out.2.2.2.2.2.trans (HQ.out.2.mono hHle)
      have OC : Hid (OwnL wr H (.slice (some ⟨g, 0, none⟩) k cap) C) := R3.out.1.below HQ.out.2 (by rw [HHB.out]; exact Nat.le_refl _)
      obtain ⟨xa, xc, lx, hx1, hx2, hx3, hx4, hx5, -⟩ := ownL_at HO.out.1 (i := j) (by have := HO.out.2.1; omega)
      have hcx : wr.cell? ⟨g0, j, none⟩ = some (.slice xa lx.length xc) := by rw [AW.out.cell (p := ⟨g0, j, none⟩) (by rw [HH.out]; exact hg0)]; exact hx2
      have RX : Hid (Reads wr (.slice xa lx.length xc) lx) := hx3.below AW.out (by rw [HH.out]; exact Nat.le_refl _)
      have hxg : (Value.slice xa lx.length xc).ownBlock ≠ some g := fun e => by
        have a1 := reads_block hx3 e hx4
        have a2 := (ownL_form R3.out.1).2.2.2.1
        have := HH.out; omega
      have hxl : lx.length ≤ 1000 := HO.out.2.2.1 _ (by rw [← hx1, List.getD_eq_getElem?_getD, List.getElem?_eq_getElem (by have := HO.out.2.1; omega)]; exact List.getElem_mem _)
      have HN : Hid ((nums L).take (j + 1) = (nums L).take j ++ [((num C lx : Nat) : Int)]) := by rw [Hid, ← hx1]; exact nums_num R3.out.2.2.2.2.1 (by have := HO.out.2.1; omega)
      have HX1 := Lib.hid hxg
      have HX2 := Lib.hid hxl
      obtain ⟨OL, hOL⟩ : ∃ OL, OL = (nums L).take j := ⟨_, rfl⟩
      have HL : Hid (OL.length ≤ 100) := by rw [Hid, hOL, List.length_take]; omega
      rw [← hOL] at HN HQ
      clear hOL
      obtain ⟨nx, hnx⟩ : ∃ nx, nx = lx.length := ⟨_, rfl⟩
      rw [← hnx] at hcx RX HX1
      clear hx1 hx2 hx3 hx4 hx5 hxg hxl hnx
      go_wp2_with fail
      with_reducible refine (search_any _ H g k cap C _ lx OC.out R3.out.2.2.1 hk1 (by omega) R3.out.2.2.2.1 R3.out.2.1 RX.out HX1.out HX2.out).mono ?_
      rintro e w4 ⟨b4, rfl, hb4⟩
      have Q4 : Hid (OwnI 3 w4 HB u4 OL ∧ Below HB w3 w4) := ⟨HQ.out.1.below hb4 (Nat.le_refl _), HQ.out.2.trans (hb4.mono (by have := HQ.out.2.size; have := HHB.out; omega))⟩
      have hsz : HB ≤ w4.heap.size := by have := Q4.out.2.size; have := HHB.out; omega
      clear hb4 hcx
      go_wp2_with (at_builtin; refine wpList_app1 w4 rfl (.tmp 29) (.tmp 31) 25 rfl HB 3 (.int .i64 0) 8 Tryd.underlying25 sll.infoInt rfl (by decide) _ _ _ (.int .i64 (num C lx : Nat)) rfl Q4.out.1 w4.heap.size rfl rfl rfl (by have := HL.out; omega) hsz ?_)
      intro g' cap' w9 hown9 hgr
      have R : Hid (OwnI 3 w9 HB (.slice (some ⟨g', 0, none⟩) (OL.length + 1) cap') ((nums L).take (j + 1)) ∧ Below HB w3 w9) := by
        refine ⟨?_, Q4.out.2.trans (hgr.below Q4.out.1 hsz)⟩
        rw [HN.out]; unfold OwnI; rw [List.length_append, ivs_append]; exact hown9
      clear hown9 hgr hsz
      go_wp2
      go_roundw
      case rel => exact ⟨j + 1, by omega, by go_num, R.out⟩
      case measure => simp [intOf]; omega
    · obtain rfl : n = j := by omega
      have HF : Hid ((nums L).take n = nums L) := List.take_of_length_le (by rw [nums_len]; have := HO.out.2.1; omega)
      have R : Hid (OwnI 3 wr w.heap.size u4 (nums L) ∧ Below w.heap.size w wr) := by
        have e := HH.out
        refine ⟨by rw [← HF.out]; exact HQ.out.1.mono (by omega), ?_⟩
        rw [← e]
        exact R3.out.2.2.2.2.2.trans (HQ.out.2.mono hHle)
      go_wp2
      go_ret
      exact ⟨_, rfl, R.out⟩
end Go.Proofs.YtglehegjimhbjaaDoor.coloured
