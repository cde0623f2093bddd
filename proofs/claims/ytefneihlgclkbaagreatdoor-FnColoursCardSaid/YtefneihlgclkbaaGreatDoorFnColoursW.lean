/- FnColours: the walk. -/
import Derived.Test.YtefneihlgclkbaaGreatDoorDrawH
import Derived.Test.YtefneihlgclkbaaGreatDoorMove
import Derived.Test.YtefneihlgclkbaaGreatDoorOrbit
import Derived.Test.YtefneihlgclkbaaGreatDoorGs
import Derived.Test.YtefneihlgclkbaaGreatDoorRow
namespace Go.Proofs.YtefneihlgclkbaaGreatDoor.fnColoursW
set_option linter.unusedVariables false
set_option linter.unusedSimpArgs false
open Go.ChangeShapes Go.WideShapes Go.ChangeAt Go.RowKit
open Go.Proofs.YtefneihlgclkbaaGreatDoor.flow Go.Proofs.YtefneihlgclkbaaGreatDoor.lib Go.Proofs.YtefneihlgclkbaaGreatDoor.st Go.Proofs.YtefneihlgclkbaaGreatDoor.draw Go.Proofs.YtefneihlgclkbaaGreatDoor.base Go.Proofs.YtefneihlgclkbaaGreatDoor.chain Go.Proofs.YtefneihlgclkbaaGreatDoor.gs Go.Proofs.YtefneihlgclkbaaGreatDoor.col Go.Proofs.YtefneihlgclkbaaGreatDoor.colp Go.Proofs.YtefneihlgclkbaaGreatDoor.specd Go.Proofs.YtefneihlgclkbaaGreatDoor.coli Go.Proofs.YtefneihlgclkbaaGreatDoor.make Go.Proofs.YtefneihlgclkbaaGreatDoor.part Go.Proofs.YtefneihlgclkbaaGreatDoor.fits Go.Proofs.YtefneihlgclkbaaGreatDoor.move
/-- bytes that came in may be drawn from -/
theorem byt_of_row {w : World} {a : Option Addr} {n c : Nat} {zs : List Int} (h : row.IsRow .u8 w a n c zs) : Byt w w.heap.size a n ∧ n ≤ c ∧ c ≤ 9223372036854775807 := by
  rcases h with ⟨rfl, rfl, rfl, rfl⟩ | ⟨x, rfl, hl, hm, hz, hcell, hwf⟩
  · exact ⟨.inl rfl, Nat.le_refl _, by omega⟩
  · refine ⟨?_, hl, hm⟩
    by_cases h0 : n = 0
    · exact .inl h0
    · obtain ⟨b, off, spot⟩ := x
      have hc := hcell 0 (by omega)
      have hspot : spot = none := by simpa [Addr.add] using World.cell?_spot hc
      subst hspot
      have hlt := World.block_lt_of_cell? w _ hc
      refine .inr ⟨b, off, rfl, by simpa [Addr.add] using hlt, fun i hi => ?_⟩
      have hci := hcell i (by omega)
      have hw := hwf (zs.getD i 0) (by rw [List.getD_eq_getElem?_getD, List.getElem?_eq_getElem (by omega)]; exact List.getElem_mem _)
      have hb : 0 ≤ zs.getD i 0 ∧ zs.getD i 0 ≤ 255 := by
        generalize zs.getD i 0 = z at hw ⊢
        simp only [Lit.wf, IntKind.min, IntKind.max, IntKind.signed, IntKind.bits, Bool.and_eq_true, decide_eq_true_eq] at hw
        simp at hw
        omega
      refine ⟨(zs.getD i 0).toNat, by omega, ?_⟩
      rw [show (⟨b, off, none⟩ : Addr).add i = ⟨b, off + i, none⟩ from by simp only [Addr.add]; split <;> simp [*]] at hci
      rw [hci, show (((zs.getD i 0).toNat : Nat) : Int) = zs.getD i 0 from by omega]

theorem own_cap {T : TypeId} {w : World} {B n cap : Nat} {ao : Option Addr} {l : List Int} (h : OwnI T w B (.slice ao n cap) l) (h1 : 1 ≤ n) : n ≤ cap ∧ cap ≤ 9223372036854775807 := by
  rcases h.2 with ⟨h', _⟩ | ⟨g, c, cur, hv, _, _, h2, h3, _⟩
  · simp only [Value.slice.injEq] at h'; omega
  · simp only [Value.slice.injEq] at hv
    obtain ⟨-, e1, e2⟩ := hv
    rw [e1, e2]; exact ⟨h2, by unfold maxLen at h3; omega⟩
theorem own_at {T : TypeId} {w : World} {B n : Nat} {v : Value} {l : List Int} (h : OwnI T w B v l) (hl : l.length = n) (h1 : 1 ≤ n) : ∃ g c, v = .slice (some ⟨g, 0, none⟩) n c := by
  rcases h.shape with ⟨_, h2⟩ | ⟨g, cap, hv⟩
  · rw [h2] at hl; simp at hl; omega
  · exact ⟨g, cap, by rw [hv, hl]⟩
/-- numbers up to the greatest so far are there -/
def Inv (P : List Int) (mx : Int) : Prop := 0 ≤ mx ∧ mx ≤ 8 ∧ ∀ c : Int, 0 ≤ c → c ≤ mx → c ∈ P
theorem Inv.zero {N K M : Nat} {s r : ByteArray} {P Q C : List Int} (h : move.Fact N K M s r P Q C) : Inv P 0 :=
  ⟨by omega, by omega, fun c h0 hc => h.full 0 0 (by have := h.n1; omega) c h0 (by have := h.pos 0 (by have := h.n1; omega); omega)⟩
theorem Inv.step {N K M X : Nat} {s r : ByteArray} {P Q C : List Int} {mx px : Int} (h : move.Fact N K M s r P Q C) (hX : X < N) (hp : P.getD X 0 = px) (hi : Inv P mx) : Inv P (max mx px) := by
  obtain ⟨h1, h2, h3⟩ := hi
  have h4 := h.pos X hX
  rw [hp] at h4
  refine ⟨by omega, by omega, fun c h0 hc => ?_⟩
  by_cases e : c ≤ mx
  · exact h3 c h0 e
  · exact h.full X X hX c h0 (by rw [hp]; omega)

set_option maxHeartbeats 40000000 in
set_option maxRecDepth 100000 in
theorem walk (a0 : Option Addr) (n0 c0 : Nat) (l0 : List Int) (a1 : Option Addr) (n1 c1 : Nat) (l1 : List Int) (w : World) (h0 : row.IsRow .u8 w a0 n0 c0 l0) (h1 : row.IsRow .u8 w a1 n1 c1 l1) :
    Calls Tryz.prog 3 #[.slice a0 n0 c0, .slice a1 n1 c1] w fun e w' => e = .returned (.bool true) ∧ Below w.heap.size w w' := by
  obtain ⟨by0, nc0, cm0⟩ := byt_of_row h0
  have BY0 := Lib.hid by0
  clear by0 h0 h1
  by_cases hg0 : 1048576 < n0
  · go_enter Tryz.func3, Tryz.ntmps3
    go_wp2
    go_ret
    exact ⟨rfl, Below.refl _ _⟩
  by_cases hg1 : 1048576 < n1
  · go_enter Tryz.func3, Tryz.ntmps3
    go_wp2
    go_ret
    exact ⟨rfl, Below.refl _ _⟩
  go_enter Tryz.func3, Tryz.ntmps3
  have AW_0 : Hid (Below w.heap.size w w) := Below.refl _ _
  go_wp2_with fail
  refine (drawColours_any a0 n0 c0 _ BY0.out nc0 cm0).mono ?_
  rintro e w_1 ⟨n, s, r, x, rfl, hnw, hs, hr, hxw, hb⟩
  have hbn := hb
  have AW_1 : Hid (Below w.heap.size w w_1) := AW_0.out.trans (hbn.mono AW_0.out.size)
  clear hbn AW_0 
  have FA_1 : Hid (Box 24 (w_1.alloc (.cells #[.int .i64 n, .string s, .string r] 24)) (w_1.heap.size) n s r) := Box.new _ w_1 (w_1.heap.size) (by simp) _ _ _
  obtain ⟨a0, a1, a2⟩ := Box.c FA_1.out
  clear hb hnw hxw
  obtain ⟨P, hP⟩ : ∃ P, P = colsR n s r x := ⟨_, rfl⟩
  have HK := Lib.hid hP
  have HLEN : Hid (P.length ≤ 8) := by rw [hP]; exact colsR_len n s r x
  clear hP
  go_wp2_with fail
  clear a0 a1 a2
  refine (implColoursOf_any n s r x _ (by omega) (by omega)).mono ?_
  rintro e w_2 ⟨vp, rfl, ho, hb⟩
  have hbn : Below w_1.heap.size w_1 w_2 := ((Below.refl w_1.heap.size w_1).alloc (by simp) (.cells #[.int .i64 n, .string s, .string r] 24)).trans (hb.mono (show w_1.heap.size ≤ _ by simp))
  have FA_2 := Lib.hid (FA_1.out.below hb (by simp))
  have AW_2 : Hid (Below w.heap.size w w_2) := AW_1.out.trans (hbn.mono AW_1.out.size)
  clear hbn AW_1 FA_1
  rw [← HK.out] at ho
  have FP_2 := Lib.hid (ho)
  clear ho hb
  obtain ⟨a0, a1, a2⟩ := Box.c FA_2.out
  go_wp2_with fail
  clear a0 a1 a2
  refine (specColoursOf_any n s r x _ (by omega) (by omega)).mono ?_
  rintro e w_3 ⟨up, rfl, ho, hb⟩
  have hbn := hb
  have FA_3 := Lib.hid (FA_2.out.below hbn FA_2.out.lt)
  have FP_3 := Lib.hid (FP_2.out.below hbn (Nat.le_refl _))
  have AW_3 : Hid (Below w.heap.size w w_3) := AW_2.out.trans (hbn.mono AW_2.out.size)
  clear hbn AW_2 FA_2 FP_2
  rw [← HK.out] at ho
  have FU_3 := Lib.hid (ho)
  clear ho hb
  obtain ⟨a0, a1, a2⟩ := Box.c FA_3.out
  obtain ⟨ap, cp, hv⟩ := (OwnI.reads FP_3.out).len
  obtain ⟨np, hnp⟩ : ∃ QZ, QZ = P.length := ⟨_, rfl⟩
  rw [← hnp] at hv
  subst hv
  have HNP := Lib.hid hnp
  clear hnp
  go_wp2_with fail
  clear a0 a1 a2
  refine (gsSame_same _ _ P _ (OwnI.reads FP_3.out) (OwnI.reads FU_3.out) (by have := HLEN.out; omega)).mono ?_
  rintro e w_4 ⟨rfl, hb⟩
  have hbn := hb
  have FA_4 := Lib.hid (FA_3.out.below hbn FA_3.out.lt)
  have FP_4 := Lib.hid (FP_3.out.below hbn (Nat.le_refl _))
  have FU_4 := Lib.hid (FU_3.out.below hbn (Nat.le_refl _))
  have AW_4 : Hid (Below w.heap.size w w_4) := AW_3.out.trans (hbn.mono AW_3.out.size)
  clear hbn AW_3 FA_3 FP_3 FU_3
  clear hb
  by_cases h0 : np = 0
  · have t0 : ((np : Int) == 0) = true := by simp [h0]
    clear h0
    obtain ⟨a0, a1, a2⟩ := Box.c FA_4.out
    go_wp2_with fail
    clear a0 a1 a2
    refine (specColoursOf_any n s r x _ (by omega) (by omega)).mono ?_
    rintro e w_5 ⟨uq, rfl, ho, hb⟩
    have hbn := hb
    have FA_5 := Lib.hid (FA_4.out.below hbn FA_4.out.lt)
    have FP_5 := Lib.hid (FP_4.out.below hbn (Nat.le_refl _))
    have FU_5 := Lib.hid (FU_4.out.below hbn (Nat.le_refl _))
    have AW_5 : Hid (Below w.heap.size w w_5) := AW_4.out.trans (hbn.mono AW_4.out.size)
    clear hbn AW_4 FA_4 FP_4 FU_4
    rw [← HK.out] at ho
    have FZ_5 := Lib.hid (ho)
    clear ho hb
    go_wp2_with fail
    refine (gsSame_same _ _ P _ (OwnI.reads FP_5.out) (OwnI.reads FZ_5.out) (by have := HLEN.out; omega)).mono ?_
    rintro e w_6 ⟨rfl, hb⟩
    have hbn := hb
    have FA_6 := Lib.hid (FA_5.out.below hbn FA_5.out.lt)
    have FP_6 := Lib.hid (FP_5.out.below hbn (Nat.le_refl _))
    have FU_6 := Lib.hid (FU_5.out.below hbn (Nat.le_refl _))
    have FZ_6 := Lib.hid (FZ_5.out.below hbn (Nat.le_refl _))
    have AW_6 : Hid (Below w.heap.size w w_6) := AW_5.out.trans (hbn.mono AW_5.out.size)
    clear hbn AW_5 FA_5 FP_5 FU_5 FZ_5
    clear hb
    go_wp2
    go_ret
    exact ⟨rfl, AW_6.out⟩
  have t0 : ((np : Int) == 0) = false := by simp; omega
  obtain ⟨N, R, rfl, rfl, Q, C, hf⟩ := move.fact (n := n) (s := s) (r := r) (x := x) n1 (by rw [← HK.out]; intro e; have := HNP.out; rw [e] at this; exact h0 this)
  rw [← HK.out] at hf
  have HF := Lib.hid hf
  have hN1 := hf.n1
  have hN8 := hf.n8
  have hR := hf.k
  have hnN : np = N := by rw [HNP.out]; exact hf.pl
  clear hf h0 HK HNP FU_4
  subst hnN
  obtain ⟨gp, cpx, hv⟩ := own_at FP_4.out HF.out.pl hN1
  simp only [Value.slice.injEq] at hv
  obtain ⟨rfl, -, rfl⟩ := hv
  obtain ⟨nr, hnr⟩ : ∃ z : Int, z = min ((R : Int) + 1) 8 := ⟨_, rfl⟩
  have HNX : Hid (colsR np s r nr = Q) := by rw [Hid, hnr]; exact HF.out.nx
  have HNR := Lib.hid hnr
  clear hnr
  obtain ⟨a0, a1, a2⟩ := Box.c FA_4.out
  go_wp2_with fail
  clear a0 a1 a2
  refine (implColoursOf_any np s r (min ((R : Int) + 1) 8) _ (by omega) (by omega)).mono ?_
  rintro e w_5 ⟨vq, rfl, ho, hb⟩
  have hbn := hb
  have FA_5 := Lib.hid (FA_4.out.below hbn FA_4.out.lt)
  have FP_5 := Lib.hid (FP_4.out.below hbn (Nat.le_refl _))
  have AW_5 : Hid (Below w.heap.size w w_5) := AW_4.out.trans (hbn.mono AW_4.out.size)
  clear hbn AW_4 FA_4 FP_4
  rw [← HNR.out, HNX.out] at ho
  have FQ_5 := Lib.hid (ho)
  clear ho hb HNR HNX nr
  obtain ⟨gq, cq, hv⟩ := own_at FQ_5.out HF.out.ql hN1
  subst hv
  obtain ⟨H9, h9⟩ : ∃ H9, H9 = w_5.heap.size := ⟨_, rfl⟩
  have he : Hid (OwnI 3 (w_5.alloc (.cells #[] 3)) H9 (.slice (some ⟨H9, 0, none⟩) 0 0) (ints (turned np n1 0))) := by rw [h9]; exact World.ownsRow_made w_5 #[] 0 (Nat.le_refl _) (Nat.zero_le _) rfl
  have hb0 : Hid (Below H9 w_5 (w_5.alloc (.cells #[] 3))) := (Below.refl _ _).alloc (by omega) _
  have HH9 := Lib.hid h9
  have HA9 : Hid (w_1.heap.size < H9) := by rw [h9]; exact FA_5.out.lt
  obtain ⟨a0, a1, a2⟩ := Box.c FA_5.out
  obtain ⟨b0, b1, b2⟩ := Box.c (FA_5.out.below hb0.out HA9.out)
  have alt := FA_5.out.lt
  clear h9
  go_wp2_with fail
  try rw [← HH9.out]
  clear a0 a1 a2 b0 b1 b2 alt
  go_loopw [9, 10] (fun v i wr => ∃ I : Nat, ∃ u : Value, u = v ∧ I ≤ np ∧ i = .int .i64 I ∧ OwnI 3 wr H9 u (ints (turned np n1 I)) ∧ Below H9 w_5 wr) (fun _ i _ => np - (intOf i).toNat)
  case atStart => exact ⟨0, _, rfl, Nat.zero_le _, rfl, he.out, hb0.out⟩
  case round =>
    clear he hb0
    obtain ⟨I, u, rfl, hI, rfl, hown, hnx⟩ := hrel
    have HO := Lib.hid hown
    have HX := Lib.hid hnx
    have hsz : H9 ≤ wr.heap.size := by have := hnx.size; rw [← HH9.out] at this; exact this
    obtain ⟨a0, a1, a2⟩ := Box.c (FA_5.out.below HX.out HA9.out)
    clear hown hnx
    by_cases hIn : I < np
    · have tI : decide ((I : Int) < (np : Int)) = true := by simp; omega
      have HL : Hid ((ints (turned np n1 I)).length = I) := by rw [Hid, ints_len]; simp [turned]
      have HV : Hid (((I : Int) + (n1 : Int)).tmod (np : Int) = (((I + n1) % np : Nat) : Int)) := rfl
      have HV2 : Hid (((I : Int) + (n1 : Int)) % (np : Int) = (((I + n1) % np : Nat) : Int)) := by rw [Hid]; push_cast; rfl
      go_wp2_with (at_builtin; refine wpList_app1 wr rfl (.tmp 64) (.tmp 72) 27 rfl H9 3 (.int .i64 0) 8 Tryz.underlying27 sl.infoInt rfl (by decide) _ _ _ (.int .i64 (((I : Int) + (n1 : Int)) % (np : Int))) rfl HO.out wr.heap.size rfl rfl rfl (by have := HL.out; omega) hsz ?_)
      intro g' cap' w9 hown9 hgr
      have RR : Hid (OwnI 3 w9 H9 (.slice (some ⟨g', 0, none⟩) ((ints (turned np n1 I)).length + 1) cap') (ints (turned np n1 (I + 1))) ∧ Below H9 w_5 w9) := by
        refine ⟨?_, HX.out.trans (hgr.below HO.out hsz)⟩
        rw [turned_succ, ints_app]
        unfold OwnI
        rw [List.length_append, ivs_append]
        rw [HV2.out] at hown9
        exact hown9
      clear hown9 hgr a0 a1 a2
      go_wp2
      go_roundw
      case rel => first | exact ⟨I + 1, _, rfl, by omega, by go_num, RR.out.1, RR.out.2⟩ | ((repeat apply Exists.intro); exact ⟨⟨I + 1, _, rfl, by omega, by go_num, RR.out.1, RR.out.2⟩, rfl⟩)
      case measure => simp [intOf]; omega
    · obtain rfl : np = I := by omega
      clear hI hIn
      have AW_50 : Hid (Below w.heap.size w wr) := AW_5.out.trans (HX.out.mono (by have := AW_5.out.size; have := HH9.out; omega))
      have FA_50 := Lib.hid (FA_5.out.below HX.out HA9.out)
      have FP_50 := Lib.hid (FP_5.out.below HX.out (by have := HH9.out; omega))
      have FQ_50 := Lib.hid (FQ_5.out.below HX.out (by have := HH9.out; omega))
      have HTL := HF.out.tl
      obtain ⟨go, co, hv⟩ := own_at HO.out (by rw [ints_len]; exact HF.out.tl) hN1
      subst hv
      have HCO := Lib.hid (own_cap HO.out hN1)
      have FO_50 := HO
      obtain ⟨bs, hbs⟩ : ∃ z, z = bS (pS s (turned np n1 np)) np := ⟨_, rfl⟩
      obtain ⟨br, hbr⟩ : ∃ z, z = bR (pR np r (turned np n1 np)) np np := ⟨_, rfl⟩
      have CM : Hid (∀ W, Reads W (.slice (some ⟨go, 0, none⟩) np co) (ints (turned np n1 np)) → Calls Tryz.prog 9 #[.agg #[.int .i64 np, .string s, .string r], .slice (some ⟨go, 0, none⟩) np co] W fun e w' => e = .returned (.tuple #[.agg #[.int .i64 np, .string bs, .string br], .bool true]) ∧ Below W.heap.size W w') := by
        intro W hR
        rw [hbs, hbr]
        exact move_yes np s r _ co (turned np n1 np) W HF.out.hv hN1 hN8 HF.out.hs HF.out.hr HF.out.tl hR HCO.out HF.out.lt HF.out.nd
      have HMV : Hid (colsR np bs br R = C ∧ bs.size ≤ 8 ∧ br.size ≤ 64) := by
        rw [hbs, hbr]
        refine ⟨HF.out.mv, by rw [bS_size]; exact hN8, by rw [bR_size]; exact Nat.mul_le_mul hN8 hN8⟩
      clear hbs hbr HTL HCO HO HX hsz AW_5 FA_5 FP_5 FQ_5 HA9 HH9
      go_wp2_with fail
      clear a0 a1 a2
      refine (CM.out _ (OwnI.reads FO_50.out)).mono ?_
      rintro e w_51 ⟨rfl, hb⟩
      have hbn := hb
      have FA_51 := Lib.hid (FA_50.out.below hbn FA_50.out.lt)
      have FP_51 := Lib.hid (FP_50.out.below hbn (Nat.le_refl _))
      have FQ_51 := Lib.hid (FQ_50.out.below hbn (Nat.le_refl _))
      have FO_51 := Lib.hid (FO_50.out.below hbn (Nat.le_refl _))
      have AW_51 : Hid (Below w.heap.size w w_51) := AW_50.out.trans (hbn.mono AW_50.out.size)
      clear hbn AW_50 FA_50 FP_50 FQ_50 FO_50
      clear hb CM
      have FB_51 : Hid (Box 24 (w_51.alloc (.cells #[.int .i64 np, .string bs, .string br] 24)) (w_51.heap.size) np bs br) := Box.new _ w_51 (w_51.heap.size) (by simp) _ _ _
      obtain ⟨b0, b1, b2⟩ := Box.c FB_51.out
      go_wp2_with fail
      clear b0 b1 b2
      refine (implColoursOf_any np bs br R _ (by have := HMV.out; omega) (by have := HMV.out; omega)).mono ?_
      rintro e w_52 ⟨vm, rfl, ho, hb⟩
      have hbn : Below w_51.heap.size w_51 w_52 := ((Below.refl w_51.heap.size w_51).alloc (by simp) (.cells #[.int .i64 np, .string bs, .string br] 24)).trans (hb.mono (show w_51.heap.size ≤ _ by simp))
      have FA_52 := Lib.hid (FA_51.out.below hbn FA_51.out.lt)
      have FP_52 := Lib.hid (FP_51.out.below hbn (Nat.le_refl _))
      have FQ_52 := Lib.hid (FQ_51.out.below hbn (Nat.le_refl _))
      have FO_52 := Lib.hid (FO_51.out.below hbn (Nat.le_refl _))
      have FB_52 := Lib.hid (FB_51.out.below hb (by simp))
      have AW_52 : Hid (Below w.heap.size w w_52) := AW_51.out.trans (hbn.mono AW_51.out.size)
      clear hbn AW_51 FA_51 FP_51 FQ_51 FO_51 FB_51
      rw [HMV.out.1] at ho
      have FM_52 := Lib.hid (ho)
      clear ho hb HMV
      obtain ⟨gm, cm, hv⟩ := own_at FM_52.out HF.out.cl hN1
      subst hv
      obtain ⟨BP, FX⟩ : ∃ BL, Hid (OwnI 3 w_52 BL (.slice (some ⟨gp, 0, none⟩) np cp) P) := ⟨_, FP_52.out⟩
      obtain ⟨BQ, FY⟩ : ∃ BL, Hid (OwnI 3 w_52 BL (.slice (some ⟨gq, 0, none⟩) np cq) Q) := ⟨_, FQ_52.out⟩
      obtain ⟨BO, FZ⟩ : ∃ BL, Hid (OwnI 3 w_52 BL (.slice (some ⟨go, 0, none⟩) np co) (ints (turned np n1 np))) := ⟨_, FO_52.out⟩
      obtain ⟨BM, FW⟩ : ∃ BL, Hid (OwnI 3 w_52 BL (.slice (some ⟨gm, 0, none⟩) np cm) C) := ⟨_, FM_52.out⟩
      clear FP_52 FQ_52 FO_52 FM_52 FB_52
      obtain ⟨a0, a1, a2⟩ := Box.c FA_52.out
      go_wp2_with fail
      clear a0 a1 a2
      go_loopw [14, 15] (fun v i wr => ∃ X : Nat, ∃ mx : Int, X ≤ np ∧ i = .int .i64 X ∧ v = .int .i64 mx ∧ Inv P mx ∧ Below w.heap.size w wr ∧ Box 24 wr w_1.heap.size np s r ∧ OwnI 3 wr BP (.slice (some ⟨gp, 0, none⟩) np cp) P ∧ OwnI 3 wr BQ (.slice (some ⟨gq, 0, none⟩) np cq) Q ∧ OwnI 3 wr BO (.slice (some ⟨go, 0, none⟩) np co) (ints (turned np n1 np)) ∧ OwnI 3 wr BM (.slice (some ⟨gm, 0, none⟩) np cm) C) (fun _ i _ => np - (intOf i).toNat)
      case atStart => exact ⟨0, 0, Nat.zero_le _, rfl, rfl, Inv.zero HF.out, AW_52.out, FA_52.out, FX.out, FY.out, FZ.out, FW.out⟩
      case round =>
        clear AW_52 FA_52 FX FY FZ FW
        obtain ⟨X, mx, hXN, rfl, rfl, hinv, hst⟩ := hrel
        have HQ := Lib.hid hst
        have HINV := Lib.hid hinv
        clear hst hinv
        obtain ⟨a0, a1, a2⟩ := HQ.out.2.1.c
        by_cases hX : X < np
        · have tX : decide ((X : Int) < (np : Int)) = true := by simp; omega
          have kx := HQ.out.2.2.1.cell X (by have := HF.out.pl; omega)
          obtain ⟨px, hpx⟩ : ∃ Z, P.getD X 0 = Z := ⟨_, rfl⟩
          rw [hpx] at kx
          have HPX := Lib.hid hpx
          have HMX : Hid (Inv P (max mx px)) := Inv.step HF.out hX hpx HINV.out
          have k1 := HQ.out.2.2.2.2.2.cell X (by have := HF.out.cl; omega)
          have k2 := HQ.out.2.2.2.2.1.cell X (by rw [ints_len]; have := HF.out.tl; omega)
          rw [ints_get, turned_get hX] at k2
          have hmv := HF.out.moved X hX
          obtain ⟨y, hy⟩ : ∃ y, (X + n1) % np = y := ⟨_, rfl⟩
          have hyn : y < np := by rw [← hy]; exact Nat.mod_lt _ (by omega)
          rw [hy] at k2 hmv
          obtain ⟨mv, hmvv⟩ : ∃ z, C.getD X 0 = z := ⟨_, rfl⟩
          rw [hmvv] at k1 hmv
          have k3 := HQ.out.2.2.1.cell y (by have := HF.out.pl; omega)
          rw [← hmv] at k3
          clear hpx hmv hmvv hy
          go_wp2_with fail
          clear a0 a1 a2
          have DD : Below wr.heap.size wr wr.drew := (Below.refl _ _).drew
          have R2 : Hid (Below w.heap.size w wr.drew ∧ Box 24 wr.drew w_1.heap.size np s r ∧ OwnI 3 wr.drew BP (.slice (some ⟨gp, 0, none⟩) np cp) P ∧ OwnI 3 wr.drew BQ (.slice (some ⟨gq, 0, none⟩) np cq) Q ∧ OwnI 3 wr.drew BO (.slice (some ⟨go, 0, none⟩) np co) (ints (turned np n1 np)) ∧ OwnI 3 wr.drew BM (.slice (some ⟨gm, 0, none⟩) np cm) C) := ⟨HQ.out.1.drew, Box.drew HQ.out.2.1, HQ.out.2.2.1.below DD (Nat.le_refl _), HQ.out.2.2.2.1.below DD (Nat.le_refl _), HQ.out.2.2.2.2.1.below DD (Nat.le_refl _), HQ.out.2.2.2.2.2.below DD (Nat.le_refl _)⟩
          clear DD
          have q0 : ∀ QQ : Wd (fun Z => Z.cell? ⟨gm, X, none⟩ = some (.int .i64 mv) ∧ Z.cell? ⟨go, X, none⟩ = some (.int .i64 y) ∧ Z.cell? ⟨gp, y, none⟩ = some (.int .i64 mv)), QQ.w.cell? ⟨gm, X, none⟩ = some (.int .i64 mv) := fun QQ => QQ.ok.1
          have q1 : ∀ QQ : Wd (fun Z => Z.cell? ⟨gm, X, none⟩ = some (.int .i64 mv) ∧ Z.cell? ⟨go, X, none⟩ = some (.int .i64 y) ∧ Z.cell? ⟨gp, y, none⟩ = some (.int .i64 mv)), QQ.w.cell? ⟨go, X, none⟩ = some (.int .i64 y) := fun QQ => QQ.ok.2.1
          have q2 : ∀ QQ : Wd (fun Z => Z.cell? ⟨gm, X, none⟩ = some (.int .i64 mv) ∧ Z.cell? ⟨go, X, none⟩ = some (.int .i64 y) ∧ Z.cell? ⟨gp, y, none⟩ = some (.int .i64 mv)), QQ.w.cell? ⟨gp, y, none⟩ = some (.int .i64 mv) := fun QQ => QQ.ok.2.2
          have hne : Nonempty (Wd (fun Z => Z.cell? ⟨gm, X, none⟩ = some (.int .i64 mv) ∧ Z.cell? ⟨go, X, none⟩ = some (.int .i64 y) ∧ Z.cell? ⟨gp, y, none⟩ = some (.int .i64 mv))) := ⟨⟨wr, ⟨k1, k2, k3⟩⟩⟩
          go_wp2_with fail
          refine chain (S := (fun Z => Z.cell? ⟨gm, X, none⟩ = some (.int .i64 mv) ∧ Z.cell? ⟨go, X, none⟩ = some (.int .i64 y) ∧ Z.cell? ⟨gp, y, none⟩ = some (.int .i64 mv))) [] [true, true, true, true, true, true, true, true, true, true, true, true] (by kernel_rfl) (by kernel_rfl) (by kernel_rfl) ⟨k1, k2, k3⟩ ?_
          simp only [wpSegs, pickB, List.dropLast_cons_cons, List.dropLast_singleton, List.getLast?_cons_cons, List.getLast?_singleton, List.toList_toArray, List.getElem?_toArray, List.getElem?_cons_succ, List.getElem?_cons_zero, Option.toList_some]
          repeat (go_big_quiet_step (fail))
          refine wpQuiet_nil ?_
          clear q0 q1 q2 hne
          clear HQ kx k1 k2 k3 hyn
          have HQ := R2
          clear R2
          obtain ⟨a0, a1, a2⟩ := HQ.out.2.1.c
          go_wp2_with fail
          clear a0 a1 a2
          go_loopw [16] (fun i wr => ∃ Y : Nat, Y ≤ np ∧ i = .int .i64 Y ∧ Below w.heap.size w wr ∧ Box 24 wr w_1.heap.size np s r ∧ OwnI 3 wr BP (.slice (some ⟨gp, 0, none⟩) np cp) P ∧ OwnI 3 wr BQ (.slice (some ⟨gq, 0, none⟩) np cq) Q ∧ OwnI 3 wr BO (.slice (some ⟨go, 0, none⟩) np co) (ints (turned np n1 np)) ∧ OwnI 3 wr BM (.slice (some ⟨gm, 0, none⟩) np cm) C) (fun i _ => np - (intOf i).toNat)
          case atStart => exact ⟨0, Nat.zero_le _, rfl, HQ.out⟩
          case round =>
            clear HQ
            obtain ⟨Y, hYN, rfl, hst⟩ := hrel
            have HQ := Lib.hid hst
            clear hst
            obtain ⟨a0, a1, a2⟩ := HQ.out.2.1.c
            by_cases hY : Y < np
            · have tY : decide ((Y : Int) < (np : Int)) = true := by simp; omega
              have kx := HQ.out.2.2.1.cell X (by have := HF.out.pl; omega)
              have ky := HQ.out.2.2.1.cell Y (by have := HF.out.pl; omega)
              have lx := HQ.out.2.2.2.1.cell X (by have := HF.out.ql; omega)
              have ly := HQ.out.2.2.2.1.cell Y (by have := HF.out.ql; omega)
              have hbk := HF.out.back X Y hX hY
              obtain ⟨py, hpy⟩ : ∃ Z, P.getD Y 0 = Z := ⟨_, rfl⟩
              obtain ⟨cx, hcx⟩ : ∃ Z, Q.getD X 0 = Z := ⟨_, rfl⟩
              obtain ⟨cy, hcy⟩ : ∃ Z, Q.getD Y 0 = Z := ⟨_, rfl⟩
              rw [HPX.out] at kx hbk
              rw [hpy] at ky hbk
              rw [hcx] at lx hbk
              rw [hcy] at ly hbk
              clear hpy hcx hcy
              by_cases hcc : cx = cy
              · have hpp := hbk hcc
                subst hpp
                subst hcc
                clear hbk
                have DD : Below wr.heap.size wr wr.drew := (Below.refl _ _).drew
                have R2 : Hid (Below w.heap.size w wr.drew ∧ Box 24 wr.drew w_1.heap.size np s r ∧ OwnI 3 wr.drew BP (.slice (some ⟨gp, 0, none⟩) np cp) P ∧ OwnI 3 wr.drew BQ (.slice (some ⟨gq, 0, none⟩) np cq) Q ∧ OwnI 3 wr.drew BO (.slice (some ⟨go, 0, none⟩) np co) (ints (turned np n1 np)) ∧ OwnI 3 wr.drew BM (.slice (some ⟨gm, 0, none⟩) np cm) C) := ⟨HQ.out.1.drew, Box.drew HQ.out.2.1, HQ.out.2.2.1.below DD (Nat.le_refl _), HQ.out.2.2.2.1.below DD (Nat.le_refl _), HQ.out.2.2.2.2.1.below DD (Nat.le_refl _), HQ.out.2.2.2.2.2.below DD (Nat.le_refl _)⟩
                clear DD
                have q0 : ∀ QQ : Wd (fun Z => Z.cell? ⟨gp, X, none⟩ = some (.int .i64 px) ∧ Z.cell? ⟨gp, Y, none⟩ = some (.int .i64 px) ∧ Z.cell? ⟨gq, X, none⟩ = some (.int .i64 cx) ∧ Z.cell? ⟨gq, Y, none⟩ = some (.int .i64 cx)), QQ.w.cell? ⟨gp, X, none⟩ = some (.int .i64 px) := fun QQ => QQ.ok.1
                have q1 : ∀ QQ : Wd (fun Z => Z.cell? ⟨gp, X, none⟩ = some (.int .i64 px) ∧ Z.cell? ⟨gp, Y, none⟩ = some (.int .i64 px) ∧ Z.cell? ⟨gq, X, none⟩ = some (.int .i64 cx) ∧ Z.cell? ⟨gq, Y, none⟩ = some (.int .i64 cx)), QQ.w.cell? ⟨gp, Y, none⟩ = some (.int .i64 px) := fun QQ => QQ.ok.2.1
                have q2 : ∀ QQ : Wd (fun Z => Z.cell? ⟨gp, X, none⟩ = some (.int .i64 px) ∧ Z.cell? ⟨gp, Y, none⟩ = some (.int .i64 px) ∧ Z.cell? ⟨gq, X, none⟩ = some (.int .i64 cx) ∧ Z.cell? ⟨gq, Y, none⟩ = some (.int .i64 cx)), QQ.w.cell? ⟨gq, X, none⟩ = some (.int .i64 cx) := fun QQ => QQ.ok.2.2.1
                have q3 : ∀ QQ : Wd (fun Z => Z.cell? ⟨gp, X, none⟩ = some (.int .i64 px) ∧ Z.cell? ⟨gp, Y, none⟩ = some (.int .i64 px) ∧ Z.cell? ⟨gq, X, none⟩ = some (.int .i64 cx) ∧ Z.cell? ⟨gq, Y, none⟩ = some (.int .i64 cx)), QQ.w.cell? ⟨gq, Y, none⟩ = some (.int .i64 cx) := fun QQ => QQ.ok.2.2.2
                have hne : Nonempty (Wd (fun Z => Z.cell? ⟨gp, X, none⟩ = some (.int .i64 px) ∧ Z.cell? ⟨gp, Y, none⟩ = some (.int .i64 px) ∧ Z.cell? ⟨gq, X, none⟩ = some (.int .i64 cx) ∧ Z.cell? ⟨gq, Y, none⟩ = some (.int .i64 cx))) := ⟨⟨wr, ⟨kx, ky, lx, ly⟩⟩⟩
                go_wp2_with fail
                refine chain (S := (fun Z => Z.cell? ⟨gp, X, none⟩ = some (.int .i64 px) ∧ Z.cell? ⟨gp, Y, none⟩ = some (.int .i64 px) ∧ Z.cell? ⟨gq, X, none⟩ = some (.int .i64 cx) ∧ Z.cell? ⟨gq, Y, none⟩ = some (.int .i64 cx))) [] [true, true, true, true, true, true, true, true, true, true, true, true, true, true, true, true, true, true, true, true] (by kernel_rfl) (by kernel_rfl) (by kernel_rfl) ⟨kx, ky, lx, ly⟩ ?_
                simp only [wpSegs, pickB, List.dropLast_cons_cons, List.dropLast_singleton, List.getLast?_cons_cons, List.getLast?_singleton, List.toList_toArray, List.getElem?_toArray, List.getElem?_cons_succ, List.getElem?_cons_zero, Option.toList_some]
                repeat (go_big_quiet_step (fail))
                refine wpQuiet_nil ?_
                clear q0 q1 q2 q3 hne
                go_wp2
                go_roundw
                case rel => first | exact ⟨Y + 1, by omega, by go_num, R2.out⟩ | ((repeat apply Exists.intro); exact ⟨⟨Y + 1, by omega, by go_num, R2.out⟩, rfl⟩)
                case measure => simp [intOf]; omega
              · have tC : (cx == cy) = false := beq_eq_false_iff_ne.2 hcc
                clear hbk hcc
                have DD : Below wr.heap.size wr wr.drew := (Below.refl _ _).drew
                have R2 : Hid (Below w.heap.size w wr.drew ∧ Box 24 wr.drew w_1.heap.size np s r ∧ OwnI 3 wr.drew BP (.slice (some ⟨gp, 0, none⟩) np cp) P ∧ OwnI 3 wr.drew BQ (.slice (some ⟨gq, 0, none⟩) np cq) Q ∧ OwnI 3 wr.drew BO (.slice (some ⟨go, 0, none⟩) np co) (ints (turned np n1 np)) ∧ OwnI 3 wr.drew BM (.slice (some ⟨gm, 0, none⟩) np cm) C) := ⟨HQ.out.1.drew, Box.drew HQ.out.2.1, HQ.out.2.2.1.below DD (Nat.le_refl _), HQ.out.2.2.2.1.below DD (Nat.le_refl _), HQ.out.2.2.2.2.1.below DD (Nat.le_refl _), HQ.out.2.2.2.2.2.below DD (Nat.le_refl _)⟩
                clear DD
                have q0 : ∀ QQ : Wd (fun Z => Z.cell? ⟨gp, X, none⟩ = some (.int .i64 px) ∧ Z.cell? ⟨gp, Y, none⟩ = some (.int .i64 py) ∧ Z.cell? ⟨gq, X, none⟩ = some (.int .i64 cx) ∧ Z.cell? ⟨gq, Y, none⟩ = some (.int .i64 cy)), QQ.w.cell? ⟨gp, X, none⟩ = some (.int .i64 px) := fun QQ => QQ.ok.1
                have q1 : ∀ QQ : Wd (fun Z => Z.cell? ⟨gp, X, none⟩ = some (.int .i64 px) ∧ Z.cell? ⟨gp, Y, none⟩ = some (.int .i64 py) ∧ Z.cell? ⟨gq, X, none⟩ = some (.int .i64 cx) ∧ Z.cell? ⟨gq, Y, none⟩ = some (.int .i64 cy)), QQ.w.cell? ⟨gp, Y, none⟩ = some (.int .i64 py) := fun QQ => QQ.ok.2.1
                have q2 : ∀ QQ : Wd (fun Z => Z.cell? ⟨gp, X, none⟩ = some (.int .i64 px) ∧ Z.cell? ⟨gp, Y, none⟩ = some (.int .i64 py) ∧ Z.cell? ⟨gq, X, none⟩ = some (.int .i64 cx) ∧ Z.cell? ⟨gq, Y, none⟩ = some (.int .i64 cy)), QQ.w.cell? ⟨gq, X, none⟩ = some (.int .i64 cx) := fun QQ => QQ.ok.2.2.1
                have q3 : ∀ QQ : Wd (fun Z => Z.cell? ⟨gp, X, none⟩ = some (.int .i64 px) ∧ Z.cell? ⟨gp, Y, none⟩ = some (.int .i64 py) ∧ Z.cell? ⟨gq, X, none⟩ = some (.int .i64 cx) ∧ Z.cell? ⟨gq, Y, none⟩ = some (.int .i64 cy)), QQ.w.cell? ⟨gq, Y, none⟩ = some (.int .i64 cy) := fun QQ => QQ.ok.2.2.2
                have hne : Nonempty (Wd (fun Z => Z.cell? ⟨gp, X, none⟩ = some (.int .i64 px) ∧ Z.cell? ⟨gp, Y, none⟩ = some (.int .i64 py) ∧ Z.cell? ⟨gq, X, none⟩ = some (.int .i64 cx) ∧ Z.cell? ⟨gq, Y, none⟩ = some (.int .i64 cy))) := ⟨⟨wr, ⟨kx, ky, lx, ly⟩⟩⟩
                go_wp2_with fail
                refine chain (S := (fun Z => Z.cell? ⟨gp, X, none⟩ = some (.int .i64 px) ∧ Z.cell? ⟨gp, Y, none⟩ = some (.int .i64 py) ∧ Z.cell? ⟨gq, X, none⟩ = some (.int .i64 cx) ∧ Z.cell? ⟨gq, Y, none⟩ = some (.int .i64 cy))) [] [true, true, true, true, true, true, true, true, true, true, true, true, true, true, true, true, true, true, true, true] (by kernel_rfl) (by kernel_rfl) (by kernel_rfl) ⟨kx, ky, lx, ly⟩ ?_
                simp only [wpSegs, pickB, List.dropLast_cons_cons, List.dropLast_singleton, List.getLast?_cons_cons, List.getLast?_singleton, List.toList_toArray, List.getElem?_toArray, List.getElem?_cons_succ, List.getElem?_cons_zero, Option.toList_some]
                repeat (go_big_quiet_step (fail))
                refine wpQuiet_nil ?_
                clear q0 q1 q2 q3 hne
                go_wp2
                go_roundw
                case rel => first | exact ⟨Y + 1, by omega, by go_num, R2.out⟩ | ((repeat apply Exists.intro); exact ⟨⟨Y + 1, by omega, by go_num, R2.out⟩, rfl⟩)
                case measure => simp [intOf]; omega
            · obtain rfl : np = Y := by omega
              clear hYN hY
              go_wp2_with fail
              clear a0 a1 a2
              refine (orbit.implOrbitOf_at np X s r _ HF.out.hv hX hN8 HF.out.hs HF.out.hr).mono ?_
              rintro eo w8 ⟨vo, L, rfl, ho, hLl, hL, hb⟩
              have HQ8 : Hid (Below w.heap.size w w8 ∧ Box 24 w8 w_1.heap.size np s r ∧ OwnI 3 w8 BP (.slice (some ⟨gp, 0, none⟩) np cp) P ∧ OwnI 3 w8 BQ (.slice (some ⟨gq, 0, none⟩) np cq) Q ∧ OwnI 3 w8 BO (.slice (some ⟨go, 0, none⟩) np co) (ints (turned np n1 np)) ∧ OwnI 3 w8 BM (.slice (some ⟨gm, 0, none⟩) np cm) C) := ⟨HQ.out.1.trans (hb.mono HQ.out.1.size), HQ.out.2.1.below hb HQ.out.2.1.lt, HQ.out.2.2.1.below hb (Nat.le_refl _), HQ.out.2.2.2.1.below hb (Nat.le_refl _), HQ.out.2.2.2.2.1.below hb (Nat.le_refl _), HQ.out.2.2.2.2.2.below hb (Nat.le_refl _)⟩
              have HOL := Lib.hid hL
              have HLl := Lib.hid hLl
              obtain ⟨nl, hnl⟩ : ∃ z, z = L.length := ⟨_, rfl⟩
              obtain ⟨al, cl, hv⟩ := ho.reads.len
              rw [ints_len, ← hnl] at hv
              subst hv
              have HNL := Lib.hid hnl
              have hnl8 : nl ≤ 8 := by omega
              obtain ⟨BL, FOL⟩ : ∃ BL, Hid (OwnI 3 w8 BL (.slice al nl cl) (ints L)) := ⟨_, ho⟩
              clear ho hLl hL hb hnl HQ
              go_wp2_with fail
              go_loopw [18] (fun i wr => ∃ J : Nat, J ≤ nl ∧ i = .int .i64 J ∧ OwnI 3 wr BL (.slice al nl cl) (ints L) ∧ Below w.heap.size w wr ∧ Box 24 wr w_1.heap.size np s r ∧ OwnI 3 wr BP (.slice (some ⟨gp, 0, none⟩) np cp) P ∧ OwnI 3 wr BQ (.slice (some ⟨gq, 0, none⟩) np cq) Q ∧ OwnI 3 wr BO (.slice (some ⟨go, 0, none⟩) np co) (ints (turned np n1 np)) ∧ OwnI 3 wr BM (.slice (some ⟨gm, 0, none⟩) np cm) C) (fun i _ => nl - (intOf i).toNat)
              case atStart => exact ⟨0, Nat.zero_le _, rfl, FOL.out, HQ8.out⟩
              case round =>
                clear FOL HQ8
                obtain ⟨J, hJ, rfl, hol, hst⟩ := hrel
                have HQ := Lib.hid hst
                have FOL := Lib.hid hol
                clear hst hol
                by_cases hJn : J < nl
                · have tJ : decide ((J : Int) < (nl : Int)) = true := by simp; omega
                  obtain ⟨gl, clx, hv⟩ := own_at (n := nl) FOL.out (by rw [ints_len]; exact HNL.out.symm) (by omega)
                  simp only [Value.slice.injEq] at hv
                  obtain ⟨rfl, -, rfl⟩ := hv
                  have k1 := FOL.out.cell J (by rw [ints_len]; have := HNL.out; omega)
                  rw [ints_get] at k1
                  have hmem : L.getD J 0 ∈ L := by
                    rw [List.getD_eq_getElem?_getD, List.getElem?_eq_getElem (by have := HNL.out; omega)]
                    exact List.getElem_mem _
                  obtain ⟨hy, o, hiso, hoy⟩ := HOL.out _ hmem
                  have hPy := HF.out.orbit o hiso X hX
                  rw [hoy, HPX.out] at hPy
                  obtain ⟨y, hyy⟩ : ∃ y, L.getD J 0 = y := ⟨_, rfl⟩
                  rw [hyy] at k1 hy hPy
                  clear hmem hiso hoy hyy o
                  have k2 := HQ.out.2.2.1.cell y (by have := HF.out.pl; omega)
                  have k3 := HQ.out.2.2.1.cell X (by have := HF.out.pl; omega)
                  rw [hPy] at k2
                  rw [HPX.out] at k3
                  clear hPy
                  have FO2 : Hid (OwnI 3 wr.drew BL (.slice (some ⟨gl, 0, none⟩) nl cl) (ints L)) := FOL.out.below ((Below.refl _ _).drew) (Nat.le_refl _)
                  have DD : Below wr.heap.size wr wr.drew := (Below.refl _ _).drew
                  have R2 : Hid (Below w.heap.size w wr.drew ∧ Box 24 wr.drew w_1.heap.size np s r ∧ OwnI 3 wr.drew BP (.slice (some ⟨gp, 0, none⟩) np cp) P ∧ OwnI 3 wr.drew BQ (.slice (some ⟨gq, 0, none⟩) np cq) Q ∧ OwnI 3 wr.drew BO (.slice (some ⟨go, 0, none⟩) np co) (ints (turned np n1 np)) ∧ OwnI 3 wr.drew BM (.slice (some ⟨gm, 0, none⟩) np cm) C) := ⟨HQ.out.1.drew, Box.drew HQ.out.2.1, HQ.out.2.2.1.below DD (Nat.le_refl _), HQ.out.2.2.2.1.below DD (Nat.le_refl _), HQ.out.2.2.2.2.1.below DD (Nat.le_refl _), HQ.out.2.2.2.2.2.below DD (Nat.le_refl _)⟩
                  clear DD
                  have q0 : ∀ QQ : Wd (fun Z => Z.cell? ⟨gl, J, none⟩ = some (.int .i64 y) ∧ Z.cell? ⟨gp, y, none⟩ = some (.int .i64 px) ∧ Z.cell? ⟨gp, X, none⟩ = some (.int .i64 px)), QQ.w.cell? ⟨gl, J, none⟩ = some (.int .i64 y) := fun QQ => QQ.ok.1
                  have q1 : ∀ QQ : Wd (fun Z => Z.cell? ⟨gl, J, none⟩ = some (.int .i64 y) ∧ Z.cell? ⟨gp, y, none⟩ = some (.int .i64 px) ∧ Z.cell? ⟨gp, X, none⟩ = some (.int .i64 px)), QQ.w.cell? ⟨gp, y, none⟩ = some (.int .i64 px) := fun QQ => QQ.ok.2.1
                  have q2 : ∀ QQ : Wd (fun Z => Z.cell? ⟨gl, J, none⟩ = some (.int .i64 y) ∧ Z.cell? ⟨gp, y, none⟩ = some (.int .i64 px) ∧ Z.cell? ⟨gp, X, none⟩ = some (.int .i64 px)), QQ.w.cell? ⟨gp, X, none⟩ = some (.int .i64 px) := fun QQ => QQ.ok.2.2
                  have hne : Nonempty (Wd (fun Z => Z.cell? ⟨gl, J, none⟩ = some (.int .i64 y) ∧ Z.cell? ⟨gp, y, none⟩ = some (.int .i64 px) ∧ Z.cell? ⟨gp, X, none⟩ = some (.int .i64 px))) := ⟨⟨wr, ⟨k1, k2, k3⟩⟩⟩
                  go_wp2_with fail
                  refine chain (S := (fun Z => Z.cell? ⟨gl, J, none⟩ = some (.int .i64 y) ∧ Z.cell? ⟨gp, y, none⟩ = some (.int .i64 px) ∧ Z.cell? ⟨gp, X, none⟩ = some (.int .i64 px))) [] [true, true, true, true, true, true, true, true, true, true, true, true] (by kernel_rfl) (by kernel_rfl) (by kernel_rfl) ⟨k1, k2, k3⟩ ?_
                  simp only [wpSegs, pickB, List.dropLast_cons_cons, List.dropLast_singleton, List.getLast?_cons_cons, List.getLast?_singleton, List.toList_toArray, List.getElem?_toArray, List.getElem?_cons_succ, List.getElem?_cons_zero, Option.toList_some]
                  repeat (go_big_quiet_step (fail))
                  refine wpQuiet_nil ?_
                  clear q0 q1 q2 hne
                  go_wp2
                  go_roundw
                  case rel => first | exact ⟨J + 1, by omega, by go_num, FO2.out, R2.out⟩ | ((repeat apply Exists.intro); exact ⟨⟨J + 1, by omega, by go_num, FO2.out, R2.out⟩, rfl⟩)
                  case measure => simp [intOf]; omega
                · obtain rfl : nl = J := by omega
                  clear hJ hJn FOL
                  have HQX := HQ
                  go_wp2
                  go_roundw
                  case rel => first | exact ⟨X + 1, max mx px, by omega, by go_num, rfl, HMX.out, HQX.out⟩ | ((repeat apply Exists.intro); exact ⟨⟨X + 1, max mx px, by omega, by go_num, rfl, HMX.out, HQX.out⟩, rfl⟩)
                  case measure => simp [intOf]; omega

        · obtain rfl : np = X := by omega
          clear hX hXN
          have HQC := Lib.hid (show _ ∧ _ from ⟨HQ.out.1, HQ.out.2.2.1⟩)
          obtain ⟨m, hm⟩ : ∃ m : Nat, mx = m := ⟨mx.toNat, by have := HINV.out.1; omega⟩
          subst hm
          clear HQ
          go_wp2_with fail
          clear a0 a1 a2
          go_loopw [19] (fun i wr => ∃ c : Nat, c ≤ m + 1 ∧ i = .int .i64 c ∧ Below w.heap.size w wr ∧ OwnI 3 wr BP (.slice (some ⟨gp, 0, none⟩) np cp) P) (fun i _ => m + 1 - (intOf i).toNat)
          case atStart => exact ⟨0, Nat.zero_le _, rfl, HQC.out⟩
          case round =>
            clear HQC
            obtain ⟨c, hc, rfl, h1, h2⟩ := hrel
            have HQC := Lib.hid (show _ ∧ _ from ⟨h1, h2⟩)
            clear h1 h2
            by_cases hcm : c ≤ m
            · have tc : decide ((c : Int) ≤ (m : Int)) = true := by simp; omega
              have HIN : Hid (decide ((c : Int) ∈ P) = true) := decide_eq_true (HINV.out.2.2 c (by omega) (by omega))
              have hm8 := HINV.out.2.1
              go_wp2_with fail
              refine (gsHas_any _ P c _ (OwnI.reads HQC.out.2) (by have := HLEN.out; omega)).mono ?_
              rintro eo w8 ⟨rfl, rfl⟩
              rw [HIN.out]
              go_wp2
              go_roundw
              case rel => first | exact ⟨c + 1, by omega, by go_num, HQC.out⟩ | ((repeat apply Exists.intro); exact ⟨⟨c + 1, by omega, by go_num, HQC.out⟩, rfl⟩)
              case measure => simp [intOf]; omega
            · have tc : decide ((c : Int) ≤ (m : Int)) = false := by simp; omega
              go_wp2
              go_ret
              exact ⟨rfl, HQC.out.1⟩
end Go.Proofs.YtefneihlgclkbaaGreatDoor.fnColoursW
