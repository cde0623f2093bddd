/- FnPairLists: the walk. -/
import Derived.Test.YtefneihlgclkbaaDoorPkN
import Derived.Test.YtefneihlgclkbaaDoorProd
import Derived.Test.YtefneihlgclkbaaDoorPkJ
import Derived.Test.YtefneihlgclkbaaDoorPairL
import Derived.Test.YtefneihlgclkbaaDoorPairP
import Derived.Test.YtefneihlgclkbaaDoorAssoc
import Derived.Test.YtefneihlgclkbaaDoorGs
import Derived.Test.YtefneihlgclkbaaDoorRow
namespace Go.Proofs.YtefneihlgclkbaaDoor.fnPlistW
set_option linter.unusedVariables false
set_option linter.unusedSimpArgs false
open Go.ChangeShapes Go.WideShapes Go.ChangeAt Go.RowKit
open Go.Proofs.YtefneihlgclkbaaDoor.flow Go.Proofs.YtefneihlgclkbaaDoor.lib Go.Proofs.YtefneihlgclkbaaDoor.st Go.Proofs.YtefneihlgclkbaaDoor.draw Go.Proofs.YtefneihlgclkbaaDoor.base Go.Proofs.YtefneihlgclkbaaDoor.make Go.Proofs.YtefneihlgclkbaaDoor.prod Go.Proofs.YtefneihlgclkbaaDoor.val Go.Proofs.YtefneihlgclkbaaDoor.assoc Go.Proofs.YtefneihlgclkbaaDoor.fits Go.Proofs.YtefneihlgclkbaaDoor.gs Go.Proofs.YtefneihlgclkbaaDoor.prodl Go.Proofs.YtefneihlgclkbaaDoor.pairL Go.Proofs.YtefneihlgclkbaaDoor.pairP Go.Proofs.YtefneihlgclkbaaDoor.ispart Go.Proofs.YtefneihlgclkbaaDoor.still Go.Proofs.YtefneihlgclkbaaDoor.l4
/-- bytes that came in may be drawn from -/
theorem byt_of_row {w : World} {a : Option Addr} {n c : Nat} {zs : List Int} (h : row.IsRow .u8 w a n c zs) : Byt w w.heap.size a n ∧ n ≤ c ∧ c ≤ 9223372036854775807 := by
  rcases h with ⟨rfl, rfl, rfl, rfl⟩ | ⟨x, rfl, hl, hm, hz, hcell, hwf⟩
  · exact ⟨.inl rfl, Nat.le_refl _, by omega⟩
  · refine ⟨?_, hl, hm⟩
    by_cases h0 : n = 0
    · exact .inl h0
    · obtain ⟨b, off, spot⟩ := x
      have hc := hcell 0 (by omega)
      have hspot : spot = none := by simpa [Addr.add] using World.cell?_spot hc
      subst hspot
      have hlt := World.block_lt_of_cell? w _ hc
      refine .inr ⟨b, off, rfl, by simpa [Addr.add] using hlt, fun i hi => ?_⟩
      have hci := hcell i (by omega)
      have hw := hwf (zs.getD i 0) (by rw [List.getD_eq_getElem?_getD, List.getElem?_eq_getElem (by omega)]; exact List.getElem_mem _)
      have hb : 0 ≤ zs.getD i 0 ∧ zs.getD i 0 ≤ 255 := by
        generalize zs.getD i 0 = z at hw ⊢
        simp only [Lit.wf, IntKind.min, IntKind.max, IntKind.signed, IntKind.bits, Bool.and_eq_true, decide_eq_true_eq] at hw
        simp at hw
        omega
      refine ⟨(zs.getD i 0).toNat, by omega, ?_⟩
      rw [show (⟨b, off, none⟩ : Addr).add i = ⟨b, off + i, none⟩ from by simp only [Addr.add]; split <;> simp [*]] at hci
      rw [hci, show (((zs.getD i 0).toNat : Nat) : Int) = zs.getD i 0 from by omega]
theorem sc_p {n : Int} {s r : ByteArray} {m : Int} {t q : ByteArray} (hs : s.size ≤ 100) (hr : r.size ≤ 100) (ht : t.size ≤ 100) (hq : q.size ≤ 100) : SC 11 n s r m t q (pn n s r m t q) (ps n s r m t q) (pr n s r m t q) (okP n s r m t q) :=
  fun W => implProduct_any n s r m t q W (by omega) (by omega) (by omega) (by omega)
theorem own_some {T : TypeId} {w : World} {B n cap : Nat} {ao : Option Addr} {l : List Int} (h : OwnI T w B (.slice ao n cap) l) (h1 : 1 ≤ n) : ∃ g, ao = some ⟨g, 0, none⟩ := by
  rcases h.2 with ⟨h', _⟩ | ⟨g, c, cur, hv, _⟩
  · simp only [Value.slice.injEq] at h'; omega
  · simp only [Value.slice.injEq] at hv
    exact ⟨g, hv.1⟩
theorem own_room {T : TypeId} {w : World} {B : Nat} {v : Value} {l : List Int} (h : OwnI T w B v l) : Room v := by
  rcases h.2 with ⟨rfl, _⟩ | ⟨g, c, cur, rfl, _, _, h2, h3, _⟩
  · exact ⟨Nat.le_refl _, by omega⟩
  · exact ⟨h2, by unfold maxLen at h3; omega⟩
theorem own_lt {w : World} {g k : Nat} {x : Int} (h : w.cell? ⟨g, k, none⟩ = some (.int .i64 x)) : g < w.heap.size := World.block_lt_of_cell? w ⟨g, k, none⟩ h

set_option maxHeartbeats 40000000 in
set_option maxRecDepth 100000 in
theorem walk (a0 : Option Addr) (n0 c0 : Nat) (l0 : List Int) (w : World) (h0 : row.IsRow .u8 w a0 n0 c0 l0) :
    Calls Tryd.prog 6 #[.slice a0 n0 c0] w fun e w' => e = .returned (.bool true) ∧ Below w.heap.size w w' := by
  obtain ⟨by0, nc0, cm0⟩ := byt_of_row h0
  have BY0 := Lib.hid by0
  clear by0
  clear h0
  by_cases hg0 : 1048576 < n0
  · go_enter Tryd.func6, Tryd.ntmps6
    go_wp2
    go_ret
    exact ⟨rfl, Below.refl _ _⟩
  go_enter Tryd.func6, Tryd.ntmps6
  have AW_0 : Hid (Below w.heap.size w w) := Below.refl _ _
  go_wp2_with fail
  refine (drawPairLists_any a0 n0 c0 _ BY0.out nc0 cm0).mono ?_
  rintro e w_1 ⟨n, s, r, va, la, m, t, q, vb, lb, rfl, ⟨hnw, hs, hr⟩, ⟨hmw, ht, hq⟩, ⟨hla, hna⟩, ⟨hlb, hnb⟩, hoa, hob, hb⟩
  have hbn := hb
  have AW_1 : Hid (Below w.heap.size w w_1) := AW_0.out.trans (hbn.mono AW_0.out.size)
  clear hbn AW_0 
  have FL_1 := Lib.hid (hoa)
  have FM_1 := Lib.hid (hob)
  clear hb hoa hob hna hnb
  have FA_1 : Hid (Box 24 (w_1.alloc (.cells #[.int .i64 n, .string s, .string r] 24)) (w_1.heap.size) n s r) := Box.new _ w_1 (w_1.heap.size) (by simp) _ _ _
  have FA_1 := Lib.hid (FA_1.out.below ((Below.refl (w_1.heap.size + 1) _).alloc (by simp) (.cells #[.int .i64 m, .string t, .string q] 24)) (by omega))
  have FB_1 : Hid (Box 24 ((w_1.alloc (.cells #[.int .i64 n, .string s, .string r] 24)).alloc (.cells #[.int .i64 m, .string t, .string q] 24)) (w_1.heap.size + 1) m t q) := Box.new _ (w_1.alloc (.cells #[.int .i64 n, .string s, .string r] 24)) (w_1.heap.size + 1) (by simp) _ _ _
  obtain hk | hk : okLs n s r la m t q lb = false ∨ okLs n s r la m t q lb = true := by cases okLs n s r la m t q lb <;> simp
  · have HK := Lib.hid hk
    have HLN : Hid ((pairR n s r la m t q lb).length ≤ 4194304) := pairL.len0 n s r la m t q lb (by omega) (by omega) (by omega)
    clear hk
    obtain ⟨a0, a1, a2⟩ := Box.c FA_1.out
    obtain ⟨b0, b1, b2⟩ := Box.c FB_1.out
    go_wp2_with fail
    clear  a0 a1 a2 b0 b1 b2
    refine (pairL.implE n s r la m t q lb hnw hmw (by omega) (by omega) (by omega) _ _ _ (OwnI.reads (FL_1.out.below (((Below.refl w_1.heap.size w_1).alloc (by simp) (.cells #[.int .i64 n, .string s, .string r] 24)).alloc (by simp) (.cells #[.int .i64 m, .string t, .string q] 24)) (Nat.le_refl _))) (OwnI.reads (FM_1.out.below (((Below.refl w_1.heap.size w_1).alloc (by simp) (.cells #[.int .i64 n, .string s, .string r] 24)).alloc (by simp) (.cells #[.int .i64 m, .string t, .string q] 24)) (Nat.le_refl _)))).mono ?_
    rintro e w_2 ⟨vP, rfl, ho, hb⟩
    have hbn : Below w_1.heap.size w_1 w_2 := (((Below.refl w_1.heap.size w_1).alloc (by simp) (.cells #[.int .i64 n, .string s, .string r] 24)).alloc (by simp) (.cells #[.int .i64 m, .string t, .string q] 24)).trans (hb.mono (show w_1.heap.size ≤ _ by simp <;> omega))
    have FL_2 := Lib.hid (FL_1.out.below hbn (Nat.le_refl _))
    have FM_2 := Lib.hid (FM_1.out.below hbn (Nat.le_refl _))
    have FA_2 := Lib.hid (FA_1.out.below hb (by simp <;> omega))
    have FB_2 := Lib.hid (FB_1.out.below hb (by simp <;> omega))
    have AW_2 : Hid (Below w.heap.size w w_2) := AW_1.out.trans (hbn.mono AW_1.out.size)
    clear hbn AW_1 FL_1 FM_1 FA_1 FB_1
    rw [HK.out]
    clear hb
    have FP_2 := Lib.hid (ho)
    clear ho
    obtain ⟨a0, a1, a2⟩ := Box.c FA_2.out
    obtain ⟨b0, b1, b2⟩ := Box.c FB_2.out
    go_wp2_with fail
    clear  a0 a1 a2 b0 b1 b2
    refine (pairL.specE n s r la m t q lb hnw hmw (by omega) (by omega) (by omega) _ _ _ (OwnI.reads FL_2.out) (OwnI.reads FM_2.out)).mono ?_
    rintro e w_3 ⟨vU, rfl, ho, hb⟩
    have hbn := hb
    have FL_3 := Lib.hid (FL_2.out.below hbn (Nat.le_refl _))
    have FM_3 := Lib.hid (FM_2.out.below hbn (Nat.le_refl _))
    have FA_3 := Lib.hid (FA_2.out.below hbn FA_2.out.lt)
    have FB_3 := Lib.hid (FB_2.out.below hbn FB_2.out.lt)
    have FP_3 := Lib.hid (FP_2.out.below hbn (Nat.le_refl _))
    have AW_3 : Hid (Below w.heap.size w w_3) := AW_2.out.trans (hbn.mono AW_2.out.size)
    clear hbn AW_2 FL_2 FM_2 FA_2 FB_2 FP_2
    rw [HK.out]
    clear hb
    have FU_3 := Lib.hid (ho)
    clear ho
    go_wp2_with fail
    refine (gsSame_same _ _ (pairR n s r la m t q lb) _ (OwnI.reads FP_3.out) (OwnI.reads FU_3.out) (by have := HLN.out; omega)).mono ?_
    rintro e w_4 ⟨rfl, hb⟩
    have hbn := hb
    have FL_4 := Lib.hid (FL_3.out.below hbn (Nat.le_refl _))
    have FM_4 := Lib.hid (FM_3.out.below hbn (Nat.le_refl _))
    have FA_4 := Lib.hid (FA_3.out.below hbn FA_3.out.lt)
    have FB_4 := Lib.hid (FB_3.out.below hbn FB_3.out.lt)
    have FP_4 := Lib.hid (FP_3.out.below hbn (Nat.le_refl _))
    have FU_4 := Lib.hid (FU_3.out.below hbn (Nat.le_refl _))
    have AW_4 : Hid (Below w.heap.size w w_4) := AW_3.out.trans (hbn.mono AW_3.out.size)
    clear hbn AW_3 FL_3 FM_3 FA_3 FB_3 FP_3 FU_3
    clear hb
    go_wp2_with fail
    refine (gsSame_same _ _ (pairR n s r la m t q lb) _ (OwnI.reads FP_4.out) (OwnI.reads FU_4.out) (by have := HLN.out; omega)).mono ?_
    rintro e w_5 ⟨rfl, hb⟩
    have hbn := hb
    have FL_5 := Lib.hid (FL_4.out.below hbn (Nat.le_refl _))
    have FM_5 := Lib.hid (FM_4.out.below hbn (Nat.le_refl _))
    have FA_5 := Lib.hid (FA_4.out.below hbn FA_4.out.lt)
    have FB_5 := Lib.hid (FB_4.out.below hbn FB_4.out.lt)
    have FP_5 := Lib.hid (FP_4.out.below hbn (Nat.le_refl _))
    have FU_5 := Lib.hid (FU_4.out.below hbn (Nat.le_refl _))
    have AW_5 : Hid (Below w.heap.size w w_5) := AW_4.out.trans (hbn.mono AW_4.out.size)
    clear hbn AW_4 FL_4 FM_4 FA_4 FB_4 FP_4 FU_4
    clear hb
    go_wp2
    go_ret
    exact ⟨rfl, AW_5.out⟩
  · obtain ⟨L, P, Q, hf⟩ := plist.fact ⟨hnw, hmw⟩ ⟨hs, hr, ht, hq⟩ hk
    have HK := Lib.hid hk
    have HF := Lib.hid hf
    have hL4 : L ≤ 4 := hf.l
    have HK2 : Hid (okLs m t q lb n s r la = true) := by
      have h := hk
      unfold okLs at h
      unfold Hid okLs
      simp only [Bool.and_eq_true, decide_eq_true_eq] at h ⊢
      exact ⟨h.2.1, h.1, h.2.2.symm⟩
    clear hk hf
    obtain ⟨a0, a1, a2⟩ := Box.c FA_1.out
    obtain ⟨b0, b1, b2⟩ := Box.c FB_1.out
    go_wp2_with fail
    clear  a0 a1 a2 b0 b1 b2
    refine (pairL.implE n s r la m t q lb hnw hmw (by omega) (by omega) (by omega) _ _ _ (OwnI.reads (FL_1.out.below (((Below.refl w_1.heap.size w_1).alloc (by simp) (.cells #[.int .i64 n, .string s, .string r] 24)).alloc (by simp) (.cells #[.int .i64 m, .string t, .string q] 24)) (Nat.le_refl _))) (OwnI.reads (FM_1.out.below (((Below.refl w_1.heap.size w_1).alloc (by simp) (.cells #[.int .i64 n, .string s, .string r] 24)).alloc (by simp) (.cells #[.int .i64 m, .string t, .string q] 24)) (Nat.le_refl _)))).mono ?_
    rintro e w_2 ⟨vP, rfl, ho, hb⟩
    have hbn : Below w_1.heap.size w_1 w_2 := (((Below.refl w_1.heap.size w_1).alloc (by simp) (.cells #[.int .i64 n, .string s, .string r] 24)).alloc (by simp) (.cells #[.int .i64 m, .string t, .string q] 24)).trans (hb.mono (show w_1.heap.size ≤ _ by simp <;> omega))
    have FL_2 := Lib.hid (FL_1.out.below hbn (Nat.le_refl _))
    have FM_2 := Lib.hid (FM_1.out.below hbn (Nat.le_refl _))
    have FA_2 := Lib.hid (FA_1.out.below hb (by simp <;> omega))
    have FB_2 := Lib.hid (FB_1.out.below hb (by simp <;> omega))
    have AW_2 : Hid (Below w.heap.size w w_2) := AW_1.out.trans (hbn.mono AW_1.out.size)
    clear hbn AW_1 FL_1 FM_1 FA_1 FB_1
    rw [HK.out]
    rw [← HF.out.eP] at ho
    clear hb
    have FP_2 := Lib.hid (ho)
    clear ho
    obtain ⟨a0, a1, a2⟩ := Box.c FA_2.out
    obtain ⟨b0, b1, b2⟩ := Box.c FB_2.out
    go_wp2_with fail
    clear  a0 a1 a2 b0 b1 b2
    refine (pairL.specE n s r la m t q lb hnw hmw (by omega) (by omega) (by omega) _ _ _ (OwnI.reads FL_2.out) (OwnI.reads FM_2.out)).mono ?_
    rintro e w_3 ⟨vU, rfl, ho, hb⟩
    have hbn := hb
    have FL_3 := Lib.hid (FL_2.out.below hbn (Nat.le_refl _))
    have FM_3 := Lib.hid (FM_2.out.below hbn (Nat.le_refl _))
    have FA_3 := Lib.hid (FA_2.out.below hbn FA_2.out.lt)
    have FB_3 := Lib.hid (FB_2.out.below hbn FB_2.out.lt)
    have FP_3 := Lib.hid (FP_2.out.below hbn (Nat.le_refl _))
    have AW_3 : Hid (Below w.heap.size w w_3) := AW_2.out.trans (hbn.mono AW_2.out.size)
    clear hbn AW_2 FL_2 FM_2 FA_2 FB_2 FP_2
    rw [HK.out]
    rw [← HF.out.eP] at ho
    clear hb
    have FU_3 := Lib.hid (ho)
    clear ho
    go_wp2_with fail
    refine (gsSame_same _ _ P _ (OwnI.reads FP_3.out) (OwnI.reads FU_3.out) (by have := HF.out.pl; omega)).mono ?_
    rintro e w_4 ⟨rfl, hb⟩
    have hbn := hb
    have FL_4 := Lib.hid (FL_3.out.below hbn (Nat.le_refl _))
    have FM_4 := Lib.hid (FM_3.out.below hbn (Nat.le_refl _))
    have FA_4 := Lib.hid (FA_3.out.below hbn FA_3.out.lt)
    have FB_4 := Lib.hid (FB_3.out.below hbn FB_3.out.lt)
    have FP_4 := Lib.hid (FP_3.out.below hbn (Nat.le_refl _))
    have FU_4 := Lib.hid (FU_3.out.below hbn (Nat.le_refl _))
    have AW_4 : Hid (Below w.heap.size w w_4) := AW_3.out.trans (hbn.mono AW_3.out.size)
    clear hbn AW_3 FL_3 FM_3 FA_3 FB_3 FP_3 FU_3
    clear hb
    obtain ⟨ap, cp, hv⟩ := FP_4.out.reads.len
    rw [HF.out.pl] at hv
    subst hv
    obtain ⟨aa, ca, hv⟩ := FL_4.out.reads.len
    rw [HF.out.lla] at hv
    subst hv
    obtain ⟨ab, cb, hv⟩ := FM_4.out.reads.len
    rw [HF.out.llb] at hv
    subst hv
    obtain ⟨BP, HBP⟩ : ∃ BP, Hid (OwnI 3 w_4 BP (.slice ap L cp) P) := ⟨_, FP_4.out⟩
    obtain ⟨BA, HBA⟩ : ∃ BA, Hid (OwnI 3 w_4 BA (.slice aa L ca) la) := ⟨_, FL_4.out⟩
    obtain ⟨BB, HBB⟩ : ∃ BB, Hid (OwnI 3 w_4 BB (.slice ab L cb) lb) := ⟨_, FM_4.out⟩
    have HS0 : Hid (Below w.heap.size w w_4 ∧ Box 24 w_4 w_1.heap.size n s r ∧ Box 24 w_4 (w_1.heap.size + 1) m t q ∧ OwnI 3 w_4 BP (.slice ap L cp) P ∧ OwnI 3 w_4 BA (.slice aa L ca) la ∧ OwnI 3 w_4 BB (.slice ab L cb) lb) := ⟨AW_4.out, FA_4.out, FB_4.out, HBP.out, HBA.out, HBB.out⟩
    clear AW_4 FA_4 FB_4 FP_4 FL_4 FM_4 FU_4 HBP HBA HBB
    go_wp2_with fail
    go_loopw [11] (fun i wr => ∃ k : Nat, k ≤ L ∧ i = .int .i64 k ∧ Below w.heap.size w wr ∧ Box 24 wr w_1.heap.size n s r ∧ Box 24 wr (w_1.heap.size + 1) m t q ∧ OwnI 3 wr BP (.slice ap L cp) P ∧ OwnI 3 wr BA (.slice aa L ca) la ∧ OwnI 3 wr BB (.slice ab L cb) lb) (fun i _ => L - (intOf i).toNat)
    case atStart => exact ⟨0, Nat.zero_le _, rfl, HS0.out⟩
    case round =>
      clear HS0
      obtain ⟨k, hkL, rfl, hst⟩ := hrel
      have HS := Lib.hid hst
      clear hst
      by_cases hlt : k < L
      · have tk : decide ((k : Int) < (L : Int)) = true := by simp; omega
        have tk0 : decide ((k : Int) < 0) = false := by simp
        have tk1 : decide ((L : Int) ≤ (k : Int)) = false := by simp; omega
        have tk2 : decide (L ≤ k) = false := by simp; omega
        obtain ⟨gp, rfl⟩ := own_some HS.out.2.2.2.1 (by omega)
        obtain ⟨ga, rfl⟩ := own_some HS.out.2.2.2.2.1 (by omega)
        obtain ⟨gb, rfl⟩ := own_some HS.out.2.2.2.2.2 (by omega)
        have k1 := HS.out.2.2.2.1.cell k (by rw [HF.out.pl]; exact hlt)
        have k2 := HS.out.2.2.2.2.1.cell k (by rw [HF.out.lla]; exact hlt)
        have k3 := HS.out.2.2.2.2.2.cell k (by rw [HF.out.llb]; exact hlt)
        have hpl := HF.out.place k hlt
        obtain ⟨z, hz⟩ : ∃ z, P.getD k 0 = z := ⟨_, rfl⟩
        obtain ⟨x, hx⟩ : ∃ x, la.getD k 0 = x := ⟨_, rfl⟩
        obtain ⟨y, hy⟩ : ∃ y, lb.getD k 0 = y := ⟨_, rfl⟩
        rw [hz] at k1 hpl
        rw [hx] at k2 hpl
        rw [hy] at k3 hpl
        have l1 := own_lt k1
        have l2 := own_lt k2
        have l3 := own_lt k3
        have PP : Hid (∀ W, Calls Tryd.prog 13 #[.agg #[.int .i64 n, .string s, .string r], .agg #[.int .i64 m, .string t, .string q], .int .i64 x, .int .i64 y] W fun e w' => e = .returned (.int .i64 z) ∧ Below W.heap.size W w') := fun W => by
          have h := impl_PairPlace_any n s r m t q x y W HF.out.zn.1 HF.out.zn.2 (by omega) (by omega) (by omega) (by omega)
          rw [hpl] at h
          exact h
        clear hz hx hy hpl
        have a0 : ∀ X : Wd (fun W => Hid (Below wr.heap.size wr W)), X.w.cell? ⟨w_1.heap.size, 0, none⟩ = some (.int .i64 n) := fun X => (HS.out.2.1.below X.ok.out HS.out.2.1.lt).c.1
        have a1 : ∀ X : Wd (fun W => Hid (Below wr.heap.size wr W)), X.w.cell? ⟨w_1.heap.size, 1, none⟩ = some (.string s) := fun X => (HS.out.2.1.below X.ok.out HS.out.2.1.lt).c.2.1
        have a2 : ∀ X : Wd (fun W => Hid (Below wr.heap.size wr W)), X.w.cell? ⟨w_1.heap.size, 2, none⟩ = some (.string r) := fun X => (HS.out.2.1.below X.ok.out HS.out.2.1.lt).c.2.2
        have b0 : ∀ X : Wd (fun W => Hid (Below wr.heap.size wr W)), X.w.cell? ⟨(w_1.heap.size + 1), 0, none⟩ = some (.int .i64 m) := fun X => (HS.out.2.2.1.below X.ok.out HS.out.2.2.1.lt).c.1
        have b1 : ∀ X : Wd (fun W => Hid (Below wr.heap.size wr W)), X.w.cell? ⟨(w_1.heap.size + 1), 1, none⟩ = some (.string t) := fun X => (HS.out.2.2.1.below X.ok.out HS.out.2.2.1.lt).c.2.1
        have b2 : ∀ X : Wd (fun W => Hid (Below wr.heap.size wr W)), X.w.cell? ⟨(w_1.heap.size + 1), 2, none⟩ = some (.string q) := fun X => (HS.out.2.2.1.below X.ok.out HS.out.2.2.1.lt).c.2.2
        have hne : Nonempty (Wd (fun W => Hid (Below wr.heap.size wr W))) := ⟨⟨wr, Lib.hid (Below.refl _ _)⟩⟩
        have c1 : ∀ X : Wd (fun W => Hid (Below wr.heap.size wr W)), X.w.cell? ⟨gp, k, none⟩ = some (.int .i64 z) := fun X => by rw [X.ok.out.cell (p := ⟨gp, k, none⟩) l1]; exact k1
        have c2 : ∀ X : Wd (fun W => Hid (Below wr.heap.size wr W)), X.w.cell? ⟨ga, k, none⟩ = some (.int .i64 x) := fun X => by rw [X.ok.out.cell (p := ⟨ga, k, none⟩) l2]; exact k2
        have c3 : ∀ X : Wd (fun W => Hid (Below wr.heap.size wr W)), X.w.cell? ⟨gb, k, none⟩ = some (.int .i64 y) := fun X => by rw [X.ok.out.cell (p := ⟨gb, k, none⟩) l3]; exact k3
        clear k1 k2 k3 l1 l2 l3
        go_wp2_with fail
        refine flow_all (S := (fun W => Hid (Below wr.heap.size wr W))) (by kernel_rfl) (by kernel_rfl) (Lib.hid (Below.refl _ _).drew) ?_
        try simp only [List.append_eq, List.cons_append, List.nil_append]
        repeat (go_big_quiet_step (first
          | ((with_reducible refine (PP.out _).mono ?_); rintro e W ⟨rfl, hb⟩; exact ⟨rfl, Wd.on (Wd.ok _) hb⟩)))
        refine wpQuiet_nil ?_
        rintro _ ⟨ZW, rfl⟩
        have HZW := Lib.hid ZW.ok.out
        clear a0 a1 a2 b0 b1 b2 hne
        have RH : Hid (Below w.heap.size w ZW.w ∧ Box 24 ZW.w w_1.heap.size n s r ∧ Box 24 ZW.w (w_1.heap.size + 1) m t q ∧ OwnI 3 ZW.w BP (.slice (some ⟨gp, 0, none⟩) L cp) P ∧ OwnI 3 ZW.w BA (.slice (some ⟨ga, 0, none⟩) L ca) la ∧ OwnI 3 ZW.w BB (.slice (some ⟨gb, 0, none⟩) L cb) lb) := ⟨HS.out.1.trans (HZW.out.mono HS.out.1.size), HS.out.2.1.below HZW.out HS.out.2.1.lt, HS.out.2.2.1.below HZW.out HS.out.2.2.1.lt, HS.out.2.2.2.1.below HZW.out (Nat.le_refl _), HS.out.2.2.2.2.1.below HZW.out (Nat.le_refl _), HS.out.2.2.2.2.2.below HZW.out (Nat.le_refl _)⟩
        clear HS HZW c1 c2 c3 PP
        go_wp2
        go_roundw
        case rel => first | exact ⟨k + 1, by omega, by go_num, RH.out⟩ | ((repeat apply Exists.intro); exact ⟨⟨k + 1, by omega, by go_num, RH.out⟩, rfl⟩)
        case measure => simp [intOf]; omega
      · obtain rfl : L = k := by omega
        have tk : decide ((L : Int) < (L : Int)) = false := by simp
        clear hlt hkL
        have AW_90 := Lib.hid HS.out.1
        have FA_90 := Lib.hid HS.out.2.1
        have FB_90 := Lib.hid HS.out.2.2.1
        have FP_90 := Lib.hid HS.out.2.2.2.1
        have FL_90 := Lib.hid HS.out.2.2.2.2.1
        have FM_90 := Lib.hid HS.out.2.2.2.2.2
        clear HS
        obtain hk | hk : okP n s r m t q = false ∨ okP n s r m t q = true := by cases okP n s r m t q <;> simp
        · have hc1 := sc_p (n := n) (s := s) (r := r) (m := m) (t := t) (q := q) hs hr ht hq
          have hc2 := sc_p (n := m) (s := t) (r := q) (m := n) (t := s) (q := r) ht hq hs hr
          rw [hk] at hc1
          obtain ⟨x1, hx1⟩ : ∃ z, z = pn n s r m t q := ⟨_, rfl⟩
          obtain ⟨x2, hx2⟩ : ∃ z, z = ps n s r m t q := ⟨_, rfl⟩
          obtain ⟨x3, hx3⟩ : ∃ z, z = pr n s r m t q := ⟨_, rfl⟩
          rw [← hx1, ← hx2, ← hx3] at hc1
          obtain ⟨y1, hy1⟩ : ∃ z, z = pn m t q n s r := ⟨_, rfl⟩
          obtain ⟨y2, hy2⟩ : ∃ z, z = ps m t q n s r := ⟨_, rfl⟩
          obtain ⟨y3, hy3⟩ : ∃ z, z = pr m t q n s r := ⟨_, rfl⟩
          obtain ⟨y4, hy4⟩ : ∃ z, z = okP m t q n s r := ⟨_, rfl⟩
          rw [← hy1, ← hy2, ← hy3, ← hy4] at hc2
          have HC1 := Lib.hid hc1
          have HC2 := Lib.hid hc2
          clear hc1 hc2 hk hx1 hx2 hx3 hy1 hy2 hy3 hy4
          obtain ⟨a0, a1, a2⟩ := Box.c FA_90.out
          obtain ⟨b0, b1, b2⟩ := Box.c FB_90.out
          go_wp2_with fail
          clear  a0 a1 a2 b0 b1 b2
          refine ((HC1).out _).mono ?_
          rintro e w_91 ⟨rfl, hb⟩
          have hbn := hb
          have FA_91 := Lib.hid (FA_90.out.below hbn FA_90.out.lt)
          have FB_91 := Lib.hid (FB_90.out.below hbn FB_90.out.lt)
          have FP_91 := Lib.hid (FP_90.out.below hbn (Nat.le_refl _))
          have FL_91 := Lib.hid (FL_90.out.below hbn (Nat.le_refl _))
          have FM_91 := Lib.hid (FM_90.out.below hbn (Nat.le_refl _))
          have AW_91 : Hid (Below w.heap.size w w_91) := AW_90.out.trans (hbn.mono AW_90.out.size)
          clear hbn AW_90 FA_90 FB_90 FP_90 FL_90 FM_90
          clear hb
          have FC_91 : Hid (Box 24 (w_91.alloc (.cells #[.int .i64 x1, .string x2, .string x3] 24)) (w_91.heap.size) x1 x2 x3) := Box.new _ w_91 (w_91.heap.size) (by simp) _ _ _
          obtain ⟨b0, b1, b2⟩ := Box.c (FB_91.out.below ((Below.refl w_91.heap.size w_91).alloc (by simp) (.cells #[.int .i64 x1, .string x2, .string x3] 24)) FB_91.out.lt)
          obtain ⟨b_0, b_1, b_2⟩ := Box.c FB_91.out
          have blt := FB_91.out.lt
          obtain ⟨a0, a1, a2⟩ := Box.c (FA_91.out.below ((Below.refl w_91.heap.size w_91).alloc (by simp) (.cells #[.int .i64 x1, .string x2, .string x3] 24)) FA_91.out.lt)
          obtain ⟨a_0, a_1, a_2⟩ := Box.c FA_91.out
          have alt := FA_91.out.lt
          go_wp2_with fail
          clear  b0 b1 b2 b_0 b_1 b_2 blt a0 a1 a2 a_0 a_1 a_2 alt
          refine ((HC2).out _).mono ?_
          rintro e w_92 ⟨rfl, hb⟩
          have hbn : Below w_91.heap.size w_91 w_92 := ((Below.refl w_91.heap.size w_91).alloc (by simp) (.cells #[.int .i64 x1, .string x2, .string x3] 24)).trans (hb.mono (show w_91.heap.size ≤ _ by simp))
          have FA_92 := Lib.hid (FA_91.out.below hbn FA_91.out.lt)
          have FB_92 := Lib.hid (FB_91.out.below hbn FB_91.out.lt)
          have FP_92 := Lib.hid (FP_91.out.below hbn (Nat.le_refl _))
          have FL_92 := Lib.hid (FL_91.out.below hbn (Nat.le_refl _))
          have FM_92 := Lib.hid (FM_91.out.below hbn (Nat.le_refl _))
          have FC_92 := Lib.hid (FC_91.out.below hb (by simp))
          have AW_92 : Hid (Below w.heap.size w w_92) := AW_91.out.trans (hbn.mono AW_91.out.size)
          clear hbn AW_91 FA_91 FB_91 FP_91 FL_91 FM_91 FC_91
          clear hb
          have FD_92 : Hid (Box 24 (w_92.alloc (.cells #[.int .i64 y1, .string y2, .string y3] 24)) (w_92.heap.size) y1 y2 y3) := Box.new _ w_92 (w_92.heap.size) (by simp) _ _ _
          obtain ⟨a0, a1, a2⟩ := Box.c (FA_92.out.below ((Below.refl w_92.heap.size w_92).alloc (by simp) (.cells #[.int .i64 y1, .string y2, .string y3] 24)) FA_92.out.lt)
          obtain ⟨a_0, a_1, a_2⟩ := Box.c FA_92.out
          have alt := FA_92.out.lt
          obtain ⟨b0, b1, b2⟩ := Box.c (FB_92.out.below ((Below.refl w_92.heap.size w_92).alloc (by simp) (.cells #[.int .i64 y1, .string y2, .string y3] 24)) FB_92.out.lt)
          obtain ⟨b_0, b_1, b_2⟩ := Box.c FB_92.out
          have blt := FB_92.out.lt
          go_wp2_with fail
          clear  a0 a1 a2 a_0 a_1 a_2 alt b0 b1 b2 b_0 b_1 b_2 blt
          refine (pairL.implE m t q lb n s r la hmw hnw (by omega) (by omega) (by omega) _ _ _ (OwnI.reads (FM_92.out.below ((Below.refl w_92.heap.size w_92).alloc (by simp) (.cells #[.int .i64 y1, .string y2, .string y3] 24)) (Nat.le_refl _))) (OwnI.reads (FL_92.out.below ((Below.refl w_92.heap.size w_92).alloc (by simp) (.cells #[.int .i64 y1, .string y2, .string y3] 24)) (Nat.le_refl _)))).mono ?_
          rintro e w_93 ⟨vT, rfl, ho, hb⟩
          have hbn : Below w_92.heap.size w_92 w_93 := ((Below.refl w_92.heap.size w_92).alloc (by simp) (.cells #[.int .i64 y1, .string y2, .string y3] 24)).trans (hb.mono (show w_92.heap.size ≤ _ by simp))
          have FA_93 := Lib.hid (FA_92.out.below hbn FA_92.out.lt)
          have FB_93 := Lib.hid (FB_92.out.below hbn FB_92.out.lt)
          have FP_93 := Lib.hid (FP_92.out.below hbn (Nat.le_refl _))
          have FL_93 := Lib.hid (FL_92.out.below hbn (Nat.le_refl _))
          have FM_93 := Lib.hid (FM_92.out.below hbn (Nat.le_refl _))
          have FC_93 := Lib.hid (FC_92.out.below hbn FC_92.out.lt)
          have FD_93 := Lib.hid (FD_92.out.below hb (by simp))
          have AW_93 : Hid (Below w.heap.size w w_93) := AW_92.out.trans (hbn.mono AW_92.out.size)
          clear hbn AW_92 FA_92 FB_92 FP_92 FL_92 FM_92 FC_92 FD_92
          rw [HK2.out]
          clear ho
          clear hb
          go_wp2
          go_ret
          exact ⟨rfl, AW_93.out.trans ((Below.refl w_93.heap.size w_93).mono AW_93.out.size)⟩
        · obtain ⟨K, S1, R1, S2, R2, hz, ⟨x1, x2, x3⟩, ⟨y0, y1, y2, y3⟩, hip⟩ := HF.out.prod hk
          have hc1 := sc_p (n := n) (s := s) (r := r) (m := m) (t := t) (q := q) hs hr ht hq
          have hc2 := sc_p (n := m) (s := t) (r := q) (m := n) (t := s) (q := r) ht hq hs hr
          rw [x1, x2, x3, hk] at hc1
          rw [y1, y2, y3, y0] at hc2
          have HC1 := Lib.hid hc1
          have HC2 := Lib.hid hc2
          have HIP := Lib.hid hip
          have HZ := Lib.hid hz
          clear hc1 hc2 hk x1 x2 x3 y0 y1 y2 y3 hip hz
          obtain ⟨a0, a1, a2⟩ := Box.c FA_90.out
          obtain ⟨b0, b1, b2⟩ := Box.c FB_90.out
          go_wp2_with fail
          clear  a0 a1 a2 b0 b1 b2
          refine ((HC1).out _).mono ?_
          rintro e w_91 ⟨rfl, hb⟩
          have hbn := hb
          have FA_91 := Lib.hid (FA_90.out.below hbn FA_90.out.lt)
          have FB_91 := Lib.hid (FB_90.out.below hbn FB_90.out.lt)
          have FP_91 := Lib.hid (FP_90.out.below hbn (Nat.le_refl _))
          have FL_91 := Lib.hid (FL_90.out.below hbn (Nat.le_refl _))
          have FM_91 := Lib.hid (FM_90.out.below hbn (Nat.le_refl _))
          have AW_91 : Hid (Below w.heap.size w w_91) := AW_90.out.trans (hbn.mono AW_90.out.size)
          clear hbn AW_90 FA_90 FB_90 FP_90 FL_90 FM_90
          clear hb
          have FC_91 : Hid (Box 24 (w_91.alloc (.cells #[.int .i64 K, .string S1, .string R1] 24)) (w_91.heap.size) K S1 R1) := Box.new _ w_91 (w_91.heap.size) (by simp) _ _ _
          obtain ⟨b0, b1, b2⟩ := Box.c (FB_91.out.below ((Below.refl w_91.heap.size w_91).alloc (by simp) (.cells #[.int .i64 K, .string S1, .string R1] 24)) FB_91.out.lt)
          obtain ⟨b_0, b_1, b_2⟩ := Box.c FB_91.out
          have blt := FB_91.out.lt
          obtain ⟨a0, a1, a2⟩ := Box.c (FA_91.out.below ((Below.refl w_91.heap.size w_91).alloc (by simp) (.cells #[.int .i64 K, .string S1, .string R1] 24)) FA_91.out.lt)
          obtain ⟨a_0, a_1, a_2⟩ := Box.c FA_91.out
          have alt := FA_91.out.lt
          go_wp2_with fail
          clear  b0 b1 b2 b_0 b_1 b_2 blt a0 a1 a2 a_0 a_1 a_2 alt
          refine ((HC2).out _).mono ?_
          rintro e w_92 ⟨rfl, hb⟩
          have hbn : Below w_91.heap.size w_91 w_92 := ((Below.refl w_91.heap.size w_91).alloc (by simp) (.cells #[.int .i64 K, .string S1, .string R1] 24)).trans (hb.mono (show w_91.heap.size ≤ _ by simp))
          have FA_92 := Lib.hid (FA_91.out.below hbn FA_91.out.lt)
          have FB_92 := Lib.hid (FB_91.out.below hbn FB_91.out.lt)
          have FP_92 := Lib.hid (FP_91.out.below hbn (Nat.le_refl _))
          have FL_92 := Lib.hid (FL_91.out.below hbn (Nat.le_refl _))
          have FM_92 := Lib.hid (FM_91.out.below hbn (Nat.le_refl _))
          have FC_92 := Lib.hid (FC_91.out.below hb (by simp))
          have AW_92 : Hid (Below w.heap.size w w_92) := AW_91.out.trans (hbn.mono AW_91.out.size)
          clear hbn AW_91 FA_91 FB_91 FP_91 FL_91 FM_91 FC_91
          clear hb
          have FD_92 : Hid (Box 24 (w_92.alloc (.cells #[.int .i64 K, .string S2, .string R2] 24)) (w_92.heap.size) K S2 R2) := Box.new _ w_92 (w_92.heap.size) (by simp) _ _ _
          obtain ⟨a0, a1, a2⟩ := Box.c (FA_92.out.below ((Below.refl w_92.heap.size w_92).alloc (by simp) (.cells #[.int .i64 K, .string S2, .string R2] 24)) FA_92.out.lt)
          obtain ⟨a_0, a_1, a_2⟩ := Box.c FA_92.out
          have alt := FA_92.out.lt
          obtain ⟨b0, b1, b2⟩ := Box.c (FB_92.out.below ((Below.refl w_92.heap.size w_92).alloc (by simp) (.cells #[.int .i64 K, .string S2, .string R2] 24)) FB_92.out.lt)
          obtain ⟨b_0, b_1, b_2⟩ := Box.c FB_92.out
          have blt := FB_92.out.lt
          go_wp2_with fail
          clear  a0 a1 a2 a_0 a_1 a_2 alt b0 b1 b2 b_0 b_1 b_2 blt
          refine (pairL.implE m t q lb n s r la hmw hnw (by omega) (by omega) (by omega) _ _ _ (OwnI.reads (FM_92.out.below ((Below.refl w_92.heap.size w_92).alloc (by simp) (.cells #[.int .i64 K, .string S2, .string R2] 24)) (Nat.le_refl _))) (OwnI.reads (FL_92.out.below ((Below.refl w_92.heap.size w_92).alloc (by simp) (.cells #[.int .i64 K, .string S2, .string R2] 24)) (Nat.le_refl _)))).mono ?_
          rintro e w_93 ⟨vT, rfl, ho, hb⟩
          have hbn : Below w_92.heap.size w_92 w_93 := ((Below.refl w_92.heap.size w_92).alloc (by simp) (.cells #[.int .i64 K, .string S2, .string R2] 24)).trans (hb.mono (show w_92.heap.size ≤ _ by simp))
          have FA_93 := Lib.hid (FA_92.out.below hbn FA_92.out.lt)
          have FB_93 := Lib.hid (FB_92.out.below hbn FB_92.out.lt)
          have FP_93 := Lib.hid (FP_92.out.below hbn (Nat.le_refl _))
          have FL_93 := Lib.hid (FL_92.out.below hbn (Nat.le_refl _))
          have FM_93 := Lib.hid (FM_92.out.below hbn (Nat.le_refl _))
          have FC_93 := Lib.hid (FC_92.out.below hbn FC_92.out.lt)
          have FD_93 := Lib.hid (FD_92.out.below hb (by simp))
          have AW_93 : Hid (Below w.heap.size w w_93) := AW_92.out.trans (hbn.mono AW_92.out.size)
          clear hbn AW_92 FA_92 FB_92 FP_92 FL_92 FM_92 FC_92 FD_92
          rw [HK2.out]
          rw [← HF.out.eT] at ho
          clear hb
          have FT_93 := Lib.hid (ho)
          clear ho
          obtain ⟨c0, c1, c2⟩ := Box.c FC_93.out
          obtain ⟨d0, d1, d2⟩ := Box.c FD_93.out
          go_wp2_with fail
          clear  c0 c1 c2 d0 d1 d2
          refine (implIsPartial_any K S1 R1 _ P K S2 R2 _ Q _ (OwnI.reads FP_93.out) (OwnI.reads FT_93.out) (by have := HF.out.pl; omega) (by have := HF.out.tl; omega) (by have := HZ.out; omega) (by have := HZ.out; omega) (by have := HZ.out; omega) (by have := HZ.out; omega) (fun _ => ⟨own_room FP_93.out, own_room FT_93.out⟩)).mono ?_
          rintro e w_94 ⟨rfl, hb⟩
          have hbn := hb
          have FA_94 := Lib.hid (FA_93.out.below hbn FA_93.out.lt)
          have FB_94 := Lib.hid (FB_93.out.below hbn FB_93.out.lt)
          have FP_94 := Lib.hid (FP_93.out.below hbn (Nat.le_refl _))
          have FL_94 := Lib.hid (FL_93.out.below hbn (Nat.le_refl _))
          have FM_94 := Lib.hid (FM_93.out.below hbn (Nat.le_refl _))
          have FC_94 := Lib.hid (FC_93.out.below hbn FC_93.out.lt)
          have FD_94 := Lib.hid (FD_93.out.below hbn FD_93.out.lt)
          have FT_94 := Lib.hid (FT_93.out.below hbn (Nat.le_refl _))
          have AW_94 : Hid (Below w.heap.size w w_94) := AW_93.out.trans (hbn.mono AW_93.out.size)
          clear hbn AW_93 FA_93 FB_93 FP_93 FL_93 FM_93 FC_93 FD_93 FT_93
          rw [HIP.out]
          clear hb
          go_wp2
          go_ret
          exact ⟨rfl, AW_94.out⟩
end Go.Proofs.YtefneihlgclkbaaDoor.fnPlistW
