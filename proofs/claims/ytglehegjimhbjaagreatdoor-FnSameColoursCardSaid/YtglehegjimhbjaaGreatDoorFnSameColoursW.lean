/- FnSameColours: the walk. -/
import Derived.Test.YtglehegjimhbjaaGreatDoorDrawP
import Derived.Test.YtglehegjimhbjaaGreatDoorColR
import Derived.Test.YtglehegjimhbjaaGreatDoorShape
import Derived.Test.YtglehegjimhbjaaGreatDoorRow
namespace Go.Proofs.YtglehegjimhbjaaGreatDoor.fnSameColoursW
set_option linter.unusedVariables false
set_option linter.unusedSimpArgs false
open Go.ChangeShapes Go.WideShapes Go.ChangeAt Go.RowKit
open Go.Proofs.YtglehegjimhbjaaGreatDoor.flow Go.Proofs.YtglehegjimhbjaaGreatDoor.lib Go.Proofs.YtglehegjimhbjaaGreatDoor.st Go.Proofs.YtglehegjimhbjaaGreatDoor.draw Go.Proofs.YtglehegjimhbjaaGreatDoor.base Go.Proofs.YtglehegjimhbjaaGreatDoor.chain Go.Proofs.YtglehegjimhbjaaGreatDoor.col Go.Proofs.YtglehegjimhbjaaGreatDoor.colp Go.Proofs.YtglehegjimhbjaaGreatDoor.both Go.Proofs.YtglehegjimhbjaaGreatDoor.specd Go.Proofs.YtglehegjimhbjaaGreatDoor.coli Go.Proofs.YtglehegjimhbjaaGreatDoor.colj Go.Proofs.YtglehegjimhbjaaGreatDoor.cole Go.Proofs.YtglehegjimhbjaaGreatDoor.colq Go.Proofs.YtglehegjimhbjaaGreatDoor.less Go.Proofs.YtglehegjimhbjaaGreatDoor.drawp Go.Proofs.YtglehegjimhbjaaGreatDoor.shape Go.Proofs.YtglehegjimhbjaaGreatDoor.colr
/-- bytes that came in may be drawn from -/
theorem byt_of_row {w : World} {a : Option Addr} {n c : Nat} {zs : List Int} (h : row.IsRow .u8 w a n c zs) : Byt w w.heap.size a n ∧ n ≤ c ∧ c ≤ 9223372036854775807 := by
  rcases h with ⟨rfl, rfl, rfl, rfl⟩ | ⟨x, rfl, hl, hm, hz, hcell, hwf⟩
  · exact ⟨.inl rfl, Nat.le_refl _, by omega⟩
  · refine ⟨?_, hl, hm⟩
    by_cases h0 : n = 0
    · exact .inl h0
    · obtain ⟨b, off, spot⟩ := x
      have hc := hcell 0 (by omega)
      have hspot : spot = none := by simpa [Addr.add] using World.cell?_spot hc
      subst hspot
      have hlt := World.block_lt_of_cell? w _ hc
      refine .inr ⟨b, off, rfl, by simpa [Addr.add] using hlt, fun i hi => ?_⟩
      have hci := hcell i (by omega)
      have hw := hwf (zs.getD i 0) (by rw [List.getD_eq_getElem?_getD, List.getElem?_eq_getElem (by omega)]; exact List.getElem_mem _)
      have hb : 0 ≤ zs.getD i 0 ∧ zs.getD i 0 ≤ 255 := by
        generalize zs.getD i 0 = z at hw ⊢
        simp only [Lit.wf, IntKind.min, IntKind.max, IntKind.signed, IntKind.bits, Bool.and_eq_true, decide_eq_true_eq] at hw
        simp at hw
        omega
      refine ⟨(zs.getD i 0).toNat, by omega, ?_⟩
      rw [show (⟨b, off, none⟩ : Addr).add i = ⟨b, off + i, none⟩ from by simp only [Addr.add]; split <;> simp [*]] at hci
      rw [hci, show (((zs.getD i 0).toNat : Nat) : Int) = zs.getD i 0 from by omega]

/-- what holds of the numbers below c -/
def Inv (P Q : List Int) (c : Nat) (sa : Bool) : Prop := (sa = true → P.length = Q.length ∧ ∀ d : Nat, d < c → P.count (d : Int) = Q.count (d : Int)) ∧ (sa = false → ¬ P.Perm Q)
theorem Inv.zero (P Q : List Int) {z : Bool} (h : ((P.length : Int) == (Q.length : Int)) = z) : Inv P Q 0 z := by
  subst h
  refine ⟨fun h => ⟨by have := beq_iff_eq.1 h; omega, fun d hd => by omega⟩, fun h hp => ?_⟩
  rw [hp.length_eq] at h; simp at h
theorem Inv.step {P Q : List Int} {c l r : Nat} {z : Bool} (h : Inv P Q c true) (hl : l = P.count (c : Int)) (hr : r = Q.count (c : Int)) (hz : ((l : Int) == (r : Int)) = z) : Inv P Q (c + 1) z := by
  subst hz
  obtain ⟨h1, h2⟩ := h.1 rfl
  refine ⟨fun e => ⟨h1, fun d hd => ?_⟩, fun e hp => ?_⟩
  · have := beq_iff_eq.1 e
    by_cases hdc : d < c
    · exact h2 d hdc
    · obtain rfl : d = c := by omega
      omega
  · have := hp.count_eq (c : Int)
    rw [hl, hr, this] at e; simp at e
theorem Inv.out {P Q : List Int} {c : Nat} {sa : Bool} (h : Inv P Q c sa) (hp : ∀ x, x ∈ P → 0 ≤ x ∧ x < 16) (hq : ∀ x, x ∈ Q → 0 ≤ x ∧ x < 16) (hc : sa = true → 16 ≤ c) : P.Perm Q ↔ sa = true := by
  refine ⟨fun h' => ?_, fun e => perm_counts hp hq fun d hd => (h.1 e).2 d (by have := hc e; omega)⟩
  cases sa
  · exact absurd h' (h.2 rfl)
  · rfl

set_option maxHeartbeats 40000000 in
set_option maxRecDepth 100000 in
theorem walk (a0 : Option Addr) (n0 c0 : Nat) (l0 : List Int) (w : World) (h0 : row.IsRow .u8 w a0 n0 c0 l0) :
    Calls Tryz.prog 7 #[.slice a0 n0 c0] w fun e w' => e = .returned (.bool true) ∧ Below w.heap.size w w' := by
  obtain ⟨by0, nc0, cm0⟩ := byt_of_row h0
  have BY0 := Lib.hid by0
  clear by0 h0
  by_cases hg0 : 1048576 < n0
  · go_enter Tryz.func7, Tryz.ntmps7
    go_wp2
    go_ret
    exact ⟨rfl, Below.refl _ _⟩
  go_enter Tryz.func7, Tryz.ntmps7
  have AW_0 : Hid (Below w.heap.size w w) := Below.refl _ _
  go_wp2_with fail
  refine (drawSame_any a0 n0 c0 _ BY0.out nc0 cm0).mono ?_
  rintro e w_1 ⟨n, s, r, m, t, q, rfl, hnw, hs, hr, hmw, ht, hq, hb⟩
  have hbn := hb
  have AW_1 : Hid (Below w.heap.size w w_1) := AW_0.out.trans (hbn.mono AW_0.out.size)
  clear hbn AW_0 
  have FA_1 : Hid (Box 24 (w_1.alloc (.cells #[.int .i64 n, .string s, .string r] 24)) (w_1.heap.size) n s r) := Box.new _ w_1 (w_1.heap.size) (by simp) _ _ _
  have FA_1 := Lib.hid (FA_1.out.below ((Below.refl (w_1.heap.size + 1) _).alloc (by simp) (.cells #[.int .i64 m, .string t, .string q] 24)) (by omega))
  have FB_1 : Hid (Box 24 ((w_1.alloc (.cells #[.int .i64 n, .string s, .string r] 24)).alloc (.cells #[.int .i64 m, .string t, .string q] 24)) (w_1.heap.size + 1) m t q) := Box.new _ (w_1.alloc (.cells #[.int .i64 n, .string s, .string r] 24)) (w_1.heap.size + 1) (by simp) _ _ _
  obtain ⟨a0, a1, a2⟩ := Box.c FA_1.out
  obtain ⟨b0, b1, b2⟩ := Box.c FB_1.out
  clear hb hnw hmw
  obtain ⟨is, his⟩ : ∃ z, z = sameR n s r m t q := ⟨_, rfl⟩
  obtain ⟨rn, hrn⟩ : ∃ z, z = roundR n s r m t q := ⟨_, rfl⟩
  have HK := Lib.hid (show _ ∧ _ from ⟨his, hrn⟩)
  clear his hrn
  go_wp2_with fail
  clear a0 a1 a2 b0 b1 b2
  refine (implSameColours_any n s r m t q _ (by omega) (by omega) (by omega) (by omega)).mono ?_
  rintro e w_2 ⟨rfl, hb⟩
  have hbn : Below w_1.heap.size w_1 w_2 := (((Below.refl w_1.heap.size w_1).alloc (by simp) (.cells #[.int .i64 n, .string s, .string r] 24)).alloc (by simp) (.cells #[.int .i64 m, .string t, .string q] 24)).trans (hb.mono (by simp <;> omega))
  have FA_2 := Lib.hid (FA_1.out.below hb (by simp <;> omega))
  have FB_2 := Lib.hid (FB_1.out.below hb (by simp <;> omega))
  have AW_2 : Hid (Below w.heap.size w w_2) := AW_1.out.trans (hbn.mono AW_1.out.size)
  clear hbn AW_1 FA_1 FB_1
  rw [← HK.out.1]
  clear hb
  obtain ⟨a0, a1, a2⟩ := Box.c FA_2.out
  obtain ⟨b0, b1, b2⟩ := Box.c FB_2.out
  go_wp2_with fail
  clear a0 a1 a2 b0 b1 b2
  refine (implColourRound_any n s r m t q _ (by omega) (by omega) (by omega) (by omega)).mono ?_
  rintro e w_3 ⟨rfl, hb⟩
  have hbn := hb
  have FA_3 := Lib.hid (FA_2.out.below hbn FA_2.out.lt)
  have FB_3 := Lib.hid (FB_2.out.below hbn FB_2.out.lt)
  have AW_3 : Hid (Below w.heap.size w w_3) := AW_2.out.trans (hbn.mono AW_2.out.size)
  clear hbn AW_2 FA_2 FB_2
  rw [← HK.out.2]
  clear hb
  obtain ⟨a0, a1, a2⟩ := Box.c FA_3.out
  obtain ⟨b0, b1, b2⟩ := Box.c FB_3.out
  have tI : (is == is) = true := by simp
  have tN : (rn == rn) = true := by simp
  go_wp2_with fail
  clear a0 a1 a2 b0 b1 b2
  refine (specSameColours_any n s r m t q _ (by omega) (by omega) (by omega) (by omega)).mono ?_
  rintro e w_4 ⟨rfl, hb⟩
  have hbn := hb
  have FA_4 := Lib.hid (FA_3.out.below hbn FA_3.out.lt)
  have FB_4 := Lib.hid (FB_3.out.below hbn FB_3.out.lt)
  have AW_4 : Hid (Below w.heap.size w w_4) := AW_3.out.trans (hbn.mono AW_3.out.size)
  clear hbn AW_3 FA_3 FB_3
  rw [← HK.out.1]
  clear hb
  obtain ⟨a0, a1, a2⟩ := Box.c FA_4.out
  obtain ⟨b0, b1, b2⟩ := Box.c FB_4.out
  go_wp2_with fail
  clear a0 a1 a2 b0 b1 b2
  refine (specColourRound_any n s r m t q _ (by omega) (by omega) (by omega) (by omega)).mono ?_
  rintro e w_5 ⟨rfl, hb⟩
  have hbn := hb
  have FA_5 := Lib.hid (FA_4.out.below hbn FA_4.out.lt)
  have FB_5 := Lib.hid (FB_4.out.below hbn FB_4.out.lt)
  have AW_5 : Hid (Below w.heap.size w w_5) := AW_4.out.trans (hbn.mono AW_4.out.size)
  clear hbn AW_4 FA_4 FB_4
  rw [← HK.out.2]
  clear hb
  obtain ⟨a0, a1, a2⟩ := Box.c FA_5.out
  obtain ⟨b0, b1, b2⟩ := Box.c FB_5.out
  by_cases hv : validB n s r = true ∧ validB m t q = true
  rotate_left
  · have hi1 : is = false := by rw [HK.out.1]; exact (invalid hv).1
    have hi2 : rn = -2 := by rw [HK.out.2]; exact (invalid hv).2
    clear hv
    have t0 : (rn == -2) = true := by rw [hi2]; rfl
    have t1 : decide (-2 < rn) = false := by rw [hi2]; rfl
    clear hi2
    go_wp2_with fail
    clear a0 a1 a2 b0 b1 b2
    refine (specSameColours_any n s r m t q _ (by omega) (by omega) (by omega) (by omega)).mono ?_
    rintro e w_6 ⟨rfl, hb⟩
    have hbn := hb
    have FA_6 := Lib.hid (FA_5.out.below hbn FA_5.out.lt)
    have FB_6 := Lib.hid (FB_5.out.below hbn FB_5.out.lt)
    have AW_6 : Hid (Below w.heap.size w w_6) := AW_5.out.trans (hbn.mono AW_5.out.size)
    clear hbn AW_5 FA_5 FB_5
    rw [← HK.out.1]
    clear hb
    obtain ⟨a0, a1, a2⟩ := Box.c FA_6.out
    obtain ⟨b0, b1, b2⟩ := Box.c FB_6.out
    go_wp2_with fail
    clear a0 a1 a2 b0 b1 b2
    refine (specColourRound_any n s r m t q _ (by omega) (by omega) (by omega) (by omega)).mono ?_
    rintro e w_7 ⟨rfl, hb⟩
    have hbn := hb
    have FA_7 := Lib.hid (FA_6.out.below hbn FA_6.out.lt)
    have FB_7 := Lib.hid (FB_6.out.below hbn FB_6.out.lt)
    have AW_7 : Hid (Below w.heap.size w w_7) := AW_6.out.trans (hbn.mono AW_6.out.size)
    clear hbn AW_6 FA_6 FB_6
    rw [← HK.out.2]
    clear hb
    obtain ⟨a0, a1, a2⟩ := Box.c FA_7.out
    obtain ⟨b0, b1, b2⟩ := Box.c FB_7.out
    go_wp2
    go_ret
    exact ⟨rfl, AW_7.out⟩
  obtain ⟨N, M, rfl, rfl, hf⟩ := fact hv.1 hv.2
  rw [← HK.out.1, ← HK.out.2] at hf
  have HF := Lib.hid hf
  have hN1 := hf.n.1
  have hN8 := hf.n.2
  have hM1 := hf.m.1
  have hM8 := hf.m.2
  have hr1 := hf.rn1
  have t0 : (rn == -2) = false := by simp; omega
  clear hf hv
  go_wp2_with fail
  clear a0 a1 a2 b0 b1 b2
  go_loopw [7] (fun i wr => ∃ k : Nat, k ≤ 9 ∧ i = .int .i64 k ∧ Below w.heap.size w wr ∧ Box 24 wr w_1.heap.size N s r ∧ Box 24 wr (w_1.heap.size + 1) M t q) (fun i _ => 9 - (intOf i).toNat)
  case atStart => exact ⟨0, Nat.zero_le _, rfl, AW_5.out, FA_5.out, FB_5.out⟩
  case round =>
    clear AW_5 FA_5 FB_5
    obtain ⟨k, hk9, rfl, hst⟩ := hrel
    have AW_90 := Lib.hid hst.1
    have FA_90 := Lib.hid hst.2.1
    have FB_90 := Lib.hid hst.2.2
    clear hst
    obtain ⟨a0, a1, a2⟩ := Box.c FA_90.out
    obtain ⟨b0, b1, b2⟩ := Box.c FB_90.out
    by_cases hk : k < 9
    · have tk : decide ((k : Int) ≤ 8) = true := by simp; omega
      go_wp2_with fail
      clear a0 a1 a2 b0 b1 b2
      refine (implBothColours_any N s r M t q k _ (by omega) (by omega) (by omega) (by omega)).mono ?_
      rintro e w_91 ⟨vp, vq, rfl, ⟨ho1, ho2, -⟩, hb⟩
      have hbn := hb
      have FA_91 := Lib.hid (FA_90.out.below hbn FA_90.out.lt)
      have FB_91 := Lib.hid (FB_90.out.below hbn FB_90.out.lt)
      have AW_91 : Hid (Below w.heap.size w w_91) := AW_90.out.trans (hbn.mono AW_90.out.size)
      clear hbn AW_90 FA_90 FB_90
      obtain ⟨P, hP⟩ : ∃ P, P = bothA N s r M t q k := ⟨_, rfl⟩
      obtain ⟨Q, hQ⟩ : ∃ Q, Q = bothB N s r M t q k := ⟨_, rfl⟩
      rw [← hP] at ho1
      rw [← hQ] at ho2
      have FP_91 := Lib.hid (ho1)
      have FQ_91 := Lib.hid (ho2)
      clear ho1 ho2 hb
      have hl := HF.out.pl k (by omega)
      have hbd := HF.out.bd k (by omega)
      have hrk := HF.out.rk k (by omega)
      rw [← hP, ← hQ] at hl hbd hrk
      have HL := Lib.hid hl
      have HBD := Lib.hid hbd
      have HRK := Lib.hid hrk
      clear hl hbd hrk hP hQ
      obtain ⟨gp, cp, hv⟩ : ∃ gp cp, vp = .slice (some ⟨gp, 0, none⟩) N cp := by
        rcases FP_91.out.shape with ⟨_, h2⟩ | ⟨g, cap, hv⟩
        · have := HL.out.1; rw [h2] at this; simp at this; omega
        · exact ⟨g, cap, by rw [hv, HL.out.1]⟩
      subst hv
      obtain ⟨gq, cq, hv⟩ : ∃ gq cq, vq = .slice (some ⟨gq, 0, none⟩) M cq := by
        rcases FQ_91.out.shape with ⟨_, h2⟩ | ⟨g, cap, hv⟩
        · have := HL.out.2; rw [h2] at this; simp at this; omega
        · exact ⟨g, cap, by rw [hv, HL.out.2]⟩
      subst hv
      obtain ⟨sm, hsm⟩ : ∃ z : Bool, ((N : Int) == (M : Int)) = z := ⟨_, rfl⟩
      have I0 : Hid (Inv P Q 0 sm) := Inv.zero P Q (by rw [HL.out.1, HL.out.2]; exact hsm)
      go_wp2_with fail
      clear hsm
      go_loop [10, 11] (fun sv iv => ∃ (c : Nat) (sa : Bool), c ≤ 16 ∧ iv = .int .i64 c ∧ sv = .bool sa ∧ Hid (Inv P Q c sa)) (fun _ i => 16 - (intOf i).toNat)
      case atStart => exact ⟨0, sm, by omega, rfl, rfl, I0⟩
      case round =>
        clear I0
        obtain ⟨c, sa, hc16, rfl, rfl, IC⟩ := hrel
        by_cases hgo : sa = true ∧ c < 16
        · obtain ⟨rfl, hc⟩ := hgo
          have tc : decide ((c : Int) < 16) = true := by simp; omega
          go_wp2_with fail
          go_loop [12, 14] (fun lv xv => ∃ x e : Nat, x ≤ N ∧ e ≤ x ∧ xv = .int .i64 x ∧ lv = .int .i64 e ∧ Hid (e = cnt P c x)) (fun _ i => N - (intOf i).toNat)
          case atStart => exact ⟨0, 0, Nat.zero_le _, Nat.le_refl _, rfl, rfl, by rw [Hid, cnt_zero]⟩
          case round =>
            obtain ⟨x, lp, hxN, hex, rfl, rfl, HC⟩ := hrel
            by_cases hx : x < N
            · have tx : decide ((x : Int) < (N : Int)) = true := by simp; omega
              have ck := FP_91.out.cell x (by have := HL.out.1; omega)
              obtain ⟨y, hy⟩ : ∃ y, y = P.getD x 0 := ⟨_, rfl⟩
              have HY := Lib.hid hy
              rw [← hy] at ck
              clear hy
              by_cases hyc : y = (c : Int)
              · have ty : (y == (c : Int)) = true := by simpa using hyc
                have HS : Hid (lp + 1 = cnt P c (x + 1)) := by rw [Hid, HC.out]; exact (cnt_yes (by have := HL.out.1; omega) (HY.out ▸ hyc)).symm
                clear hyc
                go_wp2
                go_round
                case rel => exact ⟨x + 1, lp + 1, by omega, by omega, by go_num, by go_num, HS⟩
                case measure => simp [intOf]; omega
              · have ty : (y == (c : Int)) = false := by simpa using hyc
                have HS : Hid (lp = cnt P c (x + 1)) := by rw [Hid, HC.out]; exact (cnt_no (by have := HL.out.1; omega) (HY.out ▸ hyc)).symm
                clear hyc
                go_wp2
                go_round
                case rel => exact ⟨x + 1, lp, by omega, by omega, by go_num, rfl, HS⟩
                case measure => simp [intOf]; omega
            · obtain rfl : N = x := by omega
              have HLP : Hid (lp = P.count (c : Int)) := by
                have := HC.out
                rw [← HL.out.1] at this
                rw [Hid, this]; exact cnt_full P c
              have hlp8 : lp ≤ 8 := by omega
              clear HC hex hxN hx
              go_wp2_with fail
              go_loop [13, 15] (fun lv xv => ∃ x e : Nat, x ≤ M ∧ e ≤ x ∧ xv = .int .i64 x ∧ lv = .int .i64 e ∧ Hid (e = cnt Q c x)) (fun _ i => M - (intOf i).toNat)
              case atStart => exact ⟨0, 0, Nat.zero_le _, Nat.le_refl _, rfl, rfl, by rw [Hid, cnt_zero]⟩
              case round =>
                obtain ⟨x, lq, hxN, hex, rfl, rfl, HC⟩ := hrel
                by_cases hx : x < M
                · have tx : decide ((x : Int) < (M : Int)) = true := by simp; omega
                  have ck := FQ_91.out.cell x (by have := HL.out.2; omega)
                  obtain ⟨y, hy⟩ : ∃ y, y = Q.getD x 0 := ⟨_, rfl⟩
                  have HY := Lib.hid hy
                  rw [← hy] at ck
                  clear hy
                  by_cases hyc : y = (c : Int)
                  · have ty : (y == (c : Int)) = true := by simpa using hyc
                    have HS : Hid (lq + 1 = cnt Q c (x + 1)) := by rw [Hid, HC.out]; exact (cnt_yes (by have := HL.out.2; omega) (HY.out ▸ hyc)).symm
                    clear hyc
                    go_wp2
                    go_round
                    case rel => exact ⟨x + 1, lq + 1, by omega, by omega, by go_num, by go_num, HS⟩
                    case measure => simp [intOf]; omega
                  · have ty : (y == (c : Int)) = false := by simpa using hyc
                    have HS : Hid (lq = cnt Q c (x + 1)) := by rw [Hid, HC.out]; exact (cnt_no (by have := HL.out.2; omega) (HY.out ▸ hyc)).symm
                    clear hyc
                    go_wp2
                    go_round
                    case rel => exact ⟨x + 1, lq, by omega, by omega, by go_num, rfl, HS⟩
                    case measure => simp [intOf]; omega
                · obtain rfl : M = x := by omega
                  have HLQ : Hid (lq = Q.count (c : Int)) := by
                    have := HC.out
                    rw [← HL.out.2] at this
                    rw [Hid, this]; exact cnt_full Q c
                  obtain ⟨z, hz⟩ : ∃ z : Bool, ((lp : Int) == (lq : Int)) = z := ⟨_, rfl⟩
                  have I1 : Hid (Inv P Q (c + 1) z) := IC.out.step HLP.out HLQ.out hz
                  go_wp2
                  go_round
                  case rel => exact ⟨c + 1, z, by omega, by go_num, rfl, I1⟩
                  case measure => simp [intOf]; omega
        · have HPM : Hid (P.Perm Q ↔ sa = true) := IC.out.out HBD.out.1 HBD.out.2 (fun h => Nat.le_of_not_lt fun h' => hgo ⟨h, h'⟩)
          have hsa := HPM.out.symm.trans HRK.out
          obtain ⟨zc, tc⟩ : ∃ z : Bool, decide ((c : Int) < 16) = z := ⟨_, rfl⟩
          have hgo2 : (zc && sa) = false := by
            rw [← tc]
            cases sa
            · simp
            · have : ¬ c < 16 := fun h => hgo ⟨rfl, h⟩
              simp; omega
          obtain ⟨zA, hA⟩ : ∃ z : Bool, (rn == -1) = z := ⟨_, rfl⟩
          obtain ⟨zB, hB⟩ : ∃ z : Bool, decide ((k : Int) < rn) = z := ⟨_, rfl⟩
          have hs2 : sa = (zA || zB) := by rw [← hA, ← hB]; exact Bool.eq_iff_iff.2 (by simpa using hsa)
          clear hsa hgo HPM IC HRK HBD HL
          cases zc
          · cases zA
            · cases zB
              all_goals
                subst hs2; clear hgo2; go_wp2
                go_roundw
                case rel => exact ⟨k + 1, by omega, by go_num, AW_91.out, FA_91.out, FB_91.out⟩
                case measure => simp [intOf]; omega
            · skip
              subst hs2; clear hgo2; go_wp2
              go_roundw
              case rel => exact ⟨k + 1, by omega, by go_num, AW_91.out, FA_91.out, FB_91.out⟩
              case measure => simp [intOf]; omega
          · have hsf : sa = false := by simpa using hgo2
            subst hsf
            cases zA
            · cases zB
              · skip
                clear hgo2 hs2; go_wp2
                go_roundw
                case rel => exact ⟨k + 1, by omega, by go_num, AW_91.out, FA_91.out, FB_91.out⟩
                case measure => simp [intOf]; omega
              · cases hs2
            · cases hs2

    · obtain rfl : 9 = k := by omega
      go_wp2_with fail
      clear a0 a1 a2 b0 b1 b2
      refine (implSameShape_any N s r M t q _ (by omega) (by omega) (by omega) (by omega)).mono ?_
      rintro e w_91 ⟨vo, rfl, hb⟩
      have hbn := hb
      have FA_91 := Lib.hid (FA_90.out.below hbn FA_90.out.lt)
      have FB_91 := Lib.hid (FB_90.out.below hbn FB_90.out.lt)
      have AW_91 : Hid (Below w.heap.size w w_91) := AW_90.out.trans (hbn.mono AW_90.out.size)
      clear hbn AW_90 FA_90 FB_90
      clear hb
      obtain ⟨a0, a1, a2⟩ := Box.c FA_91.out
      obtain ⟨b0, b1, b2⟩ := Box.c FB_91.out
      obtain ⟨sh, hsh⟩ : ∃ z, z = shpR N s r M t q := ⟨_, rfl⟩
      have hs1 := HF.out.sh
      rw [← hsh] at hs1 ⊢
      clear hsh
      obtain ⟨zA, hA⟩ : ∃ z : Bool, (rn == -1) = z := ⟨_, rfl⟩
      have hiz : is = zA := by rw [HF.out.is1, ← hA]; rfl
      subst hiz
      have hs2 : (!sh || is) = true := by cases sh <;> simp_all
      have HSH := Lib.hid hs1
      clear hs1
      cases sh
      · go_wp2_with fail
        clear a0 a1 a2 b0 b1 b2
        refine (implSameColours_any M t q N s r _ (by omega) (by omega) (by omega) (by omega)).mono ?_
        rintro e w_92 ⟨rfl, hb⟩
        have hbn := hb
        have FA_92 := Lib.hid (FA_91.out.below hbn FA_91.out.lt)
        have FB_92 := Lib.hid (FB_91.out.below hbn FB_91.out.lt)
        have AW_92 : Hid (Below w.heap.size w w_92) := AW_91.out.trans (hbn.mono AW_91.out.size)
        clear hbn AW_91 FA_91 FB_91
        rw [HF.out.sw]
        clear hb
        obtain ⟨a0, a1, a2⟩ := Box.c FA_92.out
        obtain ⟨b0, b1, b2⟩ := Box.c FB_92.out
        go_wp2_with fail
        clear a0 a1 a2 b0 b1 b2
        refine (implSameColours_any N s r N s r _ (by omega) (by omega) (by omega) (by omega)).mono ?_
        rintro e w_93 ⟨rfl, hb⟩
        have hbn := hb
        have FA_93 := Lib.hid (FA_92.out.below hbn FA_92.out.lt)
        have FB_93 := Lib.hid (FB_92.out.below hbn FB_92.out.lt)
        have AW_93 : Hid (Below w.heap.size w w_93) := AW_92.out.trans (hbn.mono AW_92.out.size)
        clear hbn AW_92 FA_92 FB_92
        rw [HF.out.se]
        clear hb
        go_wp2
        go_ret
        exact ⟨rfl, AW_93.out⟩
      · have hi2 : is = true := HSH.out rfl
        subst hi2
        go_wp2_with fail
        clear a0 a1 a2 b0 b1 b2
        refine (implSameColours_any M t q N s r _ (by omega) (by omega) (by omega) (by omega)).mono ?_
        rintro e w_92 ⟨rfl, hb⟩
        have hbn := hb
        have FA_92 := Lib.hid (FA_91.out.below hbn FA_91.out.lt)
        have FB_92 := Lib.hid (FB_91.out.below hbn FB_91.out.lt)
        have AW_92 : Hid (Below w.heap.size w w_92) := AW_91.out.trans (hbn.mono AW_91.out.size)
        clear hbn AW_91 FA_91 FB_91
        rw [HF.out.sw]
        clear hb
        obtain ⟨a0, a1, a2⟩ := Box.c FA_92.out
        obtain ⟨b0, b1, b2⟩ := Box.c FB_92.out
        go_wp2_with fail
        clear a0 a1 a2 b0 b1 b2
        refine (implSameColours_any N s r N s r _ (by omega) (by omega) (by omega) (by omega)).mono ?_
        rintro e w_93 ⟨rfl, hb⟩
        have hbn := hb
        have FA_93 := Lib.hid (FA_92.out.below hbn FA_92.out.lt)
        have FB_93 := Lib.hid (FB_92.out.below hbn FB_92.out.lt)
        have AW_93 : Hid (Below w.heap.size w w_93) := AW_92.out.trans (hbn.mono AW_92.out.size)
        clear hbn AW_92 FA_92 FB_92
        rw [HF.out.se]
        clear hb
        go_wp2
        go_ret
        exact ⟨rfl, AW_93.out⟩
end Go.Proofs.YtglehegjimhbjaaGreatDoor.fnSameColoursW
