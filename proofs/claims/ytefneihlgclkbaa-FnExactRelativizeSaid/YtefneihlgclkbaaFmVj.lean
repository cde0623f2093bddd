/- Formulas in the program: PullBack, ComposeViews. -/
import Derived.Test.YtefneihlgclkbaaFmVi
namespace Go.Proofs.Ytefneihlgclkbaa.fmvj
set_option linter.unusedVariables false
set_option linter.unusedSimpArgs false
open Go.ChangeShapes Go.WideShapes Go.ChangeAt Go.RowKit
open Go.Proofs.Ytefneihlgclkbaa.lib Go.Proofs.Ytefneihlgclkbaa.fm Go.Proofs.Ytefneihlgclkbaa.fmp Go.Proofs.Ytefneihlgclkbaa.fmq Go.Proofs.Ytefneihlgclkbaa.fmt Go.Proofs.Ytefneihlgclkbaa.fmx Go.Proofs.Ytefneihlgclkbaa.fmo Go.Proofs.Ytefneihlgclkbaa.fmpz Go.Proofs.Ytefneihlgclkbaa.fmzz Go.Proofs.Ytefneihlgclkbaa.fml Go.Proofs.Ytefneihlgclkbaa.fmvs Go.Proofs.Ytefneihlgclkbaa.fmvi

theorem fm_b {f : ByteArray} (hf : fmOf f = none) : fmB f = false := by
  cases h : fmB f with
  | false => rfl
  | true => obtain ⟨a, h1, _⟩ := fmOf_yes h; rw [h1] at hf; cases hf
theorem vw_fm {f : ByteArray} {k : Nat} {s : Fm} (h : vwOf f k = some s) : fmOf f = some s ∧ s.free >>> k = 0 := by
  unfold vwOf at h
  cases hf : fmOf f with
  | none => rw [hf] at h; cases h
  | some a =>
    rw [hf] at h
    simp only at h
    split at h
    · rename_i hk; cases h; exact ⟨rfl, hk⟩
    · cases h
/-- viewOf where one is missing -/
theorem viewOf_no (f g : ByteArray) (w : World) (h : vwOf f 1 = none ∨ vwOf g 2 = none) : Calls Try.prog 17 #[.string f, .string g] w fun e w' => e = .returned (.tuple #[.pointer none, .pointer none, .bool false]) ∧ Below w.heap.size w w' :=
  (viewOf_any f g w).mono fun e w' ⟨p, q, b, he, hb, hm⟩ => by
    have : b = false ∧ p = .pointer none ∧ q = .pointer none := by
      rcases h with h | h
      · rw [h] at hm; exact hm
      · rw [h] at hm
        revert hm
        cases vwOf f 1 <;> exact fun hm => hm
    obtain ⟨rfl, rfl, rfl⟩ := this
    exact ⟨he, hb⟩
theorem viewOf_yes (f g : ByteArray) (w : World) (s r : Fm) (hs : vwOf f 1 = some s) (hr : vwOf g 2 = some r) : Calls Try.prog 17 #[.string f, .string g] w fun e w' => ∃ Hs Hr, e = .returned (.tuple #[.pointer (some ⟨Hs, 0, none⟩), .pointer (some ⟨Hr, 0, none⟩), .bool true]) ∧ Below w.heap.size w w' ∧ Ok w' s Hs ∧ Ok w' r Hr :=
  (viewOf_any f g w).mono fun e w' ⟨p, q, b, he, hb, hm⟩ => by
    rw [hs, hr] at hm
    obtain ⟨rfl, Hs, Hr, rfl, rfl, h1, h2⟩ := hm
    exact ⟨Hs, Hr, he, hb, ok_of (vw_fm hs).1 h1, ok_of (vw_fm hr).1 h2⟩
set_option maxHeartbeats 3200000 in
set_option maxRecDepth 100000 in
theorem implPullBack_any (h f g : ByteArray) (w : World) :
    Calls Try.prog 7 #[.string h, .string f, .string g] w fun e w' => e = .returned (.tuple #[.string (resS (pbO h f g)), .bool (resB (pbO h f g))]) ∧ Below w.heap.size w w' := by
  by_cases hv : vwOf f 1 = none ∨ vwOf g 2 = none
  · have HE : Hid (pbO h f g = none) := by
      rcases hv with hv | hv
      · exact pb2 hv
      · exact pb3 hv
    have HV := Lib.hid (fun W => viewOf_no f g W hv)
    clear hv
    go_enter Try.func7, Try.ntmps7
    go_wp2_with fail
    refine (HV.out _).mono ?_
    rintro eo w1 ⟨rfl, hb1⟩
    have HB1 := Lib.hid hb1
    clear hb1
    go_wp2_with fail
    refine (parseFormula_any h _).mono ?_
    rintro eo w2 ⟨q, rfl, hb2, hq⟩
    have HB2 := Lib.hid (HB1.out.trans (hb2.mono HB1.out.size))
    clear hq hb2
    go_wp2
    go_ret2
    exact ⟨by rw [HE.out]; rfl, HB2.out⟩
  · obtain ⟨s, hs⟩ : ∃ s, vwOf f 1 = some s := by
      cases h1 : vwOf f 1 with
      | none => exact absurd (.inl h1) hv
      | some s => exact ⟨s, rfl⟩
    obtain ⟨r, hr⟩ : ∃ r, vwOf g 2 = some r := by
      cases h1 : vwOf g 2 with
      | none => exact absurd (.inr h1) hv
      | some s => exact ⟨s, rfl⟩
    have HV := Lib.hid (fun W => viewOf_yes f g W s r hs hr)
    cases hf : fmOf h with
    | none =>
      have HE := Lib.hid (pb1 (f := f) (g := g) hf)
      have HF := Lib.hid (fm_b hf)
      clear hf hv hs hr
      go_enter Try.func7, Try.ntmps7
      go_wp2_with fail
      refine (HV.out _).mono ?_
      rintro eo w1 ⟨Hs, Hr, rfl, hb1, h1, h2⟩
      have HB1 := Lib.hid hb1
      clear hb1 h1 h2
      go_wp2_with fail
      refine (parseFormula_any h _).mono ?_
      rintro eo w2 ⟨q, rfl, hb2, hq⟩
      obtain rfl := parse_no (w := w) HF.out hq
      have HB2 := Lib.hid (HB1.out.trans (hb2.mono HB1.out.size))
      clear hq hb2
      go_wp2
      go_ret2
      exact ⟨by rw [HE.out]; rfl, HB2.out⟩
    | some a =>
      have HE := Lib.hid (pb4 hf hs hr)
      have HF := Lib.hid hf
      have HFS := Lib.hid (show _ ∧ _ from ⟨(vw_fm hs).2, (vw_fm hr).2⟩)
      obtain ⟨o, ho⟩ : ∃ o, put (some s) (some r) a id = o := ⟨_, rfl⟩
      rw [ho] at HE
      have HO := Lib.hid ho
      clear hf hv hs hr ho
      go_enter Try.func7, Try.ntmps7
      go_wp2_with fail
      refine (HV.out _).mono ?_
      rintro eo w1 ⟨Hs, Hr, rfl, hb1, h1, h2⟩
      have HB1 := Lib.hid hb1
      have H12 := Lib.hid (show _ ∧ _ from ⟨h1, h2⟩)
      clear hb1 h1 h2
      go_wp2_with fail
      refine (parseFormula_any h _).mono ?_
      rintro eo w2 ⟨q, rfl, hb2, hq⟩
      obtain ⟨N, rfl, ht⟩ := parse_yes HF.out hq
      have HB2 := Lib.hid (HB1.out.trans (hb2.mono HB1.out.size))
      have HP := Lib.hid (pullBack_any a s r N Hs Hr w2 (ok_of HF.out ht) (H12.out.1.below hb2) (H12.out.2.below hb2) HFS.out.1 HFS.out.2 o HO.out)
      clear hq hb2 ht
      go_wp2_with fail
      refine HP.out.mono ?_
      rintro eo w3 ⟨rfl, hb3⟩
      have HB3 := Lib.hid (HB2.out.trans (hb3.mono HB2.out.size))
      clear hb3
      rw [← HE.out]
      go_wp2
      go_ret2
      exact ⟨rfl, HB3.out⟩
theorem resB_put {o : Option (List UInt8)} {b : Bool} (h : resB o = b) : True := trivial
set_option maxHeartbeats 3200000 in
set_option maxRecDepth 100000 in
theorem implCompose_any (f g f2 g2 : ByteArray) (w : World) :
    Calls Try.prog 9 #[.string f, .string g, .string f2, .string g2] w fun e w' => e = .returned (.tuple #[.string (cvS f g f2 g2 f2), .string (cvS f g f2 g2 g2), .bool (cvB f g f2 g2)]) ∧ Below w.heap.size w w' := by
  have lose : cvB f g f2 g2 = false → cvS f g f2 g2 f2 = ⟨#[]⟩ ∧ cvS f g f2 g2 g2 = ⟨#[]⟩ := fun e => ⟨by unfold cvS; rw [e]; rfl, by unfold cvS; rw [e]; rfl⟩
  by_cases hv : vwOf f 1 = none ∨ vwOf g 2 = none
  · have e : cvB f g f2 g2 = false := by
      have h0 : pbO f2 f g = none := by
        rcases hv with hv | hv
        · exact pb2 hv
        · exact pb3 hv
      unfold cvB; rw [h0]; simp [resB]
    have HE := Lib.hid (show _ ∧ _ from ⟨e, lose e⟩)
    have HV := Lib.hid (fun W => viewOf_no f g W hv)
    clear hv e lose
    go_enter Try.func9, Try.ntmps9
    go_wp2_with fail
    refine (HV.out _).mono ?_
    rintro eo w1 ⟨rfl, hb1⟩
    have HB1 := Lib.hid hb1
    clear hb1
    go_wp2_with fail
    refine (viewOf_any f2 g2 _).mono ?_
    rintro eo w2 ⟨p, q, b, rfl, hb2, hq⟩
    have HB2 := Lib.hid (HB1.out.trans (hb2.mono HB1.out.size))
    clear hq hb2
    go_wp2
    go_ret3
    exact ⟨by rw [HE.out.1, HE.out.2.1, HE.out.2.2]; rfl, HB2.out⟩
  · obtain ⟨s, hs⟩ : ∃ s, vwOf f 1 = some s := by
      cases h1 : vwOf f 1 with
      | none => exact absurd (.inl h1) hv
      | some s => exact ⟨s, rfl⟩
    obtain ⟨r, hr⟩ : ∃ r, vwOf g 2 = some r := by
      cases h1 : vwOf g 2 with
      | none => exact absurd (.inr h1) hv
      | some s => exact ⟨s, rfl⟩
    have HV := Lib.hid (fun W => viewOf_yes f g W s r hs hr)
    by_cases hv2 : vwOf f2 1 = none ∨ vwOf g2 2 = none
    · have e : cvB f g f2 g2 = false := by
        unfold cvB
        rcases hv2 with hv2 | hv2
        · rw [hv2]; simp
        · rw [hv2]; simp
      have HE := Lib.hid (show _ ∧ _ from ⟨e, lose e⟩)
      have HV2 := Lib.hid (fun W => viewOf_no f2 g2 W hv2)
      clear hv hv2 e lose hs hr
      go_enter Try.func9, Try.ntmps9
      go_wp2_with fail
      refine (HV.out _).mono ?_
      rintro eo w1 ⟨Hs, Hr, rfl, hb1, h1, h2⟩
      have HB1 := Lib.hid hb1
      clear hb1 h1 h2
      go_wp2_with fail
      refine (HV2.out _).mono ?_
      rintro eo w2 ⟨rfl, hb2⟩
      have HB2 := Lib.hid (HB1.out.trans (hb2.mono HB1.out.size))
      clear hb2
      go_wp2
      go_ret3
      exact ⟨by rw [HE.out.1, HE.out.2.1, HE.out.2.2]; rfl, HB2.out⟩
    · obtain ⟨a, ha⟩ : ∃ s, vwOf f2 1 = some s := by
        cases h1 : vwOf f2 1 with
        | none => exact absurd (.inl h1) hv2
        | some s => exact ⟨s, rfl⟩
      obtain ⟨b, hb⟩ : ∃ r, vwOf g2 2 = some r := by
        cases h1 : vwOf g2 2 with
        | none => exact absurd (.inr h1) hv2
        | some s => exact ⟨s, rfl⟩
      have HV2 := Lib.hid (fun W => viewOf_yes f2 g2 W a b ha hb)
      have e1 := pb4 (vw_fm ha).1 hs hr
      have e2 := pb4 (vw_fm hb).1 hs hr
      obtain ⟨o1, ho1⟩ : ∃ o, put (some s) (some r) a id = o := ⟨_, rfl⟩
      obtain ⟨o2, ho2⟩ : ∃ o, put (some s) (some r) b id = o := ⟨_, rfl⟩
      rw [ho1] at e1
      rw [ho2] at e2
      have HC : Hid (cvB f g f2 g2 = (resB o1 && resB o2)) := by unfold Hid cvB; rw [ha, hb, e1, e2]; simp
      have HC1 : Hid (cvB f g f2 g2 = true → cvS f g f2 g2 f2 = resS o1 ∧ cvS f g f2 g2 g2 = resS o2) := fun e => ⟨by unfold cvS; rw [if_pos e, e1], by unfold cvS; rw [if_pos e, e2]⟩
      have HL := Lib.hid lose
      have HFS := Lib.hid (show _ ∧ _ from ⟨(vw_fm hs).2, (vw_fm hr).2⟩)
      have HO := Lib.hid (show _ ∧ _ from ⟨ho1, ho2⟩)
      obtain ⟨s1, hs1⟩ : ∃ x, resS o1 = x := ⟨_, rfl⟩
      obtain ⟨s2, hs2⟩ : ∃ x, resS o2 = x := ⟨_, rfl⟩
      obtain ⟨b1, hb1⟩ : ∃ x, resB o1 = x := ⟨_, rfl⟩
      obtain ⟨b2, hb2⟩ : ∃ x, resB o2 = x := ⟨_, rfl⟩
      have HR := Lib.hid (show _ ∧ _ ∧ _ ∧ _ from ⟨hs1, hs2, hb1, hb2⟩)
      rw [hb1, hb2] at HC
      rw [hs1, hs2] at HC1
      clear hv hv2 lose hs hr ha hb e1 e2 ho1 ho2 hs1 hs2 hb1 hb2
      go_enter Try.func9, Try.ntmps9
      go_wp2_with fail
      refine (HV.out _).mono ?_
      rintro eo w1 ⟨Hs, Hr, rfl, hb1, h1, h2⟩
      have HB1 := Lib.hid hb1
      have H12 := Lib.hid (show _ ∧ _ from ⟨h1, h2⟩)
      clear hb1 h1 h2
      go_wp2_with fail
      refine (HV2.out _).mono ?_
      rintro eo w2 ⟨Ha, Hb, rfl, hb2, h3, h4⟩
      have HB2 := Lib.hid (HB1.out.trans (hb2.mono HB1.out.size))
      have H14 := Lib.hid (show _ ∧ _ ∧ _ ∧ _ from ⟨H12.out.1.below hb2, H12.out.2.below hb2, h3, h4⟩)
      clear hb2 h3 h4
      go_wp2_with fail
      refine (pullBack_any a s r Ha Hs Hr w2 H14.out.2.2.1 H14.out.1 H14.out.2.1 HFS.out.1 HFS.out.2 o1 HO.out.1).mono ?_
      rintro eo w3 ⟨rfl, hb3⟩
      rw [HR.out.1, HR.out.2.2.1]
      have HB3 := Lib.hid (HB2.out.trans (hb3.mono HB2.out.size))
      have H24 := Lib.hid (show _ ∧ _ ∧ _ from ⟨H14.out.1.below hb3, H14.out.2.1.below hb3, H14.out.2.2.2.below hb3⟩)
      clear hb3
      go_wp2_with fail
      refine (pullBack_any b s r Hb Hs Hr w3 H24.out.2.2 H24.out.1 H24.out.2.1 HFS.out.1 HFS.out.2 o2 HO.out.2).mono ?_
      rintro eo w4 ⟨rfl, hb4⟩
      rw [HR.out.2.1, HR.out.2.2.2]
      have HB4 := Lib.hid (HB3.out.trans (hb4.mono HB3.out.size))
      clear hb4
      cases b1 with
      | false =>
        have HE : Hid (cvB f g f2 g2 = false) := by rw [Hid, HC.out]; rfl
        go_wp2
        go_ret3
        exact ⟨by rw [HE.out, (HL.out HE.out).1, (HL.out HE.out).2]; rfl, HB4.out⟩
      | true =>
        cases b2 with
        | false =>
          have HE : Hid (cvB f g f2 g2 = false) := by rw [Hid, HC.out]; rfl
          go_wp2
          go_ret3
          exact ⟨by rw [HE.out, (HL.out HE.out).1, (HL.out HE.out).2]; rfl, HB4.out⟩
        | true =>
          have HE : Hid (cvB f g f2 g2 = true) := by rw [Hid, HC.out]; rfl
          go_wp2
          go_ret3
          exact ⟨by rw [HE.out, (HC1.out HE.out).1, (HC1.out HE.out).2]; rfl, HB4.out⟩
end Go.Proofs.Ytefneihlgclkbaa.fmvj
