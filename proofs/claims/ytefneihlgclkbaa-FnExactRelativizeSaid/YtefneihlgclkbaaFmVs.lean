/- Formulas in the reference: PullBack, ComposeViews, Relativize. -/
import Derived.Test.YtefneihlgclkbaaFmWi
namespace Go.Proofs.Ytefneihlgclkbaa.fmvs
set_option linter.unusedVariables false
set_option linter.unusedSimpArgs false
open Go.ChangeShapes Go.WideShapes Go.ChangeAt Go.RowKit
open Go.Proofs.Ytefneihlgclkbaa.lib Go.Proofs.Ytefneihlgclkbaa.fm Go.Proofs.Ytefneihlgclkbaa.fms Go.Proofs.Ytefneihlgclkbaa.fmp Go.Proofs.Ytefneihlgclkbaa.fmq Go.Proofs.Ytefneihlgclkbaa.fme Go.Proofs.Ytefneihlgclkbaa.fmf Go.Proofs.Ytefneihlgclkbaa.fmk Go.Proofs.Ytefneihlgclkbaa.fml Go.Proofs.Ytefneihlgclkbaa.fmwi

/-- the formula that a text is -/
def fmOf (f : ByteArray) : Option Fm := if fmB f = true then (read f.data.toList).map (·.1) else none
/-- the view of so many variables that a text is -/
def vwOf (f : ByteArray) (k : Nat) : Option Fm := match fmOf f with
  | some a => if a.free >>> k = 0 then some a else none
  | none => none
theorem fmOf_no {f : ByteArray} (h : fmB f = false) : fmOf f = none := by unfold fmOf; rw [h]; rfl
theorem fmOf_yes {f : ByteArray} (h : fmB f = true) : ∃ a, fmOf f = some a ∧ At f 0 a f.size ∧ f.size ≤ 4000 := by
  obtain ⟨h4, a, ha⟩ := fmB_iff.1 h
  refine ⟨a, ?_, ha, h4⟩
  have := ha.2
  rw [List.drop_zero] at this
  unfold fmOf
  rw [if_pos h, this]; rfl
theorem at_fm {f : ByteArray} {a b : Fm} (h : fmOf f = some b) (ha : At f 0 a f.size) : b = a := by
  unfold fmOf at h
  split at h
  · have := ha.2
    rw [List.drop_zero] at this
    rw [this] at h
    cases h; rfl
  · cases h
theorem vw_no {f : ByteArray} {k : Nat} (h : fmOf f = none) : vwOf f k = none := by unfold vwOf; rw [h]
theorem vw_at {f : ByteArray} {k : Nat} {a : Fm} (h : fmOf f = some a) : vwOf f k = if a.free >>> k = 0 then some a else none := by unfold vwOf; rw [h]
theorem vw_some {f : ByteArray} {k : Nat} {s : Fm} (h : vwOf f k = some s) : fmB f = true ∧ At f 0 s f.size ∧ f.size ≤ 4000 ∧ s.free >>> k = 0 := by
  cases hb : fmB f with
  | false => rw [vw_no (fmOf_no hb)] at h; cases h
  | true =>
    obtain ⟨a, h1, h2, h3⟩ := fmOf_yes hb
    rw [vw_at h1] at h
    split at h
    · rename_i hf
      cases h
      exact ⟨rfl, h2, h3, hf⟩
    · cases h
theorem fm_some {f : ByteArray} {a : Fm} (h : fmOf f = some a) : fmB f = true ∧ At f 0 a f.size ∧ f.size ≤ 4000 := by
  cases hb : fmB f with
  | false => rw [fmOf_no hb] at h; cases h
  | true =>
    obtain ⟨b, h1, h2, h3⟩ := fmOf_yes hb
    rw [h1] at h; cases h
    exact ⟨rfl, h2, h3⟩
theorem sh1 : ∀ a : Fin 16, (((a.1 : Nat) : Int) / 2 == 0) = decide (a.1 >>> 1 = 0) := by decide
theorem sh2 : ∀ a : Fin 16, (((a.1 : Nat) : Int) / 4 == 0) = decide (a.1 >>> 2 = 0) := by decide
theorem b_some {α : Type} {p : Prop} [Decidable p] {a : α} : (if p then some a else none).isSome = decide p := by split <;> simp_all
set_option maxHeartbeats 1600000 in
theorem view1_b (f : ByteArray) (w : World) (hs : f.size ≤ 1048576) (b : Bool) (hb : (vwOf f 1).isSome = b) : Calls Try.prog 13 #[.string f, .int .i64 1] w fun e w' => e = .returned (.bool b) ∧ w = w' := by
  cases hv : fmB f with
  | false =>
    obtain rfl : b = false := by rw [← hb, vw_no (fmOf_no hv)]; rfl
    have HV : Hid (fmB f = false) := hv
    clear hv hb
    go_enter Try.func13, Try.ntmps13
    go_wp2_with fail
    refine (FormulaValid_any f _ hs).mono ?_
    rintro eo w1 ⟨rfl, rfl⟩
    rw [HV.out]
    go_wp2
    go_ret
    exact ⟨rfl, rfl⟩
  | true =>
    obtain ⟨a, ha, hat, h4⟩ := fmOf_yes hv
    have HV : Hid (fmB f = true) := hv
    have HAT := Lib.hid hat
    have e := sh1 ⟨a.free, Fm.free_lt hat.ok⟩
    simp only at e
    rw [vw_at ha, b_some] at hb
    rw [hb] at e
    clear hv hb ha hat
    go_enter Try.func13, Try.ntmps13
    go_wp2_with fail
    refine (FormulaValid_any f _ hs).mono ?_
    rintro eo w1 ⟨rfl, rfl⟩
    rw [HV.out]
    go_wp2_with fail
    refine (l2Free_any f hs f.size _ 0 a f.size rfl HAT.out (by omega) _).mono ?_
    rintro eo w1 ⟨rfl, rfl⟩
    go_wp2
    go_ret
    exact ⟨rfl, rfl⟩
set_option maxHeartbeats 1600000 in
theorem view2_b (f : ByteArray) (w : World) (hs : f.size ≤ 1048576) (b : Bool) (hb : (vwOf f 2).isSome = b) : Calls Try.prog 13 #[.string f, .int .i64 2] w fun e w' => e = .returned (.bool b) ∧ w = w' := by
  cases hv : fmB f with
  | false =>
    obtain rfl : b = false := by rw [← hb, vw_no (fmOf_no hv)]; rfl
    have HV : Hid (fmB f = false) := hv
    clear hv hb
    go_enter Try.func13, Try.ntmps13
    go_wp2_with fail
    refine (FormulaValid_any f _ hs).mono ?_
    rintro eo w1 ⟨rfl, rfl⟩
    rw [HV.out]
    go_wp2
    go_ret
    exact ⟨rfl, rfl⟩
  | true =>
    obtain ⟨a, ha, hat, h4⟩ := fmOf_yes hv
    have HV : Hid (fmB f = true) := hv
    have HAT := Lib.hid hat
    have e := sh2 ⟨a.free, Fm.free_lt hat.ok⟩
    simp only at e
    rw [vw_at ha, b_some] at hb
    rw [hb] at e
    clear hv hb ha hat
    go_enter Try.func13, Try.ntmps13
    go_wp2_with fail
    refine (FormulaValid_any f _ hs).mono ?_
    rintro eo w1 ⟨rfl, rfl⟩
    rw [HV.out]
    go_wp2_with fail
    refine (l2Free_any f hs f.size _ 0 a f.size rfl HAT.out (by omega) _).mono ?_
    rintro eo w1 ⟨rfl, rfl⟩
    go_wp2
    go_ret
    exact ⟨rfl, rfl⟩
/-- what PullBack says -/
def pbO (h f g : ByteArray) : Option (List UInt8) := match fmOf h, vwOf f 1, vwOf g 2 with
  | some a, some s, some r => put (some s) (some r) a id
  | _, _, _ => none
theorem pb1 {h f g : ByteArray} (e : fmOf h = none) : pbO h f g = none := by unfold pbO; rw [e]
theorem pb2 {h f g : ByteArray} (e : vwOf f 1 = none) : pbO h f g = none := by unfold pbO; rw [e]; cases fmOf h <;> rfl
theorem pb3 {h f g : ByteArray} (e : vwOf g 2 = none) : pbO h f g = none := by unfold pbO; rw [e]; cases fmOf h <;> cases vwOf f 1 <;> rfl
theorem pb4 {h f g : ByteArray} {a s r : Fm} (e1 : fmOf h = some a) (e2 : vwOf f 1 = some s) (e3 : vwOf g 2 = some r) : pbO h f g = put (some s) (some r) a id := by unfold pbO; rw [e1, e2, e3]
theorem valid_b (f : ByteArray) (w : World) (hs : f.size ≤ 1048576) (b : Bool) (hb : fmB f = b) : Calls Try.prog 12 #[.string f] w fun e w' => e = .returned (.bool b) ∧ w = w' := by
  rw [← hb]; exact FormulaValid_any f w hs
theorem same_any (w : World) : Calls Try.prog 15 #[] w fun e w' => e = .returned (.agg #[.int .i64 (id 0 : Nat), .int .i64 (id 1 : Nat), .int .i64 (id 2 : Nat), .int .i64 (id 3 : Nat)]) ∧ Below w.heap.size w w' := by
  have HB : Hid (Below w.heap.size w (w.alloc (.cells #[.int .i64 0, .int .i64 1, .int .i64 2, .int .i64 3] 35))) := (Below.refl _ _).alloc (Nat.le_refl _) _
  go_enter Try.func15, Try.ntmps15
  go_wp2
  exact bodyPost_ret (v := .agg #[.int .i64 0, .int .i64 1, .int .i64 2, .int .i64 3]) (by simp [results, Try.results15, go_sem]) rfl ⟨rfl, HB.out⟩
theorem full_ne {f : ByteArray} {a : Fm} (h : At f 0 a f.size) : f.toList.isEmpty = false := by
  have h0 := h.lt.1
  rw [ByteArray.toList_eq, ← List.drop_zero (l := f.data.toList), drop_at h0]
  rfl
set_option maxHeartbeats 3200000 in
set_option maxRecDepth 100000 in
theorem PullBack_any (h f g : ByteArray) (w : World) (zh : h.size ≤ 1048576) (zf : f.size ≤ 1048576) (zg : g.size ≤ 1048576) :
    Calls Try.prog 6 #[.string h, .string f, .string g] w fun e w' => e = .returned (.tuple #[.string (resS (pbO h f g)), .bool (resB (pbO h f g))]) ∧ Below w.heap.size w w' := by
  cases hb : fmB h with
  | false =>
    have HE := Lib.hid (pb1 (f := f) (g := g) (fmOf_no hb))
    have HV := Lib.hid (fun W => valid_b h W zh false hb)
    clear hb
    go_enter Try.func6, Try.ntmps6
    go_wp2_with fail
    refine (HV.out _).mono ?_
    rintro eo w1 ⟨rfl, rfl⟩
    go_wp2
    go_ret2
    exact ⟨by rw [HE.out]; rfl, Below.refl _ _⟩
  | true =>
    have HV := Lib.hid (fun W => valid_b h W zh true hb)
    obtain ⟨a, ha, hat, h4⟩ := fmOf_yes hb
    cases hf : vwOf f 1 with
    | none =>
      have HE := Lib.hid (pb2 (h := h) (g := g) hf)
      have HF := Lib.hid (fun W => view1_b f W zf false (by rw [hf]; rfl))
      clear hb hf ha hat h4
      go_enter Try.func6, Try.ntmps6
      go_wp2_with fail
      refine (HV.out _).mono ?_
      rintro eo w1 ⟨rfl, rfl⟩
      go_wp2_with fail
      refine (HF.out _).mono ?_
      rintro eo w1 ⟨rfl, rfl⟩
      go_wp2
      go_ret2
      exact ⟨by rw [HE.out]; rfl, Below.refl _ _⟩
    | some s =>
      have HF := Lib.hid (fun W => view1_b f W zf true (by rw [hf]; rfl))
      cases hg : vwOf g 2 with
      | none =>
        have HE := Lib.hid (pb3 (h := h) (f := f) hg)
        have HG := Lib.hid (fun W => view2_b g W zg false (by rw [hg]; rfl))
        clear hb hf ha hat h4 hg
        go_enter Try.func6, Try.ntmps6
        go_wp2_with fail
        refine (HV.out _).mono ?_
        rintro eo w1 ⟨rfl, rfl⟩
        go_wp2_with fail
        refine (HF.out _).mono ?_
        rintro eo w1 ⟨rfl, rfl⟩
        go_wp2_with fail
        refine (HG.out _).mono ?_
        rintro eo w1 ⟨rfl, rfl⟩
        go_wp2
        go_ret2
        exact ⟨by rw [HE.out]; rfl, Below.refl _ _⟩
      | some r =>
        have HE := Lib.hid (pb4 ha hf hg)
        have HG := Lib.hid (fun W => view2_b g W zg true (by rw [hg]; rfl))
        obtain ⟨_, f2, f3, _⟩ := vw_some hf
        obtain ⟨_, g2, g3, _⟩ := vw_some hg
        have HP : Hid (∀ W, Calls Try.prog 14 #[.string h, .int .i64 0, .agg #[.int .i64 0, .int .i64 1, .int .i64 2, .int .i64 3], .agg #[.string f, .string g]] W (PutP W (put (some s) (some r) a id) h.size (4000 * (h.size - 0)))) := fun W => l11PutV_any h h4 f g s r ⟨f3, full_ne f2, f2⟩ ⟨g3, full_ne g2, g2⟩ 0 a h.size id hat (fun v hv => hv) 0 rfl W
        have H4 := Lib.hid h4
        obtain ⟨o, ho⟩ : ∃ o, o = put (some s) (some r) a id := ⟨_, rfl⟩
        rw [← ho] at HE HP
        clear hb hf ha hat h4 hg f2 f3 g2 g3 ho
        go_enter Try.func6, Try.ntmps6
        go_wp2_with fail
        refine (HV.out _).mono ?_
        rintro eo w1 ⟨rfl, rfl⟩
        go_wp2_with fail
        refine (HF.out _).mono ?_
        rintro eo w1 ⟨rfl, rfl⟩
        go_wp2_with fail
        refine (HG.out _).mono ?_
        rintro eo w1 ⟨rfl, rfl⟩
        go_wp2_with fail
        refine (same_any _).mono ?_
        rintro eo w0 ⟨rfl, hb0⟩
        have HB0 := Lib.hid hb0
        clear hb0
        go_wp2_with fail
        refine (HP.out _).mono ?_
        rintro eo w1 ⟨s1, rfl, ht, hz, hbw⟩
        have HT := Lib.hid ht
        have HZ := Lib.hid hz
        have HBW := Lib.hid (HB0.out.trans (hbw.mono HB0.out.size))
        clear ht hz hbw
        go_wp2_with fail
        refine (l11Result_any s1 o HT.out (by have := HZ.out; have := H4.out; omega) _).mono ?_
        rintro eo w2 ⟨rfl, rfl⟩
        rw [← HE.out]
        go_wp2
        go_ret2
        exact ⟨rfl, HBW.out⟩
/-- what Relativize says -/
def rlO (h f : ByteArray) : Option (List UInt8) := match fmOf h, vwOf f 1 with
  | some a, some s => wi s a
  | _, _ => none
theorem rl1 {h f : ByteArray} (e : fmOf h = none) : rlO h f = none := by unfold rlO; rw [e]
theorem rl2 {h f : ByteArray} (e : vwOf f 1 = none) : rlO h f = none := by unfold rlO; rw [e]; cases fmOf h <;> rfl
theorem rl4 {h f : ByteArray} {a s : Fm} (e1 : fmOf h = some a) (e2 : vwOf f 1 = some s) : rlO h f = wi s a := by unfold rlO; rw [e1, e2]
set_option maxHeartbeats 3200000 in
set_option maxRecDepth 100000 in
theorem Relativize_any (h f : ByteArray) (w : World) (zh : h.size ≤ 1048576) (zf : f.size ≤ 1048576) :
    Calls Try.prog 10 #[.string h, .string f] w fun e w' => e = .returned (.tuple #[.string (resS (rlO h f)), .bool (resB (rlO h f))]) ∧ Below w.heap.size w w' := by
  cases hb : fmB h with
  | false =>
    have HE := Lib.hid (rl1 (f := f) (fmOf_no hb))
    have HV := Lib.hid (fun W => valid_b h W zh false hb)
    clear hb
    go_enter Try.func10, Try.ntmps10
    go_wp2_with fail
    refine (HV.out _).mono ?_
    rintro eo w1 ⟨rfl, rfl⟩
    go_wp2
    go_ret2
    exact ⟨by rw [HE.out]; rfl, Below.refl _ _⟩
  | true =>
    have HV := Lib.hid (fun W => valid_b h W zh true hb)
    obtain ⟨a, ha, hat, h4⟩ := fmOf_yes hb
    cases hf : vwOf f 1 with
    | none =>
      have HE := Lib.hid (rl2 (h := h) hf)
      have HF := Lib.hid (fun W => view1_b f W zf false (by rw [hf]; rfl))
      clear hb hf ha hat h4
      go_enter Try.func10, Try.ntmps10
      go_wp2_with fail
      refine (HV.out _).mono ?_
      rintro eo w1 ⟨rfl, rfl⟩
      go_wp2_with fail
      refine (HF.out _).mono ?_
      rintro eo w1 ⟨rfl, rfl⟩
      go_wp2
      go_ret2
      exact ⟨by rw [HE.out]; rfl, Below.refl _ _⟩
    | some s =>
      have HF := Lib.hid (fun W => view1_b f W zf true (by rw [hf]; rfl))
      have HE := Lib.hid (rl4 ha hf)
      obtain ⟨_, f2, f3, _⟩ := vw_some hf
      have HP : Hid (∀ W, Calls Try.prog 20 #[.string h, .int .i64 0, .string f] W (PutP W (wi s a) h.size (4003 * (h.size - 0)))) := fun W => l11Within_gen h f h4 f3 s f2 h.size 0 0 a h.size rfl hat (by omega) W
      have H4 := Lib.hid h4
      obtain ⟨o, ho⟩ : ∃ o, o = wi s a := ⟨_, rfl⟩
      rw [← ho] at HE HP
      clear hb hf ha hat h4 f2 f3 ho
      go_enter Try.func10, Try.ntmps10
      go_wp2_with fail
      refine (HV.out _).mono ?_
      rintro eo w1 ⟨rfl, rfl⟩
      go_wp2_with fail
      refine (HF.out _).mono ?_
      rintro eo w1 ⟨rfl, rfl⟩
      go_wp2_with fail
      refine (HP.out _).mono ?_
      rintro eo w1 ⟨s1, rfl, ht, hz, hbw⟩
      have HT := Lib.hid ht
      have HZ := Lib.hid hz
      have HBW := Lib.hid hbw
      clear ht hz hbw
      go_wp2_with fail
      refine (l11Result_any s1 o HT.out (by have := HZ.out; have := H4.out; omega) _).mono ?_
      rintro eo w2 ⟨rfl, rfl⟩
      rw [← HE.out]
      go_wp2
      go_ret2
      exact ⟨rfl, HBW.out⟩
/-- what ComposeViews says -/
def cvB (f g f2 g2 : ByteArray) : Bool := (vwOf f2 1).isSome && (vwOf g2 2).isSome && resB (pbO f2 f g) && resB (pbO g2 f g)
def cvS (f g f2 g2 x : ByteArray) : ByteArray := if cvB f g f2 g2 = true then resS (pbO x f g) else ⟨#[]⟩
theorem pull_b (h f g : ByteArray) (w : World) (zh : h.size ≤ 1048576) (zf : f.size ≤ 1048576) (zg : g.size ≤ 1048576) (s : ByteArray) (b : Bool) (hs : resS (pbO h f g) = s) (hb : resB (pbO h f g) = b) :
    Calls Try.prog 6 #[.string h, .string f, .string g] w fun e w' => e = .returned (.tuple #[.string s, .bool b]) ∧ Below w.heap.size w w' := by rw [← hs, ← hb]; exact PullBack_any h f g w zh zf zg
set_option maxHeartbeats 3200000 in
set_option maxRecDepth 100000 in
theorem ComposeViews_any (f g f2 g2 : ByteArray) (w : World) (z0 : f.size ≤ 1048576) (z1 : g.size ≤ 1048576) (z2 : f2.size ≤ 1048576) (z3 : g2.size ≤ 1048576) :
    Calls Try.prog 8 #[.string f, .string g, .string f2, .string g2] w fun e w' => e = .returned (.tuple #[.string (cvS f g f2 g2 f2), .string (cvS f g f2 g2 g2), .bool (cvB f g f2 g2)]) ∧ Below w.heap.size w w' := by
  cases h1 : (vwOf f2 1).isSome with
  | false =>
    have HE : Hid (cvB f g f2 g2 = false ∧ cvS f g f2 g2 f2 = ⟨#[]⟩ ∧ cvS f g f2 g2 g2 = ⟨#[]⟩) := by
      have e : cvB f g f2 g2 = false := by unfold cvB; rw [h1]; simp
      exact ⟨e, by unfold cvS; rw [e]; rfl, by unfold cvS; rw [e]; rfl⟩
    have HF := Lib.hid (fun W => view1_b f2 W z2 false h1)
    clear h1
    go_enter Try.func8, Try.ntmps8
    go_wp2_with fail
    refine (HF.out _).mono ?_
    rintro eo w1 ⟨rfl, rfl⟩
    go_wp2
    go_ret3
    exact ⟨by rw [HE.out.1, HE.out.2.1, HE.out.2.2]; rfl, Below.refl _ _⟩
  | true =>
    have HF := Lib.hid (fun W => view1_b f2 W z2 true h1)
    cases h2 : (vwOf g2 2).isSome with
    | false =>
      have HE : Hid (cvB f g f2 g2 = false ∧ cvS f g f2 g2 f2 = ⟨#[]⟩ ∧ cvS f g f2 g2 g2 = ⟨#[]⟩) := by
        have e : cvB f g f2 g2 = false := by unfold cvB; rw [h2]; simp
        exact ⟨e, by unfold cvS; rw [e]; rfl, by unfold cvS; rw [e]; rfl⟩
      have HG := Lib.hid (fun W => view2_b g2 W z3 false h2)
      clear h1 h2
      go_enter Try.func8, Try.ntmps8
      go_wp2_with fail
      refine (HF.out _).mono ?_
      rintro eo w1 ⟨rfl, rfl⟩
      go_wp2_with fail
      refine (HG.out _).mono ?_
      rintro eo w1 ⟨rfl, rfl⟩
      go_wp2
      go_ret3
      exact ⟨by rw [HE.out.1, HE.out.2.1, HE.out.2.2]; rfl, Below.refl _ _⟩
    | true =>
      have HG := Lib.hid (fun W => view2_b g2 W z3 true h2)
      obtain ⟨s1, hs1⟩ : ∃ s, resS (pbO f2 f g) = s := ⟨_, rfl⟩
      obtain ⟨s2, hs2⟩ : ∃ s, resS (pbO g2 f g) = s := ⟨_, rfl⟩
      cases b1 : resB (pbO f2 f g) with
      | false =>
        have HE : Hid (cvB f g f2 g2 = false ∧ cvS f g f2 g2 f2 = ⟨#[]⟩ ∧ cvS f g f2 g2 g2 = ⟨#[]⟩) := by
          have e : cvB f g f2 g2 = false := by unfold cvB; rw [b1]; simp
          exact ⟨e, by unfold cvS; rw [e]; rfl, by unfold cvS; rw [e]; rfl⟩
        have HP1 := Lib.hid (fun W => pull_b f2 f g W z2 z0 z1 s1 false hs1 b1)
        obtain ⟨b2, hb2⟩ : ∃ b, resB (pbO g2 f g) = b := ⟨_, rfl⟩
        have HP2 := Lib.hid (fun W => pull_b g2 f g W z3 z0 z1 s2 b2 hs2 hb2)
        clear h1 h2 b1 hs1 hs2 hb2
        go_enter Try.func8, Try.ntmps8
        go_wp2_with fail
        refine (HF.out _).mono ?_
        rintro eo w1 ⟨rfl, rfl⟩
        go_wp2_with fail
        refine (HG.out _).mono ?_
        rintro eo w1 ⟨rfl, rfl⟩
        go_wp2_with fail
        refine (HP1.out _).mono ?_
        rintro eo w1 ⟨rfl, hb1⟩
        have HB1 := Lib.hid hb1
        clear hb1
        go_wp2_with fail
        refine (HP2.out _).mono ?_
        rintro eo w2 ⟨rfl, hb2⟩
        have HB2 := Lib.hid (HB1.out.trans (hb2.mono HB1.out.size))
        clear hb2
        go_wp2
        go_ret3
        exact ⟨by rw [HE.out.1, HE.out.2.1, HE.out.2.2]; rfl, HB2.out⟩
      | true =>
        have HP1 := Lib.hid (fun W => pull_b f2 f g W z2 z0 z1 s1 true hs1 b1)
        cases b2 : resB (pbO g2 f g) with
        | false =>
          have HE : Hid (cvB f g f2 g2 = false ∧ cvS f g f2 g2 f2 = ⟨#[]⟩ ∧ cvS f g f2 g2 g2 = ⟨#[]⟩) := by
            have e : cvB f g f2 g2 = false := by unfold cvB; rw [b2]; simp
            exact ⟨e, by unfold cvS; rw [e]; rfl, by unfold cvS; rw [e]; rfl⟩
          have HP2 := Lib.hid (fun W => pull_b g2 f g W z3 z0 z1 s2 false hs2 b2)
          clear h1 h2 b1 b2 hs1 hs2
          go_enter Try.func8, Try.ntmps8
          go_wp2_with fail
          refine (HF.out _).mono ?_
          rintro eo w1 ⟨rfl, rfl⟩
          go_wp2_with fail
          refine (HG.out _).mono ?_
          rintro eo w1 ⟨rfl, rfl⟩
          go_wp2_with fail
          refine (HP1.out _).mono ?_
          rintro eo w1 ⟨rfl, hb1⟩
          have HB1 := Lib.hid hb1
          clear hb1
          go_wp2_with fail
          refine (HP2.out _).mono ?_
          rintro eo w2 ⟨rfl, hb2⟩
          have HB2 := Lib.hid (HB1.out.trans (hb2.mono HB1.out.size))
          clear hb2
          go_wp2
          go_ret3
          exact ⟨by rw [HE.out.1, HE.out.2.1, HE.out.2.2]; rfl, HB2.out⟩
        | true =>
          have HE : Hid (cvB f g f2 g2 = true ∧ cvS f g f2 g2 f2 = s1 ∧ cvS f g f2 g2 g2 = s2) := by
            have e : cvB f g f2 g2 = true := by unfold cvB; rw [h1, h2, b1, b2]; rfl
            exact ⟨e, by unfold cvS; rw [if_pos e, hs1], by unfold cvS; rw [if_pos e, hs2]⟩
          have HP2 := Lib.hid (fun W => pull_b g2 f g W z3 z0 z1 s2 true hs2 b2)
          clear h1 h2 b1 b2 hs1 hs2
          go_enter Try.func8, Try.ntmps8
          go_wp2_with fail
          refine (HF.out _).mono ?_
          rintro eo w1 ⟨rfl, rfl⟩
          go_wp2_with fail
          refine (HG.out _).mono ?_
          rintro eo w1 ⟨rfl, rfl⟩
          go_wp2_with fail
          refine (HP1.out _).mono ?_
          rintro eo w1 ⟨rfl, hb1⟩
          have HB1 := Lib.hid hb1
          clear hb1
          go_wp2_with fail
          refine (HP2.out _).mono ?_
          rintro eo w2 ⟨rfl, hb2⟩
          have HB2 := Lib.hid (HB1.out.trans (hb2.mono HB1.out.size))
          clear hb2
          go_wp2
          go_ret3
          exact ⟨by rw [HE.out.1, HE.out.2.1, HE.out.2.2]; rfl, HB2.out⟩
end Go.Proofs.Ytefneihlgclkbaa.fmvs
