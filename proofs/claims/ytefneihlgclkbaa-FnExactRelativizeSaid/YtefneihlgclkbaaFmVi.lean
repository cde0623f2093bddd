/- Formulas in the program: viewOf, pullBack, PullBack, ComposeViews. -/
import Derived.Test.YtefneihlgclkbaaFmPz
import Derived.Test.YtefneihlgclkbaaFmZz
import Derived.Test.YtefneihlgclkbaaFmVs
import Derived.Laws.Cover3
import Derived.Lib.SlBytesConst
namespace Go.Proofs.Ytefneihlgclkbaa.fmvi
set_option linter.unusedVariables false
set_option linter.unusedSimpArgs false
open Go.ChangeShapes Go.WideShapes Go.ChangeAt Go.RowKit
open Go.Proofs.Ytefneihlgclkbaa.lib Go.Proofs.Ytefneihlgclkbaa.fm Go.Proofs.Ytefneihlgclkbaa.fmp Go.Proofs.Ytefneihlgclkbaa.fmq Go.Proofs.Ytefneihlgclkbaa.fmt Go.Proofs.Ytefneihlgclkbaa.fmx Go.Proofs.Ytefneihlgclkbaa.fmo Go.Proofs.Ytefneihlgclkbaa.fmpz Go.Proofs.Ytefneihlgclkbaa.fmzz Go.Proofs.Ytefneihlgclkbaa.fml Go.Proofs.Ytefneihlgclkbaa.fmvs

/-- what viewOf returns -/
def ViewP (w : World) (f g : ByteArray) (e : Ending) (w' : World) : Prop :=
  ∃ (p q : Value) (b : Bool), e = .returned (.tuple #[p, q, .bool b]) ∧ Below w.heap.size w w' ∧ match vwOf f 1, vwOf g 2 with
    | some s, some r => b = true ∧ ∃ Hs Hr, p = .pointer (some ⟨Hs, 0, none⟩) ∧ q = .pointer (some ⟨Hr, 0, none⟩) ∧ Tree 49 w' s Hs ∧ Tree 49 w' r Hr
    | _, _ => b = false ∧ p = .pointer none ∧ q = .pointer none
theorem view_no {w w' : World} {f g : ByteArray} (h : vwOf f 1 = none ∨ vwOf g 2 = none) (hb : Below w.heap.size w w') : ViewP w f g (.returned (.tuple #[.pointer none, .pointer none, .bool false])) w' := by
  refine ⟨_, _, _, rfl, hb, ?_⟩
  rcases h with h | h
  · rw [h]; exact ⟨rfl, rfl, rfl⟩
  · rw [h]; cases vwOf f 1 <;> exact ⟨rfl, rfl, rfl⟩
theorem parse_no {f : ByteArray} {w w' : World} {p : Value} (hf : fmB f = false) (h : (fmB f = false ∧ p = .pointer none) ∨ fmB f = true ∧ ∃ a H, At f 0 a f.size ∧ p = .pointer (some ⟨H, 0, none⟩) ∧ Tree 49 w' a H) : p = .pointer none := by
  rcases h with ⟨_, h⟩ | ⟨h, _⟩
  · exact h
  · rw [hf] at h; cases h
theorem parse_yes {f : ByteArray} {w' : World} {p : Value} {a : Fm} (ha : fmOf f = some a) (h : (fmB f = false ∧ p = .pointer none) ∨ fmB f = true ∧ ∃ a H, At f 0 a f.size ∧ p = .pointer (some ⟨H, 0, none⟩) ∧ Tree 49 w' a H) : ∃ H, p = .pointer (some ⟨H, 0, none⟩) ∧ Tree 49 w' a H := by
  obtain ⟨h1, h2, _⟩ := fm_some ha
  rcases h with ⟨h, _⟩ | ⟨_, b, H, hb, hp, ht⟩
  · rw [h1] at h; cases h
  · have := at_fm ha hb
    subst this
    exact ⟨H, hp, ht⟩
theorem free_cell {w : World} {a : Fm} {H : Nat} (h : Tree 49 w a H) : w.cell? ⟨H, 3, none⟩ = some (.int .i64 (a.free : Nat)) := by
  obtain ⟨op, vs, ps, hn⟩ := h.free
  obtain ⟨_, _, _, _, _, _, _, h3, _⟩ := hn.cells
  exact h3
set_option maxHeartbeats 3200000 in
set_option maxRecDepth 100000 in
theorem viewOf_any (f g : ByteArray) (w : World) : Calls Try.prog 17 #[.string f, .string g] w (ViewP w f g) := by
  cases hf : fmOf f with
  | none =>
    have hf0 : fmB f = false := by
      cases h : fmB f with
      | false => rfl
      | true => obtain ⟨a, h1, _⟩ := fmOf_yes h; rw [h1] at hf; cases hf
    have HE := Lib.hid (vw_no (k := 1) hf)
    have HF := Lib.hid hf0
    clear hf hf0
    go_enter Try.func17, Try.ntmps17
    go_wp2_with fail
    refine (parseFormula_any f _).mono ?_
    rintro eo w1 ⟨p, rfl, hb1, hp⟩
    obtain rfl := parse_no (w := w) HF.out hp
    have HB1 := Lib.hid hb1
    clear hp hb1
    go_wp2_with fail
    refine (parseFormula_any g _).mono ?_
    rintro eo w2 ⟨q, rfl, hb2, hq⟩
    have HB2 := Lib.hid (HB1.out.trans (hb2.mono HB1.out.size))
    clear hq hb2
    go_wp2
    go_ret3
    exact view_no (.inl HE.out) HB2.out
  | some a =>
    have HFA := Lib.hid hf
    obtain ⟨hf1, hfat, _⟩ := fm_some hf
    have hv1 := vw_at (k := 1) hf
    cases hg : fmOf g with
    | none =>
      have hg0 : fmB g = false := by
        cases h : fmB g with
        | false => rfl
        | true => obtain ⟨b, h1, _⟩ := fmOf_yes h; rw [h1] at hg; cases hg
      have HE := Lib.hid (vw_no (k := 2) hg)
      have HG := Lib.hid hg0
      clear hf hf1 hfat hg hg0 hv1
      go_enter Try.func17, Try.ntmps17
      go_wp2_with fail
      refine (parseFormula_any f _).mono ?_
      rintro eo w1 ⟨p, rfl, hb1, hp⟩
      obtain ⟨H, rfl, ht⟩ := parse_yes HFA.out hp
      have HB1 := Lib.hid hb1
      clear hp hb1 ht
      go_wp2_with fail
      refine (parseFormula_any g _).mono ?_
      rintro eo w2 ⟨q, rfl, hb2, hq⟩
      obtain rfl := parse_no (w := w) HG.out hq
      have HB2 := Lib.hid (HB1.out.trans (hb2.mono HB1.out.size))
      clear hq hb2
      go_wp2
      go_ret3
      exact view_no (.inr HE.out) HB2.out
    | some b =>
      have HGA := Lib.hid hg
      obtain ⟨hg1, hgat, _⟩ := fm_some hg
      have hv2 := vw_at (k := 2) hg
      have s1 := sh1 ⟨a.free, Fm.free_lt hfat.ok⟩
      have s2 := sh2 ⟨b.free, Fm.free_lt hgat.ok⟩
      simp only at s1 s2
      cases d1 : decide (a.free >>> 1 = 0) with
      | false =>
        rw [d1] at s1
        have s3 : (((a.free : Nat) : Int) / 2 != 0) = true := by rw [bne, s1]; rfl
        have HE : Hid (vwOf f 1 = none) := by rw [Hid, hv1, if_neg (of_decide_eq_false d1)]
        clear hf hf1 hfat hg hg1 hgat hv1 hv2 s2 d1
        go_enter Try.func17, Try.ntmps17
        go_wp2_with fail
        refine (parseFormula_any f _).mono ?_
        rintro eo w1 ⟨p, rfl, hb1, hp⟩
        obtain ⟨H, rfl, ht⟩ := parse_yes HFA.out hp
        have HB1 := Lib.hid hb1
        have HT1 := Lib.hid ht
        clear hp hb1 ht
        go_wp2_with fail
        refine (parseFormula_any g _).mono ?_
        rintro eo w2 ⟨q, rfl, hb2, hq⟩
        obtain ⟨H2, rfl, ht2⟩ := parse_yes HGA.out hq
        have HB2 := Lib.hid (HB1.out.trans (hb2.mono HB1.out.size))
        have c3 := free_cell (HT1.out.below hb2 (Nat.le_refl _))
        clear hq hb2 ht2
        go_wp2
        go_ret3
        exact view_no (.inl HE.out) HB2.out
      | true =>
        rw [d1] at s1
        have s3 : (((a.free : Nat) : Int) / 2 != 0) = false := by rw [bne, s1]; rfl
        cases d2 : decide (b.free >>> 2 = 0) with
        | false =>
          rw [d2] at s2
          have s4 : (((b.free : Nat) : Int) / 4 != 0) = true := by rw [bne, s2]; rfl
          have HE : Hid (vwOf g 2 = none) := by rw [Hid, hv2, if_neg (of_decide_eq_false d2)]
          clear hf hf1 hfat hg hg1 hgat hv1 hv2 d1 d2
          go_enter Try.func17, Try.ntmps17
          go_wp2_with fail
          refine (parseFormula_any f _).mono ?_
          rintro eo w1 ⟨p, rfl, hb1, hp⟩
          obtain ⟨H, rfl, ht⟩ := parse_yes HFA.out hp
          have HB1 := Lib.hid hb1
          have HT1 := Lib.hid ht
          clear hp hb1 ht
          go_wp2_with fail
          refine (parseFormula_any g _).mono ?_
          rintro eo w2 ⟨q, rfl, hb2, hq⟩
          obtain ⟨H2, rfl, ht2⟩ := parse_yes HGA.out hq
          have HB2 := Lib.hid (HB1.out.trans (hb2.mono HB1.out.size))
          have c3 := free_cell (HT1.out.below hb2 (Nat.le_refl _))
          have c4 := free_cell ht2
          clear hq hb2 ht2
          go_wp2
          go_ret3
          exact view_no (.inr HE.out) HB2.out
        | true =>
          rw [d2] at s2
          have s4 : (((b.free : Nat) : Int) / 4 != 0) = false := by rw [bne, s2]; rfl
          have HE : Hid (vwOf f 1 = some a ∧ vwOf g 2 = some b) := ⟨by rw [hv1, if_pos (of_decide_eq_true d1)], by rw [hv2, if_pos (of_decide_eq_true d2)]⟩
          clear hf hf1 hfat hg hg1 hgat hv1 hv2 d1 d2
          go_enter Try.func17, Try.ntmps17
          go_wp2_with fail
          refine (parseFormula_any f _).mono ?_
          rintro eo w1 ⟨p, rfl, hb1, hp⟩
          obtain ⟨H, rfl, ht⟩ := parse_yes HFA.out hp
          have HB1 := Lib.hid hb1
          have HT1 := Lib.hid ht
          clear hp hb1 ht
          go_wp2_with fail
          refine (parseFormula_any g _).mono ?_
          rintro eo w2 ⟨q, rfl, hb2, hq⟩
          obtain ⟨H2, rfl, ht2⟩ := parse_yes HGA.out hq
          have HB2 := Lib.hid (HB1.out.trans (hb2.mono HB1.out.size))
          have HT2 := Lib.hid (show _ ∧ _ from ⟨HT1.out.below hb2 (Nat.le_refl _), ht2⟩)
          have c3 := free_cell HT2.out.1
          have c4 := free_cell HT2.out.2
          clear hq hb2 ht2
          go_wp2
          go_ret3
          refine ⟨_, _, _, rfl, HB2.out, ?_⟩
          rw [HE.out.1, HE.out.2]
          exact ⟨rfl, H, H2, rfl, rfl, HT2.out.1, HT2.out.2⟩
theorem res_short (o : Option (List UInt8)) : if o.isSome = true ∧ (optS o).size ≤ 4000 then resS o = optS o ∧ resB o = true else resS o = ⟨#[]⟩ ∧ resB o = false := by
  cases o with
  | none => rw [if_neg (fun h => by cases h.1)]; exact ⟨rfl, rfl⟩
  | some t =>
    have e : (optS (some t)).size = t.length := by show t.toArray.size = _; simp
    rw [e]
    by_cases h : t.length ≤ 4000
    · rw [if_pos ⟨rfl, h⟩]; unfold resS resB; simp only; rw [if_pos h]; exact ⟨rfl, decide_eq_true h⟩
    · rw [if_neg (fun x => h x.2)]; unfold resS resB; simp only; rw [if_neg h]; exact ⟨rfl, decide_eq_false h⟩
/-- what is asked of a tree -/
def Ok (w : World) (a : Fm) (H : Nat) : Prop := Tree 49 w a H ∧ a.txt.length ≤ 4000 ∧ a.ok
theorem Ok.below {w w' : World} {a : Fm} {H : Nat} (h : Ok w a H) (hb : Below w.heap.size w w') : Ok w' a H := ⟨h.1.below hb (Nat.le_refl _), h.2⟩
theorem ok_of {w : World} {f : ByteArray} {a : Fm} {H : Nat} (ha : fmOf f = some a) (ht : Tree 49 w a H) : Ok w a H := by
  obtain ⟨_, h1, h2⟩ := fm_some ha
  obtain ⟨h3, h4⟩ := len_of h1
  exact ⟨ht, by omega, h4⟩
set_option maxHeartbeats 3200000 in
set_option maxRecDepth 100000 in
theorem pullBack_any (a s r : Fm) (N Hs Hr : Nat) (w : World) (ha : Ok w a N) (hs : Ok w s Hs) (hr : Ok w r Hr) (fs : s.free >>> 1 = 0) (fr : r.free >>> 2 = 0) (o : Option (List UInt8)) (ho : put (some s) (some r) a id = o) :
    Calls Try.prog 19 #[.pointer (some ⟨N, 0, none⟩), .pointer (some ⟨Hs, 0, none⟩), .pointer (some ⟨Hr, 0, none⟩)] w fun e w' => e = .returned (.tuple #[.string (resS o), .bool (resB o)]) ∧ Below w.heap.size w w' := by
  have HP : Hid (∀ W, Below w.heap.size w W → Calls Try.prog 29 #[.agg #[.pointer (some ⟨Hs, 0, none⟩), .pointer (some ⟨Hr, 0, none⟩)], .pointer (some ⟨N, 0, none⟩), .agg #[.int .u8 97, .int .u8 98, .int .u8 99, .int .u8 100]] W (PutQ W o)) := fun W hW => by
    have h := putV_any s r ⟨hs.2.1, hs.2.2, fs⟩ ⟨hr.2.1, hr.2.2, fr⟩ Hs Hr a ha.2.1 ha.2.2 id N W (fun x hx => hx) (hs.below hW).1 (hr.below hW).1 (ha.below hW).1
    rw [ho] at h
    exact h
  have HSF := Lib.hid (res_short o)
  have harr : ∀ (a : Option Addr) (cap : Nat) (W : World), (Instr.arrayAt 62 (.slice a 4 cap)).run Try.prog W = .ok (.pointer a) W := fun a cap W => run_arrayAt W 62 5 4 a 4 cap Try.underlying62 (Nat.le_refl _)
  have hcv := fun (w : World) (C : Array Value) (n c : Nat) => Lib.run_convert_bytes_const (P := Try.prog) w 46 5 C n c Try.underlying46 Try.underlying5
  have hcm : ∀ (X : World) (C : Array Value) (fr : Nat × Nat) (j n : Nat), n = X.heap.size → (X.alloc (.cells C 5 fr)).cell? ⟨n, j, none⟩ = C[j]? := fun X C fr j n hn => by rw [hn]; exact World.cell?_alloc_mark X C _ fr j
  clear ha hs hr fs fr ho
  go_enter Try.func19, Try.ntmps19
  go_wp2_with fail
  refine (HP.out _ ((Below.refl _ _).alloc (Nat.le_refl _) _)).mono ?_
  rintro eo w1 ⟨rfl, hb⟩
  have HB := Lib.hid (((Below.refl w.heap.size w).alloc (Nat.le_refl _) _).trans (hb.mono (by simp)))
  clear hb
  go_wp2_with fail
  refine (shortFormula_any (optS o) o.isSome _ (resS o) (resB o) HSF.out).mono ?_
  rintro eo w4 ⟨rfl, rfl⟩
  go_wp2
  go_ret2
  exact ⟨rfl, HB.out⟩
end Go.Proofs.Ytefneihlgclkbaa.fmvi
