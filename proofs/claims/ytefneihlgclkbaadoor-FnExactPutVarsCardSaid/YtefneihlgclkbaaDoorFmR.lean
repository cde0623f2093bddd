/- Formulas in the program: PutVars. -/
import Derived.Test.YtefneihlgclkbaaDoorFmPz
import Derived.Test.YtefneihlgclkbaaDoorFmZz
import Derived.Test.YtefneihlgclkbaaDoorFmM
import Derived.Test.YtefneihlgclkbaaDoorShelf
import Derived.Deep.RegionWith
import Derived.Laws.Cover3
namespace Go.Proofs.YtefneihlgclkbaaDoor.fmr
set_option linter.unusedVariables false
set_option linter.unusedSimpArgs false
open Go.Shelf
open Go.ChangeShapes Go.WideShapes Go.ChangeAt Go.RowKit
open Go.Proofs.YtefneihlgclkbaaDoor.lib Go.Proofs.YtefneihlgclkbaaDoor.fm Go.Proofs.YtefneihlgclkbaaDoor.fmt Go.Proofs.YtefneihlgclkbaaDoor.fmx Go.Proofs.YtefneihlgclkbaaDoor.fmo Go.Proofs.YtefneihlgclkbaaDoor.fmpz Go.Proofs.YtefneihlgclkbaaDoor.fmzz Go.Proofs.YtefneihlgclkbaaDoor.fml Go.Proofs.YtefneihlgclkbaaDoor.fmm Go.Proofs.YtefneihlgclkbaaDoor.fme Go.Proofs.YtefneihlgclkbaaDoor.fmp

theorem dropWhile_nil {p : UInt8 → Bool} : ∀ {l : List UInt8}, l.dropWhile p = [] ↔ l.all p = true
  | [] => by simp
  | a :: l => by
    by_cases h : p a = true
    · simp [List.dropWhile_cons, h, dropWhile_nil (l := l)]
    · simp [List.dropWhile_cons, h]
theorem dropWhile_all {p : UInt8 → Bool} : ∀ {l : List UInt8}, (l.dropWhile p).all p = l.all p
  | [] => by simp
  | a :: l => by
    by_cases h : p a = true
    · rw [List.dropWhile_cons, if_pos h, dropWhile_all (l := l), List.all_cons, h, Bool.true_and]
    · rw [List.dropWhile_cons, if_neg h]
set_option maxRecDepth 20000 in
theorem isv_in0 : ∀ c : Fin 256, [(97 : UInt8), 98, 99, 100].contains (UInt8.ofNat c.1) = isV (UInt8.ofNat c.1) := by decide
theorem isv_in (c : UInt8) : [(97 : UInt8), 98, 99, 100].contains c = isV c := by
  have h := isv_in0 ⟨c.toNat, c.toNat_lt⟩
  simp only [UInt8.ofNat_toNat] at h
  exact h
theorem trimS_nil (l : List UInt8) : Lib.trimS l [97, 98, 99, 100] = [] ↔ l.all isV = true := by
  have e : (fun x => [(97 : UInt8), 98, 99, 100].contains x) = isV := by
    funext b; exact isv_in b
  unfold Lib.trimS Lib.trimLeftS Lib.trimRightS
  rw [e, dropWhile_nil, List.all_reverse, dropWhile_all, List.all_reverse]
theorem trimV (s : ByteArray) (w : World) (hs : s.size ≤ 9223372036854775807) :
    Calls Tryd.prog 94 #[.string s, .string ⟨#[97, 98, 99, 100]⟩] w fun e w' => ∃ t : ByteArray, e = .returned (.string t) ∧ t.toList.isEmpty = s.data.toList.all isV ∧ Below w.heap.size w w' := by
  have hcon := Any.strings_Trim_laid Tryd.lays160 (by kernel_rfl) s ⟨#[97, 98, 99, 100]⟩ w hs (by decide) (ascii_of_all (by decide))
  change Calls Tryd.prog 94 _ _ (fun e w' => e = .returned (.string ⟨(Lib.trimS s.data.toList [97, 98, 99, 100]).toArray⟩) ∧ Below w.heap.size w w') at hcon
  refine hcon.mono fun e w' ⟨he, hb⟩ => ⟨_, he, ?_, hb⟩
  have h := trimS_nil s.data.toList
  rw [ByteArray.toList_eq]
  show (Lib.trimS s.data.toList [97, 98, 99, 100]).isEmpty = _
  cases hx : s.data.toList.all isV with
  | true => rw [h.2 hx]; rfl
  | false =>
    cases ht : Lib.trimS s.data.toList [97, 98, 99, 100] with
    | nil => rw [h.1 ht] at hx; cases hx
    | cons a l => rfl
theorem pv_no4 {f vars : ByteArray} (h : vars.data.toList.all isV = false) : pvO f vars = none := by
  unfold pvO; rw [if_neg]; rw [h]; exact fun x => by cases x.2.2
theorem res_short (o : Option (List UInt8)) : if o.isSome = true ∧ (optS o).size ≤ 4000 then resS o = optS o ∧ resB o = true else resS o = ⟨#[]⟩ ∧ resB o = false := by
  cases o with
  | none => rw [if_neg (fun h => by cases h.1)]; exact ⟨rfl, rfl⟩
  | some t =>
    have e : (optS (some t)).size = t.length := by show t.toArray.size = _; simp
    rw [e]
    by_cases h : t.length ≤ 4000
    · rw [if_pos ⟨rfl, h⟩]; unfold resS resB; simp only; rw [if_pos h]; exact ⟨rfl, decide_eq_true h⟩
    · rw [if_neg (fun x => h x.2)]; unfold resS resB; simp only; rw [if_neg h]; exact ⟨rfl, decide_eq_false h⟩
/-- a text as bytes: what the conversion makes -/
theorem bytes_made (vars : ByteArray) (h4 : vars.size = 4) (h : vars.data.toList.all isV = true) :
    ∃ (cp : World → Nat) (Cc : World → Array Value) (F : World → Nat × Nat), (∀ W : World, (convert 9 22 (.string vars)).run Tryd.prog W = .ok (.slice (some ⟨W.heap.size, 0, none⟩) 4 (cp W)) (W.drew.alloc (.cells (Cc W) 5 (F W)))) ∧
      ∀ (j : Nat), j < 4 → ∀ (X V : World) (n : Nat), n = X.heap.size → (X.alloc (.cells (Cc V) 5 (F V))).cell? ⟨n, j, none⟩ = some (.int .u8 (97 + (mapOf vars j : Nat) : Int)) := by
  refine ⟨fun W => grownCap W vars.size 0 5, fun W => bytesRow vars (grownCap W vars.size 0 5), fun W => ((bytesRow vars (grownCap W vars.size 0 5)).size, (bytesRow vars (grownCap W vars.size 0 5)).size + 1), fun W => ?_, fun j hj X W n hn => ?_⟩
  · have h1 := run_bytes_of_string (P := Tryd.prog) W 9 22 5 vars Tryd.underlying9 Tryd.underlying22 Tryd.underlying5
    rw [h1, h4]
  · rw [hn, World.cell?_alloc_mark]
    have hsz : vars.data.size = vars.size := rfl
    rw [bytesRow_at vars (grownCap W vars.size 0 5) j (by omega), map_at (by omega)]
    have hv : isV vars[j] = true := List.all_eq_true.1 h _ (List.getElem_mem (l := vars.data.toList) (by simpa using (by omega : j < vars.data.size)))
    have hv2 := of_decide_eq_true hv
    have e : (97 : Int) + (vn vars[j] : Nat) = ((vars[j].toNat : Nat) : Int) := by unfold vn; omega
    rw [e]
    rfl
set_option maxHeartbeats 3200000 in
set_option maxRecDepth 100000 in
theorem implPutVars_any (f vars : ByteArray) (w : World) (hs : f.size ≤ 1048576) (hv : vars.size ≤ 1048576) :
    Calls Tryd.prog 43 #[.string f, .string vars] w fun e w' => e = .returned (.tuple #[.string (resS (pvO f vars)), .bool (resB (pvO f vars))]) ∧ Below w.heap.size w w' := by
  cases hb : fmB f with
  | false =>
    have HE := Lib.hid (pv_no1 (vars := vars) hb)
    have HF := Lib.hid hb
    clear hb
    go_enter Tryd.func43, Tryd.ntmps43
    go_wp2_with fail
    refine (parseFormula_any f _).mono ?_
    rintro eo w1 ⟨p, rfl, hbl, hp⟩
    obtain rfl : p = .pointer none := by
      rcases hp with ⟨_, h⟩ | ⟨h, _⟩
      · exact h
      · rw [HF.out] at h; cases h
    have HB := Lib.hid hbl
    clear hp hbl
    go_wp2
    go_ret2
    exact ⟨by rw [HE.out]; rfl, HB.out⟩
  | true =>
    have HF := Lib.hid hb
    clear hb
    by_cases h4 : vars.size = 4
    · have e4 : ((vars.size : Int) != 4) = false := by simp; omega
      have hv9 : vars.size ≤ 9223372036854775807 := by omega
      cases ht : vars.data.toList.all isV with
      | false =>
        have HE := Lib.hid (pv_no4 (f := f) ht)
        have HT := Lib.hid ht
        clear ht h4
        go_enter Tryd.func43, Tryd.ntmps43
        go_wp2_with fail
        refine (parseFormula_any f _).mono ?_
        rintro eo w1 ⟨p, rfl, hbl, hp⟩
        obtain ⟨a, H, hat, rfl, htr⟩ : ∃ a H, fmq.At f 0 a f.size ∧ p = .pointer (some ⟨H, 0, none⟩) ∧ Tree 129 w1 a H := by
          rcases hp with ⟨h, _⟩ | ⟨_, h⟩
          · rw [HF.out] at h; cases h
          · exact h
        have HB := Lib.hid hbl
        clear hp hbl hat htr
        go_wp2_with fail
        refine (trimV vars _ hv9).mono ?_
        rintro eo w2 ⟨t, rfl, hte, hb2⟩
        rw [HT.out] at hte
        have HB2 := Lib.hid (HB.out.trans (hb2.mono HB.out.size))
        clear hb2
        go_wp2
        go_ret2
        exact ⟨by rw [HE.out]; rfl, HB2.out⟩
      | true =>
        obtain ⟨cp, Cc, FF, hconv, hcell⟩ := bytes_made vars h4 ht
        have hc0 := hcell 0 (by decide)
        have hc1 := hcell 1 (by decide)
        have hc2 := hcell 2 (by decide)
        have hc3 := hcell 3 (by decide)
        have harr : ∀ (a : Option Addr) (cap : Nat) (W : World), (Instr.arrayAt 92 (.slice a 4 cap)).run Tryd.prog W = .ok (.pointer a) W := fun a cap W => run_arrayAt W 92 5 4 a 4 cap Tryd.underlying92 (Nat.le_refl _)
        have HT := Lib.hid ht
        have H4 := Lib.hid h4
        clear ht h4 hcell
        go_enter Tryd.func43, Tryd.ntmps43
        go_wp2_with fail
        refine (parseFormula_any f _).mono ?_
        rintro eo w1 ⟨p, rfl, hbl, hp⟩
        obtain ⟨a, H, hat, rfl, htr⟩ : ∃ a H, fmq.At f 0 a f.size ∧ p = .pointer (some ⟨H, 0, none⟩) ∧ Tree 129 w1 a H := by
          rcases hp with ⟨h, _⟩ | ⟨_, h⟩
          · rw [HF.out] at h; cases h
          · exact h
        have HB := Lib.hid hbl
        have HTR := Lib.hid htr
        have HAT := Lib.hid hat
        clear hp hbl hat htr
        go_wp2_with fail
        refine (trimV vars _ hv9).mono ?_
        rintro eo w2 ⟨t, rfl, hte, hb2⟩
        rw [HT.out] at hte
        have HB2 := Lib.hid (HB.out.trans (hb2.mono HB.out.size))
        have HT2 := Lib.hid (HTR.out.below hb2 (Nat.le_refl _))
        have HISV : Hid (∀ j (h : j < vars.size), j < 4 → isV vars[j] = true) := fun j h _ => List.all_eq_true.1 HT.out _ (List.getElem_mem (l := vars.data.toList) (by simpa using (show j < vars.data.size from h)))
        have HM := Lib.hid (map_lt H4.out HISV.out)
        have HE := Lib.hid (pv_yes HF.out H4.out HISV.out HAT.out)
        have HL := Lib.hid (len_of HAT.out)
        have hf4 := Lib.hid (fmq.fmB_iff.1 HF.out).1
        clear hb2 HTR HB
        go_wp2_with fail
        have HC : Hid (∀ W, Below w2.heap.size w2 W → Calls Tryd.prog 95 #[.agg #[.pointer none, .pointer none], .pointer (some ⟨H, 0, none⟩), .agg #[.int .u8 (97 + (mapOf vars 0 : Nat) : Int), .int .u8 (97 + (mapOf vars 1 : Nat) : Int), .int .u8 (97 + (mapOf vars 2 : Nat) : Int), .int .u8 (97 + (mapOf vars 3 : Nat) : Int)]] W (PutQ W (put0 a (mapOf vars)))) := fun W hW => put0_any a (by have := HL.out.1; have := hf4.out; omega) HL.out.2 (mapOf vars) H W HM.out (HT2.out.below hW (Nat.le_refl _))
        obtain ⟨o, ho⟩ : ∃ o, o = put0 a (mapOf vars) := ⟨_, rfl⟩
        rw [← ho] at HE HC
        have HSF := Lib.hid (res_short o)
        clear ho
        go_region_with (refine (HC.out _ (((Below.refl _ _).alloc (Nat.le_refl _) _).alloc (by simp) _).drew.drew).mono ?_; rintro eo w3 ⟨rfl, hb3⟩)
        all_goals
          have HB3 := Lib.hid (HB2.out.trans (((((Below.refl w2.heap.size w2).alloc (Nat.le_refl _) _).alloc (by simp) _).drew.drew.trans (hb3.mono (by simp only [World.size_alloc, World.size_drew]; omega))).mono HB2.out.size))
          clear hb3
          go_wp2_with fail
          refine (shortFormula_any (optS o) o.isSome _ (resS o) (resB o) HSF.out).mono ?_
          rintro eo w4 ⟨rfl, rfl⟩
          rw [← HE.out]
          go_wp2
          go_ret2
          exact ⟨rfl, HB3.out⟩
    · have e4 : ((vars.size : Int) != 4) = true := by simp; omega
      have HE := Lib.hid (pv_no2 (f := f) h4)
      clear h4
      go_enter Tryd.func43, Tryd.ntmps43
      go_wp2_with fail
      refine (parseFormula_any f _).mono ?_
      rintro eo w1 ⟨p, rfl, hbl, hp⟩
      obtain ⟨a, H, hat, rfl, htr⟩ : ∃ a H, fmq.At f 0 a f.size ∧ p = .pointer (some ⟨H, 0, none⟩) ∧ Tree 129 w1 a H := by
        rcases hp with ⟨h, _⟩ | ⟨_, h⟩
        · rw [HF.out] at h; cases h
        · exact h
      have HB := Lib.hid hbl
      clear hp hbl hat htr
      go_wp2
      go_ret2
      exact ⟨by rw [HE.out]; rfl, HB.out⟩
end Go.Proofs.YtefneihlgclkbaaDoor.fmr
