/- Formulas in the reference: views, and what a text says within a part. -/
import Derived.Test.YtefneihlgclkbaaFmL
import Derived.Test.YtefneihlgclkbaaFmN
import Derived.Laws.Strings
namespace Go.Proofs.Ytefneihlgclkbaa.fmwi
set_option linter.unusedVariables false
set_option linter.unusedSimpArgs false
open Go.ChangeShapes Go.WideShapes Go.ChangeAt Go.RowKit
open Go.Proofs.Ytefneihlgclkbaa.lib Go.Proofs.Ytefneihlgclkbaa.fm Go.Proofs.Ytefneihlgclkbaa.fms Go.Proofs.Ytefneihlgclkbaa.fmp Go.Proofs.Ytefneihlgclkbaa.fmq Go.Proofs.Ytefneihlgclkbaa.fme Go.Proofs.Ytefneihlgclkbaa.fmf Go.Proofs.Ytefneihlgclkbaa.fmk Go.Proofs.Ytefneihlgclkbaa.fml

set_option maxRecDepth 20000 in
theorem s33 : ∀ c : Fin 256, (((c.1 : Nat) : Int) == 33) = decide (sort (UInt8.ofNat c.1) = .no) := by decide
set_option maxRecDepth 20000 in
theorem s38 : ∀ c : Fin 256, sort (UInt8.ofNat c.1) ≠ .two → (((c.1 : Nat) : Int) == 38) = false ∧ (((c.1 : Nat) : Int) == 124) = false := by decide
set_option maxRecDepth 20000 in
theorem s38b : ∀ c : Fin 256, sort (UInt8.ofNat c.1) = .two → (((c.1 : Nat) : Int) == 38) = true ∨ (((c.1 : Nat) : Int) == 38) = false ∧ (((c.1 : Nat) : Int) == 124) = true := by decide
set_option maxRecDepth 20000 in
theorem sq : ∀ c : Fin 256, isQ c.1 = decide (sort (UInt8.ofNat c.1) = .qu) := by decide
theorem t33 (c : UInt8) : ((c.toNat : Int) == 33) = decide (sort c = .no) := by have h := s33 ⟨c.toNat, c.toNat_lt⟩; simp only [UInt8.ofNat_toNat] at h; exact h
theorem t38 (c : UInt8) (hc : sort c ≠ .two) : ((c.toNat : Int) == 38) = false ∧ ((c.toNat : Int) == 124) = false := by have h := s38 ⟨c.toNat, c.toNat_lt⟩; simp only [UInt8.ofNat_toNat] at h; exact h hc
theorem t38b (c : UInt8) (hc : sort c = .two) : ((c.toNat : Int) == 38) = true ∨ ((c.toNat : Int) == 38) = false ∧ ((c.toNat : Int) == 124) = true := by have h := s38b ⟨c.toNat, c.toNat_lt⟩; simp only [UInt8.ofNat_toNat] at h; exact h hc
theorem tq (c : UInt8) : isQ c.toNat = decide (sort c = .qu) := by have h := sq ⟨c.toNat, c.toNat_lt⟩; simp only [UInt8.ofNat_toNat] at h; exact h
theorem wi_no (f a : Fm) : wi f (.no a) = match wi f a with | some x => some (33 :: x) | none => none := rfl
theorem wi_two (f : Fm) (o : UInt8) (a b : Fm) : wi f (.two o a b) = match wi f a, wi f b with | some x, some y => some (o :: (x ++ y)) | _, _ => none := rfl
theorem wi_qu (f : Fm) (o : UInt8) (v : Nat) (a : Fm) : wi f (.qu o v a) = match wi f a, put0 f (map1 v) with | some x, some y => some (o :: vb v :: ((if o = 65 then [124, 33] else [38]) ++ y ++ x)) | _, _ => none := rfl
/-- the text that stands there -/
theorem at_txt {f : ByteArray} {k e : Nat} {a : Fm} (h : At f k a e) : f.data.toList.drop k = a.txt ++ f.data.toList.drop e ∧ a.txt.length = e - k := by
  have h2 := (read_sound h.2).2.1
  refine ⟨h2, ?_⟩
  have := congrArg List.length h2
  rw [List.length_append, List.length_drop, List.length_drop, lsz] at this
  have := h.1
  have := h.lt
  omega
theorem ext_at {f : ByteArray} {k e : Nat} {a : Fm} (h : At f k a e) : f.extract k e = ⟨a.txt.toArray⟩ := by
  obtain ⟨h1, h2⟩ := at_txt h
  apply ByteArray.ext
  rw [ByteArray.data_extract]
  apply Array.ext'
  simp only [Array.toList_extract, List.extract_eq_take_drop]
  rw [h1, ← h2, List.take_left']
  rfl
theorem ext_two {f : ByteArray} {k e v : Nat} {o : UInt8} {b : Fm} (h : At f k (.qu o v b) e) : f.extract k (k + 2) = ⟨#[o, vb v]⟩ := by
  obtain ⟨h1, h2⟩ := at_txt h
  apply ByteArray.ext
  rw [ByteArray.data_extract]
  apply Array.ext'
  simp only [Array.toList_extract, List.extract_eq_take_drop]
  rw [h1, show k + 2 - k = 2 from by omega]
  rfl
set_option maxHeartbeats 6400000 in
set_option maxRecDepth 100000 in
theorem l11Within_gen (h f : ByteArray) (hh : h.size ≤ 4000) (hf : f.size ≤ 4000) (s : Fm) (hs : At f 0 s f.size) :
    ∀ (n : Nat) (x : Int) (k : Nat) (a : Fm) (e : Nat), x = k → At h k a e → h.size - k ≤ n → ∀ w : World,
    Calls Try.prog 20 #[.string h, .int .i64 x, .string f] w (PutP w (wi s a) e (4003 * (e - k))) := by
  intro n
  induction n with
  | zero => intro x k a e hx hat hn w; have := hat.lt; omega
  | succ n ih =>
    intro x k a e hx hat hn w
    have hlt := hat.lt.1
    subst hx
    have IH : Hid (∀ (x : Int) (j : Nat) (b : Fm) (e : Nat), x = j → k < j → At h j b e → ∀ w : World, Calls Try.prog 20 #[.string h, .int .i64 x, .string f] w (PutP w (wi s b) e (4003 * (e - j)))) := fun x j b e h1 h2 h3 w => ih x j b e h1 h3 (by omega) w
    have HAT := Lib.hid hat
    have HS := Lib.hid hs
    clear ih hn hs
    have hsz : h.size ≤ 9223372036854775807 := by omega
    have he : k < e ∧ e ≤ h.size := ⟨hat.lt.2, hat.1⟩
    have e33 := t33 h[k]
    have eq := Lib.hid (tq h[k])
    cases hso : sort h[k] with
    | bad => exact (inv_bad hlt hat hso).elim
    | no =>
      obtain ⟨b, hb, rfl⟩ := inv_no hlt hat hso
      rw [hso] at e33
      have HB := Lib.hid hb
      have hbl := hb.lt
      clear hat hb hso eq
      have hz2 : 4003 * (e - (k + 1)) ≤ 16012000 := by omega
      go_enter Try.func20, Try.ntmps20
      go_wp2_with fail
      refine (IH.out _ (k + 1) b e (by go_num) (by omega) HB.out _).mono ?_
      rintro eo w1 ⟨s1, rfl, ht, hz, hbw⟩
      have hadd := add_ok (P := Try.prog) (x := ⟨#[33]⟩) (y := s1) (by show 1 ≤ 32000000; decide) (by omega)
      have HT := Lib.hid ht
      have HZ := Lib.hid hz
      have HBW := Lib.hid hbw
      clear ht hz hbw
      go_wp2
      go_ret3
      refine ret3 rfl ?_ (fun t ht => ?_) ?_ HBW.out
      · rw [wi_no]; cases wi s b <;> rfl
      · rw [wi_no] at ht
        cases h1 : wi s b with
        | none => rw [h1] at ht; cases ht
        | some t1 =>
          rw [h1] at ht; cases ht
          rw [HT.out _ h1]
          exact cat_one
      · rw [ByteArray.size_append]
        have h1 := HZ.out
        have h2 : (⟨#[33]⟩ : ByteArray).size = 1 := rfl
        rw [h2, show e - k = (e - (k + 1)) + 1 from by omega, Nat.mul_add]
        omega
    | two =>
      obtain ⟨b, d, j, hb, hd, rfl⟩ := inv_two hlt hat hso
      rw [hso] at e33
      have HB := Lib.hid hb
      have HD := Lib.hid hd
      have hbl := hb.lt
      have hdl := hd.lt
      have hcut : ∀ W : World, (Instr.slice 9 (.string h) (some (.int .i64 k)) (some (.int .i64 ((k : Int) + 1))) none).run Try.prog W = .ok (.string ⟨#[h[k]]⟩) W := fun W => by
        have h0 := run_slice_string (P := Try.prog) (t := 9) W h .i64 .i64 k ((k : Int) + 1) (by kernel_rfl) (by omega) (by omega) (by omega)
        rw [h0, show ((k : Int)).toNat = k from by omega, show ((k : Int) + 1).toNat = k + 1 from by omega, ext_one hlt]
      have hz2 : 4003 * (j - (k + 1)) ≤ 16012000 := by omega
      have hz3 : 4003 * (e - j) ≤ 16012000 := by omega
      have hw1 : IntKind.i64.wrap ((k : Int) + 1) = (k : Int) + 1 := IntWalk.i64_in _ (by omega)
      have E2 := Lib.hid (t38b _ hso)
      clear hat hb hd hso eq
      rcases E2.out with e38 | ⟨e38, e124⟩
      all_goals
        go_enter Try.func20, Try.ntmps20
        go_wp2_with fail
        refine (IH.out _ (k + 1) b j (by go_num) (by omega) HB.out _).mono ?_
        rintro eo w1 ⟨s1, rfl, ht, hz, hbw⟩
        have HT := Lib.hid ht
        have HZ := Lib.hid hz
        have HBW := Lib.hid hbw
        have hadd := add_ok (P := Try.prog) (x := ⟨#[h[k]]⟩) (y := s1) (by show 1 ≤ 32000000; decide) (by omega)
        clear ht hz hbw
        go_wp2_with fail
        refine (IH.out _ j d e (by go_num) (by omega) HD.out _).mono ?_
        rintro eo w2 ⟨s2, rfl, ht2, hz4, hbw2⟩
        have HT2 := Lib.hid ht2
        have HZ2 := Lib.hid hz4
        have hz1 := HZ.out
        have hadd2 := add_ok (P := Try.prog) (x := ⟨#[h[k]]⟩ ++ s1) (y := s2) (by rw [ByteArray.size_append]; show 1 + s1.size ≤ _; omega) (by omega)
        have HBW2 := Lib.hid (HBW.out.trans (hbw2.mono HBW.out.size))
        clear ht2 hz4 hbw2 hz1
        have HSZ : Hid ((⟨#[h[k]]⟩ ++ s1 ++ s2 : ByteArray).size ≤ 4003 * (e - k)) := by
          rw [Hid, ByteArray.size_append, ByteArray.size_append]
          have h1 := HZ.out
          have h3 := HZ2.out
          have h2 : (⟨#[h[k]]⟩ : ByteArray).size = 1 := rfl
          rw [h2, show e - k = (j - (k + 1)) + (e - j) + 1 from by omega, Nat.mul_add, Nat.mul_add]
          omega
        have HVAL : Hid (∀ t, wi s (.two h[k] b d) = some t → (⟨#[h[k]]⟩ ++ s1 ++ s2 : ByteArray) = ⟨t.toArray⟩) := fun t ht => by
          rw [wi_two] at ht
          cases h1 : wi s b with
          | none => rw [h1] at ht; cases ht
          | some t1 =>
            cases h2 : wi s d with
            | none => rw [h1, h2] at ht; cases ht
            | some t2 =>
              rw [h1, h2] at ht; cases ht
              rw [HT.out _ h1, HT2.out _ h2]
              exact cat_two
        cases h1 : wi s b with
        | none =>
          have HW1 : Hid (wi s (.two h[k] b d) = none) := by rw [Hid, wi_two, h1]
          clear h1
          go_wp2
          go_ret3
          exact ret3 rfl (by rw [HW1.out]; rfl) HVAL.out HSZ.out HBW2.out
        | some t1 =>
          cases h2 : wi s d with
          | none =>
            have HW1 : Hid (wi s (.two h[k] b d) = none) := by rw [Hid, wi_two, h1, h2]
            clear h1 h2
            go_wp2
            go_ret3
            exact ret3 rfl (by rw [HW1.out]; rfl) HVAL.out HSZ.out HBW2.out
          | some t2 =>
            have HW1 : Hid (wi s (.two h[k] b d) = some (h[k] :: (t1 ++ t2))) := by rw [Hid, wi_two, h1, h2]
            clear h1 h2
            go_wp2
            go_ret3
            exact ret3 rfl (by rw [HW1.out]; rfl) HVAL.out HSZ.out HBW2.out
    | qu =>
      obtain ⟨v, b, hv4, hv, hb, rfl⟩ := inv_qu hlt hat hso
      obtain ⟨e38, e124⟩ := t38 h[k] (by rw [hso]; decide)
      rw [hso] at e33
      have HQ : Hid (isQ h[k].toNat = true) := by rw [Hid, eq.out, hso]; rfl
      have HB := Lib.hid hb
      have HV := Lib.hid hv
      have hbl := hb.lt
      have hcut : ∀ W : World, (Instr.slice 9 (.string h) (some (.int .i64 k)) (some (.int .i64 ((k : Int) + 2))) none).run Try.prog W = .ok (.string ⟨#[h[k], vb v]⟩) W := fun W => by
        have h0 := run_slice_string (P := Try.prog) (t := 9) W h .i64 .i64 k ((k : Int) + 2) (by kernel_rfl) (by omega) (by omega) (by omega)
        rw [h0, show ((k : Int)).toNat = k from by omega, show ((k : Int) + 2).toNat = k + 2 from by omega, ext_two HAT.out]
      have hz2 : 4003 * (e - (k + 2)) ≤ 16012000 := by omega
      have hw1 : IntKind.i64.wrap ((k : Int) + 1) = (k : Int) + 1 := IntWalk.i64_in _ (by omega)
      have hw2 : IntKind.i64.wrap ((k : Int) + 2) = (k : Int) + 2 := IntWalk.i64_in _ (by omega)
      have HP : Hid (∀ W, Calls Try.prog 14 #[.string f, .int .i64 0, .agg #[.int .i64 v, .int .i64 0, .int .i64 0, .int .i64 0], .agg #[.string ⟨#[]⟩, .string ⟨#[]⟩]] W (PutP W (put0 s (map1 v)) f.size (f.size - 0))) := fun W => l11Put0_any f hf 0 s f.size (map1 v) HS.out (fun x hx => by unfold map1; split <;> omega) 0 rfl W
      clear hat hb hso hv eq
      by_cases h65 : h[k] = 65
      · have e65 : ((h[k].toNat : Int) == 65) = true := by rw [h65]; rfl
        have H65 : Hid ((if h[k] = 65 then [124, 33] else [38] : List UInt8) = [124, 33]) := by rw [Hid, if_pos h65]
        clear h65
        go_enter Try.func20, Try.ntmps20
        go_wp2_with fail
        refine (l2Quant_any h[k] _).mono ?_
        rintro eo w1 ⟨rfl, rfl⟩
        rw [HQ.out]
        go_wp2_with fail
        refine (IH.out _ (k + 2) b e (by go_num) (by omega) HB.out _).mono ?_
        rintro eo w1 ⟨s1, rfl, ht, hz, hbw⟩
        have HT := Lib.hid ht
        have HZ := Lib.hid hz
        have HBW := Lib.hid hbw
        clear ht hz hbw
        go_wp2_with fail
        refine (l2Var_at h _ (k + 1) v (by go_num) HV.out _ hsz).mono ?_
        rintro eo w2 ⟨rfl, rfl⟩
        go_wp2_with fail
        refine (HP.out _).mono ?_
        rintro eo w2 ⟨s2, rfl, ht2, hz4, hbw2⟩
        have HT2 := Lib.hid ht2
        have HZ2 := Lib.hid hz4
        have hz1 := HZ.out
        have hadd1 := add_ok (P := Try.prog) (x := ⟨#[h[k], vb v]⟩) (y := ⟨#[124, 33]⟩) (by show 2 ≤ 32000000; decide) (by show 2 ≤ 32000000; decide)
        have hadd2 := add_ok (P := Try.prog) (x := ⟨#[h[k], vb v]⟩ ++ ⟨#[124, 33]⟩) (y := s2) (by rw [ByteArray.size_append]; show 2 + 2 ≤ 32000000; decide) (by omega)
        have hadd3 := add_ok (P := Try.prog) (x := ⟨#[h[k], vb v]⟩ ++ ⟨#[124, 33]⟩ ++ s2) (y := s1) (by rw [ByteArray.size_append, ByteArray.size_append]; show 2 + 2 + s2.size ≤ _; omega) (by omega)
        have HBW2 := Lib.hid (HBW.out.trans (hbw2.mono HBW.out.size))
        clear ht2 hz4 hbw2 hz1
        have HSZ : Hid ((⟨#[h[k], vb v]⟩ ++ ⟨#[124, 33]⟩ ++ s2 ++ s1 : ByteArray).size ≤ 4003 * (e - k)) := by
          rw [Hid, ByteArray.size_append, ByteArray.size_append, ByteArray.size_append]
          have h1 := HZ.out
          have h3 := HZ2.out
          have h2 : (⟨#[h[k], vb v]⟩ : ByteArray).size = 2 := rfl
          have h4 : (⟨#[124, 33]⟩ : ByteArray).size = 2 := rfl
          rw [h2, h4, show e - k = (e - (k + 2)) + 2 from by omega, Nat.mul_add]
          omega
        have HVAL : Hid (∀ t, wi s (.qu h[k] v b) = some t → (⟨#[h[k], vb v]⟩ ++ ⟨#[124, 33]⟩ ++ s2 ++ s1 : ByteArray) = ⟨t.toArray⟩) := fun t ht => by
          rw [wi_qu, H65.out] at ht
          cases h1 : wi s b with
          | none => rw [h1] at ht; cases ht
          | some t1 =>
            cases h2 : put0 s (map1 v) with
            | none => rw [h1, h2] at ht; cases ht
            | some t2 =>
              rw [h1, h2] at ht; cases ht
              rw [HT.out _ h1, HT2.out _ h2]
              apply ByteArray.ext
              simp [ByteArray.data_append]
        cases h1 : wi s b with
        | none =>
          have HW1 : Hid (wi s (.qu h[k] v b) = none) := by rw [Hid, wi_qu, h1]
          clear h1
          go_wp2
          go_ret3
          exact ret3 rfl (by rw [HW1.out]; rfl) HVAL.out HSZ.out HBW2.out
        | some t1 =>
          cases h2 : put0 s (map1 v) with
          | none =>
            have HW1 : Hid (wi s (.qu h[k] v b) = none) := by rw [Hid, wi_qu, h1, h2]
            clear h1 h2
            go_wp2
            go_ret3
            exact ret3 rfl (by rw [HW1.out]; rfl) HVAL.out HSZ.out HBW2.out
          | some t2 =>
            have HW1 : Hid ((wi s (.qu h[k] v b)).isSome = true) := by rw [Hid, wi_qu, h1, h2]; rfl
            clear h1 h2
            go_wp2
            go_ret3
            exact ret3 rfl (by rw [HW1.out]) HVAL.out HSZ.out HBW2.out
      · have e65 : ((h[k].toNat : Int) == 65) = false := by cases hb9 : ((h[k].toNat : Int) == 65) with
          | false => rfl
          | true => exact absurd (UInt8.toNat_inj.1 (show h[k].toNat = (65 : UInt8).toNat by have := eq_of_beq hb9; show h[k].toNat = 65; omega)) h65
        have H65 : Hid ((if h[k] = 65 then [124, 33] else [38] : List UInt8) = [38]) := by rw [Hid, if_neg h65]
        clear h65
        go_enter Try.func20, Try.ntmps20
        go_wp2_with fail
        refine (l2Quant_any h[k] _).mono ?_
        rintro eo w1 ⟨rfl, rfl⟩
        rw [HQ.out]
        go_wp2_with fail
        refine (IH.out _ (k + 2) b e (by go_num) (by omega) HB.out _).mono ?_
        rintro eo w1 ⟨s1, rfl, ht, hz, hbw⟩
        have HT := Lib.hid ht
        have HZ := Lib.hid hz
        have HBW := Lib.hid hbw
        clear ht hz hbw
        go_wp2_with fail
        refine (l2Var_at h _ (k + 1) v (by go_num) HV.out _ hsz).mono ?_
        rintro eo w2 ⟨rfl, rfl⟩
        go_wp2_with fail
        refine (HP.out _).mono ?_
        rintro eo w2 ⟨s2, rfl, ht2, hz4, hbw2⟩
        have HT2 := Lib.hid ht2
        have HZ2 := Lib.hid hz4
        have hz1 := HZ.out
        have hadd1 := add_ok (P := Try.prog) (x := ⟨#[h[k], vb v]⟩) (y := ⟨#[38]⟩) (by show 2 ≤ 32000000; decide) (by show 1 ≤ 32000000; decide)
        have hadd2 := add_ok (P := Try.prog) (x := ⟨#[h[k], vb v]⟩ ++ ⟨#[38]⟩) (y := s2) (by rw [ByteArray.size_append]; show 2 + 1 ≤ 32000000; decide) (by omega)
        have hadd3 := add_ok (P := Try.prog) (x := ⟨#[h[k], vb v]⟩ ++ ⟨#[38]⟩ ++ s2) (y := s1) (by rw [ByteArray.size_append, ByteArray.size_append]; show 2 + 1 + s2.size ≤ _; omega) (by omega)
        have HBW2 := Lib.hid (HBW.out.trans (hbw2.mono HBW.out.size))
        clear ht2 hz4 hbw2 hz1
        have HSZ : Hid ((⟨#[h[k], vb v]⟩ ++ ⟨#[38]⟩ ++ s2 ++ s1 : ByteArray).size ≤ 4003 * (e - k)) := by
          rw [Hid, ByteArray.size_append, ByteArray.size_append, ByteArray.size_append]
          have h1 := HZ.out
          have h3 := HZ2.out
          have h2 : (⟨#[h[k], vb v]⟩ : ByteArray).size = 2 := rfl
          have h4 : (⟨#[38]⟩ : ByteArray).size = 1 := rfl
          rw [h2, h4, show e - k = (e - (k + 2)) + 2 from by omega, Nat.mul_add]
          omega
        have HVAL : Hid (∀ t, wi s (.qu h[k] v b) = some t → (⟨#[h[k], vb v]⟩ ++ ⟨#[38]⟩ ++ s2 ++ s1 : ByteArray) = ⟨t.toArray⟩) := fun t ht => by
          rw [wi_qu, H65.out] at ht
          cases h1 : wi s b with
          | none => rw [h1] at ht; cases ht
          | some t1 =>
            cases h2 : put0 s (map1 v) with
            | none => rw [h1, h2] at ht; cases ht
            | some t2 =>
              rw [h1, h2] at ht; cases ht
              rw [HT.out _ h1, HT2.out _ h2]
              apply ByteArray.ext
              simp [ByteArray.data_append]
        cases h1 : wi s b with
        | none =>
          have HW1 : Hid (wi s (.qu h[k] v b) = none) := by rw [Hid, wi_qu, h1]
          clear h1
          go_wp2
          go_ret3
          exact ret3 rfl (by rw [HW1.out]; rfl) HVAL.out HSZ.out HBW2.out
        | some t1 =>
          cases h2 : put0 s (map1 v) with
          | none =>
            have HW1 : Hid (wi s (.qu h[k] v b) = none) := by rw [Hid, wi_qu, h1, h2]
            clear h1 h2
            go_wp2
            go_ret3
            exact ret3 rfl (by rw [HW1.out]; rfl) HVAL.out HSZ.out HBW2.out
          | some t2 =>
            have HW1 : Hid ((wi s (.qu h[k] v b)).isSome = true) := by rw [Hid, wi_qu, h1, h2]; rfl
            clear h1 h2
            go_wp2
            go_ret3
            exact ret3 rfl (by rw [HW1.out]) HVAL.out HSZ.out HBW2.out
    | tf =>
      obtain ⟨e38, e124⟩ := t38 h[k] (by rw [hso]; decide)
      rw [hso] at e33
      have HQ : Hid (isQ h[k].toNat = false) := by rw [Hid, eq.out, hso]; rfl
      obtain ⟨rfl, h9⟩ := inv_tf hlt hat hso
      have HEN := Lib.hid (At.endI HAT.out)
      have HL : Hid (h.extract k e = ⟨[h[k]].toArray⟩) := ext_at HAT.out
      have hcut : ∀ W : World, (Instr.slice 9 (.string h) (some (.int .i64 k)) (some (.int .i64 e)) none).run Try.prog W = .ok (.string (h.extract k e)) W := fun W => by
        have h0 := run_slice_string (P := Try.prog) (t := 9) W h .i64 .i64 k e (by kernel_rfl) (by omega) (by omega) (by omega)
        rw [h0, show ((k : Int)).toNat = k from by omega, show ((e : Int)).toNat = e from by omega]
      have HZZ : Hid ((h.extract k e).size ≤ 4003 * (e - k)) := by
        rw [Hid, ByteArray.size_extract]; omega
      clear hat hso eq h9
      go_enter Try.func20, Try.ntmps20
      go_wp2_with fail
      refine (l2Quant_any h[k] _).mono ?_
      rintro eo w1 ⟨rfl, rfl⟩
      rw [HQ.out]
      go_wp2_with fail
      refine (l2End_any h (by omega) h.size _ k rfl (by omega) (by omega) _).mono ?_
      rintro eo w1 ⟨rfl, rfl⟩
      rw [HEN.out]
      go_wp2
      go_ret3
      exact ret3 rfl rfl (fun t ht => by cases ht; exact HL.out) HZZ.out (Below.refl _ _)
    | p =>
      obtain ⟨e38, e124⟩ := t38 h[k] (by rw [hso]; decide)
      rw [hso] at e33
      have HQ : Hid (isQ h[k].toNat = false) := by rw [Hid, eq.out, hso]; rfl
      obtain ⟨m, hm4, _, rfl, h9⟩ := inv_p hlt hat hso
      have HEN := Lib.hid (At.endI HAT.out)
      have HL : Hid (h.extract k e = ⟨[80, vb m].toArray⟩) := ext_at HAT.out
      have hcut : ∀ W : World, (Instr.slice 9 (.string h) (some (.int .i64 k)) (some (.int .i64 e)) none).run Try.prog W = .ok (.string (h.extract k e)) W := fun W => by
        have h0 := run_slice_string (P := Try.prog) (t := 9) W h .i64 .i64 k e (by kernel_rfl) (by omega) (by omega) (by omega)
        rw [h0, show ((k : Int)).toNat = k from by omega, show ((e : Int)).toNat = e from by omega]
      have HZZ : Hid ((h.extract k e).size ≤ 4003 * (e - k)) := by
        rw [Hid, ByteArray.size_extract]; omega
      clear hat hso eq h9
      go_enter Try.func20, Try.ntmps20
      go_wp2_with fail
      refine (l2Quant_any h[k] _).mono ?_
      rintro eo w1 ⟨rfl, rfl⟩
      rw [HQ.out]
      go_wp2_with fail
      refine (l2End_any h (by omega) h.size _ k rfl (by omega) (by omega) _).mono ?_
      rintro eo w1 ⟨rfl, rfl⟩
      rw [HEN.out]
      go_wp2
      go_ret3
      exact ret3 rfl rfl (fun t ht => by cases ht; exact HL.out) HZZ.out (Below.refl _ _)
    | r =>
      obtain ⟨e38, e124⟩ := t38 h[k] (by rw [hso]; decide)
      rw [hso] at e33
      have HQ : Hid (isQ h[k].toNat = false) := by rw [Hid, eq.out, hso]; rfl
      obtain ⟨m, m2, hm4, hm5, _, _, rfl, h9⟩ := inv_r hlt hat hso
      have HEN := Lib.hid (At.endI HAT.out)
      have HL : Hid (h.extract k e = ⟨[h[k], vb m, vb m2].toArray⟩) := ext_at HAT.out
      have hcut : ∀ W : World, (Instr.slice 9 (.string h) (some (.int .i64 k)) (some (.int .i64 e)) none).run Try.prog W = .ok (.string (h.extract k e)) W := fun W => by
        have h0 := run_slice_string (P := Try.prog) (t := 9) W h .i64 .i64 k e (by kernel_rfl) (by omega) (by omega) (by omega)
        rw [h0, show ((k : Int)).toNat = k from by omega, show ((e : Int)).toNat = e from by omega]
      have HZZ : Hid ((h.extract k e).size ≤ 4003 * (e - k)) := by
        rw [Hid, ByteArray.size_extract]; omega
      clear hat hso eq h9
      go_enter Try.func20, Try.ntmps20
      go_wp2_with fail
      refine (l2Quant_any h[k] _).mono ?_
      rintro eo w1 ⟨rfl, rfl⟩
      rw [HQ.out]
      go_wp2_with fail
      refine (l2End_any h (by omega) h.size _ k rfl (by omega) (by omega) _).mono ?_
      rintro eo w1 ⟨rfl, rfl⟩
      rw [HEN.out]
      go_wp2
      go_ret3
      exact ret3 rfl rfl (fun t ht => by cases ht; exact HL.out) HZZ.out (Below.refl _ _)
end Go.Proofs.Ytefneihlgclkbaa.fmwi
