/- Several texts in one: Trim, Base, Make, MakeI. -/
import Derived.Test.YtpcnoiigbmiejaaDoorRows
import Derived.Test.YtpcnoiigbmiejaaDoorPk1
import Derived.Test.YtpcnoiigbmiejaaDoorShelf
import Derived.RegionTactic
import Derived.ChangeAlike
import Derived.BigQuiet
import Derived.Deep.QuietTactic
import Derived.Laws.Concat
import Derived.WalkSpells
import Derived.Deep.RegionWith
import Derived.Deep.DeepCutAuto
/- strings.Trim at the cutset "01", by the library's shelf; the bits of a text. -/
namespace Go.Proofs.YtpcnoiigbmiejaaDoor.trim
set_option linter.unusedVariables false
set_option linter.unusedSimpArgs false
open Go.RowKit Go.Shelf

/-- every byte is a bit -/
def bitsB (s : ByteArray) : Bool := s.data.toList.all fun b => b == 48 || b == 49
theorem dropWhile_nil {p : UInt8 → Bool} : ∀ {l : List UInt8}, l.dropWhile p = [] ↔ l.all p = true
  | [] => by simp
  | a :: l => by
    by_cases h : p a = true
    · simp [List.dropWhile_cons, h, dropWhile_nil (l := l)]
    · simp [List.dropWhile_cons, h]
theorem dropWhile_all {p : UInt8 → Bool} : ∀ {l : List UInt8}, (l.dropWhile p).all p = l.all p
  | [] => by simp
  | a :: l => by
    by_cases h : p a = true
    · rw [List.dropWhile_cons, if_pos h, dropWhile_all (l := l), List.all_cons, h, Bool.true_and]
    · rw [List.dropWhile_cons, if_neg h]
theorem trimS_nil (l : List UInt8) : Lib.trimS l [48, 49] = [] ↔ l.all (fun b => b == 48 || b == 49) = true := by
  have e : (fun x => [(48 : UInt8), 49].contains x) = (fun b : UInt8 => b == 48 || b == 49) := by
    funext b; by_cases h1 : b = 48 <;> by_cases h2 : b = 49 <;> simp [List.contains_cons, h1, h2]
  unfold Lib.trimS Lib.trimLeftS Lib.trimRightS
  rw [e, dropWhile_nil, List.all_reverse, dropWhile_all, List.all_reverse]

theorem trim01 (s : ByteArray) (w : World) (hs : s.size ≤ 9223372036854775807) :
    Calls Tryd.prog 142 #[.string s, .string ⟨#[48, 49]⟩] w fun e w' => ∃ t : ByteArray, e = .returned (.string t) ∧ t.toList.isEmpty = bitsB s ∧ Below w.heap.size w w' := by
  have hcon := Any.strings_Trim_laid Tryd.lays160 (by kernel_rfl) s ⟨#[48, 49]⟩ w hs (by decide) (ascii_of_all (by decide))
  change Calls Tryd.prog 142 _ _ (fun e w' => e = .returned (.string ⟨(Lib.trimS s.data.toList [48, 49]).toArray⟩) ∧ Below w.heap.size w w') at hcon
  refine hcon.mono fun e w' ⟨he, hb⟩ => ⟨_, he, ?_, hb⟩
  have h := trimS_nil s.data.toList
  rw [ByteArray.toList_eq]
  show (Lib.trimS s.data.toList [48, 49]).isEmpty = bitsB s
  unfold bitsB
  cases hx : s.data.toList.all (fun b => b == 48 || b == 49) with
  | true => rw [h.2 hx]; rfl
  | false =>
    cases ht : Lib.trimS s.data.toList [48, 49] with
    | nil => rw [h.1 ht] at hx; cases hx
    | cons a l => rfl
end Go.Proofs.YtpcnoiigbmiejaaDoor.trim

/- Validity of structures and their bits, in the program and in the reference: contracts. -/
namespace Go.Proofs.YtpcnoiigbmiejaaDoor.base
set_option linter.unusedVariables false
set_option linter.unusedSimpArgs false
open Go.ChangeShapes Go.WideShapes Go.ChangeAt Go.RowKit
open Go.Proofs.YtpcnoiigbmiejaaDoor.lib Go.Proofs.YtpcnoiigbmiejaaDoor.st Go.Proofs.YtpcnoiigbmiejaaDoor.trim

/-- bit i of a text -/
def bitAt (s : ByteArray) (i : Nat) : Bool := s.data.toList.getD i 0 == 49
def abits (s : ByteArray) (n : Int) : Bool := decide ((s.size : Int) = n) && bitsB s
/-- a valid structure -/
def validB (n : Int) (s r : ByteArray) : Bool := decide (1 ≤ n ∧ n ≤ 8) && (abits s n && abits r (n * n))
def elemB (n : Int) (s r : ByteArray) (x : Int) : Bool := validB n s r && decide (0 ≤ x ∧ x < n)

theorem validB_iff {n : Int} {s r : ByteArray} : validB n s r = true ↔ (1 ≤ n ∧ n ≤ 8) ∧ (s.size : Int) = n ∧ (r.size : Int) = n * n ∧ bitsB s = true ∧ bitsB r = true := by
  simp only [validB, abits, Bool.and_eq_true, decide_eq_true_eq]; exact ⟨fun ⟨a, ⟨b, c⟩, d, e⟩ => ⟨a, b, d, c, e⟩, fun ⟨a, b, d, c, e⟩ => ⟨a, ⟨b, c⟩, d, e⟩⟩
theorem elemB_iff {n : Int} {s r : ByteArray} {x : Int} : elemB n s r x = true ↔ validB n s r = true ∧ 0 ≤ x ∧ x < n := by simp [elemB]

theorem bitAt_get (s : ByteArray) (i : Nat) (h : i < s.size) : bitAt s i = ((s[i].toNat : Int) == 49) := by
  unfold bitAt
  have e : s.data.toList.getD i 0 = s[i] := by
    rw [List.getD_eq_getElem?_getD, List.getElem?_eq_getElem (by simpa using h)]; rfl
  rw [e]
  by_cases h9 : s[i] = 49
  · simp [h9]
  · have : ¬ s[i].toNat = 49 := fun hh => h9 (by rw [← UInt8.toNat_inj]; simpa using hh)
    have h2 : ((s[i].toNat : Int) == 49) = false := by simp; omega
    rw [h2]; simpa using h9

theorem areBits_any (s : ByteArray) (n : Int) (w : World) (hs : s.size ≤ 9223372036854775807) :
    Calls Tryd.prog 102 #[.string s, .int .i64 n] w fun e w' => e = .returned (.bool (abits s n)) ∧ Below w.heap.size w w' := by
  by_cases hn : (s.size : Int) = n
  · have hb : ((s.size : Int) == n) = true := by simpa using hn
    have HE : Hid (abits s n = bitsB s) := by unfold Hid abits; rw [decide_eq_true hn]; simp
    clear hn
    go_enter Tryd.func102, Tryd.ntmps102
    go_wp2_with fail
    refine (trim01 s _ hs).mono ?_
    rintro e w1 ⟨t, rfl, ht, hw⟩
    have HW := Lib.hid hw
    have HT := Lib.hid ht
    clear hw ht
    go_wp2
    go_ret
    exact ⟨by rw [HE.out, ← HT.out]; rfl, HW.out⟩
  · have hb : ((s.size : Int) == n) = false := by simpa using hn
    have HE : Hid (abits s n = false) := by unfold Hid abits; rw [decide_eq_false hn]; simp
    clear hn
    go_enter Tryd.func102, Tryd.ntmps102
    go_wp2
    go_ret
    exact ⟨by rw [HE.out]; rfl, Below.refl _ _⟩

set_option maxHeartbeats 400000 in
theorem isStructure_any (n : Int) (s r : ByteArray) (w : World) (hs : s.size ≤ 9223372036854775807) (hr : r.size ≤ 9223372036854775807) :
    Calls Tryd.prog 49 #[.agg #[.int .i64 n, .string s, .string r]] w fun e w' => e = .returned (.bool (validB n s r)) ∧ Below w.heap.size w w' := by
  have BX : Hid (Box 24 (w.alloc (.cells #[.int .i64 n, .string s, .string r] 24)) w.heap.size n s r) := Box.new _ w _ rfl n s r
  have AW : Hid (Below w.heap.size w (w.alloc (.cells #[.int .i64 n, .string s, .string r] 24))) := (Below.refl _ _).alloc (Nat.le_refl _) _
  by_cases h1 : 1 ≤ n
  · by_cases h2 : n ≤ 8
    · have hv : validB n s r = (abits s n && abits r (n * n)) := by unfold validB; rw [decide_eq_true ⟨h1, h2⟩, Bool.true_and]
      have HV := Lib.hid hv
      clear hv
      have hnn : 0 ≤ n * n ∧ n * n ≤ 64 := by
        have : n = 1 ∨ n = 2 ∨ n = 3 ∨ n = 4 ∨ n = 5 ∨ n = 6 ∨ n = 7 ∨ n = 8 := by omega
        rcases this with rfl | rfl | rfl | rfl | rfl | rfl | rfl | rfl <;> decide
      go_enter Tryd.func49, Tryd.ntmps49
      go_wp2_with fail
      refine (areBits_any s n _ hs).mono ?_
      rintro e w1 ⟨rfl, hw⟩
      have AW1 : Hid (Below w.heap.size w w1) := AW.out.trans (hw.mono (by simp))
      obtain ⟨c0, c1, c2⟩ := (BX.out.below hw (by simp)).c
      clear hw
      cases hb : abits s n with
      | false =>
        have HE : Hid (validB n s r = false) := by rw [Hid, HV.out, hb, Bool.false_and]
        clear hb
        go_wp2
        go_ret
        exact ⟨by rw [HE.out]; rfl, AW1.out⟩
      | true =>
        have HE : Hid (validB n s r = abits r (n * n)) := by rw [Hid, HV.out, hb, Bool.true_and]
        clear hb
        go_wp2_with fail
        refine (areBits_any r (n * n) _ hr).mono ?_
        rintro e w2 ⟨rfl, hw⟩
        have AW2 : Hid (Below w.heap.size w w2) := AW1.out.trans (hw.mono AW1.out.size)
        clear hw
        go_wp2
        go_ret
        exact ⟨by rw [HE.out]; rfl, AW2.out⟩
    · have HE : Hid (validB n s r = false) := by unfold Hid validB; rw [decide_eq_false (by omega), Bool.false_and]
      go_enter Tryd.func49, Tryd.ntmps49
      go_wp2
      go_ret
      exact ⟨by rw [HE.out]; rfl, AW.out⟩
  · have HE : Hid (validB n s r = false) := by unfold Hid validB; rw [decide_eq_false (by omega), Bool.false_and]
    go_enter Tryd.func49, Tryd.ntmps49
    go_wp2
    go_ret
    exact ⟨by rw [HE.out]; rfl, AW.out⟩

set_option maxHeartbeats 400000 in
theorem hasElement_any (n : Int) (s r : ByteArray) (x : Int) (w : World) (hs : s.size ≤ 9223372036854775807) (hr : r.size ≤ 9223372036854775807) :
    Calls Tryd.prog 91 #[.agg #[.int .i64 n, .string s, .string r], .int .i64 x] w fun e w' => e = .returned (.bool (elemB n s r x)) ∧ Below w.heap.size w w' := by
  have BX : Hid (Box 24 (w.alloc (.cells #[.int .i64 n, .string s, .string r] 24)) w.heap.size n s r) := Box.new _ w _ rfl n s r
  have AW : Hid (Below w.heap.size w (w.alloc (.cells #[.int .i64 n, .string s, .string r] 24))) := (Below.refl _ _).alloc (Nat.le_refl _) _
  go_enter Tryd.func91, Tryd.ntmps91
  go_wp2_with fail
  refine (isStructure_any n s r _ hs hr).mono ?_
  rintro e w1 ⟨rfl, hw⟩
  have AW1 : Hid (Below w.heap.size w w1) := AW.out.trans (hw.mono (by simp))
  obtain ⟨c0, c1, c2⟩ := (BX.out.below hw (by simp)).c
  clear hw
  cases hb : validB n s r with
  | false =>
    have HE : Hid (elemB n s r x = false) := by rw [Hid, elemB, hb, Bool.false_and]
    clear hb
    go_wp2
    go_ret
    exact ⟨by rw [HE.out]; rfl, AW1.out⟩
  | true =>
    by_cases h0 : 0 ≤ x
    · by_cases h1 : x < n
      all_goals
        have HE : Hid (elemB n s r x = decide (x < n)) := by rw [Hid, elemB, hb, Bool.true_and]; simp [h0]
        clear hb
        go_wp2
        go_ret
        exact ⟨by rw [HE.out]; simp [h1], AW1.out⟩
    · have HE : Hid (elemB n s r x = false) := by rw [Hid, elemB, decide_eq_false (by omega), Bool.and_false]
      clear hb
      go_wp2
      go_ret
      exact ⟨by rw [HE.out]; rfl, AW1.out⟩

/-! the bits -/
theorem inSet_any (n : Int) (s r : ByteArray) (x : Nat) (w : World) (hx : x < s.size) (hs : s.size ≤ 9223372036854775807) :
    Calls Tryd.prog 52 #[.agg #[.int .i64 n, .string s, .string r], .int .i64 x] w fun e w' => e = .returned (.bool (bitAt s x)) ∧ Below w.heap.size w w' := by
  have HB := Lib.hid (bitAt_get s x hx)
  have AW : Hid (Below w.heap.size w (w.alloc (.cells #[.int .i64 n, .string s, .string r] 24))) := (Below.refl _ _).alloc (Nat.le_refl _) _
  go_enter Tryd.func52, Tryd.ntmps52
  go_wp2
  go_ret
  exact ⟨by rw [HB.out]; rfl, AW.out⟩

theorem l1Set_any (n : Int) (s r : ByteArray) (x : Nat) (w : World) (hx : x < s.size) (hs : s.size ≤ 9223372036854775807) :
    Calls Tryd.prog 125 #[.agg #[.int .i64 n, .string s, .string r], .int .i64 x] w fun e w' => e = .returned (.bool (bitAt s x)) ∧ Below w.heap.size w w' := by
  have HB := Lib.hid (bitAt_get s x hx)
  have AW : Hid (Below w.heap.size w (w.alloc (.cells #[.int .i64 n, .string s, .string r] 24))) := (Below.refl _ _).alloc (Nat.le_refl _) _
  go_enter Tryd.func125, Tryd.ntmps125
  go_wp2
  go_ret
  exact ⟨by rw [HB.out]; rfl, AW.out⟩

theorem bitOf_any (b : Bool) (w : World) :
    Calls Tryd.prog 105 #[.bool b] w fun e w' => e = .returned (.string ⟨#[if b then 49 else 48]⟩) ∧ w = w' := by
  cases b
  all_goals
    go_enter Tryd.func105, Tryd.ntmps105
    go_wp2
    go_ret
    exact ⟨rfl, rfl⟩
theorem l1Bit_any (b : Bool) (w : World) :
    Calls Tryd.prog 141 #[.bool b] w fun e w' => e = .returned (.string ⟨#[if b then 49 else 48]⟩) ∧ w = w' := by
  cases b
  all_goals
    go_enter Tryd.func141, Tryd.ntmps141
    go_wp2
    go_ret
    exact ⟨rfl, rfl⟩

theorem mul_b {n x y : Nat} (hx : x < n) (hy : y < n) (hn : n ≤ 8) : (0 : Int) ≤ (x : Int) * (n : Int) ∧ (x : Int) * (n : Int) ≤ 64 ∧ (x : Int) * (n : Int) + (y : Int) < ((n * n : Nat) : Int) ∧ x * n + y < n * n := by
  have h1 : x * n + n ≤ n * n := by
    have : (x + 1) * n ≤ n * n := Nat.mul_le_mul (by omega) (Nat.le_refl _)
    rw [Nat.add_mul] at this; omega
  have h2 : n * n ≤ 8 * 8 := Nat.mul_le_mul hn hn
  have h3 : ((x * n : Nat) : Int) = (x : Int) * (n : Int) := Int.natCast_mul x n
  omega

theorem inRel_any (n : Nat) (s r : ByteArray) (x y : Nat) (w : World) (hx : x < n) (hy : y < n) (hn : n ≤ 8) (hr : r.size = n * n) :
    Calls Tryd.prog 55 #[.agg #[.int .i64 n, .string s, .string r], .int .i64 x, .int .i64 y] w fun e w' => e = .returned (.bool (bitAt r (x * n + y))) ∧ Below w.heap.size w w' := by
  obtain ⟨m1, m2, m3, m4⟩ := mul_b hx hy hn
  have h6 : x * n + y < r.size := by omega
  have HB := Lib.hid (bitAt_get r (x * n + y) h6)
  have h5 : (x : Int) * (n : Int) + (y : Int) < (r.size : Int) := by rw [hr]; exact m3
  have AW : Hid (Below w.heap.size w (w.alloc (.cells #[.int .i64 n, .string s, .string r] 24))) := (Below.refl _ _).alloc (Nat.le_refl _) _
  clear hr m3 m4
  go_enter Tryd.func55, Tryd.ntmps55
  go_wp2
  go_ret
  exact ⟨by rw [HB.out]; rfl, AW.out⟩

theorem l1Rel_any (n : Nat) (s r : ByteArray) (x y : Nat) (w : World) (hx : x < n) (hy : y < n) (hn : n ≤ 8) (hr : r.size = n * n) :
    Calls Tryd.prog 126 #[.agg #[.int .i64 n, .string s, .string r], .int .i64 x, .int .i64 y] w fun e w' => e = .returned (.bool (bitAt r (x * n + y))) ∧ Below w.heap.size w w' := by
  obtain ⟨m1, m2, m3, m4⟩ := mul_b hx hy hn
  have h6 : x * n + y < r.size := by omega
  have HB := Lib.hid (bitAt_get r (x * n + y) h6)
  have h5 : (x : Int) * (n : Int) + (y : Int) < (r.size : Int) := by rw [hr]; exact m3
  have AW : Hid (Below w.heap.size w (w.alloc (.cells #[.int .i64 n, .string s, .string r] 24))) := (Below.refl _ _).alloc (Nat.le_refl _) _
  clear hr m3 m4
  go_enter Tryd.func126, Tryd.ntmps126
  go_wp2
  go_ret
  exact ⟨by rw [HB.out]; rfl, AW.out⟩

/-! the reference's validity -/
theorem l1Bits_core (s : ByteArray) (n : Int) (w : World) (hs : s.size ≤ 9223372036854775807) :
    Calls Tryd.prog 123 #[.string s, .int .i64 n] w fun e w' => e = .returned (.bool (abits s n)) ∧ w = w' := by
  have hbits : ∀ k, (∀ j, j < k → (s.data.toList.getD j 0 == 48 || s.data.toList.getD j 0 == 49) = true) → k = s.size → bitsB s = true := by
    intro k h hk
    unfold bitsB
    rw [List.all_eq_true]
    intro b hb
    obtain ⟨j, hj, rfl⟩ := List.mem_iff_getElem.1 hb
    have := h j (by rw [hk]; simpa using hj)
    rwa [List.getD_eq_getElem?_getD, List.getElem?_eq_getElem hj] at this
  have hnot : ∀ k, k < s.size → (s.data.toList.getD k 0 == 48 || s.data.toList.getD k 0 == 49) = false → bitsB s = false := by
    intro k hk h
    unfold bitsB
    rw [List.all_eq_false]
    refine ⟨s.data.toList.getD k 0, ?_, by rw [h]; simp⟩
    rw [List.getD_eq_getElem?_getD, List.getElem?_eq_getElem (by simpa using hk)]
    exact List.getElem_mem _
  have hget : ∀ k (h : k < s.size), s.data.toList.getD k 0 = s[k] := by
    intro k h
    rw [List.getD_eq_getElem?_getD, List.getElem?_eq_getElem (by simpa using h)]; rfl
  have HB := Lib.hid (show _ ∧ _ ∧ _ from ⟨hbits, hnot, hget⟩)
  clear hbits hnot hget
  go_enter Tryd.func123, Tryd.ntmps123
  go_wp2
  go_loop [5] (fun i => ∃ k : Nat, k ≤ s.size ∧ i = .int .i64 k ∧ Hid (∀ j, j < k → (s.data.toList.getD j 0 == 48 || s.data.toList.getD j 0 == 49) = true)) (fun i => s.size - (intOf i).toNat)
  case atStart => exact ⟨0, Nat.zero_le _, rfl, fun j hj => by omega⟩
  case round =>
    obtain ⟨k, hk, rfl, hrel⟩ := hrel
    by_cases hlt : k < s.size
    · have hg := HB.out.2.2 k hlt
      have HG := Lib.hid hg
      clear hg
      by_cases h8 : s[k].toNat = 48
      · have e8 : ((s[k].toNat : Int) != 48) = false := by simp; omega
        have HS : Hid (∀ j, j < k + 1 → (s.data.toList.getD j 0 == 48 || s.data.toList.getD j 0 == 49) = true) := by
          intro j hj
          by_cases hjk : j = k
          · subst hjk
            rw [HG.out]
            have : s[j] = 48 := by rw [← UInt8.toNat_inj]; simpa using h8
            rw [this]; rfl
          · exact hrel j (by omega)
        clear hrel h8
        go_wp2
        go_round
        case rel => exact ⟨k + 1, by omega, by go_num, HS⟩
        case measure => simp [intOf]; omega
      · have e8 : ((s[k].toNat : Int) != 48) = true := by simp; omega
        by_cases h9 : s[k].toNat = 49
        · have e9 : ((s[k].toNat : Int) != 49) = false := by simp; omega
          have HS : Hid (∀ j, j < k + 1 → (s.data.toList.getD j 0 == 48 || s.data.toList.getD j 0 == 49) = true) := by
            intro j hj
            by_cases hjk : j = k
            · subst hjk
              rw [HG.out]
              have : s[j] = 49 := by rw [← UInt8.toNat_inj]; simpa using h9
              rw [this]; rfl
            · exact hrel j (by omega)
          clear hrel h8 h9
          go_wp2
          go_round
          case rel => exact ⟨k + 1, by omega, by go_num, HS⟩
          case measure => simp [intOf]; omega
        · have e9 : ((s[k].toNat : Int) != 49) = true := by simp; omega
          have HE : Hid (abits s n = false) := by
            unfold Hid abits
            rw [HB.out.2.1 k hlt, Bool.and_false]
            rw [HG.out]
            have h1 : (s[k] == 48) = false := by simp only [beq_eq_false_iff_ne, ne_eq]; intro h; rw [h] at h8; exact h8 rfl
            have h2 : (s[k] == 49) = false := by simp only [beq_eq_false_iff_ne, ne_eq]; intro h; rw [h] at h9; exact h9 rfl
            rw [h1, h2]; rfl
          clear hrel h8 h9
          go_wp2
          go_ret
          exact ⟨by rw [HE.out]; rfl, rfl⟩
    · obtain rfl : k = s.size := by omega
      have hb := HB.out.1 _ hrel.out rfl
      by_cases hn : (s.size : Int) = n
      · have e1 : ((s.size : Int) == n) = true := by simpa using hn
        have HE : Hid (abits s n = true) := by unfold Hid abits; rw [hb, decide_eq_true hn]; rfl
        clear hb hrel hn
        go_wp2
        go_ret
        exact ⟨by rw [HE.out]; rfl, rfl⟩
      · have e1 : ((s.size : Int) == n) = false := by simpa using hn
        have HE : Hid (abits s n = false) := by unfold Hid abits; rw [decide_eq_false hn]; rfl
        clear hb hrel hn
        go_wp2
        go_ret
        exact ⟨by rw [HE.out]; rfl, rfl⟩

set_option maxHeartbeats 400000 in
theorem StructureValid_any (n : Int) (s r : ByteArray) (w : World) (hs : s.size ≤ 9223372036854775807) (hr : r.size ≤ 9223372036854775807) :
    Calls Tryd.prog 73 #[.agg #[.int .i64 n, .string s, .string r]] w fun e w' => e = .returned (.bool (validB n s r)) ∧ Below w.heap.size w w' := by
  have AW : Hid (Below w.heap.size w (w.alloc (.cells #[.int .i64 n, .string s, .string r] 24))) := (Below.refl _ _).alloc (Nat.le_refl _) _
  by_cases h12 : 1 ≤ n ∧ n ≤ 8
  · have hv : validB n s r = (abits s n && abits r (n * n)) := by unfold validB; rw [decide_eq_true h12, Bool.true_and]
    have hd : basic.inB n 1 8 = true := decide_eq_true h12
    have HV := Lib.hid hv
    clear hv
    obtain ⟨h1, h2⟩ := h12
    have hnn : 0 ≤ n * n ∧ n * n ≤ 64 := by
      have : n = 1 ∨ n = 2 ∨ n = 3 ∨ n = 4 ∨ n = 5 ∨ n = 6 ∨ n = 7 ∨ n = 8 := by omega
      rcases this with rfl | rfl | rfl | rfl | rfl | rfl | rfl | rfl <;> decide
    go_enter Tryd.func73, Tryd.ntmps73
    go_wp2_with fail
    refine (basic.l1In_any _ _ _ _).mono ?_
    rintro e w1 ⟨rfl, rfl⟩
    rw [hd]
    clear hd
    go_wp2_with fail
    refine (l1Bits_core s n _ hs).mono ?_
    rintro e w1 ⟨rfl, rfl⟩
    cases hb : abits s n with
    | false =>
      have HE : Hid (validB n s r = false) := by rw [Hid, HV.out, hb, Bool.false_and]
      clear hb
      go_wp2
      go_ret
      exact ⟨by rw [HE.out]; rfl, AW.out⟩
    | true =>
      have HE : Hid (validB n s r = abits r (n * n)) := by rw [Hid, HV.out, hb, Bool.true_and]
      clear hb
      go_wp2_with fail
      refine (l1Bits_core r (n * n) _ hr).mono ?_
      rintro e w2 ⟨rfl, rfl⟩
      go_wp2
      go_ret
      exact ⟨by rw [HE.out]; rfl, AW.out⟩
  · have HE : Hid (validB n s r = false) := by unfold Hid validB; rw [decide_eq_false h12, Bool.false_and]
    have hd : basic.inB n 1 8 = false := decide_eq_false h12
    clear h12
    go_enter Tryd.func73, Tryd.ntmps73
    go_wp2_with fail
    refine (basic.l1In_any _ _ _ _).mono ?_
    rintro e w1 ⟨rfl, rfl⟩
    rw [hd]
    clear hd
    go_wp2
    go_ret
    exact ⟨by rw [HE.out]; rfl, AW.out⟩

end Go.Proofs.YtpcnoiigbmiejaaDoor.base

/- makeStructure: a structure out of two tests. -/
namespace Go.Proofs.YtpcnoiigbmiejaaDoor.make
set_option linter.unusedVariables false
set_option linter.unusedSimpArgs false
open Go.ChangeShapes Go.WideShapes Go.ChangeAt Go.RowKit
open Go.Proofs.YtpcnoiigbmiejaaDoor.lib Go.Proofs.YtpcnoiigbmiejaaDoor.st Go.Proofs.YtpcnoiigbmiejaaDoor.base

def bit1 (b : Bool) : ByteArray := ⟨#[if b then 49 else 48]⟩
/-- the bits of a test -/
def bS (p : Nat → Bool) : Nat → ByteArray
  | 0 => ⟨#[]⟩
  | k + 1 => bS p k ++ bit1 (p k)
/-- a text with a row of bits behind it -/
def bRow (acc : ByteArray) (q : Nat → Bool) : Nat → ByteArray
  | 0 => acc
  | k + 1 => bRow acc q k ++ bit1 (q k)
/-- the rows of a test of pairs -/
def bR (q : Nat → Nat → Bool) (n : Nat) : Nat → ByteArray
  | 0 => ⟨#[]⟩
  | k + 1 => bRow (bR q n k) (q k) n
theorem bit1_size (b : Bool) : (bit1 b).size = 1 := rfl
theorem bS_size (p : Nat → Bool) : ∀ k, (bS p k).size = k
  | 0 => rfl
  | k + 1 => by rw [bS, ByteArray.size_append, bS_size p k, bit1_size]
theorem bRow_size (acc : ByteArray) (q : Nat → Bool) : ∀ k, (bRow acc q k).size = acc.size + k
  | 0 => rfl
  | k + 1 => by rw [bRow, ByteArray.size_append, bRow_size acc q k, bit1_size]; omega
theorem bR_size (q : Nat → Nat → Bool) (n : Nat) : ∀ k, (bR q n k).size = k * n
  | 0 => by rw [bR, Nat.zero_mul]; rfl
  | k + 1 => by rw [bR, bRow_size, bR_size q n k, Nat.succ_mul]

theorem bitOf_at (b : Bool) (w : World) : Calls Tryd.prog 105 #[.bool b] w fun e w' => e = .returned (.string (bit1 b)) ∧ w = w' := bitOf_any b w

/-- a function value that is called enters its function -/
def Enters (f : FuncId) : Prop := ∀ (args : Array Value) (W : World), (callFunc f args).run Tryd.prog W = .ok (.enter f args) W
theorem enters_of {f : FuncId} {fn : Func} (hf : Tryd.prog.funcs[f]? = some fn) (hname : (fn.name == "runtime.NumGoroutine") = false) (hb : fn.body.isNone = false) : Enters f := by
  intro args W
  have h1 : fn.name ≠ "runtime.NumGoroutine" := by simpa using hname
  have h2 : ¬ fn.body = none := by intro h; rw [h] at hb; cases hb
  simp [callFunc, hf, h1, h2]

set_option maxHeartbeats 3200000 in
set_option maxRecDepth 100000 in
theorem make_any (n : Nat) (hn : n ≤ 8) (fS fR : FuncId) (cS cR : Array Value) (p : Nat → Bool) (q : Nat → Nat → Bool) (w : World) (eS : Enters fS) (eR : Enters fR)
    (hS : ∀ W, Below w.heap.size w W → ∀ x : Nat, x < n → Calls Tryd.prog fS (#[.int .i64 x] ++ cS) W fun e W' => e = .returned (.bool (p x)) ∧ Below W.heap.size W W')
    (hR : ∀ W, Below w.heap.size w W → ∀ x y : Nat, x < n → y < n → Calls Tryd.prog fR (#[.int .i64 x, .int .i64 y] ++ cR) W fun e W' => e = .returned (.bool (q x y)) ∧ Below W.heap.size W W') :
    Calls Tryd.prog 53 #[.int .i64 n, .func (.func fS) #[] cS, .func (.func fR) #[] cR] w fun e w' => e = .returned (.agg #[.int .i64 n, .string (bS p n), .string (bR q n n)]) ∧ Below w.heap.size w w' := by
  unfold Enters at eS eR
  have HS := Lib.hid hS
  have HR := Lib.hid hR
  clear hS hR
  obtain ⟨HB, hHB⟩ : ∃ HB, HB = w.heap.size + 1 := ⟨_, rfl⟩
  have HBS : Hid ((w.alloc (.cells #[.int .i64 0, .string ⟨#[]⟩, .string ⟨#[]⟩] 24)).heap.size = HB) := by rw [hHB]; simp [Hid]
  have AW : Hid (Below w.heap.size w (w.alloc (.cells #[.int .i64 0, .string ⟨#[]⟩, .string ⟨#[]⟩] 24))) := (Below.refl _ _).alloc (Nat.le_refl _) _
  have B0 : Hid (Box 24 ((w.alloc (.cells #[.int .i64 0, .string ⟨#[]⟩, .string ⟨#[]⟩] 24)).alloc (.cells #[.int .i64 n, .string ⟨#[]⟩, .string ⟨#[]⟩] 24)) (w.heap.size + 1) n (bS p 0) (bR q n 0)) := Box.new _ _ _ (by simp) _ _ _
  have hb0 : Hid (Below HB (w.alloc (.cells #[.int .i64 0, .string ⟨#[]⟩, .string ⟨#[]⟩] 24)) ((w.alloc (.cells #[.int .i64 0, .string ⟨#[]⟩, .string ⟨#[]⟩] 24)).alloc (.cells #[.int .i64 n, .string ⟨#[]⟩, .string ⟨#[]⟩] 24))) := (Below.refl _ _).alloc (by simp; omega) _
  have BZ : Hid (Box 24 (w.alloc (.cells #[.int .i64 0, .string ⟨#[]⟩, .string ⟨#[]⟩] 24)) w.heap.size 0 ⟨#[]⟩ ⟨#[]⟩) := Box.new _ w _ rfl _ _ _
  have HHB := Lib.hid hHB
  clear hHB
  go_enter Tryd.func53, Tryd.ntmps53
  go_wp2
  go_loopw [13] (fun i wr => ∃ k : Nat, k ≤ n ∧ i = .int .i64 k ∧ Box 24 wr (w.heap.size + 1) n (bS p k) (bR q n k) ∧ Below HB (w.alloc (.cells #[.int .i64 0, .string ⟨#[]⟩, .string ⟨#[]⟩] 24)) wr) (fun i _ => n - (intOf i).toNat)
  case atStart => exact ⟨0, Nat.zero_le _, rfl, B0.out, hb0.out⟩
  case round =>
    obtain ⟨k, hk, rfl, hbox, hnx⟩ := hrel
    have HO := Lib.hid hbox
    have HX := Lib.hid hnx
    clear hbox hnx
    by_cases hlt : k < n
    · go_wp2_with fail
      go_cut [13] from 13 to 38 (fun i wx => i = .int .i64 k ∧ Box 24 wx (w.heap.size + 1) n (bS p (k + 1)) (bR q n k) ∧ Below HB (w.alloc (.cells #[.int .i64 0, .string ⟨#[]⟩, .string ⟨#[]⟩] 24)) wx)
      case first =>
        obtain ⟨c0, c1, c2⟩ := HO.out.c
        have AWD : Hid (Below w.heap.size w wr.drew) := (AW.out.trans (HX.out.mono (by have := HHB.out; omega))).drew
        have hadd : ∀ W, (Op.stringOp .add (bS p k) (bit1 (p k))).run Tryd.prog W = .ok (.string (bS p (k + 1))) W := fun W => run_string_add_sum W _ _ (by rw [bS_size, bit1_size]; omega)
        have HOlt := Lib.hid HO.out.lt
        go_region_with (first
          | (go_at_call 105; refine (bitOf_at _ _).mono ?_; rintro e X2 ⟨rfl, rfl⟩)
          | (with_reducible show Calls _ fS _ _ _; refine (HS.out wr.drew AWD.out k hlt).mono ?_; rintro e X ⟨rfl, hb⟩; have BX2 := Box.below (w := wr.drew) HO.out hb HOlt.out; obtain ⟨d0, d1, d2⟩ := BX2.c; have f1 := BX2.free 1))
        all_goals go_wp2_with fail
        all_goals go_meet
        all_goals exact ⟨rfl, BX2.set1 _, (HX.out.drew.trans (hb.mono (by have h1 := HX.out.size; have h2 := HBS.out; show HB ≤ wr.heap.size; omega))).setCell (by have := HHB.out; show HB ≤ w.heap.size + 1; omega) _⟩
      case rest =>
        obtain ⟨rfl, hbx, hnx⟩ := hcut
        have HO2 := Lib.hid hbx
        have HX2 := Lib.hid hnx
        clear hbx hnx HO HX
        go_wp2
        go_loopw [25] (fun i wr => ∃ j : Nat, j ≤ n ∧ i = .int .i64 j ∧ Box 24 wr (w.heap.size + 1) n (bS p (k + 1)) (bRow (bR q n k) (q k) j) ∧ Below HB (w.alloc (.cells #[.int .i64 0, .string ⟨#[]⟩, .string ⟨#[]⟩] 24)) wr) (fun i _ => n - (intOf i).toNat)
        case atStart => exact ⟨0, Nat.zero_le _, rfl, HO2.out, HX2.out⟩
        case round =>
          obtain ⟨j, hj, rfl, hbox, hnx⟩ := hrel
          have HO := Lib.hid hbox
          have HX := Lib.hid hnx
          clear hbox hnx
          by_cases hlj : j < n
          · go_wp2_with fail
            obtain ⟨c0, c1, c2⟩ := HO.out.c
            have AWD : Hid (Below w.heap.size w wr.drew) := (AW.out.trans (HX.out.mono (by have := HHB.out; omega))).drew
            have hadd : ∀ W, (Op.stringOp .add (bRow (bR q n k) (q k) j) (bit1 (q k j))).run Tryd.prog W = .ok (.string (bRow (bR q n k) (q k) (j + 1))) W := fun W => run_string_add_sum W _ _ (by
              rw [bRow_size, bR_size, bit1_size]
              have : k * n ≤ 8 * 8 := Nat.mul_le_mul (by omega) hn
              omega)
            have HOlt := Lib.hid HO.out.lt
            go_region_with (first
              | (go_at_call 105; refine (bitOf_at _ _).mono ?_; rintro e X2 ⟨rfl, rfl⟩)
              | (with_reducible show Calls _ fR _ _ _; refine (HR.out wr.drew AWD.out k j hlt hlj).mono ?_; rintro e X ⟨rfl, hb⟩; have BX2 := Box.below (w := wr.drew) HO.out hb HOlt.out; obtain ⟨d0, d1, d2⟩ := BX2.c; have f1 := BX2.free 2))
            all_goals
              have R : Hid (Box 24 (X.setCell ⟨w.heap.size + 1, 2, none⟩ (.string (bRow (bR q n k) (q k) (j + 1)))) (w.heap.size + 1) n (bS p (k + 1)) (bRow (bR q n k) (q k) (j + 1)) ∧ Below HB (w.alloc (.cells #[.int .i64 0, .string ⟨#[]⟩, .string ⟨#[]⟩] 24)) (X.setCell ⟨w.heap.size + 1, 2, none⟩ (.string (bRow (bR q n k) (q k) (j + 1))))) :=
                ⟨BX2.set2 _, (HX.out.drew.trans (hb.mono (by have h1 := HX.out.size; have h2 := HBS.out; show HB ≤ wr.heap.size; omega))).setCell (by have := HHB.out; show HB ≤ w.heap.size + 1; omega) _⟩
              clear BX2 hb d0 d1 d2 f1 c0 c1 c2 hadd
              go_wp2
              go_roundw
              case rel => exact ⟨j + 1, by omega, by go_num, R.out.1, R.out.2⟩
              case measure => simp [intOf]; omega
          · obtain rfl : j = n := by omega
            have R : Hid (Box 24 wr (w.heap.size + 1) j (bS p (k + 1)) (bR q j (k + 1)) ∧ Below HB (w.alloc (.cells #[.int .i64 0, .string ⟨#[]⟩, .string ⟨#[]⟩] 24)) wr) := ⟨HO.out, HX.out⟩
            clear HO HX
            go_wp2
            go_roundw
            case rel => exact ⟨k + 1, by omega, by go_num, R.out.1, R.out.2⟩
            case measure => simp [intOf]; omega
    · obtain rfl : k = n := by omega
      obtain ⟨c0, c1, c2⟩ := HO.out.c
      have BZ2 := Box.below BZ.out HX.out (by have := HHB.out; omega)
      obtain ⟨z0, z1, z2⟩ := BZ2.c
      have f0 := BZ2.free 0
      have f1 := BZ2.free 1
      have f2 := BZ2.free 2
      have BE := ((BZ2.set0 k).set1 (bS p k)).set2 (bR q k k)
      obtain ⟨e0, e1, e2⟩ := BE.c
      have HE := Lib.hid (show _ ∧ _ ∧ _ from ⟨e0, e1, e2⟩)
      have R : Hid (Below w.heap.size w (((wr.setCell ⟨w.heap.size, 0, none⟩ (.int .i64 k)).setCell ⟨w.heap.size, 1, none⟩ (.string (bS p k))).setCell ⟨w.heap.size, 2, none⟩ (.string (bR q k k)))) :=
        (((AW.out.trans (HX.out.mono (by have := HHB.out; omega))).setCell (by simp) _).setCell (by simp) _).setCell (by simp) _
      clear BZ2 e0 e1 e2 BE
      go_wp2
      exact bodyPost_ret (v := .agg #[.int .i64 k, .string (bS p k), .string (bR q k k)]) (by simp [results, Tryd.results53, go_sem, HE.out.1, HE.out.2.1, HE.out.2.2]) rfl ⟨rfl, R.out⟩
theorem make_at (n : Nat) (i : Int) (hi : i = n) (hn : n ≤ 8) (fS fR : FuncId) (cS cR : Array Value) (p : Nat → Bool) (q : Nat → Nat → Bool) (w : World) (eS : Enters fS) (eR : Enters fR)
    (hS : ∀ W, Below w.heap.size w W → ∀ x : Nat, x < n → Calls Tryd.prog fS (#[.int .i64 x] ++ cS) W fun e W' => e = .returned (.bool (p x)) ∧ Below W.heap.size W W')
    (hR : ∀ W, Below w.heap.size w W → ∀ x y : Nat, x < n → y < n → Calls Tryd.prog fR (#[.int .i64 x, .int .i64 y] ++ cR) W fun e W' => e = .returned (.bool (q x y)) ∧ Below W.heap.size W W') :
    Calls Tryd.prog 53 #[.int .i64 i, .func (.func fS) #[] cS, .func (.func fR) #[] cR] w fun e w' => e = .returned (.agg #[.int .i64 n, .string (bS p n), .string (bR q n n)]) ∧ Below w.heap.size w w' := by
  subst hi
  exact make_any n hn fS fR cS cR p q w eS eR hS hR
end Go.Proofs.YtpcnoiigbmiejaaDoor.make

/- makeStructure with a test that writes: a structure out of two tests, one of which keeps an invariant. -/
namespace Go.Proofs.YtpcnoiigbmiejaaDoor.make
set_option linter.unusedVariables false
set_option linter.unusedSimpArgs false
open Go.ChangeShapes Go.WideShapes Go.ChangeAt Go.RowKit
open Go.Proofs.YtpcnoiigbmiejaaDoor.lib Go.Proofs.YtpcnoiigbmiejaaDoor.st Go.Proofs.YtpcnoiigbmiejaaDoor.base

/-- what is known between the steps -/
structure MI (Inv : World → Prop) (w : World) (C n : Nat) (S R : ByteArray) (W : World) : Prop where
  box : Box 24 W (w.heap.size + 1) n S R
  res : Box 24 W w.heap.size 0 ⟨#[]⟩ ⟨#[]⟩
  inv : Inv W
  bel : Below C w W
/-- the invariant lasts where old blocks stay as they were, but for one -/
def Lasts (Inv : World → Prop) (H : Nat) : Prop := ∀ W W' : World, Inv W → W'.os = W.os ∧ W'.tape = W.tape ∧ W'.output = W.output → W.heap.size ≤ W'.heap.size → (∀ k, k < W.heap.size → k ≠ H → W'.heap[k]? = W.heap[k]?) → Inv W'
section
variable {Inv : World → Prop} {w : World} {C n : Nat} {S R : ByteArray} {W W' : World}
theorem MI.pure (h : MI Inv w C n S R W) (hl : Lasts Inv (w.heap.size + 1)) (hC : C ≤ w.heap.size) (hb : Below W.heap.size W W') : MI Inv w C n S R W' :=
  ⟨h.box.below hb h.box.lt, h.res.below hb h.res.lt, hl W W' h.inv ⟨hb.os, hb.tape, hb.output⟩ hb.size fun k hk _ => hb.block k hk, h.bel.trans (hb.mono (Nat.le_trans hC h.bel.size))⟩
theorem MI.call (h : MI Inv w C n S R W) (hi : Inv W') (hb : Below C W W') (e0 : W'.heap[w.heap.size]? = W.heap[w.heap.size]?) (e1 : W'.heap[w.heap.size + 1]? = W.heap[w.heap.size + 1]?) : MI Inv w C n S R W' :=
  ⟨e1.trans h.box, e0.trans h.res, hi, h.bel.trans hb⟩
theorem MI.sets (h : MI Inv w C n S R W) (hl : Lasts Inv (w.heap.size + 1)) (hC : C ≤ w.heap.size) (o : Nat) (v : Value) {S' R' : ByteArray} (hb : Box 24 (W.setCell ⟨w.heap.size + 1, o, none⟩ v) (w.heap.size + 1) n S' R') : MI Inv w C n S' R' (W.setCell ⟨w.heap.size + 1, o, none⟩ v) :=
  ⟨hb, (heap_setCell_other _ _ _ _ (by show w.heap.size ≠ w.heap.size + 1; omega)).trans h.res, hl _ _ h.inv ⟨rfl, rfl, rfl⟩ (by simp) fun k hk hne => heap_setCell_other _ _ _ _ (by show k ≠ w.heap.size + 1; exact hne), h.bel.setCell (by show C ≤ w.heap.size + 1; omega) _⟩
theorem MI.set1 (h : MI Inv w C n S R W) (hl : Lasts Inv (w.heap.size + 1)) (hC : C ≤ w.heap.size) (S' : ByteArray) : MI Inv w C n S' R (W.setCell ⟨w.heap.size + 1, 1, none⟩ (.string S')) := h.sets hl hC 1 _ (h.box.set1 S')
theorem MI.set2 (h : MI Inv w C n S R W) (hl : Lasts Inv (w.heap.size + 1)) (hC : C ≤ w.heap.size) (R' : ByteArray) : MI Inv w C n S R' (W.setCell ⟨w.heap.size + 1, 2, none⟩ (.string R')) := h.sets hl hC 2 _ (h.box.set2 R')
end

set_option maxHeartbeats 3200000 in
set_option maxRecDepth 100000 in
theorem make_inv (n : Nat) (hn : n ≤ 8) (fS fR : FuncId) (vS : Value) (cR : Array Value) (p : Nat → Bool) (q : Nat → Nat → Bool) (w : World) (C : Nat) (Inv : World → Prop) (hC : C ≤ w.heap.size) (eS : Enters fS) (eR : Enters fR)
    (h0 : ∀ W, Below w.heap.size w W → Inv W) (hl : Lasts Inv (w.heap.size + 1))
    (hS : ∀ W, Inv W → ∀ x : Nat, x < n → Calls Tryd.prog fS #[vS, .int .i64 x] W fun e W' => e = .returned (.bool (p x)) ∧ Below W.heap.size W W')
    (hR : ∀ W, Inv W → w.heap.size + 1 < W.heap.size → ∀ x y : Nat, x < n → y < n → Calls Tryd.prog fR (#[.int .i64 x, .int .i64 y] ++ cR) W fun e W' => e = .returned (.bool (q x y)) ∧ Inv W' ∧ Below C W W' ∧ W'.heap[w.heap.size]? = W.heap[w.heap.size]? ∧ W'.heap[w.heap.size + 1]? = W.heap[w.heap.size + 1]?) :
    Calls Tryd.prog 53 #[.int .i64 n, .func (.func fS) #[vS] #[], .func (.func fR) #[] cR] w fun e w' => e = .returned (.agg #[.int .i64 n, .string (bS p n), .string (bR q n n)]) ∧ Below C w w' := by
  unfold Enters at eS eR
  have HS := Lib.hid hS
  have HR := Lib.hid hR
  have HL := Lib.hid hl
  have HC := Lib.hid hC
  have hb0 : Below w.heap.size w ((w.alloc (.cells #[.int .i64 0, .string ⟨#[]⟩, .string ⟨#[]⟩] 24)).alloc (.cells #[.int .i64 n, .string ⟨#[]⟩, .string ⟨#[]⟩] 24)) := ((Below.refl _ _).alloc (Nat.le_refl _) _).alloc (by simp) _
  have M0 : Hid (MI Inv w C n (bS p 0) (bR q n 0) ((w.alloc (.cells #[.int .i64 0, .string ⟨#[]⟩, .string ⟨#[]⟩] 24)).alloc (.cells #[.int .i64 n, .string ⟨#[]⟩, .string ⟨#[]⟩] 24))) :=
    ⟨Box.new _ _ _ (by simp) _ _ _, (Box.new _ w _ rfl _ _ _ : Box 24 (w.alloc (.cells #[.int .i64 0, .string ⟨#[]⟩, .string ⟨#[]⟩] 24)) w.heap.size 0 ⟨#[]⟩ ⟨#[]⟩).below ((Below.refl (w.heap.size + 1) _).alloc (by simp) _) (by omega), h0 _ hb0, hb0.mono hC⟩
  clear hS hR hl hC h0 hb0
  go_enter Tryd.func53, Tryd.ntmps53
  go_wp2
  go_loopw [13] (fun i wr => ∃ k : Nat, k ≤ n ∧ i = .int .i64 k ∧ MI Inv w C n (bS p k) (bR q n k) wr) (fun i _ => n - (intOf i).toNat)
  case atStart => exact ⟨0, Nat.zero_le _, rfl, M0.out⟩
  case round =>
    clear M0
    obtain ⟨k, hk, rfl, hmi⟩ := hrel
    have HO := Lib.hid hmi
    clear hmi
    by_cases hlt : k < n
    · go_wp2_with fail
      go_cut [13] from 13 to 38 (fun i wx => i = .int .i64 k ∧ MI Inv w C n (bS p (k + 1)) (bR q n k) wx)
      case first =>
        obtain ⟨c0, c1, c2⟩ := HO.out.box.c
        have MD : Hid (MI Inv w C n (bS p k) (bR q n k) wr.drew) := HO.out.pure HL.out HC.out (Below.refl _ _).drew
        have hadd : ∀ W, (Op.stringOp .add (bS p k) (bit1 (p k))).run Tryd.prog W = .ok (.string (bS p (k + 1))) W := fun W => run_string_add_sum W _ _ (by rw [bS_size, bit1_size]; omega)
        go_region_with (first
          | (go_at_call 105; refine (bitOf_at _ _).mono ?_; rintro e X2 ⟨rfl, rfl⟩)
          | (with_reducible show Calls _ fS _ _ _; refine (HS.out wr.drew MD.out.inv k hlt).mono ?_; rintro e X ⟨rfl, hb⟩; have MX := MD.out.pure HL.out HC.out hb; obtain ⟨d0, d1, d2⟩ := MX.box.c; have f1 := MX.box.free 1))
        all_goals go_wp2_with fail
        all_goals go_meet
        all_goals exact ⟨rfl, MX.set1 HL.out HC.out _⟩
      case rest =>
        obtain ⟨rfl, hmi⟩ := hcut
        have HO2 := Lib.hid hmi
        clear hmi HO
        go_wp2
        go_loopw [25] (fun i wr => ∃ j : Nat, j ≤ n ∧ i = .int .i64 j ∧ MI Inv w C n (bS p (k + 1)) (bRow (bR q n k) (q k) j) wr) (fun i _ => n - (intOf i).toNat)
        case atStart => exact ⟨0, Nat.zero_le _, rfl, HO2.out⟩
        case round =>
          clear HO2
          obtain ⟨j, hj, rfl, hmi⟩ := hrel
          have HO := Lib.hid hmi
          clear hmi
          by_cases hlj : j < n
          · go_wp2_with fail
            obtain ⟨c0, c1, c2⟩ := HO.out.box.c
            have MD : Hid (MI Inv w C n (bS p (k + 1)) (bRow (bR q n k) (q k) j) wr.drew) := HO.out.pure HL.out HC.out (Below.refl _ _).drew
            have hadd : ∀ W, (Op.stringOp .add (bRow (bR q n k) (q k) j) (bit1 (q k j))).run Tryd.prog W = .ok (.string (bRow (bR q n k) (q k) (j + 1))) W := fun W => run_string_add_sum W _ _ (by
              rw [bRow_size, bR_size, bit1_size]
              have : k * n ≤ 8 * 8 := Nat.mul_le_mul (by omega) hn
              omega)
            go_region_with (first
              | (go_at_call 105; refine (bitOf_at _ _).mono ?_; rintro e X2 ⟨rfl, rfl⟩)
              | (with_reducible show Calls _ fR _ _ _; refine (HR.out wr.drew MD.out.inv MD.out.box.lt k j hlt hlj).mono ?_; rintro e X ⟨rfl, hiv, hb, e0, e1⟩; have MX := MD.out.call hiv hb e0 e1; obtain ⟨d0, d1, d2⟩ := MX.box.c; have f1 := MX.box.free 2))
            all_goals
              have R : Hid (MI Inv w C n (bS p (k + 1)) (bRow (bR q n k) (q k) (j + 1)) (X.setCell ⟨w.heap.size + 1, 2, none⟩ (.string (bRow (bR q n k) (q k) (j + 1))))) := MX.set2 HL.out HC.out _
              clear MX hiv hb e0 e1 d0 d1 d2 f1 c0 c1 c2 hadd
              go_wp2
              go_roundw
              case rel => exact ⟨j + 1, by omega, by go_num, R.out⟩
              case measure => simp [intOf]; omega
          · obtain rfl : j = n := by omega
            have R : Hid (MI Inv w C j (bS p (k + 1)) (bR q j (k + 1)) wr) := HO.out
            clear HO
            go_wp2
            go_roundw
            case rel => exact ⟨k + 1, by omega, by go_num, R.out⟩
            case measure => simp [intOf]; omega
    · obtain rfl : k = n := by omega
      obtain ⟨c0, c1, c2⟩ := HO.out.box.c
      have BZ2 := HO.out.res
      obtain ⟨z0, z1, z2⟩ := BZ2.c
      have f0 := BZ2.free 0
      have f1 := BZ2.free 1
      have f2 := BZ2.free 2
      have BE := ((BZ2.set0 k).set1 (bS p k)).set2 (bR q k k)
      obtain ⟨e0, e1, e2⟩ := BE.c
      have HE := Lib.hid (show _ ∧ _ ∧ _ from ⟨e0, e1, e2⟩)
      have R : Hid (Below C w (((wr.setCell ⟨w.heap.size, 0, none⟩ (.int .i64 k)).setCell ⟨w.heap.size, 1, none⟩ (.string (bS p k))).setCell ⟨w.heap.size, 2, none⟩ (.string (bR q k k)))) :=
        ((HO.out.bel.setCell HC.out _).setCell HC.out _).setCell HC.out _
      clear BZ2 e0 e1 e2 BE
      go_wp2
      exact bodyPost_ret (v := .agg #[.int .i64 k, .string (bS p k), .string (bR q k k)]) (by simp [results, Tryd.results53, go_sem, HE.out.1, HE.out.2.1, HE.out.2.2]) rfl ⟨rfl, R.out⟩
end Go.Proofs.YtpcnoiigbmiejaaDoor.make
