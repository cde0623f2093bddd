/- Several texts in one: Trim, Base, Make. -/
import Derived.Test.YtpcnoiigbmiejaaGreatDoorRows
import Derived.Test.YtpcnoiigbmiejaaGreatDoorPk1
import Derived.Test.YtpcnoiigbmiejaaGreatDoorShelf
import Derived.RegionTactic
import Derived.ChangeAlike
import Derived.BigQuiet
import Derived.Deep.QuietTactic
import Derived.Laws.Concat
import Derived.WalkSpells
import Derived.Deep.RegionWith
import Derived.Deep.DeepCutAuto
/- strings.Trim at the cutset "01", by the library's shelf; the bits of a text. -/
namespace Go.Proofs.YtpcnoiigbmiejaaGreatDoor.trim
set_option linter.unusedVariables false
set_option linter.unusedSimpArgs false
open Go.RowKit Go.Shelf

/-- every byte is a bit -/
def bitsB (s : ByteArray) : Bool := s.data.toList.all fun b => b == 48 || b == 49
theorem dropWhile_nil {p : UInt8 → Bool} : ∀ {l : List UInt8}, l.dropWhile p = [] ↔ l.all p = true
  | [] => by simp
  | a :: l => by
    by_cases h : p a = true
    · simp [List.dropWhile_cons, h, dropWhile_nil (l := l)]
    · simp [List.dropWhile_cons, h]
theorem dropWhile_all {p : UInt8 → Bool} : ∀ {l : List UInt8}, (l.dropWhile p).all p = l.all p
  | [] => by simp
  | a :: l => by
    by_cases h : p a = true
    · rw [List.dropWhile_cons, if_pos h, dropWhile_all (l := l), List.all_cons, h, Bool.true_and]
    · rw [List.dropWhile_cons, if_neg h]
theorem trimS_nil (l : List UInt8) : Lib.trimS l [48, 49] = [] ↔ l.all (fun b => b == 48 || b == 49) = true := by
  have e : (fun x => [(48 : UInt8), 49].contains x) = (fun b : UInt8 => b == 48 || b == 49) := by
    funext b; by_cases h1 : b = 48 <;> by_cases h2 : b = 49 <;> simp [List.contains_cons, h1, h2]
  unfold Lib.trimS Lib.trimLeftS Lib.trimRightS
  rw [e, dropWhile_nil, List.all_reverse, dropWhile_all, List.all_reverse]

theorem trim01 (s : ByteArray) (w : World) (hs : s.size ≤ 9223372036854775807) :
    Calls Tryz.prog 106 #[.string s, .string ⟨#[48, 49]⟩] w fun e w' => ∃ t : ByteArray, e = .returned (.string t) ∧ t.toList.isEmpty = bitsB s ∧ Below w.heap.size w w' := by
  have hcon := Any.strings_Trim_laid Tryz.lays160 (by kernel_rfl) s ⟨#[48, 49]⟩ w hs (by decide) (ascii_of_all (by decide))
  change Calls Tryz.prog 106 _ _ (fun e w' => e = .returned (.string ⟨(Lib.trimS s.data.toList [48, 49]).toArray⟩) ∧ Below w.heap.size w w') at hcon
  refine hcon.mono fun e w' ⟨he, hb⟩ => ⟨_, he, ?_, hb⟩
  have h := trimS_nil s.data.toList
  rw [ByteArray.toList_eq]
  show (Lib.trimS s.data.toList [48, 49]).isEmpty = bitsB s
  unfold bitsB
  cases hx : s.data.toList.all (fun b => b == 48 || b == 49) with
  | true => rw [h.2 hx]; rfl
  | false =>
    cases ht : Lib.trimS s.data.toList [48, 49] with
    | nil => rw [h.1 ht] at hx; cases hx
    | cons a l => rfl
end Go.Proofs.YtpcnoiigbmiejaaGreatDoor.trim

/- Validity of structures and their bits, in the program and in the reference: contracts. -/
namespace Go.Proofs.YtpcnoiigbmiejaaGreatDoor.base
set_option linter.unusedVariables false
set_option linter.unusedSimpArgs false
open Go.ChangeShapes Go.WideShapes Go.ChangeAt Go.RowKit
open Go.Proofs.YtpcnoiigbmiejaaGreatDoor.lib Go.Proofs.YtpcnoiigbmiejaaGreatDoor.st Go.Proofs.YtpcnoiigbmiejaaGreatDoor.trim

/-- bit i of a text -/
def bitAt (s : ByteArray) (i : Nat) : Bool := s.data.toList.getD i 0 == 49
def abits (s : ByteArray) (n : Int) : Bool := decide ((s.size : Int) = n) && bitsB s
/-- a valid structure -/
def validB (n : Int) (s r : ByteArray) : Bool := decide (1 ≤ n ∧ n ≤ 8) && (abits s n && abits r (n * n))
def elemB (n : Int) (s r : ByteArray) (x : Int) : Bool := validB n s r && decide (0 ≤ x ∧ x < n)

theorem validB_iff {n : Int} {s r : ByteArray} : validB n s r = true ↔ (1 ≤ n ∧ n ≤ 8) ∧ (s.size : Int) = n ∧ (r.size : Int) = n * n ∧ bitsB s = true ∧ bitsB r = true := by
  simp only [validB, abits, Bool.and_eq_true, decide_eq_true_eq]; exact ⟨fun ⟨a, ⟨b, c⟩, d, e⟩ => ⟨a, b, d, c, e⟩, fun ⟨a, b, d, c, e⟩ => ⟨a, ⟨b, c⟩, d, e⟩⟩
theorem elemB_iff {n : Int} {s r : ByteArray} {x : Int} : elemB n s r x = true ↔ validB n s r = true ∧ 0 ≤ x ∧ x < n := by simp [elemB]

theorem bitAt_get (s : ByteArray) (i : Nat) (h : i < s.size) : bitAt s i = ((s[i].toNat : Int) == 49) := by
  unfold bitAt
  have e : s.data.toList.getD i 0 = s[i] := by
    rw [List.getD_eq_getElem?_getD, List.getElem?_eq_getElem (by simpa using h)]; rfl
  rw [e]
  by_cases h9 : s[i] = 49
  · simp [h9]
  · have : ¬ s[i].toNat = 49 := fun hh => h9 (by rw [← UInt8.toNat_inj]; simpa using hh)
    have h2 : ((s[i].toNat : Int) == 49) = false := by simp; omega
    rw [h2]; simpa using h9

theorem areBits_any (s : ByteArray) (n : Int) (w : World) (hs : s.size ≤ 9223372036854775807) :
    Calls Tryz.prog 72 #[.string s, .int .i64 n] w fun e w' => e = .returned (.bool (abits s n)) ∧ Below w.heap.size w w' := by
  by_cases hn : (s.size : Int) = n
  · have hb : ((s.size : Int) == n) = true := by simpa using hn
    have HE : Hid (abits s n = bitsB s) := by unfold Hid abits; rw [decide_eq_true hn]; simp
    clear hn
    go_enter Tryz.func72, Tryz.ntmps72
    go_wp2_with fail
    refine (trim01 s _ hs).mono ?_
    rintro e w1 ⟨t, rfl, ht, hw⟩
    have HW := Lib.hid hw
    have HT := Lib.hid ht
    clear hw ht
    go_wp2
    go_ret
    exact ⟨by rw [HE.out, ← HT.out]; rfl, HW.out⟩
  · have hb : ((s.size : Int) == n) = false := by simpa using hn
    have HE : Hid (abits s n = false) := by unfold Hid abits; rw [decide_eq_false hn]; simp
    clear hn
    go_enter Tryz.func72, Tryz.ntmps72
    go_wp2
    go_ret
    exact ⟨by rw [HE.out]; rfl, Below.refl _ _⟩

set_option maxHeartbeats 400000 in
theorem isStructure_any (n : Int) (s r : ByteArray) (w : World) (hs : s.size ≤ 9223372036854775807) (hr : r.size ≤ 9223372036854775807) :
    Calls Tryz.prog 32 #[.agg #[.int .i64 n, .string s, .string r]] w fun e w' => e = .returned (.bool (validB n s r)) ∧ Below w.heap.size w w' := by
  have BX : Hid (Box 24 (w.alloc (.cells #[.int .i64 n, .string s, .string r] 24)) w.heap.size n s r) := Box.new _ w _ rfl n s r
  have AW : Hid (Below w.heap.size w (w.alloc (.cells #[.int .i64 n, .string s, .string r] 24))) := (Below.refl _ _).alloc (Nat.le_refl _) _
  by_cases h1 : 1 ≤ n
  · by_cases h2 : n ≤ 8
    · have hv : validB n s r = (abits s n && abits r (n * n)) := by unfold validB; rw [decide_eq_true ⟨h1, h2⟩, Bool.true_and]
      have HV := Lib.hid hv
      clear hv
      have hnn : 0 ≤ n * n ∧ n * n ≤ 64 := by
        have : n = 1 ∨ n = 2 ∨ n = 3 ∨ n = 4 ∨ n = 5 ∨ n = 6 ∨ n = 7 ∨ n = 8 := by omega
        rcases this with rfl | rfl | rfl | rfl | rfl | rfl | rfl | rfl <;> decide
      go_enter Tryz.func32, Tryz.ntmps32
      go_wp2_with fail
      refine (areBits_any s n _ hs).mono ?_
      rintro e w1 ⟨rfl, hw⟩
      have AW1 : Hid (Below w.heap.size w w1) := AW.out.trans (hw.mono (by simp))
      obtain ⟨c0, c1, c2⟩ := (BX.out.below hw (by simp)).c
      clear hw
      cases hb : abits s n with
      | false =>
        have HE : Hid (validB n s r = false) := by rw [Hid, HV.out, hb, Bool.false_and]
        clear hb
        go_wp2
        go_ret
        exact ⟨by rw [HE.out]; rfl, AW1.out⟩
      | true =>
        have HE : Hid (validB n s r = abits r (n * n)) := by rw [Hid, HV.out, hb, Bool.true_and]
        clear hb
        go_wp2_with fail
        refine (areBits_any r (n * n) _ hr).mono ?_
        rintro e w2 ⟨rfl, hw⟩
        have AW2 : Hid (Below w.heap.size w w2) := AW1.out.trans (hw.mono AW1.out.size)
        clear hw
        go_wp2
        go_ret
        exact ⟨by rw [HE.out]; rfl, AW2.out⟩
    · have HE : Hid (validB n s r = false) := by unfold Hid validB; rw [decide_eq_false (by omega), Bool.false_and]
      go_enter Tryz.func32, Tryz.ntmps32
      go_wp2
      go_ret
      exact ⟨by rw [HE.out]; rfl, AW.out⟩
  · have HE : Hid (validB n s r = false) := by unfold Hid validB; rw [decide_eq_false (by omega), Bool.false_and]
    go_enter Tryz.func32, Tryz.ntmps32
    go_wp2
    go_ret
    exact ⟨by rw [HE.out]; rfl, AW.out⟩

/-! the bits -/
theorem inSet_any (n : Int) (s r : ByteArray) (x : Nat) (w : World) (hx : x < s.size) (hs : s.size ≤ 9223372036854775807) :
    Calls Tryz.prog 89 #[.agg #[.int .i64 n, .string s, .string r], .int .i64 x] w fun e w' => e = .returned (.bool (bitAt s x)) ∧ Below w.heap.size w w' := by
  have HB := Lib.hid (bitAt_get s x hx)
  have AW : Hid (Below w.heap.size w (w.alloc (.cells #[.int .i64 n, .string s, .string r] 24))) := (Below.refl _ _).alloc (Nat.le_refl _) _
  go_enter Tryz.func89, Tryz.ntmps89
  go_wp2
  go_ret
  exact ⟨by rw [HB.out]; rfl, AW.out⟩

theorem l1Set_any (n : Int) (s r : ByteArray) (x : Nat) (w : World) (hx : x < s.size) (hs : s.size ≤ 9223372036854775807) :
    Calls Tryz.prog 86 #[.agg #[.int .i64 n, .string s, .string r], .int .i64 x] w fun e w' => e = .returned (.bool (bitAt s x)) ∧ Below w.heap.size w w' := by
  have HB := Lib.hid (bitAt_get s x hx)
  have AW : Hid (Below w.heap.size w (w.alloc (.cells #[.int .i64 n, .string s, .string r] 24))) := (Below.refl _ _).alloc (Nat.le_refl _) _
  go_enter Tryz.func86, Tryz.ntmps86
  go_wp2
  go_ret
  exact ⟨by rw [HB.out]; rfl, AW.out⟩

theorem l1Bit_any (b : Bool) (w : World) :
    Calls Tryz.prog 58 #[.bool b] w fun e w' => e = .returned (.string ⟨#[if b then 49 else 48]⟩) ∧ w = w' := by
  cases b
  all_goals
    go_enter Tryz.func58, Tryz.ntmps58
    go_wp2
    go_ret
    exact ⟨rfl, rfl⟩

theorem mul_b {n x y : Nat} (hx : x < n) (hy : y < n) (hn : n ≤ 8) : (0 : Int) ≤ (x : Int) * (n : Int) ∧ (x : Int) * (n : Int) ≤ 64 ∧ (x : Int) * (n : Int) + (y : Int) < ((n * n : Nat) : Int) ∧ x * n + y < n * n := by
  have h1 : x * n + n ≤ n * n := by
    have : (x + 1) * n ≤ n * n := Nat.mul_le_mul (by omega) (Nat.le_refl _)
    rw [Nat.add_mul] at this; omega
  have h2 : n * n ≤ 8 * 8 := Nat.mul_le_mul hn hn
  have h3 : ((x * n : Nat) : Int) = (x : Int) * (n : Int) := Int.natCast_mul x n
  omega

theorem inRel_any (n : Nat) (s r : ByteArray) (x y : Nat) (w : World) (hx : x < n) (hy : y < n) (hn : n ≤ 8) (hr : r.size = n * n) :
    Calls Tryz.prog 90 #[.agg #[.int .i64 n, .string s, .string r], .int .i64 x, .int .i64 y] w fun e w' => e = .returned (.bool (bitAt r (x * n + y))) ∧ Below w.heap.size w w' := by
  obtain ⟨m1, m2, m3, m4⟩ := mul_b hx hy hn
  have h6 : x * n + y < r.size := by omega
  have HB := Lib.hid (bitAt_get r (x * n + y) h6)
  have h5 : (x : Int) * (n : Int) + (y : Int) < (r.size : Int) := by rw [hr]; exact m3
  have AW : Hid (Below w.heap.size w (w.alloc (.cells #[.int .i64 n, .string s, .string r] 24))) := (Below.refl _ _).alloc (Nat.le_refl _) _
  clear hr m3 m4
  go_enter Tryz.func90, Tryz.ntmps90
  go_wp2
  go_ret
  exact ⟨by rw [HB.out]; rfl, AW.out⟩

theorem l1Rel_any (n : Nat) (s r : ByteArray) (x y : Nat) (w : World) (hx : x < n) (hy : y < n) (hn : n ≤ 8) (hr : r.size = n * n) :
    Calls Tryz.prog 87 #[.agg #[.int .i64 n, .string s, .string r], .int .i64 x, .int .i64 y] w fun e w' => e = .returned (.bool (bitAt r (x * n + y))) ∧ Below w.heap.size w w' := by
  obtain ⟨m1, m2, m3, m4⟩ := mul_b hx hy hn
  have h6 : x * n + y < r.size := by omega
  have HB := Lib.hid (bitAt_get r (x * n + y) h6)
  have h5 : (x : Int) * (n : Int) + (y : Int) < (r.size : Int) := by rw [hr]; exact m3
  have AW : Hid (Below w.heap.size w (w.alloc (.cells #[.int .i64 n, .string s, .string r] 24))) := (Below.refl _ _).alloc (Nat.le_refl _) _
  clear hr m3 m4
  go_enter Tryz.func87, Tryz.ntmps87
  go_wp2
  go_ret
  exact ⟨by rw [HB.out]; rfl, AW.out⟩

/-! the reference's validity -/
theorem l1Bits_core (s : ByteArray) (n : Int) (w : World) (hs : s.size ≤ 9223372036854775807) :
    Calls Tryz.prog 68 #[.string s, .int .i64 n] w fun e w' => e = .returned (.bool (abits s n)) ∧ w = w' := by
  have hbits : ∀ k, (∀ j, j < k → (s.data.toList.getD j 0 == 48 || s.data.toList.getD j 0 == 49) = true) → k = s.size → bitsB s = true := by
    intro k h hk
    unfold bitsB
    rw [List.all_eq_true]
    intro b hb
    obtain ⟨j, hj, rfl⟩ := List.mem_iff_getElem.1 hb
    have := h j (by rw [hk]; simpa using hj)
    rwa [List.getD_eq_getElem?_getD, List.getElem?_eq_getElem hj] at this
  have hnot : ∀ k, k < s.size → (s.data.toList.getD k 0 == 48 || s.data.toList.getD k 0 == 49) = false → bitsB s = false := by
    intro k hk h
    unfold bitsB
    rw [List.all_eq_false]
    refine ⟨s.data.toList.getD k 0, ?_, by rw [h]; simp⟩
    rw [List.getD_eq_getElem?_getD, List.getElem?_eq_getElem (by simpa using hk)]
    exact List.getElem_mem _
  have hget : ∀ k (h : k < s.size), s.data.toList.getD k 0 = s[k] := by
    intro k h
    rw [List.getD_eq_getElem?_getD, List.getElem?_eq_getElem (by simpa using h)]; rfl
  have HB := Lib.hid (show _ ∧ _ ∧ _ from ⟨hbits, hnot, hget⟩)
  clear hbits hnot hget
  go_enter Tryz.func68, Tryz.ntmps68
  go_wp2
  go_loop [5] (fun i => ∃ k : Nat, k ≤ s.size ∧ i = .int .i64 k ∧ Hid (∀ j, j < k → (s.data.toList.getD j 0 == 48 || s.data.toList.getD j 0 == 49) = true)) (fun i => s.size - (intOf i).toNat)
  case atStart => exact ⟨0, Nat.zero_le _, rfl, fun j hj => by omega⟩
  case round =>
    obtain ⟨k, hk, rfl, hrel⟩ := hrel
    by_cases hlt : k < s.size
    · have hg := HB.out.2.2 k hlt
      have HG := Lib.hid hg
      clear hg
      by_cases h8 : s[k].toNat = 48
      · have e8 : ((s[k].toNat : Int) != 48) = false := by simp; omega
        have HS : Hid (∀ j, j < k + 1 → (s.data.toList.getD j 0 == 48 || s.data.toList.getD j 0 == 49) = true) := by
          intro j hj
          by_cases hjk : j = k
          · subst hjk
            rw [HG.out]
            have : s[j] = 48 := by rw [← UInt8.toNat_inj]; simpa using h8
            rw [this]; rfl
          · exact hrel j (by omega)
        clear hrel h8
        go_wp2
        go_round
        case rel => exact ⟨k + 1, by omega, by go_num, HS⟩
        case measure => simp [intOf]; omega
      · have e8 : ((s[k].toNat : Int) != 48) = true := by simp; omega
        by_cases h9 : s[k].toNat = 49
        · have e9 : ((s[k].toNat : Int) != 49) = false := by simp; omega
          have HS : Hid (∀ j, j < k + 1 → (s.data.toList.getD j 0 == 48 || s.data.toList.getD j 0 == 49) = true) := by
            intro j hj
            by_cases hjk : j = k
            · subst hjk
              rw [HG.out]
              have : s[j] = 49 := by rw [← UInt8.toNat_inj]; simpa using h9
              rw [this]; rfl
            · exact hrel j (by omega)
          clear hrel h8 h9
          go_wp2
          go_round
          case rel => exact ⟨k + 1, by omega, by go_num, HS⟩
          case measure => simp [intOf]; omega
        · have e9 : ((s[k].toNat : Int) != 49) = true := by simp; omega
          have HE : Hid (abits s n = false) := by
            unfold Hid abits
            rw [HB.out.2.1 k hlt, Bool.and_false]
            rw [HG.out]
            have h1 : (s[k] == 48) = false := by simp only [beq_eq_false_iff_ne, ne_eq]; intro h; rw [h] at h8; exact h8 rfl
            have h2 : (s[k] == 49) = false := by simp only [beq_eq_false_iff_ne, ne_eq]; intro h; rw [h] at h9; exact h9 rfl
            rw [h1, h2]; rfl
          clear hrel h8 h9
          go_wp2
          go_ret
          exact ⟨by rw [HE.out]; rfl, rfl⟩
    · obtain rfl : k = s.size := by omega
      have hb := HB.out.1 _ hrel.out rfl
      by_cases hn : (s.size : Int) = n
      · have e1 : ((s.size : Int) == n) = true := by simpa using hn
        have HE : Hid (abits s n = true) := by unfold Hid abits; rw [hb, decide_eq_true hn]; rfl
        clear hb hrel hn
        go_wp2
        go_ret
        exact ⟨by rw [HE.out]; rfl, rfl⟩
      · have e1 : ((s.size : Int) == n) = false := by simpa using hn
        have HE : Hid (abits s n = false) := by unfold Hid abits; rw [decide_eq_false hn]; rfl
        clear hb hrel hn
        go_wp2
        go_ret
        exact ⟨by rw [HE.out]; rfl, rfl⟩

set_option maxHeartbeats 400000 in
theorem StructureValid_any (n : Int) (s r : ByteArray) (w : World) (hs : s.size ≤ 9223372036854775807) (hr : r.size ≤ 9223372036854775807) :
    Calls Tryz.prog 30 #[.agg #[.int .i64 n, .string s, .string r]] w fun e w' => e = .returned (.bool (validB n s r)) ∧ Below w.heap.size w w' := by
  have AW : Hid (Below w.heap.size w (w.alloc (.cells #[.int .i64 n, .string s, .string r] 24))) := (Below.refl _ _).alloc (Nat.le_refl _) _
  by_cases h12 : 1 ≤ n ∧ n ≤ 8
  · have hv : validB n s r = (abits s n && abits r (n * n)) := by unfold validB; rw [decide_eq_true h12, Bool.true_and]
    have hd : basic.inB n 1 8 = true := decide_eq_true h12
    have HV := Lib.hid hv
    clear hv
    obtain ⟨h1, h2⟩ := h12
    have hnn : 0 ≤ n * n ∧ n * n ≤ 64 := by
      have : n = 1 ∨ n = 2 ∨ n = 3 ∨ n = 4 ∨ n = 5 ∨ n = 6 ∨ n = 7 ∨ n = 8 := by omega
      rcases this with rfl | rfl | rfl | rfl | rfl | rfl | rfl | rfl <;> decide
    go_enter Tryz.func30, Tryz.ntmps30
    go_wp2_with fail
    refine (basic.l1In_any _ _ _ _).mono ?_
    rintro e w1 ⟨rfl, rfl⟩
    rw [hd]
    clear hd
    go_wp2_with fail
    refine (l1Bits_core s n _ hs).mono ?_
    rintro e w1 ⟨rfl, rfl⟩
    cases hb : abits s n with
    | false =>
      have HE : Hid (validB n s r = false) := by rw [Hid, HV.out, hb, Bool.false_and]
      clear hb
      go_wp2
      go_ret
      exact ⟨by rw [HE.out]; rfl, AW.out⟩
    | true =>
      have HE : Hid (validB n s r = abits r (n * n)) := by rw [Hid, HV.out, hb, Bool.true_and]
      clear hb
      go_wp2_with fail
      refine (l1Bits_core r (n * n) _ hr).mono ?_
      rintro e w2 ⟨rfl, rfl⟩
      go_wp2
      go_ret
      exact ⟨by rw [HE.out]; rfl, AW.out⟩
  · have HE : Hid (validB n s r = false) := by unfold Hid validB; rw [decide_eq_false h12, Bool.false_and]
    have hd : basic.inB n 1 8 = false := decide_eq_false h12
    clear h12
    go_enter Tryz.func30, Tryz.ntmps30
    go_wp2_with fail
    refine (basic.l1In_any _ _ _ _).mono ?_
    rintro e w1 ⟨rfl, rfl⟩
    rw [hd]
    clear hd
    go_wp2
    go_ret
    exact ⟨by rw [HE.out]; rfl, AW.out⟩

end Go.Proofs.YtpcnoiigbmiejaaGreatDoor.base

/- makeStructure: a structure out of two tests. -/
namespace Go.Proofs.YtpcnoiigbmiejaaGreatDoor.make
set_option linter.unusedVariables false
set_option linter.unusedSimpArgs false
open Go.ChangeShapes Go.WideShapes Go.ChangeAt Go.RowKit
open Go.Proofs.YtpcnoiigbmiejaaGreatDoor.lib Go.Proofs.YtpcnoiigbmiejaaGreatDoor.st Go.Proofs.YtpcnoiigbmiejaaGreatDoor.base

def bit1 (b : Bool) : ByteArray := ⟨#[if b then 49 else 48]⟩
/-- the bits of a test -/
def bS (p : Nat → Bool) : Nat → ByteArray
  | 0 => ⟨#[]⟩
  | k + 1 => bS p k ++ bit1 (p k)
/-- a text with a row of bits behind it -/
def bRow (acc : ByteArray) (q : Nat → Bool) : Nat → ByteArray
  | 0 => acc
  | k + 1 => bRow acc q k ++ bit1 (q k)
/-- the rows of a test of pairs -/
def bR (q : Nat → Nat → Bool) (n : Nat) : Nat → ByteArray
  | 0 => ⟨#[]⟩
  | k + 1 => bRow (bR q n k) (q k) n
theorem bit1_size (b : Bool) : (bit1 b).size = 1 := rfl
theorem bS_size (p : Nat → Bool) : ∀ k, (bS p k).size = k
  | 0 => rfl
  | k + 1 => by rw [bS, ByteArray.size_append, bS_size p k, bit1_size]
theorem bRow_size (acc : ByteArray) (q : Nat → Bool) : ∀ k, (bRow acc q k).size = acc.size + k
  | 0 => rfl
  | k + 1 => by rw [bRow, ByteArray.size_append, bRow_size acc q k, bit1_size]; omega
theorem bR_size (q : Nat → Nat → Bool) (n : Nat) : ∀ k, (bR q n k).size = k * n
  | 0 => by rw [bR, Nat.zero_mul]; rfl
  | k + 1 => by rw [bR, bRow_size, bR_size q n k, Nat.succ_mul]

/-- a function value that is called enters its function -/
def Enters (f : FuncId) : Prop := ∀ (args : Array Value) (W : World), (callFunc f args).run Tryz.prog W = .ok (.enter f args) W
theorem enters_of {f : FuncId} {fn : Func} (hf : Tryz.prog.funcs[f]? = some fn) (hname : (fn.name == "runtime.NumGoroutine") = false) (hb : fn.body.isNone = false) : Enters f := by
  intro args W
  have h1 : fn.name ≠ "runtime.NumGoroutine" := by simpa using hname
  have h2 : ¬ fn.body = none := by intro h; rw [h] at hb; cases hb
  simp [callFunc, hf, h1, h2]

end Go.Proofs.YtpcnoiigbmiejaaGreatDoor.make
