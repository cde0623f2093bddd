/- Formulas in the reference: putting variables and views. -/
import Derived.Test.YtefneihlgclkbaaFmJ
import Derived.Test.YtefneihlgclkbaaStr
import Derived.Deep.QuietTactic
import Derived.BigQuiet
import Derived.IntWalk
import Derived.OwnWalk
import Derived.Laws.Strings2
import Derived.Laws.Concat
namespace Go.Proofs.Ytefneihlgclkbaa.fmk
set_option linter.unusedVariables false
set_option linter.unusedSimpArgs false
open Go.ChangeShapes Go.WideShapes Go.ChangeAt Go.RowKit
open Go.Proofs.Ytefneihlgclkbaa.lib Go.Proofs.Ytefneihlgclkbaa.fm Go.Proofs.Ytefneihlgclkbaa.fms Go.Proofs.Ytefneihlgclkbaa.fmp Go.Proofs.Ytefneihlgclkbaa.fmq Go.Proofs.Ytefneihlgclkbaa.fme Go.Proofs.Ytefneihlgclkbaa.fmf Go.Proofs.Ytefneihlgclkbaa.fmi Go.Proofs.Ytefneihlgclkbaa.fmj

/-- what l11Put returns: a the text or none, e the end, B a bound -/
def PutP (w : World) (a : Option (List UInt8)) (e B : Nat) (eo : Ending) (w' : World) : Prop :=
  ∃ s : ByteArray, eo = .returned (.tuple #[.string s, .int .i64 e, .bool a.isSome]) ∧ (∀ t, a = some t → s = ⟨t.toArray⟩) ∧ s.size ≤ B ∧ Below w.heap.size w w'
theorem l2Var_at (f : ByteArray) (x : Int) (k m : Nat) (hx : x = k) (hv : varI f k = (m : Nat)) (w : World) (hs : f.size ≤ 9223372036854775807) :
    Calls Try.prog 25 #[.string f, .int .i64 x] w fun e w' => e = .returned (.int .i64 m) ∧ w = w' := by
  rw [← hv]; exact l2Var_any f x k hx w hs
/-- what is asked of a view: none, or one whose putting is known -/
def Vw (sv : ByteArray) (So : Option Fm) (M : Nat) (g : Nat → Prop) : Prop := sv.size ≤ 4000 ∧ ((sv = ⟨#[]⟩ ∧ So = none) ∨ (1 ≤ sv.size ∧ ∃ a, So = some a ∧ g M))
theorem ext_one {f : ByteArray} {k : Nat} (h : k < f.size) : f.extract k (k + 1) = ⟨#[f[k]]⟩ := by
  apply ByteArray.ext
  rw [ByteArray.data_extract]
  apply Array.ext'
  simp only [Array.toList_extract, List.extract_eq_take_drop]
  rw [drop_at h, show k + 1 - k = 1 from by omega]
  rfl
theorem l2Var_q (f : ByteArray) (x : Int) (k m n : Nat) (hx : x = k) (hv : varI f k = (m : Nat)) (w : World) (hs : f.size ≤ 9223372036854775807) :
    Calls Try.prog 25 #[.string f, .int .i64 x] (w.drewN n) fun e w' => e = .returned (.int .i64 m) ∧ ∃ j, w' = w.drewN j :=
  (l2Var_at f x k m hx hv _ hs).mono fun _ _ ⟨h, h2⟩ => ⟨h, n, h2.symm⟩
theorem l11Name_q (v n : Nat) (h : v < 4) (w : World) : Calls Try.prog 26 #[.int .i64 v] (w.drewN n) fun e w' => e = .returned (.string (nm v)) ∧ ∃ j, w' = w.drewN j :=
  (l11Name_any v h _).mono fun _ _ ⟨h, h2⟩ => ⟨h, n, h2.symm⟩
theorem row_at {w : World} {m : Nat → Nat} {sv rv : ByteArray} {T1 T2 : TypeId} : ((w.alloc (.cells #[.int .i64 (m 0), .int .i64 (m 1), .int .i64 (m 2), .int .i64 (m 3)] T1)).alloc (.cells #[.string sv, .string rv] T2)).heap[w.heap.size]? = some (.cells #[.int .i64 (m 0), .int .i64 (m 1), .int .i64 (m 2), .int .i64 (m 3)] T1) :=
  (heap_alloc_old _ _ (by simp)).trans (heap_alloc_new w _)
theorem fresh_lt {v s u : Nat} {m : Nat → Nat} (hv : v < 4) (h : fresh v s m = some u) : u < 4 := by
  unfold fresh at h
  simp only at h
  split at h
  · cases h; exact hv
  · exact List.mem_range.1 (List.mem_of_find?_eq_some h)
theorem upd_lt {m : Nat → Nat} {v u : Nat} (hm : ∀ x, x < 4 → m x < 4) (hu : u < 4) : ∀ x, x < 4 → upd m v u x < 4 := fun x hx => by
  unfold upd; split
  · exact hu
  · exact hm x hx
theorem drewN_below {B : Nat} {a w : World} (h : Below B a w) (n : Nat) : Below B a (w.drewN n) := h.trans ⟨rfl, rfl, rfl, Nat.le_refl _, fun _ _ => rfl⟩
theorem nm_size (v : Nat) : (nm v).size = 1 := rfl
theorem ret3 {w w' : World} {a : Option (List UInt8)} {e B : Nat} {s : ByteArray} {i : Int} {b : Bool} (hi : i = (e : Int)) (hb : b = a.isSome) (ht : ∀ t, a = some t → s = ⟨t.toArray⟩) (hz : s.size ≤ B) (hw : Below w.heap.size w w') : PutP w a e B (.returned (.tuple #[.string s, .int .i64 i, .bool b])) w' := by
  subst hi; subst hb; exact ⟨s, rfl, ht, hz, hw⟩
theorem cat_one {c : UInt8} {t : List UInt8} : (⟨#[c]⟩ : ByteArray) ++ ⟨t.toArray⟩ = ⟨(c :: t).toArray⟩ := by
  apply ByteArray.ext
  rw [ByteArray.data_append]
  simp
theorem cat_two {c : UInt8} {t u : List UInt8} : (⟨#[c]⟩ : ByteArray) ++ ⟨t.toArray⟩ ++ ⟨u.toArray⟩ = ⟨(c :: (t ++ u)).toArray⟩ := by
  apply ByteArray.ext
  rw [ByteArray.data_append, ByteArray.data_append]
  simp
theorem cells_at {w : World} {m : Nat → Nat} {sv rv : ByteArray} {T1 T2 : TypeId} : let W := (w.alloc (.cells #[.int .i64 (m 0), .int .i64 (m 1), .int .i64 (m 2), .int .i64 (m 3)] T1)).alloc (.cells #[.string sv, .string rv] T2)
    (W.cell? ⟨w.heap.size, 0, none⟩ = some (.int .i64 (m 0)) ∧ W.cell? ⟨w.heap.size, 1, none⟩ = some (.int .i64 (m 1)) ∧ W.cell? ⟨w.heap.size, 2, none⟩ = some (.int .i64 (m 2)) ∧ W.cell? ⟨w.heap.size, 3, none⟩ = some (.int .i64 (m 3))) ∧ (W.cell? ⟨w.heap.size + 1, 0, none⟩ = some (.string sv) ∧ W.cell? ⟨w.heap.size + 1, 1, none⟩ = some (.string rv)) := by
  intro W
  have h2 : W.heap[w.heap.size + 1]? = some (.cells #[.string sv, .string rv] T2) := by
    have h := heap_alloc_new (w.alloc (.cells #[.int .i64 (m 0), .int .i64 (m 1), .int .i64 (m 2), .int .i64 (m 3)] T1)) (.cells #[.string sv, .string rv] T2)
    rw [World.size_alloc] at h
    exact h
  have h1 : W.heap[w.heap.size]? = some (.cells #[.int .i64 (m 0), .int .i64 (m 1), .int .i64 (m 2), .int .i64 (m 3)] T1) := (heap_alloc_old _ _ (by simp)).trans (heap_alloc_new w _)
  refine ⟨⟨?_, ?_, ?_, ?_⟩, ?_, ?_⟩ <;> simp [World.cell?, h1, h2]
theorem add_ok {P : Program} {x y : ByteArray} (hx : x.size ≤ 32000000) (hy : y.size ≤ 32000000) : ∀ W : World, (Op.stringOp .add x y).run P W = .ok (.string (x ++ y)) W := fun W => run_string_add_sum (P := P) (w := W) x y (by omega)
theorem size_one {c : UInt8} : (⟨#[c]⟩ : ByteArray).size = 1 := rfl

set_option maxHeartbeats 6400000 in
set_option maxRecDepth 100000 in
theorem l11Put_gen (f : ByteArray) (hs : f.size ≤ 4000) (sv rv : ByteArray) (So Ro : Option Fm) (M : Nat) (hM : 1 ≤ M ∧ M ≤ 4000)
    (hS : (sv = ⟨#[]⟩ ∧ So = none) ∨ (sv.toList.isEmpty = false ∧ ∃ a, So = some a ∧ ∀ (v : Nat) (w : World), v < 4 → Calls Try.prog 14 #[.string sv, .int .i64 0, .agg #[.int .i64 v, .int .i64 0, .int .i64 0, .int .i64 0], .agg #[.string ⟨#[]⟩, .string ⟨#[]⟩]] w (PutP w (put0 a (map1 v)) sv.size M)))
    (hR : (rv = ⟨#[]⟩ ∧ Ro = none) ∨ (rv.toList.isEmpty = false ∧ ∃ a, Ro = some a ∧ ∀ (v u : Nat) (w : World), v < 4 → u < 4 → Calls Try.prog 14 #[.string rv, .int .i64 0, .agg #[.int .i64 v, .int .i64 u, .int .i64 0, .int .i64 0], .agg #[.string ⟨#[]⟩, .string ⟨#[]⟩]] w (PutP w (put0 a (map2 v u)) rv.size M))) :
    ∀ (n : Nat) (x : Int) (k : Nat) (a : Fm) (e : Nat) (m : Nat → Nat), x = k → At f k a e → (∀ v, v < 4 → m v < 4) → f.size - k ≤ n → ∀ w : World,
    Calls Try.prog 14 #[.string f, .int .i64 x, .agg #[.int .i64 (m 0), .int .i64 (m 1), .int .i64 (m 2), .int .i64 (m 3)], .agg #[.string sv, .string rv]] w (PutP w (put So Ro a m) e (M * (e - k))) := by
  intro n
  induction n with
  | zero => intro x k a e m hx hat hm hn w; have := hat.lt; omega
  | succ n ih =>
    intro x k a e m hx hat hm hn w
    have hlt := hat.lt.1
    subst hx
    have IH : Hid (∀ (x : Int) (j : Nat) (b : Fm) (e : Nat) (m : Nat → Nat), x = j → k < j → At f j b e → (∀ v, v < 4 → m v < 4) → ∀ w : World, Calls Try.prog 14 #[.string f, .int .i64 x, .agg #[.int .i64 (m 0), .int .i64 (m 1), .int .i64 (m 2), .int .i64 (m 3)], .agg #[.string sv, .string rv]] w (PutP w (put So Ro b m) e (M * (e - j)))) := fun x j b e m h1 h2 h3 h4 w => ih x j b e m h1 h3 h4 (by omega) w
    have HSV := Lib.hid hS
    have HRV := Lib.hid hR
    have HMM := Lib.hid hM
    have HM := Lib.hid hm
    clear ih hn hS hR hM hm
    have hsz : f.size ≤ 9223372036854775807 := by omega
    obtain ⟨W0, hW0⟩ : ∃ QZ, QZ = (w.alloc (.cells #[.int .i64 (m 0), .int .i64 (m 1), .int .i64 (m 2), .int .i64 (m 3)] 35)).alloc (.cells #[.string sv, .string rv] 38) := ⟨_, rfl⟩
    have AW : Hid (Below w.heap.size w W0) := by rw [hW0]; exact ((Below.refl _ _).alloc (Nat.le_refl _) _).alloc (by simp) _
    have HW0 := Lib.hid hW0
    clear hW0
    have ax : f.extract k (k + 1) = ⟨#[f[k]]⟩ := ext_one hlt
    have hcut : ∀ W : World, (Instr.slice 9 (.string f) (some (.int .i64 k)) (some (.int .i64 ((k : Int) + 1))) none).run Try.prog W = .ok (.string ⟨#[f[k]]⟩) W := fun W => by
      have h := run_slice_string (P := Try.prog) (t := 9) W f .i64 .i64 k ((k : Int) + 1) (by kernel_rfl) (by omega) (by omega) (by omega)
      rw [h, show ((k : Int)).toNat = k from by omega, show ((k : Int) + 1).toNat = k + 1 from by omega, ax]
    clear ax
    by_cases h116 : f[k].toNat = 116
    · have hs0 := sort_of 116 h116 rfl
      have e116 : ((f[k].toNat : Int) == 116) = true := by simp; omega
      clear h116
      obtain ⟨rfl, rfl⟩ := inv_tf hlt hat hs0
      clear hs0 hat
      go_enter Try.func14, Try.ntmps14
      go_wp2
      go_ret3
      exact ret3 (by first | rfl | go_num) rfl (fun t ht => by cases ht; rfl) (by rw [size_one]; have := HMM.out; rw [show k + 1 - k = 1 from by omega]; omega) (by rw [← HW0.out]; exact AW.out)
    have e116 : ((f[k].toNat : Int) == 116) = false := by simp; omega
    by_cases h102 : f[k].toNat = 102
    · have hs0 := sort_of 102 h102 rfl
      have e102 : ((f[k].toNat : Int) == 102) = true := by simp; omega
      clear h102
      obtain ⟨rfl, rfl⟩ := inv_tf hlt hat hs0
      clear hs0 hat
      go_enter Try.func14, Try.ntmps14
      go_wp2
      go_ret3
      exact ret3 (by first | rfl | go_num) rfl (fun t ht => by cases ht; rfl) (by rw [size_one]; have := HMM.out; rw [show k + 1 - k = 1 from by omega]; omega) (by rw [← HW0.out]; exact AW.out)
    have e102 : ((f[k].toNat : Int) == 102) = false := by simp; omega
    by_cases h80 : f[k].toNat = 80
    · have hs0 := sort_of 80 h80 rfl
      have e80 : ((f[k].toNat : Int) == 80) = true := by simp; omega
      clear h80
      obtain ⟨v, hv4, hv, rfl, rfl⟩ := inv_p hlt hat hs0
      have HV := Lib.hid hv
      clear hs0 hat hv
      have hm4 := HM.out v hv4
      have CC := cells_at (w := w) (m := m) (sv := sv) (rv := rv) (T1 := 35) (T2 := 38)
      rw [← HW0.out] at CC
      have cv : W0.cell? ⟨w.heap.size, v, none⟩ = some (.int .i64 (m v)) := by
        obtain rfl | rfl | rfl | rfl : v = 0 ∨ v = 1 ∨ v = 2 ∨ v = 3 := by omega
        · exact CC.1.1
        · exact CC.1.2.1
        · exact CC.1.2.2.1
        · exact CC.1.2.2.2
      have d0 := CC.2.1
      clear CC
      have tv0 : decide ((v : Int) < 0) = false := by simp
      have tv1 : decide ((4 : Int) ≤ (v : Int)) = false := by simp; omega
      have tv2 : decide (4 ≤ v) = false := by simp; omega
      have tv3 : decide ((v : Int) < 4) = true := by simp; omega
      obtain ⟨y, hy⟩ : ∃ y, y = m v := ⟨_, rfl⟩
      rw [← hy] at cv hm4
      have HY := Lib.hid hy
      clear hy
      have hadd := add_ok (P := Try.prog) (x := ⟨#[80]⟩) (y := nm y) (by rw [size_one]; omega) (by rw [nm_size]; omega)
      go_enter Try.func14, Try.ntmps14
      go_wp2_with fail
      rw [← HW0.out]
      refine (l2Var_at f _ (k + 1) v (by go_num) HV.out _ hsz).mono ?_
      rintro eo w1 ⟨rfl, rfl⟩
      rcases HSV.out with ⟨rfl, rfl⟩ | ⟨hne, s0, rfl, hcall⟩
      · go_wp2_with fail
        refine (l11Name_any y hm4 _).mono ?_
        rintro eo w1 ⟨rfl, rfl⟩
        go_wp2
        go_ret3
        exact ret3 (by first | rfl | go_num) rfl (fun t ht => by unfold put at ht; rw [← HY.out] at ht; cases ht; exact cat_one (t := [vb y])) (by rw [ByteArray.size_append, size_one, nm_size]; have := HMM.out; rw [show k + 2 - k = 2 from by omega]; omega) AW.out
      · have HC := Lib.hid hcall
        clear hcall
        go_wp2_with fail
        refine (HC.out y _ hm4).mono ?_
        rintro eo w1 ⟨s1, rfl, ht, hz, hbw⟩
        have HT := Lib.hid ht
        have HZ := Lib.hid hz
        have HBW := Lib.hid (AW.out.trans (hbw.mono AW.out.size))
        clear ht hz hbw cv d0
        go_wp2
        go_ret3
        exact ret3 (by first | rfl | go_num) (by unfold put; rw [← HY.out]) (fun t ht => by unfold put at ht; rw [← HY.out] at ht; exact HT.out t ht) (by have := HZ.out; have := HMM.out; rw [show k + 2 - k = 2 from by omega]; omega) HBW.out
    have e80 : ((f[k].toNat : Int) == 80) = false := by simp; omega
    by_cases h61 : f[k].toNat = 61
    · have hs0 := sort_of 61 h61 rfl
      have e61 : ((f[k].toNat : Int) == 61) = true := by simp; omega
      clear h61
      obtain ⟨v, u, hv4, hu4, hv, hu, rfl, rfl⟩ := inv_r hlt hat hs0
      have HV := Lib.hid hv
      have HU := Lib.hid hu
      clear hs0 hat hv hu
      have hmv := HM.out v hv4
      have hmu := HM.out u hu4
      have CC := cells_at (w := w) (m := m) (sv := sv) (rv := rv) (T1 := 35) (T2 := 38)
      rw [← HW0.out] at CC
      have cs : ∀ x, x < 4 → W0.cell? ⟨w.heap.size, x, none⟩ = some (.int .i64 (m x)) := fun x hx => by
        obtain rfl | rfl | rfl | rfl : x = 0 ∨ x = 1 ∨ x = 2 ∨ x = 3 := by omega
        · exact CC.1.1
        · exact CC.1.2.1
        · exact CC.1.2.2.1
        · exact CC.1.2.2.2
      have cv := cs v hv4
      have cu := cs u hu4
      have d1 := CC.2.2
      clear CC cs
      have tv3 : decide ((v : Int) < 4) = true := by simp; omega
      have tu3 : decide ((u : Int) < 4) = true := by simp; omega
      have tv4 : (v : Int) < 4 := by omega
      have tu4 : (u : Int) < 4 := by omega
      have tv0 : decide ((v : Int) < 0) = false := by simp
      have tu0 : decide ((u : Int) < 0) = false := by simp
      obtain ⟨y, hy⟩ : ∃ y, y = m v := ⟨_, rfl⟩
      rw [← hy] at cv hmv
      have HY := Lib.hid hy
      obtain ⟨z, hz⟩ : ∃ z, z = m u := ⟨_, rfl⟩
      rw [← hz] at cu hmu
      have HZZ := Lib.hid hz
      clear hy hz
      have hw1 : IntKind.i64.wrap ((k : Int) + 1) = (k : Int) + 1 := IntWalk.i64_in _ (by omega)
      have hw2 : IntKind.i64.wrap ((k : Int) + 2) = (k : Int) + 2 := IntWalk.i64_in _ (by omega)
      have hw3 : IntKind.i64.wrap ((k : Int) + 3) = (k : Int) + 3 := IntWalk.i64_in _ (by omega)
      have hadd := add_ok (P := Try.prog) (x := ⟨#[f[k]]⟩) (y := nm y) (by rw [size_one]; omega) (by rw [nm_size]; omega)
      have hadd2 := add_ok (P := Try.prog) (x := ⟨#[f[k]]⟩ ++ nm y) (y := nm z) (by rw [ByteArray.size_append, size_one, nm_size]; omega) (by rw [nm_size]; omega)
      go_enter Try.func14, Try.ntmps14
      go_wp2_with fail
      rw [← HW0.out]
      go_quiet ((first | (go_at_call 25; exact l2Var_q f _ (k + 1) v _ (by first | rfl | go_num) HV.out _ hsz) | (go_at_call 25; exact l2Var_q f _ (k + 2) u _ (by first | rfl | go_num) HU.out _ hsz)))
      have HNE : Hid (f[k] ≠ 69) := by
        intro h
        rw [h] at e61
        simp at e61
      have HPU : Hid (put So Ro (.r f[k] v u) m = some [f[k], vb y, vb z]) := by
        unfold Hid put
        rw [← HY.out, ← HZZ.out]
        cases Ro with
        | none => rfl
        | some s0 => simp only; rw [if_neg HNE.out]
      go_wp2_with fail
      obtain ⟨W9, hW9⟩ : ∃ QZ, QZ = W0.drewN nq := ⟨_, rfl⟩
      have AW9 : Hid (Below w.heap.size w W9) := by rw [hW9]; exact drewN_below AW.out _
      rw [← hW9]
      clear hW9 cv cu d1
      go_quiet ((first | (go_at_call 26; exact l11Name_q y _ hmv _) | (go_at_call 26; exact l11Name_q z _ hmu _)))
      go_wp2
      go_ret3
      exact ret3 (by first | rfl | go_num) (by rw [HPU.out]; rfl) (fun t ht => by rw [HPU.out] at ht; cases ht; exact cat_two (t := [vb y]) (u := [vb z])) (by rw [ByteArray.size_append, ByteArray.size_append, size_one, nm_size, nm_size]; have := HMM.out; rw [show k + 3 - k = 3 from by omega]; omega) (drewN_below AW9.out _)
    have e61 : ((f[k].toNat : Int) == 61) = false := by simp; omega
    by_cases h69 : f[k].toNat = 69
    · have hs0 := sort_of 69 h69 rfl
      have e69 : ((f[k].toNat : Int) == 69) = true := by simp; omega
      clear h69
      obtain ⟨v, u, hv4, hu4, hv, hu, rfl, rfl⟩ := inv_r hlt hat hs0
      have HV := Lib.hid hv
      have HU := Lib.hid hu
      clear hs0 hat hv hu
      have hmv := HM.out v hv4
      have hmu := HM.out u hu4
      have CC := cells_at (w := w) (m := m) (sv := sv) (rv := rv) (T1 := 35) (T2 := 38)
      rw [← HW0.out] at CC
      have cs : ∀ x, x < 4 → W0.cell? ⟨w.heap.size, x, none⟩ = some (.int .i64 (m x)) := fun x hx => by
        obtain rfl | rfl | rfl | rfl : x = 0 ∨ x = 1 ∨ x = 2 ∨ x = 3 := by omega
        · exact CC.1.1
        · exact CC.1.2.1
        · exact CC.1.2.2.1
        · exact CC.1.2.2.2
      have cv := cs v hv4
      have cu := cs u hu4
      have d1 := CC.2.2
      clear CC cs
      have tv3 : decide ((v : Int) < 4) = true := by simp; omega
      have tu3 : decide ((u : Int) < 4) = true := by simp; omega
      have tv4 : (v : Int) < 4 := by omega
      have tu4 : (u : Int) < 4 := by omega
      have tv0 : decide ((v : Int) < 0) = false := by simp
      have tu0 : decide ((u : Int) < 0) = false := by simp
      obtain ⟨y, hy⟩ : ∃ y, y = m v := ⟨_, rfl⟩
      rw [← hy] at cv hmv
      have HY := Lib.hid hy
      obtain ⟨z, hz⟩ : ∃ z, z = m u := ⟨_, rfl⟩
      rw [← hz] at cu hmu
      have HZZ := Lib.hid hz
      clear hy hz
      have hw1 : IntKind.i64.wrap ((k : Int) + 1) = (k : Int) + 1 := IntWalk.i64_in _ (by omega)
      have hw2 : IntKind.i64.wrap ((k : Int) + 2) = (k : Int) + 2 := IntWalk.i64_in _ (by omega)
      have hw3 : IntKind.i64.wrap ((k : Int) + 3) = (k : Int) + 3 := IntWalk.i64_in _ (by omega)
      have hadd := add_ok (P := Try.prog) (x := ⟨#[f[k]]⟩) (y := nm y) (by rw [size_one]; omega) (by rw [nm_size]; omega)
      have hadd2 := add_ok (P := Try.prog) (x := ⟨#[f[k]]⟩ ++ nm y) (y := nm z) (by rw [ByteArray.size_append, size_one, nm_size]; omega) (by rw [nm_size]; omega)
      go_enter Try.func14, Try.ntmps14
      go_wp2_with fail
      rw [← HW0.out]
      go_quiet ((first | (go_at_call 25; exact l2Var_q f _ (k + 1) v _ (by first | rfl | go_num) HV.out _ hsz) | (go_at_call 25; exact l2Var_q f _ (k + 2) u _ (by first | rfl | go_num) HU.out _ hsz)))
      rcases HRV.out with ⟨rfl, rfl⟩ | ⟨hne, s0, rfl, hcall⟩
      · have HPU : Hid (put So none (.r f[k] v u) m = some [f[k], vb y, vb z]) := by
          unfold Hid put
          rw [← HY.out, ← HZZ.out]
        go_wp2_with fail
        obtain ⟨W9, hW9⟩ : ∃ QZ, QZ = W0.drewN nq := ⟨_, rfl⟩
        have AW9 : Hid (Below w.heap.size w W9) := by rw [hW9]; exact drewN_below AW.out _
        rw [← hW9]
        clear hW9 cv cu d1
        go_quiet ((first | (go_at_call 26; exact l11Name_q y _ hmv _) | (go_at_call 26; exact l11Name_q z _ hmu _)))
        go_wp2
        go_ret3
        exact ret3 (by first | rfl | go_num) (by rw [HPU.out]; rfl) (fun t ht => by rw [HPU.out] at ht; cases ht; exact cat_two (t := [vb y]) (u := [vb z])) (by rw [ByteArray.size_append, ByteArray.size_append, size_one, nm_size, nm_size]; have := HMM.out; rw [show k + 3 - k = 3 from by omega]; omega) (drewN_below AW9.out _)
      · have HC := Lib.hid hcall
        have HPU : Hid (put So (some s0) (.r f[k] v u) m = put0 s0 (map2 y z)) := by
          have h69 : f[k] = 69 := UInt8.toNat_inj.1 (by have h9 := e69; simp at h9; show f[k].toNat = 69; omega)
          unfold Hid put
          rw [← HY.out, ← HZZ.out]
          simp only
          rw [if_pos h69]
        clear hcall
        go_wp2_with fail
        refine (HC.out y z _ hmv hmu).mono ?_
        rintro eo w1 ⟨s1, rfl, ht, hz, hbw⟩
        have HT := Lib.hid ht
        have HZ := Lib.hid hz
        have HBW := Lib.hid ((drewN_below AW.out _).trans (hbw.mono (drewN_below AW.out _).size))
        clear ht hz hbw cv cu d1
        go_wp2
        go_ret3
        exact ret3 (by first | rfl | go_num) (by rw [HPU.out]) (fun t ht => by rw [HPU.out] at ht; exact HT.out t ht) (by have := HZ.out; have := HMM.out; rw [show k + 3 - k = 3 from by omega]; omega) HBW.out
    have e69 : ((f[k].toNat : Int) == 69) = false := by simp; omega
    by_cases h33 : f[k].toNat = 33
    · have hs0 := sort_of 33 h33 rfl
      have e33 : ((f[k].toNat : Int) == 33) = true := by simp; omega
      clear h33
      obtain ⟨b, hb, rfl⟩ := inv_no hlt hat hs0
      have HB := Lib.hid hb
      clear hs0 hat hb
      go_enter Try.func14, Try.ntmps14
      go_wp2_with fail
      rw [← HW0.out]
      refine (IH.out _ (k + 1) b e m (by go_num) (by omega) HB.out HM.out _).mono ?_
      rintro eo w1 ⟨s1, rfl, ht, hz, hbw⟩
      have hz2 : M * (e - (k + 1)) ≤ 4000 * 4000 := Nat.mul_le_mul HMM.out.2 (by have := HB.out.1; omega)
      have hadd := add_ok (P := Try.prog) (x := ⟨#[33]⟩) (y := s1) (by rw [size_one]; omega) (by omega)
      obtain ⟨a1, ha1⟩ : ∃ a1, a1 = put So Ro b m := ⟨_, rfl⟩
      rw [← ha1] at ht ⊢
      have HA := Lib.hid ha1
      have HT := Lib.hid ht
      have HZ := Lib.hid hz
      have HBW := Lib.hid (AW.out.trans (hbw.mono AW.out.size))
      clear ha1 ht hz hz2 hbw
      go_wp2
      go_ret3
      refine ret3 rfl ?_ (fun t h => ?_) ?_ HBW.out
      · unfold put; rw [← HA.out]; cases a1 <;> rfl
      · unfold put at h
        rw [← HA.out] at h
        cases a1 with
        | none => cases h
        | some t1 =>
          cases h
          rw [HT.out _ rfl]
          exact cat_one
      · rw [ByteArray.size_append, size_one]
        have h1 := HZ.out
        have h2 := HB.out.lt.2
        have h3 := HMM.out.1
        rw [show e - k = (e - (k + 1)) + 1 from by omega, Nat.mul_add]
        omega
    have e33 : ((f[k].toNat : Int) == 33) = false := by simp; omega
    by_cases h38 : f[k].toNat = 38
    · have hs0 := sort_of 38 h38 rfl
      have e38 : ((f[k].toNat : Int) == 38) = true := by simp; omega
      clear h38
      obtain ⟨b, d, j, hb, hd, rfl⟩ := inv_two hlt hat hs0
      have HB := Lib.hid hb
      have HD := Lib.hid hd
      have hj := hb.lt.2
      have hje := hd.lt.2
      clear hs0 hat hb hd
      go_enter Try.func14, Try.ntmps14
      go_wp2_with fail
      rw [← HW0.out]
      refine (IH.out _ (k + 1) b j m (by go_num) (by omega) HB.out HM.out _).mono ?_
      rintro eo w1 ⟨s1, rfl, ht, hz, hbw⟩
      have hz2 : M * (j - (k + 1)) ≤ 4000 * 4000 := Nat.mul_le_mul HMM.out.2 (by have := HB.out.1; omega)
      have hadd := add_ok (P := Try.prog) (x := ⟨#[f[k]]⟩) (y := s1) (by rw [size_one]; omega) (by omega)
      obtain ⟨a1, ha1⟩ : ∃ a1, a1 = put So Ro b m := ⟨_, rfl⟩
      rw [← ha1] at ht ⊢
      have HA := Lib.hid ha1
      have HT := Lib.hid ht
      have HZ := Lib.hid (show _ ∧ _ from ⟨hz, hz2⟩)
      have HBW := Lib.hid (AW.out.trans (hbw.mono AW.out.size))
      have CC := cells_at (w := w) (m := m) (sv := sv) (rv := rv) (T1 := 35) (T2 := 38)
      rw [← HW0.out] at CC
      have c0 := st.keepCell hbw CC.1.1
      have c1 := st.keepCell hbw CC.1.2.1
      have c2 := st.keepCell hbw CC.1.2.2.1
      have c3 := st.keepCell hbw CC.1.2.2.2
      have d0 := st.keepCell hbw CC.2.1
      have d1 := st.keepCell hbw CC.2.2
      clear CC ha1 ht hz hz2 hbw
      go_wp2_with fail
      clear c0 c1 c2 c3 d0 d1
      refine (IH.out _ j d e m rfl (by omega) HD.out HM.out _).mono ?_
      rintro eo w2 ⟨s2, rfl, ht, hz, hbw⟩
      have hz2 : M * (e - j) ≤ 4000 * 4000 := Nat.mul_le_mul HMM.out.2 (by have := HD.out.1; omega)
      have hadd2 := add_ok (P := Try.prog) (x := ⟨#[f[k]]⟩ ++ s1) (y := s2) (by rw [ByteArray.size_append, size_one]; have := HZ.out; omega) (by omega)
      obtain ⟨a2, ha2⟩ : ∃ a2, a2 = put So Ro d m := ⟨_, rfl⟩
      rw [← ha2] at ht ⊢
      have HA2 := Lib.hid ha2
      have HT2 := Lib.hid ht
      have HZ2 := Lib.hid hz
      have HBW2 := Lib.hid (HBW.out.trans (hbw.mono HBW.out.size))
      clear ha2 ht hz hz2 hbw
      have fin : M * (e - k) = M * (j - (k + 1)) + M * (e - j) + M := by
        rw [← Nat.mul_add, show e - k = (j - (k + 1) + (e - j)) + 1 from by omega, Nat.mul_add, Nat.mul_one]
      have HF := Lib.hid fin
      clear fin
      cases a1 with
      | none =>
        go_wp2
        go_ret3
        refine ret3 rfl ?_ (fun t h => ?_) ?_ HBW2.out
        · unfold put; rw [← HA.out]; rfl
        · unfold put at h
          rw [← HA.out] at h
          cases h
        · rw [ByteArray.size_append, ByteArray.size_append, size_one, HF.out]
          have h1 := HZ.out
          have h2 := HZ2.out
          have h3 := HMM.out.1
          omega
      | some t1 =>
        go_wp2
        go_ret3
        refine ret3 rfl ?_ (fun t h => ?_) ?_ HBW2.out
        · unfold put; rw [← HA.out, ← HA2.out]; cases a2 <;> rfl
        · unfold put at h
          rw [← HA.out, ← HA2.out] at h
          cases a2 with
          | none => cases h
          | some t2 =>
            cases h
            rw [HT.out _ rfl, HT2.out _ rfl]
            exact cat_two
        · rw [ByteArray.size_append, ByteArray.size_append, size_one, HF.out]
          have h1 := HZ.out
          have h2 := HZ2.out
          have h3 := HMM.out.1
          omega
    have e38 : ((f[k].toNat : Int) == 38) = false := by simp; omega
    by_cases h124 : f[k].toNat = 124
    · have hs0 := sort_of 124 h124 rfl
      have e124 : ((f[k].toNat : Int) == 124) = true := by simp; omega
      clear h124
      obtain ⟨b, d, j, hb, hd, rfl⟩ := inv_two hlt hat hs0
      have HB := Lib.hid hb
      have HD := Lib.hid hd
      have hj := hb.lt.2
      have hje := hd.lt.2
      clear hs0 hat hb hd
      go_enter Try.func14, Try.ntmps14
      go_wp2_with fail
      rw [← HW0.out]
      refine (IH.out _ (k + 1) b j m (by go_num) (by omega) HB.out HM.out _).mono ?_
      rintro eo w1 ⟨s1, rfl, ht, hz, hbw⟩
      have hz2 : M * (j - (k + 1)) ≤ 4000 * 4000 := Nat.mul_le_mul HMM.out.2 (by have := HB.out.1; omega)
      have hadd := add_ok (P := Try.prog) (x := ⟨#[f[k]]⟩) (y := s1) (by rw [size_one]; omega) (by omega)
      obtain ⟨a1, ha1⟩ : ∃ a1, a1 = put So Ro b m := ⟨_, rfl⟩
      rw [← ha1] at ht ⊢
      have HA := Lib.hid ha1
      have HT := Lib.hid ht
      have HZ := Lib.hid (show _ ∧ _ from ⟨hz, hz2⟩)
      have HBW := Lib.hid (AW.out.trans (hbw.mono AW.out.size))
      have CC := cells_at (w := w) (m := m) (sv := sv) (rv := rv) (T1 := 35) (T2 := 38)
      rw [← HW0.out] at CC
      have c0 := st.keepCell hbw CC.1.1
      have c1 := st.keepCell hbw CC.1.2.1
      have c2 := st.keepCell hbw CC.1.2.2.1
      have c3 := st.keepCell hbw CC.1.2.2.2
      have d0 := st.keepCell hbw CC.2.1
      have d1 := st.keepCell hbw CC.2.2
      clear CC ha1 ht hz hz2 hbw
      go_wp2_with fail
      clear c0 c1 c2 c3 d0 d1
      refine (IH.out _ j d e m rfl (by omega) HD.out HM.out _).mono ?_
      rintro eo w2 ⟨s2, rfl, ht, hz, hbw⟩
      have hz2 : M * (e - j) ≤ 4000 * 4000 := Nat.mul_le_mul HMM.out.2 (by have := HD.out.1; omega)
      have hadd2 := add_ok (P := Try.prog) (x := ⟨#[f[k]]⟩ ++ s1) (y := s2) (by rw [ByteArray.size_append, size_one]; have := HZ.out; omega) (by omega)
      obtain ⟨a2, ha2⟩ : ∃ a2, a2 = put So Ro d m := ⟨_, rfl⟩
      rw [← ha2] at ht ⊢
      have HA2 := Lib.hid ha2
      have HT2 := Lib.hid ht
      have HZ2 := Lib.hid hz
      have HBW2 := Lib.hid (HBW.out.trans (hbw.mono HBW.out.size))
      clear ha2 ht hz hz2 hbw
      have fin : M * (e - k) = M * (j - (k + 1)) + M * (e - j) + M := by
        rw [← Nat.mul_add, show e - k = (j - (k + 1) + (e - j)) + 1 from by omega, Nat.mul_add, Nat.mul_one]
      have HF := Lib.hid fin
      clear fin
      cases a1 with
      | none =>
        go_wp2
        go_ret3
        refine ret3 rfl ?_ (fun t h => ?_) ?_ HBW2.out
        · unfold put; rw [← HA.out]; rfl
        · unfold put at h
          rw [← HA.out] at h
          cases h
        · rw [ByteArray.size_append, ByteArray.size_append, size_one, HF.out]
          have h1 := HZ.out
          have h2 := HZ2.out
          have h3 := HMM.out.1
          omega
      | some t1 =>
        go_wp2
        go_ret3
        refine ret3 rfl ?_ (fun t h => ?_) ?_ HBW2.out
        · unfold put; rw [← HA.out, ← HA2.out]; cases a2 <;> rfl
        · unfold put at h
          rw [← HA.out, ← HA2.out] at h
          cases a2 with
          | none => cases h
          | some t2 =>
            cases h
            rw [HT.out _ rfl, HT2.out _ rfl]
            exact cat_two
        · rw [ByteArray.size_append, ByteArray.size_append, size_one, HF.out]
          have h1 := HZ.out
          have h2 := HZ2.out
          have h3 := HMM.out.1
          omega
    have e124 : ((f[k].toNat : Int) == 124) = false := by simp; omega
    by_cases h65 : f[k].toNat = 65
    · have hs0 := sort_of 65 h65 rfl
      have e65 : ((f[k].toNat : Int) == 65) = true := by simp; omega
      clear h65
      obtain ⟨v, b, hv4, hv, hb, rfl⟩ := inv_qu hlt hat hs0
      have HB := Lib.hid hb
      have HV := Lib.hid hv
      have hfree := Fm.free_lt hb.ok
      have hke := hb.lt.2
      clear hs0 hat hv hb
      have CC := cells_at (w := w) (m := m) (sv := sv) (rv := rv) (T1 := 35) (T2 := 38)
      rw [← HW0.out] at CC
      have RR := row_at (w := w) (m := m) (sv := sv) (rv := rv) (T1 := 35) (T2 := 38)
      rw [← HW0.out] at RR
      have HR9 := Lib.hid RR
      have HCC := Lib.hid CC
      clear RR CC
      go_enter Try.func14, Try.ntmps14
      go_wp2_with fail
      rw [← HW0.out]
      refine (l2Var_at f _ (k + 1) v (by go_num) HV.out _ hsz).mono ?_
      rintro eo w1 ⟨rfl, rfl⟩
      go_wp2_with fail
      refine (l2Free_any f (by omega) f.size _ (k + 2) b e (by go_num) HB.out (by omega) _).mono ?_
      rintro eo w1 ⟨rfl, rfl⟩
      have c0 := HCC.out.1.1
      have c1 := HCC.out.1.2.1
      have c2 := HCC.out.1.2.2.1
      have c3 := HCC.out.1.2.2.2
      go_wp2_with fail
      refine (l11Fresh_any v b.free m _ hv4 hfree HM.out).mono ?_
      rintro eo w1 ⟨rfl, hbw⟩
      have BL1 := Lib.hid (AW.out.trans (hbw.mono AW.out.size))
      have g0 := st.keepCell hbw c0
      have g1 := st.keepCell hbw c1
      have g2 := st.keepCell hbw c2
      have g3 := st.keepCell hbw c3
      have d0 := st.keepCell hbw HCC.out.2.1
      have d1 := st.keepCell hbw HCC.out.2.2
      have hr1 : w1.heap[w.heap.size]? = some (.cells #[.int .i64 (m 0), .int .i64 (m 1), .int .i64 (m 2), .int .i64 (m 3)] 35) := by
        rw [hbw.block _ (Array.getElem?_eq_some_iff.1 HR9.out).1]; exact HR9.out
      have z0 := frozen_of_row w1 w.heap.size 0 _ _ hr1
      have z1 := frozen_of_row w1 w.heap.size 1 _ _ hr1
      have z2 := frozen_of_row w1 w.heap.size 2 _ _ hr1
      have z3 := frozen_of_row w1 w.heap.size 3 _ _ hr1
      clear c0 c1 c2 c3 hbw hr1
      cases hf : fresh v b.free m with
      | none =>
        have HF := Lib.hid hf
        clear hf
        go_wp2
        go_ret3
        exact ret3 rfl (by unfold put; rw [HF.out]; rfl) (fun t ht => by unfold put at ht; rw [HF.out] at ht; cases ht) (Nat.zero_le _) BL1.out
      | some u =>
        have HF := Lib.hid hf
        have hu4 := fresh_lt hv4 hf
        have HU : Hid (frI (some u) = (u : Int)) := rfl
        rw [HU.out]
        have tu : decide ((u : Int) < 0) = false := by simp
        have hw1 : IntKind.i64.wrap ((k : Int) + 1) = (k : Int) + 1 := IntWalk.i64_in _ (by omega)
        clear hf
        obtain rfl | rfl | rfl | rfl : v = 0 ∨ v = 1 ∨ v = 2 ∨ v = 3 := by omega
        · go_wp2_with fail
          refine (IH.out _ (k + 2) b e (upd m 0 u) (by go_num) (by omega) HB.out (upd_lt HM.out hu4) _).mono ?_
          rintro eo w2 ⟨s1, rfl, ht, hz, hbw⟩
          have hz2 : M * (e - (k + 2)) ≤ 4000 * 4000 := Nat.mul_le_mul HMM.out.2 (by have := HB.out.1; omega)
          have hadd := add_ok (P := Try.prog) (x := ⟨#[f[k]]⟩) (y := nm u) (by rw [size_one]; omega) (by rw [nm_size]; omega)
          have hadd2 := add_ok (P := Try.prog) (x := ⟨#[f[k]]⟩ ++ nm u) (y := s1) (by rw [ByteArray.size_append, size_one, nm_size]; omega) (by omega)
          obtain ⟨a1, ha1⟩ : ∃ a1, a1 = put So Ro b (upd m 0 u) := ⟨_, rfl⟩
          rw [← ha1] at ht ⊢
          have HA := Lib.hid ha1
          have HT := Lib.hid ht
          have HZ := Lib.hid hz
          have HBW := Lib.hid ((BL1.out.setCell (by simp) _).trans (hbw.mono (BL1.out.setCell (by simp) _).size))
          clear ha1 ht hz hz2 hbw g0 g1 g2 g3 d0 d1 z0 z1 z2 z3
          go_wp2_with fail
          go_quiet ((go_at_call 26; exact l11Name_q u _ hu4 _))
          go_wp2
          go_ret3
          refine ret3 rfl ?_ (fun t h => ?_) ?_ (drewN_below HBW.out _)
          · unfold put; rw [HF.out]; simp only; rw [← HA.out]; cases a1 <;> rfl
          · unfold put at h
            rw [HF.out] at h
            simp only at h
            rw [← HA.out] at h
            cases a1 with
            | none => cases h
            | some t1 =>
              cases h
              rw [HT.out _ rfl]
              exact cat_two (t := [vb u])
          · rw [ByteArray.size_append, ByteArray.size_append, size_one, nm_size]
            have h1 := HZ.out
            have h3 := HMM.out.1
            rw [show e - k = (e - (k + 2)) + 2 from by omega, Nat.mul_add]
            omega
        · go_wp2_with fail
          refine (IH.out _ (k + 2) b e (upd m 1 u) (by go_num) (by omega) HB.out (upd_lt HM.out hu4) _).mono ?_
          rintro eo w2 ⟨s1, rfl, ht, hz, hbw⟩
          have hz2 : M * (e - (k + 2)) ≤ 4000 * 4000 := Nat.mul_le_mul HMM.out.2 (by have := HB.out.1; omega)
          have hadd := add_ok (P := Try.prog) (x := ⟨#[f[k]]⟩) (y := nm u) (by rw [size_one]; omega) (by rw [nm_size]; omega)
          have hadd2 := add_ok (P := Try.prog) (x := ⟨#[f[k]]⟩ ++ nm u) (y := s1) (by rw [ByteArray.size_append, size_one, nm_size]; omega) (by omega)
          obtain ⟨a1, ha1⟩ : ∃ a1, a1 = put So Ro b (upd m 1 u) := ⟨_, rfl⟩
          rw [← ha1] at ht ⊢
          have HA := Lib.hid ha1
          have HT := Lib.hid ht
          have HZ := Lib.hid hz
          have HBW := Lib.hid ((BL1.out.setCell (by simp) _).trans (hbw.mono (BL1.out.setCell (by simp) _).size))
          clear ha1 ht hz hz2 hbw g0 g1 g2 g3 d0 d1 z0 z1 z2 z3
          go_wp2_with fail
          go_quiet ((go_at_call 26; exact l11Name_q u _ hu4 _))
          go_wp2
          go_ret3
          refine ret3 rfl ?_ (fun t h => ?_) ?_ (drewN_below HBW.out _)
          · unfold put; rw [HF.out]; simp only; rw [← HA.out]; cases a1 <;> rfl
          · unfold put at h
            rw [HF.out] at h
            simp only at h
            rw [← HA.out] at h
            cases a1 with
            | none => cases h
            | some t1 =>
              cases h
              rw [HT.out _ rfl]
              exact cat_two (t := [vb u])
          · rw [ByteArray.size_append, ByteArray.size_append, size_one, nm_size]
            have h1 := HZ.out
            have h3 := HMM.out.1
            rw [show e - k = (e - (k + 2)) + 2 from by omega, Nat.mul_add]
            omega
        · go_wp2_with fail
          refine (IH.out _ (k + 2) b e (upd m 2 u) (by go_num) (by omega) HB.out (upd_lt HM.out hu4) _).mono ?_
          rintro eo w2 ⟨s1, rfl, ht, hz, hbw⟩
          have hz2 : M * (e - (k + 2)) ≤ 4000 * 4000 := Nat.mul_le_mul HMM.out.2 (by have := HB.out.1; omega)
          have hadd := add_ok (P := Try.prog) (x := ⟨#[f[k]]⟩) (y := nm u) (by rw [size_one]; omega) (by rw [nm_size]; omega)
          have hadd2 := add_ok (P := Try.prog) (x := ⟨#[f[k]]⟩ ++ nm u) (y := s1) (by rw [ByteArray.size_append, size_one, nm_size]; omega) (by omega)
          obtain ⟨a1, ha1⟩ : ∃ a1, a1 = put So Ro b (upd m 2 u) := ⟨_, rfl⟩
          rw [← ha1] at ht ⊢
          have HA := Lib.hid ha1
          have HT := Lib.hid ht
          have HZ := Lib.hid hz
          have HBW := Lib.hid ((BL1.out.setCell (by simp) _).trans (hbw.mono (BL1.out.setCell (by simp) _).size))
          clear ha1 ht hz hz2 hbw g0 g1 g2 g3 d0 d1 z0 z1 z2 z3
          go_wp2_with fail
          go_quiet ((go_at_call 26; exact l11Name_q u _ hu4 _))
          go_wp2
          go_ret3
          refine ret3 rfl ?_ (fun t h => ?_) ?_ (drewN_below HBW.out _)
          · unfold put; rw [HF.out]; simp only; rw [← HA.out]; cases a1 <;> rfl
          · unfold put at h
            rw [HF.out] at h
            simp only at h
            rw [← HA.out] at h
            cases a1 with
            | none => cases h
            | some t1 =>
              cases h
              rw [HT.out _ rfl]
              exact cat_two (t := [vb u])
          · rw [ByteArray.size_append, ByteArray.size_append, size_one, nm_size]
            have h1 := HZ.out
            have h3 := HMM.out.1
            rw [show e - k = (e - (k + 2)) + 2 from by omega, Nat.mul_add]
            omega
        · go_wp2_with fail
          refine (IH.out _ (k + 2) b e (upd m 3 u) (by go_num) (by omega) HB.out (upd_lt HM.out hu4) _).mono ?_
          rintro eo w2 ⟨s1, rfl, ht, hz, hbw⟩
          have hz2 : M * (e - (k + 2)) ≤ 4000 * 4000 := Nat.mul_le_mul HMM.out.2 (by have := HB.out.1; omega)
          have hadd := add_ok (P := Try.prog) (x := ⟨#[f[k]]⟩) (y := nm u) (by rw [size_one]; omega) (by rw [nm_size]; omega)
          have hadd2 := add_ok (P := Try.prog) (x := ⟨#[f[k]]⟩ ++ nm u) (y := s1) (by rw [ByteArray.size_append, size_one, nm_size]; omega) (by omega)
          obtain ⟨a1, ha1⟩ : ∃ a1, a1 = put So Ro b (upd m 3 u) := ⟨_, rfl⟩
          rw [← ha1] at ht ⊢
          have HA := Lib.hid ha1
          have HT := Lib.hid ht
          have HZ := Lib.hid hz
          have HBW := Lib.hid ((BL1.out.setCell (by simp) _).trans (hbw.mono (BL1.out.setCell (by simp) _).size))
          clear ha1 ht hz hz2 hbw g0 g1 g2 g3 d0 d1 z0 z1 z2 z3
          go_wp2_with fail
          go_quiet ((go_at_call 26; exact l11Name_q u _ hu4 _))
          go_wp2
          go_ret3
          refine ret3 rfl ?_ (fun t h => ?_) ?_ (drewN_below HBW.out _)
          · unfold put; rw [HF.out]; simp only; rw [← HA.out]; cases a1 <;> rfl
          · unfold put at h
            rw [HF.out] at h
            simp only at h
            rw [← HA.out] at h
            cases a1 with
            | none => cases h
            | some t1 =>
              cases h
              rw [HT.out _ rfl]
              exact cat_two (t := [vb u])
          · rw [ByteArray.size_append, ByteArray.size_append, size_one, nm_size]
            have h1 := HZ.out
            have h3 := HMM.out.1
            rw [show e - k = (e - (k + 2)) + 2 from by omega, Nat.mul_add]
            omega
    have e65 : ((f[k].toNat : Int) == 65) = false := by simp; omega
    by_cases h83 : f[k].toNat = 83
    · have hs0 := sort_of 83 h83 rfl
      have e83 : ((f[k].toNat : Int) == 83) = true := by simp; omega
      clear h83
      obtain ⟨v, b, hv4, hv, hb, rfl⟩ := inv_qu hlt hat hs0
      have HB := Lib.hid hb
      have HV := Lib.hid hv
      have hfree := Fm.free_lt hb.ok
      have hke := hb.lt.2
      clear hs0 hat hv hb
      have CC := cells_at (w := w) (m := m) (sv := sv) (rv := rv) (T1 := 35) (T2 := 38)
      rw [← HW0.out] at CC
      have RR := row_at (w := w) (m := m) (sv := sv) (rv := rv) (T1 := 35) (T2 := 38)
      rw [← HW0.out] at RR
      have HR9 := Lib.hid RR
      have HCC := Lib.hid CC
      clear RR CC
      go_enter Try.func14, Try.ntmps14
      go_wp2_with fail
      rw [← HW0.out]
      refine (l2Var_at f _ (k + 1) v (by go_num) HV.out _ hsz).mono ?_
      rintro eo w1 ⟨rfl, rfl⟩
      go_wp2_with fail
      refine (l2Free_any f (by omega) f.size _ (k + 2) b e (by go_num) HB.out (by omega) _).mono ?_
      rintro eo w1 ⟨rfl, rfl⟩
      have c0 := HCC.out.1.1
      have c1 := HCC.out.1.2.1
      have c2 := HCC.out.1.2.2.1
      have c3 := HCC.out.1.2.2.2
      go_wp2_with fail
      refine (l11Fresh_any v b.free m _ hv4 hfree HM.out).mono ?_
      rintro eo w1 ⟨rfl, hbw⟩
      have BL1 := Lib.hid (AW.out.trans (hbw.mono AW.out.size))
      have g0 := st.keepCell hbw c0
      have g1 := st.keepCell hbw c1
      have g2 := st.keepCell hbw c2
      have g3 := st.keepCell hbw c3
      have d0 := st.keepCell hbw HCC.out.2.1
      have d1 := st.keepCell hbw HCC.out.2.2
      have hr1 : w1.heap[w.heap.size]? = some (.cells #[.int .i64 (m 0), .int .i64 (m 1), .int .i64 (m 2), .int .i64 (m 3)] 35) := by
        rw [hbw.block _ (Array.getElem?_eq_some_iff.1 HR9.out).1]; exact HR9.out
      have z0 := frozen_of_row w1 w.heap.size 0 _ _ hr1
      have z1 := frozen_of_row w1 w.heap.size 1 _ _ hr1
      have z2 := frozen_of_row w1 w.heap.size 2 _ _ hr1
      have z3 := frozen_of_row w1 w.heap.size 3 _ _ hr1
      clear c0 c1 c2 c3 hbw hr1
      cases hf : fresh v b.free m with
      | none =>
        have HF := Lib.hid hf
        clear hf
        go_wp2
        go_ret3
        exact ret3 rfl (by unfold put; rw [HF.out]; rfl) (fun t ht => by unfold put at ht; rw [HF.out] at ht; cases ht) (Nat.zero_le _) BL1.out
      | some u =>
        have HF := Lib.hid hf
        have hu4 := fresh_lt hv4 hf
        have HU : Hid (frI (some u) = (u : Int)) := rfl
        rw [HU.out]
        have tu : decide ((u : Int) < 0) = false := by simp
        have hw1 : IntKind.i64.wrap ((k : Int) + 1) = (k : Int) + 1 := IntWalk.i64_in _ (by omega)
        clear hf
        obtain rfl | rfl | rfl | rfl : v = 0 ∨ v = 1 ∨ v = 2 ∨ v = 3 := by omega
        · go_wp2_with fail
          refine (IH.out _ (k + 2) b e (upd m 0 u) (by go_num) (by omega) HB.out (upd_lt HM.out hu4) _).mono ?_
          rintro eo w2 ⟨s1, rfl, ht, hz, hbw⟩
          have hz2 : M * (e - (k + 2)) ≤ 4000 * 4000 := Nat.mul_le_mul HMM.out.2 (by have := HB.out.1; omega)
          have hadd := add_ok (P := Try.prog) (x := ⟨#[f[k]]⟩) (y := nm u) (by rw [size_one]; omega) (by rw [nm_size]; omega)
          have hadd2 := add_ok (P := Try.prog) (x := ⟨#[f[k]]⟩ ++ nm u) (y := s1) (by rw [ByteArray.size_append, size_one, nm_size]; omega) (by omega)
          obtain ⟨a1, ha1⟩ : ∃ a1, a1 = put So Ro b (upd m 0 u) := ⟨_, rfl⟩
          rw [← ha1] at ht ⊢
          have HA := Lib.hid ha1
          have HT := Lib.hid ht
          have HZ := Lib.hid hz
          have HBW := Lib.hid ((BL1.out.setCell (by simp) _).trans (hbw.mono (BL1.out.setCell (by simp) _).size))
          clear ha1 ht hz hz2 hbw g0 g1 g2 g3 d0 d1 z0 z1 z2 z3
          go_wp2_with fail
          go_quiet ((go_at_call 26; exact l11Name_q u _ hu4 _))
          go_wp2
          go_ret3
          refine ret3 rfl ?_ (fun t h => ?_) ?_ (drewN_below HBW.out _)
          · unfold put; rw [HF.out]; simp only; rw [← HA.out]; cases a1 <;> rfl
          · unfold put at h
            rw [HF.out] at h
            simp only at h
            rw [← HA.out] at h
            cases a1 with
            | none => cases h
            | some t1 =>
              cases h
              rw [HT.out _ rfl]
              exact cat_two (t := [vb u])
          · rw [ByteArray.size_append, ByteArray.size_append, size_one, nm_size]
            have h1 := HZ.out
            have h3 := HMM.out.1
            rw [show e - k = (e - (k + 2)) + 2 from by omega, Nat.mul_add]
            omega
        · go_wp2_with fail
          refine (IH.out _ (k + 2) b e (upd m 1 u) (by go_num) (by omega) HB.out (upd_lt HM.out hu4) _).mono ?_
          rintro eo w2 ⟨s1, rfl, ht, hz, hbw⟩
          have hz2 : M * (e - (k + 2)) ≤ 4000 * 4000 := Nat.mul_le_mul HMM.out.2 (by have := HB.out.1; omega)
          have hadd := add_ok (P := Try.prog) (x := ⟨#[f[k]]⟩) (y := nm u) (by rw [size_one]; omega) (by rw [nm_size]; omega)
          have hadd2 := add_ok (P := Try.prog) (x := ⟨#[f[k]]⟩ ++ nm u) (y := s1) (by rw [ByteArray.size_append, size_one, nm_size]; omega) (by omega)
          obtain ⟨a1, ha1⟩ : ∃ a1, a1 = put So Ro b (upd m 1 u) := ⟨_, rfl⟩
          rw [← ha1] at ht ⊢
          have HA := Lib.hid ha1
          have HT := Lib.hid ht
          have HZ := Lib.hid hz
          have HBW := Lib.hid ((BL1.out.setCell (by simp) _).trans (hbw.mono (BL1.out.setCell (by simp) _).size))
          clear ha1 ht hz hz2 hbw g0 g1 g2 g3 d0 d1 z0 z1 z2 z3
          go_wp2_with fail
          go_quiet ((go_at_call 26; exact l11Name_q u _ hu4 _))
          go_wp2
          go_ret3
          refine ret3 rfl ?_ (fun t h => ?_) ?_ (drewN_below HBW.out _)
          · unfold put; rw [HF.out]; simp only; rw [← HA.out]; cases a1 <;> rfl
          · unfold put at h
            rw [HF.out] at h
            simp only at h
            rw [← HA.out] at h
            cases a1 with
            | none => cases h
            | some t1 =>
              cases h
              rw [HT.out _ rfl]
              exact cat_two (t := [vb u])
          · rw [ByteArray.size_append, ByteArray.size_append, size_one, nm_size]
            have h1 := HZ.out
            have h3 := HMM.out.1
            rw [show e - k = (e - (k + 2)) + 2 from by omega, Nat.mul_add]
            omega
        · go_wp2_with fail
          refine (IH.out _ (k + 2) b e (upd m 2 u) (by go_num) (by omega) HB.out (upd_lt HM.out hu4) _).mono ?_
          rintro eo w2 ⟨s1, rfl, ht, hz, hbw⟩
          have hz2 : M * (e - (k + 2)) ≤ 4000 * 4000 := Nat.mul_le_mul HMM.out.2 (by have := HB.out.1; omega)
          have hadd := add_ok (P := Try.prog) (x := ⟨#[f[k]]⟩) (y := nm u) (by rw [size_one]; omega) (by rw [nm_size]; omega)
          have hadd2 := add_ok (P := Try.prog) (x := ⟨#[f[k]]⟩ ++ nm u) (y := s1) (by rw [ByteArray.size_append, size_one, nm_size]; omega) (by omega)
          obtain ⟨a1, ha1⟩ : ∃ a1, a1 = put So Ro b (upd m 2 u) := ⟨_, rfl⟩
          rw [← ha1] at ht ⊢
          have HA := Lib.hid ha1
          have HT := Lib.hid ht
          have HZ := Lib.hid hz
          have HBW := Lib.hid ((BL1.out.setCell (by simp) _).trans (hbw.mono (BL1.out.setCell (by simp) _).size))
          clear ha1 ht hz hz2 hbw g0 g1 g2 g3 d0 d1 z0 z1 z2 z3
          go_wp2_with fail
          go_quiet ((go_at_call 26; exact l11Name_q u _ hu4 _))
          go_wp2
          go_ret3
          refine ret3 rfl ?_ (fun t h => ?_) ?_ (drewN_below HBW.out _)
          · unfold put; rw [HF.out]; simp only; rw [← HA.out]; cases a1 <;> rfl
          · unfold put at h
            rw [HF.out] at h
            simp only at h
            rw [← HA.out] at h
            cases a1 with
            | none => cases h
            | some t1 =>
              cases h
              rw [HT.out _ rfl]
              exact cat_two (t := [vb u])
          · rw [ByteArray.size_append, ByteArray.size_append, size_one, nm_size]
            have h1 := HZ.out
            have h3 := HMM.out.1
            rw [show e - k = (e - (k + 2)) + 2 from by omega, Nat.mul_add]
            omega
        · go_wp2_with fail
          refine (IH.out _ (k + 2) b e (upd m 3 u) (by go_num) (by omega) HB.out (upd_lt HM.out hu4) _).mono ?_
          rintro eo w2 ⟨s1, rfl, ht, hz, hbw⟩
          have hz2 : M * (e - (k + 2)) ≤ 4000 * 4000 := Nat.mul_le_mul HMM.out.2 (by have := HB.out.1; omega)
          have hadd := add_ok (P := Try.prog) (x := ⟨#[f[k]]⟩) (y := nm u) (by rw [size_one]; omega) (by rw [nm_size]; omega)
          have hadd2 := add_ok (P := Try.prog) (x := ⟨#[f[k]]⟩ ++ nm u) (y := s1) (by rw [ByteArray.size_append, size_one, nm_size]; omega) (by omega)
          obtain ⟨a1, ha1⟩ : ∃ a1, a1 = put So Ro b (upd m 3 u) := ⟨_, rfl⟩
          rw [← ha1] at ht ⊢
          have HA := Lib.hid ha1
          have HT := Lib.hid ht
          have HZ := Lib.hid hz
          have HBW := Lib.hid ((BL1.out.setCell (by simp) _).trans (hbw.mono (BL1.out.setCell (by simp) _).size))
          clear ha1 ht hz hz2 hbw g0 g1 g2 g3 d0 d1 z0 z1 z2 z3
          go_wp2_with fail
          go_quiet ((go_at_call 26; exact l11Name_q u _ hu4 _))
          go_wp2
          go_ret3
          refine ret3 rfl ?_ (fun t h => ?_) ?_ (drewN_below HBW.out _)
          · unfold put; rw [HF.out]; simp only; rw [← HA.out]; cases a1 <;> rfl
          · unfold put at h
            rw [HF.out] at h
            simp only at h
            rw [← HA.out] at h
            cases a1 with
            | none => cases h
            | some t1 =>
              cases h
              rw [HT.out _ rfl]
              exact cat_two (t := [vb u])
          · rw [ByteArray.size_append, ByteArray.size_append, size_one, nm_size]
            have h1 := HZ.out
            have h3 := HMM.out.1
            rw [show e - k = (e - (k + 2)) + 2 from by omega, Nat.mul_add]
            omega
    have e83 : ((f[k].toNat : Int) == 83) = false := by simp; omega
    by_cases h50 : f[k].toNat = 50
    · have hs0 := sort_of 50 h50 rfl
      have e50 : ((f[k].toNat : Int) == 50) = true := by simp; omega
      clear h50
      obtain ⟨v, b, hv4, hv, hb, rfl⟩ := inv_qu hlt hat hs0
      have HB := Lib.hid hb
      have HV := Lib.hid hv
      have hfree := Fm.free_lt hb.ok
      have hke := hb.lt.2
      clear hs0 hat hv hb
      have CC := cells_at (w := w) (m := m) (sv := sv) (rv := rv) (T1 := 35) (T2 := 38)
      rw [← HW0.out] at CC
      have RR := row_at (w := w) (m := m) (sv := sv) (rv := rv) (T1 := 35) (T2 := 38)
      rw [← HW0.out] at RR
      have HR9 := Lib.hid RR
      have HCC := Lib.hid CC
      clear RR CC
      go_enter Try.func14, Try.ntmps14
      go_wp2_with fail
      rw [← HW0.out]
      refine (l2Var_at f _ (k + 1) v (by go_num) HV.out _ hsz).mono ?_
      rintro eo w1 ⟨rfl, rfl⟩
      go_wp2_with fail
      refine (l2Free_any f (by omega) f.size _ (k + 2) b e (by go_num) HB.out (by omega) _).mono ?_
      rintro eo w1 ⟨rfl, rfl⟩
      have c0 := HCC.out.1.1
      have c1 := HCC.out.1.2.1
      have c2 := HCC.out.1.2.2.1
      have c3 := HCC.out.1.2.2.2
      go_wp2_with fail
      refine (l11Fresh_any v b.free m _ hv4 hfree HM.out).mono ?_
      rintro eo w1 ⟨rfl, hbw⟩
      have BL1 := Lib.hid (AW.out.trans (hbw.mono AW.out.size))
      have g0 := st.keepCell hbw c0
      have g1 := st.keepCell hbw c1
      have g2 := st.keepCell hbw c2
      have g3 := st.keepCell hbw c3
      have d0 := st.keepCell hbw HCC.out.2.1
      have d1 := st.keepCell hbw HCC.out.2.2
      have hr1 : w1.heap[w.heap.size]? = some (.cells #[.int .i64 (m 0), .int .i64 (m 1), .int .i64 (m 2), .int .i64 (m 3)] 35) := by
        rw [hbw.block _ (Array.getElem?_eq_some_iff.1 HR9.out).1]; exact HR9.out
      have z0 := frozen_of_row w1 w.heap.size 0 _ _ hr1
      have z1 := frozen_of_row w1 w.heap.size 1 _ _ hr1
      have z2 := frozen_of_row w1 w.heap.size 2 _ _ hr1
      have z3 := frozen_of_row w1 w.heap.size 3 _ _ hr1
      clear c0 c1 c2 c3 hbw hr1
      cases hf : fresh v b.free m with
      | none =>
        have HF := Lib.hid hf
        clear hf
        go_wp2
        go_ret3
        exact ret3 rfl (by unfold put; rw [HF.out]; rfl) (fun t ht => by unfold put at ht; rw [HF.out] at ht; cases ht) (Nat.zero_le _) BL1.out
      | some u =>
        have HF := Lib.hid hf
        have hu4 := fresh_lt hv4 hf
        have HU : Hid (frI (some u) = (u : Int)) := rfl
        rw [HU.out]
        have tu : decide ((u : Int) < 0) = false := by simp
        have hw1 : IntKind.i64.wrap ((k : Int) + 1) = (k : Int) + 1 := IntWalk.i64_in _ (by omega)
        clear hf
        obtain rfl | rfl | rfl | rfl : v = 0 ∨ v = 1 ∨ v = 2 ∨ v = 3 := by omega
        · go_wp2_with fail
          refine (IH.out _ (k + 2) b e (upd m 0 u) (by go_num) (by omega) HB.out (upd_lt HM.out hu4) _).mono ?_
          rintro eo w2 ⟨s1, rfl, ht, hz, hbw⟩
          have hz2 : M * (e - (k + 2)) ≤ 4000 * 4000 := Nat.mul_le_mul HMM.out.2 (by have := HB.out.1; omega)
          have hadd := add_ok (P := Try.prog) (x := ⟨#[f[k]]⟩) (y := nm u) (by rw [size_one]; omega) (by rw [nm_size]; omega)
          have hadd2 := add_ok (P := Try.prog) (x := ⟨#[f[k]]⟩ ++ nm u) (y := s1) (by rw [ByteArray.size_append, size_one, nm_size]; omega) (by omega)
          obtain ⟨a1, ha1⟩ : ∃ a1, a1 = put So Ro b (upd m 0 u) := ⟨_, rfl⟩
          rw [← ha1] at ht ⊢
          have HA := Lib.hid ha1
          have HT := Lib.hid ht
          have HZ := Lib.hid hz
          have HBW := Lib.hid ((BL1.out.setCell (by simp) _).trans (hbw.mono (BL1.out.setCell (by simp) _).size))
          clear ha1 ht hz hz2 hbw g0 g1 g2 g3 d0 d1 z0 z1 z2 z3
          go_wp2_with fail
          go_quiet ((go_at_call 26; exact l11Name_q u _ hu4 _))
          go_wp2
          go_ret3
          refine ret3 rfl ?_ (fun t h => ?_) ?_ (drewN_below HBW.out _)
          · unfold put; rw [HF.out]; simp only; rw [← HA.out]; cases a1 <;> rfl
          · unfold put at h
            rw [HF.out] at h
            simp only at h
            rw [← HA.out] at h
            cases a1 with
            | none => cases h
            | some t1 =>
              cases h
              rw [HT.out _ rfl]
              exact cat_two (t := [vb u])
          · rw [ByteArray.size_append, ByteArray.size_append, size_one, nm_size]
            have h1 := HZ.out
            have h3 := HMM.out.1
            rw [show e - k = (e - (k + 2)) + 2 from by omega, Nat.mul_add]
            omega
        · go_wp2_with fail
          refine (IH.out _ (k + 2) b e (upd m 1 u) (by go_num) (by omega) HB.out (upd_lt HM.out hu4) _).mono ?_
          rintro eo w2 ⟨s1, rfl, ht, hz, hbw⟩
          have hz2 : M * (e - (k + 2)) ≤ 4000 * 4000 := Nat.mul_le_mul HMM.out.2 (by have := HB.out.1; omega)
          have hadd := add_ok (P := Try.prog) (x := ⟨#[f[k]]⟩) (y := nm u) (by rw [size_one]; omega) (by rw [nm_size]; omega)
          have hadd2 := add_ok (P := Try.prog) (x := ⟨#[f[k]]⟩ ++ nm u) (y := s1) (by rw [ByteArray.size_append, size_one, nm_size]; omega) (by omega)
          obtain ⟨a1, ha1⟩ : ∃ a1, a1 = put So Ro b (upd m 1 u) := ⟨_, rfl⟩
          rw [← ha1] at ht ⊢
          have HA := Lib.hid ha1
          have HT := Lib.hid ht
          have HZ := Lib.hid hz
          have HBW := Lib.hid ((BL1.out.setCell (by simp) _).trans (hbw.mono (BL1.out.setCell (by simp) _).size))
          clear ha1 ht hz hz2 hbw g0 g1 g2 g3 d0 d1 z0 z1 z2 z3
          go_wp2_with fail
          go_quiet ((go_at_call 26; exact l11Name_q u _ hu4 _))
          go_wp2
          go_ret3
          refine ret3 rfl ?_ (fun t h => ?_) ?_ (drewN_below HBW.out _)
          · unfold put; rw [HF.out]; simp only; rw [← HA.out]; cases a1 <;> rfl
          · unfold put at h
            rw [HF.out] at h
            simp only at h
            rw [← HA.out] at h
            cases a1 with
            | none => cases h
            | some t1 =>
              cases h
              rw [HT.out _ rfl]
              exact cat_two (t := [vb u])
          · rw [ByteArray.size_append, ByteArray.size_append, size_one, nm_size]
            have h1 := HZ.out
            have h3 := HMM.out.1
            rw [show e - k = (e - (k + 2)) + 2 from by omega, Nat.mul_add]
            omega
        · go_wp2_with fail
          refine (IH.out _ (k + 2) b e (upd m 2 u) (by go_num) (by omega) HB.out (upd_lt HM.out hu4) _).mono ?_
          rintro eo w2 ⟨s1, rfl, ht, hz, hbw⟩
          have hz2 : M * (e - (k + 2)) ≤ 4000 * 4000 := Nat.mul_le_mul HMM.out.2 (by have := HB.out.1; omega)
          have hadd := add_ok (P := Try.prog) (x := ⟨#[f[k]]⟩) (y := nm u) (by rw [size_one]; omega) (by rw [nm_size]; omega)
          have hadd2 := add_ok (P := Try.prog) (x := ⟨#[f[k]]⟩ ++ nm u) (y := s1) (by rw [ByteArray.size_append, size_one, nm_size]; omega) (by omega)
          obtain ⟨a1, ha1⟩ : ∃ a1, a1 = put So Ro b (upd m 2 u) := ⟨_, rfl⟩
          rw [← ha1] at ht ⊢
          have HA := Lib.hid ha1
          have HT := Lib.hid ht
          have HZ := Lib.hid hz
          have HBW := Lib.hid ((BL1.out.setCell (by simp) _).trans (hbw.mono (BL1.out.setCell (by simp) _).size))
          clear ha1 ht hz hz2 hbw g0 g1 g2 g3 d0 d1 z0 z1 z2 z3
          go_wp2_with fail
          go_quiet ((go_at_call 26; exact l11Name_q u _ hu4 _))
          go_wp2
          go_ret3
          refine ret3 rfl ?_ (fun t h => ?_) ?_ (drewN_below HBW.out _)
          · unfold put; rw [HF.out]; simp only; rw [← HA.out]; cases a1 <;> rfl
          · unfold put at h
            rw [HF.out] at h
            simp only at h
            rw [← HA.out] at h
            cases a1 with
            | none => cases h
            | some t1 =>
              cases h
              rw [HT.out _ rfl]
              exact cat_two (t := [vb u])
          · rw [ByteArray.size_append, ByteArray.size_append, size_one, nm_size]
            have h1 := HZ.out
            have h3 := HMM.out.1
            rw [show e - k = (e - (k + 2)) + 2 from by omega, Nat.mul_add]
            omega
        · go_wp2_with fail
          refine (IH.out _ (k + 2) b e (upd m 3 u) (by go_num) (by omega) HB.out (upd_lt HM.out hu4) _).mono ?_
          rintro eo w2 ⟨s1, rfl, ht, hz, hbw⟩
          have hz2 : M * (e - (k + 2)) ≤ 4000 * 4000 := Nat.mul_le_mul HMM.out.2 (by have := HB.out.1; omega)
          have hadd := add_ok (P := Try.prog) (x := ⟨#[f[k]]⟩) (y := nm u) (by rw [size_one]; omega) (by rw [nm_size]; omega)
          have hadd2 := add_ok (P := Try.prog) (x := ⟨#[f[k]]⟩ ++ nm u) (y := s1) (by rw [ByteArray.size_append, size_one, nm_size]; omega) (by omega)
          obtain ⟨a1, ha1⟩ : ∃ a1, a1 = put So Ro b (upd m 3 u) := ⟨_, rfl⟩
          rw [← ha1] at ht ⊢
          have HA := Lib.hid ha1
          have HT := Lib.hid ht
          have HZ := Lib.hid hz
          have HBW := Lib.hid ((BL1.out.setCell (by simp) _).trans (hbw.mono (BL1.out.setCell (by simp) _).size))
          clear ha1 ht hz hz2 hbw g0 g1 g2 g3 d0 d1 z0 z1 z2 z3
          go_wp2_with fail
          go_quiet ((go_at_call 26; exact l11Name_q u _ hu4 _))
          go_wp2
          go_ret3
          refine ret3 rfl ?_ (fun t h => ?_) ?_ (drewN_below HBW.out _)
          · unfold put; rw [HF.out]; simp only; rw [← HA.out]; cases a1 <;> rfl
          · unfold put at h
            rw [HF.out] at h
            simp only at h
            rw [← HA.out] at h
            cases a1 with
            | none => cases h
            | some t1 =>
              cases h
              rw [HT.out _ rfl]
              exact cat_two (t := [vb u])
          · rw [ByteArray.size_append, ByteArray.size_append, size_one, nm_size]
            have h1 := HZ.out
            have h3 := HMM.out.1
            rw [show e - k = (e - (k + 2)) + 2 from by omega, Nat.mul_add]
            omega
    have e50 : ((f[k].toNat : Int) == 50) = false := by simp; omega
    by_cases h51 : f[k].toNat = 51
    · have hs0 := sort_of 51 h51 rfl
      have e51 : ((f[k].toNat : Int) == 51) = true := by simp; omega
      clear h51
      obtain ⟨v, b, hv4, hv, hb, rfl⟩ := inv_qu hlt hat hs0
      have HB := Lib.hid hb
      have HV := Lib.hid hv
      have hfree := Fm.free_lt hb.ok
      have hke := hb.lt.2
      clear hs0 hat hv hb
      have CC := cells_at (w := w) (m := m) (sv := sv) (rv := rv) (T1 := 35) (T2 := 38)
      rw [← HW0.out] at CC
      have RR := row_at (w := w) (m := m) (sv := sv) (rv := rv) (T1 := 35) (T2 := 38)
      rw [← HW0.out] at RR
      have HR9 := Lib.hid RR
      have HCC := Lib.hid CC
      clear RR CC
      go_enter Try.func14, Try.ntmps14
      go_wp2_with fail
      rw [← HW0.out]
      refine (l2Var_at f _ (k + 1) v (by go_num) HV.out _ hsz).mono ?_
      rintro eo w1 ⟨rfl, rfl⟩
      go_wp2_with fail
      refine (l2Free_any f (by omega) f.size _ (k + 2) b e (by go_num) HB.out (by omega) _).mono ?_
      rintro eo w1 ⟨rfl, rfl⟩
      have c0 := HCC.out.1.1
      have c1 := HCC.out.1.2.1
      have c2 := HCC.out.1.2.2.1
      have c3 := HCC.out.1.2.2.2
      go_wp2_with fail
      refine (l11Fresh_any v b.free m _ hv4 hfree HM.out).mono ?_
      rintro eo w1 ⟨rfl, hbw⟩
      have BL1 := Lib.hid (AW.out.trans (hbw.mono AW.out.size))
      have g0 := st.keepCell hbw c0
      have g1 := st.keepCell hbw c1
      have g2 := st.keepCell hbw c2
      have g3 := st.keepCell hbw c3
      have d0 := st.keepCell hbw HCC.out.2.1
      have d1 := st.keepCell hbw HCC.out.2.2
      have hr1 : w1.heap[w.heap.size]? = some (.cells #[.int .i64 (m 0), .int .i64 (m 1), .int .i64 (m 2), .int .i64 (m 3)] 35) := by
        rw [hbw.block _ (Array.getElem?_eq_some_iff.1 HR9.out).1]; exact HR9.out
      have z0 := frozen_of_row w1 w.heap.size 0 _ _ hr1
      have z1 := frozen_of_row w1 w.heap.size 1 _ _ hr1
      have z2 := frozen_of_row w1 w.heap.size 2 _ _ hr1
      have z3 := frozen_of_row w1 w.heap.size 3 _ _ hr1
      clear c0 c1 c2 c3 hbw hr1
      cases hf : fresh v b.free m with
      | none =>
        have HF := Lib.hid hf
        clear hf
        go_wp2
        go_ret3
        exact ret3 rfl (by unfold put; rw [HF.out]; rfl) (fun t ht => by unfold put at ht; rw [HF.out] at ht; cases ht) (Nat.zero_le _) BL1.out
      | some u =>
        have HF := Lib.hid hf
        have hu4 := fresh_lt hv4 hf
        have HU : Hid (frI (some u) = (u : Int)) := rfl
        rw [HU.out]
        have tu : decide ((u : Int) < 0) = false := by simp
        have hw1 : IntKind.i64.wrap ((k : Int) + 1) = (k : Int) + 1 := IntWalk.i64_in _ (by omega)
        clear hf
        obtain rfl | rfl | rfl | rfl : v = 0 ∨ v = 1 ∨ v = 2 ∨ v = 3 := by omega
        · go_wp2_with fail
          refine (IH.out _ (k + 2) b e (upd m 0 u) (by go_num) (by omega) HB.out (upd_lt HM.out hu4) _).mono ?_
          rintro eo w2 ⟨s1, rfl, ht, hz, hbw⟩
          have hz2 : M * (e - (k + 2)) ≤ 4000 * 4000 := Nat.mul_le_mul HMM.out.2 (by have := HB.out.1; omega)
          have hadd := add_ok (P := Try.prog) (x := ⟨#[f[k]]⟩) (y := nm u) (by rw [size_one]; omega) (by rw [nm_size]; omega)
          have hadd2 := add_ok (P := Try.prog) (x := ⟨#[f[k]]⟩ ++ nm u) (y := s1) (by rw [ByteArray.size_append, size_one, nm_size]; omega) (by omega)
          obtain ⟨a1, ha1⟩ : ∃ a1, a1 = put So Ro b (upd m 0 u) := ⟨_, rfl⟩
          rw [← ha1] at ht ⊢
          have HA := Lib.hid ha1
          have HT := Lib.hid ht
          have HZ := Lib.hid hz
          have HBW := Lib.hid ((BL1.out.setCell (by simp) _).trans (hbw.mono (BL1.out.setCell (by simp) _).size))
          clear ha1 ht hz hz2 hbw g0 g1 g2 g3 d0 d1 z0 z1 z2 z3
          go_wp2_with fail
          go_quiet ((go_at_call 26; exact l11Name_q u _ hu4 _))
          go_wp2
          go_ret3
          refine ret3 rfl ?_ (fun t h => ?_) ?_ (drewN_below HBW.out _)
          · unfold put; rw [HF.out]; simp only; rw [← HA.out]; cases a1 <;> rfl
          · unfold put at h
            rw [HF.out] at h
            simp only at h
            rw [← HA.out] at h
            cases a1 with
            | none => cases h
            | some t1 =>
              cases h
              rw [HT.out _ rfl]
              exact cat_two (t := [vb u])
          · rw [ByteArray.size_append, ByteArray.size_append, size_one, nm_size]
            have h1 := HZ.out
            have h3 := HMM.out.1
            rw [show e - k = (e - (k + 2)) + 2 from by omega, Nat.mul_add]
            omega
        · go_wp2_with fail
          refine (IH.out _ (k + 2) b e (upd m 1 u) (by go_num) (by omega) HB.out (upd_lt HM.out hu4) _).mono ?_
          rintro eo w2 ⟨s1, rfl, ht, hz, hbw⟩
          have hz2 : M * (e - (k + 2)) ≤ 4000 * 4000 := Nat.mul_le_mul HMM.out.2 (by have := HB.out.1; omega)
          have hadd := add_ok (P := Try.prog) (x := ⟨#[f[k]]⟩) (y := nm u) (by rw [size_one]; omega) (by rw [nm_size]; omega)
          have hadd2 := add_ok (P := Try.prog) (x := ⟨#[f[k]]⟩ ++ nm u) (y := s1) (by rw [ByteArray.size_append, size_one, nm_size]; omega) (by omega)
          obtain ⟨a1, ha1⟩ : ∃ a1, a1 = put So Ro b (upd m 1 u) := ⟨_, rfl⟩
          rw [← ha1] at ht ⊢
          have HA := Lib.hid ha1
          have HT := Lib.hid ht
          have HZ := Lib.hid hz
          have HBW := Lib.hid ((BL1.out.setCell (by simp) _).trans (hbw.mono (BL1.out.setCell (by simp) _).size))
          clear ha1 ht hz hz2 hbw g0 g1 g2 g3 d0 d1 z0 z1 z2 z3
          go_wp2_with fail
          go_quiet ((go_at_call 26; exact l11Name_q u _ hu4 _))
          go_wp2
          go_ret3
          refine ret3 rfl ?_ (fun t h => ?_) ?_ (drewN_below HBW.out _)
          · unfold put; rw [HF.out]; simp only; rw [← HA.out]; cases a1 <;> rfl
          · unfold put at h
            rw [HF.out] at h
            simp only at h
            rw [← HA.out] at h
            cases a1 with
            | none => cases h
            | some t1 =>
              cases h
              rw [HT.out _ rfl]
              exact cat_two (t := [vb u])
          · rw [ByteArray.size_append, ByteArray.size_append, size_one, nm_size]
            have h1 := HZ.out
            have h3 := HMM.out.1
            rw [show e - k = (e - (k + 2)) + 2 from by omega, Nat.mul_add]
            omega
        · go_wp2_with fail
          refine (IH.out _ (k + 2) b e (upd m 2 u) (by go_num) (by omega) HB.out (upd_lt HM.out hu4) _).mono ?_
          rintro eo w2 ⟨s1, rfl, ht, hz, hbw⟩
          have hz2 : M * (e - (k + 2)) ≤ 4000 * 4000 := Nat.mul_le_mul HMM.out.2 (by have := HB.out.1; omega)
          have hadd := add_ok (P := Try.prog) (x := ⟨#[f[k]]⟩) (y := nm u) (by rw [size_one]; omega) (by rw [nm_size]; omega)
          have hadd2 := add_ok (P := Try.prog) (x := ⟨#[f[k]]⟩ ++ nm u) (y := s1) (by rw [ByteArray.size_append, size_one, nm_size]; omega) (by omega)
          obtain ⟨a1, ha1⟩ : ∃ a1, a1 = put So Ro b (upd m 2 u) := ⟨_, rfl⟩
          rw [← ha1] at ht ⊢
          have HA := Lib.hid ha1
          have HT := Lib.hid ht
          have HZ := Lib.hid hz
          have HBW := Lib.hid ((BL1.out.setCell (by simp) _).trans (hbw.mono (BL1.out.setCell (by simp) _).size))
          clear ha1 ht hz hz2 hbw g0 g1 g2 g3 d0 d1 z0 z1 z2 z3
          go_wp2_with fail
          go_quiet ((go_at_call 26; exact l11Name_q u _ hu4 _))
          go_wp2
          go_ret3
          refine ret3 rfl ?_ (fun t h => ?_) ?_ (drewN_below HBW.out _)
          · unfold put; rw [HF.out]; simp only; rw [← HA.out]; cases a1 <;> rfl
          · unfold put at h
            rw [HF.out] at h
            simp only at h
            rw [← HA.out] at h
            cases a1 with
            | none => cases h
            | some t1 =>
              cases h
              rw [HT.out _ rfl]
              exact cat_two (t := [vb u])
          · rw [ByteArray.size_append, ByteArray.size_append, size_one, nm_size]
            have h1 := HZ.out
            have h3 := HMM.out.1
            rw [show e - k = (e - (k + 2)) + 2 from by omega, Nat.mul_add]
            omega
        · go_wp2_with fail
          refine (IH.out _ (k + 2) b e (upd m 3 u) (by go_num) (by omega) HB.out (upd_lt HM.out hu4) _).mono ?_
          rintro eo w2 ⟨s1, rfl, ht, hz, hbw⟩
          have hz2 : M * (e - (k + 2)) ≤ 4000 * 4000 := Nat.mul_le_mul HMM.out.2 (by have := HB.out.1; omega)
          have hadd := add_ok (P := Try.prog) (x := ⟨#[f[k]]⟩) (y := nm u) (by rw [size_one]; omega) (by rw [nm_size]; omega)
          have hadd2 := add_ok (P := Try.prog) (x := ⟨#[f[k]]⟩ ++ nm u) (y := s1) (by rw [ByteArray.size_append, size_one, nm_size]; omega) (by omega)
          obtain ⟨a1, ha1⟩ : ∃ a1, a1 = put So Ro b (upd m 3 u) := ⟨_, rfl⟩
          rw [← ha1] at ht ⊢
          have HA := Lib.hid ha1
          have HT := Lib.hid ht
          have HZ := Lib.hid hz
          have HBW := Lib.hid ((BL1.out.setCell (by simp) _).trans (hbw.mono (BL1.out.setCell (by simp) _).size))
          clear ha1 ht hz hz2 hbw g0 g1 g2 g3 d0 d1 z0 z1 z2 z3
          go_wp2_with fail
          go_quiet ((go_at_call 26; exact l11Name_q u _ hu4 _))
          go_wp2
          go_ret3
          refine ret3 rfl ?_ (fun t h => ?_) ?_ (drewN_below HBW.out _)
          · unfold put; rw [HF.out]; simp only; rw [← HA.out]; cases a1 <;> rfl
          · unfold put at h
            rw [HF.out] at h
            simp only at h
            rw [← HA.out] at h
            cases a1 with
            | none => cases h
            | some t1 =>
              cases h
              rw [HT.out _ rfl]
              exact cat_two (t := [vb u])
          · rw [ByteArray.size_append, ByteArray.size_append, size_one, nm_size]
            have h1 := HZ.out
            have h3 := HMM.out.1
            rw [show e - k = (e - (k + 2)) + 2 from by omega, Nat.mul_add]
            omega
    have e51 : ((f[k].toNat : Int) == 51) = false := by simp; omega
    by_cases h52 : f[k].toNat = 52
    · have hs0 := sort_of 52 h52 rfl
      have e52 : ((f[k].toNat : Int) == 52) = true := by simp; omega
      clear h52
      obtain ⟨v, b, hv4, hv, hb, rfl⟩ := inv_qu hlt hat hs0
      have HB := Lib.hid hb
      have HV := Lib.hid hv
      have hfree := Fm.free_lt hb.ok
      have hke := hb.lt.2
      clear hs0 hat hv hb
      have CC := cells_at (w := w) (m := m) (sv := sv) (rv := rv) (T1 := 35) (T2 := 38)
      rw [← HW0.out] at CC
      have RR := row_at (w := w) (m := m) (sv := sv) (rv := rv) (T1 := 35) (T2 := 38)
      rw [← HW0.out] at RR
      have HR9 := Lib.hid RR
      have HCC := Lib.hid CC
      clear RR CC
      go_enter Try.func14, Try.ntmps14
      go_wp2_with fail
      rw [← HW0.out]
      refine (l2Var_at f _ (k + 1) v (by go_num) HV.out _ hsz).mono ?_
      rintro eo w1 ⟨rfl, rfl⟩
      go_wp2_with fail
      refine (l2Free_any f (by omega) f.size _ (k + 2) b e (by go_num) HB.out (by omega) _).mono ?_
      rintro eo w1 ⟨rfl, rfl⟩
      have c0 := HCC.out.1.1
      have c1 := HCC.out.1.2.1
      have c2 := HCC.out.1.2.2.1
      have c3 := HCC.out.1.2.2.2
      go_wp2_with fail
      refine (l11Fresh_any v b.free m _ hv4 hfree HM.out).mono ?_
      rintro eo w1 ⟨rfl, hbw⟩
      have BL1 := Lib.hid (AW.out.trans (hbw.mono AW.out.size))
      have g0 := st.keepCell hbw c0
      have g1 := st.keepCell hbw c1
      have g2 := st.keepCell hbw c2
      have g3 := st.keepCell hbw c3
      have d0 := st.keepCell hbw HCC.out.2.1
      have d1 := st.keepCell hbw HCC.out.2.2
      have hr1 : w1.heap[w.heap.size]? = some (.cells #[.int .i64 (m 0), .int .i64 (m 1), .int .i64 (m 2), .int .i64 (m 3)] 35) := by
        rw [hbw.block _ (Array.getElem?_eq_some_iff.1 HR9.out).1]; exact HR9.out
      have z0 := frozen_of_row w1 w.heap.size 0 _ _ hr1
      have z1 := frozen_of_row w1 w.heap.size 1 _ _ hr1
      have z2 := frozen_of_row w1 w.heap.size 2 _ _ hr1
      have z3 := frozen_of_row w1 w.heap.size 3 _ _ hr1
      clear c0 c1 c2 c3 hbw hr1
      cases hf : fresh v b.free m with
      | none =>
        have HF := Lib.hid hf
        clear hf
        go_wp2
        go_ret3
        exact ret3 rfl (by unfold put; rw [HF.out]; rfl) (fun t ht => by unfold put at ht; rw [HF.out] at ht; cases ht) (Nat.zero_le _) BL1.out
      | some u =>
        have HF := Lib.hid hf
        have hu4 := fresh_lt hv4 hf
        have HU : Hid (frI (some u) = (u : Int)) := rfl
        rw [HU.out]
        have tu : decide ((u : Int) < 0) = false := by simp
        have hw1 : IntKind.i64.wrap ((k : Int) + 1) = (k : Int) + 1 := IntWalk.i64_in _ (by omega)
        clear hf
        obtain rfl | rfl | rfl | rfl : v = 0 ∨ v = 1 ∨ v = 2 ∨ v = 3 := by omega
        · go_wp2_with fail
          refine (IH.out _ (k + 2) b e (upd m 0 u) (by go_num) (by omega) HB.out (upd_lt HM.out hu4) _).mono ?_
          rintro eo w2 ⟨s1, rfl, ht, hz, hbw⟩
          have hz2 : M * (e - (k + 2)) ≤ 4000 * 4000 := Nat.mul_le_mul HMM.out.2 (by have := HB.out.1; omega)
          have hadd := add_ok (P := Try.prog) (x := ⟨#[f[k]]⟩) (y := nm u) (by rw [size_one]; omega) (by rw [nm_size]; omega)
          have hadd2 := add_ok (P := Try.prog) (x := ⟨#[f[k]]⟩ ++ nm u) (y := s1) (by rw [ByteArray.size_append, size_one, nm_size]; omega) (by omega)
          obtain ⟨a1, ha1⟩ : ∃ a1, a1 = put So Ro b (upd m 0 u) := ⟨_, rfl⟩
          rw [← ha1] at ht ⊢
          have HA := Lib.hid ha1
          have HT := Lib.hid ht
          have HZ := Lib.hid hz
          have HBW := Lib.hid ((BL1.out.setCell (by simp) _).trans (hbw.mono (BL1.out.setCell (by simp) _).size))
          clear ha1 ht hz hz2 hbw g0 g1 g2 g3 d0 d1 z0 z1 z2 z3
          go_wp2_with fail
          go_quiet ((go_at_call 26; exact l11Name_q u _ hu4 _))
          go_wp2
          go_ret3
          refine ret3 rfl ?_ (fun t h => ?_) ?_ (drewN_below HBW.out _)
          · unfold put; rw [HF.out]; simp only; rw [← HA.out]; cases a1 <;> rfl
          · unfold put at h
            rw [HF.out] at h
            simp only at h
            rw [← HA.out] at h
            cases a1 with
            | none => cases h
            | some t1 =>
              cases h
              rw [HT.out _ rfl]
              exact cat_two (t := [vb u])
          · rw [ByteArray.size_append, ByteArray.size_append, size_one, nm_size]
            have h1 := HZ.out
            have h3 := HMM.out.1
            rw [show e - k = (e - (k + 2)) + 2 from by omega, Nat.mul_add]
            omega
        · go_wp2_with fail
          refine (IH.out _ (k + 2) b e (upd m 1 u) (by go_num) (by omega) HB.out (upd_lt HM.out hu4) _).mono ?_
          rintro eo w2 ⟨s1, rfl, ht, hz, hbw⟩
          have hz2 : M * (e - (k + 2)) ≤ 4000 * 4000 := Nat.mul_le_mul HMM.out.2 (by have := HB.out.1; omega)
          have hadd := add_ok (P := Try.prog) (x := ⟨#[f[k]]⟩) (y := nm u) (by rw [size_one]; omega) (by rw [nm_size]; omega)
          have hadd2 := add_ok (P := Try.prog) (x := ⟨#[f[k]]⟩ ++ nm u) (y := s1) (by rw [ByteArray.size_append, size_one, nm_size]; omega) (by omega)
          obtain ⟨a1, ha1⟩ : ∃ a1, a1 = put So Ro b (upd m 1 u) := ⟨_, rfl⟩
          rw [← ha1] at ht ⊢
          have HA := Lib.hid ha1
          have HT := Lib.hid ht
          have HZ := Lib.hid hz
          have HBW := Lib.hid ((BL1.out.setCell (by simp) _).trans (hbw.mono (BL1.out.setCell (by simp) _).size))
          clear ha1 ht hz hz2 hbw g0 g1 g2 g3 d0 d1 z0 z1 z2 z3
          go_wp2_with fail
          go_quiet ((go_at_call 26; exact l11Name_q u _ hu4 _))
          go_wp2
          go_ret3
          refine ret3 rfl ?_ (fun t h => ?_) ?_ (drewN_below HBW.out _)
          · unfold put; rw [HF.out]; simp only; rw [← HA.out]; cases a1 <;> rfl
          · unfold put at h
            rw [HF.out] at h
            simp only at h
            rw [← HA.out] at h
            cases a1 with
            | none => cases h
            | some t1 =>
              cases h
              rw [HT.out _ rfl]
              exact cat_two (t := [vb u])
          · rw [ByteArray.size_append, ByteArray.size_append, size_one, nm_size]
            have h1 := HZ.out
            have h3 := HMM.out.1
            rw [show e - k = (e - (k + 2)) + 2 from by omega, Nat.mul_add]
            omega
        · go_wp2_with fail
          refine (IH.out _ (k + 2) b e (upd m 2 u) (by go_num) (by omega) HB.out (upd_lt HM.out hu4) _).mono ?_
          rintro eo w2 ⟨s1, rfl, ht, hz, hbw⟩
          have hz2 : M * (e - (k + 2)) ≤ 4000 * 4000 := Nat.mul_le_mul HMM.out.2 (by have := HB.out.1; omega)
          have hadd := add_ok (P := Try.prog) (x := ⟨#[f[k]]⟩) (y := nm u) (by rw [size_one]; omega) (by rw [nm_size]; omega)
          have hadd2 := add_ok (P := Try.prog) (x := ⟨#[f[k]]⟩ ++ nm u) (y := s1) (by rw [ByteArray.size_append, size_one, nm_size]; omega) (by omega)
          obtain ⟨a1, ha1⟩ : ∃ a1, a1 = put So Ro b (upd m 2 u) := ⟨_, rfl⟩
          rw [← ha1] at ht ⊢
          have HA := Lib.hid ha1
          have HT := Lib.hid ht
          have HZ := Lib.hid hz
          have HBW := Lib.hid ((BL1.out.setCell (by simp) _).trans (hbw.mono (BL1.out.setCell (by simp) _).size))
          clear ha1 ht hz hz2 hbw g0 g1 g2 g3 d0 d1 z0 z1 z2 z3
          go_wp2_with fail
          go_quiet ((go_at_call 26; exact l11Name_q u _ hu4 _))
          go_wp2
          go_ret3
          refine ret3 rfl ?_ (fun t h => ?_) ?_ (drewN_below HBW.out _)
          · unfold put; rw [HF.out]; simp only; rw [← HA.out]; cases a1 <;> rfl
          · unfold put at h
            rw [HF.out] at h
            simp only at h
            rw [← HA.out] at h
            cases a1 with
            | none => cases h
            | some t1 =>
              cases h
              rw [HT.out _ rfl]
              exact cat_two (t := [vb u])
          · rw [ByteArray.size_append, ByteArray.size_append, size_one, nm_size]
            have h1 := HZ.out
            have h3 := HMM.out.1
            rw [show e - k = (e - (k + 2)) + 2 from by omega, Nat.mul_add]
            omega
        · go_wp2_with fail
          refine (IH.out _ (k + 2) b e (upd m 3 u) (by go_num) (by omega) HB.out (upd_lt HM.out hu4) _).mono ?_
          rintro eo w2 ⟨s1, rfl, ht, hz, hbw⟩
          have hz2 : M * (e - (k + 2)) ≤ 4000 * 4000 := Nat.mul_le_mul HMM.out.2 (by have := HB.out.1; omega)
          have hadd := add_ok (P := Try.prog) (x := ⟨#[f[k]]⟩) (y := nm u) (by rw [size_one]; omega) (by rw [nm_size]; omega)
          have hadd2 := add_ok (P := Try.prog) (x := ⟨#[f[k]]⟩ ++ nm u) (y := s1) (by rw [ByteArray.size_append, size_one, nm_size]; omega) (by omega)
          obtain ⟨a1, ha1⟩ : ∃ a1, a1 = put So Ro b (upd m 3 u) := ⟨_, rfl⟩
          rw [← ha1] at ht ⊢
          have HA := Lib.hid ha1
          have HT := Lib.hid ht
          have HZ := Lib.hid hz
          have HBW := Lib.hid ((BL1.out.setCell (by simp) _).trans (hbw.mono (BL1.out.setCell (by simp) _).size))
          clear ha1 ht hz hz2 hbw g0 g1 g2 g3 d0 d1 z0 z1 z2 z3
          go_wp2_with fail
          go_quiet ((go_at_call 26; exact l11Name_q u _ hu4 _))
          go_wp2
          go_ret3
          refine ret3 rfl ?_ (fun t h => ?_) ?_ (drewN_below HBW.out _)
          · unfold put; rw [HF.out]; simp only; rw [← HA.out]; cases a1 <;> rfl
          · unfold put at h
            rw [HF.out] at h
            simp only at h
            rw [← HA.out] at h
            cases a1 with
            | none => cases h
            | some t1 =>
              cases h
              rw [HT.out _ rfl]
              exact cat_two (t := [vb u])
          · rw [ByteArray.size_append, ByteArray.size_append, size_one, nm_size]
            have h1 := HZ.out
            have h3 := HMM.out.1
            rw [show e - k = (e - (k + 2)) + 2 from by omega, Nat.mul_add]
            omega
    have e52 : ((f[k].toNat : Int) == 52) = false := by simp; omega
    exact (inv_bad hlt hat (sort_none (by
      intro n hn hc
      simp only [List.mem_cons, List.not_mem_nil, or_false] at hn
      omega))).elim
end Go.Proofs.Ytefneihlgclkbaa.fmk
