/- Formulas in the reference: PutVars. -/
import Derived.Test.YtefneihlgclkbaaDoorFmL
namespace Go.Proofs.YtefneihlgclkbaaDoor.fmm
set_option linter.unusedVariables false
set_option linter.unusedSimpArgs false
open Go.ChangeShapes Go.WideShapes Go.ChangeAt Go.RowKit
open Go.Proofs.YtefneihlgclkbaaDoor.lib Go.Proofs.YtefneihlgclkbaaDoor.fm Go.Proofs.YtefneihlgclkbaaDoor.fms Go.Proofs.YtefneihlgclkbaaDoor.fmp Go.Proofs.YtefneihlgclkbaaDoor.fmq Go.Proofs.YtefneihlgclkbaaDoor.fme Go.Proofs.YtefneihlgclkbaaDoor.fmf Go.Proofs.YtefneihlgclkbaaDoor.fmi Go.Proofs.YtefneihlgclkbaaDoor.fmj Go.Proofs.YtefneihlgclkbaaDoor.fmk Go.Proofs.YtefneihlgclkbaaDoor.fml

/-- the map that four letters say -/
def mapOf (vars : ByteArray) : Nat → Nat := fun v => vn (vars.data.toList.getD v 97)
/-- what PutVars says -/
def pvO (f vars : ByteArray) : Option (List UInt8) :=
  if fmB f = true ∧ vars.size = 4 ∧ vars.data.toList.all isV = true then match read f.data.toList with
    | some (a, _) => put0 a (mapOf vars)
    | none => none
  else none
theorem pv_no1 {f vars : ByteArray} (h : fmB f = false) : pvO f vars = none := by unfold pvO; rw [if_neg]; rw [h]; simp
theorem pv_no2 {f vars : ByteArray} (h : ¬ vars.size = 4) : pvO f vars = none := by unfold pvO; rw [if_neg]; exact fun x => h x.2.1
theorem pv_no3 {f vars : ByteArray} {k : Nat} (hk : k < vars.size) (h : isV vars[k] = false) : pvO f vars = none := by
  unfold pvO
  rw [if_neg]
  intro x
  have := List.all_eq_true.1 x.2.2 vars[k] (List.getElem_mem (l := vars.data.toList) (by simpa using hk))
  rw [h] at this
  cases this
theorem pv_yes {f vars : ByteArray} {a : Fm} (h1 : fmB f = true) (h2 : vars.size = 4) (h3 : ∀ j (h : j < vars.size), j < 4 → isV vars[j] = true) (hat : At f 0 a f.size) : pvO f vars = put0 a (mapOf vars) := by
  unfold pvO
  rw [if_pos ⟨h1, h2, List.all_eq_true.2 fun x hx => by
    obtain ⟨j, hj, rfl⟩ := List.mem_iff_getElem.1 hx
    have hj2 : j < vars.size := by simpa using hj
    exact h3 j hj2 (by omega)⟩]
  have := hat.2
  rw [List.drop_zero] at this
  rw [this]
theorem map_at {vars : ByteArray} {k : Nat} (h : k < vars.size) : mapOf vars k = vn vars[k] := by
  unfold mapOf
  rw [List.getD_eq_getElem?_getD, fms.get_at h]
  rfl
theorem map_lt {vars : ByteArray} (h2 : vars.size = 4) (h3 : ∀ j (h : j < vars.size), j < 4 → isV vars[j] = true) : ∀ v, v < 4 → mapOf vars v < 4 := fun v hv => by
  rw [map_at (by omega)]
  exact vn_lt (h3 v (by omega) hv)
/-- the row of the map under way -/
def vl (m : Nat → Nat) (k j : Nat) : Value := if j < k then .int .i64 (m j : Nat) else .int .i64 0
def Row (T : TypeId) (w : World) (H : Nat) (m : Nat → Nat) (k : Nat) : Prop := w.heap[H]? = some (.cells #[vl m k 0, vl m k 1, vl m k 2, vl m k 3] T (0, 0))
theorem Row.c {T : TypeId} {w : World} {H k : Nat} {m : Nat → Nat} (h : Row T w H m k) : w.cell? ⟨H, 0, none⟩ = some (vl m k 0) ∧ w.cell? ⟨H, 1, none⟩ = some (vl m k 1) ∧ w.cell? ⟨H, 2, none⟩ = some (vl m k 2) ∧ w.cell? ⟨H, 3, none⟩ = some (vl m k 3) := by
  unfold Row at h
  refine ⟨?_, ?_, ?_, ?_⟩ <;> simp [World.cell?, h]
theorem Row.free {T : TypeId} {w : World} {H k : Nat} {m : Nat → Nat} (h : Row T w H m k) (j : Nat) : w.frozen? ⟨H, j, none⟩ = false := frozen_of_row w H j _ T h
theorem Row.set0 {T : TypeId} {w : World} {H : Nat} {m : Nat → Nat} (h : Row T w H m 0) : Row T (w.setCell ⟨H, 0, none⟩ (.int .i64 (m 0 : Nat))) H m 1 := by
  have := heap_setCell_same w H 0 _ T (.int .i64 (m 0 : Nat)) h
  unfold Row
  rw [this]; rfl
theorem Row.set1 {T : TypeId} {w : World} {H : Nat} {m : Nat → Nat} (h : Row T w H m 1) : Row T (w.setCell ⟨H, 1, none⟩ (.int .i64 (m 1 : Nat))) H m 2 := by
  have := heap_setCell_same w H 1 _ T (.int .i64 (m 1 : Nat)) h
  unfold Row
  rw [this]; rfl
theorem Row.set2 {T : TypeId} {w : World} {H : Nat} {m : Nat → Nat} (h : Row T w H m 2) : Row T (w.setCell ⟨H, 2, none⟩ (.int .i64 (m 2 : Nat))) H m 3 := by
  have := heap_setCell_same w H 2 _ T (.int .i64 (m 2 : Nat)) h
  unfold Row
  rw [this]; rfl
theorem Row.set3 {T : TypeId} {w : World} {H : Nat} {m : Nat → Nat} (h : Row T w H m 3) : Row T (w.setCell ⟨H, 3, none⟩ (.int .i64 (m 3 : Nat))) H m 4 := by
  have := heap_setCell_same w H 3 _ T (.int .i64 (m 3 : Nat)) h
  unfold Row
  rw [this]; rfl

set_option maxHeartbeats 3200000 in
set_option maxRecDepth 100000 in
theorem PutVars_any (f vars : ByteArray) (w : World) (hs : f.size ≤ 1048576) (hv : vars.size ≤ 1048576) :
    Calls Tryd.prog 42 #[.string f, .string vars] w fun e w' => e = .returned (.tuple #[.string (resS (pvO f vars)), .bool (resB (pvO f vars))]) ∧ Below w.heap.size w w' := by
  have AW : Hid (Below w.heap.size w (w.alloc (.cells #[.int .i64 0, .int .i64 0, .int .i64 0, .int .i64 0] 78))) := (Below.refl _ _).alloc (Nat.le_refl _) _
  cases hb : fmB f with
  | false =>
    have HB := Lib.hid hb
    have HE : Hid (pvO f vars = none) := pv_no1 hb
    clear hb
    go_enter Tryd.func42, Tryd.ntmps42
    go_wp2_with fail
    refine (FormulaValid_any f _ hs).mono ?_
    rintro eo w1 ⟨rfl, rfl⟩
    rw [HB.out]
    go_wp2
    go_ret2
    exact ⟨by rw [HE.out]; rfl, AW.out⟩
  | true =>
    have HB := Lib.hid hb
    clear hb
    by_cases h4 : vars.size = 4
    · have e4 : ((vars.size : Int) != 4) = false := by simp; omega
      obtain ⟨W0, hW0⟩ : ∃ QZ, QZ = w.alloc (.cells #[.int .i64 0, .int .i64 0, .int .i64 0, .int .i64 0] 78) := ⟨_, rfl⟩
      have R0 : Hid (Row 78 W0 w.heap.size (mapOf vars) 0) := by rw [hW0]; exact heap_alloc_new w _
      rw [← hW0] at AW
      have H4 := Lib.hid h4
      have hk0 : 0 < vars.size ∧ 1 < vars.size ∧ 2 < vars.size ∧ 3 < vars.size := by omega
      clear h4
      have HS0 : Hid (Below w.heap.size w W0 ∧ Row 78 W0 w.heap.size (mapOf vars) 0) := ⟨AW.out, R0.out⟩
      clear AW R0
      go_enter Tryd.func42, Tryd.ntmps42
      go_wp2_with fail
      refine (FormulaValid_any f _ hs).mono ?_
      rintro eo w1 ⟨rfl, rfl⟩
      rw [HB.out]
      go_wp2_with fail
      rw [← hW0]
      clear hW0
      go_loopw [7] (fun i wr => ∃ k : Nat, k ≤ 4 ∧ i = .int .i64 k ∧ Hid (∀ j (h : j < vars.size), j < k → isV vars[j] = true) ∧ Below w.heap.size w wr ∧ Row 78 wr w.heap.size (mapOf vars) k) (fun i _ => 4 - (intOf i).toNat)
      case atStart => exact ⟨0, Nat.zero_le _, rfl, fun j _ hj => by omega, HS0.out⟩
      case round =>
        clear HS0
        obtain ⟨k, hk, rfl, HD, hst⟩ := hrel
        have HS := Lib.hid hst
        clear hst
        obtain rfl | rfl | rfl | rfl | rfl : k = 0 ∨ k = 1 ∨ k = 2 ∨ k = 3 ∨ k = 4 := by omega
        · obtain ⟨c0, c1, c2, c3⟩ := Row.c HS.out.2
          have z0 := Row.free HS.out.2 0
          have hlt : 0 < vars.size := hk0.1
          cases hiv : isV vars[0] with
          | true =>
            have HV : Hid (varI vars 0 = (mapOf vars 0 : Nat)) := by unfold Hid; rw [varI_of hlt, if_pos hiv, map_at hlt]
            obtain ⟨y, hy⟩ : ∃ y, y = mapOf vars 0 := ⟨_, rfl⟩
            have ty : decide ((y : Int) < 0) = false := by simp
            have HD2 : Hid (∀ j (h : j < vars.size), j < 1 → isV vars[j] = true) := fun j h hj => by
              by_cases e : j = 0
              · subst e; exact hiv
              · exact HD.out j h (by omega)
            clear hiv hlt
            go_wp2_with fail
            refine (l2Var_any vars _ 0 rfl _ (by omega)).mono ?_
            rintro eo w1 ⟨rfl, rfl⟩
            rw [HV.out, ← hy]
            have RN : Hid (Below w.heap.size w (wr.setCell ⟨w.heap.size, 0, none⟩ (.int .i64 (y : Nat))) ∧ Row 78 (wr.setCell ⟨w.heap.size, 0, none⟩ (.int .i64 (y : Nat))) w.heap.size (mapOf vars) 1) := by
              rw [hy]
              exact ⟨HS.out.1.setCell (by simp) _, Row.set0 HS.out.2⟩
            clear hy
            go_wp2
            go_roundw
            case rel => exact ⟨1, by omega, rfl, HD2, RN.out⟩
            case measure => simp [intOf]
          | false =>
            have HV : Hid (varI vars 0 = -1) := by unfold Hid; rw [varI_of hlt, hiv]; rfl
            have HE : Hid (pvO f vars = none) := pv_no3 hlt hiv
            clear hiv hlt
            go_wp2_with fail
            refine (l2Var_any vars _ 0 rfl _ (by omega)).mono ?_
            rintro eo w1 ⟨rfl, rfl⟩
            rw [HV.out]
            go_wp2
            go_ret2
            exact ⟨by rw [HE.out]; rfl, HS.out.1.setCell (by simp) _⟩
        · obtain ⟨c0, c1, c2, c3⟩ := Row.c HS.out.2
          have z1 := Row.free HS.out.2 1
          have hlt : 1 < vars.size := hk0.2.1
          cases hiv : isV vars[1] with
          | true =>
            have HV : Hid (varI vars 1 = (mapOf vars 1 : Nat)) := by unfold Hid; rw [varI_of hlt, if_pos hiv, map_at hlt]
            obtain ⟨y, hy⟩ : ∃ y, y = mapOf vars 1 := ⟨_, rfl⟩
            have ty : decide ((y : Int) < 0) = false := by simp
            have HD2 : Hid (∀ j (h : j < vars.size), j < 2 → isV vars[j] = true) := fun j h hj => by
              by_cases e : j = 1
              · subst e; exact hiv
              · exact HD.out j h (by omega)
            clear hiv hlt
            go_wp2_with fail
            refine (l2Var_any vars _ 1 rfl _ (by omega)).mono ?_
            rintro eo w1 ⟨rfl, rfl⟩
            rw [HV.out, ← hy]
            have RN : Hid (Below w.heap.size w (wr.setCell ⟨w.heap.size, 1, none⟩ (.int .i64 (y : Nat))) ∧ Row 78 (wr.setCell ⟨w.heap.size, 1, none⟩ (.int .i64 (y : Nat))) w.heap.size (mapOf vars) 2) := by
              rw [hy]
              exact ⟨HS.out.1.setCell (by simp) _, Row.set1 HS.out.2⟩
            clear hy
            go_wp2
            go_roundw
            case rel => exact ⟨2, by omega, rfl, HD2, RN.out⟩
            case measure => simp [intOf]
          | false =>
            have HV : Hid (varI vars 1 = -1) := by unfold Hid; rw [varI_of hlt, hiv]; rfl
            have HE : Hid (pvO f vars = none) := pv_no3 hlt hiv
            clear hiv hlt
            go_wp2_with fail
            refine (l2Var_any vars _ 1 rfl _ (by omega)).mono ?_
            rintro eo w1 ⟨rfl, rfl⟩
            rw [HV.out]
            go_wp2
            go_ret2
            exact ⟨by rw [HE.out]; rfl, HS.out.1.setCell (by simp) _⟩
        · obtain ⟨c0, c1, c2, c3⟩ := Row.c HS.out.2
          have z2 := Row.free HS.out.2 2
          have hlt : 2 < vars.size := hk0.2.2.1
          cases hiv : isV vars[2] with
          | true =>
            have HV : Hid (varI vars 2 = (mapOf vars 2 : Nat)) := by unfold Hid; rw [varI_of hlt, if_pos hiv, map_at hlt]
            obtain ⟨y, hy⟩ : ∃ y, y = mapOf vars 2 := ⟨_, rfl⟩
            have ty : decide ((y : Int) < 0) = false := by simp
            have HD2 : Hid (∀ j (h : j < vars.size), j < 3 → isV vars[j] = true) := fun j h hj => by
              by_cases e : j = 2
              · subst e; exact hiv
              · exact HD.out j h (by omega)
            clear hiv hlt
            go_wp2_with fail
            refine (l2Var_any vars _ 2 rfl _ (by omega)).mono ?_
            rintro eo w1 ⟨rfl, rfl⟩
            rw [HV.out, ← hy]
            have RN : Hid (Below w.heap.size w (wr.setCell ⟨w.heap.size, 2, none⟩ (.int .i64 (y : Nat))) ∧ Row 78 (wr.setCell ⟨w.heap.size, 2, none⟩ (.int .i64 (y : Nat))) w.heap.size (mapOf vars) 3) := by
              rw [hy]
              exact ⟨HS.out.1.setCell (by simp) _, Row.set2 HS.out.2⟩
            clear hy
            go_wp2
            go_roundw
            case rel => exact ⟨3, by omega, rfl, HD2, RN.out⟩
            case measure => simp [intOf]
          | false =>
            have HV : Hid (varI vars 2 = -1) := by unfold Hid; rw [varI_of hlt, hiv]; rfl
            have HE : Hid (pvO f vars = none) := pv_no3 hlt hiv
            clear hiv hlt
            go_wp2_with fail
            refine (l2Var_any vars _ 2 rfl _ (by omega)).mono ?_
            rintro eo w1 ⟨rfl, rfl⟩
            rw [HV.out]
            go_wp2
            go_ret2
            exact ⟨by rw [HE.out]; rfl, HS.out.1.setCell (by simp) _⟩
        · obtain ⟨c0, c1, c2, c3⟩ := Row.c HS.out.2
          have z3 := Row.free HS.out.2 3
          have hlt : 3 < vars.size := hk0.2.2.2
          cases hiv : isV vars[3] with
          | true =>
            have HV : Hid (varI vars 3 = (mapOf vars 3 : Nat)) := by unfold Hid; rw [varI_of hlt, if_pos hiv, map_at hlt]
            obtain ⟨y, hy⟩ : ∃ y, y = mapOf vars 3 := ⟨_, rfl⟩
            have ty : decide ((y : Int) < 0) = false := by simp
            have HD2 : Hid (∀ j (h : j < vars.size), j < 4 → isV vars[j] = true) := fun j h hj => by
              by_cases e : j = 3
              · subst e; exact hiv
              · exact HD.out j h (by omega)
            clear hiv hlt
            go_wp2_with fail
            refine (l2Var_any vars _ 3 rfl _ (by omega)).mono ?_
            rintro eo w1 ⟨rfl, rfl⟩
            rw [HV.out, ← hy]
            have RN : Hid (Below w.heap.size w (wr.setCell ⟨w.heap.size, 3, none⟩ (.int .i64 (y : Nat))) ∧ Row 78 (wr.setCell ⟨w.heap.size, 3, none⟩ (.int .i64 (y : Nat))) w.heap.size (mapOf vars) 4) := by
              rw [hy]
              exact ⟨HS.out.1.setCell (by simp) _, Row.set3 HS.out.2⟩
            clear hy
            go_wp2
            go_roundw
            case rel => exact ⟨4, by omega, rfl, HD2, RN.out⟩
            case measure => simp [intOf]
          | false =>
            have HV : Hid (varI vars 3 = -1) := by unfold Hid; rw [varI_of hlt, hiv]; rfl
            have HE : Hid (pvO f vars = none) := pv_no3 hlt hiv
            clear hiv hlt
            go_wp2_with fail
            refine (l2Var_any vars _ 3 rfl _ (by omega)).mono ?_
            rintro eo w1 ⟨rfl, rfl⟩
            rw [HV.out]
            go_wp2
            go_ret2
            exact ⟨by rw [HE.out]; rfl, HS.out.1.setCell (by simp) _⟩
        · obtain ⟨c0, c1, c2, c3⟩ := Row.c HS.out.2
          obtain ⟨h40, a, hat⟩ := fmB_iff.1 HB.out
          have HE := Lib.hid (pv_yes HB.out H4.out HD.out hat)
          have HM := Lib.hid (map_lt H4.out HD.out)
          have HA := Lib.hid hat
          clear hat
          go_wp2_with fail
          refine (l11Put0_any f h40 0 a f.size (mapOf vars) HA.out HM.out 0 rfl _).mono ?_
          rintro eo w1 ⟨s1, rfl, ht, hz, hbw⟩
          have HT := Lib.hid ht
          have HZ := Lib.hid hz
          have HBW := Lib.hid (HS.out.1.trans (hbw.mono HS.out.1.size))
          clear ht hz hbw c0 c1 c2 c3
          go_wp2_with fail
          refine (l11Result_any s1 _ HT.out (by have := HZ.out; omega) _).mono ?_
          rintro eo w2 ⟨rfl, rfl⟩
          rw [← HE.out]
          go_wp2
          go_ret2
          exact ⟨rfl, HBW.out⟩
    · have e4 : ((vars.size : Int) != 4) = true := by simp; omega
      have HE : Hid (pvO f vars = none) := pv_no2 h4
      clear h4
      go_enter Tryd.func42, Tryd.ntmps42
      go_wp2_with fail
      refine (FormulaValid_any f _ hs).mono ?_
      rintro eo w1 ⟨rfl, rfl⟩
      rw [HB.out]
      go_wp2
      go_ret2
      exact ⟨by rw [HE.out]; rfl, AW.out⟩
end Go.Proofs.YtefneihlgclkbaaDoor.fmm
