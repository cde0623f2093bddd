/- SameShape of the program: whether there is an order that fits. -/
import Derived.Test.YtefneihlgclkbaaDoorEach2
import Derived.Test.YtefneihlgclkbaaDoorPkO
import Derived.Test.YtefneihlgclkbaaDoorChain
import Derived.WalkSpells
namespace Go.Proofs.YtefneihlgclkbaaDoor.shape
set_option linter.unusedVariables false
set_option linter.unusedSimpArgs false
open Go.ChangeShapes Go.WideShapes Go.ChangeAt Go.RowKit
open Go.Proofs.YtefneihlgclkbaaDoor.lib Go.Proofs.YtefneihlgclkbaaDoor.st Go.Proofs.YtefneihlgclkbaaDoor.base Go.Proofs.YtefneihlgclkbaaDoor.make Go.Proofs.YtefneihlgclkbaaDoor.fits Go.Proofs.YtefneihlgclkbaaDoor.ord Go.Proofs.YtefneihlgclkbaaDoor.each Go.Proofs.YtefneihlgclkbaaDoor.chain Go.Proofs.YtefneihlgclkbaaDoor.flow

theorem infoI : (Tryd.prog.info? 3).map (fun i => (i.zero, i.size, i.bytes)) = some (some (.int .i64 0), 1, 8) := by kernel_rfl
/-- what is told: there is one -/
def stS (_ : Bool) (_ : List Nat) : Bool × Bool := (true, false)
/-- the cell in which the order is kept -/
def KeptS (c : Nat) (s : Bool) (W : World) : Prop := ∃ v, W.heap[c]? = some (.cells #[v] 32 (0, 0)) ∧ (s = false → v = .slice none 0 0) ∧ (s = true → ∃ a l cp, v = .slice (some a) l cp)
set_option maxHeartbeats 800000 in
theorem tell_any (c : Nat) (s : Bool) (o : List Nat) (v : Value) (W : World) (hk : KeptS c s W) (hr : Reads W v (ints o)) (h1 : 1 ≤ o.length) (h8 : o.length ≤ 100) :
    Calls Tryd.prog 58 #[v, .pointer (some ⟨c, 0, none⟩)] W fun e W' => e = .returned (.bool false) ∧ ∃ a l cp W1, W' = W1.setCell ⟨c, 0, none⟩ (.slice (some a) l cp) ∧ Below W.heap.size W W1 := by
  obtain ⟨v0, hkb, -, -⟩ := hk
  have hcl : c < W.heap.size := (Array.getElem?_eq_some_iff.1 hkb).1
  have AL : Hid (Below W.heap.size W (W.alloc (.cells #[] 3))) := (Below.refl _ _).alloc (Nat.le_refl _) _
  have RD := Lib.hid (hr.below AL.out (Nat.le_refl _))
  have OW : Hid (OwnI 3 (W.alloc (.cells #[] 3)) W.heap.size (.slice (some ⟨W.heap.size, 0, none⟩) 0 0) []) := World.ownsRow_made W #[] 0 (Nat.le_refl _) (Nat.zero_le _) rfl
  have HK := Lib.hid hkb
  have HL : Hid ((ints o).length = o.length) := ints_len o
  clear hr hkb
  go_enter Tryd.func58, Tryd.ntmps58
  go_wp2_with (at_builtin; refine wpList_appAll (W.alloc (.cells #[] 3)) rfl (.tmp 4) (.tmp 5) 32 rfl W.heap.size 3 Tryd.underlying32 infoI _ [] (ints o) rfl OW.out _ rfl RD.out (by have := HL.out; simp only [List.length_nil]; omega) AL.out.size ?_)
  intro v2 W1 ho hg hge
  try rw [List.nil_append] at ho
  have hb : Below W.heap.size W W1 := AL.out.trans (below_of_grown hg AL.out.size (fun q hq => (World.ownsRow.lt OW.out q hq).1))
  obtain ⟨g, cp, hv⟩ : ∃ g cp, v2 = .slice (some ⟨g, 0, none⟩) o.length cp := by
    rcases ho.shape with ⟨_, h0⟩ | ⟨g, cap, hv⟩
    · have := HL.out; rw [h0] at this; simp at this; omega
    · exact ⟨g, cap, by rw [hv, HL.out]⟩
  subst hv
  have hc : W1.cell? ⟨c, 0, none⟩ = some v0 := by
    have := HK.out
    rw [hb.cell (p := ⟨c, 0, none⟩) hcl]; simp [World.cell?, this]
  have hf : W1.frozen? ⟨c, 0, none⟩ = false := by
    rw [World.frozen?_of_block (w := W) (hb.block c hcl)]; exact frozen_of_row W c 0 _ _ HK.out
  have HB := Lib.hid hb
  clear ho hg hge hb
  go_wp2
  go_ret
  exact ⟨rfl, _, _, _, W1, rfl, HB.out⟩
/-- some order fits -/
def shapeB (n : Nat) (sa ra sb rb : ByteArray) : Bool := !(ords n (okB n sa ra sb rb) n []).isEmpty
theorem shape_iff {n : Nat} {sa ra sb rb : ByteArray} : shapeB n sa ra sb rb = true ↔ ∃ o, Iso n sa ra sb rb o := by
  unfold shapeB
  rw [Bool.not_eq_true', List.isEmpty_eq_false_iff_exists_mem]
  exact ⟨fun ⟨o, h⟩ => ⟨o, mem_iso.1 h⟩, fun ⟨o, h⟩ => ⟨o, mem_iso.2 h⟩⟩
theorem run_stS : ∀ (L : List (List Nat)), (run stS L false).1 = !L.isEmpty
  | [] => rfl
  | o :: L => by simp [run, stS]
set_option maxHeartbeats 1600000 in
theorem job (n : Nat) (sa ra sb rb : ByteArray) (c : Nat) (w : World) (h1 : 1 ≤ n) (h8 : n ≤ 8) (hs : sa.size = n ∧ ra.size = n * n ∧ sb.size = n ∧ rb.size = n * n) (hc : c < w.heap.size) :
    Job stS (KeptS c) (KeptS c) n sa ra sb rb 58 #[.pointer (some ⟨c, 0, none⟩)] c w.heap.size w where
  n8 := h8
  ha := hs
  hB := by omega
  h0 := rfl
  eT := enters_of Tryd.func58 (by kernel_rfl) rfl
  hI := fun s W W' h hb => by
    obtain ⟨v, h1, h2⟩ := h
    exact ⟨v, by rw [hb.block c hc]; exact h1, h2⟩
  hT := fun s o v W hk hb hr ho => by
    have hol : o.length = n := by rw [ords_len ho]; simp
    refine (tell_any c s o v W hk hr (by omega) (by omega)).mono ?_
    rintro e W' ⟨rfl, a, l, cp, W1, rfl, hb1⟩
    obtain ⟨v0, hkb, -, -⟩ := hk
    have hcl : c < W.heap.size := (Array.getElem?_eq_some_iff.1 hkb).1
    have hk1 : W1.heap[c]? = some (.cells #[v0] 32 (0, 0)) := by rw [hb1.block c hcl]; exact hkb
    have hs : Below W.heap.size W W1 := hb1
    refine ⟨some c, ⟨hs.os, hs.tape, hs.output, by have := hs.size; simpa using this, fun k hk hne => ?_⟩, fun k hk => by cases hk; omega, rfl, (fun h => by cases h), fun _ => ⟨.slice (some a) l cp, ?_, (fun h => by cases h), fun _ => ⟨_, _, _, rfl⟩⟩⟩
    · rw [heap_setCell_other _ _ _ _ (fun e => hne (by rw [e]))]; exact hs.block k hk
    · rw [heap_setCell_same _ _ _ _ _ _ hk1]; rfl
theorem found_any (n : Nat) (sa ra sb rb : ByteArray) (c : Nat) (w : World) (h1 : 1 ≤ n) (h8 : n ≤ 8) (hs : sa.size = n ∧ ra.size = n * n ∧ sb.size = n ∧ rb.size = n * n) (hk : KeptS c false w) :
    Calls Tryd.prog 57 #[.agg #[.int .i64 n, .string sa, .string ra], .agg #[.int .i64 n, .string sb, .string rb], .func (.func 58) #[] #[.pointer (some ⟨c, 0, none⟩)]] w fun e w' => ∃ v, e = .returned v ∧ KeptS c (shapeB n sa ra sb rb) w' ∧ Below c w w' := by
  have hc : c < w.heap.size := by obtain ⟨v, h, _⟩ := hk; exact (Array.getElem?_eq_some_iff.1 h).1
  refine (eachShape_any w (job n sa ra sb rb c w h1 h8 hs hc) false hk).mono ?_
  rintro e w' ⟨v, s', b, rfl, hr, hi, hf, hb⟩
  have hs : s' = shapeB n sa ra sb rb := by
    have := run_stS (ords n (okB n sa ra sb rb) n [])
    rw [hr] at this; exact this
  refine ⟨v, rfl, ?_, hb⟩
  rw [← hs]
  cases b with
  | true => exact hi rfl
  | false => exact hf rfl
/-- what SameShape reports -/
def shpR (n : Int) (sa ra : ByteArray) (m : Int) (sb rb : ByteArray) : Bool := validB n sa ra && (validB m sb rb && (decide (n = m) && shapeB n.toNat sa ra sb rb))
theorem shpR_iff {n : Int} {sa ra : ByteArray} {m : Int} {sb rb : ByteArray} : shpR n sa ra m sb rb = true ↔ validB n sa ra = true ∧ validB m sb rb = true ∧ n = m ∧ ∃ o, Iso n.toNat sa ra sb rb o := by
  unfold shpR
  rw [Bool.and_eq_true, Bool.and_eq_true, Bool.and_eq_true, decide_eq_true_iff, shape_iff]
theorem valid_size' {n : Int} {s r : ByteArray} (h : validB n s r = true) : ∃ N : Nat, n = N ∧ 1 ≤ N ∧ N ≤ 8 ∧ s.size = N ∧ r.size = N * N := by
  obtain ⟨⟨h2, h3⟩, hs, hr, _⟩ := validB_iff.1 h
  refine ⟨n.toNat, by omega, by omega, by omega, by omega, ?_⟩
  have e : (n.toNat : Int) = n := by omega
  have : ((n.toNat * n.toNat : Nat) : Int) = n * n := by rw [Int.natCast_mul, e]
  omega

set_option maxHeartbeats 1600000 in
set_option maxRecDepth 100000 in
theorem implSameShape_any (n : Int) (sa ra : ByteArray) (m : Int) (sb rb : ByteArray) (w : World) (hsa : sa.size ≤ 9223372036854775807) (hra : ra.size ≤ 9223372036854775807) (hsb : sb.size ≤ 9223372036854775807) (hrb : rb.size ≤ 9223372036854775807) :
    Calls Tryd.prog 16 #[.agg #[.int .i64 n, .string sa, .string ra], .agg #[.int .i64 m, .string sb, .string rb]] w fun e w' => ∃ v, e = .returned (.tuple #[v, .bool (shpR n sa ra m sb rb)]) ∧ Below w.heap.size w w' := by
  obtain ⟨W0, hW0⟩ : ∃ W0, W0 = (w.alloc (.cells #[.int .i64 n, .string sa, .string ra] 24)).alloc (.cells #[.int .i64 m, .string sb, .string rb] 24) := ⟨_, rfl⟩
  have BA : Hid (Box 24 W0 w.heap.size n sa ra) := by rw [hW0]; exact (Box.new 24 w w.heap.size rfl n sa ra).below ((Below.refl (w.heap.size + 1) _).alloc (by simp) _) (by omega)
  have BB : Hid (Box 24 W0 (w.heap.size + 1) m sb rb) := by rw [hW0]; exact Box.new 24 _ (w.heap.size + 1) (by simp) m sb rb
  have AW : Hid (Below w.heap.size w W0) := by rw [hW0]; exact ((Below.refl _ _).alloc (Nat.le_refl _) _).alloc (by simp) _
  have HZ := Lib.hid (show _ ∧ _ ∧ _ ∧ _ from ⟨hsa, hra, hsb, hrb⟩)
  have HW0 := Lib.hid hW0
  clear hsa hra hsb hrb hW0
  go_enter Tryd.func16, Tryd.ntmps16
  go_wp2_with fail
  rw [← HW0.out]
  clear HW0
  refine (isStructure_any n sa ra _ HZ.out.1 HZ.out.2.1).mono ?_
  rintro e w1 ⟨rfl, hw⟩
  have HQ := Lib.hid (show _ ∧ _ ∧ _ from ⟨BA.out.below hw BA.out.lt, BB.out.below hw BB.out.lt, AW.out.trans (hw.mono AW.out.size)⟩)
  clear hw BA BB AW
  obtain ⟨a0, a1, a2⟩ := HQ.out.1.c
  obtain ⟨b0, b1, b2⟩ := HQ.out.2.1.c
  cases hv : validB n sa ra with
  | false =>
    have HE : Hid (shpR n sa ra m sb rb = false) := by rw [Hid, shpR, hv]; rfl
    clear hv
    go_wp2
    go_ret2
    exact ⟨_, by rw [HE.out]; rfl, HQ.out.2.2⟩
  | true =>
    go_wp2_with fail
    refine (isStructure_any m sb rb _ HZ.out.2.2.1 HZ.out.2.2.2).mono ?_
    rintro e w2 ⟨rfl, hw⟩
    have HQ2 := Lib.hid (show _ ∧ _ ∧ _ from ⟨HQ.out.1.below hw HQ.out.1.lt, HQ.out.2.1.below hw HQ.out.2.1.lt, HQ.out.2.2.trans (hw.mono HQ.out.2.2.size)⟩)
    clear hw HQ a0 a1 a2 b0 b1 b2
    obtain ⟨a0, a1, a2⟩ := HQ2.out.1.c
    obtain ⟨b0, b1, b2⟩ := HQ2.out.2.1.c
    cases hv2 : validB m sb rb with
    | false =>
      have HE : Hid (shpR n sa ra m sb rb = false) := by rw [Hid, shpR, hv, hv2]; rfl
      clear hv hv2
      go_wp2
      go_ret2
      exact ⟨_, by rw [HE.out]; rfl, HQ2.out.2.2⟩
    | true =>
      by_cases hnm : n = m
      rotate_left
      · have HE : Hid (shpR n sa ra m sb rb = false) := by rw [Hid, shpR, hv, hv2, decide_eq_false hnm]; rfl
        have t1 : (n != m) = true := by simpa using hnm
        clear hv hv2 hnm
        go_wp2
        go_ret2
        exact ⟨_, by rw [HE.out]; rfl, HQ2.out.2.2⟩
      subst hnm
      obtain ⟨N, rfl, hN1, hN8, hsN, hrN⟩ := valid_size' hv
      obtain ⟨M, hM, -, -, hsM, hrM⟩ := valid_size' hv2
      obtain rfl : M = N := by omega
      have HE0 : Hid (shpR M sa ra M sb rb = shapeB M sa ra sb rb) := by rw [Hid, shpR, hv, hv2, decide_eq_true rfl]; rfl
      have HS := Lib.hid (show _ ∧ _ ∧ _ ∧ _ from ⟨hsN, hrN, hsM, hrM⟩)
      obtain ⟨HF, hHF⟩ : ∃ QZ, QZ = w2.heap.size := ⟨_, rfl⟩
      obtain ⟨w3, hw3⟩ : ∃ QZ, QZ = w2.alloc (.cells #[.slice none 0 0] 32) := ⟨_, rfl⟩
      have AB : Below w2.heap.size w2 w3 := by rw [hw3]; exact (Below.refl _ _).alloc (Nat.le_refl _) _
      have HQ3 := Lib.hid (show _ ∧ _ ∧ _ from ⟨HQ2.out.1.below AB HQ2.out.1.lt, HQ2.out.2.1.below AB HQ2.out.2.1.lt, HQ2.out.2.2.trans (AB.mono HQ2.out.2.2.size)⟩)
      have KS : Hid (KeptS HF false w3) := ⟨_, by rw [hw3, hHF]; exact heap_alloc_new w2 _, fun _ => rfl, fun h => by cases h⟩
      have hlF : w.heap.size + 1 < HF := by rw [hHF]; exact HQ2.out.2.1.lt
      clear hv hv2 hM hsN hrN hsM hrM AB HQ2
      go_upto_region 4 with (fail)
      rw [← hw3, ← hHF]
      clear hw3 hHF a0 a1 a2 b0 b1 b2
      obtain ⟨a0, a1, a2⟩ := HQ3.out.1.c
      obtain ⟨b0, b1, b2⟩ := HQ3.out.2.1.c
      go_wp2_with fail
      refine (found_any M sa ra sb rb HF _ hN1 hN8 HS.out KS.out).mono ?_
      rintro e w4 ⟨ve, rfl, hk, hb⟩
      have A4 : Hid (Below w.heap.size w w4) := HQ3.out.2.2.trans (hb.mono (by omega))
      obtain ⟨v, hv, hv0, hv1⟩ := hk
      clear hb a0 a1 a2 b0 b1 b2 HQ3 KS
      cases hsh : shapeB M sa ra sb rb with
      | false =>
        rw [hv0 hsh] at hv
        have HE : Hid (shpR M sa ra M sb rb = false) := by rw [Hid, HE0.out]; exact hsh
        have HV := Lib.hid hv
        clear hv hv0 hv1 hsh HE0
        obtain ⟨vv, hvv⟩ : ∃ QZ : Value, QZ = .slice none 0 0 := ⟨_, rfl⟩
        have kc : w4.cell? ⟨HF, 0, none⟩ = some (.slice none 0 0) := by have := HV.out; simp [World.cell?, this]
        have q0 : ∀ QQ : Wd (fun Q => Q.cell? ⟨HF, 0, none⟩ = some (.slice none 0 0)), QQ.w.cell? ⟨HF, 0, none⟩ = some (.slice none 0 0) := fun QQ => QQ.ok
        have hne : Nonempty (Wd (fun Q => Q.cell? ⟨HF, 0, none⟩ = some (.slice none 0 0))) := ⟨⟨w4, kc⟩⟩
        have RR : Hid (Below w.heap.size w w4.drew) := A4.out.drew
        have cmp : ∀ W : World, (binOp .neq 32 (.slice none 0 0) (.slice none 0 0)).run Tryd.prog W = .ok (.bool false) W := fun W => by rw [run_neq_slice_nil_any W 32 3 _ _ _ _ _ Tryd.underlying32]; rfl
        clear hvv
        go_wp2_with fail
        refine chain (S := (fun Q => Q.cell? ⟨HF, 0, none⟩ = some (.slice none 0 0))) [] [true, true, true, true, true] (by kernel_rfl) (by kernel_rfl) (by kernel_rfl) kc ?_
        simp only [wpSegs, pickB, List.dropLast_cons_cons, List.dropLast_singleton, List.getLast?_cons_cons, List.getLast?_singleton, List.toList_toArray, List.getElem?_toArray, List.getElem?_cons_succ, List.getElem?_cons_zero, Option.toList_some]
        repeat (go_big_quiet_step (fail))
        refine wpQuiet_nil ?_
        clear q0 hne kc
        go_wp2
        go_ret2
        exact ⟨_, by rw [HE.out]; rfl, RR.out⟩
      | true =>
        obtain ⟨ad, ln, cp, hvx⟩ := hv1 hsh
        rw [hvx] at hv
        have HE : Hid (shpR M sa ra M sb rb = true) := by rw [Hid, HE0.out]; exact hsh
        have HV := Lib.hid hv
        clear hv hv0 hv1 hsh HE0 hvx
        obtain ⟨vv, hvv⟩ : ∃ QZ : Value, QZ = .slice (some ad) ln cp := ⟨_, rfl⟩
        have kc : w4.cell? ⟨HF, 0, none⟩ = some (.slice (some ad) ln cp) := by have := HV.out; simp [World.cell?, this]
        have q0 : ∀ QQ : Wd (fun Q => Q.cell? ⟨HF, 0, none⟩ = some (.slice (some ad) ln cp)), QQ.w.cell? ⟨HF, 0, none⟩ = some (.slice (some ad) ln cp) := fun QQ => QQ.ok
        have hne : Nonempty (Wd (fun Q => Q.cell? ⟨HF, 0, none⟩ = some (.slice (some ad) ln cp))) := ⟨⟨w4, kc⟩⟩
        have RR : Hid (Below w.heap.size w w4.drew) := A4.out.drew
        have cmp : ∀ W : World, (binOp .neq 32 (.slice (some ad) ln cp) (.slice none 0 0)).run Tryd.prog W = .ok (.bool true) W := fun W => by rw [run_neq_slice_nil_any W 32 3 _ _ _ _ _ Tryd.underlying32]; rfl
        clear hvv
        go_wp2_with fail
        refine chain (S := (fun Q => Q.cell? ⟨HF, 0, none⟩ = some (.slice (some ad) ln cp))) [] [true, true, true, true, true] (by kernel_rfl) (by kernel_rfl) (by kernel_rfl) kc ?_
        simp only [wpSegs, pickB, List.dropLast_cons_cons, List.dropLast_singleton, List.getLast?_cons_cons, List.getLast?_singleton, List.toList_toArray, List.getElem?_toArray, List.getElem?_cons_succ, List.getElem?_cons_zero, Option.toList_some]
        repeat (go_big_quiet_step (fail))
        refine wpQuiet_nil ?_
        clear q0 hne kc
        go_wp2
        go_ret2
        exact ⟨_, by rw [HE.out]; rfl, RR.out⟩
end Go.Proofs.YtefneihlgclkbaaDoor.shape
