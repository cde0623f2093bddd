/- Several texts in one: ChainN, InRel, Shape, ColQ, ColI, HanfB, Bsh, BshC. -/
import Derived.Test.YtpcnoiigbmiejaaGreatDoorChain
import Derived.Test.YtpcnoiigbmiejaaGreatDoorNear
import Derived.Test.YtpcnoiigbmiejaaGreatDoorEach2
import Derived.Test.YtpcnoiigbmiejaaGreatDoorPkO
import Derived.WalkSpells
import Derived.Test.YtpcnoiigbmiejaaGreatDoorPkB
import Derived.Test.YtpcnoiigbmiejaaGreatDoorPkC
import Derived.Test.YtpcnoiigbmiejaaGreatDoorPkR
import Derived.Test.YtpcnoiigbmiejaaGreatDoorPkU
import Derived.Test.YtpcnoiigbmiejaaGreatDoorPkI
import Derived.Test.YtpcnoiigbmiejaaGreatDoorPlaw
/- Drawn regions with calls where the class of worlds may grow narrower behind a call: what the call returned may be read. -/
namespace Go.Proofs.YtpcnoiigbmiejaaGreatDoor.chainn
set_option linter.unusedVariables false
set_option linter.unusedSimpArgs false
open Go.Proofs.YtpcnoiigbmiejaaGreatDoor.chain
variable {P : Program}
/-- as wpSegs, but behind a heavy one a narrower class may be chosen -/
def wpSegsN (P : Program) (ops : Array Oper) (Q : Exit → Act → World → Prop) : List (List Bool × Nat) → List Bool → (World → Prop) → Act → World → Prop
  | [], m, S, a, w => wpQuiet P ops (Cls S) (fun a' => Q .normal a' w) (pickB m ops.toList) a
  | (m, h) :: segs, m', S, a, w => wpQuiet P ops (Cls S) (fun a' => ∀ K : Act → World → Prop, (∀ (S2 : World → Prop) a2 w2, (∀ W, S2 W → S W) → S2 w2 → wpSegsN P ops Q segs m' S2 a2 w2 → K a2 w2) → wpList P ops (upF K) (ops[h]?).toList a' w) (pickB m ops.toList) a
variable {ops : Array Oper} {md : Region.Mode} {Q : Exit → Act → World → Prop} {a : Act} {w : World}
theorem held_sub {S S2 : World → Prop} (h : ∀ W, S2 W → S W) : ∀ (fuel : Nat) (l : Array Bool) (a : Act) (w : World), wpAnyH P md ops Q S2 fuel l a w → wpAnyH P md ops Q S fuel l a w
  | 0, _, _, _, hk => hk
  | fuel + 1, _, _, _, hk => ⟨hk.1, fun i hi => wpOp_mono (fun a' w' h' => ⟨h _ h'.1, held_sub h fuel _ a' w' h'.2⟩) (hk.2 i hi)⟩
theorem segs_mono : ∀ (segs : List (List Bool × Nat)) (m : List Bool) (S : World → Prop) (a : Act) (w : World), wpSegsN P ops Q segs m S a w → wpSegsN P ops (NoPanic Q) segs m S a w
  | [], m, S, a, w, h => quiet_mono (fun a' hq => hq) _ _ h
  | (m, hv) :: segs, m', S, a, w, h => by
    unfold wpSegsN at h ⊢
    exact quiet_mono (fun a' hk K hK => hk K (fun S2 a2 w2 hs hS hw => hK S2 a2 w2 hs hS (segs_mono segs m' S2 a2 w2 hw))) _ _ h
theorem held_chain (hs : Region.noSelect ops = true) (hQ : ∀ c d v a w, Q (.panic c) (Act.put a d v) w → Q (.panic c) a w) : ∀ (segs : List (List Bool × Nat)) (m : List Bool) (S : World → Prop) (listed : Array Bool) (a : Act) (w : World) (fuel : Nat),
    chainB md ops segs m listed = true → S w → wpSegsN P ops Q segs m S a w → wpAnyH P md ops Q S (fuel + stepsB segs m) listed a w
  | [], m, S, listed, a, w, fuel, hB, hS, h => by
    simp only [chainB, Bool.and_eq_true, decide_eq_true_eq] at hB
    obtain ⟨⟨hm, h1⟩, h2⟩ := hB
    have hr : Region.ready md ops (segB md ops (idxB m 0) listed).2 = [] := by simpa using h2
    refine held_seg hs hQ (idxB m 0) (pickB m ops.toList) listed a w fuel (by simpa using idx_pick m 0 (by omega)) h1 hS ?_
    unfold wpSegsN at h
    have e : ∀ a', Q .normal a' w → wpAnyH P md ops Q S fuel (segB md ops (idxB m 0) listed).2 a' w := fun a' hq => by
      cases fuel with
      | zero => exact ⟨hr, hq⟩
      | succ f => exact ⟨fun _ => hq, fun i hi => by rw [hr] at hi; cases hi⟩
    exact quiet_mono e _ _ h
  | (m, hv) :: segs, m', S, listed, a, w, fuel, hB, hS, h => by
    simp only [chainB, Bool.and_eq_true, decide_eq_true_eq] at hB
    obtain ⟨⟨⟨hm, h1⟩, h2⟩, h3⟩ := hB
    have hr : Region.ready md ops (segB md ops (idxB m 0) listed).2 = [hv] := by simpa using h2
    have hlt : ∃ o, ops[hv]? = some o := by
      have : hv ∈ Region.ready md ops (segB md ops (idxB m 0) listed).2 := by rw [hr]; exact List.mem_singleton_self _
      obtain ⟨_, o, ho, _⟩ := mem_ready.1 this
      exact ⟨o, ho⟩
    obtain ⟨o, ho⟩ := hlt
    have e2 : fuel + stepsB ((m, hv) :: segs) m' = (fuel + stepsB segs m' + 1) + (idxB m 0).length := by simp only [stepsB]; omega
    rw [e2]
    refine held_seg hs hQ (idxB m 0) (pickB m ops.toList) listed a w _ (by simpa using idx_pick m 0 (by omega)) h1 hS ?_
    unfold wpSegsN at h
    refine quiet_mono (fun a' hk => ?_) _ _ h
    refine wpAnyH_all hr (by simp) fun i hi => ?_
    rw [List.mem_singleton.1 hi]
    exact wpOp_of_list ho (hk _ (fun S2 a2 w2 hsub hS2 hw2 => ⟨hsub _ hS2, held_sub hsub _ _ _ _ (held_chain hs hQ segs m' S2 _ a2 w2 fuel h3 hS2 hw2)⟩))

theorem chainN {S : World → Prop} {id : Nat} {L : List Oper} (segs : List (List Bool × Nat)) (m : List Bool) (hm : P.follows .mixedOrders = true) (hn : Region.noSelect L.toArray = true)
    (hB : (chainB .any L.toArray segs m (Array.replicate L.length false) && decide (stepsB segs m ≤ L.length)) = true) (hS : S w.drew) (h : wpSegsN P L.toArray Q segs m S a w.drew) : (Code.region id L.toArray true).wp P Q a w := by
  simp only [Bool.and_eq_true, decide_eq_true_eq] at hB
  refine wp_region_noPanic ?_
  refine wp_region_held (S := S) hm ?_
  have hk := held_chain (Q := NoPanic Q) (md := .any) hn (fun c d v a w h => h) segs m S (Array.replicate L.length false) a w.drew (L.length - stepsB segs m) hB.1 hS (segs_mono segs m S a w.drew h)
  rw [show L.length - stepsB segs m + stepsB segs m = L.length from by omega] at hk
  simpa using hk
end Go.Proofs.YtpcnoiigbmiejaaGreatDoor.chainn

/- InRel of the program at a valid structure's elements. -/
namespace Go.Proofs.YtpcnoiigbmiejaaGreatDoor.inrel
set_option linter.unusedVariables false
set_option linter.unusedSimpArgs false
open Go.ChangeShapes Go.WideShapes Go.ChangeAt Go.RowKit
open Go.Proofs.YtpcnoiigbmiejaaGreatDoor.lib Go.Proofs.YtpcnoiigbmiejaaGreatDoor.st Go.Proofs.YtpcnoiigbmiejaaGreatDoor.base Go.Proofs.YtpcnoiigbmiejaaGreatDoor.near
theorem implValid_any (n : Int) (s r : ByteArray) (w : World) (hs : s.size ≤ 9223372036854775807) (hr : r.size ≤ 9223372036854775807) :
    Calls Tryz.prog 10 #[.agg #[.int .i64 n, .string s, .string r]] w fun e w' => e = .returned (.bool (validB n s r)) ∧ Below w.heap.size w w' := by
  have AW : Hid (Below w.heap.size w (w.alloc (.cells #[.int .i64 n, .string s, .string r] 24))) := (Below.refl _ _).alloc (Nat.le_refl _) _
  go_enter Tryz.func10, Tryz.ntmps10
  go_wp2_with fail
  refine (isStructure_any n s r _ hs hr).mono ?_
  rintro e w1 ⟨rfl, hw⟩
  have AW1 : Hid (Below w.heap.size w w1) := AW.out.trans (hw.mono (by simp))
  clear hw
  go_wp2
  go_ret
  exact ⟨rfl, AW1.out⟩
end Go.Proofs.YtpcnoiigbmiejaaGreatDoor.inrel

/- SameShape of the program: whether there is an order that fits. -/
namespace Go.Proofs.YtpcnoiigbmiejaaGreatDoor.shape
set_option linter.unusedVariables false
set_option linter.unusedSimpArgs false
open Go.ChangeShapes Go.WideShapes Go.ChangeAt Go.RowKit
open Go.Proofs.YtpcnoiigbmiejaaGreatDoor.lib Go.Proofs.YtpcnoiigbmiejaaGreatDoor.st Go.Proofs.YtpcnoiigbmiejaaGreatDoor.base Go.Proofs.YtpcnoiigbmiejaaGreatDoor.make Go.Proofs.YtpcnoiigbmiejaaGreatDoor.fits Go.Proofs.YtpcnoiigbmiejaaGreatDoor.ord Go.Proofs.YtpcnoiigbmiejaaGreatDoor.each Go.Proofs.YtpcnoiigbmiejaaGreatDoor.chain Go.Proofs.YtpcnoiigbmiejaaGreatDoor.flow

theorem infoI : (Tryz.prog.info? 3).map (fun i => (i.zero, i.size, i.bytes)) = some (some (.int .i64 0), 1, 8) := by kernel_rfl
/-- what is told: there is one -/
def stS (_ : Bool) (_ : List Nat) : Bool × Bool := (true, false)
/-- the cell in which the order is kept -/
def KeptS (c : Nat) (s : Bool) (W : World) : Prop := ∃ v, W.heap[c]? = some (.cells #[v] 29 (0, 0)) ∧ (s = false → v = .slice none 0 0) ∧ (s = true → ∃ a l cp, v = .slice (some a) l cp)
set_option maxHeartbeats 800000 in
theorem tell_any (c : Nat) (s : Bool) (o : List Nat) (v : Value) (W : World) (hk : KeptS c s W) (hr : Reads W v (ints o)) (h1 : 1 ≤ o.length) (h8 : o.length ≤ 100) :
    Calls Tryz.prog 41 #[v, .pointer (some ⟨c, 0, none⟩)] W fun e W' => e = .returned (.bool false) ∧ ∃ a l cp W1, W' = W1.setCell ⟨c, 0, none⟩ (.slice (some a) l cp) ∧ Below W.heap.size W W1 := by
  obtain ⟨v0, hkb, -, -⟩ := hk
  have hcl : c < W.heap.size := (Array.getElem?_eq_some_iff.1 hkb).1
  have AL : Hid (Below W.heap.size W (W.alloc (.cells #[] 3))) := (Below.refl _ _).alloc (Nat.le_refl _) _
  have RD := Lib.hid (hr.below AL.out (Nat.le_refl _))
  have OW : Hid (OwnI 3 (W.alloc (.cells #[] 3)) W.heap.size (.slice (some ⟨W.heap.size, 0, none⟩) 0 0) []) := World.ownsRow_made W #[] 0 (Nat.le_refl _) (Nat.zero_le _) rfl
  have HK := Lib.hid hkb
  have HL : Hid ((ints o).length = o.length) := ints_len o
  clear hr hkb
  go_enter Tryz.func41, Tryz.ntmps41
  go_wp2_with (at_builtin; refine wpList_appAll (W.alloc (.cells #[] 3)) rfl (.tmp 4) (.tmp 5) 29 rfl W.heap.size 3 Tryz.underlying29 infoI _ [] (ints o) rfl OW.out _ rfl RD.out (by have := HL.out; simp only [List.length_nil]; omega) AL.out.size ?_)
  intro v2 W1 ho hg hge
  try rw [List.nil_append] at ho
  have hb : Below W.heap.size W W1 := AL.out.trans (below_of_grown hg AL.out.size (fun q hq => (World.ownsRow.lt OW.out q hq).1))
  obtain ⟨g, cp, hv⟩ : ∃ g cp, v2 = .slice (some ⟨g, 0, none⟩) o.length cp := by
    rcases ho.shape with ⟨_, h0⟩ | ⟨g, cap, hv⟩
    · have := HL.out; rw [h0] at this; simp at this; omega
    · exact ⟨g, cap, by rw [hv, HL.out]⟩
  subst hv
  have hc : W1.cell? ⟨c, 0, none⟩ = some v0 := by
    have := HK.out
    rw [hb.cell (p := ⟨c, 0, none⟩) hcl]; simp [World.cell?, this]
  have hf : W1.frozen? ⟨c, 0, none⟩ = false := by
    rw [World.frozen?_of_block (w := W) (hb.block c hcl)]; exact frozen_of_row W c 0 _ _ HK.out
  have HB := Lib.hid hb
  clear ho hg hge hb
  go_wp2
  go_ret
  exact ⟨rfl, _, _, _, W1, rfl, HB.out⟩
/-- some order fits -/
def shapeB (n : Nat) (sa ra sb rb : ByteArray) : Bool := !(ords n (okB n sa ra sb rb) n []).isEmpty
theorem shape_iff {n : Nat} {sa ra sb rb : ByteArray} : shapeB n sa ra sb rb = true ↔ ∃ o, Iso n sa ra sb rb o := by
  unfold shapeB
  rw [Bool.not_eq_true', List.isEmpty_eq_false_iff_exists_mem]
  exact ⟨fun ⟨o, h⟩ => ⟨o, mem_iso.1 h⟩, fun ⟨o, h⟩ => ⟨o, mem_iso.2 h⟩⟩
theorem run_stS : ∀ (L : List (List Nat)), (run stS L false).1 = !L.isEmpty
  | [] => rfl
  | o :: L => by simp [run, stS]
set_option maxHeartbeats 1600000 in
theorem job (n : Nat) (sa ra sb rb : ByteArray) (c : Nat) (w : World) (h1 : 1 ≤ n) (h8 : n ≤ 8) (hs : sa.size = n ∧ ra.size = n * n ∧ sb.size = n ∧ rb.size = n * n) (hc : c < w.heap.size) :
    Job stS (KeptS c) (KeptS c) n sa ra sb rb 41 #[.pointer (some ⟨c, 0, none⟩)] c w.heap.size w where
  n8 := h8
  ha := hs
  hB := by omega
  h0 := rfl
  eT := enters_of Tryz.func41 (by kernel_rfl) rfl
  hI := fun s W W' h hb => by
    obtain ⟨v, h1, h2⟩ := h
    exact ⟨v, by rw [hb.block c hc]; exact h1, h2⟩
  hT := fun s o v W hk hb hr ho => by
    have hol : o.length = n := by rw [ords_len ho]; simp
    refine (tell_any c s o v W hk hr (by omega) (by omega)).mono ?_
    rintro e W' ⟨rfl, a, l, cp, W1, rfl, hb1⟩
    obtain ⟨v0, hkb, -, -⟩ := hk
    have hcl : c < W.heap.size := (Array.getElem?_eq_some_iff.1 hkb).1
    have hk1 : W1.heap[c]? = some (.cells #[v0] 29 (0, 0)) := by rw [hb1.block c hcl]; exact hkb
    have hs : Below W.heap.size W W1 := hb1
    refine ⟨some c, ⟨hs.os, hs.tape, hs.output, by have := hs.size; simpa using this, fun k hk hne => ?_⟩, fun k hk => by cases hk; omega, rfl, (fun h => by cases h), fun _ => ⟨.slice (some a) l cp, ?_, (fun h => by cases h), fun _ => ⟨_, _, _, rfl⟩⟩⟩
    · rw [heap_setCell_other _ _ _ _ (fun e => hne (by rw [e]))]; exact hs.block k hk
    · rw [heap_setCell_same _ _ _ _ _ _ hk1]; rfl
theorem found_any (n : Nat) (sa ra sb rb : ByteArray) (c : Nat) (w : World) (h1 : 1 ≤ n) (h8 : n ≤ 8) (hs : sa.size = n ∧ ra.size = n * n ∧ sb.size = n ∧ rb.size = n * n) (hk : KeptS c false w) :
    Calls Tryz.prog 40 #[.agg #[.int .i64 n, .string sa, .string ra], .agg #[.int .i64 n, .string sb, .string rb], .func (.func 41) #[] #[.pointer (some ⟨c, 0, none⟩)]] w fun e w' => ∃ v, e = .returned v ∧ KeptS c (shapeB n sa ra sb rb) w' ∧ Below c w w' := by
  have hc : c < w.heap.size := by obtain ⟨v, h, _⟩ := hk; exact (Array.getElem?_eq_some_iff.1 h).1
  refine (eachShape_any w (job n sa ra sb rb c w h1 h8 hs hc) false hk).mono ?_
  rintro e w' ⟨v, s', b, rfl, hr, hi, hf, hb⟩
  have hs : s' = shapeB n sa ra sb rb := by
    have := run_stS (ords n (okB n sa ra sb rb) n [])
    rw [hr] at this; exact this
  refine ⟨v, rfl, ?_, hb⟩
  rw [← hs]
  cases b with
  | true => exact hi rfl
  | false => exact hf rfl
/-- what SameShape reports -/
def shpR (n : Int) (sa ra : ByteArray) (m : Int) (sb rb : ByteArray) : Bool := validB n sa ra && (validB m sb rb && (decide (n = m) && shapeB n.toNat sa ra sb rb))
theorem shpR_iff {n : Int} {sa ra : ByteArray} {m : Int} {sb rb : ByteArray} : shpR n sa ra m sb rb = true ↔ validB n sa ra = true ∧ validB m sb rb = true ∧ n = m ∧ ∃ o, Iso n.toNat sa ra sb rb o := by
  unfold shpR
  rw [Bool.and_eq_true, Bool.and_eq_true, Bool.and_eq_true, decide_eq_true_iff, shape_iff]
theorem valid_size' {n : Int} {s r : ByteArray} (h : validB n s r = true) : ∃ N : Nat, n = N ∧ 1 ≤ N ∧ N ≤ 8 ∧ s.size = N ∧ r.size = N * N := by
  obtain ⟨⟨h2, h3⟩, hs, hr, _⟩ := validB_iff.1 h
  refine ⟨n.toNat, by omega, by omega, by omega, by omega, ?_⟩
  have e : (n.toNat : Int) = n := by omega
  have : ((n.toNat * n.toNat : Nat) : Int) = n * n := by rw [Int.natCast_mul, e]
  omega

set_option maxHeartbeats 1600000 in
set_option maxRecDepth 100000 in
theorem implSameShape_any (n : Int) (sa ra : ByteArray) (m : Int) (sb rb : ByteArray) (w : World) (hsa : sa.size ≤ 9223372036854775807) (hra : ra.size ≤ 9223372036854775807) (hsb : sb.size ≤ 9223372036854775807) (hrb : rb.size ≤ 9223372036854775807) :
    Calls Tryz.prog 15 #[.agg #[.int .i64 n, .string sa, .string ra], .agg #[.int .i64 m, .string sb, .string rb]] w fun e w' => ∃ v, e = .returned (.tuple #[v, .bool (shpR n sa ra m sb rb)]) ∧ Below w.heap.size w w' := by
  obtain ⟨W0, hW0⟩ : ∃ W0, W0 = (w.alloc (.cells #[.int .i64 n, .string sa, .string ra] 24)).alloc (.cells #[.int .i64 m, .string sb, .string rb] 24) := ⟨_, rfl⟩
  have BA : Hid (Box 24 W0 w.heap.size n sa ra) := by rw [hW0]; exact (Box.new 24 w w.heap.size rfl n sa ra).below ((Below.refl (w.heap.size + 1) _).alloc (by simp) _) (by omega)
  have BB : Hid (Box 24 W0 (w.heap.size + 1) m sb rb) := by rw [hW0]; exact Box.new 24 _ (w.heap.size + 1) (by simp) m sb rb
  have AW : Hid (Below w.heap.size w W0) := by rw [hW0]; exact ((Below.refl _ _).alloc (Nat.le_refl _) _).alloc (by simp) _
  have HZ := Lib.hid (show _ ∧ _ ∧ _ ∧ _ from ⟨hsa, hra, hsb, hrb⟩)
  have HW0 := Lib.hid hW0
  clear hsa hra hsb hrb hW0
  go_enter Tryz.func15, Tryz.ntmps15
  go_wp2_with fail
  rw [← HW0.out]
  clear HW0
  refine (isStructure_any n sa ra _ HZ.out.1 HZ.out.2.1).mono ?_
  rintro e w1 ⟨rfl, hw⟩
  have HQ := Lib.hid (show _ ∧ _ ∧ _ from ⟨BA.out.below hw BA.out.lt, BB.out.below hw BB.out.lt, AW.out.trans (hw.mono AW.out.size)⟩)
  clear hw BA BB AW
  obtain ⟨a0, a1, a2⟩ := HQ.out.1.c
  obtain ⟨b0, b1, b2⟩ := HQ.out.2.1.c
  cases hv : validB n sa ra with
  | false =>
    have HE : Hid (shpR n sa ra m sb rb = false) := by rw [Hid, shpR, hv]; rfl
    clear hv
    go_wp2
    go_ret2
    exact ⟨_, by rw [HE.out]; rfl, HQ.out.2.2⟩
  | true =>
    go_wp2_with fail
    refine (isStructure_any m sb rb _ HZ.out.2.2.1 HZ.out.2.2.2).mono ?_
    rintro e w2 ⟨rfl, hw⟩
    have HQ2 := Lib.hid (show _ ∧ _ ∧ _ from ⟨HQ.out.1.below hw HQ.out.1.lt, HQ.out.2.1.below hw HQ.out.2.1.lt, HQ.out.2.2.trans (hw.mono HQ.out.2.2.size)⟩)
    clear hw HQ a0 a1 a2 b0 b1 b2
    obtain ⟨a0, a1, a2⟩ := HQ2.out.1.c
    obtain ⟨b0, b1, b2⟩ := HQ2.out.2.1.c
    cases hv2 : validB m sb rb with
    | false =>
      have HE : Hid (shpR n sa ra m sb rb = false) := by rw [Hid, shpR, hv, hv2]; rfl
      clear hv hv2
      go_wp2
      go_ret2
      exact ⟨_, by rw [HE.out]; rfl, HQ2.out.2.2⟩
    | true =>
      by_cases hnm : n = m
      rotate_left
      · have HE : Hid (shpR n sa ra m sb rb = false) := by rw [Hid, shpR, hv, hv2, decide_eq_false hnm]; rfl
        have t1 : (n != m) = true := by simpa using hnm
        clear hv hv2 hnm
        go_wp2
        go_ret2
        exact ⟨_, by rw [HE.out]; rfl, HQ2.out.2.2⟩
      subst hnm
      obtain ⟨N, rfl, hN1, hN8, hsN, hrN⟩ := valid_size' hv
      obtain ⟨M, hM, -, -, hsM, hrM⟩ := valid_size' hv2
      obtain rfl : M = N := by omega
      have HE0 : Hid (shpR M sa ra M sb rb = shapeB M sa ra sb rb) := by rw [Hid, shpR, hv, hv2, decide_eq_true rfl]; rfl
      have HS := Lib.hid (show _ ∧ _ ∧ _ ∧ _ from ⟨hsN, hrN, hsM, hrM⟩)
      obtain ⟨HF, hHF⟩ : ∃ QZ, QZ = w2.heap.size := ⟨_, rfl⟩
      obtain ⟨w3, hw3⟩ : ∃ QZ, QZ = w2.alloc (.cells #[.slice none 0 0] 29) := ⟨_, rfl⟩
      have AB : Below w2.heap.size w2 w3 := by rw [hw3]; exact (Below.refl _ _).alloc (Nat.le_refl _) _
      have HQ3 := Lib.hid (show _ ∧ _ ∧ _ from ⟨HQ2.out.1.below AB HQ2.out.1.lt, HQ2.out.2.1.below AB HQ2.out.2.1.lt, HQ2.out.2.2.trans (AB.mono HQ2.out.2.2.size)⟩)
      have KS : Hid (KeptS HF false w3) := ⟨_, by rw [hw3, hHF]; exact heap_alloc_new w2 _, fun _ => rfl, fun h => by cases h⟩
      have hlF : w.heap.size + 1 < HF := by rw [hHF]; exact HQ2.out.2.1.lt
      clear hv hv2 hM hsN hrN hsM hrM AB HQ2
      go_upto_region 4 with (fail)
      rw [← hw3, ← hHF]
      clear hw3 hHF a0 a1 a2 b0 b1 b2
      obtain ⟨a0, a1, a2⟩ := HQ3.out.1.c
      obtain ⟨b0, b1, b2⟩ := HQ3.out.2.1.c
      go_wp2_with fail
      refine (found_any M sa ra sb rb HF _ hN1 hN8 HS.out KS.out).mono ?_
      rintro e w4 ⟨ve, rfl, hk, hb⟩
      have A4 : Hid (Below w.heap.size w w4) := HQ3.out.2.2.trans (hb.mono (by omega))
      obtain ⟨v, hv, hv0, hv1⟩ := hk
      clear hb a0 a1 a2 b0 b1 b2 HQ3 KS
      cases hsh : shapeB M sa ra sb rb with
      | false =>
        rw [hv0 hsh] at hv
        have HE : Hid (shpR M sa ra M sb rb = false) := by rw [Hid, HE0.out]; exact hsh
        have HV := Lib.hid hv
        clear hv hv0 hv1 hsh HE0
        obtain ⟨vv, hvv⟩ : ∃ QZ : Value, QZ = .slice none 0 0 := ⟨_, rfl⟩
        have kc : w4.cell? ⟨HF, 0, none⟩ = some (.slice none 0 0) := by have := HV.out; simp [World.cell?, this]
        have q0 : ∀ QQ : Wd (fun Q => Q.cell? ⟨HF, 0, none⟩ = some (.slice none 0 0)), QQ.w.cell? ⟨HF, 0, none⟩ = some (.slice none 0 0) := fun QQ => QQ.ok
        have hne : Nonempty (Wd (fun Q => Q.cell? ⟨HF, 0, none⟩ = some (.slice none 0 0))) := ⟨⟨w4, kc⟩⟩
        have RR : Hid (Below w.heap.size w w4.drew) := A4.out.drew
        have cmp : ∀ W : World, (binOp .neq 29 (.slice none 0 0) (.slice none 0 0)).run Tryz.prog W = .ok (.bool false) W := fun W => by rw [run_neq_slice_nil_any W 29 3 _ _ _ _ _ Tryz.underlying29]; rfl
        clear hvv
        go_wp2_with fail
        refine chain (S := (fun Q => Q.cell? ⟨HF, 0, none⟩ = some (.slice none 0 0))) [] [true, true, true, true, true] (by kernel_rfl) (by kernel_rfl) (by kernel_rfl) kc ?_
        simp only [wpSegs, pickB, List.dropLast_cons_cons, List.dropLast_singleton, List.getLast?_cons_cons, List.getLast?_singleton, List.toList_toArray, List.getElem?_toArray, List.getElem?_cons_succ, List.getElem?_cons_zero, Option.toList_some]
        repeat (go_big_quiet_step (fail))
        refine wpQuiet_nil ?_
        clear q0 hne kc
        go_wp2
        go_ret2
        exact ⟨_, by rw [HE.out]; rfl, RR.out⟩
      | true =>
        obtain ⟨ad, ln, cp, hvx⟩ := hv1 hsh
        rw [hvx] at hv
        have HE : Hid (shpR M sa ra M sb rb = true) := by rw [Hid, HE0.out]; exact hsh
        have HV := Lib.hid hv
        clear hv hv0 hv1 hsh HE0 hvx
        obtain ⟨vv, hvv⟩ : ∃ QZ : Value, QZ = .slice (some ad) ln cp := ⟨_, rfl⟩
        have kc : w4.cell? ⟨HF, 0, none⟩ = some (.slice (some ad) ln cp) := by have := HV.out; simp [World.cell?, this]
        have q0 : ∀ QQ : Wd (fun Q => Q.cell? ⟨HF, 0, none⟩ = some (.slice (some ad) ln cp)), QQ.w.cell? ⟨HF, 0, none⟩ = some (.slice (some ad) ln cp) := fun QQ => QQ.ok
        have hne : Nonempty (Wd (fun Q => Q.cell? ⟨HF, 0, none⟩ = some (.slice (some ad) ln cp))) := ⟨⟨w4, kc⟩⟩
        have RR : Hid (Below w.heap.size w w4.drew) := A4.out.drew
        have cmp : ∀ W : World, (binOp .neq 29 (.slice (some ad) ln cp) (.slice none 0 0)).run Tryz.prog W = .ok (.bool true) W := fun W => by rw [run_neq_slice_nil_any W 29 3 _ _ _ _ _ Tryz.underlying29]; rfl
        clear hvv
        go_wp2_with fail
        refine chain (S := (fun Q => Q.cell? ⟨HF, 0, none⟩ = some (.slice (some ad) ln cp))) [] [true, true, true, true, true] (by kernel_rfl) (by kernel_rfl) (by kernel_rfl) kc ?_
        simp only [wpSegs, pickB, List.dropLast_cons_cons, List.dropLast_singleton, List.getLast?_cons_cons, List.getLast?_singleton, List.toList_toArray, List.getElem?_toArray, List.getElem?_cons_succ, List.getElem?_cons_zero, Option.toList_some]
        repeat (go_big_quiet_step (fail))
        refine wpQuiet_nil ?_
        clear q0 hne kc
        go_wp2
        go_ret2
        exact ⟨_, by rw [HE.out]; rfl, RR.out⟩
end Go.Proofs.YtpcnoiigbmiejaaGreatDoor.shape

/- Laws of refinement: it stops, two structures' colours are those of each, and it does not see names. Plain words, no program in sight. -/
namespace Go.Proofs.YtpcnoiigbmiejaaGreatDoor.colq
set_option linter.unusedVariables false
set_option linter.unusedSimpArgs false
open Go.Proofs.YtpcnoiigbmiejaaGreatDoor.base Go.Proofs.YtpcnoiigbmiejaaGreatDoor.col Go.Proofs.YtpcnoiigbmiejaaGreatDoor.colp Go.Proofs.YtpcnoiigbmiejaaGreatDoor.both

theorem mem_getD {l : List Int} {x : Int} (h : x ∈ l) : ∃ i, i < l.length ∧ l.getD i 0 = x := by
  obtain ⟨i, hi, e⟩ := List.getElem_of_mem h
  exact ⟨i, hi, by rw [List.getD_eq_getElem?_getD, List.getElem?_eq_getElem hi]; exact e⟩
theorem getD_mem {l : List Int} {i : Nat} (h : i < l.length) : l.getD i 0 ∈ l := by
  rw [List.getD_eq_getElem?_getD, List.getElem?_eq_getElem h]; exact List.getElem_mem h
theorem getD_mapI {l : List Int} {g : Int → Int} {i : Nat} (h : i < l.length) : (l.map g).getD i 0 = g (l.getD i 0) := by
  simp [List.getD_eq_getElem?_getD, h]
theorem ext_getD {l m : List Int} (h : l.length = m.length) (he : ∀ i, i < l.length → l.getD i 0 = m.getD i 0) : l = m := by
  apply List.ext_getElem h
  intro i h1 h2
  have := he i h1
  rw [List.getD_eq_getElem?_getD, List.getElem?_eq_getElem h1, List.getD_eq_getElem?_getD, List.getElem?_eq_getElem h2] at this
  exact this
theorem idx_at {l : List Int} {v : Int} (h : v ∈ l) : l.getD (l.idxOf v) 0 = v := by
  rw [List.getD_eq_getElem?_getD, List.getElem?_eq_getElem (List.idxOf_lt_length_of_mem h), Option.getD_some, List.getElem_idxOf]
theorem less_head {a b : Int} {l m : List Int} (h : a < b) : lessL (a :: l) (b :: m) = true := by
  rw [lessL, if_neg (by omega)]; exact decide_eq_true h
theorem nums_lt? {L : List (List Int)} {i j : Nat} {d e : List Int} (hi : L[i]? = some d) (hj : L[j]? = some e) : (nums L).getD i 0 < (nums L).getD j 0 ↔ lessL d e = true := by
  obtain ⟨li, rfl⟩ := List.getElem?_eq_some_iff.1 hi
  obtain ⟨lj, rfl⟩ := List.getElem?_eq_some_iff.1 hj
  exact nums_lt li lj
theorem nums_at {L : List (List Int)} {i : Nat} {d : List Int} (hi : L[i]? = some d) : (nums L).getD i 0 = ((num L d : Nat) : Int) := by
  obtain ⟨li, rfl⟩ := List.getElem?_eq_some_iff.1 hi
  exact nums_get li
/-- a smaller colour stays smaller -/
theorem cols_mono {As : List St} {k i j : Nat} (hi : i < total As) (hj : j < total As) (h : (cols As k).getD i 0 < (cols As k).getD j 0) : (cols As (k + 1)).getD i 0 < (cols As (k + 1)).getD j 0 := by
  obtain ⟨t, ht⟩ := nexts_head As (cols As k) (cols_len As k) hi
  obtain ⟨u, hu⟩ := nexts_head As (cols As k) (cols_len As k) hj
  exact (nums_lt? ht hu).2 (less_head h)
/-- numbers that are moved onto themselves in order stay where they are -/
theorem mono_onto {m : Int} {f : Int → Int} (hm : ∀ x y, 0 ≤ x → x < m → 0 ≤ y → y < m → x ≤ y → f x ≤ f y) (ho : ∀ y, 0 ≤ y → y < m → ∃ x, 0 ≤ x ∧ x < m ∧ f x = y) : ∀ x, 0 ≤ x → x < m → f x = x := by
  have up : ∀ n : Nat, (n : Int) < m → f n ≤ n := by
    intro n
    induction n with
    | zero =>
      intro h
      obtain ⟨x, h0, h1, e⟩ := ho ((0 : Nat) : Int) (by omega) h
      have := hm ((0 : Nat) : Int) x (by omega) h h0 h1 (by omega)
      omega
    | succ n ih =>
      intro h
      have ih := ih (by omega)
      obtain ⟨x, h0, h1, e⟩ := ho ((n + 1 : Nat) : Int) (by omega) h
      by_cases hx : x ≤ n
      · have := hm x n h0 h1 (by omega) (by omega) hx; omega
      · have := hm ((n + 1 : Nat) : Int) x (by omega) h h0 h1 (by omega); omega
  have down : ∀ d : Nat, (d : Int) < m → m - 1 - d ≤ f (m - 1 - d) := by
    intro d
    induction d with
    | zero =>
      intro h
      obtain ⟨x, h0, h1, e⟩ := ho (m - 1 - ((0 : Nat) : Int)) (by omega) (by omega)
      have := hm x (m - 1 - ((0 : Nat) : Int)) h0 h1 (by omega) (by omega) (by omega)
      omega
    | succ d ih =>
      intro h
      have ih := ih (by omega)
      obtain ⟨x, h0, h1, e⟩ := ho (m - 1 - ((d + 1 : Nat) : Int)) (by omega) (by omega)
      by_cases hx : m - 1 - d ≤ x
      · have := hm (m - 1 - d) x (by omega) (by omega) h0 h1 hx; omega
      · have := hm x (m - 1 - ((d + 1 : Nat) : Int)) h0 h1 (by omega) (by omega) (by omega); omega
  intro x h0 h1
  have a := up x.toNat (by omega)
  have b := down (m - 1 - x).toNat (by omega)
  rw [show ((x.toNat : Nat) : Int) = x by omega] at a
  rw [show m - 1 - (((m - 1 - x).toNat : Nat) : Int) = x by omega] at b
  omega
/-- two lists that number their places in the same order, without gaps, are equal -/
theorem same_numbers {c C : List Int} {m : Int} (hl : c.length = C.length) (hc : ∀ x, x ∈ c ↔ 0 ≤ x ∧ x < m) (hC : ∀ x, x ∈ C ↔ 0 ≤ x ∧ x < m) (hg : ∀ i j, i < C.length → j < C.length → c.getD i 0 < c.getD j 0 → C.getD i 0 < C.getD j 0) : C = c := by
  have hf : ∀ i v, i < C.length → C.getD i 0 = v → c.getD (C.idxOf v) 0 = c.getD i 0 := by
    intro i v hi hv
    have hm : v ∈ C := by rw [← hv]; exact getD_mem hi
    have hlt := List.idxOf_lt_length_of_mem hm
    have e := idx_at hm
    by_cases h : c.getD (C.idxOf v) 0 < c.getD i 0
    · have := hg _ _ hlt hi h; omega
    · by_cases h2 : c.getD i 0 < c.getD (C.idxOf v) 0
      · have := hg _ _ hi hlt h2; omega
      · omega
  have id := mono_onto (m := m) (f := fun v => c.getD (C.idxOf v) 0) (fun x y x0 x1 y0 y1 hxy => by
    obtain ⟨i, hi, ei⟩ := mem_getD ((hC x).2 ⟨x0, x1⟩)
    obtain ⟨j, hj, ej⟩ := mem_getD ((hC y).2 ⟨y0, y1⟩)
    show c.getD (C.idxOf x) 0 ≤ c.getD (C.idxOf y) 0
    rw [hf i x hi ei, hf j y hj ej]
    by_cases h : c.getD j 0 < c.getD i 0
    · have := hg j i hj hi h; omega
    · omega) (fun y y0 y1 => by
    obtain ⟨i, hi, ei⟩ := mem_getD ((hc y).2 ⟨y0, y1⟩)
    have hm := (hC (C.getD i 0)).1 (getD_mem (by omega))
    exact ⟨C.getD i 0, hm.1, hm.2, (hf i _ (by omega) rfl).trans ei⟩)
  refine ext_getD hl.symm fun i hi => ?_
  have hm := (hC (C.getD i 0)).1 (getD_mem hi)
  exact (id _ hm.1 hm.2).symm.trans (hf i _ hi rfl)
/-- as many colours as before: the same ones -/
theorem cols_stop {As : List St} {k : Nat} (h : 0 < total As) (e : most (cols As k) = most (cols As (k + 1))) : cols As (k + 1) = cols As k := by
  refine same_numbers (m := most (cols As k)) (by rw [cols_len, cols_len]) (fun x => cols_all h k) (fun x => by rw [e]; exact cols_all h (k + 1)) fun i j hi hj hc => ?_
  rw [cols_len] at hi hj
  exact cols_mono hi hj hc
theorem cols_stay {As : List St} {k : Nat} (h : cols As (k + 1) = cols As k) : ∀ j, cols As (k + j) = cols As k
  | 0 => rfl
  | j + 1 => by
    have ih := cols_stay h j
    show nums (nexts As (cols As (k + j))) = cols As k
    rw [ih]; exact h

/-! the same order -/
def OrdEq (p q : List Int) : Prop := p.length = q.length ∧ ∀ i j, i < p.length → j < p.length → (p.getD i 0 < p.getD j 0 ↔ q.getD i 0 < q.getD j 0)
theorem OrdEq.eq {p q : List Int} (h : OrdEq p q) {i j : Nat} (hi : i < p.length) (hj : j < p.length) : p.getD i 0 = p.getD j 0 ↔ q.getD i 0 = q.getD j 0 := by
  have h1 := h.2 i j hi hj
  have h2 := h.2 j i hj hi
  omega
theorem OrdEq.map {p q : List Int} (h : OrdEq p q) : ∃ f : Int → Int, q = p.map f ∧ ∀ x y, x ∈ p → y ∈ p → (x < y ↔ f x < f y) := by
  have hf : ∀ i v, i < p.length → p.getD i 0 = v → q.getD (p.idxOf v) 0 = q.getD i 0 := by
    intro i v hi hv
    have hm : v ∈ p := by rw [← hv]; exact getD_mem hi
    exact (h.eq (List.idxOf_lt_length_of_mem hm) hi).1 ((idx_at hm).trans hv.symm)
  refine ⟨fun v => q.getD (p.idxOf v) 0, ?_, fun x y hx hy => ?_⟩
  · refine ext_getD (by rw [List.length_map]; exact h.1.symm) fun i hi => ?_
    have hi : i < p.length := by have := h.1; omega
    rw [getD_mapI hi]
    exact (hf i _ hi rfl).symm
  · obtain ⟨i, hi, ei⟩ := mem_getD hx
    obtain ⟨j, hj, ej⟩ := mem_getD hy
    show _ ↔ q.getD (p.idxOf x) 0 < q.getD (p.idxOf y) 0
    rw [hf i x hi ei, hf j y hj ej, ← h.2 i j hi hj, ei, ej]
theorem way_map (a : St) (c : List Int) (x k m : Nat) (f : Int → Int) (h : m ≤ c.length) : way a (c.map f) x k m = (way a c x k m).map f := by
  unfold way
  rw [List.map_map]
  refine List.map_congr_left fun y hy => ?_
  have := List.mem_range.1 (List.mem_filter.1 hy).1
  exact getD_mapI (by omega)
theorem way_mem {a : St} {c : List Int} {x k m : Nat} {v : Int} (h : m ≤ c.length) (hv : v ∈ way a c x k m) : v ∈ c := by
  obtain ⟨y, hy, rfl⟩ := List.mem_map.1 hv
  have := List.mem_range.1 (List.mem_filter.1 hy).1
  exact getD_mem (by omega)
theorem sortI_map {l : List Int} {f : Int → Int} (hf : ∀ x y, x ∈ l → y ∈ l → x ≤ y → f x ≤ f y) : sortI (l.map f) = (sortI l).map f := by
  refine (sorted_eq ?_ ((sortI_perm l).map f)).symm
  rw [List.pairwise_map]
  refine List.Pairwise.imp_of_mem (fun {a b} ha hb hab => ?_) (sortI_sorted l)
  exact hf a b ((sortI_perm l).mem_iff.1 ha) ((sortI_perm l).mem_iff.1 hb) hab
theorem less_app : ∀ {p q : List Int} (r s : List Int), p.length = q.length → lessL (p ++ r) (q ++ s) = if p = q then lessL r s else lessL p q
  | [], [], r, s, _ => by simp
  | [], _ :: _, r, s, h => by simp at h
  | _ :: _, [], r, s, h => by simp at h
  | a :: p, b :: q, r, s, h => by
    have ih := less_app (p := p) (q := q) r s (by simpa using h)
    by_cases e : a = b
    · subst e
      rw [List.cons_append, List.cons_append, lessL, if_pos rfl, ih, lessL, if_pos rfl]
      by_cases e2 : p = q
      · rw [if_pos e2, if_pos (by rw [e2])]
      · rw [if_neg e2, if_neg (by simpa using e2)]
    · rw [List.cons_append, List.cons_append, lessL, if_neg e, if_neg (by simp [e]), lessL, if_neg e]
section
variable {f : Int → Int} {P : Int → Prop} (hf : ∀ x y, P x → P y → (x < y ↔ f x < f y))
include hf
theorem f_eq {x y : Int} (hx : P x) (hy : P y) : x = y ↔ f x = f y := by
  have h1 := hf x y hx hy
  have h2 := hf y x hy hx
  omega
theorem less_map : ∀ {p q : List Int}, (∀ x, x ∈ p → P x) → (∀ x, x ∈ q → P x) → lessL (p.map f) (q.map f) = lessL p q
  | [], [], _, _ => rfl
  | [], _ :: _, _, _ => rfl
  | _ :: _, [], _, _ => rfl
  | a :: p, b :: q, hp, hq => by
    have ha := hp a List.mem_cons_self
    have hb := hq b List.mem_cons_self
    have ih := less_map (p := p) (q := q) (fun x hx => hp x (List.mem_cons_of_mem _ hx)) (fun x hx => hq x (List.mem_cons_of_mem _ hx))
    rw [List.map_cons, List.map_cons, lessL, lessL, ih]
    by_cases e : a = b
    · rw [if_pos e, if_pos ((f_eq hf ha hb).1 e)]
    · rw [if_neg e, if_neg (fun h => e ((f_eq hf ha hb).2 h))]
      exact decide_eq_decide.2 (hf a b ha hb).symm
theorem map_inj : ∀ {p q : List Int}, (∀ x, x ∈ p → P x) → (∀ x, x ∈ q → P x) → p.map f = q.map f → p = q
  | [], [], _, _, _ => rfl
  | [], _ :: _, _, _, h => by simp at h
  | _ :: _, [], _, _, h => by simp at h
  | a :: p, b :: q, hp, hq, h => by
    rw [List.map_cons, List.map_cons] at h
    obtain ⟨h1, h2⟩ := List.cons.inj h
    rw [(f_eq hf (hp a List.mem_cons_self) (hq b List.mem_cons_self)).2 h1, map_inj (fun x hx => hp x (List.mem_cons_of_mem _ hx)) (fun x hx => hq x (List.mem_cons_of_mem _ hx)) h2]
theorem f_le {x y : Int} (hx : P x) (hy : P y) (h : x ≤ y) : f x ≤ f y := by
  have h2 := hf y x hy hx
  omega
theorem less_blocks : ∀ {A B : List (List Int)}, A.length = B.length → (∀ l, l ∈ A → ∀ x, x ∈ l → P x) → (∀ l, l ∈ B → ∀ x, x ∈ l → P x) →
    lessL ((A.map (List.map f)).flatMap wayOut) ((B.map (List.map f)).flatMap wayOut) = lessL (A.flatMap wayOut) (B.flatMap wayOut)
  | [], [], _, _, _ => rfl
  | [], _ :: _, h, _, _ => by simp at h
  | _ :: _, [], h, _, _ => by simp at h
  | l :: A, m :: B, h, hA, hB => by
    have ih := less_blocks (A := A) (B := B) (by simpa using h) (fun x hx => hA x (List.mem_cons_of_mem _ hx)) (fun x hx => hB x (List.mem_cons_of_mem _ hx))
    have hl := hA l List.mem_cons_self
    have hm := hB m List.mem_cons_self
    have hl' : ∀ x, x ∈ sortI l → P x := fun x hx => hl x ((sortI_perm l).mem_iff.1 hx)
    have hm' : ∀ x, x ∈ sortI m → P x := fun x hx => hm x ((sortI_perm m).mem_iff.1 hx)
    simp only [List.map_cons, List.flatMap_cons, wayOut, List.length_map, List.cons_append]
    rw [sortI_map (fun x y hx hy => f_le hf (hl x hx) (hl y hy)), sortI_map (fun x y hx hy => f_le hf (hm x hx) (hm y hy))]
    by_cases e : (l.length : Int) = m.length
    · have e' : l.length = m.length := by omega
      rw [lessL, if_pos e, lessL, if_pos e, less_app _ _ (by rw [List.length_map, List.length_map, sortI_len, sortI_len, e']), less_app _ _ (by rw [sortI_len, sortI_len, e']), less_map hf hl' hm']
      rw [ih]
      by_cases e2 : sortI l = sortI m
      · rw [if_pos e2, if_pos (by rw [e2])]
      · rw [if_neg e2, if_neg (fun h => e2 (map_inj hf hl' hm' h))]
    · rw [lessL, if_neg e, lessL, if_neg e]
end
theorem desc_blocks (a : St) (c : List Int) (x : Nat) : desc a c x = c.getD x 0 :: ((List.range 4).map fun j => way a c x j a.n).flatMap wayOut := by
  rw [desc, descTo, List.flatMap_map]
/-- descriptions are in the same order if the colours are -/
theorem desc_less {a : St} {c d : List Int} (h : OrdEq c d) (hc : c.length = a.n) {x y : Nat} (hx : x < a.n) (hy : y < a.n) : lessL (desc a d x) (desc a d y) = lessL (desc a c x) (desc a c y) := by
  obtain ⟨f, rfl, hf⟩ := h.map
  rw [desc_blocks, desc_blocks, desc_blocks, desc_blocks, getD_mapI (by omega), getD_mapI (by omega)]
  have hfm : ∀ x y, x ∈ c → y ∈ c → (x < y ↔ f x < f y) := hf
  have e : ∀ x, ((List.range 4).map fun j => way a (c.map f) x j a.n) = ((List.range 4).map fun j => way a c x j a.n).map (List.map f) := fun x => by
    rw [List.map_map]
    exact List.map_congr_left fun j _ => way_map a c x j a.n f (by omega)
  have hm : ∀ x l, l ∈ ((List.range 4).map fun j => way a c x j a.n) → ∀ v, v ∈ l → v ∈ c := fun x l hl v hv => by
    obtain ⟨j, _, rfl⟩ := List.mem_map.1 hl
    exact way_mem (by omega) hv
  have hxm : c.getD x 0 ∈ c := getD_mem (by omega)
  have hym : c.getD y 0 ∈ c := getD_mem (by omega)
  rw [e, e, lessL, lessL, less_blocks (P := fun v => v ∈ c) hfm (by simp) (hm x) (hm y)]
  by_cases e1 : c.getD x 0 = c.getD y 0
  · rw [if_pos e1, if_pos (by rw [e1])]
  · rw [if_neg e1, if_neg (fun h => e1 ((f_eq (P := fun v => v ∈ c) hfm hxm hym).2 h))]
    exact decide_eq_decide.2 (hfm _ _ hxm hym).symm

theorem take_get {l : List Int} {i k : Nat} (h : i < k) : (l.take k).getD i 0 = l.getD i 0 := by
  simp [List.getD_eq_getElem?_getD, List.getElem?_take, h]
theorem drop_get (l : List Int) (i k : Nat) : (l.drop k).getD i 0 = l.getD (k + i) 0 := by
  simp [List.getD_eq_getElem?_getD, List.getElem?_drop]
theorem one_get {a : St} {c : List Int} {i : Nat} (hi : i < a.n) (hc : c.length = a.n) : (nexts [a] c)[i]? = some (desc a c i) := by
  simp only [nexts, List.append_nil]
  rw [List.getElem?_map, List.getElem?_range hi, List.take_of_length_le (by omega)]; rfl
theorem two_getA {a b : St} {c : List Int} {i : Nat} (hi : i < a.n) : (nexts [a, b] c)[i]? = some (desc a (c.take a.n) i) := by
  rw [nexts, List.getElem?_append_left (by simpa using hi), List.getElem?_map, List.getElem?_range hi]; rfl
theorem two_getB {a b : St} {c : List Int} {i : Nat} (hi : i < b.n) (hc : c.length = a.n + b.n) : (nexts [a, b] c)[a.n + i]? = some (desc b (c.drop a.n) i) := by
  rw [nexts, List.getElem?_append_right (by simp), nexts, nexts, List.append_nil, List.length_map, List.length_range, Nat.add_sub_cancel_left, List.getElem?_map, List.getElem?_range hi, List.take_of_length_le (by rw [List.length_drop]; omega)]; rfl
theorem f_one {a : St} {i : Nat} (hi : i < a.n) : (firsts [a])[i]? = some (d0 a i) := by
  simp only [firsts, List.append_nil]
  rw [List.getElem?_map, List.getElem?_range hi]; rfl
theorem f_twoA {a b : St} {i : Nat} (hi : i < a.n) : (firsts [a, b])[i]? = some (d0 a i) := by
  rw [firsts, List.getElem?_append_left (by simpa using hi), List.getElem?_map, List.getElem?_range hi]; rfl
theorem f_twoB {a b : St} {i : Nat} (hi : i < b.n) : (firsts [a, b])[a.n + i]? = some (d0 b i) := by
  rw [firsts, List.getElem?_append_right (by simp), firsts, firsts, List.append_nil, List.length_map, List.length_range, Nat.add_sub_cancel_left, List.getElem?_map, List.getElem?_range hi]; rfl
theorem two_len (a b : St) (k : Nat) : (cols [a, b] k).length = a.n + b.n := by rw [cols_len]; simp [total]
theorem one_len (a : St) (k : Nat) : (cols [a] k).length = a.n := by rw [cols_len]; simp [total]
theorem colA_get {a b : St} {k i : Nat} (hi : i < a.n) : (colA a b k).getD i 0 = (cols [a, b] k).getD i 0 := take_get hi
theorem colB_get (a b : St) (k i : Nat) : (colB a b k).getD i 0 = (cols [a, b] k).getD (a.n + i) 0 := drop_get _ _ _
theorem colA_length (a b : St) (k : Nat) : (colA a b k).length = a.n := by
  show ((cols [a, b] k).take a.n).length = a.n
  rw [List.length_take, two_len]; omega
theorem colB_length (a b : St) (k : Nat) : (colB a b k).length = b.n := by
  show ((cols [a, b] k).drop a.n).length = b.n
  rw [List.length_drop, two_len]; omega
/-- compared with another one, a structure's elements are in the same order as alone -/
theorem both_ord (a b : St) : ∀ k, OrdEq (colA a b k) (cols [a] k)
  | 0 => by
    refine ⟨by rw [colA_length, one_len], fun i j hi hj => ?_⟩
    rw [colA_length] at hi hj
    rw [colA_get hi, colA_get hj, cols, cols, nums_lt? (f_twoA hi) (f_twoA hj), nums_lt? (f_one hi) (f_one hj)]
  | k + 1 => by
    refine ⟨by rw [colA_length, one_len], fun i j hi hj => ?_⟩
    rw [colA_length] at hi hj
    rw [colA_get hi, colA_get hj, cols, cols, nums_lt? (two_getA hi) (two_getA hj), nums_lt? (one_get hi (one_len a k)) (one_get hj (one_len a k))]
    rw [desc_less (both_ord a b k) (colA_length a b k) hi hj]
    exact Iff.rfl
theorem nums_comm (L M : List (List Int)) : nums (M ++ L) = (nums (L ++ M)).drop L.length ++ (nums (L ++ M)).take L.length := by
  have e : num (M ++ L) = num (L ++ M) := funext fun d => num_congr (fun x => by simp only [List.mem_append]; exact Or.comm) d
  unfold nums
  rw [e, List.map_append, List.map_append, List.drop_left' (by simp), List.take_left' (by simp)]
theorem nexts_pair (a b : St) (c : List Int) (h : c.length = a.n + b.n) : nexts [a, b] c = (List.range a.n).map (desc a (c.take a.n)) ++ (List.range b.n).map (desc b (c.drop a.n)) := by
  rw [nexts, nexts, nexts, List.append_nil, List.take_of_length_le (l := c.drop a.n) (by rw [List.length_drop]; omega)]
/-- the order of both structures does not matter -/
theorem both_swap (a b : St) : ∀ k, cols [b, a] k = colB a b k ++ colA a b k
  | 0 => by
    have e := nums_comm ((List.range a.n).map (d0 a)) ((List.range b.n).map (d0 b))
    show nums (firsts [b, a]) = (nums (firsts [a, b])).drop a.n ++ (nums (firsts [a, b])).take a.n
    simp only [firsts, List.append_nil]
    rw [e]; simp
  | k + 1 => by
    have ih := both_swap a b k
    have hB := colB_length a b k
    have hA := colA_length a b k
    show nums (nexts [b, a] (cols [b, a] k)) = (nums (nexts [a, b] (cols [a, b] k))).drop a.n ++ (nums (nexts [a, b] (cols [a, b] k))).take a.n
    rw [nexts_pair a b _ (two_len a b k), nexts_pair b a _ (two_len b a k), ih, List.take_left' hB, List.drop_left' hB]
    have e := nums_comm ((List.range a.n).map (desc a (colA a b k))) ((List.range b.n).map (desc b (colB a b k)))
    rw [e]; simp [colA, colB]
theorem swapA (a b : St) (k : Nat) : colA b a k = colB a b k := by
  show (cols [b, a] k).take b.n = _
  rw [both_swap, List.take_left' (colB_length a b k)]
theorem swapB (a b : St) (k : Nat) : colB b a k = colA a b k := by
  show (cols [b, a] k).drop b.n = _
  rw [both_swap, List.drop_left' (colB_length a b k)]
theorem same_swap (a b : St) (k : Nat) : sameAt b a k = sameAt a b k := by
  show decide ((colA b a k).Perm (colB b a k)) = decide ((colA a b k).Perm (colB a b k))
  rw [swapA a b k, swapB a b k]
  exact decide_eq_decide.2 ⟨fun h => h.symm, fun h => h.symm⟩
theorem same_self (a : St) (k : Nat) : sameAt a a k = true := by
  refine decide_eq_true ?_
  rw [cols_two, List.take_left' (one_len a k), List.drop_left' (one_len a k)]
/-- compared with another one, the second structure's elements are in the same order as alone -/
theorem both_ordB (a b : St) (k : Nat) : OrdEq (colB a b k) (cols [b] k) := by rw [← swapA]; exact both_ord b a k

/-! names do not matter -/
section
open Go.Proofs.YtpcnoiigbmiejaaGreatDoor.fits
variable {n : Nat} {sa ra sb rb : ByteArray} {o : List Nat} (h : Iso n sa ra sb rb o)
include h
theorem iso_perm : ((List.range n).map fun i => o.getD i 0).Perm (List.range n) := by
  refine (List.perm_ext_iff_of_nodup ?_ List.nodup_range).2 fun y => ?_
  · rw [List.Nodup, List.pairwise_map]
    exact List.Pairwise.imp_of_mem (fun {i j} hi hj hij e => hij (h.inj i j (List.mem_range.1 hi) (List.mem_range.1 hj) e)) List.nodup_range
  · rw [List.mem_map, List.mem_range]
    constructor
    · rintro ⟨i, hi, rfl⟩; exact h.lt i (List.mem_range.1 hi)
    · intro hy
      obtain ⟨i, hi, e⟩ := h.onto hy
      exact ⟨i, List.mem_range.2 hi, e⟩
theorem iso_d0 {i : Nat} (hi : i < n) : d0 ⟨n, sb, rb⟩ i = d0 ⟨n, sa, ra⟩ (o.getD i 0) := by
  unfold d0
  simp only
  rw [h.s i hi, h.r i i hi hi]
theorem iso_kind {i j : Nat} (hi : i < n) (hj : j < n) : kindOf ⟨n, sb, rb⟩ i j = kindOf ⟨n, sa, ra⟩ (o.getD i 0) (o.getD j 0) := by
  unfold kindOf
  simp only
  rw [h.r i j hi hj, h.r j i hj hi]
theorem iso_way {ca cb : List Int} (hc : ∀ i, i < n → cb.getD i 0 = ca.getD (o.getD i 0) 0) {i : Nat} (hi : i < n) (k : Nat) : (way ⟨n, sb, rb⟩ cb i k n).Perm (way ⟨n, sa, ra⟩ ca (o.getD i 0) k n) := by
  unfold way
  refine List.Perm.trans (List.Perm.of_eq ?_) (((iso_perm h).filter _).map _)
  rw [List.filter_map, List.map_map]
  have e : (List.range n).filter (fun y => y != i && kindOf ⟨n, sb, rb⟩ i y == k) = (List.range n).filter ((fun y => y != o.getD i 0 && kindOf ⟨n, sa, ra⟩ (o.getD i 0) y == k) ∘ fun i => o.getD i 0) := by
    refine List.filter_congr fun y hy => ?_
    have hy := List.mem_range.1 hy
    show _ = (o.getD y 0 != o.getD i 0 && kindOf ⟨n, sa, ra⟩ (o.getD i 0) (o.getD y 0) == k)
    rw [iso_kind h hi hy]
    have : (y != i) = (o.getD y 0 != o.getD i 0) := by
      by_cases e : y = i
      · subst e; simp
      · have e2 : o.getD y 0 ≠ o.getD i 0 := fun e2 => e (h.inj y i hy hi e2)
        rw [bne_iff_ne.2 e, bne_iff_ne.2 e2]
    rw [this]
  rw [e]
  exact List.map_congr_left fun y hy => hc y (List.mem_range.1 (List.mem_filter.1 hy).1)
theorem iso_desc {ca cb : List Int} (hc : ∀ i, i < n → cb.getD i 0 = ca.getD (o.getD i 0) 0) {i : Nat} (hi : i < n) : desc ⟨n, sb, rb⟩ cb i = desc ⟨n, sa, ra⟩ ca (o.getD i 0) := by
  rw [desc_blocks, desc_blocks, hc i hi]
  congr 1
  rw [List.flatMap_map, List.flatMap_map]
  have e : (fun k => wayOut (way ⟨n, sb, rb⟩ cb i k n)) = fun k => wayOut (way ⟨n, sa, ra⟩ ca (o.getD i 0) k n) := funext fun k => by
    have p := iso_way h hc hi k
    rw [wayOut, wayOut, p.length_eq, sortI_congr p]
  show List.flatMap (fun k => wayOut (way ⟨n, sb, rb⟩ cb i k n)) _ = _
  rw [e]
theorem iso_both : ∀ k i, i < n → (colB ⟨n, sa, ra⟩ ⟨n, sb, rb⟩ k).getD i 0 = (colA ⟨n, sa, ra⟩ ⟨n, sb, rb⟩ k).getD (o.getD i 0) 0
  | 0, i, hi => by
    rw [colB_get, colA_get (h.lt i hi), cols, nums_at (f_twoB (a := ⟨n, sa, ra⟩) (b := ⟨n, sb, rb⟩) hi), nums_at (f_twoA (a := ⟨n, sa, ra⟩) (b := ⟨n, sb, rb⟩) (h.lt i hi)), iso_d0 h hi]
  | k + 1, i, hi => by
    have ih := iso_both k
    rw [colB_get, colA_get (h.lt i hi), cols, nums_at (two_getB (a := ⟨n, sa, ra⟩) (b := ⟨n, sb, rb⟩) hi (two_len _ _ k)), nums_at (two_getA (a := ⟨n, sa, ra⟩) (b := ⟨n, sb, rb⟩) (h.lt i hi))]
    rw [show desc ⟨n, sb, rb⟩ ((cols [⟨n, sa, ra⟩, ⟨n, sb, rb⟩] k).drop n) i = desc ⟨n, sa, ra⟩ ((cols [⟨n, sa, ra⟩, ⟨n, sb, rb⟩] k).take n) (o.getD i 0) from iso_desc h ih hi]
theorem iso_same (k : Nat) : sameAt ⟨n, sa, ra⟩ ⟨n, sb, rb⟩ k = true := by
  refine decide_eq_true ?_
  show (colA ⟨n, sa, ra⟩ ⟨n, sb, rb⟩ k).Perm (colB ⟨n, sa, ra⟩ ⟨n, sb, rb⟩ k)
  have hA := colA_length ⟨n, sa, ra⟩ ⟨n, sb, rb⟩ k
  have hB := colB_length ⟨n, sa, ra⟩ ⟨n, sb, rb⟩ k
  have ib := iso_both h k
  revert hA hB ib
  generalize colA ⟨n, sa, ra⟩ ⟨n, sb, rb⟩ k = A
  generalize colB ⟨n, sa, ra⟩ ⟨n, sb, rb⟩ k = B
  intro hA hB ib
  have hA : A.length = n := hA
  have hB : B.length = n := hB
  have eA : A = (List.range n).map fun i => A.getD i 0 := ext_getD (by simp [hA]) fun i hi => by simp [List.getD_eq_getElem?_getD, show i < n by omega]
  have eB : B = ((List.range n).map fun i => o.getD i 0).map fun i => A.getD i 0 := ext_getD (by simp [hB]) fun i hi => by
    have hi : i < n := by omega
    rw [ib i hi]
    simp [List.getD_eq_getElem?_getD, hi]
  rw [eB]
  have hp := ((iso_perm h).map fun i => A.getD i 0).symm
  rw [← eA] at hp
  exact hp
theorem iso_one : ∀ k i, i < n → (cols [⟨n, sb, rb⟩] k).getD i 0 = (cols [⟨n, sa, ra⟩] k).getD (o.getD i 0) 0 := by
  have core : ∀ (f g : Nat → List Int), (∀ i, i < n → g i = f (o.getD i 0)) → ∀ i, i < n → (nums ((List.range n).map g)).getD i 0 = (nums ((List.range n).map f)).getD (o.getD i 0) 0 := by
    intro f g hfg i hi
    have e1 : ((List.range n).map g)[i]? = some (g i) := by rw [List.getElem?_map, List.getElem?_range hi]; rfl
    have e2 : ((List.range n).map f)[o.getD i 0]? = some (f (o.getD i 0)) := by rw [List.getElem?_map, List.getElem?_range (h.lt i hi)]; rfl
    rw [nums_at e1, nums_at e2, hfg i hi, num_congr (L := (List.range n).map g) (M := (List.range n).map f) (fun x => ?_)]
    constructor
    · intro hx
      obtain ⟨j, hj, rfl⟩ := List.mem_map.1 hx
      have hj := List.mem_range.1 hj
      rw [hfg j hj]
      exact List.mem_map.2 ⟨_, List.mem_range.2 (h.lt j hj), rfl⟩
    · intro hx
      obtain ⟨j, hj, rfl⟩ := List.mem_map.1 hx
      obtain ⟨i', hi', e⟩ := h.onto (List.mem_range.1 hj)
      exact List.mem_map.2 ⟨i', List.mem_range.2 hi', by rw [hfg i' hi', e]⟩
  intro k
  induction k with
  | zero =>
    intro i hi
    simp only [cols, firsts, List.append_nil]
    exact core (d0 ⟨n, sa, ra⟩) (d0 ⟨n, sb, rb⟩) (fun i hi => iso_d0 h hi) i hi
  | succ k ih =>
    intro i hi
    have la : (cols [⟨n, sa, ra⟩] k).length = n := one_len _ k
    have lb : (cols [⟨n, sb, rb⟩] k).length = n := one_len _ k
    simp only [cols, nexts, List.append_nil]
    refine core _ _ (fun i hi => ?_) i hi
    rw [List.take_of_length_le (by rw [lb]; exact Nat.le_refl _), List.take_of_length_le (by rw [la]; exact Nat.le_refl _)]
    exact iso_desc h ih hi
end
end Go.Proofs.YtpcnoiigbmiejaaGreatDoor.colq

/- ColoursOf and ColourCounts of the program. -/
namespace Go.Proofs.YtpcnoiigbmiejaaGreatDoor.coli
set_option linter.unusedVariables false
set_option linter.unusedSimpArgs false
open Go.ChangeShapes Go.WideShapes Go.ChangeAt Go.RowKit
open Go.Proofs.YtpcnoiigbmiejaaGreatDoor.lib Go.Proofs.YtpcnoiigbmiejaaGreatDoor.st Go.Proofs.YtpcnoiigbmiejaaGreatDoor.base Go.Proofs.YtpcnoiigbmiejaaGreatDoor.col Go.Proofs.YtpcnoiigbmiejaaGreatDoor.colp Go.Proofs.YtpcnoiigbmiejaaGreatDoor.sll Go.Proofs.YtpcnoiigbmiejaaGreatDoor.both Go.Proofs.YtpcnoiigbmiejaaGreatDoor.cmp Go.Proofs.YtpcnoiigbmiejaaGreatDoor.less Go.Proofs.YtpcnoiigbmiejaaGreatDoor.specc Go.Proofs.YtpcnoiigbmiejaaGreatDoor.specd Go.Proofs.YtpcnoiigbmiejaaGreatDoor.colsa Go.Proofs.YtpcnoiigbmiejaaGreatDoor.flow Go.Proofs.YtpcnoiigbmiejaaGreatDoor.descr

theorem strs_one {w : World} {H N : Nat} {s r : ByteArray} (h : Box 24 w H N s r) (hf : Fit ⟨N, s, r⟩) : Strs w H [⟨N, s, r⟩] := by
  obtain ⟨h0, h1, h2⟩ := h.c
  refine ⟨h.lt, fun i a hi => ?_, fun a ha => ?_⟩
  · match i, hi with
    | 0, hi => simp only [List.getElem?_cons_zero, Option.some.injEq] at hi; subst hi; exact ⟨h0, h1, h2⟩
    | i + 1, hi => simp at hi
  · rw [List.mem_singleton.1 ha]; exact hf
theorem strs_two {w : World} {H N M : Nat} {s r t q : ByteArray} (hH : w.heap.size = H) (hf : Fit ⟨N, s, r⟩) (hf2 : Fit ⟨M, t, q⟩) : Strs (w.alloc (.cells #[.int .i64 N, .string s, .string r, .int .i64 M, .string t, .string q] 24)) H [⟨N, s, r⟩, ⟨M, t, q⟩] := by
  subst hH
  have hc : ∀ j u, (#[Value.int .i64 N, .string s, .string r, .int .i64 M, .string t, .string q] : Array Value)[j]? = some u → (w.alloc (.cells #[.int .i64 N, .string s, .string r, .int .i64 M, .string t, .string q] 24)).cell? ⟨w.heap.size, j, none⟩ = some u := fun j u hj => by
    rw [cell_of_row _ _ j _ _ (0, 0) (heap_alloc_new w _)]; exact hj
  refine ⟨by simp, fun i a hi => ?_, fun a ha => ?_⟩
  · match i, hi with
    | 0, hi => simp only [List.getElem?_cons_zero, Option.some.injEq] at hi; subst hi; exact ⟨hc 0 _ rfl, hc 1 _ rfl, hc 2 _ rfl⟩
    | 1, hi => simp only [List.getElem?_cons_succ, List.getElem?_cons_zero, Option.some.injEq] at hi; subst hi; exact ⟨hc 3 _ rfl, hc 4 _ rfl, hc 5 _ rfl⟩
    | i + 2, hi => simp at hi
  · rcases List.mem_cons.1 ha with rfl | ha
    · exact hf
    · rw [List.mem_singleton.1 ha]; exact hf2
/-- coloursAfter of one structure, of two -/
theorem after_one (w : World) (H N R : Nat) (s r : ByteArray) (hH : w.heap.size = H) (hf : Fit ⟨N, s, r⟩) (hR : R ≤ 100) :
    Calls Tryz.prog 47 #[.slice (some ⟨H, 0, none⟩) 1 1, .int .i64 R] (w.alloc (.cells #[.int .i64 N, .string s, .string r] 24)) fun e w' => ∃ u, e = .returned u ∧ OwnI 3 w' w.heap.size u (cols [⟨N, s, r⟩] R) ∧ Below w.heap.size w w' := by
  have AL : Below w.heap.size w (w.alloc (.cells #[.int .i64 N, .string s, .string r] 24)) := (Below.refl _ _).alloc (Nat.le_refl _) _
  refine (after_any _ H 1 R [⟨N, s, r⟩] (strs_one (Box.new _ _ _ hH _ _ _) hf) rfl (Nat.le_refl _) (by omega) hR).mono ?_
  rintro e w' ⟨u, he, ho, hb⟩
  exact ⟨u, he, ho.mono AL.size, AL.trans (hb.mono AL.size)⟩
theorem after_two (w : World) (H N M R : Nat) (s r t q : ByteArray) (hH : w.heap.size = H) (hf : Fit ⟨N, s, r⟩) (hf2 : Fit ⟨M, t, q⟩) (hR : R ≤ 100) :
    Calls Tryz.prog 47 #[.slice (some ⟨H, 0, none⟩) 2 2, .int .i64 R] (w.alloc (.cells #[.int .i64 N, .string s, .string r, .int .i64 M, .string t, .string q] 24)) fun e w' => ∃ u, e = .returned u ∧ OwnI 3 w' w.heap.size u (cols [⟨N, s, r⟩, ⟨M, t, q⟩] R) ∧ Below w.heap.size w w' := by
  have AL : Below w.heap.size w (w.alloc (.cells #[.int .i64 N, .string s, .string r, .int .i64 M, .string t, .string q] 24)) := (Below.refl _ _).alloc (Nat.le_refl _) _
  refine (after_any _ H 2 R [⟨N, s, r⟩, ⟨M, t, q⟩] (strs_two hH hf hf2) rfl (by omega) (Nat.le_refl _) hR).mono ?_
  rintro e w' ⟨u, he, ho, hb⟩
  exact ⟨u, he, ho.mono AL.size, AL.trans (hb.mono AL.size)⟩

set_option maxHeartbeats 800000 in
theorem implColoursOf_any (n : Int) (s r : ByteArray) (c : Int) (w : World) (hs : s.size ≤ 9223372036854775807) (hr : r.size ≤ 9223372036854775807) :
    Calls Tryz.prog 18 #[.agg #[.int .i64 n, .string s, .string r], .int .i64 c] w fun e w' => ∃ v, e = .returned v ∧ OwnI 3 w' w.heap.size v (colsR n s r c) ∧ Below w.heap.size w w' := by
  have BX : Hid (Box 24 (w.alloc (.cells #[.int .i64 n, .string s, .string r] 24)) w.heap.size n s r) := Box.new _ w _ rfl n s r
  have AW : Hid (Below w.heap.size w (w.alloc (.cells #[.int .i64 n, .string s, .string r] 24))) := (Below.refl _ _).alloc (Nat.le_refl _) _
  go_enter Tryz.func18, Tryz.ntmps18
  go_wp2_with fail
  refine (isStructure_any n s r _ hs hr).mono ?_
  rintro e w1 ⟨rfl, hw⟩
  have AW1 : Hid (Below w.heap.size w w1) := AW.out.trans (hw.mono (by simp))
  obtain ⟨c0, c1, c2⟩ := (BX.out.below hw (by simp)).c
  clear hw BX AW
  cases hv : validB n s r with
  | false =>
    have HE : Hid (colsR n s r c = []) := colsR_no (by rw [hv]; simp)
    clear hv
    go_wp2
    go_ret
    exact ⟨_, rfl, by rw [HE.out]; exact OwnI.nil _ _ _, AW1.out⟩
  | true =>
    by_cases h1 : c < 0
    · have HE : Hid (colsR n s r c = []) := colsR_no (by rw [show basic.inB c 0 8 = false from decide_eq_false (by omega)]; simp)
      clear hv
      go_wp2
      go_ret
      exact ⟨_, rfl, by rw [HE.out]; exact OwnI.nil _ _ _, AW1.out⟩
    by_cases h2 : 8 < c
    · have HE : Hid (colsR n s r c = []) := colsR_no (by rw [show basic.inB c 0 8 = false from decide_eq_false (by omega)]; simp)
      clear hv
      go_wp2
      go_ret
      exact ⟨_, rfl, by rw [HE.out]; exact OwnI.nil _ _ _, AW1.out⟩
    obtain ⟨N, rfl, hN1, hN8, hsN, hrN⟩ := valid_size hv
    obtain ⟨C, rfl, hC⟩ : ∃ C : Nat, c = C ∧ C ≤ 8 := ⟨c.toNat, by omega, by omega⟩
    have HE : Hid (colsR N s r C = cols [⟨N, s, r⟩] C) := colsR_yes hv hC
    have HH : Hid (Fit ⟨N, s, r⟩) := ⟨hN1, hN8, hsN, hrN⟩
    have t1 : ((C : Int) > 8) = False := by simp; omega
    clear hv hsN hrN h1 h2
    go_wp2_with fail
    refine (after_one _ _ N C s r rfl HH.out (by omega)).mono ?_
    rintro e w2 ⟨v, rfl, ho, hb⟩
    have R : Hid (OwnI 3 w2 w.heap.size v (colsR N s r C) ∧ Below w.heap.size w w2) := ⟨by rw [HE.out]; exact ho.mono AW1.out.size, AW1.out.trans (hb.mono AW1.out.size)⟩
    clear ho hb c0 c1 c2 t1
    go_wp2
    go_ret
    exact ⟨_, rfl, R.out⟩

end Go.Proofs.YtpcnoiigbmiejaaGreatDoor.coli

/- FnHanf in plain words. -/
namespace Go.Proofs.YtpcnoiigbmiejaaGreatDoor.hanfb
set_option linter.unusedVariables false
set_option linter.unusedSimpArgs false
open Go.Proofs.YtpcnoiigbmiejaaGreatDoor.base Go.Proofs.YtpcnoiigbmiejaaGreatDoor.near Go.Proofs.YtpcnoiigbmiejaaGreatDoor.dist Go.Proofs.YtpcnoiigbmiejaaGreatDoor.ball Go.Proofs.YtpcnoiigbmiejaaGreatDoor.same Go.Proofs.YtpcnoiigbmiejaaGreatDoor.around Go.Proofs.YtpcnoiigbmiejaaGreatDoor.emb Go.Proofs.YtpcnoiigbmiejaaGreatDoor.narrow Go.Proofs.YtpcnoiigbmiejaaGreatDoor.game Go.Proofs.YtpcnoiigbmiejaaGreatDoor.sbs

theorem cnt_mono (q : Nat → Bool) {j k : Nat} (h : j ≤ k) : sbs.cnt q j ≤ sbs.cnt q k := by
  induction k with
  | zero => obtain rfl : j = 0 := by omega
            exact Nat.le_refl _
  | succ k ih =>
    by_cases e : j = k + 1
    · subst e; exact Nat.le_refl _
    · have := ih (by omega)
      cases hq : q k with
      | true => rw [cnt_yes hq]; omega
      | false => rw [cnt_no hq]; exact this
theorem cnt_congr {p q : Nat → Bool} {n : Nat} (h : ∀ y, y < n → p y = q y) : ∀ k, k ≤ n → sbs.cnt p k = sbs.cnt q k
  | 0, _ => rfl
  | k + 1, hk => by
    have := cnt_congr h k (by omega)
    have e := h k (by omega)
    cases hp : p k with
    | true => rw [cnt_yes hp, cnt_yes (by rw [← e]; exact hp), this]
    | false => rw [cnt_no hp, cnt_no (by rw [← e]; exact hp), this]
/-- equal counts of each kind make a pairing -/
theorem pairing {N : Nat} {p q : Nat → Nat → Bool} (hr : ∀ x, x < N → p x x = true) (hpp : ∀ x x', x < N → x' < N → p x x' = true → ∀ y, y < N → p x y = p x' y)
    (hpq : ∀ x x', x < N → x' < N → p x x' = true → ∀ y, y < N → q x y = q x' y) (hqq : ∀ x x' y, x < N → x' < N → y < N → q x y = true → q x' y = true → p x x' = true)
    (hc : ∀ x, x < N → sbs.cnt (p x) N = sbs.cnt (q x) N) : ∃ g : Nat → Nat, (∀ u, u < N → g u < N ∧ q u (g u) = true) ∧ ∀ u v, u < N → v < N → g u = g v → u = v := by
  have hL : ∀ x, x < N → sbs.cnt (p x) x < ((List.range N).filter (q x)).length := fun x hx => by
    have h1 : sbs.cnt (p x) (x + 1) ≤ sbs.cnt (p x) N := cnt_mono _ (by omega)
    rw [cnt_yes (hr x hx), hc x hx] at h1
    exact h1
  obtain ⟨g, hg⟩ : ∃ g : Nat → Nat, ∀ x, g x = ((List.range N).filter (q x)).getD (sbs.cnt (p x) x) 0 := ⟨_, fun _ => rfl⟩
  have hm : ∀ x, x < N → g x ∈ (List.range N).filter (q x) := fun x hx => by
    rw [hg, List.getD_eq_getElem?_getD, List.getElem?_eq_getElem (hL x hx)]
    exact List.getElem_mem _
  have hm2 : ∀ x, x < N → g x < N ∧ q x (g x) = true := fun x hx => by
    obtain ⟨a, b⟩ := List.mem_filter.1 (hm x hx)
    exact ⟨List.mem_range.1 a, b⟩
  have key : ∀ u v, u < N → v < N → u < v → g u ≠ g v := fun u v hu hv huv e => by
    have hp := hqq u v (g u) hu hv (hm2 u hu).1 (hm2 u hu).2 (by rw [e]; exact (hm2 v hv).2)
    have hf : (List.range N).filter (q u) = (List.range N).filter (q v) := List.filter_congr fun y hy => hpq u v hu hv hp y (List.mem_range.1 hy)
    have e2 : ((List.range N).filter (q u)).getD (sbs.cnt (p u) u) 0 = ((List.range N).filter (q u)).getD (sbs.cnt (p v) v) 0 := by
      rw [← hg, e, hg, hf]
    have l1 := hL u hu
    have l2 := hL v hv
    rw [← hf] at l2
    rw [List.getD_eq_getElem?_getD, List.getD_eq_getElem?_getD, List.getElem?_eq_getElem l1, List.getElem?_eq_getElem l2] at e2
    have e3 := (List.getElem_inj (h₀ := l1) (h₁ := l2) (List.nodup_range.filter _)).1 e2
    have e4 : sbs.cnt (p v) (u + 1) ≤ sbs.cnt (p v) v := cnt_mono _ (by omega)
    have pv : p v u = true := by
      have := hpp u v hu hv hp u hu
      rw [← this]; exact hr u hu
    rw [cnt_yes pv] at e4
    have e5 : sbs.cnt (p u) u = sbs.cnt (p v) u := cnt_congr (fun y hy => hpp u v hu hv hp y hy) u (by omega)
    omega
  refine ⟨g, hm2, fun u v hu hv e => ?_⟩
  rcases Nat.lt_trichotomy u v with h | h | h
  · exact absurd e (key u v hu hv h)
  · exact h
  · exact absurd e.symm (key v u hv hu h)
/-- a pairing makes counts equal -/
theorem counts {N : Nat} {p q : Nat → Bool} {g h : Nat → Nat} (hg : ∀ u, u < N → p u = true → g u < N ∧ q (g u) = true) (gi : ∀ u v, u < N → v < N → g u = g v → u = v)
    (hh : ∀ u, u < N → q u = true → h u < N ∧ p (h u) = true) (hi : ∀ u v, u < N → v < N → h u = h v → u = v) : sbs.cnt p N = sbs.cnt q N := by
  have one : ∀ {p q : Nat → Bool} {g : Nat → Nat}, (∀ u, u < N → p u = true → g u < N ∧ q (g u) = true) → (∀ u v, u < N → v < N → g u = g v → u = v) → sbs.cnt p N ≤ sbs.cnt q N := fun {p q g} hg gi => by
    unfold sbs.cnt
    have nd : (((List.range N).filter p).map g).Nodup := by
      rw [List.nodup_iff_pairwise_ne, List.pairwise_map]
      refine (List.nodup_iff_pairwise_ne.1 (List.nodup_range.filter _)).imp_of_mem ?_
      intro a b ha hb hab e
      exact hab (gi a b (List.mem_range.1 (List.mem_filter.1 ha).1) (List.mem_range.1 (List.mem_filter.1 hb).1) e)
    have := game.len_le nd (M := (List.range N).filter q) fun z hz => by
      obtain ⟨u, hu, rfl⟩ := List.mem_map.1 hz
      obtain ⟨a, b⟩ := List.mem_filter.1 hu
      obtain ⟨c, d⟩ := hg u (List.mem_range.1 a) b
      exact List.mem_filter.2 ⟨List.mem_range.2 c, d⟩
    rw [List.length_map] at this
    exact this
  exact Nat.le_antisymm (one hg gi) (one hh hi)
/-- the structure by its bits -/
def gr (N : Nat) (s r : ByteArray) : Gr := ⟨N, bitAt s, fun x y => bitAt r (x * N + y)⟩
theorem mid_wi {N : Nat} {s r : ByteArray} {x z k : Nat} (hx : x < N) : z ∈ midN N r x k ↔ Wi (gr N s r) k x z := by
  rw [mem_mid hx (by omega)]
  constructor
  · rintro ⟨a, j, hj, h⟩; exact ⟨a, j, by omega, h⟩
  · rintro ⟨a, j, hj, h⟩; exact ⟨a, j, by omega, h⟩
theorem same_loc {N : Nat} {sa ra : ByteArray} {x M : Nat} {sb rb : ByteArray} {y k : Nat} (hx : x < N) (hy : y < M) (h : sameB N sa ra x M sb rb y k = true) : Same (gr N sa ra) (gr M sb rb) k x y := by
  obtain ⟨f, e, h1, h2, h3, h4, h5⟩ := same_out h
  have mA : ∀ {i}, Wi (gr N sa ra) k x i → i ∈ midN N ra x k := fun hi => (mid_wi hx).2 hi
  have mB : ∀ {i}, Wi (gr M sb rb) k y i → i ∈ midN M rb y k := fun hi => (mid_wi hy).2 hi
  refine ⟨f, ⟨fun i hi => hi.1, fun i hi => hi.1, fun i hi => (mid_wi hy).1 (h1 i (mA hi)), fun i j hi hj => h2 i j (mA hi) (mA hj), fun i hi => (h3 i (mA hi)).symm, fun i j hi hj => (h4 i j (mA hi) (mA hj)).symm, fun z hz => ?_⟩, e⟩
  obtain ⟨u, hu, e2⟩ := h5 z (mB hz)
  exact ⟨u, (mid_wi hx).1 hu, e2⟩
/-- what the law asks, where there are as many balls of each shape -/
structure Fact (N : Nat) (s r t q : ByteArray) (rad : Nat) : Prop where
  n1 : 1 ≤ N
  n8 : N ≤ 8
  r100 : rad ≤ 100
  va : validB N s r = true
  vb : validB N t q = true
  z : (s.size = N ∧ r.size = N * N) ∧ t.size = N ∧ q.size = N * N
  turned : sbsR N t q N s r rad = true
  less : rad ≠ 0 → sbsR N s r N t q ((rad : Int) - 1) = true
  win : ∀ k, rf k ≤ rad → Win (gr N s r) (gr N t q) k []
theorem bij_of {N : Nat} {s r t q : ByteArray} {rad : Nat} (hb : ∀ x, x < N → balls N s r t q rad x = true) :
    ∃ g : Nat → Nat, (∀ u, u < N → g u < N ∧ sameB N s r u N t q (g u) rad = true) ∧ ∀ u v, u < N → v < N → g u = g v → u = v := by
  have tr : ∀ {a b c : Bool}, (a = true → b = true → c = true) → (a = true → c = true → b = true) → a = true → b = c := fun h1 h2 ha => by
    rw [Bool.eq_iff_iff]; exact ⟨h1 ha, h2 ha⟩
  refine pairing (p := fun x y => sameB N s r x N s r y rad) (q := fun x y => sameB N s r x N t q y rad) (fun x _ => sameB_refl _ _ _ _ _) (fun x x' _ _ h y _ => tr (fun h1 h2 => sameB_trans (sameB_symm h1) h2) (fun h1 h2 => sameB_trans h1 h2) h) (fun x x' _ _ h y _ => tr (fun h1 h2 => sameB_trans (sameB_symm h1) h2) (fun h1 h2 => sameB_trans h1 h2) h) (fun x x' y _ _ _ h1 h2 => sameB_trans h1 (sameB_symm h2)) (fun x hx => ?_)
  have := hb x hx
  unfold balls at this
  exact of_decide_eq_true (by simpa using this)
theorem balls_of {N : Nat} {s r t q : ByteArray} {rad : Int} {g h : Nat → Nat} (hg : ∀ u, u < N → g u < N ∧ sameB N s r u N t q (g u) rad = true) (gi : ∀ u v, u < N → v < N → g u = g v → u = v)
    (hh : ∀ u, u < N → h u < N ∧ sameB N t q u N s r (h u) rad = true) (hi : ∀ u v, u < N → v < N → h u = h v → u = v) (x : Nat) : balls N s r t q rad x = true := by
  unfold balls
  rw [beq_iff_eq]
  refine counts (g := g) (h := h) (fun u hu hp => ⟨(hg u hu).1, sameB_trans hp (hg u hu).2⟩) gi (fun u hu hp => ⟨(hh u hu).1, sameB_trans hp (hh u hu).2⟩) hi
theorem fact {n : Int} {s r : ByteArray} {m : Int} {t q : ByteArray} {rad : Int} (h : sbsR n s r m t q rad = true) : ∃ N R : Nat, n = N ∧ m = N ∧ rad = R ∧ Fact N s r t q R := by
  unfold sbsR at h
  simp only [Bool.and_eq_true, decide_eq_true_eq] at h
  obtain ⟨hva, hvb, hin, hnm, hall⟩ := h
  subst hnm
  obtain ⟨N, rfl, n1, n8, zs, zr⟩ := prod.valid_size hva
  obtain ⟨N', e, _, _, zt, zq⟩ := prod.valid_size hvb
  obtain rfl : N' = N := by omega
  have hin := of_decide_eq_true hin
  obtain ⟨R, rfl⟩ : ∃ R : Nat, rad = R := ⟨rad.toNat, by omega⟩
  have hall : ∀ x, x < N' → balls N' s r t q R x = true := fun x hx => List.all_eq_true.1 hall x (List.mem_range.2 hx)
  obtain ⟨g, hg, gi⟩ := bij_of hall
  -- the other way round
  have nd : ((List.range N').map g).Nodup := by
    rw [List.nodup_iff_pairwise_ne, List.pairwise_map]
    refine (List.nodup_iff_pairwise_ne.1 List.nodup_range).imp_of_mem ?_
    intro a b ha hb hab e
    exact hab (gi a b (List.mem_range.1 ha) (List.mem_range.1 hb) e)
  have sur : ∀ z, ∃ u, z < N' → u < N' ∧ g u = z := fun z => by
    by_cases hz : z < N'
    · have := game.all_in nd (M := List.range N') (fun y hy => by
        obtain ⟨u, hu, rfl⟩ := List.mem_map.1 hy
        exact List.mem_range.2 (hg u (List.mem_range.1 hu)).1) (by simp) (List.mem_range.2 hz)
      obtain ⟨u, hu, e⟩ := List.mem_map.1 this
      exact ⟨u, fun _ => ⟨List.mem_range.1 hu, e⟩⟩
    · exact ⟨0, fun h => absurd h hz⟩
  obtain ⟨k, hk⟩ : ∃ k : Nat → Nat, ∀ z, z < N' → k z < N' ∧ g (k z) = z := ⟨fun z => (sur z).choose, fun z hz => (sur z).choose_spec hz⟩
  have ki : ∀ u v, u < N' → v < N' → k u = k v → u = v := fun u v hu hv e => by rw [← (hk u hu).2, ← (hk v hv).2, e]
  have kh : ∀ u, u < N' → k u < N' ∧ sameB N' t q u N' s r (k u) R = true := fun u hu => by
    obtain ⟨a, b⟩ := hk u hu
    have := (hg _ a).2
    rw [b] at this
    exact ⟨a, sameB_symm this⟩
  have small : ∀ R' : Nat, R' ≤ R → ∀ u, u < N' → g u < N' ∧ sameB N' s r u N' t q (g u) R' = true := fun R' hR' u hu => ⟨(hg u hu).1, narrow.less hu (hg u hu).1 (by omega) (by omega) (hg u hu).2⟩
  have smallk : ∀ R' : Nat, R' ≤ R → ∀ u, u < N' → k u < N' ∧ sameB N' t q u N' s r (k u) R' = true := fun R' hR' u hu => ⟨(kh u hu).1, narrow.less hu (kh u hu).1 (by omega) (by omega) (kh u hu).2⟩
  have mk : ∀ {s r t q : ByteArray} {rad : Int}, validB N' s r = true → validB N' t q = true → basic.inB rad 0 100 = true → (∀ x, balls N' s r t q rad x = true) → sbsR N' s r N' t q rad = true := fun h1 h2 h3 h4 => by
    unfold sbsR
    rw [h1, h2, h3]
    simp only [Bool.true_and, decide_true]
    exact List.all_eq_true.2 fun x _ => h4 x
  refine ⟨N', R, rfl, rfl, rfl, n1, n8, by omega, hva, hvb, ⟨⟨zs, zr⟩, zt, zq⟩, mk hvb hva (decide_eq_true (by omega)) (balls_of kh ki hg gi), fun h0 => ?_, fun K hK => hanf_start (A := gr N' s r) (B := gr N' t q) rfl fun j hj => ?_⟩
  · have e1 : ((R : Int) - 1) = ((R - 1 : Nat) : Int) := by omega
    rw [e1]
    exact mk hva hvb (decide_eq_true (by omega)) (balls_of (small (R - 1) (by omega)) gi (smallk (R - 1) (by omega)) ki)
  · have hrf : ∀ a b, a ≤ b → rf a ≤ rf b := fun a b hab => by
      induction b with
      | zero => obtain rfl : a = 0 := by omega
                exact Nat.le_refl _
      | succ b ih =>
        by_cases e : a = b + 1
        · subst e; exact Nat.le_refl _
        · have := ih (by omega)
          show rf a ≤ 3 * rf b + 1
          omega
    have := hrf j K (by omega)
    exact ⟨g, fun u hu => ⟨(hg u hu).1, same_loc hu (hg u hu).1 (small (rf j) (by omega) u hu).2⟩, gi⟩
end Go.Proofs.YtpcnoiigbmiejaaGreatDoor.hanfb

/- FnBallsShape in plain words: structures of one shape have the same balls, and one piece whose balls are known is known. -/
namespace Go.Proofs.YtpcnoiigbmiejaaGreatDoor.bsh
set_option linter.unusedVariables false
set_option linter.unusedSimpArgs false
open Go.Proofs.YtpcnoiigbmiejaaGreatDoor.base Go.Proofs.YtpcnoiigbmiejaaGreatDoor.near Go.Proofs.YtpcnoiigbmiejaaGreatDoor.dist Go.Proofs.YtpcnoiigbmiejaaGreatDoor.ball Go.Proofs.YtpcnoiigbmiejaaGreatDoor.cls Go.Proofs.YtpcnoiigbmiejaaGreatDoor.pieces Go.Proofs.YtpcnoiigbmiejaaGreatDoor.emb Go.Proofs.YtpcnoiigbmiejaaGreatDoor.game Go.Proofs.YtpcnoiigbmiejaaGreatDoor.hanfb Go.Proofs.YtpcnoiigbmiejaaGreatDoor.same Go.Proofs.YtpcnoiigbmiejaaGreatDoor.val Go.Proofs.YtpcnoiigbmiejaaGreatDoor.sbs Go.Proofs.YtpcnoiigbmiejaaGreatDoor.fits Go.Proofs.YtpcnoiigbmiejaaGreatDoor.shape

theorem iso_same {n : Nat} {s r t q : ByteArray} {o : List Nat} (h : Iso n s r t q o) {x : Nat} (hx : x < n) (rad : Int) : sameB n t q x n s r (o.getD x 0) rad = true :=
  Emb.same (f := fun i => o.getD i 0) { lt := h.lt, inj := h.inj, s := fun i hi => h.s i hi, r := fun i j hi hj => h.r i j hi hj, out := fun i z _ hz _ => h.onto hz } hx
/-- one shape: the same balls -/
theorem shape_is {n : Int} {s r : ByteArray} {m : Int} {t q : ByteArray} {rad : Int} (h : shpR n s r m t q = true) (h0 : 0 ≤ rad) (h100 : rad ≤ 100) : sbsR n s r m t q rad = true := by
  obtain ⟨hva, hvb, hnm, o, ho⟩ := shpR_iff.1 h
  obtain ⟨k, hk⟩ : ∃ k : Nat → Nat, ∀ u, u < n.toNat → k u < n.toNat ∧ o.getD (k u) 0 = u := by
    have : ∀ u, ∃ i, u < n.toNat → i < n.toNat ∧ o.getD i 0 = u := fun u => by
      by_cases hu : u < n.toNat
      · obtain ⟨i, hi, e⟩ := ho.onto hu
        exact ⟨i, fun _ => ⟨hi, e⟩⟩
      · exact ⟨0, fun h => absurd h hu⟩
    exact ⟨fun u => (this u).choose, fun u hu => (this u).choose_spec hu⟩
  have ki : ∀ u v, u < n.toNat → v < n.toNat → k u = k v → u = v := fun u v hu hv e => by rw [← (hk u hu).2, ← (hk v hv).2, e]
  unfold sbsR
  rw [hva, hvb]
  simp only [Bool.true_and, Bool.and_eq_true, decide_eq_true_eq]
  refine ⟨decide_eq_true ⟨h0, h100⟩, hnm, List.all_eq_true.2 fun x _ => ?_⟩
  refine balls_of (g := k) (h := fun i => o.getD i 0) (fun u hu => ⟨(hk u hu).1, ?_⟩) ki (fun u hu => ⟨ho.lt u hu, iso_same ho hu rad⟩) ho.inj x
  have := iso_same ho (hk u hu).1 rad
  rw [(hk u hu).2] at this
  exact sameB_symm this
/-- one piece, and a radius that reaches all -/
theorem is_shape {N : Nat} {s r t q : ByteArray} {R : Nat} (h : sbsR N s r N t q R = true) (hR : 8 ≤ R) (hp : ∀ x, x < N → (clsOf (conn N r) N).1.getD x 0 = 0) : shpR N s r N t q = true := by
  obtain ⟨N', R', e1, _, e3, hf⟩ := hanfb.fact h
  obtain rfl : N = N' := by omega
  obtain rfl : R = R' := by omega
  have n8 := hf.n8
  have n1 := hf.n1
  have hall : ∀ x, x < N → balls N s r t q R x = true := by
    unfold sbsR at h
    simp only [Bool.and_eq_true, decide_eq_true_eq] at h
    exact fun x hx => List.all_eq_true.1 h.2.2.2.2 x (List.mem_range.2 hx)
  obtain ⟨g, hg, gi⟩ := bij_of hall
  obtain ⟨f, hl, f0⟩ := same_loc (k := R) n1 (hg 0 n1).1 (hg 0 n1).2
  -- all are within reach
  have reach : ∀ y, y < N → Wi (gr N s r) R 0 y := fun y hy => by
    have hm := one_piece n1 hy (by rw [hp 0 n1, hp y hy])
    obtain ⟨d0, d1⟩ := (ball_mem hy).1 hm
    obtain ⟨k, hk, hrk⟩ := (in_rk n1 hy).1 ⟨d0, d1⟩
    have hnb : near.adj N r = Nb (gr N s r) := by
      funext a b
      unfold near.adj Nb gr
      rfl
    exact ⟨hy, k, by omega, by rw [hnb] at hrk; exact hrk⟩
  have flt : ∀ i, i < N → f i < N := fun i hi => hl.en _ (hl.to i (reach i hi))
  have fin : ∀ i j, i < N → j < N → f i = f j → i = j := fun i j hi hj e => hl.inj i j (reach i hi) (reach j hj) e
  -- f is onto
  have onto : ∀ z, z < N → ∃ i, i < N ∧ f i = z := fun z hz => by
    have hn : ((List.range N).map f).Nodup := by
      rw [List.nodup_iff_pairwise_ne, List.pairwise_map]
      exact (List.nodup_iff_pairwise_ne.1 List.nodup_range).imp_of_mem fun {a b} ha hb hne e => hne (fin a b (List.mem_range.1 ha) (List.mem_range.1 hb) e)
    have hm := all_in (L := (List.range N).map f) (M := List.range N) hn (fun x hx => by
      obtain ⟨i, hi, rfl⟩ := List.mem_map.1 hx
      exact List.mem_range.2 (flt i (List.mem_range.1 hi))) (by simp) (List.mem_range.2 hz)
    obtain ⟨i, hi, e⟩ := List.mem_map.1 hm
    exact ⟨i, List.mem_range.1 hi, e⟩
  obtain ⟨k, hk⟩ : ∃ k : Nat → Nat, ∀ u, u < N → k u < N ∧ f (k u) = u := by
    have : ∀ u, ∃ i, u < N → i < N ∧ f i = u := fun u => by
      by_cases hu : u < N
      · obtain ⟨i, hi, e⟩ := onto u hu
        exact ⟨i, fun _ => ⟨hi, e⟩⟩
      · exact ⟨0, fun h => absurd h hu⟩
    exact ⟨fun u => (this u).choose, fun u hu => (this u).choose_spec hu⟩
  have get : ∀ i, i < N → ((List.range N).map k).getD i 0 = k i := fun i hi => by
    rw [List.getD_eq_getElem?_getD, List.getElem?_map, List.getElem?_range hi]; rfl
  refine shpR_iff.2 ⟨hf.va, hf.vb, rfl, (List.range N).map k, ?_⟩
  show Iso N s r t q _
  refine { len := by simp, lt := fun i hi => by rw [get i hi]; exact (hk i hi).1, inj := fun i j hi hj e => ?_, s := fun i hi => ?_, r := fun i j hi hj => ?_ }
  · rw [get i hi, get j hj] at e
    rw [← (hk i hi).2, ← (hk j hj).2, e]
  · rw [get i hi]
    have := hl.S (k i) (reach _ (hk i hi).1)
    rw [(hk i hi).2] at this
    exact this
  · rw [get i hi, get j hj]
    have := hl.R (k i) (k j) (reach _ (hk i hi).1) (reach _ (hk j hj).1)
    rw [(hk i hi).2, (hk j hj).2] at this
    exact this
end Go.Proofs.YtpcnoiigbmiejaaGreatDoor.bsh

/- FnBallsShape in plain words: elements of one ball class have one colour at first. -/
namespace Go.Proofs.YtpcnoiigbmiejaaGreatDoor.bshc
set_option linter.unusedVariables false
set_option linter.unusedSimpArgs false
open Go.Proofs.YtpcnoiigbmiejaaGreatDoor.base Go.Proofs.YtpcnoiigbmiejaaGreatDoor.cls Go.Proofs.YtpcnoiigbmiejaaGreatDoor.pieces Go.Proofs.YtpcnoiigbmiejaaGreatDoor.same Go.Proofs.YtpcnoiigbmiejaaGreatDoor.narrow Go.Proofs.YtpcnoiigbmiejaaGreatDoor.col Go.Proofs.YtpcnoiigbmiejaaGreatDoor.colp Go.Proofs.YtpcnoiigbmiejaaGreatDoor.colq Go.Proofs.YtpcnoiigbmiejaaGreatDoor.sbc Go.Proofs.YtpcnoiigbmiejaaGreatDoor.specd Go.Proofs.YtpcnoiigbmiejaaGreatDoor.sbs Go.Proofs.YtpcnoiigbmiejaaGreatDoor.shape

theorem class_at {N R : Nat} {s r : ByteArray} (hv : validB N s r = true) (hR : R ≤ 100) : classR N s r R = (clsOf (shp N s r R) N).1 := by
  unfold classR
  rw [if_pos hv, if_pos (show basic.inB (R : Int) 0 100 = true from decide_eq_true (by omega))]; rfl
theorem colour_at {N R : Nat} {s r : ByteArray} {x y : Nat} (hv : validB N s r = true) (hR : R ≤ 100) (hx : x < N) (hy : y < N) (h : (classR N s r R).getD x 0 = (classR N s r R).getD y 0) : (colsR N s r 0).getD x 0 = (colsR N s r 0).getD y 0 := by
  rw [class_at hv hR] at h
  have hs := (cls_iff (shp_eqv N s r R) N (Nat.le_refl _) x y hx hy).1 h
  have hs : sameB N s r x N s r y R = true := hs
  obtain ⟨e1, e2⟩ := same_mid hs
  have e0 := colsR_yes (C := 0) hv (Nat.zero_le _)
  have e0 : colsR N s r 0 = cols [⟨N, s, r⟩] 0 := e0
  rw [e0]
  show (nums (firsts [⟨N, s, r⟩])).getD x 0 = (nums (firsts [⟨N, s, r⟩])).getD y 0
  rw [nums_at (f_one (a := ⟨N, s, r⟩) hx), nums_at (f_one (a := ⟨N, s, r⟩) hy)]
  have : d0 ⟨N, s, r⟩ x = d0 ⟨N, s, r⟩ y := by
    unfold d0
    rw [show bitAt s x = bitAt s y from e1.symm, show bitAt r (x * N + x) = bitAt r (y * N + y) from e2.symm]
  rw [this]
/-- the pieces' numbers -/
theorem piece_at {N : Nat} {s r : ByteArray} (hv : validB N s r = true) : piecesR N s r = (clsOf (conn N r) N).1 := by
  unfold piecesR
  rw [if_pos hv]; rfl
structure Fact (N R : Nat) (s r : ByteArray) (m : Int) (t q : ByteArray) : Prop where
  n1 : 1 ≤ N
  n8 : N ≤ 8
  col : ∀ x y, x < N → y < N → (classR N s r R).getD x 0 = (classR N s r R).getD y 0 → (colsR N s r 0).getD x 0 = (colsR N s r 0).getD y 0
  cl : (classR N s r R).length = N
  ol : (colsR N s r 0).length = N
  pl : (piecesR N s r).length = N
  pp : ∀ x, x < N → 0 ≤ (piecesR N s r).getD x 0
  sh : shpR N s r m t q = true → sbsR N s r m t q R = true
  wh : 8 ≤ R → (∀ x, x < N → (piecesR N s r).getD x 0 = 0) → sbsR N s r m t q R = shpR N s r m t q
theorem fact {n : Int} {s r : ByteArray} {m : Int} {t q : ByteArray} {rad : Int} (hv : validB n s r = true) (h0 : 0 ≤ rad) (h100 : rad ≤ 100) : ∃ N R : Nat, n = N ∧ rad = R ∧ Fact N R s r m t q := by
  obtain ⟨N, rfl, n1, n8, _, _⟩ := shape.valid_size' hv
  obtain ⟨R, rfl⟩ : ∃ R : Nat, rad = R := ⟨rad.toNat, by omega⟩
  have hR : R ≤ 100 := by omega
  have ol : (colsR N s r 0).length = N := by
    have e0 : colsR N s r 0 = cols [⟨N, s, r⟩] 0 := colsR_yes (C := 0) hv (Nat.zero_le _)
    rw [e0, one_len]
  refine ⟨N, R, rfl, rfl, { n1 := n1, n8 := n8, col := fun x y hx hy h => colour_at hv hR hx hy h, cl := by rw [class_at hv hR]; exact (cls_len _ _).1, ol := ol, pl := by rw [piece_at hv]; exact (cls_len _ _).1, pp := fun x hx => by rw [piece_at hv]; exact (cls_bounds _ N x hx).1, sh := fun h => bsh.shape_is h h0 h100, wh := fun h8 hp => ?_ }⟩
  cases hs : shpR N s r m t q with
  | true => rw [bsh.shape_is hs h0 h100]
  | false =>
    cases hi : sbsR N s r m t q R with
    | false => rfl
    | true =>
      obtain ⟨N', R', e1, e2, e3, hf⟩ := hanfb.fact hi
      obtain rfl : N = N' := by omega
      obtain rfl : m = (N : Int) := e2
      rw [bsh.is_shape hi h8 (fun x hx => by rw [← piece_at hv]; exact hp x hx)] at hs
      cases hs
end Go.Proofs.YtpcnoiigbmiejaaGreatDoor.bshc
