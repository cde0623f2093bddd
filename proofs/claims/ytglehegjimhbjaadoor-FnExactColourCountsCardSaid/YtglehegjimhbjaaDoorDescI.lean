/- describeColour of the program: an element's description by the colours of all. -/
import Derived.Test.YtglehegjimhbjaaDoorWays
import Derived.Test.YtglehegjimhbjaaDoorSortI
import Derived.Test.YtglehegjimhbjaaDoorChain
namespace Go.Proofs.YtglehegjimhbjaaDoor.desci
set_option linter.unusedVariables false
set_option linter.unusedSimpArgs false
open Go.ChangeShapes Go.WideShapes Go.ChangeAt Go.RowKit
open Go.Proofs.YtglehegjimhbjaaDoor.lib Go.Proofs.YtglehegjimhbjaaDoor.st Go.Proofs.YtglehegjimhbjaaDoor.base Go.Proofs.YtglehegjimhbjaaDoor.col Go.Proofs.YtglehegjimhbjaaDoor.sll Go.Proofs.YtglehegjimhbjaaDoor.descr Go.Proofs.YtglehegjimhbjaaDoor.ways Go.Proofs.YtglehegjimhbjaaDoor.cmp Go.Proofs.YtglehegjimhbjaaDoor.flow Go.Proofs.YtglehegjimhbjaaDoor.chain

theorem ways_no {w : World} {HW HB : Nat} {V : Nat → Value} {a : St} {c : List Int} {x y : Nat} (h : Ways w HW HB V (fun k => way a c x k y)) (hy : y = x) : Ways w HW HB V (fun k => way a c x k (y + 1)) :=
  h.congr fun k _ => (way_no (.inl hy)).symm
theorem ways_yes {w w9 : World} {HW HB K : Nat} {V : Nat → Value} {a : St} {c : List Int} {x y : Nat} {u : Value} (h : Ways w HW HB V (fun k => way a c x k y)) (hK : K < 4) (hB : HB ≤ w.heap.size) (hg : Grew w w9 (V K) u) (hu : OwnI 3 w9 HB u (way a c x K y ++ [c.getD y 0])) (hy : y ≠ x) (hk : kindOf a x y = K) :
    ∃ V2, Ways (w9.setCell ⟨HW, K, none⟩ u) HW HB V2 (fun k => way a c x k (y + 1)) :=
  ⟨_, (h.put hK hB hg hu (by simp)).congr fun k _ => by
    by_cases e : k = K
    · subst e; rw [if_pos rfl, way_yes hy hk]
    · rw [if_neg e, way_no (.inr fun e2 => e (by rw [← e2, hk]))]⟩

set_option maxHeartbeats 6400000 in
set_option maxRecDepth 100000 in
theorem describe_any (N : Nat) (s r : ByteArray) (c : List Int) (v : Value) (x : Nat) (w : World) (hx : x < N) (hn : N ≤ 8) (hr : r.size = N * N) (hv : Reads w v c) (hc : c.length = N) :
    Calls Tryd.prog 43 #[.agg #[.int .i64 N, .string s, .string r], .int .i64 x, v] w fun e w' => ∃ v0, e = .returned v0 ∧ OwnI 3 w' w.heap.size v0 (desc ⟨N, s, r⟩ c x) ∧ Below w.heap.size w w' := by
  obtain ⟨ao, cap, rfl⟩ := hv.len
  rw [hc] at hv ⊢
  obtain ⟨b, off, rfl, hbw, hcell⟩ := int_spot hv hc.symm (by omega)
  obtain ⟨W1, hW1⟩ : ∃ W1, W1 = w.alloc (.cells #[.int .i64 N, .string s, .string r] 28) := ⟨_, rfl⟩
  obtain ⟨W2, hW2⟩ : ∃ W2, W2 = W1.alloc (.cells #[.slice none 0 0, .slice none 0 0, .slice none 0 0, .slice none 0 0] 66) := ⟨_, rfl⟩
  have Z1 : W1.heap.size = w.heap.size + 1 := by rw [hW1]; simp
  have A2 : Below W1.heap.size W1 W2 := by rw [hW2]; exact (Below.refl _ _).alloc (Nat.le_refl _) _
  obtain ⟨HW, hHW⟩ : ∃ HW, HW = w.heap.size + 1 := ⟨_, rfl⟩
  obtain ⟨HB, hHB⟩ : ∃ HB, HB = w.heap.size + 2 := ⟨_, rfl⟩
  have START : Hid (Ways W2 HW HB (fun _ => .slice none 0 0) (fun k => way ⟨N, s, r⟩ c x k 0) ∧ Box 28 W2 w.heap.size N s r ∧ Below w.heap.size w W2 ∧ HB ≤ W2.heap.size) := by
    refine ⟨?_, ?_, ?_, ?_⟩
    · rw [hW2]; exact Ways.start W1 HW HB _ (by omega) (by omega)
    · have hb : Box 28 W1 w.heap.size N s r := by rw [hW1]; exact Box.new _ w _ rfl _ _ _
      exact hb.below A2 (by omega)
    · have h1 : Below w.heap.size w W1 := by rw [hW1]; exact (Below.refl _ _).alloc (Nat.le_refl _) _
      exact h1.trans (A2.mono (by omega))
    · rw [hW2, hHB]; simp; omega
  have HH := Lib.hid (show _ ∧ _ from ⟨hHW, hHB⟩)
  have HC := Lib.hid hcell
  have HR := Lib.hid (show _ ∧ _ from ⟨hr, hc⟩)
  have H1 := Lib.hid hW1
  have H2 := Lib.hid hW2
  have hHWB : w.heap.size < HW ∧ HW < HB := by omega
  clear hv hc hr hcell hW1 hW2 Z1 A2
  go_enter Tryd.func43, Tryd.ntmps43
  go_wp2_with fail
  try rw [← H1.out]
  try rw [← H2.out]
  try rw [← hHW]
  clear hHW hHB
  go_loopw [16] (fun i wr => ∃ (y : Nat) (V : Nat → Value), y ≤ N ∧ i = .int .i64 y ∧ Ways wr HW HB V (fun k => way ⟨N, s, r⟩ c x k y) ∧ Box 28 wr w.heap.size N s r ∧ Below w.heap.size w wr ∧ HB ≤ wr.heap.size) (fun i _ => N - (intOf i).toNat)
  case atStart => exact ⟨0, _, Nat.zero_le _, rfl, START.out⟩
  case round =>
    clear START
    obtain ⟨y, V, hy, rfl, q1, q2, q3, q4⟩ := hrel
    have HQ := Lib.hid (show _ ∧ _ ∧ _ ∧ _ from ⟨q1, q2, q3, q4⟩)
    clear q1 q2 q3 q4
    by_cases hyN : y < N
    · obtain ⟨a0, a1, a2⟩ := HQ.out.2.1.c
      by_cases hyx : y = x
      · have R : Hid (Ways wr HW HB V (fun k => way ⟨N, s, r⟩ c x k (y + 1))) := ways_no HQ.out.1 hyx
        have t1 : ((y : Int) == (x : Int)) = true := by simp; omega
        clear hyx
        go_wp2
        go_roundw
        case rel => exact ⟨y + 1, V, by omega, by go_num, R.out, HQ.out.2⟩
        case measure => simp [intOf]; omega
      · have t1 : ((y : Int) == (x : Int)) = false := by simp; omega
        cases e1 : bitAt r (y * N + x) with
        | false =>
          cases e2 : bitAt r (x * N + y) with
          | false =>
            have hk : kindOf ⟨N, s, r⟩ x y = 0 := by
              unfold kindOf n01
              simp only [e1, e2]; rfl
            have HK := Lib.hid (show _ ∧ _ ∧ _ from ⟨hk, hyx, (show _ ∧ _ from ⟨e1, e2⟩)⟩)
            clear hk hyx e1 e2
            go_wp2_with fail
            refine (inRel_any N s r y x _ hyN hx hn HR.out.1).mono ?_
            rintro e w1 ⟨rfl, hb⟩
            rw [HK.out.2.2.1]
            have HQ1 := Lib.hid (show _ ∧ _ ∧ _ ∧ _ from ⟨HQ.out.1.down hb, HQ.out.2.1.below hb HQ.out.2.1.lt, HQ.out.2.2.1.trans (hb.mono HQ.out.2.2.1.size), Nat.le_trans HQ.out.2.2.2 hb.size⟩)
            clear hb a0 a1 a2 HQ
            obtain ⟨a0, a1, a2⟩ := HQ1.out.2.1.c
            go_wp2_with fail
            refine (inRel_any N s r x y _ hx hyN hn HR.out.1).mono ?_
            rintro e w2 ⟨rfl, hb⟩
            rw [HK.out.2.2.2]
            have HQ2 := Lib.hid (show _ ∧ _ ∧ _ ∧ _ from ⟨HQ1.out.1.down hb, HQ1.out.2.1.below hb HQ1.out.2.1.lt, HQ1.out.2.2.1.trans (hb.mono HQ1.out.2.2.1.size), Nat.le_trans HQ1.out.2.2.2 hb.size⟩)
            clear hb a0 a1 a2 HQ1
            obtain ⟨cy, hcy⟩ : ∃ cy, cy = c.getD y 0 := ⟨_, rfl⟩
            have k1 : w2.cell? ⟨b, off + y, none⟩ = some (.int .i64 cy) := by rw [HQ2.out.2.2.1.cell (p := ⟨b, off + y, none⟩) hbw, hcy]; exact HC.out y hyN
            have k0 := HQ2.out.1.cell 0 (by omega)
            have f0 := HQ2.out.1.free 0
            have OWN : Hid (OwnI 3 w2.drew HB (V 0) (way ⟨N, s, r⟩ c x 0 y)) := (HQ2.out.1.own 0 (by omega)).below ((Below.refl _ _).drew) (Nat.le_refl _)
            have NB : Hid (some HW ≠ (V 0).ownBlock) := fun e => by have := (OWN.out.lt HW e.symm).1; omega
            have hGR : Hid (∀ w9 u, Grew w2.drew w9 (V 0) u → OwnI 3 w9 HB u (way ⟨N, s, r⟩ c x 0 y ++ [cy]) → (∃ V2, Ways (w9.setCell ⟨HW, 0, none⟩ u) HW HB V2 (fun k => way ⟨N, s, r⟩ c x k (y + 1))) ∧ Box 28 (w9.setCell ⟨HW, 0, none⟩ u) w.heap.size N s r ∧ Below w.heap.size w (w9.setCell ⟨HW, 0, none⟩ u) ∧ HB ≤ (w9.setCell ⟨HW, 0, none⟩ u).heap.size) := fun w9 u hg hu => by
              have hd : Below w2.heap.size w2 w2.drew := (Below.refl _ _).drew
              have hb9 : Below HB w2 w9 := (hd.mono HQ2.out.2.2.2).trans (hg.below OWN.out HQ2.out.2.2.2)
              have hb7 : Below HW w2 w9 := hb9.mono (by omega)
              have hb8 : Below HW w2 (w9.setCell ⟨HW, 0, none⟩ u) := hb7.setCell (p := ⟨HW, 0, none⟩) (Nat.le_refl _) _
              refine ⟨?_, HQ2.out.2.1.below hb8 (by omega), HQ2.out.2.2.1.trans (hb8.mono (by omega)), Nat.le_trans HQ2.out.2.2.2 hb8.size⟩
              rw [hcy] at hu
              exact ways_yes (HQ2.out.1.down hd) (by omega) HQ2.out.2.2.2 hg hu HK.out.2.1 HK.out.1
            have HLN : Hid ((way ⟨N, s, r⟩ c x 0 y).length ≤ 8) := by have := way_len ⟨N, s, r⟩ c x 0 y; unfold Hid; omega
            have hsz : HB ≤ w2.heap.size := HQ2.out.2.2.2
            have AL : Hid (Below w2.heap.size w2 (w2.alloc (.cells #[.int .i64 cy] 3)).drew) := ((Below.refl _ _).alloc (Nat.le_refl _) _).drew
            have AL2 : Hid (∀ w9 u, Grew w2.drew w9 (V 0) u → w9.cell? ⟨HW, 0, none⟩ = some (V 0) ∧ w9.cell? ⟨b, off + y, none⟩ = some (.int .i64 cy) ∧ w9.frozen? ⟨HW, 0, none⟩ = false) := fun w9 u hg => by
              have hd : Below w2.heap.size w2 w2.drew := (Below.refl _ _).drew
              have hb9 : Below HB w2 w9 := (hd.mono HQ2.out.2.2.2).trans (hg.below OWN.out HQ2.out.2.2.2)
              have hbs : b < HB := by omega
              exact ⟨by rw [hb9.cell (p := ⟨HW, 0, none⟩) hHWB.2]; exact k0, by rw [hb9.cell (p := ⟨b, off + y, none⟩) hbs]; exact k1, by rw [World.frozen?_of_block (w := w2) (hb9.block HW hHWB.2)]; exact f0⟩
            have CF : Hid (w2.cell? ⟨HW, 0, none⟩ = some (V 0) ∧ w2.cell? ⟨b, off + y, none⟩ = some (.int .i64 cy)) := ⟨k0, k1⟩
            have HWL : HW < w2.heap.size := HQ2.out.1.lt
            have BL : b < w2.heap.size := by have := HQ2.out.2.2.1.size; omega
            obtain ⟨vk, hvk⟩ : ∃ vk, vk = V 0 := ⟨_, rfl⟩
            rw [← hvk] at OWN NB hGR AL2 CF
            obtain ⟨ln, hln⟩ : ∃ ln, ln = (way ⟨N, s, r⟩ c x 0 y).length := ⟨_, rfl⟩
            have q0 : ∀ QQ : Wd (fun Q => Q.cell? ⟨HW, 0, none⟩ = some vk ∧ Q.cell? ⟨b, off + y, none⟩ = some (.int .i64 cy)), QQ.w.cell? ⟨HW, 0, none⟩ = some vk := fun QQ => QQ.ok.1
            have q1 : ∀ QQ : Wd (fun Q => Q.cell? ⟨HW, 0, none⟩ = some vk ∧ Q.cell? ⟨b, off + y, none⟩ = some (.int .i64 cy)), QQ.w.cell? ⟨b, off + y, none⟩ = some (.int .i64 cy) := fun QQ => QQ.ok.2
            have hne : Nonempty (Wd (fun Q => Q.cell? ⟨HW, 0, none⟩ = some vk ∧ Q.cell? ⟨b, off + y, none⟩ = some (.int .i64 cy))) := ⟨⟨w2, CF.out⟩⟩
            clear k0 k1 f0 hvk hcy hln
            go_wp2_with fail
            refine chain_last (S := (fun Q => Q.cell? ⟨HW, 0, none⟩ = some vk ∧ Q.cell? ⟨b, off + y, none⟩ = some (.int .i64 cy))) [([true, true, true, true, true, true, true, true], 8), ([], 9)] [false, false, false, false, false, false, false, false, false, false, true] (by kernel_rfl) (by kernel_rfl) (by kernel_rfl) (by kernel_rfl) (by kernel_rfl) (by kernel_rfl) CF.out ?_
            simp only [wpSegs, pickB, List.dropLast_cons_cons, List.dropLast_singleton, List.getLast?_cons_cons, List.getLast?_singleton, List.toList_toArray, List.getElem?_toArray, List.getElem?_cons_succ, List.getElem?_cons_zero, Option.toList_some]
            repeat (go_big_quiet_step (fail))
            refine wpQuiet_nil ?_
            intro K hK
            go_wp2_with fail
            refine hK _ _ ⟨by rw [AL.out.cell (p := ⟨HW, 0, none⟩) HWL]; exact CF.out.1, by rw [AL.out.cell (p := ⟨b, off + y, none⟩) BL]; exact CF.out.2⟩ ?_
            clear hK K
            repeat (go_big_quiet_step (fail))
            refine wpQuiet_nil ?_
            intro K hK
            go_wp2_with (at_builtin; refine wpList_app1 w2.drew rfl (.tmp 37) (.tmp 42) 25 rfl HB 3 (.int .i64 0) 8 Tryd.underlying25 sll.infoInt rfl (by decide) _ _ _ (.int .i64 cy) rfl OWN.out w2.heap.size rfl rfl rfl (by have := HLN.out; omega) hsz ?_)
            intro g1 cap1 w9 hown9 hgr
            have KF := Lib.hid (AL2.out w9 _ hgr)
            have RF := Lib.hid (hGR.out w9 _ hgr (by unfold OwnI; rw [List.length_append, ivs_append]; exact hown9))
            clear hown9 hgr
            go_wp2_with fail
            refine hK _ _ ⟨KF.out.1, KF.out.2.1⟩ ?_
            clear hK K
            repeat (go_big_quiet_step (fail))
            refine wpQuiet_nil ?_
            show wpList _ _ _ _ _ _
            obtain ⟨k0, -, f0⟩ := KF.out
            obtain ⟨⟨V2, r1⟩, r2⟩ := RF.out
            have R := Lib.hid (show _ ∧ _ from ⟨r1, r2⟩)
            clear r1 r2 q0 q1 hne RF
            go_wp2
            go_roundw
            case rel => exact ⟨y + 1, V2, by omega, by go_num, R.out⟩
            case measure => simp [intOf]; omega
          | true =>
            have hk : kindOf ⟨N, s, r⟩ x y = 2 := by
              unfold kindOf n01
              simp only [e1, e2]; rfl
            have HK := Lib.hid (show _ ∧ _ ∧ _ from ⟨hk, hyx, (show _ ∧ _ from ⟨e1, e2⟩)⟩)
            clear hk hyx e1 e2
            go_wp2_with fail
            refine (inRel_any N s r y x _ hyN hx hn HR.out.1).mono ?_
            rintro e w1 ⟨rfl, hb⟩
            rw [HK.out.2.2.1]
            have HQ1 := Lib.hid (show _ ∧ _ ∧ _ ∧ _ from ⟨HQ.out.1.down hb, HQ.out.2.1.below hb HQ.out.2.1.lt, HQ.out.2.2.1.trans (hb.mono HQ.out.2.2.1.size), Nat.le_trans HQ.out.2.2.2 hb.size⟩)
            clear hb a0 a1 a2 HQ
            obtain ⟨a0, a1, a2⟩ := HQ1.out.2.1.c
            go_wp2_with fail
            refine (inRel_any N s r x y _ hx hyN hn HR.out.1).mono ?_
            rintro e w2 ⟨rfl, hb⟩
            rw [HK.out.2.2.2]
            have HQ2 := Lib.hid (show _ ∧ _ ∧ _ ∧ _ from ⟨HQ1.out.1.down hb, HQ1.out.2.1.below hb HQ1.out.2.1.lt, HQ1.out.2.2.1.trans (hb.mono HQ1.out.2.2.1.size), Nat.le_trans HQ1.out.2.2.2 hb.size⟩)
            clear hb a0 a1 a2 HQ1
            obtain ⟨cy, hcy⟩ : ∃ cy, cy = c.getD y 0 := ⟨_, rfl⟩
            have k1 : w2.cell? ⟨b, off + y, none⟩ = some (.int .i64 cy) := by rw [HQ2.out.2.2.1.cell (p := ⟨b, off + y, none⟩) hbw, hcy]; exact HC.out y hyN
            have k0 := HQ2.out.1.cell 2 (by omega)
            have f0 := HQ2.out.1.free 2
            have OWN : Hid (OwnI 3 w2.drew HB (V 2) (way ⟨N, s, r⟩ c x 2 y)) := (HQ2.out.1.own 2 (by omega)).below ((Below.refl _ _).drew) (Nat.le_refl _)
            have NB : Hid (some HW ≠ (V 2).ownBlock) := fun e => by have := (OWN.out.lt HW e.symm).1; omega
            have hGR : Hid (∀ w9 u, Grew w2.drew w9 (V 2) u → OwnI 3 w9 HB u (way ⟨N, s, r⟩ c x 2 y ++ [cy]) → (∃ V2, Ways (w9.setCell ⟨HW, 2, none⟩ u) HW HB V2 (fun k => way ⟨N, s, r⟩ c x k (y + 1))) ∧ Box 28 (w9.setCell ⟨HW, 2, none⟩ u) w.heap.size N s r ∧ Below w.heap.size w (w9.setCell ⟨HW, 2, none⟩ u) ∧ HB ≤ (w9.setCell ⟨HW, 2, none⟩ u).heap.size) := fun w9 u hg hu => by
              have hd : Below w2.heap.size w2 w2.drew := (Below.refl _ _).drew
              have hb9 : Below HB w2 w9 := (hd.mono HQ2.out.2.2.2).trans (hg.below OWN.out HQ2.out.2.2.2)
              have hb7 : Below HW w2 w9 := hb9.mono (by omega)
              have hb8 : Below HW w2 (w9.setCell ⟨HW, 2, none⟩ u) := hb7.setCell (p := ⟨HW, 2, none⟩) (Nat.le_refl _) _
              refine ⟨?_, HQ2.out.2.1.below hb8 (by omega), HQ2.out.2.2.1.trans (hb8.mono (by omega)), Nat.le_trans HQ2.out.2.2.2 hb8.size⟩
              rw [hcy] at hu
              exact ways_yes (HQ2.out.1.down hd) (by omega) HQ2.out.2.2.2 hg hu HK.out.2.1 HK.out.1
            have HLN : Hid ((way ⟨N, s, r⟩ c x 2 y).length ≤ 8) := by have := way_len ⟨N, s, r⟩ c x 2 y; unfold Hid; omega
            have hsz : HB ≤ w2.heap.size := HQ2.out.2.2.2
            have AL : Hid (Below w2.heap.size w2 (w2.alloc (.cells #[.int .i64 cy] 3)).drew) := ((Below.refl _ _).alloc (Nat.le_refl _) _).drew
            have AL2 : Hid (∀ w9 u, Grew w2.drew w9 (V 2) u → w9.cell? ⟨HW, 2, none⟩ = some (V 2) ∧ w9.cell? ⟨b, off + y, none⟩ = some (.int .i64 cy) ∧ w9.frozen? ⟨HW, 2, none⟩ = false) := fun w9 u hg => by
              have hd : Below w2.heap.size w2 w2.drew := (Below.refl _ _).drew
              have hb9 : Below HB w2 w9 := (hd.mono HQ2.out.2.2.2).trans (hg.below OWN.out HQ2.out.2.2.2)
              have hbs : b < HB := by omega
              exact ⟨by rw [hb9.cell (p := ⟨HW, 2, none⟩) hHWB.2]; exact k0, by rw [hb9.cell (p := ⟨b, off + y, none⟩) hbs]; exact k1, by rw [World.frozen?_of_block (w := w2) (hb9.block HW hHWB.2)]; exact f0⟩
            have CF : Hid (w2.cell? ⟨HW, 2, none⟩ = some (V 2) ∧ w2.cell? ⟨b, off + y, none⟩ = some (.int .i64 cy)) := ⟨k0, k1⟩
            have HWL : HW < w2.heap.size := HQ2.out.1.lt
            have BL : b < w2.heap.size := by have := HQ2.out.2.2.1.size; omega
            obtain ⟨vk, hvk⟩ : ∃ vk, vk = V 2 := ⟨_, rfl⟩
            rw [← hvk] at OWN NB hGR AL2 CF
            obtain ⟨ln, hln⟩ : ∃ ln, ln = (way ⟨N, s, r⟩ c x 2 y).length := ⟨_, rfl⟩
            have q0 : ∀ QQ : Wd (fun Q => Q.cell? ⟨HW, 2, none⟩ = some vk ∧ Q.cell? ⟨b, off + y, none⟩ = some (.int .i64 cy)), QQ.w.cell? ⟨HW, 2, none⟩ = some vk := fun QQ => QQ.ok.1
            have q1 : ∀ QQ : Wd (fun Q => Q.cell? ⟨HW, 2, none⟩ = some vk ∧ Q.cell? ⟨b, off + y, none⟩ = some (.int .i64 cy)), QQ.w.cell? ⟨b, off + y, none⟩ = some (.int .i64 cy) := fun QQ => QQ.ok.2
            have hne : Nonempty (Wd (fun Q => Q.cell? ⟨HW, 2, none⟩ = some vk ∧ Q.cell? ⟨b, off + y, none⟩ = some (.int .i64 cy))) := ⟨⟨w2, CF.out⟩⟩
            clear k0 k1 f0 hvk hcy hln
            go_wp2_with fail
            refine chain_last (S := (fun Q => Q.cell? ⟨HW, 2, none⟩ = some vk ∧ Q.cell? ⟨b, off + y, none⟩ = some (.int .i64 cy))) [([true, true, true, true, true, true, true, true], 8), ([], 9)] [false, false, false, false, false, false, false, false, false, false, true] (by kernel_rfl) (by kernel_rfl) (by kernel_rfl) (by kernel_rfl) (by kernel_rfl) (by kernel_rfl) CF.out ?_
            simp only [wpSegs, pickB, List.dropLast_cons_cons, List.dropLast_singleton, List.getLast?_cons_cons, List.getLast?_singleton, List.toList_toArray, List.getElem?_toArray, List.getElem?_cons_succ, List.getElem?_cons_zero, Option.toList_some]
            repeat (go_big_quiet_step (fail))
            refine wpQuiet_nil ?_
            intro K hK
            go_wp2_with fail
            refine hK _ _ ⟨by rw [AL.out.cell (p := ⟨HW, 2, none⟩) HWL]; exact CF.out.1, by rw [AL.out.cell (p := ⟨b, off + y, none⟩) BL]; exact CF.out.2⟩ ?_
            clear hK K
            repeat (go_big_quiet_step (fail))
            refine wpQuiet_nil ?_
            intro K hK
            go_wp2_with (at_builtin; refine wpList_app1 w2.drew rfl (.tmp 37) (.tmp 42) 25 rfl HB 3 (.int .i64 0) 8 Tryd.underlying25 sll.infoInt rfl (by decide) _ _ _ (.int .i64 cy) rfl OWN.out w2.heap.size rfl rfl rfl (by have := HLN.out; omega) hsz ?_)
            intro g1 cap1 w9 hown9 hgr
            have KF := Lib.hid (AL2.out w9 _ hgr)
            have RF := Lib.hid (hGR.out w9 _ hgr (by unfold OwnI; rw [List.length_append, ivs_append]; exact hown9))
            clear hown9 hgr
            go_wp2_with fail
            refine hK _ _ ⟨KF.out.1, KF.out.2.1⟩ ?_
            clear hK K
            repeat (go_big_quiet_step (fail))
            refine wpQuiet_nil ?_
            show wpList _ _ _ _ _ _
            obtain ⟨k0, -, f0⟩ := KF.out
            obtain ⟨⟨V2, r1⟩, r2⟩ := RF.out
            have R := Lib.hid (show _ ∧ _ from ⟨r1, r2⟩)
            clear r1 r2 q0 q1 hne RF
            go_wp2
            go_roundw
            case rel => exact ⟨y + 1, V2, by omega, by go_num, R.out⟩
            case measure => simp [intOf]; omega
        | true =>
          cases e2 : bitAt r (x * N + y) with
          | false =>
            have hk : kindOf ⟨N, s, r⟩ x y = 1 := by
              unfold kindOf n01
              simp only [e1, e2]; rfl
            have HK := Lib.hid (show _ ∧ _ ∧ _ from ⟨hk, hyx, (show _ ∧ _ from ⟨e1, e2⟩)⟩)
            clear hk hyx e1 e2
            go_wp2_with fail
            refine (inRel_any N s r y x _ hyN hx hn HR.out.1).mono ?_
            rintro e w1 ⟨rfl, hb⟩
            rw [HK.out.2.2.1]
            have HQ1 := Lib.hid (show _ ∧ _ ∧ _ ∧ _ from ⟨HQ.out.1.down hb, HQ.out.2.1.below hb HQ.out.2.1.lt, HQ.out.2.2.1.trans (hb.mono HQ.out.2.2.1.size), Nat.le_trans HQ.out.2.2.2 hb.size⟩)
            clear hb a0 a1 a2 HQ
            obtain ⟨a0, a1, a2⟩ := HQ1.out.2.1.c
            go_wp2_with fail
            refine (inRel_any N s r x y _ hx hyN hn HR.out.1).mono ?_
            rintro e w2 ⟨rfl, hb⟩
            rw [HK.out.2.2.2]
            have HQ2 := Lib.hid (show _ ∧ _ ∧ _ ∧ _ from ⟨HQ1.out.1.down hb, HQ1.out.2.1.below hb HQ1.out.2.1.lt, HQ1.out.2.2.1.trans (hb.mono HQ1.out.2.2.1.size), Nat.le_trans HQ1.out.2.2.2 hb.size⟩)
            clear hb a0 a1 a2 HQ1
            obtain ⟨cy, hcy⟩ : ∃ cy, cy = c.getD y 0 := ⟨_, rfl⟩
            have k1 : w2.cell? ⟨b, off + y, none⟩ = some (.int .i64 cy) := by rw [HQ2.out.2.2.1.cell (p := ⟨b, off + y, none⟩) hbw, hcy]; exact HC.out y hyN
            have k0 := HQ2.out.1.cell 1 (by omega)
            have f0 := HQ2.out.1.free 1
            have OWN : Hid (OwnI 3 w2.drew HB (V 1) (way ⟨N, s, r⟩ c x 1 y)) := (HQ2.out.1.own 1 (by omega)).below ((Below.refl _ _).drew) (Nat.le_refl _)
            have NB : Hid (some HW ≠ (V 1).ownBlock) := fun e => by have := (OWN.out.lt HW e.symm).1; omega
            have hGR : Hid (∀ w9 u, Grew w2.drew w9 (V 1) u → OwnI 3 w9 HB u (way ⟨N, s, r⟩ c x 1 y ++ [cy]) → (∃ V2, Ways (w9.setCell ⟨HW, 1, none⟩ u) HW HB V2 (fun k => way ⟨N, s, r⟩ c x k (y + 1))) ∧ Box 28 (w9.setCell ⟨HW, 1, none⟩ u) w.heap.size N s r ∧ Below w.heap.size w (w9.setCell ⟨HW, 1, none⟩ u) ∧ HB ≤ (w9.setCell ⟨HW, 1, none⟩ u).heap.size) := fun w9 u hg hu => by
              have hd : Below w2.heap.size w2 w2.drew := (Below.refl _ _).drew
              have hb9 : Below HB w2 w9 := (hd.mono HQ2.out.2.2.2).trans (hg.below OWN.out HQ2.out.2.2.2)
              have hb7 : Below HW w2 w9 := hb9.mono (by omega)
              have hb8 : Below HW w2 (w9.setCell ⟨HW, 1, none⟩ u) := hb7.setCell (p := ⟨HW, 1, none⟩) (Nat.le_refl _) _
              refine ⟨?_, HQ2.out.2.1.below hb8 (by omega), HQ2.out.2.2.1.trans (hb8.mono (by omega)), Nat.le_trans HQ2.out.2.2.2 hb8.size⟩
              rw [hcy] at hu
              exact ways_yes (HQ2.out.1.down hd) (by omega) HQ2.out.2.2.2 hg hu HK.out.2.1 HK.out.1
            have HLN : Hid ((way ⟨N, s, r⟩ c x 1 y).length ≤ 8) := by have := way_len ⟨N, s, r⟩ c x 1 y; unfold Hid; omega
            have hsz : HB ≤ w2.heap.size := HQ2.out.2.2.2
            have AL : Hid (Below w2.heap.size w2 (w2.alloc (.cells #[.int .i64 cy] 3)).drew) := ((Below.refl _ _).alloc (Nat.le_refl _) _).drew
            have AL2 : Hid (∀ w9 u, Grew w2.drew w9 (V 1) u → w9.cell? ⟨HW, 1, none⟩ = some (V 1) ∧ w9.cell? ⟨b, off + y, none⟩ = some (.int .i64 cy) ∧ w9.frozen? ⟨HW, 1, none⟩ = false) := fun w9 u hg => by
              have hd : Below w2.heap.size w2 w2.drew := (Below.refl _ _).drew
              have hb9 : Below HB w2 w9 := (hd.mono HQ2.out.2.2.2).trans (hg.below OWN.out HQ2.out.2.2.2)
              have hbs : b < HB := by omega
              exact ⟨by rw [hb9.cell (p := ⟨HW, 1, none⟩) hHWB.2]; exact k0, by rw [hb9.cell (p := ⟨b, off + y, none⟩) hbs]; exact k1, by rw [World.frozen?_of_block (w := w2) (hb9.block HW hHWB.2)]; exact f0⟩
            have CF : Hid (w2.cell? ⟨HW, 1, none⟩ = some (V 1) ∧ w2.cell? ⟨b, off + y, none⟩ = some (.int .i64 cy)) := ⟨k0, k1⟩
            have HWL : HW < w2.heap.size := HQ2.out.1.lt
            have BL : b < w2.heap.size := by have := HQ2.out.2.2.1.size; omega
            obtain ⟨vk, hvk⟩ : ∃ vk, vk = V 1 := ⟨_, rfl⟩
            rw [← hvk] at OWN NB hGR AL2 CF
            obtain ⟨ln, hln⟩ : ∃ ln, ln = (way ⟨N, s, r⟩ c x 1 y).length := ⟨_, rfl⟩
            have q0 : ∀ QQ : Wd (fun Q => Q.cell? ⟨HW, 1, none⟩ = some vk ∧ Q.cell? ⟨b, off + y, none⟩ = some (.int .i64 cy)), QQ.w.cell? ⟨HW, 1, none⟩ = some vk := fun QQ => QQ.ok.1
            have q1 : ∀ QQ : Wd (fun Q => Q.cell? ⟨HW, 1, none⟩ = some vk ∧ Q.cell? ⟨b, off + y, none⟩ = some (.int .i64 cy)), QQ.w.cell? ⟨b, off + y, none⟩ = some (.int .i64 cy) := fun QQ => QQ.ok.2
            have hne : Nonempty (Wd (fun Q => Q.cell? ⟨HW, 1, none⟩ = some vk ∧ Q.cell? ⟨b, off + y, none⟩ = some (.int .i64 cy))) := ⟨⟨w2, CF.out⟩⟩
            clear k0 k1 f0 hvk hcy hln
            go_wp2_with fail
            refine chain_last (S := (fun Q => Q.cell? ⟨HW, 1, none⟩ = some vk ∧ Q.cell? ⟨b, off + y, none⟩ = some (.int .i64 cy))) [([true, true, true, true, true, true, true, true], 8), ([], 9)] [false, false, false, false, false, false, false, false, false, false, true] (by kernel_rfl) (by kernel_rfl) (by kernel_rfl) (by kernel_rfl) (by kernel_rfl) (by kernel_rfl) CF.out ?_
            simp only [wpSegs, pickB, List.dropLast_cons_cons, List.dropLast_singleton, List.getLast?_cons_cons, List.getLast?_singleton, List.toList_toArray, List.getElem?_toArray, List.getElem?_cons_succ, List.getElem?_cons_zero, Option.toList_some]
            repeat (go_big_quiet_step (fail))
            refine wpQuiet_nil ?_
            intro K hK
            go_wp2_with fail
            refine hK _ _ ⟨by rw [AL.out.cell (p := ⟨HW, 1, none⟩) HWL]; exact CF.out.1, by rw [AL.out.cell (p := ⟨b, off + y, none⟩) BL]; exact CF.out.2⟩ ?_
            clear hK K
            repeat (go_big_quiet_step (fail))
            refine wpQuiet_nil ?_
            intro K hK
            go_wp2_with (at_builtin; refine wpList_app1 w2.drew rfl (.tmp 37) (.tmp 42) 25 rfl HB 3 (.int .i64 0) 8 Tryd.underlying25 sll.infoInt rfl (by decide) _ _ _ (.int .i64 cy) rfl OWN.out w2.heap.size rfl rfl rfl (by have := HLN.out; omega) hsz ?_)
            intro g1 cap1 w9 hown9 hgr
            have KF := Lib.hid (AL2.out w9 _ hgr)
            have RF := Lib.hid (hGR.out w9 _ hgr (by unfold OwnI; rw [List.length_append, ivs_append]; exact hown9))
            clear hown9 hgr
            go_wp2_with fail
            refine hK _ _ ⟨KF.out.1, KF.out.2.1⟩ ?_
            clear hK K
            repeat (go_big_quiet_step (fail))
            refine wpQuiet_nil ?_
            show wpList _ _ _ _ _ _
            obtain ⟨k0, -, f0⟩ := KF.out
            obtain ⟨⟨V2, r1⟩, r2⟩ := RF.out
            have R := Lib.hid (show _ ∧ _ from ⟨r1, r2⟩)
            clear r1 r2 q0 q1 hne RF
            go_wp2
            go_roundw
            case rel => exact ⟨y + 1, V2, by omega, by go_num, R.out⟩
            case measure => simp [intOf]; omega
          | true =>
            have hk : kindOf ⟨N, s, r⟩ x y = 3 := by
              unfold kindOf n01
              simp only [e1, e2]; rfl
            have HK := Lib.hid (show _ ∧ _ ∧ _ from ⟨hk, hyx, (show _ ∧ _ from ⟨e1, e2⟩)⟩)
            clear hk hyx e1 e2
            go_wp2_with fail
            refine (inRel_any N s r y x _ hyN hx hn HR.out.1).mono ?_
            rintro e w1 ⟨rfl, hb⟩
            rw [HK.out.2.2.1]
            have HQ1 := Lib.hid (show _ ∧ _ ∧ _ ∧ _ from ⟨HQ.out.1.down hb, HQ.out.2.1.below hb HQ.out.2.1.lt, HQ.out.2.2.1.trans (hb.mono HQ.out.2.2.1.size), Nat.le_trans HQ.out.2.2.2 hb.size⟩)
            clear hb a0 a1 a2 HQ
            obtain ⟨a0, a1, a2⟩ := HQ1.out.2.1.c
            go_wp2_with fail
            refine (inRel_any N s r x y _ hx hyN hn HR.out.1).mono ?_
            rintro e w2 ⟨rfl, hb⟩
            rw [HK.out.2.2.2]
            have HQ2 := Lib.hid (show _ ∧ _ ∧ _ ∧ _ from ⟨HQ1.out.1.down hb, HQ1.out.2.1.below hb HQ1.out.2.1.lt, HQ1.out.2.2.1.trans (hb.mono HQ1.out.2.2.1.size), Nat.le_trans HQ1.out.2.2.2 hb.size⟩)
            clear hb a0 a1 a2 HQ1
            obtain ⟨cy, hcy⟩ : ∃ cy, cy = c.getD y 0 := ⟨_, rfl⟩
            have k1 : w2.cell? ⟨b, off + y, none⟩ = some (.int .i64 cy) := by rw [HQ2.out.2.2.1.cell (p := ⟨b, off + y, none⟩) hbw, hcy]; exact HC.out y hyN
            have k0 := HQ2.out.1.cell 3 (by omega)
            have f0 := HQ2.out.1.free 3
            have OWN : Hid (OwnI 3 w2.drew HB (V 3) (way ⟨N, s, r⟩ c x 3 y)) := (HQ2.out.1.own 3 (by omega)).below ((Below.refl _ _).drew) (Nat.le_refl _)
            have NB : Hid (some HW ≠ (V 3).ownBlock) := fun e => by have := (OWN.out.lt HW e.symm).1; omega
            have hGR : Hid (∀ w9 u, Grew w2.drew w9 (V 3) u → OwnI 3 w9 HB u (way ⟨N, s, r⟩ c x 3 y ++ [cy]) → (∃ V2, Ways (w9.setCell ⟨HW, 3, none⟩ u) HW HB V2 (fun k => way ⟨N, s, r⟩ c x k (y + 1))) ∧ Box 28 (w9.setCell ⟨HW, 3, none⟩ u) w.heap.size N s r ∧ Below w.heap.size w (w9.setCell ⟨HW, 3, none⟩ u) ∧ HB ≤ (w9.setCell ⟨HW, 3, none⟩ u).heap.size) := fun w9 u hg hu => by
              have hd : Below w2.heap.size w2 w2.drew := (Below.refl _ _).drew
              have hb9 : Below HB w2 w9 := (hd.mono HQ2.out.2.2.2).trans (hg.below OWN.out HQ2.out.2.2.2)
              have hb7 : Below HW w2 w9 := hb9.mono (by omega)
              have hb8 : Below HW w2 (w9.setCell ⟨HW, 3, none⟩ u) := hb7.setCell (p := ⟨HW, 3, none⟩) (Nat.le_refl _) _
              refine ⟨?_, HQ2.out.2.1.below hb8 (by omega), HQ2.out.2.2.1.trans (hb8.mono (by omega)), Nat.le_trans HQ2.out.2.2.2 hb8.size⟩
              rw [hcy] at hu
              exact ways_yes (HQ2.out.1.down hd) (by omega) HQ2.out.2.2.2 hg hu HK.out.2.1 HK.out.1
            have HLN : Hid ((way ⟨N, s, r⟩ c x 3 y).length ≤ 8) := by have := way_len ⟨N, s, r⟩ c x 3 y; unfold Hid; omega
            have hsz : HB ≤ w2.heap.size := HQ2.out.2.2.2
            have AL : Hid (Below w2.heap.size w2 (w2.alloc (.cells #[.int .i64 cy] 3)).drew) := ((Below.refl _ _).alloc (Nat.le_refl _) _).drew
            have AL2 : Hid (∀ w9 u, Grew w2.drew w9 (V 3) u → w9.cell? ⟨HW, 3, none⟩ = some (V 3) ∧ w9.cell? ⟨b, off + y, none⟩ = some (.int .i64 cy) ∧ w9.frozen? ⟨HW, 3, none⟩ = false) := fun w9 u hg => by
              have hd : Below w2.heap.size w2 w2.drew := (Below.refl _ _).drew
              have hb9 : Below HB w2 w9 := (hd.mono HQ2.out.2.2.2).trans (hg.below OWN.out HQ2.out.2.2.2)
              have hbs : b < HB := by omega
              exact ⟨by rw [hb9.cell (p := ⟨HW, 3, none⟩) hHWB.2]; exact k0, by rw [hb9.cell (p := ⟨b, off + y, none⟩) hbs]; exact k1, by rw [World.frozen?_of_block (w := w2) (hb9.block HW hHWB.2)]; exact f0⟩
            have CF : Hid (w2.cell? ⟨HW, 3, none⟩ = some (V 3) ∧ w2.cell? ⟨b, off + y, none⟩ = some (.int .i64 cy)) := ⟨k0, k1⟩
            have HWL : HW < w2.heap.size := HQ2.out.1.lt
            have BL : b < w2.heap.size := by have := HQ2.out.2.2.1.size; omega
            obtain ⟨vk, hvk⟩ : ∃ vk, vk = V 3 := ⟨_, rfl⟩
            rw [← hvk] at OWN NB hGR AL2 CF
            obtain ⟨ln, hln⟩ : ∃ ln, ln = (way ⟨N, s, r⟩ c x 3 y).length := ⟨_, rfl⟩
            have q0 : ∀ QQ : Wd (fun Q => Q.cell? ⟨HW, 3, none⟩ = some vk ∧ Q.cell? ⟨b, off + y, none⟩ = some (.int .i64 cy)), QQ.w.cell? ⟨HW, 3, none⟩ = some vk := fun QQ => QQ.ok.1
            have q1 : ∀ QQ : Wd (fun Q => Q.cell? ⟨HW, 3, none⟩ = some vk ∧ Q.cell? ⟨b, off + y, none⟩ = some (.int .i64 cy)), QQ.w.cell? ⟨b, off + y, none⟩ = some (.int .i64 cy) := fun QQ => QQ.ok.2
            have hne : Nonempty (Wd (fun Q => Q.cell? ⟨HW, 3, none⟩ = some vk ∧ Q.cell? ⟨b, off + y, none⟩ = some (.int .i64 cy))) := ⟨⟨w2, CF.out⟩⟩
            clear k0 k1 f0 hvk hcy hln
            go_wp2_with fail
            refine chain_last (S := (fun Q => Q.cell? ⟨HW, 3, none⟩ = some vk ∧ Q.cell? ⟨b, off + y, none⟩ = some (.int .i64 cy))) [([true, true, true, true, true, true, true, true], 8), ([], 9)] [false, false, false, false, false, false, false, false, false, false, true] (by kernel_rfl) (by kernel_rfl) (by kernel_rfl) (by kernel_rfl) (by kernel_rfl) (by kernel_rfl) CF.out ?_
            simp only [wpSegs, pickB, List.dropLast_cons_cons, List.dropLast_singleton, List.getLast?_cons_cons, List.getLast?_singleton, List.toList_toArray, List.getElem?_toArray, List.getElem?_cons_succ, List.getElem?_cons_zero, Option.toList_some]
            repeat (go_big_quiet_step (fail))
            refine wpQuiet_nil ?_
            intro K hK
            go_wp2_with fail
            refine hK _ _ ⟨by rw [AL.out.cell (p := ⟨HW, 3, none⟩) HWL]; exact CF.out.1, by rw [AL.out.cell (p := ⟨b, off + y, none⟩) BL]; exact CF.out.2⟩ ?_
            clear hK K
            repeat (go_big_quiet_step (fail))
            refine wpQuiet_nil ?_
            intro K hK
            go_wp2_with (at_builtin; refine wpList_app1 w2.drew rfl (.tmp 37) (.tmp 42) 25 rfl HB 3 (.int .i64 0) 8 Tryd.underlying25 sll.infoInt rfl (by decide) _ _ _ (.int .i64 cy) rfl OWN.out w2.heap.size rfl rfl rfl (by have := HLN.out; omega) hsz ?_)
            intro g1 cap1 w9 hown9 hgr
            have KF := Lib.hid (AL2.out w9 _ hgr)
            have RF := Lib.hid (hGR.out w9 _ hgr (by unfold OwnI; rw [List.length_append, ivs_append]; exact hown9))
            clear hown9 hgr
            go_wp2_with fail
            refine hK _ _ ⟨KF.out.1, KF.out.2.1⟩ ?_
            clear hK K
            repeat (go_big_quiet_step (fail))
            refine wpQuiet_nil ?_
            show wpList _ _ _ _ _ _
            obtain ⟨k0, -, f0⟩ := KF.out
            obtain ⟨⟨V2, r1⟩, r2⟩ := RF.out
            have R := Lib.hid (show _ ∧ _ from ⟨r1, r2⟩)
            clear r1 r2 q0 q1 hne RF
            go_wp2
            go_roundw
            case rel => exact ⟨y + 1, V2, by omega, by go_num, R.out⟩
            case measure => simp [intOf]; omega
    · obtain rfl : N = y := by omega
      obtain ⟨cx, hcx⟩ : ∃ cx, cx = c.getD x 0 := ⟨_, rfl⟩
      have k9 : wr.cell? ⟨b, off + x, none⟩ = some (.int .i64 cx) := by rw [HQ.out.2.2.1.cell (p := ⟨b, off + x, none⟩) hbw, hcx]; exact HC.out x hx
      have c0 := HQ.out.1.cell 0 (by omega)
      have c1 := HQ.out.1.cell 1 (by omega)
      have c2 := HQ.out.1.cell 2 (by omega)
      have c3 := HQ.out.1.cell 3 (by omega)
      have AL : Below wr.heap.size wr (wr.alloc (.cells #[.int .i64 cx] 3)) := (Below.refl _ _).alloc (Nat.le_refl _) _
      have HWL : HW < wr.heap.size := HQ.out.1.lt
      have d0 : (wr.alloc (.cells #[.int .i64 cx] 3)).cell? ⟨HW, 0, none⟩ = some (V 0) := by rw [AL.cell (p := ⟨HW, 0, none⟩) HWL]; exact c0
      have d1 : (wr.alloc (.cells #[.int .i64 cx] 3)).cell? ⟨HW, 1, none⟩ = some (V 1) := by rw [AL.cell (p := ⟨HW, 1, none⟩) HWL]; exact c1
      have d2 : (wr.alloc (.cells #[.int .i64 cx] 3)).cell? ⟨HW, 2, none⟩ = some (V 2) := by rw [AL.cell (p := ⟨HW, 2, none⟩) HWL]; exact c2
      have d3 : (wr.alloc (.cells #[.int .i64 cx] 3)).cell? ⟨HW, 3, none⟩ = some (V 3) := by rw [AL.cell (p := ⟨HW, 3, none⟩) HWL]; exact c3
      have AP : Hid ((∀ i j, i < 4 → j < 4 → i ≠ j → Apart (V i) (V j)) ∧ ∀ k, k < 4 → way ⟨N, s, r⟩ c x k N = [] → V k = .slice none 0 0) := ⟨HQ.out.1.apart, HQ.out.1.nil⟩
      have ST : Hid (OwnI 3 (wr.alloc (.cells #[.int .i64 cx] 3)) w.heap.size (.slice (some ⟨wr.heap.size, 0, none⟩) 1 1) (descTo ⟨N, s, r⟩ c x 0) ∧ (∀ j, 0 ≤ j → j < 4 → OwnI 3 (wr.alloc (.cells #[.int .i64 cx] 3)) HB (V j) (way ⟨N, s, r⟩ c x j N) ∧ Apart (.slice (some ⟨wr.heap.size, 0, none⟩) 1 1) (V j)) ∧ Below w.heap.size w (wr.alloc (.cells #[.int .i64 cx] 3))) := by
        refine ⟨by rw [descTo_zero, ← hcx]; exact kind.oneRow _ _ _ _ _ rfl HQ.out.2.2.1.size, fun j _ hj => ⟨(HQ.out.1.own j hj).below AL (Nat.le_refl _), fun q hq hq2 => ?_⟩, HQ.out.2.2.1.trans (AL.mono HQ.out.2.2.1.size)⟩
        have := ((HQ.out.1.own j hj).lt q hq2).2
        have : wr.heap.size = q := Option.some.inj hq
        omega
      clear HQ AL hcx
      obtain ⟨v0, hv0⟩ : ∃ v0, v0 = V 0 := ⟨_, rfl⟩
      obtain ⟨v1, hv1⟩ : ∃ v1, v1 = V 1 := ⟨_, rfl⟩
      obtain ⟨v2, hv2⟩ : ∃ v2, v2 = V 2 := ⟨_, rfl⟩
      obtain ⟨v3, hv3⟩ : ∃ v3, v3 = V 3 := ⟨_, rfl⟩
      rw [← hv0] at d0 c0
      rw [← hv1] at d1 c1
      rw [← hv2] at d2 c2
      rw [← hv3] at d3 c3
      have HV := Lib.hid (show _ ∧ _ ∧ _ ∧ _ from ⟨hv0, hv1, hv2, hv3⟩)
      clear hv0 hv1 hv2 hv3
      go_wp2_with fail
      clear c0 c1 c2 c3 d0 d1 d2 d3 k9
      go_loopw [10, 52] (fun u i wr => ∃ k : Nat, k ≤ 4 ∧ i = .int .i64 k ∧ OwnI 3 wr w.heap.size u (descTo ⟨N, s, r⟩ c x k) ∧ (∀ j, k ≤ j → j < 4 → OwnI 3 wr HB (V j) (way ⟨N, s, r⟩ c x j N) ∧ Apart u (V j)) ∧ Below w.heap.size w wr) (fun _ i _ => 4 - (intOf i).toNat)
      case atStart => exact ⟨0, by omega, rfl, ST.out⟩
      case round =>
        clear ST
        obtain ⟨k, hk, rfl, q1, q2, q3⟩ := hrel
        have HL := Lib.hid (descTo_len ⟨N, s, r⟩ c x k)
        have HS := Lib.hid (descTo_succ ⟨N, s, r⟩ c x k)
        obtain ⟨D, hD⟩ : ∃ D, D = descTo ⟨N, s, r⟩ c x k := ⟨_, rfl⟩
        rw [← hD] at q1 HL HS
        have HD := Lib.hid hD
        have HQ := Lib.hid (show _ ∧ _ ∧ _ from ⟨q1, q2, q3⟩)
        clear q1 q2 q3 hD
        by_cases hk4 : k < 4
        · have hDl : Hid (D.length ≤ 40) := by
            have h2 : k * (N + 1) ≤ 4 * 9 := Nat.mul_le_mul hk (by omega)
            have := HL.out
            unfold Hid; simp only at this; omega
          clear HL
          have h03 : k = 0 ∨ k = 1 ∨ k = 2 ∨ k = 3 := by omega
          rcases h03 with rfl | rfl | rfl | rfl
          · obtain ⟨L, hL⟩ : ∃ L, L = way ⟨N, s, r⟩ c x 0 N := ⟨_, rfl⟩
            have hLl : L.length ≤ 8 := by rw [hL]; have := way_len ⟨N, s, r⟩ c x 0 N; omega
            have HLL := Lib.hid (show _ ∧ _ from ⟨hL, hLl⟩)
            have hne : Hid (L = [] → v0 = .slice none 0 0) := fun h => by rw [HV.out.1]; exact AP.out.2 0 (by omega) (by rw [← hL]; exact h)
            have OWK : Hid (OwnI 3 wr HB v0 L ∧ Apart u10 v0) := by
              have := HQ.out.2.1 0 (Nat.le_refl _) (by omega)
              rw [← HV.out.1, ← hL] at this; exact this
            clear hL hLl
            have ix : ∀ w : World, (Instr.index 66 (.agg #[v0, v1, v2, v3]) (.int .i64 0)).run Tryd.prog w = .ok v0 w := fun _ => by kernel_rfl
            go_wp2_with fail
            clear ix
            refine (sortI_any v0 L _ HB OWK.out.1 (by have := HLL.out.2; omega)).mono ?_
            rintro e w1 ⟨rfl, ho, hg⟩
            have hbg : Below w.heap.size wr w1 := below_of_grown hg HQ.out.2.2.size fun q hq => by have := (OWK.out.1.lt q hq).1; omega
            have Q1 : Hid (OwnI 3 w1 w.heap.size u10 D ∧ OwnI 3 w1 HB v0 (sortI L) ∧ (∀ j, 0 + 1 ≤ j → j < 4 → OwnI 3 w1 HB (V j) (way ⟨N, s, r⟩ c x j N) ∧ Apart u10 (V j)) ∧ Below w.heap.size w w1 ∧ Apart u10 v0) :=
              ⟨HQ.out.1.keepMark hg OWK.out.2, ho, fun j hj hj4 => ⟨(HQ.out.2.1 j (by omega) hj4).1.keepMark hg (by rw [HV.out.1]; exact AP.out.1 j 0 hj4 (by omega) (by omega)), (HQ.out.2.1 j (by omega) hj4).2⟩, HQ.out.2.2.trans hbg, OWK.out.2⟩
            clear ho hg hbg OWK HQ
            obtain ⟨vl, va, vc, hvk⟩ : ∃ vl va vc, v0 = .slice va vl vc ∧ vl = L.length := by
              rcases Q1.out.2.1.shape with ⟨h, h0⟩ | ⟨g, cp, h⟩
              · exact ⟨0, none, 0, h, by rw [← sortI_len L, h0]; rfl⟩
              · exact ⟨L.length, _, cp, by rw [h, sortI_len], rfl⟩
            obtain ⟨hvk, hvl⟩ := hvk
            have VK := Lib.hid hvk
            have VL := Lib.hid hvl
            rw [hvk]
            clear hvk hvl
            have hsz : w.heap.size ≤ w1.heap.size := Q1.out.2.2.2.1.size
            go_wp2_with (at_builtin; refine wpList_app1 w1 rfl (.tmp 57) (.tmp 60) 25 rfl w.heap.size 3 (.int .i64 0) 8 Tryd.underlying25 sll.infoInt rfl (by decide) _ _ _ (.int .i64 vl) rfl Q1.out.1 w1.heap.size rfl rfl rfl (by have := hDl.out; omega) hsz ?_)
            intro g1 cap1 w2 hown2 hgr
            have Q2 : Hid (OwnI 3 w2 w.heap.size (.slice (some ⟨g1, 0, none⟩) (D.length + 1) cap1) (D ++ [(vl : Int)]) ∧ OwnI 3 w2 HB (.slice va vl vc) (sortI L) ∧ (∀ j, 0 + 1 ≤ j → j < 4 → OwnI 3 w2 HB (V j) (way ⟨N, s, r⟩ c x j N) ∧ Apart (.slice (some ⟨g1, 0, none⟩) (D.length + 1) cap1) (V j)) ∧ Below w.heap.size w w2 ∧ Apart (.slice (some ⟨g1, 0, none⟩) (D.length + 1) cap1) (.slice va vl vc)) := by
              have hk1 := hgr.keep Q1.out.2.1 Q1.out.2.2.2.2
              rw [VK.out] at hk1
              exact ⟨by unfold OwnI; rw [List.length_append, ivs_append]; exact hown2, hk1.1, fun j hj hj4 => hgr.keep (Q1.out.2.2.1 j hj hj4).1 (Q1.out.2.2.1 j hj hj4).2, Q1.out.2.2.2.1.trans (hgr.below Q1.out.1 hsz), hk1.2⟩
            clear hown2 hgr hsz Q1
            have hsz2 : w.heap.size ≤ w2.heap.size := Q2.out.2.2.2.1.size
            have hl2 : (D ++ [(vl : Int)]).length + (sortI L).length ≤ 4398046511104 := by
              rw [List.length_append, sortI_len]; have := hDl.out; have := HLL.out.2; simp; omega
            go_wp2_with (at_builtin; refine wpList_appO w2 rfl (.tmp 61) (.tmp 62) 25 rfl w.heap.size HB 3 Tryd.underlying25 sll.infoInt _ _ rfl Q2.out.1 _ _ rfl Q2.out.2.1 (fun h => by rw [← VK.out]; exact hne.out (List.length_eq_zero_iff.1 (by rw [← sortI_len, h]; rfl))) hl2 hsz2 ?_)
            intro v9 w3 ho3 hgr
            have R : Hid (OwnI 3 w3 w.heap.size v9 (descTo ⟨N, s, r⟩ c x (0 + 1)) ∧ (∀ j, 0 + 1 ≤ j → j < 4 → OwnI 3 w3 HB (V j) (way ⟨N, s, r⟩ c x j N) ∧ Apart v9 (V j)) ∧ Below w.heap.size w w3) := by
              refine ⟨?_, fun j hj hj4 => hgr.keep (Q2.out.2.2.1 j hj hj4).1 (Q2.out.2.2.1 j hj hj4).2, Q2.out.2.2.2.1.trans (hgr.below Q2.out.1 hsz2)⟩
              rw [HS.out, ← HLL.out.1, ← VL.out, List.append_assoc]; exact ho3
            clear ho3 hgr hsz2 hl2 Q2
            go_wp2
            go_roundw
            case rel =>
              try rw [VK.out]
              first | exact ⟨0 + 1, by omega, by go_num, R.out⟩ | ((repeat apply Exists.intro); exact ⟨⟨0 + 1, by omega, by go_num, R.out⟩, rfl⟩)
            case measure => simp [intOf]
          · obtain ⟨L, hL⟩ : ∃ L, L = way ⟨N, s, r⟩ c x 1 N := ⟨_, rfl⟩
            have hLl : L.length ≤ 8 := by rw [hL]; have := way_len ⟨N, s, r⟩ c x 1 N; omega
            have HLL := Lib.hid (show _ ∧ _ from ⟨hL, hLl⟩)
            have hne : Hid (L = [] → v1 = .slice none 0 0) := fun h => by rw [HV.out.2.1]; exact AP.out.2 1 (by omega) (by rw [← hL]; exact h)
            have OWK : Hid (OwnI 3 wr HB v1 L ∧ Apart u10 v1) := by
              have := HQ.out.2.1 1 (Nat.le_refl _) (by omega)
              rw [← HV.out.2.1, ← hL] at this; exact this
            clear hL hLl
            have ix : ∀ w : World, (Instr.index 66 (.agg #[v0, v1, v2, v3]) (.int .i64 1)).run Tryd.prog w = .ok v1 w := fun _ => by kernel_rfl
            go_wp2_with fail
            clear ix
            refine (sortI_any v1 L _ HB OWK.out.1 (by have := HLL.out.2; omega)).mono ?_
            rintro e w1 ⟨rfl, ho, hg⟩
            have hbg : Below w.heap.size wr w1 := below_of_grown hg HQ.out.2.2.size fun q hq => by have := (OWK.out.1.lt q hq).1; omega
            have Q1 : Hid (OwnI 3 w1 w.heap.size u10 D ∧ OwnI 3 w1 HB v1 (sortI L) ∧ (∀ j, 1 + 1 ≤ j → j < 4 → OwnI 3 w1 HB (V j) (way ⟨N, s, r⟩ c x j N) ∧ Apart u10 (V j)) ∧ Below w.heap.size w w1 ∧ Apart u10 v1) :=
              ⟨HQ.out.1.keepMark hg OWK.out.2, ho, fun j hj hj4 => ⟨(HQ.out.2.1 j (by omega) hj4).1.keepMark hg (by rw [HV.out.2.1]; exact AP.out.1 j 1 hj4 (by omega) (by omega)), (HQ.out.2.1 j (by omega) hj4).2⟩, HQ.out.2.2.trans hbg, OWK.out.2⟩
            clear ho hg hbg OWK HQ
            obtain ⟨vl, va, vc, hvk⟩ : ∃ vl va vc, v1 = .slice va vl vc ∧ vl = L.length := by
              rcases Q1.out.2.1.shape with ⟨h, h0⟩ | ⟨g, cp, h⟩
              · exact ⟨0, none, 0, h, by rw [← sortI_len L, h0]; rfl⟩
              · exact ⟨L.length, _, cp, by rw [h, sortI_len], rfl⟩
            obtain ⟨hvk, hvl⟩ := hvk
            have VK := Lib.hid hvk
            have VL := Lib.hid hvl
            rw [hvk]
            clear hvk hvl
            have hsz : w.heap.size ≤ w1.heap.size := Q1.out.2.2.2.1.size
            go_wp2_with (at_builtin; refine wpList_app1 w1 rfl (.tmp 57) (.tmp 60) 25 rfl w.heap.size 3 (.int .i64 0) 8 Tryd.underlying25 sll.infoInt rfl (by decide) _ _ _ (.int .i64 vl) rfl Q1.out.1 w1.heap.size rfl rfl rfl (by have := hDl.out; omega) hsz ?_)
            intro g1 cap1 w2 hown2 hgr
            have Q2 : Hid (OwnI 3 w2 w.heap.size (.slice (some ⟨g1, 0, none⟩) (D.length + 1) cap1) (D ++ [(vl : Int)]) ∧ OwnI 3 w2 HB (.slice va vl vc) (sortI L) ∧ (∀ j, 1 + 1 ≤ j → j < 4 → OwnI 3 w2 HB (V j) (way ⟨N, s, r⟩ c x j N) ∧ Apart (.slice (some ⟨g1, 0, none⟩) (D.length + 1) cap1) (V j)) ∧ Below w.heap.size w w2 ∧ Apart (.slice (some ⟨g1, 0, none⟩) (D.length + 1) cap1) (.slice va vl vc)) := by
              have hk1 := hgr.keep Q1.out.2.1 Q1.out.2.2.2.2
              rw [VK.out] at hk1
              exact ⟨by unfold OwnI; rw [List.length_append, ivs_append]; exact hown2, hk1.1, fun j hj hj4 => hgr.keep (Q1.out.2.2.1 j hj hj4).1 (Q1.out.2.2.1 j hj hj4).2, Q1.out.2.2.2.1.trans (hgr.below Q1.out.1 hsz), hk1.2⟩
            clear hown2 hgr hsz Q1
            have hsz2 : w.heap.size ≤ w2.heap.size := Q2.out.2.2.2.1.size
            have hl2 : (D ++ [(vl : Int)]).length + (sortI L).length ≤ 4398046511104 := by
              rw [List.length_append, sortI_len]; have := hDl.out; have := HLL.out.2; simp; omega
            go_wp2_with (at_builtin; refine wpList_appO w2 rfl (.tmp 61) (.tmp 62) 25 rfl w.heap.size HB 3 Tryd.underlying25 sll.infoInt _ _ rfl Q2.out.1 _ _ rfl Q2.out.2.1 (fun h => by rw [← VK.out]; exact hne.out (List.length_eq_zero_iff.1 (by rw [← sortI_len, h]; rfl))) hl2 hsz2 ?_)
            intro v9 w3 ho3 hgr
            have R : Hid (OwnI 3 w3 w.heap.size v9 (descTo ⟨N, s, r⟩ c x (1 + 1)) ∧ (∀ j, 1 + 1 ≤ j → j < 4 → OwnI 3 w3 HB (V j) (way ⟨N, s, r⟩ c x j N) ∧ Apart v9 (V j)) ∧ Below w.heap.size w w3) := by
              refine ⟨?_, fun j hj hj4 => hgr.keep (Q2.out.2.2.1 j hj hj4).1 (Q2.out.2.2.1 j hj hj4).2, Q2.out.2.2.2.1.trans (hgr.below Q2.out.1 hsz2)⟩
              rw [HS.out, ← HLL.out.1, ← VL.out, List.append_assoc]; exact ho3
            clear ho3 hgr hsz2 hl2 Q2
            go_wp2
            go_roundw
            case rel =>
              try rw [VK.out]
              first | exact ⟨1 + 1, by omega, by go_num, R.out⟩ | ((repeat apply Exists.intro); exact ⟨⟨1 + 1, by omega, by go_num, R.out⟩, rfl⟩)
            case measure => simp [intOf]
          · obtain ⟨L, hL⟩ : ∃ L, L = way ⟨N, s, r⟩ c x 2 N := ⟨_, rfl⟩
            have hLl : L.length ≤ 8 := by rw [hL]; have := way_len ⟨N, s, r⟩ c x 2 N; omega
            have HLL := Lib.hid (show _ ∧ _ from ⟨hL, hLl⟩)
            have hne : Hid (L = [] → v2 = .slice none 0 0) := fun h => by rw [HV.out.2.2.1]; exact AP.out.2 2 (by omega) (by rw [← hL]; exact h)
            have OWK : Hid (OwnI 3 wr HB v2 L ∧ Apart u10 v2) := by
              have := HQ.out.2.1 2 (Nat.le_refl _) (by omega)
              rw [← HV.out.2.2.1, ← hL] at this; exact this
            clear hL hLl
            have ix : ∀ w : World, (Instr.index 66 (.agg #[v0, v1, v2, v3]) (.int .i64 2)).run Tryd.prog w = .ok v2 w := fun _ => by kernel_rfl
            go_wp2_with fail
            clear ix
            refine (sortI_any v2 L _ HB OWK.out.1 (by have := HLL.out.2; omega)).mono ?_
            rintro e w1 ⟨rfl, ho, hg⟩
            have hbg : Below w.heap.size wr w1 := below_of_grown hg HQ.out.2.2.size fun q hq => by have := (OWK.out.1.lt q hq).1; omega
            have Q1 : Hid (OwnI 3 w1 w.heap.size u10 D ∧ OwnI 3 w1 HB v2 (sortI L) ∧ (∀ j, 2 + 1 ≤ j → j < 4 → OwnI 3 w1 HB (V j) (way ⟨N, s, r⟩ c x j N) ∧ Apart u10 (V j)) ∧ Below w.heap.size w w1 ∧ Apart u10 v2) :=
              ⟨HQ.out.1.keepMark hg OWK.out.2, ho, fun j hj hj4 => ⟨(HQ.out.2.1 j (by omega) hj4).1.keepMark hg (by rw [HV.out.2.2.1]; exact AP.out.1 j 2 hj4 (by omega) (by omega)), (HQ.out.2.1 j (by omega) hj4).2⟩, HQ.out.2.2.trans hbg, OWK.out.2⟩
            clear ho hg hbg OWK HQ
            obtain ⟨vl, va, vc, hvk⟩ : ∃ vl va vc, v2 = .slice va vl vc ∧ vl = L.length := by
              rcases Q1.out.2.1.shape with ⟨h, h0⟩ | ⟨g, cp, h⟩
              · exact ⟨0, none, 0, h, by rw [← sortI_len L, h0]; rfl⟩
              · exact ⟨L.length, _, cp, by rw [h, sortI_len], rfl⟩
            obtain ⟨hvk, hvl⟩ := hvk
            have VK := Lib.hid hvk
            have VL := Lib.hid hvl
            rw [hvk]
            clear hvk hvl
            have hsz : w.heap.size ≤ w1.heap.size := Q1.out.2.2.2.1.size
            go_wp2_with (at_builtin; refine wpList_app1 w1 rfl (.tmp 57) (.tmp 60) 25 rfl w.heap.size 3 (.int .i64 0) 8 Tryd.underlying25 sll.infoInt rfl (by decide) _ _ _ (.int .i64 vl) rfl Q1.out.1 w1.heap.size rfl rfl rfl (by have := hDl.out; omega) hsz ?_)
            intro g1 cap1 w2 hown2 hgr
            have Q2 : Hid (OwnI 3 w2 w.heap.size (.slice (some ⟨g1, 0, none⟩) (D.length + 1) cap1) (D ++ [(vl : Int)]) ∧ OwnI 3 w2 HB (.slice va vl vc) (sortI L) ∧ (∀ j, 2 + 1 ≤ j → j < 4 → OwnI 3 w2 HB (V j) (way ⟨N, s, r⟩ c x j N) ∧ Apart (.slice (some ⟨g1, 0, none⟩) (D.length + 1) cap1) (V j)) ∧ Below w.heap.size w w2 ∧ Apart (.slice (some ⟨g1, 0, none⟩) (D.length + 1) cap1) (.slice va vl vc)) := by
              have hk1 := hgr.keep Q1.out.2.1 Q1.out.2.2.2.2
              rw [VK.out] at hk1
              exact ⟨by unfold OwnI; rw [List.length_append, ivs_append]; exact hown2, hk1.1, fun j hj hj4 => hgr.keep (Q1.out.2.2.1 j hj hj4).1 (Q1.out.2.2.1 j hj hj4).2, Q1.out.2.2.2.1.trans (hgr.below Q1.out.1 hsz), hk1.2⟩
            clear hown2 hgr hsz Q1
            have hsz2 : w.heap.size ≤ w2.heap.size := Q2.out.2.2.2.1.size
            have hl2 : (D ++ [(vl : Int)]).length + (sortI L).length ≤ 4398046511104 := by
              rw [List.length_append, sortI_len]; have := hDl.out; have := HLL.out.2; simp; omega
            go_wp2_with (at_builtin; refine wpList_appO w2 rfl (.tmp 61) (.tmp 62) 25 rfl w.heap.size HB 3 Tryd.underlying25 sll.infoInt _ _ rfl Q2.out.1 _ _ rfl Q2.out.2.1 (fun h => by rw [← VK.out]; exact hne.out (List.length_eq_zero_iff.1 (by rw [← sortI_len, h]; rfl))) hl2 hsz2 ?_)
            intro v9 w3 ho3 hgr
            have R : Hid (OwnI 3 w3 w.heap.size v9 (descTo ⟨N, s, r⟩ c x (2 + 1)) ∧ (∀ j, 2 + 1 ≤ j → j < 4 → OwnI 3 w3 HB (V j) (way ⟨N, s, r⟩ c x j N) ∧ Apart v9 (V j)) ∧ Below w.heap.size w w3) := by
              refine ⟨?_, fun j hj hj4 => hgr.keep (Q2.out.2.2.1 j hj hj4).1 (Q2.out.2.2.1 j hj hj4).2, Q2.out.2.2.2.1.trans (hgr.below Q2.out.1 hsz2)⟩
              rw [HS.out, ← HLL.out.1, ← VL.out, List.append_assoc]; exact ho3
            clear ho3 hgr hsz2 hl2 Q2
            go_wp2
            go_roundw
            case rel =>
              try rw [VK.out]
              first | exact ⟨2 + 1, by omega, by go_num, R.out⟩ | ((repeat apply Exists.intro); exact ⟨⟨2 + 1, by omega, by go_num, R.out⟩, rfl⟩)
            case measure => simp [intOf]
          · obtain ⟨L, hL⟩ : ∃ L, L = way ⟨N, s, r⟩ c x 3 N := ⟨_, rfl⟩
            have hLl : L.length ≤ 8 := by rw [hL]; have := way_len ⟨N, s, r⟩ c x 3 N; omega
            have HLL := Lib.hid (show _ ∧ _ from ⟨hL, hLl⟩)
            have hne : Hid (L = [] → v3 = .slice none 0 0) := fun h => by rw [HV.out.2.2.2]; exact AP.out.2 3 (by omega) (by rw [← hL]; exact h)
            have OWK : Hid (OwnI 3 wr HB v3 L ∧ Apart u10 v3) := by
              have := HQ.out.2.1 3 (Nat.le_refl _) (by omega)
              rw [← HV.out.2.2.2, ← hL] at this; exact this
            clear hL hLl
            have ix : ∀ w : World, (Instr.index 66 (.agg #[v0, v1, v2, v3]) (.int .i64 3)).run Tryd.prog w = .ok v3 w := fun _ => by kernel_rfl
            go_wp2_with fail
            clear ix
            refine (sortI_any v3 L _ HB OWK.out.1 (by have := HLL.out.2; omega)).mono ?_
            rintro e w1 ⟨rfl, ho, hg⟩
            have hbg : Below w.heap.size wr w1 := below_of_grown hg HQ.out.2.2.size fun q hq => by have := (OWK.out.1.lt q hq).1; omega
            have Q1 : Hid (OwnI 3 w1 w.heap.size u10 D ∧ OwnI 3 w1 HB v3 (sortI L) ∧ (∀ j, 3 + 1 ≤ j → j < 4 → OwnI 3 w1 HB (V j) (way ⟨N, s, r⟩ c x j N) ∧ Apart u10 (V j)) ∧ Below w.heap.size w w1 ∧ Apart u10 v3) :=
              ⟨HQ.out.1.keepMark hg OWK.out.2, ho, fun j hj hj4 => ⟨(HQ.out.2.1 j (by omega) hj4).1.keepMark hg (by rw [HV.out.2.2.2]; exact AP.out.1 j 3 hj4 (by omega) (by omega)), (HQ.out.2.1 j (by omega) hj4).2⟩, HQ.out.2.2.trans hbg, OWK.out.2⟩
            clear ho hg hbg OWK HQ
            obtain ⟨vl, va, vc, hvk⟩ : ∃ vl va vc, v3 = .slice va vl vc ∧ vl = L.length := by
              rcases Q1.out.2.1.shape with ⟨h, h0⟩ | ⟨g, cp, h⟩
              · exact ⟨0, none, 0, h, by rw [← sortI_len L, h0]; rfl⟩
              · exact ⟨L.length, _, cp, by rw [h, sortI_len], rfl⟩
            obtain ⟨hvk, hvl⟩ := hvk
            have VK := Lib.hid hvk
            have VL := Lib.hid hvl
            rw [hvk]
            clear hvk hvl
            have hsz : w.heap.size ≤ w1.heap.size := Q1.out.2.2.2.1.size
            go_wp2_with (at_builtin; refine wpList_app1 w1 rfl (.tmp 57) (.tmp 60) 25 rfl w.heap.size 3 (.int .i64 0) 8 Tryd.underlying25 sll.infoInt rfl (by decide) _ _ _ (.int .i64 vl) rfl Q1.out.1 w1.heap.size rfl rfl rfl (by have := hDl.out; omega) hsz ?_)
            intro g1 cap1 w2 hown2 hgr
            have Q2 : Hid (OwnI 3 w2 w.heap.size (.slice (some ⟨g1, 0, none⟩) (D.length + 1) cap1) (D ++ [(vl : Int)]) ∧ OwnI 3 w2 HB (.slice va vl vc) (sortI L) ∧ (∀ j, 3 + 1 ≤ j → j < 4 → OwnI 3 w2 HB (V j) (way ⟨N, s, r⟩ c x j N) ∧ Apart (.slice (some ⟨g1, 0, none⟩) (D.length + 1) cap1) (V j)) ∧ Below w.heap.size w w2 ∧ Apart (.slice (some ⟨g1, 0, none⟩) (D.length + 1) cap1) (.slice va vl vc)) := by
              have hk1 := hgr.keep Q1.out.2.1 Q1.out.2.2.2.2
              rw [VK.out] at hk1
              exact ⟨by unfold OwnI; rw [List.length_append, ivs_append]; exact hown2, hk1.1, fun j hj hj4 => hgr.keep (Q1.out.2.2.1 j hj hj4).1 (Q1.out.2.2.1 j hj hj4).2, Q1.out.2.2.2.1.trans (hgr.below Q1.out.1 hsz), hk1.2⟩
            clear hown2 hgr hsz Q1
            have hsz2 : w.heap.size ≤ w2.heap.size := Q2.out.2.2.2.1.size
            have hl2 : (D ++ [(vl : Int)]).length + (sortI L).length ≤ 4398046511104 := by
              rw [List.length_append, sortI_len]; have := hDl.out; have := HLL.out.2; simp; omega
            go_wp2_with (at_builtin; refine wpList_appO w2 rfl (.tmp 61) (.tmp 62) 25 rfl w.heap.size HB 3 Tryd.underlying25 sll.infoInt _ _ rfl Q2.out.1 _ _ rfl Q2.out.2.1 (fun h => by rw [← VK.out]; exact hne.out (List.length_eq_zero_iff.1 (by rw [← sortI_len, h]; rfl))) hl2 hsz2 ?_)
            intro v9 w3 ho3 hgr
            have R : Hid (OwnI 3 w3 w.heap.size v9 (descTo ⟨N, s, r⟩ c x (3 + 1)) ∧ (∀ j, 3 + 1 ≤ j → j < 4 → OwnI 3 w3 HB (V j) (way ⟨N, s, r⟩ c x j N) ∧ Apart v9 (V j)) ∧ Below w.heap.size w w3) := by
              refine ⟨?_, fun j hj hj4 => hgr.keep (Q2.out.2.2.1 j hj hj4).1 (Q2.out.2.2.1 j hj hj4).2, Q2.out.2.2.2.1.trans (hgr.below Q2.out.1 hsz2)⟩
              rw [HS.out, ← HLL.out.1, ← VL.out, List.append_assoc]; exact ho3
            clear ho3 hgr hsz2 hl2 Q2
            go_wp2
            go_roundw
            case rel =>
              try rw [VK.out]
              first | exact ⟨3 + 1, by omega, by go_num, R.out⟩ | ((repeat apply Exists.intro); exact ⟨⟨3 + 1, by omega, by go_num, R.out⟩, rfl⟩)
            case measure => simp [intOf]
        · obtain rfl : k = 4 := by omega
          go_wp2
          go_ret
          exact ⟨_, rfl, by rw [HD.out] at HQ; exact HQ.out.1, HQ.out.2.2⟩
end Go.Proofs.YtglehegjimhbjaaDoor.desci
