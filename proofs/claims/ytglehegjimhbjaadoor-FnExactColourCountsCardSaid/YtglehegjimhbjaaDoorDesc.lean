/- l8Describe of the reference: an element's description by the colours of all. -/
import Derived.Test.YtglehegjimhbjaaDoorKind
import Derived.Test.YtglehegjimhbjaaDoorSrt
namespace Go.Proofs.YtglehegjimhbjaaDoor.descr
set_option linter.unusedVariables false
set_option linter.unusedSimpArgs false
open Go.ChangeShapes Go.WideShapes Go.ChangeAt Go.RowKit
open Go.Proofs.YtglehegjimhbjaaDoor.lib Go.Proofs.YtglehegjimhbjaaDoor.st Go.Proofs.YtglehegjimhbjaaDoor.base Go.Proofs.YtglehegjimhbjaaDoor.col Go.Proofs.YtglehegjimhbjaaDoor.sll Go.Proofs.YtglehegjimhbjaaDoor.kind Go.Proofs.YtglehegjimhbjaaDoor.srt

theorem sortI_nil : sortI [] = [] := by simp [sortI]
theorem way_zero (a : St) (c : List Int) (x k : Nat) : way a c x k 0 = [] := rfl
theorem way_yes {a : St} {c : List Int} {x k m : Nat} (h1 : m ≠ x) (h2 : kindOf a x m = k) : way a c x k (m + 1) = way a c x k m ++ [c.getD m 0] := by
  have : (m != x) = true := by simpa using h1
  simp [way, List.range_succ, this, h2]
theorem way_no {a : St} {c : List Int} {x k m : Nat} (h : m = x ∨ kindOf a x m ≠ k) : way a c x k (m + 1) = way a c x k m := by
  rcases h with h | h
  · simp [way, List.range_succ, h]
  · simp [way, List.range_succ, h]
theorem way_len (a : St) (c : List Int) (x k m : Nat) : (way a c x k m).length ≤ m := by
  unfold way
  rw [List.length_map]
  have := List.length_filter_le (fun y => y != x && kindOf a x y == k) (List.range m)
  rw [List.length_range] at this; exact this
theorem descTo_zero (a : St) (c : List Int) (x : Nat) : descTo a c x 0 = [c.getD x 0] := by simp [descTo]
theorem descTo_succ (a : St) (c : List Int) (x k : Nat) : descTo a c x (k + 1) = descTo a c x k ++ [((way a c x k a.n).length : Int)] ++ sortI (way a c x k a.n) := by
  simp [descTo, List.range_succ, wayOut]
theorem descTo_len (a : St) (c : List Int) (x k : Nat) : (descTo a c x k).length ≤ 1 + k * (a.n + 1) := by
  induction k with
  | zero => rw [descTo_zero]; simp
  | succ k ih =>
    have := way_len a c x k a.n
    rw [descTo_succ, List.length_append, List.length_append, sortI_len, Nat.succ_mul]
    simp only [List.length_cons, List.length_nil]
    omega
theorem kindOf_lt (a : St) (x y : Nat) : kindOf a x y ≤ 3 := by
  unfold kindOf n01
  split <;> split <;> omega
theorem int_spot {w : World} {ao : Option Addr} {n cap : Nat} {l : List Int} (h : Reads w (.slice ao n cap) l) (hn : n = l.length) (h1 : 1 ≤ n) :
    ∃ b off, ao = some ⟨b, off, none⟩ ∧ b < w.heap.size ∧ ∀ i, i < n → w.cell? ⟨b, off + i, none⟩ = some (.int .i64 (l.getD i 0)) := by
  obtain ⟨ao', c', hv', hc', _⟩ := h
  simp only [Value.slice.injEq] at hv'
  rcases hc' with h | ⟨b, off, he, hc⟩
  · rw [h] at hn; simp at hn; omega
  · exact ⟨b, off, hv'.1.trans he, World.block_lt_of_cell? w _ (hc 0 (by omega)), fun i hi => hc i (by omega)⟩

set_option maxHeartbeats 6400000 in
set_option maxRecDepth 100000 in
theorem l8Describe_any (N : Nat) (s r : ByteArray) (c : List Int) (v : Value) (x : Nat) (w : World) (hx : x < N) (hn : N ≤ 8) (hr : r.size = N * N) (hv : Reads w v c) (hc : c.length = N) :
    Calls Tryd.prog 48 #[.agg #[.int .i64 N, .string s, .string r], v, .int .i64 x] w fun e w' => ∃ v0, e = .returned v0 ∧ OwnI 3 w' w.heap.size v0 (desc ⟨N, s, r⟩ c x) ∧ Below w.heap.size w w' := by
  obtain ⟨ao, cap, rfl⟩ := hv.len
  rw [hc] at hv ⊢
  obtain ⟨b, off, rfl, hbw, hcell⟩ := int_spot hv hc.symm (by omega)
  obtain ⟨W1, hW1⟩ : ∃ W1, W1 = w.alloc (.cells #[.int .i64 N, .string s, .string r] 28) := ⟨_, rfl⟩
  have BX : Hid (Box 28 W1 w.heap.size N s r) := by rw [hW1]; exact Box.new _ w _ rfl _ _ _
  have AW : Hid (Below w.heap.size w W1) := by rw [hW1]; exact (Below.refl _ _).alloc (Nat.le_refl _) _
  have Z1 : Hid (W1.heap.size = w.heap.size + 1) := by rw [Hid, hW1]; simp
  have HC := Lib.hid hcell
  obtain ⟨cx, hcx⟩ : ∃ cx, cx = c.getD x 0 := ⟨_, rfl⟩
  have k0 : w.cell? ⟨b, off + x, none⟩ = some (.int .i64 cx) := by rw [hcx]; exact hcell x hx
  have HCX := Lib.hid hcx
  have HW1 := Lib.hid hW1
  have HR := Lib.hid (show _ ∧ _ from ⟨hr, hc⟩)
  have A2 : Hid (Below W1.heap.size W1 (W1.alloc (.cells #[.int .i64 cx] 3))) := (Below.refl _ _).alloc (Nat.le_refl _) _
  have START : Hid (OwnI 3 (W1.alloc (.cells #[.int .i64 cx] 3)) W1.heap.size (.slice (some ⟨w.heap.size + 1, 0, none⟩) 1 1) (descTo ⟨N, s, r⟩ c x 0) ∧ Below W1.heap.size W1 (W1.alloc (.cells #[.int .i64 cx] 3))) :=
    ⟨by rw [descTo_zero, ← hcx, ← Z1.out]; exact oneRow _ _ _ _ _ rfl (Nat.le_refl _), A2.out⟩
  clear hv hc hr hcell hcx hW1
  go_enter Tryd.func48, Tryd.ntmps48
  go_wp2_with fail
  rw [← HW1.out]
  obtain ⟨HB, hHB⟩ : ∃ HB, HB = W1.heap.size := ⟨_, rfl⟩
  have hwB : w.heap.size < HB := by have := Z1.out; omega
  have HHB := Lib.hid hHB
  rw [← hHB] at START
  have h1 : (1 : Nat) = (descTo ⟨N, s, r⟩ c x 0).length := by rw [descTo_zero]; rfl
  have H1 := Lib.hid h1
  try rw [← HHB.out]
  clear h1 hHB k0 A2
  go_loopw [7, 8] (fun u i wr => ∃ (k g cp : Nat), k ≤ 4 ∧ i = .int .i64 k ∧ u = .slice (some ⟨g, 0, none⟩) (descTo ⟨N, s, r⟩ c x k).length cp ∧ OwnI 3 wr HB u (descTo ⟨N, s, r⟩ c x k) ∧ Below HB W1 wr) (fun _ i _ => 4 - (intOf i).toNat)
  case atStart => exact ⟨0, w.heap.size + 1, 1, by omega, rfl, by rw [← H1.out], START.out⟩
  case round =>
    clear START H1
    obtain ⟨k, g, cp, hk, rfl, rfl, q1, q2⟩ := hrel
    obtain ⟨D, hD⟩ : ∃ D, D = descTo ⟨N, s, r⟩ c x k := ⟨_, rfl⟩
    have hDl : D.length ≤ 40 := by
      rw [hD]
      have := descTo_len ⟨N, s, r⟩ c x k
      have h2 : k * (N + 1) ≤ 4 * 9 := Nat.mul_le_mul hk (by omega)
      simp only at this
      omega
    rw [← hD] at q1 ⊢
    obtain ⟨dl, hdl⟩ : ∃ dl, dl = D.length := ⟨_, rfl⟩
    rw [← hdl] at q1 hDl ⊢
    have HQ := Lib.hid (show _ ∧ _ from ⟨q1, q2⟩)
    have HD := Lib.hid (show _ ∧ _ from ⟨hD, hdl⟩)
    clear q1 q2 hD hdl
    have hBw : HB ≤ wr.heap.size := by have := HQ.out.1.ge; omega
    by_cases hk4 : k < 4
    · have A3 : Hid (Below wr.heap.size wr (wr.alloc (.cells #[] 3))) := (Below.refl _ _).alloc (Nat.le_refl _) _
      obtain ⟨B2, hB2⟩ : ∃ B2, B2 = wr.heap.size := ⟨_, rfl⟩
      have ST : Hid (OwnI 3 (wr.alloc (.cells #[] 3)) B2 (.slice (some ⟨B2, 0, none⟩) 0 0) (sortI (way ⟨N, s, r⟩ c x k 0)) ∧ OwnI 3 (wr.alloc (.cells #[] 3)) HB (.slice (some ⟨g, 0, none⟩) dl cp) D ∧ Below HB W1 (wr.alloc (.cells #[] 3))) :=
        ⟨by rw [hB2, way_zero, sortI_nil]; exact emptyRow _ _ _ _ rfl (Nat.le_refl _), HQ.out.1.below A3.out (Nat.le_refl _), HQ.out.2.trans (A3.out.mono hBw)⟩
      have HB2 := Lib.hid hB2
      have tk4 : decide ((k : Int) < 4) = true := by simp; omega
      have hgB : g < B2 := by have := HQ.out.1.ge; omega
      clear hB2
      go_wp2_with fail
      rw [← HB2.out]
      go_loopw [9, 10] (fun u i wr => ∃ (y g2 cp2 : Nat), y ≤ N ∧ i = .int .i64 y ∧ u = .slice (some ⟨g2, 0, none⟩) (way ⟨N, s, r⟩ c x k y).length cp2 ∧ OwnI 3 wr B2 u (sortI (way ⟨N, s, r⟩ c x k y)) ∧ OwnI 3 wr HB (.slice (some ⟨g, 0, none⟩) dl cp) D ∧ Below HB W1 wr) (fun _ i _ => N - (intOf i).toNat)
      case atStart => exact ⟨0, B2, 0, Nat.zero_le _, rfl, by rw [way_zero]; rfl, ST.out⟩
      case round =>
        clear ST A3 HQ
        obtain ⟨y, g2, cp2, hy, rfl, rfl, q1, q2, q3⟩ := hrel
        obtain ⟨L, hL⟩ : ∃ L, L = way ⟨N, s, r⟩ c x k y := ⟨_, rfl⟩
        have hLl : L.length ≤ 8 := by rw [hL]; have := way_len ⟨N, s, r⟩ c x k y; omega
        rw [← hL] at q1 ⊢
        obtain ⟨m, hm⟩ : ∃ m, m = L.length := ⟨_, rfl⟩
        rw [← hm] at q1 hLl ⊢
        have HQ := Lib.hid (show _ ∧ _ ∧ _ from ⟨q1, q2, q3⟩)
        have HL := Lib.hid (show _ ∧ _ from ⟨hL, hm⟩)
        clear q1 q2 q3 hL hm
        have hB2w : B2 ≤ wr.heap.size := by have := HQ.out.1.ge; omega
        have hBw2 : HB ≤ wr.heap.size := by have := HQ.out.2.1.ge; omega
        have BXW := Lib.hid (BX.out.below HQ.out.2.2 hwB)
        obtain ⟨a0, a1, a2⟩ := BXW.out.c
        by_cases hyN : y < N
        · by_cases hyx : y = x
          · have HW : Hid (way ⟨N, s, r⟩ c x k (y + 1) = L) := by rw [Hid, HL.out.1]; exact way_no (.inl hyx)
            have t1 : ((y : Int) != (x : Int)) = false := by simp; omega
            clear hyx
            go_wp2
            go_roundw
            case rel => exact ⟨y + 1, g2, cp2, by omega, by go_num, by rw [HW.out, HL.out.2], by rw [HW.out]; exact HQ.out.1, HQ.out.2⟩
            case measure => simp [intOf]; omega
          · have t1 : ((y : Int) != (x : Int)) = true := by simp; omega
            obtain ⟨kd, hkd⟩ : ∃ kd, kd = kindOf ⟨N, s, r⟩ x y := ⟨_, rfl⟩
            have hkd3 : kd ≤ 3 := by rw [hkd]; exact kindOf_lt _ _ _
            have HKD := Lib.hid hkd
            have HYX := Lib.hid hyx
            clear hkd hyx
            go_wp2_with fail
            refine (l8Kind_any N s r x y _ hx hyN hn HR.out.1).mono ?_
            rintro e w2 ⟨rfl, hb⟩
            rw [← HKD.out]
            have HQ2 := Lib.hid (show _ ∧ _ ∧ _ from ⟨HQ.out.1.below hb (Nat.le_refl _), HQ.out.2.1.below hb (Nat.le_refl _), HQ.out.2.2.trans (hb.mono hBw2)⟩)
            clear hb a0 a1 a2 HQ BXW
            by_cases hkk : kd = k
            · have t2 : ((kd : Int) == (k : Int)) = true := by simp; omega
              obtain ⟨cy, hcy⟩ : ∃ cy, cy = c.getD y 0 := ⟨_, rfl⟩
              have HBW : Hid (Below w.heap.size w w2) := AW.out.trans (HQ2.out.2.2.mono (by omega))
              have ky : w2.cell? ⟨b, off + y, none⟩ = some (.int .i64 cy) := by rw [HBW.out.cell hbw, hcy]; exact HC.out y hyN
              have HW : Hid (way ⟨N, s, r⟩ c x k (y + 1) = L ++ [cy]) := by rw [Hid, HL.out.1, hcy]; exact way_yes HYX.out (by rw [← HKD.out, hkk])
              have CS : Hid (Calls Tryd.prog 71 #[.slice (some ⟨g2, 0, none⟩) m cp2, .int .i64 cy] w2 fun e w' => ∃ g' cap', e = .returned (.slice (some ⟨g', 0, none⟩) (m + 1) cap') ∧ OwnI 3 w' w2.heap.size (.slice (some ⟨g', 0, none⟩) (m + 1) cap') (sortI (L ++ [cy])) ∧ Below w2.heap.size w2 w') := by
                have h := l8Sort_any B2 g2 cp2 L cy w2 (by rw [← HL.out.2]; exact HQ2.out.1) (by have := HQ2.out.1.ge; omega) (by have := HL.out.2; omega)
                rw [← HL.out.2] at h
                exact h
              clear hcy hkk
              go_wp2_with fail
              refine CS.out.mono ?_
              rintro e w3 ⟨g', cap', rfl, ho, hb⟩
              have R1 : Hid (OwnI 3 w3 B2 (.slice (some ⟨g', 0, none⟩) (m + 1) cap') (sortI (way ⟨N, s, r⟩ c x k (y + 1)))) := by rw [HW.out]; exact ho.mono (by have := HQ2.out.1.ge; omega)
              have R2 := Lib.hid (show _ ∧ _ from ⟨HQ2.out.2.1.below hb (Nat.le_refl _), HQ2.out.2.2.trans (hb.mono (by have := HQ2.out.2.1.ge; omega))⟩)
              have HLN : Hid ((way ⟨N, s, r⟩ c x k (y + 1)).length = m + 1) := by rw [Hid, HW.out, List.length_append, ← HL.out.2]; rfl
              clear ho hb ky
              go_wp2
              go_roundw
              case rel => first | exact ⟨y + 1, g', cap', by omega, by go_num, by rw [HLN.out], R1.out, R2.out⟩ | ((repeat apply Exists.intro); exact ⟨⟨y + 1, g', cap', by omega, by go_num, by rw [HLN.out], R1.out, R2.out⟩, rfl⟩)
              case measure => simp [intOf]; omega
            · have t2 : ((kd : Int) == (k : Int)) = false := by simp; omega
              have HW : Hid (way ⟨N, s, r⟩ c x k (y + 1) = L) := by rw [Hid, HL.out.1]; exact way_no (.inr (by rw [← HKD.out]; exact hkk))
              clear hkk
              go_wp2
              go_roundw
              case rel => exact ⟨y + 1, g2, cp2, by omega, by go_num, by rw [HW.out, HL.out.2], by rw [HW.out]; exact HQ2.out.1, HQ2.out.2⟩
              case measure => simp [intOf]; omega
        · obtain rfl : N = y := by omega
          have HDS : Hid (descTo ⟨N, s, r⟩ c x (k + 1) = D ++ [(m : Int)] ++ sortI L) := by
            rw [Hid, descTo_succ, HD.out.1, HL.out.2, HL.out.1]
          have HDL : Hid ((descTo ⟨N, s, r⟩ c x (k + 1)).length = dl + 1 + m) := by
            rw [Hid, HDS.out, List.length_append, List.length_append, sortI_len, ← HL.out.2, ← HD.out.2]; rfl
          have hrow : OwnI 3 wr HB (.slice (some ⟨g, 0, none⟩) dl cp) D := HQ.out.2.1
          unfold OwnI at hrow
          rw [← HD.out.2] at hrow
          have HROW := Lib.hid hrow
          clear hrow
          go_wp2_with (at_builtin; refine wpList_app1 wr rfl (.tmp 44) (.tmp 47) 25 rfl HB 3 (.int .i64 0) 8 Tryd.underlying25 infoInt rfl (by decide) _ _ _ (.int .i64 m) rfl HROW.out wr.heap.size rfl rfl rfl (by omega) hBw2 ?_)
          intro g3 cap3 w4 hown3 hgr
          have HO3 : Hid (OwnI 3 w4 HB (.slice (some ⟨g3, 0, none⟩) (dl + 1) cap3) (D ++ [(m : Int)])) := by
            unfold Hid OwnI; rw [List.length_append, ivs_append, ← HD.out.2]; exact hown3
          have HB4 : Hid (Below HB wr w4) := hgr.below HROW.out hBw2
          have HLR : Hid (Reads w4 (.slice (some ⟨g2, 0, none⟩) m cp2) (sortI L)) := by
            have hge := HQ.out.1.ge
            refine reads_kept (HQ.out.1.reads) hgr.grown (fun q hq => ?_)
            simp [Value.ownBlock] at hq ⊢
            omega
          clear hown3 hgr a0 a1 a2
          go_wp2_with (at_builtin; refine wpList_appAll w4 rfl (.tmp 48) (.tmp 49) 25 rfl HB 3 Tryd.underlying25 infoInt _ (D ++ [(m : Int)]) (sortI L) rfl HO3.out _ rfl HLR.out (by rw [List.length_append, sortI_len, ← HL.out.2, ← HD.out.2]; simp; omega) (Nat.le_trans hBw2 HB4.out.size) ?_)
          intro v5 w5 ho5 hg5 hge5
          have hsh := ho5.shape
          rcases hsh with ⟨_, h0⟩ | ⟨g5, cap5, rfl⟩
          · simp at h0
          have HB5 : Hid (Below HB w4 w5) := below_of_grown hg5 (Nat.le_trans hBw2 HB4.out.size) (fun q hq => (World.ownsRow.lt HO3.out q hq).1)
          have e6 : descTo ⟨N, s, r⟩ c x (k + 1) = D ++ (m : Int) :: sortI L := by rw [HDS.out]; simp
          have e5 : (D ++ (m : Int) :: sortI L).length = dl + 1 + m := by rw [← e6, HDL.out]
          rw [e5] at ho5
          rw [← e6] at ho5
          have R := Lib.hid (show _ ∧ _ from ⟨ho5, (HQ.out.2.2.trans HB4.out).trans HB5.out⟩)
          rw [e5]
          clear ho5 hg5 hge5 e5 e6
          go_wp2
          go_roundw
          case rel => exact ⟨k + 1, g5, cap5, by omega, by go_num, by rw [HDL.out], R.out⟩
          case measure => simp [intOf]; omega
    · obtain rfl : k = 4 := by omega
      have HF : Hid (D = desc ⟨N, s, r⟩ c x) := HD.out.1
      go_wp2
      go_ret
      exact ⟨_, rfl, by rw [← HF.out]; exact HQ.out.1.mono (by omega), AW.out.trans (HQ.out.2.mono (by omega))⟩
end Go.Proofs.YtglehegjimhbjaaDoor.descr
