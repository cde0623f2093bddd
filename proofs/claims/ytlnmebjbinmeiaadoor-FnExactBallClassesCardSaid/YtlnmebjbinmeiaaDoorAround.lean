/- aroundOf: the structure of a ball, in the program. -/
import Derived.Test.YtlnmebjbinmeiaaDoorPart
import Derived.Test.YtlnmebjbinmeiaaDoorBallS
namespace Go.Proofs.YtlnmebjbinmeiaaDoor.around
set_option linter.unusedVariables false
set_option linter.unusedSimpArgs false
open Go.ChangeShapes Go.WideShapes Go.ChangeAt Go.RowKit
open Go.Proofs.YtlnmebjbinmeiaaDoor.lib Go.Proofs.YtlnmebjbinmeiaaDoor.st Go.Proofs.YtlnmebjbinmeiaaDoor.base Go.Proofs.YtlnmebjbinmeiaaDoor.make Go.Proofs.YtlnmebjbinmeiaaDoor.near Go.Proofs.YtlnmebjbinmeiaaDoor.dist Go.Proofs.YtlnmebjbinmeiaaDoor.ball Go.Proofs.YtlnmebjbinmeiaaDoor.fits Go.Proofs.YtlnmebjbinmeiaaDoor.part

/-- the ball's elements, the middle first -/
noncomputable def midN (n : Nat) (r : ByteArray) (x : Nat) (rad : Int) : List Nat := x :: (List.range n).filter (fun y => (y != x) && inBall n r x rad y)
theorem midN_ints (n : Nat) (r : ByteArray) (x : Nat) (rad : Int) : midTo n r x rad n = ints (midN n r x rad) := rfl
theorem midN_lt {n : Nat} {r : ByteArray} {x : Nat} {rad : Int} (hx : x < n) : ∀ y, y ∈ midN n r x rad → y < n := by
  intro y hy
  rcases List.mem_cons.1 hy with rfl | h
  · exact hx
  · exact List.mem_range.1 (List.mem_filter.1 h).1
theorem midN_nodup (n : Nat) (r : ByteArray) (x : Nat) (rad : Int) : (midN n r x rad).Nodup := by
  refine List.nodup_cons.2 ⟨fun h => ?_, List.nodup_range.filter _⟩
  have := (List.mem_filter.1 h).2
  simp at this
theorem midN_len {n : Nat} {r : ByteArray} {x : Nat} {rad : Int} (hx : x < n) : (midN n r x rad).length ≤ n := by
  have h := (midN_nodup n r x rad).length_le_of_subset (l₂ := List.range n) (fun y hy => List.mem_range.2 (midN_lt hx y hy))
  simpa using h
theorem midN_pos (n : Nat) (r : ByteArray) (x : Nat) (rad : Int) : 1 ≤ (midN n r x rad).length := by simp [midN]
/-- the ball's elements in order -/
noncomputable def ballN (n : Nat) (r : ByteArray) (x : Nat) (rad : Int) : List Nat := (List.range n).filter (inBall n r x rad)
theorem ballN_ints (n : Nat) (r : ByteArray) (x : Nat) (rad : Int) : ballTo n r x rad n = ints (ballN n r x rad) := rfl
theorem ballN_len (n : Nat) (r : ByteArray) (x : Nat) (rad : Int) : (ballN n r x rad).length ≤ n := by
  unfold ballN
  have := List.length_filter_le (inBall n r x rad) (List.range n)
  rw [List.length_range] at this; exact this
/-- the middle and those of the first j that are others -/
noncomputable def arTo (n : Nat) (r : ByteArray) (x : Nat) (rad : Int) (j : Nat) : List Nat := x :: ((ballN n r x rad).take j).filter (fun y => y != x)
theorem arTo_all (n : Nat) (r : ByteArray) (x : Nat) (rad : Int) : arTo n r x rad (ballN n r x rad).length = midN n r x rad := by
  unfold arTo midN
  rw [List.take_length, ballN, List.filter_filter]
theorem arTo_yes {n : Nat} {r : ByteArray} {x : Nat} {rad : Int} {j y : Nat} (hj : j < (ballN n r x rad).length) (hy : (ballN n r x rad).getD j 0 = y) (h : y ≠ x) : arTo n r x rad (j + 1) = arTo n r x rad j ++ [y] := by
  unfold arTo
  rw [List.take_succ_eq_append_getElem hj, List.filter_append]
  rw [List.getD_eq_getElem?_getD, List.getElem?_eq_getElem hj, Option.getD_some] at hy
  rw [hy]
  have : (y != x) = true := by simpa using h
  simp [this]
theorem arTo_no {n : Nat} {r : ByteArray} {x : Nat} {rad : Int} {j : Nat} (hj : j < (ballN n r x rad).length) (hy : (ballN n r x rad).getD j 0 = x) : arTo n r x rad (j + 1) = arTo n r x rad j := by
  unfold arTo
  rw [List.take_succ_eq_append_getElem hj, List.filter_append]
  rw [List.getD_eq_getElem?_getD, List.getElem?_eq_getElem hj, Option.getD_some] at hy
  rw [hy]
  simp
theorem arTo_len (n : Nat) (r : ByteArray) (x : Nat) (rad : Int) (j : Nat) : (arTo n r x rad j).length ≤ j + 1 := by
  unfold arTo
  rw [List.length_cons]
  have := List.length_filter_le (fun y => y != x) ((ballN n r x rad).take j)
  have := List.length_take_le j (ballN n r x rad)
  omega

set_option maxHeartbeats 1600000 in
theorem aroundOf_any (n : Nat) (s r : ByteArray) (x : Nat) (rad : Int) (w : World) (hx : x < n) (hn : n ≤ 8) (hs : s.size = n) (hr : r.size = n * n) :
    Calls Tryd.prog 102 #[.agg #[.int .i64 n, .string s, .string r], .int .i64 x, .int .i64 rad] w fun e w' =>
      e = .returned (.agg #[.int .i64 (midN n r x rad).length, .string (bS (pS s (midN n r x rad)) (midN n r x rad).length), .string (bR (pR n r (midN n r x rad)) (midN n r x rad).length (midN n r x rad).length)]) ∧ Below w.heap.size w w' := by
  obtain ⟨W1, hW1⟩ : ∃ W1, W1 = w.alloc (.cells #[.int .i64 n, .string s, .string r] 25) := ⟨_, rfl⟩
  have z1 : W1.heap.size = w.heap.size + 1 := by rw [hW1]; simp
  have A1 : Below w.heap.size w W1 := by rw [hW1]; exact (Below.refl _ _).alloc (Nat.le_refl _) _
  have B1 : Box 25 W1 w.heap.size n s r := by rw [hW1]; exact Box.new _ w _ rfl _ _ _
  obtain ⟨W2, hW2⟩ : ∃ W2, W2 = W1.alloc (.cells #[.int .i64 0, .string ⟨#[]⟩, .string ⟨#[]⟩] 25) := ⟨_, rfl⟩
  have z2 : W2.heap.size = w.heap.size + 2 := by rw [hW2]; simp [z1]
  have A2 : Below W1.heap.size W1 W2 := by rw [hW2]; exact (Below.refl _ _).alloc (Nat.le_refl _) _
  have B2 : Box 25 W2 (w.heap.size + 1) 0 ⟨#[]⟩ ⟨#[]⟩ := by rw [hW2]; exact Box.new _ W1 _ z1 _ _ _
  obtain ⟨W3, hW3⟩ : ∃ W3, W3 = W2.alloc (.cells #[.int .i64 x] 3) := ⟨_, rfl⟩
  have A3 : Below W2.heap.size W2 W3 := by rw [hW3]; exact (Below.refl _ _).alloc (Nat.le_refl _) _
  have O3 : OwnI 3 W3 (w.heap.size + 2) (.slice (some ⟨w.heap.size + 2, 0, none⟩) 1 1) [(x : Int)] := by rw [hW3]; exact oneRow _ _ _ _ _ z2 (Nat.le_refl _)
  have A02 := A1.trans (A2.mono (by omega))
  have A03 := A02.trans (A3.mono (by omega))
  have BA := Lib.hid ((B1.below A2 B1.lt).below A3 (by omega))
  have BR := Lib.hid (B2.below A3 B2.lt)
  have HO3 := Lib.hid O3
  have HA := Lib.hid A03
  have HS := Lib.hid (show _ ∧ _ from ⟨hs, hr⟩)
  have HZ : Hid (W3.heap.size = w.heap.size + 3) := by rw [Hid, hW3]; simp [z2]
  have HW : Hid (W3 = ((w.alloc (.cells #[.int .i64 n, .string s, .string r] 25)).alloc (.cells #[.int .i64 0, .string ⟨#[]⟩, .string ⟨#[]⟩] 25)).alloc (.cells #[.int .i64 x] 3)) := by rw [Hid, hW3, hW2, hW1]
  clear hW1 hW2 hW3 z1 z2 A1 A2 A3 B1 B2 O3 A02 A03 hs hr
  go_enter Tryd.func102, Tryd.ntmps102
  go_wp2_with fail
  rw [← HW.out]
  refine (ballOf_any n s r x rad _ hx hn HS.out.2).mono ?_
  rintro e w1 ⟨v, rfl, ho, hw⟩
  rw [ballN_ints] at ho
  obtain ⟨ao, cb, rfl⟩ := ho.reads.len
  obtain ⟨m, hm⟩ : ∃ m, m = (ballN n r x rad).length := ⟨_, rfl⟩
  rw [ints_len, ← hm] at ho ⊢
  have hm8 : m ≤ 8 := by rw [hm]; have := ballN_len n r x rad; omega
  have HM := Lib.hid hm
  have START : Hid (OwnI 3 w1 (w.heap.size + 2) (.slice (some ⟨w.heap.size + 2, 0, none⟩) 1 1) (ints (arTo n r x rad 0)) ∧ Reads w1 (.slice ao m cb) (ints (ballN n r x rad)) ∧ (∀ b off, ao = some ⟨b, off, none⟩ → b ≠ w.heap.size + 2) ∧ Below w.heap.size w w1 ∧ Box 25 w1 w.heap.size n s r ∧ Box 25 w1 (w.heap.size + 1) 0 ⟨#[]⟩ ⟨#[]⟩) := by
    refine ⟨HO3.out.below hw (Nat.le_refl _), ho.reads, fun b off e => ?_, HA.out.trans (hw.mono (by have := HA.out.size; omega)), BA.out.below hw BA.out.lt, BR.out.below hw BR.out.lt⟩
    have := (World.ownsRow.lt ho b (by rw [e]; rfl)).1
    have := HZ.out
    omega
  clear ho hw hm HO3 BA BR HA HW
  go_wp2_with fail
  go_loopw [7, 17] (fun v i wr => ∃ k : Nat, k ≤ m ∧ i = .int .i64 k ∧ OwnI 3 wr (w.heap.size + 2) v (ints (arTo n r x rad k)) ∧ Reads wr (.slice ao m cb) (ints (ballN n r x rad)) ∧ (∀ b off, ao = some ⟨b, off, none⟩ → ∀ q, v.ownBlock = some q → b ≠ q) ∧ Below w.heap.size w wr ∧ Box 25 wr w.heap.size n s r ∧ Box 25 wr (w.heap.size + 1) 0 ⟨#[]⟩ ⟨#[]⟩) (fun _ i _ => m - (intOf i).toNat)
  case atStart =>
    exact ⟨0, Nat.zero_le _, rfl, START.out.1, START.out.2.1, fun b off e q hq => by simp [Value.ownBlock] at hq; have := START.out.2.2.1 b off e; omega, START.out.2.2.2⟩
  case round =>
    clear START
    obtain ⟨k, hk, rfl, hown, hrd, hne, hbl, hba, hbr⟩ := hrel
    have HO := Lib.hid (show _ ∧ _ ∧ _ ∧ _ ∧ _ ∧ _ from ⟨hown, hrd, hne, hbl, hba, hbr⟩)
    have HL := Lib.hid (arTo_len n r x rad k)
    clear hown hrd hne hbl hba hbr
    by_cases hlt : k < m
    · obtain ⟨b, off, rfl, hbl, hc⟩ := lies HO.out.2.1 HM.out (by omega)
      have ck := hc k hlt
      obtain ⟨y, hy⟩ : ∃ y, (ballN n r x rad).getD k 0 = y := ⟨_, rfl⟩
      rw [hy] at ck
      have HC := Lib.hid hc
      have HY := Lib.hid hy
      clear hc hy hbl
      by_cases hyx : y = x
      · subst hyx
        have R : Hid (OwnI 3 wr (w.heap.size + 2) u7 (ints (arTo n r y rad (k + 1)))) := by rw [Hid, arTo_no (by rw [← HM.out]; exact hlt) HY.out]; exact HO.out.1
        go_wp2
        go_roundw
        case rel => exact ⟨k + 1, by omega, by go_num, R.out, HO.out.2⟩
        case measure => simp [intOf]; omega
      · have HSU : Hid (arTo n r x rad (k + 1) = arTo n r x rad k ++ [y]) := arTo_yes (by rw [← HM.out]; exact hlt) HY.out hyx
        have t1 : ((y : Int) != (x : Int)) = true := by simp; omega
        have hsz : w.heap.size + 2 ≤ wr.heap.size := by have := HO.out.2.2.2.2.2.lt; omega
        clear hyx
        go_wp2_with (at_builtin; refine wpList_app1 wr rfl (.tmp 24) (.tmp 26) 31 rfl (w.heap.size + 2) 3 (.int .i64 0) 8 Tryd.underlying31 infoInt rfl (by decide) _ _ _ (.int .i64 y) rfl HO.out.1 wr.heap.size rfl rfl rfl (by rw [ints_len]; have := HL.out; omega) hsz ?_)
        intro g cap' w9 hown9 hgr
        rw [ints_len] at hown9 hgr ⊢
        have hb2 : Below (w.heap.size + 2) wr w9 := hgr.below HO.out.1 hsz
        have R : Hid (OwnI 3 w9 (w.heap.size + 2) (.slice (some ⟨g, 0, none⟩) ((arTo n r x rad k).length + 1) cap') (ints (arTo n r x rad (k + 1))) ∧ Reads w9 (.slice (some ⟨b, off, none⟩) m cb) (ints (ballN n r x rad)) ∧ b ≠ g ∧ Below w.heap.size w w9 ∧ Box 25 w9 w.heap.size n s r ∧ Box 25 w9 (w.heap.size + 1) 0 ⟨#[]⟩ ⟨#[]⟩) := by
          refine ⟨by rw [HSU.out, ints_app]; unfold OwnI; rw [List.length_append, ivs_append, ints_len]; exact hown9, ⟨_, cb, by rw [ints_len, ← HM.out], .inr ⟨b, off, rfl, fun i hi => ?_⟩, fun h => by cases h⟩, ?_, HO.out.2.2.2.1.trans (hb2.mono (by omega)), HO.out.2.2.2.2.1.below hb2 (by omega), HO.out.2.2.2.2.2.below hb2 (by omega)⟩
          · rw [ints_len, ← HM.out] at hi
            rw [ints_get]
            exact hgr.grown.cell (HC.out i hi) (fun e => HO.out.2.2.1 b off rfl _ e.symm rfl)
          · rcases hgr.blk g (by simp [Value.ownBlock]) with hq | hq
            · exact HO.out.2.2.1 b off rfl g hq
            · have := World.block_lt_of_cell? wr _ (HC.out k hlt)
              simp at this; omega
        clear hown9 hgr hsz hb2
        go_wp2
        go_roundw
        case rel => exact ⟨k + 1, by omega, by go_num, R.out.1, R.out.2.1, fun b' off' e q hq => by simp [Value.ownBlock] at hq; cases e; have := R.out.2.2.1; omega, R.out.2.2.2⟩
        case measure => simp [intOf]; omega
    · obtain rfl : m = k := by omega
      have hown := HO.out.1
      rw [HM.out, arTo_all] at hown
      have RD := Lib.hid hown.reads
      have HQ := Lib.hid HO.out.2.2.2
      obtain ⟨c0, c1, c2⟩ := HQ.out.2.1.c
      clear hown HO HL
      go_wp2_with fail
      refine (partOf_any n s r (midN n r x rad) _ _ RD.out (midN_lt hx) (by have := midN_len (n := n) (r := r) (x := x) (rad := rad) hx; omega) HS.out.1 HS.out.2 hn).mono ?_
      rintro e W4 ⟨rfl, hb⟩
      have B4 := HQ.out.2.2.below hb HQ.out.2.2.lt
      obtain ⟨z0, z1, z2⟩ := B4.c
      have g0 := B4.free 0
      have g1 := B4.free 1
      have g2 := B4.free 2
      have HF := Lib.hid (((B4.set0 (midN n r x rad).length).set1 (bS (pS s (midN n r x rad)) (midN n r x rad).length)).set2 (bR (pR n r (midN n r x rad)) (midN n r x rad).length (midN n r x rad).length)).c
      have R : Hid (Below w.heap.size w (((W4.setCell ⟨w.heap.size + 1, 0, none⟩ (.int .i64 (midN n r x rad).length)).setCell ⟨w.heap.size + 1, 1, none⟩ (.string (bS (pS s (midN n r x rad)) (midN n r x rad).length))).setCell ⟨w.heap.size + 1, 2, none⟩ (.string (bR (pR n r (midN n r x rad)) (midN n r x rad).length (midN n r x rad).length)))) :=
        (((HQ.out.1.trans (hb.mono HQ.out.1.size)).setCell (by show w.heap.size ≤ w.heap.size + 1; omega) _).setCell (by show w.heap.size ≤ w.heap.size + 1; omega) _).setCell (by show w.heap.size ≤ w.heap.size + 1; omega) _
      clear B4 hb
      go_wp2
      exact bodyPost_ret (v := .agg #[.int .i64 (midN n r x rad).length, .string (bS (pS s (midN n r x rad)) (midN n r x rad).length), .string (bR (pR n r (midN n r x rad)) (midN n r x rad).length (midN n r x rad).length)]) (by simp [results, Tryd.results102, go_sem, HF.out.1, HF.out.2.1, HF.out.2.2]) rfl ⟨rfl, R.out⟩
end Go.Proofs.YtlnmebjbinmeiaaDoor.around
