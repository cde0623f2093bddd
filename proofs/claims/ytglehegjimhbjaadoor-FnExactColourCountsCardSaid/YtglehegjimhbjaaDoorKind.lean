/- l2Int, l8Kind, l8First of the reference. -/
import Derived.Test.YtglehegjimhbjaaDoorBase
import Derived.Test.YtglehegjimhbjaaDoorChain
import Derived.Test.YtglehegjimhbjaaDoorCol
import Derived.Test.YtglehegjimhbjaaDoorSlL
namespace Go.Proofs.YtglehegjimhbjaaDoor.kind
set_option linter.unusedVariables false
set_option linter.unusedSimpArgs false
open Go.ChangeShapes Go.WideShapes Go.ChangeAt Go.RowKit
open Go.Proofs.YtglehegjimhbjaaDoor.lib Go.Proofs.YtglehegjimhbjaaDoor.st Go.Proofs.YtglehegjimhbjaaDoor.base Go.Proofs.YtglehegjimhbjaaDoor.flow Go.Proofs.YtglehegjimhbjaaDoor.chain Go.Proofs.YtglehegjimhbjaaDoor.col Go.Proofs.YtglehegjimhbjaaDoor.sll

theorem l2Int_any (b : Bool) (w : World) : Calls Tryd.prog 67 #[.bool b] w fun e w' => e = .returned (.int .i64 (n01 b : Nat)) ∧ w = w' := by
  cases b
  · go_enter Tryd.func67, Tryd.ntmps67
    go_wp2
    go_ret
    exact ⟨rfl, rfl⟩
  · go_enter Tryd.func67, Tryd.ntmps67
    go_wp2
    go_ret
    exact ⟨rfl, rfl⟩
theorem l2Int_f (w : World) : Calls Tryd.prog 67 #[.bool false] w fun e w' => e = .returned (.int .i64 0) ∧ w = w' := l2Int_any false w
theorem l2Int_t (w : World) : Calls Tryd.prog 67 #[.bool true] w fun e w' => e = .returned (.int .i64 1) ∧ w = w' := l2Int_any true w
theorem ofDrew {w w' : World} (h : Below w.drew.heap.size w.drew w') : Below w.heap.size w w' := by
  cases h; constructor <;> assumption
theorem oneRow (T : TypeId) (w : World) (B H : Nat) (v : Int) (hH : w.heap.size = H) (hB : B ≤ H) : OwnI T (w.alloc (.cells #[.int .i64 v] T)) B (.slice (some ⟨H, 0, none⟩) 1 1) [v] := by
  subst hH
  refine ⟨by simp [ivs], .inr ⟨w.heap.size, 1, #[.int .i64 v], rfl, hB, heap_alloc_new w _, Nat.le_refl _, by unfold maxLen; decide, rfl, ?_⟩⟩
  simp [ivs]

set_option maxHeartbeats 1600000 in
theorem l8Kind_any (N : Nat) (s r : ByteArray) (x y : Nat) (w : World) (hx : x < N) (hy : y < N) (hn : N ≤ 8) (hr : r.size = N * N) :
    Calls Tryd.prog 70 #[.agg #[.int .i64 N, .string s, .string r], .int .i64 x, .int .i64 y] w fun e w' => e = .returned (.int .i64 (kindOf ⟨N, s, r⟩ x y : Nat)) ∧ Below w.heap.size w w' := by
  have BX : Box 28 (w.alloc (.cells #[.int .i64 N, .string s, .string r] 28)) w.heap.size N s r := Box.new _ w _ rfl _ _ _
  have AW : Hid (Below w.heap.size w (w.alloc (.cells #[.int .i64 N, .string s, .string r] 28))) := (Below.refl _ _).alloc (Nat.le_refl _) _
  obtain ⟨W1, hW1⟩ : ∃ W1, W1 = w.alloc (.cells #[.int .i64 N, .string s, .string r] 28) := ⟨_, rfl⟩
  rw [← hW1] at BX AW
  obtain ⟨p, hp⟩ : ∃ p, bitAt r (x * N + y) = p := ⟨_, rfl⟩
  obtain ⟨q, hq⟩ : ∃ q, bitAt r (y * N + x) = q := ⟨_, rfl⟩
  have HK : Hid (kindOf ⟨N, s, r⟩ x y = 2 * n01 p + n01 q) := by rw [Hid, kindOf, hp, hq]
  have C1 : Hid (∀ W, Calls Tryd.prog 69 #[.agg #[.int .i64 N, .string s, .string r], .int .i64 x, .int .i64 y] W fun e w' => e = .returned (.bool p) ∧ Below W.heap.size W w') := fun W => by rw [← hp]; exact l1Rel_any N s r x y W hx hy hn hr
  have C2 : Hid (∀ W, Calls Tryd.prog 69 #[.agg #[.int .i64 N, .string s, .string r], .int .i64 y, .int .i64 x] W fun e w' => e = .returned (.bool q) ∧ Below W.heap.size W w') := fun W => by rw [← hq]; exact l1Rel_any N s r y x W hy hx hn hr
  have CI0 : Hid (∀ W, Calls Tryd.prog 67 #[.bool false] W fun e w' => e = .returned (.int .i64 0) ∧ W = w') := fun W => l2Int_any false W
  have CI1 : Hid (∀ W, Calls Tryd.prog 67 #[.bool true] W fun e w' => e = .returned (.int .i64 1) ∧ W = w') := fun W => l2Int_any true W
  have HW1 := Lib.hid hW1
  have q0 : ∀ X : Wd (fun W => Hid (Below W1.heap.size W1 W)), X.w.cell? ⟨w.heap.size, 0, none⟩ = some (.int .i64 N) := fun X => (BX.below X.ok.out BX.lt).c.1
  have q1 : ∀ X : Wd (fun W => Hid (Below W1.heap.size W1 W)), X.w.cell? ⟨w.heap.size, 1, none⟩ = some (.string s) := fun X => (BX.below X.ok.out BX.lt).c.2.1
  have q2 : ∀ X : Wd (fun W => Hid (Below W1.heap.size W1 W)), X.w.cell? ⟨w.heap.size, 2, none⟩ = some (.string r) := fun X => (BX.below X.ok.out BX.lt).c.2.2
  have hne : Nonempty (Wd (fun W => Hid (Below W1.heap.size W1 W))) := ⟨⟨W1, Lib.hid (Below.refl _ _)⟩⟩
  clear hp hq hW1 BX
  cases p <;> cases q
  all_goals
    go_enter Tryd.func70, Tryd.ntmps70
    go_wp2_with fail
    rw [← HW1.out]
    refine flow_last (S := (fun W => Hid (Below W1.heap.size W1 W))) (by kernel_rfl) (by kernel_rfl) (by kernel_rfl) (by kernel_rfl) (by kernel_rfl) (Lib.hid (Below.refl _ _).drew) ?_
    simp only [List.dropLast_cons_cons, List.dropLast_singleton, List.getLast?_cons_cons, List.getLast?_singleton, Option.toList_some]
    repeat (go_big_quiet_step (first
      | ((with_reducible refine (C1.out _).mono ?_); rintro e W ⟨rfl, hb⟩; exact ⟨rfl, Wd.on (Wd.ok _) hb⟩)
      | ((with_reducible refine (C2.out _).mono ?_); rintro e W ⟨rfl, hb⟩; exact ⟨rfl, Wd.on (Wd.ok _) hb⟩)
      | ((with_reducible refine (CI0.out _).mono ?_); rintro e W ⟨rfl, rfl⟩; exact ⟨rfl, _, rfl⟩)
      | ((with_reducible refine (CI1.out _).mono ?_); rintro e W ⟨rfl, rfl⟩; exact ⟨rfl, _, rfl⟩)))
    refine wpQuiet_nil ?_
    rintro _ ⟨X, rfl⟩
    have R : Hid (Below w.heap.size w X.w) := AW.out.trans (X.ok.out.mono AW.out.size)
    clear q0 q1 q2 hne
    go_wp2
    go_ret
    exact ⟨by rw [HK.out]; rfl, R.out⟩

set_option maxHeartbeats 3200000 in
theorem l8First_any (N : Nat) (s r : ByteArray) (x : Nat) (w : World) (hx : x < N) (hn : N ≤ 8) (hs : s.size = N) (hr : r.size = N * N) :
    Calls Tryd.prog 47 #[.agg #[.int .i64 N, .string s, .string r], .int .i64 x] w fun e w' => ∃ v, e = .returned v ∧ OwnI 3 w' w.heap.size v (d0 ⟨N, s, r⟩ x) ∧ Below w.heap.size w w' := by
  have BX : Hid (Box 28 (w.alloc (.cells #[.int .i64 N, .string s, .string r] 28)) w.heap.size N s r) := Box.new _ w _ rfl _ _ _
  have AW : Hid (Below w.heap.size w (w.alloc (.cells #[.int .i64 N, .string s, .string r] 28))) := (Below.refl _ _).alloc (Nat.le_refl _) _
  obtain ⟨W1, hW1⟩ : ∃ W1, W1 = w.alloc (.cells #[.int .i64 N, .string s, .string r] 28) := ⟨_, rfl⟩
  rw [← hW1] at BX AW
  obtain ⟨p, hp⟩ : ∃ p, bitAt s x = p := ⟨_, rfl⟩
  obtain ⟨q, hq⟩ : ∃ q, bitAt r (x * N + x) = q := ⟨_, rfl⟩
  have HK : Hid (d0 ⟨N, s, r⟩ x = [((2 * n01 p + n01 q : Nat) : Int)]) := by rw [Hid, d0, hp, hq]
  have C1 : Hid (∀ W, Calls Tryd.prog 68 #[.agg #[.int .i64 N, .string s, .string r], .int .i64 x] W fun e w' => e = .returned (.bool p) ∧ Below W.heap.size W w') := fun W => by rw [← hp]; exact l1Set_any N s r x W (by omega) (by omega)
  have C2 : Hid (∀ W, Calls Tryd.prog 69 #[.agg #[.int .i64 N, .string s, .string r], .int .i64 x, .int .i64 x] W fun e w' => e = .returned (.bool q) ∧ Below W.heap.size W w') := fun W => by rw [← hq]; exact l1Rel_any N s r x x W hx hx hn hr
  have HW1 := Lib.hid hW1
  obtain ⟨a0, a1, a2⟩ := BX.out.c
  have q0 : ∀ QQ : Wd (fun Q => Q.cell? ⟨w.heap.size, 0, none⟩ = some (.int .i64 N) ∧ Q.cell? ⟨w.heap.size, 1, none⟩ = some (.string s) ∧ Q.cell? ⟨w.heap.size, 2, none⟩ = some (.string r)), QQ.w.cell? ⟨w.heap.size, 0, none⟩ = some (.int .i64 N) := fun QQ => QQ.ok.1
  have q1 : ∀ QQ : Wd (fun Q => Q.cell? ⟨w.heap.size, 0, none⟩ = some (.int .i64 N) ∧ Q.cell? ⟨w.heap.size, 1, none⟩ = some (.string s) ∧ Q.cell? ⟨w.heap.size, 2, none⟩ = some (.string r)), QQ.w.cell? ⟨w.heap.size, 1, none⟩ = some (.string s) := fun QQ => QQ.ok.2.1
  have q2 : ∀ QQ : Wd (fun Q => Q.cell? ⟨w.heap.size, 0, none⟩ = some (.int .i64 N) ∧ Q.cell? ⟨w.heap.size, 1, none⟩ = some (.string s) ∧ Q.cell? ⟨w.heap.size, 2, none⟩ = some (.string r)), QQ.w.cell? ⟨w.heap.size, 2, none⟩ = some (.string r) := fun QQ => QQ.ok.2.2
  have hne : Nonempty (Wd (fun Q => Q.cell? ⟨w.heap.size, 0, none⟩ = some (.int .i64 N) ∧ Q.cell? ⟨w.heap.size, 1, none⟩ = some (.string s) ∧ Q.cell? ⟨w.heap.size, 2, none⟩ = some (.string r))) := ⟨⟨W1, ⟨a0, a1, a2⟩⟩⟩
  clear hp hq hW1
  cases p <;> cases q
  · go_enter Tryd.func47, Tryd.ntmps47
    go_wp2_with fail
    rw [← HW1.out]
    refine chain (S := (fun Q => Q.cell? ⟨w.heap.size, 0, none⟩ = some (.int .i64 N) ∧ Q.cell? ⟨w.heap.size, 1, none⟩ = some (.string s) ∧ Q.cell? ⟨w.heap.size, 2, none⟩ = some (.string r))) [([true, true, false, false, false, true, true, true], 2), ([], 3), ([false, false, false, false, true], 8), ([], 9), ([false, false, false, false, false, false, false, false, false, false, true], 11)] [false, false, false, false, false, false, false, false, false, false, false, false, true] (by kernel_rfl) (by kernel_rfl) (by kernel_rfl) ⟨a0, a1, a2⟩ ?_
    simp only [wpSegs, pickB, List.dropLast_cons_cons, List.dropLast_singleton, List.getLast?_cons_cons, List.getLast?_singleton, List.toList_toArray, List.getElem?_toArray, List.getElem?_cons_succ, List.getElem?_cons_zero, Option.toList_some]
    repeat (go_big_quiet_step (fail))
    refine wpQuiet_nil ?_
    intro K hK
    go_wp2_with fail
    refine (C1.out _).mono ?_
    rintro e w2 ⟨rfl, hb⟩
    have HB2 := Lib.hid (ofDrew hb)
    have BX2 := Lib.hid (BX.out.below HB2.out BX.out.lt)
    clear hb
    go_wp2_with fail
    refine hK _ _ BX2.out.c ?_
    clear hK K
    repeat (go_big_quiet_step (fail))
    refine wpQuiet_nil ?_
    intro K hK
    go_wp2_with fail
    refine (l2Int_f _).mono ?_
    rintro e w3 ⟨rfl, rfl⟩
    go_wp2_with fail
    refine hK _ _ BX2.out.c ?_
    clear hK K
    repeat (go_big_quiet_step (fail))
    refine wpQuiet_nil ?_
    intro K hK
    go_wp2_with fail
    refine (C2.out _).mono ?_
    rintro e w4 ⟨rfl, hb⟩
    have HB4 := Lib.hid (HB2.out.trans (hb.mono HB2.out.size))
    have BX4 := Lib.hid (BX2.out.below hb BX2.out.lt)
    clear hb
    go_wp2_with fail
    refine hK _ _ BX4.out.c ?_
    clear hK K
    repeat (go_big_quiet_step (fail))
    refine wpQuiet_nil ?_
    intro K hK
    go_wp2_with fail
    refine (l2Int_f _).mono ?_
    rintro e w5 ⟨rfl, rfl⟩
    go_wp2_with fail
    refine hK _ _ BX4.out.c ?_
    clear hK K
    repeat (go_big_quiet_step (fail))
    refine wpQuiet_nil ?_
    intro K hK
    go_wp2_with fail
    have HB5 : Hid (Below w4.heap.size w4 (w4.alloc (.cells #[.int .i64 0] 3))) := (Below.refl _ _).alloc (Nat.le_refl _) _
    have O5 : Hid (OwnI 3 (w4.alloc (.cells #[.int .i64 0] 3)) w4.heap.size (.slice (some ⟨w4.heap.size, 0, none⟩) 1 1) [0]) := oneRow _ _ _ _ _ rfl (Nat.le_refl _)
    refine hK _ _ (BX4.out.below HB5.out BX4.out.lt).c ?_
    clear hK K
    repeat (go_big_quiet_step (fail))
    refine wpQuiet_nil ?_
    clear q0 q1 q2 hne
    have R := Lib.hid (show _ ∧ _ from ⟨O5.out.mono (show w.heap.size ≤ w4.heap.size from by have h1 := AW.out.size; have h2 := HB4.out.size; omega), AW.out.trans ((HB4.out.trans (HB5.out.mono HB4.out.size)).mono AW.out.size)⟩)
    go_wp2
    go_ret
    exact ⟨_, rfl, by rw [HK.out]; exact R.out.1, R.out.2⟩
  · go_enter Tryd.func47, Tryd.ntmps47
    go_wp2_with fail
    rw [← HW1.out]
    refine chain (S := (fun Q => Q.cell? ⟨w.heap.size, 0, none⟩ = some (.int .i64 N) ∧ Q.cell? ⟨w.heap.size, 1, none⟩ = some (.string s) ∧ Q.cell? ⟨w.heap.size, 2, none⟩ = some (.string r))) [([true, true, false, false, false, true, true, true], 2), ([], 3), ([false, false, false, false, true], 8), ([], 9), ([false, false, false, false, false, false, false, false, false, false, true], 11)] [false, false, false, false, false, false, false, false, false, false, false, false, true] (by kernel_rfl) (by kernel_rfl) (by kernel_rfl) ⟨a0, a1, a2⟩ ?_
    simp only [wpSegs, pickB, List.dropLast_cons_cons, List.dropLast_singleton, List.getLast?_cons_cons, List.getLast?_singleton, List.toList_toArray, List.getElem?_toArray, List.getElem?_cons_succ, List.getElem?_cons_zero, Option.toList_some]
    repeat (go_big_quiet_step (fail))
    refine wpQuiet_nil ?_
    intro K hK
    go_wp2_with fail
    refine (C1.out _).mono ?_
    rintro e w2 ⟨rfl, hb⟩
    have HB2 := Lib.hid (ofDrew hb)
    have BX2 := Lib.hid (BX.out.below HB2.out BX.out.lt)
    clear hb
    go_wp2_with fail
    refine hK _ _ BX2.out.c ?_
    clear hK K
    repeat (go_big_quiet_step (fail))
    refine wpQuiet_nil ?_
    intro K hK
    go_wp2_with fail
    refine (l2Int_f _).mono ?_
    rintro e w3 ⟨rfl, rfl⟩
    go_wp2_with fail
    refine hK _ _ BX2.out.c ?_
    clear hK K
    repeat (go_big_quiet_step (fail))
    refine wpQuiet_nil ?_
    intro K hK
    go_wp2_with fail
    refine (C2.out _).mono ?_
    rintro e w4 ⟨rfl, hb⟩
    have HB4 := Lib.hid (HB2.out.trans (hb.mono HB2.out.size))
    have BX4 := Lib.hid (BX2.out.below hb BX2.out.lt)
    clear hb
    go_wp2_with fail
    refine hK _ _ BX4.out.c ?_
    clear hK K
    repeat (go_big_quiet_step (fail))
    refine wpQuiet_nil ?_
    intro K hK
    go_wp2_with fail
    refine (l2Int_t _).mono ?_
    rintro e w5 ⟨rfl, rfl⟩
    go_wp2_with fail
    refine hK _ _ BX4.out.c ?_
    clear hK K
    repeat (go_big_quiet_step (fail))
    refine wpQuiet_nil ?_
    intro K hK
    go_wp2_with fail
    have HB5 : Hid (Below w4.heap.size w4 (w4.alloc (.cells #[.int .i64 1] 3))) := (Below.refl _ _).alloc (Nat.le_refl _) _
    have O5 : Hid (OwnI 3 (w4.alloc (.cells #[.int .i64 1] 3)) w4.heap.size (.slice (some ⟨w4.heap.size, 0, none⟩) 1 1) [1]) := oneRow _ _ _ _ _ rfl (Nat.le_refl _)
    refine hK _ _ (BX4.out.below HB5.out BX4.out.lt).c ?_
    clear hK K
    repeat (go_big_quiet_step (fail))
    refine wpQuiet_nil ?_
    clear q0 q1 q2 hne
    have R := Lib.hid (show _ ∧ _ from ⟨O5.out.mono (show w.heap.size ≤ w4.heap.size from by have h1 := AW.out.size; have h2 := HB4.out.size; omega), AW.out.trans ((HB4.out.trans (HB5.out.mono HB4.out.size)).mono AW.out.size)⟩)
    go_wp2
    go_ret
    exact ⟨_, rfl, by rw [HK.out]; exact R.out.1, R.out.2⟩
  · go_enter Tryd.func47, Tryd.ntmps47
    go_wp2_with fail
    rw [← HW1.out]
    refine chain (S := (fun Q => Q.cell? ⟨w.heap.size, 0, none⟩ = some (.int .i64 N) ∧ Q.cell? ⟨w.heap.size, 1, none⟩ = some (.string s) ∧ Q.cell? ⟨w.heap.size, 2, none⟩ = some (.string r))) [([true, true, false, false, false, true, true, true], 2), ([], 3), ([false, false, false, false, true], 8), ([], 9), ([false, false, false, false, false, false, false, false, false, false, true], 11)] [false, false, false, false, false, false, false, false, false, false, false, false, true] (by kernel_rfl) (by kernel_rfl) (by kernel_rfl) ⟨a0, a1, a2⟩ ?_
    simp only [wpSegs, pickB, List.dropLast_cons_cons, List.dropLast_singleton, List.getLast?_cons_cons, List.getLast?_singleton, List.toList_toArray, List.getElem?_toArray, List.getElem?_cons_succ, List.getElem?_cons_zero, Option.toList_some]
    repeat (go_big_quiet_step (fail))
    refine wpQuiet_nil ?_
    intro K hK
    go_wp2_with fail
    refine (C1.out _).mono ?_
    rintro e w2 ⟨rfl, hb⟩
    have HB2 := Lib.hid (ofDrew hb)
    have BX2 := Lib.hid (BX.out.below HB2.out BX.out.lt)
    clear hb
    go_wp2_with fail
    refine hK _ _ BX2.out.c ?_
    clear hK K
    repeat (go_big_quiet_step (fail))
    refine wpQuiet_nil ?_
    intro K hK
    go_wp2_with fail
    refine (l2Int_t _).mono ?_
    rintro e w3 ⟨rfl, rfl⟩
    go_wp2_with fail
    refine hK _ _ BX2.out.c ?_
    clear hK K
    repeat (go_big_quiet_step (fail))
    refine wpQuiet_nil ?_
    intro K hK
    go_wp2_with fail
    refine (C2.out _).mono ?_
    rintro e w4 ⟨rfl, hb⟩
    have HB4 := Lib.hid (HB2.out.trans (hb.mono HB2.out.size))
    have BX4 := Lib.hid (BX2.out.below hb BX2.out.lt)
    clear hb
    go_wp2_with fail
    refine hK _ _ BX4.out.c ?_
    clear hK K
    repeat (go_big_quiet_step (fail))
    refine wpQuiet_nil ?_
    intro K hK
    go_wp2_with fail
    refine (l2Int_f _).mono ?_
    rintro e w5 ⟨rfl, rfl⟩
    go_wp2_with fail
    refine hK _ _ BX4.out.c ?_
    clear hK K
    repeat (go_big_quiet_step (fail))
    refine wpQuiet_nil ?_
    intro K hK
    go_wp2_with fail
    have HB5 : Hid (Below w4.heap.size w4 (w4.alloc (.cells #[.int .i64 2] 3))) := (Below.refl _ _).alloc (Nat.le_refl _) _
    have O5 : Hid (OwnI 3 (w4.alloc (.cells #[.int .i64 2] 3)) w4.heap.size (.slice (some ⟨w4.heap.size, 0, none⟩) 1 1) [2]) := oneRow _ _ _ _ _ rfl (Nat.le_refl _)
    refine hK _ _ (BX4.out.below HB5.out BX4.out.lt).c ?_
    clear hK K
    repeat (go_big_quiet_step (fail))
    refine wpQuiet_nil ?_
    clear q0 q1 q2 hne
    have R := Lib.hid (show _ ∧ _ from ⟨O5.out.mono (show w.heap.size ≤ w4.heap.size from by have h1 := AW.out.size; have h2 := HB4.out.size; omega), AW.out.trans ((HB4.out.trans (HB5.out.mono HB4.out.size)).mono AW.out.size)⟩)
    go_wp2
    go_ret
    exact ⟨_, rfl, by rw [HK.out]; exact R.out.1, R.out.2⟩
  · go_enter Tryd.func47, Tryd.ntmps47
    go_wp2_with fail
    rw [← HW1.out]
    refine chain (S := (fun Q => Q.cell? ⟨w.heap.size, 0, none⟩ = some (.int .i64 N) ∧ Q.cell? ⟨w.heap.size, 1, none⟩ = some (.string s) ∧ Q.cell? ⟨w.heap.size, 2, none⟩ = some (.string r))) [([true, true, false, false, false, true, true, true], 2), ([], 3), ([false, false, false, false, true], 8), ([], 9), ([false, false, false, false, false, false, false, false, false, false, true], 11)] [false, false, false, false, false, false, false, false, false, false, false, false, true] (by kernel_rfl) (by kernel_rfl) (by kernel_rfl) ⟨a0, a1, a2⟩ ?_
    simp only [wpSegs, pickB, List.dropLast_cons_cons, List.dropLast_singleton, List.getLast?_cons_cons, List.getLast?_singleton, List.toList_toArray, List.getElem?_toArray, List.getElem?_cons_succ, List.getElem?_cons_zero, Option.toList_some]
    repeat (go_big_quiet_step (fail))
    refine wpQuiet_nil ?_
    intro K hK
    go_wp2_with fail
    refine (C1.out _).mono ?_
    rintro e w2 ⟨rfl, hb⟩
    have HB2 := Lib.hid (ofDrew hb)
    have BX2 := Lib.hid (BX.out.below HB2.out BX.out.lt)
    clear hb
    go_wp2_with fail
    refine hK _ _ BX2.out.c ?_
    clear hK K
    repeat (go_big_quiet_step (fail))
    refine wpQuiet_nil ?_
    intro K hK
    go_wp2_with fail
    refine (l2Int_t _).mono ?_
    rintro e w3 ⟨rfl, rfl⟩
    go_wp2_with fail
    refine hK _ _ BX2.out.c ?_
    clear hK K
    repeat (go_big_quiet_step (fail))
    refine wpQuiet_nil ?_
    intro K hK
    go_wp2_with fail
    refine (C2.out _).mono ?_
    rintro e w4 ⟨rfl, hb⟩
    have HB4 := Lib.hid (HB2.out.trans (hb.mono HB2.out.size))
    have BX4 := Lib.hid (BX2.out.below hb BX2.out.lt)
    clear hb
    go_wp2_with fail
    refine hK _ _ BX4.out.c ?_
    clear hK K
    repeat (go_big_quiet_step (fail))
    refine wpQuiet_nil ?_
    intro K hK
    go_wp2_with fail
    refine (l2Int_t _).mono ?_
    rintro e w5 ⟨rfl, rfl⟩
    go_wp2_with fail
    refine hK _ _ BX4.out.c ?_
    clear hK K
    repeat (go_big_quiet_step (fail))
    refine wpQuiet_nil ?_
    intro K hK
    go_wp2_with fail
    have HB5 : Hid (Below w4.heap.size w4 (w4.alloc (.cells #[.int .i64 3] 3))) := (Below.refl _ _).alloc (Nat.le_refl _) _
    have O5 : Hid (OwnI 3 (w4.alloc (.cells #[.int .i64 3] 3)) w4.heap.size (.slice (some ⟨w4.heap.size, 0, none⟩) 1 1) [3]) := oneRow _ _ _ _ _ rfl (Nat.le_refl _)
    refine hK _ _ (BX4.out.below HB5.out BX4.out.lt).c ?_
    clear hK K
    repeat (go_big_quiet_step (fail))
    refine wpQuiet_nil ?_
    clear q0 q1 q2 hne
    have R := Lib.hid (show _ ∧ _ from ⟨O5.out.mono (show w.heap.size ≤ w4.heap.size from by have h1 := AW.out.size; have h2 := HB4.out.size; omega), AW.out.trans ((HB4.out.trans (HB5.out.mono HB4.out.size)).mono AW.out.size)⟩)
    go_wp2
    go_ret
    exact ⟨_, rfl, by rw [HK.out]; exact R.out.1, R.out.2⟩
end Go.Proofs.YtglehegjimhbjaaDoor.kind
