/- Several texts in one: FitsR, OrderR, PartR, SameS. -/
import Derived.Test.YtpcnoiigbmiejaaGreatDoorPkO
import Derived.Test.YtpcnoiigbmiejaaGreatDoorPart
import Derived.Test.YtpcnoiigbmiejaaGreatDoorPkF
import Derived.Test.YtpcnoiigbmiejaaGreatDoorProd
import Derived.Test.YtpcnoiigbmiejaaGreatDoorSameI
/- l1Fits of the reference. -/
namespace Go.Proofs.YtpcnoiigbmiejaaGreatDoor.fits
set_option linter.unusedVariables false
set_option linter.unusedSimpArgs false
open Go.ChangeShapes Go.WideShapes Go.ChangeAt Go.RowKit
open Go.Proofs.YtpcnoiigbmiejaaGreatDoor.lib Go.Proofs.YtpcnoiigbmiejaaGreatDoor.st Go.Proofs.YtpcnoiigbmiejaaGreatDoor.base Go.Proofs.YtpcnoiigbmiejaaGreatDoor.flow Go.Proofs.YtpcnoiigbmiejaaGreatDoor.part
theorem l1Set_b (n : Int) (s r : ByteArray) (x : Nat) (w : World) (hx : x < s.size) (hs : s.size ≤ 9223372036854775807) :
    Calls Tryz.prog 86 #[.agg #[.int .i64 n, .string s, .string r], .int .i64 x] w fun e w' => e = .returned (.bool (bitAt s x)) ∧ Below w.heap.size w w' := l1Set_any n s r x w hx hs
theorem l1Rel_b (n : Nat) (s r : ByteArray) (x y : Nat) (w : World) (hx : x < n) (hy : y < n) (hn : n ≤ 8) (hr : r.size = n * n) :
    Calls Tryz.prog 87 #[.agg #[.int .i64 n, .string s, .string r], .int .i64 x, .int .i64 y] w fun e w' => e = .returned (.bool (bitAt r (x * n + y))) ∧ Below w.heap.size w w' := l1Rel_any n s r x y w hx hy hn hr
theorem more_get {pre : List Nat} {x k m : Nat} (hm : m = pre.length) (hk : k < m) : (pre ++ [x]).getD k 0 = pre.getD k 0 := by
  subst hm; simp [List.getD_eq_getElem?_getD, List.getElem?_append_left hk]
theorem more_last {pre : List Nat} {x m : Nat} (hm : m = pre.length) : (pre ++ [x]).getD m 0 = x := by
  subst hm; simp [List.getD_eq_getElem?_getD]
theorem range_get {i k : Nat} (h : i < k) : (List.range k).getD i 0 = i := by simp [List.getD_eq_getElem?_getD, h]

set_option maxHeartbeats 4000000 in
set_option maxRecDepth 100000 in
theorem l1Fits_any (n : Nat) (sa ra sb rb : ByteArray) (pre : List Nat) (x : Nat) (v v2 : Value) (w : World) (hx : x < n) (hi : pre.length < n) (hp : ∀ y, y ∈ pre → y < n) (hn : n ≤ 8)
    (hsa : sa.size = n) (hra : ra.size = n * n) (hsb : sb.size = n) (hrb : rb.size = n * n) (hv : Reads w v (ints (pre ++ [x]))) (hv2 : Reads w v2 (ints (List.range (pre.length + 1)))) :
    Calls Tryz.prog 115 #[.agg #[.int .i64 n, .string sa, .string ra], v, .agg #[.int .i64 n, .string sb, .string rb], v2] w fun e w' => e = .returned (.bool (okB n sa ra sb rb pre x)) ∧ Below w.heap.size w w' := by
  rw [← fitsB_ok]
  obtain ⟨m, hm⟩ : ∃ m, m = pre.length := ⟨_, rfl⟩
  obtain ⟨ao, cap, rfl⟩ := hv.len
  obtain ⟨bo, cap2, rfl⟩ := hv2.len
  rw [ints_len] at hv hv2 ⊢
  rw [ints_len]
  have hl1 : (pre ++ [x]).length = m + 1 := by simp [hm]
  have hl2 : (List.range (pre.length + 1)).length = m + 1 := by simp [hm]
  rw [hl1] at hv ⊢
  rw [hl2] at hv2 ⊢
  rw [← hm] at hv2 hi ⊢
  obtain ⟨L, hL⟩ : ∃ L, L = m + 1 := ⟨_, rfl⟩
  rw [← hL] at hv hv2 ⊢
  obtain ⟨b1, o1, rfl, hb1, hc1⟩ := lies hv (by omega) (by omega)
  obtain ⟨b2, o2, rfl, hb2, hc2⟩ := lies hv2 (by first | (simp; done) | (simp; omega)) (by omega)
  have c1m := hc1 m (by omega)
  have c2m := hc2 m (by omega)
  rw [more_last hm] at c1m
  rw [range_get (by omega)] at c2m
  have HC : Hid (∀ k, k < m → w.cell? ⟨b1, o1 + k, none⟩ = some (.int .i64 (pre.getD k 0 : Nat)) ∧ w.cell? ⟨b2, o2 + k, none⟩ = some (.int .i64 k)) := fun k hk => by
    have h1 := hc1 k (by omega)
    have h2 := hc2 k (by omega)
    rw [more_get hm hk] at h1
    rw [range_get (by omega)] at h2
    exact ⟨h1, h2⟩
  have B1 : Hid (Box 24 (w.alloc (.cells #[.int .i64 n, .string sa, .string ra] 24)) w.heap.size n sa ra) := Box.new _ w _ rfl _ _ _
  have BA : Hid (Box 24 ((w.alloc (.cells #[.int .i64 n, .string sa, .string ra] 24)).alloc (.cells #[.int .i64 n, .string sb, .string rb] 24)) w.heap.size n sa ra) := B1.out.below ((Below.refl _ _).alloc (Nat.le_refl _) _) B1.out.lt
  have BB : Hid (Box 24 ((w.alloc (.cells #[.int .i64 n, .string sa, .string ra] 24)).alloc (.cells #[.int .i64 n, .string sb, .string rb] 24)) (w.heap.size + 1) n sb rb) := Box.new _ _ _ (by simp) _ _ _
  obtain ⟨W2, hW2⟩ : ∃ W2, W2 = (w.alloc (.cells #[.int .i64 n, .string sa, .string ra] 24)).alloc (.cells #[.int .i64 n, .string sb, .string rb] 24) := ⟨_, rfl⟩
  have AW : Hid (Below w.heap.size w W2) := by rw [hW2]; exact ((Below.refl _ _).alloc (Nat.le_refl _) _).alloc (by simp) _
  rw [← hW2] at BA BB
  have C2 : Hid (W2.cell? ⟨b1, o1 + m, none⟩ = some (.int .i64 x) ∧ W2.cell? ⟨b2, o2 + m, none⟩ = some (.int .i64 m)) := ⟨keepCell AW.out c1m, keepCell AW.out c2m⟩
  have HP : Hid (∀ k, k < m → pre.getD k 0 < n) := fun k hk => getD_lt hp (by omega)
  have HS := Lib.hid (show _ ∧ _ ∧ _ ∧ _ ∧ _ from ⟨hsa, hra, hsb, hrb, hm⟩)
  have hmL : m < L := by omega
  have hLm : IntKind.i64.wrap ((L : Int) - 1) = (m : Int) := by rw [IntKind.wrap_i64]; omega
  obtain ⟨p0, hp0⟩ : ∃ b, b = bitAt sa x := ⟨_, rfl⟩
  obtain ⟨q0, hq0⟩ : ∃ b, b = bitAt sb m := ⟨_, rfl⟩
  have HF0 : Hid (fitsB n sa ra sb rb (pre ++ [x]) x m = ((p0 == q0) && (List.range (m + 1)).all (stepF n ra rb (pre ++ [x]) x m))) := by rw [hp0, hq0]; rfl
  have C0 : Hid (∀ W, Calls Tryz.prog 86 #[.agg #[.int .i64 n, .string sa, .string ra], .int .i64 x] W fun e w' => e = .returned (.bool p0) ∧ Below W.heap.size W w') := fun W => by rw [hp0]; exact l1Set_any n sa ra x W (by omega) (by omega)
  have C1 : Hid (∀ W, Calls Tryz.prog 86 #[.agg #[.int .i64 n, .string sb, .string rb], .int .i64 m] W fun e w' => e = .returned (.bool q0) ∧ Below W.heap.size W w') := fun W => by rw [hq0]; exact l1Set_any n sb rb m W (by omega) (by omega)
  have ca0 : ∀ X : Wd (fun W => Hid (Below W2.heap.size W2 W)), X.w.cell? ⟨w.heap.size, 0, none⟩ = some (.int .i64 n) := fun X => (BA.out.below X.ok.out BA.out.lt).c.1
  have ca1 : ∀ X : Wd (fun W => Hid (Below W2.heap.size W2 W)), X.w.cell? ⟨w.heap.size, 1, none⟩ = some (.string sa) := fun X => (BA.out.below X.ok.out BA.out.lt).c.2.1
  have ca2 : ∀ X : Wd (fun W => Hid (Below W2.heap.size W2 W)), X.w.cell? ⟨w.heap.size, 2, none⟩ = some (.string ra) := fun X => (BA.out.below X.ok.out BA.out.lt).c.2.2
  have cb0 : ∀ X : Wd (fun W => Hid (Below W2.heap.size W2 W)), X.w.cell? ⟨w.heap.size + 1, 0, none⟩ = some (.int .i64 n) := fun X => (BB.out.below X.ok.out BB.out.lt).c.1
  have cb1 : ∀ X : Wd (fun W => Hid (Below W2.heap.size W2 W)), X.w.cell? ⟨w.heap.size + 1, 1, none⟩ = some (.string sb) := fun X => (BB.out.below X.ok.out BB.out.lt).c.2.1
  have cb2 : ∀ X : Wd (fun W => Hid (Below W2.heap.size W2 W)), X.w.cell? ⟨w.heap.size + 1, 2, none⟩ = some (.string rb) := fun X => (BB.out.below X.ok.out BB.out.lt).c.2.2
  have cx : ∀ X : Wd (fun W => Hid (Below W2.heap.size W2 W)), X.w.cell? ⟨b1, o1 + m, none⟩ = some (.int .i64 x) := fun X => keepCell X.ok.out C2.out.1
  have cy : ∀ X : Wd (fun W => Hid (Below W2.heap.size W2 W)), X.w.cell? ⟨b2, o2 + m, none⟩ = some (.int .i64 m) := fun X => keepCell X.ok.out C2.out.2
  have hne : Nonempty (Wd (fun W => Hid (Below W2.heap.size W2 W))) := ⟨⟨W2, Lib.hid (Below.refl _ _)⟩⟩
  have HW2 := Lib.hid hW2
  have HLL := Lib.hid hL
  have hbb : b1 < W2.heap.size ∧ b2 < W2.heap.size := ⟨Nat.lt_of_lt_of_le hb1 AW.out.size, Nat.lt_of_lt_of_le hb2 AW.out.size⟩
  have HBB := Lib.hid hbb
  clear hW2 hv hv2 hm hsa hra hsb hrb hp hp0 hq0 B1 hL hl1 hl2 hc1 hc2 c1m c2m hb1 hb2 hbb
  go_enter Tryz.func115, Tryz.ntmps115
  go_wp2_with fail
  rw [← HW2.out]
  by_cases h0 : p0 = q0
  · subst h0
    have HF : Hid (fitsB n sa ra sb rb (pre ++ [x]) x m = (List.range (m + 1)).all (stepF n ra rb (pre ++ [x]) x m)) := by rw [Hid, HF0.out, beq_self_eq_true, Bool.true_and]
    clear HF0
    refine flow_all (S := (fun W => Hid (Below W2.heap.size W2 W))) (by kernel_rfl) (by kernel_rfl) (Lib.hid (Below.refl _ _).drew) ?_
    skip
    repeat (go_big_quiet_step (first
      | ((with_reducible refine (C0.out _).mono ?_); rintro e W ⟨rfl, hb⟩; exact ⟨rfl, Wd.on (Wd.ok _) hb⟩)
      | ((with_reducible refine (C1.out _).mono ?_); rintro e W ⟨rfl, hb⟩; exact ⟨rfl, Wd.on (Wd.ok _) hb⟩)))
    refine wpQuiet_nil ?_
    rintro _ ⟨X, rfl⟩
    have XB := Lib.hid X.ok.out
    clear ca0 ca1 ca2 cb0 cb1 cb2 cx cy hne
    go_wp2
    go_loopw [10] (fun j wr => ∃ k : Nat, k ≤ m + 1 ∧ j = .int .i64 k ∧ Hid (∀ j, j < k → stepF n ra rb (pre ++ [x]) x m j = true) ∧ Below W2.heap.size W2 wr) (fun j _ => m + 1 - (intOf j).toNat)
    case atStart => exact ⟨0, Nat.zero_le _, rfl, fun j hj => absurd hj (Nat.not_lt_zero _), XB.out⟩
    case round =>
      obtain ⟨k, hk, rfl, hyes, hb⟩ := hrel
      have HX := Lib.hid hb
      have AX := Lib.hid (AW.out.trans (hb.mono AW.out.size))
      clear hb XB
      have BA2 := Lib.hid (BA.out.below HX.out BA.out.lt)
      have BB2 := Lib.hid (BB.out.below HX.out BB.out.lt)
      have D2 : Hid (wr.cell? ⟨b1, o1 + m, none⟩ = some (.int .i64 x) ∧ wr.cell? ⟨b2, o2 + m, none⟩ = some (.int .i64 m)) := ⟨keepCell HX.out C2.out.1, keepCell HX.out C2.out.2⟩
      by_cases hkm : k < m
      · obtain ⟨y, hy⟩ : ∃ y, y = pre.getD k 0 := ⟨_, rfl⟩
        have E2 : Hid (wr.cell? ⟨b1, o1 + k, none⟩ = some (.int .i64 y) ∧ wr.cell? ⟨b2, o2 + k, none⟩ = some (.int .i64 k)) := by
          have := HC.out k hkm
          rw [← hy] at this
          exact ⟨keepCell HX.out (keepCell AW.out this.1), keepCell HX.out (keepCell AW.out this.2)⟩
        have hyn : y < n := by rw [hy]; exact HP.out k hkm
        obtain ⟨p2, hp2⟩ : ∃ b, b = bitAt ra (y * n + x) := ⟨_, rfl⟩
        obtain ⟨q2, hq2⟩ : ∃ b, b = bitAt rb (k * n + m) := ⟨_, rfl⟩
        obtain ⟨p3, hp3⟩ : ∃ b, b = bitAt ra (x * n + y) := ⟨_, rfl⟩
        obtain ⟨q3, hq3⟩ : ∃ b, b = bitAt rb (m * n + k) := ⟨_, rfl⟩
        have HST : Hid (stepF n ra rb (pre ++ [x]) x m k = ((y == x) == false && ((p2 == q2) && (p3 == q3)))) := by
          unfold stepF
          rw [Hid, more_get HS.out.2.2.2.2 hkm, ← hy, hp2, hq2, hp3, hq3, show (k == m) = false from by simpa using Nat.ne_of_lt hkm]
        have D0 : Hid (∀ W, Calls Tryz.prog 87 #[.agg #[.int .i64 n, .string sa, .string ra], .int .i64 y, .int .i64 x] W fun e w' => e = .returned (.bool p2) ∧ Below W.heap.size W w') := fun W => by rw [hp2]; exact l1Rel_any n sa ra y x W hyn hx hn HS.out.2.1
        have D1 : Hid (∀ W, Calls Tryz.prog 87 #[.agg #[.int .i64 n, .string sb, .string rb], .int .i64 k, .int .i64 m] W fun e w' => e = .returned (.bool q2) ∧ Below W.heap.size W w') := fun W => by rw [hq2]; exact l1Rel_any n sb rb k m W (by omega) hi hn HS.out.2.2.2.1
        have D3 : Hid (∀ W, Calls Tryz.prog 87 #[.agg #[.int .i64 n, .string sa, .string ra], .int .i64 x, .int .i64 y] W fun e w' => e = .returned (.bool p3) ∧ Below W.heap.size W w') := fun W => by rw [hp3]; exact l1Rel_any n sa ra x y W hx hyn hn HS.out.2.1
        have D4 : Hid (∀ W, Calls Tryz.prog 87 #[.agg #[.int .i64 n, .string sb, .string rb], .int .i64 m, .int .i64 k] W fun e w' => e = .returned (.bool q3) ∧ Below W.heap.size W w') := fun W => by rw [hq3]; exact l1Rel_any n sb rb m k W hi (by omega) hn HS.out.2.2.2.1
        have ca0 : ∀ X : Wd (fun W => Hid (Below wr.heap.size wr W)), X.w.cell? ⟨w.heap.size, 0, none⟩ = some (.int .i64 n) := fun X => (BA2.out.below X.ok.out BA2.out.lt).c.1
        have ca1 : ∀ X : Wd (fun W => Hid (Below wr.heap.size wr W)), X.w.cell? ⟨w.heap.size, 1, none⟩ = some (.string sa) := fun X => (BA2.out.below X.ok.out BA2.out.lt).c.2.1
        have ca2 : ∀ X : Wd (fun W => Hid (Below wr.heap.size wr W)), X.w.cell? ⟨w.heap.size, 2, none⟩ = some (.string ra) := fun X => (BA2.out.below X.ok.out BA2.out.lt).c.2.2
        have cb0 : ∀ X : Wd (fun W => Hid (Below wr.heap.size wr W)), X.w.cell? ⟨w.heap.size + 1, 0, none⟩ = some (.int .i64 n) := fun X => (BB2.out.below X.ok.out BB2.out.lt).c.1
        have cb1 : ∀ X : Wd (fun W => Hid (Below wr.heap.size wr W)), X.w.cell? ⟨w.heap.size + 1, 1, none⟩ = some (.string sb) := fun X => (BB2.out.below X.ok.out BB2.out.lt).c.2.1
        have cb2 : ∀ X : Wd (fun W => Hid (Below wr.heap.size wr W)), X.w.cell? ⟨w.heap.size + 1, 2, none⟩ = some (.string rb) := fun X => (BB2.out.below X.ok.out BB2.out.lt).c.2.2
        have d1 : ∀ X : Wd (fun W => Hid (Below wr.heap.size wr W)), X.w.cell? ⟨b1, o1 + k, none⟩ = some (.int .i64 y) := fun X => keepCell X.ok.out E2.out.1
        have d2 : ∀ X : Wd (fun W => Hid (Below wr.heap.size wr W)), X.w.cell? ⟨b2, o2 + k, none⟩ = some (.int .i64 k) := fun X => keepCell X.ok.out E2.out.2
        have d3 : ∀ X : Wd (fun W => Hid (Below wr.heap.size wr W)), X.w.cell? ⟨b1, o1 + m, none⟩ = some (.int .i64 x) := fun X => keepCell X.ok.out D2.out.1
        have d4 : ∀ X : Wd (fun W => Hid (Below wr.heap.size wr W)), X.w.cell? ⟨b2, o2 + m, none⟩ = some (.int .i64 m) := fun X => keepCell X.ok.out D2.out.2
        have hne : Nonempty (Wd (fun W => Hid (Below wr.heap.size wr W))) := ⟨⟨wr, Lib.hid (Below.refl _ _)⟩⟩
        have tk : ((k : Int) == (m : Int)) = false := by simp; omega
        have hkl : (k : Int) ≤ (m : Int) := by omega
        have hkL : k < L := by have := HLL.out; omega
        clear hp2 hq2 hp3 hq3 hy
        by_cases hyx : y = x
        · subst hyx
          have HFF : Hid (fitsB n sa ra sb rb (pre ++ [y]) y m = false) := by rw [Hid, HF.out]; exact all_not (show k < m + 1 by omega) (by rw [HST.out]; simp)
          clear hyes
          go_wp2_with fail
          refine flow_all (S := (fun W => Hid (Below wr.heap.size wr W))) (by kernel_rfl) (by kernel_rfl) (Lib.hid (Below.refl _ _).drew) ?_
          simp only [List.append_eq, List.cons_append, List.nil_append]
          repeat (go_big_quiet_step (first
            | ((with_reducible refine (D0.out _).mono ?_); rintro e W ⟨rfl, hb⟩; exact ⟨rfl, Wd.on (Wd.ok _) hb⟩)
            | ((with_reducible refine (D1.out _).mono ?_); rintro e W ⟨rfl, hb⟩; exact ⟨rfl, Wd.on (Wd.ok _) hb⟩)
            | ((with_reducible refine (D3.out _).mono ?_); rintro e W ⟨rfl, hb⟩; exact ⟨rfl, Wd.on (Wd.ok _) hb⟩)
            | ((with_reducible refine (D4.out _).mono ?_); rintro e W ⟨rfl, hb⟩; exact ⟨rfl, Wd.on (Wd.ok _) hb⟩)))
          refine wpQuiet_nil ?_
          rintro _ ⟨X, rfl⟩
          have R := Lib.hid (AX.out.trans (X.ok.out.mono AX.out.size))
          clear ca0 ca1 ca2 cb0 cb1 cb2 d1 d2 d3 d4 tk hkl hne
          go_wp2
          go_ret
          exact ⟨by rw [HFF.out]; rfl, R.out⟩
        · have ty : ((y : Int) == (x : Int)) = false := by simp; omega
          have HST2 : Hid (stepF n ra rb (pre ++ [x]) x m k = ((p2 == q2) && (p3 == q3))) := by rw [Hid, HST.out, show (y == x) = false from by simpa using hyx]; rfl
          clear hyx HST
          by_cases h2 : p2 = q2
          · subst h2
            by_cases h3 : p3 = q3
            · subst h3
              have HY : Hid (∀ j, j < k + 1 → stepF n ra rb (pre ++ [x]) x m j = true) := fun j hj => by
                by_cases e : j = k
                · subst e; rw [HST2.out]; simp
                · exact hyes.out j (by omega)
              clear hyes
              go_wp2_with fail
              refine flow_all (S := (fun W => Hid (Below wr.heap.size wr W))) (by kernel_rfl) (by kernel_rfl) (Lib.hid (Below.refl _ _).drew) ?_
              simp only [List.append_eq, List.cons_append, List.nil_append]
              repeat (go_big_quiet_step (first
                | ((with_reducible refine (D0.out _).mono ?_); rintro e W ⟨rfl, hb⟩; exact ⟨rfl, Wd.on (Wd.ok _) hb⟩)
                | ((with_reducible refine (D1.out _).mono ?_); rintro e W ⟨rfl, hb⟩; exact ⟨rfl, Wd.on (Wd.ok _) hb⟩)
                | ((with_reducible refine (D3.out _).mono ?_); rintro e W ⟨rfl, hb⟩; exact ⟨rfl, Wd.on (Wd.ok _) hb⟩)
                | ((with_reducible refine (D4.out _).mono ?_); rintro e W ⟨rfl, hb⟩; exact ⟨rfl, Wd.on (Wd.ok _) hb⟩)))
              refine wpQuiet_nil ?_
              rintro _ ⟨X, rfl⟩
              have R := Lib.hid (HX.out.trans (X.ok.out.mono HX.out.size))
              clear ca0 ca1 ca2 cb0 cb1 cb2 d1 d2 d3 d4 hne tk ty hkl
              go_wp2
              go_roundw
              case rel => exact ⟨k + 1, by omega, by go_num, HY, R.out⟩
              case measure => simp [intOf]; omega
            · have HFF : Hid (fitsB n sa ra sb rb (pre ++ [x]) x m = false) := by rw [Hid, HF.out]; exact all_not (show k < m + 1 by omega) (by rw [HST2.out, show (p3 == q3) = false from by simpa using h3, Bool.and_false])
              have e3 : (p3 == q3) = false := by simpa using h3
              clear hyes h3
              go_wp2_with fail
              refine flow_all (S := (fun W => Hid (Below wr.heap.size wr W))) (by kernel_rfl) (by kernel_rfl) (Lib.hid (Below.refl _ _).drew) ?_
              simp only [List.append_eq, List.cons_append, List.nil_append]
              repeat (go_big_quiet_step (first
                | ((with_reducible refine (D0.out _).mono ?_); rintro e W ⟨rfl, hb⟩; exact ⟨rfl, Wd.on (Wd.ok _) hb⟩)
                | ((with_reducible refine (D1.out _).mono ?_); rintro e W ⟨rfl, hb⟩; exact ⟨rfl, Wd.on (Wd.ok _) hb⟩)
                | ((with_reducible refine (D3.out _).mono ?_); rintro e W ⟨rfl, hb⟩; exact ⟨rfl, Wd.on (Wd.ok _) hb⟩)
                | ((with_reducible refine (D4.out _).mono ?_); rintro e W ⟨rfl, hb⟩; exact ⟨rfl, Wd.on (Wd.ok _) hb⟩)))
              refine wpQuiet_nil ?_
              rintro _ ⟨X, rfl⟩
              have R := Lib.hid (AX.out.trans (X.ok.out.mono AX.out.size))
              clear ca0 ca1 ca2 cb0 cb1 cb2 d1 d2 d3 d4 tk ty hkl hne
              go_wp2
              go_ret
              exact ⟨by rw [HFF.out]; rfl, R.out⟩
          · have HFF : Hid (fitsB n sa ra sb rb (pre ++ [x]) x m = false) := by rw [Hid, HF.out]; exact all_not (show k < m + 1 by omega) (by rw [HST2.out, show (p2 == q2) = false from by simpa using h2, Bool.false_and])
            have e2 : (p2 == q2) = false := by simpa using h2
            clear hyes h2
            go_wp2_with fail
            refine flow_all (S := (fun W => Hid (Below wr.heap.size wr W))) (by kernel_rfl) (by kernel_rfl) (Lib.hid (Below.refl _ _).drew) ?_
            simp only [List.append_eq, List.cons_append, List.nil_append]
            repeat (go_big_quiet_step (first
              | ((with_reducible refine (D0.out _).mono ?_); rintro e W ⟨rfl, hb⟩; exact ⟨rfl, Wd.on (Wd.ok _) hb⟩)
              | ((with_reducible refine (D1.out _).mono ?_); rintro e W ⟨rfl, hb⟩; exact ⟨rfl, Wd.on (Wd.ok _) hb⟩)
              | ((with_reducible refine (D3.out _).mono ?_); rintro e W ⟨rfl, hb⟩; exact ⟨rfl, Wd.on (Wd.ok _) hb⟩)
              | ((with_reducible refine (D4.out _).mono ?_); rintro e W ⟨rfl, hb⟩; exact ⟨rfl, Wd.on (Wd.ok _) hb⟩)))
            refine wpQuiet_nil ?_
            rintro _ ⟨X, rfl⟩
            have R := Lib.hid (AX.out.trans (X.ok.out.mono AX.out.size))
            clear ca0 ca1 ca2 cb0 cb1 cb2 d1 d2 d3 d4 tk ty hkl hne
            go_wp2
            go_ret
            exact ⟨by rw [HFF.out]; rfl, R.out⟩
      · by_cases hkm2 : k = m
        · subst hkm2
          obtain ⟨p2, hp2⟩ : ∃ b, b = bitAt ra (x * n + x) := ⟨_, rfl⟩
          obtain ⟨q2, hq2⟩ : ∃ b, b = bitAt rb (k * n + k) := ⟨_, rfl⟩
          have HST : Hid (stepF n ra rb (pre ++ [x]) x k k = (p2 == q2)) := by
            unfold stepF
            rw [Hid, more_last HS.out.2.2.2.2, hp2, hq2]; simp
          have D0 : Hid (∀ W, Calls Tryz.prog 87 #[.agg #[.int .i64 n, .string sa, .string ra], .int .i64 x, .int .i64 x] W fun e w' => e = .returned (.bool p2) ∧ Below W.heap.size W w') := fun W => by rw [hp2]; exact l1Rel_any n sa ra x x W hx hx hn HS.out.2.1
          have D1 : Hid (∀ W, Calls Tryz.prog 87 #[.agg #[.int .i64 n, .string sb, .string rb], .int .i64 k, .int .i64 k] W fun e w' => e = .returned (.bool q2) ∧ Below W.heap.size W w') := fun W => by rw [hq2]; exact l1Rel_any n sb rb k k W hi hi hn HS.out.2.2.2.1
          have ca0 : ∀ X : Wd (fun W => Hid (Below wr.heap.size wr W)), X.w.cell? ⟨w.heap.size, 0, none⟩ = some (.int .i64 n) := fun X => (BA2.out.below X.ok.out BA2.out.lt).c.1
          have ca1 : ∀ X : Wd (fun W => Hid (Below wr.heap.size wr W)), X.w.cell? ⟨w.heap.size, 1, none⟩ = some (.string sa) := fun X => (BA2.out.below X.ok.out BA2.out.lt).c.2.1
          have ca2 : ∀ X : Wd (fun W => Hid (Below wr.heap.size wr W)), X.w.cell? ⟨w.heap.size, 2, none⟩ = some (.string ra) := fun X => (BA2.out.below X.ok.out BA2.out.lt).c.2.2
          have cb0 : ∀ X : Wd (fun W => Hid (Below wr.heap.size wr W)), X.w.cell? ⟨w.heap.size + 1, 0, none⟩ = some (.int .i64 n) := fun X => (BB2.out.below X.ok.out BB2.out.lt).c.1
          have cb1 : ∀ X : Wd (fun W => Hid (Below wr.heap.size wr W)), X.w.cell? ⟨w.heap.size + 1, 1, none⟩ = some (.string sb) := fun X => (BB2.out.below X.ok.out BB2.out.lt).c.2.1
          have cb2 : ∀ X : Wd (fun W => Hid (Below wr.heap.size wr W)), X.w.cell? ⟨w.heap.size + 1, 2, none⟩ = some (.string rb) := fun X => (BB2.out.below X.ok.out BB2.out.lt).c.2.2
          have d3 : ∀ X : Wd (fun W => Hid (Below wr.heap.size wr W)), X.w.cell? ⟨b1, o1 + k, none⟩ = some (.int .i64 x) := fun X => keepCell X.ok.out D2.out.1
          have d4 : ∀ X : Wd (fun W => Hid (Below wr.heap.size wr W)), X.w.cell? ⟨b2, o2 + k, none⟩ = some (.int .i64 k) := fun X => keepCell X.ok.out D2.out.2
          have hne : Nonempty (Wd (fun W => Hid (Below wr.heap.size wr W))) := ⟨⟨wr, Lib.hid (Below.refl _ _)⟩⟩
          clear hp2 hq2 hkm
          by_cases h2 : p2 = q2
          · subst h2
            have HY : Hid (∀ j, j < k + 1 → stepF n ra rb (pre ++ [x]) x k j = true) := fun j hj => by
              by_cases e : j = k
              · subst e; rw [HST.out]; simp
              · exact hyes.out j (by omega)
            clear hyes
            go_wp2_with fail
            refine flow_all (S := (fun W => Hid (Below wr.heap.size wr W))) (by kernel_rfl) (by kernel_rfl) (Lib.hid (Below.refl _ _).drew) ?_
            simp only [List.append_eq, List.cons_append, List.nil_append]
            repeat (go_big_quiet_step (first
              | ((with_reducible refine (D0.out _).mono ?_); rintro e W ⟨rfl, hb⟩; exact ⟨rfl, Wd.on (Wd.ok _) hb⟩)
              | ((with_reducible refine (D1.out _).mono ?_); rintro e W ⟨rfl, hb⟩; exact ⟨rfl, Wd.on (Wd.ok _) hb⟩)))
            refine wpQuiet_nil ?_
            rintro _ ⟨X, rfl⟩
            have R := Lib.hid (HX.out.trans (X.ok.out.mono HX.out.size))
            clear ca0 ca1 ca2 cb0 cb1 cb2 d3 d4 hne
            go_wp2
            go_roundw
            case rel => exact ⟨k + 1, by omega, by go_num, HY, R.out⟩
            case measure => simp [intOf]
          · have HFF : Hid (fitsB n sa ra sb rb (pre ++ [x]) x k = false) := by rw [Hid, HF.out]; exact all_not (show k < k + 1 by omega) (by rw [HST.out]; simpa using h2)
            have e2 : (p2 == q2) = false := by simpa using h2
            clear hyes h2
            go_wp2_with fail
            refine flow_all (S := (fun W => Hid (Below wr.heap.size wr W))) (by kernel_rfl) (by kernel_rfl) (Lib.hid (Below.refl _ _).drew) ?_
            simp only [List.append_eq, List.cons_append, List.nil_append]
            repeat (go_big_quiet_step (first
              | ((with_reducible refine (D0.out _).mono ?_); rintro e W ⟨rfl, hb⟩; exact ⟨rfl, Wd.on (Wd.ok _) hb⟩)
              | ((with_reducible refine (D1.out _).mono ?_); rintro e W ⟨rfl, hb⟩; exact ⟨rfl, Wd.on (Wd.ok _) hb⟩)))
            refine wpQuiet_nil ?_
            rintro _ ⟨X, rfl⟩
            have R := Lib.hid (AX.out.trans (X.ok.out.mono AX.out.size))
            clear ca0 ca1 ca2 cb0 cb1 cb2 d3 d4 hne
            go_wp2
            go_ret
            exact ⟨by rw [HFF.out]; rfl, R.out⟩
        · obtain rfl : k = m + 1 := by omega
          have HT : Hid (fitsB n sa ra sb rb (pre ++ [x]) x m = true) := by rw [Hid, HF.out]; exact all_upto hyes.out
          clear hyes
          go_wp2
          go_ret
          exact ⟨by rw [HT.out]; rfl, AX.out⟩
  · have HFF : Hid (fitsB n sa ra sb rb (pre ++ [x]) x m = false) := by rw [Hid, HF0.out, show (p0 == q0) = false from by simpa using h0, Bool.false_and]
    have e0 : (p0 == q0) = false := by simpa using h0
    clear h0 HF0
    refine flow_all (S := (fun W => Hid (Below W2.heap.size W2 W))) (by kernel_rfl) (by kernel_rfl) (Lib.hid (Below.refl _ _).drew) ?_
    skip
    repeat (go_big_quiet_step (first
      | ((with_reducible refine (C0.out _).mono ?_); rintro e W ⟨rfl, hb⟩; exact ⟨rfl, Wd.on (Wd.ok _) hb⟩)
      | ((with_reducible refine (C1.out _).mono ?_); rintro e W ⟨rfl, hb⟩; exact ⟨rfl, Wd.on (Wd.ok _) hb⟩)))
    refine wpQuiet_nil ?_
    rintro _ ⟨X, rfl⟩
    have R := Lib.hid (AW.out.trans (X.ok.out.mono AW.out.size))
    clear ca0 ca1 ca2 cb0 cb1 cb2 cx cy hne
    go_wp2
    go_ret
    exact ⟨by rw [HFF.out]; rfl, R.out⟩
end Go.Proofs.YtpcnoiigbmiejaaGreatDoor.fits

/- l1Order of the reference: the first order that begins with some elements. -/
namespace Go.Proofs.YtpcnoiigbmiejaaGreatDoor.fits
set_option linter.unusedVariables false
set_option linter.unusedSimpArgs false
open Go.ChangeShapes Go.WideShapes Go.ChangeAt Go.RowKit
open Go.Proofs.YtpcnoiigbmiejaaGreatDoor.lib Go.Proofs.YtpcnoiigbmiejaaGreatDoor.st Go.Proofs.YtpcnoiigbmiejaaGreatDoor.base Go.Proofs.YtpcnoiigbmiejaaGreatDoor.flow Go.Proofs.YtpcnoiigbmiejaaGreatDoor.part Go.Proofs.YtpcnoiigbmiejaaGreatDoor.ord Go.Proofs.YtpcnoiigbmiejaaGreatDoor.near

/-- what l1Order leaves -/
def Ordered (L : List (List Nat)) (w : World) (e : Ending) (w' : World) : Prop :=
  ∃ v, e = .returned (.tuple #[v, .bool L.head?.isSome]) ∧ Reads w' v (ints (L.head?.getD [])) ∧ Below w.heap.size w w'
def Orders (n : Nat) (sa ra sb rb : ByteArray) (d : Nat) : Prop :=
  ∀ (pre : List Nat) (v : Value) (w : World), pre.length + d = n → (∀ y, y ∈ pre → y < n) → Reads w v (ints pre) →
    Calls Tryz.prog 88 #[.agg #[.int .i64 n, .string sa, .string ra], v, .agg #[.int .i64 n, .string sb, .string rb]] w (Ordered (ords n (okB n sa ra sb rb) d pre) w)
variable {n : Nat} {sa ra sb rb : ByteArray}
theorem order_zero : Orders n sa ra sb rb 0 := by
  intro pre v w hl hp hr
  obtain ⟨ao, cap, rfl⟩ := hr.len
  rw [ints_len] at hr ⊢
  have B1 : Hid (Box 24 (w.alloc (.cells #[.int .i64 n, .string sa, .string ra] 24)) w.heap.size n sa ra) := Box.new _ w _ rfl _ _ _
  have BA := Lib.hid (B1.out.below ((Below.refl _ _).alloc (Nat.le_refl _) (.cells #[.int .i64 n, .string sb, .string rb] 24)) B1.out.lt)
  have AW : Hid (Below w.heap.size w ((w.alloc (.cells #[.int .i64 n, .string sa, .string ra] 24)).alloc (.cells #[.int .i64 n, .string sb, .string rb] 24))) := ((Below.refl _ _).alloc (Nat.le_refl _) _).alloc (by simp) _
  have RD := Lib.hid (hr.below AW.out (Nat.le_refl _))
  obtain ⟨c0, c1, c2⟩ := BA.out.c
  have tn : ((pre.length : Int) == (n : Int)) = true := by simp; omega
  clear hr hl hp
  go_enter Tryz.func88, Tryz.ntmps88
  go_wp2
  exact bodyPost_ret (v := .tuple #[.slice ao pre.length cap, .bool true]) (by simp [results, Tryz.results88, go_sem]) rfl ⟨.slice ao pre.length cap, by simp [ords], by simpa [ords] using RD.out, AW.out⟩
theorem marks_range (m : Nat) : marks 0 m = ints (List.range m) := by simp [marks, ints]

set_option maxHeartbeats 4000000 in
set_option maxRecDepth 100000 in
theorem order_succ (hn : n ≤ 8) (hs : sa.size = n ∧ ra.size = n * n ∧ sb.size = n ∧ rb.size = n * n) {d : Nat} (ih : Orders n sa ra sb rb d) : Orders n sa ra sb rb (d + 1) := by
  obtain ⟨i0, hi, hz0, hz1, hz2⟩ := info_parts infoInt
  have HII := Lib.hid (show _ ∧ _ ∧ _ ∧ _ from ⟨hi, hz0, hz1, hz2⟩)
  clear hi hz0 hz1 hz2
  intro pre v w hl hp hr
  have hln : pre.length < n := by omega
  obtain ⟨ao, cap, rfl⟩ := hr.len
  rw [ints_len] at hr ⊢
  obtain ⟨W2, hW2⟩ : ∃ W2, W2 = (w.alloc (.cells #[.int .i64 n, .string sa, .string ra] 24)).alloc (.cells #[.int .i64 n, .string sb, .string rb] 24) := ⟨_, rfl⟩
  have BA : Hid (Box 24 W2 w.heap.size n sa ra) := by rw [hW2]; exact (Box.new 24 w w.heap.size rfl n sa ra).below ((Below.refl _ _).alloc (Nat.le_refl _) _) (by simp)
  have BB : Hid (Box 24 W2 (w.heap.size + 1) n sb rb) := by rw [hW2]; exact Box.new _ _ _ (by simp) _ _ _
  have AW : Hid (Below w.heap.size w W2) := by rw [hW2]; exact ((Below.refl _ _).alloc (Nat.le_refl _) _).alloc (by simp) _
  have RD := Lib.hid (hr.below AW.out (Nat.le_refl _))
  obtain ⟨c0, c1, c2⟩ := BA.out.c
  have tn : ((pre.length : Int) == (n : Int)) = false := by simp; omega
  have HQ := Lib.hid (show _ ∧ _ ∧ _ from ⟨hp, hl, hs⟩)
  have HW := Lib.hid hW2
  have IH := Lib.hid ih
  clear hr hl hp hs hW2 ih
  go_enter Tryz.func88, Tryz.ntmps88
  go_wp2_with fail
  rw [← HW.out]
  clear c0 c1 c2 tn
  go_loopw [8] (fun i wr => ∃ k : Nat, k ≤ n ∧ i = .int .i64 k ∧ upto n (okB n sa ra sb rb) d pre k = [] ∧ Below W2.heap.size W2 wr) (fun i _ => n - (intOf i).toNat)
  case atStart => exact ⟨0, Nat.zero_le _, rfl, rfl, Below.refl _ _⟩
  case round =>
    obtain ⟨k, hk, rfl, hup, hb⟩ := hrel
    have HX := Lib.hid (show _ ∧ _ from ⟨hup, hb⟩)
    clear hup hb
    have AX : Hid (Below w.heap.size w wr) := AW.out.trans (HX.out.2.mono AW.out.size)
    obtain ⟨a0, a1, a2⟩ := (BA.out.below HX.out.2 BA.out.lt).c
    by_cases hkn : k < n
    · have E0 : Hid (OwnI 3 (wr.alloc (.cells #[] 3)) wr.heap.size (.slice (some ⟨wr.heap.size, 0, none⟩) 0 0) []) := emptyRow _ _ _ _ rfl (Nat.le_refl _)
      have A0 : Hid (Below wr.heap.size wr (wr.alloc (.cells #[] 3))) := (Below.refl _ _).alloc (Nat.le_refl _) _
      have R0 : Hid (Reads (wr.alloc (.cells #[] 3)) (.slice ao pre.length cap) (ints pre)) := RD.out.below (HX.out.2.trans (A0.out.mono HX.out.2.size)) (Nat.le_refl _)
      go_wp2_with (at_builtin; refine wpList_appAll _ rfl (.tmp 26) (.tmp 27) 29 rfl wr.heap.size 3 Tryz.underlying29 infoInt _ [] (ints pre) rfl E0.out _ rfl R0.out (by rw [ints_len]; simp; omega) (by simp) ?_)
      intro va w1 hown1 hgr1 hbk1
      have A1 : Hid (Below wr.heap.size wr w1) := A0.out.trans (below_of_grown hgr1 (by simp) (fun q hq => by simp [Value.ownBlock] at hq; omega))
      have O1 := Lib.hid hown1
      clear E0 R0 hown1 hgr1 hbk1
      go_wp2_with (at_builtin; refine wpList_app1 w1 rfl (.tmp 28) (.tmp 30) 29 rfl wr.heap.size 3 (.int .i64 0) 8 Tryz.underlying29 infoInt rfl (by decide) _ _ _ (.int .i64 k) rfl O1.out w1.heap.size rfl rfl rfl (by simp [ints_len]; omega) A1.out.size ?_)
      intro g cap' w2 hown2 hgr2
      have O2 : Hid (OwnI 3 w2 wr.heap.size (.slice (some ⟨g, 0, none⟩) (pre.length + 1) cap') (ints (pre ++ [k]))) := by
        unfold OwnI
        simp only [List.nil_append, ints_len] at hown2
        rw [Hid, ints_app, ivs_append, List.length_append, ints_len]
        exact hown2
      have A2 : Hid (Below wr.heap.size wr w2) := A1.out.trans (hgr2.below O1.out A1.out.size)
      simp only [List.nil_append, ints_len]
      clear O1 A1 hown2 hgr2 a0 a1 a2
      go_wp2_with (at_make; refine wpList_make_full _ rfl _ _ 29 rfl w2.heap.size 3 i0 (.int .i64 0) 1 Tryz.underlying29 HII.out.1 HII.out.2.1 HII.out.2.2.1 _ _ _ _ (pre.length + 1) rfl rfl (by omega) (by omega) ?b2 ?b3 (Nat.le_refl _) ?_)
      case b2 => rw [HII.out.2.2.2]; omega
      case b3 => unfold maxLen; omega
      intro w3 hown3 hgr3
      have A3 : Hid (Below w2.heap.size w2 w3) := below_of_grown hgr3 (Nat.le_refl _) (fun q hq => by cases hq)
      have O3 : Hid (OwnI 3 w3 w2.heap.size (.slice (some ⟨w2.heap.size, 0, none⟩) (pre.length + 1) (pre.length + 1)) (marks 0 0 ++ (List.replicate (pre.length + 1) 0).drop 0)) := by
        have := OwnI.made hown3
        refine Lib.hid ?_
        simpa [marks] using this
      obtain ⟨go, hgo⟩ : ∃ go, go = w2.heap.size := ⟨_, rfl⟩
      have HGO := Lib.hid hgo
      rw [← hgo] at O3 ⊢
      clear hown3 hgr3 hgo
      go_wp2_with fail
      go_loopw [11] (fun i wr => ∃ j : Nat, j ≤ pre.length + 1 ∧ i = .int .i64 j ∧ OwnI 3 wr go (.slice (some ⟨go, 0, none⟩) (pre.length + 1) (pre.length + 1)) (marks 0 j ++ (List.replicate (pre.length + 1) 0).drop j) ∧ Below w2.heap.size w2 wr) (fun i _ => pre.length + 1 - (intOf i).toNat)
      case atStart => exact ⟨0, Nat.zero_le _, rfl, O3.out, A3.out⟩
      case round =>
        clear O3 A3
        obtain ⟨j, hj, rfl, hown, hb⟩ := hrel
        have HO := Lib.hid (show _ ∧ _ from ⟨hown, hb⟩)
        clear hown hb
        by_cases hjm : j < pre.length + 1
        · have hfz := HO.out.1.free j
          have hce := HO.out.1.cell j (by simp [marks]; omega)
          have R : Hid (OwnI 3 (wr.setCell ⟨go, j, none⟩ (.int .i64 j)) go (.slice (some ⟨go, 0, none⟩) (pre.length + 1) (pre.length + 1)) (marks 0 (j + 1) ++ (List.replicate (pre.length + 1) 0).drop (j + 1)) ∧ Below w2.heap.size w2 (wr.setCell ⟨go, j, none⟩ (.int .i64 j))) := by
            have h := marks_step (List.replicate (pre.length + 1) 0) 0 j (by simp; omega)
            rw [Int.zero_add] at h
            exact ⟨by rw [← h]; exact HO.out.1.set j j, HO.out.2.setCell (p := ⟨go, j, none⟩) (by show w2.heap.size ≤ go; rw [HGO.out]; exact Nat.le_refl _) _⟩
          go_wp2
          go_roundw
          case rel => exact ⟨j + 1, by omega, by go_num, R.out⟩
          case measure => simp [intOf]; omega
        · obtain rfl : j = pre.length + 1 := by omega
          have hle : w2.heap.size ≤ wr.heap.size := HO.out.2.size
          have AQ := Lib.hid (A2.out.trans (HO.out.2.mono A2.out.size))
          have RO : Hid (Reads wr (.slice (some ⟨go, 0, none⟩) (pre.length + 1) (pre.length + 1)) (ints (List.range (pre.length + 1)))) := by
            have h := HO.out.1
            have e : marks 0 (pre.length + 1) ++ (List.replicate (pre.length + 1) (0 : Int)).drop (pre.length + 1) = ints (List.range (pre.length + 1)) := by simp [marks_range]
            rw [e] at h; exact h.reads
          have RM : Hid (Reads wr (.slice (some ⟨g, 0, none⟩) (pre.length + 1) cap') (ints (pre ++ [k]))) := (O2.out.below HO.out.2 (Nat.le_refl _)).reads
          have BAQ := Lib.hid ((BA.out.below HX.out.2 BA.out.lt).below AQ.out (Nat.lt_of_lt_of_le BA.out.lt HX.out.2.size))
          have BBQ := Lib.hid ((BB.out.below HX.out.2 BB.out.lt).below AQ.out (Nat.lt_of_lt_of_le BB.out.lt HX.out.2.size))
          obtain ⟨a0, a1, a2⟩ := BAQ.out.c
          obtain ⟨b0, b1, b2⟩ := BBQ.out.c
          have HUP := Lib.hid HX.out.1
          have AXQ : Hid (Below W2.heap.size W2 wr) := HX.out.2.trans (AQ.out.mono HX.out.2.size)
          clear hle HO AQ HX AX A2 O2
          go_wp2_with fail
          refine (l1Fits_any n sa ra sb rb pre k _ _ _ hkn hln HQ.out.1 hn HQ.out.2.2.1 HQ.out.2.2.2.1 HQ.out.2.2.2.2.1 HQ.out.2.2.2.2.2 RM.out RO.out).mono ?_
          rintro e w4 ⟨rfl, hb⟩
          have RM4 := Lib.hid (RM.out.below hb (Nat.le_refl _))
          have BA4 := Lib.hid (BAQ.out.below hb BAQ.out.lt)
          have BB4 := Lib.hid (BBQ.out.below hb BBQ.out.lt)
          have A4 : Hid (Below W2.heap.size W2 w4) := AXQ.out.trans (hb.mono AXQ.out.size)
          clear a0 a1 a2 b0 b1 b2 hb RM RO BAQ BBQ AXQ
          cases hok : okB n sa ra sb rb pre k with
          | false =>
            have R : Hid (upto n (okB n sa ra sb rb) d pre (k + 1) = []) := by rw [Hid, upto_no hok]; exact HUP.out
            clear hok
            go_wp2
            go_roundw
            case rel => exact ⟨k + 1, by omega, by go_num, R.out, A4.out⟩
            case measure => simp [intOf]; omega
          | true =>
            have HU : Hid (upto n (okB n sa ra sb rb) d pre (k + 1) = ords n (okB n sa ra sb rb) d (pre ++ [k])) := by rw [Hid, upto_yes hok, HUP.out]; rfl
            clear hok
            obtain ⟨a0, a1, a2⟩ := BA4.out.c
            obtain ⟨b0, b1, b2⟩ := BB4.out.c
            go_wp2_with fail
            refine (IH.out (pre ++ [k]) _ _ (by have := HQ.out.2.1; simp; omega) (fun y hy => by rcases List.mem_append.1 hy with h | h; exact HQ.out.1 y h; simp at h; omega) RM4.out).mono ?_
            rintro e w5 ⟨vo, rfl, hro, hb⟩
            have A5 : Hid (Below W2.heap.size W2 w5) := A4.out.trans (hb.mono A4.out.size)
            have HRO := Lib.hid hro
            clear a0 a1 a2 b0 b1 b2 hb hro
            cases hL : ords n (okB n sa ra sb rb) d (pre ++ [k]) with
            | nil =>
              have R : Hid (upto n (okB n sa ra sb rb) d pre (k + 1) = []) := by rw [Hid, HU.out, hL]
              clear hL
              simp only [List.head?_nil, Option.isSome_none]
              go_wp2
              go_roundw
              case rel => exact ⟨k + 1, by omega, by go_num, R.out, A5.out⟩
              case measure => simp [intOf]; omega
            | cons o os =>
              have R : Hid (Ordered (ords n (okB n sa ra sb rb) (d + 1) pre) w (.returned (.tuple #[vo, .bool true])) w5) := by
                obtain ⟨m, hm⟩ := upto_part n (okB n sa ra sb rb) d pre (k := k + 1) (by omega)
                have hh : (ords n (okB n sa ra sb rb) (d + 1) pre).head? = some o := by rw [hm, HU.out, hL]; rfl
                refine ⟨vo, by rw [hh]; rfl, ?_, AW.out.trans (A5.out.mono AW.out.size)⟩
                have h := HRO.out
                rw [hL] at h
                rw [hh]; exact h
              clear hL
              simp only [List.head?_cons, Option.isSome_some]
              go_wp2
              exact bodyPost_ret (v := .tuple #[vo, .bool true]) (by simp [results, Tryz.results88, go_sem]) rfl R.out
    · obtain rfl : n = k := by omega
      have E0 : Hid (OwnI 3 (wr.alloc (.cells #[] 3)) wr.heap.size (.slice (some ⟨wr.heap.size, 0, none⟩) 0 0) []) := emptyRow _ _ _ _ rfl (Nat.le_refl _)
      have A0 : Hid (Below w.heap.size w (wr.alloc (.cells #[] 3))) := AX.out.alloc AX.out.size _
      have HE : Hid (ords n (okB n sa ra sb rb) (d + 1) pre = []) := by rw [Hid, ← upto_full]; exact HX.out.1
      go_wp2
      exact bodyPost_ret (v := .tuple #[.slice (some ⟨wr.heap.size, 0, none⟩) 0 0, .bool false]) (by simp [results, Tryz.results88, go_sem]) rfl ⟨.slice (some ⟨wr.heap.size, 0, none⟩) 0 0, by rw [HE.out]; rfl, by rw [HE.out]; exact E0.out.reads, A0.out⟩
theorem order_any (hn : n ≤ 8) (hs : sa.size = n ∧ ra.size = n * n ∧ sb.size = n ∧ rb.size = n * n) : ∀ d, Orders n sa ra sb rb d
  | 0 => order_zero
  | d + 1 => order_succ hn hs (order_any hn hs d)
end Go.Proofs.YtpcnoiigbmiejaaGreatDoor.fits

/- l1Part of the reference. -/
namespace Go.Proofs.YtpcnoiigbmiejaaGreatDoor.part
set_option linter.unusedVariables false
set_option linter.unusedSimpArgs false
open Go.ChangeShapes Go.WideShapes Go.ChangeAt Go.RowKit
open Go.Proofs.YtpcnoiigbmiejaaGreatDoor.lib Go.Proofs.YtpcnoiigbmiejaaGreatDoor.st Go.Proofs.YtpcnoiigbmiejaaGreatDoor.base Go.Proofs.YtpcnoiigbmiejaaGreatDoor.make Go.Proofs.YtpcnoiigbmiejaaGreatDoor.flow Go.Proofs.YtpcnoiigbmiejaaGreatDoor.fits Go.Proofs.YtpcnoiigbmiejaaGreatDoor.prod

/-- what l1Part returns -/
def Parted (n : Nat) (sa ra : ByteArray) (l : List Nat) (w : World) (e : Ending) (w' : World) : Prop :=
  e = .returned (.agg #[.int .i64 l.length, .string (bS (pS sa l) l.length), .string (bR (pR n ra l) l.length l.length)]) ∧ Below w.heap.size w w'
theorem reads_set {l : List Nat} {m cap b off r : Nat} {w W W' : World} {u : Value} (hm : m = l.length) (h1 : 1 ≤ m) (h : Reads W (.slice (some ⟨b, off, none⟩) m cap) (ints l)) (hb : Below W.heap.size W W')
    (hl : ∃ b' off', (some (⟨b, off, none⟩ : Addr)) = some ⟨b', off', none⟩ ∧ b' < w.heap.size) : Reads (W'.setCell ⟨w.heap.size + 1 + 1, r, none⟩ u) (.slice (some ⟨b, off, none⟩) m cap) (ints l) := by
  obtain ⟨b', off', he, hlt⟩ := hl
  simp only [Option.some.injEq, Addr.mk.injEq] at he
  obtain ⟨rfl, rfl, -⟩ := he
  obtain ⟨b', off', he, _, hc⟩ := lies h hm h1
  simp only [Option.some.injEq, Addr.mk.injEq] at he
  obtain ⟨rfl, rfl, -⟩ := he
  refine ⟨some ⟨b, off, none⟩, cap, by rw [ints_len, ← hm], .inr ⟨b, off, rfl, fun i hi => ?_⟩, fun h => by cases h⟩
  rw [ints_len, ← hm] at hi
  rw [ints_get, World.cell?_of_block (w := W') (heap_setCell_other _ _ _ _ (by show b ≠ w.heap.size + 1 + 1; omega))]
  exact keepCell hb (hc i hi)
set_option maxHeartbeats 4000000 in
set_option maxRecDepth 100000 in
theorem l1Part_any (n : Nat) (sa ra : ByteArray) (l : List Nat) (v : Value) (w : World) (hr : Reads w v (ints l)) (hl : ∀ y, y ∈ l → y < n) (h8 : l.length ≤ 8) (hsa : sa.size = n) (hra : ra.size = n * n) (hn : n ≤ 8) :
    Calls Tryz.prog 59 #[.agg #[.int .i64 n, .string sa, .string ra], v] w (Parted n sa ra l w) := by
  unfold Parted
  obtain ⟨ao, cap, rfl⟩ := hr.len
  rw [ints_len] at hr ⊢
  obtain ⟨m, hm⟩ : ∃ m, m = l.length := ⟨_, rfl⟩
  rw [← hm] at hr h8 ⊢
  obtain ⟨W3, hW3⟩ : ∃ W3, W3 = (((w.alloc (.cells #[.int .i64 n, .string sa, .string ra] 24)).alloc (.cells #[.int .i64 0, .string ⟨#[]⟩, .string ⟨#[]⟩] 24)).alloc (.cells #[.int .i64 m, .string ⟨#[]⟩, .string ⟨#[]⟩] 24)) := ⟨_, rfl⟩
  have BA : Hid (Box 24 W3 w.heap.size n sa ra) := by rw [hW3]; exact ((Box.new 24 w w.heap.size rfl n sa ra).below ((Below.refl (w.heap.size + 1) _).alloc (by simp) _) (by omega)).below ((Below.refl (w.heap.size + 1) _).alloc (by simp) _) (by omega)
  have BZ : Hid (Box 24 W3 (w.heap.size + 1) 0 ⟨#[]⟩ ⟨#[]⟩) := by rw [hW3]; exact (Box.new 24 _ (w.heap.size + 1) (by simp) 0 ⟨#[]⟩ ⟨#[]⟩).below ((Below.refl (w.heap.size + 1 + 1) _).alloc (by simp) _) (by omega)
  have BO : Hid (Box 24 W3 (w.heap.size + 1 + 1) m (bS (pS sa l) 0) (bR (pR n ra l) m 0)) := by rw [hW3]; exact Box.new 24 _ (w.heap.size + 1 + 1) (by simp) m ⟨#[]⟩ ⟨#[]⟩
  have AW : Hid (Below w.heap.size w W3) := by rw [hW3]; exact (((Below.refl _ _).alloc (Nat.le_refl _) _).alloc (by simp) _).alloc (by simp only [World.size_alloc]; omega) _
  have HB1 : ∀ {k : Nat}, k < m → ∃ b off, ao = some ⟨b, off, none⟩ ∧ b < w.heap.size := fun {k} h => by
    obtain ⟨b, off, h1, h2, _⟩ := lies hr hm (by omega)
    exact ⟨b, off, h1, h2⟩
  have RD := Lib.hid (hr.below AW.out (Nat.le_refl _))
  have HH := Lib.hid (show _ ∧ _ ∧ _ ∧ _ from ⟨hm, hl, hsa, hra⟩)
  have HW := Lib.hid hW3
  clear hW3 hr hm hl hsa hra
  go_enter Tryz.func59, Tryz.ntmps59
  go_wp2_with fail
  rw [← HW.out]
  go_loopw [6] (fun i wr => ∃ k : Nat, k ≤ m ∧ i = .int .i64 k ∧ Box 24 wr (w.heap.size + 1 + 1) m (bS (pS sa l) k) (bR (pR n ra l) m k) ∧ Box 24 wr w.heap.size n sa ra ∧ Box 24 wr (w.heap.size + 1) 0 ⟨#[]⟩ ⟨#[]⟩ ∧ Below (w.heap.size + 1) W3 wr ∧ Reads wr (.slice ao m cap) (ints l)) (fun i _ => m - (intOf i).toNat)
  case atStart => exact ⟨0, Nat.zero_le _, rfl, BO.out, BA.out, BZ.out, Below.refl _ _, RD.out⟩
  case round =>
    clear BO BA BZ RD HW
    obtain ⟨k, hk, rfl, h1, h2, h3, h4, h5⟩ := hrel
    have HQ := Lib.hid (show _ ∧ _ ∧ _ ∧ _ ∧ _ from ⟨h1, h2, h3, h4, h5⟩)
    have HO := Lib.hid h1
    have BAR := Lib.hid h2
    clear h1 h2 h3 h4 h5
    by_cases hkm : k < m
    · obtain ⟨b, off, rfl, hb, hc⟩ := lies HQ.out.2.2.2.2 HH.out.1 (by omega)
      obtain ⟨x, hx⟩ : ∃ x, x = l.getD k 0 := ⟨_, rfl⟩
      have k1 := hc k hkm
      rw [← hx] at k1
      have hxn : x < n := by rw [hx]; exact getD_lt HH.out.2.1 (by have := HH.out.1; omega)
      obtain ⟨p, hp⟩ : ∃ p, p = bitAt sa x := ⟨_, rfl⟩
      have HP : Hid (pS sa l k = p) := by rw [hp, hx]; rfl
      have HK1 := Lib.hid k1
      have HX := Lib.hid hx
      have CS : Hid (∀ W, Calls Tryz.prog 86 #[.agg #[.int .i64 n, .string sa, .string ra], .int .i64 x] W fun e w' => e = .returned (.bool p) ∧ Below W.heap.size W w') := fun W => by rw [hp]; exact l1Set_any n sa ra x W (by have := HH.out.2.2.1; omega) (by have := HH.out.2.2.1; omega)
      clear hc hx hp k1
      have ca : ∀ X : Wd (fun W => Hid (Below wr.heap.size wr W)), X.w.cell? ⟨w.heap.size, 0, none⟩ = some (.int .i64 n) ∧ X.w.cell? ⟨w.heap.size, 1, none⟩ = some (.string sa) ∧ X.w.cell? ⟨w.heap.size, 2, none⟩ = some (.string ra) := fun X => (BAR.out.below X.ok.out BAR.out.lt).c
      have ca0 := fun X => (ca X).1
      have ca1 := fun X => (ca X).2.1
      have ca2 := fun X => (ca X).2.2
      clear ca
      have co : ∀ X : Wd (fun W => Hid (Below wr.heap.size wr W)), X.w.cell? ⟨w.heap.size + 1 + 1, 0, none⟩ = some (.int .i64 m) ∧ X.w.cell? ⟨w.heap.size + 1 + 1, 1, none⟩ = some (.string (bS (pS sa l) k)) ∧ X.w.cell? ⟨w.heap.size + 1 + 1, 2, none⟩ = some (.string (bR (pR n ra l) m k)) := fun X => (HO.out.below X.ok.out HO.out.lt).c
      have co0 := fun X => (co X).1
      have co1 := fun X => (co X).2.1
      have co2 := fun X => (co X).2.2
      clear co
      have hne : Nonempty (Wd (fun W => Hid (Below wr.heap.size wr W))) := ⟨⟨wr, Lib.hid (Below.refl _ _)⟩⟩
      have ck : ∀ X : Wd (fun W => Hid (Below wr.heap.size wr W)), X.w.cell? ⟨b, off + k, none⟩ = some (.int .i64 x) := fun X => keepCell X.ok.out HK1.out
      have hadd : ∀ W, (Op.stringOp .add (bS (pS sa l) k) (bit1 p)).run Tryz.prog W = .ok (.string (bS (pS sa l) (k + 1))) W := fun W => (run_string_add_sum W _ _ (by rw [bS_size, bit1_size]; omega)).trans (by rw [bS, HP.out])
      go_wp2_with fail
      refine flow_last (S := (fun W => Hid (Below wr.heap.size wr W))) (by kernel_rfl) (by kernel_rfl) (by kernel_rfl) (by kernel_rfl) (by kernel_rfl) (Lib.hid (Below.refl _ _).drew) ?_
      simp only [List.dropLast_cons_cons, List.dropLast_singleton, List.getLast?_cons_cons, List.getLast?_singleton, Option.toList_some]
      repeat (go_big_quiet_step (first | (with_reducible refine (CS.out _).mono ?_; rintro e W ⟨rfl, hb⟩; exact ⟨rfl, Wd.on (Wd.ok _) hb⟩) | (go_at_call 58; with_reducible refine (l1Bit_at _ _).mono ?_; rintro e W ⟨rfl, rfl⟩; exact ⟨rfl, _, rfl⟩)))
      refine wpQuiet_nil ?_
      rintro _ ⟨X, rfl⟩
      have HXX := Lib.hid X.ok.out
      have BX2 := HO.out.below HXX.out HO.out.lt
      have f1 := BX2.free 1
      obtain ⟨o0, o1, o2⟩ := BX2.c
      have R : Hid (Box 24 (X.w.setCell ⟨w.heap.size + 1 + 1, 1, none⟩ (.string (bS (pS sa l) (k + 1)))) (w.heap.size + 1 + 1) m (bS (pS sa l) (k + 1)) (bR (pR n ra l) m k) ∧ Box 24 (X.w.setCell ⟨w.heap.size + 1 + 1, 1, none⟩ (.string (bS (pS sa l) (k + 1)))) w.heap.size n sa ra ∧ Box 24 (X.w.setCell ⟨w.heap.size + 1 + 1, 1, none⟩ (.string (bS (pS sa l) (k + 1)))) (w.heap.size + 1) 0 ⟨#[]⟩ ⟨#[]⟩ ∧ Below (w.heap.size + 1) W3 (X.w.setCell ⟨w.heap.size + 1 + 1, 1, none⟩ (.string (bS (pS sa l) (k + 1)))) ∧ Reads (X.w.setCell ⟨w.heap.size + 1 + 1, 1, none⟩ (.string (bS (pS sa l) (k + 1)))) (.slice (some ⟨b, off, none⟩) m cap) (ints l)) := by
        have hz := HO.out.lt
        have hbA : Below wr.heap.size wr X.w := HXX.out
        refine ⟨BX2.set1 _, ?_, ?_, (HQ.out.2.2.2.1.trans (hbA.mono (by omega))).setCell (by show w.heap.size + 1 ≤ w.heap.size + 1 + 1; omega) _, ?_⟩
        · unfold Box; rw [heap_setCell_other _ _ _ _ (by show w.heap.size ≠ w.heap.size + 1 + 1; omega)]; exact HQ.out.2.1.below hbA (by omega)
        · unfold Box; rw [heap_setCell_other _ _ _ _ (by show w.heap.size + 1 ≠ w.heap.size + 1 + 1; omega)]; exact HQ.out.2.2.1.below hbA (by omega)
        · exact reads_set HH.out.1 (by omega) HQ.out.2.2.2.2 hbA (HB1 hkm)
      clear ca0 ca1 ca2 co0 co1 co2 hne ck
      go_wp2
      go_loopw [7] (fun i wr => ∃ j : Nat, j ≤ m ∧ i = .int .i64 j ∧ Box 24 wr (w.heap.size + 1 + 1) m (bS (pS sa l) (k + 1)) (bRow (bR (pR n ra l) m k) (pR n ra l k) j) ∧ Box 24 wr w.heap.size n sa ra ∧ Box 24 wr (w.heap.size + 1) 0 ⟨#[]⟩ ⟨#[]⟩ ∧ Below (w.heap.size + 1) W3 wr ∧ Reads wr (.slice (some ⟨b, off, none⟩) m cap) (ints l)) (fun i _ => m - (intOf i).toNat)
      case atStart => exact ⟨0, Nat.zero_le _, rfl, R.out⟩
      case round =>
        clear R HQ HO BAR HK1 BX2 f1 hadd o0 o1 o2
        obtain ⟨j, hj, rfl, h1, h2, h3, h4, h5⟩ := hrel
        have HQ := Lib.hid (show _ ∧ _ ∧ _ ∧ _ ∧ _ from ⟨h1, h2, h3, h4, h5⟩)
        have HO := Lib.hid h1
        have BAR := Lib.hid h2
        clear h1 h2 h3 h4 h5
        by_cases hjm : j < m
        · obtain ⟨b', off', he, hb', hc⟩ := lies HQ.out.2.2.2.2 HH.out.1 (by omega)
          simp only [Option.some.injEq, Addr.mk.injEq] at he
          obtain ⟨rfl, rfl, -⟩ := he
          obtain ⟨y, hy⟩ : ∃ y, y = l.getD j 0 := ⟨_, rfl⟩
          have k1 := hc k hkm
          have k2 := hc j hjm
          rw [← HX.out] at k1
          rw [← hy] at k2
          have hyn : y < n := by rw [hy]; exact getD_lt HH.out.2.1 (by have := HH.out.1; omega)
          obtain ⟨q, hq⟩ : ∃ q, q = bitAt ra (x * n + y) := ⟨_, rfl⟩
          have HP2 : Hid (pR n ra l k j = q) := by rw [hq, hy, HX.out]; rfl
          have HK := Lib.hid (show _ ∧ _ from ⟨k1, k2⟩)
          have CR : Hid (∀ W, Calls Tryz.prog 87 #[.agg #[.int .i64 n, .string sa, .string ra], .int .i64 x, .int .i64 y] W fun e w' => e = .returned (.bool q) ∧ Below W.heap.size W w') := fun W => by rw [hq]; exact l1Rel_any n sa ra x y W hxn hyn hn HH.out.2.2.2
          clear hc hy hq k1 k2
          have ca : ∀ X : Wd (fun W => Hid (Below wr.heap.size wr W)), X.w.cell? ⟨w.heap.size, 0, none⟩ = some (.int .i64 n) ∧ X.w.cell? ⟨w.heap.size, 1, none⟩ = some (.string sa) ∧ X.w.cell? ⟨w.heap.size, 2, none⟩ = some (.string ra) := fun X => (BAR.out.below X.ok.out BAR.out.lt).c
          have ca0 := fun X => (ca X).1
          have ca1 := fun X => (ca X).2.1
          have ca2 := fun X => (ca X).2.2
          clear ca
          have co : ∀ X : Wd (fun W => Hid (Below wr.heap.size wr W)), X.w.cell? ⟨w.heap.size + 1 + 1, 0, none⟩ = some (.int .i64 m) ∧ X.w.cell? ⟨w.heap.size + 1 + 1, 1, none⟩ = some (.string (bS (pS sa l) (k + 1))) ∧ X.w.cell? ⟨w.heap.size + 1 + 1, 2, none⟩ = some (.string (bRow (bR (pR n ra l) m k) (pR n ra l k) j)) := fun X => (HO.out.below X.ok.out HO.out.lt).c
          have co0 := fun X => (co X).1
          have co1 := fun X => (co X).2.1
          have co2 := fun X => (co X).2.2
          clear co
          have hne : Nonempty (Wd (fun W => Hid (Below wr.heap.size wr W))) := ⟨⟨wr, Lib.hid (Below.refl _ _)⟩⟩
          have ck : ∀ X : Wd (fun W => Hid (Below wr.heap.size wr W)), X.w.cell? ⟨b, off + k, none⟩ = some (.int .i64 x) := fun X => keepCell X.ok.out HK.out.1
          have cj : ∀ X : Wd (fun W => Hid (Below wr.heap.size wr W)), X.w.cell? ⟨b, off + j, none⟩ = some (.int .i64 y) := fun X => keepCell X.ok.out HK.out.2
          have hadd : ∀ W, (Op.stringOp .add (bRow (bR (pR n ra l) m k) (pR n ra l k) j) (bit1 q)).run Tryz.prog W = .ok (.string (bRow (bR (pR n ra l) m k) (pR n ra l k) (j + 1))) W := fun W => (run_string_add_sum W _ _ (by rw [bRow_size, bR_size, bit1_size]; have : k * m ≤ 8 * 8 := Nat.mul_le_mul (by omega) h8; omega)).trans (by rw [bRow, HP2.out])
          go_wp2_with fail
          refine flow_last (S := (fun W => Hid (Below wr.heap.size wr W))) (by kernel_rfl) (by kernel_rfl) (by kernel_rfl) (by kernel_rfl) (by kernel_rfl) (Lib.hid (Below.refl _ _).drew) ?_
          simp only [List.dropLast_cons_cons, List.dropLast_singleton, List.getLast?_cons_cons, List.getLast?_singleton, Option.toList_some]
          repeat (go_big_quiet_step (first | (with_reducible refine (CR.out _).mono ?_; rintro e W ⟨rfl, hb⟩; exact ⟨rfl, Wd.on (Wd.ok _) hb⟩) | (go_at_call 58; with_reducible refine (l1Bit_at _ _).mono ?_; rintro e W ⟨rfl, rfl⟩; exact ⟨rfl, _, rfl⟩)))
          refine wpQuiet_nil ?_
          rintro _ ⟨X, rfl⟩
          have HXX := Lib.hid X.ok.out
          have BX2 := HO.out.below HXX.out HO.out.lt
          have f1 := BX2.free 2
          obtain ⟨o0, o1, o2⟩ := BX2.c
          have R : Hid (Box 24 (X.w.setCell ⟨w.heap.size + 1 + 1, 2, none⟩ (.string (bRow (bR (pR n ra l) m k) (pR n ra l k) (j + 1)))) (w.heap.size + 1 + 1) m (bS (pS sa l) (k + 1)) (bRow (bR (pR n ra l) m k) (pR n ra l k) (j + 1)) ∧ Box 24 (X.w.setCell ⟨w.heap.size + 1 + 1, 2, none⟩ (.string (bRow (bR (pR n ra l) m k) (pR n ra l k) (j + 1)))) w.heap.size n sa ra ∧ Box 24 (X.w.setCell ⟨w.heap.size + 1 + 1, 2, none⟩ (.string (bRow (bR (pR n ra l) m k) (pR n ra l k) (j + 1)))) (w.heap.size + 1) 0 ⟨#[]⟩ ⟨#[]⟩ ∧ Below (w.heap.size + 1) W3 (X.w.setCell ⟨w.heap.size + 1 + 1, 2, none⟩ (.string (bRow (bR (pR n ra l) m k) (pR n ra l k) (j + 1)))) ∧ Reads (X.w.setCell ⟨w.heap.size + 1 + 1, 2, none⟩ (.string (bRow (bR (pR n ra l) m k) (pR n ra l k) (j + 1)))) (.slice (some ⟨b, off, none⟩) m cap) (ints l)) := by
            have hz := HO.out.lt
            have hbA : Below wr.heap.size wr X.w := HXX.out
            refine ⟨BX2.set2 _, ?_, ?_, (HQ.out.2.2.2.1.trans (hbA.mono (by omega))).setCell (by show w.heap.size + 1 ≤ w.heap.size + 1 + 1; omega) _, ?_⟩
            · unfold Box; rw [heap_setCell_other _ _ _ _ (by show w.heap.size ≠ w.heap.size + 1 + 1; omega)]; exact HQ.out.2.1.below hbA (by omega)
            · unfold Box; rw [heap_setCell_other _ _ _ _ (by show w.heap.size + 1 ≠ w.heap.size + 1 + 1; omega)]; exact HQ.out.2.2.1.below hbA (by omega)
            · exact reads_set HH.out.1 (by omega) HQ.out.2.2.2.2 hbA (HB1 hkm)
          clear ca0 ca1 ca2 co0 co1 co2 hne ck cj
          go_wp2
          go_roundw
          case rel => exact ⟨j + 1, by omega, by go_num, R.out⟩
          case measure => simp [intOf]; omega
        · obtain rfl : m = j := by omega
          go_wp2
          go_roundw
          case rel => exact ⟨k + 1, by omega, by go_num, HQ.out⟩
          case measure => simp [intOf]; omega
    · obtain rfl : m = k := by omega
      obtain ⟨o0, o1, o2⟩ := HO.out.c
      obtain ⟨z0, z1, z2⟩ := HQ.out.2.2.1.c
      have g0 := HQ.out.2.2.1.free 0
      have g1 := HQ.out.2.2.1.free 1
      have g2 := HQ.out.2.2.1.free 2
      have HF := Lib.hid (((HQ.out.2.2.1.set0 m).set1 (bS (pS sa l) m)).set2 (bR (pR n ra l) m m)).c
      have R := Lib.hid ((((AW.out.trans (HQ.out.2.2.2.1.mono (by omega))).setCell (p := ⟨w.heap.size + 1, 0, none⟩) (by show w.heap.size ≤ w.heap.size + 1; omega) (.int .i64 m)).setCell (p := ⟨w.heap.size + 1, 1, none⟩) (by show w.heap.size ≤ w.heap.size + 1; omega) (.string (bS (pS sa l) m))).setCell (p := ⟨w.heap.size + 1, 2, none⟩) (by show w.heap.size ≤ w.heap.size + 1; omega) (.string (bR (pR n ra l) m m)))
      go_wp2
      exact bodyPost_ret (v := .agg #[.int .i64 m, .string (bS (pS sa l) m), .string (bR (pR n ra l) m m)]) (by simp [results, Tryz.results59, go_sem, HF.out.1, HF.out.2.1, HF.out.2.2]) rfl ⟨rfl, R.out⟩
end Go.Proofs.YtpcnoiigbmiejaaGreatDoor.part

/- l9Same of the reference. -/
namespace Go.Proofs.YtpcnoiigbmiejaaGreatDoor.same
set_option linter.unusedVariables false
set_option linter.unusedSimpArgs false
open Go.ChangeShapes Go.WideShapes Go.ChangeAt Go.RowKit
open Go.Proofs.YtpcnoiigbmiejaaGreatDoor.lib Go.Proofs.YtpcnoiigbmiejaaGreatDoor.st Go.Proofs.YtpcnoiigbmiejaaGreatDoor.base Go.Proofs.YtpcnoiigbmiejaaGreatDoor.make Go.Proofs.YtpcnoiigbmiejaaGreatDoor.near Go.Proofs.YtpcnoiigbmiejaaGreatDoor.dist Go.Proofs.YtpcnoiigbmiejaaGreatDoor.ball Go.Proofs.YtpcnoiigbmiejaaGreatDoor.fits Go.Proofs.YtpcnoiigbmiejaaGreatDoor.part Go.Proofs.YtpcnoiigbmiejaaGreatDoor.around Go.Proofs.YtpcnoiigbmiejaaGreatDoor.ord Go.Proofs.YtpcnoiigbmiejaaGreatDoor.each Go.Proofs.YtpcnoiigbmiejaaGreatDoor.chain Go.Proofs.YtpcnoiigbmiejaaGreatDoor.flow
theorem part_at (n : Nat) (s r : ByteArray) (x : Nat) (rad : Int) (v : Value) (w : World) (hx : x < n) (hn : n ≤ 8) (hs : s.size = n) (hr : r.size = n * n) (hv : Reads w v (ints (midN n r x rad))) :
    Calls Tryz.prog 59 #[.agg #[.int .i64 n, .string s, .string r], v] w fun e w' => e = .returned (.agg #[.int .i64 (aN n r x rad), .string (aS n s r x rad), .string (aR n r x rad)]) ∧ Below w.heap.size w w' :=
  l1Part_any n s r (midN n r x rad) v w hv (midN_lt hx) (by have := midN_len (n := n) (r := r) (x := x) (rad := rad) hx; omega) hs hr hn
theorem found_eq {d : Nat} {sa ra sb rb : ByteArray} : found (d + 1) sa ra sb rb = (((bitAt sa 0 == bitAt sb 0) && (bitAt ra 0 == bitAt rb 0)) && (ords (d + 1) (okB (d + 1) sa ra sb rb) d [0]).head?.isSome) := by
  unfold found
  rw [head_zero (by omega), okB_zero]
  cases ords (d + 1) (okB (d + 1) sa ra sb rb) d [0] <;> rfl

set_option maxHeartbeats 8000000 in
set_option maxRecDepth 100000 in
theorem l9Same_any (n : Nat) (sa ra : ByteArray) (x : Nat) (m : Nat) (sb rb : ByteArray) (y : Nat) (rad : Int) (w : World) (hx : x < n) (hn : n ≤ 8) (hsa : sa.size = n ∧ ra.size = n * n) (hy : y < m) (hm : m ≤ 8) (hsb : sb.size = m ∧ rb.size = m * m) :
    Calls Tryz.prog 44 #[.agg #[.int .i64 n, .string sa, .string ra], .int .i64 x, .agg #[.int .i64 m, .string sb, .string rb], .int .i64 y, .int .i64 rad] w fun e w' => e = .returned (.bool (sameB n sa ra x m sb rb y rad)) ∧ Below w.heap.size w w' := by
  have B1 : Hid (Box 24 (w.alloc (.cells #[.int .i64 n, .string sa, .string ra] 24)) w.heap.size n sa ra) := Box.new _ w _ rfl _ _ _
  obtain ⟨W0, hW0⟩ : ∃ W0, W0 = (w.alloc (.cells #[.int .i64 n, .string sa, .string ra] 24)).alloc (.cells #[.int .i64 m, .string sb, .string rb] 24) := ⟨_, rfl⟩
  have BA : Hid (Box 24 W0 w.heap.size n sa ra) := by rw [hW0]; exact B1.out.below ((Below.refl _ _).alloc (Nat.le_refl _) _) B1.out.lt
  have BB : Hid (Box 24 W0 (w.heap.size + 1) m sb rb) := by rw [hW0]; exact Box.new _ _ _ (by simp) _ _ _
  have AW : Hid (Below w.heap.size w W0) := by rw [hW0]; exact ((Below.refl _ _).alloc (Nat.le_refl _) _).alloc (by simp) _
  have HW := Lib.hid hW0
  obtain ⟨a0, a1, a2⟩ := BA.out.c
  obtain ⟨na, hna⟩ : ∃ q, q = aN n ra x rad := ⟨_, rfl⟩
  obtain ⟨nb, hnb⟩ : ∃ q, q = aN m rb y rad := ⟨_, rfl⟩
  obtain ⟨s1, hs1⟩ : ∃ q, q = aS n sa ra x rad := ⟨_, rfl⟩
  obtain ⟨s2, hs2⟩ : ∃ q, q = aS m sb rb y rad := ⟨_, rfl⟩
  obtain ⟨r1, hr1⟩ : ∃ q, q = aR n ra x rad := ⟨_, rfl⟩
  obtain ⟨r2, hr2⟩ : ∃ q, q = aR m rb y rad := ⟨_, rfl⟩
  have CA : Hid (∀ W, Calls Tryz.prog 85 #[.agg #[.int .i64 n, .string sa, .string ra], .int .i64 x, .int .i64 rad] W fun e w' => ∃ v, e = .returned v ∧ OwnI 3 w' W.heap.size v (ints (midN n ra x rad)) ∧ Below W.heap.size W w') := fun W => l9Ball_any n sa ra x rad W hx hn hsa.2
  have CB : Hid (∀ W, Calls Tryz.prog 85 #[.agg #[.int .i64 m, .string sb, .string rb], .int .i64 y, .int .i64 rad] W fun e w' => ∃ v, e = .returned v ∧ OwnI 3 w' W.heap.size v (ints (midN m rb y rad)) ∧ Below W.heap.size W w') := fun W => l9Ball_any m sb rb y rad W hy hm hsb.2
  have PA : Hid (∀ W v, Reads W v (ints (midN n ra x rad)) → Calls Tryz.prog 59 #[.agg #[.int .i64 n, .string sa, .string ra], v] W fun e w' => e = .returned (.agg #[.int .i64 na, .string s1, .string r1]) ∧ Below W.heap.size W w') := fun W v h => by rw [hna, hs1, hr1]; exact part_at n sa ra x rad v W hx hn hsa.1 hsa.2 h
  have PB : Hid (∀ W v, Reads W v (ints (midN m rb y rad)) → Calls Tryz.prog 59 #[.agg #[.int .i64 m, .string sb, .string rb], v] W fun e w' => e = .returned (.agg #[.int .i64 nb, .string s2, .string r2]) ∧ Below W.heap.size W w') := fun W v h => by rw [hnb, hs2, hr2]; exact part_at m sb rb y rad v W hy hm hsb.1 hsb.2 h
  have NA : 1 ≤ na ∧ na ≤ n := by rw [hna]; exact aN_le hx
  have NB : 1 ≤ nb ∧ nb ≤ m := by rw [hnb]; exact aN_le hy
  have HV : Hid (sameB n sa ra x m sb rb y rad = (decide (na = nb) && found na s1 r1 s2 r2)) := by rw [hna, hnb, hs1, hs2, hr1, hr2]; rfl
  have HZ : Hid (s1.size = na ∧ r1.size = na * na ∧ s2.size = nb ∧ r2.size = nb * nb) := by
    rw [hna, hnb, hs1, hs2, hr1, hr2]; exact ⟨aS_size _ _ _ _ _, aR_size _ _ _ _, aS_size _ _ _ _ _, aR_size _ _ _ _⟩
  clear hsa hsb hW0 B1 hna hnb hs1 hs2 hr1 hr2
  go_enter Tryz.func44, Tryz.ntmps44
  go_wp2_with fail
  rw [← HW.out]
  clear HW
  have q0 : ∀ QQ : Wd (fun X => X.cell? ⟨w.heap.size, 0, none⟩ = some (.int .i64 n) ∧ X.cell? ⟨w.heap.size, 1, none⟩ = some (.string sa) ∧ X.cell? ⟨w.heap.size, 2, none⟩ = some (.string ra)), QQ.w.cell? ⟨w.heap.size, 0, none⟩ = some (.int .i64 n) := fun QQ => QQ.ok.1
  have q1 : ∀ QQ : Wd (fun X => X.cell? ⟨w.heap.size, 0, none⟩ = some (.int .i64 n) ∧ X.cell? ⟨w.heap.size, 1, none⟩ = some (.string sa) ∧ X.cell? ⟨w.heap.size, 2, none⟩ = some (.string ra)), QQ.w.cell? ⟨w.heap.size, 1, none⟩ = some (.string sa) := fun QQ => QQ.ok.2.1
  have q2 : ∀ QQ : Wd (fun X => X.cell? ⟨w.heap.size, 0, none⟩ = some (.int .i64 n) ∧ X.cell? ⟨w.heap.size, 1, none⟩ = some (.string sa) ∧ X.cell? ⟨w.heap.size, 2, none⟩ = some (.string ra)), QQ.w.cell? ⟨w.heap.size, 2, none⟩ = some (.string ra) := fun QQ => QQ.ok.2.2
  have hne : Nonempty (Wd (fun X => X.cell? ⟨w.heap.size, 0, none⟩ = some (.int .i64 n) ∧ X.cell? ⟨w.heap.size, 1, none⟩ = some (.string sa) ∧ X.cell? ⟨w.heap.size, 2, none⟩ = some (.string ra))) := ⟨⟨W0, ⟨a0, a1, a2⟩⟩⟩
  refine chain_float (S := (fun X => X.cell? ⟨w.heap.size, 0, none⟩ = some (.int .i64 n) ∧ X.cell? ⟨w.heap.size, 1, none⟩ = some (.string sa) ∧ X.cell? ⟨w.heap.size, 2, none⟩ = some (.string ra))) [⟨6, 11, 24, zS⟩] [([true, true, true, true], 4), ([], 5)] [] [7] (by kernel_rfl) (by kernel_rfl) (by kernel_rfl) (by intro f hf; simp only [List.mem_cons, List.not_mem_nil, or_false] at hf; subst hf; exact allocS) (fun X X2 h hb => ⟨keepCell hb h.1, keepCell hb h.2.1, keepCell hb h.2.2⟩) ⟨a0, a1, a2⟩ (by intro f hf; simp only [List.mem_cons, List.not_mem_nil, or_false] at hf; subst hf; exact of_decide_eq_true rfl) ?_
  simp only [wpSegsF, wpLate, pickB, List.dropLast_cons_cons, List.dropLast_singleton, List.getLast?_cons_cons, List.getLast?_singleton, List.toList_toArray, List.getElem?_toArray, List.getElem?_cons_succ, List.getElem?_cons_zero, Option.toList_some]
  repeat (go_big_quiet_step (fail))
  refine wpQuiet_nil ?_
  intro a2 WA hsim hgWA K hK
  obtain ⟨u, rfl⟩ := hsim.one (of_decide_eq_true rfl)
  clear hsim
  go_wp2_with fail
  refine (CA.out _).mono ?_
  rintro e V1 ⟨v1, rfl, ho1, hb1⟩
  go_wp2_with fail
  refine hK _ _ hb1 ?_
  clear hK K
  repeat (go_big_quiet_step (fail))
  refine wpQuiet_nil ?_
  intro a2 WB hsim hgWB K hK
  obtain ⟨u, rfl⟩ := hsim.one (of_decide_eq_true rfl)
  clear hsim
  go_wp2_with fail
  refine (PA.out _ _ ((OwnI.reads ho1).below hgWB (Nat.le_refl _))).mono ?_
  rintro e V2 ⟨rfl, hb2⟩
  go_wp2_with fail
  refine hK _ _ hb2 ?_
  clear hK K
  repeat (go_big_quiet_step (fail))
  refine wpQuiet_nil ?_
  intro a2 WZ hsim hgZ hZ
  obtain ⟨A, rfl, hA, oA⟩ := zeros_one hsim (of_decide_eq_true rfl) hZ
  clear hsim hZ
  clear q0 q1 q2 hne a0 a1 a2 ho1
  have t2 := hgWA.trans (hb1.mono hgWA.size)
  have t3 := t2.trans (hgWB.mono t2.size)
  have t4 := t3.trans (hb2.mono t3.size)
  have hbZ := t4.trans (hgZ.mono t4.size)
  have oA' : Box 24 WZ A 0 ⟨#[]⟩ ⟨#[]⟩ := oA
  have hA2 : W0.drew.heap.size ≤ A := hA
  obtain ⟨z0, z1, z2⟩ := oA'.c
  have g0 := oA'.free 0
  have g1 := oA'.free 1
  have g2 := oA'.free 2
  have oA2 := ((oA'.set0 na).set1 s1).set2 r1
  have hc1 : Below W0.drew.heap.size W0.drew (((WZ.setCell ⟨A, 0, none⟩ (.int .i64 na)).setCell ⟨A, 1, none⟩ (.string s1)).setCell ⟨A, 2, none⟩ (.string r1)) := ((hbZ.setCell hA2 _).setCell hA2 _).setCell hA2 _
  have HA := Lib.hid (show _ ∧ _ from ⟨hc1, oA2⟩)
  clear t2 t3 t4 hbZ hc1 oA2 oA oA' hA hA2 hb1 hb2 hgWA hgWB hgZ
  intro K hK
  go_wp2_with fail
  clear z0 z1 z2 g0 g1 g2
  obtain ⟨W5, hW5⟩ : ∃ q, q = (((WZ.setCell ⟨A, 0, none⟩ (.int .i64 na)).setCell ⟨A, 1, none⟩ (.string s1)).setCell ⟨A, 2, none⟩ (.string r1)) := ⟨_, rfl⟩
  rw [← hW5] at HA ⊢
  have hs1 := HA.out.1
  clear hW5
  refine hK _ _ hs1 ?_
  clear hK K
  clear hs1
  have AW5 : Hid (Below w.heap.size w W5) := AW.out.trans ((of_drew HA.out.1).mono AW.out.size)
  have BB5 := Lib.hid (BB.out.below (of_drew HA.out.1) BB.out.lt)
  have BA5 := Lib.hid HA.out.2
  clear AW BA BB HA
  obtain ⟨b0, b1, b2⟩ := BB5.out.c
  go_wp2_with fail
  have q0 : ∀ QQ : Wd (fun X => X.cell? ⟨w.heap.size + 1, 0, none⟩ = some (.int .i64 m) ∧ X.cell? ⟨w.heap.size + 1, 1, none⟩ = some (.string sb) ∧ X.cell? ⟨w.heap.size + 1, 2, none⟩ = some (.string rb)), QQ.w.cell? ⟨w.heap.size + 1, 0, none⟩ = some (.int .i64 m) := fun QQ => QQ.ok.1
  have q1 : ∀ QQ : Wd (fun X => X.cell? ⟨w.heap.size + 1, 0, none⟩ = some (.int .i64 m) ∧ X.cell? ⟨w.heap.size + 1, 1, none⟩ = some (.string sb) ∧ X.cell? ⟨w.heap.size + 1, 2, none⟩ = some (.string rb)), QQ.w.cell? ⟨w.heap.size + 1, 1, none⟩ = some (.string sb) := fun QQ => QQ.ok.2.1
  have q2 : ∀ QQ : Wd (fun X => X.cell? ⟨w.heap.size + 1, 0, none⟩ = some (.int .i64 m) ∧ X.cell? ⟨w.heap.size + 1, 1, none⟩ = some (.string sb) ∧ X.cell? ⟨w.heap.size + 1, 2, none⟩ = some (.string rb)), QQ.w.cell? ⟨w.heap.size + 1, 2, none⟩ = some (.string rb) := fun QQ => QQ.ok.2.2
  have hne : Nonempty (Wd (fun X => X.cell? ⟨w.heap.size + 1, 0, none⟩ = some (.int .i64 m) ∧ X.cell? ⟨w.heap.size + 1, 1, none⟩ = some (.string sb) ∧ X.cell? ⟨w.heap.size + 1, 2, none⟩ = some (.string rb))) := ⟨⟨W5, ⟨b0, b1, b2⟩⟩⟩
  refine chain_float (S := (fun X => X.cell? ⟨w.heap.size + 1, 0, none⟩ = some (.int .i64 m) ∧ X.cell? ⟨w.heap.size + 1, 1, none⟩ = some (.string sb) ∧ X.cell? ⟨w.heap.size + 1, 2, none⟩ = some (.string rb))) [⟨6, 12, 24, zS⟩] [([true, true, true, true], 4), ([], 5)] [] [7] (by kernel_rfl) (by kernel_rfl) (by kernel_rfl) (by intro f hf; simp only [List.mem_cons, List.not_mem_nil, or_false] at hf; subst hf; exact allocS) (fun X X2 h hb => ⟨keepCell hb h.1, keepCell hb h.2.1, keepCell hb h.2.2⟩) ⟨b0, b1, b2⟩ (by intro f hf; simp only [List.mem_cons, List.not_mem_nil, or_false] at hf; subst hf; exact of_decide_eq_true rfl) ?_
  simp only [wpSegsF, wpLate, pickB, List.dropLast_cons_cons, List.dropLast_singleton, List.getLast?_cons_cons, List.getLast?_singleton, List.toList_toArray, List.getElem?_toArray, List.getElem?_cons_succ, List.getElem?_cons_zero, Option.toList_some]
  repeat (go_big_quiet_step (fail))
  refine wpQuiet_nil ?_
  intro a2 WA hsim hgWA K hK
  obtain ⟨u, rfl⟩ := hsim.one (of_decide_eq_true rfl)
  clear hsim
  go_wp2_with fail
  refine (CB.out _).mono ?_
  rintro e V1 ⟨v1, rfl, ho1, hb1⟩
  go_wp2_with fail
  refine hK _ _ hb1 ?_
  clear hK K
  repeat (go_big_quiet_step (fail))
  refine wpQuiet_nil ?_
  intro a2 WB hsim hgWB K hK
  obtain ⟨u, rfl⟩ := hsim.one (of_decide_eq_true rfl)
  clear hsim
  go_wp2_with fail
  refine (PB.out _ _ ((OwnI.reads ho1).below hgWB (Nat.le_refl _))).mono ?_
  rintro e V2 ⟨rfl, hb2⟩
  go_wp2_with fail
  refine hK _ _ hb2 ?_
  clear hK K
  repeat (go_big_quiet_step (fail))
  refine wpQuiet_nil ?_
  intro a2 WZ hsim hgZ hZ
  obtain ⟨B, rfl, hA, oA⟩ := zeros_one hsim (of_decide_eq_true rfl) hZ
  clear hsim hZ
  clear q0 q1 q2 hne b0 b1 b2 ho1
  have t2 := hgWA.trans (hb1.mono hgWA.size)
  have t3 := t2.trans (hgWB.mono t2.size)
  have t4 := t3.trans (hb2.mono t3.size)
  have hbZ := t4.trans (hgZ.mono t4.size)
  have oA' : Box 24 WZ B 0 ⟨#[]⟩ ⟨#[]⟩ := oA
  have hA2 : W5.drew.heap.size ≤ B := hA
  obtain ⟨z0, z1, z2⟩ := oA'.c
  have g0 := oA'.free 0
  have g1 := oA'.free 1
  have g2 := oA'.free 2
  have oA2 := ((oA'.set0 nb).set1 s2).set2 r2
  have hc1 : Below W5.drew.heap.size W5.drew (((WZ.setCell ⟨B, 0, none⟩ (.int .i64 nb)).setCell ⟨B, 1, none⟩ (.string s2)).setCell ⟨B, 2, none⟩ (.string r2)) := ((hbZ.setCell hA2 _).setCell hA2 _).setCell hA2 _
  have HB := Lib.hid (show _ ∧ _ from ⟨hc1, oA2⟩)
  clear t2 t3 t4 hbZ hc1 oA2 oA oA' hA hA2 hb1 hb2 hgWA hgWB hgZ
  intro K hK
  go_wp2_with fail
  clear z0 z1 z2 g0 g1 g2
  obtain ⟨W6, hW6⟩ : ∃ q, q = (((WZ.setCell ⟨B, 0, none⟩ (.int .i64 nb)).setCell ⟨B, 1, none⟩ (.string s2)).setCell ⟨B, 2, none⟩ (.string r2)) := ⟨_, rfl⟩
  rw [← hW6] at HB ⊢
  have hs1 := HB.out.1
  clear hW6
  refine hK _ _ hs1 ?_
  clear hK K
  clear hs1
  have AW6 : Hid (Below w.heap.size w W6) := AW5.out.trans ((of_drew HB.out.1).mono AW5.out.size)
  have BA6 := Lib.hid (BA5.out.below (of_drew HB.out.1) BA5.out.lt)
  have BB6 := Lib.hid HB.out.2
  clear AW5 BA5 BB5 HB
  by_cases hab : na = nb
  · subst hab
    obtain ⟨d, hd⟩ : ∃ d, na = d + 1 := ⟨na - 1, by omega⟩
    obtain ⟨p0, hp0⟩ : ∃ b, b = bitAt s1 0 := ⟨_, rfl⟩
    obtain ⟨q0, hq0⟩ : ∃ b, b = bitAt s2 0 := ⟨_, rfl⟩
    obtain ⟨p1, hp1⟩ : ∃ b, b = bitAt r1 0 := ⟨_, rfl⟩
    obtain ⟨q1, hq1⟩ : ∃ b, b = bitAt r2 0 := ⟨_, rfl⟩
    have HF : Hid (sameB n sa ra x m sb rb y rad = (((p0 == q0) && (p1 == q1)) && (ords na (okB na s1 r1 s2 r2) d [0]).head?.isSome)) := by rw [Hid, HV.out, decide_eq_true rfl, Bool.true_and, hp0, hq0, hp1, hq1, hd, found_eq]
    have D0 : Hid (∀ W, Calls Tryz.prog 86 #[.agg #[.int .i64 na, .string s1, .string r1], .int .i64 0] W fun e w' => e = .returned (.bool p0) ∧ Below W.heap.size W w') := fun W => by rw [hp0]; exact l1Set_any na s1 r1 0 W (by have := HZ.out.1; omega) (by have := HZ.out.1; omega)
    have D1 : Hid (∀ W, Calls Tryz.prog 86 #[.agg #[.int .i64 na, .string s2, .string r2], .int .i64 0] W fun e w' => e = .returned (.bool q0) ∧ Below W.heap.size W w') := fun W => by rw [hq0]; exact l1Set_any na s2 r2 0 W (by have := HZ.out.2.2.1; omega) (by have := HZ.out.2.2.1; omega)
    have D2 : Hid (∀ W, Calls Tryz.prog 87 #[.agg #[.int .i64 na, .string s1, .string r1], .int .i64 0, .int .i64 0] W fun e w' => e = .returned (.bool p1) ∧ Below W.heap.size W w') := fun W => by have h := l1Rel_any na s1 r1 0 0 W (by omega) (by omega) (by omega) HZ.out.2.1; rw [Nat.zero_mul, Nat.add_zero, ← hp1] at h; exact h
    have D3 : Hid (∀ W, Calls Tryz.prog 87 #[.agg #[.int .i64 na, .string s2, .string r2], .int .i64 0, .int .i64 0] W fun e w' => e = .returned (.bool q1) ∧ Below W.heap.size W w') := fun W => by have h := l1Rel_any na s2 r2 0 0 W (by omega) (by omega) (by omega) HZ.out.2.2.2; rw [Nat.zero_mul, Nat.add_zero, ← hq1] at h; exact h
    have ca0 : ∀ X : Wd (fun W => Hid (Below W6.heap.size W6 W)), X.w.cell? ⟨A, 0, none⟩ = some (.int .i64 na) := fun X => (BA6.out.below X.ok.out BA6.out.lt).c.1
    have ca1 : ∀ X : Wd (fun W => Hid (Below W6.heap.size W6 W)), X.w.cell? ⟨A, 1, none⟩ = some (.string s1) := fun X => (BA6.out.below X.ok.out BA6.out.lt).c.2.1
    have ca2 : ∀ X : Wd (fun W => Hid (Below W6.heap.size W6 W)), X.w.cell? ⟨A, 2, none⟩ = some (.string r1) := fun X => (BA6.out.below X.ok.out BA6.out.lt).c.2.2
    have cb0 : ∀ X : Wd (fun W => Hid (Below W6.heap.size W6 W)), X.w.cell? ⟨B, 0, none⟩ = some (.int .i64 na) := fun X => (BB6.out.below X.ok.out BB6.out.lt).c.1
    have cb1 : ∀ X : Wd (fun W => Hid (Below W6.heap.size W6 W)), X.w.cell? ⟨B, 1, none⟩ = some (.string s2) := fun X => (BB6.out.below X.ok.out BB6.out.lt).c.2.1
    have cb2 : ∀ X : Wd (fun W => Hid (Below W6.heap.size W6 W)), X.w.cell? ⟨B, 2, none⟩ = some (.string r2) := fun X => (BB6.out.below X.ok.out BB6.out.lt).c.2.2
    have hne : Nonempty (Wd (fun W => Hid (Below W6.heap.size W6 W))) := ⟨⟨W6, Lib.hid (Below.refl _ _)⟩⟩
    have hd2 := Lib.hid hd
    clear hp0 hq0 hp1 hq1 hd
    go_wp2_with fail
    by_cases h0 : p0 = q0
    · subst h0
      by_cases h1 : p1 = q1
      · subst h1
        refine flow_all (S := (fun W => Hid (Below W6.heap.size W6 W))) (by kernel_rfl) (by kernel_rfl) (Lib.hid (Below.refl _ _).drew) ?_
        repeat (go_big_quiet_step (first | ((with_reducible refine (D0.out _).mono ?_); rintro e W ⟨rfl, hb⟩; exact ⟨rfl, Wd.on (Wd.ok _) hb⟩) | ((with_reducible refine (D1.out _).mono ?_); rintro e W ⟨rfl, hb⟩; exact ⟨rfl, Wd.on (Wd.ok _) hb⟩) | ((with_reducible refine (D2.out _).mono ?_); rintro e W ⟨rfl, hb⟩; exact ⟨rfl, Wd.on (Wd.ok _) hb⟩) | ((with_reducible refine (D3.out _).mono ?_); rintro e W ⟨rfl, hb⟩; exact ⟨rfl, Wd.on (Wd.ok _) hb⟩)))
        refine wpQuiet_nil ?_
        rintro _ ⟨X, rfl⟩
        have AX : Hid (Below w.heap.size w X.w) := AW6.out.trans (X.ok.out.mono AW6.out.size)
        have HG : Hid (sameB n sa ra x m sb rb y rad = (ords na (okB na s1 r1 s2 r2) d [0]).head?.isSome) := by rw [Hid, HF.out, beq_self_eq_true, beq_self_eq_true]; rfl
        have BAX := Lib.hid (BA6.out.below X.ok.out BA6.out.lt)
        have BBX := Lib.hid (BB6.out.below X.ok.out BB6.out.lt)
        have O1 : Hid (OwnI 3 (X.w.alloc (.cells #[.int .i64 0] 3)) X.w.heap.size (.slice (some ⟨X.w.heap.size, 0, none⟩) 1 1) (ints [0])) := oneRow _ _ _ _ 0 rfl (Nat.le_refl _)
        have A1 : Hid (Below X.w.heap.size X.w (X.w.alloc (.cells #[.int .i64 0] 3))) := (Below.refl _ _).alloc (Nat.le_refl _) _
        obtain ⟨c0, c1, c2⟩ := BAX.out.c
        obtain ⟨d0, d1, d2⟩ := BBX.out.c
        obtain ⟨c3, c4, c5⟩ := (BAX.out.below A1.out BAX.out.lt).c
        obtain ⟨d3, d4, d5⟩ := (BBX.out.below A1.out BBX.out.lt).c
        clear ca0 ca1 ca2 cb0 cb1 cb2 hne
        go_wp2_with fail
        refine (order_any (by omega) ⟨HZ.out.1, HZ.out.2.1, HZ.out.2.2.1, HZ.out.2.2.2⟩ d [0] _ _ (by have := hd2.out; simp; omega) (fun z hz => by simp at hz; omega) O1.out.reads).mono ?_
        rintro e W9 ⟨v, rfl, _, hb⟩
        have R : Hid (Below w.heap.size w W9) := AX.out.trans ((A1.out.trans (hb.mono (by simp))).mono AX.out.size)
        clear hb c0 c1 c2 d0 d1 d2 c3 c4 c5 d3 d4 d5
        go_wp2
        go_ret
        exact ⟨by rw [HG.out]; rfl, R.out⟩
      · have HFF : Hid (sameB n sa ra x m sb rb y rad = false) := by rw [Hid, HF.out, show (p1 == q1) = false from by simpa using h1, Bool.and_false, Bool.false_and]
        have e1 : (p1 == q1) = false := by simpa using h1
        clear h1
        refine flow_all (S := (fun W => Hid (Below W6.heap.size W6 W))) (by kernel_rfl) (by kernel_rfl) (Lib.hid (Below.refl _ _).drew) ?_
        repeat (go_big_quiet_step (first | ((with_reducible refine (D0.out _).mono ?_); rintro e W ⟨rfl, hb⟩; exact ⟨rfl, Wd.on (Wd.ok _) hb⟩) | ((with_reducible refine (D1.out _).mono ?_); rintro e W ⟨rfl, hb⟩; exact ⟨rfl, Wd.on (Wd.ok _) hb⟩) | ((with_reducible refine (D2.out _).mono ?_); rintro e W ⟨rfl, hb⟩; exact ⟨rfl, Wd.on (Wd.ok _) hb⟩) | ((with_reducible refine (D3.out _).mono ?_); rintro e W ⟨rfl, hb⟩; exact ⟨rfl, Wd.on (Wd.ok _) hb⟩)))
        refine wpQuiet_nil ?_
        rintro _ ⟨X, rfl⟩
        have AX : Hid (Below w.heap.size w X.w) := AW6.out.trans (X.ok.out.mono AW6.out.size)
        clear ca0 ca1 ca2 cb0 cb1 cb2 hne
        go_wp2
        go_ret
        exact ⟨by rw [HFF.out]; rfl, AX.out⟩
    · have HFF : Hid (sameB n sa ra x m sb rb y rad = false) := by rw [Hid, HF.out, show (p0 == q0) = false from by simpa using h0, Bool.false_and, Bool.false_and]
      have e0 : (p0 == q0) = false := by simpa using h0
      clear h0
      refine flow_all (S := (fun W => Hid (Below W6.heap.size W6 W))) (by kernel_rfl) (by kernel_rfl) (Lib.hid (Below.refl _ _).drew) ?_
      repeat (go_big_quiet_step (first | ((with_reducible refine (D0.out _).mono ?_); rintro e W ⟨rfl, hb⟩; exact ⟨rfl, Wd.on (Wd.ok _) hb⟩) | ((with_reducible refine (D1.out _).mono ?_); rintro e W ⟨rfl, hb⟩; exact ⟨rfl, Wd.on (Wd.ok _) hb⟩)))
      refine wpQuiet_nil ?_
      rintro _ ⟨X, rfl⟩
      have AX : Hid (Below w.heap.size w X.w) := AW6.out.trans (X.ok.out.mono AW6.out.size)
      clear ca0 ca1 ca2 cb0 cb1 cb2 hne
      go_wp2
      go_ret
      exact ⟨by rw [HFF.out]; rfl, AX.out⟩
  · have HFF : Hid (sameB n sa ra x m sb rb y rad = false) := by rw [Hid, HV.out, decide_eq_false hab, Bool.false_and]
    have t : ((na : Int) != (nb : Int)) = true := by simp; omega
    have ca0 : ∀ X : Wd (fun W => Hid (Below W6.heap.size W6 W)), X.w.cell? ⟨A, 0, none⟩ = some (.int .i64 na) := fun X => (BA6.out.below X.ok.out BA6.out.lt).c.1
    have ca1 : ∀ X : Wd (fun W => Hid (Below W6.heap.size W6 W)), X.w.cell? ⟨A, 1, none⟩ = some (.string s1) := fun X => (BA6.out.below X.ok.out BA6.out.lt).c.2.1
    have ca2 : ∀ X : Wd (fun W => Hid (Below W6.heap.size W6 W)), X.w.cell? ⟨A, 2, none⟩ = some (.string r1) := fun X => (BA6.out.below X.ok.out BA6.out.lt).c.2.2
    have cb0 : ∀ X : Wd (fun W => Hid (Below W6.heap.size W6 W)), X.w.cell? ⟨B, 0, none⟩ = some (.int .i64 nb) := fun X => (BB6.out.below X.ok.out BB6.out.lt).c.1
    have cb1 : ∀ X : Wd (fun W => Hid (Below W6.heap.size W6 W)), X.w.cell? ⟨B, 1, none⟩ = some (.string s2) := fun X => (BB6.out.below X.ok.out BB6.out.lt).c.2.1
    have cb2 : ∀ X : Wd (fun W => Hid (Below W6.heap.size W6 W)), X.w.cell? ⟨B, 2, none⟩ = some (.string r2) := fun X => (BB6.out.below X.ok.out BB6.out.lt).c.2.2
    have hne : Nonempty (Wd (fun W => Hid (Below W6.heap.size W6 W))) := ⟨⟨W6, Lib.hid (Below.refl _ _)⟩⟩
    clear hab
    go_wp2_with fail
    refine flow_all (S := (fun W => Hid (Below W6.heap.size W6 W))) (by kernel_rfl) (by kernel_rfl) (Lib.hid (Below.refl _ _).drew) ?_
    repeat (go_big_quiet_step (fail))
    refine wpQuiet_nil ?_
    rintro _ ⟨X, rfl⟩
    have AX : Hid (Below w.heap.size w X.w) := AW6.out.trans (X.ok.out.mono AW6.out.size)
    clear ca0 ca1 ca2 cb0 cb1 cb2 hne
    go_wp2
    go_ret
    exact ⟨by rw [HFF.out]; rfl, AX.out⟩
end Go.Proofs.YtpcnoiigbmiejaaGreatDoor.same
