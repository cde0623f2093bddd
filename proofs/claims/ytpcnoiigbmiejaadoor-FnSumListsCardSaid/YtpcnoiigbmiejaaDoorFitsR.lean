/- l1Fits of the reference. -/
import Derived.Test.YtpcnoiigbmiejaaDoorPkO
import Derived.Test.YtpcnoiigbmiejaaDoorPart
namespace Go.Proofs.YtpcnoiigbmiejaaDoor.fits
set_option linter.unusedVariables false
set_option linter.unusedSimpArgs false
open Go.ChangeShapes Go.WideShapes Go.ChangeAt Go.RowKit
open Go.Proofs.YtpcnoiigbmiejaaDoor.lib Go.Proofs.YtpcnoiigbmiejaaDoor.st Go.Proofs.YtpcnoiigbmiejaaDoor.base Go.Proofs.YtpcnoiigbmiejaaDoor.flow Go.Proofs.YtpcnoiigbmiejaaDoor.part
theorem l1Set_b (n : Int) (s r : ByteArray) (x : Nat) (w : World) (hx : x < s.size) (hs : s.size ≤ 9223372036854775807) :
    Calls Tryd.prog 125 #[.agg #[.int .i64 n, .string s, .string r], .int .i64 x] w fun e w' => e = .returned (.bool (bitAt s x)) ∧ Below w.heap.size w w' := l1Set_any n s r x w hx hs
theorem l1Rel_b (n : Nat) (s r : ByteArray) (x y : Nat) (w : World) (hx : x < n) (hy : y < n) (hn : n ≤ 8) (hr : r.size = n * n) :
    Calls Tryd.prog 126 #[.agg #[.int .i64 n, .string s, .string r], .int .i64 x, .int .i64 y] w fun e w' => e = .returned (.bool (bitAt r (x * n + y))) ∧ Below w.heap.size w w' := l1Rel_any n s r x y w hx hy hn hr
theorem more_get {pre : List Nat} {x k m : Nat} (hm : m = pre.length) (hk : k < m) : (pre ++ [x]).getD k 0 = pre.getD k 0 := by
  subst hm; simp [List.getD_eq_getElem?_getD, List.getElem?_append_left hk]
theorem more_last {pre : List Nat} {x m : Nat} (hm : m = pre.length) : (pre ++ [x]).getD m 0 = x := by
  subst hm; simp [List.getD_eq_getElem?_getD]
theorem range_get {i k : Nat} (h : i < k) : (List.range k).getD i 0 = i := by simp [List.getD_eq_getElem?_getD, h]

set_option maxHeartbeats 4000000 in
set_option maxRecDepth 100000 in
theorem l1Fits_any (n : Nat) (sa ra sb rb : ByteArray) (pre : List Nat) (x : Nat) (v v2 : Value) (w : World) (hx : x < n) (hi : pre.length < n) (hp : ∀ y, y ∈ pre → y < n) (hn : n ≤ 8)
    (hsa : sa.size = n) (hra : ra.size = n * n) (hsb : sb.size = n) (hrb : rb.size = n * n) (hv : Reads w v (ints (pre ++ [x]))) (hv2 : Reads w v2 (ints (List.range (pre.length + 1)))) :
    Calls Tryd.prog 164 #[.agg #[.int .i64 n, .string sa, .string ra], v, .agg #[.int .i64 n, .string sb, .string rb], v2] w fun e w' => e = .returned (.bool (okB n sa ra sb rb pre x)) ∧ Below w.heap.size w w' := by
  rw [← fitsB_ok]
  obtain ⟨m, hm⟩ : ∃ m, m = pre.length := ⟨_, rfl⟩
  obtain ⟨ao, cap, rfl⟩ := hv.len
  obtain ⟨bo, cap2, rfl⟩ := hv2.len
  rw [ints_len] at hv hv2 ⊢
  rw [ints_len]
  have hl1 : (pre ++ [x]).length = m + 1 := by simp [hm]
  have hl2 : (List.range (pre.length + 1)).length = m + 1 := by simp [hm]
  rw [hl1] at hv ⊢
  rw [hl2] at hv2 ⊢
  rw [← hm] at hv2 hi ⊢
  obtain ⟨L, hL⟩ : ∃ L, L = m + 1 := ⟨_, rfl⟩
  rw [← hL] at hv hv2 ⊢
  obtain ⟨b1, o1, rfl, hb1, hc1⟩ := lies hv (by omega) (by omega)
  obtain ⟨b2, o2, rfl, hb2, hc2⟩ := lies hv2 (by first | (simp; done) | (simp; omega)) (by omega)
  have c1m := hc1 m (by omega)
  have c2m := hc2 m (by omega)
  rw [more_last hm] at c1m
  rw [range_get (by omega)] at c2m
  have HC : Hid (∀ k, k < m → w.cell? ⟨b1, o1 + k, none⟩ = some (.int .i64 (pre.getD k 0 : Nat)) ∧ w.cell? ⟨b2, o2 + k, none⟩ = some (.int .i64 k)) := fun k hk => by
    have h1 := hc1 k (by omega)
    have h2 := hc2 k (by omega)
    rw [more_get hm hk] at h1
    rw [range_get (by omega)] at h2
    exact ⟨h1, h2⟩
  have B1 : Hid (Box 24 (w.alloc (.cells #[.int .i64 n, .string sa, .string ra] 24)) w.heap.size n sa ra) := Box.new _ w _ rfl _ _ _
  have BA : Hid (Box 24 ((w.alloc (.cells #[.int .i64 n, .string sa, .string ra] 24)).alloc (.cells #[.int .i64 n, .string sb, .string rb] 24)) w.heap.size n sa ra) := B1.out.below ((Below.refl _ _).alloc (Nat.le_refl _) _) B1.out.lt
  have BB : Hid (Box 24 ((w.alloc (.cells #[.int .i64 n, .string sa, .string ra] 24)).alloc (.cells #[.int .i64 n, .string sb, .string rb] 24)) (w.heap.size + 1) n sb rb) := Box.new _ _ _ (by simp) _ _ _
  obtain ⟨W2, hW2⟩ : ∃ W2, W2 = (w.alloc (.cells #[.int .i64 n, .string sa, .string ra] 24)).alloc (.cells #[.int .i64 n, .string sb, .string rb] 24) := ⟨_, rfl⟩
  have AW : Hid (Below w.heap.size w W2) := by rw [hW2]; exact ((Below.refl _ _).alloc (Nat.le_refl _) _).alloc (by simp) _
  rw [← hW2] at BA BB
  have C2 : Hid (W2.cell? ⟨b1, o1 + m, none⟩ = some (.int .i64 x) ∧ W2.cell? ⟨b2, o2 + m, none⟩ = some (.int .i64 m)) := ⟨keepCell AW.out c1m, keepCell AW.out c2m⟩
  have HP : Hid (∀ k, k < m → pre.getD k 0 < n) := fun k hk => getD_lt hp (by omega)
  have HS := Lib.hid (show _ ∧ _ ∧ _ ∧ _ ∧ _ from ⟨hsa, hra, hsb, hrb, hm⟩)
  have hmL : m < L := by omega
  have hLm : IntKind.i64.wrap ((L : Int) - 1) = (m : Int) := by rw [IntKind.wrap_i64]; omega
  obtain ⟨p0, hp0⟩ : ∃ b, b = bitAt sa x := ⟨_, rfl⟩
  obtain ⟨q0, hq0⟩ : ∃ b, b = bitAt sb m := ⟨_, rfl⟩
  have HF0 : Hid (fitsB n sa ra sb rb (pre ++ [x]) x m = ((p0 == q0) && (List.range (m + 1)).all (stepF n ra rb (pre ++ [x]) x m))) := by rw [hp0, hq0]; rfl
  have C0 : Hid (∀ W, Calls Tryd.prog 125 #[.agg #[.int .i64 n, .string sa, .string ra], .int .i64 x] W fun e w' => e = .returned (.bool p0) ∧ Below W.heap.size W w') := fun W => by rw [hp0]; exact l1Set_any n sa ra x W (by omega) (by omega)
  have C1 : Hid (∀ W, Calls Tryd.prog 125 #[.agg #[.int .i64 n, .string sb, .string rb], .int .i64 m] W fun e w' => e = .returned (.bool q0) ∧ Below W.heap.size W w') := fun W => by rw [hq0]; exact l1Set_any n sb rb m W (by omega) (by omega)
  have ca0 : ∀ X : Wd (fun W => Hid (Below W2.heap.size W2 W)), X.w.cell? ⟨w.heap.size, 0, none⟩ = some (.int .i64 n) := fun X => (BA.out.below X.ok.out BA.out.lt).c.1
  have ca1 : ∀ X : Wd (fun W => Hid (Below W2.heap.size W2 W)), X.w.cell? ⟨w.heap.size, 1, none⟩ = some (.string sa) := fun X => (BA.out.below X.ok.out BA.out.lt).c.2.1
  have ca2 : ∀ X : Wd (fun W => Hid (Below W2.heap.size W2 W)), X.w.cell? ⟨w.heap.size, 2, none⟩ = some (.string ra) := fun X => (BA.out.below X.ok.out BA.out.lt).c.2.2
  have cb0 : ∀ X : Wd (fun W => Hid (Below W2.heap.size W2 W)), X.w.cell? ⟨w.heap.size + 1, 0, none⟩ = some (.int .i64 n) := fun X => (BB.out.below X.ok.out BB.out.lt).c.1
  have cb1 : ∀ X : Wd (fun W => Hid (Below W2.heap.size W2 W)), X.w.cell? ⟨w.heap.size + 1, 1, none⟩ = some (.string sb) := fun X => (BB.out.below X.ok.out BB.out.lt).c.2.1
  have cb2 : ∀ X : Wd (fun W => Hid (Below W2.heap.size W2 W)), X.w.cell? ⟨w.heap.size + 1, 2, none⟩ = some (.string rb) := fun X => (BB.out.below X.ok.out BB.out.lt).c.2.2
  have cx : ∀ X : Wd (fun W => Hid (Below W2.heap.size W2 W)), X.w.cell? ⟨b1, o1 + m, none⟩ = some (.int .i64 x) := fun X => keepCell X.ok.out C2.out.1
  have cy : ∀ X : Wd (fun W => Hid (Below W2.heap.size W2 W)), X.w.cell? ⟨b2, o2 + m, none⟩ = some (.int .i64 m) := fun X => keepCell X.ok.out C2.out.2
  have hne : Nonempty (Wd (fun W => Hid (Below W2.heap.size W2 W))) := ⟨⟨W2, Lib.hid (Below.refl _ _)⟩⟩
  have HW2 := Lib.hid hW2
  have HLL := Lib.hid hL
  have hbb : b1 < W2.heap.size ∧ b2 < W2.heap.size := ⟨Nat.lt_of_lt_of_le hb1 AW.out.size, Nat.lt_of_lt_of_le hb2 AW.out.size⟩
  have HBB := Lib.hid hbb
  clear hW2 hv hv2 hm hsa hra hsb hrb hp hp0 hq0 B1 hL hl1 hl2 hc1 hc2 c1m c2m hb1 hb2 hbb
  go_enter Tryd.func164, Tryd.ntmps164
  go_wp2_with fail
  rw [← HW2.out]
  by_cases h0 : p0 = q0
  · subst h0
    have HF : Hid (fitsB n sa ra sb rb (pre ++ [x]) x m = (List.range (m + 1)).all (stepF n ra rb (pre ++ [x]) x m)) := by rw [Hid, HF0.out, beq_self_eq_true, Bool.true_and]
    clear HF0
    refine flow_all (S := (fun W => Hid (Below W2.heap.size W2 W))) (by kernel_rfl) (by kernel_rfl) (Lib.hid (Below.refl _ _).drew) ?_
    skip
    repeat (go_big_quiet_step (first
      | ((with_reducible refine (C0.out _).mono ?_); rintro e W ⟨rfl, hb⟩; exact ⟨rfl, Wd.on (Wd.ok _) hb⟩)
      | ((with_reducible refine (C1.out _).mono ?_); rintro e W ⟨rfl, hb⟩; exact ⟨rfl, Wd.on (Wd.ok _) hb⟩)))
    refine wpQuiet_nil ?_
    rintro _ ⟨X, rfl⟩
    have XB := Lib.hid X.ok.out
    clear ca0 ca1 ca2 cb0 cb1 cb2 cx cy hne
    go_wp2
    go_loopw [10] (fun j wr => ∃ k : Nat, k ≤ m + 1 ∧ j = .int .i64 k ∧ Hid (∀ j, j < k → stepF n ra rb (pre ++ [x]) x m j = true) ∧ Below W2.heap.size W2 wr) (fun j _ => m + 1 - (intOf j).toNat)
    case atStart => exact ⟨0, Nat.zero_le _, rfl, fun j hj => absurd hj (Nat.not_lt_zero _), XB.out⟩
    case round =>
      obtain ⟨k, hk, rfl, hyes, hb⟩ := hrel
      have HX := Lib.hid hb
      have AX := Lib.hid (AW.out.trans (hb.mono AW.out.size))
      clear hb XB
      have BA2 := Lib.hid (BA.out.below HX.out BA.out.lt)
      have BB2 := Lib.hid (BB.out.below HX.out BB.out.lt)
      have D2 : Hid (wr.cell? ⟨b1, o1 + m, none⟩ = some (.int .i64 x) ∧ wr.cell? ⟨b2, o2 + m, none⟩ = some (.int .i64 m)) := ⟨keepCell HX.out C2.out.1, keepCell HX.out C2.out.2⟩
      by_cases hkm : k < m
      · obtain ⟨y, hy⟩ : ∃ y, y = pre.getD k 0 := ⟨_, rfl⟩
        have E2 : Hid (wr.cell? ⟨b1, o1 + k, none⟩ = some (.int .i64 y) ∧ wr.cell? ⟨b2, o2 + k, none⟩ = some (.int .i64 k)) := by
          have := HC.out k hkm
          rw [← hy] at this
          exact ⟨keepCell HX.out (keepCell AW.out this.1), keepCell HX.out (keepCell AW.out this.2)⟩
        have hyn : y < n := by rw [hy]; exact HP.out k hkm
        obtain ⟨p2, hp2⟩ : ∃ b, b = bitAt ra (y * n + x) := ⟨_, rfl⟩
        obtain ⟨q2, hq2⟩ : ∃ b, b = bitAt rb (k * n + m) := ⟨_, rfl⟩
        obtain ⟨p3, hp3⟩ : ∃ b, b = bitAt ra (x * n + y) := ⟨_, rfl⟩
        obtain ⟨q3, hq3⟩ : ∃ b, b = bitAt rb (m * n + k) := ⟨_, rfl⟩
        have HST : Hid (stepF n ra rb (pre ++ [x]) x m k = ((y == x) == false && ((p2 == q2) && (p3 == q3)))) := by
          unfold stepF
          rw [Hid, more_get HS.out.2.2.2.2 hkm, ← hy, hp2, hq2, hp3, hq3, show (k == m) = false from by simpa using Nat.ne_of_lt hkm]
        have D0 : Hid (∀ W, Calls Tryd.prog 126 #[.agg #[.int .i64 n, .string sa, .string ra], .int .i64 y, .int .i64 x] W fun e w' => e = .returned (.bool p2) ∧ Below W.heap.size W w') := fun W => by rw [hp2]; exact l1Rel_any n sa ra y x W hyn hx hn HS.out.2.1
        have D1 : Hid (∀ W, Calls Tryd.prog 126 #[.agg #[.int .i64 n, .string sb, .string rb], .int .i64 k, .int .i64 m] W fun e w' => e = .returned (.bool q2) ∧ Below W.heap.size W w') := fun W => by rw [hq2]; exact l1Rel_any n sb rb k m W (by omega) hi hn HS.out.2.2.2.1
        have D3 : Hid (∀ W, Calls Tryd.prog 126 #[.agg #[.int .i64 n, .string sa, .string ra], .int .i64 x, .int .i64 y] W fun e w' => e = .returned (.bool p3) ∧ Below W.heap.size W w') := fun W => by rw [hp3]; exact l1Rel_any n sa ra x y W hx hyn hn HS.out.2.1
        have D4 : Hid (∀ W, Calls Tryd.prog 126 #[.agg #[.int .i64 n, .string sb, .string rb], .int .i64 m, .int .i64 k] W fun e w' => e = .returned (.bool q3) ∧ Below W.heap.size W w') := fun W => by rw [hq3]; exact l1Rel_any n sb rb m k W hi (by omega) hn HS.out.2.2.2.1
        have ca0 : ∀ X : Wd (fun W => Hid (Below wr.heap.size wr W)), X.w.cell? ⟨w.heap.size, 0, none⟩ = some (.int .i64 n) := fun X => (BA2.out.below X.ok.out BA2.out.lt).c.1
        have ca1 : ∀ X : Wd (fun W => Hid (Below wr.heap.size wr W)), X.w.cell? ⟨w.heap.size, 1, none⟩ = some (.string sa) := fun X => (BA2.out.below X.ok.out BA2.out.lt).c.2.1
        have ca2 : ∀ X : Wd (fun W => Hid (Below wr.heap.size wr W)), X.w.cell? ⟨w.heap.size, 2, none⟩ = some (.string ra) := fun X => (BA2.out.below X.ok.out BA2.out.lt).c.2.2
        have cb0 : ∀ X : Wd (fun W => Hid (Below wr.heap.size wr W)), X.w.cell? ⟨w.heap.size + 1, 0, none⟩ = some (.int .i64 n) := fun X => (BB2.out.below X.ok.out BB2.out.lt).c.1
        have cb1 : ∀ X : Wd (fun W => Hid (Below wr.heap.size wr W)), X.w.cell? ⟨w.heap.size + 1, 1, none⟩ = some (.string sb) := fun X => (BB2.out.below X.ok.out BB2.out.lt).c.2.1
        have cb2 : ∀ X : Wd (fun W => Hid (Below wr.heap.size wr W)), X.w.cell? ⟨w.heap.size + 1, 2, none⟩ = some (.string rb) := fun X => (BB2.out.below X.ok.out BB2.out.lt).c.2.2
        have d1 : ∀ X : Wd (fun W => Hid (Below wr.heap.size wr W)), X.w.cell? ⟨b1, o1 + k, none⟩ = some (.int .i64 y) := fun X => keepCell X.ok.out E2.out.1
        have d2 : ∀ X : Wd (fun W => Hid (Below wr.heap.size wr W)), X.w.cell? ⟨b2, o2 + k, none⟩ = some (.int .i64 k) := fun X => keepCell X.ok.out E2.out.2
        have d3 : ∀ X : Wd (fun W => Hid (Below wr.heap.size wr W)), X.w.cell? ⟨b1, o1 + m, none⟩ = some (.int .i64 x) := fun X => keepCell X.ok.out D2.out.1
        have d4 : ∀ X : Wd (fun W => Hid (Below wr.heap.size wr W)), X.w.cell? ⟨b2, o2 + m, none⟩ = some (.int .i64 m) := fun X => keepCell X.ok.out D2.out.2
        have hne : Nonempty (Wd (fun W => Hid (Below wr.heap.size wr W))) := ⟨⟨wr, Lib.hid (Below.refl _ _)⟩⟩
        have tk : ((k : Int) == (m : Int)) = false := by simp; omega
        have hkl : (k : Int) ≤ (m : Int) := by omega
        have hkL : k < L := by have := HLL.out; omega
        clear hp2 hq2 hp3 hq3 hy
        by_cases hyx : y = x
        · subst hyx
          have HFF : Hid (fitsB n sa ra sb rb (pre ++ [y]) y m = false) := by rw [Hid, HF.out]; exact all_not (show k < m + 1 by omega) (by rw [HST.out]; simp)
          clear hyes
          go_wp2_with fail
          refine flow_all (S := (fun W => Hid (Below wr.heap.size wr W))) (by kernel_rfl) (by kernel_rfl) (Lib.hid (Below.refl _ _).drew) ?_
          simp only [List.append_eq, List.cons_append, List.nil_append]
          repeat (go_big_quiet_step (first
            | ((with_reducible refine (D0.out _).mono ?_); rintro e W ⟨rfl, hb⟩; exact ⟨rfl, Wd.on (Wd.ok _) hb⟩)
            | ((with_reducible refine (D1.out _).mono ?_); rintro e W ⟨rfl, hb⟩; exact ⟨rfl, Wd.on (Wd.ok _) hb⟩)
            | ((with_reducible refine (D3.out _).mono ?_); rintro e W ⟨rfl, hb⟩; exact ⟨rfl, Wd.on (Wd.ok _) hb⟩)
            | ((with_reducible refine (D4.out _).mono ?_); rintro e W ⟨rfl, hb⟩; exact ⟨rfl, Wd.on (Wd.ok _) hb⟩)))
          refine wpQuiet_nil ?_
          rintro _ ⟨X, rfl⟩
          have R := Lib.hid (AX.out.trans (X.ok.out.mono AX.out.size))
          clear ca0 ca1 ca2 cb0 cb1 cb2 d1 d2 d3 d4 tk hkl hne
          go_wp2
          go_ret
          exact ⟨by rw [HFF.out]; rfl, R.out⟩
        · have ty : ((y : Int) == (x : Int)) = false := by simp; omega
          have HST2 : Hid (stepF n ra rb (pre ++ [x]) x m k = ((p2 == q2) && (p3 == q3))) := by rw [Hid, HST.out, show (y == x) = false from by simpa using hyx]; rfl
          clear hyx HST
          by_cases h2 : p2 = q2
          · subst h2
            by_cases h3 : p3 = q3
            · subst h3
              have HY : Hid (∀ j, j < k + 1 → stepF n ra rb (pre ++ [x]) x m j = true) := fun j hj => by
                by_cases e : j = k
                · subst e; rw [HST2.out]; simp
                · exact hyes.out j (by omega)
              clear hyes
              go_wp2_with fail
              refine flow_all (S := (fun W => Hid (Below wr.heap.size wr W))) (by kernel_rfl) (by kernel_rfl) (Lib.hid (Below.refl _ _).drew) ?_
              simp only [List.append_eq, List.cons_append, List.nil_append]
              repeat (go_big_quiet_step (first
                | ((with_reducible refine (D0.out _).mono ?_); rintro e W ⟨rfl, hb⟩; exact ⟨rfl, Wd.on (Wd.ok _) hb⟩)
                | ((with_reducible refine (D1.out _).mono ?_); rintro e W ⟨rfl, hb⟩; exact ⟨rfl, Wd.on (Wd.ok _) hb⟩)
                | ((with_reducible refine (D3.out _).mono ?_); rintro e W ⟨rfl, hb⟩; exact ⟨rfl, Wd.on (Wd.ok _) hb⟩)
                | ((with_reducible refine (D4.out _).mono ?_); rintro e W ⟨rfl, hb⟩; exact ⟨rfl, Wd.on (Wd.ok _) hb⟩)))
              refine wpQuiet_nil ?_
              rintro _ ⟨X, rfl⟩
              have R := Lib.hid (HX.out.trans (X.ok.out.mono HX.out.size))
              clear ca0 ca1 ca2 cb0 cb1 cb2 d1 d2 d3 d4 hne tk ty hkl
              go_wp2
              go_roundw
              case rel => exact ⟨k + 1, by omega, by go_num, HY, R.out⟩
              case measure => simp [intOf]; omega
            · have HFF : Hid (fitsB n sa ra sb rb (pre ++ [x]) x m = false) := by rw [Hid, HF.out]; exact all_not (show k < m + 1 by omega) (by rw [HST2.out, show (p3 == q3) = false from by simpa using h3, Bool.and_false])
              have e3 : (p3 == q3) = false := by simpa using h3
              clear hyes h3
              go_wp2_with fail
              refine flow_all (S := (fun W => Hid (Below wr.heap.size wr W))) (by kernel_rfl) (by kernel_rfl) (Lib.hid (Below.refl _ _).drew) ?_
              simp only [List.append_eq, List.cons_append, List.nil_append]
              repeat (go_big_quiet_step (first
                | ((with_reducible refine (D0.out _).mono ?_); rintro e W ⟨rfl, hb⟩; exact ⟨rfl, Wd.on (Wd.ok _) hb⟩)
                | ((with_reducible refine (D1.out _).mono ?_); rintro e W ⟨rfl, hb⟩; exact ⟨rfl, Wd.on (Wd.ok _) hb⟩)
                | ((with_reducible refine (D3.out _).mono ?_); rintro e W ⟨rfl, hb⟩; exact ⟨rfl, Wd.on (Wd.ok _) hb⟩)
                | ((with_reducible refine (D4.out _).mono ?_); rintro e W ⟨rfl, hb⟩; exact ⟨rfl, Wd.on (Wd.ok _) hb⟩)))
              refine wpQuiet_nil ?_
              rintro _ ⟨X, rfl⟩
              have R := Lib.hid (AX.out.trans (X.ok.out.mono AX.out.size))
              clear ca0 ca1 ca2 cb0 cb1 cb2 d1 d2 d3 d4 tk ty hkl hne
              go_wp2
              go_ret
              exact ⟨by rw [HFF.out]; rfl, R.out⟩
          · have HFF : Hid (fitsB n sa ra sb rb (pre ++ [x]) x m = false) := by rw [Hid, HF.out]; exact all_not (show k < m + 1 by omega) (by rw [HST2.out, show (p2 == q2) = false from by simpa using h2, Bool.false_and])
            have e2 : (p2 == q2) = false := by simpa using h2
            clear hyes h2
            go_wp2_with fail
            refine flow_all (S := (fun W => Hid (Below wr.heap.size wr W))) (by kernel_rfl) (by kernel_rfl) (Lib.hid (Below.refl _ _).drew) ?_
            simp only [List.append_eq, List.cons_append, List.nil_append]
            repeat (go_big_quiet_step (first
              | ((with_reducible refine (D0.out _).mono ?_); rintro e W ⟨rfl, hb⟩; exact ⟨rfl, Wd.on (Wd.ok _) hb⟩)
              | ((with_reducible refine (D1.out _).mono ?_); rintro e W ⟨rfl, hb⟩; exact ⟨rfl, Wd.on (Wd.ok _) hb⟩)
              | ((with_reducible refine (D3.out _).mono ?_); rintro e W ⟨rfl, hb⟩; exact ⟨rfl, Wd.on (Wd.ok _) hb⟩)
              | ((with_reducible refine (D4.out _).mono ?_); rintro e W ⟨rfl, hb⟩; exact ⟨rfl, Wd.on (Wd.ok _) hb⟩)))
            refine wpQuiet_nil ?_
            rintro _ ⟨X, rfl⟩
            have R := Lib.hid (AX.out.trans (X.ok.out.mono AX.out.size))
            clear ca0 ca1 ca2 cb0 cb1 cb2 d1 d2 d3 d4 tk ty hkl hne
            go_wp2
            go_ret
            exact ⟨by rw [HFF.out]; rfl, R.out⟩
      · by_cases hkm2 : k = m
        · subst hkm2
          obtain ⟨p2, hp2⟩ : ∃ b, b = bitAt ra (x * n + x) := ⟨_, rfl⟩
          obtain ⟨q2, hq2⟩ : ∃ b, b = bitAt rb (k * n + k) := ⟨_, rfl⟩
          have HST : Hid (stepF n ra rb (pre ++ [x]) x k k = (p2 == q2)) := by
            unfold stepF
            rw [Hid, more_last HS.out.2.2.2.2, hp2, hq2]; simp
          have D0 : Hid (∀ W, Calls Tryd.prog 126 #[.agg #[.int .i64 n, .string sa, .string ra], .int .i64 x, .int .i64 x] W fun e w' => e = .returned (.bool p2) ∧ Below W.heap.size W w') := fun W => by rw [hp2]; exact l1Rel_any n sa ra x x W hx hx hn HS.out.2.1
          have D1 : Hid (∀ W, Calls Tryd.prog 126 #[.agg #[.int .i64 n, .string sb, .string rb], .int .i64 k, .int .i64 k] W fun e w' => e = .returned (.bool q2) ∧ Below W.heap.size W w') := fun W => by rw [hq2]; exact l1Rel_any n sb rb k k W hi hi hn HS.out.2.2.2.1
          have ca0 : ∀ X : Wd (fun W => Hid (Below wr.heap.size wr W)), X.w.cell? ⟨w.heap.size, 0, none⟩ = some (.int .i64 n) := fun X => (BA2.out.below X.ok.out BA2.out.lt).c.1
          have ca1 : ∀ X : Wd (fun W => Hid (Below wr.heap.size wr W)), X.w.cell? ⟨w.heap.size, 1, none⟩ = some (.string sa) := fun X => (BA2.out.below X.ok.out BA2.out.lt).c.2.1
          have ca2 : ∀ X : Wd (fun W => Hid (Below wr.heap.size wr W)), X.w.cell? ⟨w.heap.size, 2, none⟩ = some (.string ra) := fun X => (BA2.out.below X.ok.out BA2.out.lt).c.2.2
          have cb0 : ∀ X : Wd (fun W => Hid (Below wr.heap.size wr W)), X.w.cell? ⟨w.heap.size + 1, 0, none⟩ = some (.int .i64 n) := fun X => (BB2.out.below X.ok.out BB2.out.lt).c.1
          have cb1 : ∀ X : Wd (fun W => Hid (Below wr.heap.size wr W)), X.w.cell? ⟨w.heap.size + 1, 1, none⟩ = some (.string sb) := fun X => (BB2.out.below X.ok.out BB2.out.lt).c.2.1
          have cb2 : ∀ X : Wd (fun W => Hid (Below wr.heap.size wr W)), X.w.cell? ⟨w.heap.size + 1, 2, none⟩ = some (.string rb) := fun X => (BB2.out.below X.ok.out BB2.out.lt).c.2.2
          have d3 : ∀ X : Wd (fun W => Hid (Below wr.heap.size wr W)), X.w.cell? ⟨b1, o1 + k, none⟩ = some (.int .i64 x) := fun X => keepCell X.ok.out D2.out.1
          have d4 : ∀ X : Wd (fun W => Hid (Below wr.heap.size wr W)), X.w.cell? ⟨b2, o2 + k, none⟩ = some (.int .i64 k) := fun X => keepCell X.ok.out D2.out.2
          have hne : Nonempty (Wd (fun W => Hid (Below wr.heap.size wr W))) := ⟨⟨wr, Lib.hid (Below.refl _ _)⟩⟩
          clear hp2 hq2 hkm
          by_cases h2 : p2 = q2
          · subst h2
            have HY : Hid (∀ j, j < k + 1 → stepF n ra rb (pre ++ [x]) x k j = true) := fun j hj => by
              by_cases e : j = k
              · subst e; rw [HST.out]; simp
              · exact hyes.out j (by omega)
            clear hyes
            go_wp2_with fail
            refine flow_all (S := (fun W => Hid (Below wr.heap.size wr W))) (by kernel_rfl) (by kernel_rfl) (Lib.hid (Below.refl _ _).drew) ?_
            simp only [List.append_eq, List.cons_append, List.nil_append]
            repeat (go_big_quiet_step (first
              | ((with_reducible refine (D0.out _).mono ?_); rintro e W ⟨rfl, hb⟩; exact ⟨rfl, Wd.on (Wd.ok _) hb⟩)
              | ((with_reducible refine (D1.out _).mono ?_); rintro e W ⟨rfl, hb⟩; exact ⟨rfl, Wd.on (Wd.ok _) hb⟩)))
            refine wpQuiet_nil ?_
            rintro _ ⟨X, rfl⟩
            have R := Lib.hid (HX.out.trans (X.ok.out.mono HX.out.size))
            clear ca0 ca1 ca2 cb0 cb1 cb2 d3 d4 hne
            go_wp2
            go_roundw
            case rel => exact ⟨k + 1, by omega, by go_num, HY, R.out⟩
            case measure => simp [intOf]
          · have HFF : Hid (fitsB n sa ra sb rb (pre ++ [x]) x k = false) := by rw [Hid, HF.out]; exact all_not (show k < k + 1 by omega) (by rw [HST.out]; simpa using h2)
            have e2 : (p2 == q2) = false := by simpa using h2
            clear hyes h2
            go_wp2_with fail
            refine flow_all (S := (fun W => Hid (Below wr.heap.size wr W))) (by kernel_rfl) (by kernel_rfl) (Lib.hid (Below.refl _ _).drew) ?_
            simp only [List.append_eq, List.cons_append, List.nil_append]
            repeat (go_big_quiet_step (first
              | ((with_reducible refine (D0.out _).mono ?_); rintro e W ⟨rfl, hb⟩; exact ⟨rfl, Wd.on (Wd.ok _) hb⟩)
              | ((with_reducible refine (D1.out _).mono ?_); rintro e W ⟨rfl, hb⟩; exact ⟨rfl, Wd.on (Wd.ok _) hb⟩)))
            refine wpQuiet_nil ?_
            rintro _ ⟨X, rfl⟩
            have R := Lib.hid (AX.out.trans (X.ok.out.mono AX.out.size))
            clear ca0 ca1 ca2 cb0 cb1 cb2 d3 d4 hne
            go_wp2
            go_ret
            exact ⟨by rw [HFF.out]; rfl, R.out⟩
        · obtain rfl : k = m + 1 := by omega
          have HT : Hid (fitsB n sa ra sb rb (pre ++ [x]) x m = true) := by rw [Hid, HF.out]; exact all_upto hyes.out
          clear hyes
          go_wp2
          go_ret
          exact ⟨by rw [HT.out]; rfl, AX.out⟩
  · have HFF : Hid (fitsB n sa ra sb rb (pre ++ [x]) x m = false) := by rw [Hid, HF0.out, show (p0 == q0) = false from by simpa using h0, Bool.false_and]
    have e0 : (p0 == q0) = false := by simpa using h0
    clear h0 HF0
    refine flow_all (S := (fun W => Hid (Below W2.heap.size W2 W))) (by kernel_rfl) (by kernel_rfl) (Lib.hid (Below.refl _ _).drew) ?_
    skip
    repeat (go_big_quiet_step (first
      | ((with_reducible refine (C0.out _).mono ?_); rintro e W ⟨rfl, hb⟩; exact ⟨rfl, Wd.on (Wd.ok _) hb⟩)
      | ((with_reducible refine (C1.out _).mono ?_); rintro e W ⟨rfl, hb⟩; exact ⟨rfl, Wd.on (Wd.ok _) hb⟩)))
    refine wpQuiet_nil ?_
    rintro _ ⟨X, rfl⟩
    have R := Lib.hid (AW.out.trans (X.ok.out.mono AW.out.size))
    clear ca0 ca1 ca2 cb0 cb1 cb2 cx cy hne
    go_wp2
    go_ret
    exact ⟨by rw [HFF.out]; rfl, R.out⟩
end Go.Proofs.YtpcnoiigbmiejaaDoor.fits
