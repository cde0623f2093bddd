/- Several texts in one: Ord, Fits, FitsP, Iso. -/
import Derived.WalkKit
import Derived.Test.YtpcnoiigbmiejaaGreatDoorBase
import Derived.Test.YtpcnoiigbmiejaaGreatDoorFlow
import Derived.Test.YtpcnoiigbmiejaaGreatDoorNear
/- Orders of the elements of a structure that fit another one: what the search tells, and in which order. No program in sight. -/
namespace Go.Proofs.YtpcnoiigbmiejaaGreatDoor.ord
set_option linter.unusedVariables false
set_option linter.unusedSimpArgs false

/-- the orders that begin with pre and take d elements more, each of which may be had behind those ahead of it -/
def ords (n : Nat) (ok : List Nat → Nat → Bool) : Nat → List Nat → List (List Nat)
  | 0, pre => [pre]
  | d + 1, pre => (List.range n).flatMap fun x => if ok pre x = true then ords n ok d (pre ++ [x]) else []
/-- those of them whose next element is less than k -/
def upto (n : Nat) (ok : List Nat → Nat → Bool) (d : Nat) (pre : List Nat) (k : Nat) : List (List Nat) :=
  (List.range k).flatMap fun x => if ok pre x = true then ords n ok d (pre ++ [x]) else []
theorem upto_zero (n : Nat) (ok : List Nat → Nat → Bool) (d : Nat) (pre : List Nat) : upto n ok d pre 0 = [] := rfl
theorem upto_full (n : Nat) (ok : List Nat → Nat → Bool) (d : Nat) (pre : List Nat) : upto n ok d pre n = ords n ok (d + 1) pre := rfl
theorem upto_yes {n : Nat} {ok : List Nat → Nat → Bool} {d : Nat} {pre : List Nat} {k : Nat} (h : ok pre k = true) : upto n ok d pre (k + 1) = upto n ok d pre k ++ ords n ok d (pre ++ [k]) := by
  simp [upto, List.range_succ, h]
theorem upto_no {n : Nat} {ok : List Nat → Nat → Bool} {d : Nat} {pre : List Nat} {k : Nat} (h : ok pre k = false) : upto n ok d pre (k + 1) = upto n ok d pre k := by
  simp [upto, List.range_succ, h]
theorem upto_part (n : Nat) (ok : List Nat → Nat → Bool) (d : Nat) (pre : List Nat) {k : Nat} (h : k ≤ n) : ∃ m, ords n ok (d + 1) pre = upto n ok d pre k ++ m := by
  obtain ⟨j, rfl⟩ := Nat.le.dest h
  refine ⟨(((List.range j).map (k + ·)).flatMap fun x => if ok pre x = true then ords (k + j) ok d (pre ++ [x]) else []), ?_⟩
  rw [← upto_full, upto, List.range_add, List.flatMap_append]
  rfl

/-- telling one after another, until it is enough -/
def run {σ : Type} (st : σ → List Nat → σ × Bool) : List (List Nat) → σ → σ × Bool
  | [], s => (s, true)
  | o :: os, s => if (st s o).2 = true then run st os (st s o).1 else ((st s o).1, false)
theorem run_app {σ : Type} (st : σ → List Nat → σ × Bool) : ∀ (l m : List (List Nat)) (s : σ), run st (l ++ m) s = if (run st l s).2 = true then run st m (run st l s).1 else ((run st l s).1, false)
  | [], m, s => by simp [run]
  | o :: os, m, s => by
    by_cases h : (st s o).2 = true
    · simp only [List.cons_append, run, h, if_true]; exact run_app st os m _
    · simp [run, h]
theorem run_on {σ : Type} {st : σ → List Nat → σ × Bool} {l : List (List Nat)} {s s' : σ} (h : run st l s = (s', true)) (m : List (List Nat)) : run st (l ++ m) s = run st m s' := by rw [run_app, h]; rfl
theorem run_stop {σ : Type} {st : σ → List Nat → σ × Bool} {l : List (List Nat)} {s s' : σ} (h : run st l s = (s', false)) (m : List (List Nat)) : run st (l ++ m) s = (s', false) := by rw [run_app, h]; rfl
theorem run_one {σ : Type} (st : σ → List Nat → σ × Bool) (o : List Nat) (s : σ) : run st [o] s = st s o := by
  obtain ⟨t, b, h⟩ : ∃ t b, st s o = (t, b) := ⟨_, _, rfl⟩
  cases b <;> simp [run, h]

/-- the first one, as a search that stops there -/
def first : List Nat → List (List Nat) → Option (List Nat)
  | _, [] => none
  | _, o :: _ => some o
end Go.Proofs.YtpcnoiigbmiejaaGreatDoor.ord

/- Whether an element may stand behind others: placed of the program; plain words and its contract. -/
namespace Go.Proofs.YtpcnoiigbmiejaaGreatDoor.fits
set_option linter.unusedVariables false
set_option linter.unusedSimpArgs false
open Go.ChangeShapes Go.WideShapes Go.ChangeAt Go.RowKit
open Go.Proofs.YtpcnoiigbmiejaaGreatDoor.lib Go.Proofs.YtpcnoiigbmiejaaGreatDoor.st Go.Proofs.YtpcnoiigbmiejaaGreatDoor.base Go.Proofs.YtpcnoiigbmiejaaGreatDoor.flow

/-- numbers as integers -/
def ints (l : List Nat) : List Int := l.map fun (y : Nat) => (y : Int)
theorem ints_len (l : List Nat) : (ints l).length = l.length := by simp [ints]
theorem ints_get (l : List Nat) (i : Nat) : (ints l).getD i 0 = ((l.getD i 0 : Nat) : Int) := by
  simp only [ints, List.getD_eq_getElem?_getD, List.getElem?_map]
  cases l[i]? <;> rfl
theorem ints_app (l m : List Nat) : ints (l ++ m) = ints l ++ ints m := by simp [ints]
/-- the pair at k is as that at x, both ways -/
def stepB (n : Nat) (ra rb : ByteArray) (pre : List Nat) (x k : Nat) : Bool :=
  (bitAt ra (x * n + pre.getD k 0) == bitAt rb (pre.length * n + k)) && (bitAt ra (pre.getD k 0 * n + x) == bitAt rb (k * n + pre.length))
def placedB (n : Nat) (sa ra sb rb : ByteArray) (pre : List Nat) (x : Nat) : Bool :=
  (bitAt sa x == bitAt sb pre.length) && ((bitAt ra (x * n + x) == bitAt rb (pre.length * n + pre.length)) && (List.range pre.length).all (stepB n ra rb pre x))
/-- x may stand behind pre -/
def okB (n : Nat) (sa ra sb rb : ByteArray) (pre : List Nat) (x : Nat) : Bool := !pre.contains x && placedB n sa ra sb rb pre x
theorem all_upto {f : Nat → Bool} {k : Nat} (h : ∀ j, j < k → f j = true) : (List.range k).all f = true := List.all_eq_true.2 fun j hj => h j (List.mem_range.1 hj)
theorem all_not {f : Nat → Bool} {k j : Nat} (hj : j < k) (h : f j = false) : (List.range k).all f = false := List.all_eq_false.2 ⟨j, List.mem_range.2 hj, by simp [h]⟩

set_option maxHeartbeats 1600000 in
theorem placed_any (n : Nat) (sa ra sb rb : ByteArray) (pre : List Nat) (v : Value) (x : Nat) (w : World) (hx : x < n) (hi : pre.length < n) (hp : ∀ y, y ∈ pre → y < n) (hn : n ≤ 8)
    (hsa : sa.size = n) (hra : ra.size = n * n) (hsb : sb.size = n) (hrb : rb.size = n * n) (hv : Reads w v (ints pre)) :
    Calls Tryz.prog 84 #[.agg #[.int .i64 n, .string sa, .string ra], .agg #[.int .i64 n, .string sb, .string rb], v, .int .i64 x] w fun e w' => e = .returned (.bool (placedB n sa ra sb rb pre x)) ∧ Below w.heap.size w w' := by
  obtain ⟨i, hil⟩ : ∃ i, i = pre.length := ⟨_, rfl⟩
  obtain ⟨ao, cap, rfl⟩ := hv.len
  rw [ints_len, ← hil] at hv ⊢
  rw [← hil] at hi
  have B1 : Hid (Box 24 (w.alloc (.cells #[.int .i64 n, .string sa, .string ra] 24)) w.heap.size n sa ra) := Box.new _ w _ rfl _ _ _
  have BA : Hid (Box 24 ((w.alloc (.cells #[.int .i64 n, .string sa, .string ra] 24)).alloc (.cells #[.int .i64 n, .string sb, .string rb] 24)) w.heap.size n sa ra) := B1.out.below ((Below.refl _ _).alloc (Nat.le_refl _) _) B1.out.lt
  have BB : Hid (Box 24 ((w.alloc (.cells #[.int .i64 n, .string sa, .string ra] 24)).alloc (.cells #[.int .i64 n, .string sb, .string rb] 24)) (w.heap.size + 1) n sb rb) := Box.new _ _ _ (by simp) _ _ _
  obtain ⟨W2, hW2⟩ : ∃ W2, W2 = (w.alloc (.cells #[.int .i64 n, .string sa, .string ra] 24)).alloc (.cells #[.int .i64 n, .string sb, .string rb] 24) := ⟨_, rfl⟩
  have AW : Hid (Below w.heap.size w W2) := by rw [hW2]; exact ((Below.refl _ _).alloc (Nat.le_refl _) _).alloc (by simp) _
  rw [← hW2] at BA BB
  have RD := Lib.hid (hv.below AW.out (Nat.le_refl _))
  have HI := Lib.hid hil
  have HS := Lib.hid (show _ ∧ _ ∧ _ ∧ _ ∧ _ from ⟨hsa, hra, hsb, hrb, hp⟩)
  obtain ⟨p0, hp0⟩ : ∃ b, b = bitAt sa x := ⟨_, rfl⟩
  obtain ⟨q0, hq0⟩ : ∃ b, b = bitAt sb i := ⟨_, rfl⟩
  obtain ⟨p1, hp1⟩ : ∃ b, b = bitAt ra (x * n + x) := ⟨_, rfl⟩
  obtain ⟨q1, hq1⟩ : ∃ b, b = bitAt rb (i * n + i) := ⟨_, rfl⟩
  have HP : Hid (placedB n sa ra sb rb pre x = ((p0 == q0) && ((p1 == q1) && (List.range i).all (stepB n ra rb pre x)))) := by rw [hp0, hq0, hp1, hq1, hil]; rfl
  have C0 : Hid (∀ W, Calls Tryz.prog 89 #[.agg #[.int .i64 n, .string sa, .string ra], .int .i64 x] W fun e w' => e = .returned (.bool p0) ∧ Below W.heap.size W w') := fun W => by rw [hp0]; exact inSet_any n sa ra x W (by omega) (by omega)
  have C1 : Hid (∀ W, Calls Tryz.prog 89 #[.agg #[.int .i64 n, .string sb, .string rb], .int .i64 i] W fun e w' => e = .returned (.bool q0) ∧ Below W.heap.size W w') := fun W => by rw [hq0]; exact inSet_any n sb rb i W (by omega) (by omega)
  have C2 : Hid (∀ W, Calls Tryz.prog 90 #[.agg #[.int .i64 n, .string sa, .string ra], .int .i64 x, .int .i64 x] W fun e w' => e = .returned (.bool p1) ∧ Below W.heap.size W w') := fun W => by rw [hp1]; exact inRel_any n sa ra x x W hx hx hn hra
  have C3 : Hid (∀ W, Calls Tryz.prog 90 #[.agg #[.int .i64 n, .string sb, .string rb], .int .i64 i, .int .i64 i] W fun e w' => e = .returned (.bool q1) ∧ Below W.heap.size W w') := fun W => by rw [hq1]; exact inRel_any n sb rb i i W hi hi hn hrb
  have ca0 : ∀ X : Wd (fun W => Hid (Below W2.heap.size W2 W)), X.w.cell? ⟨w.heap.size, 0, none⟩ = some (.int .i64 n) := fun X => (BA.out.below X.ok.out BA.out.lt).c.1
  have ca1 : ∀ X : Wd (fun W => Hid (Below W2.heap.size W2 W)), X.w.cell? ⟨w.heap.size, 1, none⟩ = some (.string sa) := fun X => (BA.out.below X.ok.out BA.out.lt).c.2.1
  have ca2 : ∀ X : Wd (fun W => Hid (Below W2.heap.size W2 W)), X.w.cell? ⟨w.heap.size, 2, none⟩ = some (.string ra) := fun X => (BA.out.below X.ok.out BA.out.lt).c.2.2
  have cb0 : ∀ X : Wd (fun W => Hid (Below W2.heap.size W2 W)), X.w.cell? ⟨w.heap.size + 1, 0, none⟩ = some (.int .i64 n) := fun X => (BB.out.below X.ok.out BB.out.lt).c.1
  have cb1 : ∀ X : Wd (fun W => Hid (Below W2.heap.size W2 W)), X.w.cell? ⟨w.heap.size + 1, 1, none⟩ = some (.string sb) := fun X => (BB.out.below X.ok.out BB.out.lt).c.2.1
  have cb2 : ∀ X : Wd (fun W => Hid (Below W2.heap.size W2 W)), X.w.cell? ⟨w.heap.size + 1, 2, none⟩ = some (.string rb) := fun X => (BB.out.below X.ok.out BB.out.lt).c.2.2
  have hne : Nonempty (Wd (fun W => Hid (Below W2.heap.size W2 W))) := ⟨⟨W2, Lib.hid (Below.refl _ _)⟩⟩
  have HW2 := Lib.hid hW2
  clear hW2 hv hil hsa hra hsb hrb hp hp0 hq0 hp1 hq1 B1
  go_enter Tryz.func84, Tryz.ntmps84
  go_wp2_with fail
  rw [← HW2.out]
  by_cases h0 : p0 = q0
  · subst h0
    have HP2 : Hid (placedB n sa ra sb rb pre x = ((p1 == q1) && (List.range i).all (stepB n ra rb pre x))) := by rw [Hid, HP.out, beq_self_eq_true, Bool.true_and]
    by_cases h1 : p1 = q1
    · subst h1
      have HP3 : Hid (placedB n sa ra sb rb pre x = (List.range i).all (stepB n ra rb pre x)) := by rw [Hid, HP2.out, beq_self_eq_true, Bool.true_and]
      refine flow_all (S := (fun W => Hid (Below W2.heap.size W2 W))) (by kernel_rfl) (by kernel_rfl) (Lib.hid (Below.refl _ _).drew) ?_
      repeat (go_big_quiet_step (first
        | ((with_reducible refine (C0.out _).mono ?_); rintro e W ⟨rfl, hb⟩; exact ⟨rfl, Wd.on (Wd.ok _) hb⟩)
        | ((with_reducible refine (C1.out _).mono ?_); rintro e W ⟨rfl, hb⟩; exact ⟨rfl, Wd.on (Wd.ok _) hb⟩)
        | ((with_reducible refine (C2.out _).mono ?_); rintro e W ⟨rfl, hb⟩; exact ⟨rfl, Wd.on (Wd.ok _) hb⟩)
        | ((with_reducible refine (C3.out _).mono ?_); rintro e W ⟨rfl, hb⟩; exact ⟨rfl, Wd.on (Wd.ok _) hb⟩)))
      refine wpQuiet_nil ?_
      rintro _ ⟨X, rfl⟩
      have XB := Lib.hid X.ok.out
      clear ca0 ca1 ca2 cb0 cb1 cb2 hne
      go_wp2
      go_loopw [34] (fun j wr => ∃ k : Nat, k ≤ i ∧ j = .int .i64 k ∧ Hid (∀ j, j < k → stepB n ra rb pre x j = true) ∧ Below W2.heap.size W2 wr) (fun j _ => i - (intOf j).toNat)
      case atStart => exact ⟨0, Nat.zero_le _, rfl, fun j hj => absurd hj (Nat.not_lt_zero _), XB.out⟩
      case round =>
        obtain ⟨k, hk, rfl, hyes, hb⟩ := hrel
        have HX := Lib.hid hb
        have AX := Lib.hid (AW.out.trans (hb.mono AW.out.size))
        clear hb XB
        by_cases hki : k < i
        · obtain ⟨b, off, rfl, hc⟩ : ∃ b off, ao = some ⟨b, off, none⟩ ∧ wr.cell? ⟨b, off + k, none⟩ = some (.int .i64 (pre.getD k 0 : Nat)) := by
            obtain ⟨ao', c', hv', hc', _⟩ := RD.out.below HX.out (Nat.le_refl _)
            rw [ints_len, ← HI.out] at hv' hc'
            simp only [Value.slice.injEq] at hv'
            rcases hc' with h | ⟨b, off, he, hc⟩
            · have := HI.out
              have h2 : (ints pre).length = 0 := by rw [h]; rfl
              rw [ints_len] at h2; omega
            · exact ⟨b, off, hv'.1.trans he, by rw [hc k (by omega), ints_get]⟩
          obtain ⟨y, hy⟩ : ∃ y, y = pre.getD k 0 := ⟨_, rfl⟩
          rw [← hy] at hc
          have hyn : y < n := by
            rw [hy, List.getD_eq_getElem?_getD, List.getElem?_eq_getElem (by have := HI.out; omega)]
            exact HS.out.2.2.2.2 _ (List.getElem_mem _)
          obtain ⟨p2, hp2⟩ : ∃ b, b = bitAt ra (x * n + y) := ⟨_, rfl⟩
          obtain ⟨q2, hq2⟩ : ∃ b, b = bitAt rb (i * n + k) := ⟨_, rfl⟩
          obtain ⟨p3, hp3⟩ : ∃ b, b = bitAt ra (y * n + x) := ⟨_, rfl⟩
          obtain ⟨q3, hq3⟩ : ∃ b, b = bitAt rb (k * n + i) := ⟨_, rfl⟩
          have HST : Hid (stepB n ra rb pre x k = ((p2 == q2) && (p3 == q3))) := by rw [hp2, hq2, hp3, hq3, hy, HI.out]; rfl
          have D0 : Hid (∀ W, Calls Tryz.prog 90 #[.agg #[.int .i64 n, .string sa, .string ra], .int .i64 x, .int .i64 y] W fun e w' => e = .returned (.bool p2) ∧ Below W.heap.size W w') := fun W => by rw [hp2]; exact inRel_any n sa ra x y W hx hyn hn HS.out.2.1
          have D1 : Hid (∀ W, Calls Tryz.prog 90 #[.agg #[.int .i64 n, .string sb, .string rb], .int .i64 i, .int .i64 k] W fun e w' => e = .returned (.bool q2) ∧ Below W.heap.size W w') := fun W => by rw [hq2]; exact inRel_any n sb rb i k W hi (by omega) hn HS.out.2.2.2.1
          have D2 : Hid (∀ W, Calls Tryz.prog 90 #[.agg #[.int .i64 n, .string sa, .string ra], .int .i64 y, .int .i64 x] W fun e w' => e = .returned (.bool p3) ∧ Below W.heap.size W w') := fun W => by rw [hp3]; exact inRel_any n sa ra y x W hyn hx hn HS.out.2.1
          have D3 : Hid (∀ W, Calls Tryz.prog 90 #[.agg #[.int .i64 n, .string sb, .string rb], .int .i64 k, .int .i64 i] W fun e w' => e = .returned (.bool q3) ∧ Below W.heap.size W w') := fun W => by rw [hq3]; exact inRel_any n sb rb k i W (by omega) hi hn HS.out.2.2.2.1
          have BA2 := Lib.hid (BA.out.below HX.out BA.out.lt)
          have BB2 := Lib.hid (BB.out.below HX.out BB.out.lt)
          have ca0 : ∀ X : Wd (fun W => Hid (Below wr.heap.size wr W)), X.w.cell? ⟨w.heap.size, 0, none⟩ = some (.int .i64 n) := fun X => (BA2.out.below X.ok.out BA2.out.lt).c.1
          have ca1 : ∀ X : Wd (fun W => Hid (Below wr.heap.size wr W)), X.w.cell? ⟨w.heap.size, 1, none⟩ = some (.string sa) := fun X => (BA2.out.below X.ok.out BA2.out.lt).c.2.1
          have ca2 : ∀ X : Wd (fun W => Hid (Below wr.heap.size wr W)), X.w.cell? ⟨w.heap.size, 2, none⟩ = some (.string ra) := fun X => (BA2.out.below X.ok.out BA2.out.lt).c.2.2
          have cb0 : ∀ X : Wd (fun W => Hid (Below wr.heap.size wr W)), X.w.cell? ⟨w.heap.size + 1, 0, none⟩ = some (.int .i64 n) := fun X => (BB2.out.below X.ok.out BB2.out.lt).c.1
          have cb1 : ∀ X : Wd (fun W => Hid (Below wr.heap.size wr W)), X.w.cell? ⟨w.heap.size + 1, 1, none⟩ = some (.string sb) := fun X => (BB2.out.below X.ok.out BB2.out.lt).c.2.1
          have cb2 : ∀ X : Wd (fun W => Hid (Below wr.heap.size wr W)), X.w.cell? ⟨w.heap.size + 1, 2, none⟩ = some (.string rb) := fun X => (BB2.out.below X.ok.out BB2.out.lt).c.2.2
          have hne : Nonempty (Wd (fun W => Hid (Below wr.heap.size wr W))) := ⟨⟨wr, Lib.hid (Below.refl _ _)⟩⟩
          clear hp2 hq2 hp3 hq3 hy
          by_cases h2 : p2 = q2
          · subst h2
            by_cases h3 : p3 = q3
            · subst h3
              have HY : Hid (∀ j, j < k + 1 → stepB n ra rb pre x j = true) := fun j hj => by
                by_cases e : j = k
                · subst e; rw [HST.out]; simp
                · exact hyes.out j (by omega)
              clear hyes
              go_wp2_with fail
              refine flow_all (S := (fun W => Hid (Below wr.heap.size wr W))) (by kernel_rfl) (by kernel_rfl) (Lib.hid (Below.refl _ _).drew) ?_
              repeat (go_big_quiet_step (first
                | ((with_reducible refine (D0.out _).mono ?_); rintro e W ⟨rfl, hb⟩; exact ⟨rfl, Wd.on (Wd.ok _) hb⟩)
                | ((with_reducible refine (D1.out _).mono ?_); rintro e W ⟨rfl, hb⟩; exact ⟨rfl, Wd.on (Wd.ok _) hb⟩)
                | ((with_reducible refine (D2.out _).mono ?_); rintro e W ⟨rfl, hb⟩; exact ⟨rfl, Wd.on (Wd.ok _) hb⟩)
                | ((with_reducible refine (D3.out _).mono ?_); rintro e W ⟨rfl, hb⟩; exact ⟨rfl, Wd.on (Wd.ok _) hb⟩)))
              refine wpQuiet_nil ?_
              rintro _ ⟨X, rfl⟩
              have R := Lib.hid (HX.out.trans (X.ok.out.mono HX.out.size))
              clear ca0 ca1 ca2 cb0 cb1 cb2 hne
              go_wp2
              go_roundw
              case rel => exact ⟨k + 1, by omega, by go_num, HY, R.out⟩
              case measure => simp [intOf]; omega
            · have e3 : (p3 == q3) = false := by simpa using h3
              have HF : Hid (placedB n sa ra sb rb pre x = false) := by rw [Hid, HP3.out]; exact all_not hki (by rw [HST.out, e3, Bool.and_false])
              clear h3 hyes
              go_wp2_with fail
              refine flow_all (S := (fun W => Hid (Below wr.heap.size wr W))) (by kernel_rfl) (by kernel_rfl) (Lib.hid (Below.refl _ _).drew) ?_
              repeat (go_big_quiet_step (first
                | ((with_reducible refine (D0.out _).mono ?_); rintro e W ⟨rfl, hb⟩; exact ⟨rfl, Wd.on (Wd.ok _) hb⟩)
                | ((with_reducible refine (D1.out _).mono ?_); rintro e W ⟨rfl, hb⟩; exact ⟨rfl, Wd.on (Wd.ok _) hb⟩)
                | ((with_reducible refine (D2.out _).mono ?_); rintro e W ⟨rfl, hb⟩; exact ⟨rfl, Wd.on (Wd.ok _) hb⟩)
                | ((with_reducible refine (D3.out _).mono ?_); rintro e W ⟨rfl, hb⟩; exact ⟨rfl, Wd.on (Wd.ok _) hb⟩)))
              refine wpQuiet_nil ?_
              rintro _ ⟨X, rfl⟩
              have R := Lib.hid (AX.out.trans (X.ok.out.mono AX.out.size))
              clear ca0 ca1 ca2 cb0 cb1 cb2 hne
              go_wp2
              go_ret
              exact ⟨by rw [HF.out]; rfl, R.out⟩
          · have e2 : (p2 == q2) = false := by simpa using h2
            have HF : Hid (placedB n sa ra sb rb pre x = false) := by rw [Hid, HP3.out]; exact all_not hki (by rw [HST.out, e2, Bool.false_and])
            clear h2 hyes
            go_wp2_with fail
            refine flow_all (S := (fun W => Hid (Below wr.heap.size wr W))) (by kernel_rfl) (by kernel_rfl) (Lib.hid (Below.refl _ _).drew) ?_
            repeat (go_big_quiet_step (first
              | ((with_reducible refine (D0.out _).mono ?_); rintro e W ⟨rfl, hb⟩; exact ⟨rfl, Wd.on (Wd.ok _) hb⟩)
              | ((with_reducible refine (D1.out _).mono ?_); rintro e W ⟨rfl, hb⟩; exact ⟨rfl, Wd.on (Wd.ok _) hb⟩)))
            refine wpQuiet_nil ?_
            rintro _ ⟨X, rfl⟩
            have R := Lib.hid (AX.out.trans (X.ok.out.mono AX.out.size))
            clear ca0 ca1 ca2 cb0 cb1 cb2 hne
            go_wp2
            go_ret
            exact ⟨by rw [HF.out]; rfl, R.out⟩
        · obtain rfl : i = k := by omega
          have HT : Hid (placedB n sa ra sb rb pre x = true) := by rw [Hid, HP3.out]; exact all_upto hyes.out
          clear hyes
          go_wp2
          go_ret
          exact ⟨by rw [HT.out]; rfl, AX.out⟩
    · have e1 : (p1 == q1) = false := by simpa using h1
      have HF : Hid (placedB n sa ra sb rb pre x = false) := by rw [Hid, HP2.out, e1]; rfl
      clear h1
      refine flow_all (S := (fun W => Hid (Below W2.heap.size W2 W))) (by kernel_rfl) (by kernel_rfl) (Lib.hid (Below.refl _ _).drew) ?_
      repeat (go_big_quiet_step (first
        | ((with_reducible refine (C0.out _).mono ?_); rintro e W ⟨rfl, hb⟩; exact ⟨rfl, Wd.on (Wd.ok _) hb⟩)
        | ((with_reducible refine (C1.out _).mono ?_); rintro e W ⟨rfl, hb⟩; exact ⟨rfl, Wd.on (Wd.ok _) hb⟩)
        | ((with_reducible refine (C2.out _).mono ?_); rintro e W ⟨rfl, hb⟩; exact ⟨rfl, Wd.on (Wd.ok _) hb⟩)
        | ((with_reducible refine (C3.out _).mono ?_); rintro e W ⟨rfl, hb⟩; exact ⟨rfl, Wd.on (Wd.ok _) hb⟩)))
      refine wpQuiet_nil ?_
      rintro _ ⟨X, rfl⟩
      have AX := Lib.hid (AW.out.trans (X.ok.out.mono AW.out.size))
      clear ca0 ca1 ca2 cb0 cb1 cb2 hne
      go_wp2
      go_ret
      exact ⟨by rw [HF.out]; rfl, AX.out⟩
  · have e0 : (p0 == q0) = false := by simpa using h0
    have HF : Hid (placedB n sa ra sb rb pre x = false) := by rw [Hid, HP.out, e0]; rfl
    clear h0
    refine flow_all (S := (fun W => Hid (Below W2.heap.size W2 W))) (by kernel_rfl) (by kernel_rfl) (Lib.hid (Below.refl _ _).drew) ?_
    repeat (go_big_quiet_step (first
      | ((with_reducible refine (C0.out _).mono ?_); rintro e W ⟨rfl, hb⟩; exact ⟨rfl, Wd.on (Wd.ok _) hb⟩)
      | ((with_reducible refine (C1.out _).mono ?_); rintro e W ⟨rfl, hb⟩; exact ⟨rfl, Wd.on (Wd.ok _) hb⟩)))
    refine wpQuiet_nil ?_
    rintro _ ⟨X, rfl⟩
    have AX := Lib.hid (AW.out.trans (X.ok.out.mono AW.out.size))
    clear ca0 ca1 ca2 cb0 cb1 cb2 hne
    go_wp2
    go_ret
    exact ⟨by rw [HF.out]; rfl, AX.out⟩
end Go.Proofs.YtpcnoiigbmiejaaGreatDoor.fits

/- The reference's way to see whether an element may stand behind others, and what a first element does: plain words. -/
namespace Go.Proofs.YtpcnoiigbmiejaaGreatDoor.fits
set_option linter.unusedVariables false
set_option linter.unusedSimpArgs false
open Go.Proofs.YtpcnoiigbmiejaaGreatDoor.base Go.Proofs.YtpcnoiigbmiejaaGreatDoor.ord

end Go.Proofs.YtpcnoiigbmiejaaGreatDoor.fits

/- Orders that fit are isomorphisms: they turn round and are put behind one another. No program in sight. -/
namespace Go.Proofs.YtpcnoiigbmiejaaGreatDoor.fits
set_option linter.unusedVariables false
set_option linter.unusedSimpArgs false
open Go.Proofs.YtpcnoiigbmiejaaGreatDoor.base Go.Proofs.YtpcnoiigbmiejaaGreatDoor.ord

/-- o turns the first structure into the second one -/
structure Iso (n : Nat) (sa ra sb rb : ByteArray) (o : List Nat) : Prop where
  len : o.length = n
  lt : ∀ i, i < n → o.getD i 0 < n
  inj : ∀ i j, i < n → j < n → o.getD i 0 = o.getD j 0 → i = j
  s : ∀ i, i < n → bitAt sa (o.getD i 0) = bitAt sb i
  r : ∀ i j, i < n → j < n → bitAt ra (o.getD i 0 * n + o.getD j 0) = bitAt rb (i * n + j)

theorem getD_take {l : List Nat} {i k : Nat} (h : k < i) : (l.take i).getD k 0 = l.getD k 0 := by
  simp [List.getD_eq_getElem?_getD, List.getElem?_take, h]
/-- every place is taken -/
theorem Iso.onto {n : Nat} {sa ra sb rb : ByteArray} {o : List Nat} (h : Iso n sa ra sb rb o) {y : Nat} (hy : y < n) : ∃ i, i < n ∧ o.getD i 0 = y := by
  have hmem : y ∈ o := by
    refine Classical.byContradiction fun hn => ?_
    have hnd : (y :: o).Nodup := by
      refine List.nodup_cons.2 ⟨hn, ?_⟩
      rw [List.nodup_iff_pairwise_ne, List.pairwise_iff_getElem]
      intro i j hi hj hij e
      have := h.inj i j (by have := h.len; omega) (by have := h.len; omega) (by rw [List.getD_eq_getElem?_getD, List.getD_eq_getElem?_getD, List.getElem?_eq_getElem hi, List.getElem?_eq_getElem hj]; simp [e])
      omega
    have hl := hnd.length_le_of_subset (l₂ := List.range n) (fun z hz => by
      rcases List.mem_cons.1 hz with rfl | hz
      · exact List.mem_range.2 hy
      · obtain ⟨i, hi, rfl⟩ := List.getElem_of_mem hz
        have := h.lt i (by have := h.len; omega)
        rw [List.getD_eq_getElem?_getD, List.getElem?_eq_getElem hi] at this
        exact List.mem_range.2 this)
    have := h.len
    simp at hl; omega
  obtain ⟨i, hi, e⟩ := List.getElem_of_mem hmem
  exact ⟨i, by have := h.len; omega, by rw [List.getD_eq_getElem?_getD, List.getElem?_eq_getElem hi]; exact e⟩
/-- what stands at a place of a list that is written by a function -/
theorem getD_map_range {n i : Nat} (f : Nat → Nat) (h : i < n) : ((List.range n).map f).getD i 0 = f i := by
  simp [List.getD_eq_getElem?_getD, h]
theorem Iso.of_fun {n : Nat} {sa ra sb rb : ByteArray} (f : Nat → Nat) (lt : ∀ i, i < n → f i < n) (inj : ∀ i j, i < n → j < n → f i = f j → i = j) (s : ∀ i, i < n → bitAt sa (f i) = bitAt sb i)
    (r : ∀ i j, i < n → j < n → bitAt ra (f i * n + f j) = bitAt rb (i * n + j)) : Iso n sa ra sb rb ((List.range n).map f) := by
  refine ⟨by simp, fun i hi => by rw [getD_map_range f hi]; exact lt i hi, fun i j hi hj e => ?_, fun i hi => by rw [getD_map_range f hi]; exact s i hi, fun i j hi hj => by rw [getD_map_range f hi, getD_map_range f hj]; exact r i j hi hj⟩
  rw [getD_map_range f hi, getD_map_range f hj] at e
  exact inj i j hi hj e
theorem Iso.refl (n : Nat) (s r : ByteArray) : Iso n s r s r ((List.range n).map id) :=
  Iso.of_fun id (fun _ h => h) (fun _ _ _ _ h => h) (fun _ _ => rfl) (fun _ _ _ _ => rfl)
/-- the other way round -/
theorem Iso.symm {n : Nat} {sa ra sb rb : ByteArray} {o : List Nat} (h : Iso n sa ra sb rb o) : ∃ f : Nat → Nat, (∀ i, i < n → f i < n ∧ o.getD (f i) 0 = i) ∧ Iso n sb rb sa ra ((List.range n).map f) := by
  have hf : ∀ y, ∃ i, y < n → i < n ∧ o.getD i 0 = y := fun y => by
    by_cases hy : y < n
    · obtain ⟨i, h1, h2⟩ := h.onto hy; exact ⟨i, fun _ => ⟨h1, h2⟩⟩
    · exact ⟨0, fun h => absurd h hy⟩
  obtain ⟨f, hf⟩ := Classical.axiomOfChoice hf
  refine ⟨f, hf, Iso.of_fun f (fun i hi => (hf i hi).1) (fun i j hi hj e => ?_) (fun i hi => ?_) (fun i j hi hj => ?_)⟩
  · rw [← (hf i hi).2, ← (hf j hj).2, e]
  · rw [← h.s (f i) (hf i hi).1, (hf i hi).2]
  · rw [← h.r (f i) (f j) (hf i hi).1 (hf j hj).1, (hf i hi).2, (hf j hj).2]
/-- one after the other -/
theorem Iso.trans {n : Nat} {sa ra sb rb sc rc : ByteArray} {o p : List Nat} (h : Iso n sa ra sb rb o) (k : Iso n sb rb sc rc p) : Iso n sa ra sc rc ((List.range n).map fun i => o.getD (p.getD i 0) 0) :=
  Iso.of_fun _ (fun i hi => h.lt _ (k.lt i hi)) (fun i j hi hj e => k.inj i j hi hj (h.inj _ _ (k.lt i hi) (k.lt j hj) e)) (fun i hi => by rw [h.s _ (k.lt i hi), k.s i hi]) (fun i j hi hj => by rw [h.r _ _ (k.lt i hi) (k.lt j hj), k.r i j hi hj])
/-- those that begin with the middle -/
def Twin (n : Nat) (sa ra sb rb : ByteArray) : Prop := ∃ o, Iso n sa ra sb rb o ∧ o.getD 0 0 = 0
theorem Twin.refl {n : Nat} (s r : ByteArray) (hn : 1 ≤ n) : Twin n s r s r := ⟨_, Iso.refl n s r, by rw [getD_map_range id (by omega)]; rfl⟩
theorem Twin.symm {n : Nat} {sa ra sb rb : ByteArray} (hn : 1 ≤ n) (h : Twin n sa ra sb rb) : Twin n sb rb sa ra := by
  obtain ⟨o, h, h0⟩ := h
  obtain ⟨f, hf, k⟩ := h.symm
  refine ⟨_, k, ?_⟩
  rw [getD_map_range f (by omega)]
  exact h.inj _ _ (hf 0 (by omega)).1 (by omega) ((hf 0 (by omega)).2.trans h0.symm)
theorem Twin.trans {n : Nat} {sa ra sb rb sc rc : ByteArray} (hn : 1 ≤ n) (h : Twin n sa ra sb rb) (k : Twin n sb rb sc rc) : Twin n sa ra sc rc := by
  obtain ⟨o, h, h0⟩ := h
  obtain ⟨p, k, k0⟩ := k
  exact ⟨_, h.trans k, by rw [getD_map_range _ (by omega), k0, h0]⟩
end Go.Proofs.YtpcnoiigbmiejaaGreatDoor.fits
