/- Several texts in one: Still, GoB. -/
import Derived.Test.YtpcnoiigbmiejaaDoorPk2
import Derived.Test.YtpcnoiigbmiejaaDoorPk1
import Derived.Test.YtpcnoiigbmiejaaDoorPk3
import Derived.Test.YtpcnoiigbmiejaaDoorPk5
/- Lists in the same way: stillSame, sameWay and IsPartial of the program. -/
namespace Go.Proofs.YtpcnoiigbmiejaaDoor.still
set_option linter.unusedVariables false
set_option linter.unusedSimpArgs false
open Go.ChangeShapes Go.WideShapes Go.ChangeAt Go.RowKit
open Go.Proofs.YtpcnoiigbmiejaaDoor.lib Go.Proofs.YtpcnoiigbmiejaaDoor.st Go.Proofs.YtpcnoiigbmiejaaDoor.base Go.Proofs.YtpcnoiigbmiejaaDoor.flow Go.Proofs.YtpcnoiigbmiejaaDoor.fits

/-- the pair at k is as that of x and y, both ways -/
def stpB (N : Nat) (ra : ByteArray) (M : Nat) (rb : ByteArray) (la lb : List Nat) (x y k : Nat) : Bool :=
  ((((la.getD k 0 : Nat) : Int) == (x : Int)) == (((lb.getD k 0 : Nat) : Int) == (y : Int))) && ((bitAt ra (la.getD k 0 * N + x) == bitAt rb (lb.getD k 0 * M + y)) && (bitAt ra (x * N + la.getD k 0) == bitAt rb (y * M + lb.getD k 0)))
/-- x and y may be had behind both lists -/
def stB (N : Nat) (sa ra : ByteArray) (la : List Nat) (M : Nat) (sb rb : ByteArray) (lb : List Nat) (x y : Nat) : Bool :=
  (bitAt sa x == bitAt sb y) && ((bitAt ra (x * N + x) == bitAt rb (y * M + y)) && (List.range la.length).all (stpB N ra M rb la lb x y))
/-- the lists are in the same way -/
def swB (N : Nat) (sa ra : ByteArray) (la : List Nat) (M : Nat) (sb rb : ByteArray) (lb : List Nat) : Bool :=
  (List.range la.length).all fun i => stB N sa ra (la.take i) M sb rb (lb.take i) (la.getD i 0) (lb.getD i 0)
theorem cell_at {w W : World} {ao : Option Addr} {cap n : Nat} {l : List Nat} (h : Reads w (.slice ao n cap) (ints l)) (hn : n = l.length) (hb : Below w.heap.size w W) {k : Nat} (hk : k < n) :
    ∃ b off, ao = some ⟨b, off, none⟩ ∧ W.cell? ⟨b, off + k, none⟩ = some (.int .i64 (l.getD k 0 : Nat)) := by
  obtain ⟨ao', c', hv', hc', _⟩ := h.below hb (Nat.le_refl _)
  rw [ints_len] at hv' hc'
  simp only [Value.slice.injEq] at hv'
  rcases hc' with h | ⟨b, off, he, hc⟩
  · have h2 : (ints l).length = 0 := by rw [h]; rfl
    rw [ints_len] at h2; omega
  · exact ⟨b, off, hv'.1.trans he, by rw [hc k (by omega), ints_get]⟩
theorem mem_at {l : List Nat} {n k N : Nat} (h : ∀ y, y ∈ l → y < N) (hn : n = l.length) (hk : k < n) : l.getD k 0 < N := by
  rw [List.getD_eq_getElem?_getD, List.getElem?_eq_getElem (by omega)]
  exact h _ (List.getElem_mem _)

set_option maxHeartbeats 3200000 in
theorem stillSame_any (N : Nat) (sa ra : ByteArray) (la : List Nat) (va : Value) (M : Nat) (sb rb : ByteArray) (lb : List Nat) (vb : Value) (x y : Nat) (w : World) (hx : x < N) (hy : y < M) (hl : la.length = lb.length) (h8 : la.length ≤ 100) (hpa : ∀ z, z ∈ la → z < N) (hpb : ∀ z, z ∈ lb → z < M)
    (hn : N ≤ 8) (hm : M ≤ 8) (hsa : sa.size = N) (hra : ra.size = N * N) (hsb : sb.size = M) (hrb : rb.size = M * M) (hva : Reads w va (ints la)) (hvb : Reads w vb (ints lb)) :
    Calls Tryd.prog 132 #[.agg #[.int .i64 N, .string sa, .string ra], va, .agg #[.int .i64 M, .string sb, .string rb], vb, .int .i64 x, .int .i64 y] w fun e w' => e = .returned (.bool (stB N sa ra la M sb rb lb x y)) ∧ Below w.heap.size w w' := by
  obtain ⟨i, hil⟩ : ∃ i, i = la.length := ⟨_, rfl⟩
  obtain ⟨ao, cap, rfl⟩ := hva.len
  obtain ⟨bo, cap2, rfl⟩ := hvb.len
  rw [ints_len, ← hil] at hva ⊢
  rw [ints_len, ← hl, ← hil] at hvb ⊢
  have B1 : Hid (Box 24 (w.alloc (.cells #[.int .i64 N, .string sa, .string ra] 24)) w.heap.size N sa ra) := Box.new _ w _ rfl _ _ _
  have BA : Hid (Box 24 ((w.alloc (.cells #[.int .i64 N, .string sa, .string ra] 24)).alloc (.cells #[.int .i64 M, .string sb, .string rb] 24)) w.heap.size N sa ra) := B1.out.below ((Below.refl _ _).alloc (Nat.le_refl _) _) B1.out.lt
  have BB : Hid (Box 24 ((w.alloc (.cells #[.int .i64 N, .string sa, .string ra] 24)).alloc (.cells #[.int .i64 M, .string sb, .string rb] 24)) (w.heap.size + 1) M sb rb) := Box.new _ _ _ (by simp) _ _ _
  obtain ⟨W2, hW2⟩ : ∃ W2, W2 = (w.alloc (.cells #[.int .i64 N, .string sa, .string ra] 24)).alloc (.cells #[.int .i64 M, .string sb, .string rb] 24) := ⟨_, rfl⟩
  have AW : Hid (Below w.heap.size w W2) := by rw [hW2]; exact ((Below.refl _ _).alloc (Nat.le_refl _) _).alloc (by simp) _
  rw [← hW2] at BA BB
  have RA := Lib.hid (hva.below AW.out (Nat.le_refl _))
  have RB := Lib.hid (hvb.below AW.out (Nat.le_refl _))
  have HI := Lib.hid (show i = la.length ∧ i = lb.length from ⟨hil, hil.trans hl⟩)
  have HS := Lib.hid (show _ ∧ _ ∧ _ ∧ _ ∧ _ ∧ _ from ⟨hn, hm, hsa, hra, hsb, hrb⟩)
  have HP := Lib.hid (show _ ∧ _ from ⟨hpa, hpb⟩)
  obtain ⟨p0, hp0⟩ : ∃ b, b = bitAt sa x := ⟨_, rfl⟩
  obtain ⟨q0, hq0⟩ : ∃ b, b = bitAt sb y := ⟨_, rfl⟩
  obtain ⟨p1, hp1⟩ : ∃ b, b = bitAt ra (x * N + x) := ⟨_, rfl⟩
  obtain ⟨q1, hq1⟩ : ∃ b, b = bitAt rb (y * M + y) := ⟨_, rfl⟩
  obtain ⟨G, hG⟩ : ∃ G, G = stB N sa ra la M sb rb lb x y := ⟨_, rfl⟩
  rw [← hG]
  have HG : Hid (G = ((p0 == q0) && ((p1 == q1) && (List.range i).all (stpB N ra M rb la lb x y)))) := by rw [Hid, hG, hp0, hq0, hp1, hq1, hil]; rfl
  have C0 : Hid (∀ W, Calls Tryd.prog 52 #[.agg #[.int .i64 N, .string sa, .string ra], .int .i64 x] W fun e w' => e = .returned (.bool p0) ∧ Below W.heap.size W w') := fun W => by
    rw [hp0]; exact inSet_any N sa ra x W (by have := HS.out; have := hx; omega) (by have := HS.out; omega)
  have C1 : Hid (∀ W, Calls Tryd.prog 52 #[.agg #[.int .i64 M, .string sb, .string rb], .int .i64 y] W fun e w' => e = .returned (.bool q0) ∧ Below W.heap.size W w') := fun W => by
    rw [hq0]; exact inSet_any M sb rb y W (by have := HS.out; have := hy; omega) (by have := HS.out; omega)
  have C2 : Hid (∀ W, Calls Tryd.prog 55 #[.agg #[.int .i64 N, .string sa, .string ra], .int .i64 x, .int .i64 x] W fun e w' => e = .returned (.bool p1) ∧ Below W.heap.size W w') := fun W => by
    rw [hp1]; exact inRel_any N sa ra x x W (hx) (hx) HS.out.1 HS.out.2.2.2.1
  have C3 : Hid (∀ W, Calls Tryd.prog 55 #[.agg #[.int .i64 M, .string sb, .string rb], .int .i64 y, .int .i64 y] W fun e w' => e = .returned (.bool q1) ∧ Below W.heap.size W w') := fun W => by
    rw [hq1]; exact inRel_any M sb rb y y W (hy) (hy) HS.out.2.1 HS.out.2.2.2.2.2
  have HW2 := Lib.hid hW2
  have hi8 : i ≤ 100 := by omega
  clear hW2 hva hvb hil hl h8 hsa hra hsb hrb hpa hpb hp0 hq0 hp1 hq1 B1 hG hn hm
  go_enter Tryd.func132, Tryd.ntmps132
  go_wp2_with fail
  rw [← HW2.out]
  by_cases h0 : p0 = q0
  · subst h0
    have HG0 : Hid (G = ((p1 == q1) && (List.range i).all (stpB N ra M rb la lb x y))) := by rw [Hid, HG.out, beq_self_eq_true, Bool.true_and]
    by_cases h1 : p1 = q1
    · subst h1
      have HG1 : Hid (G = (List.range i).all (stpB N ra M rb la lb x y)) := by rw [Hid, HG0.out, beq_self_eq_true, Bool.true_and]
      have ca0 : ∀ X : Wd (fun W => Hid (Below W2.heap.size W2 W)), X.w.cell? ⟨w.heap.size, 0, none⟩ = some (.int .i64 N) := fun X => (BA.out.below X.ok.out BA.out.lt).c.1
      have ca1 : ∀ X : Wd (fun W => Hid (Below W2.heap.size W2 W)), X.w.cell? ⟨w.heap.size, 1, none⟩ = some (.string sa) := fun X => (BA.out.below X.ok.out BA.out.lt).c.2.1
      have ca2 : ∀ X : Wd (fun W => Hid (Below W2.heap.size W2 W)), X.w.cell? ⟨w.heap.size, 2, none⟩ = some (.string ra) := fun X => (BA.out.below X.ok.out BA.out.lt).c.2.2
      have cb0 : ∀ X : Wd (fun W => Hid (Below W2.heap.size W2 W)), X.w.cell? ⟨(w.heap.size + 1), 0, none⟩ = some (.int .i64 M) := fun X => (BB.out.below X.ok.out BB.out.lt).c.1
      have cb1 : ∀ X : Wd (fun W => Hid (Below W2.heap.size W2 W)), X.w.cell? ⟨(w.heap.size + 1), 1, none⟩ = some (.string sb) := fun X => (BB.out.below X.ok.out BB.out.lt).c.2.1
      have cb2 : ∀ X : Wd (fun W => Hid (Below W2.heap.size W2 W)), X.w.cell? ⟨(w.heap.size + 1), 2, none⟩ = some (.string rb) := fun X => (BB.out.below X.ok.out BB.out.lt).c.2.2
      have hne : Nonempty (Wd (fun W => Hid (Below W2.heap.size W2 W))) := ⟨⟨W2, Lib.hid (Below.refl _ _)⟩⟩
      skip
      refine flow_all (S := (fun W => Hid (Below W2.heap.size W2 W))) (by kernel_rfl) (by kernel_rfl) (Lib.hid (Below.refl _ _).drew) ?_
      try simp only [List.append_eq, List.cons_append, List.nil_append]
      repeat (go_big_quiet_step (first
        | ((with_reducible refine (C0.out _).mono ?_); rintro e W ⟨rfl, hb⟩; exact ⟨rfl, Wd.on (Wd.ok _) hb⟩)
        | ((with_reducible refine (C1.out _).mono ?_); rintro e W ⟨rfl, hb⟩; exact ⟨rfl, Wd.on (Wd.ok _) hb⟩)
        | ((with_reducible refine (C2.out _).mono ?_); rintro e W ⟨rfl, hb⟩; exact ⟨rfl, Wd.on (Wd.ok _) hb⟩)
        | ((with_reducible refine (C3.out _).mono ?_); rintro e W ⟨rfl, hb⟩; exact ⟨rfl, Wd.on (Wd.ok _) hb⟩)))
      refine wpQuiet_nil ?_
      rintro _ ⟨X, rfl⟩
      have HX := Lib.hid X.ok.out
      clear ca0 ca1 ca2 cb0 cb1 cb2 hne
      have XB := HX
      have HGG := HG1
      clear HX HG HG0
      go_wp2
      go_loopw [36] (fun j wr => ∃ k : Nat, k ≤ i ∧ j = .int .i64 k ∧ Hid (∀ j, j < k → stpB N ra M rb la lb x y j = true) ∧ Below W2.heap.size W2 wr) (fun j _ => i - (intOf j).toNat)
      case atStart => exact ⟨0, Nat.zero_le _, rfl, fun j hj => absurd hj (Nat.not_lt_zero _), XB.out⟩
      case round =>
        obtain ⟨k, hk, rfl, hyes, hb⟩ := hrel
        have HXX := Lib.hid hb
        have AX := Lib.hid (AW.out.trans (hb.mono AW.out.size))
        clear hb XB
        by_cases hki : k < i
        · obtain ⟨b1, o1, rfl, hc1⟩ := cell_at RA.out HI.out.1 HXX.out hki
          obtain ⟨b2, o2, rfl, hc2⟩ := cell_at RB.out HI.out.2 HXX.out hki
          obtain ⟨v, hv⟩ : ∃ v, v = la.getD k 0 := ⟨_, rfl⟩
          obtain ⟨u, hu⟩ : ∃ u, u = lb.getD k 0 := ⟨_, rfl⟩
          have hvn : v < N := by rw [hv]; exact mem_at HP.out.1 HI.out.1 hki
          have hun : u < M := by rw [hu]; exact mem_at HP.out.2 HI.out.2 hki
          rw [← hv] at hc1
          rw [← hu] at hc2
          obtain ⟨e1, he1⟩ : ∃ e1, ((v : Int) == (x : Int)) = e1 := ⟨_, rfl⟩
          obtain ⟨e2, he2⟩ : ∃ e2, ((u : Int) == (y : Int)) = e2 := ⟨_, rfl⟩
          obtain ⟨p2, hp2⟩ : ∃ b, b = bitAt ra (v * N + x) := ⟨_, rfl⟩
          obtain ⟨q2, hq2⟩ : ∃ b, b = bitAt rb (u * M + y) := ⟨_, rfl⟩
          obtain ⟨p3, hp3⟩ : ∃ b, b = bitAt ra (x * N + v) := ⟨_, rfl⟩
          obtain ⟨q3, hq3⟩ : ∃ b, b = bitAt rb (y * M + u) := ⟨_, rfl⟩
          obtain ⟨H, hH⟩ : ∃ H, H = stpB N ra M rb la lb x y k := ⟨_, rfl⟩
          have HG : Hid (H = ((e1 == e2) && ((p2 == q2) && (p3 == q3)))) := by rw [Hid, hH, ← he1, ← he2, hp2, hq2, hp3, hq3, hv, hu]; rfl
          have HH := Lib.hid hH
          have D0 : Hid (∀ W, Calls Tryd.prog 55 #[.agg #[.int .i64 N, .string sa, .string ra], .int .i64 v, .int .i64 x] W fun e w' => e = .returned (.bool p2) ∧ Below W.heap.size W w') := fun W => by
            rw [hp2]; exact inRel_any N sa ra v x W (hvn) (hx) HS.out.1 HS.out.2.2.2.1
          have D1 : Hid (∀ W, Calls Tryd.prog 55 #[.agg #[.int .i64 M, .string sb, .string rb], .int .i64 u, .int .i64 y] W fun e w' => e = .returned (.bool q2) ∧ Below W.heap.size W w') := fun W => by
            rw [hq2]; exact inRel_any M sb rb u y W (hun) (hy) HS.out.2.1 HS.out.2.2.2.2.2
          have D2 : Hid (∀ W, Calls Tryd.prog 55 #[.agg #[.int .i64 N, .string sa, .string ra], .int .i64 x, .int .i64 v] W fun e w' => e = .returned (.bool p3) ∧ Below W.heap.size W w') := fun W => by
            rw [hp3]; exact inRel_any N sa ra x v W (hx) (hvn) HS.out.1 HS.out.2.2.2.1
          have D3 : Hid (∀ W, Calls Tryd.prog 55 #[.agg #[.int .i64 M, .string sb, .string rb], .int .i64 y, .int .i64 u] W fun e w' => e = .returned (.bool q3) ∧ Below W.heap.size W w') := fun W => by
            rw [hq3]; exact inRel_any M sb rb y u W (hy) (hun) HS.out.2.1 HS.out.2.2.2.2.2
          have BA2 := Lib.hid (BA.out.below HXX.out BA.out.lt)
          have BB2 := Lib.hid (BB.out.below HXX.out BB.out.lt)
          clear hp2 hq2 hp3 hq3 hv hu hH
          by_cases h0 : e1 = e2
          · subst h0
            have HG0 : Hid (H = ((p2 == q2) && (p3 == q3))) := by rw [Hid, HG.out, beq_self_eq_true, Bool.true_and]
            by_cases h1 : p2 = q2
            · subst h1
              have HG1 : Hid (H = (p3 == q3)) := by rw [Hid, HG0.out, beq_self_eq_true, Bool.true_and]
              by_cases h2 : p3 = q3
              · subst h2
                have HG2 : Hid (H = true) := by rw [Hid, HG1.out, beq_self_eq_true]
                have ca0 : ∀ X : Wd (fun W => Hid (Below wr.heap.size wr W)), X.w.cell? ⟨w.heap.size, 0, none⟩ = some (.int .i64 N) := fun X => (BA2.out.below X.ok.out BA2.out.lt).c.1
                have ca1 : ∀ X : Wd (fun W => Hid (Below wr.heap.size wr W)), X.w.cell? ⟨w.heap.size, 1, none⟩ = some (.string sa) := fun X => (BA2.out.below X.ok.out BA2.out.lt).c.2.1
                have ca2 : ∀ X : Wd (fun W => Hid (Below wr.heap.size wr W)), X.w.cell? ⟨w.heap.size, 2, none⟩ = some (.string ra) := fun X => (BA2.out.below X.ok.out BA2.out.lt).c.2.2
                have cb0 : ∀ X : Wd (fun W => Hid (Below wr.heap.size wr W)), X.w.cell? ⟨(w.heap.size + 1), 0, none⟩ = some (.int .i64 M) := fun X => (BB2.out.below X.ok.out BB2.out.lt).c.1
                have cb1 : ∀ X : Wd (fun W => Hid (Below wr.heap.size wr W)), X.w.cell? ⟨(w.heap.size + 1), 1, none⟩ = some (.string sb) := fun X => (BB2.out.below X.ok.out BB2.out.lt).c.2.1
                have cb2 : ∀ X : Wd (fun W => Hid (Below wr.heap.size wr W)), X.w.cell? ⟨(w.heap.size + 1), 2, none⟩ = some (.string rb) := fun X => (BB2.out.below X.ok.out BB2.out.lt).c.2.2
                have hne : Nonempty (Wd (fun W => Hid (Below wr.heap.size wr W))) := ⟨⟨wr, Lib.hid (Below.refl _ _)⟩⟩
                go_wp2_with fail
                refine flow_all (S := (fun W => Hid (Below wr.heap.size wr W))) (by kernel_rfl) (by kernel_rfl) (Lib.hid (Below.refl _ _).drew) ?_
                try simp only [List.append_eq, List.cons_append, List.nil_append]
                repeat (go_big_quiet_step (first
                  | ((with_reducible refine (D0.out _).mono ?_); rintro e W ⟨rfl, hb⟩; exact ⟨rfl, Wd.on (Wd.ok _) hb⟩)
                  | ((with_reducible refine (D1.out _).mono ?_); rintro e W ⟨rfl, hb⟩; exact ⟨rfl, Wd.on (Wd.ok _) hb⟩)
                  | ((with_reducible refine (D2.out _).mono ?_); rintro e W ⟨rfl, hb⟩; exact ⟨rfl, Wd.on (Wd.ok _) hb⟩)
                  | ((with_reducible refine (D3.out _).mono ?_); rintro e W ⟨rfl, hb⟩; exact ⟨rfl, Wd.on (Wd.ok _) hb⟩)))
                refine wpQuiet_nil ?_
                rintro _ ⟨X, rfl⟩
                have HX := Lib.hid X.ok.out
                clear ca0 ca1 ca2 cb0 cb1 cb2 hne
                have HY : Hid (∀ j, j < k + 1 → stpB N ra M rb la lb x y j = true) := fun j hj => by
                  by_cases e : j = k
                  · subst e; rw [← HH.out, HG2.out]
                  · exact hyes.out j (by omega)
                have R := Lib.hid (HXX.out.trans (HX.out.mono HXX.out.size))
                clear hyes HX
                go_wp2
                go_roundw
                case rel => first | exact ⟨k + 1, by omega, by go_num, HY, R.out⟩ | ((repeat apply Exists.intro); exact ⟨⟨k + 1, by omega, by go_num, HY, R.out⟩, rfl⟩)
                case measure => simp [intOf]; omega
              · have e2 : (p3 == q3) = false := by simpa using h2
                have HF : Hid (H = false) := by rw [Hid, HG1.out, e2]
                clear h2
                have ca0 : ∀ X : Wd (fun W => Hid (Below wr.heap.size wr W)), X.w.cell? ⟨w.heap.size, 0, none⟩ = some (.int .i64 N) := fun X => (BA2.out.below X.ok.out BA2.out.lt).c.1
                have ca1 : ∀ X : Wd (fun W => Hid (Below wr.heap.size wr W)), X.w.cell? ⟨w.heap.size, 1, none⟩ = some (.string sa) := fun X => (BA2.out.below X.ok.out BA2.out.lt).c.2.1
                have ca2 : ∀ X : Wd (fun W => Hid (Below wr.heap.size wr W)), X.w.cell? ⟨w.heap.size, 2, none⟩ = some (.string ra) := fun X => (BA2.out.below X.ok.out BA2.out.lt).c.2.2
                have cb0 : ∀ X : Wd (fun W => Hid (Below wr.heap.size wr W)), X.w.cell? ⟨(w.heap.size + 1), 0, none⟩ = some (.int .i64 M) := fun X => (BB2.out.below X.ok.out BB2.out.lt).c.1
                have cb1 : ∀ X : Wd (fun W => Hid (Below wr.heap.size wr W)), X.w.cell? ⟨(w.heap.size + 1), 1, none⟩ = some (.string sb) := fun X => (BB2.out.below X.ok.out BB2.out.lt).c.2.1
                have cb2 : ∀ X : Wd (fun W => Hid (Below wr.heap.size wr W)), X.w.cell? ⟨(w.heap.size + 1), 2, none⟩ = some (.string rb) := fun X => (BB2.out.below X.ok.out BB2.out.lt).c.2.2
                have hne : Nonempty (Wd (fun W => Hid (Below wr.heap.size wr W))) := ⟨⟨wr, Lib.hid (Below.refl _ _)⟩⟩
                go_wp2_with fail
                refine flow_all (S := (fun W => Hid (Below wr.heap.size wr W))) (by kernel_rfl) (by kernel_rfl) (Lib.hid (Below.refl _ _).drew) ?_
                try simp only [List.append_eq, List.cons_append, List.nil_append]
                repeat (go_big_quiet_step (first
                  | ((with_reducible refine (D0.out _).mono ?_); rintro e W ⟨rfl, hb⟩; exact ⟨rfl, Wd.on (Wd.ok _) hb⟩)
                  | ((with_reducible refine (D1.out _).mono ?_); rintro e W ⟨rfl, hb⟩; exact ⟨rfl, Wd.on (Wd.ok _) hb⟩)
                  | ((with_reducible refine (D2.out _).mono ?_); rintro e W ⟨rfl, hb⟩; exact ⟨rfl, Wd.on (Wd.ok _) hb⟩)
                  | ((with_reducible refine (D3.out _).mono ?_); rintro e W ⟨rfl, hb⟩; exact ⟨rfl, Wd.on (Wd.ok _) hb⟩)))
                refine wpQuiet_nil ?_
                rintro _ ⟨X, rfl⟩
                have HX := Lib.hid X.ok.out
                clear ca0 ca1 ca2 cb0 cb1 cb2 hne
                have R := Lib.hid (AX.out.trans (HX.out.mono AX.out.size))
                have HF2 : Hid (G = false) := by rw [Hid, HGG.out]; exact all_not hki (by rw [← HH.out]; exact HF.out)
                clear hyes HX
                go_wp2
                go_ret
                exact ⟨by rw [HF2.out]; rfl, R.out⟩
            · have e1 : (p2 == q2) = false := by simpa using h1
              have HF : Hid (H = false) := by rw [Hid, HG0.out, e1]; exact Bool.false_and _
              clear h1
              have ca0 : ∀ X : Wd (fun W => Hid (Below wr.heap.size wr W)), X.w.cell? ⟨w.heap.size, 0, none⟩ = some (.int .i64 N) := fun X => (BA2.out.below X.ok.out BA2.out.lt).c.1
              have ca1 : ∀ X : Wd (fun W => Hid (Below wr.heap.size wr W)), X.w.cell? ⟨w.heap.size, 1, none⟩ = some (.string sa) := fun X => (BA2.out.below X.ok.out BA2.out.lt).c.2.1
              have ca2 : ∀ X : Wd (fun W => Hid (Below wr.heap.size wr W)), X.w.cell? ⟨w.heap.size, 2, none⟩ = some (.string ra) := fun X => (BA2.out.below X.ok.out BA2.out.lt).c.2.2
              have cb0 : ∀ X : Wd (fun W => Hid (Below wr.heap.size wr W)), X.w.cell? ⟨(w.heap.size + 1), 0, none⟩ = some (.int .i64 M) := fun X => (BB2.out.below X.ok.out BB2.out.lt).c.1
              have cb1 : ∀ X : Wd (fun W => Hid (Below wr.heap.size wr W)), X.w.cell? ⟨(w.heap.size + 1), 1, none⟩ = some (.string sb) := fun X => (BB2.out.below X.ok.out BB2.out.lt).c.2.1
              have cb2 : ∀ X : Wd (fun W => Hid (Below wr.heap.size wr W)), X.w.cell? ⟨(w.heap.size + 1), 2, none⟩ = some (.string rb) := fun X => (BB2.out.below X.ok.out BB2.out.lt).c.2.2
              have hne : Nonempty (Wd (fun W => Hid (Below wr.heap.size wr W))) := ⟨⟨wr, Lib.hid (Below.refl _ _)⟩⟩
              go_wp2_with fail
              refine flow_all (S := (fun W => Hid (Below wr.heap.size wr W))) (by kernel_rfl) (by kernel_rfl) (Lib.hid (Below.refl _ _).drew) ?_
              try simp only [List.append_eq, List.cons_append, List.nil_append]
              repeat (go_big_quiet_step (first
                | ((with_reducible refine (D0.out _).mono ?_); rintro e W ⟨rfl, hb⟩; exact ⟨rfl, Wd.on (Wd.ok _) hb⟩)
                | ((with_reducible refine (D1.out _).mono ?_); rintro e W ⟨rfl, hb⟩; exact ⟨rfl, Wd.on (Wd.ok _) hb⟩)))
              refine wpQuiet_nil ?_
              rintro _ ⟨X, rfl⟩
              have HX := Lib.hid X.ok.out
              clear ca0 ca1 ca2 cb0 cb1 cb2 hne
              have R := Lib.hid (AX.out.trans (HX.out.mono AX.out.size))
              have HF2 : Hid (G = false) := by rw [Hid, HGG.out]; exact all_not hki (by rw [← HH.out]; exact HF.out)
              clear hyes HX
              go_wp2
              go_ret
              exact ⟨by rw [HF2.out]; rfl, R.out⟩
          · have e0 : (e1 == e2) = false := by simpa using h0
            have HF : Hid (H = false) := by rw [Hid, HG.out, e0]; exact Bool.false_and _
            clear h0
            have ca0 : ∀ X : Wd (fun W => Hid (Below wr.heap.size wr W)), X.w.cell? ⟨w.heap.size, 0, none⟩ = some (.int .i64 N) := fun X => (BA2.out.below X.ok.out BA2.out.lt).c.1
            have ca1 : ∀ X : Wd (fun W => Hid (Below wr.heap.size wr W)), X.w.cell? ⟨w.heap.size, 1, none⟩ = some (.string sa) := fun X => (BA2.out.below X.ok.out BA2.out.lt).c.2.1
            have ca2 : ∀ X : Wd (fun W => Hid (Below wr.heap.size wr W)), X.w.cell? ⟨w.heap.size, 2, none⟩ = some (.string ra) := fun X => (BA2.out.below X.ok.out BA2.out.lt).c.2.2
            have cb0 : ∀ X : Wd (fun W => Hid (Below wr.heap.size wr W)), X.w.cell? ⟨(w.heap.size + 1), 0, none⟩ = some (.int .i64 M) := fun X => (BB2.out.below X.ok.out BB2.out.lt).c.1
            have cb1 : ∀ X : Wd (fun W => Hid (Below wr.heap.size wr W)), X.w.cell? ⟨(w.heap.size + 1), 1, none⟩ = some (.string sb) := fun X => (BB2.out.below X.ok.out BB2.out.lt).c.2.1
            have cb2 : ∀ X : Wd (fun W => Hid (Below wr.heap.size wr W)), X.w.cell? ⟨(w.heap.size + 1), 2, none⟩ = some (.string rb) := fun X => (BB2.out.below X.ok.out BB2.out.lt).c.2.2
            have hne : Nonempty (Wd (fun W => Hid (Below wr.heap.size wr W))) := ⟨⟨wr, Lib.hid (Below.refl _ _)⟩⟩
            go_wp2_with fail
            refine flow_all (S := (fun W => Hid (Below wr.heap.size wr W))) (by kernel_rfl) (by kernel_rfl) (Lib.hid (Below.refl _ _).drew) ?_
            try simp only [List.append_eq, List.cons_append, List.nil_append]
            repeat (go_big_quiet_step (fail))
            refine wpQuiet_nil ?_
            rintro _ ⟨X, rfl⟩
            have HX := Lib.hid X.ok.out
            clear ca0 ca1 ca2 cb0 cb1 cb2 hne
            have R := Lib.hid (AX.out.trans (HX.out.mono AX.out.size))
            have HF2 : Hid (G = false) := by rw [Hid, HGG.out]; exact all_not hki (by rw [← HH.out]; exact HF.out)
            clear hyes HX
            go_wp2
            go_ret
            exact ⟨by rw [HF2.out]; rfl, R.out⟩
        · obtain rfl : i = k := by omega
          have HT : Hid (G = true) := by rw [Hid, HGG.out]; exact all_upto hyes.out
          clear hyes
          go_wp2
          go_ret
          exact ⟨by rw [HT.out]; rfl, AX.out⟩
    · have e1 : (p1 == q1) = false := by simpa using h1
      have HF : Hid (G = false) := by rw [Hid, HG0.out, e1]; exact Bool.false_and _
      clear h1
      have ca0 : ∀ X : Wd (fun W => Hid (Below W2.heap.size W2 W)), X.w.cell? ⟨w.heap.size, 0, none⟩ = some (.int .i64 N) := fun X => (BA.out.below X.ok.out BA.out.lt).c.1
      have ca1 : ∀ X : Wd (fun W => Hid (Below W2.heap.size W2 W)), X.w.cell? ⟨w.heap.size, 1, none⟩ = some (.string sa) := fun X => (BA.out.below X.ok.out BA.out.lt).c.2.1
      have ca2 : ∀ X : Wd (fun W => Hid (Below W2.heap.size W2 W)), X.w.cell? ⟨w.heap.size, 2, none⟩ = some (.string ra) := fun X => (BA.out.below X.ok.out BA.out.lt).c.2.2
      have cb0 : ∀ X : Wd (fun W => Hid (Below W2.heap.size W2 W)), X.w.cell? ⟨(w.heap.size + 1), 0, none⟩ = some (.int .i64 M) := fun X => (BB.out.below X.ok.out BB.out.lt).c.1
      have cb1 : ∀ X : Wd (fun W => Hid (Below W2.heap.size W2 W)), X.w.cell? ⟨(w.heap.size + 1), 1, none⟩ = some (.string sb) := fun X => (BB.out.below X.ok.out BB.out.lt).c.2.1
      have cb2 : ∀ X : Wd (fun W => Hid (Below W2.heap.size W2 W)), X.w.cell? ⟨(w.heap.size + 1), 2, none⟩ = some (.string rb) := fun X => (BB.out.below X.ok.out BB.out.lt).c.2.2
      have hne : Nonempty (Wd (fun W => Hid (Below W2.heap.size W2 W))) := ⟨⟨W2, Lib.hid (Below.refl _ _)⟩⟩
      skip
      refine flow_all (S := (fun W => Hid (Below W2.heap.size W2 W))) (by kernel_rfl) (by kernel_rfl) (Lib.hid (Below.refl _ _).drew) ?_
      try simp only [List.append_eq, List.cons_append, List.nil_append]
      repeat (go_big_quiet_step (first
        | ((with_reducible refine (C0.out _).mono ?_); rintro e W ⟨rfl, hb⟩; exact ⟨rfl, Wd.on (Wd.ok _) hb⟩)
        | ((with_reducible refine (C1.out _).mono ?_); rintro e W ⟨rfl, hb⟩; exact ⟨rfl, Wd.on (Wd.ok _) hb⟩)
        | ((with_reducible refine (C2.out _).mono ?_); rintro e W ⟨rfl, hb⟩; exact ⟨rfl, Wd.on (Wd.ok _) hb⟩)
        | ((with_reducible refine (C3.out _).mono ?_); rintro e W ⟨rfl, hb⟩; exact ⟨rfl, Wd.on (Wd.ok _) hb⟩)))
      refine wpQuiet_nil ?_
      rintro _ ⟨X, rfl⟩
      have HX := Lib.hid X.ok.out
      clear ca0 ca1 ca2 cb0 cb1 cb2 hne
      have R := Lib.hid (AW.out.trans (HX.out.mono AW.out.size))
      clear HX
      go_wp2
      go_ret
      exact ⟨by rw [HF.out]; rfl, R.out⟩
  · have e0 : (p0 == q0) = false := by simpa using h0
    have HF : Hid (G = false) := by rw [Hid, HG.out, e0]; exact Bool.false_and _
    clear h0
    have ca0 : ∀ X : Wd (fun W => Hid (Below W2.heap.size W2 W)), X.w.cell? ⟨w.heap.size, 0, none⟩ = some (.int .i64 N) := fun X => (BA.out.below X.ok.out BA.out.lt).c.1
    have ca1 : ∀ X : Wd (fun W => Hid (Below W2.heap.size W2 W)), X.w.cell? ⟨w.heap.size, 1, none⟩ = some (.string sa) := fun X => (BA.out.below X.ok.out BA.out.lt).c.2.1
    have ca2 : ∀ X : Wd (fun W => Hid (Below W2.heap.size W2 W)), X.w.cell? ⟨w.heap.size, 2, none⟩ = some (.string ra) := fun X => (BA.out.below X.ok.out BA.out.lt).c.2.2
    have cb0 : ∀ X : Wd (fun W => Hid (Below W2.heap.size W2 W)), X.w.cell? ⟨(w.heap.size + 1), 0, none⟩ = some (.int .i64 M) := fun X => (BB.out.below X.ok.out BB.out.lt).c.1
    have cb1 : ∀ X : Wd (fun W => Hid (Below W2.heap.size W2 W)), X.w.cell? ⟨(w.heap.size + 1), 1, none⟩ = some (.string sb) := fun X => (BB.out.below X.ok.out BB.out.lt).c.2.1
    have cb2 : ∀ X : Wd (fun W => Hid (Below W2.heap.size W2 W)), X.w.cell? ⟨(w.heap.size + 1), 2, none⟩ = some (.string rb) := fun X => (BB.out.below X.ok.out BB.out.lt).c.2.2
    have hne : Nonempty (Wd (fun W => Hid (Below W2.heap.size W2 W))) := ⟨⟨W2, Lib.hid (Below.refl _ _)⟩⟩
    skip
    refine flow_all (S := (fun W => Hid (Below W2.heap.size W2 W))) (by kernel_rfl) (by kernel_rfl) (Lib.hid (Below.refl _ _).drew) ?_
    try simp only [List.append_eq, List.cons_append, List.nil_append]
    repeat (go_big_quiet_step (first
      | ((with_reducible refine (C0.out _).mono ?_); rintro e W ⟨rfl, hb⟩; exact ⟨rfl, Wd.on (Wd.ok _) hb⟩)
      | ((with_reducible refine (C1.out _).mono ?_); rintro e W ⟨rfl, hb⟩; exact ⟨rfl, Wd.on (Wd.ok _) hb⟩)))
    refine wpQuiet_nil ?_
    rintro _ ⟨X, rfl⟩
    have HX := Lib.hid X.ok.out
    clear ca0 ca1 ca2 cb0 cb1 cb2 hne
    have R := Lib.hid (AW.out.trans (HX.out.mono AW.out.size))
    clear HX
    go_wp2
    go_ret
    exact ⟨by rw [HF.out]; rfl, R.out⟩
/-- a slice with room behind it -/
def Room : Value → Prop
  | .slice _ n cap => n ≤ cap ∧ cap ≤ 9223372036854775807
  | _ => False
theorem reads_take {w : World} {ao : Option Addr} {n cap k : Nat} {l : List Nat} (h : Reads w (.slice ao n cap) (ints l)) (hn : n = l.length) (hk : k ≤ n) : Reads w (.slice ao k cap) (ints (l.take k)) := by
  obtain ⟨ao', c', hv, hc, hnn⟩ := h
  rw [ints_len] at hv hc hnn
  simp only [Value.slice.injEq] at hv
  obtain ⟨rfl, _, rfl⟩ := hv
  have hl : (ints (l.take k)).length = k := by rw [ints_len, List.length_take]; omega
  refine ⟨ao, cap, by rw [hl], ?_, fun e => ⟨by have := (hnn e).1; omega, (hnn e).2⟩⟩
  rcases hc with h | ⟨b, off, ha, hc⟩
  · left
    have : l.length = 0 := by rw [← ints_len, h]; rfl
    have : l = [] := List.length_eq_zero_iff.1 this
    subst this; simp [ints]
  · refine .inr ⟨b, off, ha, fun i hi => ?_⟩
    rw [hl] at hi
    rw [hc i (by omega), ints_get, ints_get]
    congr 2
    simp [List.getD_eq_getElem?_getD, List.getElem?_take, hi]

set_option maxHeartbeats 3200000 in
theorem sameWay_any (N : Nat) (sa ra : ByteArray) (la : List Nat) (va : Value) (M : Nat) (sb rb : ByteArray) (lb : List Nat) (vb : Value) (w : World) (hl : la.length = lb.length) (h8 : la.length ≤ 100) (hpa : ∀ z, z ∈ la → z < N) (hpb : ∀ z, z ∈ lb → z < M)
    (hn : N ≤ 8) (hm : M ≤ 8) (hsa : sa.size = N) (hra : ra.size = N * N) (hsb : sb.size = M) (hrb : rb.size = M * M) (hva : Reads w va (ints la)) (hvb : Reads w vb (ints lb)) (hca : Room va) (hcb : Room vb) :
    Calls Tryd.prog 82 #[.agg #[.int .i64 N, .string sa, .string ra], va, .agg #[.int .i64 M, .string sb, .string rb], vb] w fun e w' => e = .returned (.bool (swB N sa ra la M sb rb lb)) ∧ Below w.heap.size w w' := by
  obtain ⟨i, hil⟩ : ∃ i, i = la.length := ⟨_, rfl⟩
  obtain ⟨ao, cap, rfl⟩ := hva.len
  obtain ⟨bo, cap2, rfl⟩ := hvb.len
  rw [ints_len, ← hil] at hva hca ⊢
  rw [ints_len, ← hl, ← hil] at hvb hcb ⊢
  have hca : i ≤ cap ∧ cap ≤ 9223372036854775807 := hca
  have hcb : i ≤ cap2 ∧ cap2 ≤ 9223372036854775807 := hcb
  have B1 : Hid (Box 24 (w.alloc (.cells #[.int .i64 N, .string sa, .string ra] 24)) w.heap.size N sa ra) := Box.new _ w _ rfl _ _ _
  have BA : Hid (Box 24 ((w.alloc (.cells #[.int .i64 N, .string sa, .string ra] 24)).alloc (.cells #[.int .i64 M, .string sb, .string rb] 24)) w.heap.size N sa ra) := B1.out.below ((Below.refl _ _).alloc (Nat.le_refl _) _) B1.out.lt
  have BB : Hid (Box 24 ((w.alloc (.cells #[.int .i64 N, .string sa, .string ra] 24)).alloc (.cells #[.int .i64 M, .string sb, .string rb] 24)) (w.heap.size + 1) M sb rb) := Box.new _ _ _ (by simp) _ _ _
  obtain ⟨W2, hW2⟩ : ∃ W2, W2 = (w.alloc (.cells #[.int .i64 N, .string sa, .string ra] 24)).alloc (.cells #[.int .i64 M, .string sb, .string rb] 24) := ⟨_, rfl⟩
  have AW : Hid (Below w.heap.size w W2) := by rw [hW2]; exact ((Below.refl _ _).alloc (Nat.le_refl _) _).alloc (by simp) _
  rw [← hW2] at BA BB
  have RA := Lib.hid (hva.below AW.out (Nat.le_refl _))
  have RB := Lib.hid (hvb.below AW.out (Nat.le_refl _))
  have HI := Lib.hid (show i = la.length ∧ i = lb.length from ⟨hil, hil.trans hl⟩)
  have HS := Lib.hid (show _ ∧ _ ∧ _ ∧ _ ∧ _ ∧ _ from ⟨hn, hm, hsa, hra, hsb, hrb⟩)
  have HP := Lib.hid (show _ ∧ _ from ⟨hpa, hpb⟩)
  obtain ⟨G, hG⟩ : ∃ G, G = swB N sa ra la M sb rb lb := ⟨_, rfl⟩
  rw [← hG]
  have HG : Hid (G = (List.range i).all fun i => stB N sa ra (la.take i) M sb rb (lb.take i) (la.getD i 0) (lb.getD i 0)) := by rw [Hid, hG, hil]; rfl
  have hi8 : i ≤ 100 := by omega
  have HW2 := Lib.hid hW2
  clear hW2 hva hvb hil hl hsa hra hsb hrb hpa hpb B1 hG hn hm h8
  go_enter Tryd.func82, Tryd.ntmps82
  go_wp2_with fail
  rw [← HW2.out]
  go_wp2_with fail
  go_loopw [12] (fun j wr => ∃ k : Nat, k ≤ i ∧ j = .int .i64 k ∧ Hid (∀ j, j < k → stB N sa ra (la.take j) M sb rb (lb.take j) (la.getD j 0) (lb.getD j 0) = true) ∧ Below W2.heap.size W2 wr) (fun j _ => i - (intOf j).toNat)
  case atStart => exact ⟨0, Nat.zero_le _, rfl, fun j hj => absurd hj (Nat.not_lt_zero _), Below.refl _ _⟩
  case round =>
    obtain ⟨k, hk, rfl, hyes, hb⟩ := hrel
    have HXX := Lib.hid hb
    have AX := Lib.hid (AW.out.trans (hb.mono AW.out.size))
    clear hb
    by_cases hki : k < i
    · obtain ⟨b1, o1, rfl, hc1⟩ := cell_at RA.out HI.out.1 HXX.out hki
      obtain ⟨b2, o2, rfl, hc2⟩ := cell_at RB.out HI.out.2 HXX.out hki
      obtain ⟨v, hv⟩ : ∃ v, v = la.getD k 0 := ⟨_, rfl⟩
      obtain ⟨u, hu⟩ : ∃ u, u = lb.getD k 0 := ⟨_, rfl⟩
      have hvn : v < N := by rw [hv]; exact mem_at HP.out.1 HI.out.1 hki
      have hun : u < M := by rw [hu]; exact mem_at HP.out.2 HI.out.2 hki
      rw [← hv] at hc1
      rw [← hu] at hc2
      obtain ⟨g, hg⟩ : ∃ g, g = stB N sa ra (la.take k) M sb rb (lb.take k) v u := ⟨_, rfl⟩
      have HGK : Hid (g = stB N sa ra (la.take k) M sb rb (lb.take k) (la.getD k 0) (lb.getD k 0)) := by rw [Hid, hg, hv, hu]
      have hb1 : b1 < wr.heap.size := World.block_lt_of_cell? wr ⟨b1, o1 + k, none⟩ hc1
      have hb2 : b2 < wr.heap.size := World.block_lt_of_cell? wr ⟨b2, o2 + k, none⟩ hc2
      have C0 : Hid (∀ X : Wd (fun W => Hid (Below wr.heap.size wr W)), Calls Tryd.prog 132 #[.agg #[.int .i64 N, .string sa, .string ra], .slice (some ⟨b1, o1, none⟩) k cap, .agg #[.int .i64 M, .string sb, .string rb], .slice (some ⟨b2, o2, none⟩) k cap2, .int .i64 v, .int .i64 u] X.w fun e w' => e = .returned (.bool g) ∧ Below X.w.heap.size X.w w') := fun X => by
        rw [hg]
        refine stillSame_any N sa ra (la.take k) _ M sb rb (lb.take k) _ v u X.w hvn hun (by rw [List.length_take, List.length_take]; have := HI.out; omega) (by rw [List.length_take]; omega) (fun z hz => HP.out.1 z (List.mem_of_mem_take hz)) (fun z hz => HP.out.2 z (List.mem_of_mem_take hz)) HS.out.1 HS.out.2.1 HS.out.2.2.1 HS.out.2.2.2.1 HS.out.2.2.2.2.1 HS.out.2.2.2.2.2 ?_ ?_
        · exact reads_take (((RA.out.below HXX.out (Nat.le_refl _)).below X.ok.out (Nat.le_refl _))) HI.out.1 (by omega)
        · exact reads_take (((RB.out.below HXX.out (Nat.le_refl _)).below X.ok.out (Nat.le_refl _))) HI.out.2 (by omega)
      have BA2 := Lib.hid (BA.out.below HXX.out BA.out.lt)
      have BB2 := Lib.hid (BB.out.below HXX.out BB.out.lt)
      have cc1 : ∀ X : Wd (fun W => Hid (Below wr.heap.size wr W)), X.w.cell? ⟨b1, o1 + k, none⟩ = some (.int .i64 v) := fun X => by rw [X.ok.out.cell (p := ⟨b1, o1 + k, none⟩) hb1]; exact hc1
      have cc2 : ∀ X : Wd (fun W => Hid (Below wr.heap.size wr W)), X.w.cell? ⟨b2, o2 + k, none⟩ = some (.int .i64 u) := fun X => by rw [X.ok.out.cell (p := ⟨b2, o2 + k, none⟩) hb2]; exact hc2
      clear hv hu hg hc1 hc2
      cases g with
      | true =>
        have ca0 : ∀ X : Wd (fun W => Hid (Below wr.heap.size wr W)), X.w.cell? ⟨w.heap.size, 0, none⟩ = some (.int .i64 N) := fun X => (BA2.out.below X.ok.out BA2.out.lt).c.1
        have ca1 : ∀ X : Wd (fun W => Hid (Below wr.heap.size wr W)), X.w.cell? ⟨w.heap.size, 1, none⟩ = some (.string sa) := fun X => (BA2.out.below X.ok.out BA2.out.lt).c.2.1
        have ca2 : ∀ X : Wd (fun W => Hid (Below wr.heap.size wr W)), X.w.cell? ⟨w.heap.size, 2, none⟩ = some (.string ra) := fun X => (BA2.out.below X.ok.out BA2.out.lt).c.2.2
        have cb0 : ∀ X : Wd (fun W => Hid (Below wr.heap.size wr W)), X.w.cell? ⟨(w.heap.size + 1), 0, none⟩ = some (.int .i64 M) := fun X => (BB2.out.below X.ok.out BB2.out.lt).c.1
        have cb1 : ∀ X : Wd (fun W => Hid (Below wr.heap.size wr W)), X.w.cell? ⟨(w.heap.size + 1), 1, none⟩ = some (.string sb) := fun X => (BB2.out.below X.ok.out BB2.out.lt).c.2.1
        have cb2 : ∀ X : Wd (fun W => Hid (Below wr.heap.size wr W)), X.w.cell? ⟨(w.heap.size + 1), 2, none⟩ = some (.string rb) := fun X => (BB2.out.below X.ok.out BB2.out.lt).c.2.2
        have hne : Nonempty (Wd (fun W => Hid (Below wr.heap.size wr W))) := ⟨⟨wr, Lib.hid (Below.refl _ _)⟩⟩
        go_wp2_with fail
        refine flow_all (S := (fun W => Hid (Below wr.heap.size wr W))) (by kernel_rfl) (by kernel_rfl) (Lib.hid (Below.refl _ _).drew) ?_
        try simp only [List.append_eq, List.cons_append, List.nil_append]
        repeat (go_big_quiet_step (first
          | ((with_reducible refine (C0.out _).mono ?_); rintro e W ⟨rfl, hb⟩; exact ⟨rfl, Wd.on (Wd.ok _) hb⟩)))
        refine wpQuiet_nil ?_
        rintro _ ⟨X, rfl⟩
        have HX := Lib.hid X.ok.out
        clear ca0 ca1 ca2 cb0 cb1 cb2 hne
        have HY : Hid (∀ j, j < k + 1 → stB N sa ra (la.take j) M sb rb (lb.take j) (la.getD j 0) (lb.getD j 0) = true) := fun j hj => by
          by_cases e : j = k
          · subst e; rw [← HGK.out]
          · exact hyes.out j (by omega)
        have R := Lib.hid (HXX.out.trans (HX.out.mono HXX.out.size))
        clear hyes HX
        go_wp2
        go_roundw
        case rel => first | exact ⟨k + 1, by omega, by go_num, HY, R.out⟩ | ((repeat apply Exists.intro); exact ⟨⟨k + 1, by omega, by go_num, HY, R.out⟩, rfl⟩)
        case measure => simp [intOf]; omega
      | false =>
        have ca0 : ∀ X : Wd (fun W => Hid (Below wr.heap.size wr W)), X.w.cell? ⟨w.heap.size, 0, none⟩ = some (.int .i64 N) := fun X => (BA2.out.below X.ok.out BA2.out.lt).c.1
        have ca1 : ∀ X : Wd (fun W => Hid (Below wr.heap.size wr W)), X.w.cell? ⟨w.heap.size, 1, none⟩ = some (.string sa) := fun X => (BA2.out.below X.ok.out BA2.out.lt).c.2.1
        have ca2 : ∀ X : Wd (fun W => Hid (Below wr.heap.size wr W)), X.w.cell? ⟨w.heap.size, 2, none⟩ = some (.string ra) := fun X => (BA2.out.below X.ok.out BA2.out.lt).c.2.2
        have cb0 : ∀ X : Wd (fun W => Hid (Below wr.heap.size wr W)), X.w.cell? ⟨(w.heap.size + 1), 0, none⟩ = some (.int .i64 M) := fun X => (BB2.out.below X.ok.out BB2.out.lt).c.1
        have cb1 : ∀ X : Wd (fun W => Hid (Below wr.heap.size wr W)), X.w.cell? ⟨(w.heap.size + 1), 1, none⟩ = some (.string sb) := fun X => (BB2.out.below X.ok.out BB2.out.lt).c.2.1
        have cb2 : ∀ X : Wd (fun W => Hid (Below wr.heap.size wr W)), X.w.cell? ⟨(w.heap.size + 1), 2, none⟩ = some (.string rb) := fun X => (BB2.out.below X.ok.out BB2.out.lt).c.2.2
        have hne : Nonempty (Wd (fun W => Hid (Below wr.heap.size wr W))) := ⟨⟨wr, Lib.hid (Below.refl _ _)⟩⟩
        go_wp2_with fail
        refine flow_all (S := (fun W => Hid (Below wr.heap.size wr W))) (by kernel_rfl) (by kernel_rfl) (Lib.hid (Below.refl _ _).drew) ?_
        try simp only [List.append_eq, List.cons_append, List.nil_append]
        repeat (go_big_quiet_step (first
          | ((with_reducible refine (C0.out _).mono ?_); rintro e W ⟨rfl, hb⟩; exact ⟨rfl, Wd.on (Wd.ok _) hb⟩)))
        refine wpQuiet_nil ?_
        rintro _ ⟨X, rfl⟩
        have HX := Lib.hid X.ok.out
        clear ca0 ca1 ca2 cb0 cb1 cb2 hne
        have R := Lib.hid (AX.out.trans (HX.out.mono AX.out.size))
        have HF2 : Hid (G = false) := by rw [Hid, HG.out]; exact all_not hki HGK.out.symm
        clear hyes HX
        go_wp2
        go_ret
        exact ⟨by rw [HF2.out]; rfl, R.out⟩
    · obtain rfl : i = k := by omega
      have HT : Hid (G = true) := by rw [Hid, HG.out]; exact all_upto hyes.out
      clear hyes
      go_wp2
      go_ret
      exact ⟨by rw [HT.out]; rfl, AX.out⟩
end Go.Proofs.YtpcnoiigbmiejaaDoor.still

/- What the program's games compute, in plain words. -/
namespace Go.Proofs.YtpcnoiigbmiejaaDoor.gob
set_option linter.unusedVariables false
set_option linter.unusedSimpArgs false
open Go.Proofs.YtpcnoiigbmiejaaDoor.base Go.Proofs.YtpcnoiigbmiejaaDoor.still Go.Proofs.YtpcnoiigbmiejaaDoor.game

/-- the structure by its bits -/
def gr (N : Nat) (s r : ByteArray) : Gr := ⟨N, bitAt s, fun x y => bitAt r (x * N + y)⟩
/-- the second player can go on so many rounds -/
def goB : Nat → Nat → ByteArray → ByteArray → List Nat → Nat → ByteArray → ByteArray → List Nat → Bool
  | 0, _, _, _, _, _, _, _, _ => true
  | r + 1, N, sa, ra, la, M, sb, rb, lb =>
    ((List.range N).all fun x => swB N sa ra la M sb rb lb && (List.range M).any fun y => stB N sa ra la M sb rb lb x y && goB r N sa ra (la ++ [x]) M sb rb (lb ++ [y])) &&
    ((List.range M).all fun y => swB M sb rb lb N sa ra la && (List.range N).any fun x => stB M sb rb lb N sa ra la y x && goB r M sb rb (lb ++ [y]) N sa ra (la ++ [x]))
/-- there is a reply -/
def repB (r N : Nat) (sa ra : ByteArray) (la : List Nat) (M : Nat) (sb rb : ByteArray) (lb : List Nat) (x : Nat) : Bool :=
  swB N sa ra la M sb rb lb && (List.range M).any fun y => stB N sa ra la M sb rb lb x y && goB r N sa ra (la ++ [x]) M sb rb (lb ++ [y])
theorem goB_succ (r N : Nat) (sa ra : ByteArray) (la : List Nat) (M : Nat) (sb rb : ByteArray) (lb : List Nat) : goB (r + 1) N sa ra la M sb rb lb = (((List.range N).all fun x => repB r N sa ra la M sb rb lb x) && (List.range M).all fun y => repB r M sb rb lb N sa ra la y) := rfl
/-- the second player wins -/
def winB (r N : Nat) (sa ra : ByteArray) (la : List Nat) (M : Nat) (sb rb : ByteArray) (lb : List Nat) : Bool := swB N sa ra la M sb rb lb && goB r N sa ra la M sb rb lb
def Els (N : Nat) (l : List Nat) : Prop := ∀ x, x ∈ l → x < N
theorem Els.snoc {N : Nat} {l : List Nat} (h : Els N l) {x : Nat} (hx : x < N) : Els N (l ++ [x]) := fun y hy => by
  rcases List.mem_append.1 hy with h' | h'
  · exact h y h'
  · rw [List.mem_singleton.1 h']; exact hx
theorem Els.get {N : Nat} {l : List Nat} (h : Els N l) {i : Nat} (hi : i < l.length) : l.getD i 0 < N := by
  rw [List.getD_eq_getElem?_getD, List.getElem?_eq_getElem hi]
  exact h _ (List.getElem_mem _)
theorem mem_zip {xs ys : List Nat} (hl : xs.length = ys.length) {p : Nat × Nat} : p ∈ xs.zip ys ↔ ∃ i, i < xs.length ∧ p = (xs.getD i 0, ys.getD i 0) := by
  rw [List.mem_iff_getElem]
  constructor
  · rintro ⟨i, hi, rfl⟩
    rw [List.length_zip] at hi
    refine ⟨i, by omega, ?_⟩
    rw [List.getElem_zip, List.getD_eq_getElem?_getD, List.getD_eq_getElem?_getD, List.getElem?_eq_getElem (by omega), List.getElem?_eq_getElem (by omega)]
    rfl
  · rintro ⟨i, hi, rfl⟩
    refine ⟨i, by rw [List.length_zip]; omega, ?_⟩
    rw [List.getElem_zip, List.getD_eq_getElem?_getD, List.getD_eq_getElem?_getD, List.getElem?_eq_getElem (by omega), List.getElem?_eq_getElem (by omega)]
    rfl
section
variable {N : Nat} {sa ra : ByteArray} {M : Nat} {sb rb : ByteArray} {la lb : List Nat}
theorem stp_iff {x y k : Nat} : stpB N ra M rb la lb x y k = true ↔ (la.getD k 0 = x ↔ lb.getD k 0 = y) ∧ bitAt ra (la.getD k 0 * N + x) = bitAt rb (lb.getD k 0 * M + y) ∧ bitAt ra (x * N + la.getD k 0) = bitAt rb (y * M + lb.getD k 0) := by
  unfold stpB
  rw [Bool.and_eq_true, Bool.and_eq_true, beq_iff_eq, beq_iff_eq, beq_iff_eq, Bool.eq_iff_iff, beq_iff_eq, beq_iff_eq]
  constructor
  · rintro ⟨h1, h2⟩; exact ⟨⟨fun e => by have := h1.1 (by omega); omega, fun e => by have := h1.2 (by omega); omega⟩, h2⟩
  · rintro ⟨h1, h2⟩; exact ⟨⟨fun e => by have := h1.1 (by omega); omega, fun e => by have := h1.2 (by omega); omega⟩, h2⟩
theorem st_iff {x y : Nat} : stB N sa ra la M sb rb lb x y = true ↔ bitAt sa x = bitAt sb y ∧ bitAt ra (x * N + x) = bitAt rb (y * M + y) ∧ ∀ k, k < la.length → (la.getD k 0 = x ↔ lb.getD k 0 = y) ∧ bitAt ra (la.getD k 0 * N + x) = bitAt rb (lb.getD k 0 * M + y) ∧ bitAt ra (x * N + la.getD k 0) = bitAt rb (y * M + lb.getD k 0) := by
  unfold stB
  rw [Bool.and_eq_true, Bool.and_eq_true, beq_iff_eq, beq_iff_eq, List.all_eq_true]
  constructor
  · rintro ⟨h1, h2, h3⟩; exact ⟨h1, h2, fun k hk => stp_iff.1 (h3 k (List.mem_range.2 hk))⟩
  · rintro ⟨h1, h2, h3⟩; exact ⟨h1, h2, fun k hk => stp_iff.2 (h3 k (List.mem_range.1 hk))⟩
/-- one more pair in the same way -/
theorem st_way (hl : la.length = lb.length) (h : Gway (gr N sa ra) (gr M sb rb) (la.zip lb)) {x y : Nat} (hx : x < N) (hy : y < M) : stB N sa ra la M sb rb lb x y = true ↔ Gway (gr N sa ra) (gr M sb rb) ((x, y) :: la.zip lb) := by
  rw [st_iff]
  constructor
  · rintro ⟨h1, h2, h3⟩
    have key : ∀ p, p ∈ la.zip lb → (p.1 = x ↔ p.2 = y) ∧ bitAt ra (p.1 * N + x) = bitAt rb (p.2 * M + y) ∧ bitAt ra (x * N + p.1) = bitAt rb (y * M + p.2) := fun p hp => by
      obtain ⟨k, hk, rfl⟩ := (mem_zip hl).1 hp
      exact h3 k hk
    refine ⟨fun p hp => ?_, fun p q hp hq => ?_⟩
    · rcases List.mem_cons.1 hp with rfl | hp
      · exact ⟨hx, hy, h1⟩
      · exact h.1 p hp
    · rcases List.mem_cons.1 hp with rfl | hp <;> rcases List.mem_cons.1 hq with rfl | hq
      · exact ⟨⟨fun _ => rfl, fun _ => rfl⟩, h2⟩
      · obtain ⟨a, _, c⟩ := key q hq
        exact ⟨⟨fun e => (a.1 e.symm).symm, fun e => (a.2 e.symm).symm⟩, c⟩
      · obtain ⟨a, b, _⟩ := key p hp
        exact ⟨a, b⟩
      · exact h.2 p q hp hq
  · intro hw
    have hm : (x, y) ∈ (x, y) :: la.zip lb := List.mem_cons_self
    refine ⟨(hw.1 _ hm).2.2, (hw.2 _ _ hm hm).2, fun k hk => ?_⟩
    have hk' : (la.getD k 0, lb.getD k 0) ∈ (x, y) :: la.zip lb := List.mem_cons_of_mem _ ((mem_zip hl).2 ⟨k, hk, rfl⟩)
    exact ⟨(hw.2 _ _ hk' hm).1, (hw.2 _ _ hk' hm).2, (hw.2 _ _ hm hk').2⟩
theorem getD_take {l : List Nat} {i k : Nat} (h : k < i) : (l.take i).getD k 0 = l.getD k 0 := by
  simp [List.getD_eq_getElem?_getD, List.getElem?_take, h]
/-- lists in the same way -/
theorem sw_way (hl : la.length = lb.length) (ha : Els N la) (hb : Els M lb) : swB N sa ra la M sb rb lb = true ↔ Gway (gr N sa ra) (gr M sb rb) (la.zip lb) := by
  unfold swB
  rw [List.all_eq_true]
  have hst : ∀ i, i < la.length → (stB N sa ra (la.take i) M sb rb (lb.take i) (la.getD i 0) (lb.getD i 0) = true ↔ bitAt sa (la.getD i 0) = bitAt sb (lb.getD i 0) ∧ bitAt ra (la.getD i 0 * N + la.getD i 0) = bitAt rb (lb.getD i 0 * M + lb.getD i 0) ∧ ∀ k, k < i → (la.getD k 0 = la.getD i 0 ↔ lb.getD k 0 = lb.getD i 0) ∧ bitAt ra (la.getD k 0 * N + la.getD i 0) = bitAt rb (lb.getD k 0 * M + lb.getD i 0) ∧ bitAt ra (la.getD i 0 * N + la.getD k 0) = bitAt rb (lb.getD i 0 * M + lb.getD k 0)) := fun i hi => by
    rw [st_iff, List.length_take, Nat.min_eq_left (by omega)]
    constructor
    · rintro ⟨h1, h2, h3⟩
      exact ⟨h1, h2, fun k hk => by have := h3 k hk; rw [getD_take hk, getD_take hk] at this; exact this⟩
    · rintro ⟨h1, h2, h3⟩
      exact ⟨h1, h2, fun k hk => by rw [getD_take hk, getD_take hk]; exact h3 k hk⟩
  constructor
  · intro h
    have h' := fun i hi => (hst i hi).1 (h i (List.mem_range.2 hi))
    refine ⟨fun p hp => ?_, fun p q hp hq => ?_⟩
    · obtain ⟨i, hi, rfl⟩ := (mem_zip hl).1 hp
      exact ⟨ha.get hi, hb.get (by omega), (h' i hi).1⟩
    · obtain ⟨i, hi, rfl⟩ := (mem_zip hl).1 hp
      obtain ⟨k, hk, rfl⟩ := (mem_zip hl).1 hq
      show (la.getD i 0 = la.getD k 0 ↔ lb.getD i 0 = lb.getD k 0) ∧ bitAt ra (la.getD i 0 * N + la.getD k 0) = bitAt rb (lb.getD i 0 * M + lb.getD k 0)
      rcases Nat.lt_trichotomy i k with e | e | e
      · obtain ⟨a, b, _⟩ := (h' k hk).2.2 i e
        exact ⟨a, b⟩
      · subst e; exact ⟨⟨fun _ => rfl, fun _ => rfl⟩, (h' i hi).2.1⟩
      · obtain ⟨a, _, c⟩ := (h' i hi).2.2 k e
        exact ⟨⟨fun e => (a.1 e.symm).symm, fun e => (a.2 e.symm).symm⟩, c⟩
  · intro h i hi
    have hi := List.mem_range.1 hi
    have hm : ∀ j, j < la.length → (la.getD j 0, lb.getD j 0) ∈ la.zip lb := fun j hj => (mem_zip hl).2 ⟨j, hj, rfl⟩
    refine (hst i hi).2 ⟨(h.1 _ (hm i hi)).2.2, (h.2 _ _ (hm i hi) (hm i hi)).2, fun k hk => ?_⟩
    exact ⟨(h.2 _ _ (hm k (by omega)) (hm i hi)).1, (h.2 _ _ (hm k (by omega)) (hm i hi)).2, (h.2 _ _ (hm i hi) (hm k (by omega))).2⟩
end
theorem zip_swap : ∀ (la lb : List Nat), lb.zip la = turn (la.zip lb)
  | [], [] => rfl
  | [], _ :: _ => rfl
  | _ :: _, [] => rfl
  | a :: la, b :: lb => by
    show (b, a) :: lb.zip la = (b, a) :: turn (la.zip lb)
    rw [zip_swap la lb]
theorem turn_turn' (P : Pos) : turn (turn P) = P := by
  unfold turn
  rw [List.map_map]
  conv => rhs; rw [← List.map_id P]
  rfl
theorem win_snoc {A B : Gr} {r : Nat} {la lb : List Nat} (hl : la.length = lb.length) {x y : Nat} : Win A B r ((la ++ [x]).zip (lb ++ [y])) ↔ Win A B r ((x, y) :: la.zip lb) := by
  have e : (la ++ [x]).zip (lb ++ [y]) = la.zip lb ++ [(x, y)] := by rw [List.zip_append hl]; rfl
  rw [e]
  constructor
  · intro hw; exact hw.sub fun p hp => by
      rcases List.mem_cons.1 hp with rfl | hp
      · exact List.mem_append.2 (.inr (List.mem_singleton.2 rfl))
      · exact List.mem_append.2 (.inl hp)
  · intro hw; exact hw.sub fun p hp => by
      rcases List.mem_append.1 hp with hp | hp
      · exact List.mem_cons_of_mem _ hp
      · rw [List.mem_singleton.1 hp]; exact List.mem_cons_self
/-- going on is winning, for lists in the same way -/
theorem go_win : ∀ {r N : Nat} {sa ra : ByteArray} {M : Nat} {sb rb : ByteArray} {la lb : List Nat}, la.length = lb.length → Els N la → Els M lb → Gway (gr N sa ra) (gr M sb rb) (la.zip lb) → (goB r N sa ra la M sb rb lb = true ↔ Win (gr N sa ra) (gr M sb rb) r (la.zip lb))
  | 0, _, _, _, _, _, _, _, _, _, _, _, hw => ⟨fun _ => hw, fun _ => rfl⟩
  | r + 1, N, sa, ra, M, sb, rb, la, lb, hl, ha, hb, hw => by
    have hsw := (sw_way hl ha hb).2 hw
    have hw2 : Gway (gr M sb rb) (gr N sa ra) (lb.zip la) := by rw [zip_swap]; exact hw.turn
    have hsw2 := (sw_way hl.symm hb ha).2 hw2
    have rep : ∀ {N : Nat} {sa ra : ByteArray} {M : Nat} {sb rb : ByteArray} {la lb : List Nat}, la.length = lb.length → Els N la → Els M lb → Gway (gr N sa ra) (gr M sb rb) (la.zip lb) → swB N sa ra la M sb rb lb = true → ∀ x, x < N → (repB r N sa ra la M sb rb lb x = true ↔ ∃ y, y < M ∧ Win (gr N sa ra) (gr M sb rb) r ((x, y) :: la.zip lb)) := fun {N sa ra M sb rb la lb} hl ha hb hw hsw x hx => by
      unfold repB
      rw [hsw, Bool.true_and, List.any_eq_true]
      constructor
      · rintro ⟨y, hy, h⟩
        have hy := List.mem_range.1 hy
        rw [Bool.and_eq_true] at h
        have hw' := (st_way hl hw hx hy).1 h.1
        refine ⟨y, hy, ?_⟩
        have hz : Gway (gr N sa ra) (gr M sb rb) ((la ++ [x]).zip (lb ++ [y])) := (win_snoc (r := 0) hl).2 hw'
        exact (win_snoc hl).1 ((go_win (by simp [hl]) (ha.snoc hx) (hb.snoc hy) hz).1 h.2)
      · rintro ⟨y, hy, h⟩
        refine ⟨y, List.mem_range.2 hy, ?_⟩
        rw [Bool.and_eq_true]
        have hz : Gway (gr N sa ra) (gr M sb rb) ((la ++ [x]).zip (lb ++ [y])) := (win_snoc (r := 0) hl).2 h.way
        exact ⟨(st_way hl hw hx hy).2 h.way, (go_win (by simp [hl]) (ha.snoc hx) (hb.snoc hy) hz).2 ((win_snoc hl).2 h)⟩
    rw [goB_succ, Bool.and_eq_true, List.all_eq_true, List.all_eq_true]
    constructor
    · rintro ⟨h1, h2⟩
      refine ⟨hw, fun x hx => (rep hl ha hb hw hsw x hx).1 (h1 x (List.mem_range.2 hx)), fun y hy => ?_⟩
      obtain ⟨x, hx, h⟩ := (rep hl.symm hb ha hw2 hsw2 y hy).1 (h2 y (List.mem_range.2 hy))
      refine ⟨x, hx, ?_⟩
      have := h.turn
      rw [zip_swap] at this
      have e : turn ((y, x) :: turn (la.zip lb)) = (x, y) :: la.zip lb := by
        show (x, y) :: turn (turn (la.zip lb)) = _
        rw [turn_turn']
      rw [e] at this; exact this
    · rintro ⟨_, h1, h2⟩
      refine ⟨fun x hx => (rep hl ha hb hw hsw x (List.mem_range.1 hx)).2 (h1 x (List.mem_range.1 hx)), fun y hy => ?_⟩
      obtain ⟨x, hx, h⟩ := h2 y (List.mem_range.1 hy)
      refine (rep hl.symm hb ha hw2 hsw2 y (List.mem_range.1 hy)).2 ⟨x, hx, ?_⟩
      have := h.turn
      rw [zip_swap]; exact this
/-- the program's answer is who wins -/
theorem win_iff {r N : Nat} {sa ra : ByteArray} {M : Nat} {sb rb : ByteArray} {la lb : List Nat} (hl : la.length = lb.length) (ha : Els N la) (hb : Els M lb) : winB r N sa ra la M sb rb lb = true ↔ Win (gr N sa ra) (gr M sb rb) r (la.zip lb) := by
  unfold winB
  rw [Bool.and_eq_true]
  constructor
  · rintro ⟨h1, h2⟩
    exact (go_win hl ha hb ((sw_way hl ha hb).1 h1)).1 h2
  · intro h
    exact ⟨(sw_way hl ha hb).2 h.way, (go_win hl ha hb h.way).2 h⟩
end Go.Proofs.YtpcnoiigbmiejaaDoor.gob
