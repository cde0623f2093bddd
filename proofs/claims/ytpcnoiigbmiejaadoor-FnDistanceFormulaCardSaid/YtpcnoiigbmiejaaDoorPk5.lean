/- Several texts in one: Prod, InRel, PairL, Sum, Val. -/
import Derived.Test.YtpcnoiigbmiejaaDoorRows
import Derived.Test.YtpcnoiigbmiejaaDoorPk2
import Derived.Test.YtpcnoiigbmiejaaDoorPk1
import Derived.Test.YtpcnoiigbmiejaaDoorPk3
/- ProductOf, in the program and in the reference. -/
namespace Go.Proofs.YtpcnoiigbmiejaaDoor.prod
set_option linter.unusedVariables false
set_option linter.unusedSimpArgs false
open Go.ChangeShapes Go.WideShapes Go.ChangeAt Go.RowKit
open Go.Proofs.YtpcnoiigbmiejaaDoor.lib Go.Proofs.YtpcnoiigbmiejaaDoor.st Go.Proofs.YtpcnoiigbmiejaaDoor.base Go.Proofs.YtpcnoiigbmiejaaDoor.make Go.Proofs.YtpcnoiigbmiejaaDoor.flow

/-- the bits by numbers of whatever spelling -/
theorem inSet_at (n : Int) (s r : ByteArray) (i : Int) (k : Nat) (b : Bool) (w : World) (hi : i = k) (hb : bitAt s k = b) (hx : k < s.size) (hs : s.size ≤ 9223372036854775807) :
    Calls Tryd.prog 52 #[.agg #[.int .i64 n, .string s, .string r], .int .i64 i] w fun e w' => e = .returned (.bool b) ∧ Below w.heap.size w w' := by
  subst hi hb; exact inSet_any n s r k w hx hs
theorem inRel_at (n : Nat) (s r : ByteArray) (i j : Int) (x y : Nat) (b : Bool) (w : World) (hi : i = x) (hj : j = y) (hb : bitAt r (x * n + y) = b) (hx : x < n) (hy : y < n) (hn : n ≤ 8) (hr : r.size = n * n) :
    Calls Tryd.prog 55 #[.agg #[.int .i64 n, .string s, .string r], .int .i64 i, .int .i64 j] w fun e w' => e = .returned (.bool b) ∧ Below w.heap.size w w' := by
  subst hi hj hb; exact inRel_any n s r x y w hx hy hn hr

theorem wrap_nat (k : Nat) (h : k ≤ 1000) : IntKind.i64.wrap (k : Int) = (k : Int) := by rw [IntKind.wrap_i64]; omega
theorem div_facts {x m : Nat} (hm : 1 ≤ m ∧ m ≤ 8) (hx : x ≤ 64) : IntKind.i64.wrap ((x : Int) / (m : Int)) = ((x / m : Nat) : Int) ∧ (x : Int).tmod (m : Int) = ((x % m : Nat) : Int) ∧ ¬ m = 0 :=
  ⟨wrap_nat (x / m) (Nat.le_trans (Nat.div_le_self _ _) (by omega)), rfl, by omega⟩

set_option maxHeartbeats 1600000 in
set_option maxRecDepth 100000 in
theorem clSet_any (n : Nat) (s r : ByteArray) (m : Nat) (t q : ByteArray) (Ha Hb : Nat) (x : Nat) (w : World) (ha : Box 24 w Ha n s r) (hbx : Box 24 w Hb m t q)
    (hm : 1 ≤ m ∧ m ≤ 8) (hx : x ≤ 64) (h1 : x / m < s.size) (h2 : x % m < t.size) (hs : s.size ≤ 8) (ht : t.size ≤ 8) :
    Calls Tryd.prog 51 #[.int .i64 x, .pointer (some ⟨Ha, 0, none⟩), .pointer (some ⟨Hb, 0, none⟩)] w fun e w' => e = .returned (.bool (bitAt s (x / m) && bitAt t (x % m))) ∧ Below w.heap.size w w' := by
  have ca : ∀ X : Wd (fun W => Hid (Below w.heap.size w W)), X.w.cell? ⟨Ha, 0, none⟩ = some (.int .i64 n) ∧ X.w.cell? ⟨Ha, 1, none⟩ = some (.string s) ∧ X.w.cell? ⟨Ha, 2, none⟩ = some (.string r) := fun X => (ha.below X.ok.out ha.lt).c
  have cb : ∀ X : Wd (fun W => Hid (Below w.heap.size w W)), X.w.cell? ⟨Hb, 0, none⟩ = some (.int .i64 m) ∧ X.w.cell? ⟨Hb, 1, none⟩ = some (.string t) ∧ X.w.cell? ⟨Hb, 2, none⟩ = some (.string q) := fun X => (hbx.below X.ok.out hbx.lt).c
  have ca0 := fun X => (ca X).1
  have ca1 := fun X => (ca X).2.1
  have ca2 := fun X => (ca X).2.2
  have cb0 := fun X => (cb X).1
  have cb1 := fun X => (cb X).2.1
  have cb2 := fun X => (cb X).2.2
  obtain ⟨d1, d2, d3⟩ := div_facts hm hx
  have hne : Nonempty (Wd (fun W => Hid (Below w.heap.size w W))) := ⟨⟨w, Lib.hid (Below.refl _ _)⟩⟩
  clear ha hbx ca cb
  cases hb1 : bitAt s (x / m) with
  | false =>
    have HB1 := Lib.hid hb1
    clear hb1
    go_enter Tryd.func51, Tryd.ntmps51
    go_wp2_with fail
    refine flow_last (S := (fun W => Hid (Below w.heap.size w W))) (by kernel_rfl) (by kernel_rfl) (by kernel_rfl) (by kernel_rfl) (by kernel_rfl) (Lib.hid (Below.refl _ _).drew) ?_
    simp only [List.dropLast_cons_cons, List.dropLast_singleton, List.getLast?_cons_cons, List.getLast?_singleton, Option.toList_some]
    repeat (go_big_quiet_step (first | (go_at_call 52; with_reducible refine (inSet_at n s r ((x : Int) / (m : Int)) (x / m) false _ rfl HB1.out h1 (by omega)).mono ?_; rintro e W ⟨rfl, hb⟩; exact ⟨rfl, Wd.on (Wd.ok _) hb⟩)))
    refine wpQuiet_nil ?_
    rintro _ ⟨X, rfl⟩
    have HX := X.ok.out
    go_wp2
    go_ret
    exact ⟨rfl, HX⟩
  | true =>
    have HB1 := Lib.hid hb1
    clear hb1
    cases hb2 : bitAt t (x % m) with
    | false =>
      have HB2 := Lib.hid hb2
      clear hb2
      go_enter Tryd.func51, Tryd.ntmps51
      go_wp2_with fail
      refine flow_last (S := (fun W => Hid (Below w.heap.size w W))) (by kernel_rfl) (by kernel_rfl) (by kernel_rfl) (by kernel_rfl) (by kernel_rfl) (Lib.hid (Below.refl _ _).drew) ?_
      simp only [List.dropLast_cons_cons, List.dropLast_singleton, List.getLast?_cons_cons, List.getLast?_singleton, Option.toList_some]
      repeat (go_big_quiet_step (first | (go_at_call 52; with_reducible refine (inSet_at n s r ((x : Int) / (m : Int)) (x / m) true _ rfl HB1.out h1 (by omega)).mono ?_; rintro e W ⟨rfl, hb⟩; exact ⟨rfl, Wd.on (Wd.ok _) hb⟩) | (go_at_call 52; with_reducible refine (inSet_at m t q ((x : Int) % (m : Int)) (x % m) false _ rfl HB2.out h2 (by omega)).mono ?_; rintro e W ⟨rfl, hb⟩; exact ⟨rfl, Wd.on (Wd.ok _) hb⟩)))
      refine wpQuiet_nil ?_
      rintro _ ⟨X, rfl⟩
      have HX := X.ok.out
      go_wp2
      go_ret
      exact ⟨rfl, HX⟩
    | true =>
      have HB2 := Lib.hid hb2
      clear hb2
      go_enter Tryd.func51, Tryd.ntmps51
      go_wp2_with fail
      refine flow_last (S := (fun W => Hid (Below w.heap.size w W))) (by kernel_rfl) (by kernel_rfl) (by kernel_rfl) (by kernel_rfl) (by kernel_rfl) (Lib.hid (Below.refl _ _).drew) ?_
      simp only [List.dropLast_cons_cons, List.dropLast_singleton, List.getLast?_cons_cons, List.getLast?_singleton, Option.toList_some]
      repeat (go_big_quiet_step (first | (go_at_call 52; with_reducible refine (inSet_at n s r ((x : Int) / (m : Int)) (x / m) true _ rfl HB1.out h1 (by omega)).mono ?_; rintro e W ⟨rfl, hb⟩; exact ⟨rfl, Wd.on (Wd.ok _) hb⟩) | (go_at_call 52; with_reducible refine (inSet_at m t q ((x : Int) % (m : Int)) (x % m) true _ rfl HB2.out h2 (by omega)).mono ?_; rintro e W ⟨rfl, hb⟩; exact ⟨rfl, Wd.on (Wd.ok _) hb⟩)))
      refine wpQuiet_nil ?_
      rintro _ ⟨X, rfl⟩
      have HX := X.ok.out
      go_wp2
      go_ret
      exact ⟨rfl, HX⟩

set_option maxHeartbeats 1600000 in
set_option maxRecDepth 100000 in
theorem clRel_any (n : Nat) (s r : ByteArray) (m : Nat) (t q : ByteArray) (Ha Hb : Nat) (x y : Nat) (w : World) (ha : Box 24 w Ha n s r) (hbx : Box 24 w Hb m t q)
    (hm : 1 ≤ m ∧ m ≤ 8) (hx : x ≤ 64) (hy : y ≤ 64) (h1 : x / m < n) (h2 : y / m < n) (hn : n ≤ 8) (hr : r.size = n * n) (hq : q.size = m * m) :
    Calls Tryd.prog 54 #[.int .i64 x, .int .i64 y, .pointer (some ⟨Ha, 0, none⟩), .pointer (some ⟨Hb, 0, none⟩)] w fun e w' => e = .returned (.bool (bitAt r (x / m * n + y / m) && bitAt q (x % m * m + y % m))) ∧ Below w.heap.size w w' := by
  have ca : ∀ X : Wd (fun W => Hid (Below w.heap.size w W)), X.w.cell? ⟨Ha, 0, none⟩ = some (.int .i64 n) ∧ X.w.cell? ⟨Ha, 1, none⟩ = some (.string s) ∧ X.w.cell? ⟨Ha, 2, none⟩ = some (.string r) := fun X => (ha.below X.ok.out ha.lt).c
  have cb : ∀ X : Wd (fun W => Hid (Below w.heap.size w W)), X.w.cell? ⟨Hb, 0, none⟩ = some (.int .i64 m) ∧ X.w.cell? ⟨Hb, 1, none⟩ = some (.string t) ∧ X.w.cell? ⟨Hb, 2, none⟩ = some (.string q) := fun X => (hbx.below X.ok.out hbx.lt).c
  have ca0 := fun X => (ca X).1
  have ca1 := fun X => (ca X).2.1
  have ca2 := fun X => (ca X).2.2
  have cb0 := fun X => (cb X).1
  have cb1 := fun X => (cb X).2.1
  have cb2 := fun X => (cb X).2.2
  obtain ⟨d1, d2, d3⟩ := div_facts hm hx
  obtain ⟨e1, e2, e3⟩ := div_facts hm hy
  have HR : Hid (r.size = n * n ∧ x % m < m ∧ y % m < m ∧ q.size = m * m) := ⟨hr, Nat.mod_lt _ (by omega), Nat.mod_lt _ (by omega), hq⟩
  clear hr hq
  have hne : Nonempty (Wd (fun W => Hid (Below w.heap.size w W))) := ⟨⟨w, Lib.hid (Below.refl _ _)⟩⟩
  clear ha hbx ca cb
  cases hb1 : bitAt r (x / m * n + y / m) with
  | false =>
    have HB1 := Lib.hid hb1
    clear hb1
    go_enter Tryd.func54, Tryd.ntmps54
    go_wp2_with fail
    refine flow_last (S := (fun W => Hid (Below w.heap.size w W))) (by kernel_rfl) (by kernel_rfl) (by kernel_rfl) (by kernel_rfl) (by kernel_rfl) (Lib.hid (Below.refl _ _).drew) ?_
    simp only [List.dropLast_cons_cons, List.dropLast_singleton, List.getLast?_cons_cons, List.getLast?_singleton, Option.toList_some]
    repeat (go_big_quiet_step (first | (go_at_call 55; with_reducible refine (inRel_at n s r ((x : Int) / (m : Int)) ((y : Int) / (m : Int)) (x / m) (y / m) false _ rfl rfl HB1.out h1 h2 hn HR.out.1).mono ?_; rintro e W ⟨rfl, hb⟩; exact ⟨rfl, Wd.on (Wd.ok _) hb⟩)))
    refine wpQuiet_nil ?_
    rintro _ ⟨X, rfl⟩
    have HX := X.ok.out
    go_wp2
    go_ret
    exact ⟨rfl, HX⟩
  | true =>
    have HB1 := Lib.hid hb1
    clear hb1
    cases hb2 : bitAt q (x % m * m + y % m) with
    | false =>
      have HB2 := Lib.hid hb2
      clear hb2
      go_enter Tryd.func54, Tryd.ntmps54
      go_wp2_with fail
      refine flow_last (S := (fun W => Hid (Below w.heap.size w W))) (by kernel_rfl) (by kernel_rfl) (by kernel_rfl) (by kernel_rfl) (by kernel_rfl) (Lib.hid (Below.refl _ _).drew) ?_
      simp only [List.dropLast_cons_cons, List.dropLast_singleton, List.getLast?_cons_cons, List.getLast?_singleton, Option.toList_some]
      repeat (go_big_quiet_step (first | (go_at_call 55; with_reducible refine (inRel_at n s r ((x : Int) / (m : Int)) ((y : Int) / (m : Int)) (x / m) (y / m) true _ rfl rfl HB1.out h1 h2 hn HR.out.1).mono ?_; rintro e W ⟨rfl, hb⟩; exact ⟨rfl, Wd.on (Wd.ok _) hb⟩) | (go_at_call 55; with_reducible refine (inRel_at m t q ((x : Int) % (m : Int)) ((y : Int) % (m : Int)) (x % m) (y % m) false _ rfl rfl HB2.out HR.out.2.1 HR.out.2.2.1 hm.2 HR.out.2.2.2).mono ?_; rintro e W ⟨rfl, hb⟩; exact ⟨rfl, Wd.on (Wd.ok _) hb⟩)))
      refine wpQuiet_nil ?_
      rintro _ ⟨X, rfl⟩
      have HX := X.ok.out
      go_wp2
      go_ret
      exact ⟨rfl, HX⟩
    | true =>
      have HB2 := Lib.hid hb2
      clear hb2
      go_enter Tryd.func54, Tryd.ntmps54
      go_wp2_with fail
      refine flow_last (S := (fun W => Hid (Below w.heap.size w W))) (by kernel_rfl) (by kernel_rfl) (by kernel_rfl) (by kernel_rfl) (by kernel_rfl) (Lib.hid (Below.refl _ _).drew) ?_
      simp only [List.dropLast_cons_cons, List.dropLast_singleton, List.getLast?_cons_cons, List.getLast?_singleton, Option.toList_some]
      repeat (go_big_quiet_step (first | (go_at_call 55; with_reducible refine (inRel_at n s r ((x : Int) / (m : Int)) ((y : Int) / (m : Int)) (x / m) (y / m) true _ rfl rfl HB1.out h1 h2 hn HR.out.1).mono ?_; rintro e W ⟨rfl, hb⟩; exact ⟨rfl, Wd.on (Wd.ok _) hb⟩) | (go_at_call 55; with_reducible refine (inRel_at m t q ((x : Int) % (m : Int)) ((y : Int) % (m : Int)) (x % m) (y % m) true _ rfl rfl HB2.out HR.out.2.1 HR.out.2.2.1 hm.2 HR.out.2.2.2).mono ?_; rintro e W ⟨rfl, hb⟩; exact ⟨rfl, Wd.on (Wd.ok _) hb⟩)))
      refine wpQuiet_nil ?_
      rintro _ ⟨X, rfl⟩
      have HX := X.ok.out
      go_wp2
      go_ret
      exact ⟨rfl, HX⟩

/-- what ProductOf returns -/
def okP (n : Int) (s r : ByteArray) (m : Int) (t q : ByteArray) : Bool := validB n s r && (validB m t q && decide (n * m ≤ 8))
def pSet (s : ByteArray) (m : Nat) (t : ByteArray) (x : Nat) : Bool := bitAt s (x / m) && bitAt t (x % m)
def pRel (n : Nat) (r : ByteArray) (m : Nat) (q : ByteArray) (x y : Nat) : Bool := bitAt r (x / m * n + y / m) && bitAt q (x % m * m + y % m)
def pn (n : Int) (s r : ByteArray) (m : Int) (t q : ByteArray) : Int := if okP n s r m t q = true then n * m else 0
def ps (n : Int) (s r : ByteArray) (m : Int) (t q : ByteArray) : ByteArray := if okP n s r m t q = true then bS (pSet s m.toNat t) (n.toNat * m.toNat) else ⟨#[]⟩
def pr (n : Int) (s r : ByteArray) (m : Int) (t q : ByteArray) : ByteArray := if okP n s r m t q = true then bR (pRel n.toNat r m.toNat q) (n.toNat * m.toNat) (n.toNat * m.toNat) else ⟨#[]⟩
theorem p_no {n : Int} {s r : ByteArray} {m : Int} {t q : ByteArray} (h : okP n s r m t q = false) : pn n s r m t q = 0 ∧ ps n s r m t q = ⟨#[]⟩ ∧ pr n s r m t q = ⟨#[]⟩ := by simp [pn, ps, pr, h]
theorem p_yes {N M : Nat} {s r t q : ByteArray} (h : okP N s r M t q = true) : pn N s r M t q = ((N * M : Nat) : Int) ∧ ps N s r M t q = bS (pSet s M t) (N * M) ∧ pr N s r M t q = bR (pRel N r M q) (N * M) (N * M) := by simp [pn, ps, pr, h]
theorem p_yes_at {N M K : Nat} {s r t q : ByteArray} (hK : K = N * M) (h : okP N s r M t q = true) : pn N s r M t q = (K : Int) ∧ ps N s r M t q = bS (pSet s M t) K ∧ pr N s r M t q = bR (pRel N r M q) K K := by subst hK; exact p_yes h
theorem valid_size {n : Int} {s r : ByteArray} (h : validB n s r = true) : ∃ N : Nat, n = N ∧ 1 ≤ N ∧ N ≤ 8 ∧ s.size = N ∧ r.size = N * N := by
  obtain ⟨⟨h2, h3⟩, hs, hr, _⟩ := validB_iff.1 h
  refine ⟨n.toNat, by omega, by omega, by omega, by omega, ?_⟩
  have e : (n.toNat : Int) = n := by omega
  have : ((n.toNat * n.toNat : Nat) : Int) = n * n := by rw [Int.natCast_mul, e]
  omega

set_option maxHeartbeats 1600000 in
set_option maxRecDepth 100000 in
theorem implProduct_any (n : Int) (s r : ByteArray) (m : Int) (t q : ByteArray) (w : World) (hs : s.size ≤ 9223372036854775807) (hr : r.size ≤ 9223372036854775807) (ht : t.size ≤ 9223372036854775807) (hq : q.size ≤ 9223372036854775807) :
    Calls Tryd.prog 15 #[.agg #[.int .i64 n, .string s, .string r], .agg #[.int .i64 m, .string t, .string q]] w fun e w' => e = .returned (.tuple #[.agg #[.int .i64 (pn n s r m t q), .string (ps n s r m t q), .string (pr n s r m t q)], .bool (okP n s r m t q)]) ∧ Below w.heap.size w w' := by
  have BA : Hid (Box 24 (((w.alloc (.cells #[.int .i64 n, .string s, .string r] 24)).alloc (.cells #[.int .i64 m, .string t, .string q] 24)).alloc (.cells #[.int .i64 0, .string ⟨#[]⟩, .string ⟨#[]⟩] 24)) w.heap.size n s r) := ((Box.new 24 w w.heap.size rfl n s r).below ((Below.refl (w.heap.size + 1) _).alloc (by simp) _) (by omega)).below ((Below.refl (w.heap.size + 1) _).alloc (by simp) _) (by omega)
  have BB : Hid (Box 24 (((w.alloc (.cells #[.int .i64 n, .string s, .string r] 24)).alloc (.cells #[.int .i64 m, .string t, .string q] 24)).alloc (.cells #[.int .i64 0, .string ⟨#[]⟩, .string ⟨#[]⟩] 24)) (w.heap.size + 1) m t q) := (Box.new 24 _ (w.heap.size + 1) (by simp) m t q).below ((Below.refl (w.heap.size + 1 + 1) _).alloc (by simp) _) (by omega)
  have BZ : Hid (Box 24 (((w.alloc (.cells #[.int .i64 n, .string s, .string r] 24)).alloc (.cells #[.int .i64 m, .string t, .string q] 24)).alloc (.cells #[.int .i64 0, .string ⟨#[]⟩, .string ⟨#[]⟩] 24)) (w.heap.size + 1 + 1) 0 ⟨#[]⟩ ⟨#[]⟩) := Box.new 24 _ (w.heap.size + 1 + 1) (by simp) 0 ⟨#[]⟩ ⟨#[]⟩
  obtain ⟨HB, hHB⟩ : ∃ HB, HB = w.heap.size + 1 + 1 + 1 := ⟨_, rfl⟩
  have HBS : Hid ((((w.alloc (.cells #[.int .i64 n, .string s, .string r] 24)).alloc (.cells #[.int .i64 m, .string t, .string q] 24)).alloc (.cells #[.int .i64 0, .string ⟨#[]⟩, .string ⟨#[]⟩] 24)).heap.size = HB) := by rw [hHB]; simp [Hid]
  have AW : Hid (Below w.heap.size w (((w.alloc (.cells #[.int .i64 n, .string s, .string r] 24)).alloc (.cells #[.int .i64 m, .string t, .string q] 24)).alloc (.cells #[.int .i64 0, .string ⟨#[]⟩, .string ⟨#[]⟩] 24))) := (((Below.refl _ _).alloc (Nat.le_refl _) _).alloc (by simp) _).alloc (by simp only [World.size_alloc]; omega) _
  have HHB := Lib.hid hHB
  clear hHB
  have HZ := Lib.hid (show _ ∧ _ ∧ _ ∧ _ from ⟨hs, hr, ht, hq⟩)
  clear hs hr ht hq
  go_enter Tryd.func15, Tryd.ntmps15
  go_wp2_with fail
  refine (isStructure_any n s r _ HZ.out.1 HZ.out.2.1).mono ?_
  rintro e w1 ⟨rfl, hw⟩
  have HX : Hid (Below HB (((w.alloc (.cells #[.int .i64 n, .string s, .string r] 24)).alloc (.cells #[.int .i64 m, .string t, .string q] 24)).alloc (.cells #[.int .i64 0, .string ⟨#[]⟩, .string ⟨#[]⟩] 24)) w1) := hw.mono (by have := HBS.out; omega)
  clear hw
  obtain ⟨a0, a1, a2⟩ := (BA.out.below HX.out (by have := HHB.out; omega)).c
  obtain ⟨b0, b1, b2⟩ := (BB.out.below HX.out (by have := HHB.out; omega)).c
  obtain ⟨z0, z1, z2⟩ := (BZ.out.below HX.out (by have := HHB.out; omega)).c
  have f0 := (BZ.out.below HX.out (by have := HHB.out; omega)).free 0
  have f1 := (BZ.out.below HX.out (by have := HHB.out; omega)).free 1
  have f2 := (BZ.out.below HX.out (by have := HHB.out; omega)).free 2
  cases hv : validB n s r with
  | false =>
    have HE := Lib.hid (p_no (show okP n s r m t q = false by rw [okP, hv]; rfl))
    have HO : Hid (okP n s r m t q = false) := by rw [Hid, okP, hv]; rfl
    clear hv
    have BE := (((BZ.out.below HX.out (by have := HHB.out; omega)).set0 0).set1 ⟨#[]⟩).set2 ⟨#[]⟩
    obtain ⟨e0, e1, e2⟩ := BE.c
    have HF := Lib.hid (show _ ∧ _ ∧ _ from ⟨e0, e1, e2⟩)
    clear e0 e1 e2 BE
    have R := Lib.hid ((((AW.out.trans (HX.out.mono (by have := HHB.out; omega))).setCell (p := ⟨w.heap.size + 1 + 1, 0, none⟩) (by simp; omega) (.int .i64 0)).setCell (p := ⟨w.heap.size + 1 + 1, 1, none⟩) (by simp; omega) (.string ⟨#[]⟩)).setCell (p := ⟨w.heap.size + 1 + 1, 2, none⟩) (by simp; omega) (.string ⟨#[]⟩))
    go_wp2
    exact bodyPost_ret (v := .tuple #[.agg #[.int .i64 0, .string ⟨#[]⟩, .string ⟨#[]⟩], .bool false]) (by simp [results, Tryd.results15, go_sem, HF.out.1, HF.out.2.1, HF.out.2.2]) rfl ⟨by rw [HE.out.1, HE.out.2.1, HE.out.2.2, HO.out], R.out⟩
  | true =>
    have HV1 := Lib.hid hv
    obtain ⟨N, rfl, hN1, hN8, hsN, hrN⟩ := valid_size hv
    have HN := Lib.hid (show _ ∧ _ ∧ _ ∧ _ from ⟨hN1, hN8, hsN, hrN⟩)
    clear hv hsN hrN
    go_wp2_with fail
    refine (isStructure_any m t q _ HZ.out.2.2.1 HZ.out.2.2.2).mono ?_
    rintro e w2 ⟨rfl, hw⟩
    have HX2 : Hid (Below HB (((w.alloc (.cells #[.int .i64 N, .string s, .string r] 24)).alloc (.cells #[.int .i64 m, .string t, .string q] 24)).alloc (.cells #[.int .i64 0, .string ⟨#[]⟩, .string ⟨#[]⟩] 24)) w2) := HX.out.trans (hw.mono (by have := HBS.out; have := HX.out.size; omega))
    clear hw HX a0 a1 a2 b0 b1 b2 z0 z1 z2 f0 f1 f2
    have HX := HX2
    clear HX2
    obtain ⟨a0, a1, a2⟩ := (BA.out.below HX.out (by have := HHB.out; omega)).c
    obtain ⟨b0, b1, b2⟩ := (BB.out.below HX.out (by have := HHB.out; omega)).c
    obtain ⟨z0, z1, z2⟩ := (BZ.out.below HX.out (by have := HHB.out; omega)).c
    have f0 := (BZ.out.below HX.out (by have := HHB.out; omega)).free 0
    have f1 := (BZ.out.below HX.out (by have := HHB.out; omega)).free 1
    have f2 := (BZ.out.below HX.out (by have := HHB.out; omega)).free 2
    cases hv : validB m t q with
    | false =>
      have HE := Lib.hid (p_no (show okP N s r m t q = false by rw [okP, hv]; simp))
      have HO : Hid (okP N s r m t q = false) := by rw [Hid, okP, hv]; simp
      clear hv
      have BE := (((BZ.out.below HX.out (by have := HHB.out; omega)).set0 0).set1 ⟨#[]⟩).set2 ⟨#[]⟩
      obtain ⟨e0, e1, e2⟩ := BE.c
      have HF := Lib.hid (show _ ∧ _ ∧ _ from ⟨e0, e1, e2⟩)
      clear e0 e1 e2 BE
      have R := Lib.hid ((((AW.out.trans (HX.out.mono (by have := HHB.out; omega))).setCell (p := ⟨w.heap.size + 1 + 1, 0, none⟩) (by simp; omega) (.int .i64 0)).setCell (p := ⟨w.heap.size + 1 + 1, 1, none⟩) (by simp; omega) (.string ⟨#[]⟩)).setCell (p := ⟨w.heap.size + 1 + 1, 2, none⟩) (by simp; omega) (.string ⟨#[]⟩))
      go_wp2
      exact bodyPost_ret (v := .tuple #[.agg #[.int .i64 0, .string ⟨#[]⟩, .string ⟨#[]⟩], .bool false]) (by simp [results, Tryd.results15, go_sem, HF.out.1, HF.out.2.1, HF.out.2.2]) rfl ⟨by rw [HE.out.1, HE.out.2.1, HE.out.2.2, HO.out], R.out⟩
    | true =>
      have HV2 := Lib.hid hv
      obtain ⟨M, rfl, hM1, hM8, hsM, hrM⟩ := valid_size hv
      have HM := Lib.hid (show _ ∧ _ ∧ _ ∧ _ from ⟨hM1, hM8, hsM, hrM⟩)
      clear hv hsM hrM
      have hmul : (0 : Int) ≤ (N : Int) * (M : Int) ∧ (N : Int) * (M : Int) ≤ 64 := by
        have : N * M ≤ 8 * 8 := Nat.mul_le_mul hN8 hM8
        exact ⟨Int.mul_nonneg (by omega) (by omega), by rw [← Int.natCast_mul]; omega⟩
      by_cases hk : (N : Int) * (M : Int) ≤ 8
      · have HO : Hid (okP N s r M t q = true) := by rw [Hid, okP, HV1.out, HV2.out]; simpa using hk
        obtain ⟨K, hK⟩ : ∃ K, K = N * M := ⟨_, rfl⟩
        have HE := Lib.hid (p_yes_at hK HO.out)
        have hk8 : K ≤ 8 := by rw [← Int.natCast_mul, ← hK] at hk; omega
        have HK8 := Lib.hid hk8
        have HKK := Lib.hid hK
        clear hk8 hK
        have BAX := Lib.hid (BA.out.below HX.out (by have := HHB.out; omega))
        have BBX := Lib.hid (BB.out.below HX.out (by have := HHB.out; omega))
        have BZX := Lib.hid (BZ.out.below HX.out (by have := HHB.out; omega))
        go_wp2_with fail
        refine (make_at K ((N : Int) * (M : Int)) (by rw [HKK.out, Int.natCast_mul]) HK8.out _ _ _ _ (pSet s M t) (pRel N r M q) _ (enters_of Tryd.func51 (by kernel_rfl) rfl) (enters_of Tryd.func54 (by kernel_rfl) rfl) ?_ ?_).mono ?_
        · intro W hW x hx
          have h1 : x / M < N := Nat.div_lt_of_lt_mul (by rw [Nat.mul_comm, ← HKK.out]; exact hx)
          exact clSet_any N s r M t q w.heap.size (w.heap.size + 1) x W (BAX.out.below hW BAX.out.lt) (BBX.out.below hW BBX.out.lt) ⟨hM1, hM8⟩ (by have := HK8.out; omega) (by rw [HN.out.2.2.1]; exact h1) (by rw [HM.out.2.2.1]; exact Nat.mod_lt _ (by omega)) (by rw [HN.out.2.2.1]; omega) (by rw [HM.out.2.2.1]; omega)
        · intro W hW x y hx hy
          have h1 : x / M < N := Nat.div_lt_of_lt_mul (by rw [Nat.mul_comm, ← HKK.out]; exact hx)
          have h2 : y / M < N := Nat.div_lt_of_lt_mul (by rw [Nat.mul_comm, ← HKK.out]; exact hy)
          exact clRel_any N s r M t q w.heap.size (w.heap.size + 1) x y W (BAX.out.below hW BAX.out.lt) (BBX.out.below hW BBX.out.lt) ⟨hM1, hM8⟩ (by have := HK8.out; omega) (by have := HK8.out; omega) h1 h2 hN8 HN.out.2.2.2 HM.out.2.2.2
        rintro e w3 ⟨rfl, hw⟩
        have HX3 : Hid (Below HB (((w.alloc (.cells #[.int .i64 N, .string s, .string r] 24)).alloc (.cells #[.int .i64 M, .string t, .string q] 24)).alloc (.cells #[.int .i64 0, .string ⟨#[]⟩, .string ⟨#[]⟩] 24)) w3) := HX.out.trans (hw.mono (by have := HBS.out; have := HX.out.size; omega))
        have BZ3 := Lib.hid (BZX.out.below hw BZX.out.lt)
        clear hw HX a0 a1 a2 b0 b1 b2 z0 z1 z2 f0 f1 f2
        obtain ⟨z0, z1, z2⟩ := BZ3.out.c
        have f0 := BZ3.out.free 0
        have f1 := BZ3.out.free 1
        have f2 := BZ3.out.free 2
        have BE := ((BZ3.out.set0 (K : Int)).set1 (bS (pSet s M t) K)).set2 (bR (pRel N r M q) K K)
        obtain ⟨e0, e1, e2⟩ := BE.c
        have HF := Lib.hid (show _ ∧ _ ∧ _ from ⟨e0, e1, e2⟩)
        clear e0 e1 e2 BE
        have R := Lib.hid ((((AW.out.trans (HX3.out.mono (by have := HHB.out; omega))).setCell (p := ⟨w.heap.size + 1 + 1, 0, none⟩) (by simp; omega) (.int .i64 (K : Int))).setCell (p := ⟨w.heap.size + 1 + 1, 1, none⟩) (by simp; omega) (.string (bS (pSet s M t) K))).setCell (p := ⟨w.heap.size + 1 + 1, 2, none⟩) (by simp; omega) (.string (bR (pRel N r M q) K K)))
        go_wp2

        exact bodyPost_ret (v := .tuple #[.agg #[.int .i64 (K : Int), .string (bS (pSet s M t) K), .string (bR (pRel N r M q) K K)], .bool true]) (by simp [results, Tryd.results15, go_sem, HF.out.1, HF.out.2.1, HF.out.2.2]) rfl ⟨by rw [HE.out.1, HE.out.2.1, HE.out.2.2, HO.out], R.out⟩
      · have HE := Lib.hid (p_no (show okP N s r M t q = false by rw [okP]; simp; intros; omega))
        have HO : Hid (okP N s r M t q = false) := by rw [Hid, okP]; simp; intros; omega
        have BE := (((BZ.out.below HX.out (by have := HHB.out; omega)).set0 0).set1 ⟨#[]⟩).set2 ⟨#[]⟩
        obtain ⟨e0, e1, e2⟩ := BE.c
        have HF := Lib.hid (show _ ∧ _ ∧ _ from ⟨e0, e1, e2⟩)
        clear e0 e1 e2 BE
        have R := Lib.hid ((((AW.out.trans (HX.out.mono (by have := HHB.out; omega))).setCell (p := ⟨w.heap.size + 1 + 1, 0, none⟩) (by simp; omega) (.int .i64 0)).setCell (p := ⟨w.heap.size + 1 + 1, 1, none⟩) (by simp; omega) (.string ⟨#[]⟩)).setCell (p := ⟨w.heap.size + 1 + 1, 2, none⟩) (by simp; omega) (.string ⟨#[]⟩))
        go_wp2
        exact bodyPost_ret (v := .tuple #[.agg #[.int .i64 0, .string ⟨#[]⟩, .string ⟨#[]⟩], .bool false]) (by simp [results, Tryd.results15, go_sem, HF.out.1, HF.out.2.1, HF.out.2.2]) rfl ⟨by rw [HE.out.1, HE.out.2.1, HE.out.2.2, HO.out], R.out⟩

/- the reference -/
theorem l1Set_at (n : Int) (s r : ByteArray) (i : Int) (k : Nat) (b : Bool) (w : World) (hi : i = k) (hb : bitAt s k = b) (hx : k < s.size) (hs : s.size ≤ 9223372036854775807) :
    Calls Tryd.prog 125 #[.agg #[.int .i64 n, .string s, .string r], .int .i64 i] w fun e w' => e = .returned (.bool b) ∧ Below w.heap.size w w' := by
  subst hi hb; exact l1Set_any n s r k w hx hs
theorem l1Rel_at (n : Nat) (s r : ByteArray) (i j : Int) (x y : Nat) (b : Bool) (w : World) (hi : i = x) (hj : j = y) (hb : bitAt r (x * n + y) = b) (hx : x < n) (hy : y < n) (hn : n ≤ 8) (hr : r.size = n * n) :
    Calls Tryd.prog 126 #[.agg #[.int .i64 n, .string s, .string r], .int .i64 i, .int .i64 j] w fun e w' => e = .returned (.bool b) ∧ Below w.heap.size w w' := by
  subst hi hj hb; exact l1Rel_any n s r x y w hx hy hn hr
theorem l1Bit_at (b : Bool) (w : World) : Calls Tryd.prog 141 #[.bool b] w fun e w' => e = .returned (.string (bit1 b)) ∧ w' = w := (l1Bit_any b w).mono fun _ _ h => ⟨h.1, h.2.symm⟩

end Go.Proofs.YtpcnoiigbmiejaaDoor.prod

/- InRel of the program at a valid structure's elements. -/
namespace Go.Proofs.YtpcnoiigbmiejaaDoor.inrel
set_option linter.unusedVariables false
set_option linter.unusedSimpArgs false
open Go.ChangeShapes Go.WideShapes Go.ChangeAt Go.RowKit
open Go.Proofs.YtpcnoiigbmiejaaDoor.lib Go.Proofs.YtpcnoiigbmiejaaDoor.st Go.Proofs.YtpcnoiigbmiejaaDoor.base Go.Proofs.YtpcnoiigbmiejaaDoor.near
theorem implValid_any (n : Int) (s r : ByteArray) (w : World) (hs : s.size ≤ 9223372036854775807) (hr : r.size ≤ 9223372036854775807) :
    Calls Tryd.prog 12 #[.agg #[.int .i64 n, .string s, .string r]] w fun e w' => e = .returned (.bool (validB n s r)) ∧ Below w.heap.size w w' := by
  have AW : Hid (Below w.heap.size w (w.alloc (.cells #[.int .i64 n, .string s, .string r] 24))) := (Below.refl _ _).alloc (Nat.le_refl _) _
  go_enter Tryd.func12, Tryd.ntmps12
  go_wp2_with fail
  refine (isStructure_any n s r _ hs hr).mono ?_
  rintro e w1 ⟨rfl, hw⟩
  have AW1 : Hid (Below w.heap.size w w1) := AW.out.trans (hw.mono (by simp))
  clear hw
  go_wp2
  go_ret
  exact ⟨rfl, AW1.out⟩
end Go.Proofs.YtpcnoiigbmiejaaDoor.inrel

/- PairLists and what it leans on: lists of elements, in the program and in the reference. -/
namespace Go.Proofs.YtpcnoiigbmiejaaDoor.pairL
set_option linter.unusedVariables false
set_option linter.unusedSimpArgs false
open Go.ChangeShapes Go.WideShapes Go.ChangeAt Go.RowKit
open Go.Proofs.YtpcnoiigbmiejaaDoor.lib Go.Proofs.YtpcnoiigbmiejaaDoor.st Go.Proofs.YtpcnoiigbmiejaaDoor.base Go.Proofs.YtpcnoiigbmiejaaDoor.make Go.Proofs.YtpcnoiigbmiejaaDoor.flow Go.Proofs.YtpcnoiigbmiejaaDoor.prod Go.Proofs.YtpcnoiigbmiejaaDoor.basic Go.Proofs.YtpcnoiigbmiejaaDoor.near

def elIn (n x : Int) : Bool := decide (0 ≤ x ∧ x < n)
def okL (n : Int) (s r : ByteArray) (l : List Int) : Bool := validB n s r && (decide (l.length ≤ 4) && l.all (elIn n))
def okLs (n : Int) (s r : ByteArray) (la : List Int) (m : Int) (t q : ByteArray) (lb : List Int) : Bool := okL n s r la && (okL m t q lb && decide (la.length = lb.length))

theorem any_take_succ (p : Int → Bool) (l : List Int) (k : Nat) (h : k < l.length) : (l.take (k + 1)).any p = ((l.take k).any p || p (l.getD k 0)) := by
  rw [List.take_succ_eq_append_getElem h, List.any_append]
  simp [List.getD_eq_getElem?_getD, List.getElem?_eq_getElem h]
theorem all_take_succ (p : Int → Bool) (l : List Int) (k : Nat) (h : k < l.length) : (l.take (k + 1)).all p = ((l.take k).all p && p (l.getD k 0)) := by
  rw [List.take_succ_eq_append_getElem h, List.all_append]
  simp [List.getD_eq_getElem?_getD, List.getElem?_eq_getElem h]
theorem all_take_false (p : Int → Bool) (l : List Int) (k : Nat) (h : k < l.length) (hp : p (l.getD k 0) = false) : l.all p = false := by
  rw [List.all_eq_false]
  refine ⟨l.getD k 0, ?_, by rw [hp]; exact Bool.false_ne_true⟩
  rw [List.getD_eq_getElem?_getD, List.getElem?_eq_getElem h]
  exact List.getElem_mem h
theorem any_take_true (p : Int → Bool) (l : List Int) (k : Nat) (h : k < l.length) (hp : p (l.getD k 0) = true) : l.any p = true := by
  rw [List.any_eq_true]
  refine ⟨l.getD k 0, ?_, hp⟩
  rw [List.getD_eq_getElem?_getD, List.getElem?_eq_getElem h]
  exact List.getElem_mem h

/-- the library's search with a test: what matters of it is its sign -/
theorem indexFunc_core (ao : Option Addr) (cap : Nat) (l : List Int) (f : FuncId) (cs : Array Value) (p : Int → Bool) (w : World) (ef : make.Enters f) (hn : l.length ≤ 17592186044416)
    (hr : l = [] ∨ ∃ b off, ao = some ⟨b, off, none⟩ ∧ ∀ i, i < l.length → w.cell? ⟨b, off + i, none⟩ = some (.int .i64 (l.getD i 0)))
    (hf : ∀ W, Below w.heap.size w W → ∀ x : Int, x ∈ l → Calls Tryd.prog f (#[.int .i64 x] ++ cs) W fun e W' => e = .returned (.bool (p x)) ∧ Below W.heap.size W W') :
    Calls Tryd.prog 131 #[.slice ao l.length cap, .func (.func f) #[] cs] w fun e w' => ∃ i : Int, e = .returned (.int .i64 i) ∧ decide (0 ≤ i) = l.any p ∧ Below w.heap.size w w' := by
  unfold make.Enters at ef
  obtain ⟨n, hnl⟩ : ∃ n, n = l.length := ⟨_, rfl⟩
  rw [← hnl] at hn ⊢
  have HN : Hid (n = l.length) := hnl
  have HR := Lib.hid hr
  have HF := Lib.hid hf
  clear hr hnl hf
  go_enter Tryd.func131, Tryd.ntmps131
  go_wp2
  go_loopw [8] (fun i wr => ∃ k : Nat, k ≤ n ∧ i = .int .i64 k ∧ (l.take k).any p = false ∧ Below w.heap.size w wr) (fun i _ => n - (intOf i).toNat)
  case atStart => exact ⟨0, Nat.zero_le _, rfl, rfl, Below.refl _ _⟩
  case round =>
    obtain ⟨k, hk, rfl, hany, hnx⟩ := hrel
    have HA := Lib.hid hany
    have HX := Lib.hid hnx
    clear hany hnx
    by_cases hlt : k < n
    · have hr' : ∃ b off, ao = some ⟨b, off, none⟩ ∧ ∀ i, i < l.length → w.cell? ⟨b, off + i, none⟩ = some (.int .i64 (l.getD i 0)) := by
        rcases HR.out with h | h
        · have := HN.out; rw [h] at this; simp at this; omega
        · exact h
      obtain ⟨b, off, rfl, hc⟩ := hr'
      have hkl : k < l.length := by have := HN.out; omega
      have hcell : wr.cell? ⟨b, off + k, none⟩ = some (.int .i64 (l.getD k 0)) := by
        have hx := hc k hkl
        have hltb := World.block_lt_of_cell? w _ hx
        rw [HX.out.cell (p := ⟨b, off + k, none⟩) hltb]; exact hx
      have hmem : l.getD k 0 ∈ l := by
        rw [List.getD_eq_getElem?_getD, List.getElem?_eq_getElem hkl]
        exact List.getElem_mem hkl
      have HT := Lib.hid (any_take_succ p l k hkl)
      have HT2 := Lib.hid (any_take_true p l k hkl)
      have HM := Lib.hid hmem
      obtain ⟨x, hx⟩ : ∃ x, x = l.getD k 0 := ⟨_, rfl⟩
      have HXX := Lib.hid hx
      rw [← hx] at hcell
      clear hc hkl hmem hx HR
      go_wp2_with fail
      with_reducible show Calls _ f _ _ _
      refine (HF.out _ HX.out x (by rw [HXX.out]; exact HM.out)).mono ?_
      rintro e w1 ⟨rfl, hw⟩
      have HX1 : Hid (Below w.heap.size w w1) := HX.out.trans (hw.mono HX.out.size)
      clear hw hcell
      cases hp : p x with
      | true =>
        have HAA : Hid (l.any p = true) := HT2.out (by rw [← HXX.out]; exact hp)
        clear hp
        go_wp2
        go_ret
        exact ⟨k, rfl, by rw [HAA.out]; simp, HX1.out⟩
      | false =>
        have HAA : Hid ((l.take (k + 1)).any p = false) := by rw [Hid, HT.out, HA.out, ← HXX.out, hp]; rfl
        clear hp
        go_wp2
        go_roundw
        case rel => exact ⟨k + 1, by omega, by go_num, HAA.out, HX1.out⟩
        case measure => simp [intOf]; omega
    · obtain rfl : k = n := by omega
      have HAA : Hid (l.any p = false) := by have h := HA.out; rw [HN.out, List.take_length] at h; exact h
      go_wp2
      go_ret
      exact ⟨-1, rfl, by rw [HAA.out]; rfl, HX.out⟩

theorem containsFunc_core (ao : Option Addr) (cap : Nat) (l : List Int) (f : FuncId) (cs : Array Value) (p : Int → Bool) (w : World) (ef : make.Enters f) (hn : l.length ≤ 17592186044416)
    (hr : l = [] ∨ ∃ b off, ao = some ⟨b, off, none⟩ ∧ ∀ i, i < l.length → w.cell? ⟨b, off + i, none⟩ = some (.int .i64 (l.getD i 0)))
    (hf : ∀ W, Below w.heap.size w W → ∀ x : Int, x ∈ l → Calls Tryd.prog f (#[.int .i64 x] ++ cs) W fun e W' => e = .returned (.bool (p x)) ∧ Below W.heap.size W W') :
    Calls Tryd.prog 167 #[.slice ao l.length cap, .func (.func f) #[] cs] w fun e w' => e = .returned (.bool (l.any p)) ∧ Below w.heap.size w w' := by
  have HC := Lib.hid (indexFunc_core ao cap l f cs p w ef hn hr hf)
  clear hn hr hf ef
  go_enter Tryd.func167, Tryd.ntmps167
  go_wp2_with fail
  refine HC.out.mono ?_
  rintro e w1 ⟨i, rfl, hi, hw⟩
  have HW := Lib.hid hw
  have HI := Lib.hid hi
  clear hw hi
  go_wp2
  go_ret
  exact ⟨by rw [← HI.out]; rfl, HW.out⟩

theorem clEl_any (n : Int) (s r : ByteArray) (x : Int) (Ha : Nat) (w : World) (ha : Box 24 w Ha n s r) :
    Calls Tryd.prog 205 #[.int .i64 x, .pointer (some ⟨Ha, 0, none⟩)] w fun e w' => e = .returned (.bool (!elIn n x)) ∧ Below w.heap.size w w' := by
  obtain ⟨a0, a1, a2⟩ := ha.c
  clear ha
  have BW : Hid (Below w.heap.size w w) := Below.refl _ _
  by_cases h1 : x < 0
  · have HE : Hid (elIn n x = false) := decide_eq_false (by omega)
    go_enter Tryd.func205, Tryd.ntmps205
    go_wp2
    go_ret
    exact ⟨by rw [HE.out]; rfl, BW.out⟩
  · by_cases h2 : x < n
    · have HE : Hid (elIn n x = true) := decide_eq_true (by omega)
      have h3 : ¬ n ≤ x := by omega
      go_enter Tryd.func205, Tryd.ntmps205
      go_wp2
      go_ret
      exact ⟨by rw [HE.out]; rfl, BW.out⟩
    · have HE : Hid (elIn n x = false) := decide_eq_false (by omega)
      have h3 : n ≤ x := by omega
      go_enter Tryd.func205, Tryd.ntmps205
      go_wp2
      go_ret
      exact ⟨by rw [HE.out]; rfl, BW.out⟩

theorem any_not (p : Int → Bool) : ∀ l : List Int, (!(l.any fun x => !p x)) = l.all p
  | [] => rfl
  | a :: l => by rw [List.any_cons, List.all_cons, ← any_not p l]; cases p a <;> simp

theorem areElements_any (n : Int) (s r : ByteArray) (v : Value) (l : List Int) (w : World) (h : Reads w v l) (hn : l.length ≤ 17592186044416) :
    Calls Tryd.prog 187 #[.agg #[.int .i64 n, .string s, .string r], v] w fun e w' => e = .returned (.bool (l.all (elIn n))) ∧ Below w.heap.size w w' := by
  have h1 : Reads (w.alloc (.cells #[.int .i64 n, .string s, .string r] 24)) v l := h.below ((Below.refl w.heap.size w).alloc (Nat.le_refl _) _) (Nat.le_refl _)
  obtain ⟨ao, ca, rfl, hr, _⟩ := h1
  have BA : Hid (Box 24 (w.alloc (.cells #[.int .i64 n, .string s, .string r] 24)) w.heap.size n s r) := Box.new 24 w w.heap.size rfl n s r
  have AW : Hid (Below w.heap.size w (w.alloc (.cells #[.int .i64 n, .string s, .string r] 24))) := (Below.refl _ _).alloc (Nat.le_refl _) _
  have HR := Lib.hid hr
  have HNN := Lib.hid hn
  clear hr h hn
  go_enter Tryd.func187, Tryd.ntmps187
  go_wp2_with fail
  refine (containsFunc_core ao ca l _ _ (fun x => !elIn n x) _ (enters_of Tryd.func205 (by kernel_rfl) rfl) HNN.out HR.out ?_).mono ?_
  · intro W hW x _
    exact clEl_any n s r x w.heap.size W (BA.out.below hW BA.out.lt)
  rintro e w1 ⟨rfl, hw⟩
  have HW := Lib.hid (AW.out.trans (hw.mono AW.out.size))
  clear hw
  go_wp2
  go_ret
  exact ⟨by rw [← any_not]; rfl, HW.out⟩

theorem isList_any (n : Int) (s r : ByteArray) (v : Value) (l : List Int) (w : World) (h : Reads w v l) (hn : l.length ≤ 17592186044416) (hs : s.size ≤ 9223372036854775807) (hr : r.size ≤ 9223372036854775807) :
    Calls Tryd.prog 145 #[.agg #[.int .i64 n, .string s, .string r], v] w fun e w' => e = .returned (.bool (okL n s r l)) ∧ Below w.heap.size w w' := by
  have h1 : Reads (w.alloc (.cells #[.int .i64 n, .string s, .string r] 24)) v l := h.below ((Below.refl w.heap.size w).alloc (Nat.le_refl _) _) (Nat.le_refl _)
  have HR1 := Lib.hid h1
  obtain ⟨ao, ca, hv⟩ := h.len
  subst hv
  have BA : Hid (Box 24 (w.alloc (.cells #[.int .i64 n, .string s, .string r] 24)) w.heap.size n s r) := Box.new 24 w w.heap.size rfl n s r
  have AW : Hid (Below w.heap.size w (w.alloc (.cells #[.int .i64 n, .string s, .string r] 24))) := (Below.refl _ _).alloc (Nat.le_refl _) _
  clear h h1
  have HZ := Lib.hid (show _ ∧ _ ∧ _ from ⟨hs, hr, hn⟩)
  clear hs hr hn
  go_enter Tryd.func145, Tryd.ntmps145
  go_wp2_with fail
  refine (isStructure_any n s r _ HZ.out.1 HZ.out.2.1).mono ?_
  rintro e w1 ⟨rfl, hw⟩
  have HX := Lib.hid hw
  clear hw
  have AW1 : Hid (Below w.heap.size w w1) := AW.out.trans (HX.out.mono AW.out.size)
  have RD1 := Lib.hid (HR1.out.below HX.out (Nat.le_refl _))
  obtain ⟨a0, a1, a2⟩ := (BA.out.below HX.out BA.out.lt).c
  cases hv : validB n s r with
  | false =>
    have HE : Hid (okL n s r l = false) := by rw [Hid, okL, hv]; rfl
    clear hv
    go_wp2
    go_ret
    exact ⟨by rw [HE.out]; rfl, AW1.out⟩
  | true =>
    have HV := Lib.hid hv
    clear hv
    by_cases h4 : l.length ≤ 4
    · go_wp2_with fail
      refine (areElements_any n s r _ l _ RD1.out HZ.out.2.2).mono ?_
      rintro e w2 ⟨rfl, hw⟩
      have HE : Hid (okL n s r l = l.all (elIn n)) := by rw [Hid, okL, HV.out, decide_eq_true h4]; rfl
      have AW2 : Hid (Below w.heap.size w w2) := AW1.out.trans (hw.mono AW1.out.size)
      clear hw
      go_wp2
      go_ret
      exact ⟨by rw [HE.out]; rfl, AW2.out⟩
    · have HE : Hid (okL n s r l = false) := by rw [Hid, okL, HV.out, decide_eq_false h4]; rfl
      go_wp2
      go_ret
      exact ⟨by rw [HE.out]; rfl, AW1.out⟩

theorem beq_len (a b : Nat) : ((a : Int) == (b : Int)) = decide (a = b) := by
  by_cases h : a = b
  · subst h; simp
  · have : ¬ (a : Int) = b := by omega
    simp [h, this]
theorem l1In_at (x lo hi : Int) (hi' : Int) (b : Bool) (h : hi = hi') (hb : inB x lo hi = b) (w : World) :
    Calls Tryd.prog 67 #[.int .i64 x, .int .i64 lo, .int .i64 hi'] w fun e w' => e = .returned (.bool b) ∧ w' = w := by
  subst h hb; exact (l1In_any x lo hi w).mono fun _ _ h => ⟨h.1, h.2.symm⟩
theorem l4_same {n z : Int} {s r : ByteArray} (hz : z = wrap64 (n - 1)) (hv : validB n s r = true) : (fun x => inB x 0 z) = elIn n := by
  have h1 := (validB_iff.1 hv).1
  have : z = n - 1 := by rw [hz, wrap64]; omega
  funext x
  unfold inB elIn
  rw [this]
  congr 1
  exact propext ⟨fun h => ⟨h.1, by omega⟩, fun h => ⟨h.1, by omega⟩⟩
theorem l4_no {n z : Int} {s r : ByteArray} {l : List Int} (hz : z = wrap64 (n - 1)) (h : l.all (fun x => inB x 0 z) = false) : okL n s r l = false := by
  unfold okL
  cases hv : validB n s r with
  | false => rfl
  | true => rw [l4_same hz hv] at h; rw [h]; simp
theorem l4_yes {n z : Int} {s r : ByteArray} {l : List Int} (hz : z = wrap64 (n - 1)) (h : l.all (fun x => inB x 0 z) = true) (hv : validB n s r = true) : okL n s r l = decide (l.length ≤ 4) := by
  unfold okL
  rw [l4_same hz hv] at h
  rw [h, hv]; simp

/-- the reference's test of a list -/
theorem l4List_any (n : Int) (s r : ByteArray) (v : Value) (l : List Int) (w : World) (h : Reads w v l) (hn : l.length ≤ 17592186044416) (hs : s.size ≤ 9223372036854775807) (hr : r.size ≤ 9223372036854775807) :
    Calls Tryd.prog 147 #[.agg #[.int .i64 n, .string s, .string r], v] w fun e w' => e = .returned (.bool (okL n s r l)) ∧ Below w.heap.size w w' := by
  have h1 : Reads (w.alloc (.cells #[.int .i64 n, .string s, .string r] 24)) v l := h.below ((Below.refl w.heap.size w).alloc (Nat.le_refl _) _) (Nat.le_refl _)
  obtain ⟨ao, ca, rfl, hrd, _⟩ := h1
  have BA : Hid (Box 24 (w.alloc (.cells #[.int .i64 n, .string s, .string r] 24)) w.heap.size n s r) := Box.new 24 w w.heap.size rfl n s r
  have AW : Hid (Below w.heap.size w (w.alloc (.cells #[.int .i64 n, .string s, .string r] 24))) := (Below.refl _ _).alloc (Nat.le_refl _) _
  obtain ⟨z, hz⟩ : ∃ z, z = wrap64 (n - 1) := ⟨_, rfl⟩
  have HZZ := Lib.hid hz
  obtain ⟨m, hm⟩ : ∃ m, m = l.length := ⟨_, rfl⟩
  rw [← hm] at hn ⊢
  have HN : Hid (m = l.length) := hm
  have HR := Lib.hid hrd
  have HZ := Lib.hid (show _ ∧ _ from ⟨hs, hr⟩)
  clear hs hr hz hm hrd h
  go_enter Tryd.func147, Tryd.ntmps147
  go_wp2
  go_loopw [5] (fun i wr => ∃ k : Nat, k ≤ m ∧ i = .int .i64 k ∧ (l.take k).all (fun x => inB x 0 z) = true ∧ Below (w.heap.size + 1) (w.alloc (.cells #[.int .i64 n, .string s, .string r] 24)) wr) (fun i _ => m - (intOf i).toNat)
  case atStart => exact ⟨0, Nat.zero_le _, rfl, rfl, Below.refl _ _⟩
  case round =>
    obtain ⟨k, hk, rfl, hall, hnx⟩ := hrel
    have HA := Lib.hid hall
    have HX := Lib.hid hnx
    clear hall hnx
    have BAX := Lib.hid (BA.out.below HX.out (by omega))
    have AX : Hid (Below w.heap.size w wr) := AW.out.trans (HX.out.mono (by omega))
    by_cases hlt : k < m
    · have hr' : ∃ b off, ao = some ⟨b, off, none⟩ ∧ ∀ i, i < l.length → (w.alloc (.cells #[.int .i64 n, .string s, .string r] 24)).cell? ⟨b, off + i, none⟩ = some (.int .i64 (l.getD i 0)) := by
        rcases HR.out with h | h
        · have := HN.out; rw [h] at this; simp at this; omega
        · exact h
      obtain ⟨b, off, rfl, hc⟩ := hr'
      have hkl : k < l.length := by have := HN.out; omega
      have hx0 := hc k hkl
      have hltb := World.block_lt_of_cell? _ _ hx0
      obtain ⟨x, hx⟩ : ∃ x, x = l.getD k 0 := ⟨_, rfl⟩
      have HXX := Lib.hid hx
      have hcell : wr.cell? ⟨b, off + k, none⟩ = some (.int .i64 x) := by
        rw [HX.out.cell (p := ⟨b, off + k, none⟩) (by simpa using hltb), hx]; exact hx0
      have hblt : Hid (b < wr.heap.size) := World.block_lt_of_cell? wr ⟨b, off + k, none⟩ hcell
      have HT := Lib.hid (all_take_succ (fun x => inB x 0 z) l k hkl)
      have HT2 := Lib.hid (all_take_false (fun x => inB x 0 z) l k hkl)
      have cx : ∀ X : Wd (fun W => Hid (Below wr.heap.size wr W)), X.w.cell? ⟨b, off + k, none⟩ = some (.int .i64 x) := fun X => by rw [X.ok.out.cell (p := ⟨b, off + k, none⟩) hblt.out]; exact hcell
      have ca0 : ∀ X : Wd (fun W => Hid (Below wr.heap.size wr W)), X.w.cell? ⟨w.heap.size, 0, none⟩ = some (.int .i64 n) := fun X => (BAX.out.below X.ok.out BAX.out.lt).c.1
      have hne : Nonempty (Wd (fun W => Hid (Below wr.heap.size wr W))) := ⟨⟨wr, Lib.hid (Below.refl _ _)⟩⟩
      clear hc hkl hx HR hx0 hltb hcell
      cases hp : inB x 0 z with
      | false =>
        have HP := Lib.hid hp
        have HAA : Hid (l.all (fun x => inB x 0 z) = false) := HT2.out (by rw [← HXX.out]; exact hp)
        clear hp
        go_wp2_with fail
        refine flow_all (S := (fun W => Hid (Below wr.heap.size wr W))) (by kernel_rfl) (by kernel_rfl) (Lib.hid (Below.refl _ _).drew) ?_
        repeat (go_big_quiet_step (first | (go_at_call 67; with_reducible refine (l1In_at x 0 z _ false HZZ.out HP.out _).mono ?_; rintro e W ⟨rfl, rfl⟩; exact ⟨rfl, _, rfl⟩)))
        refine wpQuiet_nil ?_
        rintro _ ⟨X, rfl⟩
        have HXX := Lib.hid X.ok.out
        go_wp2
        go_ret
        exact ⟨by rw [l4_no HZZ.out HAA.out]; rfl, AX.out.trans (HXX.out.mono AX.out.size)⟩
      | true =>
        have HP := Lib.hid hp
        have HAA : Hid ((l.take (k + 1)).all (fun x => inB x 0 z) = true) := by rw [Hid, HT.out, HA.out, ← HXX.out, hp]; rfl
        clear hp
        go_wp2_with fail
        refine flow_all (S := (fun W => Hid (Below wr.heap.size wr W))) (by kernel_rfl) (by kernel_rfl) (Lib.hid (Below.refl _ _).drew) ?_
        repeat (go_big_quiet_step (first | (go_at_call 67; with_reducible refine (l1In_at x 0 z _ true HZZ.out HP.out _).mono ?_; rintro e W ⟨rfl, rfl⟩; exact ⟨rfl, _, rfl⟩)))
        refine wpQuiet_nil ?_
        rintro _ ⟨X, rfl⟩
        have HXX := Lib.hid X.ok.out
        have R : Hid (Below (w.heap.size + 1) (w.alloc (.cells #[.int .i64 n, .string s, .string r] 24)) X.w) := HX.out.trans (HXX.out.mono (by have := HX.out.size; simpa using this))
        go_wp2
        go_roundw
        case rel => exact ⟨k + 1, by omega, by go_num, HAA.out, R.out⟩
        case measure => simp [intOf]; omega
    · obtain rfl : k = m := by omega
      have HAA : Hid (l.all (fun x => inB x 0 z) = true) := by have h := HA.out; rw [HN.out, List.take_length] at h; exact h
      obtain ⟨a0, a1, a2⟩ := BAX.out.c
      go_wp2_with fail
      refine (StructureValid_any n s r _ HZ.out.1 HZ.out.2).mono ?_
      rintro e w1 ⟨rfl, hw⟩
      have AX1 := Lib.hid (AX.out.trans (hw.mono AX.out.size))
      clear hw
      cases hv : validB n s r with
      | false =>
        have HE : Hid (okL n s r l = false) := by rw [Hid, okL, hv]; rfl
        clear hv
        go_wp2
        go_ret
        exact ⟨by rw [HE.out]; rfl, AX1.out⟩
      | true =>
        have HE0 := Lib.hid (l4_yes HZZ.out HAA.out hv)
        clear hv
        by_cases h4 : k ≤ 4
        · have HE : Hid (okL n s r l = true) := by rw [Hid, HE0.out, ← HN.out, decide_eq_true h4]
          have h5 : (k : Int) ≤ 4 := by omega
          go_wp2
          go_ret
          exact ⟨by rw [HE.out]; rfl, AX1.out⟩
        · have HE : Hid (okL n s r l = false) := by rw [Hid, HE0.out, ← HN.out, decide_eq_false h4]
          have h5 : ¬ (k : Int) ≤ 4 := by omega
          go_wp2
          go_ret
          exact ⟨by rw [HE.out]; exact congrArg (fun b => Ending.returned (.bool b)) (decide_eq_false (by omega)), AX1.out⟩

theorem areLists_any (n : Int) (s r : ByteArray) (va : Value) (la : List Int) (m : Int) (t q : ByteArray) (vb : Value) (lb : List Int) (w : World) (ha : Reads w va la) (hb : Reads w vb lb) (hla : la.length ≤ 17592186044416) (hlb : lb.length ≤ 17592186044416)
    (hs : s.size ≤ 9223372036854775807) (hr : r.size ≤ 9223372036854775807) (ht : t.size ≤ 9223372036854775807) (hq : q.size ≤ 9223372036854775807) :
    Calls Tryd.prog 107 #[.agg #[.int .i64 n, .string s, .string r], va, .agg #[.int .i64 m, .string t, .string q], vb] w fun e w' => e = .returned (.bool (okLs n s r la m t q lb)) ∧ Below w.heap.size w w' := by
  have BB : Hid (Box 24 ((w.alloc (.cells #[.int .i64 n, .string s, .string r] 24)).alloc (.cells #[.int .i64 m, .string t, .string q] 24)) (w.heap.size + 1) m t q) := Box.new 24 _ (w.heap.size + 1) (by simp) m t q
  have AW : Hid (Below w.heap.size w ((w.alloc (.cells #[.int .i64 n, .string s, .string r] 24)).alloc (.cells #[.int .i64 m, .string t, .string q] 24))) := ((Below.refl _ _).alloc (Nat.le_refl _) _).alloc (by simp) _
  have RA := Lib.hid (ha.below AW.out (Nat.le_refl _))
  have RB := Lib.hid (hb.below AW.out (Nat.le_refl _))
  obtain ⟨ao, ca, hva⟩ := ha.len
  obtain ⟨bo, cb, hvb⟩ := hb.len
  subst hva hvb
  have HL := Lib.hid (show _ ∧ _ from ⟨hla, hlb⟩)
  have HZ := Lib.hid (show _ ∧ _ ∧ _ ∧ _ from ⟨hs, hr, ht, hq⟩)
  clear ha hb hla hlb hs hr ht hq
  go_enter Tryd.func107, Tryd.ntmps107
  go_wp2_with fail
  refine (isList_any n s r _ la _ RA.out HL.out.1 HZ.out.1 HZ.out.2.1).mono ?_
  rintro e w1 ⟨rfl, hw⟩
  have HX := Lib.hid hw
  clear hw
  have AK1 : Hid (Below w.heap.size w w1) := AW.out.trans (HX.out.mono AW.out.size)
  have RB1 := Lib.hid (RB.out.below HX.out (Nat.le_refl _))
  obtain ⟨b0, b1, b2⟩ := (BB.out.below HX.out BB.out.lt).c
  cases hv : okL n s r la with
  | false =>
    have HE : Hid (okLs n s r la m t q lb = false) := by rw [Hid, okLs, hv]; rfl
    clear hv
    go_wp2
    go_ret
    exact ⟨by rw [HE.out]; rfl, AK1.out⟩
  | true =>
    have HV := Lib.hid hv
    clear hv
    go_wp2_with fail
    refine (isList_any m t q _ lb _ RB1.out HL.out.2 HZ.out.2.2.1 HZ.out.2.2.2).mono ?_
    rintro e w2 ⟨rfl, hw⟩
    have AK2 : Hid (Below w.heap.size w w2) := AK1.out.trans (hw.mono AK1.out.size)
    clear hw
    cases hv : okL m t q lb with
    | false =>
      have HE : Hid (okLs n s r la m t q lb = false) := by rw [Hid, okLs, HV.out, hv]; rfl
      clear hv
      go_wp2
      go_ret
      exact ⟨by rw [HE.out]; rfl, AK2.out⟩
    | true =>
      have HV2 := Lib.hid hv
      clear hv
      have HE : Hid (okLs n s r la m t q lb = decide (la.length = lb.length)) := by rw [Hid, okLs, HV.out, HV2.out]; rfl
      go_wp2
      go_ret
      exact ⟨by rw [HE.out]; exact congrArg (fun b => Ending.returned (.bool b)) (beq_len _ _), AK2.out⟩

theorem l4Lists_any (n : Int) (s r : ByteArray) (va : Value) (la : List Int) (m : Int) (t q : ByteArray) (vb : Value) (lb : List Int) (w : World) (ha : Reads w va la) (hb : Reads w vb lb) (hla : la.length ≤ 17592186044416) (hlb : lb.length ≤ 17592186044416)
    (hs : s.size ≤ 9223372036854775807) (hr : r.size ≤ 9223372036854775807) (ht : t.size ≤ 9223372036854775807) (hq : q.size ≤ 9223372036854775807) :
    Calls Tryd.prog 109 #[.agg #[.int .i64 n, .string s, .string r], va, .agg #[.int .i64 m, .string t, .string q], vb] w fun e w' => e = .returned (.bool (okLs n s r la m t q lb)) ∧ Below w.heap.size w w' := by
  have BB : Hid (Box 24 ((w.alloc (.cells #[.int .i64 n, .string s, .string r] 24)).alloc (.cells #[.int .i64 m, .string t, .string q] 24)) (w.heap.size + 1) m t q) := Box.new 24 _ (w.heap.size + 1) (by simp) m t q
  have AW : Hid (Below w.heap.size w ((w.alloc (.cells #[.int .i64 n, .string s, .string r] 24)).alloc (.cells #[.int .i64 m, .string t, .string q] 24))) := ((Below.refl _ _).alloc (Nat.le_refl _) _).alloc (by simp) _
  have RA := Lib.hid (ha.below AW.out (Nat.le_refl _))
  have RB := Lib.hid (hb.below AW.out (Nat.le_refl _))
  obtain ⟨ao, ca, hva⟩ := ha.len
  obtain ⟨bo, cb, hvb⟩ := hb.len
  subst hva hvb
  have HL := Lib.hid (show _ ∧ _ from ⟨hla, hlb⟩)
  have HZ := Lib.hid (show _ ∧ _ ∧ _ ∧ _ from ⟨hs, hr, ht, hq⟩)
  clear ha hb hla hlb hs hr ht hq
  go_enter Tryd.func109, Tryd.ntmps109
  go_wp2_with fail
  refine (l4List_any n s r _ la _ RA.out HL.out.1 HZ.out.1 HZ.out.2.1).mono ?_
  rintro e w1 ⟨rfl, hw⟩
  have HX := Lib.hid hw
  clear hw
  have AK1 : Hid (Below w.heap.size w w1) := AW.out.trans (HX.out.mono AW.out.size)
  have RB1 := Lib.hid (RB.out.below HX.out (Nat.le_refl _))
  obtain ⟨b0, b1, b2⟩ := (BB.out.below HX.out BB.out.lt).c
  cases hv : okL n s r la with
  | false =>
    have HE : Hid (okLs n s r la m t q lb = false) := by rw [Hid, okLs, hv]; rfl
    clear hv
    go_wp2
    go_ret
    exact ⟨by rw [HE.out]; rfl, AK1.out⟩
  | true =>
    have HV := Lib.hid hv
    clear hv
    go_wp2_with fail
    refine (l4List_any m t q _ lb _ RB1.out HL.out.2 HZ.out.2.2.1 HZ.out.2.2.2).mono ?_
    rintro e w2 ⟨rfl, hw⟩
    have AK2 : Hid (Below w.heap.size w w2) := AK1.out.trans (hw.mono AK1.out.size)
    clear hw
    cases hv : okL m t q lb with
    | false =>
      have HE : Hid (okLs n s r la m t q lb = false) := by rw [Hid, okLs, HV.out, hv]; rfl
      clear hv
      go_wp2
      go_ret
      exact ⟨by rw [HE.out]; rfl, AK2.out⟩
    | true =>
      have HV2 := Lib.hid hv
      clear hv
      have HE : Hid (okLs n s r la m t q lb = decide (la.length = lb.length)) := by rw [Hid, okLs, HV.out, HV2.out]; rfl
      go_wp2
      go_ret
      exact ⟨by rw [HE.out]; exact congrArg (fun b => Ending.returned (.bool b)) (beq_len _ _), AK2.out⟩

def pairAt (m : Int) (la lb : List Int) (i : Nat) : Int := la.getD i 0 * m + lb.getD i 0
def pairsK (m : Int) (la lb : List Int) (k : Nat) : List Int := (List.range k).map (pairAt m la lb)
/-- what PairLists returns -/
def pairR (n : Int) (s r : ByteArray) (la : List Int) (m : Int) (t q : ByteArray) (lb : List Int) : List Int := if okLs n s r la m t q lb = true then pairsK m la lb la.length else []
theorem pairsK_succ (m : Int) (la lb : List Int) (k : Nat) : pairsK m la lb (k + 1) = pairsK m la lb k ++ [pairAt m la lb k] := by simp [pairsK, List.range_succ]
theorem pairsK_len (m : Int) (la lb : List Int) (k : Nat) : (pairsK m la lb k).length = k := by simp [pairsK]
/-- what is known where the lists are in order -/
theorem okLs_facts {n : Int} {s r : ByteArray} {la : List Int} {m : Int} {t q : ByteArray} {lb : List Int} (h : okLs n s r la m t q lb = true) :
    (1 ≤ m ∧ m ≤ 8) ∧ la.length = lb.length ∧ la.length ≤ 4 ∧ (∀ i, i < la.length → 0 ≤ la.getD i 0 ∧ la.getD i 0 < 8) ∧ (∀ i, i < lb.length → 0 ≤ lb.getD i 0 ∧ lb.getD i 0 < 8) := by
  unfold okLs okL at h
  simp only [Bool.and_eq_true, decide_eq_true_eq] at h
  obtain ⟨⟨h1, h2, h3⟩, ⟨h4, h5, h6⟩, h7⟩ := h
  have v1 := (validB_iff.1 h1).1
  have v2 := (validB_iff.1 h4).1
  refine ⟨v2, h7, h2, fun i hi => ?_, fun i hi => ?_⟩
  · have := List.all_eq_true.1 h3 (la.getD i 0) (by rw [List.getD_eq_getElem?_getD, List.getElem?_eq_getElem hi]; exact List.getElem_mem hi)
    unfold elIn at this
    have := of_decide_eq_true this
    omega
  · have := List.all_eq_true.1 h6 (lb.getD i 0) (by rw [List.getD_eq_getElem?_getD, List.getElem?_eq_getElem hi]; exact List.getElem_mem hi)
    unfold elIn at this
    have := of_decide_eq_true this
    omega
theorem cell_of {w W : World} {ao : Option Addr} {l : List Int} (hr : l = [] ∨ ∃ b off, ao = some ⟨b, off, none⟩ ∧ ∀ i, i < l.length → w.cell? ⟨b, off + i, none⟩ = some (.int .i64 (l.getD i 0))) (hb : Below w.heap.size w W) {k : Nat} (hk : k < l.length) :
    ∃ b off, ao = some ⟨b, off, none⟩ ∧ W.cell? ⟨b, off + k, none⟩ = some (.int .i64 (l.getD k 0)) := by
  rcases hr with rfl | ⟨b, off, ha, hc⟩
  · simp at hk
  · refine ⟨b, off, ha, ?_⟩
    have hx := hc k hk
    rw [hb.cell (p := ⟨b, off + k, none⟩) (World.block_lt_of_cell? w _ hx)]; exact hx
theorem wrap_pair {x m y : Int} (hx : 0 ≤ x ∧ x < 8) (hm : 1 ≤ m ∧ m ≤ 8) (hy : 0 ≤ y ∧ y < 8) : (0 ≤ x * m ∧ x * m ≤ 64) ∧ IntKind.i64.wrap (IntKind.i64.wrap (x * m) + y) = x * m + y ∧ IntKind.i64.wrap (x * m + y) = x * m + y := by
  have a1 : x * m ≤ x * 8 := Int.mul_le_mul_of_nonneg_left hm.2 hx.1
  have a2 : 0 ≤ x * m := Int.mul_nonneg hx.1 (by omega)
  refine ⟨by omega, ?_, ?_⟩
  · rw [IntKind.wrap_i64, IntKind.wrap_i64]; omega
  · rw [IntKind.wrap_i64]; omega

theorem len0 (n : Int) (s r : ByteArray) (la : List Int) (m : Int) (t q : ByteArray) (lb : List Int) : la.length ≤ 1048576 → lb.length ≤ 1048576 → (s.size + r.size) + (t.size + q.size) ≤ 1048576 → (pairR n s r la m t q lb).length ≤ 4194304 := by
  intro h1 _ _
  unfold pairR
  split
  · rw [pairsK_len]; omega
  · simp

end Go.Proofs.YtpcnoiigbmiejaaDoor.pairL

/- The sums, in the program and in the reference. -/
namespace Go.Proofs.YtpcnoiigbmiejaaDoor.sum
set_option linter.unusedVariables false
set_option linter.unusedSimpArgs false
open Go.ChangeShapes Go.WideShapes Go.ChangeAt Go.RowKit
open Go.Proofs.YtpcnoiigbmiejaaDoor.lib Go.Proofs.YtpcnoiigbmiejaaDoor.st Go.Proofs.YtpcnoiigbmiejaaDoor.base Go.Proofs.YtpcnoiigbmiejaaDoor.make Go.Proofs.YtpcnoiigbmiejaaDoor.flow Go.Proofs.YtpcnoiigbmiejaaDoor.prod Go.Proofs.YtpcnoiigbmiejaaDoor.trim Go.Proofs.YtpcnoiigbmiejaaDoor.basic

def sumSet (n : Nat) (s t : ByteArray) (x : Nat) : Bool := if x < n then bitAt s x else bitAt t (x - n)
def sumRel (o : Bool) (n : Nat) (r : ByteArray) (m : Nat) (q : ByteArray) (x y : Nat) : Bool :=
  if x < n ∧ y < n then bitAt r (x * n + y) else if n ≤ x ∧ n ≤ y then bitAt q ((x - n) * m + (y - n)) else o && decide (x < n)
def okS (n : Int) (s r : ByteArray) (m : Int) (t q : ByteArray) : Bool := validB n s r && (validB m t q && decide (n + m ≤ 8))

theorem cell_below {w w' : World} {H C : Nat} {v : Value} (h : w.cell? ⟨H, 0, none⟩ = some v) (hb : Below C w w') (hC : H < C) : w'.cell? ⟨H, 0, none⟩ = some v := by
  rw [hb.cell (p := ⟨H, 0, none⟩) hC]; exact h
theorem cell_new (w : World) (v : Value) (E : TypeId) (H : Nat) (hH : w.heap.size = H) : (w.alloc (.cells #[v] E)).cell? ⟨H, 0, none⟩ = some v := by
  subst hH
  have h := heap_alloc_new w (.cells #[v] E)
  unfold World.cell?
  simp only []
  rw [h]
  rfl
theorem cell_lt {w : World} {H : Nat} {v : Value} (h : w.cell? ⟨H, 0, none⟩ = some v) : H < w.heap.size := World.block_lt_of_cell? w ⟨H, 0, none⟩ h

/-- the bits of a text of bits are the text -/
theorem bS_list (p : Nat → Bool) : ∀ k, (bS p k).data.toList = (List.range k).map fun i => if p i then (49 : UInt8) else 48
  | 0 => rfl
  | k + 1 => by
    rw [bS, ByteArray.data_append, Array.toList_append, bS_list p k, List.range_succ, List.map_append]
    rfl
theorem bits_mem {s : ByteArray} (h : bitsB s = true) (i : Nat) (hi : i < s.size) : s.data.toList.getD i 0 = if bitAt s i then 49 else 48 := by
  have h1 : s.data.toList.getD i 0 ∈ s.data.toList := by
    have hl : i < s.data.toList.length := by simpa using hi
    rw [List.getD_eq_getElem?_getD, List.getElem?_eq_getElem hl]
    exact List.getElem_mem hl
  unfold bitsB at h
  have h2 := List.all_eq_true.1 h _ h1
  unfold bitAt
  generalize s.data.toList.getD i 0 = b at h2 ⊢
  by_cases hb : b = 49
  · subst hb; rfl
  · have : b = 48 := by simpa [hb] using h2
    subst this; rfl
theorem bS_cat {n m : Nat} {s t : ByteArray} (hs : s.size = n) (ht : t.size = m) (bs : bitsB s = true) (bt : bitsB t = true) : bS (sumSet n s t) (n + m) = s ++ t := by
  apply ByteArray.ext
  apply Array.toList_inj.1
  rw [bS_list, ByteArray.data_append, Array.toList_append]
  have l1 : s.data.toList.length = n := by simpa using hs
  have l2 : t.data.toList.length = m := by simpa using ht
  apply List.ext_getElem
  · rw [List.length_map, List.length_range, List.length_append, l1, l2]
  · intro i h1 h2
    simp only [List.getElem_map, List.getElem_range]
    rw [List.getElem_append]
    by_cases h4 : i < n
    · have h3 : i < s.data.toList.length := by omega
      have := bits_mem bs i (by omega)
      rw [List.getD_eq_getElem?_getD, List.getElem?_eq_getElem h3] at this
      rw [dif_pos h3]
      simp only [sumSet, h4, if_true]
      exact this.symm
    · have h3 : ¬ i < s.data.toList.length := by omega
      have h5 : i < n + m := by rw [List.length_map, List.length_range] at h1; exact h1
      have h6 : i - n < t.data.toList.length := by omega
      have := bits_mem bt (i - n) (by omega)
      rw [List.getD_eq_getElem?_getD, List.getElem?_eq_getElem h6] at this
      rw [dif_neg h3]
      simp only [sumSet, h4, if_false]
      rw [← this]
      simp only [Option.getD_some, l1]

set_option maxHeartbeats 1600000 in
theorem clS1_any (n : Nat) (s r : ByteArray) (m : Nat) (t q : ByteArray) (Hn Ha Hb : Nat) (x : Nat) (w : World) (hc : w.cell? ⟨Hn, 0, none⟩ = some (.int .i64 n)) (ha : Box 24 w Ha n s r) (hbx : Box 24 w Hb m t q)
    (hn : n ≤ 8) (hm : m ≤ 8) (hs : s.size = n) (ht : t.size = m) (hx : x < n + m) :
    Calls Tryd.prog 103 #[.int .i64 x, .pointer (some ⟨Hn, 0, none⟩), .pointer (some ⟨Ha, 0, none⟩), .pointer (some ⟨Hb, 0, none⟩)] w fun e w' => e = .returned (.bool (sumSet n s t x)) ∧ Below w.heap.size w w' := by
  obtain ⟨a0, a1, a2⟩ := ha.c
  obtain ⟨b0, b1, b2⟩ := hbx.c
  clear ha hbx
  by_cases hlt : x < n
  · have HP : Hid (sumSet n s t x = bitAt s x) := by rw [Hid, sumSet, if_pos hlt]
    go_enter Tryd.func103, Tryd.ntmps103
    go_wp2_with fail
    refine (inSet_at n s r x x _ _ rfl rfl (by omega) (by omega)).mono ?_
    rintro e w1 ⟨rfl, hw⟩
    have HW := Lib.hid hw
    clear hw
    go_wp2
    go_ret
    exact ⟨by rw [HP.out]; rfl, HW.out⟩
  · have HP : Hid (sumSet n s t x = bitAt t (x - n)) := by rw [Hid, sumSet, if_neg hlt]
    go_enter Tryd.func103, Tryd.ntmps103
    go_wp2_with fail
    refine (inSet_at m t q ((x : Int) - (n : Int)) (x - n) _ _ (by omega) rfl (by omega) (by omega)).mono ?_
    rintro e w1 ⟨rfl, hw⟩
    have HW := Lib.hid hw
    clear hw
    go_wp2
    go_ret
    exact ⟨by rw [HP.out]; rfl, HW.out⟩

set_option maxHeartbeats 1600000 in
theorem clS2_any (o : Bool) (n : Nat) (s r : ByteArray) (m : Nat) (t q : ByteArray) (Hn Ha Hb Ho : Nat) (x y : Nat) (w : World) (hc : w.cell? ⟨Hn, 0, none⟩ = some (.int .i64 n)) (hco : w.cell? ⟨Ho, 0, none⟩ = some (.bool o)) (ha : Box 24 w Ha n s r) (hbx : Box 24 w Hb m t q)
    (hn : n ≤ 8) (hm : m ≤ 8) (hr : r.size = n * n) (hq : q.size = m * m) (hx : x < n + m) (hy : y < n + m) :
    Calls Tryd.prog 104 #[.int .i64 x, .int .i64 y, .pointer (some ⟨Hn, 0, none⟩), .pointer (some ⟨Ha, 0, none⟩), .pointer (some ⟨Hb, 0, none⟩), .pointer (some ⟨Ho, 0, none⟩)] w fun e w' => e = .returned (.bool (sumRel o n r m q x y)) ∧ Below w.heap.size w w' := by
  obtain ⟨a0, a1, a2⟩ := ha.c
  obtain ⟨b0, b1, b2⟩ := hbx.c
  clear ha hbx
  have HR := Lib.hid (show _ ∧ _ from ⟨hr, hq⟩)
  clear hr hq
  have BW : Hid (Below w.heap.size w w) := Below.refl _ _
  by_cases hlt : x < n
  · by_cases hly : y < n
    · have HP : Hid (sumRel o n r m q x y = bitAt r (x * n + y)) := by rw [Hid, sumRel, if_pos ⟨hlt, hly⟩]
      go_enter Tryd.func104, Tryd.ntmps104
      go_wp2_with fail
      refine (inRel_at n s r x y x y _ _ rfl rfl rfl hlt hly hn HR.out.1).mono ?_
      rintro e w1 ⟨rfl, hw⟩
      have HW := Lib.hid hw
      clear hw
      go_wp2
      go_ret
      exact ⟨by rw [HP.out]; rfl, HW.out⟩
    · have HP : Hid (sumRel o n r m q x y = (o && true)) := by rw [Hid, sumRel, if_neg (by omega), if_neg (by omega), decide_eq_true hlt]
      cases o with
      | false =>
        go_enter Tryd.func104, Tryd.ntmps104
        go_wp2
        go_ret
        exact ⟨by rw [HP.out]; rfl, BW.out⟩
      | true =>
        go_enter Tryd.func104, Tryd.ntmps104
        go_wp2
        go_ret
        exact ⟨by rw [HP.out]; rfl, BW.out⟩
  · by_cases hly : y < n
    · have HP : Hid (sumRel o n r m q x y = (o && false)) := by rw [Hid, sumRel, if_neg (by omega), if_neg (by omega), decide_eq_false hlt]
      cases o with
      | false =>
        go_enter Tryd.func104, Tryd.ntmps104
        go_wp2
        go_ret
        exact ⟨by rw [HP.out]; rfl, BW.out⟩
      | true =>
        go_enter Tryd.func104, Tryd.ntmps104
        go_wp2
        go_ret
        exact ⟨by rw [HP.out]; rfl, BW.out⟩
    · have HP : Hid (sumRel o n r m q x y = bitAt q ((x - n) * m + (y - n))) := by rw [Hid, sumRel, if_neg (by omega), if_pos (by omega)]
      go_enter Tryd.func104, Tryd.ntmps104
      go_wp2_with fail
      refine (inRel_at m t q ((x : Int) - (n : Int)) ((y : Int) - (n : Int)) (x - n) (y - n) _ _ (by omega) (by omega) rfl (by omega) (by omega) hm HR.out.2).mono ?_
      rintro e w1 ⟨rfl, hw⟩
      have HW := Lib.hid hw
      clear hw
      go_wp2
      go_ret
      exact ⟨by rw [HP.out]; rfl, HW.out⟩

def sn (n : Int) (s r : ByteArray) (m : Int) (t q : ByteArray) : Int := if okS n s r m t q = true then n + m else 0
def ss (n : Int) (s r : ByteArray) (m : Int) (t q : ByteArray) : ByteArray := if okS n s r m t q = true then s ++ t else ⟨#[]⟩
def sr (o : Bool) (n : Int) (s r : ByteArray) (m : Int) (t q : ByteArray) : ByteArray := if okS n s r m t q = true then bR (sumRel o n.toNat r m.toNat q) (n.toNat + m.toNat) (n.toNat + m.toNat) else ⟨#[]⟩
theorem s_no {n : Int} {s r : ByteArray} {m : Int} {t q : ByteArray} (o : Bool) (h : okS n s r m t q = false) : sn n s r m t q = 0 ∧ ss n s r m t q = ⟨#[]⟩ ∧ sr o n s r m t q = ⟨#[]⟩ := by simp [sn, ss, sr, h]
theorem s_yes {N M K : Nat} {s r t q : ByteArray} (o : Bool) (hK : K = N + M) (h : okS N s r M t q = true) : sn N s r M t q = (K : Int) ∧ ss N s r M t q = s ++ t ∧ sr o N s r M t q = bR (sumRel o N r M q) K K := by
  subst hK
  simp [sn, ss, sr, h]

set_option maxHeartbeats 1600000 in
set_option maxRecDepth 100000 in
theorem sumOf_any (o : Bool) (n : Int) (s r : ByteArray) (m : Int) (t q : ByteArray) (w : World) (hs : s.size ≤ 9223372036854775807) (hr : r.size ≤ 9223372036854775807) (ht : t.size ≤ 9223372036854775807) (hq : q.size ≤ 9223372036854775807) :
    Calls Tryd.prog 50 #[.agg #[.int .i64 n, .string s, .string r], .agg #[.int .i64 m, .string t, .string q], .bool o] w fun e w' => e = .returned (.tuple #[.agg #[.int .i64 (sn n s r m t q), .string (ss n s r m t q), .string (sr o n s r m t q)], .bool (okS n s r m t q)]) ∧ Below w.heap.size w w' := by
  have BA : Hid (Box 24 ((((w.alloc (.cells #[.int .i64 n, .string s, .string r] 24)).alloc (.cells #[.int .i64 m, .string t, .string q] 24)).alloc (.cells #[.bool o] 4)).alloc (.cells #[.int .i64 0, .string ⟨#[]⟩, .string ⟨#[]⟩] 24)) w.heap.size n s r) := (((Box.new 24 w w.heap.size rfl n s r).below ((Below.refl (w.heap.size + 1) _).alloc (by simp) _) (by omega)).below ((Below.refl (w.heap.size + 1) _).alloc (by simp) _) (by omega)).below ((Below.refl (w.heap.size + 1) _).alloc (by simp only [World.size_alloc]; omega) _) (by omega)
  have BB : Hid (Box 24 ((((w.alloc (.cells #[.int .i64 n, .string s, .string r] 24)).alloc (.cells #[.int .i64 m, .string t, .string q] 24)).alloc (.cells #[.bool o] 4)).alloc (.cells #[.int .i64 0, .string ⟨#[]⟩, .string ⟨#[]⟩] 24)) (w.heap.size + 1) m t q) := ((Box.new 24 _ (w.heap.size + 1) (by simp) m t q).below ((Below.refl (w.heap.size + 1 + 1) _).alloc (by simp) _) (by omega)).below ((Below.refl (w.heap.size + 1 + 1) _).alloc (by simp) _) (by omega)
  have CO : Hid (((((w.alloc (.cells #[.int .i64 n, .string s, .string r] 24)).alloc (.cells #[.int .i64 m, .string t, .string q] 24)).alloc (.cells #[.bool o] 4)).alloc (.cells #[.int .i64 0, .string ⟨#[]⟩, .string ⟨#[]⟩] 24)).cell? ⟨w.heap.size + 1 + 1, 0, none⟩ = some (.bool o)) := cell_below (cell_new _ (.bool o) 4 _ (by simp)) ((Below.refl (w.heap.size + 1 + 1 + 1) _).alloc (by simp) _) (by omega)
  have BZ : Hid (Box 24 ((((w.alloc (.cells #[.int .i64 n, .string s, .string r] 24)).alloc (.cells #[.int .i64 m, .string t, .string q] 24)).alloc (.cells #[.bool o] 4)).alloc (.cells #[.int .i64 0, .string ⟨#[]⟩, .string ⟨#[]⟩] 24)) (w.heap.size + 1 + 1 + 1) 0 ⟨#[]⟩ ⟨#[]⟩) := Box.new 24 _ (w.heap.size + 1 + 1 + 1) (by simp) 0 ⟨#[]⟩ ⟨#[]⟩
  obtain ⟨HB, hHB⟩ : ∃ HB, HB = w.heap.size + 1 + 1 + 1 + 1 := ⟨_, rfl⟩
  have HBS : Hid (((((w.alloc (.cells #[.int .i64 n, .string s, .string r] 24)).alloc (.cells #[.int .i64 m, .string t, .string q] 24)).alloc (.cells #[.bool o] 4)).alloc (.cells #[.int .i64 0, .string ⟨#[]⟩, .string ⟨#[]⟩] 24)).heap.size = HB) := by rw [hHB]; simp [Hid]
  have AW : Hid (Below w.heap.size w ((((w.alloc (.cells #[.int .i64 n, .string s, .string r] 24)).alloc (.cells #[.int .i64 m, .string t, .string q] 24)).alloc (.cells #[.bool o] 4)).alloc (.cells #[.int .i64 0, .string ⟨#[]⟩, .string ⟨#[]⟩] 24))) := ((((Below.refl _ _).alloc (Nat.le_refl _) _).alloc (by simp) _).alloc (by simp only [World.size_alloc]; omega) _).alloc (by simp only [World.size_alloc]; omega) _
  have HHB := Lib.hid hHB
  clear hHB
  have HZ := Lib.hid (show _ ∧ _ ∧ _ ∧ _ from ⟨hs, hr, ht, hq⟩)
  clear hs hr ht hq
  go_enter Tryd.func50, Tryd.ntmps50
  go_wp2_with fail
  refine (isStructure_any n s r _ HZ.out.1 HZ.out.2.1).mono ?_
  rintro e w1 ⟨rfl, hw⟩
  have HX : Hid (Below HB ((((w.alloc (.cells #[.int .i64 n, .string s, .string r] 24)).alloc (.cells #[.int .i64 m, .string t, .string q] 24)).alloc (.cells #[.bool o] 4)).alloc (.cells #[.int .i64 0, .string ⟨#[]⟩, .string ⟨#[]⟩] 24)) w1) := hw.mono (by have := HBS.out; omega)
  clear hw
  obtain ⟨a0, a1, a2⟩ := (BA.out.below HX.out (by have := HHB.out; omega)).c
  obtain ⟨b0, b1, b2⟩ := (BB.out.below HX.out (by have := HHB.out; omega)).c
  obtain ⟨z0, z1, z2⟩ := (BZ.out.below HX.out (by have := HHB.out; omega)).c
  have co := cell_below CO.out HX.out (by have := HHB.out; omega)
  have f0 := (BZ.out.below HX.out (by have := HHB.out; omega)).free 0
  have f1 := (BZ.out.below HX.out (by have := HHB.out; omega)).free 1
  have f2 := (BZ.out.below HX.out (by have := HHB.out; omega)).free 2
  cases hv : validB n s r with
  | false =>
    have HE := Lib.hid (s_no o (show okS n s r m t q = false by rw [okS, hv]; rfl))
    have HO : Hid (okS n s r m t q = false) := by rw [Hid, okS, hv]; rfl
    clear hv
    have BE := (((BZ.out.below HX.out (by have := HHB.out; omega)).set0 0).set1 ⟨#[]⟩).set2 ⟨#[]⟩
    obtain ⟨e0, e1, e2⟩ := BE.c
    have HF := Lib.hid (show _ ∧ _ ∧ _ from ⟨e0, e1, e2⟩)
    clear e0 e1 e2 BE
    have R := Lib.hid ((((AW.out.trans (HX.out.mono (by have := HHB.out; omega))).setCell (p := ⟨w.heap.size + 1 + 1 + 1, 0, none⟩) (by simp; omega) (.int .i64 0)).setCell (p := ⟨w.heap.size + 1 + 1 + 1, 1, none⟩) (by simp; omega) (.string ⟨#[]⟩)).setCell (p := ⟨w.heap.size + 1 + 1 + 1, 2, none⟩) (by simp; omega) (.string ⟨#[]⟩))
    go_wp2
    exact bodyPost_ret (v := .tuple #[.agg #[.int .i64 0, .string ⟨#[]⟩, .string ⟨#[]⟩], .bool false]) (by simp [results, Tryd.results50, go_sem, HF.out.1, HF.out.2.1, HF.out.2.2]) rfl ⟨by rw [HE.out.1, HE.out.2.1, HE.out.2.2, HO.out], R.out⟩
  | true =>
    have HV1 := Lib.hid hv
    obtain ⟨N, rfl, hN1, hN8, hsN, hrN⟩ := valid_size hv
    have HN := Lib.hid (show _ ∧ _ ∧ _ ∧ _ from ⟨hN1, hN8, hsN, hrN⟩)
    clear hv hsN hrN
    go_wp2_with fail
    refine (isStructure_any m t q _ HZ.out.2.2.1 HZ.out.2.2.2).mono ?_
    rintro e w2 ⟨rfl, hw⟩
    have HX2 : Hid (Below HB ((((w.alloc (.cells #[.int .i64 N, .string s, .string r] 24)).alloc (.cells #[.int .i64 m, .string t, .string q] 24)).alloc (.cells #[.bool o] 4)).alloc (.cells #[.int .i64 0, .string ⟨#[]⟩, .string ⟨#[]⟩] 24)) w2) := HX.out.trans (hw.mono (by have := HBS.out; have := HX.out.size; omega))
    clear hw HX a0 a1 a2 b0 b1 b2 z0 z1 z2 f0 f1 f2 co
    have HX := HX2
    clear HX2
    obtain ⟨a0, a1, a2⟩ := (BA.out.below HX.out (by have := HHB.out; omega)).c
    obtain ⟨b0, b1, b2⟩ := (BB.out.below HX.out (by have := HHB.out; omega)).c
    obtain ⟨z0, z1, z2⟩ := (BZ.out.below HX.out (by have := HHB.out; omega)).c
    have co := cell_below CO.out HX.out (by have := HHB.out; omega)
    have f0 := (BZ.out.below HX.out (by have := HHB.out; omega)).free 0
    have f1 := (BZ.out.below HX.out (by have := HHB.out; omega)).free 1
    have f2 := (BZ.out.below HX.out (by have := HHB.out; omega)).free 2
    cases hv : validB m t q with
    | false =>
      have HE := Lib.hid (s_no o (show okS N s r m t q = false by rw [okS, hv]; simp))
      have HO : Hid (okS N s r m t q = false) := by rw [Hid, okS, hv]; simp
      clear hv
      have BE := (((BZ.out.below HX.out (by have := HHB.out; omega)).set0 0).set1 ⟨#[]⟩).set2 ⟨#[]⟩
      obtain ⟨e0, e1, e2⟩ := BE.c
      have HF := Lib.hid (show _ ∧ _ ∧ _ from ⟨e0, e1, e2⟩)
      clear e0 e1 e2 BE
      have R := Lib.hid ((((AW.out.trans (HX.out.mono (by have := HHB.out; omega))).setCell (p := ⟨w.heap.size + 1 + 1 + 1, 0, none⟩) (by simp; omega) (.int .i64 0)).setCell (p := ⟨w.heap.size + 1 + 1 + 1, 1, none⟩) (by simp; omega) (.string ⟨#[]⟩)).setCell (p := ⟨w.heap.size + 1 + 1 + 1, 2, none⟩) (by simp; omega) (.string ⟨#[]⟩))
      go_wp2
      exact bodyPost_ret (v := .tuple #[.agg #[.int .i64 0, .string ⟨#[]⟩, .string ⟨#[]⟩], .bool false]) (by simp [results, Tryd.results50, go_sem, HF.out.1, HF.out.2.1, HF.out.2.2]) rfl ⟨by rw [HE.out.1, HE.out.2.1, HE.out.2.2, HO.out], R.out⟩
    | true =>
      have HV2 := Lib.hid hv
      obtain ⟨M, rfl, hM1, hM8, hsM, hrM⟩ := valid_size hv
      have HM := Lib.hid (show _ ∧ _ ∧ _ ∧ _ from ⟨hM1, hM8, hsM, hrM⟩)
      clear hv hsM hrM
      by_cases hk : (N : Int) + (M : Int) ≤ 8
      · have HO : Hid (okS N s r M t q = true) := by rw [Hid, okS, HV1.out, HV2.out]; simpa using hk
        obtain ⟨K, hK⟩ : ∃ K, K = N + M := ⟨_, rfl⟩
        have HE := Lib.hid (s_yes o hK HO.out)
        have hk8 : K ≤ 8 := by omega
        have HK8 := Lib.hid hk8
        have HKK := Lib.hid hK
        clear hk8 hK
        have HBIT := Lib.hid (bS_cat (s := s) (t := t) HN.out.2.2.1 HM.out.2.2.1 (validB_iff.1 HV1.out).2.2.2.1 (validB_iff.1 HV2.out).2.2.2.1)
        have HXN : Hid (Below w2.heap.size w2 (w2.alloc (.cells #[.int .i64 N] 3))) := (Below.refl _ _).alloc (Nat.le_refl _) _
        have BAX := Lib.hid ((BA.out.below HX.out (by have := HHB.out; omega)).below HXN.out (by have := HX.out.size; have := HBS.out; have := HHB.out; omega))
        have BBX := Lib.hid ((BB.out.below HX.out (by have := HHB.out; omega)).below HXN.out (by have := HX.out.size; have := HBS.out; have := HHB.out; omega))
        have BZX := Lib.hid ((BZ.out.below HX.out (by have := HHB.out; omega)).below HXN.out (by have := HX.out.size; have := HBS.out; have := HHB.out; omega))
        have COX := Lib.hid (cell_below (cell_below CO.out HX.out (by have := HHB.out; omega)) HXN.out (by have := HX.out.size; have := HBS.out; have := HHB.out; omega))
        have CNX : Hid ((w2.alloc (.cells #[.int .i64 N] 3)).cell? ⟨w2.heap.size, 0, none⟩ = some (.int .i64 N)) := cell_new _ _ _ _ rfl
        obtain ⟨a3, a4, a5⟩ := BAX.out.c
        obtain ⟨b3, b4, b5⟩ := BBX.out.c
        have cn := CNX.out
        go_wp2_with fail
        clear a3 a4 a5 b3 b4 b5 cn
        refine (make_at K ((N : Int) + (M : Int)) (by rw [HKK.out]; omega) HK8.out _ _ _ _ (sumSet N s t) (sumRel o N r M q) _ (enters_of Tryd.func103 (by kernel_rfl) rfl) (enters_of Tryd.func104 (by kernel_rfl) rfl) ?_ ?_).mono ?_
        · intro W hW x hx
          exact clS1_any N s r M t q w2.heap.size w.heap.size (w.heap.size + 1) x W (cell_below CNX.out hW (cell_lt CNX.out)) (BAX.out.below hW BAX.out.lt) (BBX.out.below hW BBX.out.lt) hN8 hM8 HN.out.2.2.1 HM.out.2.2.1 (by have := HKK.out; omega)
        · intro W hW x y hx hy
          exact clS2_any o N s r M t q w2.heap.size w.heap.size (w.heap.size + 1) (w.heap.size + 1 + 1) x y W (cell_below CNX.out hW (cell_lt CNX.out)) (cell_below COX.out hW (cell_lt COX.out)) (BAX.out.below hW BAX.out.lt) (BBX.out.below hW BBX.out.lt) hN8 hM8 HN.out.2.2.2 HM.out.2.2.2 (by have := HKK.out; omega) (by have := HKK.out; omega)
        rintro e w3 ⟨rfl, hw⟩
        have HX3 : Hid (Below HB ((((w.alloc (.cells #[.int .i64 N, .string s, .string r] 24)).alloc (.cells #[.int .i64 M, .string t, .string q] 24)).alloc (.cells #[.bool o] 4)).alloc (.cells #[.int .i64 0, .string ⟨#[]⟩, .string ⟨#[]⟩] 24)) w3) := (HX.out.trans (HXN.out.mono (by have := HBS.out; have := HX.out.size; omega))).trans (hw.mono (by have := HBS.out; have := HX.out.size; simp only [World.size_alloc]; omega))
        have BZ3 := Lib.hid (BZX.out.below hw BZX.out.lt)
        clear hw HX a0 a1 a2 b0 b1 b2 z0 z1 z2 f0 f1 f2 co
        obtain ⟨z0, z1, z2⟩ := BZ3.out.c
        have f0 := BZ3.out.free 0
        have f1 := BZ3.out.free 1
        have f2 := BZ3.out.free 2
        have BE := ((BZ3.out.set0 (K : Int)).set1 (bS (sumSet N s t) K)).set2 (bR (sumRel o N r M q) K K)
        obtain ⟨e0, e1, e2⟩ := BE.c
        have HF := Lib.hid (show _ ∧ _ ∧ _ from ⟨e0, e1, e2⟩)
        clear e0 e1 e2 BE
        have R := Lib.hid ((((AW.out.trans (HX3.out.mono (by have := HHB.out; omega))).setCell (p := ⟨w.heap.size + 1 + 1 + 1, 0, none⟩) (by simp; omega) (.int .i64 (K : Int))).setCell (p := ⟨w.heap.size + 1 + 1 + 1, 1, none⟩) (by simp; omega) (.string (bS (sumSet N s t) K))).setCell (p := ⟨w.heap.size + 1 + 1 + 1, 2, none⟩) (by simp; omega) (.string (bR (sumRel o N r M q) K K)))
        go_wp2
        exact bodyPost_ret (v := .tuple #[.agg #[.int .i64 (K : Int), .string (bS (sumSet N s t) K), .string (bR (sumRel o N r M q) K K)], .bool true]) (by simp [results, Tryd.results50, go_sem, HF.out.1, HF.out.2.1, HF.out.2.2]) rfl ⟨by rw [HE.out.1, HE.out.2.1, HE.out.2.2, HO.out, ← HBIT.out, HKK.out], R.out⟩
      · have HE := Lib.hid (s_no o (show okS N s r M t q = false by rw [okS]; simp; intros; omega))
        have HO : Hid (okS N s r M t q = false) := by rw [Hid, okS]; simp; intros; omega
        have BE := (((BZ.out.below HX.out (by have := HHB.out; omega)).set0 0).set1 ⟨#[]⟩).set2 ⟨#[]⟩
        obtain ⟨e0, e1, e2⟩ := BE.c
        have HF := Lib.hid (show _ ∧ _ ∧ _ from ⟨e0, e1, e2⟩)
        clear e0 e1 e2 BE
        have R := Lib.hid ((((AW.out.trans (HX.out.mono (by have := HHB.out; omega))).setCell (p := ⟨w.heap.size + 1 + 1 + 1, 0, none⟩) (by simp; omega) (.int .i64 0)).setCell (p := ⟨w.heap.size + 1 + 1 + 1, 1, none⟩) (by simp; omega) (.string ⟨#[]⟩)).setCell (p := ⟨w.heap.size + 1 + 1 + 1, 2, none⟩) (by simp; omega) (.string ⟨#[]⟩))
        go_wp2
        exact bodyPost_ret (v := .tuple #[.agg #[.int .i64 0, .string ⟨#[]⟩, .string ⟨#[]⟩], .bool false]) (by simp [results, Tryd.results50, go_sem, HF.out.1, HF.out.2.1, HF.out.2.2]) rfl ⟨by rw [HE.out.1, HE.out.2.1, HE.out.2.2, HO.out], R.out⟩

set_option maxHeartbeats 1600000 in
theorem implDisjointSum_any (n : Int) (s r : ByteArray) (m : Int) (t q : ByteArray) (w : World) (hs : s.size ≤ 9223372036854775807) (hr : r.size ≤ 9223372036854775807) (ht : t.size ≤ 9223372036854775807) (hq : q.size ≤ 9223372036854775807) :
    Calls Tryd.prog 13 #[.agg #[.int .i64 n, .string s, .string r], .agg #[.int .i64 m, .string t, .string q]] w fun e w' => e = .returned (.tuple #[.agg #[.int .i64 (sn n s r m t q), .string (ss n s r m t q), .string (sr false n s r m t q)], .bool (okS n s r m t q)]) ∧ Below w.heap.size w w' := by
  have BZ : Hid (Box 24 (((w.alloc (.cells #[.int .i64 n, .string s, .string r] 24)).alloc (.cells #[.int .i64 m, .string t, .string q] 24)).alloc (.cells #[.int .i64 0, .string ⟨#[]⟩, .string ⟨#[]⟩] 24)) (w.heap.size + 1 + 1) 0 ⟨#[]⟩ ⟨#[]⟩) := Box.new 24 _ (w.heap.size + 1 + 1) (by simp) 0 ⟨#[]⟩ ⟨#[]⟩
  have AW : Hid (Below w.heap.size w (((w.alloc (.cells #[.int .i64 n, .string s, .string r] 24)).alloc (.cells #[.int .i64 m, .string t, .string q] 24)).alloc (.cells #[.int .i64 0, .string ⟨#[]⟩, .string ⟨#[]⟩] 24))) := (((Below.refl _ _).alloc (Nat.le_refl _) _).alloc (by simp) _).alloc (by simp only [World.size_alloc]; omega) _
  have HZ := Lib.hid (show _ ∧ _ ∧ _ ∧ _ from ⟨hs, hr, ht, hq⟩)
  clear hs hr ht hq
  go_enter Tryd.func13, Tryd.ntmps13
  go_wp2_with fail
  refine (sumOf_any false n s r m t q _ HZ.out.1 HZ.out.2.1 HZ.out.2.2.1 HZ.out.2.2.2).mono ?_
  rintro e w1 ⟨rfl, hw⟩
  have HX := Lib.hid hw
  clear hw
  have BZ1 := Lib.hid (BZ.out.below HX.out BZ.out.lt)
  obtain ⟨z0, z1, z2⟩ := BZ1.out.c
  have f0 := BZ1.out.free 0
  have f1 := BZ1.out.free 1
  have f2 := BZ1.out.free 2
  obtain ⟨e0, e1, e2⟩ := (((BZ1.out.set0 (sn n s r m t q)).set1 (ss n s r m t q)).set2 (sr false n s r m t q)).c
  have HF := Lib.hid (show _ ∧ _ ∧ _ from ⟨e0, e1, e2⟩)
  clear e0 e1 e2
  have R := Lib.hid ((((AW.out.trans (HX.out.mono AW.out.size)).setCell (p := ⟨w.heap.size + 1 + 1, 0, none⟩) (by simp; omega) (.int .i64 (sn n s r m t q))).setCell (p := ⟨w.heap.size + 1 + 1, 1, none⟩) (by simp; omega) (.string (ss n s r m t q))).setCell (p := ⟨w.heap.size + 1 + 1, 2, none⟩) (by simp; omega) (.string (sr false n s r m t q)))
  go_wp2
  exact bodyPost_ret (v := .tuple #[.agg #[.int .i64 (sn n s r m t q), .string (ss n s r m t q), .string (sr false n s r m t q)], .bool (okS n s r m t q)]) (by simp [results, Tryd.results13, go_sem, HF.out.1, HF.out.2.1, HF.out.2.2]) rfl ⟨rfl, R.out⟩

theorem disj.implE (n : Int) (s r : ByteArray) (m : Int) (t q : ByteArray) (_ : (Lit.int .i64 n).wf = true) (_ : (Lit.int .i64 m).wf = true) : s.size + r.size + (t.size + q.size) ≤ 1048576 → ∀ (w : World),
    Calls Tryd.prog 13 #[.agg #[.int .i64 n, .string s, .string r], .agg #[.int .i64 m, .string t, .string q]] w fun e w' => e = .returned (.tuple #[.agg #[.int .i64 (sn n s r m t q), .string (ss n s r m t q), .string (sr false n s r m t q)], .bool (okS n s r m t q)]) ∧ Below w.heap.size w w' :=
  fun h w => implDisjointSum_any n s r m t q w (by omega) (by omega) (by omega) (by omega)

set_option maxHeartbeats 1600000 in
theorem implOrderedSum_any (n : Int) (s r : ByteArray) (m : Int) (t q : ByteArray) (w : World) (hs : s.size ≤ 9223372036854775807) (hr : r.size ≤ 9223372036854775807) (ht : t.size ≤ 9223372036854775807) (hq : q.size ≤ 9223372036854775807) :
    Calls Tryd.prog 14 #[.agg #[.int .i64 n, .string s, .string r], .agg #[.int .i64 m, .string t, .string q]] w fun e w' => e = .returned (.tuple #[.agg #[.int .i64 (sn n s r m t q), .string (ss n s r m t q), .string (sr true n s r m t q)], .bool (okS n s r m t q)]) ∧ Below w.heap.size w w' := by
  have BZ : Hid (Box 24 (((w.alloc (.cells #[.int .i64 n, .string s, .string r] 24)).alloc (.cells #[.int .i64 m, .string t, .string q] 24)).alloc (.cells #[.int .i64 0, .string ⟨#[]⟩, .string ⟨#[]⟩] 24)) (w.heap.size + 1 + 1) 0 ⟨#[]⟩ ⟨#[]⟩) := Box.new 24 _ (w.heap.size + 1 + 1) (by simp) 0 ⟨#[]⟩ ⟨#[]⟩
  have AW : Hid (Below w.heap.size w (((w.alloc (.cells #[.int .i64 n, .string s, .string r] 24)).alloc (.cells #[.int .i64 m, .string t, .string q] 24)).alloc (.cells #[.int .i64 0, .string ⟨#[]⟩, .string ⟨#[]⟩] 24))) := (((Below.refl _ _).alloc (Nat.le_refl _) _).alloc (by simp) _).alloc (by simp only [World.size_alloc]; omega) _
  have HZ := Lib.hid (show _ ∧ _ ∧ _ ∧ _ from ⟨hs, hr, ht, hq⟩)
  clear hs hr ht hq
  go_enter Tryd.func14, Tryd.ntmps14
  go_wp2_with fail
  refine (sumOf_any true n s r m t q _ HZ.out.1 HZ.out.2.1 HZ.out.2.2.1 HZ.out.2.2.2).mono ?_
  rintro e w1 ⟨rfl, hw⟩
  have HX := Lib.hid hw
  clear hw
  have BZ1 := Lib.hid (BZ.out.below HX.out BZ.out.lt)
  obtain ⟨z0, z1, z2⟩ := BZ1.out.c
  have f0 := BZ1.out.free 0
  have f1 := BZ1.out.free 1
  have f2 := BZ1.out.free 2
  obtain ⟨e0, e1, e2⟩ := (((BZ1.out.set0 (sn n s r m t q)).set1 (ss n s r m t q)).set2 (sr true n s r m t q)).c
  have HF := Lib.hid (show _ ∧ _ ∧ _ from ⟨e0, e1, e2⟩)
  clear e0 e1 e2
  have R := Lib.hid ((((AW.out.trans (HX.out.mono AW.out.size)).setCell (p := ⟨w.heap.size + 1 + 1, 0, none⟩) (by simp; omega) (.int .i64 (sn n s r m t q))).setCell (p := ⟨w.heap.size + 1 + 1, 1, none⟩) (by simp; omega) (.string (ss n s r m t q))).setCell (p := ⟨w.heap.size + 1 + 1, 2, none⟩) (by simp; omega) (.string (sr true n s r m t q)))
  go_wp2
  exact bodyPost_ret (v := .tuple #[.agg #[.int .i64 (sn n s r m t q), .string (ss n s r m t q), .string (sr true n s r m t q)], .bool (okS n s r m t q)]) (by simp [results, Tryd.results14, go_sem, HF.out.1, HF.out.2.1, HF.out.2.2]) rfl ⟨rfl, R.out⟩

theorem ordr.implE (n : Int) (s r : ByteArray) (m : Int) (t q : ByteArray) (_ : (Lit.int .i64 n).wf = true) (_ : (Lit.int .i64 m).wf = true) : s.size + r.size + (t.size + q.size) ≤ 1048576 → ∀ (w : World),
    Calls Tryd.prog 14 #[.agg #[.int .i64 n, .string s, .string r], .agg #[.int .i64 m, .string t, .string q]] w fun e w' => e = .returned (.tuple #[.agg #[.int .i64 (sn n s r m t q), .string (ss n s r m t q), .string (sr true n s r m t q)], .bool (okS n s r m t q)]) ∧ Below w.heap.size w w' :=
  fun h w => implOrderedSum_any n s r m t q w (by omega) (by omega) (by omega) (by omega)

end Go.Proofs.YtpcnoiigbmiejaaDoor.sum

/- Bits of texts that are made bit by bit: plain words. -/
namespace Go.Proofs.YtpcnoiigbmiejaaDoor.val
set_option linter.unusedVariables false
set_option linter.unusedSimpArgs false
open Go.Proofs.YtpcnoiigbmiejaaDoor.base Go.Proofs.YtpcnoiigbmiejaaDoor.make Go.Proofs.YtpcnoiigbmiejaaDoor.sum Go.Proofs.YtpcnoiigbmiejaaDoor.trim Go.Proofs.YtpcnoiigbmiejaaDoor.prod

def byteOf (b : Bool) : UInt8 := if b then 49 else 48
theorem byteOf_eq (b : Bool) : (byteOf b == 49) = b := by cases b <;> decide
theorem byteOf_bit (b : Bool) : (byteOf b == 48 || byteOf b == 49) = true := by cases b <;> decide
theorem toList_append (s t : ByteArray) : (s ++ t).data.toList = s.data.toList ++ t.data.toList := by simp
theorem bRow_list (acc : ByteArray) (q : Nat → Bool) : ∀ k, (bRow acc q k).data.toList = acc.data.toList ++ (List.range k).map fun y => byteOf (q y)
  | 0 => by simp [bRow]
  | k + 1 => by
    rw [bRow, toList_append, bRow_list acc q k, List.range_succ, List.map_append, List.append_assoc]
    rfl
theorem bR_list (q : Nat → Nat → Bool) (n : Nat) : ∀ k, (bR q n k).data.toList = (List.range k).flatMap fun x => (List.range n).map fun y => byteOf (q x y)
  | 0 => by simp [bR]
  | k + 1 => by
    rw [bR, bRow_list, bR_list q n k, List.range_succ, List.flatMap_append]
    simp
theorem bS_list' (p : Nat → Bool) (k : Nat) : (bS p k).data.toList = (List.range k).map fun i => byteOf (p i) := bS_list p k
theorem bits_bS (p : Nat → Bool) (k : Nat) : bitsB (bS p k) = true := by
  unfold bitsB
  rw [bS_list', List.all_eq_true]
  intro b hb
  obtain ⟨i, _, rfl⟩ := List.mem_map.1 hb
  exact byteOf_bit _
theorem bits_bR (q : Nat → Nat → Bool) (n k : Nat) : bitsB (bR q n k) = true := by
  unfold bitsB
  rw [bR_list, List.all_eq_true]
  intro b hb
  obtain ⟨x, _, hx⟩ := List.mem_flatMap.1 hb
  obtain ⟨y, _, rfl⟩ := List.mem_map.1 hx
  exact byteOf_bit _
theorem bits_app {s t : ByteArray} (hs : bitsB s = true) (ht : bitsB t = true) : bitsB (s ++ t) = true := by
  unfold bitsB at *
  rw [toList_append, List.all_append, hs, ht]; rfl
theorem bit_bS {p : Nat → Bool} {k i : Nat} (h : i < k) : bitAt (bS p k) i = p i := by
  unfold bitAt
  rw [bS_list', List.getD_eq_getElem?_getD]
  simp [h, byteOf_eq]
theorem bit_bR {q : Nat → Nat → Bool} {n k x y : Nat} (hx : x < k) (hy : y < n) : bitAt (bR q n k) (x * n + y) = q x y := by
  unfold bitAt
  rw [bR_list, List.getD_eq_getElem?_getD]
  have : ∀ k, x < k → ((List.range k).flatMap fun x => (List.range n).map fun y => byteOf (q x y))[x * n + y]? = some (byteOf (q x y)) := by
    intro k
    induction k with
    | zero => intro h; omega
    | succ k ih =>
      intro h
      have hlen : ∀ k, ((List.range k).flatMap fun x => (List.range n).map fun y => byteOf (q x y)).length = k * n := by
        intro k
        induction k with
        | zero => simp
        | succ k ih => rw [List.range_succ, List.flatMap_append, List.length_append, ih]; simp [Nat.succ_mul]
      rw [List.range_succ, List.flatMap_append]
      by_cases hk : x < k
      · rw [List.getElem?_append_left (by rw [hlen]; have : (x + 1) * n ≤ k * n := Nat.mul_le_mul_right n hk; rw [Nat.succ_mul] at this; omega)]
        exact ih hk
      · obtain rfl : x = k := by omega
        rw [List.getElem?_append_right (by rw [hlen]; omega), hlen, Nat.add_sub_cancel_left]
        simp [hy]
  rw [this k hx]
  simp [byteOf_eq]
theorem bit_app {s t : ByteArray} {i : Nat} : bitAt (s ++ t) i = if i < s.size then bitAt s i else bitAt t (i - s.size) := by
  unfold bitAt
  rw [toList_append]
  have e : s.data.toList.length = s.size := by simp
  by_cases h : i < s.size
  · rw [if_pos h, List.getD_eq_getElem?_getD, List.getD_eq_getElem?_getD, List.getElem?_append_left (by rw [e]; exact h)]
  · rw [if_neg h, List.getD_eq_getElem?_getD, List.getD_eq_getElem?_getD, List.getElem?_append_right (by rw [e]; omega), e]
/-- texts of bits are known by their bits -/
theorem bits_ext {s t : ByteArray} (hs : bitsB s = true) (ht : bitsB t = true) (hz : s.size = t.size) (h : ∀ i, i < s.size → bitAt s i = bitAt t i) : s = t := by
  have : s.data.toList = t.data.toList := by
    apply List.ext_getElem (by simpa using hz)
    intro i h1 h2
    have hi : i < s.size := by simpa using h1
    have a := bits_mem hs i hi
    have b := bits_mem ht i (by omega)
    rw [List.getD_eq_getElem?_getD, List.getElem?_eq_getElem h1, Option.getD_some] at a
    rw [List.getD_eq_getElem?_getD, List.getElem?_eq_getElem h2, Option.getD_some] at b
    rw [a, b, h i hi]
  have h2 : s.data = t.data := Array.toList_inj.1 this
  cases s; cases t; simp at h2; rw [h2]
/-- a relation's text is known by its pairs -/
theorem rel_ext {n : Nat} {s t : ByteArray} (hs : bitsB s = true) (ht : bitsB t = true) (hz : s.size = n * n) (hz2 : t.size = n * n) (h : ∀ x y, x < n → y < n → bitAt s (x * n + y) = bitAt t (x * n + y)) : s = t := by
  refine bits_ext hs ht (by omega) fun i hi => ?_
  rw [hz] at hi
  have hn : 0 < n := by
    cases n with
    | zero => simp at hi
    | succ n => omega
  have e : i / n * n + i % n = i := by rw [Nat.mul_comm]; exact Nat.div_add_mod i n
  have := h (i / n) (i % n) (Nat.div_lt_of_lt_mul hi) (Nat.mod_lt i hn)
  rwa [e] at this
/-- a structure that is made is valid -/
theorem valid_made {n : Nat} (p : Nat → Bool) (q : Nat → Nat → Bool) (h1 : 1 ≤ n) (h8 : n ≤ 8) : validB n (bS p n) (bR q n n) = true :=
  validB_iff.2 ⟨⟨by omega, by omega⟩, by rw [bS_size], by rw [bR_size]; simp, bits_bS _ _, bits_bR _ _ _⟩
/-- the sum is valid -/
theorem valid_sum {o : Bool} {N M : Nat} {s r t q : ByteArray} (hv : validB N s r = true) (hw : validB M t q = true) (h8 : N + M ≤ 8) : validB ((N + M : Nat) : Int) (s ++ t) (bR (sumRel o N r M q) (N + M) (N + M)) = true := by
  obtain ⟨⟨a1, a2⟩, a3, a4, a5, a6⟩ := validB_iff.1 hv
  obtain ⟨⟨b1, b2⟩, b3, b4, b5, b6⟩ := validB_iff.1 hw
  refine validB_iff.2 ⟨⟨by omega, by omega⟩, ?_, by rw [bR_size]; simp, bits_app a5 b5, bits_bR _ _ _⟩
  rw [ByteArray.size_append]; omega
end Go.Proofs.YtpcnoiigbmiejaaDoor.val
