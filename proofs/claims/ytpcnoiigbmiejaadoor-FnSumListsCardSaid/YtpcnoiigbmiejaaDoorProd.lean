/- ProductOf, in the program and in the reference. -/
import Derived.Test.YtpcnoiigbmiejaaDoorRows
import Derived.Test.YtpcnoiigbmiejaaDoorBase
import Derived.Test.YtpcnoiigbmiejaaDoorMake
import Derived.Test.YtpcnoiigbmiejaaDoorFlow
namespace Go.Proofs.YtpcnoiigbmiejaaDoor.prod
set_option linter.unusedVariables false
set_option linter.unusedSimpArgs false
open Go.ChangeShapes Go.WideShapes Go.ChangeAt Go.RowKit
open Go.Proofs.YtpcnoiigbmiejaaDoor.lib Go.Proofs.YtpcnoiigbmiejaaDoor.st Go.Proofs.YtpcnoiigbmiejaaDoor.base Go.Proofs.YtpcnoiigbmiejaaDoor.make Go.Proofs.YtpcnoiigbmiejaaDoor.flow

/-- the bits by numbers of whatever spelling -/
theorem inSet_at (n : Int) (s r : ByteArray) (i : Int) (k : Nat) (b : Bool) (w : World) (hi : i = k) (hb : bitAt s k = b) (hx : k < s.size) (hs : s.size ≤ 9223372036854775807) :
    Calls Tryd.prog 52 #[.agg #[.int .i64 n, .string s, .string r], .int .i64 i] w fun e w' => e = .returned (.bool b) ∧ Below w.heap.size w w' := by
  subst hi hb; exact inSet_any n s r k w hx hs
theorem inRel_at (n : Nat) (s r : ByteArray) (i j : Int) (x y : Nat) (b : Bool) (w : World) (hi : i = x) (hj : j = y) (hb : bitAt r (x * n + y) = b) (hx : x < n) (hy : y < n) (hn : n ≤ 8) (hr : r.size = n * n) :
    Calls Tryd.prog 55 #[.agg #[.int .i64 n, .string s, .string r], .int .i64 i, .int .i64 j] w fun e w' => e = .returned (.bool b) ∧ Below w.heap.size w w' := by
  subst hi hj hb; exact inRel_any n s r x y w hx hy hn hr

theorem wrap_nat (k : Nat) (h : k ≤ 1000) : IntKind.i64.wrap (k : Int) = (k : Int) := by rw [IntKind.wrap_i64]; omega
theorem div_facts {x m : Nat} (hm : 1 ≤ m ∧ m ≤ 8) (hx : x ≤ 64) : IntKind.i64.wrap ((x : Int) / (m : Int)) = ((x / m : Nat) : Int) ∧ (x : Int).tmod (m : Int) = ((x % m : Nat) : Int) ∧ ¬ m = 0 :=
  ⟨wrap_nat (x / m) (Nat.le_trans (Nat.div_le_self _ _) (by omega)), rfl, by omega⟩

set_option maxHeartbeats 1600000 in
set_option maxRecDepth 100000 in
theorem clSet_any (n : Nat) (s r : ByteArray) (m : Nat) (t q : ByteArray) (Ha Hb : Nat) (x : Nat) (w : World) (ha : Box 24 w Ha n s r) (hbx : Box 24 w Hb m t q)
    (hm : 1 ≤ m ∧ m ≤ 8) (hx : x ≤ 64) (h1 : x / m < s.size) (h2 : x % m < t.size) (hs : s.size ≤ 8) (ht : t.size ≤ 8) :
    Calls Tryd.prog 51 #[.int .i64 x, .pointer (some ⟨Ha, 0, none⟩), .pointer (some ⟨Hb, 0, none⟩)] w fun e w' => e = .returned (.bool (bitAt s (x / m) && bitAt t (x % m))) ∧ Below w.heap.size w w' := by
  have ca : ∀ X : Wd (fun W => Hid (Below w.heap.size w W)), X.w.cell? ⟨Ha, 0, none⟩ = some (.int .i64 n) ∧ X.w.cell? ⟨Ha, 1, none⟩ = some (.string s) ∧ X.w.cell? ⟨Ha, 2, none⟩ = some (.string r) := fun X => (ha.below X.ok.out ha.lt).c
  have cb : ∀ X : Wd (fun W => Hid (Below w.heap.size w W)), X.w.cell? ⟨Hb, 0, none⟩ = some (.int .i64 m) ∧ X.w.cell? ⟨Hb, 1, none⟩ = some (.string t) ∧ X.w.cell? ⟨Hb, 2, none⟩ = some (.string q) := fun X => (hbx.below X.ok.out hbx.lt).c
  have ca0 := fun X => (ca X).1
  have ca1 := fun X => (ca X).2.1
  have ca2 := fun X => (ca X).2.2
  have cb0 := fun X => (cb X).1
  have cb1 := fun X => (cb X).2.1
  have cb2 := fun X => (cb X).2.2
  obtain ⟨d1, d2, d3⟩ := div_facts hm hx
  have hne : Nonempty (Wd (fun W => Hid (Below w.heap.size w W))) := ⟨⟨w, Lib.hid (Below.refl _ _)⟩⟩
  clear ha hbx ca cb
  cases hb1 : bitAt s (x / m) with
  | false =>
    have HB1 := Lib.hid hb1
    clear hb1
    go_enter Tryd.func51, Tryd.ntmps51
    go_wp2_with fail
    refine flow_last (S := (fun W => Hid (Below w.heap.size w W))) (by kernel_rfl) (by kernel_rfl) (by kernel_rfl) (by kernel_rfl) (by kernel_rfl) (Lib.hid (Below.refl _ _).drew) ?_
    simp only [List.dropLast_cons_cons, List.dropLast_singleton, List.getLast?_cons_cons, List.getLast?_singleton, Option.toList_some]
    repeat (go_big_quiet_step (first | (go_at_call 52; with_reducible refine (inSet_at n s r ((x : Int) / (m : Int)) (x / m) false _ rfl HB1.out h1 (by omega)).mono ?_; rintro e W ⟨rfl, hb⟩; exact ⟨rfl, Wd.on (Wd.ok _) hb⟩)))
    refine wpQuiet_nil ?_
    rintro _ ⟨X, rfl⟩
    have HX := X.ok.out
    go_wp2
    go_ret
    exact ⟨rfl, HX⟩
  | true =>
    have HB1 := Lib.hid hb1
    clear hb1
    cases hb2 : bitAt t (x % m) with
    | false =>
      have HB2 := Lib.hid hb2
      clear hb2
      go_enter Tryd.func51, Tryd.ntmps51
      go_wp2_with fail
      refine flow_last (S := (fun W => Hid (Below w.heap.size w W))) (by kernel_rfl) (by kernel_rfl) (by kernel_rfl) (by kernel_rfl) (by kernel_rfl) (Lib.hid (Below.refl _ _).drew) ?_
      simp only [List.dropLast_cons_cons, List.dropLast_singleton, List.getLast?_cons_cons, List.getLast?_singleton, Option.toList_some]
      repeat (go_big_quiet_step (first | (go_at_call 52; with_reducible refine (inSet_at n s r ((x : Int) / (m : Int)) (x / m) true _ rfl HB1.out h1 (by omega)).mono ?_; rintro e W ⟨rfl, hb⟩; exact ⟨rfl, Wd.on (Wd.ok _) hb⟩) | (go_at_call 52; with_reducible refine (inSet_at m t q ((x : Int) % (m : Int)) (x % m) false _ rfl HB2.out h2 (by omega)).mono ?_; rintro e W ⟨rfl, hb⟩; exact ⟨rfl, Wd.on (Wd.ok _) hb⟩)))
      refine wpQuiet_nil ?_
      rintro _ ⟨X, rfl⟩
      have HX := X.ok.out
      go_wp2
      go_ret
      exact ⟨rfl, HX⟩
    | true =>
      have HB2 := Lib.hid hb2
      clear hb2
      go_enter Tryd.func51, Tryd.ntmps51
      go_wp2_with fail
      refine flow_last (S := (fun W => Hid (Below w.heap.size w W))) (by kernel_rfl) (by kernel_rfl) (by kernel_rfl) (by kernel_rfl) (by kernel_rfl) (Lib.hid (Below.refl _ _).drew) ?_
      simp only [List.dropLast_cons_cons, List.dropLast_singleton, List.getLast?_cons_cons, List.getLast?_singleton, Option.toList_some]
      repeat (go_big_quiet_step (first | (go_at_call 52; with_reducible refine (inSet_at n s r ((x : Int) / (m : Int)) (x / m) true _ rfl HB1.out h1 (by omega)).mono ?_; rintro e W ⟨rfl, hb⟩; exact ⟨rfl, Wd.on (Wd.ok _) hb⟩) | (go_at_call 52; with_reducible refine (inSet_at m t q ((x : Int) % (m : Int)) (x % m) true _ rfl HB2.out h2 (by omega)).mono ?_; rintro e W ⟨rfl, hb⟩; exact ⟨rfl, Wd.on (Wd.ok _) hb⟩)))
      refine wpQuiet_nil ?_
      rintro _ ⟨X, rfl⟩
      have HX := X.ok.out
      go_wp2
      go_ret
      exact ⟨rfl, HX⟩

set_option maxHeartbeats 1600000 in
set_option maxRecDepth 100000 in
theorem clRel_any (n : Nat) (s r : ByteArray) (m : Nat) (t q : ByteArray) (Ha Hb : Nat) (x y : Nat) (w : World) (ha : Box 24 w Ha n s r) (hbx : Box 24 w Hb m t q)
    (hm : 1 ≤ m ∧ m ≤ 8) (hx : x ≤ 64) (hy : y ≤ 64) (h1 : x / m < n) (h2 : y / m < n) (hn : n ≤ 8) (hr : r.size = n * n) (hq : q.size = m * m) :
    Calls Tryd.prog 54 #[.int .i64 x, .int .i64 y, .pointer (some ⟨Ha, 0, none⟩), .pointer (some ⟨Hb, 0, none⟩)] w fun e w' => e = .returned (.bool (bitAt r (x / m * n + y / m) && bitAt q (x % m * m + y % m))) ∧ Below w.heap.size w w' := by
  have ca : ∀ X : Wd (fun W => Hid (Below w.heap.size w W)), X.w.cell? ⟨Ha, 0, none⟩ = some (.int .i64 n) ∧ X.w.cell? ⟨Ha, 1, none⟩ = some (.string s) ∧ X.w.cell? ⟨Ha, 2, none⟩ = some (.string r) := fun X => (ha.below X.ok.out ha.lt).c
  have cb : ∀ X : Wd (fun W => Hid (Below w.heap.size w W)), X.w.cell? ⟨Hb, 0, none⟩ = some (.int .i64 m) ∧ X.w.cell? ⟨Hb, 1, none⟩ = some (.string t) ∧ X.w.cell? ⟨Hb, 2, none⟩ = some (.string q) := fun X => (hbx.below X.ok.out hbx.lt).c
  have ca0 := fun X => (ca X).1
  have ca1 := fun X => (ca X).2.1
  have ca2 := fun X => (ca X).2.2
  have cb0 := fun X => (cb X).1
  have cb1 := fun X => (cb X).2.1
  have cb2 := fun X => (cb X).2.2
  obtain ⟨d1, d2, d3⟩ := div_facts hm hx
  obtain ⟨e1, e2, e3⟩ := div_facts hm hy
  have HR : Hid (r.size = n * n ∧ x % m < m ∧ y % m < m ∧ q.size = m * m) := ⟨hr, Nat.mod_lt _ (by omega), Nat.mod_lt _ (by omega), hq⟩
  clear hr hq
  have hne : Nonempty (Wd (fun W => Hid (Below w.heap.size w W))) := ⟨⟨w, Lib.hid (Below.refl _ _)⟩⟩
  clear ha hbx ca cb
  cases hb1 : bitAt r (x / m * n + y / m) with
  | false =>
    have HB1 := Lib.hid hb1
    clear hb1
    go_enter Tryd.func54, Tryd.ntmps54
    go_wp2_with fail
    refine flow_last (S := (fun W => Hid (Below w.heap.size w W))) (by kernel_rfl) (by kernel_rfl) (by kernel_rfl) (by kernel_rfl) (by kernel_rfl) (Lib.hid (Below.refl _ _).drew) ?_
    simp only [List.dropLast_cons_cons, List.dropLast_singleton, List.getLast?_cons_cons, List.getLast?_singleton, Option.toList_some]
    repeat (go_big_quiet_step (first | (go_at_call 55; with_reducible refine (inRel_at n s r ((x : Int) / (m : Int)) ((y : Int) / (m : Int)) (x / m) (y / m) false _ rfl rfl HB1.out h1 h2 hn HR.out.1).mono ?_; rintro e W ⟨rfl, hb⟩; exact ⟨rfl, Wd.on (Wd.ok _) hb⟩)))
    refine wpQuiet_nil ?_
    rintro _ ⟨X, rfl⟩
    have HX := X.ok.out
    go_wp2
    go_ret
    exact ⟨rfl, HX⟩
  | true =>
    have HB1 := Lib.hid hb1
    clear hb1
    cases hb2 : bitAt q (x % m * m + y % m) with
    | false =>
      have HB2 := Lib.hid hb2
      clear hb2
      go_enter Tryd.func54, Tryd.ntmps54
      go_wp2_with fail
      refine flow_last (S := (fun W => Hid (Below w.heap.size w W))) (by kernel_rfl) (by kernel_rfl) (by kernel_rfl) (by kernel_rfl) (by kernel_rfl) (Lib.hid (Below.refl _ _).drew) ?_
      simp only [List.dropLast_cons_cons, List.dropLast_singleton, List.getLast?_cons_cons, List.getLast?_singleton, Option.toList_some]
      repeat (go_big_quiet_step (first | (go_at_call 55; with_reducible refine (inRel_at n s r ((x : Int) / (m : Int)) ((y : Int) / (m : Int)) (x / m) (y / m) true _ rfl rfl HB1.out h1 h2 hn HR.out.1).mono ?_; rintro e W ⟨rfl, hb⟩; exact ⟨rfl, Wd.on (Wd.ok _) hb⟩) | (go_at_call 55; with_reducible refine (inRel_at m t q ((x : Int) % (m : Int)) ((y : Int) % (m : Int)) (x % m) (y % m) false _ rfl rfl HB2.out HR.out.2.1 HR.out.2.2.1 hm.2 HR.out.2.2.2).mono ?_; rintro e W ⟨rfl, hb⟩; exact ⟨rfl, Wd.on (Wd.ok _) hb⟩)))
      refine wpQuiet_nil ?_
      rintro _ ⟨X, rfl⟩
      have HX := X.ok.out
      go_wp2
      go_ret
      exact ⟨rfl, HX⟩
    | true =>
      have HB2 := Lib.hid hb2
      clear hb2
      go_enter Tryd.func54, Tryd.ntmps54
      go_wp2_with fail
      refine flow_last (S := (fun W => Hid (Below w.heap.size w W))) (by kernel_rfl) (by kernel_rfl) (by kernel_rfl) (by kernel_rfl) (by kernel_rfl) (Lib.hid (Below.refl _ _).drew) ?_
      simp only [List.dropLast_cons_cons, List.dropLast_singleton, List.getLast?_cons_cons, List.getLast?_singleton, Option.toList_some]
      repeat (go_big_quiet_step (first | (go_at_call 55; with_reducible refine (inRel_at n s r ((x : Int) / (m : Int)) ((y : Int) / (m : Int)) (x / m) (y / m) true _ rfl rfl HB1.out h1 h2 hn HR.out.1).mono ?_; rintro e W ⟨rfl, hb⟩; exact ⟨rfl, Wd.on (Wd.ok _) hb⟩) | (go_at_call 55; with_reducible refine (inRel_at m t q ((x : Int) % (m : Int)) ((y : Int) % (m : Int)) (x % m) (y % m) true _ rfl rfl HB2.out HR.out.2.1 HR.out.2.2.1 hm.2 HR.out.2.2.2).mono ?_; rintro e W ⟨rfl, hb⟩; exact ⟨rfl, Wd.on (Wd.ok _) hb⟩)))
      refine wpQuiet_nil ?_
      rintro _ ⟨X, rfl⟩
      have HX := X.ok.out
      go_wp2
      go_ret
      exact ⟨rfl, HX⟩

/-- what ProductOf returns -/
def okP (n : Int) (s r : ByteArray) (m : Int) (t q : ByteArray) : Bool := validB n s r && (validB m t q && decide (n * m ≤ 8))
def pSet (s : ByteArray) (m : Nat) (t : ByteArray) (x : Nat) : Bool := bitAt s (x / m) && bitAt t (x % m)
def pRel (n : Nat) (r : ByteArray) (m : Nat) (q : ByteArray) (x y : Nat) : Bool := bitAt r (x / m * n + y / m) && bitAt q (x % m * m + y % m)
def pn (n : Int) (s r : ByteArray) (m : Int) (t q : ByteArray) : Int := if okP n s r m t q = true then n * m else 0
def ps (n : Int) (s r : ByteArray) (m : Int) (t q : ByteArray) : ByteArray := if okP n s r m t q = true then bS (pSet s m.toNat t) (n.toNat * m.toNat) else ⟨#[]⟩
def pr (n : Int) (s r : ByteArray) (m : Int) (t q : ByteArray) : ByteArray := if okP n s r m t q = true then bR (pRel n.toNat r m.toNat q) (n.toNat * m.toNat) (n.toNat * m.toNat) else ⟨#[]⟩
theorem p_no {n : Int} {s r : ByteArray} {m : Int} {t q : ByteArray} (h : okP n s r m t q = false) : pn n s r m t q = 0 ∧ ps n s r m t q = ⟨#[]⟩ ∧ pr n s r m t q = ⟨#[]⟩ := by simp [pn, ps, pr, h]
theorem p_yes {N M : Nat} {s r t q : ByteArray} (h : okP N s r M t q = true) : pn N s r M t q = ((N * M : Nat) : Int) ∧ ps N s r M t q = bS (pSet s M t) (N * M) ∧ pr N s r M t q = bR (pRel N r M q) (N * M) (N * M) := by simp [pn, ps, pr, h]
theorem p_yes_at {N M K : Nat} {s r t q : ByteArray} (hK : K = N * M) (h : okP N s r M t q = true) : pn N s r M t q = (K : Int) ∧ ps N s r M t q = bS (pSet s M t) K ∧ pr N s r M t q = bR (pRel N r M q) K K := by subst hK; exact p_yes h
theorem valid_size {n : Int} {s r : ByteArray} (h : validB n s r = true) : ∃ N : Nat, n = N ∧ 1 ≤ N ∧ N ≤ 8 ∧ s.size = N ∧ r.size = N * N := by
  obtain ⟨⟨h2, h3⟩, hs, hr, _⟩ := validB_iff.1 h
  refine ⟨n.toNat, by omega, by omega, by omega, by omega, ?_⟩
  have e : (n.toNat : Int) = n := by omega
  have : ((n.toNat * n.toNat : Nat) : Int) = n * n := by rw [Int.natCast_mul, e]
  omega

set_option maxHeartbeats 1600000 in
set_option maxRecDepth 100000 in
theorem implProduct_any (n : Int) (s r : ByteArray) (m : Int) (t q : ByteArray) (w : World) (hs : s.size ≤ 9223372036854775807) (hr : r.size ≤ 9223372036854775807) (ht : t.size ≤ 9223372036854775807) (hq : q.size ≤ 9223372036854775807) :
    Calls Tryd.prog 15 #[.agg #[.int .i64 n, .string s, .string r], .agg #[.int .i64 m, .string t, .string q]] w fun e w' => e = .returned (.tuple #[.agg #[.int .i64 (pn n s r m t q), .string (ps n s r m t q), .string (pr n s r m t q)], .bool (okP n s r m t q)]) ∧ Below w.heap.size w w' := by
  have BA : Hid (Box 24 (((w.alloc (.cells #[.int .i64 n, .string s, .string r] 24)).alloc (.cells #[.int .i64 m, .string t, .string q] 24)).alloc (.cells #[.int .i64 0, .string ⟨#[]⟩, .string ⟨#[]⟩] 24)) w.heap.size n s r) := ((Box.new 24 w w.heap.size rfl n s r).below ((Below.refl (w.heap.size + 1) _).alloc (by simp) _) (by omega)).below ((Below.refl (w.heap.size + 1) _).alloc (by simp) _) (by omega)
  have BB : Hid (Box 24 (((w.alloc (.cells #[.int .i64 n, .string s, .string r] 24)).alloc (.cells #[.int .i64 m, .string t, .string q] 24)).alloc (.cells #[.int .i64 0, .string ⟨#[]⟩, .string ⟨#[]⟩] 24)) (w.heap.size + 1) m t q) := (Box.new 24 _ (w.heap.size + 1) (by simp) m t q).below ((Below.refl (w.heap.size + 1 + 1) _).alloc (by simp) _) (by omega)
  have BZ : Hid (Box 24 (((w.alloc (.cells #[.int .i64 n, .string s, .string r] 24)).alloc (.cells #[.int .i64 m, .string t, .string q] 24)).alloc (.cells #[.int .i64 0, .string ⟨#[]⟩, .string ⟨#[]⟩] 24)) (w.heap.size + 1 + 1) 0 ⟨#[]⟩ ⟨#[]⟩) := Box.new 24 _ (w.heap.size + 1 + 1) (by simp) 0 ⟨#[]⟩ ⟨#[]⟩
  obtain ⟨HB, hHB⟩ : ∃ HB, HB = w.heap.size + 1 + 1 + 1 := ⟨_, rfl⟩
  have HBS : Hid ((((w.alloc (.cells #[.int .i64 n, .string s, .string r] 24)).alloc (.cells #[.int .i64 m, .string t, .string q] 24)).alloc (.cells #[.int .i64 0, .string ⟨#[]⟩, .string ⟨#[]⟩] 24)).heap.size = HB) := by rw [hHB]; simp [Hid]
  have AW : Hid (Below w.heap.size w (((w.alloc (.cells #[.int .i64 n, .string s, .string r] 24)).alloc (.cells #[.int .i64 m, .string t, .string q] 24)).alloc (.cells #[.int .i64 0, .string ⟨#[]⟩, .string ⟨#[]⟩] 24))) := (((Below.refl _ _).alloc (Nat.le_refl _) _).alloc (by simp) _).alloc (by simp only [World.size_alloc]; omega) _
  have HHB := Lib.hid hHB
  clear hHB
  have HZ := Lib.hid (show _ ∧ _ ∧ _ ∧ _ from ⟨hs, hr, ht, hq⟩)
  clear hs hr ht hq
  go_enter Tryd.func15, Tryd.ntmps15
  go_wp2_with fail
  refine (isStructure_any n s r _ HZ.out.1 HZ.out.2.1).mono ?_
  rintro e w1 ⟨rfl, hw⟩
  have HX : Hid (Below HB (((w.alloc (.cells #[.int .i64 n, .string s, .string r] 24)).alloc (.cells #[.int .i64 m, .string t, .string q] 24)).alloc (.cells #[.int .i64 0, .string ⟨#[]⟩, .string ⟨#[]⟩] 24)) w1) := hw.mono (by have := HBS.out; omega)
  clear hw
  obtain ⟨a0, a1, a2⟩ := (BA.out.below HX.out (by have := HHB.out; omega)).c
  obtain ⟨b0, b1, b2⟩ := (BB.out.below HX.out (by have := HHB.out; omega)).c
  obtain ⟨z0, z1, z2⟩ := (BZ.out.below HX.out (by have := HHB.out; omega)).c
  have f0 := (BZ.out.below HX.out (by have := HHB.out; omega)).free 0
  have f1 := (BZ.out.below HX.out (by have := HHB.out; omega)).free 1
  have f2 := (BZ.out.below HX.out (by have := HHB.out; omega)).free 2
  cases hv : validB n s r with
  | false =>
    have HE := Lib.hid (p_no (show okP n s r m t q = false by rw [okP, hv]; rfl))
    have HO : Hid (okP n s r m t q = false) := by rw [Hid, okP, hv]; rfl
    clear hv
    have BE := (((BZ.out.below HX.out (by have := HHB.out; omega)).set0 0).set1 ⟨#[]⟩).set2 ⟨#[]⟩
    obtain ⟨e0, e1, e2⟩ := BE.c
    have HF := Lib.hid (show _ ∧ _ ∧ _ from ⟨e0, e1, e2⟩)
    clear e0 e1 e2 BE
    have R := Lib.hid ((((AW.out.trans (HX.out.mono (by have := HHB.out; omega))).setCell (p := ⟨w.heap.size + 1 + 1, 0, none⟩) (by simp; omega) (.int .i64 0)).setCell (p := ⟨w.heap.size + 1 + 1, 1, none⟩) (by simp; omega) (.string ⟨#[]⟩)).setCell (p := ⟨w.heap.size + 1 + 1, 2, none⟩) (by simp; omega) (.string ⟨#[]⟩))
    go_wp2
    exact bodyPost_ret (v := .tuple #[.agg #[.int .i64 0, .string ⟨#[]⟩, .string ⟨#[]⟩], .bool false]) (by simp [results, Tryd.results15, go_sem, HF.out.1, HF.out.2.1, HF.out.2.2]) rfl ⟨by rw [HE.out.1, HE.out.2.1, HE.out.2.2, HO.out], R.out⟩
  | true =>
    have HV1 := Lib.hid hv
    obtain ⟨N, rfl, hN1, hN8, hsN, hrN⟩ := valid_size hv
    have HN := Lib.hid (show _ ∧ _ ∧ _ ∧ _ from ⟨hN1, hN8, hsN, hrN⟩)
    clear hv hsN hrN
    go_wp2_with fail
    refine (isStructure_any m t q _ HZ.out.2.2.1 HZ.out.2.2.2).mono ?_
    rintro e w2 ⟨rfl, hw⟩
    have HX2 : Hid (Below HB (((w.alloc (.cells #[.int .i64 N, .string s, .string r] 24)).alloc (.cells #[.int .i64 m, .string t, .string q] 24)).alloc (.cells #[.int .i64 0, .string ⟨#[]⟩, .string ⟨#[]⟩] 24)) w2) := HX.out.trans (hw.mono (by have := HBS.out; have := HX.out.size; omega))
    clear hw HX a0 a1 a2 b0 b1 b2 z0 z1 z2 f0 f1 f2
    have HX := HX2
    clear HX2
    obtain ⟨a0, a1, a2⟩ := (BA.out.below HX.out (by have := HHB.out; omega)).c
    obtain ⟨b0, b1, b2⟩ := (BB.out.below HX.out (by have := HHB.out; omega)).c
    obtain ⟨z0, z1, z2⟩ := (BZ.out.below HX.out (by have := HHB.out; omega)).c
    have f0 := (BZ.out.below HX.out (by have := HHB.out; omega)).free 0
    have f1 := (BZ.out.below HX.out (by have := HHB.out; omega)).free 1
    have f2 := (BZ.out.below HX.out (by have := HHB.out; omega)).free 2
    cases hv : validB m t q with
    | false =>
      have HE := Lib.hid (p_no (show okP N s r m t q = false by rw [okP, hv]; simp))
      have HO : Hid (okP N s r m t q = false) := by rw [Hid, okP, hv]; simp
      clear hv
      have BE := (((BZ.out.below HX.out (by have := HHB.out; omega)).set0 0).set1 ⟨#[]⟩).set2 ⟨#[]⟩
      obtain ⟨e0, e1, e2⟩ := BE.c
      have HF := Lib.hid (show _ ∧ _ ∧ _ from ⟨e0, e1, e2⟩)
      clear e0 e1 e2 BE
      have R := Lib.hid ((((AW.out.trans (HX.out.mono (by have := HHB.out; omega))).setCell (p := ⟨w.heap.size + 1 + 1, 0, none⟩) (by simp; omega) (.int .i64 0)).setCell (p := ⟨w.heap.size + 1 + 1, 1, none⟩) (by simp; omega) (.string ⟨#[]⟩)).setCell (p := ⟨w.heap.size + 1 + 1, 2, none⟩) (by simp; omega) (.string ⟨#[]⟩))
      go_wp2
      exact bodyPost_ret (v := .tuple #[.agg #[.int .i64 0, .string ⟨#[]⟩, .string ⟨#[]⟩], .bool false]) (by simp [results, Tryd.results15, go_sem, HF.out.1, HF.out.2.1, HF.out.2.2]) rfl ⟨by rw [HE.out.1, HE.out.2.1, HE.out.2.2, HO.out], R.out⟩
    | true =>
      have HV2 := Lib.hid hv
      obtain ⟨M, rfl, hM1, hM8, hsM, hrM⟩ := valid_size hv
      have HM := Lib.hid (show _ ∧ _ ∧ _ ∧ _ from ⟨hM1, hM8, hsM, hrM⟩)
      clear hv hsM hrM
      have hmul : (0 : Int) ≤ (N : Int) * (M : Int) ∧ (N : Int) * (M : Int) ≤ 64 := by
        have : N * M ≤ 8 * 8 := Nat.mul_le_mul hN8 hM8
        exact ⟨Int.mul_nonneg (by omega) (by omega), by rw [← Int.natCast_mul]; omega⟩
      by_cases hk : (N : Int) * (M : Int) ≤ 8
      · have HO : Hid (okP N s r M t q = true) := by rw [Hid, okP, HV1.out, HV2.out]; simpa using hk
        obtain ⟨K, hK⟩ : ∃ K, K = N * M := ⟨_, rfl⟩
        have HE := Lib.hid (p_yes_at hK HO.out)
        have hk8 : K ≤ 8 := by rw [← Int.natCast_mul, ← hK] at hk; omega
        have HK8 := Lib.hid hk8
        have HKK := Lib.hid hK
        clear hk8 hK
        have BAX := Lib.hid (BA.out.below HX.out (by have := HHB.out; omega))
        have BBX := Lib.hid (BB.out.below HX.out (by have := HHB.out; omega))
        have BZX := Lib.hid (BZ.out.below HX.out (by have := HHB.out; omega))
        go_wp2_with fail
        refine (make_at K ((N : Int) * (M : Int)) (by rw [HKK.out, Int.natCast_mul]) HK8.out _ _ _ _ (pSet s M t) (pRel N r M q) _ (enters_of Tryd.func51 (by kernel_rfl) rfl) (enters_of Tryd.func54 (by kernel_rfl) rfl) ?_ ?_).mono ?_
        · intro W hW x hx
          have h1 : x / M < N := Nat.div_lt_of_lt_mul (by rw [Nat.mul_comm, ← HKK.out]; exact hx)
          exact clSet_any N s r M t q w.heap.size (w.heap.size + 1) x W (BAX.out.below hW BAX.out.lt) (BBX.out.below hW BBX.out.lt) ⟨hM1, hM8⟩ (by have := HK8.out; omega) (by rw [HN.out.2.2.1]; exact h1) (by rw [HM.out.2.2.1]; exact Nat.mod_lt _ (by omega)) (by rw [HN.out.2.2.1]; omega) (by rw [HM.out.2.2.1]; omega)
        · intro W hW x y hx hy
          have h1 : x / M < N := Nat.div_lt_of_lt_mul (by rw [Nat.mul_comm, ← HKK.out]; exact hx)
          have h2 : y / M < N := Nat.div_lt_of_lt_mul (by rw [Nat.mul_comm, ← HKK.out]; exact hy)
          exact clRel_any N s r M t q w.heap.size (w.heap.size + 1) x y W (BAX.out.below hW BAX.out.lt) (BBX.out.below hW BBX.out.lt) ⟨hM1, hM8⟩ (by have := HK8.out; omega) (by have := HK8.out; omega) h1 h2 hN8 HN.out.2.2.2 HM.out.2.2.2
        rintro e w3 ⟨rfl, hw⟩
        have HX3 : Hid (Below HB (((w.alloc (.cells #[.int .i64 N, .string s, .string r] 24)).alloc (.cells #[.int .i64 M, .string t, .string q] 24)).alloc (.cells #[.int .i64 0, .string ⟨#[]⟩, .string ⟨#[]⟩] 24)) w3) := HX.out.trans (hw.mono (by have := HBS.out; have := HX.out.size; omega))
        have BZ3 := Lib.hid (BZX.out.below hw BZX.out.lt)
        clear hw HX a0 a1 a2 b0 b1 b2 z0 z1 z2 f0 f1 f2
        obtain ⟨z0, z1, z2⟩ := BZ3.out.c
        have f0 := BZ3.out.free 0
        have f1 := BZ3.out.free 1
        have f2 := BZ3.out.free 2
        have BE := ((BZ3.out.set0 (K : Int)).set1 (bS (pSet s M t) K)).set2 (bR (pRel N r M q) K K)
        obtain ⟨e0, e1, e2⟩ := BE.c
        have HF := Lib.hid (show _ ∧ _ ∧ _ from ⟨e0, e1, e2⟩)
        clear e0 e1 e2 BE
        have R := Lib.hid ((((AW.out.trans (HX3.out.mono (by have := HHB.out; omega))).setCell (p := ⟨w.heap.size + 1 + 1, 0, none⟩) (by simp; omega) (.int .i64 (K : Int))).setCell (p := ⟨w.heap.size + 1 + 1, 1, none⟩) (by simp; omega) (.string (bS (pSet s M t) K))).setCell (p := ⟨w.heap.size + 1 + 1, 2, none⟩) (by simp; omega) (.string (bR (pRel N r M q) K K)))
        go_wp2

        exact bodyPost_ret (v := .tuple #[.agg #[.int .i64 (K : Int), .string (bS (pSet s M t) K), .string (bR (pRel N r M q) K K)], .bool true]) (by simp [results, Tryd.results15, go_sem, HF.out.1, HF.out.2.1, HF.out.2.2]) rfl ⟨by rw [HE.out.1, HE.out.2.1, HE.out.2.2, HO.out], R.out⟩
      · have HE := Lib.hid (p_no (show okP N s r M t q = false by rw [okP]; simp; intros; omega))
        have HO : Hid (okP N s r M t q = false) := by rw [Hid, okP]; simp; intros; omega
        have BE := (((BZ.out.below HX.out (by have := HHB.out; omega)).set0 0).set1 ⟨#[]⟩).set2 ⟨#[]⟩
        obtain ⟨e0, e1, e2⟩ := BE.c
        have HF := Lib.hid (show _ ∧ _ ∧ _ from ⟨e0, e1, e2⟩)
        clear e0 e1 e2 BE
        have R := Lib.hid ((((AW.out.trans (HX.out.mono (by have := HHB.out; omega))).setCell (p := ⟨w.heap.size + 1 + 1, 0, none⟩) (by simp; omega) (.int .i64 0)).setCell (p := ⟨w.heap.size + 1 + 1, 1, none⟩) (by simp; omega) (.string ⟨#[]⟩)).setCell (p := ⟨w.heap.size + 1 + 1, 2, none⟩) (by simp; omega) (.string ⟨#[]⟩))
        go_wp2
        exact bodyPost_ret (v := .tuple #[.agg #[.int .i64 0, .string ⟨#[]⟩, .string ⟨#[]⟩], .bool false]) (by simp [results, Tryd.results15, go_sem, HF.out.1, HF.out.2.1, HF.out.2.2]) rfl ⟨by rw [HE.out.1, HE.out.2.1, HE.out.2.2, HO.out], R.out⟩

/- the reference -/
theorem l1Set_at (n : Int) (s r : ByteArray) (i : Int) (k : Nat) (b : Bool) (w : World) (hi : i = k) (hb : bitAt s k = b) (hx : k < s.size) (hs : s.size ≤ 9223372036854775807) :
    Calls Tryd.prog 125 #[.agg #[.int .i64 n, .string s, .string r], .int .i64 i] w fun e w' => e = .returned (.bool b) ∧ Below w.heap.size w w' := by
  subst hi hb; exact l1Set_any n s r k w hx hs
theorem l1Rel_at (n : Nat) (s r : ByteArray) (i j : Int) (x y : Nat) (b : Bool) (w : World) (hi : i = x) (hj : j = y) (hb : bitAt r (x * n + y) = b) (hx : x < n) (hy : y < n) (hn : n ≤ 8) (hr : r.size = n * n) :
    Calls Tryd.prog 126 #[.agg #[.int .i64 n, .string s, .string r], .int .i64 i, .int .i64 j] w fun e w' => e = .returned (.bool b) ∧ Below w.heap.size w w' := by
  subst hi hj hb; exact l1Rel_any n s r x y w hx hy hn hr
theorem l1Bit_at (b : Bool) (w : World) : Calls Tryd.prog 141 #[.bool b] w fun e w' => e = .returned (.string (bit1 b)) ∧ w' = w := (l1Bit_any b w).mono fun _ _ h => ⟨h.1, h.2.symm⟩

theorem implE (n : Int) (s r : ByteArray) (m : Int) (t q : ByteArray) (_ : (Lit.int .i64 n).wf = true) (_ : (Lit.int .i64 m).wf = true) : s.size + r.size + (t.size + q.size) ≤ 1048576 → ∀ (w : World),
    Calls Tryd.prog 15 #[.agg #[.int .i64 n, .string s, .string r], .agg #[.int .i64 m, .string t, .string q]] w fun e w' => e = .returned (.tuple #[.agg #[.int .i64 (pn n s r m t q), .string (ps n s r m t q), .string (pr n s r m t q)], .bool (okP n s r m t q)]) ∧ Below w.heap.size w w' :=
  fun h w => implProduct_any n s r m t q w (by omega) (by omega) (by omega) (by omega)

end Go.Proofs.YtpcnoiigbmiejaaDoor.prod
