/- ProductOf, in the program and in the reference. -/
import Derived.Test.YtefneihlgclkbaaDoorRows
import Derived.Test.YtefneihlgclkbaaDoorBase
import Derived.Test.YtefneihlgclkbaaDoorMake
import Derived.Test.YtefneihlgclkbaaDoorFlow
namespace Go.Proofs.YtefneihlgclkbaaDoor.prod
set_option linter.unusedVariables false
set_option linter.unusedSimpArgs false
open Go.ChangeShapes Go.WideShapes Go.ChangeAt Go.RowKit
open Go.Proofs.YtefneihlgclkbaaDoor.lib Go.Proofs.YtefneihlgclkbaaDoor.st Go.Proofs.YtefneihlgclkbaaDoor.base Go.Proofs.YtefneihlgclkbaaDoor.make Go.Proofs.YtefneihlgclkbaaDoor.flow

/-- the bits by numbers of whatever spelling -/
theorem inSet_at (n : Int) (s r : ByteArray) (i : Int) (k : Nat) (b : Bool) (w : World) (hi : i = k) (hb : bitAt s k = b) (hx : k < s.size) (hs : s.size ≤ 9223372036854775807) :
    Calls Tryd.prog 48 #[.agg #[.int .i64 n, .string s, .string r], .int .i64 i] w fun e w' => e = .returned (.bool b) ∧ Below w.heap.size w w' := by
  subst hi hb; exact inSet_any n s r k w hx hs
theorem inRel_at (n : Nat) (s r : ByteArray) (i j : Int) (x y : Nat) (b : Bool) (w : World) (hi : i = x) (hj : j = y) (hb : bitAt r (x * n + y) = b) (hx : x < n) (hy : y < n) (hn : n ≤ 8) (hr : r.size = n * n) :
    Calls Tryd.prog 51 #[.agg #[.int .i64 n, .string s, .string r], .int .i64 i, .int .i64 j] w fun e w' => e = .returned (.bool b) ∧ Below w.heap.size w w' := by
  subst hi hj hb; exact inRel_any n s r x y w hx hy hn hr

theorem wrap_nat (k : Nat) (h : k ≤ 1000) : IntKind.i64.wrap (k : Int) = (k : Int) := by rw [IntKind.wrap_i64]; omega
theorem div_facts {x m : Nat} (hm : 1 ≤ m ∧ m ≤ 8) (hx : x ≤ 64) : IntKind.i64.wrap ((x : Int) / (m : Int)) = ((x / m : Nat) : Int) ∧ (x : Int).tmod (m : Int) = ((x % m : Nat) : Int) ∧ ¬ m = 0 :=
  ⟨wrap_nat (x / m) (Nat.le_trans (Nat.div_le_self _ _) (by omega)), rfl, by omega⟩

set_option maxHeartbeats 1600000 in
set_option maxRecDepth 100000 in
theorem clSet_any (n : Nat) (s r : ByteArray) (m : Nat) (t q : ByteArray) (Ha Hb : Nat) (x : Nat) (w : World) (ha : Box 24 w Ha n s r) (hbx : Box 24 w Hb m t q)
    (hm : 1 ≤ m ∧ m ≤ 8) (hx : x ≤ 64) (h1 : x / m < s.size) (h2 : x % m < t.size) (hs : s.size ≤ 8) (ht : t.size ≤ 8) :
    Calls Tryd.prog 47 #[.int .i64 x, .pointer (some ⟨Ha, 0, none⟩), .pointer (some ⟨Hb, 0, none⟩)] w fun e w' => e = .returned (.bool (bitAt s (x / m) && bitAt t (x % m))) ∧ Below w.heap.size w w' := by
  have ca : ∀ X : Wd (fun W => Hid (Below w.heap.size w W)), X.w.cell? ⟨Ha, 0, none⟩ = some (.int .i64 n) ∧ X.w.cell? ⟨Ha, 1, none⟩ = some (.string s) ∧ X.w.cell? ⟨Ha, 2, none⟩ = some (.string r) := fun X => (ha.below X.ok.out ha.lt).c
  have cb : ∀ X : Wd (fun W => Hid (Below w.heap.size w W)), X.w.cell? ⟨Hb, 0, none⟩ = some (.int .i64 m) ∧ X.w.cell? ⟨Hb, 1, none⟩ = some (.string t) ∧ X.w.cell? ⟨Hb, 2, none⟩ = some (.string q) := fun X => (hbx.below X.ok.out hbx.lt).c
  have ca0 := fun X => (ca X).1
  have ca1 := fun X => (ca X).2.1
  have ca2 := fun X => (ca X).2.2
  have cb0 := fun X => (cb X).1
  have cb1 := fun X => (cb X).2.1
  have cb2 := fun X => (cb X).2.2
  obtain ⟨d1, d2, d3⟩ := div_facts hm hx
  have hne : Nonempty (Wd (fun W => Hid (Below w.heap.size w W))) := ⟨⟨w, Lib.hid (Below.refl _ _)⟩⟩
  clear ha hbx ca cb
  cases hb1 : bitAt s (x / m) with
  | false =>
    have HB1 := Lib.hid hb1
    clear hb1
    go_enter Tryd.func47, Tryd.ntmps47
    go_wp2_with fail
    refine flow_last (S := (fun W => Hid (Below w.heap.size w W))) (by kernel_rfl) (by kernel_rfl) (by kernel_rfl) (by kernel_rfl) (by kernel_rfl) (Lib.hid (Below.refl _ _).drew) ?_
    simp only [List.dropLast_cons_cons, List.dropLast_singleton, List.getLast?_cons_cons, List.getLast?_singleton, Option.toList_some]
    repeat (go_big_quiet_step (first | (go_at_call 48; with_reducible refine (inSet_at n s r ((x : Int) / (m : Int)) (x / m) false _ rfl HB1.out h1 (by omega)).mono ?_; rintro e W ⟨rfl, hb⟩; exact ⟨rfl, Wd.on (Wd.ok _) hb⟩)))
    refine wpQuiet_nil ?_
    rintro _ ⟨X, rfl⟩
    have HX := X.ok.out
    go_wp2
    go_ret
    exact ⟨rfl, HX⟩
  | true =>
    have HB1 := Lib.hid hb1
    clear hb1
    cases hb2 : bitAt t (x % m) with
    | false =>
      have HB2 := Lib.hid hb2
      clear hb2
      go_enter Tryd.func47, Tryd.ntmps47
      go_wp2_with fail
      refine flow_last (S := (fun W => Hid (Below w.heap.size w W))) (by kernel_rfl) (by kernel_rfl) (by kernel_rfl) (by kernel_rfl) (by kernel_rfl) (Lib.hid (Below.refl _ _).drew) ?_
      simp only [List.dropLast_cons_cons, List.dropLast_singleton, List.getLast?_cons_cons, List.getLast?_singleton, Option.toList_some]
      repeat (go_big_quiet_step (first | (go_at_call 48; with_reducible refine (inSet_at n s r ((x : Int) / (m : Int)) (x / m) true _ rfl HB1.out h1 (by omega)).mono ?_; rintro e W ⟨rfl, hb⟩; exact ⟨rfl, Wd.on (Wd.ok _) hb⟩) | (go_at_call 48; with_reducible refine (inSet_at m t q ((x : Int) % (m : Int)) (x % m) false _ rfl HB2.out h2 (by omega)).mono ?_; rintro e W ⟨rfl, hb⟩; exact ⟨rfl, Wd.on (Wd.ok _) hb⟩)))
      refine wpQuiet_nil ?_
      rintro _ ⟨X, rfl⟩
      have HX := X.ok.out
      go_wp2
      go_ret
      exact ⟨rfl, HX⟩
    | true =>
      have HB2 := Lib.hid hb2
      clear hb2
      go_enter Tryd.func47, Tryd.ntmps47
      go_wp2_with fail
      refine flow_last (S := (fun W => Hid (Below w.heap.size w W))) (by kernel_rfl) (by kernel_rfl) (by kernel_rfl) (by kernel_rfl) (by kernel_rfl) (Lib.hid (Below.refl _ _).drew) ?_
      simp only [List.dropLast_cons_cons, List.dropLast_singleton, List.getLast?_cons_cons, List.getLast?_singleton, Option.toList_some]
      repeat (go_big_quiet_step (first | (go_at_call 48; with_reducible refine (inSet_at n s r ((x : Int) / (m : Int)) (x / m) true _ rfl HB1.out h1 (by omega)).mono ?_; rintro e W ⟨rfl, hb⟩; exact ⟨rfl, Wd.on (Wd.ok _) hb⟩) | (go_at_call 48; with_reducible refine (inSet_at m t q ((x : Int) % (m : Int)) (x % m) true _ rfl HB2.out h2 (by omega)).mono ?_; rintro e W ⟨rfl, hb⟩; exact ⟨rfl, Wd.on (Wd.ok _) hb⟩)))
      refine wpQuiet_nil ?_
      rintro _ ⟨X, rfl⟩
      have HX := X.ok.out
      go_wp2
      go_ret
      exact ⟨rfl, HX⟩

set_option maxHeartbeats 1600000 in
set_option maxRecDepth 100000 in
theorem clRel_any (n : Nat) (s r : ByteArray) (m : Nat) (t q : ByteArray) (Ha Hb : Nat) (x y : Nat) (w : World) (ha : Box 24 w Ha n s r) (hbx : Box 24 w Hb m t q)
    (hm : 1 ≤ m ∧ m ≤ 8) (hx : x ≤ 64) (hy : y ≤ 64) (h1 : x / m < n) (h2 : y / m < n) (hn : n ≤ 8) (hr : r.size = n * n) (hq : q.size = m * m) :
    Calls Tryd.prog 50 #[.int .i64 x, .int .i64 y, .pointer (some ⟨Ha, 0, none⟩), .pointer (some ⟨Hb, 0, none⟩)] w fun e w' => e = .returned (.bool (bitAt r (x / m * n + y / m) && bitAt q (x % m * m + y % m))) ∧ Below w.heap.size w w' := by
  have ca : ∀ X : Wd (fun W => Hid (Below w.heap.size w W)), X.w.cell? ⟨Ha, 0, none⟩ = some (.int .i64 n) ∧ X.w.cell? ⟨Ha, 1, none⟩ = some (.string s) ∧ X.w.cell? ⟨Ha, 2, none⟩ = some (.string r) := fun X => (ha.below X.ok.out ha.lt).c
  have cb : ∀ X : Wd (fun W => Hid (Below w.heap.size w W)), X.w.cell? ⟨Hb, 0, none⟩ = some (.int .i64 m) ∧ X.w.cell? ⟨Hb, 1, none⟩ = some (.string t) ∧ X.w.cell? ⟨Hb, 2, none⟩ = some (.string q) := fun X => (hbx.below X.ok.out hbx.lt).c
  have ca0 := fun X => (ca X).1
  have ca1 := fun X => (ca X).2.1
  have ca2 := fun X => (ca X).2.2
  have cb0 := fun X => (cb X).1
  have cb1 := fun X => (cb X).2.1
  have cb2 := fun X => (cb X).2.2
  obtain ⟨d1, d2, d3⟩ := div_facts hm hx
  obtain ⟨e1, e2, e3⟩ := div_facts hm hy
  have HR : Hid (r.size = n * n ∧ x % m < m ∧ y % m < m ∧ q.size = m * m) := ⟨hr, Nat.mod_lt _ (by omega), Nat.mod_lt _ (by omega), hq⟩
  clear hr hq
  have hne : Nonempty (Wd (fun W => Hid (Below w.heap.size w W))) := ⟨⟨w, Lib.hid (Below.refl _ _)⟩⟩
  clear ha hbx ca cb
  cases hb1 : bitAt r (x / m * n + y / m) with
  | false =>
    have HB1 := Lib.hid hb1
    clear hb1
    go_enter Tryd.func50, Tryd.ntmps50
    go_wp2_with fail
    refine flow_last (S := (fun W => Hid (Below w.heap.size w W))) (by kernel_rfl) (by kernel_rfl) (by kernel_rfl) (by kernel_rfl) (by kernel_rfl) (Lib.hid (Below.refl _ _).drew) ?_
    simp only [List.dropLast_cons_cons, List.dropLast_singleton, List.getLast?_cons_cons, List.getLast?_singleton, Option.toList_some]
    repeat (go_big_quiet_step (first | (go_at_call 51; with_reducible refine (inRel_at n s r ((x : Int) / (m : Int)) ((y : Int) / (m : Int)) (x / m) (y / m) false _ rfl rfl HB1.out h1 h2 hn HR.out.1).mono ?_; rintro e W ⟨rfl, hb⟩; exact ⟨rfl, Wd.on (Wd.ok _) hb⟩)))
    refine wpQuiet_nil ?_
    rintro _ ⟨X, rfl⟩
    have HX := X.ok.out
    go_wp2
    go_ret
    exact ⟨rfl, HX⟩
  | true =>
    have HB1 := Lib.hid hb1
    clear hb1
    cases hb2 : bitAt q (x % m * m + y % m) with
    | false =>
      have HB2 := Lib.hid hb2
      clear hb2
      go_enter Tryd.func50, Tryd.ntmps50
      go_wp2_with fail
      refine flow_last (S := (fun W => Hid (Below w.heap.size w W))) (by kernel_rfl) (by kernel_rfl) (by kernel_rfl) (by kernel_rfl) (by kernel_rfl) (Lib.hid (Below.refl _ _).drew) ?_
      simp only [List.dropLast_cons_cons, List.dropLast_singleton, List.getLast?_cons_cons, List.getLast?_singleton, Option.toList_some]
      repeat (go_big_quiet_step (first | (go_at_call 51; with_reducible refine (inRel_at n s r ((x : Int) / (m : Int)) ((y : Int) / (m : Int)) (x / m) (y / m) true _ rfl rfl HB1.out h1 h2 hn HR.out.1).mono ?_; rintro e W ⟨rfl, hb⟩; exact ⟨rfl, Wd.on (Wd.ok _) hb⟩) | (go_at_call 51; with_reducible refine (inRel_at m t q ((x : Int) % (m : Int)) ((y : Int) % (m : Int)) (x % m) (y % m) false _ rfl rfl HB2.out HR.out.2.1 HR.out.2.2.1 hm.2 HR.out.2.2.2).mono ?_; rintro e W ⟨rfl, hb⟩; exact ⟨rfl, Wd.on (Wd.ok _) hb⟩)))
      refine wpQuiet_nil ?_
      rintro _ ⟨X, rfl⟩
      have HX := X.ok.out
      go_wp2
      go_ret
      exact ⟨rfl, HX⟩
    | true =>
      have HB2 := Lib.hid hb2
      clear hb2
      go_enter Tryd.func50, Tryd.ntmps50
      go_wp2_with fail
      refine flow_last (S := (fun W => Hid (Below w.heap.size w W))) (by kernel_rfl) (by kernel_rfl) (by kernel_rfl) (by kernel_rfl) (by kernel_rfl) (Lib.hid (Below.refl _ _).drew) ?_
      simp only [List.dropLast_cons_cons, List.dropLast_singleton, List.getLast?_cons_cons, List.getLast?_singleton, Option.toList_some]
      repeat (go_big_quiet_step (first | (go_at_call 51; with_reducible refine (inRel_at n s r ((x : Int) / (m : Int)) ((y : Int) / (m : Int)) (x / m) (y / m) true _ rfl rfl HB1.out h1 h2 hn HR.out.1).mono ?_; rintro e W ⟨rfl, hb⟩; exact ⟨rfl, Wd.on (Wd.ok _) hb⟩) | (go_at_call 51; with_reducible refine (inRel_at m t q ((x : Int) % (m : Int)) ((y : Int) % (m : Int)) (x % m) (y % m) true _ rfl rfl HB2.out HR.out.2.1 HR.out.2.2.1 hm.2 HR.out.2.2.2).mono ?_; rintro e W ⟨rfl, hb⟩; exact ⟨rfl, Wd.on (Wd.ok _) hb⟩)))
      refine wpQuiet_nil ?_
      rintro _ ⟨X, rfl⟩
      have HX := X.ok.out
      go_wp2
      go_ret
      exact ⟨rfl, HX⟩

/-- what ProductOf returns -/
def okP (n : Int) (s r : ByteArray) (m : Int) (t q : ByteArray) : Bool := validB n s r && (validB m t q && decide (n * m ≤ 8))
def pSet (s : ByteArray) (m : Nat) (t : ByteArray) (x : Nat) : Bool := bitAt s (x / m) && bitAt t (x % m)
def pRel (n : Nat) (r : ByteArray) (m : Nat) (q : ByteArray) (x y : Nat) : Bool := bitAt r (x / m * n + y / m) && bitAt q (x % m * m + y % m)
def pn (n : Int) (s r : ByteArray) (m : Int) (t q : ByteArray) : Int := if okP n s r m t q = true then n * m else 0
def ps (n : Int) (s r : ByteArray) (m : Int) (t q : ByteArray) : ByteArray := if okP n s r m t q = true then bS (pSet s m.toNat t) (n.toNat * m.toNat) else ⟨#[]⟩
def pr (n : Int) (s r : ByteArray) (m : Int) (t q : ByteArray) : ByteArray := if okP n s r m t q = true then bR (pRel n.toNat r m.toNat q) (n.toNat * m.toNat) (n.toNat * m.toNat) else ⟨#[]⟩
theorem p_no {n : Int} {s r : ByteArray} {m : Int} {t q : ByteArray} (h : okP n s r m t q = false) : pn n s r m t q = 0 ∧ ps n s r m t q = ⟨#[]⟩ ∧ pr n s r m t q = ⟨#[]⟩ := by simp [pn, ps, pr, h]
theorem p_yes {N M : Nat} {s r t q : ByteArray} (h : okP N s r M t q = true) : pn N s r M t q = ((N * M : Nat) : Int) ∧ ps N s r M t q = bS (pSet s M t) (N * M) ∧ pr N s r M t q = bR (pRel N r M q) (N * M) (N * M) := by simp [pn, ps, pr, h]
theorem p_yes_at {N M K : Nat} {s r t q : ByteArray} (hK : K = N * M) (h : okP N s r M t q = true) : pn N s r M t q = (K : Int) ∧ ps N s r M t q = bS (pSet s M t) K ∧ pr N s r M t q = bR (pRel N r M q) K K := by subst hK; exact p_yes h
theorem valid_size {n : Int} {s r : ByteArray} (h : validB n s r = true) : ∃ N : Nat, n = N ∧ 1 ≤ N ∧ N ≤ 8 ∧ s.size = N ∧ r.size = N * N := by
  obtain ⟨⟨h2, h3⟩, hs, hr, _⟩ := validB_iff.1 h
  refine ⟨n.toNat, by omega, by omega, by omega, by omega, ?_⟩
  have e : (n.toNat : Int) = n := by omega
  have : ((n.toNat * n.toNat : Nat) : Int) = n * n := by rw [Int.natCast_mul, e]
  omega

set_option maxHeartbeats 1600000 in
set_option maxRecDepth 100000 in
theorem implProduct_any (n : Int) (s r : ByteArray) (m : Int) (t q : ByteArray) (w : World) (hs : s.size ≤ 9223372036854775807) (hr : r.size ≤ 9223372036854775807) (ht : t.size ≤ 9223372036854775807) (hq : q.size ≤ 9223372036854775807) :
    Calls Tryd.prog 11 #[.agg #[.int .i64 n, .string s, .string r], .agg #[.int .i64 m, .string t, .string q]] w fun e w' => e = .returned (.tuple #[.agg #[.int .i64 (pn n s r m t q), .string (ps n s r m t q), .string (pr n s r m t q)], .bool (okP n s r m t q)]) ∧ Below w.heap.size w w' := by
  have BA : Hid (Box 24 (((w.alloc (.cells #[.int .i64 n, .string s, .string r] 24)).alloc (.cells #[.int .i64 m, .string t, .string q] 24)).alloc (.cells #[.int .i64 0, .string ⟨#[]⟩, .string ⟨#[]⟩] 24)) w.heap.size n s r) := ((Box.new 24 w w.heap.size rfl n s r).below ((Below.refl (w.heap.size + 1) _).alloc (by simp) _) (by omega)).below ((Below.refl (w.heap.size + 1) _).alloc (by simp) _) (by omega)
  have BB : Hid (Box 24 (((w.alloc (.cells #[.int .i64 n, .string s, .string r] 24)).alloc (.cells #[.int .i64 m, .string t, .string q] 24)).alloc (.cells #[.int .i64 0, .string ⟨#[]⟩, .string ⟨#[]⟩] 24)) (w.heap.size + 1) m t q) := (Box.new 24 _ (w.heap.size + 1) (by simp) m t q).below ((Below.refl (w.heap.size + 1 + 1) _).alloc (by simp) _) (by omega)
  have BZ : Hid (Box 24 (((w.alloc (.cells #[.int .i64 n, .string s, .string r] 24)).alloc (.cells #[.int .i64 m, .string t, .string q] 24)).alloc (.cells #[.int .i64 0, .string ⟨#[]⟩, .string ⟨#[]⟩] 24)) (w.heap.size + 1 + 1) 0 ⟨#[]⟩ ⟨#[]⟩) := Box.new 24 _ (w.heap.size + 1 + 1) (by simp) 0 ⟨#[]⟩ ⟨#[]⟩
  obtain ⟨HB, hHB⟩ : ∃ HB, HB = w.heap.size + 1 + 1 + 1 := ⟨_, rfl⟩
  have HBS : Hid ((((w.alloc (.cells #[.int .i64 n, .string s, .string r] 24)).alloc (.cells #[.int .i64 m, .string t, .string q] 24)).alloc (.cells #[.int .i64 0, .string ⟨#[]⟩, .string ⟨#[]⟩] 24)).heap.size = HB) := by rw [hHB]; simp [Hid]
  have AW : Hid (Below w.heap.size w (((w.alloc (.cells #[.int .i64 n, .string s, .string r] 24)).alloc (.cells #[.int .i64 m, .string t, .string q] 24)).alloc (.cells #[.int .i64 0, .string ⟨#[]⟩, .string ⟨#[]⟩] 24))) := (((Below.refl _ _).alloc (Nat.le_refl _) _).alloc (by simp) _).alloc (by simp only [World.size_alloc]; omega) _
  have HHB := Lib.hid hHB
  clear hHB
  have HZ := Lib.hid (show _ ∧ _ ∧ _ ∧ _ from ⟨hs, hr, ht, hq⟩)
  clear hs hr ht hq
  go_enter Tryd.func11, Tryd.ntmps11
  go_wp2_with fail
  refine (isStructure_any n s r _ HZ.out.1 HZ.out.2.1).mono ?_
  rintro e w1 ⟨rfl, hw⟩
  have HX : Hid (Below HB (((w.alloc (.cells #[.int .i64 n, .string s, .string r] 24)).alloc (.cells #[.int .i64 m, .string t, .string q] 24)).alloc (.cells #[.int .i64 0, .string ⟨#[]⟩, .string ⟨#[]⟩] 24)) w1) := hw.mono (by have := HBS.out; omega)
  clear hw
  obtain ⟨a0, a1, a2⟩ := (BA.out.below HX.out (by have := HHB.out; omega)).c
  obtain ⟨b0, b1, b2⟩ := (BB.out.below HX.out (by have := HHB.out; omega)).c
  obtain ⟨z0, z1, z2⟩ := (BZ.out.below HX.out (by have := HHB.out; omega)).c
  have f0 := (BZ.out.below HX.out (by have := HHB.out; omega)).free 0
  have f1 := (BZ.out.below HX.out (by have := HHB.out; omega)).free 1
  have f2 := (BZ.out.below HX.out (by have := HHB.out; omega)).free 2
  cases hv : validB n s r with
  | false =>
    have HE := Lib.hid (p_no (show okP n s r m t q = false by rw [okP, hv]; rfl))
    have HO : Hid (okP n s r m t q = false) := by rw [Hid, okP, hv]; rfl
    clear hv
    have BE := (((BZ.out.below HX.out (by have := HHB.out; omega)).set0 0).set1 ⟨#[]⟩).set2 ⟨#[]⟩
    obtain ⟨e0, e1, e2⟩ := BE.c
    have HF := Lib.hid (show _ ∧ _ ∧ _ from ⟨e0, e1, e2⟩)
    clear e0 e1 e2 BE
    have R := Lib.hid ((((AW.out.trans (HX.out.mono (by have := HHB.out; omega))).setCell (p := ⟨w.heap.size + 1 + 1, 0, none⟩) (by simp; omega) (.int .i64 0)).setCell (p := ⟨w.heap.size + 1 + 1, 1, none⟩) (by simp; omega) (.string ⟨#[]⟩)).setCell (p := ⟨w.heap.size + 1 + 1, 2, none⟩) (by simp; omega) (.string ⟨#[]⟩))
    go_wp2
    exact bodyPost_ret (v := .tuple #[.agg #[.int .i64 0, .string ⟨#[]⟩, .string ⟨#[]⟩], .bool false]) (by simp [results, Tryd.results11, go_sem, HF.out.1, HF.out.2.1, HF.out.2.2]) rfl ⟨by rw [HE.out.1, HE.out.2.1, HE.out.2.2, HO.out], R.out⟩
  | true =>
    have HV1 := Lib.hid hv
    obtain ⟨N, rfl, hN1, hN8, hsN, hrN⟩ := valid_size hv
    have HN := Lib.hid (show _ ∧ _ ∧ _ ∧ _ from ⟨hN1, hN8, hsN, hrN⟩)
    clear hv hsN hrN
    go_wp2_with fail
    refine (isStructure_any m t q _ HZ.out.2.2.1 HZ.out.2.2.2).mono ?_
    rintro e w2 ⟨rfl, hw⟩
    have HX2 : Hid (Below HB (((w.alloc (.cells #[.int .i64 N, .string s, .string r] 24)).alloc (.cells #[.int .i64 m, .string t, .string q] 24)).alloc (.cells #[.int .i64 0, .string ⟨#[]⟩, .string ⟨#[]⟩] 24)) w2) := HX.out.trans (hw.mono (by have := HBS.out; have := HX.out.size; omega))
    clear hw HX a0 a1 a2 b0 b1 b2 z0 z1 z2 f0 f1 f2
    have HX := HX2
    clear HX2
    obtain ⟨a0, a1, a2⟩ := (BA.out.below HX.out (by have := HHB.out; omega)).c
    obtain ⟨b0, b1, b2⟩ := (BB.out.below HX.out (by have := HHB.out; omega)).c
    obtain ⟨z0, z1, z2⟩ := (BZ.out.below HX.out (by have := HHB.out; omega)).c
    have f0 := (BZ.out.below HX.out (by have := HHB.out; omega)).free 0
    have f1 := (BZ.out.below HX.out (by have := HHB.out; omega)).free 1
    have f2 := (BZ.out.below HX.out (by have := HHB.out; omega)).free 2
    cases hv : validB m t q with
    | false =>
      have HE := Lib.hid (p_no (show okP N s r m t q = false by rw [okP, hv]; simp))
      have HO : Hid (okP N s r m t q = false) := by rw [Hid, okP, hv]; simp
      clear hv
      have BE := (((BZ.out.below HX.out (by have := HHB.out; omega)).set0 0).set1 ⟨#[]⟩).set2 ⟨#[]⟩
      obtain ⟨e0, e1, e2⟩ := BE.c
      have HF := Lib.hid (show _ ∧ _ ∧ _ from ⟨e0, e1, e2⟩)
      clear e0 e1 e2 BE
      have R := Lib.hid ((((AW.out.trans (HX.out.mono (by have := HHB.out; omega))).setCell (p := ⟨w.heap.size + 1 + 1, 0, none⟩) (by simp; omega) (.int .i64 0)).setCell (p := ⟨w.heap.size + 1 + 1, 1, none⟩) (by simp; omega) (.string ⟨#[]⟩)).setCell (p := ⟨w.heap.size + 1 + 1, 2, none⟩) (by simp; omega) (.string ⟨#[]⟩))
      go_wp2
      exact bodyPost_ret (v := .tuple #[.agg #[.int .i64 0, .string ⟨#[]⟩, .string ⟨#[]⟩], .bool false]) (by simp [results, Tryd.results11, go_sem, HF.out.1, HF.out.2.1, HF.out.2.2]) rfl ⟨by rw [HE.out.1, HE.out.2.1, HE.out.2.2, HO.out], R.out⟩
    | true =>
      have HV2 := Lib.hid hv
      obtain ⟨M, rfl, hM1, hM8, hsM, hrM⟩ := valid_size hv
      have HM := Lib.hid (show _ ∧ _ ∧ _ ∧ _ from ⟨hM1, hM8, hsM, hrM⟩)
      clear hv hsM hrM
      have hmul : (0 : Int) ≤ (N : Int) * (M : Int) ∧ (N : Int) * (M : Int) ≤ 64 := by
        have : N * M ≤ 8 * 8 := Nat.mul_le_mul hN8 hM8
        exact ⟨Int.mul_nonneg (by omega) (by omega), by rw [← Int.natCast_mul]; omega⟩
      by_cases hk : (N : Int) * (M : Int) ≤ 8
      · have HO : Hid (okP N s r M t q = true) := by rw [Hid, okP, HV1.out, HV2.out]; simpa using hk
        obtain ⟨K, hK⟩ : ∃ K, K = N * M := ⟨_, rfl⟩
        have HE := Lib.hid (p_yes_at hK HO.out)
        have hk8 : K ≤ 8 := by rw [← Int.natCast_mul, ← hK] at hk; omega
        have HK8 := Lib.hid hk8
        have HKK := Lib.hid hK
        clear hk8 hK
        have BAX := Lib.hid (BA.out.below HX.out (by have := HHB.out; omega))
        have BBX := Lib.hid (BB.out.below HX.out (by have := HHB.out; omega))
        have BZX := Lib.hid (BZ.out.below HX.out (by have := HHB.out; omega))
        go_wp2_with fail
        refine (make_at K ((N : Int) * (M : Int)) (by rw [HKK.out, Int.natCast_mul]) HK8.out _ _ _ _ (pSet s M t) (pRel N r M q) _ (enters_of Tryd.func47 (by kernel_rfl) rfl) (enters_of Tryd.func50 (by kernel_rfl) rfl) ?_ ?_).mono ?_
        · intro W hW x hx
          have h1 : x / M < N := Nat.div_lt_of_lt_mul (by rw [Nat.mul_comm, ← HKK.out]; exact hx)
          exact clSet_any N s r M t q w.heap.size (w.heap.size + 1) x W (BAX.out.below hW BAX.out.lt) (BBX.out.below hW BBX.out.lt) ⟨hM1, hM8⟩ (by have := HK8.out; omega) (by rw [HN.out.2.2.1]; exact h1) (by rw [HM.out.2.2.1]; exact Nat.mod_lt _ (by omega)) (by rw [HN.out.2.2.1]; omega) (by rw [HM.out.2.2.1]; omega)
        · intro W hW x y hx hy
          have h1 : x / M < N := Nat.div_lt_of_lt_mul (by rw [Nat.mul_comm, ← HKK.out]; exact hx)
          have h2 : y / M < N := Nat.div_lt_of_lt_mul (by rw [Nat.mul_comm, ← HKK.out]; exact hy)
          exact clRel_any N s r M t q w.heap.size (w.heap.size + 1) x y W (BAX.out.below hW BAX.out.lt) (BBX.out.below hW BBX.out.lt) ⟨hM1, hM8⟩ (by have := HK8.out; omega) (by have := HK8.out; omega) h1 h2 hN8 HN.out.2.2.2 HM.out.2.2.2
        rintro e w3 ⟨rfl, hw⟩
        have HX3 : Hid (Below HB (((w.alloc (.cells #[.int .i64 N, .string s, .string r] 24)).alloc (.cells #[.int .i64 M, .string t, .string q] 24)).alloc (.cells #[.int .i64 0, .string ⟨#[]⟩, .string ⟨#[]⟩] 24)) w3) := HX.out.trans (hw.mono (by have := HBS.out; have := HX.out.size; omega))
        have BZ3 := Lib.hid (BZX.out.below hw BZX.out.lt)
        clear hw HX a0 a1 a2 b0 b1 b2 z0 z1 z2 f0 f1 f2
        obtain ⟨z0, z1, z2⟩ := BZ3.out.c
        have f0 := BZ3.out.free 0
        have f1 := BZ3.out.free 1
        have f2 := BZ3.out.free 2
        have BE := ((BZ3.out.set0 (K : Int)).set1 (bS (pSet s M t) K)).set2 (bR (pRel N r M q) K K)
        obtain ⟨e0, e1, e2⟩ := BE.c
        have HF := Lib.hid (show _ ∧ _ ∧ _ from ⟨e0, e1, e2⟩)
        clear e0 e1 e2 BE
        have R := Lib.hid ((((AW.out.trans (HX3.out.mono (by have := HHB.out; omega))).setCell (p := ⟨w.heap.size + 1 + 1, 0, none⟩) (by simp; omega) (.int .i64 (K : Int))).setCell (p := ⟨w.heap.size + 1 + 1, 1, none⟩) (by simp; omega) (.string (bS (pSet s M t) K))).setCell (p := ⟨w.heap.size + 1 + 1, 2, none⟩) (by simp; omega) (.string (bR (pRel N r M q) K K)))
        go_wp2

        exact bodyPost_ret (v := .tuple #[.agg #[.int .i64 (K : Int), .string (bS (pSet s M t) K), .string (bR (pRel N r M q) K K)], .bool true]) (by simp [results, Tryd.results11, go_sem, HF.out.1, HF.out.2.1, HF.out.2.2]) rfl ⟨by rw [HE.out.1, HE.out.2.1, HE.out.2.2, HO.out], R.out⟩
      · have HE := Lib.hid (p_no (show okP N s r M t q = false by rw [okP]; simp; intros; omega))
        have HO : Hid (okP N s r M t q = false) := by rw [Hid, okP]; simp; intros; omega
        have BE := (((BZ.out.below HX.out (by have := HHB.out; omega)).set0 0).set1 ⟨#[]⟩).set2 ⟨#[]⟩
        obtain ⟨e0, e1, e2⟩ := BE.c
        have HF := Lib.hid (show _ ∧ _ ∧ _ from ⟨e0, e1, e2⟩)
        clear e0 e1 e2 BE
        have R := Lib.hid ((((AW.out.trans (HX.out.mono (by have := HHB.out; omega))).setCell (p := ⟨w.heap.size + 1 + 1, 0, none⟩) (by simp; omega) (.int .i64 0)).setCell (p := ⟨w.heap.size + 1 + 1, 1, none⟩) (by simp; omega) (.string ⟨#[]⟩)).setCell (p := ⟨w.heap.size + 1 + 1, 2, none⟩) (by simp; omega) (.string ⟨#[]⟩))
        go_wp2
        exact bodyPost_ret (v := .tuple #[.agg #[.int .i64 0, .string ⟨#[]⟩, .string ⟨#[]⟩], .bool false]) (by simp [results, Tryd.results11, go_sem, HF.out.1, HF.out.2.1, HF.out.2.2]) rfl ⟨by rw [HE.out.1, HE.out.2.1, HE.out.2.2, HO.out], R.out⟩

/- the reference -/
theorem l1Set_at (n : Int) (s r : ByteArray) (i : Int) (k : Nat) (b : Bool) (w : World) (hi : i = k) (hb : bitAt s k = b) (hx : k < s.size) (hs : s.size ≤ 9223372036854775807) :
    Calls Tryd.prog 54 #[.agg #[.int .i64 n, .string s, .string r], .int .i64 i] w fun e w' => e = .returned (.bool b) ∧ Below w.heap.size w w' := by
  subst hi hb; exact l1Set_any n s r k w hx hs
theorem l1Rel_at (n : Nat) (s r : ByteArray) (i j : Int) (x y : Nat) (b : Bool) (w : World) (hi : i = x) (hj : j = y) (hb : bitAt r (x * n + y) = b) (hx : x < n) (hy : y < n) (hn : n ≤ 8) (hr : r.size = n * n) :
    Calls Tryd.prog 55 #[.agg #[.int .i64 n, .string s, .string r], .int .i64 i, .int .i64 j] w fun e w' => e = .returned (.bool b) ∧ Below w.heap.size w w' := by
  subst hi hj hb; exact l1Rel_any n s r x y w hx hy hn hr
theorem l1Bit_at (b : Bool) (w : World) : Calls Tryd.prog 53 #[.bool b] w fun e w' => e = .returned (.string (bit1 b)) ∧ w' = w := (l1Bit_any b w).mono fun _ _ h => ⟨h.1, h.2.symm⟩

set_option maxHeartbeats 3200000 in
set_option maxRecDepth 100000 in
theorem specProduct_any (n : Int) (s r : ByteArray) (m : Int) (t q : ByteArray) (w : World) (hs : s.size ≤ 9223372036854775807) (hr : r.size ≤ 9223372036854775807) (ht : t.size ≤ 9223372036854775807) (hq : q.size ≤ 9223372036854775807) :
    Calls Tryd.prog 12 #[.agg #[.int .i64 n, .string s, .string r], .agg #[.int .i64 m, .string t, .string q]] w fun e w' => e = .returned (.tuple #[.agg #[.int .i64 (pn n s r m t q), .string (ps n s r m t q), .string (pr n s r m t q)], .bool (okP n s r m t q)]) ∧ Below w.heap.size w w' := by
  have BA : Hid (Box 24 (((w.alloc (.cells #[.int .i64 n, .string s, .string r] 24)).alloc (.cells #[.int .i64 m, .string t, .string q] 24)).alloc (.cells #[.int .i64 0, .string ⟨#[]⟩, .string ⟨#[]⟩] 24)) w.heap.size n s r) := ((Box.new 24 w w.heap.size rfl n s r).below ((Below.refl (w.heap.size + 1) _).alloc (by simp) _) (by omega)).below ((Below.refl (w.heap.size + 1) _).alloc (by simp) _) (by omega)
  have BB : Hid (Box 24 (((w.alloc (.cells #[.int .i64 n, .string s, .string r] 24)).alloc (.cells #[.int .i64 m, .string t, .string q] 24)).alloc (.cells #[.int .i64 0, .string ⟨#[]⟩, .string ⟨#[]⟩] 24)) (w.heap.size + 1) m t q) := (Box.new 24 _ (w.heap.size + 1) (by simp) m t q).below ((Below.refl (w.heap.size + 1 + 1) _).alloc (by simp) _) (by omega)
  have BZ : Hid (Box 24 (((w.alloc (.cells #[.int .i64 n, .string s, .string r] 24)).alloc (.cells #[.int .i64 m, .string t, .string q] 24)).alloc (.cells #[.int .i64 0, .string ⟨#[]⟩, .string ⟨#[]⟩] 24)) (w.heap.size + 1 + 1) 0 ⟨#[]⟩ ⟨#[]⟩) := Box.new 24 _ (w.heap.size + 1 + 1) (by simp) 0 ⟨#[]⟩ ⟨#[]⟩
  obtain ⟨HB, hHB⟩ : ∃ HB, HB = w.heap.size + 1 + 1 + 1 := ⟨_, rfl⟩
  have HBS : Hid ((((w.alloc (.cells #[.int .i64 n, .string s, .string r] 24)).alloc (.cells #[.int .i64 m, .string t, .string q] 24)).alloc (.cells #[.int .i64 0, .string ⟨#[]⟩, .string ⟨#[]⟩] 24)).heap.size = HB) := by rw [hHB]; simp [Hid]
  have AW : Hid (Below w.heap.size w (((w.alloc (.cells #[.int .i64 n, .string s, .string r] 24)).alloc (.cells #[.int .i64 m, .string t, .string q] 24)).alloc (.cells #[.int .i64 0, .string ⟨#[]⟩, .string ⟨#[]⟩] 24))) := (((Below.refl _ _).alloc (Nat.le_refl _) _).alloc (by simp) _).alloc (by simp only [World.size_alloc]; omega) _
  have HHB := Lib.hid hHB
  clear hHB
  have HZ := Lib.hid (show _ ∧ _ ∧ _ ∧ _ from ⟨hs, hr, ht, hq⟩)
  clear hs hr ht hq
  go_enter Tryd.func12, Tryd.ntmps12
  go_wp2_with fail
  refine (StructureValid_any n s r _ HZ.out.1 HZ.out.2.1).mono ?_
  rintro e w1 ⟨rfl, hw⟩
  have HX : Hid (Below HB (((w.alloc (.cells #[.int .i64 n, .string s, .string r] 24)).alloc (.cells #[.int .i64 m, .string t, .string q] 24)).alloc (.cells #[.int .i64 0, .string ⟨#[]⟩, .string ⟨#[]⟩] 24)) w1) := hw.mono (by have := HBS.out; omega)
  clear hw
  obtain ⟨a0, a1, a2⟩ := (BA.out.below HX.out (by have := HHB.out; omega)).c
  obtain ⟨b0, b1, b2⟩ := (BB.out.below HX.out (by have := HHB.out; omega)).c
  obtain ⟨z0, z1, z2⟩ := (BZ.out.below HX.out (by have := HHB.out; omega)).c
  have f0 := (BZ.out.below HX.out (by have := HHB.out; omega)).free 0
  have f1 := (BZ.out.below HX.out (by have := HHB.out; omega)).free 1
  have f2 := (BZ.out.below HX.out (by have := HHB.out; omega)).free 2
  cases hv : validB n s r with
  | false =>
    have HE := Lib.hid (p_no (show okP n s r m t q = false by rw [okP, hv]; rfl))
    have HO : Hid (okP n s r m t q = false) := by rw [Hid, okP, hv]; rfl
    clear hv
    have BE := (((BZ.out.below HX.out (by have := HHB.out; omega)).set0 0).set1 ⟨#[]⟩).set2 ⟨#[]⟩
    obtain ⟨e0, e1, e2⟩ := BE.c
    have HF := Lib.hid (show _ ∧ _ ∧ _ from ⟨e0, e1, e2⟩)
    clear e0 e1 e2 BE
    have R := Lib.hid ((((AW.out.trans (HX.out.mono (by have := HHB.out; omega))).setCell (p := ⟨w.heap.size + 1 + 1, 0, none⟩) (by simp; omega) (.int .i64 0)).setCell (p := ⟨w.heap.size + 1 + 1, 1, none⟩) (by simp; omega) (.string ⟨#[]⟩)).setCell (p := ⟨w.heap.size + 1 + 1, 2, none⟩) (by simp; omega) (.string ⟨#[]⟩))
    go_wp2
    exact bodyPost_ret (v := .tuple #[.agg #[.int .i64 0, .string ⟨#[]⟩, .string ⟨#[]⟩], .bool false]) (by simp [results, Tryd.results12, go_sem, HF.out.1, HF.out.2.1, HF.out.2.2]) rfl ⟨by rw [HE.out.1, HE.out.2.1, HE.out.2.2, HO.out], R.out⟩
  | true =>
    have HV1 := Lib.hid hv
    obtain ⟨N, rfl, hN1, hN8, hsN, hrN⟩ := valid_size hv
    have HN := Lib.hid (show _ ∧ _ ∧ _ ∧ _ from ⟨hN1, hN8, hsN, hrN⟩)
    clear hv hsN hrN
    go_wp2_with fail
    refine (StructureValid_any m t q _ HZ.out.2.2.1 HZ.out.2.2.2).mono ?_
    rintro e w2 ⟨rfl, hw⟩
    have HX2 : Hid (Below HB (((w.alloc (.cells #[.int .i64 N, .string s, .string r] 24)).alloc (.cells #[.int .i64 m, .string t, .string q] 24)).alloc (.cells #[.int .i64 0, .string ⟨#[]⟩, .string ⟨#[]⟩] 24)) w2) := HX.out.trans (hw.mono (by have := HBS.out; have := HX.out.size; omega))
    clear hw HX a0 a1 a2 b0 b1 b2 z0 z1 z2 f0 f1 f2
    have HX := HX2
    clear HX2
    obtain ⟨a0, a1, a2⟩ := (BA.out.below HX.out (by have := HHB.out; omega)).c
    obtain ⟨b0, b1, b2⟩ := (BB.out.below HX.out (by have := HHB.out; omega)).c
    obtain ⟨z0, z1, z2⟩ := (BZ.out.below HX.out (by have := HHB.out; omega)).c
    have f0 := (BZ.out.below HX.out (by have := HHB.out; omega)).free 0
    have f1 := (BZ.out.below HX.out (by have := HHB.out; omega)).free 1
    have f2 := (BZ.out.below HX.out (by have := HHB.out; omega)).free 2
    cases hv : validB m t q with
    | false =>
      have HE := Lib.hid (p_no (show okP N s r m t q = false by rw [okP, hv]; simp))
      have HO : Hid (okP N s r m t q = false) := by rw [Hid, okP, hv]; simp
      clear hv
      have BE := (((BZ.out.below HX.out (by have := HHB.out; omega)).set0 0).set1 ⟨#[]⟩).set2 ⟨#[]⟩
      obtain ⟨e0, e1, e2⟩ := BE.c
      have HF := Lib.hid (show _ ∧ _ ∧ _ from ⟨e0, e1, e2⟩)
      clear e0 e1 e2 BE
      have R := Lib.hid ((((AW.out.trans (HX.out.mono (by have := HHB.out; omega))).setCell (p := ⟨w.heap.size + 1 + 1, 0, none⟩) (by simp; omega) (.int .i64 0)).setCell (p := ⟨w.heap.size + 1 + 1, 1, none⟩) (by simp; omega) (.string ⟨#[]⟩)).setCell (p := ⟨w.heap.size + 1 + 1, 2, none⟩) (by simp; omega) (.string ⟨#[]⟩))
      go_wp2
      exact bodyPost_ret (v := .tuple #[.agg #[.int .i64 0, .string ⟨#[]⟩, .string ⟨#[]⟩], .bool false]) (by simp [results, Tryd.results12, go_sem, HF.out.1, HF.out.2.1, HF.out.2.2]) rfl ⟨by rw [HE.out.1, HE.out.2.1, HE.out.2.2, HO.out], R.out⟩
    | true =>
      have HV2 := Lib.hid hv
      obtain ⟨M, rfl, hM1, hM8, hsM, hrM⟩ := valid_size hv
      have HM := Lib.hid (show _ ∧ _ ∧ _ ∧ _ from ⟨hM1, hM8, hsM, hrM⟩)
      clear hv hsM hrM
      have hmul : (0 : Int) ≤ (N : Int) * (M : Int) ∧ (N : Int) * (M : Int) ≤ 64 := by
        have : N * M ≤ 8 * 8 := Nat.mul_le_mul hN8 hM8
        exact ⟨Int.mul_nonneg (by omega) (by omega), by rw [← Int.natCast_mul]; omega⟩
      by_cases hk : (N : Int) * (M : Int) ≤ 8
      · have HO : Hid (okP N s r M t q = true) := by rw [Hid, okP, HV1.out, HV2.out]; simpa using hk
        obtain ⟨K, hK⟩ : ∃ K, K = N * M := ⟨_, rfl⟩
        have HE := Lib.hid (p_yes_at hK HO.out)
        have hk8 : K ≤ 8 := by rw [← Int.natCast_mul, ← hK] at hk; omega
        have hKI : (N : Int) * (M : Int) = (K : Int) := by rw [hK, Int.natCast_mul]
        have HKK := Lib.hid hK
        clear hK
        have HOK := Lib.hid HO.out
        clear HO
        have BAX := Lib.hid (BA.out.below HX.out (by have := HHB.out; omega))
        have BBX := Lib.hid (BB.out.below HX.out (by have := HHB.out; omega))
        have BZX := Lib.hid (BZ.out.below HX.out (by have := HHB.out; omega))
        have BO : Hid (Box 24 (w2.alloc (.cells #[.int .i64 K, .string ⟨#[]⟩, .string ⟨#[]⟩] 24)) w2.heap.size K (bS (pSet s M t) 0) (bR (pRel N r M q) K 0)) := Box.new _ _ _ rfl _ _ _
        have hb0 : Hid (Below w2.heap.size w2 (w2.alloc (.cells #[.int .i64 K, .string ⟨#[]⟩, .string ⟨#[]⟩] 24))) := (Below.refl _ _).alloc (Nat.le_refl _) _
        have AW2 : Hid (Below w.heap.size w w2) := AW.out.trans (HX.out.mono (by have := HHB.out; omega))
        clear f0 f1 f2 a1 a2 b1 b2 z0 z1 z2
        go_wp2
        go_loopw [7] (fun i wr => ∃ k : Nat, k ≤ K ∧ i = .int .i64 k ∧ Box 24 wr w2.heap.size K (bS (pSet s M t) k) (bR (pRel N r M q) K k) ∧ Below w2.heap.size w2 wr) (fun i _ => K - (intOf i).toNat)
        case atStart => exact ⟨0, Nat.zero_le _, by simp, by simpa [hKI] using BO.out, by simpa [hKI] using hb0.out⟩
        case round =>
          obtain ⟨k, hk, rfl, hbox, hnx⟩ := hrel
          have HO := Lib.hid hbox
          have HXO := Lib.hid hnx
          clear hbox hnx
          have BAR := Lib.hid (BAX.out.below HXO.out BAX.out.lt)
          have BBR := Lib.hid (BBX.out.below HXO.out BBX.out.lt)
          have BZR := Lib.hid (BZX.out.below HXO.out BZX.out.lt)
          by_cases hlt : k < K
          · have hkm : k / M < N := Nat.div_lt_of_lt_mul (by rw [Nat.mul_comm, ← HKK.out]; exact hlt)
            have hkn : k % M < M := Nat.mod_lt _ (by omega)
            have HD : Hid (k / M < s.size ∧ s.size ≤ 9223372036854775807 ∧ k % M < t.size ∧ t.size ≤ 9223372036854775807) := ⟨by rw [HN.out.2.2.1]; exact hkm, HZ.out.1, by rw [HM.out.2.2.1]; exact hkn, HZ.out.2.2.1⟩
            have HDD := Lib.hid (show _ ∧ _ from ⟨hkm, hkn⟩)
            obtain ⟨d1, d2, d3⟩ := div_facts (x := k) ⟨hM1, hM8⟩ (by omega)
            clear hkm hkn
            obtain ⟨o0, o1, o2⟩ := HO.out.c
            go_wp2_with fail
            go_cut [38] from 32 to 89 (fun _ wx => Box 24 wx w2.heap.size K (bS (pSet s M t) (k + 1)) (bR (pRel N r M q) K k) ∧ Below w2.heap.size w2 wx)
            case first =>
              have ca : ∀ X : Wd (fun W => Hid (Below wr.heap.size wr W)), X.w.cell? ⟨w.heap.size, 0, none⟩ = some (.int .i64 N) ∧ X.w.cell? ⟨w.heap.size, 1, none⟩ = some (.string s) ∧ X.w.cell? ⟨w.heap.size, 2, none⟩ = some (.string r) := fun X => (BAR.out.below X.ok.out BAR.out.lt).c
              have ca0 := fun X => (ca X).1
              have ca1 := fun X => (ca X).2.1
              have ca2 := fun X => (ca X).2.2
              clear ca
              have cb : ∀ X : Wd (fun W => Hid (Below wr.heap.size wr W)), X.w.cell? ⟨w.heap.size + 1, 0, none⟩ = some (.int .i64 M) ∧ X.w.cell? ⟨w.heap.size + 1, 1, none⟩ = some (.string t) ∧ X.w.cell? ⟨w.heap.size + 1, 2, none⟩ = some (.string q) := fun X => (BBR.out.below X.ok.out BBR.out.lt).c
              have cb0 := fun X => (cb X).1
              have cb1 := fun X => (cb X).2.1
              have cb2 := fun X => (cb X).2.2
              clear cb
              have co : ∀ X : Wd (fun W => Hid (Below wr.heap.size wr W)), X.w.cell? ⟨w2.heap.size, 0, none⟩ = some (.int .i64 K) ∧ X.w.cell? ⟨w2.heap.size, 1, none⟩ = some (.string (bS (pSet s M t) k)) ∧ X.w.cell? ⟨w2.heap.size, 2, none⟩ = some (.string (bR (pRel N r M q) K k)) := fun X => (HO.out.below X.ok.out HO.out.lt).c
              have co0 := fun X => (co X).1
              have co1 := fun X => (co X).2.1
              have co2 := fun X => (co X).2.2
              clear co
              have hne : Nonempty (Wd (fun W => Hid (Below wr.heap.size wr W))) := ⟨⟨wr, Lib.hid (Below.refl _ _)⟩⟩
              cases hb1 : bitAt s (k / M) with
              | false =>
                have HB1 := Lib.hid hb1
                have HP : Hid (pSet s M t k = false) := by rw [Hid, pSet, hb1]; rfl
                clear hb1
                have hadd : ∀ W, (Op.stringOp .add (bS (pSet s M t) k) (bit1 false)).run Tryd.prog W = .ok (.string (bS (pSet s M t) (k + 1))) W := fun W => (run_string_add_sum W _ _ (by rw [bS_size, bit1_size]; omega)).trans (by rw [bS, HP.out])
                refine flow_last (S := (fun W => Hid (Below wr.heap.size wr W))) (by kernel_rfl) (by kernel_rfl) (by kernel_rfl) (by kernel_rfl) (by kernel_rfl) (Lib.hid (Below.refl _ _).drew) ?_
                simp only [List.dropLast_cons_cons, List.dropLast_singleton, List.getLast?_cons_cons, List.getLast?_singleton, Option.toList_some]
                repeat (go_big_quiet_step (first | (go_at_call 54; with_reducible refine (l1Set_at N s r ((k : Int) / (M : Int)) (k / M) false _ rfl HB1.out HD.out.1 HD.out.2.1).mono ?_; rintro e W ⟨rfl, hb⟩; exact ⟨rfl, Wd.on (Wd.ok _) hb⟩) | (go_at_call 53; with_reducible refine (l1Bit_at _ _).mono ?_; rintro e W ⟨rfl, rfl⟩; exact ⟨rfl, _, rfl⟩)))
                refine wpQuiet_nil ?_
                rintro _ ⟨X, rfl⟩
                have HXX := Lib.hid X.ok.out
                have BX2 := HO.out.below HXX.out HO.out.lt
                have f1 := BX2.free 1
                go_wp2_with fail
                go_meet
                exact ⟨BX2.set1 _, (HXO.out.trans (HXX.out.mono HXO.out.size)).setCell (by simp) _⟩
              | true =>
                have HB1 := Lib.hid hb1
                cases hb2 : bitAt t (k % M) with
                | false =>
                  have HB2 := Lib.hid hb2
                  have HP : Hid (pSet s M t k = false) := by rw [Hid, pSet, hb1, hb2]; rfl
                  clear hb1 hb2
                  have hadd : ∀ W, (Op.stringOp .add (bS (pSet s M t) k) (bit1 false)).run Tryd.prog W = .ok (.string (bS (pSet s M t) (k + 1))) W := fun W => (run_string_add_sum W _ _ (by rw [bS_size, bit1_size]; omega)).trans (by rw [bS, HP.out])
                  refine flow_last (S := (fun W => Hid (Below wr.heap.size wr W))) (by kernel_rfl) (by kernel_rfl) (by kernel_rfl) (by kernel_rfl) (by kernel_rfl) (Lib.hid (Below.refl _ _).drew) ?_
                  simp only [List.dropLast_cons_cons, List.dropLast_singleton, List.getLast?_cons_cons, List.getLast?_singleton, Option.toList_some]
                  repeat (go_big_quiet_step (first | (go_at_call 54; with_reducible refine (l1Set_at N s r ((k : Int) / (M : Int)) (k / M) true _ rfl HB1.out HD.out.1 HD.out.2.1).mono ?_; rintro e W ⟨rfl, hb⟩; exact ⟨rfl, Wd.on (Wd.ok _) hb⟩) | (go_at_call 54; with_reducible refine (l1Set_at M t q ((k : Int) % (M : Int)) (k % M) false _ rfl HB2.out HD.out.2.2.1 HD.out.2.2.2).mono ?_; rintro e W ⟨rfl, hb⟩; exact ⟨rfl, Wd.on (Wd.ok _) hb⟩) | (go_at_call 53; with_reducible refine (l1Bit_at _ _).mono ?_; rintro e W ⟨rfl, rfl⟩; exact ⟨rfl, _, rfl⟩)))
                  refine wpQuiet_nil ?_
                  rintro _ ⟨X, rfl⟩
                  have HXX := Lib.hid X.ok.out
                  have BX2 := HO.out.below HXX.out HO.out.lt
                  have f1 := BX2.free 1
                  go_wp2_with fail
                  go_meet
                  exact ⟨BX2.set1 _, (HXO.out.trans (HXX.out.mono HXO.out.size)).setCell (by simp) _⟩
                | true =>
                  have HB2 := Lib.hid hb2
                  have HP : Hid (pSet s M t k = true) := by rw [Hid, pSet, hb1, hb2]; rfl
                  clear hb1 hb2
                  have hadd : ∀ W, (Op.stringOp .add (bS (pSet s M t) k) (bit1 true)).run Tryd.prog W = .ok (.string (bS (pSet s M t) (k + 1))) W := fun W => (run_string_add_sum W _ _ (by rw [bS_size, bit1_size]; omega)).trans (by rw [bS, HP.out])
                  refine flow_last (S := (fun W => Hid (Below wr.heap.size wr W))) (by kernel_rfl) (by kernel_rfl) (by kernel_rfl) (by kernel_rfl) (by kernel_rfl) (Lib.hid (Below.refl _ _).drew) ?_
                  simp only [List.dropLast_cons_cons, List.dropLast_singleton, List.getLast?_cons_cons, List.getLast?_singleton, Option.toList_some]
                  repeat (go_big_quiet_step (first | (go_at_call 54; with_reducible refine (l1Set_at N s r ((k : Int) / (M : Int)) (k / M) true _ rfl HB1.out HD.out.1 HD.out.2.1).mono ?_; rintro e W ⟨rfl, hb⟩; exact ⟨rfl, Wd.on (Wd.ok _) hb⟩) | (go_at_call 54; with_reducible refine (l1Set_at M t q ((k : Int) % (M : Int)) (k % M) true _ rfl HB2.out HD.out.2.2.1 HD.out.2.2.2).mono ?_; rintro e W ⟨rfl, hb⟩; exact ⟨rfl, Wd.on (Wd.ok _) hb⟩) | (go_at_call 53; with_reducible refine (l1Bit_at _ _).mono ?_; rintro e W ⟨rfl, rfl⟩; exact ⟨rfl, _, rfl⟩)))
                  refine wpQuiet_nil ?_
                  rintro _ ⟨X, rfl⟩
                  have HXX := Lib.hid X.ok.out
                  have BX2 := HO.out.below HXX.out HO.out.lt
                  have f1 := BX2.free 1
                  go_wp2_with fail
                  go_meet
                  exact ⟨BX2.set1 _, (HXO.out.trans (HXX.out.mono HXO.out.size)).setCell (by simp) _⟩
            case rest =>
              obtain ⟨hbx, hnx⟩ := hcut
              have HO2 := Lib.hid hbx
              have HX2 := Lib.hid hnx
              clear hbx hnx HO HXO BAR BBR BZR o0 o1 o2
              have HKB : Hid (k * K ≤ 64) := Nat.mul_le_mul (show k ≤ 8 by omega) (show K ≤ 8 by omega)
              go_wp2
              go_loopw [8] (fun i wr => ∃ j : Nat, j ≤ K ∧ i = .int .i64 j ∧ Box 24 wr w2.heap.size K (bS (pSet s M t) (k + 1)) (bRow (bR (pRel N r M q) K k) (pRel N r M q k) j) ∧ Below w2.heap.size w2 wr) (fun i _ => K - (intOf i).toNat)
              case atStart => exact ⟨0, Nat.zero_le _, rfl, HO2.out, HX2.out⟩
              case round =>
                obtain ⟨j, hj, rfl, hbox, hnx⟩ := hrel
                have HO := Lib.hid hbox
                have HXO := Lib.hid hnx
                clear hbox hnx
                have BAR := Lib.hid (BAX.out.below HXO.out BAX.out.lt)
                have BBR := Lib.hid (BBX.out.below HXO.out BBX.out.lt)
                obtain ⟨o0, o1, o2⟩ := HO.out.c
                by_cases hlj : j < K
                · have hjm : j / M < N := Nat.div_lt_of_lt_mul (by rw [Nat.mul_comm, ← HKK.out]; exact hlj)
                  have hjn : j % M < M := Nat.mod_lt _ (by omega)
                  have HG : Hid (j / M < N ∧ N ≤ 8 ∧ r.size = N * N ∧ k % M < M ∧ j % M < M ∧ M ≤ 8 ∧ q.size = M * M) := ⟨hjm, hN8, HN.out.2.2.2, HDD.out.2, hjn, hM8, HM.out.2.2.2⟩
                  obtain ⟨g1, g2, g3⟩ := div_facts (x := j) ⟨hM1, hM8⟩ (by omega)
                  clear hjm hjn
                  go_wp2_with fail
                  have ca : ∀ X : Wd (fun W => Hid (Below wr.heap.size wr W)), X.w.cell? ⟨w.heap.size, 0, none⟩ = some (.int .i64 N) ∧ X.w.cell? ⟨w.heap.size, 1, none⟩ = some (.string s) ∧ X.w.cell? ⟨w.heap.size, 2, none⟩ = some (.string r) := fun X => (BAR.out.below X.ok.out BAR.out.lt).c
                  have ca0 := fun X => (ca X).1
                  have ca1 := fun X => (ca X).2.1
                  have ca2 := fun X => (ca X).2.2
                  clear ca
                  have cb : ∀ X : Wd (fun W => Hid (Below wr.heap.size wr W)), X.w.cell? ⟨w.heap.size + 1, 0, none⟩ = some (.int .i64 M) ∧ X.w.cell? ⟨w.heap.size + 1, 1, none⟩ = some (.string t) ∧ X.w.cell? ⟨w.heap.size + 1, 2, none⟩ = some (.string q) := fun X => (BBR.out.below X.ok.out BBR.out.lt).c
                  have cb0 := fun X => (cb X).1
                  have cb1 := fun X => (cb X).2.1
                  have cb2 := fun X => (cb X).2.2
                  clear cb
                  have co : ∀ X : Wd (fun W => Hid (Below wr.heap.size wr W)), X.w.cell? ⟨w2.heap.size, 0, none⟩ = some (.int .i64 K) ∧ X.w.cell? ⟨w2.heap.size, 1, none⟩ = some (.string (bS (pSet s M t) (k + 1))) ∧ X.w.cell? ⟨w2.heap.size, 2, none⟩ = some (.string (bRow (bR (pRel N r M q) K k) (pRel N r M q k) j)) := fun X => (HO.out.below X.ok.out HO.out.lt).c
                  have co0 := fun X => (co X).1
                  have co1 := fun X => (co X).2.1
                  have co2 := fun X => (co X).2.2
                  clear co
                  have hne : Nonempty (Wd (fun W => Hid (Below wr.heap.size wr W))) := ⟨⟨wr, Lib.hid (Below.refl _ _)⟩⟩
                  cases hb1 : bitAt r (k / M * N + j / M) with
                  | false =>
                    have HB1 := Lib.hid hb1
                    have HP : Hid (pRel N r M q k j = false) := by rw [Hid, pRel, hb1]; rfl
                    clear hb1
                    have hadd : ∀ W, (Op.stringOp .add (bRow (bR (pRel N r M q) K k) (pRel N r M q k) j) (bit1 false)).run Tryd.prog W = .ok (.string (bRow (bR (pRel N r M q) K k) (pRel N r M q k) (j + 1))) W := fun W => (run_string_add_sum W _ _ (by rw [bRow_size, bR_size, bit1_size]; have := HKB.out; omega)).trans (by rw [bRow, HP.out])
                    refine flow_last (S := (fun W => Hid (Below wr.heap.size wr W))) (by kernel_rfl) (by kernel_rfl) (by kernel_rfl) (by kernel_rfl) (by kernel_rfl) (Lib.hid (Below.refl _ _).drew) ?_
                    simp only [List.dropLast_cons_cons, List.dropLast_singleton, List.getLast?_cons_cons, List.getLast?_singleton, Option.toList_some]
                    repeat (go_big_quiet_step (first | (go_at_call 55; with_reducible refine (l1Rel_at N s r ((k : Int) / (M : Int)) ((j : Int) / (M : Int)) (k / M) (j / M) false _ rfl rfl HB1.out HDD.out.1 HG.out.1 HG.out.2.1 HG.out.2.2.1).mono ?_; rintro e W ⟨rfl, hb⟩; exact ⟨rfl, Wd.on (Wd.ok _) hb⟩) | (go_at_call 53; with_reducible refine (l1Bit_at _ _).mono ?_; rintro e W ⟨rfl, rfl⟩; exact ⟨rfl, _, rfl⟩)))
                    refine wpQuiet_nil ?_
                    rintro _ ⟨X, rfl⟩
                    have HXX := Lib.hid X.ok.out
                    have BX2 := HO.out.below HXX.out HO.out.lt
                    have f2 := BX2.free 2
                    have R := Lib.hid (show _ ∧ _ from ⟨BX2.set2 (bRow (bR (pRel N r M q) K k) (pRel N r M q k) (j + 1)), (HXO.out.trans (HXX.out.mono HXO.out.size)).setCell (p := ⟨w2.heap.size, 2, none⟩) (by simp) (.string (bRow (bR (pRel N r M q) K k) (pRel N r M q k) (j + 1)))⟩)
                    go_wp2_with fail
                    go_roundw
                    case rel => exact ⟨j + 1, by omega, by go_num, R.out.1, R.out.2⟩
                    case measure => simp [intOf]; omega
                  | true =>
                    have HB1 := Lib.hid hb1
                    cases hb2 : bitAt q (k % M * M + j % M) with
                    | false =>
                      have HB2 := Lib.hid hb2
                      have HP : Hid (pRel N r M q k j = false) := by rw [Hid, pRel, hb1, hb2]; rfl
                      clear hb1 hb2
                      have hadd : ∀ W, (Op.stringOp .add (bRow (bR (pRel N r M q) K k) (pRel N r M q k) j) (bit1 false)).run Tryd.prog W = .ok (.string (bRow (bR (pRel N r M q) K k) (pRel N r M q k) (j + 1))) W := fun W => (run_string_add_sum W _ _ (by rw [bRow_size, bR_size, bit1_size]; have := HKB.out; omega)).trans (by rw [bRow, HP.out])
                      refine flow_last (S := (fun W => Hid (Below wr.heap.size wr W))) (by kernel_rfl) (by kernel_rfl) (by kernel_rfl) (by kernel_rfl) (by kernel_rfl) (Lib.hid (Below.refl _ _).drew) ?_
                      simp only [List.dropLast_cons_cons, List.dropLast_singleton, List.getLast?_cons_cons, List.getLast?_singleton, Option.toList_some]
                      repeat (go_big_quiet_step (first | (go_at_call 55; with_reducible refine (l1Rel_at N s r ((k : Int) / (M : Int)) ((j : Int) / (M : Int)) (k / M) (j / M) true _ rfl rfl HB1.out HDD.out.1 HG.out.1 HG.out.2.1 HG.out.2.2.1).mono ?_; rintro e W ⟨rfl, hb⟩; exact ⟨rfl, Wd.on (Wd.ok _) hb⟩) | (go_at_call 55; with_reducible refine (l1Rel_at M t q ((k : Int) % (M : Int)) ((j : Int) % (M : Int)) (k % M) (j % M) false _ rfl rfl HB2.out HG.out.2.2.2.1 HG.out.2.2.2.2.1 HG.out.2.2.2.2.2.1 HG.out.2.2.2.2.2.2).mono ?_; rintro e W ⟨rfl, hb⟩; exact ⟨rfl, Wd.on (Wd.ok _) hb⟩) | (go_at_call 53; with_reducible refine (l1Bit_at _ _).mono ?_; rintro e W ⟨rfl, rfl⟩; exact ⟨rfl, _, rfl⟩)))
                      refine wpQuiet_nil ?_
                      rintro _ ⟨X, rfl⟩
                      have HXX := Lib.hid X.ok.out
                      have BX2 := HO.out.below HXX.out HO.out.lt
                      have f2 := BX2.free 2
                      have R := Lib.hid (show _ ∧ _ from ⟨BX2.set2 (bRow (bR (pRel N r M q) K k) (pRel N r M q k) (j + 1)), (HXO.out.trans (HXX.out.mono HXO.out.size)).setCell (p := ⟨w2.heap.size, 2, none⟩) (by simp) (.string (bRow (bR (pRel N r M q) K k) (pRel N r M q k) (j + 1)))⟩)
                      go_wp2_with fail
                      go_roundw
                      case rel => exact ⟨j + 1, by omega, by go_num, R.out.1, R.out.2⟩
                      case measure => simp [intOf]; omega
                    | true =>
                      have HB2 := Lib.hid hb2
                      have HP : Hid (pRel N r M q k j = true) := by rw [Hid, pRel, hb1, hb2]; rfl
                      clear hb1 hb2
                      have hadd : ∀ W, (Op.stringOp .add (bRow (bR (pRel N r M q) K k) (pRel N r M q k) j) (bit1 true)).run Tryd.prog W = .ok (.string (bRow (bR (pRel N r M q) K k) (pRel N r M q k) (j + 1))) W := fun W => (run_string_add_sum W _ _ (by rw [bRow_size, bR_size, bit1_size]; have := HKB.out; omega)).trans (by rw [bRow, HP.out])
                      refine flow_last (S := (fun W => Hid (Below wr.heap.size wr W))) (by kernel_rfl) (by kernel_rfl) (by kernel_rfl) (by kernel_rfl) (by kernel_rfl) (Lib.hid (Below.refl _ _).drew) ?_
                      simp only [List.dropLast_cons_cons, List.dropLast_singleton, List.getLast?_cons_cons, List.getLast?_singleton, Option.toList_some]
                      repeat (go_big_quiet_step (first | (go_at_call 55; with_reducible refine (l1Rel_at N s r ((k : Int) / (M : Int)) ((j : Int) / (M : Int)) (k / M) (j / M) true _ rfl rfl HB1.out HDD.out.1 HG.out.1 HG.out.2.1 HG.out.2.2.1).mono ?_; rintro e W ⟨rfl, hb⟩; exact ⟨rfl, Wd.on (Wd.ok _) hb⟩) | (go_at_call 55; with_reducible refine (l1Rel_at M t q ((k : Int) % (M : Int)) ((j : Int) % (M : Int)) (k % M) (j % M) true _ rfl rfl HB2.out HG.out.2.2.2.1 HG.out.2.2.2.2.1 HG.out.2.2.2.2.2.1 HG.out.2.2.2.2.2.2).mono ?_; rintro e W ⟨rfl, hb⟩; exact ⟨rfl, Wd.on (Wd.ok _) hb⟩) | (go_at_call 53; with_reducible refine (l1Bit_at _ _).mono ?_; rintro e W ⟨rfl, rfl⟩; exact ⟨rfl, _, rfl⟩)))
                      refine wpQuiet_nil ?_
                      rintro _ ⟨X, rfl⟩
                      have HXX := Lib.hid X.ok.out
                      have BX2 := HO.out.below HXX.out HO.out.lt
                      have f2 := BX2.free 2
                      have R := Lib.hid (show _ ∧ _ from ⟨BX2.set2 (bRow (bR (pRel N r M q) K k) (pRel N r M q k) (j + 1)), (HXO.out.trans (HXX.out.mono HXO.out.size)).setCell (p := ⟨w2.heap.size, 2, none⟩) (by simp) (.string (bRow (bR (pRel N r M q) K k) (pRel N r M q k) (j + 1)))⟩)
                      go_wp2_with fail
                      go_roundw
                      case rel => exact ⟨j + 1, by omega, by go_num, R.out.1, R.out.2⟩
                      case measure => simp [intOf]; omega
                · obtain rfl : j = K := by omega
                  have R : Hid (Box 24 wr w2.heap.size j (bS (pSet s M t) (k + 1)) (bR (pRel N r M q) j (k + 1)) ∧ Below w2.heap.size w2 wr) := ⟨HO.out, HXO.out⟩
                  clear HO HXO
                  go_wp2
                  go_roundw
                  case rel =>
                    exact ⟨k + 1, by omega, by go_num, R.out.1, R.out.2⟩
                  case measure => simp [intOf]; omega
          · obtain rfl : k = K := by omega
            obtain ⟨o0, o1, o2⟩ := HO.out.c
            obtain ⟨z0, z1, z2⟩ := BZR.out.c
            have f0 := BZR.out.free 0
            have f1 := BZR.out.free 1
            have f2 := BZR.out.free 2
            have BE := ((BZR.out.set0 (k : Int)).set1 (bS (pSet s M t) k)).set2 (bR (pRel N r M q) k k)
            obtain ⟨e0, e1, e2⟩ := BE.c
            have HF := Lib.hid (show _ ∧ _ ∧ _ from ⟨e0, e1, e2⟩)
            clear e0 e1 e2 BE
            have R := Lib.hid ((((AW2.out.trans (HXO.out.mono AW2.out.size)).setCell (p := ⟨w.heap.size + 1 + 1, 0, none⟩) (by simp; omega) (.int .i64 (k : Int))).setCell (p := ⟨w.heap.size + 1 + 1, 1, none⟩) (by simp; omega) (.string (bS (pSet s M t) k))).setCell (p := ⟨w.heap.size + 1 + 1, 2, none⟩) (by simp; omega) (.string (bR (pRel N r M q) k k)))
            go_wp2
            exact bodyPost_ret (v := .tuple #[.agg #[.int .i64 (k : Int), .string (bS (pSet s M t) k), .string (bR (pRel N r M q) k k)], .bool true]) (by simp [results, Tryd.results12, go_sem, HF.out.1, HF.out.2.1, HF.out.2.2]) rfl ⟨by rw [HE.out.1, HE.out.2.1, HE.out.2.2, HOK.out], R.out⟩
      · have HE := Lib.hid (p_no (show okP N s r M t q = false by rw [okP]; simp; intros; omega))
        have HO : Hid (okP N s r M t q = false) := by rw [Hid, okP]; simp; intros; omega
        have BE := (((BZ.out.below HX.out (by have := HHB.out; omega)).set0 0).set1 ⟨#[]⟩).set2 ⟨#[]⟩
        obtain ⟨e0, e1, e2⟩ := BE.c
        have HF := Lib.hid (show _ ∧ _ ∧ _ from ⟨e0, e1, e2⟩)
        clear e0 e1 e2 BE
        have R := Lib.hid ((((AW.out.trans (HX.out.mono (by have := HHB.out; omega))).setCell (p := ⟨w.heap.size + 1 + 1, 0, none⟩) (by simp; omega) (.int .i64 0)).setCell (p := ⟨w.heap.size + 1 + 1, 1, none⟩) (by simp; omega) (.string ⟨#[]⟩)).setCell (p := ⟨w.heap.size + 1 + 1, 2, none⟩) (by simp; omega) (.string ⟨#[]⟩))
        go_wp2
        exact bodyPost_ret (v := .tuple #[.agg #[.int .i64 0, .string ⟨#[]⟩, .string ⟨#[]⟩], .bool false]) (by simp [results, Tryd.results12, go_sem, HF.out.1, HF.out.2.1, HF.out.2.2]) rfl ⟨by rw [HE.out.1, HE.out.2.1, HE.out.2.2, HO.out], R.out⟩

theorem specE (n : Int) (s r : ByteArray) (m : Int) (t q : ByteArray) (_ : (Lit.int .i64 n).wf = true) (_ : (Lit.int .i64 m).wf = true) : s.size + r.size + (t.size + q.size) ≤ 1048576 → ∀ (w : World),
    Calls Tryd.prog 12 #[.agg #[.int .i64 n, .string s, .string r], .agg #[.int .i64 m, .string t, .string q]] w fun e w' => e = .returned (.tuple #[.agg #[.int .i64 (pn n s r m t q), .string (ps n s r m t q), .string (pr n s r m t q)], .bool (okP n s r m t q)]) ∧ Below w.heap.size w w' :=
  fun h w => specProduct_any n s r m t q w (by omega) (by omega) (by omega) (by omega)

theorem implE (n : Int) (s r : ByteArray) (m : Int) (t q : ByteArray) (_ : (Lit.int .i64 n).wf = true) (_ : (Lit.int .i64 m).wf = true) : s.size + r.size + (t.size + q.size) ≤ 1048576 → ∀ (w : World),
    Calls Tryd.prog 11 #[.agg #[.int .i64 n, .string s, .string r], .agg #[.int .i64 m, .string t, .string q]] w fun e w' => e = .returned (.tuple #[.agg #[.int .i64 (pn n s r m t q), .string (ps n s r m t q), .string (pr n s r m t q)], .bool (okP n s r m t q)]) ∧ Below w.heap.size w w' :=
  fun h w => implProduct_any n s r m t q w (by omega) (by omega) (by omega) (by omega)

end Go.Proofs.YtefneihlgclkbaaDoor.prod
