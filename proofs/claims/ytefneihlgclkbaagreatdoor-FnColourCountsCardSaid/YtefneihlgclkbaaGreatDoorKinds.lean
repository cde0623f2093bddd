/- CountKinds of the program at one element. -/
import Derived.Test.YtefneihlgclkbaaGreatDoorTell
import Derived.Test.YtefneihlgclkbaaGreatDoorCountL
import Derived.Test.YtefneihlgclkbaaGreatDoorFlow
import Derived.Test.YtefneihlgclkbaaGreatDoorPkC
import Derived.Maps.Own
import Derived.Maps.OwnOps
import Derived.Maps.OwnSet
namespace Go.Proofs.YtefneihlgclkbaaGreatDoor.kinds
set_option linter.unusedVariables false
set_option linter.unusedSimpArgs false
open Go.ChangeShapes Go.WideShapes Go.ChangeAt Go.RowKit Go.Maps
open Go.Proofs.YtefneihlgclkbaaGreatDoor.lib Go.Proofs.YtefneihlgclkbaaGreatDoor.st Go.Proofs.YtefneihlgclkbaaGreatDoor.base Go.Proofs.YtefneihlgclkbaaGreatDoor.near Go.Proofs.YtefneihlgclkbaaGreatDoor.tell Go.Proofs.YtefneihlgclkbaaGreatDoor.countl Go.Proofs.YtefneihlgclkbaaGreatDoor.make Go.Proofs.YtefneihlgclkbaaGreatDoor.flow Go.Proofs.YtefneihlgclkbaaGreatDoor.sll

theorem row_mono {T : TypeId} {w : World} {B B' n : Nat} {v : Value} {xs : List Value} (h : w.ownsRow B T 1 v n xs) (hB : B' ≤ B) : w.ownsRow B' T 1 v n xs := by
  refine ⟨h.1, ?_⟩
  rcases h.2 with hn | ⟨g, cap, cur, hv, hb, r⟩
  · exact .inl hn
  · exact .inr ⟨g, cap, cur, hv, by omega, r⟩
theorem at_new {w : World} {o : Obj} {k : Nat} (hk : w.heap.size = k) : (w.alloc o).heap[k]? = some o := by subst hk; exact heap_alloc_new w o
set_option maxHeartbeats 400000 in
theorem nameOf_zero (w : World) : Calls Tryz.prog 71 #[.int .i64 (0 : Nat)] w fun e w' => e = .returned (.string ⟨#[97]⟩) ∧ w' = w := by
  go_enter Tryz.func71, Tryz.ntmps71
  go_wp2
  go_ret
  exact ⟨rfl, rfl⟩
/-- both bits, of the first k elements of a list of one -/
def twoB (b0 b1 : Bool) (k : Nat) : List Bool := if k = 0 then [] else [b0, b1]
set_option maxHeartbeats 1600000 in
set_option maxRecDepth 100000 in
theorem factsOf_one (N : Nat) (s r : ByteArray) (x b off cap : Nat) (w : World) (hx : x < N) (hn : N ≤ 8) (hs : s.size = N) (hr : r.size = N * N) (hc : w.cell? ⟨b, off, none⟩ = some (.int .i64 x)) :
    Calls Tryz.prog 47 #[.agg #[.int .i64 N, .string s, .string r], .slice (some ⟨b, off, none⟩) 1 cap] w fun e w' => ∃ v1 v2, e = .returned (.tuple #[v1, v2]) ∧ w'.ownsRow w.heap.size 4 1 v2 2 [.bool (bitAt s x), .bool (bitAt r (x * N + x))] ∧ Below w.heap.size w w' := by
  obtain ⟨H, hH⟩ : ∃ H, H = w.heap.size := ⟨_, rfl⟩
  obtain ⟨W1, hW1⟩ : ∃ W1, W1 = ((((w.alloc (.cells #[.int .i64 N, .string s, .string r] 24)).alloc (.cells #[] 9)).alloc (.cells #[] 4)).alloc (.cells #[.slice (some ⟨w.heap.size + 1, 0, none⟩) 0 0] 67)).alloc (.cells #[.slice (some ⟨w.heap.size + 1 + 1, 0, none⟩) 0 0] 65) := ⟨_, rfl⟩
  have BX : Hid (Box 24 W1 H N s r) := by
    rw [hW1, hH]
    refine (Box.new 24 w w.heap.size rfl N s r).below (C := w.heap.size + 1) ?_ (by omega)
    exact ((((Below.refl _ _).alloc (by simp) _).alloc (by simp only [World.size_alloc]; omega) _).alloc (by simp only [World.size_alloc]; omega) _).alloc (by simp only [World.size_alloc]; omega) _
  have AW : Hid (Below H w W1) := by
    rw [hW1, hH]
    exact (((((Below.refl _ _).alloc (Nat.le_refl _) _).alloc (by simp) _).alloc (by simp only [World.size_alloc]; omega) _).alloc (by simp only [World.size_alloc]; omega) _).alloc (by simp only [World.size_alloc]; omega) _
  obtain ⟨cf, hcf⟩ : ∃ cf, cf = w.heap.size + 1 + 1 + 1 := ⟨_, rfl⟩
  have KF : Hid (Kf cf (cf + 1) (H + 1) 0 (twoB (bitAt s x) (bitAt r (x * N + x)) 0) W1) := by
    rw [hH, hcf]
    refine ⟨.slice (some ⟨w.heap.size + 1, 0, none⟩) 0 0, .slice (some ⟨w.heap.size + 1 + 1, 0, none⟩) 0 0, [], ?_, ?_, ?_, ?_, ?_, ?_, ?_⟩
    · rw [hW1, heap_alloc_old _ _ (by simp)]
      exact at_new (by simp)
    · rw [hW1]; exact at_new (by simp)
    · rw [hW1]
      have h0 : (((w.alloc (.cells #[.int .i64 N, .string s, .string r] 24)).alloc (.cells #[] 9))).ownsRow (w.heap.size + 1) 9 1 (.slice (some ⟨w.heap.size + 1, 0, none⟩) 0 0) 0 [] := by
        have := World.ownsRow_made (size := 1) (e := 9) (w.alloc (.cells #[.int .i64 N, .string s, .string r] 24)) #[] 0 (base := w.heap.size + 1) (by simp) (Nat.zero_le _) rfl
        simpa using this
      exact ((h0.alloc _).alloc _).alloc _
    · rw [hW1]
      have h0 : ((((w.alloc (.cells #[.int .i64 N, .string s, .string r] 24)).alloc (.cells #[] 9))).alloc (.cells #[] 4)).ownsRow (w.heap.size + 1) 4 1 (.slice (some ⟨w.heap.size + 1 + 1, 0, none⟩) 0 0) 0 [] := by
        have := World.ownsRow_made (size := 1) (e := 4) ((w.alloc (.cells #[.int .i64 N, .string s, .string r] 24)).alloc (.cells #[] 9)) #[] 0 (base := w.heap.size + 1) (by simp) (Nat.zero_le _) rfl
        simpa using this
      exact (h0.alloc _).alloc _
    · intro k hk; simp [Value.ownBlock] at hk; omega
    · intro k hk; simp [Value.ownBlock] at hk; omega
    · intro k h1 h2; simp [Value.ownBlock] at h1 h2; omega
  have hbH : b < H := by rw [hH]; exact World.block_lt_of_cell? w _ hc
  have HC := Lib.hid hc
  have HS := Lib.hid (show _ ∧ _ from ⟨hs, hr⟩)
  obtain ⟨b0, hb0⟩ : ∃ q, q = bitAt s x := ⟨_, rfl⟩
  obtain ⟨b1, hb1⟩ : ∃ q, q = bitAt r (x * N + x) := ⟨_, rfl⟩
  rw [← hb0, ← hb1] at KF ⊢
  have HB := Lib.hid (show _ ∧ _ from ⟨hb0, hb1⟩)
  have HZ1 : Hid (W1.heap.size = H + 5) := by rw [Hid, hW1, hH]; simp
  have HW1 := Lib.hid hW1
  have HH := Lib.hid hH
  have HCF := Lib.hid hcf
  have hcf2 : H + 3 = cf := by rw [hcf, hH]
  have HCF2 := Lib.hid hcf2
  have C0 : Hid (∀ W, Calls Tryz.prog 36 #[.agg #[.int .i64 N, .string s, .string r], .int .i64 x] W fun e w' => e = .returned (.bool b0) ∧ Below W.heap.size W w') := fun W => by rw [hb0]; exact inSet_any N s r x W (by omega) (by omega)
  have C1 : Hid (∀ W, Calls Tryz.prog 37 #[.agg #[.int .i64 N, .string s, .string r], .int .i64 x, .int .i64 x] W fun e w' => e = .returned (.bool b1) ∧ Below W.heap.size W w') := fun W => by rw [hb1]; exact inRel_any N s r x x W hx hx hn hr
  clear hc hs hr hb0 hb1 hW1 hcf hcf2 hH
  go_enter Tryz.func47, Tryz.ntmps47
  go_wp2_with fail
  rw [← HW1.out, ← HCF.out, ← HH.out]
  go_loopw [20] (fun i wr => ∃ k : Nat, k ≤ 1 ∧ i = .int .i64 k ∧ Kf cf (cf + 1) (H + 1) (2 * k) (twoB b0 b1 k) wr ∧ Below (H + 1) W1 wr) (fun i _ => 1 - (intOf i).toNat)
  case atStart => exact ⟨0, by omega, rfl, KF.out, Below.refl _ _⟩
  case round =>
    obtain ⟨k, hk, rfl, hkf, hb⟩ := hrel
    have HK := Lib.hid hkf
    have HX := Lib.hid hb
    have hz := hb.size
    clear hkf hb KF
    by_cases hk0 : k < 1
    · obtain rfl : k = 0 := by omega
      have c0 : wr.cell? ⟨b, off, none⟩ = some (.int .i64 x) := by
        rw [HX.out.cell (p := ⟨b, off, none⟩) (by show b < H + 1; omega), AW.out.cell (p := ⟨b, off, none⟩) hbH]; exact HC.out
      go_wp2_with fail
      refine (nameOf_zero _).mono ?_
      rintro e w2 ⟨rfl, hw2⟩
      subst hw2
      obtain ⟨a0, a1, a2⟩ := Box.c (BX.out.below HX.out (by omega))
      clear c0
      go_wp2_with fail
      refine (C0.out _).mono ?_
      rintro e w3 ⟨rfl, hb3⟩
      have K3 := Lib.hid (HK.out.below hb3 (Nat.le_refl _))
      have X3 : Hid (Below (H + 1) W1 w3) := HX.out.trans (hb3.mono (by have := HX.out.size; have := HZ1.out; omega))
      clear hb3 HK HX a0 a1 a2
      go_wp2_with fail
      refine (tell_any cf (cf + 1) (H + 1) _ _ _ b0 _ K3.out (by omega) (by have := HCF2.out; omega) (by omega) (by simp [twoB])).mono ?_
      rintro e w4 ⟨⟨v4, rfl⟩, hk4, hb4⟩
      have K4 := Lib.hid hk4
      have X4 : Hid (Below (H + 1) W1 w4) := X3.out.trans hb4
      clear hk4 hb4 K3 X3
      obtain ⟨a0, a1, a2⟩ := Box.c (BX.out.below X4.out (by omega))
      go_wp2_with fail
      refine (C1.out _).mono ?_
      rintro e w5 ⟨rfl, hb5⟩
      have K5 := Lib.hid (K4.out.below hb5 (Nat.le_refl _))
      have X5 : Hid (Below (H + 1) W1 w5) := X4.out.trans (hb5.mono (by have := X4.out.size; have := HZ1.out; omega))
      clear hb5 K4 X4 a0 a1 a2
      go_wp2_with fail
      refine (tell_any cf (cf + 1) (H + 1) _ _ _ b1 _ K5.out (by omega) (by have := HCF2.out; omega) (by omega) (by simp [twoB])).mono ?_
      rintro e w6 ⟨⟨v6, rfl⟩, hk6, hb6⟩
      have K6 : Hid (Kf cf (cf + 1) (H + 1) (2 * (0 + 1)) (twoB b0 b1 (0 + 1)) w6) := hk6
      have X6 : Hid (Below (H + 1) W1 w6) := X5.out.trans hb6
      clear hk6 hb6 K5 X5
      go_wp2_with fail
      go_loopw [50] (fun i wr => i = .int .i64 0 ∧ wr = w6) (fun _ _ => 0)
      case atStart => exact ⟨rfl, rfl⟩
      case round =>
        obtain ⟨rfl, rfl⟩ := hrel
        go_wp2
        go_roundw
        case rel => first | exact ⟨0 + 1, by omega, by go_num, K6.out, X6.out⟩ | ((repeat apply Exists.intro); exact ⟨⟨0 + 1, by omega, by go_num, K6.out, X6.out⟩, rfl⟩)
        case measure => simp [intOf]
    · obtain rfl : k = 1 := by omega
      obtain ⟨v1, v2, xs, h1, h2, h3, h4, h5⟩ := HK.out
      have c1 : wr.cell? ⟨cf, 0, none⟩ = some v1 := by simp [World.cell?, h1]
      have c2 : wr.cell? ⟨cf + 1, 0, none⟩ = some v2 := by simp [World.cell?, h2]
      have q1 : ∀ X : Wd (fun Z => Z = wr.drew), X.w.cell? ⟨cf, 0, none⟩ = some v1 := fun X => by rw [X.ok]; exact c1
      have q2 : ∀ X : Wd (fun Z => Z = wr.drew), X.w.cell? ⟨cf + 1, 0, none⟩ = some v2 := fun X => by rw [X.ok]; exact c2
      have hne : Nonempty (Wd (fun Z => Z = wr.drew)) := ⟨⟨wr.drew, rfl⟩⟩
      have R : Hid (wr.drew.ownsRow H 4 1 v2 2 [.bool b0, .bool b1] ∧ Below H w wr.drew) := by
        refine ⟨?_, (AW.out.trans (HX.out.mono (by omega))).drew⟩
        have h6 : wr.drew.ownsRow (H + 1) 4 1 v2 2 [.bool b0, .bool b1] := h4.kept (row := none) ⟨rfl, rfl, rfl, Nat.le_refl _, fun _ _ _ => rfl⟩ (by cases v2.ownBlock <;> simp)
        exact row_mono h6 (by omega)
      clear h1 h2 h3 h4 h5 c1 c2 HK
      go_wp2_with fail
      refine flow_all (S := (fun Z => Z = wr.drew)) (by kernel_rfl) (by kernel_rfl) rfl ?_
      repeat (go_big_quiet_step (fail))
      refine wpQuiet_nil ?_
      rintro _ ⟨X, rfl⟩
      have hX : X.w = wr.drew := X.ok
      rw [hX]
      clear q1 q2 hne hX
      go_wp2
      go_ret2
      exact ⟨v1, v2, rfl, by rw [← HH.out]; exact R.out.1, by rw [← HH.out]; exact R.out.2⟩
/-- the text of the atoms of one element, after k of both facts -/
def keyTo (b0 b1 : Bool) (k : Nat) : ByteArray := if k = 0 then ⟨#[]⟩ else if k = 1 then bit1 b0 else bit1 b0 ++ bit1 b1
set_option maxHeartbeats 1600000 in
set_option maxRecDepth 100000 in
theorem atomsOf_one (N : Nat) (s r : ByteArray) (x b off cap : Nat) (w : World) (hx : x < N) (hn : N ≤ 8) (hs : s.size = N) (hr : r.size = N * N) (hc : w.cell? ⟨b, off, none⟩ = some (.int .i64 x)) :
    Calls Tryz.prog 31 #[.agg #[.int .i64 N, .string s, .string r], .slice (some ⟨b, off, none⟩) 1 cap] w fun e w' => e = .returned (.string (key1 N s r x)) ∧ Below w.heap.size w w' := by
  have hbl : b < w.heap.size := World.block_lt_of_cell? w _ hc
  have AL : Below w.heap.size w (w.alloc (.cells #[.int .i64 N, .string s, .string r] 24)) := (Below.refl _ _).alloc (Nat.le_refl _) _
  have F := Lib.hid (factsOf_one N s r x b off cap (w.alloc (.cells #[.int .i64 N, .string s, .string r] 24)) hx hn hs hr (by rw [AL.cell (p := ⟨b, off, none⟩) hbl]; exact hc))
  have A := Lib.hid AL
  obtain ⟨b0, hb0⟩ : ∃ q, q = bitAt s x := ⟨_, rfl⟩
  obtain ⟨b1, hb1⟩ : ∃ q, q = bitAt r (x * N + x) := ⟨_, rfl⟩
  have HK : Hid (key1 N s r x = keyTo b0 b1 2) := by rw [hb0, hb1]; rfl
  rw [← hb0, ← hb1] at F
  have BX : Hid (Box 24 (w.alloc (.cells #[.int .i64 N, .string s, .string r] 24)) w.heap.size N s r) := Box.new _ w _ rfl _ _ _
  clear hc hs hr hb0 hb1 AL
  go_enter Tryz.func31, Tryz.ntmps31
  go_wp2_with fail
  refine F.out.mono ?_
  rintro e w2 ⟨v1, v2, rfl, hown, hb⟩
  have HB := Lib.hid (A.out.trans (hb.mono (by simp)))
  have HO := Lib.hid (row_mono hown (B' := w.heap.size) (by simp))
  obtain ⟨g, cp, rfl⟩ : ∃ g cp, v2 = .slice (some ⟨g, 0, none⟩) 2 cp := by
    rcases hown.2 with ⟨_, h⟩ | ⟨g, cp, cur, hv, _⟩
    · cases h
    · exact ⟨g, cp, hv⟩
  have k0 := World.ownsRow.cellAt hown 0 (by omega)
  have k1 := World.ownsRow.cellAt hown 1 (by omega)
  have c0 : w2.cell? ⟨g, 0, none⟩ = some (.bool b0) := k0
  have c1 : w2.cell? ⟨g, 1, none⟩ = some (.bool b1) := k1
  clear hown hb F k0 k1
  go_wp2_with fail
  go_loopw [7, 18] (fun t i wr => ∃ k : Nat, k ≤ 2 ∧ i = .int .i64 k ∧ t = .string (keyTo b0 b1 k) ∧ Below w2.heap.size w2 wr) (fun _ i _ => 2 - (intOf i).toNat)
  case atStart => exact ⟨0, by omega, rfl, rfl, Below.refl _ _⟩
  case round =>
    obtain ⟨k, hk, rfl, rfl, hb⟩ := hrel
    have HX := Lib.hid hb
    have hg : g < w2.heap.size := World.block_lt_of_cell? w2 _ c0
    have d0 : wr.cell? ⟨g, 0, none⟩ = some (.bool b0) := by rw [hb.cell (p := ⟨g, 0, none⟩) hg]; exact c0
    have d1 : wr.cell? ⟨g, 1, none⟩ = some (.bool b1) := by rw [hb.cell (p := ⟨g, 1, none⟩) hg]; exact c1
    clear hb
    by_cases hk2 : k < 2
    · by_cases hk0 : k = 0
      · subst hk0
        go_wp2_with fail
        refine (bitOf_at b0 _).mono ?_
        rintro e w5 ⟨rfl, rfl⟩
        go_wp2
        go_roundw
        case rel => first | exact ⟨0 + 1, by omega, by go_num, rfl, HX.out⟩ | ((repeat apply Exists.intro); exact ⟨⟨0 + 1, by omega, by go_num, rfl, HX.out⟩, rfl⟩)
        case measure => simp [intOf]
      · obtain rfl : k = 1 := by omega
        go_wp2_with fail
        refine (bitOf_at b1 _).mono ?_
        rintro e w5 ⟨rfl, rfl⟩
        go_wp2
        go_roundw
        case rel => first | exact ⟨1 + 1, by omega, by go_num, rfl, HX.out⟩ | ((repeat apply Exists.intro); exact ⟨⟨1 + 1, by omega, by go_num, rfl, HX.out⟩, rfl⟩)
        case measure => simp [intOf]
    · obtain rfl : k = 2 := by omega
      have HR : Hid (Below w.heap.size w wr) := HB.out.trans (HX.out.mono HB.out.size)
      go_wp2
      go_ret
      exact ⟨by rw [HK.out]; rfl, HR.out⟩
/-- the lists of one element, of the first k -/
def singles (k : Nat) : List (List Int) := (List.range k).map fun i : Nat => [(i : Int)]
theorem singles_succ (k : Nat) : singles (k + 1) = singles k ++ [[(k : Int)]] := by simp [singles, List.range_succ]
theorem singles_len (k : Nat) : (singles k).length = k := by simp [singles]
theorem singles_get {k i : Nat} (h : i < k) : (singles k).getD i [] = [(i : Int)] := by simp [singles, List.getD_eq_getElem?_getD, h]
theorem eRow (T : TypeId) (w : World) (B H : Nat) (hH : w.heap.size = H) (hB : B ≤ H) : OwnI T (w.alloc (.cells #[] T)) B (.slice (some ⟨H, 0, none⟩) 0 0) [] := by
  subst hH
  exact World.ownsRow_made w #[] 0 hB (by decide) rfl
/-- the state of the inner loop -/
def St1 (w : World) (B X : Nat) (v : Value) (wr : World) : Prop := OwnL wr B v (singles X) ∧ Below B w wr
set_option maxHeartbeats 3200000 in
set_option maxRecDepth 100000 in
theorem listsOf_one (N : Nat) (w : World) (h1 : 1 ≤ N) (h8 : N ≤ 8) :
    Calls Tryz.prog 30 #[.int .i64 N, .int .i64 1] w fun e w' => ∃ g cap, e = .returned (.slice (some ⟨g, 0, none⟩) N cap) ∧ OwnL w' w.heap.size (.slice (some ⟨g, 0, none⟩) N cap) (singles N) ∧ Below w.heap.size w w' := by
  obtain ⟨W1, hW1⟩ : ∃ W1, W1 = (w.alloc (.cells #[] 3)).alloc (.cells #[.slice (some ⟨w.heap.size, 0, none⟩) 0 0] 27) := ⟨_, rfl⟩
  have AW : Hid (Below w.heap.size w W1) := by rw [hW1]; exact ((Below.refl _ _).alloc (Nat.le_refl _) _).alloc (by simp) _
  have CO : Hid (W1.cell? ⟨w.heap.size + 1, 0, none⟩ = some (.slice (some ⟨w.heap.size, 0, none⟩) 0 0)) := by
    rw [hW1, Hid]
    have : ((w.alloc (.cells #[] 3)).alloc (.cells #[.slice (some ⟨w.heap.size, 0, none⟩) 0 0] 27)).heap[w.heap.size + 1]? = some (.cells #[.slice (some ⟨w.heap.size, 0, none⟩) 0 0] 27 (0, 0)) := at_new (by simp)
    simp only [World.cell?, this]
    rfl
  have HW1 := Lib.hid hW1
  have HZ1 : Hid (W1.heap.size = w.heap.size + 2) := by rw [Hid, hW1]; simp
  clear hW1
  go_enter Tryz.func30, Tryz.ntmps30
  go_wp2_with fail
  rw [← HW1.out]
  go_loopw [5, 13] (fun v i wr => (i = .int .i64 (0 : Nat) ∧ v = .slice (some ⟨w.heap.size + 1, 0, none⟩) 1 1 ∧ wr = W1) ∨ (i = .int .i64 (1 : Nat) ∧ ∃ g cap, v = .slice (some ⟨g, 0, none⟩) N cap ∧ OwnL wr w.heap.size (.slice (some ⟨g, 0, none⟩) N cap) (singles N) ∧ Below w.heap.size w wr)) (fun _ i _ => 1 - (intOf i).toNat)
  case atStart => exact .inl ⟨rfl, rfl, rfl⟩
  case round =>
    rcases hrel with ⟨rfl, rfl, hwr⟩ | ⟨rfl, g, cap, rfl, ho, hb⟩
    · rw [hwr]
      clear hwr
      obtain ⟨W2, hW2⟩ : ∃ W2, W2 = W1.alloc (.cells #[] 27) := ⟨_, rfl⟩
      have A2 : Hid (Below w.heap.size w W2) := by rw [hW2]; exact AW.out.alloc (by have := HZ1.out; omega) _
      have B2 : Hid (Below W1.heap.size W1 W2) := by rw [hW2]; exact (Below.refl _ _).alloc (Nat.le_refl _) _
      have O2 : Hid (OwnL W2 w.heap.size (.slice (some ⟨W1.heap.size, 0, none⟩) 0 0) (singles (0 * N))) := by
        rw [hW2, Nat.zero_mul]
        exact OwnL.empty W1 w.heap.size W1.heap.size rfl (by have := HZ1.out; omega)
      have HW2 := Lib.hid hW2
      have CO2 : Hid (W2.cell? ⟨w.heap.size + 1, 0, none⟩ = some (.slice (some ⟨w.heap.size, 0, none⟩) 0 0)) := by
        rw [Hid, B2.out.cell (p := ⟨w.heap.size + 1, 0, none⟩) (by show w.heap.size + 1 < W1.heap.size; have := HZ1.out; omega)]; exact CO.out
      clear hW2
      go_wp2_with fail
      rw [← HW2.out]
      go_loopw [6, 18] (fun v i w3 => ∃ k : Nat, ∃ u, u = v ∧ k ≤ 1 ∧ i = .int .i64 k ∧ OwnL w3 w.heap.size u (singles (k * N)) ∧ Below w.heap.size w w3 ∧ w.heap.size + 2 ≤ w3.heap.size ∧ (k = 0 → w3 = W2)) (fun _ i _ => 1 - (intOf i).toNat)
      case atStart => exact ⟨0, _, rfl, by omega, rfl, O2.out, A2.out, by have := B2.out.size; have := HZ1.out; omega, fun _ => rfl⟩
      case round =>
        obtain ⟨k, u, rfl, hk, rfl, ho, hb, hz2, hk2⟩ := hrel
        by_cases hk0 : k < 1
        · obtain rfl : k = 0 := by omega
          rw [Nat.zero_mul] at ho
          have HR := Lib.hid (show _ ∧ _ ∧ _ from ⟨ho, hb, hz2⟩)
          have co : wr.cell? ⟨w.heap.size + 1, 0, none⟩ = some (.slice (some ⟨w.heap.size, 0, none⟩) 0 0) := by
            rw [hk2 rfl]; exact CO2.out
          clear ho hb hz2 hk2 O2
          go_wp2_with fail
          clear co
          go_loopw [6, 23] (fun v i w4 => ∃ X : Nat, ∃ u, u = v ∧ X ≤ N ∧ i = .int .i64 X ∧ OwnL w4 w.heap.size u (singles X) ∧ Below w.heap.size w w4 ∧ w.heap.size + 2 ≤ w4.heap.size) (fun _ i _ => N - (intOf i).toNat)
          case atStart => exact ⟨0, _, rfl, Nat.zero_le _, rfl, HR.out.1, HR.out.2.1, HR.out.2.2⟩
          case round =>
            clear HR
            obtain ⟨X, u2, rfl, hX, rfl, ho, hb, hz⟩ := hrel
            by_cases hXN : X < N
            · have EM : Hid (OwnI 3 (wr.alloc (.cells #[] 3)) wr.heap.size (.slice (some ⟨wr.heap.size, 0, none⟩) 0 0) []) := eRow 3 wr _ _ rfl (Nat.le_refl _)
              have RE : Hid (∀ W, Reads W (.slice (some ⟨w.heap.size, 0, none⟩) 0 0) []) := fun W => ⟨_, _, rfl, .inl rfl, fun h => by cases h⟩
              have AL : Hid (Below wr.heap.size wr (wr.alloc (.cells #[] 3))) := (Below.refl _ _).alloc (Nat.le_refl _) _
              have HO := Lib.hid ho
              have HB := Lib.hid hb
              clear ho hb
              go_wp2_with (at_builtin; refine wpList_appAll (wr.alloc (.cells #[] 3)) rfl (.tmp 27) (.tmp 28) 27 rfl wr.heap.size 3 Tryz.underlying27 sll.infoInt _ [] [] rfl EM.out _ rfl (RE.out _) (by simp) AL.out.size ?_)
              intro v2 w5 ho5 hg5 hge5
              have hb5 : Below wr.heap.size wr w5 := AL.out.trans (below_of_grown hg5 (by simp) (fun q hq => (World.ownsRow.lt EM.out q hq).1))
              have HO5 : Hid (OwnI 3 w5 wr.heap.size v2 []) := ho5
              have HB5 := Lib.hid hb5
              have hz5 := hb5.size
              clear ho5 hg5 hge5 hb5 EM AL
              go_wp2_with (at_builtin; refine wpList_app1 w5 rfl (.tmp 29) (.tmp 31) 27 rfl wr.heap.size 3 (.int .i64 0) 8 Tryz.underlying27 sll.infoInt rfl (by decide) v2 0 [] (.int .i64 X) rfl HO5.out w5.heap.size rfl rfl rfl (by decide) hz5 ?_)
              intro g3 cap3 w6 hown3 hgr3
              have HB6 : Hid (Below wr.heap.size wr w6) := HB5.out.trans (hgr3.below HO5.out hz5)
              have HO6 : Hid (OwnI 3 w6 wr.heap.size (.slice (some ⟨g3, 0, none⟩) 1 cap3) [(X : Int)]) := hown3
              have OL6 := HO.out.below HB6.out (Nat.le_refl _)
              have hg3 : wr.heap.size ≤ g3 := (World.ownsRow.lt hown3 g3 rfl).1
              have hz6 := HB6.out.size
              have hblk : Hid (∀ k, u2.ownBlock = some k → k < wr.heap.size) := fun k hk => by
                obtain ⟨us, _, hrow, _⟩ := HO.out.row
                exact (World.ownsRow.lt hrow k hk).2
              obtain ⟨us, hul, hrow, hrs⟩ := OL6.row
              have hus : us.length = X := by rw [hul, singles_len]
              rw [hus] at hrow
              have HROW := Lib.hid hrow
              have HRS := Lib.hid hrs
              have HUS := Lib.hid (show _ ∧ _ from ⟨hus, hul⟩)
              have hwz : w.heap.size ≤ w6.heap.size := by omega
              clear hown3 hgr3 OL6 hrow hrs hus hul HO5 HB5
              go_wp2_with (at_builtin; refine wpList_app1 w6 rfl (.tmp 26) (.tmp 33) 49 rfl w.heap.size 27 (.slice none 0 0) 24 Tryz.underlying49 sll.infoSl rfl (by decide) u2 X us (.slice (some ⟨g3, 0, none⟩) 1 cap3) rfl HROW.out w6.heap.size rfl rfl rfl (by omega) hwz ?_)
              intro g4 cap4 w7 hown4 hgr4
              have hb7 : Below w.heap.size w6 w7 := below_of_grown hgr4.grown hwz fun k hk => (World.ownsRow.lt HROW.out k hk).1
              have R : Hid (OwnL w7 w.heap.size (.slice (some ⟨g4, 0, none⟩) (X + 1) cap4) (singles (X + 1)) ∧ Below w.heap.size w w7 ∧ w.heap.size + 2 ≤ w7.heap.size) := by
                refine ⟨?_, (HB.out.trans (HB6.out.mono (by omega))).trans hb7, by have := hb7.size; omega⟩
                rw [singles_succ]
                refine own_push' HUS.out.1 HUS.out.2 HRS.out (OwnI.reads HO6.out) (by simp) (fun k hk h => ?_) hown4 hgr4
                have := hblk.out k hk
                simp [Value.ownBlock] at h
                omega
              clear hown4 hgr4 hb7 HROW HRS HUS HO6 HB6 HO HB hblk hg3
              go_wp2
              go_roundw
              case rel => first | exact ⟨X + 1, _, rfl, by omega, by go_num, R.out⟩ | ((repeat apply Exists.intro); exact ⟨⟨X + 1, _, rfl, by omega, by go_num, R.out⟩, rfl⟩)
              case measure => simp [intOf]; omega
            · obtain rfl : N = X := by omega
              have HR : Hid (OwnL wr w.heap.size u2 (singles ((0 + 1) * N)) ∧ Below w.heap.size w wr ∧ w.heap.size + 2 ≤ wr.heap.size) := by rw [Nat.zero_add, Nat.one_mul]; exact ⟨ho, hb, hz⟩
              clear ho hb
              go_wp2
              go_roundw
              case rel => first | exact ⟨0 + 1, _, rfl, by omega, by go_num, HR.out.1, HR.out.2.1, HR.out.2.2, fun h => by cases h⟩ | ((repeat apply Exists.intro); exact ⟨⟨0 + 1, _, rfl, by omega, by go_num, HR.out.1, HR.out.2.1, HR.out.2.2, fun h => by cases h⟩, rfl⟩)
              case measure => simp [intOf]
        · obtain rfl : k = 1 := by omega
          rw [Nat.one_mul] at ho
          obtain ⟨g, cap, hv⟩ : ∃ g cap, u = .slice (some ⟨g, 0, none⟩) N cap := by
            rcases ho.len with ⟨_, h⟩ | ⟨g, cap, h, _⟩
            · have := congrArg List.length h
              rw [singles_len] at this; simp at this; omega
            · exact ⟨g, cap, by rw [h, singles_len]⟩
          subst hv
          have HR := Lib.hid (show _ ∧ _ from ⟨ho, hb⟩)
          clear ho hb hk2
          go_wp2
          go_roundw
          case rel => first | exact .inr ⟨by go_num, g, cap, rfl, HR.out.1, HR.out.2⟩ | ((repeat apply Exists.intro); exact ⟨.inr ⟨by go_num, g, cap, rfl, HR.out.1, HR.out.2⟩, rfl⟩)
          case measure => simp [intOf]
    · have HR := Lib.hid (show _ ∧ _ from ⟨ho, hb⟩)
      clear ho hb
      go_wp2
      go_ret
      exact ⟨g, cap, rfl, HR.out.1, HR.out.2⟩
theorem law : Keyed Tryz.prog 9 := string_keyed Tryz.underlying9
/-- the elements of the set -/
noncomputable abbrev RB : Value → Option (DataW Unit × List MemPlace) := plainElem Tryz.prog 4
theorem map_kept {w w' : World} {B n : Nat} {D : DataW Unit} (h : w.ownsMap Tryz.prog 9 RB B n D) (hb : w'.heap[B]? = w.heap[B]?) : w'.ownsMap Tryz.prog 9 RB B n D := by
  obtain ⟨es, clock, h1, h2⟩ := h
  exact ⟨es, clock, by rw [hb]; exact h1, h2⟩
/-- cells beside the map -/
theorem cell_beside {w w' : World} {B n : Nat} {D : DataW Unit} (h : w.ownsMap Tryz.prog 9 RB B n D) (hg : w.grownBy w' (some B)) {b off : Nat} {v : Value} (hc : w.cell? ⟨b, off, none⟩ = some v) : w'.cell? ⟨b, off, none⟩ = some v := by
  obtain ⟨es, clock, h1, h2⟩ := h
  have hlt : b < w.heap.size := World.block_lt_of_cell? w _ hc
  have hne : b ≠ B := fun e => by
    subst e
    simp [World.cell?, h1] at hc
  have : w'.heap[b]? = w.heap[b]? := hg.block b hlt (fun e => hne (Option.some.inj e))
  simp only [World.cell?] at hc ⊢
  rw [this]; exact hc
/-- the lists of one element, as they are read -/
theorem singles_cells {w : World} {B N g cap : Nat} (h : OwnL w B (.slice (some ⟨g, 0, none⟩) N cap) (singles N)) : ∀ k, k < N → ∃ b off c, w.cell? ⟨g, k, none⟩ = some (.slice (some ⟨b, off, none⟩) 1 c) ∧ w.cell? ⟨b, off, none⟩ = some (.int .i64 k) := by
  intro k hk
  obtain ⟨us, hul, hrow, hrs⟩ := h.row
  rw [singles_len] at hul
  obtain ⟨_, h2, _⟩ := hrs k (by rw [singles_len]; exact hk)
  rw [singles_get hk] at h2
  rw [hul] at hrow
  have hc := World.ownsRow.cellAt hrow k (by omega)
  obtain ⟨ao, c, hv, hcell, _⟩ := h2
  rcases hcell with h | ⟨b, off, rfl, hcell⟩
  · cases h
  · have h0 := hcell 0 (by simp)
    refine ⟨b, off, c, ?_, ?_⟩
    · have e : us.getD k undef = us[k]'(by omega) := by rw [List.getD_eq_getElem?_getD, List.getElem?_eq_getElem (by omega)]; rfl
      rw [hc, List.getElem?_eq_getElem (by omega), ← e, hv]; rfl
    · simpa using h0
set_option maxHeartbeats 3200000 in
set_option maxRecDepth 100000 in
/-- CountKinds at lists of one element -/
theorem implCountKinds_one (N : Nat) (s r : ByteArray) (w : World) (hv : validB N s r = true) (h1 : 1 ≤ N) (h8 : N ≤ 8) (hs : s.size = N) (hr : r.size = N * N) :
    Calls Tryz.prog 15 #[.agg #[.int .i64 N, .string s, .string r], .int .i64 1] w fun e w' => e = .returned (.int .i64 (kinds N s r : Nat)) ∧ Below w.heap.size w w' := by
  have hmm := @run_makeMap Tryz.prog
  obtain ⟨W0, hW0⟩ : ∃ W0, W0 = w.alloc (.cells #[.int .i64 N, .string s, .string r] 24) := ⟨_, rfl⟩
  have BA : Hid (Box 24 W0 w.heap.size N s r) := by rw [hW0]; exact Box.new 24 w w.heap.size rfl N s r
  have AW : Hid (Below w.heap.size w W0) := by rw [hW0]; exact (Below.refl _ _).alloc (Nat.le_refl _) _
  have HS := Lib.hid (show _ ∧ _ from ⟨hs, hr⟩)
  have HV := Lib.hid hv
  have HZ : Hid (s.size ≤ 9223372036854775807 ∧ r.size ≤ 9223372036854775807) := by
    have : N * N ≤ 8 * 8 := Nat.mul_le_mul h8 h8
    constructor <;> omega
  have HW0 := Lib.hid hW0
  clear hW0 hv hs hr
  go_enter Tryz.func15, Tryz.ntmps15
  go_wp2_with fail
  rw [← HW0.out]
  clear HW0
  refine (isStructure_any N s r _ HZ.out.1 HZ.out.2).mono ?_
  rintro e w1 ⟨rfl, hw⟩
  rw [HV.out]
  have HQ := Lib.hid (show _ ∧ _ from ⟨BA.out.below hw BA.out.lt, AW.out.trans (hw.mono AW.out.size)⟩)
  clear hw BA AW
  obtain ⟨MB, hMB⟩ : ∃ MB, MB = w1.heap.size := ⟨_, rfl⟩
  obtain ⟨w2, hw2⟩ : ∃ q, q = w1.alloc (.map #[] 0) := ⟨_, rfl⟩
  have OM : Hid (w2.ownsMap Tryz.prog 9 RB MB 0 (Sn N s r 0)) := by rw [hw2, hMB, Sn_zero]; exact World.ownsMap_made _ _ _ _
  have AB : Below w1.heap.size w1 w2 := by rw [hw2]; exact (Below.refl _ _).alloc (Nat.le_refl _) _
  have HQ2 := Lib.hid (show _ ∧ _ from ⟨HQ.out.1.below AB HQ.out.1.lt, HQ.out.2.trans (AB.mono HQ.out.2.size)⟩)
  have hlM : w.heap.size < MB ∧ MB < w2.heap.size := by rw [hMB]; exact ⟨HQ.out.1.lt, by rw [hw2]; simp⟩
  clear AB HQ
  obtain ⟨a0, a1, a2⟩ := HQ2.out.1.c
  go_upto_region 4 with (fail)
  rw [← hw2, ← hMB]
  clear hw2 hMB hmm a0 a1 a2
  obtain ⟨a0, a1, a2⟩ := HQ2.out.1.c
  go_wp2_with fail
  refine (listsOf_one N _ h1 h8).mono ?_
  rintro e w3 ⟨g, cap, rfl, ho, hb⟩
  have HC := Lib.hid (singles_cells ho)
  have OM3 : Hid (w3.ownsMap Tryz.prog 9 RB MB 0 (Sn N s r 0)) := map_kept OM.out (hb.block MB hlM.2)
  have HQ3 := Lib.hid (show _ ∧ _ from ⟨HQ2.out.1.below hb HQ2.out.1.lt, HQ2.out.2.trans (hb.mono HQ2.out.2.size)⟩)
  have hlM3 : w.heap.size < MB ∧ MB < w3.heap.size := ⟨hlM.1, by have := hb.size; omega⟩
  clear ho hb OM HQ2 a0 a1 a2 hlM
  go_wp2_with fail
  go_loopw [25] (fun i wr => ∃ k : Nat, k ≤ N ∧ i = .int .i64 k ∧ wr.ownsMap Tryz.prog 9 RB MB k (Sn N s r k) ∧ w3.grownBy wr (some MB)) (fun i _ => N - (intOf i).toNat)
  case atStart => exact ⟨0, Nat.zero_le _, rfl, OM3.out, ⟨rfl, rfl, rfl, Nat.le_refl _, fun _ _ _ => rfl⟩⟩
  case round =>
    obtain ⟨k, hk, rfl, hm, hg⟩ := hrel
    have HM := Lib.hid hm
    have HG := Lib.hid hg
    have hb : Below (w.heap.size + 1) w3 wr := below_of_grown hg (by omega) fun q hq => by cases hq; omega
    have HB := Lib.hid hb
    have hzr := hb.size
    clear hm hg hb
    by_cases hkN : k < N
    · obtain ⟨b, off, c, h2, h3⟩ := HC.out k hkN
      have c1 := cell_beside OM3.out HG.out h2
      have c2 := cell_beside OM3.out HG.out h3
      clear h2 h3
      obtain ⟨a0, a1, a2⟩ := Box.c (HQ3.out.1.below HB.out (by omega))
      go_wp2_with fail
      refine (atomsOf_one N s r k b off c _ hkN h8 HS.out.1 HS.out.2 c2).mono ?_
      rintro e w5 ⟨rfl, hb5⟩
      have M5 : Hid (w5.ownsMap Tryz.prog 9 RB MB k (Sn N s r k)) := map_kept HM.out (hb5.block MB (by omega))
      have G5 : Hid (w3.grownBy w5 (some MB)) := grown_trans HG.out ⟨hb5.os, hb5.tape, hb5.output, hb5.size, fun q hq _ => hb5.block q hq⟩
      have hkey : Hid (keyOf Tryz.prog 9 (.string (key1 N s r k)) = some (keyL N s r k)) := Go.WideMaps.keyOf_string_mk Tryz.underlying9 (by simp [key1, bit1, ByteArray.size_append, maxLen, ByteArray.size])
      clear hb5 HM HG HB a0 a1 a2 c1 c2
      go_wp2_with (at_mapUpdate; refine wpList_mapUpdate_own w5 rfl _ _ _ 48 rfl 9 4 law Tryz.underlying48 RB MB k _ rfl M5.out (by unfold maxLen; omega) _ _ _ rfl rfl hkey.out _ [] (plainElem_bool Tryz.underlying4 true) ?_)
      intro w6 hown6 hgr6
      have R : Hid (w6.ownsMap Tryz.prog 9 RB MB (k + 1) (Sn N s r (k + 1)) ∧ w3.grownBy w6 (some MB)) := ⟨by rw [Sn_succ]; exact hown6, grown_trans G5.out hgr6⟩
      clear hown6 hgr6 hkey M5 G5
      go_wp2
      go_roundw
      case rel => first | exact ⟨k + 1, by omega, by go_num, R.out⟩ | ((repeat apply Exists.intro); exact ⟨⟨k + 1, by omega, by go_num, R.out⟩, rfl⟩)
      case measure => simp [intOf]; omega
    · obtain rfl : N = k := by omega
      have R : Hid (Below w.heap.size w wr) := HQ3.out.2.trans (HB.out.mono (by omega))
      go_wp2_with (at_len; refine wpList_len_own wr rfl _ 48 rfl 9 4 Tryz.underlying48 RB MB N _ rfl HM.out ?_)
      go_ret
      exact ⟨rfl, R.out⟩
end Go.Proofs.YtefneihlgclkbaaGreatDoor.kinds
