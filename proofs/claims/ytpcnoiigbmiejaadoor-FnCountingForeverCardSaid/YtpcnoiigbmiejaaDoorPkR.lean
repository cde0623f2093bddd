/- Several texts in one: PbR, PbS, PbQ. -/
import Derived.Test.YtpcnoiigbmiejaaDoorPkY
import Derived.Test.YtpcnoiigbmiejaaDoorPkC
/- l7Pebbles, l7Ready of the reference. -/
namespace Go.Proofs.YtpcnoiigbmiejaaDoor.pbi
set_option linter.unusedVariables false
set_option linter.unusedSimpArgs false
open Go.ChangeShapes Go.WideShapes Go.ChangeAt Go.RowKit
open Go.Proofs.YtpcnoiigbmiejaaDoor.lib Go.Proofs.YtpcnoiigbmiejaaDoor.st Go.Proofs.YtpcnoiigbmiejaaDoor.flow Go.Proofs.YtpcnoiigbmiejaaDoor.chain Go.Proofs.YtpcnoiigbmiejaaDoor.base Go.Proofs.YtpcnoiigbmiejaaDoor.fits Go.Proofs.YtpcnoiigbmiejaaDoor.still Go.Proofs.YtpcnoiigbmiejaaDoor.gow Go.Proofs.YtpcnoiigbmiejaaDoor.peb Go.Proofs.YtpcnoiigbmiejaaDoor.tab Go.Proofs.YtpcnoiigbmiejaaDoor.pairL Go.Proofs.YtpcnoiigbmiejaaDoor.make Go.Proofs.YtpcnoiigbmiejaaDoor.prod Go.Proofs.YtpcnoiigbmiejaaDoor.basic Go.Proofs.YtpcnoiigbmiejaaDoor.near
/-- numbers are pebbles on a valid structure -/
def okP (n : Int) (s r : ByteArray) (l : List Int) : Bool := validB n s r && pebB n l
theorem p7_same {n z : Int} {s r : ByteArray} (hz : z = wrap64 (n - 1)) (hv : validB n s r = true) : (fun x => inB x (-1) z) = pbIn n := by
  have h1 := (validB_iff.1 hv).1
  have : z = n - 1 := by rw [hz, wrap64]; omega
  funext x
  unfold inB pbIn
  rw [this]
  congr 1
  exact propext ⟨fun h => ⟨h.1, by omega⟩, fun h => ⟨h.1, by omega⟩⟩
theorem p7_no {n z : Int} {s r : ByteArray} {l : List Int} (hz : z = wrap64 (n - 1)) (h : l.all (fun x => inB x (-1) z) = false) : okP n s r l = false := by
  unfold okP pebB
  cases hv : validB n s r with
  | false => rfl
  | true => rw [p7_same hz hv] at h; rw [h]; simp
theorem p7_yes {n z : Int} {s r : ByteArray} {l : List Int} (hz : z = wrap64 (n - 1)) (h : l.all (fun x => inB x (-1) z) = true) (hv : validB n s r = true) : okP n s r l = inB (l.length : Int) 1 3 := by
  unfold okP pebB
  rw [p7_same hz hv] at h
  rw [h, hv]
  unfold inB
  rw [Bool.true_and, Bool.and_true, ← Bool.decide_and]
  exact decide_eq_decide.2 ⟨fun h => ⟨by omega, by omega⟩, fun h => ⟨by omega, by omega⟩⟩

set_option maxHeartbeats 6400000 in
set_option maxRecDepth 100000 in
theorem l7Pebbles_any (n : Int) (s r : ByteArray) (v : Value) (l : List Int) (w : World) (h : Reads w v l) (hn : l.length ≤ 17592186044416) (hs : s.size ≤ 9223372036854775807) (hr : r.size ≤ 9223372036854775807) :
    Calls Tryd.prog 113 #[.agg #[.int .i64 n, .string s, .string r], v] w fun e w' => e = .returned (.bool (okP n s r l)) ∧ Below w.heap.size w w' := by
  have h1 : Reads (w.alloc (.cells #[.int .i64 n, .string s, .string r] 24)) v l := h.below ((Below.refl w.heap.size w).alloc (Nat.le_refl _) _) (Nat.le_refl _)
  obtain ⟨ao, ca, rfl, hrd, _⟩ := h1
  have BA : Hid (Box 24 (w.alloc (.cells #[.int .i64 n, .string s, .string r] 24)) w.heap.size n s r) := Box.new 24 w w.heap.size rfl n s r
  have AW : Hid (Below w.heap.size w (w.alloc (.cells #[.int .i64 n, .string s, .string r] 24))) := (Below.refl _ _).alloc (Nat.le_refl _) _
  obtain ⟨z, hz⟩ : ∃ z, z = wrap64 (n - 1) := ⟨_, rfl⟩
  have HZZ := Lib.hid hz
  obtain ⟨m, hm⟩ : ∃ m, m = l.length := ⟨_, rfl⟩
  rw [← hm] at hn ⊢
  have HN : Hid (m = l.length) := hm
  have HR := Lib.hid hrd
  have HZ := Lib.hid (show _ ∧ _ from ⟨hs, hr⟩)
  clear hs hr hz hm hrd h
  go_enter Tryd.func113, Tryd.ntmps113
  go_wp2
  go_loopw [5] (fun i wr => ∃ k : Nat, k ≤ m ∧ i = .int .i64 k ∧ (l.take k).all (fun x => inB x (-1) z) = true ∧ Below (w.heap.size + 1) (w.alloc (.cells #[.int .i64 n, .string s, .string r] 24)) wr) (fun i _ => m - (intOf i).toNat)
  case atStart => exact ⟨0, Nat.zero_le _, rfl, rfl, Below.refl _ _⟩
  case round =>
    obtain ⟨k, hk, rfl, hall, hnx⟩ := hrel
    have HA := Lib.hid hall
    have HX := Lib.hid hnx
    clear hall hnx
    have BAX := Lib.hid (BA.out.below HX.out (by omega))
    have AX : Hid (Below w.heap.size w wr) := AW.out.trans (HX.out.mono (by omega))
    by_cases hlt : k < m
    · have hr' : ∃ b off, ao = some ⟨b, off, none⟩ ∧ ∀ i, i < l.length → (w.alloc (.cells #[.int .i64 n, .string s, .string r] 24)).cell? ⟨b, off + i, none⟩ = some (.int .i64 (l.getD i 0)) := by
        rcases HR.out with h | h
        · have := HN.out; rw [h] at this; simp at this; omega
        · exact h
      obtain ⟨b, off, rfl, hc⟩ := hr'
      have hkl : k < l.length := by have := HN.out; omega
      have hx0 := hc k hkl
      have hltb := World.block_lt_of_cell? _ _ hx0
      obtain ⟨x, hx⟩ : ∃ x, x = l.getD k 0 := ⟨_, rfl⟩
      have HXX := Lib.hid hx
      have hcell : wr.cell? ⟨b, off + k, none⟩ = some (.int .i64 x) := by
        rw [HX.out.cell (p := ⟨b, off + k, none⟩) (by simpa using hltb), hx]; exact hx0
      have hblt : Hid (b < wr.heap.size) := World.block_lt_of_cell? wr ⟨b, off + k, none⟩ hcell
      have HT := Lib.hid (all_take_succ (fun x => inB x (-1) z) l k hkl)
      have HT2 := Lib.hid (all_take_false (fun x => inB x (-1) z) l k hkl)
      have cx : ∀ X : Wd (fun W => Hid (Below wr.heap.size wr W)), X.w.cell? ⟨b, off + k, none⟩ = some (.int .i64 x) := fun X => by rw [X.ok.out.cell (p := ⟨b, off + k, none⟩) hblt.out]; exact hcell
      have ca0 : ∀ X : Wd (fun W => Hid (Below wr.heap.size wr W)), X.w.cell? ⟨w.heap.size, 0, none⟩ = some (.int .i64 n) := fun X => (BAX.out.below X.ok.out BAX.out.lt).c.1
      have hne : Nonempty (Wd (fun W => Hid (Below wr.heap.size wr W))) := ⟨⟨wr, Lib.hid (Below.refl _ _)⟩⟩
      clear hc hkl hx HR hx0 hltb hcell
      cases hp : inB x (-1) z with
      | false =>
        have HP := Lib.hid hp
        have HAA : Hid (l.all (fun x => inB x (-1) z) = false) := HT2.out (by rw [← HXX.out]; exact hp)
        clear hp
        go_wp2_with fail
        refine flow_all (S := (fun W => Hid (Below wr.heap.size wr W))) (by kernel_rfl) (by kernel_rfl) (Lib.hid (Below.refl _ _).drew) ?_
        repeat (go_big_quiet_step (first | (go_at_call 67; with_reducible refine (l1In_at x (-1) z _ false HZZ.out HP.out _).mono ?_; rintro e W ⟨rfl, rfl⟩; exact ⟨rfl, _, rfl⟩)))
        refine wpQuiet_nil ?_
        rintro _ ⟨X, rfl⟩
        have HXX := Lib.hid X.ok.out
        go_wp2
        go_ret
        exact ⟨by rw [p7_no HZZ.out HAA.out]; rfl, AX.out.trans (HXX.out.mono AX.out.size)⟩
      | true =>
        have HP := Lib.hid hp
        have HAA : Hid ((l.take (k + 1)).all (fun x => inB x (-1) z) = true) := by rw [Hid, HT.out, HA.out, ← HXX.out, hp]; rfl
        clear hp
        go_wp2_with fail
        refine flow_all (S := (fun W => Hid (Below wr.heap.size wr W))) (by kernel_rfl) (by kernel_rfl) (Lib.hid (Below.refl _ _).drew) ?_
        repeat (go_big_quiet_step (first | (go_at_call 67; with_reducible refine (l1In_at x (-1) z _ true HZZ.out HP.out _).mono ?_; rintro e W ⟨rfl, rfl⟩; exact ⟨rfl, _, rfl⟩)))
        refine wpQuiet_nil ?_
        rintro _ ⟨X, rfl⟩
        have HXX := Lib.hid X.ok.out
        have R : Hid (Below (w.heap.size + 1) (w.alloc (.cells #[.int .i64 n, .string s, .string r] 24)) X.w) := HX.out.trans (HXX.out.mono (by have := HX.out.size; simpa using this))
        go_wp2
        go_roundw
        case rel => exact ⟨k + 1, by omega, by go_num, HAA.out, R.out⟩
        case measure => simp [intOf]; omega
    · obtain rfl : k = m := by omega
      have HAA : Hid (l.all (fun x => inB x (-1) z) = true) := by have h := HA.out; rw [HN.out, List.take_length] at h; exact h
      obtain ⟨a0, a1, a2⟩ := BAX.out.c
      go_wp2_with fail
      refine (StructureValid_any n s r _ HZ.out.1 HZ.out.2).mono ?_
      rintro e w1 ⟨rfl, hw⟩
      have AX1 := Lib.hid (AX.out.trans (hw.mono AX.out.size))
      clear hw
      cases hv : validB n s r with
      | false =>
        have HE : Hid (okP n s r l = false) := by rw [Hid, okP, hv]; rfl
        clear hv
        go_wp2
        go_ret
        exact ⟨by rw [HE.out]; rfl, AX1.out⟩
      | true =>
        have HE0 := Lib.hid (p7_yes HZZ.out HAA.out hv)
        clear hv
        go_wp2_with fail
        refine (l1In_any k 1 3 w1).mono ?_
        rintro e w2 ⟨rfl, rfl⟩
        have HE : Hid (okP n s r l = inB k 1 3) := by rw [Hid, HE0.out, ← HN.out]
        go_wp2
        go_ret
        exact ⟨by rw [HE.out]; rfl, AX1.out⟩
end Go.Proofs.YtpcnoiigbmiejaaDoor.pbi

/- l7Put, l7Index, l7At, l7Count of the reference. -/
namespace Go.Proofs.YtpcnoiigbmiejaaDoor.pbi
set_option linter.unusedVariables false
set_option linter.unusedSimpArgs false
open Go.ChangeShapes Go.WideShapes Go.ChangeAt Go.RowKit
open Go.Proofs.YtpcnoiigbmiejaaDoor.lib Go.Proofs.YtpcnoiigbmiejaaDoor.st Go.Proofs.YtpcnoiigbmiejaaDoor.flow Go.Proofs.YtpcnoiigbmiejaaDoor.chain Go.Proofs.YtpcnoiigbmiejaaDoor.base Go.Proofs.YtpcnoiigbmiejaaDoor.fits Go.Proofs.YtpcnoiigbmiejaaDoor.still Go.Proofs.YtpcnoiigbmiejaaDoor.gow Go.Proofs.YtpcnoiigbmiejaaDoor.peb Go.Proofs.YtpcnoiigbmiejaaDoor.tab Go.Proofs.YtpcnoiigbmiejaaDoor.make Go.Proofs.YtpcnoiigbmiejaaDoor.near
theorem tup_get (N : Nat) : ∀ (k n i : Nat), i < k → (tup N k n).getD i 0 = n / (N + 1) ^ (k - 1 - i) % (N + 1)
  | 0, _, _, h => by omega
  | k + 1, n, i, h => by
    have hl := tup_len N k (n / (N + 1))
    show (tup N k (n / (N + 1)) ++ [n % (N + 1)]).getD i 0 = _
    by_cases hi : i < k
    · have ih := tup_get N k (n / (N + 1)) i hi
      rw [List.getD_eq_getElem?_getD, List.getElem?_append_left (by omega), ← List.getD_eq_getElem?_getD, ih, Nat.div_div_eq_div_mul, ← Nat.pow_succ', show k + 1 - 1 - i = k - 1 - i + 1 by omega]
    · obtain rfl : i = k := by omega
      rw [List.getD_eq_getElem?_getD, List.getElem?_append_right (by omega), hl, Nat.sub_self, show i + 1 - 1 - i = 0 by omega, Nat.pow_zero, Nat.div_one]; rfl
theorem tup_pbs {N k n i : Nat} (hi : i < k) : (pbs (tup N k n)).getD i 0 = ((n / (N + 1) ^ (k - 1 - i) % (N + 1) : Nat) : Int) - 1 := by
  rw [pbs_get (by rw [tup_len]; exact hi), tup_get N k n i hi]
theorem idx_take {N : Nat} {ps : List Nat} {i : Nat} (hi : i < ps.length) : idx N (ps.take (i + 1)) = idx N (ps.take i) * (N + 1) + ps.getD i 0 := by
  rw [List.take_add_one, List.getElem?_eq_getElem hi, Option.toList_some, idx_snoc, List.getD_eq_getElem?_getD, List.getElem?_eq_getElem hi]; rfl
theorem pow_small {N k : Nat} (hN : N ≤ 8) (hk : k ≤ 3) : (N + 1) ^ k ≤ 729 := by
  have h1 : (N + 1) ^ k ≤ 9 ^ k := Nat.pow_le_pow_left (by omega) k
  have h2 : 9 ^ k ≤ 9 ^ 3 := Nat.pow_le_pow_right (by decide) hk
  have : (9 : Nat) ^ 3 = 729 := by decide
  omega
theorem idx_small {N : Nat} {ps : List Nat} {i : Nat} (hN : N ≤ 8) (hk : ps.length ≤ 3) (hp : ∀ p, p ∈ ps → p ≤ N) : idx N (ps.take i) < 729 := by
  have h1 := idx_lt N (ps.take i).length (ps.take i) rfl fun p h => hp p (List.mem_of_mem_take h)
  have h2 : (ps.take i).length ≤ 3 := by rw [List.length_take]; omega
  have h3 := pow_small hN h2
  omega
theorem box_oth {T : TypeId} {w : World} {H k j : Nat} {n : Int} {s r : ByteArray} {u : Value} (h : Box T w H n s r) (hne : H ≠ k) : Box T (w.setCell ⟨k, j, none⟩ u) H n s r := (heap_setCell_other w ⟨k, j, none⟩ H u hne).trans h
theorem ofI {T : TypeId} {w : World} {B : Nat} {v : Value} {l : List Int} (h : OwnI T w B v l) (h1 : 1 ≤ l.length) : ∃ g c, v = .slice (some ⟨g, 0, none⟩) l.length c := by
  rcases h.shape with ⟨_, rfl⟩ | h
  · simp at h1
  · exact h

set_option maxHeartbeats 6400000 in
set_option maxRecDepth 100000 in
theorem l7Put_any (v : Value) (l : List Int) (i : Nat) (x : Int) (w : World) (hr : Reads w v l) (hl : l.length ≤ 1000) (hi : i < l.length) :
    Calls Tryd.prog 157 #[v, .int .i64 i, .int .i64 x] w fun e w' => ∃ v', e = .returned v' ∧ OwnI 3 w' w.heap.size v' (l.set i x) ∧ Below w.heap.size w w' := by
  obtain ⟨W1, hW1⟩ : ∃ QZ, QZ = w.alloc (.cells #[] 3) := ⟨_, rfl⟩
  have HA : Hid (OwnI 3 W1 w.heap.size (.slice (some ⟨w.heap.size, 0, none⟩) 0 0) [] ∧ Below w.heap.size w W1 ∧ Reads W1 v l ∧ w.heap.size ≤ W1.heap.size) := by
    rw [hW1]
    exact ⟨empty_own w, (Below.refl _ _).alloc (Nat.le_refl _) _, hr.below ((Below.refl _ _).alloc (Nat.le_refl _) _) (Nat.le_refl _), by simp⟩
  have HL := Lib.hid (show _ ∧ _ from ⟨hl, hi⟩)
  have HW1 := Lib.hid hW1
  clear hr hl hW1 hi
  go_enter Tryd.func157, Tryd.ntmps157
  go_wp2_with (rw [← HW1.out]; at_builtin; refine wpList_appAll W1 rfl (.tmp 8) (.tmp 9) 32 rfl w.heap.size 3 Tryd.underlying32 near.infoInt _ [] l rfl HA.out.1 v rfl HA.out.2.2.1 (by have := HL.out; simp; omega) HA.out.2.2.2 ?_)
  intro v2 w2 ho hg hlt
  have hb2 : Below w.heap.size w w2 := HA.out.2.1.trans (below_of_grown hg HA.out.2.2.2 fun k hk => (World.ownsRow.lt HA.out.1 k hk).1)
  try simp only [List.nil_append] at ho
  obtain ⟨g, c, rfl⟩ := ofI ho (by have := HL.out; omega)
  obtain ⟨n, hn⟩ : ∃ n, n = l.length := ⟨_, rfl⟩
  have hin : i < n := by rw [hn]; exact HL.out.2
  rw [← hn] at ho
  have HO2 : Hid (OwnI 3 w2 w.heap.size (.slice (some ⟨g, 0, none⟩) n c) l ∧ Below w.heap.size w w2) := ⟨ho, hb2⟩
  rw [← hn]
  have hin2 : (i : Int) < (n : Int) := by omega
  have k0 := HO2.out.1.cell i (by rw [← hn]; exact hin)
  have f0 := HO2.out.1.free i
  have HR : Hid (OwnI 3 (w2.setCell ⟨g, i, none⟩ (.int .i64 x)) w.heap.size (.slice (some ⟨g, 0, none⟩) n c) (l.set i x) ∧ Below w.heap.size w (w2.setCell ⟨g, i, none⟩ (.int .i64 x))) := ⟨HO2.out.1.set i x, HO2.out.2.setCell (by exact HO2.out.1.ge.1) _⟩
  clear ho hg hlt hb2 HA HW1 hn HO2
  go_wp2
  go_ret
  exact ⟨_, rfl, HR.out.1, HR.out.2⟩

set_option maxHeartbeats 6400000 in
set_option maxRecDepth 100000 in
theorem l7Index_any (N : Nat) (s r : ByteArray) (v : Value) (ps : List Nat) (w : World) (hN : N ≤ 8) (hr : Reads w v (pbs ps)) (hk : ps.length ≤ 3) (hp : ∀ p, p ∈ ps → p ≤ N) :
    Calls Tryd.prog 117 #[.agg #[.int .i64 N, .string s, .string r], v] w fun e w' => e = .returned (.int .i64 ((idx N ps : Nat) : Int)) ∧ Below w.heap.size w w' := by
  obtain ⟨k, hkk⟩ : ∃ k, k = ps.length := ⟨_, rfl⟩
  have hr2 := hr
  obtain ⟨ao, c, rfl, hrd, -⟩ := hr2
  rw [pbs_len, ← hkk] at hr
  rw [pbs_len] at hrd
  rw [pbs_len, ← hkk]
  have AW : Hid (Below w.heap.size w (w.alloc (.cells #[.int .i64 N, .string s, .string r] 24)) ∧ Box 24 (w.alloc (.cells #[.int .i64 N, .string s, .string r] 24)) w.heap.size N s r) := ⟨(Below.refl _ _).alloc (Nat.le_refl _) _, Box.new _ _ _ rfl _ _ _⟩
  have HR : Hid (ps.length = 0 ∨ ∃ b off, ao = some ⟨b, off, none⟩ ∧ ∀ i, i < ps.length → w.cell? ⟨b, off + i, none⟩ = some (.int .i64 (((ps.getD i 0 : Nat) : Int) - 1))) := by
    rcases hrd with h | ⟨b, off, ha, hc⟩
    · left; have := congrArg List.length h; rw [pbs_len] at this; exact this
    · exact .inr ⟨b, off, ha, fun i hi => by rw [hc i hi, pbs_get hi]⟩
  have HP := Lib.hid (show _ ∧ _ ∧ _ from ⟨hkk, hk, hp⟩)
  have hk3 : k ≤ 3 := by omega
  clear hr hrd hk hp hkk
  go_enter Tryd.func117, Tryd.ntmps117
  go_wp2
  go_loopw [5, 6] (fun nv iv wr => ∃ (j m : Nat), j ≤ k ∧ iv = .int .i64 j ∧ nv = .int .i64 m ∧ m < 729 ∧ Hid (m = idx N (ps.take j)) ∧ Hid (Below w.heap.size w wr ∧ Box 24 wr w.heap.size N s r)) (fun _ iv _ => k - (intOf iv).toNat)
  case atStart => exact ⟨0, 0, Nat.zero_le _, rfl, rfl, by omega, rfl, AW.out⟩
  case round =>
    clear AW
    obtain ⟨j, m, hj, rfl, rfl, hm, HM, HQ⟩ := hrel
    by_cases hlt : j < k
    · have x1 : (j : Int) < (k : Int) := by omega
      rcases HR.out with h0 | ⟨b, off, rfl, hc⟩
      · have := HP.out.1; omega
      obtain ⟨p, hpp⟩ : ∃ p, p = ps.getD j 0 := ⟨_, rfl⟩
      have hjl : j < ps.length := by have := HP.out.1; omega
      have hp8 : p ≤ 8 := by
        have h1 : p ≤ N := by
          rw [hpp, List.getD_eq_getElem?_getD, List.getElem?_eq_getElem hjl]
          exact HP.out.2.2 _ (List.getElem_mem _)
        omega
      have hcj : wr.cell? ⟨b, off + j, none⟩ = some (.int .i64 ((p : Int) - 1)) := by rw [hpp]; exact ins.keepCell HQ.out.1 (hc j hjl)
      have HE : Hid (m * (N + 1) + p = idx N (ps.take (j + 1)) ∧ m * (N + 1) + p < 729) := by
        have e := idx_take (N := N) hjl
        rw [← HM.out, ← hpp] at e
        rw [Hid, ← e]
        exact ⟨rfl, idx_small hN HP.out.2.1 HP.out.2.2⟩
      obtain ⟨Q, hQ⟩ : ∃ Q, Q = N + 1 := ⟨_, rfl⟩
      obtain ⟨X, hX⟩ : ∃ X, X = m * Q := ⟨_, rfl⟩
      rw [← hQ, ← hX] at HE
      have hX9 : X ≤ 729 := by have := HE.out.2; omega
      have w0 : IntKind.i64.wrap ((N : Int) + 1) = (Q : Int) := by rw [IntWalk.i64_in _ (by omega)]; omega
      have w1 : IntKind.i64.wrap ((m : Int) * (Q : Int)) = (X : Int) := by
        have e : (m : Int) * (Q : Int) = (X : Int) := by rw [hX]; push_cast; rfl
        rw [e, IntWalk.i64_in _ (by omega)]
      have w2 : IntKind.i64.wrap ((X : Int) + ((p : Int) - 1)) = (X : Int) + ((p : Int) - 1) := IntWalk.i64_in _ (by omega)
      have w3 : IntKind.i64.wrap ((X : Int) + ((p : Int) - 1) + 1) = ((X + p : Nat) : Int) := by rw [IntWalk.i64_in _ (by omega)]; omega
      clear hQ hX hpp hc HR
      have q0 : ∀ QQ : Wd (fun Q => Q.cell? ⟨w.heap.size, 0, none⟩ = some (.int .i64 N) ∧ Q.cell? ⟨b, off + j, none⟩ = some (.int .i64 ((p : Int) - 1))), QQ.w.cell? ⟨w.heap.size, 0, none⟩ = some (.int .i64 N) := fun QQ => QQ.ok.1
      have q1 : ∀ QQ : Wd (fun Q => Q.cell? ⟨w.heap.size, 0, none⟩ = some (.int .i64 N) ∧ Q.cell? ⟨b, off + j, none⟩ = some (.int .i64 ((p : Int) - 1))), QQ.w.cell? ⟨b, off + j, none⟩ = some (.int .i64 ((p : Int) - 1)) := fun QQ => QQ.ok.2
      have HC : Hid (wr.drew.cell? ⟨w.heap.size, 0, none⟩ = some (.int .i64 N) ∧ wr.drew.cell? ⟨b, off + j, none⟩ = some (.int .i64 ((p : Int) - 1))) := ⟨HQ.out.2.c.1, hcj⟩
      have hne : Nonempty (Wd (fun Q => Q.cell? ⟨w.heap.size, 0, none⟩ = some (.int .i64 N) ∧ Q.cell? ⟨b, off + j, none⟩ = some (.int .i64 ((p : Int) - 1)))) := ⟨⟨wr.drew, HC.out⟩⟩
      clear hcj
      go_wp2_with fail
      refine chain (S := (fun Q => Q.cell? ⟨w.heap.size, 0, none⟩ = some (.int .i64 N) ∧ Q.cell? ⟨b, off + j, none⟩ = some (.int .i64 ((p : Int) - 1)))) [] [true, true, true, true, true, true, true, true, true, true, true, true] (by kernel_rfl) (by kernel_rfl) (by kernel_rfl) HC.out ?_
      simp only [wpSegs, pickB, List.dropLast_cons_cons, List.dropLast_singleton, List.getLast?_cons_cons, List.getLast?_singleton, List.toList_toArray, List.getElem?_toArray, List.getElem?_cons_succ, List.getElem?_cons_zero, Option.toList_some]
      repeat (go_big_quiet_step (fail))
      refine wpQuiet_nil ?_
      clear q0 q1 hne
      have hx1 : Hid (Below w.heap.size w wr.drew ∧ Box 24 wr.drew w.heap.size N s r) := ⟨HQ.out.1.drew, HQ.out.2⟩
      have hlt2 : X + p < 729 := HE.out.2
      go_wp2
      go_roundw
      case rel => exact ⟨j + 1, X + p, by omega, by go_num, by go_num, hlt2, HE.out.1, hx1.out⟩
      case measure => simp [intOf]; omega
    · obtain rfl : j = k := by omega
      have HE : Hid (m = idx N ps) := by have h := HM.out; rw [HP.out.1, List.take_length] at h; exact h
      go_wp2
      go_ret
      exact ⟨by rw [HE.out]; rfl, HQ.out.1⟩

set_option maxHeartbeats 6400000 in
set_option maxRecDepth 100000 in
theorem l7Count_any (N : Nat) (s r : ByteArray) (k : Nat) (w : World) (hN : N ≤ 8) (hk : k ≤ 3) :
    Calls Tryd.prog 153 #[.agg #[.int .i64 N, .string s, .string r], .int .i64 k] w fun e w' => e = .returned (.int .i64 (((N + 1) ^ k : Nat) : Int)) ∧ Below w.heap.size w w' := by
  have AW : Hid (Below w.heap.size w (w.alloc (.cells #[.int .i64 N, .string s, .string r] 24)) ∧ Box 24 (w.alloc (.cells #[.int .i64 N, .string s, .string r] 24)) w.heap.size N s r) := ⟨(Below.refl _ _).alloc (Nat.le_refl _) _, Box.new _ _ _ rfl _ _ _⟩
  obtain ⟨F, hF⟩ : ∃ F : Nat → Nat, F = fun j => (N + 1) ^ j := ⟨_, rfl⟩
  have HF := Lib.hid hF
  have HB : Hid (∀ j, j ≤ k → F j ≤ 729) := fun j hj => by rw [hF]; exact pow_small hN (by omega)
  have e0 : (N + 1) ^ k = F k := by rw [hF]
  have e1 : F 0 = 1 := by rw [hF]; rfl
  rw [e0]
  have H1 := Lib.hid e1
  clear hF e0 e1
  go_enter Tryd.func153, Tryd.ntmps153
  go_wp2
  go_loopw [5, 6] (fun nv iv wr => ∃ (j m : Nat), j ≤ k ∧ iv = .int .i64 j ∧ nv = .int .i64 m ∧ Hid (m = F j) ∧ Hid (Below w.heap.size w wr ∧ Box 24 wr w.heap.size N s r)) (fun _ iv _ => k - (intOf iv).toNat)
  case atStart => exact ⟨0, 1, Nat.zero_le _, rfl, rfl, H1.out.symm, AW.out⟩
  case round =>
    clear AW
    obtain ⟨j, m, hj, rfl, rfl, HM, HQ⟩ := hrel
    by_cases hlt : j < k
    · have x1 : (j : Int) < (k : Int) := by omega
      have HE : Hid (m * (N + 1) = F (j + 1)) := by rw [Hid, HM.out, HF.out]; exact (Nat.pow_succ _ _).symm
      have hm9 : m ≤ 729 := by rw [HM.out]; exact HB.out j hj
      obtain ⟨Q, hQ⟩ : ∃ Q, Q = N + 1 := ⟨_, rfl⟩
      obtain ⟨X, hX⟩ : ∃ X, X = m * Q := ⟨_, rfl⟩
      rw [← hQ, ← hX] at HE
      have hX9 : X ≤ 729 := by rw [HE.out]; exact HB.out _ (by omega)
      have w0 : IntKind.i64.wrap ((N : Int) + 1) = (Q : Int) := by rw [IntWalk.i64_in _ (by omega)]; omega
      have w1 : IntKind.i64.wrap ((m : Int) * (Q : Int)) = (X : Int) := by
        have e : (m : Int) * (Q : Int) = (X : Int) := by rw [hX]; push_cast; rfl
        rw [e, IntWalk.i64_in _ (by omega)]
      obtain ⟨c0, c1, c2⟩ := HQ.out.2.c
      clear hQ hX
      go_wp2
      go_roundw
      case rel => exact ⟨j + 1, X, by omega, by go_num, by go_num, HE.out, HQ.out⟩
      case measure => simp [intOf]; omega
    · obtain rfl : j = k := by omega
      go_wp2
      go_ret
      exact ⟨by rw [← HM.out]; rfl, HQ.out.1⟩

set_option maxHeartbeats 6400000 in
set_option maxRecDepth 100000 in
theorem l7At_any (N : Nat) (s r : ByteArray) (n k : Nat) (w : World) (hN : N ≤ 8) (hk1 : 1 ≤ k) (hk : k ≤ 3) (hn : n < (N + 1) ^ k) :
    Calls Tryd.prog 155 #[.agg #[.int .i64 N, .string s, .string r], .int .i64 n, .int .i64 k] w fun e w' => ∃ v', e = .returned v' ∧ OwnI 3 w' w.heap.size v' (pbs (tup N k n)) ∧ Below w.heap.size w w' := by
  obtain ⟨i0, hi, hz0, hz1, hz2⟩ := info_parts infoI
  obtain ⟨H1, hH1⟩ : ∃ H1, H1 = w.heap.size + 1 := ⟨_, rfl⟩
  have BX : Hid (Box 24 (w.alloc (.cells #[.int .i64 N, .string s, .string r] 24)) w.heap.size N s r ∧ Below w.heap.size w (w.alloc (.cells #[.int .i64 N, .string s, .string r] 24)) ∧ (w.alloc (.cells #[.int .i64 N, .string s, .string r] 24)).heap.size = H1) := ⟨Box.new _ _ _ rfl _ _ _, (Below.refl _ _).alloc (Nat.le_refl _) _, by rw [hH1]; simp⟩
  have hn9 : n < 729 := by have := pow_small hN hk; omega
  have HN := Lib.hid hn
  have HH1 := Lib.hid hH1
  clear hn hH1
  go_enter Tryd.func155, Tryd.ntmps155
  go_wp2_with (at_make; refine wpList_make_full _ rfl _ _ 32 rfl (w.heap.size + 1) 3 i0 (.int .i64 0) 1 Tryd.underlying32 hi hz0 hz1 _ _ _ _ k rfl rfl (by omega) (by omega) ?b2 ?b3 (by simp) ?_)
  case b2 => rw [hz2]; omega
  case b3 => unfold maxLen; omega
  intro w1 hown0 hgrow0
  obtain ⟨g, hg⟩ : ∃ g, g = w.heap.size + 1 := ⟨_, rfl⟩
  have hb0 : Below H1 (w.alloc (.cells #[.int .i64 N, .string s, .string r] 24)) w1 := below_of_grown hgrow0 (by rw [BX.out.2.2]; exact Nat.le_refl _) (fun k h => by cases h)
  have HST : Hid (OwnI 3 w1 w.heap.size (.slice (some ⟨g, 0, none⟩) k k) (List.replicate k 0) ∧ Below w.heap.size w w1 ∧ Box 24 w1 w.heap.size N s r ∧ g = w.heap.size + 1) := by
    have h1 := (OwnI.made hown0).mono (B' := w.heap.size) (by omega)
    refine ⟨by rw [hg]; exact h1, BX.out.2.1.trans (hb0.mono (by have := HH1.out; omega)), BX.out.1.below hb0 (by have := HH1.out; omega), hg⟩
  rw [← hg]
  clear hown0 hgrow0 hb0 hg BX hi hz0 hz1 hz2
  have wk : IntKind.i64.wrap ((k : Int) - 1) = (k : Int) - 1 := IntWalk.i64_in _ (by omega)
  go_wp2_with fail
  go_loopw [1, 8] (fun nv iv wr => ∃ (j m : Nat) (l : List Int), j ≤ k ∧ iv = .int .i64 ((j : Int) - 1) ∧ nv = .int .i64 m ∧ m < 729 ∧ Hid (m = n / (N + 1) ^ (k - j)) ∧ Hid (l.length = k ∧ ∀ i, j ≤ i → i < k → l.getD i 0 = (pbs (tup N k n)).getD i 0) ∧ Hid (OwnI 3 wr w.heap.size (.slice (some ⟨g, 0, none⟩) k k) l ∧ Below w.heap.size w wr ∧ Box 24 wr w.heap.size N s r ∧ g = w.heap.size + 1)) (fun _ iv _ => ((intOf iv) + 1).toNat)
  case atStart => exact ⟨k, n, List.replicate k 0, Nat.le_refl _, by first | rfl | go_num, rfl, hn9, by rw [Hid, Nat.sub_self, Nat.pow_zero, Nat.div_one], ⟨by simp, fun i h1 h2 => by omega⟩, HST.out⟩
  case round =>
    clear HST
    obtain ⟨j, m, l, hj, rfl, rfl, hm, HM, HL, HQ⟩ := hrel
    cases j with
    | zero =>
      have em : ((0 : Nat) : Int) - 1 = -1 := rfl
      rw [em]
      have HE : Hid (l = pbs (tup N k n)) := List.ext_getElem (by rw [pbs_len, tup_len]; exact HL.out.1) fun i h1 h2 => by
        have := HL.out.2 i (Nat.zero_le _) (by have := HL.out.1; omega)
        rw [List.getD_eq_getElem?_getD, List.getD_eq_getElem?_getD, List.getElem?_eq_getElem h1, List.getElem?_eq_getElem h2] at this
        exact this
      go_wp2
      go_ret
      exact ⟨_, rfl, by rw [← HE.out]; exact HQ.out.1, HQ.out.2.1⟩
    | succ j =>
      have hj1 : ((j + 1 : Nat) : Int) - 1 = (j : Int) := by omega
      rw [hj1]
      have hjk : j < k := by omega
      obtain ⟨Q, hQ⟩ : ∃ Q, Q = N + 1 := ⟨_, rfl⟩
      have HQQ := Lib.hid hQ
      have hQ1 : 1 ≤ Q := by omega
      have w0 : IntKind.i64.wrap ((N : Int) + 1) = (Q : Int) := by rw [IntWalk.i64_in _ (by omega)]; omega
      obtain ⟨v1, v2, v3, v4⟩ := dv (x := m) (m := Q) hQ1 (by omega)
      have v5 : ¬ ((Q : Nat) : Int) = 0 := by omega
      obtain ⟨x, hx⟩ : ∃ x, x = m % Q := ⟨_, rfl⟩
      obtain ⟨y, hy⟩ : ∃ y, y = m / Q := ⟨_, rfl⟩
      rw [← hx] at v3
      rw [← hy] at v1 v2
      have hx9 : x < 10 := by have := Nat.mod_lt m (show Q > 0 by omega); omega
      have hy9 : y < 729 := by have := Nat.div_le_self m Q; omega
      have HX : Hid ((x : Int) - 1 = (pbs (tup N k n)).getD j 0) := by
        rw [Hid, tup_pbs hjk, hx, hQ, HM.out, show k - (j + 1) = k - 1 - j by omega]
      have HY : Hid (y = n / (N + 1) ^ (k - j)) := by
        rw [Hid, hy, hQ, HM.out, Nat.div_div_eq_div_mul, ← Nat.pow_succ, show (k - (j + 1)).succ = k - j by omega]
      have x1 : (j : Int) < (k : Int) := by omega
      have hg1 : g ≠ w.heap.size := by have := HQ.out.2.2.2; omega
      have k0 := HQ.out.1.cell j (by have := HL.out.1; omega)
      have f0 := HQ.out.1.free j
      obtain ⟨c0, c1, c2⟩ := HQ.out.2.2.1.c
      have HN2 : Hid (OwnI 3 (wr.setCell ⟨g, j, none⟩ (.int .i64 ((x : Int) - 1))) w.heap.size (.slice (some ⟨g, 0, none⟩) k k) (l.set j ((x : Int) - 1)) ∧ Below w.heap.size w (wr.setCell ⟨g, j, none⟩ (.int .i64 ((x : Int) - 1))) ∧ Box 24 (wr.setCell ⟨g, j, none⟩ (.int .i64 ((x : Int) - 1))) w.heap.size N s r ∧ g = w.heap.size + 1) := ⟨HQ.out.1.set j _, HQ.out.2.1.setCell (by exact HQ.out.1.ge.1) _, box_oth HQ.out.2.2.1 (fun e => hg1 e.symm), HQ.out.2.2.2⟩
      have HL2 : Hid ((l.set j ((x : Int) - 1)).length = k ∧ ∀ i, j ≤ i → i < k → (l.set j ((x : Int) - 1)).getD i 0 = (pbs (tup N k n)).getD i 0) := by
        refine ⟨by rw [List.length_set]; exact HL.out.1, fun i h1 h2 => ?_⟩
        by_cases e : j = i
        · subst e
          rw [List.getD_eq_getElem?_getD, List.getElem?_set_self (by rw [HL.out.1]; exact hjk), ← HX.out]; rfl
        · rw [List.getD_eq_getElem?_getD, List.getElem?_set_ne e, ← List.getD_eq_getElem?_getD]
          exact HL.out.2 i (by omega) h2
      obtain ⟨z, hz⟩ : ∃ z : Int, z = (x : Int) - 1 := ⟨_, rfl⟩
      rw [← hz] at HN2 HL2
      have w2 : wrap64 ((x : Int) - 1) = z := by rw [hz]; unfold wrap64; omega
      have c3 : (wr.setCell ⟨g, j, none⟩ (.int .i64 z)).cell? ⟨w.heap.size, 0, none⟩ = some (.int .i64 N) := HN2.out.2.2.1.c.1
      clear hQ hx hy hz HX HL HM HQ hx9
      go_wp2
      go_roundw
      case rel => exact ⟨j, y, _, by omega, by first | rfl | go_num, by go_num, hy9, HY.out, HL2.out, HN2.out⟩
      case measure => simp [intOf]
end Go.Proofs.YtpcnoiigbmiejaaDoor.pbi

/- l7Ready, l7Kinds, l7Atoms of the reference. -/
namespace Go.Proofs.YtpcnoiigbmiejaaDoor.pbi
set_option linter.unusedVariables false
set_option linter.unusedSimpArgs false
open Go.ChangeShapes Go.WideShapes Go.ChangeAt Go.RowKit
open Go.Proofs.YtpcnoiigbmiejaaDoor.lib Go.Proofs.YtpcnoiigbmiejaaDoor.st Go.Proofs.YtpcnoiigbmiejaaDoor.flow Go.Proofs.YtpcnoiigbmiejaaDoor.chain Go.Proofs.YtpcnoiigbmiejaaDoor.base Go.Proofs.YtpcnoiigbmiejaaDoor.fits Go.Proofs.YtpcnoiigbmiejaaDoor.still Go.Proofs.YtpcnoiigbmiejaaDoor.gow Go.Proofs.YtpcnoiigbmiejaaDoor.peb Go.Proofs.YtpcnoiigbmiejaaDoor.tab Go.Proofs.YtpcnoiigbmiejaaDoor.make Go.Proofs.YtpcnoiigbmiejaaDoor.near Go.Proofs.YtpcnoiigbmiejaaDoor.game
theorem ready_ok {n m : Int} {s r t q : ByteArray} {la lb : List Int} : readyB n s r la m t q lb = (okP n s r la && (okP m t q lb && (decide (la.length = lb.length) && signB la lb))) := by
  unfold readyB okP
  cases validB n s r <;> cases validB m t q <;> cases pebB n la <;> cases pebB m lb <;> rfl
theorem okP_len {n : Int} {s r : ByteArray} {l : List Int} (h : okP n s r l = true) : 1 ≤ l.length ∧ l.length ≤ 3 := by
  unfold okP at h
  rw [Bool.and_eq_true] at h
  exact (pebB_iff.1 h.2).1

set_option maxHeartbeats 6400000 in
set_option maxRecDepth 100000 in
theorem l7Ready_any (n : Int) (s r : ByteArray) (va : Value) (la : List Int) (m : Int) (t q : ByteArray) (vb : Value) (lb : List Int) (w : World) (ha : Reads w va la) (hb : Reads w vb lb) (hla : la.length ≤ 1000000) (hlb : lb.length ≤ 1000000) (hs : s.size ≤ 9223372036854775807) (hr : r.size ≤ 9223372036854775807) (ht : t.size ≤ 9223372036854775807) (hq : q.size ≤ 9223372036854775807) :
    Calls Tryd.prog 66 #[.agg #[.int .i64 n, .string s, .string r], va, .agg #[.int .i64 m, .string t, .string q], vb] w fun e w' => e = .returned (.bool (readyB n s r la m t q lb)) ∧ Below w.heap.size w w' := by
  obtain ⟨a1o, c1, rfl⟩ := ha.len
  obtain ⟨a2o, c2, rfl⟩ := hb.len
  obtain ⟨W0, hW0⟩ : ∃ W0, W0 = (w.alloc (.cells #[.int .i64 n, .string s, .string r] 24)).alloc (.cells #[.int .i64 m, .string t, .string q] 24) := ⟨_, rfl⟩
  have AW0 : Hid (Below w.heap.size w W0) := by rw [hW0]; exact ((Below.refl _ _).alloc (Nat.le_refl _) _).alloc (by simp) _
  have RA0 := Lib.hid (ha.below AW0.out (Nat.le_refl _))
  have RB0 := Lib.hid (hb.below AW0.out (Nat.le_refl _))
  have BA0 : Hid (Box 24 W0 w.heap.size n s r) := by
    rw [hW0]; exact (Box.new 24 w w.heap.size rfl n s r).below ((Below.refl (w.heap.size + 1) _).alloc (by simp) _) (by omega)
  have BB0 : Hid (Box 24 W0 (w.heap.size + 1) m t q) := by
    rw [hW0]; exact Box.new 24 (w.alloc (.cells #[.int .i64 n, .string s, .string r] 24)) (w.heap.size + 1) (by simp) m t q
  obtain ⟨k1, hk1⟩ : ∃ k1, k1 = la.length := ⟨_, rfl⟩
  obtain ⟨k2, hk2⟩ : ∃ k2, k2 = lb.length := ⟨_, rfl⟩
  have HK := Lib.hid (show _ ∧ _ from ⟨hk1, hk2⟩)
  have HZ := Lib.hid (show _ ∧ _ ∧ _ ∧ _ ∧ _ ∧ _ from ⟨hs, hr, ht, hq, hla, hlb⟩)
  have h10 : k1 ≤ 1000000 := by rw [hk1]; exact hla
  have h20 : k2 ≤ 1000000 := by rw [hk2]; exact hlb
  have HW0 := Lib.hid hW0
  rw [← hk1] at RA0 ⊢
  rw [← hk2] at RB0 ⊢
  clear ha hb hs hr ht hq hla hlb hk1 hk2 hW0
  go_enter Tryd.func66, Tryd.ntmps66
  go_wp2_with fail
  rw [← HW0.out]
  clear HW0
  refine (l7Pebbles_any n s r (.slice a1o k1 c1) la _ RA0.out (by have := HZ.out.2.2.2.2.1; omega) HZ.out.1 HZ.out.2.1).mono ?_
  rintro e w1 ⟨rfl, hw⟩
  have AW1 : Hid (Below w.heap.size w w1) := AW0.out.trans (hw.mono AW0.out.size)
  have BA1 := Lib.hid (BA0.out.below hw BA0.out.lt)
  have BB1 := Lib.hid (BB0.out.below hw BB0.out.lt)
  have RA1 := Lib.hid (RA0.out.below hw (Nat.le_refl _))
  have RB1 := Lib.hid (RB0.out.below hw (Nat.le_refl _))
  clear hw AW0 BA0 BB0 RA0 RB0
  obtain ⟨a0, a1, a2⟩ := BA1.out.c
  obtain ⟨b0, b1, b2⟩ := BB1.out.c
  cases hv : okP n s r la with
  | false =>
    have HE : Hid (readyB n s r la m t q lb = false) := by rw [Hid, ready_ok, hv]; rfl
    clear hv
    go_wp2
    go_ret
    exact ⟨by rw [HE.out]; rfl, AW1.out⟩
  | true =>
    have HV1 := Lib.hid hv
    clear hv
    go_wp2_with fail
    refine (l7Pebbles_any m t q (.slice a2o k2 c2) lb _ RB1.out (by have := HZ.out.2.2.2.2.2; omega) HZ.out.2.2.1 HZ.out.2.2.2.1).mono ?_
    rintro e w4 ⟨rfl, hw⟩
    have AW4 : Hid (Below w.heap.size w w4) := AW1.out.trans (hw.mono AW1.out.size)
    have BA4 := Lib.hid (BA1.out.below hw BA1.out.lt)
    have BB4 := Lib.hid (BB1.out.below hw BB1.out.lt)
    have RA4 := Lib.hid (RA1.out.below hw (Nat.le_refl _))
    have RB4 := Lib.hid (RB1.out.below hw (Nat.le_refl _))
    clear hw AW1 BA1 BB1 RA1 RB1
    obtain ⟨a0, a1, a2⟩ := BA4.out.c
    obtain ⟨b0, b1, b2⟩ := BB4.out.c
    cases hv : okP m t q lb with
    | false =>
      have HE : Hid (readyB n s r la m t q lb = false) := by rw [Hid, ready_ok, hv]; simp
      clear hv
      go_wp2
      go_ret
      exact ⟨by rw [HE.out]; rfl, AW4.out⟩
    | true =>
      have HV2 := Lib.hid hv
      clear hv
      by_cases hlen : k1 = k2
      · have e1 : ((k1 : Int) != (k2 : Int)) = false := by simp; omega
        have e2 : (k1 != k2) = false := by simp; omega
        have HLE := Lib.hid hlen
        have hk3 : k1 ≤ 3 ∧ 1 ≤ k1 := by
          have h := okP_len HV1.out
          rw [HK.out.1]; exact ⟨h.2, h.1⟩
        obtain ⟨ka, kb⟩ := hk3
        have hx1 : ∃ b off, a1o = some ⟨b, off, none⟩ ∧ ∀ i, i < k1 → w4.cell? ⟨b, off + i, none⟩ = some (.int .i64 (la.getD i 0)) := by
          obtain ⟨ao, c, e, hr, -⟩ := RA4.out
          cases e
          rcases hr with h | h
          · exact absurd kb (by rw [HK.out.1, h]; simp)
          · obtain ⟨b, off, e, hc⟩ := h
            exact ⟨b, off, e, fun i hi => hc i (by rw [← HK.out.1]; exact hi)⟩
        have hx2 : ∃ b off, a2o = some ⟨b, off, none⟩ ∧ ∀ i, i < k2 → w4.cell? ⟨b, off + i, none⟩ = some (.int .i64 (lb.getD i 0)) := by
          obtain ⟨ao, c, e, hr, -⟩ := RB4.out
          cases e
          rcases hr with h | h
          · exact absurd kb (by rw [HLE.out, HK.out.2, h]; simp)
          · obtain ⟨b, off, e, hc⟩ := h
            exact ⟨b, off, e, fun i hi => hc i (by rw [← HK.out.2]; exact hi)⟩
        obtain ⟨bx, ox, rfl, hcx⟩ := hx1
        obtain ⟨by', oy, rfl, hcy⟩ := hx2
        have HCX := Lib.hid hcx
        have HCY := Lib.hid hcy
        clear hcx hcy hlen RA4 RB4 BA4 BB4 a0 a1 a2 b0 b1 b2
        go_wp2_with fail
        go_loopw [9] (fun iv wr => ∃ i : Nat, i ≤ k1 ∧ iv = .int .i64 i ∧ Hid ((∀ j, j < i → (la.getD j 0 < 0 ↔ lb.getD j 0 < 0)) ∧ Below w4.heap.size w4 wr)) (fun iv _ => k1 - (intOf iv).toNat)
        case atStart => exact ⟨0, Nat.zero_le _, rfl, fun j hj => by omega, Below.refl _ _⟩
        case round =>
          obtain ⟨i, hi, rfl, hst⟩ := hrel
          by_cases hli : i < k1
          · have i1 : (i : Int) < (k1 : Int) := by omega
            have i2 : i < k2 := by have := HLE.out; omega
            have hc1 : wr.cell? ⟨bx, ox + i, none⟩ = some (.int .i64 (la.getD i 0)) := ins.keepCell hst.out.2 (HCX.out i hli)
            have hc2 : wr.cell? ⟨by', oy + i, none⟩ = some (.int .i64 (lb.getD i 0)) := ins.keepCell hst.out.2 (HCY.out i i2)
            obtain ⟨x, hx⟩ : ∃ x, x = la.getD i 0 := ⟨_, rfl⟩
            obtain ⟨y, hy⟩ : ∃ y, y = lb.getD i 0 := ⟨_, rfl⟩
            rw [← hx] at hc1
            rw [← hy] at hc2
            have HXY := Lib.hid (show _ ∧ _ from ⟨hx, hy⟩)
            have HI := Lib.hid hli
            have AX : Hid (Below w.heap.size w wr) := AW4.out.trans (hst.out.2.mono AW4.out.size)
            clear hx hy
            obtain ⟨u, hu⟩ : ∃ u, u = decide (x < 0) := ⟨_, rfl⟩
            obtain ⟨v, hv⟩ : ∃ v, v = decide (y < 0) := ⟨_, rfl⟩
            have HUV := Lib.hid (show _ ∧ _ from ⟨hu, hv⟩)
            by_cases huv : u = v
            · have HN : Hid ((∀ j, j < i + 1 → (la.getD j 0 < 0 ↔ lb.getD j 0 < 0)) ∧ Below w4.heap.size w4 wr.drew) := ⟨fun j hj => by
                rcases Nat.lt_or_ge j i with h1 | h1
                · exact hst.out.1 j h1
                · obtain rfl : j = i := by omega
                  rw [← HXY.out.1, ← HXY.out.2]
                  have h := huv
                  rw [HUV.out.1, HUV.out.2] at h
                  exact decide_eq_decide.1 h, hst.out.2.drew⟩
              clear hst
              subst huv
              cases u with
              | true =>
                have d1 : x < 0 := of_decide_eq_true hu.symm
                have d2 : y < 0 := of_decide_eq_true hv.symm
                clear hu hv
                have q0 : ∀ QQ : Wd (fun Q => Q.cell? ⟨bx, ox + i, none⟩ = some (.int .i64 x) ∧ Q.cell? ⟨by', oy + i, none⟩ = some (.int .i64 y)), QQ.w.cell? ⟨bx, ox + i, none⟩ = some (.int .i64 x) := fun QQ => QQ.ok.1
                have q1 : ∀ QQ : Wd (fun Q => Q.cell? ⟨bx, ox + i, none⟩ = some (.int .i64 x) ∧ Q.cell? ⟨by', oy + i, none⟩ = some (.int .i64 y)), QQ.w.cell? ⟨by', oy + i, none⟩ = some (.int .i64 y) := fun QQ => QQ.ok.2
                have HC : Hid (wr.drew.cell? ⟨bx, ox + i, none⟩ = some (.int .i64 x) ∧ wr.drew.cell? ⟨by', oy + i, none⟩ = some (.int .i64 y)) := ⟨hc1, hc2⟩
                have hne : Nonempty (Wd (fun Q => Q.cell? ⟨bx, ox + i, none⟩ = some (.int .i64 x) ∧ Q.cell? ⟨by', oy + i, none⟩ = some (.int .i64 y))) := ⟨⟨wr.drew, HC.out⟩⟩
                clear hc1 hc2
                go_wp2_with fail
                refine chain (S := (fun Q => Q.cell? ⟨bx, ox + i, none⟩ = some (.int .i64 x) ∧ Q.cell? ⟨by', oy + i, none⟩ = some (.int .i64 y))) [] [true, true, true, true, true, true, true, true, true, true, true] (by kernel_rfl) (by kernel_rfl) (by kernel_rfl) HC.out ?_
                simp only [wpSegs, pickB, List.dropLast_cons_cons, List.dropLast_singleton, List.getLast?_cons_cons, List.getLast?_singleton, List.toList_toArray, List.getElem?_toArray, List.getElem?_cons_succ, List.getElem?_cons_zero, Option.toList_some]
                repeat (go_big_quiet_step (fail))
                refine wpQuiet_nil ?_
                clear q0 q1 hne
                go_wp2
                go_roundw
                case rel => exact ⟨i + 1, by omega, by go_num, HN.out⟩
                case measure => simp [intOf]; omega
              | false =>
                have d1 : ¬ x < 0 := of_decide_eq_false hu.symm
                have d2 : ¬ y < 0 := of_decide_eq_false hv.symm
                clear hu hv
                have q0 : ∀ QQ : Wd (fun Q => Q.cell? ⟨bx, ox + i, none⟩ = some (.int .i64 x) ∧ Q.cell? ⟨by', oy + i, none⟩ = some (.int .i64 y)), QQ.w.cell? ⟨bx, ox + i, none⟩ = some (.int .i64 x) := fun QQ => QQ.ok.1
                have q1 : ∀ QQ : Wd (fun Q => Q.cell? ⟨bx, ox + i, none⟩ = some (.int .i64 x) ∧ Q.cell? ⟨by', oy + i, none⟩ = some (.int .i64 y)), QQ.w.cell? ⟨by', oy + i, none⟩ = some (.int .i64 y) := fun QQ => QQ.ok.2
                have HC : Hid (wr.drew.cell? ⟨bx, ox + i, none⟩ = some (.int .i64 x) ∧ wr.drew.cell? ⟨by', oy + i, none⟩ = some (.int .i64 y)) := ⟨hc1, hc2⟩
                have hne : Nonempty (Wd (fun Q => Q.cell? ⟨bx, ox + i, none⟩ = some (.int .i64 x) ∧ Q.cell? ⟨by', oy + i, none⟩ = some (.int .i64 y))) := ⟨⟨wr.drew, HC.out⟩⟩
                clear hc1 hc2
                go_wp2_with fail
                refine chain (S := (fun Q => Q.cell? ⟨bx, ox + i, none⟩ = some (.int .i64 x) ∧ Q.cell? ⟨by', oy + i, none⟩ = some (.int .i64 y))) [] [true, true, true, true, true, true, true, true, true, true, true] (by kernel_rfl) (by kernel_rfl) (by kernel_rfl) HC.out ?_
                simp only [wpSegs, pickB, List.dropLast_cons_cons, List.dropLast_singleton, List.getLast?_cons_cons, List.getLast?_singleton, List.toList_toArray, List.getElem?_toArray, List.getElem?_cons_succ, List.getElem?_cons_zero, Option.toList_some]
                repeat (go_big_quiet_step (fail))
                refine wpQuiet_nil ?_
                clear q0 q1 hne
                go_wp2
                · rename_i hh
                  exact absurd hh (by rw [decide_eq_false (show ¬ x < 0 by omega), decide_eq_false (show ¬ y < 0 by omega)]; decide)
                go_roundw
                case rel => exact ⟨i + 1, by omega, by go_num, HN.out⟩
                case measure => simp [intOf]; omega
            · have HE : Hid (readyB n s r la m t q lb = false) := by
                have hsg : signB la lb = false := decide_eq_false fun h => huv (by
                  have := h i (by rw [← HK.out.1]; exact HI.out)
                  rw [HUV.out.1, HUV.out.2, HXY.out.1, HXY.out.2]
                  exact decide_eq_decide.2 this)
                rw [Hid, ready_ok, hsg]; simp
              clear hst
              cases u with
              | true =>
                cases v with
                | true => exact absurd rfl huv
                | false =>
                  have d1 : x < 0 := of_decide_eq_true hu.symm
                  have d2 : ¬ y < 0 := of_decide_eq_false hv.symm
                  clear hu hv huv
                  have q0 : ∀ QQ : Wd (fun Q => Q.cell? ⟨bx, ox + i, none⟩ = some (.int .i64 x) ∧ Q.cell? ⟨by', oy + i, none⟩ = some (.int .i64 y)), QQ.w.cell? ⟨bx, ox + i, none⟩ = some (.int .i64 x) := fun QQ => QQ.ok.1
                  have q1 : ∀ QQ : Wd (fun Q => Q.cell? ⟨bx, ox + i, none⟩ = some (.int .i64 x) ∧ Q.cell? ⟨by', oy + i, none⟩ = some (.int .i64 y)), QQ.w.cell? ⟨by', oy + i, none⟩ = some (.int .i64 y) := fun QQ => QQ.ok.2
                  have HC : Hid (wr.drew.cell? ⟨bx, ox + i, none⟩ = some (.int .i64 x) ∧ wr.drew.cell? ⟨by', oy + i, none⟩ = some (.int .i64 y)) := ⟨hc1, hc2⟩
                  have hne : Nonempty (Wd (fun Q => Q.cell? ⟨bx, ox + i, none⟩ = some (.int .i64 x) ∧ Q.cell? ⟨by', oy + i, none⟩ = some (.int .i64 y))) := ⟨⟨wr.drew, HC.out⟩⟩
                  clear hc1 hc2
                  go_wp2_with fail
                  refine chain (S := (fun Q => Q.cell? ⟨bx, ox + i, none⟩ = some (.int .i64 x) ∧ Q.cell? ⟨by', oy + i, none⟩ = some (.int .i64 y))) [] [true, true, true, true, true, true, true, true, true, true, true] (by kernel_rfl) (by kernel_rfl) (by kernel_rfl) HC.out ?_
                  simp only [wpSegs, pickB, List.dropLast_cons_cons, List.dropLast_singleton, List.getLast?_cons_cons, List.getLast?_singleton, List.toList_toArray, List.getElem?_toArray, List.getElem?_cons_succ, List.getElem?_cons_zero, Option.toList_some]
                  repeat (go_big_quiet_step (fail))
                  refine wpQuiet_nil ?_
                  clear q0 q1 hne
                  go_wp2
                  · go_ret
                    exact ⟨by rw [HE.out] <;> rfl, by first | exact AX.out | exact AX.out.drew⟩
                  · rename_i hh
                    exact absurd hh (by rw [decide_eq_false (show ¬ y < 0 by omega)]; decide)
              | false =>
                cases v with
                | false => exact absurd rfl huv
                | true =>
                  have d1 : ¬ x < 0 := of_decide_eq_false hu.symm
                  have d2 : y < 0 := of_decide_eq_true hv.symm
                  clear hu hv huv
                  have q0 : ∀ QQ : Wd (fun Q => Q.cell? ⟨bx, ox + i, none⟩ = some (.int .i64 x) ∧ Q.cell? ⟨by', oy + i, none⟩ = some (.int .i64 y)), QQ.w.cell? ⟨bx, ox + i, none⟩ = some (.int .i64 x) := fun QQ => QQ.ok.1
                  have q1 : ∀ QQ : Wd (fun Q => Q.cell? ⟨bx, ox + i, none⟩ = some (.int .i64 x) ∧ Q.cell? ⟨by', oy + i, none⟩ = some (.int .i64 y)), QQ.w.cell? ⟨by', oy + i, none⟩ = some (.int .i64 y) := fun QQ => QQ.ok.2
                  have HC : Hid (wr.drew.cell? ⟨bx, ox + i, none⟩ = some (.int .i64 x) ∧ wr.drew.cell? ⟨by', oy + i, none⟩ = some (.int .i64 y)) := ⟨hc1, hc2⟩
                  have hne : Nonempty (Wd (fun Q => Q.cell? ⟨bx, ox + i, none⟩ = some (.int .i64 x) ∧ Q.cell? ⟨by', oy + i, none⟩ = some (.int .i64 y))) := ⟨⟨wr.drew, HC.out⟩⟩
                  clear hc1 hc2
                  go_wp2_with fail
                  refine chain (S := (fun Q => Q.cell? ⟨bx, ox + i, none⟩ = some (.int .i64 x) ∧ Q.cell? ⟨by', oy + i, none⟩ = some (.int .i64 y))) [] [true, true, true, true, true, true, true, true, true, true, true] (by kernel_rfl) (by kernel_rfl) (by kernel_rfl) HC.out ?_
                  simp only [wpSegs, pickB, List.dropLast_cons_cons, List.dropLast_singleton, List.getLast?_cons_cons, List.getLast?_singleton, List.toList_toArray, List.getElem?_toArray, List.getElem?_cons_succ, List.getElem?_cons_zero, Option.toList_some]
                  repeat (go_big_quiet_step (fail))
                  refine wpQuiet_nil ?_
                  clear q0 q1 hne
                  go_wp2
                  · go_ret
                    exact ⟨by rw [HE.out] <;> rfl, by first | exact AX.out | exact AX.out.drew⟩
                  · rename_i hh
                    exact absurd hh (by rw [decide_eq_false (show ¬ x < 0 by omega)]; decide)
          · obtain rfl : k1 = i := by omega
            have HE : Hid (readyB n s r la m t q lb = true) := by
              have hsg : signB la lb = true := decide_eq_true fun j hj => hst.out.1 j (by rw [HK.out.1]; exact hj)
              rw [Hid, ready_ok, HV1.out, HV2.out, hsg, decide_eq_true (show la.length = lb.length by rw [← HK.out.1, ← HK.out.2]; exact HLE.out)]; rfl
            have AX : Hid (Below w.heap.size w wr) := AW4.out.trans (hst.out.2.mono AW4.out.size)
            clear hst
            go_wp2
            go_ret
            exact ⟨by rw [HE.out] <;> rfl, by first | exact AX.out | exact AX.out.drew⟩
      · have e1 : ((k1 : Int) != (k2 : Int)) = true := by simp; omega
        have e2 : (k1 != k2) = true := by simp; omega
        have HE : Hid (readyB n s r la m t q lb = false) := by
          rw [Hid, ready_ok, decide_eq_false (show ¬ la.length = lb.length by rw [← HK.out.1, ← HK.out.2]; exact hlen)]; simp
        clear hlen
        go_wp2
        go_ret
        exact ⟨by rw [HE.out] <;> rfl, AW4.out⟩

set_option maxHeartbeats 6400000 in
set_option maxRecDepth 100000 in
theorem l7Kinds_any (va vb : Value) (xs ys : List Nat) (w : World) (ha : Reads w va (ints xs)) (hb : Reads w vb (ints ys)) (hx : xs.length ≤ 1000) (hy : ys.length ≤ 1000) (hm : ∀ x, x ∈ xs ++ ys → x ≤ 1000000) :
    Calls Tryd.prog 116 #[va, vb] w fun e w' => e = .returned (.int .i64 ((kindsL (xs ++ ys) : Nat) : Int)) ∧ Below w.heap.size w w' := by
  obtain ⟨W1, hW1⟩ : ∃ QZ, QZ = w.alloc (.cells #[] 3) := ⟨_, rfl⟩
  have HA : Hid (OwnI 3 W1 w.heap.size (.slice (some ⟨w.heap.size, 0, none⟩) 0 0) [] ∧ Below w.heap.size w W1 ∧ Reads W1 va (ints xs) ∧ Reads W1 vb (ints ys) ∧ w.heap.size ≤ W1.heap.size) := by
    rw [hW1]
    exact ⟨empty_own w, (Below.refl _ _).alloc (Nat.le_refl _) _, ha.below ((Below.refl _ _).alloc (Nat.le_refl _) _) (Nat.le_refl _), hb.below ((Below.refl _ _).alloc (Nat.le_refl _) _) (Nat.le_refl _), by simp⟩
  have HL := Lib.hid (show _ ∧ _ ∧ _ from ⟨hx, hy, hm⟩)
  have HW1 := Lib.hid hW1
  have HRB := Lib.hid hb
  clear ha hb hx hy hm hW1
  go_enter Tryd.func116, Tryd.ntmps116
  go_wp2_with (rw [← HW1.out]; at_builtin; refine wpList_appAll W1 rfl (.tmp 8) (.tmp 9) 32 rfl w.heap.size 3 Tryd.underlying32 near.infoInt _ [] (ints xs) rfl HA.out.1 va rfl HA.out.2.2.1 (by have := HL.out; simp [ints_len]; omega) HA.out.2.2.2.2 ?_)
  intro v2 w2 ho hg hlt
  have hb2 : Below w.heap.size w w2 := HA.out.2.1.trans (below_of_grown hg HA.out.2.2.2.2 fun k hk => (World.ownsRow.lt HA.out.1 k hk).1)
  try simp only [List.nil_append] at ho
  have HO2 : Hid (OwnI 3 w2 w.heap.size v2 (ints xs) ∧ Below w.heap.size w w2 ∧ Reads w2 vb (ints ys) ∧ w.heap.size ≤ w2.heap.size) := ⟨ho, hb2, HRB.out.below hb2 (Nat.le_refl _), hb2.size⟩
  clear ho hg hlt hb2 HA HW1 HRB
  go_wp2_with (at_builtin; refine wpList_appAll w2 rfl (.tmp 10) (.tmp 11) 32 rfl w.heap.size 3 Tryd.underlying32 near.infoInt _ (ints xs) (ints ys) rfl HO2.out.1 vb rfl HO2.out.2.2.1 (by have := HL.out; simp [ints_len]; omega) HO2.out.2.2.2 ?_)
  intro v3 w3 ho hg hlt
  have hb3 : Below w.heap.size w w3 := HO2.out.2.1.trans (below_of_grown hg HO2.out.2.2.2 fun k hk => (World.ownsRow.lt HO2.out.1 k hk).1)
  obtain ⟨zs, hzs⟩ : ∃ zs, zs = xs ++ ys := ⟨_, rfl⟩
  have HO3 : Hid (OwnI 3 w3 w.heap.size v3 (ints zs) ∧ Below w.heap.size w w3) := ⟨by rw [hzs, ints_app]; exact ho, hb3⟩
  have HZS : Hid (zs = xs ++ ys) := hzs
  have HZL : Hid (zs.length ≤ 2000 ∧ ∀ x, x ∈ zs → x ≤ 1000000) := by
    have := HL.out
    rw [hzs]; exact ⟨by rw [List.length_append]; omega, this.2.2⟩
  clear hzs
  clear ho hg hlt hb3 HO2 HL
  obtain ⟨n, hn⟩ : ∃ n, n = zs.length := ⟨_, rfl⟩
  have hn2 : n ≤ 2000 := by rw [hn]; exact HZL.out.1
  have hr3 := OwnI.reads HO3.out.1
  obtain ⟨ao, c, rfl, hrd, -⟩ := hr3
  rw [ints_len, ← hn]
  have HN := Lib.hid hn
  have HR : Hid (zs.length = 0 ∨ ∃ b off, ao = some ⟨b, off, none⟩ ∧ ∀ i, i < zs.length → w3.cell? ⟨b, off + i, none⟩ = some (.int .i64 ((zs.getD i 0 : Nat) : Int))) := by
    rcases hrd with h | ⟨b, off, ha, hc⟩
    · left; have := congrArg List.length h; rw [ints_len] at this; exact this
    · exact .inr ⟨b, off, ha, fun i hi => by rw [hc i (by rw [ints_len]; exact hi), ints_get]⟩
  clear hrd hn
  go_wp2_with fail
  go_loopw [5, 7] (fun nv iv wr => ∃ (j m : Nat), j ≤ n ∧ iv = .int .i64 j ∧ nv = .int .i64 m ∧ m ≤ 1000001 ∧ Hid (m = kindsL (zs.take j)) ∧ Hid (Below w3.heap.size w3 wr)) (fun _ iv _ => n - (intOf iv).toNat)
  case atStart => exact ⟨0, 0, Nat.zero_le _, rfl, rfl, by omega, rfl, Below.refl _ _⟩
  case round =>
    obtain ⟨j, m, hj, rfl, rfl, hm, HM, HQ⟩ := hrel
    by_cases hlt : j < n
    · have x1 : (j : Int) < (n : Int) := by omega
      rcases HR.out with h0 | ⟨b, off, rfl, hc⟩
      · have := HN.out; omega
      have hjl : j < zs.length := by have := HN.out; omega
      obtain ⟨x, hx⟩ : ∃ x, x = zs.getD j 0 := ⟨_, rfl⟩
      have hx9 : x ≤ 1000000 := by
        rw [hx, List.getD_eq_getElem?_getD, List.getElem?_eq_getElem hjl]
        exact HZL.out.2 _ (List.getElem_mem _)
      have hcj : wr.cell? ⟨b, off + j, none⟩ = some (.int .i64 (x : Int)) := by rw [hx]; exact ins.keepCell HQ.out (hc j hjl)
      have HE : Hid (max m (x + 1) = kindsL (zs.take (j + 1))) := by
        rw [Hid, HM.out, hx, List.take_add_one, List.getElem?_eq_getElem hjl, Option.toList_some]
        unfold kindsL
        rw [List.foldl_append, List.getD_eq_getElem?_getD, List.getElem?_eq_getElem hjl]; rfl
      obtain ⟨y, hy⟩ : ∃ y, y = max m (x + 1) := ⟨_, rfl⟩
      rw [← hy] at HE
      have hy9 : y ≤ 1000001 := by omega
      have w1 : IntKind.i64.wrap ((x : Int) + 1) = ((x + 1 : Nat) : Int) := by rw [IntWalk.i64_in _ (by omega)]; omega
      have HY : Hid (y = max m (x + 1)) := hy
      clear hc HR hx hy
      go_wp2
      go_roundw
      case rel => exact ⟨j + 1, y, by omega, by go_num, by rw [HY.out]; first | rfl | (congr 1; omega), hy9, HE.out, HQ.out⟩
      case measure => simp [intOf]; omega
    · obtain rfl : j = n := by omega
      have HE : Hid (m = kindsL zs) := by have h := HM.out; rw [HN.out, List.take_length] at h; exact h
      go_wp2
      go_ret
      exact ⟨by rw [HE.out, HZS.out]; rfl, HO3.out.2.trans (HQ.out.mono HO3.out.2.size)⟩

set_option maxHeartbeats 6400000 in
set_option maxRecDepth 100000 in
theorem l7Atoms_any (N : Nat) (s r : ByteArray) (v : Value) (ps : List Nat) (w : World) (hsc : Sc N s r) (hr : Reads w v (pbs ps)) (hk : ps.length ≤ 3) (hp : ∀ p, p ∈ ps → p ≤ N) :
    Calls Tryd.prog 154 #[.agg #[.int .i64 N, .string s, .string r], v] w fun e w' => ∃ o : ByteArray, e = .returned (.string o) ∧ o.data.toList = stx (gob.gr N s r) ps ∧ o.size ≤ 3000 ∧ Below w.heap.size w w' := by
  obtain ⟨k, hkk⟩ : ∃ k, k = ps.length := ⟨_, rfl⟩
  have hr2 := hr
  obtain ⟨ao, c, rfl, hrd, -⟩ := hr2
  rw [pbs_len, ← hkk] at hr
  rw [pbs_len] at hrd
  rw [pbs_len, ← hkk]
  obtain ⟨W1, hW1⟩ : ∃ W1, W1 = (w.alloc (.cells #[.int .i64 N, .string s, .string r] 24)).alloc (.cells #[] 3) := ⟨_, rfl⟩
  have hz1 : W1.heap.size = w.heap.size + 2 := by rw [hW1]; simp
  have AW : Hid (Below w.heap.size w W1 ∧ Box 24 W1 w.heap.size N s r ∧ OwnI 3 W1 (w.heap.size + 1) (.slice (some ⟨w.heap.size + 1, 0, none⟩) 0 0) (ints [])) := by
    rw [hW1]
    refine ⟨((Below.refl _ _).alloc (Nat.le_refl _) _).alloc (by simp) _, (Box.new 24 w w.heap.size rfl N s r).below ((Below.refl (w.heap.size + 1) _).alloc (by simp) _) (by omega), ?_⟩
    have h := empty_own (w.alloc (.cells #[.int .i64 N, .string s, .string r] 24))
    rw [show (w.alloc (.cells #[.int .i64 N, .string s, .string r] 24)).heap.size = w.heap.size + 1 by simp] at h
    exact h
  have HR : Hid (ps.length = 0 ∨ ∃ b off, ao = some ⟨b, off, none⟩ ∧ ∀ i, i < ps.length → w.cell? ⟨b, off + i, none⟩ = some (.int .i64 (((ps.getD i 0 : Nat) : Int) - 1))) := by
    rcases hrd with h | ⟨b, off, ha, hc⟩
    · left; have := congrArg List.length h; rw [pbs_len] at this; exact this
    · exact .inr ⟨b, off, ha, fun i hi => by rw [hc i hi, pbs_get hi]⟩
  have HP := Lib.hid (show _ ∧ _ ∧ _ from ⟨hkk, hk, hp⟩)
  have hk3 : k ≤ 3 := by omega
  have HSC := Lib.hid hsc
  have hN8 := hsc.1
  have HW1 := Lib.hid hW1
  clear hr hrd hk hp hkk hsc hW1
  go_enter Tryd.func154, Tryd.ntmps154
  go_wp2_with fail
  rw [← HW1.out]
  clear HW1
  obtain ⟨g0, hg0⟩ : ∃ g0, g0 = w.heap.size + 1 := ⟨_, rfl⟩
  have AW2 : Hid (∃ (g c n : Nat), Value.slice (some ⟨g0, 0, none⟩) 0 0 = .slice (some ⟨g, 0, none⟩) n c ∧ OwnI 3 W1 (w.heap.size + 1) (.slice (some ⟨g, 0, none⟩) n c) (ints (placed (ps.take 0))) ∧ Below w.heap.size w W1 ∧ Box 24 W1 w.heap.size N s r) := ⟨g0, 0, 0, rfl, by rw [hg0]; exact AW.out.2.2, AW.out.1, AW.out.2.1⟩
  rw [← hg0]
  clear hg0 AW
  go_loopw [5, 6, 7] (fun ov lv iv wr => ∃ (j : Nat) (o : ByteArray), j ≤ k ∧ iv = .int .i64 j ∧ ov = .string o ∧ o.size = j ∧ Hid (o.data.toList = signs (ps.take j)) ∧ Hid (∃ (g c n : Nat), lv = .slice (some ⟨g, 0, none⟩) n c ∧ OwnI 3 wr (w.heap.size + 1) (.slice (some ⟨g, 0, none⟩) n c) (ints (placed (ps.take j))) ∧ Below w.heap.size w wr ∧ Box 24 wr w.heap.size N s r)) (fun _ _ iv _ => k - (intOf iv).toNat)
  case atStart => exact ⟨0, ⟨#[]⟩, Nat.zero_le _, rfl, rfl, rfl, rfl, AW2.out⟩
  case round =>
    clear AW2 hz1
    obtain ⟨j, o, hj, rfl, rfl, hos, HO, HQ0⟩ := hrel
    obtain ⟨g, c2, n, rfl, hq⟩ := HQ0.out
    have HQ := Lib.hid hq
    clear hq HQ0
    have hos3 : o.size ≤ 3 := by omega
    by_cases hlt : j < k
    · have x1 : (j : Int) < (k : Int) := by omega
      rcases HR.out with h0 | ⟨b, off, rfl, hc⟩
      · have := HP.out.1; omega
      have hjl : j < ps.length := by have := HP.out.1; omega
      obtain ⟨p, hpp⟩ : ∃ p, p = ps.getD j 0 := ⟨_, rfl⟩
      have hp8 : p ≤ N := by
        rw [hpp, List.getD_eq_getElem?_getD, List.getElem?_eq_getElem hjl]
        exact HP.out.2.2 _ (List.getElem_mem _)
      have hcj : wr.cell? ⟨b, off + j, none⟩ = some (.int .i64 ((p : Int) - 1)) := by rw [hpp]; exact ins.keepCell HQ.out.2.1 (hc j hjl)
      have htk : ps.take (j + 1) = ps.take j ++ [p] := by rw [List.take_add_one, List.getElem?_eq_getElem hjl, hpp, List.getD_eq_getElem?_getD, List.getElem?_eq_getElem hjl]; rfl
      have HTK := Lib.hid htk
      have HLT := Lib.hid hlt
      clear hc hpp htk
      by_cases hp0 : p = 0
      · subst hp0
        have e1 : ((0 : Nat) : Int) - 1 = -1 := rfl
        rw [e1] at hcj
        have hadd : ∀ W, (Op.stringOp .add o ⟨#[45]⟩).run Tryd.prog W = .ok (.string (o ++ ⟨#[45]⟩)) W := fun W => run_string_add_sum W _ _ (by have : ByteArray.size ⟨#[45]⟩ = 1 := rfl; omega)
        have HN : Hid ((o ++ ⟨#[45]⟩ : ByteArray).data.toList = signs (ps.take (j + 1)) ∧ (o ++ ⟨#[45]⟩ : ByteArray).size = j + 1 ∧ ∃ (g' c n' : Nat), Value.slice (some ⟨g, 0, none⟩) n c2 = .slice (some ⟨g', 0, none⟩) n' c ∧ OwnI 3 wr (w.heap.size + 1) (.slice (some ⟨g', 0, none⟩) n' c) (ints (placed (ps.take (j + 1)))) ∧ Below w.heap.size w wr ∧ Box 24 wr w.heap.size N s r) := by
          refine ⟨?_, by rw [ByteArray.size_append, hos]; rfl, g, c2, n, rfl, ?_, HQ.out.2⟩
          · rw [HTK.out, ByteArray.data_append, Array.toList_append, HO.out]; simp [signs]
          · rw [HTK.out, placed_snoc, if_pos rfl, List.append_nil]; exact HQ.out.1
        obtain ⟨o2, ho2⟩ : ∃ o2, o2 = o ++ ⟨#[45]⟩ := ⟨_, rfl⟩
        rw [← ho2] at HN hadd
        clear hos HO HQ ho2
        go_wp2
        go_roundw
        case rel => exact ⟨j + 1, o2, by omega, by go_num, rfl, HN.out.2.1, HN.out.1, HN.out.2.2⟩
        case measure => simp [intOf]; have := HLT.out; omega
      · have hneg : ¬ ((p : Int) - 1 < 0) := by omega
        obtain ⟨x, hx⟩ : ∃ x : Nat, x = p - 1 := ⟨_, rfl⟩
        have e1 : (p : Int) - 1 = (x : Int) := by omega
        rw [e1] at hcj hneg
        have hadd : ∀ W, (Op.stringOp .add o ⟨#[43]⟩).run Tryd.prog W = .ok (.string (o ++ ⟨#[43]⟩)) W := fun W => run_string_add_sum W _ _ (by have : ByteArray.size ⟨#[43]⟩ = 1 := rfl; omega)
        have hnl : n = (ints (placed (ps.take j))).length := own_i HQ.out.1
        have hn3 : n ≤ 3 := by
          rw [hnl, ints_len]
          unfold placed
          rw [List.length_map]
          have h1 := List.length_filter_le (fun p => p != 0) (ps.take j)
          rw [List.length_take] at h1
          omega
        have HS : Hid ((o ++ ⟨#[43]⟩ : ByteArray).data.toList = signs (ps.take (j + 1)) ∧ (o ++ ⟨#[43]⟩ : ByteArray).size = j + 1 ∧ placed (ps.take (j + 1)) = placed (ps.take j) ++ [x]) := by
          refine ⟨?_, by rw [ByteArray.size_append, hos]; rfl, ?_⟩
          · rw [HTK.out, ByteArray.data_append, Array.toList_append, HO.out]; simp [signs, hp0]
          · rw [HTK.out, placed_snoc, if_neg hp0, hx]
        obtain ⟨o2, ho2⟩ : ∃ o2, o2 = o ++ ⟨#[43]⟩ := ⟨_, rfl⟩
        rw [← ho2] at HS hadd
        have HRW : Hid (wr.ownsRow (w.heap.size + 1) 3 1 (.slice (some ⟨g, 0, none⟩) n c2) n (ivs (ints (placed (ps.take j))))) := own_at HQ.out.1 (by rw [hnl, ints_len])
        have HNL := Lib.hid hnl
        have hsz : w.heap.size + 1 ≤ wr.heap.size := by have := HQ.out.1.ge; omega
        clear hos HO ho2 hx e1 hp0 hnl
        go_wp2_with (at_builtin; refine wpList_app1 wr rfl (.tmp 24) (.tmp 29) 32 rfl (w.heap.size + 1) 3 (.int .i64 0) 8 Tryd.underlying32 infoI rfl (by decide) _ _ _ (.int .i64 x) rfl HRW.out wr.heap.size rfl rfl rfl (by omega) hsz ?_)
        intro gA cA V1 ho1 hg1
        have HN : Hid (∃ (g' c n' : Nat), Value.slice (some ⟨gA, 0, none⟩) (n + 1) cA = .slice (some ⟨g', 0, none⟩) n' c ∧ OwnI 3 V1 (w.heap.size + 1) (.slice (some ⟨g', 0, none⟩) n' c) (ints (placed (ps.take (j + 1)))) ∧ Below w.heap.size w V1 ∧ Box 24 V1 w.heap.size N s r) := by
          have hbel : Below (w.heap.size + 1) wr V1 := hg1.below HRW.out hsz
          refine ⟨gA, cA, n + 1, rfl, ?_, HQ.out.2.1.trans (hbel.mono (by omega)), HQ.out.2.2.below hbel (by omega)⟩
          rw [HS.out.2.2]
          exact own_snoc ho1 (by rw [HNL.out, ints_len])
        clear ho1 hg1 HRW HQ
        go_wp2
        go_roundw
        case rel => exact ⟨j + 1, o2, by omega, by go_num, rfl, HS.out.2.1, HS.out.1, HN.out⟩
        case measure => simp [intOf]; have := HLT.out; omega
    · obtain rfl : j = k := by omega
      have hee : ps.take j = ps := by rw [HP.out.1, List.take_length]
      have HOF : Hid (o.data.toList = signs ps) := by rw [Hid, HO.out, hee]
      have HLS : Hid (Ls wr (.slice (some ⟨g, 0, none⟩) n c2) (placed ps) N ∧ (placed ps).length ≤ 20) := by
        have h1 := HQ.out.1
        rw [hee] at h1
        refine ⟨⟨h1.reads, room_own h1, fun z hz => placed_mem HP.out.2.2 hz⟩, ?_⟩
        unfold placed
        rw [List.length_map]
        have h2 := List.length_filter_le (fun p => p != 0) ps
        have := HP.out
        omega
      obtain ⟨c0, c1, c2'⟩ := HQ.out.2.2.c
      clear hee HO hos
      go_wp2_with fail
      refine (atoms_any N s r _ (placed ps) _ HSC.out HLS.out.1 HLS.out.2).mono ?_
      rintro er V1 ⟨u, rfl, hu, hus, hb⟩
      have HF : Hid ((o ++ u).data.toList = stx (gob.gr N s r) ps ∧ Below w.heap.size w V1) := by
        refine ⟨?_, HQ.out.2.1.trans (hb.mono HQ.out.2.1.size)⟩
        rw [ByteArray.data_append, Array.toList_append, HOF.out, hu]; rfl
      have hadd : ∀ W, (Op.stringOp .add o u).run Tryd.prog W = .ok (.string (o ++ u)) W := fun W => run_string_add_sum W _ _ (by omega)
      have hsz : (o ++ u).size ≤ 3000 := by rw [ByteArray.size_append]; omega
      clear hu hus hb
      go_wp2
      go_ret
      exact ⟨_, rfl, HF.out.1, hsz, HF.out.2⟩
end Go.Proofs.YtpcnoiigbmiejaaDoor.pbi
