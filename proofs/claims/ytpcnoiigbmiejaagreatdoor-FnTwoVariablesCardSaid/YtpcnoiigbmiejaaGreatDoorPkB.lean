/- Several texts in one: Less, Num, Refine, Both, SpecC, SpecD, SpecE. -/
import Derived.Test.YtpcnoiigbmiejaaGreatDoorPk1
import Derived.Test.YtpcnoiigbmiejaaGreatDoorPkA
import Derived.RegionTactic
import Derived.ChangeAlike
/- The reference's order of lists: l8Less, l8Equal. -/
namespace Go.Proofs.YtpcnoiigbmiejaaGreatDoor.less
set_option linter.unusedVariables false
set_option linter.unusedSimpArgs false
open Go.ChangeShapes Go.WideShapes Go.ChangeAt Go.RowKit
open Go.Proofs.YtpcnoiigbmiejaaGreatDoor.lib Go.Proofs.YtpcnoiigbmiejaaGreatDoor.sll Go.Proofs.YtpcnoiigbmiejaaGreatDoor.colp

theorem less_drop : ∀ (k : Nat) (l m : List Int), l.take k = m.take k → k ≤ l.length → k ≤ m.length → lessL l m = lessL (l.drop k) (m.drop k)
  | 0, l, m, _, _, _ => by simp
  | k + 1, [], m, _, h, _ => by simp at h
  | k + 1, a :: l, [], _, _, h => by simp at h
  | k + 1, a :: l, b :: m, h, h1, h2 => by
    simp only [List.take_succ_cons, List.cons.injEq] at h
    rw [lessL, if_pos h.1, List.drop_succ_cons, List.drop_succ_cons]
    exact less_drop k l m h.2 (by simpa using h1) (by simpa using h2)
theorem less_at {l m : List Int} {k : Nat} (h : l.take k = m.take k) (h1 : k < l.length) (h2 : k < m.length) (hne : l.getD k 0 ≠ m.getD k 0) : lessL l m = decide (l.getD k 0 < m.getD k 0) := by
  rw [less_drop k l m h (by omega) (by omega), List.drop_eq_getElem_cons h1, List.drop_eq_getElem_cons h2]
  simp only [List.getD_eq_getElem?_getD, List.getElem?_eq_getElem h1, List.getElem?_eq_getElem h2, Option.getD_some] at hne ⊢
  rw [lessL, if_neg hne]
theorem less_end {l m : List Int} {k : Nat} (h : l.take k = m.take k) (h1 : k ≤ l.length) (h2 : k ≤ m.length) (hk : l.length = k ∨ m.length = k) : lessL l m = decide (l.length < m.length) := by
  rw [less_drop k l m h h1 h2]
  rcases hk with hk | hk
  · rw [List.drop_eq_nil_of_le (by omega)]
    cases hd : m.drop k with
    | nil =>
      have : (m.drop k).length = 0 := by rw [hd]; rfl
      rw [List.length_drop] at this
      rw [lessL, decide_eq_false (by omega)]
    | cons a t =>
      have : (m.drop k).length = t.length + 1 := by rw [hd]; rfl
      rw [List.length_drop] at this
      rw [lessL, decide_eq_true (by omega)]
  · rw [List.drop_eq_nil_of_le (show m.length ≤ k by omega)]
    rw [decide_eq_false (by omega)]
    cases l.drop k <;> rfl

set_option maxHeartbeats 1600000 in
theorem l8Less_any (v v2 : Value) (l m : List Int) (w : World) (h : Reads w v l) (h2 : Reads w v2 m) (hn : l.length ≤ 17592186044416) (hn2 : m.length ≤ 17592186044416) :
    Calls Tryz.prog 105 #[v, v2] w fun e w' => e = .returned (.bool (lessL l m)) ∧ Below w.heap.size w w' := by
  obtain ⟨ao, ca, rfl, hl, _⟩ := h
  obtain ⟨bo, cb, rfl, hm, _⟩ := h2
  obtain ⟨n, hnl⟩ : ∃ n, n = l.length := ⟨_, rfl⟩
  obtain ⟨p, hpm⟩ : ∃ p, p = m.length := ⟨_, rfl⟩
  rw [← hnl] at hn ⊢
  rw [← hpm] at hn2 ⊢
  have HN := Lib.hid (show _ ∧ _ from ⟨hnl, hpm⟩)
  have HL := Lib.hid hl
  have HM := Lib.hid hm
  obtain ⟨R, hR⟩ : ∃ R, R = lessL l m := ⟨_, rfl⟩
  have HR := Lib.hid hR
  rw [← hR]
  clear hl hm hnl hpm hR
  go_enter Tryz.func105, Tryz.ntmps105
  go_wp2
  go_loopw [5] (fun i wr => ∃ k : Nat, k ≤ n ∧ k ≤ p ∧ i = .int .i64 k ∧ l.take k = m.take k ∧ ∃ j, wr = w.drewN j) (fun i _ => n - (intOf i).toNat)
  case atStart => exact ⟨0, Nat.zero_le _, Nat.zero_le _, rfl, rfl, 0, rfl⟩
  case round =>
    obtain ⟨k, hk, hk2, rfl, he, j, rfl⟩ := hrel
    by_cases hlt : k < n
    · by_cases hlt2 : k < p
      · have hl' : ∃ b off, ao = some ⟨b, off, none⟩ ∧ ∀ i, i < l.length → w.cell? ⟨b, off + i, none⟩ = some (.int .i64 (l.getD i 0)) := by
          rcases HL.out with h | h
          · have := HN.out.1; rw [h] at this; simp at this; omega
          · exact h
        have hm' : ∃ b off, bo = some ⟨b, off, none⟩ ∧ ∀ i, i < m.length → w.cell? ⟨b, off + i, none⟩ = some (.int .i64 (m.getD i 0)) := by
          rcases HM.out with h | h
          · have := HN.out.2; rw [h] at this; simp at this; omega
          · exact h
        obtain ⟨b, off, rfl, hc⟩ := hl'
        obtain ⟨b', off', rfl, hc'⟩ := hm'
        have c1 := hc k (by have := HN.out; omega)
        have c2 := hc' k (by have := HN.out; omega)
        obtain ⟨x, hx⟩ : ∃ x, x = l.getD k 0 := ⟨_, rfl⟩
        obtain ⟨y, hy⟩ : ∃ y, y = m.getD k 0 := ⟨_, rfl⟩
        rw [← hx] at c1
        rw [← hy] at c2
        have HX : Hid (x = l.getD k 0 ∧ y = m.getD k 0) := ⟨hx, hy⟩
        have HE := Lib.hid he
        clear hc hc' hx hy he HL HM
        by_cases hxy : x = y
        · subst hxy
          have hb : (x != x) = false := by simp
          go_wp2
          go_region
          go_wp2
          go_roundw
          case rel => exact ⟨k + 1, by omega, by omega, by go_num, take_step l m k (by have := HN.out; omega) (by have := HN.out; omega) HE.out (by rw [← HX.out.1, ← HX.out.2]), j + 1, rfl⟩
          case measure => simp [intOf]; omega
        · have hb : (x != y) = true := by simpa using hxy
          have hf : R = decide (x < y) := by
            have h := HX.out
            rw [HR.out, h.1, h.2]
            exact less_at HE.out (by have := HN.out; omega) (by have := HN.out; omega) (by rw [← h.1, ← h.2]; exact hxy)
          have HF := Lib.hid hf
          clear hf hxy
          go_wp2
          go_region
          go_wp2
          go_region
          go_wp2
          go_ret
          exact ⟨by rw [HF.out]; rfl, below_drewN (Below.refl _ _) (j + 1 + 1)⟩
      · have hf : R = decide (n < p) := by
          have h := HN.out
          rw [HR.out, h.1, h.2]
          exact less_end he (by omega) (by omega) (.inr (by omega))
        have HF := Lib.hid hf
        clear hf he
        go_wp2
        go_ret
        exact ⟨by rw [HF.out]; simp, below_drewN (Below.refl _ _) j⟩
    · have hf : R = decide (n < p) := by
        have h := HN.out
        rw [HR.out, h.1, h.2]
        exact less_end he (by omega) (by omega) (.inl (by omega))
      have HF := Lib.hid hf
      clear hf he
      go_wp2
      go_ret
      exact ⟨by rw [HF.out]; simp, below_drewN (Below.refl _ _) j⟩

theorem l8Equal_any (v v2 : Value) (l m : List Int) (w : World) (h : Reads w v l) (h2 : Reads w v2 m) (hn : l.length ≤ 17592186044416) (hn2 : m.length ≤ 17592186044416) :
    Calls Tryz.prog 70 #[v, v2] w fun e w' => e = .returned (.bool (decide (l = m))) ∧ Below w.heap.size w w' := by
  obtain ⟨R, hR⟩ : ∃ R, R = decide (l = m) := ⟨_, rfl⟩
  have HR := Lib.hid hR
  have H1 := Lib.hid h
  have H2 := Lib.hid h2
  rw [← hR]
  clear hR h h2
  go_enter Tryz.func70, Tryz.ntmps70
  go_wp2_with fail
  refine (l8Less_any v v2 l m _ H1.out H2.out hn hn2).mono ?_
  rintro e w1 ⟨rfl, hb⟩
  have HB := Lib.hid hb
  clear hb
  cases h1 : lessL l m with
  | true =>
    have HF : Hid (R = false) := by rw [Hid, HR.out]; exact decide_eq_false fun e => by rw [e, less_irr] at h1; cases h1
    clear h1
    go_wp2
    go_ret
    exact ⟨by rw [HF.out]; rfl, HB.out⟩
  | false =>
    go_wp2_with fail
    refine (l8Less_any v2 v m l _ (H2.out.below HB.out (Nat.le_refl _)) (H1.out.below HB.out (Nat.le_refl _)) hn2 hn).mono ?_
    rintro e w2 ⟨rfl, hb⟩
    have HB2 := Lib.hid (HB.out.trans (hb.mono HB.out.size))
    clear hb
    have HF : Hid (R = !lessL m l) := by
      rw [Hid, HR.out]
      cases h2 : lessL m l with
      | true => exact decide_eq_false fun e => by rw [e, less_irr] at h2; cases h2
      | false => exact decide_eq_true (less_tri h1 h2)
    clear h1
    go_wp2
    go_ret
    exact ⟨by rw [HF.out]; cases lessL m l <;> rfl, HB2.out⟩
end Go.Proofs.YtpcnoiigbmiejaaGreatDoor.less

/- The reference's numbers by order: l8Numbers. -/
namespace Go.Proofs.YtpcnoiigbmiejaaGreatDoor.numb
set_option linter.unusedVariables false
set_option linter.unusedSimpArgs false
open Go.ChangeShapes Go.WideShapes Go.ChangeAt Go.RowKit
open Go.Proofs.YtpcnoiigbmiejaaGreatDoor.lib Go.Proofs.YtpcnoiigbmiejaaGreatDoor.sll Go.Proofs.YtpcnoiigbmiejaaGreatDoor.colp Go.Proofs.YtpcnoiigbmiejaaGreatDoor.less Go.Proofs.YtpcnoiigbmiejaaGreatDoor.flow

def numsTo (L : List (List Int)) (k : Nat) : List Int := ((L.take k).map fun d => ((num L d : Nat) : Int)) ++ List.replicate (L.length - k) 0
theorem numsTo_zero (L : List (List Int)) : numsTo L 0 = List.replicate L.length 0 := by simp [numsTo]
theorem numsTo_len (L : List (List Int)) {k : Nat} (hk : k ≤ L.length) : (numsTo L k).length = L.length := by simp [numsTo]; omega
theorem numsTo_set {L : List (List Int)} {k : Nat} (hk : k < L.length) : (numsTo L k).set k ((num L (L.getD k []) : Nat) : Int) = numsTo L (k + 1) := by
  have hl : ((L.take k).map fun d => ((num L d : Nat) : Int)).length = k := by simp; omega
  unfold numsTo
  rw [List.set_append_right (h := by omega), hl, Nat.sub_self, show L.length - k = (L.length - (k + 1)) + 1 by omega, List.replicate_succ, List.set_cons_zero, List.take_succ_eq_append_getElem hk, List.map_append, List.append_assoc]
  simp [List.getD_eq_getElem?_getD, List.getElem?_eq_getElem hk]
theorem numsTo_full (L : List (List Int)) : numsTo L L.length = L.map fun d => ((num L d : Nat) : Int) := by simp [numsTo]
/-- d's list of those before it, of the first k -/
def seenTo (L : List (List Int)) (d : List Int) (k : Nat) : List (List Int) := seenL d (L.take k)
theorem seenTo_zero (L : List (List Int)) (d : List Int) : seenTo L d 0 = [] := by simp [seenTo, seenL]
theorem seenTo_succ {L : List (List Int)} {d : List Int} {k : Nat} (hk : k < L.length) : seenTo L d (k + 1) = seeOne d (seenTo L d k) (L.getD k []) := by
  unfold seenTo
  rw [List.take_succ_eq_append_getElem hk, seen_snoc, List.getD_eq_getElem?_getD, List.getElem?_eq_getElem hk]; rfl
theorem seenTo_full (L : List (List Int)) (d : List Int) : (seenTo L d L.length).length = num L d := by rw [seenTo, List.take_length]; rfl
theorem seenTo_len (L : List (List Int)) (d : List Int) (k : Nat) : (seenTo L d k).length ≤ k := by
  have := len_le_of_subset (seen_nodup d (L.take k)) (B := L.take k) (fun x hx => (mem_seen.1 hx).1)
  unfold seenTo
  rw [List.length_take] at this
  omega
theorem seenTo_mem {L : List (List Int)} {d x : List Int} {k : Nat} (h : x ∈ seenTo L d k) : x ∈ L := List.mem_of_mem_take (mem_seen.1 h).1
/-- whether x is new, against the first j of s -/
def fresh (d x : List Int) (s : List (List Int)) (j : Nat) : Bool := lessL x d && (s.take j).all (fun y => !decide (y = x))
theorem fresh_zero (d x : List Int) (s : List (List Int)) : fresh d x s 0 = lessL x d := by simp [fresh]
theorem fresh_succ {d x : List Int} {s : List (List Int)} {j : Nat} (hj : j < s.length) : fresh d x s (j + 1) = (fresh d x s j && !decide (s.getD j [] = x)) := by
  unfold fresh
  rw [List.take_succ_eq_append_getElem hj, List.all_append, List.getD_eq_getElem?_getD, List.getElem?_eq_getElem hj, Bool.and_assoc]
  simp
theorem fresh_full (d x : List Int) (s : List (List Int)) : seeOne d s x = if fresh d x s s.length then s ++ [x] else s := by
  unfold fresh seeOne
  rw [List.take_length]

/-- the lists are short and not empty -/
def Short (L : List (List Int)) : Prop := L.length ≤ 100 ∧ ∀ l, l ∈ L → l ≠ [] ∧ l.length ≤ 1000
theorem Short.get {L : List (List Int)} (h : Short L) {i : Nat} (hi : i < L.length) : L.getD i [] ≠ [] ∧ (L.getD i []).length ≤ 1000 := by
  rw [List.getD_eq_getElem?_getD, List.getElem?_eq_getElem hi]; exact h.2 _ (List.getElem_mem hi)
theorem reads_own {w : World} {u : Value} {l : List Int} (h : Reads w u l) (hl : l ≠ []) : ∃ b, u.ownBlock = some b ∧ b < w.heap.size := by
  obtain ⟨ao, cap, hv, h', _⟩ := h
  rcases h' with h' | ⟨b, off, ha, hc⟩
  · exact absurd h' hl
  · have h0 : 0 < l.length := by cases l with
      | nil => exact absurd rfl hl
      | cons a t => simp
    exact ⟨b, by rw [hv, ha]; rfl, World.block_lt_of_cell? w _ (hc 0 h0)⟩

set_option maxHeartbeats 6400000 in
set_option maxRecDepth 100000 in
theorem l8Numbers_any (v : Value) (L : List (List Int)) (w : World) (h : RowsR w v L) (hS : Short L) :
    Calls Tryz.prog 139 #[v] w fun e w' => ∃ v0, e = .returned v0 ∧ OwnI 3 w' w.heap.size v0 (L.map fun d => ((num L d : Nat) : Int)) ∧ Below w.heap.size w w' := by
  obtain ⟨ao, cap, rfl⟩ := h.len
  obtain ⟨n, hn⟩ : ∃ n, n = L.length := ⟨_, rfl⟩
  rw [← hn] at h ⊢
  have hn100 : n ≤ 100 := by rw [hn]; exact hS.1
  have H := Lib.hid h
  have HN := Lib.hid hn
  have HS := Lib.hid hS
  obtain ⟨i0, hi, hz0, hz1, hz2⟩ := info_parts sll.infoInt
  clear h hn hS
  go_enter Tryz.func139, Tryz.ntmps139
  go_wp2_with (at_make; refine wpList_make_full _ rfl _ _ 29 rfl w.heap.size 3 i0 (.int .i64 0) 1 Tryz.underlying29 hi hz0 hz1 _ _ _ _ n rfl rfl (by omega) (by omega) ?b2 ?b3 (by simp) ?_)
  case b2 => rw [hz2]; omega
  case b3 => unfold maxLen; omega
  intro w1 hown0 hgrow0
  have HST : Hid (OwnI 3 w1 w.heap.size (.slice (some ⟨w.heap.size, 0, none⟩) n n) (numsTo L 0) ∧ Below w.heap.size w w1) := by
    have h1 := OwnI.made hown0
    rw [HN.out] at h1
    refine ⟨?_, below_of_grown hgrow0 (Nat.le_refl _) (fun k h => by cases h)⟩
    rw [numsTo_zero, HN.out]
    simpa using h1
  obtain ⟨go, hgo⟩ : ∃ go, go = w.heap.size := ⟨_, rfl⟩
  have HGO := Lib.hid hgo
  have hgo1 : Hid (go < w1.heap.size) := by
    have := HST.out.1.ge; rw [Hid, hgo]; exact this.2
  rw [← hgo] at HST ⊢
  clear hown0 hgrow0 hgo hz0 hz1 hz2 hi
  go_wp2_with fail
  go_loopw [4] (fun i wr => ∃ x : Nat, x ≤ n ∧ i = .int .i64 x ∧ OwnI 3 wr go (.slice (some ⟨go, 0, none⟩) n n) (numsTo L x) ∧ Below go w wr) (fun i _ => n - (intOf i).toNat)
  case atStart => exact ⟨0, Nat.zero_le _, rfl, HST.out⟩
  case round =>
    clear HST hgo1
    obtain ⟨x, hx, rfl, hown, hbl⟩ := hrel
    have HO := Lib.hid (show _ ∧ _ from ⟨hown, hbl⟩)
    have hgoz : go < wr.heap.size := hown.ge.2
    clear hown hbl
    by_cases hxn : x < n
    · obtain ⟨b, off, rfl, hc0⟩ := H.out.spot HN.out (by omega)
      have HC0 := Lib.hid hc0
      clear hc0
      obtain ⟨d, hd⟩ : ∃ d, d = L.getD x [] := ⟨_, rfl⟩
      have HD := Lib.hid hd
      have A0 : Hid (Below wr.heap.size wr (wr.alloc (.cells #[] 29))) := (Below.refl _ _).alloc (Nat.le_refl _) _
      have ST2 : Hid (OwnL (wr.alloc (.cells #[] 29)) wr.heap.size (.slice (some ⟨wr.heap.size, 0, none⟩) 0 0) (seenTo L d 0) ∧ OwnI 3 (wr.alloc (.cells #[] 29)) go (.slice (some ⟨go, 0, none⟩) n n) (numsTo L x) ∧ Below go w (wr.alloc (.cells #[] 29))) := by
        refine ⟨?_, HO.out.1.below A0.out (Nat.le_refl _), HO.out.2.trans (A0.out.mono (by omega))⟩
        rw [seenTo_zero]; exact OwnL.empty _ _ _ rfl (Nat.le_refl _)
      obtain ⟨B2, hB2⟩ : ∃ B2, B2 = wr.heap.size := ⟨_, rfl⟩
      have hgoB : go < B2 := by omega
      have HB2 := Lib.hid hB2
      rw [← hB2] at ST2
      clear hd hB2
      go_wp2_with fail
      rw [← HB2.out]
      go_loopw [5, 6] (fun v i wx => ∃ (k g cp : Nat), k ≤ n ∧ i = .int .i64 k ∧ v = .slice (some ⟨g, 0, none⟩) (seenTo L d k).length cp ∧ OwnL wx B2 v (seenTo L d k) ∧ OwnI 3 wx go (.slice (some ⟨go, 0, none⟩) n n) (numsTo L x) ∧ Below go w wx) (fun _ i _ => n - (intOf i).toNat)
      case atStart => exact ⟨0, B2, 0, Nat.zero_le _, rfl, by rw [seenTo_zero]; rfl, ST2.out⟩
      case round =>
        clear ST2 A0 HO
        obtain ⟨k, g, cp, hk, rfl, rfl, q1, q2, q3⟩ := hrel
        obtain ⟨s, hs⟩ : ∃ s, s = seenTo L d k := ⟨_, rfl⟩
        rw [← hs] at q1 ⊢
        have hsl : s.length ≤ k := by rw [hs]; exact seenTo_len L d k
        obtain ⟨m, hm⟩ : ∃ m, m = s.length := ⟨_, rfl⟩
        rw [← hm] at q1 hsl ⊢
        have HQ := Lib.hid (show _ ∧ _ ∧ _ from ⟨q1, q2, q3⟩)
        have HSS := Lib.hid (show _ ∧ _ from ⟨hs, hm⟩)
        clear q1 q2 q3 hs hm
        have hB2w : B2 ≤ wr.heap.size := by
          rcases HQ.out.1.len with ⟨h, _⟩ | ⟨_, _, _, h1, h2⟩
          · cases h
          · omega
        by_cases hkn : k < n
        · have HBW : Hid (Below w.heap.size w wr) := by have h := HQ.out.2.2; rw [HGO.out] at h; exact h
          obtain ⟨uk, hck0, hrk0⟩ := HC0.out k hkn
          obtain ⟨ux, hcx0, hrx0⟩ := HC0.out x hxn
          obtain ⟨y, hy⟩ : ∃ y, y = L.getD k [] := ⟨_, rfl⟩
          rw [← hy] at hrk0
          rw [← HD.out] at hrx0
          have HY := Lib.hid hy
          have hsy := HS.out.get (i := k) (by have := HN.out; omega)
          have hsd := HS.out.get (i := x) (by have := HN.out; omega)
          rw [← hy] at hsy
          rw [← HD.out] at hsd
          obtain ⟨bu, hbu, hbuw⟩ := reads_own hrk0 hsy.1
          have HU : Hid (uk.ownBlock = some bu ∧ bu < B2) := ⟨hbu, by have := HGO.out; omega⟩
          have HR := Lib.hid (show _ ∧ _ ∧ _ ∧ _ from ⟨hrk0, hrx0, hsy, hsd⟩)
          have hbw : b < w.heap.size := World.block_lt_of_cell? w _ hck0
          have HCK := Lib.hid (show _ ∧ _ from ⟨hck0, hcx0⟩)
          clear hy hck0 hcx0 hrk0 hrx0 hbu hbuw hsy hsd
          have hck : wr.cell? ⟨b, off + k, none⟩ = some uk := by rw [HBW.out.cell hbw]; exact HCK.out.1
          have hcx : wr.cell? ⟨b, off + x, none⟩ = some ux := by rw [HBW.out.cell hbw]; exact HCK.out.2
          have q0 : ∀ X : Wd (fun W => Hid (Below wr.heap.size wr W)), X.w.cell? ⟨b, off + k, none⟩ = some uk := fun X => by rw [X.ok.out.cell (World.block_lt_of_cell? wr _ hck)]; exact hck
          have q1 : ∀ X : Wd (fun W => Hid (Below wr.heap.size wr W)), X.w.cell? ⟨b, off + x, none⟩ = some ux := fun X => by rw [X.ok.out.cell (World.block_lt_of_cell? wr _ hcx)]; exact hcx
          have hne : Nonempty (Wd (fun W => Hid (Below wr.heap.size wr W))) := ⟨⟨wr, Lib.hid (Below.refl _ _)⟩⟩
          have CL : Hid (∀ X : Wd (fun W => Hid (Below wr.heap.size wr W)), Calls Tryz.prog 105 #[uk, ux] X.w fun e w' => e = .returned (.bool (lessL y d)) ∧ Below X.w.heap.size X.w w') := fun X =>
            l8Less_any uk ux y d _ (HR.out.1.below (HBW.out.trans (X.ok.out.mono HBW.out.size)) (Nat.le_refl _)) (HR.out.2.1.below (HBW.out.trans (X.ok.out.mono HBW.out.size)) (Nat.le_refl _)) (by have := HR.out.2.2.1.2; omega) (by have := HR.out.2.2.2.2; omega)
          clear hck hcx
          go_wp2_with fail
          refine flow_last (S := (fun W => Hid (Below wr.heap.size wr W))) (by kernel_rfl) (by kernel_rfl) (by kernel_rfl) (by kernel_rfl) (by kernel_rfl) (Lib.hid (Below.refl _ _).drew) ?_
          simp only [List.dropLast_cons_cons, List.dropLast_singleton, List.getLast?_cons_cons, List.getLast?_singleton, Option.toList_some]
          repeat (go_big_quiet_step (first | ((with_reducible refine (CL.out _).mono ?_); rintro e W ⟨rfl, hb⟩; exact ⟨rfl, Wd.on (Wd.ok _) hb⟩)))
          refine wpQuiet_nil ?_
          rintro _ ⟨X, rfl⟩
          have HQX := Lib.hid (show _ ∧ _ ∧ _ from ⟨HQ.out.1.below X.ok.out (Nat.le_refl _), HQ.out.2.1.below X.ok.out (Nat.le_refl _), HQ.out.2.2.trans (X.ok.out.mono (by omega))⟩)
          clear q0 q1 hne CL HQ HBW
          go_wp2_with fail
          go_loopw [7, 8] (fun fr i wr => ∃ j : Nat, j ≤ m ∧ i = .int .i64 j ∧ fr = .bool (fresh d y s j) ∧ OwnL wr B2 (.slice (some ⟨g, 0, none⟩) m cp) s ∧ OwnI 3 wr go (.slice (some ⟨go, 0, none⟩) n n) (numsTo L x) ∧ Below go w wr) (fun _ i _ => m - (intOf i).toNat)
          case atStart => exact ⟨0, Nat.zero_le _, rfl, by rw [fresh_zero], HQX.out⟩
          case round =>
            clear HQX
            obtain ⟨j, hj, rfl, rfl, q1, q2, q3⟩ := hrel
            have HQ := Lib.hid (show _ ∧ _ ∧ _ from ⟨q1, q2, q3⟩)
            clear q1 q2 q3
            have hB2w : B2 ≤ wr.heap.size := by
              rcases HQ.out.1.len with ⟨h, _⟩ | ⟨_, _, _, h1, h2⟩
              · cases h
              · omega
            have HBW : Hid (Below w.heap.size w wr) := by have h := HQ.out.2.2; rw [HGO.out] at h; exact h
            by_cases hjm : j < m
            · have hjs : j < s.length := by rw [← HSS.out.2]; exact hjm
              have hmem : s.getD j [] ∈ L := by
                rw [List.getD_eq_getElem?_getD, List.getElem?_eq_getElem hjs]
                exact seenTo_mem (k := k) (d := d) (by rw [← HSS.out.1]; exact List.getElem_mem hjs)
              have hsz := HS.out.2 _ hmem
              obtain ⟨z, hz⟩ : ∃ z, z = s.getD j [] := ⟨_, rfl⟩
              rw [← hz] at hsz
              have HFR := Lib.hid (fresh_succ (d := d) (x := y) hjs)
              rw [← hz] at HFR
              obtain ⟨b', off', he, hc⟩ := HQ.out.1.rows.spot HSS.out.2 (by omega)
              simp only [Option.some.injEq, Addr.mk.injEq] at he
              obtain ⟨rfl, rfl, -⟩ := he
              obtain ⟨uj, hcj, hrj⟩ := hc j hjm
              rw [← hz] at hrj
              have hck : wr.cell? ⟨b, off + k, none⟩ = some uk := by rw [HBW.out.cell hbw]; exact HCK.out.1
              have hrk := HR.out.1.below HBW.out (Nat.le_refl _)
              have HRJ := Lib.hid (show _ ∧ _ ∧ _ from ⟨hrj, hrk, hsz⟩)
              rw [Nat.zero_add] at hcj
              clear hmem hjs hz hrj hrk hsz hc
              cases hfr : fresh d y s j with
              | true =>
                have q0 : ∀ X : Wd (fun W => Hid (Below wr.heap.size wr W)), X.w.cell? ⟨b, off + k, none⟩ = some uk := fun X => by rw [X.ok.out.cell (World.block_lt_of_cell? wr _ hck)]; exact hck
                have q1 : ∀ X : Wd (fun W => Hid (Below wr.heap.size wr W)), X.w.cell? ⟨g, j, none⟩ = some uj := fun X => by rw [X.ok.out.cell (World.block_lt_of_cell? wr _ hcj)]; exact hcj
                have hne : Nonempty (Wd (fun W => Hid (Below wr.heap.size wr W))) := ⟨⟨wr, Lib.hid (Below.refl _ _)⟩⟩
                have CL : Hid (∀ X : Wd (fun W => Hid (Below wr.heap.size wr W)), Calls Tryz.prog 70 #[uj, uk] X.w fun e w' => e = .returned (.bool (decide (z = y))) ∧ Below X.w.heap.size X.w w') := fun X =>
                  l8Equal_any uj uk z y _ (HRJ.out.1.below X.ok.out (Nat.le_refl _)) (HRJ.out.2.1.below X.ok.out (Nat.le_refl _)) (by have := HRJ.out.2.2.2; omega) (by have := HR.out.2.2.1.2; omega)
                obtain ⟨bz, hbz⟩ : ∃ bz, bz = decide (z = y) := ⟨_, rfl⟩
                rw [← hbz] at CL
                have HF2 : Hid (fresh d y s (j + 1) = !bz) := by rw [Hid, HFR.out, hfr, Bool.true_and, hbz]
                clear hck hcj hbz hfr
                go_wp2_with fail
                refine flow_last (S := (fun W => Hid (Below wr.heap.size wr W))) (by kernel_rfl) (by kernel_rfl) (by kernel_rfl) (by kernel_rfl) (by kernel_rfl) (Lib.hid (Below.refl _ _).drew) ?_
                simp only [List.dropLast_cons_cons, List.dropLast_singleton, List.getLast?_cons_cons, List.getLast?_singleton, Option.toList_some]
                repeat (go_big_quiet_step (first | ((with_reducible refine (CL.out _).mono ?_); rintro e W ⟨rfl, hb⟩; exact ⟨rfl, Wd.on (Wd.ok _) hb⟩)))
                refine wpQuiet_nil ?_
                rintro _ ⟨X, rfl⟩
                have HQX := Lib.hid (show _ ∧ _ ∧ _ from ⟨HQ.out.1.below X.ok.out (Nat.le_refl _), HQ.out.2.1.below X.ok.out (Nat.le_refl _), HQ.out.2.2.trans (X.ok.out.mono (by omega))⟩)
                clear q0 q1 hne CL
                go_wp2
                go_roundw
                case rel => exact ⟨j + 1, by omega, by go_num, by rw [HF2.out], HQX.out⟩
                case measure => simp [intOf]; omega
              | false =>
                have HF2 : Hid (fresh d y s (j + 1) = false) := by rw [Hid, HFR.out, hfr, Bool.false_and]
                have hne : Nonempty (Wd (fun W => Hid (Below wr.heap.size wr W))) := ⟨⟨wr, Lib.hid (Below.refl _ _)⟩⟩
                clear hck hcj hfr
                go_wp2_with fail
                refine flow_last (S := (fun W => Hid (Below wr.heap.size wr W))) (by kernel_rfl) (by kernel_rfl) (by kernel_rfl) (by kernel_rfl) (by kernel_rfl) (Lib.hid (Below.refl _ _).drew) ?_
                simp only [List.dropLast_cons_cons, List.dropLast_singleton, List.getLast?_cons_cons, List.getLast?_singleton, Option.toList_some]
                repeat (go_big_quiet_step (fail))
                refine wpQuiet_nil ?_
                rintro _ ⟨X, rfl⟩
                have HQX := Lib.hid (show _ ∧ _ ∧ _ from ⟨HQ.out.1.below X.ok.out (Nat.le_refl _), HQ.out.2.1.below X.ok.out (Nat.le_refl _), HQ.out.2.2.trans (X.ok.out.mono (by omega))⟩)
                clear hne
                go_wp2
                go_roundw
                case rel => exact ⟨j + 1, by omega, by go_num, by rw [HF2.out], HQX.out⟩
                case measure => simp [intOf]; omega
            · obtain rfl : m = j := by omega
              have hfull := fresh_full d y s
              rw [← HSS.out.2] at hfull
              have hnext : seenTo L d (k + 1) = seeOne d s y := by rw [HY.out, HSS.out.1]; exact seenTo_succ (by have := HN.out; omega)
              have HNX := Lib.hid (hnext.trans hfull)
              have HK1 : Hid (k + 1 ≤ n) := hkn
              clear hfull hnext
              cases hfr : fresh d y s m with
              | true =>
                rw [hfr, if_pos rfl] at HNX
                have hck : wr.cell? ⟨b, off + k, none⟩ = some uk := by rw [HBW.out.cell hbw]; exact HCK.out.1
                obtain ⟨us, hul, hrow, hus⟩ := HQ.out.1.row
                have hum : us.length = m := by rw [hul]; exact HSS.out.2.symm
                rw [hum] at hrow
                have HUS := Lib.hid (show _ ∧ _ ∧ _ ∧ _ from ⟨hul, hus, hum, hrow⟩)
                obtain ⟨ua, uc, rfl⟩ := HR.out.1.len
                clear hul hus hum hrow hfr
                go_wp2_with (at_builtin; refine wpList_app1 wr rfl (.tmp 54) (.tmp 59) 100 rfl B2 29 (.slice none 0 0) 24 Tryz.underlying100 infoSl rfl (by decide) _ _ _ (.slice ua y.length uc) rfl HUS.out.2.2.2 wr.heap.size rfl rfl rfl (by omega) hB2w ?_)
                intro g' cap' w9 hown9 hgr
                have HB9 : Hid (Below B2 wr w9) := hgr.below HUS.out.2.2.2 hB2w
                have R1 : Hid (OwnL w9 B2 (.slice (some ⟨g', 0, none⟩) (m + 1) cap') (seenTo L d (k + 1))) := by
                  obtain ⟨h1, h2, h3, h4⟩ := HUS.out
                  subst h3
                  rw [HNX.out]
                  exact own_push h1 h2 (HR.out.1.below HBW.out (Nat.le_refl _)) HR.out.2.2.1.1 (fun q hq e => by
                    have h5 := HU.out
                    rw [h5.1] at e
                    simp [Value.ownBlock] at hq
                    have h6 := h4.lt g rfl
                    simp only [Option.some.injEq] at e
                    omega) hown9 hgr
                have R2 : Hid (OwnI 3 w9 go (.slice (some ⟨go, 0, none⟩) n n) (numsTo L x) ∧ Below go w w9) := by
                  refine ⟨World.ownsRow.kept HQ.out.2.1 hgr.grown (.inr ?_), HQ.out.2.2.trans (HB9.out.mono (by omega))⟩
                  have h3 := HUS.out.2.2.2.lt g rfl
                  simp [Value.ownBlock]; omega
                have HLN : Hid ((seenTo L d (k + 1)).length = m + 1) := by rw [Hid, HNX.out, List.length_append, ← HSS.out.2]; rfl
                clear hown9 hgr hck
                go_wp2
                go_roundw
                case rel => exact ⟨k + 1, g', cap', HK1.out, by go_num, by rw [HLN.out], R1.out, R2.out⟩
                case measure => simp [intOf]; omega
              | false =>
                rw [hfr, if_neg (by simp)] at HNX
                have HLN : Hid ((seenTo L d (k + 1)).length = m) := by rw [Hid, HNX.out]; exact HSS.out.2.symm
                have R1 : Hid (OwnL wr B2 (.slice (some ⟨g, 0, none⟩) m cp) (seenTo L d (k + 1))) := by rw [HNX.out]; exact HQ.out.1
                clear hfr
                go_wp2
                go_roundw
                case rel => exact ⟨k + 1, g, cp, HK1.out, by go_num, by rw [HLN.out], R1.out, HQ.out.2⟩
                case measure => simp [intOf]; omega
        · obtain rfl : n = k := by omega
          have hml : m = num L d := by
            have h := HSS.out
            rw [h.2, h.1, HN.out]
            exact seenTo_full L d
          have hfz : wr.frozen? ⟨go, x, none⟩ = false := HQ.out.2.1.free x
          have hce := HQ.out.2.1.cell x (by rw [numsTo_len L (by have := HN.out; omega)]; have := HN.out; omega)
          have R : Hid (OwnI 3 (wr.setCell ⟨go, x, none⟩ (.int .i64 m)) go (.slice (some ⟨go, 0, none⟩) n n) (numsTo L (x + 1)) ∧ Below go w (wr.setCell ⟨go, x, none⟩ (.int .i64 m))) := by
            refine ⟨?_, HQ.out.2.2.setCell (Nat.le_refl _) _⟩
            rw [← numsTo_set (by have := HN.out; omega), ← HD.out, ← hml]
            exact HQ.out.2.1.set x m
          clear hml
          go_wp2
          go_roundw
          case rel => exact ⟨x + 1, by omega, by go_num, R.out⟩
          case measure => simp [intOf]; omega
    · obtain rfl : n = x := by omega
      have HF : Hid (numsTo L n = L.map fun d => ((num L d : Nat) : Int)) := by rw [Hid, HN.out]; exact numsTo_full L
      go_wp2
      go_ret
      exact ⟨_, rfl, by rw [← HF.out, ← HGO.out]; exact HO.out.1, by rw [← HGO.out]; exact HO.out.2⟩
end Go.Proofs.YtpcnoiigbmiejaaGreatDoor.numb

/- l8Refine of the reference: a round more of two structures. -/
namespace Go.Proofs.YtpcnoiigbmiejaaGreatDoor.refine
set_option linter.unusedVariables false
set_option linter.unusedSimpArgs false
open Go.ChangeShapes Go.WideShapes Go.ChangeAt Go.RowKit
open Go.Proofs.YtpcnoiigbmiejaaGreatDoor.lib Go.Proofs.YtpcnoiigbmiejaaGreatDoor.st Go.Proofs.YtpcnoiigbmiejaaGreatDoor.base Go.Proofs.YtpcnoiigbmiejaaGreatDoor.col Go.Proofs.YtpcnoiigbmiejaaGreatDoor.colp Go.Proofs.YtpcnoiigbmiejaaGreatDoor.sll Go.Proofs.YtpcnoiigbmiejaaGreatDoor.kind Go.Proofs.YtpcnoiigbmiejaaGreatDoor.srt Go.Proofs.YtpcnoiigbmiejaaGreatDoor.descr Go.Proofs.YtpcnoiigbmiejaaGreatDoor.numb

/-- an element's description: the first one, or by colours -/
def dsc (a : St) (first : Bool) (c : List Int) (x : Nat) : List Int := if first then d0 a x else desc a c x
theorem dsc_ne (a : St) (f : Bool) (c : List Int) (x : Nat) : dsc a f c x ≠ [] := by
  unfold dsc
  cases f
  · rw [if_neg (by simp)]; unfold desc descTo; simp
  · rw [if_pos rfl]; unfold d0; simp
theorem dsc_len (a : St) (f : Bool) (c : List Int) (x : Nat) (h : a.n ≤ 8) : (dsc a f c x).length ≤ 1000 := by
  unfold dsc
  cases f
  · rw [if_neg (by simp)]
    have := descTo_len a c x 4
    unfold desc; omega
  · rw [if_pos rfl]; unfold d0; simp
/-- the rows of the first k elements -/
def drow (a : St) (f : Bool) (c : List Int) (k : Nat) : List (List Int) := (List.range k).map (dsc a f c)
theorem drow_len (a : St) (f : Bool) (c : List Int) (k : Nat) : (drow a f c k).length = k := by simp [drow]
theorem drow_succ (a : St) (f : Bool) (c : List Int) (k : Nat) : drow a f c (k + 1) = drow a f c k ++ [dsc a f c k] := by simp [drow, List.range_succ]
theorem drow_short (a b : St) (f : Bool) (c d : List Int) (ha : a.n ≤ 8) (hb : b.n ≤ 8) : Short (drow a f c a.n ++ drow b f d b.n) := by
  refine ⟨by rw [List.length_append, drow_len, drow_len]; omega, fun l hl => ?_⟩
  rcases List.mem_append.1 hl with h | h
  · obtain ⟨x, _, rfl⟩ := List.mem_map.1 h; exact ⟨dsc_ne _ _ _ _, dsc_len _ _ _ _ ha⟩
  · obtain ⟨x, _, rfl⟩ := List.mem_map.1 h; exact ⟨dsc_ne _ _ _ _, dsc_len _ _ _ _ hb⟩
theorem first_own {N : Nat} {s r : ByteArray} {x : Nat} {w : World} {f : Bool} {c : List Int} (hf : f = true) (hx : x < N) (hn : N ≤ 8) (hs : s.size = N) (hr : r.size = N * N) :
    Calls Tryz.prog 137 #[.agg #[.int .i64 N, .string s, .string r], .int .i64 x] w fun e w' => ∃ g cap, e = .returned (.slice (some ⟨g, 0, none⟩) (dsc ⟨N, s, r⟩ f c x).length cap) ∧ OwnI 3 w' w.heap.size (.slice (some ⟨g, 0, none⟩) (dsc ⟨N, s, r⟩ f c x).length cap) (dsc ⟨N, s, r⟩ f c x) ∧ Below w.heap.size w w' := by
  refine (l8First_any N s r x w hx hn hs hr).mono ?_
  rintro e w' ⟨v, rfl, ho, hb⟩
  have e0 : dsc ⟨N, s, r⟩ f c x = d0 ⟨N, s, r⟩ x := by unfold dsc; rw [hf]; rfl
  rw [e0]
  rcases ho.shape with ⟨_, h0⟩ | ⟨g, cap, rfl⟩
  · simp [d0] at h0
  · exact ⟨g, cap, rfl, ho, hb⟩
theorem desc_own {N : Nat} {s r : ByteArray} {v : Value} {x : Nat} {w : World} {f : Bool} {c : List Int} (hf : f = false) (hx : x < N) (hn : N ≤ 8) (hr : r.size = N * N) (hv : Reads w v c) (hc : c.length = N) :
    Calls Tryz.prog 138 #[.agg #[.int .i64 N, .string s, .string r], v, .int .i64 x] w fun e w' => ∃ g cap, e = .returned (.slice (some ⟨g, 0, none⟩) (dsc ⟨N, s, r⟩ f c x).length cap) ∧ OwnI 3 w' w.heap.size (.slice (some ⟨g, 0, none⟩) (dsc ⟨N, s, r⟩ f c x).length cap) (dsc ⟨N, s, r⟩ f c x) ∧ Below w.heap.size w w' := by
  refine (l8Describe_any N s r c v x w hx hn hr hv hc).mono ?_
  rintro e w' ⟨v0, rfl, ho, hb⟩
  have e0 : dsc ⟨N, s, r⟩ f c x = desc ⟨N, s, r⟩ c x := by unfold dsc; rw [hf]; rfl
  rw [e0]
  rcases ho.shape with ⟨_, h0⟩ | ⟨g, cap, rfl⟩
  · simp [desc, descTo] at h0
  · exact ⟨g, cap, rfl, ho, hb⟩

set_option maxHeartbeats 6400000 in
set_option maxRecDepth 100000 in
theorem l8Refine_any (N : Nat) (s r : ByteArray) (M : Nat) (t q : ByteArray) (ca cb : List Int) (va vb : Value) (w : World) (hN1 : 1 ≤ N) (hN : N ≤ 8) (hs : s.size = N) (hr : r.size = N * N) (hM1 : 1 ≤ M) (hM : M ≤ 8) (ht : t.size = M) (hq : q.size = M * M)
    (hva : Reads w va ca) (hvb : Reads w vb cb) (hc : ca = [] ∨ (ca.length = N ∧ cb.length = M)) :
    Calls Tryz.prog 104 #[.agg #[.int .i64 N, .string s, .string r], va, .agg #[.int .i64 M, .string t, .string q], vb] w fun e w' => ∃ v1 v2, e = .returned (.tuple #[v1, v2]) ∧
      Reads w' v1 ((nums (drow ⟨N, s, r⟩ ca.isEmpty ca N ++ drow ⟨M, t, q⟩ ca.isEmpty cb M)).take N) ∧ Reads w' v2 ((nums (drow ⟨N, s, r⟩ ca.isEmpty ca N ++ drow ⟨M, t, q⟩ ca.isEmpty cb M)).drop N) ∧ OwnI 3 w' w.heap.size v1 ((nums (drow ⟨N, s, r⟩ ca.isEmpty ca N ++ drow ⟨M, t, q⟩ ca.isEmpty cb M)).take N) ∧ Below w.heap.size w w' := by
  obtain ⟨ao, cap, rfl⟩ := hva.len
  obtain ⟨f, hf⟩ : ∃ f, f = ca.isEmpty := ⟨_, rfl⟩
  rw [← hf]
  obtain ⟨W0, hW0⟩ : ∃ W0, W0 = (w.alloc (.cells #[.int .i64 N, .string s, .string r] 24)).alloc (.cells #[.int .i64 M, .string t, .string q] 24) := ⟨_, rfl⟩
  have BA : Hid (Box 24 W0 w.heap.size N s r) := by rw [hW0]; exact (Box.new 24 w w.heap.size rfl N s r).below ((Below.refl (w.heap.size + 1) _).alloc (by simp) _) (by omega)
  have BB : Hid (Box 24 W0 (w.heap.size + 1) M t q) := by rw [hW0]; exact Box.new 24 _ (w.heap.size + 1) (by simp) M t q
  have AW : Hid (Below w.heap.size w W0) := by rw [hW0]; exact ((Below.refl _ _).alloc (Nat.le_refl _) _).alloc (by simp) _
  have Z0 : Hid (W0.heap.size = w.heap.size + 2) := by rw [Hid, hW0]; simp
  have A1 : Hid (Below W0.heap.size W0 (W0.alloc (.cells #[] 29))) := (Below.refl _ _).alloc (Nat.le_refl _) _
  have START : Hid (OwnL (W0.alloc (.cells #[] 29)) W0.heap.size (.slice (some ⟨W0.heap.size, 0, none⟩) 0 0) (drow ⟨N, s, r⟩ f ca 0) ∧ Below W0.heap.size W0 (W0.alloc (.cells #[] 29))) := ⟨OwnL.empty _ _ _ rfl (Nat.le_refl _), A1.out⟩
  obtain ⟨na, hna⟩ : ∃ na, na = ca.length := ⟨_, rfl⟩
  rw [← hna] at hva ⊢
  have tf : ((na : Int) == 0) = f := by
    rw [hf, hna]
    cases ca with
    | nil => rfl
    | cons a l => simp; omega
  have HW0 := Lib.hid hW0
  have HR := Lib.hid (show _ ∧ _ ∧ _ ∧ _ ∧ _ ∧ _ from ⟨hva, hvb, hs, hr, ht, hq⟩)
  have HC : Hid (f = false → ca.length = N ∧ cb.length = M) := fun h => by
    rcases hc with h1 | h1
    · rw [h1] at hf; rw [hf] at h; cases h
    · exact h1
  have HTF := Lib.hid tf
  obtain ⟨HB, hHB⟩ : ∃ HB, HB = w.heap.size + 1 + 1 := ⟨_, rfl⟩
  have hwB : w.heap.size + 1 < HB := by omega
  have HHB := Lib.hid hHB
  rw [show W0.heap.size = HB from by rw [hHB]; exact Z0.out] at START
  clear hva hvb hs hr ht hq hc hf hna hW0 A1 hHB tf
  cases f
  · have tf : ((na : Int) == 0) = false := HTF.out
    go_enter Tryz.func104, Tryz.ntmps104
    go_wp2_with fail
    rw [← HW0.out, ← HHB.out]
    go_loopw [10, 11] (fun u i wr => ∃ (x g cp : Nat), x ≤ N ∧ i = .int .i64 x ∧ u = .slice (some ⟨g, 0, none⟩) x cp ∧ OwnL wr HB u (drow ⟨N, s, r⟩ false ca x) ∧ Below HB W0 wr) (fun _ i _ => N - (intOf i).toNat)
    case atStart => exact ⟨0, HB, 0, Nat.zero_le _, rfl, rfl, START.out⟩
    case round =>
      clear START
      obtain ⟨x, g, cp, hx, rfl, rfl, q1, q2⟩ := hrel
      have HQ := Lib.hid (show _ ∧ _ from ⟨q1, q2⟩)
      clear q1 q2
      have hBw : HB ≤ wr.heap.size := by
        rcases HQ.out.1.len with ⟨h, _⟩ | ⟨_, _, _, h1, h2⟩
        · cases h
        · omega
      obtain ⟨a0, a1, a2⟩ := (BA.out.below HQ.out.2 (by omega)).c
      by_cases hxN : x < N
      · go_wp2_with fail
        refine (desc_own (f := false) (c := ca) rfl hxN hN HR.out.2.2.2.1 (HR.out.1.below (AW.out.trans (HQ.out.2.mono (by omega))) (Nat.le_refl _)) (HC.out (by simp)).1).mono ?_
        rintro e w2 ⟨g2, cap2, rfl, ho, hb⟩
        obtain ⟨d, hd⟩ : ∃ d, d = dsc ⟨N, s, r⟩ false ca x := ⟨_, rfl⟩
        rw [← hd] at ho ⊢
        have hdl : d.length ≤ 1000 := by rw [hd]; exact dsc_len _ _ _ _ (by assumption)
        have hdn : d ≠ [] := by rw [hd]; exact dsc_ne _ _ _ _
        have HN : Hid (drow ⟨N, s, r⟩ false ca (x + 1) = drow ⟨N, s, r⟩ false ca x ++ [d]) := by rw [Hid, hd]; exact drow_succ _ _ _ _
        obtain ⟨us, hul, hrow, hus⟩ := (HQ.out.1.below hb (Nat.le_refl _)).row
        have hum : us.length = x := by rw [hul]; exact drow_len _ _ _ _
        rw [hum] at hrow
        have HO := Lib.hid (show _ ∧ _ ∧ _ ∧ _ ∧ _ ∧ _ ∧ _ ∧ _ from ⟨ho, hul, hus, hum, hrow, hdn, HQ.out.2.trans (hb.mono hBw), hb.size⟩)
        have hgl : g < wr.heap.size := by
          rcases HQ.out.1.len with ⟨h, _⟩ | ⟨_, _, h0, h1, h2⟩
          · cases h
          · simp only [Value.slice.injEq, Option.some.injEq, Addr.mk.injEq] at h0; omega
        obtain ⟨dl, hdll⟩ : ∃ dl, dl = d.length := ⟨_, rfl⟩
        rw [← hdll] at HO ⊢
        have HDL := Lib.hid hdll
        clear ho hb hd hul hrow hus hum hdn hdll hdl a0 a1 a2
        go_wp2_with (at_builtin; refine wpList_app1 w2 rfl (.tmp 30) (.tmp 35) 100 rfl HB 29 (.slice none 0 0) 24 Tryz.underlying100 infoSl rfl (by decide) _ _ _ (.slice (some ⟨g2, 0, none⟩) dl cap2) rfl HO.out.2.2.2.2.1 w2.heap.size rfl rfl rfl (by have := HO.out.2.2.2.1; omega) (Nat.le_trans hBw HO.out.2.2.2.2.2.2.2) ?_)
        intro g' cap' w9 hown9 hgr
        have R : Hid (OwnL w9 HB (.slice (some ⟨g', 0, none⟩) (x + 1) cap') (drow ⟨N, s, r⟩ false ca (x + 1)) ∧ Below HB W0 w9) := by
          obtain ⟨h1, h2, h3, h4, h5, h6, h7, h8⟩ := HO.out
          have h9 := hgr.below h5 (Nat.le_trans hBw h8)
          refine ⟨?_, h7.trans h9⟩
          rw [HN.out]
          refine own_push' h4 h2 h3 h1.reads h6 (fun q hq e => ?_) hown9 hgr
          simp [Value.ownBlock] at hq e
          have := h1.ge
          omega
        clear hown9 hgr HO
        go_wp2
        go_roundw
        case rel => exact ⟨x + 1, g', cap', by omega, by go_num, by congr 1, R.out⟩
        case measure => simp [intOf]; omega
      · obtain rfl : N = x := by omega
        have ST2 : Hid (OwnL wr HB (.slice (some ⟨g, 0, none⟩) N cp) (drow ⟨N, s, r⟩ false ca N ++ drow ⟨M, t, q⟩ false cb 0) ∧ Below HB W0 wr) := ⟨by rw [show drow ⟨M, t, q⟩ false cb 0 = [] from rfl, List.append_nil]; exact HQ.out.1, HQ.out.2⟩
        go_wp2_with fail
        clear a0 a1 a2
        go_loopw [10, 12] (fun u i wr => ∃ (y g cp : Nat), y ≤ M ∧ i = .int .i64 y ∧ u = .slice (some ⟨g, 0, none⟩) (N + y) cp ∧ OwnL wr HB u (drow ⟨N, s, r⟩ false ca N ++ drow ⟨M, t, q⟩ false cb y) ∧ Below HB W0 wr) (fun _ i _ => M - (intOf i).toNat)
        case atStart => exact ⟨0, g, cp, Nat.zero_le _, rfl, rfl, ST2.out⟩
        case round =>
          clear ST2 HQ
          obtain ⟨y, g, cp, hy, rfl, rfl, q1, q2⟩ := hrel
          have HQ := Lib.hid (show _ ∧ _ from ⟨q1, q2⟩)
          clear q1 q2
          have hBw : HB ≤ wr.heap.size := by
            rcases HQ.out.1.len with ⟨h, _⟩ | ⟨_, _, _, h1, h2⟩
            · cases h
            · omega
          obtain ⟨a0, a1, a2⟩ := (BB.out.below HQ.out.2 (by omega)).c
          by_cases hyM : y < M
          · go_wp2_with fail
            refine (desc_own (f := false) (c := cb) rfl hyM hM HR.out.2.2.2.2.2 (HR.out.2.1.below (AW.out.trans (HQ.out.2.mono (by omega))) (Nat.le_refl _)) (HC.out (by simp)).2).mono ?_
            rintro e w2 ⟨g2, cap2, rfl, ho, hb⟩
            obtain ⟨d, hd⟩ : ∃ d, d = dsc ⟨M, t, q⟩ false cb y := ⟨_, rfl⟩
            rw [← hd] at ho ⊢
            have hdl : d.length ≤ 1000 := by rw [hd]; exact dsc_len _ _ _ _ (by assumption)
            have hdn : d ≠ [] := by rw [hd]; exact dsc_ne _ _ _ _
            have HN : Hid (drow ⟨N, s, r⟩ false ca N ++ drow ⟨M, t, q⟩ false cb (y + 1) = (drow ⟨N, s, r⟩ false ca N ++ drow ⟨M, t, q⟩ false cb y) ++ [d]) := by rw [Hid, hd]; exact by rw [drow_succ, List.append_assoc]
            obtain ⟨us, hul, hrow, hus⟩ := (HQ.out.1.below hb (Nat.le_refl _)).row
            have hum : us.length = (N + y) := by rw [hul]; exact by rw [List.length_append, drow_len, drow_len]
            rw [hum] at hrow
            have HO := Lib.hid (show _ ∧ _ ∧ _ ∧ _ ∧ _ ∧ _ ∧ _ ∧ _ from ⟨ho, hul, hus, hum, hrow, hdn, HQ.out.2.trans (hb.mono hBw), hb.size⟩)
            have hgl : g < wr.heap.size := by
              rcases HQ.out.1.len with ⟨h, _⟩ | ⟨_, _, h0, h1, h2⟩
              · cases h
              · simp only [Value.slice.injEq, Option.some.injEq, Addr.mk.injEq] at h0; omega
            obtain ⟨dl, hdll⟩ : ∃ dl, dl = d.length := ⟨_, rfl⟩
            rw [← hdll] at HO ⊢
            have HDL := Lib.hid hdll
            clear ho hb hd hul hrow hus hum hdn hdll hdl a0 a1 a2
            go_wp2_with (at_builtin; refine wpList_app1 w2 rfl (.tmp 52) (.tmp 57) 100 rfl HB 29 (.slice none 0 0) 24 Tryz.underlying100 infoSl rfl (by decide) _ _ _ (.slice (some ⟨g2, 0, none⟩) dl cap2) rfl HO.out.2.2.2.2.1 w2.heap.size rfl rfl rfl (by have := HO.out.2.2.2.1; omega) (Nat.le_trans hBw HO.out.2.2.2.2.2.2.2) ?_)
            intro g' cap' w9 hown9 hgr
            have R : Hid (OwnL w9 HB (.slice (some ⟨g', 0, none⟩) ((N + y) + 1) cap') (drow ⟨N, s, r⟩ false ca N ++ drow ⟨M, t, q⟩ false cb (y + 1)) ∧ Below HB W0 w9) := by
              obtain ⟨h1, h2, h3, h4, h5, h6, h7, h8⟩ := HO.out
              have h9 := hgr.below h5 (Nat.le_trans hBw h8)
              refine ⟨?_, h7.trans h9⟩
              rw [HN.out]
              refine own_push' h4 h2 h3 h1.reads h6 (fun q hq e => ?_) hown9 hgr
              simp [Value.ownBlock] at hq e
              have := h1.ge
              omega
            clear hown9 hgr HO
            go_wp2
            go_roundw
            case rel => exact ⟨y + 1, g', cap', by omega, by go_num, by congr 1, R.out⟩
            case measure => simp [intOf]; omega
          · obtain rfl : M = y := by omega
            have HSH := Lib.hid (drow_short ⟨N, s, r⟩ ⟨M, t, q⟩ false ca cb hN hM)
            have HLEN : Hid ((nums (drow ⟨N, s, r⟩ false ca N ++ drow ⟨M, t, q⟩ false cb M)).length = N + M) := by rw [Hid, nums_len, List.length_append, drow_len, drow_len]
            go_wp2_with fail
            clear a0 a1 a2
            refine (l8Numbers_any _ _ _ HQ.out.1.rows HSH.out).mono ?_
            rintro e w3 ⟨v0, rfl, ho, hb⟩
            have ho2 : OwnI 3 w3 wr.heap.size v0 (nums (drow ⟨N, s, r⟩ false ca N ++ drow ⟨M, t, q⟩ false cb M)) := ho
            rcases ho2.shape with ⟨_, h0⟩ | ⟨g0, cap0, rfl⟩
            · have := HLEN.out; rw [h0] at this; simp at this; omega
            have hcap : N + M ≤ cap0 ∧ cap0 ≤ 9223372036854775807 := by
              have hle := HLEN.out
              rcases ho2.2 with ⟨h', _⟩ | ⟨g', cap', cur, h', hb, hh, hnc, hcm, _⟩
              · simp at h'
              · simp only [Value.slice.injEq] at h'
                obtain ⟨_, hx, rfl⟩ := h'
                exact ⟨by omega, hcm⟩
            obtain ⟨out, hout⟩ : ∃ o, o = nums (drow ⟨N, s, r⟩ false ca N ++ drow ⟨M, t, q⟩ false cb M) := ⟨_, rfl⟩
            rw [← hout] at ho2 HLEN ⊢
            rw [HLEN.out] at ho2 ⊢
            have HOUT := Lib.hid hout
            clear hout
            have HO := Lib.hid (show _ ∧ _ from ⟨ho2, HQ.out.2.trans (hb.mono hBw)⟩)
            obtain ⟨a0, a1, a2⟩ := (BA.out.below HO.out.2 (by omega)).c
            clear ho ho2 hb HQ
            have hNc : N < cap0 := by omega
            go_wp2_with fail
            go_region
            go_wp2
            have RD1 : Reads w3 (.slice (some ⟨g0, 0, none⟩) N cap0) (out.take N) ∧ Reads w3 (.slice (some ⟨g0, N, none⟩) M (cap0 - N)) (out.drop N) := by
              have hlk : (out.take N).length = N := by simp; have := HLEN.out; omega
              have hld : (out.drop N).length = M := by simp; have := HLEN.out; omega
              have hml := HLEN.out
              refine ⟨⟨some ⟨g0, 0, none⟩, cap0, by rw [hlk], .inr ⟨g0, 0, rfl, fun i hi => ?_⟩, fun h => by cases h⟩, ⟨some ⟨g0, N, none⟩, cap0 - N, by rw [hld], .inr ⟨g0, N, rfl, fun i hi => ?_⟩, fun h => by cases h⟩⟩
              · have := HO.out.1.cell i (by omega)
                rw [Nat.zero_add, this]
                simp [List.getD_eq_getElem?_getD, List.getElem?_take, show i < N by omega]
              · have := HO.out.1.cell (N + i) (by omega)
                rw [this]
                simp [List.getD_eq_getElem?_getD, List.getElem?_drop]
            have OT := ownI_take (m := N) HO.out.1 (by omega)
            have AA : Hid (Below w.heap.size w w3.drew) := (AW.out.trans (HO.out.2.mono (by omega))).drew
            have DD : Below w3.heap.size w3 w3.drew := (Below.refl _ _).drew
            have RES := Lib.hid (show _ ∧ _ ∧ _ from ⟨RD1.1.below DD (Nat.le_refl _), RD1.2.below DD (Nat.le_refl _), (OT.below DD (Nat.le_refl _)).mono (show w.heap.size ≤ wr.heap.size by omega)⟩)
            clear RD1 OT DD a0 a1 a2
            rw [HOUT.out] at RES
            go_ret2
            exact ⟨_, _, rfl, RES.out.1, RES.out.2.1, RES.out.2.2, AA.out⟩
  · have tf : ((na : Int) == 0) = true := HTF.out
    go_enter Tryz.func104, Tryz.ntmps104
    go_wp2_with fail
    rw [← HW0.out, ← HHB.out]
    go_loopw [10, 11] (fun u i wr => ∃ (x g cp : Nat), x ≤ N ∧ i = .int .i64 x ∧ u = .slice (some ⟨g, 0, none⟩) x cp ∧ OwnL wr HB u (drow ⟨N, s, r⟩ true ca x) ∧ Below HB W0 wr) (fun _ i _ => N - (intOf i).toNat)
    case atStart => exact ⟨0, HB, 0, Nat.zero_le _, rfl, rfl, START.out⟩
    case round =>
      clear START
      obtain ⟨x, g, cp, hx, rfl, rfl, q1, q2⟩ := hrel
      have HQ := Lib.hid (show _ ∧ _ from ⟨q1, q2⟩)
      clear q1 q2
      have hBw : HB ≤ wr.heap.size := by
        rcases HQ.out.1.len with ⟨h, _⟩ | ⟨_, _, _, h1, h2⟩
        · cases h
        · omega
      obtain ⟨a0, a1, a2⟩ := (BA.out.below HQ.out.2 (by omega)).c
      by_cases hxN : x < N
      · go_wp2_with fail
        refine (first_own (f := true) (c := ca) rfl hxN hN HR.out.2.2.1 HR.out.2.2.2.1).mono ?_
        rintro e w2 ⟨g2, cap2, rfl, ho, hb⟩
        obtain ⟨d, hd⟩ : ∃ d, d = dsc ⟨N, s, r⟩ true ca x := ⟨_, rfl⟩
        rw [← hd] at ho ⊢
        have hdl : d.length ≤ 1000 := by rw [hd]; exact dsc_len _ _ _ _ (by assumption)
        have hdn : d ≠ [] := by rw [hd]; exact dsc_ne _ _ _ _
        have HN : Hid (drow ⟨N, s, r⟩ true ca (x + 1) = drow ⟨N, s, r⟩ true ca x ++ [d]) := by rw [Hid, hd]; exact drow_succ _ _ _ _
        obtain ⟨us, hul, hrow, hus⟩ := (HQ.out.1.below hb (Nat.le_refl _)).row
        have hum : us.length = x := by rw [hul]; exact drow_len _ _ _ _
        rw [hum] at hrow
        have HO := Lib.hid (show _ ∧ _ ∧ _ ∧ _ ∧ _ ∧ _ ∧ _ ∧ _ from ⟨ho, hul, hus, hum, hrow, hdn, HQ.out.2.trans (hb.mono hBw), hb.size⟩)
        have hgl : g < wr.heap.size := by
          rcases HQ.out.1.len with ⟨h, _⟩ | ⟨_, _, h0, h1, h2⟩
          · cases h
          · simp only [Value.slice.injEq, Option.some.injEq, Addr.mk.injEq] at h0; omega
        obtain ⟨dl, hdll⟩ : ∃ dl, dl = d.length := ⟨_, rfl⟩
        rw [← hdll] at HO ⊢
        have HDL := Lib.hid hdll
        clear ho hb hd hul hrow hus hum hdn hdll hdl a0 a1 a2
        go_wp2_with (at_builtin; refine wpList_app1 w2 rfl (.tmp 24) (.tmp 28) 100 rfl HB 29 (.slice none 0 0) 24 Tryz.underlying100 infoSl rfl (by decide) _ _ _ (.slice (some ⟨g2, 0, none⟩) dl cap2) rfl HO.out.2.2.2.2.1 w2.heap.size rfl rfl rfl (by have := HO.out.2.2.2.1; omega) (Nat.le_trans hBw HO.out.2.2.2.2.2.2.2) ?_)
        intro g' cap' w9 hown9 hgr
        have R : Hid (OwnL w9 HB (.slice (some ⟨g', 0, none⟩) (x + 1) cap') (drow ⟨N, s, r⟩ true ca (x + 1)) ∧ Below HB W0 w9) := by
          obtain ⟨h1, h2, h3, h4, h5, h6, h7, h8⟩ := HO.out
          have h9 := hgr.below h5 (Nat.le_trans hBw h8)
          refine ⟨?_, h7.trans h9⟩
          rw [HN.out]
          refine own_push' h4 h2 h3 h1.reads h6 (fun q hq e => ?_) hown9 hgr
          simp [Value.ownBlock] at hq e
          have := h1.ge
          omega
        clear hown9 hgr HO
        go_wp2
        go_roundw
        case rel => exact ⟨x + 1, g', cap', by omega, by go_num, by congr 1, R.out⟩
        case measure => simp [intOf]; omega
      · obtain rfl : N = x := by omega
        have ST2 : Hid (OwnL wr HB (.slice (some ⟨g, 0, none⟩) N cp) (drow ⟨N, s, r⟩ true ca N ++ drow ⟨M, t, q⟩ true cb 0) ∧ Below HB W0 wr) := ⟨by rw [show drow ⟨M, t, q⟩ true cb 0 = [] from rfl, List.append_nil]; exact HQ.out.1, HQ.out.2⟩
        go_wp2_with fail
        clear a0 a1 a2
        go_loopw [10, 12] (fun u i wr => ∃ (y g cp : Nat), y ≤ M ∧ i = .int .i64 y ∧ u = .slice (some ⟨g, 0, none⟩) (N + y) cp ∧ OwnL wr HB u (drow ⟨N, s, r⟩ true ca N ++ drow ⟨M, t, q⟩ true cb y) ∧ Below HB W0 wr) (fun _ i _ => M - (intOf i).toNat)
        case atStart => exact ⟨0, g, cp, Nat.zero_le _, rfl, rfl, ST2.out⟩
        case round =>
          clear ST2 HQ
          obtain ⟨y, g, cp, hy, rfl, rfl, q1, q2⟩ := hrel
          have HQ := Lib.hid (show _ ∧ _ from ⟨q1, q2⟩)
          clear q1 q2
          have hBw : HB ≤ wr.heap.size := by
            rcases HQ.out.1.len with ⟨h, _⟩ | ⟨_, _, _, h1, h2⟩
            · cases h
            · omega
          obtain ⟨a0, a1, a2⟩ := (BB.out.below HQ.out.2 (by omega)).c
          by_cases hyM : y < M
          · go_wp2_with fail
            refine (first_own (f := true) (c := cb) rfl hyM hM HR.out.2.2.2.2.1 HR.out.2.2.2.2.2).mono ?_
            rintro e w2 ⟨g2, cap2, rfl, ho, hb⟩
            obtain ⟨d, hd⟩ : ∃ d, d = dsc ⟨M, t, q⟩ true cb y := ⟨_, rfl⟩
            rw [← hd] at ho ⊢
            have hdl : d.length ≤ 1000 := by rw [hd]; exact dsc_len _ _ _ _ (by assumption)
            have hdn : d ≠ [] := by rw [hd]; exact dsc_ne _ _ _ _
            have HN : Hid (drow ⟨N, s, r⟩ true ca N ++ drow ⟨M, t, q⟩ true cb (y + 1) = (drow ⟨N, s, r⟩ true ca N ++ drow ⟨M, t, q⟩ true cb y) ++ [d]) := by rw [Hid, hd]; exact by rw [drow_succ, List.append_assoc]
            obtain ⟨us, hul, hrow, hus⟩ := (HQ.out.1.below hb (Nat.le_refl _)).row
            have hum : us.length = (N + y) := by rw [hul]; exact by rw [List.length_append, drow_len, drow_len]
            rw [hum] at hrow
            have HO := Lib.hid (show _ ∧ _ ∧ _ ∧ _ ∧ _ ∧ _ ∧ _ ∧ _ from ⟨ho, hul, hus, hum, hrow, hdn, HQ.out.2.trans (hb.mono hBw), hb.size⟩)
            have hgl : g < wr.heap.size := by
              rcases HQ.out.1.len with ⟨h, _⟩ | ⟨_, _, h0, h1, h2⟩
              · cases h
              · simp only [Value.slice.injEq, Option.some.injEq, Addr.mk.injEq] at h0; omega
            obtain ⟨dl, hdll⟩ : ∃ dl, dl = d.length := ⟨_, rfl⟩
            rw [← hdll] at HO ⊢
            have HDL := Lib.hid hdll
            clear ho hb hd hul hrow hus hum hdn hdll hdl a0 a1 a2
            go_wp2_with (at_builtin; refine wpList_app1 w2 rfl (.tmp 46) (.tmp 50) 100 rfl HB 29 (.slice none 0 0) 24 Tryz.underlying100 infoSl rfl (by decide) _ _ _ (.slice (some ⟨g2, 0, none⟩) dl cap2) rfl HO.out.2.2.2.2.1 w2.heap.size rfl rfl rfl (by have := HO.out.2.2.2.1; omega) (Nat.le_trans hBw HO.out.2.2.2.2.2.2.2) ?_)
            intro g' cap' w9 hown9 hgr
            have R : Hid (OwnL w9 HB (.slice (some ⟨g', 0, none⟩) ((N + y) + 1) cap') (drow ⟨N, s, r⟩ true ca N ++ drow ⟨M, t, q⟩ true cb (y + 1)) ∧ Below HB W0 w9) := by
              obtain ⟨h1, h2, h3, h4, h5, h6, h7, h8⟩ := HO.out
              have h9 := hgr.below h5 (Nat.le_trans hBw h8)
              refine ⟨?_, h7.trans h9⟩
              rw [HN.out]
              refine own_push' h4 h2 h3 h1.reads h6 (fun q hq e => ?_) hown9 hgr
              simp [Value.ownBlock] at hq e
              have := h1.ge
              omega
            clear hown9 hgr HO
            go_wp2
            go_roundw
            case rel => exact ⟨y + 1, g', cap', by omega, by go_num, by congr 1, R.out⟩
            case measure => simp [intOf]; omega
          · obtain rfl : M = y := by omega
            have HSH := Lib.hid (drow_short ⟨N, s, r⟩ ⟨M, t, q⟩ true ca cb hN hM)
            have HLEN : Hid ((nums (drow ⟨N, s, r⟩ true ca N ++ drow ⟨M, t, q⟩ true cb M)).length = N + M) := by rw [Hid, nums_len, List.length_append, drow_len, drow_len]
            go_wp2_with fail
            clear a0 a1 a2
            refine (l8Numbers_any _ _ _ HQ.out.1.rows HSH.out).mono ?_
            rintro e w3 ⟨v0, rfl, ho, hb⟩
            have ho2 : OwnI 3 w3 wr.heap.size v0 (nums (drow ⟨N, s, r⟩ true ca N ++ drow ⟨M, t, q⟩ true cb M)) := ho
            rcases ho2.shape with ⟨_, h0⟩ | ⟨g0, cap0, rfl⟩
            · have := HLEN.out; rw [h0] at this; simp at this; omega
            have hcap : N + M ≤ cap0 ∧ cap0 ≤ 9223372036854775807 := by
              have hle := HLEN.out
              rcases ho2.2 with ⟨h', _⟩ | ⟨g', cap', cur, h', hb, hh, hnc, hcm, _⟩
              · simp at h'
              · simp only [Value.slice.injEq] at h'
                obtain ⟨_, hx, rfl⟩ := h'
                exact ⟨by omega, hcm⟩
            obtain ⟨out, hout⟩ : ∃ o, o = nums (drow ⟨N, s, r⟩ true ca N ++ drow ⟨M, t, q⟩ true cb M) := ⟨_, rfl⟩
            rw [← hout] at ho2 HLEN ⊢
            rw [HLEN.out] at ho2 ⊢
            have HOUT := Lib.hid hout
            clear hout
            have HO := Lib.hid (show _ ∧ _ from ⟨ho2, HQ.out.2.trans (hb.mono hBw)⟩)
            obtain ⟨a0, a1, a2⟩ := (BA.out.below HO.out.2 (by omega)).c
            clear ho ho2 hb HQ
            have hNc : N < cap0 := by omega
            go_wp2_with fail
            go_region
            go_wp2
            have RD1 : Reads w3 (.slice (some ⟨g0, 0, none⟩) N cap0) (out.take N) ∧ Reads w3 (.slice (some ⟨g0, N, none⟩) M (cap0 - N)) (out.drop N) := by
              have hlk : (out.take N).length = N := by simp; have := HLEN.out; omega
              have hld : (out.drop N).length = M := by simp; have := HLEN.out; omega
              have hml := HLEN.out
              refine ⟨⟨some ⟨g0, 0, none⟩, cap0, by rw [hlk], .inr ⟨g0, 0, rfl, fun i hi => ?_⟩, fun h => by cases h⟩, ⟨some ⟨g0, N, none⟩, cap0 - N, by rw [hld], .inr ⟨g0, N, rfl, fun i hi => ?_⟩, fun h => by cases h⟩⟩
              · have := HO.out.1.cell i (by omega)
                rw [Nat.zero_add, this]
                simp [List.getD_eq_getElem?_getD, List.getElem?_take, show i < N by omega]
              · have := HO.out.1.cell (N + i) (by omega)
                rw [this]
                simp [List.getD_eq_getElem?_getD, List.getElem?_drop]
            have OT := ownI_take (m := N) HO.out.1 (by omega)
            have AA : Hid (Below w.heap.size w w3.drew) := (AW.out.trans (HO.out.2.mono (by omega))).drew
            have DD : Below w3.heap.size w3 w3.drew := (Below.refl _ _).drew
            have RES := Lib.hid (show _ ∧ _ ∧ _ from ⟨RD1.1.below DD (Nat.le_refl _), RD1.2.below DD (Nat.le_refl _), (OT.below DD (Nat.le_refl _)).mono (show w.heap.size ≤ wr.heap.size by omega)⟩)
            clear RD1 OT DD a0 a1 a2
            rw [HOUT.out] at RES
            go_ret2
            exact ⟨_, _, rfl, RES.out.1, RES.out.2.1, RES.out.2.2, AA.out⟩
end Go.Proofs.YtpcnoiigbmiejaaGreatDoor.refine

/- l8Both of the reference: the colours of two structures after some rounds. -/
namespace Go.Proofs.YtpcnoiigbmiejaaGreatDoor.both
set_option linter.unusedVariables false
set_option linter.unusedSimpArgs false
open Go.ChangeShapes Go.WideShapes Go.ChangeAt Go.RowKit
open Go.Proofs.YtpcnoiigbmiejaaGreatDoor.lib Go.Proofs.YtpcnoiigbmiejaaGreatDoor.st Go.Proofs.YtpcnoiigbmiejaaGreatDoor.base Go.Proofs.YtpcnoiigbmiejaaGreatDoor.col Go.Proofs.YtpcnoiigbmiejaaGreatDoor.colp Go.Proofs.YtpcnoiigbmiejaaGreatDoor.sll Go.Proofs.YtpcnoiigbmiejaaGreatDoor.refine

theorem zero_pair (a b : St) : nums (drow a true [] a.n ++ drow b true [] b.n) = cols [a, b] 0 := by
  unfold cols firsts firsts firsts drow
  have h : ∀ x : St, dsc x true [] = d0 x := fun x => by funext y; rfl
  rw [h, h, List.append_nil]
theorem succ_pair (a b : St) (k : Nat) : nums (drow a false ((cols [a, b] k).take a.n) a.n ++ drow b false ((cols [a, b] k).drop a.n) b.n) = cols [a, b] (k + 1) := by
  have hl := cols_len [a, b] k
  simp only [total] at hl
  rw [cols, nexts, nexts, nexts, List.append_nil]
  unfold drow
  have h : ∀ (x : St) (c : List Int), dsc x false c = desc x c := fun x c => by funext y; rfl
  rw [h, h, List.take_of_length_le (l := (cols [a, b] k).drop a.n) (by rw [List.length_drop]; omega)]
theorem take_len (a b : St) (k : Nat) : ((cols [a, b] k).take a.n).length = a.n ∧ ((cols [a, b] k).drop a.n).length = b.n := by
  have hl := cols_len [a, b] k
  simp only [total] at hl
  rw [List.length_take, List.length_drop]; omega
/-- the colours of the first, of the second one -/
def colA (a b : St) (k : Nat) : List Int := (cols [a, b] k).take a.n
def colB (a b : St) (k : Nat) : List Int := (cols [a, b] k).drop a.n

set_option maxHeartbeats 3200000 in
set_option maxRecDepth 100000 in
theorem l8Both_any (N : Nat) (s r : ByteArray) (M : Nat) (t q : ByteArray) (R : Nat) (w : World) (hRR : R ≤ 100) (hN1 : 1 ≤ N) (hN : N ≤ 8) (hs : s.size = N) (hr : r.size = N * N) (hM1 : 1 ≤ M) (hM : M ≤ 8) (ht : t.size = M) (hq : q.size = M * M) :
    Calls Tryz.prog 69 #[.agg #[.int .i64 N, .string s, .string r], .agg #[.int .i64 M, .string t, .string q], .int .i64 R] w fun e w' => ∃ v1 v2, e = .returned (.tuple #[v1, v2]) ∧
      Reads w' v1 (colA ⟨N, s, r⟩ ⟨M, t, q⟩ R) ∧ Reads w' v2 (colB ⟨N, s, r⟩ ⟨M, t, q⟩ R) ∧ OwnI 3 w' w.heap.size v1 (colA ⟨N, s, r⟩ ⟨M, t, q⟩ R) ∧ Below w.heap.size w w' := by
  obtain ⟨W0, hW0⟩ : ∃ W0, W0 = (w.alloc (.cells #[.int .i64 N, .string s, .string r] 24)).alloc (.cells #[.int .i64 M, .string t, .string q] 24) := ⟨_, rfl⟩
  have BA : Box 24 W0 w.heap.size N s r := by rw [hW0]; exact (Box.new 24 w w.heap.size rfl N s r).below ((Below.refl (w.heap.size + 1) _).alloc (by simp) _) (by omega)
  have BB : Box 24 W0 (w.heap.size + 1) M t q := by rw [hW0]; exact Box.new 24 _ (w.heap.size + 1) (by simp) M t q
  have AW : Below w.heap.size w W0 := by rw [hW0]; exact ((Below.refl _ _).alloc (Nat.le_refl _) _).alloc (by simp) _
  have Z0 : W0.heap.size = w.heap.size + 2 := by rw [hW0]; simp
  obtain ⟨W2, hW2⟩ : ∃ W2, W2 = (W0.alloc (.cells #[] 3)).alloc (.cells #[] 3) := ⟨_, rfl⟩
  have A2 : Below W0.heap.size W0 W2 := by rw [hW2]; exact ((Below.refl _ _).alloc (Nat.le_refl _) _).alloc (by simp) _
  have HQ := Lib.hid (show _ ∧ _ ∧ _ from ⟨AW.trans (A2.mono AW.size), BA.below A2 BA.lt, BB.below A2 BB.lt⟩)
  have HZ := Lib.hid (show _ ∧ _ ∧ _ ∧ _ from ⟨hs, hr, ht, hq⟩)
  have HW := Lib.hid hW2
  have HW0 := Lib.hid hW0
  clear hW0 hW2 BA BB AW A2 Z0 hs hr ht hq
  go_enter Tryz.func69, Tryz.ntmps69
  go_wp2_with fail
  rw [← HW0.out, ← HW.out]
  refine (l8Refine_any N s r M t q [] [] _ _ _ hN1 hN HZ.out.1 HZ.out.2.1 hM1 hM HZ.out.2.2.1 HZ.out.2.2.2 ⟨_, _, rfl, .inl rfl, fun h => by cases h⟩ ⟨_, _, rfl, .inl rfl, fun h => by cases h⟩ (.inl rfl)).mono ?_
  rintro e w1 ⟨v1, v2, rfl, h1, h2, h3, hb⟩
  have START : Hid (Reads w1 v1 (colA ⟨N, s, r⟩ ⟨M, t, q⟩ 0) ∧ Reads w1 v2 (colB ⟨N, s, r⟩ ⟨M, t, q⟩ 0) ∧ OwnI 3 w1 w.heap.size v1 (colA ⟨N, s, r⟩ ⟨M, t, q⟩ 0) ∧ Below w.heap.size w w1 ∧ Box 24 w1 w.heap.size N s r ∧ Box 24 w1 (w.heap.size + 1) M t q) := by
    have e0 := zero_pair ⟨N, s, r⟩ ⟨M, t, q⟩
    simp only [List.isEmpty_nil] at h1 h2 h3
    unfold colA colB
    rw [← e0]
    exact ⟨h1, h2, h3.mono HQ.out.1.size, HQ.out.1.trans (hb.mono HQ.out.1.size), HQ.out.2.1.below hb HQ.out.2.1.lt, HQ.out.2.2.below hb HQ.out.2.2.lt⟩
  clear h1 h2 h3 hb HQ
  go_wp2_with fail
  go_loopw [8, 9, 10] (fun u1 u2 i wr => ∃ k : Nat, k ≤ R ∧ i = .int .i64 k ∧ Reads wr u1 (colA ⟨N, s, r⟩ ⟨M, t, q⟩ k) ∧ Reads wr u2 (colB ⟨N, s, r⟩ ⟨M, t, q⟩ k) ∧ OwnI 3 wr w.heap.size u1 (colA ⟨N, s, r⟩ ⟨M, t, q⟩ k) ∧ Below w.heap.size w wr ∧ Box 24 wr w.heap.size N s r ∧ Box 24 wr (w.heap.size + 1) M t q) (fun _ _ i _ => R - (intOf i).toNat)
  case atStart => exact ⟨0, Nat.zero_le _, rfl, START.out⟩
  case round =>
    clear START
    obtain ⟨k, hk, rfl, h1, h2, h3, h4, h5, h6⟩ := hrel
    have HQ := Lib.hid (show _ ∧ _ ∧ _ ∧ _ ∧ _ ∧ _ from ⟨h1, h2, h3, h4, h5, h6⟩)
    clear h1 h2 h3 h4 h5 h6
    by_cases hkR : k < R
    · obtain ⟨a0, a1, a2⟩ := HQ.out.2.2.2.2.1.c
      obtain ⟨b0, b1, b2⟩ := HQ.out.2.2.2.2.2.c
      have hlen := take_len ⟨N, s, r⟩ ⟨M, t, q⟩ k
      go_wp2_with fail
      refine (l8Refine_any N s r M t q (colA ⟨N, s, r⟩ ⟨M, t, q⟩ k) (colB ⟨N, s, r⟩ ⟨M, t, q⟩ k) _ _ _ hN1 hN HZ.out.1 HZ.out.2.1 hM1 hM HZ.out.2.2.1 HZ.out.2.2.2 HQ.out.1 HQ.out.2.1 (.inr hlen)).mono ?_
      rintro e w2 ⟨v3, v4, rfl, h1, h2, h3, hb⟩
      have R1 : Hid (Reads w2 v3 (colA ⟨N, s, r⟩ ⟨M, t, q⟩ (k + 1)) ∧ Reads w2 v4 (colB ⟨N, s, r⟩ ⟨M, t, q⟩ (k + 1)) ∧ OwnI 3 w2 w.heap.size v3 (colA ⟨N, s, r⟩ ⟨M, t, q⟩ (k + 1)) ∧ Below w.heap.size w w2 ∧ Box 24 w2 w.heap.size N s r ∧ Box 24 w2 (w.heap.size + 1) M t q) := by
        have e0 := succ_pair ⟨N, s, r⟩ ⟨M, t, q⟩ k
        have ee : (colA ⟨N, s, r⟩ ⟨M, t, q⟩ k).isEmpty = false := by
          have hx : (colA ⟨N, s, r⟩ ⟨M, t, q⟩ k).length = N := hlen.1
          cases hc : colA ⟨N, s, r⟩ ⟨M, t, q⟩ k with
          | nil => rw [hc] at hx; simp at hx; omega
          | cons a l => rfl
        rw [ee] at h1 h2 h3
        unfold colA colB at h1 h2 h3 ⊢
        rw [← e0]
        exact ⟨h1, h2, h3.mono HQ.out.2.2.2.1.size, HQ.out.2.2.2.1.trans (hb.mono HQ.out.2.2.2.1.size), HQ.out.2.2.2.2.1.below hb HQ.out.2.2.2.2.1.lt, HQ.out.2.2.2.2.2.below hb HQ.out.2.2.2.2.2.lt⟩
      clear h1 h2 h3 hb a0 a1 a2 b0 b1 b2 hlen
      go_wp2
      go_roundw
      case rel => exact ⟨k + 1, by omega, by go_num, R1.out⟩
      case measure => simp [intOf]; omega
    · obtain rfl : R = k := by omega
      go_wp2
      go_ret2
      exact ⟨_, _, rfl, HQ.out.1, HQ.out.2.1, HQ.out.2.2.1, HQ.out.2.2.2.1⟩
end Go.Proofs.YtpcnoiigbmiejaaGreatDoor.both

/- Counting of colours in the reference: l8Most, l8Counts, l8Same; ColoursOf. -/
namespace Go.Proofs.YtpcnoiigbmiejaaGreatDoor.specc
set_option linter.unusedVariables false
set_option linter.unusedSimpArgs false
open Go.ChangeShapes Go.WideShapes Go.ChangeAt Go.RowKit
open Go.Proofs.YtpcnoiigbmiejaaGreatDoor.lib Go.Proofs.YtpcnoiigbmiejaaGreatDoor.st Go.Proofs.YtpcnoiigbmiejaaGreatDoor.base Go.Proofs.YtpcnoiigbmiejaaGreatDoor.col Go.Proofs.YtpcnoiigbmiejaaGreatDoor.colp Go.Proofs.YtpcnoiigbmiejaaGreatDoor.sll Go.Proofs.YtpcnoiigbmiejaaGreatDoor.both Go.Proofs.YtpcnoiigbmiejaaGreatDoor.descr Go.Proofs.YtpcnoiigbmiejaaGreatDoor.flow Go.Proofs.YtpcnoiigbmiejaaGreatDoor.less

theorem mostTo_zero (c : List Int) : mostTo c 0 = 0 := by simp [mostTo]
theorem mostTo_succ {c : List Int} {k : Nat} (hk : k < c.length) : mostTo c (k + 1) = max (mostTo c k) (c.getD k 0 + 1) := by
  unfold mostTo
  rw [List.take_succ_eq_append_getElem hk, List.foldl_append, List.getD_eq_getElem?_getD, List.getElem?_eq_getElem hk]; rfl
theorem mostTo_full (c : List Int) : mostTo c c.length = most c := by unfold mostTo most; rw [List.take_length]
theorem mostTo_bd {c : List Int} (h : ∀ x, x ∈ c → 0 ≤ x ∧ x < 100) (k : Nat) : 0 ≤ mostTo c k ∧ mostTo c k ≤ 100 := by
  unfold mostTo
  obtain ⟨h1, h2, h3⟩ := fold_max (c.take k) 0
  refine ⟨h1, ?_⟩
  rcases h3 with h3 | ⟨x, hx, h3⟩
  · rw [h3]; omega
  · have := h x (List.mem_of_mem_take hx); omega
theorem get_bd {c : List Int} (h : ∀ x, x ∈ c → 0 ≤ x ∧ x < 100) {k : Nat} (hk : k < c.length) : 0 ≤ c.getD k 0 ∧ c.getD k 0 < 100 := by
  rw [List.getD_eq_getElem?_getD, List.getElem?_eq_getElem hk]; exact h _ (List.getElem_mem hk)

set_option maxHeartbeats 1600000 in
theorem l8Most_any (v : Value) (c : List Int) (w : World) (hv : Reads w v c) (hc : c.length ≤ 100) (h : ∀ x, x ∈ c → 0 ≤ x ∧ x < 100) :
    Calls Tryz.prog 57 #[v] w fun e w' => e = .returned (.int .i64 (most c)) ∧ w = w' := by
  obtain ⟨ao, cap, rfl⟩ := hv.len
  obtain ⟨n, hn⟩ : ∃ n, n = c.length := ⟨_, rfl⟩
  rw [← hn] at hv hc ⊢
  have HV := Lib.hid (show _ ∧ _ ∧ _ from ⟨hv, hn, h⟩)
  clear hv hn h
  go_enter Tryz.func57, Tryz.ntmps57
  go_wp2
  go_loop [3, 4] (fun m i => ∃ k : Nat, k ≤ n ∧ i = .int .i64 k ∧ m = .int .i64 (mostTo c k)) (fun _ i => n - (intOf i).toNat)
  case atStart => exact ⟨0, Nat.zero_le _, rfl, by rw [mostTo_zero]⟩
  case round =>
    obtain ⟨k, hk, rfl, rfl⟩ := hrel
    obtain ⟨m1, m2⟩ := mostTo_bd HV.out.2.2 k
    by_cases hkn : k < n
    · obtain ⟨b, off, rfl, hbw, hcell⟩ := int_spot HV.out.1 HV.out.2.1 (by omega)
      obtain ⟨y1, y2⟩ := get_bd HV.out.2.2 (k := k) (by have := HV.out.2.1; omega)
      have hs := mostTo_succ (c := c) (k := k) (by have := HV.out.2.1; omega)
      have hck := hcell k hkn
      obtain ⟨y, hy⟩ : ∃ y, y = c.getD k 0 := ⟨_, rfl⟩
      rw [← hy] at hck y1 y2 hs
      obtain ⟨m, hm⟩ : ∃ m, m = mostTo c k := ⟨_, rfl⟩
      rw [← hm] at m1 m2 hs ⊢
      have HS := Lib.hid hs
      clear hcell hy hm hs
      go_wp2
      go_round
      case rel => exact ⟨k + 1, by omega, by go_num, by rw [HS.out]⟩
      case measure => simp [intOf]; omega
    · obtain rfl : n = k := by omega
      have hm : mostTo c n = most c := by rw [HV.out.2.1]; exact mostTo_full c
      have HM := Lib.hid hm
      clear hm
      go_wp2
      go_ret
      exact ⟨by rw [← HM.out]; rfl, rfl⟩

/-- the counts of the first i -/
def countsTo (c : List Int) (m i : Nat) : List Int := counts (c.take i) m
theorem countsTo_zero (c : List Int) (m : Nat) : countsTo c m 0 = List.replicate m 0 := by
  unfold countsTo counts
  apply List.ext_getElem (by simp)
  intro i h1 h2
  simp
theorem counts_len (c : List Int) (m : Nat) : (counts c m).length = m := by simp [counts]
theorem countsTo_get {c : List Int} {m i v : Nat} (hv : v < m) : (countsTo c m i).getD v 0 = (((c.take i).count (v : Int) : Nat) : Int) := by
  unfold countsTo counts
  rw [List.getD_eq_getElem?_getD, List.getElem?_map, List.getElem?_range hv]; rfl
theorem countsTo_succ {c : List Int} {m i v : Nat} (hi : i < c.length) (hv : c.getD i 0 = (v : Int)) (hm : v < m) : countsTo c m (i + 1) = (countsTo c m i).set v ((countsTo c m i).getD v 0 + 1) := by
  rw [countsTo_get hm]
  have hx : c[i] = (v : Int) := by rw [← hv, List.getD_eq_getElem?_getD, List.getElem?_eq_getElem hi]; rfl
  have e : c.take (i + 1) = c.take i ++ [(v : Int)] := by rw [List.take_succ_eq_append_getElem hi, hx]
  unfold countsTo counts
  rw [e]
  apply List.ext_getElem (by simp)
  intro j h1 h2
  have hj : j < m := by simpa using h1
  rw [List.getElem_set]
  simp only [List.getElem_map, List.getElem_range, List.count_append]
  by_cases e2 : v = j
  · subst e2; rw [if_pos rfl]; simp
  · rw [if_neg e2]
    have : List.count (j : Int) [(v : Int)] = 0 := by
      rw [List.count_eq_zero]; simp; omega
    rw [this]; rfl
theorem countsTo_full (c : List Int) (m : Nat) : countsTo c m c.length = counts c m := by unfold countsTo; rw [List.take_length]
theorem countsTo_bd (c : List Int) (m i v : Nat) (hv : v < m) : 0 ≤ (countsTo c m i).getD v 0 ∧ (countsTo c m i).getD v 0 ≤ i := by
  rw [countsTo_get hv]
  have := List.count_le_length (a := (v : Int)) (l := c.take i)
  rw [List.length_take] at this
  omega

set_option maxHeartbeats 3200000 in
theorem l8Counts_any (v : Value) (c : List Int) (m : Nat) (w : World) (hv : Reads w v c) (hc : c.length ≤ 100) (hm : m ≤ 100) (h : ∀ x, x ∈ c → 0 ≤ x ∧ x < m) :
    Calls Tryz.prog 71 #[v, .int .i64 m] w fun e w' => ∃ v0, e = .returned v0 ∧ OwnI 3 w' w.heap.size v0 (counts c m) ∧ Below w.heap.size w w' := by
  obtain ⟨ao, cap, rfl⟩ := hv.len
  obtain ⟨n, hn⟩ : ∃ n, n = c.length := ⟨_, rfl⟩
  rw [← hn] at hv hc ⊢
  have HV := Lib.hid (show _ ∧ _ ∧ _ from ⟨hv, hn, h⟩)
  obtain ⟨i0, hi, hz0, hz1, hz2⟩ := info_parts sll.infoInt
  clear hv hn h
  go_enter Tryz.func71, Tryz.ntmps71
  go_wp2_with (at_make; refine wpList_make_full _ rfl _ _ 29 rfl w.heap.size 3 i0 (.int .i64 0) 1 Tryz.underlying29 hi hz0 hz1 _ _ _ _ m rfl rfl (by omega) (by omega) ?b2 ?b3 (by simp) ?_)
  case b2 => rw [hz2]; omega
  case b3 => unfold maxLen; omega
  intro w1 hown0 hgrow0
  have HST : Hid (OwnI 3 w1 w.heap.size (.slice (some ⟨w.heap.size, 0, none⟩) m m) (countsTo c m 0) ∧ Below w.heap.size w w1) := by
    refine ⟨?_, below_of_grown hgrow0 (Nat.le_refl _) (fun k h => by cases h)⟩
    have h1 := OwnI.made hown0
    rw [countsTo_zero]
    simpa using h1
  obtain ⟨go, hgo⟩ : ∃ go, go = w.heap.size := ⟨_, rfl⟩
  have HGO := Lib.hid hgo
  rw [← hgo] at HST ⊢
  clear hown0 hgrow0 hgo hz0 hz1 hz2 hi
  go_wp2_with fail
  go_loopw [6] (fun i wr => ∃ k : Nat, k ≤ n ∧ i = .int .i64 k ∧ OwnI 3 wr go (.slice (some ⟨go, 0, none⟩) m m) (countsTo c m k) ∧ Below go w wr) (fun i _ => n - (intOf i).toNat)
  case atStart => exact ⟨0, Nat.zero_le _, rfl, HST.out⟩
  case round =>
    clear HST
    obtain ⟨k, hk, rfl, hown, hbl⟩ := hrel
    have HO := Lib.hid (show _ ∧ _ from ⟨hown, hbl⟩)
    clear hown hbl
    by_cases hkn : k < n
    · obtain ⟨b, off, rfl, hbw, hcell⟩ := int_spot HV.out.1 HV.out.2.1 (by omega)
      have hkc : k < c.length := by have := HV.out.2.1; omega
      obtain ⟨y, hy⟩ : ∃ y : Nat, c.getD k 0 = (y : Int) := ⟨(c.getD k 0).toNat, by
        have := HV.out.2.2 (c.getD k 0) (by rw [List.getD_eq_getElem?_getD, List.getElem?_eq_getElem hkc]; exact List.getElem_mem hkc)
        omega⟩
      have hym : y < m := by
        have := HV.out.2.2 (c.getD k 0) (by rw [List.getD_eq_getElem?_getD, List.getElem?_eq_getElem hkc]; exact List.getElem_mem hkc)
        omega
      have hbd := countsTo_bd c m k y hym
      have hs := countsTo_succ hkc hy hym
      have hck0 := hcell k hkn
      rw [hy] at hck0
      have hck : wr.cell? ⟨b, off + k, none⟩ = some (.int .i64 y) := by rw [HO.out.2.cell (by rw [HGO.out]; exact hbw)]; exact hck0
      have hlen : (countsTo c m k).length = m := counts_len _ _
      have hcy := HO.out.1.cell y (by omega)
      have hfz := HO.out.1.free y
      obtain ⟨z, hz⟩ : ∃ z, z = (countsTo c m k).getD y 0 := ⟨_, rfl⟩
      rw [← hz] at hcy hs hbd
      obtain ⟨z1, z2⟩ := hbd
      have R : Hid (OwnI 3 (wr.drew.setCell ⟨go, y, none⟩ (.int .i64 (z + 1))) go (.slice (some ⟨go, 0, none⟩) m m) (countsTo c m (k + 1)) ∧ Below go w (wr.drew.setCell ⟨go, y, none⟩ (.int .i64 (z + 1)))) := by
        rw [hs]
        have h1 : OwnI 3 wr.drew go (.slice (some ⟨go, 0, none⟩) m m) (countsTo c m k) := HO.out.1.below ((Below.refl _ _).drew) (Nat.le_refl _)
        exact ⟨h1.set y (z + 1), HO.out.2.drew.setCell (Nat.le_refl _) _⟩
      have q0 : ∀ X : Wd (fun W => W = wr.drew), X.w.cell? ⟨b, off + k, none⟩ = some (.int .i64 y) := fun X => by rw [X.ok]; exact hck
      have q1 : ∀ X : Wd (fun W => W = wr.drew), X.w.cell? ⟨go, y, none⟩ = some (.int .i64 z) := fun X => by rw [X.ok]; exact hcy
      have hne : Nonempty (Wd (fun W => W = wr.drew)) := ⟨⟨wr.drew, rfl⟩⟩
      clear hck0 hck hcy hs hz hy hcell hkc hlen
      go_wp2_with fail
      refine flow_last (S := (fun W => W = wr.drew)) (by kernel_rfl) (by kernel_rfl) (by kernel_rfl) (by kernel_rfl) (by kernel_rfl) rfl ?_
      simp only [List.dropLast_cons_cons, List.dropLast_singleton, List.getLast?_cons_cons, List.getLast?_singleton, Option.toList_some]
      repeat (go_big_quiet_step (fail))
      refine wpQuiet_nil ?_
      rintro _ ⟨X, rfl⟩
      have hX : X.w = wr.drew := X.ok
      rw [hX]
      have hfz2 : wr.drew.frozen? ⟨go, y, none⟩ = false := hfz
      have hcy2 : wr.drew.cell? ⟨go, y, none⟩ = some (.int .i64 z) := by have := q1 X; rw [hX] at this; exact this
      clear q0 q1 hne hX
      go_wp2
      go_roundw
      case rel => exact ⟨k + 1, by omega, by go_num, R.out⟩
      case measure => simp [intOf]; omega
    · obtain rfl : n = k := by omega
      have HF : Hid (countsTo c m n = counts c m) := by rw [Hid, HV.out.2.1]; exact countsTo_full c m
      go_wp2
      go_ret
      exact ⟨_, rfl, by rw [← HF.out, ← HGO.out]; exact HO.out.1, by rw [← HGO.out]; exact HO.out.2⟩
end Go.Proofs.YtpcnoiigbmiejaaGreatDoor.specc

/- The reference's colour functions: ColoursOf, StableColours, ColourCounts, BothColours, SameColours, ColourRound. -/
namespace Go.Proofs.YtpcnoiigbmiejaaGreatDoor.specd
set_option linter.unusedVariables false
set_option linter.unusedSimpArgs false
open Go.ChangeShapes Go.WideShapes Go.ChangeAt Go.RowKit
open Go.Proofs.YtpcnoiigbmiejaaGreatDoor.lib Go.Proofs.YtpcnoiigbmiejaaGreatDoor.st Go.Proofs.YtpcnoiigbmiejaaGreatDoor.base Go.Proofs.YtpcnoiigbmiejaaGreatDoor.col Go.Proofs.YtpcnoiigbmiejaaGreatDoor.colp Go.Proofs.YtpcnoiigbmiejaaGreatDoor.sll Go.Proofs.YtpcnoiigbmiejaaGreatDoor.both Go.Proofs.YtpcnoiigbmiejaaGreatDoor.descr Go.Proofs.YtpcnoiigbmiejaaGreatDoor.flow Go.Proofs.YtpcnoiigbmiejaaGreatDoor.less Go.Proofs.YtpcnoiigbmiejaaGreatDoor.specc

theorem valid_size {n : Int} {s r : ByteArray} (h : validB n s r = true) : ∃ N : Nat, n = N ∧ 1 ≤ N ∧ N ≤ 8 ∧ s.size = N ∧ r.size = N * N := by
  obtain ⟨⟨h2, h3⟩, hs, hr, _⟩ := validB_iff.1 h
  refine ⟨n.toNat, by omega, by omega, by omega, by omega, ?_⟩
  have e : (n.toNat : Int) = n := by omega
  have : ((n.toNat * n.toNat : Nat) : Int) = n * n := by rw [Int.natCast_mul, e]
  omega
theorem emptyRow (T : TypeId) (w : World) (B H : Nat) (hH : w.heap.size = H) (hB : B ≤ H) : OwnI T (w.alloc (.cells #[] T)) B (.slice (some ⟨H, 0, none⟩) 0 0) [] := by
  subst hH
  exact World.ownsRow_made w #[] 0 hB (by decide) rfl
/-- the colours of one after c rounds -/
def colsR (n : Int) (s r : ByteArray) (c : Int) : List Int := if validB n s r = true ∧ basic.inB c 0 8 = true then cols [⟨n.toNat, s, r⟩] c.toNat else []
theorem colsR_len (n : Int) (s r : ByteArray) (c : Int) : (colsR n s r c).length ≤ 8 := by
  unfold colsR
  split
  · rename_i h
    obtain ⟨N, rfl, h1, h8, -, -⟩ := valid_size h.1
    have h := cols_len [⟨N, s, r⟩] c.toNat
    simp only [total] at h
    simp only [Int.toNat_natCast]
    omega
  · simp
theorem colsR_bd {n : Int} {s r : ByteArray} {c x : Int} (hx : x ∈ colsR n s r c) : 0 ≤ x ∧ x < most (colsR n s r c) ∧ most (colsR n s r c) ≤ 8 := by
  unfold colsR at *
  split at hx
  · rename_i h
    rw [if_pos h]
    obtain ⟨N, rfl, h1, h8, -, -⟩ := valid_size h.1
    simp only [Int.toNat_natCast] at hx ⊢
    have h2 := (cols_all (As := [⟨N, s, r⟩]) (by simp [total]; omega) c.toNat).1 hx
    have h3 := cols_most_le [⟨N, s, r⟩] c.toNat
    simp only [total] at h3
    exact ⟨h2.1, h2.2, by omega⟩
  · cases hx
theorem colsR_most (n : Int) (s r : ByteArray) (c : Int) : 0 ≤ most (colsR n s r c) ∧ most (colsR n s r c) ≤ 8 := by
  refine ⟨most_nonneg _, ?_⟩
  cases h : colsR n s r c with
  | nil => decide
  | cons a l => rw [← h]; exact (colsR_bd (x := a) (by rw [h]; exact List.mem_cons_self ..)).2.2

/-- the colours of one, counted -/
def countsR (n : Int) (s r : ByteArray) (c : Int) : List Int := counts (colsR n s r c) (most (colsR n s r c)).toNat
/-- the first round whose colours no further round refines -/
def stab (a : St) : Nat := ((List.range 8).find? fun k => decide (most (cols [a] k) = most (cols [a] (k + 1)))).getD 7
def stableL (n : Int) (s r : ByteArray) : List Int := if validB n s r = true then cols [⟨n.toNat, s, r⟩] (stab ⟨n.toNat, s, r⟩) else []
def stableN (n : Int) (s r : ByteArray) : Int := if validB n s r = true then (stab ⟨n.toNat, s, r⟩ : Nat) else -1
theorem stable_no {n : Int} {s r : ByteArray} (h : validB n s r = false) : stableL n s r = [] ∧ stableN n s r = -1 := by simp [stableL, stableN, h]
theorem stable_yes {N k : Nat} {s r : ByteArray} (h : validB N s r = true) (hk : stab ⟨N, s, r⟩ = k) : stableL N s r = cols [⟨N, s, r⟩] k ∧ stableN N s r = k := by simp [stableL, stableN, h, hk]
theorem stable_len (n : Int) (s r : ByteArray) : (stableL n s r).length ≤ 8 := by
  cases h : validB n s r with
  | false => rw [(stable_no h).1]; simp
  | true =>
    obtain ⟨N, rfl, h1, h8, -, -⟩ := valid_size h
    rw [(stable_yes h rfl).1, cols_len]
    simp only [total]; omega

end Go.Proofs.YtpcnoiigbmiejaaGreatDoor.specd

/- The reference's functions of two structures' colours: BothColours, l8Same, SameColours, ColourRound. -/
namespace Go.Proofs.YtpcnoiigbmiejaaGreatDoor.specd
set_option linter.unusedVariables false
set_option linter.unusedSimpArgs false
open Go.ChangeShapes Go.WideShapes Go.ChangeAt Go.RowKit
open Go.Proofs.YtpcnoiigbmiejaaGreatDoor.lib Go.Proofs.YtpcnoiigbmiejaaGreatDoor.st Go.Proofs.YtpcnoiigbmiejaaGreatDoor.base Go.Proofs.YtpcnoiigbmiejaaGreatDoor.col Go.Proofs.YtpcnoiigbmiejaaGreatDoor.colp Go.Proofs.YtpcnoiigbmiejaaGreatDoor.sll Go.Proofs.YtpcnoiigbmiejaaGreatDoor.both Go.Proofs.YtpcnoiigbmiejaaGreatDoor.descr Go.Proofs.YtpcnoiigbmiejaaGreatDoor.flow Go.Proofs.YtpcnoiigbmiejaaGreatDoor.less Go.Proofs.YtpcnoiigbmiejaaGreatDoor.specc

theorem colA_len (a b : St) (k : Nat) : (colA a b k).length = a.n := (both.take_len a b k).1
theorem colB_len (a b : St) (k : Nat) : (colB a b k).length = b.n := (both.take_len a b k).2
theorem both_bd {a b : St} {k : Nat} {x : Int} (h : 0 < total [a, b]) (hx : x ∈ cols [a, b] k) : 0 ≤ x ∧ x < total [a, b] := by
  have h2 := (cols_all h k).1 hx
  have h3 := cols_most_le [a, b] k
  omega
theorem colA_bd {a b : St} {k : Nat} {x : Int} (h : 0 < total [a, b]) (hx : x ∈ colA a b k) : 0 ≤ x ∧ x < total [a, b] := both_bd h (List.mem_of_mem_take hx)
theorem colB_bd {a b : St} {k : Nat} {x : Int} (h : 0 < total [a, b]) (hx : x ∈ colB a b k) : 0 ≤ x ∧ x < total [a, b] := both_bd h (List.mem_of_mem_drop hx)
theorem most_le {c : List Int} {m : Int} (hm : 0 ≤ m) (h : ∀ x, x ∈ c → x < m) : most c ≤ m := by
  rcases (fold_max c 0).2.2 with h3 | ⟨x, hx, h3⟩
  · unfold most; rw [h3]; exact hm
  · unfold most; rw [h3]; have := h x hx; omega
theorem same_counts {a b : St} {k m : Nat} (h : 0 < total [a, b]) (hA : most (colA a b k) ≤ m) (hB : most (colB a b k) ≤ m) : decide (counts (colA a b k) m = counts (colB a b k) m) = sameAt a b k := by
  unfold sameAt
  rw [decide_eq_decide]
  exact counts_perm (fun x hx => ⟨(colA_bd h hx).1, by have := most_ge hx; omega⟩) (fun x hx => ⟨(colB_bd h hx).1, by have := most_ge hx; omega⟩)

set_option maxHeartbeats 1600000 in
set_option maxRecDepth 100000 in
theorem l8Same_any (N : Nat) (s r : ByteArray) (M : Nat) (t q : ByteArray) (R : Nat) (w : World) (hRR : R ≤ 100) (hN1 : 1 ≤ N) (hN : N ≤ 8) (hs : s.size = N) (hr : r.size = N * N) (hM1 : 1 ≤ M) (hM : M ≤ 8) (ht : t.size = M) (hq : q.size = M * M) :
    Calls Tryz.prog 31 #[.agg #[.int .i64 N, .string s, .string r], .agg #[.int .i64 M, .string t, .string q], .int .i64 R] w fun e w' => e = .returned (.bool (sameAt ⟨N, s, r⟩ ⟨M, t, q⟩ R)) ∧ Below w.heap.size w w' := by
  have AW : Hid (Below w.heap.size w ((w.alloc (.cells #[.int .i64 N, .string s, .string r] 24)).alloc (.cells #[.int .i64 M, .string t, .string q] 24))) := ((Below.refl _ _).alloc (Nat.le_refl _) _).alloc (by simp) _
  have HZ := Lib.hid (show _ ∧ _ ∧ _ ∧ _ from ⟨hs, hr, ht, hq⟩)
  clear hs hr ht hq
  have ht0 : 0 < total [⟨N, s, r⟩, ⟨M, t, q⟩] ∧ total [⟨N, s, r⟩, ⟨M, t, q⟩] = N + M := by simp [total]; omega
  obtain ⟨ca, hca⟩ : ∃ ca, ca = colA ⟨N, s, r⟩ ⟨M, t, q⟩ R := ⟨_, rfl⟩
  obtain ⟨cb, hcb⟩ : ∃ cb, cb = colB ⟨N, s, r⟩ ⟨M, t, q⟩ R := ⟨_, rfl⟩
  have HA : Hid (ca.length = N ∧ (∀ x, x ∈ ca → 0 ≤ x ∧ x < ((N + M : Nat) : Int)) ∧ most ca ≤ ((N + M : Nat) : Int)) := by
    have h1 : ∀ x, x ∈ ca → 0 ≤ x ∧ x < ((N + M : Nat) : Int) := fun x hx => by
      rw [hca] at hx
      have := colA_bd ht0.1 hx
      rw [ht0.2] at this; exact this
    exact ⟨by rw [hca, colA_len], h1, most_le (by omega) fun x hx => (h1 x hx).2⟩
  have HB : Hid (cb.length = M ∧ (∀ x, x ∈ cb → 0 ≤ x ∧ x < ((N + M : Nat) : Int)) ∧ most cb ≤ ((N + M : Nat) : Int)) := by
    have h1 : ∀ x, x ∈ cb → 0 ≤ x ∧ x < ((N + M : Nat) : Int) := fun x hx => by
      rw [hcb] at hx
      have := colB_bd ht0.1 hx
      rw [ht0.2] at this; exact this
    exact ⟨by rw [hcb, colB_len], h1, most_le (by omega) fun x hx => (h1 x hx).2⟩
  obtain ⟨m, hm⟩ : ∃ m : Nat, max (most ca) (most cb) = (m : Int) := ⟨(max (most ca) (most cb)).toNat, by have := most_nonneg ca; omega⟩
  have HS : Hid (decide (counts ca m = counts cb m) = sameAt ⟨N, s, r⟩ ⟨M, t, q⟩ R) := by
    rw [hca, hcb] at hm ⊢
    exact same_counts ht0.1 (by omega) (by omega)
  have HM : Hid (m ≤ 16 ∧ most ca ≤ m ∧ most cb ≤ m) := by have := HA.out.2.2; have := HB.out.2.2; unfold Hid; omega
  obtain ⟨ma, hma⟩ : ∃ ma, ma = most ca := ⟨_, rfl⟩
  obtain ⟨mb, hmb⟩ : ∃ mb, mb = most cb := ⟨_, rfl⟩
  have HMA := Lib.hid (show _ ∧ _ from ⟨hma, hmb⟩)
  have HMM : Hid (max ma mb = (m : Int)) := by rw [Hid, hma, hmb]; exact hm
  have HC := Lib.hid (show _ ∧ _ from ⟨hca, hcb⟩)
  clear hm hma hmb hca hcb ht0
  go_enter Tryz.func31, Tryz.ntmps31
  go_wp2_with fail
  refine (l8Both_any N s r M t q R _ hRR hN1 hN HZ.out.1 HZ.out.2.1 hM1 hM HZ.out.2.2.1 HZ.out.2.2.2).mono ?_
  rintro e w1 ⟨v1, v2, rfl, h1, h2, -, hb⟩
  rw [← HC.out.1] at h1
  rw [← HC.out.2] at h2
  have HQ := Lib.hid (show _ ∧ _ ∧ _ from ⟨h1, h2, AW.out.trans (hb.mono AW.out.size)⟩)
  clear h1 h2 hb AW
  go_wp2_with fail
  refine (l8Most_any v1 ca _ HQ.out.1 (by have := HA.out.1; omega) (fun x hx => by have := HA.out.2.1 x hx; omega)).mono ?_
  rintro e w2 ⟨rfl, rfl⟩
  rw [← HMA.out.1]
  go_wp2_with fail
  refine (l8Most_any v2 cb _ HQ.out.2.1 (by have := HB.out.1; omega) (fun x hx => by have := HB.out.2.1 x hx; omega)).mono ?_
  rintro e w2 ⟨rfl, rfl⟩
  rw [← HMA.out.2]
  go_wp2_with fail
  rw [HMM.out]
  refine (l8Counts_any v1 ca m _ HQ.out.1 (by have := HA.out.1; omega) (by have := HM.out; omega) (fun x hx => ⟨(HA.out.2.1 x hx).1, by have := most_ge hx; have := HM.out; omega⟩)).mono ?_
  rintro e w2 ⟨u1, rfl, ho, hb⟩
  have HQ2 := Lib.hid (show _ ∧ _ ∧ _ from ⟨ho, HQ.out.2.1.below hb (Nat.le_refl _), HQ.out.2.2.trans (hb.mono HQ.out.2.2.size)⟩)
  clear ho hb HQ
  go_wp2_with fail
  refine (l8Counts_any v2 cb m _ HQ2.out.2.1 (by have := HB.out.1; omega) (by have := HM.out; omega) (fun x hx => ⟨(HB.out.2.1 x hx).1, by have := most_ge hx; have := HM.out; omega⟩)).mono ?_
  rintro e w3 ⟨u2, rfl, ho, hb⟩
  have HQ3 := Lib.hid (show _ ∧ _ ∧ _ from ⟨HQ2.out.1.below hb (Nat.le_refl _), ho, HQ2.out.2.2.trans (hb.mono HQ2.out.2.2.size)⟩)
  clear ho hb HQ2
  go_wp2_with fail
  refine (l8Equal_any u1 u2 _ _ _ (OwnI.reads HQ3.out.1) (OwnI.reads HQ3.out.2.1) (by rw [counts_len]; have := HM.out; omega) (by rw [counts_len]; have := HM.out; omega)).mono ?_
  rintro e w4 ⟨rfl, hb⟩
  rw [HS.out]
  have R1 := Lib.hid (HQ3.out.2.2.trans (hb.mono HQ3.out.2.2.size))
  clear hb
  go_wp2
  go_ret
  exact ⟨rfl, R1.out⟩

/-- whether two structures have the same colours at the end -/
def sameR (n : Int) (s r : ByteArray) (m : Int) (t q : ByteArray) : Bool := validB n s r && (validB m t q && sameAt ⟨n.toNat, s, r⟩ ⟨m.toNat, t, q⟩ (n.toNat + m.toNat))
/-- the first round that tells both apart -/
def roundR (n : Int) (s r : ByteArray) (m : Int) (t q : ByteArray) : Int := if validB n s r = true ∧ validB m t q = true then roundTo ⟨n.toNat, s, r⟩ ⟨m.toNat, t, q⟩ (n.toNat + m.toNat + 1) else -2
theorem round_no {n : Int} {s r : ByteArray} {m : Int} {t q : ByteArray} (h : ¬ (validB n s r = true ∧ validB m t q = true)) : roundR n s r m t q = -2 := if_neg h
theorem round_yes {N M : Nat} {s r t q : ByteArray} (h : validB N s r = true) (h2 : validB M t q = true) : roundR N s r M t q = roundTo ⟨N, s, r⟩ ⟨M, t, q⟩ (N + M + 1) := by
  unfold roundR; rw [if_pos ⟨h, h2⟩]; rfl
theorem same_round (n : Int) (s r : ByteArray) (m : Int) (t q : ByteArray) : decide (roundR n s r m t q = -1) = sameR n s r m t q := by
  unfold roundR sameR
  cases h1 : validB n s r with
  | false => simp
  | true =>
    cases h2 : validB m t q with
    | false => simp
    | true =>
      simp only [Bool.true_and, and_self, if_true]
      cases h : sameAt ⟨n.toNat, s, r⟩ ⟨m.toNat, t, q⟩ (n.toNat + m.toNat) with
      | true => exact decide_eq_true (roundTo_none.2 h)
      | false => exact decide_eq_false fun e => by rw [roundTo_none.1 e] at h; cases h

set_option maxHeartbeats 1600000 in
set_option maxRecDepth 100000 in
theorem specSameColours_any (n : Int) (s r : ByteArray) (m : Int) (t q : ByteArray) (w : World) (hs : s.size ≤ 9223372036854775807) (hr : r.size ≤ 9223372036854775807) (ht : t.size ≤ 9223372036854775807) (hq : q.size ≤ 9223372036854775807) :
    Calls Tryz.prog 9 #[.agg #[.int .i64 n, .string s, .string r], .agg #[.int .i64 m, .string t, .string q]] w fun e w' => e = .returned (.bool (sameR n s r m t q)) ∧ Below w.heap.size w w' := by
  have BA : Hid (Box 24 ((w.alloc (.cells #[.int .i64 n, .string s, .string r] 24)).alloc (.cells #[.int .i64 m, .string t, .string q] 24)) w.heap.size n s r) := (Box.new 24 w w.heap.size rfl n s r).below ((Below.refl (w.heap.size + 1) _).alloc (by simp) _) (by omega)
  have BB : Hid (Box 24 ((w.alloc (.cells #[.int .i64 n, .string s, .string r] 24)).alloc (.cells #[.int .i64 m, .string t, .string q] 24)) (w.heap.size + 1) m t q) := Box.new 24 _ (w.heap.size + 1) (by simp) m t q
  have AW : Hid (Below w.heap.size w ((w.alloc (.cells #[.int .i64 n, .string s, .string r] 24)).alloc (.cells #[.int .i64 m, .string t, .string q] 24))) := ((Below.refl _ _).alloc (Nat.le_refl _) _).alloc (by simp) _
  have HZ := Lib.hid (show _ ∧ _ ∧ _ ∧ _ from ⟨hs, hr, ht, hq⟩)
  clear hs hr ht hq
  go_enter Tryz.func9, Tryz.ntmps9
  go_wp2_with fail
  refine (StructureValid_any n s r _ HZ.out.1 HZ.out.2.1).mono ?_
  rintro e w1 ⟨rfl, hw⟩
  have HQ := Lib.hid (show _ ∧ _ ∧ _ from ⟨BA.out.below hw BA.out.lt, BB.out.below hw BB.out.lt, AW.out.trans (hw.mono AW.out.size)⟩)
  clear hw BA BB AW
  obtain ⟨a0, a1, a2⟩ := HQ.out.1.c
  obtain ⟨b0, b1, b2⟩ := HQ.out.2.1.c
  cases hv : validB n s r with
  | false =>
    have HE : Hid (sameR n s r m t q = false) := by rw [Hid, sameR, hv, Bool.false_and]
    clear hv
    go_wp2
    go_ret
    exact ⟨by rw [HE.out]; rfl, HQ.out.2.2⟩
  | true =>
    go_wp2_with fail
    refine (StructureValid_any m t q _ HZ.out.2.2.1 HZ.out.2.2.2).mono ?_
    rintro e w2 ⟨rfl, hw⟩
    have HQ2 := Lib.hid (show _ ∧ _ ∧ _ from ⟨HQ.out.1.below hw HQ.out.1.lt, HQ.out.2.1.below hw HQ.out.2.1.lt, HQ.out.2.2.trans (hw.mono HQ.out.2.2.size)⟩)
    clear hw HQ a0 a1 a2 b0 b1 b2
    obtain ⟨a0, a1, a2⟩ := HQ2.out.1.c
    obtain ⟨b0, b1, b2⟩ := HQ2.out.2.1.c
    cases hv2 : validB m t q with
    | false =>
      have HE : Hid (sameR n s r m t q = false) := by rw [Hid, sameR, hv2, Bool.false_and, Bool.and_false]
      clear hv hv2
      go_wp2
      go_ret
      exact ⟨by rw [HE.out]; rfl, HQ2.out.2.2⟩
    | true =>
      obtain ⟨N, rfl, hN1, hN8, hsN, hrN⟩ := valid_size hv
      obtain ⟨M, rfl, hM1, hM8, hsM, hrM⟩ := valid_size hv2
      have HE : Hid (sameR N s r M t q = sameAt ⟨N, s, r⟩ ⟨M, t, q⟩ (N + M)) := by rw [Hid, sameR, hv, hv2, Bool.true_and, Bool.true_and]; rfl
      have HH := Lib.hid (show _ ∧ _ ∧ _ ∧ _ from ⟨hsN, hrN, hsM, hrM⟩)
      clear hv hv2 hsN hrN hsM hrM
      go_wp2_with fail
      refine (l8Same_any N s r M t q (N + M) _ (by omega) hN1 hN8 HH.out.1 HH.out.2.1 hM1 hM8 HH.out.2.2.1 HH.out.2.2.2).mono ?_
      rintro e w3 ⟨rfl, hw⟩
      have R := Lib.hid (HQ2.out.2.2.trans (hw.mono HQ2.out.2.2.size))
      clear hw
      go_wp2
      go_ret
      exact ⟨by rw [HE.out]; rfl, R.out⟩

end Go.Proofs.YtpcnoiigbmiejaaGreatDoor.specd
