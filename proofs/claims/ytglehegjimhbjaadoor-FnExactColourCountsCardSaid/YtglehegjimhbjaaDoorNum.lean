/- The reference's numbers by order: l8Numbers. -/
import Derived.Test.YtglehegjimhbjaaDoorLess
import Derived.Test.YtglehegjimhbjaaDoorChain
namespace Go.Proofs.YtglehegjimhbjaaDoor.numb
set_option linter.unusedVariables false
set_option linter.unusedSimpArgs false
open Go.ChangeShapes Go.WideShapes Go.ChangeAt Go.RowKit
open Go.Proofs.YtglehegjimhbjaaDoor.lib Go.Proofs.YtglehegjimhbjaaDoor.sll Go.Proofs.YtglehegjimhbjaaDoor.colp Go.Proofs.YtglehegjimhbjaaDoor.less Go.Proofs.YtglehegjimhbjaaDoor.flow

def numsTo (L : List (List Int)) (k : Nat) : List Int := ((L.take k).map fun d => ((num L d : Nat) : Int)) ++ List.replicate (L.length - k) 0
theorem numsTo_zero (L : List (List Int)) : numsTo L 0 = List.replicate L.length 0 := by simp [numsTo]
theorem numsTo_len (L : List (List Int)) {k : Nat} (hk : k ≤ L.length) : (numsTo L k).length = L.length := by simp [numsTo]; omega
theorem numsTo_set {L : List (List Int)} {k : Nat} (hk : k < L.length) : (numsTo L k).set k ((num L (L.getD k []) : Nat) : Int) = numsTo L (k + 1) := by
  have hl : ((L.take k).map fun d => ((num L d : Nat) : Int)).length = k := by simp; omega
  unfold numsTo
  rw [List.set_append_right (h := by omega), hl, Nat.sub_self, show L.length - k = (L.length - (k + 1)) + 1 by omega, List.replicate_succ, List.set_cons_zero, List.take_succ_eq_append_getElem hk, List.map_append, List.append_assoc]
  simp [List.getD_eq_getElem?_getD, List.getElem?_eq_getElem hk]
theorem numsTo_full (L : List (List Int)) : numsTo L L.length = L.map fun d => ((num L d : Nat) : Int) := by simp [numsTo]
/-- d's list of those before it, of the first k -/
def seenTo (L : List (List Int)) (d : List Int) (k : Nat) : List (List Int) := seenL d (L.take k)
theorem seenTo_zero (L : List (List Int)) (d : List Int) : seenTo L d 0 = [] := by simp [seenTo, seenL]
theorem seenTo_succ {L : List (List Int)} {d : List Int} {k : Nat} (hk : k < L.length) : seenTo L d (k + 1) = seeOne d (seenTo L d k) (L.getD k []) := by
  unfold seenTo
  rw [List.take_succ_eq_append_getElem hk, seen_snoc, List.getD_eq_getElem?_getD, List.getElem?_eq_getElem hk]; rfl
theorem seenTo_full (L : List (List Int)) (d : List Int) : (seenTo L d L.length).length = num L d := by rw [seenTo, List.take_length]; rfl
theorem seenTo_len (L : List (List Int)) (d : List Int) (k : Nat) : (seenTo L d k).length ≤ k := by
  have := len_le_of_subset (seen_nodup d (L.take k)) (B := L.take k) (fun x hx => (mem_seen.1 hx).1)
  unfold seenTo
  rw [List.length_take] at this
  omega
theorem seenTo_mem {L : List (List Int)} {d x : List Int} {k : Nat} (h : x ∈ seenTo L d k) : x ∈ L := List.mem_of_mem_take (mem_seen.1 h).1
/-- whether x is new, against the first j of s -/
def fresh (d x : List Int) (s : List (List Int)) (j : Nat) : Bool := lessL x d && (s.take j).all (fun y => !decide (y = x))
theorem fresh_zero (d x : List Int) (s : List (List Int)) : fresh d x s 0 = lessL x d := by simp [fresh]
theorem fresh_succ {d x : List Int} {s : List (List Int)} {j : Nat} (hj : j < s.length) : fresh d x s (j + 1) = (fresh d x s j && !decide (s.getD j [] = x)) := by
  unfold fresh
  rw [List.take_succ_eq_append_getElem hj, List.all_append, List.getD_eq_getElem?_getD, List.getElem?_eq_getElem hj, Bool.and_assoc]
  simp
theorem fresh_full (d x : List Int) (s : List (List Int)) : seeOne d s x = if fresh d x s s.length then s ++ [x] else s := by
  unfold fresh seeOne
  rw [List.take_length]

/-- the lists are short and not empty -/
def Short (L : List (List Int)) : Prop := L.length ≤ 100 ∧ ∀ l, l ∈ L → l ≠ [] ∧ l.length ≤ 1000
theorem Short.get {L : List (List Int)} (h : Short L) {i : Nat} (hi : i < L.length) : L.getD i [] ≠ [] ∧ (L.getD i []).length ≤ 1000 := by
  rw [List.getD_eq_getElem?_getD, List.getElem?_eq_getElem hi]; exact h.2 _ (List.getElem_mem hi)
theorem reads_own {w : World} {u : Value} {l : List Int} (h : Reads w u l) (hl : l ≠ []) : ∃ b, u.ownBlock = some b ∧ b < w.heap.size := by
  obtain ⟨ao, cap, hv, h', _⟩ := h
  rcases h' with h' | ⟨b, off, ha, hc⟩
  · exact absurd h' hl
  · have h0 : 0 < l.length := by cases l with
      | nil => exact absurd rfl hl
      | cons a t => simp
    exact ⟨b, by rw [hv, ha]; rfl, World.block_lt_of_cell? w _ (hc 0 h0)⟩

set_option maxHeartbeats 6400000 in
set_option maxRecDepth 100000 in
theorem l8Numbers_any (v : Value) (L : List (List Int)) (w : World) (h : RowsR w v L) (hS : Short L) :
    Calls Tryd.prog 49 #[v] w fun e w' => ∃ v0, e = .returned v0 ∧ OwnI 3 w' w.heap.size v0 (L.map fun d => ((num L d : Nat) : Int)) ∧ Below w.heap.size w w' := by
  obtain ⟨ao, cap, rfl⟩ := h.len
  obtain ⟨n, hn⟩ : ∃ n, n = L.length := ⟨_, rfl⟩
  rw [← hn] at h ⊢
  have hn100 : n ≤ 100 := by rw [hn]; exact hS.1
  have H := Lib.hid h
  have HN := Lib.hid hn
  have HS := Lib.hid hS
  obtain ⟨i0, hi, hz0, hz1, hz2⟩ := info_parts sll.infoInt
  clear h hn hS
  go_enter Tryd.func49, Tryd.ntmps49
  go_wp2_with (at_make; refine wpList_make_full _ rfl _ _ 25 rfl w.heap.size 3 i0 (.int .i64 0) 1 Tryd.underlying25 hi hz0 hz1 _ _ _ _ n rfl rfl (by omega) (by omega) ?b2 ?b3 (by simp) ?_)
  case b2 => rw [hz2]; omega
  case b3 => unfold maxLen; omega
  intro w1 hown0 hgrow0
  have HST : Hid (OwnI 3 w1 w.heap.size (.slice (some ⟨w.heap.size, 0, none⟩) n n) (numsTo L 0) ∧ Below w.heap.size w w1) := by
    have h1 := OwnI.made hown0
    rw [HN.out] at h1
    refine ⟨?_, below_of_grown hgrow0 (Nat.le_refl _) (fun k h => by cases h)⟩
    rw [numsTo_zero, HN.out]
    simpa using h1
  obtain ⟨go, hgo⟩ : ∃ go, go = w.heap.size := ⟨_, rfl⟩
  have HGO := Lib.hid hgo
  have hgo1 : Hid (go < w1.heap.size) := by
    have := HST.out.1.ge; rw [Hid, hgo]; exact this.2
  rw [← hgo] at HST ⊢
  clear hown0 hgrow0 hgo hz0 hz1 hz2 hi
  go_wp2_with fail
  go_loopw [4] (fun i wr => ∃ x : Nat, x ≤ n ∧ i = .int .i64 x ∧ OwnI 3 wr go (.slice (some ⟨go, 0, none⟩) n n) (numsTo L x) ∧ Below go w wr) (fun i _ => n - (intOf i).toNat)
  case atStart => exact ⟨0, Nat.zero_le _, rfl, HST.out⟩
  case round =>
    clear HST hgo1
    obtain ⟨x, hx, rfl, hown, hbl⟩ := hrel
    have HO := Lib.hid (show _ ∧ _ from ⟨hown, hbl⟩)
    have hgoz : go < wr.heap.size := hown.ge.2
    clear hown hbl
    by_cases hxn : x < n
    · obtain ⟨b, off, rfl, hc0⟩ := H.out.spot HN.out (by omega)
      have HC0 := Lib.hid hc0
      clear hc0
      obtain ⟨d, hd⟩ : ∃ d, d = L.getD x [] := ⟨_, rfl⟩
      have HD := Lib.hid hd
      have A0 : Hid (Below wr.heap.size wr (wr.alloc (.cells #[] 25))) := (Below.refl _ _).alloc (Nat.le_refl _) _
      have ST2 : Hid (OwnL (wr.alloc (.cells #[] 25)) wr.heap.size (.slice (some ⟨wr.heap.size, 0, none⟩) 0 0) (seenTo L d 0) ∧ OwnI 3 (wr.alloc (.cells #[] 25)) go (.slice (some ⟨go, 0, none⟩) n n) (numsTo L x) ∧ Below go w (wr.alloc (.cells #[] 25))) := by
        refine ⟨?_, HO.out.1.below A0.out (Nat.le_refl _), HO.out.2.trans (A0.out.mono (by omega))⟩
        rw [seenTo_zero]; exact OwnL.empty _ _ _ rfl (Nat.le_refl _)
      obtain ⟨B2, hB2⟩ : ∃ B2, B2 = wr.heap.size := ⟨_, rfl⟩
      have hgoB : go < B2 := by omega
      have HB2 := Lib.hid hB2
      rw [← hB2] at ST2
      clear hd hB2
      go_wp2_with fail
      rw [← HB2.out]
      go_loopw [5, 6] (fun v i wx => ∃ (k g cp : Nat), k ≤ n ∧ i = .int .i64 k ∧ v = .slice (some ⟨g, 0, none⟩) (seenTo L d k).length cp ∧ OwnL wx B2 v (seenTo L d k) ∧ OwnI 3 wx go (.slice (some ⟨go, 0, none⟩) n n) (numsTo L x) ∧ Below go w wx) (fun _ i _ => n - (intOf i).toNat)
      case atStart => exact ⟨0, B2, 0, Nat.zero_le _, rfl, by rw [seenTo_zero]; rfl, ST2.out⟩
      case round =>
        clear ST2 A0 HO
        obtain ⟨k, g, cp, hk, rfl, rfl, q1, q2, q3⟩ := hrel
        obtain ⟨s, hs⟩ : ∃ s, s = seenTo L d k := ⟨_, rfl⟩
        rw [← hs] at q1 ⊢
        have hsl : s.length ≤ k := by rw [hs]; exact seenTo_len L d k
        obtain ⟨m, hm⟩ : ∃ m, m = s.length := ⟨_, rfl⟩
        rw [← hm] at q1 hsl ⊢
        have HQ := Lib.hid (show _ ∧ _ ∧ _ from ⟨q1, q2, q3⟩)
        have HSS := Lib.hid (show _ ∧ _ from ⟨hs, hm⟩)
        clear q1 q2 q3 hs hm
        have hB2w : B2 ≤ wr.heap.size := by
          rcases HQ.out.1.len with ⟨h, _⟩ | ⟨_, _, _, h1, h2⟩
          · cases h
          · omega
        by_cases hkn : k < n
        · have HBW : Hid (Below w.heap.size w wr) := by have h := HQ.out.2.2; rw [HGO.out] at h; exact h
          obtain ⟨uk, hck0, hrk0⟩ := HC0.out k hkn
          obtain ⟨ux, hcx0, hrx0⟩ := HC0.out x hxn
          obtain ⟨y, hy⟩ : ∃ y, y = L.getD k [] := ⟨_, rfl⟩
          rw [← hy] at hrk0
          rw [← HD.out] at hrx0
          have HY := Lib.hid hy
          have hsy := HS.out.get (i := k) (by have := HN.out; omega)
          have hsd := HS.out.get (i := x) (by have := HN.out; omega)
          rw [← hy] at hsy
          rw [← HD.out] at hsd
          obtain ⟨bu, hbu, hbuw⟩ := reads_own hrk0 hsy.1
          have HU : Hid (uk.ownBlock = some bu ∧ bu < B2) := ⟨hbu, by have := HGO.out; omega⟩
          have HR := Lib.hid (show _ ∧ _ ∧ _ ∧ _ from ⟨hrk0, hrx0, hsy, hsd⟩)
          have hbw : b < w.heap.size := World.block_lt_of_cell? w _ hck0
          have HCK := Lib.hid (show _ ∧ _ from ⟨hck0, hcx0⟩)
          clear hy hck0 hcx0 hrk0 hrx0 hbu hbuw hsy hsd
          have hck : wr.cell? ⟨b, off + k, none⟩ = some uk := by rw [HBW.out.cell hbw]; exact HCK.out.1
          have hcx : wr.cell? ⟨b, off + x, none⟩ = some ux := by rw [HBW.out.cell hbw]; exact HCK.out.2
          have q0 : ∀ X : Wd (fun W => Hid (Below wr.heap.size wr W)), X.w.cell? ⟨b, off + k, none⟩ = some uk := fun X => by rw [X.ok.out.cell (World.block_lt_of_cell? wr _ hck)]; exact hck
          have q1 : ∀ X : Wd (fun W => Hid (Below wr.heap.size wr W)), X.w.cell? ⟨b, off + x, none⟩ = some ux := fun X => by rw [X.ok.out.cell (World.block_lt_of_cell? wr _ hcx)]; exact hcx
          have hne : Nonempty (Wd (fun W => Hid (Below wr.heap.size wr W))) := ⟨⟨wr, Lib.hid (Below.refl _ _)⟩⟩
          have CL : Hid (∀ X : Wd (fun W => Hid (Below wr.heap.size wr W)), Calls Tryd.prog 55 #[uk, ux] X.w fun e w' => e = .returned (.bool (lessL y d)) ∧ Below X.w.heap.size X.w w') := fun X =>
            l8Less_any uk ux y d _ (HR.out.1.below (HBW.out.trans (X.ok.out.mono HBW.out.size)) (Nat.le_refl _)) (HR.out.2.1.below (HBW.out.trans (X.ok.out.mono HBW.out.size)) (Nat.le_refl _)) (by have := HR.out.2.2.1.2; omega) (by have := HR.out.2.2.2.2; omega)
          clear hck hcx
          go_wp2_with fail
          refine flow_last (S := (fun W => Hid (Below wr.heap.size wr W))) (by kernel_rfl) (by kernel_rfl) (by kernel_rfl) (by kernel_rfl) (by kernel_rfl) (Lib.hid (Below.refl _ _).drew) ?_
          simp only [List.dropLast_cons_cons, List.dropLast_singleton, List.getLast?_cons_cons, List.getLast?_singleton, Option.toList_some]
          repeat (go_big_quiet_step (first | ((with_reducible refine (CL.out _).mono ?_); rintro e W ⟨rfl, hb⟩; exact ⟨rfl, Wd.on (Wd.ok _) hb⟩)))
          refine wpQuiet_nil ?_
          rintro _ ⟨X, rfl⟩
          have HQX := Lib.hid (show _ ∧ _ ∧ _ from ⟨HQ.out.1.below X.ok.out (Nat.le_refl _), HQ.out.2.1.below X.ok.out (Nat.le_refl _), HQ.out.2.2.trans (X.ok.out.mono (by omega))⟩)
          clear q0 q1 hne CL HQ HBW
          go_wp2_with fail
          go_loopw [7, 8] (fun fr i wr => ∃ j : Nat, j ≤ m ∧ i = .int .i64 j ∧ fr = .bool (fresh d y s j) ∧ OwnL wr B2 (.slice (some ⟨g, 0, none⟩) m cp) s ∧ OwnI 3 wr go (.slice (some ⟨go, 0, none⟩) n n) (numsTo L x) ∧ Below go w wr) (fun _ i _ => m - (intOf i).toNat)
          case atStart => exact ⟨0, Nat.zero_le _, rfl, by rw [fresh_zero], HQX.out⟩
          case round =>
            clear HQX
            obtain ⟨j, hj, rfl, rfl, q1, q2, q3⟩ := hrel
            have HQ := Lib.hid (show _ ∧ _ ∧ _ from ⟨q1, q2, q3⟩)
            clear q1 q2 q3
            have hB2w : B2 ≤ wr.heap.size := by
              rcases HQ.out.1.len with ⟨h, _⟩ | ⟨_, _, _, h1, h2⟩
              · cases h
              · omega
            have HBW : Hid (Below w.heap.size w wr) := by have h := HQ.out.2.2; rw [HGO.out] at h; exact h
            by_cases hjm : j < m
            · have hjs : j < s.length := by rw [← HSS.out.2]; exact hjm
              have hmem : s.getD j [] ∈ L := by
                rw [List.getD_eq_getElem?_getD, List.getElem?_eq_getElem hjs]
                exact seenTo_mem (k := k) (d := d) (by rw [← HSS.out.1]; exact List.getElem_mem hjs)
              have hsz := HS.out.2 _ hmem
              obtain ⟨z, hz⟩ : ∃ z, z = s.getD j [] := ⟨_, rfl⟩
              rw [← hz] at hsz
              have HFR := Lib.hid (fresh_succ (d := d) (x := y) hjs)
              rw [← hz] at HFR
              obtain ⟨b', off', he, hc⟩ := HQ.out.1.rows.spot HSS.out.2 (by omega)
              simp only [Option.some.injEq, Addr.mk.injEq] at he
              obtain ⟨rfl, rfl, -⟩ := he
              obtain ⟨uj, hcj, hrj⟩ := hc j hjm
              rw [← hz] at hrj
              have hck : wr.cell? ⟨b, off + k, none⟩ = some uk := by rw [HBW.out.cell hbw]; exact HCK.out.1
              have hrk := HR.out.1.below HBW.out (Nat.le_refl _)
              have HRJ := Lib.hid (show _ ∧ _ ∧ _ from ⟨hrj, hrk, hsz⟩)
              rw [Nat.zero_add] at hcj
              clear hmem hjs hz hrj hrk hsz hc
              cases hfr : fresh d y s j with
              | true =>
                have q0 : ∀ X : Wd (fun W => Hid (Below wr.heap.size wr W)), X.w.cell? ⟨b, off + k, none⟩ = some uk := fun X => by rw [X.ok.out.cell (World.block_lt_of_cell? wr _ hck)]; exact hck
                have q1 : ∀ X : Wd (fun W => Hid (Below wr.heap.size wr W)), X.w.cell? ⟨g, j, none⟩ = some uj := fun X => by rw [X.ok.out.cell (World.block_lt_of_cell? wr _ hcj)]; exact hcj
                have hne : Nonempty (Wd (fun W => Hid (Below wr.heap.size wr W))) := ⟨⟨wr, Lib.hid (Below.refl _ _)⟩⟩
                have CL : Hid (∀ X : Wd (fun W => Hid (Below wr.heap.size wr W)), Calls Tryd.prog 44 #[uj, uk] X.w fun e w' => e = .returned (.bool (decide (z = y))) ∧ Below X.w.heap.size X.w w') := fun X =>
                  l8Equal_any uj uk z y _ (HRJ.out.1.below X.ok.out (Nat.le_refl _)) (HRJ.out.2.1.below X.ok.out (Nat.le_refl _)) (by have := HRJ.out.2.2.2; omega) (by have := HR.out.2.2.1.2; omega)
                obtain ⟨bz, hbz⟩ : ∃ bz, bz = decide (z = y) := ⟨_, rfl⟩
                rw [← hbz] at CL
                have HF2 : Hid (fresh d y s (j + 1) = !bz) := by rw [Hid, HFR.out, hfr, Bool.true_and, hbz]
                clear hck hcj hbz hfr
                go_wp2_with fail
                refine flow_last (S := (fun W => Hid (Below wr.heap.size wr W))) (by kernel_rfl) (by kernel_rfl) (by kernel_rfl) (by kernel_rfl) (by kernel_rfl) (Lib.hid (Below.refl _ _).drew) ?_
                simp only [List.dropLast_cons_cons, List.dropLast_singleton, List.getLast?_cons_cons, List.getLast?_singleton, Option.toList_some]
                repeat (go_big_quiet_step (first | ((with_reducible refine (CL.out _).mono ?_); rintro e W ⟨rfl, hb⟩; exact ⟨rfl, Wd.on (Wd.ok _) hb⟩)))
                refine wpQuiet_nil ?_
                rintro _ ⟨X, rfl⟩
                have HQX := Lib.hid (show _ ∧ _ ∧ _ from ⟨HQ.out.1.below X.ok.out (Nat.le_refl _), HQ.out.2.1.below X.ok.out (Nat.le_refl _), HQ.out.2.2.trans (X.ok.out.mono (by omega))⟩)
                clear q0 q1 hne CL
                go_wp2
                go_roundw
                case rel => exact ⟨j + 1, by omega, by go_num, by rw [HF2.out], HQX.out⟩
                case measure => simp [intOf]; omega
              | false =>
                have HF2 : Hid (fresh d y s (j + 1) = false) := by rw [Hid, HFR.out, hfr, Bool.false_and]
                have hne : Nonempty (Wd (fun W => Hid (Below wr.heap.size wr W))) := ⟨⟨wr, Lib.hid (Below.refl _ _)⟩⟩
                clear hck hcj hfr
                go_wp2_with fail
                refine flow_last (S := (fun W => Hid (Below wr.heap.size wr W))) (by kernel_rfl) (by kernel_rfl) (by kernel_rfl) (by kernel_rfl) (by kernel_rfl) (Lib.hid (Below.refl _ _).drew) ?_
                simp only [List.dropLast_cons_cons, List.dropLast_singleton, List.getLast?_cons_cons, List.getLast?_singleton, Option.toList_some]
                repeat (go_big_quiet_step (fail))
                refine wpQuiet_nil ?_
                rintro _ ⟨X, rfl⟩
                have HQX := Lib.hid (show _ ∧ _ ∧ _ from ⟨HQ.out.1.below X.ok.out (Nat.le_refl _), HQ.out.2.1.below X.ok.out (Nat.le_refl _), HQ.out.2.2.trans (X.ok.out.mono (by omega))⟩)
                clear hne
                go_wp2
                go_roundw
                case rel => exact ⟨j + 1, by omega, by go_num, by rw [HF2.out], HQX.out⟩
                case measure => simp [intOf]; omega
            · obtain rfl : m = j := by omega
              have hfull := fresh_full d y s
              rw [← HSS.out.2] at hfull
              have hnext : seenTo L d (k + 1) = seeOne d s y := by rw [HY.out, HSS.out.1]; exact seenTo_succ (by have := HN.out; omega)
              have HNX := Lib.hid (hnext.trans hfull)
              have HK1 : Hid (k + 1 ≤ n) := hkn
              clear hfull hnext
              cases hfr : fresh d y s m with
              | true =>
                rw [hfr, if_pos rfl] at HNX
                have hck : wr.cell? ⟨b, off + k, none⟩ = some uk := by rw [HBW.out.cell hbw]; exact HCK.out.1
                obtain ⟨us, hul, hrow, hus⟩ := HQ.out.1.row
                have hum : us.length = m := by rw [hul]; exact HSS.out.2.symm
                rw [hum] at hrow
                have HUS := Lib.hid (show _ ∧ _ ∧ _ ∧ _ from ⟨hul, hus, hum, hrow⟩)
                obtain ⟨ua, uc, rfl⟩ := HR.out.1.len
                clear hul hus hum hrow hfr
                go_wp2_with (at_builtin; refine wpList_app1 wr rfl (.tmp 54) (.tmp 59) 51 rfl B2 25 (.slice none 0 0) 24 Tryd.underlying51 infoSl rfl (by decide) _ _ _ (.slice ua y.length uc) rfl HUS.out.2.2.2 wr.heap.size rfl rfl rfl (by omega) hB2w ?_)
                intro g' cap' w9 hown9 hgr
                have HB9 : Hid (Below B2 wr w9) := hgr.below HUS.out.2.2.2 hB2w
                have R1 : Hid (OwnL w9 B2 (.slice (some ⟨g', 0, none⟩) (m + 1) cap') (seenTo L d (k + 1))) := by
                  obtain ⟨h1, h2, h3, h4⟩ := HUS.out
                  subst h3
                  rw [HNX.out]
                  exact own_push h1 h2 (HR.out.1.below HBW.out (Nat.le_refl _)) HR.out.2.2.1.1 (fun q hq e => by
                    have h5 := HU.out
                    rw [h5.1] at e
                    simp [Value.ownBlock] at hq
                    have h6 := h4.lt g rfl
                    simp only [Option.some.injEq] at e
                    omega) hown9 hgr
                have R2 : Hid (OwnI 3 w9 go (.slice (some ⟨go, 0, none⟩) n n) (numsTo L x) ∧ Below go w w9) := by
                  refine ⟨World.ownsRow.kept HQ.out.2.1 hgr.grown (.inr ?_), HQ.out.2.2.trans (HB9.out.mono (by omega))⟩
                  have h3 := HUS.out.2.2.2.lt g rfl
                  simp [Value.ownBlock]; omega
                have HLN : Hid ((seenTo L d (k + 1)).length = m + 1) := by rw [Hid, HNX.out, List.length_append, ← HSS.out.2]; rfl
                clear hown9 hgr hck
                go_wp2
                go_roundw
                case rel => exact ⟨k + 1, g', cap', HK1.out, by go_num, by rw [HLN.out], R1.out, R2.out⟩
                case measure => simp [intOf]; omega
              | false =>
                rw [hfr, if_neg (by simp)] at HNX
                have HLN : Hid ((seenTo L d (k + 1)).length = m) := by rw [Hid, HNX.out]; exact HSS.out.2.symm
                have R1 : Hid (OwnL wr B2 (.slice (some ⟨g, 0, none⟩) m cp) (seenTo L d (k + 1))) := by rw [HNX.out]; exact HQ.out.1
                clear hfr
                go_wp2
                go_roundw
                case rel => exact ⟨k + 1, g, cp, HK1.out, by go_num, by rw [HLN.out], R1.out, HQ.out.2⟩
                case measure => simp [intOf]; omega
        · obtain rfl : n = k := by omega
          have hml : m = num L d := by
            have h := HSS.out
            rw [h.2, h.1, HN.out]
            exact seenTo_full L d
          have hfz : wr.frozen? ⟨go, x, none⟩ = false := HQ.out.2.1.free x
          have hce := HQ.out.2.1.cell x (by rw [numsTo_len L (by have := HN.out; omega)]; have := HN.out; omega)
          have R : Hid (OwnI 3 (wr.setCell ⟨go, x, none⟩ (.int .i64 m)) go (.slice (some ⟨go, 0, none⟩) n n) (numsTo L (x + 1)) ∧ Below go w (wr.setCell ⟨go, x, none⟩ (.int .i64 m))) := by
            refine ⟨?_, HQ.out.2.2.setCell (Nat.le_refl _) _⟩
            rw [← numsTo_set (by have := HN.out; omega), ← HD.out, ← hml]
            exact HQ.out.2.1.set x m
          clear hml
          go_wp2
          go_roundw
          case rel => exact ⟨x + 1, by omega, by go_num, R.out⟩
          case measure => simp [intOf]; omega
    · obtain rfl : n = x := by omega
      have HF : Hid (numsTo L n = L.map fun d => ((num L d : Nat) : Int)) := by rw [Hid, HN.out]; exact numsTo_full L
      go_wp2
      go_ret
      exact ⟨_, rfl, by rw [← HF.out, ← HGO.out]; exact HO.out.1, by rw [← HGO.out]; exact HO.out.2⟩
end Go.Proofs.YtglehegjimhbjaaDoor.numb
