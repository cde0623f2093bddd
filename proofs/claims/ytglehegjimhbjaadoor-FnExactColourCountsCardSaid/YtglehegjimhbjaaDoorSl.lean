/- The helpers of the exact laws over slices of integers: eqIntS, markIntS, heldIntS: their contracts. -/
import Derived.Test.YtglehegjimhbjaaDoorRows
import Derived.Test.YtglehegjimhbjaaDoorLib
import Derived.RegionTactic
import Derived.ChangeAlike
namespace Go.Proofs.YtglehegjimhbjaaDoor.sl
set_option linter.unusedVariables false
set_option linter.unusedSimpArgs false
open Go.ChangeShapes Go.WideShapes Go.ChangeAt Go.RowKit
open Go.Proofs.YtglehegjimhbjaaDoor.lib

theorem infoInt : (Tryd.prog.info? 3).map (fun i => (i.zero, i.size, i.bytes)) = some (some (.int .i64 0), 1, 8) := by kernel_rfl

theorem eqIntS_core (ao bo : Option Addr) (ca cb : Nat) (l m : List Int) (w : World) (hl : l = [] ∨ ∃ b off, ao = some ⟨b, off, none⟩ ∧ ∀ i, i < l.length → w.cell? ⟨b, off + i, none⟩ = some (.int .i64 (l.getD i 0)))
    (hm : m = [] ∨ ∃ b off, bo = some ⟨b, off, none⟩ ∧ ∀ i, i < m.length → w.cell? ⟨b, off + i, none⟩ = some (.int .i64 (m.getD i 0))) (hn : l.length ≤ 17592186044416) :
    Calls Tryd.prog 13 #[.slice ao l.length ca, .slice bo m.length cb] w fun e w' => e = .returned (.bool (decide (l = m))) ∧ ∃ n, w' = w.drewN n := by
  obtain ⟨n, hnl⟩ : ∃ n, n = l.length := ⟨_, rfl⟩
  obtain ⟨p, hpm⟩ : ∃ p, p = m.length := ⟨_, rfl⟩
  rw [← hnl] at hn ⊢
  rw [← hpm]
  by_cases hne : n = p
  · subst hne
    have HN : Hid (n = l.length ∧ n = m.length) := ⟨hnl, hpm⟩
    have HL := Lib.hid hl
    have HM := Lib.hid hm
    clear hl hm hnl hpm
    go_enter Tryd.func13, Tryd.ntmps13
    go_wp2
    go_loopw [5] (fun i wr => ∃ k : Nat, k ≤ n ∧ i = .int .i64 k ∧ l.take k = m.take k ∧ ∃ j, wr = w.drewN j) (fun i _ => n - (intOf i).toNat)
    case atStart => exact ⟨0, Nat.zero_le _, rfl, rfl, 0, rfl⟩
    case round =>
      obtain ⟨k, hk, rfl, he, j, rfl⟩ := hrel
      by_cases hlt : k < n
      · have hl' : ∃ b off, ao = some ⟨b, off, none⟩ ∧ ∀ i, i < l.length → w.cell? ⟨b, off + i, none⟩ = some (.int .i64 (l.getD i 0)) := by
          rcases HL.out with h | h
          · have := HN.out.1; rw [h] at this; simp at this; omega
          · exact h
        have hm' : ∃ b off, bo = some ⟨b, off, none⟩ ∧ ∀ i, i < m.length → w.cell? ⟨b, off + i, none⟩ = some (.int .i64 (m.getD i 0)) := by
          rcases HM.out with h | h
          · have := HN.out.2; rw [h] at this; simp at this; omega
          · exact h
        obtain ⟨b, off, rfl, hc⟩ := hl'
        obtain ⟨b', off', rfl, hc'⟩ := hm'
        have c1 := hc k (by have := HN.out; omega)
        have c2 := hc' k (by have := HN.out; omega)
        obtain ⟨x, hx⟩ : ∃ x, x = l.getD k 0 := ⟨_, rfl⟩
        obtain ⟨y, hy⟩ : ∃ y, y = m.getD k 0 := ⟨_, rfl⟩
        rw [← hx] at c1
        rw [← hy] at c2
        have HX : Hid (x = l.getD k 0 ∧ y = m.getD k 0) := ⟨hx, hy⟩
        have HE := Lib.hid he
        clear hc hc' hx hy he HL HM
        by_cases hxy : x = y
        · subst hxy
          have hb : (x != x) = false := by simp
          go_wp2
          go_region
          go_wp2
          go_roundw
          case rel => exact ⟨k + 1, by omega, by go_num, take_step l m k (by have := HN.out; omega) (by have := HN.out; omega) HE.out (by rw [← HX.out.1, ← HX.out.2]), j + 1, rfl⟩
          case measure => simp [intOf]; omega
        · have hb : (x != y) = true := by simpa using hxy
          have hf : decide (l = m) = false := by
            have := ne_of_getD l m k (by rw [← HX.out.1, ← HX.out.2]; exact hxy)
            simpa using this
          have HF := Lib.hid hf
          have hxy' := Lib.hid hxy
          clear hf hxy
          go_wp2
          go_region
          go_wp2
          go_ret
          exact ⟨by rw [HF.out]; rfl, j + 1, rfl⟩
      · obtain rfl : k = n := by omega
        have hf : decide (l = m) = true := by
          have h := HN.out
          rw [h.1] at he
          simpa using eq_of_take l m (by omega) he
        have HF := Lib.hid hf
        clear hf he
        go_wp2
        go_ret
        exact ⟨by rw [HF.out]; rfl, j, rfl⟩
  · have hf : decide (l = m) = false := by
      have : ¬ l = m := fun h => hne (by rw [hnl, hpm, h])
      simpa using this
    have HF := Lib.hid hf
    have hb : ((n : Int) != (p : Int)) = true := by simp; omega
    clear hl hm hnl hpm hf
    go_enter Tryd.func13, Tryd.ntmps13
    go_wp2
    go_ret
    exact ⟨by rw [HF.out]; rfl, 0, rfl⟩

theorem eqIntS_any (v v2 : Value) (l m : List Int) (w : World) (h : Reads w v l) (h2 : Reads w v2 m) (hn : l.length ≤ 17592186044416) :
    Calls Tryd.prog 13 #[v, v2] w fun e w' => e = .returned (.bool (decide (l = m))) ∧ ∃ n, w' = w.drewN n := by
  obtain ⟨ao, ca, rfl, hr, _⟩ := h
  obtain ⟨bo, cb, rfl, hs, _⟩ := h2
  exact eqIntS_core ao bo ca cb l m w hr hs hn

theorem markIntS_core (g cap B : Nat) (l : List Int) (k : Int) (w : World) (h : OwnI 3 w B (.slice (some ⟨g, 0, none⟩) l.length cap) l) (hk : 0 ≤ k) (hn : l.length ≤ 17592186044416) (hk2 : k ≤ 17592186044416) :
    Calls Tryd.prog 14 #[.slice (some ⟨g, 0, none⟩) l.length cap, .int .i64 k] w fun e w' => e = .returned (.int .i64 (k + l.length)) ∧ OwnI 3 w' B (.slice (some ⟨g, 0, none⟩) l.length cap) (marks k l.length) ∧ w.grownBy w' (some g) := by
  obtain ⟨n, hnl⟩ : ∃ n, n = l.length := ⟨_, rfl⟩
  rw [← hnl] at hn h ⊢
  have HN : Hid (n = l.length) := hnl
  have H := Lib.hid h
  clear hnl h
  go_enter Tryd.func14, Tryd.ntmps14
  go_wp2
  go_loopw [1, 5] (fun kk i wr => ∃ j : Nat, j ≤ n ∧ i = .int .i64 j ∧ kk = .int .i64 (k + j) ∧ OwnI 3 wr B (.slice (some ⟨g, 0, none⟩) n cap) (marks k j ++ l.drop j) ∧ w.grownBy wr (some g)) (fun _ i _ => n - (intOf i).toNat)
  case atStart => exact ⟨0, Nat.zero_le _, rfl, by simp, by simpa [marks] using H.out, World.grownBy.refl _ _⟩
  case round =>
    obtain ⟨j, hj, rfl, rfl, hown, hg⟩ := hrel
    by_cases hlt : j < n
    · have hfz : wr.frozen? ⟨g, j, none⟩ = false := hown.free j
      have hc := hown.cell j (by have := HN.out; simp [marks_length]; omega)
      have hstep := marks_step l k j (by have := HN.out; omega)
      have HRR := Lib.hid (show _ ∧ _ from ⟨hstep ▸ hown.set j (k + j), grown_trans hg (hown.setGrown j (k + j))⟩)
      clear hown hg hstep H
      go_wp2
      go_roundw
      case rel => exact ⟨j + 1, by omega, by go_num, by go_num, by simpa using HRR.out.1, by simpa using HRR.out.2⟩
      case measure => simp [intOf]; omega
    · obtain rfl : j = n := by omega
      have HO := Lib.hid hown
      have HG := Lib.hid hg
      clear hown hg H
      go_wp2
      go_ret
      exact ⟨rfl, by have h := HO.out; have e := HN.out; subst e; simpa using h, HG.out⟩

theorem markIntS_any (v : Value) (B : Nat) (l : List Int) (k : Int) (w : World) (h : OwnI 3 w B v l) (hk : 0 ≤ k) (hn : l.length ≤ 17592186044416) (hk2 : k ≤ 17592186044416) :
    Calls Tryd.prog 14 #[v, .int .i64 k] w fun e w' => e = .returned (.int .i64 (k + l.length)) ∧ OwnI 3 w' B v (marks k l.length) ∧ w.grownBy w' v.ownBlock := by
  rcases h.shape with ⟨rfl, rfl⟩ | ⟨g, cap, rfl⟩
  · have H := Lib.hid h
    clear h
    go_enter Tryd.func14, Tryd.ntmps14
    go_wp2
    refine wp_loop_rounds 1 ?_
    rw [rounds_succ]
    go_wp2
    go_ret
    exact ⟨by simp, by simpa [marks] using H.out, World.grownBy.refl _ _⟩
  · exact markIntS_core g cap B l k w h hk hn hk2

theorem heldIntS_core (ao : Option Addr) (ca : Nat) (l : List Int) (k : Int) (w : World) (hl : l = [] ∨ ∃ b off, ao = some ⟨b, off, none⟩ ∧ ∀ i, i < l.length → w.cell? ⟨b, off + i, none⟩ = some (.int .i64 (l.getD i 0))) (hk : 0 ≤ k) (hn : l.length ≤ 17592186044416) (hk2 : k ≤ 17592186044416) :
    Calls Tryd.prog 15 #[.slice ao l.length ca, .int .i64 k] w fun e w' => e = .returned (.int .i64 (held l k)) ∧ w = w' := by
  obtain ⟨n, hnl⟩ : ∃ n, n = l.length := ⟨_, rfl⟩
  rw [← hnl] at hn ⊢
  have HN : Hid (n = l.length) := hnl
  have HL := Lib.hid hl
  clear hl hnl
  go_enter Tryd.func15, Tryd.ntmps15
  go_wp2
  go_loop [1, 5] (fun kk i => ∃ j : Nat, j ≤ n ∧ i = .int .i64 j ∧ kk = .int .i64 (k + j) ∧ l.take j = marks k j) (fun _ i => n - (intOf i).toNat)
  case atStart => exact ⟨0, Nat.zero_le _, rfl, by simp, by simp [marks]⟩
  case round =>
    obtain ⟨j, hj, rfl, rfl, he⟩ := hrel
    by_cases hlt : j < n
    · have hl' : ∃ b off, ao = some ⟨b, off, none⟩ ∧ ∀ i, i < l.length → w.cell? ⟨b, off + i, none⟩ = some (.int .i64 (l.getD i 0)) := by
        rcases HL.out with h | h
        · have := HN.out; rw [h] at this; simp at this; omega
        · exact h
      obtain ⟨b, off, rfl, hc⟩ := hl'
      have c1 := hc j (by have := HN.out; omega)
      obtain ⟨x, hx⟩ : ∃ x, x = l.getD j 0 := ⟨_, rfl⟩
      rw [← hx] at c1
      have HX : Hid (x = l.getD j 0) := hx
      have HE := Lib.hid he
      clear hc hx he HL
      by_cases hxy : x = k + j
      · have hb : (x != k + (j : Int)) = false := by simpa using hxy
        have hs : l.take (j + 1) = marks k (j + 1) := by
          have hjl : j < l.length := by have := HN.out; omega
          rw [List.take_succ_eq_append_getElem hjl, HE.out]
          have : l[j] = k + j := by rw [← hxy, HX.out]; simp [List.getD_eq_getElem?_getD, List.getElem?_eq_getElem hjl]
          rw [this]; simp [marks, List.range_succ]
        have HS := Lib.hid hs
        clear hs hxy
        go_wp2
        go_round
        case rel => exact ⟨j + 1, by omega, by go_num, by go_num, HS.out⟩
        case measure => simp [intOf]; omega
      · have hb : (x != k + (j : Int)) = true := by simpa using hxy
        have hf : held l k = -1 := by
          have hjl : j < l.length := by have := HN.out; omega
          unfold held
          rw [if_neg]
          intro h
          apply hxy
          rw [HX.out, h, marks_get k _ j hjl]
        have HF := Lib.hid hf
        clear hf hxy
        go_wp2
        go_ret
        exact ⟨by rw [HF.out]; rfl, rfl⟩
    · obtain rfl : j = n := by omega
      have hf : held l k = k + j := by
        have h := HN.out
        unfold held
        rw [← h, if_pos]
        rw [← he, h, List.take_length]
      have HF := Lib.hid hf
      clear hf he
      go_wp2
      go_ret
      exact ⟨by rw [HF.out]; rfl, rfl⟩

theorem heldIntS_any (v : Value) (l : List Int) (k : Int) (w : World) (h : Reads w v l) (hk : 0 ≤ k) (hn : l.length ≤ 17592186044416) (hk2 : k ≤ 17592186044416) :
    Calls Tryd.prog 15 #[v, .int .i64 k] w fun e w' => e = .returned (.int .i64 (held l k)) ∧ w = w' := by
  obtain ⟨ao, ca, rfl, hr, _⟩ := h
  exact heldIntS_core ao ca l k w hr hk hn hk2

theorem below_drewN' {w w' : World} (h : ∃ n, w' = w.drewN n) : Below w.heap.size w w' := by
  obtain ⟨n, rfl⟩ := h
  exact below_drewN (Below.refl _ _) n
theorem eqIntS_same (v v2 : Value) (l : List Int) (w : World) (h : Reads w v l) (h2 : Reads w v2 l) (hn : l.length ≤ 17592186044416) :
    Calls Tryd.prog 13 #[v, v2] w fun e w' => e = .returned (.bool true) ∧ Below w.heap.size w w' :=
  (eqIntS_any v v2 l l w h h2 hn).mono fun e w' ⟨he, hw⟩ => ⟨by rw [he]; simp, below_drewN' hw⟩
theorem markIntS_at (v : Value) (B : Nat) (l : List Int) (k M : Int) (w : World) (h : OwnI 3 w B v l) (hk : 0 ≤ k) (hn : l.length ≤ 17592186044416) (hk2 : k ≤ 17592186044416) (hM : M = k + l.length) :
    Calls Tryd.prog 14 #[v, .int .i64 k] w fun e w' => e = .returned (.int .i64 M) ∧ OwnI 3 w' B v (marks k l.length) ∧ w.grownBy w' v.ownBlock := by
  rw [hM]; exact markIntS_any v B l k w h hk hn hk2
theorem heldIntS_at (v : Value) (n : Nat) (k M : Int) (w : World) (h : Reads w v (marks k n)) (hk : 0 ≤ k) (hn : n ≤ 17592186044416) (hk2 : k ≤ 17592186044416) (hM : M = k + n) :
    Calls Tryd.prog 15 #[v, .int .i64 k] w fun e w' => e = .returned (.int .i64 M) ∧ Below w.heap.size w w' := by
  rw [hM, ← held_marks k n]
  exact (heldIntS_any v (marks k n) k w h hk (by rw [marks_length]; exact hn) hk2).mono fun e w' ⟨he, hw⟩ => ⟨he, hw ▸ Below.refl _ _⟩
end Go.Proofs.YtglehegjimhbjaaDoor.sl
