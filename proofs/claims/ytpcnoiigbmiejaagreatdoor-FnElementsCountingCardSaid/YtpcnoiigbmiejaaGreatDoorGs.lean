/- The laws' own helpers over lists of integers: gsSame, gsHas. -/
import Derived.Test.YtpcnoiigbmiejaaGreatDoorRows
import Derived.Test.YtpcnoiigbmiejaaGreatDoorLib
import Derived.RegionTactic
import Derived.ChangeAlike
namespace Go.Proofs.YtpcnoiigbmiejaaGreatDoor.gs
set_option linter.unusedVariables false
set_option linter.unusedSimpArgs false
open Go.ChangeShapes Go.WideShapes Go.ChangeAt Go.RowKit
open Go.Proofs.YtpcnoiigbmiejaaGreatDoor.lib

theorem gsSame_core (ao bo : Option Addr) (ca cb : Nat) (l m : List Int) (w : World) (hl : l = [] ∨ ∃ b off, ao = some ⟨b, off, none⟩ ∧ ∀ i, i < l.length → w.cell? ⟨b, off + i, none⟩ = some (.int .i64 (l.getD i 0)))
    (hm : m = [] ∨ ∃ b off, bo = some ⟨b, off, none⟩ ∧ ∀ i, i < m.length → w.cell? ⟨b, off + i, none⟩ = some (.int .i64 (m.getD i 0))) (hn : l.length ≤ 17592186044416) :
    Calls Tryz.prog 25 #[.slice ao l.length ca, .slice bo m.length cb] w fun e w' => e = .returned (.bool (decide (l = m))) ∧ ∃ n, w' = w.drewN n := by
  obtain ⟨n, hnl⟩ : ∃ n, n = l.length := ⟨_, rfl⟩
  obtain ⟨p, hpm⟩ : ∃ p, p = m.length := ⟨_, rfl⟩
  rw [← hnl] at hn ⊢
  rw [← hpm]
  by_cases hne : n = p
  · subst hne
    have HN : Hid (n = l.length ∧ n = m.length) := ⟨hnl, hpm⟩
    have HL := Lib.hid hl
    have HM := Lib.hid hm
    clear hl hm hnl hpm
    go_enter Tryz.func25, Tryz.ntmps25
    go_wp2
    go_loopw [5] (fun i wr => ∃ k : Nat, k ≤ n ∧ i = .int .i64 k ∧ l.take k = m.take k ∧ ∃ j, wr = w.drewN j) (fun i _ => n - (intOf i).toNat)
    case atStart => exact ⟨0, Nat.zero_le _, rfl, rfl, 0, rfl⟩
    case round =>
      obtain ⟨k, hk, rfl, he, j, rfl⟩ := hrel
      by_cases hlt : k < n
      · have hl' : ∃ b off, ao = some ⟨b, off, none⟩ ∧ ∀ i, i < l.length → w.cell? ⟨b, off + i, none⟩ = some (.int .i64 (l.getD i 0)) := by
          rcases HL.out with h | h
          · have := HN.out.1; rw [h] at this; simp at this; omega
          · exact h
        have hm' : ∃ b off, bo = some ⟨b, off, none⟩ ∧ ∀ i, i < m.length → w.cell? ⟨b, off + i, none⟩ = some (.int .i64 (m.getD i 0)) := by
          rcases HM.out with h | h
          · have := HN.out.2; rw [h] at this; simp at this; omega
          · exact h
        obtain ⟨b, off, rfl, hc⟩ := hl'
        obtain ⟨b', off', rfl, hc'⟩ := hm'
        have c1 := hc k (by have := HN.out; omega)
        have c2 := hc' k (by have := HN.out; omega)
        obtain ⟨x, hx⟩ : ∃ x, x = l.getD k 0 := ⟨_, rfl⟩
        obtain ⟨y, hy⟩ : ∃ y, y = m.getD k 0 := ⟨_, rfl⟩
        rw [← hx] at c1
        rw [← hy] at c2
        have HX : Hid (x = l.getD k 0 ∧ y = m.getD k 0) := ⟨hx, hy⟩
        have HE := Lib.hid he
        clear hc hc' hx hy he HL HM
        by_cases hxy : x = y
        · subst hxy
          have hb : (x != x) = false := by simp
          go_wp2
          go_region
          go_wp2
          go_roundw
          case rel => exact ⟨k + 1, by omega, by go_num, take_step l m k (by have := HN.out; omega) (by have := HN.out; omega) HE.out (by rw [← HX.out.1, ← HX.out.2]), j + 1, rfl⟩
          case measure => simp [intOf]; omega
        · have hb : (x != y) = true := by simpa using hxy
          have hf : decide (l = m) = false := by
            have := ne_of_getD l m k (by rw [← HX.out.1, ← HX.out.2]; exact hxy)
            simpa using this
          have HF := Lib.hid hf
          have hxy' := Lib.hid hxy
          clear hf hxy
          go_wp2
          go_region
          go_wp2
          go_ret
          exact ⟨by rw [HF.out]; rfl, j + 1, rfl⟩
      · obtain rfl : k = n := by omega
        have hf : decide (l = m) = true := by
          have h := HN.out
          rw [h.1] at he
          simpa using eq_of_take l m (by omega) he
        have HF := Lib.hid hf
        clear hf he
        go_wp2
        go_ret
        exact ⟨by rw [HF.out]; rfl, j, rfl⟩
  · have hf : decide (l = m) = false := by
      have : ¬ l = m := fun h => hne (by rw [hnl, hpm, h])
      simpa using this
    have HF := Lib.hid hf
    have hb : ((n : Int) != (p : Int)) = true := by simp; omega
    clear hl hm hnl hpm hf
    go_enter Tryz.func25, Tryz.ntmps25
    go_wp2
    go_ret
    exact ⟨by rw [HF.out]; rfl, 0, rfl⟩

theorem gsSame_any (v v2 : Value) (l m : List Int) (w : World) (h : Reads w v l) (h2 : Reads w v2 m) (hn : l.length ≤ 17592186044416) :
    Calls Tryz.prog 25 #[v, v2] w fun e w' => e = .returned (.bool (decide (l = m))) ∧ ∃ n, w' = w.drewN n := by
  obtain ⟨ao, ca, rfl, hr, _⟩ := h
  obtain ⟨bo, cb, rfl, hs, _⟩ := h2
  exact gsSame_core ao bo ca cb l m w hr hs hn


theorem below_drewN' {w w' : World} (h : ∃ n, w' = w.drewN n) : Below w.heap.size w w' := by
  obtain ⟨n, rfl⟩ := h
  exact below_drewN (Below.refl _ _) n
theorem gsSame_same (v v2 : Value) (l : List Int) (w : World) (h : Reads w v l) (h2 : Reads w v2 l) (hn : l.length ≤ 17592186044416) :
    Calls Tryz.prog 25 #[v, v2] w fun e w' => e = .returned (.bool true) ∧ Below w.heap.size w w' :=
  (gsSame_any v v2 l l w h h2 hn).mono fun e w' ⟨he, hw⟩ => ⟨by rw [he]; simp, below_drewN' hw⟩
end Go.Proofs.YtpcnoiigbmiejaaGreatDoor.gs
