/- Counting of colours in the reference: l8Most, l8Counts, l8Same; ColoursOf. -/
import Derived.Test.YtglehegjimhbjaaDoorBoth
namespace Go.Proofs.YtglehegjimhbjaaDoor.specc
set_option linter.unusedVariables false
set_option linter.unusedSimpArgs false
open Go.ChangeShapes Go.WideShapes Go.ChangeAt Go.RowKit
open Go.Proofs.YtglehegjimhbjaaDoor.lib Go.Proofs.YtglehegjimhbjaaDoor.st Go.Proofs.YtglehegjimhbjaaDoor.base Go.Proofs.YtglehegjimhbjaaDoor.col Go.Proofs.YtglehegjimhbjaaDoor.colp Go.Proofs.YtglehegjimhbjaaDoor.sll Go.Proofs.YtglehegjimhbjaaDoor.both Go.Proofs.YtglehegjimhbjaaDoor.descr Go.Proofs.YtglehegjimhbjaaDoor.flow Go.Proofs.YtglehegjimhbjaaDoor.less

theorem mostTo_zero (c : List Int) : mostTo c 0 = 0 := by simp [mostTo]
theorem mostTo_succ {c : List Int} {k : Nat} (hk : k < c.length) : mostTo c (k + 1) = max (mostTo c k) (c.getD k 0 + 1) := by
  unfold mostTo
  rw [List.take_succ_eq_append_getElem hk, List.foldl_append, List.getD_eq_getElem?_getD, List.getElem?_eq_getElem hk]; rfl
theorem mostTo_full (c : List Int) : mostTo c c.length = most c := by unfold mostTo most; rw [List.take_length]
theorem mostTo_bd {c : List Int} (h : ∀ x, x ∈ c → 0 ≤ x ∧ x < 100) (k : Nat) : 0 ≤ mostTo c k ∧ mostTo c k ≤ 100 := by
  unfold mostTo
  obtain ⟨h1, h2, h3⟩ := fold_max (c.take k) 0
  refine ⟨h1, ?_⟩
  rcases h3 with h3 | ⟨x, hx, h3⟩
  · rw [h3]; omega
  · have := h x (List.mem_of_mem_take hx); omega
theorem get_bd {c : List Int} (h : ∀ x, x ∈ c → 0 ≤ x ∧ x < 100) {k : Nat} (hk : k < c.length) : 0 ≤ c.getD k 0 ∧ c.getD k 0 < 100 := by
  rw [List.getD_eq_getElem?_getD, List.getElem?_eq_getElem hk]; exact h _ (List.getElem_mem hk)

set_option maxHeartbeats 1600000 in
theorem l8Most_any (v : Value) (c : List Int) (w : World) (hv : Reads w v c) (hc : c.length ≤ 100) (h : ∀ x, x ∈ c → 0 ≤ x ∧ x < 100) :
    Calls Tryd.prog 34 #[v] w fun e w' => e = .returned (.int .i64 (most c)) ∧ w = w' := by
  obtain ⟨ao, cap, rfl⟩ := hv.len
  obtain ⟨n, hn⟩ : ∃ n, n = c.length := ⟨_, rfl⟩
  rw [← hn] at hv hc ⊢
  have HV := Lib.hid (show _ ∧ _ ∧ _ from ⟨hv, hn, h⟩)
  clear hv hn h
  go_enter Tryd.func34, Tryd.ntmps34
  go_wp2
  go_loop [3, 4] (fun m i => ∃ k : Nat, k ≤ n ∧ i = .int .i64 k ∧ m = .int .i64 (mostTo c k)) (fun _ i => n - (intOf i).toNat)
  case atStart => exact ⟨0, Nat.zero_le _, rfl, by rw [mostTo_zero]⟩
  case round =>
    obtain ⟨k, hk, rfl, rfl⟩ := hrel
    obtain ⟨m1, m2⟩ := mostTo_bd HV.out.2.2 k
    by_cases hkn : k < n
    · obtain ⟨b, off, rfl, hbw, hcell⟩ := int_spot HV.out.1 HV.out.2.1 (by omega)
      obtain ⟨y1, y2⟩ := get_bd HV.out.2.2 (k := k) (by have := HV.out.2.1; omega)
      have hs := mostTo_succ (c := c) (k := k) (by have := HV.out.2.1; omega)
      have hck := hcell k hkn
      obtain ⟨y, hy⟩ : ∃ y, y = c.getD k 0 := ⟨_, rfl⟩
      rw [← hy] at hck y1 y2 hs
      obtain ⟨m, hm⟩ : ∃ m, m = mostTo c k := ⟨_, rfl⟩
      rw [← hm] at m1 m2 hs ⊢
      have HS := Lib.hid hs
      clear hcell hy hm hs
      go_wp2
      go_round
      case rel => exact ⟨k + 1, by omega, by go_num, by rw [HS.out]⟩
      case measure => simp [intOf]; omega
    · obtain rfl : n = k := by omega
      have hm : mostTo c n = most c := by rw [HV.out.2.1]; exact mostTo_full c
      have HM := Lib.hid hm
      clear hm
      go_wp2
      go_ret
      exact ⟨by rw [← HM.out]; rfl, rfl⟩

/-- the counts of the first i -/
def countsTo (c : List Int) (m i : Nat) : List Int := counts (c.take i) m
theorem countsTo_zero (c : List Int) (m : Nat) : countsTo c m 0 = List.replicate m 0 := by
  unfold countsTo counts
  apply List.ext_getElem (by simp)
  intro i h1 h2
  simp
theorem counts_len (c : List Int) (m : Nat) : (counts c m).length = m := by simp [counts]
theorem countsTo_get {c : List Int} {m i v : Nat} (hv : v < m) : (countsTo c m i).getD v 0 = (((c.take i).count (v : Int) : Nat) : Int) := by
  unfold countsTo counts
  rw [List.getD_eq_getElem?_getD, List.getElem?_map, List.getElem?_range hv]; rfl
theorem countsTo_succ {c : List Int} {m i v : Nat} (hi : i < c.length) (hv : c.getD i 0 = (v : Int)) (hm : v < m) : countsTo c m (i + 1) = (countsTo c m i).set v ((countsTo c m i).getD v 0 + 1) := by
  rw [countsTo_get hm]
  have hx : c[i] = (v : Int) := by rw [← hv, List.getD_eq_getElem?_getD, List.getElem?_eq_getElem hi]; rfl
  have e : c.take (i + 1) = c.take i ++ [(v : Int)] := by rw [List.take_succ_eq_append_getElem hi, hx]
  unfold countsTo counts
  rw [e]
  apply List.ext_getElem (by simp)
  intro j h1 h2
  have hj : j < m := by simpa using h1
  rw [List.getElem_set]
  simp only [List.getElem_map, List.getElem_range, List.count_append]
  by_cases e2 : v = j
  · subst e2; rw [if_pos rfl]; simp
  · rw [if_neg e2]
    have : List.count (j : Int) [(v : Int)] = 0 := by
      rw [List.count_eq_zero]; simp; omega
    rw [this]; rfl
theorem countsTo_full (c : List Int) (m : Nat) : countsTo c m c.length = counts c m := by unfold countsTo; rw [List.take_length]
theorem countsTo_bd (c : List Int) (m i v : Nat) (hv : v < m) : 0 ≤ (countsTo c m i).getD v 0 ∧ (countsTo c m i).getD v 0 ≤ i := by
  rw [countsTo_get hv]
  have := List.count_le_length (a := (v : Int)) (l := c.take i)
  rw [List.length_take] at this
  omega

set_option maxHeartbeats 3200000 in
theorem l8Counts_any (v : Value) (c : List Int) (m : Nat) (w : World) (hv : Reads w v c) (hc : c.length ≤ 100) (hm : m ≤ 100) (h : ∀ x, x ∈ c → 0 ≤ x ∧ x < m) :
    Calls Tryd.prog 36 #[v, .int .i64 m] w fun e w' => ∃ v0, e = .returned v0 ∧ OwnI 3 w' w.heap.size v0 (counts c m) ∧ Below w.heap.size w w' := by
  obtain ⟨ao, cap, rfl⟩ := hv.len
  obtain ⟨n, hn⟩ : ∃ n, n = c.length := ⟨_, rfl⟩
  rw [← hn] at hv hc ⊢
  have HV := Lib.hid (show _ ∧ _ ∧ _ from ⟨hv, hn, h⟩)
  obtain ⟨i0, hi, hz0, hz1, hz2⟩ := info_parts sll.infoInt
  clear hv hn h
  go_enter Tryd.func36, Tryd.ntmps36
  go_wp2_with (at_make; refine wpList_make_full _ rfl _ _ 25 rfl w.heap.size 3 i0 (.int .i64 0) 1 Tryd.underlying25 hi hz0 hz1 _ _ _ _ m rfl rfl (by omega) (by omega) ?b2 ?b3 (by simp) ?_)
  case b2 => rw [hz2]; omega
  case b3 => unfold maxLen; omega
  intro w1 hown0 hgrow0
  have HST : Hid (OwnI 3 w1 w.heap.size (.slice (some ⟨w.heap.size, 0, none⟩) m m) (countsTo c m 0) ∧ Below w.heap.size w w1) := by
    refine ⟨?_, below_of_grown hgrow0 (Nat.le_refl _) (fun k h => by cases h)⟩
    have h1 := OwnI.made hown0
    rw [countsTo_zero]
    simpa using h1
  obtain ⟨go, hgo⟩ : ∃ go, go = w.heap.size := ⟨_, rfl⟩
  have HGO := Lib.hid hgo
  rw [← hgo] at HST ⊢
  clear hown0 hgrow0 hgo hz0 hz1 hz2 hi
  go_wp2_with fail
  go_loopw [6] (fun i wr => ∃ k : Nat, k ≤ n ∧ i = .int .i64 k ∧ OwnI 3 wr go (.slice (some ⟨go, 0, none⟩) m m) (countsTo c m k) ∧ Below go w wr) (fun i _ => n - (intOf i).toNat)
  case atStart => exact ⟨0, Nat.zero_le _, rfl, HST.out⟩
  case round =>
    clear HST
    obtain ⟨k, hk, rfl, hown, hbl⟩ := hrel
    have HO := Lib.hid (show _ ∧ _ from ⟨hown, hbl⟩)
    clear hown hbl
    by_cases hkn : k < n
    · obtain ⟨b, off, rfl, hbw, hcell⟩ := int_spot HV.out.1 HV.out.2.1 (by omega)
      have hkc : k < c.length := by have := HV.out.2.1; omega
      obtain ⟨y, hy⟩ : ∃ y : Nat, c.getD k 0 = (y : Int) := ⟨(c.getD k 0).toNat, by
        have := HV.out.2.2 (c.getD k 0) (by rw [List.getD_eq_getElem?_getD, List.getElem?_eq_getElem hkc]; exact List.getElem_mem hkc)
        omega⟩
      have hym : y < m := by
        have := HV.out.2.2 (c.getD k 0) (by rw [List.getD_eq_getElem?_getD, List.getElem?_eq_getElem hkc]; exact List.getElem_mem hkc)
        omega
      have hbd := countsTo_bd c m k y hym
      have hs := countsTo_succ hkc hy hym
      have hck0 := hcell k hkn
      rw [hy] at hck0
      have hck : wr.cell? ⟨b, off + k, none⟩ = some (.int .i64 y) := by rw [HO.out.2.cell (by rw [HGO.out]; exact hbw)]; exact hck0
      have hlen : (countsTo c m k).length = m := counts_len _ _
      have hcy := HO.out.1.cell y (by omega)
      have hfz := HO.out.1.free y
      obtain ⟨z, hz⟩ : ∃ z, z = (countsTo c m k).getD y 0 := ⟨_, rfl⟩
      rw [← hz] at hcy hs hbd
      obtain ⟨z1, z2⟩ := hbd
      have R : Hid (OwnI 3 (wr.drew.setCell ⟨go, y, none⟩ (.int .i64 (z + 1))) go (.slice (some ⟨go, 0, none⟩) m m) (countsTo c m (k + 1)) ∧ Below go w (wr.drew.setCell ⟨go, y, none⟩ (.int .i64 (z + 1)))) := by
        rw [hs]
        have h1 : OwnI 3 wr.drew go (.slice (some ⟨go, 0, none⟩) m m) (countsTo c m k) := HO.out.1.below ((Below.refl _ _).drew) (Nat.le_refl _)
        exact ⟨h1.set y (z + 1), HO.out.2.drew.setCell (Nat.le_refl _) _⟩
      have q0 : ∀ X : Wd (fun W => W = wr.drew), X.w.cell? ⟨b, off + k, none⟩ = some (.int .i64 y) := fun X => by rw [X.ok]; exact hck
      have q1 : ∀ X : Wd (fun W => W = wr.drew), X.w.cell? ⟨go, y, none⟩ = some (.int .i64 z) := fun X => by rw [X.ok]; exact hcy
      have hne : Nonempty (Wd (fun W => W = wr.drew)) := ⟨⟨wr.drew, rfl⟩⟩
      clear hck0 hck hcy hs hz hy hcell hkc hlen
      go_wp2_with fail
      refine flow_last (S := (fun W => W = wr.drew)) (by kernel_rfl) (by kernel_rfl) (by kernel_rfl) (by kernel_rfl) (by kernel_rfl) rfl ?_
      simp only [List.dropLast_cons_cons, List.dropLast_singleton, List.getLast?_cons_cons, List.getLast?_singleton, Option.toList_some]
      repeat (go_big_quiet_step (fail))
      refine wpQuiet_nil ?_
      rintro _ ⟨X, rfl⟩
      have hX : X.w = wr.drew := X.ok
      rw [hX]
      have hfz2 : wr.drew.frozen? ⟨go, y, none⟩ = false := hfz
      have hcy2 : wr.drew.cell? ⟨go, y, none⟩ = some (.int .i64 z) := by have := q1 X; rw [hX] at this; exact this
      clear q0 q1 hne hX
      go_wp2
      go_roundw
      case rel => exact ⟨k + 1, by omega, by go_num, R.out⟩
      case measure => simp [intOf]; omega
    · obtain rfl : n = k := by omega
      have HF : Hid (countsTo c m n = counts c m) := by rw [Hid, HV.out.2.1]; exact countsTo_full c m
      go_wp2
      go_ret
      exact ⟨_, rfl, by rw [← HF.out, ← HGO.out]; exact HO.out.1, by rw [← HGO.out]; exact HO.out.2⟩
end Go.Proofs.YtglehegjimhbjaaDoor.specc
