/- Ways and distances: what holds of them, no program in sight. -/
import Derived.Test.YtlnmebjbinmeiaaDoorDistP
namespace Go.Proofs.YtlnmebjbinmeiaaDoor.dist
set_option linter.unusedVariables false
set_option linter.unusedSimpArgs false
/-- y is reached from x in k steps below n -/
def RK (nb : Nat → Nat → Bool) (n x : Nat) : Nat → Nat → Prop
  | 0, y => y = x
  | k + 1, y => ∃ z, z < n ∧ RK nb n x k z ∧ nb z y = true

variable {nb : Nat → Nat → Bool} {n x : Nat}
open Classical in
/-- the least number of steps -/
noncomputable def least (p : Nat → Prop) : Nat := if h : ∃ k, p k then Classical.choose (exists_least' h) else 0
where
  exists_least' {p : Nat → Prop} (h : ∃ n, p n) : ∃ n, p n ∧ ∀ m, p m → n ≤ m := by
    obtain ⟨n, hn⟩ := h
    induction n using Nat.strongRecOn with
    | _ n ih =>
      by_cases hm : ∃ m, m < n ∧ p m
      · obtain ⟨m, hlt, hp⟩ := hm
        exact ih m hlt hp
      · exact ⟨n, hn, fun m hp => Nat.le_of_not_lt fun hlt => hm ⟨m, hlt, hp⟩⟩
theorem least_spec {p : Nat → Prop} (h : ∃ k, p k) : p (least p) ∧ ∀ m, p m → least p ≤ m := by
  unfold least
  rw [dif_pos h]
  exact Classical.choose_spec (least.exists_least' h)

open Classical in
noncomputable def distF (nb : Nat → Nat → Bool) (n x : Nat) : List Int := (List.range n).map fun y => if ∃ k, RK nb n x k y then ((least fun k => RK nb n x k y : Nat) : Int) else -1
theorem distF_get {y : Nat} (hy : y < n) [Decidable (∃ k, RK nb n x k y)] : (distF nb n x).getD y 0 = if ∃ k, RK nb n x k y then ((least fun k => RK nb n x k y : Nat) : Int) else -1 := by
  simp only [distF, List.getD_eq_getElem?_getD, List.getElem?_map, List.getElem?_range hy, Option.map_some, Option.getD_some]
  congr
theorem distF_is (hx : x < n) : IsDist nb n x (distF nb n x) := by
  classical
  refine ⟨by simp [distF], fun y hy => ?_, fun y hy => ?_, fun y hy hp => ?_, fun y z hy hz h0 hn => ?_⟩
  · rw [distF_get hy]; split <;> omega
  · rw [distF_get hy]
    constructor
    · intro h
      split at h
      · rename_i hk
        have h1 := (least_spec hk).1
        rw [show least (fun k => RK nb n x k y) = 0 from by omega] at h1
        exact h1
      · omega
    · rintro rfl
      have hk : ∃ k, RK nb n y k y := ⟨0, rfl⟩
      rw [if_pos hk]
      have := (least_spec hk).2 0 rfl
      omega
  · rw [distF_get hy] at hp
    split at hp
    · rename_i hk
      obtain ⟨h1, h2⟩ := least_spec hk
      obtain ⟨k, hk1⟩ : ∃ k, least (fun k => RK nb n x k y) = k + 1 := ⟨least (fun k => RK nb n x k y) - 1, by omega⟩
      rw [hk1] at h1
      obtain ⟨z, hz, hzk, hzy⟩ := h1
      refine ⟨z, hz, hzy, ?_⟩
      have hzk' : ∃ k, RK nb n x k z := ⟨k, hzk⟩
      rw [distF_get hz, distF_get hy, if_pos hzk', if_pos hk, hk1]
      obtain ⟨h3, h4⟩ := least_spec hzk'
      have h5 := h4 k hzk
      have h6 := h2 (least (fun k => RK nb n x k z) + 1) ⟨z, hz, h3, hzy⟩
      omega
    · omega
  · rw [distF_get hy] at h0 ⊢
    rw [distF_get hz]
    split at h0
    · rename_i hk
      obtain ⟨h1, h2⟩ := least_spec hk
      have hz' : RK nb n x (least (fun k => RK nb n x k y) + 1) z := ⟨y, hy, h1, hn⟩
      have hzk : ∃ k, RK nb n x k z := ⟨_, hz'⟩
      rw [if_pos hzk, if_pos hk]
      have := (least_spec hzk).2 _ hz'
      omega
    · omega
theorem distL_is (hx : x < n) : IsDist nb n x (distL nb n x) := Classical.epsilon_spec ⟨_, distF_is hx⟩
theorem distL_len (hx : x < n) : (distL nb n x).length = n := (distL_is hx).len

/-- the distance of two -/
noncomputable def D (nb : Nat → Nat → Bool) (n x y : Nat) : Int := (distL nb n x).getD y 0
theorem D_lo (hx : x < n) {y : Nat} (hy : y < n) : -1 ≤ D nb n x y := (distL_is hx).lo y hy
theorem RK.lt : ∀ {k y : Nat}, x < n → (∀ a b, nb a b = true → b < n) → RK nb n x k y → y < n
  | 0, _, hx, _, h => by rw [h]; exact hx
  | _ + 1, _, _, hb, h => by
    obtain ⟨_, _, _, h⟩ := h
    exact hb _ _ h
theorem D_le (hx : x < n) : ∀ {k y : Nat}, y < n → RK nb n x k y → 0 ≤ D nb n x y ∧ D nb n x y ≤ k
  | 0, y, hy, h => by
    have := ((distL_is (nb := nb) hx).zero y hy).2 h
    unfold D; omega
  | k + 1, y, hy, h => by
    obtain ⟨z, hz, hk, hn⟩ := h
    have h1 := D_le hx hz hk
    have := (distL_is (nb := nb) hx).next z y hz hy h1.1 hn
    unfold D at h1 ⊢; omega
theorem RK_of_D (hx : x < n) : ∀ (k y : Nat), y < n → D nb n x y = k → RK nb n x k y
  | 0, y, hy, h => ((distL_is (nb := nb) hx).zero y hy).1 h
  | k + 1, y, hy, h => by
    obtain ⟨z, hz, hn, he⟩ := (distL_is (nb := nb) hx).pred y hy (by unfold D at h; omega)
    exact ⟨z, hz, RK_of_D hx k z hz (by unfold D at h ⊢; omega), hn⟩
theorem RK_comp {y : Nat} : ∀ {j k z : Nat}, RK nb n x j y → RK nb n y k z → RK nb n x (j + k) z
  | _, 0, _, h, h2 => by rw [h2]; exact h
  | _, _ + 1, _, h, h2 => by
    obtain ⟨u, hu, hk, hn⟩ := h2
    exact ⟨u, hu, RK_comp h hk, hn⟩
theorem RK_turn (hsym : ∀ a b, nb a b = nb b a) (hx : x < n) : ∀ {k y : Nat}, y < n → RK nb n x k y → RK nb n y k x
  | 0, _, _, h => h.symm
  | k + 1, y, hy, h => by
    obtain ⟨z, hz, hk, hn⟩ := h
    have h1 : RK nb n y 1 z := ⟨y, hy, rfl, by rw [hsym]; exact hn⟩
    have := RK_comp h1 (RK_turn hsym hx hz hk)
    rwa [Nat.add_comm] at this
theorem D_symm (hsym : ∀ a b, nb a b = nb b a) {x y : Nat} (hx : x < n) (hy : y < n) : D nb n x y = D nb n y x := by
  have key : ∀ a b, a < n → b < n → 0 ≤ D nb n a b → 0 ≤ D nb n b a ∧ D nb n b a ≤ D nb n a b := by
    intro a b ha hb h
    have h1 := RK_of_D (nb := nb) ha (D nb n a b).toNat b hb (by omega)
    have h2 := D_le (nb := nb) hb ha (RK_turn hsym ha hb h1)
    omega
  have l1 := D_lo (nb := nb) hx hy
  have l2 := D_lo (nb := nb) hy hx
  by_cases p : 0 ≤ D nb n x y
  · have a1 := key x y hx hy p
    have a2 := key y x hy hx a1.1
    omega
  · by_cases q : 0 ≤ D nb n y x
    · have a2 := key y x hy hx q
      omega
    · omega
theorem D_tri {x y z : Nat} (hx : x < n) (hy : y < n) (hz : z < n) (h1 : 0 ≤ D nb n x y) (h2 : 0 ≤ D nb n y z) : 0 ≤ D nb n x z ∧ D nb n x z ≤ D nb n x y + D nb n y z := by
  have a1 := RK_of_D (nb := nb) hx (D nb n x y).toNat y hy (by omega)
  have a2 := RK_of_D (nb := nb) hy (D nb n y z).toNat z hz (by omega)
  have := D_le (nb := nb) hx hz (RK_comp a1 a2)
  omega
theorem D_zero {x y : Nat} (hx : x < n) (hy : y < n) : D nb n x y = 0 ↔ y = x := (distL_is hx).zero y hy
theorem D_one (hirr : ∀ a, nb a a = false) {x y : Nat} (hx : x < n) (hy : y < n) : D nb n x y = 1 ↔ nb x y = true := by
  constructor
  · intro h
    obtain ⟨z, hz, hk, hn⟩ := RK_of_D (nb := nb) hx 1 y hy h
    rw [show z = x from hk] at hn; exact hn
  · intro h
    have h1 := D_le (nb := nb) hx hy (show RK nb n x 1 y from ⟨x, hx, rfl, h⟩)
    have : D nb n x y ≠ 0 := fun e => by
      have := (D_zero (nb := nb) hx hy).1 e
      subst this
      rw [hirr] at h; cases h
    omega
theorem D_chain (hx : x < n) : ∀ (k y : Nat), y < n → D nb n x y = k → ∀ t, t ≤ k → (t : Int) ∈ distL nb n x
  | k, y, hy, he, t, ht => by
    have hl := distL_len (nb := nb) hx
    by_cases e : t = k
    · subst e
      have hlt : y < (distL nb n x).length := by omega
      rw [← he]; unfold D
      rw [List.getD_eq_getElem?_getD, List.getElem?_eq_getElem hlt]
      exact List.getElem_mem hlt
    · obtain ⟨z, hz, _, hze⟩ := (distL_is (nb := nb) hx).pred y hy (by unfold D at he; omega)
      cases k with
      | zero => omega
      | succ k => exact D_chain hx k z hz (by unfold D at he ⊢; omega) t (by omega)
theorem D_small {x y : Nat} (hx : x < n) (hy : y < n) : D nb n x y < n := by
  by_cases h0 : D nb n x y < 0
  · omega
  have hc := D_chain (nb := nb) hx (D nb n x y).toNat y hy (by omega)
  have hl := nodup_len ((List.range ((D nb n x y).toNat + 1)).map (fun t : Nat => (t : Int))) (distL nb n x) (by
    rw [List.nodup_iff_pairwise_ne, List.pairwise_map]
    exact (List.nodup_iff_pairwise_ne.1 List.nodup_range).imp (fun hab e => hab (by omega))) (fun a ha => by
    obtain ⟨t, ht, rfl⟩ := List.mem_map.1 ha
    exact hc t (by have := List.mem_range.1 ht; omega))
  rw [List.length_map, List.length_range, distL_len hx] at hl
  omega
end Go.Proofs.YtlnmebjbinmeiaaDoor.dist
