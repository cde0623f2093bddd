/- Several texts in one: Reach, DfT, Rdb. -/
import Derived.Test.YtpcnoiigbmiejaaDoorPkF
import Derived.Test.YtpcnoiigbmiejaaDoorPk1
/- Ways and distances: what holds of them, no program in sight. -/
namespace Go.Proofs.YtpcnoiigbmiejaaDoor.dist
set_option linter.unusedVariables false
set_option linter.unusedSimpArgs false
/-- y is reached from x in k steps below n -/
def RK (nb : Nat → Nat → Bool) (n x : Nat) : Nat → Nat → Prop
  | 0, y => y = x
  | k + 1, y => ∃ z, z < n ∧ RK nb n x k z ∧ nb z y = true

variable {nb : Nat → Nat → Bool} {n x : Nat}
open Classical in
/-- the least number of steps -/
noncomputable def least (p : Nat → Prop) : Nat := if h : ∃ k, p k then Classical.choose (exists_least' h) else 0
where
  exists_least' {p : Nat → Prop} (h : ∃ n, p n) : ∃ n, p n ∧ ∀ m, p m → n ≤ m := by
    obtain ⟨n, hn⟩ := h
    induction n using Nat.strongRecOn with
    | _ n ih =>
      by_cases hm : ∃ m, m < n ∧ p m
      · obtain ⟨m, hlt, hp⟩ := hm
        exact ih m hlt hp
      · exact ⟨n, hn, fun m hp => Nat.le_of_not_lt fun hlt => hm ⟨m, hlt, hp⟩⟩
theorem least_spec {p : Nat → Prop} (h : ∃ k, p k) : p (least p) ∧ ∀ m, p m → least p ≤ m := by
  unfold least
  rw [dif_pos h]
  exact Classical.choose_spec (least.exists_least' h)

open Classical in
noncomputable def distF (nb : Nat → Nat → Bool) (n x : Nat) : List Int := (List.range n).map fun y => if ∃ k, RK nb n x k y then ((least fun k => RK nb n x k y : Nat) : Int) else -1
theorem distF_get {y : Nat} (hy : y < n) [Decidable (∃ k, RK nb n x k y)] : (distF nb n x).getD y 0 = if ∃ k, RK nb n x k y then ((least fun k => RK nb n x k y : Nat) : Int) else -1 := by
  simp only [distF, List.getD_eq_getElem?_getD, List.getElem?_map, List.getElem?_range hy, Option.map_some, Option.getD_some]
  congr
theorem distF_is (hx : x < n) : IsDist nb n x (distF nb n x) := by
  classical
  refine ⟨by simp [distF], fun y hy => ?_, fun y hy => ?_, fun y hy hp => ?_, fun y z hy hz h0 hn => ?_⟩
  · rw [distF_get hy]; split <;> omega
  · rw [distF_get hy]
    constructor
    · intro h
      split at h
      · rename_i hk
        have h1 := (least_spec hk).1
        rw [show least (fun k => RK nb n x k y) = 0 from by omega] at h1
        exact h1
      · omega
    · rintro rfl
      have hk : ∃ k, RK nb n y k y := ⟨0, rfl⟩
      rw [if_pos hk]
      have := (least_spec hk).2 0 rfl
      omega
  · rw [distF_get hy] at hp
    split at hp
    · rename_i hk
      obtain ⟨h1, h2⟩ := least_spec hk
      obtain ⟨k, hk1⟩ : ∃ k, least (fun k => RK nb n x k y) = k + 1 := ⟨least (fun k => RK nb n x k y) - 1, by omega⟩
      rw [hk1] at h1
      obtain ⟨z, hz, hzk, hzy⟩ := h1
      refine ⟨z, hz, hzy, ?_⟩
      have hzk' : ∃ k, RK nb n x k z := ⟨k, hzk⟩
      rw [distF_get hz, distF_get hy, if_pos hzk', if_pos hk, hk1]
      obtain ⟨h3, h4⟩ := least_spec hzk'
      have h5 := h4 k hzk
      have h6 := h2 (least (fun k => RK nb n x k z) + 1) ⟨z, hz, h3, hzy⟩
      omega
    · omega
  · rw [distF_get hy] at h0 ⊢
    rw [distF_get hz]
    split at h0
    · rename_i hk
      obtain ⟨h1, h2⟩ := least_spec hk
      have hz' : RK nb n x (least (fun k => RK nb n x k y) + 1) z := ⟨y, hy, h1, hn⟩
      have hzk : ∃ k, RK nb n x k z := ⟨_, hz'⟩
      rw [if_pos hzk, if_pos hk]
      have := (least_spec hzk).2 _ hz'
      omega
    · omega
theorem distL_is (hx : x < n) : IsDist nb n x (distL nb n x) := Classical.epsilon_spec ⟨_, distF_is hx⟩
theorem distL_len (hx : x < n) : (distL nb n x).length = n := (distL_is hx).len

/-- the distance of two -/
noncomputable def D (nb : Nat → Nat → Bool) (n x y : Nat) : Int := (distL nb n x).getD y 0
theorem D_lo (hx : x < n) {y : Nat} (hy : y < n) : -1 ≤ D nb n x y := (distL_is hx).lo y hy
theorem RK.lt : ∀ {k y : Nat}, x < n → (∀ a b, nb a b = true → b < n) → RK nb n x k y → y < n
  | 0, _, hx, _, h => by rw [h]; exact hx
  | _ + 1, _, _, hb, h => by
    obtain ⟨_, _, _, h⟩ := h
    exact hb _ _ h
theorem D_le (hx : x < n) : ∀ {k y : Nat}, y < n → RK nb n x k y → 0 ≤ D nb n x y ∧ D nb n x y ≤ k
  | 0, y, hy, h => by
    have := ((distL_is (nb := nb) hx).zero y hy).2 h
    unfold D; omega
  | k + 1, y, hy, h => by
    obtain ⟨z, hz, hk, hn⟩ := h
    have h1 := D_le hx hz hk
    have := (distL_is (nb := nb) hx).next z y hz hy h1.1 hn
    unfold D at h1 ⊢; omega
theorem RK_of_D (hx : x < n) : ∀ (k y : Nat), y < n → D nb n x y = k → RK nb n x k y
  | 0, y, hy, h => ((distL_is (nb := nb) hx).zero y hy).1 h
  | k + 1, y, hy, h => by
    obtain ⟨z, hz, hn, he⟩ := (distL_is (nb := nb) hx).pred y hy (by unfold D at h; omega)
    exact ⟨z, hz, RK_of_D hx k z hz (by unfold D at h ⊢; omega), hn⟩
theorem RK_comp {y : Nat} : ∀ {j k z : Nat}, RK nb n x j y → RK nb n y k z → RK nb n x (j + k) z
  | _, 0, _, h, h2 => by rw [h2]; exact h
  | _, _ + 1, _, h, h2 => by
    obtain ⟨u, hu, hk, hn⟩ := h2
    exact ⟨u, hu, RK_comp h hk, hn⟩
theorem RK_turn (hsym : ∀ a b, nb a b = nb b a) (hx : x < n) : ∀ {k y : Nat}, y < n → RK nb n x k y → RK nb n y k x
  | 0, _, _, h => h.symm
  | k + 1, y, hy, h => by
    obtain ⟨z, hz, hk, hn⟩ := h
    have h1 : RK nb n y 1 z := ⟨y, hy, rfl, by rw [hsym]; exact hn⟩
    have := RK_comp h1 (RK_turn hsym hx hz hk)
    rwa [Nat.add_comm] at this
theorem D_symm (hsym : ∀ a b, nb a b = nb b a) {x y : Nat} (hx : x < n) (hy : y < n) : D nb n x y = D nb n y x := by
  have key : ∀ a b, a < n → b < n → 0 ≤ D nb n a b → 0 ≤ D nb n b a ∧ D nb n b a ≤ D nb n a b := by
    intro a b ha hb h
    have h1 := RK_of_D (nb := nb) ha (D nb n a b).toNat b hb (by omega)
    have h2 := D_le (nb := nb) hb ha (RK_turn hsym ha hb h1)
    omega
  have l1 := D_lo (nb := nb) hx hy
  have l2 := D_lo (nb := nb) hy hx
  by_cases p : 0 ≤ D nb n x y
  · have a1 := key x y hx hy p
    have a2 := key y x hy hx a1.1
    omega
  · by_cases q : 0 ≤ D nb n y x
    · have a2 := key y x hy hx q
      omega
    · omega
theorem D_tri {x y z : Nat} (hx : x < n) (hy : y < n) (hz : z < n) (h1 : 0 ≤ D nb n x y) (h2 : 0 ≤ D nb n y z) : 0 ≤ D nb n x z ∧ D nb n x z ≤ D nb n x y + D nb n y z := by
  have a1 := RK_of_D (nb := nb) hx (D nb n x y).toNat y hy (by omega)
  have a2 := RK_of_D (nb := nb) hy (D nb n y z).toNat z hz (by omega)
  have := D_le (nb := nb) hx hz (RK_comp a1 a2)
  omega
theorem D_zero {x y : Nat} (hx : x < n) (hy : y < n) : D nb n x y = 0 ↔ y = x := (distL_is hx).zero y hy
theorem D_one (hirr : ∀ a, nb a a = false) {x y : Nat} (hx : x < n) (hy : y < n) : D nb n x y = 1 ↔ nb x y = true := by
  constructor
  · intro h
    obtain ⟨z, hz, hk, hn⟩ := RK_of_D (nb := nb) hx 1 y hy h
    rw [show z = x from hk] at hn; exact hn
  · intro h
    have h1 := D_le (nb := nb) hx hy (show RK nb n x 1 y from ⟨x, hx, rfl, h⟩)
    have : D nb n x y ≠ 0 := fun e => by
      have := (D_zero (nb := nb) hx hy).1 e
      subst this
      rw [hirr] at h; cases h
    omega
theorem D_chain (hx : x < n) : ∀ (k y : Nat), y < n → D nb n x y = k → ∀ t, t ≤ k → (t : Int) ∈ distL nb n x
  | k, y, hy, he, t, ht => by
    have hl := distL_len (nb := nb) hx
    by_cases e : t = k
    · subst e
      have hlt : y < (distL nb n x).length := by omega
      rw [← he]; unfold D
      rw [List.getD_eq_getElem?_getD, List.getElem?_eq_getElem hlt]
      exact List.getElem_mem hlt
    · obtain ⟨z, hz, _, hze⟩ := (distL_is (nb := nb) hx).pred y hy (by unfold D at he; omega)
      cases k with
      | zero => omega
      | succ k => exact D_chain hx k z hz (by unfold D at he ⊢; omega) t (by omega)
theorem D_small {x y : Nat} (hx : x < n) (hy : y < n) : D nb n x y < n := by
  by_cases h0 : D nb n x y < 0
  · omega
  have hc := D_chain (nb := nb) hx (D nb n x y).toNat y hy (by omega)
  have hl := nodup_len ((List.range ((D nb n x y).toNat + 1)).map (fun t : Nat => (t : Int))) (distL nb n x) (by
    rw [List.nodup_iff_pairwise_ne, List.pairwise_map]
    exact (List.nodup_iff_pairwise_ne.1 List.nodup_range).imp (fun hab e => hab (by omega))) (fun a ha => by
    obtain ⟨t, ht, rfl⟩ := List.mem_map.1 ha
    exact hc t (by have := List.mem_range.1 ht; omega))
  rw [List.length_map, List.length_range, distL_len hx] at hl
  omega
end Go.Proofs.YtpcnoiigbmiejaaDoor.dist

/- The formula for a distance as a tree: when it is true, its rank, its variables; keys of values. No program in sight. -/
namespace Go.Proofs.YtpcnoiigbmiejaaDoor.dft
set_option linter.unusedVariables false
set_option linter.unusedSimpArgs false
open Go.Proofs.YtpcnoiigbmiejaaDoor.game Go.Proofs.YtpcnoiigbmiejaaDoor.fm Go.Proofs.YtpcnoiigbmiejaaDoor.fmt Go.Proofs.YtpcnoiigbmiejaaDoor.peb Go.Proofs.YtpcnoiigbmiejaaDoor.sat Go.Proofs.YtpcnoiigbmiejaaDoor.dist Go.Proofs.YtpcnoiigbmiejaaDoor.keys

/-- how deep quantifiers are nested, as the program counts -/
def rankF : Fm → Nat
  | .tf _ => 0
  | .p _ => 0
  | .r _ _ _ => 0
  | .no a => rankF a
  | .two _ a b => max (rankF a) (rankF b)
  | .qu o _ a => rankF a + if o = 65 ∨ o = 83 then 1 else o.toNat - 48
/-- how many of four bits are set -/
def bits4 (s : Nat) : Nat := (List.range 4).countP fun i => inS s i
/-- the formula for a distance: v and h are the variables that are exchanged -/
def fd : Nat → Nat → Nat → Fm
  | 0, v, _ => .r 61 v 1
  | d + 1, v, h => .two 124 (.r 61 v 1) (.qu 83 h (.two 38 (.two 124 (.r 69 v h) (.r 69 h v)) (fd d h v)))
theorem fd_ok : ∀ (d v h : Nat), v < 4 → h < 4 → (fd d v h).ok
  | 0, v, h, hv, _ => ⟨by decide, hv, by omega⟩
  | d + 1, v, h, hv, hh => ⟨by decide, ⟨by decide, hv, by omega⟩, by decide, hh, by decide, ⟨by decide, ⟨by decide, hv, hh⟩, by decide, hh, hv⟩, fd_ok d h v hh hv⟩
theorem fd_free : ∀ d : Nat, (fd d 0 2).free = 3 ∧ (fd d 2 0).free = 6
  | 0 => ⟨rfl, rfl⟩
  | d + 1 => by
    obtain ⟨h1, h2⟩ := fd_free d
    constructor
    · show (1 <<< 0 ||| 1 <<< 1 ||| ((1 <<< 0 ||| 1 <<< 2 ||| (1 <<< 2 ||| 1 <<< 0) ||| (fd d 2 0).free) &&& (15 ^^^ 1 <<< 2))) = 3
      rw [h2]; rfl
    · show (1 <<< 2 ||| 1 <<< 1 ||| ((1 <<< 2 ||| 1 <<< 0 ||| (1 <<< 0 ||| 1 <<< 2) ||| (fd d 0 2).free) &&& (15 ^^^ 1 <<< 0))) = 6
      rw [h1]; rfl
theorem fd_all : ∀ d : Nat, Fm.all (fd (d + 1) 0 2) = 7 ∧ Fm.all (fd (d + 1) 2 0) = 7
  | 0 => ⟨rfl, rfl⟩
  | d + 1 => by
    obtain ⟨h1, h2⟩ := fd_all d
    constructor
    · show (1 <<< 0 ||| 1 <<< 1 ||| (1 <<< 2 ||| (1 <<< 0 ||| 1 <<< 2 ||| (1 <<< 2 ||| 1 <<< 0) ||| Fm.all (fd (d + 1) 2 0)))) = 7
      rw [h2]; rfl
    · show (1 <<< 2 ||| 1 <<< 1 ||| (1 <<< 0 ||| (1 <<< 2 ||| 1 <<< 0 ||| (1 <<< 0 ||| 1 <<< 2) ||| Fm.all (fd (d + 1) 0 2)))) = 7
      rw [h1]; rfl
theorem fd_bits (d : Nat) : bits4 (Fm.all (fd d 0 2)) = min (2 + d) 3 := by
  cases d with
  | zero => rfl
  | succ d => rw [(fd_all d).1, Nat.min_eq_right (by omega)]; rfl
theorem fd_rank : ∀ (d v h : Nat), rankF (fd d v h) = d
  | 0, _, _ => rfl
  | d + 1, v, h => by
    show max 0 (max (max 0 0) (rankF (fd d h v)) + 1) = d + 1
    rw [fd_rank d h v]; omega
/-- next to each other -/
def nx (A : Gr) (x y : Nat) : Bool := (x != y) && (A.R x y || A.R y x)
theorem nx_symm (A : Gr) (x y : Nat) : nx A x y = nx A y x := by
  unfold nx
  rw [Bool.or_comm, show (x != y) = (y != x) from by rw [Bool.eq_iff_iff, bne_iff_ne, bne_iff_ne]; exact ⟨Ne.symm, Ne.symm⟩]
/-- the formula is true within the distance -/
theorem fd_sat {A : Gr} : ∀ (d v h : Nat) (e : Nat → Nat), v ≠ 1 → h ≠ 1 → v ≠ h → e v < A.n → (sat A (fd d v h) e = true ↔ ∃ k, k ≤ d ∧ RK (nx A) A.n (e 1) k (e v))
  | 0, v, h, e, _, _, _, _ => by
    show decide (e v = e 1) = true ↔ _
    rw [decide_eq_true_iff]
    constructor
    · intro he; exact ⟨0, Nat.le_refl _, he⟩
    · rintro ⟨k, hk, hr⟩
      obtain rfl : k = 0 := by omega
      exact hr
  | d + 1, v, h, e, hv, hh, hvh, hn => by
    have hs : sat A (fd (d + 1) v h) e = (decide (e v = e 1) || decide (0 < (List.range A.n).countP fun x => (A.R (e v) x || A.R x (e v)) && sat A (fd d h v) (sat.put e h x))) := by
      show (decide (e v = e 1) || decide (0 < (List.range A.n).countP fun x => (A.R (sat.put e h x v) (sat.put e h x h) || A.R (sat.put e h x h) (sat.put e h x v)) && sat A (fd d h v) (sat.put e h x))) = _
      simp only [put_same, put_else hvh]
    rw [hs, Bool.or_eq_true, decide_eq_true_iff, decide_eq_true_iff, List.countP_pos_iff]
    constructor
    · rintro (he | ⟨x, hx, hp⟩)
      · exact ⟨0, Nat.zero_le _, he⟩
      · rw [Bool.and_eq_true] at hp
        have hxn := List.mem_range.1 hx
        obtain ⟨k, hk, hr⟩ := (fd_sat d h v (sat.put e h x) hh hv (Ne.symm hvh) (by rw [put_same]; exact hxn)).1 hp.2
        rw [put_same, put_else (Ne.symm hh)] at hr
        by_cases hxv : x = e v
        · rw [hxv] at hr; exact ⟨k, by omega, hr⟩
        · refine ⟨k + 1, by omega, x, hxn, hr, ?_⟩
          unfold nx
          rw [Bool.or_comm] at hp
          rw [hp.1, Bool.and_true, bne_iff_ne]; exact hxv
    · rintro ⟨k, hk, hr⟩
      cases k with
      | zero => exact .inl hr
      | succ k =>
        obtain ⟨x, hx, hr, hn2⟩ := hr
        refine .inr ⟨x, List.mem_range.2 hx, ?_⟩
        unfold nx at hn2
        rw [Bool.and_eq_true] at hn2 ⊢
        refine ⟨by rw [Bool.or_comm]; exact hn2.2, ?_⟩
        refine (fd_sat d h v (sat.put e h x) hh hv (Ne.symm hvh) (by rw [put_same]; exact hx)).2 ⟨k, by omega, ?_⟩
        rw [put_same, put_else (Ne.symm hh)]; exact hr
theorem RK_congr {nb nc : Nat → Nat → Bool} {n x : Nat} (hx : x < n) (h : ∀ a b, a < n → b < n → nb a b = nc a b) : ∀ {k y : Nat}, y < n → (RK nb n x k y ↔ RK nc n x k y)
  | 0, _, _ => Iff.rfl
  | k + 1, y, hy => by
    constructor
    · rintro ⟨z, hz, hr, hn⟩; exact ⟨z, hz, (RK_congr hx h hz).1 hr, by rw [← h z y hz hy]; exact hn⟩
    · rintro ⟨z, hz, hr, hn⟩; exact ⟨z, hz, (RK_congr hx h hz).2 hr, by rw [h z y hz hy]; exact hn⟩
/-- true exactly within the distance -/
theorem fd_dist {A : Gr} {d x y : Nat} {e : Nat → Nat} (hx : x < A.n) (hy : y < A.n) (h0 : e 0 = x) (h1 : e 1 = y) : sat A (fd d 0 2) e = true ↔ 0 ≤ D (nx A) A.n x y ∧ D (nx A) A.n x y ≤ d := by
  rw [fd_sat d 0 2 e (by decide) (by decide) (by decide) (by rw [h0]; exact hx), h0, h1]
  constructor
  · rintro ⟨k, hk, hr⟩
    have := D_le hx hy (RK_turn (nx_symm A) hy hx hr)
    omega
  · rintro ⟨h, h2⟩
    exact ⟨(D (nx A) A.n x y).toNat, by omega, RK_turn (nx_symm A) hx hy (RK_of_D hx _ y hy (by omega))⟩

end Go.Proofs.YtpcnoiigbmiejaaDoor.dft

/- A formula's text is read as that formula; the formula for a distance. No program in sight. -/
namespace Go.Proofs.YtpcnoiigbmiejaaDoor.rdb
set_option linter.unusedVariables false
set_option linter.unusedSimpArgs false
open Go.Proofs.YtpcnoiigbmiejaaDoor.lib Go.Proofs.YtpcnoiigbmiejaaDoor.fm Go.Proofs.YtpcnoiigbmiejaaDoor.fmp Go.Proofs.YtpcnoiigbmiejaaDoor.fmq Go.Proofs.YtpcnoiigbmiejaaDoor.dft
theorem read_txt : ∀ (a : Fm) (t : List UInt8), a.ok → read (a.txt ++ t) = some (a, t)
  | .tf c, t, h => read_tf h
  | .p v, t, h => by
    have hv : v < 4 := h
    show read (80 :: vb v :: t) = _
    rw [read_p rfl (isV_vb hv), vn_vb hv]
  | .r o v u, t, h => by
    show read (o :: vb v :: vb u :: t) = _
    rw [read_r h.1 (isV_vb h.2.1) (isV_vb h.2.2), vn_vb h.2.1, vn_vb h.2.2]
  | .no a, t, h => by
    show read (33 :: (a.txt ++ t)) = _
    rw [read_no rfl, read_txt a t h]
  | .two o a b, t, h => by
    show read (o :: ((a.txt ++ b.txt) ++ t)) = _
    rw [read_two h.1, List.append_assoc, read_txt a _ h.2.1]
    simp only []
    rw [read_txt b t h.2.2]
  | .qu o v a, t, h => by
    show read (o :: vb v :: (a.txt ++ t)) = _
    rw [read_qu h.1 (isV_vb h.2.1), read_txt a t h.2.2, vn_vb h.2.1]
theorem wl_txt : ∀ (d v h : Nat), (fd d v h).txt = df.wl d (vb v) (vb h)
  | 0, v, h => rfl
  | d + 1, v, h => by
    rw [df.wl, ← wl_txt d h v]; rfl
theorem wb_list (d : Nat) : (df.wb d 97 99).data.toList = (fd d 0 2).txt := by
  rw [wl_txt]; rfl
theorem at_wb (d : Nat) : At (df.wb d 97 99) 0 (fd d 0 2) (df.wb d 97 99).size := by
  refine ⟨Nat.le_refl _, ?_⟩
  have e : (df.wb d 97 99).data.toList.drop (df.wb d 97 99).size = [] := List.drop_eq_nil_of_le (by rw [lsz]; exact Nat.le_refl _)
  rw [List.drop_zero, e, wb_list]
  have := read_txt (fd d 0 2) [] (fd_ok d 0 2 (by decide) (by decide))
  rw [List.append_nil] at this
  exact this
theorem at_one {f : ByteArray} {a b : Fm} (ha : At f 0 a f.size) (hb : At f 0 b f.size) : a = b := by
  have h := ha.2.symm.trans hb.2
  simp only [Option.some.injEq, Prod.mk.injEq] at h
  exact h.1
end Go.Proofs.YtpcnoiigbmiejaaDoor.rdb
