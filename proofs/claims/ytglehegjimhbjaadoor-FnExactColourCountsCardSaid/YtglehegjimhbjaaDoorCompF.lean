/- slices.CompactFunc at a sorted list of lists of numbers. -/
import Derived.Test.YtglehegjimhbjaaDoorSortF
import Derived.Test.YtglehegjimhbjaaDoorChain
import Derived.Lib.SliceRun
namespace Go.Proofs.YtglehegjimhbjaaDoor.cmp
set_option linter.unusedVariables false
set_option linter.unusedSimpArgs false
open Go.ChangeShapes Go.WideShapes Go.ChangeAt Go.RowKit
open Go.Proofs.YtglehegjimhbjaaDoor.lib Go.Proofs.YtglehegjimhbjaaDoor.sll Go.Proofs.YtglehegjimhbjaaDoor.colp Go.Proofs.YtglehegjimhbjaaDoor.less Go.Proofs.YtglehegjimhbjaaDoor.flow Go.Proofs.YtglehegjimhbjaaDoor.chain

theorem ownL_form {w : World} {B g n cap : Nat} {L : List (List Int)} (h : OwnL w B (.slice (some ⟨g, 0, none⟩) n cap) L) : n = L.length ∧ n ≤ cap ∧ cap ≤ maxLen ∧ B ≤ g ∧ g < w.heap.size := by
  obtain ⟨us, hl, ho, hr⟩ := h
  have hlt := ho.lt g rfl
  rcases ho.2 with ⟨h', _⟩ | ⟨g', cap', cur, hv, -, -, hc, hm, -⟩
  · simp at h'
  · simp only [Value.slice.injEq] at hv
    obtain ⟨-, rfl, rfl⟩ := hv
    exact ⟨hl, hc, hm, hlt⟩
theorem ownL_at {w : World} {B g n cap : Nat} {L : List (List Int)} (h : OwnL w B (.slice (some ⟨g, 0, none⟩) n cap) L) {i : Nat} (hi : i < L.length) :
    ∃ ao c l, L.getD i [] = l ∧ w.cell? ⟨g, i, none⟩ = some (.slice ao l.length c) ∧ Reads w (.slice ao l.length c) l ∧ l ≠ [] ∧ (Value.slice ao l.length c).ownBlock ≠ some g ∧ w.frozen? ⟨g, i, none⟩ = false := by
  obtain ⟨hn, -⟩ := ownL_form h
  obtain ⟨us, hl, ho, hr⟩ := h
  rw [show us.length = n by omega] at ho
  obtain ⟨h1, h2, h3⟩ := hr i hi
  have hc := ho.cellAt i (by omega)
  have hf := ho.frozenAt i
  have hu : us[i]? = some (us.getD i undef) := by rw [List.getD_eq_getElem?_getD, List.getElem?_eq_getElem (by omega)]; rfl
  rw [hu] at hc
  obtain ⟨ao, c, he⟩ := h2.len
  rw [he] at hc h2 h3
  exact ⟨ao, c, _, rfl, hc, h2, h1, h3 g rfl, hf⟩
theorem ownL_set {w : World} {B g n cap : Nat} {L : List (List Int)} {u : Value} {l : List Int} (h : OwnL w B (.slice (some ⟨g, 0, none⟩) n cap) L) {i : Nat} (hi : i < L.length) (hu : Reads w u l) (hne : l ≠ []) (hug : u.ownBlock ≠ some g) :
    OwnL (w.setCell ⟨g, i, none⟩ u) B (.slice (some ⟨g, 0, none⟩) n cap) (L.set i l) := by
  obtain ⟨hn, -⟩ := ownL_form h
  obtain ⟨us, hl, ho, hr⟩ := h
  rw [show us.length = n by omega] at ho
  obtain ⟨hs, hg⟩ := ho.stored i u
  refine ⟨us.set i u, by simp [hl], by rw [show (us.set i u).length = n by simp; omega]; exact hs, fun j hj => ?_⟩
  have hj' : j < L.length := by simpa using hj
  have hk : ∀ (x : Value) (m : List Int), Reads w x m → x.ownBlock ≠ some g → Reads (w.setCell ⟨g, i, none⟩ u) x m := fun x m hx hxg =>
    reads_kept hx hg fun k hk => by have := Option.some.inj hk; subst this; exact hxg
  by_cases e : i = j
  · subst e
    have e1 : (L.set i l).getD i [] = l := by rw [List.getD_eq_getElem?_getD, List.getElem?_set_self (by omega)]; rfl
    have e2 : (us.set i u).getD i undef = u := by rw [List.getD_eq_getElem?_getD, List.getElem?_set_self (by omega)]; rfl
    rw [e1, e2]
    exact ⟨hne, hk _ _ hu hug, fun k hk2 => by have := Option.some.inj hk2; subst this; exact hug⟩
  · have e1 : (L.set i l).getD j [] = L.getD j [] := by rw [List.getD_eq_getElem?_getD, List.getElem?_set_ne e, ← List.getD_eq_getElem?_getD]
    have e2 : (us.set i u).getD j undef = us.getD j undef := by rw [List.getD_eq_getElem?_getD, List.getElem?_set_ne e, ← List.getD_eq_getElem?_getD]
    rw [e1, e2]
    exact ⟨(hr j hj').1, hk _ _ (hr j hj').2.1 ((hr j hj').2.2 g rfl), (hr j hj').2.2⟩
theorem own_sets {T : TypeId} {B g n cap : Nat} : ∀ (vs : List Value) (o : Nat) (w : World) (xs : List Value), w.ownsRow B T 1 (.slice (some ⟨g, 0, none⟩) n cap) n xs →
    ∃ ys, (w.setCells g o vs).ownsRow B T 1 (.slice (some ⟨g, 0, none⟩) n cap) n ys ∧ ys.take o = xs.take o ∧ w.grownBy (w.setCells g o vs) (some g)
  | [], o, w, xs, h => ⟨xs, h, rfl, ⟨rfl, rfl, rfl, Nat.le_refl _, fun _ _ _ => rfl⟩⟩
  | v :: vs, o, w, xs, h => by
    obtain ⟨h1, h2⟩ := h.stored o v
    obtain ⟨ys, h3, h4, h5⟩ := own_sets vs (o + 1) _ _ h1
    refine ⟨ys, h3, ?_, ⟨h5.os.trans h2.os, h5.tape.trans h2.tape, h5.output.trans h2.output, Nat.le_trans h2.size h5.size, fun k hk hne => (h5.block k (Nat.lt_of_lt_of_le hk h2.size) hne).trans (h2.block k hk hne)⟩⟩
    have e := congrArg (List.take o) h4
    rw [List.take_take, List.take_take, Nat.min_eq_left (by omega)] at e
    rw [e, List.take_set_of_le (Nat.le_refl _)]
theorem own_cut {T : TypeId} {w : World} {B g n cap k : Nat} {xs : List Value} (h : w.ownsRow B T 1 (.slice (some ⟨g, 0, none⟩) n cap) n xs) (hk : k ≤ n) : w.ownsRow B T 1 (.slice (some ⟨g, 0, none⟩) k cap) k (xs.take k) := by
  have hl := h.1
  rcases h.2 with ⟨h', _⟩ | ⟨g', cap', cur, hv, hb, hh, hc1, hc2, hc3, hc4⟩
  · simp at h'
  · simp only [Value.slice.injEq, Option.some.injEq, Addr.mk.injEq] at hv
    obtain ⟨⟨rfl, -, -⟩, -, rfl⟩ := hv
    refine ⟨by rw [List.length_take, Nat.mul_one, Nat.min_eq_left (by omega)], .inr ⟨g, cap, cur, rfl, hb, hh, by omega, hc2, hc3, ?_⟩⟩
    rw [← hc4, List.take_take, Nat.mul_one, Nat.mul_one, Nat.min_eq_left hk]
/-- the rest is cleared, and cut off -/
theorem ownL_cut {w : World} {B g n cap k : Nat} {L : List (List Int)} {vs : List Value} (h : OwnL w B (.slice (some ⟨g, 0, none⟩) n cap) L) (hk : k ≤ n) : OwnL (w.setCells g k vs) B (.slice (some ⟨g, 0, none⟩) k cap) (L.take k) ∧ Below B w (w.setCells g k vs) := by
  obtain ⟨hn, -, -, hB, hg⟩ := ownL_form h
  obtain ⟨us, hl, ho, hr⟩ := h
  rw [show us.length = n by omega] at ho
  obtain ⟨ys, h1, h2, h3⟩ := own_sets vs k w us ho
  have h4 := own_cut h1 hk
  rw [h2] at h4
  refine ⟨⟨us.take k, by rw [List.length_take, List.length_take, hl], by rw [List.length_take, Nat.min_eq_left (by omega)]; exact h4, fun i hi => ?_⟩, ⟨h3.os, h3.tape, h3.output, h3.size, fun j hj => h3.block j (by omega) (fun e => by have := Option.some.inj e; omega)⟩⟩
  have hi' : i < k := by rw [List.length_take] at hi; omega
  have e1 : (L.take k).getD i [] = L.getD i [] := by rw [List.getD_eq_getElem?_getD, List.getElem?_take, if_pos hi', ← List.getD_eq_getElem?_getD]
  have e2 : (us.take k).getD i undef = us.getD i undef := by rw [List.getD_eq_getElem?_getD, List.getElem?_take, if_pos hi', ← List.getD_eq_getElem?_getD]
  rw [e1, e2]
  have hx := hr i (by omega)
  exact ⟨hx.1, reads_kept hx.2.1 h3 (fun j hj => by have := Option.some.inj hj; subst this; exact hx.2.2 _ rfl), fun j hj => by have := Option.some.inj hj; subst this; exact hx.2.2 _ rfl⟩

/-! plain words -/
/-- the first j of M, each once, as C -/
structure Comp (M : List (List Int)) (j : Nat) (C : List (List Int)) : Prop where
  asc : C.Pairwise fun a b => lessL a b = true
  mem : ∀ x, x ∈ C ↔ x ∈ M.take j
theorem le_last {M : List (List Int)} (hM : M.Pairwise fun x y => lessL y x = false) {j : Nat} (hj : j < M.length) (h1 : 1 ≤ j) {x : List Int} (hx : x ∈ M.take j) : lessL (M.getD (j - 1) []) x = false := by
  obtain ⟨i, hi, rfl⟩ := List.getElem_of_mem hx
  have hi' : i < j := by rw [List.length_take] at hi; omega
  rw [List.getElem_take, List.getD_eq_getElem?_getD, List.getElem?_eq_getElem (by omega)]
  by_cases e : i = j - 1
  · subst e; exact less_irr _
  · exact List.pairwise_iff_getElem.1 hM i (j - 1) (by omega) (by omega) (by omega)
theorem take_mem {M : List (List Int)} {j : Nat} (hj : j < M.length) {x : List Int} : x ∈ M.take (j + 1) ↔ x ∈ M.take j ∨ x = M.getD j [] := by
  rw [List.take_succ_eq_append_getElem hj, List.mem_append, List.getD_eq_getElem?_getD, List.getElem?_eq_getElem hj]; simp
theorem Comp.skip {M C : List (List Int)} {j : Nat} (h : Comp M j C) (hj : j < M.length) (h1 : 1 ≤ j) (he : M.getD j [] = M.getD (j - 1) []) : Comp M (j + 1) C := by
  refine ⟨h.asc, fun x => ?_⟩
  rw [take_mem hj, h.mem]
  refine ⟨.inl, fun hx => hx.elim id fun e => ?_⟩
  rw [e, he]
  have : j - 1 < (M.take j).length := by rw [List.length_take]; omega
  have hm := List.getElem_mem this
  rw [List.getElem_take] at hm
  rw [List.getD_eq_getElem?_getD, List.getElem?_eq_getElem (by omega)]; exact hm
theorem Comp.keep {M C : List (List Int)} {j : Nat} (h : Comp M j C) (hM : M.Pairwise fun x y => lessL y x = false) (hj : j < M.length) (h1 : 1 ≤ j) (he : M.getD j [] ≠ M.getD (j - 1) []) : Comp M (j + 1) (C ++ [M.getD j []]) := by
  refine ⟨?_, fun x => by rw [take_mem hj, List.mem_append, h.mem]; simp⟩
  rw [List.pairwise_append]
  refine ⟨h.asc, by simp, fun x hx y hy => ?_⟩
  have hy' : y = M.getD j [] := by simpa using hy
  subst hy'
  have hlt : lessL (M.getD (j - 1) []) (M.getD j []) = true := by
    cases h3 : lessL (M.getD (j - 1) []) (M.getD j []) with
    | true => rfl
    | false =>
      have h2 : lessL (M.getD j []) (M.getD (j - 1) []) = false := by
        have := List.pairwise_iff_getElem.1 hM (j - 1) j (by omega) hj (by omega)
        rw [List.getD_eq_getElem?_getD, List.getD_eq_getElem?_getD, List.getElem?_eq_getElem hj, List.getElem?_eq_getElem (by omega)]; exact this
      exact absurd (less_tri h2 h3) he
  have h2 := le_last hM hj h1 ((h.mem x).1 hx)
  cases h3 : lessL x (M.getD (j - 1) []) with
  | true => exact less_trans h3 hlt
  | false => rw [less_tri h3 h2]; exact hlt
theorem Comp.one {M : List (List Int)} (h : 1 ≤ M.length) : Comp M 1 (M.take 1) := by
  refine ⟨?_, fun x => Iff.rfl⟩
  cases M with
  | nil => simp at h
  | cons a t => simp
theorem Comp.next {M : List (List Int)} {j : Nat} (h : Comp M j (M.take j)) (hM : M.Pairwise fun x y => lessL y x = false) (hj : j < M.length) (h1 : 1 ≤ j) (he : M.getD j [] ≠ M.getD (j - 1) []) : Comp M (j + 1) (M.take (j + 1)) := by
  have := h.keep hM hj h1 he
  rw [List.take_succ_eq_append_getElem hj]
  rw [List.getD_eq_getElem?_getD (l := M) (i := j), List.getElem?_eq_getElem hj] at this
  exact this
theorem cd_get {M C : List (List Int)} {k i : Nat} (hC : C.length = k) (hi : k ≤ i) : (C ++ M.drop k).getD i [] = M.getD i [] := by
  rw [List.getD_eq_getElem?_getD, List.getElem?_append_right (by omega), List.getElem?_drop, hC, show k + (i - k) = i by omega, ← List.getD_eq_getElem?_getD]
theorem cd_len {M C : List (List Int)} {k : Nat} (hC : C.length = k) (hk : k ≤ M.length) : (C ++ M.drop k).length = M.length := by rw [List.length_append, List.length_drop]; omega
theorem cd_set {M C : List (List Int)} {k : Nat} {l : List Int} (hC : C.length = k) (hk : k < M.length) : (C ++ M.drop k).set k l = (C ++ [l]) ++ M.drop (k + 1) := by
  rw [List.set_append_right _ _ (by omega), hC, Nat.sub_self, List.drop_eq_getElem_cons hk, List.set_cons_zero, List.append_assoc]; rfl

set_option maxHeartbeats 800000 in
set_option maxRecDepth 100000 in
theorem compact_any (w : World) (B g n cap : Nat) (M : List (List Int)) (h : OwnL w B (.slice (some ⟨g, 0, none⟩) n cap) M) (h1 : 1 ≤ n) (hn1 : n ≤ 1000) (hs : ∀ l, l ∈ M → l.length ≤ 1000) (hM : M.Pairwise fun x y => lessL y x = false) :
    Calls Tryd.prog 53 #[.slice (some ⟨g, 0, none⟩) n cap, .func (.func 33) #[] #[]] w fun e w' =>
      ∃ k, e = .returned (.slice (some ⟨g, 0, none⟩) k cap) ∧ ∃ C : List (List Int), C.length = k ∧ 1 ≤ k ∧ k ≤ n ∧ C.Pairwise (fun a b => lessL a b = true) ∧ (∀ x, x ∈ C ↔ x ∈ M) ∧ OwnL w' B (.slice (some ⟨g, 0, none⟩) k cap) C ∧ Below B w w' := by
  obtain ⟨hn, hnc, hcm, hB, hg⟩ := ownL_form h
  have hcm' : cap ≤ 9223372036854775807 := Nat.le_trans hcm (by unfold maxLen; omega)
  have ALL : Hid (Comp M n (M.take n) → (∀ x, x ∈ M ↔ x ∈ M) ∧ M.Pairwise (fun a b => lessL a b = true)) := fun hc => by
    rw [hn, List.take_length] at hc
    exact ⟨fun x => Iff.rfl, hc.asc⟩
  have HO := Lib.hid (show _ ∧ _ from ⟨h, hn⟩)
  have HS := Lib.hid (show _ ∧ _ from ⟨hs, hM⟩)
  have GB := Lib.hid hB
  clear h hn hs hM hcm hB
  by_cases h2 : n < 2
  · have hn' : n = 1 := by omega
    have HC := Lib.hid (ALL.out (by rw [hn']; exact Comp.one (by have := HO.out.2; omega)))
    clear hn'
    go_enter Tryd.func53, Tryd.ntmps53
    go_wp2
    go_ret
    exact ⟨n, rfl, M, HO.out.2.symm, h1, Nat.le_refl _, HC.out.2, fun x => Iff.rfl, HO.out.1, Below.refl _ _⟩
  · go_enter Tryd.func53, Tryd.ntmps53
    go_wp2_with fail
    go_loopw [5] (fun i wr => ∃ k : Nat, 1 ≤ k ∧ k ≤ n ∧ i = .int .i64 k ∧ OwnL wr B (.slice (some ⟨g, 0, none⟩) n cap) M ∧ Below B w wr ∧ Comp M k (M.take k)) (fun i _ => n - (intOf i).toNat)
    case atStart => exact ⟨1, Nat.le_refl _, h1, rfl, HO.out.1, Below.refl _ _, Comp.one (by have := HO.out.2; omega)⟩
    case round =>
      obtain ⟨k, hk1, hk, rfl, q1, q2, q3⟩ := hrel
      have HQ := Lib.hid (show _ ∧ _ ∧ _ from ⟨q1, q2, q3⟩)
      clear q1 q2 q3
      by_cases hkn : k < n
      · obtain ⟨ua, uc, lu, hu1, hu2, hu3, hu4, hu5, -⟩ := ownL_at HQ.out.1 (i := k) (by have := HO.out.2; omega)
        obtain ⟨va, vc, lv, hv1, hv2, hv3, hv4, hv5, -⟩ := ownL_at HQ.out.1 (i := k - 1) (by have := HO.out.2; omega)
        have sm : lu.length ≤ 1000 ∧ lv.length ≤ 1000 := by
          have := HO.out.2
          refine ⟨HS.out.1 _ ?_, HS.out.1 _ ?_⟩
          · rw [← hu1, List.getD_eq_getElem?_getD, List.getElem?_eq_getElem (by omega)]; exact List.getElem_mem _
          · rw [← hv1, List.getD_eq_getElem?_getD, List.getElem?_eq_getElem (by omega)]; exact List.getElem_mem _
        have SM := Lib.hid sm
        have RU := Lib.hid hu3
        have RV := Lib.hid hv3
        have NE := Lib.hid (show _ ∧ _ from ⟨hu4, hv4⟩)
        have EU := Lib.hid (show _ ∧ _ from ⟨hu1, hv1⟩)
        clear sm hu1 hu3 hu4 hu5 hv1 hv3 hv4 hv5
        obtain ⟨nu, hnu⟩ : ∃ nu, nu = lu.length := ⟨_, rfl⟩
        obtain ⟨nv, hnv⟩ : ∃ nv, nv = lv.length := ⟨_, rfl⟩
        rw [← hnu] at hu2 RU
        rw [← hnv] at hv2 RV
        clear hnu hnv
        by_cases hdup : lu = lv
        · have HD : Hid (decide (lu = lv) = true) := decide_eq_true hdup
          have HEQ := Lib.hid hdup
          clear hdup
          have qhu2 : ∀ QQ : Wd (fun W => Hid (∃ q, W = wr.drewN q)), QQ.w.cell? ⟨g, k, none⟩ = some (.slice ua nu uc) := fun QQ => by obtain ⟨q, hq⟩ := QQ.ok; rw [hq]; exact hu2
          have qhv2 : ∀ QQ : Wd (fun W => Hid (∃ q, W = wr.drewN q)), QQ.w.cell? ⟨g, k - 1, none⟩ = some (.slice va nv vc) := fun QQ => by obtain ⟨q, hq⟩ := QQ.ok; rw [hq]; exact hv2
          have hne : Nonempty (Wd (fun W => Hid (∃ q, W = wr.drewN q))) := ⟨⟨wr.drew, Lib.hid ⟨1, rfl⟩⟩⟩
          clear hu2 hv2
          go_wp2_with fail
          refine chain (S := (fun W => Hid (∃ q, W = wr.drewN q))) [([true, true, true, true, true, true, true, true, true, true], 10)] [] (by kernel_rfl) (by kernel_rfl) (by kernel_rfl) (Lib.hid ⟨1, rfl⟩) ?_
          simp only [wpSegs, pickB, List.dropLast_cons_cons, List.dropLast_singleton, List.getLast?_cons_cons, List.getLast?_singleton, List.toList_toArray, List.getElem?_toArray, List.getElem?_cons_succ, List.getElem?_cons_zero, Option.toList_some]
          repeat (go_big_quiet_step (fail))
          refine wpQuiet_nil ?_
          intro K hK
          go_wp2_with fail
          with_reducible refine (equal_any _ _ lu lv _ (RU.out.below ((Below.refl _ _).drew) (Nat.le_refl _)) (RV.out.below ((Below.refl _ _).drew) (Nat.le_refl _)) NE.out.1 NE.out.2 (by have := SM.out; omega) (by have := SM.out; omega)).mono ?_
          rintro er wz ⟨rfl, q, rfl⟩
          rw [HD.out]
          go_wp2_with fail
          refine hK _ _ (Lib.hid ⟨1 + q, rfl⟩) ?_
          clear hK K
          repeat (go_big_quiet_step (fail))
          refine wpQuiet_nil ?_
          clear qhu2 qhv2 hne
          have ST : Hid (∃ C, C.length = k ∧ Comp M (k + 1) C ∧ OwnL (wr.drewN (1 + q)) B (.slice (some ⟨g, 0, none⟩) n cap) (C ++ M.drop k) ∧ Below B w (wr.drewN (1 + q))) :=
            ⟨M.take k, by rw [List.length_take]; have := HO.out.2; omega, HQ.out.2.2.skip (by have := HO.out.2; omega) hk1 (by rw [EU.out.1, EU.out.2]; exact HEQ.out), by rw [List.take_append_drop]; exact HQ.out.1.below (below_drewN (Below.refl _ _) (1 + q)) (Nat.le_refl _), below_drewN HQ.out.2.1 (1 + q)⟩
          clear HQ RU RV NE EU SM HD HEQ
          go_wp2_with fail
          go_loopw [5, 7] (fun i j wr => ∃ (kk k2 : Nat) (C : List (List Int)), i = .int .i64 kk ∧ j = .int .i64 k2 ∧ 1 ≤ k2 ∧ 1 ≤ kk ∧ kk + 1 ≤ k + k2 ∧ k + k2 ≤ n ∧ C.length = kk ∧ Comp M (k + k2) C ∧ OwnL wr B (.slice (some ⟨g, 0, none⟩) n cap) (C ++ M.drop kk) ∧ Below B w wr) (fun _ j _ => n - k - (intOf j).toNat)
          case atStart =>
            obtain ⟨C, z1, z2, z3, z4⟩ := ST.out
            exact ⟨k, 1, C, rfl, rfl, Nat.le_refl _, hk1, Nat.le_refl _, by omega, z1, z2, z3, z4⟩
          case round =>
            clear ST
            obtain ⟨kk, k2, C, rfl, rfl, h21, hkk1, hkk, hk2, z1, z2, z3, z4⟩ := hrel
            have HQ := Lib.hid (show _ ∧ _ ∧ _ ∧ _ from ⟨z1, z2, z3, z4⟩)
            clear z1 z2 z3 z4
            have hlen : (C ++ M.drop kk).length = n := by rw [cd_len HQ.out.1 (by have := HO.out.2; omega)]; exact HO.out.2.symm
            have HLN := Lib.hid hlen
            clear hlen
            by_cases hj : k + k2 < n
            · obtain ⟨xa, xc, lx, hx1, hx2, hx3, hx4, hx5, -⟩ := ownL_at HQ.out.2.2.1 (i := k + k2) (by have := HLN.out; omega)
              obtain ⟨ya, yc, ly, hy1, hy2, hy3, hy4, -, -⟩ := ownL_at HQ.out.2.2.1 (i := k + k2 - 1) (by have := HLN.out; omega)
              obtain ⟨oa, oc, lo, -, ho2, -, -, -, hof⟩ := ownL_at HQ.out.2.2.1 (i := kk) (by have := HLN.out; omega)
              rw [cd_get HQ.out.1 (by omega)] at hx1 hy1
              have sx : lx.length ≤ 1000 ∧ ly.length ≤ 1000 := by
                have := HO.out.2
                refine ⟨HS.out.1 _ ?_, HS.out.1 _ ?_⟩
                · rw [← hx1, List.getD_eq_getElem?_getD, List.getElem?_eq_getElem (by omega)]; exact List.getElem_mem _
                · rw [← hy1, List.getD_eq_getElem?_getD, List.getElem?_eq_getElem (by omega)]; exact List.getElem_mem _
              rw [show k + k2 - 1 = k + (k2 - 1) by omega] at hy2
              have SX := Lib.hid sx
              have RX := Lib.hid hx3
              have RY := Lib.hid hy3
              have NX := Lib.hid (show _ ∧ _ from ⟨hx4, hy4⟩)
              have XB := Lib.hid hx5
              have EX := Lib.hid (show _ ∧ _ from ⟨hx1, hy1⟩)
              clear sx hx1 hx3 hx4 hx5 hy1 hy3 hy4
              obtain ⟨nx, hnx⟩ : ∃ nx, nx = lx.length := ⟨_, rfl⟩
              obtain ⟨ny, hny⟩ : ∃ ny, ny = ly.length := ⟨_, rfl⟩
              obtain ⟨no, hno⟩ : ∃ no, no = lo.length := ⟨_, rfl⟩
              rw [← hnx] at hx2 RX XB
              rw [← hny] at hy2 RY
              rw [← hno] at ho2
              clear hnx hny hno
              by_cases hdup : lx = ly
              · have HD : Hid (decide (lx = ly) = true) := decide_eq_true hdup
                have HEQ := Lib.hid hdup
                clear ho2 hof hdup
                have qhx2 : ∀ QQ : Wd (fun W => Hid (∃ q, W = wr.drewN q)), QQ.w.cell? ⟨g, k + k2, none⟩ = some (.slice xa nx xc) := fun QQ => by obtain ⟨q, hq⟩ := QQ.ok; rw [hq]; exact hx2
                have qhy2 : ∀ QQ : Wd (fun W => Hid (∃ q, W = wr.drewN q)), QQ.w.cell? ⟨g, k + (k2 - 1), none⟩ = some (.slice ya ny yc) := fun QQ => by obtain ⟨q, hq⟩ := QQ.ok; rw [hq]; exact hy2
                have hne : Nonempty (Wd (fun W => Hid (∃ q, W = wr.drewN q))) := ⟨⟨wr.drew, Lib.hid ⟨1, rfl⟩⟩⟩
                clear hx2 hy2
                go_wp2_with fail
                refine chain (S := (fun W => Hid (∃ q, W = wr.drewN q))) [([true, true, true, true, true, true, true, true, true, true], 10)] [false, false, false, false, false, false, false, false, false, false, false, true] (by kernel_rfl) (by kernel_rfl) (by kernel_rfl) (Lib.hid ⟨1, rfl⟩) ?_
                simp only [wpSegs, pickB, List.dropLast_cons_cons, List.dropLast_singleton, List.getLast?_cons_cons, List.getLast?_singleton, List.toList_toArray, List.getElem?_toArray, List.getElem?_cons_succ, List.getElem?_cons_zero, Option.toList_some]
                repeat (go_big_quiet_step (fail))
                refine wpQuiet_nil ?_
                intro K hK
                go_wp2_with fail
                with_reducible refine (equal_any _ _ lx ly _ (RX.out.below ((Below.refl _ _).drew) (Nat.le_refl _)) (RY.out.below ((Below.refl _ _).drew) (Nat.le_refl _)) NX.out.1 NX.out.2 (by have := SX.out; omega) (by have := SX.out; omega)).mono ?_
                rintro er wz ⟨rfl, q, rfl⟩
                rw [HD.out]
                go_wp2_with fail
                refine hK _ _ (Lib.hid ⟨1 + q, rfl⟩) ?_
                clear hK K
                repeat (go_big_quiet_step (fail))
                refine wpQuiet_nil ?_
                clear qhx2 qhy2 hne
                have R2 : Hid (Comp M (k + (k2 + 1)) C ∧ OwnL (wr.drewN (1 + q)) B (.slice (some ⟨g, 0, none⟩) n cap) (C ++ M.drop kk) ∧ Below B w (wr.drewN (1 + q))) :=
                  ⟨HQ.out.2.1.skip (by have := HO.out.2; omega) (by omega) (by rw [EX.out.1, EX.out.2]; exact HEQ.out), HQ.out.2.2.1.below (below_drewN (Below.refl _ _) (1 + q)) (Nat.le_refl _), below_drewN HQ.out.2.2.2 (1 + q)⟩
                go_wp2
                go_roundw
                case rel => exact ⟨kk, k2 + 1, C, rfl, by go_num, by omega, hkk1, by omega, by omega, HQ.out.1, R2.out⟩
                case measure => simp [intOf]; omega
              · have HD : Hid (decide (lx = ly) = false) := decide_eq_false hdup
                have R1 : Hid (Comp M (k + (k2 + 1)) (C ++ [lx])) := by
                  have := HQ.out.2.1.keep HS.out.2 (by have := HO.out.2; omega) (by omega) (by rw [EX.out.1, EX.out.2]; exact hdup)
                  rw [EX.out.1] at this; exact this
                clear hdup
                have qhx2 : ∀ QQ : Wd (fun W => Hid (∃ q, W = wr.drewN q)), QQ.w.cell? ⟨g, k + k2, none⟩ = some (.slice xa nx xc) := fun QQ => by obtain ⟨q, hq⟩ := QQ.ok; rw [hq]; exact hx2
                have qhy2 : ∀ QQ : Wd (fun W => Hid (∃ q, W = wr.drewN q)), QQ.w.cell? ⟨g, k + (k2 - 1), none⟩ = some (.slice ya ny yc) := fun QQ => by obtain ⟨q, hq⟩ := QQ.ok; rw [hq]; exact hy2
                have hne : Nonempty (Wd (fun W => Hid (∃ q, W = wr.drewN q))) := ⟨⟨wr.drew, Lib.hid ⟨1, rfl⟩⟩⟩
                have hxk := hx2
                clear hx2 hy2
                go_wp2_with fail
                refine chain (S := (fun W => Hid (∃ q, W = wr.drewN q))) [([true, true, true, true, true, true, true, true, true, true], 10)] [false, false, false, false, false, false, false, false, false, false, false, true] (by kernel_rfl) (by kernel_rfl) (by kernel_rfl) (Lib.hid ⟨1, rfl⟩) ?_
                simp only [wpSegs, pickB, List.dropLast_cons_cons, List.dropLast_singleton, List.getLast?_cons_cons, List.getLast?_singleton, List.toList_toArray, List.getElem?_toArray, List.getElem?_cons_succ, List.getElem?_cons_zero, Option.toList_some]
                repeat (go_big_quiet_step (fail))
                refine wpQuiet_nil ?_
                intro K hK
                go_wp2_with fail
                with_reducible refine (equal_any _ _ lx ly _ (RX.out.below ((Below.refl _ _).drew) (Nat.le_refl _)) (RY.out.below ((Below.refl _ _).drew) (Nat.le_refl _)) NX.out.1 NX.out.2 (by have := SX.out; omega) (by have := SX.out; omega)).mono ?_
                rintro er wz ⟨rfl, q, rfl⟩
                rw [HD.out]
                go_wp2_with fail
                refine hK _ _ (Lib.hid ⟨1 + q, rfl⟩) ?_
                clear hK K
                repeat (go_big_quiet_step (fail))
                refine wpQuiet_nil ?_
                clear qhx2 qhy2 hne
                have hx9 : (wr.drewN (1 + q)).cell? ⟨g, k + k2, none⟩ = some (.slice xa nx xc) := hxk
                have ho9 : (wr.drewN (1 + q)).cell? ⟨g, kk, none⟩ = some (.slice oa no oc) := ho2
                have hf9 : (wr.drewN (1 + q)).frozen? ⟨g, kk, none⟩ = false := hof
                have R2 : Hid (OwnL ((wr.drewN (1 + q)).setCell ⟨g, kk, none⟩ (.slice xa nx xc)) B (.slice (some ⟨g, 0, none⟩) n cap) ((C ++ [lx]) ++ M.drop (kk + 1)) ∧ Below B w ((wr.drewN (1 + q)).setCell ⟨g, kk, none⟩ (.slice xa nx xc))) := by
                  have y := ownL_set (i := kk) (l := lx) (u := .slice xa nx xc) (HQ.out.2.2.1.below (below_drewN (Below.refl _ _) (1 + q)) (Nat.le_refl _)) (by have := HLN.out; omega) (RX.out.below (below_drewN (Below.refl _ _) (1 + q)) (Nat.le_refl _)) NX.out.1 XB.out
                  rw [cd_set HQ.out.1 (by have := HO.out.2; omega)] at y
                  exact ⟨y, (below_drewN HQ.out.2.2.2 (1 + q)).setCell GB.out _⟩
                have R3 : Hid ((C ++ [lx]).length = kk + 1) := by rw [Hid, List.length_append, HQ.out.1]; rfl
                clear hxk ho2 hof
                go_wp2
                go_roundw
                case rel => exact ⟨kk + 1, k2 + 1, C ++ [lx], by go_num, by go_num, by omega, by omega, by omega, by omega, R3.out, R1.out, R2.out⟩
                case measure => simp [intOf]; omega
            · have hend : k + k2 = n := by omega
              have hcl : ∀ ty, (Builtin.clear_ #[51] ty #[.slice (some ⟨g, kk, none⟩) (n - kk) (cap - kk)]).run Tryd.prog wr = .ok (.tuple #[]) (wr.setCells g kk (List.replicate (n - kk) (.slice none 0 0))) := fun ty =>
                Go.Lib.run_clear_slice wr _ _ ty _ Tryd.underlying51 Tryd.zeroValue25 rfl rfl g kk _ _ (by omega) (fun j hj2 => by
                  obtain ⟨_, _, _, -, hz, -⟩ := ownL_at HQ.out.2.2.1 (i := kk + j) (by have := HLN.out; omega)
                  rw [hz]; rfl) (fun j hj2 => by
                  obtain ⟨_, _, _, -, -, -, -, -, hz⟩ := ownL_at HQ.out.2.2.1 (i := kk + j) (by have := HLN.out; omega)
                  exact hz)
              have RES : Hid (OwnL (wr.setCells g kk (List.replicate (n - kk) (.slice none 0 0))) B (.slice (some ⟨g, 0, none⟩) kk cap) C ∧ Below B w (wr.setCells g kk (List.replicate (n - kk) (.slice none 0 0)))) := by
                obtain ⟨y1, y2⟩ := ownL_cut (k := kk) (vs := List.replicate (n - kk) (.slice none 0 0)) HQ.out.2.2.1 (by omega)
                rw [List.take_append_of_le_length (by have := HQ.out.1; omega), List.take_of_length_le (by have := HQ.out.1; omega)] at y1
                exact ⟨y1, HQ.out.2.2.2.trans y2⟩
              have FIN : Hid (∀ x, x ∈ C ↔ x ∈ M) := fun x => by rw [HQ.out.2.1.mem, hend, HO.out.2, List.take_length]
              go_wp2
              go_ret
              exact ⟨kk, rfl, C, HQ.out.1, hkk1, by omega, HQ.out.2.1.asc, FIN.out, RES.out.1, RES.out.2⟩
        · have HD : Hid (decide (lu = lv) = false) := decide_eq_false hdup
          have R1 : Hid (Comp M (k + 1) (M.take (k + 1))) := HQ.out.2.2.next HS.out.2 (by have := HO.out.2; omega) hk1 (by rw [EU.out.1, EU.out.2]; exact hdup)
          clear hdup
          have qhu2 : ∀ QQ : Wd (fun W => Hid (∃ q, W = wr.drewN q)), QQ.w.cell? ⟨g, k, none⟩ = some (.slice ua nu uc) := fun QQ => by obtain ⟨q, hq⟩ := QQ.ok; rw [hq]; exact hu2
          have qhv2 : ∀ QQ : Wd (fun W => Hid (∃ q, W = wr.drewN q)), QQ.w.cell? ⟨g, k - 1, none⟩ = some (.slice va nv vc) := fun QQ => by obtain ⟨q, hq⟩ := QQ.ok; rw [hq]; exact hv2
          have hne : Nonempty (Wd (fun W => Hid (∃ q, W = wr.drewN q))) := ⟨⟨wr.drew, Lib.hid ⟨1, rfl⟩⟩⟩
          clear hu2 hv2
          go_wp2_with fail
          refine chain (S := (fun W => Hid (∃ q, W = wr.drewN q))) [([true, true, true, true, true, true, true, true, true, true], 10)] [] (by kernel_rfl) (by kernel_rfl) (by kernel_rfl) (Lib.hid ⟨1, rfl⟩) ?_
          simp only [wpSegs, pickB, List.dropLast_cons_cons, List.dropLast_singleton, List.getLast?_cons_cons, List.getLast?_singleton, List.toList_toArray, List.getElem?_toArray, List.getElem?_cons_succ, List.getElem?_cons_zero, Option.toList_some]
          repeat (go_big_quiet_step (fail))
          refine wpQuiet_nil ?_
          intro K hK
          go_wp2_with fail
          with_reducible refine (equal_any _ _ lu lv _ (RU.out.below ((Below.refl _ _).drew) (Nat.le_refl _)) (RV.out.below ((Below.refl _ _).drew) (Nat.le_refl _)) NE.out.1 NE.out.2 (by have := SM.out; omega) (by have := SM.out; omega)).mono ?_
          rintro er wz ⟨rfl, q, rfl⟩
          rw [HD.out]
          go_wp2_with fail
          refine hK _ _ (Lib.hid ⟨1 + q, rfl⟩) ?_
          clear hK K
          repeat (go_big_quiet_step (fail))
          refine wpQuiet_nil ?_
          clear qhu2 qhv2 hne
          have R2 : Hid (OwnL (wr.drewN (1 + q)) B (.slice (some ⟨g, 0, none⟩) n cap) M ∧ Below B w (wr.drewN (1 + q))) := ⟨HQ.out.1.below (below_drewN (Below.refl _ _) (1 + q)) (Nat.le_refl _), below_drewN HQ.out.2.1 (1 + q)⟩
          go_wp2
          go_roundw
          case rel => exact ⟨k + 1, by omega, by omega, by go_num, R2.out.1, R2.out.2, R1.out⟩
          case measure => simp [intOf]; omega
      · obtain rfl : n = k := by omega
        have HC := Lib.hid (ALL.out HQ.out.2.2)
        go_wp2
        go_ret
        exact ⟨n, rfl, M, HO.out.2.symm, h1, Nat.le_refl _, HC.out.2, fun x => Iff.rfl, HQ.out.1, HQ.out.2.1⟩
end Go.Proofs.YtglehegjimhbjaaDoor.cmp
