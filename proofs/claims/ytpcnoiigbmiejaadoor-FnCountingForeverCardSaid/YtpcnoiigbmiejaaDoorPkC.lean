/- Several texts in one: Cw, Bij, Kuhn, Lev, LevT, LevG, LevW, Pst, Ptn. -/
import Derived.Test.YtpcnoiigbmiejaaDoorGame
import Derived.Test.YtpcnoiigbmiejaaDoorPkT
/- Games with pebbles, with and without counting, in plain words. No program in sight. -/
namespace Go.Proofs.YtpcnoiigbmiejaaDoor.peb
set_option linter.unusedVariables false
set_option linter.unusedSimpArgs false
open Go.Proofs.YtpcnoiigbmiejaaDoor.game

/-- one element to one, all of them -/
def Bij (n m : Nat) (f g : Nat → Nat) : Prop := (∀ x, x < n → f x < m ∧ g (f x) = x) ∧ ∀ y, y < m → g y < n ∧ f (g y) = y
theorem Bij.refl (n : Nat) : Bij n n id id := ⟨fun _ h => ⟨h, rfl⟩, fun _ h => ⟨h, rfl⟩⟩
theorem Bij.symm {n m : Nat} {f g : Nat → Nat} (h : Bij n m f g) : Bij m n g f := ⟨h.2, h.1⟩
theorem Bij.trans {n m k : Nat} {f g p q : Nat → Nat} (h : Bij n m f g) (h2 : Bij m k p q) : Bij n k (p ∘ f) (g ∘ q) :=
  ⟨fun x hx => by
    have h3 := h.1 x hx
    have h4 := h2.1 _ h3.1
    exact ⟨h4.1, by show g (q (p (f x))) = x; rw [h4.2, h3.2]⟩, fun z hz => by
    have h3 := h2.2 z hz
    have h4 := h.2 _ h3.1
    exact ⟨h4.1, by show p (f (g (q z))) = z; rw [h4.2, h3.2]⟩⟩
theorem Bij.le {n m : Nat} {f g : Nat → Nat} (h : Bij n m f g) : n ≤ m := by
  have hn : ((List.range n).map f).Nodup := by
    rw [List.nodup_iff_pairwise_ne, List.pairwise_map]
    have := List.nodup_range (n := n)
    rw [List.nodup_iff_pairwise_ne] at this
    refine this.imp_of_mem fun {a b} ha hb hab e => hab ?_
    have ha := (h.1 a (List.mem_range.1 ha)).2
    have hb := (h.1 b (List.mem_range.1 hb)).2
    rw [← ha, ← hb, e]
  have := hn.length_le_of_subset (l₂ := List.range m) (fun y hy => by
    obtain ⟨x, hx, rfl⟩ := List.mem_map.1 hy
    exact List.mem_range.2 (h.1 x (List.mem_range.1 hx)).1)
  simpa using this
theorem Bij.eq {n m : Nat} {f g : Nat → Nat} (h : Bij n m f g) : n = m := Nat.le_antisymm h.le h.symm.le

/-- places of pebbles: 0 beside, x + 1 on the element x; both structures' places are in the same way -/
structure Fit (A B : Gr) (ps bs : List Nat) : Prop where
  len : ps.length = bs.length
  lay : ∀ i, i < ps.length → (ps.getD i 0 = 0 ↔ bs.getD i 0 = 0) ∧ ps.getD i 0 ≤ A.n ∧ bs.getD i 0 ≤ B.n
  set : ∀ i, i < ps.length → ps.getD i 0 ≠ 0 → A.S (ps.getD i 0 - 1) = B.S (bs.getD i 0 - 1)
  rel : ∀ i j, i < ps.length → j < ps.length → ps.getD i 0 ≠ 0 → ps.getD j 0 ≠ 0 → (ps.getD i 0 = ps.getD j 0 ↔ bs.getD i 0 = bs.getD j 0) ∧ A.R (ps.getD i 0 - 1) (ps.getD j 0 - 1) = B.R (bs.getD i 0 - 1) (bs.getD j 0 - 1)
theorem Fit.symm {A B : Gr} {ps bs : List Nat} (h : Fit A B ps bs) : Fit B A bs ps where
  len := h.len.symm
  lay := fun i hi => by rw [← h.len] at hi; obtain ⟨a, b, c⟩ := h.lay i hi; exact ⟨a.symm, c, b⟩
  set := fun i hi hn => by rw [← h.len] at hi; exact (h.set i hi (fun e => hn ((h.lay i hi).1.1 e))).symm
  rel := fun i j hi hj hni hnj => by
    rw [← h.len] at hi hj
    obtain ⟨a, b⟩ := h.rel i j hi hj (fun e => hni ((h.lay i hi).1.1 e)) (fun e => hnj ((h.lay j hj).1.1 e))
    exact ⟨a.symm, b.symm⟩
theorem Fit.trans {A B C : Gr} {ps bs cs : List Nat} (h : Fit A B ps bs) (h2 : Fit B C bs cs) : Fit A C ps cs where
  len := h.len.trans h2.len
  lay := fun i hi => by
    have hb : i < bs.length := by rw [← h.len]; exact hi
    obtain ⟨a, b, _⟩ := h.lay i hi
    obtain ⟨a2, _, c2⟩ := h2.lay i hb
    exact ⟨a.trans a2, b, c2⟩
  set := fun i hi hn => by
    have hb : i < bs.length := by rw [← h.len]; exact hi
    exact (h.set i hi hn).trans (h2.set i hb (fun e => hn ((h.lay i hi).1.2 e)))
  rel := fun i j hi hj hni hnj => by
    have hbi : i < bs.length := by rw [← h.len]; exact hi
    have hbj : j < bs.length := by rw [← h.len]; exact hj
    obtain ⟨a, b⟩ := h.rel i j hi hj hni hnj
    obtain ⟨a2, b2⟩ := h2.rel i j hbi hbj (fun e => hni ((h.lay i hi).1.2 e)) (fun e => hnj ((h.lay j hj).1.2 e))
    exact ⟨a.trans a2, b.trans b2⟩
/-- places on a structure -/
def Ok (A : Gr) (ps : List Nat) : Prop := ∀ i, i < ps.length → ps.getD i 0 ≤ A.n
theorem Fit.refl {A : Gr} {ps : List Nat} (h : Ok A ps) : Fit A A ps ps where
  len := rfl
  lay := fun i hi => ⟨Iff.rfl, h i hi, h i hi⟩
  set := fun _ _ _ => rfl
  rel := fun _ _ _ _ _ _ => ⟨Iff.rfl, rfl⟩
theorem Fit.ok {A B : Gr} {ps bs : List Nat} (h : Fit A B ps bs) : Ok A ps := fun i hi => (h.lay i hi).2.1
/-- a pebble is put -/
theorem get_set {ps : List Nat} {i j v : Nat} (hi : i < ps.length) : (ps.set i v).getD j 0 = if i = j then v else ps.getD j 0 := by
  rw [List.getD_eq_getElem?_getD, List.getD_eq_getElem?_getD, List.getElem?_set]
  by_cases h : i = j
  · subst h; rw [if_pos rfl, if_pos rfl, if_pos hi]; rfl
  · rw [if_neg h, if_neg h]
theorem Ok.put {A : Gr} {ps : List Nat} (h : Ok A ps) {i v : Nat} (hi : i < ps.length) (hv : v ≤ A.n) : Ok A (ps.set i v) := fun j hj => by
  rw [List.length_set] at hj
  rw [get_set hi]
  split
  · exact hv
  · exact h j hj
theorem set_set {ps : List Nat} {i v u : Nat} : (ps.set i v).set i u = ps.set i u := by simp
/-- the second player wins a counting game of so many turns -/
def Cw (A B : Gr) : Nat → List Nat → List Nat → Prop
  | 0, ps, bs => Fit A B ps bs
  | n + 1, ps, bs => Fit A B ps bs ∧ ∀ i, i < ps.length → ∃ f g, Bij A.n B.n f g ∧ ∀ x, x < A.n → Cw A B n (ps.set i (x + 1)) (bs.set i (f x + 1))
/-- the same without counting -/
def Pw (A B : Gr) : Nat → List Nat → List Nat → Prop
  | 0, ps, bs => Fit A B ps bs
  | n + 1, ps, bs => Fit A B ps bs ∧ ∀ i, i < ps.length → (∀ x, x < A.n → ∃ y, y < B.n ∧ Pw A B n (ps.set i (x + 1)) (bs.set i (y + 1))) ∧ ∀ y, y < B.n → ∃ x, x < A.n ∧ Pw A B n (ps.set i (x + 1)) (bs.set i (y + 1))
section
variable {A B C : Gr}
theorem Cw.fit : ∀ {n : Nat} {ps bs : List Nat}, Cw A B n ps bs → Fit A B ps bs
  | 0, _, _, h => h
  | _ + 1, _, _, h => h.1
theorem Pw.fit : ∀ {n : Nat} {ps bs : List Nat}, Pw A B n ps bs → Fit A B ps bs
  | 0, _, _, h => h
  | _ + 1, _, _, h => h.1
theorem Cw.less : ∀ {n : Nat} {ps bs : List Nat}, Cw A B (n + 1) ps bs → Cw A B n ps bs
  | 0, _, _, h => h.1
  | n + 1, ps, bs, h => ⟨h.1, fun i hi => by
    obtain ⟨f, g, hb, hc⟩ := h.2 i hi
    exact ⟨f, g, hb, fun x hx => (hc x hx).less⟩⟩
theorem Cw.le {n m : Nat} {ps bs : List Nat} (h : Cw A B n ps bs) (hm : m ≤ n) : Cw A B m ps bs := by
  induction n with
  | zero => obtain rfl : m = 0 := by omega
            exact h
  | succ n ih =>
    by_cases e : m = n + 1
    · rw [e]; exact h
    · exact ih h.less (by omega)
theorem Pw.less : ∀ {n : Nat} {ps bs : List Nat}, Pw A B (n + 1) ps bs → Pw A B n ps bs
  | 0, _, _, h => h.1
  | n + 1, ps, bs, h => ⟨h.1, fun i hi => ⟨fun x hx => by
    obtain ⟨y, hy, hw⟩ := (h.2 i hi).1 x hx
    exact ⟨y, hy, hw.less⟩, fun y hy => by
    obtain ⟨x, hx, hw⟩ := (h.2 i hi).2 y hy
    exact ⟨x, hx, hw.less⟩⟩⟩
theorem Cw.pw : ∀ {n : Nat} {ps bs : List Nat}, Cw A B n ps bs → Pw A B n ps bs
  | 0, _, _, h => h
  | n + 1, ps, bs, h => ⟨h.1, fun i hi => by
    obtain ⟨f, g, hb, hc⟩ := h.2 i hi
    refine ⟨fun x hx => ⟨f x, (hb.1 x hx).1, (hc x hx).pw⟩, fun y hy => ⟨g y, (hb.2 y hy).1, ?_⟩⟩
    have := (hc (g y) (hb.2 y hy).1).pw
    rw [(hb.2 y hy).2] at this; exact this⟩
theorem Cw.symm : ∀ {n : Nat} {ps bs : List Nat}, Cw A B n ps bs → Cw B A n bs ps
  | 0, _, _, h => Fit.symm h
  | n + 1, ps, bs, h => ⟨h.1.symm, fun i hi => by
    obtain ⟨f, g, hb, hc⟩ := h.2 i (by rw [h.1.len]; exact hi)
    refine ⟨g, f, hb.symm, fun y hy => ?_⟩
    have := (hc (g y) (hb.2 y hy).1).symm
    rw [(hb.2 y hy).2] at this; exact this⟩
theorem Cw.trans : ∀ {n : Nat} {ps bs cs : List Nat}, Cw A B n ps bs → Cw B C n bs cs → Cw A C n ps cs
  | 0, _, _, _, h, h2 => Fit.trans h h2
  | n + 1, ps, bs, cs, h, h2 => ⟨h.1.trans h2.1, fun i hi => by
    obtain ⟨f, g, hb, hc⟩ := h.2 i hi
    obtain ⟨p, q, hb2, hc2⟩ := h2.2 i (by rw [← h.1.len]; exact hi)
    exact ⟨p ∘ f, g ∘ q, hb.trans hb2, fun x hx => (hc x hx).trans (hc2 (f x) (hb.1 x hx).1)⟩⟩
theorem Cw.refl : ∀ {n : Nat} {ps : List Nat}, Ok A ps → Cw A A n ps ps
  | 0, _, h => Fit.refl h
  | n + 1, ps, h => ⟨Fit.refl h, fun i hi => ⟨id, id, Bij.refl _, fun x hx => Cw.refl (h.put hi (by omega))⟩⟩
theorem Cw.size {n : Nat} {ps bs : List Nat} (h : Cw A B (n + 1) ps bs) (hl : 0 < ps.length) : A.n = B.n := by
  obtain ⟨f, g, hb, _⟩ := h.2 0 hl
  exact hb.eq
/-- the winning relation is one of blocks -/
theorem Cw.block {n : Nat} {ps bs ps' bs' : List Nat} (h : Cw A B n ps bs) (h2 : Cw A B n ps' bs) (h3 : Cw A B n ps' bs') : Cw A B n ps bs' := (h.trans h2.symm).trans h3
/-- one turn after a game, whatever it was told -/
theorem Cw.step {n : Nat} {ps bs : List Nat} : Cw A B (n + 1) ps bs ↔ Cw A B n ps bs ∧ ∀ i, i < ps.length → ∃ f g, Bij A.n B.n f g ∧ ∀ x, x < A.n → Cw A B n (ps.set i (x + 1)) (bs.set i (f x + 1)) :=
  ⟨fun h => ⟨h.less, h.2⟩, fun h => ⟨h.1.fit, h.2⟩⟩
/-- if one turn more tells nothing apart, no number of turns does -/
theorem Cw.stay {n k : Nat} (h : ∀ ps bs, ps.length = k → Ok A ps → Ok B bs → Cw A B n ps bs → Cw A B (n + 1) ps bs) : ∀ (m : Nat) (ps bs : List Nat), ps.length = k → Ok A ps → Ok B bs → Cw A B n ps bs → Cw A B (n + m) ps bs
  | 0, _, _, _, _, _, hc => hc
  | m + 1, ps, bs, hl, ha, hb, hc => by
    have h1 := h ps bs hl ha hb hc
    refine ⟨hc.fit, fun i hi => ?_⟩
    obtain ⟨f, g, hbi, hcs⟩ := h1.2 i hi
    refine ⟨f, g, hbi, fun x hx => Cw.stay h m _ _ (by rw [List.length_set]; exact hl) (ha.put hi (by omega)) (hb.put (by rw [← hc.fit.len]; exact hi) (by have := (hbi.1 x hx).1; omega)) (hcs x hx)⟩
theorem Pw.stay {n k : Nat} (h : ∀ ps bs, ps.length = k → Ok A ps → Ok B bs → Pw A B n ps bs → Pw A B (n + 1) ps bs) : ∀ (m : Nat) (ps bs : List Nat), ps.length = k → Ok A ps → Ok B bs → Pw A B n ps bs → Pw A B (n + m) ps bs
  | 0, _, _, _, _, _, hc => hc
  | m + 1, ps, bs, hl, ha, hb, hc => by
    have h1 := h ps bs hl ha hb hc
    refine ⟨hc.fit, fun i hi => ⟨fun x hx => ?_, fun y hy => ?_⟩⟩
    · obtain ⟨y, hy, hw⟩ := (h1.2 i hi).1 x hx
      exact ⟨y, hy, Pw.stay h m _ _ (by rw [List.length_set]; exact hl) (ha.put hi (by omega)) (hb.put (by rw [← hc.fit.len]; exact hi) (by omega)) hw⟩
    · obtain ⟨x, hx, hw⟩ := (h1.2 i hi).2 y hy
      exact ⟨x, hx, Pw.stay h m _ _ (by rw [List.length_set]; exact hl) (ha.put hi (by omega)) (hb.put (by rw [← hc.fit.len]; exact hi) (by omega)) hw⟩
end
end Go.Proofs.YtpcnoiigbmiejaaDoor.peb

/- Lists that are the same but for the order, and one element to one. No program in sight. -/
namespace Go.Proofs.YtpcnoiigbmiejaaDoor.peb
set_option linter.unusedVariables false
set_option linter.unusedSimpArgs false

theorem perm_idx {α : Type} {l m : List α} (h : l.Perm m) : ∃ f g, Bij l.length m.length f g ∧ ∀ i, i < l.length → l[i]? = m[f i]? := by
  induction h with
  | nil => exact ⟨id, id, Bij.refl _, fun _ _ => rfl⟩
  | @cons a l m _ ih =>
    obtain ⟨f, g, hb, he⟩ := ih
    refine ⟨fun i => if i = 0 then 0 else f (i - 1) + 1, fun i => if i = 0 then 0 else g (i - 1) + 1, ⟨fun i hi => ?_, fun i hi => ?_⟩, fun i hi => ?_⟩
    · cases i with
      | zero => simp
      | succ i =>
        rw [List.length_cons] at hi ⊢
        obtain ⟨h1, h2⟩ := hb.1 i (by omega)
        simp only [Nat.add_one_ne_zero, if_false, Nat.add_sub_cancel]
        exact ⟨by omega, by rw [h2]⟩
    · cases i with
      | zero => simp
      | succ i =>
        rw [List.length_cons] at hi ⊢
        obtain ⟨h1, h2⟩ := hb.2 i (by omega)
        simp only [Nat.add_one_ne_zero, if_false, Nat.add_sub_cancel]
        exact ⟨by omega, by rw [h2]⟩
    · cases i with
      | zero => simp
      | succ i =>
        rw [List.length_cons] at hi
        simp only [Nat.add_one_ne_zero, if_false, Nat.add_sub_cancel, List.getElem?_cons_succ]
        exact he i (by omega)
  | swap a b l =>
    have key : ∀ i : Nat, i < l.length + 1 + 1 → (if i = 0 then 1 else if i = 1 then 0 else i) < l.length + 1 + 1 ∧ (if (if i = 0 then 1 else if i = 1 then 0 else i) = 0 then 1 else if (if i = 0 then 1 else if i = 1 then 0 else i) = 1 then 0 else (if i = 0 then 1 else if i = 1 then 0 else i)) = i := fun i hi => by
      by_cases h0 : i = 0
      · subst h0; simp
      · by_cases h1 : i = 1
        · subst h1; simp
        · rw [if_neg h0, if_neg h1, if_neg h0, if_neg h1]; exact ⟨hi, rfl⟩
    refine ⟨fun i => if i = 0 then 1 else if i = 1 then 0 else i, fun i => if i = 0 then 1 else if i = 1 then 0 else i, ⟨fun i hi => key i hi, fun i hi => key i hi⟩, fun i _ => ?_⟩
    match i with
    | 0 => rfl
    | 1 => rfl
    | i + 2 => simp
  | @trans l m k _ _ ih1 ih2 =>
    obtain ⟨f, g, hb, he⟩ := ih1
    obtain ⟨p, q, hb2, he2⟩ := ih2
    exact ⟨p ∘ f, g ∘ q, hb.trans hb2, fun i hi => (he i hi).trans (he2 (f i) (hb.1 i hi).1)⟩
theorem bij_perm {n m : Nat} {f g : Nat → Nat} (h : Bij n m f g) : ((List.range n).map f).Perm (List.range m) := by
  refine (List.perm_ext_iff_of_nodup ?_ List.nodup_range).2 fun y => ?_
  · rw [List.Nodup, List.pairwise_map]
    exact List.Pairwise.imp_of_mem (fun {i j} hi hj hij e => hij (by
      rw [← (h.1 i (List.mem_range.1 hi)).2, e, (h.1 j (List.mem_range.1 hj)).2])) List.nodup_range
  · rw [List.mem_map, List.mem_range]
    constructor
    · rintro ⟨i, hi, rfl⟩; exact (h.1 i (List.mem_range.1 hi)).1
    · intro hy; exact ⟨g y, List.mem_range.2 (h.2 y hy).1, (h.2 y hy).2⟩
/-- the same keys, each as often: one element to one with the same key -/
theorem keys_bij {κ : Type} {n m : Nat} {K L : Nat → κ} : ((List.range n).map K).Perm ((List.range m).map L) ↔ ∃ f g, Bij n m f g ∧ ∀ x, x < n → K x = L (f x) := by
  constructor
  · intro h
    obtain ⟨f, g, hb, he⟩ := perm_idx h
    simp only [List.length_map, List.length_range] at hb he
    refine ⟨f, g, hb, fun x hx => ?_⟩
    have := he x hx
    rw [List.getElem?_map, List.getElem?_map, List.getElem?_range hx, List.getElem?_range (hb.1 x hx).1] at this
    exact Option.some.inj this
  · rintro ⟨f, g, hb, he⟩
    have e : (List.range n).map K = ((List.range n).map f).map L := by
      rw [List.map_map]
      exact List.map_congr_left fun x hx => he x (List.mem_range.1 hx)
    rw [e]
    exact (bij_perm hb).map L
end Go.Proofs.YtpcnoiigbmiejaaDoor.peb

/- One element to one, found by giving way (Kuhn), where who fits whom is a relation of blocks. No program in sight. -/
namespace Go.Proofs.YtpcnoiigbmiejaaDoor.peb
set_option linter.unusedVariables false
set_option linter.unusedSimpArgs false

/-- who fits whom: blocks -/
def Blk (W : Nat → Nat → Prop) : Prop := ∀ x y x' y', W x y → W x' y → W x' y' → W x y'
/-- partners among those that were not tried: each fits, each once -/
structure Par (W : Nat → Nat → Prop) (M : Nat) (T : Nat → Prop) (P : Nat → Int) : Prop where
  inj : ∀ y y', y < M → y' < M → ¬ T y → ¬ T y' → 0 ≤ P y → P y = P y' → y = y'
  fit : ∀ y, y < M → ¬ T y → 0 ≤ P y → W (P y).toNat y
def Has (M : Nat) (T : Nat → Prop) (P : Nat → Int) (z : Int) : Prop := ∃ y, y < M ∧ ¬ T y ∧ P y = z
/-- what placing x comes to -/
structure Placed (W : Nat → Nat → Prop) (M : Nat) (T : Nat → Prop) (P P' : Nat → Int) (x : Nat) (res : Bool) : Prop where
  old : ∀ y, T y → P' y = P y
  no : res = false → (∀ y, P' y = P y) ∧ ∀ y, y < M → ¬ T y → W x y → 0 ≤ P y
  yes : res = true → Par W M T P' ∧ ∀ z : Nat, Has M T P' z ↔ z = x ∨ Has M T P z
section
variable {W : Nat → Nat → Prop} {M : Nat} {T : Nat → Prop} {P P' : Nat → Int} {x : Nat}
theorem Par.less {T' : Nat → Prop} (h : Par W M T P) (hs : ∀ y, T y → T' y) : Par W M T' P :=
  ⟨fun y y' h1 h2 h3 h4 => h.inj y y' h1 h2 (fun e => h3 (hs _ e)) (fun e => h4 (hs _ e)), fun y h1 h2 => h.fit y h1 fun e => h2 (hs _ e)⟩
def upd (P : Nat → Int) (j : Nat) (v : Int) (y : Nat) : Int := if y = j then v else P y
/-- a free one is taken -/
theorem place_free (h : Par W M T P) (hx : ¬ Has M T P x) {j : Nat} (hj : j < M) (hT : ¬ T j) (hW : W x j) (hf : P j < 0) : Placed W M T P (upd P j x) x true where
  old := fun y hy => by
    have hn : y ≠ j := fun e => hT (by rw [← e]; exact hy)
    unfold upd; rw [if_neg hn]
  no := fun e => by cases e
  yes := fun _ => by
    refine ⟨⟨fun y y' h1 h2 h3 h4 h5 h6 => ?_, fun y h1 h2 h3 => ?_⟩, fun z => ⟨?_, ?_⟩⟩
    · unfold upd at h5 h6
      by_cases e : y = j <;> by_cases e' : y' = j
      · rw [e, e']
      · rw [if_pos e, if_neg e'] at h6
        exact absurd ⟨y', h2, h4, h6.symm⟩ hx
      · rw [if_neg e, if_pos e'] at h6
        exact absurd ⟨y, h1, h3, h6⟩ hx
      · rw [if_neg e] at h5; rw [if_neg e, if_neg e'] at h6
        exact h.inj y y' h1 h2 h3 h4 h5 h6
    · unfold upd at h3 ⊢
      by_cases e : y = j
      · rw [if_pos e, e]; exact hW
      · rw [if_neg e] at h3 ⊢; exact h.fit y h1 h2 h3
    · rintro ⟨y, h1, h2, h3⟩
      unfold upd at h3
      by_cases e : y = j
      · rw [if_pos e] at h3; exact .inl (by omega)
      · rw [if_neg e] at h3; exact .inr ⟨y, h1, h2, h3⟩
    · rintro (rfl | ⟨y, h1, h2, h3⟩)
      · exact ⟨j, hj, hT, by unfold upd; rw [if_pos rfl]⟩
      · exact ⟨y, h1, h2, by unfold upd; rw [if_neg (fun e => by rw [e] at h3; omega)]; exact h3⟩
/-- one that gave way -/
theorem place_way {T0 : Nat → Prop} (h : Par W M T0 P) (hx : ¬ Has M T0 P x) (hs : ∀ y, T0 y → T y) {j : Nat} (hj : j < M) (hT : ¬ T j) (hW : W x j) (hf : 0 ≤ P j)
    (hp : Placed W M (fun y => T y ∨ y = j) P P' (P j).toNat true) : Placed W M T0 P (upd P' j x) x true where
  old := fun y hy => by
    have hn : y ≠ j := fun e => hT (by rw [← e]; exact hs _ hy)
    unfold upd; rw [if_neg hn]; exact hp.old y (.inl (hs _ hy))
  no := fun e => by cases e
  yes := fun _ => by
    obtain ⟨hp1, hp2⟩ := hp.yes rfl
    have hj0 : ¬ T0 j := fun e => hT (hs _ e)
    have hPj : ((P j).toNat : Int) = P j := by omega
    -- values of P' at places that were not tried at first
    have key : ∀ y, y < M → ¬ T0 y → y ≠ j → 0 ≤ P' y → Has M T0 P (P' y) := fun y h1 h2 h3 h4 => by
      by_cases ht : T y
      · exact ⟨y, h1, h2, (hp.old y (.inl ht)).symm⟩
      · have : Has M (fun y => T y ∨ y = j) P' ((P' y).toNat : Int) := ⟨y, h1, fun e => e.elim ht h3, by omega⟩
        rcases (hp2 _).1 this with e | ⟨u, u1, u2, u3⟩
        · exact ⟨j, hj, hj0, by omega⟩
        · exact ⟨u, u1, fun e => u2 (.inl (hs _ e)), by omega⟩
    have ux : ∀ y, y < M → ¬ T0 y → y ≠ j → P' y ≠ (x : Int) := fun y h1 h2 h3 e => hx (by rw [← e]; exact key y h1 h2 h3 (by omega))
    refine ⟨⟨fun y y' h1 h2 h3 h4 h5 h6 => ?_, fun y h1 h2 h3 => ?_⟩, fun z => ⟨?_, ?_⟩⟩
    · unfold upd at h5 h6
      by_cases e : y = j <;> by_cases e' : y' = j
      · rw [e, e']
      · rw [if_pos e, if_neg e'] at h6
        exact absurd h6.symm (ux y' h2 h4 e')
      · rw [if_neg e, if_pos e'] at h6
        exact absurd h6 (ux y h1 h3 e)
      · rw [if_neg e] at h5; rw [if_neg e, if_neg e'] at h6
        by_cases t : T y <;> by_cases t' : T y'
        · rw [hp.old y (.inl t)] at h5 h6
          rw [hp.old y' (.inl t')] at h6
          exact h.inj y y' h1 h2 h3 h4 h5 h6
        · exfalso
          rw [hp.old y (.inl t)] at h5 h6
          have : Has M (fun y => T y ∨ y = j) P' ((P y).toNat : Int) := ⟨y', h2, fun e => e.elim t' e', by omega⟩
          rcases (hp2 _).1 this with e2 | ⟨u, u1, u2, u3⟩
          · exact e (h.inj y j h1 hj h3 hj0 h5 (by omega))
          · have := h.inj y u h1 u1 h3 (fun e => u2 (.inl (hs _ e))) h5 (by omega)
            exact u2 (.inl (this ▸ t))
        · exfalso
          rw [hp.old y' (.inl t')] at h6
          have : Has M (fun y => T y ∨ y = j) P' ((P y').toNat : Int) := ⟨y, h1, fun e2 => e2.elim t e, by omega⟩
          rcases (hp2 _).1 this with e2 | ⟨u, u1, u2, u3⟩
          · exact e' (h.inj y' j h2 hj h4 hj0 (by omega) (by omega))
          · have := h.inj y' u h2 u1 h4 (fun e => u2 (.inl (hs _ e))) (by omega) (by omega)
            exact u2 (.inl (this ▸ t'))
        · exact hp1.inj y y' h1 h2 (fun e2 => e2.elim t e) (fun e2 => e2.elim t' e') h5 h6
    · unfold upd at h3 ⊢
      by_cases e : y = j
      · rw [if_pos e, e]; exact hW
      · rw [if_neg e] at h3 ⊢
        by_cases t : T y
        · rw [hp.old y (.inl t)] at h3 ⊢; exact h.fit y h1 h2 h3
        · exact hp1.fit y h1 (fun e2 => e2.elim t e) h3
    · rintro ⟨y, h1, h2, h3⟩
      unfold upd at h3
      by_cases e : y = j
      · rw [if_pos e] at h3; exact .inl (by omega)
      · rw [if_neg e] at h3
        have := key y h1 h2 e (by omega)
        rw [h3] at this; exact .inr this
    · rintro (rfl | ⟨y, h1, h2, h3⟩)
      · exact ⟨j, hj, hj0, by unfold upd; rw [if_pos rfl]⟩
      · by_cases e : y = j
        · obtain ⟨u, u1, u2, u3⟩ := (hp2 z).2 (.inl (by rw [e] at h3; omega))
          exact ⟨u, u1, fun e2 => u2 (.inl (hs _ e2)), by unfold upd; rw [if_neg (fun e2 => u2 (.inr e2))]; exact u3⟩
        · by_cases t : T y
          · exact ⟨y, h1, h2, by unfold upd; rw [if_neg e, hp.old y (.inl t)]; exact h3⟩
          · obtain ⟨u, u1, u2, u3⟩ := (hp2 z).2 (.inr ⟨y, h1, fun e2 => e2.elim t e, h3⟩)
            exact ⟨u, u1, fun e2 => u2 (.inl (hs _ e2)), by unfold upd; rw [if_neg (fun e2 => u2 (.inr e2))]; exact u3⟩
/-- at a round of placing x: none that is free and fits was passed over or tried -/
def Left (W : Nat → Nat → Prop) (M : Nat) (T0 T : Nat → Prop) (P : Nat → Int) (x j : Nat) : Prop := ∀ y, y < M → ¬ T0 y → W x y → P y < 0 → j ≤ y ∧ ¬ T y
theorem left_start (T0 : Nat → Prop) : Left W M T0 T0 P x 0 := fun _ _ h _ _ => ⟨Nat.zero_le _, h⟩
theorem left_tried {T0 : Nat → Prop} {j : Nat} (h : Left W M T0 T P x j) (hT : T j) : Left W M T0 T P x (j + 1) := fun y h1 h2 h3 h4 => by
  obtain ⟨a, b⟩ := h y h1 h2 h3 h4
  refine ⟨?_, b⟩
  rcases Nat.lt_or_ge j y with e | e
  · omega
  · obtain rfl : y = j := by omega
    exact absurd hT b
theorem left_unfit {T0 : Nat → Prop} {j : Nat} (h : Left W M T0 T P x j) (hn : ¬ W x j) : Left W M T0 T P x (j + 1) := fun y h1 h2 h3 h4 => by
  obtain ⟨a, b⟩ := h y h1 h2 h3 h4
  refine ⟨?_, b⟩
  rcases Nat.lt_or_ge j y with e | e
  · omega
  · obtain rfl : y = j := by omega
    exact absurd h3 hn
/-- who did not give way: none is left -/
theorem left_no {T0 T2 : Nat → Prop} {j : Nat} (hb : Blk W) (hq : Par W M T P) (h : Left W M T0 T P x j) (hj : j < M) (hT : ¬ T j) (hW : W x j) (hf : 0 ≤ P j) (hp : Placed W M (fun y => T y ∨ y = j) P P' (P j).toNat false) (i : Nat) : Left W M T0 T2 P x i := fun y h1 h2 h3 h4 => by
  exfalso
  obtain ⟨a, b⟩ := h y h1 h2 h3 h4
  have := (hp.no rfl).2 y h1 (fun e => e.elim b (fun e => by rw [e] at h4; omega)) (hb _ j x y (hq.fit j hj hT hf) hW h3)
  omega
theorem place_none {T0 : Nat → Prop} (h : Left W M T0 T P x M) : Placed W M T0 P P x false where
  old := fun _ _ => rfl
  no := fun _ => ⟨fun _ => rfl, fun y h1 h2 h3 => by
    rcases Int.lt_or_le (P y) 0 with e | e
    · have := (h y h1 h2 h3 e).1; omega
    · exact e⟩
  yes := fun e => by cases e
/-- all before t have a partner -/
def Upto (W : Nat → Nat → Prop) (M t : Nat) (P : Nat → Int) : Prop := Par W M (fun _ => False) P ∧ ∀ z : Nat, Has M (fun _ => False) P z ↔ z < t
theorem upto_zero (h : ∀ y, P y < 0) : Upto W M 0 P := ⟨⟨fun y _ _ _ _ _ h5 => by have := h y; omega, fun y _ _ h5 => by have := h y; omega⟩, fun z => ⟨fun ⟨y, _, _, e⟩ => by have := h y; omega, fun e => by omega⟩⟩
theorem upto_next {t : Nat} (h : Upto W M t P) (hp : Placed W M (fun _ => False) P P' t true) : Upto W M (t + 1) P' := by
  obtain ⟨h1, h2⟩ := hp.yes rfl
  refine ⟨h1, fun z => ?_⟩
  rw [h2, h.2]; omega
theorem upto_yes {N : Nat} (h : Upto W N N P) : ∃ f g, Bij N N f g ∧ ∀ z, z < N → W z (f z) := by
  have hex : ∀ z, z < N → ∃ y, y < N ∧ P y = (z : Int) := fun z hz => by
    obtain ⟨y, h1, _, h2⟩ := (h.2 z).2 hz
    exact ⟨y, h1, h2⟩
  let f : Nat → Nat := fun z => if hz : z < N then (hex z hz).choose else 0
  have hf : ∀ z, z < N → f z < N ∧ P (f z) = (z : Int) := fun z hz => by
    show (if hz : z < N then (hex z hz).choose else 0) < N ∧ P (if hz : z < N then (hex z hz).choose else 0) = (z : Int)
    rw [dif_pos hz]; exact (hex z hz).choose_spec
  -- all places are taken
  have hon : ∀ y, y < N → ∃ z, z < N ∧ f z = y := fun y hy => by
    have hn : ((List.range N).map f).Nodup := by
      rw [List.Nodup, List.pairwise_map]
      exact List.Pairwise.imp_of_mem (fun {a b} ha hb hab e => hab (by
        have ha := (hf a (List.mem_range.1 ha)).2
        have hb := (hf b (List.mem_range.1 hb)).2
        rw [e] at ha; omega)) List.nodup_range
    refine Classical.byContradiction fun hno => ?_
    have hn2 : (y :: (List.range N).map f).Nodup := List.nodup_cons.2 ⟨fun hm => by
      obtain ⟨z, hz, e⟩ := List.mem_map.1 hm
      exact hno ⟨z, List.mem_range.1 hz, e⟩, hn⟩
    have := hn2.length_le_of_subset (l₂ := List.range N) (fun u hu => by
      rcases List.mem_cons.1 hu with rfl | hu
      · exact List.mem_range.2 hy
      · obtain ⟨z, hz, rfl⟩ := List.mem_map.1 hu
        exact List.mem_range.2 (hf z (List.mem_range.1 hz)).1)
    simp at this
    omega
  refine ⟨f, fun y => (P y).toNat, ⟨fun z hz => ⟨(hf z hz).1, by have := (hf z hz).2; show (P (f z)).toNat = z; omega⟩, fun y hy => ?_⟩, fun z hz => ?_⟩
  · obtain ⟨z, hz, rfl⟩ := hon y hy
    have := (hf z hz).2
    show (P (f z)).toNat < N ∧ f (P (f z)).toNat = f z
    rw [this]
    exact ⟨by omega, by simp⟩
  · obtain ⟨h1, h2⟩ := hf z hz
    have := h.1.fit (f z) h1 (fun e => e) (by omega)
    rw [h2] at this
    exact this
/-- one that finds none: it cannot be done -/
theorem upto_no {N t : Nat} (hb : Blk W) (h : Upto W M t P) (ht : t < N) (hp : Placed W M (fun _ => False) P P' t false) : ¬ ∃ f g, Bij N M f g ∧ ∀ z, z < N → W z (f z) := by
  rintro ⟨f, g, hf, hw⟩
  classical
  have hall := (hp.no rfl).2
  -- those in the same block as t, up to t
  have hC : (((List.range (t + 1)).filter fun z => decide (W z (f t))).map f).Nodup := by
    rw [List.Nodup, List.pairwise_map]
    refine List.Pairwise.imp_of_mem (fun {a b} ha hb hab e => hab ?_) (List.nodup_range.filter _)
    have ha := List.mem_range.1 (List.mem_filter.1 ha).1
    have hb := List.mem_range.1 (List.mem_filter.1 hb).1
    rw [← (hf.1 a (by omega)).2, e, (hf.1 b (by omega)).2]
  have h1 := hC.length_le_of_subset (l₂ := (List.range M).filter fun y => decide (W t y)) (fun y hy => by
    obtain ⟨z, hz, rfl⟩ := List.mem_map.1 hy
    obtain ⟨hz1, hz2⟩ := List.mem_filter.1 hz
    have hz1 := List.mem_range.1 hz1
    exact List.mem_filter.2 ⟨List.mem_range.2 (hf.1 z (by omega)).1, decide_eq_true (hb _ (f t) z (f z) (hw t ht) (of_decide_eq_true hz2) (hw z (by omega)))⟩)
  have hR : (((List.range M).filter fun y => decide (W t y)).map fun y => (P y).toNat).Nodup := by
    rw [List.Nodup, List.pairwise_map]
    refine List.Pairwise.imp_of_mem (fun {a b} ha hb hab e => hab ?_) (List.nodup_range.filter _)
    obtain ⟨ha1, ha2⟩ := List.mem_filter.1 ha
    obtain ⟨hb1, hb2⟩ := List.mem_filter.1 hb
    have := hall a (List.mem_range.1 ha1) (fun e => e) (of_decide_eq_true ha2)
    have := hall b (List.mem_range.1 hb1) (fun e => e) (of_decide_eq_true hb2)
    exact h.1.inj a b (List.mem_range.1 ha1) (List.mem_range.1 hb1) (fun e => e) (fun e => e) (by omega) (by omega)
  have h2 := hR.length_le_of_subset (l₂ := (List.range t).filter fun z => decide (W z (f t))) (fun z hz => by
    obtain ⟨y, hy, rfl⟩ := List.mem_map.1 hz
    obtain ⟨hy1, hy2⟩ := List.mem_filter.1 hy
    have hy1 := List.mem_range.1 hy1
    have hy2 := of_decide_eq_true hy2
    have h0 := hall y hy1 (fun e => e) hy2
    have hlt := (h.2 (P y).toNat).1 ⟨y, hy1, fun e => e, by omega⟩
    exact List.mem_filter.2 ⟨List.mem_range.2 hlt, decide_eq_true (hb _ y t (f t) (h.1.fit y hy1 (fun e => e) h0) hy2 (hw t ht))⟩)
  have h3 : ((List.range (t + 1)).filter fun z => decide (W z (f t))).length = ((List.range t).filter fun z => decide (W z (f t))).length + 1 := by
    rw [List.range_succ, List.filter_append, List.length_append, List.filter_cons_of_pos (by simpa using hw t ht)]
    rfl
  rw [List.length_map] at h1 h2
  omega
end
end Go.Proofs.YtpcnoiigbmiejaaDoor.peb

/- Numbers of kinds: finer and finer, until there are as many as before. No program in sight. -/
namespace Go.Proofs.YtpcnoiigbmiejaaDoor.peb
set_option linter.unusedVariables false
set_option linter.unusedSimpArgs false

/-- the numbers of D things are all those below K -/
def Full (D K : Nat) (p : Nat → Nat) : Prop := (∀ i, i < D → p i < K) ∧ ∀ t, t < K → ∃ i, i < D ∧ p i = t
theorem Full.le {D K : Nat} {p : Nat → Nat} (h : Full D K p) : K ≤ D := by
  have := (List.nodup_range (n := K)).length_le_of_subset (l₂ := (List.range D).map p) (fun t ht => by
    obtain ⟨i, hi, e⟩ := h.2 t (List.mem_range.1 ht)
    exact List.mem_map.2 ⟨i, List.mem_range.2 hi, e⟩)
  simpa using this
section
variable {D K K' : Nat} {p q : Nat → Nat} (hp : Full D K p) (hq : Full D K' q) (h : ∀ i j, i < D → j < D → q i = q j → p i = p j)
include hq h
theorem finer_map : ∃ φ : Nat → Nat, ∀ i, i < D → φ (q i) = p i := by
  classical
  refine ⟨fun t => if ht : t < K' then p (hq.2 t ht).choose else 0, fun i hi => ?_⟩
  have ht := hq.1 i hi
  show (if ht : q i < K' then p (hq.2 (q i) ht).choose else 0) = p i
  rw [dif_pos ht]
  obtain ⟨h1, h2⟩ := (hq.2 (q i) ht).choose_spec
  exact h _ _ h1 hi h2
include hp in
theorem finer_le : K ≤ K' := by
  obtain ⟨φ, hφ⟩ := finer_map hq h
  have := (List.nodup_range (n := K)).length_le_of_subset (l₂ := (List.range K').map φ) (fun t ht => by
    obtain ⟨i, hi, e⟩ := hp.2 t (List.mem_range.1 ht)
    exact List.mem_map.2 ⟨q i, List.mem_range.2 (hq.1 i hi), by rw [hφ i hi, e]⟩)
  simpa using this
include hp in
theorem finer_same (e : K = K') {i j : Nat} (hi : i < D) (hj : j < D) (hij : p i = p j) : q i = q j := by
  obtain ⟨φ, hφ⟩ := finer_map hq h
  refine Classical.byContradiction fun hn => ?_
  have := (List.nodup_range (n := K)).length_le_of_subset (l₂ := ((List.range K').erase (q i)).map φ) (fun t ht => by
    obtain ⟨k, hk, e⟩ := hp.2 t (List.mem_range.1 ht)
    by_cases hqk : q k = q i
    · refine List.mem_map.2 ⟨q j, (List.mem_erase_of_ne (fun e => hn e.symm)).2 (List.mem_range.2 (hq.1 j hj)), ?_⟩
      rw [hφ j hj, ← hij, ← e]
      exact (h k i hk hi hqk).symm
    · exact List.mem_map.2 ⟨q k, (List.mem_erase_of_ne hqk).2 (List.mem_range.2 (hq.1 k hk)), by rw [hφ k hk, e]⟩)
  rw [List.length_map, List.length_range, List.length_erase_of_mem (List.mem_range.2 (hq.1 i hi)), List.length_range] at this
  have := hq.1 i hi
  omega
end
end Go.Proofs.YtpcnoiigbmiejaaDoor.peb

/- The reference's numbers of places of pebbles, turn after turn: texts, and what equal numbers mean. No program in sight. -/
namespace Go.Proofs.YtpcnoiigbmiejaaDoor.peb
set_option linter.unusedVariables false
set_option linter.unusedSimpArgs false
open Go.Proofs.YtpcnoiigbmiejaaDoor.game

/-! the number of places and back -/
def idx (N : Nat) (ps : List Nat) : Nat := ps.foldl (fun n p => n * (N + 1) + p) 0
def tup (N : Nat) : Nat → Nat → List Nat
  | 0, _ => []
  | k + 1, n => tup N k (n / (N + 1)) ++ [n % (N + 1)]
theorem idx_snoc (N : Nat) (ps : List Nat) (p : Nat) : idx N (ps ++ [p]) = idx N ps * (N + 1) + p := by unfold idx; rw [List.foldl_append]; rfl
theorem tup_len (N : Nat) : ∀ (k n : Nat), (tup N k n).length = k
  | 0, _ => rfl
  | k + 1, n => by rw [tup, List.length_append, tup_len N k]; rfl
theorem tup_le (N : Nat) : ∀ (k n : Nat) (p : Nat), p ∈ tup N k n → p ≤ N
  | 0, _, _, h => by cases h
  | k + 1, n, p, h => by
    rw [tup, List.mem_append, List.mem_singleton] at h
    rcases h with h | rfl
    · exact tup_le N k _ p h
    · have := Nat.mod_lt n (show N + 1 > 0 by omega); omega
theorem idx_tup (N : Nat) : ∀ (k n : Nat), n < (N + 1) ^ k → idx N (tup N k n) = n
  | 0, n, h => by
    have : n = 0 := by simpa using h
    rw [this]; rfl
  | k + 1, n, h => by
    rw [tup, idx_snoc, idx_tup N k]
    · rw [Nat.mul_comm]; exact Nat.div_add_mod n (N + 1)
    · rw [Nat.pow_succ] at h
      exact (Nat.div_lt_iff_lt_mul (by omega)).2 h
theorem list_snoc {α : Type} {k : Nat} {l : List α} (h : l.length = k + 1) : ∃ m a, l = m ++ [a] ∧ m.length = k := by
  have hne : l ≠ [] := fun e => by rw [e] at h; simp at h
  exact ⟨l.dropLast, l.getLast hne, (List.dropLast_concat_getLast hne).symm, by rw [List.length_dropLast]; omega⟩
theorem idx_lt (N : Nat) : ∀ (k : Nat) (ps : List Nat), ps.length = k → (∀ p, p ∈ ps → p ≤ N) → idx N ps < (N + 1) ^ k
  | 0, ps, h, _ => by
    rw [List.length_eq_zero_iff] at h; subst h; exact Nat.one_pos
  | k + 1, ps, h, hp => by
    obtain ⟨m, a, rfl, hm⟩ := list_snoc h
    have := idx_lt N k m hm fun p hp' => hp p (List.mem_append.2 (.inl hp'))
    have ha := hp a (List.mem_append.2 (.inr (List.mem_singleton.2 rfl)))
    rw [idx_snoc, Nat.pow_succ]
    calc idx N m * (N + 1) + a < idx N m * (N + 1) + (N + 1) := by omega
      _ = (idx N m + 1) * (N + 1) := by rw [Nat.succ_mul]
      _ ≤ (N + 1) ^ k * (N + 1) := Nat.mul_le_mul_right _ this
theorem tup_idx (N : Nat) : ∀ (k : Nat) (ps : List Nat), ps.length = k → (∀ p, p ∈ ps → p ≤ N) → tup N k (idx N ps) = ps
  | 0, ps, h, _ => by
    rw [List.length_eq_zero_iff] at h; subst h; rfl
  | k + 1, ps, h, hp => by
    obtain ⟨m, a, rfl, hm⟩ := list_snoc h
    have ha := hp a (List.mem_append.2 (.inr (List.mem_singleton.2 rfl)))
    have e1 : (idx N m * (N + 1) + a) / (N + 1) = idx N m := by
      rw [Nat.mul_comm, Nat.mul_add_div (by omega), Nat.div_eq_of_lt (by omega)]; rfl
    have e2 : (idx N m * (N + 1) + a) % (N + 1) = a := by
      rw [Nat.mul_comm, Nat.mul_add_mod, Nat.mod_eq_of_lt (by omega)]
    rw [idx_snoc, tup, e1, e2, tup_idx N k m hm fun p hp' => hp p (List.mem_append.2 (.inl hp'))]
theorem ok_iff {A : Gr} {ps : List Nat} : Ok A ps ↔ ∀ p, p ∈ ps → p ≤ A.n := by
  constructor
  · intro h p hp
    obtain ⟨i, hi, rfl⟩ := List.mem_iff_getElem.1 hp
    have := h i hi
    rw [List.getD_eq_getElem?_getD, List.getElem?_eq_getElem hi] at this; exact this
  · intro h i hi
    rw [List.getD_eq_getElem?_getD, List.getElem?_eq_getElem hi]; exact h _ (List.getElem_mem hi)

/-! the text of places, before a turn -/
def signs (ps : List Nat) : List UInt8 := ps.map fun p => if p = 0 then 45 else 43
def placed (ps : List Nat) : List Nat := (ps.filter fun p => p != 0).map fun p => p - 1
def stx (A : Gr) (ps : List Nat) : List UInt8 := signs ps ++ atoms A (placed ps)
theorem signs_iff : ∀ {ps bs : List Nat}, ps.length = bs.length → (signs ps = signs bs ↔ ∀ i, i < ps.length → (ps.getD i 0 = 0 ↔ bs.getD i 0 = 0))
  | [], [], _ => ⟨fun _ i hi => by simp at hi, fun _ => rfl⟩
  | a :: ps, b :: bs, h => by
    unfold signs
    rw [List.map_cons, List.map_cons, List.cons.injEq]
    have ih := signs_iff (ps := ps) (bs := bs) (by simpa using h)
    unfold signs at ih
    rw [ih]
    constructor
    · rintro ⟨h1, h2⟩ i hi
      cases i with
      | zero =>
        show a = 0 ↔ b = 0
        by_cases ha : a = 0 <;> by_cases hb : b = 0 <;> simp [ha, hb] at h1 ⊢
      | succ i => exact h2 i (by simpa using hi)
    · intro h
      refine ⟨?_, fun i hi => h (i + 1) (by simpa using hi)⟩
      have := h 0 (by simp)
      have this : a = 0 ↔ b = 0 := this
      by_cases ha : a = 0
      · rw [if_pos ha, if_pos (this.1 ha)]
      · rw [if_neg ha, if_neg (fun e => ha (this.2 e))]
/-- the same are beside: those under pebbles, pair by pair -/
theorem placed_zip : ∀ {ps bs : List Nat}, ps.length = bs.length → (∀ i, i < ps.length → (ps.getD i 0 = 0 ↔ bs.getD i 0 = 0)) → (placed ps).length = (placed bs).length ∧ ∀ p : Nat × Nat, p ∈ (placed ps).zip (placed bs) ↔ ∃ i, i < ps.length ∧ ps.getD i 0 ≠ 0 ∧ p = (ps.getD i 0 - 1, bs.getD i 0 - 1)
  | [], [], _, _ => ⟨rfl, fun p => ⟨fun h => (by cases h), fun ⟨i, hi, _⟩ => (by simp at hi)⟩⟩
  | a :: ps, b :: bs, h, hz => by
    obtain ⟨ih1, ih2⟩ := placed_zip (ps := ps) (bs := bs) (by simpa using h) fun i hi => hz (i + 1) (by simpa using hi)
    have h0 : a = 0 ↔ b = 0 := hz 0 (by simp)
    have step : ∀ p : Nat × Nat, (∃ i, i < (a :: ps).length ∧ (a :: ps).getD i 0 ≠ 0 ∧ p = ((a :: ps).getD i 0 - 1, (b :: bs).getD i 0 - 1)) ↔ (a ≠ 0 ∧ p = (a - 1, b - 1)) ∨ ∃ i, i < ps.length ∧ ps.getD i 0 ≠ 0 ∧ p = (ps.getD i 0 - 1, bs.getD i 0 - 1) := fun p => by
      constructor
      · rintro ⟨i, hi, h1, h2⟩
        cases i with
        | zero => exact .inl ⟨h1, h2⟩
        | succ i => exact .inr ⟨i, by simpa using hi, h1, h2⟩
      · rintro (⟨h1, h2⟩ | ⟨i, hi, h1, h2⟩)
        · exact ⟨0, by simp, h1, h2⟩
        · exact ⟨i + 1, by simpa using hi, h1, h2⟩
    by_cases ha : a = 0
    · have hb := h0.1 ha
      have ea : placed (a :: ps) = placed ps := by unfold placed; rw [List.filter_cons_of_neg (by simp [ha])]
      have eb : placed (b :: bs) = placed bs := by unfold placed; rw [List.filter_cons_of_neg (by simp [hb])]
      rw [ea, eb]
      refine ⟨ih1, fun p => ?_⟩
      rw [ih2, step]
      exact ⟨.inr, fun h => h.elim (fun h => absurd ha h.1) id⟩
    · have hb : b ≠ 0 := fun e => ha (h0.2 e)
      have ea : placed (a :: ps) = (a - 1) :: placed ps := by unfold placed; rw [List.filter_cons_of_pos (by simp [ha])]; rfl
      have eb : placed (b :: bs) = (b - 1) :: placed bs := by unfold placed; rw [List.filter_cons_of_pos (by simp [hb])]; rfl
      rw [ea, eb]
      refine ⟨by simp [ih1], fun p => ?_⟩
      rw [List.zip_cons_cons, List.mem_cons, ih2, step]
      exact ⟨fun h => h.elim (fun h => .inl ⟨ha, h⟩) .inr, fun h => h.elim (fun h => .inl h.2) .inr⟩
theorem fit_iff {A B : Gr} {ps bs : List Nat} (hl : ps.length = bs.length) (ha : Ok A ps) (hb : Ok B bs) : Fit A B ps bs ↔ (∀ i, i < ps.length → (ps.getD i 0 = 0 ↔ bs.getD i 0 = 0)) ∧ Gway A B ((placed ps).zip (placed bs)) := by
  constructor
  · intro h
    have hz := fun i hi => (h.lay i hi).1
    obtain ⟨_, hm⟩ := placed_zip hl hz
    refine ⟨hz, fun p hp => ?_, fun p q hp hq => ?_⟩
    · obtain ⟨i, hi, hn, rfl⟩ := (hm p).1 hp
      obtain ⟨h1, h2, h3⟩ := h.lay i hi
      have hbn : bs.getD i 0 ≠ 0 := fun e => hn (h1.2 e)
      exact ⟨by show ps.getD i 0 - 1 < A.n; omega, by show bs.getD i 0 - 1 < B.n; omega, h.set i hi hn⟩
    · obtain ⟨i, hi, hn, rfl⟩ := (hm p).1 hp
      obtain ⟨j, hj, hnj, rfl⟩ := (hm q).1 hq
      have hbi : bs.getD i 0 ≠ 0 := fun e => hn ((hz i hi).2 e)
      have hbj : bs.getD j 0 ≠ 0 := fun e => hnj ((hz j hj).2 e)
      obtain ⟨h1, h2⟩ := h.rel i j hi hj hn hnj
      refine ⟨?_, h2⟩
      show ps.getD i 0 - 1 = ps.getD j 0 - 1 ↔ bs.getD i 0 - 1 = bs.getD j 0 - 1
      omega
  · rintro ⟨hz, h1, h2⟩
    obtain ⟨_, hm⟩ := placed_zip hl hz
    refine ⟨hl, fun i hi => ⟨hz i hi, ha i hi, hb i (by omega)⟩, fun i hi hn => (h1 _ ((hm _).2 ⟨i, hi, hn, rfl⟩)).2.2, fun i j hi hj hn hnj => ?_⟩
    have hbi : bs.getD i 0 ≠ 0 := fun e => hn ((hz i hi).2 e)
    have hbj : bs.getD j 0 ≠ 0 := fun e => hnj ((hz j hj).2 e)
    obtain ⟨e1, e2⟩ := h2 _ _ ((hm _).2 ⟨i, hi, hn, rfl⟩) ((hm _).2 ⟨j, hj, hnj, rfl⟩)
    refine ⟨?_, e2⟩
    have e1 : ps.getD i 0 - 1 = ps.getD j 0 - 1 ↔ bs.getD i 0 - 1 = bs.getD j 0 - 1 := e1
    omega
theorem placed_els {A : Gr} {ps : List Nat} (h : Ok A ps) : Els A (placed ps) := fun x hx => by
  unfold placed at hx
  obtain ⟨p, hp, rfl⟩ := List.mem_map.1 hx
  obtain ⟨h1, h2⟩ := List.mem_filter.1 hp
  have := ok_iff.1 h p h1
  have : p ≠ 0 := by simpa using h2
  omega
theorem stx_iff {A B : Gr} {ps bs : List Nat} (hl : ps.length = bs.length) (ha : Ok A ps) (hb : Ok B bs) : stx A ps = stx B bs ↔ Fit A B ps bs := by
  rw [fit_iff hl ha hb]
  unfold stx
  constructor
  · intro h
    obtain ⟨h1, h2⟩ := List.append_inj h (by simp [signs, hl])
    have hz := (signs_iff hl).1 h1
    exact ⟨hz, (atoms_iff (placed_zip hl hz).1 (placed_els ha) (placed_els hb)).1 h2⟩
  · rintro ⟨hz, h2⟩
    rw [(signs_iff hl).2 hz, (atoms_iff (placed_zip hl hz).1 (placed_els ha) (placed_els hb)).2 h2]

/-! the text of a turn -/
def srt (l : List Nat) : List Nat := l.mergeSort fun x y => decide (x ≤ y)
theorem srt_perm (l : List Nat) : (srt l).Perm l := List.mergeSort_perm l _
theorem srt_sorted (l : List Nat) : (srt l).Pairwise fun x y => x ≤ y := by
  have := List.pairwise_mergeSort (le := fun x y : Nat => decide (x ≤ y)) (fun a b c h1 h2 => by simp at *; omega) (fun a b => by simp; omega) l
  exact this.imp fun {a b} h => by simpa using h
theorem srt_iff {l m : List Nat} : srt l = srt m ↔ l.Perm m :=
  ⟨fun h => (srt_perm l).symm.trans (h ▸ srt_perm m), fun h => List.Perm.eq_of_pairwise (le := fun x y => x ≤ y) (fun a b _ _ h1 h2 => by omega) (srt_sorted l) (srt_sorted m) ((srt_perm l).trans (h.trans (srt_perm m).symm))⟩
def isDig (c : UInt8) : Bool := decide (48 ≤ c.toNat) && decide (c.toNat ≤ 57)
theorem take_dig (n : Nat) {rest : List UInt8} (hr : rest = [] ∨ ∃ c t, rest = c :: t ∧ isDig c = false) : (dec n ++ rest).takeWhile isDig = dec n := by
  rw [List.takeWhile_append_of_pos fun c hc => by
    have := dec_digit n c hc
    unfold isDig; rw [decide_eq_true this.1, decide_eq_true this.2]; rfl]
  rcases hr with rfl | ⟨c, t, rfl, h⟩
  · simp
  · rw [List.takeWhile_cons_of_neg (by rw [h]; decide), List.append_nil]
theorem dec_rest {n m : Nat} {r r' : List UInt8} (hr : r = [] ∨ ∃ c t, r = c :: t ∧ isDig c = false) (hr' : r' = [] ∨ ∃ c t, r' = c :: t ∧ isDig c = false) (h : dec n ++ r = dec m ++ r') : n = m ∧ r = r' := by
  have e := take_dig n hr
  rw [h, take_dig m hr'] at e
  have := dec_inj e
  subst this
  exact ⟨rfl, List.append_cancel_left h⟩
theorem commas_head (l : List Nat) (r : List UInt8) : ∃ c t, commas l ++ 59 :: r = c :: t ∧ isDig c = false := by
  rcases commas_shape l with e | ⟨t, e⟩
  · rw [e]; exact ⟨59, r, rfl, by decide⟩
  · rw [e]; exact ⟨44, _, rfl, by decide⟩
theorem commas_cons (a : Nat) (l : List Nat) : commas (a :: l) = 44 :: (dec a ++ commas l) := by unfold commas; rw [List.flatMap_cons]; rfl
theorem commas_end : ∀ {l m : List Nat} {r r' : List UInt8}, commas l ++ 59 :: r = commas m ++ 59 :: r' → l = m ∧ r = r'
  | [], [], r, r', h => ⟨rfl, (List.cons.inj h).2⟩
  | [], b :: m, r, r', h => by rw [commas_cons] at h; have := (List.cons.inj h).1; exact absurd this (by decide)
  | a :: l, [], r, r', h => by rw [commas_cons] at h; have := (List.cons.inj h).1; exact absurd this (by decide)
  | a :: l, b :: m, r, r', h => by
    rw [commas_cons, commas_cons, List.cons_append, List.cons_append, List.append_assoc, List.append_assoc] at h
    obtain ⟨rfl, h2⟩ := dec_rest (.inr (commas_head l r)) (.inr (commas_head m r')) (List.cons.inj h).2
    obtain ⟨rfl, h3⟩ := commas_end h2
    exact ⟨rfl, h3⟩
def blocks (Ls : List (List Nat)) : List UInt8 := Ls.flatMap fun l => commas l ++ [59]
theorem blocks_cons (l : List Nat) (Ls : List (List Nat)) : blocks (l :: Ls) = commas l ++ 59 :: blocks Ls := by unfold blocks; rw [List.flatMap_cons, List.append_assoc]; rfl
theorem blocks_inj : ∀ {L M : List (List Nat)}, blocks L = blocks M → L = M
  | [], [], _ => rfl
  | [], m :: M, h => by rw [blocks_cons] at h; obtain ⟨c, t, e, _⟩ := commas_head m (blocks M); rw [e] at h; cases h
  | l :: L, [], h => by rw [blocks_cons] at h; obtain ⟨c, t, e, _⟩ := commas_head l (blocks L); rw [e] at h; cases h
  | l :: L, m :: M, h => by
    rw [blocks_cons, blocks_cons] at h
    obtain ⟨rfl, h2⟩ := commas_end h
    rw [blocks_inj h2]
theorem blocks_head : ∀ L : List (List Nat), blocks L = [] ∨ ∃ c t, blocks L = c :: t ∧ isDig c = false
  | [] => .inl rfl
  | l :: L => .inr (by rw [blocks_cons]; exact commas_head l _)
def ttx (b : Nat) (Ls : List (List Nat)) : List UInt8 := 99 :: (dec b ++ blocks Ls)
theorem ttx_iff {b c : Nat} {L M : List (List Nat)} : ttx b L = ttx c M ↔ b = c ∧ L = M := by
  constructor
  · intro h
    obtain ⟨rfl, h2⟩ := dec_rest (blocks_head L) (blocks_head M) (List.cons.inj h).2
    exact ⟨rfl, blocks_inj h2⟩
  · rintro ⟨rfl, rfl⟩; rfl
/-- the numbers after moves of each pebble, in order -/
def moves (N : Nat) (u : List Nat → Nat) (ps : List Nat) : List (List Nat) := (List.range ps.length).map fun i => srt ((List.range N).map fun x => u (ps.set i (x + 1)))

/-! levels -/
/-- places of k pebbles -/
def Pl (A : Gr) (k : Nat) (ps : List Nat) : Prop := ps.length = k ∧ Ok A ps
theorem Pl.put {A : Gr} {k : Nat} {ps : List Nat} (h : Pl A k ps) {i x : Nat} (hi : i < ps.length) (hx : x < A.n) : Pl A k (ps.set i (x + 1)) := ⟨by rw [List.length_set]; exact h.1, h.2.put hi (by omega)⟩
/-- the numbers are those of the first texts -/
def Start (T : List (List UInt8)) (A : Gr) (k : Nat) (u : List Nat → Nat) : Prop := ∀ ps, Pl A k ps → T[u ps]? = some (stx A ps)
/-- the numbers are those of the texts of a turn -/
def Turn (T : List (List UInt8)) (A : Gr) (k : Nat) (u u' : List Nat → Nat) : Prop := ∀ ps, Pl A k ps → T[u' ps]? = some (ttx (u ps) (moves A.n u ps))
/-- equal numbers: the second player wins -/
def Eqn (A B : Gr) (k n : Nat) (u v : List Nat → Nat) : Prop := ∀ ps bs, Pl A k ps → Pl B k bs → (u ps = v bs ↔ Cw A B n ps bs)
theorem start_eqn {T : List (List UInt8)} (hT : T.Nodup) {A B : Gr} {k : Nat} {u v : List Nat → Nat} (hu : Start T A k u) (hv : Start T B k v) : Eqn A B k 0 u v := fun ps bs ha hb => by
  rw [nodup_at hT (hu ps ha) (hv bs hb)]
  exact stx_iff (by rw [ha.1, hb.1]) ha.2 hb.2
theorem turn_eqn {T : List (List UInt8)} (hT : T.Nodup) {A B : Gr} {k n : Nat} {u v u' v' : List Nat → Nat} (h : Eqn A B k n u v) (hu : Turn T A k u u') (hv : Turn T B k v v') : Eqn A B k (n + 1) u' v' := fun ps bs ha hb => by
  rw [nodup_at hT (hu ps ha) (hv bs hb), ttx_iff, h ps bs ha hb, Cw.step]
  have hl : ps.length = bs.length := by rw [ha.1, hb.1]
  refine and_congr Iff.rfl ?_
  unfold moves
  rw [← hl]
  have key : ∀ i, i < ps.length → (srt ((List.range A.n).map fun x => u (ps.set i (x + 1))) = srt ((List.range B.n).map fun x => v (bs.set i (x + 1))) ↔ ∃ f g, Bij A.n B.n f g ∧ ∀ x, x < A.n → Cw A B n (ps.set i (x + 1)) (bs.set i (f x + 1))) := fun i hi => by
    rw [srt_iff, keys_bij]
    constructor
    · rintro ⟨f, g, hb', he⟩
      exact ⟨f, g, hb', fun x hx => (h _ _ (ha.put hi hx) (hb.put (by omega) (hb'.1 x hx).1)).1 (he x hx)⟩
    · rintro ⟨f, g, hb', he⟩
      exact ⟨f, g, hb', fun x hx => (h _ _ (ha.put hi hx) (hb.put (by omega) (hb'.1 x hx).1)).2 (he x hx)⟩
  constructor
  · intro e i hi
    refine (key i hi).1 ?_
    have := congrArg (fun L => L[i]?) e
    simp only [List.getElem?_map, List.getElem?_range hi] at this
    exact Option.some.inj this
  · intro e
    exact List.map_congr_left fun i hi => (key i (List.mem_range.1 hi)).2 (e i (List.mem_range.1 hi))
end Go.Proofs.YtpcnoiigbmiejaaDoor.peb

/- The reference's counting game, level by level, in plain words. No program in sight. -/
namespace Go.Proofs.YtpcnoiigbmiejaaDoor.peb
set_option linter.unusedVariables false
set_option linter.unusedSimpArgs false
open Go.Proofs.YtpcnoiigbmiejaaDoor.game

def numOf (N : Nat) (xs : List Nat) (ps : List Nat) : Nat := xs.getD (idx N ps) 0
/-- the numbers of all places on two structures after so many turns; K of them -/
structure LevAt (A B : Gr) (k n K : Nat) (xs ys : List Nat) : Prop where
  lx : xs.length = (A.n + 1) ^ k
  ly : ys.length = (B.n + 1) ^ k
  aa : Eqn A A k n (numOf A.n xs) (numOf A.n xs)
  ab : Eqn A B k n (numOf A.n xs) (numOf B.n ys)
  bb : Eqn B B k n (numOf B.n ys) (numOf B.n ys)
  full : Full (xs ++ ys).length K fun i => (xs ++ ys).getD i 0
theorem Eqn.swap {A B : Gr} {k n : Nat} {u v : List Nat → Nat} (h : Eqn A B k n u v) : Eqn B A k n v u := fun bs ps hb ha =>
  ⟨fun e => ((h ps bs ha hb).1 e.symm).symm, fun e => ((h ps bs ha hb).2 e.symm).symm⟩
/-- each text of the table is the text of some places -/
def FromL (T : List (List UInt8)) (xs ys : List Nat) : Prop := ∀ t, t < T.length → t ∈ xs ∨ t ∈ ys
theorem full_of {T : List (List UInt8)} {xs ys : List Nat} (h : FromL T xs ys) (hx : ∀ t, t ∈ xs → t < T.length) (hy : ∀ t, t ∈ ys → t < T.length) : Full (xs ++ ys).length T.length fun i => (xs ++ ys).getD i 0 := by
  refine ⟨fun i hi => ?_, fun t ht => ?_⟩
  · have hm : (xs ++ ys).getD i 0 ∈ xs ++ ys := by
      rw [List.getD_eq_getElem?_getD, List.getElem?_eq_getElem hi]; exact List.getElem_mem hi
    rcases List.mem_append.1 hm with h | h
    · exact hx _ h
    · exact hy _ h
  · have hm : t ∈ xs ++ ys := List.mem_append.2 (h t ht)
    obtain ⟨i, hi, e⟩ := List.mem_iff_getElem.1 hm
    exact ⟨i, hi, by show (xs ++ ys).getD i 0 = t; rw [List.getD_eq_getElem?_getD, List.getElem?_eq_getElem hi]; exact e⟩
/-- the texts stand where the numbers say -/
def AtT (T : List (List UInt8)) (N k : Nat) (xs : List Nat) (f : List Nat → List UInt8) : Prop := xs.length = (N + 1) ^ k ∧ ∀ i, i < xs.length → T[xs.getD i 0]? = some (f (tup N k i))
theorem AtT.lt {T : List (List UInt8)} {N k : Nat} {xs : List Nat} {f : List Nat → List UInt8} (h : AtT T N k xs f) (t : Nat) (ht : t ∈ xs) : t < T.length := by
  obtain ⟨i, hi, rfl⟩ := List.mem_iff_getElem.1 ht
  have := h.2 i hi
  rw [List.getD_eq_getElem?_getD, List.getElem?_eq_getElem hi] at this
  exact (List.getElem?_eq_some_iff.1 this).1
theorem AtT.at {T : List (List UInt8)} {A : Gr} {k : Nat} {xs : List Nat} {f : List Nat → List UInt8} (h : AtT T A.n k xs f) {ps : List Nat} (ha : Pl A k ps) : T[numOf A.n xs ps]? = some (f ps) := by
  have hlt : idx A.n ps < xs.length := by rw [h.1]; exact idx_lt _ _ _ ha.1 (ok_iff.1 ha.2)
  have := h.2 _ hlt
  rw [tup_idx _ _ _ ha.1 (ok_iff.1 ha.2)] at this
  exact this
theorem AtT.mono {T T' : List (List UInt8)} {N k : Nat} {xs : List Nat} {f : List Nat → List UInt8} (h : AtT T N k xs f) (hp : T <+: T') : AtT T' N k xs f := by
  refine ⟨h.1, fun i hi => ?_⟩
  obtain ⟨t, rfl⟩ := hp
  have := h.2 i hi
  rw [List.getElem?_append_left (List.getElem?_eq_some_iff.1 this).1]; exact this
theorem lev_start {T : List (List UInt8)} (hT : T.Nodup) {A B : Gr} {k : Nat} {xs ys : List Nat} (hx : AtT T A.n k xs (stx A)) (hy : AtT T B.n k ys (stx B)) (hf : FromL T xs ys) : LevAt A B k 0 T.length xs ys := by
  have hu : Start T A k (numOf A.n xs) := fun ps ha => hx.at ha
  have hv : Start T B k (numOf B.n ys) := fun bs hb => hy.at hb
  exact ⟨hx.1, hy.1, start_eqn hT hu hu, start_eqn hT hu hv, start_eqn hT hv hv, full_of hf hx.lt hy.lt⟩
/-- the text of a turn from numbers -/
def ttxL (N : Nat) (xs : List Nat) (ps : List Nat) : List UInt8 := ttx (numOf N xs ps) (moves N (numOf N xs) ps)
theorem lev_turn {T : List (List UInt8)} (hT : T.Nodup) {A B : Gr} {k n K : Nat} {xs ys xs' ys' : List Nat} (h : LevAt A B k n K xs ys) (hx : AtT T A.n k xs' (ttxL A.n xs)) (hy : AtT T B.n k ys' (ttxL B.n ys)) (hf : FromL T xs' ys') : LevAt A B k (n + 1) T.length xs' ys' := by
  have hu : Turn T A k (numOf A.n xs) (numOf A.n xs') := fun ps ha => hx.at ha
  have hv : Turn T B k (numOf B.n ys) (numOf B.n ys') := fun bs hb => hy.at hb
  exact ⟨hx.1, hy.1, turn_eqn hT h.aa hu hu, turn_eqn hT h.ab hu hv, turn_eqn hT h.bb hv hv, full_of hf hx.lt hy.lt⟩
theorem pl_tup (C : Gr) (k i : Nat) : Pl C k (tup C.n k i) := ⟨tup_len _ _ _, ok_iff.2 (tup_le _ _ _)⟩
section
variable {A B : Gr} {k n K K' : Nat} {xs ys xs' ys' : List Nat} (h : LevAt A B k n K xs ys) (h' : LevAt A B k (n + 1) K' xs' ys')
include h
theorem LevAt.getA {i : Nat} (hi : i < xs.length) : (xs ++ ys).getD i 0 = numOf A.n xs (tup A.n k i) := by
  unfold numOf
  rw [idx_tup _ _ _ (by rw [← h.lx]; exact hi), List.getD_eq_getElem?_getD, List.getElem?_append_left hi, List.getD_eq_getElem?_getD]
theorem LevAt.getB {i : Nat} (h1 : ¬ i < xs.length) (hi : i < (xs ++ ys).length) : (xs ++ ys).getD i 0 = numOf B.n ys (tup B.n k (i - xs.length)) := by
  rw [List.length_append] at hi
  unfold numOf
  rw [idx_tup _ _ _ (by rw [← h.ly]; omega), List.getD_eq_getElem?_getD, List.getElem?_append_right (by omega), List.getD_eq_getElem?_getD]
theorem LevAt.le : K ≤ (A.n + 1) ^ k + (B.n + 1) ^ k := by
  have := h.full.le
  rw [List.length_append, h.lx, h.ly] at this; exact this
include h'
theorem LevAt.finer (i j : Nat) (hi : i < (xs ++ ys).length) (hj : j < (xs ++ ys).length) (e : (xs' ++ ys').getD i 0 = (xs' ++ ys').getD j 0) : (xs ++ ys).getD i 0 = (xs ++ ys).getD j 0 := by
  have e1 : xs'.length = xs.length := h'.lx.trans h.lx.symm
  have e2 : ys'.length = ys.length := h'.ly.trans h.ly.symm
  have hi' : i < (xs' ++ ys').length := by rw [List.length_append] at *; omega
  have hj' : j < (xs' ++ ys').length := by rw [List.length_append] at *; omega
  by_cases ci : i < xs.length <;> by_cases cj : j < xs.length
  · rw [h'.getA (by omega), h'.getA (by omega)] at e
    rw [h.getA ci, h.getA cj]
    exact (h.aa _ _ (pl_tup _ _ _) (pl_tup _ _ _)).2 ((h'.aa _ _ (pl_tup _ _ _) (pl_tup _ _ _)).1 e).less
  · rw [h'.getA (by omega), h'.getB (by omega) hj', e1] at e
    rw [h.getA ci, h.getB cj hj]
    exact (h.ab _ _ (pl_tup _ _ _) (pl_tup _ _ _)).2 ((h'.ab _ _ (pl_tup _ _ _) (pl_tup _ _ _)).1 e).less
  · rw [h'.getB (by omega) hi', h'.getA (by omega), e1] at e
    rw [h.getB ci hi, h.getA cj]
    exact ((h.ab _ _ (pl_tup _ _ _) (pl_tup _ _ _)).2 ((h'.ab _ _ (pl_tup _ _ _) (pl_tup _ _ _)).1 e.symm).less).symm
  · rw [h'.getB (by omega) hi', h'.getB (by omega) hj', e1] at e
    rw [h.getB ci hi, h.getB cj hj]
    exact (h.bb _ _ (pl_tup _ _ _) (pl_tup _ _ _)).2 ((h'.bb _ _ (pl_tup _ _ _) (pl_tup _ _ _)).1 e).less
theorem LevAt.full' : Full (xs ++ ys).length K' fun i => (xs' ++ ys').getD i 0 := by
  have e : (xs' ++ ys').length = (xs ++ ys).length := by rw [List.length_append, List.length_append, h'.lx, h'.ly, h.lx, h.ly]
  rw [← e]; exact h'.full
theorem LevAt.grow : K ≤ K' := finer_le h.full (LevAt.full' h h') (LevAt.finer h h')
/-- ps many numbers ps before: no turn more tells anything apart -/
theorem LevAt.stay (e : K = K') (m : Nat) (ps bs : List Nat) (ha : Pl A k ps) (hb : Pl B k bs) (hc : Cw A B n ps bs) : Cw A B (n + m) ps bs := by
  refine Cw.stay (k := k) (fun ps bs hl ha hb hc => ?_) m ps bs ha.1 ha.2 hb.2 hc
  have ha : Pl A k ps := ⟨hl, ha⟩
  have hb : Pl B k bs := ⟨by rw [← hc.fit.len]; exact hl, hb⟩
  have e1 : xs'.length = xs.length := h'.lx.trans h.lx.symm
  have li : idx A.n ps < xs.length := by rw [h.lx]; exact idx_lt _ _ _ ha.1 (ok_iff.1 ha.2)
  have lj : idx B.n bs < ys.length := by rw [h.ly]; exact idx_lt _ _ _ hb.1 (ok_iff.1 hb.2)
  have := finer_same h.full (LevAt.full' h h') (LevAt.finer h h') e (i := idx A.n ps) (j := xs.length + idx B.n bs) (by rw [List.length_append]; omega) (by rw [List.length_append]; omega) ?_
  · have this : (xs' ++ ys').getD (idx A.n ps) 0 = (xs' ++ ys').getD (xs.length + idx B.n bs) 0 := this
    refine (h'.ab ps bs ha hb).1 ?_
    unfold numOf
    rw [List.getD_eq_getElem?_getD, List.getD_eq_getElem?_getD, List.getElem?_append_left (by omega), List.getElem?_append_right (by omega), e1, Nat.add_sub_cancel_left] at this
    exact this
  · show (xs ++ ys).getD (idx A.n ps) 0 = (xs ++ ys).getD (xs.length + idx B.n bs) 0
    rw [List.getD_eq_getElem?_getD, List.getD_eq_getElem?_getD, List.getElem?_append_left (by omega), List.getElem?_append_right (by omega), Nat.add_sub_cancel_left]
    exact (h.ab ps bs ha hb).2 hc
end
/-- how many numbers there are -/
def kindsL (l : List Nat) : Nat := l.foldl (fun n x => max n (x + 1)) 0
theorem kinds_fold : ∀ (l : List Nat) (m : Nat), m ≤ l.foldl (fun n x => max n (x + 1)) m ∧ (∀ x, x ∈ l → x + 1 ≤ l.foldl (fun n x => max n (x + 1)) m) ∧ (l.foldl (fun n x => max n (x + 1)) m = m ∨ ∃ x, x ∈ l ∧ l.foldl (fun n x => max n (x + 1)) m = x + 1)
  | [], m => ⟨by simp, by simp, .inl rfl⟩
  | y :: l, m => by
    rw [List.foldl_cons]
    obtain ⟨h1, h2, h3⟩ := kinds_fold l (max m (y + 1))
    refine ⟨by omega, fun x hx => ?_, ?_⟩
    · rcases List.mem_cons.1 hx with rfl | hx
      · omega
      · exact h2 x hx
    · rcases h3 with h | ⟨x, hx, h⟩
      · by_cases hm : m ≤ y + 1
        · exact .inr ⟨y, List.mem_cons_self, by rw [h]; omega⟩
        · exact .inl (by rw [h]; omega)
      · exact .inr ⟨x, List.mem_cons_of_mem _ hx, h⟩
theorem kinds_full {l : List Nat} {K : Nat} (h : Full l.length K fun i => l.getD i 0) : kindsL l = K := by
  obtain ⟨h1, h2, h3⟩ := kinds_fold l 0
  have hle : kindsL l ≤ K := by
    rcases h3 with e | ⟨x, hx, e⟩
    · unfold kindsL; rw [e]; omega
    · obtain ⟨i, hi, e2⟩ := List.mem_iff_getElem.1 hx
      have := h.1 i hi
      have e3 : l.getD i 0 = x := by rw [List.getD_eq_getElem?_getD, List.getElem?_eq_getElem hi]; exact e2
      unfold kindsL; rw [e]
      have this : l.getD i 0 < K := this
      omega
  by_cases h0 : K = 0
  · omega
  · obtain ⟨i, hi, e⟩ := h.2 (K - 1) (by omega)
    have e : l.getD i 0 = K - 1 := e
    have hm : l.getD i 0 ∈ l := by rw [List.getD_eq_getElem?_getD, List.getElem?_eq_getElem hi]; exact List.getElem_mem hi
    have := h2 _ hm
    have hk : kindsL l = l.foldl (fun n x => max n (x + 1)) 0 := rfl
    omega
end Go.Proofs.YtpcnoiigbmiejaaDoor.peb

/- The reference's counting game under way: one number after another, one turn after another, in plain words. No program in sight. -/
namespace Go.Proofs.YtpcnoiigbmiejaaDoor.peb
set_option linter.unusedVariables false
set_option linter.unusedSimpArgs false
open Go.Proofs.YtpcnoiigbmiejaaDoor.game

/-- n numbers are found by now -/
structure Numd (T0 T : List (List UInt8)) (N k n : Nat) (f : List Nat → List UInt8) (xs : List Nat) : Prop where
  len : xs.length = (N + 1) ^ k
  at' : ∀ i, i < n → T[xs.getD i 0]? = some (f (tup N k i))
  pre : T0 <+: T
  src : ∀ t, t < T.length → t < T0.length ∨ ∃ i, i < n ∧ xs.getD i 0 = t
  grow : T.length ≤ T0.length + n
theorem numd_start (T0 : List (List UInt8)) (N k : Nat) (f : List Nat → List UInt8) : Numd T0 T0 N k 0 f (List.replicate ((N + 1) ^ k) 0) :=
  ⟨List.length_replicate, fun i hi => by omega, List.prefix_refl _, fun t ht => .inl ht, by omega⟩
theorem getD_set' {l : List Nat} {i j v : Nat} (hi : i < l.length) : (l.set i v).getD j 0 = if i = j then v else l.getD j 0 := get_set hi
theorem Numd.step {T0 T T' : List (List UInt8)} {N k n v : Nat} {f : List Nat → List UInt8} {xs : List Nat} (h : Numd T0 T N k n f xs) (hT : T' = T ∨ (T' = T ++ [f (tup N k n)] ∧ f (tup N k n) ∉ T)) (hv : T'[v]? = some (f (tup N k n))) (hn : n < (N + 1) ^ k) : Numd T0 T' N k (n + 1) f (xs.set n v) where
  len := by rw [List.length_set]; exact h.len
  at' := fun i hi => by
    rw [getD_set' (by rw [h.len]; exact hn)]
    by_cases e : n = i
    · subst e; rw [if_pos rfl]; exact hv
    · rw [if_neg e]
      have := h.at' i (by omega)
      rcases hT with rfl | ⟨rfl, _⟩
      · exact this
      · rw [List.getElem?_append_left (List.getElem?_eq_some_iff.1 this).1]; exact this
  pre := by
    rcases hT with rfl | ⟨rfl, _⟩
    · exact h.pre
    · exact h.pre.trans (List.prefix_append _ _)
  src := fun t ht => by
    have old : t < T.length → t < T0.length ∨ ∃ i, i < n + 1 ∧ (xs.set n v).getD i 0 = t := fun ht => by
      rcases h.src t ht with e | ⟨i, hi, e⟩
      · exact .inl e
      · refine .inr ⟨i, by omega, ?_⟩
        rw [getD_set' (by rw [h.len]; exact hn), if_neg (by omega)]; exact e
    rcases hT with rfl | ⟨rfl, hs⟩
    · exact old ht
    · rw [List.length_append, List.length_singleton] at ht
      by_cases hl : t < T.length
      · exact old hl
      · refine .inr ⟨n, by omega, ?_⟩
        rw [getD_set' (by rw [h.len]; exact hn), if_pos rfl]
        have hvl := (List.getElem?_eq_some_iff.1 hv).1
        rw [List.length_append, List.length_singleton] at hvl
        by_cases hvt : v < T.length
        · rw [List.getElem?_append_left hvt] at hv
          exact absurd (List.mem_of_getElem? hv) hs
        · omega
  grow := by
    have := h.grow
    rcases hT with rfl | ⟨rfl, _⟩
    · omega
    · rw [List.length_append, List.length_singleton]; omega
/-- all numbers are found -/
structure Done (T0 T : List (List UInt8)) (N k : Nat) (f : List Nat → List UInt8) (xs : List Nat) : Prop where
  at' : AtT T N k xs f
  pre : T0 <+: T
  src : ∀ t, t < T.length → t < T0.length ∨ t ∈ xs
  grow : T.length ≤ T0.length + (N + 1) ^ k
theorem Numd.done {T0 T : List (List UInt8)} {N k n : Nat} {f : List Nat → List UInt8} {xs : List Nat} (h : Numd T0 T N k n f xs) (hn : n = (N + 1) ^ k) : Done T0 T N k f xs where
  at' := ⟨h.len, fun i hi => h.at' i (by rw [hn, ← h.len]; exact hi)⟩
  pre := h.pre
  src := fun t ht => by
    rcases h.src t ht with e | ⟨i, hi, rfl⟩
    · exact .inl e
    · refine .inr ?_
      rw [List.getD_eq_getElem?_getD, List.getElem?_eq_getElem (by rw [h.len, ← hn]; exact hi)]
      exact List.getElem_mem _
  grow := by have := h.grow; omega
theorem done_from {T1 T2 : List (List UInt8)} {N M k : Nat} {f g : List Nat → List UInt8} {xs ys : List Nat} (h1 : Done [] T1 N k f xs) (h2 : Done T1 T2 M k g ys) : AtT T2 N k xs f ∧ FromL T2 xs ys :=
  ⟨h1.at'.mono h2.pre, fun t ht => by
    rcases h2.src t ht with e | e
    · rcases h1.src t e with e | e
      · exact absurd e (by simp)
      · exact .inl e
    · exact .inr e⟩
/-- under way in the game after n turns, which told something apart each time if e -/
def Gm (A B : Gr) (k n : Nat) (ever : Prop) (xs ys : List Nat) : Prop := LevAt A B k n (kindsL (xs ++ ys)) xs ys ∧ (ever → n < kindsL (xs ++ ys))
theorem kinds_lev {A B : Gr} {k n K : Nat} {xs ys : List Nat} (h : LevAt A B k n K xs ys) : kindsL (xs ++ ys) = K := kinds_full h.full
theorem Gm.start {A B : Gr} {k : Nat} {e : Prop} {T1 T2 : List (List UInt8)} (hT : T2.Nodup) {xs ys : List Nat} (h1 : Done [] T1 A.n k (stx A) xs) (h2 : Done T1 T2 B.n k (stx B) ys) : Gm A B k 0 e xs ys := by
  obtain ⟨ha, hf⟩ := done_from h1 h2
  have h := lev_start hT ha h2.at' hf
  have hk := kinds_lev h
  refine ⟨by rw [hk]; exact h, fun _ => ?_⟩
  rw [hk]
  have h0 : 0 < (xs ++ ys).length := by
    rw [List.length_append, h.lx]
    have : 0 < (A.n + 1) ^ k := Nat.pow_pos (by omega)
    omega
  have := h.full.1 0 h0
  omega
theorem gm_next {A B : Gr} {k n : Nat} {e : Prop} {T1 T2 : List (List UInt8)} (hT : T2.Nodup) {xs ys xs' ys' : List Nat} (h : Gm A B k n e xs ys) (h1 : Done [] T1 A.n k (ttxL A.n xs) xs') (h2 : Done T1 T2 B.n k (ttxL B.n ys) ys') : LevAt A B k (n + 1) (kindsL (xs' ++ ys')) xs' ys' := by
  obtain ⟨ha, hf⟩ := done_from h1 h2
  have := lev_turn hT h.1 ha h2.at' hf
  rw [kinds_lev this]; exact this
theorem Gm.go {A B : Gr} {k n : Nat} {e : Prop} {xs ys xs' ys' : List Nat} (h : Gm A B k n e xs ys) (h' : LevAt A B k (n + 1) (kindsL (xs' ++ ys')) xs' ys') (hk : e → kindsL (xs' ++ ys') ≠ kindsL (xs ++ ys)) : Gm A B k (n + 1) e xs' ys' :=
  ⟨h', fun he => by
    have h1 := h.2 he
    have h2 := hk he
    have h3 := LevAt.grow h.1 h'
    omega⟩
theorem Gm.full {A B : Gr} {k n : Nat} {e : Prop} {xs ys : List Nat} (h : Gm A B k n e xs ys) (he : e) : n < (A.n + 1) ^ k + (B.n + 1) ^ k := Nat.lt_of_lt_of_le (h.2 he) h.1.le
/-- what the game answers: after T turns, or for ever -/
def Ans (A B : Gr) (T : Nat) (ever : Prop) (ps bs : List Nat) (b : Bool) : Prop := (¬ ever → (b = true ↔ Cw A B T ps bs)) ∧ (ever → (b = true ↔ ∀ n, Cw A B n ps bs))
theorem Gm.end {A B : Gr} {k n : Nat} {e : Prop} {xs ys ps bs : List Nat} {b : Bool} (h : Gm A B k n e xs ys) (hne : ¬ e) (ha : Pl A k ps) (hb : Pl B k bs) (hv : b = true ↔ numOf A.n xs ps = numOf B.n ys bs) : Ans A B n e ps bs b :=
  ⟨fun _ => hv.trans (h.1.ab ps bs ha hb), fun he => absurd he hne⟩
theorem Gm.stop {A B : Gr} {k n T : Nat} {e : Prop} {xs ys xs' ys' ps bs : List Nat} {b : Bool} (h : Gm A B k n e xs ys) (he : e) (h' : LevAt A B k (n + 1) (kindsL (xs' ++ ys')) xs' ys') (hk : kindsL (xs' ++ ys') = kindsL (xs ++ ys)) (ha : Pl A k ps) (hb : Pl B k bs) (hv : b = true ↔ numOf A.n xs ps = numOf B.n ys bs) : Ans A B T e ps bs b :=
  ⟨fun hn => absurd he hn, fun _ => by
    rw [hv, h.1.ab ps bs ha hb]
    constructor
    · intro hc m
      by_cases hm : m ≤ n
      · exact hc.le hm
      · obtain ⟨d, rfl⟩ : ∃ d, m = n + d := ⟨m - n, by omega⟩
        exact LevAt.stay h.1 h' hk.symm d ps bs ha hb hc
    · intro hc; exact hc n⟩
end Go.Proofs.YtpcnoiigbmiejaaDoor.peb

/- The program's numbers for the ways in which pebbles lie, and one turn on them. No program in sight. -/
namespace Go.Proofs.YtpcnoiigbmiejaaDoor.peb
set_option linter.unusedVariables false
set_option linter.unusedSimpArgs false
open Go.Proofs.YtpcnoiigbmiejaaDoor.game

/-! digits -/
def dgs (P : Nat) : Nat → Nat → List Nat
  | 0, _ => []
  | k + 1, s => s % P :: dgs P k (s / P)
def und (P : Nat) : List Nat → Nat
  | [] => 0
  | d :: ds => d + P * und P ds
theorem dgs_len (P : Nat) : ∀ (k s : Nat), (dgs P k s).length = k
  | 0, _ => rfl
  | k + 1, s => by rw [dgs, List.length_cons, dgs_len P k]
theorem dgs_lt {P : Nat} (hP : 0 < P) : ∀ (k s d : Nat), d ∈ dgs P k s → d < P
  | 0, _, _, h => by cases h
  | k + 1, s, d, h => by
    rw [dgs] at h
    rcases List.mem_cons.1 h with rfl | h
    · exact Nat.mod_lt _ hP
    · exact dgs_lt hP k _ d h
theorem und_dgs {P : Nat} : ∀ (k s : Nat), s < P ^ k → und P (dgs P k s) = s
  | 0, s, h => by
    have : s = 0 := by simpa using h
    rw [this]; rfl
  | k + 1, s, h => by
    rw [dgs, und, und_dgs k]
    · exact Nat.mod_add_div s P
    · rw [Nat.pow_succ, Nat.mul_comm] at h
      exact Nat.div_lt_of_lt_mul h
theorem dgs_und {P : Nat} (hP : 0 < P) : ∀ {ds : List Nat}, (∀ d, d ∈ ds → d < P) → dgs P ds.length (und P ds) = ds
  | [], _ => rfl
  | d :: ds, h => by
    have hd := h d List.mem_cons_self
    rw [List.length_cons, dgs, und]
    have e1 : (d + P * und P ds) % P = d := by rw [Nat.add_mul_mod_self_left, Nat.mod_eq_of_lt hd]
    have e2 : (d + P * und P ds) / P = und P ds := by rw [Nat.add_mul_div_left _ _ hP, Nat.div_eq_of_lt hd, Nat.zero_add]
    rw [e1, e2, dgs_und hP fun x hx => h x (List.mem_cons_of_mem _ hx)]
theorem und_lt {P : Nat} (hP : 0 < P) : ∀ {ds : List Nat}, (∀ d, d ∈ ds → d < P) → und P ds < P ^ ds.length
  | [], _ => Nat.one_pos
  | d :: ds, h => by
    have hd := h d List.mem_cons_self
    have ih := und_lt hP (ds := ds) fun x hx => h x (List.mem_cons_of_mem _ hx)
    rw [List.length_cons, und, Nat.pow_succ]
    calc d + P * und P ds < P + P * und P ds := by omega
      _ = P * (und P ds + 1) := by rw [Nat.mul_succ]; omega
      _ ≤ P * P ^ ds.length := Nat.mul_le_mul_left _ ih
      _ = P ^ ds.length * P := Nat.mul_comm _ _
theorem dgs_get {P : Nat} : ∀ (k s i : Nat), i < k → (dgs P k s).getD i 0 = s / P ^ i % P
  | 0, _, _, h => by omega
  | k + 1, s, 0, _ => by rw [dgs]; simp
  | k + 1, s, i + 1, h => by
    rw [dgs, Nat.pow_succ, Nat.mul_comm, ← Nat.div_div_eq_div_mul]
    exact dgs_get k (s / P) i (by omega)
theorem und_set {P : Nat} (v : Nat) : ∀ {ds : List Nat} {i : Nat}, i < ds.length → ds.getD i 0 = 0 → und P (ds.set i v) = und P ds + P ^ i * v
  | d :: ds, 0, _, h => by
    have h : d = 0 := h
    subst h
    show v + P * und P ds = 0 + P * und P ds + P ^ 0 * v
    simp; omega
  | d :: ds, i + 1, hi, h => by
    show d + P * und P (ds.set i v) = d + P * und P ds + P ^ (i + 1) * v
    have ih := und_set (P := P) v (ds := ds) (i := i) (by simpa using hi) h
    rw [ih, Nat.mul_add, Nat.pow_succ, Nat.mul_comm (P ^ i) P, Nat.mul_assoc, Nat.add_assoc]

/-! places -/
def pA (M d : Nat) : Nat := if d = 0 then 0 else (d - 1) / M + 1
def pB (M d : Nat) : Nat := if d = 0 then 0 else (d - 1) % M + 1
def cmb (M a b : Nat) : Nat := if a = 0 then 0 else 1 + (a - 1) * M + (b - 1)
section
variable {N M : Nat} (hM : 0 < M)
include hM
theorem pA_pair {x y : Nat} (hy : y < M) : pA M (1 + x * M + y) = x + 1 ∧ pB M (1 + x * M + y) = y + 1 := by
  have e : 1 + x * M + y - 1 = y + M * x := by rw [Nat.mul_comm]; omega
  unfold pA pB
  rw [if_neg (by omega), if_neg (by omega), e, Nat.add_mul_div_left _ _ hM, Nat.div_eq_of_lt hy, Nat.add_mul_mod_self_left, Nat.mod_eq_of_lt hy]
  exact ⟨by omega, rfl⟩
theorem p_le {d : Nat} (hd : d < N * M + 1) : pA M d ≤ N ∧ pB M d ≤ M ∧ (pA M d = 0 ↔ pB M d = 0) := by
  unfold pA pB
  by_cases h : d = 0
  · rw [if_pos h, if_pos h]; exact ⟨Nat.zero_le _, Nat.zero_le _, Iff.rfl⟩
  · rw [if_neg h, if_neg h]
    have h1 : (d - 1) / M < N := (Nat.div_lt_iff_lt_mul hM).2 (by omega)
    have h2 := Nat.mod_lt (d - 1) hM
    exact ⟨h1, h2, fun e => absurd e (Nat.succ_ne_zero _), fun e => absurd e (Nat.succ_ne_zero _)⟩
omit hM in
theorem cmb_p {d : Nat} : cmb M (pA M d) (pB M d) = d := by
  unfold cmb pA pB
  by_cases h : d = 0
  · rw [if_pos h, if_pos rfl]; exact h.symm
  · rw [if_neg h, if_neg h, if_neg (Nat.succ_ne_zero _)]
    have := Nat.mod_add_div (d - 1) M
    rw [Nat.add_sub_cancel, Nat.add_sub_cancel, Nat.mul_comm]
    omega
theorem p_cmb {a b : Nat} (hb : b ≤ M) (hz : a = 0 ↔ b = 0) : pA M (cmb M a b) = a ∧ pB M (cmb M a b) = b := by
  by_cases h : a = 0
  · have := hz.1 h
    unfold cmb; rw [if_pos h]
    unfold pA pB; rw [if_pos rfl, if_pos rfl]; exact ⟨h.symm, this.symm⟩
  · have hb0 : b ≠ 0 := fun e => h (hz.2 e)
    unfold cmb; rw [if_neg h]
    have := pA_pair hM (x := a - 1) (y := b - 1) (by omega)
    rw [this.1, this.2]; exact ⟨by omega, by omega⟩
theorem cmb_lt {a b : Nat} (ha : a ≤ N) (hb : b ≤ M) (hz : a = 0 ↔ b = 0) : cmb M a b < N * M + 1 := by
  unfold cmb
  by_cases h : a = 0
  · rw [if_pos h]; omega
  · rw [if_neg h]
    have hb0 : b ≠ 0 := fun e => h (hz.2 e)
    have : (a - 1) * M + M ≤ N * M := by rw [← Nat.succ_mul]; exact Nat.mul_le_mul_right _ (by omega)
    omega
end
theorem dgs_range (P : Nat) (k s : Nat) : dgs P k s = (List.range k).map fun j => s / P ^ j % P := by
  apply List.ext_getElem?
  intro i
  rw [List.getElem?_map]
  by_cases hi : i < k
  · rw [List.getElem?_range hi]
    have := dgs_get (P := P) k s i hi
    rw [List.getD_eq_getElem?_getD, List.getElem?_eq_getElem (by rw [dgs_len]; exact hi)] at this
    rw [List.getElem?_eq_getElem (by rw [dgs_len]; exact hi)]
    exact congrArg some this
  · rw [List.getElem?_eq_none (by rw [dgs_len]; omega), List.getElem?_eq_none (by simp; omega)]; rfl
def posA (N M k s : Nat) : List Nat := (dgs (N * M + 1) k s).map (pA M)
def posB (N M k s : Nat) : List Nat := (dgs (N * M + 1) k s).map (pB M)
def stOf (N M : Nat) (ps qs : List Nat) : Nat := und (N * M + 1) (List.zipWith (cmb M) ps qs)
theorem map_get {f : Nat → Nat} (h0 : f 0 = 0) (l : List Nat) (i : Nat) : (l.map f).getD i 0 = f (l.getD i 0) := by
  rw [List.getD_eq_getElem?_getD, List.getD_eq_getElem?_getD, List.getElem?_map]
  cases l[i]? with
  | none => exact h0.symm
  | some a => rfl
theorem pA_zero (M : Nat) : pA M 0 = 0 := rfl
theorem pB_zero (M : Nat) : pB M 0 = 0 := rfl
theorem dig_lt {P : Nat} (hP : 0 < P) (k s i : Nat) : (dgs P k s).getD i 0 < P := by
  by_cases hi : i < k
  · rw [dgs_get k s i hi]; exact Nat.mod_lt _ hP
  · rw [List.getD_eq_getElem?_getD, List.getElem?_eq_none (by rw [dgs_len]; omega)]; exact hP
/-- those under pebbles, of the first i pebbles -/
def upA (N M s i : Nat) : List Nat := placed ((List.range i).map fun j => pA M (s / (N * M + 1) ^ j % (N * M + 1)))
def upB (N M s i : Nat) : List Nat := placed ((List.range i).map fun j => pB M (s / (N * M + 1) ^ j % (N * M + 1)))
theorem upA_full (N M k s : Nat) : upA N M s k = placed (posA N M k s) := by unfold upA posA; rw [dgs_range, List.map_map]; rfl
theorem upB_full (N M k s : Nat) : upB N M s k = placed (posB N M k s) := by unfold upB posB; rw [dgs_range, List.map_map]; rfl
theorem placed_snoc (l : List Nat) (p : Nat) : placed (l ++ [p]) = placed l ++ if p = 0 then [] else [p - 1] := by
  unfold placed
  rw [List.filter_append, List.map_append]
  congr 1
  by_cases h : p = 0
  · rw [if_pos h, List.filter_cons_of_neg (by simp [h])]; rfl
  · rw [if_neg h, List.filter_cons_of_pos (by simp [h])]; rfl
theorem up_zero {N M s i : Nat} (h : s / (N * M + 1) ^ i % (N * M + 1) = 0) : upA N M s (i + 1) = upA N M s i ∧ upB N M s (i + 1) = upB N M s i := by
  unfold upA upB
  rw [List.range_succ, List.map_append, List.map_append, List.map_singleton, List.map_singleton, h, placed_snoc, placed_snoc]
  simp [pA, pB]
theorem up_one {N M s i d : Nat} (h : s / (N * M + 1) ^ i % (N * M + 1) = d + 1) : upA N M s (i + 1) = upA N M s i ++ [d / M] ∧ upB N M s (i + 1) = upB N M s i ++ [d % M] := by
  unfold upA upB
  rw [List.range_succ, List.map_append, List.map_append, List.map_singleton, List.map_singleton, h, placed_snoc, placed_snoc]
  simp [pA, pB]
section
variable {N M k : Nat} (hM : 0 < M)
theorem posA_len (s : Nat) : (posA N M k s).length = k := by unfold posA; rw [List.length_map, dgs_len]
theorem posB_len (s : Nat) : (posB N M k s).length = k := by unfold posB; rw [List.length_map, dgs_len]
include hM
theorem pos_lay (s i : Nat) : ((posA N M k s).getD i 0 = 0 ↔ (posB N M k s).getD i 0 = 0) ∧ (posA N M k s).getD i 0 ≤ N ∧ (posB N M k s).getD i 0 ≤ M := by
  unfold posA posB
  rw [map_get (pA_zero M), map_get (pB_zero M)]
  obtain ⟨h1, h2, h3⟩ := p_le (N := N) hM (dig_lt (P := N * M + 1) (by omega) k s i)
  exact ⟨h3, h1, h2⟩
/-- a pebble is put from a way in which it lies beside -/
theorem pos_put {s i x y : Nat} (hs : s < (N * M + 1) ^ k) (hi : i < k) (h0 : s / (N * M + 1) ^ i % (N * M + 1) = 0) (hx : x < N) (hy : y < M) :
    s + (N * M + 1) ^ i * (1 + x * M + y) < (N * M + 1) ^ k ∧ posA N M k (s + (N * M + 1) ^ i * (1 + x * M + y)) = (posA N M k s).set i (x + 1) ∧ posB N M k (s + (N * M + 1) ^ i * (1 + x * M + y)) = (posB N M k s).set i (y + 1) := by
  have hP : 0 < N * M + 1 := by omega
  have hv : 1 + x * M + y < N * M + 1 := by
    have : x * M + M ≤ N * M := by rw [← Nat.succ_mul]; exact Nat.mul_le_mul_right _ (by omega)
    omega
  have hd : (dgs (N * M + 1) k s).getD i 0 = 0 := by rw [dgs_get k s i hi]; exact h0
  have e : s + (N * M + 1) ^ i * (1 + x * M + y) = und (N * M + 1) ((dgs (N * M + 1) k s).set i (1 + x * M + y)) := by
    rw [und_set _ (by rw [dgs_len]; exact hi) hd, und_dgs k s hs]
  have hall : ∀ d, d ∈ (dgs (N * M + 1) k s).set i (1 + x * M + y) → d < N * M + 1 := fun d h => by
    rcases List.mem_or_eq_of_mem_set h with h | rfl
    · exact dgs_lt hP k s d h
    · exact hv
  have hl : ((dgs (N * M + 1) k s).set i (1 + x * M + y)).length = k := by rw [List.length_set, dgs_len]
  have e2 : dgs (N * M + 1) k (s + (N * M + 1) ^ i * (1 + x * M + y)) = (dgs (N * M + 1) k s).set i (1 + x * M + y) := by
    rw [e]
    have := dgs_und hP hall
    rw [hl] at this; exact this
  obtain ⟨p1, p2⟩ := pA_pair hM (x := x) hy
  refine ⟨?_, ?_, ?_⟩
  · rw [e]
    have := und_lt hP hall
    rw [hl] at this; exact this
  · unfold posA; rw [e2, List.map_set, p1]
  · unfold posB; rw [e2, List.map_set, p2]
/-- a pebble is put beside -/
def clr (P s i : Nat) : Nat := s - P ^ i * (s / P ^ i % P)
omit hM in
theorem clr_facts {P s i : Nat} (hP : 0 < P) (hs : s < P ^ k) (hi : i < k) : clr P s i ≤ s ∧ clr P s i / P ^ i % P = 0 ∧ s = clr P s i + P ^ i * (s / P ^ i % P) ∧ clr P s i = und P ((dgs P k s).set i 0) := by
  have hle : P ^ i * (s / P ^ i % P) ≤ s := Nat.le_trans (Nat.mul_le_mul_left _ (Nat.mod_le _ _)) (Nat.mul_div_le s _)
  have hall : ∀ d, d ∈ (dgs P k s).set i 0 → d < P := fun d h => by
    rcases List.mem_or_eq_of_mem_set h with h | rfl
    · exact dgs_lt hP k s d h
    · exact hP
  have hl : ((dgs P k s).set i 0).length = k := by rw [List.length_set, dgs_len]
  have hs2 : ((dgs P k s).set i 0).set i (s / P ^ i % P) = dgs P k s := by
    rw [List.set_set]
    apply List.ext_getElem?
    intro j
    rw [List.getElem?_set]
    by_cases h : i = j
    · subst h
      rw [if_pos rfl, if_pos (by rw [dgs_len]; exact hi)]
      have := dgs_get (P := P) k s i hi
      rw [List.getD_eq_getElem?_getD, List.getElem?_eq_getElem (by rw [dgs_len]; exact hi)] at this
      rw [List.getElem?_eq_getElem (by rw [dgs_len]; exact hi)]
      exact congrArg some this.symm
    · rw [if_neg h]
  have h0 : ((dgs P k s).set i 0).getD i 0 = 0 := by rw [get_set (by rw [dgs_len]; exact hi), if_pos rfl]
  have e := und_set (P := P) (s / P ^ i % P) (ds := (dgs P k s).set i 0) (i := i) (by rw [hl]; exact hi) h0
  rw [hs2, und_dgs k s hs] at e
  have ec : clr P s i = und P ((dgs P k s).set i 0) := by unfold clr; omega
  refine ⟨Nat.sub_le _ _, ?_, by unfold clr; omega, ec⟩
  rw [ec]
  have := dgs_und hP hall
  rw [hl] at this
  rw [← dgs_get k _ i hi, this, h0]
omit hM in
theorem pos_clr {s i : Nat} (hs : s < (N * M + 1) ^ k) (hi : i < k) : posA N M k (clr (N * M + 1) s i) = (posA N M k s).set i 0 ∧ posB N M k (clr (N * M + 1) s i) = (posB N M k s).set i 0 := by
  have hP : 0 < N * M + 1 := by omega
  obtain ⟨_, _, _, e⟩ := clr_facts hP hs hi
  have hall : ∀ d, d ∈ (dgs (N * M + 1) k s).set i 0 → d < N * M + 1 := fun d h => by
    rcases List.mem_or_eq_of_mem_set h with h | rfl
    · exact dgs_lt hP k s d h
    · exact hP
  have hl : ((dgs (N * M + 1) k s).set i 0).length = k := by rw [List.length_set, dgs_len]
  have e2 : dgs (N * M + 1) k (clr (N * M + 1) s i) = (dgs (N * M + 1) k s).set i 0 := by
    rw [e]
    have := dgs_und hP hall
    rw [hl] at this; exact this
  unfold posA posB
  rw [e2, List.map_set, List.map_set, pA_zero, pB_zero]
  exact ⟨rfl, rfl⟩
end
theorem zip_len {f : Nat → Nat → Nat} {ps qs : List Nat} (h : ps.length = qs.length) : (List.zipWith f ps qs).length = ps.length := by rw [List.length_zipWith, ← h, Nat.min_self]
/-- the number of places and back -/
theorem st_pos {N M : Nat} (hM : 0 < M) : ∀ {ps qs : List Nat}, ps.length = qs.length → (∀ i, i < ps.length → (ps.getD i 0 = 0 ↔ qs.getD i 0 = 0) ∧ ps.getD i 0 ≤ N ∧ qs.getD i 0 ≤ M) → (∀ d, d ∈ List.zipWith (cmb M) ps qs → d < N * M + 1) ∧ (List.zipWith (cmb M) ps qs).map (pA M) = ps ∧ (List.zipWith (cmb M) ps qs).map (pB M) = qs
  | [], [], _, _ => ⟨fun d h => (by cases h), rfl, rfl⟩
  | a :: ps, b :: qs, hl, h => by
    obtain ⟨h1, h2, h3⟩ := h 0 (by simp)
    have h1 : a = 0 ↔ b = 0 := h1
    have h2 : a ≤ N := h2
    have h3 : b ≤ M := h3
    obtain ⟨i1, i2, i3⟩ := st_pos hM (ps := ps) (qs := qs) (by simpa using hl) fun i hi => h (i + 1) (by simpa using hi)
    obtain ⟨c1, c2⟩ := p_cmb hM h3 h1
    rw [List.zipWith_cons_cons, List.map_cons, List.map_cons, c1, c2, i2, i3]
    refine ⟨fun d hd => ?_, rfl, rfl⟩
    rcases List.mem_cons.1 hd with rfl | hd
    · exact cmb_lt hM h2 h3 h1
    · exact i1 d hd
theorem stOf_pos {N M k : Nat} (hM : 0 < M) {ps qs : List Nat} (hk : ps.length = k) (hl : ps.length = qs.length) (h : ∀ i, i < ps.length → (ps.getD i 0 = 0 ↔ qs.getD i 0 = 0) ∧ ps.getD i 0 ≤ N ∧ qs.getD i 0 ≤ M) : stOf N M ps qs < (N * M + 1) ^ k ∧ posA N M k (stOf N M ps qs) = ps ∧ posB N M k (stOf N M ps qs) = qs := by
  obtain ⟨h1, h2, h3⟩ := st_pos hM hl h
  have hP : 0 < N * M + 1 := by omega
  have hz : (List.zipWith (cmb M) ps qs).length = k := by rw [zip_len hl, hk]
  have e := dgs_und hP h1
  rw [hz] at e
  have hlt := und_lt hP h1
  rw [hz] at hlt
  unfold posA posB stOf
  rw [e]
  exact ⟨hlt, h2, h3⟩

/-! one turn -/
/-- the second player can answer each choice -/
def ansP (mt : Bool) (N M : Nat) (W : Nat → Nat → Prop) : Prop :=
  if mt = true then ∃ f g, Bij N M f g ∧ ∀ x, x < N → W x (f x) else (∀ x, x < N → ∃ y, y < M ∧ W x y) ∧ ∀ y, y < M → ∃ x, x < N ∧ W x y
def gameW (mt : Bool) (A B : Gr) (n : Nat) (ps qs : List Nat) : Prop := if mt = true then Cw A B n ps qs else Pw A B n ps qs
theorem gameW_succ {mt : Bool} {A B : Gr} {n : Nat} {ps qs : List Nat} : gameW mt A B (n + 1) ps qs ↔ Fit A B ps qs ∧ ∀ i, i < ps.length → ansP mt A.n B.n fun x y => gameW mt A B n (ps.set i (x + 1)) (qs.set i (y + 1)) := by
  cases mt with
  | true => exact Iff.rfl
  | false => exact Iff.rfl
theorem gameW_zero {mt : Bool} {A B : Gr} {ps qs : List Nat} : gameW mt A B 0 ps qs ↔ Fit A B ps qs := by
  cases mt <;> exact Iff.rfl
theorem ansP_congr {mt : Bool} {N M : Nat} {W V : Nat → Nat → Prop} (h : ∀ x y, x < N → y < M → (W x y ↔ V x y)) : ansP mt N M W ↔ ansP mt N M V := by
  unfold ansP
  cases mt with
  | true =>
    simp only [if_true]
    constructor
    · rintro ⟨f, g, hb, hw⟩; exact ⟨f, g, hb, fun x hx => (h x _ hx (hb.1 x hx).1).1 (hw x hx)⟩
    · rintro ⟨f, g, hb, hw⟩; exact ⟨f, g, hb, fun x hx => (h x _ hx (hb.1 x hx).1).2 (hw x hx)⟩
  | false =>
    simp only [Bool.false_eq_true, if_false]
    constructor
    · rintro ⟨h1, h2⟩
      exact ⟨fun x hx => by obtain ⟨y, hy, hw⟩ := h1 x hx; exact ⟨y, hy, (h x y hx hy).1 hw⟩, fun y hy => by obtain ⟨x, hx, hw⟩ := h2 y hy; exact ⟨x, hx, (h x y hx hy).1 hw⟩⟩
    · rintro ⟨h1, h2⟩
      exact ⟨fun x hx => by obtain ⟨y, hy, hw⟩ := h1 x hx; exact ⟨y, hy, (h x y hx hy).2 hw⟩, fun y hy => by obtain ⟨x, hx, hw⟩ := h2 y hy; exact ⟨x, hx, (h x y hx hy).2 hw⟩⟩
/-- for each way in which pebbles lie whether the game is won -/
def Tells (mt : Bool) (A B : Gr) (k n : Nat) (l : List Bool) : Prop := l.length = (A.n * B.n + 1) ^ k ∧ ∀ s, s < l.length → (l.getD s false = true ↔ gameW mt A B n (posA A.n B.n k s) (posB A.n B.n k s))
/-- what a turn makes of a list -/
def TurnL (mt : Bool) (N M k : Nat) (F l l' : List Bool) : Prop := l'.length = (N * M + 1) ^ k ∧ ∀ s, s < l'.length → (l'.getD s false = true ↔ F.getD s false = true ∧ ∀ i, i < k → ansP mt N M fun x y => l.getD (clr (N * M + 1) s i + (N * M + 1) ^ i * (1 + x * M + y)) false = true)
theorem tells_next {mt : Bool} {A B : Gr} {k n : Nat} {F l l' : List Bool} (hB : 0 < B.n) (hF : Tells mt A B k 0 F) (h : Tells mt A B k n l) (ht : TurnL mt A.n B.n k F l l') : Tells mt A B k (n + 1) l' := by
  refine ⟨ht.1, fun s hs => ?_⟩
  have hs' : s < (A.n * B.n + 1) ^ k := by rw [← ht.1]; exact hs
  rw [ht.2 s hs, gameW_succ, hF.2 s (by rw [hF.1]; exact hs'), gameW_zero, posA_len]
  refine and_congr Iff.rfl (forall_congr' fun i => ?_)
  refine forall_congr' fun hi => ansP_congr fun x y hx hy => ?_
  have hP : 0 < A.n * B.n + 1 := by omega
  obtain ⟨c1, c2, c3, c4⟩ := clr_facts hP hs' hi
  have hc : clr (A.n * B.n + 1) s i < (A.n * B.n + 1) ^ k := Nat.lt_of_le_of_lt c1 hs'
  obtain ⟨p1, p2, p3⟩ := pos_put (N := A.n) hB hc hi c2 hx hy
  obtain ⟨q1, q2⟩ := pos_clr (N := A.n) (M := B.n) hs' hi
  rw [h.2 _ (by rw [h.1]; exact p1), p2, p3, q1, q2, List.set_set, List.set_set]
/-- whom a pebble fits: blocks, in the counting game -/
theorem tells_blk {A B : Gr} {k n : Nat} {l : List Bool} (hB : 0 < B.n) (h : Tells true A B k n l) {r i : Nat} (hr : r < (A.n * B.n + 1) ^ k) (hi : i < k) (h0 : r / (A.n * B.n + 1) ^ i % (A.n * B.n + 1) = 0) :
    Blk fun x y => (x < A.n ∧ y < B.n) ∧ l.getD (r + (A.n * B.n + 1) ^ i * (1 + x * B.n + y)) false = true := by
  have key : ∀ x y, x < A.n → y < B.n → (l.getD (r + (A.n * B.n + 1) ^ i * (1 + x * B.n + y)) false = true ↔ Cw A B n ((posA A.n B.n k r).set i (x + 1)) ((posB A.n B.n k r).set i (y + 1))) := fun x y hx hy => by
    obtain ⟨p1, p2, p3⟩ := pos_put (N := A.n) hB hr hi h0 hx hy
    rw [h.2 _ (by rw [h.1]; exact p1), p2, p3]; exact Iff.rfl
  rintro x y x' y' ⟨⟨h1, h2⟩, h3⟩ ⟨⟨h4, _⟩, h5⟩ ⟨⟨_, h6⟩, h7⟩
  exact ⟨⟨h1, h6⟩, (key x y' h1 h6).2 (((key x y h1 h2).1 h3).block ((key x' y h4 h2).1 h5) ((key x' y' h4 h6).1 h7))⟩
end Go.Proofs.YtpcnoiigbmiejaaDoor.peb

/- One turn of the program's game of pebbles, in plain words. No program in sight. -/
namespace Go.Proofs.YtpcnoiigbmiejaaDoor.peb
set_option linter.unusedVariables false
set_option linter.unusedSimpArgs false
open Go.Proofs.YtpcnoiigbmiejaaDoor.game
theorem setB {l : List Bool} {j i : Nat} {b : Bool} (hj : j < l.length) : (l.set j b).getD i false = if i = j then b else l.getD i false := by
  rw [List.getD_eq_getElem?_getD, List.getD_eq_getElem?_getD, List.getElem?_set]
  by_cases h : j = i
  · subst h; rw [if_pos rfl, if_pos hj, if_pos rfl]; rfl
  · rw [if_neg h, if_neg (fun e => h e.symm)]
theorem fresh_none (n i : Nat) : (List.replicate n false).getD i false = true ↔ False := by
  rw [List.getD_eq_getElem?_getD, List.getElem?_replicate]
  split <;> simp
/-- before (i, j) in the order in which pairs are looked at -/
def Bef (i j x y : Nat) : Prop := x < i ∨ (x = i ∧ y < j)
structure Marks (W : Nat → Nat → Prop) (N M i j : Nat) (R C : List Bool) : Prop where
  lr : R.length = N
  lc : C.length = M
  r : ∀ x, x < N → (R.getD x false = true ↔ ∃ y, y < M ∧ Bef i j x y ∧ W x y)
  c : ∀ y, y < M → (C.getD y false = true ↔ ∃ x, x < N ∧ Bef i j x y ∧ W x y)
section
variable {W : Nat → Nat → Prop} {N M i j : Nat} {R C : List Bool}
theorem marks_zero : Marks W N M 0 0 (List.replicate N false) (List.replicate M false) :=
  ⟨List.length_replicate, List.length_replicate, fun x _ => (fresh_none N x).trans ⟨fun h => h.elim, fun ⟨y, _, h, _⟩ => by unfold Bef at h; omega⟩,
    fun y _ => (fresh_none M y).trans ⟨fun h => h.elim, fun ⟨x, _, h, _⟩ => by unfold Bef at h; omega⟩⟩
theorem bef_next {x y : Nat} : Bef i (j + 1) x y ↔ Bef i j x y ∨ (x = i ∧ y = j) := by unfold Bef; omega
theorem marks_skip (h : Marks W N M i j R C) (hn : ¬ W i j) : Marks W N M i (j + 1) R C := by
  refine ⟨h.lr, h.lc, fun x hx => (h.r x hx).trans ⟨fun ⟨y, a, b, c⟩ => ⟨y, a, bef_next.2 (.inl b), c⟩, fun ⟨y, a, b, c⟩ => ?_⟩, fun y hy => (h.c y hy).trans ⟨fun ⟨x, a, b, c⟩ => ⟨x, a, bef_next.2 (.inl b), c⟩, fun ⟨x, a, b, c⟩ => ?_⟩⟩
  · rcases bef_next.1 b with b | ⟨rfl, rfl⟩
    · exact ⟨y, a, b, c⟩
    · exact absurd c hn
  · rcases bef_next.1 b with b | ⟨rfl, rfl⟩
    · exact ⟨x, a, b, c⟩
    · exact absurd c hn
theorem marks_hit (h : Marks W N M i j R C) (hi : i < N) (hj : j < M) (hw : W i j) : Marks W N M i (j + 1) (R.set i true) (C.set j true) := by
  refine ⟨by rw [List.length_set]; exact h.lr, by rw [List.length_set]; exact h.lc, fun x hx => ?_, fun y hy => ?_⟩
  · rw [setB (by rw [h.lr]; exact hi)]
    by_cases e : x = i
    · subst e; rw [if_pos rfl]
      exact ⟨fun _ => ⟨j, hj, bef_next.2 (.inr ⟨rfl, rfl⟩), hw⟩, fun _ => rfl⟩
    · rw [if_neg e, h.r x hx]
      exact ⟨fun ⟨y, a, b, c⟩ => ⟨y, a, bef_next.2 (.inl b), c⟩, fun ⟨y, a, b, c⟩ => ⟨y, a, (bef_next.1 b).resolve_right (fun q => e q.1), c⟩⟩
  · rw [setB (by rw [h.lc]; exact hj)]
    by_cases e : y = j
    · subst e; rw [if_pos rfl]
      exact ⟨fun _ => ⟨i, hi, bef_next.2 (.inr ⟨rfl, rfl⟩), hw⟩, fun _ => rfl⟩
    · rw [if_neg e, h.c y hy]
      exact ⟨fun ⟨x, a, b, c⟩ => ⟨x, a, bef_next.2 (.inl b), c⟩, fun ⟨x, a, b, c⟩ => ⟨x, a, (bef_next.1 b).resolve_right (fun q => e q.2), c⟩⟩
theorem marks_row (h : Marks W N M i M R C) : Marks W N M (i + 1) 0 R C := by
  have e : ∀ x y, y < M → (Bef i M x y ↔ Bef (i + 1) 0 x y) := fun x y hy => by unfold Bef; omega
  exact ⟨h.lr, h.lc, fun x hx => (h.r x hx).trans ⟨fun ⟨y, a, b, c⟩ => ⟨y, a, (e x y a).1 b, c⟩, fun ⟨y, a, b, c⟩ => ⟨y, a, (e x y a).2 b, c⟩⟩,
    fun y hy => (h.c y hy).trans ⟨fun ⟨x, a, b, c⟩ => ⟨x, a, (e x y hy).1 b, c⟩, fun ⟨x, a, b, c⟩ => ⟨x, a, (e x y hy).2 b, c⟩⟩⟩
theorem no_false {l : List Bool} : (!(l.contains false)) = true ↔ ∀ i, i < l.length → l.getD i false = true := by
  have e : l.contains false = true ↔ false ∈ l := by simp
  constructor
  · intro h i hi
    rw [List.getD_eq_getElem?_getD, List.getElem?_eq_getElem hi]
    show l[i] = true
    cases hb : l[i] with
    | true => rfl
    | false =>
      have : false ∈ l := by rw [← hb]; exact List.getElem_mem hi
      rw [e.2 this] at h; cases h
  · intro h
    cases hc : l.contains false with
    | false => rfl
    | true =>
      obtain ⟨i, hi, hb⟩ := List.mem_iff_getElem.1 (e.1 hc)
      have := h i hi
      rw [List.getD_eq_getElem?_getD, List.getElem?_eq_getElem hi] at this
      have h2 : l[i] = true := this
      rw [hb] at h2; cases h2
theorem marks_done (h : Marks W N M N 0 R C) : (!(R.contains false) && !(C.contains false)) = true ↔ ansP false N M W := by
  rw [Bool.and_eq_true, no_false, no_false, h.lr, h.lc]
  have e : ∀ x y, x < N → (Bef N 0 x y ↔ True) := fun x y hx => by unfold Bef; simp; omega
  unfold ansP
  rw [if_neg (by simp)]
  constructor
  · rintro ⟨h1, h2⟩
    refine ⟨fun x hx => ?_, fun y hy => ?_⟩
    · obtain ⟨y, a, _, c⟩ := (h.r x hx).1 (h1 x hx); exact ⟨y, a, c⟩
    · obtain ⟨x, a, _, c⟩ := (h.c y hy).1 (h2 y hy); exact ⟨x, a, c⟩
  · rintro ⟨h1, h2⟩
    refine ⟨fun x hx => (h.r x hx).2 ?_, fun y hy => (h.c y hy).2 ?_⟩
    · obtain ⟨y, a, c⟩ := h1 x hx; exact ⟨y, a, (e x y hx).2 trivial, c⟩
    · obtain ⟨x, a, c⟩ := h2 y hy; exact ⟨x, a, (e x y a).2 trivial, c⟩
end
/-! the turn -/
def Aw (mt : Bool) (N M : Nat) (l : List Bool) (i u : Nat) : Prop := ansP mt N M fun x y => l.getD (u + (N * M + 1) ^ i * (1 + x * M + y)) false = true
/-- under way in a turn: at pebble i, before the way s -/
def Tn (mt : Bool) (N M k : Nat) (F l : List Bool) (i s : Nat) (X : List Bool) : Prop := X.length = (N * M + 1) ^ k ∧ ∀ u, u < (N * M + 1) ^ k → (X.getD u false = true ↔ F.getD u false = true ∧ (∀ j, j < i → Aw mt N M l j (clr (N * M + 1) u j)) ∧ (clr (N * M + 1) u i < s → Aw mt N M l i (clr (N * M + 1) u i)))
def Gone (X : List Bool) (s st q : Nat) (X' : List Bool) : Prop := X'.length = X.length ∧ ∀ u, X'.getD u false = true ↔ X.getD u false = true ∧ ∀ p, p < q → u ≠ s + st * p
theorem gone_zero (X : List Bool) (s st : Nat) : Gone X s st 0 X := ⟨rfl, fun _ => ⟨fun h => ⟨h, fun p hp => by omega⟩, fun h => h.1⟩⟩
theorem gone_next {X X' : List Bool} {s st q : Nat} (h : Gone X s st q X') (hb : s + st * q < X.length) : Gone X s st (q + 1) (X'.set (s + st * q) false) := by
  refine ⟨by rw [List.length_set]; exact h.1, fun u => ?_⟩
  rw [setB (by rw [h.1]; exact hb)]
  by_cases e : u = s + st * q
  · rw [if_pos e]
    exact ⟨fun h => (by cases h), fun h => absurd e (h.2 q (Nat.lt_succ_self q))⟩
  · rw [if_neg e, h.2 u]
    refine and_congr Iff.rfl ⟨fun h p hp => ?_, fun h p hp => h p (by omega)⟩
    rcases Nat.lt_or_ge p q with h1 | h1
    · exact h p h1
    · obtain rfl : p = q := by omega
      exact e
section
variable {mt : Bool} {N M k i s : Nat} {F l X X' : List Bool}
theorem tn_start (hF : F.length = (N * M + 1) ^ k) : Tn mt N M k F l 0 0 F := ⟨hF, fun u _ => ⟨fun h => ⟨h, fun j hj => by omega, fun h => by omega⟩, fun h => h.1⟩⟩
theorem clr_digit {u : Nat} (hu : u < (N * M + 1) ^ k) (hi : i < k) : clr (N * M + 1) u i / (N * M + 1) ^ i % (N * M + 1) = 0 := (clr_facts (by omega) hu hi).2.1
theorem tn_skip (h : Tn mt N M k F l i s X) (hi : i < k) (hs : s / (N * M + 1) ^ i % (N * M + 1) ≠ 0) : Tn mt N M k F l i (s + 1) X := by
  refine ⟨h.1, fun u hu => (h.2 u hu).trans (and_congr Iff.rfl (and_congr Iff.rfl ?_))⟩
  have hne : clr (N * M + 1) u i ≠ s := fun e => hs (by rw [← e]; exact clr_digit hu hi)
  exact ⟨fun g e => g (by omega), fun g e => g (by omega)⟩
theorem tn_yes (h : Tn mt N M k F l i s X) (ha : Aw mt N M l i s) : Tn mt N M k F l i (s + 1) X := by
  refine ⟨h.1, fun u hu => (h.2 u hu).trans (and_congr Iff.rfl (and_congr Iff.rfl ?_))⟩
  refine ⟨fun g e => ?_, fun g e => g (by omega)⟩
  rcases Nat.lt_or_ge (clr (N * M + 1) u i) s with h1 | h1
  · exact g h1
  · have e2 : clr (N * M + 1) u i = s := by omega
    rw [e2]; exact ha
theorem clr_put {p : Nat} (hs : s / (N * M + 1) ^ i % (N * M + 1) = 0) (hp : p < N * M + 1) : clr (N * M + 1) (s + (N * M + 1) ^ i * p) i = s := by
  have hP : 0 < (N * M + 1) ^ i := Nat.pow_pos (by omega)
  unfold clr
  rw [Nat.add_mul_div_left _ _ hP, Nat.add_mod, hs, Nat.zero_add, Nat.mod_mod, Nat.mod_eq_of_lt hp]
  omega
theorem tn_no (h : Tn mt N M k F l i s X) (hi : i < k) (hs : s / (N * M + 1) ^ i % (N * M + 1) = 0) (hn : ¬ Aw mt N M l i s) (g : Gone X s ((N * M + 1) ^ i) (N * M + 1) X') : Tn mt N M k F l i (s + 1) X' := by
  refine ⟨g.1.trans h.1, fun u hu => ?_⟩
  have key : (∀ p, p < N * M + 1 → u ≠ s + (N * M + 1) ^ i * p) ↔ clr (N * M + 1) u i ≠ s := by
    constructor
    · intro hq e
      have := (clr_facts (P := N * M + 1) (by omega) hu hi).2.2.1
      exact hq (u / (N * M + 1) ^ i % (N * M + 1)) (Nat.mod_lt _ (by omega)) (by rw [e] at this; exact this)
    · intro hq p hp e
      exact hq (by rw [e]; exact clr_put hs hp)
  rw [g.2 u, h.2 u hu, key]
  constructor
  · rintro ⟨⟨h1, h2, h3⟩, h4⟩
    exact ⟨h1, h2, fun e => h3 (by omega)⟩
  · rintro ⟨h1, h2, h3⟩
    exact ⟨⟨h1, h2, fun e => h3 (by omega)⟩, fun e => hn (by have := h3 (by omega); rw [e] at this; exact this)⟩
theorem tn_next (h : Tn mt N M k F l i ((N * M + 1) ^ k) X) (hi : i < k) : Tn mt N M k F l (i + 1) 0 X := by
  refine ⟨h.1, fun u hu => (h.2 u hu).trans (and_congr Iff.rfl ?_)⟩
  have hc : clr (N * M + 1) u i < (N * M + 1) ^ k := Nat.lt_of_le_of_lt (clr_facts (P := N * M + 1) (by omega) hu hi).1 hu
  constructor
  · rintro ⟨h1, h2⟩
    refine ⟨fun j hj => ?_, fun e => by omega⟩
    rcases Nat.lt_or_ge j i with a | a
    · exact h1 j a
    · obtain rfl : j = i := by omega
      exact h2 hc
  · rintro ⟨h1, _⟩
    exact ⟨fun j hj => h1 j (by omega), fun _ => h1 i (Nat.lt_succ_self i)⟩
theorem tn_done (h : Tn mt N M k F l k 0 X) : TurnL mt N M k F l X := by
  refine ⟨h.1, fun s hs => (h.2 s (by rw [← h.1]; exact hs)).trans (and_congr Iff.rfl ?_)⟩
  exact ⟨fun g i hi => g.1 i hi, fun g => ⟨fun i hi => g i hi, fun e => by omega⟩⟩
/-- a turn takes away only -/
theorem turn_less (h : TurnL mt N M k F l X) {s : Nat} (hs : X.getD s false = true) (hl : s < X.length) : F.getD s false = true := ((h.2 s hl).1 hs).1
end
end Go.Proofs.YtpcnoiigbmiejaaDoor.peb
