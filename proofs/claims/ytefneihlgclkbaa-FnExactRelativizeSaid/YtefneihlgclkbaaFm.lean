/- Formulas in plain words: their texts, how a text is read, and how variables are put. -/
import Derived.Test.YtefneihlgclkbaaLib
namespace Go.Proofs.Ytefneihlgclkbaa.fm
set_option linter.unusedVariables false
set_option linter.unusedSimpArgs false

inductive Fm where
  | tf (c : UInt8)
  | p (v : Nat)
  | r (o : UInt8) (v u : Nat)
  | no (a : Fm)
  | two (o : UInt8) (a b : Fm)
  | qu (o : UInt8) (v : Nat) (a : Fm)

/-- the letter of a variable -/
def vb (v : Nat) : UInt8 := UInt8.ofNat (97 + v)
def isV (c : UInt8) : Bool := decide (97 ≤ c.toNat ∧ c.toNat ≤ 100)
def vn (c : UInt8) : Nat := c.toNat - 97
theorem vb_nat {v : Nat} (h : v < 4) : (vb v).toNat = 97 + v := by
  unfold vb
  rw [UInt8.toNat_ofNat']
  omega
theorem vn_vb {v : Nat} (h : v < 4) : vn (vb v) = v := by unfold vn; rw [vb_nat h]; omega
theorem isV_vb {v : Nat} (h : v < 4) : isV (vb v) = true := by unfold isV; rw [vb_nat h]; exact decide_eq_true (by omega)
theorem vn_lt {c : UInt8} (h : isV c = true) : vn c < 4 := by have := of_decide_eq_true h; unfold vn; omega
theorem vb_vn {c : UInt8} (h : isV c = true) : vb (vn c) = c := by
  have := of_decide_eq_true h
  apply UInt8.toNat_inj.1
  rw [vb_nat (vn_lt h)]; unfold vn; omega
/-- the sorts of letters -/
inductive Sor where | tf | p | r | no | two | qu | bad
  deriving DecidableEq
def sort (c : UInt8) : Sor :=
  if c = 116 ∨ c = 102 then .tf else if c = 80 then .p else if c = 61 ∨ c = 69 then .r else if c = 33 then .no else if c = 38 ∨ c = 124 then .two
  else if c = 65 ∨ c = 83 ∨ c = 50 ∨ c = 51 ∨ c = 52 then .qu else .bad
theorem sort_p {c : UInt8} (hs : sort c = .p) : c = 80 := by
  unfold sort at hs
  split at hs
  · cases hs
  split at hs
  · assumption
  split at hs
  · cases hs
  split at hs
  · cases hs
  split at hs
  · cases hs
  split at hs <;> cases hs
theorem sort_no {c : UInt8} (hs : sort c = .no) : c = 33 := by
  unfold sort at hs
  split at hs
  · cases hs
  split at hs
  · cases hs
  split at hs
  · cases hs
  split at hs
  · assumption
  split at hs
  · cases hs
  split at hs <;> cases hs
def Fm.ok : Fm → Prop
  | .tf c => sort c = .tf
  | .p v => v < 4
  | .r o v u => sort o = .r ∧ v < 4 ∧ u < 4
  | .no a => a.ok
  | .two o a b => sort o = .two ∧ a.ok ∧ b.ok
  | .qu o v a => sort o = .qu ∧ v < 4 ∧ a.ok
def Fm.txt : Fm → List UInt8
  | .tf c => [c]
  | .p v => [80, vb v]
  | .r o v u => [o, vb v, vb u]
  | .no a => 33 :: a.txt
  | .two o a b => o :: (a.txt ++ b.txt)
  | .qu o v a => o :: vb v :: a.txt
/-- reading a text -/
def rd : Nat → List UInt8 → Option (Fm × List UInt8)
  | 0, _ => none
  | _, [] => none
  | n + 1, c :: l =>
    match sort c with
    | .tf => some (.tf c, l)
    | .p => match l with
      | v :: l' => if isV v = true then some (.p (vn v), l') else none
      | [] => none
    | .r => match l with
      | v :: u :: l' => if isV v = true ∧ isV u = true then some (.r c (vn v) (vn u), l') else none
      | _ => none
    | .no => match rd n l with
      | some (a, l') => some (.no a, l')
      | none => none
    | .two => match rd n l with
      | some (a, l1) => match rd n l1 with
        | some (b, l2) => some (.two c a b, l2)
        | none => none
      | none => none
    | .qu => match l with
      | v :: l' => if isV v = true then match rd n l' with
        | some (a, l2) => some (.qu c (vn v) a, l2)
        | none => none
        else none
      | [] => none
    | .bad => none
/-- what is read is there, and the rest is shorter -/
theorem rd_sound : ∀ {n : Nat} {l : List UInt8} {a : Fm} {t : List UInt8}, rd n l = some (a, t) → a.ok ∧ l = a.txt ++ t ∧ t.length < l.length
  | 0, _, _, _, h => by simp [rd] at h
  | n + 1, [], _, _, h => by simp [rd] at h
  | n + 1, c :: l, a, t, h => by
    unfold rd at h
    split at h
    · rename_i hs
      simp only [Option.some.injEq, Prod.mk.injEq] at h
      obtain ⟨rfl, rfl⟩ := h
      exact ⟨hs, rfl, by simp⟩
    · rename_i hs
      have hc : c = 80 := sort_p hs
      split at h
      · rename_i v l'
        split at h
        · rename_i hv
          simp only [Option.some.injEq, Prod.mk.injEq] at h
          obtain ⟨rfl, rfl⟩ := h
          exact ⟨vn_lt hv, by rw [hc, Fm.txt, vb_vn hv]; rfl, by simp; omega⟩
        · cases h
      · cases h
    · rename_i hs
      split at h
      · rename_i v u l'
        split at h
        · rename_i hv
          simp only [Option.some.injEq, Prod.mk.injEq] at h
          obtain ⟨rfl, rfl⟩ := h
          exact ⟨⟨hs, vn_lt hv.1, vn_lt hv.2⟩, by rw [Fm.txt, vb_vn hv.1, vb_vn hv.2]; rfl, by simp; omega⟩
        · cases h
      · cases h
    · rename_i hs
      have hc : c = 33 := sort_no hs
      split at h
      · rename_i b l' hb
        simp only [Option.some.injEq, Prod.mk.injEq] at h
        obtain ⟨rfl, rfl⟩ := h
        obtain ⟨h1, h2, h3⟩ := rd_sound hb
        exact ⟨h1, by rw [hc, h2]; rfl, by simp; omega⟩
      · cases h
    · rename_i hs
      split at h
      · rename_i b l1 hb
        split at h
        · rename_i d l2 hd
          simp only [Option.some.injEq, Prod.mk.injEq] at h
          obtain ⟨rfl, rfl⟩ := h
          obtain ⟨h1, h2, h3⟩ := rd_sound hb
          obtain ⟨g1, g2, g3⟩ := rd_sound hd
          exact ⟨⟨hs, h1, g1⟩, by rw [h2, g2]; simp [Fm.txt], by simp; omega⟩
        · cases h
      · cases h
    · rename_i hs
      split at h
      · rename_i v l'
        split at h
        · rename_i hv
          split at h
          · rename_i b l2 hb
            simp only [Option.some.injEq, Prod.mk.injEq] at h
            obtain ⟨rfl, rfl⟩ := h
            obtain ⟨h1, h2, h3⟩ := rd_sound hb
            exact ⟨⟨hs, vn_lt hv, h1⟩, by rw [h2]; simp [Fm.txt, vb_vn hv], by simp; omega⟩
          · cases h
        · cases h
      · cases h
    · cases h
/-- more fuel changes nothing -/
theorem rd_fuel : ∀ {n m : Nat} {l : List UInt8}, l.length ≤ n → l.length ≤ m → rd n l = rd m l
  | 0, 0, _, _, _ => rfl
  | 0, m + 1, [], _, _ => rfl
  | n + 1, 0, [], _, _ => rfl
  | n + 1, m + 1, [], _, _ => rfl
  | n + 1, m + 1, c :: l, hn, hm => by
    have a1 : l.length ≤ n := by simpa using hn
    have a2 : l.length ≤ m := by simpa using hm
    have e := rd_fuel a1 a2
    unfold rd
    rw [e]
    cases hs : sort c with
    | tf => rfl
    | p => rfl
    | r => rfl
    | no => rfl
    | two =>
      cases h1 : rd m l with
      | none => rfl
      | some x =>
        obtain ⟨b, l1⟩ := x
        have := (rd_sound h1).2.2
        simp only [rd_fuel (n := n) (m := m) (l := l1) (by omega) (by omega)]
    | qu =>
      cases l with
      | nil => rfl
      | cons v l' =>
        simp only [rd_fuel (n := n) (m := m) (l := l') (by simp at a1; omega) (by simp at a2; omega)]
    | bad => rfl
def read (l : List UInt8) : Option (Fm × List UInt8) := rd l.length l
theorem rd_read {n : Nat} {l : List UInt8} (h : l.length ≤ n) : rd n l = read l := rd_fuel h (Nat.le_refl _)
theorem read_nil : read [] = none := rfl
theorem read_tf {c : UInt8} {l : List UInt8} (h : sort c = .tf) : read (c :: l) = some (.tf c, l) := by unfold read rd; simp only [List.length_cons, h]
theorem read_bad {c : UInt8} {l : List UInt8} (h : sort c = .bad) : read (c :: l) = none := by unfold read rd; simp only [List.length_cons, h]
theorem read_p {c v : UInt8} {l : List UInt8} (h : sort c = .p) (hv : isV v = true) : read (c :: v :: l) = some (.p (vn v), l) := by unfold read rd; simp only [List.length_cons, h, hv, if_true]
theorem read_p0 {c : UInt8} (h : sort c = .p) : read [c] = none := by unfold read rd; simp only [List.length_cons, h]
theorem read_pn {c v : UInt8} {l : List UInt8} (h : sort c = .p) (hv : isV v = false) : read (c :: v :: l) = none := by unfold read rd; simp [h, hv]
theorem read_r {c v u : UInt8} {l : List UInt8} (h : sort c = .r) (hv : isV v = true) (hu : isV u = true) : read (c :: v :: u :: l) = some (.r c (vn v) (vn u), l) := by unfold read rd; simp [h, hv, hu]
theorem read_r0 {c : UInt8} (h : sort c = .r) : read [c] = none := by unfold read rd; simp [h]
theorem read_r1 {c v : UInt8} (h : sort c = .r) : read [c, v] = none := by unfold read rd; simp [h]
theorem read_rn {c v u : UInt8} {l : List UInt8} (h : sort c = .r) (hv : ¬ (isV v = true ∧ isV u = true)) : read (c :: v :: u :: l) = none := by unfold read rd; simp only [List.length_cons, h, if_neg hv]
theorem read_no {c : UInt8} {l : List UInt8} (h : sort c = .no) : read (c :: l) = match read l with | some (a, l') => some (.no a, l') | none => none := by
  conv => lhs; unfold read rd
  simp only [List.length_cons, h]; rw [rd_read (Nat.le_refl _)]
theorem read_two {c : UInt8} {l : List UInt8} (h : sort c = .two) : read (c :: l) = match read l with | some (a, l1) => (match read l1 with | some (b, l2) => some (.two c a b, l2) | none => none) | none => none := by
  conv => lhs; unfold read rd
  simp only [List.length_cons, h]; rw [rd_read (Nat.le_refl _)]
  cases h1 : read l with
  | none => rfl
  | some x =>
    obtain ⟨b, l1⟩ := x
    have := (rd_sound h1).2.2
    simp only [rd_read (n := l.length) (l := l1) (by omega)]
theorem read_qu {c v : UInt8} {l : List UInt8} (h : sort c = .qu) (hv : isV v = true) : read (c :: v :: l) = match read l with | some (a, l2) => some (.qu c (vn v) a, l2) | none => none := by
  conv => lhs; unfold read rd
  simp only [List.length_cons, h, hv, if_true]; rw [rd_read (by omega)]
theorem read_qu0 {c : UInt8} (h : sort c = .qu) : read [c] = none := by unfold read rd; simp [h]
theorem read_qun {c v : UInt8} {l : List UInt8} (h : sort c = .qu) (hv : isV v = false) : read (c :: v :: l) = none := by unfold read rd; simp [h, hv]
theorem read_sound {l : List UInt8} {a : Fm} {t : List UInt8} (h : read l = some (a, t)) : a.ok ∧ l = a.txt ++ t ∧ t.length < l.length := rd_sound h
/-- the free variables, as bits -/
def Fm.free : Fm → Nat
  | .tf _ => 0
  | .p v => 1 <<< v
  | .r _ v u => 1 <<< v ||| 1 <<< u
  | .no a => a.free
  | .two _ a b => a.free ||| b.free
  | .qu _ v a => a.free &&& (15 ^^^ 1 <<< v)
theorem or_lt : ∀ a : Fin 16, ∀ b : Fin 16, a.1 ||| b.1 < 16 := by decide
theorem and_lt : ∀ a : Fin 16, ∀ b : Fin 4, a.1 &&& (15 ^^^ 1 <<< b.1) < 16 := by decide
theorem sh_lt : ∀ b : Fin 4, 1 <<< b.1 < 16 := by decide
theorem Fm.free_lt : ∀ {a : Fm}, a.ok → a.free < 16
  | .tf _, _ => by simp [Fm.free]
  | .p v, h => sh_lt ⟨v, h⟩
  | .r _ v u, h => or_lt ⟨1 <<< v, sh_lt ⟨v, h.2.1⟩⟩ ⟨1 <<< u, sh_lt ⟨u, h.2.2⟩⟩
  | .no a, h => Fm.free_lt (a := a) h
  | .two _ a b, h => or_lt ⟨a.free, Fm.free_lt h.2.1⟩ ⟨b.free, Fm.free_lt h.2.2⟩
  | .qu _ v a, h => and_lt ⟨a.free, Fm.free_lt h.2.2⟩ ⟨v, h.2.1⟩
/-- whether v is in a set -/
def inS (s v : Nat) : Bool := s >>> v &&& 1 == 1
/-- the images of a set -/
def imgs (s : Nat) (m : Nat → Nat) : Nat → Nat
  | 0 => 0
  | k + 1 => if inS s k = true then imgs s m k ||| 1 <<< m k else imgs s m k
/-- the variable that a quantifier binds -/
def fresh (v s : Nat) (m : Nat → Nat) : Option Nat :=
  let t := imgs (s &&& (15 ^^^ 1 <<< v)) m 4
  if inS t v = false then some v else (List.range 4).find? fun w => !inS t w
def upd (m : Nat → Nat) (v u : Nat) : Nat → Nat := fun x => if x = v then u else m x
/-- putting variables -/
def put0 : Fm → (Nat → Nat) → Option (List UInt8)
  | .tf c, _ => some [c]
  | .p v, m => some [80, vb (m v)]
  | .r o v u, m => some [o, vb (m v), vb (m u)]
  | .no a, m => match put0 a m with
    | some x => some (33 :: x)
    | none => none
  | .two o a b, m => match put0 a m, put0 b m with
    | some x, some y => some (o :: (x ++ y))
    | _, _ => none
  | .qu o v a, m => match fresh v a.free m with
    | some u => match put0 a (upd m v u) with
      | some x => some (o :: vb u :: x)
      | none => none
    | none => none
def map1 (v : Nat) : Nat → Nat := fun x => if x = 0 then v else 0
def map2 (v u : Nat) : Nat → Nat := fun x => if x = 0 then v else if x = 1 then u else 0
/-- putting variables, and views in place of atoms -/
def put (S R : Option Fm) : Fm → (Nat → Nat) → Option (List UInt8)
  | .tf c, _ => some [c]
  | .p v, m => match S with
    | some s => put0 s (map1 (m v))
    | none => some [80, vb (m v)]
  | .r o v u, m => match R with
    | some s => if o = 69 then put0 s (map2 (m v) (m u)) else some [o, vb (m v), vb (m u)]
    | none => some [o, vb (m v), vb (m u)]
  | .no a, m => match put S R a m with
    | some x => some (33 :: x)
    | none => none
  | .two o a b, m => match put S R a m, put S R b m with
    | some x, some y => some (o :: (x ++ y))
    | _, _ => none
  | .qu o v a, m => match fresh v a.free m with
    | some u => match put S R a (upd m v u) with
      | some x => some (o :: vb u :: x)
      | none => none
    | none => none
theorem put_none : ∀ (a : Fm) (m : Nat → Nat), put none none a m = put0 a m
  | .tf _, _ => rfl
  | .p _, _ => rfl
  | .r _ _ _, _ => rfl
  | .no a, m => by unfold put put0; rw [put_none a m]
  | .two _ a b, m => by unfold put put0; rw [put_none a m, put_none b m]
  | .qu _ v a, m => by
    unfold put put0
    cases fresh v a.free m with
    | none => rfl
    | some u => simp only [put_none a (upd m v u)]
/-- putting hangs on the free variables alone -/
theorem imgs_congr {s : Nat} {m m' : Nat → Nat} : ∀ {k : Nat}, (∀ x, x < k → inS s x = true → m x = m' x) → imgs s m k = imgs s m' k
  | 0, _ => rfl
  | k + 1, h => by
    unfold imgs
    rw [imgs_congr fun x hx => h x (by omega)]
    split
    · rename_i hk; rw [h k (by omega) hk]
    · rfl
end Go.Proofs.Ytefneihlgclkbaa.fm
