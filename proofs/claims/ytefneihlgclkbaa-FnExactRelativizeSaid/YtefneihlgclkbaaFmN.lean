/- Formulas in plain words: what putting hangs on, lengths, relativizing. -/
import Derived.Test.YtefneihlgclkbaaFm
namespace Go.Proofs.Ytefneihlgclkbaa.fm
set_option linter.unusedVariables false
set_option linter.unusedSimpArgs false
/-- the variables of a set without one -/
theorem inS_or : ∀ a : Fin 16, ∀ b : Fin 16, ∀ x : Fin 4, inS (a.1 ||| b.1) x.1 = (inS a.1 x.1 || inS b.1 x.1) := by decide
theorem inS_sh : ∀ a : Fin 4, ∀ x : Fin 4, inS (1 <<< a.1) x.1 = decide (a.1 = x.1) := by decide
theorem inS_an : ∀ a : Fin 16, ∀ b : Fin 4, ∀ x : Fin 4, inS (a.1 &&& (15 ^^^ 1 <<< b.1)) x.1 = (inS a.1 x.1 && !decide (x.1 = b.1)) := by decide
theorem ins_or {a b x : Nat} (ha : a < 16) (hb : b < 16) (hx : x < 4) : inS (a ||| b) x = (inS a x || inS b x) := inS_or ⟨a, ha⟩ ⟨b, hb⟩ ⟨x, hx⟩
theorem ins_sh {a x : Nat} (ha : a < 4) (hx : x < 4) : inS (1 <<< a) x = decide (a = x) := inS_sh ⟨a, ha⟩ ⟨x, hx⟩
theorem ins_an {a b x : Nat} (ha : a < 16) (hb : b < 4) (hx : x < 4) : inS (a &&& (15 ^^^ 1 <<< b)) x = (inS a x && !decide (x = b)) := inS_an ⟨a, ha⟩ ⟨b, hb⟩ ⟨x, hx⟩
theorem ins_lt2 : ∀ a : Fin 16, a.1 >>> 1 = 0 → ∀ x : Fin 4, inS a.1 x.1 = true → x.1 = 0 := by decide
theorem ins_lt4 : ∀ a : Fin 16, a.1 >>> 2 = 0 → ∀ x : Fin 4, inS a.1 x.1 = true → x.1 = 0 ∨ x.1 = 1 := by decide
/-- what the quantifier's binding hangs on -/
theorem fresh_congr {v s : Nat} {m m' : Nat → Nat} (hs : s < 16) (hv : v < 4) (h : ∀ x, x < 4 → x ≠ v → inS s x = true → m x = m' x) : fresh v s m = fresh v s m' := by
  unfold fresh
  have e : imgs (s &&& (15 ^^^ 1 <<< v)) m 4 = imgs (s &&& (15 ^^^ 1 <<< v)) m' 4 := imgs_congr fun x hx hi => by
    rw [ins_an hs hv hx] at hi
    have h1 := Bool.and_eq_true_iff.1 hi
    exact h x hx (by simpa using h1.2) h1.1
  rw [e]
/-- putting hangs on the free variables alone -/
theorem put0_congr : ∀ {a : Fm} {m m' : Nat → Nat}, a.ok → (∀ x, x < 4 → inS a.free x = true → m x = m' x) → put0 a m = put0 a m'
  | .tf _, _, _, _, _ => rfl
  | .p v, m, m', hk, h => by
    have hv : v < 4 := hk
    unfold put0
    rw [h v hv (by rw [Fm.free, ins_sh hv hv]; simp)]
  | .r o v u, m, m', hk, h => by
    have hv : v < 4 := hk.2.1
    have hu : u < 4 := hk.2.2
    unfold put0
    rw [h v hv (by rw [Fm.free, ins_or (sh_lt ⟨v, hv⟩) (sh_lt ⟨u, hu⟩) hv, ins_sh hv hv]; simp), h u hu (by rw [Fm.free, ins_or (sh_lt ⟨v, hv⟩) (sh_lt ⟨u, hu⟩) hu, ins_sh hu hu]; simp)]
  | .no a, m, m', hk, h => by
    unfold put0
    rw [put0_congr (a := a) hk h]
  | .two o a b, m, m', hk, h => by
    unfold put0
    rw [put0_congr (a := a) hk.2.1 fun x hx hi => h x hx (by rw [Fm.free, ins_or (Fm.free_lt hk.2.1) (Fm.free_lt hk.2.2) hx, hi]; rfl),
      put0_congr (a := b) hk.2.2 fun x hx hi => h x hx (by rw [Fm.free, ins_or (Fm.free_lt hk.2.1) (Fm.free_lt hk.2.2) hx, hi, Bool.or_true])]
  | .qu o v a, m, m', hk, h => by
    have hv : v < 4 := hk.2.1
    have h2 : ∀ x, x < 4 → x ≠ v → inS a.free x = true → m x = m' x := fun x hx hne hi => h x hx (by rw [Fm.free, ins_an (Fm.free_lt hk.2.2) hv hx, hi]; simpa using hne)
    unfold put0
    rw [fresh_congr (Fm.free_lt hk.2.2) hv h2]
    cases fresh v a.free m' with
    | none => rfl
    | some u =>
      simp only
      rw [put0_congr (a := a) (m := upd m v u) (m' := upd m' v u) hk.2.2 fun x hx hi => by
        unfold upd
        split
        · rfl
        · rename_i hne; exact h2 x hx hne hi]
/-- the places taken so far -/
def tk (s v : Nat) (m : Nat → Nat) (k j : Nat) : Bool := (List.range k).any fun i => inS s i && !decide (i = v) && decide (m i = j)
theorem tk_zero {s v j : Nat} {m : Nat → Nat} : tk s v m 0 j = false := rfl
theorem tk_succ {s v k j : Nat} {m : Nat → Nat} : tk s v m (k + 1) j = (tk s v m k j || (inS s k && !decide (k = v) && decide (m k = j))) := by
  unfold tk
  rw [List.range_succ, List.any_append]
  simp
theorem imgs_lt {s : Nat} {m : Nat → Nat} (hm : ∀ x, x < 4 → m x < 4) : ∀ {k : Nat}, k ≤ 4 → imgs s m k < 16
  | 0, _ => by simp [imgs]
  | k + 1, h => by
    unfold imgs
    split
    · exact or_lt ⟨_, imgs_lt hm (by omega)⟩ ⟨_, sh_lt ⟨m k, hm k (by omega)⟩⟩
    · exact imgs_lt hm (by omega)
theorem imgs_succ {s k : Nat} {m : Nat → Nat} : imgs s m (k + 1) = if inS s k = true then imgs s m k ||| 1 <<< m k else imgs s m k := rfl
theorem imgs_tk {s v j : Nat} {m : Nat → Nat} (hs : s < 16) (hv : v < 4) (hj : j < 4) (hm : ∀ x, x < 4 → m x < 4) : ∀ {k : Nat}, k ≤ 4 → inS (imgs (s &&& (15 ^^^ 1 <<< v)) m k) j = tk s v m k j
  | 0, _ => by
    show inS 0 j = false
    unfold inS; simp
  | k + 1, h => by
    have ih := imgs_tk (k := k) hs hv hj hm (by omega)
    rw [tk_succ, ← ih, imgs_succ, ins_an hs hv (by omega : k < 4)]
    cases hc : (inS s k && !decide (k = v)) with
    | false => simp
    | true =>
      simp only [if_true, Bool.true_and]
      rw [ins_or (imgs_lt hm (by omega)) (sh_lt ⟨m k, hm k (by omega)⟩) hj, ins_sh (hm k (by omega)) hj]
theorem fresh_tk {s v : Nat} {m : Nat → Nat} (hs : s < 16) (hv : v < 4) (hm : ∀ x, x < 4 → m x < 4) :
    fresh v s m = if tk s v m 4 v = false then some v else (List.range 4).find? fun w => !tk s v m 4 w := by
  unfold fresh
  simp only
  rw [imgs_tk hs hv hv hm (Nat.le_refl 4)]
  have e : ∀ l : List Nat, (∀ x, x ∈ l → x < 4) → (l.find? fun w => !inS (imgs (s &&& (15 ^^^ 1 <<< v)) m 4) w) = l.find? fun w => !tk s v m 4 w := by
    intro l
    induction l with
    | nil => intro _; rfl
    | cons x l ih =>
      intro hl
      rw [List.find?_cons, List.find?_cons, imgs_tk hs hv (hl x List.mem_cons_self) hm (Nat.le_refl 4), ih fun y hy => hl y (List.mem_cons_of_mem _ hy)]
  rw [e (List.range 4) fun x hx => List.mem_range.1 hx]
/-- the putter's map for a view -/
def pm1 (v : Nat) : Nat → Nat := fun x => if x = 0 then v else x
def pm2 (v u : Nat) : Nat → Nat := fun x => if x = 0 then v else if x = 1 then u else x
theorem put0_pm1 {a : Fm} {v : Nat} (hk : a.ok) (hf : a.free >>> 1 = 0) : put0 a (pm1 v) = put0 a (map1 v) :=
  put0_congr hk fun x hx hi => by
    have h0 := ins_lt2 ⟨a.free, Fm.free_lt hk⟩ hf ⟨x, hx⟩ hi
    simp only at h0
    subst h0
    rfl
theorem put0_pm2 {a : Fm} {v u : Nat} (hk : a.ok) (hf : a.free >>> 2 = 0) : put0 a (pm2 v u) = put0 a (map2 v u) :=
  put0_congr hk fun x hx hi => by
    have h0 := ins_lt4 ⟨a.free, Fm.free_lt hk⟩ hf ⟨x, hx⟩ hi
    simp only at h0
    rcases h0 with rfl | rfl <;> rfl
/-- relativized -/
def wi (f : Fm) : Fm → Option (List UInt8)
  | .tf c => some [c]
  | .p v => some [80, vb v]
  | .r o v u => some [o, vb v, vb u]
  | .no a => match wi f a with
    | some x => some (33 :: x)
    | none => none
  | .two o a b => match wi f a, wi f b with
    | some x, some y => some (o :: (x ++ y))
    | _, _ => none
  | .qu o v a => match wi f a, put0 f (map1 v) with
    | some x, some y => some (o :: vb v :: ((if o = 65 then [124, 33] else [38]) ++ y ++ x))
    | _, _ => none
/-- putting keeps the length -/
theorem put0_len : ∀ {a : Fm} {m : Nat → Nat} {t : List UInt8}, put0 a m = some t → t.length = a.txt.length
  | .tf _, _, _, h => by cases h; rfl
  | .p _, _, _, h => by cases h; rfl
  | .r _ _ _, _, _, h => by cases h; rfl
  | .no a, m, t, h => by
    unfold put0 at h
    cases h1 : put0 a m with
    | none => rw [h1] at h; cases h
    | some x => rw [h1] at h; cases h; simp [Fm.txt, put0_len h1]
  | .two o a b, m, t, h => by
    unfold put0 at h
    cases h1 : put0 a m with
    | none => rw [h1] at h; cases h
    | some x =>
      cases h2 : put0 b m with
      | none => rw [h1, h2] at h; cases h
      | some y => rw [h1, h2] at h; cases h; simp [Fm.txt, put0_len h1, put0_len h2]
  | .qu o v a, m, t, h => by
    unfold put0 at h
    cases h0 : fresh v a.free m with
    | none => rw [h0] at h; cases h
    | some u =>
      rw [h0] at h
      simp only at h
      cases h1 : put0 a (upd m v u) with
      | none => rw [h1] at h; cases h
      | some x => rw [h1] at h; cases h; simp [Fm.txt, put0_len h1]
theorem txt_pos : ∀ (a : Fm), 1 ≤ a.txt.length
  | .tf _ => by simp [Fm.txt]
  | .p _ => by simp [Fm.txt]
  | .r _ _ _ => by simp [Fm.txt]
  | .no _ => by simp [Fm.txt]
  | .two _ _ _ => by simp [Fm.txt]
  | .qu _ _ _ => by simp [Fm.txt]
/-- with views: a bound of the length -/
theorem put_len {S R : Option Fm} {M : Nat} (hM : 1 ≤ M) (hS : ∀ s, S = some s → s.txt.length ≤ M) (hR : ∀ s, R = some s → s.txt.length ≤ M) : ∀ {a : Fm} {m : Nat → Nat} {t : List UInt8}, put S R a m = some t → t.length ≤ M * a.txt.length
  | .tf _, _, _, h => by cases h; simp [Fm.txt]; omega
  | .p v, m, t, h => by
    unfold put at h
    cases S with
    | none => cases h; simp [Fm.txt]; omega
    | some s => have := put0_len h; have := hS s rfl; simp [Fm.txt]; omega
  | .r o v u, m, t, h => by
    unfold put at h
    cases R with
    | none => cases h; simp [Fm.txt]; omega
    | some s =>
      simp only at h
      split at h
      · have := put0_len h; have := hR s rfl; simp [Fm.txt]; omega
      · cases h; simp [Fm.txt]; omega
  | .no a, m, t, h => by
    unfold put at h
    cases h1 : put S R a m with
    | none => rw [h1] at h; cases h
    | some x =>
      rw [h1] at h; cases h
      have := put_len hM hS hR h1
      simp only [Fm.txt, List.length_cons, Nat.mul_add]; omega
  | .two o a b, m, t, h => by
    unfold put at h
    cases h1 : put S R a m with
    | none => rw [h1] at h; cases h
    | some x =>
      cases h2 : put S R b m with
      | none => rw [h1, h2] at h; cases h
      | some y =>
        rw [h1, h2] at h; cases h
        have := put_len hM hS hR h1
        have := put_len hM hS hR h2
        simp only [Fm.txt, List.length_cons, List.length_append, Nat.mul_add]; omega
  | .qu o v a, m, t, h => by
    unfold put at h
    cases h0 : fresh v a.free m with
    | none => rw [h0] at h; cases h
    | some u =>
      rw [h0] at h
      simp only at h
      cases h1 : put S R a (upd m v u) with
      | none => rw [h1] at h; cases h
      | some x =>
        rw [h1] at h; cases h
        have := put_len hM hS hR h1
        simp only [Fm.txt, List.length_cons, Nat.mul_add]; omega
theorem wi_len {f : Fm} {M : Nat} (hM : f.txt.length ≤ M) : ∀ {a : Fm} {t : List UInt8}, wi f a = some t → t.length ≤ (M + 3) * a.txt.length
  | .tf _, _, h => by cases h; simp [Fm.txt]
  | .p _, _, h => by cases h; simp [Fm.txt]; omega
  | .r _ _ _, _, h => by cases h; simp [Fm.txt]; omega
  | .no a, t, h => by
    unfold wi at h
    cases h1 : wi f a with
    | none => rw [h1] at h; cases h
    | some x =>
      rw [h1] at h; cases h
      have := wi_len hM h1
      simp only [Fm.txt, List.length_cons, Nat.mul_add]; omega
  | .two o a b, t, h => by
    unfold wi at h
    cases h1 : wi f a with
    | none => rw [h1] at h; cases h
    | some x =>
      cases h2 : wi f b with
      | none => rw [h1, h2] at h; cases h
      | some y =>
        rw [h1, h2] at h; cases h
        have := wi_len hM h1
        have := wi_len hM h2
        simp only [Fm.txt, List.length_cons, List.length_append, Nat.mul_add]; omega
  | .qu o v a, t, h => by
    unfold wi at h
    cases h1 : wi f a with
    | none => rw [h1] at h; cases h
    | some x =>
      cases h2 : put0 f (map1 v) with
      | none => rw [h1, h2] at h; cases h
      | some y =>
        rw [h1, h2] at h; cases h
        have h3 := wi_len hM h1
        have h4 := put0_len h2
        simp only [Fm.txt, List.length_cons, List.length_append, Nat.mul_add]
        have h5 : (if o = 65 then [124, 33] else [38] : List UInt8).length ≤ 2 := by split <;> simp
        omega
end Go.Proofs.Ytefneihlgclkbaa.fm
