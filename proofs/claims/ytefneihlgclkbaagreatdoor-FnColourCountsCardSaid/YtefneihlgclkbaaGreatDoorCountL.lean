/- FnColourCounts in plain words. -/
import Derived.Test.YtefneihlgclkbaaGreatDoorColM
import Derived.Test.YtefneihlgclkbaaGreatDoorColR
import Derived.Test.YtefneihlgclkbaaGreatDoorPkE
import Derived.Test.YtefneihlgclkbaaGreatDoorMake
import Derived.Maps.OwnSet
namespace Go.Proofs.YtefneihlgclkbaaGreatDoor.countl
set_option linter.unusedVariables false
set_option linter.unusedSimpArgs false
open Go.Proofs.YtefneihlgclkbaaGreatDoor.base Go.Proofs.YtefneihlgclkbaaGreatDoor.col Go.Proofs.YtefneihlgclkbaaGreatDoor.colp Go.Proofs.YtefneihlgclkbaaGreatDoor.both Go.Proofs.YtefneihlgclkbaaGreatDoor.colq Go.Proofs.YtefneihlgclkbaaGreatDoor.specd Go.Proofs.YtefneihlgclkbaaGreatDoor.colr Go.Proofs.YtefneihlgclkbaaGreatDoor.make Go.Proofs.YtefneihlgclkbaaGreatDoor.coli

/-- the text of the atoms of one element -/
def key1 (N : Nat) (s r : ByteArray) (x : Nat) : ByteArray := bit1 (bitAt s x) ++ bit1 (bitAt r (x * N + x))
def keyL (N : Nat) (s r : ByteArray) (x : Nat) : Lit := .string (key1 N s r x).data.toList
def keysTo (N : Nat) (s r : ByteArray) (k : Nat) : List Lit := (List.range k).map (keyL N s r)
theorem keysTo_succ (N : Nat) (s r : ByteArray) (k : Nat) : keysTo N s r (k + 1) = keysTo N s r k ++ [keyL N s r k] := by simp [keysTo, List.range_succ]
/-- the set of the first k texts -/
def Sn {H : Type} (N : Nat) (s r : ByteArray) (k : Nat) : DataW H := Maps.setOf (.lit (.bool true)) (keysTo N s r k)
theorem Sn_succ {H : Type} (N : Nat) (s r : ByteArray) (k : Nat) : Sn (H := H) N s r (k + 1) = (Sn N s r k).put (keyL N s r k) (.lit (.bool true)) := by
  unfold Sn
  rw [keysTo_succ, Maps.setOf_snoc]
theorem Sn_zero {H : Type} (N : Nat) (s r : ByteArray) : Sn (H := H) N s r 0 = .map [] := by simp [Sn, keysTo, Maps.setOf]
/-- how many kinds there are -/
def kinds (N : Nat) (s r : ByteArray) : Nat := Maps.size (Sn (H := Unit) N s r N)

theorem keyL_eq (N : Nat) (s r : ByteArray) (x : Nat) : keyL N s r x = .string [if bitAt s x then 49 else 48, if bitAt r (x * N + x) then 49 else 48] := by
  unfold keyL key1 bit1
  rfl
/-- the first description, out of the text -/
def dec : Lit → List Int
  | .string [a, b] => [2 * (if a = 49 then 1 else 0) + (if b = 49 then 1 else 0)]
  | _ => []
theorem dec_key (N : Nat) (s r : ByteArray) (x : Nat) : dec (keyL N s r x) = d0 ⟨N, s, r⟩ x := by
  rw [keyL_eq]
  unfold d0 n01 dec
  cases bitAt s x <;> cases bitAt r (x * N + x) <;> rfl
theorem dec_inj {N : Nat} {s r : ByteArray} {x y : Nat} (h : dec (keyL N s r x) = dec (keyL N s r y)) : keyL N s r x = keyL N s r y := by
  rw [keyL_eq, keyL_eq] at *
  have key : ∀ a b c d : Bool, dec (.string [if a then 49 else 48, if b then 49 else 48]) = dec (.string [if c then 49 else 48, if d then 49 else 48]) → a = c ∧ b = d := by
    intro a b c d
    cases a <;> cases b <;> cases c <;> cases d <;> simp [dec]
  obtain ⟨h1, h2⟩ := key _ _ _ _ h
  rw [h1, h2]
theorem isKey (N : Nat) (s r : ByteArray) (k : Nat) : ∀ x ∈ keysTo N s r k, WideAt.IsKeyLit x := fun x hx => by
  obtain ⟨i, _, rfl⟩ := List.mem_map.1 hx
  trivial
/-- different texts, in order -/
theorem addKeys : ∀ (xs L : List Lit), L.Nodup → (∀ x ∈ xs, WideAt.IsKeyLit x) → (∀ x ∈ L, WideAt.IsKeyLit x) → (xs.foldl Maps.addKey L).Nodup ∧ ∀ x, x ∈ xs.foldl Maps.addKey L ↔ x ∈ L ∨ x ∈ xs
  | [], L, h, _, _ => ⟨h, by simp⟩
  | a :: xs, L, h, hk, hl => by
    rw [List.foldl_cons]
    have hin : L.any (fun y => y.sameKey a) = true ↔ a ∈ L := by
      rw [List.any_eq_true]
      refine ⟨fun ⟨y, hy, e⟩ => ?_, fun ha => ⟨a, ha, WideAt.sameKey_self (hl a ha)⟩⟩
      rw [← WideAt.sameKey_eq e]; exact hy
    unfold Maps.addKey
    by_cases ha : a ∈ L
    · rw [if_pos (hin.2 ha)]
      obtain ⟨h1, h2⟩ := addKeys xs L h (fun x hx => hk x (List.mem_cons_of_mem _ hx)) hl
      refine ⟨h1, fun x => ?_⟩
      have := h2 x
      unfold Maps.addKey at this
      rw [this, List.mem_cons]
      constructor
      · rintro (h | h)
        · exact .inl h
        · exact .inr (.inr h)
      · rintro (h | h | h)
        · exact .inl h
        · rw [h]; exact .inl ha
        · exact .inr h
    · rw [if_neg (fun e => ha (hin.1 e))]
      obtain ⟨h1, h2⟩ := addKeys xs (L ++ [a]) (by rw [List.nodup_append]; exact ⟨h, by simp, fun x hx y hy => by rw [List.mem_singleton] at hy; rintro rfl; exact ha (hy ▸ hx)⟩) (fun x hx => hk x (List.mem_cons_of_mem _ hx)) (fun x hx => by
        rcases List.mem_append.1 hx with hx | hx
        · exact hl x hx
        · rw [List.mem_singleton.1 hx]; exact hk a List.mem_cons_self)
      refine ⟨h1, fun x => ?_⟩
      have := h2 x
      unfold Maps.addKey at this
      rw [this, List.mem_append, List.mem_singleton, List.mem_cons]
      constructor
      · rintro ((h | h) | h)
        · exact .inl h
        · exact .inr (.inl h)
        · exact .inr (.inr h)
      · rintro (h | h | h)
        · exact .inl (.inl h)
        · exact .inl (.inr h)
        · exact .inr h
/-- as many kinds as colours without rounds -/
theorem kinds_eq {N : Nat} {s r : ByteArray} (h : 1 ≤ N) : (kinds N s r : Int) = most (cols [⟨N, s, r⟩] 0) := by
  have hsz : kinds N s r = ((keysTo N s r N).foldl Maps.addKey []).length := Maps.size_setOf _ _ (isKey N s r N)
  obtain ⟨hn, hm⟩ := addKeys (keysTo N s r N) [] (by simp) (isKey N s r N) (by simp)
  obtain ⟨D, hD⟩ : ∃ D, D = (keysTo N s r N).foldl Maps.addKey [] := ⟨_, rfl⟩
  rw [← hD] at hsz hn hm
  have hmD : ∀ x, x ∈ D ↔ x ∈ keysTo N s r N := fun x => by rw [hm x]; simp
  have hL : firsts [⟨N, s, r⟩] = (List.range N).map (d0 ⟨N, s, r⟩) := by simp [firsts]
  have hmL : ∀ d, d ∈ firsts [⟨N, s, r⟩] ↔ ∃ x, x ∈ D ∧ dec x = d := fun d => by
    rw [hL]
    constructor
    · intro hd
      obtain ⟨i, hi, rfl⟩ := List.mem_map.1 hd
      exact ⟨keyL N s r i, (hmD _).2 (List.mem_map.2 ⟨i, hi, rfl⟩), dec_key N s r i⟩
    · rintro ⟨x, hx, rfl⟩
      obtain ⟨i, hi, rfl⟩ := List.mem_map.1 ((hmD x).1 hx)
      exact List.mem_map.2 ⟨i, hi, (dec_key N s r i).symm⟩
  have hne : firsts [⟨N, s, r⟩] ≠ [] := by
    rw [hL]; intro e
    have := congrArg List.length e
    simp at this; omega
  have hall : ∀ x : Int, x ∈ nums (firsts [⟨N, s, r⟩]) ↔ 0 ≤ x ∧ x < most (nums (firsts [⟨N, s, r⟩])) := fun x => nums_all hne
  have hcol : cols [⟨N, s, r⟩] 0 = nums (firsts [⟨N, s, r⟩]) := rfl
  rw [hcol]
  have h0 := most_nonneg (nums (firsts [⟨N, s, r⟩]))
  obtain ⟨m, hmm⟩ : ∃ m : Nat, most (nums (firsts [⟨N, s, r⟩])) = (m : Int) := ⟨(most (nums (firsts [⟨N, s, r⟩]))).toNat, by omega⟩
  rw [hmm] at hall ⊢
  have e1 : (D.map fun x => num (firsts [⟨N, s, r⟩]) (dec x)).length = (List.range m).length := by
    refine len_eq_of_same ?_ List.nodup_range fun v => ?_
    · rw [List.nodup_iff_pairwise_ne, List.pairwise_map]
      refine (List.nodup_iff_pairwise_ne.1 hn).imp_of_mem ?_
      intro x y hx hy hxy e
      have e2 := num_inj ((hmL _).2 ⟨x, hx, rfl⟩) ((hmL _).2 ⟨y, hy, rfl⟩) e
      obtain ⟨i, _, rfl⟩ := List.mem_map.1 ((hmD x).1 hx)
      obtain ⟨j, _, rfl⟩ := List.mem_map.1 ((hmD y).1 hy)
      exact hxy (dec_inj e2)
    · rw [List.mem_range]
      constructor
      · intro hv
        obtain ⟨x, hx, rfl⟩ := List.mem_map.1 hv
        have := (hall _).1 (mem_nums.2 ⟨dec x, (hmL _).2 ⟨x, hx, rfl⟩, rfl⟩)
        omega
      · intro hv
        obtain ⟨d, hd, e⟩ := mem_nums.1 ((hall v).2 ⟨by omega, by omega⟩)
        obtain ⟨x, hx, rfl⟩ := (hmL d).1 hd
        exact List.mem_map.2 ⟨x, hx, by omega⟩
  rw [List.length_map, List.length_range] at e1
  omega

/-- how many of the first k colours are in use together -/
def sumTo (P : List Int) : Nat → Nat
  | 0 => 0
  | k + 1 => sumTo P k + P.count (k : Int)
theorem sumTo_nil : ∀ k, sumTo [] k = 0
  | 0 => rfl
  | k + 1 => by rw [sumTo, sumTo_nil k]; rfl
theorem sumTo_cons (a : Int) (P : List Int) (h : 0 ≤ a) : ∀ k, sumTo (a :: P) k = sumTo P k + if a < k then 1 else 0
  | 0 => by simp [sumTo]; omega
  | k + 1 => by
    rw [sumTo, sumTo, sumTo_cons a P h k, List.count_cons]
    have e0 : ((k + 1 : Nat) : Int) = (k : Int) + 1 := by push_cast; rfl
    by_cases e : a = (k : Int)
    · have e2 : (a == (k : Int)) = true := by simpa using e
      rw [e2, if_neg (show ¬ a < (k : Int) by omega), if_pos rfl, if_pos (show a < ((k + 1 : Nat) : Int) by omega)]
      omega
    · have e2 : (a == (k : Int)) = false := by simpa using e
      have e4 : (if false = true then 1 else 0 : Nat) = 0 := rfl
      rw [e2, e4]
      by_cases e3 : a < (k : Int)
      · rw [if_pos e3, if_pos (show a < ((k + 1 : Nat) : Int) by omega)]; omega
      · rw [if_neg e3, if_neg (show ¬ a < ((k + 1 : Nat) : Int) by omega)]; omega
theorem sumTo_all (m : Nat) : ∀ (P : List Int), (∀ x, x ∈ P → 0 ≤ x ∧ x < (m : Int)) → sumTo P m = P.length
  | [], _ => sumTo_nil m
  | a :: P, h => by
    have h1 := h a List.mem_cons_self
    rw [sumTo_cons a P h1.1, if_pos h1.2, sumTo_all m P (fun x hx => h x (List.mem_cons_of_mem _ hx)), List.length_cons]
/-- what the law asks -/
structure Fact (N K m : Nat) (s r : ByteArray) (P Q : List Int) : Prop where
  n1 : 1 ≤ N
  n8 : N ≤ 8
  k : K ≤ 8
  m8 : m ≤ 8
  hv : validB N s r = true
  hs : s.size = N
  hr : r.size = N * N
  pl : P.length = N
  ql : Q.length = m
  at' : ∀ c, c < m → Q.getD c 0 = (P.count (c : Int) : Int)
  pos : ∀ c, c < m → 1 ≤ P.count (c : Int)
  le : ∀ c : Nat, P.count (c : Int) ≤ N
  sum : sumTo P m = N
  kd : K = 0 → m = kinds N s r
theorem fact {n : Int} {s r : ByteArray} {x : Int} (h : colsR n s r x ≠ []) : ∃ N K m : Nat, n = N ∧ x = K ∧ Fact N K m s r (colsR n s r x) (countsR n s r x) := by
  by_cases hv : validB n s r = true ∧ basic.inB x 0 8 = true
  · obtain ⟨N, rfl, h1, h8, hs, hr⟩ := valid_size hv.1
    have hx := of_decide_eq_true hv.2
    obtain ⟨K, rfl, hK⟩ : ∃ K : Nat, x = K ∧ K ≤ 8 := ⟨x.toNat, by omega, by omega⟩
    have e1 := colsR_yes hv.1 hK
    have hful := fun c : Int => colm.full (a := ⟨N, s, r⟩) (show 0 < (⟨N, s, r⟩ : St).n from h1) K (x := c)
    have hmost := colsR_most N s r K
    obtain ⟨m, hm⟩ : ∃ m : Nat, most (colsR N s r K) = (m : Int) := ⟨(most (colsR N s r K)).toNat, by omega⟩
    have hq : countsR N s r K = counts (colsR N s r K) m := by unfold countsR; rw [hm]; rfl
    refine ⟨N, K, m, rfl, rfl, ?_⟩
    rw [hq]
    rw [e1] at hm ⊢
    rw [hm] at hful
    have hpl : (cols [⟨N, s, r⟩] K).length = N := one_len _ _
    refine ⟨h1, h8, hK, by rw [e1, hm] at hmost; omega, hv.1, hs, hr, hpl, by unfold counts; simp, fun c hc => ?_, fun c hc => ?_, fun c => ?_, ?_, fun hk => ?_⟩
    · unfold counts
      rw [List.getD_eq_getElem?_getD, List.getElem?_map, List.getElem?_range hc]
      rfl
    · exact List.count_pos_iff.2 ((hful c).2 ⟨by omega, by omega⟩)
    · have := List.count_le_length (a := (c : Int)) (l := cols [⟨N, s, r⟩] K)
      rw [hpl] at this; exact this
    · rw [sumTo_all m _ (fun y hy => by have := (hful y).1 hy; omega), hpl]
    · subst hk
      have := kinds_eq (s := s) (r := r) h1
      rw [hm] at this; omega
  · exact absurd (colsR_no hv) h
end Go.Proofs.YtefneihlgclkbaaGreatDoor.countl
