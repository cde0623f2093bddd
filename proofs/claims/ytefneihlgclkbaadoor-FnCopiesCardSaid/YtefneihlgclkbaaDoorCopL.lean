/- FnCopies in plain words: copies by their bits, their pieces and their symmetries. -/
import Derived.Test.YtefneihlgclkbaaDoorEmb
import Derived.Test.YtefneihlgclkbaaDoorPlaw
import Derived.Test.YtefneihlgclkbaaDoorCopies
import Derived.Test.YtefneihlgclkbaaDoorPkO
namespace Go.Proofs.YtefneihlgclkbaaDoor.copl
set_option linter.unusedVariables false
set_option linter.unusedSimpArgs false
open Go.Proofs.YtefneihlgclkbaaDoor.base Go.Proofs.YtefneihlgclkbaaDoor.near Go.Proofs.YtefneihlgclkbaaDoor.dist Go.Proofs.YtefneihlgclkbaaDoor.ball Go.Proofs.YtefneihlgclkbaaDoor.cls Go.Proofs.YtefneihlgclkbaaDoor.pieces Go.Proofs.YtefneihlgclkbaaDoor.emb Go.Proofs.YtefneihlgclkbaaDoor.make Go.Proofs.YtefneihlgclkbaaDoor.val Go.Proofs.YtefneihlgclkbaaDoor.sum Go.Proofs.YtefneihlgclkbaaDoor.copies Go.Proofs.YtefneihlgclkbaaDoor.fits Go.Proofs.YtefneihlgclkbaaDoor.ord

theorem copS_turn (s : ByteArray) : ∀ k, s ++ copS s k = copS s k ++ s
  | 0 => rfl
  | k + 1 => by
    show s ++ (copS s k ++ s) = (copS s k ++ s) ++ s
    rw [← ByteArray.append_assoc, copS_turn s k]
theorem copS_size {s : ByteArray} {N : Nat} (hs : s.size = N) : ∀ k, (copS s k).size = cz N k
  | 0 => hs
  | k + 1 => by
    show (copS s k ++ s).size = cz N k + N
    rw [ByteArray.size_append, copS_size hs k, hs]
theorem copS_bit {s : ByteArray} {N : Nat} (hs : s.size = N) : ∀ k p, p < cz N k → bitAt (copS s k) p = bitAt s (p % N)
  | 0, p, hp => by
    have hp : p < N := hp
    rw [Nat.mod_eq_of_lt hp]; rfl
  | k + 1, p, hp => by
    show bitAt (copS s k ++ s) p = _
    rw [bit_app, copS_size hs k]
    by_cases h : p < cz N k
    · rw [if_pos h, copS_bit hs k p h]
    · rw [if_neg h]
      have hp' : p < cz N k + N := hp
      have e : p = N * (k + 1) + (p - cz N k) := by rw [← cz_mul]; omega
      have e2 : p % N = p - cz N k := by
        conv => lhs; rw [e]
        rw [Nat.mul_add_mod, Nat.mod_eq_of_lt (by omega)]
      rw [e2]
theorem div_in {N k p : Nat} (hp : p < cz N k) : p / N < k + 1 := by
  rw [cz_mul] at hp
  have hN : 0 < N := by
    rcases Nat.eq_zero_or_pos N with h | h
    · subst h; simp at hp
    · exact h
  rw [Nat.div_lt_iff_lt_mul hN, Nat.mul_comm]; exact hp
theorem div_at {N k p : Nat} (hp : cz N k ≤ p) (hp2 : p < cz N k + N) : p / N = k + 1 ∧ p % N = p - cz N k := by
  have e : p = N * (k + 1) + (p - cz N k) := by rw [← cz_mul]; omega
  constructor
  · conv => lhs; rw [e]
    rw [Nat.mul_add_div (by omega), Nat.div_eq_of_lt (by omega), Nat.add_zero]
  · conv => lhs; rw [e]
    rw [Nat.mul_add_mod, Nat.mod_eq_of_lt (by omega)]
theorem cop_bit {N : Nat} {r : ByteArray} : ∀ k p q, p < cz N k → q < cz N k → bitAt (copR N r k) (p * cz N k + q) = (decide (p / N = q / N) && bitAt r (p % N * N + q % N))
  | 0, p, q, hp, hq => by
    have hp : p < N := hp
    have hq : q < N := hq
    rw [Nat.mod_eq_of_lt hp, Nat.mod_eq_of_lt hq, Nat.div_eq_of_lt hp, Nat.div_eq_of_lt hq]
    simp [copR, cz]
  | k + 1, p, q, hp, hq => by
    show bitAt (bR (sumRel false (cz N k) (copR N r k) N r) (cz N (k + 1)) (cz N (k + 1))) _ = _
    rw [bit_bR hp hq]
    unfold sumRel
    have hp' : p < cz N k + N := hp
    have hq' : q < cz N k + N := hq
    by_cases h1 : p < cz N k
    · by_cases h2 : q < cz N k
      · rw [if_pos ⟨h1, h2⟩, cop_bit k p q h1 h2]
      · have a := div_in h1
        have b := (div_at (by omega) hq').1
        rw [if_neg (by omega), if_neg (by omega), decide_eq_false (by omega : ¬ p / N = q / N)]; rfl
    · by_cases h2 : q < cz N k
      · have a := div_in h2
        have b := (div_at (by omega) hp').1
        rw [if_neg (by omega), if_neg (by omega), decide_eq_false (by omega : ¬ p / N = q / N)]; rfl
      · obtain ⟨a, b⟩ := div_at (by omega) hp'
        obtain ⟨c, d⟩ := div_at (by omega) hq'
        rw [if_neg (by omega), if_pos ⟨by omega, by omega⟩, a, b, c, d, decide_eq_true rfl, Bool.true_and]
/-- one copy more, ahead of the others -/
theorem cop_rel {N k : Nat} {r : ByteArray} (hr : r.size = N * N) : bR (sumRel false N r (cz N k) (copR N r k)) (cz N (k + 1)) (cz N (k + 1)) = copR N r (k + 1) := by
  have hc : cz N (k + 1) = cz N k + N := rfl
  refine rel_ext (n := cz N (k + 1)) (bits_bR _ _ _) (bits_bR _ _ _) (bR_size _ _ _) (bR_size _ _ _) fun p q hp hq => ?_
  rw [bit_bR hp hq, cop_bit (k + 1) p q hp hq]
  have hp' : p < cz N k + N := hp
  have hq' : q < cz N k + N := hq
  have hN : 0 < N := by
    rcases Nat.eq_zero_or_pos N with h | h
    · subst h; rw [cz_mul] at hp; simp at hp
    · exact h
  have hge : ∀ {u : Nat}, N ≤ u → u / N = (u - N) / N + 1 ∧ u % N = (u - N) % N := fun {u} hu => by
    constructor
    · rw [Nat.div_eq_sub_div hN hu]
    · rw [Nat.mod_eq_sub_mod hu]
  unfold sumRel
  by_cases h1 : p < N
  · by_cases h2 : q < N
    · rw [if_pos ⟨h1, h2⟩, Nat.div_eq_of_lt h1, Nat.div_eq_of_lt h2, Nat.mod_eq_of_lt h1, Nat.mod_eq_of_lt h2, decide_eq_true rfl, Bool.true_and]
    · have := (hge (u := q) (by omega)).1
      rw [if_neg (by omega), if_neg (by omega), Nat.div_eq_of_lt h1, decide_eq_false (p := 0 = q / N) (by rw [this]; exact fun e => by cases e)]; rfl
  · by_cases h2 : q < N
    · have := (hge (u := p) (by omega)).1
      rw [if_neg (by omega), if_neg (by omega), Nat.div_eq_of_lt h2, decide_eq_false (p := p / N = 0) (by rw [this]; exact fun e => by cases e)]; rfl
    · obtain ⟨a, b⟩ := hge (u := p) (by omega)
      obtain ⟨c, d⟩ := hge (u := q) (by omega)
      rw [if_neg (by omega), if_pos ⟨by omega, by omega⟩, cop_bit k (p - N) (q - N) (by omega) (by omega), a, b, c, d]
      have e : decide ((p - N) / N + 1 = (q - N) / N + 1) = decide ((p - N) / N = (q - N) / N) := decide_eq_decide.2 ⟨fun h => by omega, fun h => by omega⟩
      rw [e]
/-- each copy lies in the whole -/
theorem copy_emb {N C i : Nat} {s r : ByteArray} (hs : s.size = N) (hi : i ≤ C) : Emb N s r (cz N C) (copS s C) (copR N r C) (fun y => i * N + y) := by
  have hlt : ∀ y, y < N → i * N + y < cz N C := fun y hy => by
    have : (i + 1) * N ≤ (C + 1) * N := Nat.mul_le_mul_right N (by omega)
    rw [cz_mul, Nat.mul_comm N]
    rw [Nat.succ_mul] at this; omega
  have hdiv : ∀ y, y < N → (i * N + y) / N = i ∧ (i * N + y) % N = y := fun y hy => by
    constructor
    · rw [Nat.mul_comm, Nat.mul_add_div (by omega), Nat.div_eq_of_lt hy, Nat.add_zero]
    · rw [Nat.mul_comm, Nat.mul_add_mod, Nat.mod_eq_of_lt hy]
  refine ⟨fun y hy => hlt y hy, fun y z hy hz e => ?_, fun y hy => ?_, fun y z hy hz => ?_, fun y z hy hz hadj => ?_⟩
  · have e : i * N + y = i * N + z := e
    omega
  · show bitAt (copS s C) (i * N + y) = _
    rw [copS_bit hs C _ (hlt y hy), (hdiv y hy).2]
  · show bitAt (copR N r C) ((i * N + y) * cz N C + (i * N + z)) = _
    rw [cop_bit C _ _ (hlt y hy) (hlt z hz), (hdiv y hy).1, (hdiv y hy).2, (hdiv z hz).1, (hdiv z hz).2, decide_eq_true rfl, Bool.true_and]
  · have hadj : adj (cz N C) (copR N r C) (i * N + y) z = true := hadj
    unfold near.adj at hadj
    rw [Bool.and_eq_true, Bool.or_eq_true, cop_bit C _ _ (hlt y hy) hz, cop_bit C _ _ hz (hlt y hy), (hdiv y hy).1] at hadj
    have e : z / N = i := by
      rcases hadj.2 with h | h
      · exact (of_decide_eq_true (Bool.and_eq_true _ _ ▸ h).1).symm
      · exact of_decide_eq_true (Bool.and_eq_true _ _ ▸ h).1
    refine ⟨z % N, Nat.mod_lt _ (by omega), ?_⟩
    show i * N + z % N = z
    rw [← e, Nat.mul_comm]; exact Nat.div_add_mod z N
/-- elements that are connected are so in each copy -/
theorem conn_copy {N C i y x : Nat} {s r : ByteArray} (hs : s.size = N) (hi : i ≤ C) (hy : y < N) (hx : x < N) (h : conn N r y x = true) : conn (cz N C) (copR N r C) (i * N + y) (i * N + x) = true := by
  have E := copy_emb (C := C) (r := r) hs hi
  unfold conn at *
  rw [decide_eq_true_eq] at *
  obtain ⟨k, hk, hrk⟩ := (in_rk (rad := D (adj N r) N y x) hy hx).1 ⟨h, Int.le_refl _⟩
  have := E.go hy hx hrk
  exact ((in_rk (rad := k) (E.lt y hy) (E.lt x hx)).2 ⟨k, Int.le_refl _, this⟩).1
/-- the copies have at most as many pieces as copies of pieces -/
theorem pieces_le {N C : Nat} {s r : ByteArray} (hs : s.size = N) : ∀ i, i ≤ C → ∀ y, y ≤ N → (clsOf (conn (cz N C) (copR N r C)) (i * N + y)).2 ≤ i * (clsOf (conn N r) N).2 + (clsOf (conn N r) y).2
  | 0, _, 0, _ => by simp [clsOf]
  | i + 1, hi, 0, _ => by
    have := pieces_le (N := N) (C := C) (r := r) hs i (by omega) N (Nat.le_refl _)
    rw [Nat.succ_mul, Nat.succ_mul, Nat.add_zero]
    omega
  | i, hi, y + 1, hy => by
    have ih := pieces_le (C := C) (r := r) hs i hi y (by omega)
    rw [← Nat.add_assoc]
    cases hf : firstBy (conn (cz N C) (copR N r C)) (i * N + y) (i * N + y) with
    | some z =>
      rw [cls_succ_some hf]
      cases hg : firstBy (conn N r) y y with
      | some z2 => rw [cls_succ_some hg]; exact ih
      | none => rw [cls_succ_none hg]; show _ ≤ _ + (_ + 1); omega
    | none =>
      have hno := firstBy_none hf
      have hg : firstBy (conn N r) y y = none := firstBy_at fun z hz => by
        cases hc : conn N r z y with
        | false => rfl
        | true =>
          have := conn_copy (C := C) hs hi (by omega) (by omega) hc
          rw [hno (i * N + z) (by omega)] at this
          cases this
      rw [cls_succ_none hf, cls_succ_none hg]
      show _ + 1 ≤ _ + (_ + 1)
      omega
  termination_by i _ y => (i, y)
/-- the greatest number -/
theorem pieces_most {p : Nat → Nat → Bool} {n : Nat} {m : Int} (h0 : 0 ≤ m) (h : ∀ i, i < n → (clsOf p n).1.getD i 0 + 1 ≤ m) : ((clsOf p n).2 : Int) ≤ m := by
  have key : ∀ k, k ≤ n → ((clsOf p k).2 : Int) ≤ m := fun k => by
    induction k with
    | zero => intro _; simpa [clsOf] using h0
    | succ k ih =>
      intro hk
      have a := h k (by omega)
      obtain ⟨b, c⟩ := cls_most (p := p) (n := n) (x := k) (by omega)
      have d := ih (by omega)
      omega
  exact key n (Nat.le_refl _)

/-! symmetries -/
theorem mem_upto {n : Nat} {ok : List Nat → Nat → Bool} {d : Nat} {pre o : List Nat} : ∀ {k : Nat}, o ∈ upto n ok d pre k → ∃ x, x < k ∧ o ∈ ords n ok d (pre ++ [x])
  | 0, h => by rw [upto_zero] at h; cases h
  | k + 1, h => by
    cases hk : ok pre k with
    | true =>
      rw [upto_yes hk, List.mem_append] at h
      rcases h with h | h
      · obtain ⟨x, hx, ho⟩ := mem_upto h
        exact ⟨x, by omega, ho⟩
      · exact ⟨k, by omega, h⟩
    | false =>
      rw [upto_no hk] at h
      obtain ⟨x, hx, ho⟩ := mem_upto h
      exact ⟨x, by omega, ho⟩
theorem ords_at {n : Nat} {ok : List Nat → Nat → Bool} {d : Nat} {pre o : List Nat} {x : Nat} (h : o ∈ ords n ok d (pre ++ [x])) : o.getD pre.length 0 = x := by
  obtain ⟨l, rfl, _⟩ := mem_ords.1 h
  simp [List.getD_eq_getElem?_getD]
theorem ords_nodup {n : Nat} {ok : List Nat → Nat → Bool} : ∀ (d : Nat) (pre : List Nat), (ords n ok d pre).Nodup
  | 0, pre => by simp [ords]
  | d + 1, pre => by
    rw [← upto_full]
    have key : ∀ k, (upto n ok d pre k).Nodup := fun k => by
      induction k with
      | zero => rw [upto_zero]; exact List.nodup_nil
      | succ k ih =>
        cases hk : ok pre k with
        | true =>
          rw [upto_yes hk, List.nodup_append]
          refine ⟨ih, ords_nodup d _, fun a ha b hb e => ?_⟩
          obtain ⟨x, hx, ho⟩ := mem_upto ha
          have h1 := ords_at ho
          have h2 := ords_at hb
          rw [e, h2] at h1; omega
        | false => rw [upto_no hk]; exact ih
    exact key n
/-- things that are moved about freely come in as many parts -/
theorem dvd_orbits {α β : Type} [DecidableEq α] (K : List β) (hK : K.Nodup) (act : β → α → α) (I : α → Prop)
    (inj : ∀ h, I h → ∀ g g', g ∈ K → g' ∈ K → act g h = act g' h → g = g')
    (back : ∀ h g, I h → g ∈ K → ∃ g', g' ∈ K ∧ act g' (act g h) = h)
    (comp : ∀ h g g', I h → g ∈ K → g' ∈ K → ∃ k, k ∈ K ∧ act g' (act g h) = act k h)
    (one : ∀ h, I h → ∃ g, g ∈ K ∧ act g h = h) :
    ∀ (m : Nat) (L : List α), L.length ≤ m → L.Nodup → (∀ h, h ∈ L → I h) → (∀ g h, g ∈ K → h ∈ L → act g h ∈ L) → K.length ∣ L.length
  | _, [], _, _, _, _ => ⟨0, rfl⟩
  | 0, h :: t, hl, _, _, _ => by simp at hl
  | m + 1, h :: t, hl, hn, hI, hc => by
    have hIh := hI h List.mem_cons_self
    obtain ⟨O, hO⟩ : ∃ O, O = K.map (fun g => act g h) := ⟨_, rfl⟩
    have hmO : ∀ x, x ∈ O ↔ ∃ g, g ∈ K ∧ act g h = x := fun x => by rw [hO, List.mem_map]
    have hOn : O.Nodup := by
      rw [hO, List.nodup_iff_pairwise_ne, List.pairwise_map]
      refine (List.nodup_iff_pairwise_ne.1 hK).imp_of_mem ?_
      intro a b ha hb hab e
      exact hab (inj h hIh a b ha hb e)
    obtain ⟨L, hL⟩ : ∃ L, L = h :: t := ⟨_, rfl⟩
    rw [← hL] at hn hI hc hl ⊢
    have hhL : h ∈ L := by rw [hL]; exact List.mem_cons_self
    have hOL : ∀ x, x ∈ O → x ∈ L := fun x hx => by
      obtain ⟨g, hg, rfl⟩ := (hmO x).1 hx
      exact hc g h hg hhL
    have e1 : (L.filter (fun x => decide (x ∈ O))).length = K.length := by
      have : (L.filter (fun x => decide (x ∈ O))).Perm O := (List.perm_ext_iff_of_nodup (hn.filter _) hOn).2 fun x => by
        rw [List.mem_filter, decide_eq_true_eq]
        exact ⟨fun hx => hx.2, fun hx => ⟨hOL x hx, hx⟩⟩
      rw [this.length_eq, hO, List.length_map]
    have e2 : L.length = (L.filter (fun x => decide (x ∈ O))).length + (L.filter (fun x => !decide (x ∈ O))).length := (by
      have h1 := List.length_eq_countP_add_countP (fun x => decide (x ∈ O)) (l := L)
      rw [List.countP_eq_length_filter, List.countP_eq_length_filter] at h1
      rw [h1]
      congr 3
      funext x
      by_cases hx : x ∈ O <;> simp [hx])
    have hpos : 0 < K.length := by
      obtain ⟨g, hg, _⟩ := one h hIh
      exact List.length_pos_of_mem hg
    have ih := dvd_orbits K hK act I inj back comp one m (L.filter (fun x => !decide (x ∈ O))) (by omega) (hn.filter _) (fun x hx => hI x (List.mem_filter.1 hx).1) (fun g x hg hx => by
      obtain ⟨hxL, hxO⟩ := List.mem_filter.1 hx
      refine List.mem_filter.2 ⟨hc g x hg hxL, ?_⟩
      have hxO : ¬ x ∈ O := by simpa using hxO
      have : ¬ act g x ∈ O := fun hin => by
        obtain ⟨k, hk, hkh⟩ := (hmO _).1 hin
        obtain ⟨g', hg', hb⟩ := back x g (hI x hxL) hg
        obtain ⟨k', hk', hkk⟩ := comp h k g' hIh hk hg'
        rw [hkh, hb] at hkk
        exact hxO ((hmO x).2 ⟨k', hk', hkk.symm⟩)
      simpa using this)
    rw [e2, e1]
    exact Nat.dvd_add (Nat.dvd_refl _) ih
/-- how many symmetries there are -/
def symN (N : Nat) (s r : ByteArray) : Nat := (ords N (okB N s r s r) N []).length
theorem sym_pos (N : Nat) (s r : ByteArray) : 1 ≤ symN N s r := List.length_pos_of_mem (mem_iso.2 (Iso.refl N s r))
/-- a symmetry of the first copy alone -/
def ext (N : Nat) (g : List Nat) (i : Nat) : Nat := if i < N then g.getD i 0 else i
theorem ext_iso {N C : Nat} {s r : ByteArray} (hs : s.size = N) {g : List Nat} (hg : Iso N s r s r g) : Iso (cz N C) (copS s C) (copR N r C) (copS s C) (copR N r C) ((List.range (cz N C)).map (ext N g)) := by
  have hNC : N ≤ cz N C := by rw [cz_mul]; exact Nat.le_mul_of_pos_right N (by omega)
  have h0 : ∀ i, i < N → i / N = 0 ∧ i % N = i := fun i hi => ⟨Nat.div_eq_of_lt hi, Nat.mod_eq_of_lt hi⟩
  have h1 : ∀ i, N ≤ i → i < cz N C → 1 ≤ i / N := fun i hi hc => by
    have hN : 0 < N := by
      rcases Nat.eq_zero_or_pos N with h | h
      · subst h; rw [cz_mul] at hc; simp at hc
      · exact h
    rw [Nat.le_div_iff_mul_le hN, Nat.one_mul]; exact hi
  have hlt : ∀ i, i < cz N C → ext N g i < cz N C := fun i hi => by
    unfold ext
    split
    · rename_i h; have := hg.lt i h; omega
    · exact hi
  refine Iso.of_fun (ext N g) hlt (fun i j hi hj e => ?_) (fun i hi => ?_) (fun i j hi hj => ?_)
  · unfold ext at e
    split at e <;> split at e
    · rename_i a b; exact hg.inj i j a b e
    · rename_i a b; have := hg.lt i a; omega
    · rename_i a b; have := hg.lt j b; omega
    · exact e
  · rw [copS_bit hs C _ (hlt i hi), copS_bit hs C _ hi]
    unfold ext
    split
    · rename_i h; rw [(h0 _ (hg.lt i h)).2, (h0 i h).2]; exact hg.s i h
    · rfl
  · rw [cop_bit C _ _ (hlt i hi) (hlt j hj), cop_bit C _ _ hi hj]
    unfold ext
    split <;> split
    · rename_i a b
      rw [(h0 _ (hg.lt i a)).1, (h0 _ (hg.lt i a)).2, (h0 _ (hg.lt j b)).1, (h0 _ (hg.lt j b)).2, (h0 i a).1, (h0 i a).2, (h0 j b).1, (h0 j b).2, hg.r i j a b]
    · rename_i a b
      have := h1 j (by omega) hj
      rw [(h0 _ (hg.lt i a)).1, (h0 i a).1, decide_eq_false (by omega : ¬ 0 = j / N)]; rfl
    · rename_i a b
      have := h1 i (by omega) hi
      rw [(h0 _ (hg.lt j b)).1, (h0 j b).1, decide_eq_false (by omega : ¬ i / N = 0)]; rfl
    · rfl
def act (N M : Nat) (g h : List Nat) : List Nat := (List.range M).map fun i => h.getD (((List.range M).map (ext N g)).getD i 0) 0
theorem act_get {N M : Nat} {g h : List Nat} {i : Nat} (hi : i < M) : (act N M g h).getD i 0 = h.getD (ext N g i) 0 := by
  unfold act
  rw [getD_map_range _ hi, getD_map_range _ hi]
theorem list_ext {M : Nat} {a b : List Nat} (ha : a.length = M) (hb : b.length = M) (h : ∀ i, i < M → a.getD i 0 = b.getD i 0) : a = b := by
  refine List.ext_getElem (by omega) fun i h1 h2 => ?_
  have := h i (by omega)
  rw [List.getD_eq_getElem?_getD, List.getD_eq_getElem?_getD, List.getElem?_eq_getElem h1, List.getElem?_eq_getElem h2] at this
  exact this
theorem sym_dvd {N C : Nat} {s r : ByteArray} (hs : s.size = N) : symN N s r ∣ symN (cz N C) (copS s C) (copR N r C) := by
  have hNC : N ≤ cz N C := by rw [cz_mul]; exact Nat.le_mul_of_pos_right N (by omega)
  obtain ⟨M, hM⟩ : ∃ M, M = cz N C := ⟨_, rfl⟩
  have hext : ∀ {g : List Nat}, Iso N s r s r g → Iso M (copS s C) (copR N r C) (copS s C) (copR N r C) ((List.range M).map (ext N g)) := fun hg => by rw [hM]; exact ext_iso hs hg
  unfold symN
  rw [← hM] at hNC ⊢
  have hel : ∀ {g : List Nat} {i : Nat}, Iso N s r s r g → i < M → ext N g i < M := fun hg hi => by
    unfold ext
    split
    · rename_i h; have := hg.lt _ h; omega
    · exact hi
  have hact : ∀ {g h : List Nat}, (act N M g h).length = M := by intro g h; simp [act]
  refine dvd_orbits _ (ords_nodup _ _) (act N M) (fun h => Iso M (copS s C) (copR N r C) (copS s C) (copR N r C) h) ?_ ?_ ?_ ?_ _ _ (Nat.le_refl _) (ords_nodup _ _) (fun h hh => mem_iso.1 hh) ?_
  · intro h hh g g' hg hg' e
    have hg := mem_iso.1 hg
    have hg' := mem_iso.1 hg'
    refine list_ext hg.len hg'.len fun i hi => ?_
    have e2 : (act N M g h).getD i 0 = (act N M g' h).getD i 0 := by rw [e]
    rw [act_get (by omega), act_get (by omega)] at e2
    have := hh.inj _ _ (hel hg (by omega)) (hel hg' (by omega)) e2
    unfold ext at this
    rw [if_pos hi, if_pos hi] at this; exact this
  · intro h g hh hg
    have hg := mem_iso.1 hg
    obtain ⟨f, hf, hfi⟩ := hg.symm
    refine ⟨_, mem_iso.2 hfi, list_ext hact hh.len fun i hi => ?_⟩
    rw [act_get hi, act_get (hel hfi hi)]
    congr 1
    unfold ext
    by_cases h : i < N
    · rw [if_pos h, getD_map_range f h, if_pos (hf i h).1, (hf i h).2]
    · rw [if_neg h, if_neg h]
  · intro h g g' hh hg hg'
    have hg := mem_iso.1 hg
    have hg' := mem_iso.1 hg'
    refine ⟨_, mem_iso.2 (hg.trans hg'), list_ext hact hact fun i hi => ?_⟩
    rw [act_get hi, act_get (hel hg' hi), act_get hi]
    congr 1
    unfold ext
    by_cases h : i < N
    · rw [if_pos h, if_pos (hg'.lt i h), if_pos h, getD_map_range _ h]
    · rw [if_neg h, if_neg h, if_neg h]
  · intro h hh
    refine ⟨_, mem_iso.2 (Iso.refl N s r), list_ext hact hh.len fun i hi => ?_⟩
    rw [act_get hi]
    congr 1
    unfold ext
    split
    · rename_i h; rw [getD_map_range id h]; rfl
    · rfl
  · intro g h hg hh
    exact mem_iso.2 ((mem_iso.1 hh).trans (hext (mem_iso.1 hg)))
end Go.Proofs.YtefneihlgclkbaaDoor.copl
