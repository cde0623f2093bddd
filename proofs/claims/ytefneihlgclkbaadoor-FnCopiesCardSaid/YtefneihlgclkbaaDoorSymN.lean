/- CountSymmetries of the program at a valid structure. -/
import Derived.Test.YtefneihlgclkbaaDoorEach2
import Derived.Test.YtefneihlgclkbaaDoorCopL
namespace Go.Proofs.YtefneihlgclkbaaDoor.symn
set_option linter.unusedVariables false
set_option linter.unusedSimpArgs false
open Go.ChangeShapes Go.WideShapes Go.ChangeAt Go.RowKit
open Go.Proofs.YtefneihlgclkbaaDoor.lib Go.Proofs.YtefneihlgclkbaaDoor.st Go.Proofs.YtefneihlgclkbaaDoor.base Go.Proofs.YtefneihlgclkbaaDoor.make Go.Proofs.YtefneihlgclkbaaDoor.fits Go.Proofs.YtefneihlgclkbaaDoor.ord Go.Proofs.YtefneihlgclkbaaDoor.each Go.Proofs.YtefneihlgclkbaaDoor.flow Go.Proofs.YtefneihlgclkbaaDoor.copl

/-- what is told: one more -/
def stN (k : Nat) (_ : List Nat) : Nat × Bool := (k + 1, true)
theorem run_stN : ∀ (L : List (List Nat)) (k : Nat), run stN L k = (k + L.length, true)
  | [], k => rfl
  | o :: L, k => by
    have := run_stN L (k + 1)
    rw [List.length_cons, show k + (L.length + 1) = k + 1 + L.length by omega, ← this]
    rfl
theorem ords_le {n : Nat} {ok : List Nat → Nat → Bool} : ∀ (d : Nat) (pre : List Nat), (ords n ok d pre).length ≤ n ^ d
  | 0, pre => by simp [ords]
  | d + 1, pre => by
    rw [← upto_full]
    have key : ∀ k, (upto n ok d pre k).length ≤ k * n ^ d := fun k => by
      induction k with
      | zero => rw [upto_zero]; simp
      | succ k ih =>
        rw [Nat.succ_mul]
        cases hk : ok pre k with
        | true => rw [upto_yes hk, List.length_append]; have := ords_le (n := n) (ok := ok) d (pre ++ [k]); omega
        | false => rw [upto_no hk]; omega
    rw [Nat.pow_succ, Nat.mul_comm]; exact key n
theorem sym_le {N : Nat} {s r : ByteArray} (h8 : N ≤ 8) : symN N s r ≤ 16777216 := by
  have h1 := ords_le (n := N) (ok := okB N s r s r) N []
  have h2 : N ^ N ≤ 8 ^ N := Nat.pow_le_pow_left h8 N
  have h3 : 8 ^ N ≤ 8 ^ 8 := Nat.pow_le_pow_right (by omega) h8
  have h4 : (8 : Nat) ^ 8 = 16777216 := by decide
  unfold symN
  omega
/-- the cell in which it is kept -/
def KeptN (c k : Nat) (W : World) : Prop := W.heap[c]? = some (.cells #[.int .i64 (IntKind.i64.wrap (k : Int))] 3 (0, 0))
theorem wrap_succ (k : Nat) : IntKind.i64.wrap (IntKind.i64.wrap (k : Int) + 1) = IntKind.i64.wrap ((k + 1 : Nat) : Int) := by
  rw [IntKind.wrap_i64, IntKind.wrap_i64, IntKind.wrap_i64]
  push_cast
  omega
set_option maxHeartbeats 400000 in
theorem tell_any (c k : Nat) (v : Value) (W : World) (hk : KeptN c k W) :
    Calls Tryd.prog 72 #[v, .pointer (some ⟨c, 0, none⟩)] W fun e W' => e = .returned (.bool true) ∧ W' = W.setCell ⟨c, 0, none⟩ (.int .i64 (IntKind.i64.wrap ((k + 1 : Nat) : Int))) := by
  have hc : W.cell? ⟨c, 0, none⟩ = some (.int .i64 (IntKind.i64.wrap (k : Int))) := by
    have hk' : W.heap[c]? = some (.cells #[.int .i64 (IntKind.i64.wrap (k : Int))] 3 (0, 0)) := hk
    simp [World.cell?, hk']
  have hf : W.frozen? ⟨c, 0, none⟩ = false := frozen_of_row W c 0 _ _ hk
  obtain ⟨u, hu⟩ : ∃ u, u = IntKind.i64.wrap (k : Int) := ⟨_, rfl⟩
  have HU : Hid (IntKind.i64.wrap (u + 1) = IntKind.i64.wrap ((k + 1 : Nat) : Int)) := by rw [hu]; exact wrap_succ k
  rw [← hu] at hc
  obtain ⟨u2, hu2⟩ : ∃ u2, u2 = IntKind.i64.wrap ((k + 1 : Nat) : Int) := ⟨_, rfl⟩
  rw [← hu2] at HU ⊢
  clear hu hu2 hk
  go_enter Tryd.func72, Tryd.ntmps72
  go_wp2
  go_ret
  exact ⟨rfl, by rw [← HU.out]; simp only [wrap64, IntKind.wrap_i64]⟩
set_option maxHeartbeats 1600000 in
theorem job (n : Nat) (s r : ByteArray) (c : Nat) (w : World) (h8 : n ≤ 8) (hs : s.size = n ∧ r.size = n * n) (hc : c < w.heap.size) :
    Job stN (KeptN c) (KeptN c) n s r s r 72 #[.pointer (some ⟨c, 0, none⟩)] c w.heap.size w where
  n8 := h8
  ha := ⟨hs.1, hs.2, hs.1, hs.2⟩
  hB := by omega
  h0 := rfl
  eT := enters_of Tryd.func72 (by kernel_rfl) rfl
  hI := fun k W W' h hb => by
    show W'.heap[c]? = _
    rw [hb.block c hc]; exact h
  hT := fun k o v W hk hb hr ho => by
    refine (tell_any c k v W hk).mono ?_
    rintro e W' ⟨rfl, rfl⟩
    have hcl : c < W.heap.size := (Array.getElem?_eq_some_iff.1 hk).1
    refine ⟨some c, ⟨rfl, rfl, rfl, by simp, fun j hj hne => heap_setCell_other _ _ _ _ (fun e => hne (by rw [e]))⟩, fun j hj => by cases hj; omega, rfl, fun _ => ?_, (fun h => by cases h)⟩
    show (W.setCell ⟨c, 0, none⟩ _).heap[c]? = _
    rw [heap_setCell_same _ _ _ _ _ _ hk]; rfl
set_option maxHeartbeats 1600000 in
theorem found_any (n : Nat) (s r : ByteArray) (c : Nat) (w : World) (h8 : n ≤ 8) (hs : s.size = n ∧ r.size = n * n) (hk : KeptN c 0 w) :
    Calls Tryd.prog 57 #[.agg #[.int .i64 n, .string s, .string r], .agg #[.int .i64 n, .string s, .string r], .func (.func 72) #[] #[.pointer (some ⟨c, 0, none⟩)]] w fun e w' => ∃ v, e = .returned v ∧ KeptN c (symN n s r) w' ∧ Below c w w' := by
  have hc : c < w.heap.size := (Array.getElem?_eq_some_iff.1 hk).1
  refine (eachShape_any w (job n s r c w h8 hs hc) 0 hk).mono ?_
  rintro e w' ⟨v, s', b, rfl, hr, hi, hf, hb⟩
  have h2 := run_stN (ords n (okB n s r s r) n []) 0
  rw [hr, Nat.zero_add] at h2
  simp only [Prod.mk.injEq] at h2
  obtain ⟨rfl, rfl⟩ := h2
  exact ⟨v, rfl, hi rfl, hb⟩
set_option maxHeartbeats 1600000 in
set_option maxRecDepth 100000 in
theorem implCountSymmetries_at (N : Nat) (s r : ByteArray) (w : World) (hv : validB N s r = true) (h8 : N ≤ 8) (hs : s.size = N ∧ r.size = N * N) :
    Calls Tryd.prog 27 #[.agg #[.int .i64 N, .string s, .string r]] w fun e w' => e = .returned (.int .i64 (symN N s r : Nat)) ∧ Below w.heap.size w w' := by
  obtain ⟨W0, hW0⟩ : ∃ W0, W0 = w.alloc (.cells #[.int .i64 N, .string s, .string r] 24) := ⟨_, rfl⟩
  have BA : Hid (Box 24 W0 w.heap.size N s r) := by rw [hW0]; exact Box.new 24 w w.heap.size rfl N s r
  have AW : Hid (Below w.heap.size w W0) := by rw [hW0]; exact (Below.refl _ _).alloc (Nat.le_refl _) _
  have HS := Lib.hid hs
  have HV := Lib.hid hv
  have HZ : Hid (s.size ≤ 9223372036854775807 ∧ r.size ≤ 9223372036854775807) := by
    have : N * N ≤ 8 * 8 := Nat.mul_le_mul h8 h8
    constructor <;> omega
  have HW0 := Lib.hid hW0
  clear hW0 hv hs
  go_enter Tryd.func27, Tryd.ntmps27
  go_wp2_with fail
  rw [← HW0.out]
  clear HW0
  refine (isStructure_any N s r _ HZ.out.1 HZ.out.2).mono ?_
  rintro e w1 ⟨rfl, hw⟩
  rw [HV.out]
  have HQ := Lib.hid (show _ ∧ _ from ⟨BA.out.below hw BA.out.lt, AW.out.trans (hw.mono AW.out.size)⟩)
  clear hw BA AW
  obtain ⟨HF, hHF⟩ : ∃ QZ, QZ = w1.heap.size := ⟨_, rfl⟩
  obtain ⟨w3, hw3⟩ : ∃ QZ, QZ = w1.alloc (.cells #[.int .i64 0] 3) := ⟨_, rfl⟩
  have AB : Below w1.heap.size w1 w3 := by rw [hw3]; exact (Below.refl _ _).alloc (Nat.le_refl _) _
  have HQ3 := Lib.hid (show _ ∧ _ from ⟨HQ.out.1.below AB HQ.out.1.lt, HQ.out.2.trans (AB.mono HQ.out.2.size)⟩)
  have KS : Hid (KeptN HF 0 w3) := by
    show w3.heap[HF]? = _
    rw [hw3, hHF]
    exact heap_alloc_new w1 _
  have hlF : w.heap.size < HF := by rw [hHF]; exact HQ.out.1.lt
  clear AB HQ
  go_upto_region 4 with (fail)
  rw [← hw3, ← hHF]
  clear hw3 hHF
  obtain ⟨a0, a1, a2⟩ := HQ3.out.1.c
  go_wp2_with fail
  refine (found_any N s r HF _ h8 HS.out KS.out).mono ?_
  rintro e w4 ⟨ve, rfl, hk, hb⟩
  have A4 : Hid (Below w.heap.size w w4) := HQ3.out.2.trans (hb.mono (by omega))
  have hk4 : w4.cell? ⟨HF, 0, none⟩ = some (.int .i64 (IntKind.i64.wrap ((symN N s r : Nat) : Int))) := by
    have : w4.heap[HF]? = _ := hk
    simp [World.cell?, this]
  have hsm := sym_le (s := s) (r := r) h8
  obtain ⟨q, hq⟩ : ∃ q, q = symN N s r := ⟨_, rfl⟩
  rw [← hq] at hk4 hsm
  have HQ9 := Lib.hid hq
  have hw : IntKind.i64.wrap (q : Int) = (q : Int) := by rw [IntKind.wrap_i64]; omega
  rw [hw] at hk4
  clear hk hb hq hw a0 a1 a2
  go_wp2
  go_ret
  exact ⟨by rw [HQ9.out]; rfl, A4.out⟩
end Go.Proofs.YtefneihlgclkbaaDoor.symn
