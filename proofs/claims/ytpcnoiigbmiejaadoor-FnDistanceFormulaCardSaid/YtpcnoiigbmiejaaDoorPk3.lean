/- Several texts in one: Near, Ord, Fits, FitsP, Iso. -/
import Derived.Test.YtpcnoiigbmiejaaDoorRows
import Derived.Test.YtpcnoiigbmiejaaDoorPk2
import Derived.Test.YtpcnoiigbmiejaaDoorPk1
import Derived.WalkKit
/- The elements next to an element: nearOf and NearOf, in the program and in the reference. -/
namespace Go.Proofs.YtpcnoiigbmiejaaDoor.near
set_option linter.unusedVariables false
set_option linter.unusedSimpArgs false
open Go.ChangeShapes Go.WideShapes Go.ChangeAt Go.RowKit
open Go.Proofs.YtpcnoiigbmiejaaDoor.lib Go.Proofs.YtpcnoiigbmiejaaDoor.st Go.Proofs.YtpcnoiigbmiejaaDoor.base

/-- two elements are next to each other -/
def adj (n : Nat) (r : ByteArray) (x y : Nat) : Bool := (x != y) && (bitAt r (x * n + y) || bitAt r (y * n + x))
/-- those up to k -/
def nearTo (n : Nat) (r : ByteArray) (x k : Nat) : List Int := ((List.range k).filter (adj n r x)).map fun (y : Nat) => (y : Int)
theorem nearTo_yes {n : Nat} {r : ByteArray} {x k : Nat} (h : adj n r x k = true) : nearTo n r x (k + 1) = nearTo n r x k ++ [(k : Int)] := by
  simp [nearTo, List.range_succ, h]
theorem nearTo_no {n : Nat} {r : ByteArray} {x k : Nat} (h : adj n r x k = false) : nearTo n r x (k + 1) = nearTo n r x k := by
  simp [nearTo, List.range_succ, h]
theorem nearTo_len (n : Nat) (r : ByteArray) (x k : Nat) : (nearTo n r x k).length ≤ k := by
  unfold nearTo; rw [List.length_map]
  have := List.length_filter_le (adj n r x) (List.range k)
  rw [List.length_range] at this; exact this
theorem emptyRow (T : TypeId) (w : World) (B H : Nat) (hH : w.heap.size = H) (hB : B ≤ H) : OwnI T (w.alloc (.cells #[] T)) B (.slice (some ⟨H, 0, none⟩) 0 0) [] := by
  subst hH
  exact World.ownsRow_made w #[] 0 hB (by decide) rfl
theorem infoInt : (Tryd.prog.info? 3).map (fun i => (i.zero, i.size, i.bytes)) = some (some (.int .i64 0), 1, 8) := by kernel_rfl

theorem l9Next_any (n : Nat) (s r : ByteArray) (x y : Nat) (w : World) (hx : x < n) (hy : y < n) (hn : n ≤ 8) (hr : r.size = n * n) :
    Calls Tryd.prog 192 #[.agg #[.int .i64 n, .string s, .string r], .int .i64 x, .int .i64 y] w fun e w' => e = .returned (.bool (adj n r x y)) ∧ Below w.heap.size w w' := by
  have BX : Hid (Box 24 (w.alloc (.cells #[.int .i64 n, .string s, .string r] 24)) w.heap.size n s r) := Box.new _ w _ rfl n s r
  have AW : Hid (Below w.heap.size w (w.alloc (.cells #[.int .i64 n, .string s, .string r] 24))) := (Below.refl _ _).alloc (Nat.le_refl _) _
  have HR := Lib.hid hr
  clear hr
  by_cases hxy : x = y
  · subst hxy
    have HE : Hid (adj n r x x = false) := by simp [Hid, adj]
    have e1 : ((x : Int) != (x : Int)) = false := by simp
    go_enter Tryd.func192, Tryd.ntmps192
    go_wp2
    go_ret
    exact ⟨by rw [HE.out]; rfl, AW.out⟩
  · have e0 : (x != y) = true := by simpa using hxy
    have HE : Hid (adj n r x y = (bitAt r (x * n + y) || bitAt r (y * n + x))) := by rw [Hid, adj, e0, Bool.true_and]
    have e1 : ((x : Int) != (y : Int)) = true := by simp; omega
    clear e0 hxy
    go_enter Tryd.func192, Tryd.ntmps192
    go_wp2_with fail
    refine (l1Rel_any n s r x y _ hx hy hn HR.out).mono ?_
    rintro e w1 ⟨rfl, hw⟩
    have AW1 : Hid (Below w.heap.size w w1) := AW.out.trans (hw.mono (by simp))
    obtain ⟨c0, c1, c2⟩ := (BX.out.below hw (by simp)).c
    clear hw
    cases hb : bitAt r (x * n + y) with
    | true =>
      have HE2 : Hid (adj n r x y = true) := by rw [Hid, HE.out, hb, Bool.true_or]
      clear hb
      go_wp2
      go_ret
      exact ⟨by rw [HE2.out]; rfl, AW1.out⟩
    | false =>
      have HE2 : Hid (adj n r x y = bitAt r (y * n + x)) := by rw [Hid, HE.out, hb, Bool.false_or]
      clear hb
      go_wp2_with fail
      refine (l1Rel_any n s r y x _ hy hx hn HR.out).mono ?_
      rintro e w2 ⟨rfl, hw⟩
      have AW2 : Hid (Below w.heap.size w w2) := AW1.out.trans (hw.mono AW1.out.size)
      clear hw
      go_wp2
      go_ret
      exact ⟨by rw [HE2.out]; rfl, AW2.out⟩

set_option maxHeartbeats 1600000 in
theorem nearOf_any (n : Nat) (s r : ByteArray) (x : Nat) (w : World) (hx : x < n) (hn : n ≤ 8) (hr : r.size = n * n) :
    Calls Tryd.prog 138 #[.agg #[.int .i64 n, .string s, .string r], .int .i64 x] w fun e w' => ∃ v, e = .returned v ∧ OwnI 3 w' w.heap.size v (nearTo n r x n) ∧ Below w.heap.size w w' := by
  obtain ⟨HB, hHB⟩ : ∃ HB, HB = w.heap.size + 1 := ⟨_, rfl⟩
  have BX : Hid (Box 24 (w.alloc (.cells #[.int .i64 n, .string s, .string r] 24)) w.heap.size n s r) := Box.new _ w _ rfl n s r
  have AW : Hid (Below w.heap.size w (w.alloc (.cells #[.int .i64 n, .string s, .string r] 24))) := (Below.refl _ _).alloc (Nat.le_refl _) _
  have he : Hid (OwnI 3 ((w.alloc (.cells #[.int .i64 n, .string s, .string r] 24)).alloc (.cells #[] 3)) HB (.slice (some ⟨w.heap.size + 1, 0, none⟩) 0 0) []) := emptyRow _ _ _ _ (by simp) (by omega)
  have hb0 : Hid (Below HB (w.alloc (.cells #[.int .i64 n, .string s, .string r] 24)) ((w.alloc (.cells #[.int .i64 n, .string s, .string r] 24)).alloc (.cells #[] 3))) := (Below.refl _ _).alloc (by simp; omega) _
  have HBS : Hid ((w.alloc (.cells #[.int .i64 n, .string s, .string r] 24)).heap.size = HB) := by rw [hHB]; simp [Hid]
  have HHB := Lib.hid hHB
  have HR := Lib.hid hr
  clear hr hHB
  go_enter Tryd.func138, Tryd.ntmps138
  go_wp2
  go_loopw [5, 10] (fun v i wr => ∃ k : Nat, k ≤ n ∧ i = .int .i64 k ∧ OwnI 3 wr HB v (nearTo n r x k) ∧ Below HB (w.alloc (.cells #[.int .i64 n, .string s, .string r] 24)) wr) (fun _ i _ => n - (intOf i).toNat)
  case atStart => exact ⟨0, Nat.zero_le _, rfl, he.out, hb0.out⟩
  case round =>
    obtain ⟨k, hk, rfl, hown, hnx⟩ := hrel
    obtain ⟨c0, c1, c2⟩ := (BX.out.below hnx (by have := HHB.out; omega)).c
    have HO := Lib.hid hown
    have HX := Lib.hid hnx
    clear hown hnx
    by_cases hlt : k < n
    · by_cases hxk : x = k
      · have HS : Hid (nearTo n r x (k + 1) = nearTo n r x k) := nearTo_no (by simp [adj, hxk])
        have e1 : ((k : Int) != (x : Int)) = false := by simp; omega
        clear hxk
        have R : Hid (OwnI 3 _ HB _ (nearTo n r x (k + 1)) ∧ Below HB (w.alloc (.cells #[.int .i64 n, .string s, .string r] 24)) _) := ⟨by rw [HS.out]; exact HO.out, HX.out⟩
        go_wp2
        go_roundw
        case rel => exact ⟨k + 1, by omega, by go_num, R.out.1, R.out.2⟩
        case measure => simp [intOf]; omega
      · have e0 : (x != k) = true := by simpa using hxk
        have HA : Hid (adj n r x k = (bitAt r (x * n + k) || bitAt r (k * n + x))) := by rw [Hid, adj, e0, Bool.true_and]
        have e1 : ((k : Int) != (x : Int)) = true := by simp; omega
        clear hxk e0
        go_wp2_with fail
        refine (inRel_any n s r x k _ hx hlt hn HR.out).mono ?_
        rintro e w1 ⟨rfl, hw⟩
        have HX1 : Hid (Below HB (w.alloc (.cells #[.int .i64 n, .string s, .string r] 24)) w1) := HX.out.trans (hw.mono (by have := HX.out.size; have := HBS.out; omega))
        have HO1 := Lib.hid (HO.out.below hw (Nat.le_refl _))
        clear c0 c1 c2
        obtain ⟨c0, c1, c2⟩ := (BX.out.below HX1.out (by have := HHB.out; omega)).c
        clear hw
        cases hb : bitAt r (x * n + k) with
        | true =>
          have HS : Hid (nearTo n r x (k + 1) = nearTo n r x k ++ [(k : Int)]) := nearTo_yes (by rw [HA.out, hb, Bool.true_or])
          clear hb HO HX
          have hsz : HB ≤ w1.heap.size := by have := HX1.out.size; have := HBS.out; omega
          have HL := Lib.hid (nearTo_len n r x k)
          go_wp2_with (at_builtin; refine wpList_app1 w1 rfl (.tmp 28) (.tmp 30) 32 rfl HB 3 (.int .i64 0) 8 Tryd.underlying32 infoInt rfl (by decide) _ _ _ (.int .i64 k) rfl HO1.out w1.heap.size rfl rfl rfl (by have := HL.out; omega) hsz ?_)
          intro g cap' w9 hown9 hgr
          have R : Hid (OwnI 3 w9 HB (.slice (some ⟨g, 0, none⟩) ((nearTo n r x k).length + 1) cap') (nearTo n r x (k + 1)) ∧ Below HB (w.alloc (.cells #[.int .i64 n, .string s, .string r] 24)) w9) :=
            ⟨by rw [HS.out]; unfold OwnI; rw [List.length_append, ivs_append]; exact hown9, HX1.out.trans (hgr.below HO1.out hsz)⟩
          clear hown9 hgr hsz
          go_wp2
          go_roundw
          case rel => exact ⟨k + 1, by omega, by go_num, R.out.1, R.out.2⟩
          case measure => simp [intOf]; omega
        | false =>
          have HA2 : Hid (adj n r x k = bitAt r (k * n + x)) := by rw [Hid, HA.out, hb, Bool.false_or]
          clear hb
          go_wp2_with fail
          refine (inRel_any n s r k x _ hlt hx hn HR.out).mono ?_
          rintro e w2 ⟨rfl, hw⟩
          have HX2 : Hid (Below HB (w.alloc (.cells #[.int .i64 n, .string s, .string r] 24)) w2) := HX1.out.trans (hw.mono (by have := HX1.out.size; have := HBS.out; omega))
          have HO2 := Lib.hid (HO1.out.below hw (Nat.le_refl _))
          clear c0 c1 c2
          obtain ⟨c0, c1, c2⟩ := (BX.out.below HX2.out (by have := HHB.out; omega)).c
          clear hw HO1 HX1 HO HX
          cases hb : bitAt r (k * n + x) with
          | true =>
            have HS : Hid (nearTo n r x (k + 1) = nearTo n r x k ++ [(k : Int)]) := nearTo_yes (by rw [HA2.out, hb])
            clear hb
            have hsz : HB ≤ w2.heap.size := by have := HX2.out.size; have := HBS.out; omega
            have HL := Lib.hid (nearTo_len n r x k)
            go_wp2_with (at_builtin; refine wpList_app1 w2 rfl (.tmp 28) (.tmp 30) 32 rfl HB 3 (.int .i64 0) 8 Tryd.underlying32 infoInt rfl (by decide) _ _ _ (.int .i64 k) rfl HO2.out w2.heap.size rfl rfl rfl (by have := HL.out; omega) hsz ?_)
            intro g cap' w9 hown9 hgr
            have R : Hid (OwnI 3 w9 HB (.slice (some ⟨g, 0, none⟩) ((nearTo n r x k).length + 1) cap') (nearTo n r x (k + 1)) ∧ Below HB (w.alloc (.cells #[.int .i64 n, .string s, .string r] 24)) w9) :=
              ⟨by rw [HS.out]; unfold OwnI; rw [List.length_append, ivs_append]; exact hown9, HX2.out.trans (hgr.below HO2.out hsz)⟩
            clear hown9 hgr hsz
            go_wp2
            go_roundw
            case rel => exact ⟨k + 1, by omega, by go_num, R.out.1, R.out.2⟩
            case measure => simp [intOf]; omega
          | false =>
            have HS : Hid (nearTo n r x (k + 1) = nearTo n r x k) := nearTo_no (by rw [HA2.out, hb])
            clear hb
            have R : Hid (OwnI 3 _ HB _ (nearTo n r x (k + 1)) ∧ Below HB (w.alloc (.cells #[.int .i64 n, .string s, .string r] 24)) _) := ⟨by rw [HS.out]; exact HO2.out, HX2.out⟩
            go_wp2
            go_roundw
            case rel => exact ⟨k + 1, by omega, by go_num, R.out.1, R.out.2⟩
            case measure => simp [intOf]; omega
    · obtain rfl : k = n := by omega
      go_wp2
      go_ret
      exact ⟨_, rfl, HO.out.mono (by have := HHB.out; omega), AW.out.trans (HX.out.mono (by have := HHB.out; omega))⟩

/-- what NearOf returns -/
def nearR (n : Int) (s r : ByteArray) (x : Int) : List Int := if elemB n s r x = true then nearTo n.toNat r x.toNat n.toNat else []
theorem valid_nat {n : Int} {s r : ByteArray} {x : Int} (h : elemB n s r x = true) : ∃ (N X : Nat), n = N ∧ x = X ∧ X < N ∧ N ≤ 8 ∧ s.size = N ∧ r.size = N * N := by
  obtain ⟨hv, h0, h1⟩ := elemB_iff.1 h
  obtain ⟨⟨h2, h3⟩, hs, hr, _⟩ := validB_iff.1 hv
  refine ⟨n.toNat, x.toNat, by omega, by omega, by omega, by omega, by omega, ?_⟩
  have e : (n.toNat : Int) = n := by omega
  have : ((n.toNat * n.toNat : Nat) : Int) = n * n := by rw [Int.natCast_mul, e]
  omega

theorem len0 (n : Int) (s r : ByteArray) (x : Int) : s.size + r.size ≤ 1048576 → (nearR n s r x).length ≤ 4194304 := by
  intro _; unfold nearR; split
  · rename_i h
    obtain ⟨N, X, rfl, rfl, hX, hN, _⟩ := valid_nat h
    have := nearTo_len N r X N
    simp; omega
  · simp
end Go.Proofs.YtpcnoiigbmiejaaDoor.near

/- Orders of the elements of a structure that fit another one: what the search tells, and in which order. No program in sight. -/
namespace Go.Proofs.YtpcnoiigbmiejaaDoor.ord
set_option linter.unusedVariables false
set_option linter.unusedSimpArgs false

/-- the orders that begin with pre and take d elements more, each of which may be had behind those ahead of it -/
def ords (n : Nat) (ok : List Nat → Nat → Bool) : Nat → List Nat → List (List Nat)
  | 0, pre => [pre]
  | d + 1, pre => (List.range n).flatMap fun x => if ok pre x = true then ords n ok d (pre ++ [x]) else []
/-- those of them whose next element is less than k -/
def upto (n : Nat) (ok : List Nat → Nat → Bool) (d : Nat) (pre : List Nat) (k : Nat) : List (List Nat) :=
  (List.range k).flatMap fun x => if ok pre x = true then ords n ok d (pre ++ [x]) else []
theorem upto_zero (n : Nat) (ok : List Nat → Nat → Bool) (d : Nat) (pre : List Nat) : upto n ok d pre 0 = [] := rfl
theorem upto_full (n : Nat) (ok : List Nat → Nat → Bool) (d : Nat) (pre : List Nat) : upto n ok d pre n = ords n ok (d + 1) pre := rfl
theorem upto_yes {n : Nat} {ok : List Nat → Nat → Bool} {d : Nat} {pre : List Nat} {k : Nat} (h : ok pre k = true) : upto n ok d pre (k + 1) = upto n ok d pre k ++ ords n ok d (pre ++ [k]) := by
  simp [upto, List.range_succ, h]
theorem upto_no {n : Nat} {ok : List Nat → Nat → Bool} {d : Nat} {pre : List Nat} {k : Nat} (h : ok pre k = false) : upto n ok d pre (k + 1) = upto n ok d pre k := by
  simp [upto, List.range_succ, h]
theorem upto_part (n : Nat) (ok : List Nat → Nat → Bool) (d : Nat) (pre : List Nat) {k : Nat} (h : k ≤ n) : ∃ m, ords n ok (d + 1) pre = upto n ok d pre k ++ m := by
  obtain ⟨j, rfl⟩ := Nat.le.dest h
  refine ⟨(((List.range j).map (k + ·)).flatMap fun x => if ok pre x = true then ords (k + j) ok d (pre ++ [x]) else []), ?_⟩
  rw [← upto_full, upto, List.range_add, List.flatMap_append]
  rfl

/-- telling one after another, until it is enough -/
def run {σ : Type} (st : σ → List Nat → σ × Bool) : List (List Nat) → σ → σ × Bool
  | [], s => (s, true)
  | o :: os, s => if (st s o).2 = true then run st os (st s o).1 else ((st s o).1, false)
theorem run_app {σ : Type} (st : σ → List Nat → σ × Bool) : ∀ (l m : List (List Nat)) (s : σ), run st (l ++ m) s = if (run st l s).2 = true then run st m (run st l s).1 else ((run st l s).1, false)
  | [], m, s => by simp [run]
  | o :: os, m, s => by
    by_cases h : (st s o).2 = true
    · simp only [List.cons_append, run, h, if_true]; exact run_app st os m _
    · simp [run, h]
theorem run_on {σ : Type} {st : σ → List Nat → σ × Bool} {l : List (List Nat)} {s s' : σ} (h : run st l s = (s', true)) (m : List (List Nat)) : run st (l ++ m) s = run st m s' := by rw [run_app, h]; rfl
theorem run_stop {σ : Type} {st : σ → List Nat → σ × Bool} {l : List (List Nat)} {s s' : σ} (h : run st l s = (s', false)) (m : List (List Nat)) : run st (l ++ m) s = (s', false) := by rw [run_app, h]; rfl
theorem run_one {σ : Type} (st : σ → List Nat → σ × Bool) (o : List Nat) (s : σ) : run st [o] s = st s o := by
  obtain ⟨t, b, h⟩ : ∃ t b, st s o = (t, b) := ⟨_, _, rfl⟩
  cases b <;> simp [run, h]

/-- what is among them -/
theorem mem_ords {n : Nat} {ok : List Nat → Nat → Bool} : ∀ {d : Nat} {pre o : List Nat}, o ∈ ords n ok d pre ↔ ∃ l : List Nat, o = pre ++ l ∧ l.length = d ∧ ∀ i, i < d → l.getD i 0 < n ∧ ok (pre ++ l.take i) (l.getD i 0) = true
  | 0, pre, o => by
    simp only [ords, List.mem_singleton]
    constructor
    · rintro rfl; exact ⟨[], by simp, rfl, fun i hi => by omega⟩
    · rintro ⟨l, rfl, hl, _⟩; rw [List.length_eq_zero_iff.1 hl]; simp
  | d + 1, pre, o => by
    simp only [ords, List.mem_flatMap, List.mem_range]
    constructor
    · rintro ⟨x, hx, h⟩
      split at h
      · rename_i hok
        obtain ⟨l, rfl, hl, hi⟩ := mem_ords.1 h
        refine ⟨x :: l, by simp, by simp [hl], fun i hid => ?_⟩
        cases i with
        | zero => simpa using ⟨hx, hok⟩
        | succ i =>
          have := hi i (by omega)
          simpa using this
      · cases h
    · rintro ⟨l, rfl, hl, hi⟩
      cases l with
      | nil => simp at hl
      | cons x l =>
        have h0 := hi 0 (by omega)
        simp at h0
        refine ⟨x, h0.1, ?_⟩
        rw [if_pos h0.2]
        refine mem_ords.2 ⟨l, by simp, by simpa using hl, fun i hid => ?_⟩
        have := hi (i + 1) (by omega)
        simpa using this
theorem ords_len {n : Nat} {ok : List Nat → Nat → Bool} {d : Nat} {pre o : List Nat} (h : o ∈ ords n ok d pre) : o.length = pre.length + d := by
  obtain ⟨l, rfl, hl, _⟩ := mem_ords.1 h
  simp [hl]

/-- the first one, as a search that stops there -/
def first : List Nat → List (List Nat) → Option (List Nat)
  | _, [] => none
  | _, o :: _ => some o
theorem head_app {α : Type} (l m : List α) : (l ++ m).head? = l.head?.or m.head? := by cases l <;> simp

/-- the first elements: an order that begins with 0 stands ahead of all others -/
theorem head_zero {n : Nat} {ok : List Nat → Nat → Bool} {d : Nat} (hn : 1 ≤ n) : (ords n ok (d + 1) []).head?.any (fun o => o.getD 0 0 == 0) = (ok [] 0 && !(ords n ok d [0]).isEmpty) := by
  obtain ⟨m, rfl⟩ := Nat.exists_eq_add_of_le hn
  have hb : ∀ x o, o ∈ (if ok [] x = true then ords (1 + m) ok d ([] ++ [x]) else []) → o.getD 0 0 = x := by
    intro x o ho
    split at ho
    · obtain ⟨l, rfl, _, _⟩ := mem_ords.1 ho; simp
    · cases ho
  rw [ords, List.range_add, List.flatMap_append]
  have e0 : ((List.range 1).flatMap fun x => if ok [] x = true then ords (1 + m) ok d ([] ++ [x]) else []) = (if ok [] 0 = true then ords (1 + m) ok d [0] else []) := by simp [List.range_succ]
  rw [e0]
  cases hf : (if ok [] 0 = true then ords (1 + m) ok d [0] else []) with
  | cons o os =>
    have h0 : ok [] 0 = true := by
      cases h : ok [] 0 with
      | true => rfl
      | false => rw [h] at hf; simp at hf
    rw [if_pos h0] at hf
    have := hb 0 o (by rw [if_pos h0]; simp [hf])
    simp [h0, hf]
    simpa using this
  | nil =>
    have e1 : (ok [] 0 && !(ords (1 + m) ok d [0]).isEmpty) = false := by
      cases h : ok [] 0 with
      | false => rfl
      | true => rw [if_pos h] at hf; rw [hf]; rfl
    rw [e1, List.nil_append]
    cases hh : (((List.range m).map (1 + ·)).flatMap fun x => if ok [] x = true then ords (1 + m) ok d ([] ++ [x]) else []).head? with
    | none => rfl
    | some o =>
      have hm := List.mem_of_head? hh
      obtain ⟨x, hx, ho⟩ := List.mem_flatMap.1 hm
      obtain ⟨y, _, rfl⟩ := List.mem_map.1 hx
      have := hb _ o ho
      simp only [Option.any_some]
      rw [this]
      simp
end Go.Proofs.YtpcnoiigbmiejaaDoor.ord

/- Whether an element may stand behind others: placed of the program; plain words and its contract. -/
namespace Go.Proofs.YtpcnoiigbmiejaaDoor.fits
set_option linter.unusedVariables false
set_option linter.unusedSimpArgs false
open Go.ChangeShapes Go.WideShapes Go.ChangeAt Go.RowKit
open Go.Proofs.YtpcnoiigbmiejaaDoor.lib Go.Proofs.YtpcnoiigbmiejaaDoor.st Go.Proofs.YtpcnoiigbmiejaaDoor.base Go.Proofs.YtpcnoiigbmiejaaDoor.flow

/-- numbers as integers -/
def ints (l : List Nat) : List Int := l.map fun (y : Nat) => (y : Int)
theorem ints_len (l : List Nat) : (ints l).length = l.length := by simp [ints]
theorem ints_get (l : List Nat) (i : Nat) : (ints l).getD i 0 = ((l.getD i 0 : Nat) : Int) := by
  simp only [ints, List.getD_eq_getElem?_getD, List.getElem?_map]
  cases l[i]? <;> rfl
theorem ints_app (l m : List Nat) : ints (l ++ m) = ints l ++ ints m := by simp [ints]
theorem ints_take (l : List Nat) (i : Nat) : (ints l).take i = ints (l.take i) := by simp [ints, List.map_take]
theorem ints_inj {l m : List Nat} (h : ints l = ints m) : l = m := by
  unfold ints at h
  exact List.map_inj_right (fun a b hab => by omega) |>.1 h

/-- the pair at k is as that at x, both ways -/
def stepB (n : Nat) (ra rb : ByteArray) (pre : List Nat) (x k : Nat) : Bool :=
  (bitAt ra (x * n + pre.getD k 0) == bitAt rb (pre.length * n + k)) && (bitAt ra (pre.getD k 0 * n + x) == bitAt rb (k * n + pre.length))
def placedB (n : Nat) (sa ra sb rb : ByteArray) (pre : List Nat) (x : Nat) : Bool :=
  (bitAt sa x == bitAt sb pre.length) && ((bitAt ra (x * n + x) == bitAt rb (pre.length * n + pre.length)) && (List.range pre.length).all (stepB n ra rb pre x))
/-- x may stand behind pre -/
def okB (n : Nat) (sa ra sb rb : ByteArray) (pre : List Nat) (x : Nat) : Bool := !pre.contains x && placedB n sa ra sb rb pre x
theorem bne_true {p q : Bool} (h : (p != q) = true) : (p == q) = false := by cases p <;> cases q <;> simp_all
theorem bne_false {p q : Bool} (h : (p != q) = false) : (p == q) = true := by cases p <;> cases q <;> simp_all
theorem all_upto {f : Nat → Bool} {k : Nat} (h : ∀ j, j < k → f j = true) : (List.range k).all f = true := List.all_eq_true.2 fun j hj => h j (List.mem_range.1 hj)
theorem all_not {f : Nat → Bool} {k j : Nat} (hj : j < k) (h : f j = false) : (List.range k).all f = false := List.all_eq_false.2 ⟨j, List.mem_range.2 hj, by simp [h]⟩

set_option maxHeartbeats 1600000 in
theorem placed_any (n : Nat) (sa ra sb rb : ByteArray) (pre : List Nat) (v : Value) (x : Nat) (w : World) (hx : x < n) (hi : pre.length < n) (hp : ∀ y, y ∈ pre → y < n) (hn : n ≤ 8)
    (hsa : sa.size = n) (hra : ra.size = n * n) (hsb : sb.size = n) (hrb : rb.size = n * n) (hv : Reads w v (ints pre)) :
    Calls Tryd.prog 162 #[.agg #[.int .i64 n, .string sa, .string ra], .agg #[.int .i64 n, .string sb, .string rb], v, .int .i64 x] w fun e w' => e = .returned (.bool (placedB n sa ra sb rb pre x)) ∧ Below w.heap.size w w' := by
  obtain ⟨i, hil⟩ : ∃ i, i = pre.length := ⟨_, rfl⟩
  obtain ⟨ao, cap, rfl⟩ := hv.len
  rw [ints_len, ← hil] at hv ⊢
  rw [← hil] at hi
  have B1 : Hid (Box 24 (w.alloc (.cells #[.int .i64 n, .string sa, .string ra] 24)) w.heap.size n sa ra) := Box.new _ w _ rfl _ _ _
  have BA : Hid (Box 24 ((w.alloc (.cells #[.int .i64 n, .string sa, .string ra] 24)).alloc (.cells #[.int .i64 n, .string sb, .string rb] 24)) w.heap.size n sa ra) := B1.out.below ((Below.refl _ _).alloc (Nat.le_refl _) _) B1.out.lt
  have BB : Hid (Box 24 ((w.alloc (.cells #[.int .i64 n, .string sa, .string ra] 24)).alloc (.cells #[.int .i64 n, .string sb, .string rb] 24)) (w.heap.size + 1) n sb rb) := Box.new _ _ _ (by simp) _ _ _
  obtain ⟨W2, hW2⟩ : ∃ W2, W2 = (w.alloc (.cells #[.int .i64 n, .string sa, .string ra] 24)).alloc (.cells #[.int .i64 n, .string sb, .string rb] 24) := ⟨_, rfl⟩
  have AW : Hid (Below w.heap.size w W2) := by rw [hW2]; exact ((Below.refl _ _).alloc (Nat.le_refl _) _).alloc (by simp) _
  rw [← hW2] at BA BB
  have RD := Lib.hid (hv.below AW.out (Nat.le_refl _))
  have HI := Lib.hid hil
  have HS := Lib.hid (show _ ∧ _ ∧ _ ∧ _ ∧ _ from ⟨hsa, hra, hsb, hrb, hp⟩)
  obtain ⟨p0, hp0⟩ : ∃ b, b = bitAt sa x := ⟨_, rfl⟩
  obtain ⟨q0, hq0⟩ : ∃ b, b = bitAt sb i := ⟨_, rfl⟩
  obtain ⟨p1, hp1⟩ : ∃ b, b = bitAt ra (x * n + x) := ⟨_, rfl⟩
  obtain ⟨q1, hq1⟩ : ∃ b, b = bitAt rb (i * n + i) := ⟨_, rfl⟩
  have HP : Hid (placedB n sa ra sb rb pre x = ((p0 == q0) && ((p1 == q1) && (List.range i).all (stepB n ra rb pre x)))) := by rw [hp0, hq0, hp1, hq1, hil]; rfl
  have C0 : Hid (∀ W, Calls Tryd.prog 52 #[.agg #[.int .i64 n, .string sa, .string ra], .int .i64 x] W fun e w' => e = .returned (.bool p0) ∧ Below W.heap.size W w') := fun W => by rw [hp0]; exact inSet_any n sa ra x W (by omega) (by omega)
  have C1 : Hid (∀ W, Calls Tryd.prog 52 #[.agg #[.int .i64 n, .string sb, .string rb], .int .i64 i] W fun e w' => e = .returned (.bool q0) ∧ Below W.heap.size W w') := fun W => by rw [hq0]; exact inSet_any n sb rb i W (by omega) (by omega)
  have C2 : Hid (∀ W, Calls Tryd.prog 55 #[.agg #[.int .i64 n, .string sa, .string ra], .int .i64 x, .int .i64 x] W fun e w' => e = .returned (.bool p1) ∧ Below W.heap.size W w') := fun W => by rw [hp1]; exact inRel_any n sa ra x x W hx hx hn hra
  have C3 : Hid (∀ W, Calls Tryd.prog 55 #[.agg #[.int .i64 n, .string sb, .string rb], .int .i64 i, .int .i64 i] W fun e w' => e = .returned (.bool q1) ∧ Below W.heap.size W w') := fun W => by rw [hq1]; exact inRel_any n sb rb i i W hi hi hn hrb
  have ca0 : ∀ X : Wd (fun W => Hid (Below W2.heap.size W2 W)), X.w.cell? ⟨w.heap.size, 0, none⟩ = some (.int .i64 n) := fun X => (BA.out.below X.ok.out BA.out.lt).c.1
  have ca1 : ∀ X : Wd (fun W => Hid (Below W2.heap.size W2 W)), X.w.cell? ⟨w.heap.size, 1, none⟩ = some (.string sa) := fun X => (BA.out.below X.ok.out BA.out.lt).c.2.1
  have ca2 : ∀ X : Wd (fun W => Hid (Below W2.heap.size W2 W)), X.w.cell? ⟨w.heap.size, 2, none⟩ = some (.string ra) := fun X => (BA.out.below X.ok.out BA.out.lt).c.2.2
  have cb0 : ∀ X : Wd (fun W => Hid (Below W2.heap.size W2 W)), X.w.cell? ⟨w.heap.size + 1, 0, none⟩ = some (.int .i64 n) := fun X => (BB.out.below X.ok.out BB.out.lt).c.1
  have cb1 : ∀ X : Wd (fun W => Hid (Below W2.heap.size W2 W)), X.w.cell? ⟨w.heap.size + 1, 1, none⟩ = some (.string sb) := fun X => (BB.out.below X.ok.out BB.out.lt).c.2.1
  have cb2 : ∀ X : Wd (fun W => Hid (Below W2.heap.size W2 W)), X.w.cell? ⟨w.heap.size + 1, 2, none⟩ = some (.string rb) := fun X => (BB.out.below X.ok.out BB.out.lt).c.2.2
  have hne : Nonempty (Wd (fun W => Hid (Below W2.heap.size W2 W))) := ⟨⟨W2, Lib.hid (Below.refl _ _)⟩⟩
  have HW2 := Lib.hid hW2
  clear hW2 hv hil hsa hra hsb hrb hp hp0 hq0 hp1 hq1 B1
  go_enter Tryd.func162, Tryd.ntmps162
  go_wp2_with fail
  rw [← HW2.out]
  by_cases h0 : p0 = q0
  · subst h0
    have HP2 : Hid (placedB n sa ra sb rb pre x = ((p1 == q1) && (List.range i).all (stepB n ra rb pre x))) := by rw [Hid, HP.out, beq_self_eq_true, Bool.true_and]
    by_cases h1 : p1 = q1
    · subst h1
      have HP3 : Hid (placedB n sa ra sb rb pre x = (List.range i).all (stepB n ra rb pre x)) := by rw [Hid, HP2.out, beq_self_eq_true, Bool.true_and]
      refine flow_all (S := (fun W => Hid (Below W2.heap.size W2 W))) (by kernel_rfl) (by kernel_rfl) (Lib.hid (Below.refl _ _).drew) ?_
      repeat (go_big_quiet_step (first
        | ((with_reducible refine (C0.out _).mono ?_); rintro e W ⟨rfl, hb⟩; exact ⟨rfl, Wd.on (Wd.ok _) hb⟩)
        | ((with_reducible refine (C1.out _).mono ?_); rintro e W ⟨rfl, hb⟩; exact ⟨rfl, Wd.on (Wd.ok _) hb⟩)
        | ((with_reducible refine (C2.out _).mono ?_); rintro e W ⟨rfl, hb⟩; exact ⟨rfl, Wd.on (Wd.ok _) hb⟩)
        | ((with_reducible refine (C3.out _).mono ?_); rintro e W ⟨rfl, hb⟩; exact ⟨rfl, Wd.on (Wd.ok _) hb⟩)))
      refine wpQuiet_nil ?_
      rintro _ ⟨X, rfl⟩
      have XB := Lib.hid X.ok.out
      clear ca0 ca1 ca2 cb0 cb1 cb2 hne
      go_wp2
      go_loopw [34] (fun j wr => ∃ k : Nat, k ≤ i ∧ j = .int .i64 k ∧ Hid (∀ j, j < k → stepB n ra rb pre x j = true) ∧ Below W2.heap.size W2 wr) (fun j _ => i - (intOf j).toNat)
      case atStart => exact ⟨0, Nat.zero_le _, rfl, fun j hj => absurd hj (Nat.not_lt_zero _), XB.out⟩
      case round =>
        obtain ⟨k, hk, rfl, hyes, hb⟩ := hrel
        have HX := Lib.hid hb
        have AX := Lib.hid (AW.out.trans (hb.mono AW.out.size))
        clear hb XB
        by_cases hki : k < i
        · obtain ⟨b, off, rfl, hc⟩ : ∃ b off, ao = some ⟨b, off, none⟩ ∧ wr.cell? ⟨b, off + k, none⟩ = some (.int .i64 (pre.getD k 0 : Nat)) := by
            obtain ⟨ao', c', hv', hc', _⟩ := RD.out.below HX.out (Nat.le_refl _)
            rw [ints_len, ← HI.out] at hv' hc'
            simp only [Value.slice.injEq] at hv'
            rcases hc' with h | ⟨b, off, he, hc⟩
            · have := HI.out
              have h2 : (ints pre).length = 0 := by rw [h]; rfl
              rw [ints_len] at h2; omega
            · exact ⟨b, off, hv'.1.trans he, by rw [hc k (by omega), ints_get]⟩
          obtain ⟨y, hy⟩ : ∃ y, y = pre.getD k 0 := ⟨_, rfl⟩
          rw [← hy] at hc
          have hyn : y < n := by
            rw [hy, List.getD_eq_getElem?_getD, List.getElem?_eq_getElem (by have := HI.out; omega)]
            exact HS.out.2.2.2.2 _ (List.getElem_mem _)
          obtain ⟨p2, hp2⟩ : ∃ b, b = bitAt ra (x * n + y) := ⟨_, rfl⟩
          obtain ⟨q2, hq2⟩ : ∃ b, b = bitAt rb (i * n + k) := ⟨_, rfl⟩
          obtain ⟨p3, hp3⟩ : ∃ b, b = bitAt ra (y * n + x) := ⟨_, rfl⟩
          obtain ⟨q3, hq3⟩ : ∃ b, b = bitAt rb (k * n + i) := ⟨_, rfl⟩
          have HST : Hid (stepB n ra rb pre x k = ((p2 == q2) && (p3 == q3))) := by rw [hp2, hq2, hp3, hq3, hy, HI.out]; rfl
          have D0 : Hid (∀ W, Calls Tryd.prog 55 #[.agg #[.int .i64 n, .string sa, .string ra], .int .i64 x, .int .i64 y] W fun e w' => e = .returned (.bool p2) ∧ Below W.heap.size W w') := fun W => by rw [hp2]; exact inRel_any n sa ra x y W hx hyn hn HS.out.2.1
          have D1 : Hid (∀ W, Calls Tryd.prog 55 #[.agg #[.int .i64 n, .string sb, .string rb], .int .i64 i, .int .i64 k] W fun e w' => e = .returned (.bool q2) ∧ Below W.heap.size W w') := fun W => by rw [hq2]; exact inRel_any n sb rb i k W hi (by omega) hn HS.out.2.2.2.1
          have D2 : Hid (∀ W, Calls Tryd.prog 55 #[.agg #[.int .i64 n, .string sa, .string ra], .int .i64 y, .int .i64 x] W fun e w' => e = .returned (.bool p3) ∧ Below W.heap.size W w') := fun W => by rw [hp3]; exact inRel_any n sa ra y x W hyn hx hn HS.out.2.1
          have D3 : Hid (∀ W, Calls Tryd.prog 55 #[.agg #[.int .i64 n, .string sb, .string rb], .int .i64 k, .int .i64 i] W fun e w' => e = .returned (.bool q3) ∧ Below W.heap.size W w') := fun W => by rw [hq3]; exact inRel_any n sb rb k i W (by omega) hi hn HS.out.2.2.2.1
          have BA2 := Lib.hid (BA.out.below HX.out BA.out.lt)
          have BB2 := Lib.hid (BB.out.below HX.out BB.out.lt)
          have ca0 : ∀ X : Wd (fun W => Hid (Below wr.heap.size wr W)), X.w.cell? ⟨w.heap.size, 0, none⟩ = some (.int .i64 n) := fun X => (BA2.out.below X.ok.out BA2.out.lt).c.1
          have ca1 : ∀ X : Wd (fun W => Hid (Below wr.heap.size wr W)), X.w.cell? ⟨w.heap.size, 1, none⟩ = some (.string sa) := fun X => (BA2.out.below X.ok.out BA2.out.lt).c.2.1
          have ca2 : ∀ X : Wd (fun W => Hid (Below wr.heap.size wr W)), X.w.cell? ⟨w.heap.size, 2, none⟩ = some (.string ra) := fun X => (BA2.out.below X.ok.out BA2.out.lt).c.2.2
          have cb0 : ∀ X : Wd (fun W => Hid (Below wr.heap.size wr W)), X.w.cell? ⟨w.heap.size + 1, 0, none⟩ = some (.int .i64 n) := fun X => (BB2.out.below X.ok.out BB2.out.lt).c.1
          have cb1 : ∀ X : Wd (fun W => Hid (Below wr.heap.size wr W)), X.w.cell? ⟨w.heap.size + 1, 1, none⟩ = some (.string sb) := fun X => (BB2.out.below X.ok.out BB2.out.lt).c.2.1
          have cb2 : ∀ X : Wd (fun W => Hid (Below wr.heap.size wr W)), X.w.cell? ⟨w.heap.size + 1, 2, none⟩ = some (.string rb) := fun X => (BB2.out.below X.ok.out BB2.out.lt).c.2.2
          have hne : Nonempty (Wd (fun W => Hid (Below wr.heap.size wr W))) := ⟨⟨wr, Lib.hid (Below.refl _ _)⟩⟩
          clear hp2 hq2 hp3 hq3 hy
          by_cases h2 : p2 = q2
          · subst h2
            by_cases h3 : p3 = q3
            · subst h3
              have HY : Hid (∀ j, j < k + 1 → stepB n ra rb pre x j = true) := fun j hj => by
                by_cases e : j = k
                · subst e; rw [HST.out]; simp
                · exact hyes.out j (by omega)
              clear hyes
              go_wp2_with fail
              refine flow_all (S := (fun W => Hid (Below wr.heap.size wr W))) (by kernel_rfl) (by kernel_rfl) (Lib.hid (Below.refl _ _).drew) ?_
              repeat (go_big_quiet_step (first
                | ((with_reducible refine (D0.out _).mono ?_); rintro e W ⟨rfl, hb⟩; exact ⟨rfl, Wd.on (Wd.ok _) hb⟩)
                | ((with_reducible refine (D1.out _).mono ?_); rintro e W ⟨rfl, hb⟩; exact ⟨rfl, Wd.on (Wd.ok _) hb⟩)
                | ((with_reducible refine (D2.out _).mono ?_); rintro e W ⟨rfl, hb⟩; exact ⟨rfl, Wd.on (Wd.ok _) hb⟩)
                | ((with_reducible refine (D3.out _).mono ?_); rintro e W ⟨rfl, hb⟩; exact ⟨rfl, Wd.on (Wd.ok _) hb⟩)))
              refine wpQuiet_nil ?_
              rintro _ ⟨X, rfl⟩
              have R := Lib.hid (HX.out.trans (X.ok.out.mono HX.out.size))
              clear ca0 ca1 ca2 cb0 cb1 cb2 hne
              go_wp2
              go_roundw
              case rel => exact ⟨k + 1, by omega, by go_num, HY, R.out⟩
              case measure => simp [intOf]; omega
            · have e3 : (p3 == q3) = false := by simpa using h3
              have HF : Hid (placedB n sa ra sb rb pre x = false) := by rw [Hid, HP3.out]; exact all_not hki (by rw [HST.out, e3, Bool.and_false])
              clear h3 hyes
              go_wp2_with fail
              refine flow_all (S := (fun W => Hid (Below wr.heap.size wr W))) (by kernel_rfl) (by kernel_rfl) (Lib.hid (Below.refl _ _).drew) ?_
              repeat (go_big_quiet_step (first
                | ((with_reducible refine (D0.out _).mono ?_); rintro e W ⟨rfl, hb⟩; exact ⟨rfl, Wd.on (Wd.ok _) hb⟩)
                | ((with_reducible refine (D1.out _).mono ?_); rintro e W ⟨rfl, hb⟩; exact ⟨rfl, Wd.on (Wd.ok _) hb⟩)
                | ((with_reducible refine (D2.out _).mono ?_); rintro e W ⟨rfl, hb⟩; exact ⟨rfl, Wd.on (Wd.ok _) hb⟩)
                | ((with_reducible refine (D3.out _).mono ?_); rintro e W ⟨rfl, hb⟩; exact ⟨rfl, Wd.on (Wd.ok _) hb⟩)))
              refine wpQuiet_nil ?_
              rintro _ ⟨X, rfl⟩
              have R := Lib.hid (AX.out.trans (X.ok.out.mono AX.out.size))
              clear ca0 ca1 ca2 cb0 cb1 cb2 hne
              go_wp2
              go_ret
              exact ⟨by rw [HF.out]; rfl, R.out⟩
          · have e2 : (p2 == q2) = false := by simpa using h2
            have HF : Hid (placedB n sa ra sb rb pre x = false) := by rw [Hid, HP3.out]; exact all_not hki (by rw [HST.out, e2, Bool.false_and])
            clear h2 hyes
            go_wp2_with fail
            refine flow_all (S := (fun W => Hid (Below wr.heap.size wr W))) (by kernel_rfl) (by kernel_rfl) (Lib.hid (Below.refl _ _).drew) ?_
            repeat (go_big_quiet_step (first
              | ((with_reducible refine (D0.out _).mono ?_); rintro e W ⟨rfl, hb⟩; exact ⟨rfl, Wd.on (Wd.ok _) hb⟩)
              | ((with_reducible refine (D1.out _).mono ?_); rintro e W ⟨rfl, hb⟩; exact ⟨rfl, Wd.on (Wd.ok _) hb⟩)))
            refine wpQuiet_nil ?_
            rintro _ ⟨X, rfl⟩
            have R := Lib.hid (AX.out.trans (X.ok.out.mono AX.out.size))
            clear ca0 ca1 ca2 cb0 cb1 cb2 hne
            go_wp2
            go_ret
            exact ⟨by rw [HF.out]; rfl, R.out⟩
        · obtain rfl : i = k := by omega
          have HT : Hid (placedB n sa ra sb rb pre x = true) := by rw [Hid, HP3.out]; exact all_upto hyes.out
          clear hyes
          go_wp2
          go_ret
          exact ⟨by rw [HT.out]; rfl, AX.out⟩
    · have e1 : (p1 == q1) = false := by simpa using h1
      have HF : Hid (placedB n sa ra sb rb pre x = false) := by rw [Hid, HP2.out, e1]; rfl
      clear h1
      refine flow_all (S := (fun W => Hid (Below W2.heap.size W2 W))) (by kernel_rfl) (by kernel_rfl) (Lib.hid (Below.refl _ _).drew) ?_
      repeat (go_big_quiet_step (first
        | ((with_reducible refine (C0.out _).mono ?_); rintro e W ⟨rfl, hb⟩; exact ⟨rfl, Wd.on (Wd.ok _) hb⟩)
        | ((with_reducible refine (C1.out _).mono ?_); rintro e W ⟨rfl, hb⟩; exact ⟨rfl, Wd.on (Wd.ok _) hb⟩)
        | ((with_reducible refine (C2.out _).mono ?_); rintro e W ⟨rfl, hb⟩; exact ⟨rfl, Wd.on (Wd.ok _) hb⟩)
        | ((with_reducible refine (C3.out _).mono ?_); rintro e W ⟨rfl, hb⟩; exact ⟨rfl, Wd.on (Wd.ok _) hb⟩)))
      refine wpQuiet_nil ?_
      rintro _ ⟨X, rfl⟩
      have AX := Lib.hid (AW.out.trans (X.ok.out.mono AW.out.size))
      clear ca0 ca1 ca2 cb0 cb1 cb2 hne
      go_wp2
      go_ret
      exact ⟨by rw [HF.out]; rfl, AX.out⟩
  · have e0 : (p0 == q0) = false := by simpa using h0
    have HF : Hid (placedB n sa ra sb rb pre x = false) := by rw [Hid, HP.out, e0]; rfl
    clear h0
    refine flow_all (S := (fun W => Hid (Below W2.heap.size W2 W))) (by kernel_rfl) (by kernel_rfl) (Lib.hid (Below.refl _ _).drew) ?_
    repeat (go_big_quiet_step (first
      | ((with_reducible refine (C0.out _).mono ?_); rintro e W ⟨rfl, hb⟩; exact ⟨rfl, Wd.on (Wd.ok _) hb⟩)
      | ((with_reducible refine (C1.out _).mono ?_); rintro e W ⟨rfl, hb⟩; exact ⟨rfl, Wd.on (Wd.ok _) hb⟩)))
    refine wpQuiet_nil ?_
    rintro _ ⟨X, rfl⟩
    have AX := Lib.hid (AW.out.trans (X.ok.out.mono AW.out.size))
    clear ca0 ca1 ca2 cb0 cb1 cb2 hne
    go_wp2
    go_ret
    exact ⟨by rw [HF.out]; rfl, AX.out⟩
end Go.Proofs.YtpcnoiigbmiejaaDoor.fits

/- The reference's way to see whether an element may stand behind others, and what a first element does: plain words. -/
namespace Go.Proofs.YtpcnoiigbmiejaaDoor.fits
set_option linter.unusedVariables false
set_option linter.unusedSimpArgs false
open Go.Proofs.YtpcnoiigbmiejaaDoor.base Go.Proofs.YtpcnoiigbmiejaaDoor.ord

/-- the element at i of those that more ends with x is to x as i is to the last place -/
def stepF (n : Nat) (ra rb : ByteArray) (more : List Nat) (x m i : Nat) : Bool :=
  ((more.getD i 0 == x) == (i == m)) && ((bitAt ra (more.getD i 0 * n + x) == bitAt rb (i * n + m)) && (bitAt ra (x * n + more.getD i 0) == bitAt rb (m * n + i)))
def fitsB (n : Nat) (sa ra sb rb : ByteArray) (more : List Nat) (x m : Nat) : Bool := (bitAt sa x == bitAt sb m) && (List.range (m + 1)).all (stepF n ra rb more x m)

theorem all_and {α : Type} (l : List α) (p q : α → Bool) : l.all (fun x => p x && q x) = (l.all p && l.all q) := by
  induction l with
  | nil => rfl
  | cons a l ih => simp only [List.all_cons, ih]; cases p a <;> cases q a <;> cases l.all p <;> simp
theorem all_congr {α : Type} {l : List α} {p q : α → Bool} (h : ∀ a, a ∈ l → p a = q a) : l.all p = l.all q := by
  rw [Bool.eq_iff_iff, List.all_eq_true, List.all_eq_true]
  exact ⟨fun k a ha => by rw [← h a ha]; exact k a ha, fun k a ha => by rw [h a ha]; exact k a ha⟩
theorem contains_range (pre : List Nat) (x : Nat) : (List.range pre.length).all (fun i => !(pre.getD i 0 == x)) = !pre.contains x := by
  rw [Bool.eq_iff_iff, List.all_eq_true, Bool.not_eq_true', ← Bool.not_eq_true, List.contains_iff_mem]
  constructor
  · intro h hx
    obtain ⟨i, hi, e⟩ := List.getElem_of_mem hx
    have := h i (List.mem_range.2 hi)
    rw [List.getD_eq_getElem?_getD, List.getElem?_eq_getElem hi] at this
    simp [e] at this
  · intro h i hi
    have hi := List.mem_range.1 hi
    rw [List.getD_eq_getElem?_getD, List.getElem?_eq_getElem hi]
    simp only [Option.getD_some, Bool.not_eq_true', beq_eq_false_iff_ne]
    exact fun e => h (by rw [← e]; exact List.getElem_mem hi)
theorem fitsB_ok (n : Nat) (sa ra sb rb : ByteArray) (pre : List Nat) (x : Nat) : fitsB n sa ra sb rb (pre ++ [x]) x pre.length = okB n sa ra sb rb pre x := by
  unfold fitsB okB placedB
  have h1 : (List.range (pre.length + 1)).all (stepF n ra rb (pre ++ [x]) x pre.length) = ((bitAt ra (x * n + x) == bitAt rb (pre.length * n + pre.length)) && (!pre.contains x && (List.range pre.length).all (stepB n ra rb pre x))) := by
    rw [List.range_succ, List.all_append, ← contains_range, ← all_and]
    have hl : [pre.length].all (stepF n ra rb (pre ++ [x]) x pre.length) = (bitAt ra (x * n + x) == bitAt rb (pre.length * n + pre.length)) := by
      simp [stepF]
    rw [hl, Bool.and_comm]
    congr 1
    refine all_congr fun i hi => ?_
    have hi := List.mem_range.1 hi
    have hg : (pre ++ [x]).getD i 0 = pre.getD i 0 := by simp [List.getD_eq_getElem?_getD, List.getElem?_append_left hi]
    have he : (i == pre.length) = false := by simpa using Nat.ne_of_lt hi
    unfold stepF stepB
    rw [hg, he]
    cases (pre.getD i 0 == x) <;> simp [Bool.and_comm]
  rw [h1]
  cases (bitAt sa x == bitAt sb pre.length) <;> cases (bitAt ra (x * n + x) == bitAt rb (pre.length * n + pre.length)) <;> cases pre.contains x <;> simp

/-- a first element fits if the bits are alike -/
theorem okB_zero (n : Nat) (sa ra sb rb : ByteArray) : okB n sa ra sb rb [] 0 = ((bitAt sa 0 == bitAt sb 0) && (bitAt ra 0 == bitAt rb 0)) := by
  simp [okB, placedB]
end Go.Proofs.YtpcnoiigbmiejaaDoor.fits

/- Orders that fit are isomorphisms: they turn round and are put behind one another. No program in sight. -/
namespace Go.Proofs.YtpcnoiigbmiejaaDoor.fits
set_option linter.unusedVariables false
set_option linter.unusedSimpArgs false
open Go.Proofs.YtpcnoiigbmiejaaDoor.base Go.Proofs.YtpcnoiigbmiejaaDoor.ord

/-- o turns the first structure into the second one -/
structure Iso (n : Nat) (sa ra sb rb : ByteArray) (o : List Nat) : Prop where
  len : o.length = n
  lt : ∀ i, i < n → o.getD i 0 < n
  inj : ∀ i j, i < n → j < n → o.getD i 0 = o.getD j 0 → i = j
  s : ∀ i, i < n → bitAt sa (o.getD i 0) = bitAt sb i
  r : ∀ i j, i < n → j < n → bitAt ra (o.getD i 0 * n + o.getD j 0) = bitAt rb (i * n + j)

theorem okB_iff {n : Nat} {sa ra sb rb : ByteArray} {pre : List Nat} {x : Nat} : okB n sa ra sb rb pre x = true ↔ (∀ k, k < pre.length → pre.getD k 0 ≠ x) ∧ bitAt sa x = bitAt sb pre.length ∧ bitAt ra (x * n + x) = bitAt rb (pre.length * n + pre.length) ∧
    ∀ k, k < pre.length → bitAt ra (x * n + pre.getD k 0) = bitAt rb (pre.length * n + k) ∧ bitAt ra (pre.getD k 0 * n + x) = bitAt rb (k * n + pre.length) := by
  unfold okB placedB
  rw [← contains_range]
  simp only [Bool.and_eq_true, List.all_eq_true, List.mem_range, stepB, beq_iff_eq, Bool.not_eq_true', beq_eq_false_iff_ne, ne_eq]
theorem getD_take {l : List Nat} {i k : Nat} (h : k < i) : (l.take i).getD k 0 = l.getD k 0 := by
  simp [List.getD_eq_getElem?_getD, List.getElem?_take, h]
theorem mem_iso {n : Nat} {sa ra sb rb : ByteArray} {o : List Nat} : o ∈ ords n (okB n sa ra sb rb) n [] ↔ Iso n sa ra sb rb o := by
  rw [mem_ords]
  constructor
  · rintro ⟨l, e, hl, h⟩
    rw [List.nil_append] at e
    subst e
    have hk : ∀ i, i < n → o.getD i 0 < n ∧ (∀ k, k < i → o.getD k 0 ≠ o.getD i 0) ∧ bitAt sa (o.getD i 0) = bitAt sb i ∧ bitAt ra (o.getD i 0 * n + o.getD i 0) = bitAt rb (i * n + i) ∧
        ∀ k, k < i → bitAt ra (o.getD i 0 * n + o.getD k 0) = bitAt rb (i * n + k) ∧ bitAt ra (o.getD k 0 * n + o.getD i 0) = bitAt rb (k * n + i) := by
      intro i hi
      have h1 := (h i hi).1
      have h2 := okB_iff.1 (h i hi).2
      have hlen : ([] ++ o.take i).length = i := by simp; omega
      rw [hlen] at h2
      rw [List.nil_append] at h2
      refine ⟨h1, fun k hki => ?_, h2.2.1, h2.2.2.1, fun k hki => ?_⟩
      · have := h2.1 k hki; rw [getD_take hki] at this; exact this
      · have := h2.2.2.2 k hki; rw [getD_take hki] at this; exact this
    refine ⟨hl, fun i hi => (hk i hi).1, fun i j hi hj e => ?_, fun i hi => (hk i hi).2.2.1, fun i j hi hj => ?_⟩
    · rcases Nat.lt_trichotomy i j with h | h | h
      · exact absurd e ((hk j hj).2.1 i h)
      · exact h
      · exact absurd e.symm ((hk i hi).2.1 j h)
    · rcases Nat.lt_trichotomy i j with h | h | h
      · exact ((hk j hj).2.2.2.2 i h).2
      · subst h; exact (hk i hi).2.2.2.1
      · exact ((hk i hi).2.2.2.2 j h).1
  · intro h
    refine ⟨o, rfl, h.len, fun i hi => ⟨h.lt i hi, okB_iff.2 ?_⟩⟩
    have hlen : ([] ++ o.take i).length = i := by have := h.len; simp; omega
    rw [hlen, List.nil_append]
    refine ⟨fun k hk e => ?_, h.s i hi, h.r i i hi hi, fun k hk => ?_⟩
    · rw [getD_take hk] at e
      have := h.inj k i (by omega) hi e; omega
    · rw [getD_take hk]; exact ⟨h.r i k hi (by omega), h.r k i (by omega) hi⟩

/-- every place is taken -/
theorem Iso.onto {n : Nat} {sa ra sb rb : ByteArray} {o : List Nat} (h : Iso n sa ra sb rb o) {y : Nat} (hy : y < n) : ∃ i, i < n ∧ o.getD i 0 = y := by
  have hmem : y ∈ o := by
    refine Classical.byContradiction fun hn => ?_
    have hnd : (y :: o).Nodup := by
      refine List.nodup_cons.2 ⟨hn, ?_⟩
      rw [List.nodup_iff_pairwise_ne, List.pairwise_iff_getElem]
      intro i j hi hj hij e
      have := h.inj i j (by have := h.len; omega) (by have := h.len; omega) (by rw [List.getD_eq_getElem?_getD, List.getD_eq_getElem?_getD, List.getElem?_eq_getElem hi, List.getElem?_eq_getElem hj]; simp [e])
      omega
    have hl := hnd.length_le_of_subset (l₂ := List.range n) (fun z hz => by
      rcases List.mem_cons.1 hz with rfl | hz
      · exact List.mem_range.2 hy
      · obtain ⟨i, hi, rfl⟩ := List.getElem_of_mem hz
        have := h.lt i (by have := h.len; omega)
        rw [List.getD_eq_getElem?_getD, List.getElem?_eq_getElem hi] at this
        exact List.mem_range.2 this)
    have := h.len
    simp at hl; omega
  obtain ⟨i, hi, e⟩ := List.getElem_of_mem hmem
  exact ⟨i, by have := h.len; omega, by rw [List.getD_eq_getElem?_getD, List.getElem?_eq_getElem hi]; exact e⟩
/-- what stands at a place of a list that is written by a function -/
theorem getD_map_range {n i : Nat} (f : Nat → Nat) (h : i < n) : ((List.range n).map f).getD i 0 = f i := by
  simp [List.getD_eq_getElem?_getD, h]
theorem Iso.of_fun {n : Nat} {sa ra sb rb : ByteArray} (f : Nat → Nat) (lt : ∀ i, i < n → f i < n) (inj : ∀ i j, i < n → j < n → f i = f j → i = j) (s : ∀ i, i < n → bitAt sa (f i) = bitAt sb i)
    (r : ∀ i j, i < n → j < n → bitAt ra (f i * n + f j) = bitAt rb (i * n + j)) : Iso n sa ra sb rb ((List.range n).map f) := by
  refine ⟨by simp, fun i hi => by rw [getD_map_range f hi]; exact lt i hi, fun i j hi hj e => ?_, fun i hi => by rw [getD_map_range f hi]; exact s i hi, fun i j hi hj => by rw [getD_map_range f hi, getD_map_range f hj]; exact r i j hi hj⟩
  rw [getD_map_range f hi, getD_map_range f hj] at e
  exact inj i j hi hj e
theorem Iso.refl (n : Nat) (s r : ByteArray) : Iso n s r s r ((List.range n).map id) :=
  Iso.of_fun id (fun _ h => h) (fun _ _ _ _ h => h) (fun _ _ => rfl) (fun _ _ _ _ => rfl)
/-- the other way round -/
theorem Iso.symm {n : Nat} {sa ra sb rb : ByteArray} {o : List Nat} (h : Iso n sa ra sb rb o) : ∃ f : Nat → Nat, (∀ i, i < n → f i < n ∧ o.getD (f i) 0 = i) ∧ Iso n sb rb sa ra ((List.range n).map f) := by
  have hf : ∀ y, ∃ i, y < n → i < n ∧ o.getD i 0 = y := fun y => by
    by_cases hy : y < n
    · obtain ⟨i, h1, h2⟩ := h.onto hy; exact ⟨i, fun _ => ⟨h1, h2⟩⟩
    · exact ⟨0, fun h => absurd h hy⟩
  obtain ⟨f, hf⟩ := Classical.axiomOfChoice hf
  refine ⟨f, hf, Iso.of_fun f (fun i hi => (hf i hi).1) (fun i j hi hj e => ?_) (fun i hi => ?_) (fun i j hi hj => ?_)⟩
  · rw [← (hf i hi).2, ← (hf j hj).2, e]
  · rw [← h.s (f i) (hf i hi).1, (hf i hi).2]
  · rw [← h.r (f i) (f j) (hf i hi).1 (hf j hj).1, (hf i hi).2, (hf j hj).2]
/-- one after the other -/
theorem Iso.trans {n : Nat} {sa ra sb rb sc rc : ByteArray} {o p : List Nat} (h : Iso n sa ra sb rb o) (k : Iso n sb rb sc rc p) : Iso n sa ra sc rc ((List.range n).map fun i => o.getD (p.getD i 0) 0) :=
  Iso.of_fun _ (fun i hi => h.lt _ (k.lt i hi)) (fun i j hi hj e => k.inj i j hi hj (h.inj _ _ (k.lt i hi) (k.lt j hj) e)) (fun i hi => by rw [h.s _ (k.lt i hi), k.s i hi]) (fun i j hi hj => by rw [h.r _ _ (k.lt i hi) (k.lt j hj), k.r i j hi hj])
/-- those that begin with the middle -/
def Twin (n : Nat) (sa ra sb rb : ByteArray) : Prop := ∃ o, Iso n sa ra sb rb o ∧ o.getD 0 0 = 0
theorem Twin.refl {n : Nat} (s r : ByteArray) (hn : 1 ≤ n) : Twin n s r s r := ⟨_, Iso.refl n s r, by rw [getD_map_range id (by omega)]; rfl⟩
theorem Twin.symm {n : Nat} {sa ra sb rb : ByteArray} (hn : 1 ≤ n) (h : Twin n sa ra sb rb) : Twin n sb rb sa ra := by
  obtain ⟨o, h, h0⟩ := h
  obtain ⟨f, hf, k⟩ := h.symm
  refine ⟨_, k, ?_⟩
  rw [getD_map_range f (by omega)]
  exact h.inj _ _ (hf 0 (by omega)).1 (by omega) ((hf 0 (by omega)).2.trans h0.symm)
theorem Twin.trans {n : Nat} {sa ra sb rb sc rc : ByteArray} (hn : 1 ≤ n) (h : Twin n sa ra sb rb) (k : Twin n sb rb sc rc) : Twin n sa ra sc rc := by
  obtain ⟨o, h, h0⟩ := h
  obtain ⟨p, k, k0⟩ := k
  exact ⟨_, h.trans k, by rw [getD_map_range _ (by omega), k0, h0]⟩
/-- the first order begins with the middle exactly if some order does -/
theorem head_twin {n : Nat} {sa ra sb rb : ByteArray} (hn : 1 ≤ n) : (ords n (okB n sa ra sb rb) n []).head?.any (fun o => o.getD 0 0 == 0) = true ↔ Twin n sa ra sb rb := by
  obtain ⟨d, rfl⟩ := Nat.exists_eq_add_of_le hn
  rw [Nat.add_comm 1 d, head_zero (by omega), Bool.and_eq_true]
  constructor
  · rintro ⟨h1, h2⟩
    cases hl : ords (d + 1) (okB (d + 1) sa ra sb rb) d [0] with
    | nil => rw [hl] at h2; cases h2
    | cons o L =>
      have hm : o ∈ ords (d + 1) (okB (d + 1) sa ra sb rb) d [0] := by rw [hl]; exact List.mem_cons_self
      refine ⟨o, mem_iso.1 (List.mem_flatMap.2 ⟨0, List.mem_range.2 (by omega), by rw [if_pos h1]; exact hm⟩), ?_⟩
      obtain ⟨l, rfl, _⟩ := mem_ords.1 hm
      simp
  · rintro ⟨o, h, h0⟩
    obtain ⟨x, hx, hm⟩ := List.mem_flatMap.1 (mem_iso.2 h)
    split at hm
    · rename_i hok
      have hx0 : x = 0 := by
        obtain ⟨l, rfl, _⟩ := mem_ords.1 hm
        simpa using h0
      subst hx0
      refine ⟨hok, ?_⟩
      cases hl : ords (d + 1) (okB (d + 1) sa ra sb rb) d [0] with
      | nil => rw [List.nil_append, hl] at hm; cases hm
      | cons o L => rfl
    · cases hm
end Go.Proofs.YtpcnoiigbmiejaaDoor.fits
