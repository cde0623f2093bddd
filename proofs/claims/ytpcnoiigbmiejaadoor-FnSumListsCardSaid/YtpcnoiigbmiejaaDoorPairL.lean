/- PairLists and what it leans on: lists of elements, in the program and in the reference. -/
import Derived.Test.YtpcnoiigbmiejaaDoorRows
import Derived.Test.YtpcnoiigbmiejaaDoorSl
import Derived.Test.YtpcnoiigbmiejaaDoorBase
import Derived.Test.YtpcnoiigbmiejaaDoorMake
import Derived.Test.YtpcnoiigbmiejaaDoorFlow
import Derived.Test.YtpcnoiigbmiejaaDoorProd
import Derived.Test.YtpcnoiigbmiejaaDoorNear
namespace Go.Proofs.YtpcnoiigbmiejaaDoor.pairL
set_option linter.unusedVariables false
set_option linter.unusedSimpArgs false
open Go.ChangeShapes Go.WideShapes Go.ChangeAt Go.RowKit
open Go.Proofs.YtpcnoiigbmiejaaDoor.lib Go.Proofs.YtpcnoiigbmiejaaDoor.st Go.Proofs.YtpcnoiigbmiejaaDoor.base Go.Proofs.YtpcnoiigbmiejaaDoor.make Go.Proofs.YtpcnoiigbmiejaaDoor.flow Go.Proofs.YtpcnoiigbmiejaaDoor.prod Go.Proofs.YtpcnoiigbmiejaaDoor.basic Go.Proofs.YtpcnoiigbmiejaaDoor.near

def elIn (n x : Int) : Bool := decide (0 ≤ x ∧ x < n)
def okL (n : Int) (s r : ByteArray) (l : List Int) : Bool := validB n s r && (decide (l.length ≤ 4) && l.all (elIn n))
def okLs (n : Int) (s r : ByteArray) (la : List Int) (m : Int) (t q : ByteArray) (lb : List Int) : Bool := okL n s r la && (okL m t q lb && decide (la.length = lb.length))

theorem any_take_succ (p : Int → Bool) (l : List Int) (k : Nat) (h : k < l.length) : (l.take (k + 1)).any p = ((l.take k).any p || p (l.getD k 0)) := by
  rw [List.take_succ_eq_append_getElem h, List.any_append]
  simp [List.getD_eq_getElem?_getD, List.getElem?_eq_getElem h]
theorem all_take_succ (p : Int → Bool) (l : List Int) (k : Nat) (h : k < l.length) : (l.take (k + 1)).all p = ((l.take k).all p && p (l.getD k 0)) := by
  rw [List.take_succ_eq_append_getElem h, List.all_append]
  simp [List.getD_eq_getElem?_getD, List.getElem?_eq_getElem h]
theorem all_take_false (p : Int → Bool) (l : List Int) (k : Nat) (h : k < l.length) (hp : p (l.getD k 0) = false) : l.all p = false := by
  rw [List.all_eq_false]
  refine ⟨l.getD k 0, ?_, by rw [hp]; exact Bool.false_ne_true⟩
  rw [List.getD_eq_getElem?_getD, List.getElem?_eq_getElem h]
  exact List.getElem_mem h
theorem any_take_true (p : Int → Bool) (l : List Int) (k : Nat) (h : k < l.length) (hp : p (l.getD k 0) = true) : l.any p = true := by
  rw [List.any_eq_true]
  refine ⟨l.getD k 0, ?_, hp⟩
  rw [List.getD_eq_getElem?_getD, List.getElem?_eq_getElem h]
  exact List.getElem_mem h

/-- the library's search with a test: what matters of it is its sign -/
theorem indexFunc_core (ao : Option Addr) (cap : Nat) (l : List Int) (f : FuncId) (cs : Array Value) (p : Int → Bool) (w : World) (ef : make.Enters f) (hn : l.length ≤ 17592186044416)
    (hr : l = [] ∨ ∃ b off, ao = some ⟨b, off, none⟩ ∧ ∀ i, i < l.length → w.cell? ⟨b, off + i, none⟩ = some (.int .i64 (l.getD i 0)))
    (hf : ∀ W, Below w.heap.size w W → ∀ x : Int, x ∈ l → Calls Tryd.prog f (#[.int .i64 x] ++ cs) W fun e W' => e = .returned (.bool (p x)) ∧ Below W.heap.size W W') :
    Calls Tryd.prog 131 #[.slice ao l.length cap, .func (.func f) #[] cs] w fun e w' => ∃ i : Int, e = .returned (.int .i64 i) ∧ decide (0 ≤ i) = l.any p ∧ Below w.heap.size w w' := by
  unfold make.Enters at ef
  obtain ⟨n, hnl⟩ : ∃ n, n = l.length := ⟨_, rfl⟩
  rw [← hnl] at hn ⊢
  have HN : Hid (n = l.length) := hnl
  have HR := Lib.hid hr
  have HF := Lib.hid hf
  clear hr hnl hf
  go_enter Tryd.func131, Tryd.ntmps131
  go_wp2
  go_loopw [8] (fun i wr => ∃ k : Nat, k ≤ n ∧ i = .int .i64 k ∧ (l.take k).any p = false ∧ Below w.heap.size w wr) (fun i _ => n - (intOf i).toNat)
  case atStart => exact ⟨0, Nat.zero_le _, rfl, rfl, Below.refl _ _⟩
  case round =>
    obtain ⟨k, hk, rfl, hany, hnx⟩ := hrel
    have HA := Lib.hid hany
    have HX := Lib.hid hnx
    clear hany hnx
    by_cases hlt : k < n
    · have hr' : ∃ b off, ao = some ⟨b, off, none⟩ ∧ ∀ i, i < l.length → w.cell? ⟨b, off + i, none⟩ = some (.int .i64 (l.getD i 0)) := by
        rcases HR.out with h | h
        · have := HN.out; rw [h] at this; simp at this; omega
        · exact h
      obtain ⟨b, off, rfl, hc⟩ := hr'
      have hkl : k < l.length := by have := HN.out; omega
      have hcell : wr.cell? ⟨b, off + k, none⟩ = some (.int .i64 (l.getD k 0)) := by
        have hx := hc k hkl
        have hltb := World.block_lt_of_cell? w _ hx
        rw [HX.out.cell (p := ⟨b, off + k, none⟩) hltb]; exact hx
      have hmem : l.getD k 0 ∈ l := by
        rw [List.getD_eq_getElem?_getD, List.getElem?_eq_getElem hkl]
        exact List.getElem_mem hkl
      have HT := Lib.hid (any_take_succ p l k hkl)
      have HT2 := Lib.hid (any_take_true p l k hkl)
      have HM := Lib.hid hmem
      obtain ⟨x, hx⟩ : ∃ x, x = l.getD k 0 := ⟨_, rfl⟩
      have HXX := Lib.hid hx
      rw [← hx] at hcell
      clear hc hkl hmem hx HR
      go_wp2_with fail
      with_reducible show Calls _ f _ _ _
      refine (HF.out _ HX.out x (by rw [HXX.out]; exact HM.out)).mono ?_
      rintro e w1 ⟨rfl, hw⟩
      have HX1 : Hid (Below w.heap.size w w1) := HX.out.trans (hw.mono HX.out.size)
      clear hw hcell
      cases hp : p x with
      | true =>
        have HAA : Hid (l.any p = true) := HT2.out (by rw [← HXX.out]; exact hp)
        clear hp
        go_wp2
        go_ret
        exact ⟨k, rfl, by rw [HAA.out]; simp, HX1.out⟩
      | false =>
        have HAA : Hid ((l.take (k + 1)).any p = false) := by rw [Hid, HT.out, HA.out, ← HXX.out, hp]; rfl
        clear hp
        go_wp2
        go_roundw
        case rel => exact ⟨k + 1, by omega, by go_num, HAA.out, HX1.out⟩
        case measure => simp [intOf]; omega
    · obtain rfl : k = n := by omega
      have HAA : Hid (l.any p = false) := by have h := HA.out; rw [HN.out, List.take_length] at h; exact h
      go_wp2
      go_ret
      exact ⟨-1, rfl, by rw [HAA.out]; rfl, HX.out⟩

theorem containsFunc_core (ao : Option Addr) (cap : Nat) (l : List Int) (f : FuncId) (cs : Array Value) (p : Int → Bool) (w : World) (ef : make.Enters f) (hn : l.length ≤ 17592186044416)
    (hr : l = [] ∨ ∃ b off, ao = some ⟨b, off, none⟩ ∧ ∀ i, i < l.length → w.cell? ⟨b, off + i, none⟩ = some (.int .i64 (l.getD i 0)))
    (hf : ∀ W, Below w.heap.size w W → ∀ x : Int, x ∈ l → Calls Tryd.prog f (#[.int .i64 x] ++ cs) W fun e W' => e = .returned (.bool (p x)) ∧ Below W.heap.size W W') :
    Calls Tryd.prog 167 #[.slice ao l.length cap, .func (.func f) #[] cs] w fun e w' => e = .returned (.bool (l.any p)) ∧ Below w.heap.size w w' := by
  have HC := Lib.hid (indexFunc_core ao cap l f cs p w ef hn hr hf)
  clear hn hr hf ef
  go_enter Tryd.func167, Tryd.ntmps167
  go_wp2_with fail
  refine HC.out.mono ?_
  rintro e w1 ⟨i, rfl, hi, hw⟩
  have HW := Lib.hid hw
  have HI := Lib.hid hi
  clear hw hi
  go_wp2
  go_ret
  exact ⟨by rw [← HI.out]; rfl, HW.out⟩

theorem clEl_any (n : Int) (s r : ByteArray) (x : Int) (Ha : Nat) (w : World) (ha : Box 24 w Ha n s r) :
    Calls Tryd.prog 205 #[.int .i64 x, .pointer (some ⟨Ha, 0, none⟩)] w fun e w' => e = .returned (.bool (!elIn n x)) ∧ Below w.heap.size w w' := by
  obtain ⟨a0, a1, a2⟩ := ha.c
  clear ha
  have BW : Hid (Below w.heap.size w w) := Below.refl _ _
  by_cases h1 : x < 0
  · have HE : Hid (elIn n x = false) := decide_eq_false (by omega)
    go_enter Tryd.func205, Tryd.ntmps205
    go_wp2
    go_ret
    exact ⟨by rw [HE.out]; rfl, BW.out⟩
  · by_cases h2 : x < n
    · have HE : Hid (elIn n x = true) := decide_eq_true (by omega)
      have h3 : ¬ n ≤ x := by omega
      go_enter Tryd.func205, Tryd.ntmps205
      go_wp2
      go_ret
      exact ⟨by rw [HE.out]; rfl, BW.out⟩
    · have HE : Hid (elIn n x = false) := decide_eq_false (by omega)
      have h3 : n ≤ x := by omega
      go_enter Tryd.func205, Tryd.ntmps205
      go_wp2
      go_ret
      exact ⟨by rw [HE.out]; rfl, BW.out⟩

theorem any_not (p : Int → Bool) : ∀ l : List Int, (!(l.any fun x => !p x)) = l.all p
  | [] => rfl
  | a :: l => by rw [List.any_cons, List.all_cons, ← any_not p l]; cases p a <;> simp

theorem areElements_any (n : Int) (s r : ByteArray) (v : Value) (l : List Int) (w : World) (h : Reads w v l) (hn : l.length ≤ 17592186044416) :
    Calls Tryd.prog 187 #[.agg #[.int .i64 n, .string s, .string r], v] w fun e w' => e = .returned (.bool (l.all (elIn n))) ∧ Below w.heap.size w w' := by
  have h1 : Reads (w.alloc (.cells #[.int .i64 n, .string s, .string r] 24)) v l := h.below ((Below.refl w.heap.size w).alloc (Nat.le_refl _) _) (Nat.le_refl _)
  obtain ⟨ao, ca, rfl, hr, _⟩ := h1
  have BA : Hid (Box 24 (w.alloc (.cells #[.int .i64 n, .string s, .string r] 24)) w.heap.size n s r) := Box.new 24 w w.heap.size rfl n s r
  have AW : Hid (Below w.heap.size w (w.alloc (.cells #[.int .i64 n, .string s, .string r] 24))) := (Below.refl _ _).alloc (Nat.le_refl _) _
  have HR := Lib.hid hr
  have HNN := Lib.hid hn
  clear hr h hn
  go_enter Tryd.func187, Tryd.ntmps187
  go_wp2_with fail
  refine (containsFunc_core ao ca l _ _ (fun x => !elIn n x) _ (enters_of Tryd.func205 (by kernel_rfl) rfl) HNN.out HR.out ?_).mono ?_
  · intro W hW x _
    exact clEl_any n s r x w.heap.size W (BA.out.below hW BA.out.lt)
  rintro e w1 ⟨rfl, hw⟩
  have HW := Lib.hid (AW.out.trans (hw.mono AW.out.size))
  clear hw
  go_wp2
  go_ret
  exact ⟨by rw [← any_not]; rfl, HW.out⟩

theorem isList_any (n : Int) (s r : ByteArray) (v : Value) (l : List Int) (w : World) (h : Reads w v l) (hn : l.length ≤ 17592186044416) (hs : s.size ≤ 9223372036854775807) (hr : r.size ≤ 9223372036854775807) :
    Calls Tryd.prog 145 #[.agg #[.int .i64 n, .string s, .string r], v] w fun e w' => e = .returned (.bool (okL n s r l)) ∧ Below w.heap.size w w' := by
  have h1 : Reads (w.alloc (.cells #[.int .i64 n, .string s, .string r] 24)) v l := h.below ((Below.refl w.heap.size w).alloc (Nat.le_refl _) _) (Nat.le_refl _)
  have HR1 := Lib.hid h1
  obtain ⟨ao, ca, hv⟩ := h.len
  subst hv
  have BA : Hid (Box 24 (w.alloc (.cells #[.int .i64 n, .string s, .string r] 24)) w.heap.size n s r) := Box.new 24 w w.heap.size rfl n s r
  have AW : Hid (Below w.heap.size w (w.alloc (.cells #[.int .i64 n, .string s, .string r] 24))) := (Below.refl _ _).alloc (Nat.le_refl _) _
  clear h h1
  have HZ := Lib.hid (show _ ∧ _ ∧ _ from ⟨hs, hr, hn⟩)
  clear hs hr hn
  go_enter Tryd.func145, Tryd.ntmps145
  go_wp2_with fail
  refine (isStructure_any n s r _ HZ.out.1 HZ.out.2.1).mono ?_
  rintro e w1 ⟨rfl, hw⟩
  have HX := Lib.hid hw
  clear hw
  have AW1 : Hid (Below w.heap.size w w1) := AW.out.trans (HX.out.mono AW.out.size)
  have RD1 := Lib.hid (HR1.out.below HX.out (Nat.le_refl _))
  obtain ⟨a0, a1, a2⟩ := (BA.out.below HX.out BA.out.lt).c
  cases hv : validB n s r with
  | false =>
    have HE : Hid (okL n s r l = false) := by rw [Hid, okL, hv]; rfl
    clear hv
    go_wp2
    go_ret
    exact ⟨by rw [HE.out]; rfl, AW1.out⟩
  | true =>
    have HV := Lib.hid hv
    clear hv
    by_cases h4 : l.length ≤ 4
    · go_wp2_with fail
      refine (areElements_any n s r _ l _ RD1.out HZ.out.2.2).mono ?_
      rintro e w2 ⟨rfl, hw⟩
      have HE : Hid (okL n s r l = l.all (elIn n)) := by rw [Hid, okL, HV.out, decide_eq_true h4]; rfl
      have AW2 : Hid (Below w.heap.size w w2) := AW1.out.trans (hw.mono AW1.out.size)
      clear hw
      go_wp2
      go_ret
      exact ⟨by rw [HE.out]; rfl, AW2.out⟩
    · have HE : Hid (okL n s r l = false) := by rw [Hid, okL, HV.out, decide_eq_false h4]; rfl
      go_wp2
      go_ret
      exact ⟨by rw [HE.out]; rfl, AW1.out⟩

theorem beq_len (a b : Nat) : ((a : Int) == (b : Int)) = decide (a = b) := by
  by_cases h : a = b
  · subst h; simp
  · have : ¬ (a : Int) = b := by omega
    simp [h, this]
theorem l1In_at (x lo hi : Int) (hi' : Int) (b : Bool) (h : hi = hi') (hb : inB x lo hi = b) (w : World) :
    Calls Tryd.prog 67 #[.int .i64 x, .int .i64 lo, .int .i64 hi'] w fun e w' => e = .returned (.bool b) ∧ w' = w := by
  subst h hb; exact (l1In_any x lo hi w).mono fun _ _ h => ⟨h.1, h.2.symm⟩
theorem l4_same {n z : Int} {s r : ByteArray} (hz : z = wrap64 (n - 1)) (hv : validB n s r = true) : (fun x => inB x 0 z) = elIn n := by
  have h1 := (validB_iff.1 hv).1
  have : z = n - 1 := by rw [hz, wrap64]; omega
  funext x
  unfold inB elIn
  rw [this]
  congr 1
  exact propext ⟨fun h => ⟨h.1, by omega⟩, fun h => ⟨h.1, by omega⟩⟩
theorem l4_no {n z : Int} {s r : ByteArray} {l : List Int} (hz : z = wrap64 (n - 1)) (h : l.all (fun x => inB x 0 z) = false) : okL n s r l = false := by
  unfold okL
  cases hv : validB n s r with
  | false => rfl
  | true => rw [l4_same hz hv] at h; rw [h]; simp
theorem l4_yes {n z : Int} {s r : ByteArray} {l : List Int} (hz : z = wrap64 (n - 1)) (h : l.all (fun x => inB x 0 z) = true) (hv : validB n s r = true) : okL n s r l = decide (l.length ≤ 4) := by
  unfold okL
  rw [l4_same hz hv] at h
  rw [h, hv]; simp

/-- the reference's test of a list -/
theorem l4List_any (n : Int) (s r : ByteArray) (v : Value) (l : List Int) (w : World) (h : Reads w v l) (hn : l.length ≤ 17592186044416) (hs : s.size ≤ 9223372036854775807) (hr : r.size ≤ 9223372036854775807) :
    Calls Tryd.prog 147 #[.agg #[.int .i64 n, .string s, .string r], v] w fun e w' => e = .returned (.bool (okL n s r l)) ∧ Below w.heap.size w w' := by
  have h1 : Reads (w.alloc (.cells #[.int .i64 n, .string s, .string r] 24)) v l := h.below ((Below.refl w.heap.size w).alloc (Nat.le_refl _) _) (Nat.le_refl _)
  obtain ⟨ao, ca, rfl, hrd, _⟩ := h1
  have BA : Hid (Box 24 (w.alloc (.cells #[.int .i64 n, .string s, .string r] 24)) w.heap.size n s r) := Box.new 24 w w.heap.size rfl n s r
  have AW : Hid (Below w.heap.size w (w.alloc (.cells #[.int .i64 n, .string s, .string r] 24))) := (Below.refl _ _).alloc (Nat.le_refl _) _
  obtain ⟨z, hz⟩ : ∃ z, z = wrap64 (n - 1) := ⟨_, rfl⟩
  have HZZ := Lib.hid hz
  obtain ⟨m, hm⟩ : ∃ m, m = l.length := ⟨_, rfl⟩
  rw [← hm] at hn ⊢
  have HN : Hid (m = l.length) := hm
  have HR := Lib.hid hrd
  have HZ := Lib.hid (show _ ∧ _ from ⟨hs, hr⟩)
  clear hs hr hz hm hrd h
  go_enter Tryd.func147, Tryd.ntmps147
  go_wp2
  go_loopw [5] (fun i wr => ∃ k : Nat, k ≤ m ∧ i = .int .i64 k ∧ (l.take k).all (fun x => inB x 0 z) = true ∧ Below (w.heap.size + 1) (w.alloc (.cells #[.int .i64 n, .string s, .string r] 24)) wr) (fun i _ => m - (intOf i).toNat)
  case atStart => exact ⟨0, Nat.zero_le _, rfl, rfl, Below.refl _ _⟩
  case round =>
    obtain ⟨k, hk, rfl, hall, hnx⟩ := hrel
    have HA := Lib.hid hall
    have HX := Lib.hid hnx
    clear hall hnx
    have BAX := Lib.hid (BA.out.below HX.out (by omega))
    have AX : Hid (Below w.heap.size w wr) := AW.out.trans (HX.out.mono (by omega))
    by_cases hlt : k < m
    · have hr' : ∃ b off, ao = some ⟨b, off, none⟩ ∧ ∀ i, i < l.length → (w.alloc (.cells #[.int .i64 n, .string s, .string r] 24)).cell? ⟨b, off + i, none⟩ = some (.int .i64 (l.getD i 0)) := by
        rcases HR.out with h | h
        · have := HN.out; rw [h] at this; simp at this; omega
        · exact h
      obtain ⟨b, off, rfl, hc⟩ := hr'
      have hkl : k < l.length := by have := HN.out; omega
      have hx0 := hc k hkl
      have hltb := World.block_lt_of_cell? _ _ hx0
      obtain ⟨x, hx⟩ : ∃ x, x = l.getD k 0 := ⟨_, rfl⟩
      have HXX := Lib.hid hx
      have hcell : wr.cell? ⟨b, off + k, none⟩ = some (.int .i64 x) := by
        rw [HX.out.cell (p := ⟨b, off + k, none⟩) (by simpa using hltb), hx]; exact hx0
      have hblt : Hid (b < wr.heap.size) := World.block_lt_of_cell? wr ⟨b, off + k, none⟩ hcell
      have HT := Lib.hid (all_take_succ (fun x => inB x 0 z) l k hkl)
      have HT2 := Lib.hid (all_take_false (fun x => inB x 0 z) l k hkl)
      have cx : ∀ X : Wd (fun W => Hid (Below wr.heap.size wr W)), X.w.cell? ⟨b, off + k, none⟩ = some (.int .i64 x) := fun X => by rw [X.ok.out.cell (p := ⟨b, off + k, none⟩) hblt.out]; exact hcell
      have ca0 : ∀ X : Wd (fun W => Hid (Below wr.heap.size wr W)), X.w.cell? ⟨w.heap.size, 0, none⟩ = some (.int .i64 n) := fun X => (BAX.out.below X.ok.out BAX.out.lt).c.1
      have hne : Nonempty (Wd (fun W => Hid (Below wr.heap.size wr W))) := ⟨⟨wr, Lib.hid (Below.refl _ _)⟩⟩
      clear hc hkl hx HR hx0 hltb hcell
      cases hp : inB x 0 z with
      | false =>
        have HP := Lib.hid hp
        have HAA : Hid (l.all (fun x => inB x 0 z) = false) := HT2.out (by rw [← HXX.out]; exact hp)
        clear hp
        go_wp2_with fail
        refine flow_all (S := (fun W => Hid (Below wr.heap.size wr W))) (by kernel_rfl) (by kernel_rfl) (Lib.hid (Below.refl _ _).drew) ?_
        repeat (go_big_quiet_step (first | (go_at_call 67; with_reducible refine (l1In_at x 0 z _ false HZZ.out HP.out _).mono ?_; rintro e W ⟨rfl, rfl⟩; exact ⟨rfl, _, rfl⟩)))
        refine wpQuiet_nil ?_
        rintro _ ⟨X, rfl⟩
        have HXX := Lib.hid X.ok.out
        go_wp2
        go_ret
        exact ⟨by rw [l4_no HZZ.out HAA.out]; rfl, AX.out.trans (HXX.out.mono AX.out.size)⟩
      | true =>
        have HP := Lib.hid hp
        have HAA : Hid ((l.take (k + 1)).all (fun x => inB x 0 z) = true) := by rw [Hid, HT.out, HA.out, ← HXX.out, hp]; rfl
        clear hp
        go_wp2_with fail
        refine flow_all (S := (fun W => Hid (Below wr.heap.size wr W))) (by kernel_rfl) (by kernel_rfl) (Lib.hid (Below.refl _ _).drew) ?_
        repeat (go_big_quiet_step (first | (go_at_call 67; with_reducible refine (l1In_at x 0 z _ true HZZ.out HP.out _).mono ?_; rintro e W ⟨rfl, rfl⟩; exact ⟨rfl, _, rfl⟩)))
        refine wpQuiet_nil ?_
        rintro _ ⟨X, rfl⟩
        have HXX := Lib.hid X.ok.out
        have R : Hid (Below (w.heap.size + 1) (w.alloc (.cells #[.int .i64 n, .string s, .string r] 24)) X.w) := HX.out.trans (HXX.out.mono (by have := HX.out.size; simpa using this))
        go_wp2
        go_roundw
        case rel => exact ⟨k + 1, by omega, by go_num, HAA.out, R.out⟩
        case measure => simp [intOf]; omega
    · obtain rfl : k = m := by omega
      have HAA : Hid (l.all (fun x => inB x 0 z) = true) := by have h := HA.out; rw [HN.out, List.take_length] at h; exact h
      obtain ⟨a0, a1, a2⟩ := BAX.out.c
      go_wp2_with fail
      refine (StructureValid_any n s r _ HZ.out.1 HZ.out.2).mono ?_
      rintro e w1 ⟨rfl, hw⟩
      have AX1 := Lib.hid (AX.out.trans (hw.mono AX.out.size))
      clear hw
      cases hv : validB n s r with
      | false =>
        have HE : Hid (okL n s r l = false) := by rw [Hid, okL, hv]; rfl
        clear hv
        go_wp2
        go_ret
        exact ⟨by rw [HE.out]; rfl, AX1.out⟩
      | true =>
        have HE0 := Lib.hid (l4_yes HZZ.out HAA.out hv)
        clear hv
        by_cases h4 : k ≤ 4
        · have HE : Hid (okL n s r l = true) := by rw [Hid, HE0.out, ← HN.out, decide_eq_true h4]
          have h5 : (k : Int) ≤ 4 := by omega
          go_wp2
          go_ret
          exact ⟨by rw [HE.out]; rfl, AX1.out⟩
        · have HE : Hid (okL n s r l = false) := by rw [Hid, HE0.out, ← HN.out, decide_eq_false h4]
          have h5 : ¬ (k : Int) ≤ 4 := by omega
          go_wp2
          go_ret
          exact ⟨by rw [HE.out]; exact congrArg (fun b => Ending.returned (.bool b)) (decide_eq_false (by omega)), AX1.out⟩

theorem areLists_any (n : Int) (s r : ByteArray) (va : Value) (la : List Int) (m : Int) (t q : ByteArray) (vb : Value) (lb : List Int) (w : World) (ha : Reads w va la) (hb : Reads w vb lb) (hla : la.length ≤ 17592186044416) (hlb : lb.length ≤ 17592186044416)
    (hs : s.size ≤ 9223372036854775807) (hr : r.size ≤ 9223372036854775807) (ht : t.size ≤ 9223372036854775807) (hq : q.size ≤ 9223372036854775807) :
    Calls Tryd.prog 107 #[.agg #[.int .i64 n, .string s, .string r], va, .agg #[.int .i64 m, .string t, .string q], vb] w fun e w' => e = .returned (.bool (okLs n s r la m t q lb)) ∧ Below w.heap.size w w' := by
  have BB : Hid (Box 24 ((w.alloc (.cells #[.int .i64 n, .string s, .string r] 24)).alloc (.cells #[.int .i64 m, .string t, .string q] 24)) (w.heap.size + 1) m t q) := Box.new 24 _ (w.heap.size + 1) (by simp) m t q
  have AW : Hid (Below w.heap.size w ((w.alloc (.cells #[.int .i64 n, .string s, .string r] 24)).alloc (.cells #[.int .i64 m, .string t, .string q] 24))) := ((Below.refl _ _).alloc (Nat.le_refl _) _).alloc (by simp) _
  have RA := Lib.hid (ha.below AW.out (Nat.le_refl _))
  have RB := Lib.hid (hb.below AW.out (Nat.le_refl _))
  obtain ⟨ao, ca, hva⟩ := ha.len
  obtain ⟨bo, cb, hvb⟩ := hb.len
  subst hva hvb
  have HL := Lib.hid (show _ ∧ _ from ⟨hla, hlb⟩)
  have HZ := Lib.hid (show _ ∧ _ ∧ _ ∧ _ from ⟨hs, hr, ht, hq⟩)
  clear ha hb hla hlb hs hr ht hq
  go_enter Tryd.func107, Tryd.ntmps107
  go_wp2_with fail
  refine (isList_any n s r _ la _ RA.out HL.out.1 HZ.out.1 HZ.out.2.1).mono ?_
  rintro e w1 ⟨rfl, hw⟩
  have HX := Lib.hid hw
  clear hw
  have AK1 : Hid (Below w.heap.size w w1) := AW.out.trans (HX.out.mono AW.out.size)
  have RB1 := Lib.hid (RB.out.below HX.out (Nat.le_refl _))
  obtain ⟨b0, b1, b2⟩ := (BB.out.below HX.out BB.out.lt).c
  cases hv : okL n s r la with
  | false =>
    have HE : Hid (okLs n s r la m t q lb = false) := by rw [Hid, okLs, hv]; rfl
    clear hv
    go_wp2
    go_ret
    exact ⟨by rw [HE.out]; rfl, AK1.out⟩
  | true =>
    have HV := Lib.hid hv
    clear hv
    go_wp2_with fail
    refine (isList_any m t q _ lb _ RB1.out HL.out.2 HZ.out.2.2.1 HZ.out.2.2.2).mono ?_
    rintro e w2 ⟨rfl, hw⟩
    have AK2 : Hid (Below w.heap.size w w2) := AK1.out.trans (hw.mono AK1.out.size)
    clear hw
    cases hv : okL m t q lb with
    | false =>
      have HE : Hid (okLs n s r la m t q lb = false) := by rw [Hid, okLs, HV.out, hv]; rfl
      clear hv
      go_wp2
      go_ret
      exact ⟨by rw [HE.out]; rfl, AK2.out⟩
    | true =>
      have HV2 := Lib.hid hv
      clear hv
      have HE : Hid (okLs n s r la m t q lb = decide (la.length = lb.length)) := by rw [Hid, okLs, HV.out, HV2.out]; rfl
      go_wp2
      go_ret
      exact ⟨by rw [HE.out]; exact congrArg (fun b => Ending.returned (.bool b)) (beq_len _ _), AK2.out⟩

theorem l4Lists_any (n : Int) (s r : ByteArray) (va : Value) (la : List Int) (m : Int) (t q : ByteArray) (vb : Value) (lb : List Int) (w : World) (ha : Reads w va la) (hb : Reads w vb lb) (hla : la.length ≤ 17592186044416) (hlb : lb.length ≤ 17592186044416)
    (hs : s.size ≤ 9223372036854775807) (hr : r.size ≤ 9223372036854775807) (ht : t.size ≤ 9223372036854775807) (hq : q.size ≤ 9223372036854775807) :
    Calls Tryd.prog 109 #[.agg #[.int .i64 n, .string s, .string r], va, .agg #[.int .i64 m, .string t, .string q], vb] w fun e w' => e = .returned (.bool (okLs n s r la m t q lb)) ∧ Below w.heap.size w w' := by
  have BB : Hid (Box 24 ((w.alloc (.cells #[.int .i64 n, .string s, .string r] 24)).alloc (.cells #[.int .i64 m, .string t, .string q] 24)) (w.heap.size + 1) m t q) := Box.new 24 _ (w.heap.size + 1) (by simp) m t q
  have AW : Hid (Below w.heap.size w ((w.alloc (.cells #[.int .i64 n, .string s, .string r] 24)).alloc (.cells #[.int .i64 m, .string t, .string q] 24))) := ((Below.refl _ _).alloc (Nat.le_refl _) _).alloc (by simp) _
  have RA := Lib.hid (ha.below AW.out (Nat.le_refl _))
  have RB := Lib.hid (hb.below AW.out (Nat.le_refl _))
  obtain ⟨ao, ca, hva⟩ := ha.len
  obtain ⟨bo, cb, hvb⟩ := hb.len
  subst hva hvb
  have HL := Lib.hid (show _ ∧ _ from ⟨hla, hlb⟩)
  have HZ := Lib.hid (show _ ∧ _ ∧ _ ∧ _ from ⟨hs, hr, ht, hq⟩)
  clear ha hb hla hlb hs hr ht hq
  go_enter Tryd.func109, Tryd.ntmps109
  go_wp2_with fail
  refine (l4List_any n s r _ la _ RA.out HL.out.1 HZ.out.1 HZ.out.2.1).mono ?_
  rintro e w1 ⟨rfl, hw⟩
  have HX := Lib.hid hw
  clear hw
  have AK1 : Hid (Below w.heap.size w w1) := AW.out.trans (HX.out.mono AW.out.size)
  have RB1 := Lib.hid (RB.out.below HX.out (Nat.le_refl _))
  obtain ⟨b0, b1, b2⟩ := (BB.out.below HX.out BB.out.lt).c
  cases hv : okL n s r la with
  | false =>
    have HE : Hid (okLs n s r la m t q lb = false) := by rw [Hid, okLs, hv]; rfl
    clear hv
    go_wp2
    go_ret
    exact ⟨by rw [HE.out]; rfl, AK1.out⟩
  | true =>
    have HV := Lib.hid hv
    clear hv
    go_wp2_with fail
    refine (l4List_any m t q _ lb _ RB1.out HL.out.2 HZ.out.2.2.1 HZ.out.2.2.2).mono ?_
    rintro e w2 ⟨rfl, hw⟩
    have AK2 : Hid (Below w.heap.size w w2) := AK1.out.trans (hw.mono AK1.out.size)
    clear hw
    cases hv : okL m t q lb with
    | false =>
      have HE : Hid (okLs n s r la m t q lb = false) := by rw [Hid, okLs, HV.out, hv]; rfl
      clear hv
      go_wp2
      go_ret
      exact ⟨by rw [HE.out]; rfl, AK2.out⟩
    | true =>
      have HV2 := Lib.hid hv
      clear hv
      have HE : Hid (okLs n s r la m t q lb = decide (la.length = lb.length)) := by rw [Hid, okLs, HV.out, HV2.out]; rfl
      go_wp2
      go_ret
      exact ⟨by rw [HE.out]; exact congrArg (fun b => Ending.returned (.bool b)) (beq_len _ _), AK2.out⟩

def pairAt (m : Int) (la lb : List Int) (i : Nat) : Int := la.getD i 0 * m + lb.getD i 0
def pairsK (m : Int) (la lb : List Int) (k : Nat) : List Int := (List.range k).map (pairAt m la lb)
/-- what PairLists returns -/
def pairR (n : Int) (s r : ByteArray) (la : List Int) (m : Int) (t q : ByteArray) (lb : List Int) : List Int := if okLs n s r la m t q lb = true then pairsK m la lb la.length else []
theorem pairsK_succ (m : Int) (la lb : List Int) (k : Nat) : pairsK m la lb (k + 1) = pairsK m la lb k ++ [pairAt m la lb k] := by simp [pairsK, List.range_succ]
theorem pairsK_len (m : Int) (la lb : List Int) (k : Nat) : (pairsK m la lb k).length = k := by simp [pairsK]
/-- what is known where the lists are in order -/
theorem okLs_facts {n : Int} {s r : ByteArray} {la : List Int} {m : Int} {t q : ByteArray} {lb : List Int} (h : okLs n s r la m t q lb = true) :
    (1 ≤ m ∧ m ≤ 8) ∧ la.length = lb.length ∧ la.length ≤ 4 ∧ (∀ i, i < la.length → 0 ≤ la.getD i 0 ∧ la.getD i 0 < 8) ∧ (∀ i, i < lb.length → 0 ≤ lb.getD i 0 ∧ lb.getD i 0 < 8) := by
  unfold okLs okL at h
  simp only [Bool.and_eq_true, decide_eq_true_eq] at h
  obtain ⟨⟨h1, h2, h3⟩, ⟨h4, h5, h6⟩, h7⟩ := h
  have v1 := (validB_iff.1 h1).1
  have v2 := (validB_iff.1 h4).1
  refine ⟨v2, h7, h2, fun i hi => ?_, fun i hi => ?_⟩
  · have := List.all_eq_true.1 h3 (la.getD i 0) (by rw [List.getD_eq_getElem?_getD, List.getElem?_eq_getElem hi]; exact List.getElem_mem hi)
    unfold elIn at this
    have := of_decide_eq_true this
    omega
  · have := List.all_eq_true.1 h6 (lb.getD i 0) (by rw [List.getD_eq_getElem?_getD, List.getElem?_eq_getElem hi]; exact List.getElem_mem hi)
    unfold elIn at this
    have := of_decide_eq_true this
    omega
theorem cell_of {w W : World} {ao : Option Addr} {l : List Int} (hr : l = [] ∨ ∃ b off, ao = some ⟨b, off, none⟩ ∧ ∀ i, i < l.length → w.cell? ⟨b, off + i, none⟩ = some (.int .i64 (l.getD i 0))) (hb : Below w.heap.size w W) {k : Nat} (hk : k < l.length) :
    ∃ b off, ao = some ⟨b, off, none⟩ ∧ W.cell? ⟨b, off + k, none⟩ = some (.int .i64 (l.getD k 0)) := by
  rcases hr with rfl | ⟨b, off, ha, hc⟩
  · simp at hk
  · refine ⟨b, off, ha, ?_⟩
    have hx := hc k hk
    rw [hb.cell (p := ⟨b, off + k, none⟩) (World.block_lt_of_cell? w _ hx)]; exact hx
theorem wrap_pair {x m y : Int} (hx : 0 ≤ x ∧ x < 8) (hm : 1 ≤ m ∧ m ≤ 8) (hy : 0 ≤ y ∧ y < 8) : (0 ≤ x * m ∧ x * m ≤ 64) ∧ IntKind.i64.wrap (IntKind.i64.wrap (x * m) + y) = x * m + y ∧ IntKind.i64.wrap (x * m + y) = x * m + y := by
  have a1 : x * m ≤ x * 8 := Int.mul_le_mul_of_nonneg_left hm.2 hx.1
  have a2 : 0 ≤ x * m := Int.mul_nonneg hx.1 (by omega)
  refine ⟨by omega, ?_, ?_⟩
  · rw [IntKind.wrap_i64, IntKind.wrap_i64]; omega
  · rw [IntKind.wrap_i64]; omega

theorem len0 (n : Int) (s r : ByteArray) (la : List Int) (m : Int) (t q : ByteArray) (lb : List Int) : la.length ≤ 1048576 → lb.length ≤ 1048576 → (s.size + r.size) + (t.size + q.size) ≤ 1048576 → (pairR n s r la m t q lb).length ≤ 4194304 := by
  intro h1 _ _
  unfold pairR
  split
  · rw [pairsK_len]; omega
  · simp

end Go.Proofs.YtpcnoiigbmiejaaDoor.pairL
