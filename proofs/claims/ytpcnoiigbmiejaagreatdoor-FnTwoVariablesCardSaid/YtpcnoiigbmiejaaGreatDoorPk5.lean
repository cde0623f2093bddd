/- Several texts in one: Prod, PairL, InRel. -/
import Derived.Test.YtpcnoiigbmiejaaGreatDoorRows
import Derived.Test.YtpcnoiigbmiejaaGreatDoorPk2
import Derived.Test.YtpcnoiigbmiejaaGreatDoorPk1
import Derived.Test.YtpcnoiigbmiejaaGreatDoorPk3
/- ProductOf, in the program and in the reference. -/
namespace Go.Proofs.YtpcnoiigbmiejaaGreatDoor.prod
set_option linter.unusedVariables false
set_option linter.unusedSimpArgs false
open Go.ChangeShapes Go.WideShapes Go.ChangeAt Go.RowKit
open Go.Proofs.YtpcnoiigbmiejaaGreatDoor.lib Go.Proofs.YtpcnoiigbmiejaaGreatDoor.st Go.Proofs.YtpcnoiigbmiejaaGreatDoor.base Go.Proofs.YtpcnoiigbmiejaaGreatDoor.make Go.Proofs.YtpcnoiigbmiejaaGreatDoor.flow

/-- what ProductOf returns -/
def okP (n : Int) (s r : ByteArray) (m : Int) (t q : ByteArray) : Bool := validB n s r && (validB m t q && decide (n * m ≤ 8))
def pSet (s : ByteArray) (m : Nat) (t : ByteArray) (x : Nat) : Bool := bitAt s (x / m) && bitAt t (x % m)
def ps (n : Int) (s r : ByteArray) (m : Int) (t q : ByteArray) : ByteArray := if okP n s r m t q = true then bS (pSet s m.toNat t) (n.toNat * m.toNat) else ⟨#[]⟩
theorem valid_size {n : Int} {s r : ByteArray} (h : validB n s r = true) : ∃ N : Nat, n = N ∧ 1 ≤ N ∧ N ≤ 8 ∧ s.size = N ∧ r.size = N * N := by
  obtain ⟨⟨h2, h3⟩, hs, hr, _⟩ := validB_iff.1 h
  refine ⟨n.toNat, by omega, by omega, by omega, by omega, ?_⟩
  have e : (n.toNat : Int) = n := by omega
  have : ((n.toNat * n.toNat : Nat) : Int) = n * n := by rw [Int.natCast_mul, e]
  omega

/- the reference -/
theorem l1Bit_at (b : Bool) (w : World) : Calls Tryz.prog 58 #[.bool b] w fun e w' => e = .returned (.string (bit1 b)) ∧ w' = w := (l1Bit_any b w).mono fun _ _ h => ⟨h.1, h.2.symm⟩

end Go.Proofs.YtpcnoiigbmiejaaGreatDoor.prod

/- PairLists and what it leans on: lists of elements, in the program and in the reference. -/
namespace Go.Proofs.YtpcnoiigbmiejaaGreatDoor.pairL
set_option linter.unusedVariables false
set_option linter.unusedSimpArgs false
open Go.ChangeShapes Go.WideShapes Go.ChangeAt Go.RowKit
open Go.Proofs.YtpcnoiigbmiejaaGreatDoor.lib Go.Proofs.YtpcnoiigbmiejaaGreatDoor.st Go.Proofs.YtpcnoiigbmiejaaGreatDoor.base Go.Proofs.YtpcnoiigbmiejaaGreatDoor.make Go.Proofs.YtpcnoiigbmiejaaGreatDoor.flow Go.Proofs.YtpcnoiigbmiejaaGreatDoor.prod Go.Proofs.YtpcnoiigbmiejaaGreatDoor.basic Go.Proofs.YtpcnoiigbmiejaaGreatDoor.near

def elIn (n x : Int) : Bool := decide (0 ≤ x ∧ x < n)
def okL (n : Int) (s r : ByteArray) (l : List Int) : Bool := validB n s r && (decide (l.length ≤ 4) && l.all (elIn n))
def okLs (n : Int) (s r : ByteArray) (la : List Int) (m : Int) (t q : ByteArray) (lb : List Int) : Bool := okL n s r la && (okL m t q lb && decide (la.length = lb.length))

theorem any_take_succ (p : Int → Bool) (l : List Int) (k : Nat) (h : k < l.length) : (l.take (k + 1)).any p = ((l.take k).any p || p (l.getD k 0)) := by
  rw [List.take_succ_eq_append_getElem h, List.any_append]
  simp [List.getD_eq_getElem?_getD, List.getElem?_eq_getElem h]
theorem any_take_true (p : Int → Bool) (l : List Int) (k : Nat) (h : k < l.length) (hp : p (l.getD k 0) = true) : l.any p = true := by
  rw [List.any_eq_true]
  refine ⟨l.getD k 0, ?_, hp⟩
  rw [List.getD_eq_getElem?_getD, List.getElem?_eq_getElem h]
  exact List.getElem_mem h

/-- the library's search with a test: what matters of it is its sign -/
theorem indexFunc_core (ao : Option Addr) (cap : Nat) (l : List Int) (f : FuncId) (cs : Array Value) (p : Int → Bool) (w : World) (ef : make.Enters f) (hn : l.length ≤ 17592186044416)
    (hr : l = [] ∨ ∃ b off, ao = some ⟨b, off, none⟩ ∧ ∀ i, i < l.length → w.cell? ⟨b, off + i, none⟩ = some (.int .i64 (l.getD i 0)))
    (hf : ∀ W, Below w.heap.size w W → ∀ x : Int, x ∈ l → Calls Tryz.prog f (#[.int .i64 x] ++ cs) W fun e W' => e = .returned (.bool (p x)) ∧ Below W.heap.size W W') :
    Calls Tryz.prog 160 #[.slice ao l.length cap, .func (.func f) #[] cs] w fun e w' => ∃ i : Int, e = .returned (.int .i64 i) ∧ decide (0 ≤ i) = l.any p ∧ Below w.heap.size w w' := by
  unfold make.Enters at ef
  obtain ⟨n, hnl⟩ : ∃ n, n = l.length := ⟨_, rfl⟩
  rw [← hnl] at hn ⊢
  have HN : Hid (n = l.length) := hnl
  have HR := Lib.hid hr
  have HF := Lib.hid hf
  clear hr hnl hf
  go_enter Tryz.func160, Tryz.ntmps160
  go_wp2
  go_loopw [8] (fun i wr => ∃ k : Nat, k ≤ n ∧ i = .int .i64 k ∧ (l.take k).any p = false ∧ Below w.heap.size w wr) (fun i _ => n - (intOf i).toNat)
  case atStart => exact ⟨0, Nat.zero_le _, rfl, rfl, Below.refl _ _⟩
  case round =>
    obtain ⟨k, hk, rfl, hany, hnx⟩ := hrel
    have HA := Lib.hid hany
    have HX := Lib.hid hnx
    clear hany hnx
    by_cases hlt : k < n
    · have hr' : ∃ b off, ao = some ⟨b, off, none⟩ ∧ ∀ i, i < l.length → w.cell? ⟨b, off + i, none⟩ = some (.int .i64 (l.getD i 0)) := by
        rcases HR.out with h | h
        · have := HN.out; rw [h] at this; simp at this; omega
        · exact h
      obtain ⟨b, off, rfl, hc⟩ := hr'
      have hkl : k < l.length := by have := HN.out; omega
      have hcell : wr.cell? ⟨b, off + k, none⟩ = some (.int .i64 (l.getD k 0)) := by
        have hx := hc k hkl
        have hltb := World.block_lt_of_cell? w _ hx
        rw [HX.out.cell (p := ⟨b, off + k, none⟩) hltb]; exact hx
      have hmem : l.getD k 0 ∈ l := by
        rw [List.getD_eq_getElem?_getD, List.getElem?_eq_getElem hkl]
        exact List.getElem_mem hkl
      have HT := Lib.hid (any_take_succ p l k hkl)
      have HT2 := Lib.hid (any_take_true p l k hkl)
      have HM := Lib.hid hmem
      obtain ⟨x, hx⟩ : ∃ x, x = l.getD k 0 := ⟨_, rfl⟩
      have HXX := Lib.hid hx
      rw [← hx] at hcell
      clear hc hkl hmem hx HR
      go_wp2_with fail
      with_reducible show Calls _ f _ _ _
      refine (HF.out _ HX.out x (by rw [HXX.out]; exact HM.out)).mono ?_
      rintro e w1 ⟨rfl, hw⟩
      have HX1 : Hid (Below w.heap.size w w1) := HX.out.trans (hw.mono HX.out.size)
      clear hw hcell
      cases hp : p x with
      | true =>
        have HAA : Hid (l.any p = true) := HT2.out (by rw [← HXX.out]; exact hp)
        clear hp
        go_wp2
        go_ret
        exact ⟨k, rfl, by rw [HAA.out]; simp, HX1.out⟩
      | false =>
        have HAA : Hid ((l.take (k + 1)).any p = false) := by rw [Hid, HT.out, HA.out, ← HXX.out, hp]; rfl
        clear hp
        go_wp2
        go_roundw
        case rel => exact ⟨k + 1, by omega, by go_num, HAA.out, HX1.out⟩
        case measure => simp [intOf]; omega
    · obtain rfl : k = n := by omega
      have HAA : Hid (l.any p = false) := by have h := HA.out; rw [HN.out, List.take_length] at h; exact h
      go_wp2
      go_ret
      exact ⟨-1, rfl, by rw [HAA.out]; rfl, HX.out⟩

theorem containsFunc_core (ao : Option Addr) (cap : Nat) (l : List Int) (f : FuncId) (cs : Array Value) (p : Int → Bool) (w : World) (ef : make.Enters f) (hn : l.length ≤ 17592186044416)
    (hr : l = [] ∨ ∃ b off, ao = some ⟨b, off, none⟩ ∧ ∀ i, i < l.length → w.cell? ⟨b, off + i, none⟩ = some (.int .i64 (l.getD i 0)))
    (hf : ∀ W, Below w.heap.size w W → ∀ x : Int, x ∈ l → Calls Tryz.prog f (#[.int .i64 x] ++ cs) W fun e W' => e = .returned (.bool (p x)) ∧ Below W.heap.size W W') :
    Calls Tryz.prog 123 #[.slice ao l.length cap, .func (.func f) #[] cs] w fun e w' => e = .returned (.bool (l.any p)) ∧ Below w.heap.size w w' := by
  have HC := Lib.hid (indexFunc_core ao cap l f cs p w ef hn hr hf)
  clear hn hr hf ef
  go_enter Tryz.func123, Tryz.ntmps123
  go_wp2_with fail
  refine HC.out.mono ?_
  rintro e w1 ⟨i, rfl, hi, hw⟩
  have HW := Lib.hid hw
  have HI := Lib.hid hi
  clear hw hi
  go_wp2
  go_ret
  exact ⟨by rw [← HI.out]; rfl, HW.out⟩

theorem clEl_any (n : Int) (s r : ByteArray) (x : Int) (Ha : Nat) (w : World) (ha : Box 24 w Ha n s r) :
    Calls Tryz.prog 124 #[.int .i64 x, .pointer (some ⟨Ha, 0, none⟩)] w fun e w' => e = .returned (.bool (!elIn n x)) ∧ Below w.heap.size w w' := by
  obtain ⟨a0, a1, a2⟩ := ha.c
  clear ha
  have BW : Hid (Below w.heap.size w w) := Below.refl _ _
  by_cases h1 : x < 0
  · have HE : Hid (elIn n x = false) := decide_eq_false (by omega)
    go_enter Tryz.func124, Tryz.ntmps124
    go_wp2
    go_ret
    exact ⟨by rw [HE.out]; rfl, BW.out⟩
  · by_cases h2 : x < n
    · have HE : Hid (elIn n x = true) := decide_eq_true (by omega)
      have h3 : ¬ n ≤ x := by omega
      go_enter Tryz.func124, Tryz.ntmps124
      go_wp2
      go_ret
      exact ⟨by rw [HE.out]; rfl, BW.out⟩
    · have HE : Hid (elIn n x = false) := decide_eq_false (by omega)
      have h3 : n ≤ x := by omega
      go_enter Tryz.func124, Tryz.ntmps124
      go_wp2
      go_ret
      exact ⟨by rw [HE.out]; rfl, BW.out⟩

theorem any_not (p : Int → Bool) : ∀ l : List Int, (!(l.any fun x => !p x)) = l.all p
  | [] => rfl
  | a :: l => by rw [List.any_cons, List.all_cons, ← any_not p l]; cases p a <;> simp

theorem areElements_any (n : Int) (s r : ByteArray) (v : Value) (l : List Int) (w : World) (h : Reads w v l) (hn : l.length ≤ 17592186044416) :
    Calls Tryz.prog 99 #[.agg #[.int .i64 n, .string s, .string r], v] w fun e w' => e = .returned (.bool (l.all (elIn n))) ∧ Below w.heap.size w w' := by
  have h1 : Reads (w.alloc (.cells #[.int .i64 n, .string s, .string r] 24)) v l := h.below ((Below.refl w.heap.size w).alloc (Nat.le_refl _) _) (Nat.le_refl _)
  obtain ⟨ao, ca, rfl, hr, _⟩ := h1
  have BA : Hid (Box 24 (w.alloc (.cells #[.int .i64 n, .string s, .string r] 24)) w.heap.size n s r) := Box.new 24 w w.heap.size rfl n s r
  have AW : Hid (Below w.heap.size w (w.alloc (.cells #[.int .i64 n, .string s, .string r] 24))) := (Below.refl _ _).alloc (Nat.le_refl _) _
  have HR := Lib.hid hr
  have HNN := Lib.hid hn
  clear hr h hn
  go_enter Tryz.func99, Tryz.ntmps99
  go_wp2_with fail
  refine (containsFunc_core ao ca l _ _ (fun x => !elIn n x) _ (enters_of Tryz.func124 (by kernel_rfl) rfl) HNN.out HR.out ?_).mono ?_
  · intro W hW x _
    exact clEl_any n s r x w.heap.size W (BA.out.below hW BA.out.lt)
  rintro e w1 ⟨rfl, hw⟩
  have HW := Lib.hid (AW.out.trans (hw.mono AW.out.size))
  clear hw
  go_wp2
  go_ret
  exact ⟨by rw [← any_not]; rfl, HW.out⟩

def pairAt (m : Int) (la lb : List Int) (i : Nat) : Int := la.getD i 0 * m + lb.getD i 0
def pairsK (m : Int) (la lb : List Int) (k : Nat) : List Int := (List.range k).map (pairAt m la lb)
/-- what PairLists returns -/
def pairR (n : Int) (s r : ByteArray) (la : List Int) (m : Int) (t q : ByteArray) (lb : List Int) : List Int := if okLs n s r la m t q lb = true then pairsK m la lb la.length else []
theorem pairsK_len (m : Int) (la lb : List Int) (k : Nat) : (pairsK m la lb k).length = k := by simp [pairsK]
theorem len0 (n : Int) (s r : ByteArray) (la : List Int) (m : Int) (t q : ByteArray) (lb : List Int) : la.length ≤ 1048576 → lb.length ≤ 1048576 → (s.size + r.size) + (t.size + q.size) ≤ 1048576 → (pairR n s r la m t q lb).length ≤ 4194304 := by
  intro h1 _ _
  unfold pairR
  split
  · rw [pairsK_len]; omega
  · simp

end Go.Proofs.YtpcnoiigbmiejaaGreatDoor.pairL

/- InRel of the program at a valid structure's elements. -/
namespace Go.Proofs.YtpcnoiigbmiejaaGreatDoor.inrel
set_option linter.unusedVariables false
set_option linter.unusedSimpArgs false
open Go.ChangeShapes Go.WideShapes Go.ChangeAt Go.RowKit
open Go.Proofs.YtpcnoiigbmiejaaGreatDoor.lib Go.Proofs.YtpcnoiigbmiejaaGreatDoor.st Go.Proofs.YtpcnoiigbmiejaaGreatDoor.base Go.Proofs.YtpcnoiigbmiejaaGreatDoor.near
end Go.Proofs.YtpcnoiigbmiejaaGreatDoor.inrel
