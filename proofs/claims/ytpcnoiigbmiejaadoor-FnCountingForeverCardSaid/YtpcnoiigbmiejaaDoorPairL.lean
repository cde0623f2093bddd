/- PairLists and what it leans on: lists of elements, in the program and in the reference. -/
import Derived.Test.YtpcnoiigbmiejaaDoorRows
import Derived.Test.YtpcnoiigbmiejaaDoorSl
import Derived.Test.YtpcnoiigbmiejaaDoorBase
import Derived.Test.YtpcnoiigbmiejaaDoorMake
import Derived.Test.YtpcnoiigbmiejaaDoorFlow
import Derived.Test.YtpcnoiigbmiejaaDoorProd
import Derived.Test.YtpcnoiigbmiejaaDoorNear
namespace Go.Proofs.YtpcnoiigbmiejaaDoor.pairL
set_option linter.unusedVariables false
set_option linter.unusedSimpArgs false
open Go.ChangeShapes Go.WideShapes Go.ChangeAt Go.RowKit
open Go.Proofs.YtpcnoiigbmiejaaDoor.lib Go.Proofs.YtpcnoiigbmiejaaDoor.st Go.Proofs.YtpcnoiigbmiejaaDoor.base Go.Proofs.YtpcnoiigbmiejaaDoor.make Go.Proofs.YtpcnoiigbmiejaaDoor.flow Go.Proofs.YtpcnoiigbmiejaaDoor.prod Go.Proofs.YtpcnoiigbmiejaaDoor.basic Go.Proofs.YtpcnoiigbmiejaaDoor.near

def elIn (n x : Int) : Bool := decide (0 ≤ x ∧ x < n)
def okL (n : Int) (s r : ByteArray) (l : List Int) : Bool := validB n s r && (decide (l.length ≤ 4) && l.all (elIn n))
def okLs (n : Int) (s r : ByteArray) (la : List Int) (m : Int) (t q : ByteArray) (lb : List Int) : Bool := okL n s r la && (okL m t q lb && decide (la.length = lb.length))

theorem any_take_succ (p : Int → Bool) (l : List Int) (k : Nat) (h : k < l.length) : (l.take (k + 1)).any p = ((l.take k).any p || p (l.getD k 0)) := by
  rw [List.take_succ_eq_append_getElem h, List.any_append]
  simp [List.getD_eq_getElem?_getD, List.getElem?_eq_getElem h]
theorem all_take_succ (p : Int → Bool) (l : List Int) (k : Nat) (h : k < l.length) : (l.take (k + 1)).all p = ((l.take k).all p && p (l.getD k 0)) := by
  rw [List.take_succ_eq_append_getElem h, List.all_append]
  simp [List.getD_eq_getElem?_getD, List.getElem?_eq_getElem h]
theorem all_take_false (p : Int → Bool) (l : List Int) (k : Nat) (h : k < l.length) (hp : p (l.getD k 0) = false) : l.all p = false := by
  rw [List.all_eq_false]
  refine ⟨l.getD k 0, ?_, by rw [hp]; exact Bool.false_ne_true⟩
  rw [List.getD_eq_getElem?_getD, List.getElem?_eq_getElem h]
  exact List.getElem_mem h
theorem any_take_true (p : Int → Bool) (l : List Int) (k : Nat) (h : k < l.length) (hp : p (l.getD k 0) = true) : l.any p = true := by
  rw [List.any_eq_true]
  refine ⟨l.getD k 0, ?_, hp⟩
  rw [List.getD_eq_getElem?_getD, List.getElem?_eq_getElem h]
  exact List.getElem_mem h

/-- the library's search with a test: what matters of it is its sign -/
theorem indexFunc_core (ao : Option Addr) (cap : Nat) (l : List Int) (f : FuncId) (cs : Array Value) (p : Int → Bool) (w : World) (ef : make.Enters f) (hn : l.length ≤ 17592186044416)
    (hr : l = [] ∨ ∃ b off, ao = some ⟨b, off, none⟩ ∧ ∀ i, i < l.length → w.cell? ⟨b, off + i, none⟩ = some (.int .i64 (l.getD i 0)))
    (hf : ∀ W, Below w.heap.size w W → ∀ x : Int, x ∈ l → Calls Tryd.prog f (#[.int .i64 x] ++ cs) W fun e W' => e = .returned (.bool (p x)) ∧ Below W.heap.size W W') :
    Calls Tryd.prog 131 #[.slice ao l.length cap, .func (.func f) #[] cs] w fun e w' => ∃ i : Int, e = .returned (.int .i64 i) ∧ decide (0 ≤ i) = l.any p ∧ Below w.heap.size w w' := by
  unfold make.Enters at ef
  obtain ⟨n, hnl⟩ : ∃ n, n = l.length := ⟨_, rfl⟩
  rw [← hnl] at hn ⊢
  have HN : Hid (n = l.length) := hnl
  have HR := Lib.hid hr
  have HF := Lib.hid hf
  clear hr hnl hf
  go_enter Tryd.func131, Tryd.ntmps131
  go_wp2
  go_loopw [8] (fun i wr => ∃ k : Nat, k ≤ n ∧ i = .int .i64 k ∧ (l.take k).any p = false ∧ Below w.heap.size w wr) (fun i _ => n - (intOf i).toNat)
  case atStart => exact ⟨0, Nat.zero_le _, rfl, rfl, Below.refl _ _⟩
  case round =>
    obtain ⟨k, hk, rfl, hany, hnx⟩ := hrel
    have HA := Lib.hid hany
    have HX := Lib.hid hnx
    clear hany hnx
    by_cases hlt : k < n
    · have hr' : ∃ b off, ao = some ⟨b, off, none⟩ ∧ ∀ i, i < l.length → w.cell? ⟨b, off + i, none⟩ = some (.int .i64 (l.getD i 0)) := by
        rcases HR.out with h | h
        · have := HN.out; rw [h] at this; simp at this; omega
        · exact h
      obtain ⟨b, off, rfl, hc⟩ := hr'
      have hkl : k < l.length := by have := HN.out; omega
      have hcell : wr.cell? ⟨b, off + k, none⟩ = some (.int .i64 (l.getD k 0)) := by
        have hx := hc k hkl
        have hltb := World.block_lt_of_cell? w _ hx
        rw [HX.out.cell (p := ⟨b, off + k, none⟩) hltb]; exact hx
      have hmem : l.getD k 0 ∈ l := by
        rw [List.getD_eq_getElem?_getD, List.getElem?_eq_getElem hkl]
        exact List.getElem_mem hkl
      have HT := Lib.hid (any_take_succ p l k hkl)
      have HT2 := Lib.hid (any_take_true p l k hkl)
      have HM := Lib.hid hmem
      obtain ⟨x, hx⟩ : ∃ x, x = l.getD k 0 := ⟨_, rfl⟩
      have HXX := Lib.hid hx
      rw [← hx] at hcell
      clear hc hkl hmem hx HR
      go_wp2_with fail
      with_reducible show Calls _ f _ _ _
      refine (HF.out _ HX.out x (by rw [HXX.out]; exact HM.out)).mono ?_
      rintro e w1 ⟨rfl, hw⟩
      have HX1 : Hid (Below w.heap.size w w1) := HX.out.trans (hw.mono HX.out.size)
      clear hw hcell
      cases hp : p x with
      | true =>
        have HAA : Hid (l.any p = true) := HT2.out (by rw [← HXX.out]; exact hp)
        clear hp
        go_wp2
        go_ret
        exact ⟨k, rfl, by rw [HAA.out]; simp, HX1.out⟩
      | false =>
        have HAA : Hid ((l.take (k + 1)).any p = false) := by rw [Hid, HT.out, HA.out, ← HXX.out, hp]; rfl
        clear hp
        go_wp2
        go_roundw
        case rel => exact ⟨k + 1, by omega, by go_num, HAA.out, HX1.out⟩
        case measure => simp [intOf]; omega
    · obtain rfl : k = n := by omega
      have HAA : Hid (l.any p = false) := by have h := HA.out; rw [HN.out, List.take_length] at h; exact h
      go_wp2
      go_ret
      exact ⟨-1, rfl, by rw [HAA.out]; rfl, HX.out⟩

theorem containsFunc_core (ao : Option Addr) (cap : Nat) (l : List Int) (f : FuncId) (cs : Array Value) (p : Int → Bool) (w : World) (ef : make.Enters f) (hn : l.length ≤ 17592186044416)
    (hr : l = [] ∨ ∃ b off, ao = some ⟨b, off, none⟩ ∧ ∀ i, i < l.length → w.cell? ⟨b, off + i, none⟩ = some (.int .i64 (l.getD i 0)))
    (hf : ∀ W, Below w.heap.size w W → ∀ x : Int, x ∈ l → Calls Tryd.prog f (#[.int .i64 x] ++ cs) W fun e W' => e = .returned (.bool (p x)) ∧ Below W.heap.size W W') :
    Calls Tryd.prog 167 #[.slice ao l.length cap, .func (.func f) #[] cs] w fun e w' => e = .returned (.bool (l.any p)) ∧ Below w.heap.size w w' := by
  have HC := Lib.hid (indexFunc_core ao cap l f cs p w ef hn hr hf)
  clear hn hr hf ef
  go_enter Tryd.func167, Tryd.ntmps167
  go_wp2_with fail
  refine HC.out.mono ?_
  rintro e w1 ⟨i, rfl, hi, hw⟩
  have HW := Lib.hid hw
  have HI := Lib.hid hi
  clear hw hi
  go_wp2
  go_ret
  exact ⟨by rw [← HI.out]; rfl, HW.out⟩

theorem any_not (p : Int → Bool) : ∀ l : List Int, (!(l.any fun x => !p x)) = l.all p
  | [] => rfl
  | a :: l => by rw [List.any_cons, List.all_cons, ← any_not p l]; cases p a <;> simp

theorem l1In_at (x lo hi : Int) (hi' : Int) (b : Bool) (h : hi = hi') (hb : inB x lo hi = b) (w : World) :
    Calls Tryd.prog 67 #[.int .i64 x, .int .i64 lo, .int .i64 hi'] w fun e w' => e = .returned (.bool b) ∧ w' = w := by
  subst h hb; exact (l1In_any x lo hi w).mono fun _ _ h => ⟨h.1, h.2.symm⟩
def pairAt (m : Int) (la lb : List Int) (i : Nat) : Int := la.getD i 0 * m + lb.getD i 0
def pairsK (m : Int) (la lb : List Int) (k : Nat) : List Int := (List.range k).map (pairAt m la lb)
/-- what PairLists returns -/
def pairR (n : Int) (s r : ByteArray) (la : List Int) (m : Int) (t q : ByteArray) (lb : List Int) : List Int := if okLs n s r la m t q lb = true then pairsK m la lb la.length else []
theorem pairsK_len (m : Int) (la lb : List Int) (k : Nat) : (pairsK m la lb k).length = k := by simp [pairsK]
theorem len0 (n : Int) (s r : ByteArray) (la : List Int) (m : Int) (t q : ByteArray) (lb : List Int) : la.length ≤ 1048576 → lb.length ≤ 1048576 → (s.size + r.size) + (t.size + q.size) ≤ 1048576 → (pairR n s r la m t q lb).length ≤ 4194304 := by
  intro h1 _ _
  unfold pairR
  split
  · rw [pairsK_len]; omega
  · simp

end Go.Proofs.YtpcnoiigbmiejaaDoor.pairL
