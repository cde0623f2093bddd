/- JoinLists and SplitList, the program's and the reference's: their contracts. -/
import Derived.Test.YtpcnoiigbmiejaaDoorRows
import Derived.Test.YtpcnoiigbmiejaaDoorLib
import Derived.Test.YtpcnoiigbmiejaaDoorSl
import Derived.RegionTactic
import Derived.ChangeAlike
namespace Go.Proofs.YtpcnoiigbmiejaaDoor.join
set_option linter.unusedVariables false
set_option linter.unusedSimpArgs false
open Go.ChangeShapes Go.WideShapes Go.ChangeAt Go.RowKit
open Go.Proofs.YtpcnoiigbmiejaaDoor.lib


def joinL (n : Int) (la bs : List Int) : List Int := la ++ bs.map fun x => wrap64 (x + n)
theorem join_step (n : Int) (la bs : List Int) (k : Nat) (h : k < bs.length) : joinL n la (bs.take (k + 1)) = joinL n la (bs.take k) ++ [wrap64 (bs.getD k 0 + n)] := by
  unfold joinL
  rw [List.take_succ_eq_append_getElem h, List.map_append, List.append_assoc]
  simp only [List.map_cons, List.map_nil, List.getD_eq_getElem?_getD, List.getElem?_eq_getElem h, Option.getD_some]
theorem join_len (n : Int) (la bs : List Int) : (joinL n la bs).length = la.length + bs.length := by simp [joinL]

theorem emptyRow (T : TypeId) (w : World) (B H : Nat) (hH : w.heap.size = H) (hB : B ≤ H) : OwnI T (w.alloc (.cells #[] T)) B (.slice (some ⟨H, 0, none⟩) 0 0) [] := by
  subst hH
  exact World.ownsRow_made w #[] 0 hB (by decide) rfl

set_option maxHeartbeats 400000 in
theorem impl_core (n : Int) (s r : ByteArray) (va : Value) (ao : Option Addr) (cap : Nat) (la bs : List Int) (w : World) (ha : Reads w va la)
    (hr : bs = [] ∨ ∃ b off, ao = some ⟨b, off, none⟩ ∧ ∀ i, i < bs.length → w.cell? ⟨b, off + i, none⟩ = some (.int .i64 (bs.getD i 0))) (hn : la.length + bs.length ≤ 2199023255552) :
    Calls Tryd.prog 20 #[.agg #[.int .i64 n, .string s, .string r], va, .slice ao bs.length cap] w fun e w' => ∃ v, e = .returned v ∧ OwnI 3 w' w.heap.size v (joinL n la bs) ∧ Below w.heap.size w w' := by
  obtain ⟨m, hm⟩ : ∃ m, m = bs.length := ⟨_, rfl⟩
  rw [← hm] at hn ⊢
  have HN : Hid (m = bs.length) := hm
  have HR := Lib.hid hr
  have ha' : Reads ((w.alloc (.cells #[.int .i64 n, .string s, .string r] 24)).alloc (.cells #[] 3)) va la :=
    ha.below (((Below.refl w.heap.size w).alloc (Nat.le_refl _) _).alloc (by simp) _) (Nat.le_refl _)
  have he := emptyRow 3 (w.alloc (.cells #[.int .i64 n, .string s, .string r] 24)) (w.heap.size + 1) (w.heap.size + 1) (by simp) (Nat.le_refl _)
  have hs1 : w.heap.size + 1 ≤ ((w.alloc (.cells #[.int .i64 n, .string s, .string r] 24)).alloc (.cells #[] 3)).heap.size := by simp
  have hlen : ([] : List Int).length + la.length ≤ 4398046511104 := by simp; omega
  have HA := Lib.hid (show _ ∧ _ ∧ _ ∧ _ from ⟨ha', he, hs1, hlen⟩)
  clear hr hm ha ha' he hs1 hlen
  go_enter Tryd.func20, Tryd.ntmps20
  go_wp2_with (at_builtin; refine wpList_appAll _ rfl (.tmp 10) (.tmp 11) 32 rfl (w.heap.size + 1) 3 Tryd.underlying32 sl.infoInt _ [] la rfl HA.out.2.1 va rfl HA.out.1 HA.out.2.2.2 HA.out.2.2.1 ?_)
  intro v0 w0 hown0 hg0 _
  have hb0 : Below (w.heap.size + 1) (w.alloc (.cells #[.int .i64 n, .string s, .string r] 24)) w0 :=
    ((Below.refl (w.heap.size + 1) _).alloc (by simp) _).grown hg0 (by simp) (fun k hk => by simp [Value.ownBlock] at hk; omega)
  have hO := Lib.hid hown0
  clear hown0 hg0
  go_wp2
  go_loopw [7, 15] (fun v i wr => ∃ k : Nat, k ≤ m ∧ i = .int .i64 k ∧ OwnI 3 wr (w.heap.size + 1) v (joinL n la (bs.take k)) ∧ Below (w.heap.size + 1) (w.alloc (.cells #[.int .i64 n, .string s, .string r] 24)) wr) (fun _ i _ => m - (intOf i).toNat)
  case atStart => exact ⟨0, Nat.zero_le _, rfl, by simpa [joinL] using hO.out, hb0⟩
  case round =>
    obtain ⟨k, hk, rfl, hown, hnx⟩ := hrel
    by_cases hlt : k < m
    · have hr' : ∃ b off, ao = some ⟨b, off, none⟩ ∧ ∀ i, i < bs.length → w.cell? ⟨b, off + i, none⟩ = some (.int .i64 (bs.getD i 0)) := by
        rcases HR.out with h | h
        · have := HN.out; rw [h] at this; simp at this; omega
        · exact h
      obtain ⟨b, off, rfl, hc⟩ := hr'
      have hcell : wr.cell? ⟨b, off + k, none⟩ = some (.int .i64 (bs.getD k 0)) := by
        have hx := hc k (by have := HN.out; omega)
        have hltb : b < w.heap.size := World.block_lt_of_cell? w _ hx
        rw [hnx.cell (p := ⟨b, off + k, none⟩) (by show b < _; omega)]
        rw [((Below.refl w.heap.size w).alloc (Nat.le_refl _) _).cell (p := ⟨b, off + k, none⟩) hltb]; exact hx
      have hbox : wr.cell? ⟨w.heap.size, 0, none⟩ = some (.int .i64 n) := by
        rw [hnx.cell (p := ⟨w.heap.size, 0, none⟩) (by show w.heap.size < _; omega)]
        simp
      have hsz := hnx.size
      have HS := Lib.hid (join_step n la bs k (by have := HN.out; omega))
      have HL : Hid ((joinL n la (bs.take k)).length = la.length + k) := by have := HN.out; rw [Hid, join_len]; simp; omega
      have HO := Lib.hid hown
      have HX := Lib.hid hnx
      obtain ⟨x, hx⟩ : ∃ x, x = bs.getD k 0 := ⟨_, rfl⟩
      rw [← hx] at hcell
      have HXX := Lib.hid hx
      clear hc HR hown hnx hx
      go_wp2_with (at_builtin; refine wpList_app1 wr rfl (.tmp 19) (.tmp 24) 32 rfl (w.heap.size + 1) 3 (.int .i64 0) 8 Tryd.underlying32 sl.infoInt rfl (by decide) _ _ _ (.int .i64 (wrap64 (x + n))) rfl HO.out wr.heap.size rfl rfl rfl (by rw [HL.out]; omega) (by simp at hsz; omega) ?_)
      intro g cap' w1 hown1 hgr
      have hown1' : OwnI 3 w1 (w.heap.size + 1) (.slice (some ⟨g, 0, none⟩) ((joinL n la (bs.take k)).length + 1) cap') (joinL n la (bs.take (k + 1))) := by
        rw [HS.out, ← HXX.out]; unfold OwnI; rw [List.length_append, ivs_append]; exact hown1
      have hb1 := HX.out.trans (hgr.below HO.out (by simp at hsz; omega))
      have HO1 := Lib.hid hown1'
      have HB1 := Lib.hid hb1
      clear hown1 hgr hown1' hb1
      go_wp2
      go_roundw
      case rel => exact ⟨k + 1, by omega, by go_num, HO1.out, HB1.out⟩
      case measure => simp [intOf]; omega
    · obtain rfl : k = m := by omega
      have HO := Lib.hid hown
      have HX := Lib.hid hnx
      clear hown hnx
      go_wp2
      go_ret
      refine ⟨_, rfl, ?_, ?_⟩
      · have h := HO.out
        have e := HN.out
        rw [e, List.take_length] at h
        exact h.mono (by omega)
      · exact ((Below.refl w.heap.size w).alloc (Nat.le_refl _) _).trans (HX.out.mono (by omega))
theorem impl_any (n : Int) (s r : ByteArray) (va vb : Value) (la bs : List Int) (w : World) (ha : Reads w va la) (hb : Reads w vb bs) (hn : la.length + bs.length ≤ 2199023255552) :
    Calls Tryd.prog 20 #[.agg #[.int .i64 n, .string s, .string r], va, vb] w fun e w' => ∃ v, e = .returned v ∧ OwnI 3 w' w.heap.size v (joinL n la bs) ∧ Below w.heap.size w w' := by
  obtain ⟨ao, cap, rfl, hr, _⟩ := hb
  exact impl_core n s r va ao cap la bs w ha hr hn
/-! ### SplitList -/
def loL (n : Int) (l : List Int) : List Int := l.filter fun x => decide (x < n)
def hiL (n : Int) (l : List Int) : List Int := (l.filter fun x => !decide (x < n)).map fun x => wrap64 (x - n)
theorem take_get (l : List Int) (k : Nat) (h : k < l.length) : l.take (k + 1) = l.take k ++ [l.getD k 0] := by
  rw [List.take_succ_eq_append_getElem h]
  simp only [List.getD_eq_getElem?_getD, List.getElem?_eq_getElem h, Option.getD_some]
theorem lo_yes (n : Int) (l : List Int) (k : Nat) (h : k < l.length) (x : Int) (hx : x = l.getD k 0) (hlt : x < n) : loL n (l.take (k + 1)) = loL n (l.take k) ++ [x] ∧ hiL n (l.take (k + 1)) = hiL n (l.take k) := by
  rw [take_get l k h, ← hx]; simp [loL, hiL, hlt]
theorem lo_no (n : Int) (l : List Int) (k : Nat) (h : k < l.length) (x : Int) (hx : x = l.getD k 0) (hlt : ¬ x < n) : loL n (l.take (k + 1)) = loL n (l.take k) ∧ hiL n (l.take (k + 1)) = hiL n (l.take k) ++ [wrap64 (x - n)] := by
  rw [take_get l k h, ← hx]; simp [loL, hiL, hlt]
theorem lo_len (n : Int) (l : List Int) (k : Nat) : (loL n (l.take k)).length ≤ k ∧ (hiL n (l.take k)).length ≤ k := by
  unfold loL hiL
  rw [List.length_map]
  have h1 := List.length_filter_le (fun x => decide (x < n)) (l.take k)
  have h2 := List.length_filter_le (fun x => !decide (x < n)) (l.take k)
  have h3 := List.length_take_le k l
  omega

/-! the forms that the exact laws' walks take -/
theorem len0 (n : Int) (s r : ByteArray) (la bs : List Int) : la.length ≤ 1048576 → bs.length ≤ 1048576 → s.size + r.size ≤ 1048576 → (joinL n la bs).length ≤ 4194304 := by
  intro h1 h2 _; rw [join_len]; omega
end Go.Proofs.YtpcnoiigbmiejaaDoor.join
namespace Go.Proofs.YtpcnoiigbmiejaaDoor.split
open Go.ChangeShapes Go.WideShapes Go.ChangeAt Go.RowKit
open Go.Proofs.YtpcnoiigbmiejaaDoor.lib Go.Proofs.YtpcnoiigbmiejaaDoor.join
theorem len0 (n : Int) (s r : ByteArray) (bs : List Int) : bs.length ≤ 1048576 → s.size + r.size ≤ 1048576 → (loL n bs).length ≤ 4194304 := by
  intro h1 _
  have := lo_len n bs bs.length
  rw [List.take_length] at this; omega
theorem len1 (n : Int) (s r : ByteArray) (bs : List Int) : bs.length ≤ 1048576 → s.size + r.size ≤ 1048576 → (hiL n bs).length ≤ 4194304 := by
  intro h1 _
  have := lo_len n bs bs.length
  rw [List.take_length] at this; omega
end Go.Proofs.YtpcnoiigbmiejaaDoor.split
