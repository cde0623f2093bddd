/- JoinLists and SplitList, the program's and the reference's: their contracts. -/
import Derived.Test.YtpjfpiohhgoeaaaRows
import Derived.Test.YtpjfpiohhgoeaaaLib
import Derived.Test.YtpjfpiohhgoeaaaSl
import Derived.RegionTactic
import Derived.ChangeAlike
namespace Go.Proofs.Ytpjfpiohhgoeaaa.join
set_option linter.unusedVariables false
set_option linter.unusedSimpArgs false
open Go.ChangeShapes Go.WideShapes Go.ChangeAt Go.RowKit
open Go.Proofs.Ytpjfpiohhgoeaaa.lib


def joinL (n : Int) (la bs : List Int) : List Int := la ++ bs.map fun x => wrap64 (x + n)
theorem join_step (n : Int) (la bs : List Int) (k : Nat) (h : k < bs.length) : joinL n la (bs.take (k + 1)) = joinL n la (bs.take k) ++ [wrap64 (bs.getD k 0 + n)] := by
  unfold joinL
  rw [List.take_succ_eq_append_getElem h, List.map_append, List.append_assoc]
  simp only [List.map_cons, List.map_nil, List.getD_eq_getElem?_getD, List.getElem?_eq_getElem h, Option.getD_some]
theorem join_len (n : Int) (la bs : List Int) : (joinL n la bs).length = la.length + bs.length := by simp [joinL]

theorem emptyRow (T : TypeId) (w : World) (B H : Nat) (hH : w.heap.size = H) (hB : B ≤ H) : OwnI T (w.alloc (.cells #[] T)) B (.slice (some ⟨H, 0, none⟩) 0 0) [] := by
  subst hH
  exact World.ownsRow_made w #[] 0 hB (by decide) rfl

set_option maxHeartbeats 400000 in
theorem impl_core (n : Int) (s r : ByteArray) (va : Value) (ao : Option Addr) (cap : Nat) (la bs : List Int) (w : World) (ha : Reads w va la)
    (hr : bs = [] ∨ ∃ b off, ao = some ⟨b, off, none⟩ ∧ ∀ i, i < bs.length → w.cell? ⟨b, off + i, none⟩ = some (.int .i64 (bs.getD i 0))) (hn : la.length + bs.length ≤ 2199023255552) :
    Calls Try.prog 13 #[.agg #[.int .i64 n, .string s, .string r], va, .slice ao bs.length cap] w fun e w' => ∃ v, e = .returned v ∧ OwnI 3 w' w.heap.size v (joinL n la bs) ∧ Below w.heap.size w w' := by
  obtain ⟨m, hm⟩ : ∃ m, m = bs.length := ⟨_, rfl⟩
  rw [← hm] at hn ⊢
  have HN : Hid (m = bs.length) := hm
  have HR := Lib.hid hr
  have ha' : Reads ((w.alloc (.cells #[.int .i64 n, .string s, .string r] 29)).alloc (.cells #[] 3)) va la :=
    ha.below (((Below.refl w.heap.size w).alloc (Nat.le_refl _) _).alloc (by simp) _) (Nat.le_refl _)
  have he := emptyRow 3 (w.alloc (.cells #[.int .i64 n, .string s, .string r] 29)) (w.heap.size + 1) (w.heap.size + 1) (by simp) (Nat.le_refl _)
  have hs1 : w.heap.size + 1 ≤ ((w.alloc (.cells #[.int .i64 n, .string s, .string r] 29)).alloc (.cells #[] 3)).heap.size := by simp
  have hlen : ([] : List Int).length + la.length ≤ 4398046511104 := by simp; omega
  have HA := Lib.hid (show _ ∧ _ ∧ _ ∧ _ from ⟨ha', he, hs1, hlen⟩)
  clear hr hm ha ha' he hs1 hlen
  go_enter Try.func13, Try.ntmps13
  go_wp2_with (at_builtin; refine wpList_appAll _ rfl (.tmp 10) (.tmp 11) 26 rfl (w.heap.size + 1) 3 Try.underlying26 sl.infoInt _ [] la rfl HA.out.2.1 va rfl HA.out.1 HA.out.2.2.2 HA.out.2.2.1 ?_)
  intro v0 w0 hown0 hg0 _
  have hb0 : Below (w.heap.size + 1) (w.alloc (.cells #[.int .i64 n, .string s, .string r] 29)) w0 :=
    ((Below.refl (w.heap.size + 1) _).alloc (by simp) _).grown hg0 (by simp) (fun k hk => by simp [Value.ownBlock] at hk; omega)
  have hO := Lib.hid hown0
  clear hown0 hg0
  go_wp2
  go_loopw [7, 15] (fun v i wr => ∃ k : Nat, k ≤ m ∧ i = .int .i64 k ∧ OwnI 3 wr (w.heap.size + 1) v (joinL n la (bs.take k)) ∧ Below (w.heap.size + 1) (w.alloc (.cells #[.int .i64 n, .string s, .string r] 29)) wr) (fun _ i _ => m - (intOf i).toNat)
  case atStart => exact ⟨0, Nat.zero_le _, rfl, by simpa [joinL] using hO.out, hb0⟩
  case round =>
    obtain ⟨k, hk, rfl, hown, hnx⟩ := hrel
    by_cases hlt : k < m
    · have hr' : ∃ b off, ao = some ⟨b, off, none⟩ ∧ ∀ i, i < bs.length → w.cell? ⟨b, off + i, none⟩ = some (.int .i64 (bs.getD i 0)) := by
        rcases HR.out with h | h
        · have := HN.out; rw [h] at this; simp at this; omega
        · exact h
      obtain ⟨b, off, rfl, hc⟩ := hr'
      have hcell : wr.cell? ⟨b, off + k, none⟩ = some (.int .i64 (bs.getD k 0)) := by
        have hx := hc k (by have := HN.out; omega)
        have hltb : b < w.heap.size := World.block_lt_of_cell? w _ hx
        rw [hnx.cell (p := ⟨b, off + k, none⟩) (by show b < _; omega)]
        rw [((Below.refl w.heap.size w).alloc (Nat.le_refl _) _).cell (p := ⟨b, off + k, none⟩) hltb]; exact hx
      have hbox : wr.cell? ⟨w.heap.size, 0, none⟩ = some (.int .i64 n) := by
        rw [hnx.cell (p := ⟨w.heap.size, 0, none⟩) (by show w.heap.size < _; omega)]
        simp
      have hsz := hnx.size
      have HS := Lib.hid (join_step n la bs k (by have := HN.out; omega))
      have HL : Hid ((joinL n la (bs.take k)).length = la.length + k) := by have := HN.out; rw [Hid, join_len]; simp; omega
      have HO := Lib.hid hown
      have HX := Lib.hid hnx
      obtain ⟨x, hx⟩ : ∃ x, x = bs.getD k 0 := ⟨_, rfl⟩
      rw [← hx] at hcell
      have HXX := Lib.hid hx
      clear hc HR hown hnx hx
      go_wp2_with (at_builtin; refine wpList_app1 wr rfl (.tmp 19) (.tmp 24) 26 rfl (w.heap.size + 1) 3 (.int .i64 0) 8 Try.underlying26 sl.infoInt rfl (by decide) _ _ _ (.int .i64 (wrap64 (x + n))) rfl HO.out wr.heap.size rfl rfl rfl (by rw [HL.out]; omega) (by simp at hsz; omega) ?_)
      intro g cap' w1 hown1 hgr
      have hown1' : OwnI 3 w1 (w.heap.size + 1) (.slice (some ⟨g, 0, none⟩) ((joinL n la (bs.take k)).length + 1) cap') (joinL n la (bs.take (k + 1))) := by
        rw [HS.out, ← HXX.out]; unfold OwnI; rw [List.length_append, ivs_append]; exact hown1
      have hb1 := HX.out.trans (hgr.below HO.out (by simp at hsz; omega))
      have HO1 := Lib.hid hown1'
      have HB1 := Lib.hid hb1
      clear hown1 hgr hown1' hb1
      go_wp2
      go_roundw
      case rel => exact ⟨k + 1, by omega, by go_num, HO1.out, HB1.out⟩
      case measure => simp [intOf]; omega
    · obtain rfl : k = m := by omega
      have HO := Lib.hid hown
      have HX := Lib.hid hnx
      clear hown hnx
      go_wp2
      go_ret
      refine ⟨_, rfl, ?_, ?_⟩
      · have h := HO.out
        have e := HN.out
        rw [e, List.take_length] at h
        exact h.mono (by omega)
      · exact ((Below.refl w.heap.size w).alloc (Nat.le_refl _) _).trans (HX.out.mono (by omega))
set_option maxHeartbeats 400000 in
theorem spec_core (n : Int) (s r : ByteArray) (va : Value) (ao : Option Addr) (cap : Nat) (la bs : List Int) (w : World) (ha : Reads w va la)
    (hr : bs = [] ∨ ∃ b off, ao = some ⟨b, off, none⟩ ∧ ∀ i, i < bs.length → w.cell? ⟨b, off + i, none⟩ = some (.int .i64 (bs.getD i 0))) (hn : la.length + bs.length ≤ 2199023255552) :
    Calls Try.prog 10 #[.agg #[.int .i64 n, .string s, .string r], va, .slice ao bs.length cap] w fun e w' => ∃ v, e = .returned v ∧ OwnI 3 w' w.heap.size v (joinL n la bs) ∧ Below w.heap.size w w' := by
  obtain ⟨m, hm⟩ : ∃ m, m = bs.length := ⟨_, rfl⟩
  rw [← hm] at hn ⊢
  have HN : Hid (m = bs.length) := hm
  have HR := Lib.hid hr
  have ha' : Reads ((w.alloc (.cells #[.int .i64 n, .string s, .string r] 29)).alloc (.cells #[] 3)) va la :=
    ha.below (((Below.refl w.heap.size w).alloc (Nat.le_refl _) _).alloc (by simp) _) (Nat.le_refl _)
  have he := emptyRow 3 (w.alloc (.cells #[.int .i64 n, .string s, .string r] 29)) (w.heap.size + 1) (w.heap.size + 1) (by simp) (Nat.le_refl _)
  have hs1 : w.heap.size + 1 ≤ ((w.alloc (.cells #[.int .i64 n, .string s, .string r] 29)).alloc (.cells #[] 3)).heap.size := by simp
  have hlen : ([] : List Int).length + la.length ≤ 4398046511104 := by simp; omega
  have HA := Lib.hid (show _ ∧ _ ∧ _ ∧ _ from ⟨ha', he, hs1, hlen⟩)
  clear hr hm ha ha' he hs1 hlen
  go_enter Try.func10, Try.ntmps10
  go_wp2_with (at_builtin; refine wpList_appAll _ rfl (.tmp 9) (.tmp 10) 26 rfl (w.heap.size + 1) 3 Try.underlying26 sl.infoInt _ [] la rfl HA.out.2.1 va rfl HA.out.1 HA.out.2.2.2 HA.out.2.2.1 ?_)
  intro v0 w0 hown0 hg0 _
  have hb0 : Below (w.heap.size + 1) (w.alloc (.cells #[.int .i64 n, .string s, .string r] 29)) w0 :=
    ((Below.refl (w.heap.size + 1) _).alloc (by simp) _).grown hg0 (by simp) (fun k hk => by simp [Value.ownBlock] at hk; omega)
  have hO := Lib.hid hown0
  clear hown0 hg0
  go_wp2
  go_loopw [7, 8] (fun v i wr => ∃ k : Nat, k ≤ m ∧ i = .int .i64 k ∧ OwnI 3 wr (w.heap.size + 1) v (joinL n la (bs.take k)) ∧ Below (w.heap.size + 1) (w.alloc (.cells #[.int .i64 n, .string s, .string r] 29)) wr) (fun _ i _ => m - (intOf i).toNat)
  case atStart => exact ⟨0, Nat.zero_le _, rfl, by simpa [joinL] using hO.out, hb0⟩
  case round =>
    obtain ⟨k, hk, rfl, hown, hnx⟩ := hrel
    by_cases hlt : k < m
    · have hr' : ∃ b off, ao = some ⟨b, off, none⟩ ∧ ∀ i, i < bs.length → w.cell? ⟨b, off + i, none⟩ = some (.int .i64 (bs.getD i 0)) := by
        rcases HR.out with h | h
        · have := HN.out; rw [h] at this; simp at this; omega
        · exact h
      obtain ⟨b, off, rfl, hc⟩ := hr'
      have hcell : wr.cell? ⟨b, off + k, none⟩ = some (.int .i64 (bs.getD k 0)) := by
        have hx := hc k (by have := HN.out; omega)
        have hltb : b < w.heap.size := World.block_lt_of_cell? w _ hx
        rw [hnx.cell (p := ⟨b, off + k, none⟩) (by show b < _; omega)]
        rw [((Below.refl w.heap.size w).alloc (Nat.le_refl _) _).cell (p := ⟨b, off + k, none⟩) hltb]; exact hx
      have hbox : wr.cell? ⟨w.heap.size, 0, none⟩ = some (.int .i64 n) := by
        rw [hnx.cell (p := ⟨w.heap.size, 0, none⟩) (by show w.heap.size < _; omega)]
        simp
      have hsz := hnx.size
      have HS := Lib.hid (join_step n la bs k (by have := HN.out; omega))
      have HL : Hid ((joinL n la (bs.take k)).length = la.length + k) := by have := HN.out; rw [Hid, join_len]; simp; omega
      have HO := Lib.hid hown
      have HX := Lib.hid hnx
      obtain ⟨x, hx⟩ : ∃ x, x = bs.getD k 0 := ⟨_, rfl⟩
      rw [← hx] at hcell
      have HXX := Lib.hid hx
      clear hc HR hown hnx hx
      go_wp2
      have hs2 : w.heap.size + 1 ≤ wr.heap.size := by simpa using hsz
      have hl2 : (joinL n la (bs.take k)).length + 1 ≤ 4398046511104 := by rw [HL.out]; omega
      have ho2 : OwnI 3 wr.drew (w.heap.size + 1) _ (joinL n la (bs.take k)) := HO.out
      have H2 := Lib.hid (show _ ∧ _ ∧ _ from ⟨hs2, hl2, ho2⟩)
      clear hs2 hl2 ho2
      go_region_law (refine step_app1 wr.drew rfl (.tmp 18) (.tmp 26) 26 rfl (w.heap.size + 1) 3 (.int .i64 0) 8 Try.underlying26 sl.infoInt rfl (by decide) _ _ _ (.int .i64 (IntKind.i64.wrap (x + n))) rfl H2.out.2.2 wr.heap.size rfl rfl rfl H2.out.2.1 H2.out.1 ?_; intro g cap' w1 hown1 hgr)
      all_goals
        have hown1' : OwnI 3 w1 (w.heap.size + 1) (.slice (some ⟨g, 0, none⟩) ((joinL n la (bs.take k)).length + 1) cap') (joinL n la (bs.take (k + 1))) := by
          rw [HS.out, ← HXX.out]; unfold OwnI wrap64; rw [List.length_append, ivs_append, ← IntKind.wrap_i64]; exact hown1
        have hb1 := HX.out.drew.trans (hgr.below (w := wr.drew) HO.out (by simpa using hsz))
        have HO1 := Lib.hid hown1'
        have HB1 := Lib.hid hb1
        clear hown1 hgr hown1' hb1
        go_wp2
        go_roundw
        case rel => exact ⟨k + 1, by omega, by go_num, HO1.out, HB1.out⟩
        case measure => simp [intOf]; omega
    · obtain rfl : k = m := by omega
      have HO := Lib.hid hown
      have HX := Lib.hid hnx
      clear hown hnx
      go_wp2
      go_ret
      refine ⟨_, rfl, ?_, ?_⟩
      · have h := HO.out
        have e := HN.out
        rw [e, List.take_length] at h
        exact h.mono (by omega)
      · exact ((Below.refl w.heap.size w).alloc (Nat.le_refl _) _).trans (HX.out.mono (by omega))

theorem impl_any (n : Int) (s r : ByteArray) (va vb : Value) (la bs : List Int) (w : World) (ha : Reads w va la) (hb : Reads w vb bs) (hn : la.length + bs.length ≤ 2199023255552) :
    Calls Try.prog 13 #[.agg #[.int .i64 n, .string s, .string r], va, vb] w fun e w' => ∃ v, e = .returned v ∧ OwnI 3 w' w.heap.size v (joinL n la bs) ∧ Below w.heap.size w w' := by
  obtain ⟨ao, cap, rfl, hr, _⟩ := hb
  exact impl_core n s r va ao cap la bs w ha hr hn
theorem spec_any (n : Int) (s r : ByteArray) (va vb : Value) (la bs : List Int) (w : World) (ha : Reads w va la) (hb : Reads w vb bs) (hn : la.length + bs.length ≤ 2199023255552) :
    Calls Try.prog 10 #[.agg #[.int .i64 n, .string s, .string r], va, vb] w fun e w' => ∃ v, e = .returned v ∧ OwnI 3 w' w.heap.size v (joinL n la bs) ∧ Below w.heap.size w w' := by
  obtain ⟨ao, cap, rfl, hr, _⟩ := hb
  exact spec_core n s r va ao cap la bs w ha hr hn

/-! ### SplitList -/
def loL (n : Int) (l : List Int) : List Int := l.filter fun x => decide (x < n)
def hiL (n : Int) (l : List Int) : List Int := (l.filter fun x => !decide (x < n)).map fun x => wrap64 (x - n)
theorem take_get (l : List Int) (k : Nat) (h : k < l.length) : l.take (k + 1) = l.take k ++ [l.getD k 0] := by
  rw [List.take_succ_eq_append_getElem h]
  simp only [List.getD_eq_getElem?_getD, List.getElem?_eq_getElem h, Option.getD_some]
theorem lo_yes (n : Int) (l : List Int) (k : Nat) (h : k < l.length) (x : Int) (hx : x = l.getD k 0) (hlt : x < n) : loL n (l.take (k + 1)) = loL n (l.take k) ++ [x] ∧ hiL n (l.take (k + 1)) = hiL n (l.take k) := by
  rw [take_get l k h, ← hx]; simp [loL, hiL, hlt]
theorem lo_no (n : Int) (l : List Int) (k : Nat) (h : k < l.length) (x : Int) (hx : x = l.getD k 0) (hlt : ¬ x < n) : loL n (l.take (k + 1)) = loL n (l.take k) ∧ hiL n (l.take (k + 1)) = hiL n (l.take k) ++ [wrap64 (x - n)] := by
  rw [take_get l k h, ← hx]; simp [loL, hiL, hlt]
theorem lo_len (n : Int) (l : List Int) (k : Nat) : (loL n (l.take k)).length ≤ k ∧ (hiL n (l.take k)).length ≤ k := by
  unfold loL hiL
  rw [List.length_map]
  have h1 := List.length_filter_le (fun x => decide (x < n)) (l.take k)
  have h2 := List.length_filter_le (fun x => !decide (x < n)) (l.take k)
  have h3 := List.length_take_le k l
  omega

set_option maxHeartbeats 800000 in
theorem impl_split (n : Int) (s r : ByteArray) (ao : Option Addr) (cap : Nat) (bs : List Int) (w : World)
    (hr : bs = [] ∨ ∃ b off, ao = some ⟨b, off, none⟩ ∧ ∀ i, i < bs.length → w.cell? ⟨b, off + i, none⟩ = some (.int .i64 (bs.getD i 0))) (hn : bs.length ≤ 2199023255552) :
    Calls Try.prog 18 #[.agg #[.int .i64 n, .string s, .string r], .slice ao bs.length cap] w fun e w' => ∃ v1 v2, e = .returned (.tuple #[v1, v2]) ∧ Two 3 w' w.heap.size v1 v2 (loL n bs) (hiL n bs) ∧ Below w.heap.size w w' := by
  obtain ⟨m, hm⟩ : ∃ m, m = bs.length := ⟨_, rfl⟩
  rw [← hm] at hn ⊢
  have HN : Hid (m = bs.length) := hm
  have HR := Lib.hid hr
  have h0 : Two 3 (((w.alloc (.cells #[.int .i64 n, .string s, .string r] 29)).alloc (.cells #[] 3)).alloc (.cells #[] 3)) (w.heap.size + 1) (.slice (some ⟨w.heap.size + 1, 0, none⟩) 0 0) (.slice (some ⟨w.heap.size + 1 + 1, 0, none⟩) 0 0) [] [] := by
    refine ⟨?_, ?_, ?_⟩
    · exact (emptyRow 3 (w.alloc (.cells #[.int .i64 n, .string s, .string r] 29)) (w.heap.size + 1) (w.heap.size + 1) (by simp) (Nat.le_refl _)).below ((Below.refl _ _).alloc (Nat.le_refl _) _) (Nat.le_refl _)
    · exact emptyRow 3 _ (w.heap.size + 1) (w.heap.size + 1 + 1) (by simp) (by omega)
    · intro k h1 h2
      simp [Value.ownBlock] at h1 h2
      omega
  have hb0 : Below (w.heap.size + 1) (w.alloc (.cells #[.int .i64 n, .string s, .string r] 29)) (((w.alloc (.cells #[.int .i64 n, .string s, .string r] 29)).alloc (.cells #[] 3)).alloc (.cells #[] 3)) :=
    ((Below.refl _ _).alloc (by simp) _).alloc (by simp) _
  have H0 := Lib.hid (show _ ∧ _ from ⟨h0, hb0⟩)
  clear hr hm h0 hb0
  go_enter Try.func18, Try.ntmps18
  go_wp2
  go_loopw [6, 7, 14] (fun v1 v2 i wr => ∃ k : Nat, k ≤ m ∧ i = .int .i64 k ∧ Two 3 wr (w.heap.size + 1) v1 v2 (loL n (bs.take k)) (hiL n (bs.take k)) ∧ Below (w.heap.size + 1) (w.alloc (.cells #[.int .i64 n, .string s, .string r] 29)) wr) (fun _ _ i _ => m - (intOf i).toNat)
  case atStart => exact ⟨0, Nat.zero_le _, rfl, by simpa [loL, hiL] using H0.out.1, H0.out.2⟩
  case round =>
    obtain ⟨k, hk, rfl, hown, hnx⟩ := hrel
    by_cases hlt : k < m
    · have hr' : ∃ b off, ao = some ⟨b, off, none⟩ ∧ ∀ i, i < bs.length → w.cell? ⟨b, off + i, none⟩ = some (.int .i64 (bs.getD i 0)) := by
        rcases HR.out with h | h
        · have := HN.out; rw [h] at this; simp at this; omega
        · exact h
      obtain ⟨b, off, rfl, hc⟩ := hr'
      have hcell : wr.cell? ⟨b, off + k, none⟩ = some (.int .i64 (bs.getD k 0)) := by
        have hx := hc k (by have := HN.out; omega)
        have hltb : b < w.heap.size := World.block_lt_of_cell? w _ hx
        rw [hnx.cell (p := ⟨b, off + k, none⟩) (by show b < _; omega)]
        rw [((Below.refl w.heap.size w).alloc (Nat.le_refl _) _).cell (p := ⟨b, off + k, none⟩) hltb]; exact hx
      have hbox : wr.cell? ⟨w.heap.size, 0, none⟩ = some (.int .i64 n) := by
        rw [hnx.cell (p := ⟨w.heap.size, 0, none⟩) (by show w.heap.size < _; omega)]
        simp
      have hsz : w.heap.size + 1 ≤ wr.heap.size := by simpa using hnx.size
      obtain ⟨x, hx⟩ : ∃ x, x = bs.getD k 0 := ⟨_, rfl⟩
      have HY := fun h => lo_yes n bs k (by have := HN.out; omega) x hx h
      have HZ := fun h => lo_no n bs k (by have := HN.out; omega) x hx h
      have HL := Lib.hid (lo_len n bs k)
      rw [← hx] at hcell
      have HO := Lib.hid hown
      have HX := Lib.hid hnx
      clear hc HR hown hnx hx
      by_cases hxn : x < n
      · have HS := Lib.hid (HY hxn)
        clear HY HZ
        go_wp2_with (at_builtin; refine wpList_app1 wr rfl (.tmp 22) (.tmp 24) 26 rfl (w.heap.size + 1) 3 (.int .i64 0) 8 Try.underlying26 sl.infoInt rfl (by decide) _ _ _ (.int .i64 x) rfl HO.out.1 wr.heap.size rfl rfl rfl (by have := HL.out; omega) hsz ?_)
        intro g cap' w1 hown1 hgr
        have hown1' : OwnI 3 w1 (w.heap.size + 1) (.slice (some ⟨g, 0, none⟩) ((loL n (bs.take k)).length + 1) cap') (loL n (bs.take (k + 1))) := by
          rw [HS.out.1]; unfold OwnI; rw [List.length_append, ivs_append]; exact hown1
        have ht := HO.out.left hgr hown1'
        rw [← HS.out.2] at ht
        have HO1 := Lib.hid (show _ ∧ _ from ⟨ht, HX.out.trans (hgr.below HO.out.1 hsz)⟩)
        clear hown1 hgr hown1' ht
        go_wp2
        go_roundw
        case rel => exact ⟨k + 1, by omega, by go_num, HO1.out.1, HO1.out.2⟩
        case measure => simp [intOf]; omega
      · have HS := Lib.hid (HZ hxn)
        clear HY HZ
        go_wp2_with (at_builtin; refine wpList_app1 wr rfl (.tmp 26) (.tmp 31) 26 rfl (w.heap.size + 1) 3 (.int .i64 0) 8 Try.underlying26 sl.infoInt rfl (by decide) _ _ _ (.int .i64 (wrap64 (x - n))) rfl HO.out.2.1 wr.heap.size rfl rfl rfl (by have := HL.out; omega) hsz ?_)
        intro g cap' w1 hown1 hgr
        have hown1' : OwnI 3 w1 (w.heap.size + 1) (.slice (some ⟨g, 0, none⟩) ((hiL n (bs.take k)).length + 1) cap') (hiL n (bs.take (k + 1))) := by
          rw [HS.out.2]; unfold OwnI; rw [List.length_append, ivs_append]; exact hown1
        have ht := HO.out.right hgr hown1'
        rw [← HS.out.1] at ht
        have HO1 := Lib.hid (show _ ∧ _ from ⟨ht, HX.out.trans (hgr.below HO.out.2.1 hsz)⟩)
        clear hown1 hgr hown1' ht
        go_wp2
        go_roundw
        case rel => exact ⟨k + 1, by omega, by go_num, HO1.out.1, HO1.out.2⟩
        case measure => simp [intOf]; omega
    · obtain rfl : k = m := by omega
      have HO := Lib.hid hown
      have HX := Lib.hid hnx
      clear hown hnx
      go_wp2
      go_ret2
      refine ⟨_, _, rfl, ?_, ?_⟩
      · have h := HO.out
        have e := HN.out
        rw [e, List.take_length] at h
        exact ⟨h.1.mono (by omega), h.2.1.mono (by omega), h.2.2⟩
      · exact ((Below.refl w.heap.size w).alloc (Nat.le_refl _) _).trans (HX.out.mono (by omega))
set_option maxHeartbeats 800000 in
theorem spec_split (n : Int) (s r : ByteArray) (ao : Option Addr) (cap : Nat) (bs : List Int) (w : World)
    (hr : bs = [] ∨ ∃ b off, ao = some ⟨b, off, none⟩ ∧ ∀ i, i < bs.length → w.cell? ⟨b, off + i, none⟩ = some (.int .i64 (bs.getD i 0))) (hn : bs.length ≤ 2199023255552) :
    Calls Try.prog 17 #[.agg #[.int .i64 n, .string s, .string r], .slice ao bs.length cap] w fun e w' => ∃ v1 v2, e = .returned (.tuple #[v1, v2]) ∧ Two 3 w' w.heap.size v1 v2 (loL n bs) (hiL n bs) ∧ Below w.heap.size w w' := by
  obtain ⟨m, hm⟩ : ∃ m, m = bs.length := ⟨_, rfl⟩
  rw [← hm] at hn ⊢
  have HN : Hid (m = bs.length) := hm
  have HR := Lib.hid hr
  have h0 : Two 3 (((w.alloc (.cells #[.int .i64 n, .string s, .string r] 29)).alloc (.cells #[] 3)).alloc (.cells #[] 3)) (w.heap.size + 1) (.slice (some ⟨w.heap.size + 1, 0, none⟩) 0 0) (.slice (some ⟨w.heap.size + 1 + 1, 0, none⟩) 0 0) [] [] := by
    refine ⟨?_, ?_, ?_⟩
    · exact (emptyRow 3 (w.alloc (.cells #[.int .i64 n, .string s, .string r] 29)) (w.heap.size + 1) (w.heap.size + 1) (by simp) (Nat.le_refl _)).below ((Below.refl _ _).alloc (Nat.le_refl _) _) (Nat.le_refl _)
    · exact emptyRow 3 _ (w.heap.size + 1) (w.heap.size + 1 + 1) (by simp) (by omega)
    · intro k h1 h2
      simp [Value.ownBlock] at h1 h2
      omega
  have hb0 : Below (w.heap.size + 1) (w.alloc (.cells #[.int .i64 n, .string s, .string r] 29)) (((w.alloc (.cells #[.int .i64 n, .string s, .string r] 29)).alloc (.cells #[] 3)).alloc (.cells #[] 3)) :=
    ((Below.refl _ _).alloc (by simp) _).alloc (by simp) _
  have H0 := Lib.hid (show _ ∧ _ from ⟨h0, hb0⟩)
  clear hr hm h0 hb0
  go_enter Try.func17, Try.ntmps17
  go_wp2
  go_loopw [6, 7, 8] (fun v1 v2 i wr => ∃ k : Nat, k ≤ m ∧ i = .int .i64 k ∧ Two 3 wr (w.heap.size + 1) v1 v2 (loL n (bs.take k)) (hiL n (bs.take k)) ∧ Below (w.heap.size + 1) (w.alloc (.cells #[.int .i64 n, .string s, .string r] 29)) wr) (fun _ _ i _ => m - (intOf i).toNat)
  case atStart => exact ⟨0, Nat.zero_le _, rfl, by simpa [loL, hiL] using H0.out.1, H0.out.2⟩
  case round =>
    obtain ⟨k, hk, rfl, hown, hnx⟩ := hrel
    by_cases hlt : k < m
    · have hr' : ∃ b off, ao = some ⟨b, off, none⟩ ∧ ∀ i, i < bs.length → w.cell? ⟨b, off + i, none⟩ = some (.int .i64 (bs.getD i 0)) := by
        rcases HR.out with h | h
        · have := HN.out; rw [h] at this; simp at this; omega
        · exact h
      obtain ⟨b, off, rfl, hc⟩ := hr'
      have hcell : wr.cell? ⟨b, off + k, none⟩ = some (.int .i64 (bs.getD k 0)) := by
        have hx := hc k (by have := HN.out; omega)
        have hltb : b < w.heap.size := World.block_lt_of_cell? w _ hx
        rw [hnx.cell (p := ⟨b, off + k, none⟩) (by show b < _; omega)]
        rw [((Below.refl w.heap.size w).alloc (Nat.le_refl _) _).cell (p := ⟨b, off + k, none⟩) hltb]; exact hx
      have hbox : wr.cell? ⟨w.heap.size, 0, none⟩ = some (.int .i64 n) := by
        rw [hnx.cell (p := ⟨w.heap.size, 0, none⟩) (by show w.heap.size < _; omega)]
        simp
      have hsz : w.heap.size + 1 ≤ wr.heap.size := by simpa using hnx.size
      obtain ⟨x, hx⟩ : ∃ x, x = bs.getD k 0 := ⟨_, rfl⟩
      have HY := fun h => lo_yes n bs k (by have := HN.out; omega) x hx h
      have HZ := fun h => lo_no n bs k (by have := HN.out; omega) x hx h
      have HL := Lib.hid (lo_len n bs k)
      rw [← hx] at hcell
      have HO := Lib.hid hown
      have HX := Lib.hid hnx
      clear hc HR hown hnx hx
      by_cases hxn : x < n
      · have HS := Lib.hid (HY hxn)
        clear HY HZ
        have ho2 : OwnI 3 wr.drew (w.heap.size + 1) _ (loL n (bs.take k)) := HO.out.1
        have HO2 := Lib.hid ho2
        clear ho2
        go_wp2
        go_region
        go_wp2_with (at_builtin; refine wpList_app1 wr.drew rfl (.tmp 24) (.tmp 29) 26 rfl (w.heap.size + 1) 3 (.int .i64 0) 8 Try.underlying26 sl.infoInt rfl (by decide) _ _ _ (.int .i64 x) rfl HO2.out wr.heap.size rfl rfl rfl (by have := HL.out; omega) hsz ?_)
        intro g cap' w1 hown1 hgr
        have hown1' : OwnI 3 w1 (w.heap.size + 1) (.slice (some ⟨g, 0, none⟩) ((loL n (bs.take k)).length + 1) cap') (loL n (bs.take (k + 1))) := by
          rw [HS.out.1]; unfold OwnI; rw [List.length_append, ivs_append]; exact hown1
        have ht := Two.left (w := wr.drew) HO.out hgr hown1'
        rw [← HS.out.2] at ht
        have HO1 := Lib.hid (show _ ∧ _ from ⟨ht, HX.out.drew.trans (hgr.below (w := wr.drew) HO2.out hsz)⟩)
        clear hown1 hgr hown1' ht
        go_wp2
        go_roundw
        case rel => exact ⟨k + 1, by omega, by go_num, HO1.out.1, HO1.out.2⟩
        case measure => simp [intOf]; omega
      · have HS := Lib.hid (HZ hxn)
        clear HY HZ
        have ho2 : OwnI 3 wr.drew.drew (w.heap.size + 1) _ (hiL n (bs.take k)) := HO.out.2.1
        have hl2 : (hiL n (bs.take k)).length + 1 ≤ 4398046511104 := by have := HL.out; omega
        have HO2 := Lib.hid ho2
        have HL2 := Lib.hid hl2
        clear ho2 hl2
        go_wp2
        go_region
        go_wp2
        go_region_law (refine step_app1 wr.drew.drew rfl (.tmp 31) (.tmp 39) 26 rfl (w.heap.size + 1) 3 (.int .i64 0) 8 Try.underlying26 sl.infoInt rfl (by decide) _ _ _ (.int .i64 (IntKind.i64.wrap (x - n))) rfl HO2.out wr.heap.size rfl rfl rfl HL2.out hsz ?_; intro g cap' w1 hown1 hgr)
        all_goals
          have hown1' : OwnI 3 w1 (w.heap.size + 1) (.slice (some ⟨g, 0, none⟩) ((hiL n (bs.take k)).length + 1) cap') (hiL n (bs.take (k + 1))) := by
            rw [HS.out.2]; unfold OwnI wrap64; rw [List.length_append, ivs_append, ← IntKind.wrap_i64]; exact hown1
          have ht := Two.right (w := wr.drew.drew) HO.out hgr hown1'
          rw [← HS.out.1] at ht
          have HO1 := Lib.hid (show _ ∧ _ from ⟨ht, HX.out.drew.drew.trans (hgr.below (w := wr.drew.drew) HO2.out hsz)⟩)
          clear hown1 hgr hown1' ht
          go_wp2
          go_roundw
          case rel => exact ⟨k + 1, by omega, by go_num, HO1.out.1, HO1.out.2⟩
          case measure => simp [intOf]; omega
    · obtain rfl : k = m := by omega
      have HO := Lib.hid hown
      have HX := Lib.hid hnx
      clear hown hnx
      go_wp2
      go_ret2
      refine ⟨_, _, rfl, ?_, ?_⟩
      · have h := HO.out
        have e := HN.out
        rw [e, List.take_length] at h
        exact ⟨h.1.mono (by omega), h.2.1.mono (by omega), h.2.2⟩
      · exact ((Below.refl w.heap.size w).alloc (Nat.le_refl _) _).trans (HX.out.mono (by omega))

theorem impl_split_any (n : Int) (s r : ByteArray) (v : Value) (bs : List Int) (w : World) (h : Reads w v bs) (hn : bs.length ≤ 2199023255552) :
    Calls Try.prog 18 #[.agg #[.int .i64 n, .string s, .string r], v] w fun e w' => ∃ v1 v2, e = .returned (.tuple #[v1, v2]) ∧ Two 3 w' w.heap.size v1 v2 (loL n bs) (hiL n bs) ∧ Below w.heap.size w w' := by
  obtain ⟨ao, cap, rfl, hr, _⟩ := h
  exact impl_split n s r ao cap bs w hr hn
theorem spec_split_any (n : Int) (s r : ByteArray) (v : Value) (bs : List Int) (w : World) (h : Reads w v bs) (hn : bs.length ≤ 2199023255552) :
    Calls Try.prog 17 #[.agg #[.int .i64 n, .string s, .string r], v] w fun e w' => ∃ v1 v2, e = .returned (.tuple #[v1, v2]) ∧ Two 3 w' w.heap.size v1 v2 (loL n bs) (hiL n bs) ∧ Below w.heap.size w w' := by
  obtain ⟨ao, cap, rfl, hr, _⟩ := h
  exact spec_split n s r ao cap bs w hr hn

/-! the forms that the exact laws' walks take -/
theorem len0 (n : Int) (s r : ByteArray) (la bs : List Int) : la.length ≤ 1048576 → bs.length ≤ 1048576 → s.size + r.size ≤ 1048576 → (joinL n la bs).length ≤ 4194304 := by
  intro h1 h2 _; rw [join_len]; omega
theorem specE (n : Int) (s r : ByteArray) (la bs : List Int) (_ : (Lit.int .i64 n).wf = true) : la.length ≤ 1048576 → bs.length ≤ 1048576 → s.size + r.size ≤ 1048576 → ∀ (x1 x2 : Value) (w : World), Reads w x1 la → Reads w x2 bs →
    Calls Try.prog 10 #[.agg #[.int .i64 n, .string s, .string r], x1, x2] w fun e w' => ∃ v0, e = .returned (v0) ∧ OwnI 3 w' w.heap.size v0 (joinL n la bs) ∧ Below w.heap.size w w' :=
  fun h1 h2 _ x1 x2 w r1 r2 => spec_any n s r x1 x2 la bs w r1 r2 (by omega)
theorem implE (n : Int) (s r : ByteArray) (la bs : List Int) (_ : (Lit.int .i64 n).wf = true) : la.length ≤ 1048576 → bs.length ≤ 1048576 → s.size + r.size ≤ 1048576 → ∀ (x1 x2 : Value) (w : World), Reads w x1 la → Reads w x2 bs →
    Calls Try.prog 13 #[.agg #[.int .i64 n, .string s, .string r], x1, x2] w fun e w' => ∃ v0, e = .returned (v0) ∧ OwnI 3 w' w.heap.size v0 (joinL n la bs) ∧ Below w.heap.size w w' :=
  fun h1 h2 _ x1 x2 w r1 r2 => impl_any n s r x1 x2 la bs w r1 r2 (by omega)
end Go.Proofs.Ytpjfpiohhgoeaaa.join
namespace Go.Proofs.Ytpjfpiohhgoeaaa.split
open Go.ChangeShapes Go.WideShapes Go.ChangeAt Go.RowKit
open Go.Proofs.Ytpjfpiohhgoeaaa.lib Go.Proofs.Ytpjfpiohhgoeaaa.join
theorem len0 (n : Int) (s r : ByteArray) (bs : List Int) : bs.length ≤ 1048576 → s.size + r.size ≤ 1048576 → (loL n bs).length ≤ 4194304 := by
  intro h1 _
  have := lo_len n bs bs.length
  rw [List.take_length] at this; omega
theorem len1 (n : Int) (s r : ByteArray) (bs : List Int) : bs.length ≤ 1048576 → s.size + r.size ≤ 1048576 → (hiL n bs).length ≤ 4194304 := by
  intro h1 _
  have := lo_len n bs bs.length
  rw [List.take_length] at this; omega
theorem specE (n : Int) (s r : ByteArray) (bs : List Int) (_ : (Lit.int .i64 n).wf = true) : bs.length ≤ 1048576 → s.size + r.size ≤ 1048576 → ∀ (x1 : Value) (w : World), Reads w x1 bs →
    Calls Try.prog 17 #[.agg #[.int .i64 n, .string s, .string r], x1] w fun e w' => ∃ v0 v1, e = .returned (.tuple #[v0, v1]) ∧ Two 3 w' w.heap.size v0 v1 (loL n bs) (hiL n bs) ∧ Below w.heap.size w w' :=
  fun h1 _ x1 w r1 => spec_split_any n s r x1 bs w r1 (by omega)
theorem implE (n : Int) (s r : ByteArray) (bs : List Int) (_ : (Lit.int .i64 n).wf = true) : bs.length ≤ 1048576 → s.size + r.size ≤ 1048576 → ∀ (x1 : Value) (w : World), Reads w x1 bs →
    Calls Try.prog 18 #[.agg #[.int .i64 n, .string s, .string r], x1] w fun e w' => ∃ v0 v1, e = .returned (.tuple #[v0, v1]) ∧ Two 3 w' w.heap.size v0 v1 (loL n bs) (hiL n bs) ∧ Below w.heap.size w w' :=
  fun h1 _ x1 w r1 => impl_split_any n s r x1 bs w r1 (by omega)
end Go.Proofs.Ytpjfpiohhgoeaaa.split
