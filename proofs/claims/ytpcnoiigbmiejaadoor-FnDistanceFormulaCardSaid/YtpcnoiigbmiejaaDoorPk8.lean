/- Several texts in one: FmU, FmV, FmW, FmX, FmY, FmYa. -/
import Derived.Test.YtpcnoiigbmiejaaDoorPk1
import Derived.Test.YtpcnoiigbmiejaaDoorPk7
import Derived.Test.YtpcnoiigbmiejaaDoorShelfF
import Derived.OneCell
import Derived.Laws.Strings
import Derived.Laws.Strings2
import Derived.BigRegion
import Derived.Deep.CutRange
import Derived.Deep.DeepCutAuto
/- Formulas in the program: isQuantifier, and whether a letter is a variable. -/
namespace Go.Proofs.YtpcnoiigbmiejaaDoor.fmu
set_option linter.unusedVariables false
set_option linter.unusedSimpArgs false
open Go.Shelf
open Go.ChangeShapes Go.WideShapes Go.ChangeAt Go.RowKit
open Go.Proofs.YtpcnoiigbmiejaaDoor.lib Go.Proofs.YtpcnoiigbmiejaaDoor.fm Go.Proofs.YtpcnoiigbmiejaaDoor.fms Go.Proofs.YtpcnoiigbmiejaaDoor.fme Go.Proofs.YtpcnoiigbmiejaaDoor.fmt

set_option maxRecDepth 20000 in
theorem q_at0 : ∀ c : Fin 256, decide (0 ≤ Lib.indexByte [65, 83, 50, 51, 52] (UInt8.ofNat c.1)) = isQ c.1 := by decide
set_option maxRecDepth 20000 in
theorem v_at0 : ∀ c : Fin 256, decide (0 ≤ Lib.indexByte [97, 98, 99, 100] (UInt8.ofNat c.1)) = isV (UInt8.ofNat c.1) := by decide
theorem isVar_any (c : UInt8) (w : World) : Calls Tryd.prog 177 #[.string ⟨#[97, 98, 99, 100]⟩, .string ⟨#[c]⟩] w fun e w' => e = .returned (.bool (isV c)) ∧ w = w' := by
  have h := Any.strings_Contains_one Tryd.lays144 ⟨#[97, 98, 99, 100]⟩ c w
  refine h.mono fun e w' hh => ⟨?_, hh.2.symm⟩
  have hv := v_at0 ⟨c.toNat, c.toNat_lt⟩
  simp only [UInt8.ofNat_toNat] at hv
  rw [hh.1, ← hv]
theorem isQuantifier_any (T : TypeId) (H : Nat) (op : UInt8) (vs ps : List Nat) (fr al : Nat) (w : World) (hn : fmt.Node T w H op vs ps fr al) :
    Calls Tryd.prog 140 #[.pointer (some ⟨H, 0, none⟩)] w fun e w' => e = .returned (.bool (isQ op.toNat)) ∧ w = w' := by
  obtain ⟨vv, pv, _, _, c0, _⟩ := hn.cells
  have HQ : Hid (decide (0 ≤ Lib.indexByte [65, 83, 50, 51, 52] op) = isQ op.toNat) := by
    have hv := q_at0 ⟨op.toNat, op.toNat_lt⟩
    simp only [UInt8.ofNat_toNat] at hv
    exact hv
  have HI : Hid (∀ W, Calls Tryd.prog 179 #[.string ⟨#[65, 83, 50, 51, 52]⟩, .int .u8 op.toNat] W fun e w' => e = .returned (.int .i64 (Lib.indexByte [65, 83, 50, 51, 52] op)) ∧ W = w') := fun W => by
    have h := Any.strings_IndexByte Tryd.lays137 ⟨#[65, 83, 50, 51, 52]⟩ op.toNat W
    refine h.mono fun e w' hh => ⟨?_, hh.2.symm⟩
    rw [hh.1]
    simp
  obtain ⟨z, hz⟩ : ∃ z, z = Lib.indexByte [65, 83, 50, 51, 52] op := ⟨_, rfl⟩
  rw [← hz] at HQ HI
  clear hz
  go_enter Tryd.func140, Tryd.ntmps140
  go_wp2_with fail
  refine (HI.out _).mono ?_
  rintro e w1 ⟨rfl, rfl⟩
  go_wp2
  go_ret
  exact ⟨by rw [← HQ.out]; rfl, rfl⟩
end Go.Proofs.YtpcnoiigbmiejaaDoor.fmu

/- Formulas in the program: slices.Index over four bools. -/
namespace Go.Proofs.YtpcnoiigbmiejaaDoor.fmv
set_option linter.unusedVariables false
set_option linter.unusedSimpArgs false
open Go.ChangeShapes Go.WideShapes Go.ChangeAt Go.RowKit
open Go.Proofs.YtpcnoiigbmiejaaDoor.lib Go.Proofs.YtpcnoiigbmiejaaDoor.fm Go.Proofs.YtpcnoiigbmiejaaDoor.fmj

def idx (b : Nat → Bool) : Option Nat := (List.range 4).find? fun j => !b j
theorem idx_at {b : Nat → Bool} {k : Nat} (hk : k < 4) (h1 : ∀ j, j < k → b j = true) (h2 : b k = false) : frI (idx b) = k := by
  have e : idx b = some k := by
    unfold idx
    obtain rfl | rfl | rfl | rfl : k = 0 ∨ k = 1 ∨ k = 2 ∨ k = 3 := by omega
    · simp [List.range, List.range.loop, h2]
    · simp [List.range, List.range.loop, h2, h1 0 (by omega)]
    · simp [List.range, List.range.loop, h2, h1 0 (by omega), h1 1 (by omega)]
    · simp [List.range, List.range.loop, h2, h1 0 (by omega), h1 1 (by omega), h1 2 (by omega)]
  rw [e]; rfl
theorem idx_none {b : Nat → Bool} (h1 : ∀ j, j < 4 → b j = true) : frI (idx b) = -1 := by
  have e : idx b = none := by
    unfold idx
    simp [List.range, List.range.loop, h1 0 (by omega), h1 1 (by omega), h1 2 (by omega), h1 3 (by omega)]
  rw [e]; rfl
set_option maxHeartbeats 1600000 in
theorem index_any (H cap : Nat) (b : Nat → Bool) (w : World) (hc : ∀ j, j < 4 → w.cell? ⟨H, j, none⟩ = some (.bool (b j))) :
    Calls Tryd.prog 194 #[.slice (some ⟨H, 0, none⟩) 4 cap, .bool false] w fun e w' => e = .returned (.int .i64 (frI (idx b))) ∧ w = w' := by
  have HC := Lib.hid hc
  clear hc
  go_enter Tryd.func194, Tryd.ntmps194
  go_wp2_with fail
  go_loop [8] (fun i => ∃ k : Nat, k ≤ 4 ∧ i = .int .i64 k ∧ Hid (∀ j, j < k → b j = true)) (fun i => 4 - (intOf i).toNat)
  case atStart => exact ⟨0, Nat.zero_le _, rfl, fun j hj => by omega⟩
  case round =>
    obtain ⟨k, hk, rfl, hst⟩ := hrel
    obtain rfl | rfl | rfl | rfl | rfl : k = 0 ∨ k = 1 ∨ k = 2 ∨ k = 3 ∨ k = 4 := by omega
    · have c0 := HC.out 0 (by decide)
      cases hb : b 0 with
      | false =>
        rw [hb] at c0
        have HE : Hid (frI (idx b) = ((0 : Nat) : Int)) := idx_at (by decide) hst.out hb
        clear hb hst
        go_wp2
        go_ret
        exact ⟨by rw [HE.out]; rfl, rfl⟩
      | true =>
        rw [hb] at c0
        have HS : Hid (∀ j, j < 1 → b j = true) := fun j hj => by
          by_cases h : j = 0
          · subst h; exact hb
          · exact hst.out j (by omega)
        clear hb hst
        go_wp2
        go_round
        case rel => exact ⟨1, by omega, rfl, HS⟩
        case measure => simp [intOf]
    · have c0 := HC.out 1 (by decide)
      cases hb : b 1 with
      | false =>
        rw [hb] at c0
        have HE : Hid (frI (idx b) = ((1 : Nat) : Int)) := idx_at (by decide) hst.out hb
        clear hb hst
        go_wp2
        go_ret
        exact ⟨by rw [HE.out]; rfl, rfl⟩
      | true =>
        rw [hb] at c0
        have HS : Hid (∀ j, j < 2 → b j = true) := fun j hj => by
          by_cases h : j = 1
          · subst h; exact hb
          · exact hst.out j (by omega)
        clear hb hst
        go_wp2
        go_round
        case rel => exact ⟨2, by omega, rfl, HS⟩
        case measure => simp [intOf]
    · have c0 := HC.out 2 (by decide)
      cases hb : b 2 with
      | false =>
        rw [hb] at c0
        have HE : Hid (frI (idx b) = ((2 : Nat) : Int)) := idx_at (by decide) hst.out hb
        clear hb hst
        go_wp2
        go_ret
        exact ⟨by rw [HE.out]; rfl, rfl⟩
      | true =>
        rw [hb] at c0
        have HS : Hid (∀ j, j < 3 → b j = true) := fun j hj => by
          by_cases h : j = 2
          · subst h; exact hb
          · exact hst.out j (by omega)
        clear hb hst
        go_wp2
        go_round
        case rel => exact ⟨3, by omega, rfl, HS⟩
        case measure => simp [intOf]
    · have c0 := HC.out 3 (by decide)
      cases hb : b 3 with
      | false =>
        rw [hb] at c0
        have HE : Hid (frI (idx b) = ((3 : Nat) : Int)) := idx_at (by decide) hst.out hb
        clear hb hst
        go_wp2
        go_ret
        exact ⟨by rw [HE.out]; rfl, rfl⟩
      | true =>
        rw [hb] at c0
        have HS : Hid (∀ j, j < 4 → b j = true) := fun j hj => by
          by_cases h : j = 3
          · subst h; exact hb
          · exact hst.out j (by omega)
        clear hb hst
        go_wp2
        go_round
        case rel => exact ⟨4, by omega, rfl, HS⟩
        case measure => simp [intOf]
    · have HE : Hid (frI (idx b) = -1) := idx_none hst.out
      clear hst
      go_wp2
      go_ret
      exact ⟨by rw [HE.out]; rfl, rfl⟩
end Go.Proofs.YtpcnoiigbmiejaaDoor.fmv

/- Formulas in the program: parsePart (under way). -/
namespace Go.Proofs.YtpcnoiigbmiejaaDoor.fmw
set_option linter.unusedVariables false
set_option linter.unusedSimpArgs false
open Go.ChangeShapes Go.WideShapes Go.ChangeAt Go.RowKit
open Go.Proofs.YtpcnoiigbmiejaaDoor.lib Go.Proofs.YtpcnoiigbmiejaaDoor.fm Go.Proofs.YtpcnoiigbmiejaaDoor.fmp Go.Proofs.YtpcnoiigbmiejaaDoor.fmt Go.Proofs.YtpcnoiigbmiejaaDoor.fmu Go.Proofs.YtpcnoiigbmiejaaDoor.fme

/-- what parsePart returns for a text -/
def PartP (T : TypeId) (w : World) (l : List UInt8) (e : Ending) (w' : World) : Prop :=
  ∃ (p : Value) (t : ByteArray), e = .returned (.tuple #[p, .string t]) ∧ Below w.heap.size w w' ∧ match read l with
    | some (a, r) => t = ⟨r.toArray⟩ ∧ ∃ H, p = .pointer (some ⟨H, 0, none⟩) ∧ TS T w.heap.size w'.heap.size w' a H
    | none => p = .pointer none
set_option maxRecDepth 100000 in
theorem part_empty (T : TypeId) (w : World) : Calls Tryd.prog 135 #[.string ⟨#[]⟩] w (PartP T w []) := by
  go_enter Tryd.func135, Tryd.ntmps135
  go_wp2
  go_ret2
  exact ⟨_, _, rfl, Below.refl _ _, rfl⟩
theorem tail_one {s : ByteArray} : s.extract 1 s.size = ⟨(s.data.toList.drop 1).toArray⟩ := by
  apply ByteArray.ext
  rw [ByteArray.data_extract]
  apply Array.ext'
  simp only [Array.toList_extract, List.extract_eq_take_drop]
  rw [List.take_of_length_le (by rw [List.length_drop, lsz]; omega)]
set_option maxHeartbeats 1600000 in
set_option maxRecDepth 100000 in
theorem part_tf (s : ByteArray) (hs : s.size ≤ 4000) (h0 : 0 < s.size) (hne : s.toList.isEmpty = false) (hx : s[0].toNat = 116) (w : World) :
    Calls Tryd.prog 135 #[.string s] w (PartP 84 w s.data.toList) := by
  have e1 : ((s[0].toNat : Int) == 116) = true := by simp; omega
  have HQ : Hid (isQ s[0].toNat = false) := by rw [hx]; rfl
  have HR : Hid (read s.data.toList = some (.tf s[0], s.data.toList.drop 1)) := by
    have h := drop_at h0
    rw [List.drop_zero] at h
    unfold Hid
    rw [h, read_tf (sort_of 116 hx rfl)]
    rfl
  have ND : Hid (fmt.Node 84 (w.alloc (.cells #[.int .u8 s[0].toNat, .slice none 0 0, .slice none 0 0, .int .i64 0, .int .i64 0] 84)) w.heap.size s[0] [] [] 0 0) :=
    ⟨_, _, heap_alloc_new w _, ⟨none, 0, rfl, .inl rfl⟩, ⟨none, 0, rfl, .inl rfl⟩⟩
  clear hx
  go_enter Tryd.func135, Tryd.ntmps135
  go_wp2_with fail
  go_loop [0, 41] (fun s0 i => s0 = .string (s.extract 1 s.size) ∧ i = .int .i64 0) (fun _ _ => 0)
  case atStart => exact ⟨rfl, rfl⟩
  case round =>
    obtain ⟨rfl, rfl⟩ := hrel
    go_wp2_with fail
    go_loop [0, 90] (fun s0 i => s0 = .string (s.extract 1 s.size) ∧ i = .int .i64 0) (fun _ _ => 0)
    case atStart => exact ⟨rfl, rfl⟩
    case round =>
      obtain ⟨rfl, rfl⟩ := hrel
      go_wp2_with fail
      refine (isQuantifier_any 84 w.heap.size s[0] [] [] 0 0 _ ND.out).mono ?_
      rintro eo w1 ⟨rfl, rfl⟩
      rw [HQ.out]
      go_wp2
      go_ret2
      exact ⟨_, _, rfl, (Below.refl _ _).alloc (Nat.le_refl _) _, by rw [HR.out]; exact ⟨tail_one, w.heap.size, rfl, fun _ hg => node_new hg⟩⟩
set_option maxHeartbeats 1600000 in
set_option maxRecDepth 100000 in
theorem part_tf2 (s : ByteArray) (hs : s.size ≤ 4000) (h0 : 0 < s.size) (hne : s.toList.isEmpty = false) (hx : s[0].toNat = 102) (w : World) :
    Calls Tryd.prog 135 #[.string s] w (PartP 84 w s.data.toList) := by
  have e0 : ((s[0].toNat : Int) == 116) = false := by simp; omega
  have e1 : ((s[0].toNat : Int) == 102) = true := by simp; omega
  have HQ : Hid (isQ s[0].toNat = false) := by rw [hx]; rfl
  have HR : Hid (read s.data.toList = some (.tf s[0], s.data.toList.drop 1)) := by
    have h := drop_at h0
    rw [List.drop_zero] at h
    unfold Hid
    rw [h, read_tf (sort_of 102 hx rfl)]
    rfl
  have ND : Hid (fmt.Node 84 (w.alloc (.cells #[.int .u8 s[0].toNat, .slice none 0 0, .slice none 0 0, .int .i64 0, .int .i64 0] 84)) w.heap.size s[0] [] [] 0 0) :=
    ⟨_, _, heap_alloc_new w _, ⟨none, 0, rfl, .inl rfl⟩, ⟨none, 0, rfl, .inl rfl⟩⟩
  clear hx
  go_enter Tryd.func135, Tryd.ntmps135
  go_wp2_with fail
  go_loop [0, 41] (fun s0 i => s0 = .string (s.extract 1 s.size) ∧ i = .int .i64 0) (fun _ _ => 0)
  case atStart => exact ⟨rfl, rfl⟩
  case round =>
    obtain ⟨rfl, rfl⟩ := hrel
    go_wp2_with fail
    go_loop [0, 90] (fun s0 i => s0 = .string (s.extract 1 s.size) ∧ i = .int .i64 0) (fun _ _ => 0)
    case atStart => exact ⟨rfl, rfl⟩
    case round =>
      obtain ⟨rfl, rfl⟩ := hrel
      go_wp2_with fail
      refine (isQuantifier_any 84 w.heap.size s[0] [] [] 0 0 _ ND.out).mono ?_
      rintro eo w1 ⟨rfl, rfl⟩
      rw [HQ.out]
      go_wp2
      go_ret2
      exact ⟨_, _, rfl, (Below.refl _ _).alloc (Nat.le_refl _) _, by rw [HR.out]; exact ⟨tail_one, w.heap.size, rfl, fun _ hg => node_new hg⟩⟩
set_option maxHeartbeats 1600000 in
set_option maxRecDepth 100000 in
theorem part_bad (s : ByteArray) (hs : s.size ≤ 4000) (h0 : 0 < s.size) (hne : s.toList.isEmpty = false) (hx : ∀ n, n ∈ [116, 102, 80, 61, 69, 33, 38, 124, 65, 83, 50, 51, 52] → s[0].toNat ≠ n) (w : World) :
    Calls Tryd.prog 135 #[.string s] w (PartP 84 w s.data.toList) := by
  have e116 : ((s[0].toNat : Int) == 116) = false := by have := hx 116 (by decide); simp; omega
  have e102 : ((s[0].toNat : Int) == 102) = false := by have := hx 102 (by decide); simp; omega
  have e80 : ((s[0].toNat : Int) == 80) = false := by have := hx 80 (by decide); simp; omega
  have e61 : ((s[0].toNat : Int) == 61) = false := by have := hx 61 (by decide); simp; omega
  have e69 : ((s[0].toNat : Int) == 69) = false := by have := hx 69 (by decide); simp; omega
  have e33 : ((s[0].toNat : Int) == 33) = false := by have := hx 33 (by decide); simp; omega
  have e38 : ((s[0].toNat : Int) == 38) = false := by have := hx 38 (by decide); simp; omega
  have e124 : ((s[0].toNat : Int) == 124) = false := by have := hx 124 (by decide); simp; omega
  have e65 : ((s[0].toNat : Int) == 65) = false := by have := hx 65 (by decide); simp; omega
  have e83 : ((s[0].toNat : Int) == 83) = false := by have := hx 83 (by decide); simp; omega
  have e50 : ((s[0].toNat : Int) == 50) = false := by have := hx 50 (by decide); simp; omega
  have e51 : ((s[0].toNat : Int) == 51) = false := by have := hx 51 (by decide); simp; omega
  have e52 : ((s[0].toNat : Int) == 52) = false := by have := hx 52 (by decide); simp; omega
  have HR : Hid (read s.data.toList = none) := by
    have h := drop_at h0
    rw [List.drop_zero] at h
    unfold Hid
    rw [h, read_bad (sort_none hx)]
  have BL : Hid (Below w.heap.size w (w.alloc (.cells #[.int .u8 s[0].toNat, .slice none 0 0, .slice none 0 0, .int .i64 0, .int .i64 0] 84))) := (Below.refl _ _).alloc (Nat.le_refl _) _
  clear hx
  go_enter Tryd.func135, Tryd.ntmps135
  go_wp2
  go_ret2
  exact ⟨_, _, rfl, BL.out, by rw [HR.out]; rfl⟩
end Go.Proofs.YtpcnoiigbmiejaaDoor.fmw

/- Formulas in the program: parsePart, a node under way. -/
namespace Go.Proofs.YtpcnoiigbmiejaaDoor.fmx
set_option linter.unusedVariables false
set_option linter.unusedSimpArgs false
open Go.ChangeShapes Go.WideShapes Go.ChangeAt Go.RowKit
open Go.Proofs.YtpcnoiigbmiejaaDoor.lib Go.Proofs.YtpcnoiigbmiejaaDoor.fm Go.Proofs.YtpcnoiigbmiejaaDoor.fmp Go.Proofs.YtpcnoiigbmiejaaDoor.fmt Go.Proofs.YtpcnoiigbmiejaaDoor.fmu Go.Proofs.YtpcnoiigbmiejaaDoor.fme Go.Proofs.YtpcnoiigbmiejaaDoor.fmf Go.Proofs.YtpcnoiigbmiejaaDoor.fmw

theorem infoB : (Tryd.prog.info? 5).map (fun i => (i.zero, i.size, i.bytes)) = some (some (.int .u8 0), 1, 1) := by kernel_rfl
theorem infoP : (Tryd.prog.info? 80).map (fun i => (i.zero, i.size, i.bytes)) = some (some (.pointer none), 1, 8) := by kernel_rfl
def bv (us : List Nat) : List Value := us.map fun v => .int .u8 (vb v).toNat
def pv (ps : List Nat) : List Value := ps.map fun k => .pointer (some ⟨k, 0, none⟩)
/-- a node under way: its slices are the call's own -/
structure Nd (w : World) (C H : Nat) (op : UInt8) (v p : Value) (us ps : List Nat) (fr al : Nat) : Prop where
  row : w.heap[H]? = some (.cells #[.int .u8 op.toNat, v, p, .int .i64 fr, .int .i64 al] 84 (0, 0))
  vs : w.ownsRow C 5 1 v us.length (bv us)
  ps : w.ownsRow C 80 1 p ps.length (pv ps)
  ap : Apart v p
  lt : H < C
  u4 : ∀ u, u ∈ us → u < 4
  fl : fr < 16 ∧ al < 16
theorem own_rv {w : World} {C n : Nat} {T : TypeId} {v : Value} {l : List Value} (h : w.ownsRow C T 1 v n l) (hn : n = l.length) : RV w v l := by
  subst hn
  have h0 := h
  rcases h.2 with ⟨rfl, hn⟩ | ⟨g, cap, cur, rfl, _⟩
  · exact ⟨none, 0, by rw [hn], .inl (List.length_eq_zero_iff.1 hn)⟩
  · refine ⟨_, _, rfl, .inr ⟨g, 0, rfl, fun i hi => ?_⟩⟩
    have := h0.cellAt i (by omega)
    rw [Nat.zero_add, this, List.getElem?_eq_getElem hi]
theorem Nd.node {w : World} {C H : Nat} {op : UInt8} {v p : Value} {us ps : List Nat} {fr al : Nat} (h : Nd w C H op v p us ps fr al) : fmt.Node 84 w H op us ps fr al := by
  exact ⟨v, p, h.row, own_rv h.vs (by simp [bv]), own_rv h.ps (by simp [pv])⟩
theorem Nd.cells {w : World} {C H : Nat} {op : UInt8} {v p : Value} {us ps : List Nat} {fr al : Nat} (h : Nd w C H op v p us ps fr al) :
    w.cell? ⟨H, 0, none⟩ = some (.int .u8 op.toNat) ∧ w.cell? ⟨H, 1, none⟩ = some v ∧ w.cell? ⟨H, 2, none⟩ = some p ∧ w.cell? ⟨H, 3, none⟩ = some (.int .i64 fr) ∧ w.cell? ⟨H, 4, none⟩ = some (.int .i64 al) := by
  have h1 := h.row
  refine ⟨?_, ?_, ?_, ?_, ?_⟩ <;> simp [World.cell?, h1]
theorem Nd.free {w : World} {C H : Nat} {op : UInt8} {v p : Value} {us ps : List Nat} {fr al : Nat} (h : Nd w C H op v p us ps fr al) (j : Nat) : w.frozen? ⟨H, j, none⟩ = false := frozen_of_row w H j _ _ h.row
theorem Nd.hlt {w : World} {C H : Nat} {op : UInt8} {v p : Value} {us ps : List Nat} {fr al : Nat} (h : Nd w C H op v p us ps fr al) : H < w.heap.size := (Array.getElem?_eq_some_iff.1 h.row).1
theorem own_ne {w : World} {C H n : Nat} {T : TypeId} {v : Value} {l : List Value} (h : w.ownsRow C T 1 v n l) (hH : H < C) : v.ownBlock ≠ some H := fun e => by have := (h.lt H e).1; omega
theorem own_below {w w' : World} {B C n : Nat} {T : TypeId} {v : Value} {l : List Value} (h : w.ownsRow B T 1 v n l) (hb : Below C w w') (hC : w.heap.size ≤ C) : w'.ownsRow B T 1 v n l := by
  refine ⟨h.1, ?_⟩
  rcases h.2 with hn | ⟨g, cap, cur, hv, hg, hh, r⟩
  · exact .inl hn
  · have := (Array.getElem?_eq_some_iff.1 hh).1
    exact .inr ⟨g, cap, cur, hv, hg, by rw [hb.block g (by omega)]; exact hh, r⟩
theorem Nd.below {w w' : World} {C H D : Nat} {op : UInt8} {v p : Value} {us ps : List Nat} {fr al : Nat} (h : Nd w C H op v p us ps fr al) (hb : Below D w w') (hD : w.heap.size ≤ D) : Nd w' C H op v p us ps fr al :=
  ⟨by rw [hb.block H (Nat.lt_of_lt_of_le h.hlt hD)]; exact h.row, own_below h.vs hb hD, own_below h.ps hb hD, h.ap, h.lt, h.u4, h.fl⟩
theorem Nd.drew {w : World} {C H : Nat} {op : UInt8} {v p : Value} {us ps : List Nat} {fr al : Nat} (h : Nd w C H op v p us ps fr al) : Nd w.drew C H op v p us ps fr al := ⟨h.row, h.vs, h.ps, h.ap, h.lt, h.u4, h.fl⟩
theorem Nd.setF {w : World} {C H : Nat} {op : UInt8} {v p : Value} {us ps : List Nat} {fr al : Nat} (h : Nd w C H op v p us ps fr al) (x : Nat) (hx : x < 16) : Nd (w.setCell ⟨H, 3, none⟩ (.int .i64 x)) C H op v p us ps x al :=
  ⟨by have := heap_setCell_same w H 3 _ _ (.int .i64 x) h.row; rw [this]; rfl, ownsRow_setCell_other h.vs (own_ne h.vs h.lt) _, ownsRow_setCell_other h.ps (own_ne h.ps h.lt) _, h.ap, h.lt, h.u4, hx, h.fl.2⟩
theorem Nd.setA {w : World} {C H : Nat} {op : UInt8} {v p : Value} {us ps : List Nat} {fr al : Nat} (h : Nd w C H op v p us ps fr al) (x : Nat) (hx : x < 16) : Nd (w.setCell ⟨H, 4, none⟩ (.int .i64 x)) C H op v p us ps fr x :=
  ⟨by have := heap_setCell_same w H 4 _ _ (.int .i64 x) h.row; rw [this]; rfl, ownsRow_setCell_other h.vs (own_ne h.vs h.lt) _, ownsRow_setCell_other h.ps (own_ne h.ps h.lt) _, h.ap, h.lt, h.u4, h.fl.1, hx⟩
theorem Nd.appV {w w1 : World} {C H : Nat} {op : UInt8} {v v' p : Value} {us ps : List Nat} {fr al : Nat} (h : Nd w C H op v p us ps fr al) {u : Nat} (hu : u < 4)
    {n : Nat} (hn : n = us.length) {x : Int} (hx : x = (vb u).toNat) (ho : w1.ownsRow C 5 1 v' (n + 1) (bv us ++ [.int .u8 x])) (hg : Grew w w1 v v') : Nd (w1.setCell ⟨H, 1, none⟩ v') C H op v' p (us ++ [u]) ps fr al := by
  have hr : w1.heap[H]? = some (.cells #[.int .u8 op.toNat, v, p, .int .i64 fr, .int .i64 al] 84 (0, 0)) := by
    rw [hg.grown.block H h.hlt (fun e => own_ne h.vs h.lt e.symm)]; exact h.row
  have hk := hg.keep h.ps h.ap
  subst hn
  subst hx
  refine ⟨by have := heap_setCell_same w1 H 1 _ _ v' hr; rw [this]; rfl, ?_, ownsRow_setCell_other hk.1 (own_ne hk.1 h.lt) _, hk.2, h.lt, fun x hx => ?_, h.fl⟩
  · have := ownsRow_setCell_other ho (a := ⟨H, 1, none⟩) (own_ne ho h.lt) v'
    unfold bv
    rw [List.length_append, List.map_append]
    exact this
  · rcases List.mem_append.1 hx with hx | hx
    · exact h.u4 x hx
    · rw [List.mem_singleton.1 hx]; exact hu
theorem Nd.appP {w w1 : World} {C H : Nat} {op : UInt8} {v p p' : Value} {us ps : List Nat} {fr al : Nat} (h : Nd w C H op v p us ps fr al) {u : Nat}
    {n : Nat} (hn : n = ps.length) (ho : w1.ownsRow C 80 1 p' (n + 1) (pv ps ++ [.pointer (some ⟨u, 0, none⟩)])) (hg : Grew w w1 p p') : Nd (w1.setCell ⟨H, 2, none⟩ p') C H op v p' us (ps ++ [u]) fr al := by
  have hr : w1.heap[H]? = some (.cells #[.int .u8 op.toNat, v, p, .int .i64 fr, .int .i64 al] 84 (0, 0)) := by
    rw [hg.grown.block H h.hlt (fun e => own_ne h.ps h.lt e.symm)]; exact h.row
  have hk := hg.keep h.vs h.ap.symm
  subst hn
  refine ⟨by have := heap_setCell_same w1 H 2 _ _ p' hr; rw [this]; rfl, ownsRow_setCell_other hk.1 (own_ne hk.1 h.lt) _, ?_, hk.2.symm, h.lt, h.u4, h.fl⟩
  have := ownsRow_setCell_other ho (a := ⟨H, 2, none⟩) (own_ne ho h.lt) p'
  unfold pv
  rw [List.length_append, List.map_append]
  exact this
theorem Nd.grewV {w w1 : World} {C H : Nat} {op : UInt8} {v v' p : Value} {us ps : List Nat} {fr al : Nat} (h : Nd w C H op v p us ps fr al) (hg : Grew w w1 v v') : w1.cell? ⟨H, 1, none⟩ = some v ∧ w1.frozen? ⟨H, 1, none⟩ = false := by
  have hr : w1.heap[H]? = some (.cells #[.int .u8 op.toNat, v, p, .int .i64 fr, .int .i64 al] 84 (0, 0)) := by
    rw [hg.grown.block H h.hlt (fun e => own_ne h.vs h.lt e.symm)]; exact h.row
  exact ⟨by simp [World.cell?, hr], frozen_of_row w1 H 1 _ _ hr⟩
theorem Nd.grewP {w w1 : World} {C H : Nat} {op : UInt8} {v p p' : Value} {us ps : List Nat} {fr al : Nat} (h : Nd w C H op v p us ps fr al) (hg : Grew w w1 p p') : w1.cell? ⟨H, 2, none⟩ = some p ∧ w1.frozen? ⟨H, 2, none⟩ = false := by
  have hr : w1.heap[H]? = some (.cells #[.int .u8 op.toNat, v, p, .int .i64 fr, .int .i64 al] 84 (0, 0)) := by
    rw [hg.grown.block H h.hlt (fun e => own_ne h.ps h.lt e.symm)]; exact h.row
  exact ⟨by simp [World.cell?, hr], frozen_of_row w1 H 2 _ _ hr⟩
theorem Nd.new (w : World) (op : UInt8) : Nd (w.alloc (.cells #[.int .u8 op.toNat, .slice none 0 0, .slice none 0 0, .int .i64 0, .int .i64 0] 84)) (w.heap.size + 1) w.heap.size op (.slice none 0 0) (.slice none 0 0) [] [] 0 0 :=
  ⟨heap_alloc_new w _, World.ownsRow_nil _ _ _ _, World.ownsRow_nil _ _ _ _, fun k hk => by simp [Value.ownBlock] at hk, Nat.lt_succ_self _, fun u hu => (by cases hu), ⟨by decide, by decide⟩⟩
theorem own_le {w : World} {B C n : Nat} {T : TypeId} {v : Value} {l : List Value} (h : w.ownsRow C T 1 v n l) (hB : B ≤ C) : w.ownsRow B T 1 v n l := by
  refine ⟨h.1, ?_⟩
  rcases h.2 with hn | ⟨g, cap, cur, hv, hb, r⟩
  · exact .inl hn
  · exact .inr ⟨g, cap, cur, hv, by omega, r⟩
theorem below_grew {w0 w w1 : World} {C n : Nat} {T : TypeId} {v v' : Value} {l : List Value} (hb : Below w0.heap.size w0 w) (hg : Grew w w1 v v') (ho : w.ownsRow C T 1 v n l) (hC : w0.heap.size ≤ C) : Below w0.heap.size w0 w1 :=
  hb.trans (hg.below (own_le ho hC) hb.size)
theorem empty_of {t : ByteArray} (h : t.size = 0) : t.toList.isEmpty = true ∧ t.data.toList = [] := by
  have e : t.data.toList = [] := List.length_eq_zero_iff.1 (by rw [lsz]; exact h)
  rw [ByteArray.toList_eq, e]; exact ⟨rfl, rfl⟩
theorem full_of {t : ByteArray} (h : 0 < t.size) : t.toList.isEmpty = false ∧ t.data.toList = t[0] :: t.data.toList.drop 1 := by
  have e : t.data.toList = t[0] :: t.data.toList.drop 1 := by
    have := drop_at (f := t) (k := 0) h
    rw [List.drop_zero] at this
    exact this
  refine ⟨?_, e⟩
  rw [ByteArray.toList_eq, e]; rfl
theorem ext_first {t : ByteArray} (h : 0 < t.size) : t.extract 0 1 = ⟨#[t[0]]⟩ := by
  apply ByteArray.ext
  rw [ByteArray.data_extract]
  apply Array.ext'
  simp only [Array.toList_extract, List.extract_eq_take_drop]
  rw [drop_at h]
  rfl
theorem isV_at {c : UInt8} (h : isV c = true) : ∃ m, m < 4 ∧ c = vb m ∧ c.toNat = 97 + m := ⟨vn c, vn_lt h, (vb_vn h).symm, by have := of_decide_eq_true h; unfold vn; omega⟩
/-- what of a node under way stays if the blocks from its own on stay -/
theorem Nd.nodeS {w : World} {C H lo : Nat} {op : UInt8} {v p : Value} {us ps : List Nat} {fr al : Nat} (h : Nd w C H op v p us ps fr al) (hlo : lo ≤ H) {w2 : World} (hg : Agree lo w.heap.size w w2) : fmt.Node 84 w2 H op us ps fr al := by
  have key : ∀ {n : Nat} {T : TypeId} {v : Value} {l : List Value}, w.ownsRow C T 1 v n l → w2.ownsRow C T 1 v n l := fun {n T v l} ho => by
    refine ⟨ho.1, ?_⟩
    rcases ho.2 with hn | ⟨g, cap, cur, hv, hb, hh, r⟩
    · exact .inl hn
    · have := (Array.getElem?_eq_some_iff.1 hh).1
      exact .inr ⟨g, cap, cur, hv, hb, by rw [hg g (by have := h.lt; omega) this]; exact hh, r⟩
  exact ⟨v, p, by rw [hg H hlo h.hlt]; exact h.row, own_rv (key h.vs) (by simp [bv]), own_rv (key h.ps) (by simp [pv])⟩
/-- a part that is held: within blocks that the parts' slice does not touch -/
def Held (w : World) (C : Nat) (p : Value) (a : Fm) (k : Nat) : Prop := ∃ lo hi, C ≤ lo ∧ hi ≤ w.heap.size ∧ (∀ g, p.ownBlock = some g → g < lo ∨ hi ≤ g) ∧ TS 84 lo hi w a k
theorem Held.setH {w : World} {C H : Nat} {p : Value} {a : Fm} {k : Nat} (h : Held w C p a k) (hH : H < C) (j : Nat) (x : Value) : Held (w.setCell ⟨H, j, none⟩ x) C p a k := by
  obtain ⟨lo, hi, h1, h2, h3, h4⟩ := h
  refine ⟨lo, hi, h1, by simpa using h2, h3, h4.to fun b hb _ => ?_⟩
  exact Below.heap_setCell _ _ _ _ (by intro e; simp at e; omega)
theorem Held.call {w w' : World} {C D : Nat} {p : Value} {a : Fm} {k : Nat} (h : Held w C p a k) (hb : Below D w w') (hD : w.heap.size ≤ D) : Held w' C p a k := by
  obtain ⟨lo, hi, h1, h2, h3, h4⟩ := h
  exact ⟨lo, hi, h1, Nat.le_trans h2 hb.size, h3, h4.to (Agree.of_below hb (by omega))⟩
theorem Held.app {w w1 : World} {C : Nat} {p p' : Value} {a : Fm} {k : Nat} (h : Held w C p a k) (hg : Grew w w1 p p') : Held w1 C p' a k := by
  obtain ⟨lo, hi, h1, h2, h3, h4⟩ := h
  refine ⟨lo, hi, h1, Nat.le_trans h2 hg.grown.size, fun g hgb => ?_, h4.to fun b hb hb2 => hg.grown.block b (by omega) fun e => ?_⟩
  · rcases hg.blk g hgb with e | e
    · exact h3 g e
    · exact .inr (by omega)
  · rcases h3 b e.symm with e | e <;> omega
theorem Held.new {w w' : World} {C n : Nat} {T : TypeId} {p : Value} {l : List Value} {a : Fm} {k : Nat} (ho : w.ownsRow C T 1 p n l) (hC : C ≤ w.heap.size) (h : TS 84 w.heap.size w'.heap.size w' a k) : Held w' C p a k :=
  ⟨_, _, hC, Nat.le_refl _, fun g hg => .inl (ho.lt g hg).2, h⟩
/-- parts one behind the other -/
def Chain : List UInt8 → List Fm → List UInt8 → Prop
  | l, [], r => l = r
  | l, a :: q, r => ∃ m, read l = some (a, m) ∧ Chain m q r
theorem Chain.snoc {a : Fm} {t : List UInt8} : ∀ {l : List UInt8} {q : List Fm} {r : List UInt8}, Chain l q r → read r = some (a, t) → Chain l (q ++ [a]) t
  | _, [], _, h, h2 => ⟨_, h ▸ h2, rfl⟩
  | _, _ :: _, _, ⟨m, h1, h3⟩, h2 => ⟨m, h1, Chain.snoc h3 h2⟩
theorem chain_one {l r : List UInt8} {q : List Fm} (h : Chain l q r) (hq : q.length = 1) : ∃ a, q = [a] ∧ read l = some (a, r) := by
  match q, hq, h with
  | [a], _, ⟨m, h1, h2⟩ => exact ⟨a, rfl, by rw [h1]; exact congrArg (fun z => some (a, z)) h2⟩
theorem chain_two {l r : List UInt8} {q : List Fm} (h : Chain l q r) (hq : q.length = 2) : ∃ a b m, q = [a, b] ∧ read l = some (a, m) ∧ read m = some (b, r) := by
  match q, hq, h with
  | [a, b], _, ⟨m, h1, m2, h2, h3⟩ => exact ⟨a, b, m, rfl, h1, by rw [h2]; exact congrArg (fun z => some (b, z)) h3⟩
theorem chain_nil {l r : List UInt8} {q : List Fm} (h : Chain l q r) (hq : q.length = 0) : l = r := by
  match q, hq, h with
  | [], _, h => exact h
theorem chain_ok {r : List UInt8} : ∀ {l : List UInt8} {q : List Fm}, Chain l q r → ∀ a, a ∈ q → a.ok
  | _, [], _, a, h => by cases h
  | _, b :: q, ⟨m, h1, h2⟩, a, h => by
    rcases List.mem_cons.1 h with rfl | h
    · exact (read_sound h1).1
    · exact chain_ok h2 a h
theorem chain_len {r : List UInt8} : ∀ {l : List UInt8} {q : List Fm}, Chain l q r → r.length ≤ l.length
  | _, [], h => by rw [show _ = r from h]; exact Nat.le_refl _
  | _, b :: q, ⟨m, h1, h2⟩ => by have := chain_len h2; have := (read_sound h1).2.2; omega
def frs (q : List Fm) : Nat := q.foldl (fun x a => x ||| a.free) 0
def als (x : Nat) (q : List Fm) : Nat := q.foldl (fun x a => x ||| Fm.all a) x
theorem frs_snoc (q : List Fm) (a : Fm) : frs (q ++ [a]) = frs q ||| a.free := by unfold frs; rw [List.foldl_append]; rfl
theorem als_snoc (x : Nat) (q : List Fm) (a : Fm) : als x (q ++ [a]) = als x q ||| Fm.all a := by unfold als; rw [List.foldl_append]; rfl
def alls (us : List Nat) : Nat := us.foldl (fun a u => a ||| 1 <<< u) 0
theorem alls_snoc (us : List Nat) (u : Nat) : alls (us ++ [u]) = alls us ||| 1 <<< u := by unfold alls; rw [List.foldl_append]; rfl
theorem alls_lt : ∀ (us : List Nat), (∀ u, u ∈ us → u < 4) → alls us < 16 := by
  intro us
  have key : ∀ (l : List Nat) (a : Nat), a < 16 → (∀ u, u ∈ l → u < 4) → l.foldl (fun a u => a ||| 1 <<< u) a < 16 := by
    intro l
    induction l with
    | nil => intro a ha _; exact ha
    | cons x l ih => intro a ha h; exact ih _ (or_lt ⟨a, ha⟩ ⟨1 <<< x, sh_lt ⟨x, h x List.mem_cons_self⟩⟩) fun u hu => h u (List.mem_cons_of_mem _ hu)
  exact key us 0 (by decide)
end Go.Proofs.YtpcnoiigbmiejaaDoor.fmx

/- Formulas in the program: parsePart, letters with variables alone. -/
namespace Go.Proofs.YtpcnoiigbmiejaaDoor.fmy
set_option linter.unusedVariables false
set_option linter.unusedSimpArgs false
open Go.ChangeShapes Go.WideShapes Go.ChangeAt Go.RowKit
open Go.Proofs.YtpcnoiigbmiejaaDoor.lib Go.Proofs.YtpcnoiigbmiejaaDoor.fm Go.Proofs.YtpcnoiigbmiejaaDoor.fmp Go.Proofs.YtpcnoiigbmiejaaDoor.fmt Go.Proofs.YtpcnoiigbmiejaaDoor.fmu Go.Proofs.YtpcnoiigbmiejaaDoor.fme Go.Proofs.YtpcnoiigbmiejaaDoor.fmf Go.Proofs.YtpcnoiigbmiejaaDoor.fmw Go.Proofs.YtpcnoiigbmiejaaDoor.fmx

theorem tree_p {w w2 : World} {C H lo : Nat} {op : UInt8} {v p : Value} {m : Nat} (ho : op = 80) (h : Nd w C H op v p [m] [] (alls [m]) (alls [m])) (hlo : lo ≤ H) (hg : Agree lo w.heap.size w w2) : fmt.Node 84 w2 H 80 [m] [] (1 <<< m) (1 <<< m) := by
  subst ho
  have := h.nodeS hlo hg
  rw [show alls [m] = 1 <<< m from Nat.zero_or _] at this
  exact this
theorem tree_r {w w2 : World} {C H lo : Nat} {op : UInt8} {v p : Value} {m u : Nat} (h : Nd w C H op v p [m, u] [] (alls [m, u]) (alls [m, u])) (hlo : lo ≤ H) (hg : Agree lo w.heap.size w w2) : fmt.Node 84 w2 H op [m, u] [] (1 <<< m ||| 1 <<< u) (1 <<< m ||| 1 <<< u) := by
  have := h.nodeS hlo hg
  rw [show alls [m, u] = 1 <<< m ||| 1 <<< u from congrArg (· ||| 1 <<< u) (Nat.zero_or _)] at this
  exact this
theorem read_rv {c v : UInt8} {l : List UInt8} (h : sort c = .r) (hv : isV v = false) : read (c :: (([] : List Nat).map vb ++ v :: l)) = none := by
  cases l with
  | nil => exact read_r1 h
  | cons u l => exact read_rn h (by rw [hv]; simp)
theorem read_ru {c u : UInt8} {l : List UInt8} {us : List Nat} (h : sort c = .r) (hul : us.length = 1) (hv : isV u = false) : read (c :: (us.map vb ++ u :: l)) = none := by
  match us, hul with
  | [m], _ => exact read_rn h (by rw [hv]; simp)
theorem read_re {c : UInt8} {us : List Nat} (h : sort c = .r) (hul : us.length = 1) : read (c :: (us.map vb ++ [])) = none := by
  match us, hul with
  | [m], _ => exact read_r1 h

end Go.Proofs.YtpcnoiigbmiejaaDoor.fmy

/- Formulas in the program: parsePart, some letters. -/
namespace Go.Proofs.YtpcnoiigbmiejaaDoor.fmya
set_option linter.unusedVariables false
set_option linter.unusedSimpArgs false
open Go.ChangeShapes Go.WideShapes Go.ChangeAt Go.RowKit
open Go.Proofs.YtpcnoiigbmiejaaDoor.lib Go.Proofs.YtpcnoiigbmiejaaDoor.fm Go.Proofs.YtpcnoiigbmiejaaDoor.fmp Go.Proofs.YtpcnoiigbmiejaaDoor.fmt Go.Proofs.YtpcnoiigbmiejaaDoor.fmu Go.Proofs.YtpcnoiigbmiejaaDoor.fme Go.Proofs.YtpcnoiigbmiejaaDoor.fmf Go.Proofs.YtpcnoiigbmiejaaDoor.fmw Go.Proofs.YtpcnoiigbmiejaaDoor.fmx

open Go.Proofs.YtpcnoiigbmiejaaDoor.fmy
set_option maxHeartbeats 3200000 in
set_option maxRecDepth 100000 in
theorem part_80 (s : ByteArray) (hs : s.size ≤ 4000) (h0 : 0 < s.size) (hne : s.toList.isEmpty = false) (hx : s[0].toNat = 80) (w : World) :
    Calls Tryd.prog 135 #[.string s] w (PartP 84 w s.data.toList) := by
  have e116 : ((s[0].toNat : Int) == 116) = false := by simp; omega
  have e102 : ((s[0].toNat : Int) == 102) = false := by simp; omega
  have e80 : ((s[0].toNat : Int) == 80) = true := by simp; omega
  have HSO : Hid (sort s[0] = .p) := sort_of 80 hx rfl
  have HQ : Hid (isQ s[0].toNat = false) := by rw [hx]; rfl
  have HS0 : Hid (s.data.toList = s[0] :: s.data.toList.drop 1) := (full_of h0).2
  have TL0 : Hid (s.data.toList.drop 1 = ([] : List Nat).map vb ++ (s.extract 1 s.size).data.toList) := by rw [tail_one]; rfl
  have ND0 : Hid (Nd (w.alloc (.cells #[.int .u8 s[0].toNat, .slice none 0 0, .slice none 0 0, .int .i64 0, .int .i64 0] 84)) (w.heap.size + 1) w.heap.size s[0] (.slice none 0 0) (.slice none 0 0) [] [] 0 (alls []) ∧ Below w.heap.size w (w.alloc (.cells #[.int .u8 s[0].toNat, .slice none 0 0, .slice none 0 0, .int .i64 0, .int .i64 0] 84))) := ⟨Nd.new w s[0], (Below.refl _ _).alloc (Nat.le_refl _) _⟩
  clear hx
  go_enter Tryd.func135, Tryd.ntmps135
  go_wp2_with fail
  go_loopw [0, 41] (fun s0 i wr => ∃ (k : Nat) (t : ByteArray) (us : List Nat) (v : Value), k ≤ 1 ∧ us.length = k ∧ i = .int .i64 k ∧ s0 = .string t ∧ Hid (s.data.toList.drop 1 = us.map vb ++ t.data.toList) ∧ Hid (Nd wr (w.heap.size + 1) w.heap.size s[0] v (.slice none 0 0) us [] 0 (alls us) ∧ Below w.heap.size w wr)) (fun _ i _ => 1 - (intOf i).toNat)
  case atStart => exact ⟨0, _, [], _, Nat.zero_le _, rfl, rfl, rfl, TL0, ND0.out⟩
  case round =>
    clear TL0 ND0
    obtain ⟨k, t, us, v, hk, hul, rfl, rfl, HL, HN⟩ := hrel
    have cc := HN.out.1.cells
    obtain ⟨c0, c1, c2, c3, c4⟩ := cc
    have hH := Lib.hid HN.out.1.hlt
    obtain rfl | rfl : k = 0 ∨ k = 1 := by omega
    · by_cases h0 : 0 < t.size
      · obtain ⟨te, hd⟩ := full_of h0
        have HD := Lib.hid hd
        have ax := ext_first h0
        clear hd
        cases hv : isV t[0] with
        | false =>
          have HV : Hid (∀ W, Calls Tryd.prog 177 #[.string ⟨#[97, 98, 99, 100]⟩, .string ⟨#[t[0]]⟩] W fun e w' => e = .returned (.bool false) ∧ W = w') := fun W => by rw [← hv]; exact isVar_any t[0] W
          have HR : Hid (read s.data.toList = none) := by rw [HS0.out, HL.out, HD.out, List.length_eq_zero_iff.1 hul]; exact read_pn HSO.out hv
          clear hv
          go_wp2_with fail
          refine (HV.out _).mono ?_
          rintro eo w1 ⟨rfl, rfl⟩
          go_wp2
          go_ret2
          exact ⟨_, _, rfl, HN.out.2, by rw [HR.out]; rfl⟩
        | true =>
          have HV : Hid (∀ W, Calls Tryd.prog 177 #[.string ⟨#[97, 98, 99, 100]⟩, .string ⟨#[t[0]]⟩] W fun e w' => e = .returned (.bool true) ∧ W = w') := fun W => by rw [← hv]; exact isVar_any t[0] W
          obtain ⟨m, hm4, hmv, hmn⟩ := isV_at hv
          have HM := Lib.hid hmv
          clear hv hmv
          have HO : Hid (wr.drew.ownsRow (w.heap.size + 1) 5 1 v 0 (bv us)) := by have h := HN.out.1.vs; rw [hul] at h; exact h
          have HZ : Hid (0 + 1 ≤ 4398046511104 ∧ w.heap.size + 1 ≤ wr.heap.size) := ⟨by decide, hH.out⟩
          have HN' : Hid (Nd wr.drew (w.heap.size + 1) w.heap.size s[0] v (.slice none 0 0) us [] 0 (alls us)) := HN.out.1.drew
          obtain rfl | rfl | rfl | rfl : m = 0 ∨ m = 1 ∨ m = 2 ∨ m = 3 := by omega
          · have hb : (t[0].toNat : Int) = 97 := by omega
            have hlt : w.heap.size < wr.heap.size := hH.out
            clear hmn
            go_wp2_with fail
            refine (HV.out _).mono ?_
            rintro eo w1 ⟨rfl, rfl⟩
            go_wp2_with fail
            go_cut [62] from 52 to 62 (fun _ wx => ∃ v', Hid (Nd wx (w.heap.size + 1) w.heap.size s[0] v' (.slice none 0 0) (us ++ [0]) [] 0 (alls us) ∧ Below w.heap.size w wx))
            case first =>
              go_region_law (refine step_app1 wr.drew rfl (.tmp 56) (.tmp 59) 22 rfl (w.heap.size + 1) 5 (.int .u8 0) 1 Tryd.underlying22 infoB rfl (by decide) _ _ _ (.int .u8 97) rfl HO.out wr.heap.size rfl rfl rfl HZ.out.1 HZ.out.2 ?_; intro g cap' w1 hown1 hgr; have fc := (HN'.out.grewV hgr).1; have ff := (HN'.out.grewV hgr).2)
              all_goals
                have R := Lib.hid (show _ ∧ _ from ⟨HN'.out.appV (u := 0) (by decide) (n := 0) hul.symm (by rfl) hown1 hgr, (below_grew HN.out.2.drew hgr HO.out (by omega)).setCell (p := ⟨w.heap.size, 1, none⟩) (Nat.le_refl _) (.slice (some ⟨g, 0, none⟩) (0 + 1) cap')⟩)
                go_wp2
                go_meet
                exact ⟨_, R⟩
            case rest =>
              obtain ⟨v', HN2⟩ := hcut
              clear HO HZ HN' HN c0 c1 c2 c3 c4 hlt
              obtain ⟨c0, c1, c2, c3, c4⟩ := HN2.out.1.cells
              have f4 := HN2.out.1.free 4
              go_wp2_with fail
              go_region
              have R : Hid (Nd (wc.setCell ⟨w.heap.size, 4, none⟩ (.int .i64 (bits .or .i64 (alls us : Nat) 1))).drew (w.heap.size + 1) w.heap.size s[0] v' (.slice none 0 0) (us ++ [0]) [] 0 (alls (us ++ [0])) ∧ Below w.heap.size w (wc.setCell ⟨w.heap.size, 4, none⟩ (.int .i64 (bits .or .i64 (alls us : Nat) 1))).drew) := by
                have hl := HN2.out.1.fl.2
                have e : bits .or .i64 (alls us : Nat) 1 = ((alls (us ++ [0]) : Nat) : Int) := by rw [alls_snoc]; exact b_or (y := 1) hl (by decide)
                rw [e]
                exact ⟨(HN2.out.1.setA _ (alls_lt _ HN2.out.1.u4)).drew, (HN2.out.2.setCell (p := ⟨w.heap.size, 4, none⟩) (Nat.le_refl _) _).drew⟩
              have HL2 : Hid (s.data.toList.drop 1 = (us ++ [0]).map vb ++ (t.extract 1 t.size).data.toList) := by
                rw [Hid, HL.out, HD.out, HM.out, tail_one]; simp
              go_wp2
              go_roundw
              case rel => exact ⟨0 + 1, _, us ++ [0], v', by decide, by simp [hul], by first | rfl | go_num, rfl, HL2, R⟩
              case measure => simp [intOf]
          · have hb : (t[0].toNat : Int) = 98 := by omega
            have hlt : w.heap.size < wr.heap.size := hH.out
            clear hmn
            go_wp2_with fail
            refine (HV.out _).mono ?_
            rintro eo w1 ⟨rfl, rfl⟩
            go_wp2_with fail
            go_cut [62] from 52 to 62 (fun _ wx => ∃ v', Hid (Nd wx (w.heap.size + 1) w.heap.size s[0] v' (.slice none 0 0) (us ++ [1]) [] 0 (alls us) ∧ Below w.heap.size w wx))
            case first =>
              go_region_law (refine step_app1 wr.drew rfl (.tmp 56) (.tmp 59) 22 rfl (w.heap.size + 1) 5 (.int .u8 0) 1 Tryd.underlying22 infoB rfl (by decide) _ _ _ (.int .u8 98) rfl HO.out wr.heap.size rfl rfl rfl HZ.out.1 HZ.out.2 ?_; intro g cap' w1 hown1 hgr; have fc := (HN'.out.grewV hgr).1; have ff := (HN'.out.grewV hgr).2)
              all_goals
                have R := Lib.hid (show _ ∧ _ from ⟨HN'.out.appV (u := 1) (by decide) (n := 0) hul.symm (by rfl) hown1 hgr, (below_grew HN.out.2.drew hgr HO.out (by omega)).setCell (p := ⟨w.heap.size, 1, none⟩) (Nat.le_refl _) (.slice (some ⟨g, 0, none⟩) (0 + 1) cap')⟩)
                go_wp2
                go_meet
                exact ⟨_, R⟩
            case rest =>
              obtain ⟨v', HN2⟩ := hcut
              clear HO HZ HN' HN c0 c1 c2 c3 c4 hlt
              obtain ⟨c0, c1, c2, c3, c4⟩ := HN2.out.1.cells
              have f4 := HN2.out.1.free 4
              go_wp2_with fail
              go_region
              have R : Hid (Nd (wc.setCell ⟨w.heap.size, 4, none⟩ (.int .i64 (bits .or .i64 (alls us : Nat) 2))).drew (w.heap.size + 1) w.heap.size s[0] v' (.slice none 0 0) (us ++ [1]) [] 0 (alls (us ++ [1])) ∧ Below w.heap.size w (wc.setCell ⟨w.heap.size, 4, none⟩ (.int .i64 (bits .or .i64 (alls us : Nat) 2))).drew) := by
                have hl := HN2.out.1.fl.2
                have e : bits .or .i64 (alls us : Nat) 2 = ((alls (us ++ [1]) : Nat) : Int) := by rw [alls_snoc]; exact b_or (y := 2) hl (by decide)
                rw [e]
                exact ⟨(HN2.out.1.setA _ (alls_lt _ HN2.out.1.u4)).drew, (HN2.out.2.setCell (p := ⟨w.heap.size, 4, none⟩) (Nat.le_refl _) _).drew⟩
              have HL2 : Hid (s.data.toList.drop 1 = (us ++ [1]).map vb ++ (t.extract 1 t.size).data.toList) := by
                rw [Hid, HL.out, HD.out, HM.out, tail_one]; simp
              go_wp2
              go_roundw
              case rel => exact ⟨0 + 1, _, us ++ [1], v', by decide, by simp [hul], by first | rfl | go_num, rfl, HL2, R⟩
              case measure => simp [intOf]
          · have hb : (t[0].toNat : Int) = 99 := by omega
            have hlt : w.heap.size < wr.heap.size := hH.out
            clear hmn
            go_wp2_with fail
            refine (HV.out _).mono ?_
            rintro eo w1 ⟨rfl, rfl⟩
            go_wp2_with fail
            go_cut [62] from 52 to 62 (fun _ wx => ∃ v', Hid (Nd wx (w.heap.size + 1) w.heap.size s[0] v' (.slice none 0 0) (us ++ [2]) [] 0 (alls us) ∧ Below w.heap.size w wx))
            case first =>
              go_region_law (refine step_app1 wr.drew rfl (.tmp 56) (.tmp 59) 22 rfl (w.heap.size + 1) 5 (.int .u8 0) 1 Tryd.underlying22 infoB rfl (by decide) _ _ _ (.int .u8 99) rfl HO.out wr.heap.size rfl rfl rfl HZ.out.1 HZ.out.2 ?_; intro g cap' w1 hown1 hgr; have fc := (HN'.out.grewV hgr).1; have ff := (HN'.out.grewV hgr).2)
              all_goals
                have R := Lib.hid (show _ ∧ _ from ⟨HN'.out.appV (u := 2) (by decide) (n := 0) hul.symm (by rfl) hown1 hgr, (below_grew HN.out.2.drew hgr HO.out (by omega)).setCell (p := ⟨w.heap.size, 1, none⟩) (Nat.le_refl _) (.slice (some ⟨g, 0, none⟩) (0 + 1) cap')⟩)
                go_wp2
                go_meet
                exact ⟨_, R⟩
            case rest =>
              obtain ⟨v', HN2⟩ := hcut
              clear HO HZ HN' HN c0 c1 c2 c3 c4 hlt
              obtain ⟨c0, c1, c2, c3, c4⟩ := HN2.out.1.cells
              have f4 := HN2.out.1.free 4
              go_wp2_with fail
              go_region
              have R : Hid (Nd (wc.setCell ⟨w.heap.size, 4, none⟩ (.int .i64 (bits .or .i64 (alls us : Nat) 4))).drew (w.heap.size + 1) w.heap.size s[0] v' (.slice none 0 0) (us ++ [2]) [] 0 (alls (us ++ [2])) ∧ Below w.heap.size w (wc.setCell ⟨w.heap.size, 4, none⟩ (.int .i64 (bits .or .i64 (alls us : Nat) 4))).drew) := by
                have hl := HN2.out.1.fl.2
                have e : bits .or .i64 (alls us : Nat) 4 = ((alls (us ++ [2]) : Nat) : Int) := by rw [alls_snoc]; exact b_or (y := 4) hl (by decide)
                rw [e]
                exact ⟨(HN2.out.1.setA _ (alls_lt _ HN2.out.1.u4)).drew, (HN2.out.2.setCell (p := ⟨w.heap.size, 4, none⟩) (Nat.le_refl _) _).drew⟩
              have HL2 : Hid (s.data.toList.drop 1 = (us ++ [2]).map vb ++ (t.extract 1 t.size).data.toList) := by
                rw [Hid, HL.out, HD.out, HM.out, tail_one]; simp
              go_wp2
              go_roundw
              case rel => exact ⟨0 + 1, _, us ++ [2], v', by decide, by simp [hul], by first | rfl | go_num, rfl, HL2, R⟩
              case measure => simp [intOf]
          · have hb : (t[0].toNat : Int) = 100 := by omega
            have hlt : w.heap.size < wr.heap.size := hH.out
            clear hmn
            go_wp2_with fail
            refine (HV.out _).mono ?_
            rintro eo w1 ⟨rfl, rfl⟩
            go_wp2_with fail
            go_cut [62] from 52 to 62 (fun _ wx => ∃ v', Hid (Nd wx (w.heap.size + 1) w.heap.size s[0] v' (.slice none 0 0) (us ++ [3]) [] 0 (alls us) ∧ Below w.heap.size w wx))
            case first =>
              go_region_law (refine step_app1 wr.drew rfl (.tmp 56) (.tmp 59) 22 rfl (w.heap.size + 1) 5 (.int .u8 0) 1 Tryd.underlying22 infoB rfl (by decide) _ _ _ (.int .u8 100) rfl HO.out wr.heap.size rfl rfl rfl HZ.out.1 HZ.out.2 ?_; intro g cap' w1 hown1 hgr; have fc := (HN'.out.grewV hgr).1; have ff := (HN'.out.grewV hgr).2)
              all_goals
                have R := Lib.hid (show _ ∧ _ from ⟨HN'.out.appV (u := 3) (by decide) (n := 0) hul.symm (by rfl) hown1 hgr, (below_grew HN.out.2.drew hgr HO.out (by omega)).setCell (p := ⟨w.heap.size, 1, none⟩) (Nat.le_refl _) (.slice (some ⟨g, 0, none⟩) (0 + 1) cap')⟩)
                go_wp2
                go_meet
                exact ⟨_, R⟩
            case rest =>
              obtain ⟨v', HN2⟩ := hcut
              clear HO HZ HN' HN c0 c1 c2 c3 c4 hlt
              obtain ⟨c0, c1, c2, c3, c4⟩ := HN2.out.1.cells
              have f4 := HN2.out.1.free 4
              go_wp2_with fail
              go_region
              have R : Hid (Nd (wc.setCell ⟨w.heap.size, 4, none⟩ (.int .i64 (bits .or .i64 (alls us : Nat) 8))).drew (w.heap.size + 1) w.heap.size s[0] v' (.slice none 0 0) (us ++ [3]) [] 0 (alls (us ++ [3])) ∧ Below w.heap.size w (wc.setCell ⟨w.heap.size, 4, none⟩ (.int .i64 (bits .or .i64 (alls us : Nat) 8))).drew) := by
                have hl := HN2.out.1.fl.2
                have e : bits .or .i64 (alls us : Nat) 8 = ((alls (us ++ [3]) : Nat) : Int) := by rw [alls_snoc]; exact b_or (y := 8) hl (by decide)
                rw [e]
                exact ⟨(HN2.out.1.setA _ (alls_lt _ HN2.out.1.u4)).drew, (HN2.out.2.setCell (p := ⟨w.heap.size, 4, none⟩) (Nat.le_refl _) _).drew⟩
              have HL2 : Hid (s.data.toList.drop 1 = (us ++ [3]).map vb ++ (t.extract 1 t.size).data.toList) := by
                rw [Hid, HL.out, HD.out, HM.out, tail_one]; simp
              go_wp2
              go_roundw
              case rel => exact ⟨0 + 1, _, us ++ [3], v', by decide, by simp [hul], by first | rfl | go_num, rfl, HL2, R⟩
              case measure => simp [intOf]
      · obtain ⟨te, hd⟩ := empty_of (by omega : t.size = 0)
        have HR : Hid (read s.data.toList = none) := by rw [HS0.out, HL.out, hd, List.length_eq_zero_iff.1 hul]; exact read_p0 HSO.out
        clear hd
        go_wp2
        go_ret2
        exact ⟨_, _, rfl, HN.out.2, by rw [HR.out]; rfl⟩
    · have HR : Hid (∃ m, us = [m] ∧ read s.data.toList = some (.p m, t.data.toList)) := by
        match us, hul, HL with
        | [m], _, HL =>
          have hm := HN.out.1.u4 m (by simp)
          refine ⟨m, rfl, ?_⟩
          rw [HS0.out, HL.out]
          show read (s[0] :: vb m :: t.data.toList) = _
          rw [read_p HSO.out (isV_vb hm), vn_vb hm]
      have f3 := HN.out.1.free 3
      have HN3 : Hid (Nd (wr.setCell ⟨w.heap.size, 3, none⟩ (.int .i64 (alls us : Nat))) (w.heap.size + 1) w.heap.size s[0] v (.slice none 0 0) us [] (alls us) (alls us) ∧ Below w.heap.size w (wr.setCell ⟨w.heap.size, 3, none⟩ (.int .i64 (alls us : Nat)))) :=
        ⟨HN.out.1.setF _ HN.out.1.fl.2, HN.out.2.setCell (p := ⟨w.heap.size, 3, none⟩) (Nat.le_refl _) _⟩
      go_wp2_with fail
      obtain ⟨w4, hw4⟩ : ∃ QZ, QZ = wr.setCell ⟨w.heap.size, 3, none⟩ (.int .i64 (alls us : Nat)) := ⟨_, rfl⟩
      rw [← hw4] at HN3 ⊢
      clear hw4 HN c0 c1 c2 c3 c4 f3
      go_loop [0, 90] (fun s0 i => s0 = .string t ∧ i = .int .i64 0) (fun _ _ => 0)
      case atStart => exact ⟨rfl, rfl⟩
      case round =>
        obtain ⟨rfl, rfl⟩ := hrel
        go_wp2_with fail
        refine (isQuantifier_any 84 w.heap.size s[0] us [] (alls us) (alls us) _ HN3.out.1.node).mono ?_
        rintro eo w1 ⟨rfl, rfl⟩
        rw [HQ.out]
        go_wp2
        go_ret2
        exact ⟨_, _, rfl, HN3.out.2, by obtain ⟨m, rfl, hr⟩ := HR.out; rw [hr]; exact ⟨rfl, w.heap.size, rfl, fun _ hg => tree_p (sort_p HSO.out) HN3.out.1 (Nat.le_refl _) hg⟩⟩
end Go.Proofs.YtpcnoiigbmiejaaDoor.fmya
