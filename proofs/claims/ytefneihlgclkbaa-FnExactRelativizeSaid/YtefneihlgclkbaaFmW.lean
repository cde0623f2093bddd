/- Formulas in the program: parsePart (under way). -/
import Derived.Test.YtefneihlgclkbaaFmV
namespace Go.Proofs.Ytefneihlgclkbaa.fmw
set_option linter.unusedVariables false
set_option linter.unusedSimpArgs false
open Go.ChangeShapes Go.WideShapes Go.ChangeAt Go.RowKit
open Go.Proofs.Ytefneihlgclkbaa.lib Go.Proofs.Ytefneihlgclkbaa.fm Go.Proofs.Ytefneihlgclkbaa.fmp Go.Proofs.Ytefneihlgclkbaa.fmt Go.Proofs.Ytefneihlgclkbaa.fmu Go.Proofs.Ytefneihlgclkbaa.fme

/-- what parsePart returns for a text -/
def PartP (T : TypeId) (w : World) (l : List UInt8) (e : Ending) (w' : World) : Prop :=
  ∃ (p : Value) (t : ByteArray), e = .returned (.tuple #[p, .string t]) ∧ Below w.heap.size w w' ∧ match read l with
    | some (a, r) => t = ⟨r.toArray⟩ ∧ ∃ H, p = .pointer (some ⟨H, 0, none⟩) ∧ TS T w.heap.size w'.heap.size w' a H
    | none => p = .pointer none
set_option maxRecDepth 100000 in
theorem part_empty (T : TypeId) (w : World) : Calls Try.prog 28 #[.string ⟨#[]⟩] w (PartP T w []) := by
  go_enter Try.func28, Try.ntmps28
  go_wp2
  go_ret2
  exact ⟨_, _, rfl, Below.refl _ _, rfl⟩
theorem tail_one {s : ByteArray} : s.extract 1 s.size = ⟨(s.data.toList.drop 1).toArray⟩ := by
  apply ByteArray.ext
  rw [ByteArray.data_extract]
  apply Array.ext'
  simp only [Array.toList_extract, List.extract_eq_take_drop]
  rw [List.take_of_length_le (by rw [List.length_drop, lsz]; omega)]
set_option maxHeartbeats 1600000 in
set_option maxRecDepth 100000 in
theorem part_tf (s : ByteArray) (hs : s.size ≤ 4000) (h0 : 0 < s.size) (hne : s.toList.isEmpty = false) (hx : s[0].toNat = 116) (w : World) :
    Calls Try.prog 28 #[.string s] w (PartP 49 w s.data.toList) := by
  have e1 : ((s[0].toNat : Int) == 116) = true := by simp; omega
  have HQ : Hid (isQ s[0].toNat = false) := by rw [hx]; rfl
  have HR : Hid (read s.data.toList = some (.tf s[0], s.data.toList.drop 1)) := by
    have h := drop_at h0
    rw [List.drop_zero] at h
    unfold Hid
    rw [h, read_tf (sort_of 116 hx rfl)]
    rfl
  have ND : Hid (fmt.Node 49 (w.alloc (.cells #[.int .u8 s[0].toNat, .slice none 0 0, .slice none 0 0, .int .i64 0, .int .i64 0] 49)) w.heap.size s[0] [] [] 0 0) :=
    ⟨_, _, heap_alloc_new w _, ⟨none, 0, rfl, .inl rfl⟩, ⟨none, 0, rfl, .inl rfl⟩⟩
  clear hx
  go_enter Try.func28, Try.ntmps28
  go_wp2_with fail
  go_loop [0, 41] (fun s0 i => s0 = .string (s.extract 1 s.size) ∧ i = .int .i64 0) (fun _ _ => 0)
  case atStart => exact ⟨rfl, rfl⟩
  case round =>
    obtain ⟨rfl, rfl⟩ := hrel
    go_wp2_with fail
    go_loop [0, 90] (fun s0 i => s0 = .string (s.extract 1 s.size) ∧ i = .int .i64 0) (fun _ _ => 0)
    case atStart => exact ⟨rfl, rfl⟩
    case round =>
      obtain ⟨rfl, rfl⟩ := hrel
      go_wp2_with fail
      refine (isQuantifier_any 49 w.heap.size s[0] [] [] 0 0 _ ND.out).mono ?_
      rintro eo w1 ⟨rfl, rfl⟩
      rw [HQ.out]
      go_wp2
      go_ret2
      exact ⟨_, _, rfl, (Below.refl _ _).alloc (Nat.le_refl _) _, by rw [HR.out]; exact ⟨tail_one, w.heap.size, rfl, fun _ hg => node_new hg⟩⟩
set_option maxHeartbeats 1600000 in
set_option maxRecDepth 100000 in
theorem part_tf2 (s : ByteArray) (hs : s.size ≤ 4000) (h0 : 0 < s.size) (hne : s.toList.isEmpty = false) (hx : s[0].toNat = 102) (w : World) :
    Calls Try.prog 28 #[.string s] w (PartP 49 w s.data.toList) := by
  have e0 : ((s[0].toNat : Int) == 116) = false := by simp; omega
  have e1 : ((s[0].toNat : Int) == 102) = true := by simp; omega
  have HQ : Hid (isQ s[0].toNat = false) := by rw [hx]; rfl
  have HR : Hid (read s.data.toList = some (.tf s[0], s.data.toList.drop 1)) := by
    have h := drop_at h0
    rw [List.drop_zero] at h
    unfold Hid
    rw [h, read_tf (sort_of 102 hx rfl)]
    rfl
  have ND : Hid (fmt.Node 49 (w.alloc (.cells #[.int .u8 s[0].toNat, .slice none 0 0, .slice none 0 0, .int .i64 0, .int .i64 0] 49)) w.heap.size s[0] [] [] 0 0) :=
    ⟨_, _, heap_alloc_new w _, ⟨none, 0, rfl, .inl rfl⟩, ⟨none, 0, rfl, .inl rfl⟩⟩
  clear hx
  go_enter Try.func28, Try.ntmps28
  go_wp2_with fail
  go_loop [0, 41] (fun s0 i => s0 = .string (s.extract 1 s.size) ∧ i = .int .i64 0) (fun _ _ => 0)
  case atStart => exact ⟨rfl, rfl⟩
  case round =>
    obtain ⟨rfl, rfl⟩ := hrel
    go_wp2_with fail
    go_loop [0, 90] (fun s0 i => s0 = .string (s.extract 1 s.size) ∧ i = .int .i64 0) (fun _ _ => 0)
    case atStart => exact ⟨rfl, rfl⟩
    case round =>
      obtain ⟨rfl, rfl⟩ := hrel
      go_wp2_with fail
      refine (isQuantifier_any 49 w.heap.size s[0] [] [] 0 0 _ ND.out).mono ?_
      rintro eo w1 ⟨rfl, rfl⟩
      rw [HQ.out]
      go_wp2
      go_ret2
      exact ⟨_, _, rfl, (Below.refl _ _).alloc (Nat.le_refl _) _, by rw [HR.out]; exact ⟨tail_one, w.heap.size, rfl, fun _ hg => node_new hg⟩⟩
set_option maxHeartbeats 1600000 in
set_option maxRecDepth 100000 in
theorem part_bad (s : ByteArray) (hs : s.size ≤ 4000) (h0 : 0 < s.size) (hne : s.toList.isEmpty = false) (hx : ∀ n, n ∈ [116, 102, 80, 61, 69, 33, 38, 124, 65, 83, 50, 51, 52] → s[0].toNat ≠ n) (w : World) :
    Calls Try.prog 28 #[.string s] w (PartP 49 w s.data.toList) := by
  have e116 : ((s[0].toNat : Int) == 116) = false := by have := hx 116 (by decide); simp; omega
  have e102 : ((s[0].toNat : Int) == 102) = false := by have := hx 102 (by decide); simp; omega
  have e80 : ((s[0].toNat : Int) == 80) = false := by have := hx 80 (by decide); simp; omega
  have e61 : ((s[0].toNat : Int) == 61) = false := by have := hx 61 (by decide); simp; omega
  have e69 : ((s[0].toNat : Int) == 69) = false := by have := hx 69 (by decide); simp; omega
  have e33 : ((s[0].toNat : Int) == 33) = false := by have := hx 33 (by decide); simp; omega
  have e38 : ((s[0].toNat : Int) == 38) = false := by have := hx 38 (by decide); simp; omega
  have e124 : ((s[0].toNat : Int) == 124) = false := by have := hx 124 (by decide); simp; omega
  have e65 : ((s[0].toNat : Int) == 65) = false := by have := hx 65 (by decide); simp; omega
  have e83 : ((s[0].toNat : Int) == 83) = false := by have := hx 83 (by decide); simp; omega
  have e50 : ((s[0].toNat : Int) == 50) = false := by have := hx 50 (by decide); simp; omega
  have e51 : ((s[0].toNat : Int) == 51) = false := by have := hx 51 (by decide); simp; omega
  have e52 : ((s[0].toNat : Int) == 52) = false := by have := hx 52 (by decide); simp; omega
  have HR : Hid (read s.data.toList = none) := by
    have h := drop_at h0
    rw [List.drop_zero] at h
    unfold Hid
    rw [h, read_bad (sort_none hx)]
  have BL : Hid (Below w.heap.size w (w.alloc (.cells #[.int .u8 s[0].toNat, .slice none 0 0, .slice none 0 0, .int .i64 0, .int .i64 0] 49))) := (Below.refl _ _).alloc (Nat.le_refl _) _
  clear hx
  go_enter Try.func28, Try.ntmps28
  go_wp2
  go_ret2
  exact ⟨_, _, rfl, BL.out, by rw [HR.out]; rfl⟩
end Go.Proofs.Ytefneihlgclkbaa.fmw
