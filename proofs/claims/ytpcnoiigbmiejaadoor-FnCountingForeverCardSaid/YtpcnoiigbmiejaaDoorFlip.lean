/- l1Flip of the reference, of a text of one byte. -/
import Derived.Test.YtpcnoiigbmiejaaDoorPkD
import Derived.Laws.IdiomStrings
namespace Go.Proofs.YtpcnoiigbmiejaaDoor.flip
set_option linter.unusedVariables false
set_option linter.unusedSimpArgs false
open Go.ChangeShapes Go.WideShapes Go.ChangeAt Go.RowKit
open Go.Proofs.YtpcnoiigbmiejaaDoor.lib Go.Proofs.YtpcnoiigbmiejaaDoor.st Go.Proofs.YtpcnoiigbmiejaaDoor.draw Go.Proofs.YtpcnoiigbmiejaaDoor.flow
set_option maxHeartbeats 1600000 in
set_option maxRecDepth 100000 in
theorem flip_core (s : ByteArray) (w : World) (cap x : Nat) (C : Array Value) (hx : x < 256) (hC : C[0]? = some (.int .u8 x)) (hcap : 1 ≤ cap ∧ cap ≤ 9223372036854775807)
    (hconv : (convert 9 22 (.string s)).run Tryd.prog w = .ok (.slice (some ⟨w.heap.size, 0, none⟩) 1 cap) (w.drew.alloc (.cells C 5 (C.size, C.size + 1)))) :
    Calls Tryd.prog 98 #[.string s] w fun e w' => ∃ t : ByteArray, t.size = 1 ∧ e = .returned (.string t) ∧ Below w.heap.size w w' := by
  have hC1 : 1 ≤ C.size := by
    rcases Nat.eq_zero_or_pos C.size with h | h
    · rw [Array.getElem?_eq_none (by omega)] at hC; cases hC
    · exact h
  have START : Hid (Below w.heap.size w (w.drew.alloc (.cells C 5 (C.size, C.size + 1))) ∧ ∃ z : Nat, z < 256 ∧ (w.drew.alloc (.cells C 5 (C.size, C.size + 1))).cell? ⟨w.heap.size, 0, none⟩ = some (.int .u8 z) ∧ (w.drew.alloc (.cells C 5 (C.size, C.size + 1))).frozen? ⟨w.heap.size, 0, none⟩ = false) := by
    refine ⟨((Below.refl w.heap.size w).drew).alloc (Nat.le_refl _) _, x, hx, ?_, ?_⟩
    · rw [show w.heap.size = w.drew.heap.size from rfl, World.cell?_alloc_mark]; exact hC
    · rw [show w.heap.size = w.drew.heap.size from rfl, World.frozen?_alloc_mark, decide_eq_false (show ¬ C.size ≤ 0 by omega)]; rfl
  have BACK : Hid (∀ (W : World) (z : Nat), z < 256 → W.cell? ⟨w.heap.size, 0, none⟩ = some (.int .u8 z) → (convert 22 9 (.slice (some ⟨w.heap.size, 0, none⟩) 1 cap)).run Tryd.prog W = .ok (.string ⟨#[UInt8.ofNat z]⟩) W) := fun W z hz hc => by
    refine run_convert_bytes_back W 22 9 5 ⟨w.heap.size, 0, none⟩ cap [UInt8.ofNat z] Tryd.underlying22 Tryd.underlying5 Tryd.underlying9 fun j hj => ?_
    have : j = 0 := by simpa using hj
    subst this
    simp only [Addr.add, List.getElem_cons_zero]
    rw [show ((UInt8.ofNat z).toNat : Int) = (z : Int) by simp; omega]
    exact hc
  obtain ⟨H, hH⟩ : ∃ H, H = w.heap.size := ⟨_, rfl⟩
  have HH := Lib.hid hH
  have HC := Lib.hid hC
  rw [← hH] at START BACK
  clear hC hx hH
  go_enter Tryd.func98, Tryd.ntmps98
  go_wp2_with fail
  try rw [← HH.out]
  go_loopw [4] (fun i wr => ∃ k : Nat, k ≤ 1 ∧ i = .int .i64 k ∧ Below H w wr ∧ ∃ z : Nat, z < 256 ∧ wr.cell? ⟨H, 0, none⟩ = some (.int .u8 z) ∧ wr.frozen? ⟨H, 0, none⟩ = false) (fun i _ => 1 - (intOf i).toNat)
  case atStart => exact ⟨0, by omega, rfl, START.out⟩
  case round =>
    clear START hconv
    obtain ⟨k, hk, rfl, hb, z, hz, hc, hf⟩ := hrel
    have HB := Lib.hid hb
    clear hb
    rcases (show k = 0 ∨ k = 1 by omega) with rfl | rfl
    · have hy : ∃ y : Nat, (97 - (z : Int)) % 256 = (y : Int) ∧ y < 256 := ⟨((97 - (z : Int)) % 256).toNat, by omega, by omega⟩
      obtain ⟨y, hy, hy2⟩ := hy
      have HY := Lib.hid hy
      have R : Hid (Below H w (wr.setCell ⟨H, 0, none⟩ (.int .u8 y)) ∧ (wr.setCell ⟨H, 0, none⟩ (.int .u8 y)).cell? ⟨H, 0, none⟩ = some (.int .u8 y) ∧ (wr.setCell ⟨H, 0, none⟩ (.int .u8 y)).frozen? ⟨H, 0, none⟩ = false) :=
        ⟨HB.out.setCell (Nat.le_refl _) _, World.cell?_setCell_same _ _ _ hc, by rw [World.frozen?_setCell]; exact hf⟩
      clear hy
      go_wp2
      rw [HY.out]
      exact ⟨⟨1, Nat.le_refl _, rfl, R.out.1, y, hy2, R.out.2.1, R.out.2.2⟩, by simp [intOf]⟩
    · have hback := BACK.out wr z hz hc
      have R : Hid ((⟨#[UInt8.ofNat z]⟩ : ByteArray).size = 1 ∧ Below w.heap.size w wr) := ⟨rfl, by rw [← HH.out]; exact HB.out⟩
      go_wp2
      go_ret
      exact ⟨_, R.out.1, rfl, R.out.2⟩
theorem flip_any (s : ByteArray) (w : World) (hs : s.size = 1) :
    Calls Tryd.prog 98 #[.string s] w fun e w' => ∃ t : ByteArray, t.size = 1 ∧ e = .returned (.string t) ∧ Below w.heap.size w w' := by
  have h := run_bytes_of_string (P := Tryd.prog) w 9 22 5 s Tryd.underlying9 Tryd.underlying22 Tryd.underlying5
  obtain ⟨x, hx, hb⟩ : ∃ x : Nat, x < 256 ∧ (bytesRow s (grownCap w s.size 0 5))[0]? = some (.int .u8 x) := ⟨(s.data[0]'(by have : s.data.size = s.size := rfl; omega)).toNat, by have := (s.data[0]'(by have : s.data.size = s.size := rfl; omega)).toNat_lt; simpa using this, bytesRow_at s (grownCap w s.size 0 5) 0 (by have : s.data.size = s.size := rfl; omega)⟩
  have hc : 1 ≤ grownCap w s.size 0 5 ∧ grownCap w s.size 0 5 ≤ 9223372036854775807 := ⟨Nat.le_trans (by omega) (grownCap_ge w s.size 0 _), Nat.le_trans (grownCap_le_maxLen w s.size 0 _ (by unfold maxLen; omega)) (by unfold maxLen; omega)⟩
  rw [hs] at h hb hc
  exact flip_core s w _ x _ hx hb hc h
end Go.Proofs.YtpcnoiigbmiejaaDoor.flip
