/- Formulas in the reference: images and fresh variables. -/
import Derived.Test.YtefneihlgclkbaaFmF
namespace Go.Proofs.Ytefneihlgclkbaa.fmi
set_option linter.unusedVariables false
set_option linter.unusedSimpArgs false
open Go.ChangeShapes Go.WideShapes Go.ChangeAt Go.RowKit
open Go.Proofs.Ytefneihlgclkbaa.lib Go.Proofs.Ytefneihlgclkbaa.fm Go.Proofs.Ytefneihlgclkbaa.fms Go.Proofs.Ytefneihlgclkbaa.fmp Go.Proofs.Ytefneihlgclkbaa.fmq Go.Proofs.Ytefneihlgclkbaa.fme Go.Proofs.Ytefneihlgclkbaa.fmf

theorem b_in0 : ∀ a : Fin 16, ∀ v : Fin 4, (bits .and .i64 (((a.1 : Nat) : Int) / ((2 ^ v.1 : Nat) : Int)) 1 == 1) = inS a.1 v.1 := by decide
theorem b_out0 : ∀ a : Fin 16, ∀ v : Fin 4, (bits .and .i64 (((a.1 : Nat) : Int) / ((2 ^ v.1 : Nat) : Int)) 1 == 0) = !inS a.1 v.1 := by decide
theorem b_in_0 {s : Nat} (h : s < 16) : (bits .and .i64 ((s : Int)) 1 == 1) = (inS s 0) := by
  have := b_in0 ⟨s, h⟩ ⟨0, by decide⟩
  simpa using this
theorem b_out_0 {s : Nat} (h : s < 16) : (bits .and .i64 ((s : Int)) 1 == 0) = (!inS s 0) := by
  have := b_out0 ⟨s, h⟩ ⟨0, by decide⟩
  simpa using this
theorem b_in_1 {s : Nat} (h : s < 16) : (bits .and .i64 ((s : Int) / 2) 1 == 1) = (inS s 1) := by
  have := b_in0 ⟨s, h⟩ ⟨1, by decide⟩
  simpa using this
theorem b_out_1 {s : Nat} (h : s < 16) : (bits .and .i64 ((s : Int) / 2) 1 == 0) = (!inS s 1) := by
  have := b_out0 ⟨s, h⟩ ⟨1, by decide⟩
  simpa using this
theorem b_in_2 {s : Nat} (h : s < 16) : (bits .and .i64 ((s : Int) / 4) 1 == 1) = (inS s 2) := by
  have := b_in0 ⟨s, h⟩ ⟨2, by decide⟩
  simpa using this
theorem b_out_2 {s : Nat} (h : s < 16) : (bits .and .i64 ((s : Int) / 4) 1 == 0) = (!inS s 2) := by
  have := b_out0 ⟨s, h⟩ ⟨2, by decide⟩
  simpa using this
theorem b_in_3 {s : Nat} (h : s < 16) : (bits .and .i64 ((s : Int) / 8) 1 == 1) = (inS s 3) := by
  have := b_in0 ⟨s, h⟩ ⟨3, by decide⟩
  simpa using this
theorem b_out_3 {s : Nat} (h : s < 16) : (bits .and .i64 ((s : Int) / 8) 1 == 0) = (!inS s 3) := by
  have := b_out0 ⟨s, h⟩ ⟨3, by decide⟩
  simpa using this
theorem shl_wrap {v : Nat} (h : v < 4) : wrap64 (2 ^ min (IntKind.u64.wrap (v : Int)).toNat 64) = ((1 <<< v : Nat) : Int) := by
  obtain rfl | rfl | rfl | rfl : v = 0 ∨ v = 1 ∨ v = 2 ∨ v = 3 := by omega
  all_goals first | (simp [wrap64, IntKind.wrap, IntKind.bits, IntKind.signed]; done) | rfl | (kernel_rfl)
theorem imgs_lt {s : Nat} {m : Nat → Nat} (hm : ∀ v, v < 4 → m v < 4) : ∀ {k : Nat}, k ≤ 4 → imgs s m k < 16
  | 0, _ => by show 0 < 16; decide
  | k + 1, hk => by
    unfold imgs
    split
    · exact or_lt ⟨_, imgs_lt hm (by omega)⟩ ⟨1 <<< m k, sh_lt ⟨m k, hm k (by omega)⟩⟩
    · exact imgs_lt hm (by omega)
theorem imgs_yes {s k : Nat} {m : Nat → Nat} (hm : ∀ v, v < 4 → m v < 4) (hk : k < 4) (h : inS s k = true) : bits .or .i64 (imgs s m k : Nat) (wrap64 (2 ^ min (IntKind.u64.wrap (m k : Int)).toNat 64)) = (imgs s m (k + 1) : Nat) := by
  rw [shl_wrap (hm k hk), b_or (imgs_lt hm (by omega)) (sh_lt ⟨m k, hm k hk⟩)]
  conv => rhs; unfold imgs
  rw [if_pos h]
theorem imgs_no {s k : Nat} {m : Nat → Nat} (h : inS s k = false) : imgs s m (k + 1) = imgs s m k := by
  conv => lhs; unfold imgs
  rw [if_neg (by rw [h]; simp)]
set_option maxHeartbeats 3200000 in
theorem l11Images_any (s : Nat) (m : Nat → Nat) (w : World) (hs : s < 16) (hm : ∀ v, v < 4 → m v < 4) :
    Calls Try.prog 33 #[.int .i64 s, .agg #[.int .i64 (m 0), .int .i64 (m 1), .int .i64 (m 2), .int .i64 (m 3)]] w fun e w' => e = .returned (.int .i64 (imgs s m 4)) ∧ Below w.heap.size w w' := by
  have HM := Lib.hid hm
  have AW : Hid (Below w.heap.size w (w.alloc (.cells #[.int .i64 (m 0), .int .i64 (m 1), .int .i64 (m 2), .int .i64 (m 3)] 35))) := (Below.refl _ _).alloc (Nat.le_refl _) _
  clear hm
  go_enter Try.func33, Try.ntmps33
  go_wp2_with fail
  go_loop [5, 6] (fun o i => ∃ k : Nat, k ≤ 4 ∧ i = .int .i64 k ∧ o = .int .i64 (imgs s m k)) (fun _ i => 4 - (intOf i).toNat)
  case atStart => exact ⟨0, Nat.zero_le _, rfl, rfl⟩
  case round =>
    obtain ⟨k, hk, rfl, rfl⟩ := hrel
    obtain rfl | rfl | rfl | rfl | rfl : k = 0 ∨ k = 1 ∨ k = 2 ∨ k = 3 ∨ k = 4 := by omega
    · have tb := b_in_0 hs
      cases hb : inS s 0 with
      | true =>
        rw [hb] at tb
        have HI := Lib.hid hb
        clear hb
        go_wp2
        go_round
        case rel => exact ⟨1, by omega, rfl, by rw [imgs_yes HM.out (by decide) HI.out]⟩
        case measure => simp [intOf]
      | false =>
        rw [hb] at tb
        have HI := Lib.hid hb
        clear hb
        go_wp2
        go_round
        case rel => exact ⟨1, by omega, rfl, by rw [imgs_no HI.out]⟩
        case measure => simp [intOf]
    · have tb := b_in_1 hs
      cases hb : inS s 1 with
      | true =>
        rw [hb] at tb
        have HI := Lib.hid hb
        clear hb
        go_wp2
        go_round
        case rel => exact ⟨2, by omega, rfl, by rw [imgs_yes HM.out (by decide) HI.out]⟩
        case measure => simp [intOf]
      | false =>
        rw [hb] at tb
        have HI := Lib.hid hb
        clear hb
        go_wp2
        go_round
        case rel => exact ⟨2, by omega, rfl, by rw [imgs_no HI.out]⟩
        case measure => simp [intOf]
    · have tb := b_in_2 hs
      cases hb : inS s 2 with
      | true =>
        rw [hb] at tb
        have HI := Lib.hid hb
        clear hb
        go_wp2
        go_round
        case rel => exact ⟨3, by omega, rfl, by rw [imgs_yes HM.out (by decide) HI.out]⟩
        case measure => simp [intOf]
      | false =>
        rw [hb] at tb
        have HI := Lib.hid hb
        clear hb
        go_wp2
        go_round
        case rel => exact ⟨3, by omega, rfl, by rw [imgs_no HI.out]⟩
        case measure => simp [intOf]
    · have tb := b_in_3 hs
      cases hb : inS s 3 with
      | true =>
        rw [hb] at tb
        have HI := Lib.hid hb
        clear hb
        go_wp2
        go_round
        case rel => exact ⟨4, by omega, rfl, by rw [imgs_yes HM.out (by decide) HI.out]⟩
        case measure => simp [intOf]
      | false =>
        rw [hb] at tb
        have HI := Lib.hid hb
        clear hb
        go_wp2
        go_round
        case rel => exact ⟨4, by omega, rfl, by rw [imgs_no HI.out]⟩
        case measure => simp [intOf]
    · go_wp2
      go_ret
      exact ⟨rfl, AW.out⟩
end Go.Proofs.Ytefneihlgclkbaa.fmi
