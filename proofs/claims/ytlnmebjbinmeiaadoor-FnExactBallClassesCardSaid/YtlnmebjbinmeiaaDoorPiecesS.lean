/- PiecesOf in the reference. -/
import Derived.Test.YtlnmebjbinmeiaaDoorPieces
namespace Go.Proofs.YtlnmebjbinmeiaaDoor.pieces
set_option linter.unusedVariables false
set_option linter.unusedSimpArgs false
open Go.ChangeShapes Go.WideShapes Go.ChangeAt Go.RowKit
open Go.Proofs.YtlnmebjbinmeiaaDoor.lib Go.Proofs.YtlnmebjbinmeiaaDoor.st Go.Proofs.YtlnmebjbinmeiaaDoor.base Go.Proofs.YtlnmebjbinmeiaaDoor.near Go.Proofs.YtlnmebjbinmeiaaDoor.dist Go.Proofs.YtlnmebjbinmeiaaDoor.cls

set_option maxHeartbeats 1600000 in
theorem specPieces_any (n : Int) (s r : ByteArray) (w : World) (hs : s.size ≤ 9223372036854775807) (hr : r.size ≤ 9223372036854775807) :
    Calls Tryd.prog 20 #[.agg #[.int .i64 n, .string s, .string r]] w fun e w' => ∃ v, e = .returned v ∧ OwnI 3 w' w.heap.size v (piecesR n s r) ∧ Below w.heap.size w w' := by
  obtain ⟨HB, hHB⟩ : ∃ HB, HB = w.heap.size + 1 := ⟨_, rfl⟩
  have BX : Hid (Box 25 (w.alloc (.cells #[.int .i64 n, .string s, .string r] 25)) w.heap.size n s r) := Box.new _ w _ rfl n s r
  have AW : Hid (Below w.heap.size w (w.alloc (.cells #[.int .i64 n, .string s, .string r] 25))) := (Below.refl _ _).alloc (Nat.le_refl _) _
  have he : Hid (OwnI 3 ((w.alloc (.cells #[.int .i64 n, .string s, .string r] 25)).alloc (.cells #[] 3)) HB (.slice (some ⟨w.heap.size + 1, 0, none⟩) 0 0) []) := emptyRow _ _ _ _ (by simp) (by omega)
  have hb0 : Hid (Below HB (w.alloc (.cells #[.int .i64 n, .string s, .string r] 25)) ((w.alloc (.cells #[.int .i64 n, .string s, .string r] 25)).alloc (.cells #[] 3))) := (Below.refl _ _).alloc (by simp; omega) _
  have HHB := Lib.hid hHB
  clear hHB
  go_enter Tryd.func20, Tryd.ntmps20
  obtain ⟨c0, c1, c2⟩ := (BX.out.below hb0.out (by have := HHB.out; omega)).c
  go_wp2_with fail
  refine (StructureValid_any n s r _ hs hr).mono ?_
  rintro e w1 ⟨rfl, hw⟩
  clear c0 c1 c2
  have HST : Hid (OwnI 3 w1 HB (.slice (some ⟨w.heap.size + 1, 0, none⟩) 0 0) [] ∧ Below HB (w.alloc (.cells #[.int .i64 n, .string s, .string r] 25)) w1) := ⟨he.out.below hw (Nat.le_refl _), hb0.out.trans (hw.mono (by have := HHB.out; simp; omega))⟩
  clear hw
  cases hb : validB n s r with
  | false =>
    have HE : Hid (piecesR n s r = []) := by rw [Hid, piecesR, hb]; rfl
    clear hb
    go_wp2
    go_ret
    exact ⟨_, rfl, by rw [HE.out]; exact HST.out.1.mono (by have := HHB.out; omega), AW.out.trans (HST.out.2.mono (by have := HHB.out; omega))⟩
  | true =>
    obtain ⟨N, rfl, hN1, hN8, hsN, hrN⟩ := valid_size hb
    have HE : Hid (piecesR N s r = (clsOf (conn N r) N).1) := by rw [Hid, piecesR, hb]; rfl
    have HR := Lib.hid hrN
    clear hb hsN hrN
    obtain ⟨c0, c1, c2⟩ := (BX.out.below HST.out.2 (by have := HHB.out; omega)).c
    have START : Hid (Cs (conn N r) (w.alloc (.cells #[.int .i64 N, .string s, .string r] 25)) HB 0 (.slice (some ⟨w.heap.size + 1, 0, none⟩) 0 0) (.int .i64 0) w1) := ⟨_, _, rfl, rfl, HST.out.1, HST.out.2⟩
    have HSZ : Hid ((w.alloc (.cells #[.int .i64 N, .string s, .string r] 25)).heap.size = HB) := by rw [HHB.out]; simp [Hid]
    go_wp2
    go_loopw [3, 4, 5] (fun v nx i wr => ∃ x : Nat, x ≤ N ∧ i = .int .i64 x ∧ Cs (conn N r) (w.alloc (.cells #[.int .i64 N, .string s, .string r] 25)) HB x v nx wr) (fun _ _ i _ => N - (intOf i).toNat)
    case atStart => exact ⟨0, Nat.zero_le _, rfl, START.out⟩
    case round =>
      clear START c0 c1 c2
      obtain ⟨x, hx, rfl, g, cap, rfl, rfl, hown, hb⟩ := hrel
      obtain ⟨c0, c1, c2⟩ := (BX.out.below hb (by have := HHB.out; omega)).c
      have HO := Lib.hid (show _ ∧ _ from ⟨hown, hb⟩)
      have HL := Lib.hid (cls_len (conn N r) x)
      have hnx : (clsOf (conn N r) x).2 ≤ 8 := by have := HL.out.2; omega
      obtain ⟨M, hM⟩ : ∃ M, M = (clsOf (conn N r) x).2 := ⟨_, rfl⟩
      rw [← hM] at hnx ⊢
      have HM := Lib.hid hM
      clear hown hb hM
      by_cases hxn : x < N
      · go_wp2_with fail
        refine (l9Distances_any N s r x _ hxn hN8 HR.out).mono ?_
        rintro e w2 ⟨lv, out, rfl, ho, hd, hw⟩
        have hl := hd.len
        rcases ho.shape with ⟨_, h0⟩ | ⟨go, co, rfl⟩
        · rw [h0] at hl; simp at hl; omega
        rw [hl] at ho ⊢
        have HP : Hid (∀ y, y < x → conn N r y x = decide (0 ≤ out.getD y 0)) := fun y hy => by
          unfold conn
          rw [D_symm (adj_symm N r) (by omega) hxn]
          unfold D
          rw [distL_eq hxn hd]
        have HO2 := Lib.hid (show _ ∧ _ ∧ _ from ⟨HO.out.1.below hw (Nat.le_refl _), HO.out.2.trans (hw.mono (by have := HO.out.2.size; have := HSZ.out; omega)), ho⟩)
        have HLL := Lib.hid hl
        clear ho hd hw hl HO c0 c1 c2
        go_wp2_with fail
        go_loop [7, 8] (fun a i => ∃ (k : Nat) (c : Int), k ≤ x ∧ i = .int .i64 k ∧ a = .int .i64 c ∧ At (conn N r) x k c) (fun _ i => x - (intOf i).toNat)
        case atStart => exact ⟨0, M, Nat.zero_le _, rfl, rfl, .inl ⟨fun y hy => (by omega), by rw [HM.out]⟩⟩
        case round =>
          obtain ⟨k, c, hk, rfl, rfl, hat⟩ := hrel
          have HAT := Lib.hid hat
          clear hat
          by_cases hkx : k < x
          · have hcl := HO2.out.2.2.cell k (by have := HLL.out; omega)
            have hcc := HO2.out.1.cell k (by have := HL.out.1; omega)
            obtain ⟨dd, hdd⟩ : ∃ q, q = out.getD k 0 := ⟨_, rfl⟩
            obtain ⟨cc, hcc2⟩ : ∃ q, q = (clsOf (conn N r) x).1.getD k 0 := ⟨_, rfl⟩
            rw [← hdd] at hcl
            rw [← hcc2] at hcc
            by_cases h0 : 0 ≤ dd
            · have R : Hid (At (conn N r) x (k + 1) cc) := by rw [hcc2]; exact At.yes (by rw [HP.out k hkx, ← hdd]; exact decide_eq_true h0)
              clear hdd hcc2
              go_wp2
              go_round
              case rel => exact ⟨k + 1, cc, by omega, by go_num, rfl, R.out⟩
              case measure => simp [intOf]; omega
            · have R : Hid (At (conn N r) x (k + 1) c) := HAT.out.no (by rw [HP.out k hkx, ← hdd]; exact decide_eq_false h0)
              clear hdd hcc2
              go_wp2
              go_round
              case rel => exact ⟨k + 1, c, by omega, by go_num, rfl, R.out⟩
              case measure => simp [intOf]; omega
          · obtain rfl : x = k := by omega
            have hsz : HB ≤ w2.heap.size := by have := HO2.out.2.1.size; have := HSZ.out; omega
            rcases HAT.out.fin (conn_eqv N r) hxn with ⟨hc, hS⟩ | ⟨hc, hS⟩
            · have ht : ((c : Int) == (M : Int)) = true := by rw [hc, HM.out]; simp
              have HS := Lib.hid hS
              clear hc hS
              go_wp2_with (at_builtin; refine wpList_app1 w2 rfl (.tmp 43) (.tmp 45) 31 rfl HB 3 (.int .i64 0) 8 Tryd.underlying31 infoInt rfl (by decide) _ _ _ (.int .i64 c) rfl HO2.out.1 w2.heap.size rfl rfl rfl (by have := HL.out.1; omega) hsz ?_)
              intro g' cap' w9 hown9 hgr
              have R : Hid (Cs (conn N r) (w.alloc (.cells #[.int .i64 N, .string s, .string r] 25)) HB (x + 1) (.slice (some ⟨g', 0, none⟩) (x + 1) cap') (.int .i64 ((M + 1 : Nat) : Int)) w9) := by
                have hl := HL.out.1
                refine ⟨g', cap', rfl, by rw [HS.out, HM.out], ?_, HO2.out.2.1.trans (hgr.below HO2.out.1 hsz)⟩
                rw [HS.out]
                rw [hl] at hown9
                unfold OwnI
                rw [List.length_append, ivs_append, hl]
                exact hown9
              rw [HL.out.1]
              clear hown9 hgr hsz
              go_wp2
              go_roundw
              case rel => exact ⟨x + 1, by omega, by go_num, R.out⟩
              case measure => simp [intOf]; omega
            · have ht : ((c : Int) == (M : Int)) = false := by rw [HM.out]; simpa using hc
              have HS := Lib.hid hS
              clear hc hS
              go_wp2_with (at_builtin; refine wpList_app1 w2 rfl (.tmp 43) (.tmp 45) 31 rfl HB 3 (.int .i64 0) 8 Tryd.underlying31 infoInt rfl (by decide) _ _ _ (.int .i64 c) rfl HO2.out.1 w2.heap.size rfl rfl rfl (by have := HL.out.1; omega) hsz ?_)
              intro g' cap' w9 hown9 hgr
              have R : Hid (Cs (conn N r) (w.alloc (.cells #[.int .i64 N, .string s, .string r] 25)) HB (x + 1) (.slice (some ⟨g', 0, none⟩) (x + 1) cap') (.int .i64 M) w9) := by
                have hl := HL.out.1
                refine ⟨g', cap', rfl, by rw [HS.out, HM.out], ?_, HO2.out.2.1.trans (hgr.below HO2.out.1 hsz)⟩
                rw [HS.out]
                rw [hl] at hown9
                unfold OwnI
                rw [List.length_append, ivs_append, hl]
                exact hown9
              rw [HL.out.1]
              clear hown9 hgr hsz
              go_wp2
              go_roundw
              case rel => exact ⟨x + 1, by omega, by go_num, R.out⟩
              case measure => simp [intOf]; omega
      · obtain rfl : N = x := by omega
        go_wp2
        go_ret
        exact ⟨_, rfl, by rw [HE.out]; exact HO.out.1.mono (by have := HHB.out; omega), AW.out.trans (HO.out.2.mono (by have := HHB.out; omega))⟩

theorem len0 (n : Int) (s r : ByteArray) : s.size + r.size ≤ 1048576 → (piecesR n s r).length ≤ 4194304 := by
  intro _; unfold piecesR; split
  · rename_i h
    obtain ⟨N, rfl, hN1, hN8, _⟩ := valid_size h
    have := (cls_len (conn N r) N).1
    simp only [Int.toNat_natCast]; omega
  · simp
theorem specE (n : Int) (s r : ByteArray) (hn : (Lit.int .i64 n).wf = true) : s.size + r.size ≤ 1048576 → ∀ (w : World),
    Calls Tryd.prog 20 #[.agg #[.int .i64 n, .string s, .string r]] w fun e w' => ∃ v0, e = .returned (v0) ∧ OwnI 3 w' w.heap.size v0 (piecesR n s r) ∧ Below w.heap.size w w' :=
  fun h w => specPieces_any n s r w (by omega) (by omega)
theorem implE (n : Int) (s r : ByteArray) (hn : (Lit.int .i64 n).wf = true) : s.size + r.size ≤ 1048576 → ∀ (w : World),
    Calls Tryd.prog 21 #[.agg #[.int .i64 n, .string s, .string r]] w fun e w' => ∃ v0, e = .returned (v0) ∧ OwnI 3 w' w.heap.size v0 (piecesR n s r) ∧ Below w.heap.size w w' :=
  fun h w => implPieces_any n s r w (by omega) (by omega)
end Go.Proofs.YtlnmebjbinmeiaaDoor.pieces
