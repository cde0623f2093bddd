/- Distances: the reference's side. -/
import Derived.Test.YtlnmebjbinmeiaaDoorDist
namespace Go.Proofs.YtlnmebjbinmeiaaDoor.dist
set_option linter.unusedVariables false
set_option linter.unusedSimpArgs false
open Go.ChangeShapes Go.WideShapes Go.ChangeAt Go.RowKit
open Go.Proofs.YtlnmebjbinmeiaaDoor.lib Go.Proofs.YtlnmebjbinmeiaaDoor.st Go.Proofs.YtlnmebjbinmeiaaDoor.base Go.Proofs.YtlnmebjbinmeiaaDoor.near Go.Proofs.YtlnmebjbinmeiaaDoor.que

/-! the reference's levels -/
def LvS (n : Nat) (r : ByteArray) (x : Nat) (w0 : World) (HB go m i j : Nat) (wr : World) : Prop :=
  ∃ out : List Int, OwnI 3 wr HB (.slice (some ⟨go, 0, none⟩) n n) out ∧ Lv (adj n r) n x m i j out ∧ Below HB w0 wr
theorem fill_step (n k : Nat) (hk : k < n) : (List.replicate k (-1 : Int) ++ List.replicate (n - k) 0).set k (-1) = List.replicate (k + 1) (-1) ++ List.replicate (n - (k + 1)) 0 := by
  rw [List.set_append_right (h := by simp), List.length_replicate, Nat.sub_self, show n - k = (n - (k+1)) + 1 from by omega, List.replicate_succ, List.set_cons_zero, List.replicate_succ', List.append_assoc]
  rfl

set_option maxHeartbeats 3200000 in
theorem l9Distances_any (n : Nat) (s r : ByteArray) (x : Nat) (w : World) (hx : x < n) (hn : n ≤ 8) (hr : r.size = n * n) :
    Calls Tryd.prog 61 #[.agg #[.int .i64 n, .string s, .string r], .int .i64 x] w fun e w' => ∃ v out, e = .returned v ∧ OwnI 3 w' w.heap.size v out ∧ IsDist (adj n r) n x out ∧ Below w.heap.size w w' := by
  obtain ⟨i0, hi, hz0, hz1, hz2⟩ := info_parts infoInt
  obtain ⟨HB, hHB⟩ : ∃ HB, HB = w.heap.size + 1 := ⟨_, rfl⟩
  have BX : Hid (Box 25 (w.alloc (.cells #[.int .i64 n, .string s, .string r] 25)) w.heap.size n s r) := Box.new _ w _ rfl n s r
  have AW : Hid (Below w.heap.size w (w.alloc (.cells #[.int .i64 n, .string s, .string r] 25))) := (Below.refl _ _).alloc (Nat.le_refl _) _
  have HBS : Hid ((w.alloc (.cells #[.int .i64 n, .string s, .string r] 25)).heap.size = HB) := by rw [hHB]; simp [Hid]
  have HHB := Lib.hid hHB
  have HR := Lib.hid hr
  clear hr hHB
  go_enter Tryd.func61, Tryd.ntmps61
  go_wp2_with (at_make; refine wpList_make_full _ rfl _ _ 31 rfl (w.heap.size + 1) 3 i0 (.int .i64 0) 1 Tryd.underlying31 hi hz0 hz1 _ _ _ _ n rfl rfl (by omega) (by omega) ?b2 ?b3 (by simp) ?_)
  case b2 => rw [hz2]; omega
  case b3 => unfold maxLen; omega
  intro w1 hown0 hgrow0
  have hb0 : Below HB (w.alloc (.cells #[.int .i64 n, .string s, .string r] 25)) w1 := below_of_grown hgrow0 (by rw [HBS.out]; exact Nat.le_refl _) (fun k h => by cases h)
  have hown1 : OwnI 3 w1 HB (.slice (some ⟨w.heap.size + 1, 0, none⟩) n n) (List.replicate 0 (-1) ++ List.replicate (n - 0) 0) := by
    have := OwnI.made hown0; rw [HHB.out]; simpa using this
  have HST := Lib.hid (show _ ∧ _ from ⟨hown1, hb0⟩)
  obtain ⟨go, hgo⟩ : ∃ go, go = w.heap.size + 1 := ⟨_, rfl⟩
  have HGO := Lib.hid hgo
  rw [← hgo] at HST ⊢
  clear hown0 hgrow0 hb0 hown1 hgo
  go_wp2
  go_loopw [6] (fun i wr => ∃ k : Nat, k ≤ n ∧ i = .int .i64 k ∧ OwnI 3 wr HB (.slice (some ⟨go, 0, none⟩) n n) (List.replicate k (-1) ++ List.replicate (n - k) 0) ∧ Below HB (w.alloc (.cells #[.int .i64 n, .string s, .string r] 25)) wr) (fun i _ => n - (intOf i).toNat)
  case atStart => exact ⟨0, Nat.zero_le _, rfl, HST.out.1, HST.out.2⟩
  case round =>
    obtain ⟨k, hk, rfl, hown, hnx⟩ := hrel
    obtain ⟨c0, c1, c2⟩ := (BX.out.below hnx (by have := HHB.out; omega)).c
    have HO := Lib.hid (show _ ∧ _ from ⟨hown, hnx⟩)
    by_cases hlt : k < n
    · have hfz : wr.frozen? ⟨go, k, none⟩ = false := hown.free k
      have hce := hown.cell k (by simp; omega)
      have R : Hid (OwnI 3 (wr.setCell ⟨go, k, none⟩ (.int .i64 (-1))) HB (.slice (some ⟨go, 0, none⟩) n n) (List.replicate (k + 1) (-1) ++ List.replicate (n - (k + 1)) 0) ∧ Below HB (w.alloc (.cells #[.int .i64 n, .string s, .string r] 25)) (wr.setCell ⟨go, k, none⟩ (.int .i64 (-1)))) :=
        ⟨by rw [← fill_step n k hlt]; exact hown.set k (-1), hnx.setCell (by exact hown.ge.1) _⟩
      clear hown hnx
      go_wp2
      go_roundw
      case rel => exact ⟨k + 1, by omega, by go_num, R.out.1, R.out.2⟩
      case measure => simp [intOf]; omega
    · obtain rfl : n = k := by omega
      have hfz : wr.frozen? ⟨go, x, none⟩ = false := hown.free x
      have hce := hown.cell x (by simp; omega)
      have R : Hid (LvS n r x (w.alloc (.cells #[.int .i64 n, .string s, .string r] 25)) HB go 0 0 0 (wr.setCell ⟨go, x, none⟩ (.int .i64 0))) := by
        refine ⟨_, hown.set x 0, ?_, hnx.setCell (by exact hown.ge.1) _⟩
        rw [Nat.sub_self, List.replicate_zero, List.append_nil]
        exact Lv.start hx
      clear hown hnx HO hlt
      go_wp2
      go_loopw [7] (fun i wr => ∃ m : Nat, m ≤ n ∧ i = .int .i64 m ∧ LvS n r x (w.alloc (.cells #[.int .i64 n, .string s, .string r] 25)) HB go m 0 0 wr) (fun i _ => n - (intOf i).toNat)
      case atStart => exact ⟨0, Nat.zero_le _, rfl, R.out⟩
      case round =>
        obtain ⟨m, hm, rfl, hlv⟩ := hrel
        have HLV := Lib.hid hlv
        obtain ⟨out, hown, hl, hnx⟩ := hlv
        obtain ⟨c0, c1, c2⟩ := (BX.out.below hnx (by have := HHB.out; omega)).c
        have HQ := Lib.hid (show _ ∧ _ ∧ _ from ⟨hown, hl, hnx⟩)
        clear hown hl hnx R
        by_cases hmn : m < n
        · go_wp2
          go_loopw [8] (fun i wr => ∃ y : Nat, y ≤ n ∧ i = .int .i64 y ∧ LvS n r x (w.alloc (.cells #[.int .i64 n, .string s, .string r] 25)) HB go m y 0 wr) (fun i _ => n - (intOf i).toNat)
          case atStart => exact ⟨0, Nat.zero_le _, rfl, HLV.out⟩
          case round =>
            clear HQ HLV c0 c1 c2
            obtain ⟨y, hy, rfl, hlv⟩ := hrel
            have HLV := Lib.hid hlv
            obtain ⟨out, hown, hl, hnx⟩ := hlv
            obtain ⟨c0, c1, c2⟩ := (BX.out.below hnx (by have := HHB.out; omega)).c
            have HQ := Lib.hid (show _ ∧ _ ∧ _ from ⟨hown, hl, hnx⟩)
            clear hown hl hnx
            by_cases hyn : y < n
            · go_wp2
              go_loopw [9] (fun i wr => ∃ z : Nat, z ≤ n ∧ i = .int .i64 z ∧ LvS n r x (w.alloc (.cells #[.int .i64 n, .string s, .string r] 25)) HB go m y z wr) (fun i _ => n - (intOf i).toNat)
              case atStart => exact ⟨0, Nat.zero_le _, rfl, HLV.out⟩
              case round =>
                clear HQ HLV c0 c1 c2
                obtain ⟨z, hz, rfl, out, hown, hl, hnx⟩ := hrel
                obtain ⟨c0, c1, c2⟩ := (BX.out.below hnx (by have := HHB.out; omega)).c
                have hol := hl.len
                have hcy := hown.cell y (by omega)
                obtain ⟨D, hD⟩ : ∃ D, D = out.getD y 0 := ⟨_, rfl⟩
                rw [← hD] at hcy
                have HQ := Lib.hid (show _ ∧ _ ∧ _ ∧ _ ∧ _ from ⟨hown, hl, hnx, hD, hol⟩)
                clear hown hl hnx hD hol
                by_cases hzn : z < n
                · by_cases hdm : D = m
                  · subst hdm
                    have he0 : (((m : Nat) : Int) == ((m : Nat) : Int)) = true := by simp
                    obtain ⟨E, hE⟩ : ∃ E, E = out.getD z 0 := ⟨_, rfl⟩
                    have hcz := HQ.out.1.cell z (by have := HQ.out.2.2.2.2; omega)
                    rw [← hE] at hcz
                    have HE := Lib.hid hE
                    clear hE
                    by_cases hneg : E < 0
                    · have hfz : wr.frozen? ⟨go, z, none⟩ = false := HQ.out.1.free z
                      go_wp2_with fail
                      refine (l9Next_any n s r y z _ hyn hzn hn HR.out).mono ?_
                      rintro e w3 ⟨rfl, hw⟩
                      have HQ3 : Hid (OwnI 3 w3 HB (.slice (some ⟨go, 0, none⟩) n n) out ∧ Below HB (w.alloc (.cells #[.int .i64 n, .string s, .string r] 25)) w3) := ⟨HQ.out.1.below hw (Nat.le_refl _), HQ.out.2.2.1.trans (hw.mono (by have := HQ.out.2.2.1.size; have := HBS.out; omega))⟩
                      clear c0 c1 c2 hcz hcy hfz hw
                      obtain ⟨c0, c1, c2⟩ := (BX.out.below HQ3.out.2 (by have := HHB.out; omega)).c
                      have hfz : w3.frozen? ⟨go, z, none⟩ = false := HQ3.out.1.free z
                      have hcz := HQ3.out.1.cell z (by have := HQ.out.2.2.2.2; omega)
                      rw [← HE.out] at hcz
                      cases hb : adj n r y z with
                      | true =>
                        have R : Hid (LvS n r x (w.alloc (.cells #[.int .i64 n, .string s, .string r] 25)) HB go m y (z + 1) (w3.setCell ⟨go, z, none⟩ (.int .i64 ((m : Int) + 1)))) :=
                          ⟨_, HQ3.out.1.set z _, HQ.out.2.1.put hyn hzn HQ.out.2.2.2.1.symm (by have := HE.out; omega) hb, HQ3.out.2.setCell (by exact HQ3.out.1.ge.1) _⟩
                        clear hb
                        go_wp2
                        go_roundw
                        case rel => exact ⟨z + 1, by omega, by go_num, R.out⟩
                        case measure => simp [intOf]; omega
                      | false =>
                        have R : Hid (LvS n r x (w.alloc (.cells #[.int .i64 n, .string s, .string r] 25)) HB go m y (z + 1) w3) :=
                          ⟨_, HQ3.out.1, HQ.out.2.1.keep (fun h => by rw [hb] at h; cases h), HQ3.out.2⟩
                        clear hb
                        go_wp2
                        go_roundw
                        case rel => exact ⟨z + 1, by omega, by go_num, R.out⟩
                        case measure => simp [intOf]; omega
                    · have R : Hid (LvS n r x (w.alloc (.cells #[.int .i64 n, .string s, .string r] 25)) HB go m y (z + 1) wr) :=
                        ⟨_, HQ.out.1, HQ.out.2.1.keep (fun _ _ => by have := HE.out; omega), HQ.out.2.2.1⟩
                      go_wp2
                      go_roundw
                      case rel => exact ⟨z + 1, by omega, by go_num, R.out⟩
                      case measure => simp [intOf]; omega
                  · have he0 : ((D : Int) == ((m : Nat) : Int)) = false := by simpa using hdm
                    have R : Hid (LvS n r x (w.alloc (.cells #[.int .i64 n, .string s, .string r] 25)) HB go m (y + 1) 0 wr) := ⟨_, HQ.out.1, HQ.out.2.1.nextY (fun h => absurd (HQ.out.2.2.2.1.trans h) hdm), HQ.out.2.2.1⟩
                    clear hdm
                    go_wp2
                    go_roundw
                    case rel => exact ⟨y + 1, by omega, by go_num, R.out⟩
                    case measure => simp [intOf]; omega
                · have R : Hid (LvS n r x (w.alloc (.cells #[.int .i64 n, .string s, .string r] 25)) HB go m (y + 1) 0 wr) := ⟨_, HQ.out.1, HQ.out.2.1.nextY (fun _ => by omega), HQ.out.2.2.1⟩
                  go_wp2
                  go_roundw
                  case rel => exact ⟨y + 1, by omega, by go_num, R.out⟩
                  case measure => simp [intOf]; omega
            · obtain rfl : n = y := by omega
              have R : Hid (LvS n r x (w.alloc (.cells #[.int .i64 n, .string s, .string r] 25)) HB go (m + 1) 0 0 wr) := ⟨_, HQ.out.1, HQ.out.2.1.nextM, HQ.out.2.2⟩
              go_wp2
              go_roundw
              case rel => exact ⟨m + 1, by omega, by go_num, R.out⟩
              case measure => simp [intOf]; omega
        · obtain rfl : n = m := by omega
          go_wp2
          go_ret
          exact ⟨_, out, rfl, HQ.out.1.mono (by have := HHB.out; omega), HQ.out.2.1.fin, AW.out.trans (HQ.out.2.2.mono (by have := HHB.out; omega))⟩
end Go.Proofs.YtlnmebjbinmeiaaDoor.dist
