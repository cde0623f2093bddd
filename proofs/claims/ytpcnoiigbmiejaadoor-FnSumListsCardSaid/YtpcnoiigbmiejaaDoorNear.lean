/- The elements next to an element: nearOf and NearOf, in the program and in the reference. -/
import Derived.Test.YtpcnoiigbmiejaaDoorRows
import Derived.Test.YtpcnoiigbmiejaaDoorBase
import Derived.Test.YtpcnoiigbmiejaaDoorSl
namespace Go.Proofs.YtpcnoiigbmiejaaDoor.near
set_option linter.unusedVariables false
set_option linter.unusedSimpArgs false
open Go.ChangeShapes Go.WideShapes Go.ChangeAt Go.RowKit
open Go.Proofs.YtpcnoiigbmiejaaDoor.lib Go.Proofs.YtpcnoiigbmiejaaDoor.st Go.Proofs.YtpcnoiigbmiejaaDoor.base

/-- two elements are next to each other -/
def adj (n : Nat) (r : ByteArray) (x y : Nat) : Bool := (x != y) && (bitAt r (x * n + y) || bitAt r (y * n + x))
/-- those up to k -/
def nearTo (n : Nat) (r : ByteArray) (x k : Nat) : List Int := ((List.range k).filter (adj n r x)).map fun (y : Nat) => (y : Int)
theorem nearTo_yes {n : Nat} {r : ByteArray} {x k : Nat} (h : adj n r x k = true) : nearTo n r x (k + 1) = nearTo n r x k ++ [(k : Int)] := by
  simp [nearTo, List.range_succ, h]
theorem nearTo_no {n : Nat} {r : ByteArray} {x k : Nat} (h : adj n r x k = false) : nearTo n r x (k + 1) = nearTo n r x k := by
  simp [nearTo, List.range_succ, h]
theorem nearTo_len (n : Nat) (r : ByteArray) (x k : Nat) : (nearTo n r x k).length ≤ k := by
  unfold nearTo; rw [List.length_map]
  have := List.length_filter_le (adj n r x) (List.range k)
  rw [List.length_range] at this; exact this
theorem emptyRow (T : TypeId) (w : World) (B H : Nat) (hH : w.heap.size = H) (hB : B ≤ H) : OwnI T (w.alloc (.cells #[] T)) B (.slice (some ⟨H, 0, none⟩) 0 0) [] := by
  subst hH
  exact World.ownsRow_made w #[] 0 hB (by decide) rfl
theorem infoInt : (Tryd.prog.info? 3).map (fun i => (i.zero, i.size, i.bytes)) = some (some (.int .i64 0), 1, 8) := by kernel_rfl

theorem l9Next_any (n : Nat) (s r : ByteArray) (x y : Nat) (w : World) (hx : x < n) (hy : y < n) (hn : n ≤ 8) (hr : r.size = n * n) :
    Calls Tryd.prog 192 #[.agg #[.int .i64 n, .string s, .string r], .int .i64 x, .int .i64 y] w fun e w' => e = .returned (.bool (adj n r x y)) ∧ Below w.heap.size w w' := by
  have BX : Hid (Box 24 (w.alloc (.cells #[.int .i64 n, .string s, .string r] 24)) w.heap.size n s r) := Box.new _ w _ rfl n s r
  have AW : Hid (Below w.heap.size w (w.alloc (.cells #[.int .i64 n, .string s, .string r] 24))) := (Below.refl _ _).alloc (Nat.le_refl _) _
  have HR := Lib.hid hr
  clear hr
  by_cases hxy : x = y
  · subst hxy
    have HE : Hid (adj n r x x = false) := by simp [Hid, adj]
    have e1 : ((x : Int) != (x : Int)) = false := by simp
    go_enter Tryd.func192, Tryd.ntmps192
    go_wp2
    go_ret
    exact ⟨by rw [HE.out]; rfl, AW.out⟩
  · have e0 : (x != y) = true := by simpa using hxy
    have HE : Hid (adj n r x y = (bitAt r (x * n + y) || bitAt r (y * n + x))) := by rw [Hid, adj, e0, Bool.true_and]
    have e1 : ((x : Int) != (y : Int)) = true := by simp; omega
    clear e0 hxy
    go_enter Tryd.func192, Tryd.ntmps192
    go_wp2_with fail
    refine (l1Rel_any n s r x y _ hx hy hn HR.out).mono ?_
    rintro e w1 ⟨rfl, hw⟩
    have AW1 : Hid (Below w.heap.size w w1) := AW.out.trans (hw.mono (by simp))
    obtain ⟨c0, c1, c2⟩ := (BX.out.below hw (by simp)).c
    clear hw
    cases hb : bitAt r (x * n + y) with
    | true =>
      have HE2 : Hid (adj n r x y = true) := by rw [Hid, HE.out, hb, Bool.true_or]
      clear hb
      go_wp2
      go_ret
      exact ⟨by rw [HE2.out]; rfl, AW1.out⟩
    | false =>
      have HE2 : Hid (adj n r x y = bitAt r (y * n + x)) := by rw [Hid, HE.out, hb, Bool.false_or]
      clear hb
      go_wp2_with fail
      refine (l1Rel_any n s r y x _ hy hx hn HR.out).mono ?_
      rintro e w2 ⟨rfl, hw⟩
      have AW2 : Hid (Below w.heap.size w w2) := AW1.out.trans (hw.mono AW1.out.size)
      clear hw
      go_wp2
      go_ret
      exact ⟨by rw [HE2.out]; rfl, AW2.out⟩

set_option maxHeartbeats 1600000 in
theorem nearOf_any (n : Nat) (s r : ByteArray) (x : Nat) (w : World) (hx : x < n) (hn : n ≤ 8) (hr : r.size = n * n) :
    Calls Tryd.prog 138 #[.agg #[.int .i64 n, .string s, .string r], .int .i64 x] w fun e w' => ∃ v, e = .returned v ∧ OwnI 3 w' w.heap.size v (nearTo n r x n) ∧ Below w.heap.size w w' := by
  obtain ⟨HB, hHB⟩ : ∃ HB, HB = w.heap.size + 1 := ⟨_, rfl⟩
  have BX : Hid (Box 24 (w.alloc (.cells #[.int .i64 n, .string s, .string r] 24)) w.heap.size n s r) := Box.new _ w _ rfl n s r
  have AW : Hid (Below w.heap.size w (w.alloc (.cells #[.int .i64 n, .string s, .string r] 24))) := (Below.refl _ _).alloc (Nat.le_refl _) _
  have he : Hid (OwnI 3 ((w.alloc (.cells #[.int .i64 n, .string s, .string r] 24)).alloc (.cells #[] 3)) HB (.slice (some ⟨w.heap.size + 1, 0, none⟩) 0 0) []) := emptyRow _ _ _ _ (by simp) (by omega)
  have hb0 : Hid (Below HB (w.alloc (.cells #[.int .i64 n, .string s, .string r] 24)) ((w.alloc (.cells #[.int .i64 n, .string s, .string r] 24)).alloc (.cells #[] 3))) := (Below.refl _ _).alloc (by simp; omega) _
  have HBS : Hid ((w.alloc (.cells #[.int .i64 n, .string s, .string r] 24)).heap.size = HB) := by rw [hHB]; simp [Hid]
  have HHB := Lib.hid hHB
  have HR := Lib.hid hr
  clear hr hHB
  go_enter Tryd.func138, Tryd.ntmps138
  go_wp2
  go_loopw [5, 10] (fun v i wr => ∃ k : Nat, k ≤ n ∧ i = .int .i64 k ∧ OwnI 3 wr HB v (nearTo n r x k) ∧ Below HB (w.alloc (.cells #[.int .i64 n, .string s, .string r] 24)) wr) (fun _ i _ => n - (intOf i).toNat)
  case atStart => exact ⟨0, Nat.zero_le _, rfl, he.out, hb0.out⟩
  case round =>
    obtain ⟨k, hk, rfl, hown, hnx⟩ := hrel
    obtain ⟨c0, c1, c2⟩ := (BX.out.below hnx (by have := HHB.out; omega)).c
    have HO := Lib.hid hown
    have HX := Lib.hid hnx
    clear hown hnx
    by_cases hlt : k < n
    · by_cases hxk : x = k
      · have HS : Hid (nearTo n r x (k + 1) = nearTo n r x k) := nearTo_no (by simp [adj, hxk])
        have e1 : ((k : Int) != (x : Int)) = false := by simp; omega
        clear hxk
        have R : Hid (OwnI 3 _ HB _ (nearTo n r x (k + 1)) ∧ Below HB (w.alloc (.cells #[.int .i64 n, .string s, .string r] 24)) _) := ⟨by rw [HS.out]; exact HO.out, HX.out⟩
        go_wp2
        go_roundw
        case rel => exact ⟨k + 1, by omega, by go_num, R.out.1, R.out.2⟩
        case measure => simp [intOf]; omega
      · have e0 : (x != k) = true := by simpa using hxk
        have HA : Hid (adj n r x k = (bitAt r (x * n + k) || bitAt r (k * n + x))) := by rw [Hid, adj, e0, Bool.true_and]
        have e1 : ((k : Int) != (x : Int)) = true := by simp; omega
        clear hxk e0
        go_wp2_with fail
        refine (inRel_any n s r x k _ hx hlt hn HR.out).mono ?_
        rintro e w1 ⟨rfl, hw⟩
        have HX1 : Hid (Below HB (w.alloc (.cells #[.int .i64 n, .string s, .string r] 24)) w1) := HX.out.trans (hw.mono (by have := HX.out.size; have := HBS.out; omega))
        have HO1 := Lib.hid (HO.out.below hw (Nat.le_refl _))
        clear c0 c1 c2
        obtain ⟨c0, c1, c2⟩ := (BX.out.below HX1.out (by have := HHB.out; omega)).c
        clear hw
        cases hb : bitAt r (x * n + k) with
        | true =>
          have HS : Hid (nearTo n r x (k + 1) = nearTo n r x k ++ [(k : Int)]) := nearTo_yes (by rw [HA.out, hb, Bool.true_or])
          clear hb HO HX
          have hsz : HB ≤ w1.heap.size := by have := HX1.out.size; have := HBS.out; omega
          have HL := Lib.hid (nearTo_len n r x k)
          go_wp2_with (at_builtin; refine wpList_app1 w1 rfl (.tmp 28) (.tmp 30) 32 rfl HB 3 (.int .i64 0) 8 Tryd.underlying32 infoInt rfl (by decide) _ _ _ (.int .i64 k) rfl HO1.out w1.heap.size rfl rfl rfl (by have := HL.out; omega) hsz ?_)
          intro g cap' w9 hown9 hgr
          have R : Hid (OwnI 3 w9 HB (.slice (some ⟨g, 0, none⟩) ((nearTo n r x k).length + 1) cap') (nearTo n r x (k + 1)) ∧ Below HB (w.alloc (.cells #[.int .i64 n, .string s, .string r] 24)) w9) :=
            ⟨by rw [HS.out]; unfold OwnI; rw [List.length_append, ivs_append]; exact hown9, HX1.out.trans (hgr.below HO1.out hsz)⟩
          clear hown9 hgr hsz
          go_wp2
          go_roundw
          case rel => exact ⟨k + 1, by omega, by go_num, R.out.1, R.out.2⟩
          case measure => simp [intOf]; omega
        | false =>
          have HA2 : Hid (adj n r x k = bitAt r (k * n + x)) := by rw [Hid, HA.out, hb, Bool.false_or]
          clear hb
          go_wp2_with fail
          refine (inRel_any n s r k x _ hlt hx hn HR.out).mono ?_
          rintro e w2 ⟨rfl, hw⟩
          have HX2 : Hid (Below HB (w.alloc (.cells #[.int .i64 n, .string s, .string r] 24)) w2) := HX1.out.trans (hw.mono (by have := HX1.out.size; have := HBS.out; omega))
          have HO2 := Lib.hid (HO1.out.below hw (Nat.le_refl _))
          clear c0 c1 c2
          obtain ⟨c0, c1, c2⟩ := (BX.out.below HX2.out (by have := HHB.out; omega)).c
          clear hw HO1 HX1 HO HX
          cases hb : bitAt r (k * n + x) with
          | true =>
            have HS : Hid (nearTo n r x (k + 1) = nearTo n r x k ++ [(k : Int)]) := nearTo_yes (by rw [HA2.out, hb])
            clear hb
            have hsz : HB ≤ w2.heap.size := by have := HX2.out.size; have := HBS.out; omega
            have HL := Lib.hid (nearTo_len n r x k)
            go_wp2_with (at_builtin; refine wpList_app1 w2 rfl (.tmp 28) (.tmp 30) 32 rfl HB 3 (.int .i64 0) 8 Tryd.underlying32 infoInt rfl (by decide) _ _ _ (.int .i64 k) rfl HO2.out w2.heap.size rfl rfl rfl (by have := HL.out; omega) hsz ?_)
            intro g cap' w9 hown9 hgr
            have R : Hid (OwnI 3 w9 HB (.slice (some ⟨g, 0, none⟩) ((nearTo n r x k).length + 1) cap') (nearTo n r x (k + 1)) ∧ Below HB (w.alloc (.cells #[.int .i64 n, .string s, .string r] 24)) w9) :=
              ⟨by rw [HS.out]; unfold OwnI; rw [List.length_append, ivs_append]; exact hown9, HX2.out.trans (hgr.below HO2.out hsz)⟩
            clear hown9 hgr hsz
            go_wp2
            go_roundw
            case rel => exact ⟨k + 1, by omega, by go_num, R.out.1, R.out.2⟩
            case measure => simp [intOf]; omega
          | false =>
            have HS : Hid (nearTo n r x (k + 1) = nearTo n r x k) := nearTo_no (by rw [HA2.out, hb])
            clear hb
            have R : Hid (OwnI 3 _ HB _ (nearTo n r x (k + 1)) ∧ Below HB (w.alloc (.cells #[.int .i64 n, .string s, .string r] 24)) _) := ⟨by rw [HS.out]; exact HO2.out, HX2.out⟩
            go_wp2
            go_roundw
            case rel => exact ⟨k + 1, by omega, by go_num, R.out.1, R.out.2⟩
            case measure => simp [intOf]; omega
    · obtain rfl : k = n := by omega
      go_wp2
      go_ret
      exact ⟨_, rfl, HO.out.mono (by have := HHB.out; omega), AW.out.trans (HX.out.mono (by have := HHB.out; omega))⟩

/-- what NearOf returns -/
def nearR (n : Int) (s r : ByteArray) (x : Int) : List Int := if elemB n s r x = true then nearTo n.toNat r x.toNat n.toNat else []
theorem valid_nat {n : Int} {s r : ByteArray} {x : Int} (h : elemB n s r x = true) : ∃ (N X : Nat), n = N ∧ x = X ∧ X < N ∧ N ≤ 8 ∧ s.size = N ∧ r.size = N * N := by
  obtain ⟨hv, h0, h1⟩ := elemB_iff.1 h
  obtain ⟨⟨h2, h3⟩, hs, hr, _⟩ := validB_iff.1 hv
  refine ⟨n.toNat, x.toNat, by omega, by omega, by omega, by omega, by omega, ?_⟩
  have e : (n.toNat : Int) = n := by omega
  have : ((n.toNat * n.toNat : Nat) : Int) = n * n := by rw [Int.natCast_mul, e]
  omega

theorem len0 (n : Int) (s r : ByteArray) (x : Int) : s.size + r.size ≤ 1048576 → (nearR n s r x).length ≤ 4194304 := by
  intro _; unfold nearR; split
  · rename_i h
    obtain ⟨N, X, rfl, rfl, hX, hN, _⟩ := valid_nat h
    have := nearTo_len N r X N
    simp; omega
  · simp
end Go.Proofs.YtpcnoiigbmiejaaDoor.near
