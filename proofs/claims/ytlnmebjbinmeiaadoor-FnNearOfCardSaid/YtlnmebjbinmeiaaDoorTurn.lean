/- TurnStructure of the program at a valid structure; the maker of structures with a method of a structure. -/
import Derived.Test.YtlnmebjbinmeiaaDoorVal
import Derived.Test.YtlnmebjbinmeiaaDoorDistO
import Derived.Test.YtlnmebjbinmeiaaDoorBallO
namespace Go.Proofs.YtlnmebjbinmeiaaDoor.turn
set_option linter.unusedVariables false
set_option linter.unusedSimpArgs false
open Go.ChangeShapes Go.WideShapes Go.ChangeAt Go.RowKit
open Go.Proofs.YtlnmebjbinmeiaaDoor.lib Go.Proofs.YtlnmebjbinmeiaaDoor.st Go.Proofs.YtlnmebjbinmeiaaDoor.base Go.Proofs.YtlnmebjbinmeiaaDoor.make Go.Proofs.YtlnmebjbinmeiaaDoor.near Go.Proofs.YtlnmebjbinmeiaaDoor.val Go.Proofs.YtlnmebjbinmeiaaDoor.trim

set_option maxHeartbeats 3200000 in
set_option maxRecDepth 100000 in
theorem make_bound (n : Nat) (hn : n ≤ 8) (fS fR : FuncId) (vS : Value) (cR : Array Value) (p : Nat → Bool) (q : Nat → Nat → Bool) (w : World) (eS : make.Enters fS) (eR : make.Enters fR)
    (hS : ∀ W, Below w.heap.size w W → ∀ x : Nat, x < n → Calls Tryd.prog fS #[vS, .int .i64 x] W fun e W' => e = .returned (.bool (p x)) ∧ Below W.heap.size W W')
    (hR : ∀ W, Below w.heap.size w W → ∀ x y : Nat, x < n → y < n → Calls Tryd.prog fR (#[.int .i64 x, .int .i64 y] ++ cR) W fun e W' => e = .returned (.bool (q x y)) ∧ Below W.heap.size W W') :
    Calls Tryd.prog 81 #[.int .i64 n, .func (.func fS) #[vS] #[], .func (.func fR) #[] cR] w fun e w' => e = .returned (.agg #[.int .i64 n, .string (bS p n), .string (bR q n n)]) ∧ Below w.heap.size w w' := by
  unfold make.Enters at eS eR
  have HS := Lib.hid hS
  have HR := Lib.hid hR
  clear hS hR
  obtain ⟨HB, hHB⟩ : ∃ HB, HB = w.heap.size + 1 := ⟨_, rfl⟩
  have HBS : Hid ((w.alloc (.cells #[.int .i64 0, .string ⟨#[]⟩, .string ⟨#[]⟩] 25)).heap.size = HB) := by rw [hHB]; simp [Hid]
  have AW : Hid (Below w.heap.size w (w.alloc (.cells #[.int .i64 0, .string ⟨#[]⟩, .string ⟨#[]⟩] 25))) := (Below.refl _ _).alloc (Nat.le_refl _) _
  have B0 : Hid (Box 25 ((w.alloc (.cells #[.int .i64 0, .string ⟨#[]⟩, .string ⟨#[]⟩] 25)).alloc (.cells #[.int .i64 n, .string ⟨#[]⟩, .string ⟨#[]⟩] 25)) (w.heap.size + 1) n (bS p 0) (bR q n 0)) := Box.new _ _ _ (by simp) _ _ _
  have hb0 : Hid (Below HB (w.alloc (.cells #[.int .i64 0, .string ⟨#[]⟩, .string ⟨#[]⟩] 25)) ((w.alloc (.cells #[.int .i64 0, .string ⟨#[]⟩, .string ⟨#[]⟩] 25)).alloc (.cells #[.int .i64 n, .string ⟨#[]⟩, .string ⟨#[]⟩] 25))) := (Below.refl _ _).alloc (by simp; omega) _
  have BZ : Hid (Box 25 (w.alloc (.cells #[.int .i64 0, .string ⟨#[]⟩, .string ⟨#[]⟩] 25)) w.heap.size 0 ⟨#[]⟩ ⟨#[]⟩) := Box.new _ w _ rfl _ _ _
  have HHB := Lib.hid hHB
  clear hHB
  go_enter Tryd.func81, Tryd.ntmps81
  go_wp2
  go_loopw [13] (fun i wr => ∃ k : Nat, k ≤ n ∧ i = .int .i64 k ∧ Box 25 wr (w.heap.size + 1) n (bS p k) (bR q n k) ∧ Below HB (w.alloc (.cells #[.int .i64 0, .string ⟨#[]⟩, .string ⟨#[]⟩] 25)) wr) (fun i _ => n - (intOf i).toNat)
  case atStart => exact ⟨0, Nat.zero_le _, rfl, B0.out, hb0.out⟩
  case round =>
    obtain ⟨k, hk, rfl, hbox, hnx⟩ := hrel
    have HO := Lib.hid hbox
    have HX := Lib.hid hnx
    clear hbox hnx
    by_cases hlt : k < n
    · go_wp2_with fail
      go_cut [13] from 13 to 38 (fun i wx => i = .int .i64 k ∧ Box 25 wx (w.heap.size + 1) n (bS p (k + 1)) (bR q n k) ∧ Below HB (w.alloc (.cells #[.int .i64 0, .string ⟨#[]⟩, .string ⟨#[]⟩] 25)) wx)
      case first =>
        obtain ⟨c0, c1, c2⟩ := HO.out.c
        have AWD : Hid (Below w.heap.size w wr.drew) := (AW.out.trans (HX.out.mono (by have := HHB.out; omega))).drew
        have hadd : ∀ W, (Op.stringOp .add (bS p k) (bit1 (p k))).run Tryd.prog W = .ok (.string (bS p (k + 1))) W := fun W => run_string_add_sum W _ _ (by rw [bS_size, bit1_size]; omega)
        have HOlt := Lib.hid HO.out.lt
        go_region_with (first
          | (go_at_call 108; refine (bitOf_at _ _).mono ?_; rintro e X2 ⟨rfl, rfl⟩)
          | (with_reducible show Calls _ fS _ _ _; refine (HS.out wr.drew AWD.out k hlt).mono ?_; rintro e X ⟨rfl, hb⟩; have BX2 := Box.below (w := wr.drew) HO.out hb HOlt.out; obtain ⟨d0, d1, d2⟩ := BX2.c; have f1 := BX2.free 1))
        all_goals go_wp2_with fail
        all_goals go_meet
        all_goals exact ⟨rfl, BX2.set1 _, (HX.out.drew.trans (hb.mono (by have h1 := HX.out.size; have h2 := HBS.out; show HB ≤ wr.heap.size; omega))).setCell (by have := HHB.out; show HB ≤ w.heap.size + 1; omega) _⟩
      case rest =>
        obtain ⟨rfl, hbx, hnx⟩ := hcut
        have HO2 := Lib.hid hbx
        have HX2 := Lib.hid hnx
        clear hbx hnx HO HX
        go_wp2
        go_loopw [25] (fun i wr => ∃ j : Nat, j ≤ n ∧ i = .int .i64 j ∧ Box 25 wr (w.heap.size + 1) n (bS p (k + 1)) (bRow (bR q n k) (q k) j) ∧ Below HB (w.alloc (.cells #[.int .i64 0, .string ⟨#[]⟩, .string ⟨#[]⟩] 25)) wr) (fun i _ => n - (intOf i).toNat)
        case atStart => exact ⟨0, Nat.zero_le _, rfl, HO2.out, HX2.out⟩
        case round =>
          obtain ⟨j, hj, rfl, hbox, hnx⟩ := hrel
          have HO := Lib.hid hbox
          have HX := Lib.hid hnx
          clear hbox hnx
          by_cases hlj : j < n
          · go_wp2_with fail
            obtain ⟨c0, c1, c2⟩ := HO.out.c
            have AWD : Hid (Below w.heap.size w wr.drew) := (AW.out.trans (HX.out.mono (by have := HHB.out; omega))).drew
            have hadd : ∀ W, (Op.stringOp .add (bRow (bR q n k) (q k) j) (bit1 (q k j))).run Tryd.prog W = .ok (.string (bRow (bR q n k) (q k) (j + 1))) W := fun W => run_string_add_sum W _ _ (by
              rw [bRow_size, bR_size, bit1_size]
              have : k * n ≤ 8 * 8 := Nat.mul_le_mul (by omega) hn
              omega)
            have HOlt := Lib.hid HO.out.lt
            go_region_with (first
              | (go_at_call 108; refine (bitOf_at _ _).mono ?_; rintro e X2 ⟨rfl, rfl⟩)
              | (with_reducible show Calls _ fR _ _ _; refine (HR.out wr.drew AWD.out k j hlt hlj).mono ?_; rintro e X ⟨rfl, hb⟩; have BX2 := Box.below (w := wr.drew) HO.out hb HOlt.out; obtain ⟨d0, d1, d2⟩ := BX2.c; have f1 := BX2.free 2))
            all_goals
              have R : Hid (Box 25 (X.setCell ⟨w.heap.size + 1, 2, none⟩ (.string (bRow (bR q n k) (q k) (j + 1)))) (w.heap.size + 1) n (bS p (k + 1)) (bRow (bR q n k) (q k) (j + 1)) ∧ Below HB (w.alloc (.cells #[.int .i64 0, .string ⟨#[]⟩, .string ⟨#[]⟩] 25)) (X.setCell ⟨w.heap.size + 1, 2, none⟩ (.string (bRow (bR q n k) (q k) (j + 1))))) :=
                ⟨BX2.set2 _, (HX.out.drew.trans (hb.mono (by have h1 := HX.out.size; have h2 := HBS.out; show HB ≤ wr.heap.size; omega))).setCell (by have := HHB.out; show HB ≤ w.heap.size + 1; omega) _⟩
              clear BX2 hb d0 d1 d2 f1 c0 c1 c2 hadd
              go_wp2
              go_roundw
              case rel => exact ⟨j + 1, by omega, by go_num, R.out.1, R.out.2⟩
              case measure => simp [intOf]; omega
          · obtain rfl : j = n := by omega
            have R : Hid (Box 25 wr (w.heap.size + 1) j (bS p (k + 1)) (bR q j (k + 1)) ∧ Below HB (w.alloc (.cells #[.int .i64 0, .string ⟨#[]⟩, .string ⟨#[]⟩] 25)) wr) := ⟨HO.out, HX.out⟩
            clear HO HX
            go_wp2
            go_roundw
            case rel => exact ⟨k + 1, by omega, by go_num, R.out.1, R.out.2⟩
            case measure => simp [intOf]; omega
    · obtain rfl : k = n := by omega
      obtain ⟨c0, c1, c2⟩ := HO.out.c
      have BZ2 := Box.below BZ.out HX.out (by have := HHB.out; omega)
      obtain ⟨z0, z1, z2⟩ := BZ2.c
      have f0 := BZ2.free 0
      have f1 := BZ2.free 1
      have f2 := BZ2.free 2
      have BE := ((BZ2.set0 k).set1 (bS p k)).set2 (bR q k k)
      obtain ⟨e0, e1, e2⟩ := BE.c
      have HE := Lib.hid (show _ ∧ _ ∧ _ from ⟨e0, e1, e2⟩)
      have R : Hid (Below w.heap.size w (((wr.setCell ⟨w.heap.size, 0, none⟩ (.int .i64 k)).setCell ⟨w.heap.size, 1, none⟩ (.string (bS p k))).setCell ⟨w.heap.size, 2, none⟩ (.string (bR q k k)))) :=
        (((AW.out.trans (HX.out.mono (by have := HHB.out; omega))).setCell (by simp) _).setCell (by simp) _).setCell (by simp) _
      clear BZ2 e0 e1 e2 BE
      go_wp2
      exact bodyPost_ret (v := .agg #[.int .i64 k, .string (bS p k), .string (bR q k k)]) (by simp [results, Tryd.results81, go_sem, HE.out.1, HE.out.2.1, HE.out.2.2]) rfl ⟨rfl, R.out⟩

/-- the relation turned -/
def turnRel (N : Nat) (r : ByteArray) (x y : Nat) : Bool := bitAt r (y * N + x)
def turnR (N : Nat) (r : ByteArray) : ByteArray := bR (turnRel N r) N N
theorem turn_bit {N : Nat} {r : ByteArray} {x y : Nat} (hx : x < N) (hy : y < N) : bitAt (turnR N r) (x * N + y) = bitAt r (y * N + x) := bit_bR hx hy
theorem turn_adj {N : Nat} {r : ByteArray} {x y : Nat} (hx : x < N) (hy : y < N) : adj N (turnR N r) x y = adj N r x y := by
  unfold adj
  rw [turn_bit hx hy, turn_bit hy hx, Bool.or_comm]
theorem turn_near {N : Nat} {r : ByteArray} {x : Nat} (hx : x < N) : nearTo N (turnR N r) x N = nearTo N r x N := by
  unfold nearTo
  rw [List.filter_congr (fun y hy => turn_adj hx (List.mem_range.1 hy))]
theorem clTurn_any (N : Nat) (s r : ByteArray) (Ha : Nat) (x y : Nat) (w : World) (ha : Box 25 w Ha N s r) (hx : x < N) (hy : y < N) (hn : N ≤ 8) (hr : r.size = N * N) :
    Calls Tryd.prog 93 #[.int .i64 x, .int .i64 y, .pointer (some ⟨Ha, 0, none⟩)] w fun e w' => e = .returned (.bool (turnRel N r x y)) ∧ Below w.heap.size w w' := by
  obtain ⟨a0, a1, a2⟩ := ha.c
  clear ha
  go_enter Tryd.func93, Tryd.ntmps93
  go_wp2_with fail
  refine (inRel_any N s r y x _ hy hx hn hr).mono ?_
  rintro e w1 ⟨rfl, hw⟩
  have HW := Lib.hid hw
  clear hw a0 a1 a2
  go_wp2
  go_ret
  exact ⟨rfl, HW.out⟩
set_option maxHeartbeats 1600000 in
theorem implTurn_any (N : Nat) (s r : ByteArray) (w : World) (hv : validB N s r = true) :
    Calls Tryd.prog 53 #[.agg #[.int .i64 N, .string s, .string r]] w fun e w' => e = .returned (.tuple #[.agg #[.int .i64 N, .string s, .string (turnR N r)], .bool true]) ∧ Below w.heap.size w w' := by
  obtain ⟨N', e, hN1, hN8, hsN, hrN⟩ := prod.valid_size hv
  obtain rfl : N = N' := by omega
  obtain ⟨W0, hW0⟩ : ∃ W0, W0 = (w.alloc (.cells #[.int .i64 N, .string s, .string r] 25)).alloc (.cells #[.int .i64 0, .string ⟨#[]⟩, .string ⟨#[]⟩] 25) := ⟨_, rfl⟩
  have BA : Hid (Box 25 W0 w.heap.size N s r) := by rw [hW0]; exact (Box.new 25 w w.heap.size rfl N s r).below ((Below.refl (w.heap.size + 1) _).alloc (by simp) _) (by omega)
  have BZ : Hid (Box 25 W0 (w.heap.size + 1) 0 ⟨#[]⟩ ⟨#[]⟩) := by rw [hW0]; exact Box.new 25 _ (w.heap.size + 1) (by simp) 0 ⟨#[]⟩ ⟨#[]⟩
  have AW : Hid (Below w.heap.size w W0) := by rw [hW0]; exact ((Below.refl _ _).alloc (Nat.le_refl _) _).alloc (by simp) _
  have HW := Lib.hid hW0
  have HM : Hid (r.size ≤ 64) := by have : N * N ≤ 8 * 8 := Nat.mul_le_mul hN8 hN8; unfold Hid; omega
  have HV := Lib.hid hv
  have HS := Lib.hid (show _ ∧ _ from ⟨hsN, hrN⟩)
  clear hW0 hv e hsN hrN
  go_enter Tryd.func53, Tryd.ntmps53
  go_wp2_with fail
  rw [← HW.out]
  refine (isStructure_any N s r _ (by have := HS.out; omega) (by have := HM.out; omega)).mono ?_
  rintro e w1 ⟨rfl, hw⟩
  have AW1 : Hid (Below w.heap.size w w1) := AW.out.trans (hw.mono AW.out.size)
  have BA1 := Lib.hid (BA.out.below hw BA.out.lt)
  have BZ1 := Lib.hid (BZ.out.below hw BZ.out.lt)
  clear hw AW BA BZ
  rw [HV.out]
  obtain ⟨a0, a1, a2⟩ := BA1.out.c
  go_wp2_with fail
  clear a0 a1 a2
  refine (make_bound N hN8 _ 93 (.agg #[.int .i64 N, .string s, .string r]) #[.pointer (some ⟨w.heap.size, 0, none⟩)] (bitAt s) (turnRel N r) _ (make.enters_of Tryd.func80 (by kernel_rfl) rfl) (make.enters_of Tryd.func93 (by kernel_rfl) rfl)
    (fun W _ x hx => inSet_any N s r x W (by have := HS.out; omega) (by have := HS.out; omega))
    (fun W hW x y hx hy => clTurn_any N s r w.heap.size x y W (BA1.out.below hW BA1.out.lt) hx hy hN8 HS.out.2)).mono ?_
  rintro e w2 ⟨rfl, hw⟩
  have es : bS (bitAt s) N = s := bits_ext (bits_bS _ _) (validB_iff.1 HV.out).2.2.2.1 (by rw [bS_size]; exact HS.out.1.symm) (fun i hi => bit_bS (by rw [bS_size] at hi; exact hi))
  have er : bR (turnRel N r) N N = turnR N r := rfl
  rw [es, er]
  have AW2 : Hid (Below w.heap.size w w2) := AW1.out.trans (hw.mono AW1.out.size)
  have BZ2 := Lib.hid (BZ1.out.below hw BZ1.out.lt)
  clear hw es er
  obtain ⟨z0, z1, z2⟩ := BZ2.out.c
  have f0 := BZ2.out.free 0
  have f1 := BZ2.out.free 1
  have f2 := BZ2.out.free 2
  obtain ⟨R2, hR2⟩ : ∃ q, q = turnR N r := ⟨_, rfl⟩
  rw [← hR2]
  have HR2 := Lib.hid hR2
  clear hR2
  obtain ⟨e0, e1, e2⟩ := (((BZ2.out.set0 N).set1 s).set2 R2).c
  have HF := Lib.hid (show _ ∧ _ ∧ _ from ⟨e0, e1, e2⟩)
  clear e0 e1 e2
  have R := Lib.hid (((AW2.out.setCell (p := ⟨w.heap.size + 1, 0, none⟩) (by simp) (.int .i64 N)).setCell (p := ⟨w.heap.size + 1, 1, none⟩) (by simp) (.string s)).setCell (p := ⟨w.heap.size + 1, 2, none⟩) (by simp) (.string R2))
  go_wp2
  exact bodyPost_ret (v := .tuple #[.agg #[.int .i64 N, .string s, .string R2], .bool true]) (by simp [results, Tryd.results53, go_sem, HF.out.1, HF.out.2.1, HF.out.2.2]) rfl ⟨by rw [HR2.out], R.out⟩
end Go.Proofs.YtlnmebjbinmeiaaDoor.turn
