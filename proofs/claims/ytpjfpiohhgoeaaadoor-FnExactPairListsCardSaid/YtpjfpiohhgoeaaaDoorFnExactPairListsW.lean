/- The walk of FnExactPairLists, over the contracts of the two functions. Printed by exactgen.py of this work. -/
import Derived.Test.YtpjfpiohhgoeaaaDoorRows
import Derived.Test.YtpjfpiohhgoeaaaDoorLib
import Derived.Test.YtpjfpiohhgoeaaaDoorSl
import Derived.Test.YtpjfpiohhgoeaaaDoorStr
import Derived.Test.YtpjfpiohhgoeaaaDoorPairL
import Derived.Test.YtpjfpiohhgoeaaaDoorRow
import Derived.Deep.RegionHeld3
namespace Go.Proofs.YtpjfpiohhgoeaaaDoor.fnExactPairListsW
set_option linter.unusedVariables false
set_option linter.unusedSimpArgs false
open Go.ChangeShapes Go.WideShapes Go.ChangeAt Go.RowKit
open Go.Proofs.YtpjfpiohhgoeaaaDoor.lib Go.Proofs.YtpjfpiohhgoeaaaDoor.st Go.Proofs.YtpjfpiohhgoeaaaDoor.sl
set_option linter.unusedVariables false

set_option maxHeartbeats 1600000 in
theorem core (n0 : Int) (s0 r0 : ByteArray) (a1 : Option Addr) (n1 c1 : Nat) (l1 : List Int) (n2 : Int) (s2 r2 : ByteArray) (a3 : Option Addr) (n3 c3 : Nat) (l3 : List Int) (M0 : List Int) (M1 : Bool) (w : World) (zs0 : s0.size ≤ maxLen) (zr0 : r0.size ≤ maxLen) (hl1 : l1.length = n1) (hr1 : Reads w (.slice a1 n1 c1) l1) (zs2 : s2.size ≤ maxLen) (zr2 : r2.size ≤ maxLen) (hl3 : l3.length = n3) (hr3 : Reads w (.slice a3 n3 c3) l3)
    (hM0 : l1.length ≤ 1048576 → l3.length ≤ 1048576 → (s0.size + r0.size) + (s2.size + r2.size) ≤ 1048576 → M0.length ≤ 4194304)
    (hspec : l1.length ≤ 1048576 → l3.length ≤ 1048576 → (s0.size + r0.size) + (s2.size + r2.size) ≤ 1048576 → ∀ (x1 : Value) (x3 : Value) (w : World), Reads w x1 l1 → Reads w x3 l3 → Calls Tryd.prog 27 #[.agg #[.int .i64 n0, .string s0, .string r0], x1, .agg #[.int .i64 n2, .string s2, .string r2], x3] w fun e w' => ∃ v0, e = .returned (.tuple #[v0, .bool M1]) ∧ OwnI 3 w' w.heap.size v0 M0 ∧ Below w.heap.size w w')
    (himpl : l1.length ≤ 1048576 → l3.length ≤ 1048576 → (s0.size + r0.size) + (s2.size + r2.size) ≤ 1048576 → ∀ (x1 : Value) (x3 : Value) (w : World), Reads w x1 l1 → Reads w x3 l3 → Calls Tryd.prog 29 #[.agg #[.int .i64 n0, .string s0, .string r0], x1, .agg #[.int .i64 n2, .string s2, .string r2], x3] w fun e w' => ∃ v0, e = .returned (.tuple #[v0, .bool M1]) ∧ OwnI 3 w' w.heap.size v0 M0 ∧ Below w.heap.size w w') :
    Calls Tryd.prog 8 #[.agg #[.int .i64 n0, .string s0, .string r0], .slice a1 n1 c1, .agg #[.int .i64 n2, .string s2, .string r2], .slice a3 n3 c3] w fun e w' => e = .returned (.bool true) ∧ Below w.heap.size w w' := by
  unfold maxLen at zs0 zr0
  have HL1 := Lib.hid hl1
  have RD1 := Lib.hid hr1
  clear hl1 hr1
  unfold maxLen at zs2 zr2
  have HL3 := Lib.hid hl3
  have RD3 := Lib.hid hr3
  clear hl3 hr3
  have HM0 := Lib.hid hM0
  clear hM0
  have HSPEC := Lib.hid hspec
  have HIMPL := Lib.hid himpl
  clear hspec himpl
  obtain ⟨HB, hHB⟩ : ∃ HB, HB = w.heap.size + 1 + 1 := ⟨_, rfl⟩
  have BX0 : Hid (Box 26 ((w.alloc (.cells #[.int .i64 n0, .string s0, .string r0] 26)).alloc (.cells #[.int .i64 n2, .string s2, .string r2] 26)) (w.heap.size) n0 s0 r0) := (Box.new 26 w (w.heap.size) (by simp) n0 s0 r0).below ((Below.refl (w.heap.size + 1) _).alloc (by simp) _) (by omega)
  have BX2 : Hid (Box 26 ((w.alloc (.cells #[.int .i64 n0, .string s0, .string r0] 26)).alloc (.cells #[.int .i64 n2, .string s2, .string r2] 26)) (w.heap.size + 1) n2 s2 r2) := Box.new 26 (w.alloc (.cells #[.int .i64 n0, .string s0, .string r0] 26)) (w.heap.size + 1) (by simp) n2 s2 r2
  have AW0 : Hid (Below w.heap.size w ((w.alloc (.cells #[.int .i64 n0, .string s0, .string r0] 26)).alloc (.cells #[.int .i64 n2, .string s2, .string r2] 26))) := ((Below.refl w.heap.size w).alloc (Nat.le_refl _) _).alloc (by simp only [World.size_alloc]; omega) _
  have BW0 : Hid (Below HB ((w.alloc (.cells #[.int .i64 n0, .string s0, .string r0] 26)).alloc (.cells #[.int .i64 n2, .string s2, .string r2] 26)) ((w.alloc (.cells #[.int .i64 n0, .string s0, .string r0] 26)).alloc (.cells #[.int .i64 n2, .string s2, .string r2] 26))) := Below.refl _ _
  have HBS : Hid (((w.alloc (.cells #[.int .i64 n0, .string s0, .string r0] 26)).alloc (.cells #[.int .i64 n2, .string s2, .string r2] 26)).heap.size = HB) := by rw [hHB]; simp [Hid]
  have HHB := Lib.hid hHB
  clear hHB
  by_cases g1 : 1048576 < n1
  · go_enter Tryd.func8, Tryd.ntmps8
    go_wp2
    go_ret
    exact ⟨rfl, AW0.out⟩
  by_cases g3 : 1048576 < n3
  · go_enter Tryd.func8, Tryd.ntmps8
    go_wp2
    go_ret
    exact ⟨rfl, AW0.out⟩
  obtain ⟨left1, hlf1⟩ : ∃ q, q = szL s0 r0 1048576 := ⟨_, rfl⟩
  have hle1 : left1 ≤ 1048576 := by have := szL_le s0 r0 1048576 (by omega); omega
  have HLF1 := Lib.hid hlf1
  clear hlf1
  go_enter Tryd.func8, Tryd.ntmps8
  obtain ⟨b00, b01, b02⟩ := (BX0.out.below BW0.out (by have := HHB.out; omega)).c
  go_wp2_with fail
  clear b00 b01 b02
  refine (szStructure_any _ _ _ _ _ (by omega) (by omega) (by omega) (by omega)).mono ?_
  rintro e w1 ⟨rfl, hb⟩
  rw [← HLF1.out]
  have hb := hb.mono (show HB ≤ _ by have := HBS.out; omega)
  have AW1 : Hid (Below w.heap.size w w1) := AW0.out.trans (hb.mono (by have := HHB.out; omega))
  have BW1 : Hid (Below HB ((w.alloc (.cells #[.int .i64 n0, .string s0, .string r0] 26)).alloc (.cells #[.int .i64 n2, .string s2, .string r2] 26)) w1) := hb
  clear hb AW0 BW0
  by_cases gl1 : left1 < 0
  · go_wp2
    go_ret
    exact ⟨rfl, AW1.out⟩
  obtain ⟨left2, hlf2⟩ : ∃ q, q = szL s2 r2 left1 := ⟨_, rfl⟩
  have hle2 : left2 ≤ 1048576 := by have := szL_le s2 r2 left1 (by omega); omega
  have HLF2 := Lib.hid hlf2
  clear hlf2
  obtain ⟨b20, b21, b22⟩ := (BX2.out.below BW1.out (by have := HHB.out; omega)).c
  go_wp2_with fail
  clear b20 b21 b22
  refine (szStructure_any _ _ _ _ _ (by omega) (by omega) (by omega) (by omega)).mono ?_
  rintro e w2 ⟨rfl, hb⟩
  rw [← HLF2.out]
  have AW2 : Hid (Below w.heap.size w w2) := AW1.out.trans (hb.mono AW1.out.size)
  have BW2 : Hid (Below HB ((w.alloc (.cells #[.int .i64 n0, .string s0, .string r0] 26)).alloc (.cells #[.int .i64 n2, .string s2, .string r2] 26)) w2) := BW1.out.trans (hb.mono (by have := BW1.out.size; have := HBS.out; omega))
  clear AW1 BW1
  clear hb
  by_cases gl2 : left2 < 0
  · go_wp2
    go_ret
    exact ⟨rfl, AW2.out⟩
  have hbl1 : l1.length ≤ 1048576 := by have := HL1.out; omega
  have hbl3 : l3.length ≤ 1048576 := by have := HL3.out; omega
  have hsum1 := szL_sum s0 r0 1048576 (by rw [← HLF1.out]; omega) (by omega)
  rw [← HLF1.out] at hsum1
  have hsum2 := szL_sum s2 r2 left1 (by rw [← HLF2.out]; omega) (by omega)
  rw [← HLF2.out] at hsum2
  have hbs : (s0.size + r0.size) + (s2.size + r2.size) ≤ 1048576 := by omega
  have HBU : Hid (l1.length ≤ 1048576 ∧ l3.length ≤ 1048576 ∧ (s0.size + r0.size) + (s2.size + r2.size) ≤ 1048576) := ⟨hbl1, hbl3, hbs⟩
  clear hbl1 hbl3 hbs hsum1 hsum2
  have HBM0 := Lib.hid (HM0.out HBU.out.1 HBU.out.2.1 HBU.out.2.2)
  obtain ⟨b00, b01, b02⟩ := (BX0.out.below BW2.out (by have := HHB.out; omega)).c
  obtain ⟨b20, b21, b22⟩ := (BX2.out.below BW2.out (by have := HHB.out; omega)).c
  go_wp2_with fail
  have AA2 : Hid (Below w2.heap.size w2 w2.drew) := (Below.refl _ _).drew
  go_region_held3 (fun X => X.cell? ⟨w.heap.size, 0, none⟩ = some (.int .i64 n0) ∧ X.cell? ⟨w.heap.size, 1, none⟩ = some (.string s0) ∧ X.cell? ⟨w.heap.size, 2, none⟩ = some (.string r0) ∧ X.cell? ⟨w.heap.size + 1, 0, none⟩ = some (.int .i64 n2) ∧ X.cell? ⟨w.heap.size + 1, 1, none⟩ = some (.string s2) ∧ X.cell? ⟨w.heap.size + 1, 2, none⟩ = some (.string r2) ∧ Hid (Below w2.heap.size w2 X)) (first | exact ⟨b00, b01, b02, b20, b21, b22, AA2⟩ | exact keep6 hb ⟨b00, b01, b02, b20, b21, b22, AA2⟩ | exact keep6 hb (by assumption)) (first | (go_at_call 15; with_reducible refine (toStructure_any n0 s0 r0 _).mono ?_; rintro e X ⟨rfl, hb⟩) | (go_at_call 28; with_reducible refine (toIntS_any (.slice a1 n1 c1) l1 _ (RD1.out.below (AW2.out.trans ((out6 (w0 := w2) (by assumption)).mono AW2.out.size)) (Nat.le_refl _)) (by have := HBU.out; omega)).mono ?_; rintro e X ⟨vt1, rfl, hot1, hb⟩) | (go_at_call 15; with_reducible refine (toStructure_any n2 s2 r2 _).mono ?_; rintro e X ⟨rfl, hb⟩; have hot1 := OwnI.below hot1 hb (Nat.le_refl _)) | (go_at_call 28; with_reducible refine (toIntS_any (.slice a3 n3 c3) l3 _ (RD3.out.below (AW2.out.trans ((out6 (w0 := w2) (by assumption)).mono AW2.out.size)) (Nat.le_refl _)) (by have := HBU.out; omega)).mono ?_; rintro e X ⟨vt2, rfl, hot2, hb⟩; have hot1 := OwnI.below hot1 hb (Nat.le_refl _)) | (go_at_call 27; refine (HSPEC.out HBU.out.1 HBU.out.2.1 HBU.out.2.2 _ _ _ (OwnI.reads hot1) (OwnI.reads hot2)).mono ?_; rintro e w3 ⟨vw0, rfl, ho, hb⟩; have ho : OwnI 3 _ w2.heap.size _ _ := ho.mono (out6 (w0 := w2) (by assumption)).size))
  have hb : Below w2.heap.size w2 w3 := out6 (by assumption)
  clear AA2
  clear b00 b01 b02
  clear b20 b21 b22
  have AW3 : Hid (Below w.heap.size w w3) := AW2.out.trans (hb.mono AW2.out.size)
  have BW3 : Hid (Below HB ((w.alloc (.cells #[.int .i64 n0, .string s0, .string r0] 26)).alloc (.cells #[.int .i64 n2, .string s2, .string r2] 26)) w3) := BW2.out.trans (hb.mono (by have := BW2.out.size; have := HBS.out; omega))
  clear AW2 BW2
  have Ow0_3 := Lib.hid ho
  clear ho hb
  go_wp2_with fail
  refine (toIntS_any _ l1 _ (RD1.out.below AW3.out (Nat.le_refl _)) (by have := HBU.out; omega)).mono ?_
  rintro e w4 ⟨vx1, rfl, ho, hb⟩
  have Obasex1 : Hid (HB ≤ w3.heap.size) := by have h1 := BW3.out.size; have h2 := HBS.out; unfold Hid; omega
  have Ax1_w0 : Hid (Apart vx1 vw0) := Apart.of_own ho Ow0_3.out
  have AW4 : Hid (Below w.heap.size w w4) := AW3.out.trans (hb.mono AW3.out.size)
  have BW4 : Hid (Below HB ((w.alloc (.cells #[.int .i64 n0, .string s0, .string r0] 26)).alloc (.cells #[.int .i64 n2, .string s2, .string r2] 26)) w4) := BW3.out.trans (hb.mono (by have := BW3.out.size; have := HBS.out; omega))
  have Ow0_4 := Lib.hid (Ow0_3.out.below hb (Nat.le_refl _))
  clear Ow0_3
  clear AW3 BW3
  have Ox1_4 := Lib.hid ho
  clear ho hb
  go_wp2_with fail
  refine (toIntS_any _ l3 _ (RD3.out.below AW4.out (Nat.le_refl _)) (by have := HBU.out; omega)).mono ?_
  rintro e w5 ⟨vx3, rfl, ho, hb⟩
  have Obasex3 : Hid (HB ≤ w4.heap.size) := by have h1 := BW4.out.size; have h2 := HBS.out; unfold Hid; omega
  have Ax3_w0 : Hid (Apart vx3 vw0) := Apart.of_own ho Ow0_4.out
  have Ax3_x1 : Hid (Apart vx3 vx1) := Apart.of_own ho Ox1_4.out
  have AW5 : Hid (Below w.heap.size w w5) := AW4.out.trans (hb.mono AW4.out.size)
  have BW5 : Hid (Below HB ((w.alloc (.cells #[.int .i64 n0, .string s0, .string r0] 26)).alloc (.cells #[.int .i64 n2, .string s2, .string r2] 26)) w5) := BW4.out.trans (hb.mono (by have := BW4.out.size; have := HBS.out; omega))
  have Ow0_5 := Lib.hid (Ow0_4.out.below hb (Nat.le_refl _))
  clear Ow0_4
  have Ox1_5 := Lib.hid (Ox1_4.out.below hb (Nat.le_refl _))
  clear Ox1_4
  clear AW4 BW4
  have Ox3_5 := Lib.hid ho
  clear ho hb
  obtain ⟨b00, b01, b02⟩ := (BX0.out.below BW5.out (by have := HHB.out; omega)).c
  obtain ⟨b20, b21, b22⟩ := (BX2.out.below BW5.out (by have := HHB.out; omega)).c
  go_wp2_with fail
  have AA5 : Hid (Below w5.heap.size w5 w5.drew) := (Below.refl _ _).drew
  go_region_held3 (fun X => X.cell? ⟨w.heap.size, 0, none⟩ = some (.int .i64 n0) ∧ X.cell? ⟨w.heap.size, 1, none⟩ = some (.string s0) ∧ X.cell? ⟨w.heap.size, 2, none⟩ = some (.string r0) ∧ X.cell? ⟨w.heap.size + 1, 0, none⟩ = some (.int .i64 n2) ∧ X.cell? ⟨w.heap.size + 1, 1, none⟩ = some (.string s2) ∧ X.cell? ⟨w.heap.size + 1, 2, none⟩ = some (.string r2) ∧ Hid (Below w5.heap.size w5 X)) (first | exact ⟨b00, b01, b02, b20, b21, b22, AA5⟩ | exact keep6 hb ⟨b00, b01, b02, b20, b21, b22, AA5⟩ | exact keep6 hb (by assumption)) (first | (go_at_call 15; with_reducible refine (toStructure_any n0 s0 r0 _).mono ?_; rintro e X ⟨rfl, hb⟩) | (go_at_call 15; with_reducible refine (toStructure_any n2 s2 r2 _).mono ?_; rintro e X ⟨rfl, hb⟩) | (go_at_call 29; refine (HIMPL.out HBU.out.1 HBU.out.2.1 HBU.out.2.2 _ _ _ (OwnI.reads (Ox1_5.out.below (out6 (w0 := w5) (by assumption)) (Nat.le_refl _))) (OwnI.reads (Ox3_5.out.below (out6 (w0 := w5) (by assumption)) (Nat.le_refl _)))).mono ?_; rintro e w6 ⟨vg0, rfl, ho, hb⟩; have ho : OwnI 3 _ w5.heap.size _ _ := ho.mono (out6 (w0 := w5) (by assumption)).size))
  have hb : Below w5.heap.size w5 w6 := out6 (by assumption)
  clear AA5
  clear b00 b01 b02
  clear b20 b21 b22
  have Obaseg0 : Hid (HB ≤ w5.heap.size) := by have h1 := BW5.out.size; have h2 := HBS.out; unfold Hid; omega
  have Ag0_w0 : Hid (Apart vg0 vw0) := Apart.of_own ho Ow0_5.out
  have Ag0_x1 : Hid (Apart vg0 vx1) := Apart.of_own ho Ox1_5.out
  have Ag0_x3 : Hid (Apart vg0 vx3) := Apart.of_own ho Ox3_5.out
  have AW6 : Hid (Below w.heap.size w w6) := AW5.out.trans (hb.mono AW5.out.size)
  have BW6 : Hid (Below HB ((w.alloc (.cells #[.int .i64 n0, .string s0, .string r0] 26)).alloc (.cells #[.int .i64 n2, .string s2, .string r2] 26)) w6) := BW5.out.trans (hb.mono (by have := BW5.out.size; have := HBS.out; omega))
  have Ow0_6 := Lib.hid (Ow0_5.out.below hb (Nat.le_refl _))
  clear Ow0_5
  have Ox1_6 := Lib.hid (Ox1_5.out.below hb (Nat.le_refl _))
  clear Ox1_5
  have Ox3_6 := Lib.hid (Ox3_5.out.below hb (Nat.le_refl _))
  clear Ox3_5
  clear AW5 BW5
  have Og0_6 := Lib.hid ho
  clear ho hb
  go_wp2_with fail
  refine (eqIntS_same _ _ M0 _ (OwnI.reads Og0_6.out) (OwnI.reads Ow0_6.out) (by have := HBM0.out; omega)).mono ?_
  rintro e w7 ⟨rfl, hb⟩
  have AW7 : Hid (Below w.heap.size w w7) := AW6.out.trans (hb.mono AW6.out.size)
  have BW7 : Hid (Below HB ((w.alloc (.cells #[.int .i64 n0, .string s0, .string r0] 26)).alloc (.cells #[.int .i64 n2, .string s2, .string r2] 26)) w7) := BW6.out.trans (hb.mono (by have := BW6.out.size; have := HBS.out; omega))
  have Ow0_7 := Lib.hid (Ow0_6.out.below hb (Nat.le_refl _))
  clear Ow0_6
  have Ox1_7 := Lib.hid (Ox1_6.out.below hb (Nat.le_refl _))
  clear Ox1_6
  have Ox3_7 := Lib.hid (Ox3_6.out.below hb (Nat.le_refl _))
  clear Ox3_6
  have Og0_7 := Lib.hid (Og0_6.out.below hb (Nat.le_refl _))
  clear Og0_6
  clear AW6 BW6
  clear hb
  go_wp2_with fail
  refine (toIntS_any _ l1 _ (RD1.out.below AW7.out (Nat.le_refl _)) (by have := HBU.out; omega)).mono ?_
  rintro e w8 ⟨vt3, rfl, ho, hb⟩
  have At3_w0 : Hid (Apart vt3 vw0) := Apart.of_own ho Ow0_7.out
  have At3_x1 : Hid (Apart vt3 vx1) := Apart.of_own ho Ox1_7.out
  have At3_x3 : Hid (Apart vt3 vx3) := Apart.of_own ho Ox3_7.out
  have At3_g0 : Hid (Apart vt3 vg0) := Apart.of_own ho Og0_7.out
  have AW8 : Hid (Below w.heap.size w w8) := AW7.out.trans (hb.mono AW7.out.size)
  have BW8 : Hid (Below HB ((w.alloc (.cells #[.int .i64 n0, .string s0, .string r0] 26)).alloc (.cells #[.int .i64 n2, .string s2, .string r2] 26)) w8) := BW7.out.trans (hb.mono (by have := BW7.out.size; have := HBS.out; omega))
  have Ow0_8 := Lib.hid (Ow0_7.out.below hb (Nat.le_refl _))
  clear Ow0_7
  have Ox1_8 := Lib.hid (Ox1_7.out.below hb (Nat.le_refl _))
  clear Ox1_7
  have Ox3_8 := Lib.hid (Ox3_7.out.below hb (Nat.le_refl _))
  clear Ox3_7
  have Og0_8 := Lib.hid (Og0_7.out.below hb (Nat.le_refl _))
  clear Og0_7
  clear AW7 BW7
  have Ot3_8 := Lib.hid ho
  clear ho hb
  go_wp2_with fail
  refine (eqIntS_same _ _ l1 _ (OwnI.reads Ox1_8.out) (OwnI.reads Ot3_8.out) (by have := HBU.out; omega)).mono ?_
  rintro e w9 ⟨rfl, hb⟩
  have AW9 : Hid (Below w.heap.size w w9) := AW8.out.trans (hb.mono AW8.out.size)
  have BW9 : Hid (Below HB ((w.alloc (.cells #[.int .i64 n0, .string s0, .string r0] 26)).alloc (.cells #[.int .i64 n2, .string s2, .string r2] 26)) w9) := BW8.out.trans (hb.mono (by have := BW8.out.size; have := HBS.out; omega))
  have Ow0_9 := Lib.hid (Ow0_8.out.below hb (Nat.le_refl _))
  clear Ow0_8
  have Ox1_9 := Lib.hid (Ox1_8.out.below hb (Nat.le_refl _))
  clear Ox1_8
  have Ox3_9 := Lib.hid (Ox3_8.out.below hb (Nat.le_refl _))
  clear Ox3_8
  have Og0_9 := Lib.hid (Og0_8.out.below hb (Nat.le_refl _))
  clear Og0_8
  have Ot3_9 := Lib.hid (Ot3_8.out.below hb (Nat.le_refl _))
  clear Ot3_8
  clear AW8 BW8
  clear hb
  clear Ot3_9
  go_wp2_with fail
  refine (toIntS_any _ l3 _ (RD3.out.below AW9.out (Nat.le_refl _)) (by have := HBU.out; omega)).mono ?_
  rintro e w10 ⟨vt4, rfl, ho, hb⟩
  have At4_w0 : Hid (Apart vt4 vw0) := Apart.of_own ho Ow0_9.out
  have At4_x1 : Hid (Apart vt4 vx1) := Apart.of_own ho Ox1_9.out
  have At4_x3 : Hid (Apart vt4 vx3) := Apart.of_own ho Ox3_9.out
  have At4_g0 : Hid (Apart vt4 vg0) := Apart.of_own ho Og0_9.out
  have AW10 : Hid (Below w.heap.size w w10) := AW9.out.trans (hb.mono AW9.out.size)
  have BW10 : Hid (Below HB ((w.alloc (.cells #[.int .i64 n0, .string s0, .string r0] 26)).alloc (.cells #[.int .i64 n2, .string s2, .string r2] 26)) w10) := BW9.out.trans (hb.mono (by have := BW9.out.size; have := HBS.out; omega))
  have Ow0_10 := Lib.hid (Ow0_9.out.below hb (Nat.le_refl _))
  clear Ow0_9
  have Ox1_10 := Lib.hid (Ox1_9.out.below hb (Nat.le_refl _))
  clear Ox1_9
  have Ox3_10 := Lib.hid (Ox3_9.out.below hb (Nat.le_refl _))
  clear Ox3_9
  have Og0_10 := Lib.hid (Og0_9.out.below hb (Nat.le_refl _))
  clear Og0_9
  clear AW9 BW9
  have Ot4_10 := Lib.hid ho
  clear ho hb
  go_wp2_with fail
  refine (eqIntS_same _ _ l3 _ (OwnI.reads Ox3_10.out) (OwnI.reads Ot4_10.out) (by have := HBU.out; omega)).mono ?_
  rintro e w11 ⟨rfl, hb⟩
  have AW11 : Hid (Below w.heap.size w w11) := AW10.out.trans (hb.mono AW10.out.size)
  have BW11 : Hid (Below HB ((w.alloc (.cells #[.int .i64 n0, .string s0, .string r0] 26)).alloc (.cells #[.int .i64 n2, .string s2, .string r2] 26)) w11) := BW10.out.trans (hb.mono (by have := BW10.out.size; have := HBS.out; omega))
  have Ow0_11 := Lib.hid (Ow0_10.out.below hb (Nat.le_refl _))
  clear Ow0_10
  have Ox1_11 := Lib.hid (Ox1_10.out.below hb (Nat.le_refl _))
  clear Ox1_10
  have Ox3_11 := Lib.hid (Ox3_10.out.below hb (Nat.le_refl _))
  clear Ox3_10
  have Og0_11 := Lib.hid (Og0_10.out.below hb (Nat.le_refl _))
  clear Og0_10
  have Ot4_11 := Lib.hid (Ot4_10.out.below hb (Nat.le_refl _))
  clear Ot4_10
  clear AW10 BW10
  clear hb
  clear Ot4_11
  obtain ⟨C1, hC1⟩ : ∃ q : Int, q = 1 + (l1.length : Int) := ⟨_, rfl⟩
  have pC1 : 0 < C1 ∧ C1 ≤ 4194305 := by have := HBU.out; omega
  have HC1 := Lib.hid hC1
  clear hC1
  go_wp2_with fail
  refine (markIntS_at _ _ l1 1 C1 _ Ox1_11.out (by omega) (by have := HBU.out; omega) (by omega) HC1.out).mono ?_
  rintro e w12 ⟨rfl, ho, hg⟩
  have hb : Below HB w11 w12 := below_of_grown hg (by have := BW11.out.size; have := HBS.out; omega) (fun q h => by have := (World.ownsRow.lt Ox1_11.out q h).1; have := Obasex1.out; omega)
  have AW12 : Hid (Below w.heap.size w w12) := AW11.out.trans (hb.mono (by have := HHB.out; omega))
  have BW12 : Hid (Below HB ((w.alloc (.cells #[.int .i64 n0, .string s0, .string r0] 26)).alloc (.cells #[.int .i64 n2, .string s2, .string r2] 26)) w12) := BW11.out.trans hb
  have Ow0_12 := Lib.hid (OwnI.keepMark Ow0_11.out hg Ax1_w0.out.symm)
  clear Ow0_11
  have Ox3_12 := Lib.hid (OwnI.keepMark Ox3_11.out hg Ax3_x1.out)
  clear Ox3_11
  have Og0_12 := Lib.hid (OwnI.keepMark Og0_11.out hg Ag0_x1.out)
  clear Og0_11
  have Ox1_12 := Lib.hid ho
  clear Ox1_11 ho hg hb AW11 BW11
  obtain ⟨C2, hC2⟩ : ∃ q : Int, q = C1 + (l3.length : Int) := ⟨_, rfl⟩
  have pC2 : 0 < C2 ∧ C2 ≤ 8388609 := by have := HBU.out; omega
  have HC2 := Lib.hid hC2
  clear hC2
  go_wp2_with fail
  refine (markIntS_at _ _ l3 C1 C2 _ Ox3_12.out (by omega) (by have := HBU.out; omega) (by omega) HC2.out).mono ?_
  rintro e w13 ⟨rfl, ho, hg⟩
  have hb : Below HB w12 w13 := below_of_grown hg (by have := BW12.out.size; have := HBS.out; omega) (fun q h => by have := (World.ownsRow.lt Ox3_12.out q h).1; have := Obasex3.out; omega)
  have AW13 : Hid (Below w.heap.size w w13) := AW12.out.trans (hb.mono (by have := HHB.out; omega))
  have BW13 : Hid (Below HB ((w.alloc (.cells #[.int .i64 n0, .string s0, .string r0] 26)).alloc (.cells #[.int .i64 n2, .string s2, .string r2] 26)) w13) := BW12.out.trans hb
  have Ow0_13 := Lib.hid (OwnI.keepMark Ow0_12.out hg Ax3_w0.out.symm)
  clear Ow0_12
  have Ox1_13 := Lib.hid (OwnI.keepMark Ox1_12.out hg Ax3_x1.out.symm)
  clear Ox1_12
  have Og0_13 := Lib.hid (OwnI.keepMark Og0_12.out hg Ag0_x3.out)
  clear Og0_12
  have Ox3_13 := Lib.hid ho
  clear Ox3_12 ho hg hb AW12 BW12
  go_wp2_with fail
  refine (eqIntS_same _ _ M0 _ (OwnI.reads Og0_13.out) (OwnI.reads Ow0_13.out) (by have := HBM0.out; omega)).mono ?_
  rintro e w14 ⟨rfl, hb⟩
  have AW14 : Hid (Below w.heap.size w w14) := AW13.out.trans (hb.mono AW13.out.size)
  have BW14 : Hid (Below HB ((w.alloc (.cells #[.int .i64 n0, .string s0, .string r0] 26)).alloc (.cells #[.int .i64 n2, .string s2, .string r2] 26)) w14) := BW13.out.trans (hb.mono (by have := BW13.out.size; have := HBS.out; omega))
  have Ow0_14 := Lib.hid (Ow0_13.out.below hb (Nat.le_refl _))
  clear Ow0_13
  have Ox1_14 := Lib.hid (Ox1_13.out.below hb (Nat.le_refl _))
  clear Ox1_13
  have Ox3_14 := Lib.hid (Ox3_13.out.below hb (Nat.le_refl _))
  clear Ox3_13
  have Og0_14 := Lib.hid (Og0_13.out.below hb (Nat.le_refl _))
  clear Og0_13
  clear AW13 BW13
  clear hb
  obtain ⟨C3, hC3⟩ : ∃ q : Int, q = 1 + (M0.length : Int) := ⟨_, rfl⟩
  have pC3 : 0 < C3 ∧ C3 ≤ 4194305 := by have := HBM0.out; omega
  have HC3 := Lib.hid hC3
  clear hC3
  go_wp2_with fail
  refine (markIntS_at _ _ M0 1 C3 _ Og0_14.out (by omega) (by have := HBM0.out; omega) (by omega) HC3.out).mono ?_
  rintro e w15 ⟨rfl, ho, hg⟩
  have hb : Below HB w14 w15 := below_of_grown hg (by have := BW14.out.size; have := HBS.out; omega) (fun q h => by have := (World.ownsRow.lt Og0_14.out q h).1; have := Obaseg0.out; omega)
  have AW15 : Hid (Below w.heap.size w w15) := AW14.out.trans (hb.mono (by have := HHB.out; omega))
  have BW15 : Hid (Below HB ((w.alloc (.cells #[.int .i64 n0, .string s0, .string r0] 26)).alloc (.cells #[.int .i64 n2, .string s2, .string r2] 26)) w15) := BW14.out.trans hb
  have Ow0_15 := Lib.hid (OwnI.keepMark Ow0_14.out hg Ag0_w0.out.symm)
  clear Ow0_14
  have Ox1_15 := Lib.hid (OwnI.keepMark Ox1_14.out hg Ag0_x1.out.symm)
  clear Ox1_14
  have Ox3_15 := Lib.hid (OwnI.keepMark Ox3_14.out hg Ag0_x3.out.symm)
  clear Ox3_14
  have Og0_15 := Lib.hid ho
  clear Og0_14 ho hg hb AW14 BW14
  go_wp2_with fail
  refine (heldIntS_at _ M0.length 1 C3 _ (OwnI.reads Og0_15.out) (by omega) (by have := HBM0.out; omega) (by omega) HC3.out).mono ?_
  rintro e w16 ⟨rfl, hb⟩
  have AW16 : Hid (Below w.heap.size w w16) := AW15.out.trans (hb.mono AW15.out.size)
  have BW16 : Hid (Below HB ((w.alloc (.cells #[.int .i64 n0, .string s0, .string r0] 26)).alloc (.cells #[.int .i64 n2, .string s2, .string r2] 26)) w16) := BW15.out.trans (hb.mono (by have := BW15.out.size; have := HBS.out; omega))
  have Ow0_16 := Lib.hid (Ow0_15.out.below hb (Nat.le_refl _))
  clear Ow0_15
  have Ox1_16 := Lib.hid (Ox1_15.out.below hb (Nat.le_refl _))
  clear Ox1_15
  have Ox3_16 := Lib.hid (Ox3_15.out.below hb (Nat.le_refl _))
  clear Ox3_15
  have Og0_16 := Lib.hid (Og0_15.out.below hb (Nat.le_refl _))
  clear Og0_15
  clear AW15 BW15
  clear hb
  obtain ⟨b00, b01, b02⟩ := (BX0.out.below BW16.out (by have := HHB.out; omega)).c
  obtain ⟨b20, b21, b22⟩ := (BX2.out.below BW16.out (by have := HHB.out; omega)).c
  go_wp2_with fail
  have AA16 : Hid (Below w16.heap.size w16 w16.drew) := (Below.refl _ _).drew
  go_region_held3 (fun X => X.cell? ⟨w.heap.size, 0, none⟩ = some (.int .i64 n0) ∧ X.cell? ⟨w.heap.size, 1, none⟩ = some (.string s0) ∧ X.cell? ⟨w.heap.size, 2, none⟩ = some (.string r0) ∧ X.cell? ⟨w.heap.size + 1, 0, none⟩ = some (.int .i64 n2) ∧ X.cell? ⟨w.heap.size + 1, 1, none⟩ = some (.string s2) ∧ X.cell? ⟨w.heap.size + 1, 2, none⟩ = some (.string r2) ∧ Hid (Below w16.heap.size w16 X)) (first | exact ⟨b00, b01, b02, b20, b21, b22, AA16⟩ | exact keep6 hb ⟨b00, b01, b02, b20, b21, b22, AA16⟩ | exact keep6 hb (by assumption)) (first | (go_at_call 15; with_reducible refine (toStructure_any n0 s0 r0 _).mono ?_; rintro e X ⟨rfl, hb⟩) | (go_at_call 28; with_reducible refine (toIntS_any (.slice a1 n1 c1) l1 _ (RD1.out.below (AW16.out.trans ((out6 (w0 := w16) (by assumption)).mono AW16.out.size)) (Nat.le_refl _)) (by have := HBU.out; omega)).mono ?_; rintro e X ⟨vt5, rfl, hot5, hb⟩) | (go_at_call 15; with_reducible refine (toStructure_any n2 s2 r2 _).mono ?_; rintro e X ⟨rfl, hb⟩; have hot5 := OwnI.below hot5 hb (Nat.le_refl _)) | (go_at_call 28; with_reducible refine (toIntS_any (.slice a3 n3 c3) l3 _ (RD3.out.below (AW16.out.trans ((out6 (w0 := w16) (by assumption)).mono AW16.out.size)) (Nat.le_refl _)) (by have := HBU.out; omega)).mono ?_; rintro e X ⟨vt6, rfl, hot6, hb⟩; have hot5 := OwnI.below hot5 hb (Nat.le_refl _)) | (go_at_call 29; refine (HIMPL.out HBU.out.1 HBU.out.2.1 HBU.out.2.2 _ _ _ (OwnI.reads hot5) (OwnI.reads hot6)).mono ?_; rintro e w17 ⟨vh0, rfl, ho, hb⟩; have ho : OwnI 3 _ w16.heap.size _ _ := ho.mono (out6 (w0 := w16) (by assumption)).size))
  have hb : Below w16.heap.size w16 w17 := out6 (by assumption)
  clear AA16
  clear b00 b01 b02
  clear b20 b21 b22
  have Ah0_w0 : Hid (Apart vh0 vw0) := Apart.of_own ho Ow0_16.out
  have Ah0_x1 : Hid (Apart vh0 vx1) := Apart.of_own ho Ox1_16.out
  have Ah0_x3 : Hid (Apart vh0 vx3) := Apart.of_own ho Ox3_16.out
  have Ah0_g0 : Hid (Apart vh0 vg0) := Apart.of_own ho Og0_16.out
  have AW17 : Hid (Below w.heap.size w w17) := AW16.out.trans (hb.mono AW16.out.size)
  have BW17 : Hid (Below HB ((w.alloc (.cells #[.int .i64 n0, .string s0, .string r0] 26)).alloc (.cells #[.int .i64 n2, .string s2, .string r2] 26)) w17) := BW16.out.trans (hb.mono (by have := BW16.out.size; have := HBS.out; omega))
  have Ow0_17 := Lib.hid (Ow0_16.out.below hb (Nat.le_refl _))
  clear Ow0_16
  have Ox1_17 := Lib.hid (Ox1_16.out.below hb (Nat.le_refl _))
  clear Ox1_16
  have Ox3_17 := Lib.hid (Ox3_16.out.below hb (Nat.le_refl _))
  clear Ox3_16
  have Og0_17 := Lib.hid (Og0_16.out.below hb (Nat.le_refl _))
  clear Og0_16
  clear AW16 BW16
  have Oh0_17 := Lib.hid ho
  clear ho hb
  go_wp2_with fail
  refine (eqIntS_same _ _ M0 _ (OwnI.reads Oh0_17.out) (OwnI.reads Ow0_17.out) (by have := HBM0.out; omega)).mono ?_
  rintro e w18 ⟨rfl, hb⟩
  have AW18 : Hid (Below w.heap.size w w18) := AW17.out.trans (hb.mono AW17.out.size)
  have BW18 : Hid (Below HB ((w.alloc (.cells #[.int .i64 n0, .string s0, .string r0] 26)).alloc (.cells #[.int .i64 n2, .string s2, .string r2] 26)) w18) := BW17.out.trans (hb.mono (by have := BW17.out.size; have := HBS.out; omega))
  have Ow0_18 := Lib.hid (Ow0_17.out.below hb (Nat.le_refl _))
  clear Ow0_17
  have Ox1_18 := Lib.hid (Ox1_17.out.below hb (Nat.le_refl _))
  clear Ox1_17
  have Ox3_18 := Lib.hid (Ox3_17.out.below hb (Nat.le_refl _))
  clear Ox3_17
  have Og0_18 := Lib.hid (Og0_17.out.below hb (Nat.le_refl _))
  clear Og0_17
  have Oh0_18 := Lib.hid (Oh0_17.out.below hb (Nat.le_refl _))
  clear Oh0_17
  clear AW17 BW17
  clear hb
  go_wp2_with fail
  refine (heldIntS_at _ M0.length 1 C3 _ (OwnI.reads Og0_18.out) (by omega) (by have := HBM0.out; omega) (by omega) HC3.out).mono ?_
  rintro e w19 ⟨rfl, hb⟩
  have AW19 : Hid (Below w.heap.size w w19) := AW18.out.trans (hb.mono AW18.out.size)
  have BW19 : Hid (Below HB ((w.alloc (.cells #[.int .i64 n0, .string s0, .string r0] 26)).alloc (.cells #[.int .i64 n2, .string s2, .string r2] 26)) w19) := BW18.out.trans (hb.mono (by have := BW18.out.size; have := HBS.out; omega))
  have Ow0_19 := Lib.hid (Ow0_18.out.below hb (Nat.le_refl _))
  clear Ow0_18
  have Ox1_19 := Lib.hid (Ox1_18.out.below hb (Nat.le_refl _))
  clear Ox1_18
  have Ox3_19 := Lib.hid (Ox3_18.out.below hb (Nat.le_refl _))
  clear Ox3_18
  have Og0_19 := Lib.hid (Og0_18.out.below hb (Nat.le_refl _))
  clear Og0_18
  have Oh0_19 := Lib.hid (Oh0_18.out.below hb (Nat.le_refl _))
  clear Oh0_18
  clear AW18 BW18
  clear hb
  go_wp2
  go_ret
  exact ⟨rfl, AW19.out⟩

theorem walk (n0 : Int) (s0 r0 : ByteArray) (a1 : Option Addr) (n1 c1 : Nat) (z1 : List Int) (n2 : Int) (s2 r2 : ByteArray) (a3 : Option Addr) (n3 c3 : Nat) (z3 : List Int) (w : World) (zn0 : (Lit.int .i64 n0).wf = true) (zs0 : s0.size ≤ maxLen) (zr0 : r0.size ≤ maxLen) (w1 : row.IsRow .i64 w a1 n1 c1 z1) (zn2 : (Lit.int .i64 n2).wf = true) (zs2 : s2.size ≤ maxLen) (zr2 : r2.size ≤ maxLen) (w3 : row.IsRow .i64 w a3 n3 c3 z3) :
    Calls Tryd.prog 8 #[.agg #[.int .i64 n0, .string s0, .string r0], .slice a1 n1 c1, .agg #[.int .i64 n2, .string s2, .string r2], .slice a3 n3 c3] w fun e w' => e = .returned (.bool true) ∧ Below w.heap.size w w' := by
  obtain ⟨l1, hl1, hr1⟩ := w1.reads
  obtain ⟨l3, hl3, hr3⟩ := w3.reads
  exact core n0 s0 r0 a1 n1 c1 l1 n2 s2 r2 a3 n3 c3 l3 _ _ w zs0 zr0 hl1 hr1 zs2 zr2 hl3 hr3 (pairL.len0 n0 s0 r0 l1 n2 s2 r2 l3) (pairL.specE n0 s0 r0 l1 n2 s2 r2 l3 zn0  zn2 ) (pairL.implE n0 s0 r0 l1 n2 s2 r2 l3 zn0  zn2 )
end Go.Proofs.YtpjfpiohhgoeaaaDoor.fnExactPairListsW
