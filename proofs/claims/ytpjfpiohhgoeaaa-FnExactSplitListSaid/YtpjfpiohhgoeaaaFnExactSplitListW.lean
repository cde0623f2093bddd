/- The walk of FnExactSplitList, over the contracts of the two functions. Printed by exactgen.py of this work. -/
import Derived.Test.YtpjfpiohhgoeaaaRows
import Derived.Test.YtpjfpiohhgoeaaaLib
import Derived.Test.YtpjfpiohhgoeaaaSl
import Derived.Test.YtpjfpiohhgoeaaaStr
import Derived.Test.YtpjfpiohhgoeaaaJoin
import Derived.Test.YtpjfpiohhgoeaaaRow
namespace Go.Proofs.Ytpjfpiohhgoeaaa.fnExactSplitListW
open Go.ChangeShapes Go.WideShapes Go.ChangeAt Go.RowKit
open Go.Proofs.Ytpjfpiohhgoeaaa.lib Go.Proofs.Ytpjfpiohhgoeaaa.st Go.Proofs.Ytpjfpiohhgoeaaa.sl
set_option linter.unusedVariables false

set_option maxHeartbeats 1600000 in
theorem core (n0 : Int) (s0 r0 : ByteArray) (a1 : Option Addr) (n1 c1 : Nat) (l1 : List Int) (M0 : List Int) (M1 : List Int) (w : World) (zs0 : s0.size ≤ maxLen) (zr0 : r0.size ≤ maxLen) (hl1 : l1.length = n1) (hr1 : Reads w (.slice a1 n1 c1) l1)
    (hM0 : l1.length ≤ 1048576 → s0.size + r0.size ≤ 1048576 → M0.length ≤ 4194304)
    (hM1 : l1.length ≤ 1048576 → s0.size + r0.size ≤ 1048576 → M1.length ≤ 4194304)
    (hspec : l1.length ≤ 1048576 → s0.size + r0.size ≤ 1048576 → ∀ (x1 : Value) (w : World), Reads w x1 l1 → Calls Try.prog 17 #[.agg #[.int .i64 n0, .string s0, .string r0], x1] w fun e w' => ∃ v0 v1, e = .returned (.tuple #[v0, v1]) ∧ Two 3 w' w.heap.size v0 v1 M0 M1 ∧ Below w.heap.size w w')
    (himpl : l1.length ≤ 1048576 → s0.size + r0.size ≤ 1048576 → ∀ (x1 : Value) (w : World), Reads w x1 l1 → Calls Try.prog 18 #[.agg #[.int .i64 n0, .string s0, .string r0], x1] w fun e w' => ∃ v0 v1, e = .returned (.tuple #[v0, v1]) ∧ Two 3 w' w.heap.size v0 v1 M0 M1 ∧ Below w.heap.size w w') :
    Calls Try.prog 5 #[.agg #[.int .i64 n0, .string s0, .string r0], .slice a1 n1 c1] w fun e w' => e = .returned (.bool true) ∧ Below w.heap.size w w' := by
  unfold maxLen at zs0 zr0
  have HL1 := Lib.hid hl1
  have RD1 := Lib.hid hr1
  clear hl1 hr1
  have HM0 := Lib.hid hM0
  clear hM0
  have HM1 := Lib.hid hM1
  clear hM1
  have HSPEC := Lib.hid hspec
  have HIMPL := Lib.hid himpl
  clear hspec himpl
  obtain ⟨HB, hHB⟩ : ∃ HB, HB = w.heap.size + 1 := ⟨_, rfl⟩
  have BX0 : Hid (Box 25 (w.alloc (.cells #[.int .i64 n0, .string s0, .string r0] 25)) (w.heap.size) n0 s0 r0) := Box.new 25 w (w.heap.size) (by simp) n0 s0 r0
  have AW0 : Hid (Below w.heap.size w (w.alloc (.cells #[.int .i64 n0, .string s0, .string r0] 25))) := (Below.refl w.heap.size w).alloc (Nat.le_refl _) _
  have BW0 : Hid (Below HB (w.alloc (.cells #[.int .i64 n0, .string s0, .string r0] 25)) (w.alloc (.cells #[.int .i64 n0, .string s0, .string r0] 25))) := Below.refl _ _
  have HBS : Hid ((w.alloc (.cells #[.int .i64 n0, .string s0, .string r0] 25)).heap.size = HB) := by rw [hHB]; simp [Hid]
  have HHB := Lib.hid hHB
  clear hHB
  by_cases g1 : 1048576 < n1
  · go_enter Try.func5, Try.ntmps5
    go_wp2
    go_ret
    exact ⟨rfl, AW0.out⟩
  obtain ⟨left1, hlf1⟩ : ∃ q, q = szL s0 r0 1048576 := ⟨_, rfl⟩
  have hle1 : left1 ≤ 1048576 := by have := szL_le s0 r0 1048576 (by omega); omega
  have HLF1 := Lib.hid hlf1
  clear hlf1
  go_enter Try.func5, Try.ntmps5
  obtain ⟨b00, b01, b02⟩ := (BX0.out.below BW0.out (by have := HHB.out; omega)).c
  go_wp2_with fail
  clear b00 b01 b02
  refine (szStructure_any _ _ _ _ _ (by omega) (by omega) (by omega) (by omega)).mono ?_
  rintro e w1 ⟨rfl, hb⟩
  rw [← HLF1.out]
  have hb := hb.mono (show HB ≤ _ by have := HBS.out; omega)
  have AW1 : Hid (Below w.heap.size w w1) := AW0.out.trans (hb.mono (by have := HHB.out; omega))
  have BW1 : Hid (Below HB (w.alloc (.cells #[.int .i64 n0, .string s0, .string r0] 25)) w1) := hb
  clear hb AW0 BW0
  by_cases gl1 : left1 < 0
  · go_wp2
    go_ret
    exact ⟨rfl, AW1.out⟩
  have hbl1 : l1.length ≤ 1048576 := by have := HL1.out; omega
  have hsum1 := szL_sum s0 r0 1048576 (by rw [← HLF1.out]; omega) (by omega)
  rw [← HLF1.out] at hsum1
  have hbs : s0.size + r0.size ≤ 1048576 := by omega
  have HBU : Hid (l1.length ≤ 1048576 ∧ s0.size + r0.size ≤ 1048576) := ⟨hbl1, hbs⟩
  clear hbl1 hbs hsum1
  have HBM0 := Lib.hid (HM0.out HBU.out.1 HBU.out.2)
  have HBM1 := Lib.hid (HM1.out HBU.out.1 HBU.out.2)
  obtain ⟨b00, b01, b02⟩ := (BX0.out.below BW1.out (by have := HHB.out; omega)).c
  go_wp2_with fail
  clear b00 b01 b02
  refine (toStructure_any _ _ _ _).mono ?_
  rintro e w2 ⟨rfl, hb⟩
  have AW2 : Hid (Below w.heap.size w w2) := AW1.out.trans (hb.mono AW1.out.size)
  have BW2 : Hid (Below HB (w.alloc (.cells #[.int .i64 n0, .string s0, .string r0] 25)) w2) := BW1.out.trans (hb.mono (by have := BW1.out.size; have := HBS.out; omega))
  clear AW1 BW1
  clear hb
  go_wp2_with fail
  refine (toIntS_any _ l1 _ (RD1.out.below AW2.out (Nat.le_refl _)) (by have := HBU.out; omega)).mono ?_
  rintro e w3 ⟨vt1, rfl, ho, hb⟩
  have AW3 : Hid (Below w.heap.size w w3) := AW2.out.trans (hb.mono AW2.out.size)
  have BW3 : Hid (Below HB (w.alloc (.cells #[.int .i64 n0, .string s0, .string r0] 25)) w3) := BW2.out.trans (hb.mono (by have := BW2.out.size; have := HBS.out; omega))
  clear AW2 BW2
  have Ot1_3 := Lib.hid ho
  clear ho hb
  go_wp2_with fail
  refine (HSPEC.out HBU.out.1 HBU.out.2 _ _ (OwnI.reads Ot1_3.out)).mono ?_
  rintro e w4 ⟨vw0, vw1, rfl, ⟨ho1, ho2, hap⟩, hb⟩
  have Aw0_t1 : Hid (Apart vw0 vt1) := Apart.of_own ho1 Ot1_3.out
  have Aw1_t1 : Hid (Apart vw1 vt1) := Apart.of_own ho2 Ot1_3.out
  have Aw0_w1 := Lib.hid hap
  have AW4 : Hid (Below w.heap.size w w4) := AW3.out.trans (hb.mono AW3.out.size)
  have BW4 : Hid (Below HB (w.alloc (.cells #[.int .i64 n0, .string s0, .string r0] 25)) w4) := BW3.out.trans (hb.mono (by have := BW3.out.size; have := HBS.out; omega))
  have Ot1_4 := Lib.hid (Ot1_3.out.below hb (Nat.le_refl _))
  clear Ot1_3
  clear AW3 BW3
  have Ow0_4 := Lib.hid ho1
  have Ow1_4 := Lib.hid ho2
  clear ho1 ho2 hap hb
  go_wp2_with fail
  refine (toIntS_any _ l1 _ (RD1.out.below AW4.out (Nat.le_refl _)) (by have := HBU.out; omega)).mono ?_
  rintro e w5 ⟨vx1, rfl, ho, hb⟩
  have Obasex1 : Hid (HB ≤ w4.heap.size) := by have h1 := BW4.out.size; have h2 := HBS.out; unfold Hid; omega
  have Ax1_t1 : Hid (Apart vx1 vt1) := Apart.of_own ho Ot1_4.out
  have Ax1_w0 : Hid (Apart vx1 vw0) := Apart.of_own ho Ow0_4.out
  have Ax1_w1 : Hid (Apart vx1 vw1) := Apart.of_own ho Ow1_4.out
  have AW5 : Hid (Below w.heap.size w w5) := AW4.out.trans (hb.mono AW4.out.size)
  have BW5 : Hid (Below HB (w.alloc (.cells #[.int .i64 n0, .string s0, .string r0] 25)) w5) := BW4.out.trans (hb.mono (by have := BW4.out.size; have := HBS.out; omega))
  have Ot1_5 := Lib.hid (Ot1_4.out.below hb (Nat.le_refl _))
  clear Ot1_4
  have Ow0_5 := Lib.hid (Ow0_4.out.below hb (Nat.le_refl _))
  clear Ow0_4
  have Ow1_5 := Lib.hid (Ow1_4.out.below hb (Nat.le_refl _))
  clear Ow1_4
  clear AW4 BW4
  have Ox1_5 := Lib.hid ho
  clear ho hb
  obtain ⟨b00, b01, b02⟩ := (BX0.out.below BW5.out (by have := HHB.out; omega)).c
  go_wp2_with fail
  clear b00 b01 b02
  refine (toStructure_any _ _ _ _).mono ?_
  rintro e w6 ⟨rfl, hb⟩
  have AW6 : Hid (Below w.heap.size w w6) := AW5.out.trans (hb.mono AW5.out.size)
  have BW6 : Hid (Below HB (w.alloc (.cells #[.int .i64 n0, .string s0, .string r0] 25)) w6) := BW5.out.trans (hb.mono (by have := BW5.out.size; have := HBS.out; omega))
  have Ot1_6 := Lib.hid (Ot1_5.out.below hb (Nat.le_refl _))
  clear Ot1_5
  have Ow0_6 := Lib.hid (Ow0_5.out.below hb (Nat.le_refl _))
  clear Ow0_5
  have Ow1_6 := Lib.hid (Ow1_5.out.below hb (Nat.le_refl _))
  clear Ow1_5
  have Ox1_6 := Lib.hid (Ox1_5.out.below hb (Nat.le_refl _))
  clear Ox1_5
  clear AW5 BW5
  clear hb
  go_wp2_with fail
  refine (HIMPL.out HBU.out.1 HBU.out.2 _ _ (OwnI.reads Ox1_6.out)).mono ?_
  rintro e w7 ⟨vg0, vg1, rfl, ⟨ho1, ho2, hap⟩, hb⟩
  have Obaseg0 : Hid (HB ≤ w6.heap.size) := by have h1 := BW6.out.size; have h2 := HBS.out; unfold Hid; omega
  have Obaseg1 : Hid (HB ≤ w6.heap.size) := by have h1 := BW6.out.size; have h2 := HBS.out; unfold Hid; omega
  have Ag0_t1 : Hid (Apart vg0 vt1) := Apart.of_own ho1 Ot1_6.out
  have Ag0_w0 : Hid (Apart vg0 vw0) := Apart.of_own ho1 Ow0_6.out
  have Ag0_w1 : Hid (Apart vg0 vw1) := Apart.of_own ho1 Ow1_6.out
  have Ag0_x1 : Hid (Apart vg0 vx1) := Apart.of_own ho1 Ox1_6.out
  have Ag1_t1 : Hid (Apart vg1 vt1) := Apart.of_own ho2 Ot1_6.out
  have Ag1_w0 : Hid (Apart vg1 vw0) := Apart.of_own ho2 Ow0_6.out
  have Ag1_w1 : Hid (Apart vg1 vw1) := Apart.of_own ho2 Ow1_6.out
  have Ag1_x1 : Hid (Apart vg1 vx1) := Apart.of_own ho2 Ox1_6.out
  have Ag0_g1 := Lib.hid hap
  have AW7 : Hid (Below w.heap.size w w7) := AW6.out.trans (hb.mono AW6.out.size)
  have BW7 : Hid (Below HB (w.alloc (.cells #[.int .i64 n0, .string s0, .string r0] 25)) w7) := BW6.out.trans (hb.mono (by have := BW6.out.size; have := HBS.out; omega))
  have Ot1_7 := Lib.hid (Ot1_6.out.below hb (Nat.le_refl _))
  clear Ot1_6
  have Ow0_7 := Lib.hid (Ow0_6.out.below hb (Nat.le_refl _))
  clear Ow0_6
  have Ow1_7 := Lib.hid (Ow1_6.out.below hb (Nat.le_refl _))
  clear Ow1_6
  have Ox1_7 := Lib.hid (Ox1_6.out.below hb (Nat.le_refl _))
  clear Ox1_6
  clear AW6 BW6
  have Og0_7 := Lib.hid ho1
  have Og1_7 := Lib.hid ho2
  clear ho1 ho2 hap hb
  go_wp2_with fail
  refine (eqIntS_same _ _ M0 _ (OwnI.reads Og0_7.out) (OwnI.reads Ow0_7.out) (by have := HBM0.out; omega)).mono ?_
  rintro e w8 ⟨rfl, hb⟩
  have AW8 : Hid (Below w.heap.size w w8) := AW7.out.trans (hb.mono AW7.out.size)
  have BW8 : Hid (Below HB (w.alloc (.cells #[.int .i64 n0, .string s0, .string r0] 25)) w8) := BW7.out.trans (hb.mono (by have := BW7.out.size; have := HBS.out; omega))
  have Ot1_8 := Lib.hid (Ot1_7.out.below hb (Nat.le_refl _))
  clear Ot1_7
  have Ow0_8 := Lib.hid (Ow0_7.out.below hb (Nat.le_refl _))
  clear Ow0_7
  have Ow1_8 := Lib.hid (Ow1_7.out.below hb (Nat.le_refl _))
  clear Ow1_7
  have Ox1_8 := Lib.hid (Ox1_7.out.below hb (Nat.le_refl _))
  clear Ox1_7
  have Og0_8 := Lib.hid (Og0_7.out.below hb (Nat.le_refl _))
  clear Og0_7
  have Og1_8 := Lib.hid (Og1_7.out.below hb (Nat.le_refl _))
  clear Og1_7
  clear AW7 BW7
  clear hb
  go_wp2_with fail
  refine (eqIntS_same _ _ M1 _ (OwnI.reads Og1_8.out) (OwnI.reads Ow1_8.out) (by have := HBM1.out; omega)).mono ?_
  rintro e w9 ⟨rfl, hb⟩
  have AW9 : Hid (Below w.heap.size w w9) := AW8.out.trans (hb.mono AW8.out.size)
  have BW9 : Hid (Below HB (w.alloc (.cells #[.int .i64 n0, .string s0, .string r0] 25)) w9) := BW8.out.trans (hb.mono (by have := BW8.out.size; have := HBS.out; omega))
  have Ot1_9 := Lib.hid (Ot1_8.out.below hb (Nat.le_refl _))
  clear Ot1_8
  have Ow0_9 := Lib.hid (Ow0_8.out.below hb (Nat.le_refl _))
  clear Ow0_8
  have Ow1_9 := Lib.hid (Ow1_8.out.below hb (Nat.le_refl _))
  clear Ow1_8
  have Ox1_9 := Lib.hid (Ox1_8.out.below hb (Nat.le_refl _))
  clear Ox1_8
  have Og0_9 := Lib.hid (Og0_8.out.below hb (Nat.le_refl _))
  clear Og0_8
  have Og1_9 := Lib.hid (Og1_8.out.below hb (Nat.le_refl _))
  clear Og1_8
  clear AW8 BW8
  clear hb
  go_wp2_with fail
  refine (toIntS_any _ l1 _ (RD1.out.below AW9.out (Nat.le_refl _)) (by have := HBU.out; omega)).mono ?_
  rintro e w10 ⟨vt2, rfl, ho, hb⟩
  have At2_t1 : Hid (Apart vt2 vt1) := Apart.of_own ho Ot1_9.out
  have At2_w0 : Hid (Apart vt2 vw0) := Apart.of_own ho Ow0_9.out
  have At2_w1 : Hid (Apart vt2 vw1) := Apart.of_own ho Ow1_9.out
  have At2_x1 : Hid (Apart vt2 vx1) := Apart.of_own ho Ox1_9.out
  have At2_g0 : Hid (Apart vt2 vg0) := Apart.of_own ho Og0_9.out
  have At2_g1 : Hid (Apart vt2 vg1) := Apart.of_own ho Og1_9.out
  have AW10 : Hid (Below w.heap.size w w10) := AW9.out.trans (hb.mono AW9.out.size)
  have BW10 : Hid (Below HB (w.alloc (.cells #[.int .i64 n0, .string s0, .string r0] 25)) w10) := BW9.out.trans (hb.mono (by have := BW9.out.size; have := HBS.out; omega))
  have Ot1_10 := Lib.hid (Ot1_9.out.below hb (Nat.le_refl _))
  clear Ot1_9
  have Ow0_10 := Lib.hid (Ow0_9.out.below hb (Nat.le_refl _))
  clear Ow0_9
  have Ow1_10 := Lib.hid (Ow1_9.out.below hb (Nat.le_refl _))
  clear Ow1_9
  have Ox1_10 := Lib.hid (Ox1_9.out.below hb (Nat.le_refl _))
  clear Ox1_9
  have Og0_10 := Lib.hid (Og0_9.out.below hb (Nat.le_refl _))
  clear Og0_9
  have Og1_10 := Lib.hid (Og1_9.out.below hb (Nat.le_refl _))
  clear Og1_9
  clear AW9 BW9
  have Ot2_10 := Lib.hid ho
  clear ho hb
  go_wp2_with fail
  refine (eqIntS_same _ _ l1 _ (OwnI.reads Ox1_10.out) (OwnI.reads Ot2_10.out) (by have := HBU.out; omega)).mono ?_
  rintro e w11 ⟨rfl, hb⟩
  have AW11 : Hid (Below w.heap.size w w11) := AW10.out.trans (hb.mono AW10.out.size)
  have BW11 : Hid (Below HB (w.alloc (.cells #[.int .i64 n0, .string s0, .string r0] 25)) w11) := BW10.out.trans (hb.mono (by have := BW10.out.size; have := HBS.out; omega))
  have Ot1_11 := Lib.hid (Ot1_10.out.below hb (Nat.le_refl _))
  clear Ot1_10
  have Ow0_11 := Lib.hid (Ow0_10.out.below hb (Nat.le_refl _))
  clear Ow0_10
  have Ow1_11 := Lib.hid (Ow1_10.out.below hb (Nat.le_refl _))
  clear Ow1_10
  have Ox1_11 := Lib.hid (Ox1_10.out.below hb (Nat.le_refl _))
  clear Ox1_10
  have Og0_11 := Lib.hid (Og0_10.out.below hb (Nat.le_refl _))
  clear Og0_10
  have Og1_11 := Lib.hid (Og1_10.out.below hb (Nat.le_refl _))
  clear Og1_10
  have Ot2_11 := Lib.hid (Ot2_10.out.below hb (Nat.le_refl _))
  clear Ot2_10
  clear AW10 BW10
  clear hb
  clear Ot2_11
  obtain ⟨C1, hC1⟩ : ∃ q : Int, q = 1 + (l1.length : Int) := ⟨_, rfl⟩
  have pC1 : 0 < C1 ∧ C1 ≤ 4194305 := by have := HBU.out; omega
  have HC1 := Lib.hid hC1
  clear hC1
  go_wp2_with fail
  refine (markIntS_at _ _ l1 1 C1 _ Ox1_11.out (by omega) (by have := HBU.out; omega) (by omega) HC1.out).mono ?_
  rintro e w12 ⟨rfl, ho, hg⟩
  have hb : Below HB w11 w12 := below_of_grown hg (by have := BW11.out.size; have := HBS.out; omega) (fun q h => by have := (World.ownsRow.lt Ox1_11.out q h).1; have := Obasex1.out; omega)
  have AW12 : Hid (Below w.heap.size w w12) := AW11.out.trans (hb.mono (by have := HHB.out; omega))
  have BW12 : Hid (Below HB (w.alloc (.cells #[.int .i64 n0, .string s0, .string r0] 25)) w12) := BW11.out.trans hb
  have Ot1_12 := Lib.hid (OwnI.keepMark Ot1_11.out hg Ax1_t1.out.symm)
  clear Ot1_11
  have Ow0_12 := Lib.hid (OwnI.keepMark Ow0_11.out hg Ax1_w0.out.symm)
  clear Ow0_11
  have Ow1_12 := Lib.hid (OwnI.keepMark Ow1_11.out hg Ax1_w1.out.symm)
  clear Ow1_11
  have Og0_12 := Lib.hid (OwnI.keepMark Og0_11.out hg Ag0_x1.out)
  clear Og0_11
  have Og1_12 := Lib.hid (OwnI.keepMark Og1_11.out hg Ag1_x1.out)
  clear Og1_11
  have Ox1_12 := Lib.hid ho
  clear Ox1_11 ho hg hb AW11 BW11
  go_wp2_with fail
  refine (eqIntS_same _ _ M0 _ (OwnI.reads Og0_12.out) (OwnI.reads Ow0_12.out) (by have := HBM0.out; omega)).mono ?_
  rintro e w13 ⟨rfl, hb⟩
  have AW13 : Hid (Below w.heap.size w w13) := AW12.out.trans (hb.mono AW12.out.size)
  have BW13 : Hid (Below HB (w.alloc (.cells #[.int .i64 n0, .string s0, .string r0] 25)) w13) := BW12.out.trans (hb.mono (by have := BW12.out.size; have := HBS.out; omega))
  have Ot1_13 := Lib.hid (Ot1_12.out.below hb (Nat.le_refl _))
  clear Ot1_12
  have Ow0_13 := Lib.hid (Ow0_12.out.below hb (Nat.le_refl _))
  clear Ow0_12
  have Ow1_13 := Lib.hid (Ow1_12.out.below hb (Nat.le_refl _))
  clear Ow1_12
  have Ox1_13 := Lib.hid (Ox1_12.out.below hb (Nat.le_refl _))
  clear Ox1_12
  have Og0_13 := Lib.hid (Og0_12.out.below hb (Nat.le_refl _))
  clear Og0_12
  have Og1_13 := Lib.hid (Og1_12.out.below hb (Nat.le_refl _))
  clear Og1_12
  clear AW12 BW12
  clear hb
  go_wp2_with fail
  refine (eqIntS_same _ _ M1 _ (OwnI.reads Og1_13.out) (OwnI.reads Ow1_13.out) (by have := HBM1.out; omega)).mono ?_
  rintro e w14 ⟨rfl, hb⟩
  have AW14 : Hid (Below w.heap.size w w14) := AW13.out.trans (hb.mono AW13.out.size)
  have BW14 : Hid (Below HB (w.alloc (.cells #[.int .i64 n0, .string s0, .string r0] 25)) w14) := BW13.out.trans (hb.mono (by have := BW13.out.size; have := HBS.out; omega))
  have Ot1_14 := Lib.hid (Ot1_13.out.below hb (Nat.le_refl _))
  clear Ot1_13
  have Ow0_14 := Lib.hid (Ow0_13.out.below hb (Nat.le_refl _))
  clear Ow0_13
  have Ow1_14 := Lib.hid (Ow1_13.out.below hb (Nat.le_refl _))
  clear Ow1_13
  have Ox1_14 := Lib.hid (Ox1_13.out.below hb (Nat.le_refl _))
  clear Ox1_13
  have Og0_14 := Lib.hid (Og0_13.out.below hb (Nat.le_refl _))
  clear Og0_13
  have Og1_14 := Lib.hid (Og1_13.out.below hb (Nat.le_refl _))
  clear Og1_13
  clear AW13 BW13
  clear hb
  obtain ⟨C2, hC2⟩ : ∃ q : Int, q = 1 + (M0.length : Int) := ⟨_, rfl⟩
  have pC2 : 0 < C2 ∧ C2 ≤ 4194305 := by have := HBM0.out; omega
  have HC2 := Lib.hid hC2
  clear hC2
  go_wp2_with fail
  refine (markIntS_at _ _ M0 1 C2 _ Og0_14.out (by omega) (by have := HBM0.out; omega) (by omega) HC2.out).mono ?_
  rintro e w15 ⟨rfl, ho, hg⟩
  have hb : Below HB w14 w15 := below_of_grown hg (by have := BW14.out.size; have := HBS.out; omega) (fun q h => by have := (World.ownsRow.lt Og0_14.out q h).1; have := Obaseg0.out; omega)
  have AW15 : Hid (Below w.heap.size w w15) := AW14.out.trans (hb.mono (by have := HHB.out; omega))
  have BW15 : Hid (Below HB (w.alloc (.cells #[.int .i64 n0, .string s0, .string r0] 25)) w15) := BW14.out.trans hb
  have Ot1_15 := Lib.hid (OwnI.keepMark Ot1_14.out hg Ag0_t1.out.symm)
  clear Ot1_14
  have Ow0_15 := Lib.hid (OwnI.keepMark Ow0_14.out hg Ag0_w0.out.symm)
  clear Ow0_14
  have Ow1_15 := Lib.hid (OwnI.keepMark Ow1_14.out hg Ag0_w1.out.symm)
  clear Ow1_14
  have Ox1_15 := Lib.hid (OwnI.keepMark Ox1_14.out hg Ag0_x1.out.symm)
  clear Ox1_14
  have Og1_15 := Lib.hid (OwnI.keepMark Og1_14.out hg Ag0_g1.out.symm)
  clear Og1_14
  have Og0_15 := Lib.hid ho
  clear Og0_14 ho hg hb AW14 BW14
  obtain ⟨C3, hC3⟩ : ∃ q : Int, q = C2 + (M1.length : Int) := ⟨_, rfl⟩
  have pC3 : 0 < C3 ∧ C3 ≤ 8388609 := by have := HBM1.out; omega
  have HC3 := Lib.hid hC3
  clear hC3
  go_wp2_with fail
  refine (markIntS_at _ _ M1 C2 C3 _ Og1_15.out (by omega) (by have := HBM1.out; omega) (by omega) HC3.out).mono ?_
  rintro e w16 ⟨rfl, ho, hg⟩
  have hb : Below HB w15 w16 := below_of_grown hg (by have := BW15.out.size; have := HBS.out; omega) (fun q h => by have := (World.ownsRow.lt Og1_15.out q h).1; have := Obaseg1.out; omega)
  have AW16 : Hid (Below w.heap.size w w16) := AW15.out.trans (hb.mono (by have := HHB.out; omega))
  have BW16 : Hid (Below HB (w.alloc (.cells #[.int .i64 n0, .string s0, .string r0] 25)) w16) := BW15.out.trans hb
  have Ot1_16 := Lib.hid (OwnI.keepMark Ot1_15.out hg Ag1_t1.out.symm)
  clear Ot1_15
  have Ow0_16 := Lib.hid (OwnI.keepMark Ow0_15.out hg Ag1_w0.out.symm)
  clear Ow0_15
  have Ow1_16 := Lib.hid (OwnI.keepMark Ow1_15.out hg Ag1_w1.out.symm)
  clear Ow1_15
  have Ox1_16 := Lib.hid (OwnI.keepMark Ox1_15.out hg Ag1_x1.out.symm)
  clear Ox1_15
  have Og0_16 := Lib.hid (OwnI.keepMark Og0_15.out hg Ag0_g1.out)
  clear Og0_15
  have Og1_16 := Lib.hid ho
  clear Og1_15 ho hg hb AW15 BW15
  go_wp2_with fail
  refine (heldIntS_at _ M0.length 1 C2 _ (OwnI.reads Og0_16.out) (by omega) (by have := HBM0.out; omega) (by omega) HC2.out).mono ?_
  rintro e w17 ⟨rfl, hb⟩
  have AW17 : Hid (Below w.heap.size w w17) := AW16.out.trans (hb.mono AW16.out.size)
  have BW17 : Hid (Below HB (w.alloc (.cells #[.int .i64 n0, .string s0, .string r0] 25)) w17) := BW16.out.trans (hb.mono (by have := BW16.out.size; have := HBS.out; omega))
  have Ot1_17 := Lib.hid (Ot1_16.out.below hb (Nat.le_refl _))
  clear Ot1_16
  have Ow0_17 := Lib.hid (Ow0_16.out.below hb (Nat.le_refl _))
  clear Ow0_16
  have Ow1_17 := Lib.hid (Ow1_16.out.below hb (Nat.le_refl _))
  clear Ow1_16
  have Ox1_17 := Lib.hid (Ox1_16.out.below hb (Nat.le_refl _))
  clear Ox1_16
  have Og0_17 := Lib.hid (Og0_16.out.below hb (Nat.le_refl _))
  clear Og0_16
  have Og1_17 := Lib.hid (Og1_16.out.below hb (Nat.le_refl _))
  clear Og1_16
  clear AW16 BW16
  clear hb
  go_wp2_with fail
  refine (heldIntS_at _ M1.length C2 C3 _ (OwnI.reads Og1_17.out) (by omega) (by have := HBM1.out; omega) (by omega) HC3.out).mono ?_
  rintro e w18 ⟨rfl, hb⟩
  have AW18 : Hid (Below w.heap.size w w18) := AW17.out.trans (hb.mono AW17.out.size)
  have BW18 : Hid (Below HB (w.alloc (.cells #[.int .i64 n0, .string s0, .string r0] 25)) w18) := BW17.out.trans (hb.mono (by have := BW17.out.size; have := HBS.out; omega))
  have Ot1_18 := Lib.hid (Ot1_17.out.below hb (Nat.le_refl _))
  clear Ot1_17
  have Ow0_18 := Lib.hid (Ow0_17.out.below hb (Nat.le_refl _))
  clear Ow0_17
  have Ow1_18 := Lib.hid (Ow1_17.out.below hb (Nat.le_refl _))
  clear Ow1_17
  have Ox1_18 := Lib.hid (Ox1_17.out.below hb (Nat.le_refl _))
  clear Ox1_17
  have Og0_18 := Lib.hid (Og0_17.out.below hb (Nat.le_refl _))
  clear Og0_17
  have Og1_18 := Lib.hid (Og1_17.out.below hb (Nat.le_refl _))
  clear Og1_17
  clear AW17 BW17
  clear hb
  obtain ⟨b00, b01, b02⟩ := (BX0.out.below BW18.out (by have := HHB.out; omega)).c
  go_wp2_with fail
  clear b00 b01 b02
  refine (toStructure_any _ _ _ _).mono ?_
  rintro e w19 ⟨rfl, hb⟩
  have AW19 : Hid (Below w.heap.size w w19) := AW18.out.trans (hb.mono AW18.out.size)
  have BW19 : Hid (Below HB (w.alloc (.cells #[.int .i64 n0, .string s0, .string r0] 25)) w19) := BW18.out.trans (hb.mono (by have := BW18.out.size; have := HBS.out; omega))
  have Ot1_19 := Lib.hid (Ot1_18.out.below hb (Nat.le_refl _))
  clear Ot1_18
  have Ow0_19 := Lib.hid (Ow0_18.out.below hb (Nat.le_refl _))
  clear Ow0_18
  have Ow1_19 := Lib.hid (Ow1_18.out.below hb (Nat.le_refl _))
  clear Ow1_18
  have Ox1_19 := Lib.hid (Ox1_18.out.below hb (Nat.le_refl _))
  clear Ox1_18
  have Og0_19 := Lib.hid (Og0_18.out.below hb (Nat.le_refl _))
  clear Og0_18
  have Og1_19 := Lib.hid (Og1_18.out.below hb (Nat.le_refl _))
  clear Og1_18
  clear AW18 BW18
  clear hb
  go_wp2_with fail
  refine (toIntS_any _ l1 _ (RD1.out.below AW19.out (Nat.le_refl _)) (by have := HBU.out; omega)).mono ?_
  rintro e w20 ⟨vt3, rfl, ho, hb⟩
  have At3_t1 : Hid (Apart vt3 vt1) := Apart.of_own ho Ot1_19.out
  have At3_w0 : Hid (Apart vt3 vw0) := Apart.of_own ho Ow0_19.out
  have At3_w1 : Hid (Apart vt3 vw1) := Apart.of_own ho Ow1_19.out
  have At3_x1 : Hid (Apart vt3 vx1) := Apart.of_own ho Ox1_19.out
  have At3_g0 : Hid (Apart vt3 vg0) := Apart.of_own ho Og0_19.out
  have At3_g1 : Hid (Apart vt3 vg1) := Apart.of_own ho Og1_19.out
  have AW20 : Hid (Below w.heap.size w w20) := AW19.out.trans (hb.mono AW19.out.size)
  have BW20 : Hid (Below HB (w.alloc (.cells #[.int .i64 n0, .string s0, .string r0] 25)) w20) := BW19.out.trans (hb.mono (by have := BW19.out.size; have := HBS.out; omega))
  have Ot1_20 := Lib.hid (Ot1_19.out.below hb (Nat.le_refl _))
  clear Ot1_19
  have Ow0_20 := Lib.hid (Ow0_19.out.below hb (Nat.le_refl _))
  clear Ow0_19
  have Ow1_20 := Lib.hid (Ow1_19.out.below hb (Nat.le_refl _))
  clear Ow1_19
  have Ox1_20 := Lib.hid (Ox1_19.out.below hb (Nat.le_refl _))
  clear Ox1_19
  have Og0_20 := Lib.hid (Og0_19.out.below hb (Nat.le_refl _))
  clear Og0_19
  have Og1_20 := Lib.hid (Og1_19.out.below hb (Nat.le_refl _))
  clear Og1_19
  clear AW19 BW19
  have Ot3_20 := Lib.hid ho
  clear ho hb
  go_wp2_with fail
  refine (HIMPL.out HBU.out.1 HBU.out.2 _ _ (OwnI.reads Ot3_20.out)).mono ?_
  rintro e w21 ⟨vh0, vh1, rfl, ⟨ho1, ho2, hap⟩, hb⟩
  have Ah0_t1 : Hid (Apart vh0 vt1) := Apart.of_own ho1 Ot1_20.out
  have Ah0_w0 : Hid (Apart vh0 vw0) := Apart.of_own ho1 Ow0_20.out
  have Ah0_w1 : Hid (Apart vh0 vw1) := Apart.of_own ho1 Ow1_20.out
  have Ah0_x1 : Hid (Apart vh0 vx1) := Apart.of_own ho1 Ox1_20.out
  have Ah0_g0 : Hid (Apart vh0 vg0) := Apart.of_own ho1 Og0_20.out
  have Ah0_g1 : Hid (Apart vh0 vg1) := Apart.of_own ho1 Og1_20.out
  have Ah0_t3 : Hid (Apart vh0 vt3) := Apart.of_own ho1 Ot3_20.out
  have Ah1_t1 : Hid (Apart vh1 vt1) := Apart.of_own ho2 Ot1_20.out
  have Ah1_w0 : Hid (Apart vh1 vw0) := Apart.of_own ho2 Ow0_20.out
  have Ah1_w1 : Hid (Apart vh1 vw1) := Apart.of_own ho2 Ow1_20.out
  have Ah1_x1 : Hid (Apart vh1 vx1) := Apart.of_own ho2 Ox1_20.out
  have Ah1_g0 : Hid (Apart vh1 vg0) := Apart.of_own ho2 Og0_20.out
  have Ah1_g1 : Hid (Apart vh1 vg1) := Apart.of_own ho2 Og1_20.out
  have Ah1_t3 : Hid (Apart vh1 vt3) := Apart.of_own ho2 Ot3_20.out
  have Ah0_h1 := Lib.hid hap
  have AW21 : Hid (Below w.heap.size w w21) := AW20.out.trans (hb.mono AW20.out.size)
  have BW21 : Hid (Below HB (w.alloc (.cells #[.int .i64 n0, .string s0, .string r0] 25)) w21) := BW20.out.trans (hb.mono (by have := BW20.out.size; have := HBS.out; omega))
  have Ot1_21 := Lib.hid (Ot1_20.out.below hb (Nat.le_refl _))
  clear Ot1_20
  have Ow0_21 := Lib.hid (Ow0_20.out.below hb (Nat.le_refl _))
  clear Ow0_20
  have Ow1_21 := Lib.hid (Ow1_20.out.below hb (Nat.le_refl _))
  clear Ow1_20
  have Ox1_21 := Lib.hid (Ox1_20.out.below hb (Nat.le_refl _))
  clear Ox1_20
  have Og0_21 := Lib.hid (Og0_20.out.below hb (Nat.le_refl _))
  clear Og0_20
  have Og1_21 := Lib.hid (Og1_20.out.below hb (Nat.le_refl _))
  clear Og1_20
  have Ot3_21 := Lib.hid (Ot3_20.out.below hb (Nat.le_refl _))
  clear Ot3_20
  clear AW20 BW20
  have Oh0_21 := Lib.hid ho1
  have Oh1_21 := Lib.hid ho2
  clear ho1 ho2 hap hb
  go_wp2_with fail
  refine (eqIntS_same _ _ M0 _ (OwnI.reads Oh0_21.out) (OwnI.reads Ow0_21.out) (by have := HBM0.out; omega)).mono ?_
  rintro e w22 ⟨rfl, hb⟩
  have AW22 : Hid (Below w.heap.size w w22) := AW21.out.trans (hb.mono AW21.out.size)
  have BW22 : Hid (Below HB (w.alloc (.cells #[.int .i64 n0, .string s0, .string r0] 25)) w22) := BW21.out.trans (hb.mono (by have := BW21.out.size; have := HBS.out; omega))
  have Ot1_22 := Lib.hid (Ot1_21.out.below hb (Nat.le_refl _))
  clear Ot1_21
  have Ow0_22 := Lib.hid (Ow0_21.out.below hb (Nat.le_refl _))
  clear Ow0_21
  have Ow1_22 := Lib.hid (Ow1_21.out.below hb (Nat.le_refl _))
  clear Ow1_21
  have Ox1_22 := Lib.hid (Ox1_21.out.below hb (Nat.le_refl _))
  clear Ox1_21
  have Og0_22 := Lib.hid (Og0_21.out.below hb (Nat.le_refl _))
  clear Og0_21
  have Og1_22 := Lib.hid (Og1_21.out.below hb (Nat.le_refl _))
  clear Og1_21
  have Ot3_22 := Lib.hid (Ot3_21.out.below hb (Nat.le_refl _))
  clear Ot3_21
  have Oh0_22 := Lib.hid (Oh0_21.out.below hb (Nat.le_refl _))
  clear Oh0_21
  have Oh1_22 := Lib.hid (Oh1_21.out.below hb (Nat.le_refl _))
  clear Oh1_21
  clear AW21 BW21
  clear hb
  go_wp2_with fail
  refine (eqIntS_same _ _ M1 _ (OwnI.reads Oh1_22.out) (OwnI.reads Ow1_22.out) (by have := HBM1.out; omega)).mono ?_
  rintro e w23 ⟨rfl, hb⟩
  have AW23 : Hid (Below w.heap.size w w23) := AW22.out.trans (hb.mono AW22.out.size)
  have BW23 : Hid (Below HB (w.alloc (.cells #[.int .i64 n0, .string s0, .string r0] 25)) w23) := BW22.out.trans (hb.mono (by have := BW22.out.size; have := HBS.out; omega))
  have Ot1_23 := Lib.hid (Ot1_22.out.below hb (Nat.le_refl _))
  clear Ot1_22
  have Ow0_23 := Lib.hid (Ow0_22.out.below hb (Nat.le_refl _))
  clear Ow0_22
  have Ow1_23 := Lib.hid (Ow1_22.out.below hb (Nat.le_refl _))
  clear Ow1_22
  have Ox1_23 := Lib.hid (Ox1_22.out.below hb (Nat.le_refl _))
  clear Ox1_22
  have Og0_23 := Lib.hid (Og0_22.out.below hb (Nat.le_refl _))
  clear Og0_22
  have Og1_23 := Lib.hid (Og1_22.out.below hb (Nat.le_refl _))
  clear Og1_22
  have Ot3_23 := Lib.hid (Ot3_22.out.below hb (Nat.le_refl _))
  clear Ot3_22
  have Oh0_23 := Lib.hid (Oh0_22.out.below hb (Nat.le_refl _))
  clear Oh0_22
  have Oh1_23 := Lib.hid (Oh1_22.out.below hb (Nat.le_refl _))
  clear Oh1_22
  clear AW22 BW22
  clear hb
  go_wp2_with fail
  refine (heldIntS_at _ M0.length 1 C2 _ (OwnI.reads Og0_23.out) (by omega) (by have := HBM0.out; omega) (by omega) HC2.out).mono ?_
  rintro e w24 ⟨rfl, hb⟩
  have AW24 : Hid (Below w.heap.size w w24) := AW23.out.trans (hb.mono AW23.out.size)
  have BW24 : Hid (Below HB (w.alloc (.cells #[.int .i64 n0, .string s0, .string r0] 25)) w24) := BW23.out.trans (hb.mono (by have := BW23.out.size; have := HBS.out; omega))
  have Ot1_24 := Lib.hid (Ot1_23.out.below hb (Nat.le_refl _))
  clear Ot1_23
  have Ow0_24 := Lib.hid (Ow0_23.out.below hb (Nat.le_refl _))
  clear Ow0_23
  have Ow1_24 := Lib.hid (Ow1_23.out.below hb (Nat.le_refl _))
  clear Ow1_23
  have Ox1_24 := Lib.hid (Ox1_23.out.below hb (Nat.le_refl _))
  clear Ox1_23
  have Og0_24 := Lib.hid (Og0_23.out.below hb (Nat.le_refl _))
  clear Og0_23
  have Og1_24 := Lib.hid (Og1_23.out.below hb (Nat.le_refl _))
  clear Og1_23
  have Ot3_24 := Lib.hid (Ot3_23.out.below hb (Nat.le_refl _))
  clear Ot3_23
  have Oh0_24 := Lib.hid (Oh0_23.out.below hb (Nat.le_refl _))
  clear Oh0_23
  have Oh1_24 := Lib.hid (Oh1_23.out.below hb (Nat.le_refl _))
  clear Oh1_23
  clear AW23 BW23
  clear hb
  go_wp2_with fail
  refine (heldIntS_at _ M1.length C2 C3 _ (OwnI.reads Og1_24.out) (by omega) (by have := HBM1.out; omega) (by omega) HC3.out).mono ?_
  rintro e w25 ⟨rfl, hb⟩
  have AW25 : Hid (Below w.heap.size w w25) := AW24.out.trans (hb.mono AW24.out.size)
  have BW25 : Hid (Below HB (w.alloc (.cells #[.int .i64 n0, .string s0, .string r0] 25)) w25) := BW24.out.trans (hb.mono (by have := BW24.out.size; have := HBS.out; omega))
  have Ot1_25 := Lib.hid (Ot1_24.out.below hb (Nat.le_refl _))
  clear Ot1_24
  have Ow0_25 := Lib.hid (Ow0_24.out.below hb (Nat.le_refl _))
  clear Ow0_24
  have Ow1_25 := Lib.hid (Ow1_24.out.below hb (Nat.le_refl _))
  clear Ow1_24
  have Ox1_25 := Lib.hid (Ox1_24.out.below hb (Nat.le_refl _))
  clear Ox1_24
  have Og0_25 := Lib.hid (Og0_24.out.below hb (Nat.le_refl _))
  clear Og0_24
  have Og1_25 := Lib.hid (Og1_24.out.below hb (Nat.le_refl _))
  clear Og1_24
  have Ot3_25 := Lib.hid (Ot3_24.out.below hb (Nat.le_refl _))
  clear Ot3_24
  have Oh0_25 := Lib.hid (Oh0_24.out.below hb (Nat.le_refl _))
  clear Oh0_24
  have Oh1_25 := Lib.hid (Oh1_24.out.below hb (Nat.le_refl _))
  clear Oh1_24
  clear AW24 BW24
  clear hb
  go_wp2
  go_ret
  exact ⟨rfl, AW25.out⟩

theorem walk (n0 : Int) (s0 r0 : ByteArray) (a1 : Option Addr) (n1 c1 : Nat) (z1 : List Int) (w : World) (zn0 : (Lit.int .i64 n0).wf = true) (zs0 : s0.size ≤ maxLen) (zr0 : r0.size ≤ maxLen) (w1 : row.IsRow .i64 w a1 n1 c1 z1) :
    Calls Try.prog 5 #[.agg #[.int .i64 n0, .string s0, .string r0], .slice a1 n1 c1] w fun e w' => e = .returned (.bool true) ∧ Below w.heap.size w w' := by
  obtain ⟨l1, hl1, hr1⟩ := w1.reads
  exact core n0 s0 r0 a1 n1 c1 l1 _ _ w zs0 zr0 hl1 hr1 (split.len0 n0 s0 r0 l1) (split.len1 n0 s0 r0 l1) (split.specE n0 s0 r0 l1 zn0 ) (split.implE n0 s0 r0 l1 zn0 )
end Go.Proofs.Ytpjfpiohhgoeaaa.fnExactSplitListW
