/- Formulas in the reference: where one ends. -/
import Derived.Test.YtefneihlgclkbaaFmP
namespace Go.Proofs.Ytefneihlgclkbaa.fme
set_option linter.unusedVariables false
set_option linter.unusedSimpArgs false
open Go.ChangeShapes Go.WideShapes Go.ChangeAt Go.RowKit
open Go.Proofs.Ytefneihlgclkbaa.lib Go.Proofs.Ytefneihlgclkbaa.fm Go.Proofs.Ytefneihlgclkbaa.fms Go.Proofs.Ytefneihlgclkbaa.fmp

theorem l2End_neg (f : ByteArray) (w : World) : Calls Try.prog 23 #[.string f, .int .i64 (-1)] w fun e w' => e = .returned (.int .i64 (-1)) ∧ w = w' := by
  go_enter Try.func23, Try.ntmps23
  go_wp2
  go_ret
  exact ⟨rfl, rfl⟩

set_option maxHeartbeats 3200000 in
theorem l2End_any (f : ByteArray) (hs : f.size ≤ 1048576) : ∀ (n : Nat) (x : Int) (k : Nat), x = k → k ≤ f.size → f.size - k ≤ n → ∀ w : World,
    Calls Try.prog 23 #[.string f, .int .i64 x] w fun e w' => e = .returned (.int .i64 (endI f k)) ∧ w = w' := by
  have top : ∀ w : World, Calls Try.prog 23 #[.string f, .int .i64 f.size] w fun e w' => e = .returned (.int .i64 (endI f f.size)) ∧ w = w' := fun w => by
    have HE : Hid (endI f f.size = -1) := end_top
    go_enter Try.func23, Try.ntmps23
    go_wp2
    go_ret
    exact ⟨by rw [HE.out]; rfl, rfl⟩
  intro n
  induction n with
  | zero =>
    intro x k hx hk hn w
    obtain rfl : k = f.size := by omega
    subst hx
    exact top w
  | succ n ih =>
    intro x k hx hk hn w
    by_cases hlt : k < f.size
    · subst hx
      have IH : Hid (∀ (x : Int) (j : Nat), x = j → k < j → j ≤ f.size → ∀ w : World, Calls Try.prog 23 #[.string f, .int .i64 x] w fun e w' => e = .returned (.int .i64 (endI f j)) ∧ w = w') := fun x j h1 h2 h3 w => ih x j h1 h3 (by omega) w
      clear ih hn top
      have hsz : f.size ≤ 9223372036854775807 := by omega
      by_cases h116 : f[k].toNat = 116
      · have hs0 := sort_of 116 h116 rfl
        have e116 : ((f[k].toNat : Int) == 116) = true := by simp; omega
        clear h116
        have HE := Lib.hid (case_tf hlt hs0)
        clear hs0
        go_enter Try.func23, Try.ntmps23
        go_wp2
        go_ret
        exact ⟨by rw [HE.out]; first | rfl | go_num, rfl⟩
      have e116 : ((f[k].toNat : Int) == 116) = false := by simp; omega
      by_cases h102 : f[k].toNat = 102
      · have hs0 := sort_of 102 h102 rfl
        have e102 : ((f[k].toNat : Int) == 102) = true := by simp; omega
        clear h102
        have HE := Lib.hid (case_tf hlt hs0)
        clear hs0
        go_enter Try.func23, Try.ntmps23
        go_wp2
        go_ret
        exact ⟨by rw [HE.out]; first | rfl | go_num, rfl⟩
      have e102 : ((f[k].toNat : Int) == 102) = false := by simp; omega
      by_cases h80 : f[k].toNat = 80
      · have hs0 := sort_of 80 h80 rfl
        have e80 : ((f[k].toNat : Int) == 80) = true := by simp; omega
        clear h80
        rcases case_p hlt hs0 with ⟨m, h1, h2⟩ | ⟨h1, h2⟩
        · have HV := Lib.hid h1
          have HE := Lib.hid h2
          have em : decide ((m : Int) < 0) = false := by simp
          clear h1 h2 hs0
          go_enter Try.func23, Try.ntmps23
          go_wp2_with fail
          refine (l2Var_any f _ (k + 1) (by go_num) _ hsz).mono ?_
          rintro e w1 ⟨rfl, rfl⟩
          rw [HV.out]
          go_wp2
          go_ret
          exact ⟨by rw [HE.out]; first | rfl | go_num, rfl⟩
        · have HV := Lib.hid h1
          have HE := Lib.hid h2
          clear h1 h2 hs0
          go_enter Try.func23, Try.ntmps23
          go_wp2_with fail
          refine (l2Var_any f _ (k + 1) (by go_num) _ hsz).mono ?_
          rintro e w1 ⟨rfl, rfl⟩
          rw [HV.out]
          go_wp2
          go_ret
          exact ⟨by rw [HE.out]; first | rfl | go_num, rfl⟩
      have e80 : ((f[k].toNat : Int) == 80) = false := by simp; omega
      by_cases h61 : f[k].toNat = 61
      · have hs0 := sort_of 61 h61 rfl
        have e61 : ((f[k].toNat : Int) == 61) = true := by simp; omega
        clear h61
        rcases case_r hlt hs0 with ⟨m, m2, h1, h2, h3⟩ | ⟨h1, h2⟩ | ⟨m, h1, h2, h3⟩
        · have HV := Lib.hid h1
          have HV2 := Lib.hid h2
          have HE := Lib.hid h3
          have em : decide ((m : Int) < 0) = false := by simp
          have em2 : decide ((m2 : Int) < 0) = false := by simp
          clear h1 h2 h3 hs0
          go_enter Try.func23, Try.ntmps23
          go_wp2_with fail
          refine (l2Var_any f _ (k + 1) (by go_num) _ hsz).mono ?_
          rintro e w1 ⟨rfl, rfl⟩
          rw [HV.out]
          go_wp2_with fail
          refine (l2Var_any f _ (k + 2) (by go_num) _ hsz).mono ?_
          rintro e w1 ⟨rfl, rfl⟩
          rw [HV2.out]
          go_wp2
          go_ret
          exact ⟨by rw [HE.out]; first | rfl | go_num, rfl⟩
        · have HV := Lib.hid h1
          have HE := Lib.hid h2
          clear h1 h2 hs0
          go_enter Try.func23, Try.ntmps23
          go_wp2_with fail
          refine (l2Var_any f _ (k + 1) (by go_num) _ hsz).mono ?_
          rintro e w1 ⟨rfl, rfl⟩
          rw [HV.out]
          go_wp2
          go_ret
          exact ⟨by rw [HE.out]; first | rfl | go_num, rfl⟩
        · have HV := Lib.hid h1
          have HV2 := Lib.hid h2
          have HE := Lib.hid h3
          have em : decide ((m : Int) < 0) = false := by simp
          clear h1 h2 h3 hs0
          go_enter Try.func23, Try.ntmps23
          go_wp2_with fail
          refine (l2Var_any f _ (k + 1) (by go_num) _ hsz).mono ?_
          rintro e w1 ⟨rfl, rfl⟩
          rw [HV.out]
          go_wp2_with fail
          refine (l2Var_any f _ (k + 2) (by go_num) _ hsz).mono ?_
          rintro e w1 ⟨rfl, rfl⟩
          rw [HV2.out]
          go_wp2
          go_ret
          exact ⟨by rw [HE.out]; first | rfl | go_num, rfl⟩
      have e61 : ((f[k].toNat : Int) == 61) = false := by simp; omega
      by_cases h69 : f[k].toNat = 69
      · have hs0 := sort_of 69 h69 rfl
        have e69 : ((f[k].toNat : Int) == 69) = true := by simp; omega
        clear h69
        rcases case_r hlt hs0 with ⟨m, m2, h1, h2, h3⟩ | ⟨h1, h2⟩ | ⟨m, h1, h2, h3⟩
        · have HV := Lib.hid h1
          have HV2 := Lib.hid h2
          have HE := Lib.hid h3
          have em : decide ((m : Int) < 0) = false := by simp
          have em2 : decide ((m2 : Int) < 0) = false := by simp
          clear h1 h2 h3 hs0
          go_enter Try.func23, Try.ntmps23
          go_wp2_with fail
          refine (l2Var_any f _ (k + 1) (by go_num) _ hsz).mono ?_
          rintro e w1 ⟨rfl, rfl⟩
          rw [HV.out]
          go_wp2_with fail
          refine (l2Var_any f _ (k + 2) (by go_num) _ hsz).mono ?_
          rintro e w1 ⟨rfl, rfl⟩
          rw [HV2.out]
          go_wp2
          go_ret
          exact ⟨by rw [HE.out]; first | rfl | go_num, rfl⟩
        · have HV := Lib.hid h1
          have HE := Lib.hid h2
          clear h1 h2 hs0
          go_enter Try.func23, Try.ntmps23
          go_wp2_with fail
          refine (l2Var_any f _ (k + 1) (by go_num) _ hsz).mono ?_
          rintro e w1 ⟨rfl, rfl⟩
          rw [HV.out]
          go_wp2
          go_ret
          exact ⟨by rw [HE.out]; first | rfl | go_num, rfl⟩
        · have HV := Lib.hid h1
          have HV2 := Lib.hid h2
          have HE := Lib.hid h3
          have em : decide ((m : Int) < 0) = false := by simp
          clear h1 h2 h3 hs0
          go_enter Try.func23, Try.ntmps23
          go_wp2_with fail
          refine (l2Var_any f _ (k + 1) (by go_num) _ hsz).mono ?_
          rintro e w1 ⟨rfl, rfl⟩
          rw [HV.out]
          go_wp2_with fail
          refine (l2Var_any f _ (k + 2) (by go_num) _ hsz).mono ?_
          rintro e w1 ⟨rfl, rfl⟩
          rw [HV2.out]
          go_wp2
          go_ret
          exact ⟨by rw [HE.out]; first | rfl | go_num, rfl⟩
      have e69 : ((f[k].toNat : Int) == 69) = false := by simp; omega
      by_cases h33 : f[k].toNat = 33
      · have hs0 := sort_of 33 h33 rfl
        have e33 : ((f[k].toNat : Int) == 33) = true := by simp; omega
        clear h33
        have HE := Lib.hid (case_no hlt hs0)
        clear hs0
        go_enter Try.func23, Try.ntmps23
        go_wp2_with fail
        refine (IH.out _ (k + 1) (by go_num) (by omega) (by omega) _).mono ?_
        rintro e w1 ⟨rfl, rfl⟩
        go_wp2
        go_ret
        exact ⟨by rw [HE.out]; first | rfl | go_num, rfl⟩
      have e33 : ((f[k].toNat : Int) == 33) = false := by simp; omega
      by_cases h38 : f[k].toNat = 38
      · have hs0 := sort_of 38 h38 rfl
        have e38 : ((f[k].toNat : Int) == 38) = true := by simp; omega
        clear h38
        rcases case_two hlt hs0 with ⟨h1, h2⟩ | ⟨j, h1, h2, h3, h4⟩
        · have HV := Lib.hid h1
          have HE := Lib.hid h2
          clear h1 h2 hs0
          go_enter Try.func23, Try.ntmps23
          go_wp2_with fail
          refine (IH.out _ (k + 1) (by go_num) (by omega) (by omega) _).mono ?_
          rintro e w1 ⟨rfl, rfl⟩
          rw [HV.out]
          go_wp2_with fail
          refine (l2End_neg f _).mono ?_
          rintro e w1 ⟨rfl, rfl⟩
          go_wp2
          go_ret
          exact ⟨by rw [HE.out]; first | rfl | go_num, rfl⟩
        · have HV := Lib.hid h1
          have HE := Lib.hid h4
          clear h1 h4 hs0
          go_enter Try.func23, Try.ntmps23
          go_wp2_with fail
          refine (IH.out _ (k + 1) (by go_num) (by omega) (by omega) _).mono ?_
          rintro e w1 ⟨rfl, rfl⟩
          rw [HV.out]
          go_wp2_with fail
          refine (IH.out _ j rfl h2 h3 _).mono ?_
          rintro e w1 ⟨rfl, rfl⟩
          go_wp2
          go_ret
          exact ⟨by rw [HE.out]; first | rfl | go_num, rfl⟩
      have e38 : ((f[k].toNat : Int) == 38) = false := by simp; omega
      by_cases h124 : f[k].toNat = 124
      · have hs0 := sort_of 124 h124 rfl
        have e124 : ((f[k].toNat : Int) == 124) = true := by simp; omega
        clear h124
        rcases case_two hlt hs0 with ⟨h1, h2⟩ | ⟨j, h1, h2, h3, h4⟩
        · have HV := Lib.hid h1
          have HE := Lib.hid h2
          clear h1 h2 hs0
          go_enter Try.func23, Try.ntmps23
          go_wp2_with fail
          refine (IH.out _ (k + 1) (by go_num) (by omega) (by omega) _).mono ?_
          rintro e w1 ⟨rfl, rfl⟩
          rw [HV.out]
          go_wp2_with fail
          refine (l2End_neg f _).mono ?_
          rintro e w1 ⟨rfl, rfl⟩
          go_wp2
          go_ret
          exact ⟨by rw [HE.out]; first | rfl | go_num, rfl⟩
        · have HV := Lib.hid h1
          have HE := Lib.hid h4
          clear h1 h4 hs0
          go_enter Try.func23, Try.ntmps23
          go_wp2_with fail
          refine (IH.out _ (k + 1) (by go_num) (by omega) (by omega) _).mono ?_
          rintro e w1 ⟨rfl, rfl⟩
          rw [HV.out]
          go_wp2_with fail
          refine (IH.out _ j rfl h2 h3 _).mono ?_
          rintro e w1 ⟨rfl, rfl⟩
          go_wp2
          go_ret
          exact ⟨by rw [HE.out]; first | rfl | go_num, rfl⟩
      have e124 : ((f[k].toNat : Int) == 124) = false := by simp; omega
      by_cases h65 : f[k].toNat = 65
      · have hs0 := sort_of 65 h65 rfl
        have e65 : ((f[k].toNat : Int) == 65) = true := by simp; omega
        clear h65
        rcases case_qu hlt hs0 with ⟨h1, h2⟩ | ⟨m, h1, h2, h3⟩
        · have HV := Lib.hid h1
          have HE := Lib.hid h2
          clear h1 h2 hs0
          go_enter Try.func23, Try.ntmps23
          go_wp2_with fail
          refine (l2Var_any f _ (k + 1) (by go_num) _ hsz).mono ?_
          rintro e w1 ⟨rfl, rfl⟩
          rw [HV.out]
          go_wp2
          go_ret
          exact ⟨by rw [HE.out]; first | rfl | go_num, rfl⟩
        · have HV := Lib.hid h1
          have HE := Lib.hid h3
          have em : decide ((m : Int) < 0) = false := by simp
          clear h1 h3 hs0
          go_enter Try.func23, Try.ntmps23
          go_wp2_with fail
          refine (l2Var_any f _ (k + 1) (by go_num) _ hsz).mono ?_
          rintro e w1 ⟨rfl, rfl⟩
          rw [HV.out]
          go_wp2_with fail
          refine (IH.out _ (k + 2) (by go_num) (by omega) (by omega) _).mono ?_
          rintro e w1 ⟨rfl, rfl⟩
          go_wp2
          go_ret
          exact ⟨by rw [HE.out]; first | rfl | go_num, rfl⟩
      have e65 : ((f[k].toNat : Int) == 65) = false := by simp; omega
      by_cases h83 : f[k].toNat = 83
      · have hs0 := sort_of 83 h83 rfl
        have e83 : ((f[k].toNat : Int) == 83) = true := by simp; omega
        clear h83
        rcases case_qu hlt hs0 with ⟨h1, h2⟩ | ⟨m, h1, h2, h3⟩
        · have HV := Lib.hid h1
          have HE := Lib.hid h2
          clear h1 h2 hs0
          go_enter Try.func23, Try.ntmps23
          go_wp2_with fail
          refine (l2Var_any f _ (k + 1) (by go_num) _ hsz).mono ?_
          rintro e w1 ⟨rfl, rfl⟩
          rw [HV.out]
          go_wp2
          go_ret
          exact ⟨by rw [HE.out]; first | rfl | go_num, rfl⟩
        · have HV := Lib.hid h1
          have HE := Lib.hid h3
          have em : decide ((m : Int) < 0) = false := by simp
          clear h1 h3 hs0
          go_enter Try.func23, Try.ntmps23
          go_wp2_with fail
          refine (l2Var_any f _ (k + 1) (by go_num) _ hsz).mono ?_
          rintro e w1 ⟨rfl, rfl⟩
          rw [HV.out]
          go_wp2_with fail
          refine (IH.out _ (k + 2) (by go_num) (by omega) (by omega) _).mono ?_
          rintro e w1 ⟨rfl, rfl⟩
          go_wp2
          go_ret
          exact ⟨by rw [HE.out]; first | rfl | go_num, rfl⟩
      have e83 : ((f[k].toNat : Int) == 83) = false := by simp; omega
      by_cases h50 : f[k].toNat = 50
      · have hs0 := sort_of 50 h50 rfl
        have e50 : ((f[k].toNat : Int) == 50) = true := by simp; omega
        clear h50
        rcases case_qu hlt hs0 with ⟨h1, h2⟩ | ⟨m, h1, h2, h3⟩
        · have HV := Lib.hid h1
          have HE := Lib.hid h2
          clear h1 h2 hs0
          go_enter Try.func23, Try.ntmps23
          go_wp2_with fail
          refine (l2Var_any f _ (k + 1) (by go_num) _ hsz).mono ?_
          rintro e w1 ⟨rfl, rfl⟩
          rw [HV.out]
          go_wp2
          go_ret
          exact ⟨by rw [HE.out]; first | rfl | go_num, rfl⟩
        · have HV := Lib.hid h1
          have HE := Lib.hid h3
          have em : decide ((m : Int) < 0) = false := by simp
          clear h1 h3 hs0
          go_enter Try.func23, Try.ntmps23
          go_wp2_with fail
          refine (l2Var_any f _ (k + 1) (by go_num) _ hsz).mono ?_
          rintro e w1 ⟨rfl, rfl⟩
          rw [HV.out]
          go_wp2_with fail
          refine (IH.out _ (k + 2) (by go_num) (by omega) (by omega) _).mono ?_
          rintro e w1 ⟨rfl, rfl⟩
          go_wp2
          go_ret
          exact ⟨by rw [HE.out]; first | rfl | go_num, rfl⟩
      have e50 : ((f[k].toNat : Int) == 50) = false := by simp; omega
      by_cases h51 : f[k].toNat = 51
      · have hs0 := sort_of 51 h51 rfl
        have e51 : ((f[k].toNat : Int) == 51) = true := by simp; omega
        clear h51
        rcases case_qu hlt hs0 with ⟨h1, h2⟩ | ⟨m, h1, h2, h3⟩
        · have HV := Lib.hid h1
          have HE := Lib.hid h2
          clear h1 h2 hs0
          go_enter Try.func23, Try.ntmps23
          go_wp2_with fail
          refine (l2Var_any f _ (k + 1) (by go_num) _ hsz).mono ?_
          rintro e w1 ⟨rfl, rfl⟩
          rw [HV.out]
          go_wp2
          go_ret
          exact ⟨by rw [HE.out]; first | rfl | go_num, rfl⟩
        · have HV := Lib.hid h1
          have HE := Lib.hid h3
          have em : decide ((m : Int) < 0) = false := by simp
          clear h1 h3 hs0
          go_enter Try.func23, Try.ntmps23
          go_wp2_with fail
          refine (l2Var_any f _ (k + 1) (by go_num) _ hsz).mono ?_
          rintro e w1 ⟨rfl, rfl⟩
          rw [HV.out]
          go_wp2_with fail
          refine (IH.out _ (k + 2) (by go_num) (by omega) (by omega) _).mono ?_
          rintro e w1 ⟨rfl, rfl⟩
          go_wp2
          go_ret
          exact ⟨by rw [HE.out]; first | rfl | go_num, rfl⟩
      have e51 : ((f[k].toNat : Int) == 51) = false := by simp; omega
      by_cases h52 : f[k].toNat = 52
      · have hs0 := sort_of 52 h52 rfl
        have e52 : ((f[k].toNat : Int) == 52) = true := by simp; omega
        clear h52
        rcases case_qu hlt hs0 with ⟨h1, h2⟩ | ⟨m, h1, h2, h3⟩
        · have HV := Lib.hid h1
          have HE := Lib.hid h2
          clear h1 h2 hs0
          go_enter Try.func23, Try.ntmps23
          go_wp2_with fail
          refine (l2Var_any f _ (k + 1) (by go_num) _ hsz).mono ?_
          rintro e w1 ⟨rfl, rfl⟩
          rw [HV.out]
          go_wp2
          go_ret
          exact ⟨by rw [HE.out]; first | rfl | go_num, rfl⟩
        · have HV := Lib.hid h1
          have HE := Lib.hid h3
          have em : decide ((m : Int) < 0) = false := by simp
          clear h1 h3 hs0
          go_enter Try.func23, Try.ntmps23
          go_wp2_with fail
          refine (l2Var_any f _ (k + 1) (by go_num) _ hsz).mono ?_
          rintro e w1 ⟨rfl, rfl⟩
          rw [HV.out]
          go_wp2_with fail
          refine (IH.out _ (k + 2) (by go_num) (by omega) (by omega) _).mono ?_
          rintro e w1 ⟨rfl, rfl⟩
          go_wp2
          go_ret
          exact ⟨by rw [HE.out]; first | rfl | go_num, rfl⟩
      have e52 : ((f[k].toNat : Int) == 52) = false := by simp; omega
      have hs0 : sort f[k] = .bad := sort_none (by
        intro n hn hc
        simp only [List.mem_cons, List.not_mem_nil, or_false] at hn
        omega)
      have HE := Lib.hid (case_bad hlt hs0)
      clear hs0 h116 h102 h80 h61 h69 h33 h38 h124 h65 h83 h50 h51 h52
      go_enter Try.func23, Try.ntmps23
      go_wp2
      go_ret
      exact ⟨by rw [HE.out]; first | rfl | go_num, rfl⟩
    · obtain rfl : k = f.size := by omega
      subst hx
      exact top w
theorem FormulaValid_any (f : ByteArray) (w : World) (hs : f.size ≤ 1048576) : Calls Try.prog 12 #[.string f] w fun e w' => e = .returned (.bool (fmB f)) ∧ w = w' := by
  by_cases h : f.size ≤ 4000
  · have e1 : decide ((f.size : Int) ≤ 4000) = true := by simp; omega
    have e2 : decide (f.size ≤ 4000) = true := by simp; omega
    have HE : Hid (fmB f = (endI f 0 == (f.size : Int))) := by unfold Hid fmB; rw [e2, Bool.true_and]; rfl
    clear h
    go_enter Try.func12, Try.ntmps12
    go_wp2_with fail
    refine (l2End_any f hs f.size _ 0 (by simp) (by omega) (by omega) _).mono ?_
    rintro e w1 ⟨rfl, rfl⟩
    go_wp2
    go_ret
    exact ⟨by rw [HE.out]; first | rfl | simp, rfl⟩
  · have e1 : decide ((f.size : Int) ≤ 4000) = false := by simp; omega
    have e2 : decide (f.size ≤ 4000) = false := by simp; omega
    have HE : Hid (fmB f = false) := by unfold Hid fmB; rw [e2]; rfl
    clear h
    go_enter Try.func12, Try.ntmps12
    go_wp2
    go_ret
    exact ⟨by rw [HE.out]; rfl, rfl⟩
def isQ (c : Nat) : Bool := decide (c = 65 ∨ c = 83 ∨ c = 50 ∨ c = 51 ∨ c = 52)
theorem l2Quant_any (c : UInt8) (w : World) : Calls Try.prog 30 #[.int .u8 c.toNat] w fun e w' => e = .returned (.bool (isQ c.toNat)) ∧ w = w' := by
  have HE : Hid (decide (0 ≤ fnd ⟨#[65, 83, 50, 51, 52]⟩ c.toNat) = isQ c.toNat) := fnd_q0 ⟨c.toNat, c.toNat_lt⟩
  obtain ⟨z, hz⟩ : ∃ z, z = fnd ⟨#[65, 83, 50, 51, 52]⟩ c.toNat := ⟨_, rfl⟩
  rw [← hz] at HE
  have HZ := Lib.hid hz
  clear hz
  go_enter Try.func30, Try.ntmps30
  go_wp2_with fail
  refine (l15Find_any _ _ _ (by decide)).mono ?_
  rintro e w1 ⟨rfl, rfl⟩
  rw [← HZ.out]
  go_wp2
  go_ret
  exact ⟨by rw [← HE.out]; rfl, rfl⟩
end Go.Proofs.Ytefneihlgclkbaa.fme
