/- Several texts in one: FmE, FmF, FmI, FmJ. -/
import Derived.Test.YtpcnoiigbmiejaaGreatDoorPk1
/- Formulas in the reference: where one ends. -/
namespace Go.Proofs.YtpcnoiigbmiejaaGreatDoor.fme
set_option linter.unusedVariables false
set_option linter.unusedSimpArgs false
open Go.ChangeShapes Go.WideShapes Go.ChangeAt Go.RowKit
open Go.Proofs.YtpcnoiigbmiejaaGreatDoor.lib Go.Proofs.YtpcnoiigbmiejaaGreatDoor.fm Go.Proofs.YtpcnoiigbmiejaaGreatDoor.fms Go.Proofs.YtpcnoiigbmiejaaGreatDoor.fmp

theorem l2End_neg (f : ByteArray) (w : World) : Calls Tryz.prog 183 #[.string f, .int .i64 (-1)] w fun e w' => e = .returned (.int .i64 (-1)) ∧ w = w' := by
  go_enter Tryz.func183, Tryz.ntmps183
  go_wp2
  go_ret
  exact ⟨rfl, rfl⟩

set_option maxHeartbeats 3200000 in
theorem l2End_any (f : ByteArray) (hs : f.size ≤ 1048576) : ∀ (n : Nat) (x : Int) (k : Nat), x = k → k ≤ f.size → f.size - k ≤ n → ∀ w : World,
    Calls Tryz.prog 183 #[.string f, .int .i64 x] w fun e w' => e = .returned (.int .i64 (endI f k)) ∧ w = w' := by
  have top : ∀ w : World, Calls Tryz.prog 183 #[.string f, .int .i64 f.size] w fun e w' => e = .returned (.int .i64 (endI f f.size)) ∧ w = w' := fun w => by
    have HE : Hid (endI f f.size = -1) := end_top
    go_enter Tryz.func183, Tryz.ntmps183
    go_wp2
    go_ret
    exact ⟨by rw [HE.out]; rfl, rfl⟩
  intro n
  induction n with
  | zero =>
    intro x k hx hk hn w
    obtain rfl : k = f.size := by omega
    subst hx
    exact top w
  | succ n ih =>
    intro x k hx hk hn w
    by_cases hlt : k < f.size
    · subst hx
      have IH : Hid (∀ (x : Int) (j : Nat), x = j → k < j → j ≤ f.size → ∀ w : World, Calls Tryz.prog 183 #[.string f, .int .i64 x] w fun e w' => e = .returned (.int .i64 (endI f j)) ∧ w = w') := fun x j h1 h2 h3 w => ih x j h1 h3 (by omega) w
      clear ih hn top
      have hsz : f.size ≤ 9223372036854775807 := by omega
      by_cases h116 : f[k].toNat = 116
      · have hs0 := sort_of 116 h116 rfl
        have e116 : ((f[k].toNat : Int) == 116) = true := by simp; omega
        clear h116
        have HE := Lib.hid (case_tf hlt hs0)
        clear hs0
        go_enter Tryz.func183, Tryz.ntmps183
        go_wp2
        go_ret
        exact ⟨by rw [HE.out]; first | rfl | go_num, rfl⟩
      have e116 : ((f[k].toNat : Int) == 116) = false := by simp; omega
      by_cases h102 : f[k].toNat = 102
      · have hs0 := sort_of 102 h102 rfl
        have e102 : ((f[k].toNat : Int) == 102) = true := by simp; omega
        clear h102
        have HE := Lib.hid (case_tf hlt hs0)
        clear hs0
        go_enter Tryz.func183, Tryz.ntmps183
        go_wp2
        go_ret
        exact ⟨by rw [HE.out]; first | rfl | go_num, rfl⟩
      have e102 : ((f[k].toNat : Int) == 102) = false := by simp; omega
      by_cases h80 : f[k].toNat = 80
      · have hs0 := sort_of 80 h80 rfl
        have e80 : ((f[k].toNat : Int) == 80) = true := by simp; omega
        clear h80
        rcases case_p hlt hs0 with ⟨m, h1, h2⟩ | ⟨h1, h2⟩
        · have HV := Lib.hid h1
          have HE := Lib.hid h2
          have em : decide ((m : Int) < 0) = false := by simp
          clear h1 h2 hs0
          go_enter Tryz.func183, Tryz.ntmps183
          go_wp2_with fail
          refine (l2Var_any f _ (k + 1) (by go_num) _ hsz).mono ?_
          rintro e w1 ⟨rfl, rfl⟩
          rw [HV.out]
          go_wp2
          go_ret
          exact ⟨by rw [HE.out]; first | rfl | go_num, rfl⟩
        · have HV := Lib.hid h1
          have HE := Lib.hid h2
          clear h1 h2 hs0
          go_enter Tryz.func183, Tryz.ntmps183
          go_wp2_with fail
          refine (l2Var_any f _ (k + 1) (by go_num) _ hsz).mono ?_
          rintro e w1 ⟨rfl, rfl⟩
          rw [HV.out]
          go_wp2
          go_ret
          exact ⟨by rw [HE.out]; first | rfl | go_num, rfl⟩
      have e80 : ((f[k].toNat : Int) == 80) = false := by simp; omega
      by_cases h61 : f[k].toNat = 61
      · have hs0 := sort_of 61 h61 rfl
        have e61 : ((f[k].toNat : Int) == 61) = true := by simp; omega
        clear h61
        rcases case_r hlt hs0 with ⟨m, m2, h1, h2, h3⟩ | ⟨h1, h2⟩ | ⟨m, h1, h2, h3⟩
        · have HV := Lib.hid h1
          have HV2 := Lib.hid h2
          have HE := Lib.hid h3
          have em : decide ((m : Int) < 0) = false := by simp
          have em2 : decide ((m2 : Int) < 0) = false := by simp
          clear h1 h2 h3 hs0
          go_enter Tryz.func183, Tryz.ntmps183
          go_wp2_with fail
          refine (l2Var_any f _ (k + 1) (by go_num) _ hsz).mono ?_
          rintro e w1 ⟨rfl, rfl⟩
          rw [HV.out]
          go_wp2_with fail
          refine (l2Var_any f _ (k + 2) (by go_num) _ hsz).mono ?_
          rintro e w1 ⟨rfl, rfl⟩
          rw [HV2.out]
          go_wp2
          go_ret
          exact ⟨by rw [HE.out]; first | rfl | go_num, rfl⟩
        · have HV := Lib.hid h1
          have HE := Lib.hid h2
          clear h1 h2 hs0
          go_enter Tryz.func183, Tryz.ntmps183
          go_wp2_with fail
          refine (l2Var_any f _ (k + 1) (by go_num) _ hsz).mono ?_
          rintro e w1 ⟨rfl, rfl⟩
          rw [HV.out]
          go_wp2
          go_ret
          exact ⟨by rw [HE.out]; first | rfl | go_num, rfl⟩
        · have HV := Lib.hid h1
          have HV2 := Lib.hid h2
          have HE := Lib.hid h3
          have em : decide ((m : Int) < 0) = false := by simp
          clear h1 h2 h3 hs0
          go_enter Tryz.func183, Tryz.ntmps183
          go_wp2_with fail
          refine (l2Var_any f _ (k + 1) (by go_num) _ hsz).mono ?_
          rintro e w1 ⟨rfl, rfl⟩
          rw [HV.out]
          go_wp2_with fail
          refine (l2Var_any f _ (k + 2) (by go_num) _ hsz).mono ?_
          rintro e w1 ⟨rfl, rfl⟩
          rw [HV2.out]
          go_wp2
          go_ret
          exact ⟨by rw [HE.out]; first | rfl | go_num, rfl⟩
      have e61 : ((f[k].toNat : Int) == 61) = false := by simp; omega
      by_cases h69 : f[k].toNat = 69
      · have hs0 := sort_of 69 h69 rfl
        have e69 : ((f[k].toNat : Int) == 69) = true := by simp; omega
        clear h69
        rcases case_r hlt hs0 with ⟨m, m2, h1, h2, h3⟩ | ⟨h1, h2⟩ | ⟨m, h1, h2, h3⟩
        · have HV := Lib.hid h1
          have HV2 := Lib.hid h2
          have HE := Lib.hid h3
          have em : decide ((m : Int) < 0) = false := by simp
          have em2 : decide ((m2 : Int) < 0) = false := by simp
          clear h1 h2 h3 hs0
          go_enter Tryz.func183, Tryz.ntmps183
          go_wp2_with fail
          refine (l2Var_any f _ (k + 1) (by go_num) _ hsz).mono ?_
          rintro e w1 ⟨rfl, rfl⟩
          rw [HV.out]
          go_wp2_with fail
          refine (l2Var_any f _ (k + 2) (by go_num) _ hsz).mono ?_
          rintro e w1 ⟨rfl, rfl⟩
          rw [HV2.out]
          go_wp2
          go_ret
          exact ⟨by rw [HE.out]; first | rfl | go_num, rfl⟩
        · have HV := Lib.hid h1
          have HE := Lib.hid h2
          clear h1 h2 hs0
          go_enter Tryz.func183, Tryz.ntmps183
          go_wp2_with fail
          refine (l2Var_any f _ (k + 1) (by go_num) _ hsz).mono ?_
          rintro e w1 ⟨rfl, rfl⟩
          rw [HV.out]
          go_wp2
          go_ret
          exact ⟨by rw [HE.out]; first | rfl | go_num, rfl⟩
        · have HV := Lib.hid h1
          have HV2 := Lib.hid h2
          have HE := Lib.hid h3
          have em : decide ((m : Int) < 0) = false := by simp
          clear h1 h2 h3 hs0
          go_enter Tryz.func183, Tryz.ntmps183
          go_wp2_with fail
          refine (l2Var_any f _ (k + 1) (by go_num) _ hsz).mono ?_
          rintro e w1 ⟨rfl, rfl⟩
          rw [HV.out]
          go_wp2_with fail
          refine (l2Var_any f _ (k + 2) (by go_num) _ hsz).mono ?_
          rintro e w1 ⟨rfl, rfl⟩
          rw [HV2.out]
          go_wp2
          go_ret
          exact ⟨by rw [HE.out]; first | rfl | go_num, rfl⟩
      have e69 : ((f[k].toNat : Int) == 69) = false := by simp; omega
      by_cases h33 : f[k].toNat = 33
      · have hs0 := sort_of 33 h33 rfl
        have e33 : ((f[k].toNat : Int) == 33) = true := by simp; omega
        clear h33
        have HE := Lib.hid (case_no hlt hs0)
        clear hs0
        go_enter Tryz.func183, Tryz.ntmps183
        go_wp2_with fail
        refine (IH.out _ (k + 1) (by go_num) (by omega) (by omega) _).mono ?_
        rintro e w1 ⟨rfl, rfl⟩
        go_wp2
        go_ret
        exact ⟨by rw [HE.out]; first | rfl | go_num, rfl⟩
      have e33 : ((f[k].toNat : Int) == 33) = false := by simp; omega
      by_cases h38 : f[k].toNat = 38
      · have hs0 := sort_of 38 h38 rfl
        have e38 : ((f[k].toNat : Int) == 38) = true := by simp; omega
        clear h38
        rcases case_two hlt hs0 with ⟨h1, h2⟩ | ⟨j, h1, h2, h3, h4⟩
        · have HV := Lib.hid h1
          have HE := Lib.hid h2
          clear h1 h2 hs0
          go_enter Tryz.func183, Tryz.ntmps183
          go_wp2_with fail
          refine (IH.out _ (k + 1) (by go_num) (by omega) (by omega) _).mono ?_
          rintro e w1 ⟨rfl, rfl⟩
          rw [HV.out]
          go_wp2_with fail
          refine (l2End_neg f _).mono ?_
          rintro e w1 ⟨rfl, rfl⟩
          go_wp2
          go_ret
          exact ⟨by rw [HE.out]; first | rfl | go_num, rfl⟩
        · have HV := Lib.hid h1
          have HE := Lib.hid h4
          clear h1 h4 hs0
          go_enter Tryz.func183, Tryz.ntmps183
          go_wp2_with fail
          refine (IH.out _ (k + 1) (by go_num) (by omega) (by omega) _).mono ?_
          rintro e w1 ⟨rfl, rfl⟩
          rw [HV.out]
          go_wp2_with fail
          refine (IH.out _ j rfl h2 h3 _).mono ?_
          rintro e w1 ⟨rfl, rfl⟩
          go_wp2
          go_ret
          exact ⟨by rw [HE.out]; first | rfl | go_num, rfl⟩
      have e38 : ((f[k].toNat : Int) == 38) = false := by simp; omega
      by_cases h124 : f[k].toNat = 124
      · have hs0 := sort_of 124 h124 rfl
        have e124 : ((f[k].toNat : Int) == 124) = true := by simp; omega
        clear h124
        rcases case_two hlt hs0 with ⟨h1, h2⟩ | ⟨j, h1, h2, h3, h4⟩
        · have HV := Lib.hid h1
          have HE := Lib.hid h2
          clear h1 h2 hs0
          go_enter Tryz.func183, Tryz.ntmps183
          go_wp2_with fail
          refine (IH.out _ (k + 1) (by go_num) (by omega) (by omega) _).mono ?_
          rintro e w1 ⟨rfl, rfl⟩
          rw [HV.out]
          go_wp2_with fail
          refine (l2End_neg f _).mono ?_
          rintro e w1 ⟨rfl, rfl⟩
          go_wp2
          go_ret
          exact ⟨by rw [HE.out]; first | rfl | go_num, rfl⟩
        · have HV := Lib.hid h1
          have HE := Lib.hid h4
          clear h1 h4 hs0
          go_enter Tryz.func183, Tryz.ntmps183
          go_wp2_with fail
          refine (IH.out _ (k + 1) (by go_num) (by omega) (by omega) _).mono ?_
          rintro e w1 ⟨rfl, rfl⟩
          rw [HV.out]
          go_wp2_with fail
          refine (IH.out _ j rfl h2 h3 _).mono ?_
          rintro e w1 ⟨rfl, rfl⟩
          go_wp2
          go_ret
          exact ⟨by rw [HE.out]; first | rfl | go_num, rfl⟩
      have e124 : ((f[k].toNat : Int) == 124) = false := by simp; omega
      by_cases h65 : f[k].toNat = 65
      · have hs0 := sort_of 65 h65 rfl
        have e65 : ((f[k].toNat : Int) == 65) = true := by simp; omega
        clear h65
        rcases case_qu hlt hs0 with ⟨h1, h2⟩ | ⟨m, h1, h2, h3⟩
        · have HV := Lib.hid h1
          have HE := Lib.hid h2
          clear h1 h2 hs0
          go_enter Tryz.func183, Tryz.ntmps183
          go_wp2_with fail
          refine (l2Var_any f _ (k + 1) (by go_num) _ hsz).mono ?_
          rintro e w1 ⟨rfl, rfl⟩
          rw [HV.out]
          go_wp2
          go_ret
          exact ⟨by rw [HE.out]; first | rfl | go_num, rfl⟩
        · have HV := Lib.hid h1
          have HE := Lib.hid h3
          have em : decide ((m : Int) < 0) = false := by simp
          clear h1 h3 hs0
          go_enter Tryz.func183, Tryz.ntmps183
          go_wp2_with fail
          refine (l2Var_any f _ (k + 1) (by go_num) _ hsz).mono ?_
          rintro e w1 ⟨rfl, rfl⟩
          rw [HV.out]
          go_wp2_with fail
          refine (IH.out _ (k + 2) (by go_num) (by omega) (by omega) _).mono ?_
          rintro e w1 ⟨rfl, rfl⟩
          go_wp2
          go_ret
          exact ⟨by rw [HE.out]; first | rfl | go_num, rfl⟩
      have e65 : ((f[k].toNat : Int) == 65) = false := by simp; omega
      by_cases h83 : f[k].toNat = 83
      · have hs0 := sort_of 83 h83 rfl
        have e83 : ((f[k].toNat : Int) == 83) = true := by simp; omega
        clear h83
        rcases case_qu hlt hs0 with ⟨h1, h2⟩ | ⟨m, h1, h2, h3⟩
        · have HV := Lib.hid h1
          have HE := Lib.hid h2
          clear h1 h2 hs0
          go_enter Tryz.func183, Tryz.ntmps183
          go_wp2_with fail
          refine (l2Var_any f _ (k + 1) (by go_num) _ hsz).mono ?_
          rintro e w1 ⟨rfl, rfl⟩
          rw [HV.out]
          go_wp2
          go_ret
          exact ⟨by rw [HE.out]; first | rfl | go_num, rfl⟩
        · have HV := Lib.hid h1
          have HE := Lib.hid h3
          have em : decide ((m : Int) < 0) = false := by simp
          clear h1 h3 hs0
          go_enter Tryz.func183, Tryz.ntmps183
          go_wp2_with fail
          refine (l2Var_any f _ (k + 1) (by go_num) _ hsz).mono ?_
          rintro e w1 ⟨rfl, rfl⟩
          rw [HV.out]
          go_wp2_with fail
          refine (IH.out _ (k + 2) (by go_num) (by omega) (by omega) _).mono ?_
          rintro e w1 ⟨rfl, rfl⟩
          go_wp2
          go_ret
          exact ⟨by rw [HE.out]; first | rfl | go_num, rfl⟩
      have e83 : ((f[k].toNat : Int) == 83) = false := by simp; omega
      by_cases h50 : f[k].toNat = 50
      · have hs0 := sort_of 50 h50 rfl
        have e50 : ((f[k].toNat : Int) == 50) = true := by simp; omega
        clear h50
        rcases case_qu hlt hs0 with ⟨h1, h2⟩ | ⟨m, h1, h2, h3⟩
        · have HV := Lib.hid h1
          have HE := Lib.hid h2
          clear h1 h2 hs0
          go_enter Tryz.func183, Tryz.ntmps183
          go_wp2_with fail
          refine (l2Var_any f _ (k + 1) (by go_num) _ hsz).mono ?_
          rintro e w1 ⟨rfl, rfl⟩
          rw [HV.out]
          go_wp2
          go_ret
          exact ⟨by rw [HE.out]; first | rfl | go_num, rfl⟩
        · have HV := Lib.hid h1
          have HE := Lib.hid h3
          have em : decide ((m : Int) < 0) = false := by simp
          clear h1 h3 hs0
          go_enter Tryz.func183, Tryz.ntmps183
          go_wp2_with fail
          refine (l2Var_any f _ (k + 1) (by go_num) _ hsz).mono ?_
          rintro e w1 ⟨rfl, rfl⟩
          rw [HV.out]
          go_wp2_with fail
          refine (IH.out _ (k + 2) (by go_num) (by omega) (by omega) _).mono ?_
          rintro e w1 ⟨rfl, rfl⟩
          go_wp2
          go_ret
          exact ⟨by rw [HE.out]; first | rfl | go_num, rfl⟩
      have e50 : ((f[k].toNat : Int) == 50) = false := by simp; omega
      by_cases h51 : f[k].toNat = 51
      · have hs0 := sort_of 51 h51 rfl
        have e51 : ((f[k].toNat : Int) == 51) = true := by simp; omega
        clear h51
        rcases case_qu hlt hs0 with ⟨h1, h2⟩ | ⟨m, h1, h2, h3⟩
        · have HV := Lib.hid h1
          have HE := Lib.hid h2
          clear h1 h2 hs0
          go_enter Tryz.func183, Tryz.ntmps183
          go_wp2_with fail
          refine (l2Var_any f _ (k + 1) (by go_num) _ hsz).mono ?_
          rintro e w1 ⟨rfl, rfl⟩
          rw [HV.out]
          go_wp2
          go_ret
          exact ⟨by rw [HE.out]; first | rfl | go_num, rfl⟩
        · have HV := Lib.hid h1
          have HE := Lib.hid h3
          have em : decide ((m : Int) < 0) = false := by simp
          clear h1 h3 hs0
          go_enter Tryz.func183, Tryz.ntmps183
          go_wp2_with fail
          refine (l2Var_any f _ (k + 1) (by go_num) _ hsz).mono ?_
          rintro e w1 ⟨rfl, rfl⟩
          rw [HV.out]
          go_wp2_with fail
          refine (IH.out _ (k + 2) (by go_num) (by omega) (by omega) _).mono ?_
          rintro e w1 ⟨rfl, rfl⟩
          go_wp2
          go_ret
          exact ⟨by rw [HE.out]; first | rfl | go_num, rfl⟩
      have e51 : ((f[k].toNat : Int) == 51) = false := by simp; omega
      by_cases h52 : f[k].toNat = 52
      · have hs0 := sort_of 52 h52 rfl
        have e52 : ((f[k].toNat : Int) == 52) = true := by simp; omega
        clear h52
        rcases case_qu hlt hs0 with ⟨h1, h2⟩ | ⟨m, h1, h2, h3⟩
        · have HV := Lib.hid h1
          have HE := Lib.hid h2
          clear h1 h2 hs0
          go_enter Tryz.func183, Tryz.ntmps183
          go_wp2_with fail
          refine (l2Var_any f _ (k + 1) (by go_num) _ hsz).mono ?_
          rintro e w1 ⟨rfl, rfl⟩
          rw [HV.out]
          go_wp2
          go_ret
          exact ⟨by rw [HE.out]; first | rfl | go_num, rfl⟩
        · have HV := Lib.hid h1
          have HE := Lib.hid h3
          have em : decide ((m : Int) < 0) = false := by simp
          clear h1 h3 hs0
          go_enter Tryz.func183, Tryz.ntmps183
          go_wp2_with fail
          refine (l2Var_any f _ (k + 1) (by go_num) _ hsz).mono ?_
          rintro e w1 ⟨rfl, rfl⟩
          rw [HV.out]
          go_wp2_with fail
          refine (IH.out _ (k + 2) (by go_num) (by omega) (by omega) _).mono ?_
          rintro e w1 ⟨rfl, rfl⟩
          go_wp2
          go_ret
          exact ⟨by rw [HE.out]; first | rfl | go_num, rfl⟩
      have e52 : ((f[k].toNat : Int) == 52) = false := by simp; omega
      have hs0 : sort f[k] = .bad := sort_none (by
        intro n hn hc
        simp only [List.mem_cons, List.not_mem_nil, or_false] at hn
        omega)
      have HE := Lib.hid (case_bad hlt hs0)
      clear hs0 h116 h102 h80 h61 h69 h33 h38 h124 h65 h83 h50 h51 h52
      go_enter Tryz.func183, Tryz.ntmps183
      go_wp2
      go_ret
      exact ⟨by rw [HE.out]; first | rfl | go_num, rfl⟩
    · obtain rfl : k = f.size := by omega
      subst hx
      exact top w
theorem FormulaValid_any (f : ByteArray) (w : World) (hs : f.size ≤ 1048576) : Calls Tryz.prog 156 #[.string f] w fun e w' => e = .returned (.bool (fmB f)) ∧ w = w' := by
  by_cases h : f.size ≤ 4000
  · have e1 : decide ((f.size : Int) ≤ 4000) = true := by simp; omega
    have e2 : decide (f.size ≤ 4000) = true := by simp; omega
    have HE : Hid (fmB f = (endI f 0 == (f.size : Int))) := by unfold Hid fmB; rw [e2, Bool.true_and]; rfl
    clear h
    go_enter Tryz.func156, Tryz.ntmps156
    go_wp2_with fail
    refine (l2End_any f hs f.size _ 0 (by simp) (by omega) (by omega) _).mono ?_
    rintro e w1 ⟨rfl, rfl⟩
    go_wp2
    go_ret
    exact ⟨by rw [HE.out]; first | rfl | simp, rfl⟩
  · have e1 : decide ((f.size : Int) ≤ 4000) = false := by simp; omega
    have e2 : decide (f.size ≤ 4000) = false := by simp; omega
    have HE : Hid (fmB f = false) := by unfold Hid fmB; rw [e2]; rfl
    clear h
    go_enter Tryz.func156, Tryz.ntmps156
    go_wp2
    go_ret
    exact ⟨by rw [HE.out]; rfl, rfl⟩
def isQ (c : Nat) : Bool := decide (c = 65 ∨ c = 83 ∨ c = 50 ∨ c = 51 ∨ c = 52)
theorem l2Quant_any (c : UInt8) (w : World) : Calls Tryz.prog 185 #[.int .u8 c.toNat] w fun e w' => e = .returned (.bool (isQ c.toNat)) ∧ w = w' := by
  have HE : Hid (decide (0 ≤ fnd ⟨#[65, 83, 50, 51, 52]⟩ c.toNat) = isQ c.toNat) := fnd_q0 ⟨c.toNat, c.toNat_lt⟩
  obtain ⟨z, hz⟩ : ∃ z, z = fnd ⟨#[65, 83, 50, 51, 52]⟩ c.toNat := ⟨_, rfl⟩
  rw [← hz] at HE
  have HZ := Lib.hid hz
  clear hz
  go_enter Tryz.func185, Tryz.ntmps185
  go_wp2_with fail
  refine (l15Find_any _ _ _ (by decide)).mono ?_
  rintro e w1 ⟨rfl, rfl⟩
  rw [← HZ.out]
  go_wp2
  go_ret
  exact ⟨by rw [← HE.out]; rfl, rfl⟩
end Go.Proofs.YtpcnoiigbmiejaaGreatDoor.fme

/- Formulas in the reference: free variables. -/
namespace Go.Proofs.YtpcnoiigbmiejaaGreatDoor.fmf
set_option linter.unusedVariables false
set_option linter.unusedSimpArgs false
open Go.ChangeShapes Go.WideShapes Go.ChangeAt Go.RowKit
open Go.Proofs.YtpcnoiigbmiejaaGreatDoor.lib Go.Proofs.YtpcnoiigbmiejaaGreatDoor.fm Go.Proofs.YtpcnoiigbmiejaaGreatDoor.fms Go.Proofs.YtpcnoiigbmiejaaGreatDoor.fmp Go.Proofs.YtpcnoiigbmiejaaGreatDoor.fmq Go.Proofs.YtpcnoiigbmiejaaGreatDoor.fme

theorem b_or0 : ∀ a : Fin 16, ∀ b : Fin 16, bits .or .i64 (a.1 : Nat) (b.1 : Nat) = ((a.1 ||| b.1 : Nat) : Int) := by decide
theorem b_or {x y : Nat} (hx : x < 16) (hy : y < 16) : bits .or .i64 (x : Int) (y : Int) = ((x ||| y : Nat) : Int) := b_or0 ⟨x, hx⟩ ⟨y, hy⟩
theorem b_an0 : ∀ a : Fin 16, ∀ b : Fin 4, bits .andNot .i64 (a.1 : Nat) ((1 <<< b.1 : Nat) : Int) = ((a.1 &&& (15 ^^^ 1 <<< b.1) : Nat) : Int) := by decide
theorem b_an {x v : Nat} (hx : x < 16) (hv : v < 4) : bits .andNot .i64 (x : Int) ((1 <<< v : Nat) : Int) = ((x &&& (15 ^^^ 1 <<< v) : Nat) : Int) := b_an0 ⟨x, hx⟩ ⟨v, hv⟩
theorem b_an1 {x : Nat} (hx : x < 16) : bits .andNot .i64 (x : Int) 1 = ((x &&& (15 ^^^ 1 <<< 0) : Nat) : Int) := b_an (v := 0) hx (by decide)
theorem b_an2 {x : Nat} (hx : x < 16) : bits .andNot .i64 (x : Int) 2 = ((x &&& (15 ^^^ 1 <<< 1) : Nat) : Int) := b_an (v := 1) hx (by decide)
theorem b_an4 {x : Nat} (hx : x < 16) : bits .andNot .i64 (x : Int) 4 = ((x &&& (15 ^^^ 1 <<< 2) : Nat) : Int) := b_an (v := 2) hx (by decide)
theorem b_an8 {x : Nat} (hx : x < 16) : bits .andNot .i64 (x : Int) 8 = ((x &&& (15 ^^^ 1 <<< 3) : Nat) : Int) := b_an (v := 3) hx (by decide)

set_option maxHeartbeats 3200000 in
theorem l2Free_any (f : ByteArray) (hs : f.size ≤ 1048576) : ∀ (n : Nat) (x : Int) (k : Nat) (a : Fm) (e : Nat), x = k → At f k a e → f.size - k ≤ n → ∀ w : World,
    Calls Tryz.prog 157 #[.string f, .int .i64 x] w fun eo w' => eo = .returned (.tuple #[.int .i64 a.free, .int .i64 e]) ∧ w = w' := by
  intro n
  induction n with
  | zero => intro x k a e hx hat hn w; have := hat.lt; omega
  | succ n ih =>
    intro x k a e hx hat hn w
    have hlt := hat.lt.1
    subst hx
    have IH : Hid (∀ (x : Int) (j : Nat) (b : Fm) (e : Nat), x = j → k < j → At f j b e → ∀ w : World, Calls Tryz.prog 157 #[.string f, .int .i64 x] w fun eo w' => eo = .returned (.tuple #[.int .i64 b.free, .int .i64 e]) ∧ w = w') := fun x j b e h1 h2 h3 w => ih x j b e h1 h3 (by omega) w
    clear ih hn
    have hsz : f.size ≤ 9223372036854775807 := by omega
    by_cases h116 : f[k].toNat = 116
    · have hs0 := sort_of 116 h116 rfl
      have e116 : ((f[k].toNat : Int) == 116) = true := by simp; omega
      clear h116
      obtain ⟨rfl, rfl⟩ := inv_tf hlt hat hs0
      clear hs0 hat
      go_enter Tryz.func157, Tryz.ntmps157
      go_wp2
      go_ret2
      exact ⟨by first | rfl | go_num, rfl⟩
    have e116 : ((f[k].toNat : Int) == 116) = false := by simp; omega
    by_cases h102 : f[k].toNat = 102
    · have hs0 := sort_of 102 h102 rfl
      have e102 : ((f[k].toNat : Int) == 102) = true := by simp; omega
      clear h102
      obtain ⟨rfl, rfl⟩ := inv_tf hlt hat hs0
      clear hs0 hat
      go_enter Tryz.func157, Tryz.ntmps157
      go_wp2
      go_ret2
      exact ⟨by first | rfl | go_num, rfl⟩
    have e102 : ((f[k].toNat : Int) == 102) = false := by simp; omega
    by_cases h80 : f[k].toNat = 80
    · have hs0 := sort_of 80 h80 rfl
      have e80 : ((f[k].toNat : Int) == 80) = true := by simp; omega
      clear h80
      obtain ⟨m, hm, hv, rfl, rfl⟩ := inv_p hlt hat hs0
      have HV := Lib.hid hv
      clear hs0 hat hv
      obtain rfl | rfl | rfl | rfl : m = 0 ∨ m = 1 ∨ m = 2 ∨ m = 3 := by omega
      all_goals
        clear hm
        go_enter Tryz.func157, Tryz.ntmps157
        go_wp2_with fail
        refine (l2Var_any f _ (k + 1) (by go_num) _ hsz).mono ?_
        rintro eo w1 ⟨rfl, rfl⟩
        rw [HV.out]
        go_wp2
        go_ret2
        exact ⟨by first | rfl | go_num, rfl⟩
    have e80 : ((f[k].toNat : Int) == 80) = false := by simp; omega
    by_cases h61 : f[k].toNat = 61
    · have hs0 := sort_of 61 h61 rfl
      have e61 : ((f[k].toNat : Int) == 61) = true := by simp; omega
      clear h61
      obtain ⟨m, m2, hm, hm2, hv, hv2, rfl, rfl⟩ := inv_r hlt hat hs0
      have HV := Lib.hid hv
      have HV2 := Lib.hid hv2
      clear hs0 hat hv hv2
      obtain rfl | rfl | rfl | rfl : m = 0 ∨ m = 1 ∨ m = 2 ∨ m = 3 := by omega
      all_goals
        obtain rfl | rfl | rfl | rfl : m2 = 0 ∨ m2 = 1 ∨ m2 = 2 ∨ m2 = 3 := by omega
        all_goals
          clear hm hm2
          go_enter Tryz.func157, Tryz.ntmps157
          go_wp2_with fail
          refine (l2Var_any f _ (k + 1) (by go_num) _ hsz).mono ?_
          rintro eo w1 ⟨rfl, rfl⟩
          rw [HV.out]
          go_wp2_with fail
          refine (l2Var_any f _ (k + 2) (by go_num) _ hsz).mono ?_
          rintro eo w1 ⟨rfl, rfl⟩
          rw [HV2.out]
          go_wp2
          go_ret2
          exact ⟨by first | rfl | go_num, rfl⟩
    have e61 : ((f[k].toNat : Int) == 61) = false := by simp; omega
    by_cases h69 : f[k].toNat = 69
    · have hs0 := sort_of 69 h69 rfl
      have e69 : ((f[k].toNat : Int) == 69) = true := by simp; omega
      clear h69
      obtain ⟨m, m2, hm, hm2, hv, hv2, rfl, rfl⟩ := inv_r hlt hat hs0
      have HV := Lib.hid hv
      have HV2 := Lib.hid hv2
      clear hs0 hat hv hv2
      obtain rfl | rfl | rfl | rfl : m = 0 ∨ m = 1 ∨ m = 2 ∨ m = 3 := by omega
      all_goals
        obtain rfl | rfl | rfl | rfl : m2 = 0 ∨ m2 = 1 ∨ m2 = 2 ∨ m2 = 3 := by omega
        all_goals
          clear hm hm2
          go_enter Tryz.func157, Tryz.ntmps157
          go_wp2_with fail
          refine (l2Var_any f _ (k + 1) (by go_num) _ hsz).mono ?_
          rintro eo w1 ⟨rfl, rfl⟩
          rw [HV.out]
          go_wp2_with fail
          refine (l2Var_any f _ (k + 2) (by go_num) _ hsz).mono ?_
          rintro eo w1 ⟨rfl, rfl⟩
          rw [HV2.out]
          go_wp2
          go_ret2
          exact ⟨by first | rfl | go_num, rfl⟩
    have e69 : ((f[k].toNat : Int) == 69) = false := by simp; omega
    by_cases h33 : f[k].toNat = 33
    · have hs0 := sort_of 33 h33 rfl
      have e33 : ((f[k].toNat : Int) == 33) = true := by simp; omega
      clear h33
      obtain ⟨b, hb, rfl⟩ := inv_no hlt hat hs0
      have HB := Lib.hid hb
      clear hs0 hat hb
      go_enter Tryz.func157, Tryz.ntmps157
      go_wp2_with fail
      refine (IH.out _ (k + 1) b e (by go_num) (by omega) HB.out _).mono ?_
      rintro eo w1 ⟨rfl, rfl⟩
      go_wp2
      go_ret2
      exact ⟨by first | rfl | go_num, rfl⟩
    have e33 : ((f[k].toNat : Int) == 33) = false := by simp; omega
    by_cases h38 : f[k].toNat = 38
    · have hs0 := sort_of 38 h38 rfl
      have e38 : ((f[k].toNat : Int) == 38) = true := by simp; omega
      have HQ : Hid (isQ f[k].toNat = false) := by rw [h38]; rfl
      clear h38
      obtain ⟨b, d, j, hb, hd, rfl⟩ := inv_two hlt hat hs0
      have HB := Lib.hid hb
      have HD := Lib.hid hd
      have hj := hb.lt.2
      have z1 := Fm.free_lt hb.ok
      have z2 := Fm.free_lt hd.ok
      clear hs0 hat hb hd
      go_enter Tryz.func157, Tryz.ntmps157
      go_wp2_with fail
      refine (l2Quant_any _ _).mono ?_
      rintro eo w1 ⟨rfl, rfl⟩
      rw [HQ.out]
      go_wp2_with fail
      refine (IH.out _ (k + 1) b j (by go_num) (by omega) HB.out _).mono ?_
      rintro eo w1 ⟨rfl, rfl⟩
      go_wp2_with fail
      refine (IH.out _ j d e rfl (by omega) HD.out _).mono ?_
      rintro eo w1 ⟨rfl, rfl⟩
      go_wp2
      go_ret2
      exact ⟨by first | (rw [b_or z1 z2]; rfl) | (rw [b_an1 z1]; rfl) | (rw [b_an2 z1]; rfl) | (rw [b_an4 z1]; rfl) | (rw [b_an8 z1]; rfl), rfl⟩
    have e38 : ((f[k].toNat : Int) == 38) = false := by simp; omega
    by_cases h124 : f[k].toNat = 124
    · have hs0 := sort_of 124 h124 rfl
      have e124 : ((f[k].toNat : Int) == 124) = true := by simp; omega
      have HQ : Hid (isQ f[k].toNat = false) := by rw [h124]; rfl
      clear h124
      obtain ⟨b, d, j, hb, hd, rfl⟩ := inv_two hlt hat hs0
      have HB := Lib.hid hb
      have HD := Lib.hid hd
      have hj := hb.lt.2
      have z1 := Fm.free_lt hb.ok
      have z2 := Fm.free_lt hd.ok
      clear hs0 hat hb hd
      go_enter Tryz.func157, Tryz.ntmps157
      go_wp2_with fail
      refine (l2Quant_any _ _).mono ?_
      rintro eo w1 ⟨rfl, rfl⟩
      rw [HQ.out]
      go_wp2_with fail
      refine (IH.out _ (k + 1) b j (by go_num) (by omega) HB.out _).mono ?_
      rintro eo w1 ⟨rfl, rfl⟩
      go_wp2_with fail
      refine (IH.out _ j d e rfl (by omega) HD.out _).mono ?_
      rintro eo w1 ⟨rfl, rfl⟩
      go_wp2
      go_ret2
      exact ⟨by first | (rw [b_or z1 z2]; rfl) | (rw [b_an1 z1]; rfl) | (rw [b_an2 z1]; rfl) | (rw [b_an4 z1]; rfl) | (rw [b_an8 z1]; rfl), rfl⟩
    have e124 : ((f[k].toNat : Int) == 124) = false := by simp; omega
    by_cases h65 : f[k].toNat = 65
    · have hs0 := sort_of 65 h65 rfl
      have e65 : ((f[k].toNat : Int) == 65) = true := by simp; omega
      have HQ : Hid (isQ f[k].toNat = true) := by rw [h65]; rfl
      clear h65
      obtain ⟨m, b, hm, hv, hb, rfl⟩ := inv_qu hlt hat hs0
      have HB := Lib.hid hb
      have HV := Lib.hid hv
      have z1 := Fm.free_lt hb.ok
      clear hs0 hat hb hv
      obtain rfl | rfl | rfl | rfl : m = 0 ∨ m = 1 ∨ m = 2 ∨ m = 3 := by omega
      all_goals
        clear hm
        go_enter Tryz.func157, Tryz.ntmps157
        go_wp2_with fail
        refine (l2Quant_any _ _).mono ?_
        rintro eo w1 ⟨rfl, rfl⟩
        rw [HQ.out]
        go_wp2_with fail
        refine (IH.out _ (k + 2) b e (by go_num) (by omega) HB.out _).mono ?_
        rintro eo w1 ⟨rfl, rfl⟩
        go_wp2_with fail
        refine (l2Var_any f _ (k + 1) (by go_num) _ hsz).mono ?_
        rintro eo w1 ⟨rfl, rfl⟩
        rw [HV.out]
        go_wp2
        go_ret2
        exact ⟨by first | (rw [b_or z1 z2]; rfl) | (rw [b_an1 z1]; rfl) | (rw [b_an2 z1]; rfl) | (rw [b_an4 z1]; rfl) | (rw [b_an8 z1]; rfl), rfl⟩
    have e65 : ((f[k].toNat : Int) == 65) = false := by simp; omega
    by_cases h83 : f[k].toNat = 83
    · have hs0 := sort_of 83 h83 rfl
      have e83 : ((f[k].toNat : Int) == 83) = true := by simp; omega
      have HQ : Hid (isQ f[k].toNat = true) := by rw [h83]; rfl
      clear h83
      obtain ⟨m, b, hm, hv, hb, rfl⟩ := inv_qu hlt hat hs0
      have HB := Lib.hid hb
      have HV := Lib.hid hv
      have z1 := Fm.free_lt hb.ok
      clear hs0 hat hb hv
      obtain rfl | rfl | rfl | rfl : m = 0 ∨ m = 1 ∨ m = 2 ∨ m = 3 := by omega
      all_goals
        clear hm
        go_enter Tryz.func157, Tryz.ntmps157
        go_wp2_with fail
        refine (l2Quant_any _ _).mono ?_
        rintro eo w1 ⟨rfl, rfl⟩
        rw [HQ.out]
        go_wp2_with fail
        refine (IH.out _ (k + 2) b e (by go_num) (by omega) HB.out _).mono ?_
        rintro eo w1 ⟨rfl, rfl⟩
        go_wp2_with fail
        refine (l2Var_any f _ (k + 1) (by go_num) _ hsz).mono ?_
        rintro eo w1 ⟨rfl, rfl⟩
        rw [HV.out]
        go_wp2
        go_ret2
        exact ⟨by first | (rw [b_or z1 z2]; rfl) | (rw [b_an1 z1]; rfl) | (rw [b_an2 z1]; rfl) | (rw [b_an4 z1]; rfl) | (rw [b_an8 z1]; rfl), rfl⟩
    have e83 : ((f[k].toNat : Int) == 83) = false := by simp; omega
    by_cases h50 : f[k].toNat = 50
    · have hs0 := sort_of 50 h50 rfl
      have e50 : ((f[k].toNat : Int) == 50) = true := by simp; omega
      have HQ : Hid (isQ f[k].toNat = true) := by rw [h50]; rfl
      clear h50
      obtain ⟨m, b, hm, hv, hb, rfl⟩ := inv_qu hlt hat hs0
      have HB := Lib.hid hb
      have HV := Lib.hid hv
      have z1 := Fm.free_lt hb.ok
      clear hs0 hat hb hv
      obtain rfl | rfl | rfl | rfl : m = 0 ∨ m = 1 ∨ m = 2 ∨ m = 3 := by omega
      all_goals
        clear hm
        go_enter Tryz.func157, Tryz.ntmps157
        go_wp2_with fail
        refine (l2Quant_any _ _).mono ?_
        rintro eo w1 ⟨rfl, rfl⟩
        rw [HQ.out]
        go_wp2_with fail
        refine (IH.out _ (k + 2) b e (by go_num) (by omega) HB.out _).mono ?_
        rintro eo w1 ⟨rfl, rfl⟩
        go_wp2_with fail
        refine (l2Var_any f _ (k + 1) (by go_num) _ hsz).mono ?_
        rintro eo w1 ⟨rfl, rfl⟩
        rw [HV.out]
        go_wp2
        go_ret2
        exact ⟨by first | (rw [b_or z1 z2]; rfl) | (rw [b_an1 z1]; rfl) | (rw [b_an2 z1]; rfl) | (rw [b_an4 z1]; rfl) | (rw [b_an8 z1]; rfl), rfl⟩
    have e50 : ((f[k].toNat : Int) == 50) = false := by simp; omega
    by_cases h51 : f[k].toNat = 51
    · have hs0 := sort_of 51 h51 rfl
      have e51 : ((f[k].toNat : Int) == 51) = true := by simp; omega
      have HQ : Hid (isQ f[k].toNat = true) := by rw [h51]; rfl
      clear h51
      obtain ⟨m, b, hm, hv, hb, rfl⟩ := inv_qu hlt hat hs0
      have HB := Lib.hid hb
      have HV := Lib.hid hv
      have z1 := Fm.free_lt hb.ok
      clear hs0 hat hb hv
      obtain rfl | rfl | rfl | rfl : m = 0 ∨ m = 1 ∨ m = 2 ∨ m = 3 := by omega
      all_goals
        clear hm
        go_enter Tryz.func157, Tryz.ntmps157
        go_wp2_with fail
        refine (l2Quant_any _ _).mono ?_
        rintro eo w1 ⟨rfl, rfl⟩
        rw [HQ.out]
        go_wp2_with fail
        refine (IH.out _ (k + 2) b e (by go_num) (by omega) HB.out _).mono ?_
        rintro eo w1 ⟨rfl, rfl⟩
        go_wp2_with fail
        refine (l2Var_any f _ (k + 1) (by go_num) _ hsz).mono ?_
        rintro eo w1 ⟨rfl, rfl⟩
        rw [HV.out]
        go_wp2
        go_ret2
        exact ⟨by first | (rw [b_or z1 z2]; rfl) | (rw [b_an1 z1]; rfl) | (rw [b_an2 z1]; rfl) | (rw [b_an4 z1]; rfl) | (rw [b_an8 z1]; rfl), rfl⟩
    have e51 : ((f[k].toNat : Int) == 51) = false := by simp; omega
    by_cases h52 : f[k].toNat = 52
    · have hs0 := sort_of 52 h52 rfl
      have e52 : ((f[k].toNat : Int) == 52) = true := by simp; omega
      have HQ : Hid (isQ f[k].toNat = true) := by rw [h52]; rfl
      clear h52
      obtain ⟨m, b, hm, hv, hb, rfl⟩ := inv_qu hlt hat hs0
      have HB := Lib.hid hb
      have HV := Lib.hid hv
      have z1 := Fm.free_lt hb.ok
      clear hs0 hat hb hv
      obtain rfl | rfl | rfl | rfl : m = 0 ∨ m = 1 ∨ m = 2 ∨ m = 3 := by omega
      all_goals
        clear hm
        go_enter Tryz.func157, Tryz.ntmps157
        go_wp2_with fail
        refine (l2Quant_any _ _).mono ?_
        rintro eo w1 ⟨rfl, rfl⟩
        rw [HQ.out]
        go_wp2_with fail
        refine (IH.out _ (k + 2) b e (by go_num) (by omega) HB.out _).mono ?_
        rintro eo w1 ⟨rfl, rfl⟩
        go_wp2_with fail
        refine (l2Var_any f _ (k + 1) (by go_num) _ hsz).mono ?_
        rintro eo w1 ⟨rfl, rfl⟩
        rw [HV.out]
        go_wp2
        go_ret2
        exact ⟨by first | (rw [b_or z1 z2]; rfl) | (rw [b_an1 z1]; rfl) | (rw [b_an2 z1]; rfl) | (rw [b_an4 z1]; rfl) | (rw [b_an8 z1]; rfl), rfl⟩
    have e52 : ((f[k].toNat : Int) == 52) = false := by simp; omega
    exact (inv_bad hlt hat (sort_none (by
      intro n hn hc
      simp only [List.mem_cons, List.not_mem_nil, or_false] at hn
      omega))).elim
end Go.Proofs.YtpcnoiigbmiejaaGreatDoor.fmf

/- Formulas in the reference: images and fresh variables. -/
namespace Go.Proofs.YtpcnoiigbmiejaaGreatDoor.fmi
set_option linter.unusedVariables false
set_option linter.unusedSimpArgs false
open Go.ChangeShapes Go.WideShapes Go.ChangeAt Go.RowKit
open Go.Proofs.YtpcnoiigbmiejaaGreatDoor.lib Go.Proofs.YtpcnoiigbmiejaaGreatDoor.fm Go.Proofs.YtpcnoiigbmiejaaGreatDoor.fms Go.Proofs.YtpcnoiigbmiejaaGreatDoor.fmp Go.Proofs.YtpcnoiigbmiejaaGreatDoor.fmq Go.Proofs.YtpcnoiigbmiejaaGreatDoor.fme Go.Proofs.YtpcnoiigbmiejaaGreatDoor.fmf

theorem b_in0 : ∀ a : Fin 16, ∀ v : Fin 4, (bits .and .i64 (((a.1 : Nat) : Int) / ((2 ^ v.1 : Nat) : Int)) 1 == 1) = inS a.1 v.1 := by decide
end Go.Proofs.YtpcnoiigbmiejaaGreatDoor.fmi

/- Formulas in the reference: fresh variables and names. -/
namespace Go.Proofs.YtpcnoiigbmiejaaGreatDoor.fmj
set_option linter.unusedVariables false
set_option linter.unusedSimpArgs false
open Go.ChangeShapes Go.WideShapes Go.ChangeAt Go.RowKit
open Go.Proofs.YtpcnoiigbmiejaaGreatDoor.lib Go.Proofs.YtpcnoiigbmiejaaGreatDoor.fm Go.Proofs.YtpcnoiigbmiejaaGreatDoor.fms Go.Proofs.YtpcnoiigbmiejaaGreatDoor.fmp Go.Proofs.YtpcnoiigbmiejaaGreatDoor.fmq Go.Proofs.YtpcnoiigbmiejaaGreatDoor.fme Go.Proofs.YtpcnoiigbmiejaaGreatDoor.fmf Go.Proofs.YtpcnoiigbmiejaaGreatDoor.fmi

/-- the answer of fresh -/
def frI : Option Nat → Int
  | some u => (u : Nat)
  | none => -1
end Go.Proofs.YtpcnoiigbmiejaaGreatDoor.fmj
