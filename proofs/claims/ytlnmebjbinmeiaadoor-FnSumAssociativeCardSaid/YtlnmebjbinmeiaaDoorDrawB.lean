/- More draws: of, l15Many, l1Some, l1Element, l9Distance. -/
import Derived.Test.YtlnmebjbinmeiaaDoorDrawL
namespace Go.Proofs.YtlnmebjbinmeiaaDoor.draw
set_option linter.unusedVariables false
set_option linter.unusedSimpArgs false
open Go.ChangeShapes Go.WideShapes Go.ChangeAt Go.RowKit
open Go.Proofs.YtlnmebjbinmeiaaDoor.lib Go.Proofs.YtlnmebjbinmeiaaDoor.st Go.Proofs.YtlnmebjbinmeiaaDoor.flow Go.Proofs.YtlnmebjbinmeiaaDoor.chain

/-- what a draw from a written list of short strings leaves -/
def OneStr (w : World) (R : Nat) (ao : Option Addr) (len cap p : Nat) (e : Ending) (w' : World) : Prop :=
  ∃ x : ByteArray, x.size ≤ 2 ∧ e = .returned (.string x) ∧ Rd w' R ao len cap (p + 1) ∧ w.grownBy w' (some R)
set_option maxHeartbeats 800000 in
theorem of_any (R : Nat) (ao : Option Addr) (len cap p : Nat) (b c n : Nat) (w : World) (h : Rd w R ao len cap p) (hp : p ≤ 1000000000) (h0 : 1 ≤ n) (h1 : n ≤ 1000000000)
    (hb : b ≠ R) (hl : ∀ i, i < n → ∃ x : ByteArray, x.size ≤ 2 ∧ w.cell? ⟨b, i, none⟩ = some (.string x)) :
    Calls Tryd.prog 118 #[.pointer (some ⟨R, 0, none⟩), .slice (some ⟨b, 0, none⟩) n c] w (OneStr w R ao len cap p) := by
  have HL := Lib.hid hl
  clear hl
  go_enter Tryd.func118, Tryd.ntmps118
  go_wp2_with fail
  refine (pick_any R ao len cap p n w h hp h0 h1).mono ?_
  rintro e w1 ⟨v, hv, rfl, hr, hg⟩
  obtain ⟨x, hx, hcx⟩ := HL.out v hv
  have hc := hg.cell hcx (by simpa using hb)
  have R1 := Lib.hid (show _ ∧ _ from ⟨hr, hg⟩)
  clear hr hg hcx
  go_wp2
  go_ret
  exact ⟨x, hx, rfl, R1.out.1, R1.out.2⟩
theorem of_lit (R : Nat) (ao : Option Addr) (len cap p n H : Nat) (A : Array Value) (W : World) (h : Rd W R ao len cap p) (hp : p ≤ 1000000000) (h0 : 1 ≤ n) (h1 : n ≤ 1000000000) (hA : ∀ i, i < n → ∃ x : ByteArray, x.size ≤ 2 ∧ A[i]? = some (.string x)) (hH : W.heap.size = H) (T : TypeId) :
    Calls Tryd.prog 118 #[.pointer (some ⟨R, 0, none⟩), .slice (some ⟨H, 0, none⟩) n n] (W.alloc (.cells A T)) (OneStr (W.alloc (.cells A T)) R ao len cap p) := by
  subst hH
  have hR := h.lt
  refine of_any R ao len cap p W.heap.size n n _ (h.alloc _) hp h0 h1 (by omega) fun i hi => ?_
  obtain ⟨x, hx, he⟩ := hA i hi
  refine ⟨x, hx, ?_⟩
  have hh := heap_alloc_new W (.cells A T)
  simp only [World.cell?, hh]
  exact he

/-- a text that is repeated: its size alone matters -/
theorem many_any (s0 : ByteArray) (C : Nat) (w : World) (hs : s0.size = 1) (hC : C ≤ 1000) :
    Calls Tryd.prog 119 #[.string s0, .int .i64 C] w fun e w' => ∃ x : ByteArray, x.size = C ∧ e = .returned (.string x) ∧ w = w' := by
  have hs' : s0.size ≤ 1 := by omega
  have HS := Lib.hid hs
  clear hs
  go_enter Tryd.func119, Tryd.ntmps119
  go_wp2
  go_loop [0, 1, 5] (fun s n o => ∃ (k : Nat) (a b : ByteArray), n = .int .i64 k ∧ s = .string a ∧ o = .string b ∧ Hid (b.size + k * a.size = C) ∧ k ≤ C ∧ a.size ≤ 2 * C + 1 ∧ b.size ≤ C) (fun _ n _ => (intOf n).toNat)
  case atStart => exact ⟨C, s0, ⟨#[]⟩, rfl, rfl, rfl, by rw [Hid, HS.out]; show 0 + C * 1 = C; omega, Nat.le_refl _, by omega, Nat.zero_le _⟩
  case round =>
    obtain ⟨k, a, b, rfl, rfl, rfl, hsum, hk, ha, hb⟩ := hrel
    by_cases h0 : 0 < k
    · have hka : a.size ≤ C := by
        have h1 := hsum.out
        have : 1 * a.size ≤ k * a.size := Nat.mul_le_mul_right _ h0
        omega
      by_cases hodd : k % 2 = 1
      · obtain ⟨j, rfl⟩ : ∃ j, k = 2 * j + 1 := ⟨k / 2, by omega⟩
        have hs1 := hsum.out
        have e1 : (2 * j + 1) * a.size = j * (a.size + a.size) + a.size := by rw [Nat.add_mul, Nat.mul_assoc, Nat.mul_add, Nat.one_mul]; omega
        have hq : (b ++ a).size = b.size + a.size := ByteArray.size_append
        have hq2 : (a ++ a).size = a.size + a.size := ByteArray.size_append
        have hba : (b ++ a).size ≤ C := by
          have : 0 ≤ j * (a.size + a.size) := Nat.zero_le _
          omega
        have R : Hid ((b ++ a).size + j * (a ++ a).size = C ∧ (a ++ a).size ≤ 2 * C + 1 ∧ (b ++ a).size ≤ C) := ⟨by rw [hq2]; omega, by omega, hba⟩
        have t1 : ((((2 * j + 1 : Nat) : Int)) % 2 == 1) = true := by first | (simp; done) | (simp; omega)
        have t2 : (((2 * j + 1 : Nat) : Int)) / 2 = (j : Int) := by omega
        clear hs1 e1 hq hq2 hba hodd hsum
        go_wp2
        go_round
        case rel => exact ⟨j, a ++ a, b ++ a, by first | rfl | (rw [t2]) | (congr 1 <;> omega), rfl, rfl, R.out.1, by omega, R.out.2.1, R.out.2.2⟩
        case measure => simp [intOf] <;> omega
      · obtain ⟨j, rfl⟩ : ∃ j, k = 2 * j := ⟨k / 2, by omega⟩
        have hs1 := hsum.out
        have e1 : (2 * j) * a.size = j * (a.size + a.size) := by first | (rw [Nat.mul_add, Nat.mul_assoc]; done) | (rw [Nat.mul_add, Nat.mul_assoc]; omega) | (rw [Nat.mul_comm 2 j, Nat.mul_assoc, Nat.two_mul])
        have hq2 : (a ++ a).size = a.size + a.size := ByteArray.size_append
        have R : Hid (b.size + j * (a ++ a).size = C ∧ (a ++ a).size ≤ 2 * C + 1) := ⟨by rw [hq2]; omega, by omega⟩
        have t1 : ((((2 * j : Nat) : Int)) % 2 == 1) = false := by first | (simp; done) | (simp; omega)
        have t2 : (((2 * j : Nat) : Int)) / 2 = (j : Int) := by omega
        clear hs1 e1 hq2 hodd hsum
        go_wp2
        go_round
        case rel => exact ⟨j, a ++ a, b, by first | rfl | (rw [t2]) | (congr 1 <;> omega), rfl, rfl, R.out.1, by omega, R.out.2, hb⟩
        case measure => simp [intOf] <;> omega
    · obtain rfl : 0 = k := by omega
      have R : Hid (b.size = C) := by have := hsum.out; unfold Hid; omega
      clear hsum
      go_wp2
      go_ret
      exact ⟨b, R.out, rfl, rfl⟩
set_option maxHeartbeats 800000 in
theorem l1Some_any (R : Nat) (ao : Option Addr) (len cap p : Nat) (w : World) (h : Rd w R ao len cap p) (hp : p ≤ 90000000) :
    Calls Tryd.prog 106 #[.pointer (some ⟨R, 0, none⟩)] w (DrawnS w R ao len cap (p + 201)) := by
  have hRl := h.lt
  have H := Lib.hid h
  have B0 : Hid (Box 25 (w.alloc (.cells #[.int .i64 0, .string ⟨#[]⟩, .string ⟨#[]⟩] 25)) w.heap.size 0 ⟨#[]⟩ ⟨#[]⟩) := Box.new _ w _ rfl _ _ _
  clear h
  go_enter Tryd.func106, Tryd.ntmps106
  go_wp2_with fail
  refine (num_lit R ao len cap p 6 (w.heap.size + 1) _ [3, 4, 2, 1, 5, 3] _ (H.out.alloc _) (by omega) rfl rfl (by decide) (by decide) (by simp)).mono ?_
  rintro e w1 ⟨x, hx, rfl, hr, hg⟩
  obtain ⟨N, rfl, hN1, hN2⟩ : ∃ N : Nat, x = N ∧ 1 ≤ N ∧ N ≤ 8 := by
    simp at hx
    exact ⟨x.toNat, by omega, by omega, by omega⟩
  have HP := Lib.hid (show _ ∧ _ ∧ _ from ⟨hr, grown_trans (grown_alloc (World.grownBy_alloc w _ _) _) hg, Box.kept (row := some R) (B0.out.below ((Below.refl (w.heap.size + 1) _).alloc (by simp) _) (by omega)) hg (by simp; omega)⟩)
  clear hr hg hx
  go_wp2_with fail
  refine (l1Draw_any R ao len cap (p + 1) N _ HP.out.1 (by omega) hN1 hN2).mono ?_
  rintro e w2 ⟨s, r, p2, rfl, hs, hr, hsb, hrb, hrd, hp2, hg⟩
  have hb0 := Box.kept (row := some R) HP.out.2.2 hg (by simp; omega)
  have HF := Lib.hid (ret_struct (w := w2) N s r hb0)
  obtain ⟨z0, z1, z2⟩ := hb0.c
  have g0 := hb0.free 0
  have g1 := hb0.free 1
  have g2 := hb0.free 2
  have RES : Hid (Rd (((w2.setCell ⟨w.heap.size, 0, none⟩ (.int .i64 N)).setCell ⟨w.heap.size, 1, none⟩ (.string s)).setCell ⟨w.heap.size, 2, none⟩ (.string r)) R ao len cap p2 ∧ w.grownBy (((w2.setCell ⟨w.heap.size, 0, none⟩ (.int .i64 N)).setCell ⟨w.heap.size, 1, none⟩ (.string s)).setCell ⟨w.heap.size, 2, none⟩ (.string r)) (some R)) :=
    ⟨((hrd.setNew hRl).setNew hRl).setNew hRl, grown_new (grown_new (grown_new (grown_trans HP.out.2.1 hg) (Nat.le_refl _)) (Nat.le_refl _)) (Nat.le_refl _)⟩
  have HZ := Lib.hid (show _ ∧ _ ∧ _ ∧ _ ∧ _ from ⟨hs, hr, hsb, hrb, hp2⟩)
  clear hs hr hsb hrb hrd hp2 hg hb0
  go_wp2
  exact bodyPost_ret (v := .agg #[.int .i64 N, .string s, .string r]) (by simp [results, Tryd.results106, go_sem, HF.out.1, HF.out.2.1, HF.out.2.2]) rfl ⟨N, s, r, p2, rfl, hN1, hN2, HZ.out.1, HZ.out.2.1, HZ.out.2.2.1, HZ.out.2.2.2.1, RES.out.1, by have := HZ.out.2.2.2.2; omega, RES.out.2⟩


theorem l1Element_any (R : Nat) (ao : Option Addr) (len cap p : Nat) (w : World) (h : Rd w R ao len cap p) (hp : p ≤ 90000000) :
    Calls Tryd.prog 90 #[.pointer (some ⟨R, 0, none⟩)] w fun e w' => ∃ x : Int, e = .returned (.int .i64 x) ∧ (Lit.int .i64 x).wf = true ∧ Rd w' R ao len cap (p + 2) ∧ w.grownBy w' (some R) := by
  have H := Lib.hid h
  clear h
  go_enter Tryd.func90, Tryd.ntmps90
  go_wp2_with fail
  refine (pick_any R ao len cap p 20 _ H.out (by omega) (by omega) (by omega)).mono ?_
  rintro e w1 ⟨v, hv, rfl, hr, hg⟩
  have HP := Lib.hid (show _ ∧ _ from ⟨hr, hg⟩)
  clear hr hg
  by_cases h0 : v = 0
  · subst h0
    go_wp2_with fail
    refine (num_lit R ao len cap (p + 1) 4 w1.heap.size _ [-1, 8, 7, 9223372036854775807] _ HP.out.1 (by omega) rfl rfl (by decide) (by decide) rfl).mono ?_
    rintro e w2 ⟨x, hx, rfl, hr, hg⟩
    have R2 : Hid ((Lit.int .i64 x).wf = true ∧ Rd w2 R ao len cap (p + 2) ∧ w.grownBy w2 (some R)) := by
      refine ⟨?_, hr, grown_trans (grown_alloc HP.out.2 _) hg⟩
      simp at hx
      rcases hx with rfl | rfl | rfl | rfl <;> decide
    clear hx hr hg
    go_wp2
    go_ret
    exact ⟨x, rfl, R2.out.1, R2.out.2.1, R2.out.2.2⟩
  · have t1 : ((v : Int) == 0) = false := by simp; omega
    clear h0
    go_wp2_with fail
    refine (pick_any R ao len cap (p + 1) 4 _ HP.out.1 (by omega) (by omega) (by omega)).mono ?_
    rintro e w2 ⟨x, hx, rfl, hr, hg⟩
    have R2 : Hid ((Lit.int .i64 x).wf = true ∧ Rd w2 R ao len cap (p + 2) ∧ w.grownBy w2 (some R)) := by
      refine ⟨?_, hr, grown_trans HP.out.2 hg⟩
      have : x = 0 ∨ x = 1 ∨ x = 2 ∨ x = 3 := by omega
      rcases this with rfl | rfl | rfl | rfl <;> decide
    clear hr hg
    go_wp2
    go_ret
    exact ⟨x, rfl, R2.out.1, R2.out.2.1, R2.out.2.2⟩
theorem l9Distance_any (R : Nat) (ao : Option Addr) (len cap p : Nat) (w : World) (h : Rd w R ao len cap p) (hp : p ≤ 90000000) :
    Calls Tryd.prog 94 #[.pointer (some ⟨R, 0, none⟩)] w fun e w' => ∃ x : Int, e = .returned (.int .i64 x) ∧ (-1 ≤ x ∧ x ≤ 101) ∧ Rd w' R ao len cap (p + 1) ∧ w.grownBy w' (some R) := by
  have H := Lib.hid h
  clear h
  go_enter Tryd.func94, Tryd.ntmps94
  go_wp2_with fail
  refine (num_lit R ao len cap p 10 w.heap.size _ [1, 2, 0, 1, 3, 4, 100, 101, -1, 1] _ H.out (by omega) rfl rfl (by decide) (by decide) rfl).mono ?_
  rintro e w2 ⟨x, hx, rfl, hr, hg⟩
  have R2 : Hid ((-1 ≤ x ∧ x ≤ 101) ∧ Rd w2 R ao len cap (p + 1) ∧ w.grownBy w2 (some R)) := by
    refine ⟨?_, hr, grown_trans (World.grownBy_alloc w _ _) hg⟩
    simp at hx
    omega
  clear hx hr hg
  go_wp2
  go_ret
  exact ⟨x, rfl, R2.out.1, R2.out.2.1, R2.out.2.2⟩
end Go.Proofs.YtlnmebjbinmeiaaDoor.draw
