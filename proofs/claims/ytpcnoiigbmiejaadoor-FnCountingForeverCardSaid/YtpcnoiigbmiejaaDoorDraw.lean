/- The drawing source: l15Open, pick, num: their contracts. -/
import Derived.Test.YtpcnoiigbmiejaaDoorRows
import Derived.Test.YtpcnoiigbmiejaaDoorLib
import Derived.Laws.Bits64
import Derived.IntWalk
import Derived.Deep.QuietTactic
import Derived.BigQuiet
namespace Go.Proofs.YtpcnoiigbmiejaaDoor.draw
set_option linter.unusedVariables false
set_option linter.unusedSimpArgs false
open Go.ChangeShapes Go.WideShapes Go.ChangeAt Go.RowKit
open Go.Proofs.YtpcnoiigbmiejaaDoor.lib

theorem xor_i64 (a b : Nat) (ha : a < 9223372036854775808) (hb : b < 9223372036854775808) : bits .xor .i64 (a : Int) (b : Int) = ((a ^^^ b : Nat) : Int) := by
  have hx : a ^^^ b < 2 ^ 63 := Nat.xor_lt_two_pow (by omega) (by omega)
  have h1 : (BitVec.ofInt 64 (a : Int)).toNat = a := by
    rw [BitVec.ofInt_natCast, BitVec.toNat_ofNat]; exact Nat.mod_eq_of_lt (by omega)
  have h2 : (BitVec.ofInt 64 (b : Int)).toNat = b := by
    rw [BitVec.ofInt_natCast, BitVec.toNat_ofNat]; exact Nat.mod_eq_of_lt (by omega)
  show IntKind.i64.wrap ((BitVec.ofInt 64 (a : Int) ^^^ BitVec.ofInt 64 (b : Int)).toNat : Int) = _
  rw [BitVec.toNat_xor, h1, h2, IntWalk.i64_in _ (by omega)]

/-- bytes that may be read, ahead of block R -/
def Byt (w : World) (R : Nat) (ao : Option Addr) (len : Nat) : Prop :=
  len = 0 ∨ ∃ b off, ao = some ⟨b, off, none⟩ ∧ b < R ∧ ∀ i, i < len → ∃ z : Nat, z ≤ 255 ∧ w.cell? ⟨b, off + i, none⟩ = some (.int .u8 z)
/-- block R is a drawing source over these bytes, p of them read -/
structure Rd (w : World) (R : Nat) (ao : Option Addr) (len cap p : Nat) : Prop where
  blk : w.heap[R]? = some (.cells #[.slice ao len cap, .int .i64 p] 94 (0, 0))
  byt : Byt w R ao len
  len : len ≤ 2000
theorem Rd.c {w : World} {R : Nat} {ao : Option Addr} {len cap p : Nat} (h : Rd w R ao len cap p) : w.cell? ⟨R, 0, none⟩ = some (.slice ao len cap) ∧ w.cell? ⟨R, 1, none⟩ = some (.int .i64 p) ∧ w.frozen? ⟨R, 1, none⟩ = false := by
  have hb := h.blk
  refine ⟨by simp [World.cell?, hb], by simp [World.cell?, hb], frozen_of_row w R 1 _ _ hb⟩
theorem Byt.keep {w w' : World} {R : Nat} {ao : Option Addr} {len : Nat} (h : Byt w R ao len) (hb : ∀ k, k < R → w'.heap[k]? = w.heap[k]?) : Byt w' R ao len := by
  rcases h with h | ⟨b, off, rfl, hR, hc⟩
  · exact .inl h
  · refine .inr ⟨b, off, rfl, hR, fun i hi => ?_⟩
    obtain ⟨z, hz, hcell⟩ := hc i hi
    refine ⟨z, hz, ?_⟩
    rw [World.cell?_of_block (w := w) (w' := w') (a := ⟨b, off + i, none⟩) (hb b hR)]
    exact hcell
theorem Rd.lt {w : World} {R : Nat} {ao : Option Addr} {len cap p : Nat} (h : Rd w R ao len cap p) : R < w.heap.size := (Array.getElem?_eq_some_iff.1 h.blk).1
theorem Rd.kept {w w' : World} {R : Nat} {ao : Option Addr} {len cap p : Nat} {row : Option Nat} (h : Rd w R ao len cap p) (hg : w.grownBy w' row) (hne : ∀ k, row = some k → R < k) : Rd w' R ao len cap p := by
  have hR := h.lt
  have hrow : ∀ k, k ≤ R → some k ≠ row := fun k hk e => by have := hne k e.symm; omega
  exact ⟨by rw [hg.block R hR (hrow R (Nat.le_refl _))]; exact h.blk, h.byt.keep fun k hk => hg.block _ (by omega) (hrow _ (by omega)), h.len⟩
theorem Rd.below {w w' : World} {R C : Nat} {ao : Option Addr} {len cap p : Nat} (h : Rd w R ao len cap p) (hb : Below C w w') (hC : R < C) : Rd w' R ao len cap p :=
  ⟨by rw [hb.block R hC]; exact h.blk, h.byt.keep fun k hk => hb.block _ (by omega), h.len⟩
theorem Rd.set {w : World} {R : Nat} {ao : Option Addr} {len cap p : Nat} (h : Rd w R ao len cap p) (q : Nat) : Rd (w.setCell ⟨R, 1, none⟩ (.int .i64 q)) R ao len cap q := by
  refine ⟨?_, h.byt.keep fun k hk => heap_setCell_other _ _ _ _ (by show k ≠ R; omega), h.len⟩
  rw [heap_setCell_same _ _ _ _ _ _ h.blk]; rfl
theorem grown_setCell (w : World) (R o : Nat) (v : Value) : w.grownBy (w.setCell ⟨R, o, none⟩ v) (some R) :=
  ⟨rfl, rfl, rfl, by simp, fun k hk hne => heap_setCell_other _ _ _ _ (fun e => hne (by rw [e]))⟩
theorem grown_drewN (w : World) (n : Nat) (row : Option Nat) : w.grownBy (w.drewN n) row := ⟨rfl, rfl, rfl, Nat.le_refl _, fun _ _ _ => rfl⟩

/-- what a draw of a number below N leaves -/
def Picked (w : World) (R : Nat) (ao : Option Addr) (len cap p N : Nat) (e : Ending) (w' : World) : Prop :=
  ∃ v : Nat, v < N ∧ e = .returned (.int .i64 v) ∧ Rd w' R ao len cap (p + 1) ∧ w.grownBy w' (some R)

set_option maxHeartbeats 1600000 in
theorem pick_any (R : Nat) (ao : Option Addr) (len cap p N : Nat) (w : World) (h : Rd w R ao len cap p) (hp : p ≤ 1000000000) (hN : 1 ≤ N) (hN2 : N ≤ 1000000000) :
    Calls Tryd.prog 46 #[.pointer (some ⟨R, 0, none⟩), .int .i64 N] w (Picked w R ao len cap p N) := by
  obtain ⟨c0, c1, c2⟩ := h.c
  have hlen := h.len
  have R1 : Hid (Rd (w.setCell ⟨R, 1, none⟩ (.int .i64 ((p : Int) + 1))) R ao len cap (p + 1)) := h.set (p + 1)
  have H := Lib.hid h
  clear h
  by_cases hl0 : len = 0
  · subst hl0
    go_enter Tryd.func46, Tryd.ntmps46
    go_wp2
    go_ret
    exact ⟨0, by omega, rfl, R1.out, grown_setCell _ _ _ _⟩
  · obtain ⟨b, off, rfl, hbR, hby⟩ : ∃ b off, ao = some ⟨b, off, none⟩ ∧ b < R ∧ ∀ i, i < len → ∃ z : Nat, z ≤ 255 ∧ w.cell? ⟨b, off + i, none⟩ = some (.int .u8 z) := by
      rcases H.out.byt with h | h
      · exact absurd h hl0
      · exact h
    have hne : ¬ b = R := by omega
    have t1 : decide ((N : Int) < 1) = false := by simp; omega
    have t2 : ((len : Int) == 0) = false := by simp; omega
    by_cases hk : p < len
    · obtain ⟨z, hz, hcz⟩ := hby p hk
      clear hby
      go_enter Tryd.func46, Tryd.ntmps46
      go_wp2
      go_ret
      refine ⟨z % N, Nat.mod_lt _ (by omega), ?_, R1.out, grown_setCell _ _ _ _⟩
      simp
    · obtain ⟨I1, hI1⟩ : ∃ I, I = p % len := ⟨_, rfl⟩
      obtain ⟨I2, hI2⟩ : ∃ I, I = (p * 7 + 3) % len := ⟨_, rfl⟩
      have i1 : I1 < len := by rw [hI1]; exact Nat.mod_lt _ (by omega)
      have i2 : I2 < len := by rw [hI2]; exact Nat.mod_lt _ (by omega)
      obtain ⟨z, hz, hcz⟩ := hby I1 i1
      obtain ⟨z2, hz2, hcz2⟩ := hby I2 i2
      obtain ⟨D, hD⟩ : ∃ D, D = p / len := ⟨_, rfl⟩
      have hDp : D ≤ p := by rw [hD]; exact Nat.div_le_self _ _
      have e1 : (p : Int).tmod (len : Int) = (I1 : Int) := by rw [hI1]; rfl
      obtain ⟨B, hB⟩ : ∃ B, B = p * 7 := ⟨_, rfl⟩
      have e2 : IntKind.i64.wrap ((p : Int) * 7) = (B : Int) := by rw [IntWalk.i64_in _ (by omega)]; omega
      obtain ⟨A, hA⟩ : ∃ A, A = B + 3 := ⟨_, rfl⟩
      have e3 : IntKind.i64.wrap ((B : Int) + 3) = (A : Int) := by rw [IntWalk.i64_in _ (by omega)]; omega
      have e4 : (A : Int).tmod (len : Int) = (I2 : Int) := by rw [hI2, ← hB, ← hA]; rfl
      obtain ⟨Z1, hZ1⟩ : ∃ Z, Z = z * 131 := ⟨_, rfl⟩
      have e5 : IntKind.i64.wrap ((z : Int) * 131) = (Z1 : Int) := by rw [IntWalk.i64_in _ (by omega)]; omega
      obtain ⟨Z2, hZ2⟩ : ∃ Z, Z = z2 * 1117 := ⟨_, rfl⟩
      have e6 : IntKind.i64.wrap ((z2 : Int) * 1117) = (Z2 : Int) := by rw [IntWalk.i64_in _ (by omega)]; omega
      obtain ⟨Z3, hZ3⟩ : ∃ Z, Z = Z1 + Z2 := ⟨_, rfl⟩
      have e7 : IntKind.i64.wrap ((Z1 : Int) + (Z2 : Int)) = (Z3 : Int) := by rw [IntWalk.i64_in _ (by omega)]; omega
      obtain ⟨P29, hP29⟩ : ∃ Z, Z = p * 29 := ⟨_, rfl⟩
      have e8 : IntKind.i64.wrap ((p : Int) * 29) = (P29 : Int) := by rw [IntWalk.i64_in _ (by omega)]; omega
      obtain ⟨Z4, hZ4⟩ : ∃ Z, Z = Z3 + P29 := ⟨_, rfl⟩
      have e9 : IntKind.i64.wrap ((Z3 : Int) + (P29 : Int)) = (Z4 : Int) := by rw [IntWalk.i64_in _ (by omega)]; omega
      have e10 : IntKind.i64.wrap ((p : Int).tdiv (len : Int)) = (D : Int) := by
        have : (p : Int).tdiv (len : Int) = (D : Int) := by rw [hD]; rfl
        rw [this, IntWalk.i64_in _ (by omega)]
      have e10' : IntKind.i64.wrap ((p : Int) / (len : Int)) = (D : Int) := by
        have : (p : Int) / (len : Int) = (D : Int) := by rw [hD]; rfl
        rw [this, IntWalk.i64_in _ (by omega)]
      obtain ⟨D2, hD2⟩ : ∃ Z, Z = D * 53 := ⟨_, rfl⟩
      have e11 : IntKind.i64.wrap ((D : Int) * 53) = (D2 : Int) := by rw [IntWalk.i64_in _ (by omega)]; omega
      obtain ⟨X, hX⟩ : ∃ Z, Z = Z4 + D2 := ⟨_, rfl⟩
      have e12 : IntKind.i64.wrap ((Z4 : Int) + (D2 : Int)) = (X : Int) := by rw [IntWalk.i64_in _ (by omega)]; omega
      have hXb : X < 9000000000000000000 := by omega
      obtain ⟨Y, hY⟩ : ∃ Y, Y = X ^^^ (X / 64) := ⟨_, rfl⟩
      have e13 : bits .xor .i64 (X : Int) ((X : Int) / 64) = (Y : Int) := by
        rw [hY, show ((X : Int) / 64) = ((X / 64 : Nat) : Int) from by omega]; exact xor_i64 _ _ (by omega) (by omega)
      clear hby hI1 hI2 hD hB hA hZ1 hZ2 hZ3 hP29 hZ4 hD2 hX hY
      have i1' : (I1 : Int) < (len : Int) := by omega
      have i2' : (I2 : Int) < (len : Int) := by omega
      go_enter Tryd.func46, Tryd.ntmps46
      go_wp2
      go_quiet (fail)
      go_wp2
      go_ret
      refine ⟨Y % N, Nat.mod_lt _ (by omega), by simp, R1.out.kept (row := none) (grown_drewN _ _ _) (fun _ h => by cases h), ?_⟩
      exact grown_trans (grown_setCell _ _ _ _) (grown_drewN _ _ _)

/-- what a draw from a list leaves -/
def Chosen (w : World) (R : Nat) (ao : Option Addr) (len cap p : Nat) (l : List Int) (e : Ending) (w' : World) : Prop :=
  ∃ i : Nat, i < l.length ∧ e = .returned (.int .i64 (l.getD i 0)) ∧ Rd w' R ao len cap (p + 1) ∧ w.grownBy w' (some R)
set_option maxHeartbeats 800000 in
theorem num_any (R : Nat) (ao : Option Addr) (len cap p : Nat) (b off c : Nat) (l : List Int) (w : World) (h : Rd w R ao len cap p) (hp : p ≤ 1000000000) (h0 : 1 ≤ l.length) (h1 : l.length ≤ 1000000000)
    (hb : b ≠ R) (hl : ∀ i, i < l.length → w.cell? ⟨b, off + i, none⟩ = some (.int .i64 (l.getD i 0))) :
    Calls Tryd.prog 48 #[.pointer (some ⟨R, 0, none⟩), .slice (some ⟨b, off, none⟩) l.length c] w (Chosen w R ao len cap p l) := by
  obtain ⟨N, hN⟩ : ∃ N, N = l.length := ⟨_, rfl⟩
  have HL := Lib.hid (show _ ∧ _ from ⟨hl, hN⟩)
  rw [← hN] at h0 h1 ⊢
  clear hl hN
  go_enter Tryd.func48, Tryd.ntmps48
  go_wp2_with fail
  refine (pick_any R ao len cap p N w h hp h0 h1).mono ?_
  rintro e w1 ⟨v, hv, rfl, hr, hg⟩
  have hc := hg.cell (HL.out.1 v (by have := HL.out.2; omega)) (by simpa using hb)
  have R1 := Lib.hid (show _ ∧ _ from ⟨hr, hg⟩)
  clear hr hg
  go_wp2
  go_ret
  exact ⟨v, by have := HL.out.2; omega, rfl, R1.out.1, R1.out.2⟩
/-- the same for a list that was just written out -/
theorem cells_ivs (w : World) (T : TypeId) (l : List Int) (H : Nat) (hH : w.heap.size = H) (i : Nat) (hi : i < l.length) : (w.alloc (.cells (ivs l).toArray T)).cell? ⟨H, i, none⟩ = some (.int .i64 (l.getD i 0)) := by
  subst hH
  have := ivs_get l i hi
  have h := heap_alloc_new w (.cells (ivs l).toArray T)
  simp only [World.cell?, h]
  simpa using this

/-- what the opening of a source leaves -/
def Opened (w : World) (e : Ending) (w' : World) : Prop :=
  ∃ (R : Nat) (ao : Option Addr) (len cap : Nat), e = .returned (.pointer (some ⟨R, 0, none⟩)) ∧ Rd w' R ao len cap 0 ∧ w.heap.size = R ∧ Below w.heap.size w w'
theorem Rd.new (w : World) (ao : Option Addr) (len cap : Nat) (hl : len ≤ 2000) (h : Byt w w.heap.size ao len) : Rd (w.alloc (.cells #[.slice ao len cap, .int .i64 0] 94)) w.heap.size ao len cap 0 :=
  ⟨heap_alloc_new w _, h.keep fun k hk => heap_alloc_old w _ hk, hl⟩
theorem Byt.le {w : World} {R : Nat} {ao : Option Addr} {len m : Nat} (h : Byt w R ao len) (hm : m ≤ len) : Byt w R ao m := by
  rcases h with h | ⟨b, off, rfl, hR, hc⟩
  · exact .inl (by omega)
  · exact .inr ⟨b, off, rfl, hR, fun i hi => hc i (by omega)⟩
theorem open_any (ao : Option Addr) (len cap : Nat) (w : World) (h : Byt w w.heap.size ao len) (hc : len ≤ cap) (hm : cap ≤ 9223372036854775807) :
    Calls Tryd.prog 44 #[.slice ao len cap] w (Opened w) := by
  have H := Lib.hid h
  have HB : Hid (∀ c, Below w.heap.size w (w.alloc (.cells c 94))) := fun c => (Below.refl _ _).alloc (Nat.le_refl _) _
  clear h
  by_cases hl : len ≤ 2000
  · go_enter Tryd.func44, Tryd.ntmps44
    go_wp2
    go_ret
    exact ⟨_, ao, len, cap, rfl, Rd.new w ao len cap hl H.out, rfl, HB.out _⟩
  · go_enter Tryd.func44, Tryd.ntmps44
    go_wp2
    go_ret
    exact ⟨_, ao, 2000, cap, rfl, Rd.new w ao 2000 cap (by omega) (H.out.le (by omega)), rfl, HB.out _⟩
end Go.Proofs.YtpcnoiigbmiejaaDoor.draw
