/- Several texts in one: Draw, DrawS, DrawL, DrawB, DrawC, DrawE, DrawF. -/
import Derived.Test.YtpcnoiigbmiejaaDoorRows
import Derived.Test.YtpcnoiigbmiejaaDoorPk1
import Derived.Laws.Bits64
import Derived.IntWalk
import Derived.Deep.QuietTactic
import Derived.BigQuiet
import Derived.Deep.CutRange
import Derived.Deep.CutBlock
import Derived.Laws.Concat
import Derived.WalkSpells
/- The drawing source: l15Open, pick, num: their contracts. -/
namespace Go.Proofs.YtpcnoiigbmiejaaDoor.draw
set_option linter.unusedVariables false
set_option linter.unusedSimpArgs false
open Go.ChangeShapes Go.WideShapes Go.ChangeAt Go.RowKit
open Go.Proofs.YtpcnoiigbmiejaaDoor.lib

theorem xor_i64 (a b : Nat) (ha : a < 9223372036854775808) (hb : b < 9223372036854775808) : bits .xor .i64 (a : Int) (b : Int) = ((a ^^^ b : Nat) : Int) := by
  have hx : a ^^^ b < 2 ^ 63 := Nat.xor_lt_two_pow (by omega) (by omega)
  have h1 : (BitVec.ofInt 64 (a : Int)).toNat = a := by
    rw [BitVec.ofInt_natCast, BitVec.toNat_ofNat]; exact Nat.mod_eq_of_lt (by omega)
  have h2 : (BitVec.ofInt 64 (b : Int)).toNat = b := by
    rw [BitVec.ofInt_natCast, BitVec.toNat_ofNat]; exact Nat.mod_eq_of_lt (by omega)
  show IntKind.i64.wrap ((BitVec.ofInt 64 (a : Int) ^^^ BitVec.ofInt 64 (b : Int)).toNat : Int) = _
  rw [BitVec.toNat_xor, h1, h2, IntWalk.i64_in _ (by omega)]

/-- bytes that may be read, ahead of block R -/
def Byt (w : World) (R : Nat) (ao : Option Addr) (len : Nat) : Prop :=
  len = 0 ∨ ∃ b off, ao = some ⟨b, off, none⟩ ∧ b < R ∧ ∀ i, i < len → ∃ z : Nat, z ≤ 255 ∧ w.cell? ⟨b, off + i, none⟩ = some (.int .u8 z)
/-- block R is a drawing source over these bytes, p of them read -/
structure Rd (w : World) (R : Nat) (ao : Option Addr) (len cap p : Nat) : Prop where
  blk : w.heap[R]? = some (.cells #[.slice ao len cap, .int .i64 p] 94 (0, 0))
  byt : Byt w R ao len
  len : len ≤ 2000
theorem Rd.c {w : World} {R : Nat} {ao : Option Addr} {len cap p : Nat} (h : Rd w R ao len cap p) : w.cell? ⟨R, 0, none⟩ = some (.slice ao len cap) ∧ w.cell? ⟨R, 1, none⟩ = some (.int .i64 p) ∧ w.frozen? ⟨R, 1, none⟩ = false := by
  have hb := h.blk
  refine ⟨by simp [World.cell?, hb], by simp [World.cell?, hb], frozen_of_row w R 1 _ _ hb⟩
theorem Byt.keep {w w' : World} {R : Nat} {ao : Option Addr} {len : Nat} (h : Byt w R ao len) (hb : ∀ k, k < R → w'.heap[k]? = w.heap[k]?) : Byt w' R ao len := by
  rcases h with h | ⟨b, off, rfl, hR, hc⟩
  · exact .inl h
  · refine .inr ⟨b, off, rfl, hR, fun i hi => ?_⟩
    obtain ⟨z, hz, hcell⟩ := hc i hi
    refine ⟨z, hz, ?_⟩
    rw [World.cell?_of_block (w := w) (w' := w') (a := ⟨b, off + i, none⟩) (hb b hR)]
    exact hcell
theorem Rd.lt {w : World} {R : Nat} {ao : Option Addr} {len cap p : Nat} (h : Rd w R ao len cap p) : R < w.heap.size := (Array.getElem?_eq_some_iff.1 h.blk).1
theorem Rd.kept {w w' : World} {R : Nat} {ao : Option Addr} {len cap p : Nat} {row : Option Nat} (h : Rd w R ao len cap p) (hg : w.grownBy w' row) (hne : ∀ k, row = some k → R < k) : Rd w' R ao len cap p := by
  have hR := h.lt
  have hrow : ∀ k, k ≤ R → some k ≠ row := fun k hk e => by have := hne k e.symm; omega
  exact ⟨by rw [hg.block R hR (hrow R (Nat.le_refl _))]; exact h.blk, h.byt.keep fun k hk => hg.block _ (by omega) (hrow _ (by omega)), h.len⟩
theorem Rd.below {w w' : World} {R C : Nat} {ao : Option Addr} {len cap p : Nat} (h : Rd w R ao len cap p) (hb : Below C w w') (hC : R < C) : Rd w' R ao len cap p :=
  ⟨by rw [hb.block R hC]; exact h.blk, h.byt.keep fun k hk => hb.block _ (by omega), h.len⟩
theorem Rd.set {w : World} {R : Nat} {ao : Option Addr} {len cap p : Nat} (h : Rd w R ao len cap p) (q : Nat) : Rd (w.setCell ⟨R, 1, none⟩ (.int .i64 q)) R ao len cap q := by
  refine ⟨?_, h.byt.keep fun k hk => heap_setCell_other _ _ _ _ (by show k ≠ R; omega), h.len⟩
  rw [heap_setCell_same _ _ _ _ _ _ h.blk]; rfl
theorem grown_setCell (w : World) (R o : Nat) (v : Value) : w.grownBy (w.setCell ⟨R, o, none⟩ v) (some R) :=
  ⟨rfl, rfl, rfl, by simp, fun k hk hne => heap_setCell_other _ _ _ _ (fun e => hne (by rw [e]))⟩
theorem grown_drewN (w : World) (n : Nat) (row : Option Nat) : w.grownBy (w.drewN n) row := ⟨rfl, rfl, rfl, Nat.le_refl _, fun _ _ _ => rfl⟩

/-- what a draw of a number below N leaves -/
def Picked (w : World) (R : Nat) (ao : Option Addr) (len cap p N : Nat) (e : Ending) (w' : World) : Prop :=
  ∃ v : Nat, v < N ∧ e = .returned (.int .i64 v) ∧ Rd w' R ao len cap (p + 1) ∧ w.grownBy w' (some R)

set_option maxHeartbeats 1600000 in
theorem pick_any (R : Nat) (ao : Option Addr) (len cap p N : Nat) (w : World) (h : Rd w R ao len cap p) (hp : p ≤ 1000000000) (hN : 1 ≤ N) (hN2 : N ≤ 1000000000) :
    Calls Tryd.prog 46 #[.pointer (some ⟨R, 0, none⟩), .int .i64 N] w (Picked w R ao len cap p N) := by
  obtain ⟨c0, c1, c2⟩ := h.c
  have hlen := h.len
  have R1 : Hid (Rd (w.setCell ⟨R, 1, none⟩ (.int .i64 ((p : Int) + 1))) R ao len cap (p + 1)) := h.set (p + 1)
  have H := Lib.hid h
  clear h
  by_cases hl0 : len = 0
  · subst hl0
    go_enter Tryd.func46, Tryd.ntmps46
    go_wp2
    go_ret
    exact ⟨0, by omega, rfl, R1.out, grown_setCell _ _ _ _⟩
  · obtain ⟨b, off, rfl, hbR, hby⟩ : ∃ b off, ao = some ⟨b, off, none⟩ ∧ b < R ∧ ∀ i, i < len → ∃ z : Nat, z ≤ 255 ∧ w.cell? ⟨b, off + i, none⟩ = some (.int .u8 z) := by
      rcases H.out.byt with h | h
      · exact absurd h hl0
      · exact h
    have hne : ¬ b = R := by omega
    have t1 : decide ((N : Int) < 1) = false := by simp; omega
    have t2 : ((len : Int) == 0) = false := by simp; omega
    by_cases hk : p < len
    · obtain ⟨z, hz, hcz⟩ := hby p hk
      clear hby
      go_enter Tryd.func46, Tryd.ntmps46
      go_wp2
      go_ret
      refine ⟨z % N, Nat.mod_lt _ (by omega), ?_, R1.out, grown_setCell _ _ _ _⟩
      simp
    · obtain ⟨I1, hI1⟩ : ∃ I, I = p % len := ⟨_, rfl⟩
      obtain ⟨I2, hI2⟩ : ∃ I, I = (p * 7 + 3) % len := ⟨_, rfl⟩
      have i1 : I1 < len := by rw [hI1]; exact Nat.mod_lt _ (by omega)
      have i2 : I2 < len := by rw [hI2]; exact Nat.mod_lt _ (by omega)
      obtain ⟨z, hz, hcz⟩ := hby I1 i1
      obtain ⟨z2, hz2, hcz2⟩ := hby I2 i2
      obtain ⟨D, hD⟩ : ∃ D, D = p / len := ⟨_, rfl⟩
      have hDp : D ≤ p := by rw [hD]; exact Nat.div_le_self _ _
      have e1 : (p : Int).tmod (len : Int) = (I1 : Int) := by rw [hI1]; rfl
      obtain ⟨B, hB⟩ : ∃ B, B = p * 7 := ⟨_, rfl⟩
      have e2 : IntKind.i64.wrap ((p : Int) * 7) = (B : Int) := by rw [IntWalk.i64_in _ (by omega)]; omega
      obtain ⟨A, hA⟩ : ∃ A, A = B + 3 := ⟨_, rfl⟩
      have e3 : IntKind.i64.wrap ((B : Int) + 3) = (A : Int) := by rw [IntWalk.i64_in _ (by omega)]; omega
      have e4 : (A : Int).tmod (len : Int) = (I2 : Int) := by rw [hI2, ← hB, ← hA]; rfl
      obtain ⟨Z1, hZ1⟩ : ∃ Z, Z = z * 131 := ⟨_, rfl⟩
      have e5 : IntKind.i64.wrap ((z : Int) * 131) = (Z1 : Int) := by rw [IntWalk.i64_in _ (by omega)]; omega
      obtain ⟨Z2, hZ2⟩ : ∃ Z, Z = z2 * 1117 := ⟨_, rfl⟩
      have e6 : IntKind.i64.wrap ((z2 : Int) * 1117) = (Z2 : Int) := by rw [IntWalk.i64_in _ (by omega)]; omega
      obtain ⟨Z3, hZ3⟩ : ∃ Z, Z = Z1 + Z2 := ⟨_, rfl⟩
      have e7 : IntKind.i64.wrap ((Z1 : Int) + (Z2 : Int)) = (Z3 : Int) := by rw [IntWalk.i64_in _ (by omega)]; omega
      obtain ⟨P29, hP29⟩ : ∃ Z, Z = p * 29 := ⟨_, rfl⟩
      have e8 : IntKind.i64.wrap ((p : Int) * 29) = (P29 : Int) := by rw [IntWalk.i64_in _ (by omega)]; omega
      obtain ⟨Z4, hZ4⟩ : ∃ Z, Z = Z3 + P29 := ⟨_, rfl⟩
      have e9 : IntKind.i64.wrap ((Z3 : Int) + (P29 : Int)) = (Z4 : Int) := by rw [IntWalk.i64_in _ (by omega)]; omega
      have e10 : IntKind.i64.wrap ((p : Int).tdiv (len : Int)) = (D : Int) := by
        have : (p : Int).tdiv (len : Int) = (D : Int) := by rw [hD]; rfl
        rw [this, IntWalk.i64_in _ (by omega)]
      have e10' : IntKind.i64.wrap ((p : Int) / (len : Int)) = (D : Int) := by
        have : (p : Int) / (len : Int) = (D : Int) := by rw [hD]; rfl
        rw [this, IntWalk.i64_in _ (by omega)]
      obtain ⟨D2, hD2⟩ : ∃ Z, Z = D * 53 := ⟨_, rfl⟩
      have e11 : IntKind.i64.wrap ((D : Int) * 53) = (D2 : Int) := by rw [IntWalk.i64_in _ (by omega)]; omega
      obtain ⟨X, hX⟩ : ∃ Z, Z = Z4 + D2 := ⟨_, rfl⟩
      have e12 : IntKind.i64.wrap ((Z4 : Int) + (D2 : Int)) = (X : Int) := by rw [IntWalk.i64_in _ (by omega)]; omega
      have hXb : X < 9000000000000000000 := by omega
      obtain ⟨Y, hY⟩ : ∃ Y, Y = X ^^^ (X / 64) := ⟨_, rfl⟩
      have e13 : bits .xor .i64 (X : Int) ((X : Int) / 64) = (Y : Int) := by
        rw [hY, show ((X : Int) / 64) = ((X / 64 : Nat) : Int) from by omega]; exact xor_i64 _ _ (by omega) (by omega)
      clear hby hI1 hI2 hD hB hA hZ1 hZ2 hZ3 hP29 hZ4 hD2 hX hY
      have i1' : (I1 : Int) < (len : Int) := by omega
      have i2' : (I2 : Int) < (len : Int) := by omega
      go_enter Tryd.func46, Tryd.ntmps46
      go_wp2
      go_quiet (fail)
      go_wp2
      go_ret
      refine ⟨Y % N, Nat.mod_lt _ (by omega), by simp, R1.out.kept (row := none) (grown_drewN _ _ _) (fun _ h => by cases h), ?_⟩
      exact grown_trans (grown_setCell _ _ _ _) (grown_drewN _ _ _)

/-- what a draw from a list leaves -/
def Chosen (w : World) (R : Nat) (ao : Option Addr) (len cap p : Nat) (l : List Int) (e : Ending) (w' : World) : Prop :=
  ∃ i : Nat, i < l.length ∧ e = .returned (.int .i64 (l.getD i 0)) ∧ Rd w' R ao len cap (p + 1) ∧ w.grownBy w' (some R)
set_option maxHeartbeats 800000 in
theorem num_any (R : Nat) (ao : Option Addr) (len cap p : Nat) (b off c : Nat) (l : List Int) (w : World) (h : Rd w R ao len cap p) (hp : p ≤ 1000000000) (h0 : 1 ≤ l.length) (h1 : l.length ≤ 1000000000)
    (hb : b ≠ R) (hl : ∀ i, i < l.length → w.cell? ⟨b, off + i, none⟩ = some (.int .i64 (l.getD i 0))) :
    Calls Tryd.prog 48 #[.pointer (some ⟨R, 0, none⟩), .slice (some ⟨b, off, none⟩) l.length c] w (Chosen w R ao len cap p l) := by
  obtain ⟨N, hN⟩ : ∃ N, N = l.length := ⟨_, rfl⟩
  have HL := Lib.hid (show _ ∧ _ from ⟨hl, hN⟩)
  rw [← hN] at h0 h1 ⊢
  clear hl hN
  go_enter Tryd.func48, Tryd.ntmps48
  go_wp2_with fail
  refine (pick_any R ao len cap p N w h hp h0 h1).mono ?_
  rintro e w1 ⟨v, hv, rfl, hr, hg⟩
  have hc := hg.cell (HL.out.1 v (by have := HL.out.2; omega)) (by simpa using hb)
  have R1 := Lib.hid (show _ ∧ _ from ⟨hr, hg⟩)
  clear hr hg
  go_wp2
  go_ret
  exact ⟨v, by have := HL.out.2; omega, rfl, R1.out.1, R1.out.2⟩
/-- the same for a list that was just written out -/
theorem cells_ivs (w : World) (T : TypeId) (l : List Int) (H : Nat) (hH : w.heap.size = H) (i : Nat) (hi : i < l.length) : (w.alloc (.cells (ivs l).toArray T)).cell? ⟨H, i, none⟩ = some (.int .i64 (l.getD i 0)) := by
  subst hH
  have := ivs_get l i hi
  have h := heap_alloc_new w (.cells (ivs l).toArray T)
  simp only [World.cell?, h]
  simpa using this

/-- what the opening of a source leaves -/
def Opened (w : World) (e : Ending) (w' : World) : Prop :=
  ∃ (R : Nat) (ao : Option Addr) (len cap : Nat), e = .returned (.pointer (some ⟨R, 0, none⟩)) ∧ Rd w' R ao len cap 0 ∧ w.heap.size = R ∧ Below w.heap.size w w'
theorem Rd.new (w : World) (ao : Option Addr) (len cap : Nat) (hl : len ≤ 2000) (h : Byt w w.heap.size ao len) : Rd (w.alloc (.cells #[.slice ao len cap, .int .i64 0] 94)) w.heap.size ao len cap 0 :=
  ⟨heap_alloc_new w _, h.keep fun k hk => heap_alloc_old w _ hk, hl⟩
theorem Byt.le {w : World} {R : Nat} {ao : Option Addr} {len m : Nat} (h : Byt w R ao len) (hm : m ≤ len) : Byt w R ao m := by
  rcases h with h | ⟨b, off, rfl, hR, hc⟩
  · exact .inl (by omega)
  · exact .inr ⟨b, off, rfl, hR, fun i hi => hc i (by omega)⟩
theorem open_any (ao : Option Addr) (len cap : Nat) (w : World) (h : Byt w w.heap.size ao len) (hc : len ≤ cap) (hm : cap ≤ 9223372036854775807) :
    Calls Tryd.prog 44 #[.slice ao len cap] w (Opened w) := by
  have H := Lib.hid h
  have HB : Hid (∀ c, Below w.heap.size w (w.alloc (.cells c 94))) := fun c => (Below.refl _ _).alloc (Nat.le_refl _) _
  clear h
  by_cases hl : len ≤ 2000
  · go_enter Tryd.func44, Tryd.ntmps44
    go_wp2
    go_ret
    exact ⟨_, ao, len, cap, rfl, Rd.new w ao len cap hl H.out, rfl, HB.out _⟩
  · go_enter Tryd.func44, Tryd.ntmps44
    go_wp2
    go_ret
    exact ⟨_, ao, 2000, cap, rfl, Rd.new w ao 2000 cap (by omega) (H.out.le (by omega)), rfl, HB.out _⟩
end Go.Proofs.YtpcnoiigbmiejaaDoor.draw

/- The drawing of a structure: l1Draw. -/
namespace Go.Proofs.YtpcnoiigbmiejaaDoor.draw
set_option linter.unusedVariables false
set_option linter.unusedSimpArgs false
open Go.ChangeShapes Go.WideShapes Go.ChangeAt Go.RowKit
open Go.Proofs.YtpcnoiigbmiejaaDoor.lib Go.Proofs.YtpcnoiigbmiejaaDoor.st Go.Proofs.YtpcnoiigbmiejaaDoor.flow Go.Proofs.YtpcnoiigbmiejaaDoor.chain

def bitS (b : Bool) : ByteArray := ⟨#[if b then 49 else 48]⟩
theorem l1Bit_draw (b : Bool) (w : World) :
    Calls Tryd.prog 141 #[.bool b] w fun e w' => e = .returned (.string (bitS b)) ∧ w = w' := by
  cases b
  all_goals
    go_enter Tryd.func141, Tryd.ntmps141
    go_wp2
    go_ret
    exact ⟨rfl, rfl⟩

/-- every byte is a bit -/
def allB (s : ByteArray) : Bool := s.data.toList.all fun b => b == 48 || b == 49
theorem allB_push (s : ByteArray) (b : Bool) (h : allB s = true) : allB (s ++ bitS b) = true ∧ (s ++ bitS b).size = s.size + 1 := by
  constructor
  · unfold allB at *
    rw [ByteArray.data_append, Array.toList_append, List.all_append, h]
    cases b <;> rfl
  · rw [ByteArray.size_append]
    rfl

theorem addS (s : ByteArray) (b : Bool) (h : s.size ≤ 100) (W : World) : (Op.stringOp .add s (bitS b)).run Tryd.prog W = .ok (.string (s ++ bitS b)) W :=
  run_string_add_sum W _ _ (by show s.size + 1 ≤ _; omega)

theorem grown_new {w w' : World} {row : Option Nat} (h : w.grownBy w' row) {b o : Nat} {v : Value} (hb : w.heap.size ≤ b) : w.grownBy (w'.setCell ⟨b, o, none⟩ v) row :=
  ⟨h.os, h.tape, h.output, Nat.le_trans h.size (by simp), fun k hk hne => (heap_setCell_other _ _ _ _ (by show k ≠ b; omega)).trans (h.block k hk hne)⟩
theorem grown_alloc {w w' : World} {row : Option Nat} (h : w.grownBy w' row) (o : Obj) : w.grownBy (w'.alloc o) row := grown_trans h (World.grownBy_alloc _ _ _)
theorem grown_drew {w w' : World} {row : Option Nat} (h : w.grownBy w' row) : w.grownBy w'.drew row := grown_trans h ⟨rfl, rfl, rfl, Nat.le_refl _, fun _ _ _ => rfl⟩
theorem Rd.drew {w : World} {R : Nat} {ao : Option Addr} {len cap p : Nat} (h : Rd w R ao len cap p) : Rd w.drew R ao len cap p := h.kept (row := none) ⟨rfl, rfl, rfl, Nat.le_refl _, fun _ _ _ => rfl⟩ (fun _ h => by cases h)
theorem Rd.setNew {w : World} {R : Nat} {ao : Option Addr} {len cap p : Nat} (h : Rd w R ao len cap p) {b o : Nat} {v : Value} (hb : R < b) : Rd (w.setCell ⟨b, o, none⟩ v) R ao len cap p :=
  h.kept (grown_setCell w b o v) (fun k e => by cases e; exact hb)
theorem Rd.alloc {w : World} {R : Nat} {ao : Option Addr} {len cap p : Nat} (h : Rd w R ao len cap p) (o : Obj) : Rd (w.alloc o) R ao len cap p :=
  h.kept (World.grownBy_alloc w o none) (fun _ h => by cases h)
theorem Box.kept {T : TypeId} {w w' : World} {H : Nat} {n : Int} {s r : ByteArray} {row : Option Nat} (h : Box T w H n s r) (hg : w.grownBy w' row) (hne : row ≠ some H) : Box T w' H n s r := by
  have hl := h.lt
  unfold Box at *
  rw [hg.block H hl (fun e => hne e.symm)]; exact h

theorem Box.drew {T : TypeId} {w : World} {H : Nat} {n : Int} {s r : ByteArray} (h : Box T w H n s r) : Box T w.drew H n s r := h
/-- the state of the drawing of a structure: the box at H -/
def Dw (w : World) (R : Nat) (ao : Option Addr) (len cap H N a b P : Nat) (wr : World) : Prop :=
  ∃ (s r : ByteArray) (p : Nat), Box 24 wr H N s r ∧ s.size = a ∧ r.size = b ∧ allB s = true ∧ allB r = true ∧ Rd wr R ao len cap p ∧ p ≤ P ∧ w.grownBy wr (some R) ∧ Box 24 wr w.heap.size 0 ⟨#[]⟩ ⟨#[]⟩
theorem Dw.weak {w wr : World} {R : Nat} {ao : Option Addr} {len cap H N a b b' P P' : Nat} (h : Dw w R ao len cap H N a b P wr) (hb : b = b') (hP : P ≤ P') : Dw w R ao len cap H N a b' P' wr := by
  subst hb
  obtain ⟨s, r, p, h1, h2, h3, h4, h5, h6, h7, h8⟩ := h
  exact ⟨s, r, p, h1, h2, h3, h4, h5, h6, by omega, h8⟩

/-- what the drawing of a structure of a size leaves -/
def Drawn (w : World) (R : Nat) (ao : Option Addr) (len cap P N : Nat) (e : Ending) (w' : World) : Prop :=
  ∃ (s r : ByteArray) (p : Nat), e = .returned (.agg #[.int .i64 N, .string s, .string r]) ∧ s.size = N ∧ r.size = N * N ∧ allB s = true ∧ allB r = true ∧ Rd w' R ao len cap p ∧ p ≤ P ∧ w.grownBy w' (some R)

set_option maxHeartbeats 3200000 in
set_option maxRecDepth 100000 in
theorem l1Draw_any (R : Nat) (ao : Option Addr) (len cap p N : Nat) (w : World) (h : Rd w R ao len cap p) (hp : p ≤ 100000000) (hN : 1 ≤ N) (hN2 : N ≤ 8) :
    Calls Tryd.prog 99 #[.pointer (some ⟨R, 0, none⟩), .int .i64 N] w (Drawn w R ao len cap (p + 200) N) := by
  have H := Lib.hid h
  have hRl : R < w.heap.size := h.lt
  clear h
  go_enter Tryd.func99, Tryd.ntmps99
  go_wp2_with fail
  refine (pick_any R ao len cap p 8 _ (((H.out.alloc _).alloc _)) (by omega) (by omega) (by omega)).mono ?_
  rintro e w1 ⟨kind, hkind, rfl, hr, hg⟩
  go_wp2_with fail
  obtain ⟨HX, hHX⟩ : ∃ HX, HX = w.heap.size + 1 := ⟨_, rfl⟩
  have hHR : R < HX := by omega
  have hHw : w.heap.size ≤ HX := by omega
  have START : Hid (Dw w R ao len cap HX N 0 (0 * N) (p + 1 + 0 * 9) w1) := by
    refine ⟨⟨#[]⟩, ⟨#[]⟩, p + 1, ?_, rfl, by simp; rfl, rfl, rfl, hr, by omega, grown_trans (grown_alloc (World.grownBy_alloc _ _ _) _) hg, ?_⟩
    · refine Box.kept (row := some R) ?_ hg (by simp; omega)
      exact Box.new _ _ _ (by simp; omega) _ _ _
    · refine Box.kept (row := some R) ?_ hg (by simp; omega)
      exact (Box.new 24 w _ rfl 0 ⟨#[]⟩ ⟨#[]⟩).below ((Below.refl (w.heap.size + 1) _).alloc (by simp) _) (by omega)
  have HHX := Lib.hid hHX
  rw [← hHX]
  clear hr hg hHX
  go_loopw [7] (fun i wr => ∃ x : Nat, x ≤ N ∧ i = .int .i64 x ∧ Dw w R ao len cap HX N x (x * N) (p + 1 + x * 9) wr) (fun i _ => N - (intOf i).toNat)
  case atStart => exact ⟨0, Nat.zero_le _, rfl, START.out⟩
  case round =>
    clear START
    obtain ⟨x, hx, rfl, s, r, p', hbox, hsz, hrz, hsb, hrb, hrd, hpp, hgr, hb0⟩ := hrel
    obtain ⟨b0, b1, b2⟩ := hbox.c
    have f1 := hbox.free 1
    have HQ := Lib.hid (show _ ∧ _ ∧ _ ∧ _ ∧ _ ∧ _ ∧ _ ∧ _ ∧ _ from ⟨hbox, hsz, hrz, hsb, hrb, hrd, hpp, hgr, hb0⟩)
    clear hbox hsz hrz hsb hrb hrd hpp hgr hb0
    by_cases hxn : x < N
    · by_cases hk : 2 < kind
      · have hkd : decide ((2 : Int) < (kind : Int)) = true := by simp; omega
        go_wp2_with fail
        have cb : ∀ X : Wd (fun X => X.cell? ⟨HX, 1, none⟩ = some (.string s)), X.w.cell? ⟨HX, 1, none⟩ = some (.string s) := fun X => X.ok
        have hne : Nonempty (Wd (fun X => X.cell? ⟨HX, 1, none⟩ = some (.string s))) := ⟨⟨wr, b1⟩⟩
        refine chain_last (S := (fun X => X.cell? ⟨HX, 1, none⟩ = some (.string s))) [([true, true, true, true, true, true], 6), ([false, false, false, false, false, false, false, true, true], 9)] [false, false, false, false, false, false, false, false, false, false, true, true] (by kernel_rfl) (by kernel_rfl) (by kernel_rfl) (by kernel_rfl) (by kernel_rfl) (by kernel_rfl) (by simpa using b1) ?_
        simp only [wpSegs, pickB, List.dropLast_cons_cons, List.dropLast_singleton, List.getLast?_cons_cons, List.getLast?_singleton, List.toList_toArray, List.getElem?_toArray, List.getElem?_cons_succ, List.getElem?_cons_zero, Option.toList_some]
        repeat (go_big_quiet_step (fail))
        refine wpQuiet_nil ?_
        intro K hK
        go_wp2_with fail
        refine (pick_any R ao len cap p' 3 _ HQ.out.2.2.2.2.2.1.drew (by have := HQ.out.2.2.2.2.2.2.1; omega) (by omega) (by omega)).mono ?_
        rintro e w2 ⟨v, hv, rfl, hr2, hg2⟩
        have b1x := hg2.cell (show wr.drew.cell? ⟨HX, 1, none⟩ = some (.string s) by simpa using b1) (by simp; omega)
        have f1x : w2.frozen? ⟨HX, 1, none⟩ = false := (Box.kept (row := some R) (Box.drew HQ.out.1) hg2 (by simp; omega)).free 1
        have HP := Lib.hid (show _ ∧ _ from ⟨hr2, hg2⟩)
        have hadd := addS s ((v : Int) == 0) (by have := HQ.out.2.1; omega)
        clear hr2 hg2
        go_wp2_with fail
        refine hK _ _ b1x ?_
        clear hK K
        repeat (go_big_quiet_step (fail))
        refine wpQuiet_nil ?_
        intro K hK
        go_wp2_with fail
        refine (l1Bit_draw _ _).mono ?_
        rintro e X ⟨rfl, rfl⟩
        go_wp2_with fail
        refine hK _ _ b1x ?_
        clear hK K
        repeat (go_big_quiet_step (fail))
        refine wpQuiet_nil ?_
        show wpList _ _ _ _ _ _
        have IN : Hid (Dw w R ao len cap HX N (x + 1) (x * N + 0) (p + 1 + x * 9 + 1 + 0) (w2.setCell ⟨HX, 1, none⟩ (.string (s ++ bitS ((v : Int) == 0))))) :=
          ⟨_, _, (p' + 1), Box.set1 (Box.kept (row := some R) (Box.drew HQ.out.1) HP.out.2 (by simp; omega)) _, by rw [(allB_push s ((v : Int) == 0) HQ.out.2.2.2.1).2, HQ.out.2.1], by simpa using HQ.out.2.2.1, (allB_push s ((v : Int) == 0) HQ.out.2.2.2.1).1, HQ.out.2.2.2.2.1, Rd.setNew HP.out.1 hHR, by have := HQ.out.2.2.2.2.2.2.1; omega, grown_new (grown_trans (grown_drew HQ.out.2.2.2.2.2.2.2.1) HP.out.2) hHw, Box.kept (row := some HX) (Box.kept (row := some R) (Box.drew HQ.out.2.2.2.2.2.2.2.2) HP.out.2 (by simp; omega)) (grown_setCell _ _ _ _) (by simp; have := HHX.out; omega)⟩
        go_wp2_with fail
        clear hadd cb hne
        clear HP b1x f1x
        clear HQ b0 b1 b2 f1
        go_loopw [8] (fun i wr => ∃ y : Nat, y ≤ N ∧ i = .int .i64 y ∧ Dw w R ao len cap HX N (x + 1) (x * N + y) (p + 1 + x * 9 + 1 + y) wr) (fun i _ => N - (intOf i).toNat)
        case atStart => exact ⟨0, Nat.zero_le _, rfl, IN.out⟩
        case round =>
          clear IN
          obtain ⟨y, hy, rfl, s, r, p', hbox, hsz, hrz, hsb, hrb, hrd, hpp, hgr, hb0⟩ := hrel
          have HQ := Lib.hid (show _ ∧ _ ∧ _ ∧ _ ∧ _ ∧ _ ∧ _ ∧ _ ∧ _ from ⟨hbox, hsz, hrz, hsb, hrb, hrd, hpp, hgr, hb0⟩)
          clear hbox hsz hrz hsb hrb hrd hpp hgr hb0
          have hpb : p' ≤ 1000000000 := by have := HQ.out.2.2.2.2.2.2.1; omega
          by_cases hyn : y < N
          · go_wp2_with fail
            refine (pick_any R ao len cap p' 3 _ HQ.out.2.2.2.2.2.1 hpb (by omega) (by omega)).mono ?_
            rintro e w3 ⟨v, hv, rfl, hr3, hg3⟩
            have HB3 := Lib.hid (Box.kept (row := some R) HQ.out.1 hg3 (by simp; omega))
            have HP := Lib.hid (show _ ∧ _ ∧ _ from ⟨hr3, grown_trans HQ.out.2.2.2.2.2.2.2.1 hg3, Box.kept (row := some R) HQ.out.2.2.2.2.2.2.2.2 hg3 (by simp; omega)⟩)
            obtain ⟨cv, hcv⟩ : ∃ c : Bool, ((v : Int) == 0) = c := ⟨_, rfl⟩
            obtain ⟨ca, hca⟩ : ∃ c : Bool, ((x : Int) == (y : Int)) = c := ⟨_, rfl⟩
            obtain ⟨cb, hcb⟩ : ∃ c : Bool, ((x : Int) != (y : Int)) = c := ⟨_, rfl⟩
            obtain ⟨cc, hcc⟩ : ∃ c : Bool, ((y : Int) == (x : Int) + 1) = c := ⟨_, rfl⟩
            obtain ⟨cd, hcd⟩ : ∃ c : Bool, ((x : Int) == (y : Int) + 1) = c := ⟨_, rfl⟩
            obtain ⟨ce, hce⟩ : ∃ c : Bool, (((x : Int) + 1) / 2 == ((y : Int) + 1) / 2) = c := ⟨_, rfl⟩
            clear hr3 hg3
            go_upto_block 4 with (fail)
            go_cut [9] from 36 to 103 (fun b wx => ∃ c : Bool, b = .bool c ∧ wx = w3)
            case first =>
              have hk8 : kind = 0 ∨ kind = 1 ∨ kind = 2 ∨ kind = 3 ∨ kind = 4 ∨ kind = 5 ∨ 5 < kind := by omega
              rcases hk8 with hk0 | hk0 | hk0 | hk0 | hk0 | hk0 | hk0
              · have t0 : ((kind : Int) == 0) = true := by simp; omega
                clear hk0 HQ HP HB3
                go_wp2
                all_goals go_meet
                all_goals exact ⟨_, rfl, rfl⟩
              · have t0 : ((kind : Int) == 0) = false := by simp; omega
                have t1 : ((kind : Int) == 1) = true := by simp; omega
                clear hk0 HQ HP HB3
                go_wp2
                all_goals go_meet
                all_goals exact ⟨_, rfl, rfl⟩
              · have t0 : ((kind : Int) == 0) = false := by simp; omega
                have t1 : ((kind : Int) == 1) = false := by simp; omega
                have t2 : ((kind : Int) == 2) = true := by simp; omega
                clear hk0 HQ HP HB3
                go_wp2
                all_goals go_meet
                all_goals exact ⟨_, rfl, rfl⟩
              · have t0 : ((kind : Int) == 0) = false := by simp; omega
                have t1 : ((kind : Int) == 1) = false := by simp; omega
                have t2 : ((kind : Int) == 2) = false := by simp; omega
                have t3 : ((kind : Int) == 3) = true := by simp; omega
                clear hk0 HQ HP HB3
                go_wp2
                all_goals go_meet
                all_goals exact ⟨_, rfl, rfl⟩
              · have t0 : ((kind : Int) == 0) = false := by simp; omega
                have t1 : ((kind : Int) == 1) = false := by simp; omega
                have t2 : ((kind : Int) == 2) = false := by simp; omega
                have t3 : ((kind : Int) == 3) = false := by simp; omega
                have t4 : ((kind : Int) == 4) = true := by simp; omega
                clear hk0 HQ HP HB3
                go_wp2
                all_goals go_meet
                all_goals exact ⟨_, rfl, rfl⟩
              · have t0 : ((kind : Int) == 0) = false := by simp; omega
                have t1 : ((kind : Int) == 1) = false := by simp; omega
                have t2 : ((kind : Int) == 2) = false := by simp; omega
                have t3 : ((kind : Int) == 3) = false := by simp; omega
                have t4 : ((kind : Int) == 4) = false := by simp; omega
                have t5 : ((kind : Int) == 5) = true := by simp; omega
                clear hk0 HQ HP HB3
                go_wp2
                all_goals go_meet
                all_goals exact ⟨_, rfl, rfl⟩
              · have t0 : ((kind : Int) == 0) = false := by simp; omega
                have t1 : ((kind : Int) == 1) = false := by simp; omega
                have t2 : ((kind : Int) == 2) = false := by simp; omega
                have t3 : ((kind : Int) == 3) = false := by simp; omega
                have t4 : ((kind : Int) == 4) = false := by simp; omega
                have t5 : ((kind : Int) == 5) = false := by simp; omega
                clear hk0 HQ HP HB3
                go_wp2
                all_goals go_meet
                all_goals exact ⟨_, rfl, rfl⟩
            case rest =>
              obtain ⟨c, rfl, rfl⟩ := hcut
              obtain ⟨b0, b1, b2⟩ := HB3.out.c
              have f2 := HB3.out.free 2
              have hrz : r.size ≤ 100 := by have h1 := HQ.out.2.2.1; have h2 : x * N ≤ 8 * 8 := Nat.mul_le_mul (by omega) hN2; omega
              go_wp2_with fail
              have cb : ∀ X : Wd (fun X => X.cell? ⟨HX, 2, none⟩ = some (.string r)), X.w.cell? ⟨HX, 2, none⟩ = some (.string r) := fun X => X.ok
              have hne : Nonempty (Wd (fun X => X.cell? ⟨HX, 2, none⟩ = some (.string r))) := ⟨⟨wc, b2⟩⟩
              have hadd := addS r c hrz
              refine chain_last (S := (fun X => X.cell? ⟨HX, 2, none⟩ = some (.string r))) [([true, true, true], 3)] [false, false, false, false, true, true] (by kernel_rfl) (by kernel_rfl) (by kernel_rfl) (by kernel_rfl) (by kernel_rfl) (by kernel_rfl) (by simpa using b2) ?_
              simp only [wpSegs, pickB, List.dropLast_cons_cons, List.dropLast_singleton, List.getLast?_cons_cons, List.getLast?_singleton, List.toList_toArray, List.getElem?_toArray, List.getElem?_cons_succ, List.getElem?_cons_zero, Option.toList_some]
              repeat (go_big_quiet_step (fail))
              refine wpQuiet_nil ?_
              intro K hK
              go_wp2_with fail
              refine (l1Bit_draw _ _).mono ?_
              rintro e X ⟨rfl, rfl⟩
              go_wp2_with fail
              refine hK _ _ (by simpa using b2) ?_
              clear hK K
              repeat (go_big_quiet_step (fail))
              refine wpQuiet_nil ?_
              show wpList _ _ _ _ _ _
              have IN : Hid (Dw w R ao len cap HX N (x + 1) (x * N + (y + 1)) (p + 1 + x * 9 + 1 + (y + 1)) (wc.drew.setCell ⟨HX, 2, none⟩ (.string (r ++ bitS c)))) :=
                ⟨_, _, p' + 1, Box.set2 (Box.drew HB3.out) _, HQ.out.2.1, by rw [(allB_push r c HQ.out.2.2.2.2.1).2, HQ.out.2.2.1]; rfl, HQ.out.2.2.2.1, (allB_push r c HQ.out.2.2.2.2.1).1, Rd.setNew HP.out.1.drew hHR, by have := HQ.out.2.2.2.2.2.2.1; omega, grown_new (grown_drew HP.out.2.1) hHw, Box.kept (row := some HX) (Box.drew HP.out.2.2) (grown_setCell _ _ _ _) (by simp; have := HHX.out; omega)⟩
              clear hadd cb hne
              go_wp2_with fail
              go_roundw
              case rel => exact ⟨y + 1, by omega, by go_num, IN.out⟩
              case measure => simp [intOf]; omega
          · obtain rfl : N = y := by omega
            have OUT : Hid (Dw w R ao len cap HX N (x + 1) ((x + 1) * N) (p + 1 + (x + 1) * 9) wr) :=
              Dw.weak ⟨s, r, p', HQ.out⟩ (by rw [Nat.succ_mul]) (by omega)
            go_wp2
            go_roundw
            case rel => exact ⟨x + 1, by omega, by go_num, OUT.out⟩
            case measure => simp [intOf]; omega
      · have hkd : decide ((2 : Int) < (kind : Int)) = false := by simp; omega
        go_wp2_with fail
        have cb : ∀ X : Wd (fun X => X.cell? ⟨HX, 1, none⟩ = some (.string s)), X.w.cell? ⟨HX, 1, none⟩ = some (.string s) := fun X => X.ok
        have hne : Nonempty (Wd (fun X => X.cell? ⟨HX, 1, none⟩ = some (.string s))) := ⟨⟨wr, b1⟩⟩
        have hadd := addS s false (by have := HQ.out.2.1; omega)
        refine chain_last (S := (fun X => X.cell? ⟨HX, 1, none⟩ = some (.string s))) [([true, true, true, true, true, true], 6), ([false, false, false, false, false, false, false, true, true], 9)] [false, false, false, false, false, false, false, false, false, false, true, true] (by kernel_rfl) (by kernel_rfl) (by kernel_rfl) (by kernel_rfl) (by kernel_rfl) (by kernel_rfl) (by simpa using b1) ?_
        simp only [wpSegs, pickB, List.dropLast_cons_cons, List.dropLast_singleton, List.getLast?_cons_cons, List.getLast?_singleton, List.toList_toArray, List.getElem?_toArray, List.getElem?_cons_succ, List.getElem?_cons_zero, Option.toList_some]
        repeat (go_big_quiet_step (fail))
        refine wpQuiet_nil ?_
        intro K hK
        go_wp2_with fail
        refine hK _ _ (by simpa using b1) ?_
        clear hK K
        repeat (go_big_quiet_step (fail))
        refine wpQuiet_nil ?_
        intro K hK
        go_wp2_with fail
        refine (l1Bit_draw _ _).mono ?_
        rintro e X ⟨rfl, rfl⟩
        go_wp2_with fail
        refine hK _ _ (by simpa using b1) ?_
        clear hK K
        repeat (go_big_quiet_step (fail))
        refine wpQuiet_nil ?_
        show wpList _ _ _ _ _ _
        have IN : Hid (Dw w R ao len cap HX N (x + 1) (x * N + 0) (p + 1 + x * 9 + 1 + 0) (wr.drew.setCell ⟨HX, 1, none⟩ (.string (s ++ bitS false)))) :=
          ⟨_, _, p', Box.set1 (Box.drew HQ.out.1) _, by rw [(allB_push s false HQ.out.2.2.2.1).2, HQ.out.2.1], by simpa using HQ.out.2.2.1, (allB_push s false HQ.out.2.2.2.1).1, HQ.out.2.2.2.2.1, Rd.setNew HQ.out.2.2.2.2.2.1.drew hHR, by have := HQ.out.2.2.2.2.2.2.1; omega, grown_new (grown_drew HQ.out.2.2.2.2.2.2.2.1) hHw, Box.kept (row := some HX) (Box.drew HQ.out.2.2.2.2.2.2.2.2) (grown_setCell _ _ _ _) (by simp; have := HHX.out; omega)⟩
        go_wp2_with fail
        clear hadd cb hne
        clear HQ b0 b1 b2 f1
        go_loopw [8] (fun i wr => ∃ y : Nat, y ≤ N ∧ i = .int .i64 y ∧ Dw w R ao len cap HX N (x + 1) (x * N + y) (p + 1 + x * 9 + 1 + y) wr) (fun i _ => N - (intOf i).toNat)
        case atStart => exact ⟨0, Nat.zero_le _, rfl, IN.out⟩
        case round =>
          clear IN
          obtain ⟨y, hy, rfl, s, r, p', hbox, hsz, hrz, hsb, hrb, hrd, hpp, hgr, hb0⟩ := hrel
          have HQ := Lib.hid (show _ ∧ _ ∧ _ ∧ _ ∧ _ ∧ _ ∧ _ ∧ _ ∧ _ from ⟨hbox, hsz, hrz, hsb, hrb, hrd, hpp, hgr, hb0⟩)
          clear hbox hsz hrz hsb hrb hrd hpp hgr hb0
          have hpb : p' ≤ 1000000000 := by have := HQ.out.2.2.2.2.2.2.1; omega
          by_cases hyn : y < N
          · go_wp2_with fail
            refine (pick_any R ao len cap p' 3 _ HQ.out.2.2.2.2.2.1 hpb (by omega) (by omega)).mono ?_
            rintro e w3 ⟨v, hv, rfl, hr3, hg3⟩
            have HB3 := Lib.hid (Box.kept (row := some R) HQ.out.1 hg3 (by simp; omega))
            have HP := Lib.hid (show _ ∧ _ ∧ _ from ⟨hr3, grown_trans HQ.out.2.2.2.2.2.2.2.1 hg3, Box.kept (row := some R) HQ.out.2.2.2.2.2.2.2.2 hg3 (by simp; omega)⟩)
            obtain ⟨cv, hcv⟩ : ∃ c : Bool, ((v : Int) == 0) = c := ⟨_, rfl⟩
            obtain ⟨ca, hca⟩ : ∃ c : Bool, ((x : Int) == (y : Int)) = c := ⟨_, rfl⟩
            obtain ⟨cb, hcb⟩ : ∃ c : Bool, ((x : Int) != (y : Int)) = c := ⟨_, rfl⟩
            obtain ⟨cc, hcc⟩ : ∃ c : Bool, ((y : Int) == (x : Int) + 1) = c := ⟨_, rfl⟩
            obtain ⟨cd, hcd⟩ : ∃ c : Bool, ((x : Int) == (y : Int) + 1) = c := ⟨_, rfl⟩
            obtain ⟨ce, hce⟩ : ∃ c : Bool, (((x : Int) + 1) / 2 == ((y : Int) + 1) / 2) = c := ⟨_, rfl⟩
            clear hr3 hg3
            go_upto_block 4 with (fail)
            go_cut [9] from 36 to 103 (fun b wx => ∃ c : Bool, b = .bool c ∧ wx = w3)
            case first =>
              have hk8 : kind = 0 ∨ kind = 1 ∨ kind = 2 ∨ kind = 3 ∨ kind = 4 ∨ kind = 5 ∨ 5 < kind := by omega
              rcases hk8 with hk0 | hk0 | hk0 | hk0 | hk0 | hk0 | hk0
              · have t0 : ((kind : Int) == 0) = true := by simp; omega
                clear hk0 HQ HP HB3
                go_wp2
                all_goals go_meet
                all_goals exact ⟨_, rfl, rfl⟩
              · have t0 : ((kind : Int) == 0) = false := by simp; omega
                have t1 : ((kind : Int) == 1) = true := by simp; omega
                clear hk0 HQ HP HB3
                go_wp2
                all_goals go_meet
                all_goals exact ⟨_, rfl, rfl⟩
              · have t0 : ((kind : Int) == 0) = false := by simp; omega
                have t1 : ((kind : Int) == 1) = false := by simp; omega
                have t2 : ((kind : Int) == 2) = true := by simp; omega
                clear hk0 HQ HP HB3
                go_wp2
                all_goals go_meet
                all_goals exact ⟨_, rfl, rfl⟩
              · have t0 : ((kind : Int) == 0) = false := by simp; omega
                have t1 : ((kind : Int) == 1) = false := by simp; omega
                have t2 : ((kind : Int) == 2) = false := by simp; omega
                have t3 : ((kind : Int) == 3) = true := by simp; omega
                clear hk0 HQ HP HB3
                go_wp2
                all_goals go_meet
                all_goals exact ⟨_, rfl, rfl⟩
              · have t0 : ((kind : Int) == 0) = false := by simp; omega
                have t1 : ((kind : Int) == 1) = false := by simp; omega
                have t2 : ((kind : Int) == 2) = false := by simp; omega
                have t3 : ((kind : Int) == 3) = false := by simp; omega
                have t4 : ((kind : Int) == 4) = true := by simp; omega
                clear hk0 HQ HP HB3
                go_wp2
                all_goals go_meet
                all_goals exact ⟨_, rfl, rfl⟩
              · have t0 : ((kind : Int) == 0) = false := by simp; omega
                have t1 : ((kind : Int) == 1) = false := by simp; omega
                have t2 : ((kind : Int) == 2) = false := by simp; omega
                have t3 : ((kind : Int) == 3) = false := by simp; omega
                have t4 : ((kind : Int) == 4) = false := by simp; omega
                have t5 : ((kind : Int) == 5) = true := by simp; omega
                clear hk0 HQ HP HB3
                go_wp2
                all_goals go_meet
                all_goals exact ⟨_, rfl, rfl⟩
              · have t0 : ((kind : Int) == 0) = false := by simp; omega
                have t1 : ((kind : Int) == 1) = false := by simp; omega
                have t2 : ((kind : Int) == 2) = false := by simp; omega
                have t3 : ((kind : Int) == 3) = false := by simp; omega
                have t4 : ((kind : Int) == 4) = false := by simp; omega
                have t5 : ((kind : Int) == 5) = false := by simp; omega
                clear hk0 HQ HP HB3
                go_wp2
                all_goals go_meet
                all_goals exact ⟨_, rfl, rfl⟩
            case rest =>
              obtain ⟨c, rfl, rfl⟩ := hcut
              obtain ⟨b0, b1, b2⟩ := HB3.out.c
              have f2 := HB3.out.free 2
              have hrz : r.size ≤ 100 := by have h1 := HQ.out.2.2.1; have h2 : x * N ≤ 8 * 8 := Nat.mul_le_mul (by omega) hN2; omega
              go_wp2_with fail
              have cb : ∀ X : Wd (fun X => X.cell? ⟨HX, 2, none⟩ = some (.string r)), X.w.cell? ⟨HX, 2, none⟩ = some (.string r) := fun X => X.ok
              have hne : Nonempty (Wd (fun X => X.cell? ⟨HX, 2, none⟩ = some (.string r))) := ⟨⟨wc, b2⟩⟩
              have hadd := addS r c hrz
              refine chain_last (S := (fun X => X.cell? ⟨HX, 2, none⟩ = some (.string r))) [([true, true, true], 3)] [false, false, false, false, true, true] (by kernel_rfl) (by kernel_rfl) (by kernel_rfl) (by kernel_rfl) (by kernel_rfl) (by kernel_rfl) (by simpa using b2) ?_
              simp only [wpSegs, pickB, List.dropLast_cons_cons, List.dropLast_singleton, List.getLast?_cons_cons, List.getLast?_singleton, List.toList_toArray, List.getElem?_toArray, List.getElem?_cons_succ, List.getElem?_cons_zero, Option.toList_some]
              repeat (go_big_quiet_step (fail))
              refine wpQuiet_nil ?_
              intro K hK
              go_wp2_with fail
              refine (l1Bit_draw _ _).mono ?_
              rintro e X ⟨rfl, rfl⟩
              go_wp2_with fail
              refine hK _ _ (by simpa using b2) ?_
              clear hK K
              repeat (go_big_quiet_step (fail))
              refine wpQuiet_nil ?_
              show wpList _ _ _ _ _ _
              have IN : Hid (Dw w R ao len cap HX N (x + 1) (x * N + (y + 1)) (p + 1 + x * 9 + 1 + (y + 1)) (wc.drew.setCell ⟨HX, 2, none⟩ (.string (r ++ bitS c)))) :=
                ⟨_, _, p' + 1, Box.set2 (Box.drew HB3.out) _, HQ.out.2.1, by rw [(allB_push r c HQ.out.2.2.2.2.1).2, HQ.out.2.2.1]; rfl, HQ.out.2.2.2.1, (allB_push r c HQ.out.2.2.2.2.1).1, Rd.setNew HP.out.1.drew hHR, by have := HQ.out.2.2.2.2.2.2.1; omega, grown_new (grown_drew HP.out.2.1) hHw, Box.kept (row := some HX) (Box.drew HP.out.2.2) (grown_setCell _ _ _ _) (by simp; have := HHX.out; omega)⟩
              clear hadd cb hne
              go_wp2_with fail
              go_roundw
              case rel => exact ⟨y + 1, by omega, by go_num, IN.out⟩
              case measure => simp [intOf]; omega
          · obtain rfl : N = y := by omega
            have OUT : Hid (Dw w R ao len cap HX N (x + 1) ((x + 1) * N) (p + 1 + (x + 1) * 9) wr) :=
              Dw.weak ⟨s, r, p', HQ.out⟩ (by rw [Nat.succ_mul]) (by omega)
            go_wp2
            go_roundw
            case rel => exact ⟨x + 1, by omega, by go_num, OUT.out⟩
            case measure => simp [intOf]; omega
    · obtain rfl : N = x := by omega
      obtain ⟨z0, z1, z2⟩ := HQ.out.2.2.2.2.2.2.2.2.c
      have g0 := HQ.out.2.2.2.2.2.2.2.2.free 0
      have g1 := HQ.out.2.2.2.2.2.2.2.2.free 1
      have g2 := HQ.out.2.2.2.2.2.2.2.2.free 2
      have BE := (((HQ.out.2.2.2.2.2.2.2.2).set0 N).set1 s).set2 r
      obtain ⟨e0, e1, e2⟩ := BE.c
      have HF := Lib.hid (show _ ∧ _ ∧ _ from ⟨e0, e1, e2⟩)
      have RES : Hid (Rd (((wr.setCell ⟨w.heap.size, 0, none⟩ (.int .i64 N)).setCell ⟨w.heap.size, 1, none⟩ (.string s)).setCell ⟨w.heap.size, 2, none⟩ (.string r)) R ao len cap p' ∧ w.grownBy (((wr.setCell ⟨w.heap.size, 0, none⟩ (.int .i64 N)).setCell ⟨w.heap.size, 1, none⟩ (.string s)).setCell ⟨w.heap.size, 2, none⟩ (.string r)) (some R)) :=
        ⟨((HQ.out.2.2.2.2.2.1.setNew hRl).setNew hRl).setNew hRl, grown_new (grown_new (grown_new HQ.out.2.2.2.2.2.2.2.1 (Nat.le_refl _)) (Nat.le_refl _)) (Nat.le_refl _)⟩
      clear e0 e1 e2 BE
      go_wp2
      exact bodyPost_ret (v := .agg #[.int .i64 N, .string s, .string r]) (by simp [results, Tryd.results99, go_sem, HF.out.1, HF.out.2.1, HF.out.2.2]) rfl ⟨s, r, p', rfl, HQ.out.2.1, HQ.out.2.2.1, HQ.out.2.2.2.1, HQ.out.2.2.2.2.1, RES.out.1, by have := HQ.out.2.2.2.2.2.2.1; omega, RES.out.2⟩
end Go.Proofs.YtpcnoiigbmiejaaDoor.draw

/- Draws of numbers from written lists, small structures, lists of elements. -/
namespace Go.Proofs.YtpcnoiigbmiejaaDoor.draw
set_option linter.unusedVariables false
set_option linter.unusedSimpArgs false
open Go.ChangeShapes Go.WideShapes Go.ChangeAt Go.RowKit
open Go.Proofs.YtpcnoiigbmiejaaDoor.lib Go.Proofs.YtpcnoiigbmiejaaDoor.st Go.Proofs.YtpcnoiigbmiejaaDoor.flow Go.Proofs.YtpcnoiigbmiejaaDoor.chain

/-- what a draw from a written list leaves: one of its members -/
def OneOf (w : World) (R : Nat) (ao : Option Addr) (len cap p : Nat) (l : List Int) (e : Ending) (w' : World) : Prop :=
  ∃ x : Int, x ∈ l ∧ e = .returned (.int .i64 x) ∧ Rd w' R ao len cap (p + 1) ∧ w.grownBy w' (some R)
theorem num_lit (R : Nat) (ao : Option Addr) (len cap p n H : Nat) (A : Array Value) (l : List Int) (W : World) (h : Rd W R ao len cap p) (hp : p ≤ 1000000000) (hA : A = (ivs l).toArray) (hn : n = l.length) (h0 : 1 ≤ l.length) (h1 : l.length ≤ 1000000000) (hH : W.heap.size = H) :
    Calls Tryd.prog 48 #[.pointer (some ⟨R, 0, none⟩), .slice (some ⟨H, 0, none⟩) n n] (W.alloc (.cells A 3)) (OneOf (W.alloc (.cells A 3)) R ao len cap p l) := by
  subst hA hn
  have hR := h.lt
  refine (num_any R ao len cap p H 0 l.length l _ (h.alloc _) hp h0 h1 (by omega) (fun i hi => by rw [Nat.zero_add]; exact cells_ivs W _ l H hH i hi)).mono ?_
  rintro e w' ⟨i, hi, he, hr, hg⟩
  refine ⟨l.getD i 0, ?_, he, hr, hg⟩
  rw [List.getD_eq_getElem?_getD, List.getElem?_eq_getElem hi]
  exact List.getElem_mem hi

/-- what the drawing of a structure leaves -/
def DrawnS (w : World) (R : Nat) (ao : Option Addr) (len cap P : Nat) (e : Ending) (w' : World) : Prop :=
  ∃ (N : Nat) (s r : ByteArray) (p : Nat), e = .returned (.agg #[.int .i64 N, .string s, .string r]) ∧ 1 ≤ N ∧ N ≤ 8 ∧ s.size = N ∧ r.size = N * N ∧ allB s = true ∧ allB r = true ∧ Rd w' R ao len cap p ∧ p ≤ P ∧ w.grownBy w' (some R)

theorem ret_struct {w wr : World} {H : Nat} {n : Int} {s r : ByteArray} (n' : Int) (s' r' : ByteArray) (h : Box 24 wr H n s r) :
    (((wr.setCell ⟨H, 0, none⟩ (.int .i64 n')).setCell ⟨H, 1, none⟩ (.string s')).setCell ⟨H, 2, none⟩ (.string r')).cell? ⟨H, 0, none⟩ = some (.int .i64 n') ∧
    (((wr.setCell ⟨H, 0, none⟩ (.int .i64 n')).setCell ⟨H, 1, none⟩ (.string s')).setCell ⟨H, 2, none⟩ (.string r')).cell? ⟨H, 1, none⟩ = some (.string s') ∧
    (((wr.setCell ⟨H, 0, none⟩ (.int .i64 n')).setCell ⟨H, 1, none⟩ (.string s')).setCell ⟨H, 2, none⟩ (.string r')).cell? ⟨H, 2, none⟩ = some (.string r') :=
  (((h.set0 n').set1 s').set2 r').c

theorem emptyRow (T : TypeId) (w : World) (B H : Nat) (hH : w.heap.size = H) (hB : B ≤ H) : OwnI T (w.alloc (.cells #[] T)) B (.slice (some ⟨H, 0, none⟩) 0 0) [] := by
  subst hH
  exact World.ownsRow_made w #[] 0 hB (by decide) rfl
theorem infoInt : (Tryd.prog.info? 3).map (fun i => (i.zero, i.size, i.bytes)) = some (some (.int .i64 0), 1, 8) := by kernel_rfl
theorem ownKept {T : TypeId} {w w' : World} {B R : Nat} {v : Value} {l : List Int} (h : OwnI T w B v l) (hg : w.grownBy w' (some R)) (hR : R < B) : OwnI T w' B v l := by
  refine World.ownsRow.kept h hg ?_
  cases hv : v.ownBlock with
  | none => exact .inl rfl
  | some k => exact .inr (fun e => by cases e; have := (World.ownsRow.lt h R hv).1; omega)

/-- what the drawing of a list of n elements below N leaves -/
def DrawnL (w : World) (R : Nat) (ao : Option Addr) (len cap p n N : Nat) (e : Ending) (w' : World) : Prop :=
  ∃ (v : Value) (l : List Int), e = .returned v ∧ l.length = n ∧ (∀ x ∈ l, 0 ≤ x ∧ x < (N : Int)) ∧ OwnI 3 w' w.heap.size v l ∧ Rd w' R ao len cap (p + n) ∧ w.grownBy w' (some R)
/-- within the loop -/
def MidL (w : World) (R : Nat) (ao : Option Addr) (len cap p N k : Nat) (s r : ByteArray) (v : Value) (wr : World) : Prop :=
  ∃ l : List Int, l.length = k ∧ (∀ x ∈ l, 0 ≤ x ∧ x < (N : Int)) ∧ OwnI 3 wr w.heap.size v l ∧ Rd wr R ao len cap (p + k) ∧ w.grownBy wr (some R) ∧ Box 24 wr w.heap.size N s r ∧ (∀ g, v.ownBlock = some g → w.heap.size < g)

set_option maxHeartbeats 1600000 in
theorem l4Some_any (R : Nat) (ao : Option Addr) (len cap p n N : Nat) (s r : ByteArray) (w : World) (h : Rd w R ao len cap p) (hp : p ≤ 100000000) (hn : n ≤ 1000) (hN : 1 ≤ N) (hN2 : N ≤ 8) :
    Calls Tryd.prog 143 #[.pointer (some ⟨R, 0, none⟩), .agg #[.int .i64 N, .string s, .string r], .int .i64 n] w (DrawnL w R ao len cap p n N) := by
  have hRl := h.lt
  have H := Lib.hid h
  clear h
  have START : Hid (MidL w R ao len cap p N 0 s r (.slice (some ⟨w.heap.size + 1, 0, none⟩) 0 0) ((w.alloc (.cells #[.int .i64 N, .string s, .string r] 24)).alloc (.cells #[] 3))) :=
    ⟨[], rfl, fun x hx => (by cases hx), emptyRow _ _ _ _ (by simp) (by omega), (H.out.alloc _).alloc _, grown_alloc (World.grownBy_alloc _ _ _) _, (Box.new 24 w _ rfl N s r).below ((Below.refl (w.heap.size + 1) _).alloc (by simp) _) (by omega), fun g hg => by simp [Value.ownBlock] at hg; omega⟩
  go_enter Tryd.func143, Tryd.ntmps143
  go_wp2
  go_loopw [7, 8] (fun v i wr => ∃ k : Nat, k ≤ n ∧ i = .int .i64 k ∧ MidL w R ao len cap p N k s r v wr) (fun _ i _ => n - (intOf i).toNat)
  case atStart => exact ⟨0, Nat.zero_le _, rfl, START.out⟩
  case round =>
    clear START
    obtain ⟨k, hk, rfl, l, hl, hlx, hown, hrd, hgr, hbx, hblk⟩ := hrel
    obtain ⟨c0, c1, c2⟩ := hbx.c
    have HQ := Lib.hid (show _ ∧ _ ∧ _ ∧ _ ∧ _ ∧ _ ∧ _ from ⟨hl, hlx, hown, hrd, hgr, hbx, hblk⟩)
    clear hl hlx hown hrd hgr hbx hblk
    by_cases hkn : k < n
    · have hmin : min (N : Int) 8 = (N : Int) := by omega
      have hmax : max (N : Int) 1 = (N : Int) := by omega
      go_wp2_with fail
      refine (pick_any R ao len cap (p + k) N _ HQ.out.2.2.2.1 (by omega) hN (by omega)).mono ?_
      rintro e w1 ⟨y, hy, rfl, hr1, hg1⟩
      have HO1 := Lib.hid (ownKept HQ.out.2.2.1 hg1 hRl)
      have HP := Lib.hid (show _ ∧ _ ∧ _ from ⟨hr1, grown_trans HQ.out.2.2.2.2.1 hg1, Box.kept (row := some R) HQ.out.2.2.2.2.2.1 hg1 (by simp; omega)⟩)
      have hsz : w.heap.size ≤ w1.heap.size := HP.out.2.1.size
      clear hr1 hg1
      go_wp2_with (at_builtin; refine wpList_app1 w1 rfl (.tmp 15) (.tmp 22) 32 rfl w.heap.size 3 (.int .i64 0) 8 Tryd.underlying32 infoInt rfl (by decide) _ _ _ (.int .i64 y) rfl HO1.out w1.heap.size rfl rfl rfl (by have := HQ.out.1; omega) hsz ?_)
      intro g cap' w9 hown9 hgr
      have R9 : Hid (MidL w R ao len cap p N (k + 1) s r (.slice (some ⟨g, 0, none⟩) (l.length + 1) cap') w9) := by
        have hgw : w1.grownBy w9 (u7.ownBlock) := hgr.grown
        have hrow : ∀ q, u7.ownBlock = some q → w.heap.size < q := HQ.out.2.2.2.2.2.2
        refine ⟨l ++ [(y : Int)], by simp [HQ.out.1], fun x hx => ?_, by unfold OwnI; rw [List.length_append, ivs_append]; exact hown9, ?_, ?_, ?_, fun q hq => ?_⟩
        · rcases List.mem_append.1 hx with hx | hx
          · exact HQ.out.2.1 x hx
          · simp at hx; omega
        · exact (HP.out.1).kept hgw (fun q hq => by have := hrow q hq; omega)
        · refine ⟨hgw.os.trans HP.out.2.1.os, hgw.tape.trans HP.out.2.1.tape, hgw.output.trans HP.out.2.1.output, Nat.le_trans HP.out.2.1.size hgw.size, fun q hq hne => (hgw.block q (by omega) (fun e => by have := hrow q e.symm; omega)).trans (HP.out.2.1.block q hq hne)⟩
        · exact Box.kept HP.out.2.2 hgw (fun e => by have := hrow _ e; omega)
        · simp [Value.ownBlock] at hq
          subst hq
          rcases hgr.blk g (by simp [Value.ownBlock]) with hb | hb
          · exact hrow g hb
          · have := HP.out.2.2.lt; omega
      clear hown9 hgr hsz
      go_wp2
      go_roundw
      case rel => exact ⟨k + 1, by omega, by go_num, R9.out⟩
      case measure => simp [intOf]; omega
    · obtain rfl : n = k := by omega
      go_wp2
      go_ret
      exact ⟨_, l, rfl, HQ.out.1, HQ.out.2.1, HQ.out.2.2.1, HQ.out.2.2.2.1, HQ.out.2.2.2.2.1⟩
end Go.Proofs.YtpcnoiigbmiejaaDoor.draw

/- More draws: of, l15Many, l1Some, l1Element, l9Distance. -/
namespace Go.Proofs.YtpcnoiigbmiejaaDoor.draw
set_option linter.unusedVariables false
set_option linter.unusedSimpArgs false
open Go.ChangeShapes Go.WideShapes Go.ChangeAt Go.RowKit
open Go.Proofs.YtpcnoiigbmiejaaDoor.lib Go.Proofs.YtpcnoiigbmiejaaDoor.st Go.Proofs.YtpcnoiigbmiejaaDoor.flow Go.Proofs.YtpcnoiigbmiejaaDoor.chain

/-- what a draw from a written list of short strings leaves -/
def OneStr (w : World) (R : Nat) (ao : Option Addr) (len cap p : Nat) (e : Ending) (w' : World) : Prop :=
  ∃ x : ByteArray, x.size ≤ 2 ∧ e = .returned (.string x) ∧ Rd w' R ao len cap (p + 1) ∧ w.grownBy w' (some R)
set_option maxHeartbeats 800000 in
theorem of_any (R : Nat) (ao : Option Addr) (len cap p : Nat) (b c n : Nat) (w : World) (h : Rd w R ao len cap p) (hp : p ≤ 1000000000) (h0 : 1 ≤ n) (h1 : n ≤ 1000000000)
    (hb : b ≠ R) (hl : ∀ i, i < n → ∃ x : ByteArray, x.size ≤ 2 ∧ w.cell? ⟨b, i, none⟩ = some (.string x)) :
    Calls Tryd.prog 100 #[.pointer (some ⟨R, 0, none⟩), .slice (some ⟨b, 0, none⟩) n c] w (OneStr w R ao len cap p) := by
  have HL := Lib.hid hl
  clear hl
  go_enter Tryd.func100, Tryd.ntmps100
  go_wp2_with fail
  refine (pick_any R ao len cap p n w h hp h0 h1).mono ?_
  rintro e w1 ⟨v, hv, rfl, hr, hg⟩
  obtain ⟨x, hx, hcx⟩ := HL.out v hv
  have hc := hg.cell hcx (by simpa using hb)
  have R1 := Lib.hid (show _ ∧ _ from ⟨hr, hg⟩)
  clear hr hg hcx
  go_wp2
  go_ret
  exact ⟨x, hx, rfl, R1.out.1, R1.out.2⟩
theorem of_lit (R : Nat) (ao : Option Addr) (len cap p n H : Nat) (A : Array Value) (W : World) (h : Rd W R ao len cap p) (hp : p ≤ 1000000000) (h0 : 1 ≤ n) (h1 : n ≤ 1000000000) (hA : ∀ i, i < n → ∃ x : ByteArray, x.size ≤ 2 ∧ A[i]? = some (.string x)) (hH : W.heap.size = H) (T : TypeId) :
    Calls Tryd.prog 100 #[.pointer (some ⟨R, 0, none⟩), .slice (some ⟨H, 0, none⟩) n n] (W.alloc (.cells A T)) (OneStr (W.alloc (.cells A T)) R ao len cap p) := by
  subst hH
  have hR := h.lt
  refine of_any R ao len cap p W.heap.size n n _ (h.alloc _) hp h0 h1 (by omega) fun i hi => ?_
  obtain ⟨x, hx, he⟩ := hA i hi
  refine ⟨x, hx, ?_⟩
  have hh := heap_alloc_new W (.cells A T)
  simp only [World.cell?, hh]
  exact he

/-- a text that is repeated: its size alone matters -/
theorem many_any (s0 : ByteArray) (C : Nat) (w : World) (hs : s0.size = 1) (hC : C ≤ 1000) :
    Calls Tryd.prog 101 #[.string s0, .int .i64 C] w fun e w' => ∃ x : ByteArray, x.size = C ∧ e = .returned (.string x) ∧ w = w' := by
  have hs' : s0.size ≤ 1 := by omega
  have HS := Lib.hid hs
  clear hs
  go_enter Tryd.func101, Tryd.ntmps101
  go_wp2
  go_loop [0, 1, 5] (fun s n o => ∃ (k : Nat) (a b : ByteArray), n = .int .i64 k ∧ s = .string a ∧ o = .string b ∧ Hid (b.size + k * a.size = C) ∧ k ≤ C ∧ a.size ≤ 2 * C + 1 ∧ b.size ≤ C) (fun _ n _ => (intOf n).toNat)
  case atStart => exact ⟨C, s0, ⟨#[]⟩, rfl, rfl, rfl, by rw [Hid, HS.out]; show 0 + C * 1 = C; omega, Nat.le_refl _, by omega, Nat.zero_le _⟩
  case round =>
    obtain ⟨k, a, b, rfl, rfl, rfl, hsum, hk, ha, hb⟩ := hrel
    by_cases h0 : 0 < k
    · have hka : a.size ≤ C := by
        have h1 := hsum.out
        have : 1 * a.size ≤ k * a.size := Nat.mul_le_mul_right _ h0
        omega
      by_cases hodd : k % 2 = 1
      · obtain ⟨j, rfl⟩ : ∃ j, k = 2 * j + 1 := ⟨k / 2, by omega⟩
        have hs1 := hsum.out
        have e1 : (2 * j + 1) * a.size = j * (a.size + a.size) + a.size := by rw [Nat.add_mul, Nat.mul_assoc, Nat.mul_add, Nat.one_mul]; omega
        have hq : (b ++ a).size = b.size + a.size := ByteArray.size_append
        have hq2 : (a ++ a).size = a.size + a.size := ByteArray.size_append
        have hba : (b ++ a).size ≤ C := by
          have : 0 ≤ j * (a.size + a.size) := Nat.zero_le _
          omega
        have R : Hid ((b ++ a).size + j * (a ++ a).size = C ∧ (a ++ a).size ≤ 2 * C + 1 ∧ (b ++ a).size ≤ C) := ⟨by rw [hq2]; omega, by omega, hba⟩
        have t1 : ((((2 * j + 1 : Nat) : Int)) % 2 == 1) = true := by first | (simp; done) | (simp; omega)
        have t2 : (((2 * j + 1 : Nat) : Int)) / 2 = (j : Int) := by omega
        clear hs1 e1 hq hq2 hba hodd hsum
        go_wp2
        go_round
        case rel => exact ⟨j, a ++ a, b ++ a, by first | rfl | (rw [t2]) | (congr 1 <;> omega), rfl, rfl, R.out.1, by omega, R.out.2.1, R.out.2.2⟩
        case measure => simp [intOf] <;> omega
      · obtain ⟨j, rfl⟩ : ∃ j, k = 2 * j := ⟨k / 2, by omega⟩
        have hs1 := hsum.out
        have e1 : (2 * j) * a.size = j * (a.size + a.size) := by first | (rw [Nat.mul_add, Nat.mul_assoc]; done) | (rw [Nat.mul_add, Nat.mul_assoc]; omega) | (rw [Nat.mul_comm 2 j, Nat.mul_assoc, Nat.two_mul])
        have hq2 : (a ++ a).size = a.size + a.size := ByteArray.size_append
        have R : Hid (b.size + j * (a ++ a).size = C ∧ (a ++ a).size ≤ 2 * C + 1) := ⟨by rw [hq2]; omega, by omega⟩
        have t1 : ((((2 * j : Nat) : Int)) % 2 == 1) = false := by first | (simp; done) | (simp; omega)
        have t2 : (((2 * j : Nat) : Int)) / 2 = (j : Int) := by omega
        clear hs1 e1 hq2 hodd hsum
        go_wp2
        go_round
        case rel => exact ⟨j, a ++ a, b, by first | rfl | (rw [t2]) | (congr 1 <;> omega), rfl, rfl, R.out.1, by omega, R.out.2, hb⟩
        case measure => simp [intOf] <;> omega
    · obtain rfl : 0 = k := by omega
      have R : Hid (b.size = C) := by have := hsum.out; unfold Hid; omega
      clear hsum
      go_wp2
      go_ret
      exact ⟨b, R.out, rfl, rfl⟩
set_option maxHeartbeats 800000 in
theorem l1Some_any (R : Nat) (ao : Option Addr) (len cap p : Nat) (w : World) (h : Rd w R ao len cap p) (hp : p ≤ 90000000) :
    Calls Tryd.prog 95 #[.pointer (some ⟨R, 0, none⟩)] w (DrawnS w R ao len cap (p + 201)) := by
  have hRl := h.lt
  have H := Lib.hid h
  have B0 : Hid (Box 24 (w.alloc (.cells #[.int .i64 0, .string ⟨#[]⟩, .string ⟨#[]⟩] 24)) w.heap.size 0 ⟨#[]⟩ ⟨#[]⟩) := Box.new _ w _ rfl _ _ _
  clear h
  go_enter Tryd.func95, Tryd.ntmps95
  go_wp2_with fail
  refine (num_lit R ao len cap p 6 (w.heap.size + 1) _ [3, 4, 2, 1, 5, 3] _ (H.out.alloc _) (by omega) rfl rfl (by decide) (by decide) (by simp)).mono ?_
  rintro e w1 ⟨x, hx, rfl, hr, hg⟩
  obtain ⟨N, rfl, hN1, hN2⟩ : ∃ N : Nat, x = N ∧ 1 ≤ N ∧ N ≤ 8 := by
    simp at hx
    exact ⟨x.toNat, by omega, by omega, by omega⟩
  have HP := Lib.hid (show _ ∧ _ ∧ _ from ⟨hr, grown_trans (grown_alloc (World.grownBy_alloc w _ _) _) hg, Box.kept (row := some R) (B0.out.below ((Below.refl (w.heap.size + 1) _).alloc (by simp) _) (by omega)) hg (by simp; omega)⟩)
  clear hr hg hx
  go_wp2_with fail
  refine (l1Draw_any R ao len cap (p + 1) N _ HP.out.1 (by omega) hN1 hN2).mono ?_
  rintro e w2 ⟨s, r, p2, rfl, hs, hr, hsb, hrb, hrd, hp2, hg⟩
  have hb0 := Box.kept (row := some R) HP.out.2.2 hg (by simp; omega)
  have HF := Lib.hid (ret_struct (w := w2) N s r hb0)
  obtain ⟨z0, z1, z2⟩ := hb0.c
  have g0 := hb0.free 0
  have g1 := hb0.free 1
  have g2 := hb0.free 2
  have RES : Hid (Rd (((w2.setCell ⟨w.heap.size, 0, none⟩ (.int .i64 N)).setCell ⟨w.heap.size, 1, none⟩ (.string s)).setCell ⟨w.heap.size, 2, none⟩ (.string r)) R ao len cap p2 ∧ w.grownBy (((w2.setCell ⟨w.heap.size, 0, none⟩ (.int .i64 N)).setCell ⟨w.heap.size, 1, none⟩ (.string s)).setCell ⟨w.heap.size, 2, none⟩ (.string r)) (some R)) :=
    ⟨((hrd.setNew hRl).setNew hRl).setNew hRl, grown_new (grown_new (grown_new (grown_trans HP.out.2.1 hg) (Nat.le_refl _)) (Nat.le_refl _)) (Nat.le_refl _)⟩
  have HZ := Lib.hid (show _ ∧ _ ∧ _ ∧ _ ∧ _ from ⟨hs, hr, hsb, hrb, hp2⟩)
  clear hs hr hsb hrb hrd hp2 hg hb0
  go_wp2
  exact bodyPost_ret (v := .agg #[.int .i64 N, .string s, .string r]) (by simp [results, Tryd.results95, go_sem, HF.out.1, HF.out.2.1, HF.out.2.2]) rfl ⟨N, s, r, p2, rfl, hN1, hN2, HZ.out.1, HZ.out.2.1, HZ.out.2.2.1, HZ.out.2.2.2.1, RES.out.1, by have := HZ.out.2.2.2.2; omega, RES.out.2⟩


theorem l9Distance_any (R : Nat) (ao : Option Addr) (len cap p : Nat) (w : World) (h : Rd w R ao len cap p) (hp : p ≤ 90000000) :
    Calls Tryd.prog 70 #[.pointer (some ⟨R, 0, none⟩)] w fun e w' => ∃ x : Int, e = .returned (.int .i64 x) ∧ (-1 ≤ x ∧ x ≤ 101) ∧ Rd w' R ao len cap (p + 1) ∧ w.grownBy w' (some R) := by
  have H := Lib.hid h
  clear h
  go_enter Tryd.func70, Tryd.ntmps70
  go_wp2_with fail
  refine (num_lit R ao len cap p 10 w.heap.size _ [1, 2, 0, 1, 3, 4, 100, 101, -1, 1] _ H.out (by omega) rfl rfl (by decide) (by decide) rfl).mono ?_
  rintro e w2 ⟨x, hx, rfl, hr, hg⟩
  have R2 : Hid ((-1 ≤ x ∧ x ≤ 101) ∧ Rd w2 R ao len cap (p + 1) ∧ w.grownBy w2 (some R)) := by
    refine ⟨?_, hr, grown_trans (World.grownBy_alloc w _ _) hg⟩
    simp at hx
    omega
  clear hx hr hg
  go_wp2
  go_ret
  exact ⟨x, rfl, R2.out.1, R2.out.2.1, R2.out.2.2⟩
end Go.Proofs.YtpcnoiigbmiejaaDoor.draw

/- The drawing of a structure with few related elements: l9Draw. -/
namespace Go.Proofs.YtpcnoiigbmiejaaDoor.draw
set_option linter.unusedVariables false
set_option linter.unusedSimpArgs false
open Go.ChangeShapes Go.WideShapes Go.ChangeAt Go.RowKit
open Go.Proofs.YtpcnoiigbmiejaaDoor.lib Go.Proofs.YtpcnoiigbmiejaaDoor.st Go.Proofs.YtpcnoiigbmiejaaDoor.flow Go.Proofs.YtpcnoiigbmiejaaDoor.chain

theorem add4 (k x N : Nat) (h : k = x * N + N) : k = (x + 1) * N := by rw [Nat.succ_mul]; exact h

set_option maxHeartbeats 3200000 in
set_option maxRecDepth 100000 in
theorem l9Draw_any (R : Nat) (ao : Option Addr) (len cap p : Nat) (w : World) (h : Rd w R ao len cap p) (hp : p ≤ 80000000) :
    Calls Tryd.prog 118 #[.pointer (some ⟨R, 0, none⟩)] w (DrawnS w R ao len cap (p + 300)) := by
  have hRl := h.lt
  have H := Lib.hid h
  have B0 : Hid (Box 24 (w.alloc (.cells #[.int .i64 0, .string ⟨#[]⟩, .string ⟨#[]⟩] 24)) w.heap.size 0 ⟨#[]⟩ ⟨#[]⟩) := Box.new _ w _ rfl _ _ _
  clear h
  go_enter Tryd.func118, Tryd.ntmps118
  go_wp2_with fail
  refine (num_lit R ao len cap p 6 (w.heap.size + 1) _ [4, 5, 3, 6, 2, 1] _ (H.out.alloc _) (by omega) rfl rfl (by decide) (by decide) (by simp)).mono ?_
  rintro e w1 ⟨x, hx, rfl, hr, hg⟩
  obtain ⟨N, rfl, hN1, hN2⟩ : ∃ N : Nat, x = N ∧ 1 ≤ N ∧ N ≤ 6 := by
    simp at hx
    exact ⟨x.toNat, by omega, by omega, by omega⟩
  have HP1 := Lib.hid (show _ ∧ _ ∧ _ from ⟨hr, grown_trans (grown_alloc (World.grownBy_alloc w _ _) _) hg, Box.kept (row := some R) (B0.out.below ((Below.refl (w.heap.size + 1) _).alloc (by simp) _) (by omega)) hg (by simp; omega)⟩)
  clear hr hg hx
  obtain ⟨HX, hHX⟩ : ∃ HX, HX = w1.heap.size := ⟨_, rfl⟩
  have hHR : R < HX := by have := HP1.out.1.lt; omega
  have hHw1 : w.heap.size < HX := by have := HP1.out.2.2.lt; omega
  have hHw : w.heap.size ≤ HX := by omega
  have START : Hid (Dw w R ao len cap HX N 0 (0 * N) (p + 1 + 0 * 13) (w1.alloc (.cells #[.int .i64 N, .string ⟨#[]⟩, .string ⟨#[]⟩] 24))) :=
    ⟨⟨#[]⟩, ⟨#[]⟩, p + 1, Box.new _ w1 _ hHX.symm _ _ _, rfl, by simp; rfl, rfl, rfl, HP1.out.1.alloc _, by omega, grown_alloc HP1.out.2.1 _, Box.kept (row := none) HP1.out.2.2 (World.grownBy_alloc _ _ _) (by simp)⟩
  go_wp2_with fail
  rw [← hHX]
  have HHX := Lib.hid hHX
  clear hHX
  go_loopw [5] (fun i wr => ∃ x : Nat, x ≤ N ∧ i = .int .i64 x ∧ Dw w R ao len cap HX N x (x * N) (p + 1 + x * 13) wr) (fun i _ => N - (intOf i).toNat)
  case atStart => exact ⟨0, Nat.zero_le _, rfl, START.out⟩
  case round =>
    clear START
    obtain ⟨x, hx, rfl, s, r, p', hbox, hsz, hrz, hsb, hrb, hrd, hpp, hgr, hb0⟩ := hrel
    obtain ⟨b0, b1, b2⟩ := hbox.c
    have f1 := hbox.free 1
    have HQ := Lib.hid (show _ ∧ _ ∧ _ ∧ _ ∧ _ ∧ _ ∧ _ ∧ _ ∧ _ from ⟨hbox, hsz, hrz, hsb, hrb, hrd, hpp, hgr, hb0⟩)
    clear hbox hsz hrz hsb hrb hrd hpp hgr hb0
    by_cases hxn : x < N
    · have hss : s.size ≤ 100 := by have := HQ.out.2.1; omega
      go_wp2_with fail
      have cb : ∀ X : Wd (fun X => X.cell? ⟨HX, 1, none⟩ = some (.string s)), X.w.cell? ⟨HX, 1, none⟩ = some (.string s) := fun X => X.ok
      have hne : Nonempty (Wd (fun X => X.cell? ⟨HX, 1, none⟩ = some (.string s))) := ⟨⟨wr, b1⟩⟩
      refine chain_last (S := (fun X => X.cell? ⟨HX, 1, none⟩ = some (.string s))) [([true, true, true], 3), ([false, false, false, false, true], 5)] [false, false, false, false, false, false, true, true] (by kernel_rfl) (by kernel_rfl) (by kernel_rfl) (by kernel_rfl) (by kernel_rfl) (by kernel_rfl) (by simpa using b1) ?_
      simp only [wpSegs, pickB, List.dropLast_cons_cons, List.dropLast_singleton, List.getLast?_cons_cons, List.getLast?_singleton, List.toList_toArray, List.getElem?_toArray, List.getElem?_cons_succ, List.getElem?_cons_zero, Option.toList_some]
      repeat (go_big_quiet_step (fail))
      refine wpQuiet_nil ?_
      intro K hK
      go_wp2_with fail
      refine (pick_any R ao len cap p' 6 _ HQ.out.2.2.2.2.2.1.drew (by have := HQ.out.2.2.2.2.2.2.1; omega) (by omega) (by omega)).mono ?_
      rintro e w2 ⟨v2, hv2, rfl, hr, hg⟩
      have b2 := hg.cell (show World.cell? wr.drew ⟨HX, 1, none⟩ = some (.string s) by simpa using b1) (by simp; omega)
      have HP2 := Lib.hid (show _ ∧ _ ∧ _ ∧ _ from ⟨hr, grown_trans (grown_drew HQ.out.2.2.2.2.2.2.2.1) hg, Box.kept (row := some R) (Box.drew HQ.out.1) hg (by simp; omega), Box.kept (row := some R) (Box.drew HQ.out.2.2.2.2.2.2.2.2) hg (by simp; omega)⟩)
      have f2 := HP2.out.2.2.1.free 1
      clear hr hg
      have hadd := addS s ((v2 : Int) == 0) hss
      go_wp2_with fail
      refine hK _ _ b2 ?_
      clear hK K
      repeat (go_big_quiet_step (fail))
      refine wpQuiet_nil ?_
      intro K hK
      go_wp2_with fail
      refine (l1Bit_draw _ _).mono ?_
      rintro e X ⟨rfl, rfl⟩
      go_wp2_with fail
      refine hK _ _ b2 ?_
      clear hK K
      repeat (go_big_quiet_step (fail))
      refine wpQuiet_nil ?_
      show wpList _ _ _ _ _ _
      have IN : Hid (Dw w R ao len cap HX N (x + 1) (x * N + 0) (p + 1 + x * 13 + 1 + 2 * 0) (w2.setCell ⟨HX, 1, none⟩ (.string (s ++ bitS ((v2 : Int) == 0))))) :=
        ⟨_, _, p' + 1, Box.set1 HP2.out.2.2.1 _, by rw [(allB_push s ((v2 : Int) == 0) HQ.out.2.2.2.1).2, HQ.out.2.1], by simpa using HQ.out.2.2.1, (allB_push s ((v2 : Int) == 0) HQ.out.2.2.2.1).1, HQ.out.2.2.2.2.1, Rd.setNew HP2.out.1 hHR, by have := HQ.out.2.2.2.2.2.2.1; omega, grown_new HP2.out.2.1 hHw, Box.kept (row := some HX) HP2.out.2.2.2 (grown_setCell _ _ _ _) (by simp; omega)⟩
      go_wp2_with fail
      clear hadd cb hne HP2 b2 f2 HQ b0 b1 f1
      go_loopw [6] (fun i wr => ∃ y : Nat, y ≤ N ∧ i = .int .i64 y ∧ Dw w R ao len cap HX N (x + 1) (x * N + y) (p + 1 + x * 13 + 1 + 2 * y) wr) (fun i _ => N - (intOf i).toNat)
      case atStart => exact ⟨0, Nat.zero_le _, rfl, IN.out⟩
      case round =>
        clear IN
        obtain ⟨y, hy, rfl, s, r, p', hbox, hsz, hrz, hsb, hrb, hrd, hpp, hgr, hb0⟩ := hrel
        obtain ⟨b0, b1, b2⟩ := hbox.c
        have f2 := hbox.free 2
        have HQ := Lib.hid (show _ ∧ _ ∧ _ ∧ _ ∧ _ ∧ _ ∧ _ ∧ _ ∧ _ from ⟨hbox, hsz, hrz, hsb, hrb, hrd, hpp, hgr, hb0⟩)
        clear hbox hsz hrz hsb hrb hrd hpp hgr hb0
        by_cases hyn : y < N
        · have hrz : r.size ≤ 100 := by have h1 := HQ.out.2.2.1; have h2 : x * N ≤ 6 * 6 := Nat.mul_le_mul (by omega) hN2; omega
          go_wp2_with fail
          have cb : ∀ X : Wd (fun X => X.cell? ⟨HX, 2, none⟩ = some (.string r)), X.w.cell? ⟨HX, 2, none⟩ = some (.string r) := fun X => X.ok
          have hne : Nonempty (Wd (fun X => X.cell? ⟨HX, 2, none⟩ = some (.string r))) := ⟨⟨wr, b2⟩⟩
          refine chain_last (S := (fun X => X.cell? ⟨HX, 2, none⟩ = some (.string r))) [([true, true, true, true, true], 5), ([false, false, false, false, false, false, true, true, true, true, true, true, true, true], 14), ([false, false, false, false, false, false, false, false, false, false, false, false, false, false, false, true, true, true], 18)] [false, false, false, false, false, false, false, false, false, false, false, false, false, false, false, false, false, false, false, true, true] (by kernel_rfl) (by kernel_rfl) (by kernel_rfl) (by kernel_rfl) (by kernel_rfl) (by kernel_rfl) (by simpa using b2) ?_
          simp only [wpSegs, pickB, List.dropLast_cons_cons, List.dropLast_singleton, List.getLast?_cons_cons, List.getLast?_singleton, List.toList_toArray, List.getElem?_toArray, List.getElem?_cons_succ, List.getElem?_cons_zero, Option.toList_some]
          repeat (go_big_quiet_step (fail))
          refine wpQuiet_nil ?_
          intro K hK
          go_wp2_with fail
          refine (pick_any R ao len cap p' (N + 2) _ HQ.out.2.2.2.2.2.1.drew (by have := HQ.out.2.2.2.2.2.2.1; omega) (by omega) (by omega)).mono ?_
          rintro e w3 ⟨v3, hv3, rfl, hr, hg⟩
          have b3 := hg.cell (show World.cell? wr.drew ⟨HX, 2, none⟩ = some (.string r) by simpa using b2) (by simp; omega)
          have HP3 := Lib.hid (show _ ∧ _ ∧ _ ∧ _ from ⟨hr, grown_trans (grown_drew HQ.out.2.2.2.2.2.2.2.1) hg, Box.kept (row := some R) (Box.drew HQ.out.1) hg (by simp; omega), Box.kept (row := some R) (Box.drew HQ.out.2.2.2.2.2.2.2.2) hg (by simp; omega)⟩)
          have f3 := HP3.out.2.2.1.free 2
          clear hr hg
          go_wp2_with fail
          refine hK _ _ b3 ?_
          clear hK K
          by_cases hv0 : v3 = 0
          · have t0 : ((v3 : Int) == 0) = true := by simp; omega
            have hadd := addS r true hrz
            repeat (go_big_quiet_step (fail))
            refine wpQuiet_nil ?_
            intro K hK
            go_wp2_with fail
            refine hK _ _ b3 ?_
            clear hK K
            repeat (go_big_quiet_step (fail))
            refine wpQuiet_nil ?_
            intro K hK
            go_wp2_with fail
            refine (l1Bit_draw _ _).mono ?_
            rintro e X ⟨rfl, rfl⟩
            go_wp2_with fail
            refine hK _ _ b3 ?_
            clear hK K
            repeat (go_big_quiet_step (fail))
            refine wpQuiet_nil ?_
            show wpList _ _ _ _ _ _
            have RN : Hid (Dw w R ao len cap HX N (x + 1) (x * N + (y + 1)) (p + 1 + x * 13 + 1 + 2 * (y + 1)) (w3.setCell ⟨HX, 2, none⟩ (.string (r ++ bitS true)))) :=
              ⟨_, _, p' + 1, Box.set2 HP3.out.2.2.1 _, HQ.out.2.1, by rw [(allB_push r true HQ.out.2.2.2.2.1).2, HQ.out.2.2.1]; rfl, HQ.out.2.2.2.1, (allB_push r true HQ.out.2.2.2.2.1).1, Rd.setNew HP3.out.1 hHR, by have := HQ.out.2.2.2.2.2.2.1; omega, grown_new HP3.out.2.1 hHw, Box.kept (row := some HX) HP3.out.2.2.2 (grown_setCell _ _ _ _) (by simp; omega)⟩
            clear cb hne
            go_wp2_with fail
            go_roundw
            case rel => exact ⟨y + 1, by omega, by go_num, RN.out⟩
            case measure => simp [intOf]; omega
          · by_cases hyx : y = x + 1
            · have t0 : ((v3 : Int) == 0) = false := by simp; omega
              have ty : ((y : Int) == (x : Int) + 1) = true := by simp; omega
              repeat (go_big_quiet_step (fail))
              refine wpQuiet_nil ?_
              intro K hK
              go_wp2_with fail
              refine (pick_any R ao len cap (p' + 1) 3 _ HP3.out.1 (by have := HQ.out.2.2.2.2.2.2.1; omega) (by omega) (by omega)).mono ?_
              rintro e w4 ⟨v4, hv4, rfl, hr, hg⟩
              have b4 := hg.cell (show World.cell? w3 ⟨HX, 2, none⟩ = some (.string r) by simpa using b3) (by simp; omega)
              have HP4 := Lib.hid (show _ ∧ _ ∧ _ ∧ _ from ⟨hr, grown_trans HP3.out.2.1 hg, Box.kept (row := some R) HP3.out.2.2.1 hg (by simp; omega), Box.kept (row := some R) HP3.out.2.2.2 hg (by simp; omega)⟩)
              have f4 := HP4.out.2.2.1.free 2
              clear hr hg
              have hadd := addS r (decide (0 < v4)) hrz
              go_wp2_with fail
              refine hK _ _ b4 ?_
              clear hK K
              repeat (go_big_quiet_step (fail))
              refine wpQuiet_nil ?_
              intro K hK
              go_wp2_with fail
              refine (l1Bit_draw _ _).mono ?_
              rintro e X ⟨rfl, rfl⟩
              go_wp2_with fail
              refine hK _ _ b4 ?_
              clear hK K
              repeat (go_big_quiet_step (fail))
              refine wpQuiet_nil ?_
              show wpList _ _ _ _ _ _
              have RN : Hid (Dw w R ao len cap HX N (x + 1) (x * N + (y + 1)) (p + 1 + x * 13 + 1 + 2 * (y + 1)) (w4.setCell ⟨HX, 2, none⟩ (.string (r ++ bitS (decide (0 < v4)))))) :=
                ⟨_, _, p' + 2, Box.set2 HP4.out.2.2.1 _, HQ.out.2.1, by rw [(allB_push r (decide (0 < v4)) HQ.out.2.2.2.2.1).2, HQ.out.2.2.1]; rfl, HQ.out.2.2.2.1, (allB_push r (decide (0 < v4)) HQ.out.2.2.2.2.1).1, Rd.setNew HP4.out.1 hHR, by have := HQ.out.2.2.2.2.2.2.1; omega, grown_new HP4.out.2.1 hHw, Box.kept (row := some HX) HP4.out.2.2.2 (grown_setCell _ _ _ _) (by simp; omega)⟩
              clear cb hne
              go_wp2_with fail
              go_roundw
              case rel => exact ⟨y + 1, by omega, by go_num, RN.out⟩
              case measure => simp [intOf]; omega
            · have t0 : ((v3 : Int) == 0) = false := by simp; omega
              have ty : ((y : Int) == (x : Int) + 1) = false := by simp; omega
              have hadd := addS r false hrz
              repeat (go_big_quiet_step (fail))
              refine wpQuiet_nil ?_
              intro K hK
              go_wp2_with fail
              refine hK _ _ b3 ?_
              clear hK K
              repeat (go_big_quiet_step (fail))
              refine wpQuiet_nil ?_
              intro K hK
              go_wp2_with fail
              refine (l1Bit_draw _ _).mono ?_
              rintro e X ⟨rfl, rfl⟩
              go_wp2_with fail
              refine hK _ _ b3 ?_
              clear hK K
              repeat (go_big_quiet_step (fail))
              refine wpQuiet_nil ?_
              show wpList _ _ _ _ _ _
              have RN : Hid (Dw w R ao len cap HX N (x + 1) (x * N + (y + 1)) (p + 1 + x * 13 + 1 + 2 * (y + 1)) (w3.setCell ⟨HX, 2, none⟩ (.string (r ++ bitS false)))) :=
                ⟨_, _, p' + 1, Box.set2 HP3.out.2.2.1 _, HQ.out.2.1, by rw [(allB_push r false HQ.out.2.2.2.2.1).2, HQ.out.2.2.1]; rfl, HQ.out.2.2.2.1, (allB_push r false HQ.out.2.2.2.2.1).1, Rd.setNew HP3.out.1 hHR, by have := HQ.out.2.2.2.2.2.2.1; omega, grown_new HP3.out.2.1 hHw, Box.kept (row := some HX) HP3.out.2.2.2 (grown_setCell _ _ _ _) (by simp; omega)⟩
              clear cb hne
              go_wp2_with fail
              go_roundw
              case rel => exact ⟨y + 1, by omega, by go_num, RN.out⟩
              case measure => simp [intOf]; omega
        · obtain rfl : N = y := by omega
          have OUT : Hid (Dw w R ao len cap HX N (x + 1) ((x + 1) * N) (p + 1 + (x + 1) * 13) wr) :=
            Dw.weak ⟨s, r, p', HQ.out⟩ (by rw [Nat.succ_mul]) (by omega)
          go_wp2
          go_roundw
          case rel => exact ⟨x + 1, by omega, by go_num, OUT.out⟩
          case measure => simp [intOf]; omega
    · obtain rfl : N = x := by omega
      go_wp2_with fail
      refine (pick_any R ao len cap p' 4 _ HQ.out.2.2.2.2.2.1 (by have := HQ.out.2.2.2.2.2.2.1; omega) (by omega) (by omega)).mono ?_
      rintro e w5 ⟨v, hv, rfl, hr, hg⟩
      have hbx := Box.kept (row := some R) HQ.out.1 hg (by simp; omega)
      have hb0 := Box.kept (row := some R) HQ.out.2.2.2.2.2.2.2.2 hg (by simp; omega)
      have HP := Lib.hid (show _ ∧ _ ∧ _ ∧ _ from ⟨hr, grown_trans HQ.out.2.2.2.2.2.2.2.1 hg, hbx, hb0⟩)
      clear hr hg
      by_cases hv0 : v = 0
      · subst hv0
        clear hbx hb0
        go_wp2_with fail
        refine (l1Some_any R ao len cap (p' + 1) _ HP.out.1 (by have := HQ.out.2.2.2.2.2.2.1; omega)).mono ?_
        rintro e w6 ⟨M, s6, r6, p6, rfl, hM1, hM2, hs, hr, hsb, hrb, hrd, hp6, hg⟩
        have hb0 := Box.kept (row := some R) HP.out.2.2.2 hg (by simp; omega)
        have HF := Lib.hid (ret_struct (w := w6) M s6 r6 hb0)
        obtain ⟨z0, z1, z2⟩ := hb0.c
        have g0 := hb0.free 0
        have g1 := hb0.free 1
        have g2 := hb0.free 2
        have RES : Hid (Rd (((w6.setCell ⟨w.heap.size, 0, none⟩ (.int .i64 M)).setCell ⟨w.heap.size, 1, none⟩ (.string s6)).setCell ⟨w.heap.size, 2, none⟩ (.string r6)) R ao len cap p6 ∧ w.grownBy (((w6.setCell ⟨w.heap.size, 0, none⟩ (.int .i64 M)).setCell ⟨w.heap.size, 1, none⟩ (.string s6)).setCell ⟨w.heap.size, 2, none⟩ (.string r6)) (some R)) :=
          ⟨((hrd.setNew hRl).setNew hRl).setNew hRl, grown_new (grown_new (grown_new (grown_trans HP.out.2.1 hg) (Nat.le_refl _)) (Nat.le_refl _)) (Nat.le_refl _)⟩
        have HZ := Lib.hid (show _ ∧ _ ∧ _ ∧ _ ∧ _ from ⟨hs, hr, hsb, hrb, hp6⟩)
        clear hs hr hsb hrb hrd hp6 hg hb0
        go_wp2
        exact bodyPost_ret (v := .agg #[.int .i64 M, .string s6, .string r6]) (by simp [results, Tryd.results118, go_sem, HF.out.1, HF.out.2.1, HF.out.2.2]) rfl ⟨M, s6, r6, p6, rfl, hM1, hM2, HZ.out.1, HZ.out.2.1, HZ.out.2.2.1, HZ.out.2.2.2.1, RES.out.1, by have := HZ.out.2.2.2.2; have := HQ.out.2.2.2.2.2.2.1; omega, RES.out.2⟩
      · have tv : ((v : Int) == 0) = false := by simp; omega
        clear b0 b1 b2 f1
        obtain ⟨b0, b1, b2⟩ := hbx.c
        obtain ⟨z0, z1, z2⟩ := hb0.c
        have g0 := hb0.free 0
        have g1 := hb0.free 1
        have g2 := hb0.free 2
        have HF := Lib.hid (ret_struct (w := w5) N s r hb0)
        have RES : Hid (Rd (((w5.setCell ⟨w.heap.size, 0, none⟩ (.int .i64 N)).setCell ⟨w.heap.size, 1, none⟩ (.string s)).setCell ⟨w.heap.size, 2, none⟩ (.string r)) R ao len cap (p' + 1) ∧ w.grownBy (((w5.setCell ⟨w.heap.size, 0, none⟩ (.int .i64 N)).setCell ⟨w.heap.size, 1, none⟩ (.string s)).setCell ⟨w.heap.size, 2, none⟩ (.string r)) (some R)) :=
          ⟨((HP.out.1.setNew hRl).setNew hRl).setNew hRl, grown_new (grown_new (grown_new HP.out.2.1 (Nat.le_refl _)) (Nat.le_refl _)) (Nat.le_refl _)⟩
        clear hbx hb0
        go_wp2
        exact bodyPost_ret (v := .agg #[.int .i64 N, .string s, .string r]) (by simp [results, Tryd.results118, go_sem, HF.out.1, HF.out.2.1, HF.out.2.2]) rfl ⟨N, s, r, p' + 1, rfl, hN1, by omega, HQ.out.2.1, HQ.out.2.2.1, HQ.out.2.2.2.1, HQ.out.2.2.2.2.1, RES.out.1, by have := HQ.out.2.2.2.2.2.2.1; omega, RES.out.2⟩
end Go.Proofs.YtpcnoiigbmiejaaDoor.draw

/- A structure that is sometimes not valid: l1Bad, l9Open. -/
namespace Go.Proofs.YtpcnoiigbmiejaaDoor.draw
set_option linter.unusedVariables false
set_option linter.unusedSimpArgs false
open Go.ChangeShapes Go.WideShapes Go.ChangeAt Go.RowKit
open Go.Proofs.YtpcnoiigbmiejaaDoor.lib Go.Proofs.YtpcnoiigbmiejaaDoor.st Go.Proofs.YtpcnoiigbmiejaaDoor.flow Go.Proofs.YtpcnoiigbmiejaaDoor.chain

theorem small_wf (N : Nat) (h : N < 10) : (Lit.int .i64 (N : Int)).wf = true := by
  revert N; decide

/-- what the drawing of a structure leaves that is sometimes not valid -/
def DrawnB (w : World) (R : Nat) (ao : Option Addr) (len cap P : Nat) (e : Ending) (w' : World) : Prop :=
  ∃ (n : Int) (s r : ByteArray) (p : Nat), e = .returned (.agg #[.int .i64 n, .string s, .string r]) ∧ (Lit.int .i64 n).wf = true ∧ s.size ≤ 100 ∧ r.size ≤ 100 ∧ Rd w' R ao len cap p ∧ p ≤ P ∧ w.grownBy w' (some R)

set_option maxHeartbeats 3200000 in
set_option maxRecDepth 100000 in
theorem l1Bad_any (R : Nat) (ao : Option Addr) (len cap p N : Nat) (s r : ByteArray) (w : World) (h : Rd w R ao len cap p) (hp : p ≤ 90000000) (hN : N ≤ 8) (hs : s.size = N) (hr1 : 1 ≤ r.size) (hr2 : r.size ≤ 64) :
    Calls Tryd.prog 47 #[.pointer (some ⟨R, 0, none⟩), .agg #[.int .i64 N, .string s, .string r]] w (DrawnB w R ao len cap (p + 2)) := by
  have hRl := h.lt
  have H := Lib.hid h
  have hNw : (Lit.int .i64 (N : Int)).wf = true := small_wf N (by omega)
  have B0 : Hid (Box 24 (w.alloc (.cells #[.int .i64 N, .string s, .string r] 24)) w.heap.size N s r) := Box.new _ w _ rfl _ _ _
  have B1 : Hid (Box 24 ((w.alloc (.cells #[.int .i64 N, .string s, .string r] 24)).alloc (.cells #[.int .i64 0, .string ⟨#[]⟩, .string ⟨#[]⟩] 24)) (w.heap.size + 1) 0 ⟨#[]⟩ ⟨#[]⟩) := Box.new _ _ _ (by simp) _ _ _
  clear h
  go_enter Tryd.func47, Tryd.ntmps47
  go_wp2_with fail
  refine (pick_any R ao len cap p 40 _ ((H.out.alloc _).alloc _) (by omega) (by omega) (by omega)).mono ?_
  rintro e w1 ⟨v, hv, rfl, hr, hg⟩
  have HP := Lib.hid (show _ ∧ _ ∧ _ ∧ _ from ⟨hr, grown_trans (grown_alloc (World.grownBy_alloc w _ _) _) hg, Box.kept (row := some R) (B0.out.below ((Below.refl (w.heap.size + 1) _).alloc (by simp) _) (by omega)) hg (by simp; omega), Box.kept (row := some R) B1.out hg (by simp; omega)⟩)
  clear hr hg B0 B1
  obtain ⟨b0, b1, b2⟩ := Box.c HP.out.2.2.1
  have hv4 : v = 0 ∨ v = 1 ∨ v = 2 ∨ v = 3 ∨ 3 < v := by omega
  rcases hv4 with h0 | h1 | h2 | h3 | h4
  · subst h0
    clear b0 b1 b2
    obtain ⟨b0, b1, b2⟩ := Box.c HP.out.2.2.1
    have f0 := Box.free HP.out.2.2.1 0
    go_wp2_with fail
    refine (num_lit R ao len cap (p + 1) 5 w1.heap.size _ [0, -1, (N : Int) + 1, 9, 9223372036854775807] _ HP.out.1 (by omega) rfl rfl (by simp) (by simp) rfl).mono ?_
    rintro e w2 ⟨x, hx, rfl, hr, hg⟩
    have hxw : (Lit.int .i64 x).wf = true := by
      have : x = 0 ∨ x = -1 ∨ x = (N : Int) + 1 ∨ x = 9 ∨ x = 9223372036854775807 := by simpa using hx
      rcases this with rfl | rfl | rfl | rfl | rfl
      · decide
      · decide
      · exact small_wf (N + 1) (by omega)
      · decide
      · decide
    have hg' := grown_trans (World.grownBy_alloc w1 (.cells #[.int .i64 0, .int .i64 (-1), .int .i64 ((N : Int) + 1), .int .i64 9, .int .i64 9223372036854775807] 3) (some R)) hg
    have HP2 := Lib.hid (show _ ∧ _ ∧ _ ∧ _ from ⟨hr, grown_trans HP.out.2.1 hg', Box.kept (row := some R) HP.out.2.2.1 hg' (by simp; omega), Box.kept (row := some R) HP.out.2.2.2 hg' (by simp; omega)⟩)
    clear hr hg hg' hx b0 b1 b2 f0
    have f0 := Box.free HP2.out.2.2.1 0
    have HP3 : Hid (Rd (w2.setCell ⟨w.heap.size, 0, none⟩ (.int .i64 x)) R ao len cap (p + 2) ∧ w.grownBy (w2.setCell ⟨w.heap.size, 0, none⟩ (.int .i64 x)) (some R) ∧ Box 24 (w2.setCell ⟨w.heap.size, 0, none⟩ (.int .i64 x)) w.heap.size x s r ∧ Box 24 (w2.setCell ⟨w.heap.size, 0, none⟩ (.int .i64 x)) (w.heap.size + 1) 0 ⟨#[]⟩ ⟨#[]⟩) :=
      ⟨HP2.out.1.setNew (by omega), grown_new HP2.out.2.1 (by omega), Box.set0 HP2.out.2.2.1 _, Box.kept (row := some w.heap.size) HP2.out.2.2.2 (grown_setCell _ _ _ _) (by simp)⟩
    obtain ⟨b0, b1, b2⟩ := Box.c HP2.out.2.2.1
    obtain ⟨z0, z1, z2⟩ := Box.c HP2.out.2.2.2
    have g0 := Box.free HP2.out.2.2.2 0
    have g1 := Box.free HP2.out.2.2.2 1
    have g2 := Box.free HP2.out.2.2.2 2
    have HF := Lib.hid (ret_struct (w := (w2.setCell ⟨w.heap.size, 0, none⟩ (.int .i64 x))) x s r HP3.out.2.2.2)
    have RES : Hid (Rd ((((w2.setCell ⟨w.heap.size, 0, none⟩ (.int .i64 x)).setCell ⟨w.heap.size + 1, 0, none⟩ (.int .i64 x)).setCell ⟨w.heap.size + 1, 1, none⟩ (.string s)).setCell ⟨w.heap.size + 1, 2, none⟩ (.string r)) R ao len cap (p + 2) ∧ w.grownBy ((((w2.setCell ⟨w.heap.size, 0, none⟩ (.int .i64 x)).setCell ⟨w.heap.size + 1, 0, none⟩ (.int .i64 x)).setCell ⟨w.heap.size + 1, 1, none⟩ (.string s)).setCell ⟨w.heap.size + 1, 2, none⟩ (.string r)) (some R)) :=
      ⟨((HP3.out.1.setNew (by omega)).setNew (by omega)).setNew (by omega), grown_new (grown_new (grown_new HP3.out.2.1 (by omega)) (by omega)) (by omega)⟩
    go_wp2
    exact bodyPost_ret (v := .agg #[.int .i64 x, .string s, .string r]) (by simp [results, Tryd.results47, go_sem, HF.out.1, HF.out.2.1, HF.out.2.2]) rfl ⟨x, s, r, (p + 2), rfl, hxw, by omega, by omega, RES.out.1, by omega, RES.out.2⟩
  · subst h1
    have hadd : ∀ W, (Op.stringOp .add s ⟨#[48]⟩).run Tryd.prog W = .ok (.string (s ++ ⟨#[48]⟩)) W := fun W => run_string_add_sum W _ _ (by show s.size + 1 ≤ _; omega)
    have f1 := Box.free HP.out.2.2.1 1
    have HP3 : Hid (Rd (w1.setCell ⟨w.heap.size, 1, none⟩ (.string (s ++ ⟨#[48]⟩))) R ao len cap (p + 1) ∧ w.grownBy (w1.setCell ⟨w.heap.size, 1, none⟩ (.string (s ++ ⟨#[48]⟩))) (some R) ∧ Box 24 (w1.setCell ⟨w.heap.size, 1, none⟩ (.string (s ++ ⟨#[48]⟩))) w.heap.size N (s ++ ⟨#[48]⟩) r ∧ Box 24 (w1.setCell ⟨w.heap.size, 1, none⟩ (.string (s ++ ⟨#[48]⟩))) (w.heap.size + 1) 0 ⟨#[]⟩ ⟨#[]⟩) :=
      ⟨HP.out.1.setNew (by omega), grown_new HP.out.2.1 (by omega), Box.set1 HP.out.2.2.1 _, Box.kept (row := some w.heap.size) HP.out.2.2.2 (grown_setCell _ _ _ _) (by simp)⟩
    have hsz : (s ++ (⟨#[48]⟩ : ByteArray)).size ≤ 100 := by rw [ByteArray.size_append]; show s.size + 1 ≤ 100; omega
    clear b0 b1 b2
    obtain ⟨b0, b1, b2⟩ := Box.c HP.out.2.2.1
    obtain ⟨z0, z1, z2⟩ := Box.c HP.out.2.2.2
    have g0 := Box.free HP.out.2.2.2 0
    have g1 := Box.free HP.out.2.2.2 1
    have g2 := Box.free HP.out.2.2.2 2
    have HF := Lib.hid (ret_struct (w := (w1.setCell ⟨w.heap.size, 1, none⟩ (.string (s ++ ⟨#[48]⟩)))) N (s ++ ⟨#[48]⟩) r HP3.out.2.2.2)
    have RES : Hid (Rd ((((w1.setCell ⟨w.heap.size, 1, none⟩ (.string (s ++ ⟨#[48]⟩))).setCell ⟨w.heap.size + 1, 0, none⟩ (.int .i64 N)).setCell ⟨w.heap.size + 1, 1, none⟩ (.string (s ++ ⟨#[48]⟩))).setCell ⟨w.heap.size + 1, 2, none⟩ (.string r)) R ao len cap (p + 1) ∧ w.grownBy ((((w1.setCell ⟨w.heap.size, 1, none⟩ (.string (s ++ ⟨#[48]⟩))).setCell ⟨w.heap.size + 1, 0, none⟩ (.int .i64 N)).setCell ⟨w.heap.size + 1, 1, none⟩ (.string (s ++ ⟨#[48]⟩))).setCell ⟨w.heap.size + 1, 2, none⟩ (.string r)) (some R)) :=
      ⟨((HP3.out.1.setNew (by omega)).setNew (by omega)).setNew (by omega), grown_new (grown_new (grown_new HP3.out.2.1 (by omega)) (by omega)) (by omega)⟩
    go_wp2
    exact bodyPost_ret (v := .agg #[.int .i64 N, .string (s ++ ⟨#[48]⟩), .string r]) (by simp [results, Tryd.results47, go_sem, HF.out.1, HF.out.2.1, HF.out.2.2]) rfl ⟨N, (s ++ ⟨#[48]⟩), r, (p + 1), rfl, hNw, hsz, by omega, RES.out.1, by omega, RES.out.2⟩
  · subst h2
    have f2 := Box.free HP.out.2.2.1 2
    have cb : ∀ X : Wd (fun X => X.cell? ⟨w.heap.size, 2, none⟩ = some (.string r)), X.w.cell? ⟨w.heap.size, 2, none⟩ = some (.string r) := fun X => X.ok
    have hne : Nonempty (Wd (fun X => X.cell? ⟨w.heap.size, 2, none⟩ = some (.string r))) := ⟨⟨w1, b2⟩⟩
    go_wp2_with fail
    refine chain_last (S := (fun X => X.cell? ⟨w.heap.size, 2, none⟩ = some (.string r))) [([true, true, true, true, true, true, true, true], 8), ([], 9)] [false, false, false, false, false, false, false, false, false, false, true, true] (by kernel_rfl) (by kernel_rfl) (by kernel_rfl) (by kernel_rfl) (by kernel_rfl) (by kernel_rfl) (by simpa using b2) ?_
    simp only [wpSegs, pickB, List.dropLast_cons_cons, List.dropLast_singleton, List.getLast?_cons_cons, List.getLast?_singleton, List.toList_toArray, List.getElem?_toArray, List.getElem?_cons_succ, List.getElem?_cons_zero, Option.toList_some]
    repeat (go_big_quiet_step (fail))
    refine wpQuiet_nil ?_
    intro K hK
    go_wp2_with fail
    skip
    refine hK _ _ (((HP.out.2.2.1.below ((Below.refl (w.heap.size + 2) _).alloc (by have := HP.out.2.2.2.lt; omega) _) (by omega))).c).2.2 ?_
    clear hK K
    repeat (go_big_quiet_step (fail))
    refine wpQuiet_nil ?_
    intro K hK
    go_wp2_with fail
    have ofl : ∀ i, i < 3 → ∃ x : ByteArray, x.size ≤ 2 ∧ (#[.string ⟨#[]⟩, .string ⟨#[50]⟩, .string ⟨#[48, 49]⟩] : Array Value)[i]? = some (.string x) := by
      intro i hi
      have : i = 0 ∨ i = 1 ∨ i = 2 := by omega
      rcases this with rfl | rfl | rfl
      · exact ⟨⟨#[]⟩, by decide, rfl⟩
      · exact ⟨⟨#[50]⟩, by decide, rfl⟩
      · exact ⟨⟨#[48, 49]⟩, by decide, rfl⟩
    refine (of_lit R ao len cap (p + 1) 3 w1.heap.size #[.string ⟨#[]⟩, .string ⟨#[50]⟩, .string ⟨#[48, 49]⟩] w1.drew HP.out.1.drew (by omega) (by omega) (by omega) ofl rfl 9).mono ?_
    rintro e w2 ⟨x, hx, rfl, hr, hg⟩
    have hg' := grown_trans (World.grownBy_alloc w1.drew (.cells #[.string ⟨#[]⟩, .string ⟨#[50]⟩, .string ⟨#[48, 49]⟩] 9) (some R)) hg
    have HP2 := Lib.hid (show _ ∧ _ ∧ _ ∧ _ from ⟨hr, grown_trans (grown_drew HP.out.2.1) hg', Box.kept (row := some R) (Box.drew HP.out.2.2.1) hg' (by simp; omega), Box.kept (row := some R) (Box.drew HP.out.2.2.2) hg' (by simp; omega)⟩)
    clear hr hg hg' ofl f2
    have f2 := Box.free HP2.out.2.2.1 2
    have bx := (Box.c HP2.out.2.2.1).2.2
    have hes : (r.extract 0 (r.size - 1)).size ≤ 64 := by rw [ByteArray.size_extract]; omega
    have hadd : ∀ W, (Op.stringOp .add (r.extract 0 (r.size - 1)) x).run Tryd.prog W = .ok (.string (r.extract 0 (r.size - 1) ++ x)) W := fun W => run_string_add_sum W _ _ (by omega)
    have hsz : (r.extract 0 (r.size - 1) ++ x).size ≤ 100 := by rw [ByteArray.size_append]; omega
    go_wp2_with fail
    refine hK _ _ bx ?_
    clear hK K
    repeat (go_big_quiet_step (fail))
    refine wpQuiet_nil ?_
    show wpList _ _ _ _ _ _
    have HP3 : Hid (Rd (w2.setCell ⟨w.heap.size, 2, none⟩ (.string (r.extract 0 (r.size - 1) ++ x))) R ao len cap (p + 2) ∧ w.grownBy (w2.setCell ⟨w.heap.size, 2, none⟩ (.string (r.extract 0 (r.size - 1) ++ x))) (some R) ∧ Box 24 (w2.setCell ⟨w.heap.size, 2, none⟩ (.string (r.extract 0 (r.size - 1) ++ x))) w.heap.size N s (r.extract 0 (r.size - 1) ++ x) ∧ Box 24 (w2.setCell ⟨w.heap.size, 2, none⟩ (.string (r.extract 0 (r.size - 1) ++ x))) (w.heap.size + 1) 0 ⟨#[]⟩ ⟨#[]⟩) :=
      ⟨HP2.out.1.setNew (by omega), grown_new HP2.out.2.1 (by omega), Box.set2 HP2.out.2.2.1 _, Box.kept (row := some w.heap.size) HP2.out.2.2.2 (grown_setCell _ _ _ _) (by simp)⟩
    clear cb hne bx b0 b1 b2
    obtain ⟨b0, b1, b2⟩ := Box.c HP2.out.2.2.1
    obtain ⟨z0, z1, z2⟩ := Box.c HP2.out.2.2.2
    have g0 := Box.free HP2.out.2.2.2 0
    have g1 := Box.free HP2.out.2.2.2 1
    have g2 := Box.free HP2.out.2.2.2 2
    have HF := Lib.hid (ret_struct (w := (w2.setCell ⟨w.heap.size, 2, none⟩ (.string (r.extract 0 (r.size - 1) ++ x)))) N s (r.extract 0 (r.size - 1) ++ x) HP3.out.2.2.2)
    have RES : Hid (Rd ((((w2.setCell ⟨w.heap.size, 2, none⟩ (.string (r.extract 0 (r.size - 1) ++ x))).setCell ⟨w.heap.size + 1, 0, none⟩ (.int .i64 N)).setCell ⟨w.heap.size + 1, 1, none⟩ (.string s)).setCell ⟨w.heap.size + 1, 2, none⟩ (.string (r.extract 0 (r.size - 1) ++ x))) R ao len cap (p + 2) ∧ w.grownBy ((((w2.setCell ⟨w.heap.size, 2, none⟩ (.string (r.extract 0 (r.size - 1) ++ x))).setCell ⟨w.heap.size + 1, 0, none⟩ (.int .i64 N)).setCell ⟨w.heap.size + 1, 1, none⟩ (.string s)).setCell ⟨w.heap.size + 1, 2, none⟩ (.string (r.extract 0 (r.size - 1) ++ x))) (some R)) :=
      ⟨((HP3.out.1.setNew (by omega)).setNew (by omega)).setNew (by omega), grown_new (grown_new (grown_new HP3.out.2.1 (by omega)) (by omega)) (by omega)⟩
    go_wp2
    exact bodyPost_ret (v := .agg #[.int .i64 N, .string s, .string (r.extract 0 (r.size - 1) ++ x)]) (by simp [results, Tryd.results47, go_sem, HF.out.1, HF.out.2.1, HF.out.2.2]) rfl ⟨N, s, (r.extract 0 (r.size - 1) ++ x), (p + 2), rfl, hNw, by omega, hsz, RES.out.1, by omega, RES.out.2⟩
  · subst h3
    go_wp2_with fail
    refine (many_any ⟨#[48]⟩ 9 _ rfl (by omega)).mono ?_
    rintro e W1 ⟨x9, hx9, rfl, rfl⟩
    go_wp2_with fail
    refine (many_any ⟨#[49]⟩ 81 _ rfl (by omega)).mono ?_
    rintro e W2 ⟨x81, hx81, rfl, rfl⟩
    clear b0 b1 b2
    obtain ⟨b0, b1, b2⟩ := Box.c HP.out.2.2.1
    obtain ⟨z0, z1, z2⟩ := Box.c HP.out.2.2.2
    have g0 := Box.free HP.out.2.2.2 0
    have g1 := Box.free HP.out.2.2.2 1
    have g2 := Box.free HP.out.2.2.2 2
    have HF := Lib.hid (ret_struct (w := w1) 9 x9 x81 HP.out.2.2.2)
    have RES : Hid (Rd (((w1.setCell ⟨w.heap.size + 1, 0, none⟩ (.int .i64 9)).setCell ⟨w.heap.size + 1, 1, none⟩ (.string x9)).setCell ⟨w.heap.size + 1, 2, none⟩ (.string x81)) R ao len cap (p + 1) ∧ w.grownBy (((w1.setCell ⟨w.heap.size + 1, 0, none⟩ (.int .i64 9)).setCell ⟨w.heap.size + 1, 1, none⟩ (.string x9)).setCell ⟨w.heap.size + 1, 2, none⟩ (.string x81)) (some R)) :=
      ⟨((HP.out.1.setNew (by omega)).setNew (by omega)).setNew (by omega), grown_new (grown_new (grown_new HP.out.2.1 (by omega)) (by omega)) (by omega)⟩
    go_wp2
    exact bodyPost_ret (v := .agg #[.int .i64 9, .string x9, .string x81]) (by simp [results, Tryd.results47, go_sem, HF.out.1, HF.out.2.1, HF.out.2.2]) rfl ⟨9, x9, x81, (p + 1), rfl, by decide, by omega, by omega, RES.out.1, by omega, RES.out.2⟩
  · have t0 : ((v : Int) == 0) = false := by simp; omega
    have t1 : ((v : Int) == 1) = false := by simp; omega
    have t2 : ((v : Int) == 2) = false := by simp; omega
    have t3 : ((v : Int) == 3) = false := by simp; omega
    clear b0 b1 b2
    obtain ⟨b0, b1, b2⟩ := Box.c HP.out.2.2.1
    obtain ⟨z0, z1, z2⟩ := Box.c HP.out.2.2.2
    have g0 := Box.free HP.out.2.2.2 0
    have g1 := Box.free HP.out.2.2.2 1
    have g2 := Box.free HP.out.2.2.2 2
    have HF := Lib.hid (ret_struct (w := w1) N s r HP.out.2.2.2)
    have RES : Hid (Rd (((w1.setCell ⟨w.heap.size + 1, 0, none⟩ (.int .i64 N)).setCell ⟨w.heap.size + 1, 1, none⟩ (.string s)).setCell ⟨w.heap.size + 1, 2, none⟩ (.string r)) R ao len cap (p + 1) ∧ w.grownBy (((w1.setCell ⟨w.heap.size + 1, 0, none⟩ (.int .i64 N)).setCell ⟨w.heap.size + 1, 1, none⟩ (.string s)).setCell ⟨w.heap.size + 1, 2, none⟩ (.string r)) (some R)) :=
      ⟨((HP.out.1.setNew (by omega)).setNew (by omega)).setNew (by omega), grown_new (grown_new (grown_new HP.out.2.1 (by omega)) (by omega)) (by omega)⟩
    go_wp2
    exact bodyPost_ret (v := .agg #[.int .i64 N, .string s, .string r]) (by simp [results, Tryd.results47, go_sem, HF.out.1, HF.out.2.1, HF.out.2.2]) rfl ⟨N, s, r, (p + 1), rfl, hNw, by omega, by omega, RES.out.1, by omega, RES.out.2⟩
end Go.Proofs.YtpcnoiigbmiejaaDoor.draw

/- The drawing of the arguments of NearOf, DistanceOf, BallOf, PiecesOf. -/
namespace Go.Proofs.YtpcnoiigbmiejaaDoor.draw
set_option linter.unusedVariables false
set_option linter.unusedSimpArgs false
open Go.ChangeShapes Go.WideShapes Go.ChangeAt Go.RowKit
open Go.Proofs.YtpcnoiigbmiejaaDoor.lib Go.Proofs.YtpcnoiigbmiejaaDoor.st Go.Proofs.YtpcnoiigbmiejaaDoor.flow Go.Proofs.YtpcnoiigbmiejaaDoor.chain

theorem Byt.up {w w' : World} {R R' : Nat} {ao : Option Addr} {len : Nat} (h : Byt w R ao len) (hR : R ≤ R') (hb : ∀ k, k < R → w'.heap[k]? = w.heap[k]?) : Byt w' R' ao len := by
  rcases h.keep hb with h | ⟨b, off, rfl, hlt, hc⟩
  · exact .inl h
  · exact .inr ⟨b, off, rfl, by omega, hc⟩

set_option maxHeartbeats 800000 in
theorem l9Open_any (R : Nat) (ao : Option Addr) (len cap p : Nat) (w : World) (h : Rd w R ao len cap p) (hp : p ≤ 80000000) :
    Calls Tryd.prog 86 #[.pointer (some ⟨R, 0, none⟩)] w (DrawnB w R ao len cap (p + 302)) := by
  have hRl := h.lt
  have H := Lib.hid h
  have B0 : Hid (Box 24 (w.alloc (.cells #[.int .i64 0, .string ⟨#[]⟩, .string ⟨#[]⟩] 24)) w.heap.size 0 ⟨#[]⟩ ⟨#[]⟩) := Box.new _ w _ rfl _ _ _
  clear h
  go_enter Tryd.func86, Tryd.ntmps86
  go_wp2_with fail
  refine (l9Draw_any R ao len cap p _ (H.out.alloc _) hp).mono ?_
  rintro e w1 ⟨N, s, r, p1, rfl, hN1, hN2, hs, hr, -, -, hrd, hp1, hg⟩
  have hNN : 1 ≤ r.size ∧ r.size ≤ 64 := by
    rw [hr]; exact ⟨Nat.mul_le_mul hN1 hN1, Nat.mul_le_mul hN2 hN2⟩
  have HP := Lib.hid (show _ ∧ _ ∧ _ from ⟨hrd, grown_trans (World.grownBy_alloc w _ _) hg, Box.kept (row := some R) B0.out hg (by simp; omega)⟩)
  clear hrd hg hr
  go_wp2_with fail
  refine (l1Bad_any R ao len cap p1 N s r _ HP.out.1 (by omega) hN2 hs hNN.1 hNN.2).mono ?_
  rintro e w2 ⟨n, s2, r2, p2, rfl, hnw, hs2, hr2, hrd, hp2, hg⟩
  have hb0 := Box.kept (row := some R) HP.out.2.2 hg (by simp; omega)
  have HF := Lib.hid (ret_struct (w := w2) n s2 r2 hb0)
  obtain ⟨z0, z1, z2⟩ := hb0.c
  have g0 := hb0.free 0
  have g1 := hb0.free 1
  have g2 := hb0.free 2
  have RES : Hid (Rd (((w2.setCell ⟨w.heap.size, 0, none⟩ (.int .i64 n)).setCell ⟨w.heap.size, 1, none⟩ (.string s2)).setCell ⟨w.heap.size, 2, none⟩ (.string r2)) R ao len cap p2 ∧ w.grownBy (((w2.setCell ⟨w.heap.size, 0, none⟩ (.int .i64 n)).setCell ⟨w.heap.size, 1, none⟩ (.string s2)).setCell ⟨w.heap.size, 2, none⟩ (.string r2)) (some R)) :=
    ⟨((hrd.setNew hRl).setNew hRl).setNew hRl, grown_new (grown_new (grown_new (grown_trans HP.out.2.1 hg) (Nat.le_refl _)) (Nat.le_refl _)) (Nat.le_refl _)⟩
  clear hrd hg hb0
  go_wp2
  exact bodyPost_ret (v := .agg #[.int .i64 n, .string s2, .string r2]) (by simp [results, Tryd.results86, go_sem, HF.out.1, HF.out.2.1, HF.out.2.2]) rfl ⟨n, s2, r2, p2, rfl, hnw, hs2, hr2, RES.out.1, by omega, RES.out.2⟩

/-- what DrawPiecesOf leaves -/
def Drawn0 (w : World) (e : Ending) (w' : World) : Prop :=
  ∃ (n : Int) (s r : ByteArray), e = .returned (.agg #[.int .i64 n, .string s, .string r]) ∧ (Lit.int .i64 n).wf = true ∧ s.size ≤ 100 ∧ r.size ≤ 100 ∧ Below w.heap.size w w'
/-- what DrawNearOf leaves -/
def Drawn1 (w : World) (e : Ending) (w' : World) : Prop :=
  ∃ (n : Int) (s r : ByteArray) (x : Int), e = .returned (.tuple #[.agg #[.int .i64 n, .string s, .string r], .int .i64 x]) ∧ (Lit.int .i64 n).wf = true ∧ s.size ≤ 100 ∧ r.size ≤ 100 ∧ (Lit.int .i64 x).wf = true ∧ Below w.heap.size w w'
/-- what DrawDistanceOf and DrawBallOf leave -/
def Drawn2 (w : World) (e : Ending) (w' : World) : Prop :=
  ∃ (n : Int) (s r : ByteArray) (x y : Int), e = .returned (.tuple #[.agg #[.int .i64 n, .string s, .string r], .int .i64 x, .int .i64 y]) ∧ (Lit.int .i64 n).wf = true ∧ s.size ≤ 100 ∧ r.size ≤ 100 ∧ (Lit.int .i64 x).wf = true ∧ (Lit.int .i64 y).wf = true ∧ Below w.heap.size w w'

set_option maxHeartbeats 1600000 in
theorem drawPieces_any (ao : Option Addr) (len cap : Nat) (w : World) (h : Byt w w.heap.size ao len) (hc : len ≤ cap) (hm : cap ≤ 9223372036854775807) :
    Calls Tryd.prog 38 #[.slice ao len cap] w (Drawn0 w) := by
  have B0 : Hid (Box 24 (w.alloc (.cells #[.int .i64 0, .string ⟨#[]⟩, .string ⟨#[]⟩] 24)) w.heap.size 0 ⟨#[]⟩ ⟨#[]⟩) := Box.new _ w _ rfl _ _ _
  have HBY := Lib.hid (Byt.up h (w' := w.alloc (.cells #[.int .i64 0, .string ⟨#[]⟩, .string ⟨#[]⟩] 24)) (R' := (w.alloc (.cells #[.int .i64 0, .string ⟨#[]⟩, .string ⟨#[]⟩] 24)).heap.size) (by simp) (fun k hk => heap_alloc_old w _ hk))
  clear h
  go_enter Tryd.func38, Tryd.ntmps38
  go_wp2_with fail
  refine (open_any ao len cap _ HBY.out hc hm).mono ?_
  rintro e w1 ⟨R, ao1, len1, cap1, rfl, hrd, hR, hb⟩
  simp only [World.size_alloc] at hR
  have HP1 := Lib.hid (show _ ∧ _ from ⟨hrd, ((Below.refl w.heap.size w).alloc (Nat.le_refl _) _).trans (hb.mono (by simp))⟩)
  have BX1 := Lib.hid (B0.out.below hb (by simp))
  clear hrd hb
  go_wp2_with fail
  refine (l9Open_any R ao1 len1 cap1 0 _ HP1.out.1 (by omega)).mono ?_
  rintro e w2 ⟨n, s, r, p2, rfl, hnw, hs, hr, hrd, hp2, hg⟩
  have hRA : R < w2.heap.size := hrd.lt
  have hwA : w.heap.size < R := by omega
  have HP2 := Lib.hid (show _ ∧ _ ∧ _ from ⟨hrd, HP1.out.2.grown hg HP1.out.2.size (fun k hk => by cases hk; omega), Box.kept (row := some R) BX1.out hg (by simp; omega)⟩)
  have hpp : p2 ≤ 302 := by omega
  clear hrd hg hp2
  have HF := Lib.hid (ret_struct (w := w2) n s r HP2.out.2.2)
  obtain ⟨z0, z1, z2⟩ := Box.c HP2.out.2.2
  have g0 := Box.free HP2.out.2.2 0
  have g1 := Box.free HP2.out.2.2 1
  have g2 := Box.free HP2.out.2.2 2
  have RES : Hid (Below w.heap.size w (((w2.setCell ⟨w.heap.size, 0, none⟩ (.int .i64 n)).setCell ⟨w.heap.size, 1, none⟩ (.string s)).setCell ⟨w.heap.size, 2, none⟩ (.string r))) := Below.setCell (Below.setCell (Below.setCell HP2.out.2.1 (by simp) _) (by simp) _) (by simp) _
  go_wp2
  exact bodyPost_ret (v := .agg #[.int .i64 n, .string s, .string r]) (by simp [results, Tryd.results38, go_sem, HF.out.1, HF.out.2.1, HF.out.2.2]) rfl ⟨n, s, r, rfl, hnw, hs, hr, RES.out⟩

theorem dist_wf (x : Int) (h : -1 ≤ x ∧ x ≤ 101) : (Lit.int .i64 x).wf = true := by
  obtain ⟨m, hm⟩ : ∃ m : Nat, x = (m : Int) - 1 := ⟨(x + 1).toNat, by omega⟩
  subst hm
  have key : ∀ m : Nat, m < 103 → (Lit.int .i64 ((m : Int) - 1)).wf = true := by decide
  exact key m (by omega)

end Go.Proofs.YtpcnoiigbmiejaaDoor.draw
