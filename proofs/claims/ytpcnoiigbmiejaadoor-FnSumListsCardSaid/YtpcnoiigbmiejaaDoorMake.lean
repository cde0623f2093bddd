/- makeStructure: a structure out of two tests. -/
import Derived.Test.YtpcnoiigbmiejaaDoorRows
import Derived.Test.YtpcnoiigbmiejaaDoorBase
import Derived.Laws.Concat
import Derived.WalkSpells
import Derived.Deep.RegionWith
import Derived.Deep.DeepCutAuto
namespace Go.Proofs.YtpcnoiigbmiejaaDoor.make
set_option linter.unusedVariables false
set_option linter.unusedSimpArgs false
open Go.ChangeShapes Go.WideShapes Go.ChangeAt Go.RowKit
open Go.Proofs.YtpcnoiigbmiejaaDoor.lib Go.Proofs.YtpcnoiigbmiejaaDoor.st Go.Proofs.YtpcnoiigbmiejaaDoor.base

def bit1 (b : Bool) : ByteArray := ⟨#[if b then 49 else 48]⟩
/-- the bits of a test -/
def bS (p : Nat → Bool) : Nat → ByteArray
  | 0 => ⟨#[]⟩
  | k + 1 => bS p k ++ bit1 (p k)
/-- a text with a row of bits behind it -/
def bRow (acc : ByteArray) (q : Nat → Bool) : Nat → ByteArray
  | 0 => acc
  | k + 1 => bRow acc q k ++ bit1 (q k)
/-- the rows of a test of pairs -/
def bR (q : Nat → Nat → Bool) (n : Nat) : Nat → ByteArray
  | 0 => ⟨#[]⟩
  | k + 1 => bRow (bR q n k) (q k) n
theorem bit1_size (b : Bool) : (bit1 b).size = 1 := rfl
theorem bS_size (p : Nat → Bool) : ∀ k, (bS p k).size = k
  | 0 => rfl
  | k + 1 => by rw [bS, ByteArray.size_append, bS_size p k, bit1_size]
theorem bRow_size (acc : ByteArray) (q : Nat → Bool) : ∀ k, (bRow acc q k).size = acc.size + k
  | 0 => rfl
  | k + 1 => by rw [bRow, ByteArray.size_append, bRow_size acc q k, bit1_size]; omega
theorem bR_size (q : Nat → Nat → Bool) (n : Nat) : ∀ k, (bR q n k).size = k * n
  | 0 => by rw [bR, Nat.zero_mul]; rfl
  | k + 1 => by rw [bR, bRow_size, bR_size q n k, Nat.succ_mul]

theorem bitOf_at (b : Bool) (w : World) : Calls Tryd.prog 105 #[.bool b] w fun e w' => e = .returned (.string (bit1 b)) ∧ w = w' := bitOf_any b w

/-- a function value that is called enters its function -/
def Enters (f : FuncId) : Prop := ∀ (args : Array Value) (W : World), (callFunc f args).run Tryd.prog W = .ok (.enter f args) W
theorem enters_of {f : FuncId} {fn : Func} (hf : Tryd.prog.funcs[f]? = some fn) (hname : (fn.name == "runtime.NumGoroutine") = false) (hb : fn.body.isNone = false) : Enters f := by
  intro args W
  have h1 : fn.name ≠ "runtime.NumGoroutine" := by simpa using hname
  have h2 : ¬ fn.body = none := by intro h; rw [h] at hb; cases hb
  simp [callFunc, hf, h1, h2]

set_option maxHeartbeats 3200000 in
set_option maxRecDepth 100000 in
theorem make_any (n : Nat) (hn : n ≤ 8) (fS fR : FuncId) (cS cR : Array Value) (p : Nat → Bool) (q : Nat → Nat → Bool) (w : World) (eS : Enters fS) (eR : Enters fR)
    (hS : ∀ W, Below w.heap.size w W → ∀ x : Nat, x < n → Calls Tryd.prog fS (#[.int .i64 x] ++ cS) W fun e W' => e = .returned (.bool (p x)) ∧ Below W.heap.size W W')
    (hR : ∀ W, Below w.heap.size w W → ∀ x y : Nat, x < n → y < n → Calls Tryd.prog fR (#[.int .i64 x, .int .i64 y] ++ cR) W fun e W' => e = .returned (.bool (q x y)) ∧ Below W.heap.size W W') :
    Calls Tryd.prog 53 #[.int .i64 n, .func (.func fS) #[] cS, .func (.func fR) #[] cR] w fun e w' => e = .returned (.agg #[.int .i64 n, .string (bS p n), .string (bR q n n)]) ∧ Below w.heap.size w w' := by
  unfold Enters at eS eR
  have HS := Lib.hid hS
  have HR := Lib.hid hR
  clear hS hR
  obtain ⟨HB, hHB⟩ : ∃ HB, HB = w.heap.size + 1 := ⟨_, rfl⟩
  have HBS : Hid ((w.alloc (.cells #[.int .i64 0, .string ⟨#[]⟩, .string ⟨#[]⟩] 24)).heap.size = HB) := by rw [hHB]; simp [Hid]
  have AW : Hid (Below w.heap.size w (w.alloc (.cells #[.int .i64 0, .string ⟨#[]⟩, .string ⟨#[]⟩] 24))) := (Below.refl _ _).alloc (Nat.le_refl _) _
  have B0 : Hid (Box 24 ((w.alloc (.cells #[.int .i64 0, .string ⟨#[]⟩, .string ⟨#[]⟩] 24)).alloc (.cells #[.int .i64 n, .string ⟨#[]⟩, .string ⟨#[]⟩] 24)) (w.heap.size + 1) n (bS p 0) (bR q n 0)) := Box.new _ _ _ (by simp) _ _ _
  have hb0 : Hid (Below HB (w.alloc (.cells #[.int .i64 0, .string ⟨#[]⟩, .string ⟨#[]⟩] 24)) ((w.alloc (.cells #[.int .i64 0, .string ⟨#[]⟩, .string ⟨#[]⟩] 24)).alloc (.cells #[.int .i64 n, .string ⟨#[]⟩, .string ⟨#[]⟩] 24))) := (Below.refl _ _).alloc (by simp; omega) _
  have BZ : Hid (Box 24 (w.alloc (.cells #[.int .i64 0, .string ⟨#[]⟩, .string ⟨#[]⟩] 24)) w.heap.size 0 ⟨#[]⟩ ⟨#[]⟩) := Box.new _ w _ rfl _ _ _
  have HHB := Lib.hid hHB
  clear hHB
  go_enter Tryd.func53, Tryd.ntmps53
  go_wp2
  go_loopw [13] (fun i wr => ∃ k : Nat, k ≤ n ∧ i = .int .i64 k ∧ Box 24 wr (w.heap.size + 1) n (bS p k) (bR q n k) ∧ Below HB (w.alloc (.cells #[.int .i64 0, .string ⟨#[]⟩, .string ⟨#[]⟩] 24)) wr) (fun i _ => n - (intOf i).toNat)
  case atStart => exact ⟨0, Nat.zero_le _, rfl, B0.out, hb0.out⟩
  case round =>
    obtain ⟨k, hk, rfl, hbox, hnx⟩ := hrel
    have HO := Lib.hid hbox
    have HX := Lib.hid hnx
    clear hbox hnx
    by_cases hlt : k < n
    · go_wp2_with fail
      go_cut [13] from 13 to 38 (fun i wx => i = .int .i64 k ∧ Box 24 wx (w.heap.size + 1) n (bS p (k + 1)) (bR q n k) ∧ Below HB (w.alloc (.cells #[.int .i64 0, .string ⟨#[]⟩, .string ⟨#[]⟩] 24)) wx)
      case first =>
        obtain ⟨c0, c1, c2⟩ := HO.out.c
        have AWD : Hid (Below w.heap.size w wr.drew) := (AW.out.trans (HX.out.mono (by have := HHB.out; omega))).drew
        have hadd : ∀ W, (Op.stringOp .add (bS p k) (bit1 (p k))).run Tryd.prog W = .ok (.string (bS p (k + 1))) W := fun W => run_string_add_sum W _ _ (by rw [bS_size, bit1_size]; omega)
        have HOlt := Lib.hid HO.out.lt
        go_region_with (first
          | (go_at_call 105; refine (bitOf_at _ _).mono ?_; rintro e X2 ⟨rfl, rfl⟩)
          | (with_reducible show Calls _ fS _ _ _; refine (HS.out wr.drew AWD.out k hlt).mono ?_; rintro e X ⟨rfl, hb⟩; have BX2 := Box.below (w := wr.drew) HO.out hb HOlt.out; obtain ⟨d0, d1, d2⟩ := BX2.c; have f1 := BX2.free 1))
        all_goals go_wp2_with fail
        all_goals go_meet
        all_goals exact ⟨rfl, BX2.set1 _, (HX.out.drew.trans (hb.mono (by have h1 := HX.out.size; have h2 := HBS.out; show HB ≤ wr.heap.size; omega))).setCell (by have := HHB.out; show HB ≤ w.heap.size + 1; omega) _⟩
      case rest =>
        obtain ⟨rfl, hbx, hnx⟩ := hcut
        have HO2 := Lib.hid hbx
        have HX2 := Lib.hid hnx
        clear hbx hnx HO HX
        go_wp2
        go_loopw [25] (fun i wr => ∃ j : Nat, j ≤ n ∧ i = .int .i64 j ∧ Box 24 wr (w.heap.size + 1) n (bS p (k + 1)) (bRow (bR q n k) (q k) j) ∧ Below HB (w.alloc (.cells #[.int .i64 0, .string ⟨#[]⟩, .string ⟨#[]⟩] 24)) wr) (fun i _ => n - (intOf i).toNat)
        case atStart => exact ⟨0, Nat.zero_le _, rfl, HO2.out, HX2.out⟩
        case round =>
          obtain ⟨j, hj, rfl, hbox, hnx⟩ := hrel
          have HO := Lib.hid hbox
          have HX := Lib.hid hnx
          clear hbox hnx
          by_cases hlj : j < n
          · go_wp2_with fail
            obtain ⟨c0, c1, c2⟩ := HO.out.c
            have AWD : Hid (Below w.heap.size w wr.drew) := (AW.out.trans (HX.out.mono (by have := HHB.out; omega))).drew
            have hadd : ∀ W, (Op.stringOp .add (bRow (bR q n k) (q k) j) (bit1 (q k j))).run Tryd.prog W = .ok (.string (bRow (bR q n k) (q k) (j + 1))) W := fun W => run_string_add_sum W _ _ (by
              rw [bRow_size, bR_size, bit1_size]
              have : k * n ≤ 8 * 8 := Nat.mul_le_mul (by omega) hn
              omega)
            have HOlt := Lib.hid HO.out.lt
            go_region_with (first
              | (go_at_call 105; refine (bitOf_at _ _).mono ?_; rintro e X2 ⟨rfl, rfl⟩)
              | (with_reducible show Calls _ fR _ _ _; refine (HR.out wr.drew AWD.out k j hlt hlj).mono ?_; rintro e X ⟨rfl, hb⟩; have BX2 := Box.below (w := wr.drew) HO.out hb HOlt.out; obtain ⟨d0, d1, d2⟩ := BX2.c; have f1 := BX2.free 2))
            all_goals
              have R : Hid (Box 24 (X.setCell ⟨w.heap.size + 1, 2, none⟩ (.string (bRow (bR q n k) (q k) (j + 1)))) (w.heap.size + 1) n (bS p (k + 1)) (bRow (bR q n k) (q k) (j + 1)) ∧ Below HB (w.alloc (.cells #[.int .i64 0, .string ⟨#[]⟩, .string ⟨#[]⟩] 24)) (X.setCell ⟨w.heap.size + 1, 2, none⟩ (.string (bRow (bR q n k) (q k) (j + 1))))) :=
                ⟨BX2.set2 _, (HX.out.drew.trans (hb.mono (by have h1 := HX.out.size; have h2 := HBS.out; show HB ≤ wr.heap.size; omega))).setCell (by have := HHB.out; show HB ≤ w.heap.size + 1; omega) _⟩
              clear BX2 hb d0 d1 d2 f1 c0 c1 c2 hadd
              go_wp2
              go_roundw
              case rel => exact ⟨j + 1, by omega, by go_num, R.out.1, R.out.2⟩
              case measure => simp [intOf]; omega
          · obtain rfl : j = n := by omega
            have R : Hid (Box 24 wr (w.heap.size + 1) j (bS p (k + 1)) (bR q j (k + 1)) ∧ Below HB (w.alloc (.cells #[.int .i64 0, .string ⟨#[]⟩, .string ⟨#[]⟩] 24)) wr) := ⟨HO.out, HX.out⟩
            clear HO HX
            go_wp2
            go_roundw
            case rel => exact ⟨k + 1, by omega, by go_num, R.out.1, R.out.2⟩
            case measure => simp [intOf]; omega
    · obtain rfl : k = n := by omega
      obtain ⟨c0, c1, c2⟩ := HO.out.c
      have BZ2 := Box.below BZ.out HX.out (by have := HHB.out; omega)
      obtain ⟨z0, z1, z2⟩ := BZ2.c
      have f0 := BZ2.free 0
      have f1 := BZ2.free 1
      have f2 := BZ2.free 2
      have BE := ((BZ2.set0 k).set1 (bS p k)).set2 (bR q k k)
      obtain ⟨e0, e1, e2⟩ := BE.c
      have HE := Lib.hid (show _ ∧ _ ∧ _ from ⟨e0, e1, e2⟩)
      have R : Hid (Below w.heap.size w (((wr.setCell ⟨w.heap.size, 0, none⟩ (.int .i64 k)).setCell ⟨w.heap.size, 1, none⟩ (.string (bS p k))).setCell ⟨w.heap.size, 2, none⟩ (.string (bR q k k)))) :=
        (((AW.out.trans (HX.out.mono (by have := HHB.out; omega))).setCell (by simp) _).setCell (by simp) _).setCell (by simp) _
      clear BZ2 e0 e1 e2 BE
      go_wp2
      exact bodyPost_ret (v := .agg #[.int .i64 k, .string (bS p k), .string (bR q k k)]) (by simp [results, Tryd.results53, go_sem, HE.out.1, HE.out.2.1, HE.out.2.2]) rfl ⟨rfl, R.out⟩
theorem make_at (n : Nat) (i : Int) (hi : i = n) (hn : n ≤ 8) (fS fR : FuncId) (cS cR : Array Value) (p : Nat → Bool) (q : Nat → Nat → Bool) (w : World) (eS : Enters fS) (eR : Enters fR)
    (hS : ∀ W, Below w.heap.size w W → ∀ x : Nat, x < n → Calls Tryd.prog fS (#[.int .i64 x] ++ cS) W fun e W' => e = .returned (.bool (p x)) ∧ Below W.heap.size W W')
    (hR : ∀ W, Below w.heap.size w W → ∀ x y : Nat, x < n → y < n → Calls Tryd.prog fR (#[.int .i64 x, .int .i64 y] ++ cR) W fun e W' => e = .returned (.bool (q x y)) ∧ Below W.heap.size W W') :
    Calls Tryd.prog 53 #[.int .i64 i, .func (.func fS) #[] cS, .func (.func fR) #[] cR] w fun e w' => e = .returned (.agg #[.int .i64 n, .string (bS p n), .string (bR q n n)]) ∧ Below w.heap.size w w' := by
  subst hi
  exact make_any n hn fS fR cS cR p q w eS eR hS hR
end Go.Proofs.YtpcnoiigbmiejaaDoor.make
