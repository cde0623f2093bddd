/- Several texts in one: DrF, DrF2, DrF3, DrF4. -/
import Derived.Test.YtpcnoiigbmiejaaGreatDoorPkD
import Derived.Test.YtpcnoiigbmiejaaGreatDoorPk7
import Derived.Laws.Strings2
import Derived.Laws.Concat
import Derived.Test.YtpcnoiigbmiejaaGreatDoorPk1
/- The drawing of formulas: of, l2Draw, FreeVars, l2Closed, l2Bad. -/
namespace Go.Proofs.YtpcnoiigbmiejaaGreatDoor.drf
set_option linter.unusedVariables false
set_option linter.unusedSimpArgs false
open Go.ChangeShapes Go.WideShapes Go.ChangeAt Go.RowKit
open Go.Proofs.YtpcnoiigbmiejaaGreatDoor.lib Go.Proofs.YtpcnoiigbmiejaaGreatDoor.st Go.Proofs.YtpcnoiigbmiejaaGreatDoor.flow Go.Proofs.YtpcnoiigbmiejaaGreatDoor.chain Go.Proofs.YtpcnoiigbmiejaaGreatDoor.draw Go.Proofs.YtpcnoiigbmiejaaGreatDoor.fm Go.Proofs.YtpcnoiigbmiejaaGreatDoor.fmp Go.Proofs.YtpcnoiigbmiejaaGreatDoor.fmq Go.Proofs.YtpcnoiigbmiejaaGreatDoor.fme Go.Proofs.YtpcnoiigbmiejaaGreatDoor.fmf

/-- a short text, not the empty one -/
def Sh (x : ByteArray) : Prop := 1 ≤ x.size ∧ x.size ≤ 4
/-- what a draw from a written list of short texts leaves -/
def OneSh (w : World) (R : Nat) (ao : Option Addr) (len cap p : Nat) (e : Ending) (w' : World) : Prop :=
  ∃ x : ByteArray, Sh x ∧ e = .returned (.string x) ∧ Rd w' R ao len cap (p + 1) ∧ w.grownBy w' (some R)
set_option maxHeartbeats 800000 in
theorem ofS_any (R : Nat) (ao : Option Addr) (len cap p : Nat) (b c n : Nat) (w : World) (h : Rd w R ao len cap p) (hp : p ≤ 1000000000) (h0 : 1 ≤ n) (h1 : n ≤ 1000000000)
    (hb : b ≠ R) (hl : ∀ i, i < n → ∃ x : ByteArray, Sh x ∧ w.cell? ⟨b, i, none⟩ = some (.string x)) :
    Calls Tryz.prog 63 #[.pointer (some ⟨R, 0, none⟩), .slice (some ⟨b, 0, none⟩) n c] w (OneSh w R ao len cap p) := by
  have HL := Lib.hid hl
  clear hl
  go_enter Tryz.func63, Tryz.ntmps63
  go_wp2_with fail
  refine (pick_any R ao len cap p n w h hp h0 h1).mono ?_
  rintro e w1 ⟨v, hv, rfl, hr, hg⟩
  obtain ⟨x, hx, hcx⟩ := HL.out v hv
  have hc := hg.cell hcx (by simpa using hb)
  have R1 := Lib.hid (show _ ∧ _ ∧ _ from ⟨hr, hg, hx⟩)
  clear hr hg hcx hx
  go_wp2
  go_ret
  exact ⟨x, R1.out.2.2, rfl, R1.out.1, R1.out.2.1⟩
theorem ofS_lit (R : Nat) (ao : Option Addr) (len cap p n H : Nat) (A : Array Value) (W : World) (h : Rd W R ao len cap p) (hp : p ≤ 1000000000) (h0 : 1 ≤ n) (h1 : n ≤ 1000000000) (hA : ∀ i, i < n → ∃ x : ByteArray, Sh x ∧ A[i]? = some (.string x)) (hH : W.heap.size = H) (T : TypeId) :
    Calls Tryz.prog 63 #[.pointer (some ⟨R, 0, none⟩), .slice (some ⟨H, 0, none⟩) n n] (W.alloc (.cells A T)) (OneSh W R ao len cap p) := by
  subst hH
  have hR := h.lt
  refine (ofS_any R ao len cap p W.heap.size n n _ (h.alloc _) hp h0 h1 (by omega) fun i hi => ?_).mono ?_
  · obtain ⟨x, hx, he⟩ := hA i hi
    refine ⟨x, hx, ?_⟩
    have hh := heap_alloc_new W (.cells A T)
    simp only [World.cell?, hh]
    exact he
  · rintro e w' ⟨x, hx, he, hr, hg⟩
    exact ⟨x, hx, he, hr, grown_trans (World.grownBy_alloc W _ _) hg⟩
theorem add_ok {P : Program} {x y : ByteArray} (hx : x.size ≤ 32000000) (hy : y.size ≤ 32000000) : ∀ W : World, (Op.stringOp .add x y).run P W = .ok (.string (x ++ y)) W := fun W => run_string_add_sum (P := P) (w := W) x y (by omega)
theorem ext1 {f : ByteArray} {k : Nat} (h : k < f.size) : (f.extract k (k + 1)).size = 1 := by
  rw [ByteArray.size_extract]; omega
/-- what the drawing of a formula leaves -/
def DrawnF (w : World) (R : Nat) (ao : Option Addr) (len cap P B : Nat) (e : Ending) (w' : World) : Prop :=
  ∃ (x : ByteArray) (p : Nat), e = .returned (.string x) ∧ (1 ≤ x.size ∧ x.size ≤ B) ∧ Rd w' R ao len cap p ∧ p ≤ P ∧ w.grownBy w' (some R)
end Go.Proofs.YtpcnoiigbmiejaaGreatDoor.drf

/- The drawing of formulas: l2Draw. -/
namespace Go.Proofs.YtpcnoiigbmiejaaGreatDoor.drf
set_option linter.unusedVariables false
set_option linter.unusedSimpArgs false
open Go.ChangeShapes Go.WideShapes Go.ChangeAt Go.RowKit
open Go.Proofs.YtpcnoiigbmiejaaGreatDoor.lib Go.Proofs.YtpcnoiigbmiejaaGreatDoor.st Go.Proofs.YtpcnoiigbmiejaaGreatDoor.flow Go.Proofs.YtpcnoiigbmiejaaGreatDoor.chain Go.Proofs.YtpcnoiigbmiejaaGreatDoor.draw

def Sz : Nat → Nat | 0 => 4 | d + 1 => 2 * Sz d + 4
def Pz : Nat → Nat | 0 => 6 | d + 1 => 2 * Pz d + 6
theorem Sz_le0 : ∀ d : Fin 5, Sz d.1 ≤ 124 := by decide
theorem Pz_le0 : ∀ d : Fin 5, Pz d.1 ≤ 186 := by decide
theorem Sz_le {d : Nat} (h : d ≤ 4) : Sz d ≤ 124 := Sz_le0 ⟨d, by omega⟩
theorem Pz_le {d : Nat} (h : d ≤ 4) : Pz d ≤ 186 := Pz_le0 ⟨d, by omega⟩
theorem Sz_ge : ∀ d, 4 ≤ Sz d
  | 0 => Nat.le_refl _
  | d + 1 => by show 4 ≤ 2 * Sz d + 4; omega
theorem Pz_ge : ∀ d, 6 ≤ Pz d
  | 0 => Nat.le_refl _
  | d + 1 => by show 6 ≤ 2 * Pz d + 6; omega
instance (x : ByteArray) : Decidable (Sh x) := inferInstanceAs (Decidable (_ ∧ _))
theorem sh_all (L : List ByteArray) (h : ∀ x, x ∈ L → Sh x) : ∀ i, i < L.length → ∃ x : ByteArray, Sh x ∧ (L.map Value.string).toArray[i]? = some (.string x) := fun i hi =>
  ⟨L[i], h _ (List.getElem_mem _), by simp [hi]⟩
theorem _root_.Go.Proofs.YtpcnoiigbmiejaaGreatDoor.draw.Rd.drewN {w : World} {R : Nat} {ao : Option Addr} {len cap p : Nat} (h : Rd w R ao len cap p) (n : Nat) : Rd (w.drewN n) R ao len cap p := h.kept (row := none) (grown_drewN _ _ _) fun _ h => by cases h
set_option maxHeartbeats 6400000 in
set_option maxRecDepth 100000 in
theorem l2Draw_any (R : Nat) (ao : Option Addr) (len cap : Nat) (vars : ByteArray) (hv : Sh vars) (cb : Bool) : ∀ (d : Nat) (x : Int), x = (d : Nat) → d ≤ 4 → ∀ (p : Nat) (w0 : World), Rd w0 R ao len cap p → p + Pz d ≤ 80000000 →
    Calls Tryz.prog 120 #[.pointer (some ⟨R, 0, none⟩), .int .i64 x, .string vars, .bool cb] w0 (DrawnF w0 R ao len cap (p + Pz d) (Sz d)) := by
  have hv1 : 1 ≤ vars.size := hv.1
  have hv4 : vars.size ≤ 4 := hv.2
  clear hv
  intro d
  induction d with
  | zero =>
    intro x hx hd p w0 h hp
    have HP0 : Hid (Rd w0 R ao len cap p ∧ w0.grownBy w0 (some R)) := ⟨h, ⟨rfl, rfl, rfl, Nat.le_refl _, fun _ _ _ => rfl⟩⟩
    have HPZ : Hid (Pz 0 = 6 ∧ Sz 0 = 4) := ⟨rfl, rfl⟩
    have hp : p ≤ 80000000 := by omega
    obtain rfl : x = 0 := hx
    clear hd h
    go_enter Tryz.func120, Tryz.ntmps120
    go_wp2_with fail
    refine (pick_any R ao len cap p 12 _ HP0.out.1 (by omega) (by omega) (by omega)).mono ?_
    rintro e w1 ⟨kk, hkk, rfl, hr, hg⟩
    have HP1 := Lib.hid (show _ ∧ _ from ⟨hr, grown_trans HP0.out.2 hg⟩)
    clear hr hg HP0
    go_wp2_with fail
    refine (pick_any R ao len cap (p + 1) vars.size _ HP1.out.1 (by omega) (by omega) (by omega)).mono ?_
    rintro e w2 ⟨vv, hvv, rfl, hr, hg⟩
    have HP2 := Lib.hid (show _ ∧ _ from ⟨hr, grown_trans HP1.out.2 hg⟩)
    clear hr hg HP1
    go_wp2_with fail
    refine (pick_any R ao len cap ((p + 1) + 1) vars.size _ HP2.out.1 (by omega) (by omega) (by omega)).mono ?_
    rintro e w3 ⟨uu, huu, rfl, hr, hg⟩
    have HP3 := Lib.hid (show _ ∧ _ from ⟨hr, grown_trans HP2.out.2 hg⟩)
    clear hr hg HP2
    go_wp2_with fail
    refine (pick_any R ao len cap (((p + 1) + 1) + 1) 8 _ HP3.out.1 (by omega) (by omega) (by omega)).mono ?_
    rintro e w4 ⟨jj, hjj, rfl, hr, hg⟩
    have HP4 := Lib.hid (show _ ∧ _ from ⟨hr, grown_trans HP3.out.2 hg⟩)
    clear hr hg HP3
    have hjc : jj = 0 ∨ (jj = 1 ∨ jj = 2) ∨ jj = 3 ∨ 3 < jj := by omega
    rcases hjc with rfl | h12 | rfl | h4
    · go_wp2_with fail
      refine (ofS_lit R ao len cap ((((p + 1) + 1) + 1) + 1) 2 w4.heap.size #[.string ⟨#[116]⟩, .string ⟨#[102]⟩] w4 HP4.out.1 (by omega) (by omega) (by omega) (sh_all [⟨#[116]⟩, ⟨#[102]⟩] (by decide)) rfl 9).mono ?_
      rintro e w5 ⟨xx, hxx, rfl, hr, hg⟩
      have HP5 := Lib.hid (show _ ∧ _ from ⟨hr, grown_trans HP4.out.2 hg⟩)
      clear hr hg HP4
      go_wp2
      go_ret
      exact ⟨_, _, rfl, ⟨by have := hxx.1; have := hxx.2; have := HPZ.out; omega, by have := hxx.1; have := hxx.2; have := HPZ.out; omega⟩, HP5.out.1, by have := HPZ.out; omega, HP5.out.2⟩
    · have ev : (vars.extract vv (vv + 1)).size = 1 := ext1 hvv
      have eu : (vars.extract uu (uu + 1)).size = 1 := ext1 huu
      have hadd1 := add_ok (P := Tryz.prog) (x := ⟨#[80]⟩) (y := vars.extract vv (vv + 1)) (by decide) (by omega)
      have HRS : Hid ((⟨#[80]⟩ ++ vars.extract vv (vv + 1) : ByteArray).size = 2) := by rw [Hid, ByteArray.size_append, ev]; rfl
      clear ev eu
      rcases h12 with rfl | rfl
      all_goals
        go_wp2
        go_ret
        exact ⟨_, _, rfl, ⟨by have := HRS.out; have := HPZ.out; omega, by have := HRS.out; have := HPZ.out; omega⟩, HP4.out.1, by have := HPZ.out; omega, HP4.out.2⟩
    · have ev : (vars.extract vv (vv + 1)).size = 1 := ext1 hvv
      have eu : (vars.extract uu (uu + 1)).size = 1 := ext1 huu
      have hadd1 := add_ok (P := Tryz.prog) (x := ⟨#[61]⟩) (y := vars.extract vv (vv + 1)) (by decide) (by omega)
      have esz : ((⟨#[61]⟩ : ByteArray) ++ vars.extract vv (vv + 1)).size = 2 := by rw [ByteArray.size_append, ev]; rfl
      have hadd2 := add_ok (P := Tryz.prog) (x := ⟨#[61]⟩ ++ vars.extract vv (vv + 1)) (y := vars.extract uu (uu + 1)) (by omega) (by omega)
      have HRS : Hid ((⟨#[61]⟩ ++ vars.extract vv (vv + 1) ++ vars.extract uu (uu + 1) : ByteArray).size = 3) := by rw [Hid, ByteArray.size_append, ByteArray.size_append, ev, eu]; rfl
      clear ev eu
      go_wp2_with fail
      go_quiet (fail)
      go_wp2
      go_ret
      exact ⟨_, _, rfl, ⟨by have := HRS.out; have := HPZ.out; omega, by have := HRS.out; have := HPZ.out; omega⟩, HP4.out.1.drewN _, by have := HPZ.out; omega, grown_trans HP4.out.2 (grown_drewN _ _ _)⟩
    · have ev : (vars.extract vv (vv + 1)).size = 1 := ext1 hvv
      have eu : (vars.extract uu (uu + 1)).size = 1 := ext1 huu
      have hadd1 := add_ok (P := Tryz.prog) (x := ⟨#[69]⟩) (y := vars.extract vv (vv + 1)) (by decide) (by omega)
      have esz : ((⟨#[69]⟩ : ByteArray) ++ vars.extract vv (vv + 1)).size = 2 := by rw [ByteArray.size_append, ev]; rfl
      have hadd2 := add_ok (P := Tryz.prog) (x := ⟨#[69]⟩ ++ vars.extract vv (vv + 1)) (y := vars.extract uu (uu + 1)) (by omega) (by omega)
      have HRS : Hid ((⟨#[69]⟩ ++ vars.extract vv (vv + 1) ++ vars.extract uu (uu + 1) : ByteArray).size = 3) := by rw [Hid, ByteArray.size_append, ByteArray.size_append, ev, eu]; rfl
      clear ev eu
      have j0 : ((jj : Int) == 0) = false := by simp; omega
      have j1 : ((jj : Int) == 1) = false := by simp; omega
      have j2 : ((jj : Int) == 2) = false := by simp; omega
      have j3 : ((jj : Int) == 3) = false := by simp; omega
      go_wp2_with fail
      go_quiet (fail)
      go_wp2
      go_ret
      exact ⟨_, _, rfl, ⟨by have := HRS.out; have := HPZ.out; omega, by have := HRS.out; have := HPZ.out; omega⟩, HP4.out.1.drewN _, by have := HPZ.out; omega, grown_trans HP4.out.2 (grown_drewN _ _ _)⟩
  | succ j ih =>
    intro x hx hd p w0 h hp
    have HP0 : Hid (Rd w0 R ao len cap p ∧ w0.grownBy w0 (some R)) := ⟨h, ⟨rfl, rfl, rfl, Nat.le_refl _, fun _ _ _ => rfl⟩⟩
    have HPZ : Hid (Pz (j + 1) = 2 * Pz j + 6 ∧ Sz (j + 1) = 2 * Sz j + 4 ∧ 4 ≤ Sz j ∧ 6 ≤ Pz j ∧ Sz j ≤ 124) := ⟨rfl, rfl, Sz_ge j, Pz_ge j, Sz_le (by omega)⟩
    have hp1 : p + 2 * Pz j + 6 ≤ 80000000 := by have := HPZ.out; omega
    have IH : Hid (∀ (p : Nat) (w0 : World), Rd w0 R ao len cap p → p + Pz j ≤ 80000000 → Calls Tryz.prog 120 #[.pointer (some ⟨R, 0, none⟩), .int .i64 (x - 1), .string vars, .bool cb] w0 (DrawnF w0 R ao len cap (p + Pz j) (Sz j))) := fun p w0 h1 h2 => ih (x - 1) (by omega) (by omega) p w0 h1 h2
    have z0 : ¬ x ≤ 0 := by omega
    have z1 : decide (x ≤ 0) = false := by simp; omega
    have z2 : x ≤ 5 := by omega
    have z3 : IntKind.i64.wrap (x - 1) = x - 1 := IntWalk.i64_in _ (by omega)
    clear hd h hx ih hp
    go_enter Tryz.func120, Tryz.ntmps120
    go_wp2_with fail
    refine (pick_any R ao len cap p 12 _ HP0.out.1 (by omega) (by omega) (by omega)).mono ?_
    rintro e w1 ⟨kk, hkk, rfl, hr, hg⟩
    have HP1 := Lib.hid (show _ ∧ _ from ⟨hr, grown_trans HP0.out.2 hg⟩)
    clear hr hg HP0
    go_wp2_with fail
    refine (pick_any R ao len cap (p + 1) vars.size _ HP1.out.1 (by omega) (by omega) (by omega)).mono ?_
    rintro e w2 ⟨vv, hvv, rfl, hr, hg⟩
    have HP2 := Lib.hid (show _ ∧ _ from ⟨hr, grown_trans HP1.out.2 hg⟩)
    clear hr hg HP1
    go_wp2_with fail
    refine (pick_any R ao len cap ((p + 1) + 1) vars.size _ HP2.out.1 (by omega) (by omega) (by omega)).mono ?_
    rintro e w3 ⟨uu, huu, rfl, hr, hg⟩
    have HP3 := Lib.hid (show _ ∧ _ from ⟨hr, grown_trans HP2.out.2 hg⟩)
    clear hr hg HP2
    by_cases hk2 : kk < 2
    · have k2 : decide ((kk : Int) < 2) = true := by simp; omega
      have k4 : decide ((kk : Int) < 4) = true := by simp; omega
      have k7 : decide ((kk : Int) < 7) = true := by simp; omega
      go_wp2_with fail
      refine (pick_any R ao len cap (((p + 1) + 1) + 1) 8 _ HP3.out.1 (by omega) (by omega) (by omega)).mono ?_
      rintro e w4 ⟨jj, hjj, rfl, hr, hg⟩
      have HP4 := Lib.hid (show _ ∧ _ from ⟨hr, grown_trans HP3.out.2 hg⟩)
      clear hr hg HP3
      have hjc : jj = 0 ∨ (jj = 1 ∨ jj = 2) ∨ jj = 3 ∨ 3 < jj := by omega
      rcases hjc with rfl | h12 | rfl | h4
      · go_wp2_with fail
        refine (ofS_lit R ao len cap ((((p + 1) + 1) + 1) + 1) 2 w4.heap.size #[.string ⟨#[116]⟩, .string ⟨#[102]⟩] w4 HP4.out.1 (by omega) (by omega) (by omega) (sh_all [⟨#[116]⟩, ⟨#[102]⟩] (by decide)) rfl 9).mono ?_
        rintro e w5 ⟨xx, hxx, rfl, hr, hg⟩
        have HP5 := Lib.hid (show _ ∧ _ from ⟨hr, grown_trans HP4.out.2 hg⟩)
        clear hr hg HP4
        go_wp2
        go_ret
        exact ⟨_, _, rfl, ⟨by have := hxx.1; have := hxx.2; have := HPZ.out; omega, by have := hxx.1; have := hxx.2; have := HPZ.out; omega⟩, HP5.out.1, by have := HPZ.out; omega, HP5.out.2⟩
      · have ev : (vars.extract vv (vv + 1)).size = 1 := ext1 hvv
        have eu : (vars.extract uu (uu + 1)).size = 1 := ext1 huu
        have hadd1 := add_ok (P := Tryz.prog) (x := ⟨#[80]⟩) (y := vars.extract vv (vv + 1)) (by decide) (by omega)
        have HRS : Hid ((⟨#[80]⟩ ++ vars.extract vv (vv + 1) : ByteArray).size = 2) := by rw [Hid, ByteArray.size_append, ev]; rfl
        clear ev eu
        rcases h12 with rfl | rfl
        all_goals
          go_wp2
          go_ret
          exact ⟨_, _, rfl, ⟨by have := HRS.out; have := HPZ.out; omega, by have := HRS.out; have := HPZ.out; omega⟩, HP4.out.1, by have := HPZ.out; omega, HP4.out.2⟩
      · have ev : (vars.extract vv (vv + 1)).size = 1 := ext1 hvv
        have eu : (vars.extract uu (uu + 1)).size = 1 := ext1 huu
        have hadd1 := add_ok (P := Tryz.prog) (x := ⟨#[61]⟩) (y := vars.extract vv (vv + 1)) (by decide) (by omega)
        have esz : ((⟨#[61]⟩ : ByteArray) ++ vars.extract vv (vv + 1)).size = 2 := by rw [ByteArray.size_append, ev]; rfl
        have hadd2 := add_ok (P := Tryz.prog) (x := ⟨#[61]⟩ ++ vars.extract vv (vv + 1)) (y := vars.extract uu (uu + 1)) (by omega) (by omega)
        have HRS : Hid ((⟨#[61]⟩ ++ vars.extract vv (vv + 1) ++ vars.extract uu (uu + 1) : ByteArray).size = 3) := by rw [Hid, ByteArray.size_append, ByteArray.size_append, ev, eu]; rfl
        clear ev eu
        go_wp2_with fail
        go_quiet (fail)
        go_wp2
        go_ret
        exact ⟨_, _, rfl, ⟨by have := HRS.out; have := HPZ.out; omega, by have := HRS.out; have := HPZ.out; omega⟩, HP4.out.1.drewN _, by have := HPZ.out; omega, grown_trans HP4.out.2 (grown_drewN _ _ _)⟩
      · have ev : (vars.extract vv (vv + 1)).size = 1 := ext1 hvv
        have eu : (vars.extract uu (uu + 1)).size = 1 := ext1 huu
        have hadd1 := add_ok (P := Tryz.prog) (x := ⟨#[69]⟩) (y := vars.extract vv (vv + 1)) (by decide) (by omega)
        have esz : ((⟨#[69]⟩ : ByteArray) ++ vars.extract vv (vv + 1)).size = 2 := by rw [ByteArray.size_append, ev]; rfl
        have hadd2 := add_ok (P := Tryz.prog) (x := ⟨#[69]⟩ ++ vars.extract vv (vv + 1)) (y := vars.extract uu (uu + 1)) (by omega) (by omega)
        have HRS : Hid ((⟨#[69]⟩ ++ vars.extract vv (vv + 1) ++ vars.extract uu (uu + 1) : ByteArray).size = 3) := by rw [Hid, ByteArray.size_append, ByteArray.size_append, ev, eu]; rfl
        clear ev eu
        have j0 : ((jj : Int) == 0) = false := by simp; omega
        have j1 : ((jj : Int) == 1) = false := by simp; omega
        have j2 : ((jj : Int) == 2) = false := by simp; omega
        have j3 : ((jj : Int) == 3) = false := by simp; omega
        go_wp2_with fail
        go_quiet (fail)
        go_wp2
        go_ret
        exact ⟨_, _, rfl, ⟨by have := HRS.out; have := HPZ.out; omega, by have := HRS.out; have := HPZ.out; omega⟩, HP4.out.1.drewN _, by have := HPZ.out; omega, grown_trans HP4.out.2 (grown_drewN _ _ _)⟩
    by_cases hk4 : kk < 4
    · have k2 : decide ((kk : Int) < 2) = false := by simp; omega
      have k4 : decide ((kk : Int) < 4) = true := by simp; omega
      have k7 : decide ((kk : Int) < 7) = true := by simp; omega
      go_wp2_with fail
      refine (IH.out (((p + 1) + 1) + 1) _ HP3.out.1 (by omega)).mono ?_
      rintro e w4 ⟨s1, ps1, rfl, hs1, hr, hps1, hg⟩
      have HP4 := Lib.hid (show _ ∧ _ from ⟨hr, grown_trans HP3.out.2 hg⟩)
      have Hs1 := Lib.hid hs1
      clear hr hg HP3 hs1
      have hadd := add_ok (P := Tryz.prog) (x := ⟨#[33]⟩) (y := s1) (by decide) (by have := Hs1.out; have := HPZ.out; omega)
      have HRS : Hid ((⟨#[33]⟩ ++ s1 : ByteArray).size = 1 + s1.size) := by rw [Hid, ByteArray.size_append]; rfl
      go_wp2
      go_ret
      exact ⟨_, _, rfl, ⟨by have := HRS.out; have := Hs1.out; have := HPZ.out; omega, by have := HRS.out; have := Hs1.out; have := HPZ.out; omega⟩, HP4.out.1, by have := HPZ.out; omega, HP4.out.2⟩
    by_cases hk7 : kk < 7
    · have k2 : decide ((kk : Int) < 2) = false := by simp; omega
      have k4 : decide ((kk : Int) < 4) = false := by simp; omega
      have k7 : decide ((kk : Int) < 7) = true := by simp; omega
      go_wp2_with fail
      refine (ofS_lit R ao len cap (((p + 1) + 1) + 1) 2 w3.heap.size #[.string ⟨#[38]⟩, .string ⟨#[124]⟩] w3 HP3.out.1 (by omega) (by omega) (by omega) (sh_all [⟨#[38]⟩, ⟨#[124]⟩] (by decide)) rfl 9).mono ?_
      rintro e w4 ⟨op, hop, rfl, hr, hg⟩
      have HP4 := Lib.hid (show _ ∧ _ from ⟨hr, grown_trans HP3.out.2 hg⟩)
      clear hr hg HP3
      have Hop : Hid (1 ≤ op.size ∧ op.size ≤ 4) := hop
      clear hop
      go_wp2_with fail
      refine (IH.out ((((p + 1) + 1) + 1) + 1) _ HP4.out.1 (by omega)).mono ?_
      rintro e w5 ⟨s1, ps1, rfl, hs1, hr, hps1, hg⟩
      have HP5 := Lib.hid (show _ ∧ _ from ⟨hr, grown_trans HP4.out.2 hg⟩)
      have Hs1 := Lib.hid hs1
      clear hr hg HP4 hs1
      have hadd := add_ok (P := Tryz.prog) (x := op) (y := s1) (by have := Hop.out; omega) (by have := Hs1.out; have := HPZ.out; omega)
      go_wp2_with fail
      refine (IH.out ps1 _ HP5.out.1 (by omega)).mono ?_
      rintro e w6 ⟨s2, ps2, rfl, hs2, hr, hps2, hg⟩
      have HP6 := Lib.hid (show _ ∧ _ from ⟨hr, grown_trans HP5.out.2 hg⟩)
      have Hs2 := Lib.hid hs2
      clear hr hg HP5 hs2
      have hadd2 := add_ok (P := Tryz.prog) (x := op ++ s1) (y := s2) (by rw [ByteArray.size_append]; have := Hop.out; have := Hs1.out; have := HPZ.out; omega) (by have := Hs2.out; have := HPZ.out; omega)
      have HRS : Hid ((op ++ s1 ++ s2 : ByteArray).size = op.size + s1.size + s2.size) := by rw [Hid, ByteArray.size_append, ByteArray.size_append]
      go_wp2
      go_ret
      exact ⟨_, _, rfl, ⟨by have := HRS.out; have := Hs1.out; have := Hs2.out; have := Hop.out; have := HPZ.out; omega, by have := HRS.out; have := Hs1.out; have := Hs2.out; have := Hop.out; have := HPZ.out; omega⟩, HP6.out.1, by have := HPZ.out; omega, HP6.out.2⟩
    have k2 : decide ((kk : Int) < 2) = false := by simp; omega
    have k4 : decide ((kk : Int) < 4) = false := by simp; omega
    have k7 : decide ((kk : Int) < 7) = false := by simp; omega
    go_wp2_with fail
    refine (ofS_lit R ao len cap (((p + 1) + 1) + 1) 3 w3.heap.size #[.string ⟨#[65]⟩, .string ⟨#[83]⟩, .string ⟨#[83]⟩] w3 HP3.out.1 (by omega) (by omega) (by omega) (sh_all [⟨#[65]⟩, ⟨#[83]⟩, ⟨#[83]⟩] (by decide)) rfl 9).mono ?_
    rintro e w4 ⟨o1, ho1, rfl, hr, hg⟩
    have HP4 := Lib.hid (show _ ∧ _ from ⟨hr, grown_trans HP3.out.2 hg⟩)
    clear hr hg HP3
    have Ho1 : Hid (1 ≤ o1.size ∧ o1.size ≤ 4) := ho1
    clear ho1
    cases cb with
    | false =>
      have ev : (vars.extract vv (vv + 1)).size = 1 := ext1 hvv
      have hadd := add_ok (P := Tryz.prog) (x := o1) (y := vars.extract vv (vv + 1)) (by have := Ho1.out; omega) (by omega)
      have hsz : Hid ((o1 ++ vars.extract vv (vv + 1)).size = o1.size + 1) := by rw [Hid, ByteArray.size_append, ev]
      clear ev
      go_wp2_with fail
      have hne : Nonempty (Wd (fun _ : World => True)) := ⟨⟨w4, trivial⟩⟩
      refine chain (S := (fun _ : World => True)) [([true, true, true, true, true, true, true, true, true, true, true, true], 12)] [false, false, false, false, false, false, false, false, false, false, false, false, false, true, true] (by kernel_rfl) (by kernel_rfl) (by kernel_rfl) trivial ?_
      simp only [wpSegs, pickB, List.dropLast_cons_cons, List.dropLast_singleton, List.getLast?_cons_cons, List.getLast?_singleton, List.toList_toArray, List.getElem?_toArray, List.getElem?_cons_succ, List.getElem?_cons_zero, Option.toList_some]
      repeat (go_big_quiet_step (fail))
      refine wpQuiet_nil ?_
      intro K hK
      go_wp2_with fail
      have HP5 := Lib.hid (show _ ∧ _ from ⟨HP4.out.1.drew, grown_drew HP4.out.2⟩)
      clear HP4
      refine (IH.out ((((p + 1) + 1) + 1) + 1) _ HP5.out.1 (by omega)).mono ?_
      rintro e w6 ⟨s1, ps1, rfl, hs1, hr, hps1, hg⟩
      have HP6 := Lib.hid (show _ ∧ _ from ⟨hr, grown_trans HP5.out.2 hg⟩)
      have Hs1 := Lib.hid hs1
      clear hr hg HP5 hs1
      have hadd2 := add_ok (P := Tryz.prog) (x := o1 ++ vars.extract vv (vv + 1)) (y := s1) (by have := hsz.out; have := Ho1.out; omega) (by have := Hs1.out; have := HPZ.out; omega)
      go_wp2_with fail
      refine hK _ _ trivial ?_
      clear hK K
      repeat (go_big_quiet_step (fail))
      refine wpQuiet_nil ?_
      have HRS : Hid ((o1 ++ vars.extract vv (vv + 1) ++ s1 : ByteArray).size = o1.size + 1 + s1.size) := by rw [Hid, ByteArray.size_append, hsz.out]
      go_wp2
      go_ret
      exact ⟨_, _, rfl, ⟨by have := HRS.out; have := Hs1.out; have := Ho1.out; have := HPZ.out; omega, by have := HRS.out; have := Hs1.out; have := Ho1.out; have := HPZ.out; omega⟩, HP6.out.1, by have := HPZ.out; omega, HP6.out.2⟩
    | true =>
      go_wp2_with fail
      refine (pick_any R ao len cap ((((p + 1) + 1) + 1) + 1) 3 _ HP4.out.1 (by omega) (by omega) (by omega)).mono ?_
      rintro e w5 ⟨tt, htt, rfl, hr, hg⟩
      have HP5 := Lib.hid (show _ ∧ _ from ⟨hr, grown_trans HP4.out.2 hg⟩)
      clear hr hg HP4
      by_cases ht0 : tt = 0
      · subst ht0
        go_wp2_with fail
        refine (ofS_lit R ao len cap (((((p + 1) + 1) + 1) + 1) + 1) 4 w5.heap.size #[.string ⟨#[50]⟩, .string ⟨#[51]⟩, .string ⟨#[50]⟩, .string ⟨#[52]⟩] w5 HP5.out.1 (by omega) (by omega) (by omega) (sh_all [⟨#[50]⟩, ⟨#[51]⟩, ⟨#[50]⟩, ⟨#[52]⟩] (by decide)) rfl 9).mono ?_
        rintro e w6 ⟨o2, ho2, rfl, hr, hg⟩
        have HP6 := Lib.hid (show _ ∧ _ from ⟨hr, grown_trans HP5.out.2 hg⟩)
        clear hr hg HP5
        have Ho2 : Hid (1 ≤ o2.size ∧ o2.size ≤ 4) := ho2
        clear ho2
        have ev : (vars.extract vv (vv + 1)).size = 1 := ext1 hvv
        have hadd := add_ok (P := Tryz.prog) (x := o2) (y := vars.extract vv (vv + 1)) (by have := Ho2.out; omega) (by omega)
        have hsz : Hid ((o2 ++ vars.extract vv (vv + 1)).size = o2.size + 1) := by rw [Hid, ByteArray.size_append, ev]
        clear ev
        go_wp2_with fail
        have hne : Nonempty (Wd (fun _ : World => True)) := ⟨⟨w6, trivial⟩⟩
        refine chain (S := (fun _ : World => True)) [([true, true, true, true, true, true, true, true, true, true, true, true], 12)] [false, false, false, false, false, false, false, false, false, false, false, false, false, true, true] (by kernel_rfl) (by kernel_rfl) (by kernel_rfl) trivial ?_
        simp only [wpSegs, pickB, List.dropLast_cons_cons, List.dropLast_singleton, List.getLast?_cons_cons, List.getLast?_singleton, List.toList_toArray, List.getElem?_toArray, List.getElem?_cons_succ, List.getElem?_cons_zero, Option.toList_some]
        repeat (go_big_quiet_step (fail))
        refine wpQuiet_nil ?_
        intro K hK
        go_wp2_with fail
        have HP7 := Lib.hid (show _ ∧ _ from ⟨HP6.out.1.drew, grown_drew HP6.out.2⟩)
        clear HP6
        refine (IH.out ((((((p + 1) + 1) + 1) + 1) + 1) + 1) _ HP7.out.1 (by omega)).mono ?_
        rintro e w8 ⟨s1, ps1, rfl, hs1, hr, hps1, hg⟩
        have HP8 := Lib.hid (show _ ∧ _ from ⟨hr, grown_trans HP7.out.2 hg⟩)
        have Hs1 := Lib.hid hs1
        clear hr hg HP7 hs1
        have hadd2 := add_ok (P := Tryz.prog) (x := o2 ++ vars.extract vv (vv + 1)) (y := s1) (by have := hsz.out; have := Ho2.out; omega) (by have := Hs1.out; have := HPZ.out; omega)
        go_wp2_with fail
        refine hK _ _ trivial ?_
        clear hK K
        repeat (go_big_quiet_step (fail))
        refine wpQuiet_nil ?_
        have HRS : Hid ((o2 ++ vars.extract vv (vv + 1) ++ s1 : ByteArray).size = o2.size + 1 + s1.size) := by rw [Hid, ByteArray.size_append, hsz.out]
        go_wp2
        go_ret
        exact ⟨_, _, rfl, ⟨by have := HRS.out; have := Hs1.out; have := Ho2.out; have := HPZ.out; omega, by have := HRS.out; have := Hs1.out; have := Ho2.out; have := HPZ.out; omega⟩, HP8.out.1, by have := HPZ.out; omega, HP8.out.2⟩
      · have tt0 : ((tt : Int) == 0) = false := by simp; omega
        have ev : (vars.extract vv (vv + 1)).size = 1 := ext1 hvv
        have hadd := add_ok (P := Tryz.prog) (x := o1) (y := vars.extract vv (vv + 1)) (by have := Ho1.out; omega) (by omega)
        have hsz : Hid ((o1 ++ vars.extract vv (vv + 1)).size = o1.size + 1) := by rw [Hid, ByteArray.size_append, ev]
        clear ev
        go_wp2_with fail
        have hne : Nonempty (Wd (fun _ : World => True)) := ⟨⟨w5, trivial⟩⟩
        refine chain (S := (fun _ : World => True)) [([true, true, true, true, true, true, true, true, true, true, true, true], 12)] [false, false, false, false, false, false, false, false, false, false, false, false, false, true, true] (by kernel_rfl) (by kernel_rfl) (by kernel_rfl) trivial ?_
        simp only [wpSegs, pickB, List.dropLast_cons_cons, List.dropLast_singleton, List.getLast?_cons_cons, List.getLast?_singleton, List.toList_toArray, List.getElem?_toArray, List.getElem?_cons_succ, List.getElem?_cons_zero, Option.toList_some]
        repeat (go_big_quiet_step (fail))
        refine wpQuiet_nil ?_
        intro K hK
        go_wp2_with fail
        have HP6 := Lib.hid (show _ ∧ _ from ⟨HP5.out.1.drew, grown_drew HP5.out.2⟩)
        clear HP5
        refine (IH.out (((((p + 1) + 1) + 1) + 1) + 1) _ HP6.out.1 (by omega)).mono ?_
        rintro e w7 ⟨s1, ps1, rfl, hs1, hr, hps1, hg⟩
        have HP7 := Lib.hid (show _ ∧ _ from ⟨hr, grown_trans HP6.out.2 hg⟩)
        have Hs1 := Lib.hid hs1
        clear hr hg HP6 hs1
        have hadd2 := add_ok (P := Tryz.prog) (x := o1 ++ vars.extract vv (vv + 1)) (y := s1) (by have := hsz.out; have := Ho1.out; omega) (by have := Hs1.out; have := HPZ.out; omega)
        go_wp2_with fail
        refine hK _ _ trivial ?_
        clear hK K
        repeat (go_big_quiet_step (fail))
        refine wpQuiet_nil ?_
        have HRS : Hid ((o1 ++ vars.extract vv (vv + 1) ++ s1 : ByteArray).size = o1.size + 1 + s1.size) := by rw [Hid, ByteArray.size_append, hsz.out]
        go_wp2
        go_ret
        exact ⟨_, _, rfl, ⟨by have := HRS.out; have := Hs1.out; have := Ho1.out; have := HPZ.out; omega, by have := HRS.out; have := Hs1.out; have := Ho1.out; have := HPZ.out; omega⟩, HP7.out.1, by have := HPZ.out; omega, HP7.out.2⟩
end Go.Proofs.YtpcnoiigbmiejaaGreatDoor.drf

/- The drawing of formulas: FreeVars, l2Closed, l2Bad. -/
namespace Go.Proofs.YtpcnoiigbmiejaaGreatDoor.drf
set_option linter.unusedVariables false
set_option linter.unusedSimpArgs false
open Go.ChangeShapes Go.WideShapes Go.ChangeAt Go.RowKit
open Go.Proofs.YtpcnoiigbmiejaaGreatDoor.lib Go.Proofs.YtpcnoiigbmiejaaGreatDoor.st Go.Proofs.YtpcnoiigbmiejaaGreatDoor.flow Go.Proofs.YtpcnoiigbmiejaaGreatDoor.chain Go.Proofs.YtpcnoiigbmiejaaGreatDoor.draw Go.Proofs.YtpcnoiigbmiejaaGreatDoor.fm Go.Proofs.YtpcnoiigbmiejaaGreatDoor.fmp Go.Proofs.YtpcnoiigbmiejaaGreatDoor.fmq Go.Proofs.YtpcnoiigbmiejaaGreatDoor.fme Go.Proofs.YtpcnoiigbmiejaaGreatDoor.fmf

theorem obq0 : ∀ F : Fin 16, bits .and .i64 ((F.1 : Nat) : Int) 1 = ((F.1 % 2 : Nat) : Int) := by decide
theorem ob0 {F : Nat} (h : F < 16) : bits .and .i64 (F : Int) 1 = ((F % 2 : Nat) : Int) := obq0 ⟨F, h⟩
theorem obq1 : ∀ F : Fin 16, bits .and .i64 (((F.1 : Nat) : Int) / 2) 1 = ((F.1 / 2 % 2 : Nat) : Int) := by decide
theorem ob1 {F : Nat} (h : F < 16) : bits .and .i64 ((F : Int) / 2) 1 = ((F / 2 % 2 : Nat) : Int) := obq1 ⟨F, h⟩
theorem obq2 : ∀ F : Fin 16, bits .and .i64 (((F.1 : Nat) : Int) / 4) 1 = ((F.1 / 4 % 2 : Nat) : Int) := by decide
theorem ob2 {F : Nat} (h : F < 16) : bits .and .i64 ((F : Int) / 4) 1 = ((F / 4 % 2 : Nat) : Int) := obq2 ⟨F, h⟩
theorem obq3 : ∀ F : Fin 16, bits .and .i64 (((F.1 : Nat) : Int) / 8) 1 = ((F.1 / 8 % 2 : Nat) : Int) := by decide
theorem ob3 {F : Nat} (h : F < 16) : bits .and .i64 ((F : Int) / 8) 1 = ((F / 8 % 2 : Nat) : Int) := obq3 ⟨F, h⟩
set_option maxHeartbeats 3200000 in
set_option maxRecDepth 100000 in
theorem freeVars_any (f : ByteArray) (hs : f.size ≤ 1048576) (w : World) : Calls Tryz.prog 121 #[.string f] w fun e w' => ∃ o : ByteArray, o.size ≤ 4 ∧ e = .returned (.string o) ∧ w = w' := by
  have HS := Lib.hid hs
  cases hb : fmB f with
  | false =>
    have HB := Lib.hid hb
    clear hb hs
    go_enter Tryz.func121, Tryz.ntmps121
    go_wp2_with fail
    refine (FormulaValid_any f _ HS.out).mono ?_
    rintro e w1 ⟨he, rfl⟩
    rw [HB.out] at he
    subst he
    go_wp2
    go_ret
    exact ⟨⟨#[]⟩, by decide, rfl, rfl⟩
  | true =>
    obtain ⟨h4, a, hat⟩ := fmB_iff.1 hb
    have hfl := Fm.free_lt hat.ok
    have HB := Lib.hid hb
    have HAT := Lib.hid hat
    clear hb hat hs h4
    go_enter Tryz.func121, Tryz.ntmps121
    go_wp2_with fail
    refine (FormulaValid_any f _ HS.out).mono ?_
    rintro e w1 ⟨he, rfl⟩
    rw [HB.out] at he
    subst he
    go_wp2_with fail
    refine (l2Free_any f HS.out f.size _ 0 a f.size rfl HAT.out (by omega) _).mono ?_
    rintro e w1 ⟨rfl, rfl⟩
    obtain ⟨F, hF⟩ : ∃ F, F = a.free := ⟨_, rfl⟩
    rw [← hF] at hfl ⊢
    clear hF HAT HB
    have o0 := ob0 hfl
    have o1 := ob1 hfl
    have o2 := ob2 hfl
    have o3 := ob3 hfl
    go_wp2
    go_loop [3, 6] (fun ov v => ∃ (k : Nat) (x : ByteArray), k ≤ 4 ∧ v = .int .i64 k ∧ ov = .string x ∧ x.size ≤ k) (fun _ v => 4 - (intOf v).toNat)
    case atStart => exact ⟨0, ⟨#[]⟩, by omega, rfl, rfl, Nat.le_refl _⟩
    case round =>
      obtain ⟨k, x, hk, rfl, rfl, hx⟩ := hrel
      have HX := Lib.hid hx
      clear hx
      by_cases h4 : k < 4
      · rcases (by omega : k = 0 ∨ k = 1 ∨ k = 2 ∨ k = 3) with rfl | rfl | rfl | rfl
        · have ez : ((⟨#[97, 98, 99, 100]⟩ : ByteArray).extract 0 1).size = 1 := by decide
          have HXS : Hid ((x ++ (⟨#[97, 98, 99, 100]⟩ : ByteArray).extract 0 1).size ≤ 1) := by rw [Hid, ByteArray.size_append, ez]; have := HX.out; omega
          have hadd := add_ok (P := Tryz.prog) (x := x) (y := (⟨#[97, 98, 99, 100]⟩ : ByteArray).extract 0 1) (by have := HX.out; omega) (by rw [ez]; omega)
          clear ez
          by_cases hbit : F % 2 = 1
          · rw [hbit] at o0
            go_wp2
            go_round
            case rel => exact ⟨1, _, by omega, rfl, rfl, HXS.out⟩
            case measure => simp [intOf]
          · have hbit : F % 2 = 0 := by omega
            rw [hbit] at o0
            go_wp2
            go_round
            case rel => exact ⟨1, _, by omega, rfl, rfl, Nat.le_trans HX.out (by omega)⟩
            case measure => simp [intOf]
        · have ez : ((⟨#[97, 98, 99, 100]⟩ : ByteArray).extract 1 2).size = 1 := by decide
          have HXS : Hid ((x ++ (⟨#[97, 98, 99, 100]⟩ : ByteArray).extract 1 2).size ≤ 2) := by rw [Hid, ByteArray.size_append, ez]; have := HX.out; omega
          have hadd := add_ok (P := Tryz.prog) (x := x) (y := (⟨#[97, 98, 99, 100]⟩ : ByteArray).extract 1 2) (by have := HX.out; omega) (by rw [ez]; omega)
          clear ez
          by_cases hbit : F / 2 % 2 = 1
          · rw [hbit] at o1
            go_wp2
            go_round
            case rel => exact ⟨2, _, by omega, rfl, rfl, HXS.out⟩
            case measure => simp [intOf]
          · have hbit : F / 2 % 2 = 0 := by omega
            rw [hbit] at o1
            go_wp2
            go_round
            case rel => exact ⟨2, _, by omega, rfl, rfl, Nat.le_trans HX.out (by omega)⟩
            case measure => simp [intOf]
        · have ez : ((⟨#[97, 98, 99, 100]⟩ : ByteArray).extract 2 3).size = 1 := by decide
          have HXS : Hid ((x ++ (⟨#[97, 98, 99, 100]⟩ : ByteArray).extract 2 3).size ≤ 3) := by rw [Hid, ByteArray.size_append, ez]; have := HX.out; omega
          have hadd := add_ok (P := Tryz.prog) (x := x) (y := (⟨#[97, 98, 99, 100]⟩ : ByteArray).extract 2 3) (by have := HX.out; omega) (by rw [ez]; omega)
          clear ez
          by_cases hbit : F / 4 % 2 = 1
          · rw [hbit] at o2
            go_wp2
            go_round
            case rel => exact ⟨3, _, by omega, rfl, rfl, HXS.out⟩
            case measure => simp [intOf]
          · have hbit : F / 4 % 2 = 0 := by omega
            rw [hbit] at o2
            go_wp2
            go_round
            case rel => exact ⟨3, _, by omega, rfl, rfl, Nat.le_trans HX.out (by omega)⟩
            case measure => simp [intOf]
        · have ez : ((⟨#[97, 98, 99, 100]⟩ : ByteArray).extract 3 4).size = 1 := by decide
          have HXS : Hid ((x ++ (⟨#[97, 98, 99, 100]⟩ : ByteArray).extract 3 4).size ≤ 4) := by rw [Hid, ByteArray.size_append, ez]; have := HX.out; omega
          have hadd := add_ok (P := Tryz.prog) (x := x) (y := (⟨#[97, 98, 99, 100]⟩ : ByteArray).extract 3 4) (by have := HX.out; omega) (by rw [ez]; omega)
          clear ez
          by_cases hbit : F / 8 % 2 = 1
          · rw [hbit] at o3
            go_wp2
            go_round
            case rel => exact ⟨4, _, by omega, rfl, rfl, HXS.out⟩
            case measure => simp [intOf]
          · have hbit : F / 8 % 2 = 0 := by omega
            rw [hbit] at o3
            go_wp2
            go_round
            case rel => exact ⟨4, _, by omega, rfl, rfl, Nat.le_trans HX.out (by omega)⟩
            case measure => simp [intOf]
      · obtain rfl : k = 4 := by omega
        go_wp2
        go_ret
        exact ⟨x, HX.out, rfl, rfl⟩
set_option maxHeartbeats 6400000 in
set_option maxRecDepth 100000 in
theorem l2Closed_any (R : Nat) (ao : Option Addr) (len cap : Nat) (vars : ByteArray) (hv : Sh vars) (cb : Bool) (d : Nat) (x : Int) (hx : x = (d : Nat)) (hd : d ≤ 4) (p : Nat) (w0 : World) (h : Rd w0 R ao len cap p) (hp : p + 200 ≤ 80000000) :
    Calls Tryz.prog 97 #[.pointer (some ⟨R, 0, none⟩), .int .i64 x, .string vars, .bool cb] w0 (DrawnF w0 R ao len cap (p + 200) 200) := by
  have hP := Pz_le hd
  have hS := Sz_le hd
  have HC : Hid (Calls Tryz.prog 120 #[.pointer (some ⟨R, 0, none⟩), .int .i64 x, .string vars, .bool cb] w0 (DrawnF w0 R ao len cap (p + Pz d) (Sz d))) := l2Draw_any R ao len cap vars hv cb d x hx hd p w0 h (by omega)
  clear hv hx h
  go_enter Tryz.func97, Tryz.ntmps97
  go_wp2_with fail
  refine (HC.out).mono ?_
  rintro e w1 ⟨f, p1, rfl, hf, hr, hp1, hg⟩
  have HF : Hid (1 ≤ f.size ∧ f.size ≤ 124) := ⟨hf.1, by omega⟩
  have HP1 := Lib.hid (show _ ∧ _ from ⟨hr, hg⟩)
  have hp1 : p1 ≤ p + 186 := by omega
  clear hr hg hf HC hP hS
  go_wp2_with fail
  refine (freeVars_any f (by have := HF.out; omega) _).mono ?_
  rintro e w2 ⟨fr, hfr, rfl, rfl⟩
  go_wp2
  go_loopw [9, 11] (fun fv iv wr => ∃ (i : Nat) (g : ByteArray) (q : Nat), i ≤ fr.size ∧ iv = .int .i64 i ∧ fv = .string g ∧ Hid (1 ≤ g.size ∧ g.size ≤ 124 + 5 * i) ∧ q ≤ p + 186 + i ∧ Hid (Rd wr R ao len cap q ∧ w0.grownBy wr (some R))) (fun _ iv _ => fr.size - (intOf iv).toNat)
  case atStart => exact ⟨0, f, p1, Nat.zero_le _, rfl, rfl, HF.out, hp1, HP1.out⟩
  case round =>
    clear HF HP1 hp1
    obtain ⟨i, g, q, hi, rfl, rfl, HG, hq, HW⟩ := hrel
    by_cases hlt : i < fr.size
    · have ev : (fr.extract i (i + 1)).size = 1 := ext1 hlt
      have hne : Nonempty (Wd (fun _ : World => True)) := ⟨⟨wr, trivial⟩⟩
      have t1 : (i : Int) < (fr.size : Int) := by omega
      have HEV := Lib.hid ev
      clear ev
      go_wp2_with fail
      refine chain (S := (fun _ : World => True)) [([true, false, false, true, true, true, true, true, false, true], 1), ([], 2)] [false, false, false, false, false, false, false, false, true, false, true, true] (by kernel_rfl) (by kernel_rfl) (by kernel_rfl) trivial ?_
      simp only [wpSegs, pickB, List.dropLast_cons_cons, List.dropLast_singleton, List.getLast?_cons_cons, List.getLast?_singleton, List.toList_toArray, List.getElem?_toArray, List.getElem?_cons_succ, List.getElem?_cons_zero, Option.toList_some]
      repeat (go_big_quiet_step (fail))
      refine wpQuiet_nil ?_
      intro K hK
      go_wp2_with fail
      refine hK _ _ trivial ?_
      clear hK K
      repeat (go_big_quiet_step (fail))
      refine wpQuiet_nil ?_
      intro K hK
      go_wp2_with fail
      refine (ofS_lit R ao len cap q 2 wr.heap.size #[.string ⟨#[65]⟩, .string ⟨#[83]⟩] wr.drew HW.out.1.drew (by omega) (by omega) (by omega) (sh_all [⟨#[65]⟩, ⟨#[83]⟩] (by decide)) rfl 9).mono ?_
      rintro e w3 ⟨y, hy, rfl, hr, hg⟩
      have HY : Hid (1 ≤ y.size ∧ y.size ≤ 4) := hy
      have HW3 : Hid (Rd w3 R ao len cap (q + 1) ∧ w0.grownBy w3 (some R)) := ⟨hr, grown_trans (grown_drew HW.out.2) hg⟩
      clear hy hr hg
      have hadd := add_ok (P := Tryz.prog) (x := y) (y := fr.extract i (i + 1)) (by have := HY.out; omega) (by have := HEV.out; omega)
      have hadd2 := add_ok (P := Tryz.prog) (x := y ++ fr.extract i (i + 1)) (y := g) (by rw [ByteArray.size_append]; have := HY.out; have := HEV.out; omega) (by have := HG.out; omega)
      go_wp2_with fail
      refine hK _ _ trivial ?_
      clear hK K
      repeat (go_big_quiet_step (fail))
      refine wpQuiet_nil ?_
      have HG2 : Hid (1 ≤ (y ++ fr.extract i (i + 1) ++ g).size ∧ (y ++ fr.extract i (i + 1) ++ g).size ≤ 124 + 5 * (i + 1)) := by rw [Hid, ByteArray.size_append, ByteArray.size_append]; have := HY.out; have := HEV.out; have := HG.out; omega
      go_wp2
      go_roundw
      case rel => exact ⟨i + 1, _, q + 1, by omega, by go_num, rfl, HG2, by omega, HW3⟩
      case measure => simp [intOf]; omega
    · obtain rfl : i = fr.size := by omega
      have t1 : ¬ (fr.size : Int) < (fr.size : Int) := by omega
      go_wp2
      go_ret
      exact ⟨g, q, rfl, ⟨HG.out.1, by have := HG.out; omega⟩, HW.out.1, by omega, HW.out.2⟩
/-- what the spoiling of a text leaves -/
def DrawnG (w : World) (R : Nat) (ao : Option Addr) (len cap P : Nat) (e : Ending) (w' : World) : Prop :=
  ∃ (x : ByteArray) (p : Nat), e = .returned (.string x) ∧ x.size ≤ 1000 ∧ Rd w' R ao len cap p ∧ p ≤ P ∧ w.grownBy w' (some R)
set_option maxHeartbeats 6400000 in
set_option maxRecDepth 100000 in
theorem l2Bad_any (R : Nat) (ao : Option Addr) (len cap : Nat) (f : ByteArray) (hf1 : 1 ≤ f.size) (hf2 : f.size ≤ 200) (p : Nat) (w0 : World) (h : Rd w0 R ao len cap p) (hp : p + 3 ≤ 80000000) :
    Calls Tryz.prog 96 #[.pointer (some ⟨R, 0, none⟩), .string f] w0 (DrawnG w0 R ao len cap (p + 3)) := by
  have H := Lib.hid h
  clear h
  go_enter Tryz.func96, Tryz.ntmps96
  go_wp2_with fail
  refine (pick_any R ao len cap p 30 _ H.out (by omega) (by omega) (by omega)).mono ?_
  rintro e w1 ⟨v, hv, rfl, hr, hg⟩
  have HP1 := Lib.hid (show _ ∧ _ from ⟨hr, hg⟩)
  clear hr hg H
  have hvc : v = 0 ∨ v = 1 ∨ v = 2 ∨ 2 < v := by omega
  rcases hvc with rfl | rfl | rfl | h3
  · go_wp2_with fail
    refine (ofS_lit R ao len cap (p + 1) 3 w1.heap.size #[.string ⟨#[116]⟩, .string ⟨#[97]⟩, .string ⟨#[32]⟩] w1 HP1.out.1 (by omega) (by omega) (by omega) (sh_all [⟨#[116]⟩, ⟨#[97]⟩, ⟨#[32]⟩] (by decide)) rfl 9).mono ?_
    rintro e w2 ⟨y, hy, rfl, hr, hg⟩
    have HY : Hid (1 ≤ y.size ∧ y.size ≤ 4) := hy
    have HP2 := Lib.hid (show _ ∧ _ from ⟨hr, grown_trans HP1.out.2 hg⟩)
    clear hy hr hg
    have hadd := add_ok (P := Tryz.prog) (x := f) (y := y) (by omega) (by have := HY.out; omega)
    go_wp2
    go_ret
    exact ⟨_, _, rfl, by rw [ByteArray.size_append]; have := HY.out; omega, HP2.out.1, by omega, HP2.out.2⟩
  · have e1 : (f.extract 0 (f.size - 1)).size ≤ 1000 := by rw [ByteArray.size_extract]; omega
    have HE := Lib.hid e1
    clear e1
    go_wp2
    go_ret
    exact ⟨_, _, rfl, HE.out, HP1.out.1, by omega, HP1.out.2⟩
  · go_wp2_with fail
    refine (pick_any R ao len cap (p + 1) f.size _ HP1.out.1 (by omega) (by omega) (by omega)).mono ?_
    rintro e w2 ⟨k, hk, rfl, hr, hg⟩
    have HP2 := Lib.hid (show _ ∧ _ from ⟨hr, grown_trans HP1.out.2 hg⟩)
    clear hr hg HP1
    have e1 : Hid ((f.extract 0 k).size ≤ 200) := by rw [Hid, ByteArray.size_extract]; omega
    have e2 : Hid ((f.extract (k + 1) f.size).size ≤ 200) := by rw [Hid, ByteArray.size_extract]; omega
    have hne : Nonempty (Wd (fun _ : World => True)) := ⟨⟨w2, trivial⟩⟩
    go_wp2_with fail
    refine chain (S := (fun _ : World => True)) [([true, true, true, true, false, false, false, true, true, true, true], 4), ([], 5)] [false, false, false, false, false, false, true, false, false, false, false, true, true] (by kernel_rfl) (by kernel_rfl) (by kernel_rfl) trivial ?_
    simp only [wpSegs, pickB, List.dropLast_cons_cons, List.dropLast_singleton, List.getLast?_cons_cons, List.getLast?_singleton, List.toList_toArray, List.getElem?_toArray, List.getElem?_cons_succ, List.getElem?_cons_zero, Option.toList_some]
    repeat (go_big_quiet_step (fail))
    refine wpQuiet_nil ?_
    intro K hK
    go_wp2_with fail
    refine hK _ _ trivial ?_
    clear hK K
    repeat (go_big_quiet_step (fail))
    refine wpQuiet_nil ?_
    intro K hK
    go_wp2_with fail
    refine (ofS_lit R ao len cap (p + 1 + 1) 4 w2.heap.size #[.string ⟨#[101]⟩, .string ⟨#[65]⟩, .string ⟨#[80]⟩, .string ⟨#[53]⟩] w2.drew HP2.out.1.drew (by omega) (by omega) (by omega) (sh_all [⟨#[101]⟩, ⟨#[65]⟩, ⟨#[80]⟩, ⟨#[53]⟩] (by decide)) rfl 9).mono ?_
    rintro e w3 ⟨y, hy, rfl, hr, hg⟩
    have HY : Hid (1 ≤ y.size ∧ y.size ≤ 4) := hy
    have HP3 : Hid (Rd w3 R ao len cap (p + 1 + 1 + 1) ∧ w0.grownBy w3 (some R)) := ⟨hr, grown_trans (grown_drew HP2.out.2) hg⟩
    clear hy hr hg
    have hadd := add_ok (P := Tryz.prog) (x := f.extract 0 k) (y := y) (by have := e1.out; omega) (by have := HY.out; omega)
    have hadd2 := add_ok (P := Tryz.prog) (x := f.extract 0 k ++ y) (y := f.extract (k + 1) f.size) (by rw [ByteArray.size_append]; have := HY.out; have := e1.out; omega) (by have := e2.out; omega)
    go_wp2_with fail
    refine hK _ _ trivial ?_
    clear hK K
    repeat (go_big_quiet_step (fail))
    refine wpQuiet_nil ?_
    have HRS : Hid ((f.extract 0 k ++ y ++ f.extract (k + 1) f.size).size ≤ 1000) := by rw [Hid, ByteArray.size_append, ByteArray.size_append]; have := HY.out; have := e1.out; have := e2.out; omega
    go_wp2
    go_ret
    exact ⟨_, _, rfl, HRS.out, HP3.out.1, by omega, HP3.out.2⟩
  · have j0 : ((v : Int) == 0) = false := by simp; omega
    have j1 : ((v : Int) == 1) = false := by simp; omega
    have j2 : ((v : Int) == 2) = false := by simp; omega
    go_wp2
    go_ret
    exact ⟨_, _, rfl, by omega, HP1.out.1, by omega, HP1.out.2⟩
end Go.Proofs.YtpcnoiigbmiejaaGreatDoor.drf

/- The drawing of sentences: l6Sentences, DrawTheoryOf. -/
namespace Go.Proofs.YtpcnoiigbmiejaaGreatDoor.drf
set_option linter.unusedVariables false
set_option linter.unusedSimpArgs false
open Go.ChangeShapes Go.WideShapes Go.ChangeAt Go.RowKit
open Go.Proofs.YtpcnoiigbmiejaaGreatDoor.lib Go.Proofs.YtpcnoiigbmiejaaGreatDoor.st Go.Proofs.YtpcnoiigbmiejaaGreatDoor.flow Go.Proofs.YtpcnoiigbmiejaaGreatDoor.chain Go.Proofs.YtpcnoiigbmiejaaGreatDoor.draw Go.Proofs.YtpcnoiigbmiejaaGreatDoor.fm Go.Proofs.YtpcnoiigbmiejaaGreatDoor.fmp Go.Proofs.YtpcnoiigbmiejaaGreatDoor.fmq Go.Proofs.YtpcnoiigbmiejaaGreatDoor.fme Go.Proofs.YtpcnoiigbmiejaaGreatDoor.fmf Go.Proofs.YtpcnoiigbmiejaaGreatDoor.fmt

/-- a slice of texts of the call's own -/
def OwnT (w : World) (B : Nat) (v : Value) (L : List ByteArray) : Prop := w.ownsRow B 9 1 v L.length (L.map Value.string)
theorem infoStr : (Tryz.prog.info? 9).map (fun i => (i.zero, i.size, i.bytes)) = some (some (.string ⟨#[]⟩), 1, 16) := by kernel_rfl
theorem OwnT.rv {w : World} {B : Nat} {v : Value} {L : List ByteArray} (h : OwnT w B v L) : RV w v (L.map Value.string) := by
  have h0 := h
  rcases h.2 with ⟨rfl, hn⟩ | ⟨g, cap, cur, rfl, _⟩
  · have hL : L = [] := List.length_eq_zero_iff.1 hn
    subst hL
    exact ⟨none, 0, rfl, .inl rfl⟩
  · refine ⟨_, _, by rw [List.length_map], .inr ⟨g, 0, rfl, fun i hi => ?_⟩⟩
    have := h0.cellAt i (by simpa using hi)
    rw [Nat.zero_add, this, List.getElem?_eq_getElem hi]
theorem OwnT.kept {w w' : World} {B R : Nat} {v : Value} {L : List ByteArray} (h : OwnT w B v L) (hg : w.grownBy w' (some R)) (hR : R < B) : OwnT w' B v L := by
  refine World.ownsRow.kept h hg ?_
  cases hv : v.ownBlock with
  | none => exact .inl rfl
  | some k => exact .inr (fun e => by have := (World.ownsRow.lt h k hv).1; injection e with e; omega)
/-- what l6Sentences leaves -/
def DrawnL (w : World) (R : Nat) (ao : Option Addr) (len cap P : Nat) (e : Ending) (w' : World) : Prop :=
  ∃ (v : Value) (L : List ByteArray) (p : Nat), e = .returned v ∧ OwnT w' w.heap.size v L ∧ (L.length ≤ 4 ∧ ∀ f, f ∈ L → f.size ≤ 1000) ∧ Rd w' R ao len cap p ∧ p ≤ P ∧ w.grownBy w' (some R)
set_option maxHeartbeats 6400000 in
set_option maxRecDepth 100000 in
theorem l6Sentences_any (R : Nat) (ao : Option Addr) (len cap : Nat) (p : Nat) (w0 : World) (h : Rd w0 R ao len cap p) (hp : p ≤ 1000000) :
    Calls Tryz.prog 51 #[.pointer (some ⟨R, 0, none⟩)] w0 (DrawnL w0 R ao len cap (p + 2000)) := by
  have hRl := h.lt
  have HP0 : Hid (OwnT (w0.alloc (.cells #[] 9)) w0.heap.size (.slice (some ⟨w0.heap.size, 0, none⟩) 0 0) [] ∧ Rd (w0.alloc (.cells #[] 9)) R ao len cap p ∧ w0.grownBy (w0.alloc (.cells #[] 9)) (some R)) :=
    ⟨World.ownsRow_made w0 #[] 0 (Nat.le_refl _) (Nat.zero_le _) rfl, h.alloc _, World.grownBy_alloc _ _ _⟩
  clear h
  go_enter Tryz.func51, Tryz.ntmps51
  go_wp2_with fail
  refine (pick_any R ao len cap p 5 _ HP0.out.2.1 (by omega) (by omega) (by omega)).mono ?_
  rintro e w1 ⟨n, hn, rfl, hr, hg⟩
  have HP1 : Hid (OwnT w1 w0.heap.size (.slice (some ⟨w0.heap.size, 0, none⟩) 0 0) [] ∧ Rd w1 R ao len cap (p + 1) ∧ w0.grownBy w1 (some R)) := ⟨HP0.out.1.kept hg hRl, hr, grown_trans HP0.out.2.2 hg⟩
  clear hr hg HP0
  go_wp2
  go_loopw [3, 4] (fun v nv wr => ∃ (u : Value) (k i : Nat) (L : List ByteArray) (q : Nat), u = v ∧ k + i = n ∧ nv = .int .i64 k ∧ (L.length = i ∧ ∀ f, f ∈ L → f.size ≤ 1000) ∧ q ≤ p + 1 + 300 * i ∧ Hid (OwnT wr w0.heap.size u L ∧ Rd wr R ao len cap q ∧ w0.grownBy wr (some R))) (fun _ nv _ => (intOf nv).toNat)
  case atStart => exact ⟨_, n, 0, [], p + 1, rfl, rfl, rfl, ⟨rfl, fun f hf => by cases hf⟩, by omega, HP1.out⟩
  case round =>
    clear HP1
    obtain ⟨v, k, i, L, q, rfl, hki, rfl, hL, hq, HW⟩ := hrel
    have HL := Lib.hid hL
    clear hL
    by_cases h0 : 0 < k
    · have t1 : (0 : Int) < (k : Int) := by omega
      go_wp2_with fail
      refine (pick_any R ao len cap q 3 _ HW.out.2.1 (by omega) (by omega) (by omega)).mono ?_
      rintro e w2 ⟨d, hd, rfl, hr, hg⟩
      have HP2 : Hid (OwnT w2 w0.heap.size v L ∧ Rd w2 R ao len cap (q + 1) ∧ w0.grownBy w2 (some R)) := ⟨HW.out.1.kept hg hRl, hr, grown_trans HW.out.2.2 hg⟩
      clear hr hg HW
      go_wp2_with fail
      refine (ofS_lit R ao len cap (q + 1) 2 w2.heap.size #[.string ⟨#[97, 98]⟩, .string ⟨#[97, 98, 99]⟩] w2 HP2.out.2.1 (by omega) (by omega) (by omega) (sh_all [⟨#[97, 98]⟩, ⟨#[97, 98, 99]⟩] (by decide)) rfl 9).mono ?_
      rintro e w3 ⟨vars, hvars, rfl, hr, hg⟩
      have HP3 : Hid (OwnT w3 w0.heap.size v L ∧ Rd w3 R ao len cap (q + 2) ∧ w0.grownBy w3 (some R)) := ⟨HP2.out.1.kept hg hRl, hr, grown_trans HP2.out.2.2 hg⟩
      have HV := Lib.hid hvars
      clear hr hg HP2 hvars
      go_wp2_with fail
      refine (pick_any R ao len cap (q + 2) 3 _ HP3.out.2.1 (by omega) (by omega) (by omega)).mono ?_
      rintro e w4 ⟨c, hc, rfl, hr, hg⟩
      have HP4 : Hid (OwnT w4 w0.heap.size v L ∧ Rd w4 R ao len cap (q + 3) ∧ w0.grownBy w4 (some R)) := ⟨HP3.out.1.kept hg hRl, hr, grown_trans HP3.out.2.2 hg⟩
      clear hr hg HP3
      obtain ⟨cb, hcb⟩ : ∃ cb, cb = ((c : Int) == 0) := ⟨_, rfl⟩
      have hcb2 : ((c : Int) == 0) = cb := hcb.symm
      clear hcb
      go_wp2_with fail
      refine (l2Closed_any R ao len cap vars HV.out _ (1 + d) _ (by first | (simp; done) | omega | (push_cast; rfl)) (by omega) (q + 3) _ HP4.out.2.1 (by omega)).mono ?_
      rintro e w5 ⟨f, p5, rfl, hf, hr, hp5, hg⟩
      have HP5 : Hid (OwnT w5 w0.heap.size v L ∧ Rd w5 R ao len cap p5 ∧ w0.grownBy w5 (some R)) := ⟨HP4.out.1.kept hg hRl, hr, grown_trans HP4.out.2.2 hg⟩
      clear hr hg HP4 hcb2
      go_wp2_with fail
      refine (l2Bad_any R ao len cap f hf.1 hf.2 p5 _ HP5.out.2.1 (by omega)).mono ?_
      rintro e w6 ⟨g, p6, rfl, hgs, hr, hp6, hg⟩
      have HP6 : Hid (OwnT w6 w0.heap.size v L ∧ Rd w6 R ao len cap p6 ∧ w0.grownBy w6 (some R)) := ⟨HP5.out.1.kept hg hRl, hr, grown_trans HP5.out.2.2 hg⟩
      have HGS := Lib.hid hgs
      clear hr hg HP5 hgs hf
      have hsz : w0.heap.size ≤ w6.heap.size := HP6.out.2.2.size
      go_wp2_with (at_builtin; refine wpList_app1 w6 rfl (.tmp 12) (.tmp 26) 39 rfl w0.heap.size 9 (.string ⟨#[]⟩) 16 Tryz.underlying39 infoStr rfl (by decide) _ _ _ (.string g) rfl HP6.out.1 w6.heap.size rfl rfl rfl (by have := HL.out.1; omega) hsz ?_)
      intro g' cap' w9 hown9 hgr
      have hb9 : Below w0.heap.size w6 w9 := hgr.below HP6.out.1 hsz
      have HR : Hid (OwnT w9 w0.heap.size (.slice (some ⟨g', 0, none⟩) (L.length + 1) cap') (L ++ [g]) ∧ Rd w9 R ao len cap p6 ∧ w0.grownBy w9 (some R)) := by
        refine ⟨?_, HP6.out.2.1.below hb9 hRl, ⟨hb9.os.trans HP6.out.2.2.os, hb9.tape.trans HP6.out.2.2.tape, hb9.output.trans HP6.out.2.2.output, Nat.le_trans HP6.out.2.2.size hb9.size, fun b hb hne => (hb9.block b hb).trans (HP6.out.2.2.block b hb hne)⟩⟩
        unfold OwnT; rw [List.length_append, List.map_append]; exact hown9
      have HL2 : Hid ((L ++ [g]).length = i + 1 ∧ ∀ f, f ∈ L ++ [g] → f.size ≤ 1000) := ⟨by rw [List.length_append, HL.out.1]; rfl, fun f hf => by
        rcases List.mem_append.1 hf with h | h
        · exact HL.out.2 f h
        · rw [List.mem_singleton.1 h]; exact HGS.out⟩
      clear hown9 hgr hb9 HP6 hsz
      go_wp2
      go_roundw
      case rel => exact ⟨_, k - 1, i + 1, L ++ [g], p6, rfl, by omega, by congr 1; omega, HL2.out, by omega, HR⟩
      case measure => simp [intOf]; omega
    · obtain rfl : k = 0 := by omega
      go_wp2
      go_ret
      exact ⟨v, L, q, rfl, HW.out.1, ⟨by have := HL.out.1; omega, HL.out.2⟩, HW.out.2.1, by omega, HW.out.2.2⟩
/-- what DrawTheoryOf leaves -/
def DrawnT (w : World) (e : Ending) (w' : World) : Prop :=
  ∃ (n : Int) (s r : ByteArray) (v : Value) (L : List ByteArray), e = .returned (.tuple #[.agg #[.int .i64 n, .string s, .string r], v]) ∧ RV w' v (L.map Value.string) ∧ (L.length ≤ 4 ∧ ∀ f, f ∈ L → f.size ≤ 1000) ∧ Below w.heap.size w w'
set_option maxHeartbeats 3200000 in
set_option maxRecDepth 100000 in
theorem drawTheory_any (ao : Option Addr) (len cap : Nat) (w : World) (h : Byt w w.heap.size ao len) (hc : len ≤ cap) (hm : cap ≤ 9223372036854775807) :
    Calls Tryz.prog 20 #[.slice ao len cap] w (DrawnT w) := by
  have B0 : Hid (Box 24 (w.alloc (.cells #[.int .i64 0, .string ⟨#[]⟩, .string ⟨#[]⟩] 24)) w.heap.size 0 ⟨#[]⟩ ⟨#[]⟩) := Box.new _ w _ rfl _ _ _
  have HBY := Lib.hid (Byt.up h (w' := w.alloc (.cells #[.int .i64 0, .string ⟨#[]⟩, .string ⟨#[]⟩] 24)) (R' := (w.alloc (.cells #[.int .i64 0, .string ⟨#[]⟩, .string ⟨#[]⟩] 24)).heap.size) (by simp) (fun k hk => heap_alloc_old w _ hk))
  clear h
  go_enter Tryz.func20, Tryz.ntmps20
  go_wp2_with fail
  refine (open_any ao len cap _ HBY.out hc hm).mono ?_
  rintro e w1 ⟨R, ao1, len1, cap1, rfl, hrd, hR, hb⟩
  simp only [World.size_alloc] at hR
  have HP1 := Lib.hid (show _ ∧ _ from ⟨hrd, ((Below.refl w.heap.size w).alloc (Nat.le_refl _) _).trans (hb.mono (by simp))⟩)
  have BX1 := Lib.hid (B0.out.below hb (by simp))
  clear hrd hb
  go_wp2_with fail
  refine (l1Open_any R ao1 len1 cap1 0 _ HP1.out.1 (by omega)).mono ?_
  rintro e w2 ⟨n, s, r, p2, rfl, hnw, hs, hr, hrd, hp2, hg⟩
  have hRA : R < w2.heap.size := hrd.lt
  have hwA : w.heap.size < R := by omega
  have HP2 := Lib.hid (show _ ∧ _ ∧ _ from ⟨hrd, HP1.out.2.grown hg HP1.out.2.size (fun k hk => by cases hk; omega), Box.kept (row := some R) BX1.out hg (by simp; omega)⟩)
  have hpp : p2 ≤ 203 := by omega
  clear hrd hg hp2
  obtain ⟨HA, hHA⟩ : ∃ HA, HA = w2.heap.size := ⟨_, rfl⟩
  have BXA : Hid (Box 24 (w2.alloc (.cells #[.int .i64 n, .string s, .string r] 24)) HA n s r) := by rw [hHA]; exact Box.new _ _ _ rfl _ _ _
  obtain ⟨w3, hw3⟩ : ∃ q, q = w2.alloc (.cells #[.int .i64 n, .string s, .string r] 24) := ⟨_, rfl⟩
  rw [← hHA] at hRA
  have HP3 : Hid (Rd w3 R ao1 len1 cap1 p2 ∧ Below w.heap.size w w3 ∧ Box 24 w3 w.heap.size 0 ⟨#[]⟩ ⟨#[]⟩ ∧ Box 24 w3 HA n s r) := by
    rw [hw3]
    exact ⟨HP2.out.1.alloc _, HP2.out.2.1.alloc (by have := HP2.out.2.1.size; omega) _, HP2.out.2.2.below ((Below.refl HA _).alloc (by omega) _) (by omega), BXA.out⟩
  go_wp2_with fail
  rw [← hw3, ← hHA]
  clear hw3 hHA BXA
  have c0 : ∀ X : Wd (fun X : World => X.cell? ⟨HA, 0, none⟩ = some (.int .i64 n) ∧ X.cell? ⟨HA, 1, none⟩ = some (.string s) ∧ X.cell? ⟨HA, 2, none⟩ = some (.string r)), X.w.cell? ⟨HA, 0, none⟩ = some (.int .i64 n) := fun X => X.ok.1
  have c1 : ∀ X : Wd (fun X : World => X.cell? ⟨HA, 0, none⟩ = some (.int .i64 n) ∧ X.cell? ⟨HA, 1, none⟩ = some (.string s) ∧ X.cell? ⟨HA, 2, none⟩ = some (.string r)), X.w.cell? ⟨HA, 1, none⟩ = some (.string s) := fun X => X.ok.2.1
  have c2 : ∀ X : Wd (fun X : World => X.cell? ⟨HA, 0, none⟩ = some (.int .i64 n) ∧ X.cell? ⟨HA, 1, none⟩ = some (.string s) ∧ X.cell? ⟨HA, 2, none⟩ = some (.string r)), X.w.cell? ⟨HA, 2, none⟩ = some (.string r) := fun X => X.ok.2.2
  have hne : Nonempty (Wd (fun X : World => X.cell? ⟨HA, 0, none⟩ = some (.int .i64 n) ∧ X.cell? ⟨HA, 1, none⟩ = some (.string s) ∧ X.cell? ⟨HA, 2, none⟩ = some (.string r))) := ⟨⟨w3, HP3.out.2.2.2.c⟩⟩
  have HD : Hid (Rd w3.drew R ao1 len1 cap1 p2 ∧ Below w.heap.size w w3.drew ∧ Box 24 w3.drew w.heap.size 0 ⟨#[]⟩ ⟨#[]⟩ ∧ Box 24 w3.drew HA n s r) := ⟨HP3.out.1.drew, HP3.out.2.1.drew, Box.drew HP3.out.2.2.1, Box.drew HP3.out.2.2.2⟩
  refine chain (S := (fun X : World => X.cell? ⟨HA, 0, none⟩ = some (.int .i64 n) ∧ X.cell? ⟨HA, 1, none⟩ = some (.string s) ∧ X.cell? ⟨HA, 2, none⟩ = some (.string r))) [([true, true], 2), ([], 3)] [false, false, false, false, true] (by kernel_rfl) (by kernel_rfl) (by kernel_rfl) HP3.out.2.2.2.c ?_
  simp only [wpSegs, pickB, List.dropLast_cons_cons, List.dropLast_singleton, List.getLast?_cons_cons, List.getLast?_singleton, List.toList_toArray, List.getElem?_toArray, List.getElem?_cons_succ, List.getElem?_cons_zero, Option.toList_some]
  repeat (go_big_quiet_step (fail))
  refine wpQuiet_nil ?_
  intro K hK
  go_wp2_with fail
  refine (l6Sentences_any R ao1 len1 cap1 p2 _ HD.out.1 (by omega)).mono ?_
  rintro e w4 ⟨v, L, p4, rfl, hown, hL, hrn, hp4, hgn⟩
  have HP4 := Lib.hid (show _ ∧ _ ∧ _ ∧ _ ∧ _ from ⟨hrn, HD.out.2.1.grown hgn HD.out.2.1.size (fun k hk => by cases hk; omega), Box.kept (row := some R) HD.out.2.2.1 hgn (by simp; omega), Box.kept (row := some R) HD.out.2.2.2 hgn (by simp; omega), hown⟩)
  have HLL := Lib.hid hL
  have hw3s : w.heap.size < w3.drew.heap.size := HD.out.2.2.1.lt
  have hwA2 : w.heap.size < HA := by omega
  clear hrn hgn hown hL HD
  obtain ⟨z0, z1, z2⟩ := Box.c HP4.out.2.2.1
  have g0 := Box.free HP4.out.2.2.1 0
  have g1 := Box.free HP4.out.2.2.1 1
  have g2 := Box.free HP4.out.2.2.1 2
  go_wp2_with fail
  refine hK _ _ HP4.out.2.2.2.1.c ?_
  clear hK K
  repeat (go_big_quiet_step (fail))
  refine wpQuiet_nil ?_
  intro K hK
  go_wp2_with fail
  refine hK _ _ (Box.kept (row := some w.heap.size) (Box.kept (row := some w.heap.size) (Box.kept (row := some w.heap.size) HP4.out.2.2.2.1 (grown_setCell _ _ _ _) (by simp; omega)) (grown_setCell _ _ _ _) (by simp; omega)) (grown_setCell _ _ _ _) (by simp; omega)).c ?_
  clear hK K
  repeat (go_big_quiet_step (fail))
  refine wpQuiet_nil ?_
  have HF := Lib.hid (ret_struct (w := w4) n s r HP4.out.2.2.1)
  have RES : Hid (RV (((w4.setCell ⟨w.heap.size, 0, none⟩ (.int .i64 n)).setCell ⟨w.heap.size, 1, none⟩ (.string s)).setCell ⟨w.heap.size, 2, none⟩ (.string r)) v (L.map Value.string) ∧ Below w.heap.size w (((w4.setCell ⟨w.heap.size, 0, none⟩ (.int .i64 n)).setCell ⟨w.heap.size, 1, none⟩ (.string s)).setCell ⟨w.heap.size, 2, none⟩ (.string r))) :=
    ⟨(((HP4.out.2.2.2.2.kept (grown_setCell _ _ 0 _) hw3s).kept (grown_setCell _ _ 1 _) hw3s).kept (grown_setCell _ _ 2 _) hw3s).rv, Below.setCell (Below.setCell (Below.setCell HP4.out.2.1 (by simp) _) (by simp) _) (by simp) _⟩
  go_wp2
  exact bodyPost_ret (v := .tuple #[.agg #[.int .i64 n, .string s, .string r], v]) (by simp [results, Tryz.results20, go_sem, HF.out.1, HF.out.2.1, HF.out.2.2]) rfl ⟨n, s, r, v, L, rfl, RES.out.1, HLL.out, RES.out.2⟩
end Go.Proofs.YtpcnoiigbmiejaaGreatDoor.drf
