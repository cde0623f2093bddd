/- classesBy; PiecesOf in the program and in the reference. -/
import Derived.Test.YtpcnoiigbmiejaaGreatDoorNear
import Derived.Test.YtpcnoiigbmiejaaGreatDoorMake
import Derived.Test.YtpcnoiigbmiejaaGreatDoorPkF
import Derived.Test.YtpcnoiigbmiejaaGreatDoorCls
namespace Go.Proofs.YtpcnoiigbmiejaaGreatDoor.pieces
set_option linter.unusedVariables false
set_option linter.unusedSimpArgs false
open Go.ChangeShapes Go.WideShapes Go.ChangeAt Go.RowKit
open Go.Proofs.YtpcnoiigbmiejaaGreatDoor.lib Go.Proofs.YtpcnoiigbmiejaaGreatDoor.st Go.Proofs.YtpcnoiigbmiejaaGreatDoor.base Go.Proofs.YtpcnoiigbmiejaaGreatDoor.near Go.Proofs.YtpcnoiigbmiejaaGreatDoor.dist Go.Proofs.YtpcnoiigbmiejaaGreatDoor.cls

/-- the state of the outer loop -/
def Cs (p : Nat → Nat → Bool) (w : World) (HB x : Nat) (v nx : Value) (wr : World) : Prop :=
  ∃ g cap, v = .slice (some ⟨g, 0, none⟩) x cap ∧ nx = .int .i64 ((clsOf p x).2 : Int) ∧ OwnI 3 wr HB (.slice (some ⟨g, 0, none⟩) x cap) (clsOf p x).1 ∧ Below HB w wr

set_option maxHeartbeats 1600000 in
theorem classesBy_any (n : Nat) (hn : n ≤ 8) (f : FuncId) (cs : Array Value) (p : Nat → Nat → Bool) (w : World) (ef : make.Enters f)
    (hf : ∀ W, Below w.heap.size w W → ∀ y x : Nat, y < n → x < n → Calls Tryz.prog f (#[.int .i64 y, .int .i64 x] ++ cs) W fun e W' => e = .returned (.bool (p y x)) ∧ Below W.heap.size W W') :
    Calls Tryz.prog 45 #[.int .i64 n, .func (.func f) #[] cs] w fun e w' => ∃ v, e = .returned v ∧ OwnI 3 w' w.heap.size v (clsOf p n).1 ∧ Below w.heap.size w w' := by
  unfold make.Enters at ef
  have HF := Lib.hid hf
  clear hf
  have START : Hid (Cs p w w.heap.size 0 (.slice (some ⟨w.heap.size, 0, none⟩) 0 0) (.int .i64 0) (w.alloc (.cells #[] 3))) :=
    ⟨_, _, rfl, rfl, emptyRow _ _ _ _ rfl (Nat.le_refl _), (Below.refl _ _).alloc (Nat.le_refl _) _⟩
  go_enter Tryz.func45, Tryz.ntmps45
  go_wp2
  go_loopw [5, 6, 12] (fun v nx i wr => ∃ x : Nat, x ≤ n ∧ i = .int .i64 x ∧ Cs p w w.heap.size x v nx wr) (fun _ _ i _ => n - (intOf i).toNat)
  case atStart => exact ⟨0, Nat.zero_le _, rfl, START.out⟩
  case round =>
    clear START
    obtain ⟨x, hx, rfl, g, cap, rfl, rfl, hown, hb⟩ := hrel
    have HO := Lib.hid (show _ ∧ _ from ⟨hown, hb⟩)
    have HL := Lib.hid (cls_len p x)
    have hnx : (clsOf p x).2 ≤ 8 := by have := HL.out.2; omega
    obtain ⟨M, hM⟩ : ∃ M, M = (clsOf p x).2 := ⟨_, rfl⟩
    rw [← hM] at hnx ⊢
    have HM := Lib.hid hM
    clear hown hb hM
    by_cases hxn : x < n
    · go_wp2_with fail
      obtain ⟨wo, rfl⟩ : ∃ q : World, q = wr := ⟨_, rfl⟩
      go_loopw [8, 16] (fun c i wr => ∃ k : Nat, k ≤ x ∧ i = .int .i64 k ∧ c = .int .i64 (-1) ∧ Hid (∀ y, y < k → p y x = false) ∧ OwnI 3 wr w.heap.size (.slice (some ⟨g, 0, none⟩) x cap) (clsOf p x).1 ∧ Below w.heap.size w wr) (fun _ i _ => x - (intOf i).toNat)
      case atStart => exact ⟨0, Nat.zero_le _, rfl, rfl, fun y hy => (by omega), HO.out.1, HO.out.2⟩
      case round =>
        clear HO
        obtain ⟨k, hk, rfl, rfl, hno, hown, hb⟩ := hrel
        have HO := Lib.hid (show _ ∧ _ from ⟨hown, hb⟩)
        clear hown hb
        by_cases hkx : k < x
        · go_wp2_with fail
          refine (HF.out _ HO.out.2 k x (by omega) hxn).mono ?_
          rintro e w1 ⟨rfl, hb⟩
          have HO1 := Lib.hid (show _ ∧ _ from ⟨HO.out.1.below hb (Nat.le_refl _), HO.out.2.trans (hb.mono HO.out.2.size)⟩)
          clear hb
          cases hp : p k x with
          | false =>
            have HN : Hid (∀ y, y < k + 1 → p y x = false) := fun y hy => by
              by_cases e : y = k
              · subst e; exact hp
              · exact hno.out y (by omega)
            clear hp hno
            go_wp2
            go_roundw
            case rel => exact ⟨k + 1, by omega, by go_num, rfl, HN, HO1.out.1, HO1.out.2⟩
            case measure => simp [intOf]; omega
          | true =>
            have HS : Hid (clsOf p (x + 1) = ((clsOf p x).1 ++ [(clsOf p x).1.getD k 0], (clsOf p x).2)) := cls_succ_some (firstBy_hit hno.out hp x hkx)
            have hbd := cls_bounds p x k hkx
            have hck := HO1.out.1.cell k (by have := HL.out.1; omega)
            obtain ⟨c, hc⟩ : ∃ c, c = (clsOf p x).1.getD k 0 := ⟨_, rfl⟩
            rw [← hc] at hck hbd
            have HC := Lib.hid hc
            have hc0 : 0 ≤ c := hbd.1
            have hsz : w.heap.size ≤ w1.heap.size := HO1.out.2.size
            clear hp hno hc hbd
            go_wp2_with (at_builtin; refine wpList_app1 w1 rfl (.tmp 33) (.tmp 35) 29 rfl w.heap.size 3 (.int .i64 0) 8 Tryz.underlying29 infoInt rfl (by decide) _ _ _ (.int .i64 c) rfl HO1.out.1 w1.heap.size rfl rfl rfl (by have := HL.out.1; omega) hsz ?_)
            intro g' cap' w9 hown9 hgr
            have R : Hid (Cs p w w.heap.size (x + 1) (.slice (some ⟨g', 0, none⟩) (x + 1) cap') (.int .i64 M) w9) := by
              have hl := HL.out.1
              refine ⟨g', cap', rfl, by rw [HS.out, HM.out], ?_, HO1.out.2.trans (hgr.below HO1.out.1 hsz)⟩
              rw [HS.out, ← HC.out]
              rw [hl] at hown9
              unfold OwnI
              rw [List.length_append, ivs_append, hl]
              exact hown9
            rw [HL.out.1]
            clear hown9 hgr hsz
            go_wp2
            go_roundw
            case rel => exact ⟨x + 1, by omega, by go_num, R.out⟩
            case measure => simp [intOf]; omega
        · obtain rfl : x = k := by omega
          have HS : Hid (clsOf p (x + 1) = ((clsOf p x).1 ++ [((clsOf p x).2 : Int)], (clsOf p x).2 + 1)) := cls_succ_none (firstBy_at hno.out)
          have hsz : w.heap.size ≤ wr.heap.size := HO.out.2.size
          clear hno
          go_wp2_with (at_builtin; refine wpList_app1 wr rfl (.tmp 33) (.tmp 35) 29 rfl w.heap.size 3 (.int .i64 0) 8 Tryz.underlying29 infoInt rfl (by decide) _ _ _ (.int .i64 M) rfl HO.out.1 wr.heap.size rfl rfl rfl (by have := HL.out.1; omega) hsz ?_)
          intro g' cap' w9 hown9 hgr
          have R : Hid (Cs p w w.heap.size (x + 1) (.slice (some ⟨g', 0, none⟩) (x + 1) cap') (.int .i64 ((M + 1 : Nat) : Int)) w9) := by
            have hl := HL.out.1
            refine ⟨g', cap', rfl, by rw [HS.out, HM.out], ?_, HO.out.2.trans (hgr.below HO.out.1 hsz)⟩
            rw [HS.out, ← HM.out]
            rw [hl] at hown9
            unfold OwnI
            rw [List.length_append, ivs_append, hl]
            exact hown9
          rw [HL.out.1]
          clear hown9 hgr hsz
          go_wp2
          go_roundw
          case rel => exact ⟨x + 1, by omega, by go_num, R.out⟩
          case measure => simp [intOf]; omega
    · obtain rfl : n = x := by omega
      go_wp2
      go_ret
      exact ⟨_, rfl, HO.out.1, HO.out.2⟩

/-- being connected -/
noncomputable def conn (n : Nat) (r : ByteArray) (y x : Nat) : Bool := decide (0 ≤ D (adj n r) n y x)
theorem adj_symm (n : Nat) (r : ByteArray) (a b : Nat) : adj n r a b = adj n r b a := by
  unfold adj
  rw [Bool.or_comm]
  congr 1
  by_cases h : a = b
  · subst h; rfl
  · have h1 : (a != b) = true := by simpa using h
    have h2 : (b != a) = true := by simpa using fun e : b = a => h e.symm
    rw [h1, h2]
theorem conn_eqv (n : Nat) (r : ByteArray) : Eqv (conn n r) n where
  refl x hx := by
    have := (D_zero (nb := adj n r) hx hx).2 rfl
    unfold conn; rw [this]; rfl
  symm x y hx hy h := by unfold conn at *; rw [D_symm (adj_symm n r) hy hx]; exact h
  trans x y z hx hy hz h1 h2 := by
    unfold conn at *
    simp only [decide_eq_true_eq] at *
    exact (D_tri hx hy hz h1 h2).1

theorem piecesCl_any (n : Nat) (s r : ByteArray) (H : Nat) (y x : Nat) (w : World) (hb : Box 24 w H n s r) (hy : y < n) (hx : x < n) (hn : n ≤ 8) (hr : r.size = n * n) :
    Calls Tryz.prog 48 #[.int .i64 y, .int .i64 x, .pointer (some ⟨H, 0, none⟩)] w fun e w' => e = .returned (.bool (conn n r y x)) ∧ Below w.heap.size w w' := by
  obtain ⟨c0, c1, c2⟩ := hb.c
  have HR := Lib.hid hr
  clear hb hr
  go_enter Tryz.func48, Tryz.ntmps48
  go_wp2_with fail
  refine (distancesFrom_any n s r y _ hy hn HR.out).mono ?_
  rintro e w1 ⟨v, out, rfl, ho, hd, hw⟩
  have hl := hd.len
  rcases ho.shape with ⟨_, h0⟩ | ⟨go, co, rfl⟩
  · rw [h0] at hl; simp at hl; omega
  have hc := ho.cell x (by omega)
  have HE : Hid (conn n r y x = decide (0 ≤ out.getD x 0)) := by unfold Hid conn D; rw [distL_eq hy hd]
  rw [hl] at ho ⊢
  have HW := Lib.hid hw
  clear ho hd hw hl
  go_wp2
  go_ret
  exact ⟨by rw [HE.out]; rfl, HW.out⟩

/-- what PiecesOf returns -/
noncomputable def piecesR (n : Int) (s r : ByteArray) : List Int := if validB n s r = true then (clsOf (conn n.toNat r) n.toNat).1 else []
theorem valid_size {n : Int} {s r : ByteArray} (h : validB n s r = true) : ∃ N : Nat, n = N ∧ 1 ≤ N ∧ N ≤ 8 ∧ s.size = N ∧ r.size = N * N := by
  obtain ⟨⟨h2, h3⟩, hs, hr, _⟩ := validB_iff.1 h
  refine ⟨n.toNat, by omega, by omega, by omega, by omega, ?_⟩
  have e : (n.toNat : Int) = n := by omega
  have : ((n.toNat * n.toNat : Nat) : Int) = n * n := by rw [Int.natCast_mul, e]
  omega
set_option maxHeartbeats 800000 in
theorem implPieces_any (n : Int) (s r : ByteArray) (w : World) (hs : s.size ≤ 9223372036854775807) (hr : r.size ≤ 9223372036854775807) :
    Calls Tryz.prog 19 #[.agg #[.int .i64 n, .string s, .string r]] w fun e w' => ∃ v, e = .returned v ∧ OwnI 3 w' w.heap.size v (piecesR n s r) ∧ Below w.heap.size w w' := by
  have BX : Hid (Box 24 (w.alloc (.cells #[.int .i64 n, .string s, .string r] 24)) w.heap.size n s r) := Box.new _ w _ rfl n s r
  have AW : Hid (Below w.heap.size w (w.alloc (.cells #[.int .i64 n, .string s, .string r] 24))) := (Below.refl _ _).alloc (Nat.le_refl _) _
  go_enter Tryz.func19, Tryz.ntmps19
  go_wp2_with fail
  refine (isStructure_any n s r _ hs hr).mono ?_
  rintro e w1 ⟨rfl, hw⟩
  have AW1 : Hid (Below w.heap.size w w1) := AW.out.trans (hw.mono (by simp))
  have BX1 := Lib.hid (BX.out.below hw (by simp))
  obtain ⟨c0, c1, c2⟩ := BX1.out.c
  clear hw
  cases hb : validB n s r with
  | false =>
    have HE : Hid (piecesR n s r = []) := by rw [Hid, piecesR, hb]; rfl
    clear hb
    go_wp2
    go_ret
    exact ⟨_, rfl, by rw [HE.out]; exact OwnI.nil _ _ _, AW1.out⟩
  | true =>
    obtain ⟨N, rfl, hN1, hN8, hsN, hrN⟩ := valid_size hb
    have HE : Hid (piecesR N s r = (clsOf (conn N r) N).1) := by rw [Hid, piecesR, hb]; rfl
    have HR := Lib.hid hrN
    clear hb hsN hrN
    go_wp2_with fail
    refine (classesBy_any N hN8 48 #[.pointer (some ⟨w.heap.size, 0, none⟩)] (conn N r) _ (make.enters_of Tryz.func48 (by kernel_rfl) rfl)
      (fun W hW y x hy hx => piecesCl_any N s r w.heap.size y x W (BX1.out.below hW BX1.out.lt) hy hx hN8 HR.out)).mono ?_
    rintro e w2 ⟨v, rfl, ho, hw⟩
    have R : Hid (OwnI 3 w2 w.heap.size v (clsOf (conn N r) N).1 ∧ Below w.heap.size w w2) := ⟨ho.mono AW1.out.size, AW1.out.trans (hw.mono AW1.out.size)⟩
    clear ho hw
    go_wp2
    go_ret
    exact ⟨_, rfl, by rw [HE.out]; exact R.out.1, R.out.2⟩

/-! the reference -/
/-- the state of the inner loop: the class found so far of those before k -/
def At (p : Nat → Nat → Bool) (x k : Nat) (at_ : Int) : Prop :=
  ((∀ y, y < k → p y x = false) ∧ at_ = ((clsOf p x).2 : Int)) ∨ ∃ y, y < k ∧ p y x = true ∧ at_ = (clsOf p x).1.getD y 0
theorem At.no {p : Nat → Nat → Bool} {x k : Nat} {c : Int} (h : At p x k c) (hp : p k x = false) : At p x (k + 1) c := by
  rcases h with ⟨h, e⟩ | ⟨y, hy, h, e⟩
  · refine .inl ⟨fun y hy => ?_, e⟩
    by_cases e : y = k
    · subst e; exact hp
    · exact h y (by omega)
  · exact .inr ⟨y, by omega, h, e⟩
theorem At.yes {p : Nat → Nat → Bool} {x k : Nat} (hp : p k x = true) : At p x (k + 1) ((clsOf p x).1.getD k 0) := .inr ⟨k, by omega, hp, rfl⟩
/-- at the end: the next round's numbers -/
theorem At.fin {p : Nat → Nat → Bool} {n x : Nat} {c : Int} (hp : Eqv p n) (hx : x < n) (h : At p x x c) :
    (c = ((clsOf p x).2 : Int) ∧ clsOf p (x + 1) = ((clsOf p x).1 ++ [c], (clsOf p x).2 + 1)) ∨ (c ≠ ((clsOf p x).2 : Int) ∧ clsOf p (x + 1) = ((clsOf p x).1 ++ [c], (clsOf p x).2)) := by
  rcases h with ⟨h, e⟩ | ⟨y, hy, h, e⟩
  · exact .inl ⟨e, by rw [e]; exact cls_succ_none (firstBy_at h)⟩
  · have hb := cls_bounds p x y hy
    refine .inr ⟨by omega, ?_⟩
    cases hf : firstBy p x x with
    | none => have := firstBy_none hf y hy; rw [h] at this; cases this
    | some z =>
      obtain ⟨hz, hzx⟩ := firstBy_some hf
      rw [cls_succ_some hf, e]
      have := (cls_iff hp x (by omega) z y hz hy).2 (hp.trans z x y (by omega) (by omega) (by omega) hzx (hp.symm y x (by omega) (by omega) h))
      rw [this]
end Go.Proofs.YtpcnoiigbmiejaaGreatDoor.pieces
