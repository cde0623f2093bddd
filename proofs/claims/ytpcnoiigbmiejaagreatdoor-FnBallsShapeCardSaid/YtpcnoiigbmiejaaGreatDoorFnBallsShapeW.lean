/- FnBallsShape: the walk. -/
import Derived.Test.YtpcnoiigbmiejaaGreatDoorPkS
import Derived.Test.YtpcnoiigbmiejaaGreatDoorPkK
import Derived.Test.YtpcnoiigbmiejaaGreatDoorPkI
import Derived.Test.YtpcnoiigbmiejaaGreatDoorRow
namespace Go.Proofs.YtpcnoiigbmiejaaGreatDoor.fnBshW
set_option linter.unusedVariables false
set_option linter.unusedSimpArgs false
open Go.ChangeShapes Go.WideShapes Go.ChangeAt Go.RowKit
open Go.Proofs.YtpcnoiigbmiejaaGreatDoor.flow Go.Proofs.YtpcnoiigbmiejaaGreatDoor.chain Go.Proofs.YtpcnoiigbmiejaaGreatDoor.chainn Go.Proofs.YtpcnoiigbmiejaaGreatDoor.lib Go.Proofs.YtpcnoiigbmiejaaGreatDoor.st Go.Proofs.YtpcnoiigbmiejaaGreatDoor.draw Go.Proofs.YtpcnoiigbmiejaaGreatDoor.base Go.Proofs.YtpcnoiigbmiejaaGreatDoor.pieces Go.Proofs.YtpcnoiigbmiejaaGreatDoor.sbs Go.Proofs.YtpcnoiigbmiejaaGreatDoor.sbc Go.Proofs.YtpcnoiigbmiejaaGreatDoor.shape Go.Proofs.YtpcnoiigbmiejaaGreatDoor.specd
/-- bytes that came in may be drawn from -/
theorem byt_of_row {w : World} {a : Option Addr} {n c : Nat} {zs : List Int} (h : row.IsRow .u8 w a n c zs) : Byt w w.heap.size a n ∧ n ≤ c ∧ c ≤ 9223372036854775807 := by
  rcases h with ⟨rfl, rfl, rfl, rfl⟩ | ⟨x, rfl, hl, hm, hz, hcell, hwf⟩
  · exact ⟨.inl rfl, Nat.le_refl _, by omega⟩
  · refine ⟨?_, hl, hm⟩
    by_cases h0 : n = 0
    · exact .inl h0
    · obtain ⟨b, off, spot⟩ := x
      have hc := hcell 0 (by omega)
      have hspot : spot = none := by simpa [Addr.add] using World.cell?_spot hc
      subst hspot
      have hlt := World.block_lt_of_cell? w _ hc
      refine .inr ⟨b, off, rfl, by simpa [Addr.add] using hlt, fun i hi => ?_⟩
      have hci := hcell i (by omega)
      have hw := hwf (zs.getD i 0) (by rw [List.getD_eq_getElem?_getD, List.getElem?_eq_getElem (by omega)]; exact List.getElem_mem _)
      have hb : 0 ≤ zs.getD i 0 ∧ zs.getD i 0 ≤ 255 := by
        generalize zs.getD i 0 = z at hw ⊢
        simp only [Lit.wf, IntKind.min, IntKind.max, IntKind.signed, IntKind.bits, Bool.and_eq_true, decide_eq_true_eq] at hw
        simp at hw
        omega
      refine ⟨(zs.getD i 0).toNat, by omega, ?_⟩
      rw [show (⟨b, off, none⟩ : Addr).add i = ⟨b, off + i, none⟩ from by simp only [Addr.add]; split <;> simp [*]] at hci
      rw [hci, show (((zs.getD i 0).toNat : Nat) : Int) = zs.getD i 0 from by omega]
theorem sbs_b (n : Int) (s r : ByteArray) (m : Int) (t q : ByteArray) (rad : Int) (w : World) (hs : s.size ≤ 100) (hr : r.size ≤ 100) (ht : t.size ≤ 100) (hq : q.size ≤ 100) (b : Bool) (hb : sbsR n s r m t q rad = b) :
    Calls Tryz.prog 14 #[.agg #[.int .i64 n, .string s, .string r], .agg #[.int .i64 m, .string t, .string q], .int .i64 rad] w fun e w' => e = .returned (.bool b) ∧ Below w.heap.size w w' := by
  rw [← hb]; exact implSbs_any n s r m t q rad w (by omega) (by omega) (by omega) (by omega)
theorem sbs_c (n : Int) (s r : ByteArray) (m : Int) (t q : ByteArray) (rad : Int) (w : World) (hs : s.size ≤ 100) (hr : r.size ≤ 100) (ht : t.size ≤ 100) (hq : q.size ≤ 100) (b : Bool) (hb : sbsR n s r m t q rad = b) :
    Calls Tryz.prog 16 #[.agg #[.int .i64 n, .string s, .string r], .agg #[.int .i64 m, .string t, .string q], .int .i64 rad] w fun e w' => e = .returned (.bool b) ∧ Below w.heap.size w w' := by
  rw [← hb]; exact specSbs_any n s r m t q rad w (by omega) (by omega) (by omega) (by omega)
theorem shp_b (n : Int) (s r : ByteArray) (m : Int) (t q : ByteArray) (w : World) (hs : s.size ≤ 100) (hr : r.size ≤ 100) (ht : t.size ≤ 100) (hq : q.size ≤ 100) (b : Bool) (hb : shpR n s r m t q = b) :
    Calls Tryz.prog 15 #[.agg #[.int .i64 n, .string s, .string r], .agg #[.int .i64 m, .string t, .string q]] w fun e w' => ∃ v, e = .returned (.tuple #[v, .bool b]) ∧ Below w.heap.size w w' := by
  rw [← hb]; exact implSameShape_any n s r m t q w (by omega) (by omega) (by omega) (by omega)
theorem val_b (n : Int) (s r : ByteArray) (w : World) (hs : s.size ≤ 100) (hr : r.size ≤ 100) (b : Bool) (hb : validB n s r = b) :
    Calls Tryz.prog 10 #[.agg #[.int .i64 n, .string s, .string r]] w fun e w' => e = .returned (.bool b) ∧ Below w.heap.size w w' := by
  rw [← hb]; exact inrel.implValid_any n s r w (by omega) (by omega)
theorem own_at2 {N : Nat} (h1 : 1 ≤ N) {w0 : World} {B : Nat} {v : Value} {l : List Int} (h : OwnI 3 w0 B v l) (hl : l.length = N) : ∃ g c, v = .slice (some ⟨g, 0, none⟩) N c := by
  rcases h.2 with ⟨_, hn⟩ | ⟨g, c, cur, hv, _⟩
  · omega
  · exact ⟨g, c, by rw [hv, hl]⟩
theorem own_cell {w : World} {B : Nat} {g n cap : Nat} {l : List Int} (h : OwnI 3 w B (.slice (some ⟨g, 0, none⟩) n cap) l) {k : Nat} (hk : k < l.length) : w.cell? ⟨g, k, none⟩ = some (.int .i64 (l.getD k 0)) := h.cell k hk

set_option maxHeartbeats 40000000 in
set_option maxRecDepth 100000 in
theorem walk (a0 : Option Addr) (n0 c0 : Nat) (l0 : List Int) (w : World) (h0 : row.IsRow .u8 w a0 n0 c0 l0) :
    Calls Tryz.prog 4 #[.slice a0 n0 c0] w fun e w' => e = .returned (.bool true) ∧ Below w.heap.size w w' := by
  obtain ⟨by0, nc0, cm0⟩ := byt_of_row h0
  have BY0 := Lib.hid by0
  clear by0
  clear h0
  by_cases hg0 : 1048576 < n0
  · go_enter Tryz.func4, Tryz.ntmps4
    go_wp2
    go_ret
    exact ⟨rfl, Below.refl _ _⟩
  go_enter Tryz.func4, Tryz.ntmps4
  have AW_0 : Hid (Below w.heap.size w w) := Below.refl _ _
  go_wp2_with fail
  refine (drawsb.drawSameBalls_any a0 n0 c0 _ BY0.out nc0 cm0).mono ?_
  rintro e w_1 ⟨n, s, r, m, t, q, rad, rfl, hnw, hs, hr, hmw, ht, hq, hrad, hb⟩
  have hbn := hb
  have AW_1 : Hid (Below w.heap.size w w_1) := AW_0.out.trans (hbn.mono AW_0.out.size)
  clear hbn AW_0 
  clear hb
  have FA_1 : Hid (Box 24 (w_1.alloc (.cells #[.int .i64 n, .string s, .string r] 24)) (w_1.heap.size) n s r) := Box.new _ w_1 (w_1.heap.size) (by simp) _ _ _
  have FA_1 := Lib.hid (FA_1.out.below ((Below.refl (w_1.heap.size + 1) _).alloc (by simp) (.cells #[.int .i64 m, .string t, .string q] 24)) (by omega))
  have FB_1 : Hid (Box 24 ((w_1.alloc (.cells #[.int .i64 n, .string s, .string r] 24)).alloc (.cells #[.int .i64 m, .string t, .string q] 24)) (w_1.heap.size + 1) m t q) := Box.new _ (w_1.alloc (.cells #[.int .i64 n, .string s, .string r] 24)) (w_1.heap.size + 1) (by simp) _ _ _
  obtain ⟨i, hi⟩ : ∃ i, sbsR n s r m t q rad = i := ⟨_, rfl⟩
  obtain ⟨sh, hsh⟩ : ∃ i, shpR n s r m t q = i := ⟨_, rfl⟩
  have HI := Lib.hid hi
  have HSH := Lib.hid hsh
  clear hi hsh
  obtain ⟨a0, a1, a2⟩ := Box.c FA_1.out
  obtain ⟨b0, b1, b2⟩ := Box.c FB_1.out
  go_wp2_with fail
  clear  a0 a1 a2 b0 b1 b2
  refine (sbs_b n s r m t q rad _ hs hr ht hq i HI.out).mono ?_
  rintro e w_2 ⟨rfl, hb⟩
  have hbn : Below w_1.heap.size w_1 w_2 := (((Below.refl w_1.heap.size w_1).alloc (by simp) (.cells #[.int .i64 n, .string s, .string r] 24)).alloc (by simp) (.cells #[.int .i64 m, .string t, .string q] 24)).trans (hb.mono (show w_1.heap.size ≤ _ by simp <;> omega))
  have FA_2 := Lib.hid (FA_1.out.below hb (by simp <;> omega))
  have FB_2 := Lib.hid (FB_1.out.below hb (by simp <;> omega))
  have AW_2 : Hid (Below w.heap.size w w_2) := AW_1.out.trans (hbn.mono AW_1.out.size)
  clear hbn AW_1 FA_1 FB_1
  clear hb
  obtain ⟨a0, a1, a2⟩ := Box.c FA_2.out
  obtain ⟨b0, b1, b2⟩ := Box.c FB_2.out
  go_wp2_with fail
  clear  a0 a1 a2 b0 b1 b2
  refine (shp_b n s r m t q _ hs hr ht hq sh HSH.out).mono ?_
  rintro e w_3 ⟨v, rfl, hb⟩
  have hbn := hb
  have FA_3 := Lib.hid (FA_2.out.below hbn FA_2.out.lt)
  have FB_3 := Lib.hid (FB_2.out.below hbn FB_2.out.lt)
  have AW_3 : Hid (Below w.heap.size w w_3) := AW_2.out.trans (hbn.mono AW_2.out.size)
  clear hbn AW_2 FA_2 FB_2
  clear hb
  obtain ⟨a0, a1, a2⟩ := Box.c FA_3.out
  obtain ⟨b0, b1, b2⟩ := Box.c FB_3.out
  go_wp2_with fail
  clear  a0 a1 a2 b0 b1 b2
  refine (sbs_c n s r m t q rad _ hs hr ht hq i HI.out).mono ?_
  rintro e w_4 ⟨rfl, hb⟩
  have hbn := hb
  have FA_4 := Lib.hid (FA_3.out.below hbn FA_3.out.lt)
  have FB_4 := Lib.hid (FB_3.out.below hbn FB_3.out.lt)
  have AW_4 : Hid (Below w.heap.size w w_4) := AW_3.out.trans (hbn.mono AW_3.out.size)
  clear hbn AW_3 FA_3 FB_3
  clear hb
  have hii : (i == i) = true := beq_self_eq_true i
  have hij : (i != i) = false := by rw [bne, hii]; rfl
  by_cases h0 : rad < 0
  · have t1 : decide (rad < 0) = true := decide_eq_true h0
    obtain ⟨a0, a1, a2⟩ := Box.c FA_4.out
    obtain ⟨b0, b1, b2⟩ := Box.c FB_4.out
    go_wp2_with fail
    clear  a0 a1 a2 b0 b1 b2
    refine (sbs_c n s r m t q rad _ hs hr ht hq i HI.out).mono ?_
    rintro e w_5 ⟨rfl, hb⟩
    have hbn := hb
    have FA_5 := Lib.hid (FA_4.out.below hbn FA_4.out.lt)
    have FB_5 := Lib.hid (FB_4.out.below hbn FB_4.out.lt)
    have AW_5 : Hid (Below w.heap.size w w_5) := AW_4.out.trans (hbn.mono AW_4.out.size)
    clear hbn AW_4 FA_4 FB_4
    clear hb
    go_wp2
    go_ret
    exact ⟨rfl, AW_5.out⟩
  · by_cases h1 : 100 < rad
    · have t1 : decide (rad < 0) = false := decide_eq_false h0
      have t2 : decide (100 < rad) = true := decide_eq_true h1
      obtain ⟨a0, a1, a2⟩ := Box.c FA_4.out
      obtain ⟨b0, b1, b2⟩ := Box.c FB_4.out
      go_wp2_with fail
      clear  a0 a1 a2 b0 b1 b2
      refine (sbs_c n s r m t q rad _ hs hr ht hq i HI.out).mono ?_
      rintro e w_5 ⟨rfl, hb⟩
      have hbn := hb
      have FA_5 := Lib.hid (FA_4.out.below hbn FA_4.out.lt)
      have FB_5 := Lib.hid (FB_4.out.below hbn FB_4.out.lt)
      have AW_5 : Hid (Below w.heap.size w w_5) := AW_4.out.trans (hbn.mono AW_4.out.size)
      clear hbn AW_4 FA_4 FB_4
      clear hb
      go_wp2
      go_ret
      exact ⟨rfl, AW_5.out⟩
    · cases hv : validB n s r with
      | false =>
        have t1 : decide (rad < 0) = false := decide_eq_false h0
        have t2 : decide (100 < rad) = false := decide_eq_false h1
        have HV := Lib.hid hv
        clear hv
        obtain ⟨a0, a1, a2⟩ := Box.c FA_4.out
        go_wp2_with fail
        clear  a0 a1 a2
        refine (val_b n s r _ hs hr false HV.out).mono ?_
        rintro e w_5 ⟨rfl, hb⟩
        have hbn := hb
        have FA_5 := Lib.hid (FA_4.out.below hbn FA_4.out.lt)
        have FB_5 := Lib.hid (FB_4.out.below hbn FB_4.out.lt)
        have AW_5 : Hid (Below w.heap.size w w_5) := AW_4.out.trans (hbn.mono AW_4.out.size)
        clear hbn AW_4 FA_4 FB_4
        clear hb
        obtain ⟨a0, a1, a2⟩ := Box.c FA_5.out
        obtain ⟨b0, b1, b2⟩ := Box.c FB_5.out
        go_wp2_with fail
        clear  a0 a1 a2 b0 b1 b2
        refine (sbs_c n s r m t q rad _ hs hr ht hq i HI.out).mono ?_
        rintro e w_6 ⟨rfl, hb⟩
        have hbn := hb
        have FA_6 := Lib.hid (FA_5.out.below hbn FA_5.out.lt)
        have FB_6 := Lib.hid (FB_5.out.below hbn FB_5.out.lt)
        have AW_6 : Hid (Below w.heap.size w w_6) := AW_5.out.trans (hbn.mono AW_5.out.size)
        clear hbn AW_5 FA_5 FB_5
        clear hb
        go_wp2
        go_ret
        exact ⟨rfl, AW_6.out⟩
      | true =>
        have t1 : decide (rad < 0) = false := decide_eq_false h0
        have t2 : decide (100 < rad) = false := decide_eq_false h1
        obtain ⟨N, R, hnN, hrR, hf⟩ := bshc.fact (m := m) (t := t) (q := q) (rad := rad) hv (by omega) (by omega)
        have HV := Lib.hid hv
        clear hv
        have HF := Lib.hid hf
        clear hf
        subst hnN hrR
        have n1 := HF.out.n1
        have n8 := HF.out.n8
        obtain ⟨a0, a1, a2⟩ := Box.c FA_4.out
        go_wp2_with fail
        clear  a0 a1 a2
        refine (val_b N s r _ hs hr true HV.out).mono ?_
        rintro e w_5 ⟨rfl, hb⟩
        have hbn := hb
        have FA_5 := Lib.hid (FA_4.out.below hbn FA_4.out.lt)
        have FB_5 := Lib.hid (FB_4.out.below hbn FB_4.out.lt)
        have AW_5 : Hid (Below w.heap.size w w_5) := AW_4.out.trans (hbn.mono AW_4.out.size)
        clear hbn AW_4 FA_4 FB_4
        clear hb
        obtain ⟨a0, a1, a2⟩ := Box.c FA_5.out
        go_wp2_with fail
        clear  a0 a1 a2
        refine (sbc.implClasses_any N s r R _ (by omega) (by omega)).mono ?_
        rintro e w_6 ⟨vc, rfl, ho, hb⟩
        have hbn := hb
        have FA_6 := Lib.hid (FA_5.out.below hbn FA_5.out.lt)
        have FB_6 := Lib.hid (FB_5.out.below hbn FB_5.out.lt)
        have AW_6 : Hid (Below w.heap.size w w_6) := AW_5.out.trans (hbn.mono AW_5.out.size)
        clear hbn AW_5 FA_5 FB_5
        clear hb
        have FC_6 := Lib.hid (ho)
        clear ho
        obtain ⟨a0, a1, a2⟩ := Box.c FA_6.out
        go_wp2_with fail
        clear  a0 a1 a2
        refine (coli.implColoursOf_any N s r 0 _ (by omega) (by omega)).mono ?_
        rintro e w_7 ⟨vo, rfl, ho, hb⟩
        have hbn := hb
        have FA_7 := Lib.hid (FA_6.out.below hbn FA_6.out.lt)
        have FB_7 := Lib.hid (FB_6.out.below hbn FB_6.out.lt)
        have FC_7 := Lib.hid (FC_6.out.below hbn (Nat.le_refl _))
        have AW_7 : Hid (Below w.heap.size w w_7) := AW_6.out.trans (hbn.mono AW_6.out.size)
        clear hbn AW_6 FA_6 FB_6 FC_6
        clear hb
        have FO_7 := Lib.hid (ho)
        clear ho
        have own_at : ∀ {w0 : World} {B : Nat} {v : Value} {l : List Int}, OwnI 3 w0 B v l → l.length = N → ∃ g c, v = .slice (some ⟨g, 0, none⟩) N c := fun {w0 B v l} h hl => by
          rcases h.2 with ⟨_, hn⟩ | ⟨g, c, cur, hv, _⟩
          · omega
          · exact ⟨g, c, by rw [hv, hl]⟩
        obtain ⟨gc, cc, rfl⟩ := own_at FC_7.out HF.out.cl
        obtain ⟨go, co, rfl⟩ := own_at FO_7.out HF.out.ol
        clear own_at
        obtain ⟨BC, HBC⟩ : ∃ BC, Hid (OwnI 3 w_7 BC (.slice (some ⟨gc, 0, none⟩) N cc) (classR N s r R)) := ⟨_, FC_7.out⟩
        obtain ⟨BO, HBO⟩ : ∃ BO, Hid (OwnI 3 w_7 BO (.slice (some ⟨go, 0, none⟩) N co) (colsR N s r 0)) := ⟨_, FO_7.out⟩
        have HS0 : Hid (Below w.heap.size w w_7 ∧ Box 24 w_7 w_1.heap.size N s r ∧ OwnI 3 w_7 BC (.slice (some ⟨gc, 0, none⟩) N cc) (classR N s r R) ∧ OwnI 3 w_7 BO (.slice (some ⟨go, 0, none⟩) N co) (colsR N s r 0)) := ⟨AW_7.out, FA_7.out, HBC.out, HBO.out⟩
        clear AW_7 FA_7 FB_7 FC_7 FO_7 HBC HBO
        go_wp2_with fail
        go_loopw [11] (fun i wr => ∃ x : Nat, x ≤ N ∧ i = .int .i64 x ∧ Hid (Below w.heap.size w wr ∧ Box 24 wr w_1.heap.size N s r ∧ OwnI 3 wr BC (.slice (some ⟨gc, 0, none⟩) N cc) (classR N s r R) ∧ OwnI 3 wr BO (.slice (some ⟨go, 0, none⟩) N co) (colsR N s r 0))) (fun i _ => N - (intOf i).toNat)
        case atStart => exact ⟨0, Nat.zero_le _, rfl, HS0.out⟩
        case round =>
          clear HS0
          obtain ⟨x, hxN, rfl, HS⟩ := hrel
          obtain ⟨a0, a1, a2⟩ := HS.out.2.1.c
          by_cases hlt : x < N
          · go_wp2_with fail
            clear a0 a1 a2
            go_loopw [12] (fun i wr => ∃ y : Nat, y ≤ N ∧ i = .int .i64 y ∧ Hid (Below w.heap.size w wr ∧ Box 24 wr w_1.heap.size N s r ∧ OwnI 3 wr BC (.slice (some ⟨gc, 0, none⟩) N cc) (classR N s r R) ∧ OwnI 3 wr BO (.slice (some ⟨go, 0, none⟩) N co) (colsR N s r 0))) (fun i _ => N - (intOf i).toNat)
            case atStart => exact ⟨0, Nat.zero_le _, rfl, HS.out⟩
            case round =>
              clear HS
              obtain ⟨y, hyN, rfl, HS⟩ := hrel
              obtain ⟨a0, a1, a2⟩ := HS.out.2.1.c
              by_cases hlt2 : y < N
              · have kx := own_cell HS.out.2.2.1 (k := x) (by rw [HF.out.cl]; exact hlt)
                have ky := own_cell HS.out.2.2.1 (k := y) (by rw [HF.out.cl]; exact hlt2)
                have lx := own_cell HS.out.2.2.2 (k := x) (by rw [HF.out.ol]; exact hlt)
                have ly := own_cell HS.out.2.2.2 (k := y) (by rw [HF.out.ol]; exact hlt2)
                have HC := Lib.hid (HF.out.col x y hlt hlt2)
                obtain ⟨p, hp⟩ : ∃ p, p = (classR N s r R).getD x 0 := ⟨_, rfl⟩
                obtain ⟨p2, hp2⟩ : ∃ p, p = (classR N s r R).getD y 0 := ⟨_, rfl⟩
                obtain ⟨c, hc⟩ : ∃ p, p = (colsR N s r 0).getD x 0 := ⟨_, rfl⟩
                obtain ⟨c2, hc2⟩ : ∃ p, p = (colsR N s r 0).getD y 0 := ⟨_, rfl⟩
                rw [← hp] at kx
                rw [← hp2] at ky
                rw [← hc] at lx
                rw [← hc2] at ly
                rw [← hp, ← hp2, ← hc, ← hc2] at HC
                clear hp hp2 hc hc2
                have x1 : (x : Int) < (N : Int) := by omega
                have y1 : (y : Int) < (N : Int) := by omega
                have HS2 : Hid (Below w.heap.size w wr.drew ∧ Box 24 wr.drew w_1.heap.size N s r ∧ OwnI 3 wr.drew BC (.slice (some ⟨gc, 0, none⟩) N cc) (classR N s r R) ∧ OwnI 3 wr.drew BO (.slice (some ⟨go, 0, none⟩) N co) (colsR N s r 0)) := ⟨HS.out.1.drew, HS.out.2.1, HS.out.2.2.1, HS.out.2.2.2⟩
                obtain ⟨z1, hz1⟩ : ∃ z : Bool, (p == p2) = z := ⟨_, rfl⟩
                obtain ⟨z2, hz2⟩ : ∃ z : Bool, (c != c2) = z := ⟨_, rfl⟩
                have hz : z1 = true → z2 = false := fun h => by
                  rw [h] at hz1
                  rw [← hz2, HC.out (by simpa using hz1)]
                  simp
                clear HC
                cases z1 with
                | true =>
                  obtain rfl := hz rfl
                  clear hz
                  have q0 : ∀ QQ : Wd (fun Q => Q.cell? ⟨gc, x, none⟩ = some (.int .i64 p) ∧ Q.cell? ⟨gc, y, none⟩ = some (.int .i64 p2) ∧ Q.cell? ⟨go, x, none⟩ = some (.int .i64 c) ∧ Q.cell? ⟨go, y, none⟩ = some (.int .i64 c2)), QQ.w.cell? ⟨gc, x, none⟩ = some (.int .i64 p) := fun QQ => QQ.ok.1
                  have q1 : ∀ QQ : Wd (fun Q => Q.cell? ⟨gc, x, none⟩ = some (.int .i64 p) ∧ Q.cell? ⟨gc, y, none⟩ = some (.int .i64 p2) ∧ Q.cell? ⟨go, x, none⟩ = some (.int .i64 c) ∧ Q.cell? ⟨go, y, none⟩ = some (.int .i64 c2)), QQ.w.cell? ⟨gc, y, none⟩ = some (.int .i64 p2) := fun QQ => QQ.ok.2.1
                  have q2 : ∀ QQ : Wd (fun Q => Q.cell? ⟨gc, x, none⟩ = some (.int .i64 p) ∧ Q.cell? ⟨gc, y, none⟩ = some (.int .i64 p2) ∧ Q.cell? ⟨go, x, none⟩ = some (.int .i64 c) ∧ Q.cell? ⟨go, y, none⟩ = some (.int .i64 c2)), QQ.w.cell? ⟨go, x, none⟩ = some (.int .i64 c) := fun QQ => QQ.ok.2.2.1
                  have q3 : ∀ QQ : Wd (fun Q => Q.cell? ⟨gc, x, none⟩ = some (.int .i64 p) ∧ Q.cell? ⟨gc, y, none⟩ = some (.int .i64 p2) ∧ Q.cell? ⟨go, x, none⟩ = some (.int .i64 c) ∧ Q.cell? ⟨go, y, none⟩ = some (.int .i64 c2)), QQ.w.cell? ⟨go, y, none⟩ = some (.int .i64 c2) := fun QQ => QQ.ok.2.2.2
                  have hne : Nonempty (Wd (fun Q => Q.cell? ⟨gc, x, none⟩ = some (.int .i64 p) ∧ Q.cell? ⟨gc, y, none⟩ = some (.int .i64 p2) ∧ Q.cell? ⟨go, x, none⟩ = some (.int .i64 c) ∧ Q.cell? ⟨go, y, none⟩ = some (.int .i64 c2))) := ⟨⟨wr, ⟨kx, ky, lx, ly⟩⟩⟩
                  go_wp2_with fail
                  refine chain (S := (fun Q => Q.cell? ⟨gc, x, none⟩ = some (.int .i64 p) ∧ Q.cell? ⟨gc, y, none⟩ = some (.int .i64 p2) ∧ Q.cell? ⟨go, x, none⟩ = some (.int .i64 c) ∧ Q.cell? ⟨go, y, none⟩ = some (.int .i64 c2))) [] [true, true, true, true, true, true, true, true, true, true, true, true, true, true, true, true, true, true, true, true] (by kernel_rfl) (by kernel_rfl) (by kernel_rfl) ⟨kx, ky, lx, ly⟩ ?_
                  simp only [wpSegs, pickB, List.dropLast_cons_cons, List.dropLast_singleton, List.getLast?_cons_cons, List.getLast?_singleton, List.toList_toArray, List.getElem?_toArray, List.getElem?_cons_succ, List.getElem?_cons_zero, Option.toList_some]
                  repeat (go_big_quiet_step (fail))
                  refine wpQuiet_nil ?_
                  clear q0 q1 q2 q3 hne a0 a1 a2 kx ky lx ly
                  go_wp2
                  go_roundw
                  case rel => exact ⟨y + 1, by omega, by go_num, HS2⟩
                  case measure => simp [intOf]; omega
                | false =>
                  clear hz
                  have q0 : ∀ QQ : Wd (fun Q => Q.cell? ⟨gc, x, none⟩ = some (.int .i64 p) ∧ Q.cell? ⟨gc, y, none⟩ = some (.int .i64 p2) ∧ Q.cell? ⟨go, x, none⟩ = some (.int .i64 c) ∧ Q.cell? ⟨go, y, none⟩ = some (.int .i64 c2)), QQ.w.cell? ⟨gc, x, none⟩ = some (.int .i64 p) := fun QQ => QQ.ok.1
                  have q1 : ∀ QQ : Wd (fun Q => Q.cell? ⟨gc, x, none⟩ = some (.int .i64 p) ∧ Q.cell? ⟨gc, y, none⟩ = some (.int .i64 p2) ∧ Q.cell? ⟨go, x, none⟩ = some (.int .i64 c) ∧ Q.cell? ⟨go, y, none⟩ = some (.int .i64 c2)), QQ.w.cell? ⟨gc, y, none⟩ = some (.int .i64 p2) := fun QQ => QQ.ok.2.1
                  have q2 : ∀ QQ : Wd (fun Q => Q.cell? ⟨gc, x, none⟩ = some (.int .i64 p) ∧ Q.cell? ⟨gc, y, none⟩ = some (.int .i64 p2) ∧ Q.cell? ⟨go, x, none⟩ = some (.int .i64 c) ∧ Q.cell? ⟨go, y, none⟩ = some (.int .i64 c2)), QQ.w.cell? ⟨go, x, none⟩ = some (.int .i64 c) := fun QQ => QQ.ok.2.2.1
                  have q3 : ∀ QQ : Wd (fun Q => Q.cell? ⟨gc, x, none⟩ = some (.int .i64 p) ∧ Q.cell? ⟨gc, y, none⟩ = some (.int .i64 p2) ∧ Q.cell? ⟨go, x, none⟩ = some (.int .i64 c) ∧ Q.cell? ⟨go, y, none⟩ = some (.int .i64 c2)), QQ.w.cell? ⟨go, y, none⟩ = some (.int .i64 c2) := fun QQ => QQ.ok.2.2.2
                  have hne : Nonempty (Wd (fun Q => Q.cell? ⟨gc, x, none⟩ = some (.int .i64 p) ∧ Q.cell? ⟨gc, y, none⟩ = some (.int .i64 p2) ∧ Q.cell? ⟨go, x, none⟩ = some (.int .i64 c) ∧ Q.cell? ⟨go, y, none⟩ = some (.int .i64 c2))) := ⟨⟨wr, ⟨kx, ky, lx, ly⟩⟩⟩
                  go_wp2_with fail
                  refine chain (S := (fun Q => Q.cell? ⟨gc, x, none⟩ = some (.int .i64 p) ∧ Q.cell? ⟨gc, y, none⟩ = some (.int .i64 p2) ∧ Q.cell? ⟨go, x, none⟩ = some (.int .i64 c) ∧ Q.cell? ⟨go, y, none⟩ = some (.int .i64 c2))) [] [true, true, true, true, true, true, true, true, true, true, true, true, true, true, true, true, true, true, true, true] (by kernel_rfl) (by kernel_rfl) (by kernel_rfl) ⟨kx, ky, lx, ly⟩ ?_
                  simp only [wpSegs, pickB, List.dropLast_cons_cons, List.dropLast_singleton, List.getLast?_cons_cons, List.getLast?_singleton, List.toList_toArray, List.getElem?_toArray, List.getElem?_cons_succ, List.getElem?_cons_zero, Option.toList_some]
                  repeat (go_big_quiet_step (fail))
                  refine wpQuiet_nil ?_
                  clear q0 q1 q2 q3 hne a0 a1 a2 kx ky lx ly
                  go_wp2
                  go_roundw
                  case rel => exact ⟨y + 1, by omega, by go_num, HS2⟩
                  case measure => simp [intOf]; omega
              · obtain rfl : N = y := by omega
                clear hlt2
                go_wp2_with fail
                clear a0 a1 a2
                go_wp2
                go_roundw
                case rel => exact ⟨x + 1, by omega, by go_num, HS.out⟩
                case measure => simp [intOf]; omega
          · obtain rfl : N = x := by omega
            clear hlt
            have HT0 : Hid (Below w.heap.size w wr ∧ Box 24 wr w_1.heap.size N s r) := ⟨HS.out.1, HS.out.2.1⟩
            clear HS
            have HPC : Hid (∀ W, Calls Tryz.prog 19 #[.agg #[.int .i64 N, .string s, .string r]] W fun e w' => ∃ v, e = .returned v ∧ OwnI 3 w' W.heap.size v (piecesR N s r) ∧ Below W.heap.size W w') := fun W => implPieces_any N s r W (by omega) (by omega)
            obtain ⟨P, hP⟩ : ∃ P, P = piecesR N s r := ⟨_, rfl⟩
            have HN1 := Lib.hid n1
            obtain ⟨K, hK⟩ : ∃ K, N = K + 1 := ⟨N - 1, by omega⟩
            have HPL : Hid (P.length = N) := by rw [hP]; exact HF.out.pl
            have HFIN : Hid (∀ c : Bool, c = ((decide (R < 8) || decide (0 < P.getD K 0) || (i == sh)) || (List.range N).any fun y => decide (0 < P.getD y 0)) → c = true) := fun c hc => by
              rw [hc]
              by_cases h8 : R < 8
              · rw [decide_eq_true h8]; rfl
              · cases hany : (List.range N).any fun y => decide (0 < P.getD y 0) with
                | true => simp
                | false =>
                  have hz : ∀ x, x < N → (piecesR N s r).getD x 0 = 0 := fun x hx => by
                    have h1 := HF.out.pp x hx
                    have h2 := List.any_eq_false.1 hany x (List.mem_range.2 hx)
                    rw [hP] at h2
                    have h3 : ¬ 0 < (piecesR N s r).getD x 0 := by simpa using h2
                    omega
                  have := HF.out.wh (by omega) hz
                  rw [HI.out, HSH.out] at this
                  rw [this]; simp
            have HIS : Hid (sh = true → i = true) := fun h => by
              rw [← HI.out]
              exact HF.out.sh (by rw [HSH.out]; exact h)
            rw [← hP] at HPC
            clear hP
            obtain ⟨a0, a1, a2⟩ := HT0.out.2.c
            have hwn : IntKind.i64.wrap ((N : Int) - 1) = (K : Int) := by rw [show ((N : Int) - 1) = (K : Int) from by omega]; exact IntWalk.i64_in _ (by omega)
            have hn1 : (K : Int) < (N : Int) := by omega
            have HK := Lib.hid hK
            clear hK
            go_upto_region 18 with (fail)
            go_cut [13] from 96 to 112 (fun b wx => ∃ c : Bool, b = .bool c ∧ Hid (c = (decide (R < 8) || decide (0 < P.getD K 0) || (i == sh))) ∧ Hid (Below w.heap.size w wx ∧ Box 24 wx w_1.heap.size N s r))
            case first =>
              by_cases h8 : R < 8
              · have t8 : decide ((R : Int) < 8) = true := by simp; omega
                have t9 : decide (R < 8) = true := decide_eq_true h8
                have HW : Hid (true = (decide (R < 8) || decide (0 < P.getD K 0) || (i == sh))) := by rw [t9]; rfl
                have HT1 : Hid (Below w.heap.size w wr.drew ∧ Box 24 wr.drew w_1.heap.size N s r) := ⟨HT0.out.1.drew, HT0.out.2⟩
                clear h8
                go_quiet (fail)
                go_wp2
                go_meet
                exact ⟨true, rfl, HW, HT0.out.1.trans ⟨rfl, rfl, rfl, Nat.le_refl _, fun _ _ => rfl⟩, HT0.out.2⟩
              · have t8 : decide ((R : Int) < 8) = false := by simp; omega
                have t9 : decide (R < 8) = false := decide_eq_false h8
                obtain ⟨p, hp⟩ : ∃ p, p = P.getD K 0 := ⟨_, rfl⟩
                have HW : Hid ((decide (0 < p) || (i == sh)) = (decide (R < 8) || decide (0 < P.getD K 0) || (i == sh))) := by rw [t9, hp]; rfl
                have HPP := Lib.hid hp
                clear h8 hp
                by_cases hp0 : 0 < p
                · have t1 : decide (0 < p) = true := decide_eq_true hp0
                  rw [t1] at HW
                  clear hp0
                  have q0 : ∀ QQ : Wd (fun Q => Q.cell? ⟨w_1.heap.size, 0, none⟩ = some (.int .i64 N) ∧ Q.cell? ⟨w_1.heap.size, 1, none⟩ = some (.string s) ∧ Q.cell? ⟨w_1.heap.size, 2, none⟩ = some (.string r)), QQ.w.cell? ⟨w_1.heap.size, 0, none⟩ = some (.int .i64 N) := fun QQ => QQ.ok.1
                  have q1 : ∀ QQ : Wd (fun Q => Q.cell? ⟨w_1.heap.size, 0, none⟩ = some (.int .i64 N) ∧ Q.cell? ⟨w_1.heap.size, 1, none⟩ = some (.string s) ∧ Q.cell? ⟨w_1.heap.size, 2, none⟩ = some (.string r)), QQ.w.cell? ⟨w_1.heap.size, 1, none⟩ = some (.string s) := fun QQ => QQ.ok.2.1
                  have q2 : ∀ QQ : Wd (fun Q => Q.cell? ⟨w_1.heap.size, 0, none⟩ = some (.int .i64 N) ∧ Q.cell? ⟨w_1.heap.size, 1, none⟩ = some (.string s) ∧ Q.cell? ⟨w_1.heap.size, 2, none⟩ = some (.string r)), QQ.w.cell? ⟨w_1.heap.size, 2, none⟩ = some (.string r) := fun QQ => QQ.ok.2.2
                  have hne : Nonempty (Wd (fun Q => Q.cell? ⟨w_1.heap.size, 0, none⟩ = some (.int .i64 N) ∧ Q.cell? ⟨w_1.heap.size, 1, none⟩ = some (.string s) ∧ Q.cell? ⟨w_1.heap.size, 2, none⟩ = some (.string r))) := ⟨⟨wr, ⟨a0, a1, a2⟩⟩⟩
                  go_wp2_with fail
                  refine chainN (S := (fun Q => Q.cell? ⟨w_1.heap.size, 0, none⟩ = some (.int .i64 N) ∧ Q.cell? ⟨w_1.heap.size, 1, none⟩ = some (.string s) ∧ Q.cell? ⟨w_1.heap.size, 2, none⟩ = some (.string r))) [([true, true, true, true, false, true, true, true], 4)] [false, false, false, false, false, false, false, false, true, true, true, true, true, true, true, true, true, true] (by kernel_rfl) (by kernel_rfl) (by kernel_rfl) ⟨a0, a1, a2⟩ ?_
                  simp only [wpSegsN, pickB, List.dropLast_cons_cons, List.dropLast_singleton, List.getLast?_cons_cons, List.getLast?_singleton, List.toList_toArray, List.getElem?_toArray, List.getElem?_cons_succ, List.getElem?_cons_zero, Option.toList_some]
                  repeat (go_big_quiet_step (fail))
                  refine wpQuiet_nil ?_
                  intro K_ hK_
                  go_wp2_with fail
                  refine (HPC.out _).mono ?_
                  rintro eo V1 ⟨vp, rfl, ho, hb⟩
                  obtain ⟨gp, cp, rfl⟩ := own_at2 HN1.out ho HPL.out
                  have kp := own_cell ho (k := K) (by rw [HPL.out, HK.out]; omega)
                  rw [← HPP.out] at kp
                  have HT1 : Hid (Below w.heap.size w V1 ∧ Box 24 V1 w_1.heap.size N s r) := ⟨HT0.out.1.drew.trans (hb.mono HT0.out.1.size), (show Box 24 wr.drew w_1.heap.size N s r from HT0.out.2).below hb HT0.out.2.lt⟩
                  obtain ⟨b0, b1, b2⟩ := HT1.out.2.c
                  clear ho hb
                  go_wp2_with fail
                  refine hK_ (fun Q => Q.cell? ⟨w_1.heap.size, 0, none⟩ = some (.int .i64 N) ∧ Q.cell? ⟨w_1.heap.size, 1, none⟩ = some (.string s) ∧ Q.cell? ⟨w_1.heap.size, 2, none⟩ = some (.string r) ∧ Q.cell? ⟨gp, K, none⟩ = some (.int .i64 p)) _ _ (fun W h => ⟨h.1, h.2.1, h.2.2.1⟩) ⟨b0, b1, b2, kp⟩ ?_
                  clear hK_ K_
                  clear q0 q1 q2 hne
                  have z0 : ∀ QQ : Wd (fun Q => Q.cell? ⟨w_1.heap.size, 0, none⟩ = some (.int .i64 N) ∧ Q.cell? ⟨w_1.heap.size, 1, none⟩ = some (.string s) ∧ Q.cell? ⟨w_1.heap.size, 2, none⟩ = some (.string r) ∧ Q.cell? ⟨gp, K, none⟩ = some (.int .i64 p)), QQ.w.cell? ⟨w_1.heap.size, 0, none⟩ = some (.int .i64 N) := fun QQ => QQ.ok.1
                  have z1 : ∀ QQ : Wd (fun Q => Q.cell? ⟨w_1.heap.size, 0, none⟩ = some (.int .i64 N) ∧ Q.cell? ⟨w_1.heap.size, 1, none⟩ = some (.string s) ∧ Q.cell? ⟨w_1.heap.size, 2, none⟩ = some (.string r) ∧ Q.cell? ⟨gp, K, none⟩ = some (.int .i64 p)), QQ.w.cell? ⟨w_1.heap.size, 1, none⟩ = some (.string s) := fun QQ => QQ.ok.2.1
                  have z2 : ∀ QQ : Wd (fun Q => Q.cell? ⟨w_1.heap.size, 0, none⟩ = some (.int .i64 N) ∧ Q.cell? ⟨w_1.heap.size, 1, none⟩ = some (.string s) ∧ Q.cell? ⟨w_1.heap.size, 2, none⟩ = some (.string r) ∧ Q.cell? ⟨gp, K, none⟩ = some (.int .i64 p)), QQ.w.cell? ⟨w_1.heap.size, 2, none⟩ = some (.string r) := fun QQ => QQ.ok.2.2.1
                  have z3 : ∀ QQ : Wd (fun Q => Q.cell? ⟨w_1.heap.size, 0, none⟩ = some (.int .i64 N) ∧ Q.cell? ⟨w_1.heap.size, 1, none⟩ = some (.string s) ∧ Q.cell? ⟨w_1.heap.size, 2, none⟩ = some (.string r) ∧ Q.cell? ⟨gp, K, none⟩ = some (.int .i64 p)), QQ.w.cell? ⟨gp, K, none⟩ = some (.int .i64 p) := fun QQ => QQ.ok.2.2.2
                  have hne : Nonempty (Wd (fun Q => Q.cell? ⟨w_1.heap.size, 0, none⟩ = some (.int .i64 N) ∧ Q.cell? ⟨w_1.heap.size, 1, none⟩ = some (.string s) ∧ Q.cell? ⟨w_1.heap.size, 2, none⟩ = some (.string r) ∧ Q.cell? ⟨gp, K, none⟩ = some (.int .i64 p))) := ⟨⟨V1, ⟨b0, b1, b2, kp⟩⟩⟩
                  repeat (go_big_quiet_step (fail))
                  refine wpQuiet_nil ?_
                  clear z0 z1 z2 z3 hne a0 a1 a2 b0 b1 b2 kp
                  go_wp2
                  go_meet
                  exact ⟨true, rfl, HW, HT1.out⟩
                · have t1 : decide (0 < p) = false := decide_eq_false hp0
                  rw [t1] at HW
                  clear hp0
                  have q0 : ∀ QQ : Wd (fun Q => Q.cell? ⟨w_1.heap.size, 0, none⟩ = some (.int .i64 N) ∧ Q.cell? ⟨w_1.heap.size, 1, none⟩ = some (.string s) ∧ Q.cell? ⟨w_1.heap.size, 2, none⟩ = some (.string r)), QQ.w.cell? ⟨w_1.heap.size, 0, none⟩ = some (.int .i64 N) := fun QQ => QQ.ok.1
                  have q1 : ∀ QQ : Wd (fun Q => Q.cell? ⟨w_1.heap.size, 0, none⟩ = some (.int .i64 N) ∧ Q.cell? ⟨w_1.heap.size, 1, none⟩ = some (.string s) ∧ Q.cell? ⟨w_1.heap.size, 2, none⟩ = some (.string r)), QQ.w.cell? ⟨w_1.heap.size, 1, none⟩ = some (.string s) := fun QQ => QQ.ok.2.1
                  have q2 : ∀ QQ : Wd (fun Q => Q.cell? ⟨w_1.heap.size, 0, none⟩ = some (.int .i64 N) ∧ Q.cell? ⟨w_1.heap.size, 1, none⟩ = some (.string s) ∧ Q.cell? ⟨w_1.heap.size, 2, none⟩ = some (.string r)), QQ.w.cell? ⟨w_1.heap.size, 2, none⟩ = some (.string r) := fun QQ => QQ.ok.2.2
                  have hne : Nonempty (Wd (fun Q => Q.cell? ⟨w_1.heap.size, 0, none⟩ = some (.int .i64 N) ∧ Q.cell? ⟨w_1.heap.size, 1, none⟩ = some (.string s) ∧ Q.cell? ⟨w_1.heap.size, 2, none⟩ = some (.string r))) := ⟨⟨wr, ⟨a0, a1, a2⟩⟩⟩
                  go_wp2_with fail
                  refine chainN (S := (fun Q => Q.cell? ⟨w_1.heap.size, 0, none⟩ = some (.int .i64 N) ∧ Q.cell? ⟨w_1.heap.size, 1, none⟩ = some (.string s) ∧ Q.cell? ⟨w_1.heap.size, 2, none⟩ = some (.string r))) [([true, true, true, true, false, true, true, true], 4)] [false, false, false, false, false, false, false, false, true, true, true, true, true, true, true, true, true, true] (by kernel_rfl) (by kernel_rfl) (by kernel_rfl) ⟨a0, a1, a2⟩ ?_
                  simp only [wpSegsN, pickB, List.dropLast_cons_cons, List.dropLast_singleton, List.getLast?_cons_cons, List.getLast?_singleton, List.toList_toArray, List.getElem?_toArray, List.getElem?_cons_succ, List.getElem?_cons_zero, Option.toList_some]
                  repeat (go_big_quiet_step (fail))
                  refine wpQuiet_nil ?_
                  intro K_ hK_
                  go_wp2_with fail
                  refine (HPC.out _).mono ?_
                  rintro eo V1 ⟨vp, rfl, ho, hb⟩
                  obtain ⟨gp, cp, rfl⟩ := own_at2 HN1.out ho HPL.out
                  have kp := own_cell ho (k := K) (by rw [HPL.out, HK.out]; omega)
                  rw [← HPP.out] at kp
                  have HT1 : Hid (Below w.heap.size w V1 ∧ Box 24 V1 w_1.heap.size N s r) := ⟨HT0.out.1.drew.trans (hb.mono HT0.out.1.size), (show Box 24 wr.drew w_1.heap.size N s r from HT0.out.2).below hb HT0.out.2.lt⟩
                  obtain ⟨b0, b1, b2⟩ := HT1.out.2.c
                  clear ho hb
                  go_wp2_with fail
                  refine hK_ (fun Q => Q.cell? ⟨w_1.heap.size, 0, none⟩ = some (.int .i64 N) ∧ Q.cell? ⟨w_1.heap.size, 1, none⟩ = some (.string s) ∧ Q.cell? ⟨w_1.heap.size, 2, none⟩ = some (.string r) ∧ Q.cell? ⟨gp, K, none⟩ = some (.int .i64 p)) _ _ (fun W h => ⟨h.1, h.2.1, h.2.2.1⟩) ⟨b0, b1, b2, kp⟩ ?_
                  clear hK_ K_
                  clear q0 q1 q2 hne
                  have z0 : ∀ QQ : Wd (fun Q => Q.cell? ⟨w_1.heap.size, 0, none⟩ = some (.int .i64 N) ∧ Q.cell? ⟨w_1.heap.size, 1, none⟩ = some (.string s) ∧ Q.cell? ⟨w_1.heap.size, 2, none⟩ = some (.string r) ∧ Q.cell? ⟨gp, K, none⟩ = some (.int .i64 p)), QQ.w.cell? ⟨w_1.heap.size, 0, none⟩ = some (.int .i64 N) := fun QQ => QQ.ok.1
                  have z1 : ∀ QQ : Wd (fun Q => Q.cell? ⟨w_1.heap.size, 0, none⟩ = some (.int .i64 N) ∧ Q.cell? ⟨w_1.heap.size, 1, none⟩ = some (.string s) ∧ Q.cell? ⟨w_1.heap.size, 2, none⟩ = some (.string r) ∧ Q.cell? ⟨gp, K, none⟩ = some (.int .i64 p)), QQ.w.cell? ⟨w_1.heap.size, 1, none⟩ = some (.string s) := fun QQ => QQ.ok.2.1
                  have z2 : ∀ QQ : Wd (fun Q => Q.cell? ⟨w_1.heap.size, 0, none⟩ = some (.int .i64 N) ∧ Q.cell? ⟨w_1.heap.size, 1, none⟩ = some (.string s) ∧ Q.cell? ⟨w_1.heap.size, 2, none⟩ = some (.string r) ∧ Q.cell? ⟨gp, K, none⟩ = some (.int .i64 p)), QQ.w.cell? ⟨w_1.heap.size, 2, none⟩ = some (.string r) := fun QQ => QQ.ok.2.2.1
                  have z3 : ∀ QQ : Wd (fun Q => Q.cell? ⟨w_1.heap.size, 0, none⟩ = some (.int .i64 N) ∧ Q.cell? ⟨w_1.heap.size, 1, none⟩ = some (.string s) ∧ Q.cell? ⟨w_1.heap.size, 2, none⟩ = some (.string r) ∧ Q.cell? ⟨gp, K, none⟩ = some (.int .i64 p)), QQ.w.cell? ⟨gp, K, none⟩ = some (.int .i64 p) := fun QQ => QQ.ok.2.2.2
                  have hne : Nonempty (Wd (fun Q => Q.cell? ⟨w_1.heap.size, 0, none⟩ = some (.int .i64 N) ∧ Q.cell? ⟨w_1.heap.size, 1, none⟩ = some (.string s) ∧ Q.cell? ⟨w_1.heap.size, 2, none⟩ = some (.string r) ∧ Q.cell? ⟨gp, K, none⟩ = some (.int .i64 p))) := ⟨⟨V1, ⟨b0, b1, b2, kp⟩⟩⟩
                  repeat (go_big_quiet_step (fail))
                  refine wpQuiet_nil ?_
                  clear z0 z1 z2 z3 hne a0 a1 a2 b0 b1 b2 kp
                  go_wp2
                  go_meet
                  exact ⟨_, rfl, HW, HT1.out⟩
            case rest =>
              obtain ⟨c0, rfl, HW0, HT1⟩ := hcut
              clear HT0 a0 a1 a2
              go_wp2_with fail
              go_loopw [13, 14] (fun b i9 wr => ∃ (x : Nat) (c : Bool), x ≤ N ∧ i9 = .int .i64 x ∧ b = .bool c ∧ Hid (c = ((decide (R < 8) || decide (0 < P.getD K 0) || (i == sh)) || (List.range x).any fun y => decide (0 < P.getD y 0))) ∧ Hid (Below w.heap.size w wr ∧ Box 24 wr w_1.heap.size N s r)) (fun _ i9 _ => N - (intOf i9).toNat)
              case atStart => exact ⟨0, c0, Nat.zero_le _, rfl, rfl, by rw [Hid, HW0.out]; simp, HT1.out⟩
              case round =>
                clear HT1 HW0
                obtain ⟨x, c, hx, rfl, rfl, HC, HT⟩ := hrel
                obtain ⟨a0, a1, a2⟩ := HT.out.2.c
                have step : Hid (∀ d : Bool, d = (c || decide (0 < P.getD x 0)) → d = ((decide (R < 8) || decide (0 < P.getD K 0) || (i == sh)) || (List.range (x + 1)).any fun y => decide (0 < P.getD y 0))) := fun d hd => by
                  rw [hd, HC.out, List.range_succ, List.any_append]
                  simp [Bool.or_assoc]
                by_cases hlt : x < N
                · have x1 : (x : Int) < (N : Int) := by omega
                  cases c with
                  | true =>
                    have HC2 := Lib.hid (step.out true rfl)
                    go_wp2
                    go_roundw
                    case rel => exact ⟨x + 1, true, by omega, by go_num, rfl, HC2.out, HT.out⟩
                    case measure => simp [intOf]; omega
                  | false =>
                    obtain ⟨p, hp⟩ : ∃ p, p = P.getD x 0 := ⟨_, rfl⟩
                    have HPP := Lib.hid hp
                    by_cases hp0 : 0 < p
                    · have HC2 := Lib.hid (step.out true (by rw [← hp, decide_eq_true hp0]; rfl))
                      have t1 : decide (0 < p) = true := decide_eq_true hp0
                      clear hp hp0
                      go_wp2_with fail
                      refine (HPC.out _).mono ?_
                      rintro eo V1 ⟨vp, rfl, ho, hb⟩
                      obtain ⟨gp, cp, rfl⟩ := own_at2 HN1.out ho HPL.out
                      have kp := own_cell ho (k := x) (by rw [HPL.out]; omega)
                      rw [← HPP.out] at kp
                      have HT1 : Hid (Below w.heap.size w V1 ∧ Box 24 V1 w_1.heap.size N s r) := ⟨HT.out.1.trans (hb.mono HT.out.1.size), HT.out.2.below hb HT.out.2.lt⟩
                      clear ho hb a0 a1 a2
                      go_wp2
                      go_roundw
                      case rel => exact ⟨x + 1, true, by omega, by go_num, rfl, HC2.out, HT1.out⟩
                      case measure => simp [intOf]; omega
                    · have HC2 := Lib.hid (step.out false (by rw [← hp, decide_eq_false hp0]; rfl))
                      have t1 : decide (0 < p) = false := decide_eq_false hp0
                      clear hp hp0
                      go_wp2_with fail
                      refine (HPC.out _).mono ?_
                      rintro eo V1 ⟨vp, rfl, ho, hb⟩
                      obtain ⟨gp, cp, rfl⟩ := own_at2 HN1.out ho HPL.out
                      have kp := own_cell ho (k := x) (by rw [HPL.out]; omega)
                      rw [← HPP.out] at kp
                      have HT1 : Hid (Below w.heap.size w V1 ∧ Box 24 V1 w_1.heap.size N s r) := ⟨HT.out.1.trans (hb.mono HT.out.1.size), HT.out.2.below hb HT.out.2.lt⟩
                      clear ho hb a0 a1 a2
                      go_wp2
                      go_roundw
                      case rel => exact ⟨x + 1, false, by omega, by go_num, rfl, HC2.out, HT1.out⟩
                      case measure => simp [intOf]; omega
                · obtain rfl : N = x := by omega
                  clear hlt
                  have hct := HFIN.out c HC.out
                  have HB9 := Lib.hid HT.out.1
                  have his := HIS.out
                  clear step HC
                  subst hct
                  cases sh with
                  | false =>
                    clear his
                    go_wp2
                    go_ret
                    exact ⟨rfl, HB9.out⟩
                  | true =>
                    obtain rfl := his rfl
                    go_wp2
                    go_ret
                    exact ⟨rfl, HB9.out⟩

end Go.Proofs.YtpcnoiigbmiejaaGreatDoor.fnBshW
