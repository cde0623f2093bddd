/- PebblesFit of the program. -/
import Derived.Test.YtpcnoiigbmiejaaDoorCwL
import Derived.Test.YtpcnoiigbmiejaaDoorPkY
import Derived.Test.YtpcnoiigbmiejaaDoorShelfD
import Derived.Shelf.SlicesE.DeleteFunc
import Derived.Lib.OwnBridge
namespace Go.Proofs.YtpcnoiigbmiejaaDoor.pbi
set_option linter.unusedVariables false
set_option linter.unusedSimpArgs false
open Go.ChangeShapes Go.WideShapes Go.ChangeAt Go.RowKit
open Go.Proofs.YtpcnoiigbmiejaaDoor.lib Go.Proofs.YtpcnoiigbmiejaaDoor.st Go.Proofs.YtpcnoiigbmiejaaDoor.flow Go.Proofs.YtpcnoiigbmiejaaDoor.chain Go.Proofs.YtpcnoiigbmiejaaDoor.base Go.Proofs.YtpcnoiigbmiejaaDoor.fits Go.Proofs.YtpcnoiigbmiejaaDoor.still Go.Proofs.YtpcnoiigbmiejaaDoor.gow Go.Proofs.YtpcnoiigbmiejaaDoor.peb Go.Proofs.YtpcnoiigbmiejaaDoor.tab Go.Proofs.YtpcnoiigbmiejaaDoor.make Go.Proofs.YtpcnoiigbmiejaaDoor.near Go.Proofs.YtpcnoiigbmiejaaDoor.game Go.Sort
/-- those that lie -/
theorem lying_placed : ∀ l : List Int, (∀ x, x ∈ l → -1 ≤ x) → l.filter (fun x => !decide (x < 0)) = ints (placed (plc l))
  | [], _ => rfl
  | z :: l, h => by
    have ih := lying_placed l fun x hx => h x (List.mem_cons_of_mem _ hx)
    have hz := h z List.mem_cons_self
    by_cases h0 : z < 0
    · rw [List.filter_cons_of_neg (by simp [h0]), ih]
      have e : placed (plc (z :: l)) = placed (plc l) := by
        show placed ((z + 1).toNat :: plc l) = _
        unfold placed
        rw [List.filter_cons_of_neg (by simp; omega)]
      rw [e]
    · rw [List.filter_cons_of_pos (by simp; omega), ih]
      have e : placed (plc (z :: l)) = ((z + 1).toNat - 1) :: placed (plc l) := by
        show placed ((z + 1).toNat :: plc l) = _
        unfold placed
        rw [List.filter_cons_of_pos (by simp; omega)]; rfl
      rw [e]
      show z :: _ = (((z + 1).toNat - 1 : Nat) : Int) :: _
      congr 1
      omega
theorem neg_gives (x : Int) (W : World) : FnGives Tryd.prog 81 #[] #[.int .i64 x] (.bool (decide (x < 0))) W := by
  show Calls Tryd.prog 81 #[.int .i64 x] W _
  go_enter Tryd.func81, Tryd.ntmps81
  go_wp2
  all_goals (go_ret; exact ⟨by simp_all, 0, rfl⟩)

set_option maxHeartbeats 6400000 in
set_option maxRecDepth 100000 in
theorem lying_any (v : Value) (l : List Int) (w : World) (hr : Reads w v l) (h1 : 1 ≤ l.length) (hl : l.length ≤ 1000) :
    Calls Tryd.prog 79 #[v] w fun e w' => ∃ v', e = .returned v' ∧ OwnI 3 w' w.heap.size v' (l.filter fun x => !decide (x < 0)) ∧ Below w.heap.size w w' := by
  obtain ⟨W1, hW1⟩ : ∃ QZ, QZ = w.alloc (.cells #[] 3) := ⟨_, rfl⟩
  have HA : Hid (OwnI 3 W1 w.heap.size (.slice (some ⟨w.heap.size, 0, none⟩) 0 0) [] ∧ Below w.heap.size w W1 ∧ Reads W1 v l ∧ w.heap.size ≤ W1.heap.size) := by
    rw [hW1]
    exact ⟨empty_own w, (Below.refl _ _).alloc (Nat.le_refl _) _, hr.below ((Below.refl _ _).alloc (Nat.le_refl _) _) (Nat.le_refl _), by simp⟩
  have HL := Lib.hid (show _ ∧ _ from ⟨hl, h1⟩)
  have HW1 := Lib.hid hW1
  have eP : make.Enters 81 := make.enters_of Tryd.func81 (by kernel_rfl) rfl
  unfold make.Enters at eP
  have HEP := Lib.hid eP
  clear hr hl hW1 h1 eP
  go_enter Tryd.func79, Tryd.ntmps79
  go_wp2_with (rw [← HW1.out]; at_builtin; refine wpList_appAll W1 rfl (.tmp 3) (.tmp 4) 32 rfl w.heap.size 3 Tryd.underlying32 near.infoInt _ [] l rfl HA.out.1 v rfl HA.out.2.2.1 (by have := HL.out; simp; omega) HA.out.2.2.2 ?_)
  intro v2 w2 ho hg hlt
  have hb2 : Below w.heap.size w w2 := HA.out.2.1.trans (below_of_grown hg HA.out.2.2.2 fun k hk => (World.ownsRow.lt HA.out.1 k hk).1)
  try simp only [List.nil_append] at ho
  have ho : OwnI 3 w2 w.heap.size v2 l := ho
  have HO : Hid (OwnI 3 w2 w.heap.size v2 l ∧ Below w.heap.size w w2) := ⟨ho, hb2⟩
  clear ho hg hlt hb2 HA HW1
  have hne : v2 ≠ .slice none 0 0 := fun e => by
    have h := HO.out.1.1
    have h2 := HO.out.1.2
    rcases HO.out.1.shape with ⟨_, h3⟩ | ⟨g, c, h3⟩
    · have := HL.out.2; rw [h3] at this; simp at this
    · rw [h3] at e; cases e
  obtain ⟨g, c, rfl, hg1, hg2, hc1, hc2, hlen, hh⟩ := Go.Lib.holds_of_ownsRow (enc := Value.int .i64) (zs := l) HO.out.1 hne
  obtain ⟨n, hn⟩ : ∃ n, n = l.length := ⟨_, rfl⟩
  obtain ⟨d, hd⟩ : ∃ d, d = l.toArray := ⟨_, rfl⟩
  have hds : d.size = n := by rw [hd, hn]; simp
  have hdl : d.toList = l := by rw [hd]
  rw [← hd] at hh
  have hcon := AnyE.slices_DeleteFunc Tryd.delF (Value.int .i64) (fun _ => rfl) (fun x => decide (x < 0)) 81 #[] HEP.out 0 Tryd.zeroValue3 g 0 c d w2
    (fun W x _ => neg_gives x W) (fun _ _ _ x _ => neg_gives x _) hh (by rw [hds, hn]; have := HL.out; omega) (by rw [hds, hn]; exact hc1)
  change Calls Tryd.prog 80 _ _ _ at hcon
  rw [hds, hdl] at hcon
  have HF : Hid (∀ q, OwnI 3 (putRow (Value.int .i64) (Sort.ahead w2 q) g 0 ((l.filter fun x => !decide (x < 0)) ++ List.replicate (n - (l.filter fun x => !decide (x < 0)).length) 0).toArray) w.heap.size (.slice (some ⟨g, 0, none⟩) (l.filter fun x => !decide (x < 0)).length c) (l.filter fun x => !decide (x < 0)) ∧ Below w.heap.size w (putRow (Value.int .i64) (Sort.ahead w2 q) g 0 ((l.filter fun x => !decide (x < 0)) ++ List.replicate (n - (l.filter fun x => !decide (x < 0)).length) 0).toArray)) := fun q => by
    have hle := List.length_filter_le (fun x : Int => !decide (x < 0)) l
    refine ⟨?_, Go.Lib.below_putRow HO.out.2 hg1⟩
    have h := Go.Lib.ownsRow_putRow (enc := Value.int .i64) (q := q) (k := (l.filter fun x => !decide (x < 0)).length) (zs := l) (ys := (l.filter fun x => !decide (x < 0)) ++ List.replicate (n - (l.filter fun x => !decide (x < 0)).length) 0) HO.out.1 (by rw [List.length_append, List.length_replicate]; omega) hle
    rw [List.take_left'] at h
    · exact h
    · rfl
  rw [← hn]
  obtain ⟨r, hr⟩ : ∃ r, r = l.filter fun x => !decide (x < 0) := ⟨_, rfl⟩
  rw [← hr] at hcon HF
  have HRR := Lib.hid hr
  clear hg1 hg2 hc1 hc2 hlen hh hd hds hdl hne HO hr hn
  go_wp2_with fail
  refine hcon.mono ?_
  clear hcon
  rintro e w3 ⟨rfl, q, rfl⟩
  have HR := Lib.hid (HF.out q)
  obtain ⟨W3, hW3⟩ : ∃ W3, W3 = putRow (Value.int .i64) (Sort.ahead w2 q) g 0 (r ++ List.replicate (n - r.length) 0).toArray := ⟨_, rfl⟩
  rw [← hW3] at HR ⊢
  clear hW3 HF
  go_wp2
  go_ret
  exact ⟨_, rfl, by rw [← HRR.out]; exact HR.out.1, HR.out.2⟩
theorem rdy_low {N M : Nat} {s r t q : ByteArray} {la lb : List Int} (f : Rdy N s r la M t q lb) : (∀ x, x ∈ la → -1 ≤ x) ∧ ∀ x, x ∈ lb → -1 ≤ x := by
  have key : ∀ l : List Int, pbs (plc l) = l → ∀ x, x ∈ l → -1 ≤ x := fun l h x hx => by
    rw [← h] at hx
    obtain ⟨p, _, rfl⟩ := List.mem_map.1 hx
    omega
  exact ⟨key la f.a, key lb f.b⟩
theorem rdy_fit {N M : Nat} {s r t q : ByteArray} {la lb : List Int} (f : Rdy N s r la M t q lb) : (placed (plc la)).length = (placed (plc lb)).length ∧ (placed (plc la)).length ≤ 100 ∧ (∀ z, z ∈ placed (plc la) → z < N) ∧ (∀ z, z ∈ placed (plc lb) → z < M) ∧ (swB N s r (placed (plc la)) M t q (placed (plc lb)) = true ↔ Fit (gob.gr N s r) (gob.gr M t q) (plc la) (plc lb)) := by
  have hl : (plc la).length = (plc lb).length := by rw [plc_len, plc_len]; exact f.len
  have ha : Ok (gob.gr N s r) (plc la) := fun i hi => (f.lay i hi).2.1
  have hb : Ok (gob.gr M t q) (plc lb) := fun i hi => (f.lay i (by rw [hl]; exact hi)).2.2
  have hz : ∀ i, i < (plc la).length → ((plc la).getD i 0 = 0 ↔ (plc lb).getD i 0 = 0) := fun i hi => (f.lay i hi).1
  have hp := placed_zip hl hz
  refine ⟨hp.1, ?_, placed_els ha, placed_els hb, ?_⟩
  · unfold placed
    rw [List.length_map]
    have h1 := List.length_filter_le (fun p => p != 0) (plc la)
    rw [plc_len] at h1
    have := f.sz.2.2.1.2
    omega
  · have e := gob.sw_way (N := N) (M := M) (sa := s) (ra := r) (sb := t) (rb := q) hp.1 (placed_els ha) (placed_els hb)
    rw [fit_iff hl ha hb, e]
    exact ⟨fun h => ⟨hz, h⟩, fun h => h.2⟩

set_option maxHeartbeats 6400000 in
set_option maxRecDepth 100000 in
theorem pFit_any (n : Int) (s r : ByteArray) (va : Value) (la : List Int) (m : Int) (t q : ByteArray) (vb : Value) (lb : List Int) (w : World) (ha : Reads w va la) (hb : Reads w vb lb) (hla : la.length ≤ 1000000) (hlb : lb.length ≤ 1000000) (hs : s.size ≤ 9223372036854775807) (hr : r.size ≤ 9223372036854775807) (ht : t.size ≤ 9223372036854775807) (hq : q.size ≤ 9223372036854775807) :
    Calls Tryd.prog 33 #[.agg #[.int .i64 n, .string s, .string r], va, .agg #[.int .i64 m, .string t, .string q], vb] w fun e w' => ∃ b : Bool, e = .returned (.bool b) ∧ (b = true ↔ readyB n s r la m t q lb = true ∧ Fit (gob.gr n.toNat s r) (gob.gr m.toNat t q) (plc la) (plc lb)) ∧ Below w.heap.size w w' := by
  by_cases hrd : readyB n s r la m t q lb = true
  rotate_left
  · have HNR := Lib.hid hrd
    have HRD : Hid (readyB n s r la m t q lb = false) := by simpa [Hid] using hrd
    clear hrd
    obtain ⟨a1o, c1, rfl⟩ := ha.len
    obtain ⟨a2o, c2, rfl⟩ := hb.len
    obtain ⟨W0, hW0⟩ : ∃ W0, W0 = (w.alloc (.cells #[.int .i64 n, .string s, .string r] 24)).alloc (.cells #[.int .i64 m, .string t, .string q] 24) := ⟨_, rfl⟩
    have AW0 : Hid (Below w.heap.size w W0) := by rw [hW0]; exact ((Below.refl _ _).alloc (Nat.le_refl _) _).alloc (by simp) _
    have RA0 := Lib.hid (ha.below AW0.out (Nat.le_refl _))
    have RB0 := Lib.hid (hb.below AW0.out (Nat.le_refl _))
    have BA0 : Hid (Box 24 W0 w.heap.size n s r) := by
      rw [hW0]; exact (Box.new 24 w w.heap.size rfl n s r).below ((Below.refl (w.heap.size + 1) _).alloc (by simp) _) (by omega)
    have BB0 : Hid (Box 24 W0 (w.heap.size + 1) m t q) := by
      rw [hW0]; exact Box.new 24 (w.alloc (.cells #[.int .i64 n, .string s, .string r] 24)) (w.heap.size + 1) (by simp) m t q
    have HZ := Lib.hid (show _ ∧ _ ∧ _ ∧ _ ∧ _ ∧ _ from ⟨hs, hr, ht, hq, hla, hlb⟩)
    have HW0 := Lib.hid hW0
    clear ha hb hs hr ht hq hla hlb hW0
    have eP : make.Enters 79 := make.enters_of Tryd.func79 (by kernel_rfl) rfl
    unfold make.Enters at eP
    go_enter Tryd.func33, Tryd.ntmps33
    go_wp2_with fail
    rw [← HW0.out]
    clear HW0
    have hc := areReady_any n s r _ la m t q _ lb W0 RA0.out RB0.out HZ.out.2.2.2.2.1 HZ.out.2.2.2.2.2 HZ.out.1 HZ.out.2.1 HZ.out.2.2.1 HZ.out.2.2.2.1
    rw [HRD.out] at hc
    refine hc.mono ?_
    clear hc
    rintro e w1 ⟨rfl, hw⟩
    have AW1 : Hid (Below w.heap.size w w1) := AW0.out.trans (hw.mono AW0.out.size)
    have BA1 := Lib.hid (BA0.out.below hw BA0.out.lt)
    have BB1 := Lib.hid (BB0.out.below hw BB0.out.lt)
    have RA1 := Lib.hid (RA0.out.below hw (Nat.le_refl _))
    have RB1 := Lib.hid (RB0.out.below hw (Nat.le_refl _))
    clear hw AW0 BA0 BB0 RA0 RB0
    go_wp2
    go_ret
    exact ⟨false, rfl, ⟨fun h => (by cases h), fun h => absurd h.1 HNR.out⟩, AW1.out⟩
  · skip
    obtain ⟨e1, e2⟩ := ready_nat hrd
    obtain ⟨N, rfl⟩ : ∃ N : Nat, n = (N : Int) := ⟨n.toNat, e1.symm⟩
    obtain ⟨M, rfl⟩ : ∃ M : Nat, m = (M : Int) := ⟨m.toNat, e2.symm⟩
    have HRD := Lib.hid hrd
    have HF := Lib.hid (ready_facts hrd)
    clear hrd e1 e2
    simp only [Int.toNat_natCast]
    obtain ⟨a1o, c1, rfl⟩ := ha.len
    obtain ⟨a2o, c2, rfl⟩ := hb.len
    obtain ⟨W0, hW0⟩ : ∃ W0, W0 = (w.alloc (.cells #[.int .i64 (N : Int), .string s, .string r] 24)).alloc (.cells #[.int .i64 (M : Int), .string t, .string q] 24) := ⟨_, rfl⟩
    have AW0 : Hid (Below w.heap.size w W0) := by rw [hW0]; exact ((Below.refl _ _).alloc (Nat.le_refl _) _).alloc (by simp) _
    have RA0 := Lib.hid (ha.below AW0.out (Nat.le_refl _))
    have RB0 := Lib.hid (hb.below AW0.out (Nat.le_refl _))
    have BA0 : Hid (Box 24 W0 w.heap.size (N : Int) s r) := by
      rw [hW0]; exact (Box.new 24 w w.heap.size rfl (N : Int) s r).below ((Below.refl (w.heap.size + 1) _).alloc (by simp) _) (by omega)
    have BB0 : Hid (Box 24 W0 (w.heap.size + 1) (M : Int) t q) := by
      rw [hW0]; exact Box.new 24 (w.alloc (.cells #[.int .i64 (N : Int), .string s, .string r] 24)) (w.heap.size + 1) (by simp) (M : Int) t q
    have HZ := Lib.hid (show _ ∧ _ ∧ _ ∧ _ ∧ _ ∧ _ from ⟨hs, hr, ht, hq, hla, hlb⟩)
    have HW0 := Lib.hid hW0
    clear ha hb hs hr ht hq hla hlb hW0
    have eP : make.Enters 79 := make.enters_of Tryd.func79 (by kernel_rfl) rfl
    unfold make.Enters at eP
    go_enter Tryd.func33, Tryd.ntmps33
    go_wp2_with fail
    rw [← HW0.out]
    clear HW0
    have hc := areReady_any (N : Int) s r _ la (M : Int) t q _ lb W0 RA0.out RB0.out HZ.out.2.2.2.2.1 HZ.out.2.2.2.2.2 HZ.out.1 HZ.out.2.1 HZ.out.2.2.1 HZ.out.2.2.2.1
    rw [HRD.out] at hc
    refine hc.mono ?_
    clear hc
    rintro e w1 ⟨rfl, hw⟩
    have AW1 : Hid (Below w.heap.size w w1) := AW0.out.trans (hw.mono AW0.out.size)
    have BA1 := Lib.hid (BA0.out.below hw BA0.out.lt)
    have BB1 := Lib.hid (BB0.out.below hw BB0.out.lt)
    have RA1 := Lib.hid (RA0.out.below hw (Nat.le_refl _))
    have RB1 := Lib.hid (RB0.out.below hw (Nat.le_refl _))
    clear hw AW0 BA0 BB0 RA0 RB0
    have hft := rdy_fit HF.out
    have hlow := rdy_low HF.out
    have HPL : Hid ((placed (plc la)).length = (placed (plc lb)).length ∧ (placed (plc la)).length ≤ 100 ∧ (∀ z, z ∈ placed (plc la) → z < N) ∧ (∀ z, z ∈ placed (plc lb) → z < M)) := ⟨hft.1, hft.2.1, hft.2.2.1, hft.2.2.2.1⟩
    have HPL2 : Hid (la.filter (fun x => !decide (x < 0)) = ints (placed (plc la)) ∧ lb.filter (fun x => !decide (x < 0)) = ints (placed (plc lb))) := ⟨lying_placed la hlow.1, lying_placed lb hlow.2⟩
    obtain ⟨bs, hbs⟩ : ∃ b, b = swB N s r (placed (plc la)) M t q (placed (plc lb)) := ⟨_, rfl⟩
    have HSW : Hid (bs = true ↔ Fit (gob.gr N s r) (gob.gr M t q) (plc la) (plc lb)) := by rw [Hid, hbs]; exact hft.2.2.2.2
    have HBS := Lib.hid hbs
    have HLN : Hid ((1 ≤ la.length ∧ la.length ≤ 1000) ∧ (1 ≤ lb.length ∧ lb.length ≤ 1000)) := by
      have h1 := HF.out.sz.2.2.1
      have h2 := HF.out.len
      exact ⟨⟨by omega, by omega⟩, ⟨by omega, by omega⟩⟩
    clear hft hlow hbs
    obtain ⟨a0, a1, a2⟩ := BA1.out.c
    obtain ⟨b0, b1, b2⟩ := BB1.out.c
    have AW2 : Hid (Below w.heap.size w w1.drew) := AW1.out.drew
    have BA2 : Hid (Box 24 w1.drew w.heap.size N s r) := BA1.out
    have BB2 : Hid (Box 24 w1.drew (w.heap.size + 1) M t q) := BB1.out
    have RA2 : Hid (Reads w1.drew (.slice a1o la.length c1) la) := RA1.out.below (Below.refl _ _).drew (Nat.le_refl _)
    have RB2 : Hid (Reads w1.drew (.slice a2o lb.length c2) lb) := RB1.out.below (Below.refl _ _).drew (Nat.le_refl _)
    clear AW1 BA1 BB1 RA1 RB1
    have q0 : ∀ QQ : Wd (fun Q => Q.cell? ⟨w.heap.size, 0, none⟩ = some (.int .i64 N) ∧ Q.cell? ⟨w.heap.size, 1, none⟩ = some (.string s) ∧ Q.cell? ⟨w.heap.size, 2, none⟩ = some (.string r) ∧ Q.cell? ⟨w.heap.size + 1, 0, none⟩ = some (.int .i64 M) ∧ Q.cell? ⟨w.heap.size + 1, 1, none⟩ = some (.string t) ∧ Q.cell? ⟨w.heap.size + 1, 2, none⟩ = some (.string q)), QQ.w.cell? ⟨w.heap.size, 0, none⟩ = some (.int .i64 N) := fun QQ => QQ.ok.1
    have q1 : ∀ QQ : Wd (fun Q => Q.cell? ⟨w.heap.size, 0, none⟩ = some (.int .i64 N) ∧ Q.cell? ⟨w.heap.size, 1, none⟩ = some (.string s) ∧ Q.cell? ⟨w.heap.size, 2, none⟩ = some (.string r) ∧ Q.cell? ⟨w.heap.size + 1, 0, none⟩ = some (.int .i64 M) ∧ Q.cell? ⟨w.heap.size + 1, 1, none⟩ = some (.string t) ∧ Q.cell? ⟨w.heap.size + 1, 2, none⟩ = some (.string q)), QQ.w.cell? ⟨w.heap.size, 1, none⟩ = some (.string s) := fun QQ => QQ.ok.2.1
    have q2 : ∀ QQ : Wd (fun Q => Q.cell? ⟨w.heap.size, 0, none⟩ = some (.int .i64 N) ∧ Q.cell? ⟨w.heap.size, 1, none⟩ = some (.string s) ∧ Q.cell? ⟨w.heap.size, 2, none⟩ = some (.string r) ∧ Q.cell? ⟨w.heap.size + 1, 0, none⟩ = some (.int .i64 M) ∧ Q.cell? ⟨w.heap.size + 1, 1, none⟩ = some (.string t) ∧ Q.cell? ⟨w.heap.size + 1, 2, none⟩ = some (.string q)), QQ.w.cell? ⟨w.heap.size, 2, none⟩ = some (.string r) := fun QQ => QQ.ok.2.2.1
    have q3 : ∀ QQ : Wd (fun Q => Q.cell? ⟨w.heap.size, 0, none⟩ = some (.int .i64 N) ∧ Q.cell? ⟨w.heap.size, 1, none⟩ = some (.string s) ∧ Q.cell? ⟨w.heap.size, 2, none⟩ = some (.string r) ∧ Q.cell? ⟨w.heap.size + 1, 0, none⟩ = some (.int .i64 M) ∧ Q.cell? ⟨w.heap.size + 1, 1, none⟩ = some (.string t) ∧ Q.cell? ⟨w.heap.size + 1, 2, none⟩ = some (.string q)), QQ.w.cell? ⟨w.heap.size + 1, 0, none⟩ = some (.int .i64 M) := fun QQ => QQ.ok.2.2.2.1
    have q4 : ∀ QQ : Wd (fun Q => Q.cell? ⟨w.heap.size, 0, none⟩ = some (.int .i64 N) ∧ Q.cell? ⟨w.heap.size, 1, none⟩ = some (.string s) ∧ Q.cell? ⟨w.heap.size, 2, none⟩ = some (.string r) ∧ Q.cell? ⟨w.heap.size + 1, 0, none⟩ = some (.int .i64 M) ∧ Q.cell? ⟨w.heap.size + 1, 1, none⟩ = some (.string t) ∧ Q.cell? ⟨w.heap.size + 1, 2, none⟩ = some (.string q)), QQ.w.cell? ⟨w.heap.size + 1, 1, none⟩ = some (.string t) := fun QQ => QQ.ok.2.2.2.2.1
    have q5 : ∀ QQ : Wd (fun Q => Q.cell? ⟨w.heap.size, 0, none⟩ = some (.int .i64 N) ∧ Q.cell? ⟨w.heap.size, 1, none⟩ = some (.string s) ∧ Q.cell? ⟨w.heap.size, 2, none⟩ = some (.string r) ∧ Q.cell? ⟨w.heap.size + 1, 0, none⟩ = some (.int .i64 M) ∧ Q.cell? ⟨w.heap.size + 1, 1, none⟩ = some (.string t) ∧ Q.cell? ⟨w.heap.size + 1, 2, none⟩ = some (.string q)), QQ.w.cell? ⟨w.heap.size + 1, 2, none⟩ = some (.string q) := fun QQ => QQ.ok.2.2.2.2.2
    have hne : Nonempty (Wd (fun Q => Q.cell? ⟨w.heap.size, 0, none⟩ = some (.int .i64 N) ∧ Q.cell? ⟨w.heap.size, 1, none⟩ = some (.string s) ∧ Q.cell? ⟨w.heap.size, 2, none⟩ = some (.string r) ∧ Q.cell? ⟨w.heap.size + 1, 0, none⟩ = some (.int .i64 M) ∧ Q.cell? ⟨w.heap.size + 1, 1, none⟩ = some (.string t) ∧ Q.cell? ⟨w.heap.size + 1, 2, none⟩ = some (.string q))) := ⟨⟨w1.drew, ⟨(Box.c BA2.out).1, (Box.c BA2.out).2.1, (Box.c BA2.out).2.2, (Box.c BB2.out).1, (Box.c BB2.out).2.1, (Box.c BB2.out).2.2⟩⟩⟩
    clear a0 a1 a2 b0 b1 b2
    go_wp2_with fail
    refine chain (S := (fun Q => Q.cell? ⟨w.heap.size, 0, none⟩ = some (.int .i64 N) ∧ Q.cell? ⟨w.heap.size, 1, none⟩ = some (.string s) ∧ Q.cell? ⟨w.heap.size, 2, none⟩ = some (.string r) ∧ Q.cell? ⟨w.heap.size + 1, 0, none⟩ = some (.int .i64 M) ∧ Q.cell? ⟨w.heap.size + 1, 1, none⟩ = some (.string t) ∧ Q.cell? ⟨w.heap.size + 1, 2, none⟩ = some (.string q))) [([true, true, true, false, true, true, true], 3), ([], 7), ([], 8)] [false, false, false, false, false, false, false, false, false, true] (by kernel_rfl) (by kernel_rfl) (by kernel_rfl) ⟨(Box.c BA2.out).1, (Box.c BA2.out).2.1, (Box.c BA2.out).2.2, (Box.c BB2.out).1, (Box.c BB2.out).2.1, (Box.c BB2.out).2.2⟩ ?_
    simp only [wpSegs, pickB, List.dropLast_cons_cons, List.dropLast_singleton, List.getLast?_cons_cons, List.getLast?_singleton, List.toList_toArray, List.getElem?_toArray, List.getElem?_cons_succ, List.getElem?_cons_zero, Option.toList_some]
    repeat (go_big_quiet_step (fail))
    refine wpQuiet_nil ?_
    intro K hK
    go_wp2_with fail
    refine (lying_any _ la _ RA2.out HLN.out.1.1 HLN.out.1.2).mono ?_
    rintro er Z1 ⟨v1, rfl, ho1, hb⟩
    have AW3 : Hid (Below w.heap.size w Z1) := AW2.out.trans (hb.mono AW2.out.size)
    have BA3 := Lib.hid (BA2.out.below hb BA2.out.lt)
    have BB3 := Lib.hid (BB2.out.below hb BB2.out.lt)
    have RB3 := Lib.hid (RB2.out.below hb (Nat.le_refl _))
    have HO1 := Lib.hid ho1
    clear hb ho1 AW2 BA2 BB2 RA2 RB2
    go_wp2_with fail
    refine hK _ _ ⟨(Box.c BA3.out).1, (Box.c BA3.out).2.1, (Box.c BA3.out).2.2, (Box.c BB3.out).1, (Box.c BB3.out).2.1, (Box.c BB3.out).2.2⟩ ?_
    clear hK K
    repeat (go_big_quiet_step (fail))
    refine wpQuiet_nil ?_
    intro K hK
    go_wp2_with fail
    refine (lying_any _ lb _ RB3.out HLN.out.2.1 HLN.out.2.2).mono ?_
    rintro er Z2 ⟨v2, rfl, ho2, hb⟩
    have AW4 : Hid (Below w.heap.size w Z2) := AW3.out.trans (hb.mono AW3.out.size)
    have BA4 := Lib.hid (BA3.out.below hb BA3.out.lt)
    have BB4 := Lib.hid (BB3.out.below hb BB3.out.lt)
    have HO2 := Lib.hid (HO1.out.below hb (Nat.le_refl _))
    have HO3 := Lib.hid ho2
    clear hb ho2 AW3 BA3 BB3 RB3 HO1
    go_wp2_with fail
    refine hK _ _ ⟨(Box.c BA4.out).1, (Box.c BA4.out).2.1, (Box.c BA4.out).2.2, (Box.c BB4.out).1, (Box.c BB4.out).2.1, (Box.c BB4.out).2.2⟩ ?_
    clear hK K
    repeat (go_big_quiet_step (fail))
    refine wpQuiet_nil ?_
    intro K hK
    go_wp2_with fail
    have hsw := sameWay_any N s r (placed (plc la)) v1 M t q (placed (plc lb)) v2 Z2 HPL.out.1 HPL.out.2.1 HPL.out.2.2.1 HPL.out.2.2.2 HF.out.sz.1.2 HF.out.sz.2.1.2 HF.out.sa HF.out.ra HF.out.sb HF.out.rb (by rw [← HPL2.out.1]; exact HO2.out.reads) (by rw [← HPL2.out.2]; exact HO3.out.reads) (room_own HO2.out) (room_own HO3.out)
    refine hsw.mono ?_
    clear hsw
    rintro er Z3 ⟨rfl, hb⟩
    have AW5 : Hid (Below w.heap.size w Z3) := AW4.out.trans (hb.mono AW4.out.size)
    have BA5 := Lib.hid (BA4.out.below hb BA4.out.lt)
    have BB5 := Lib.hid (BB4.out.below hb BB4.out.lt)
    clear hb AW4 BA4 BB4 HO2 HO3
    go_wp2_with fail
    refine hK _ _ ⟨(Box.c BA5.out).1, (Box.c BA5.out).2.1, (Box.c BA5.out).2.2, (Box.c BB5.out).1, (Box.c BB5.out).2.1, (Box.c BB5.out).2.2⟩ ?_
    clear hK K
    repeat (go_big_quiet_step (fail))
    refine wpQuiet_nil ?_
    clear q0 q1 q2 q3 q4 q5 hne
    rw [← HBS.out]
    go_wp2
    go_ret
    exact ⟨bs, rfl, ⟨fun h => ⟨HRD.out, HSW.out.1 h⟩, fun h => HSW.out.2 h.2⟩, AW5.out⟩
end Go.Proofs.YtpcnoiigbmiejaaDoor.pbi
