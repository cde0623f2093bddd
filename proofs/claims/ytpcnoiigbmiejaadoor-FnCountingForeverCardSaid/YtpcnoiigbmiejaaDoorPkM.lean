/- Several texts in one: PbI, PbL, PbK, PbM. -/
import Derived.Test.YtpcnoiigbmiejaaDoorPkC
import Derived.Test.YtpcnoiigbmiejaaDoorChain
import Derived.Test.YtpcnoiigbmiejaaDoorIns
import Derived.Test.YtpcnoiigbmiejaaDoorPkQ
import Derived.Test.YtpcnoiigbmiejaaDoorTab
import Derived.Test.YtpcnoiigbmiejaaDoorMake
import Derived.Laws.EntriesVeiled
/- The program's game of pebbles in memory. -/
namespace Go.Proofs.YtpcnoiigbmiejaaDoor.pbi
set_option linter.unusedVariables false
set_option linter.unusedSimpArgs false
open Go.ChangeShapes Go.WideShapes Go.ChangeAt Go.RowKit
open Go.Proofs.YtpcnoiigbmiejaaDoor.lib Go.Proofs.YtpcnoiigbmiejaaDoor.st Go.Proofs.YtpcnoiigbmiejaaDoor.flow Go.Proofs.YtpcnoiigbmiejaaDoor.chain Go.Proofs.YtpcnoiigbmiejaaDoor.base Go.Proofs.YtpcnoiigbmiejaaDoor.fits Go.Proofs.YtpcnoiigbmiejaaDoor.still Go.Proofs.YtpcnoiigbmiejaaDoor.gow Go.Proofs.YtpcnoiigbmiejaaDoor.peb

/-! lists of bools -/
def bcs (l : List Bool) : List Value := l.map Value.bool
def OwnBl (w : World) (B : Nat) (v : Value) (l : List Bool) : Prop := w.ownsRow B 4 1 v l.length (bcs l)
theorem bcs_get (l : List Bool) (i : Nat) (h : i < l.length) : (bcs l)[i]? = some (.bool (l.getD i false)) := by
  simp [bcs, List.getElem?_map, h, List.getD_eq_getElem?_getD]
theorem bcs_set (l : List Bool) (i : Nat) (b : Bool) : (bcs l).set i (.bool b) = bcs (l.set i b) := by simp [bcs]
/-- a list that lies in a block of its own -/
structure RdB (w : World) (g n : Nat) (l : List Bool) : Prop where
  len : n = l.length
  lt : g < w.heap.size
  cell : ∀ i, i < n → w.cell? ⟨g, i, none⟩ = some (.bool (l.getD i false))
theorem RdB.of {w : World} {B g n c : Nat} {l : List Bool} (h : OwnBl w B (.slice (some ⟨g, 0, none⟩) n c) l) (hn : n = l.length) : RdB w g n l :=
  by
    subst hn
    exact ⟨rfl, (World.ownsRow.lt h g rfl).2, fun i hi => by
      have := World.ownsRow.cellAt h i (by omega)
      rw [this, bcs_get l i hi]⟩
theorem RdB.block {w w' : World} {g n : Nat} {l : List Bool} (h : RdB w g n l) (hb : w'.heap[g]? = w.heap[g]?) : RdB w' g n l :=
  ⟨h.len, by
    have := h.lt
    rw [Array.getElem?_eq_getElem this] at hb
    exact (Array.getElem?_eq_some_iff.1 hb).1, fun i hi => (World.cell?_of_block (w := w) (w' := w') (a := ⟨g, i, none⟩) hb).trans (h.cell i hi)⟩
theorem RdB.below {w w' : World} {g n C : Nat} {l : List Bool} (h : RdB w g n l) (hb : Below C w w') (hC : w.heap.size ≤ C) : RdB w' g n l := h.block (hb.block g (by have := h.lt; omega))

/-! the game -/
/-- two structures, how many pebbles, how many pairs, which ways fit, which are won, whether it counts -/
def PG (w : World) (H N : Nat) (s r : ByteArray) (M : Nat) (t q : ByteArray) (k P gf cf gl cl n : Nat) (mt : Bool) : Prop :=
  w.heap[H]? = some (.cells #[.int .i64 N, .string s, .string r, .int .i64 M, .string t, .string q, .int .i64 k, .int .i64 P, .slice (some ⟨gf, 0, none⟩) n cf, .slice (some ⟨gl, 0, none⟩) n cl, .bool mt] 67 (0, 0))
section
variable {w w' : World} {H N : Nat} {s r : ByteArray} {M : Nat} {t q : ByteArray} {k P gf cf gl cl n : Nat} {mt : Bool}
theorem PG.lt (h : PG w H N s r M t q k P gf cf gl cl n mt) : H < w.heap.size := (Array.getElem?_eq_some_iff.1 h).1
theorem PG.block (h : PG w H N s r M t q k P gf cf gl cl n mt) (hb : w'.heap[H]? = w.heap[H]?) : PG w' H N s r M t q k P gf cf gl cl n mt := hb.trans h
theorem PG.below {C : Nat} (h : PG w H N s r M t q k P gf cf gl cl n mt) (hb : Below C w w') (hC : w.heap.size ≤ C) : PG w' H N s r M t q k P gf cf gl cl n mt := h.block (hb.block H (by have := h.lt; omega))
theorem PG.drew (h : PG w H N s r M t q k P gf cf gl cl n mt) : PG w.drew H N s r M t q k P gf cf gl cl n mt := h
theorem PG.free (h : PG w H N s r M t q k P gf cf gl cl n mt) (j : Nat) : w.frozen? ⟨H, j, none⟩ = false := frozen_of_row w H j _ _ h
theorem PG.c0 (h : PG w H N s r M t q k P gf cf gl cl n mt) : w.cell? ⟨H, 0, none⟩ = some (.int .i64 N) := by rw [cell_of_row w H 0 _ _ (0, 0) h]; rfl
theorem PG.c1 (h : PG w H N s r M t q k P gf cf gl cl n mt) : w.cell? ⟨H, 1, none⟩ = some (.string s) := by rw [cell_of_row w H 1 _ _ (0, 0) h]; rfl
theorem PG.c2 (h : PG w H N s r M t q k P gf cf gl cl n mt) : w.cell? ⟨H, 2, none⟩ = some (.string r) := by rw [cell_of_row w H 2 _ _ (0, 0) h]; rfl
theorem PG.c3 (h : PG w H N s r M t q k P gf cf gl cl n mt) : w.cell? ⟨H, 3, none⟩ = some (.int .i64 M) := by rw [cell_of_row w H 3 _ _ (0, 0) h]; rfl
theorem PG.c4 (h : PG w H N s r M t q k P gf cf gl cl n mt) : w.cell? ⟨H, 4, none⟩ = some (.string t) := by rw [cell_of_row w H 4 _ _ (0, 0) h]; rfl
theorem PG.c5 (h : PG w H N s r M t q k P gf cf gl cl n mt) : w.cell? ⟨H, 5, none⟩ = some (.string q) := by rw [cell_of_row w H 5 _ _ (0, 0) h]; rfl
theorem PG.c6 (h : PG w H N s r M t q k P gf cf gl cl n mt) : w.cell? ⟨H, 6, none⟩ = some (.int .i64 k) := by rw [cell_of_row w H 6 _ _ (0, 0) h]; rfl
theorem PG.c7 (h : PG w H N s r M t q k P gf cf gl cl n mt) : w.cell? ⟨H, 7, none⟩ = some (.int .i64 P) := by rw [cell_of_row w H 7 _ _ (0, 0) h]; rfl
theorem PG.c8 (h : PG w H N s r M t q k P gf cf gl cl n mt) : w.cell? ⟨H, 8, none⟩ = some (.slice (some ⟨gf, 0, none⟩) n cf) := by rw [cell_of_row w H 8 _ _ (0, 0) h]; rfl
theorem PG.c9 (h : PG w H N s r M t q k P gf cf gl cl n mt) : w.cell? ⟨H, 9, none⟩ = some (.slice (some ⟨gl, 0, none⟩) n cl) := by rw [cell_of_row w H 9 _ _ (0, 0) h]; rfl
theorem PG.c10 (h : PG w H N s r M t q k P gf cf gl cl n mt) : w.cell? ⟨H, 10, none⟩ = some (.bool mt) := by rw [cell_of_row w H 10 _ _ (0, 0) h]; rfl
theorem PG.setL (h : PG w H N s r M t q k P gf cf gl cl n mt) (g c : Nat) : PG (w.setCell ⟨H, 9, none⟩ (.slice (some ⟨g, 0, none⟩) n c)) H N s r M t q k P gf cf g c n mt := heap_setCell_same w H 9 _ _ _ h
theorem PG.setM (h : PG w H N s r M t q k P gf cf gl cl n mt) (b : Bool) : PG (w.setCell ⟨H, 10, none⟩ (.bool b)) H N s r M t q k P gf cf gl cl n b := heap_setCell_same w H 10 _ _ _ h
end
/-- places as the program writes them: an element, or -1 -/
def pbs (ps : List Nat) : List Int := ps.map fun (p : Nat) => (p : Int) - 1
theorem pbs_len (ps : List Nat) : (pbs ps).length = ps.length := by simp [pbs]
theorem pbs_get {ps : List Nat} {i : Nat} (h : i < ps.length) : (pbs ps).getD i 0 = ((ps.getD i 0 : Nat) : Int) - 1 := by
  simp [pbs, List.getD_eq_getElem?_getD, List.getElem?_eq_getElem h]
/-- the sizes -/
def Sz (N M k P : Nat) : Prop := (1 ≤ N ∧ N ≤ 8) ∧ (1 ≤ M ∧ M ≤ 8) ∧ (1 ≤ k ∧ k ≤ 3) ∧ P = N * M + 1
theorem Sz.p {N M k P : Nat} (h : Sz N M k P) : 2 ≤ P ∧ P ≤ 65 ∧ P ^ k ≤ 274625 ∧ 1 ≤ P ^ k := by
  obtain ⟨⟨h1, h2⟩, ⟨h3, h4⟩, ⟨h5, h6⟩, h7⟩ := h
  have a1 : N * M ≤ 8 * 8 := Nat.mul_le_mul h2 h4
  have a2 : 1 ≤ N * M := Nat.mul_pos h1 h3
  have hp : P ≤ 65 := by omega
  have : P ^ k ≤ 65 ^ 3 := Nat.le_trans (Nat.pow_le_pow_left hp k) (Nat.pow_le_pow_right (by decide) h6)
  exact ⟨by omega, hp, by omega, Nat.pow_pos (by omega)⟩
/-- places of either structure -/
def Lay (N M : Nat) (ps qs : List Nat) : Prop := ∀ i, i < ps.length → (ps.getD i 0 = 0 ↔ qs.getD i 0 = 0) ∧ ps.getD i 0 ≤ N ∧ qs.getD i 0 ≤ M
theorem und_drop {N M : Nat} {ps qs : List Nat} (hl : ps.length = qs.length) {j : Nat} (hj : j < ps.length) :
    und (N * M + 1) ((List.zipWith (cmb M) ps qs).drop j) = cmb M (ps.getD j 0) (qs.getD j 0) + (N * M + 1) * und (N * M + 1) ((List.zipWith (cmb M) ps qs).drop (j + 1)) := by
  have hz : j < (List.zipWith (cmb M) ps qs).length := by rw [zip_len hl]; exact hj
  rw [List.drop_eq_getElem_cons hz]
  show _ + _ = _
  rw [List.getElem_zipWith]
  simp [List.getD_eq_getElem?_getD, List.getElem?_eq_getElem hj, List.getElem?_eq_getElem (hl ▸ hj)]
theorem pb_lies {w : World} {v : Value} {ps : List Nat} {k : Nat} (h : Reads w v (pbs ps)) (hk : ps.length = k) (h1 : 1 ≤ k) : ∃ b off c, v = .slice (some ⟨b, off, none⟩) k c ∧ ∀ i, i < k → w.cell? ⟨b, off + i, none⟩ = some (.int .i64 (((ps.getD i 0 : Nat) : Int) - 1)) := by
  obtain ⟨ao, c, rfl, hr, -⟩ := h
  rcases hr with h | ⟨b, off, rfl, hc⟩
  · have e : (pbs ps).length = 0 := by rw [h]; rfl
    rw [pbs_len] at e; omega
  · exact ⟨b, off, c, by rw [pbs_len, hk], fun i hi => by rw [hc i (by rw [pbs_len]; omega), pbs_get (by omega)]⟩

set_option maxHeartbeats 6400000 in
set_option maxRecDepth 100000 in
theorem stateOf_any (H N : Nat) (s r : ByteArray) (M : Nat) (t q : ByteArray) (k P gf cf gl cl n : Nat) (mt : Bool) (va vb : Value) (ps qs : List Nat) (w : World) (hg : PG w H N s r M t q k P gf cf gl cl n mt) (hz : Sz N M k P) (hps : ps.length = k) (hqs : qs.length = k) (hl : Lay N M ps qs) (ha : Reads w va (pbs ps)) (hb : Reads w vb (pbs qs)) :
    Calls Tryd.prog 65 #[.pointer (some ⟨H, 0, none⟩), va, vb] w fun e w' => e = .returned (.int .i64 ((stOf N M ps qs : Nat) : Int)) ∧ Below w.heap.size w w' := by
  have hk := hz.2.2.1
  obtain ⟨b1, o1, c1, rfl, hc1⟩ := pb_lies ha hps hk.1
  obtain ⟨b2, o2, c2, rfl, hc2⟩ := pb_lies hb hqs hk.1
  have HP := hz.p
  have HZ := Lib.hid hz
  have HL := Lib.hid (show _ ∧ _ ∧ _ from ⟨hps, hqs, hl⟩)
  have HC := Lib.hid (show _ ∧ _ from ⟨hc1, hc2⟩)
  have HG := Lib.hid hg
  obtain ⟨S, hS⟩ : ∃ S : Nat → Nat, S = fun j => und (N * M + 1) ((List.zipWith (cmb M) ps qs).drop j) := ⟨_, rfl⟩
  have HS := Lib.hid hS
  clear hz hl hc1 hc2 hg hps hqs hS ha hb
  go_enter Tryd.func65, Tryd.ntmps65
  have hn1 : (k : Int) - 1 = ((k - 1 : Nat) : Int) := by omega
  have k6 := HG.out.c6
  go_wp2_with fail
  clear k6
  go_loopw [7, 8] (fun sv iv wr => ∃ j : Nat, j ≤ k ∧ iv = .int .i64 ((j : Int) - 1) ∧ sv = .int .i64 (S j : Nat) ∧ Hid (Below w.heap.size w wr)) (fun _ iv _ => ((intOf iv) + 1).toNat)
  case atStart =>
    refine ⟨k, Nat.le_refl _, by go_num, ?_, Below.refl _ _⟩
    rw [HS.out]
    show _ = Value.int .i64 ((und (N * M + 1) ((List.zipWith (cmb M) ps qs).drop k) : Nat) : Int)
    rw [List.drop_eq_nil_of_le (by rw [zip_len (by rw [HL.out.1, HL.out.2.1]), HL.out.1]; exact Nat.le_refl _)]
    rfl
  case round =>
    obtain ⟨j, hj, rfl, rfl, hw⟩ := hrel
    cases j with
    | zero =>
      have e0 : S 0 = stOf N M ps qs := by rw [HS.out]; rfl
      have em : ((0 : Nat) : Int) - 1 = -1 := rfl
      rw [em, e0]
      go_wp2
      go_ret
      exact ⟨rfl, hw.out⟩
    | succ j =>
      have hj1 : ((j + 1 : Nat) : Int) - 1 = (j : Int) := by omega
      rw [hj1]
      have HD : Hid (S j = cmb M (ps.getD j 0) (qs.getD j 0) + P * S (j + 1)) := by
        rw [HS.out, HZ.out.2.2.2]; exact und_drop (by rw [HL.out.1, HL.out.2.1]) (by rw [HL.out.1]; omega)
      have HB : Hid (S j < 274625) := by
        have hst := (st_pos (N := N) (M := M) HZ.out.2.1.1 (ps := ps) (qs := qs) (by rw [HL.out.1, HL.out.2.1]) HL.out.2.2).1
        have h1 := und_lt (P := N * M + 1) (by omega) (ds := (List.zipWith (cmb M) ps qs).drop j) fun d hd => hst d (List.mem_of_mem_drop hd)
        have h2 : ((List.zipWith (cmb M) ps qs).drop j).length ≤ k := by rw [List.length_drop, zip_len (by rw [HL.out.1, HL.out.2.1]), HL.out.1]; omega
        have h3 : (N * M + 1) ^ ((List.zipWith (cmb M) ps qs).drop j).length ≤ (N * M + 1) ^ k := Nat.pow_le_pow_right (by omega) h2
        have h4 := HP.2.2.1
        rw [HZ.out.2.2.2] at h4
        rw [Hid, HS.out]
        show und (N * M + 1) ((List.zipWith (cmb M) ps qs).drop j) < 274625
        omega
      obtain ⟨z, hz⟩ : ∃ z, z = S (j + 1) := ⟨_, rfl⟩
      obtain ⟨Z2, hZ2⟩ : ∃ Z2, Z2 = z * P := ⟨_, rfl⟩
      have hzb : Z2 ≤ 274625 := by have h1 := HD.out; have h2 := HB.out; rw [← hz, Nat.mul_comm, ← hZ2] at h1; omega
      have w1 : IntKind.i64.wrap ((z : Int) * (P : Int)) = (Z2 : Int) := by
        have e : (z : Int) * (P : Int) = (Z2 : Int) := by rw [hZ2]; push_cast; rfl
        rw [e, IntWalk.i64_in _ (by omega)]
      have hbl1 : Hid (wr.cell? ⟨b1, o1 + j, none⟩ = some (.int .i64 (((ps.getD j 0 : Nat) : Int) - 1))) := ins.keepCell hw.out (HC.out.1 j (by omega))
      have hbl2 : Hid (wr.cell? ⟨b2, o2 + j, none⟩ = some (.int .i64 (((qs.getD j 0 : Nat) : Int) - 1))) := ins.keepCell hw.out (HC.out.2 j (by omega))
      have HGX := Lib.hid (HG.out.below hw.out (Nat.le_refl _))
      rw [← hz]
      have HZZ := Lib.hid hz
      obtain ⟨l1, l2, l3⟩ := HL.out.2.2 j (by rw [HL.out.1]; omega)
      have HD2 : Hid (S j = cmb M (ps.getD j 0) (qs.getD j 0) + Z2) := by rw [Hid, HD.out, hZ2, hz, Nat.mul_comm]
      clear hz hZ2
      obtain ⟨A, hA⟩ : ∃ A, A = ps.getD j 0 := ⟨_, rfl⟩
      obtain ⟨B, hB⟩ : ∃ B, B = qs.getD j 0 := ⟨_, rfl⟩
      rw [← hA] at l1 l2 HD2 hbl1
      rw [← hB] at l1 l3 HD2 hbl2
      clear hA hB HD HZZ
      by_cases hA0 : A = 0
      · have e0 : (A : Int) - 1 = -1 := by omega
        rw [e0] at hbl1
        have k1 := hbl1.out
        have k7 := HGX.out.c7
        have HE : Hid (Z2 = S j) := by rw [Hid, HD2.out, cmb, if_pos hA0, Nat.zero_add]
        clear e0 hA0 l1 l2 l3
        go_wp2
        go_roundw
        case rel => exact ⟨j, by omega, by go_num, by rw [HE.out], hw.out⟩
        case measure => simp [intOf]
      · have hB0 : B ≠ 0 := fun e => hA0 (l1.2 e)
        obtain ⟨x, rfl⟩ : ∃ x, A = x + 1 := ⟨A - 1, by omega⟩
        obtain ⟨y, rfl⟩ : ∃ y, B = y + 1 := ⟨B - 1, by omega⟩
        have e1 : ((x + 1 : Nat) : Int) - 1 = (x : Int) := by omega
        have e2 : ((y + 1 : Nat) : Int) - 1 = (y : Int) := by omega
        rw [e1] at hbl1
        rw [e2] at hbl2
        have hxm : x * M ≤ 64 := by
          have h1 := HZ.out.1.2
          have h2 := HZ.out.2.1.2
          exact Nat.mul_le_mul (show x ≤ 8 by omega) h2
        obtain ⟨X1, hX1⟩ : ∃ X1, X1 = x * M := ⟨_, rfl⟩
        rw [← hX1] at hxm
        have hy8 : y ≤ 8 := by have h2 := HZ.out.2.1.2; omega
        have w2 : IntKind.i64.wrap ((x : Int) * (M : Int)) = (X1 : Int) := by
          have e : (x : Int) * (M : Int) = (X1 : Int) := by rw [hX1]; push_cast; rfl
          rw [e, IntWalk.i64_in _ (by omega)]
        have w3 : IntKind.i64.wrap (1 + (X1 : Int)) = ((X1 + 1 : Nat) : Int) := by rw [IntWalk.i64_in _ (by omega)]; omega
        have w4 : IntKind.i64.wrap (((X1 + 1 : Nat) : Int) + (y : Int)) = ((X1 + 1 + y : Nat) : Int) := by rw [IntWalk.i64_in _ (by omega)]; omega
        have w5 : IntKind.i64.wrap ((Z2 : Int) + ((X1 + 1 + y : Nat) : Int)) = ((S j : Nat) : Int) := by
          have : S j = X1 + 1 + y + Z2 := by
            rw [HD2.out, cmb, if_neg (by omega), hX1]; simp only [Nat.add_sub_cancel]; omega
          rw [IntWalk.i64_in _ (by omega)]; omega
        obtain ⟨X2, hX2⟩ : ∃ X2, X2 = X1 + 1 := ⟨_, rfl⟩
        obtain ⟨X3, hX3⟩ : ∃ X3, X3 = X2 + y := ⟨_, rfl⟩
        rw [← hX2] at w3 w4 w5
        rw [← hX3] at w4 w5
        obtain ⟨S0, hS0⟩ : ∃ S0, S0 = S j := ⟨_, rfl⟩
        rw [← hS0] at w5
        have HS0 := Lib.hid hS0
        clear hX1 hX2 hX3 hS0 e1 e2 l1 l2 l3 hA0 hB0 HD2
        have k1 := hbl1.out
        have k7 := HGX.out.c7
        have k3 := HGX.out.c3
        have k2 := hbl2.out
        go_upto_region 7 with (fail)
        clear k1 k2 k3 k7
        have q0 : ∀ QQ : Wd (fun Q => Q.cell? ⟨b1, o1 + j, none⟩ = some (.int .i64 (x : Nat)) ∧ Q.cell? ⟨b2, o2 + j, none⟩ = some (.int .i64 (y : Nat)) ∧ Q.cell? ⟨H, 3, none⟩ = some (.int .i64 M)), QQ.w.cell? ⟨b1, o1 + j, none⟩ = some (.int .i64 (x : Nat)) := fun QQ => QQ.ok.1
        have q1 : ∀ QQ : Wd (fun Q => Q.cell? ⟨b1, o1 + j, none⟩ = some (.int .i64 (x : Nat)) ∧ Q.cell? ⟨b2, o2 + j, none⟩ = some (.int .i64 (y : Nat)) ∧ Q.cell? ⟨H, 3, none⟩ = some (.int .i64 M)), QQ.w.cell? ⟨b2, o2 + j, none⟩ = some (.int .i64 (y : Nat)) := fun QQ => QQ.ok.2.1
        have q2 : ∀ QQ : Wd (fun Q => Q.cell? ⟨b1, o1 + j, none⟩ = some (.int .i64 (x : Nat)) ∧ Q.cell? ⟨b2, o2 + j, none⟩ = some (.int .i64 (y : Nat)) ∧ Q.cell? ⟨H, 3, none⟩ = some (.int .i64 M)), QQ.w.cell? ⟨H, 3, none⟩ = some (.int .i64 M) := fun QQ => QQ.ok.2.2
        have hne : Nonempty (Wd (fun Q => Q.cell? ⟨b1, o1 + j, none⟩ = some (.int .i64 (x : Nat)) ∧ Q.cell? ⟨b2, o2 + j, none⟩ = some (.int .i64 (y : Nat)) ∧ Q.cell? ⟨H, 3, none⟩ = some (.int .i64 M))) := ⟨⟨wr, ⟨hbl1.out, hbl2.out, HGX.out.c3⟩⟩⟩
        go_wp2_with fail
        refine chain (S := (fun Q => Q.cell? ⟨b1, o1 + j, none⟩ = some (.int .i64 (x : Nat)) ∧ Q.cell? ⟨b2, o2 + j, none⟩ = some (.int .i64 (y : Nat)) ∧ Q.cell? ⟨H, 3, none⟩ = some (.int .i64 M))) [] [true, true, true, true, true, true, true, true, true, true, true, true, true, true, true, true, true, true, true] (by kernel_rfl) (by kernel_rfl) (by kernel_rfl) ⟨hbl1.out, hbl2.out, HGX.out.c3⟩ ?_
        simp only [wpSegs, pickB, List.dropLast_cons_cons, List.dropLast_singleton, List.getLast?_cons_cons, List.getLast?_singleton, List.toList_toArray, List.getElem?_toArray, List.getElem?_cons_succ, List.getElem?_cons_zero, Option.toList_some]
        repeat (go_big_quiet_step (fail))
        refine wpQuiet_nil ?_
        clear q0 q1 q2 hne
        have hx1 : Hid (Below w.heap.size w wr.drew) := hw.out.drew
        go_wp2
        go_roundw
        case rel => exact ⟨j, by omega, by go_num, by rw [HS0.out], hx1.out⟩
        case measure => simp [intOf]
end Go.Proofs.YtpcnoiigbmiejaaDoor.pbi

/- listsAt of the program: the elements under pebbles. -/
namespace Go.Proofs.YtpcnoiigbmiejaaDoor.pbi
set_option linter.unusedVariables false
set_option linter.unusedSimpArgs false
open Go.ChangeShapes Go.WideShapes Go.ChangeAt Go.RowKit
open Go.Proofs.YtpcnoiigbmiejaaDoor.lib Go.Proofs.YtpcnoiigbmiejaaDoor.st Go.Proofs.YtpcnoiigbmiejaaDoor.flow Go.Proofs.YtpcnoiigbmiejaaDoor.chain Go.Proofs.YtpcnoiigbmiejaaDoor.base Go.Proofs.YtpcnoiigbmiejaaDoor.fits Go.Proofs.YtpcnoiigbmiejaaDoor.still Go.Proofs.YtpcnoiigbmiejaaDoor.gow Go.Proofs.YtpcnoiigbmiejaaDoor.peb
theorem infoI : (Tryd.prog.info? 3).map (fun i => (i.zero, i.size, i.bytes)) = some (some (.int .i64 0), 1, 8) := by kernel_rfl
theorem dv {x m : Nat} (hm : 1 ≤ m) (hx : x ≤ 1000000) : IntKind.i64.wrap ((x : Int) / (m : Int)) = ((x / m : Nat) : Int) ∧ IntKind.i64.wrap ((x : Int).tdiv (m : Int)) = ((x / m : Nat) : Int) ∧ (x : Int).tmod (m : Int) = ((x % m : Nat) : Int) ∧ ¬ m = 0 := by
  obtain ⟨d, hd⟩ : ∃ d, d = x / m := ⟨_, rfl⟩
  have h : d ≤ x := by rw [hd]; exact Nat.div_le_self _ _
  have e : (x : Int) / (m : Int) = (d : Int) := by rw [hd]; push_cast; rfl
  have e2 : (x : Int).tdiv (m : Int) = (d : Int) := by rw [hd]; rfl
  rw [e, e2, ← hd]
  exact ⟨IntWalk.i64_in _ (by omega), IntWalk.i64_in _ (by omega), rfl, by omega⟩
theorem own_at {T : TypeId} {w : World} {B n : Nat} {v : Value} {l : List Nat} (h : OwnI T w B v (ints l)) (hn : n = l.length) : w.ownsRow B T 1 v n (ivs (ints l)) := by
  unfold OwnI at h; rw [ints_len, ← hn] at h; exact h
theorem own_snoc {T : TypeId} {w : World} {B n x : Nat} {v : Value} {l : List Nat} (h : w.ownsRow B T 1 v (n + 1) (ivs (ints l) ++ [.int .i64 x])) (hn : n = l.length) : OwnI T w B v (ints (l ++ [x])) := by
  have e : ivs (ints (l ++ [x])) = ivs (ints l) ++ [.int .i64 (x : Int)] := by simp [ivs, ints]
  unfold OwnI; rw [e, ints_len, List.length_append, List.length_singleton, ← hn]; exact h
theorem ints_snoc' (l : List Nat) (x : Nat) : ints (l ++ [x]) = ints l ++ [(x : Int)] := by simp [ints]
/-- the game, whatever its lists -/
def PGV (w : World) (H N : Nat) (s r : ByteArray) (M : Nat) (t q : ByteArray) (k P : Nat) (vf vl : Value) (mt : Bool) : Prop :=
  w.heap[H]? = some (.cells #[.int .i64 N, .string s, .string r, .int .i64 M, .string t, .string q, .int .i64 k, .int .i64 P, vf, vl, .bool mt] 67 (0, 0))
section
variable {w w' : World} {H N : Nat} {s r : ByteArray} {M : Nat} {t q : ByteArray} {k P : Nat} {vf vl : Value} {mt : Bool}
theorem PGV.lt (h : PGV w H N s r M t q k P vf vl mt) : H < w.heap.size := (Array.getElem?_eq_some_iff.1 h).1
theorem PGV.block (h : PGV w H N s r M t q k P vf vl mt) (hb : w'.heap[H]? = w.heap[H]?) : PGV w' H N s r M t q k P vf vl mt := hb.trans h
theorem PGV.below {C : Nat} (h : PGV w H N s r M t q k P vf vl mt) (hb : Below C w w') (hC : H < C) : PGV w' H N s r M t q k P vf vl mt := h.block (hb.block H hC)
theorem PGV.free (h : PGV w H N s r M t q k P vf vl mt) (j : Nat) : w.frozen? ⟨H, j, none⟩ = false := frozen_of_row w H j _ _ h
theorem PGV.c3 (h : PGV w H N s r M t q k P vf vl mt) : w.cell? ⟨H, 3, none⟩ = some (.int .i64 M) := by rw [cell_of_row w H 3 _ _ (0, 0) h]; rfl
theorem PGV.c6 (h : PGV w H N s r M t q k P vf vl mt) : w.cell? ⟨H, 6, none⟩ = some (.int .i64 k) := by rw [cell_of_row w H 6 _ _ (0, 0) h]; rfl
theorem PGV.c7 (h : PGV w H N s r M t q k P vf vl mt) : w.cell? ⟨H, 7, none⟩ = some (.int .i64 P) := by rw [cell_of_row w H 7 _ _ (0, 0) h]; rfl
theorem PGV.c8 (h : PGV w H N s r M t q k P vf vl mt) : w.cell? ⟨H, 8, none⟩ = some vf := by rw [cell_of_row w H 8 _ _ (0, 0) h]; rfl
theorem PGV.c9 (h : PGV w H N s r M t q k P vf vl mt) : w.cell? ⟨H, 9, none⟩ = some vl := by rw [cell_of_row w H 9 _ _ (0, 0) h]; rfl
theorem PGV.setF (h : PGV w H N s r M t q k P vf vl mt) (v : Value) : PGV (w.setCell ⟨H, 8, none⟩ v) H N s r M t q k P v vl mt := heap_setCell_same w H 8 _ _ _ h
theorem PGV.setL (h : PGV w H N s r M t q k P vf vl mt) (v : Value) : PGV (w.setCell ⟨H, 9, none⟩ v) H N s r M t q k P vf v mt := heap_setCell_same w H 9 _ _ _ h
end

set_option maxHeartbeats 6400000 in
set_option maxRecDepth 100000 in
theorem listsAt_any (H N : Nat) (s r : ByteArray) (M : Nat) (t q : ByteArray) (k P : Nat) (vf vl : Value) (mt : Bool) (s0 : Nat) (w : World) (hg : PGV w H N s r M t q k P vf vl mt) (hz : Sz N M k P) (hs0 : s0 < P ^ k) :
    Calls Tryd.prog 112 #[.pointer (some ⟨H, 0, none⟩), .int .i64 s0] w fun e w' => ∃ v1 v2, e = .returned (.tuple #[v1, v2]) ∧ OwnI 3 w' w.heap.size v1 (ints (placed (posA N M k s0))) ∧ OwnI 3 w' w.heap.size v2 (ints (placed (posB N M k s0))) ∧ Below w.heap.size w w' := by
  have hk := hz.2.2.1
  have HP := hz.p
  have HZ := Lib.hid hz
  have HG := Lib.hid hg
  have hm := hz.2.1
  have hsb : s0 ≤ 274625 := by omega
  have hHl := hg.lt
  have A2 : Hid (Two 3 ((w.alloc (.cells #[] 3)).alloc (.cells #[] 3)) w.heap.size (.slice (some ⟨w.heap.size, 0, none⟩) 0 0) (.slice (some ⟨w.heap.size + 1, 0, none⟩) 0 0) [] []) := by
    have hsz1 : (w.alloc (.cells #[] 3)).heap.size = w.heap.size + 1 := by simp
    have e1 := empty_own (w.alloc (.cells #[] 3))
    rw [hsz1] at e1
    exact ⟨(OwnI.below (empty_own w) ((Below.refl _ _).alloc (Nat.le_refl _) _) (Nat.le_refl _)), e1.mono (B' := w.heap.size) (by omega), fun g h1 h2 => by simp [Value.ownBlock] at h1 h2; omega⟩
  have B2 : Hid (Below w.heap.size w ((w.alloc (.cells #[] 3)).alloc (.cells #[] 3))) := ((Below.refl _ _).alloc (Nat.le_refl _) _).alloc (by simp) _
  clear hz hg
  go_enter Tryd.func112, Tryd.ntmps112
  have k6 := HG.out.c6
  have k6' := (HG.out.below B2.out HG.out.lt).c6
  go_wp2_with fail
  clear k6 k6'
  obtain ⟨W2, hW2⟩ : ∃ W2, W2 = (w.alloc (.cells #[] 3)).alloc (.cells #[] 3) := ⟨_, rfl⟩
  rw [← hW2] at A2 B2 ⊢
  have HST : Hid (Two 3 W2 w.heap.size (.slice (some ⟨w.heap.size, 0, none⟩) 0 0) (.slice (some ⟨w.heap.size + 1, 0, none⟩) 0 0) (ints (upA N M s0 0)) (ints (upB N M s0 0)) ∧ 0 = (upA N M s0 0).length ∧ 0 = (upB N M s0 0).length ∧ 0 ≤ 0 ∧ 0 ≤ 0 ∧ Below w.heap.size w W2) := ⟨A2.out, rfl, rfl, Nat.le_refl _, Nat.le_refl _, B2.out⟩
  clear hW2 A2 B2
  go_loopw [1, 6, 7, 15] (fun sv av bv iv wr => ∃ i g1 n1 c1 g2 n2 c2 : Nat, i ≤ k ∧ iv = .int .i64 i ∧ sv = .int .i64 (s0 / P ^ i : Nat) ∧ av = .slice (some ⟨g1, 0, none⟩) n1 c1 ∧ bv = .slice (some ⟨g2, 0, none⟩) n2 c2 ∧ Hid (Two 3 wr w.heap.size av bv (ints (upA N M s0 i)) (ints (upB N M s0 i)) ∧ n1 = (upA N M s0 i).length ∧ n2 = (upB N M s0 i).length ∧ n1 ≤ i ∧ n2 ≤ i ∧ Below w.heap.size w wr)) (fun _ _ _ iv _ => k - (intOf iv).toNat)
  case atStart => exact ⟨0, w.heap.size, 0, 0, w.heap.size + 1, 0, 0, Nat.zero_le _, rfl, by simp, rfl, rfl, HST.out⟩
  case round =>
    clear HST
    obtain ⟨i, g1, n1, c1, g2, n2, c2, hi, rfl, rfl, rfl, rfl, hst⟩ := hrel
    have hn1 := hst.out.2.2.2.1
    have hn2 := hst.out.2.2.2.2.1
    have hsz := hst.out.2.2.2.2.2.size
    obtain ⟨S, hS⟩ : ∃ S, S = s0 / P ^ i := ⟨_, rfl⟩
    have hS9 : S ≤ 274625 := by rw [hS]; exact Nat.le_trans (Nat.div_le_self _ _) hsb
    have HS := Lib.hid hS
    rw [← hS]
    clear hS
    obtain ⟨v1, v2, v3, v4⟩ := dv (x := S) (m := P) (by omega) (by omega)
    obtain ⟨D, hD⟩ : ∃ D, D = S % P := ⟨_, rfl⟩
    obtain ⟨S2, hS2⟩ : ∃ S2, S2 = S / P := ⟨_, rfl⟩
    rw [← hD] at v3
    rw [← hS2] at v1 v2
    have hDP : D < P := by rw [hD]; exact Nat.mod_lt _ (by omega)
    have HSS : Hid (S2 = s0 / P ^ (i + 1) ∧ D = s0 / P ^ i % P) := by
      refine ⟨?_, by rw [hD, HS.out]⟩
      rw [hS2, HS.out, Nat.div_div_eq_div_mul, Nat.pow_succ]
    have HDP : Hid (D = s0 / (N * M + 1) ^ i % (N * M + 1)) := by have := HSS.out.2; rw [HZ.out.2.2.2] at this; exact this
    clear hD hS2
    have HGX := Lib.hid (HG.out.below hst.out.2.2.2.2.2 HG.out.lt)
    have k7 := HGX.out.c7
    by_cases hlt : i < k
    · have i1 : (i : Int) < (k : Int) := by omega
      by_cases hD0 : D = 0
      · have HU : Hid (upA N M s0 (i + 1) = upA N M s0 i ∧ upB N M s0 (i + 1) = upB N M s0 i) := up_zero (by rw [← HDP.out]; exact hD0)
        have HST : Hid (Two 3 wr w.heap.size (.slice (some ⟨g1, 0, none⟩) n1 c1) (.slice (some ⟨g2, 0, none⟩) n2 c2) (ints (upA N M s0 (i + 1))) (ints (upB N M s0 (i + 1))) ∧ n1 = (upA N M s0 (i + 1)).length ∧ n2 = (upB N M s0 (i + 1)).length ∧ n1 ≤ (i + 1) ∧ n2 ≤ (i + 1) ∧ Below w.heap.size w wr) := by
          obtain ⟨a, b, c, d, e, f⟩ := hst.out
          rw [Hid, HU.out.1, HU.out.2]; exact ⟨a, b, c, by omega, by omega, f⟩
        have d0 : decide (0 < D) = false := decide_eq_false (by omega)
        clear hst hD0
        go_wp2
        go_roundw
        case rel => exact ⟨i + 1, g1, n1, c1, g2, n2, c2, by omega, by go_num, by rw [HSS.out.1], rfl, rfl, HST.out⟩
        case measure => simp [intOf]; omega
      · obtain ⟨d, rfl⟩ : ∃ d, D = d + 1 := ⟨D - 1, by omega⟩
        have d0 : decide (0 < d + 1) = true := decide_eq_true (by omega)
        have d1 : IntKind.i64.wrap (((d + 1 : Nat) : Int) - 1) = (d : Int) := by rw [IntWalk.i64_in _ (by omega)]; omega
        obtain ⟨x1, x2, x3, x4⟩ := dv (x := d) (m := M) hm.1 (by omega)
        have HU := Lib.hid (up_one (N := N) (M := M) (s := s0) (i := i) (d := d) HDP.out.symm)
        obtain ⟨X, hX⟩ : ∃ X, X = d / M := ⟨_, rfl⟩
        obtain ⟨Y, hY⟩ : ∃ Y, Y = d % M := ⟨_, rfl⟩
        rw [← hX] at x1 x2 HU
        rw [← hY] at x3 HU
        clear hX hY
        have k3 := HGX.out.c3
        have HO1 := Lib.hid (own_at hst.out.1.1 hst.out.2.1)
        go_wp2_with (at_builtin; refine wpList_app1 wr rfl (.tmp 25) (.tmp 34) 32 rfl w.heap.size 3 (.int .i64 0) 8 Tryd.underlying32 infoI rfl (by decide) _ _ _ (.int .i64 X) rfl HO1.out wr.heap.size rfl rfl rfl (by omega) hsz ?_)
        intro gA cA V1 ho1 hg1
        have HT1 := Lib.hid (hst.out.1.left hg1 (own_snoc ho1 hst.out.2.1))
        have HV1 : Hid (Below w.heap.size w V1) := hst.out.2.2.2.2.2.trans (hg1.below HO1.out hsz)
        clear ho1 hg1 HO1 k7 k3
        have HO2 := Lib.hid (own_at HT1.out.2.1 hst.out.2.2.1)
        have HG1 := Lib.hid (HG.out.below HV1.out HG.out.lt)
        have hsz1 := HV1.out.size
        have k3 := HG1.out.c3
        go_wp2_with (at_builtin; refine wpList_app1 V1 rfl (.tmp 36) (.tmp 45) 32 rfl w.heap.size 3 (.int .i64 0) 8 Tryd.underlying32 infoI rfl (by decide) _ _ _ (.int .i64 Y) rfl HO2.out V1.heap.size rfl rfl rfl (by omega) hsz1 ?_)
        intro gB cB V2 ho2 hg2
        have HT2 := Lib.hid (HT1.out.right hg2 (own_snoc ho2 hst.out.2.2.1))
        have HV2 : Hid (Below w.heap.size w V2) := HV1.out.trans (hg2.below HO2.out hsz1)
        have HST : Hid (Two 3 V2 w.heap.size (.slice (some ⟨gA, 0, none⟩) (n1 + 1) cA) (.slice (some ⟨gB, 0, none⟩) (n2 + 1) cB) (ints (upA N M s0 (i + 1))) (ints (upB N M s0 (i + 1))) ∧ (n1 + 1) = (upA N M s0 (i + 1)).length ∧ (n2 + 1) = (upB N M s0 (i + 1)).length ∧ (n1 + 1) ≤ (i + 1) ∧ (n2 + 1) ≤ (i + 1) ∧ Below w.heap.size w V2) := by
          rw [Hid, HU.out.1, HU.out.2]
          exact ⟨HT2.out, by rw [List.length_append, hst.out.2.1]; rfl, by rw [List.length_append, hst.out.2.2.1]; rfl, by omega, by omega, HV2.out⟩
        clear ho2 hg2 HO2 k3
        have HG2 := Lib.hid (HG.out.below HV2.out HG.out.lt)
        have k7 := HG2.out.c7
        clear hst HT1 HT2
        go_wp2
        go_roundw
        case rel => exact ⟨i + 1, gA, n1 + 1, cA, gB, n2 + 1, cB, by omega, by go_num, by rw [HSS.out.1], rfl, rfl, HST.out⟩
        case measure => simp [intOf]; omega
    · obtain rfl : k = i := by omega
      go_wp2
      exact bodyPost_ret (v := .tuple #[.slice (some ⟨g1, 0, none⟩) n1 c1, .slice (some ⟨g2, 0, none⟩) n2 c2]) (by simp [results, Tryd.results112, go_sem]) rfl ⟨_, _, rfl, by rw [← upA_full]; exact hst.out.1.1, by rw [← upB_full]; exact hst.out.1.2.1, hst.out.2.2.2.2.2⟩
end Go.Proofs.YtpcnoiigbmiejaaDoor.pbi

/- matched of the program: elements are paired, where it can be done. -/
namespace Go.Proofs.YtpcnoiigbmiejaaDoor.pbi
set_option linter.unusedVariables false
set_option linter.unusedSimpArgs false
open Go.ChangeShapes Go.WideShapes Go.ChangeAt Go.RowKit
open Go.Proofs.YtpcnoiigbmiejaaDoor.lib Go.Proofs.YtpcnoiigbmiejaaDoor.st Go.Proofs.YtpcnoiigbmiejaaDoor.flow Go.Proofs.YtpcnoiigbmiejaaDoor.chain Go.Proofs.YtpcnoiigbmiejaaDoor.base Go.Proofs.YtpcnoiigbmiejaaDoor.fits Go.Proofs.YtpcnoiigbmiejaaDoor.still Go.Proofs.YtpcnoiigbmiejaaDoor.gow Go.Proofs.YtpcnoiigbmiejaaDoor.peb Go.Proofs.YtpcnoiigbmiejaaDoor.tab
/-- the cells that placing keeps: partners, the game, the rest, the step, itself -/
def capsK (cp pp pr ps pf : Nat) : Array Value := #[.pointer (some ⟨cp, 0, none⟩), .pointer (some ⟨pp, 0, none⟩), .pointer (some ⟨pr, 0, none⟩), .pointer (some ⟨ps, 0, none⟩), .pointer (some ⟨pf, 0, none⟩)]
/-- where placing works -/
structure KM (cp pp pr ps pf H N : Nat) (s r : ByteArray) (M : Nat) (t q : ByteArray) (k P gf cf gl cl n gp cpp gt ct rest step : Nat) (l : List Bool) (W : World) (Pl : List Int) (Tl : List Bool) : Prop where
  g : PG W H N s r M t q k P gf cf gl cl n true
  l : RdB W gl n l
  p : W.cell? ⟨cp, 0, none⟩ = some (.slice (some ⟨gp, 0, none⟩) M cpp)
  q : W.cell? ⟨pp, 0, none⟩ = some (.pointer (some ⟨H, 0, none⟩))
  r : W.cell? ⟨pr, 0, none⟩ = some (.int .i64 rest)
  s : W.cell? ⟨ps, 0, none⟩ = some (.int .i64 step)
  f : W.cell? ⟨pf, 0, none⟩ = some (.func (.func 193) #[] (capsK cp pp pr ps pf))
  op : OwnI 3 W 0 (.slice (some ⟨gp, 0, none⟩) M cpp) Pl
  ot : OwnBl W 0 (.slice (some ⟨gt, 0, none⟩) M ct) Tl
  lp : Pl.length = M
  lt : Tl.length = M
  ne : gp ≠ gt ∧ gp ≠ H ∧ gp ≠ gl ∧ gp ≠ cp ∧ gp ≠ pp ∧ gp ≠ pr ∧ gp ≠ ps ∧ gp ≠ pf
  nt : gt ≠ H ∧ gt ≠ gl ∧ gt ≠ cp ∧ gt ≠ pp ∧ gt ≠ pr ∧ gt ≠ ps ∧ gt ≠ pf
section
variable {cp pp pr ps pf H N : Nat} {s r : ByteArray} {M : Nat} {t q : ByteArray} {k P gf cf gl cl n gp cpp gt ct rest step : Nat} {l : List Bool} {W W' : World} {Pl : List Int} {Tl : List Bool}
theorem own_i {W : World} {B g n c : Nat} {l : List Int} (h : OwnI 3 W B (.slice (some ⟨g, 0, none⟩) n c) l) : n = l.length := by
  rcases h.2 with ⟨h', _⟩ | ⟨g', cap', cur, h', _⟩
  · simp at h'
  · simp only [Value.slice.injEq] at h'; exact h'.2.1
theorem own_b {W : World} {B g n c : Nat} {l : List Bool} (h : OwnBl W B (.slice (some ⟨g, 0, none⟩) n c) l) : n = l.length := by
  rcases h.2 with ⟨h', _⟩ | ⟨g', cap', cur, h', _⟩
  · simp at h'
  · simp only [Value.slice.injEq] at h'; exact h'.2.1
theorem OwnBl.row_n {W : World} {B g n c : Nat} {l : List Bool} (h : OwnBl W B (.slice (some ⟨g, 0, none⟩) n c) l) : W.ownsRow B 4 1 (.slice (some ⟨g, 0, none⟩) n c) n (bcs l) := by
  have e := own_b h
  unfold OwnBl at h; rw [← e] at h; exact h
theorem KM.tried (h : KM cp pp pr ps pf H N s r M t q k P gf cf gl cl n gp cpp gt ct rest step l W Pl Tl) {j : Nat} (hj : j < M) : W.cell? ⟨gt, j, none⟩ = some (.bool (Tl.getD j false)) := (RdB.of h.ot h.lt.symm).cell j hj
theorem KM.part (h : KM cp pp pr ps pf H N s r M t q k P gf cf gl cl n gp cpp gt ct rest step l W Pl Tl) {j : Nat} (hj : j < M) : W.cell? ⟨gp, j, none⟩ = some (.int .i64 (Pl.getD j 0)) := h.op.cell j (by rw [h.lp]; exact hj)
theorem KM.drew (h : KM cp pp pr ps pf H N s r M t q k P gf cf gl cl n gp cpp gt ct rest step l W Pl Tl) : KM cp pp pr ps pf H N s r M t q k P gf cf gl cl n gp cpp gt ct rest step l W.drew Pl Tl :=
  ⟨h.g, h.l.below (Below.refl _ _).drew (Nat.le_refl _), h.p, h.q, h.r, h.s, h.f, h.op.below (Below.refl _ _).drew (Nat.le_refl _), World.ownsRow.drew h.ot, h.lp, h.lt, h.ne, h.nt⟩
theorem KM.setT (h : KM cp pp pr ps pf H N s r M t q k P gf cf gl cl n gp cpp gt ct rest step l W Pl Tl) (j : Nat) (b : Bool) : KM cp pp pr ps pf H N s r M t q k P gf cf gl cl n gp cpp gt ct rest step l (W.setCell ⟨gt, j, none⟩ (.bool b)) Pl (Tl.set j b) := by
  obtain ⟨n1, n2, n3, n4, n5, n6, n7⟩ := h.nt
  have hst := World.ownsRow.stored h.ot.row_n j (.bool b)
  have ob : ∀ a, a ≠ gt → (W.setCell ⟨gt, j, none⟩ (.bool b)).heap[a]? = W.heap[a]? := fun a ha => heap_setCell_other W ⟨gt, j, none⟩ a _ ha
  have oc : ∀ a : Addr, a.block ≠ gt → (W.setCell ⟨gt, j, none⟩ (.bool b)).cell? a = W.cell? a := fun a ha => World.cell?_of_block (w := W) (ob a.block ha)
  refine ⟨h.g.block (ob _ n1.symm), h.l.block (ob _ n2.symm), (oc _ n3.symm).trans h.p, (oc _ n4.symm).trans h.q, (oc _ n5.symm).trans h.r, (oc _ n6.symm).trans h.s, (oc _ n7.symm).trans h.f, ?_, ?_, h.lp, by rw [List.length_set]; exact h.lt, h.ne, h.nt⟩
  · exact h.op.kept hst.2 (.inr (by intro e; exact h.ne.1 (Option.some.inj e)))
  · have := hst.1
    unfold OwnBl; rw [List.length_set, ← bcs_set, h.lt]; exact this
theorem KM.setP (h : KM cp pp pr ps pf H N s r M t q k P gf cf gl cl n gp cpp gt ct rest step l W Pl Tl) (j : Nat) (v : Int) : KM cp pp pr ps pf H N s r M t q k P gf cf gl cl n gp cpp gt ct rest step l (W.setCell ⟨gp, j, none⟩ (.int .i64 v)) (Pl.set j v) Tl := by
  obtain ⟨n0, n1, n2, n3, n4, n5, n6, n7⟩ := h.ne
  have ob : ∀ a, a ≠ gp → (W.setCell ⟨gp, j, none⟩ (.int .i64 v)).heap[a]? = W.heap[a]? := fun a ha => heap_setCell_other W ⟨gp, j, none⟩ a _ ha
  have oc : ∀ a : Addr, a.block ≠ gp → (W.setCell ⟨gp, j, none⟩ (.int .i64 v)).cell? a = W.cell? a := fun a ha => World.cell?_of_block (w := W) (ob a.block ha)
  refine ⟨h.g.block (ob _ n1.symm), h.l.block (ob _ n2.symm), (oc _ n3.symm).trans h.p, (oc _ n4.symm).trans h.q, (oc _ n5.symm).trans h.r, (oc _ n6.symm).trans h.s, (oc _ n7.symm).trans h.f, h.op.set j v, ?_, by rw [List.length_set]; exact h.lp, h.lt, h.ne, h.nt⟩
  exact World.ownsRow.kept h.ot (h.op.setGrown j v) (.inr (by intro e; exact n0 (Option.some.inj e).symm))
end
/-- who fits whom -/
def WR (N M : Nat) (l : List Bool) (rest step : Nat) (x y : Nat) : Prop := (x < N ∧ y < M) ∧ l.getD (rest + step * (1 + x * M + y)) false = true
def TT (Tl : List Bool) (y : Nat) : Prop := Tl.getD y false = true
def PP (Pl : List Int) (y : Nat) : Int := Pl.getD y 0
theorem TT_set {Tl : List Bool} {j : Nat} (hj : j < Tl.length) : TT (Tl.set j true) = fun y => TT Tl y ∨ y = j := by
  funext y
  unfold TT
  rw [List.getD_eq_getElem?_getD, List.getD_eq_getElem?_getD, List.getElem?_set]
  by_cases h : j = y
  · subst h; rw [if_pos rfl, if_pos hj]; simp
  · rw [if_neg h]; exact propext ⟨fun e => .inl e, fun e => e.elim id fun e => absurd e.symm h⟩
theorem PP_set {Pl : List Int} {j : Nat} {v : Int} (hj : j < Pl.length) : PP (Pl.set j v) = upd (PP Pl) j v := by
  funext y
  show (Pl.set j v).getD y 0 = if y = j then v else Pl.getD y 0
  rw [List.getD_eq_getElem?_getD, List.getD_eq_getElem?_getD, List.getElem?_set]
  by_cases h : j = y
  · subst h; rw [if_pos rfl, if_pos hj, if_pos rfl]; rfl
  · rw [if_neg h, if_neg (fun e => h e.symm)]
theorem PP_ext {Pl Pl' : List Int} (hl : Pl.length = Pl'.length) (h : ∀ y, PP Pl' y = PP Pl y) : Pl' = Pl := by
  apply List.ext_getElem?
  intro i
  by_cases hi : i < Pl.length
  · have := h i
    unfold PP at this
    rw [List.getD_eq_getElem?_getD, List.getD_eq_getElem?_getD, List.getElem?_eq_getElem hi, List.getElem?_eq_getElem (hl ▸ hi)] at this
    rw [List.getElem?_eq_getElem hi, List.getElem?_eq_getElem (hl ▸ hi)]
    exact congrArg some this
  · rw [List.getElem?_eq_none (by omega), List.getElem?_eq_none (by omega)]
/-- how many were not tried -/
def untr (Tl : List Bool) : Nat := Tl.countP fun b => !b
theorem untr_set {Tl : List Bool} {j : Nat} (hj : j < Tl.length) (hf : Tl.getD j false = false) : untr (Tl.set j true) + 1 = untr Tl := by
  induction Tl generalizing j with
  | nil => simp at hj
  | cons a Tl ih =>
    unfold untr at *
    cases j with
    | zero =>
      have : a = false := hf
      subst this
      rw [List.set_cons_zero, List.countP_cons_of_neg (by simp), List.countP_cons_of_pos (by simp)]
    | succ j =>
      have := ih (j := j) (by simpa using hj) hf
      rw [List.set_cons_succ, List.countP_cons, List.countP_cons]
      omega
theorem untr_le {Tl Tl' : List Bool} (hl : Tl'.length = Tl.length) (h : ∀ y, TT Tl y → TT Tl' y) : untr Tl' ≤ untr Tl := by
  induction Tl generalizing Tl' with
  | nil =>
    have : Tl' = [] := List.length_eq_zero_iff.1 hl
    rw [this]; exact Nat.le_refl _
  | cons a Tl ih =>
    cases Tl' with
    | nil => simp at hl
    | cons b Tl' =>
      have := ih (Tl' := Tl') (by simpa using hl) (fun y hy => h (y + 1) hy)
      unfold untr at *
      rw [List.countP_cons, List.countP_cons]
      have h0 : a = true → b = true := h 0
      cases a with
      | true => rw [h0 rfl]; simpa using this
      | false => cases b <;> simp <;> omega
/-- what placing answers and leaves -/
def PlaceC (cp pp pr ps pf H N : Nat) (s r : ByteArray) (M : Nat) (t q : ByteArray) (k P gf cf gl cl n gp cpp gt ct rest step : Nat) (l : List Bool) (m : Nat) : Prop :=
  ∀ (x : Nat) (xv : Int) (W : World) (Pl : List Int) (Tl : List Bool), xv = (x : Int) → x < N → untr Tl ≤ m → KM cp pp pr ps pf H N s r M t q k P gf cf gl cl n gp cpp gt ct rest step l W Pl Tl → Par (WR N M l rest step) M (TT Tl) (PP Pl) → ¬ Has M (TT Tl) (PP Pl) x →
    Calls Tryd.prog 193 (#[.int .i64 xv, .slice (some ⟨gt, 0, none⟩) M ct] ++ capsK cp pp pr ps pf) W fun e W' => ∃ (b : Bool) (Pl' : List Int) (Tl' : List Bool), e = .returned (.bool b) ∧ KM cp pp pr ps pf H N s r M t q k P gf cf gl cl n gp cpp gt ct rest step l W' Pl' Tl' ∧ Out (fun j => j = gp ∨ j = gt) W W' ∧ (∀ y, TT Tl y → TT Tl' y) ∧ Placed (WR N M l rest step) M (TT Tl) (PP Pl) (PP Pl') x b

set_option maxHeartbeats 12800000 in
set_option maxRecDepth 100000 in
theorem place_any (cp pp pr ps pf H N : Nat) (s r : ByteArray) (M : Nat) (t q : ByteArray) (k P gf cf gl cl n gp cpp gt ct rest step : Nat) (l : List Bool) (hN8 : N ≤ 8) (hM8 : M ≤ 8) (hn9 : n ≤ 274625) (hix : ∀ x y, x < N → y < M → rest + step * (1 + x * M + y) < n) (hblk : Blk (WR N M l rest step)) :
    ∀ m, PlaceC cp pp pr ps pf H N s r M t q k P gf cf gl cl n gp cpp gt ct rest step l m := fun m => by
  induction m using Nat.strongRecOn with
  | ind m ih =>
  intro x xv W Pl Tl hxv hx hun hkm hpar hhas
  subst hxv
  have HRC := Lib.hid ih
  have HUM := Lib.hid hun
  have HPAR := Lib.hid (show _ ∧ _ from ⟨hpar, hhas⟩)
  have HIX := Lib.hid hix
  have HBL := Lib.hid hblk
  have HLT := Lib.hid hkm.lt
  have HLP := Lib.hid hkm.lp
  have HKM := Lib.hid hkm
  have eP : make.Enters 193 := make.enters_of Tryd.func193 (by kernel_rfl) rfl
  unfold make.Enters at eP
  unfold capsK
  clear ih hun hpar hhas hix hblk hkm
  go_enter Tryd.func193, Tryd.ntmps193
  have kp := HKM.out.p
  go_wp2_with fail
  clear kp
  go_loopw [13] (fun iv wr => ∃ (j : Nat) (Tc : List Bool), j ≤ M ∧ iv = .int .i64 j ∧ Hid (KM cp pp pr ps pf H N s r M t q k P gf cf gl cl n gp cpp gt ct rest step l wr Pl Tc ∧ Out (fun j => j = gp ∨ j = gt) W wr ∧ (∀ y, TT Tl y → TT Tc y) ∧ peb.Left (WR N M l rest step) M (TT Tl) (TT Tc) (PP Pl) x j)) (fun iv _ => M - (intOf iv).toNat)
  case atStart => exact ⟨0, Tl, Nat.zero_le _, rfl, HKM.out, Out.refl _ _, fun _ h => h, left_start _⟩
  case round =>
    clear HKM
    obtain ⟨j, Tc, hj, rfl, hst⟩ := hrel
    by_cases hlt : j < M
    · have hjM : (j : Int) < (M : Int) := by omega
      have KX := Lib.hid hst.out.1
      have KT : Hid (wr.cell? ⟨gt, j, none⟩ = some (.bool (Tc.getD j false))) := KX.out.tried hlt
      have hix : rest + step * (1 + x * M + j) < n := HIX.out x j hx hlt
      obtain ⟨X1, hX1⟩ : ∃ X1, X1 = x * M := ⟨_, rfl⟩
      obtain ⟨X3, hX3⟩ : ∃ X3, X3 = 1 + X1 + j := ⟨_, rfl⟩
      obtain ⟨X4, hX4⟩ : ∃ X4, X4 = step * X3 := ⟨_, rfl⟩
      obtain ⟨IX, hIX⟩ : ∃ IX, IX = rest + X4 := ⟨_, rfl⟩
      have hIXe : IX = rest + step * (1 + x * M + j) := by rw [hIX, hX4, hX3, hX1]
      have hIXn : IX < n := by rw [hIXe]; exact hix
      have hX1b : X1 ≤ 64 := by rw [hX1]; exact Nat.mul_le_mul (show x ≤ 8 by omega) hM8
      have w1 : IntKind.i64.wrap ((x : Int) * (M : Int)) = (X1 : Int) := by
        have e : (x : Int) * (M : Int) = (X1 : Int) := by rw [hX1]; push_cast; rfl
        rw [e, IntWalk.i64_in _ (by omega)]
      have w2 : IntKind.i64.wrap (1 + (X1 : Int)) = ((1 + X1 : Nat) : Int) := by rw [IntWalk.i64_in _ (by omega)]; omega
      obtain ⟨X2, hX2⟩ : ∃ X2, X2 = 1 + X1 := ⟨_, rfl⟩
      rw [← hX2] at w2 hX3
      have w3 : IntKind.i64.wrap ((X2 : Int) + (j : Int)) = (X3 : Int) := by rw [IntWalk.i64_in _ (by omega)]; omega
      have w4 : IntKind.i64.wrap ((step : Int) * (X3 : Int)) = (X4 : Int) := by
        have e : (step : Int) * (X3 : Int) = (X4 : Int) := by rw [hX4]; push_cast; rfl
        rw [e, IntWalk.i64_in _ (by omega)]
      have w5 : IntKind.i64.wrap ((rest : Int) + (X4 : Int)) = (IX : Int) := by rw [IntWalk.i64_in _ (by omega)]; omega
      have KL : Hid (wr.cell? ⟨gl, IX, none⟩ = some (.bool (l.getD IX false))) := KX.out.l.cell IX hIXn
      have HW : Hid (WR N M l rest step x j ↔ l.getD IX false = true) := by
        rw [Hid, hIXe]; exact ⟨fun h => h.2, fun h => ⟨⟨hx, hlt⟩, h⟩⟩
      have HJ := Lib.hid hlt
      clear hX1 hX2 hX3 hX4 hIX hIXe hix
      obtain ⟨TV, hTV⟩ : ∃ TV, TV = Tc.getD j false := ⟨_, rfl⟩
      obtain ⟨LV, hLV⟩ : ∃ LV, LV = l.getD IX false := ⟨_, rfl⟩
      rw [← hTV] at KT
      rw [← hLV] at KL HW
      have HTV := Lib.hid hTV
      clear hTV hLV
      cases TV with
      | true =>
        have q0 : ∀ QQ : Wd (fun Q => Q.cell? ⟨gt, j, none⟩ = some (.bool true) ∧ Q.cell? ⟨pp, 0, none⟩ = some (.pointer (some ⟨H, 0, none⟩)) ∧ Q.cell? ⟨H, 9, none⟩ = some (.slice (some ⟨gl, 0, none⟩) n cl) ∧ Q.cell? ⟨pr, 0, none⟩ = some (.int .i64 rest) ∧ Q.cell? ⟨ps, 0, none⟩ = some (.int .i64 step) ∧ Q.cell? ⟨H, 3, none⟩ = some (.int .i64 M) ∧ Q.cell? ⟨gl, IX, none⟩ = some (.bool LV)), QQ.w.cell? ⟨gt, j, none⟩ = some (.bool true) := fun QQ => QQ.ok.1
        have q1 : ∀ QQ : Wd (fun Q => Q.cell? ⟨gt, j, none⟩ = some (.bool true) ∧ Q.cell? ⟨pp, 0, none⟩ = some (.pointer (some ⟨H, 0, none⟩)) ∧ Q.cell? ⟨H, 9, none⟩ = some (.slice (some ⟨gl, 0, none⟩) n cl) ∧ Q.cell? ⟨pr, 0, none⟩ = some (.int .i64 rest) ∧ Q.cell? ⟨ps, 0, none⟩ = some (.int .i64 step) ∧ Q.cell? ⟨H, 3, none⟩ = some (.int .i64 M) ∧ Q.cell? ⟨gl, IX, none⟩ = some (.bool LV)), QQ.w.cell? ⟨pp, 0, none⟩ = some (.pointer (some ⟨H, 0, none⟩)) := fun QQ => QQ.ok.2.1
        have q2 : ∀ QQ : Wd (fun Q => Q.cell? ⟨gt, j, none⟩ = some (.bool true) ∧ Q.cell? ⟨pp, 0, none⟩ = some (.pointer (some ⟨H, 0, none⟩)) ∧ Q.cell? ⟨H, 9, none⟩ = some (.slice (some ⟨gl, 0, none⟩) n cl) ∧ Q.cell? ⟨pr, 0, none⟩ = some (.int .i64 rest) ∧ Q.cell? ⟨ps, 0, none⟩ = some (.int .i64 step) ∧ Q.cell? ⟨H, 3, none⟩ = some (.int .i64 M) ∧ Q.cell? ⟨gl, IX, none⟩ = some (.bool LV)), QQ.w.cell? ⟨H, 9, none⟩ = some (.slice (some ⟨gl, 0, none⟩) n cl) := fun QQ => QQ.ok.2.2.1
        have q3 : ∀ QQ : Wd (fun Q => Q.cell? ⟨gt, j, none⟩ = some (.bool true) ∧ Q.cell? ⟨pp, 0, none⟩ = some (.pointer (some ⟨H, 0, none⟩)) ∧ Q.cell? ⟨H, 9, none⟩ = some (.slice (some ⟨gl, 0, none⟩) n cl) ∧ Q.cell? ⟨pr, 0, none⟩ = some (.int .i64 rest) ∧ Q.cell? ⟨ps, 0, none⟩ = some (.int .i64 step) ∧ Q.cell? ⟨H, 3, none⟩ = some (.int .i64 M) ∧ Q.cell? ⟨gl, IX, none⟩ = some (.bool LV)), QQ.w.cell? ⟨pr, 0, none⟩ = some (.int .i64 rest) := fun QQ => QQ.ok.2.2.2.1
        have q4 : ∀ QQ : Wd (fun Q => Q.cell? ⟨gt, j, none⟩ = some (.bool true) ∧ Q.cell? ⟨pp, 0, none⟩ = some (.pointer (some ⟨H, 0, none⟩)) ∧ Q.cell? ⟨H, 9, none⟩ = some (.slice (some ⟨gl, 0, none⟩) n cl) ∧ Q.cell? ⟨pr, 0, none⟩ = some (.int .i64 rest) ∧ Q.cell? ⟨ps, 0, none⟩ = some (.int .i64 step) ∧ Q.cell? ⟨H, 3, none⟩ = some (.int .i64 M) ∧ Q.cell? ⟨gl, IX, none⟩ = some (.bool LV)), QQ.w.cell? ⟨ps, 0, none⟩ = some (.int .i64 step) := fun QQ => QQ.ok.2.2.2.2.1
        have q5 : ∀ QQ : Wd (fun Q => Q.cell? ⟨gt, j, none⟩ = some (.bool true) ∧ Q.cell? ⟨pp, 0, none⟩ = some (.pointer (some ⟨H, 0, none⟩)) ∧ Q.cell? ⟨H, 9, none⟩ = some (.slice (some ⟨gl, 0, none⟩) n cl) ∧ Q.cell? ⟨pr, 0, none⟩ = some (.int .i64 rest) ∧ Q.cell? ⟨ps, 0, none⟩ = some (.int .i64 step) ∧ Q.cell? ⟨H, 3, none⟩ = some (.int .i64 M) ∧ Q.cell? ⟨gl, IX, none⟩ = some (.bool LV)), QQ.w.cell? ⟨H, 3, none⟩ = some (.int .i64 M) := fun QQ => QQ.ok.2.2.2.2.2.1
        have q6 : ∀ QQ : Wd (fun Q => Q.cell? ⟨gt, j, none⟩ = some (.bool true) ∧ Q.cell? ⟨pp, 0, none⟩ = some (.pointer (some ⟨H, 0, none⟩)) ∧ Q.cell? ⟨H, 9, none⟩ = some (.slice (some ⟨gl, 0, none⟩) n cl) ∧ Q.cell? ⟨pr, 0, none⟩ = some (.int .i64 rest) ∧ Q.cell? ⟨ps, 0, none⟩ = some (.int .i64 step) ∧ Q.cell? ⟨H, 3, none⟩ = some (.int .i64 M) ∧ Q.cell? ⟨gl, IX, none⟩ = some (.bool LV)), QQ.w.cell? ⟨gl, IX, none⟩ = some (.bool LV) := fun QQ => QQ.ok.2.2.2.2.2.2
        have hne : Nonempty (Wd (fun Q => Q.cell? ⟨gt, j, none⟩ = some (.bool true) ∧ Q.cell? ⟨pp, 0, none⟩ = some (.pointer (some ⟨H, 0, none⟩)) ∧ Q.cell? ⟨H, 9, none⟩ = some (.slice (some ⟨gl, 0, none⟩) n cl) ∧ Q.cell? ⟨pr, 0, none⟩ = some (.int .i64 rest) ∧ Q.cell? ⟨ps, 0, none⟩ = some (.int .i64 step) ∧ Q.cell? ⟨H, 3, none⟩ = some (.int .i64 M) ∧ Q.cell? ⟨gl, IX, none⟩ = some (.bool LV))) := ⟨⟨wr, ⟨KT.out, KX.out.q, KX.out.g.c9, KX.out.r, KX.out.s, KX.out.g.c3, KL.out⟩⟩⟩
        go_wp2_with fail
        refine chain (S := (fun Q => Q.cell? ⟨gt, j, none⟩ = some (.bool true) ∧ Q.cell? ⟨pp, 0, none⟩ = some (.pointer (some ⟨H, 0, none⟩)) ∧ Q.cell? ⟨H, 9, none⟩ = some (.slice (some ⟨gl, 0, none⟩) n cl) ∧ Q.cell? ⟨pr, 0, none⟩ = some (.int .i64 rest) ∧ Q.cell? ⟨ps, 0, none⟩ = some (.int .i64 step) ∧ Q.cell? ⟨H, 3, none⟩ = some (.int .i64 M) ∧ Q.cell? ⟨gl, IX, none⟩ = some (.bool LV))) [] [true, true, true, true, true, true, true, true, true, true, true, true, true, true, true, true, true, true, true, true, true, true, true, true, true, true, true] (by kernel_rfl) (by kernel_rfl) (by kernel_rfl) ⟨KT.out, KX.out.q, KX.out.g.c9, KX.out.r, KX.out.s, KX.out.g.c3, KL.out⟩ ?_
        simp only [wpSegs, pickB, List.dropLast_cons_cons, List.dropLast_singleton, List.getLast?_cons_cons, List.getLast?_singleton, List.toList_toArray, List.getElem?_toArray, List.getElem?_cons_succ, List.getElem?_cons_zero, Option.toList_some]
        repeat (go_big_quiet_step (fail))
        refine wpQuiet_nil ?_
        clear q0 q1 q2 q3 q4 q5 q6 hne
        have HN : Hid (KM cp pp pr ps pf H N s r M t q k P gf cf gl cl n gp cpp gt ct rest step l wr.drew Pl Tc ∧ Out (fun j => j = gp ∨ j = gt) W wr.drew ∧ (∀ y, TT Tl y → TT Tc y) ∧ peb.Left (WR N M l rest step) M (TT Tl) (TT Tc) (PP Pl) x (j + 1)) := ⟨KX.out.drew, hst.out.2.1.trans (Out.of_below (D := fun _ => False) (Below.refl _ _).drew (Nat.le_refl _)) (fun k hk => hk.elim), hst.out.2.2.1, left_tried hst.out.2.2.2 HTV.out.symm⟩
        clear hst
        go_wp2
        go_roundw
        case rel => exact ⟨j + 1, Tc, by omega, by go_num, HN.out⟩
        case measure => simp [intOf]; omega
      | false =>
        cases LV with
        | false =>
          have q0 : ∀ QQ : Wd (fun Q => Q.cell? ⟨gt, j, none⟩ = some (.bool false) ∧ Q.cell? ⟨pp, 0, none⟩ = some (.pointer (some ⟨H, 0, none⟩)) ∧ Q.cell? ⟨H, 9, none⟩ = some (.slice (some ⟨gl, 0, none⟩) n cl) ∧ Q.cell? ⟨pr, 0, none⟩ = some (.int .i64 rest) ∧ Q.cell? ⟨ps, 0, none⟩ = some (.int .i64 step) ∧ Q.cell? ⟨H, 3, none⟩ = some (.int .i64 M) ∧ Q.cell? ⟨gl, IX, none⟩ = some (.bool false)), QQ.w.cell? ⟨gt, j, none⟩ = some (.bool false) := fun QQ => QQ.ok.1
          have q1 : ∀ QQ : Wd (fun Q => Q.cell? ⟨gt, j, none⟩ = some (.bool false) ∧ Q.cell? ⟨pp, 0, none⟩ = some (.pointer (some ⟨H, 0, none⟩)) ∧ Q.cell? ⟨H, 9, none⟩ = some (.slice (some ⟨gl, 0, none⟩) n cl) ∧ Q.cell? ⟨pr, 0, none⟩ = some (.int .i64 rest) ∧ Q.cell? ⟨ps, 0, none⟩ = some (.int .i64 step) ∧ Q.cell? ⟨H, 3, none⟩ = some (.int .i64 M) ∧ Q.cell? ⟨gl, IX, none⟩ = some (.bool false)), QQ.w.cell? ⟨pp, 0, none⟩ = some (.pointer (some ⟨H, 0, none⟩)) := fun QQ => QQ.ok.2.1
          have q2 : ∀ QQ : Wd (fun Q => Q.cell? ⟨gt, j, none⟩ = some (.bool false) ∧ Q.cell? ⟨pp, 0, none⟩ = some (.pointer (some ⟨H, 0, none⟩)) ∧ Q.cell? ⟨H, 9, none⟩ = some (.slice (some ⟨gl, 0, none⟩) n cl) ∧ Q.cell? ⟨pr, 0, none⟩ = some (.int .i64 rest) ∧ Q.cell? ⟨ps, 0, none⟩ = some (.int .i64 step) ∧ Q.cell? ⟨H, 3, none⟩ = some (.int .i64 M) ∧ Q.cell? ⟨gl, IX, none⟩ = some (.bool false)), QQ.w.cell? ⟨H, 9, none⟩ = some (.slice (some ⟨gl, 0, none⟩) n cl) := fun QQ => QQ.ok.2.2.1
          have q3 : ∀ QQ : Wd (fun Q => Q.cell? ⟨gt, j, none⟩ = some (.bool false) ∧ Q.cell? ⟨pp, 0, none⟩ = some (.pointer (some ⟨H, 0, none⟩)) ∧ Q.cell? ⟨H, 9, none⟩ = some (.slice (some ⟨gl, 0, none⟩) n cl) ∧ Q.cell? ⟨pr, 0, none⟩ = some (.int .i64 rest) ∧ Q.cell? ⟨ps, 0, none⟩ = some (.int .i64 step) ∧ Q.cell? ⟨H, 3, none⟩ = some (.int .i64 M) ∧ Q.cell? ⟨gl, IX, none⟩ = some (.bool false)), QQ.w.cell? ⟨pr, 0, none⟩ = some (.int .i64 rest) := fun QQ => QQ.ok.2.2.2.1
          have q4 : ∀ QQ : Wd (fun Q => Q.cell? ⟨gt, j, none⟩ = some (.bool false) ∧ Q.cell? ⟨pp, 0, none⟩ = some (.pointer (some ⟨H, 0, none⟩)) ∧ Q.cell? ⟨H, 9, none⟩ = some (.slice (some ⟨gl, 0, none⟩) n cl) ∧ Q.cell? ⟨pr, 0, none⟩ = some (.int .i64 rest) ∧ Q.cell? ⟨ps, 0, none⟩ = some (.int .i64 step) ∧ Q.cell? ⟨H, 3, none⟩ = some (.int .i64 M) ∧ Q.cell? ⟨gl, IX, none⟩ = some (.bool false)), QQ.w.cell? ⟨ps, 0, none⟩ = some (.int .i64 step) := fun QQ => QQ.ok.2.2.2.2.1
          have q5 : ∀ QQ : Wd (fun Q => Q.cell? ⟨gt, j, none⟩ = some (.bool false) ∧ Q.cell? ⟨pp, 0, none⟩ = some (.pointer (some ⟨H, 0, none⟩)) ∧ Q.cell? ⟨H, 9, none⟩ = some (.slice (some ⟨gl, 0, none⟩) n cl) ∧ Q.cell? ⟨pr, 0, none⟩ = some (.int .i64 rest) ∧ Q.cell? ⟨ps, 0, none⟩ = some (.int .i64 step) ∧ Q.cell? ⟨H, 3, none⟩ = some (.int .i64 M) ∧ Q.cell? ⟨gl, IX, none⟩ = some (.bool false)), QQ.w.cell? ⟨H, 3, none⟩ = some (.int .i64 M) := fun QQ => QQ.ok.2.2.2.2.2.1
          have q6 : ∀ QQ : Wd (fun Q => Q.cell? ⟨gt, j, none⟩ = some (.bool false) ∧ Q.cell? ⟨pp, 0, none⟩ = some (.pointer (some ⟨H, 0, none⟩)) ∧ Q.cell? ⟨H, 9, none⟩ = some (.slice (some ⟨gl, 0, none⟩) n cl) ∧ Q.cell? ⟨pr, 0, none⟩ = some (.int .i64 rest) ∧ Q.cell? ⟨ps, 0, none⟩ = some (.int .i64 step) ∧ Q.cell? ⟨H, 3, none⟩ = some (.int .i64 M) ∧ Q.cell? ⟨gl, IX, none⟩ = some (.bool false)), QQ.w.cell? ⟨gl, IX, none⟩ = some (.bool false) := fun QQ => QQ.ok.2.2.2.2.2.2
          have hne : Nonempty (Wd (fun Q => Q.cell? ⟨gt, j, none⟩ = some (.bool false) ∧ Q.cell? ⟨pp, 0, none⟩ = some (.pointer (some ⟨H, 0, none⟩)) ∧ Q.cell? ⟨H, 9, none⟩ = some (.slice (some ⟨gl, 0, none⟩) n cl) ∧ Q.cell? ⟨pr, 0, none⟩ = some (.int .i64 rest) ∧ Q.cell? ⟨ps, 0, none⟩ = some (.int .i64 step) ∧ Q.cell? ⟨H, 3, none⟩ = some (.int .i64 M) ∧ Q.cell? ⟨gl, IX, none⟩ = some (.bool false))) := ⟨⟨wr, ⟨KT.out, KX.out.q, KX.out.g.c9, KX.out.r, KX.out.s, KX.out.g.c3, KL.out⟩⟩⟩
          go_wp2_with fail
          refine chain (S := (fun Q => Q.cell? ⟨gt, j, none⟩ = some (.bool false) ∧ Q.cell? ⟨pp, 0, none⟩ = some (.pointer (some ⟨H, 0, none⟩)) ∧ Q.cell? ⟨H, 9, none⟩ = some (.slice (some ⟨gl, 0, none⟩) n cl) ∧ Q.cell? ⟨pr, 0, none⟩ = some (.int .i64 rest) ∧ Q.cell? ⟨ps, 0, none⟩ = some (.int .i64 step) ∧ Q.cell? ⟨H, 3, none⟩ = some (.int .i64 M) ∧ Q.cell? ⟨gl, IX, none⟩ = some (.bool false))) [] [true, true, true, true, true, true, true, true, true, true, true, true, true, true, true, true, true, true, true, true, true, true, true, true, true, true, true] (by kernel_rfl) (by kernel_rfl) (by kernel_rfl) ⟨KT.out, KX.out.q, KX.out.g.c9, KX.out.r, KX.out.s, KX.out.g.c3, KL.out⟩ ?_
          simp only [wpSegs, pickB, List.dropLast_cons_cons, List.dropLast_singleton, List.getLast?_cons_cons, List.getLast?_singleton, List.toList_toArray, List.getElem?_toArray, List.getElem?_cons_succ, List.getElem?_cons_zero, Option.toList_some]
          repeat (go_big_quiet_step (fail))
          refine wpQuiet_nil ?_
          clear q0 q1 q2 q3 q4 q5 q6 hne
          have HN : Hid (KM cp pp pr ps pf H N s r M t q k P gf cf gl cl n gp cpp gt ct rest step l wr.drew Pl Tc ∧ Out (fun j => j = gp ∨ j = gt) W wr.drew ∧ (∀ y, TT Tl y → TT Tc y) ∧ peb.Left (WR N M l rest step) M (TT Tl) (TT Tc) (PP Pl) x (j + 1)) := ⟨KX.out.drew, hst.out.2.1.trans (Out.of_below (D := fun _ => False) (Below.refl _ _).drew (Nat.le_refl _)) (fun k hk => hk.elim), hst.out.2.2.1, left_unfit hst.out.2.2.2 (fun h => by have := HW.out.1 h; cases this)⟩
          clear hst
          go_wp2
          go_roundw
          case rel => exact ⟨j + 1, Tc, by omega, by go_num, HN.out⟩
          case measure => simp [intOf]; omega
        | true =>
          have HWJ : Hid (WR N M l rest step x j) := HW.out.2 rfl
          have HTJ : Hid (¬ TT Tc j) := fun h => by rw [TT, ← HTV.out] at h; cases h
          have q0 : ∀ QQ : Wd (fun Q => Q.cell? ⟨gt, j, none⟩ = some (.bool false) ∧ Q.cell? ⟨pp, 0, none⟩ = some (.pointer (some ⟨H, 0, none⟩)) ∧ Q.cell? ⟨H, 9, none⟩ = some (.slice (some ⟨gl, 0, none⟩) n cl) ∧ Q.cell? ⟨pr, 0, none⟩ = some (.int .i64 rest) ∧ Q.cell? ⟨ps, 0, none⟩ = some (.int .i64 step) ∧ Q.cell? ⟨H, 3, none⟩ = some (.int .i64 M) ∧ Q.cell? ⟨gl, IX, none⟩ = some (.bool true)), QQ.w.cell? ⟨gt, j, none⟩ = some (.bool false) := fun QQ => QQ.ok.1
          have q1 : ∀ QQ : Wd (fun Q => Q.cell? ⟨gt, j, none⟩ = some (.bool false) ∧ Q.cell? ⟨pp, 0, none⟩ = some (.pointer (some ⟨H, 0, none⟩)) ∧ Q.cell? ⟨H, 9, none⟩ = some (.slice (some ⟨gl, 0, none⟩) n cl) ∧ Q.cell? ⟨pr, 0, none⟩ = some (.int .i64 rest) ∧ Q.cell? ⟨ps, 0, none⟩ = some (.int .i64 step) ∧ Q.cell? ⟨H, 3, none⟩ = some (.int .i64 M) ∧ Q.cell? ⟨gl, IX, none⟩ = some (.bool true)), QQ.w.cell? ⟨pp, 0, none⟩ = some (.pointer (some ⟨H, 0, none⟩)) := fun QQ => QQ.ok.2.1
          have q2 : ∀ QQ : Wd (fun Q => Q.cell? ⟨gt, j, none⟩ = some (.bool false) ∧ Q.cell? ⟨pp, 0, none⟩ = some (.pointer (some ⟨H, 0, none⟩)) ∧ Q.cell? ⟨H, 9, none⟩ = some (.slice (some ⟨gl, 0, none⟩) n cl) ∧ Q.cell? ⟨pr, 0, none⟩ = some (.int .i64 rest) ∧ Q.cell? ⟨ps, 0, none⟩ = some (.int .i64 step) ∧ Q.cell? ⟨H, 3, none⟩ = some (.int .i64 M) ∧ Q.cell? ⟨gl, IX, none⟩ = some (.bool true)), QQ.w.cell? ⟨H, 9, none⟩ = some (.slice (some ⟨gl, 0, none⟩) n cl) := fun QQ => QQ.ok.2.2.1
          have q3 : ∀ QQ : Wd (fun Q => Q.cell? ⟨gt, j, none⟩ = some (.bool false) ∧ Q.cell? ⟨pp, 0, none⟩ = some (.pointer (some ⟨H, 0, none⟩)) ∧ Q.cell? ⟨H, 9, none⟩ = some (.slice (some ⟨gl, 0, none⟩) n cl) ∧ Q.cell? ⟨pr, 0, none⟩ = some (.int .i64 rest) ∧ Q.cell? ⟨ps, 0, none⟩ = some (.int .i64 step) ∧ Q.cell? ⟨H, 3, none⟩ = some (.int .i64 M) ∧ Q.cell? ⟨gl, IX, none⟩ = some (.bool true)), QQ.w.cell? ⟨pr, 0, none⟩ = some (.int .i64 rest) := fun QQ => QQ.ok.2.2.2.1
          have q4 : ∀ QQ : Wd (fun Q => Q.cell? ⟨gt, j, none⟩ = some (.bool false) ∧ Q.cell? ⟨pp, 0, none⟩ = some (.pointer (some ⟨H, 0, none⟩)) ∧ Q.cell? ⟨H, 9, none⟩ = some (.slice (some ⟨gl, 0, none⟩) n cl) ∧ Q.cell? ⟨pr, 0, none⟩ = some (.int .i64 rest) ∧ Q.cell? ⟨ps, 0, none⟩ = some (.int .i64 step) ∧ Q.cell? ⟨H, 3, none⟩ = some (.int .i64 M) ∧ Q.cell? ⟨gl, IX, none⟩ = some (.bool true)), QQ.w.cell? ⟨ps, 0, none⟩ = some (.int .i64 step) := fun QQ => QQ.ok.2.2.2.2.1
          have q5 : ∀ QQ : Wd (fun Q => Q.cell? ⟨gt, j, none⟩ = some (.bool false) ∧ Q.cell? ⟨pp, 0, none⟩ = some (.pointer (some ⟨H, 0, none⟩)) ∧ Q.cell? ⟨H, 9, none⟩ = some (.slice (some ⟨gl, 0, none⟩) n cl) ∧ Q.cell? ⟨pr, 0, none⟩ = some (.int .i64 rest) ∧ Q.cell? ⟨ps, 0, none⟩ = some (.int .i64 step) ∧ Q.cell? ⟨H, 3, none⟩ = some (.int .i64 M) ∧ Q.cell? ⟨gl, IX, none⟩ = some (.bool true)), QQ.w.cell? ⟨H, 3, none⟩ = some (.int .i64 M) := fun QQ => QQ.ok.2.2.2.2.2.1
          have q6 : ∀ QQ : Wd (fun Q => Q.cell? ⟨gt, j, none⟩ = some (.bool false) ∧ Q.cell? ⟨pp, 0, none⟩ = some (.pointer (some ⟨H, 0, none⟩)) ∧ Q.cell? ⟨H, 9, none⟩ = some (.slice (some ⟨gl, 0, none⟩) n cl) ∧ Q.cell? ⟨pr, 0, none⟩ = some (.int .i64 rest) ∧ Q.cell? ⟨ps, 0, none⟩ = some (.int .i64 step) ∧ Q.cell? ⟨H, 3, none⟩ = some (.int .i64 M) ∧ Q.cell? ⟨gl, IX, none⟩ = some (.bool true)), QQ.w.cell? ⟨gl, IX, none⟩ = some (.bool true) := fun QQ => QQ.ok.2.2.2.2.2.2
          have hne : Nonempty (Wd (fun Q => Q.cell? ⟨gt, j, none⟩ = some (.bool false) ∧ Q.cell? ⟨pp, 0, none⟩ = some (.pointer (some ⟨H, 0, none⟩)) ∧ Q.cell? ⟨H, 9, none⟩ = some (.slice (some ⟨gl, 0, none⟩) n cl) ∧ Q.cell? ⟨pr, 0, none⟩ = some (.int .i64 rest) ∧ Q.cell? ⟨ps, 0, none⟩ = some (.int .i64 step) ∧ Q.cell? ⟨H, 3, none⟩ = some (.int .i64 M) ∧ Q.cell? ⟨gl, IX, none⟩ = some (.bool true))) := ⟨⟨wr, ⟨KT.out, KX.out.q, KX.out.g.c9, KX.out.r, KX.out.s, KX.out.g.c3, KL.out⟩⟩⟩
          go_wp2_with fail
          refine chain (S := (fun Q => Q.cell? ⟨gt, j, none⟩ = some (.bool false) ∧ Q.cell? ⟨pp, 0, none⟩ = some (.pointer (some ⟨H, 0, none⟩)) ∧ Q.cell? ⟨H, 9, none⟩ = some (.slice (some ⟨gl, 0, none⟩) n cl) ∧ Q.cell? ⟨pr, 0, none⟩ = some (.int .i64 rest) ∧ Q.cell? ⟨ps, 0, none⟩ = some (.int .i64 step) ∧ Q.cell? ⟨H, 3, none⟩ = some (.int .i64 M) ∧ Q.cell? ⟨gl, IX, none⟩ = some (.bool true))) [] [true, true, true, true, true, true, true, true, true, true, true, true, true, true, true, true, true, true, true, true, true, true, true, true, true, true, true] (by kernel_rfl) (by kernel_rfl) (by kernel_rfl) ⟨KT.out, KX.out.q, KX.out.g.c9, KX.out.r, KX.out.s, KX.out.g.c3, KL.out⟩ ?_
          simp only [wpSegs, pickB, List.dropLast_cons_cons, List.dropLast_singleton, List.getLast?_cons_cons, List.getLast?_singleton, List.toList_toArray, List.getElem?_toArray, List.getElem?_cons_succ, List.getElem?_cons_zero, Option.toList_some]
          repeat (go_big_quiet_step (fail))
          refine wpQuiet_nil ?_
          clear q0 q1 q2 q3 q4 q5 q6 hne
          have KD := Lib.hid KX.out.drew
          have kt : wr.drew.cell? ⟨gt, j, none⟩ = some (.bool false) := KT.out
          have ft : wr.drew.frozen? ⟨gt, j, none⟩ = false := World.ownsRow.frozenAt KD.out.ot.row_n j
          obtain ⟨w1_, hw1_⟩ : ∃ w1_, w1_ = (wr.setCell ⟨gt, j, none⟩ (.bool true)).drew := ⟨_, rfl⟩
          have K1 : Hid (KM cp pp pr ps pf H N s r M t q k P gf cf gl cl n gp cpp gt ct rest step l w1_ Pl (Tc.set j true)) := by rw [hw1_]; exact (KX.out.setT j true).drew
          have O1 : Hid (Out (fun j => j = gp ∨ j = gt) W w1_) := by
            rw [hw1_]
            exact (hst.out.2.1.trans (Out.of_grown (D := fun j => j = gp ∨ j = gt) (World.ownsRow.stored KX.out.ot.row_n j (.bool true)).2 (fun g e => .inr (Option.some.inj e).symm)) (fun k hk => .inl hk)).trans (Out.of_below (D := fun _ => False) (Below.refl _ _).drew (Nat.le_refl _)) (fun k hk => hk.elim)
          go_upto_region 6 with (fail)
          rw [← hw1_]
          clear hw1_ kt ft KD
          have HST := Lib.hid (show _ ∧ _ from ⟨hst.out.2.2.1, hst.out.2.2.2⟩)
          have HTJ0 : Hid (¬ TT Tl j) := fun h => HTJ.out (hst.out.2.2.1 j h)
          clear hst KX KT KL HW w1 w2 w3 w4 w5
          have KPj : Hid (w1_.cell? ⟨gp, j, none⟩ = some (.int .i64 (PP Pl j))) := K1.out.part HJ.out
          obtain ⟨pv, hpv⟩ : ∃ pv, pv = PP Pl j := ⟨_, rfl⟩
          rw [← hpv] at KPj
          have HPV := Lib.hid hpv
          clear hpv
          by_cases hp0 : pv < 0
          · have t0 : decide (pv < 0) = true := decide_eq_true hp0
            have q0 : ∀ QQ : Wd (fun Q => Q.cell? ⟨cp, 0, none⟩ = some (.slice (some ⟨gp, 0, none⟩) M cpp) ∧ Q.cell? ⟨gp, j, none⟩ = some (.int .i64 pv) ∧ Q.cell? ⟨pf, 0, none⟩ = some (.func (.func 193) #[] (capsK cp pp pr ps pf))), QQ.w.cell? ⟨cp, 0, none⟩ = some (.slice (some ⟨gp, 0, none⟩) M cpp) := fun QQ => QQ.ok.1
            have q1 : ∀ QQ : Wd (fun Q => Q.cell? ⟨cp, 0, none⟩ = some (.slice (some ⟨gp, 0, none⟩) M cpp) ∧ Q.cell? ⟨gp, j, none⟩ = some (.int .i64 pv) ∧ Q.cell? ⟨pf, 0, none⟩ = some (.func (.func 193) #[] (capsK cp pp pr ps pf))), QQ.w.cell? ⟨gp, j, none⟩ = some (.int .i64 pv) := fun QQ => QQ.ok.2.1
            have q2 : ∀ QQ : Wd (fun Q => Q.cell? ⟨cp, 0, none⟩ = some (.slice (some ⟨gp, 0, none⟩) M cpp) ∧ Q.cell? ⟨gp, j, none⟩ = some (.int .i64 pv) ∧ Q.cell? ⟨pf, 0, none⟩ = some (.func (.func 193) #[] (capsK cp pp pr ps pf))), QQ.w.cell? ⟨pf, 0, none⟩ = some (.func (.func 193) #[] (capsK cp pp pr ps pf)) := fun QQ => QQ.ok.2.2
            have hne : Nonempty (Wd (fun Q => Q.cell? ⟨cp, 0, none⟩ = some (.slice (some ⟨gp, 0, none⟩) M cpp) ∧ Q.cell? ⟨gp, j, none⟩ = some (.int .i64 pv) ∧ Q.cell? ⟨pf, 0, none⟩ = some (.func (.func 193) #[] (capsK cp pp pr ps pf)))) := ⟨⟨w1_, ⟨K1.out.p, KPj.out, K1.out.f⟩⟩⟩
            go_wp2_with fail
            refine chain (S := (fun Q => Q.cell? ⟨cp, 0, none⟩ = some (.slice (some ⟨gp, 0, none⟩) M cpp) ∧ Q.cell? ⟨gp, j, none⟩ = some (.int .i64 pv) ∧ Q.cell? ⟨pf, 0, none⟩ = some (.func (.func 193) #[] (capsK cp pp pr ps pf)))) [([true, true, true, true, true, true, true, true, true, true, true, true], 12)] [false, false, false, false, false, false, false, false, false, false, false, false, false, true] (by kernel_rfl) (by kernel_rfl) (by kernel_rfl) ⟨K1.out.p, KPj.out, K1.out.f⟩ ?_
            simp only [wpSegs, pickB, List.dropLast_cons_cons, List.dropLast_singleton, List.getLast?_cons_cons, List.getLast?_singleton, List.toList_toArray, List.getElem?_toArray, List.getElem?_cons_succ, List.getElem?_cons_zero, Option.toList_some]
            repeat (go_big_quiet_step (fail))
            refine wpQuiet_nil ?_
            intro K hK
            go_wp2_with fail
            refine hK _ _ ⟨K1.out.p, KPj.out, K1.out.f⟩ ?_
            clear hK K
            repeat (go_big_quiet_step (fail))
            refine wpQuiet_nil ?_
            clear q0 q1 q2 hne
            have HLC : Hid (Tc.length = M) := by have := K1.out.lt; rw [List.length_set] at this; exact this
            have KE := Lib.hid K1.out.drew
            have kp : w1_.drew.cell? ⟨cp, 0, none⟩ = some (.slice (some ⟨gp, 0, none⟩) M cpp) := KE.out.p
            have kj : w1_.drew.cell? ⟨gp, j, none⟩ = some (.int .i64 (PP Pl j)) := KE.out.part HJ.out
            have fj : w1_.drew.frozen? ⟨gp, j, none⟩ = false := KE.out.op.free j
            have RES : Hid (KM cp pp pr ps pf H N s r M t q k P gf cf gl cl n gp cpp gt ct rest step l (w1_.setCell ⟨gp, j, none⟩ (.int .i64 x)).drew (Pl.set j x) (Tc.set j true) ∧ Out (fun j => j = gp ∨ j = gt) W (w1_.setCell ⟨gp, j, none⟩ (.int .i64 x)).drew ∧ (∀ y, TT Tl y → TT (Tc.set j true) y) ∧ Placed (WR N M l rest step) M (TT Tl) (PP Pl) (PP (Pl.set j x)) x true) := by
              refine ⟨(K1.out.setP j x).drew, (O1.out.trans (Out.of_grown (D := fun j => j = gp ∨ j = gt) (OwnI.setGrown K1.out.op j x) (fun g e => .inl (Option.some.inj e).symm)) (fun k hk => .inl hk)).trans (Out.of_below (D := fun _ => False) (Below.refl _ _).drew (Nat.le_refl _)) (fun k hk => hk.elim), (fun y hy => by rw [TT_set (by rw [HLC.out]; exact HJ.out)]; exact .inl (HST.out.1 y hy)), ?_⟩
              rw [PP_set (by rw [KE.out.lp]; exact HJ.out)]
              exact place_free HPAR.out.1 HPAR.out.2 HJ.out HTJ0.out HWJ.out (by rw [← HPV.out]; exact hp0)
            go_wp2
            go_ret
            exact ⟨true, _, _, rfl, RES.out⟩
          · have t0 : decide (pv < 0) = false := decide_eq_false hp0
            have HLC : Hid (Tc.length = M) := by have := K1.out.lt; rw [List.length_set] at this; exact this
            have HTS : Hid (TT (Tc.set j true) = fun y => TT Tc y ∨ y = j) := TT_set (by rw [HLC.out]; exact HJ.out)
            have HYN : Hid (pv.toNat < N) := by have := (HPAR.out.1.fit j HJ.out HTJ0.out (by rw [← HPV.out]; omega)).1.1; rw [← HPV.out] at this; exact this
            have HU1 : Hid (1 ≤ m) := by
              have h1 := untr_set (Tl := Tc) (j := j) (by rw [HLC.out]; exact HJ.out) HTV.out.symm
              have h2 := untr_le (Tl := Tl) (Tl' := Tc) (by rw [HLC.out, HLT.out]) HST.out.1
              have h3 := HUM.out
              show 1 ≤ m
              omega
            have HUN : Hid (untr (Tc.set j true) ≤ m - 1) := by
              have h1 := untr_set (Tl := Tc) (j := j) (by rw [HLC.out]; exact HJ.out) HTV.out.symm
              have h2 := untr_le (Tl := Tl) (Tl' := Tc) (by rw [HLC.out, HLT.out]) HST.out.1
              have h3 := HUM.out
              show untr (Tc.set j true) ≤ m - 1
              omega
            have HP1 : Hid (Par (WR N M l rest step) M (TT (Tc.set j true)) (PP Pl)) := by
              rw [Hid, HTS.out]; exact HPAR.out.1.less fun y hy => .inl (HST.out.1 y hy)
            have HP2 : Hid (¬ Has M (TT (Tc.set j true)) (PP Pl) pv.toNat) := by
              rw [Hid, HTS.out]
              rintro ⟨y, h1, h2, h3⟩
              have := HPAR.out.1.inj y j h1 HJ.out (fun e => h2 (.inl (HST.out.1 y e))) HTJ0.out (by omega) (by rw [← HPV.out]; omega)
              exact h2 (.inr this)
            have q0 : ∀ QQ : Wd (fun Q => Q.cell? ⟨cp, 0, none⟩ = some (.slice (some ⟨gp, 0, none⟩) M cpp) ∧ Q.cell? ⟨gp, j, none⟩ = some (.int .i64 pv) ∧ Q.cell? ⟨pf, 0, none⟩ = some (.func (.func 193) #[] (capsK cp pp pr ps pf))), QQ.w.cell? ⟨cp, 0, none⟩ = some (.slice (some ⟨gp, 0, none⟩) M cpp) := fun QQ => QQ.ok.1
            have q1 : ∀ QQ : Wd (fun Q => Q.cell? ⟨cp, 0, none⟩ = some (.slice (some ⟨gp, 0, none⟩) M cpp) ∧ Q.cell? ⟨gp, j, none⟩ = some (.int .i64 pv) ∧ Q.cell? ⟨pf, 0, none⟩ = some (.func (.func 193) #[] (capsK cp pp pr ps pf))), QQ.w.cell? ⟨gp, j, none⟩ = some (.int .i64 pv) := fun QQ => QQ.ok.2.1
            have q2 : ∀ QQ : Wd (fun Q => Q.cell? ⟨cp, 0, none⟩ = some (.slice (some ⟨gp, 0, none⟩) M cpp) ∧ Q.cell? ⟨gp, j, none⟩ = some (.int .i64 pv) ∧ Q.cell? ⟨pf, 0, none⟩ = some (.func (.func 193) #[] (capsK cp pp pr ps pf))), QQ.w.cell? ⟨pf, 0, none⟩ = some (.func (.func 193) #[] (capsK cp pp pr ps pf)) := fun QQ => QQ.ok.2.2
            have hne : Nonempty (Wd (fun Q => Q.cell? ⟨cp, 0, none⟩ = some (.slice (some ⟨gp, 0, none⟩) M cpp) ∧ Q.cell? ⟨gp, j, none⟩ = some (.int .i64 pv) ∧ Q.cell? ⟨pf, 0, none⟩ = some (.func (.func 193) #[] (capsK cp pp pr ps pf)))) := ⟨⟨w1_, ⟨K1.out.p, KPj.out, K1.out.f⟩⟩⟩
            go_wp2_with fail
            refine chain (S := (fun Q => Q.cell? ⟨cp, 0, none⟩ = some (.slice (some ⟨gp, 0, none⟩) M cpp) ∧ Q.cell? ⟨gp, j, none⟩ = some (.int .i64 pv) ∧ Q.cell? ⟨pf, 0, none⟩ = some (.func (.func 193) #[] (capsK cp pp pr ps pf)))) [([true, true, true, true, true, true, true, true, true, true, true, true], 12)] [false, false, false, false, false, false, false, false, false, false, false, false, false, true] (by kernel_rfl) (by kernel_rfl) (by kernel_rfl) ⟨K1.out.p, KPj.out, K1.out.f⟩ ?_
            simp only [wpSegs, pickB, List.dropLast_cons_cons, List.dropLast_singleton, List.getLast?_cons_cons, List.getLast?_singleton, List.toList_toArray, List.getElem?_toArray, List.getElem?_cons_succ, List.getElem?_cons_zero, Option.toList_some]
            repeat (go_big_quiet_step (fail))
            refine wpQuiet_nil ?_
            intro K hK
            go_wp2_with fail
            have hc := HRC.out (m - 1) (by have := HUN.out; have := HU1.out; omega) pv.toNat pv w1_.drew Pl (Tc.set j true) (by omega) HYN.out HUN.out K1.out.drew HP1.out HP2.out
            unfold capsK at hc
            refine hc.mono ?_
            rintro er V1 ⟨b, Pl2, Tl2, rfl, hk2, ho2, hs2, hp2⟩
            have K2 := Lib.hid hk2
            have H2 := Lib.hid (show _ ∧ _ ∧ _ from ⟨ho2, hs2, hp2⟩)
            have KQ : Hid (V1.cell? ⟨gp, j, none⟩ = some (.int .i64 pv)) := by
              have h1 := K2.out.part HJ.out
              have h2 : PP Pl2 j = PP Pl j := hp2.old j (by rw [HTS.out]; exact .inr rfl)
              rw [Hid, h1]; show some (Value.int .i64 (PP Pl2 j)) = _
              rw [h2, HPV.out]
            clear hc hk2 ho2 hs2 hp2
            go_wp2_with fail
            refine hK _ _ ⟨K2.out.p, KQ.out, K2.out.f⟩ ?_
            clear hK K
            repeat (go_big_quiet_step (fail))
            refine wpQuiet_nil ?_
            clear q0 q1 q2 hne
            have HPL : Hid (Placed (WR N M l rest step) M (fun y => TT Tc y ∨ y = j) (PP Pl) (PP Pl2) (PP Pl j).toNat b) := by
              have h := H2.out.2.2
              rw [HTS.out, HPV.out] at h; exact h
            have HSUB : Hid (∀ y, TT Tl y → TT Tl2 y) := fun y hy => H2.out.2.1 y (by rw [HTS.out]; exact .inl (HST.out.1 y hy))
            have HOU : Hid (Out (fun j => j = gp ∨ j = gt) W V1) := ((O1.out.trans (Out.of_below (D := fun _ => False) (Below.refl _ _).drew (Nat.le_refl _)) (fun k hk => hk.elim))).trans H2.out.1 (fun k hk => .inl hk)
            cases b with
            | true =>
              have KE := Lib.hid K2.out
              have kp : V1.cell? ⟨cp, 0, none⟩ = some (.slice (some ⟨gp, 0, none⟩) M cpp) := KE.out.p
              have kj : V1.cell? ⟨gp, j, none⟩ = some (.int .i64 pv) := KQ.out
              have fj : V1.frozen? ⟨gp, j, none⟩ = false := KE.out.op.free j
              have RES : Hid (KM cp pp pr ps pf H N s r M t q k P gf cf gl cl n gp cpp gt ct rest step l (V1.setCell ⟨gp, j, none⟩ (.int .i64 x)) (Pl2.set j x) Tl2 ∧ Out (fun j => j = gp ∨ j = gt) W (V1.setCell ⟨gp, j, none⟩ (.int .i64 x)) ∧ (∀ y, TT Tl y → TT Tl2 y) ∧ Placed (WR N M l rest step) M (TT Tl) (PP Pl) (PP (Pl2.set j x)) x true) := by
                refine ⟨KE.out.setP j x, HOU.out.trans (Out.of_grown (D := fun j => j = gp ∨ j = gt) (OwnI.setGrown K2.out.op j x) (fun g e => .inl (Option.some.inj e).symm)) (fun k hk => .inl hk), HSUB.out, ?_⟩
                rw [PP_set (by rw [KE.out.lp]; exact HJ.out)]
                exact place_way HPAR.out.1 HPAR.out.2 HST.out.1 HJ.out HTJ.out HWJ.out (by rw [← HPV.out]; omega) HPL.out
              go_wp2
              go_ret
              exact ⟨true, _, _, rfl, RES.out⟩
            | false =>
              have EP : Pl2 = Pl := PP_ext (by rw [K2.out.lp, HLP.out]) (HPL.out.no rfl).1
              subst EP
              have HN : Hid (KM cp pp pr ps pf H N s r M t q k P gf cf gl cl n gp cpp gt ct rest step l V1 Pl2 Tl2 ∧ Out (fun j => j = gp ∨ j = gt) W V1 ∧ (∀ y, TT Tl y → TT Tl2 y) ∧ peb.Left (WR N M l rest step) M (TT Tl) (TT Tl2) (PP Pl2) x (j + 1)) := ⟨K2.out, HOU.out, HSUB.out, left_no HBL.out (HPAR.out.1.less HST.out.1) HST.out.2 HJ.out HTJ.out HWJ.out (by rw [← HPV.out]; omega) HPL.out (j + 1)⟩
              clear HST HPL HOU HSUB
              go_wp2
              go_roundw
              case rel => exact ⟨j + 1, Tl2, by omega, by go_num, HN.out⟩
              case measure => simp [intOf]; omega
    · obtain rfl : M = j := by omega
      go_wp2
      go_ret
      exact ⟨false, Pl, Tc, rfl, hst.out.1, hst.out.2.1, hst.out.2.2.1, place_none hst.out.2.2.2⟩
end Go.Proofs.YtpcnoiigbmiejaaDoor.pbi

/- besides, matched of the program. -/
namespace Go.Proofs.YtpcnoiigbmiejaaDoor.pbi
set_option linter.unusedVariables false
set_option linter.unusedSimpArgs false
open Go.ChangeShapes Go.WideShapes Go.ChangeAt Go.RowKit
open Go.Proofs.YtpcnoiigbmiejaaDoor.lib Go.Proofs.YtpcnoiigbmiejaaDoor.st Go.Proofs.YtpcnoiigbmiejaaDoor.flow Go.Proofs.YtpcnoiigbmiejaaDoor.chain Go.Proofs.YtpcnoiigbmiejaaDoor.base Go.Proofs.YtpcnoiigbmiejaaDoor.fits Go.Proofs.YtpcnoiigbmiejaaDoor.still Go.Proofs.YtpcnoiigbmiejaaDoor.gow Go.Proofs.YtpcnoiigbmiejaaDoor.peb Go.Proofs.YtpcnoiigbmiejaaDoor.tab
theorem infoB : (Tryd.prog.info? 4).map (fun i => (i.zero, i.size, i.bytes)) = some (some (.bool false), 1, 1) := by kernel_rfl

set_option maxHeartbeats 3200000 in
set_option maxRecDepth 100000 in
theorem besides_any (n : Nat) (w : World) (hn : n ≤ 1000) :
    Calls Tryd.prog 137 #[.int .i64 n] w fun e w' => ∃ g c, e = .returned (.slice (some ⟨g, 0, none⟩) n c) ∧ OwnI 3 w' w.heap.size (.slice (some ⟨g, 0, none⟩) n c) (List.replicate n (-1)) ∧ Below w.heap.size w w' := by
  have H0 : Hid (OwnI 3 (w.alloc (.cells #[] 3)) w.heap.size (.slice (some ⟨w.heap.size, 0, none⟩) 0 0) (List.replicate 0 (-1)) ∧ Below w.heap.size w (w.alloc (.cells #[] 3))) := ⟨empty_own w, (Below.refl _ _).alloc (Nat.le_refl _) _⟩
  go_enter Tryd.func137, Tryd.ntmps137
  go_wp2_with fail
  go_loopw [3, 6] (fun av iv wr => ∃ i g c : Nat, i ≤ n ∧ iv = .int .i64 i ∧ av = .slice (some ⟨g, 0, none⟩) i c ∧ Hid (OwnI 3 wr w.heap.size (.slice (some ⟨g, 0, none⟩) i c) (List.replicate i (-1)) ∧ Below w.heap.size w wr)) (fun _ iv _ => n - (intOf iv).toNat)
  case atStart => exact ⟨0, w.heap.size, 0, Nat.zero_le _, rfl, rfl, H0.out⟩
  case round =>
    clear H0
    obtain ⟨i, g, c, hi, rfl, rfl, hst⟩ := hrel
    by_cases hlt : i < n
    · have i1 : (i : Int) < (n : Int) := by omega
      have hsz := hst.out.2.size
      have HO : Hid (wr.ownsRow w.heap.size 3 1 (.slice (some ⟨g, 0, none⟩) i c) i (ivs (List.replicate i (-1)))) := by
        have := hst.out.1
        unfold OwnI at this; rw [List.length_replicate] at this; exact this
      go_wp2_with (at_builtin; refine wpList_app1 wr rfl (.tmp 8) (.tmp 9) 32 rfl w.heap.size 3 (.int .i64 0) 8 Tryd.underlying32 infoI rfl (by decide) _ _ _ (.int .i64 (-1)) rfl HO.out wr.heap.size rfl rfl rfl (by omega) hsz ?_)
      intro gA cA V1 ho1 hg1
      have HN : Hid (OwnI 3 V1 w.heap.size (.slice (some ⟨gA, 0, none⟩) (i + 1) cA) (List.replicate (i + 1) (-1)) ∧ Below w.heap.size w V1) := by
        refine ⟨?_, hst.out.2.trans (hg1.below HO.out hsz)⟩
        have e : ivs (List.replicate (i + 1) (-1)) = ivs (List.replicate i (-1)) ++ [.int .i64 (-1)] := by rw [List.replicate_succ', ivs_append]; rfl
        unfold OwnI; rw [e, List.length_replicate]; exact ho1
      clear ho1 hg1 HO hst
      go_wp2
      go_roundw
      case rel => exact ⟨i + 1, gA, cA, by omega, by go_num, rfl, HN.out⟩
      case measure => simp [intOf]; omega
    · obtain rfl : n = i := by omega
      go_wp2
      go_ret
      exact ⟨g, c, rfl, hst.out.1, hst.out.2⟩
/-- where matched works, between two placings -/
structure K0 (cp pp pr ps pf H N : Nat) (s r : ByteArray) (M : Nat) (t q : ByteArray) (k P gf cf gl cl n gp cpp rest step : Nat) (l : List Bool) (W : World) (Pl : List Int) : Prop where
  g : PG W H N s r M t q k P gf cf gl cl n true
  l : RdB W gl n l
  p : W.cell? ⟨cp, 0, none⟩ = some (.slice (some ⟨gp, 0, none⟩) M cpp)
  q : W.cell? ⟨pp, 0, none⟩ = some (.pointer (some ⟨H, 0, none⟩))
  r : W.cell? ⟨pr, 0, none⟩ = some (.int .i64 rest)
  s : W.cell? ⟨ps, 0, none⟩ = some (.int .i64 step)
  f : W.cell? ⟨pf, 0, none⟩ = some (.func (.func 193) #[] (capsK cp pp pr ps pf))
  op : OwnI 3 W 0 (.slice (some ⟨gp, 0, none⟩) M cpp) Pl
  lp : Pl.length = M
  ne : gp ≠ H ∧ gp ≠ gl ∧ gp ≠ cp ∧ gp ≠ pp ∧ gp ≠ pr ∧ gp ≠ ps ∧ gp ≠ pf
section
variable {cp pp pr ps pf H N : Nat} {s r : ByteArray} {M : Nat} {t q : ByteArray} {k P gf cf gl cl n gp cpp gt ct rest step : Nat} {l : List Bool} {W W' : World} {Pl : List Int} {Tl : List Bool}
theorem K0.of (h : KM cp pp pr ps pf H N s r M t q k P gf cf gl cl n gp cpp gt ct rest step l W Pl Tl) : K0 cp pp pr ps pf H N s r M t q k P gf cf gl cl n gp cpp rest step l W Pl := ⟨h.g, h.l, h.p, h.q, h.r, h.s, h.f, h.op, h.lp, h.ne.2⟩
theorem K0.below {C : Nat} (h : K0 cp pp pr ps pf H N s r M t q k P gf cf gl cl n gp cpp rest step l W Pl) (hb : Below C W W') (hC : W.heap.size ≤ C) : K0 cp pp pr ps pf H N s r M t q k P gf cf gl cl n gp cpp rest step l W' Pl :=
  ⟨h.g.below hb hC, h.l.below hb hC, ins.keepCell hb h.p hC, ins.keepCell hb h.q hC, ins.keepCell hb h.r hC, ins.keepCell hb h.s hC, ins.keepCell hb h.f hC, h.op.below hb hC, h.lp, h.ne⟩
/-- a new row for what is tried -/
theorem K0.with (h : K0 cp pp pr ps pf H N s r M t q k P gf cf gl cl n gp cpp rest step l W Pl) (hb : Below W.heap.size W W') (hg : W.heap.size ≤ gt) (ho : OwnBl W' 0 (.slice (some ⟨gt, 0, none⟩) M ct) Tl) (hl : Tl.length = M) : KM cp pp pr ps pf H N s r M t q k P gf cf gl cl n gp cpp gt ct rest step l W' Pl Tl := by
  have k := h.below hb (Nat.le_refl _)
  obtain ⟨n1, n2, n3, n4, n5, n6, n7⟩ := h.ne
  have b1 := h.g.lt
  have b2 := h.l.lt
  have b3 : cp < W.heap.size := World.block_lt_of_cell? W ⟨cp, 0, none⟩ h.p
  have b4 : pp < W.heap.size := World.block_lt_of_cell? W ⟨pp, 0, none⟩ h.q
  have b5 : pr < W.heap.size := World.block_lt_of_cell? W ⟨pr, 0, none⟩ h.r
  have b6 : ps < W.heap.size := World.block_lt_of_cell? W ⟨ps, 0, none⟩ h.s
  have b7 : pf < W.heap.size := World.block_lt_of_cell? W ⟨pf, 0, none⟩ h.f
  have b8 := h.op.ge.2
  exact ⟨k.g, k.l, k.p, k.q, k.r, k.s, k.f, k.op, ho, h.lp, hl, ⟨by omega, n1, n2, n3, n4, n5, n6, n7⟩, by omega, by omega, by omega, by omega, by omega, by omega, by omega⟩
end
theorem tt_fresh (M : Nat) : TT (List.replicate M false) = fun _ => False := by
  funext y
  unfold TT
  rw [List.getD_eq_getElem?_getD, List.getElem?_replicate]
  split <;> simp
theorem K0.drew {cp pp pr ps pf H N : Nat} {s r : ByteArray} {M : Nat} {t q : ByteArray} {k P gf cf gl cl n gp cpp rest step : Nat} {l : List Bool} {W : World} {Pl : List Int} (h : K0 cp pp pr ps pf H N s r M t q k P gf cf gl cl n gp cpp rest step l W Pl) : K0 cp pp pr ps pf H N s r M t q k P gf cf gl cl n gp cpp rest step l W.drew Pl :=
  ⟨h.g, h.l.below (Below.refl _ _).drew (Nat.le_refl _), h.p, h.q, h.r, h.s, h.f, h.op.below (Below.refl _ _).drew (Nat.le_refl _), h.lp, h.ne⟩
theorem ownBl_made {w : World} {B : Nat} {v : Value} {n : Nat} (h : w.ownsRow B 4 1 v n (madeCells #[Value.bool false] n).toList) : OwnBl w B v (List.replicate n false) := by
  have e : (madeCells #[Value.bool false] n).toList = bcs (List.replicate n false) := by
    rw [bcs, List.map_replicate]
    simp [toList_madeCells_one]
  unfold OwnBl
  rw [List.length_replicate, ← e]; exact h
theorem untr_fresh (M : Nat) : untr (List.replicate M false) ≤ M := by
  unfold untr; exact Nat.le_trans List.countP_le_length (by simp)
theorem pp_fresh {W : Nat → Nat → Prop} {M : Nat} : Upto W M 0 (PP (List.replicate M (-1))) := by
  have key : ∀ y, y < M → PP (List.replicate M (-1)) y = -1 := fun y hy => by
    unfold PP
    rw [List.getD_eq_getElem?_getD, List.getElem?_replicate, if_pos hy]; rfl
  exact ⟨⟨fun y _ h1 _ _ _ h5 => by rw [key y h1] at h5; omega, fun y h1 _ h5 => by rw [key y h1] at h5; omega⟩, fun z => ⟨fun ⟨y, h1, _, e⟩ => by rw [key y h1] at e; omega, fun e => by omega⟩⟩

set_option maxHeartbeats 6400000 in
set_option maxRecDepth 100000 in
theorem matched_any (H N : Nat) (s r : ByteArray) (M : Nat) (t q : ByteArray) (k P gf cf gl cl n rest step : Nat) (l : List Bool) (w : World) (hg : PG w H N s r M t q k P gf cf gl cl n true) (hl : RdB w gl n l) (hN8 : N ≤ 8) (hM8 : M ≤ 8) (hn9 : n ≤ 274625) (hix : ∀ x y, x < N → y < M → rest + step * (1 + x * M + y) < n) (hblk : Blk (WR N M l rest step)) :
    Calls Tryd.prog 165 #[.pointer (some ⟨H, 0, none⟩), .int .i64 rest, .int .i64 step] w fun e w' => ∃ b : Bool, e = .returned (.bool b) ∧ (b = true ↔ ∃ f g, Bij N M f g ∧ ∀ x, x < N → WR N M l rest step x (f x)) ∧ Below w.heap.size w w' := by
  obtain ⟨W3, hW3⟩ : ∃ W3, W3 = ((w.alloc (.cells #[.pointer (some ⟨H, 0, none⟩)] 63)).alloc (.cells #[.int .i64 rest] 3)).alloc (.cells #[.int .i64 step] 3) := ⟨_, rfl⟩
  have hz3 : W3.heap.size = w.heap.size + 3 := by rw [hW3]; simp
  have B3 : Hid (Below w.heap.size w W3) := by rw [hW3]; exact (((Below.refl _ _).alloc (Nat.le_refl _) _).alloc (by simp) _).alloc (by simp only [World.size_alloc]; omega) _
  have hcell : ∀ (W : World) (v : Value) (T : TypeId), (W.alloc (.cells #[v] T)).cell? ⟨W.heap.size, 0, none⟩ = some v := fun W v T => by simp
  have hnx : ∀ (W : World) (o : Obj) (k : Nat) (v : Value), W.cell? ⟨k, 0, none⟩ = some v → (W.alloc o).cell? ⟨k, 0, none⟩ = some v := fun W o k v h => by rw [World.cell?_alloc_lt _ _ _ (World.block_lt_of_cell? W ⟨k, 0, none⟩ h)]; exact h
  have c0 : W3.cell? ⟨w.heap.size, 0, none⟩ = some (.pointer (some ⟨H, 0, none⟩)) := by rw [hW3]; exact hnx _ _ _ _ (hnx _ _ _ _ (hcell _ _ _))
  have c1 : W3.cell? ⟨w.heap.size + 1, 0, none⟩ = some (.int .i64 rest) := by
    rw [hW3]
    have := hcell (w.alloc (.cells #[.pointer (some ⟨H, 0, none⟩)] 63)) (.int .i64 rest) 3
    rw [show (w.alloc (.cells #[.pointer (some ⟨H, 0, none⟩)] 63)).heap.size = w.heap.size + 1 by simp] at this
    exact hnx _ _ _ _ this
  have c2 : W3.cell? ⟨w.heap.size + 2, 0, none⟩ = some (.int .i64 step) := by
    rw [hW3]
    have := hcell ((w.alloc (.cells #[.pointer (some ⟨H, 0, none⟩)] 63)).alloc (.cells #[.int .i64 rest] 3)) (.int .i64 step) 3
    rw [show ((w.alloc (.cells #[.pointer (some ⟨H, 0, none⟩)] 63)).alloc (.cells #[.int .i64 rest] 3)).heap.size = w.heap.size + 2 by simp] at this
    exact this
  have HC := Lib.hid (show _ ∧ _ ∧ _ from ⟨c0, c1, c2⟩)
  have HG3 := Lib.hid (hg.below B3.out (Nat.le_refl _))
  have HL3 := Lib.hid (hl.below B3.out (Nat.le_refl _))
  have HH := Lib.hid (show _ ∧ _ from ⟨hg.lt, hl.lt⟩)
  have HW3 := Lib.hid hW3
  have HIX := Lib.hid hix
  have HBL := Lib.hid hblk
  clear hix hblk hW3 c0 c1 c2 hg hl hcell hnx
  go_enter Tryd.func165, Tryd.ntmps165
  go_upto_region 1 with (fail)
  rw [← HW3.out]
  clear HW3
  by_cases hNM : N = M
  · have e0 : ((N : Int) == (M : Int)) = true := by simp; omega
    have e1 : (N == M) = true := by simp; omega
    have e2 : ((N : Int) != (M : Int)) = false := by simp; omega
    have e3 : (N != M) = false := by simp; omega
    have HNM := Lib.hid hNM
    clear hNM
    have q0 : ∀ QQ : Wd (fun Q => Q.cell? ⟨w.heap.size, 0, none⟩ = some (.pointer (some ⟨H, 0, none⟩)) ∧ Q.cell? ⟨H, 0, none⟩ = some (.int .i64 N) ∧ Q.cell? ⟨H, 3, none⟩ = some (.int .i64 M)), QQ.w.cell? ⟨w.heap.size, 0, none⟩ = some (.pointer (some ⟨H, 0, none⟩)) := fun QQ => QQ.ok.1
    have q1 : ∀ QQ : Wd (fun Q => Q.cell? ⟨w.heap.size, 0, none⟩ = some (.pointer (some ⟨H, 0, none⟩)) ∧ Q.cell? ⟨H, 0, none⟩ = some (.int .i64 N) ∧ Q.cell? ⟨H, 3, none⟩ = some (.int .i64 M)), QQ.w.cell? ⟨H, 0, none⟩ = some (.int .i64 N) := fun QQ => QQ.ok.2.1
    have q2 : ∀ QQ : Wd (fun Q => Q.cell? ⟨w.heap.size, 0, none⟩ = some (.pointer (some ⟨H, 0, none⟩)) ∧ Q.cell? ⟨H, 0, none⟩ = some (.int .i64 N) ∧ Q.cell? ⟨H, 3, none⟩ = some (.int .i64 M)), QQ.w.cell? ⟨H, 3, none⟩ = some (.int .i64 M) := fun QQ => QQ.ok.2.2
    have hne : Nonempty (Wd (fun Q => Q.cell? ⟨w.heap.size, 0, none⟩ = some (.pointer (some ⟨H, 0, none⟩)) ∧ Q.cell? ⟨H, 0, none⟩ = some (.int .i64 N) ∧ Q.cell? ⟨H, 3, none⟩ = some (.int .i64 M))) := ⟨⟨W3, ⟨HC.out.1, HG3.out.c0, HG3.out.c3⟩⟩⟩
    go_wp2_with fail
    refine chain (S := (fun Q => Q.cell? ⟨w.heap.size, 0, none⟩ = some (.pointer (some ⟨H, 0, none⟩)) ∧ Q.cell? ⟨H, 0, none⟩ = some (.int .i64 N) ∧ Q.cell? ⟨H, 3, none⟩ = some (.int .i64 M))) [] [true, true, true, true, true, true, true, true, true, true, true] (by kernel_rfl) (by kernel_rfl) (by kernel_rfl) ⟨HC.out.1, HG3.out.c0, HG3.out.c3⟩ ?_
    simp only [wpSegs, pickB, List.dropLast_cons_cons, List.dropLast_singleton, List.getLast?_cons_cons, List.getLast?_singleton, List.toList_toArray, List.getElem?_toArray, List.getElem?_cons_succ, List.getElem?_cons_zero, Option.toList_some]
    repeat (go_big_quiet_step (fail))
    refine wpQuiet_nil ?_
    clear q0 q1 q2 hne
    have B4 : Hid (Below w.heap.size w W3.drew) := B3.out.drew
    have k0 : W3.drew.cell? ⟨w.heap.size, 0, none⟩ = some (.pointer (some ⟨H, 0, none⟩)) := HC.out.1
    have k3 : W3.drew.cell? ⟨H, 3, none⟩ = some (.int .i64 M) := HG3.out.c3
    go_wp2_with fail
    clear k0 k3
    refine (besides_any M _ (by omega)).mono ?_
    rintro er V1 ⟨gp, cpp, rfl, hop, hb⟩
    have hz1 : w.heap.size + 3 ≤ V1.heap.size := by have := hb.size; have e : W3.drew.heap.size = W3.heap.size := rfl; omega
    obtain ⟨W5, hW5⟩ : ∃ W5, W5 = (V1.alloc (.cells #[.slice (some ⟨gp, 0, none⟩) M cpp] 32)).alloc (.cells #[.func (.func 193) #[] (capsK V1.heap.size w.heap.size (w.heap.size + 1) (w.heap.size + 1 + 1) (V1.heap.size + 1))] 176) := ⟨_, rfl⟩
    have hK0 : Hid (K0 V1.heap.size w.heap.size (w.heap.size + 1) (w.heap.size + 1 + 1) (V1.heap.size + 1) H N s r M t q k P gf cf gl cl n gp cpp rest step l W5 (List.replicate M (-1))) := by
      have hb5 : Below V1.heap.size V1 W5 := by rw [hW5]; exact ((Below.refl _ _).alloc (Nat.le_refl _) _).alloc (by simp) _
      have hb35 : Below W3.drew.heap.size W3.drew W5 := hb.trans (hb5.mono hb.size)
      have hgp := hop.ge
      have e3 : W3.drew.heap.size = W3.heap.size := rfl
      refine ⟨(HG3.out.drew).below hb35 (Nat.le_refl _), (HL3.out.below (Below.refl _ _).drew (Nat.le_refl _)).below hb35 (Nat.le_refl _), ?_, ins.keepCell hb35 HC.out.1, ins.keepCell hb35 HC.out.2.1, ins.keepCell hb35 HC.out.2.2, ?_, (hop.mono (Nat.zero_le _)).below hb5 (Nat.le_refl _), List.length_replicate, ?_⟩
      · rw [hW5, World.cell?_alloc_lt _ _ _ (by simp)]; simp
      · have h := heap_alloc_new (V1.alloc (.cells #[.slice (some ⟨gp, 0, none⟩) M cpp] 32)) (.cells #[.func (.func 193) #[] (capsK V1.heap.size w.heap.size (w.heap.size + 1) (w.heap.size + 1 + 1) (V1.heap.size + 1))] 176)
        rw [← hW5, show (V1.alloc (.cells #[.slice (some ⟨gp, 0, none⟩) M cpp] 32)).heap.size = V1.heap.size + 1 by simp] at h
        simp [World.cell?, h]
      · have h1 := HH.out.1
        have h2 := HH.out.2
        refine ⟨by omega, by omega, by omega, by omega, by omega, by omega, by omega⟩
    have HGP : Hid (w.heap.size ≤ gp) := by have := hop.ge.1; have e3 : W3.drew.heap.size = W3.heap.size := rfl; show w.heap.size ≤ gp; omega
    have B5 : Hid (Below w.heap.size w W5) := by
      have hb5 : Below V1.heap.size V1 W5 := by rw [hW5]; exact ((Below.refl _ _).alloc (Nat.le_refl _) _).alloc (by simp) _
      exact B4.out.trans ((hb.trans (hb5.mono hb.size)).mono B4.out.size)
    unfold capsK at hW5
    have HW5 := Lib.hid hW5
    clear hb hop hW5
    have eP : make.Enters 193 := make.enters_of Tryd.func193 (by kernel_rfl) rfl
    unfold make.Enters at eP
    clear e0 e1 e2 e3 hz1
    clear HC HG3 HL3 B3 B4 hz3
    go_upto_region 6 with (fail)
    rw [← HW5.out]
    clear HW5
    obtain ⟨cp, hcp⟩ : ∃ cp, cp = V1.heap.size := ⟨_, rfl⟩
    obtain ⟨w1, hw1⟩ : ∃ w1, w1 = w.heap.size + 1 := ⟨_, rfl⟩
    rw [← hcp, ← hw1] at hK0 ⊢
    obtain ⟨w2, hw2⟩ : ∃ w2, w2 = w1 + 1 := ⟨_, rfl⟩
    obtain ⟨c1, hc1⟩ : ∃ c1, c1 = cp + 1 := ⟨_, rfl⟩
    rw [← hw2, ← hc1] at hK0 ⊢
    clear hcp hw1 hw2 hc1
    have HU : Hid (Upto (WR N M l rest step) M 0 (PP (List.replicate M (-1)))) := pp_fresh
    obtain ⟨Pl0, hPl0⟩ : ∃ Pl0, Pl0 = List.replicate M (-1 : Int) := ⟨_, rfl⟩
    rw [← hPl0] at hK0 HU
    clear hPl0
    have kq := hK0.out.q
    have k0 := hK0.out.g.c0
    go_wp2_with fail
    clear kq k0
    go_loopw [33] (fun iv wr => ∃ (x : Nat) (Pl : List Int), x ≤ N ∧ iv = .int .i64 x ∧ Hid (K0 cp w.heap.size w1 w2 c1 H N s r M t q k P gf cf gl cl n gp cpp rest step l wr Pl ∧ Upto (WR N M l rest step) M x (PP Pl) ∧ Below w.heap.size w wr)) (fun iv _ => N - (intOf iv).toNat)
    case atStart => exact ⟨0, Pl0, Nat.zero_le _, rfl, hK0.out, HU.out, B5.out⟩
    case round =>
      clear hK0 HU B5
      obtain ⟨x, Pl, hx, rfl, hst⟩ := hrel
      by_cases hlt : x < N
      · have i1 : (x : Int) < (N : Int) := by omega
        have HX := Lib.hid hlt
        have KX := Lib.hid hst.out.1
        have HUP := Lib.hid hst.out.2.1
        have HB := Lib.hid hst.out.2.2
        clear hst
        obtain ⟨i0, hi, hz0, hz1, hz2⟩ := info_parts infoB
        have HII := Lib.hid (show _ ∧ _ ∧ _ ∧ _ from ⟨hi, hz0, hz1, hz2⟩)
        clear hi hz0 hz1 hz2
        go_upto_region 9 with (fail)
        clear hlt i1
        have q0 : ∀ QQ : Wd (fun Q => Q.cell? ⟨c1, 0, none⟩ = some (.func (.func 193) #[] (capsK cp w.heap.size w1 w2 c1)) ∧ Q.cell? ⟨w.heap.size, 0, none⟩ = some (.pointer (some ⟨H, 0, none⟩)) ∧ Q.cell? ⟨H, 3, none⟩ = some (.int .i64 M)), QQ.w.cell? ⟨c1, 0, none⟩ = some (.func (.func 193) #[] (capsK cp w.heap.size w1 w2 c1)) := fun QQ => QQ.ok.1
        have q1 : ∀ QQ : Wd (fun Q => Q.cell? ⟨c1, 0, none⟩ = some (.func (.func 193) #[] (capsK cp w.heap.size w1 w2 c1)) ∧ Q.cell? ⟨w.heap.size, 0, none⟩ = some (.pointer (some ⟨H, 0, none⟩)) ∧ Q.cell? ⟨H, 3, none⟩ = some (.int .i64 M)), QQ.w.cell? ⟨w.heap.size, 0, none⟩ = some (.pointer (some ⟨H, 0, none⟩)) := fun QQ => QQ.ok.2.1
        have q2 : ∀ QQ : Wd (fun Q => Q.cell? ⟨c1, 0, none⟩ = some (.func (.func 193) #[] (capsK cp w.heap.size w1 w2 c1)) ∧ Q.cell? ⟨w.heap.size, 0, none⟩ = some (.pointer (some ⟨H, 0, none⟩)) ∧ Q.cell? ⟨H, 3, none⟩ = some (.int .i64 M)), QQ.w.cell? ⟨H, 3, none⟩ = some (.int .i64 M) := fun QQ => QQ.ok.2.2
        have hne : Nonempty (Wd (fun Q => Q.cell? ⟨c1, 0, none⟩ = some (.func (.func 193) #[] (capsK cp w.heap.size w1 w2 c1)) ∧ Q.cell? ⟨w.heap.size, 0, none⟩ = some (.pointer (some ⟨H, 0, none⟩)) ∧ Q.cell? ⟨H, 3, none⟩ = some (.int .i64 M))) := ⟨⟨wr, ⟨KX.out.f, KX.out.q, KX.out.g.c3⟩⟩⟩
        go_wp2_with fail
        refine chain (S := (fun Q => Q.cell? ⟨c1, 0, none⟩ = some (.func (.func 193) #[] (capsK cp w.heap.size w1 w2 c1)) ∧ Q.cell? ⟨w.heap.size, 0, none⟩ = some (.pointer (some ⟨H, 0, none⟩)) ∧ Q.cell? ⟨H, 3, none⟩ = some (.int .i64 M))) [([true, true, true, true, true, true, true], 7), ([], 8)] [false, false, false, false, false, false, false, false, false, true] (by kernel_rfl) (by kernel_rfl) (by kernel_rfl) ⟨KX.out.f, KX.out.q, KX.out.g.c3⟩ ?_
        simp only [wpSegs, pickB, List.dropLast_cons_cons, List.dropLast_singleton, List.getLast?_cons_cons, List.getLast?_singleton, List.toList_toArray, List.getElem?_toArray, List.getElem?_cons_succ, List.getElem?_cons_zero, Option.toList_some]
        repeat (go_big_quiet_step (fail))
        refine wpQuiet_nil ?_
        intro K hK
        go_wp2_with (at_make; refine wpList_make_full _ rfl _ _ 65 rfl 0 4 i0 (.bool false) 1 Tryd.underlying65 HII.out.1 HII.out.2.1 HII.out.2.2.1 _ _ _ _ M rfl rfl (by omega) (by omega) ?b2 ?b3 (by simp) ?_)
        case b2 => rw [HII.out.2.2.2]; omega
        case b3 => unfold maxLen; omega
        intro V2 hown2 hgrow2
        have BM : Hid (Below wr.drew.heap.size wr.drew V2) := below_of_grown hgrow2 (Nat.le_refl _) (fun k h => by cases h)
        have OM : Hid (OwnBl V2 0 (.slice (some ⟨wr.drew.heap.size, 0, none⟩) M M) (List.replicate M false)) := ownBl_made hown2
        have KM2 := Lib.hid (K0.with KX.out.drew BM.out (Nat.le_refl _) OM.out List.length_replicate)
        clear hown2 hgrow2
        refine hK _ _ ⟨KM2.out.f, KM2.out.q, KM2.out.g.c3⟩ ?_
        clear hK K
        repeat (go_big_quiet_step (fail))
        refine wpQuiet_nil ?_
        intro K hK
        go_wp2_with fail
        have hc := place_any cp w.heap.size w1 w2 c1 H N s r M t q k P gf cf gl cl n gp cpp wr.drew.heap.size M rest step l hN8 hM8 hn9 HIX.out HBL.out M x (x : Int) V2 Pl (List.replicate M false) rfl HX.out (untr_fresh M) KM2.out (by rw [tt_fresh]; exact HUP.out.1) (by rw [tt_fresh]; intro e; have := (HUP.out.2 x).1 e; omega)
        unfold capsK at hc ⊢
        refine hc.mono ?_
        rintro er V3 ⟨b, Pl2, Tl2, rfl, hk2, ho2, -, hp2⟩
        have K2 := Lib.hid hk2
        have H2 := Lib.hid (show _ ∧ _ from ⟨ho2, hp2⟩)
        have HB2 : Hid (Below w.heap.size w V3) := by
          have h1 : Below w.heap.size w wr.drew := HB.out.drew
          have h2 : Below w.heap.size wr.drew V2 := BM.out.mono h1.size
          refine h1.trans (h2.trans (ho2.below ?_ (Nat.le_trans h1.size h2.size)))
          rintro k (rfl | rfl)
          · exact HGP.out
          · exact h1.size
        clear hc hk2 ho2 hp2 BM OM KM2
        go_wp2_with fail
        refine hK _ _ ⟨K2.out.f, K2.out.q, K2.out.g.c3⟩ ?_
        clear hK K
        repeat (go_big_quiet_step (fail))
        refine wpQuiet_nil ?_
        clear q0 q1 q2 hne
        cases b with
        | true =>
          have HN : Hid (K0 cp w.heap.size w1 w2 c1 H N s r M t q k P gf cf gl cl n gp cpp rest step l V3 Pl2 ∧ Upto (WR N M l rest step) M (x + 1) (PP Pl2) ∧ Below w.heap.size w V3) := ⟨K0.of K2.out, upto_next HUP.out (by have := H2.out.2; rwa [tt_fresh] at this), HB2.out⟩
          clear K2 H2
          have hxs : x < N := HX.out
          go_wp2
          go_roundw
          case rel => exact ⟨x + 1, Pl2, by omega, by go_num, HN.out⟩
          case measure => simp [intOf]; omega
        | false =>
          have HN : Hid (¬ ∃ f g, Bij N M f g ∧ ∀ z, z < N → WR N M l rest step z (f z)) := upto_no HBL.out HUP.out HX.out (by have := H2.out.2; rwa [tt_fresh] at this)
          clear K2 H2
          go_wp2
          go_ret
          exact ⟨false, rfl, ⟨fun e => (by cases e), fun e => absurd e HN.out⟩, HB2.out⟩
      · obtain rfl : N = x := by omega
        go_wp2
        go_ret
        exact ⟨true, rfl, ⟨fun _ => by have h := upto_yes (by have h2 := hst.out.2.1; rw [← HNM.out] at h2; exact h2) ; rw [← HNM.out]; exact h, fun _ => rfl⟩, hst.out.2.2⟩
  · have e0 : ((N : Int) == (M : Int)) = false := by simp; omega
    have e1 : (N == M) = false := by simp; omega
    have e2 : ((N : Int) != (M : Int)) = true := by simp; omega
    have e3 : (N != M) = true := by simp; omega
    have HNM := Lib.hid hNM
    clear hNM
    have q0 : ∀ QQ : Wd (fun Q => Q.cell? ⟨w.heap.size, 0, none⟩ = some (.pointer (some ⟨H, 0, none⟩)) ∧ Q.cell? ⟨H, 0, none⟩ = some (.int .i64 N) ∧ Q.cell? ⟨H, 3, none⟩ = some (.int .i64 M)), QQ.w.cell? ⟨w.heap.size, 0, none⟩ = some (.pointer (some ⟨H, 0, none⟩)) := fun QQ => QQ.ok.1
    have q1 : ∀ QQ : Wd (fun Q => Q.cell? ⟨w.heap.size, 0, none⟩ = some (.pointer (some ⟨H, 0, none⟩)) ∧ Q.cell? ⟨H, 0, none⟩ = some (.int .i64 N) ∧ Q.cell? ⟨H, 3, none⟩ = some (.int .i64 M)), QQ.w.cell? ⟨H, 0, none⟩ = some (.int .i64 N) := fun QQ => QQ.ok.2.1
    have q2 : ∀ QQ : Wd (fun Q => Q.cell? ⟨w.heap.size, 0, none⟩ = some (.pointer (some ⟨H, 0, none⟩)) ∧ Q.cell? ⟨H, 0, none⟩ = some (.int .i64 N) ∧ Q.cell? ⟨H, 3, none⟩ = some (.int .i64 M)), QQ.w.cell? ⟨H, 3, none⟩ = some (.int .i64 M) := fun QQ => QQ.ok.2.2
    have hne : Nonempty (Wd (fun Q => Q.cell? ⟨w.heap.size, 0, none⟩ = some (.pointer (some ⟨H, 0, none⟩)) ∧ Q.cell? ⟨H, 0, none⟩ = some (.int .i64 N) ∧ Q.cell? ⟨H, 3, none⟩ = some (.int .i64 M))) := ⟨⟨W3, ⟨HC.out.1, HG3.out.c0, HG3.out.c3⟩⟩⟩
    go_wp2_with fail
    refine chain (S := (fun Q => Q.cell? ⟨w.heap.size, 0, none⟩ = some (.pointer (some ⟨H, 0, none⟩)) ∧ Q.cell? ⟨H, 0, none⟩ = some (.int .i64 N) ∧ Q.cell? ⟨H, 3, none⟩ = some (.int .i64 M))) [] [true, true, true, true, true, true, true, true, true, true, true] (by kernel_rfl) (by kernel_rfl) (by kernel_rfl) ⟨HC.out.1, HG3.out.c0, HG3.out.c3⟩ ?_
    simp only [wpSegs, pickB, List.dropLast_cons_cons, List.dropLast_singleton, List.getLast?_cons_cons, List.getLast?_singleton, List.toList_toArray, List.getElem?_toArray, List.getElem?_cons_succ, List.getElem?_cons_zero, Option.toList_some]
    repeat (go_big_quiet_step (fail))
    refine wpQuiet_nil ?_
    clear q0 q1 q2 hne
    go_wp2
    go_ret
    exact ⟨false, rfl, ⟨fun e => (by cases e), fun ⟨_, _, hb, _⟩ => absurd hb.eq HNM.out⟩, B3.out.drew⟩
end Go.Proofs.YtpcnoiigbmiejaaDoor.pbi
