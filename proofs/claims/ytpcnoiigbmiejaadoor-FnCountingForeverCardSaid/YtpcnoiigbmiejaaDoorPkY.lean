/- Several texts in one: PbW, PbG, PbX. -/
import Derived.Test.YtpcnoiigbmiejaaDoorPkX
import Derived.Test.YtpcnoiigbmiejaaDoorChainL
import Derived.Test.YtpcnoiigbmiejaaDoorPkQ
/- newPebbles of the program. -/
namespace Go.Proofs.YtpcnoiigbmiejaaDoor.pbi
set_option linter.unusedVariables false
set_option linter.unusedSimpArgs false
open Go.ChangeShapes Go.WideShapes Go.ChangeAt Go.RowKit
open Go.Proofs.YtpcnoiigbmiejaaDoor.lib Go.Proofs.YtpcnoiigbmiejaaDoor.st Go.Proofs.YtpcnoiigbmiejaaDoor.flow Go.Proofs.YtpcnoiigbmiejaaDoor.chain Go.Proofs.YtpcnoiigbmiejaaDoor.base Go.Proofs.YtpcnoiigbmiejaaDoor.fits Go.Proofs.YtpcnoiigbmiejaaDoor.still Go.Proofs.YtpcnoiigbmiejaaDoor.gow Go.Proofs.YtpcnoiigbmiejaaDoor.peb Go.Proofs.YtpcnoiigbmiejaaDoor.tab Go.Proofs.YtpcnoiigbmiejaaDoor.pairL Go.Proofs.YtpcnoiigbmiejaaDoor.make
theorem placed_mem {l : List Nat} {N z : Nat} (h : ∀ p, p ∈ l → p ≤ N) (hz : z ∈ placed l) : z < N := by
  unfold placed at hz
  obtain ⟨p, hp, rfl⟩ := List.mem_map.1 hz
  obtain ⟨h1, h2⟩ := List.mem_filter.1 hp
  have := h p h1
  have : p ≠ 0 := by simpa using h2
  omega
theorem placed_two {M : Nat} (hM : 0 < M) : ∀ (l : List Nat), (placed (l.map (pA M))).length = (placed (l.map (pB M))).length ∧ (placed (l.map (pA M))).length ≤ l.length
  | [] => ⟨rfl, Nat.le_refl _⟩
  | d :: l => by
    obtain ⟨i1, i2⟩ := placed_two hM l
    unfold placed at i1 i2 ⊢
    rw [List.length_map, List.length_map] at i1
    rw [List.length_map] at i2
    rw [List.length_map, List.length_map]
    by_cases h : d = 0
    · subst h
      rw [List.map_cons, List.map_cons, pA_zero, pB_zero, List.filter_cons_of_neg (by simp), List.filter_cons_of_neg (by simp), List.length_cons]
      exact ⟨i1, by omega⟩
    · have h1 : pA M d ≠ 0 := by unfold pA; rw [if_neg h]; exact Nat.succ_ne_zero _
      have h2 : pB M d ≠ 0 := by unfold pB; rw [if_neg h]; exact Nat.succ_ne_zero _
      rw [List.map_cons, List.map_cons, List.filter_cons_of_pos (by simpa using h1), List.filter_cons_of_pos (by simpa using h2), List.length_cons, List.length_cons, List.length_cons]
      omega
/-- which ways fit, of the first so many -/
def fitL (N : Nat) (s r : ByteArray) (M : Nat) (t q : ByteArray) (k u : Nat) : List Bool := (List.range u).map fun j => swB N s r (placed (posA N M k j)) M t q (placed (posB N M k j))
theorem fitL_len (N : Nat) (s r : ByteArray) (M : Nat) (t q : ByteArray) (k u : Nat) : (fitL N s r M t q k u).length = u := by simp [fitL]
theorem fitL_succ (N : Nat) (s r : ByteArray) (M : Nat) (t q : ByteArray) (k u : Nat) : fitL N s r M t q k (u + 1) = fitL N s r M t q k u ++ [swB N s r (placed (posA N M k u)) M t q (placed (posB N M k u))] := by simp [fitL, List.range_succ]
theorem fitL_get {N : Nat} {s r : ByteArray} {M : Nat} {t q : ByteArray} {k u j : Nat} (h : j < u) : (fitL N s r M t q k u).getD j false = swB N s r (placed (posA N M k j)) M t q (placed (posB N M k j)) := by
  simp [fitL, List.getD_eq_getElem?_getD, h]
/-- a game that is being made -/
structure NP (HA HB H N : Nat) (s r : ByteArray) (M : Nat) (t q : ByteArray) (k P : Nat) (w W : World) (v : Value) (L : List Bool) : Prop where
  g : PGV W H N s r M t q k P v (.slice none 0 0) false
  o : W.ownsRow (H + 1) 4 1 v L.length (bcs L)
  a : Box 24 W HA N s r
  b : Box 24 W HB M t q
  l : Below w.heap.size w W
  z : H < W.heap.size ∧ HA < H ∧ HB < H ∧ w.heap.size ≤ H
section
variable {HA HB H N : Nat} {s r : ByteArray} {M : Nat} {t q : ByteArray} {k P : Nat} {w W W' : World} {v v' : Value} {L L' : List Bool}
theorem NP.below (h : NP HA HB H N s r M t q k P w W v L) (hb : Below W.heap.size W W') : NP HA HB H N s r M t q k P w W' v L :=
  ⟨h.g.below hb h.z.1, owns_same h.o (fun g hg => hb.block g (World.ownsRow.lt h.o g hg).2), h.a.below hb h.a.lt, h.b.below hb h.b.lt, h.l.trans (hb.mono h.l.size), ⟨Nat.lt_of_lt_of_le h.z.1 hb.size, h.z.2⟩⟩
/-- the list has grown; the game's cell is not written yet -/
structure NG (HA HB H N : Nat) (s r : ByteArray) (M : Nat) (t q : ByteArray) (k P : Nat) (w W : World) (v v' : Value) (L' : List Bool) : Prop where
  g : PGV W H N s r M t q k P v (.slice none 0 0) false
  o : W.ownsRow (H + 1) 4 1 v' L'.length (bcs L')
  a : Box 24 W HA N s r
  b : Box 24 W HB M t q
  l : Below w.heap.size w W
  z : H < W.heap.size ∧ HA < H ∧ HB < H ∧ w.heap.size ≤ H
theorem NP.grown (h : NP HA HB H N s r M t q k P w W v L) (hg : Grew W W' v v') (ho : W'.ownsRow (H + 1) 4 1 v' L'.length (bcs L')) : NG HA HB H N s r M t q k P w W' v v' L' := by
  have hb : Below (H + 1) W W' := hg.below h.o h.z.1
  have hz := h.z
  exact ⟨h.g.below hb (Nat.lt_succ_self H), ho, h.a.below hb (by omega), h.b.below hb (by omega), h.l.trans (hb.mono (by omega)), ⟨Nat.lt_of_lt_of_le h.z.1 hb.size, h.z.2⟩⟩
theorem NG.put (h : NG HA HB H N s r M t q k P w W v v' L') : NP HA HB H N s r M t q k P w (W.setCell ⟨H, 8, none⟩ v') v' L' := by
  have ob : ∀ x, x ≠ H → (W.setCell ⟨H, 8, none⟩ v').heap[x]? = W.heap[x]? := fun x hx => heap_setCell_other W ⟨H, 8, none⟩ x _ hx
  have hz := h.z
  have hs := out_set W H 8 v'
  have hb : Below H W (W.setCell ⟨H, 8, none⟩ v') := hs.below (fun x hx => by omega) (by omega)
  exact ⟨h.g.setF v', owns_same h.o (fun g hg => ob g (by have := (World.ownsRow.lt h.o g hg).1; omega)), h.a.below hb hz.2.1, h.b.below hb hz.2.2.1, h.l.trans (hb.mono hz.2.2.2), ⟨Nat.lt_of_lt_of_le hz.1 hs.size, hz.2⟩⟩
end

set_option maxHeartbeats 6400000 in
set_option maxRecDepth 100000 in
theorem newPebbles_yes (N : Nat) (s r : ByteArray) (va : Value) (la : List Int) (M : Nat) (t q : ByteArray) (vb : Value) (lb : List Int) (w : World) (ha : Reads w va la) (hb : Reads w vb lb) (hla : la.length ≤ 1000000) (hlb : lb.length ≤ 1000000) (hs : s.size ≤ 9223372036854775807) (hr : r.size ≤ 9223372036854775807) (ht : t.size ≤ 9223372036854775807) (hq : q.size ≤ 9223372036854775807) (hrd : readyB N s r la M t q lb = true) (k P : Nat) (hk : k = la.length) (hP : P = N * M + 1) (hz : Sz N M k P) (hs1 : s.size = N) (hr1 : r.size = N * N) (ht1 : t.size = M) (hq1 : q.size = M * M) :
    Calls Tryd.prog 63 #[.agg #[.int .i64 N, .string s, .string r], va, .agg #[.int .i64 M, .string t, .string q], vb] w fun e w' => ∃ H gf cf gl cl n : Nat, e = .returned (.pointer (some ⟨H, 0, none⟩)) ∧ PG w' H N s r M t q k P gf cf gl cl n false ∧ RdB w' gf n (fitL N s r M t q k n) ∧ RdB w' gl n (fitL N s r M t q k n) ∧ n = P ^ k ∧ gf ≠ H ∧ gl ≠ H ∧ w.heap.size ≤ H ∧ Below w.heap.size w w' := by
  obtain ⟨a1o, c1, rfl⟩ := ha.len
  obtain ⟨a2o, c2, rfl⟩ := hb.len
  obtain ⟨HA, hHA⟩ : ∃ HA, HA = w.heap.size := ⟨_, rfl⟩
  obtain ⟨HB, hHB⟩ : ∃ HB, HB = w.heap.size + 1 := ⟨_, rfl⟩
  obtain ⟨W0, hW0⟩ : ∃ W0, W0 = (w.alloc (.cells #[.int .i64 N, .string s, .string r] 24)).alloc (.cells #[.int .i64 M, .string t, .string q] 24) := ⟨_, rfl⟩
  have AW0 : Hid (Below w.heap.size w W0) := by rw [hW0]; exact ((Below.refl _ _).alloc (Nat.le_refl _) _).alloc (by simp) _
  have BA0 : Hid (Box 24 W0 HA N s r) := by
    rw [hW0, hHA]; exact (Box.new 24 w w.heap.size rfl N s r).below ((Below.refl (w.heap.size + 1) _).alloc (by simp) _) (by omega)
  have BB0 : Hid (Box 24 W0 HB M t q) := by
    rw [hW0, hHB]; exact Box.new 24 (w.alloc (.cells #[.int .i64 N, .string s, .string r] 24)) (w.heap.size + 1) (by simp) M t q
  have HC := Lib.hid (areReady_any N s r _ la M t q _ lb W0 (ha.below AW0.out (Nat.le_refl _)) (hb.below AW0.out (Nat.le_refl _)) hla hlb hs hr ht hq)
  obtain ⟨SF, hSF⟩ : ∃ SF : Nat → Nat, SF = fun i => P ^ i := ⟨_, rfl⟩
  have HSB : Hid (∀ i, i ≤ k → SF i ≤ 274625) := fun i hi => by rw [hSF]; exact Nat.le_trans (Nat.pow_le_pow_right (by have := hz.p; omega) hi) hz.p.2.2.1
  have HSF := Lib.hid hSF
  have HNM : Hid (N * M ≤ 64) := Nat.mul_le_mul hz.1.2 hz.2.1.2
  have HSIZ := Lib.hid hz
  have HSZ : Hid (N ≤ 8 ∧ M ≤ 8 ∧ s.size = N ∧ r.size = N * N ∧ t.size = M ∧ q.size = M * M) := ⟨hz.1.2, hz.2.1.2, hs1, hr1, ht1, hq1⟩
  have HRD := Lib.hid hrd
  have HW0 := Lib.hid hW0
  have HAB := Lib.hid (show _ ∧ _ from ⟨hHA, hHB⟩)
  have hk3 : k ≤ 3 := hz.2.2.1.2
  rw [← hk] at HC ⊢
  clear ha hb hla hlb hs hr ht hq hrd hP hz hs1 hr1 ht1 hq1 hk hSF hW0
  clear hHA hHB
  go_enter Tryd.func63, Tryd.ntmps63
  go_wp2_with fail
  rw [← HW0.out, ← HAB.out.2, ← HAB.out.1]
  clear HW0
  refine HC.out.mono ?_
  rintro e W1 ⟨rfl, hw⟩
  rw [HRD.out]
  have BA1 := Lib.hid (BA0.out.below hw BA0.out.lt)
  have BB1 := Lib.hid (BB0.out.below hw BB0.out.lt)
  have AW1 : Hid (Below w.heap.size w W1) := AW0.out.trans (hw.mono AW0.out.size)
  have HH : Hid (HA = w.heap.size ∧ HB = w.heap.size + 1 ∧ w.heap.size + 1 < W1.heap.size) := ⟨HAB.out.1, HAB.out.2, by have := BB1.out.lt; rw [← HAB.out.2]; exact this⟩
  clear hw BA0 BB0 AW0 HC
  obtain ⟨a0, a1, a2⟩ := BA1.out.c
  obtain ⟨b0, b1, b2⟩ := BB1.out.c
  obtain ⟨H, hH⟩ : ∃ H, H = W1.heap.size := ⟨_, rfl⟩
  have w1 : IntKind.i64.wrap ((N : Int) * (M : Int)) = ((N * M : Nat) : Int) := by
    have hb := HNM.out
    have e : (N : Int) * (M : Int) = ((N * M : Nat) : Int) := by push_cast; rfl
    rw [e, IntWalk.i64_in _ (by omega)]
  obtain ⟨NM, hNM⟩ : ∃ NM, NM = N * M := ⟨_, rfl⟩
  rw [← hNM] at w1
  have w2 : IntKind.i64.wrap ((NM : Int) + 1) = (P : Int) := by
    have hb := HNM.out
    have hp := HSIZ.out.2.2.2
    rw [← hNM] at hb hp
    rw [IntWalk.i64_in _ (by omega)]; omega
  have K0 : Hid (NP HA HB H N s r M t q k P w (W1.alloc (.cells #[.int .i64 N, .string s, .string r, .int .i64 M, .string t, .string q, .int .i64 k, .int .i64 P, .slice none 0 0, .slice none 0 0, .bool false] 67)) (.slice none 0 0) (fitL N s r M t q k 0)) := by
    have hb : Below W1.heap.size W1 (W1.alloc (.cells #[.int .i64 N, .string s, .string r, .int .i64 M, .string t, .string q, .int .i64 k, .int .i64 P, .slice none 0 0, .slice none 0 0, .bool false] 67)) := (Below.refl _ _).alloc (Nat.le_refl _) _
    have h3 := HH.out
    refine ⟨?_, ⟨rfl, .inl ⟨rfl, rfl⟩⟩, BA1.out.below hb BA1.out.lt, BB1.out.below hb BB1.out.lt, AW1.out.trans (hb.mono AW1.out.size), by simp; omega, by omega, by omega, by have := AW1.out.size; omega⟩
    rw [hH]; exact heap_alloc_new W1 _
  obtain ⟨W2, hW2⟩ : ∃ W2, W2 = W1.alloc (.cells #[.int .i64 N, .string s, .string r, .int .i64 M, .string t, .string q, .int .i64 k, .int .i64 P, .slice none 0 0, .slice none 0 0, .bool false] 67) := ⟨_, rfl⟩
  rw [← hW2] at K0
  have HW2 := Lib.hid hW2
  have HHH := Lib.hid hH
  clear hNM hW2 hH
  go_upto_region 4 with (fail)
  rw [← HW2.out, ← HHH.out]
  clear HW2 HHH a0 a1 a2 b0 b1 b2 w1 w2 BA1 BB1 AW1
  have S0 : Hid (SF 0 = 1) := by rw [Hid, HSF.out]; rfl
  go_wp2_with fail
  go_loopw [10, 34] (fun sv iv wr => ∃ i : Nat, i ≤ k ∧ sv = .int .i64 (SF i : Nat) ∧ iv = .int .i64 i ∧ wr = W2) (fun _ iv _ => k - (intOf iv).toNat)
  case atStart => exact ⟨0, Nat.zero_le _, by rw [S0.out]; rfl, rfl, rfl⟩
  case round =>
    obtain ⟨i, hi, rfl, rfl, hst⟩ := hrel
    subst hst
    by_cases hli : i < k
    · have i1 : (i : Int) < (k : Int) := by omega
      have k7 := K0.out.g.c7
      obtain ⟨S2, hS2⟩ : ∃ S2, S2 = SF (i + 1) := ⟨_, rfl⟩
      have ww : IntKind.i64.wrap ((SF i : Int) * (P : Int)) = (S2 : Int) := by
        have e0 : S2 = SF i * P := by rw [hS2, HSF.out]; exact (Nat.pow_succ _ _ : P ^ (i + 1) = P ^ i * P)
        have e : (SF i : Int) * (P : Int) = (S2 : Int) := by rw [e0]; push_cast; rfl
        have hb : S2 ≤ 274625 := by rw [hS2]; exact HSB.out (i + 1) hli
        rw [e, IntWalk.i64_in _ (by omega)]
      have HS2 := Lib.hid hS2
      clear hS2
      go_wp2
      go_roundw
      case rel => exact ⟨i + 1, hli, by rw [HS2.out], by go_num, trivial⟩
      case measure => simp [intOf]; omega
    · obtain rfl : k = i := by omega
      clear hi hli S0
      obtain ⟨n, hn⟩ : ∃ n, n = SF k := ⟨_, rfl⟩
      have HNE : Hid (n = P ^ k) := by rw [Hid, hn, HSF.out]
      have hn9 : n ≤ 274625 := by rw [hn]; exact HSB.out k (Nat.le_refl _)
      have hn1 : 1 ≤ n := by have := HSIZ.out.p; rw [HNE.out]; exact this.2.2.2
      rw [← hn]
      clear hn
      go_wp2_with fail
      go_loopw [44] (fun iv wr => ∃ (u : Nat) (v : Value), u ≤ n ∧ iv = .int .i64 u ∧ Hid (NP HA HB H N s r M t q k P w wr v (fitL N s r M t q k u))) (fun iv _ => n - (intOf iv).toNat)
      case atStart => exact ⟨0, .slice none 0 0, Nat.zero_le _, rfl, K0.out⟩
      case round =>
        clear K0
        obtain ⟨u, v, hu, rfl, hst⟩ := hrel
        by_cases hlu : u < n
        · have i1 : (u : Int) < (n : Int) := by omega
          have HR0 := Lib.hid (listsAt_any H N s r M t q k P v (.slice none 0 0) false u wr hst.out.g HSIZ.out (by have := HNE.out; omega))
          have KX := Lib.hid hst.out
          clear hst
          go_wp2_with fail
          refine HR0.out.mono ?_
          rintro e V0 ⟨v1, v2, rfl, h1, h2, hw⟩
          have K0 := Lib.hid (KX.out.below hw)
          have KD := Lib.hid (K0.out.below (Below.refl _ _).drew)
          obtain ⟨la, hla⟩ : ∃ la, la = placed (posA N M k u) := ⟨_, rfl⟩
          obtain ⟨lb, hlb⟩ : ∃ lb, lb = placed (posB N M k u) := ⟨_, rfl⟩
          rw [← hla] at h1
          rw [← hlb] at h2
          have HR := Lib.hid (show _ ∧ _ from ⟨h1, h2⟩)
          have HLA2 := Lib.hid (show _ ∧ _ from ⟨hla, hlb⟩)
          have HLA : Hid (la.length = lb.length ∧ la.length ≤ 3 ∧ (∀ z, z ∈ la → z < N) ∧ (∀ z, z ∈ lb → z < M)) := by
            obtain ⟨p1, p2⟩ := placed_two HSIZ.out.2.1.1 (dgs (N * M + 1) k u)
            have hP : 0 < N * M + 1 := by omega
            rw [hla, hlb]
            refine ⟨p1, Nat.le_trans p2 (by rw [dgs_len]; exact HSIZ.out.2.2.1.2), fun z hz => placed_mem (fun p hp => ?_) hz, fun z hz => placed_mem (fun p hp => ?_) hz⟩
            · obtain ⟨d, hd, rfl⟩ := List.mem_map.1 hp
              exact (p_le (N := N) HSIZ.out.2.1.1 (dgs_lt hP k u d hd)).1
            · obtain ⟨d, hd, rfl⟩ := List.mem_map.1 hp
              exact (p_le (N := N) HSIZ.out.2.1.1 (dgs_lt hP k u d hd)).2.1
          clear h1 h2 hw hla hlb KX HR0
          go_upto_region 13 with (fail)
          have q0 : ∀ QQ : Wd (fun Q => Q.cell? ⟨H, 8, none⟩ = some (v) ∧ Q.cell? ⟨HA, 0, none⟩ = some (.int .i64 N) ∧ Q.cell? ⟨HA, 1, none⟩ = some (.string s) ∧ Q.cell? ⟨HA, 2, none⟩ = some (.string r) ∧ Q.cell? ⟨HB, 0, none⟩ = some (.int .i64 M) ∧ Q.cell? ⟨HB, 1, none⟩ = some (.string t) ∧ Q.cell? ⟨HB, 2, none⟩ = some (.string q)), QQ.w.cell? ⟨H, 8, none⟩ = some (v) := fun QQ => QQ.ok.1
          have q1 : ∀ QQ : Wd (fun Q => Q.cell? ⟨H, 8, none⟩ = some (v) ∧ Q.cell? ⟨HA, 0, none⟩ = some (.int .i64 N) ∧ Q.cell? ⟨HA, 1, none⟩ = some (.string s) ∧ Q.cell? ⟨HA, 2, none⟩ = some (.string r) ∧ Q.cell? ⟨HB, 0, none⟩ = some (.int .i64 M) ∧ Q.cell? ⟨HB, 1, none⟩ = some (.string t) ∧ Q.cell? ⟨HB, 2, none⟩ = some (.string q)), QQ.w.cell? ⟨HA, 0, none⟩ = some (.int .i64 N) := fun QQ => QQ.ok.2.1
          have q2 : ∀ QQ : Wd (fun Q => Q.cell? ⟨H, 8, none⟩ = some (v) ∧ Q.cell? ⟨HA, 0, none⟩ = some (.int .i64 N) ∧ Q.cell? ⟨HA, 1, none⟩ = some (.string s) ∧ Q.cell? ⟨HA, 2, none⟩ = some (.string r) ∧ Q.cell? ⟨HB, 0, none⟩ = some (.int .i64 M) ∧ Q.cell? ⟨HB, 1, none⟩ = some (.string t) ∧ Q.cell? ⟨HB, 2, none⟩ = some (.string q)), QQ.w.cell? ⟨HA, 1, none⟩ = some (.string s) := fun QQ => QQ.ok.2.2.1
          have q3 : ∀ QQ : Wd (fun Q => Q.cell? ⟨H, 8, none⟩ = some (v) ∧ Q.cell? ⟨HA, 0, none⟩ = some (.int .i64 N) ∧ Q.cell? ⟨HA, 1, none⟩ = some (.string s) ∧ Q.cell? ⟨HA, 2, none⟩ = some (.string r) ∧ Q.cell? ⟨HB, 0, none⟩ = some (.int .i64 M) ∧ Q.cell? ⟨HB, 1, none⟩ = some (.string t) ∧ Q.cell? ⟨HB, 2, none⟩ = some (.string q)), QQ.w.cell? ⟨HA, 2, none⟩ = some (.string r) := fun QQ => QQ.ok.2.2.2.1
          have q4 : ∀ QQ : Wd (fun Q => Q.cell? ⟨H, 8, none⟩ = some (v) ∧ Q.cell? ⟨HA, 0, none⟩ = some (.int .i64 N) ∧ Q.cell? ⟨HA, 1, none⟩ = some (.string s) ∧ Q.cell? ⟨HA, 2, none⟩ = some (.string r) ∧ Q.cell? ⟨HB, 0, none⟩ = some (.int .i64 M) ∧ Q.cell? ⟨HB, 1, none⟩ = some (.string t) ∧ Q.cell? ⟨HB, 2, none⟩ = some (.string q)), QQ.w.cell? ⟨HB, 0, none⟩ = some (.int .i64 M) := fun QQ => QQ.ok.2.2.2.2.1
          have q5 : ∀ QQ : Wd (fun Q => Q.cell? ⟨H, 8, none⟩ = some (v) ∧ Q.cell? ⟨HA, 0, none⟩ = some (.int .i64 N) ∧ Q.cell? ⟨HA, 1, none⟩ = some (.string s) ∧ Q.cell? ⟨HA, 2, none⟩ = some (.string r) ∧ Q.cell? ⟨HB, 0, none⟩ = some (.int .i64 M) ∧ Q.cell? ⟨HB, 1, none⟩ = some (.string t) ∧ Q.cell? ⟨HB, 2, none⟩ = some (.string q)), QQ.w.cell? ⟨HB, 1, none⟩ = some (.string t) := fun QQ => QQ.ok.2.2.2.2.2.1
          have q6 : ∀ QQ : Wd (fun Q => Q.cell? ⟨H, 8, none⟩ = some (v) ∧ Q.cell? ⟨HA, 0, none⟩ = some (.int .i64 N) ∧ Q.cell? ⟨HA, 1, none⟩ = some (.string s) ∧ Q.cell? ⟨HA, 2, none⟩ = some (.string r) ∧ Q.cell? ⟨HB, 0, none⟩ = some (.int .i64 M) ∧ Q.cell? ⟨HB, 1, none⟩ = some (.string t) ∧ Q.cell? ⟨HB, 2, none⟩ = some (.string q)), QQ.w.cell? ⟨HB, 2, none⟩ = some (.string q) := fun QQ => QQ.ok.2.2.2.2.2.2
          have hne : Nonempty (Wd (fun Q => Q.cell? ⟨H, 8, none⟩ = some (v) ∧ Q.cell? ⟨HA, 0, none⟩ = some (.int .i64 N) ∧ Q.cell? ⟨HA, 1, none⟩ = some (.string s) ∧ Q.cell? ⟨HA, 2, none⟩ = some (.string r) ∧ Q.cell? ⟨HB, 0, none⟩ = some (.int .i64 M) ∧ Q.cell? ⟨HB, 1, none⟩ = some (.string t) ∧ Q.cell? ⟨HB, 2, none⟩ = some (.string q))) := ⟨⟨V0, ⟨K0.out.g.c8, K0.out.a.c.1, K0.out.a.c.2.1, K0.out.a.c.2.2, K0.out.b.c.1, K0.out.b.c.2.1, K0.out.b.c.2.2⟩⟩⟩
          go_wp2_with fail
          refine chain_last2 (S := (fun Q => Q.cell? ⟨H, 8, none⟩ = some (v) ∧ Q.cell? ⟨HA, 0, none⟩ = some (.int .i64 N) ∧ Q.cell? ⟨HA, 1, none⟩ = some (.string s) ∧ Q.cell? ⟨HA, 2, none⟩ = some (.string r) ∧ Q.cell? ⟨HB, 0, none⟩ = some (.int .i64 M) ∧ Q.cell? ⟨HB, 1, none⟩ = some (.string t) ∧ Q.cell? ⟨HB, 2, none⟩ = some (.string q))) [([true, true, true, true, true, true, true, true, true], 9), ([], 10), ([], 11)] [false, false, false, false, false, false, false, false, false, false, false, false, true, true] (by kernel_rfl) (by kernel_rfl) (by kernel_rfl) (by kernel_rfl) (by kernel_rfl) (by kernel_rfl) ⟨K0.out.g.c8, K0.out.a.c.1, K0.out.a.c.2.1, K0.out.a.c.2.2, K0.out.b.c.1, K0.out.b.c.2.1, K0.out.b.c.2.2⟩ ?_
          simp only [wpSegs, pickB, List.dropLast_cons_cons, List.dropLast_singleton, List.getLast?_cons_cons, List.getLast?_singleton, List.toList_toArray, List.getElem?_toArray, List.getElem?_cons_succ, List.getElem?_cons_zero, Option.toList_some]
          repeat (go_big_quiet_step (fail))
          refine wpQuiet_nil ?_
          intro K hK
          go_wp2_with fail
          refine (sameWay_any N s r la v1 M t q lb v2 _ HLA.out.1 (by have := HLA.out.2.1; omega) HLA.out.2.2.1 HLA.out.2.2.2 HSZ.out.1 HSZ.out.2.1 HSZ.out.2.2.1 HSZ.out.2.2.2.1 HSZ.out.2.2.2.2.1 HSZ.out.2.2.2.2.2 (HR.out.1.reads.below (Below.refl _ _).drew (Nat.le_refl _)) (HR.out.2.reads.below (Below.refl _ _).drew (Nat.le_refl _)) (room_own HR.out.1) (room_own HR.out.2)).mono ?_
          rintro e V1 ⟨rfl, hw⟩
          have K1 := Lib.hid (KD.out.below hw)
          clear hw
          obtain ⟨bb, hbb⟩ : ∃ bb, bb = swB N s r la M t q lb := ⟨_, rfl⟩
          rw [← hbb]
          have HBB := Lib.hid hbb
          clear hbb
          go_wp2_with fail
          refine hK _ _ ⟨K1.out.g.c8, K1.out.a.c.1, K1.out.a.c.2.1, K1.out.a.c.2.2, K1.out.b.c.1, K1.out.b.c.2.1, K1.out.b.c.2.2⟩ ?_
          clear hK K
          repeat (go_big_quiet_step (fail))
          refine wpQuiet_nil ?_
          intro K hK
          go_wp2_with fail
          have KA := Lib.hid (K1.out.below ((Below.refl _ _).alloc (Nat.le_refl _) (.cells #[.bool bb] 4)))
          refine hK _ _ ⟨KA.out.g.c8, KA.out.a.c.1, KA.out.a.c.2.1, KA.out.a.c.2.2, KA.out.b.c.1, KA.out.b.c.2.1, KA.out.b.c.2.2⟩ ?_
          clear hK K
          repeat (go_big_quiet_step (fail))
          refine wpQuiet_nil ?_
          intro K hK
          go_wp2_with (at_builtin; refine wpList_app1 V1 rfl (.tmp 57) (.tmp 63) 65 rfl (H + 1) 4 (.bool false) 1 Tryd.underlying65 infoB rfl (by decide) _ _ _ (.bool bb) rfl K1.out.o V1.heap.size rfl rfl rfl (by rw [fitL_len]; omega) K1.out.z.1 ?_)
          intro g1 cap1 w9 hown9 hgr
          have KG : Hid (NG HA HB H N s r M t q k P w w9 v (.slice (some ⟨g1, 0, none⟩) (u + 1) cap1) (fitL N s r M t q k (u + 1))) := by
            rw [fitL_len] at hown9 hgr
            exact K1.out.grown hgr (by rw [fitL_len, fitL_succ, ← HLA2.out.1, ← HLA2.out.2, ← HBB.out]; simpa [bcs] using hown9)
          rw [fitL_len]
          clear hown9 hgr
          go_wp2_with fail
          refine hK _ _ ⟨KG.out.g.c8, KG.out.a.c.1, KG.out.a.c.2.1, KG.out.a.c.2.2, KG.out.b.c.1, KG.out.b.c.2.1, KG.out.b.c.2.2⟩ ?_
          clear hK K
          repeat (go_big_quiet_step (fail))
          refine wpQuiet_nil ?_
          show wpList _ _ _ _ _ _
          clear q0 q1 q2 q3 q4 q5 q6 hne
          have f8 := KG.out.g.free 8
          have c8 := KG.out.g.c8
          have HN := Lib.hid KG.out.put
          clear KG
          go_wp2
          go_roundw
          case rel => exact ⟨u + 1, _, by omega, by go_num, HN.out⟩
          case measure => simp [intOf]; omega
        · obtain rfl : n = u := by omega
          obtain ⟨gf, cf, rfl⟩ : ∃ gf cf, v = .slice (some ⟨gf, 0, none⟩) n cf := by
            rcases hst.out.o.2 with ⟨_, e⟩ | ⟨g, cap, cur, e, _⟩
            · rw [fitL_len] at e; omega
            · rw [fitL_len] at e; exact ⟨g, cap, e⟩
          have KX := Lib.hid hst.out
          clear hst
          have A0 : Below wr.heap.size wr (wr.alloc (.cells #[] 4)) := (Below.refl _ _).alloc (Nat.le_refl _) _
          have KE := Lib.hid (KX.out.below A0)
          have HE : Hid ((wr.alloc (.cells #[] 4)).ownsRow wr.heap.size 4 1 (.slice (some ⟨wr.heap.size, 0, none⟩) 0 0) 0 []) := ⟨rfl, .inr ⟨wr.heap.size, 0, #[], rfl, Nat.le_refl _, heap_alloc_new wr _, Nat.le_refl _, Nat.zero_le _, rfl, rfl⟩⟩
          have c8 := KE.out.g.c8
          obtain ⟨W5, hW5⟩ : ∃ W5, W5 = wr.alloc (.cells #[] 4) := ⟨_, rfl⟩
          rw [← hW5] at KE HE A0
          have HW5 := Lib.hid hW5
          have HRF : Hid (RdB W5 gf n (fitL N s r M t q k n)) := RdB.of (B := H + 1) (c := cf) KE.out.o (by rw [fitL_len])
          have HA5 := Lib.hid A0
          clear hW5 A0
          go_wp2_with (rw [← HW5.out]; at_builtin; refine wpList_appB W5 rfl (.tmp 69) (.tmp 73) 65 rfl wr.heap.size Tryd.underlying65 infoB _ rfl HE.out gf n cf (fitL N s r M t q k n) rfl HRF.out hn1 hn9 HA5.out.size ?_)
          clear c8
          intro gx cx V0 ho hgr
          have HBB : Hid (Out (fun a => a = wr.heap.size) W5 V0) := Out.of_grown hgr (fun g e => (Option.some.inj e).symm)
          have HOX := Lib.hid ho
          clear ho hgr HW5
          have G0 : Hid (PGV V0 H N s r M t q k P (.slice (some ⟨gf, 0, none⟩) n cf) (.slice none 0 0) false) := KE.out.g.block (HBB.out.block H KE.out.z.1 (by have := KX.out.z.1; omega))
          have hgf : Hid (H < gf ∧ gf < wr.heap.size) := by
            have := World.ownsRow.lt KX.out.o gf rfl; exact ⟨by omega, this.2⟩
          have f9 := G0.out.free 9
          have c9 := G0.out.c9
          have HR : Hid (PG (V0.setCell ⟨H, 9, none⟩ (.slice (some ⟨gx, 0, none⟩) n cx)) H N s r M t q k P gf cf gx cx n false ∧ RdB (V0.setCell ⟨H, 9, none⟩ (.slice (some ⟨gx, 0, none⟩) n cx)) gf n (fitL N s r M t q k n) ∧ RdB (V0.setCell ⟨H, 9, none⟩ (.slice (some ⟨gx, 0, none⟩) n cx)) gx n (fitL N s r M t q k n) ∧ gf ≠ H ∧ gx ≠ H ∧ w.heap.size ≤ H ∧ Below w.heap.size w (V0.setCell ⟨H, 9, none⟩ (.slice (some ⟨gx, 0, none⟩) n cx))) := by
            have ob : ∀ a, a ≠ H → (V0.setCell ⟨H, 9, none⟩ (.slice (some ⟨gx, 0, none⟩) n cx)).heap[a]? = V0.heap[a]? := fun a ha => heap_setCell_other V0 ⟨H, 9, none⟩ a _ ha
            have hx := HOX.out.ge
            have hH := KX.out.z
            have hg := hgf.out
            refine ⟨G0.out.setL _, ?_, (RdB.of HOX.out (by rw [fitL_len])).block (ob _ (by omega)), by omega, by omega, by omega, ?_⟩
            · exact (HRF.out.block (HBB.out.block gf (by have := HA5.out.size; omega) (by omega))).block (ob _ (by omega))
            · refine (KX.out.l.trans (HA5.out.mono KX.out.l.size)).trans ((HBB.out.below (fun a ha => by omega) (Nat.le_trans KX.out.l.size HA5.out.size)).trans ((out_set V0 H 9 _).below (fun a ha => by omega) ?_))
              have h2 := HBB.out.size
              have h3 := HA5.out.size
              have h4 := KX.out.l.size
              omega
          clear G0 KX KE HBB HOX
          go_wp2
          go_ret
          exact ⟨H, gf, cf, gx, cx, n, rfl, HR.out.1, HR.out.2.1, HR.out.2.2.1, HNE.out, HR.out.2.2.2.1, HR.out.2.2.2.2.1, HR.out.2.2.2.2.2.1, HR.out.2.2.2.2.2.2⟩
end Go.Proofs.YtpcnoiigbmiejaaDoor.pbi

/- What the program's game of pebbles tells, in plain words; what readiness gives. -/
namespace Go.Proofs.YtpcnoiigbmiejaaDoor.pbi
set_option linter.unusedVariables false
set_option linter.unusedSimpArgs false
open Go.Proofs.YtpcnoiigbmiejaaDoor.lib Go.Proofs.YtpcnoiigbmiejaaDoor.st Go.Proofs.YtpcnoiigbmiejaaDoor.base Go.Proofs.YtpcnoiigbmiejaaDoor.fits Go.Proofs.YtpcnoiigbmiejaaDoor.still Go.Proofs.YtpcnoiigbmiejaaDoor.peb Go.Proofs.YtpcnoiigbmiejaaDoor.game
theorem gameW_le {mt : Bool} {A B : Gr} {n m : Nat} {ps qs : List Nat} (h : gameW mt A B n ps qs) (hm : m ≤ n) : gameW mt A B m ps qs := by
  cases mt with
  | true => exact Cw.le h hm
  | false =>
    induction n with
    | zero => obtain rfl : m = 0 := by omega
              exact h
    | succ n ih =>
      rcases Nat.lt_or_ge n m with e | e
      · obtain rfl : m = n + 1 := by omega
        exact h
      · first | exact ih e (Pw.less h) | exact ih (Pw.less h) e
theorem gameW_fit {mt : Bool} {A B : Gr} {n : Nat} {ps qs : List Nat} (h : gameW mt A B n ps qs) : Fit A B ps qs := by
  cases mt with
  | true => exact Cw.fit h
  | false => exact Pw.fit h
theorem gameW_stay {mt : Bool} {A B : Gr} {n k : Nat} (h : ∀ ps bs, ps.length = k → Ok A ps → Ok B bs → gameW mt A B n ps bs → gameW mt A B (n + 1) ps bs) (m : Nat) (ps bs : List Nat) (hl : ps.length = k) (ha : Ok A ps) (hb : Ok B bs) (hw : gameW mt A B n ps bs) : gameW mt A B (n + m) ps bs := by
  cases mt with
  | true => exact Cw.stay h m ps bs hl ha hb hw
  | false => exact Pw.stay h m ps bs hl ha hb hw
theorem tells_fit {mt : Bool} {N M k : Nat} {s r t q : ByteArray} (hM : 0 < M) : Tells mt (gob.gr N s r) (gob.gr M t q) k 0 (fitL N s r M t q k ((N * M + 1) ^ k)) := by
  refine ⟨fitL_len _ _ _ _ _ _ _ _, fun u hu => ?_⟩
  rw [fitL_len] at hu
  rw [fitL_get hu, gameW_zero]
  show _ ↔ Fit (gob.gr N s r) (gob.gr M t q) (posA N M k u) (posB N M k u)
  have hl : (posA N M k u).length = (posB N M k u).length := by rw [posA_len, posB_len]
  have hok : Ok (gob.gr N s r) (posA N M k u) := fun i hi => (pos_lay (N := N) (k := k) hM u i).2.1
  have hok2 : Ok (gob.gr M t q) (posB N M k u) := fun i hi => (pos_lay (N := N) (k := k) hM u i).2.2
  have hz : ∀ i, i < (posA N M k u).length → ((posA N M k u).getD i 0 = 0 ↔ (posB N M k u).getD i 0 = 0) := fun i _ => (pos_lay (N := N) (k := k) hM u i).1
  have e := gob.sw_way (N := N) (M := M) (sa := s) (ra := r) (sb := t) (rb := q) (placed_zip hl hz).1 (placed_els hok) (placed_els hok2)
  rw [fit_iff hl hok hok2, e]
  exact ⟨fun h => ⟨hz, h⟩, fun h => h.2⟩
/-- nothing more is told: for ever -/
theorem tells_stop {mt : Bool} {A B : Gr} {k m : Nat} {X : List Bool} (hB : 0 < B.n) (h : Tells mt A B k m X) (h' : Tells mt A B k (m + 1) X) {s : Nat} (hs : s < X.length) : X.getD s false = true ↔ ∀ n, gameW mt A B n (posA A.n B.n k s) (posB A.n B.n k s) := by
  have step : ∀ ps bs, ps.length = k → Ok A ps → Ok B bs → gameW mt A B m ps bs → gameW mt A B (m + 1) ps bs := fun ps bs hl ha hb hw => by
    have hf := gameW_fit hw
    obtain ⟨s1, s2, s3⟩ := stOf_pos (N := A.n) (M := B.n) (k := k) hB hl hf.len hf.lay
    have hlt : stOf A.n B.n ps bs < X.length := by rw [h.1]; exact s1
    have h1 := (h.2 _ hlt).2 (by rw [s2, s3]; exact hw)
    have h2 := (h'.2 _ hlt).1 h1
    rw [s2, s3] at h2; exact h2
  refine ⟨fun hx n => ?_, fun hx => (h.2 s hs).2 (hx m)⟩
  have hm := (h.2 s hs).1 hx
  rcases Nat.le_total n m with e | e
  · exact gameW_le hm e
  · obtain ⟨d, rfl⟩ := Nat.le.dest e
    refine gameW_stay step d _ _ (posA_len _) (fun i hi => (pos_lay (N := A.n) (k := k) hB s i).2.1) (fun i hi => (pos_lay (N := A.n) (k := k) hB s i).2.2) hm
theorem tells_less {mt : Bool} {A B : Gr} {k m : Nat} {X X' : List Bool} (h : Tells mt A B k m X) (h' : Tells mt A B k (m + 1) X') : X'.length = X.length ∧ ∀ s, s < X.length → X'.getD s false = true → X.getD s false = true := by
  have hl : X'.length = X.length := h'.1.trans h.1.symm
  exact ⟨hl, fun s hs hx => (h.2 s hs).2 (gameW_le ((h'.2 s (by rw [hl]; exact hs)).1 hx) (Nat.le_succ m))⟩
/-- fewer are won -/
theorem count_less : ∀ {X X' : List Bool}, X'.length = X.length → (∀ s, s < X.length → X'.getD s false = true → X.getD s false = true) → X'.countP id ≤ X.countP id ∧ (X' ≠ X → X'.countP id < X.countP id)
  | [], X', hl, _ => by
    have : X' = [] := List.length_eq_zero_iff.1 hl
    subst this; exact ⟨Nat.le_refl _, fun h => absurd rfl h⟩
  | a :: X, [], hl, _ => by simp at hl
  | a :: X, b :: X', hl, h => by
    obtain ⟨i1, i2⟩ := count_less (X := X) (X' := X') (by simpa using hl) fun s hs hx => h (s + 1) (by simpa using hs) hx
    have h0 : b = true → a = true := h 0 (by simp)
    rw [List.countP_cons, List.countP_cons]
    cases a <;> cases b
    · exact ⟨by simpa using i1, fun hn => by simpa using i2 (fun e => hn (by rw [e]))⟩
    · exact absurd (h0 rfl) (by simp)
    · exact ⟨by simp; omega, fun _ => by simp; omega⟩
    · exact ⟨by simpa using i1, fun hn => by simpa using i2 (fun e => hn (by rw [e]))⟩
/-- how many are won, as the memory has it -/
def wonN (H n : Nat) (W : World) : Nat :=
  match W.cell? ⟨H, 9, none⟩ with
  | some (.slice (some a) _ _) => (List.range n).countP fun i => match W.cell? ⟨a.block, i, none⟩ with
    | some (.bool b) => b
    | _ => false
  | _ => 0
theorem countP_range {X : List Bool} : (List.range X.length).countP (fun i => X.getD i false) = X.countP id := by
  have : X = (List.range X.length).map fun i => X.getD i false := by
    apply List.ext_getElem (by simp)
    intro i h1 h2
    simp [List.getD_eq_getElem?_getD, List.getElem?_eq_getElem h1]
  conv => rhs; rw [this, List.countP_map]
  rfl
theorem wonN_of {W : World} {H N : Nat} {s r : ByteArray} {M : Nat} {t q : ByteArray} {k P gf cf gl cl n : Nat} {mt : Bool} {X : List Bool} (hg : PG W H N s r M t q k P gf cf gl cl n mt) (hl : RdB W gl n X) : wonN H n W = X.countP id := by
  unfold wonN
  rw [hg.c9]
  show (List.range n).countP _ = _
  rw [← countP_range, ← hl.len]
  refine List.countP_congr fun i hi => ?_
  show (match W.cell? ⟨gl, i, none⟩ with | some (.bool b) => b | _ => false) = true ↔ _
  rw [hl.cell i (List.mem_range.1 hi)]
/-! readiness -/
def plc (l : List Int) : List Nat := l.map fun z => (z + 1).toNat
theorem plc_len (l : List Int) : (plc l).length = l.length := by simp [plc]
theorem plc_get {l : List Int} {i : Nat} (h : i < l.length) : (plc l).getD i 0 = (l.getD i 0 + 1).toNat := by
  simp [plc, List.getD_eq_getElem?_getD, List.getElem?_eq_getElem h]
theorem pebB_iff {n : Int} {l : List Int} : pebB n l = true ↔ (1 ≤ l.length ∧ l.length ≤ 3) ∧ ∀ i, i < l.length → -1 ≤ l.getD i 0 ∧ l.getD i 0 < n := by
  unfold pebB
  simp only [Bool.and_eq_true, decide_eq_true_eq, List.all_eq_true]
  constructor
  · rintro ⟨h1, h2, h3⟩
    refine ⟨⟨h1, h2⟩, fun i hi => ?_⟩
    have := h3 (l.getD i 0) (by rw [List.getD_eq_getElem?_getD, List.getElem?_eq_getElem hi]; exact List.getElem_mem hi)
    exact of_decide_eq_true this
  · rintro ⟨⟨h1, h2⟩, h3⟩
    refine ⟨h1, h2, fun x hx => ?_⟩
    obtain ⟨i, hi, rfl⟩ := List.mem_iff_getElem.1 hx
    have := h3 i hi
    rw [List.getD_eq_getElem?_getD, List.getElem?_eq_getElem hi] at this
    exact decide_eq_true this
theorem plc_pbs {n : Int} {l : List Int} (h : ∀ i, i < l.length → -1 ≤ l.getD i 0 ∧ l.getD i 0 < n) : pbs (plc l) = l := by
  apply List.ext_getElem (by simp [pbs, plc])
  intro i h1 h2
  have := h i h2
  rw [List.getD_eq_getElem?_getD, List.getElem?_eq_getElem h2] at this
  have h3 : -1 ≤ l[i] := this.1
  simp only [pbs, plc, List.getElem_map]
  omega
structure Rdy (N : Nat) (s r : ByteArray) (la : List Int) (M : Nat) (t q : ByteArray) (lb : List Int) : Prop where
  sz : Sz N M la.length (N * M + 1)
  a : pbs (plc la) = la
  b : pbs (plc lb) = lb
  len : la.length = lb.length
  lay : Lay N M (plc la) (plc lb)
  sa : s.size = N
  ra : r.size = N * N
  sb : t.size = M
  rb : q.size = M * M
theorem ready_facts {N M : Nat} {s r t q : ByteArray} {la lb : List Int} (h : readyB N s r la M t q lb = true) : Rdy N s r la M t q lb := by
  unfold readyB at h
  simp only [Bool.and_eq_true, decide_eq_true_eq] at h
  obtain ⟨h1, h2, h3, h4, h5, h6⟩ := h
  obtain ⟨⟨a1, a2⟩, a3, a4, -⟩ := validB_iff.1 h1
  obtain ⟨⟨b1, b2⟩, b3, b4, -⟩ := validB_iff.1 h2
  obtain ⟨c1, c2⟩ := pebB_iff.1 h3
  obtain ⟨d1, d2⟩ := pebB_iff.1 h4
  have h6 : ∀ i, i < la.length → (la.getD i 0 < 0 ↔ lb.getD i 0 < 0) := of_decide_eq_true h6
  refine ⟨⟨⟨by omega, by omega⟩, ⟨by omega, by omega⟩, c1, rfl⟩, plc_pbs c2, plc_pbs d2, h5, fun i hi => ?_, by omega, by exact_mod_cast a4, by omega, by exact_mod_cast b4⟩
  rw [plc_len] at hi
  rw [plc_get hi, plc_get (by omega)]
  have e1 := c2 i hi
  have e2 := d2 i (by omega)
  have e3 := h6 i hi
  refine ⟨?_, by omega, by omega⟩
  constructor <;> intro e <;> omega
end Go.Proofs.YtpcnoiigbmiejaaDoor.pbi

/- The games with pebbles of the program. -/
namespace Go.Proofs.YtpcnoiigbmiejaaDoor.pbi
set_option linter.unusedVariables false
set_option linter.unusedSimpArgs false
open Go.ChangeShapes Go.WideShapes Go.ChangeAt Go.RowKit
open Go.Proofs.YtpcnoiigbmiejaaDoor.lib Go.Proofs.YtpcnoiigbmiejaaDoor.st Go.Proofs.YtpcnoiigbmiejaaDoor.flow Go.Proofs.YtpcnoiigbmiejaaDoor.chain Go.Proofs.YtpcnoiigbmiejaaDoor.base Go.Proofs.YtpcnoiigbmiejaaDoor.fits Go.Proofs.YtpcnoiigbmiejaaDoor.still Go.Proofs.YtpcnoiigbmiejaaDoor.gow Go.Proofs.YtpcnoiigbmiejaaDoor.peb Go.Proofs.YtpcnoiigbmiejaaDoor.tab Go.Proofs.YtpcnoiigbmiejaaDoor.pairL Go.Proofs.YtpcnoiigbmiejaaDoor.make

set_option maxHeartbeats 6400000 in
set_option maxRecDepth 100000 in
theorem newPebbles_no (n : Int) (s r : ByteArray) (va : Value) (la : List Int) (m : Int) (t q : ByteArray) (vb : Value) (lb : List Int) (w : World) (ha : Reads w va la) (hb : Reads w vb lb) (hla : la.length ≤ 1000000) (hlb : lb.length ≤ 1000000) (hs : s.size ≤ 9223372036854775807) (hr : r.size ≤ 9223372036854775807) (ht : t.size ≤ 9223372036854775807) (hq : q.size ≤ 9223372036854775807) (hrd : readyB n s r la m t q lb = false) :
    Calls Tryd.prog 63 #[.agg #[.int .i64 n, .string s, .string r], va, .agg #[.int .i64 m, .string t, .string q], vb] w fun e w' => e = .returned (.pointer none) ∧ Below w.heap.size w w' := by
  obtain ⟨a1o, c1, rfl⟩ := ha.len
  obtain ⟨a2o, c2, rfl⟩ := hb.len
  obtain ⟨W0, hW0⟩ : ∃ W0, W0 = ((w.alloc (.cells #[.int .i64 n, .string s, .string r] 24)).alloc (.cells #[.int .i64 m, .string t, .string q] 24)) := ⟨_, rfl⟩
  have AW0 : Hid (Below w.heap.size w W0) := by rw [hW0]; exact ((Below.refl _ _).alloc (Nat.le_refl _) _).alloc (by simp) _
  have HW0 := Lib.hid hW0
  have HC := Lib.hid (areReady_any n s r _ la m t q _ lb W0 (ha.below AW0.out (Nat.le_refl _)) (hb.below AW0.out (Nat.le_refl _)) hla hlb hs hr ht hq)
  have HRD := Lib.hid hrd
  clear ha hb hla hlb hs hr ht hq hrd hW0
  go_enter Tryd.func63, Tryd.ntmps63
  go_wp2_with fail
  rw [← HW0.out]
  clear HW0
  refine HC.out.mono ?_
  rintro e W1 ⟨rfl, hw⟩
  rw [HRD.out]
  have AW1 : Hid (Below w.heap.size w W1) := AW0.out.trans (hw.mono AW0.out.size)
  clear hw HC
  go_wp2
  go_ret
  exact ⟨rfl, AW1.out⟩

set_option maxHeartbeats 6400000 in
set_option maxRecDepth 100000 in
theorem cWins_any (n : Int) (s r : ByteArray) (va : Value) (la : List Int) (m : Int) (t q : ByteArray) (vb : Value) (lb : List Int) (T : Int) (w : World) (ha : Reads w va la) (hb : Reads w vb lb) (hla : la.length ≤ 1000000) (hlb : lb.length ≤ 1000000) (hs : s.size ≤ 9223372036854775807) (hr : r.size ≤ 9223372036854775807) (ht : t.size ≤ 9223372036854775807) (hq : q.size ≤ 9223372036854775807) :
    Calls Tryd.prog 22 #[.agg #[.int .i64 n, .string s, .string r], va, .agg #[.int .i64 m, .string t, .string q], vb, .int .i64 T] w fun e w' => ∃ b : Bool, e = .returned (.bool b) ∧ (b = true ↔ readyB n s r la m t q lb = true ∧ (0 ≤ T ∧ T ≤ 4) ∧ gameW true (gob.gr n.toNat s r) (gob.gr m.toNat t q) T.toNat (plc la) (plc lb)) ∧ Below w.heap.size w w' := by
  cases hrd : readyB n s r la m t q lb with
  | false =>
    have HRD := Lib.hid hrd
    obtain ⟨a1o, c1, rfl⟩ := ha.len
    obtain ⟨a2o, c2, rfl⟩ := hb.len
    obtain ⟨W0, hW0⟩ : ∃ W0, W0 = ((w.alloc (.cells #[.int .i64 n, .string s, .string r] 24)).alloc (.cells #[.int .i64 m, .string t, .string q] 24)) := ⟨_, rfl⟩
    have AW0 : Hid (Below w.heap.size w W0) := by rw [hW0]; exact ((Below.refl _ _).alloc (Nat.le_refl _) _).alloc (by simp) _
    have HW0 := Lib.hid hW0
    have HC := Lib.hid (newPebbles_no n s r _ la m t q _ lb W0 (ha.below AW0.out (Nat.le_refl _)) (hb.below AW0.out (Nat.le_refl _)) hla hlb hs hr ht hq hrd)
    clear ha hb hla hlb hs hr ht hq hW0 hrd
    go_enter Tryd.func22, Tryd.ntmps22
    go_wp2_with fail
    rw [← HW0.out]
    clear HW0
    refine HC.out.mono ?_
    rintro e W1 ⟨rfl, hw⟩
    have AW1 : Hid (Below w.heap.size w W1) := AW0.out.trans (hw.mono AW0.out.size)
    clear hw HC
    go_wp2
    go_ret
    exact ⟨false, rfl, ⟨fun h => (by cases h), fun h => (by cases h.1)⟩, AW1.out⟩
  | true =>
    have hval : validB n s r = true ∧ validB m t q = true := by
      unfold readyB at hrd
      simp only [Bool.and_eq_true] at hrd
      exact ⟨hrd.1, hrd.2.1⟩
    obtain ⟨N, rfl⟩ : ∃ N : Nat, n = (N : Int) := ⟨n.toNat, by have := (validB_iff.1 hval.1).1; omega⟩
    obtain ⟨M, rfl⟩ : ∃ M : Nat, m = (M : Int) := ⟨m.toNat, by have := (validB_iff.1 hval.2).1; omega⟩
    have HRF := Lib.hid (ready_facts hrd)
    obtain ⟨PP, hPP⟩ : ∃ PP, PP = N * M + 1 := ⟨_, rfl⟩
    obtain ⟨a1o, c1, rfl⟩ := ha.len
    obtain ⟨a2o, c2, rfl⟩ := hb.len
    obtain ⟨W0, hW0⟩ : ∃ W0, W0 = ((w.alloc (.cells #[.int .i64 N, .string s, .string r] 24)).alloc (.cells #[.int .i64 M, .string t, .string q] 24)) := ⟨_, rfl⟩
    have AW0 : Hid (Below w.heap.size w W0) := by rw [hW0]; exact ((Below.refl _ _).alloc (Nat.le_refl _) _).alloc (by simp) _
    have HW0 := Lib.hid hW0
    have HRS := Lib.hid (show _ ∧ _ from ⟨ha, hb⟩)
    have HC := Lib.hid (newPebbles_yes N s r _ la M t q _ lb W0 (ha.below AW0.out (Nat.le_refl _)) (hb.below AW0.out (Nat.le_refl _)) hla hlb hs hr ht hq hrd la.length PP rfl hPP (by rw [hPP]; exact HRF.out.sz) HRF.out.sa HRF.out.ra HRF.out.sb HRF.out.rb)
    have HPP := Lib.hid hPP
    clear ha hb hla hlb hs hr ht hq hW0 hval hPP hrd
    by_cases hT0 : T < 0
    · go_enter Tryd.func22, Tryd.ntmps22
      go_wp2_with fail
      rw [← HW0.out]
      clear HW0
      refine HC.out.mono ?_
      rintro e W1 ⟨H, gf, cf, gl, cl, nn, rfl, h1, h2, h3, h4, h5, h6, h7, h8⟩
      have AW1 : Hid (Below w.heap.size w W1) := AW0.out.trans (h8.mono AW0.out.size)
      clear h1 h2 h3 h4 h5 h6 h7 h8 HC
      go_wp2
      go_ret
      exact ⟨false, rfl, ⟨fun h => (by cases h), fun h => (by have := h.2.1; omega)⟩, AW1.out⟩
    · by_cases hT4 : 4 < T
      · go_enter Tryd.func22, Tryd.ntmps22
        go_wp2_with fail
        rw [← HW0.out]
        clear HW0
        refine HC.out.mono ?_
        rintro e W1 ⟨H, gf, cf, gl, cl, nn, rfl, h1, h2, h3, h4, h5, h6, h7, h8⟩
        have AW1 : Hid (Below w.heap.size w W1) := AW0.out.trans (h8.mono AW0.out.size)
        clear h1 h2 h3 h4 h5 h6 h7 h8 HC
        go_wp2
        go_ret
        exact ⟨false, rfl, ⟨fun h => (by cases h), fun h => (by have := h.2.1; omega)⟩, AW1.out⟩
      · obtain ⟨T', rfl⟩ : ∃ T' : Nat, T = (T' : Int) := ⟨T.toNat, by omega⟩
        go_enter Tryd.func22, Tryd.ntmps22
        go_wp2_with fail
        rw [← HW0.out]
        clear HW0
        refine HC.out.mono ?_
        rintro e W1 ⟨H, gf, cf, gl, cl, nn, rfl, h1, h2, h3, h4, h5, h6, h7, h8⟩
        have AW1 : Hid (Below w.heap.size w W1) := AW0.out.trans (h8.mono AW0.out.size)
        have HNE : Hid (gf ≠ H ∧ w.heap.size ≤ H) := ⟨h5, Nat.le_trans AW0.out.size h7⟩
        have HNN : Hid (nn = (N * M + 1) ^ la.length) := by rw [Hid, h4, HPP.out]
        have k10 := h1.c10
        have f10 := h1.free 10
        obtain ⟨w2, hw2⟩ : ∃ w2, w2 = W1.setCell ⟨H, 10, none⟩ (.bool true) := ⟨_, rfl⟩
        have ob : ∀ a, a ≠ H → w2.heap[a]? = W1.heap[a]? := fun a ha => by rw [hw2]; exact heap_setCell_other W1 ⟨H, 10, none⟩ a _ ha
        have HQ : Hid (PG w2 H N s r M t q la.length PP gf cf gl cl nn true ∧ RdB w2 gf nn (fitL N s r M t q la.length nn) ∧ RdB w2 gl nn (fitL N s r M t q la.length nn) ∧ Below w.heap.size w w2) := by
          refine ⟨by rw [hw2]; exact h1.setM true, h2.block (ob _ h5), h3.block (ob _ h6), ?_⟩
          rw [hw2]
          exact AW1.out.trans ((out_set W1 H 10 _).below (fun a ha => by have := HNE.out.2; omega) AW1.out.size)
        have HW2 := Lib.hid hw2
        clear hw2 ob
        clear h1 h2 h3 h4 h5 h6 h7 h8 HC
        have HT0 : Hid (Tells true (gob.gr N s r) (gob.gr M t q) la.length 0 (fitL N s r M t q la.length nn)) := by rw [Hid, HNN.out]; exact tells_fit HRF.out.sz.2.1.1
        go_upto_region 5 with (fail)
        rw [← HW2.out]
        clear HW2 k10 f10
        go_wp2_with fail
        refine (play_any (gob.gr N s r) (gob.gr M t q) H N s r M t q la.length PP gf cf gl cl nn true _ _ 0 T' _ rfl rfl (by omega) HQ.out.1 HQ.out.2.1 HQ.out.2.2.1 (by rw [HPP.out]; exact HRF.out.sz) (by rw [HNN.out, HPP.out]) HNE.out.1 HT0.out HT0.out).mono ?_
        rintro e w3 ⟨X, gx, cx, rfl, g1, g2, g3, g4, g5⟩
        have HF : Hid (PG w3 H N s r M t q la.length PP gf cf gx cx nn true ∧ RdB w3 gx nn X ∧ Below w.heap.size w w3) := ⟨g1, g3, HQ.out.2.2.2.trans (g5.below (fun a ha => by have := HNE.out.2; omega) HQ.out.2.2.2.size)⟩
        have HT : Hid (Tells true (gob.gr N s r) (gob.gr M t q) la.length (0 + T') X) := g4
        clear g1 g2 g3 g4 g5 HQ HT0
        obtain ⟨ST, hST⟩ : ∃ ST, ST = stOf N M (plc la) (plc lb) := ⟨_, rfl⟩
        have HSP := Lib.hid (stOf_pos (N := N) (M := M) (k := la.length) HRF.out.sz.2.1.1 (ps := plc la) (qs := plc lb) (plc_len _) (by rw [plc_len, plc_len, HRF.out.len]) HRF.out.lay)
        have hlt : ST < nn := by rw [hST, HNN.out]; exact HSP.out.1
        obtain ⟨bv, hbv⟩ : ∃ bv, bv = X.getD ST false := ⟨_, rfl⟩
        have HB : Hid (w3.cell? ⟨gx, ST, none⟩ = some (.bool bv)) := by rw [hbv]; exact HF.out.2.1.cell ST hlt
        have HRES : Hid (bv = true ↔ gameW true (gob.gr N s r) (gob.gr M t q) (0 + T') (plc la) (plc lb)) := by
          rw [hbv, hST]
          have h := HT.out.2 (stOf N M (plc la) (plc lb)) (by rw [HT.out.1]; exact HSP.out.1)
          have e1 : posA (gob.gr N s r).n (gob.gr M t q).n la.length (stOf N M (plc la) (plc lb)) = plc la := HSP.out.2.1
          have e2 : posB (gob.gr N s r).n (gob.gr M t q).n la.length (stOf N M (plc la) (plc lb)) = plc lb := HSP.out.2.2
          rw [e1, e2] at h
          exact h
        have HD : Hid (Below w.heap.size w w3.drew) := HF.out.2.2.drew
        have HST := Lib.hid hST
        clear hST hbv
        go_upto_region 6 with (fail)
        have q0 : ∀ QQ : Wd (fun Q => Q.cell? ⟨H, 9, none⟩ = some (.slice (some ⟨gx, 0, none⟩) nn cx) ∧ Q.cell? ⟨gx, ST, none⟩ = some (.bool bv)), QQ.w.cell? ⟨H, 9, none⟩ = some (.slice (some ⟨gx, 0, none⟩) nn cx) := fun QQ => QQ.ok.1
        have q1 : ∀ QQ : Wd (fun Q => Q.cell? ⟨H, 9, none⟩ = some (.slice (some ⟨gx, 0, none⟩) nn cx) ∧ Q.cell? ⟨gx, ST, none⟩ = some (.bool bv)), QQ.w.cell? ⟨gx, ST, none⟩ = some (.bool bv) := fun QQ => QQ.ok.2
        have hne : Nonempty (Wd (fun Q => Q.cell? ⟨H, 9, none⟩ = some (.slice (some ⟨gx, 0, none⟩) nn cx) ∧ Q.cell? ⟨gx, ST, none⟩ = some (.bool bv))) := ⟨⟨w3, ⟨HF.out.1.c9, HB.out⟩⟩⟩
        go_wp2_with fail
        refine chain (S := (fun Q => Q.cell? ⟨H, 9, none⟩ = some (.slice (some ⟨gx, 0, none⟩) nn cx) ∧ Q.cell? ⟨gx, ST, none⟩ = some (.bool bv))) [([true, true, true, true, true, true, true], 7)] [false, false, false, false, false, false, false, false, true, true, true] (by kernel_rfl) (by kernel_rfl) (by kernel_rfl) ⟨HF.out.1.c9, HB.out⟩ ?_
        simp only [wpSegs, pickB, List.dropLast_cons_cons, List.dropLast_singleton, List.getLast?_cons_cons, List.getLast?_singleton, List.toList_toArray, List.getElem?_toArray, List.getElem?_cons_succ, List.getElem?_cons_zero, Option.toList_some]
        repeat (go_big_quiet_step (fail))
        refine wpQuiet_nil ?_
        intro K hK
        go_wp2_with fail
        refine (stateOf_any H N s r M t q la.length PP gf cf gx cx nn true (.slice a1o la.length c1) (.slice a2o lb.length c2) (plc la) (plc lb) _ HF.out.1.drew (by rw [HPP.out]; exact HRF.out.sz) (plc_len _) (by rw [plc_len, HRF.out.len]) HRF.out.lay (by rw [HRF.out.a]; exact HRS.out.1.below HD.out (Nat.le_refl _)) (by rw [HRF.out.b]; exact HRS.out.2.below HD.out (Nat.le_refl _))).mono ?_
        rintro e w4 ⟨rfl, hw4⟩
        rw [← HST.out]
        have H9 : Hid (w4.cell? ⟨H, 9, none⟩ = some (.slice (some ⟨gx, 0, none⟩) nn cx)) := ins.keepCell hw4 HF.out.1.drew.c9
        have HV : Hid (w4.cell? ⟨gx, ST, none⟩ = some (.bool bv)) := ins.keepCell hw4 HB.out
        have A4 : Hid (Below w.heap.size w w4) := HD.out.trans (hw4.mono HD.out.size)
        clear hw4
        go_wp2_with fail
        refine hK _ _ ⟨H9.out, HV.out⟩ ?_
        clear hK K
        repeat (go_big_quiet_step (fail))
        refine wpQuiet_nil ?_
        clear q0 q1 hne
        go_wp2
        go_ret
        refine ⟨bv, rfl, ?_, A4.out⟩
        have e1 : (T' : Int).toNat = T' := rfl
        rw [e1]
        have h := HRES.out
        rw [Nat.zero_add] at h
        exact h.trans ⟨fun h => ⟨trivial, ⟨by omega, by omega⟩, h⟩, fun h => h.2.2⟩

set_option maxHeartbeats 6400000 in
set_option maxRecDepth 100000 in
theorem pWins_any (n : Int) (s r : ByteArray) (va : Value) (la : List Int) (m : Int) (t q : ByteArray) (vb : Value) (lb : List Int) (T : Int) (w : World) (ha : Reads w va la) (hb : Reads w vb lb) (hla : la.length ≤ 1000000) (hlb : lb.length ≤ 1000000) (hs : s.size ≤ 9223372036854775807) (hr : r.size ≤ 9223372036854775807) (ht : t.size ≤ 9223372036854775807) (hq : q.size ≤ 9223372036854775807) :
    Calls Tryd.prog 24 #[.agg #[.int .i64 n, .string s, .string r], va, .agg #[.int .i64 m, .string t, .string q], vb, .int .i64 T] w fun e w' => ∃ b : Bool, e = .returned (.bool b) ∧ (b = true ↔ readyB n s r la m t q lb = true ∧ (0 ≤ T ∧ T ≤ 4) ∧ gameW false (gob.gr n.toNat s r) (gob.gr m.toNat t q) T.toNat (plc la) (plc lb)) ∧ Below w.heap.size w w' := by
  cases hrd : readyB n s r la m t q lb with
  | false =>
    have HRD := Lib.hid hrd
    obtain ⟨a1o, c1, rfl⟩ := ha.len
    obtain ⟨a2o, c2, rfl⟩ := hb.len
    obtain ⟨W0, hW0⟩ : ∃ W0, W0 = ((w.alloc (.cells #[.int .i64 n, .string s, .string r] 24)).alloc (.cells #[.int .i64 m, .string t, .string q] 24)) := ⟨_, rfl⟩
    have AW0 : Hid (Below w.heap.size w W0) := by rw [hW0]; exact ((Below.refl _ _).alloc (Nat.le_refl _) _).alloc (by simp) _
    have HW0 := Lib.hid hW0
    have HC := Lib.hid (newPebbles_no n s r _ la m t q _ lb W0 (ha.below AW0.out (Nat.le_refl _)) (hb.below AW0.out (Nat.le_refl _)) hla hlb hs hr ht hq hrd)
    clear ha hb hla hlb hs hr ht hq hW0 hrd
    go_enter Tryd.func24, Tryd.ntmps24
    go_wp2_with fail
    rw [← HW0.out]
    clear HW0
    refine HC.out.mono ?_
    rintro e W1 ⟨rfl, hw⟩
    have AW1 : Hid (Below w.heap.size w W1) := AW0.out.trans (hw.mono AW0.out.size)
    clear hw HC
    go_wp2
    go_ret
    exact ⟨false, rfl, ⟨fun h => (by cases h), fun h => (by cases h.1)⟩, AW1.out⟩
  | true =>
    have hval : validB n s r = true ∧ validB m t q = true := by
      unfold readyB at hrd
      simp only [Bool.and_eq_true] at hrd
      exact ⟨hrd.1, hrd.2.1⟩
    obtain ⟨N, rfl⟩ : ∃ N : Nat, n = (N : Int) := ⟨n.toNat, by have := (validB_iff.1 hval.1).1; omega⟩
    obtain ⟨M, rfl⟩ : ∃ M : Nat, m = (M : Int) := ⟨m.toNat, by have := (validB_iff.1 hval.2).1; omega⟩
    have HRF := Lib.hid (ready_facts hrd)
    obtain ⟨PP, hPP⟩ : ∃ PP, PP = N * M + 1 := ⟨_, rfl⟩
    obtain ⟨a1o, c1, rfl⟩ := ha.len
    obtain ⟨a2o, c2, rfl⟩ := hb.len
    obtain ⟨W0, hW0⟩ : ∃ W0, W0 = ((w.alloc (.cells #[.int .i64 N, .string s, .string r] 24)).alloc (.cells #[.int .i64 M, .string t, .string q] 24)) := ⟨_, rfl⟩
    have AW0 : Hid (Below w.heap.size w W0) := by rw [hW0]; exact ((Below.refl _ _).alloc (Nat.le_refl _) _).alloc (by simp) _
    have HW0 := Lib.hid hW0
    have HRS := Lib.hid (show _ ∧ _ from ⟨ha, hb⟩)
    have HC := Lib.hid (newPebbles_yes N s r _ la M t q _ lb W0 (ha.below AW0.out (Nat.le_refl _)) (hb.below AW0.out (Nat.le_refl _)) hla hlb hs hr ht hq hrd la.length PP rfl hPP (by rw [hPP]; exact HRF.out.sz) HRF.out.sa HRF.out.ra HRF.out.sb HRF.out.rb)
    have HPP := Lib.hid hPP
    clear ha hb hla hlb hs hr ht hq hW0 hval hPP hrd
    by_cases hT0 : T < 0
    · go_enter Tryd.func24, Tryd.ntmps24
      go_wp2_with fail
      rw [← HW0.out]
      clear HW0
      refine HC.out.mono ?_
      rintro e W1 ⟨H, gf, cf, gl, cl, nn, rfl, h1, h2, h3, h4, h5, h6, h7, h8⟩
      have AW1 : Hid (Below w.heap.size w W1) := AW0.out.trans (h8.mono AW0.out.size)
      clear h1 h2 h3 h4 h5 h6 h7 h8 HC
      go_wp2
      go_ret
      exact ⟨false, rfl, ⟨fun h => (by cases h), fun h => (by have := h.2.1; omega)⟩, AW1.out⟩
    · by_cases hT4 : 4 < T
      · go_enter Tryd.func24, Tryd.ntmps24
        go_wp2_with fail
        rw [← HW0.out]
        clear HW0
        refine HC.out.mono ?_
        rintro e W1 ⟨H, gf, cf, gl, cl, nn, rfl, h1, h2, h3, h4, h5, h6, h7, h8⟩
        have AW1 : Hid (Below w.heap.size w W1) := AW0.out.trans (h8.mono AW0.out.size)
        clear h1 h2 h3 h4 h5 h6 h7 h8 HC
        go_wp2
        go_ret
        exact ⟨false, rfl, ⟨fun h => (by cases h), fun h => (by have := h.2.1; omega)⟩, AW1.out⟩
      · obtain ⟨T', rfl⟩ : ∃ T' : Nat, T = (T' : Int) := ⟨T.toNat, by omega⟩
        go_enter Tryd.func24, Tryd.ntmps24
        go_wp2_with fail
        rw [← HW0.out]
        clear HW0
        refine HC.out.mono ?_
        rintro e W1 ⟨H, gf, cf, gl, cl, nn, rfl, h1, h2, h3, h4, h5, h6, h7, h8⟩
        have AW1 : Hid (Below w.heap.size w W1) := AW0.out.trans (h8.mono AW0.out.size)
        have HNE : Hid (gf ≠ H ∧ w.heap.size ≤ H) := ⟨h5, Nat.le_trans AW0.out.size h7⟩
        have HNN : Hid (nn = (N * M + 1) ^ la.length) := by rw [Hid, h4, HPP.out]
        obtain ⟨w2, hw2⟩ : ∃ w2, w2 = W1 := ⟨_, rfl⟩
        have HQ : Hid (PG w2 H N s r M t q la.length PP gf cf gl cl nn false ∧ RdB w2 gf nn (fitL N s r M t q la.length nn) ∧ RdB w2 gl nn (fitL N s r M t q la.length nn) ∧ Below w.heap.size w w2) := by rw [hw2]; exact ⟨h1, h2, h3, AW1.out⟩
        clear h1 h2 h3 h4 h5 h6 h7 h8 HC
        subst hw2
        have HT0 : Hid (Tells false (gob.gr N s r) (gob.gr M t q) la.length 0 (fitL N s r M t q la.length nn)) := by rw [Hid, HNN.out]; exact tells_fit HRF.out.sz.2.1.1
        go_upto_region 4 with (fail)
        go_wp2_with fail
        refine (play_any (gob.gr N s r) (gob.gr M t q) H N s r M t q la.length PP gf cf gl cl nn false _ _ 0 T' _ rfl rfl (by omega) HQ.out.1 HQ.out.2.1 HQ.out.2.2.1 (by rw [HPP.out]; exact HRF.out.sz) (by rw [HNN.out, HPP.out]) HNE.out.1 HT0.out HT0.out).mono ?_
        rintro e w3 ⟨X, gx, cx, rfl, g1, g2, g3, g4, g5⟩
        have HF : Hid (PG w3 H N s r M t q la.length PP gf cf gx cx nn false ∧ RdB w3 gx nn X ∧ Below w.heap.size w w3) := ⟨g1, g3, HQ.out.2.2.2.trans (g5.below (fun a ha => by have := HNE.out.2; omega) HQ.out.2.2.2.size)⟩
        have HT : Hid (Tells false (gob.gr N s r) (gob.gr M t q) la.length (0 + T') X) := g4
        clear g1 g2 g3 g4 g5 HQ HT0
        obtain ⟨ST, hST⟩ : ∃ ST, ST = stOf N M (plc la) (plc lb) := ⟨_, rfl⟩
        have HSP := Lib.hid (stOf_pos (N := N) (M := M) (k := la.length) HRF.out.sz.2.1.1 (ps := plc la) (qs := plc lb) (plc_len _) (by rw [plc_len, plc_len, HRF.out.len]) HRF.out.lay)
        have hlt : ST < nn := by rw [hST, HNN.out]; exact HSP.out.1
        obtain ⟨bv, hbv⟩ : ∃ bv, bv = X.getD ST false := ⟨_, rfl⟩
        have HB : Hid (w3.cell? ⟨gx, ST, none⟩ = some (.bool bv)) := by rw [hbv]; exact HF.out.2.1.cell ST hlt
        have HRES : Hid (bv = true ↔ gameW false (gob.gr N s r) (gob.gr M t q) (0 + T') (plc la) (plc lb)) := by
          rw [hbv, hST]
          have h := HT.out.2 (stOf N M (plc la) (plc lb)) (by rw [HT.out.1]; exact HSP.out.1)
          have e1 : posA (gob.gr N s r).n (gob.gr M t q).n la.length (stOf N M (plc la) (plc lb)) = plc la := HSP.out.2.1
          have e2 : posB (gob.gr N s r).n (gob.gr M t q).n la.length (stOf N M (plc la) (plc lb)) = plc lb := HSP.out.2.2
          rw [e1, e2] at h
          exact h
        have HD : Hid (Below w.heap.size w w3.drew) := HF.out.2.2.drew
        have HST := Lib.hid hST
        clear hST hbv
        go_upto_region 5 with (fail)
        have q0 : ∀ QQ : Wd (fun Q => Q.cell? ⟨H, 9, none⟩ = some (.slice (some ⟨gx, 0, none⟩) nn cx) ∧ Q.cell? ⟨gx, ST, none⟩ = some (.bool bv)), QQ.w.cell? ⟨H, 9, none⟩ = some (.slice (some ⟨gx, 0, none⟩) nn cx) := fun QQ => QQ.ok.1
        have q1 : ∀ QQ : Wd (fun Q => Q.cell? ⟨H, 9, none⟩ = some (.slice (some ⟨gx, 0, none⟩) nn cx) ∧ Q.cell? ⟨gx, ST, none⟩ = some (.bool bv)), QQ.w.cell? ⟨gx, ST, none⟩ = some (.bool bv) := fun QQ => QQ.ok.2
        have hne : Nonempty (Wd (fun Q => Q.cell? ⟨H, 9, none⟩ = some (.slice (some ⟨gx, 0, none⟩) nn cx) ∧ Q.cell? ⟨gx, ST, none⟩ = some (.bool bv))) := ⟨⟨w3, ⟨HF.out.1.c9, HB.out⟩⟩⟩
        go_wp2_with fail
        refine chain (S := (fun Q => Q.cell? ⟨H, 9, none⟩ = some (.slice (some ⟨gx, 0, none⟩) nn cx) ∧ Q.cell? ⟨gx, ST, none⟩ = some (.bool bv))) [([true, true, true, true, true, true, true], 7)] [false, false, false, false, false, false, false, false, true, true, true] (by kernel_rfl) (by kernel_rfl) (by kernel_rfl) ⟨HF.out.1.c9, HB.out⟩ ?_
        simp only [wpSegs, pickB, List.dropLast_cons_cons, List.dropLast_singleton, List.getLast?_cons_cons, List.getLast?_singleton, List.toList_toArray, List.getElem?_toArray, List.getElem?_cons_succ, List.getElem?_cons_zero, Option.toList_some]
        repeat (go_big_quiet_step (fail))
        refine wpQuiet_nil ?_
        intro K hK
        go_wp2_with fail
        refine (stateOf_any H N s r M t q la.length PP gf cf gx cx nn false (.slice a1o la.length c1) (.slice a2o lb.length c2) (plc la) (plc lb) _ HF.out.1.drew (by rw [HPP.out]; exact HRF.out.sz) (plc_len _) (by rw [plc_len, HRF.out.len]) HRF.out.lay (by rw [HRF.out.a]; exact HRS.out.1.below HD.out (Nat.le_refl _)) (by rw [HRF.out.b]; exact HRS.out.2.below HD.out (Nat.le_refl _))).mono ?_
        rintro e w4 ⟨rfl, hw4⟩
        rw [← HST.out]
        have H9 : Hid (w4.cell? ⟨H, 9, none⟩ = some (.slice (some ⟨gx, 0, none⟩) nn cx)) := ins.keepCell hw4 HF.out.1.drew.c9
        have HV : Hid (w4.cell? ⟨gx, ST, none⟩ = some (.bool bv)) := ins.keepCell hw4 HB.out
        have A4 : Hid (Below w.heap.size w w4) := HD.out.trans (hw4.mono HD.out.size)
        clear hw4
        go_wp2_with fail
        refine hK _ _ ⟨H9.out, HV.out⟩ ?_
        clear hK K
        repeat (go_big_quiet_step (fail))
        refine wpQuiet_nil ?_
        clear q0 q1 hne
        go_wp2
        go_ret
        refine ⟨bv, rfl, ?_, A4.out⟩
        have e1 : (T' : Int).toNat = T' := rfl
        rw [e1]
        have h := HRES.out
        rw [Nat.zero_add] at h
        exact h.trans ⟨fun h => ⟨trivial, ⟨by omega, by omega⟩, h⟩, fun h => h.2.2⟩

set_option maxHeartbeats 6400000 in
set_option maxRecDepth 100000 in
theorem cEver_any (n : Int) (s r : ByteArray) (va : Value) (la : List Int) (m : Int) (t q : ByteArray) (vb : Value) (lb : List Int) (w : World) (ha : Reads w va la) (hb : Reads w vb lb) (hla : la.length ≤ 1000000) (hlb : lb.length ≤ 1000000) (hs : s.size ≤ 9223372036854775807) (hr : r.size ≤ 9223372036854775807) (ht : t.size ≤ 9223372036854775807) (hq : q.size ≤ 9223372036854775807) :
    Calls Tryd.prog 31 #[.agg #[.int .i64 n, .string s, .string r], va, .agg #[.int .i64 m, .string t, .string q], vb] w fun e w' => ∃ b : Bool, e = .returned (.bool b) ∧ (b = true ↔ readyB n s r la m t q lb = true ∧ ∀ k, gameW true (gob.gr n.toNat s r) (gob.gr m.toNat t q) k (plc la) (plc lb)) ∧ Below w.heap.size w w' := by
  cases hrd : readyB n s r la m t q lb with
  | false =>
    have HRD := Lib.hid hrd
    obtain ⟨a1o, c1, rfl⟩ := ha.len
    obtain ⟨a2o, c2, rfl⟩ := hb.len
    obtain ⟨W0, hW0⟩ : ∃ W0, W0 = ((w.alloc (.cells #[.int .i64 n, .string s, .string r] 24)).alloc (.cells #[.int .i64 m, .string t, .string q] 24)) := ⟨_, rfl⟩
    have AW0 : Hid (Below w.heap.size w W0) := by rw [hW0]; exact ((Below.refl _ _).alloc (Nat.le_refl _) _).alloc (by simp) _
    have HW0 := Lib.hid hW0
    have HC := Lib.hid (newPebbles_no n s r _ la m t q _ lb W0 (ha.below AW0.out (Nat.le_refl _)) (hb.below AW0.out (Nat.le_refl _)) hla hlb hs hr ht hq hrd)
    clear ha hb hla hlb hs hr ht hq hW0 hrd
    go_enter Tryd.func31, Tryd.ntmps31
    go_wp2_with fail
    rw [← HW0.out]
    clear HW0
    refine HC.out.mono ?_
    rintro e W1 ⟨rfl, hw⟩
    have AW1 : Hid (Below w.heap.size w W1) := AW0.out.trans (hw.mono AW0.out.size)
    clear hw HC
    go_wp2
    go_ret
    exact ⟨false, rfl, ⟨fun h => (by cases h), fun h => (by cases h.1)⟩, AW1.out⟩
  | true =>
    have hval : validB n s r = true ∧ validB m t q = true := by
      unfold readyB at hrd
      simp only [Bool.and_eq_true] at hrd
      exact ⟨hrd.1, hrd.2.1⟩
    obtain ⟨N, rfl⟩ : ∃ N : Nat, n = (N : Int) := ⟨n.toNat, by have := (validB_iff.1 hval.1).1; omega⟩
    obtain ⟨M, rfl⟩ : ∃ M : Nat, m = (M : Int) := ⟨m.toNat, by have := (validB_iff.1 hval.2).1; omega⟩
    have HRF := Lib.hid (ready_facts hrd)
    obtain ⟨PP, hPP⟩ : ∃ PP, PP = N * M + 1 := ⟨_, rfl⟩
    obtain ⟨a1o, c1, rfl⟩ := ha.len
    obtain ⟨a2o, c2, rfl⟩ := hb.len
    obtain ⟨W0, hW0⟩ : ∃ W0, W0 = ((w.alloc (.cells #[.int .i64 N, .string s, .string r] 24)).alloc (.cells #[.int .i64 M, .string t, .string q] 24)) := ⟨_, rfl⟩
    have AW0 : Hid (Below w.heap.size w W0) := by rw [hW0]; exact ((Below.refl _ _).alloc (Nat.le_refl _) _).alloc (by simp) _
    have HW0 := Lib.hid hW0
    have HRS := Lib.hid (show _ ∧ _ from ⟨ha, hb⟩)
    have HC := Lib.hid (newPebbles_yes N s r _ la M t q _ lb W0 (ha.below AW0.out (Nat.le_refl _)) (hb.below AW0.out (Nat.le_refl _)) hla hlb hs hr ht hq hrd la.length PP rfl hPP (by rw [hPP]; exact HRF.out.sz) HRF.out.sa HRF.out.ra HRF.out.sb HRF.out.rb)
    have HPP := Lib.hid hPP
    clear ha hb hla hlb hs hr ht hq hW0 hval hPP hrd
    go_enter Tryd.func31, Tryd.ntmps31
    go_wp2_with fail
    rw [← HW0.out]
    clear HW0
    refine HC.out.mono ?_
    rintro e W1 ⟨H, gf, cf, gl, cl, nn, rfl, h1, h2, h3, h4, h5, h6, h7, h8⟩
    have AW1 : Hid (Below w.heap.size w W1) := AW0.out.trans (h8.mono AW0.out.size)
    have HNE : Hid (gf ≠ H ∧ w.heap.size ≤ H) := ⟨h5, Nat.le_trans AW0.out.size h7⟩
    have HNN : Hid (nn = (N * M + 1) ^ la.length) := by rw [Hid, h4, HPP.out]
    have k10 := h1.c10
    have f10 := h1.free 10
    obtain ⟨w2, hw2⟩ : ∃ w2, w2 = W1.setCell ⟨H, 10, none⟩ (.bool true) := ⟨_, rfl⟩
    have ob : ∀ a, a ≠ H → w2.heap[a]? = W1.heap[a]? := fun a ha => by rw [hw2]; exact heap_setCell_other W1 ⟨H, 10, none⟩ a _ ha
    have HQ : Hid (PG w2 H N s r M t q la.length PP gf cf gl cl nn true ∧ RdB w2 gf nn (fitL N s r M t q la.length nn) ∧ RdB w2 gl nn (fitL N s r M t q la.length nn) ∧ Below w.heap.size w w2) := by
      refine ⟨by rw [hw2]; exact h1.setM true, h2.block (ob _ h5), h3.block (ob _ h6), ?_⟩
      rw [hw2]
      exact AW1.out.trans ((out_set W1 H 10 _).below (fun a ha => by have := HNE.out.2; omega) AW1.out.size)
    have HW2 := Lib.hid hw2
    clear hw2 ob
    clear h1 h2 h3 h4 h5 h6 h7 h8 HC
    have HT0 : Hid (Tells true (gob.gr N s r) (gob.gr M t q) la.length 0 (fitL N s r M t q la.length nn)) := by rw [Hid, HNN.out]; exact tells_fit HRF.out.sz.2.1.1
    go_upto_region 5 with (fail)
    rw [← HW2.out]
    clear HW2 k10 f10
    go_loopw [21] (fun _ wr => ∃ (j : Nat) (X : List Bool) (gx cx : Nat), Hid (PG wr H N s r M t q la.length PP gf cf gx cx nn true ∧ RdB wr gf nn (fitL N s r M t q la.length nn) ∧ RdB wr gx nn X ∧ Tells true (gob.gr N s r) (gob.gr M t q) la.length j X ∧ Below w.heap.size w wr)) (fun _ wx => wonN H nn wx)
    case atStart => exact ⟨0, _, gl, cl, HQ.out.1, HQ.out.2.1, HQ.out.2.2.1, HT0.out, HQ.out.2.2.2⟩
    case round =>
      clear HQ
      obtain ⟨j, X0, g0, c0, hst⟩ := hrel
      have HC := Lib.hid (turn_any H N s r M t q la.length PP gf cf g0 c0 nn true _ X0 wr hst.out.1 hst.out.2.1 hst.out.2.2.1 (by rw [HPP.out]; exact HRF.out.sz) (by rw [HNN.out, HPP.out]) HNE.out.1 (fun hm i u hi hu h0 => by
        have ht := hst.out.2.2.2.1
        exact tells_blk (A := gob.gr N s r) (B := gob.gr M t q) HRF.out.sz.2.1.1 ht hu hi h0))
      go_wp2_with fail
      refine HC.out.mono ?_
      rintro e w3 ⟨X, gx, cx, rfl, g1, g2, g3, g4, g5⟩
      have HF : Hid (PG w3 H N s r M t q la.length PP gf cf gx cx nn true ∧ RdB w3 gx nn X ∧ Below w.heap.size w w3) := ⟨g1, g3, hst.out.2.2.2.2.trans (g5.below (fun a ha => by have := HNE.out.2; omega) hst.out.2.2.2.2.size)⟩
      have HT := Lib.hid (tells_next (A := gob.gr N s r) (B := gob.gr M t q) HRF.out.sz.2.1.1 HT0.out hst.out.2.2.2.1 g4)
      have HTP := Lib.hid hst.out.2.2.2.1
      have HFF := Lib.hid g2
      have HWN : Hid (wonN H nn w3 = X.countP id ∧ wonN H nn wr = X0.countP id) := ⟨wonN_of g1 g3, wonN_of hst.out.1 hst.out.2.2.1⟩
      clear g1 g2 g3 g4 g5 hst HC
      obtain ⟨bE, hbE⟩ : ∃ bE, bE = decide (X = X0) := ⟨_, rfl⟩
      rw [← hbE]
      have HBE := Lib.hid hbE
      clear hbE
      cases bE with
      | false =>
        have HNX : Hid (X ≠ X0) := of_decide_eq_false (p := X = X0) HBE.out.symm
        have HM : Hid (wonN H nn w3 < wonN H nn wr) := by
          obtain ⟨l1, l2⟩ := tells_less HTP.out HT.out
          rw [Hid, HWN.out.1, HWN.out.2]
          exact (count_less l1 l2).2 HNX.out
        have HN : Hid (PG w3 H N s r M t q la.length PP gf cf gx cx nn true ∧ RdB w3 gf nn (fitL N s r M t q la.length nn) ∧ RdB w3 gx nn X ∧ Tells true (gob.gr N s r) (gob.gr M t q) la.length (j + 1) X ∧ Below w.heap.size w w3) := ⟨HF.out.1, HFF.out, HF.out.2.1, HT.out, HF.out.2.2⟩
        clear HF HT HTP HFF HWN
        go_wp2
        go_roundw
        case rel => exact ⟨j + 1, X, gx, cx, HN.out⟩
        case measure => exact HM.out
      | true =>
        have HXX : Hid (X = X0) := of_decide_eq_true (p := X = X0) HBE.out.symm
        obtain ⟨ST, hST⟩ : ∃ ST, ST = stOf N M (plc la) (plc lb) := ⟨_, rfl⟩
        have HSP := Lib.hid (stOf_pos (N := N) (M := M) (k := la.length) HRF.out.sz.2.1.1 (ps := plc la) (qs := plc lb) (plc_len _) (by rw [plc_len, plc_len, HRF.out.len]) HRF.out.lay)
        have hlt : ST < nn := by rw [hST, HNN.out]; exact HSP.out.1
        obtain ⟨bv, hbv⟩ : ∃ bv, bv = X.getD ST false := ⟨_, rfl⟩
        have HB : Hid (w3.cell? ⟨gx, ST, none⟩ = some (.bool bv)) := by rw [hbv]; exact HF.out.2.1.cell ST hlt
        have HRES : Hid (bv = true ↔ ∀ k, gameW true (gob.gr N s r) (gob.gr M t q) k (plc la) (plc lb)) := by
          rw [hbv, hST]
          have h := tells_stop (A := gob.gr N s r) (B := gob.gr M t q) HRF.out.sz.2.1.1 (by have := HTP.out; rw [← HXX.out] at this; exact this) HT.out (s := stOf N M (plc la) (plc lb)) (by rw [HT.out.1]; exact HSP.out.1)
          have e1 : posA (gob.gr N s r).n (gob.gr M t q).n la.length (stOf N M (plc la) (plc lb)) = plc la := HSP.out.2.1
          have e2 : posB (gob.gr N s r).n (gob.gr M t q).n la.length (stOf N M (plc la) (plc lb)) = plc lb := HSP.out.2.2
          rw [e1, e2] at h
          exact h
        have HD : Hid (Below w.heap.size w w3.drew) := HF.out.2.2.drew
        have HST := Lib.hid hST
        clear hST hbv
        go_upto_region 6 with (fail)
        have q0 : ∀ QQ : Wd (fun Q => Q.cell? ⟨H, 9, none⟩ = some (.slice (some ⟨gx, 0, none⟩) nn cx) ∧ Q.cell? ⟨gx, ST, none⟩ = some (.bool bv)), QQ.w.cell? ⟨H, 9, none⟩ = some (.slice (some ⟨gx, 0, none⟩) nn cx) := fun QQ => QQ.ok.1
        have q1 : ∀ QQ : Wd (fun Q => Q.cell? ⟨H, 9, none⟩ = some (.slice (some ⟨gx, 0, none⟩) nn cx) ∧ Q.cell? ⟨gx, ST, none⟩ = some (.bool bv)), QQ.w.cell? ⟨gx, ST, none⟩ = some (.bool bv) := fun QQ => QQ.ok.2
        have hne : Nonempty (Wd (fun Q => Q.cell? ⟨H, 9, none⟩ = some (.slice (some ⟨gx, 0, none⟩) nn cx) ∧ Q.cell? ⟨gx, ST, none⟩ = some (.bool bv))) := ⟨⟨w3, ⟨HF.out.1.c9, HB.out⟩⟩⟩
        go_wp2_with fail
        refine chain (S := (fun Q => Q.cell? ⟨H, 9, none⟩ = some (.slice (some ⟨gx, 0, none⟩) nn cx) ∧ Q.cell? ⟨gx, ST, none⟩ = some (.bool bv))) [([true, true, true, true, true, true, true], 7)] [false, false, false, false, false, false, false, false, true, true, true] (by kernel_rfl) (by kernel_rfl) (by kernel_rfl) ⟨HF.out.1.c9, HB.out⟩ ?_
        simp only [wpSegs, pickB, List.dropLast_cons_cons, List.dropLast_singleton, List.getLast?_cons_cons, List.getLast?_singleton, List.toList_toArray, List.getElem?_toArray, List.getElem?_cons_succ, List.getElem?_cons_zero, Option.toList_some]
        repeat (go_big_quiet_step (fail))
        refine wpQuiet_nil ?_
        intro K hK
        go_wp2_with fail
        refine (stateOf_any H N s r M t q la.length PP gf cf gx cx nn true (.slice a1o la.length c1) (.slice a2o lb.length c2) (plc la) (plc lb) _ HF.out.1.drew (by rw [HPP.out]; exact HRF.out.sz) (plc_len _) (by rw [plc_len, HRF.out.len]) HRF.out.lay (by rw [HRF.out.a]; exact HRS.out.1.below HD.out (Nat.le_refl _)) (by rw [HRF.out.b]; exact HRS.out.2.below HD.out (Nat.le_refl _))).mono ?_
        rintro e w4 ⟨rfl, hw4⟩
        rw [← HST.out]
        have H9 : Hid (w4.cell? ⟨H, 9, none⟩ = some (.slice (some ⟨gx, 0, none⟩) nn cx)) := ins.keepCell hw4 HF.out.1.drew.c9
        have HV : Hid (w4.cell? ⟨gx, ST, none⟩ = some (.bool bv)) := ins.keepCell hw4 HB.out
        have A4 : Hid (Below w.heap.size w w4) := HD.out.trans (hw4.mono HD.out.size)
        clear hw4
        go_wp2_with fail
        refine hK _ _ ⟨H9.out, HV.out⟩ ?_
        clear hK K
        repeat (go_big_quiet_step (fail))
        refine wpQuiet_nil ?_
        clear q0 q1 hne
        go_wp2
        go_ret
        refine ⟨bv, rfl, ?_, A4.out⟩
        exact HRES.out.trans ⟨fun h => ⟨trivial, h⟩, fun h => h.2⟩

set_option maxHeartbeats 6400000 in
set_option maxRecDepth 100000 in
theorem pEver_any (n : Int) (s r : ByteArray) (va : Value) (la : List Int) (m : Int) (t q : ByteArray) (vb : Value) (lb : List Int) (w : World) (ha : Reads w va la) (hb : Reads w vb lb) (hla : la.length ≤ 1000000) (hlb : lb.length ≤ 1000000) (hs : s.size ≤ 9223372036854775807) (hr : r.size ≤ 9223372036854775807) (ht : t.size ≤ 9223372036854775807) (hq : q.size ≤ 9223372036854775807) :
    Calls Tryd.prog 34 #[.agg #[.int .i64 n, .string s, .string r], va, .agg #[.int .i64 m, .string t, .string q], vb] w fun e w' => ∃ b : Bool, e = .returned (.bool b) ∧ (b = true ↔ readyB n s r la m t q lb = true ∧ ∀ k, gameW false (gob.gr n.toNat s r) (gob.gr m.toNat t q) k (plc la) (plc lb)) ∧ Below w.heap.size w w' := by
  cases hrd : readyB n s r la m t q lb with
  | false =>
    have HRD := Lib.hid hrd
    obtain ⟨a1o, c1, rfl⟩ := ha.len
    obtain ⟨a2o, c2, rfl⟩ := hb.len
    obtain ⟨W0, hW0⟩ : ∃ W0, W0 = ((w.alloc (.cells #[.int .i64 n, .string s, .string r] 24)).alloc (.cells #[.int .i64 m, .string t, .string q] 24)) := ⟨_, rfl⟩
    have AW0 : Hid (Below w.heap.size w W0) := by rw [hW0]; exact ((Below.refl _ _).alloc (Nat.le_refl _) _).alloc (by simp) _
    have HW0 := Lib.hid hW0
    have HC := Lib.hid (newPebbles_no n s r _ la m t q _ lb W0 (ha.below AW0.out (Nat.le_refl _)) (hb.below AW0.out (Nat.le_refl _)) hla hlb hs hr ht hq hrd)
    clear ha hb hla hlb hs hr ht hq hW0 hrd
    go_enter Tryd.func34, Tryd.ntmps34
    go_wp2_with fail
    rw [← HW0.out]
    clear HW0
    refine HC.out.mono ?_
    rintro e W1 ⟨rfl, hw⟩
    have AW1 : Hid (Below w.heap.size w W1) := AW0.out.trans (hw.mono AW0.out.size)
    clear hw HC
    go_wp2
    go_ret
    exact ⟨false, rfl, ⟨fun h => (by cases h), fun h => (by cases h.1)⟩, AW1.out⟩
  | true =>
    have hval : validB n s r = true ∧ validB m t q = true := by
      unfold readyB at hrd
      simp only [Bool.and_eq_true] at hrd
      exact ⟨hrd.1, hrd.2.1⟩
    obtain ⟨N, rfl⟩ : ∃ N : Nat, n = (N : Int) := ⟨n.toNat, by have := (validB_iff.1 hval.1).1; omega⟩
    obtain ⟨M, rfl⟩ : ∃ M : Nat, m = (M : Int) := ⟨m.toNat, by have := (validB_iff.1 hval.2).1; omega⟩
    have HRF := Lib.hid (ready_facts hrd)
    obtain ⟨PP, hPP⟩ : ∃ PP, PP = N * M + 1 := ⟨_, rfl⟩
    obtain ⟨a1o, c1, rfl⟩ := ha.len
    obtain ⟨a2o, c2, rfl⟩ := hb.len
    obtain ⟨W0, hW0⟩ : ∃ W0, W0 = ((w.alloc (.cells #[.int .i64 N, .string s, .string r] 24)).alloc (.cells #[.int .i64 M, .string t, .string q] 24)) := ⟨_, rfl⟩
    have AW0 : Hid (Below w.heap.size w W0) := by rw [hW0]; exact ((Below.refl _ _).alloc (Nat.le_refl _) _).alloc (by simp) _
    have HW0 := Lib.hid hW0
    have HRS := Lib.hid (show _ ∧ _ from ⟨ha, hb⟩)
    have HC := Lib.hid (newPebbles_yes N s r _ la M t q _ lb W0 (ha.below AW0.out (Nat.le_refl _)) (hb.below AW0.out (Nat.le_refl _)) hla hlb hs hr ht hq hrd la.length PP rfl hPP (by rw [hPP]; exact HRF.out.sz) HRF.out.sa HRF.out.ra HRF.out.sb HRF.out.rb)
    have HPP := Lib.hid hPP
    clear ha hb hla hlb hs hr ht hq hW0 hval hPP hrd
    go_enter Tryd.func34, Tryd.ntmps34
    go_wp2_with fail
    rw [← HW0.out]
    clear HW0
    refine HC.out.mono ?_
    rintro e W1 ⟨H, gf, cf, gl, cl, nn, rfl, h1, h2, h3, h4, h5, h6, h7, h8⟩
    have AW1 : Hid (Below w.heap.size w W1) := AW0.out.trans (h8.mono AW0.out.size)
    have HNE : Hid (gf ≠ H ∧ w.heap.size ≤ H) := ⟨h5, Nat.le_trans AW0.out.size h7⟩
    have HNN : Hid (nn = (N * M + 1) ^ la.length) := by rw [Hid, h4, HPP.out]
    obtain ⟨w2, hw2⟩ : ∃ w2, w2 = W1 := ⟨_, rfl⟩
    have HQ : Hid (PG w2 H N s r M t q la.length PP gf cf gl cl nn false ∧ RdB w2 gf nn (fitL N s r M t q la.length nn) ∧ RdB w2 gl nn (fitL N s r M t q la.length nn) ∧ Below w.heap.size w w2) := by rw [hw2]; exact ⟨h1, h2, h3, AW1.out⟩
    clear h1 h2 h3 h4 h5 h6 h7 h8 HC
    subst hw2
    have HT0 : Hid (Tells false (gob.gr N s r) (gob.gr M t q) la.length 0 (fitL N s r M t q la.length nn)) := by rw [Hid, HNN.out]; exact tells_fit HRF.out.sz.2.1.1
    go_wp2_with fail
    go_loopw [18] (fun _ wr => ∃ (j : Nat) (X : List Bool) (gx cx : Nat), Hid (PG wr H N s r M t q la.length PP gf cf gx cx nn false ∧ RdB wr gf nn (fitL N s r M t q la.length nn) ∧ RdB wr gx nn X ∧ Tells false (gob.gr N s r) (gob.gr M t q) la.length j X ∧ Below w.heap.size w wr)) (fun _ wx => wonN H nn wx)
    case atStart => exact ⟨0, _, gl, cl, HQ.out.1, HQ.out.2.1, HQ.out.2.2.1, HT0.out, HQ.out.2.2.2⟩
    case round =>
      clear HQ
      obtain ⟨j, X0, g0, c0, hst⟩ := hrel
      have HC := Lib.hid (turn_any H N s r M t q la.length PP gf cf g0 c0 nn false _ X0 wr hst.out.1 hst.out.2.1 hst.out.2.2.1 (by rw [HPP.out]; exact HRF.out.sz) (by rw [HNN.out, HPP.out]) HNE.out.1 (fun hm i u hi hu h0 => by
        cases hm))
      go_wp2_with fail
      refine HC.out.mono ?_
      rintro e w3 ⟨X, gx, cx, rfl, g1, g2, g3, g4, g5⟩
      have HF : Hid (PG w3 H N s r M t q la.length PP gf cf gx cx nn false ∧ RdB w3 gx nn X ∧ Below w.heap.size w w3) := ⟨g1, g3, hst.out.2.2.2.2.trans (g5.below (fun a ha => by have := HNE.out.2; omega) hst.out.2.2.2.2.size)⟩
      have HT := Lib.hid (tells_next (A := gob.gr N s r) (B := gob.gr M t q) HRF.out.sz.2.1.1 HT0.out hst.out.2.2.2.1 g4)
      have HTP := Lib.hid hst.out.2.2.2.1
      have HFF := Lib.hid g2
      have HWN : Hid (wonN H nn w3 = X.countP id ∧ wonN H nn wr = X0.countP id) := ⟨wonN_of g1 g3, wonN_of hst.out.1 hst.out.2.2.1⟩
      clear g1 g2 g3 g4 g5 hst HC
      obtain ⟨bE, hbE⟩ : ∃ bE, bE = decide (X = X0) := ⟨_, rfl⟩
      rw [← hbE]
      have HBE := Lib.hid hbE
      clear hbE
      cases bE with
      | false =>
        have HNX : Hid (X ≠ X0) := of_decide_eq_false (p := X = X0) HBE.out.symm
        have HM : Hid (wonN H nn w3 < wonN H nn wr) := by
          obtain ⟨l1, l2⟩ := tells_less HTP.out HT.out
          rw [Hid, HWN.out.1, HWN.out.2]
          exact (count_less l1 l2).2 HNX.out
        have HN : Hid (PG w3 H N s r M t q la.length PP gf cf gx cx nn false ∧ RdB w3 gf nn (fitL N s r M t q la.length nn) ∧ RdB w3 gx nn X ∧ Tells false (gob.gr N s r) (gob.gr M t q) la.length (j + 1) X ∧ Below w.heap.size w w3) := ⟨HF.out.1, HFF.out, HF.out.2.1, HT.out, HF.out.2.2⟩
        clear HF HT HTP HFF HWN
        go_wp2
        go_roundw
        case rel => exact ⟨j + 1, X, gx, cx, HN.out⟩
        case measure => exact HM.out
      | true =>
        have HXX : Hid (X = X0) := of_decide_eq_true (p := X = X0) HBE.out.symm
        obtain ⟨ST, hST⟩ : ∃ ST, ST = stOf N M (plc la) (plc lb) := ⟨_, rfl⟩
        have HSP := Lib.hid (stOf_pos (N := N) (M := M) (k := la.length) HRF.out.sz.2.1.1 (ps := plc la) (qs := plc lb) (plc_len _) (by rw [plc_len, plc_len, HRF.out.len]) HRF.out.lay)
        have hlt : ST < nn := by rw [hST, HNN.out]; exact HSP.out.1
        obtain ⟨bv, hbv⟩ : ∃ bv, bv = X.getD ST false := ⟨_, rfl⟩
        have HB : Hid (w3.cell? ⟨gx, ST, none⟩ = some (.bool bv)) := by rw [hbv]; exact HF.out.2.1.cell ST hlt
        have HRES : Hid (bv = true ↔ ∀ k, gameW false (gob.gr N s r) (gob.gr M t q) k (plc la) (plc lb)) := by
          rw [hbv, hST]
          have h := tells_stop (A := gob.gr N s r) (B := gob.gr M t q) HRF.out.sz.2.1.1 (by have := HTP.out; rw [← HXX.out] at this; exact this) HT.out (s := stOf N M (plc la) (plc lb)) (by rw [HT.out.1]; exact HSP.out.1)
          have e1 : posA (gob.gr N s r).n (gob.gr M t q).n la.length (stOf N M (plc la) (plc lb)) = plc la := HSP.out.2.1
          have e2 : posB (gob.gr N s r).n (gob.gr M t q).n la.length (stOf N M (plc la) (plc lb)) = plc lb := HSP.out.2.2
          rw [e1, e2] at h
          exact h
        have HD : Hid (Below w.heap.size w w3.drew) := HF.out.2.2.drew
        have HST := Lib.hid hST
        clear hST hbv
        go_upto_region 5 with (fail)
        have q0 : ∀ QQ : Wd (fun Q => Q.cell? ⟨H, 9, none⟩ = some (.slice (some ⟨gx, 0, none⟩) nn cx) ∧ Q.cell? ⟨gx, ST, none⟩ = some (.bool bv)), QQ.w.cell? ⟨H, 9, none⟩ = some (.slice (some ⟨gx, 0, none⟩) nn cx) := fun QQ => QQ.ok.1
        have q1 : ∀ QQ : Wd (fun Q => Q.cell? ⟨H, 9, none⟩ = some (.slice (some ⟨gx, 0, none⟩) nn cx) ∧ Q.cell? ⟨gx, ST, none⟩ = some (.bool bv)), QQ.w.cell? ⟨gx, ST, none⟩ = some (.bool bv) := fun QQ => QQ.ok.2
        have hne : Nonempty (Wd (fun Q => Q.cell? ⟨H, 9, none⟩ = some (.slice (some ⟨gx, 0, none⟩) nn cx) ∧ Q.cell? ⟨gx, ST, none⟩ = some (.bool bv))) := ⟨⟨w3, ⟨HF.out.1.c9, HB.out⟩⟩⟩
        go_wp2_with fail
        refine chain (S := (fun Q => Q.cell? ⟨H, 9, none⟩ = some (.slice (some ⟨gx, 0, none⟩) nn cx) ∧ Q.cell? ⟨gx, ST, none⟩ = some (.bool bv))) [([true, true, true, true, true, true, true], 7)] [false, false, false, false, false, false, false, false, true, true, true] (by kernel_rfl) (by kernel_rfl) (by kernel_rfl) ⟨HF.out.1.c9, HB.out⟩ ?_
        simp only [wpSegs, pickB, List.dropLast_cons_cons, List.dropLast_singleton, List.getLast?_cons_cons, List.getLast?_singleton, List.toList_toArray, List.getElem?_toArray, List.getElem?_cons_succ, List.getElem?_cons_zero, Option.toList_some]
        repeat (go_big_quiet_step (fail))
        refine wpQuiet_nil ?_
        intro K hK
        go_wp2_with fail
        refine (stateOf_any H N s r M t q la.length PP gf cf gx cx nn false (.slice a1o la.length c1) (.slice a2o lb.length c2) (plc la) (plc lb) _ HF.out.1.drew (by rw [HPP.out]; exact HRF.out.sz) (plc_len _) (by rw [plc_len, HRF.out.len]) HRF.out.lay (by rw [HRF.out.a]; exact HRS.out.1.below HD.out (Nat.le_refl _)) (by rw [HRF.out.b]; exact HRS.out.2.below HD.out (Nat.le_refl _))).mono ?_
        rintro e w4 ⟨rfl, hw4⟩
        rw [← HST.out]
        have H9 : Hid (w4.cell? ⟨H, 9, none⟩ = some (.slice (some ⟨gx, 0, none⟩) nn cx)) := ins.keepCell hw4 HF.out.1.drew.c9
        have HV : Hid (w4.cell? ⟨gx, ST, none⟩ = some (.bool bv)) := ins.keepCell hw4 HB.out
        have A4 : Hid (Below w.heap.size w w4) := HD.out.trans (hw4.mono HD.out.size)
        clear hw4
        go_wp2_with fail
        refine hK _ _ ⟨H9.out, HV.out⟩ ?_
        clear hK K
        repeat (go_big_quiet_step (fail))
        refine wpQuiet_nil ?_
        clear q0 q1 hne
        go_wp2
        go_ret
        refine ⟨bv, rfl, ?_, A4.out⟩
        exact HRES.out.trans ⟨fun h => ⟨trivial, h⟩, fun h => h.2⟩
end Go.Proofs.YtpcnoiigbmiejaaDoor.pbi
