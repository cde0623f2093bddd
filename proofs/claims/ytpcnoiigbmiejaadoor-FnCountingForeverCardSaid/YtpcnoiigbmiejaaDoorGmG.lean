/- l8Game of the reference. -/
import Derived.Test.YtpcnoiigbmiejaaDoorPkG
import Derived.Test.YtpcnoiigbmiejaaDoorCwL
namespace Go.Proofs.YtpcnoiigbmiejaaDoor.pbi
set_option linter.unusedVariables false
set_option linter.unusedSimpArgs false
open Go.ChangeShapes Go.WideShapes Go.ChangeAt Go.RowKit
open Go.Proofs.YtpcnoiigbmiejaaDoor.lib Go.Proofs.YtpcnoiigbmiejaaDoor.st Go.Proofs.YtpcnoiigbmiejaaDoor.flow Go.Proofs.YtpcnoiigbmiejaaDoor.chain Go.Proofs.YtpcnoiigbmiejaaDoor.base Go.Proofs.YtpcnoiigbmiejaaDoor.fits Go.Proofs.YtpcnoiigbmiejaaDoor.still Go.Proofs.YtpcnoiigbmiejaaDoor.gow Go.Proofs.YtpcnoiigbmiejaaDoor.peb Go.Proofs.YtpcnoiigbmiejaaDoor.tab Go.Proofs.YtpcnoiigbmiejaaDoor.make Go.Proofs.YtpcnoiigbmiejaaDoor.near Go.Proofs.YtpcnoiigbmiejaaDoor.game
/-- under way in l8Game: both structures, both lists of numbers -/
structure GW (N : Nat) (s r : ByteArray) (M : Nat) (t q : ByteArray) (w : World) (KX KY gx gy : Nat) (xs ys : List Nat) (W : World) : Prop where
  bel : Below w.heap.size w W
  ba : Box 24 W w.heap.size N s r
  bb : Box 24 W (w.heap.size + 1) M t q
  ox : OwnI 3 W (w.heap.size + 2) (.slice (some ⟨gx, 0, none⟩) KX KX) (ints xs)
  oy : OwnI 3 W (w.heap.size + 2) (.slice (some ⟨gy, 0, none⟩) KY KY) (ints ys)
/-- both structures, a table at T whose blocks are D -/
structure GT (N : Nat) (s r : ByteArray) (M : Nat) (t q : ByteArray) (w : World) (gl cl gc cc T : Nat) (W : World) (D : Nat → Prop) (L : List ByteArray) (vs : List Value) : Prop where
  tab : TabP gl cl gc cc W D L vs
  bel : Below w.heap.size w W
  ba : Box 24 W w.heap.size N s r
  bb : Box 24 W (w.heap.size + 1) M t q
  c0 : W.cell? ⟨T, 0, none⟩ = some (.slice (some ⟨gl, 0, none⟩) 997 cl)
  c1 : W.cell? ⟨T, 1, none⟩ = some (.slice (some ⟨gc, 0, none⟩) 1 cc)
  dl : ∀ k, D k → w.heap.size + 2 ≤ k
  nt : ¬ D T
section
variable {N M gl cl gc cc TT : Nat} {s r t q : ByteArray} {w W W' : World} {D D' : Nat → Prop} {L L' : List ByteArray} {vs vs' : List Value} {KX KY gx gy : Nat} {xs ys : List Nat}
theorem GT.step (h : GT N s r M t q w gl cl gc cc TT W D L vs) (ht : TabP gl cl gc cc W' D' L' vs') (ho : Out D W W') (hd : ∀ k, D' k → D k ∨ W.heap.size ≤ k) : GT N s r M t q w gl cl gc cc TT W' D' L' vs' where
  tab := ht
  bel := h.bel.trans (ho.below (fun k hk => by have := h.dl k hk; omega) h.bel.size)
  c0 := ho.cell h.c0 h.nt
  c1 := ho.cell h.c1 h.nt
  ba := (ho.block _ h.ba.lt (fun hd => by have := h.dl _ hd; omega)).trans h.ba
  bb := (ho.block _ h.bb.lt (fun hd => by have := h.dl _ hd; omega)).trans h.bb
  dl := fun k hk => by
    rcases hd k hk with e | e
    · exact h.dl k e
    · have := h.bb.lt; omega
  nt := fun e => by
    have : TT < W.heap.size := World.block_lt_of_cell? W ⟨TT, 0, none⟩ h.c0
    rcases hd TT e with e | e
    · exact h.nt e
    · omega
/-- a fresh table -/
theorem GT.new {w1 : World} (hbel : Below w.heap.size w W) (hba : Box 24 W w.heap.size N s r) (hbb : Box 24 W (w.heap.size + 1) M t q) (htab : TabP gl cl gc cc w1 D [] vs) (hb : Below W.heap.size W w1) (hD : ∀ k, D k → W.heap.size ≤ k) (hT : TT = w1.heap.size) :
    GT N s r M t q w gl cl gc cc TT (w1.alloc (.cells #[.slice (some ⟨gl, 0, none⟩) 997 cl, .slice (some ⟨gc, 0, none⟩) 1 cc] 105)) D [] vs := by
  have hw3 : Below w1.heap.size w1 (w1.alloc (.cells #[.slice (some ⟨gl, 0, none⟩) 997 cl, .slice (some ⟨gc, 0, none⟩) 1 cc] 105)) := (Below.refl _ _).alloc (Nat.le_refl _) _
  have h23 := hb.trans (hw3.mono hb.size)
  have hz := hbb.lt
  refine ⟨htab.below hw3 (Nat.le_refl _), hbel.trans (h23.mono hbel.size), hba.below h23 hba.lt, hbb.below h23 hbb.lt, ?_, ?_, fun k hk => by have := hD k hk; omega, fun e => by have := htab.lt _ e; omega⟩
  · rw [hT]; simp
  · rw [hT]; simp
theorem new_below {w1 : World} (hb : Below W.heap.size W w1) : Below W.heap.size W (w1.alloc (.cells #[.slice (some ⟨gl, 0, none⟩) 997 cl, .slice (some ⟨gc, 0, none⟩) 1 cc] 105)) := hb.trans (((Below.refl w1.heap.size w1).alloc (Nat.le_refl _) _).mono hb.size)
end
theorem lev_small {A B : Gr} {k n K : Nat} {xs ys : List Nat} (h : LevAt A B k n K xs ys) (hA : A.n ≤ 8) (hB : B.n ≤ 8) (hk : k ≤ 3) : ∀ x, x ∈ xs ++ ys → x ≤ 1458 := fun x hx => by
  obtain ⟨i, hi, rfl⟩ := List.mem_iff_getElem.1 hx
  have h1 := h.full.1 i hi
  have h2 := h.le
  have a := pow_small hA hk
  have b := pow_small hB hk
  have h1 : (xs ++ ys).getD i 0 < K := h1
  rw [List.getD_eq_getElem?_getD, List.getElem?_eq_getElem hi] at h1
  have h1 : (xs ++ ys)[i] < K := h1
  omega
theorem slice_block {g a b : Nat} {D : Nat → Prop} {W : World} (h1 : ¬ D g) (h2 : g < W.heap.size) : ∀ g', (Value.slice (some ⟨g, 0, none⟩) a b).ownBlock = some g' → ¬ D g' ∧ g' < W.heap.size := fun g' h => by
  cases h; exact ⟨h1, h2⟩

set_option maxHeartbeats 6400000 in
set_option maxRecDepth 100000 in
theorem l8Game_any (N : Nat) (s r : ByteArray) (va : Value) (ps : List Nat) (M : Nat) (t q : ByteArray) (vb : Value) (qs : List Nat) (k TT : Nat) (w : World) (hsa : Sc N s r) (hsb : Sc M t q) (ha : Reads w va (pbs ps)) (hb : Reads w vb (pbs qs)) (hk1 : 1 ≤ k) (hk3 : k ≤ 3) (hps : ps.length = k) (hqs : qs.length = k) (hp : ∀ p, p ∈ ps → p ≤ N) (hq : ∀ p, p ∈ qs → p ≤ M) (hT : TT ≤ 4 ∨ TT = 2000) :
    Calls Tryd.prog 68 #[.agg #[.int .i64 N, .string s, .string r], va, .agg #[.int .i64 M, .string t, .string q], vb, .int .i64 TT] w fun e w' => ∃ b : Bool, e = .returned (.bool b) ∧ Ans (gob.gr N s r) (gob.gr M t q) TT (TT = 2000) ps qs b ∧ Below w.heap.size w w' := by
  have hN8 := hsa.1
  have hM8 := hsb.1
  obtain ⟨KX, hKX⟩ : ∃ K, K = (N + 1) ^ k := ⟨_, rfl⟩
  obtain ⟨KY, hKY⟩ : ∃ K, K = (M + 1) ^ k := ⟨_, rfl⟩
  have hX9 : KX ≤ 729 := by rw [hKX]; exact pow_small hN8 hk3
  have hY9 : KY ≤ 729 := by rw [hKY]; exact pow_small hM8 hk3
  have HKK := Lib.hid (show _ ∧ _ from ⟨hKX, hKY⟩)
  have HAB := Lib.hid (show _ ∧ _ from ⟨ha, hb⟩)
  have HPQ := Lib.hid (show _ ∧ _ ∧ _ ∧ _ from ⟨hps, hqs, hp, hq⟩)
  have HSA := Lib.hid hsa
  have HSB := Lib.hid hsb
  have HT := Lib.hid hT
  have hTb : TT ≤ 2000 := by omega
  have HPL : Hid (Pl (gob.gr N s r) k ps ∧ Pl (gob.gr M t q) k qs) := ⟨⟨hps, ok_iff.2 hp⟩, ⟨hqs, ok_iff.2 hq⟩⟩
  obtain ⟨ao, ca, hva⟩ : ∃ ao c, va = .slice ao k c := by
    obtain ⟨ao, c, h, _⟩ := ha
    rw [pbs_len, hps] at h
    exact ⟨ao, c, h⟩
  subst hva
  obtain ⟨W2, hW2⟩ : ∃ QZ, QZ = (w.alloc (.cells #[.int .i64 N, .string s, .string r] 24)).alloc (.cells #[.int .i64 M, .string t, .string q] 24) := ⟨_, rfl⟩
  have HB2 : Hid (Box 24 W2 w.heap.size N s r ∧ Box 24 W2 (w.heap.size + 1) M t q ∧ Below w.heap.size w W2) := by
    rw [hW2]
    exact ⟨(Box.new 24 w _ rfl N s r).below ((Below.refl _ _).alloc (Nat.le_refl _) _) (Box.new 24 w _ rfl N s r).lt, Box.new 24 _ _ (by simp) M t q, ((Below.refl _ _).alloc (Nat.le_refl _) _).alloc (by simp) _⟩
  have HW2 := Lib.hid hW2
  clear hsa hsb ha hb hps hqs hp hq hT hKX hKY hW2
  go_enter Tryd.func68, Tryd.ntmps68
  go_wp2_with fail
  rw [← HW2.out]
  clear HW2
  refine (new_any _).mono ?_
  rintro er w1 ⟨gl, cl, gc, cc, D, vs, rfl, htab, hb, hD⟩
  obtain ⟨TA, hTA⟩ : ∃ T, T = w1.heap.size := ⟨_, rfl⟩
  have HG0 := Lib.hid (GT.new HB2.out.2.2 HB2.out.1 HB2.out.2.1 htab hb hD hTA)
  obtain ⟨W3, hW3⟩ : ∃ W3, W3 = w1.alloc (.cells #[.slice (some ⟨gl, 0, none⟩) 997 cl, .slice (some ⟨gc, 0, none⟩) 1 cc] 105) := ⟨_, rfl⟩
  rw [← hW3] at HG0
  have HW3 := Lib.hid hW3
  have c0 := HG0.out.c0
  have c1 := HG0.out.c1
  obtain ⟨a0, a1, a2⟩ := HG0.out.ba.c
  clear htab hb hD hW3 HB2
  unfold tv
  go_upto_region 2 with (fail)
  rw [← hTA, ← HW3.out]
  clear hTA
  go_wp2_with fail
  clear c0 c1 a0 a1 a2 HW3
  have hc := l7Start_any gl cl gc cc N s r k W3 D [] vs HSA.out hk1 hk3 HG0.out.tab (by simp)
  unfold tv at hc
  refine hc.mono ?_
  clear hc
  rintro er V1 ⟨gx, xs, L1, D1, vs1, rfl, hox, hnd, hdone, htab, hout, hd⟩
  rw [← HKK.out.1] at hox ⊢
  have HG1 := Lib.hid (HG0.out.step htab hout hd)
  have HX1 : Hid (OwnI 3 V1 (w.heap.size + 2) (.slice (some ⟨gx, 0, none⟩) KX KX) (ints xs) ∧ ¬ D1 gx) := ⟨hox.mono (by have := HG0.out.bb.lt; omega), hnd⟩
  have HD1 := Lib.hid hdone
  have hL1 : L1.length ≤ 5000 := by have h := hdone.grow; rw [TL_len, ← HKK.out.1] at h; simp [TL] at h; omega
  clear hox hnd hdone htab hout hd HG0
  have c0 := HG1.out.c0
  have c1 := HG1.out.c1
  obtain ⟨a0, a1, a2⟩ := HG1.out.bb.c
  go_wp2_with fail
  clear c0 c1 a0 a1 a2
  have hc := l7Start_any gl cl gc cc M t q k V1 D1 L1 vs1 HSB.out hk1 hk3 HG1.out.tab hL1
  unfold tv at hc
  refine hc.mono ?_
  clear hc hL1
  rintro er V2 ⟨gy, ys, L2, D2, vs2, rfl, hoy, hnd, hdone, htab, hout, hd⟩
  rw [← HKK.out.2] at hoy ⊢
  have HG2 := Lib.hid (HG1.out.step htab hout hd)
  have GW2 : Hid (GW N s r M t q w KX KY gx gy xs ys V2) := ⟨HG2.out.bel, HG2.out.ba, HG2.out.bb, hout.owns HX1.out.1 (fun g hg => by cases hg; exact HX1.out.2), hoy.mono (by have := HG1.out.bb.lt; omega)⟩
  have GM0 : Hid (Gm (gob.gr N s r) (gob.gr M t q) k 0 (TT = 2000) xs ys) := Gm.start (TL_nodup htab.nodup) HD1.out hdone
  clear hoy hnd hdone htab hout hd HG1 HX1 HD1 HG2
  go_wp2_with fail
  go_loopw [12, 13, 14] (fun xv yv nv wr => ∃ (n gx gy : Nat) (xs ys : List Nat), n ≤ TT ∧ nv = .int .i64 n ∧ xv = .slice (some ⟨gx, 0, none⟩) KX KX ∧ yv = .slice (some ⟨gy, 0, none⟩) KY KY ∧ Hid (GW N s r M t q w KX KY gx gy xs ys wr) ∧ Hid (Gm (gob.gr N s r) (gob.gr M t q) k n (TT = 2000) xs ys)) (fun _ _ nv _ => TT - (intOf nv).toNat)
  case atStart => exact ⟨0, gx, gy, xs, ys, Nat.zero_le _, rfl, rfl, rfl, GW2.out, GM0.out⟩
  case round =>
    clear GW2 GM0
    obtain ⟨n, gx, gy, xs, ys, hn, rfl, rfl, rfl, HGW, HGM⟩ := hrel
    by_cases hlt : n < TT
    · have x1 : (n : Int) < (TT : Int) := by omega
      have HLT := Lib.hid hlt
      clear hlt
      go_wp2_with fail
      refine (new_any _).mono ?_
      rintro er w1 ⟨gl, cl, gc, cc, D, vs, rfl, htab, hb, hD⟩
      obtain ⟨TA, hTA⟩ : ∃ T, T = w1.heap.size := ⟨_, rfl⟩
      have HG0 := Lib.hid (GT.new HGW.out.bel HGW.out.ba HGW.out.bb htab hb hD hTA)
      have hb3 := new_below (gl := gl) (cl := cl) (gc := gc) (cc := cc) hb
      have hgx := HGW.out.ox.ge
      have hgy := HGW.out.oy.ge
      have HL0 : Hid ((OwnI 3 (w1.alloc (.cells #[.slice (some ⟨gl, 0, none⟩) 997 cl, .slice (some ⟨gc, 0, none⟩) 1 cc] 105)) (w.heap.size + 2) (.slice (some ⟨gx, 0, none⟩) KX KX) (ints xs) ∧ ¬ D gx) ∧ (OwnI 3 (w1.alloc (.cells #[.slice (some ⟨gl, 0, none⟩) 997 cl, .slice (some ⟨gc, 0, none⟩) 1 cc] 105)) (w.heap.size + 2) (.slice (some ⟨gy, 0, none⟩) KY KY) (ints ys) ∧ ¬ D gy)) := ⟨⟨HGW.out.ox.below hb3 (Nat.le_refl _), fun h => by have := hD _ h; omega⟩, ⟨HGW.out.oy.below hb3 (Nat.le_refl _), fun h => by have := hD _ h; omega⟩⟩
      obtain ⟨W3, hW3⟩ : ∃ W3, W3 = w1.alloc (.cells #[.slice (some ⟨gl, 0, none⟩) 997 cl, .slice (some ⟨gc, 0, none⟩) 1 cc] 105) := ⟨_, rfl⟩
      rw [← hW3] at HG0 HL0
      have HW3 := Lib.hid hW3
      have c0 := HG0.out.c0
      have c1 := HG0.out.c1
      obtain ⟨a0, a1, a2⟩ := HG0.out.ba.c
      have HLX : Hid ((xs.length = (N + 1) ^ k ∧ ys.length = (M + 1) ^ k) ∧ (∀ x, x ∈ xs → x ≤ 1500) ∧ ∀ x, x ∈ ys → x ≤ 1500) := by
        have h := lev_small HGM.out.1 hN8 hM8 hk3
        exact ⟨⟨HGM.out.1.lx, HGM.out.1.ly⟩, fun x hx => by have := h x (List.mem_append.2 (.inl hx)); omega, fun x hx => by have := h x (List.mem_append.2 (.inr hx)); omega⟩
      clear htab hb hD hW3 hb3 hgx hgy
      unfold tv
      go_upto_region 8 with (fail)
      rw [← hTA, ← HW3.out]
      clear hTA
      go_wp2_with fail
      clear c0 c1 a0 a1 a2 HW3
      have hc := l8Turn_any gl cl gc cc N s r (.slice (some ⟨gx, 0, none⟩) KX KX) xs k W3 D [] vs HSA.out hk1 hk3 HG0.out.tab (by simp) HL0.out.1.1.reads (slice_block HL0.out.1.2 HL0.out.1.1.ge.2) HLX.out.1.1 HLX.out.2.1
      unfold tv at hc
      refine hc.mono ?_
      clear hc
      rintro er V1 ⟨gx2, xs2, L1, D1, vs1, rfl, hox, hnd, hdone, htab, hout, hd⟩
      rw [← HKK.out.1] at hox ⊢
      have HG1 := Lib.hid (HG0.out.step htab hout hd)
      have HX1 : Hid (OwnI 3 V1 (w.heap.size + 2) (.slice (some ⟨gx2, 0, none⟩) KX KX) (ints xs2) ∧ ¬ D1 gx2) := ⟨hox.mono (by have := HG0.out.bb.lt; omega), hnd⟩
      have HL1 : Hid ((OwnI 3 V1 (w.heap.size + 2) (.slice (some ⟨gx, 0, none⟩) KX KX) (ints xs) ∧ ¬ D1 gx) ∧ (OwnI 3 V1 (w.heap.size + 2) (.slice (some ⟨gy, 0, none⟩) KY KY) (ints ys) ∧ ¬ D1 gy)) := by
        have g1 := HL0.out.1.1.ge
        have g2 := HL0.out.2.1.ge
        exact ⟨⟨hout.owns HL0.out.1.1 (fun g hg => by cases hg; exact HL0.out.1.2), fun h => (hd _ h).elim HL0.out.1.2 (fun e => by omega)⟩, ⟨hout.owns HL0.out.2.1 (fun g hg => by cases hg; exact HL0.out.2.2), fun h => (hd _ h).elim HL0.out.2.2 (fun e => by omega)⟩⟩
      have HD1 := Lib.hid hdone
      have hL1 : L1.length ≤ 5000 := by have h := hdone.grow; rw [TL_len, ← HKK.out.1] at h; simp [TL] at h; omega
      clear hox hnd hdone htab hout hd HG0 HL0
      have c0 := HG1.out.c0
      have c1 := HG1.out.c1
      obtain ⟨a0, a1, a2⟩ := HG1.out.bb.c
      go_wp2_with fail
      clear c0 c1 a0 a1 a2
      have hc := l8Turn_any gl cl gc cc M t q (.slice (some ⟨gy, 0, none⟩) KY KY) ys k V1 D1 L1 vs1 HSB.out hk1 hk3 HG1.out.tab hL1 HL1.out.2.1.reads (slice_block HL1.out.2.2 HL1.out.2.1.ge.2) HLX.out.1.2 HLX.out.2.2
      unfold tv at hc
      refine hc.mono ?_
      clear hc hL1
      rintro er V2 ⟨gy2, ys2, L2, D2, vs2, rfl, hoy, hnd, hdone, htab, hout, hd⟩
      rw [← HKK.out.2] at hoy ⊢
      have HG2 := Lib.hid (HG1.out.step htab hout hd)
      have GWO : Hid (GW N s r M t q w KX KY gx gy xs ys V2) := ⟨HG2.out.bel, HG2.out.ba, HG2.out.bb, hout.owns HL1.out.1.1 (fun g hg => by cases hg; exact HL1.out.1.2), hout.owns HL1.out.2.1 (fun g hg => by cases hg; exact HL1.out.2.2)⟩
      have GWN : Hid (GW N s r M t q w KX KY gx2 gy2 xs2 ys2 V2) := ⟨HG2.out.bel, HG2.out.ba, HG2.out.bb, hout.owns HX1.out.1 (fun g hg => by cases hg; exact HX1.out.2), hoy.mono (by have := HG1.out.bb.lt; omega)⟩
      have HNX : Hid (LevAt (gob.gr N s r) (gob.gr M t q) k (n + 1) (kindsL (xs2 ++ ys2)) xs2 ys2) := gm_next (TL_nodup htab.nodup) HGM.out HD1.out hdone
      clear hoy hnd hdone htab hout hd HG1 HX1 HD1 HG2 HL1
      by_cases h4 : TT = 2000
      · have x2 : (4 : Int) < (TT : Int) := by omega
        have x3 : decide ((4 : Int) < (TT : Int)) = true := decide_eq_true x2
        have HLN : Hid ((xs2.length ≤ 1000 ∧ ys2.length ≤ 1000 ∧ ∀ x, x ∈ xs2 ++ ys2 → x ≤ 1000000) ∧ (xs.length ≤ 1000 ∧ ys.length ≤ 1000 ∧ ∀ x, x ∈ xs ++ ys → x ≤ 1000000)) := by
          have h1 := HNX.out.lx
          have h2 := HNX.out.ly
          have h3 := HLX.out.1
          have ka : (N + 1) ^ k ≤ 729 := by rw [← HKK.out.1]; exact hX9
          have kb : (M + 1) ^ k ≤ 729 := by rw [← HKK.out.2]; exact hY9
          have h1 : xs2.length = (N + 1) ^ k := h1
          have h2 : ys2.length = (M + 1) ^ k := h2
          exact ⟨⟨by omega, by omega, fun x hx => by have := lev_small HNX.out hN8 hM8 hk3 x hx; omega⟩, ⟨by omega, by omega, fun x hx => by have := lev_small HGM.out.1 hN8 hM8 hk3 x hx; omega⟩⟩
        have HT4 := Lib.hid h4
        clear h4 HGW HLX
        go_wp2_with fail
        refine (l7Kinds_any _ _ xs2 ys2 _ GWN.out.ox.reads GWN.out.oy.reads HLN.out.1.1 HLN.out.1.2.1 HLN.out.1.2.2).mono ?_
        rintro er V3 ⟨rfl, hb⟩
        have GWO3 : Hid (GW N s r M t q w KX KY gx gy xs ys V3) := ⟨GWO.out.bel.trans (hb.mono GWO.out.bel.size), GWO.out.ba.below hb GWO.out.ba.lt, GWO.out.bb.below hb GWO.out.bb.lt, GWO.out.ox.below hb (Nat.le_refl _), GWO.out.oy.below hb (Nat.le_refl _)⟩
        have GWN3 : Hid (GW N s r M t q w KX KY gx2 gy2 xs2 ys2 V3) := ⟨GWN.out.bel.trans (hb.mono GWN.out.bel.size), GWN.out.ba.below hb GWN.out.ba.lt, GWN.out.bb.below hb GWN.out.bb.lt, GWN.out.ox.below hb (Nat.le_refl _), GWN.out.oy.below hb (Nat.le_refl _)⟩
        clear hb GWO GWN
        go_wp2_with fail
        refine (l7Kinds_any _ _ xs ys _ GWO3.out.ox.reads GWO3.out.oy.reads HLN.out.2.1 HLN.out.2.2.1 HLN.out.2.2.2).mono ?_
        rintro er V4 ⟨rfl, hb⟩
        have GWO4 : Hid (GW N s r M t q w KX KY gx gy xs ys V4) := ⟨GWO3.out.bel.trans (hb.mono GWO3.out.bel.size), GWO3.out.ba.below hb GWO3.out.ba.lt, GWO3.out.bb.below hb GWO3.out.bb.lt, GWO3.out.ox.below hb (Nat.le_refl _), GWO3.out.oy.below hb (Nat.le_refl _)⟩
        have GWN4 : Hid (GW N s r M t q w KX KY gx2 gy2 xs2 ys2 V4) := ⟨GWN3.out.bel.trans (hb.mono GWN3.out.bel.size), GWN3.out.ba.below hb GWN3.out.ba.lt, GWN3.out.bb.below hb GWN3.out.bb.lt, GWN3.out.ox.below hb (Nat.le_refl _), GWN3.out.oy.below hb (Nat.le_refl _)⟩
        clear hb GWO3 GWN3 HLN
        obtain ⟨K2, hK2⟩ : ∃ K, K = kindsL (xs2 ++ ys2) := ⟨_, rfl⟩
        obtain ⟨K1, hK1⟩ : ∃ K, K = kindsL (xs ++ ys) := ⟨_, rfl⟩
        rw [← hK2, ← hK1]
        have HK12 := Lib.hid (show _ ∧ _ from ⟨hK2, hK1⟩)
        clear hK1 hK2
        by_cases hkk : K2 = K1
        · have e9 : ((K2 : Int) == (K1 : Int)) = true := by simp; omega
          have HEK : Hid (kindsL (xs2 ++ ys2) = kindsL (xs ++ ys)) := by rw [Hid, ← HK12.out.1, ← HK12.out.2]; exact hkk
          clear hkk
          obtain ⟨J1, hJ1⟩ : ∃ J, J = idx N ps := ⟨_, rfl⟩
          obtain ⟨J2, hJ2⟩ : ∃ J, J = idx M qs := ⟨_, rfl⟩
          have hj1 : J1 < KX := by rw [hJ1, HKK.out.1]; exact idx_lt N k ps HPQ.out.1 HPQ.out.2.2.1
          have hj2 : J2 < KY := by rw [hJ2, HKK.out.2]; exact idx_lt M k qs HPQ.out.2.1 HPQ.out.2.2.2
          obtain ⟨z1, hz1⟩ : ∃ z, z = xs.getD J1 0 := ⟨_, rfl⟩
          obtain ⟨z2, hz2⟩ : ∃ z, z = ys.getD J2 0 := ⟨_, rfl⟩
          have HZ : Hid ((z1 = peb.numOf N xs ps ∧ z2 = peb.numOf M ys qs) ∧ J1 = idx N ps ∧ J2 = idx M qs) := ⟨⟨by rw [hz1, hJ1]; rfl, by rw [hz2, hJ2]; rfl⟩, hJ1, hJ2⟩
          have e1 : (J1 : Int) < (KX : Int) := by omega
          have e2 : (J2 : Int) < (KY : Int) := by omega
          have HC : Hid (V4.drew.cell? ⟨gx, J1, none⟩ = some (.int .i64 (z1 : Nat)) ∧ V4.drew.cell? ⟨gy, J2, none⟩ = some (.int .i64 (z2 : Nat)) ∧ Box 24 V4.drew w.heap.size N s r ∧ Box 24 V4.drew (w.heap.size + 1) M t q ∧ Below w.heap.size w V4.drew) := by
            have h1 := GWO4.out.ox.cell J1 (by rw [← GWO4.out.ox.len]; exact hj1)
            have h2 := GWO4.out.oy.cell J2 (by rw [← GWO4.out.oy.len]; exact hj2)
            rw [ints_get, ← hz1] at h1
            rw [ints_get, ← hz2] at h2
            exact ⟨h1, h2, GWO4.out.ba, GWO4.out.bb, GWO4.out.bel.drew⟩
          obtain ⟨bz, hbz⟩ : ∃ bz : Bool, bz = ((z1 : Int) == (z2 : Int)) := ⟨_, rfl⟩
          have hbz2 : ((z1 : Int) == (z2 : Int)) = bz := hbz.symm
          have HV : Hid (bz = true ↔ peb.numOf N xs ps = peb.numOf M ys qs) := by
            rw [Hid, hbz, beq_iff_eq, ← HZ.out.1.1, ← HZ.out.1.2]; omega
          clear hJ1 hJ2 hj1 hj2 hz1 hz2 hbz
          have q0 : ∀ QQ : Wd (fun Q => Q.cell? ⟨w.heap.size, 0, none⟩ = some (.int .i64 N) ∧ Q.cell? ⟨w.heap.size, 1, none⟩ = some (.string s) ∧ Q.cell? ⟨w.heap.size, 2, none⟩ = some (.string r) ∧ Q.cell? ⟨w.heap.size + 1, 0, none⟩ = some (.int .i64 M) ∧ Q.cell? ⟨w.heap.size + 1, 1, none⟩ = some (.string t) ∧ Q.cell? ⟨w.heap.size + 1, 2, none⟩ = some (.string q) ∧ Q.cell? ⟨gx, J1, none⟩ = some (.int .i64 (z1 : Nat)) ∧ Q.cell? ⟨gy, J2, none⟩ = some (.int .i64 (z2 : Nat))), QQ.w.cell? ⟨w.heap.size, 0, none⟩ = some (.int .i64 N) := fun QQ => QQ.ok.1
          have q1 : ∀ QQ : Wd (fun Q => Q.cell? ⟨w.heap.size, 0, none⟩ = some (.int .i64 N) ∧ Q.cell? ⟨w.heap.size, 1, none⟩ = some (.string s) ∧ Q.cell? ⟨w.heap.size, 2, none⟩ = some (.string r) ∧ Q.cell? ⟨w.heap.size + 1, 0, none⟩ = some (.int .i64 M) ∧ Q.cell? ⟨w.heap.size + 1, 1, none⟩ = some (.string t) ∧ Q.cell? ⟨w.heap.size + 1, 2, none⟩ = some (.string q) ∧ Q.cell? ⟨gx, J1, none⟩ = some (.int .i64 (z1 : Nat)) ∧ Q.cell? ⟨gy, J2, none⟩ = some (.int .i64 (z2 : Nat))), QQ.w.cell? ⟨w.heap.size, 1, none⟩ = some (.string s) := fun QQ => QQ.ok.2.1
          have q2 : ∀ QQ : Wd (fun Q => Q.cell? ⟨w.heap.size, 0, none⟩ = some (.int .i64 N) ∧ Q.cell? ⟨w.heap.size, 1, none⟩ = some (.string s) ∧ Q.cell? ⟨w.heap.size, 2, none⟩ = some (.string r) ∧ Q.cell? ⟨w.heap.size + 1, 0, none⟩ = some (.int .i64 M) ∧ Q.cell? ⟨w.heap.size + 1, 1, none⟩ = some (.string t) ∧ Q.cell? ⟨w.heap.size + 1, 2, none⟩ = some (.string q) ∧ Q.cell? ⟨gx, J1, none⟩ = some (.int .i64 (z1 : Nat)) ∧ Q.cell? ⟨gy, J2, none⟩ = some (.int .i64 (z2 : Nat))), QQ.w.cell? ⟨w.heap.size, 2, none⟩ = some (.string r) := fun QQ => QQ.ok.2.2.1
          have q3 : ∀ QQ : Wd (fun Q => Q.cell? ⟨w.heap.size, 0, none⟩ = some (.int .i64 N) ∧ Q.cell? ⟨w.heap.size, 1, none⟩ = some (.string s) ∧ Q.cell? ⟨w.heap.size, 2, none⟩ = some (.string r) ∧ Q.cell? ⟨w.heap.size + 1, 0, none⟩ = some (.int .i64 M) ∧ Q.cell? ⟨w.heap.size + 1, 1, none⟩ = some (.string t) ∧ Q.cell? ⟨w.heap.size + 1, 2, none⟩ = some (.string q) ∧ Q.cell? ⟨gx, J1, none⟩ = some (.int .i64 (z1 : Nat)) ∧ Q.cell? ⟨gy, J2, none⟩ = some (.int .i64 (z2 : Nat))), QQ.w.cell? ⟨w.heap.size + 1, 0, none⟩ = some (.int .i64 M) := fun QQ => QQ.ok.2.2.2.1
          have q4 : ∀ QQ : Wd (fun Q => Q.cell? ⟨w.heap.size, 0, none⟩ = some (.int .i64 N) ∧ Q.cell? ⟨w.heap.size, 1, none⟩ = some (.string s) ∧ Q.cell? ⟨w.heap.size, 2, none⟩ = some (.string r) ∧ Q.cell? ⟨w.heap.size + 1, 0, none⟩ = some (.int .i64 M) ∧ Q.cell? ⟨w.heap.size + 1, 1, none⟩ = some (.string t) ∧ Q.cell? ⟨w.heap.size + 1, 2, none⟩ = some (.string q) ∧ Q.cell? ⟨gx, J1, none⟩ = some (.int .i64 (z1 : Nat)) ∧ Q.cell? ⟨gy, J2, none⟩ = some (.int .i64 (z2 : Nat))), QQ.w.cell? ⟨w.heap.size + 1, 1, none⟩ = some (.string t) := fun QQ => QQ.ok.2.2.2.2.1
          have q5 : ∀ QQ : Wd (fun Q => Q.cell? ⟨w.heap.size, 0, none⟩ = some (.int .i64 N) ∧ Q.cell? ⟨w.heap.size, 1, none⟩ = some (.string s) ∧ Q.cell? ⟨w.heap.size, 2, none⟩ = some (.string r) ∧ Q.cell? ⟨w.heap.size + 1, 0, none⟩ = some (.int .i64 M) ∧ Q.cell? ⟨w.heap.size + 1, 1, none⟩ = some (.string t) ∧ Q.cell? ⟨w.heap.size + 1, 2, none⟩ = some (.string q) ∧ Q.cell? ⟨gx, J1, none⟩ = some (.int .i64 (z1 : Nat)) ∧ Q.cell? ⟨gy, J2, none⟩ = some (.int .i64 (z2 : Nat))), QQ.w.cell? ⟨w.heap.size + 1, 2, none⟩ = some (.string q) := fun QQ => QQ.ok.2.2.2.2.2.1
          have q6 : ∀ QQ : Wd (fun Q => Q.cell? ⟨w.heap.size, 0, none⟩ = some (.int .i64 N) ∧ Q.cell? ⟨w.heap.size, 1, none⟩ = some (.string s) ∧ Q.cell? ⟨w.heap.size, 2, none⟩ = some (.string r) ∧ Q.cell? ⟨w.heap.size + 1, 0, none⟩ = some (.int .i64 M) ∧ Q.cell? ⟨w.heap.size + 1, 1, none⟩ = some (.string t) ∧ Q.cell? ⟨w.heap.size + 1, 2, none⟩ = some (.string q) ∧ Q.cell? ⟨gx, J1, none⟩ = some (.int .i64 (z1 : Nat)) ∧ Q.cell? ⟨gy, J2, none⟩ = some (.int .i64 (z2 : Nat))), QQ.w.cell? ⟨gx, J1, none⟩ = some (.int .i64 (z1 : Nat)) := fun QQ => QQ.ok.2.2.2.2.2.2.1
          have q7 : ∀ QQ : Wd (fun Q => Q.cell? ⟨w.heap.size, 0, none⟩ = some (.int .i64 N) ∧ Q.cell? ⟨w.heap.size, 1, none⟩ = some (.string s) ∧ Q.cell? ⟨w.heap.size, 2, none⟩ = some (.string r) ∧ Q.cell? ⟨w.heap.size + 1, 0, none⟩ = some (.int .i64 M) ∧ Q.cell? ⟨w.heap.size + 1, 1, none⟩ = some (.string t) ∧ Q.cell? ⟨w.heap.size + 1, 2, none⟩ = some (.string q) ∧ Q.cell? ⟨gx, J1, none⟩ = some (.int .i64 (z1 : Nat)) ∧ Q.cell? ⟨gy, J2, none⟩ = some (.int .i64 (z2 : Nat))), QQ.w.cell? ⟨gy, J2, none⟩ = some (.int .i64 (z2 : Nat)) := fun QQ => QQ.ok.2.2.2.2.2.2.2
          have hne : Nonempty (Wd (fun Q => Q.cell? ⟨w.heap.size, 0, none⟩ = some (.int .i64 N) ∧ Q.cell? ⟨w.heap.size, 1, none⟩ = some (.string s) ∧ Q.cell? ⟨w.heap.size, 2, none⟩ = some (.string r) ∧ Q.cell? ⟨w.heap.size + 1, 0, none⟩ = some (.int .i64 M) ∧ Q.cell? ⟨w.heap.size + 1, 1, none⟩ = some (.string t) ∧ Q.cell? ⟨w.heap.size + 1, 2, none⟩ = some (.string q) ∧ Q.cell? ⟨gx, J1, none⟩ = some (.int .i64 (z1 : Nat)) ∧ Q.cell? ⟨gy, J2, none⟩ = some (.int .i64 (z2 : Nat)))) := ⟨⟨V4.drew, ⟨(Box.c HC.out.2.2.1).1, (Box.c HC.out.2.2.1).2.1, (Box.c HC.out.2.2.1).2.2, (Box.c HC.out.2.2.2.1).1, (Box.c HC.out.2.2.2.1).2.1, (Box.c HC.out.2.2.2.1).2.2, HC.out.1, HC.out.2.1⟩⟩⟩
          go_wp2_with fail
          clear e9 x3 x2 x1
          refine chain (S := (fun Q => Q.cell? ⟨w.heap.size, 0, none⟩ = some (.int .i64 N) ∧ Q.cell? ⟨w.heap.size, 1, none⟩ = some (.string s) ∧ Q.cell? ⟨w.heap.size, 2, none⟩ = some (.string r) ∧ Q.cell? ⟨w.heap.size + 1, 0, none⟩ = some (.int .i64 M) ∧ Q.cell? ⟨w.heap.size + 1, 1, none⟩ = some (.string t) ∧ Q.cell? ⟨w.heap.size + 1, 2, none⟩ = some (.string q) ∧ Q.cell? ⟨gx, J1, none⟩ = some (.int .i64 (z1 : Nat)) ∧ Q.cell? ⟨gy, J2, none⟩ = some (.int .i64 (z2 : Nat)))) [([true, true, true, false, false, false, true, true, true], 3), ([false, false, false, false, true, true], 9)] [false, false, false, false, false, false, false, false, false, false, true, true, true, true] (by kernel_rfl) (by kernel_rfl) (by kernel_rfl) ⟨(Box.c HC.out.2.2.1).1, (Box.c HC.out.2.2.1).2.1, (Box.c HC.out.2.2.1).2.2, (Box.c HC.out.2.2.2.1).1, (Box.c HC.out.2.2.2.1).2.1, (Box.c HC.out.2.2.2.1).2.2, HC.out.1, HC.out.2.1⟩ ?_
          simp only [wpSegs, pickB, List.dropLast_cons_cons, List.dropLast_singleton, List.getLast?_cons_cons, List.getLast?_singleton, List.toList_toArray, List.getElem?_toArray, List.getElem?_cons_succ, List.getElem?_cons_zero, Option.toList_some]
          repeat (go_big_quiet_step (fail))
          refine wpQuiet_nil ?_
          intro K hK
          go_wp2_with fail
          have hi1 := l7Index_any N s r (.slice ao k ca) ps V4.drew hN8 (HAB.out.1.below HC.out.2.2.2.2 (Nat.le_refl _)) (by rw [HPQ.out.1]; exact hk3) HPQ.out.2.2.1
          refine hi1.mono ?_
          clear hi1
          rintro er Z1 ⟨rfl, hb⟩
          rw [← HZ.out.2.1]
          have HC1 : Hid (Z1.cell? ⟨gx, J1, none⟩ = some (.int .i64 (z1 : Nat)) ∧ Z1.cell? ⟨gy, J2, none⟩ = some (.int .i64 (z2 : Nat)) ∧ Box 24 Z1 w.heap.size N s r ∧ Box 24 Z1 (w.heap.size + 1) M t q ∧ Below w.heap.size w Z1) := ⟨ins.keepCell hb HC.out.1, ins.keepCell hb HC.out.2.1, HC.out.2.2.1.below hb HC.out.2.2.1.lt, HC.out.2.2.2.1.below hb HC.out.2.2.2.1.lt, HC.out.2.2.2.2.trans (hb.mono HC.out.2.2.2.2.size)⟩
          clear hb
          go_wp2_with fail
          refine hK _ _ ⟨(Box.c HC1.out.2.2.1).1, (Box.c HC1.out.2.2.1).2.1, (Box.c HC1.out.2.2.1).2.2, (Box.c HC1.out.2.2.2.1).1, (Box.c HC1.out.2.2.2.1).2.1, (Box.c HC1.out.2.2.2.1).2.2, HC1.out.1, HC1.out.2.1⟩ ?_
          clear hK K
          repeat (go_big_quiet_step (fail))
          refine wpQuiet_nil ?_
          intro K hK
          go_wp2_with fail
          have hi2 := l7Index_any M t q vb qs Z1 hM8 (HAB.out.2.below HC1.out.2.2.2.2 (Nat.le_refl _)) (by rw [HPQ.out.2.1]; exact hk3) HPQ.out.2.2.2
          refine hi2.mono ?_
          clear hi2
          rintro er Z2 ⟨rfl, hb⟩
          rw [← HZ.out.2.2]
          have HC2 : Hid (Z2.cell? ⟨gx, J1, none⟩ = some (.int .i64 (z1 : Nat)) ∧ Z2.cell? ⟨gy, J2, none⟩ = some (.int .i64 (z2 : Nat)) ∧ Box 24 Z2 w.heap.size N s r ∧ Box 24 Z2 (w.heap.size + 1) M t q ∧ Below w.heap.size w Z2) := ⟨ins.keepCell hb HC1.out.1, ins.keepCell hb HC1.out.2.1, HC1.out.2.2.1.below hb HC1.out.2.2.1.lt, HC1.out.2.2.2.1.below hb HC1.out.2.2.2.1.lt, HC1.out.2.2.2.2.trans (hb.mono HC1.out.2.2.2.2.size)⟩
          clear hb
          go_wp2_with fail
          refine hK _ _ ⟨(Box.c HC2.out.2.2.1).1, (Box.c HC2.out.2.2.1).2.1, (Box.c HC2.out.2.2.1).2.2, (Box.c HC2.out.2.2.2.1).1, (Box.c HC2.out.2.2.2.1).2.1, (Box.c HC2.out.2.2.2.1).2.2, HC2.out.1, HC2.out.2.1⟩ ?_
          clear hK K
          repeat (go_big_quiet_step (fail))
          refine wpQuiet_nil ?_
          clear q0 q1 q2 q3 q4 q5 q6 q7 hne
          go_wp2
          go_ret
          exact ⟨bz, rfl, HGM.out.stop HT4.out HNX.out HEK.out HPL.out.1 HPL.out.2 HV.out, HC2.out.2.2.2.2⟩
        · have e9 : ((K2 : Int) == (K1 : Int)) = false := by simp; omega
          have HEK : Hid (kindsL (xs2 ++ ys2) ≠ kindsL (xs ++ ys)) := by rw [Hid, ← HK12.out.1, ← HK12.out.2]; exact hkk
          have GMN : Hid (Gm (gob.gr N s r) (gob.gr M t q) k (n + 1) (TT = 2000) xs2 ys2) := HGM.out.go HNX.out fun _ => HEK.out
          clear hkk GWO4 HNX HGM
          go_wp2
          go_roundw
          case rel => exact ⟨n + 1, gx2, gy2, xs2, ys2, by have := HLT.out; omega, by go_num, rfl, rfl, GWN4.out, GMN.out⟩
          case measure => simp [intOf]; have := HLT.out; omega
      · have x2 : ¬ (4 : Int) < (TT : Int) := by have := HT.out; omega
        have x3 : decide ((4 : Int) < (TT : Int)) = false := decide_eq_false x2
        have GMN : Hid (Gm (gob.gr N s r) (gob.gr M t q) k (n + 1) (TT = 2000) xs2 ys2) := HGM.out.go HNX.out fun e => absurd e h4
        clear h4 GWO HNX HGM HGW HLX x2
        go_wp2
        go_roundw
        case rel => exact ⟨n + 1, gx2, gy2, xs2, ys2, by have := HLT.out; omega, by go_num, rfl, rfl, GWN.out, GMN.out⟩
        case measure => simp [intOf]; have := HLT.out; omega
    · obtain rfl : n = TT := by omega
      have HNE : Hid (¬ n = 2000) := fun e => by
        have h1 := HGM.out.full e
        have ka : (N + 1) ^ k ≤ 729 := by rw [← HKK.out.1]; exact hX9
        have kb : (M + 1) ^ k ≤ 729 := by rw [← HKK.out.2]; exact hY9
        have h1 : n < (N + 1) ^ k + (M + 1) ^ k := h1
        omega
      clear hlt
      obtain ⟨J1, hJ1⟩ : ∃ J, J = idx N ps := ⟨_, rfl⟩
      obtain ⟨J2, hJ2⟩ : ∃ J, J = idx M qs := ⟨_, rfl⟩
      have hj1 : J1 < KX := by rw [hJ1, HKK.out.1]; exact idx_lt N k ps HPQ.out.1 HPQ.out.2.2.1
      have hj2 : J2 < KY := by rw [hJ2, HKK.out.2]; exact idx_lt M k qs HPQ.out.2.1 HPQ.out.2.2.2
      obtain ⟨z1, hz1⟩ : ∃ z, z = xs.getD J1 0 := ⟨_, rfl⟩
      obtain ⟨z2, hz2⟩ : ∃ z, z = ys.getD J2 0 := ⟨_, rfl⟩
      have HZ : Hid ((z1 = peb.numOf N xs ps ∧ z2 = peb.numOf M ys qs) ∧ J1 = idx N ps ∧ J2 = idx M qs) := ⟨⟨by rw [hz1, hJ1]; rfl, by rw [hz2, hJ2]; rfl⟩, hJ1, hJ2⟩
      have e1 : (J1 : Int) < (KX : Int) := by omega
      have e2 : (J2 : Int) < (KY : Int) := by omega
      have HC : Hid (wr.drew.cell? ⟨gx, J1, none⟩ = some (.int .i64 (z1 : Nat)) ∧ wr.drew.cell? ⟨gy, J2, none⟩ = some (.int .i64 (z2 : Nat)) ∧ Box 24 wr.drew w.heap.size N s r ∧ Box 24 wr.drew (w.heap.size + 1) M t q ∧ Below w.heap.size w wr.drew) := by
        have h1 := HGW.out.ox.cell J1 (by rw [← HGW.out.ox.len]; exact hj1)
        have h2 := HGW.out.oy.cell J2 (by rw [← HGW.out.oy.len]; exact hj2)
        rw [ints_get, ← hz1] at h1
        rw [ints_get, ← hz2] at h2
        exact ⟨h1, h2, HGW.out.ba, HGW.out.bb, HGW.out.bel.drew⟩
      obtain ⟨bz, hbz⟩ : ∃ bz : Bool, bz = ((z1 : Int) == (z2 : Int)) := ⟨_, rfl⟩
      have hbz2 : ((z1 : Int) == (z2 : Int)) = bz := hbz.symm
      have HV : Hid (bz = true ↔ peb.numOf N xs ps = peb.numOf M ys qs) := by
        rw [Hid, hbz, beq_iff_eq, ← HZ.out.1.1, ← HZ.out.1.2]; omega
      clear hJ1 hJ2 hj1 hj2 hz1 hz2 hbz
      have q0 : ∀ QQ : Wd (fun Q => Q.cell? ⟨w.heap.size, 0, none⟩ = some (.int .i64 N) ∧ Q.cell? ⟨w.heap.size, 1, none⟩ = some (.string s) ∧ Q.cell? ⟨w.heap.size, 2, none⟩ = some (.string r) ∧ Q.cell? ⟨w.heap.size + 1, 0, none⟩ = some (.int .i64 M) ∧ Q.cell? ⟨w.heap.size + 1, 1, none⟩ = some (.string t) ∧ Q.cell? ⟨w.heap.size + 1, 2, none⟩ = some (.string q) ∧ Q.cell? ⟨gx, J1, none⟩ = some (.int .i64 (z1 : Nat)) ∧ Q.cell? ⟨gy, J2, none⟩ = some (.int .i64 (z2 : Nat))), QQ.w.cell? ⟨w.heap.size, 0, none⟩ = some (.int .i64 N) := fun QQ => QQ.ok.1
      have q1 : ∀ QQ : Wd (fun Q => Q.cell? ⟨w.heap.size, 0, none⟩ = some (.int .i64 N) ∧ Q.cell? ⟨w.heap.size, 1, none⟩ = some (.string s) ∧ Q.cell? ⟨w.heap.size, 2, none⟩ = some (.string r) ∧ Q.cell? ⟨w.heap.size + 1, 0, none⟩ = some (.int .i64 M) ∧ Q.cell? ⟨w.heap.size + 1, 1, none⟩ = some (.string t) ∧ Q.cell? ⟨w.heap.size + 1, 2, none⟩ = some (.string q) ∧ Q.cell? ⟨gx, J1, none⟩ = some (.int .i64 (z1 : Nat)) ∧ Q.cell? ⟨gy, J2, none⟩ = some (.int .i64 (z2 : Nat))), QQ.w.cell? ⟨w.heap.size, 1, none⟩ = some (.string s) := fun QQ => QQ.ok.2.1
      have q2 : ∀ QQ : Wd (fun Q => Q.cell? ⟨w.heap.size, 0, none⟩ = some (.int .i64 N) ∧ Q.cell? ⟨w.heap.size, 1, none⟩ = some (.string s) ∧ Q.cell? ⟨w.heap.size, 2, none⟩ = some (.string r) ∧ Q.cell? ⟨w.heap.size + 1, 0, none⟩ = some (.int .i64 M) ∧ Q.cell? ⟨w.heap.size + 1, 1, none⟩ = some (.string t) ∧ Q.cell? ⟨w.heap.size + 1, 2, none⟩ = some (.string q) ∧ Q.cell? ⟨gx, J1, none⟩ = some (.int .i64 (z1 : Nat)) ∧ Q.cell? ⟨gy, J2, none⟩ = some (.int .i64 (z2 : Nat))), QQ.w.cell? ⟨w.heap.size, 2, none⟩ = some (.string r) := fun QQ => QQ.ok.2.2.1
      have q3 : ∀ QQ : Wd (fun Q => Q.cell? ⟨w.heap.size, 0, none⟩ = some (.int .i64 N) ∧ Q.cell? ⟨w.heap.size, 1, none⟩ = some (.string s) ∧ Q.cell? ⟨w.heap.size, 2, none⟩ = some (.string r) ∧ Q.cell? ⟨w.heap.size + 1, 0, none⟩ = some (.int .i64 M) ∧ Q.cell? ⟨w.heap.size + 1, 1, none⟩ = some (.string t) ∧ Q.cell? ⟨w.heap.size + 1, 2, none⟩ = some (.string q) ∧ Q.cell? ⟨gx, J1, none⟩ = some (.int .i64 (z1 : Nat)) ∧ Q.cell? ⟨gy, J2, none⟩ = some (.int .i64 (z2 : Nat))), QQ.w.cell? ⟨w.heap.size + 1, 0, none⟩ = some (.int .i64 M) := fun QQ => QQ.ok.2.2.2.1
      have q4 : ∀ QQ : Wd (fun Q => Q.cell? ⟨w.heap.size, 0, none⟩ = some (.int .i64 N) ∧ Q.cell? ⟨w.heap.size, 1, none⟩ = some (.string s) ∧ Q.cell? ⟨w.heap.size, 2, none⟩ = some (.string r) ∧ Q.cell? ⟨w.heap.size + 1, 0, none⟩ = some (.int .i64 M) ∧ Q.cell? ⟨w.heap.size + 1, 1, none⟩ = some (.string t) ∧ Q.cell? ⟨w.heap.size + 1, 2, none⟩ = some (.string q) ∧ Q.cell? ⟨gx, J1, none⟩ = some (.int .i64 (z1 : Nat)) ∧ Q.cell? ⟨gy, J2, none⟩ = some (.int .i64 (z2 : Nat))), QQ.w.cell? ⟨w.heap.size + 1, 1, none⟩ = some (.string t) := fun QQ => QQ.ok.2.2.2.2.1
      have q5 : ∀ QQ : Wd (fun Q => Q.cell? ⟨w.heap.size, 0, none⟩ = some (.int .i64 N) ∧ Q.cell? ⟨w.heap.size, 1, none⟩ = some (.string s) ∧ Q.cell? ⟨w.heap.size, 2, none⟩ = some (.string r) ∧ Q.cell? ⟨w.heap.size + 1, 0, none⟩ = some (.int .i64 M) ∧ Q.cell? ⟨w.heap.size + 1, 1, none⟩ = some (.string t) ∧ Q.cell? ⟨w.heap.size + 1, 2, none⟩ = some (.string q) ∧ Q.cell? ⟨gx, J1, none⟩ = some (.int .i64 (z1 : Nat)) ∧ Q.cell? ⟨gy, J2, none⟩ = some (.int .i64 (z2 : Nat))), QQ.w.cell? ⟨w.heap.size + 1, 2, none⟩ = some (.string q) := fun QQ => QQ.ok.2.2.2.2.2.1
      have q6 : ∀ QQ : Wd (fun Q => Q.cell? ⟨w.heap.size, 0, none⟩ = some (.int .i64 N) ∧ Q.cell? ⟨w.heap.size, 1, none⟩ = some (.string s) ∧ Q.cell? ⟨w.heap.size, 2, none⟩ = some (.string r) ∧ Q.cell? ⟨w.heap.size + 1, 0, none⟩ = some (.int .i64 M) ∧ Q.cell? ⟨w.heap.size + 1, 1, none⟩ = some (.string t) ∧ Q.cell? ⟨w.heap.size + 1, 2, none⟩ = some (.string q) ∧ Q.cell? ⟨gx, J1, none⟩ = some (.int .i64 (z1 : Nat)) ∧ Q.cell? ⟨gy, J2, none⟩ = some (.int .i64 (z2 : Nat))), QQ.w.cell? ⟨gx, J1, none⟩ = some (.int .i64 (z1 : Nat)) := fun QQ => QQ.ok.2.2.2.2.2.2.1
      have q7 : ∀ QQ : Wd (fun Q => Q.cell? ⟨w.heap.size, 0, none⟩ = some (.int .i64 N) ∧ Q.cell? ⟨w.heap.size, 1, none⟩ = some (.string s) ∧ Q.cell? ⟨w.heap.size, 2, none⟩ = some (.string r) ∧ Q.cell? ⟨w.heap.size + 1, 0, none⟩ = some (.int .i64 M) ∧ Q.cell? ⟨w.heap.size + 1, 1, none⟩ = some (.string t) ∧ Q.cell? ⟨w.heap.size + 1, 2, none⟩ = some (.string q) ∧ Q.cell? ⟨gx, J1, none⟩ = some (.int .i64 (z1 : Nat)) ∧ Q.cell? ⟨gy, J2, none⟩ = some (.int .i64 (z2 : Nat))), QQ.w.cell? ⟨gy, J2, none⟩ = some (.int .i64 (z2 : Nat)) := fun QQ => QQ.ok.2.2.2.2.2.2.2
      have hne : Nonempty (Wd (fun Q => Q.cell? ⟨w.heap.size, 0, none⟩ = some (.int .i64 N) ∧ Q.cell? ⟨w.heap.size, 1, none⟩ = some (.string s) ∧ Q.cell? ⟨w.heap.size, 2, none⟩ = some (.string r) ∧ Q.cell? ⟨w.heap.size + 1, 0, none⟩ = some (.int .i64 M) ∧ Q.cell? ⟨w.heap.size + 1, 1, none⟩ = some (.string t) ∧ Q.cell? ⟨w.heap.size + 1, 2, none⟩ = some (.string q) ∧ Q.cell? ⟨gx, J1, none⟩ = some (.int .i64 (z1 : Nat)) ∧ Q.cell? ⟨gy, J2, none⟩ = some (.int .i64 (z2 : Nat)))) := ⟨⟨wr.drew, ⟨(Box.c HC.out.2.2.1).1, (Box.c HC.out.2.2.1).2.1, (Box.c HC.out.2.2.1).2.2, (Box.c HC.out.2.2.2.1).1, (Box.c HC.out.2.2.2.1).2.1, (Box.c HC.out.2.2.2.1).2.2, HC.out.1, HC.out.2.1⟩⟩⟩
      go_wp2_with fail
      refine chain (S := (fun Q => Q.cell? ⟨w.heap.size, 0, none⟩ = some (.int .i64 N) ∧ Q.cell? ⟨w.heap.size, 1, none⟩ = some (.string s) ∧ Q.cell? ⟨w.heap.size, 2, none⟩ = some (.string r) ∧ Q.cell? ⟨w.heap.size + 1, 0, none⟩ = some (.int .i64 M) ∧ Q.cell? ⟨w.heap.size + 1, 1, none⟩ = some (.string t) ∧ Q.cell? ⟨w.heap.size + 1, 2, none⟩ = some (.string q) ∧ Q.cell? ⟨gx, J1, none⟩ = some (.int .i64 (z1 : Nat)) ∧ Q.cell? ⟨gy, J2, none⟩ = some (.int .i64 (z2 : Nat)))) [([true, true, true, false, false, false, true, true, true], 3), ([false, false, false, false, true, true], 9)] [false, false, false, false, false, false, false, false, false, false, true, true, true, true] (by kernel_rfl) (by kernel_rfl) (by kernel_rfl) ⟨(Box.c HC.out.2.2.1).1, (Box.c HC.out.2.2.1).2.1, (Box.c HC.out.2.2.1).2.2, (Box.c HC.out.2.2.2.1).1, (Box.c HC.out.2.2.2.1).2.1, (Box.c HC.out.2.2.2.1).2.2, HC.out.1, HC.out.2.1⟩ ?_
      simp only [wpSegs, pickB, List.dropLast_cons_cons, List.dropLast_singleton, List.getLast?_cons_cons, List.getLast?_singleton, List.toList_toArray, List.getElem?_toArray, List.getElem?_cons_succ, List.getElem?_cons_zero, Option.toList_some]
      repeat (go_big_quiet_step (fail))
      refine wpQuiet_nil ?_
      intro K hK
      go_wp2_with fail
      have hi1 := l7Index_any N s r (.slice ao k ca) ps wr.drew hN8 (HAB.out.1.below HC.out.2.2.2.2 (Nat.le_refl _)) (by rw [HPQ.out.1]; exact hk3) HPQ.out.2.2.1
      refine hi1.mono ?_
      clear hi1
      rintro er Z1 ⟨rfl, hb⟩
      rw [← HZ.out.2.1]
      have HC1 : Hid (Z1.cell? ⟨gx, J1, none⟩ = some (.int .i64 (z1 : Nat)) ∧ Z1.cell? ⟨gy, J2, none⟩ = some (.int .i64 (z2 : Nat)) ∧ Box 24 Z1 w.heap.size N s r ∧ Box 24 Z1 (w.heap.size + 1) M t q ∧ Below w.heap.size w Z1) := ⟨ins.keepCell hb HC.out.1, ins.keepCell hb HC.out.2.1, HC.out.2.2.1.below hb HC.out.2.2.1.lt, HC.out.2.2.2.1.below hb HC.out.2.2.2.1.lt, HC.out.2.2.2.2.trans (hb.mono HC.out.2.2.2.2.size)⟩
      clear hb
      go_wp2_with fail
      refine hK _ _ ⟨(Box.c HC1.out.2.2.1).1, (Box.c HC1.out.2.2.1).2.1, (Box.c HC1.out.2.2.1).2.2, (Box.c HC1.out.2.2.2.1).1, (Box.c HC1.out.2.2.2.1).2.1, (Box.c HC1.out.2.2.2.1).2.2, HC1.out.1, HC1.out.2.1⟩ ?_
      clear hK K
      repeat (go_big_quiet_step (fail))
      refine wpQuiet_nil ?_
      intro K hK
      go_wp2_with fail
      have hi2 := l7Index_any M t q vb qs Z1 hM8 (HAB.out.2.below HC1.out.2.2.2.2 (Nat.le_refl _)) (by rw [HPQ.out.2.1]; exact hk3) HPQ.out.2.2.2
      refine hi2.mono ?_
      clear hi2
      rintro er Z2 ⟨rfl, hb⟩
      rw [← HZ.out.2.2]
      have HC2 : Hid (Z2.cell? ⟨gx, J1, none⟩ = some (.int .i64 (z1 : Nat)) ∧ Z2.cell? ⟨gy, J2, none⟩ = some (.int .i64 (z2 : Nat)) ∧ Box 24 Z2 w.heap.size N s r ∧ Box 24 Z2 (w.heap.size + 1) M t q ∧ Below w.heap.size w Z2) := ⟨ins.keepCell hb HC1.out.1, ins.keepCell hb HC1.out.2.1, HC1.out.2.2.1.below hb HC1.out.2.2.1.lt, HC1.out.2.2.2.1.below hb HC1.out.2.2.2.1.lt, HC1.out.2.2.2.2.trans (hb.mono HC1.out.2.2.2.2.size)⟩
      clear hb
      go_wp2_with fail
      refine hK _ _ ⟨(Box.c HC2.out.2.2.1).1, (Box.c HC2.out.2.2.1).2.1, (Box.c HC2.out.2.2.1).2.2, (Box.c HC2.out.2.2.2.1).1, (Box.c HC2.out.2.2.2.1).2.1, (Box.c HC2.out.2.2.2.1).2.2, HC2.out.1, HC2.out.2.1⟩ ?_
      clear hK K
      repeat (go_big_quiet_step (fail))
      refine wpQuiet_nil ?_
      clear q0 q1 q2 q3 q4 q5 q6 q7 hne
      go_wp2
      go_ret
      exact ⟨bz, rfl, HGM.out.end HNE.out HPL.out.1 HPL.out.2 HV.out, HC2.out.2.2.2.2⟩
end Go.Proofs.YtpcnoiigbmiejaaDoor.pbi
