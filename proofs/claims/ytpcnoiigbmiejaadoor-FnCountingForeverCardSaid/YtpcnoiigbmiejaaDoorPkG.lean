/- Several texts in one: GmS, GmT. -/
import Derived.Test.YtpcnoiigbmiejaaDoorPkR
import Derived.Test.YtpcnoiigbmiejaaDoorPkT
import Derived.Test.YtpcnoiigbmiejaaDoorSrt
/- l7Start of the reference. -/
namespace Go.Proofs.YtpcnoiigbmiejaaDoor.pbi
set_option linter.unusedVariables false
set_option linter.unusedSimpArgs false
open Go.ChangeShapes Go.WideShapes Go.ChangeAt Go.RowKit
open Go.Proofs.YtpcnoiigbmiejaaDoor.lib Go.Proofs.YtpcnoiigbmiejaaDoor.st Go.Proofs.YtpcnoiigbmiejaaDoor.flow Go.Proofs.YtpcnoiigbmiejaaDoor.chain Go.Proofs.YtpcnoiigbmiejaaDoor.base Go.Proofs.YtpcnoiigbmiejaaDoor.fits Go.Proofs.YtpcnoiigbmiejaaDoor.still Go.Proofs.YtpcnoiigbmiejaaDoor.gow Go.Proofs.YtpcnoiigbmiejaaDoor.peb Go.Proofs.YtpcnoiigbmiejaaDoor.tab Go.Proofs.YtpcnoiigbmiejaaDoor.make Go.Proofs.YtpcnoiigbmiejaaDoor.near
theorem TL_len (L : List ByteArray) : (TL L).length = L.length := by simp [TL]
theorem TL_step {L L' : List ByteArray} {u : ByteArray} {f : List UInt8} (h : L' = L ∨ (L' = L ++ [u] ∧ u ∉ L)) (hf : u.data.toList = f) : TL L' = TL L ∨ (TL L' = TL L ++ [f] ∧ f ∉ TL L) := by
  subst hf
  rcases h with rfl | ⟨rfl, hn⟩
  · exact .inl rfl
  · refine .inr ⟨by simp [TL], fun hm => ?_⟩
    obtain ⟨b, hb, he⟩ := List.mem_map.1 hm
    exact hn (bytes_eq he ▸ hb)
theorem ints_set (l : List Nat) (i x : Nat) : ints (l.set i x) = (ints l).set i (x : Int) := by simp [ints, List.map_set]
theorem ints_rep (n : Nat) : ints (List.replicate n 0) = List.replicate n 0 := by simp [ints]
/-- what l7Start and l8Turn leave -/
def NumsP (gl cl gc cc N k : Nat) (f : List Nat → List UInt8) (w : World) (D : Nat → Prop) (L : List ByteArray) (e : Ending) (w' : World) : Prop :=
  ∃ (g : Nat) (xs : List Nat) (L' : List ByteArray) (D' : Nat → Prop) (vs' : List Value), e = .returned (.slice (some ⟨g, 0, none⟩) ((N + 1) ^ k) ((N + 1) ^ k)) ∧ OwnI 3 w' w.heap.size (.slice (some ⟨g, 0, none⟩) ((N + 1) ^ k) ((N + 1) ^ k)) (ints xs) ∧ ¬ D' g ∧ Done (TL L) (TL L') N k f xs ∧ TabP gl cl gc cc w' D' L' vs' ∧ Out D w w' ∧ ∀ j, D' j → D j ∨ w.heap.size ≤ j
theorem ss_set {gl cl gc cc N : Nat} {s r : ByteArray} {w W : World} {D0 D : Nat → Prop} {L0 L : List ByteArray} {vs : List Value} {B g n c j : Nat} {l : List Int} (h : SS gl cl gc cc N s r w D0 L0 W D L vs) (ho : OwnI 3 W B (.slice (some ⟨g, 0, none⟩) n c) l) (hn : ¬ D g) (hB : w.heap.size + 2 ≤ B) (x : Int) : SS gl cl gc cc N s r w D0 L0 (W.setCell ⟨g, j, none⟩ (.int .i64 x)) D L vs :=
  h.grown (ho.setGrown j x) hn (by have := ho.ge; omega)

set_option maxHeartbeats 6400000 in
set_option maxRecDepth 100000 in
theorem l7Start_any (gl cl gc cc N : Nat) (s r : ByteArray) (k : Nat) (w : World) (D : Nat → Prop) (L : List ByteArray) (vs : List Value) (hsc : Sc N s r) (hk1 : 1 ≤ k) (hk3 : k ≤ 3) (ht : TabP gl cl gc cc w D L vs) (hle : L.length ≤ 5000) :
    Calls Tryd.prog 114 #[tv gl cl gc cc, .agg #[.int .i64 N, .string s, .string r], .int .i64 k] w (NumsP gl cl gc cc N k (stx (gob.gr N s r)) w D L) := by
  obtain ⟨F, hF⟩ : ∃ F, F = stx (gob.gr N s r) := ⟨_, rfl⟩
  obtain ⟨M, hM⟩ : ∃ M, M = (N + 1) ^ k := ⟨_, rfl⟩
  have hM9 : M ≤ 729 := by rw [hM]; exact pow_small hsc.1 hk3
  rw [← hF]
  unfold NumsP
  rw [← hM]
  have HF := Lib.hid hF
  have HM := Lib.hid hM
  have HSC := Lib.hid hsc
  have HLE := Lib.hid hle
  obtain ⟨W0, hW0⟩ : ∃ W0, W0 = ((w.alloc (.cells #[.slice (some ⟨gl, 0, none⟩) 997 cl, .slice (some ⟨gc, 0, none⟩) 1 cc] 105)).alloc (.cells #[.int .i64 N, .string s, .string r] 24)) := ⟨_, rfl⟩
  have HS0 : Hid (SS gl cl gc cc N s r w D L W0 D L vs) := by
    rw [hW0]
    have hb : Below w.heap.size w ((w.alloc (.cells #[.slice (some ⟨gl, 0, none⟩) 997 cl, .slice (some ⟨gc, 0, none⟩) 1 cc] 105)).alloc (.cells #[.int .i64 N, .string s, .string r] 24)) := ((Below.refl _ _).alloc (Nat.le_refl _) _).alloc (by simp) _
    refine ⟨ht.below hb (Nat.le_refl _), .of_below hb (Nat.le_refl _), fun k hk => .inl hk, ht.lt, ?_, ?_, Box.new _ _ _ (by simp) _ _ _, List.prefix_refl _⟩
    · rw [World.cell?_alloc_lt _ _ _ (by simp)]; simp
    · rw [World.cell?_alloc_lt _ _ _ (by simp)]; simp
  have hz0 : W0.heap.size = w.heap.size + 2 := by rw [hW0]; simp
  have HW0 := Lib.hid hW0
  obtain ⟨i0, hi, hz1, hz2, hz3⟩ := info_parts infoI
  unfold tv
  clear hsc hle ht hF hM hW0
  go_enter Tryd.func114, Tryd.ntmps114
  obtain ⟨b0, b1, b2⟩ := Box.c HS0.out.box
  go_wp2_with fail
  rw [← HW0.out]
  go_wp2_with fail
  clear b0 b1 b2 HW0
  refine (l7Count_any N s r k _ HSC.out.1 hk3).mono ?_
  rintro er W1 ⟨rfl, hb⟩
  have HS1 := Lib.hid (HS0.out.below hb (Nat.le_refl _))
  rw [← HM.out]
  clear hb HS0 hz0
  have hz9 := HS1.out.lt
  go_wp2_with (at_make; refine wpList_make_full _ rfl _ _ 32 rfl (w.heap.size + 2) 3 i0 (.int .i64 0) 1 Tryd.underlying32 hi hz1 hz2 _ _ _ _ M rfl rfl (by omega) (by omega) ?b2 ?b3 hz9 ?_)
  case b2 => rw [hz3]; omega
  case b3 => unfold maxLen; omega
  intro W2 hown0 hgrow0
  obtain ⟨g, hg⟩ : ∃ g, g = W1.heap.size := ⟨_, rfl⟩
  have HST : Hid (∃ (xs : List Nat) (D1 : Nat → Prop) (L1 : List ByteArray) (vs1 : List Value), SS gl cl gc cc N s r w D L W2 D1 L1 vs1 ∧ OwnI 3 W2 (w.heap.size + 2) (.slice (some ⟨g, 0, none⟩) M M) (ints xs) ∧ ¬ D1 g ∧ Numd (TL L) (TL L1) N k 0 F xs) := by
    have hb0 : Below W1.heap.size W1 W2 := below_of_grown hgrow0 (Nat.le_refl _) (fun k h => by cases h)
    have h1 := OwnI.made hown0
    rw [← hg] at h1
    refine ⟨List.replicate M 0, D, L, vs, HS1.out.below hb0 (Nat.le_refl _), by rw [ints_rep]; exact h1, fun h => ?_, ?_⟩
    · have := HS1.out.tab.lt g h; omega
    · rw [HM.out]; exact numd_start _ _ _ _
  rw [← hg]
  clear hown0 hgrow0 hg HS1 hi hz1 hz2 hz3 hz9
  go_wp2_with fail
  go_loopw [8] (fun iv wr => ∃ n : Nat, n ≤ M ∧ iv = .int .i64 n ∧ Hid (∃ (xs : List Nat) (D1 : Nat → Prop) (L1 : List ByteArray) (vs1 : List Value), SS gl cl gc cc N s r w D L wr D1 L1 vs1 ∧ OwnI 3 wr (w.heap.size + 2) (.slice (some ⟨g, 0, none⟩) M M) (ints xs) ∧ ¬ D1 g ∧ Numd (TL L) (TL L1) N k n F xs)) (fun iv _ => M - (intOf iv).toNat)
  case atStart => exact ⟨0, Nat.zero_le _, rfl, HST.out⟩
  case round =>
    clear HST
    obtain ⟨n, hn, rfl, hst⟩ := hrel
    obtain ⟨xs, D1, L1, vs1, hs2, how, hnd, hnum⟩ := hst.out
    have HS2 := Lib.hid hs2
    have HOW := Lib.hid how
    have HND := Lib.hid hnd
    have HNUM := Lib.hid hnum
    clear hst hs2 how hnd hnum
    by_cases hlt : n < M
    · have x1 : (n : Int) < (M : Int) := by omega
      have HN : Hid (n < (N + 1) ^ k) := by rw [Hid, ← HM.out]; exact hlt
      have hnx : n < xs.length := by rw [HNUM.out.len]; exact HN.out
      have HLT := Lib.hid hlt
      have q0 : ∀ QQ : Wd (fun Q => Q.cell? ⟨w.heap.size, 0, none⟩ = some (.slice (some ⟨gl, 0, none⟩) 997 cl) ∧ Q.cell? ⟨w.heap.size, 1, none⟩ = some (.slice (some ⟨gc, 0, none⟩) 1 cc) ∧ Q.cell? ⟨w.heap.size + 1, 0, none⟩ = some (.int .i64 N) ∧ Q.cell? ⟨w.heap.size + 1, 1, none⟩ = some (.string s) ∧ Q.cell? ⟨w.heap.size + 1, 2, none⟩ = some (.string r)), QQ.w.cell? ⟨w.heap.size, 0, none⟩ = some (.slice (some ⟨gl, 0, none⟩) 997 cl) := fun QQ => QQ.ok.1
      have q1 : ∀ QQ : Wd (fun Q => Q.cell? ⟨w.heap.size, 0, none⟩ = some (.slice (some ⟨gl, 0, none⟩) 997 cl) ∧ Q.cell? ⟨w.heap.size, 1, none⟩ = some (.slice (some ⟨gc, 0, none⟩) 1 cc) ∧ Q.cell? ⟨w.heap.size + 1, 0, none⟩ = some (.int .i64 N) ∧ Q.cell? ⟨w.heap.size + 1, 1, none⟩ = some (.string s) ∧ Q.cell? ⟨w.heap.size + 1, 2, none⟩ = some (.string r)), QQ.w.cell? ⟨w.heap.size, 1, none⟩ = some (.slice (some ⟨gc, 0, none⟩) 1 cc) := fun QQ => QQ.ok.2.1
      have q2 : ∀ QQ : Wd (fun Q => Q.cell? ⟨w.heap.size, 0, none⟩ = some (.slice (some ⟨gl, 0, none⟩) 997 cl) ∧ Q.cell? ⟨w.heap.size, 1, none⟩ = some (.slice (some ⟨gc, 0, none⟩) 1 cc) ∧ Q.cell? ⟨w.heap.size + 1, 0, none⟩ = some (.int .i64 N) ∧ Q.cell? ⟨w.heap.size + 1, 1, none⟩ = some (.string s) ∧ Q.cell? ⟨w.heap.size + 1, 2, none⟩ = some (.string r)), QQ.w.cell? ⟨w.heap.size + 1, 0, none⟩ = some (.int .i64 N) := fun QQ => QQ.ok.2.2.1
      have q3 : ∀ QQ : Wd (fun Q => Q.cell? ⟨w.heap.size, 0, none⟩ = some (.slice (some ⟨gl, 0, none⟩) 997 cl) ∧ Q.cell? ⟨w.heap.size, 1, none⟩ = some (.slice (some ⟨gc, 0, none⟩) 1 cc) ∧ Q.cell? ⟨w.heap.size + 1, 0, none⟩ = some (.int .i64 N) ∧ Q.cell? ⟨w.heap.size + 1, 1, none⟩ = some (.string s) ∧ Q.cell? ⟨w.heap.size + 1, 2, none⟩ = some (.string r)), QQ.w.cell? ⟨w.heap.size + 1, 1, none⟩ = some (.string s) := fun QQ => QQ.ok.2.2.2.1
      have q4 : ∀ QQ : Wd (fun Q => Q.cell? ⟨w.heap.size, 0, none⟩ = some (.slice (some ⟨gl, 0, none⟩) 997 cl) ∧ Q.cell? ⟨w.heap.size, 1, none⟩ = some (.slice (some ⟨gc, 0, none⟩) 1 cc) ∧ Q.cell? ⟨w.heap.size + 1, 0, none⟩ = some (.int .i64 N) ∧ Q.cell? ⟨w.heap.size + 1, 1, none⟩ = some (.string s) ∧ Q.cell? ⟨w.heap.size + 1, 2, none⟩ = some (.string r)), QQ.w.cell? ⟨w.heap.size + 1, 2, none⟩ = some (.string r) := fun QQ => QQ.ok.2.2.2.2
      have hne : Nonempty (Wd (fun Q => Q.cell? ⟨w.heap.size, 0, none⟩ = some (.slice (some ⟨gl, 0, none⟩) 997 cl) ∧ Q.cell? ⟨w.heap.size, 1, none⟩ = some (.slice (some ⟨gc, 0, none⟩) 1 cc) ∧ Q.cell? ⟨w.heap.size + 1, 0, none⟩ = some (.int .i64 N) ∧ Q.cell? ⟨w.heap.size + 1, 1, none⟩ = some (.string s) ∧ Q.cell? ⟨w.heap.size + 1, 2, none⟩ = some (.string r))) := ⟨⟨wr.drew, ⟨HS2.out.c0, HS2.out.c1, (Box.c HS2.out.box).1, (Box.c HS2.out.box).2.1, (Box.c HS2.out.box).2.2⟩⟩⟩
      go_wp2_with fail
      refine chain (S := (fun Q => Q.cell? ⟨w.heap.size, 0, none⟩ = some (.slice (some ⟨gl, 0, none⟩) 997 cl) ∧ Q.cell? ⟨w.heap.size, 1, none⟩ = some (.slice (some ⟨gc, 0, none⟩) 1 cc) ∧ Q.cell? ⟨w.heap.size + 1, 0, none⟩ = some (.int .i64 N) ∧ Q.cell? ⟨w.heap.size + 1, 1, none⟩ = some (.string s) ∧ Q.cell? ⟨w.heap.size + 1, 2, none⟩ = some (.string r))) [([true, true, true, true, true, true, true], 7), ([], 8), ([], 9), ([false, false, false, false, false, false, false, false, false, false, true], 11)] [] (by kernel_rfl) (by kernel_rfl) (by kernel_rfl) ⟨HS2.out.c0, HS2.out.c1, (Box.c HS2.out.box).1, (Box.c HS2.out.box).2.1, (Box.c HS2.out.box).2.2⟩ ?_
      simp only [wpSegs, pickB, List.dropLast_cons_cons, List.dropLast_singleton, List.getLast?_cons_cons, List.getLast?_singleton, List.toList_toArray, List.getElem?_toArray, List.getElem?_cons_succ, List.getElem?_cons_zero, Option.toList_some]
      repeat (go_big_quiet_step (fail))
      refine wpQuiet_nil ?_
      intro K hK
      go_wp2_with fail
      refine (l7At_any N s r n k _ HSC.out.1 hk1 hk3 HN.out).mono ?_
      rintro er V1 ⟨v1, rfl, ho1, hb0⟩
      have hb := (Below.refl wr.heap.size wr).drew.trans hb0
      have HV1 := Lib.hid (HS2.out.below hb (Nat.le_refl _))
      have HOW1 := Lib.hid (HOW.out.below hb (Nat.le_refl _))
      have HR1 := Lib.hid ho1.reads
      clear hb hb0 ho1
      go_wp2_with fail
      refine hK _ _ ⟨HV1.out.c0, HV1.out.c1, (Box.c HV1.out.box).1, (Box.c HV1.out.box).2.1, (Box.c HV1.out.box).2.2⟩ ?_
      clear hK K
      repeat (go_big_quiet_step (fail))
      refine wpQuiet_nil ?_
      intro K hK
      go_wp2_with fail
      refine (l7Atoms_any N s r v1 (tup N k n) _ HSC.out HR1.out (by rw [tup_len]; exact hk3) (tup_le N k n)).mono ?_
      rintro er V2 ⟨u, rfl, hu, hus, hb⟩
      have HV2 := Lib.hid (HV1.out.below hb (Nat.le_refl _))
      have HOW2 := Lib.hid (HOW1.out.below hb (Nat.le_refl _))
      have HU : Hid (u.data.toList = F (tup N k n)) := by rw [Hid, hu, HF.out]
      clear hb hu HV1 HOW1 HR1
      go_wp2_with fail
      refine hK _ _ ⟨HV2.out.c0, HV2.out.c1, (Box.c HV2.out.box).1, (Box.c HV2.out.box).2.1, (Box.c HV2.out.box).2.2⟩ ?_
      clear hK K
      repeat (go_big_quiet_step (fail))
      refine wpQuiet_nil ?_
      intro K hK
      go_wp2_with fail
      have hL9 : L1.length ≤ 100000 := by have h1 := HNUM.out.grow; rw [TL_len, TL_len] at h1; have h2 := HLE.out; omega
      have hc := number_any gl cl gc cc u V2 D1 L1 vs1 HV2.out.tab (by omega) hL9
      unfold tv at hc
      refine hc.mono ?_
      clear hc hL9 hus
      rintro er V3 ⟨m, L2, D2, vs2, rfl, hm, hat, htab, hout, hd⟩
      have HV3 := Lib.hid (HV2.out.step htab hout hd (TL_more hm).1)
      have HOW3 : Hid (OwnI 3 V3 (w.heap.size + 2) (.slice (some ⟨g, 0, none⟩) M M) (ints xs)) := Lib.hid (hout.owns HOW2.out (fun g hg => by cases hg; exact HND.out))
      have HN3 : Hid (¬ D2 g) := fun h => (hd g h).elim HND.out (fun e => by have := HOW2.out.ge; omega)
      have HNU : Hid (Numd (TL L) (TL L2) N k (n + 1) F (xs.set n m)) := HNUM.out.step (TL_step hm HU.out) (by rw [TL_at hat, HU.out]) HN.out
      clear hm hat htab hout hd HV2 HOW2 HU HND HNUM
      go_wp2_with fail
      refine hK _ _ ⟨HV3.out.c0, HV3.out.c1, (Box.c HV3.out.box).1, (Box.c HV3.out.box).2.1, (Box.c HV3.out.box).2.2⟩ ?_
      clear hK K
      have k0 := HOW3.out.cell n (by rw [ints_len]; exact hnx)
      have f0 := HOW3.out.free n
      repeat (go_big_quiet_step (fail))
      refine wpQuiet_nil ?_
      intro K hK
      go_wp2_with fail
      clear k0 f0
      have HV4 := Lib.hid (ss_set HV3.out HOW3.out HN3.out (Nat.le_refl _) (m : Int) (j := n))
      have HOW4 : Hid (OwnI 3 (V3.setCell ⟨g, n, none⟩ (.int .i64 (m : Int))) (w.heap.size + 2) (.slice (some ⟨g, 0, none⟩) M M) (ints (xs.set n m))) := by rw [Hid, ints_set]; exact HOW3.out.set n m
      clear HV3 HOW3
      refine hK _ _ ⟨HV4.out.c0, HV4.out.c1, (Box.c HV4.out.box).1, (Box.c HV4.out.box).2.1, (Box.c HV4.out.box).2.2⟩ ?_
      clear hK K
      repeat (go_big_quiet_step (fail))
      refine wpQuiet_nil ?_
      clear q0 q1 q2 q3 q4 hne
      have REL : Hid (∃ (xs : List Nat) (D1 : Nat → Prop) (L1 : List ByteArray) (vs1 : List Value), SS gl cl gc cc N s r w D L (V3.setCell ⟨g, n, none⟩ (.int .i64 (m : Int))) D1 L1 vs1 ∧ OwnI 3 (V3.setCell ⟨g, n, none⟩ (.int .i64 (m : Int))) (w.heap.size + 2) (.slice (some ⟨g, 0, none⟩) M M) (ints xs) ∧ ¬ D1 g ∧ Numd (TL L) (TL L1) N k (n + 1) F xs) := ⟨_, D2, L2, vs2, HV4.out, HOW4.out, HN3.out, HNU.out⟩
      clear HV4 HOW4 HN3 HNU HS2 HOW hnx hlt
      go_wp2
      go_roundw
      case rel => exact ⟨n + 1, by have := HLT.out; omega, by go_num, REL.out⟩
      case measure => simp [intOf]; have := HLT.out; omega
    · obtain rfl : n = M := by omega
      go_wp2
      go_ret
      exact ⟨g, xs, L1, D1, vs1, rfl, HOW.out.mono (by omega), HND.out, HNUM.out.done HM.out, HS2.out.tab, HS2.out.out, fun j hj => (HS2.out.d j hj).imp id (fun e => by omega)⟩
end Go.Proofs.YtpcnoiigbmiejaaDoor.pbi

/- l8Turn of the reference. -/
namespace Go.Proofs.YtpcnoiigbmiejaaDoor.pbi
set_option linter.unusedVariables false
set_option linter.unusedSimpArgs false
open Go.ChangeShapes Go.WideShapes Go.ChangeAt Go.RowKit
open Go.Proofs.YtpcnoiigbmiejaaDoor.lib Go.Proofs.YtpcnoiigbmiejaaDoor.st Go.Proofs.YtpcnoiigbmiejaaDoor.flow Go.Proofs.YtpcnoiigbmiejaaDoor.chain Go.Proofs.YtpcnoiigbmiejaaDoor.base Go.Proofs.YtpcnoiigbmiejaaDoor.fits Go.Proofs.YtpcnoiigbmiejaaDoor.still Go.Proofs.YtpcnoiigbmiejaaDoor.gow Go.Proofs.YtpcnoiigbmiejaaDoor.peb Go.Proofs.YtpcnoiigbmiejaaDoor.tab Go.Proofs.YtpcnoiigbmiejaaDoor.make Go.Proofs.YtpcnoiigbmiejaaDoor.near Go.Proofs.YtpcnoiigbmiejaaDoor.srt Go.Proofs.YtpcnoiigbmiejaaDoor.sll Go.Proofs.YtpcnoiigbmiejaaDoor.col Go.Proofs.YtpcnoiigbmiejaaDoor.game
theorem sort_ints (l : List Nat) : sortI (ints l) = ints (peb.srt l) := by
  refine List.Perm.eq_of_pairwise (le := fun x y : Int => x ≤ y) (fun a b _ _ h1 h2 => by omega) (sortI_sorted _) ?_ ((sortI_perm _).trans ?_)
  · unfold ints
    rw [List.pairwise_map]
    exact (srt_sorted l).imp fun h => by omega
  · exact ((srt_perm l).map _).symm
theorem pbs_set (ps : List Nat) (i x : Nat) : (pbs ps).set i (x : Int) = pbs (ps.set i (x + 1)) := by
  unfold pbs
  rw [List.map_set]
  congr 1
  omega
/-- the numbers after moves of one pebble -/
def mv (u : List Nat → Nat) (ps : List Nat) (i x : Nat) : List Nat := (List.range x).map fun x => u (ps.set i (x + 1))
theorem mv_succ (u : List Nat → Nat) (ps : List Nat) (i x : Nat) : mv u ps i (x + 1) = mv u ps i x ++ [u (ps.set i (x + 1))] := by unfold mv; rw [List.range_succ, List.map_append]; rfl
theorem mv_len (u : List Nat → Nat) (ps : List Nat) (i x : Nat) : (mv u ps i x).length = x := by simp [mv]
/-- those of the first pebbles -/
def mvs (N : Nat) (u : List Nat → Nat) (ps : List Nat) (i : Nat) : List (List Nat) := (List.range i).map fun i => peb.srt (mv u ps i N)
theorem mvs_succ (N : Nat) (u : List Nat → Nat) (ps : List Nat) (i : Nat) : mvs N u ps (i + 1) = mvs N u ps i ++ [peb.srt (mv u ps i N)] := by unfold mvs; rw [List.range_succ, List.map_append]; rfl
theorem mvs_all (N : Nat) (u : List Nat → Nat) (ps : List Nat) : mvs N u ps ps.length = moves N u ps := rfl
theorem blocks_snoc (Ls : List (List Nat)) (l : List Nat) : blocks (Ls ++ [l]) = blocks Ls ++ (commas l ++ [59]) := by unfold blocks; rw [List.flatMap_append]; simp
theorem commas_take {l : List Nat} {k : Nat} (hk : k < l.length) : commas (l.take (k + 1)) = commas (l.take k) ++ 44 :: dec (l.getD k 0) := by
  rw [List.take_add_one, List.getElem?_eq_getElem hk, Option.toList_some, commas_snoc, List.getD_eq_getElem?_getD, List.getElem?_eq_getElem hk]; rfl
theorem get_mem {l : List Nat} {i : Nat} (hi : i < l.length) : l.getD i 0 ∈ l := by
  rw [List.getD_eq_getElem?_getD, List.getElem?_eq_getElem hi]; exact List.getElem_mem _
theorem sizeOf_list (o : ByteArray) : o.data.toList.length = o.size := by simp
theorem dec_size (n : Nat) : (decB n).size ≤ n + 1 := by
  have := dec_len n
  have e : (decB n).size = (decB n).data.toList.length := by simp
  rw [e, decB_list]; exact this
theorem mv_zero (u : List Nat → Nat) (ps : List Nat) (i : Nat) : sortI (ints (mv u ps i 0)) = [] := by simp [mv, ints, sortI]
theorem comma_size : ByteArray.size ⟨#[44]⟩ = 1 := rfl
theorem semi_size : ByteArray.size ⟨#[59]⟩ = 1 := rfl
theorem cee_size : ByteArray.size ⟨#[99]⟩ = 1 := rfl

set_option maxHeartbeats 6400000 in
set_option maxRecDepth 100000 in
theorem l8Turn_any (gl cl gc cc N : Nat) (s r : ByteArray) (va : Value) (xb : List Nat) (k : Nat) (w : World) (D : Nat → Prop) (L : List ByteArray) (vs : List Value) (hsc : Sc N s r) (hk1 : 1 ≤ k) (hk3 : k ≤ 3) (ht : TabP gl cl gc cc w D L vs) (hle : L.length ≤ 5000)
    (hva : Reads w va (ints xb)) (hno : ∀ g, va.ownBlock = some g → ¬ D g ∧ g < w.heap.size) (hxl : xb.length = (N + 1) ^ k) (hxb : ∀ x, x ∈ xb → x ≤ 1500) :
    Calls Tryd.prog 115 #[tv gl cl gc cc, .agg #[.int .i64 N, .string s, .string r], va, .int .i64 k] w (NumsP gl cl gc cc N k (ttxL N xb) w D L) := by
  obtain ⟨F, hF⟩ : ∃ F, F = ttxL N xb := ⟨_, rfl⟩
  obtain ⟨u, hu⟩ : ∃ u, u = peb.numOf N xb := ⟨_, rfl⟩
  obtain ⟨M, hM⟩ : ∃ M, M = (N + 1) ^ k := ⟨_, rfl⟩
  have hM9 : M ≤ 729 := by rw [hM]; exact pow_small hsc.1 hk3
  have hM1 : 1 ≤ M := by rw [hM]; exact Nat.pow_pos (by omega)
  have hN8 := hsc.1
  rw [← hF]
  unfold NumsP
  rw [← hM] at hxl ⊢
  obtain ⟨b, off, c, rfl, hcb⟩ : ∃ b off c, va = .slice (some ⟨b, off, none⟩) M c ∧ ∀ i, i < M → w.cell? ⟨b, off + i, none⟩ = some (.int .i64 ((xb.getD i 0 : Nat) : Int)) := by
    obtain ⟨ao, c, hv, hr, -⟩ := hva
    rw [ints_len, hxl] at hv
    rcases hr with h | ⟨b, off, ha, hc⟩
    · have := congrArg List.length h; rw [ints_len, hxl] at this; simp at this; omega
    · exact ⟨b, off, c, by rw [hv, ha], fun i hi => by rw [hc i (by rw [ints_len, hxl]; exact hi), ints_get]⟩
  have hnb := hno b rfl
  have HF := Lib.hid hF
  have HUU := Lib.hid hu
  have HM := Lib.hid hM
  have HSC := Lib.hid hsc
  have HLE := Lib.hid hle
  have HXB := Lib.hid (show _ ∧ _ from ⟨hxl, hxb⟩)
  have HNB := Lib.hid hnb
  obtain ⟨W0, hW0⟩ : ∃ W0, W0 = ((w.alloc (.cells #[.slice (some ⟨gl, 0, none⟩) 997 cl, .slice (some ⟨gc, 0, none⟩) 1 cc] 105)).alloc (.cells #[.int .i64 N, .string s, .string r] 24)) := ⟨_, rfl⟩
  have HS0 : Hid (SS gl cl gc cc N s r w D L W0 D L vs) := by
    rw [hW0]
    have hb : Below w.heap.size w ((w.alloc (.cells #[.slice (some ⟨gl, 0, none⟩) 997 cl, .slice (some ⟨gc, 0, none⟩) 1 cc] 105)).alloc (.cells #[.int .i64 N, .string s, .string r] 24)) := ((Below.refl _ _).alloc (Nat.le_refl _) _).alloc (by simp) _
    refine ⟨ht.below hb (Nat.le_refl _), .of_below hb (Nat.le_refl _), fun k hk => .inl hk, ht.lt, ?_, ?_, Box.new _ _ _ (by simp) _ _ _, List.prefix_refl _⟩
    · rw [World.cell?_alloc_lt _ _ _ (by simp)]; simp
    · rw [World.cell?_alloc_lt _ _ _ (by simp)]; simp
  have hz0 : W0.heap.size = w.heap.size + 2 := by rw [hW0]; simp
  have HW0 := Lib.hid hW0
  have HKB0 : Hid (∀ i, i < M → W0.cell? ⟨b, off + i, none⟩ = some (.int .i64 ((xb.getD i 0 : Nat) : Int))) := fun i hi => by
    rw [HW0.out]
    have hb : Below w.heap.size w ((w.alloc (.cells #[.slice (some ⟨gl, 0, none⟩) 997 cl, .slice (some ⟨gc, 0, none⟩) 1 cc] 105)).alloc (.cells #[.int .i64 N, .string s, .string r] 24)) := ((Below.refl _ _).alloc (Nat.le_refl _) _).alloc (by simp) _
    exact ins.keepCell hb (hcb i hi)
  obtain ⟨i0, hi, hz1, hz2, hz3⟩ := info_parts infoI
  unfold tv
  clear hsc hle ht hF hM hW0 hu hva hno hcb hnb hxl hxb
  go_enter Tryd.func115, Tryd.ntmps115
  go_upto_region 1 with (fail)
  rw [← HW0.out]
  clear HW0
  have hz9 : w.heap.size + 2 ≤ W0.heap.size := by omega
  go_wp2_with (at_make; refine wpList_make_full _ rfl _ _ 32 rfl (w.heap.size + 2) 3 i0 (.int .i64 0) 1 Tryd.underlying32 hi hz1 hz2 _ _ _ _ M rfl rfl (by omega) (by omega) ?b2 ?b3 hz9 ?_)
  case b2 => rw [hz3]; omega
  case b3 => unfold maxLen; omega
  intro W2 hown0 hgrow0
  obtain ⟨g, hg⟩ : ∃ g, g = w.heap.size + 2 := ⟨_, rfl⟩
  have HST : Hid (∃ (xs : List Nat) (D1 : Nat → Prop) (L1 : List ByteArray) (vs1 : List Value), SS gl cl gc cc N s r w D L W2 D1 L1 vs1 ∧ OwnI 3 W2 (w.heap.size + 2) (.slice (some ⟨g, 0, none⟩) M M) (ints xs) ∧ ¬ D1 g ∧ Numd (TL L) (TL L1) N k 0 F xs ∧ ∀ i, i < M → W2.cell? ⟨b, off + i, none⟩ = some (.int .i64 ((xb.getD i 0 : Nat) : Int))) := by
    have hb0 : Below W0.heap.size W0 W2 := below_of_grown hgrow0 (Nat.le_refl _) (fun k h => by cases h)
    have h1 := OwnI.made hown0
    rw [← hg] at h1
    refine ⟨List.replicate M 0, D, L, vs, HS0.out.below hb0 (Nat.le_refl _), by rw [ints_rep]; exact h1.mono (by omega), fun h => ?_, ?_, fun i hi => ins.keepCell hb0 (HKB0.out i hi)⟩
    · have := HS0.out.tab.lt g h; omega
    · rw [HM.out]; exact numd_start _ _ _ _
  rw [← hg]
  clear hown0 hgrow0 hg HS0 HKB0 hi hz1 hz2 hz3 hz9 hz0
  go_wp2_with fail
  go_loopw [10] (fun iv wr => ∃ n : Nat, n ≤ M ∧ iv = .int .i64 n ∧ Hid (∃ (xs : List Nat) (D1 : Nat → Prop) (L1 : List ByteArray) (vs1 : List Value), SS gl cl gc cc N s r w D L wr D1 L1 vs1 ∧ OwnI 3 wr (w.heap.size + 2) (.slice (some ⟨g, 0, none⟩) M M) (ints xs) ∧ ¬ D1 g ∧ Numd (TL L) (TL L1) N k n F xs ∧ ∀ i, i < M → wr.cell? ⟨b, off + i, none⟩ = some (.int .i64 ((xb.getD i 0 : Nat) : Int)))) (fun iv _ => M - (intOf iv).toNat)
  case atStart => exact ⟨0, Nat.zero_le _, rfl, HST.out⟩
  case round =>
    clear HST
    obtain ⟨n, hn, rfl, hst⟩ := hrel
    obtain ⟨xs, D1, L1, vs1, hs2, how, hnd, hnum, hkb⟩ := hst.out
    have HS2 := Lib.hid hs2
    have HOW := Lib.hid how
    have HND := Lib.hid hnd
    have HNUM := Lib.hid hnum
    have HKB := Lib.hid hkb
    clear hst hs2 how hnd hnum hkb
    by_cases hlt : n < M
    · have y1 : (n : Int) < (M : Int) := by omega
      have HN : Hid (n < (N + 1) ^ k) := by rw [Hid, ← HM.out]; exact hlt
      have HLT := Lib.hid hlt
      obtain ⟨ps, hps⟩ : ∃ ps, ps = tup N k n := ⟨_, rfl⟩
      have HPS : Hid (ps.length = k ∧ (∀ p, p ∈ ps → p ≤ N) ∧ idx N ps = n ∧ ps = tup N k n) := by rw [hps]; exact ⟨tup_len _ _ _, tup_le N k n, idx_tup _ _ _ HN.out, rfl⟩
      obtain ⟨a0, a1, a2⟩ := Box.c HS2.out.box
      go_wp2_with fail
      clear a0 a1 a2
      refine (l7At_any N s r n k _ HSC.out.1 hk1 hk3 HN.out).mono ?_
      rintro er V1 ⟨v1, rfl, ho1, hb⟩
      rw [← hps] at ho1
      have HV1 := Lib.hid (HS2.out.below hb (Nat.le_refl _))
      have HOW1 := Lib.hid (HOW.out.below hb (Nat.le_refl _))
      have HR1 := Lib.hid ho1.reads
      have HKB1 : Hid (∀ i, i < M → V1.cell? ⟨b, off + i, none⟩ = some (.int .i64 ((xb.getD i 0 : Nat) : Int))) := fun i hi => ins.keepCell hb (HKB.out i hi)
      obtain ⟨b0, hb0⟩ : ∃ b0, b0 = xb.getD n 0 := ⟨_, rfl⟩
      have hb9 : b0 ≤ 1500 := by rw [hb0]; exact HXB.out.2 _ (get_mem (by rw [HXB.out.1]; exact hlt))
      have HB0 := Lib.hid hb0
      have kn := HKB1.out n hlt
      rw [← hb0] at kn
      clear hb ho1 hps HS2 HOW HKB hb0 hlt
      go_wp2_with fail
      clear kn
      refine (dec_any b0 _ (by omega)).mono ?_
      rintro er V2 ⟨rfl, hb⟩
      have HV2 := Lib.hid (HV1.out.below hb (Nat.le_refl _))
      have HOW2 := Lib.hid (HOW1.out.below hb (Nat.le_refl _))
      have HAS := Lib.hid (HR1.out.below hb (Nat.le_refl _))
      have HKB2 : Hid (∀ i, i < M → V2.cell? ⟨b, off + i, none⟩ = some (.int .i64 ((xb.getD i 0 : Nat) : Int))) := fun i hi => ins.keepCell hb (HKB1.out i hi)
      have hadd : ∀ W, (Op.stringOp .add ⟨#[99]⟩ (decB b0)).run Tryd.prog W = .ok (.string (⟨#[99]⟩ ++ decB b0)) W := fun W => run_string_add_sum W _ _ (by have := dec_size b0; have := cee_size; omega)
      obtain ⟨o0, ho0⟩ : ∃ o0 : ByteArray, o0 = ⟨#[99]⟩ ++ decB b0 := ⟨_, rfl⟩
      have HO0 : Hid (o0.data.toList = 99 :: (dec b0 ++ blocks (mvs N u ps 0)) ∧ o0.size ≤ 1600 + 0 * 13000) := by
        refine ⟨?_, ?_⟩
        · rw [ho0, ByteArray.data_append, Array.toList_append, decB_list]; simp [mvs, blocks]
        · rw [ho0, ByteArray.size_append]; have := dec_size b0; have := cee_size; omega
      rw [← ho0] at hadd
      clear hb ho0 HV1 HOW1 HR1 HKB1
      go_wp2_with fail
      clear hadd
      go_loopw [12, 13] (fun sv iv wi => ∃ (i : Nat) (o : ByteArray), i ≤ k ∧ iv = .int .i64 i ∧ sv = .string o ∧ Hid (o.data.toList = 99 :: (dec b0 ++ blocks (mvs N u ps i)) ∧ o.size ≤ 1600 + i * 13000) ∧ Hid (Below V2.heap.size V2 wi)) (fun _ iv _ => k - (intOf iv).toNat)
      case atStart => exact ⟨0, o0, Nat.zero_le _, rfl, rfl, HO0.out, Below.refl _ _⟩
      case round =>
        clear HO0
        obtain ⟨i, o, hi, rfl, rfl, HO, HBI⟩ := hrel
        by_cases hli : i < k
        · have y2 : (i : Int) < (k : Int) := by omega
          have HI := Lib.hid hli
          have BXI := Lib.hid (HV2.out.box.below HBI.out (by have := HV2.out.box.lt; omega))
          have HKI : Hid (∀ i, i < M → wr.cell? ⟨b, off + i, none⟩ = some (.int .i64 ((xb.getD i 0 : Nat) : Int))) := fun i hi => ins.keepCell HBI.out (HKB2.out i hi)
          have HAI := Lib.hid (HAS.out.below HBI.out (Nat.le_refl _))
          have hos : o.size ≤ 50000 := by have := HO.out.2; have h2 : i * 13000 ≤ 2 * 13000 := Nat.mul_le_mul_right _ (by omega); omega
          obtain ⟨wi, hwi⟩ : ∃ wi, wi = wr := ⟨_, rfl⟩
          rw [← hwi] at HBI BXI HKI HAI ⊢
          clear hwi hli
          obtain ⟨g0, hg0⟩ : ∃ g0, g0 = wi.heap.size := ⟨_, rfl⟩
          have HE0 : Hid (∃ (g2 c2 : Nat), Value.slice (some ⟨g0, 0, none⟩) 0 0 = .slice (some ⟨g2, 0, none⟩) 0 c2 ∧ OwnI 3 (wi.alloc (.cells #[] 3)) wi.heap.size (.slice (some ⟨g2, 0, none⟩) 0 c2) (sortI (ints (mv u ps i 0))) ∧ Below wi.heap.size wi (wi.alloc (.cells #[] 3))) := ⟨g0, 0, rfl, by rw [hg0, mv_zero]; exact empty_own wi, (Below.refl _ _).alloc (Nat.le_refl _) _⟩
          go_wp2_with fail
          rw [← hg0]
          clear hg0
          go_loopw [14, 15] (fun lv xv wx => ∃ x : Nat, x ≤ N ∧ xv = .int .i64 x ∧ Hid (∃ (g2 c2 : Nat), lv = .slice (some ⟨g2, 0, none⟩) x c2 ∧ OwnI 3 wx wi.heap.size (.slice (some ⟨g2, 0, none⟩) x c2) (sortI (ints (mv u ps i x))) ∧ Below wi.heap.size wi wx)) (fun _ xv _ => N - (intOf xv).toNat)
          case atStart => exact ⟨0, Nat.zero_le _, rfl, HE0.out⟩
          case round =>
            clear HE0
            obtain ⟨x, hx, rfl, hst⟩ := hrel
            obtain ⟨g2, c2, rfl, how, hbx⟩ := hst.out
            obtain ⟨wx, hwx⟩ : ∃ wx, wx = wr := ⟨_, rfl⟩
            rw [← hwx] at how hbx ⊢
            have HOWX := Lib.hid how
            have HBX := Lib.hid hbx
            have BXX := Lib.hid (BXI.out.below hbx BXI.out.lt)
            clear hst how hbx hwx
            obtain ⟨a0, a1, a2⟩ := Box.c BXX.out
            by_cases hlx : x < N
            · have y3 : (x : Int) < (N : Int) := by omega
              have HLX := Lib.hid hlx
              obtain ⟨J, hJ⟩ : ∃ J, J = idx N (ps.set i (x + 1)) := ⟨_, rfl⟩
              have HPX : Hid (∀ p, p ∈ ps.set i (x + 1) → p ≤ N) := fun p hp => by
                rcases List.mem_or_eq_of_mem_set hp with h | rfl
                · exact HPS.out.2.1 p h
                · omega
              have hJM : J < M := by
                rw [hJ, HM.out]
                exact idx_lt N k _ (by rw [List.length_set]; exact HPS.out.1) HPX.out
              have y4 : (J : Int) < (M : Int) := by omega
              obtain ⟨y, hy⟩ : ∃ y, y = xb.getD J 0 := ⟨_, rfl⟩
              have hy9 : y ≤ 1500 := by rw [hy]; exact HXB.out.2 _ (get_mem (by rw [HXB.out.1]; exact hJM))
              have HJ := Lib.hid hJ
              have HY : Hid (ints [u (ps.set i (x + 1))] = [(y : Int)]) := by rw [Hid, HUU.out, peb.numOf, ← HJ.out, hy]; rfl
              have hcJ : wx.cell? ⟨b, off + J, none⟩ = some (.int .i64 (y : Nat)) := by rw [hy]; exact ins.keepCell HBX.out (HKI.out J hJM)
              have HASX : Hid (Reads wx.drew v1 (pbs ps)) := (HAI.out.below HBX.out (Nat.le_refl _)).below (Below.refl _ _).drew (Nat.le_refl _)
              have HX0 : Hid (Box 24 wx.drew (w.heap.size + 1) N s r ∧ wx.drew.cell? ⟨b, off + J, none⟩ = some (.int .i64 (y : Nat)) ∧ OwnI 3 wx.drew wi.heap.size (.slice (some ⟨g2, 0, none⟩) x c2) (sortI (ints (mv u ps i x))) ∧ Below wi.heap.size wi wx.drew) := ⟨BXX.out, hcJ, HOWX.out.below (Below.refl _ _).drew (Nat.le_refl _), HBX.out.drew⟩
              clear hJ hy hcJ hJM hlx BXX HOWX HBX
              have q0 : ∀ QQ : Wd (fun Q => Q.cell? ⟨w.heap.size + 1, 0, none⟩ = some (.int .i64 N) ∧ Q.cell? ⟨w.heap.size + 1, 1, none⟩ = some (.string s) ∧ Q.cell? ⟨w.heap.size + 1, 2, none⟩ = some (.string r) ∧ Q.cell? ⟨b, off + J, none⟩ = some (.int .i64 (y : Nat))), QQ.w.cell? ⟨w.heap.size + 1, 0, none⟩ = some (.int .i64 N) := fun QQ => QQ.ok.1
              have q1 : ∀ QQ : Wd (fun Q => Q.cell? ⟨w.heap.size + 1, 0, none⟩ = some (.int .i64 N) ∧ Q.cell? ⟨w.heap.size + 1, 1, none⟩ = some (.string s) ∧ Q.cell? ⟨w.heap.size + 1, 2, none⟩ = some (.string r) ∧ Q.cell? ⟨b, off + J, none⟩ = some (.int .i64 (y : Nat))), QQ.w.cell? ⟨w.heap.size + 1, 1, none⟩ = some (.string s) := fun QQ => QQ.ok.2.1
              have q2 : ∀ QQ : Wd (fun Q => Q.cell? ⟨w.heap.size + 1, 0, none⟩ = some (.int .i64 N) ∧ Q.cell? ⟨w.heap.size + 1, 1, none⟩ = some (.string s) ∧ Q.cell? ⟨w.heap.size + 1, 2, none⟩ = some (.string r) ∧ Q.cell? ⟨b, off + J, none⟩ = some (.int .i64 (y : Nat))), QQ.w.cell? ⟨w.heap.size + 1, 2, none⟩ = some (.string r) := fun QQ => QQ.ok.2.2.1
              have q3 : ∀ QQ : Wd (fun Q => Q.cell? ⟨w.heap.size + 1, 0, none⟩ = some (.int .i64 N) ∧ Q.cell? ⟨w.heap.size + 1, 1, none⟩ = some (.string s) ∧ Q.cell? ⟨w.heap.size + 1, 2, none⟩ = some (.string r) ∧ Q.cell? ⟨b, off + J, none⟩ = some (.int .i64 (y : Nat))), QQ.w.cell? ⟨b, off + J, none⟩ = some (.int .i64 (y : Nat)) := fun QQ => QQ.ok.2.2.2
              have hne : Nonempty (Wd (fun Q => Q.cell? ⟨w.heap.size + 1, 0, none⟩ = some (.int .i64 N) ∧ Q.cell? ⟨w.heap.size + 1, 1, none⟩ = some (.string s) ∧ Q.cell? ⟨w.heap.size + 1, 2, none⟩ = some (.string r) ∧ Q.cell? ⟨b, off + J, none⟩ = some (.int .i64 (y : Nat)))) := ⟨⟨wx.drew, ⟨(Box.c HX0.out.1).1, (Box.c HX0.out.1).2.1, (Box.c HX0.out.1).2.2, HX0.out.2.1⟩⟩⟩
              go_wp2_with fail
              clear a0 a1 a2
              refine chain (S := (fun Q => Q.cell? ⟨w.heap.size + 1, 0, none⟩ = some (.int .i64 N) ∧ Q.cell? ⟨w.heap.size + 1, 1, none⟩ = some (.string s) ∧ Q.cell? ⟨w.heap.size + 1, 2, none⟩ = some (.string r) ∧ Q.cell? ⟨b, off + J, none⟩ = some (.int .i64 (y : Nat)))) [([true, true, true, true, true, true], 6), ([], 7), ([false, false, false, false, false, false, false, false, true, true], 10)] [false, false, false, false, false, false, false, false, false, false, false, true] (by kernel_rfl) (by kernel_rfl) (by kernel_rfl) ⟨(Box.c HX0.out.1).1, (Box.c HX0.out.1).2.1, (Box.c HX0.out.1).2.2, HX0.out.2.1⟩ ?_
              simp only [wpSegs, pickB, List.dropLast_cons_cons, List.dropLast_singleton, List.getLast?_cons_cons, List.getLast?_singleton, List.toList_toArray, List.getElem?_toArray, List.getElem?_cons_succ, List.getElem?_cons_zero, Option.toList_some]
              repeat (go_big_quiet_step (fail))
              refine wpQuiet_nil ?_
              intro K hK
              go_wp2_with fail
              refine (l7Put_any v1 (pbs ps) i (x : Int) _ HASX.out (by rw [pbs_len]; have := HPS.out.1; omega) (by rw [pbs_len]; have := HPS.out.1; omega)).mono ?_
              rintro er Z1 ⟨v2, rfl, ho, hb0⟩
              have hb := hb0
              have HX1 : Hid (Box 24 Z1 (w.heap.size + 1) N s r ∧ Z1.cell? ⟨b, off + J, none⟩ = some (.int .i64 (y : Nat)) ∧ OwnI 3 Z1 wi.heap.size (.slice (some ⟨g2, 0, none⟩) x c2) (sortI (ints (mv u ps i x))) ∧ Below wi.heap.size wi Z1) := ⟨HX0.out.1.below hb HX0.out.1.lt, ins.keepCell hb HX0.out.2.1, HX0.out.2.2.1.below hb (Nat.le_refl _), HX0.out.2.2.2.trans (hb.mono HX0.out.2.2.2.size)⟩
              have HP1 : Hid (Reads Z1 v2 (pbs (ps.set i (x + 1)))) := by rw [Hid, ← pbs_set]; exact ho.reads
              clear ho hb hb0 HX0 HASX
              go_wp2_with fail
              refine hK _ _ ⟨(Box.c HX1.out.1).1, (Box.c HX1.out.1).2.1, (Box.c HX1.out.1).2.2, HX1.out.2.1⟩ ?_
              clear hK K
              repeat (go_big_quiet_step (fail))
              refine wpQuiet_nil ?_
              intro K hK
              go_wp2_with fail
              refine (l7Index_any N s r v2 (ps.set i (x + 1)) _ hN8 HP1.out (by rw [List.length_set]; have := HPS.out.1; omega) HPX.out).mono ?_
              rintro er Z2 ⟨rfl, hb⟩
              have HX2 : Hid (Box 24 Z2 (w.heap.size + 1) N s r ∧ Z2.cell? ⟨b, off + J, none⟩ = some (.int .i64 (y : Nat)) ∧ OwnI 3 Z2 wi.heap.size (.slice (some ⟨g2, 0, none⟩) x c2) (sortI (ints (mv u ps i x))) ∧ Below wi.heap.size wi Z2) := ⟨HX1.out.1.below hb HX1.out.1.lt, ins.keepCell hb HX1.out.2.1, HX1.out.2.2.1.below hb (Nat.le_refl _), HX1.out.2.2.2.trans (hb.mono HX1.out.2.2.2.size)⟩
              rw [← HJ.out]
              clear hb HP1 HX1
              go_wp2_with fail
              refine hK _ _ ⟨(Box.c HX2.out.1).1, (Box.c HX2.out.1).2.1, (Box.c HX2.out.1).2.2, HX2.out.2.1⟩ ?_
              clear hK K
              repeat (go_big_quiet_step (fail))
              refine wpQuiet_nil ?_
              intro K hK
              go_wp2_with fail
              have hso := l8Sort_any wi.heap.size g2 c2 (ints (mv u ps i x)) (y : Int) Z2 (by rw [ints_len, mv_len]; exact HX2.out.2.2.1) HX2.out.2.2.2.size (by rw [ints_len, mv_len]; omega)
              rw [ints_len, mv_len] at hso
              refine hso.mono ?_
              clear hso
              rintro er Z3 ⟨g3, c3, rfl, ho, hb⟩
              have HX3 : Hid (OwnI 3 Z3 wi.heap.size (.slice (some ⟨g3, 0, none⟩) (x + 1) c3) (sortI (ints (mv u ps i (x + 1)))) ∧ Below wi.heap.size wi Z3 ∧ Box 24 Z3 (w.heap.size + 1) N s r ∧ Z3.cell? ⟨b, off + J, none⟩ = some (.int .i64 (y : Nat))) := ⟨by rw [mv_succ, ints_app, HY.out]; exact ho.mono HX2.out.2.2.2.size, HX2.out.2.2.2.trans (hb.mono HX2.out.2.2.2.size), HX2.out.1.below hb HX2.out.1.lt, ins.keepCell hb HX2.out.2.1⟩
              clear ho hb HX2
              go_wp2_with fail
              refine hK _ _ ⟨(Box.c HX3.out.2.2.1).1, (Box.c HX3.out.2.2.1).2.1, (Box.c HX3.out.2.2.1).2.2, HX3.out.2.2.2⟩ ?_
              clear hK K
              repeat (go_big_quiet_step (fail))
              refine wpQuiet_nil ?_
              clear q0 q1 q2 q3 hne
              have R : Hid (∃ (g2' c2' : Nat), Value.slice (some ⟨g3, 0, none⟩) (x + 1) c3 = .slice (some ⟨g2', 0, none⟩) (x + 1) c2' ∧ OwnI 3 Z3 wi.heap.size (.slice (some ⟨g2', 0, none⟩) (x + 1) c2') (sortI (ints (mv u ps i (x + 1)))) ∧ Below wi.heap.size wi Z3) := ⟨g3, c3, rfl, HX3.out.1, HX3.out.2.1⟩
              clear HX3
              go_wp2
              go_roundw
              case rel => exact ⟨x + 1, by have := HLX.out; omega, by go_num, R.out⟩
              case measure => simp [intOf]; have := HLX.out; omega
            · obtain rfl : x = N := by omega
              have HW : Hid (OwnI 3 wx wi.heap.size (.slice (some ⟨g2, 0, none⟩) x c2) (ints (peb.srt (mv u ps i x)))) := by rw [Hid, ← sort_ints]; exact HOWX.out
              obtain ⟨l, hl⟩ : ∃ l, l = peb.srt (mv u ps i x) := ⟨_, rfl⟩
              have HL : Hid (l.length = x ∧ (∀ z, z ∈ l → z ≤ 1500) ∧ l = peb.srt (mv u ps i x)) := by
                refine ⟨by rw [hl, (srt_perm _).length_eq, mv_len], fun z hz => ?_, hl⟩
                rw [hl] at hz
                have hz := (srt_perm _).mem_iff.1 hz
                obtain ⟨y, hy, rfl⟩ := List.mem_map.1 hz
                rw [HUU.out]
                unfold peb.numOf
                refine HXB.out.2 _ (get_mem ?_)
                rw [HXB.out.1, HM.out]
                refine idx_lt x k _ (by rw [List.length_set]; exact HPS.out.1) fun p hp => ?_
                have := List.mem_range.1 hy
                rcases List.mem_or_eq_of_mem_set hp with h | rfl
                · exact HPS.out.2.1 p h
                · omega
              rw [← hl] at HW
              have HBX2 := HBX
              clear hl HOWX
              go_wp2_with fail
              clear a0 a1 a2
              go_loopw [12, 16] (fun sv kv wk => ∃ (kk : Nat) (o2 : ByteArray), kk ≤ x ∧ kv = .int .i64 kk ∧ sv = .string o2 ∧ Hid (o2.data.toList = o.data.toList ++ commas (l.take kk) ∧ o2.size ≤ o.size + kk * 1600) ∧ Hid (Below wx.heap.size wx wk)) (fun _ kv _ => x - (intOf kv).toNat)
              case atStart => exact ⟨0, o, Nat.zero_le _, rfl, rfl, ⟨by simp [commas], by omega⟩, Below.refl _ _⟩
              case round =>
                obtain ⟨kk, o2, hkk, rfl, rfl, HO2, HBK⟩ := hrel
                have hk8 : kk * 1600 ≤ 8 * 1600 := Nat.mul_le_mul_right _ (by omega)
                have hos2 : o2.size ≤ 65000 := by have := HO2.out.2; omega
                by_cases hlk : kk < x
                · have y5 : (kk : Int) < (x : Int) := by omega
                  obtain ⟨z, hz⟩ : ∃ z, z = l.getD kk 0 := ⟨_, rfl⟩
                  have hkl : kk < l.length := by rw [HL.out.1]; exact hlk
                  have hz9 : z ≤ 1500 := by rw [hz]; exact HL.out.2.1 _ (get_mem hkl)
                  have kz : wr.cell? ⟨g2, kk, none⟩ = some (.int .i64 (z : Int)) := by
                    have h := HW.out.cell kk (by rw [ints_len]; exact hkl)
                    rw [ints_get, ← hz] at h
                    exact ins.keepCell HBK.out h
                  have hadd1 : ∀ W, (Op.stringOp .add o2 ⟨#[44]⟩).run Tryd.prog W = .ok (.string (o2 ++ ⟨#[44]⟩)) W := fun W => run_string_add_sum W _ _ (by have := comma_size; omega)
                  have hadd2 : ∀ W, (Op.stringOp .add (o2 ++ ⟨#[44]⟩) (decB z)).run Tryd.prog W = .ok (.string (o2 ++ ⟨#[44]⟩ ++ decB z)) W := fun W => run_string_add_sum W _ _ (by rw [ByteArray.size_append]; have := dec_size z; have := comma_size; omega)
                  have HN2 : Hid ((o2 ++ ⟨#[44]⟩ ++ decB z).data.toList = o.data.toList ++ commas (l.take (kk + 1)) ∧ (o2 ++ ⟨#[44]⟩ ++ decB z).size ≤ o.size + (kk + 1) * 1600) := by
                    refine ⟨?_, ?_⟩
                    · rw [ByteArray.data_append, Array.toList_append, ByteArray.data_append, Array.toList_append, decB_list, HO2.out.1, commas_take hkl, ← hz]; simp
                    · rw [ByteArray.size_append, ByteArray.size_append, Nat.succ_mul]; have := dec_size z; have := comma_size; have := HO2.out.2; omega
                  have HLK := Lib.hid hlk
                  clear hz HO2 hlk hkl hk8 hos2
                  go_wp2_with fail
                  clear kz
                  refine (dec_any z _ (by omega)).mono ?_
                  rintro er Y1 ⟨rfl, hb⟩
                  have HB1 : Hid (Below wx.heap.size wx Y1) := HBK.out.trans (hb.mono HBK.out.size)
                  clear hb HBK
                  go_wp2
                  go_roundw
                  case rel => exact ⟨kk + 1, _, by have := HLK.out; omega, by go_num, rfl, HN2.out, HB1.out⟩
                  case measure => simp [intOf]; have := HLK.out; omega
                · obtain rfl : kk = x := by omega
                  have hadd1 : ∀ W, (Op.stringOp .add o2 ⟨#[59]⟩).run Tryd.prog W = .ok (.string (o2 ++ ⟨#[59]⟩)) W := fun W => run_string_add_sum W _ _ (by have := semi_size; omega)
                  have HN2 : Hid ((o2 ++ ⟨#[59]⟩).data.toList = 99 :: (dec b0 ++ blocks (mvs kk u ps (i + 1))) ∧ (o2 ++ ⟨#[59]⟩).size ≤ 1600 + (i + 1) * 13000) := by
                    refine ⟨?_, ?_⟩
                    · have e : l.take kk = l := by rw [← HL.out.1, List.take_length]
                      rw [ByteArray.data_append, Array.toList_append, HO2.out.1, e, HO.out.1, mvs_succ, blocks_snoc, ← HL.out.2.2]; simp
                    · rw [ByteArray.size_append, Nat.succ_mul]; have := semi_size; have := HO2.out.2; have := HO.out.2; omega
                  have HB1 : Hid (Below V2.heap.size V2 wr) := HBI.out.trans ((HBX2.out.trans (HBK.out.mono HBX2.out.size)).mono HBI.out.size)
                  obtain ⟨o3, ho3⟩ : ∃ o3, o3 = o2 ++ ⟨#[59]⟩ := ⟨_, rfl⟩
                  rw [← ho3] at HN2 hadd1
                  clear HO2 HBK ho3 hk8 hos2
                  go_wp2
                  go_roundw
                  case rel => exact ⟨i + 1, o3, by have := HI.out; omega, by go_num, rfl, HN2.out, HB1.out⟩
                  case measure => simp [intOf]; have := HI.out; omega
        · obtain rfl : i = k := by omega
          have HU : Hid (o.data.toList = F (tup N i n)) := by
            have e : mvs N u ps i = moves N u ps := by rw [← mvs_all, HPS.out.1]
            have e2 : u ps = b0 := by rw [HUU.out, peb.numOf, HPS.out.2.2.1, HB0.out]
            rw [Hid, HO.out.1, HF.out, ← HPS.out.2.2.2, ttxL, ← HUU.out, e, e2]; rfl
          have hos : o.size ≤ 100000 := by have := HO.out.2; have h2 : i * 13000 ≤ 3 * 13000 := Nat.mul_le_mul_right _ hk3; omega
          have HV3 := Lib.hid (HV2.out.below HBI.out (Nat.le_refl _))
          have HOW3 := Lib.hid (HOW2.out.below HBI.out (Nat.le_refl _))
          have HKI : Hid (∀ i, i < M → wr.cell? ⟨b, off + i, none⟩ = some (.int .i64 ((xb.getD i 0 : Nat) : Int))) := fun i hi => ins.keepCell HBI.out (HKB2.out i hi)
          have hL9 : L1.length ≤ 100000 := by have h1 := HNUM.out.grow; rw [TL_len, TL_len] at h1; have h2 := HLE.out; omega
          have c0 := HV3.out.c0
          have c1 := HV3.out.c1
          clear HV2 HOW2 HKB2 HBI HO HAS
          go_wp2_with fail
          clear c0 c1
          have hc := number_any gl cl gc cc o wr D1 L1 vs1 HV3.out.tab hos hL9
          unfold tv at hc
          refine hc.mono ?_
          clear hc hL9 hos
          rintro er V4 ⟨m, L2, D2, vs2, rfl, hm, hat, htab, hout, hd⟩
          have HV4 := Lib.hid (HV3.out.step htab hout hd (TL_more hm).1)
          have HOW4 : Hid (OwnI 3 V4 (w.heap.size + 2) (.slice (some ⟨g, 0, none⟩) M M) (ints xs)) := Lib.hid (hout.owns HOW3.out (fun g hg => by cases hg; exact HND.out))
          have HN4 : Hid (¬ D2 g) := fun h => (hd g h).elim HND.out (fun e => by have := HOW3.out.ge; omega)
          have HNU : Hid (Numd (TL L) (TL L2) N i (n + 1) F (xs.set n m)) := HNUM.out.step (TL_step hm HU.out) (by rw [TL_at hat, HU.out]) HN.out
          have HB4 : Hid (b ≠ g ∧ ¬ D1 b) := by
            have h1 := HOW3.out.ge
            have h2 := HNB.out
            exact ⟨by omega, fun h => (HV3.out.d b h).elim h2.1 (fun e => by omega)⟩
          have HKB4 : Hid (∀ i, i < M → V4.cell? ⟨b, off + i, none⟩ = some (.int .i64 ((xb.getD i 0 : Nat) : Int))) := fun i hi => hout.cell (HKI.out i hi) HB4.out.2
          have hnx : n < xs.length := by rw [HNUM.out.len]; exact HN.out
          have k0 := HOW4.out.cell n (by rw [ints_len]; exact hnx)
          have f0 := HOW4.out.free n
          have HR : Hid (∃ (xs : List Nat) (D1 : Nat → Prop) (L1 : List ByteArray) (vs1 : List Value), SS gl cl gc cc N s r w D L (V4.setCell ⟨g, n, none⟩ (.int .i64 (m : Int))) D1 L1 vs1 ∧ OwnI 3 (V4.setCell ⟨g, n, none⟩ (.int .i64 (m : Int))) (w.heap.size + 2) (.slice (some ⟨g, 0, none⟩) M M) (ints xs) ∧ ¬ D1 g ∧ Numd (TL L) (TL L1) N i (n + 1) F xs ∧ ∀ i, i < M → (V4.setCell ⟨g, n, none⟩ (.int .i64 (m : Int))).cell? ⟨b, off + i, none⟩ = some (.int .i64 ((xb.getD i 0 : Nat) : Int))) := by
            refine ⟨_, D2, L2, vs2, ss_set HV4.out HOW4.out HN4.out (Nat.le_refl _) (m : Int) (j := n), ?_, HN4.out, HNU.out, fun i hi => ?_⟩
            · rw [ints_set]; exact HOW4.out.set n m
            · rw [World.cell?_setCell_other _ _ _ _ (fun e => HB4.out.1 (congrArg Addr.block e).symm)]; exact HKB4.out i hi
          clear hm hat htab hout hd HV3 HOW3 HU HND HNUM HKI HV4 HOW4 HN4 HNU HB4 HKB4 hnx
          go_wp2
          go_roundw
          case rel => exact ⟨n + 1, by have := HLT.out; omega, by go_num, HR.out⟩
          case measure => simp [intOf]; have := HLT.out; omega
    · obtain rfl : n = M := by omega
      go_wp2
      go_ret
      exact ⟨g, xs, L1, D1, vs1, rfl, HOW.out.mono (by omega), HND.out, HNUM.out.done HM.out, HS2.out.tab, HS2.out.out, fun j hj => (HS2.out.d j hj).imp id (fun e => by omega)⟩
end Go.Proofs.YtpcnoiigbmiejaaDoor.pbi
