/- The reference's SecondWins and SameRank. -/
import Derived.Test.YtpcnoiigbmiejaaDoorTypeS
import Derived.Test.YtpcnoiigbmiejaaDoorPkQ
namespace Go.Proofs.YtpcnoiigbmiejaaDoor.tab
set_option linter.unusedVariables false
set_option linter.unusedSimpArgs false
open Go.ChangeShapes Go.WideShapes Go.ChangeAt Go.RowKit
open Go.Proofs.YtpcnoiigbmiejaaDoor.lib Go.Proofs.YtpcnoiigbmiejaaDoor.st Go.Proofs.YtpcnoiigbmiejaaDoor.flow Go.Proofs.YtpcnoiigbmiejaaDoor.base Go.Proofs.YtpcnoiigbmiejaaDoor.chain Go.Proofs.YtpcnoiigbmiejaaDoor.gob Go.Proofs.YtpcnoiigbmiejaaDoor.gow Go.Proofs.YtpcnoiigbmiejaaDoor.gox Go.Proofs.YtpcnoiigbmiejaaDoor.still Go.Proofs.YtpcnoiigbmiejaaDoor.fits Go.Proofs.YtpcnoiigbmiejaaDoor.ispart Go.Proofs.YtpcnoiigbmiejaaDoor.pairL
theorem type_all : ∀ k, k ≤ 100 → TypeC k
  | 0, _ => type_zero
  | k + 1, h => type_succ k (by omega) (type_all k (by omega))
/-- under way in l5Wins -/
structure WS (gl cl gc cc N : Nat) (s r : ByteArray) (M : Nat) (t q : ByteArray) (w : World) (T : Nat) (W : World) (D : Nat → Prop) (L : List ByteArray) (vs : List Value) : Prop where
  tab : TabP gl cl gc cc W D L vs
  bel : Below w.heap.size w W
  c0 : W.cell? ⟨T, 0, none⟩ = some (.slice (some ⟨gl, 0, none⟩) 997 cl)
  c1 : W.cell? ⟨T, 1, none⟩ = some (.slice (some ⟨gc, 0, none⟩) 1 cc)
  ba : Box 24 W w.heap.size N s r
  bb : Box 24 W (w.heap.size + 1) M t q
  dl : ∀ k, D k → w.heap.size + 2 ≤ k
  nt : ¬ D T
section
variable {gl cl gc cc N M T : Nat} {s r t q : ByteArray} {w W W' : World} {D D' : Nat → Prop} {L L' : List ByteArray} {vs vs' : List Value}
theorem WS.below {C : Nat} (h : WS gl cl gc cc N s r M t q w T W D L vs) (hb : Below C W W') (hC : W.heap.size ≤ C) : WS gl cl gc cc N s r M t q w T W' D L vs where
  tab := h.tab.below hb hC
  bel := h.bel.trans (hb.mono (by have := h.bel.size; omega))
  c0 := ins.keepCell hb h.c0 hC
  c1 := ins.keepCell hb h.c1 hC
  ba := h.ba.below hb (by have := h.ba.lt; omega)
  bb := h.bb.below hb (by have := h.bb.lt; omega)
  dl := h.dl
  nt := h.nt
theorem WS.step (h : WS gl cl gc cc N s r M t q w T W D L vs) (ht : TabP gl cl gc cc W' D' L' vs') (ho : Out D W W') (hd : ∀ k, D' k → D k ∨ W.heap.size ≤ k) : WS gl cl gc cc N s r M t q w T W' D' L' vs' where
  tab := ht
  bel := h.bel.trans (ho.below (fun k hk => by have := h.dl k hk; omega) h.bel.size)
  c0 := ho.cell h.c0 h.nt
  c1 := ho.cell h.c1 h.nt
  ba := (ho.block _ h.ba.lt (fun hd => by have := h.dl _ hd; omega)).trans h.ba
  bb := (ho.block _ h.bb.lt (fun hd => by have := h.dl _ hd; omega)).trans h.bb
  dl := fun k hk => by
    rcases hd k hk with e | e
    · exact h.dl k e
    · have := h.bb.lt; omega
  nt := fun e => by
    have : T < W.heap.size := World.block_lt_of_cell? W ⟨T, 0, none⟩ h.c0
    rcases hd T e with e | e
    · exact h.nt e
    · omega
end
theorem out_reads {w W : World} {T : Nat} {gl cl gc cc N M : Nat} {s r t q : ByteArray} {D : Nat → Prop} {L : List ByteArray} {vs : List Value} (h : WS gl cl gc cc N s r M t q w T W D L vs) {v : Value} {l : List Nat} {K : Nat} (hl : Ls w v l K) (hv : ∀ g, v.ownBlock = some g → g < w.heap.size) : Ls W v l K ∧ ∀ g, v.ownBlock = some g → ¬ D g :=
  ⟨hl.below h.bel, fun g hg hd => by have := hv g hg; have := h.dl g hd; omega⟩
theorem beq_win {n m : Nat} {b : Bool} (h : n = m ↔ b = true) : ((n : Int) == (m : Int)) = b := by
  rw [beq_len]
  cases b with
  | true => exact decide_eq_true (h.2 rfl)
  | false => exact decide_eq_false fun e => by have := h.1 e; cases this

set_option maxHeartbeats 6400000 in
set_option maxRecDepth 100000 in
theorem wins_any (k : Nat) (hk : k ≤ 3) (N : Nat) (s r : ByteArray) (la : List Nat) (va : Value) (M : Nat) (t q : ByteArray) (lb : List Nat) (vb : Value) (x : Int) (w : World) (hx : x = k) (hsa : Sc N s r) (hsb : Sc M t q) (hla : Ls w va la N) (hlb : Ls w vb lb M) (hll : la.length = lb.length) (h4 : la.length ≤ 10)
    (hba : ∀ g, va.ownBlock = some g → g < w.heap.size) (hbb : ∀ g, vb.ownBlock = some g → g < w.heap.size) :
    Calls Tryd.prog 60 #[.agg #[.int .i64 N, .string s, .string r], va, .agg #[.int .i64 M, .string t, .string q], vb, .int .i64 x] w fun e w' => e = .returned (.bool (winB k N s r la M t q lb)) ∧ Below w.heap.size w w' := by
  obtain ⟨W2, hW2⟩ : ∃ QZ, QZ = (w.alloc (.cells #[.int .i64 N, .string s, .string r] 24)).alloc (.cells #[.int .i64 M, .string t, .string q] 24) := ⟨_, rfl⟩
  have HB2 : Hid (Box 24 W2 w.heap.size N s r ∧ Box 24 W2 (w.heap.size + 1) M t q ∧ Below w.heap.size w W2) := by
    rw [hW2]
    exact ⟨(Box.new 24 w _ rfl N s r).below ((Below.refl _ _).alloc (Nat.le_refl _) _) (Box.new 24 w _ rfl N s r).lt, Box.new 24 _ _ (by simp) M t q, ((Below.refl _ _).alloc (Nat.le_refl _) _).alloc (by simp) _⟩
  have hz2 : W2.heap.size = w.heap.size + 2 := by rw [hW2]; simp
  have HTC := Lib.hid (type_all k (by omega))
  have HX := Lib.hid hx
  have HSA := Lib.hid hsa
  have HSB := Lib.hid hsb
  have HLA := Lib.hid hla
  have HLB := Lib.hid hlb
  have HBA := Lib.hid hba
  have HBB := Lib.hid hbb
  have HLE : Hid (la.length + k ≤ 19) := by show la.length + k ≤ 19; omega
  have HLE2 : Hid (lb.length + k ≤ 19) := by show lb.length + k ≤ 19; omega
  have HLL := Lib.hid hll
  have HK : Hid (cost k + cost k ≤ 5000) := by
    show cost k + cost k ≤ 5000
    rcases (by omega : k = 0 ∨ k = 1 ∨ k = 2 ∨ k = 3) with rfl | rfl | rfl | rfl <;> decide
  have HZ2 := Lib.hid hz2
  have HW2 := Lib.hid hW2
  clear hx hsa hsb hla hlb hba hbb hll h4 hk hW2 hz2
  go_enter Tryd.func60, Tryd.ntmps60
  go_wp2_with fail
  rw [← HW2.out]
  refine (new_any _).mono ?_
  rintro er w1 ⟨gl, cl, gc, cc, D, vs, rfl, htab, hb, hD⟩
  obtain ⟨W3, hW3⟩ : ∃ W3, W3 = w1.alloc (.cells #[.slice (some ⟨gl, 0, none⟩) 997 cl, .slice (some ⟨gc, 0, none⟩) 1 cc] 105) := ⟨_, rfl⟩
  obtain ⟨T, hT⟩ : ∃ T, T = w1.heap.size := ⟨_, rfl⟩
  have HS0 : Hid (WS gl cl gc cc N s r M t q w T W3 D [] vs) := by
    have hw3 : Below w1.heap.size w1 W3 := by rw [hW3]; exact (Below.refl _ _).alloc (Nat.le_refl _) _
    have h23 : Below W2.heap.size W2 W3 := hb.trans (hw3.mono hb.size)
    have hz := HZ2.out
    refine ⟨htab.below hw3 (Nat.le_refl _), HB2.out.2.2.trans (h23.mono (by omega)), ?_, ?_, HB2.out.1.below h23 HB2.out.1.lt, HB2.out.2.1.below h23 HB2.out.2.1.lt, fun k hk => by have := hD k hk; omega, fun e => by have := htab.lt _ e; omega⟩
    · rw [hW3, hT]; simp
    · rw [hW3, hT]; simp
  have HC0 : Hid (([] : List ByteArray).length + cost k ≤ 5000) := by have := HK.out; show 0 + cost k ≤ 5000; omega
  have HW3 := Lib.hid hW3
  clear htab hb hD hW3
  unfold tv
  go_wp2_with fail
  rw [← hT]
  clear hT
  have q0 : ∀ QQ : Wd (fun Q => Q.cell? ⟨T, 0, none⟩ = some (.slice (some ⟨gl, 0, none⟩) 997 cl) ∧ Q.cell? ⟨T, 1, none⟩ = some (.slice (some ⟨gc, 0, none⟩) 1 cc) ∧ Q.cell? ⟨w.heap.size, 0, none⟩ = some (.int .i64 N) ∧ Q.cell? ⟨w.heap.size, 1, none⟩ = some (.string s) ∧ Q.cell? ⟨w.heap.size, 2, none⟩ = some (.string r) ∧ Q.cell? ⟨w.heap.size + 1, 0, none⟩ = some (.int .i64 M) ∧ Q.cell? ⟨w.heap.size + 1, 1, none⟩ = some (.string t) ∧ Q.cell? ⟨w.heap.size + 1, 2, none⟩ = some (.string q)), QQ.w.cell? ⟨T, 0, none⟩ = some (.slice (some ⟨gl, 0, none⟩) 997 cl) := fun QQ => QQ.ok.1
  have q1 : ∀ QQ : Wd (fun Q => Q.cell? ⟨T, 0, none⟩ = some (.slice (some ⟨gl, 0, none⟩) 997 cl) ∧ Q.cell? ⟨T, 1, none⟩ = some (.slice (some ⟨gc, 0, none⟩) 1 cc) ∧ Q.cell? ⟨w.heap.size, 0, none⟩ = some (.int .i64 N) ∧ Q.cell? ⟨w.heap.size, 1, none⟩ = some (.string s) ∧ Q.cell? ⟨w.heap.size, 2, none⟩ = some (.string r) ∧ Q.cell? ⟨w.heap.size + 1, 0, none⟩ = some (.int .i64 M) ∧ Q.cell? ⟨w.heap.size + 1, 1, none⟩ = some (.string t) ∧ Q.cell? ⟨w.heap.size + 1, 2, none⟩ = some (.string q)), QQ.w.cell? ⟨T, 1, none⟩ = some (.slice (some ⟨gc, 0, none⟩) 1 cc) := fun QQ => QQ.ok.2.1
  have q2 : ∀ QQ : Wd (fun Q => Q.cell? ⟨T, 0, none⟩ = some (.slice (some ⟨gl, 0, none⟩) 997 cl) ∧ Q.cell? ⟨T, 1, none⟩ = some (.slice (some ⟨gc, 0, none⟩) 1 cc) ∧ Q.cell? ⟨w.heap.size, 0, none⟩ = some (.int .i64 N) ∧ Q.cell? ⟨w.heap.size, 1, none⟩ = some (.string s) ∧ Q.cell? ⟨w.heap.size, 2, none⟩ = some (.string r) ∧ Q.cell? ⟨w.heap.size + 1, 0, none⟩ = some (.int .i64 M) ∧ Q.cell? ⟨w.heap.size + 1, 1, none⟩ = some (.string t) ∧ Q.cell? ⟨w.heap.size + 1, 2, none⟩ = some (.string q)), QQ.w.cell? ⟨w.heap.size, 0, none⟩ = some (.int .i64 N) := fun QQ => QQ.ok.2.2.1
  have q3 : ∀ QQ : Wd (fun Q => Q.cell? ⟨T, 0, none⟩ = some (.slice (some ⟨gl, 0, none⟩) 997 cl) ∧ Q.cell? ⟨T, 1, none⟩ = some (.slice (some ⟨gc, 0, none⟩) 1 cc) ∧ Q.cell? ⟨w.heap.size, 0, none⟩ = some (.int .i64 N) ∧ Q.cell? ⟨w.heap.size, 1, none⟩ = some (.string s) ∧ Q.cell? ⟨w.heap.size, 2, none⟩ = some (.string r) ∧ Q.cell? ⟨w.heap.size + 1, 0, none⟩ = some (.int .i64 M) ∧ Q.cell? ⟨w.heap.size + 1, 1, none⟩ = some (.string t) ∧ Q.cell? ⟨w.heap.size + 1, 2, none⟩ = some (.string q)), QQ.w.cell? ⟨w.heap.size, 1, none⟩ = some (.string s) := fun QQ => QQ.ok.2.2.2.1
  have q4 : ∀ QQ : Wd (fun Q => Q.cell? ⟨T, 0, none⟩ = some (.slice (some ⟨gl, 0, none⟩) 997 cl) ∧ Q.cell? ⟨T, 1, none⟩ = some (.slice (some ⟨gc, 0, none⟩) 1 cc) ∧ Q.cell? ⟨w.heap.size, 0, none⟩ = some (.int .i64 N) ∧ Q.cell? ⟨w.heap.size, 1, none⟩ = some (.string s) ∧ Q.cell? ⟨w.heap.size, 2, none⟩ = some (.string r) ∧ Q.cell? ⟨w.heap.size + 1, 0, none⟩ = some (.int .i64 M) ∧ Q.cell? ⟨w.heap.size + 1, 1, none⟩ = some (.string t) ∧ Q.cell? ⟨w.heap.size + 1, 2, none⟩ = some (.string q)), QQ.w.cell? ⟨w.heap.size, 2, none⟩ = some (.string r) := fun QQ => QQ.ok.2.2.2.2.1
  have q5 : ∀ QQ : Wd (fun Q => Q.cell? ⟨T, 0, none⟩ = some (.slice (some ⟨gl, 0, none⟩) 997 cl) ∧ Q.cell? ⟨T, 1, none⟩ = some (.slice (some ⟨gc, 0, none⟩) 1 cc) ∧ Q.cell? ⟨w.heap.size, 0, none⟩ = some (.int .i64 N) ∧ Q.cell? ⟨w.heap.size, 1, none⟩ = some (.string s) ∧ Q.cell? ⟨w.heap.size, 2, none⟩ = some (.string r) ∧ Q.cell? ⟨w.heap.size + 1, 0, none⟩ = some (.int .i64 M) ∧ Q.cell? ⟨w.heap.size + 1, 1, none⟩ = some (.string t) ∧ Q.cell? ⟨w.heap.size + 1, 2, none⟩ = some (.string q)), QQ.w.cell? ⟨w.heap.size + 1, 0, none⟩ = some (.int .i64 M) := fun QQ => QQ.ok.2.2.2.2.2.1
  have q6 : ∀ QQ : Wd (fun Q => Q.cell? ⟨T, 0, none⟩ = some (.slice (some ⟨gl, 0, none⟩) 997 cl) ∧ Q.cell? ⟨T, 1, none⟩ = some (.slice (some ⟨gc, 0, none⟩) 1 cc) ∧ Q.cell? ⟨w.heap.size, 0, none⟩ = some (.int .i64 N) ∧ Q.cell? ⟨w.heap.size, 1, none⟩ = some (.string s) ∧ Q.cell? ⟨w.heap.size, 2, none⟩ = some (.string r) ∧ Q.cell? ⟨w.heap.size + 1, 0, none⟩ = some (.int .i64 M) ∧ Q.cell? ⟨w.heap.size + 1, 1, none⟩ = some (.string t) ∧ Q.cell? ⟨w.heap.size + 1, 2, none⟩ = some (.string q)), QQ.w.cell? ⟨w.heap.size + 1, 1, none⟩ = some (.string t) := fun QQ => QQ.ok.2.2.2.2.2.2.1
  have q7 : ∀ QQ : Wd (fun Q => Q.cell? ⟨T, 0, none⟩ = some (.slice (some ⟨gl, 0, none⟩) 997 cl) ∧ Q.cell? ⟨T, 1, none⟩ = some (.slice (some ⟨gc, 0, none⟩) 1 cc) ∧ Q.cell? ⟨w.heap.size, 0, none⟩ = some (.int .i64 N) ∧ Q.cell? ⟨w.heap.size, 1, none⟩ = some (.string s) ∧ Q.cell? ⟨w.heap.size, 2, none⟩ = some (.string r) ∧ Q.cell? ⟨w.heap.size + 1, 0, none⟩ = some (.int .i64 M) ∧ Q.cell? ⟨w.heap.size + 1, 1, none⟩ = some (.string t) ∧ Q.cell? ⟨w.heap.size + 1, 2, none⟩ = some (.string q)), QQ.w.cell? ⟨w.heap.size + 1, 2, none⟩ = some (.string q) := fun QQ => QQ.ok.2.2.2.2.2.2.2
  have hne : Nonempty (Wd (fun Q => Q.cell? ⟨T, 0, none⟩ = some (.slice (some ⟨gl, 0, none⟩) 997 cl) ∧ Q.cell? ⟨T, 1, none⟩ = some (.slice (some ⟨gc, 0, none⟩) 1 cc) ∧ Q.cell? ⟨w.heap.size, 0, none⟩ = some (.int .i64 N) ∧ Q.cell? ⟨w.heap.size, 1, none⟩ = some (.string s) ∧ Q.cell? ⟨w.heap.size, 2, none⟩ = some (.string r) ∧ Q.cell? ⟨w.heap.size + 1, 0, none⟩ = some (.int .i64 M) ∧ Q.cell? ⟨w.heap.size + 1, 1, none⟩ = some (.string t) ∧ Q.cell? ⟨w.heap.size + 1, 2, none⟩ = some (.string q))) := ⟨⟨W3, ⟨HS0.out.c0, HS0.out.c1, (Box.c HS0.out.ba).1, (Box.c HS0.out.ba).2.1, (Box.c HS0.out.ba).2.2, (Box.c HS0.out.bb).1, (Box.c HS0.out.bb).2.1, (Box.c HS0.out.bb).2.2⟩⟩⟩
  go_wp2_with fail
  rw [← HW3.out]
  refine chain (S := (fun Q => Q.cell? ⟨T, 0, none⟩ = some (.slice (some ⟨gl, 0, none⟩) 997 cl) ∧ Q.cell? ⟨T, 1, none⟩ = some (.slice (some ⟨gc, 0, none⟩) 1 cc) ∧ Q.cell? ⟨w.heap.size, 0, none⟩ = some (.int .i64 N) ∧ Q.cell? ⟨w.heap.size, 1, none⟩ = some (.string s) ∧ Q.cell? ⟨w.heap.size, 2, none⟩ = some (.string r) ∧ Q.cell? ⟨w.heap.size + 1, 0, none⟩ = some (.int .i64 M) ∧ Q.cell? ⟨w.heap.size + 1, 1, none⟩ = some (.string t) ∧ Q.cell? ⟨w.heap.size + 1, 2, none⟩ = some (.string q))) [([true, true, true, true, false, true, true, true, true], 4), ([], 9)] [false, false, false, false, false, false, false, false, false, false, true, true] (by kernel_rfl) (by kernel_rfl) (by kernel_rfl) ⟨HS0.out.c0, HS0.out.c1, (Box.c HS0.out.ba).1, (Box.c HS0.out.ba).2.1, (Box.c HS0.out.ba).2.2, (Box.c HS0.out.bb).1, (Box.c HS0.out.bb).2.1, (Box.c HS0.out.bb).2.2⟩ ?_
  simp only [wpSegs, pickB, List.dropLast_cons_cons, List.dropLast_singleton, List.getLast?_cons_cons, List.getLast?_singleton, List.toList_toArray, List.getElem?_toArray, List.getElem?_cons_succ, List.getElem?_cons_zero, Option.toList_some]
  repeat (go_big_quiet_step (fail))
  refine wpQuiet_nil ?_
  intro K hK
  go_wp2_with fail
  refine (HTC.out gl cl gc cc N s r va la _ _ D [] vs HX.out HSA.out (out_reads (HS0.out.below (Below.refl _ _).drew (Nat.le_refl _)) HLA.out HBA.out).1 HLE.out (HS0.out.below (Below.refl _ _).drew (Nat.le_refl _)).tab HC0.out (out_reads HS0.out HLA.out HBA.out).2).mono ?_
  rintro er V1 ⟨n1, L1, D1, vs1, rfl, htab, hout, hd, hpre, hty, hln⟩
  have HS1 := Lib.hid ((HS0.out.below (Below.refl _ _).drew (Nat.le_refl _)).step htab hout hd)
  have HT1 := Lib.hid (show _ ∧ _ from ⟨hty, hln⟩)
  clear htab hout hd hpre hty hln
  go_wp2_with fail
  refine hK _ _ ⟨HS1.out.c0, HS1.out.c1, (Box.c HS1.out.ba).1, (Box.c HS1.out.ba).2.1, (Box.c HS1.out.ba).2.2, (Box.c HS1.out.bb).1, (Box.c HS1.out.bb).2.1, (Box.c HS1.out.bb).2.2⟩ ?_
  clear hK K
  repeat (go_big_quiet_step (fail))
  refine wpQuiet_nil ?_
  intro K hK
  go_wp2_with fail
  have HC1 : Hid (L1.length + cost k ≤ 5000) := by have h1 := HT1.out.2; have h2 := HK.out; have h3 : ([] : List ByteArray).length = 0 := rfl; exact (by omega : L1.length + cost k ≤ 5000)
  refine (HTC.out gl cl gc cc M t q vb lb _ _ D1 L1 vs1 HX.out HSB.out (out_reads HS1.out HLB.out HBB.out).1 HLE2.out HS1.out.tab HC1.out (out_reads HS1.out HLB.out HBB.out).2).mono ?_
  rintro er V2 ⟨n2, L2, D2, vs2, rfl, htab, hout, hd, hpre, hty, hln⟩
  have HS2 := Lib.hid (HS1.out.step htab hout hd)
  have HT2 := Lib.hid (show _ ∧ _ from ⟨hty, hpre⟩)
  clear htab hout hd hpre hty hln
  go_wp2_with fail
  refine hK _ _ ⟨HS2.out.c0, HS2.out.c1, (Box.c HS2.out.ba).1, (Box.c HS2.out.ba).2.1, (Box.c HS2.out.ba).2.2, (Box.c HS2.out.bb).1, (Box.c HS2.out.bb).2.1, (Box.c HS2.out.bb).2.2⟩ ?_
  clear hK K
  repeat (go_big_quiet_step (fail))
  refine wpQuiet_nil ?_
  clear q0 q1 q2 q3 q4 q5 q6 q7 hne
  go_wp2_with fail
  have HE : Hid (((n1 : Int) == (n2 : Int)) = winB k N s r la M t q lb) := by
    refine beq_win ?_
    refine (game.ty_iff (TL_nodup HS2.out.tab.nodup) HLL.out (fun z hz => HLA.out.2.2 z hz) (fun z hz => HLB.out.2.2 z hz) (HT1.out.1.mono HT2.out.2) HT2.out.1).trans ?_
    exact (win_iff HLL.out HLA.out.2.2 HLB.out.2.2).symm
  go_wp2
  go_ret
  exact ⟨congrArg (fun b => Ending.returned (.bool b)) HE.out, HS2.out.bel⟩
set_option maxHeartbeats 1600000 in
set_option maxRecDepth 100000 in
theorem specReady5_any (n : Int) (s r : ByteArray) (va : Value) (la : List Int) (m : Int) (t q : ByteArray) (vb : Value) (lb : List Int) (x : Int) (w : World) (ha : Reads w va la) (hb : Reads w vb lb) (hla : la.length ≤ 17592186044416) (hlb : lb.length ≤ 17592186044416)
    (hs : s.size ≤ 9223372036854775807) (hr : r.size ≤ 9223372036854775807) (ht : t.size ≤ 9223372036854775807) (hq : q.size ≤ 9223372036854775807) :
    Calls Tryd.prog 59 #[.agg #[.int .i64 n, .string s, .string r], va, .agg #[.int .i64 m, .string t, .string q], vb, .int .i64 x] w fun e w' => e = .returned (.bool (gmB n s r la m t q lb x)) ∧ Below w.heap.size w w' := by
  obtain ⟨W2, hW2⟩ : ∃ QZ, QZ = (w.alloc (.cells #[.int .i64 n, .string s, .string r] 24)).alloc (.cells #[.int .i64 m, .string t, .string q] 24) := ⟨_, rfl⟩
  have HB2 : Hid (Box 24 W2 w.heap.size n s r ∧ Box 24 W2 (w.heap.size + 1) m t q ∧ Below w.heap.size w W2) := by
    rw [hW2]
    exact ⟨(Box.new 24 w _ rfl n s r).below ((Below.refl _ _).alloc (Nat.le_refl _) _) (Box.new 24 w _ rfl n s r).lt, Box.new 24 _ _ (by simp) m t q, ((Below.refl _ _).alloc (Nat.le_refl _) _).alloc (by simp) _⟩
  have HC : Hid (Calls Tryd.prog 109 #[.agg #[.int .i64 n, .string s, .string r], va, .agg #[.int .i64 m, .string t, .string q], vb] W2 fun e w' => e = .returned (.bool (okLs n s r la m t q lb)) ∧ Below W2.heap.size W2 w') := l4Lists_any n s r va la m t q vb lb W2 (ha.below HB2.out.2.2 (Nat.le_refl _)) (hb.below HB2.out.2.2 (Nat.le_refl _)) hla hlb hs hr ht hq
  have HW2 := Lib.hid hW2
  obtain ⟨a0, a1, a2⟩ := HB2.out.1.c
  obtain ⟨b0, b1, b2⟩ := HB2.out.2.1.c
  rw [hW2] at a0 a1 a2 b0 b1 b2
  clear ha hb hla hlb hs hr ht hq hW2
  obtain ⟨o, ho⟩ : ∃ o, o = okLs n s r la m t q lb := ⟨_, rfl⟩
  have HG : Hid (gmB n s r la m t q lb x = (o && (decide (0 ≤ x) && decide (x ≤ 3)))) := by rw [ho]; rfl
  rw [← ho] at HC
  clear ho
  have step : ∀ (d1 d2 : Bool), decide (0 ≤ x) = d1 → decide (x ≤ 3) = d2 → Calls Tryd.prog 59 #[.agg #[.int .i64 n, .string s, .string r], va, .agg #[.int .i64 m, .string t, .string q], vb, .int .i64 x] w fun e w' => e = .returned (.bool (o && (d1 && d2))) ∧ Below w.heap.size w w' := fun d1 d2 h1 h2 => by
    cases o with
    | false =>
      go_enter Tryd.func59, Tryd.ntmps59
      go_wp2_with fail
      rw [← HW2.out]
      clear a0 a1 a2 b0 b1 b2
      refine HC.out.mono ?_
      rintro eo w1 ⟨rfl, hb⟩
      have HB9 := Lib.hid (HB2.out.2.2.trans (hb.mono HB2.out.2.2.size))
      clear hb
      go_wp2
      go_ret
      exact ⟨rfl, HB9.out⟩
    | true =>
      cases d1 with
      | false =>
        go_enter Tryd.func59, Tryd.ntmps59
        go_wp2_with fail
        rw [← HW2.out]
        clear a0 a1 a2 b0 b1 b2
        refine HC.out.mono ?_
        rintro eo w1 ⟨rfl, hb⟩
        have HB9 := Lib.hid (HB2.out.2.2.trans (hb.mono HB2.out.2.2.size))
        clear hb
        go_wp2
        go_ret
        exact ⟨rfl, HB9.out⟩
      | true =>
        cases d2 with
        | false =>
          go_enter Tryd.func59, Tryd.ntmps59
          go_wp2_with fail
          rw [← HW2.out]
          clear a0 a1 a2 b0 b1 b2
          refine HC.out.mono ?_
          rintro eo w1 ⟨rfl, hb⟩
          have HB9 := Lib.hid (HB2.out.2.2.trans (hb.mono HB2.out.2.2.size))
          clear hb
          go_wp2
          go_ret
          exact ⟨rfl, HB9.out⟩
        | true =>
          go_enter Tryd.func59, Tryd.ntmps59
          go_wp2_with fail
          rw [← HW2.out]
          clear a0 a1 a2 b0 b1 b2
          refine HC.out.mono ?_
          rintro eo w1 ⟨rfl, hb⟩
          have HB9 := Lib.hid (HB2.out.2.2.trans (hb.mono HB2.out.2.2.size))
          clear hb
          go_wp2
          go_ret
          exact ⟨rfl, HB9.out⟩
  rw [HG.out]
  exact step _ _ rfl rfl
set_option maxHeartbeats 1600000 in
set_option maxRecDepth 100000 in
theorem specSecondWins_any (n : Int) (s r : ByteArray) (va : Value) (la : List Int) (m : Int) (t q : ByteArray) (vb : Value) (lb : List Int) (x : Int) (w : World) (ha : Reads w va la) (hb : Reads w vb lb) (hla : la.length ≤ 17592186044416) (hlb : lb.length ≤ 17592186044416)
    (hs : s.size ≤ 9223372036854775807) (hr : r.size ≤ 9223372036854775807) (ht : t.size ≤ 9223372036854775807) (hq : q.size ≤ 9223372036854775807) (hroom : okLs n s r la m t q lb = true → Room va ∧ Room vb) (hba : ∀ g, va.ownBlock = some g → g < w.heap.size) (hbb : ∀ g, vb.ownBlock = some g → g < w.heap.size) :
    Calls Tryd.prog 18 #[.agg #[.int .i64 n, .string s, .string r], va, .agg #[.int .i64 m, .string t, .string q], vb, .int .i64 x] w fun e w' => e = .returned (.bool (swnB n s r la m t q lb x)) ∧ Below w.heap.size w w' := by
  obtain ⟨W2, hW2⟩ : ∃ QZ, QZ = (w.alloc (.cells #[.int .i64 n, .string s, .string r] 24)).alloc (.cells #[.int .i64 m, .string t, .string q] 24) := ⟨_, rfl⟩
  have HB2 : Hid (Box 24 W2 w.heap.size n s r ∧ Box 24 W2 (w.heap.size + 1) m t q ∧ Below w.heap.size w W2) := by
    rw [hW2]
    exact ⟨(Box.new 24 w _ rfl n s r).below ((Below.refl _ _).alloc (Nat.le_refl _) _) (Box.new 24 w _ rfl n s r).lt, Box.new 24 _ _ (by simp) m t q, ((Below.refl _ _).alloc (Nat.le_refl _) _).alloc (by simp) _⟩
  have HC : Hid (Calls Tryd.prog 59 #[.agg #[.int .i64 n, .string s, .string r], va, .agg #[.int .i64 m, .string t, .string q], vb, .int .i64 x] W2 fun e w' => e = .returned (.bool (gmB n s r la m t q lb x)) ∧ Below W2.heap.size W2 w') := specReady5_any n s r va la m t q vb lb x W2 (ha.below HB2.out.2.2 (Nat.le_refl _)) (hb.below HB2.out.2.2 (Nat.le_refl _)) hla hlb hs hr ht hq
  have HRD := Lib.hid (show _ ∧ _ from ⟨ha, hb⟩)
  have HBK := Lib.hid (show _ ∧ _ from ⟨hba, hbb⟩)
  have HRM := Lib.hid hroom
  have HW2 := Lib.hid hW2
  obtain ⟨a0, a1, a2⟩ := HB2.out.1.c
  obtain ⟨b0, b1, b2⟩ := HB2.out.2.1.c
  rw [hW2] at a0 a1 a2 b0 b1 b2
  clear hba hbb ha hb hla hlb hs hr ht hq hW2 hroom
  cases hg : gmB n s r la m t q lb x with
  | false =>
    rw [hg] at HC
    have HE : Hid (swnB n s r la m t q lb x = false) := by unfold Hid swnB; rw [hg]; rfl
    clear hg
    go_enter Tryd.func18, Tryd.ntmps18
    go_wp2_with fail
    rw [← HW2.out]
    clear a0 a1 a2 b0 b1 b2
    refine HC.out.mono ?_
    rintro eo w1 ⟨rfl, hb⟩
    have HB9 := Lib.hid (HB2.out.2.2.trans (hb.mono HB2.out.2.2.size))
    clear hb
    go_wp2
    go_ret
    exact ⟨by rw [HE.out]; rfl, HB9.out⟩
  | true =>
    rw [hg] at HC
    have hg2 := hg
    unfold gmB at hg2
    rw [Bool.and_eq_true, Bool.and_eq_true] at hg2
    obtain ⟨hk, hx0, hx3⟩ := hg2
    have hx0 := of_decide_eq_true hx0
    have hx3 := of_decide_eq_true hx3
    have hrm := HRM.out hk
    have HE : Hid (swnB n s r la m t q lb x = winB x.toNat n.toNat s r (nats la) m.toNat t q (nats lb)) := by unfold Hid swnB; rw [hg]; rfl
    obtain ⟨N, M, rfl, rfl, n1, n8, m1, m8, v1, v2, z1, z2, z3, z4, hl, h4, ea, eb, pa, pb⟩ := ok_facts hk
    obtain ⟨R, rfl⟩ : ∃ R : Nat, x = R := ⟨x.toNat, by omega⟩
    have HCW : Hid (∀ W : World, w.heap.size ≤ W.heap.size → Reads W va la → Reads W vb lb → Calls Tryd.prog 60 #[.agg #[.int .i64 N, .string s, .string r], va, .agg #[.int .i64 M, .string t, .string q], vb, .int .i64 R] W fun e w' => e = .returned (.bool (winB R N s r (nats la) M t q (nats lb))) ∧ Below W.heap.size W w') := fun W h0 h1 h2 =>
      wins_any R (by omega) N s r (nats la) va M t q (nats lb) vb R W rfl ⟨n8, z1, z2⟩ ⟨m8, z3, z4⟩ ⟨by rw [ea]; exact h1, hrm.1, pa⟩ ⟨by rw [eb]; exact h2, hrm.2, pb⟩ (by rw [nats_len, nats_len]; exact hl) (by rw [nats_len]; omega) (fun g hg => Nat.lt_of_lt_of_le (HBK.out.1 g hg) h0) (fun g hg => Nat.lt_of_lt_of_le (HBK.out.2 g hg) h0)
    have HE2 : Hid (swnB N s r la M t q lb R = winB R N s r (nats la) M t q (nats lb)) := by rw [Hid, HE.out]; rfl
    clear hg hk hrm ea eb pa pb HE hx0 hx3 hl h4 z1 z2 z3 z4 v1 v2 n1 n8 m1 m8
    obtain ⟨G, hG⟩ : ∃ G, G = winB R N s r (nats la) M t q (nats lb) := ⟨_, rfl⟩
    rw [← hG] at HE2 HCW
    clear hG
    go_enter Tryd.func18, Tryd.ntmps18
    go_wp2_with fail
    rw [← HW2.out]
    clear a0 a1 a2 b0 b1 b2
    refine HC.out.mono ?_
    rintro eo w1 ⟨rfl, hb⟩
    have HX := Lib.hid hb
    clear hb
    obtain ⟨a0, a1, a2⟩ := (HB2.out.1.below HX.out HB2.out.1.lt).c
    obtain ⟨b0, b1, b2⟩ := (HB2.out.2.1.below HX.out HB2.out.2.1.lt).c
    go_wp2_with fail
    refine (HCW.out _ (Nat.le_trans HB2.out.2.2.size HX.out.size) (HRD.out.1.below (HB2.out.2.2.trans (HX.out.mono HB2.out.2.2.size)) (Nat.le_refl _)) (HRD.out.2.below (HB2.out.2.2.trans (HX.out.mono HB2.out.2.2.size)) (Nat.le_refl _))).mono ?_
    rintro eo w2 ⟨rfl, hb⟩
    have HB9 := Lib.hid (HB2.out.2.2.trans ((HX.out.trans (hb.mono HX.out.size)).mono HB2.out.2.2.size))
    clear hb a0 a1 a2 b0 b1 b2
    rw [← HE2.out]
    go_wp2
    go_ret
    exact ⟨rfl, HB9.out⟩

set_option maxHeartbeats 1600000 in
set_option maxRecDepth 100000 in
theorem specSameRank_any (n : Int) (s r : ByteArray) (m : Int) (t q : ByteArray) (x : Int) (w : World)
    (hs : s.size ≤ 9223372036854775807) (hr : r.size ≤ 9223372036854775807) (ht : t.size ≤ 9223372036854775807) (hq : q.size ≤ 9223372036854775807) :
    Calls Tryd.prog 11 #[.agg #[.int .i64 n, .string s, .string r], .agg #[.int .i64 m, .string t, .string q], .int .i64 x] w fun e w' => e = .returned (.bool (swnB n s r [] m t q [] x)) ∧ Below w.heap.size w w' := by
  have HC := Lib.hid (fun (W : World) (k l : Nat) (h1 : k < W.heap.size) (h2 : l < W.heap.size) => specSecondWins_any n s r (.slice (some ⟨k, 0, none⟩) 0 0) [] m t q (.slice (some ⟨l, 0, none⟩) 0 0) [] x W ⟨_, 0, rfl, .inl rfl, fun e => by cases e⟩ ⟨_, 0, rfl, .inl rfl, fun e => by cases e⟩ (by decide) (by decide) hs hr ht hq (fun _ => ⟨⟨Nat.le_refl _, by decide⟩, Nat.le_refl _, by decide⟩) (fun g hg => by cases hg; exact h1) (fun g hg => by cases hg; exact h2))
  have HB0 : Hid (Below w.heap.size w ((((w.alloc (.cells #[.int .i64 n, .string s, .string r] 24)).alloc (.cells #[.int .i64 m, .string t, .string q] 24)).alloc (.cells #[] 3)).alloc (.cells #[] 3))) := ((((Below.refl _ _).alloc (Nat.le_refl _) _).alloc (by simp) _).alloc (by simp only [World.size_alloc]; omega) _).alloc (by simp only [World.size_alloc]; omega) _
  have hz : (((((w.alloc (.cells #[.int .i64 n, .string s, .string r] 24)).alloc (.cells #[.int .i64 m, .string t, .string q] 24)).alloc (.cells #[] 3)).alloc (.cells #[] 3))).heap.size = w.heap.size + 4 := by simp
  clear hs hr ht hq
  obtain ⟨W2, hW2⟩ : ∃ QZ, QZ = (((w.alloc (.cells #[.int .i64 n, .string s, .string r] 24)).alloc (.cells #[.int .i64 m, .string t, .string q] 24)).alloc (.cells #[] 3)).alloc (.cells #[] 3) := ⟨_, rfl⟩
  rw [← hW2] at HB0 hz
  have HW2 := Lib.hid hW2
  have HZ := Lib.hid hz
  clear hW2 hz
  go_enter Tryd.func11, Tryd.ntmps11
  go_wp2_with fail
  rw [← HW2.out]
  refine (HC.out _ _ _ (by have := HZ.out; omega) (by have := HZ.out; omega)).mono ?_
  rintro eo w1 ⟨rfl, hb⟩
  have HB9 := Lib.hid (HB0.out.trans (hb.mono HB0.out.size))
  clear hb
  go_wp2
  go_ret
  exact ⟨rfl, HB9.out⟩
end Go.Proofs.YtpcnoiigbmiejaaDoor.tab
