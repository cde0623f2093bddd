/- The reference's l5Type. -/
import Derived.Test.YtpcnoiigbmiejaaDoorPkT
namespace Go.Proofs.YtpcnoiigbmiejaaDoor.tab
set_option linter.unusedVariables false
set_option linter.unusedSimpArgs false
open Go.ChangeShapes Go.WideShapes Go.ChangeAt Go.RowKit
open Go.Proofs.YtpcnoiigbmiejaaDoor.lib Go.Proofs.YtpcnoiigbmiejaaDoor.st Go.Proofs.YtpcnoiigbmiejaaDoor.flow Go.Proofs.YtpcnoiigbmiejaaDoor.chain Go.Proofs.YtpcnoiigbmiejaaDoor.gob Go.Proofs.YtpcnoiigbmiejaaDoor.gow Go.Proofs.YtpcnoiigbmiejaaDoor.still Go.Proofs.YtpcnoiigbmiejaaDoor.fits
theorem str_add (a b : ByteArray) (h : a.size + b.size ≤ 100000) (W : World) : (Op.stringOp .add a b).run Tryd.prog W = .ok (.string (a ++ b)) W :=
  run_string_add_sum W _ _ (by omega)
theorem decB_size (n : Nat) : (decB n).size ≤ n + 1 := by
  have := dec_len n
  have e : (decB n).size = (decB n).data.toList.length := by simp
  rw [e, decB_list]; exact this
abbrev colon : ByteArray := ⟨#[58]⟩
abbrev comma : ByteArray := ⟨#[44]⟩
theorem app_list (a b : ByteArray) : (a ++ b).data.toList = a.data.toList ++ b.data.toList := by rw [ByteArray.data_append, Array.toList_append]

set_option maxHeartbeats 6400000 in
set_option maxRecDepth 100000 in
theorem type_zero : TypeC 0 := fun gl cl gc cc N s r v la x w D L vs hx hsc hls hle ht hco hno => by
  obtain rfl : x = 0 := hx
  obtain ⟨o0, ho0⟩ : ∃ o, o = gr N s r := ⟨_, rfl⟩
  have HSC := Lib.hid hsc
  have HNO := Lib.hid hno
  have HCO := Lib.hid hco
  have HLE := Lib.hid hle
  have HLS := Lib.hid hls
  have HS0 : Hid (SS gl cl gc cc N s r w D L ((w.alloc (.cells #[.slice (some ⟨gl, 0, none⟩) 997 cl, .slice (some ⟨gc, 0, none⟩) 1 cc] 105)).alloc (.cells #[.int .i64 N, .string s, .string r] 24)) D L vs) := by
    have hb : Below w.heap.size w ((w.alloc (.cells #[.slice (some ⟨gl, 0, none⟩) 997 cl, .slice (some ⟨gc, 0, none⟩) 1 cc] 105)).alloc (.cells #[.int .i64 N, .string s, .string r] 24)) := ((Below.refl _ _).alloc (Nat.le_refl _) _).alloc (by simp) _
    refine ⟨ht.below hb (Nat.le_refl _), .of_below hb (Nat.le_refl _), fun k hk => .inl hk, ht.lt, ?_, ?_, Box.new _ _ _ (by simp) _ _ _, List.prefix_refl _⟩
    · rw [World.cell?_alloc_lt _ _ _ (by simp)]; simp
    · rw [World.cell?_alloc_lt _ _ _ (by simp)]; simp
  unfold tv
  clear hsc hno hco hle hls ht
  go_enter Tryd.func111, Tryd.ntmps111
  go_wp2_with fail
  refine (atoms_any N s r v la _ HSC.out (HLS.out.below (((Below.refl _ _).alloc (Nat.le_refl _) _).alloc (by simp) _)) (by have := HLE.out; omega)).mono ?_
  rintro er W1 ⟨ou, rfl, hou, hos, hb⟩
  have HS1 := Lib.hid (HS0.out.below hb (by simp))
  have HO := Lib.hid hou
  clear hb HS0 hou
  have HLL : Hid (L.length ≤ 5000) := by have := HCO.out; simp only [cost] at this; exact (by omega : L.length ≤ 5000)
  have q0 : ∀ QQ : Wd (fun Q => Q.cell? ⟨w.heap.size, 0, none⟩ = some (.slice (some ⟨gl, 0, none⟩) 997 cl) ∧ Q.cell? ⟨w.heap.size, 1, none⟩ = some (.slice (some ⟨gc, 0, none⟩) 1 cc) ∧ Q.cell? ⟨w.heap.size + 1, 0, none⟩ = some (.int .i64 N) ∧ Q.cell? ⟨w.heap.size + 1, 1, none⟩ = some (.string s) ∧ Q.cell? ⟨w.heap.size + 1, 2, none⟩ = some (.string r)), QQ.w.cell? ⟨w.heap.size, 0, none⟩ = some (.slice (some ⟨gl, 0, none⟩) 997 cl) := fun QQ => QQ.ok.1
  have q1 : ∀ QQ : Wd (fun Q => Q.cell? ⟨w.heap.size, 0, none⟩ = some (.slice (some ⟨gl, 0, none⟩) 997 cl) ∧ Q.cell? ⟨w.heap.size, 1, none⟩ = some (.slice (some ⟨gc, 0, none⟩) 1 cc) ∧ Q.cell? ⟨w.heap.size + 1, 0, none⟩ = some (.int .i64 N) ∧ Q.cell? ⟨w.heap.size + 1, 1, none⟩ = some (.string s) ∧ Q.cell? ⟨w.heap.size + 1, 2, none⟩ = some (.string r)), QQ.w.cell? ⟨w.heap.size, 1, none⟩ = some (.slice (some ⟨gc, 0, none⟩) 1 cc) := fun QQ => QQ.ok.2.1
  have q2 : ∀ QQ : Wd (fun Q => Q.cell? ⟨w.heap.size, 0, none⟩ = some (.slice (some ⟨gl, 0, none⟩) 997 cl) ∧ Q.cell? ⟨w.heap.size, 1, none⟩ = some (.slice (some ⟨gc, 0, none⟩) 1 cc) ∧ Q.cell? ⟨w.heap.size + 1, 0, none⟩ = some (.int .i64 N) ∧ Q.cell? ⟨w.heap.size + 1, 1, none⟩ = some (.string s) ∧ Q.cell? ⟨w.heap.size + 1, 2, none⟩ = some (.string r)), QQ.w.cell? ⟨w.heap.size + 1, 0, none⟩ = some (.int .i64 N) := fun QQ => QQ.ok.2.2.1
  have q3 : ∀ QQ : Wd (fun Q => Q.cell? ⟨w.heap.size, 0, none⟩ = some (.slice (some ⟨gl, 0, none⟩) 997 cl) ∧ Q.cell? ⟨w.heap.size, 1, none⟩ = some (.slice (some ⟨gc, 0, none⟩) 1 cc) ∧ Q.cell? ⟨w.heap.size + 1, 0, none⟩ = some (.int .i64 N) ∧ Q.cell? ⟨w.heap.size + 1, 1, none⟩ = some (.string s) ∧ Q.cell? ⟨w.heap.size + 1, 2, none⟩ = some (.string r)), QQ.w.cell? ⟨w.heap.size + 1, 1, none⟩ = some (.string s) := fun QQ => QQ.ok.2.2.2.1
  have q4 : ∀ QQ : Wd (fun Q => Q.cell? ⟨w.heap.size, 0, none⟩ = some (.slice (some ⟨gl, 0, none⟩) 997 cl) ∧ Q.cell? ⟨w.heap.size, 1, none⟩ = some (.slice (some ⟨gc, 0, none⟩) 1 cc) ∧ Q.cell? ⟨w.heap.size + 1, 0, none⟩ = some (.int .i64 N) ∧ Q.cell? ⟨w.heap.size + 1, 1, none⟩ = some (.string s) ∧ Q.cell? ⟨w.heap.size + 1, 2, none⟩ = some (.string r)), QQ.w.cell? ⟨w.heap.size + 1, 2, none⟩ = some (.string r) := fun QQ => QQ.ok.2.2.2.2
  have hne : Nonempty (Wd (fun Q => Q.cell? ⟨w.heap.size, 0, none⟩ = some (.slice (some ⟨gl, 0, none⟩) 997 cl) ∧ Q.cell? ⟨w.heap.size, 1, none⟩ = some (.slice (some ⟨gc, 0, none⟩) 1 cc) ∧ Q.cell? ⟨w.heap.size + 1, 0, none⟩ = some (.int .i64 N) ∧ Q.cell? ⟨w.heap.size + 1, 1, none⟩ = some (.string s) ∧ Q.cell? ⟨w.heap.size + 1, 2, none⟩ = some (.string r))) := ⟨⟨W1, ⟨HS1.out.c0, HS1.out.c1, (Box.c HS1.out.box).1, (Box.c HS1.out.box).2.1, (Box.c HS1.out.box).2.2⟩⟩⟩
  have hadd1 := fun W => str_add (decB 0) ⟨#[58]⟩ (by have := decB_size 0; have : ByteArray.size ⟨#[58]⟩ = 1 := rfl; omega) W
  have hadd2 := fun W => str_add (decB 0 ++ ⟨#[58]⟩) ou (by rw [ByteArray.size_append]; have := decB_size 0; have : ByteArray.size ⟨#[58]⟩ = 1 := rfl; omega) W
  go_wp2_with fail
  refine chain (S := (fun Q => Q.cell? ⟨w.heap.size, 0, none⟩ = some (.slice (some ⟨gl, 0, none⟩) 997 cl) ∧ Q.cell? ⟨w.heap.size, 1, none⟩ = some (.slice (some ⟨gc, 0, none⟩) 1 cc) ∧ Q.cell? ⟨w.heap.size + 1, 0, none⟩ = some (.int .i64 N) ∧ Q.cell? ⟨w.heap.size + 1, 1, none⟩ = some (.string s) ∧ Q.cell? ⟨w.heap.size + 1, 2, none⟩ = some (.string r))) [([true, true, false, false, true], 2), ([false, false, false, true, false, true], 6)] [false, false, false, false, false, false, false, true] (by kernel_rfl) (by kernel_rfl) (by kernel_rfl) ⟨HS1.out.c0, HS1.out.c1, (Box.c HS1.out.box).1, (Box.c HS1.out.box).2.1, (Box.c HS1.out.box).2.2⟩ ?_
  simp only [wpSegs, pickB, List.dropLast_cons_cons, List.dropLast_singleton, List.getLast?_cons_cons, List.getLast?_singleton, List.toList_toArray, List.getElem?_toArray, List.getElem?_cons_succ, List.getElem?_cons_zero, Option.toList_some]
  repeat (go_big_quiet_step (fail))
  refine wpQuiet_nil ?_
  intro K hK
  go_wp2_with fail
  refine (dec_any 0 _ (by omega)).mono ?_
  rintro er Z1 ⟨rfl, hb⟩
  have HZ1 := Lib.hid (HS1.out.below (W' := Z1) (((Below.refl _ _).drew).trans hb) (Nat.le_refl _))
  clear hb
  go_wp2_with fail
  refine hK _ _ ⟨HZ1.out.c0, HZ1.out.c1, (Box.c HZ1.out.box).1, (Box.c HZ1.out.box).2.1, (Box.c HZ1.out.box).2.2⟩ ?_
  clear hK K
  repeat (go_big_quiet_step (fail))
  refine wpQuiet_nil ?_
  intro K hK
  go_wp2_with fail
  have hsz : (decB 0 ++ ⟨#[58]⟩ ++ ou).size ≤ 100000 := by
    rw [ByteArray.size_append, ByteArray.size_append]; have := decB_size 0; have : ByteArray.size ⟨#[58]⟩ = 1 := rfl; omega
  have hc := number_any gl cl gc cc (decB 0 ++ ⟨#[58]⟩ ++ ou) Z1 D L vs HZ1.out.tab hsz (by have := HLL.out; omega)
  unfold tv at hc
  refine hc.mono ?_
  clear hc hsz
  rintro er Z2 ⟨n, L2, D2, vs2, rfl, hm, hat, htab, hout, hd⟩
  have HZ2 := Lib.hid (HZ1.out.step htab hout hd (TL_more hm).1)
  have HAT := Lib.hid (TL_at hat)
  have HM := Lib.hid (TL_more hm)
  clear hm hat htab hout hd
  go_wp2_with fail
  refine hK _ _ ⟨HZ2.out.c0, HZ2.out.c1, (Box.c HZ2.out.box).1, (Box.c HZ2.out.box).2.1, (Box.c HZ2.out.box).2.2⟩ ?_
  clear hK K
  repeat (go_big_quiet_step (fail))
  refine wpQuiet_nil ?_
  clear q0 q1 q2 q3 q4 hne hadd1 hadd2
  go_wp2
  go_ret
  refine ⟨n, L2, D2, vs2, rfl, HZ2.out.tab, HZ2.out.out, fun j hj => ?_, HZ2.out.pre, ?_, ?_⟩
  · rcases HZ2.out.d j hj with e | e
    · exact .inl e
    · exact .inr (by omega)
  · show (TL L2)[n]? = some _
    rw [HAT.out, app_list, app_list, decB_list, HO.out]
    simp [game.txt, game.commas]
  · exact HM.out.2

set_option maxHeartbeats 6400000 in
set_option maxRecDepth 100000 in
theorem type_succ (k : Nat) (hk : k ≤ 1000) (htc : TypeC k) : TypeC (k + 1) := fun gl cl gc cc N s r v la x w D L vs hx hsc hls hle ht hco hno => by
  obtain ⟨x0, hx0⟩ : ∃ x0 : Int, x0 = ((k + 1 : Nat) : Int) := ⟨_, rfl⟩
  rw [← hx0] at hx
  subst hx
  have hx1 : decide (0 < x) = true := decide_eq_true (by omega)
  have HX := Lib.hid hx0
  have HTC := Lib.hid htc
  have hN8 := hsc.1
  clear hx0 htc
  obtain ⟨o0, ho0⟩ : ∃ o, o = gr N s r := ⟨_, rfl⟩
  have HSC := Lib.hid hsc
  have HNO := Lib.hid hno
  have HCO := Lib.hid hco
  have HLE := Lib.hid hle
  have HLS := Lib.hid hls
  have HS0 : Hid (SS gl cl gc cc N s r w D L ((w.alloc (.cells #[.slice (some ⟨gl, 0, none⟩) 997 cl, .slice (some ⟨gc, 0, none⟩) 1 cc] 105)).alloc (.cells #[.int .i64 N, .string s, .string r] 24)) D L vs) := by
    have hb : Below w.heap.size w ((w.alloc (.cells #[.slice (some ⟨gl, 0, none⟩) 997 cl, .slice (some ⟨gc, 0, none⟩) 1 cc] 105)).alloc (.cells #[.int .i64 N, .string s, .string r] 24)) := ((Below.refl _ _).alloc (Nat.le_refl _) _).alloc (by simp) _
    refine ⟨ht.below hb (Nat.le_refl _), .of_below hb (Nat.le_refl _), fun k hk => .inl hk, ht.lt, ?_, ?_, Box.new _ _ _ (by simp) _ _ _, List.prefix_refl _⟩
    · rw [World.cell?_alloc_lt _ _ _ (by simp)]; simp
    · rw [World.cell?_alloc_lt _ _ _ (by simp)]; simp
  unfold tv
  clear hsc hno hco hle hls ht
  go_enter Tryd.func111, Tryd.ntmps111
  go_wp2_with fail
  refine (atoms_any N s r v la _ HSC.out (HLS.out.below (((Below.refl _ _).alloc (Nat.le_refl _) _).alloc (by simp) _)) (by have := HLE.out; omega)).mono ?_
  rintro er W1 ⟨ou, rfl, hou, hos, hb⟩
  have HS1 := Lib.hid (HS0.out.below hb (by simp))
  have HO := Lib.hid hou
  clear hb HS0 hou
  have hou2 : ou.size ≤ 2000 := hos
  go_wp2_with fail
  obtain ⟨g0, hg0⟩ : ∃ g, g = W1.heap.size := ⟨_, rfl⟩
  have HST : Hid (∃ (f : Nat → Nat) (D1 : Nat → Prop) (L1 : List ByteArray) (vs1 : List Value), SS gl cl gc cc N s r w D L (W1.alloc (.cells #[] 3)) D1 L1 vs1 ∧ OwnI 3 (W1.alloc (.cells #[] 3)) (w.heap.size + 2) (.slice (some ⟨g0, 0, none⟩) (gath f 0).length 0) (gath f 0) ∧ ¬ D1 g0 ∧ 0 = (gath f 0).length ∧ (∀ i, i < 0 → game.Ty (TL L1) (gr N s r) k (la ++ [i]) (f i)) ∧ L1.length ≤ L.length + 0 * cost k) := by
    have hb : Below W1.heap.size W1 (W1.alloc (.cells #[] 3)) := (Below.refl _ _).alloc (Nat.le_refl _) _
    refine ⟨fun _ => 0, D, L, vs, HS1.out.below hb (Nat.le_refl _), ?_, ?_, rfl, fun i hi => by omega, by omega⟩
    · have := empty_own W1
      rw [← hg0] at this
      exact this.mono (by have := HS1.out.lt; omega)
    · intro h; have := HS1.out.tab.lt g0 h; omega
  rw [← hg0]
  clear hg0
  go_loopw [10, 11] (fun l yv wr => ∃ (y g ln c : Nat), y ≤ N ∧ yv = .int .i64 y ∧ l = .slice (some ⟨g, 0, none⟩) ln c ∧ Hid (∃ (f : Nat → Nat) (D1 : Nat → Prop) (L1 : List ByteArray) (vs1 : List Value), SS gl cl gc cc N s r w D L wr D1 L1 vs1 ∧ OwnI 3 wr (w.heap.size + 2) (.slice (some ⟨g, 0, none⟩) (gath f y).length c) (gath f y) ∧ ¬ D1 g ∧ ln = (gath f y).length ∧ (∀ i, i < y → game.Ty (TL L1) (gr N s r) k (la ++ [i]) (f i)) ∧ L1.length ≤ L.length + y * cost k)) (fun _ yv _ => N - (intOf yv).toNat)
  case atStart => exact ⟨0, g0, 0, 0, Nat.zero_le _, rfl, rfl, HST.out⟩
  case round =>
    clear HST HS1
    obtain ⟨y, g, ln, c, hy, rfl, rfl, hst⟩ := hrel
    obtain ⟨f, D1, L1, vs1, hs2, how, hnd, hln, hty, hL1⟩ := hst.out
    have HS2 := Lib.hid hs2
    have HOW := Lib.hid how
    have HND := Lib.hid hnd
    have HLN := Lib.hid hln
    have HTF := Lib.hid hty
    have HL1 := Lib.hid hL1
    clear hst hs2 how hnd hln hty hL1
    obtain ⟨b0, b1, b2⟩ := Box.c HS2.out.box
    by_cases hlt : y < N
    · have y1 : (y : Int) < (N : Int) := by omega
      have HYN := Lib.hid hlt
      have hwx : IntKind.i64.wrap (x - 1) = (k : Int) := by rw [HX.out, IntWalk.i64_in _ (by omega)]; omega
      have HC1 : Hid (L1.length + cost k ≤ 5000) := by
        have h1 := HCO.out
        have h2 := HL1.out
        simp only [cost] at h1
        have h3 : y * cost k + cost k ≤ 8 * cost k := by
          rw [← Nat.succ_mul]; exact Nat.mul_le_mul_right _ (by omega)
        show L1.length + cost k ≤ 5000
        omega
      rw [HLN.out]
      have q0 : ∀ QQ : Wd (fun Q => Q.cell? ⟨w.heap.size, 0, none⟩ = some (.slice (some ⟨gl, 0, none⟩) 997 cl) ∧ Q.cell? ⟨w.heap.size, 1, none⟩ = some (.slice (some ⟨gc, 0, none⟩) 1 cc) ∧ Q.cell? ⟨w.heap.size + 1, 0, none⟩ = some (.int .i64 N) ∧ Q.cell? ⟨w.heap.size + 1, 1, none⟩ = some (.string s) ∧ Q.cell? ⟨w.heap.size + 1, 2, none⟩ = some (.string r)), QQ.w.cell? ⟨w.heap.size, 0, none⟩ = some (.slice (some ⟨gl, 0, none⟩) 997 cl) := fun QQ => QQ.ok.1
      have q1 : ∀ QQ : Wd (fun Q => Q.cell? ⟨w.heap.size, 0, none⟩ = some (.slice (some ⟨gl, 0, none⟩) 997 cl) ∧ Q.cell? ⟨w.heap.size, 1, none⟩ = some (.slice (some ⟨gc, 0, none⟩) 1 cc) ∧ Q.cell? ⟨w.heap.size + 1, 0, none⟩ = some (.int .i64 N) ∧ Q.cell? ⟨w.heap.size + 1, 1, none⟩ = some (.string s) ∧ Q.cell? ⟨w.heap.size + 1, 2, none⟩ = some (.string r)), QQ.w.cell? ⟨w.heap.size, 1, none⟩ = some (.slice (some ⟨gc, 0, none⟩) 1 cc) := fun QQ => QQ.ok.2.1
      have q2 : ∀ QQ : Wd (fun Q => Q.cell? ⟨w.heap.size, 0, none⟩ = some (.slice (some ⟨gl, 0, none⟩) 997 cl) ∧ Q.cell? ⟨w.heap.size, 1, none⟩ = some (.slice (some ⟨gc, 0, none⟩) 1 cc) ∧ Q.cell? ⟨w.heap.size + 1, 0, none⟩ = some (.int .i64 N) ∧ Q.cell? ⟨w.heap.size + 1, 1, none⟩ = some (.string s) ∧ Q.cell? ⟨w.heap.size + 1, 2, none⟩ = some (.string r)), QQ.w.cell? ⟨w.heap.size + 1, 0, none⟩ = some (.int .i64 N) := fun QQ => QQ.ok.2.2.1
      have q3 : ∀ QQ : Wd (fun Q => Q.cell? ⟨w.heap.size, 0, none⟩ = some (.slice (some ⟨gl, 0, none⟩) 997 cl) ∧ Q.cell? ⟨w.heap.size, 1, none⟩ = some (.slice (some ⟨gc, 0, none⟩) 1 cc) ∧ Q.cell? ⟨w.heap.size + 1, 0, none⟩ = some (.int .i64 N) ∧ Q.cell? ⟨w.heap.size + 1, 1, none⟩ = some (.string s) ∧ Q.cell? ⟨w.heap.size + 1, 2, none⟩ = some (.string r)), QQ.w.cell? ⟨w.heap.size + 1, 1, none⟩ = some (.string s) := fun QQ => QQ.ok.2.2.2.1
      have q4 : ∀ QQ : Wd (fun Q => Q.cell? ⟨w.heap.size, 0, none⟩ = some (.slice (some ⟨gl, 0, none⟩) 997 cl) ∧ Q.cell? ⟨w.heap.size, 1, none⟩ = some (.slice (some ⟨gc, 0, none⟩) 1 cc) ∧ Q.cell? ⟨w.heap.size + 1, 0, none⟩ = some (.int .i64 N) ∧ Q.cell? ⟨w.heap.size + 1, 1, none⟩ = some (.string s) ∧ Q.cell? ⟨w.heap.size + 1, 2, none⟩ = some (.string r)), QQ.w.cell? ⟨w.heap.size + 1, 2, none⟩ = some (.string r) := fun QQ => QQ.ok.2.2.2.2
      have hne : Nonempty (Wd (fun Q => Q.cell? ⟨w.heap.size, 0, none⟩ = some (.slice (some ⟨gl, 0, none⟩) 997 cl) ∧ Q.cell? ⟨w.heap.size, 1, none⟩ = some (.slice (some ⟨gc, 0, none⟩) 1 cc) ∧ Q.cell? ⟨w.heap.size + 1, 0, none⟩ = some (.int .i64 N) ∧ Q.cell? ⟨w.heap.size + 1, 1, none⟩ = some (.string s) ∧ Q.cell? ⟨w.heap.size + 1, 2, none⟩ = some (.string r))) := ⟨⟨wr.drew, ⟨HS2.out.c0, HS2.out.c1, (Box.c HS2.out.box).1, (Box.c HS2.out.box).2.1, (Box.c HS2.out.box).2.2⟩⟩⟩
      go_wp2_with fail
      refine chain (S := (fun Q => Q.cell? ⟨w.heap.size, 0, none⟩ = some (.slice (some ⟨gl, 0, none⟩) 997 cl) ∧ Q.cell? ⟨w.heap.size, 1, none⟩ = some (.slice (some ⟨gc, 0, none⟩) 1 cc) ∧ Q.cell? ⟨w.heap.size + 1, 0, none⟩ = some (.int .i64 N) ∧ Q.cell? ⟨w.heap.size + 1, 1, none⟩ = some (.string s) ∧ Q.cell? ⟨w.heap.size + 1, 2, none⟩ = some (.string r))) [([true, true, true, true, true, false, true, true], 5), ([], 8), ([], 9)] [false, false, false, false, false, false, false, false, false, false, true] (by kernel_rfl) (by kernel_rfl) (by kernel_rfl) ⟨HS2.out.c0, HS2.out.c1, (Box.c HS2.out.box).1, (Box.c HS2.out.box).2.1, (Box.c HS2.out.box).2.2⟩ ?_
      simp only [wpSegs, pickB, List.dropLast_cons_cons, List.dropLast_singleton, List.getLast?_cons_cons, List.getLast?_singleton, List.toList_toArray, List.getElem?_toArray, List.getElem?_cons_succ, List.getElem?_cons_zero, Option.toList_some]
      repeat (go_big_quiet_step (fail))
      refine wpQuiet_nil ?_
      intro K hK
      go_wp2_with fail
      refine (specWith_any v (ints la) y _ ((HS2.out.below (Below.refl _ _).drew (Nat.le_refl _)).out.reads HLS.out.1 HNO.out) (by rw [ints_len]; have := HLE.out; omega)).mono ?_
      rintro er V1 ⟨v2, rfl, ho2, hb0⟩
      have hb := (Below.refl wr.heap.size wr).drew.trans hb0
      have HV1 := Lib.hid (HS2.out.below hb (Nat.le_refl _))
      have HOW1 := Lib.hid (HOW.out.below hb (Nat.le_refl _))
      have HL2 := Lib.hid (Ls.snoc ho2 HLS.out.2.2 HYN.out)
      have HNV : Hid (∀ g, v2.ownBlock = some g → ¬ D1 g) := fun g hg hd => by have h1 : wr.heap.size ≤ g := (ho2.lt g hg).1; have h2 := HS2.out.tab.lt g hd; omega
      clear hb hb0 ho2
      go_wp2_with fail
      refine hK _ _ ⟨HV1.out.c0, HV1.out.c1, (Box.c HV1.out.box).1, (Box.c HV1.out.box).2.1, (Box.c HV1.out.box).2.2⟩ ?_
      clear hK K
      repeat (go_big_quiet_step (fail))
      refine wpQuiet_nil ?_
      intro K hK
      go_wp2_with fail
      refine (HTC.out gl cl gc cc N s r v2 (la ++ [y]) _ _ D1 L1 vs1 (by first | rfl | go_num) HSC.out HL2.out (by rw [List.length_append, List.length_singleton]; have := HLE.out; omega) HV1.out.tab HC1.out HNV.out).mono ?_
      rintro er V2 ⟨n, L2, D2, vs2, rfl, htab, hout, hd, hpre, hty, hln⟩
      have HV2 := Lib.hid (HV1.out.step htab hout hd hpre)
      have HOW2 : Hid (OwnI 3 V2 (w.heap.size + 2) (.slice (some ⟨g, 0, none⟩) (gath f y).length c) (gath f y)) := Lib.hid (hout.owns HOW1.out (fun g hg => by cases hg; exact HND.out))
      have HN2 : Hid (¬ D2 g) := fun h => by exact (hd g h).elim HND.out (fun e => by have := HOW1.out.ge; omega)
      have HTY := Lib.hid (show _ ∧ _ ∧ _ from ⟨hty, hpre, hln⟩)
      clear htab hout hd hpre hty hln
      go_wp2_with fail
      refine hK _ _ ⟨HV2.out.c0, HV2.out.c1, (Box.c HV2.out.box).1, (Box.c HV2.out.box).2.1, (Box.c HV2.out.box).2.2⟩ ?_
      clear hK K
      repeat (go_big_quiet_step (fail))
      refine wpQuiet_nil ?_
      intro K hK
      go_wp2_with fail
      refine (ins.insert_any (w.heap.size + 2) g c (gath f y) n _ HOW2.out (by have := HV2.out.lt; omega) (by have := gath_len f y; omega)).mono ?_
      rintro er V3 ⟨g3, c3, rfl, ho3, hg3, hgg⟩
      have HV3 := Lib.hid (HV2.out.grown hg3 HN2.out (HOW2.out.ge).1)
      have HOW3 := Lib.hid ho3
      have HN3 : Hid (¬ D2 g3) := fun h => hgg.elim (fun e => HN2.out (e ▸ h)) (fun e => by have := HV2.out.tab.lt g3 h; omega)
      clear ho3 hg3 hgg
      go_wp2_with fail
      refine hK _ _ ⟨HV3.out.c0, HV3.out.c1, (Box.c HV3.out.box).1, (Box.c HV3.out.box).2.1, (Box.c HV3.out.box).2.2⟩ ?_
      clear hK K
      repeat (go_big_quiet_step (fail))
      refine wpQuiet_nil ?_
      clear q0 q1 q2 q3 q4 hne b0 b1 b2
      have EG : gath (fun i => if i = y then n else f i) (y + 1) = ins.ins (gath f y) n := by
        rw [gath_succ, if_pos rfl, gath_congr (g := f) (fun i hi => if_neg (by omega))]
      obtain ⟨l3, hl3⟩ : ∃ l3, l3 = (ins.ins (gath f y) n).length := ⟨_, rfl⟩
      have REL : Hid (∃ (f : Nat → Nat) (D1 : Nat → Prop) (L1 : List ByteArray) (vs1 : List Value), SS gl cl gc cc N s r w D L V3 D1 L1 vs1 ∧ OwnI 3 V3 (w.heap.size + 2) (.slice (some ⟨g3, 0, none⟩) (gath f (y + 1)).length c3) (gath f (y + 1)) ∧ ¬ D1 g3 ∧ l3 = (gath f (y + 1)).length ∧ (∀ i, i < (y + 1) → game.Ty (TL L1) (gr N s r) k (la ++ [i]) (f i)) ∧ L1.length ≤ L.length + (y + 1) * cost k) := by
        refine ⟨fun i => if i = y then n else f i, D2, L2, vs2, HV3.out, ?_, HN3.out, ?_, fun i hi => ?_, ?_⟩
        · rw [EG]; exact HOW3.out
        · rw [EG]; exact hl3
        · by_cases hiy : i = y
          · show game.Ty _ _ _ _ (if i = y then n else f i)
            rw [if_pos hiy, hiy]; exact HTY.out.1
          · show game.Ty _ _ _ _ (if i = y then n else f i)
            rw [if_neg hiy]; exact (HTF.out i (by omega)).mono HTY.out.2.1
        · have := HTY.out.2.2; have := HL1.out; rw [Nat.succ_mul]; omega
      rw [← hl3]
      clear EG hl3 HV1 HV2 HV3 HOW HOW1 HOW2 HOW3 HN2 HN3 HTY HL2 HNV HS2 HND HTF HL1 HC1 HLN
      go_wp2
      go_roundw
      case rel => exact ⟨y + 1, g3, l3, c3, by omega, by go_num, rfl, REL.out⟩
      case measure => simp [intOf]; omega
    · obtain rfl : N = y := by omega
      clear hlt
      obtain ⟨xs, hxs⟩ : ∃ xs : List Nat, xs = game.nums (game.nexts N f) := ⟨_, rfl⟩
      have hg : gath f N = ints xs := by rw [hxs]; exact gath_ints f N
      rw [hg] at HOW HLN
      have hil : (ints xs).length = xs.length := by simp [ints]
      have hl8 : xs.length ≤ 8 := by have := gath_len f N; rw [hg, hil] at this; omega
      have HB : Hid (∀ z, z ∈ xs → z < 5001) := fun z hz => by
        rw [hxs] at hz
        obtain ⟨i, hi, rfl⟩ := nums_mem hz
        have h1 := ty_lt (HTF.out i hi)
        have h2 : (TL L1).length = L1.length := by unfold TL; rw [List.length_map]
        have h3 := HCO.out
        have h4 := HL1.out
        simp only [cost] at h3
        have h5 : N * cost k ≤ 8 * cost k := Nat.mul_le_mul_right _ hN8
        omega
      have HXS := Lib.hid hxs
      rw [hil] at HLN
      rw [hil] at HOW
      rw [← HLN.out] at HOW
      have hln8 : ln ≤ 8 := by rw [HLN.out]; exact hl8
      have HDEC : Hid (∀ W, Calls Tryd.prog 151 #[.int .i64 x] W fun e w' => e = .returned (.string (decB (k + 1))) ∧ Below W.heap.size W w') := fun W => by rw [HX.out]; exact dec_any (k + 1) W (by omega)
      have HST2 : Hid (∃ ob : ByteArray, ou = ob ∧ ob.data.toList = game.atoms (gr N s r) la ++ game.commas (xs.take 0) ∧ ob.size ≤ 2000 + 0 * 6000 ∧ SS gl cl gc cc N s r w D L wr D1 L1 vs1 ∧ OwnI 3 wr (w.heap.size + 2) (.slice (some ⟨g, 0, none⟩) ln c) (ints xs)) := ⟨ou, rfl, by rw [HO.out]; simp [game.commas], by omega, HS2.out, HOW.out⟩
      go_wp2_with fail
      clear hxs hg hil hl8 HOW HS2 HND b0 b1 b2
      go_loopw [9, 12] (fun o iv wq => ∃ (j : Nat) (ob : ByteArray), j ≤ ln ∧ iv = .int .i64 j ∧ o = .string ob ∧ Hid (ob.data.toList = game.atoms (gr N s r) la ++ game.commas (xs.take j) ∧ ob.size ≤ 2000 + j * 6000 ∧ SS gl cl gc cc N s r w D L wq D1 L1 vs1 ∧ OwnI 3 wq (w.heap.size + 2) (.slice (some ⟨g, 0, none⟩) ln c) (ints xs))) (fun _ iv _ => ln - (intOf iv).toNat)
      case atStart =>
        obtain ⟨ob, rfl, h1, h2, h3, h4⟩ := HST2.out
        exact ⟨0, ou, Nat.zero_le _, rfl, rfl, h1, h2, h3, h4⟩
      case round =>
        clear HST2
        obtain ⟨j, ob, hj, rfl, rfl, hst⟩ := hrel
        by_cases hlt : j < ln
        · obtain ⟨z, hz⟩ : ∃ z, z = xs.getD j 0 := ⟨_, rfl⟩
          have hjx : j < xs.length := by have := HLN.out; omega
          have hz9 : z ≤ 5000 := by
            have : z ∈ xs := by rw [hz, List.getD_eq_getElem?_getD, List.getElem?_eq_getElem hjx]; exact List.getElem_mem hjx
            have := HB.out z this; omega
          have ck : wr.cell? ⟨g, j, none⟩ = some (.int .i64 z) := by
            have := hst.out.2.2.2.cell j (by have : (ints xs).length = xs.length := by simp [ints]
                                             omega)
            rw [this, hz]
            simp [ints, List.getD_eq_getElem?_getD, List.getElem?_eq_getElem hjx]
          have HZ : Hid (xs.take (j + 1) = xs.take j ++ [z]) := by rw [Hid, List.take_succ_eq_append_getElem hjx, hz, List.getD_eq_getElem?_getD, List.getElem?_eq_getElem hjx]; rfl
          clear hz hjx
          have hob : ob.size ≤ 2000 + j * 6000 := hst.out.2.1
          have hadd1 := fun W => str_add ob ⟨#[44]⟩ (by have : ByteArray.size ⟨#[44]⟩ = 1 := rfl; omega) W
          have hadd2 := fun W => str_add (ob ++ ⟨#[44]⟩) (decB z) (by rw [ByteArray.size_append]; have := decB_size z; have : ByteArray.size ⟨#[44]⟩ = 1 := rfl; omega) W
          have HOB := Lib.hid hob
          clear hob
          go_wp2_with fail
          refine (dec_any z _ (by omega)).mono ?_
          rintro er V1 ⟨rfl, hb⟩
          have HV : Hid ((ob ++ ⟨#[44]⟩ ++ decB z).data.toList = game.atoms (gr N s r) la ++ game.commas (xs.take (j + 1)) ∧ (ob ++ ⟨#[44]⟩ ++ decB z).size ≤ 2000 + (j + 1) * 6000 ∧ SS gl cl gc cc N s r w D L V1 D1 L1 vs1 ∧ OwnI 3 V1 (w.heap.size + 2) (.slice (some ⟨g, 0, none⟩) ln c) (ints xs)) := by
            refine ⟨?_, ?_, hst.out.2.2.1.below hb (Nat.le_refl _), hst.out.2.2.2.below hb (Nat.le_refl _)⟩
            · rw [app_list, app_list, hst.out.1, decB_list, HZ.out, commas_snoc]
              simp
            · rw [ByteArray.size_append, ByteArray.size_append]
              have := decB_size z
              have := HOB.out
              have : ByteArray.size ⟨#[44]⟩ = 1 := rfl
              omega
          clear hb hst ck
          go_wp2
          go_roundw
          case rel => exact ⟨j + 1, _, by omega, by go_num, rfl, HV.out⟩
          case measure => simp [intOf]; omega
        · obtain rfl : ln = j := by omega
          clear hlt
          have HLL : Hid (L1.length ≤ 5000) := by
            have h3 := HCO.out
            have h4 := HL1.out
            simp only [cost] at h3
            have h5 : N * cost k ≤ 8 * cost k := Nat.mul_le_mul_right _ hN8
            show L1.length ≤ 5000
            omega
          have HOB := Lib.hid hst.out.1
          have hob : ob.size ≤ 50000 := by have := hst.out.2.1; omega
          have HS3 := Lib.hid hst.out.2.2.1
          clear hst
          have q0 : ∀ QQ : Wd (fun Q => Q.cell? ⟨w.heap.size, 0, none⟩ = some (.slice (some ⟨gl, 0, none⟩) 997 cl) ∧ Q.cell? ⟨w.heap.size, 1, none⟩ = some (.slice (some ⟨gc, 0, none⟩) 1 cc) ∧ Q.cell? ⟨w.heap.size + 1, 0, none⟩ = some (.int .i64 N) ∧ Q.cell? ⟨w.heap.size + 1, 1, none⟩ = some (.string s) ∧ Q.cell? ⟨w.heap.size + 1, 2, none⟩ = some (.string r)), QQ.w.cell? ⟨w.heap.size, 0, none⟩ = some (.slice (some ⟨gl, 0, none⟩) 997 cl) := fun QQ => QQ.ok.1
          have q1 : ∀ QQ : Wd (fun Q => Q.cell? ⟨w.heap.size, 0, none⟩ = some (.slice (some ⟨gl, 0, none⟩) 997 cl) ∧ Q.cell? ⟨w.heap.size, 1, none⟩ = some (.slice (some ⟨gc, 0, none⟩) 1 cc) ∧ Q.cell? ⟨w.heap.size + 1, 0, none⟩ = some (.int .i64 N) ∧ Q.cell? ⟨w.heap.size + 1, 1, none⟩ = some (.string s) ∧ Q.cell? ⟨w.heap.size + 1, 2, none⟩ = some (.string r)), QQ.w.cell? ⟨w.heap.size, 1, none⟩ = some (.slice (some ⟨gc, 0, none⟩) 1 cc) := fun QQ => QQ.ok.2.1
          have q2 : ∀ QQ : Wd (fun Q => Q.cell? ⟨w.heap.size, 0, none⟩ = some (.slice (some ⟨gl, 0, none⟩) 997 cl) ∧ Q.cell? ⟨w.heap.size, 1, none⟩ = some (.slice (some ⟨gc, 0, none⟩) 1 cc) ∧ Q.cell? ⟨w.heap.size + 1, 0, none⟩ = some (.int .i64 N) ∧ Q.cell? ⟨w.heap.size + 1, 1, none⟩ = some (.string s) ∧ Q.cell? ⟨w.heap.size + 1, 2, none⟩ = some (.string r)), QQ.w.cell? ⟨w.heap.size + 1, 0, none⟩ = some (.int .i64 N) := fun QQ => QQ.ok.2.2.1
          have q3 : ∀ QQ : Wd (fun Q => Q.cell? ⟨w.heap.size, 0, none⟩ = some (.slice (some ⟨gl, 0, none⟩) 997 cl) ∧ Q.cell? ⟨w.heap.size, 1, none⟩ = some (.slice (some ⟨gc, 0, none⟩) 1 cc) ∧ Q.cell? ⟨w.heap.size + 1, 0, none⟩ = some (.int .i64 N) ∧ Q.cell? ⟨w.heap.size + 1, 1, none⟩ = some (.string s) ∧ Q.cell? ⟨w.heap.size + 1, 2, none⟩ = some (.string r)), QQ.w.cell? ⟨w.heap.size + 1, 1, none⟩ = some (.string s) := fun QQ => QQ.ok.2.2.2.1
          have q4 : ∀ QQ : Wd (fun Q => Q.cell? ⟨w.heap.size, 0, none⟩ = some (.slice (some ⟨gl, 0, none⟩) 997 cl) ∧ Q.cell? ⟨w.heap.size, 1, none⟩ = some (.slice (some ⟨gc, 0, none⟩) 1 cc) ∧ Q.cell? ⟨w.heap.size + 1, 0, none⟩ = some (.int .i64 N) ∧ Q.cell? ⟨w.heap.size + 1, 1, none⟩ = some (.string s) ∧ Q.cell? ⟨w.heap.size + 1, 2, none⟩ = some (.string r)), QQ.w.cell? ⟨w.heap.size + 1, 2, none⟩ = some (.string r) := fun QQ => QQ.ok.2.2.2.2
          have hne : Nonempty (Wd (fun Q => Q.cell? ⟨w.heap.size, 0, none⟩ = some (.slice (some ⟨gl, 0, none⟩) 997 cl) ∧ Q.cell? ⟨w.heap.size, 1, none⟩ = some (.slice (some ⟨gc, 0, none⟩) 1 cc) ∧ Q.cell? ⟨w.heap.size + 1, 0, none⟩ = some (.int .i64 N) ∧ Q.cell? ⟨w.heap.size + 1, 1, none⟩ = some (.string s) ∧ Q.cell? ⟨w.heap.size + 1, 2, none⟩ = some (.string r))) := ⟨⟨wr, ⟨HS3.out.c0, HS3.out.c1, (Box.c HS3.out.box).1, (Box.c HS3.out.box).2.1, (Box.c HS3.out.box).2.2⟩⟩⟩
          have hadd1 := fun W => str_add (decB (k + 1)) ⟨#[58]⟩ (by have := decB_size (k + 1); have : ByteArray.size ⟨#[58]⟩ = 1 := rfl; omega) W
          have hadd2 := fun W => str_add (decB (k + 1) ++ ⟨#[58]⟩) ob (by rw [ByteArray.size_append]; have := decB_size (k + 1); have : ByteArray.size ⟨#[58]⟩ = 1 := rfl; omega) W
          go_wp2_with fail
          refine chain (S := (fun Q => Q.cell? ⟨w.heap.size, 0, none⟩ = some (.slice (some ⟨gl, 0, none⟩) 997 cl) ∧ Q.cell? ⟨w.heap.size, 1, none⟩ = some (.slice (some ⟨gc, 0, none⟩) 1 cc) ∧ Q.cell? ⟨w.heap.size + 1, 0, none⟩ = some (.int .i64 N) ∧ Q.cell? ⟨w.heap.size + 1, 1, none⟩ = some (.string s) ∧ Q.cell? ⟨w.heap.size + 1, 2, none⟩ = some (.string r))) [([true, true, false, false, true], 2), ([false, false, false, true, false, true], 6)] [false, false, false, false, false, false, false, true] (by kernel_rfl) (by kernel_rfl) (by kernel_rfl) ⟨HS3.out.c0, HS3.out.c1, (Box.c HS3.out.box).1, (Box.c HS3.out.box).2.1, (Box.c HS3.out.box).2.2⟩ ?_
          simp only [wpSegs, pickB, List.dropLast_cons_cons, List.dropLast_singleton, List.getLast?_cons_cons, List.getLast?_singleton, List.toList_toArray, List.getElem?_toArray, List.getElem?_cons_succ, List.getElem?_cons_zero, Option.toList_some]
          repeat (go_big_quiet_step (fail))
          refine wpQuiet_nil ?_
          intro K hK
          go_wp2_with fail
          refine (HDEC.out _).mono ?_
          rintro er Z1 ⟨rfl, hb⟩
          have HZ1 := Lib.hid (HS3.out.below (W' := Z1) (((Below.refl _ _).drew).trans hb) (Nat.le_refl _))
          clear hb
          go_wp2_with fail
          refine hK _ _ ⟨HZ1.out.c0, HZ1.out.c1, (Box.c HZ1.out.box).1, (Box.c HZ1.out.box).2.1, (Box.c HZ1.out.box).2.2⟩ ?_
          clear hK K
          repeat (go_big_quiet_step (fail))
          refine wpQuiet_nil ?_
          intro K hK
          go_wp2_with fail
          have hsz : (decB (k + 1) ++ ⟨#[58]⟩ ++ ob).size ≤ 100000 := by
            rw [ByteArray.size_append, ByteArray.size_append]; have := decB_size (k + 1); have : ByteArray.size ⟨#[58]⟩ = 1 := rfl; omega
          have hc := number_any gl cl gc cc (decB (k + 1) ++ ⟨#[58]⟩ ++ ob) Z1 D1 L1 vs1 HZ1.out.tab hsz (by have := HLL.out; omega)
          unfold tv at hc
          refine hc.mono ?_
          clear hc hsz
          rintro er Z2 ⟨n, L2, D2, vs2, rfl, hm, hat, htab, hout, hd⟩
          have HZ2 := Lib.hid (HZ1.out.step htab hout hd (TL_more hm).1)
          have HAT := Lib.hid (TL_at hat)
          have HM := Lib.hid (TL_more hm)
          clear hm hat htab hout hd
          go_wp2_with fail
          refine hK _ _ ⟨HZ2.out.c0, HZ2.out.c1, (Box.c HZ2.out.box).1, (Box.c HZ2.out.box).2.1, (Box.c HZ2.out.box).2.2⟩ ?_
          clear hK K
          repeat (go_big_quiet_step (fail))
          refine wpQuiet_nil ?_
          clear q0 q1 q2 q3 q4 hne hadd1 hadd2
          go_wp2
          go_ret
          refine ⟨n, L2, D2, vs2, rfl, HZ2.out.tab, HZ2.out.out, fun j hj => ?_, HZ2.out.pre, ⟨f, fun i hi => (HTF.out i hi).mono HM.out.1, ?_⟩, ?_⟩
          · rcases HZ2.out.d j hj with e | e
            · exact .inl e
            · exact .inr (by omega)
          · show (TL L2)[n]? = some _
            rw [HAT.out, app_list, app_list, decB_list, HOB.out, HLN.out, List.take_length, HXS.out]
            simp [game.txt]
            rfl
          · have h3 := HM.out.2
            have h4 := HL1.out
            have h5 : N * cost k ≤ 8 * cost k := Nat.mul_le_mul_right _ hN8
            simp only [cost]
            omega
end Go.Proofs.YtpcnoiigbmiejaaDoor.tab
