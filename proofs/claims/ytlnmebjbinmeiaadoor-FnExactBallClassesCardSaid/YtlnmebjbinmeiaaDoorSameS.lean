/- l9Same of the reference. -/
import Derived.Test.YtlnmebjbinmeiaaDoorOrderR
import Derived.Test.YtlnmebjbinmeiaaDoorPartR
import Derived.Test.YtlnmebjbinmeiaaDoorSameI
namespace Go.Proofs.YtlnmebjbinmeiaaDoor.same
set_option linter.unusedVariables false
set_option linter.unusedSimpArgs false
open Go.ChangeShapes Go.WideShapes Go.ChangeAt Go.RowKit
open Go.Proofs.YtlnmebjbinmeiaaDoor.lib Go.Proofs.YtlnmebjbinmeiaaDoor.st Go.Proofs.YtlnmebjbinmeiaaDoor.base Go.Proofs.YtlnmebjbinmeiaaDoor.make Go.Proofs.YtlnmebjbinmeiaaDoor.near Go.Proofs.YtlnmebjbinmeiaaDoor.dist Go.Proofs.YtlnmebjbinmeiaaDoor.ball Go.Proofs.YtlnmebjbinmeiaaDoor.fits Go.Proofs.YtlnmebjbinmeiaaDoor.part Go.Proofs.YtlnmebjbinmeiaaDoor.around Go.Proofs.YtlnmebjbinmeiaaDoor.ord Go.Proofs.YtlnmebjbinmeiaaDoor.each Go.Proofs.YtlnmebjbinmeiaaDoor.chain Go.Proofs.YtlnmebjbinmeiaaDoor.flow
theorem part_at (n : Nat) (s r : ByteArray) (x : Nat) (rad : Int) (v : Value) (w : World) (hx : x < n) (hn : n ≤ 8) (hs : s.size = n) (hr : r.size = n * n) (hv : Reads w v (ints (midN n r x rad))) :
    Calls Tryd.prog 100 #[.agg #[.int .i64 n, .string s, .string r], v] w fun e w' => e = .returned (.agg #[.int .i64 (aN n r x rad), .string (aS n s r x rad), .string (aR n r x rad)]) ∧ Below w.heap.size w w' :=
  l1Part_any n s r (midN n r x rad) v w hv (midN_lt hx) (by have := midN_len (n := n) (r := r) (x := x) (rad := rad) hx; omega) hs hr hn
theorem found_eq {d : Nat} {sa ra sb rb : ByteArray} : found (d + 1) sa ra sb rb = (((bitAt sa 0 == bitAt sb 0) && (bitAt ra 0 == bitAt rb 0)) && (ords (d + 1) (okB (d + 1) sa ra sb rb) d [0]).head?.isSome) := by
  unfold found
  rw [head_zero (by omega), okB_zero]
  cases ords (d + 1) (okB (d + 1) sa ra sb rb) d [0] <;> rfl

set_option maxHeartbeats 8000000 in
set_option maxRecDepth 100000 in
theorem l9Same_any (n : Nat) (sa ra : ByteArray) (x : Nat) (m : Nat) (sb rb : ByteArray) (y : Nat) (rad : Int) (w : World) (hx : x < n) (hn : n ≤ 8) (hsa : sa.size = n ∧ ra.size = n * n) (hy : y < m) (hm : m ≤ 8) (hsb : sb.size = m ∧ rb.size = m * m) :
    Calls Tryd.prog 72 #[.agg #[.int .i64 n, .string sa, .string ra], .int .i64 x, .agg #[.int .i64 m, .string sb, .string rb], .int .i64 y, .int .i64 rad] w fun e w' => e = .returned (.bool (sameB n sa ra x m sb rb y rad)) ∧ Below w.heap.size w w' := by
  have B1 : Hid (Box 25 (w.alloc (.cells #[.int .i64 n, .string sa, .string ra] 25)) w.heap.size n sa ra) := Box.new _ w _ rfl _ _ _
  obtain ⟨W0, hW0⟩ : ∃ W0, W0 = (w.alloc (.cells #[.int .i64 n, .string sa, .string ra] 25)).alloc (.cells #[.int .i64 m, .string sb, .string rb] 25) := ⟨_, rfl⟩
  have BA : Hid (Box 25 W0 w.heap.size n sa ra) := by rw [hW0]; exact B1.out.below ((Below.refl _ _).alloc (Nat.le_refl _) _) B1.out.lt
  have BB : Hid (Box 25 W0 (w.heap.size + 1) m sb rb) := by rw [hW0]; exact Box.new _ _ _ (by simp) _ _ _
  have AW : Hid (Below w.heap.size w W0) := by rw [hW0]; exact ((Below.refl _ _).alloc (Nat.le_refl _) _).alloc (by simp) _
  have HW := Lib.hid hW0
  obtain ⟨a0, a1, a2⟩ := BA.out.c
  obtain ⟨na, hna⟩ : ∃ q, q = aN n ra x rad := ⟨_, rfl⟩
  obtain ⟨nb, hnb⟩ : ∃ q, q = aN m rb y rad := ⟨_, rfl⟩
  obtain ⟨s1, hs1⟩ : ∃ q, q = aS n sa ra x rad := ⟨_, rfl⟩
  obtain ⟨s2, hs2⟩ : ∃ q, q = aS m sb rb y rad := ⟨_, rfl⟩
  obtain ⟨r1, hr1⟩ : ∃ q, q = aR n ra x rad := ⟨_, rfl⟩
  obtain ⟨r2, hr2⟩ : ∃ q, q = aR m rb y rad := ⟨_, rfl⟩
  have CA : Hid (∀ W, Calls Tryd.prog 67 #[.agg #[.int .i64 n, .string sa, .string ra], .int .i64 x, .int .i64 rad] W fun e w' => ∃ v, e = .returned v ∧ OwnI 3 w' W.heap.size v (ints (midN n ra x rad)) ∧ Below W.heap.size W w') := fun W => l9Ball_any n sa ra x rad W hx hn hsa.2
  have CB : Hid (∀ W, Calls Tryd.prog 67 #[.agg #[.int .i64 m, .string sb, .string rb], .int .i64 y, .int .i64 rad] W fun e w' => ∃ v, e = .returned v ∧ OwnI 3 w' W.heap.size v (ints (midN m rb y rad)) ∧ Below W.heap.size W w') := fun W => l9Ball_any m sb rb y rad W hy hm hsb.2
  have PA : Hid (∀ W v, Reads W v (ints (midN n ra x rad)) → Calls Tryd.prog 100 #[.agg #[.int .i64 n, .string sa, .string ra], v] W fun e w' => e = .returned (.agg #[.int .i64 na, .string s1, .string r1]) ∧ Below W.heap.size W w') := fun W v h => by rw [hna, hs1, hr1]; exact part_at n sa ra x rad v W hx hn hsa.1 hsa.2 h
  have PB : Hid (∀ W v, Reads W v (ints (midN m rb y rad)) → Calls Tryd.prog 100 #[.agg #[.int .i64 m, .string sb, .string rb], v] W fun e w' => e = .returned (.agg #[.int .i64 nb, .string s2, .string r2]) ∧ Below W.heap.size W w') := fun W v h => by rw [hnb, hs2, hr2]; exact part_at m sb rb y rad v W hy hm hsb.1 hsb.2 h
  have NA : 1 ≤ na ∧ na ≤ n := by rw [hna]; exact aN_le hx
  have NB : 1 ≤ nb ∧ nb ≤ m := by rw [hnb]; exact aN_le hy
  have HV : Hid (sameB n sa ra x m sb rb y rad = (decide (na = nb) && found na s1 r1 s2 r2)) := by rw [hna, hnb, hs1, hs2, hr1, hr2]; rfl
  have HZ : Hid (s1.size = na ∧ r1.size = na * na ∧ s2.size = nb ∧ r2.size = nb * nb) := by
    rw [hna, hnb, hs1, hs2, hr1, hr2]; exact ⟨aS_size _ _ _ _ _, aR_size _ _ _ _, aS_size _ _ _ _ _, aR_size _ _ _ _⟩
  clear hsa hsb hW0 B1 hna hnb hs1 hs2 hr1 hr2
  go_enter Tryd.func72, Tryd.ntmps72
  go_wp2_with fail
  rw [← HW.out]
  clear HW
  have q0 : ∀ QQ : Wd (fun X => X.cell? ⟨w.heap.size, 0, none⟩ = some (.int .i64 n) ∧ X.cell? ⟨w.heap.size, 1, none⟩ = some (.string sa) ∧ X.cell? ⟨w.heap.size, 2, none⟩ = some (.string ra)), QQ.w.cell? ⟨w.heap.size, 0, none⟩ = some (.int .i64 n) := fun QQ => QQ.ok.1
  have q1 : ∀ QQ : Wd (fun X => X.cell? ⟨w.heap.size, 0, none⟩ = some (.int .i64 n) ∧ X.cell? ⟨w.heap.size, 1, none⟩ = some (.string sa) ∧ X.cell? ⟨w.heap.size, 2, none⟩ = some (.string ra)), QQ.w.cell? ⟨w.heap.size, 1, none⟩ = some (.string sa) := fun QQ => QQ.ok.2.1
  have q2 : ∀ QQ : Wd (fun X => X.cell? ⟨w.heap.size, 0, none⟩ = some (.int .i64 n) ∧ X.cell? ⟨w.heap.size, 1, none⟩ = some (.string sa) ∧ X.cell? ⟨w.heap.size, 2, none⟩ = some (.string ra)), QQ.w.cell? ⟨w.heap.size, 2, none⟩ = some (.string ra) := fun QQ => QQ.ok.2.2
  have hne : Nonempty (Wd (fun X => X.cell? ⟨w.heap.size, 0, none⟩ = some (.int .i64 n) ∧ X.cell? ⟨w.heap.size, 1, none⟩ = some (.string sa) ∧ X.cell? ⟨w.heap.size, 2, none⟩ = some (.string ra))) := ⟨⟨W0, ⟨a0, a1, a2⟩⟩⟩
  refine chain_float (S := (fun X => X.cell? ⟨w.heap.size, 0, none⟩ = some (.int .i64 n) ∧ X.cell? ⟨w.heap.size, 1, none⟩ = some (.string sa) ∧ X.cell? ⟨w.heap.size, 2, none⟩ = some (.string ra))) [⟨6, 11, 25, zS⟩] [([true, true, true, true], 4), ([], 5)] [] [7] (by kernel_rfl) (by kernel_rfl) (by kernel_rfl) (by intro f hf; simp only [List.mem_cons, List.not_mem_nil, or_false] at hf; subst hf; exact allocS) (fun X X2 h hb => ⟨keepCell hb h.1, keepCell hb h.2.1, keepCell hb h.2.2⟩) ⟨a0, a1, a2⟩ (by intro f hf; simp only [List.mem_cons, List.not_mem_nil, or_false] at hf; subst hf; exact of_decide_eq_true rfl) ?_
  simp only [wpSegsF, wpLate, pickB, List.dropLast_cons_cons, List.dropLast_singleton, List.getLast?_cons_cons, List.getLast?_singleton, List.toList_toArray, List.getElem?_toArray, List.getElem?_cons_succ, List.getElem?_cons_zero, Option.toList_some]
  repeat (go_big_quiet_step (fail))
  refine wpQuiet_nil ?_
  intro a2 WA hsim hgWA K hK
  obtain ⟨u, rfl⟩ := hsim.one (of_decide_eq_true rfl)
  clear hsim
  go_wp2_with fail
  refine (CA.out _).mono ?_
  rintro e V1 ⟨v1, rfl, ho1, hb1⟩
  go_wp2_with fail
  refine hK _ _ hb1 ?_
  clear hK K
  repeat (go_big_quiet_step (fail))
  refine wpQuiet_nil ?_
  intro a2 WB hsim hgWB K hK
  obtain ⟨u, rfl⟩ := hsim.one (of_decide_eq_true rfl)
  clear hsim
  go_wp2_with fail
  refine (PA.out _ _ ((OwnI.reads ho1).below hgWB (Nat.le_refl _))).mono ?_
  rintro e V2 ⟨rfl, hb2⟩
  go_wp2_with fail
  refine hK _ _ hb2 ?_
  clear hK K
  repeat (go_big_quiet_step (fail))
  refine wpQuiet_nil ?_
  intro a2 WZ hsim hgZ hZ
  obtain ⟨A, rfl, hA, oA⟩ := zeros_one hsim (of_decide_eq_true rfl) hZ
  clear hsim hZ
  clear q0 q1 q2 hne a0 a1 a2 ho1
  have t2 := hgWA.trans (hb1.mono hgWA.size)
  have t3 := t2.trans (hgWB.mono t2.size)
  have t4 := t3.trans (hb2.mono t3.size)
  have hbZ := t4.trans (hgZ.mono t4.size)
  have oA' : Box 25 WZ A 0 ⟨#[]⟩ ⟨#[]⟩ := oA
  have hA2 : W0.drew.heap.size ≤ A := hA
  obtain ⟨z0, z1, z2⟩ := oA'.c
  have g0 := oA'.free 0
  have g1 := oA'.free 1
  have g2 := oA'.free 2
  have oA2 := ((oA'.set0 na).set1 s1).set2 r1
  have hc1 : Below W0.drew.heap.size W0.drew (((WZ.setCell ⟨A, 0, none⟩ (.int .i64 na)).setCell ⟨A, 1, none⟩ (.string s1)).setCell ⟨A, 2, none⟩ (.string r1)) := ((hbZ.setCell hA2 _).setCell hA2 _).setCell hA2 _
  have HA := Lib.hid (show _ ∧ _ from ⟨hc1, oA2⟩)
  clear t2 t3 t4 hbZ hc1 oA2 oA oA' hA hA2 hb1 hb2 hgWA hgWB hgZ
  intro K hK
  go_wp2_with fail
  clear z0 z1 z2 g0 g1 g2
  obtain ⟨W5, hW5⟩ : ∃ q, q = (((WZ.setCell ⟨A, 0, none⟩ (.int .i64 na)).setCell ⟨A, 1, none⟩ (.string s1)).setCell ⟨A, 2, none⟩ (.string r1)) := ⟨_, rfl⟩
  rw [← hW5] at HA ⊢
  have hs1 := HA.out.1
  clear hW5
  refine hK _ _ hs1 ?_
  clear hK K
  clear hs1
  have AW5 : Hid (Below w.heap.size w W5) := AW.out.trans ((of_drew HA.out.1).mono AW.out.size)
  have BB5 := Lib.hid (BB.out.below (of_drew HA.out.1) BB.out.lt)
  have BA5 := Lib.hid HA.out.2
  clear AW BA BB HA
  obtain ⟨b0, b1, b2⟩ := BB5.out.c
  go_wp2_with fail
  have q0 : ∀ QQ : Wd (fun X => X.cell? ⟨w.heap.size + 1, 0, none⟩ = some (.int .i64 m) ∧ X.cell? ⟨w.heap.size + 1, 1, none⟩ = some (.string sb) ∧ X.cell? ⟨w.heap.size + 1, 2, none⟩ = some (.string rb)), QQ.w.cell? ⟨w.heap.size + 1, 0, none⟩ = some (.int .i64 m) := fun QQ => QQ.ok.1
  have q1 : ∀ QQ : Wd (fun X => X.cell? ⟨w.heap.size + 1, 0, none⟩ = some (.int .i64 m) ∧ X.cell? ⟨w.heap.size + 1, 1, none⟩ = some (.string sb) ∧ X.cell? ⟨w.heap.size + 1, 2, none⟩ = some (.string rb)), QQ.w.cell? ⟨w.heap.size + 1, 1, none⟩ = some (.string sb) := fun QQ => QQ.ok.2.1
  have q2 : ∀ QQ : Wd (fun X => X.cell? ⟨w.heap.size + 1, 0, none⟩ = some (.int .i64 m) ∧ X.cell? ⟨w.heap.size + 1, 1, none⟩ = some (.string sb) ∧ X.cell? ⟨w.heap.size + 1, 2, none⟩ = some (.string rb)), QQ.w.cell? ⟨w.heap.size + 1, 2, none⟩ = some (.string rb) := fun QQ => QQ.ok.2.2
  have hne : Nonempty (Wd (fun X => X.cell? ⟨w.heap.size + 1, 0, none⟩ = some (.int .i64 m) ∧ X.cell? ⟨w.heap.size + 1, 1, none⟩ = some (.string sb) ∧ X.cell? ⟨w.heap.size + 1, 2, none⟩ = some (.string rb))) := ⟨⟨W5, ⟨b0, b1, b2⟩⟩⟩
  refine chain_float (S := (fun X => X.cell? ⟨w.heap.size + 1, 0, none⟩ = some (.int .i64 m) ∧ X.cell? ⟨w.heap.size + 1, 1, none⟩ = some (.string sb) ∧ X.cell? ⟨w.heap.size + 1, 2, none⟩ = some (.string rb))) [⟨6, 12, 25, zS⟩] [([true, true, true, true], 4), ([], 5)] [] [7] (by kernel_rfl) (by kernel_rfl) (by kernel_rfl) (by intro f hf; simp only [List.mem_cons, List.not_mem_nil, or_false] at hf; subst hf; exact allocS) (fun X X2 h hb => ⟨keepCell hb h.1, keepCell hb h.2.1, keepCell hb h.2.2⟩) ⟨b0, b1, b2⟩ (by intro f hf; simp only [List.mem_cons, List.not_mem_nil, or_false] at hf; subst hf; exact of_decide_eq_true rfl) ?_
  simp only [wpSegsF, wpLate, pickB, List.dropLast_cons_cons, List.dropLast_singleton, List.getLast?_cons_cons, List.getLast?_singleton, List.toList_toArray, List.getElem?_toArray, List.getElem?_cons_succ, List.getElem?_cons_zero, Option.toList_some]
  repeat (go_big_quiet_step (fail))
  refine wpQuiet_nil ?_
  intro a2 WA hsim hgWA K hK
  obtain ⟨u, rfl⟩ := hsim.one (of_decide_eq_true rfl)
  clear hsim
  go_wp2_with fail
  refine (CB.out _).mono ?_
  rintro e V1 ⟨v1, rfl, ho1, hb1⟩
  go_wp2_with fail
  refine hK _ _ hb1 ?_
  clear hK K
  repeat (go_big_quiet_step (fail))
  refine wpQuiet_nil ?_
  intro a2 WB hsim hgWB K hK
  obtain ⟨u, rfl⟩ := hsim.one (of_decide_eq_true rfl)
  clear hsim
  go_wp2_with fail
  refine (PB.out _ _ ((OwnI.reads ho1).below hgWB (Nat.le_refl _))).mono ?_
  rintro e V2 ⟨rfl, hb2⟩
  go_wp2_with fail
  refine hK _ _ hb2 ?_
  clear hK K
  repeat (go_big_quiet_step (fail))
  refine wpQuiet_nil ?_
  intro a2 WZ hsim hgZ hZ
  obtain ⟨B, rfl, hA, oA⟩ := zeros_one hsim (of_decide_eq_true rfl) hZ
  clear hsim hZ
  clear q0 q1 q2 hne b0 b1 b2 ho1
  have t2 := hgWA.trans (hb1.mono hgWA.size)
  have t3 := t2.trans (hgWB.mono t2.size)
  have t4 := t3.trans (hb2.mono t3.size)
  have hbZ := t4.trans (hgZ.mono t4.size)
  have oA' : Box 25 WZ B 0 ⟨#[]⟩ ⟨#[]⟩ := oA
  have hA2 : W5.drew.heap.size ≤ B := hA
  obtain ⟨z0, z1, z2⟩ := oA'.c
  have g0 := oA'.free 0
  have g1 := oA'.free 1
  have g2 := oA'.free 2
  have oA2 := ((oA'.set0 nb).set1 s2).set2 r2
  have hc1 : Below W5.drew.heap.size W5.drew (((WZ.setCell ⟨B, 0, none⟩ (.int .i64 nb)).setCell ⟨B, 1, none⟩ (.string s2)).setCell ⟨B, 2, none⟩ (.string r2)) := ((hbZ.setCell hA2 _).setCell hA2 _).setCell hA2 _
  have HB := Lib.hid (show _ ∧ _ from ⟨hc1, oA2⟩)
  clear t2 t3 t4 hbZ hc1 oA2 oA oA' hA hA2 hb1 hb2 hgWA hgWB hgZ
  intro K hK
  go_wp2_with fail
  clear z0 z1 z2 g0 g1 g2
  obtain ⟨W6, hW6⟩ : ∃ q, q = (((WZ.setCell ⟨B, 0, none⟩ (.int .i64 nb)).setCell ⟨B, 1, none⟩ (.string s2)).setCell ⟨B, 2, none⟩ (.string r2)) := ⟨_, rfl⟩
  rw [← hW6] at HB ⊢
  have hs1 := HB.out.1
  clear hW6
  refine hK _ _ hs1 ?_
  clear hK K
  clear hs1
  have AW6 : Hid (Below w.heap.size w W6) := AW5.out.trans ((of_drew HB.out.1).mono AW5.out.size)
  have BA6 := Lib.hid (BA5.out.below (of_drew HB.out.1) BA5.out.lt)
  have BB6 := Lib.hid HB.out.2
  clear AW5 BA5 BB5 HB
  by_cases hab : na = nb
  · subst hab
    obtain ⟨d, hd⟩ : ∃ d, na = d + 1 := ⟨na - 1, by omega⟩
    obtain ⟨p0, hp0⟩ : ∃ b, b = bitAt s1 0 := ⟨_, rfl⟩
    obtain ⟨q0, hq0⟩ : ∃ b, b = bitAt s2 0 := ⟨_, rfl⟩
    obtain ⟨p1, hp1⟩ : ∃ b, b = bitAt r1 0 := ⟨_, rfl⟩
    obtain ⟨q1, hq1⟩ : ∃ b, b = bitAt r2 0 := ⟨_, rfl⟩
    have HF : Hid (sameB n sa ra x m sb rb y rad = (((p0 == q0) && (p1 == q1)) && (ords na (okB na s1 r1 s2 r2) d [0]).head?.isSome)) := by rw [Hid, HV.out, decide_eq_true rfl, Bool.true_and, hp0, hq0, hp1, hq1, hd, found_eq]
    have D0 : Hid (∀ W, Calls Tryd.prog 85 #[.agg #[.int .i64 na, .string s1, .string r1], .int .i64 0] W fun e w' => e = .returned (.bool p0) ∧ Below W.heap.size W w') := fun W => by rw [hp0]; exact l1Set_any na s1 r1 0 W (by have := HZ.out.1; omega) (by have := HZ.out.1; omega)
    have D1 : Hid (∀ W, Calls Tryd.prog 85 #[.agg #[.int .i64 na, .string s2, .string r2], .int .i64 0] W fun e w' => e = .returned (.bool q0) ∧ Below W.heap.size W w') := fun W => by rw [hq0]; exact l1Set_any na s2 r2 0 W (by have := HZ.out.2.2.1; omega) (by have := HZ.out.2.2.1; omega)
    have D2 : Hid (∀ W, Calls Tryd.prog 86 #[.agg #[.int .i64 na, .string s1, .string r1], .int .i64 0, .int .i64 0] W fun e w' => e = .returned (.bool p1) ∧ Below W.heap.size W w') := fun W => by have h := l1Rel_any na s1 r1 0 0 W (by omega) (by omega) (by omega) HZ.out.2.1; rw [Nat.zero_mul, Nat.add_zero, ← hp1] at h; exact h
    have D3 : Hid (∀ W, Calls Tryd.prog 86 #[.agg #[.int .i64 na, .string s2, .string r2], .int .i64 0, .int .i64 0] W fun e w' => e = .returned (.bool q1) ∧ Below W.heap.size W w') := fun W => by have h := l1Rel_any na s2 r2 0 0 W (by omega) (by omega) (by omega) HZ.out.2.2.2; rw [Nat.zero_mul, Nat.add_zero, ← hq1] at h; exact h
    have ca0 : ∀ X : Wd (fun W => Hid (Below W6.heap.size W6 W)), X.w.cell? ⟨A, 0, none⟩ = some (.int .i64 na) := fun X => (BA6.out.below X.ok.out BA6.out.lt).c.1
    have ca1 : ∀ X : Wd (fun W => Hid (Below W6.heap.size W6 W)), X.w.cell? ⟨A, 1, none⟩ = some (.string s1) := fun X => (BA6.out.below X.ok.out BA6.out.lt).c.2.1
    have ca2 : ∀ X : Wd (fun W => Hid (Below W6.heap.size W6 W)), X.w.cell? ⟨A, 2, none⟩ = some (.string r1) := fun X => (BA6.out.below X.ok.out BA6.out.lt).c.2.2
    have cb0 : ∀ X : Wd (fun W => Hid (Below W6.heap.size W6 W)), X.w.cell? ⟨B, 0, none⟩ = some (.int .i64 na) := fun X => (BB6.out.below X.ok.out BB6.out.lt).c.1
    have cb1 : ∀ X : Wd (fun W => Hid (Below W6.heap.size W6 W)), X.w.cell? ⟨B, 1, none⟩ = some (.string s2) := fun X => (BB6.out.below X.ok.out BB6.out.lt).c.2.1
    have cb2 : ∀ X : Wd (fun W => Hid (Below W6.heap.size W6 W)), X.w.cell? ⟨B, 2, none⟩ = some (.string r2) := fun X => (BB6.out.below X.ok.out BB6.out.lt).c.2.2
    have hne : Nonempty (Wd (fun W => Hid (Below W6.heap.size W6 W))) := ⟨⟨W6, Lib.hid (Below.refl _ _)⟩⟩
    have hd2 := Lib.hid hd
    clear hp0 hq0 hp1 hq1 hd
    go_wp2_with fail
    by_cases h0 : p0 = q0
    · subst h0
      by_cases h1 : p1 = q1
      · subst h1
        refine flow_all (S := (fun W => Hid (Below W6.heap.size W6 W))) (by kernel_rfl) (by kernel_rfl) (Lib.hid (Below.refl _ _).drew) ?_
        repeat (go_big_quiet_step (first | ((with_reducible refine (D0.out _).mono ?_); rintro e W ⟨rfl, hb⟩; exact ⟨rfl, Wd.on (Wd.ok _) hb⟩) | ((with_reducible refine (D1.out _).mono ?_); rintro e W ⟨rfl, hb⟩; exact ⟨rfl, Wd.on (Wd.ok _) hb⟩) | ((with_reducible refine (D2.out _).mono ?_); rintro e W ⟨rfl, hb⟩; exact ⟨rfl, Wd.on (Wd.ok _) hb⟩) | ((with_reducible refine (D3.out _).mono ?_); rintro e W ⟨rfl, hb⟩; exact ⟨rfl, Wd.on (Wd.ok _) hb⟩)))
        refine wpQuiet_nil ?_
        rintro _ ⟨X, rfl⟩
        have AX : Hid (Below w.heap.size w X.w) := AW6.out.trans (X.ok.out.mono AW6.out.size)
        have HG : Hid (sameB n sa ra x m sb rb y rad = (ords na (okB na s1 r1 s2 r2) d [0]).head?.isSome) := by rw [Hid, HF.out, beq_self_eq_true, beq_self_eq_true]; rfl
        have BAX := Lib.hid (BA6.out.below X.ok.out BA6.out.lt)
        have BBX := Lib.hid (BB6.out.below X.ok.out BB6.out.lt)
        have O1 : Hid (OwnI 3 (X.w.alloc (.cells #[.int .i64 0] 3)) X.w.heap.size (.slice (some ⟨X.w.heap.size, 0, none⟩) 1 1) (ints [0])) := oneRow _ _ _ _ 0 rfl (Nat.le_refl _)
        have A1 : Hid (Below X.w.heap.size X.w (X.w.alloc (.cells #[.int .i64 0] 3))) := (Below.refl _ _).alloc (Nat.le_refl _) _
        obtain ⟨c0, c1, c2⟩ := BAX.out.c
        obtain ⟨d0, d1, d2⟩ := BBX.out.c
        obtain ⟨c3, c4, c5⟩ := (BAX.out.below A1.out BAX.out.lt).c
        obtain ⟨d3, d4, d5⟩ := (BBX.out.below A1.out BBX.out.lt).c
        clear ca0 ca1 ca2 cb0 cb1 cb2 hne
        go_wp2_with fail
        refine (order_any (by omega) ⟨HZ.out.1, HZ.out.2.1, HZ.out.2.2.1, HZ.out.2.2.2⟩ d [0] _ _ (by have := hd2.out; simp; omega) (fun z hz => by simp at hz; omega) O1.out.reads).mono ?_
        rintro e W9 ⟨v, rfl, _, hb⟩
        have R : Hid (Below w.heap.size w W9) := AX.out.trans ((A1.out.trans (hb.mono (by simp))).mono AX.out.size)
        clear hb c0 c1 c2 d0 d1 d2 c3 c4 c5 d3 d4 d5
        go_wp2
        go_ret
        exact ⟨by rw [HG.out]; rfl, R.out⟩
      · have HFF : Hid (sameB n sa ra x m sb rb y rad = false) := by rw [Hid, HF.out, show (p1 == q1) = false from by simpa using h1, Bool.and_false, Bool.false_and]
        have e1 : (p1 == q1) = false := by simpa using h1
        clear h1
        refine flow_all (S := (fun W => Hid (Below W6.heap.size W6 W))) (by kernel_rfl) (by kernel_rfl) (Lib.hid (Below.refl _ _).drew) ?_
        repeat (go_big_quiet_step (first | ((with_reducible refine (D0.out _).mono ?_); rintro e W ⟨rfl, hb⟩; exact ⟨rfl, Wd.on (Wd.ok _) hb⟩) | ((with_reducible refine (D1.out _).mono ?_); rintro e W ⟨rfl, hb⟩; exact ⟨rfl, Wd.on (Wd.ok _) hb⟩) | ((with_reducible refine (D2.out _).mono ?_); rintro e W ⟨rfl, hb⟩; exact ⟨rfl, Wd.on (Wd.ok _) hb⟩) | ((with_reducible refine (D3.out _).mono ?_); rintro e W ⟨rfl, hb⟩; exact ⟨rfl, Wd.on (Wd.ok _) hb⟩)))
        refine wpQuiet_nil ?_
        rintro _ ⟨X, rfl⟩
        have AX : Hid (Below w.heap.size w X.w) := AW6.out.trans (X.ok.out.mono AW6.out.size)
        clear ca0 ca1 ca2 cb0 cb1 cb2 hne
        go_wp2
        go_ret
        exact ⟨by rw [HFF.out]; rfl, AX.out⟩
    · have HFF : Hid (sameB n sa ra x m sb rb y rad = false) := by rw [Hid, HF.out, show (p0 == q0) = false from by simpa using h0, Bool.false_and, Bool.false_and]
      have e0 : (p0 == q0) = false := by simpa using h0
      clear h0
      refine flow_all (S := (fun W => Hid (Below W6.heap.size W6 W))) (by kernel_rfl) (by kernel_rfl) (Lib.hid (Below.refl _ _).drew) ?_
      repeat (go_big_quiet_step (first | ((with_reducible refine (D0.out _).mono ?_); rintro e W ⟨rfl, hb⟩; exact ⟨rfl, Wd.on (Wd.ok _) hb⟩) | ((with_reducible refine (D1.out _).mono ?_); rintro e W ⟨rfl, hb⟩; exact ⟨rfl, Wd.on (Wd.ok _) hb⟩)))
      refine wpQuiet_nil ?_
      rintro _ ⟨X, rfl⟩
      have AX : Hid (Below w.heap.size w X.w) := AW6.out.trans (X.ok.out.mono AW6.out.size)
      clear ca0 ca1 ca2 cb0 cb1 cb2 hne
      go_wp2
      go_ret
      exact ⟨by rw [HFF.out]; rfl, AX.out⟩
  · have HFF : Hid (sameB n sa ra x m sb rb y rad = false) := by rw [Hid, HV.out, decide_eq_false hab, Bool.false_and]
    have t : ((na : Int) != (nb : Int)) = true := by simp; omega
    have ca0 : ∀ X : Wd (fun W => Hid (Below W6.heap.size W6 W)), X.w.cell? ⟨A, 0, none⟩ = some (.int .i64 na) := fun X => (BA6.out.below X.ok.out BA6.out.lt).c.1
    have ca1 : ∀ X : Wd (fun W => Hid (Below W6.heap.size W6 W)), X.w.cell? ⟨A, 1, none⟩ = some (.string s1) := fun X => (BA6.out.below X.ok.out BA6.out.lt).c.2.1
    have ca2 : ∀ X : Wd (fun W => Hid (Below W6.heap.size W6 W)), X.w.cell? ⟨A, 2, none⟩ = some (.string r1) := fun X => (BA6.out.below X.ok.out BA6.out.lt).c.2.2
    have cb0 : ∀ X : Wd (fun W => Hid (Below W6.heap.size W6 W)), X.w.cell? ⟨B, 0, none⟩ = some (.int .i64 nb) := fun X => (BB6.out.below X.ok.out BB6.out.lt).c.1
    have cb1 : ∀ X : Wd (fun W => Hid (Below W6.heap.size W6 W)), X.w.cell? ⟨B, 1, none⟩ = some (.string s2) := fun X => (BB6.out.below X.ok.out BB6.out.lt).c.2.1
    have cb2 : ∀ X : Wd (fun W => Hid (Below W6.heap.size W6 W)), X.w.cell? ⟨B, 2, none⟩ = some (.string r2) := fun X => (BB6.out.below X.ok.out BB6.out.lt).c.2.2
    have hne : Nonempty (Wd (fun W => Hid (Below W6.heap.size W6 W))) := ⟨⟨W6, Lib.hid (Below.refl _ _)⟩⟩
    clear hab
    go_wp2_with fail
    refine flow_all (S := (fun W => Hid (Below W6.heap.size W6 W))) (by kernel_rfl) (by kernel_rfl) (Lib.hid (Below.refl _ _).drew) ?_
    repeat (go_big_quiet_step (fail))
    refine wpQuiet_nil ?_
    rintro _ ⟨X, rfl⟩
    have AX : Hid (Below w.heap.size w X.w) := AW6.out.trans (X.ok.out.mono AW6.out.size)
    clear ca0 ca1 ca2 cb0 cb1 cb2 hne
    go_wp2
    go_ret
    exact ⟨by rw [HFF.out]; rfl, AX.out⟩
end Go.Proofs.YtlnmebjbinmeiaaDoor.same
