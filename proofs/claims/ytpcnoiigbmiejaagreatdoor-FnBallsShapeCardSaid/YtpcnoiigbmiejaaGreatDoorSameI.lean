/- sameBall and SameBall of the program. -/
import Derived.Test.YtpcnoiigbmiejaaGreatDoorPkG
import Derived.Test.YtpcnoiigbmiejaaGreatDoorEach2
import Derived.Test.YtpcnoiigbmiejaaGreatDoorBallO
import Derived.Test.YtpcnoiigbmiejaaGreatDoorFloatS
namespace Go.Proofs.YtpcnoiigbmiejaaGreatDoor.same
set_option linter.unusedVariables false
set_option linter.unusedSimpArgs false
open Go.ChangeShapes Go.WideShapes Go.ChangeAt Go.RowKit
open Go.Proofs.YtpcnoiigbmiejaaGreatDoor.lib Go.Proofs.YtpcnoiigbmiejaaGreatDoor.st Go.Proofs.YtpcnoiigbmiejaaGreatDoor.base Go.Proofs.YtpcnoiigbmiejaaGreatDoor.make Go.Proofs.YtpcnoiigbmiejaaGreatDoor.near Go.Proofs.YtpcnoiigbmiejaaGreatDoor.dist Go.Proofs.YtpcnoiigbmiejaaGreatDoor.ball Go.Proofs.YtpcnoiigbmiejaaGreatDoor.fits Go.Proofs.YtpcnoiigbmiejaaGreatDoor.part Go.Proofs.YtpcnoiigbmiejaaGreatDoor.around Go.Proofs.YtpcnoiigbmiejaaGreatDoor.ord Go.Proofs.YtpcnoiigbmiejaaGreatDoor.each Go.Proofs.YtpcnoiigbmiejaaGreatDoor.chain Go.Proofs.YtpcnoiigbmiejaaGreatDoor.flow

/-- what is told: whether the order begins with the middle; one is enough -/
def stB (_ : Bool) (o : List Nat) : Bool × Bool := (o.getD 0 0 == 0, false)
/-- the cell in which it is kept -/
def Kept (c : Nat) (s : Bool) (W : World) : Prop := W.heap[c]? = some (.cells #[.bool s] 4 (0, 0))
theorem tell_any (c : Nat) (s : Bool) (o : List Nat) (v : Value) (W : World) (hk : Kept c s W) (hr : Reads W v (ints o)) (h1 : 1 ≤ o.length) :
    Calls Tryz.prog 81 #[v, .pointer (some ⟨c, 0, none⟩)] W fun e W' => e = .returned (.bool false) ∧ W' = W.setCell ⟨c, 0, none⟩ (.bool (o.getD 0 0 == 0)) := by
  obtain ⟨ao, cap, rfl⟩ := hr.len
  rw [ints_len] at hr ⊢
  obtain ⟨m, hm⟩ : ∃ m, m = o.length := ⟨_, rfl⟩
  rw [← hm] at hr h1 ⊢
  obtain ⟨b, off, rfl, hb, hc⟩ := lies hr hm h1
  have c0 := hc 0 (by omega)
  rw [Nat.add_zero] at c0
  have hcell : W.cell? ⟨c, 0, none⟩ = some (.bool s) := by unfold Kept at hk; simp [World.cell?, hk]
  have hfz : W.frozen? ⟨c, 0, none⟩ = false := frozen_of_row W c 0 _ _ hk
  have hne : b ≠ c := fun e => by rw [e] at c0; unfold Kept at hk; simp [World.cell?, hk] at c0; cases off <;> simp at c0
  obtain ⟨y, hy⟩ : ∃ y, o.getD 0 0 = y := ⟨_, rfl⟩
  rw [hy] at c0 ⊢
  clear hk hr hm hc hy
  by_cases h0 : y = 0
  · subst h0
    have c0' : W.cell? ⟨b, off, none⟩ = some (.int .i64 0) := c0
    go_enter Tryz.func81, Tryz.ntmps81
    go_wp2
    go_ret
    exact ⟨rfl, rfl⟩
  · have t0 : ((y : Int) == 0) = false := by simp; omega
    have t1 : (y == 0) = false := by simpa using h0
    clear h0
    go_enter Tryz.func81, Tryz.ntmps81
    go_wp2
    go_ret
    exact ⟨rfl, by rw [t1]⟩

/-- some order of the first structure fits the second one and begins with its first element -/
def found (n : Nat) (sa ra sb rb : ByteArray) : Bool := (ords n (okB n sa ra sb rb) n []).head?.any fun o => o.getD 0 0 == 0
theorem run_stB : ∀ (L : List (List Nat)), (run stB L false).1 = L.head?.any fun o => o.getD 0 0 == 0
  | [] => rfl
  | o :: L => by simp [run, stB]

set_option maxHeartbeats 1600000 in
theorem job (n : Nat) (sa ra sb rb : ByteArray) (c : Nat) (w : World) (h1 : 1 ≤ n) (h8 : n ≤ 8) (hs : sa.size = n ∧ ra.size = n * n ∧ sb.size = n ∧ rb.size = n * n) (hc : c < w.heap.size) :
    Job stB (Kept c) (Kept c) n sa ra sb rb 81 #[.pointer (some ⟨c, 0, none⟩)] c w.heap.size w where
  n8 := h8
  ha := hs
  hB := by omega
  h0 := rfl
  eT := enters_of Tryz.func81 (by kernel_rfl) rfl
  hI := fun s W W' h hb => by unfold Kept at *; rw [hb.block c hc]; exact h
  hT := fun s o v W hk hb hr ho => by
    refine (tell_any c s o v W hk hr (by rw [ords_len ho]; simp; omega)).mono ?_
    rintro e W' ⟨rfl, rfl⟩
    refine ⟨some c, ⟨rfl, rfl, rfl, by simp, fun k hk hne => heap_setCell_other _ _ _ _ (fun e => hne (by rw [e]))⟩, fun k hk => by cases hk; omega, rfl, (fun h => by cases h), fun _ => ?_⟩
    unfold Kept at *
    rw [heap_setCell_same _ _ _ _ _ _ hk]; rfl
theorem found_any (n : Nat) (sa ra sb rb : ByteArray) (c : Nat) (w : World) (h1 : 1 ≤ n) (h8 : n ≤ 8) (hs : sa.size = n ∧ ra.size = n * n ∧ sb.size = n ∧ rb.size = n * n) (hk : Kept c false w) :
    Calls Tryz.prog 40 #[.agg #[.int .i64 n, .string sa, .string ra], .agg #[.int .i64 n, .string sb, .string rb], .func (.func 81) #[] #[.pointer (some ⟨c, 0, none⟩)]] w fun e w' => ∃ v, e = .returned v ∧ w'.cell? ⟨c, 0, none⟩ = some (.bool (found n sa ra sb rb)) ∧ Below c w w' := by
  have hc : c < w.heap.size := (Array.getElem?_eq_some_iff.1 hk).1
  refine (eachShape_any w (job n sa ra sb rb c w h1 h8 hs hc) false hk).mono ?_
  rintro e w' ⟨v, s', b, rfl, hr, hi, hf, hb⟩
  have hs : s' = found n sa ra sb rb := by
    have := run_stB (ords n (okB n sa ra sb rb) n [])
    rw [hr] at this; exact this
  have hk' : Kept c s' w' := by cases b with
    | true => exact hi rfl
    | false => exact hf rfl
  refine ⟨v, rfl, ?_, hb⟩
  rw [← hs]
  unfold Kept at hk'
  simp [World.cell?, hk']
/-- the bits of a ball's structure -/
noncomputable def aN (n : Nat) (r : ByteArray) (x : Nat) (rad : Int) : Nat := (midN n r x rad).length
noncomputable def aS (n : Nat) (s r : ByteArray) (x : Nat) (rad : Int) : ByteArray := bS (pS s (midN n r x rad)) (midN n r x rad).length
noncomputable def aR (n : Nat) (r : ByteArray) (x : Nat) (rad : Int) : ByteArray := bR (pR n r (midN n r x rad)) (midN n r x rad).length (midN n r x rad).length
theorem aN_le {n : Nat} {r : ByteArray} {x : Nat} {rad : Int} (hx : x < n) : 1 ≤ aN n r x rad ∧ aN n r x rad ≤ n := ⟨midN_pos n r x rad, midN_len hx⟩
theorem aS_size (n : Nat) (s r : ByteArray) (x : Nat) (rad : Int) : (aS n s r x rad).size = aN n r x rad := bS_size _ _
theorem aR_size (n : Nat) (r : ByteArray) (x : Nat) (rad : Int) : (aR n r x rad).size = aN n r x rad * aN n r x rad := bR_size _ _ _
theorem around_at (n : Nat) (s r : ByteArray) (x : Nat) (rad : Int) (w : World) (hx : x < n) (hn : n ≤ 8) (hs : s.size = n) (hr : r.size = n * n) :
    Calls Tryz.prog 80 #[.agg #[.int .i64 n, .string s, .string r], .int .i64 x, .int .i64 rad] w fun e w' => e = .returned (.agg #[.int .i64 (aN n r x rad), .string (aS n s r x rad), .string (aR n r x rad)]) ∧ Below w.heap.size w w' := aroundOf_any n s r x rad w hx hn hs hr
/-- the balls have the same shape -/
noncomputable def sameB (n : Nat) (sa ra : ByteArray) (x : Nat) (m : Nat) (sb rb : ByteArray) (y : Nat) (rad : Int) : Bool :=
  decide (aN n ra x rad = aN m rb y rad) && found (aN n ra x rad) (aS n sa ra x rad) (aR n ra x rad) (aS m sb rb y rad) (aR m rb y rad)

set_option maxHeartbeats 4000000 in
theorem sameBall_any (n : Nat) (sa ra : ByteArray) (x : Nat) (m : Nat) (sb rb : ByteArray) (y : Nat) (rad : Int) (w : World) (hx : x < n) (hn : n ≤ 8) (hsa : sa.size = n ∧ ra.size = n * n) (hy : y < m) (hm : m ≤ 8) (hsb : sb.size = m ∧ rb.size = m * m) :
    Calls Tryz.prog 39 #[.agg #[.int .i64 n, .string sa, .string ra], .int .i64 x, .agg #[.int .i64 m, .string sb, .string rb], .int .i64 y, .int .i64 rad] w fun e w' => e = .returned (.bool (sameB n sa ra x m sb rb y rad)) ∧ Below w.heap.size w w' := by
  have B1 : Hid (Box 24 (w.alloc (.cells #[.int .i64 n, .string sa, .string ra] 24)) w.heap.size n sa ra) := Box.new _ w _ rfl _ _ _
  obtain ⟨W0, hW0⟩ : ∃ W0, W0 = (w.alloc (.cells #[.int .i64 n, .string sa, .string ra] 24)).alloc (.cells #[.int .i64 m, .string sb, .string rb] 24) := ⟨_, rfl⟩
  have BA : Box 24 W0 w.heap.size n sa ra := by rw [hW0]; exact B1.out.below ((Below.refl _ _).alloc (Nat.le_refl _) _) B1.out.lt
  have BB : Box 24 W0 (w.heap.size + 1) m sb rb := by rw [hW0]; exact Box.new _ _ _ (by simp) _ _ _
  have AW : Hid (Below w.heap.size w W0) := by rw [hW0]; exact ((Below.refl _ _).alloc (Nat.le_refl _) _).alloc (by simp) _
  have HW := Lib.hid hW0
  have HSA := Lib.hid hsa
  have HSB := Lib.hid hsb
  obtain ⟨a0, a1, a2⟩ := BA.c
  obtain ⟨b0, b1, b2⟩ := BB.c
  obtain ⟨na, hna⟩ : ∃ q, q = aN n ra x rad := ⟨_, rfl⟩
  obtain ⟨nb, hnb⟩ : ∃ q, q = aN m rb y rad := ⟨_, rfl⟩
  obtain ⟨s1, hs1⟩ : ∃ q, q = aS n sa ra x rad := ⟨_, rfl⟩
  obtain ⟨s2, hs2⟩ : ∃ q, q = aS m sb rb y rad := ⟨_, rfl⟩
  obtain ⟨r1, hr1⟩ : ∃ q, q = aR n ra x rad := ⟨_, rfl⟩
  obtain ⟨r2, hr2⟩ : ∃ q, q = aR m rb y rad := ⟨_, rfl⟩
  have CA : Hid (∀ W, Calls Tryz.prog 80 #[.agg #[.int .i64 n, .string sa, .string ra], .int .i64 x, .int .i64 rad] W fun e w' => e = .returned (.agg #[.int .i64 na, .string s1, .string r1]) ∧ Below W.heap.size W w') := fun W => by rw [hna, hs1, hr1]; exact around_at n sa ra x rad W hx hn hsa.1 hsa.2
  have CB : Hid (∀ W, Calls Tryz.prog 80 #[.agg #[.int .i64 m, .string sb, .string rb], .int .i64 y, .int .i64 rad] W fun e w' => e = .returned (.agg #[.int .i64 nb, .string s2, .string r2]) ∧ Below W.heap.size W w') := fun W => by rw [hnb, hs2, hr2]; exact around_at m sb rb y rad W hy hm hsb.1 hsb.2
  have NA : 1 ≤ na ∧ na ≤ n := by rw [hna]; exact aN_le hx
  have HV : Hid (sameB n sa ra x m sb rb y rad = (decide (na = nb) && found na s1 r1 s2 r2)) := by rw [hna, hnb, hs1, hs2, hr1, hr2]; rfl
  have HZ : Hid (s1.size = na ∧ r1.size = na * na ∧ s2.size = nb ∧ r2.size = nb * nb) := by
    rw [hna, hnb, hs1, hs2, hr1, hr2]; exact ⟨aS_size _ _ _ _ _, aR_size _ _ _ _, aS_size _ _ _ _ _, aR_size _ _ _ _⟩
  clear hsa hsb hW0 BA BB B1 hna hnb hs1 hs2 hr1 hr2
  go_enter Tryz.func39, Tryz.ntmps39
  go_wp2_with fail
  rw [← HW.out]
  clear HW
  have q0 : ∀ QQ : Wd (fun X => X.cell? ⟨w.heap.size, 0, none⟩ = some (.int .i64 n) ∧ X.cell? ⟨w.heap.size, 1, none⟩ = some (.string sa) ∧ X.cell? ⟨w.heap.size, 2, none⟩ = some (.string ra) ∧ X.cell? ⟨w.heap.size + 1, 0, none⟩ = some (.int .i64 m) ∧ X.cell? ⟨w.heap.size + 1, 1, none⟩ = some (.string sb) ∧ X.cell? ⟨w.heap.size + 1, 2, none⟩ = some (.string rb)), QQ.w.cell? ⟨w.heap.size, 0, none⟩ = some (.int .i64 n) := fun QQ => QQ.ok.1
  have q1 : ∀ QQ : Wd (fun X => X.cell? ⟨w.heap.size, 0, none⟩ = some (.int .i64 n) ∧ X.cell? ⟨w.heap.size, 1, none⟩ = some (.string sa) ∧ X.cell? ⟨w.heap.size, 2, none⟩ = some (.string ra) ∧ X.cell? ⟨w.heap.size + 1, 0, none⟩ = some (.int .i64 m) ∧ X.cell? ⟨w.heap.size + 1, 1, none⟩ = some (.string sb) ∧ X.cell? ⟨w.heap.size + 1, 2, none⟩ = some (.string rb)), QQ.w.cell? ⟨w.heap.size, 1, none⟩ = some (.string sa) := fun QQ => QQ.ok.2.1
  have q2 : ∀ QQ : Wd (fun X => X.cell? ⟨w.heap.size, 0, none⟩ = some (.int .i64 n) ∧ X.cell? ⟨w.heap.size, 1, none⟩ = some (.string sa) ∧ X.cell? ⟨w.heap.size, 2, none⟩ = some (.string ra) ∧ X.cell? ⟨w.heap.size + 1, 0, none⟩ = some (.int .i64 m) ∧ X.cell? ⟨w.heap.size + 1, 1, none⟩ = some (.string sb) ∧ X.cell? ⟨w.heap.size + 1, 2, none⟩ = some (.string rb)), QQ.w.cell? ⟨w.heap.size, 2, none⟩ = some (.string ra) := fun QQ => QQ.ok.2.2.1
  have q3 : ∀ QQ : Wd (fun X => X.cell? ⟨w.heap.size, 0, none⟩ = some (.int .i64 n) ∧ X.cell? ⟨w.heap.size, 1, none⟩ = some (.string sa) ∧ X.cell? ⟨w.heap.size, 2, none⟩ = some (.string ra) ∧ X.cell? ⟨w.heap.size + 1, 0, none⟩ = some (.int .i64 m) ∧ X.cell? ⟨w.heap.size + 1, 1, none⟩ = some (.string sb) ∧ X.cell? ⟨w.heap.size + 1, 2, none⟩ = some (.string rb)), QQ.w.cell? ⟨w.heap.size + 1, 0, none⟩ = some (.int .i64 m) := fun QQ => QQ.ok.2.2.2.1
  have q4 : ∀ QQ : Wd (fun X => X.cell? ⟨w.heap.size, 0, none⟩ = some (.int .i64 n) ∧ X.cell? ⟨w.heap.size, 1, none⟩ = some (.string sa) ∧ X.cell? ⟨w.heap.size, 2, none⟩ = some (.string ra) ∧ X.cell? ⟨w.heap.size + 1, 0, none⟩ = some (.int .i64 m) ∧ X.cell? ⟨w.heap.size + 1, 1, none⟩ = some (.string sb) ∧ X.cell? ⟨w.heap.size + 1, 2, none⟩ = some (.string rb)), QQ.w.cell? ⟨w.heap.size + 1, 1, none⟩ = some (.string sb) := fun QQ => QQ.ok.2.2.2.2.1
  have q5 : ∀ QQ : Wd (fun X => X.cell? ⟨w.heap.size, 0, none⟩ = some (.int .i64 n) ∧ X.cell? ⟨w.heap.size, 1, none⟩ = some (.string sa) ∧ X.cell? ⟨w.heap.size, 2, none⟩ = some (.string ra) ∧ X.cell? ⟨w.heap.size + 1, 0, none⟩ = some (.int .i64 m) ∧ X.cell? ⟨w.heap.size + 1, 1, none⟩ = some (.string sb) ∧ X.cell? ⟨w.heap.size + 1, 2, none⟩ = some (.string rb)), QQ.w.cell? ⟨w.heap.size + 1, 2, none⟩ = some (.string rb) := fun QQ => QQ.ok.2.2.2.2.2
  have hne : Nonempty (Wd (fun X => X.cell? ⟨w.heap.size, 0, none⟩ = some (.int .i64 n) ∧ X.cell? ⟨w.heap.size, 1, none⟩ = some (.string sa) ∧ X.cell? ⟨w.heap.size, 2, none⟩ = some (.string ra) ∧ X.cell? ⟨w.heap.size + 1, 0, none⟩ = some (.int .i64 m) ∧ X.cell? ⟨w.heap.size + 1, 1, none⟩ = some (.string sb) ∧ X.cell? ⟨w.heap.size + 1, 2, none⟩ = some (.string rb))) := ⟨⟨W0, ⟨a0, a1, a2, b0, b1, b2⟩⟩⟩
  refine chain_float (S := (fun X => X.cell? ⟨w.heap.size, 0, none⟩ = some (.int .i64 n) ∧ X.cell? ⟨w.heap.size, 1, none⟩ = some (.string sa) ∧ X.cell? ⟨w.heap.size, 2, none⟩ = some (.string ra) ∧ X.cell? ⟨w.heap.size + 1, 0, none⟩ = some (.int .i64 m) ∧ X.cell? ⟨w.heap.size + 1, 1, none⟩ = some (.string sb) ∧ X.cell? ⟨w.heap.size + 1, 2, none⟩ = some (.string rb))) [⟨8, 11, 24, zS⟩, ⟨9, 12, 24, zS⟩] [([true, true, true, false, true, true, true], 3), ([], 7)] [] [10, 11] (by kernel_rfl) (by kernel_rfl) (by kernel_rfl) (by intro f hf; simp only [List.mem_cons, List.not_mem_nil, or_false] at hf; rcases hf with rfl | rfl <;> exact allocS) (fun X X2 h hb => ⟨keepCell hb h.1, keepCell hb h.2.1, keepCell hb h.2.2.1, keepCell hb h.2.2.2.1, keepCell hb h.2.2.2.2.1, keepCell hb h.2.2.2.2.2⟩) ⟨a0, a1, a2, b0, b1, b2⟩ (by intro f hf; simp only [List.mem_cons, List.not_mem_nil, or_false] at hf; rcases hf with rfl | rfl <;> exact of_decide_eq_true rfl) ?_
  simp only [wpSegsF, wpLate, pickB, List.dropLast_cons_cons, List.dropLast_singleton, List.getLast?_cons_cons, List.getLast?_singleton, List.toList_toArray, List.getElem?_toArray, List.getElem?_cons_succ, List.getElem?_cons_zero, Option.toList_some]
  repeat (go_big_quiet_step (fail))
  refine wpQuiet_nil ?_
  intro a2 W1 hsim hgW1 K hK
  obtain ⟨u, v, rfl⟩ := hsim.two (of_decide_eq_true rfl) (of_decide_eq_true rfl) (by decide)
  clear hsim
  go_wp2_with fail
  refine (CA.out _).mono ?_
  rintro e W2 ⟨rfl, hb1⟩
  go_wp2_with fail
  refine hK _ _ hb1 ?_
  clear hK K
  repeat (go_big_quiet_step (fail))
  refine wpQuiet_nil ?_
  intro a2 W3 hsim hgW3 K hK
  obtain ⟨u, v, rfl⟩ := hsim.two (of_decide_eq_true rfl) (of_decide_eq_true rfl) (by decide)
  clear hsim
  go_wp2_with fail
  refine (CB.out _).mono ?_
  rintro e W4 ⟨rfl, hb2⟩
  go_wp2_with fail
  refine hK _ _ hb2 ?_
  clear hK K
  repeat (go_big_quiet_step (fail))
  refine wpQuiet_nil ?_
  intro a2 WZ hsim hgZ hZ
  obtain ⟨A, B, rfl, hAB, hA, hB, oA, oB⟩ := zeros_two hsim (of_decide_eq_true rfl) (of_decide_eq_true rfl) (by decide) (by decide) hZ
  clear hsim hZ
  clear q0 q1 q2 q3 q4 q5 hne a0 a1 a2 b0 b1 b2
  have hbZ : Below W0.drew.heap.size W0.drew WZ := (((hgW1.trans (hb1.mono hgW1.size)).trans (hgW3.mono (hgW1.trans (hb1.mono hgW1.size)).size)).trans (hb2.mono ((hgW1.trans (hb1.mono hgW1.size)).trans (hgW3.mono (hgW1.trans (hb1.mono hgW1.size)).size)).size)).trans (hgZ.mono (((hgW1.trans (hb1.mono hgW1.size)).trans (hgW3.mono (hgW1.trans (hb1.mono hgW1.size)).size)).trans (hb2.mono ((hgW1.trans (hb1.mono hgW1.size)).trans (hgW3.mono (hgW1.trans (hb1.mono hgW1.size)).size)).size)).size)
  have oA' : Box 24 WZ A 0 ⟨#[]⟩ ⟨#[]⟩ := oA
  have oB' : Box 24 WZ B 0 ⟨#[]⟩ ⟨#[]⟩ := oB
  have hA2 : W0.drew.heap.size ≤ A := hA
  have hB2 : W0.drew.heap.size ≤ B := hB
  obtain ⟨z0, z1, z2⟩ := oA'.c
  have g0 := oA'.free 0
  have g1 := oA'.free 1
  have g2 := oA'.free 2
  have oA2 := ((oA'.set0 na).set1 s1).set2 r1
  have hc1 : Below W0.drew.heap.size W0.drew (((WZ.setCell ⟨A, 0, none⟩ (.int .i64 na)).setCell ⟨A, 1, none⟩ (.string s1)).setCell ⟨A, 2, none⟩ (.string r1)) := ((hbZ.setCell hA _).setCell hA _).setCell hA _
  have hc2 : Below WZ.heap.size WZ WZ := Below.refl _ _
  have oB2 : Box 24 (((WZ.setCell ⟨A, 0, none⟩ (.int .i64 na)).setCell ⟨A, 1, none⟩ (.string s1)).setCell ⟨A, 2, none⟩ (.string r1)) B 0 ⟨#[]⟩ ⟨#[]⟩ := by
    unfold Box
    rw [heap_setCell_other _ _ _ _ (Ne.symm hAB), heap_setCell_other _ _ _ _ (Ne.symm hAB), heap_setCell_other _ _ _ _ (Ne.symm hAB)]
    exact oB'
  have HA := Lib.hid (show _ ∧ _ ∧ _ ∧ _ ∧ _ ∧ _ from ⟨hc1, oA2, oB2, hA2, hB2, hAB⟩)
  clear hc1 hc2 oA2 oB2 oA oB oA' oB' hA hB hA2 hB2 hAB hbZ hb1 hb2 hgW1 hgW3 hgZ
  intro K hK
  go_wp2_with fail
  clear z0 z1 z2 g0 g1 g2
  obtain ⟨W5, hW5⟩ : ∃ q, q = (((WZ.setCell ⟨A, 0, none⟩ (.int .i64 na)).setCell ⟨A, 1, none⟩ (.string s1)).setCell ⟨A, 2, none⟩ (.string r1)) := ⟨_, rfl⟩
  rw [← hW5] at HA ⊢
  have hs1 := HA.out.1
  clear hW5
  refine hK _ _ hs1 ?_
  clear hK K
  obtain ⟨z0, z1, z2⟩ := HA.out.2.2.1.c
  have g0 := HA.out.2.2.1.free 0
  have g1 := HA.out.2.2.1.free 1
  have g2 := HA.out.2.2.1.free 2
  have HB : Hid (Below W0.drew.heap.size W0.drew (((W5.setCell ⟨B, 0, none⟩ (.int .i64 nb)).setCell ⟨B, 1, none⟩ (.string s2)).setCell ⟨B, 2, none⟩ (.string r2)) ∧ Box 24 (((W5.setCell ⟨B, 0, none⟩ (.int .i64 nb)).setCell ⟨B, 1, none⟩ (.string s2)).setCell ⟨B, 2, none⟩ (.string r2)) A na s1 r1 ∧ Box 24 (((W5.setCell ⟨B, 0, none⟩ (.int .i64 nb)).setCell ⟨B, 1, none⟩ (.string s2)).setCell ⟨B, 2, none⟩ (.string r2)) B nb s2 r2) := by
    refine ⟨((HA.out.1.setCell HA.out.2.2.2.2.1 _).setCell HA.out.2.2.2.2.1 _).setCell HA.out.2.2.2.2.1 _, ?_, ((HA.out.2.2.1.set0 nb).set1 s2).set2 r2⟩
    unfold Box
    rw [heap_setCell_other _ _ _ _ HA.out.2.2.2.2.2, heap_setCell_other _ _ _ _ HA.out.2.2.2.2.2, heap_setCell_other _ _ _ _ HA.out.2.2.2.2.2]
    exact HA.out.2.1
  clear HA
  intro K hK
  go_wp2_with fail
  clear z0 z1 z2 g0 g1 g2
  obtain ⟨W6, hW6⟩ : ∃ q, q = (((W5.setCell ⟨B, 0, none⟩ (.int .i64 nb)).setCell ⟨B, 1, none⟩ (.string s2)).setCell ⟨B, 2, none⟩ (.string r2)) := ⟨_, rfl⟩
  rw [← hW6] at HB ⊢
  have hs2 := HB.out.1
  clear hW6
  refine hK _ _ hs2 ?_
  clear hK K
  have AW6 : Hid (Below w.heap.size w W6) := AW.out.trans ((of_drew HB.out.1).mono AW.out.size)
  obtain ⟨a0, a1, a2⟩ := HB.out.2.1.c
  obtain ⟨b0, b1, b2⟩ := HB.out.2.2.c
  clear hs1 hs2
  by_cases hab : na = nb
  · subst hab
    have HV2 : Hid (sameB n sa ra x m sb rb y rad = found na s1 r1 s2 r2) := by rw [Hid, HV.out, decide_eq_true rfl, Bool.true_and]
    have hcell : Hid (Kept W6.heap.size false (W6.alloc (.cells #[.bool false] 4))) := heap_alloc_new W6 _
    obtain ⟨c0, c1, c2⟩ := (HB.out.2.1.below ((Below.refl _ W6).alloc (Nat.le_refl _) (.cells #[.bool false] 4)) HB.out.2.1.lt).c
    obtain ⟨d0, d1, d2⟩ := (HB.out.2.2.below ((Below.refl _ W6).alloc (Nat.le_refl _) (.cells #[.bool false] 4)) HB.out.2.2.lt).c
    have hbe : Hid (Below w.heap.size w (W6.alloc (.cells #[.bool false] 4))) := AW6.out.alloc AW6.out.size _
    go_wp2_with fail
    refine (found_any na s1 r1 s2 r2 W6.heap.size _ NA.1 (by omega) ⟨HZ.out.1, HZ.out.2.1, HZ.out.2.2.1, HZ.out.2.2.2⟩ hcell.out).mono ?_
    rintro e W7 ⟨v, rfl, hk, hb⟩
    have R : Hid (Below w.heap.size w W7) := hbe.out.trans (hb.mono AW6.out.size)
    clear hb a0 a1 a2 b0 b1 b2 c0 c1 c2 d0 d1 d2
    go_wp2
    go_ret
    exact ⟨by rw [HV2.out]; rfl, R.out⟩
  · have HV2 : Hid (sameB n sa ra x m sb rb y rad = false) := by rw [Hid, HV.out, decide_eq_false hab, Bool.false_and]
    have t : ((na : Int) != (nb : Int)) = true := by simp; omega
    clear hab
    go_wp2
    go_ret
    exact ⟨by rw [HV2.out]; rfl, AW6.out⟩
end Go.Proofs.YtpcnoiigbmiejaaGreatDoor.same
