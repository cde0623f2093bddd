/- Several texts in one: PbT, PbU, PbV. -/
import Derived.Test.YtpcnoiigbmiejaaDoorPkM
import Derived.Test.YtpcnoiigbmiejaaDoorPkC
import Derived.Test.YtpcnoiigbmiejaaDoorTree
/- Lists of bools looked through; answered of the program. -/
namespace Go.Proofs.YtpcnoiigbmiejaaDoor.pbi
set_option linter.unusedVariables false
set_option linter.unusedSimpArgs false
open Go.ChangeShapes Go.WideShapes Go.ChangeAt Go.RowKit
open Go.Proofs.YtpcnoiigbmiejaaDoor.lib Go.Proofs.YtpcnoiigbmiejaaDoor.st Go.Proofs.YtpcnoiigbmiejaaDoor.flow Go.Proofs.YtpcnoiigbmiejaaDoor.chain Go.Proofs.YtpcnoiigbmiejaaDoor.base Go.Proofs.YtpcnoiigbmiejaaDoor.fits Go.Proofs.YtpcnoiigbmiejaaDoor.still Go.Proofs.YtpcnoiigbmiejaaDoor.gow Go.Proofs.YtpcnoiigbmiejaaDoor.peb Go.Proofs.YtpcnoiigbmiejaaDoor.tab

set_option maxHeartbeats 6400000 in
set_option maxRecDepth 100000 in
theorem index_b (g n c : Nat) (l : List Bool) (b : Bool) (w : World) (h : RdB w g n l) (hn : n ≤ 274625) :
    Calls Tryd.prog 194 #[.slice (some ⟨g, 0, none⟩) n c, .bool b] w fun e w' => ∃ i : Int, e = .returned (.int .i64 i) ∧ decide (0 ≤ i) = l.contains b ∧ Below w.heap.size w w' := by
  have HR := Lib.hid h
  clear h
  go_enter Tryd.func194, Tryd.ntmps194
  go_wp2
  go_loopw [8] (fun iv wr => ∃ j : Nat, j ≤ n ∧ iv = .int .i64 j ∧ Hid ((∀ i, i < j → l.getD i false ≠ b) ∧ Below w.heap.size w wr)) (fun iv _ => n - (intOf iv).toNat)
  case atStart => exact ⟨0, Nat.zero_le _, rfl, fun i hi => by omega, Below.refl _ _⟩
  case round =>
    obtain ⟨j, hj, rfl, hst⟩ := hrel
    by_cases hlt : j < n
    · have i1 : (j : Int) < (n : Int) := by omega
      have hlen := HR.out.len
      have HJ := Lib.hid hlt
      have hc : wr.cell? ⟨g, j, none⟩ = some (.bool (l.getD j false)) := (HR.out.below hst.out.2 (Nat.le_refl _)).cell j hlt
      obtain ⟨v, hv⟩ : ∃ v, v = l.getD j false := ⟨_, rfl⟩
      rw [← hv] at hc
      have HV := Lib.hid hv
      clear hv hlen
      by_cases hvb : v = b
      · subst hvb
        have HD : Hid (decide (0 ≤ (j : Int)) = l.contains v) := by
          have hm : l.contains v = true := by
            rw [List.contains_iff_mem, HV.out, List.getD_eq_getElem?_getD, List.getElem?_eq_getElem (show j < l.length by rw [← HR.out.len]; exact HJ.out)]
            exact List.getElem_mem _
          rw [Hid, hm]; exact decide_eq_true (by omega)
        have BX := Lib.hid hst.out.2
        clear hst
        cases v with
        | true =>
          go_wp2
          go_ret
          exact ⟨_, rfl, HD.out, BX.out⟩
        | false =>
          go_wp2
          go_ret
          exact ⟨_, rfl, HD.out, BX.out⟩
      · have HN : Hid ((∀ i, i < j + 1 → l.getD i false ≠ b) ∧ Below w.heap.size w wr) := ⟨fun i hi => by
          rcases Nat.lt_or_ge i j with h1 | h1
          · exact hst.out.1 i h1
          · obtain rfl : i = j := by omega
            rw [← HV.out]; exact hvb, hst.out.2⟩
        clear hst
        have e1 : (b == v) = false := by cases b <;> cases v <;> simp at hvb ⊢
        cases v with
        | true =>
          cases b with
          | true => exact absurd rfl hvb
          | false =>
            clear hvb e1
            go_wp2
            go_roundw
            case rel => exact ⟨j + 1, by omega, by go_num, HN.out⟩
            case measure => simp [intOf]; omega
        | false =>
          cases b with
          | false => exact absurd rfl hvb
          | true =>
            clear hvb e1
            go_wp2
            go_roundw
            case rel => exact ⟨j + 1, by omega, by go_num, HN.out⟩
            case measure => simp [intOf]; omega
    · obtain rfl : n = j := by omega
      have HD : Hid (decide (0 ≤ (-1 : Int)) = l.contains b) := by
        have hm : l.contains b = false := by
          cases hc : l.contains b with
          | false => rfl
          | true =>
            rw [List.contains_iff_mem] at hc
            obtain ⟨i, hi, he⟩ := List.mem_iff_getElem.1 hc
            exact absurd (by rw [List.getD_eq_getElem?_getD, List.getElem?_eq_getElem hi]; exact he) (hst.out.1 i (by rw [HR.out.len]; exact hi))
        rw [Hid, hm]; rfl
      have BX := Lib.hid hst.out.2
      clear hst
      go_wp2
      go_ret
      exact ⟨_, rfl, HD.out, BX.out⟩

set_option maxHeartbeats 6400000 in
set_option maxRecDepth 100000 in
theorem contains_b (g n c : Nat) (l : List Bool) (b : Bool) (w : World) (h : RdB w g n l) (hn : n ≤ 274625) :
    Calls Tryd.prog 166 #[.slice (some ⟨g, 0, none⟩) n c, .bool b] w fun e w' => e = .returned (.bool (l.contains b)) ∧ Below w.heap.size w w' := by
  have HC := Lib.hid (index_b g n c l b w h hn)
  clear h hn
  go_enter Tryd.func166, Tryd.ntmps166
  go_wp2_with fail
  refine HC.out.mono ?_
  rintro e w1 ⟨i, rfl, hi, hw⟩
  have HW := Lib.hid hw
  have HI := Lib.hid hi
  clear hw hi HC
  go_wp2
  go_ret
  exact ⟨by rw [← HI.out]; rfl, HW.out⟩

set_option maxHeartbeats 6400000 in
set_option maxRecDepth 100000 in
theorem equal_b (g1 g2 n c1 c2 : Nat) (l1 l2 : List Bool) (w : World) (h1 : RdB w g1 n l1) (h2 : RdB w g2 n l2) (hn : n ≤ 274625) :
    Calls Tryd.prog 129 #[.slice (some ⟨g1, 0, none⟩) n c1, .slice (some ⟨g2, 0, none⟩) n c2] w fun e w' => e = .returned (.bool (decide (l1 = l2))) ∧ Below w.heap.size w w' := by
  have HR := Lib.hid (show _ ∧ _ from ⟨h1, h2⟩)
  clear h1 h2
  go_enter Tryd.func129, Tryd.ntmps129
  go_wp2
  go_loopw [13] (fun iv wr => ∃ j : Nat, j ≤ n ∧ iv = .int .i64 j ∧ Hid ((∀ i, i < j → l1.getD i false = l2.getD i false) ∧ Below w.heap.size w wr)) (fun iv _ => n - (intOf iv).toNat)
  case atStart => exact ⟨0, Nat.zero_le _, rfl, fun i hi => by omega, Below.refl _ _⟩
  case round =>
    obtain ⟨j, hj, rfl, hst⟩ := hrel
    by_cases hlt : j < n
    · have i1 : (j : Int) < (n : Int) := by omega
      have HJ := Lib.hid hlt
      have hc1 : Hid (wr.cell? ⟨g1, j, none⟩ = some (.bool (l1.getD j false))) := (HR.out.1.below hst.out.2 (Nat.le_refl _)).cell j hlt
      have hc2 : Hid (wr.cell? ⟨g2, j, none⟩ = some (.bool (l2.getD j false))) := (HR.out.2.below hst.out.2 (Nat.le_refl _)).cell j hlt
      obtain ⟨u, hu⟩ : ∃ u, u = l1.getD j false := ⟨_, rfl⟩
      obtain ⟨v, hv⟩ : ∃ v, v = l2.getD j false := ⟨_, rfl⟩
      rw [← hu] at hc1
      rw [← hv] at hc2
      have HV := Lib.hid (show _ ∧ _ from ⟨hu, hv⟩)
      clear hu hv
      have q0 : ∀ QQ : Wd (fun Q => Q.cell? ⟨g1, j, none⟩ = some (.bool u) ∧ Q.cell? ⟨g2, j, none⟩ = some (.bool v)), QQ.w.cell? ⟨g1, j, none⟩ = some (.bool u) := fun QQ => QQ.ok.1
      have q1 : ∀ QQ : Wd (fun Q => Q.cell? ⟨g1, j, none⟩ = some (.bool u) ∧ Q.cell? ⟨g2, j, none⟩ = some (.bool v)), QQ.w.cell? ⟨g2, j, none⟩ = some (.bool v) := fun QQ => QQ.ok.2
      have hne : Nonempty (Wd (fun Q => Q.cell? ⟨g1, j, none⟩ = some (.bool u) ∧ Q.cell? ⟨g2, j, none⟩ = some (.bool v))) := ⟨⟨wr, ⟨hc1.out, hc2.out⟩⟩⟩
      go_wp2_with fail
      refine chain (S := (fun Q => Q.cell? ⟨g1, j, none⟩ = some (.bool u) ∧ Q.cell? ⟨g2, j, none⟩ = some (.bool v))) [] [true, true, true, true, true, true, true, true, true] (by kernel_rfl) (by kernel_rfl) (by kernel_rfl) ⟨hc1.out, hc2.out⟩ ?_
      simp only [wpSegs, pickB, List.dropLast_cons_cons, List.dropLast_singleton, List.getLast?_cons_cons, List.getLast?_singleton, List.toList_toArray, List.getElem?_toArray, List.getElem?_cons_succ, List.getElem?_cons_zero, Option.toList_some]
      repeat (go_big_quiet_step (fail))
      refine wpQuiet_nil ?_
      clear q0 q1 hne
      have BX : Hid (Below w.heap.size w wr.drew) := hst.out.2.drew
      by_cases huv : u = v
      · have HN : Hid ((∀ i, i < j + 1 → l1.getD i false = l2.getD i false) ∧ Below w.heap.size w wr.drew) := ⟨fun i hi => by
          rcases Nat.lt_or_ge i j with h1 | h1
          · exact hst.out.1 i h1
          · obtain rfl : i = j := by omega
            rw [← HV.out.1, ← HV.out.2]; exact huv, BX.out⟩
        clear hst
        subst huv
        cases u with
        | true =>
          go_wp2
          go_roundw
          case rel => exact ⟨j + 1, by omega, by go_num, HN.out⟩
          case measure => simp [intOf]; omega
        | false =>
          go_wp2
          go_roundw
          case rel => exact ⟨j + 1, by omega, by go_num, HN.out⟩
          case measure => simp [intOf]; omega
      · have HD : Hid (decide (l1 = l2) = false) := decide_eq_false fun e => huv (by rw [HV.out.1, HV.out.2, e])
        clear hst
        cases u with
        | true =>
          cases v with
          | true => exact absurd rfl huv
          | false =>
            clear huv
            go_wp2
            go_ret
            exact ⟨(by rw [HD.out] <;> rfl), BX.out⟩
        | false =>
          cases v with
          | false => exact absurd rfl huv
          | true =>
            clear huv
            go_wp2
            go_ret
            exact ⟨(by rw [HD.out] <;> rfl), BX.out⟩
    · obtain rfl : n = j := by omega
      have HD : Hid (decide (l1 = l2) = true) := decide_eq_true (List.ext_getElem (by rw [← HR.out.1.len, ← HR.out.2.len]) fun i a b => by
        have := hst.out.1 i (by rw [HR.out.1.len]; exact a)
        rw [List.getD_eq_getElem?_getD, List.getD_eq_getElem?_getD, List.getElem?_eq_getElem a, List.getElem?_eq_getElem b] at this
        exact this)
      have BX := Lib.hid hst.out.2
      clear hst
      go_wp2
      go_ret
      exact ⟨(by rw [HD.out] <;> rfl), BX.out⟩

/-- where answered marks who is answered -/
structure AM (H N : Nat) (s r : ByteArray) (M : Nat) (t q : ByteArray) (k P gf cf gl cl n gr gc : Nat) (l : List Bool) (w W : World) (R C : List Bool) : Prop where
  g : PG W H N s r M t q k P gf cf gl cl n false
  l : RdB W gl n l
  r : OwnBl W w.heap.size (.slice (some ⟨gr, 0, none⟩) N N) R
  c : OwnBl W w.heap.size (.slice (some ⟨gc, 0, none⟩) M M) C
  lr : R.length = N
  lc : C.length = M
  ne : gr ≠ gc
  b : Below w.heap.size w W
  lt : H < w.heap.size ∧ gl < w.heap.size
section
variable {H N : Nat} {s r : ByteArray} {M : Nat} {t q : ByteArray} {k P gf cf gl cl n gr gc : Nat} {l : List Bool} {w W : World} {R C : List Bool}
theorem OwnBl.kept {w w' : World} {B g g2 n c : Nat} {l : List Bool} (h : OwnBl w B (.slice (some ⟨g, 0, none⟩) n c) l) (hg : w.grownBy w' (some g2)) (hn : g ≠ g2) : OwnBl w' B (.slice (some ⟨g, 0, none⟩) n c) l :=
  World.ownsRow.kept h hg (.inr (by intro e; exact hn (Option.some.inj e)))
theorem OwnBl.set {w : World} {B g n c : Nat} {l : List Bool} (h : OwnBl w B (.slice (some ⟨g, 0, none⟩) n c) l) (j : Nat) (b : Bool) : OwnBl (w.setCell ⟨g, j, none⟩ (.bool b)) B (.slice (some ⟨g, 0, none⟩) n c) (l.set j b) := by
  have := (World.ownsRow.stored h.row_n j (.bool b)).1
  unfold OwnBl; rw [List.length_set, ← bcs_set, ← own_b h]; exact this
theorem OwnBl.ge {w : World} {B g n c : Nat} {l : List Bool} (h : OwnBl w B (.slice (some ⟨g, 0, none⟩) n c) l) : B ≤ g ∧ g < w.heap.size := World.ownsRow.lt h g rfl
theorem OwnBl.drew {w : World} {B g n c : Nat} {l : List Bool} (h : OwnBl w B (.slice (some ⟨g, 0, none⟩) n c) l) : OwnBl w.drew B (.slice (some ⟨g, 0, none⟩) n c) l := World.ownsRow.drew h
theorem OwnBl.below {w w' : World} {B C g n c : Nat} {l : List Bool} (h : OwnBl w B (.slice (some ⟨g, 0, none⟩) n c) l) (hb : Below C w w') (hC : w.heap.size ≤ C) : OwnBl w' B (.slice (some ⟨g, 0, none⟩) n c) l :=
  owns_same h fun g' hg' => hb.block g' (by have := World.ownsRow.lt h g' hg'; omega)
theorem OwnBl.mono {w : World} {B B' g n c : Nat} {l : List Bool} (h : OwnBl w B (.slice (some ⟨g, 0, none⟩) n c) l) (hB : B' ≤ B) : OwnBl w B' (.slice (some ⟨g, 0, none⟩) n c) l := by
  refine ⟨h.1, ?_⟩
  rcases h.2 with hn | ⟨g, cap, cur, hv, hb, r⟩
  · exact .inl hn
  · exact .inr ⟨g, cap, cur, hv, by omega, r⟩
theorem AM.drew (h : AM H N s r M t q k P gf cf gl cl n gr gc l w W R C) : AM H N s r M t q k P gf cf gl cl n gr gc l w W.drew R C := ⟨h.g, h.l.below (Below.refl _ _).drew (Nat.le_refl _), h.r.drew, h.c.drew, h.lr, h.lc, h.ne, h.b.drew, h.lt⟩
theorem AM.setR (h : AM H N s r M t q k P gf cf gl cl n gr gc l w W R C) (j : Nat) (b : Bool) : AM H N s r M t q k P gf cf gl cl n gr gc l w (W.setCell ⟨gr, j, none⟩ (.bool b)) (R.set j b) C := by
  have hg := (World.ownsRow.stored h.r.row_n j (.bool b)).2
  have h1 := h.r.ge
  have h2 := h.lt
  have ob : ∀ a, a ≠ gr → (W.setCell ⟨gr, j, none⟩ (.bool b)).heap[a]? = W.heap[a]? := fun a ha => heap_setCell_other W ⟨gr, j, none⟩ a _ ha
  exact ⟨h.g.block (ob _ (by omega)), h.l.block (ob _ (by omega)), h.r.set j b, h.c.kept hg h.ne.symm, by rw [List.length_set]; exact h.lr, h.lc, h.ne, h.b.trans (below_of_grown hg h.b.size (fun k e => by have := Option.some.inj e; omega)), h.lt⟩
theorem AM.setC (h : AM H N s r M t q k P gf cf gl cl n gr gc l w W R C) (j : Nat) (b : Bool) : AM H N s r M t q k P gf cf gl cl n gr gc l w (W.setCell ⟨gc, j, none⟩ (.bool b)) R (C.set j b) := by
  have hg := (World.ownsRow.stored h.c.row_n j (.bool b)).2
  have h1 := h.c.ge
  have h2 := h.lt
  have ob : ∀ a, a ≠ gc → (W.setCell ⟨gc, j, none⟩ (.bool b)).heap[a]? = W.heap[a]? := fun a ha => heap_setCell_other W ⟨gc, j, none⟩ a _ ha
  exact ⟨h.g.block (ob _ (by omega)), h.l.block (ob _ (by omega)), h.r.kept hg h.ne, h.c.set j b, h.lr, by rw [List.length_set]; exact h.lc, h.ne, h.b.trans (below_of_grown hg h.b.size (fun k e => by have := Option.some.inj e; omega)), h.lt⟩
end
theorem ans_match {N M n : Nat} {l : List Bool} {rest step : Nat} : (∃ f g, Bij N M f g ∧ ∀ x, x < N → WR N M l rest step x (f x)) ↔ ansP true N M fun x y => l.getD (rest + step * (1 + x * M + y)) false = true := by
  unfold ansP
  rw [if_pos rfl]
  constructor
  · rintro ⟨f, g, hb, hw⟩; exact ⟨f, g, hb, fun x hx => (hw x hx).2⟩
  · rintro ⟨f, g, hb, hw⟩; exact ⟨f, g, hb, fun x hx => ⟨⟨hx, (hb.1 x hx).1⟩, hw x hx⟩⟩

set_option maxHeartbeats 6400000 in
set_option maxRecDepth 100000 in
theorem answered_any (H N : Nat) (s r : ByteArray) (M : Nat) (t q : ByteArray) (k P gf cf gl cl n rest step : Nat) (mt : Bool) (l : List Bool) (w : World) (hg : PG w H N s r M t q k P gf cf gl cl n mt) (hl : RdB w gl n l) (hN8 : N ≤ 8) (hM8 : M ≤ 8) (hn9 : n ≤ 274625) (hix : ∀ x y, x < N → y < M → rest + step * (1 + x * M + y) < n) (hblk : mt = true → Blk (WR N M l rest step)) :
    Calls Tryd.prog 128 #[.pointer (some ⟨H, 0, none⟩), .int .i64 rest, .int .i64 step] w fun e w' => ∃ b : Bool, e = .returned (.bool b) ∧ (b = true ↔ ansP mt N M fun x y => l.getD (rest + step * (1 + x * M + y)) false = true) ∧ Below w.heap.size w w' := by
  have HG := Lib.hid hg
  have HL := Lib.hid hl
  have HLT := Lib.hid (show _ ∧ _ from ⟨hg.lt, hl.lt⟩)
  have k10 := hg.c10
  cases mt with
  | true =>
    have HC := Lib.hid (matched_any H N s r M t q k P gf cf gl cl n rest step l w hg hl hN8 hM8 hn9 hix (hblk rfl))
    clear hg hl hix hblk
    go_enter Tryd.func128, Tryd.ntmps128
    go_wp2_with fail
    clear k10
    refine HC.out.mono ?_
    rintro e w1 ⟨b, rfl, hb, hw⟩
    have HB := Lib.hid (hb.trans (ans_match (n := n)))
    have HW := Lib.hid hw
    clear hb hw HC
    go_wp2
    go_ret
    exact ⟨b, rfl, HB.out, HW.out⟩
  | false =>
    have HIX := Lib.hid hix
    clear hg hl hix hblk
    obtain ⟨i0, hi, hz0, hz1, hz2⟩ := info_parts infoB
    have HII := Lib.hid (show _ ∧ _ ∧ _ ∧ _ from ⟨hi, hz0, hz1, hz2⟩)
    clear hi hz0 hz1 hz2
    go_enter Tryd.func128, Tryd.ntmps128
    go_upto_region 3 with (fail)
    clear k10
    go_cut [7, 8] from 19 to 30 (fun v0 v1 wx => ∃ gr gc : Nat, v0 = .slice (some ⟨gr, 0, none⟩) N N ∧ v1 = .slice (some ⟨gc, 0, none⟩) M M ∧ AM H N s r M t q k P gf cf gl cl n gr gc l w wx (List.replicate N false) (List.replicate M false))
    case first =>
      have q0 : ∀ QQ : Wd (fun Q => Q.cell? ⟨H, 0, none⟩ = some (.int .i64 N) ∧ Q.cell? ⟨H, 3, none⟩ = some (.int .i64 M)), QQ.w.cell? ⟨H, 0, none⟩ = some (.int .i64 N) := fun QQ => QQ.ok.1
      have q1 : ∀ QQ : Wd (fun Q => Q.cell? ⟨H, 0, none⟩ = some (.int .i64 N) ∧ Q.cell? ⟨H, 3, none⟩ = some (.int .i64 M)), QQ.w.cell? ⟨H, 3, none⟩ = some (.int .i64 M) := fun QQ => QQ.ok.2
      have hne : Nonempty (Wd (fun Q => Q.cell? ⟨H, 0, none⟩ = some (.int .i64 N) ∧ Q.cell? ⟨H, 3, none⟩ = some (.int .i64 M))) := ⟨⟨w, ⟨HG.out.c0, HG.out.c3⟩⟩⟩
      go_wp2_with fail
      refine tree (S := (fun Q => Q.cell? ⟨H, 0, none⟩ = some (.int .i64 N) ∧ Q.cell? ⟨H, 3, none⟩ = some (.int .i64 M))) (Tr.two [true, true, true, true, true, false, true, true, true, true, true] 5 (Tr.one [false, false, false, false, false, false, false, false, false, false, false, false, true] 11 (Tr.leaf [false, false, false, false, false, false, false, false, false, false, false, false, false, true])) 11 (Tr.one [] 5 (Tr.leaf [false, false, false, false, false, false, false, false, false, false, false, false, true, true]))) (by kernel_rfl) (by kernel_rfl) (by kernel_rfl) ⟨HG.out.c0, HG.out.c3⟩ ?_
      simp only [wpTr, pickB, List.toList_toArray, List.getElem?_toArray, List.getElem?_cons_succ, List.getElem?_cons_zero, Option.toList_some]
      repeat (go_big_quiet_step (fail))
      refine wpQuiet_nil ?_
      constructor
      · intro K hK
        go_wp2_with (at_make; refine wpList_make_full _ rfl _ _ 65 rfl w.heap.size 4 i0 (.bool false) 1 Tryd.underlying65 HII.out.1 HII.out.2.1 HII.out.2.2.1 _ _ _ _ N rfl rfl (by omega) (by omega) ?b2 ?b3 (Nat.le_refl _) ?_)
        case b2 => rw [HII.out.2.2.2]; omega
        case b3 => unfold maxLen; omega
        intro V1 hown hgrow
        have BA : Hid (Below w.drew.heap.size w.drew V1) := below_of_grown hgrow (Nat.le_refl _) (fun k h => by cases h)
        have OA : Hid (OwnBl V1 w.heap.size (.slice (some ⟨w.drew.heap.size, 0, none⟩) N N) (List.replicate N false)) := ownBl_made hown
        have GA := Lib.hid (HG.out.drew.below BA.out (Nat.le_refl _))
        clear hown hgrow
        refine hK _ _ ⟨GA.out.c0, GA.out.c3⟩ ?_
        clear hK K
        repeat (go_big_quiet_step (fail))
        refine wpQuiet_nil ?_
        intro K hK
        go_wp2_with (at_make; refine wpList_make_full _ rfl _ _ 65 rfl w.heap.size 4 i0 (.bool false) 1 Tryd.underlying65 HII.out.1 HII.out.2.1 HII.out.2.2.1 _ _ _ _ M rfl rfl (by omega) (by omega) ?b2 ?b3 BA.out.size ?_)
        case b2 => rw [HII.out.2.2.2]; omega
        case b3 => unfold maxLen; omega
        intro V2 hown hgrow
        have BB : Hid (Below V1.heap.size V1 V2) := below_of_grown hgrow (Nat.le_refl _) (fun k h => by cases h)
        have OB : Hid (OwnBl V2 w.heap.size (.slice (some ⟨V1.heap.size, 0, none⟩) M M) (List.replicate M false)) := ownBl_made hown
        have GB := Lib.hid (GA.out.below BB.out (Nat.le_refl _))
        clear hown hgrow
        refine hK _ _ ⟨GB.out.c0, GB.out.c3⟩ ?_
        clear hK K
        repeat (go_big_quiet_step (fail))
        refine wpQuiet_nil ?_
        have s1 := OA.out.ge
        go_wp2_with fail
        go_meet
        have BZ : Below w.heap.size w V2 := ((Below.refl _ _).drew).trans (BA.out.trans (BB.out.mono BA.out.size))
        exact ⟨_, _, rfl, rfl, GB.out, HL.out.below BZ (Nat.le_refl _), OA.out.below BB.out (Nat.le_refl _), OB.out, List.length_replicate, List.length_replicate, (by omega), BZ, HLT.out⟩
      · intro K hK
        go_wp2_with (at_make; refine wpList_make_full _ rfl _ _ 65 rfl w.heap.size 4 i0 (.bool false) 1 Tryd.underlying65 HII.out.1 HII.out.2.1 HII.out.2.2.1 _ _ _ _ M rfl rfl (by omega) (by omega) ?b2 ?b3 (Nat.le_refl _) ?_)
        case b2 => rw [HII.out.2.2.2]; omega
        case b3 => unfold maxLen; omega
        intro V1 hown hgrow
        have BB : Hid (Below w.drew.heap.size w.drew V1) := below_of_grown hgrow (Nat.le_refl _) (fun k h => by cases h)
        have OB : Hid (OwnBl V1 w.heap.size (.slice (some ⟨w.drew.heap.size, 0, none⟩) M M) (List.replicate M false)) := ownBl_made hown
        have GB := Lib.hid (HG.out.drew.below BB.out (Nat.le_refl _))
        clear hown hgrow
        refine hK _ _ ⟨GB.out.c0, GB.out.c3⟩ ?_
        clear hK K
        repeat (go_big_quiet_step (fail))
        refine wpQuiet_nil ?_
        intro K hK
        go_wp2_with (at_make; refine wpList_make_full _ rfl _ _ 65 rfl w.heap.size 4 i0 (.bool false) 1 Tryd.underlying65 HII.out.1 HII.out.2.1 HII.out.2.2.1 _ _ _ _ N rfl rfl (by omega) (by omega) ?b2 ?b3 BB.out.size ?_)
        case b2 => rw [HII.out.2.2.2]; omega
        case b3 => unfold maxLen; omega
        intro V2 hown hgrow
        have BA : Hid (Below V1.heap.size V1 V2) := below_of_grown hgrow (Nat.le_refl _) (fun k h => by cases h)
        have OA : Hid (OwnBl V2 w.heap.size (.slice (some ⟨V1.heap.size, 0, none⟩) N N) (List.replicate N false)) := ownBl_made hown
        have GA := Lib.hid (GB.out.below BA.out (Nat.le_refl _))
        clear hown hgrow
        refine hK _ _ ⟨GA.out.c0, GA.out.c3⟩ ?_
        clear hK K
        repeat (go_big_quiet_step (fail))
        refine wpQuiet_nil ?_
        have s1 := OB.out.ge
        go_wp2_with fail
        go_meet
        have BZ : Below w.heap.size w V2 := ((Below.refl _ _).drew).trans (BB.out.trans (BA.out.mono BB.out.size))
        exact ⟨_, _, rfl, rfl, GA.out, HL.out.below BZ (Nat.le_refl _), OA.out, OB.out.below BA.out (Nat.le_refl _), List.length_replicate, List.length_replicate, (by omega), BZ, HLT.out⟩
    case rest =>
      obtain ⟨gr, gc, rfl, rfl, hcut⟩ := hcut
      have HS : Hid (AM H N s r M t q k P gf cf gl cl n gr gc l w wc (List.replicate N false) (List.replicate M false) ∧ Marks (fun x y => l.getD (rest + step * (1 + x * M + y)) false = true) N M 0 0 (List.replicate N false) (List.replicate M false)) := ⟨hcut, marks_zero⟩
      clear hcut
      go_wp2_with fail
      go_loopw [33] (fun iv wr => ∃ (x : Nat) (R C : List Bool), x ≤ N ∧ iv = .int .i64 x ∧ Hid (AM H N s r M t q k P gf cf gl cl n gr gc l w wr R C ∧ Marks (fun x y => l.getD (rest + step * (1 + x * M + y)) false = true) N M x 0 R C)) (fun iv _ => N - (intOf iv).toNat)
      case atStart => exact ⟨0, _, _, Nat.zero_le _, rfl, HS.out⟩
      case round =>
        clear HS
        obtain ⟨x, R, C, hx, rfl, hst⟩ := hrel
        by_cases hlx : x < N
        · have i1 : (x : Int) < (N : Int) := by omega
          have HX := Lib.hid hlx
          go_wp2_with fail
          clear i1 hlx
          go_loopw [38] (fun iv wr => ∃ (y : Nat) (R C : List Bool), y ≤ M ∧ iv = .int .i64 y ∧ Hid (AM H N s r M t q k P gf cf gl cl n gr gc l w wr R C ∧ Marks (fun x y => l.getD (rest + step * (1 + x * M + y)) false = true) N M x y R C)) (fun iv _ => M - (intOf iv).toNat)
          case atStart => exact ⟨0, R, C, Nat.zero_le _, rfl, hst.out⟩
          case round =>
            clear hst
            obtain ⟨y, R, C, hy, rfl, hst⟩ := hrel
            by_cases hly : y < M
            · have hjM : (y : Int) < (M : Int) := by omega
              have KX := Lib.hid hst.out.1
              have KM := Lib.hid hst.out.2
              have hix : rest + step * (1 + x * M + y) < n := HIX.out x y HX.out hly
              obtain ⟨X1, hX1⟩ : ∃ X1, X1 = x * M := ⟨_, rfl⟩
              obtain ⟨X3, hX3⟩ : ∃ X3, X3 = 1 + X1 + y := ⟨_, rfl⟩
              obtain ⟨X4, hX4⟩ : ∃ X4, X4 = step * X3 := ⟨_, rfl⟩
              obtain ⟨IX, hIX⟩ : ∃ IX, IX = rest + X4 := ⟨_, rfl⟩
              have hIXe : IX = rest + step * (1 + x * M + y) := by rw [hIX, hX4, hX3, hX1]
              have hIXn : IX < n := by rw [hIXe]; exact hix
              have hX1b : X1 ≤ 64 := by rw [hX1]; exact Nat.mul_le_mul (show x ≤ 8 by have := HX.out; omega) hM8
              have w1 : IntKind.i64.wrap ((x : Int) * (M : Int)) = (X1 : Int) := by
                have e : (x : Int) * (M : Int) = (X1 : Int) := by rw [hX1]; push_cast; rfl
                rw [e, IntWalk.i64_in _ (by omega)]
              have w2 : IntKind.i64.wrap (1 + (X1 : Int)) = ((1 + X1 : Nat) : Int) := by rw [IntWalk.i64_in _ (by omega)]; omega
              obtain ⟨X2, hX2⟩ : ∃ X2, X2 = 1 + X1 := ⟨_, rfl⟩
              rw [← hX2] at w2 hX3
              have w3 : IntKind.i64.wrap ((X2 : Int) + (y : Int)) = (X3 : Int) := by rw [IntWalk.i64_in _ (by omega)]; omega
              have w4 : IntKind.i64.wrap ((step : Int) * (X3 : Int)) = (X4 : Int) := by
                have e : (step : Int) * (X3 : Int) = (X4 : Int) := by rw [hX4]; push_cast; rfl
                rw [e, IntWalk.i64_in _ (by omega)]
              have w5 : IntKind.i64.wrap ((rest : Int) + (X4 : Int)) = (IX : Int) := by rw [IntWalk.i64_in _ (by omega)]; omega
              have KL : Hid (wr.cell? ⟨gl, IX, none⟩ = some (.bool (l.getD IX false))) := KX.out.l.cell IX hIXn
              obtain ⟨LV, hLV⟩ : ∃ LV, LV = l.getD IX false := ⟨_, rfl⟩
              rw [← hLV] at KL
              have HW : Hid (LV = l.getD (rest + step * (1 + x * M + y)) false) := by rw [Hid, hLV, hIXe]
              have HY := Lib.hid hly
              clear hX1 hX2 hX3 hX4 hIX hIXe hix hLV hst
              cases LV with
              | false =>
                have q0 : ∀ QQ : Wd (fun Q => Q.cell? ⟨H, 9, none⟩ = some (.slice (some ⟨gl, 0, none⟩) n cl) ∧ Q.cell? ⟨H, 3, none⟩ = some (.int .i64 M) ∧ Q.cell? ⟨gl, IX, none⟩ = some (.bool false)), QQ.w.cell? ⟨H, 9, none⟩ = some (.slice (some ⟨gl, 0, none⟩) n cl) := fun QQ => QQ.ok.1
                have q1 : ∀ QQ : Wd (fun Q => Q.cell? ⟨H, 9, none⟩ = some (.slice (some ⟨gl, 0, none⟩) n cl) ∧ Q.cell? ⟨H, 3, none⟩ = some (.int .i64 M) ∧ Q.cell? ⟨gl, IX, none⟩ = some (.bool false)), QQ.w.cell? ⟨H, 3, none⟩ = some (.int .i64 M) := fun QQ => QQ.ok.2.1
                have q2 : ∀ QQ : Wd (fun Q => Q.cell? ⟨H, 9, none⟩ = some (.slice (some ⟨gl, 0, none⟩) n cl) ∧ Q.cell? ⟨H, 3, none⟩ = some (.int .i64 M) ∧ Q.cell? ⟨gl, IX, none⟩ = some (.bool false)), QQ.w.cell? ⟨gl, IX, none⟩ = some (.bool false) := fun QQ => QQ.ok.2.2
                have hne : Nonempty (Wd (fun Q => Q.cell? ⟨H, 9, none⟩ = some (.slice (some ⟨gl, 0, none⟩) n cl) ∧ Q.cell? ⟨H, 3, none⟩ = some (.int .i64 M) ∧ Q.cell? ⟨gl, IX, none⟩ = some (.bool false))) := ⟨⟨wr, ⟨KX.out.g.c9, KX.out.g.c3, KL.out⟩⟩⟩
                go_wp2_with fail
                refine chain (S := (fun Q => Q.cell? ⟨H, 9, none⟩ = some (.slice (some ⟨gl, 0, none⟩) n cl) ∧ Q.cell? ⟨H, 3, none⟩ = some (.int .i64 M) ∧ Q.cell? ⟨gl, IX, none⟩ = some (.bool false))) [] [true, true, true, true, true, true, true, true, true, true, true, true, true, true, true, true, true, true, true, true] (by kernel_rfl) (by kernel_rfl) (by kernel_rfl) ⟨KX.out.g.c9, KX.out.g.c3, KL.out⟩ ?_
                simp only [wpSegs, pickB, List.dropLast_cons_cons, List.dropLast_singleton, List.getLast?_cons_cons, List.getLast?_singleton, List.toList_toArray, List.getElem?_toArray, List.getElem?_cons_succ, List.getElem?_cons_zero, Option.toList_some]
                repeat (go_big_quiet_step (fail))
                refine wpQuiet_nil ?_
                clear q0 q1 q2 hne
                have HN : Hid (AM H N s r M t q k P gf cf gl cl n gr gc l w wr.drew R C ∧ Marks (fun x y => l.getD (rest + step * (1 + x * M + y)) false = true) N M x (y + 1) R C) := ⟨KX.out.drew, marks_skip KM.out (by rw [← HW.out]; simp)⟩
                clear KX KM KL HW w1 w2 w3 w4 w5
                go_wp2
                go_roundw
                case rel => exact ⟨y + 1, R, C, by omega, by go_num, HN.out⟩
                case measure => simp [intOf]; omega
              | true =>
                have q0 : ∀ QQ : Wd (fun Q => Q.cell? ⟨H, 9, none⟩ = some (.slice (some ⟨gl, 0, none⟩) n cl) ∧ Q.cell? ⟨H, 3, none⟩ = some (.int .i64 M) ∧ Q.cell? ⟨gl, IX, none⟩ = some (.bool true)), QQ.w.cell? ⟨H, 9, none⟩ = some (.slice (some ⟨gl, 0, none⟩) n cl) := fun QQ => QQ.ok.1
                have q1 : ∀ QQ : Wd (fun Q => Q.cell? ⟨H, 9, none⟩ = some (.slice (some ⟨gl, 0, none⟩) n cl) ∧ Q.cell? ⟨H, 3, none⟩ = some (.int .i64 M) ∧ Q.cell? ⟨gl, IX, none⟩ = some (.bool true)), QQ.w.cell? ⟨H, 3, none⟩ = some (.int .i64 M) := fun QQ => QQ.ok.2.1
                have q2 : ∀ QQ : Wd (fun Q => Q.cell? ⟨H, 9, none⟩ = some (.slice (some ⟨gl, 0, none⟩) n cl) ∧ Q.cell? ⟨H, 3, none⟩ = some (.int .i64 M) ∧ Q.cell? ⟨gl, IX, none⟩ = some (.bool true)), QQ.w.cell? ⟨gl, IX, none⟩ = some (.bool true) := fun QQ => QQ.ok.2.2
                have hne : Nonempty (Wd (fun Q => Q.cell? ⟨H, 9, none⟩ = some (.slice (some ⟨gl, 0, none⟩) n cl) ∧ Q.cell? ⟨H, 3, none⟩ = some (.int .i64 M) ∧ Q.cell? ⟨gl, IX, none⟩ = some (.bool true))) := ⟨⟨wr, ⟨KX.out.g.c9, KX.out.g.c3, KL.out⟩⟩⟩
                go_wp2_with fail
                refine chain (S := (fun Q => Q.cell? ⟨H, 9, none⟩ = some (.slice (some ⟨gl, 0, none⟩) n cl) ∧ Q.cell? ⟨H, 3, none⟩ = some (.int .i64 M) ∧ Q.cell? ⟨gl, IX, none⟩ = some (.bool true))) [] [true, true, true, true, true, true, true, true, true, true, true, true, true, true, true, true, true, true, true, true] (by kernel_rfl) (by kernel_rfl) (by kernel_rfl) ⟨KX.out.g.c9, KX.out.g.c3, KL.out⟩ ?_
                simp only [wpSegs, pickB, List.dropLast_cons_cons, List.dropLast_singleton, List.getLast?_cons_cons, List.getLast?_singleton, List.toList_toArray, List.getElem?_toArray, List.getElem?_cons_succ, List.getElem?_cons_zero, Option.toList_some]
                repeat (go_big_quiet_step (fail))
                refine wpQuiet_nil ?_
                clear q0 q1 q2 hne
                have HM : Hid (Marks (fun x y => l.getD (rest + step * (1 + x * M + y)) false = true) N M x (y + 1) (R.set x true) (C.set y true)) := marks_hit KM.out HX.out HY.out (by rw [← HW.out])
                have K1 : Hid (AM H N s r M t q k P gf cf gl cl n gr gc l w (wr.drew.setCell ⟨gr, x, none⟩ (.bool true)) (R.set x true) C) := KX.out.drew.setR x true
                have K2 : Hid (AM H N s r M t q k P gf cf gl cl n gr gc l w ((wr.drew.setCell ⟨gr, x, none⟩ (.bool true)).setCell ⟨gc, y, none⟩ (.bool true)) (R.set x true) (C.set y true)) := K1.out.setC y true
                obtain ⟨v0, hv0⟩ : ∃ v0, v0 = wr.drew := ⟨_, rfl⟩
                have fr : v0.frozen? ⟨gr, x, none⟩ = false := by rw [hv0]; exact World.ownsRow.frozenAt KX.out.drew.r.row_n x
                have kr : v0.cell? ⟨gr, x, none⟩ = some (.bool (R.getD x false)) := by rw [hv0]; exact (RdB.of KX.out.drew.r KX.out.lr.symm).cell x HX.out
                rw [← hv0] at K1 K2 ⊢
                have hxN : x < N := HX.out
                obtain ⟨r0, hr0⟩ : ∃ r0, r0 = R.getD x false := ⟨_, rfl⟩
                rw [← hr0] at kr
                clear KX KM KL HW w1 w2 w3 w4 w5 hv0 hr0
                go_upto_region 12 with (fail)
                clear fr kr hxN
                obtain ⟨v1, hv1⟩ : ∃ v1, v1 = v0.setCell ⟨gr, x, none⟩ (.bool true) := ⟨_, rfl⟩
                have fc : v1.frozen? ⟨gc, y, none⟩ = false := by rw [hv1]; exact World.ownsRow.frozenAt K1.out.c.row_n y
                have kc : v1.cell? ⟨gc, y, none⟩ = some (.bool (C.getD y false)) := by rw [hv1]; exact (RdB.of K1.out.c K1.out.lc.symm).cell y HY.out
                obtain ⟨c0, hc0⟩ : ∃ c0, c0 = C.getD y false := ⟨_, rfl⟩
                rw [← hc0] at kc
                rw [← hv1] at K2 ⊢
                have HN : Hid (AM H N s r M t q k P gf cf gl cl n gr gc l w (v1.setCell ⟨gc, y, none⟩ (.bool true)) (R.set x true) (C.set y true) ∧ Marks (fun x y => l.getD (rest + step * (1 + x * M + y)) false = true) N M x (y + 1) (R.set x true) (C.set y true)) := ⟨K2.out, HM.out⟩
                have hyM : y < M := HY.out
                clear K1 K2 HM hv1 hc0
                go_wp2
                go_roundw
                case rel => exact ⟨y + 1, R.set x true, C.set y true, by omega, by go_num, HN.out⟩
                case measure => simp [intOf]; omega
            · obtain rfl : M = y := by omega
              have HN : Hid (AM H N s r M t q k P gf cf gl cl n gr gc l w wr R C ∧ Marks (fun x y => l.getD (rest + step * (1 + x * M + y)) false = true) N M (x + 1) 0 R C) := ⟨hst.out.1, marks_row hst.out.2⟩
              have hxN : x < N := HX.out
              clear hst
              go_wp2
              go_roundw
              case rel => exact ⟨x + 1, R, C, by omega, by go_num, HN.out⟩
              case measure => simp [intOf]; omega
        · obtain rfl : N = x := by omega
          have KX := Lib.hid hst.out.1
          have HD := Lib.hid (marks_done hst.out.2)
          clear hst
          go_wp2_with fail
          refine (contains_b gr N N R false _ (RdB.of KX.out.r KX.out.lr.symm) (by omega)).mono ?_
          rintro e V1 ⟨rfl, hw1⟩
          have B1 : Hid (Below w.heap.size w V1) := KX.out.b.trans (hw1.mono KX.out.b.size)
          have RC : Hid (RdB V1 gc M C) := (RdB.of KX.out.c KX.out.lc.symm).below hw1 (Nat.le_refl _)
          clear hw1 KX
          obtain ⟨bR, hbR⟩ : ∃ bR, bR = R.contains false := ⟨_, rfl⟩
          rw [← hbR] at HD ⊢
          clear hbR
          cases bR with
          | true =>
            go_wp2
            go_ret
            exact ⟨false, rfl, by rw [← HD.out]; simp, B1.out⟩
          | false =>
            go_wp2_with fail
            refine (contains_b gc M M C false _ RC.out (by omega)).mono ?_
            rintro e V2 ⟨rfl, hw2⟩
            have B2 : Hid (Below w.heap.size w V2) := B1.out.trans (hw2.mono B1.out.size)
            clear hw2 B1 RC
            obtain ⟨bC, hbC⟩ : ∃ bC, bC = C.contains false := ⟨_, rfl⟩
            rw [← hbC] at HD ⊢
            clear hbC
            go_wp2
            go_ret
            exact ⟨!bC, rfl, by rw [← HD.out]; simp, B2.out⟩
end Go.Proofs.YtpcnoiigbmiejaaDoor.pbi

/- turn, play of the program. -/
namespace Go.Proofs.YtpcnoiigbmiejaaDoor.pbi
set_option linter.unusedVariables false
set_option linter.unusedSimpArgs false
open Go.ChangeShapes Go.WideShapes Go.ChangeAt Go.RowKit
open Go.Proofs.YtpcnoiigbmiejaaDoor.lib Go.Proofs.YtpcnoiigbmiejaaDoor.st Go.Proofs.YtpcnoiigbmiejaaDoor.flow Go.Proofs.YtpcnoiigbmiejaaDoor.chain Go.Proofs.YtpcnoiigbmiejaaDoor.base Go.Proofs.YtpcnoiigbmiejaaDoor.fits Go.Proofs.YtpcnoiigbmiejaaDoor.still Go.Proofs.YtpcnoiigbmiejaaDoor.gow Go.Proofs.YtpcnoiigbmiejaaDoor.peb Go.Proofs.YtpcnoiigbmiejaaDoor.tab
theorem wpList_appB {P : Program} (w : World) {ops : Array Oper} {rest : List Oper} {o : Oper} {a : Act} {Q : Exit → Act → World → Prop}
    (hg : o.guard = none) (s x : Operand) (t : TypeId) (hop : o.op = Op.call { callee := Callee.builtin Builtin.append, args := #[s, x], argTypes := #[t, t] })
    (base : Nat) (h1 : P.underlying t = some (.slice 4)) (hinfo : (P.info? 4).map (fun i => (i.zero, i.size, i.bytes)) = some (some (.bool false), 1, 1))
    (v : Value) (hs : a.eval s = v) (hown : w.ownsRow base 4 1 v 0 []) (g n c : Nat) (l : List Bool) (hx : a.eval x = .slice (some ⟨g, 0, none⟩) n c) (hr : RdB w g n l) (hn1 : 1 ≤ n)
    (b1 : n ≤ 274625) (b4 : base ≤ w.heap.size)
    (h : ∀ g' c' w', OwnBl w' base (.slice (some ⟨g', 0, none⟩) n c') l → w.grownBy w' v.ownBlock → wpList P ops Q rest (a.put o.dst (.slice (some ⟨g', 0, none⟩) n c')) w') :
    wpList P ops Q (o :: rest) a w := by
  obtain ⟨i, hi, hz0, hz1, hz2⟩ := info_parts hinfo
  refine wpList_append_own w hg s x t hop base 4 i (.bool false) 1 1 h1 hi hz0 hz1 hz2 rfl (by decide) v 0 [] hs hown ⟨g, 0, none⟩ n c (bcs l) hx (by rw [bcs, List.length_map, ← hr.len, Nat.mul_one]) ?_ ?_ (by unfold maxLen; omega) (by omega) b4 ?_
  · intro j u hj
    have hjl : j < l.length := by
      have := (List.getElem?_eq_some_iff.1 hj).1; simpa [bcs] using this
    rw [bcs_get l j hjl] at hj
    cases hj
    have := hr.cell j (by rw [hr.len]; exact hjl)
    have e0 : ∀ off, (⟨g, off, none⟩ : Addr).add j = ⟨g, off + j, none⟩ := fun off => by simp [Addr.add]
    rw [e0 0, Nat.zero_add]
    exact this
  · intro u hu
    simp only [bcs, List.mem_map] at hu
    obtain ⟨q, _, rfl⟩ := hu
    rfl
  · intro v' w' ho hg' _
    rw [Nat.zero_add, List.nil_append] at ho
    rcases ho.2 with ⟨_, e⟩ | ⟨g', cap, cur, rfl, _⟩
    · omega
    · exact h g' cap w' (by unfold OwnBl; rw [← hr.len]; exact ho) hg'
theorem put_lt {P k s i p : Nat} (hP : 0 < P) (hs : s < P ^ k) (hi : i < k) (h0 : s / P ^ i % P = 0) (hp : p < P) : s + P ^ i * p < P ^ k := by
  have hd : (dgs P k s).getD i 0 = 0 := by rw [dgs_get k s i hi]; exact h0
  have e : s + P ^ i * p = und P ((dgs P k s).set i p) := by
    rw [und_set _ (by rw [dgs_len]; exact hi) hd, und_dgs k s hs]
  have hall : ∀ d, d ∈ (dgs P k s).set i p → d < P := fun d h => by
    rcases List.mem_or_eq_of_mem_set h with h | rfl
    · exact dgs_lt hP k s d h
    · exact hp
  have := und_lt hP hall
  rw [List.length_set, dgs_len] at this
  rw [e]; exact this
theorem out_set (w : World) (H o : Nat) (v : Value) : Out (fun a => a = H) w (w.setCell ⟨H, o, none⟩ v) := ⟨rfl, rfl, rfl, by simp [World.setCell], fun k _ hk => heap_setCell_other w ⟨H, o, none⟩ k v hk⟩
/-- under way in a turn -/
structure TM (H N : Nat) (s r : ByteArray) (M : Nat) (t q : ByteArray) (k P gf cf gl cl n : Nat) (mt : Bool) (gx cx : Nat) (F l : List Bool) (w W : World) (X : List Bool) : Prop where
  g : PG W H N s r M t q k P gf cf gl cl n mt
  f : RdB W gf n F
  l : RdB W gl n l
  x : OwnBl W w.heap.size (.slice (some ⟨gx, 0, none⟩) n cx) X
  lx : X.length = n
  b : Below w.heap.size w W
  lt : H < w.heap.size ∧ gl < w.heap.size ∧ gf < w.heap.size
section
variable {H N : Nat} {s r : ByteArray} {M : Nat} {t q : ByteArray} {k P gf cf gl cl n gx cx : Nat} {mt : Bool} {F l : List Bool} {w W W' : World} {X : List Bool}
theorem TM.drew (h : TM H N s r M t q k P gf cf gl cl n mt gx cx F l w W X) : TM H N s r M t q k P gf cf gl cl n mt gx cx F l w W.drew X := ⟨h.g, h.f.below (Below.refl _ _).drew (Nat.le_refl _), h.l.below (Below.refl _ _).drew (Nat.le_refl _), h.x.drew, h.lx, h.b.drew, h.lt⟩
theorem TM.below (h : TM H N s r M t q k P gf cf gl cl n mt gx cx F l w W X) (hb : Below W.heap.size W W') : TM H N s r M t q k P gf cf gl cl n mt gx cx F l w W' X := ⟨h.g.below hb (Nat.le_refl _), h.f.below hb (Nat.le_refl _), h.l.below hb (Nat.le_refl _), h.x.below hb (Nat.le_refl _), h.lx, h.b.trans (hb.mono h.b.size), h.lt⟩
theorem TM.set (h : TM H N s r M t q k P gf cf gl cl n mt gx cx F l w W X) (j : Nat) (b : Bool) : TM H N s r M t q k P gf cf gl cl n mt gx cx F l w (W.setCell ⟨gx, j, none⟩ (.bool b)) (X.set j b) := by
  have hg := (World.ownsRow.stored h.x.row_n j (.bool b)).2
  have h1 := h.x.ge
  have h2 := h.lt
  have ob : ∀ a, a ≠ gx → (W.setCell ⟨gx, j, none⟩ (.bool b)).heap[a]? = W.heap[a]? := fun a ha => heap_setCell_other W ⟨gx, j, none⟩ a _ ha
  exact ⟨h.g.block (ob _ (by omega)), h.f.block (ob _ (by omega)), h.l.block (ob _ (by omega)), h.x.set j b, by rw [List.length_set]; exact h.lx, h.b.trans (below_of_grown hg h.b.size (fun k e => by have := Option.some.inj e; omega)), h.lt⟩
end

set_option maxHeartbeats 6400000 in
set_option maxRecDepth 100000 in
theorem turn_any (H N : Nat) (s r : ByteArray) (M : Nat) (t q : ByteArray) (k P gf cf gl cl n : Nat) (mt : Bool) (F l : List Bool) (w : World) (hg : PG w H N s r M t q k P gf cf gl cl n mt) (hf : RdB w gf n F) (hl : RdB w gl n l) (hz : Sz N M k P) (hn : n = P ^ k) (hfh : gf ≠ H) (hblk : mt = true → ∀ i u, i < k → u < (N * M + 1) ^ k → u / (N * M + 1) ^ i % (N * M + 1) = 0 → Blk (WR N M l u ((N * M + 1) ^ i))) :
    Calls Tryd.prog 77 #[.pointer (some ⟨H, 0, none⟩)] w fun e w' => ∃ (l' : List Bool) (gl' cl' : Nat), e = .returned (.bool (!(decide (l' = l)))) ∧ PG w' H N s r M t q k P gf cf gl' cl' n mt ∧ RdB w' gf n F ∧ RdB w' gl' n l' ∧ TurnL mt N M k F l l' ∧ Out (fun a => a = H) w w' := by
  obtain ⟨p1, p2, p3, p4⟩ := hz.p
  have HP : Hid (n ≤ 274625 ∧ 1 ≤ P) := ⟨by rw [hn]; exact p3, by omega⟩
  have HNE := Lib.hid hn
  have HZ := Lib.hid hz
  have HBLK := Lib.hid hblk
  have HFH := Lib.hid hfh
  obtain ⟨S, hS⟩ : ∃ S : Nat → Nat, S = fun i => P ^ i := ⟨_, rfl⟩
  have HSB : Hid (∀ i, i ≤ k → S i ≤ n) := fun i hi => by rw [hS, hn]; exact Nat.pow_le_pow_right (by omega) hi
  have HS1 : Hid (∀ i, 1 ≤ S i) := fun i => by rw [hS]; exact Nat.pow_pos (by omega)
  have hn1 : 1 ≤ n := by rw [hn]; exact p4
  have hP9 : P ≤ 65 := p2
  have hk3 : k ≤ 3 := hz.2.2.1.2
  have hn9 : n ≤ 274625 := HP.out.1
  have HS := Lib.hid hS
  have A0 : Below w.heap.size w (w.alloc (.cells #[] 4)) := (Below.refl _ _).alloc (Nat.le_refl _) _
  have HE : Hid ((w.alloc (.cells #[] 4)).ownsRow w.heap.size 4 1 (.slice (some ⟨w.heap.size, 0, none⟩) 0 0) 0 []) := ⟨rfl, .inr ⟨w.heap.size, 0, #[], rfl, Nat.le_refl _, heap_alloc_new w _, Nat.le_refl _, Nat.zero_le _, rfl, rfl⟩⟩
  have k8 := (hg.below A0 (Nat.le_refl _)).c8
  obtain ⟨W1, hW1⟩ : ∃ W1, W1 = w.alloc (.cells #[] 4) := ⟨_, rfl⟩
  rw [← hW1] at A0 HE
  have HA : Hid (PG W1 H N s r M t q k P gf cf gl cl n mt ∧ RdB W1 gf n F ∧ RdB W1 gl n l ∧ Below w.heap.size w W1) := ⟨hg.below A0 (Nat.le_refl _), hf.below A0 (Nat.le_refl _), hl.below A0 (Nat.le_refl _), A0⟩
  have HLT := Lib.hid (show _ ∧ _ ∧ _ from ⟨hg.lt, hl.lt, hf.lt⟩)
  have HFL : Hid (F.length = (N * M + 1) ^ k) := by rw [Hid, ← hf.len, hn, hz.2.2.2]
  have HW1 := Lib.hid hW1
  clear hg hf hl hz hn hblk hfh hS A0 hW1 p1 p2 p3 p4
  go_enter Tryd.func77, Tryd.ntmps77
  go_wp2_with (rw [← HW1.out]; at_builtin; refine wpList_appB W1 rfl (.tmp 8) (.tmp 12) 65 rfl w.heap.size Tryd.underlying65 infoB _ rfl HE.out gf n cf F rfl HA.out.2.1 hn1 hn9 HA.out.2.2.2.size ?_)
  clear k8
  intro gx cx V0 ho hgr
  have HB0 : Below w.heap.size w V0 := HA.out.2.2.2.trans (below_of_grown hgr HA.out.2.2.2.size (fun k e => by have e2 : w.heap.size = k := Option.some.inj e; omega))
  have HBB : Hid (Out (fun a => a = w.heap.size) W1 V0) := Out.of_grown hgr (fun g e => (Option.some.inj e).symm)
  have K0 : Hid (TM H N s r M t q k P gf cf gl cl n mt gx cx F l w V0 F ∧ Tn mt N M k F l 0 0 F) := ⟨⟨(HA.out.1).block (HBB.out.block H (by have h1 := HLT.out.1; have h2 := HA.out.2.2.2.size; omega) (by have := HLT.out.1; omega)), (HA.out.2.1).block (HBB.out.block gf (by have h1 := HLT.out.2.2; have h2 := HA.out.2.2.2.size; omega) (by have := HLT.out.2.2; omega)), (HA.out.2.2.1).block (HBB.out.block gl (by have h1 := HLT.out.2.1; have h2 := HA.out.2.2.2.size; omega) (by have := HLT.out.2.1; omega)), ho, by rw [HFL.out, HNE.out, HZ.out.2.2.2], HB0, HLT.out⟩, tn_start HFL.out⟩
  have S0 : Hid (S 0 = 1) := by rw [Hid, HS.out]; rfl
  clear ho hgr HB0 HBB HW1
  have k6 := K0.out.1.g.c6
  go_wp2_with fail
  clear k6
  go_loopw [4, 18] (fun sv iv wr => ∃ (i : Nat) (X : List Bool), i ≤ k ∧ sv = .int .i64 (S i : Nat) ∧ iv = .int .i64 i ∧ Hid (TM H N s r M t q k P gf cf gl cl n mt gx cx F l w wr X ∧ Tn mt N M k F l i 0 X)) (fun _ iv _ => k - (intOf iv).toNat)
  case atStart => exact ⟨0, F, Nat.zero_le _, by rw [S0.out]; rfl, rfl, K0.out⟩
  case round =>
    clear K0 S0 HA HE
    obtain ⟨i, X, hi, rfl, rfl, hst⟩ := hrel
    by_cases hli : i < k
    · have i1 : (i : Int) < (k : Int) := by omega
      have HI := Lib.hid hli
      have HSI : Hid (1 ≤ S i ∧ S i ≤ n) := ⟨HS1.out i, HSB.out i hi⟩
      go_wp2_with fail
      clear i1 hli hi
      go_loopw [22] (fun iv wr => ∃ (u : Nat) (X : List Bool), u ≤ n ∧ iv = .int .i64 u ∧ Hid (TM H N s r M t q k P gf cf gl cl n mt gx cx F l w wr X ∧ Tn mt N M k F l i u X)) (fun iv _ => n - (intOf iv).toNat)
      case atStart => exact ⟨0, X, Nat.zero_le _, rfl, hst.out⟩
      case round =>
        clear hst
        obtain ⟨u, X, hu, rfl, hst⟩ := hrel
        by_cases hlu : u < n
        · have i2 : (u : Int) < (n : Int) := by omega
          have HU := Lib.hid hlu
          have KX := Lib.hid hst.out.1
          have KT := Lib.hid hst.out.2
          have hu9 : u ≤ 1000000 := by have := HP.out.1; omega
          obtain ⟨v1, v2, v3, v4⟩ := dv (x := u) (m := S i) (HSI.out.1) hu9
          obtain ⟨z, hz⟩ : ∃ z, z = u / S i := ⟨_, rfl⟩
          rw [← hz] at v1 v2
          have hz9 : z ≤ 1000000 := by rw [hz]; exact Nat.le_trans (Nat.div_le_self _ _) hu9
          obtain ⟨y1, y2, y3, y4⟩ := dv (x := z) (m := P) (by have := HP.out.2; omega) hz9
          obtain ⟨dg, hdg⟩ : ∃ dg, dg = z % P := ⟨_, rfl⟩
          rw [← hdg] at y3
          have HDG : Hid (dg = u / (N * M + 1) ^ i % (N * M + 1)) := by
            rw [Hid, hdg, hz, HS.out]; show u / P ^ i % P = _; rw [HZ.out.2.2.2]
          clear hst hz hdg v3 y1 y2 hlu hz9
          by_cases hd0 : dg = 0
          · subst hd0
            have HIX : Hid (∀ x y, x < N → y < M → u + S i * (1 + x * M + y) < n) := fun x y hx hy => by
              have hun : u < (N * M + 1) ^ k := by have := HU.out; rw [HNE.out, HZ.out.2.2.2] at this; exact this
              have := (pos_put (N := N) HZ.out.2.1.1 hun HI.out HDG.out.symm hx hy).1
              rw [HNE.out, HS.out]; show u + P ^ i * _ < P ^ k
              rw [HZ.out.2.2.2]; exact this
            have HBL : Hid (mt = true → Blk (WR N M l u (S i))) := fun hm => by
              have hun : u < (N * M + 1) ^ k := by have := HU.out; rw [HNE.out, HZ.out.2.2.2] at this; exact this
              have := HBLK.out hm i u HI.out hun HDG.out.symm
              rw [HS.out]; show Blk (WR N M l u (P ^ i)); rw [HZ.out.2.2.2]; exact this
            have t0 : ((0 : Int) != 0) = false := rfl
            have t1 : ((0 : Nat) != 0) = false := rfl
            have q0 : ∀ QQ : Wd (fun Q => Q.cell? ⟨H, 7, none⟩ = some (.int .i64 P)), QQ.w.cell? ⟨H, 7, none⟩ = some (.int .i64 P) := fun QQ => QQ.ok
            have hne : Nonempty (Wd (fun Q => Q.cell? ⟨H, 7, none⟩ = some (.int .i64 P))) := ⟨⟨wr, KX.out.g.c7⟩⟩
            go_wp2_with fail
            refine chain (S := (fun Q => Q.cell? ⟨H, 7, none⟩ = some (.int .i64 P))) [([true, true, true, true, true, true, true, true, true, true, true, true, true], 13)] [false, false, false, false, false, false, false, false, false, false, false, false, false, false, true] (by kernel_rfl) (by kernel_rfl) (by kernel_rfl) KX.out.g.c7 ?_
            simp only [wpSegs, pickB, List.dropLast_cons_cons, List.dropLast_singleton, List.getLast?_cons_cons, List.getLast?_singleton, List.toList_toArray, List.getElem?_toArray, List.getElem?_cons_succ, List.getElem?_cons_zero, Option.toList_some]
            repeat (go_big_quiet_step (fail))
            refine wpQuiet_nil ?_
            intro K hK
            go_wp2_with fail
            have hc := answered_any H N s r M t q k P gf cf gl cl n u (S i) mt l wr.drew KX.out.drew.g KX.out.drew.l HZ.out.1.2 HZ.out.2.1.2 HP.out.1 HIX.out HBL.out
            refine hc.mono ?_
            rintro er V1 ⟨b, rfl, hb, hw⟩
            have K1 := Lib.hid (KX.out.drew.below hw)
            have HB := Lib.hid hb
            clear hc hb hw
            go_wp2_with fail
            refine hK _ _ K1.out.g.c7 ?_
            clear hK K
            repeat (go_big_quiet_step (fail))
            refine wpQuiet_nil ?_
            clear q0 hne
            clear v1 v2 v4 y3 y4
            have huN : u < n := HU.out
            cases b with
            | true =>
              have HN : Hid (TM H N s r M t q k P gf cf gl cl n mt gx cx F l w V1 X ∧ Tn mt N M k F l i (u + 1) X) := ⟨K1.out, tn_yes KT.out (by
                have h := HB.out.1 rfl
                rw [HS.out] at h
                have h : ansP mt N M fun x y => l.getD (u + P ^ i * (1 + x * M + y)) false = true := h
                rw [HZ.out.2.2.2] at h; exact h)⟩
              clear K1 HB KT KX HIX HBL HDG t0 t1
              go_wp2
              go_roundw
              case rel => exact ⟨u + 1, X, by omega, by go_num, HN.out⟩
              case measure => simp [intOf]; omega
            | false =>
              have HNO : Hid (¬ Aw mt N M l i u) := fun h => by
                have h2 : ansP mt N M fun x y => l.getD (u + (N * M + 1) ^ i * (1 + x * M + y)) false = true := h
                rw [← HZ.out.2.2.2] at h2
                have h3 : ansP mt N M fun x y => l.getD (u + S i * (1 + x * M + y)) false = true := by rw [HS.out]; exact h2
                have := HB.out.2 h3
                cases this
              clear HB HIX HBL KX t0 t1
              have k7 := K1.out.g.c7
              go_wp2_with fail
              clear k7
              go_loopw [44] (fun iv wr => ∃ (p : Nat) (X2 : List Bool), p ≤ P ∧ iv = .int .i64 p ∧ Hid (TM H N s r M t q k P gf cf gl cl n mt gx cx F l w wr X2 ∧ Gone X u (S i) p X2)) (fun iv _ => P - (intOf iv).toNat)
              case atStart => exact ⟨0, X, Nat.zero_le _, rfl, K1.out, gone_zero _ _ _⟩
              case round =>
                clear K1
                obtain ⟨p, X2, hp, rfl, hst⟩ := hrel
                by_cases hlp : p < P
                · have i3 : (p : Int) < (P : Int) := by omega
                  have KP := Lib.hid hst.out.1
                  have KG := Lib.hid hst.out.2
                  have HPL := Lib.hid hlp
                  have HIN : Hid (u + S i * p < n) := by
                    have := put_lt (P := P) (k := k) (s := u) (i := i) (p := p) (by omega) (by have := HU.out; rw [HNE.out] at this; exact this) HI.out (by have := HDG.out.symm; rw [← HZ.out.2.2.2] at this; exact this) hlp
                    rw [Hid, HS.out, HNE.out]; exact this
                  obtain ⟨Y1, hY1⟩ : ∃ Y1, Y1 = S i * p := ⟨_, rfl⟩
                  rw [← hY1] at HIN
                  have hb1 : u + Y1 < n := HIN.out
                  have hn9 := HP.out.1
                  have w1 : IntKind.i64.wrap ((S i : Int) * (p : Int)) = (Y1 : Int) := by
                    have e : (S i : Int) * (p : Int) = (Y1 : Int) := by rw [hY1]; push_cast; rfl
                    rw [e, IntWalk.i64_in _ (by omega)]
                  have w2 : IntKind.i64.wrap ((u : Int) + (Y1 : Int)) = ((u + Y1 : Nat) : Int) := by rw [IntWalk.i64_in _ (by omega)]; omega
                  have HN : Hid (TM H N s r M t q k P gf cf gl cl n mt gx cx F l w (wr.setCell ⟨gx, u + Y1, none⟩ (.bool false)) (X2.set (u + Y1) false) ∧ Gone X u (S i) (p + 1) (X2.set (u + Y1) false)) := ⟨KP.out.set _ _, by
                    rw [hY1]; exact gone_next KG.out (by rw [← hY1, ← KG.out.1, KP.out.lx]; exact hb1)⟩
                  obtain ⟨IX, hIX⟩ : ∃ IX, IX = u + Y1 := ⟨_, rfl⟩
                  rw [← hIX] at w2 hb1 HN
                  have fx : wr.frozen? ⟨gx, IX, none⟩ = false := World.ownsRow.frozenAt KP.out.x.row_n IX
                  have kx : wr.cell? ⟨gx, IX, none⟩ = some (.bool (X2.getD IX false)) := (RdB.of KP.out.x KP.out.lx.symm).cell IX hb1
                  obtain ⟨b0, hb0⟩ : ∃ b0, b0 = X2.getD IX false := ⟨_, rfl⟩
                  rw [← hb0] at kx
                  clear hY1 hIX hb0 KP KG hst HIN hn9
                  go_wp2
                  go_roundw
                  case rel => exact ⟨p + 1, _, by omega, by go_num, HN.out⟩
                  case measure => simp [intOf]; omega
                · obtain rfl : P = p := by omega
                  have HN : Hid (TM H N s r M t q k P gf cf gl cl n mt gx cx F l w wr X2 ∧ Tn mt N M k F l i (u + 1) X2) := ⟨hst.out.1, by
                    have g := hst.out.2
                    rw [HS.out] at g
                    have g : Gone X u (P ^ i) P X2 := g
                    rw [HZ.out.2.2.2] at g
                    exact tn_no KT.out HI.out HDG.out.symm HNO.out g⟩
                  have huN : u < n := HU.out
                  clear hst HNO HDG KT
                  go_wp2
                  go_roundw
                  case rel => exact ⟨u + 1, X2, by omega, by go_num, HN.out⟩
                  case measure => simp [intOf]; omega
          · have t0 : ((dg : Int) != 0) = true := by simp; omega
            have t1 : (dg != 0) = true := by simp; omega
            have q0 : ∀ QQ : Wd (fun Q => Q.cell? ⟨H, 7, none⟩ = some (.int .i64 P)), QQ.w.cell? ⟨H, 7, none⟩ = some (.int .i64 P) := fun QQ => QQ.ok
            have hne : Nonempty (Wd (fun Q => Q.cell? ⟨H, 7, none⟩ = some (.int .i64 P))) := ⟨⟨wr, KX.out.g.c7⟩⟩
            go_wp2_with fail
            refine chain (S := (fun Q => Q.cell? ⟨H, 7, none⟩ = some (.int .i64 P))) [([true, true, true, true, true, true, true, true, true, true, true, true, true], 13)] [false, false, false, false, false, false, false, false, false, false, false, false, false, false, true] (by kernel_rfl) (by kernel_rfl) (by kernel_rfl) KX.out.g.c7 ?_
            simp only [wpSegs, pickB, List.dropLast_cons_cons, List.dropLast_singleton, List.getLast?_cons_cons, List.getLast?_singleton, List.toList_toArray, List.getElem?_toArray, List.getElem?_cons_succ, List.getElem?_cons_zero, Option.toList_some]
            repeat (go_big_quiet_step (fail))
            refine wpQuiet_nil ?_
            intro K hK
            go_wp2_with fail
            refine hK _ _ KX.out.g.c7 ?_
            clear hK K
            repeat (go_big_quiet_step (fail))
            refine wpQuiet_nil ?_
            clear q0 hne
            clear v1 v2 v4 y3 y4
            have HN : Hid (TM H N s r M t q k P gf cf gl cl n mt gx cx F l w wr.drew X ∧ Tn mt N M k F l i (u + 1) X) := ⟨KX.out.drew, tn_skip KT.out HI.out (by rw [← HDG.out]; exact hd0)⟩
            have huN : u < n := HU.out
            clear KX KT HDG t0 t1 hd0
            go_wp2
            go_roundw
            case rel => exact ⟨u + 1, X, by omega, by go_num, HN.out⟩
            case measure => simp [intOf]; omega
        · obtain rfl : n = u := by omega
          have HN : Hid (TM H N s r M t q k P gf cf gl cl n mt gx cx F l w wr X ∧ Tn mt N M k F l (i + 1) 0 X) := ⟨hst.out.1, tn_next (by have h := hst.out.2; rw [HNE.out, HZ.out.2.2.2] at h; exact h) HI.out⟩
          clear hst
          have k7 := HN.out.1.g.c7
          have hiK : i < k := HI.out
          obtain ⟨S2, hS2⟩ : ∃ S2, S2 = S (i + 1) := ⟨_, rfl⟩
          have w1 : IntKind.i64.wrap ((S i : Int) * (P : Int)) = (S2 : Int) := by
            have e0 : S2 = S i * P := by rw [hS2, HS.out]; exact (Nat.pow_succ _ _ : P ^ (i + 1) = P ^ i * P)
            have e : (S i : Int) * (P : Int) = (S2 : Int) := by rw [e0]; push_cast; rfl
            have hb : S2 ≤ 274625 := by rw [hS2]; exact Nat.le_trans (HSB.out (i + 1) hiK) HP.out.1
            rw [e, IntWalk.i64_in _ (by omega)]
          have HS2 := Lib.hid hS2
          clear hS2
          go_wp2
          go_roundw
          case rel => exact ⟨i + 1, X, hiK, by rw [HS2.out], by go_num, HN.out⟩
          case measure => simp [intOf]; omega
    · obtain rfl : k = i := by omega
      have KX := Lib.hid hst.out.1
      have KT := Lib.hid (tn_done hst.out.2)
      clear hst
      have k9 := KX.out.g.c9
      go_wp2_with fail
      clear k9
      refine (equal_b gx gl n cx cl X l wr (RdB.of KX.out.x KX.out.lx.symm) KX.out.l hn9).mono ?_
      rintro e V1 ⟨rfl, hw1⟩
      have K1 := Lib.hid (KX.out.below hw1)
      clear hw1 KX
      obtain ⟨bE, hbE⟩ : ∃ bE, bE = decide (X = l) := ⟨_, rfl⟩
      rw [← hbE]
      have HBE := Lib.hid hbE
      have k9 := K1.out.g.c9
      have f9 := K1.out.g.free 9
      have HR : Hid (PG (V1.setCell ⟨H, 9, none⟩ (.slice (some ⟨gx, 0, none⟩) n cx)) H N s r M t q k P gf cf gx cx n mt ∧ RdB (V1.setCell ⟨H, 9, none⟩ (.slice (some ⟨gx, 0, none⟩) n cx)) gf n F ∧ RdB (V1.setCell ⟨H, 9, none⟩ (.slice (some ⟨gx, 0, none⟩) n cx)) gx n X ∧ Out (fun a => a = H) w (V1.setCell ⟨H, 9, none⟩ (.slice (some ⟨gx, 0, none⟩) n cx))) := by
        have ob : ∀ a, a ≠ H → (V1.setCell ⟨H, 9, none⟩ (.slice (some ⟨gx, 0, none⟩) n cx)).heap[a]? = V1.heap[a]? := fun a ha => heap_setCell_other V1 ⟨H, 9, none⟩ a _ ha
        have hx := K1.out.x.ge
        have hH := K1.out.lt
        refine ⟨K1.out.g.setL gx cx, K1.out.f.block (ob _ HFH.out), (RdB.of K1.out.x K1.out.lx.symm).block (ob _ (by omega)), (Out.of_below K1.out.b (Nat.le_refl _)).trans (out_set V1 H 9 _) (fun a ha => .inl ha)⟩
      clear K1 hbE
      go_wp2
      go_ret
      exact ⟨X, gx, cx, (by rw [← HBE.out] <;> rfl), HR.out.1, HR.out.2.1, HR.out.2.2.1, KT.out, HR.out.2.2.2⟩

set_option maxHeartbeats 6400000 in
set_option maxRecDepth 100000 in
theorem play_any (A B : game.Gr) (H N : Nat) (s r : ByteArray) (M : Nat) (t q : ByteArray) (k P gf cf gl cl n : Nat) (mt : Bool) (F l : List Bool) (m T : Nat) (w : World) (hA : A.n = N) (hB : B.n = M) (hT : T ≤ 1000000) (hg : PG w H N s r M t q k P gf cf gl cl n mt) (hf : RdB w gf n F) (hl : RdB w gl n l) (hz : Sz N M k P) (hn : n = P ^ k) (hfh : gf ≠ H) (hF : Tells mt A B k 0 F) (hm : Tells mt A B k m l) :
    Calls Tryd.prog 64 #[.pointer (some ⟨H, 0, none⟩), .int .i64 T] w fun e w' => ∃ (l' : List Bool) (gl' cl' : Nat), e = .returned (.tuple #[]) ∧ PG w' H N s r M t q k P gf cf gl' cl' n mt ∧ RdB w' gf n F ∧ RdB w' gl' n l' ∧ Tells mt A B k (m + T) l' ∧ Out (fun a => a = H) w w' := by
  have H0 : Hid (PG w H N s r M t q k P gf cf gl cl n mt ∧ RdB w gf n F ∧ RdB w gl n l ∧ Tells mt A B k (m + 0) l ∧ Out (fun a => a = H) w w) := ⟨hg, hf, hl, hm, Out.refl _ _⟩
  have HZ := Lib.hid (show _ ∧ _ ∧ _ ∧ _ ∧ _ ∧ _ from ⟨hz, hn, hfh, hF, hA, hB⟩)
  clear hg hf hl hz hn hfh hF hm hA hB
  go_enter Tryd.func64, Tryd.ntmps64
  go_wp2_with fail
  go_loopw [5] (fun iv wr => ∃ (j : Nat) (X : List Bool) (gx cx : Nat), j ≤ T ∧ iv = .int .i64 j ∧ Hid (PG wr H N s r M t q k P gf cf gx cx n mt ∧ RdB wr gf n F ∧ RdB wr gx n X ∧ Tells mt A B k (m + j) X ∧ Out (fun a => a = H) w wr)) (fun iv _ => T - (intOf iv).toNat)
  case atStart => exact ⟨0, l, gl, cl, Nat.zero_le _, rfl, H0.out⟩
  case round =>
    clear H0
    obtain ⟨j, X, gx, cx, hj, rfl, hst⟩ := hrel
    by_cases hlt : j < T
    · have i1 : (j : Int) < (T : Int) := by omega
      have HC := Lib.hid (turn_any H N s r M t q k P gf cf gx cx n mt F X wr hst.out.1 hst.out.2.1 hst.out.2.2.1 HZ.out.1 HZ.out.2.1 HZ.out.2.2.1 (fun hm i u hi hu h0 => by
        obtain ⟨hz, -, -, -, rfl, rfl⟩ := HZ.out
        have ht := hst.out.2.2.2.1
        subst hm
        exact tells_blk hz.2.1.1 ht hu hi h0))
      go_wp2_with fail
      refine HC.out.mono ?_
      rintro e V1 ⟨X2, g2, c2, rfl, h1, h2, h3, h4, h5⟩
      have HN : Hid (PG V1 H N s r M t q k P gf cf g2 c2 n mt ∧ RdB V1 gf n F ∧ RdB V1 g2 n X2 ∧ Tells mt A B k (m + (j + 1)) X2 ∧ Out (fun a => a = H) w V1) := by
        obtain ⟨hz, -, -, hF, rfl, rfl⟩ := HZ.out
        exact ⟨h1, h2, h3, tells_next hz.2.1.1 hF hst.out.2.2.2.1 h4, hst.out.2.2.2.2.trans h5 (fun a ha => .inl ha)⟩
      clear h1 h2 h3 h4 h5 hst HC
      go_wp2
      go_roundw
      case rel => exact ⟨j + 1, X2, g2, c2, by omega, by go_num, HN.out⟩
      case measure => simp [intOf]; omega
    · obtain rfl : T = j := by omega
      have R : Hid (Ending.returned (.tuple #[]) = .returned (.tuple #[]) ∧ ∃ (l' : List Bool) (gl' : Nat), (∃ cl' : Nat, PG wr H N s r M t q k P gf cf gl' cl' n mt) ∧ RdB wr gf n F ∧ RdB wr gl' n l' ∧ Tells mt A B k (m + T) l' ∧ Out (fun a => a = H) w wr) := ⟨rfl, X, gx, ⟨cx, hst.out.1⟩, hst.out.2.1, hst.out.2.2.1, hst.out.2.2.2.1, hst.out.2.2.2.2⟩
      clear hst
      go_wp2
      refine bodyPost_end (v := .tuple #[]) ?_ rfl ?_
      · simp [results, Tryd.results64, go_sem]
      · exact ⟨rfl, R.out.2⟩
end Go.Proofs.YtpcnoiigbmiejaaDoor.pbi

/- arePebbles, areReady of the program. -/
namespace Go.Proofs.YtpcnoiigbmiejaaDoor.pbi
set_option linter.unusedVariables false
set_option linter.unusedSimpArgs false
open Go.ChangeShapes Go.WideShapes Go.ChangeAt Go.RowKit
open Go.Proofs.YtpcnoiigbmiejaaDoor.lib Go.Proofs.YtpcnoiigbmiejaaDoor.st Go.Proofs.YtpcnoiigbmiejaaDoor.flow Go.Proofs.YtpcnoiigbmiejaaDoor.chain Go.Proofs.YtpcnoiigbmiejaaDoor.base Go.Proofs.YtpcnoiigbmiejaaDoor.fits Go.Proofs.YtpcnoiigbmiejaaDoor.still Go.Proofs.YtpcnoiigbmiejaaDoor.gow Go.Proofs.YtpcnoiigbmiejaaDoor.peb Go.Proofs.YtpcnoiigbmiejaaDoor.tab Go.Proofs.YtpcnoiigbmiejaaDoor.pairL Go.Proofs.YtpcnoiigbmiejaaDoor.make
def pbIn (n x : Int) : Bool := decide (-1 ≤ x ∧ x < n)
def pebB (n : Int) (l : List Int) : Bool := decide (1 ≤ l.length) && (decide (l.length ≤ 3) && l.all (pbIn n))
def signB (la lb : List Int) : Bool := decide (∀ i, i < la.length → (la.getD i 0 < 0 ↔ lb.getD i 0 < 0))
def readyB (n : Int) (s r : ByteArray) (la : List Int) (m : Int) (t q : ByteArray) (lb : List Int) : Bool := validB n s r && (validB m t q && (pebB n la && (pebB m lb && (decide (la.length = lb.length) && signB la lb))))

set_option maxHeartbeats 6400000 in
set_option maxRecDepth 100000 in
theorem clPb_any (n : Int) (s r : ByteArray) (x : Int) (Ha : Nat) (w : World) (ha : Box 24 w Ha n s r) :
    Calls Tryd.prog 168 #[.int .i64 x, .pointer (some ⟨Ha, 0, none⟩)] w fun e w' => e = .returned (.bool (!pbIn n x)) ∧ Below w.heap.size w w' := by
  obtain ⟨a0, a1, a2⟩ := ha.c
  clear ha
  have BW : Hid (Below w.heap.size w w) := Below.refl _ _
  by_cases h1 : x < -1
  · have HE : Hid (pbIn n x = false) := decide_eq_false (by omega)
    go_enter Tryd.func168, Tryd.ntmps168
    go_wp2
    go_ret
    exact ⟨by rw [HE.out]; rfl, BW.out⟩
  · by_cases h2 : x < n
    · have HE : Hid (pbIn n x = true) := decide_eq_true (by omega)
      have h3 : ¬ n ≤ x := by omega
      go_enter Tryd.func168, Tryd.ntmps168
      go_wp2
      go_ret
      exact ⟨by rw [HE.out]; rfl, BW.out⟩
    · have HE : Hid (pbIn n x = false) := decide_eq_false (by omega)
      have h3 : n ≤ x := by omega
      go_enter Tryd.func168, Tryd.ntmps168
      go_wp2
      go_ret
      exact ⟨by rw [HE.out]; rfl, BW.out⟩

set_option maxHeartbeats 6400000 in
set_option maxRecDepth 100000 in
theorem arePebbles_any (n : Int) (s r : ByteArray) (v : Value) (l : List Int) (w : World) (h : Reads w v l) (hn : l.length ≤ 1000000) :
    Calls Tryd.prog 130 #[.agg #[.int .i64 n, .string s, .string r], v] w fun e w' => e = .returned (.bool (pebB n l)) ∧ Below w.heap.size w w' := by
  have h1 : Reads (w.alloc (.cells #[.int .i64 n, .string s, .string r] 24)) v l := h.below ((Below.refl w.heap.size w).alloc (Nat.le_refl _) _) (Nat.le_refl _)
  obtain ⟨ao, ca, rfl, hr, _⟩ := h1
  have BA : Hid (Box 24 (w.alloc (.cells #[.int .i64 n, .string s, .string r] 24)) w.heap.size n s r) := Box.new 24 w w.heap.size rfl n s r
  have AW : Hid (Below w.heap.size w (w.alloc (.cells #[.int .i64 n, .string s, .string r] 24))) := (Below.refl _ _).alloc (Nat.le_refl _) _
  have HR := Lib.hid hr
  obtain ⟨k, hk⟩ : ∃ k, k = l.length := ⟨_, rfl⟩
  have HK := Lib.hid hk
  clear hr h
  rw [← hk] at hn ⊢
  clear hk
  by_cases h1 : 1 ≤ k
  · by_cases h3 : k ≤ 3
    · have i1 : (1 : Int) ≤ (k : Int) := by omega
      have i3 : (k : Int) ≤ 3 := by omega
      have HL := Lib.hid (show _ ∧ _ from ⟨h1, h3⟩)
      clear h1 h3
      go_enter Tryd.func130, Tryd.ntmps130
      go_wp2_with fail
      rw [HK.out]
      refine (containsFunc_core ao ca l _ _ (fun x => !pbIn n x) _ (enters_of Tryd.func168 (by kernel_rfl) rfl) (by rw [← HK.out]; omega) HR.out ?_).mono ?_
      · intro W hW x _
        exact clPb_any n s r x w.heap.size W (BA.out.below hW BA.out.lt)
      rintro e w1 ⟨rfl, hw⟩
      have HW := Lib.hid (AW.out.trans (hw.mono AW.out.size))
      clear hw
      go_wp2
      go_ret
      refine ⟨?_, HW.out⟩
      have e1 : pebB n l = !(l.any fun x => !pbIn n x) := by
        unfold pebB
        rw [← HK.out, decide_eq_true HL.out.1, decide_eq_true HL.out.2, any_not]; rfl
      rw [e1]; rfl
    · have i1 : (1 : Int) ≤ (k : Int) := by omega
      have i3 : ¬ (k : Int) ≤ 3 := by omega
      have HE : Hid (pebB n l = false) := by unfold pebB; rw [Hid, ← HK.out, decide_eq_false h3]; simp
      clear h1 h3
      go_enter Tryd.func130, Tryd.ntmps130
      go_wp2
      go_ret
      exact ⟨by rw [HE.out]; rfl, AW.out⟩
  · have i1 : ¬ (1 : Int) ≤ (k : Int) := by omega
    have HE : Hid (pebB n l = false) := by unfold pebB; rw [Hid, ← HK.out, decide_eq_false h1]; simp
    clear h1
    go_enter Tryd.func130, Tryd.ntmps130
    go_wp2
    go_ret
    exact ⟨by rw [HE.out]; rfl, AW.out⟩

set_option maxHeartbeats 6400000 in
set_option maxRecDepth 100000 in
theorem areReady_any (n : Int) (s r : ByteArray) (va : Value) (la : List Int) (m : Int) (t q : ByteArray) (vb : Value) (lb : List Int) (w : World) (ha : Reads w va la) (hb : Reads w vb lb) (hla : la.length ≤ 1000000) (hlb : lb.length ≤ 1000000) (hs : s.size ≤ 9223372036854775807) (hr : r.size ≤ 9223372036854775807) (ht : t.size ≤ 9223372036854775807) (hq : q.size ≤ 9223372036854775807) :
    Calls Tryd.prog 78 #[.agg #[.int .i64 n, .string s, .string r], va, .agg #[.int .i64 m, .string t, .string q], vb] w fun e w' => e = .returned (.bool (readyB n s r la m t q lb)) ∧ Below w.heap.size w w' := by
  obtain ⟨a1o, c1, rfl⟩ := ha.len
  obtain ⟨a2o, c2, rfl⟩ := hb.len
  obtain ⟨W0, hW0⟩ : ∃ W0, W0 = (w.alloc (.cells #[.int .i64 n, .string s, .string r] 24)).alloc (.cells #[.int .i64 m, .string t, .string q] 24) := ⟨_, rfl⟩
  have AW0 : Hid (Below w.heap.size w W0) := by rw [hW0]; exact ((Below.refl _ _).alloc (Nat.le_refl _) _).alloc (by simp) _
  have RA0 := Lib.hid (ha.below AW0.out (Nat.le_refl _))
  have RB0 := Lib.hid (hb.below AW0.out (Nat.le_refl _))
  have BA0 : Hid (Box 24 W0 w.heap.size n s r) := by
    rw [hW0]; exact (Box.new 24 w w.heap.size rfl n s r).below ((Below.refl (w.heap.size + 1) _).alloc (by simp) _) (by omega)
  have BB0 : Hid (Box 24 W0 (w.heap.size + 1) m t q) := by
    rw [hW0]; exact Box.new 24 (w.alloc (.cells #[.int .i64 n, .string s, .string r] 24)) (w.heap.size + 1) (by simp) m t q
  obtain ⟨k1, hk1⟩ : ∃ k1, k1 = la.length := ⟨_, rfl⟩
  obtain ⟨k2, hk2⟩ : ∃ k2, k2 = lb.length := ⟨_, rfl⟩
  have HK := Lib.hid (show _ ∧ _ from ⟨hk1, hk2⟩)
  have HZ := Lib.hid (show _ ∧ _ ∧ _ ∧ _ ∧ _ ∧ _ from ⟨hs, hr, ht, hq, hla, hlb⟩)
  have h10 : k1 ≤ 1000000 := by rw [hk1]; exact hla
  have h20 : k2 ≤ 1000000 := by rw [hk2]; exact hlb
  have HW0 := Lib.hid hW0
  rw [← hk1] at RA0 ⊢
  rw [← hk2] at RB0 ⊢
  clear ha hb hs hr ht hq hla hlb hk1 hk2 hW0
  go_enter Tryd.func78, Tryd.ntmps78
  go_wp2_with fail
  rw [← HW0.out]
  clear HW0
  refine (isStructure_any n s r _ HZ.out.1 HZ.out.2.1).mono ?_
  rintro e w1 ⟨rfl, hw⟩
  have AW1 : Hid (Below w.heap.size w w1) := AW0.out.trans (hw.mono AW0.out.size)
  have BA1 := Lib.hid (BA0.out.below hw BA0.out.lt)
  have BB1 := Lib.hid (BB0.out.below hw BB0.out.lt)
  have RA1 := Lib.hid (RA0.out.below hw (Nat.le_refl _))
  have RB1 := Lib.hid (RB0.out.below hw (Nat.le_refl _))
  clear hw AW0 BA0 BB0 RA0 RB0
  obtain ⟨a0, a1, a2⟩ := BA1.out.c
  obtain ⟨b0, b1, b2⟩ := BB1.out.c
  cases hv : validB n s r with
  | false =>
    have HE : Hid (readyB n s r la m t q lb = false) := by rw [Hid, readyB, hv]; simp
    clear hv
    go_wp2
    go_ret
    exact ⟨by rw [HE.out]; rfl, AW1.out⟩
  | true =>
    have HV1 := Lib.hid hv
    clear hv
    go_wp2_with fail
    refine (isStructure_any m t q _ HZ.out.2.2.1 HZ.out.2.2.2.1).mono ?_
    rintro e w2 ⟨rfl, hw⟩
    have AW2 : Hid (Below w.heap.size w w2) := AW1.out.trans (hw.mono AW1.out.size)
    have BA2 := Lib.hid (BA1.out.below hw BA1.out.lt)
    have BB2 := Lib.hid (BB1.out.below hw BB1.out.lt)
    have RA2 := Lib.hid (RA1.out.below hw (Nat.le_refl _))
    have RB2 := Lib.hid (RB1.out.below hw (Nat.le_refl _))
    clear hw AW1 BA1 BB1 RA1 RB1
    obtain ⟨a0, a1, a2⟩ := BA2.out.c
    obtain ⟨b0, b1, b2⟩ := BB2.out.c
    cases hv : validB m t q with
    | false =>
      have HE : Hid (readyB n s r la m t q lb = false) := by rw [Hid, readyB, hv]; simp
      clear hv
      go_wp2
      go_ret
      exact ⟨by rw [HE.out]; rfl, AW2.out⟩
    | true =>
      have HV2 := Lib.hid hv
      clear hv
      go_wp2_with fail
      refine (arePebbles_any n s r (.slice a1o k1 c1) la _ RA2.out HZ.out.2.2.2.2.1).mono ?_
      rintro e w3 ⟨rfl, hw⟩
      have AW3 : Hid (Below w.heap.size w w3) := AW2.out.trans (hw.mono AW2.out.size)
      have BA3 := Lib.hid (BA2.out.below hw BA2.out.lt)
      have BB3 := Lib.hid (BB2.out.below hw BB2.out.lt)
      have RA3 := Lib.hid (RA2.out.below hw (Nat.le_refl _))
      have RB3 := Lib.hid (RB2.out.below hw (Nat.le_refl _))
      clear hw AW2 BA2 BB2 RA2 RB2
      obtain ⟨a0, a1, a2⟩ := BA3.out.c
      obtain ⟨b0, b1, b2⟩ := BB3.out.c
      cases hv : pebB n la with
      | false =>
        have HE : Hid (readyB n s r la m t q lb = false) := by rw [Hid, readyB, hv]; simp
        clear hv
        go_wp2
        go_ret
        exact ⟨by rw [HE.out]; rfl, AW3.out⟩
      | true =>
        have HV3 := Lib.hid hv
        clear hv
        go_wp2_with fail
        refine (arePebbles_any m t q (.slice a2o k2 c2) lb _ RB3.out HZ.out.2.2.2.2.2).mono ?_
        rintro e w4 ⟨rfl, hw⟩
        have AW4 : Hid (Below w.heap.size w w4) := AW3.out.trans (hw.mono AW3.out.size)
        have BA4 := Lib.hid (BA3.out.below hw BA3.out.lt)
        have BB4 := Lib.hid (BB3.out.below hw BB3.out.lt)
        have RA4 := Lib.hid (RA3.out.below hw (Nat.le_refl _))
        have RB4 := Lib.hid (RB3.out.below hw (Nat.le_refl _))
        clear hw AW3 BA3 BB3 RA3 RB3
        obtain ⟨a0, a1, a2⟩ := BA4.out.c
        obtain ⟨b0, b1, b2⟩ := BB4.out.c
        cases hv : pebB m lb with
        | false =>
          have HE : Hid (readyB n s r la m t q lb = false) := by rw [Hid, readyB, hv]; simp
          clear hv
          go_wp2
          go_ret
          exact ⟨by rw [HE.out]; rfl, AW4.out⟩
        | true =>
          have HV4 := Lib.hid hv
          clear hv
          by_cases hlen : k1 = k2
          · have e1 : ((k1 : Int) != (k2 : Int)) = false := by simp; omega
            have e2 : (k1 != k2) = false := by simp; omega
            have HLE := Lib.hid hlen
            have hk3 : k1 ≤ 3 ∧ 1 ≤ k1 := by
              have h := HV3.out
              unfold pebB at h
              simp only [Bool.and_eq_true, decide_eq_true_eq] at h
              rw [HK.out.1]; exact ⟨h.2.1, h.1⟩
            obtain ⟨ka, kb⟩ := hk3
            have hx1 : ∃ b off, a1o = some ⟨b, off, none⟩ ∧ ∀ i, i < k1 → w4.cell? ⟨b, off + i, none⟩ = some (.int .i64 (la.getD i 0)) := by
              obtain ⟨ao, c, e, hr, -⟩ := RA4.out
              cases e
              rcases hr with h | h
              · exact absurd kb (by rw [HK.out.1, h]; simp)
              · obtain ⟨b, off, e, hc⟩ := h
                exact ⟨b, off, e, fun i hi => hc i (by rw [← HK.out.1]; exact hi)⟩
            have hx2 : ∃ b off, a2o = some ⟨b, off, none⟩ ∧ ∀ i, i < k2 → w4.cell? ⟨b, off + i, none⟩ = some (.int .i64 (lb.getD i 0)) := by
              obtain ⟨ao, c, e, hr, -⟩ := RB4.out
              cases e
              rcases hr with h | h
              · exact absurd kb (by rw [HLE.out, HK.out.2, h]; simp)
              · obtain ⟨b, off, e, hc⟩ := h
                exact ⟨b, off, e, fun i hi => hc i (by rw [← HK.out.2]; exact hi)⟩
            obtain ⟨bx, ox, rfl, hcx⟩ := hx1
            obtain ⟨by', oy, rfl, hcy⟩ := hx2
            have HCX := Lib.hid hcx
            have HCY := Lib.hid hcy
            clear hcx hcy hlen RA4 RB4 BA4 BB4 a0 a1 a2 b0 b1 b2
            go_wp2_with fail
            go_loopw [40] (fun iv wr => ∃ i : Nat, i ≤ k1 ∧ iv = .int .i64 i ∧ Hid ((∀ j, j < i → (la.getD j 0 < 0 ↔ lb.getD j 0 < 0)) ∧ Below w4.heap.size w4 wr)) (fun iv _ => k1 - (intOf iv).toNat)
            case atStart => exact ⟨0, Nat.zero_le _, rfl, fun j hj => by omega, Below.refl _ _⟩
            case round =>
              obtain ⟨i, hi, rfl, hst⟩ := hrel
              by_cases hli : i < k1
              · have i1 : (i : Int) < (k1 : Int) := by omega
                have i2 : i < k2 := by have := HLE.out; omega
                have hc1 : wr.cell? ⟨bx, ox + i, none⟩ = some (.int .i64 (la.getD i 0)) := ins.keepCell hst.out.2 (HCX.out i hli)
                have hc2 : wr.cell? ⟨by', oy + i, none⟩ = some (.int .i64 (lb.getD i 0)) := ins.keepCell hst.out.2 (HCY.out i i2)
                obtain ⟨x, hx⟩ : ∃ x, x = la.getD i 0 := ⟨_, rfl⟩
                obtain ⟨y, hy⟩ : ∃ y, y = lb.getD i 0 := ⟨_, rfl⟩
                rw [← hx] at hc1
                rw [← hy] at hc2
                have HXY := Lib.hid (show _ ∧ _ from ⟨hx, hy⟩)
                have HI := Lib.hid hli
                have AX : Hid (Below w.heap.size w wr) := AW4.out.trans (hst.out.2.mono AW4.out.size)
                clear hx hy
                obtain ⟨u, hu⟩ : ∃ u, u = decide (x < 0) := ⟨_, rfl⟩
                obtain ⟨v, hv⟩ : ∃ v, v = decide (y < 0) := ⟨_, rfl⟩
                have HUV := Lib.hid (show _ ∧ _ from ⟨hu, hv⟩)
                by_cases huv : u = v
                · have HN : Hid ((∀ j, j < i + 1 → (la.getD j 0 < 0 ↔ lb.getD j 0 < 0)) ∧ Below w4.heap.size w4 wr) := ⟨fun j hj => by
                    rcases Nat.lt_or_ge j i with h1 | h1
                    · exact hst.out.1 j h1
                    · obtain rfl : j = i := by omega
                      rw [← HXY.out.1, ← HXY.out.2]
                      have h := huv
                      rw [HUV.out.1, HUV.out.2] at h
                      exact decide_eq_decide.1 h, hst.out.2⟩
                  clear hst
                  subst huv
                  cases u with
                  | true =>
                    have d1 : x < 0 := of_decide_eq_true hu.symm
                    have d2 : y < 0 := of_decide_eq_true hv.symm
                    clear hu hv
                    go_wp2
                    go_roundw
                    case rel => exact ⟨i + 1, by omega, by go_num, HN.out⟩
                    case measure => simp [intOf]; omega
                  | false =>
                    have d1 : ¬ x < 0 := of_decide_eq_false hu.symm
                    have d2 : ¬ y < 0 := of_decide_eq_false hv.symm
                    clear hu hv
                    go_wp2
                    go_roundw
                    case rel => exact ⟨i + 1, by omega, by go_num, HN.out⟩
                    case measure => simp [intOf]; omega
                · have HE : Hid (readyB n s r la m t q lb = false) := by
                    have hsg : signB la lb = false := decide_eq_false fun h => huv (by
                      have := h i (by rw [← HK.out.1]; exact HI.out)
                      rw [HUV.out.1, HUV.out.2, HXY.out.1, HXY.out.2]
                      exact decide_eq_decide.2 this)
                    rw [Hid, readyB, hsg]; simp
                  clear hst
                  cases u with
                  | true =>
                    cases v with
                    | true => exact absurd rfl huv
                    | false =>
                      have d1 : x < 0 := of_decide_eq_true hu.symm
                      have d2 : ¬ y < 0 := of_decide_eq_false hv.symm
                      clear hu hv huv
                      go_wp2
                      go_ret
                      exact ⟨by rw [HE.out] <;> rfl, AX.out⟩
                  | false =>
                    cases v with
                    | false => exact absurd rfl huv
                    | true =>
                      have d1 : ¬ x < 0 := of_decide_eq_false hu.symm
                      have d2 : y < 0 := of_decide_eq_true hv.symm
                      clear hu hv huv
                      go_wp2
                      go_ret
                      exact ⟨by rw [HE.out] <;> rfl, AX.out⟩
              · obtain rfl : k1 = i := by omega
                have HE : Hid (readyB n s r la m t q lb = true) := by
                  have hsg : signB la lb = true := decide_eq_true fun j hj => hst.out.1 j (by rw [HK.out.1]; exact hj)
                  rw [Hid, readyB, HV1.out, HV2.out, HV3.out, HV4.out, hsg, decide_eq_true (show la.length = lb.length by rw [← HK.out.1, ← HK.out.2]; exact HLE.out)]; rfl
                have AX : Hid (Below w.heap.size w wr) := AW4.out.trans (hst.out.2.mono AW4.out.size)
                clear hst
                go_wp2
                go_ret
                exact ⟨by rw [HE.out] <;> rfl, AX.out⟩
          · have e1 : ((k1 : Int) != (k2 : Int)) = true := by simp; omega
            have e2 : (k1 != k2) = true := by simp; omega
            have HE : Hid (readyB n s r la m t q lb = false) := by
              rw [Hid, readyB, decide_eq_false (show ¬ la.length = lb.length by rw [← HK.out.1, ← HK.out.2]; exact hlen)]; simp
            clear hlen
            go_wp2
            go_ret
            exact ⟨by rw [HE.out] <;> rfl, AW4.out⟩
end Go.Proofs.YtpcnoiigbmiejaaDoor.pbi
