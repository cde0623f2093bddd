/- coloursAfter of the program: the colours of several structures after some rounds. -/
import Derived.Test.YtglehegjimhbjaaDoorDescI
import Derived.Test.YtglehegjimhbjaaDoorColoured
import Derived.Test.YtglehegjimhbjaaDoorColA
namespace Go.Proofs.YtglehegjimhbjaaDoor.colsa
set_option linter.unusedVariables false
set_option linter.unusedSimpArgs false
open Go.ChangeShapes Go.WideShapes Go.ChangeAt Go.RowKit
open Go.Proofs.YtglehegjimhbjaaDoor.lib Go.Proofs.YtglehegjimhbjaaDoor.st Go.Proofs.YtglehegjimhbjaaDoor.base Go.Proofs.YtglehegjimhbjaaDoor.col Go.Proofs.YtglehegjimhbjaaDoor.colp Go.Proofs.YtglehegjimhbjaaDoor.sll Go.Proofs.YtglehegjimhbjaaDoor.descr Go.Proofs.YtglehegjimhbjaaDoor.cmp Go.Proofs.YtglehegjimhbjaaDoor.flow Go.Proofs.YtglehegjimhbjaaDoor.chain Go.Proofs.YtglehegjimhbjaaDoor.coloured Go.Proofs.YtglehegjimhbjaaDoor.desci Go.Proofs.YtglehegjimhbjaaDoor.cola

/-- a structure whose texts have their lengths -/
def Fit (a : St) : Prop := 1 ≤ a.n ∧ a.n ≤ 8 ∧ a.s.size = a.n ∧ a.r.size = a.n * a.n
/-- the structures of a slice -/
structure Strs (w : World) (g : Nat) (As : List St) : Prop where
  lt : g < w.heap.size
  c : ∀ i a, As[i]? = some a → w.cell? ⟨g, i * 3, none⟩ = some (.int .i64 a.n) ∧ w.cell? ⟨g, i * 3 + 1, none⟩ = some (.string a.s) ∧ w.cell? ⟨g, i * 3 + 2, none⟩ = some (.string a.r)
  fit : ∀ a, a ∈ As → Fit a
/-- the first descriptions of the first i structures and of y elements of the next one -/
def fTo (As : List St) (i : Nat) (a : St) (y : Nat) : List (List Int) := firsts (As.take i) ++ (List.range y).map (d0 a)
theorem fTo_zero (As : List St) (i : Nat) (a : St) : fTo As i a 0 = firsts (As.take i) := by simp [fTo]
theorem fTo_succ (As : List St) (i : Nat) (a : St) (y : Nat) : fTo As i a (y + 1) = fTo As i a y ++ [d0 a y] := by simp [fTo, List.range_succ]
theorem fTo_full {As : List St} {i : Nat} {a : St} (h : As[i]? = some a) : fTo As i a a.n = firsts (As.take (i + 1)) := by rw [firsts_take As i a h]; rfl
theorem total_app : ∀ (A B : List St), total (A ++ B) = total A + total B
  | [], B => by simp [total]
  | a :: A, B => by rw [List.cons_append, total, total, total_app A B]; omega
theorem total_le : ∀ (A : List St), (∀ a, a ∈ A → Fit a) → total A ≤ 8 * A.length
  | [], _ => Nat.le_refl _
  | a :: A, h => by
    have h1 := (h a List.mem_cons_self).2.1
    have h2 := total_le A fun x hx => h x (List.mem_cons_of_mem _ hx)
    rw [total, List.length_cons]; omega
theorem total_pos : ∀ (A : List St), 1 ≤ A.length → (∀ a, a ∈ A → Fit a) → 1 ≤ total A
  | [], h, _ => by simp at h
  | a :: A, _, h => by
    have h1 := (h a List.mem_cons_self).1
    rw [total]; omega
theorem take_fit {As : List St} (h : ∀ a, a ∈ As → Fit a) (k : Nat) : ∀ a, a ∈ As.take k → Fit a := fun a ha => h a (List.mem_of_mem_take ha)
theorem total_part (As : List St) (k : Nat) : total (As.take k) ≤ total As := by
  have h := total_app (As.take k) (As.drop k)
  rw [List.take_append_drop] at h
  omega
theorem firsts_rows : ∀ (As : List St) (l : List Int), l ∈ firsts As → l.length ≤ 1000
  | [], l, h => by simp [firsts] at h
  | a :: As, l, h => by
    rcases List.mem_append.1 h with h | h
    · obtain ⟨x, _, rfl⟩ := List.mem_map.1 h; simp [d0]
    · exact firsts_rows As l h
theorem nexts_rows : ∀ (As : List St) (c : List Int), (∀ a, a ∈ As → Fit a) → ∀ l, l ∈ nexts As c → l.length ≤ 1000
  | [], c, _, l, h => by simp [nexts] at h
  | a :: As, c, hf, l, h => by
    rcases List.mem_append.1 h with h | h
    · obtain ⟨x, _, rfl⟩ := List.mem_map.1 h
      have h1 := (hf a List.mem_cons_self).2.1
      have := descTo_len a (c.take a.n) x 4
      unfold desc; omega
    · exact nexts_rows As _ (fun x hx => hf x (List.mem_cons_of_mem _ hx)) l h
theorem desc_ne (a : St) (c : List Int) (x : Nat) : desc a c x ≠ [] := by unfold desc descTo; simp
/-- the next descriptions of the first i structures and of y elements of the next one -/
def nTo (As : List St) (c : List Int) (i : Nat) (a : St) (y : Nat) : List (List Int) := nexts (As.take i) c ++ (List.range y).map (desc a ((c.drop (total (As.take i))).take a.n))
theorem nTo_zero (As : List St) (c : List Int) (i : Nat) (a : St) : nTo As c i a 0 = nexts (As.take i) c := by simp [nTo]
theorem nTo_succ (As : List St) (c : List Int) (i : Nat) (a : St) (y : Nat) : nTo As c i a (y + 1) = nTo As c i a y ++ [desc a ((c.drop (total (As.take i))).take a.n) y] := by simp [nTo, List.range_succ]
theorem nTo_full {As : List St} {c : List Int} {i : Nat} {a : St} (h : As[i]? = some a) : nTo As c i a a.n = nexts (As.take (i + 1)) c := by rw [nexts_take As c i a h]; rfl
theorem nTo_len (As : List St) (c : List Int) (i : Nat) (a : St) (y : Nat) : (nTo As c i a y).length = total (As.take i) + y := by simp [nTo, nexts_len]
/-- a structure's block is kept where a list of lists grows -/
theorem box_grew {T E : TypeId} {w w' : World} {H : Nat} {n : Int} {s r : ByteArray} {B : Nat} {v v' : Value} {k : Nat} {xs : List Value} (hT : T ≠ E) (hb : Box T w H n s r) (ho : w.ownsRow B E 1 v k xs) (hg : Grew w w' v v') : Box T w' H n s r := by
  have hne : v.ownBlock ≠ some H := by
    intro e
    rcases ho.2 with ⟨h, _⟩ | ⟨g, cap, cur, hv, _, hh, _⟩
    · rw [h] at e; simp [Value.ownBlock] at e
    · rw [hv] at e
      have : g = H := Option.some.inj e
      subst this
      unfold Box at hb
      rw [hb] at hh
      simp only [Option.some.injEq, Obj.cells.injEq] at hh
      exact hT hh.2.1
  unfold Box at *
  rw [hg.grown.block H (Array.getElem?_eq_some_iff.1 hb).1 (fun e => hne e.symm)]
  exact hb
/-- a part of a list -/
theorem sub_reads {T : TypeId} {w : World} {B g n cap t m : Nat} {l : List Int} (h : OwnI T w B (.slice (some ⟨g, 0, none⟩) n cap) l) (ht : t + m ≤ n) : Reads w (.slice (some ⟨g, t, none⟩) m (cap - t)) ((l.drop t).take m) := by
  have hn := h.len
  have hl : ((l.drop t).take m).length = m := by rw [List.length_take, List.length_drop]; omega
  refine ⟨some ⟨g, t, none⟩, cap - t, by rw [hl], .inr ⟨g, t, rfl, fun i hi => ?_⟩, fun h => by cases h⟩
  rw [hl] at hi
  rw [h.cell (t + i) (by omega)]
  simp [List.getD_eq_getElem?_getD, List.getElem?_take, List.getElem?_drop, hi]
theorem own_cap {T : TypeId} {w : World} {B g n cap : Nat} {l : List Int} (h : OwnI T w B (.slice (some ⟨g, 0, none⟩) n cap) l) : n ≤ cap ∧ cap ≤ 9223372036854775807 := by
  have hn := h.len
  rcases h.2 with ⟨h', _⟩ | ⟨g', cap', cur, h', hb, hh, hnc, hcm, _⟩
  · simp at h'
  · simp only [Value.slice.injEq] at h'
    obtain ⟨_, hx, rfl⟩ := h'
    exact ⟨by omega, hcm⟩
theorem own_low {T : TypeId} {w w' : World} {B C g n cap : Nat} {l : List Int} (h : OwnI T w B (.slice (some ⟨g, 0, none⟩) n cap) l) (hb : Below C w w') (hg : g < C) : OwnI T w' B (.slice (some ⟨g, 0, none⟩) n cap) l := by
  refine ⟨h.1, ?_⟩
  rcases h.2 with hn | ⟨g', cap', cur, hv, hg', hh, r⟩
  · exact .inl hn
  · have e : g = g' := by simp only [Value.slice.injEq, Option.some.injEq, Addr.mk.injEq] at hv; exact hv.1.1
    subst e
    exact .inr ⟨g, cap', cur, hv, hg', by rw [hb.block g hg]; exact hh, r⟩
theorem fTo_len (As : List St) (i : Nat) (a : St) (y : Nat) : (fTo As i a y).length = total (As.take i) + y := by simp [fTo, firsts_len]

set_option maxHeartbeats 6400000 in
set_option maxRecDepth 100000 in
theorem after_any (w : World) (g L R : Nat) (As : List St) (h : Strs w g As) (hL : As.length = L) (hL1 : 1 ≤ L) (hL2 : L ≤ 2) (hR : R ≤ 100) :
    Calls Tryd.prog 30 #[.slice (some ⟨g, 0, none⟩) L L, .int .i64 R] w fun e w' => ∃ u, e = .returned u ∧ OwnI 3 w' w.heap.size u (cols As R) ∧ Below w.heap.size w w' := by
  obtain ⟨HB, hHB⟩ : ∃ HB, HB = w.heap.size := ⟨_, rfl⟩
  have HHB := Lib.hid hHB
  have HS := Lib.hid (show _ ∧ _ from ⟨h, hL⟩)
  have ST : Hid (OwnL (w.alloc (.cells #[] 25)) HB (.slice (some ⟨w.heap.size, 0, none⟩) 0 0) (firsts (As.take 0)) ∧ Below HB w (w.alloc (.cells #[] 25))) := by
    rw [hHB]; exact ⟨OwnL.empty _ _ _ rfl (Nat.le_refl _), (Below.refl _ _).alloc (Nat.le_refl _) _⟩
  have hg : g < HB := by rw [hHB]; exact h.lt
  have LT : Hid (∀ k, total (As.take k) ≤ 16) := fun k => by
    have h1 := total_le As h.fit
    have h2 := total_part As k
    omega
  have TP : Hid (1 ≤ total As ∧ total As ≤ 16) := by
    refine ⟨total_pos As (by omega) h.fit, ?_⟩
    have h1 := total_le As h.fit
    omega
  clear h hL hHB
  go_enter Tryd.func30, Tryd.ntmps30
  go_wp2_with fail
  go_loopw [5, 18] (fun u i wr => ∃ k : Nat, k ≤ L ∧ i = .int .i64 k ∧ OwnL wr HB u (firsts (As.take k)) ∧ Below HB w wr) (fun _ i _ => L - (intOf i).toNat)
  case atStart => exact ⟨0, Nat.zero_le _, rfl, ST.out⟩
  case round =>
    clear ST
    obtain ⟨k, hk, rfl, q1, q2⟩ := hrel
    have HQ := Lib.hid (show _ ∧ _ from ⟨q1, q2⟩)
    clear q1 q2
    by_cases hkL : k < L
    · obtain ⟨a, ha⟩ : ∃ a, As[k]? = some a := ⟨_, List.getElem?_eq_getElem (by have := HS.out.2; omega)⟩
      obtain ⟨c0, c1, c2⟩ := HS.out.1.c k a ha
      have d0 : wr.cell? ⟨g, k * 3, none⟩ = some (.int .i64 a.n) := by rw [HQ.out.2.cell (p := ⟨g, k * 3, none⟩) hg]; exact c0
      have d1 : wr.cell? ⟨g, k * 3 + 1, none⟩ = some (.string a.s) := by rw [HQ.out.2.cell (p := ⟨g, k * 3 + 1, none⟩) hg]; exact c1
      have d2 : wr.cell? ⟨g, k * 3 + 2, none⟩ = some (.string a.r) := by rw [HQ.out.2.cell (p := ⟨g, k * 3 + 2, none⟩) hg]; exact c2
      have HA := Lib.hid ha
      clear c0 c1 c2 ha
      obtain ⟨HX, hHX⟩ : ∃ HX, HX = wr.heap.size := ⟨_, rfl⟩
      have hBw : HB ≤ wr.heap.size := by have := HQ.out.2.size; have := HHB.out; omega
      have FT : Hid (Fit a) := HS.out.1.fit a (List.mem_of_getElem? HA.out)
      have ST2 : Hid (OwnL (wr.alloc (.cells #[.int .i64 a.n, .string a.s, .string a.r] 28)) HB u5 (fTo As k a 0) ∧ Below HB w (wr.alloc (.cells #[.int .i64 a.n, .string a.s, .string a.r] 28)) ∧ Box 28 (wr.alloc (.cells #[.int .i64 a.n, .string a.s, .string a.r] 28)) HX a.n a.s a.r) := by
        have AL : Below wr.heap.size wr (wr.alloc (.cells #[.int .i64 a.n, .string a.s, .string a.r] 28)) := (Below.refl _ _).alloc (Nat.le_refl _) _
        refine ⟨by rw [fTo_zero]; exact HQ.out.1.below AL (Nat.le_refl _), HQ.out.2.trans (AL.mono hBw), ?_⟩
        rw [hHX]; exact Box.new _ _ _ rfl _ _ _
      have HXX := Lib.hid hHX
      have hXB : HB ≤ HX := by omega
      clear HQ
      go_wp2_with fail
      rw [← HXX.out]
      clear d0 d1 d2 hHX hBw
      go_loopw [5, 24] (fun u i wq => ∃ y : Nat, y ≤ a.n ∧ i = .int .i64 y ∧ OwnL wq HB u (fTo As k a y) ∧ Below HB w wq ∧ Box 28 wq HX a.n a.s a.r) (fun _ i _ => a.n - (intOf i).toNat)
      case atStart => exact ⟨0, Nat.zero_le _, rfl, ST2.out⟩
      case round =>
        clear ST2
        obtain ⟨y, hy, rfl, q1, q2, q3⟩ := hrel
        have HQ := Lib.hid (show _ ∧ _ ∧ _ from ⟨q1, q2, q3⟩)
        clear q1 q2 q3
        have ha8 : a.n ≤ 8 := FT.out.2.1
        by_cases hyn : y < a.n
        · obtain ⟨a0, a1, a2⟩ := HQ.out.2.2.c
          have hsy : y < a.s.size := by have := FT.out.2.2.1; omega
          cases e1 : bitAt a.s y with
          | false =>
            cases e2 : bitAt a.r (y * a.n + y) with
            | false =>
              have HD : Hid (d0 a y = [(0 : Int)]) := by
                unfold Hid d0 n01
                simp only [e1, e2]; rfl
              have HE := Lib.hid (show _ ∧ _ from ⟨e1, e2⟩)
              clear e1 e2
              go_wp2_with fail
              refine (inSet_any a.n a.s a.r y _ hsy (by have := FT.out.2.2.1; have := FT.out.2.1; omega)).mono ?_
              rintro e w1 ⟨rfl, hb⟩
              rw [HE.out.1]
              have HQ1 := Lib.hid (show _ ∧ _ ∧ _ from ⟨HQ.out.1.below hb (Nat.le_refl _), HQ.out.2.1.trans (hb.mono (by have := HQ.out.2.1.size; have := HHB.out; omega)), HQ.out.2.2.below hb HQ.out.2.2.lt⟩)
              clear hb a0 a1 a2 HQ
              obtain ⟨a0, a1, a2⟩ := HQ1.out.2.2.c
              go_wp2_with fail
              refine (inRel_any a.n a.s a.r y y _ hyn hyn FT.out.2.1 FT.out.2.2.2).mono ?_
              rintro e w2 ⟨rfl, hb⟩
              rw [HE.out.2]
              have HQ2 := Lib.hid (show _ ∧ _ ∧ _ from ⟨HQ1.out.1.below hb (Nat.le_refl _), HQ1.out.2.1.trans (hb.mono (by have := HQ1.out.2.1.size; have := HHB.out; omega)), HQ1.out.2.2.below hb HQ1.out.2.2.lt⟩)
              clear hb a0 a1 a2 HQ1
              have AL : Below w2.heap.size w2 (w2.alloc (.cells #[.int .i64 0] 3)) := (Below.refl _ _).alloc (Nat.le_refl _) _
              have hBw : HB ≤ w2.heap.size := by have := HQ2.out.2.1.size; have := HHB.out; omega
              have OI : OwnI 3 (w2.alloc (.cells #[.int .i64 0] 3)) w2.heap.size (.slice (some ⟨w2.heap.size, 0, none⟩) 1 1) [(0 : Int)] := kind.oneRow _ _ _ _ _ rfl (Nat.le_refl _)
              have OL0 := HQ2.out.1
              obtain ⟨us, hul, hrow, hus⟩ := (OL0.below AL (Nat.le_refl _)).row
              obtain ⟨m, hum⟩ : ∃ m, m = us.length := ⟨_, rfl⟩
              rw [← hum] at hrow
              have hm8 : m ≤ 100 := by
                rw [hum, hul, fTo_len]
                have := LT.out k
                have := FT.out.2.1
                omega
              have hlt : ∀ q, u5.ownBlock = some q → q < w2.heap.size := fun q hq => by
                rcases OL0.len with ⟨h, _⟩ | ⟨g9, c9, h, h9, h8⟩
                · rw [h] at hq; cases hq
                · rw [h] at hq; have : g9 = q := Option.some.inj hq; omega
              have HO := Lib.hid (show _ ∧ _ ∧ _ ∧ _ ∧ _ ∧ _ from ⟨hul, hus, hum, hrow, OI, hlt⟩)
              have AL1 := Lib.hid AL
              clear hul hus hum hrow OI OL0 AL hlt
              go_wp2_with (at_builtin; refine wpList_app1 (w2.alloc (.cells #[.int .i64 0] 3)) rfl (.tmp 38) (.tmp 41) 51 rfl HB 25 (.slice none 0 0) 24 Tryd.underlying51 sll.infoSl rfl (by decide) _ _ _ (.slice (some ⟨w2.heap.size, 0, none⟩) 1 1) rfl HO.out.2.2.2.1 (w2.heap.size + 1) (by simp) rfl rfl (by omega) (by omega) ?_)
              intro g' cap' w9 hown9 hgr
              have R : Hid (OwnL w9 HB (.slice (some ⟨g', 0, none⟩) (m + 1) cap') (fTo As k a (y + 1)) ∧ Below HB w w9 ∧ Box 28 w9 HX a.n a.s a.r) := by
                obtain ⟨h1, h2, h3, h4, h5, h6⟩ := HO.out
                have hb9 := hgr.below h4 (Nat.le_trans hBw AL1.out.size)
                have hbx : Box 28 (w2.alloc (.cells #[.int .i64 0] 3)) HX a.n a.s a.r := HQ2.out.2.2.below AL1.out HQ2.out.2.2.lt
                refine ⟨?_, HQ2.out.2.1.trans ((AL1.out.mono hBw).trans hb9), ?_⟩
                · rw [fTo_succ, HD.out]
                  refine own_push' h3.symm h1 h2 h5.reads (by simp) (fun q hq e => ?_) hown9 hgr
                  have := h6 q hq
                  have : w2.heap.size = q := Option.some.inj e
                  omega
                · exact box_grew (by decide) hbx h4 hgr
              clear hown9 hgr HO
              go_wp2
              go_roundw
              case rel => exact ⟨y + 1, by omega, by go_num, R.out⟩
              case measure => simp [intOf]; omega
            | true =>
              have HD : Hid (d0 a y = [(1 : Int)]) := by
                unfold Hid d0 n01
                simp only [e1, e2]; rfl
              have HE := Lib.hid (show _ ∧ _ from ⟨e1, e2⟩)
              clear e1 e2
              go_wp2_with fail
              refine (inSet_any a.n a.s a.r y _ hsy (by have := FT.out.2.2.1; have := FT.out.2.1; omega)).mono ?_
              rintro e w1 ⟨rfl, hb⟩
              rw [HE.out.1]
              have HQ1 := Lib.hid (show _ ∧ _ ∧ _ from ⟨HQ.out.1.below hb (Nat.le_refl _), HQ.out.2.1.trans (hb.mono (by have := HQ.out.2.1.size; have := HHB.out; omega)), HQ.out.2.2.below hb HQ.out.2.2.lt⟩)
              clear hb a0 a1 a2 HQ
              obtain ⟨a0, a1, a2⟩ := HQ1.out.2.2.c
              go_wp2_with fail
              refine (inRel_any a.n a.s a.r y y _ hyn hyn FT.out.2.1 FT.out.2.2.2).mono ?_
              rintro e w2 ⟨rfl, hb⟩
              rw [HE.out.2]
              have HQ2 := Lib.hid (show _ ∧ _ ∧ _ from ⟨HQ1.out.1.below hb (Nat.le_refl _), HQ1.out.2.1.trans (hb.mono (by have := HQ1.out.2.1.size; have := HHB.out; omega)), HQ1.out.2.2.below hb HQ1.out.2.2.lt⟩)
              clear hb a0 a1 a2 HQ1
              have AL : Below w2.heap.size w2 (w2.alloc (.cells #[.int .i64 1] 3)) := (Below.refl _ _).alloc (Nat.le_refl _) _
              have hBw : HB ≤ w2.heap.size := by have := HQ2.out.2.1.size; have := HHB.out; omega
              have OI : OwnI 3 (w2.alloc (.cells #[.int .i64 1] 3)) w2.heap.size (.slice (some ⟨w2.heap.size, 0, none⟩) 1 1) [(1 : Int)] := kind.oneRow _ _ _ _ _ rfl (Nat.le_refl _)
              have OL0 := HQ2.out.1
              obtain ⟨us, hul, hrow, hus⟩ := (OL0.below AL (Nat.le_refl _)).row
              obtain ⟨m, hum⟩ : ∃ m, m = us.length := ⟨_, rfl⟩
              rw [← hum] at hrow
              have hm8 : m ≤ 100 := by
                rw [hum, hul, fTo_len]
                have := LT.out k
                have := FT.out.2.1
                omega
              have hlt : ∀ q, u5.ownBlock = some q → q < w2.heap.size := fun q hq => by
                rcases OL0.len with ⟨h, _⟩ | ⟨g9, c9, h, h9, h8⟩
                · rw [h] at hq; cases hq
                · rw [h] at hq; have : g9 = q := Option.some.inj hq; omega
              have HO := Lib.hid (show _ ∧ _ ∧ _ ∧ _ ∧ _ ∧ _ from ⟨hul, hus, hum, hrow, OI, hlt⟩)
              have AL1 := Lib.hid AL
              clear hul hus hum hrow OI OL0 AL hlt
              go_wp2_with (at_builtin; refine wpList_app1 (w2.alloc (.cells #[.int .i64 1] 3)) rfl (.tmp 38) (.tmp 41) 51 rfl HB 25 (.slice none 0 0) 24 Tryd.underlying51 sll.infoSl rfl (by decide) _ _ _ (.slice (some ⟨w2.heap.size, 0, none⟩) 1 1) rfl HO.out.2.2.2.1 (w2.heap.size + 1) (by simp) rfl rfl (by omega) (by omega) ?_)
              intro g' cap' w9 hown9 hgr
              have R : Hid (OwnL w9 HB (.slice (some ⟨g', 0, none⟩) (m + 1) cap') (fTo As k a (y + 1)) ∧ Below HB w w9 ∧ Box 28 w9 HX a.n a.s a.r) := by
                obtain ⟨h1, h2, h3, h4, h5, h6⟩ := HO.out
                have hb9 := hgr.below h4 (Nat.le_trans hBw AL1.out.size)
                have hbx : Box 28 (w2.alloc (.cells #[.int .i64 1] 3)) HX a.n a.s a.r := HQ2.out.2.2.below AL1.out HQ2.out.2.2.lt
                refine ⟨?_, HQ2.out.2.1.trans ((AL1.out.mono hBw).trans hb9), ?_⟩
                · rw [fTo_succ, HD.out]
                  refine own_push' h3.symm h1 h2 h5.reads (by simp) (fun q hq e => ?_) hown9 hgr
                  have := h6 q hq
                  have : w2.heap.size = q := Option.some.inj e
                  omega
                · exact box_grew (by decide) hbx h4 hgr
              clear hown9 hgr HO
              go_wp2
              go_roundw
              case rel => exact ⟨y + 1, by omega, by go_num, R.out⟩
              case measure => simp [intOf]; omega
          | true =>
            cases e2 : bitAt a.r (y * a.n + y) with
            | false =>
              have HD : Hid (d0 a y = [(2 : Int)]) := by
                unfold Hid d0 n01
                simp only [e1, e2]; rfl
              have HE := Lib.hid (show _ ∧ _ from ⟨e1, e2⟩)
              clear e1 e2
              go_wp2_with fail
              refine (inSet_any a.n a.s a.r y _ hsy (by have := FT.out.2.2.1; have := FT.out.2.1; omega)).mono ?_
              rintro e w1 ⟨rfl, hb⟩
              rw [HE.out.1]
              have HQ1 := Lib.hid (show _ ∧ _ ∧ _ from ⟨HQ.out.1.below hb (Nat.le_refl _), HQ.out.2.1.trans (hb.mono (by have := HQ.out.2.1.size; have := HHB.out; omega)), HQ.out.2.2.below hb HQ.out.2.2.lt⟩)
              clear hb a0 a1 a2 HQ
              obtain ⟨a0, a1, a2⟩ := HQ1.out.2.2.c
              go_wp2_with fail
              refine (inRel_any a.n a.s a.r y y _ hyn hyn FT.out.2.1 FT.out.2.2.2).mono ?_
              rintro e w2 ⟨rfl, hb⟩
              rw [HE.out.2]
              have HQ2 := Lib.hid (show _ ∧ _ ∧ _ from ⟨HQ1.out.1.below hb (Nat.le_refl _), HQ1.out.2.1.trans (hb.mono (by have := HQ1.out.2.1.size; have := HHB.out; omega)), HQ1.out.2.2.below hb HQ1.out.2.2.lt⟩)
              clear hb a0 a1 a2 HQ1
              have AL : Below w2.heap.size w2 (w2.alloc (.cells #[.int .i64 2] 3)) := (Below.refl _ _).alloc (Nat.le_refl _) _
              have hBw : HB ≤ w2.heap.size := by have := HQ2.out.2.1.size; have := HHB.out; omega
              have OI : OwnI 3 (w2.alloc (.cells #[.int .i64 2] 3)) w2.heap.size (.slice (some ⟨w2.heap.size, 0, none⟩) 1 1) [(2 : Int)] := kind.oneRow _ _ _ _ _ rfl (Nat.le_refl _)
              have OL0 := HQ2.out.1
              obtain ⟨us, hul, hrow, hus⟩ := (OL0.below AL (Nat.le_refl _)).row
              obtain ⟨m, hum⟩ : ∃ m, m = us.length := ⟨_, rfl⟩
              rw [← hum] at hrow
              have hm8 : m ≤ 100 := by
                rw [hum, hul, fTo_len]
                have := LT.out k
                have := FT.out.2.1
                omega
              have hlt : ∀ q, u5.ownBlock = some q → q < w2.heap.size := fun q hq => by
                rcases OL0.len with ⟨h, _⟩ | ⟨g9, c9, h, h9, h8⟩
                · rw [h] at hq; cases hq
                · rw [h] at hq; have : g9 = q := Option.some.inj hq; omega
              have HO := Lib.hid (show _ ∧ _ ∧ _ ∧ _ ∧ _ ∧ _ from ⟨hul, hus, hum, hrow, OI, hlt⟩)
              have AL1 := Lib.hid AL
              clear hul hus hum hrow OI OL0 AL hlt
              go_wp2_with (at_builtin; refine wpList_app1 (w2.alloc (.cells #[.int .i64 2] 3)) rfl (.tmp 38) (.tmp 41) 51 rfl HB 25 (.slice none 0 0) 24 Tryd.underlying51 sll.infoSl rfl (by decide) _ _ _ (.slice (some ⟨w2.heap.size, 0, none⟩) 1 1) rfl HO.out.2.2.2.1 (w2.heap.size + 1) (by simp) rfl rfl (by omega) (by omega) ?_)
              intro g' cap' w9 hown9 hgr
              have R : Hid (OwnL w9 HB (.slice (some ⟨g', 0, none⟩) (m + 1) cap') (fTo As k a (y + 1)) ∧ Below HB w w9 ∧ Box 28 w9 HX a.n a.s a.r) := by
                obtain ⟨h1, h2, h3, h4, h5, h6⟩ := HO.out
                have hb9 := hgr.below h4 (Nat.le_trans hBw AL1.out.size)
                have hbx : Box 28 (w2.alloc (.cells #[.int .i64 2] 3)) HX a.n a.s a.r := HQ2.out.2.2.below AL1.out HQ2.out.2.2.lt
                refine ⟨?_, HQ2.out.2.1.trans ((AL1.out.mono hBw).trans hb9), ?_⟩
                · rw [fTo_succ, HD.out]
                  refine own_push' h3.symm h1 h2 h5.reads (by simp) (fun q hq e => ?_) hown9 hgr
                  have := h6 q hq
                  have : w2.heap.size = q := Option.some.inj e
                  omega
                · exact box_grew (by decide) hbx h4 hgr
              clear hown9 hgr HO
              go_wp2
              go_roundw
              case rel => exact ⟨y + 1, by omega, by go_num, R.out⟩
              case measure => simp [intOf]; omega
            | true =>
              have HD : Hid (d0 a y = [(3 : Int)]) := by
                unfold Hid d0 n01
                simp only [e1, e2]; rfl
              have HE := Lib.hid (show _ ∧ _ from ⟨e1, e2⟩)
              clear e1 e2
              go_wp2_with fail
              refine (inSet_any a.n a.s a.r y _ hsy (by have := FT.out.2.2.1; have := FT.out.2.1; omega)).mono ?_
              rintro e w1 ⟨rfl, hb⟩
              rw [HE.out.1]
              have HQ1 := Lib.hid (show _ ∧ _ ∧ _ from ⟨HQ.out.1.below hb (Nat.le_refl _), HQ.out.2.1.trans (hb.mono (by have := HQ.out.2.1.size; have := HHB.out; omega)), HQ.out.2.2.below hb HQ.out.2.2.lt⟩)
              clear hb a0 a1 a2 HQ
              obtain ⟨a0, a1, a2⟩ := HQ1.out.2.2.c
              go_wp2_with fail
              refine (inRel_any a.n a.s a.r y y _ hyn hyn FT.out.2.1 FT.out.2.2.2).mono ?_
              rintro e w2 ⟨rfl, hb⟩
              rw [HE.out.2]
              have HQ2 := Lib.hid (show _ ∧ _ ∧ _ from ⟨HQ1.out.1.below hb (Nat.le_refl _), HQ1.out.2.1.trans (hb.mono (by have := HQ1.out.2.1.size; have := HHB.out; omega)), HQ1.out.2.2.below hb HQ1.out.2.2.lt⟩)
              clear hb a0 a1 a2 HQ1
              have AL : Below w2.heap.size w2 (w2.alloc (.cells #[.int .i64 3] 3)) := (Below.refl _ _).alloc (Nat.le_refl _) _
              have hBw : HB ≤ w2.heap.size := by have := HQ2.out.2.1.size; have := HHB.out; omega
              have OI : OwnI 3 (w2.alloc (.cells #[.int .i64 3] 3)) w2.heap.size (.slice (some ⟨w2.heap.size, 0, none⟩) 1 1) [(3 : Int)] := kind.oneRow _ _ _ _ _ rfl (Nat.le_refl _)
              have OL0 := HQ2.out.1
              obtain ⟨us, hul, hrow, hus⟩ := (OL0.below AL (Nat.le_refl _)).row
              obtain ⟨m, hum⟩ : ∃ m, m = us.length := ⟨_, rfl⟩
              rw [← hum] at hrow
              have hm8 : m ≤ 100 := by
                rw [hum, hul, fTo_len]
                have := LT.out k
                have := FT.out.2.1
                omega
              have hlt : ∀ q, u5.ownBlock = some q → q < w2.heap.size := fun q hq => by
                rcases OL0.len with ⟨h, _⟩ | ⟨g9, c9, h, h9, h8⟩
                · rw [h] at hq; cases hq
                · rw [h] at hq; have : g9 = q := Option.some.inj hq; omega
              have HO := Lib.hid (show _ ∧ _ ∧ _ ∧ _ ∧ _ ∧ _ from ⟨hul, hus, hum, hrow, OI, hlt⟩)
              have AL1 := Lib.hid AL
              clear hul hus hum hrow OI OL0 AL hlt
              go_wp2_with (at_builtin; refine wpList_app1 (w2.alloc (.cells #[.int .i64 3] 3)) rfl (.tmp 38) (.tmp 41) 51 rfl HB 25 (.slice none 0 0) 24 Tryd.underlying51 sll.infoSl rfl (by decide) _ _ _ (.slice (some ⟨w2.heap.size, 0, none⟩) 1 1) rfl HO.out.2.2.2.1 (w2.heap.size + 1) (by simp) rfl rfl (by omega) (by omega) ?_)
              intro g' cap' w9 hown9 hgr
              have R : Hid (OwnL w9 HB (.slice (some ⟨g', 0, none⟩) (m + 1) cap') (fTo As k a (y + 1)) ∧ Below HB w w9 ∧ Box 28 w9 HX a.n a.s a.r) := by
                obtain ⟨h1, h2, h3, h4, h5, h6⟩ := HO.out
                have hb9 := hgr.below h4 (Nat.le_trans hBw AL1.out.size)
                have hbx : Box 28 (w2.alloc (.cells #[.int .i64 3] 3)) HX a.n a.s a.r := HQ2.out.2.2.below AL1.out HQ2.out.2.2.lt
                refine ⟨?_, HQ2.out.2.1.trans ((AL1.out.mono hBw).trans hb9), ?_⟩
                · rw [fTo_succ, HD.out]
                  refine own_push' h3.symm h1 h2 h5.reads (by simp) (fun q hq e => ?_) hown9 hgr
                  have := h6 q hq
                  have : w2.heap.size = q := Option.some.inj e
                  omega
                · exact box_grew (by decide) hbx h4 hgr
              clear hown9 hgr HO
              go_wp2
              go_roundw
              case rel => exact ⟨y + 1, by omega, by go_num, R.out⟩
              case measure => simp [intOf]; omega
        · have hye : y = a.n := by omega
          have R : Hid (OwnL wr HB u5 (firsts (As.take (k + 1))) ∧ Below HB w wr) := by
            rw [← fTo_full HA.out, ← hye]; exact ⟨HQ.out.1, HQ.out.2.1⟩
          go_wp2
          go_roundw
          case rel => exact ⟨k + 1, by omega, by go_num, R.out⟩
          case measure => simp [intOf]; omega
    · obtain rfl : L = k := by omega
      have eT : As.take L = As := List.take_of_length_le (by have := HS.out.2; omega)
      rw [eT] at HQ
      obtain ⟨tn, hTn⟩ : ∃ tn, tn = total As := ⟨_, rfl⟩
      obtain ⟨g0, c0, hv0⟩ : ∃ g0 c0, u5 = .slice (some ⟨g0, 0, none⟩) tn c0 := by
        rcases HQ.out.1.len with ⟨_, h0⟩ | ⟨g, cap, hv, _⟩
        · have e := firsts_len As
          rw [h0] at e
          have := TP.out.1
          simp at e; omega
        · exact ⟨g, cap, by rw [hv, firsts_len, hTn]⟩
      subst hv0
      have HTn := Lib.hid hTn
      have h1n : 1 ≤ tn ∧ tn ≤ 16 := by rw [hTn]; exact TP.out
      have hBr : HB ≤ wr.heap.size := by have := HQ.out.2.size; have := HHB.out; omega
      clear eT hTn
      go_wp2_with fail
      refine (colouredOf_any _ HB g0 tn c0 (firsts As) HQ.out.1 h1n.1 (by omega) (firsts_rows As)).mono ?_
      rintro e w1 ⟨u, rfl, ho, hb⟩
      have ST3 : Hid (OwnI 3 w1 HB u (cols As 0) ∧ Below HB w w1) := ⟨ho.mono hBr, HQ.out.2.trans (hb.mono hBr)⟩
      clear ho hb HQ hBr
      go_wp2_with fail
      go_loopw [10, 48] (fun u i wr => ∃ j : Nat, j ≤ R ∧ i = .int .i64 j ∧ OwnI 3 wr HB u (cols As j) ∧ Below HB w wr) (fun _ i _ => R - (intOf i).toNat)
      case atStart => exact ⟨0, Nat.zero_le _, rfl, ST3.out⟩
      case round =>
        clear ST3
        obtain ⟨j, hj, rfl, q1, q2⟩ := hrel
        have HQ := Lib.hid (show _ ∧ _ from ⟨q1, q2⟩)
        clear q1 q2
        by_cases hjR : j < R
        · obtain ⟨c, hc⟩ : ∃ c, c = cols As j := ⟨_, rfl⟩
          have HCC := Lib.hid hc
          rw [← hc] at HQ
          have hcl : c.length = tn := by rw [hc, cols_len, HTn.out]
          have HCL := Lib.hid hcl
          obtain ⟨gc, cc, hv0⟩ : ∃ gc cc, u10 = .slice (some ⟨gc, 0, none⟩) tn cc := by
            rcases HQ.out.1.shape with ⟨_, h0⟩ | ⟨g, cap, hv⟩
            · rw [h0] at hcl; simp at hcl; omega
            · exact ⟨g, cap, by rw [hv, hcl]⟩
          subst hv0
          obtain ⟨WO, hWO⟩ : ∃ W, W = wr := ⟨_, rfl⟩
          obtain ⟨HC, hHC⟩ : ∃ HC, HC = wr.heap.size := ⟨_, rfl⟩
          have HHC := Lib.hid hHC
          have hBC : HB ≤ HC := by have := HQ.out.2.size; have := HHB.out; omega
          have hcap := own_cap HQ.out.1
          have hgc : gc < HC := by have := HQ.out.1.ge; omega
          have ST4 : Hid (OwnL (wr.alloc (.cells #[] 25)) HC (.slice (some ⟨HC, 0, none⟩) 0 0) (nexts (As.take 0) c) ∧ Below HC WO (wr.alloc (.cells #[] 25))) := by
            rw [hHC, hWO]; exact ⟨OwnL.empty _ _ _ rfl (Nat.le_refl _), (Below.refl _ _).alloc (Nat.le_refl _) _⟩
          have HQ0 : Hid (OwnI 3 WO HB (.slice (some ⟨gc, 0, none⟩) tn cc) c ∧ Below HB w WO ∧ WO.heap.size = HC) := by rw [hWO]; exact ⟨HQ.out.1, HQ.out.2, hHC.symm⟩
          clear hHC hWO hc hcl HQ
          go_wp2_with fail
          try rw [← HHC.out]
          clear HHC
          go_loopw [5, 11, 53] (fun u b i wq => ∃ k : Nat, k ≤ L ∧ b = .int .i64 (total (As.take k)) ∧ i = .int .i64 k ∧ OwnL wq HC u (nexts (As.take k) c) ∧ Below HC WO wq) (fun _ _ i _ => L - (intOf i).toNat)
          case atStart => exact ⟨0, Nat.zero_le _, rfl, rfl, ST4.out⟩
          case round =>
            clear ST4
            obtain ⟨k, hk, rfl, rfl, q1, q2⟩ := hrel
            have HQ := Lib.hid (show _ ∧ _ from ⟨q1, q2⟩)
            have hCw : HC ≤ wr.heap.size := by have := q2.size; have := HQ0.out.2.2; omega
            clear q1 q2
            obtain ⟨T, hT⟩ : ∃ T, T = total (As.take k) := ⟨_, rfl⟩
            rw [← hT]
            have HT := Lib.hid hT
            clear hT
            by_cases hkL : k < L
            · obtain ⟨a, ha⟩ : ∃ a, As[k]? = some a := ⟨_, List.getElem?_eq_getElem (by have := HS.out.2; omega)⟩
              have BW : Hid (Below HB w wr) := HQ0.out.2.1.trans (HQ.out.2.mono hBC)
              obtain ⟨c0, c1, c2⟩ := HS.out.1.c k a ha
              have d0 : wr.cell? ⟨g, k * 3, none⟩ = some (.int .i64 a.n) := by rw [BW.out.cell (p := ⟨g, k * 3, none⟩) hg]; exact c0
              have d1 : wr.cell? ⟨g, k * 3 + 1, none⟩ = some (.string a.s) := by rw [BW.out.cell (p := ⟨g, k * 3 + 1, none⟩) hg]; exact c1
              have d2 : wr.cell? ⟨g, k * 3 + 2, none⟩ = some (.string a.r) := by rw [BW.out.cell (p := ⟨g, k * 3 + 2, none⟩) hg]; exact c2
              have HA := Lib.hid ha
              have hTa : T + a.n = total (As.take (k + 1)) ∧ T + a.n ≤ tn := by
                have h1 := total_take As k a ha
                have h2 := total_part As (k + 1)
                have := HT.out
                have := HTn.out
                omega
              have HTA := Lib.hid hTa.1
              have hTa2 := hTa.2
              clear c0 c1 c2 ha hTa
              obtain ⟨HX, hHX⟩ : ∃ HX, HX = wr.heap.size := ⟨_, rfl⟩
              have FT : Hid (Fit a) := HS.out.1.fit a (List.mem_of_getElem? HA.out)
              have ST5 : Hid (OwnL (wr.alloc (.cells #[.int .i64 a.n, .string a.s, .string a.r] 28)) HC u5 (nTo As c k a 0) ∧ Below HB w (wr.alloc (.cells #[.int .i64 a.n, .string a.s, .string a.r] 28)) ∧ Box 28 (wr.alloc (.cells #[.int .i64 a.n, .string a.s, .string a.r] 28)) HX a.n a.s a.r ∧ OwnI 3 (wr.alloc (.cells #[.int .i64 a.n, .string a.s, .string a.r] 28)) HB (.slice (some ⟨gc, 0, none⟩) tn cc) c ∧ HC ≤ (wr.alloc (.cells #[.int .i64 a.n, .string a.s, .string a.r] 28)).heap.size ∧ Below HC WO (wr.alloc (.cells #[.int .i64 a.n, .string a.s, .string a.r] 28))) := by
                have AL : Below wr.heap.size wr (wr.alloc (.cells #[.int .i64 a.n, .string a.s, .string a.r] 28)) := (Below.refl _ _).alloc (Nat.le_refl _) _
                refine ⟨by rw [nTo_zero]; exact HQ.out.1.below AL (Nat.le_refl _), BW.out.trans (AL.mono (by omega)), ?_, (HQ0.out.1.below HQ.out.2 (by rw [HQ0.out.2.2]; exact Nat.le_refl _)).below AL (Nat.le_refl _), Nat.le_trans hCw AL.size, HQ.out.2.trans (AL.mono hCw)⟩
                rw [hHX]; exact Box.new _ _ _ rfl _ _ _
              have HXX := Lib.hid hHX
              clear HQ BW
              go_wp2_with fail
              try rw [← HXX.out]
              clear d0 d1 d2 hHX hCw HXX
              go_loopw [5, 59] (fun u i wq => ∃ y : Nat, y ≤ a.n ∧ i = .int .i64 y ∧ OwnL wq HC u (nTo As c k a y) ∧ Below HB w wq ∧ Box 28 wq HX a.n a.s a.r ∧ OwnI 3 wq HB (.slice (some ⟨gc, 0, none⟩) tn cc) c ∧ HC ≤ wq.heap.size ∧ Below HC WO wq) (fun _ i _ => a.n - (intOf i).toNat)
              case atStart => exact ⟨0, Nat.zero_le _, rfl, ST5.out⟩
              case round =>
                clear ST5
                obtain ⟨y, hy, rfl, q1, q2, q3, q4, q5, q6⟩ := hrel
                have HQ := Lib.hid (show _ ∧ _ ∧ _ ∧ _ ∧ _ ∧ _ from ⟨q1, q2, q3, q4, q5, q6⟩)
                clear q1 q2 q3 q4 q5 q6
                obtain ⟨a0, a1, a2⟩ := HQ.out.2.2.1.c
                have ha8 : a.n ≤ 8 := FT.out.2.1
                by_cases hyn : y < a.n
                · have RDS : Hid (Reads wr.drew (.slice (some ⟨gc, T, none⟩) a.n (cc - T)) ((c.drop T).take a.n)) := (sub_reads HQ.out.2.2.2.1 (by omega)).below ((Below.refl _ _).drew) (Nat.le_refl _)
                  have HDL : Hid (((c.drop T).take a.n).length = a.n) := by
                    rw [Hid, List.length_take, List.length_drop]; have := HCL.out; omega
                  have hlt : Hid (∀ q, u5.ownBlock = some q → q < wr.heap.size) := fun q hq => by
                    rcases HQ.out.1.len with ⟨h, _⟩ | ⟨g9, c9, h, h9, h8⟩
                    · rw [h] at hq; cases hq
                    · rw [h] at hq; have : g9 = q := Option.some.inj hq; omega
                  have hcw : HC ≤ wr.heap.size := HQ.out.2.2.2.2.1
                  have q0 : ∀ QQ : Wd (fun Q => Q.cell? ⟨HX, 0, none⟩ = some (.int .i64 a.n) ∧ Q.cell? ⟨HX, 1, none⟩ = some (.string a.s) ∧ Q.cell? ⟨HX, 2, none⟩ = some (.string a.r)), QQ.w.cell? ⟨HX, 0, none⟩ = some (.int .i64 a.n) := fun QQ => QQ.ok.1
                  have q1 : ∀ QQ : Wd (fun Q => Q.cell? ⟨HX, 0, none⟩ = some (.int .i64 a.n) ∧ Q.cell? ⟨HX, 1, none⟩ = some (.string a.s) ∧ Q.cell? ⟨HX, 2, none⟩ = some (.string a.r)), QQ.w.cell? ⟨HX, 1, none⟩ = some (.string a.s) := fun QQ => QQ.ok.2.1
                  have q2 : ∀ QQ : Wd (fun Q => Q.cell? ⟨HX, 0, none⟩ = some (.int .i64 a.n) ∧ Q.cell? ⟨HX, 1, none⟩ = some (.string a.s) ∧ Q.cell? ⟨HX, 2, none⟩ = some (.string a.r)), QQ.w.cell? ⟨HX, 2, none⟩ = some (.string a.r) := fun QQ => QQ.ok.2.2
                  have hne : Nonempty (Wd (fun Q => Q.cell? ⟨HX, 0, none⟩ = some (.int .i64 a.n) ∧ Q.cell? ⟨HX, 1, none⟩ = some (.string a.s) ∧ Q.cell? ⟨HX, 2, none⟩ = some (.string a.r))) := ⟨⟨wr, ⟨a0, a1, a2⟩⟩⟩
                  go_wp2_with fail
                  refine chain_last (S := (fun Q => Q.cell? ⟨HX, 0, none⟩ = some (.int .i64 a.n) ∧ Q.cell? ⟨HX, 1, none⟩ = some (.string a.s) ∧ Q.cell? ⟨HX, 2, none⟩ = some (.string a.r))) [([true, true, true, true, true, true, true, true, true, true], 10), ([], 11), ([], 12)] [] (by kernel_rfl) (by kernel_rfl) (by kernel_rfl) (by kernel_rfl) (by kernel_rfl) (by kernel_rfl) ⟨a0, a1, a2⟩ ?_
                  simp only [wpSegs, pickB, List.dropLast_cons_cons, List.dropLast_singleton, List.getLast?_cons_cons, List.getLast?_singleton, List.toList_toArray, List.getElem?_toArray, List.getElem?_cons_succ, List.getElem?_cons_zero, Option.toList_some]
                  repeat (go_big_quiet_step (fail))
                  refine wpQuiet_nil ?_
                  intro K hK
                  go_wp2_with fail
                  refine (describe_any a.n a.s a.r ((c.drop T).take a.n) _ y _ hyn ha8 FT.out.2.2.2 RDS.out HDL.out).mono ?_
                  rintro e w3 ⟨v0, rfl, ho, hb⟩
                  obtain ⟨g2, dl, cap2, hv2⟩ : ∃ g2 dl cap2, v0 = .slice (some ⟨g2, 0, none⟩) dl cap2 := by
                    rcases ho.shape with ⟨_, h0⟩ | ⟨g, cap, hv⟩
                    · exact absurd h0 (desc_ne _ _ _)
                    · exact ⟨g, _, cap, hv⟩
                  subst hv2
                  have hb9 : Below wr.heap.size wr w3 := ((Below.refl wr.heap.size wr).drew).trans hb
                  have hg2 : Hid (wr.heap.size ≤ g2) := ho.ge.1
                  have F3 := Lib.hid (show _ ∧ _ ∧ _ ∧ _ ∧ _ ∧ _ ∧ _ from ⟨ho, HQ.out.1.below hb9 (Nat.le_refl _), HQ.out.2.1.trans (hb9.mono (by omega)), HQ.out.2.2.1.below hb9 HQ.out.2.2.1.lt, HQ.out.2.2.2.1.below hb9 (Nat.le_refl _), Nat.le_trans hcw hb9.size, HQ.out.2.2.2.2.2.trans (hb9.mono hcw)⟩)
                  have AL3 : Hid (Below w3.heap.size w3 (w3.alloc (.cells #[.slice (some ⟨g2, 0, none⟩) dl cap2] 25))) := (Below.refl _ _).alloc (Nat.le_refl _) _
                  obtain ⟨us, hul, hrow, hus⟩ := F3.out.2.1.row
                  obtain ⟨m, hum⟩ : ∃ m, m = us.length := ⟨_, rfl⟩
                  rw [← hum] at hrow
                  have hm8 : m ≤ 100 := by rw [hum, hul, nTo_len, ← HT.out]; omega
                  have HO := Lib.hid (show _ ∧ _ ∧ _ ∧ _ from ⟨hul, hus, hum, hrow⟩)
                  clear ho hb hb9 HQ hul hus hum hrow
                  go_wp2_with fail
                  refine hK _ _ F3.out.2.2.2.1.c ?_
                  clear hK K
                  repeat (go_big_quiet_step (fail))
                  refine wpQuiet_nil ?_
                  intro K hK
                  go_wp2_with fail
                  refine hK _ _ (F3.out.2.2.2.1.below AL3.out F3.out.2.2.2.1.lt).c ?_
                  clear hK K
                  repeat (go_big_quiet_step (fail))
                  refine wpQuiet_nil ?_
                  intro K hK
                  go_wp2_with (at_builtin; refine wpList_app1 w3 rfl (.tmp 62) (.tmp 73) 51 rfl HC 25 (.slice none 0 0) 24 Tryd.underlying51 sll.infoSl rfl (by decide) _ _ _ (.slice (some ⟨g2, 0, none⟩) dl cap2) rfl HO.out.2.2.2 w3.heap.size rfl rfl rfl (by omega) F3.out.2.2.2.2.2.1 ?_)
                  intro g9 cap9 w9 hown9 hgr
                  have R : Hid (OwnL w9 HC (.slice (some ⟨g9, 0, none⟩) (m + 1) cap9) (nTo As c k a (y + 1)) ∧ Below HB w w9 ∧ Box 28 w9 HX a.n a.s a.r ∧ OwnI 3 w9 HB (.slice (some ⟨gc, 0, none⟩) tn cc) c ∧ HC ≤ w9.heap.size ∧ Below HC WO w9) := by
                    obtain ⟨h1, h2, h3, h4⟩ := HO.out
                    obtain ⟨f1, f2, f3, f4, f5, f6, f7⟩ := F3.out
                    have hb9 := hgr.below h4 f6
                    refine ⟨?_, f3.trans (hb9.mono hBC), box_grew (by decide) f4 h4 hgr, own_low f5 hb9 hgc, Nat.le_trans f6 hb9.size, f7.trans hb9⟩
                    rw [nTo_succ, ← HT.out]
                    refine own_push' h3.symm h1 h2 (OwnI.reads f1) (desc_ne _ _ _) (fun q hq e => ?_) hown9 hgr
                    have := hlt.out q hq
                    have := hg2.out
                    have : g2 = q := Option.some.inj e
                    omega
                  clear hown9 hgr HO F3 AL3
                  go_wp2_with fail
                  refine hK _ _ R.out.2.2.1.c ?_
                  clear hK K
                  repeat (go_big_quiet_step (fail))
                  refine wpQuiet_nil ?_
                  show wpList _ _ _ _ _ _
                  clear q0 q1 q2 hne
                  go_wp2
                  go_roundw
                  case rel => exact ⟨y + 1, by omega, by go_num, R.out⟩
                  case measure => simp [intOf]; omega
                · have hye : y = a.n := by omega
                  have R : Hid (OwnL wr HC u5 (nexts (As.take (k + 1)) c) ∧ Below HC WO wr) := by
                    rw [← nTo_full HA.out, ← hye]; exact ⟨HQ.out.1, HQ.out.2.2.2.2.2⟩
                  go_wp2
                  go_roundw
                  case rel => exact ⟨k + 1, by omega, by rw [← HTA.out]; go_num, by go_num, R.out⟩
                  case measure => simp [intOf]; omega
            · obtain rfl : L = k := by omega
              have eT : As.take L = As := List.take_of_length_le (by have := HS.out.2; omega)
              rw [eT] at HQ
              obtain ⟨g0, c0, hv0⟩ : ∃ g0 c0, u5 = .slice (some ⟨g0, 0, none⟩) tn c0 := by
                rcases HQ.out.1.len with ⟨_, h0⟩ | ⟨g, cap, hv, _⟩
                · have e := nexts_len As c
                  rw [h0] at e
                  have := TP.out.1
                  simp at e; omega
                · exact ⟨g, cap, by rw [hv, nexts_len, HTn.out]⟩
              subst hv0
              clear eT
              go_wp2_with fail
              refine (colouredOf_any _ HC g0 tn c0 (nexts As c) HQ.out.1 h1n.1 (by omega) (nexts_rows As c HS.out.1.fit)).mono ?_
              rintro e w1 ⟨u, rfl, ho, hb⟩
              have R : Hid (OwnI 3 w1 HB u (cols As (j + 1)) ∧ Below HB w w1) := by
                refine ⟨?_, (HQ0.out.2.1.trans (HQ.out.2.mono hBC)).trans (hb.mono (by omega))⟩
                rw [cols, ← HCC.out]
                exact ho.mono (by omega)
              clear ho hb
              go_wp2
              go_roundw
              case rel => exact ⟨j + 1, by omega, by go_num, R.out⟩
              case measure => simp [intOf]; omega
        · obtain rfl : R = j := by omega
          have RR : Hid (OwnI 3 wr w.heap.size u10 (cols As R) ∧ Below w.heap.size w wr) := by
            have e := HHB.out
            rw [← e]; exact HQ.out
          go_wp2
          go_ret
          exact ⟨_, rfl, RR.out⟩
end Go.Proofs.YtglehegjimhbjaaDoor.colsa
