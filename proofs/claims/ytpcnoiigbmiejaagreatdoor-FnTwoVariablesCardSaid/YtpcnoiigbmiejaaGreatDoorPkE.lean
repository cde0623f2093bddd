/- Several texts in one: ColJ, ColE, TwoP. -/
import Derived.Test.YtpcnoiigbmiejaaGreatDoorPkS
import Derived.Test.YtpcnoiigbmiejaaGreatDoorPkB
import Derived.Test.YtpcnoiigbmiejaaGreatDoorPk1
import Derived.Deep.CutRange
/- StableColours, BothColours, ColourRound, SameColours of the program. -/
namespace Go.Proofs.YtpcnoiigbmiejaaGreatDoor.colj
set_option linter.unusedVariables false
set_option linter.unusedSimpArgs false
open Go.ChangeShapes Go.WideShapes Go.ChangeAt Go.RowKit
open Go.Proofs.YtpcnoiigbmiejaaGreatDoor.lib Go.Proofs.YtpcnoiigbmiejaaGreatDoor.st Go.Proofs.YtpcnoiigbmiejaaGreatDoor.base Go.Proofs.YtpcnoiigbmiejaaGreatDoor.col Go.Proofs.YtpcnoiigbmiejaaGreatDoor.colp Go.Proofs.YtpcnoiigbmiejaaGreatDoor.sll Go.Proofs.YtpcnoiigbmiejaaGreatDoor.both Go.Proofs.YtpcnoiigbmiejaaGreatDoor.cmp Go.Proofs.YtpcnoiigbmiejaaGreatDoor.less Go.Proofs.YtpcnoiigbmiejaaGreatDoor.specc Go.Proofs.YtpcnoiigbmiejaaGreatDoor.specd Go.Proofs.YtpcnoiigbmiejaaGreatDoor.colsa Go.Proofs.YtpcnoiigbmiejaaGreatDoor.coli Go.Proofs.YtpcnoiigbmiejaaGreatDoor.flow Go.Proofs.YtpcnoiigbmiejaaGreatDoor.chain Go.Proofs.YtpcnoiigbmiejaaGreatDoor.descr

/-- an append of a part that is not empty -/
theorem wpList_appG {P : Program} (w : World) {ops : Array Oper} {rest : List Oper} {o : Oper} {a : Act} {Q : Exit → Act → World → Prop} (hgd : o.guard = none)
    (s x : Operand) (t : TypeId) (hop : o.op = Op.call { callee := Callee.builtin Builtin.append, args := #[s, x], argTypes := #[t, t] })
    (base : Nat) (e : TypeId) (h1 : P.underlying t = some (.slice e)) (hinfo : (P.info? e).map (fun i => (i.zero, i.size, i.bytes)) = some (some (.int .i64 0), 1, 8))
    (v : Value) (l : List Int) (hs : a.eval s = v) (hown : OwnI e w base v l) (v2 : Value) (m : List Int) (hx : a.eval x = v2) (hr : Reads w v2 m) (hm : m ≠ [])
    (b1 : l.length + m.length ≤ 4398046511104) (b4 : base ≤ w.heap.size)
    (h : ∀ v' w', OwnI e w' base v' (l ++ m) → Grew w w' v v' → wpList P ops Q rest (a.put o.dst v') w') : wpList P ops Q (o :: rest) a w := by
  obtain ⟨ao, cap, rfl, hc, -⟩ := hr
  rcases hc with hc | ⟨b, off, rfl, hc⟩
  · exact absurd hc hm
  refine wpList_plain hgd fun K hK => ?_
  refine wp_appL w s x t hop base e (.int .i64 0) 8 h1 hinfo rfl (by decide) v l.length (ivs l) hs hown ⟨b, off, none⟩ m.length cap (ivs m) hx (by simp [ivs]) ?_ ?_ (List.length_pos_iff.2 hm) b1 b4 (fun g' cap' w' ho hg => hK _ _ (h _ w' ?_ hg))
  · intro j u hj
    have hjl : j < m.length := by
      have := (List.getElem?_eq_some_iff.1 hj).1; simpa [ivs] using this
    rw [ivs_get m j hjl] at hj
    cases hj
    have := hc j hjl
    rw [show (⟨b, off, none⟩ : Addr).add j = ⟨b, off + j, none⟩ from by simp [Addr.add]]
    exact this
  · intro u hu
    simp only [ivs, List.mem_map] at hu
    obtain ⟨z, -, rfl⟩ := hu; rfl
  · unfold OwnI; rw [List.length_append, ivs_append]; exact ho
theorem keptG {T2 : TypeId} {w w' : World} {B : Nat} {v v' v2 : Value} {l2 : List Int} (hg : Grew w w' v v') (h2 : OwnI T2 w B v2 l2) (ha : Apart v v2) : OwnI T2 w' B v2 l2 ∧ Apart v' v2 := hg.keep h2 ha
theorem apart_new {T : TypeId} {w : World} {B n c : Nat} {v : Value} {l : List Int} (h : OwnI T w B v l) (H : Nat) (hH : w.heap.size = H) : Apart v (.slice (some ⟨H, 0, none⟩) n c) := fun k h1 h2 => by
  have := (World.ownsRow.lt h k h1).2
  have : H = k := Option.some.inj h2
  omega
/-- the two parts of a list of the call's own -/
theorem parts {T : TypeId} {w : World} {B g N M cap : Nat} {l : List Int} (h : OwnI T w B (.slice (some ⟨g, 0, none⟩) (N + M) cap) l) :
    Reads w (.slice (some ⟨g, 0, none⟩) N cap) (l.take N) ∧ Reads w (.slice (some ⟨g, N, none⟩) M (cap - N)) (l.drop N) ∧ l.length = N + M ∧ N + M ≤ cap ∧ cap ≤ 9223372036854775807 ∧ g < w.heap.size := by
  have hn := h.len
  have hc := own_cap h
  have hlk : (l.take N).length = N := by simp; omega
  have hld : (l.drop N).length = M := by simp; omega
  refine ⟨⟨some ⟨g, 0, none⟩, cap, by rw [hlk], .inr ⟨g, 0, rfl, fun i hi => ?_⟩, fun h => by cases h⟩, ⟨some ⟨g, N, none⟩, cap - N, by rw [hld], .inr ⟨g, N, rfl, fun i hi => ?_⟩, fun h => by cases h⟩, hn.symm, hc.1, hc.2, h.ge.2⟩
  · have := h.cell i (by omega)
    rw [Nat.zero_add, this]
    simp [List.getD_eq_getElem?_getD, List.getElem?_take, show i < N by omega]
  · have := h.cell (N + i) (by omega)
    rw [this]
    simp [List.getD_eq_getElem?_getD, List.getElem?_drop]
theorem below_drewNx {w w' : World} (h : ∃ n, w' = w.drewN n) : Below w.heap.size w w' := by
  obtain ⟨n, rfl⟩ := h
  exact below_drewN (Below.refl _ _) n
def bothA (n : Int) (s r : ByteArray) (m : Int) (t q : ByteArray) (c : Int) : List Int := if validB n s r = true ∧ validB m t q = true ∧ basic.inB c 0 8 = true then colA ⟨n.toNat, s, r⟩ ⟨m.toNat, t, q⟩ c.toNat else []
def bothB (n : Int) (s r : ByteArray) (m : Int) (t q : ByteArray) (c : Int) : List Int := if validB n s r = true ∧ validB m t q = true ∧ basic.inB c 0 8 = true then colB ⟨n.toNat, s, r⟩ ⟨m.toNat, t, q⟩ c.toNat else []
theorem both_no {n : Int} {s r : ByteArray} {m : Int} {t q : ByteArray} {c : Int} (h : ¬ (validB n s r = true ∧ validB m t q = true ∧ basic.inB c 0 8 = true)) : bothA n s r m t q c = [] ∧ bothB n s r m t q c = [] := ⟨if_neg h, if_neg h⟩
theorem cmp_empty (T : TypeId) (w : World) (B H : Nat) (hH : w.heap.size = H) (hB : B ≤ H) : OwnI T (w.alloc (.cells #[] T)) B (.slice (some ⟨H, 0, none⟩) 0 0) [] := specd.emptyRow T w B H hH hB
/-- a slice that lies below -/
theorem reads_lowB {w w' : World} {C g off n cap : Nat} {l : List Int} (h : Reads w (.slice (some ⟨g, off, none⟩) n cap) l) (hb : Below C w w') (hg : g < C) : Reads w' (.slice (some ⟨g, off, none⟩) n cap) l := by
  obtain ⟨ao, cp, hv, h, hnn⟩ := h
  refine ⟨ao, cp, hv, ?_, hnn⟩
  rcases h with h | ⟨b, o, ha, hc⟩
  · exact .inl h
  · simp only [Value.slice.injEq] at hv
    have e : g = b := by have := hv.1.trans ha; simp only [Option.some.injEq, Addr.mk.injEq] at this; exact this.1
    refine .inr ⟨b, o, ha, fun i hi => ?_⟩
    rw [hb.cell (p := ⟨b, o + i, none⟩) (by show b < C; omega)]; exact hc i hi

set_option maxHeartbeats 6400000 in
set_option maxRecDepth 100000 in
theorem implColourRound_any (n : Int) (s r : ByteArray) (m : Int) (t q : ByteArray) (w : World) (hs : s.size ≤ 9223372036854775807) (hr : r.size ≤ 9223372036854775807) (ht : t.size ≤ 9223372036854775807) (hq : q.size ≤ 9223372036854775807) :
    Calls Tryz.prog 29 #[.agg #[.int .i64 n, .string s, .string r], .agg #[.int .i64 m, .string t, .string q]] w fun e w' => e = .returned (.int .i64 (roundR n s r m t q)) ∧ Below w.heap.size w w' := by
  obtain ⟨W0, hW0⟩ : ∃ W0, W0 = (w.alloc (.cells #[.int .i64 n, .string s, .string r] 24)).alloc (.cells #[.int .i64 m, .string t, .string q] 24) := ⟨_, rfl⟩
  have BA : Hid (Box 24 W0 w.heap.size n s r) := by rw [hW0]; exact (Box.new 24 w w.heap.size rfl n s r).below ((Below.refl (w.heap.size + 1) _).alloc (by simp) _) (by omega)
  have BBx : Hid (Box 24 W0 (w.heap.size + 1) m t q) := by rw [hW0]; exact Box.new 24 _ (w.heap.size + 1) (by simp) m t q
  have AW : Hid (Below w.heap.size w W0) := by rw [hW0]; exact ((Below.refl _ _).alloc (Nat.le_refl _) _).alloc (by simp) _
  have HZ := Lib.hid (show _ ∧ _ ∧ _ ∧ _ from ⟨hs, hr, ht, hq⟩)
  have HW0 := Lib.hid hW0
  clear hs hr ht hq hW0
  go_enter Tryz.func29, Tryz.ntmps29
  go_wp2_with fail
  try rw [← HW0.out]
  clear HW0
  refine (isStructure_any n s r _ HZ.out.1 HZ.out.2.1).mono ?_
  rintro e w1 ⟨rfl, hw⟩
  have HQ := Lib.hid (show _ ∧ _ ∧ _ from ⟨BA.out.below hw BA.out.lt, BBx.out.below hw BBx.out.lt, AW.out.trans (hw.mono AW.out.size)⟩)
  clear hw BA BBx AW
  obtain ⟨a0, a1, a2⟩ := HQ.out.1.c
  obtain ⟨b0, b1, b2⟩ := HQ.out.2.1.c
  cases hv : validB n s r with
  | false =>
    have HE := Lib.hid (round_no (n := n) (s := s) (r := r) (m := m) (t := t) (q := q) (by rw [hv]; simp))
    clear hv
    go_wp2
    go_ret
    exact ⟨by rw [HE.out]; rfl, HQ.out.2.2⟩
  | true =>
    go_wp2_with fail
    refine (isStructure_any m t q _ HZ.out.2.2.1 HZ.out.2.2.2).mono ?_
    rintro e w1 ⟨rfl, hw⟩
    have HQ2 := Lib.hid (show _ ∧ _ ∧ _ from ⟨HQ.out.1.below hw HQ.out.1.lt, HQ.out.2.1.below hw HQ.out.2.1.lt, HQ.out.2.2.trans (hw.mono HQ.out.2.2.size)⟩)
    clear hw HQ a0 a1 a2 b0 b1 b2
    cases hv2 : validB m t q with
    | false =>
      have HE := Lib.hid (round_no (n := n) (s := s) (r := r) (m := m) (t := t) (q := q) (by rw [hv2]; simp))
      clear hv hv2
      go_wp2
      go_ret
      exact ⟨by rw [HE.out]; rfl, HQ2.out.2.2⟩
    | true =>
      obtain ⟨N, rfl, hN1, hN8, hsN, hrN⟩ := valid_size hv
      obtain ⟨M, rfl, hM1, hM8, hsM, hrM⟩ := valid_size hv2
      have HE := Lib.hid (round_yes hv hv2)
      have HF : Hid (Fit ⟨N, s, r⟩ ∧ Fit ⟨M, t, q⟩) := ⟨⟨hN1, hN8, hsN, hrN⟩, ⟨hM1, hM8, hsM, hrM⟩⟩
      clear hv hv2 hsN hrN hsM hrM
      go_wp2_with fail
      go_loopw [5] (fun i wr => ∃ k : Nat, k ≤ N + M + 1 ∧ i = .int .i64 k ∧ Box 24 wr w.heap.size N s r ∧ Box 24 wr (w.heap.size + 1) M t q ∧ Below w.heap.size w wr ∧ ∀ j, j < k → sameAt ⟨N, s, r⟩ ⟨M, t, q⟩ j = true) (fun i _ => N + M + 1 - (intOf i).toNat)
      case atStart => exact ⟨0, Nat.zero_le _, rfl, HQ2.out.1, HQ2.out.2.1, HQ2.out.2.2, fun j hj => absurd hj (Nat.not_lt_zero _)⟩
      case round =>
        clear HQ2
        obtain ⟨K, hk, rfl, h1, h2, h3, h4⟩ := hrel
        have HQ3 := Lib.hid (show _ ∧ _ ∧ _ ∧ _ from ⟨h1, h2, h3, h4⟩)
        clear h1 h2 h3 h4
        obtain ⟨a0, a1, a2⟩ := HQ3.out.1.c
        obtain ⟨b0, b1, b2⟩ := HQ3.out.2.1.c
        by_cases hkN : K ≤ N + M
        · have t1 : decide ((K : Int) ≤ (N : Int) + (M : Int)) = true := by simp; omega
          go_wp2_with fail
          refine (after_two _ _ N M K s r t q rfl HF.out.1 HF.out.2 (by omega)).mono ?_
          rintro e w2 ⟨u, rfl, ho, hb⟩
          have BX2 := Lib.hid (HQ3.out.1.below hb HQ3.out.1.lt)
          have BY2 := Lib.hid (HQ3.out.2.1.below hb HQ3.out.2.1.lt)
          have UB0 := Lib.hid (HQ3.out.2.2.1.trans (hb.mono HQ3.out.2.2.1.size))
          have PR := Lib.hid HQ3.out.2.2.2
          clear t1 HQ3
          obtain ⟨C, hC⟩ : ∃ C, C = cols [⟨N, s, r⟩, ⟨M, t, q⟩] K := ⟨_, rfl⟩
          have hCl : C.length = N + M := by rw [hC, cols_len]; simp [total]
          rw [← hC] at ho
          obtain ⟨gc, cc, hv0⟩ : ∃ gc cc, u = .slice (some ⟨gc, 0, none⟩) (N + M) cc := by
            rcases ho.shape with ⟨_, h0⟩ | ⟨g, cap, hv⟩
            · rw [h0] at hCl; simp at hCl; omega
            · exact ⟨g, cap, by rw [hv, hCl]⟩
          subst hv0
          have HCC := Lib.hid hC
          have U0 := Lib.hid ho
          have GL : Hid (gc < w2.heap.size) := ho.ge.2
          have HXL : w.heap.size < w2.heap.size := BX2.out.lt
          clear ho hb hC hCl a0 a1 a2 b0 b1 b2
          have PT := parts U0.out
          have RT := Lib.hid (show _ ∧ _ from ⟨PT.1, PT.2.1⟩)
          obtain ⟨tk, htk⟩ : ∃ q, q = C.take N := ⟨_, rfl⟩
          obtain ⟨dk, hdk⟩ : ∃ q, q = C.drop N := ⟨_, rfl⟩
          have hCl := PT.2.2.1
          have hcap := PT.2.2.2
          rw [← htk, ← hdk] at RT
          have HTD : Hid (tk.length = N ∧ dk.length = M) := by
            rw [Hid, htk, hdk, List.length_take, List.length_drop]; omega
          have HNE : Hid (tk ≠ [] ∧ dk ≠ []) := ⟨fun e => by have := HTD.out.1; rw [e] at this; simp at this; omega, fun e => by have := HTD.out.2; rw [e] at this; simp at this; omega⟩
          have HTK := Lib.hid (show _ ∧ _ from ⟨htk, hdk⟩)
          have hNc : N < cc := by omega
          have hcc : cc ≤ 9223372036854775807 := hcap.2.1
          clear PT hCl hcap htk hdk
          have BB0 : Hid (Below w2.heap.size w2 w2.drew) := (Below.refl w2.heap.size w2).drew
          have RD0 : Hid (Reads w2.drew (.slice (some ⟨gc, 0, none⟩) N cc) tk ∧ Reads w2.drew (.slice (some ⟨gc, N, none⟩) M (cc - N)) dk) := ⟨RT.out.1.below ((Below.refl _ _).drew) (Nat.le_refl _), RT.out.2.below ((Below.refl _ _).drew) (Nat.le_refl _)⟩
          have KX0 : Hid (Box 24 w2.drew w.heap.size N s r) := BX2.out.below ((Below.refl w2.heap.size w2).drew) BX2.out.lt
          have c0 := BX2.out.c.1
          have q0 : ∀ QQ : Wd (fun Q => Q.cell? ⟨w.heap.size, 0, none⟩ = some (.int .i64 N)), QQ.w.cell? ⟨w.heap.size, 0, none⟩ = some (.int .i64 N) := fun QQ => QQ.ok
          have hne : Nonempty (Wd (fun Q => Q.cell? ⟨w.heap.size, 0, none⟩ = some (.int .i64 N))) := ⟨⟨w2, c0⟩⟩
          go_wp2_with fail
          go_cut [7, 8] from 31 to 42 (fun v0 v1 wx => OwnI 3 wx w2.heap.size v0 tk ∧ OwnI 3 wx w2.heap.size v1 dk ∧ Apart v0 v1 ∧ Below w2.heap.size w2 wx)
          case first =>
            go_wp2_with fail
            refine tree (S := (fun Q => Q.cell? ⟨w.heap.size, 0, none⟩ = some (.int .i64 N))) (Tr.two [false, true, true, true, true, false, false, true, true, true, true] 0 (Tr.two [] 5 (Tr.one [] 6 (Tr.one [] 11 (Tr.leaf [false, false, false, false, false, false, false, false, false, false, false, false, true, true]))) 6 (Tr.one [] 5 (Tr.one [] 11 (Tr.leaf [false, false, false, false, false, false, false, false, false, false, false, false, true, true])))) 6 (Tr.one [] 0 (Tr.one [] 5 (Tr.one [] 11 (Tr.leaf [false, false, false, false, false, false, false, false, false, false, false, false, true, true]))))) (by kernel_rfl) (by kernel_rfl) (by kernel_rfl) c0 ?_
            simp only [wpTr, pickB, List.toList_toArray, List.getElem?_toArray, List.getElem?_cons_succ, List.getElem?_cons_zero, Option.toList_some]
            repeat (go_big_quiet_step (fail))
            refine wpQuiet_nil ?_
            constructor
            · intro K hK
              go_wp2_with fail
              obtain ⟨v1, hv1⟩ : ∃ q, q = (w2.alloc (.cells #[] 3)).drew := ⟨_, rfl⟩
              have hba : Below w2.heap.size w2.drew v1 := by rw [hv1]; exact Below.trans (b := w2) ⟨rfl, rfl, rfl, Nat.le_refl _, fun _ _ => rfl⟩ ((Below.refl w2.heap.size w2).alloc (Nat.le_refl _) _).drew
              have EA1 : Hid (OwnI 3 v1 w2.heap.size (.slice (some ⟨w2.heap.size, 0, none⟩) 0 0) []) := by rw [hv1]; exact cmp_empty _ _ _ _ rfl BB0.out.size
              have BB1 : Hid (Below w2.heap.size w2 v1) := BB0.out.trans (hba.mono BB0.out.size)
              have RD1 := Lib.hid (show _ ∧ _ from ⟨RD0.out.1.below hba (Nat.le_refl _), RD0.out.2.below hba (Nat.le_refl _)⟩)
              have KX1 := Lib.hid (KX0.out.below hba KX0.out.lt)
              rw [← hv1]
              refine hK _ _ KX1.out.c.1 ?_
              clear hK K hv1 hba
              repeat (go_big_quiet_step (fail))
              refine wpQuiet_nil ?_
              constructor
              · intro K hK
                go_wp2_with (at_builtin; refine wpList_appG v1 rfl (.tmp 31) (.tmp 35) 29 rfl w2.heap.size 3 Tryz.underlying29 sll.infoInt _ [] rfl EA1.out _ tk rfl RD1.out.1 HNE.out.1 (by have := HTD.out; simp only [List.length_nil]; omega) BB1.out.size ?_)
                intro va v2 ho hgr
                try rw [List.nil_append] at ho
                have hba : Below w2.heap.size v1 v2 := hgr.below EA1.out BB1.out.size
                have EA2 := Lib.hid ho
                have BB2 : Hid (Below w2.heap.size w2 v2) := BB1.out.trans hba
                have KX2 : Hid (Box 24 v2 w.heap.size N s r) := KX1.out.below hba HXL
                have RD2 := Lib.hid (show _ ∧ _ from ⟨reads_lowB RD1.out.1 hba GL.out, reads_lowB RD1.out.2 hba GL.out⟩)
                clear ho hgr hba
                refine hK _ _ KX2.out.c.1 ?_
                clear hK K
                repeat (go_big_quiet_step (fail))
                refine wpQuiet_nil ?_
                intro K hK
                go_wp2_with fail
                obtain ⟨v3, hv3⟩ : ∃ q, q = v2.alloc (.cells #[] 3) := ⟨_, rfl⟩
                have hba : Below v2.heap.size v2 v3 := by rw [hv3]; exact (Below.refl _ _).alloc (Nat.le_refl _) _
                have EA3 := Lib.hid (EA2.out.below hba (Nat.le_refl _))
                have EB3 : Hid (OwnI 3 v3 w2.heap.size (.slice (some ⟨v2.heap.size, 0, none⟩) 0 0) []) := by rw [hv3]; exact cmp_empty _ _ _ _ rfl BB2.out.size
                have AP3 := Lib.hid (apart_new (n := 0) (c := 0) EA2.out v2.heap.size rfl)
                have BB3 : Hid (Below w2.heap.size w2 v3) := BB2.out.trans (hba.mono BB2.out.size)
                have RD3 := Lib.hid (show _ ∧ _ from ⟨RD2.out.1.below hba (Nat.le_refl _), RD2.out.2.below hba (Nat.le_refl _)⟩)
                have KX3 := Lib.hid (KX2.out.below hba KX2.out.lt)
                rw [← hv3]
                refine hK _ _ KX3.out.c.1 ?_
                clear hK K hv3 hba
                repeat (go_big_quiet_step (fail))
                refine wpQuiet_nil ?_
                intro K hK
                go_wp2_with (at_builtin; refine wpList_appG v3 rfl (.tmp 37) (.tmp 41) 29 rfl w2.heap.size 3 Tryz.underlying29 sll.infoInt _ [] rfl EB3.out _ dk rfl RD3.out.2 HNE.out.2 (by have := HTD.out; simp only [List.length_nil]; omega) BB3.out.size ?_)
                intro vb v4 ho hgr
                try rw [List.nil_append] at ho
                have hba : Below w2.heap.size v3 v4 := hgr.below EB3.out BB3.out.size
                have hk2 := keptG hgr EA3.out AP3.out.symm
                have EA4 := Lib.hid hk2.1
                have AP4 := Lib.hid hk2.2.symm
                clear hk2
                have EB4 := Lib.hid ho
                have BB4 : Hid (Below w2.heap.size w2 v4) := BB3.out.trans hba
                have KX4 : Hid (Box 24 v4 w.heap.size N s r) := KX3.out.below hba HXL
                have RD4 := Lib.hid (show _ ∧ _ from ⟨reads_lowB RD3.out.1 hba GL.out, reads_lowB RD3.out.2 hba GL.out⟩)
                clear ho hgr hba
                refine hK _ _ KX4.out.c.1 ?_
                clear hK K
                repeat (go_big_quiet_step (fail))
                refine wpQuiet_nil ?_
                go_wp2_with fail
                go_meet
                exact ⟨EA4.out, EB4.out, AP4.out, BB4.out⟩
              · intro K hK
                go_wp2_with fail
                obtain ⟨v2, hv2⟩ : ∃ q, q = v1.alloc (.cells #[] 3) := ⟨_, rfl⟩
                have hba : Below v1.heap.size v1 v2 := by rw [hv2]; exact (Below.refl _ _).alloc (Nat.le_refl _) _
                have EA2 := Lib.hid (EA1.out.below hba (Nat.le_refl _))
                have EB2 : Hid (OwnI 3 v2 w2.heap.size (.slice (some ⟨v1.heap.size, 0, none⟩) 0 0) []) := by rw [hv2]; exact cmp_empty _ _ _ _ rfl BB1.out.size
                have AP2 := Lib.hid (apart_new (n := 0) (c := 0) EA1.out v1.heap.size rfl)
                have BB2 : Hid (Below w2.heap.size w2 v2) := BB1.out.trans (hba.mono BB1.out.size)
                have RD2 := Lib.hid (show _ ∧ _ from ⟨RD1.out.1.below hba (Nat.le_refl _), RD1.out.2.below hba (Nat.le_refl _)⟩)
                have KX2 := Lib.hid (KX1.out.below hba KX1.out.lt)
                rw [← hv2]
                refine hK _ _ KX2.out.c.1 ?_
                clear hK K hv2 hba
                repeat (go_big_quiet_step (fail))
                refine wpQuiet_nil ?_
                intro K hK
                go_wp2_with (at_builtin; refine wpList_appG v2 rfl (.tmp 31) (.tmp 35) 29 rfl w2.heap.size 3 Tryz.underlying29 sll.infoInt _ [] rfl EA2.out _ tk rfl RD2.out.1 HNE.out.1 (by have := HTD.out; simp only [List.length_nil]; omega) BB2.out.size ?_)
                intro va v3 ho hgr
                try rw [List.nil_append] at ho
                have hba : Below w2.heap.size v2 v3 := hgr.below EA2.out BB2.out.size
                have hk2 := keptG hgr EB2.out AP2.out
                have EB3 := Lib.hid hk2.1
                have AP3 := Lib.hid hk2.2
                clear hk2
                have EA3 := Lib.hid ho
                have BB3 : Hid (Below w2.heap.size w2 v3) := BB2.out.trans hba
                have KX3 : Hid (Box 24 v3 w.heap.size N s r) := KX2.out.below hba HXL
                have RD3 := Lib.hid (show _ ∧ _ from ⟨reads_lowB RD2.out.1 hba GL.out, reads_lowB RD2.out.2 hba GL.out⟩)
                clear ho hgr hba
                refine hK _ _ KX3.out.c.1 ?_
                clear hK K
                repeat (go_big_quiet_step (fail))
                refine wpQuiet_nil ?_
                intro K hK
                go_wp2_with (at_builtin; refine wpList_appG v3 rfl (.tmp 37) (.tmp 41) 29 rfl w2.heap.size 3 Tryz.underlying29 sll.infoInt _ [] rfl EB3.out _ dk rfl RD3.out.2 HNE.out.2 (by have := HTD.out; simp only [List.length_nil]; omega) BB3.out.size ?_)
                intro vb v4 ho hgr
                try rw [List.nil_append] at ho
                have hba : Below w2.heap.size v3 v4 := hgr.below EB3.out BB3.out.size
                have hk2 := keptG hgr EA3.out AP3.out.symm
                have EA4 := Lib.hid hk2.1
                have AP4 := Lib.hid hk2.2.symm
                clear hk2
                have EB4 := Lib.hid ho
                have BB4 : Hid (Below w2.heap.size w2 v4) := BB3.out.trans hba
                have KX4 : Hid (Box 24 v4 w.heap.size N s r) := KX3.out.below hba HXL
                have RD4 := Lib.hid (show _ ∧ _ from ⟨reads_lowB RD3.out.1 hba GL.out, reads_lowB RD3.out.2 hba GL.out⟩)
                clear ho hgr hba
                refine hK _ _ KX4.out.c.1 ?_
                clear hK K
                repeat (go_big_quiet_step (fail))
                refine wpQuiet_nil ?_
                go_wp2_with fail
                go_meet
                exact ⟨EA4.out, EB4.out, AP4.out, BB4.out⟩
            · intro K hK
              go_wp2_with fail
              obtain ⟨v1, hv1⟩ : ∃ q, q = (w2.alloc (.cells #[] 3)).drew := ⟨_, rfl⟩
              have hba : Below w2.heap.size w2.drew v1 := by rw [hv1]; exact Below.trans (b := w2) ⟨rfl, rfl, rfl, Nat.le_refl _, fun _ _ => rfl⟩ ((Below.refl w2.heap.size w2).alloc (Nat.le_refl _) _).drew
              have EB1 : Hid (OwnI 3 v1 w2.heap.size (.slice (some ⟨w2.heap.size, 0, none⟩) 0 0) []) := by rw [hv1]; exact cmp_empty _ _ _ _ rfl BB0.out.size
              have BB1 : Hid (Below w2.heap.size w2 v1) := BB0.out.trans (hba.mono BB0.out.size)
              have RD1 := Lib.hid (show _ ∧ _ from ⟨RD0.out.1.below hba (Nat.le_refl _), RD0.out.2.below hba (Nat.le_refl _)⟩)
              have KX1 := Lib.hid (KX0.out.below hba KX0.out.lt)
              rw [← hv1]
              refine hK _ _ KX1.out.c.1 ?_
              clear hK K hv1 hba
              repeat (go_big_quiet_step (fail))
              refine wpQuiet_nil ?_
              intro K hK
              go_wp2_with fail
              obtain ⟨v2, hv2⟩ : ∃ q, q = v1.alloc (.cells #[] 3) := ⟨_, rfl⟩
              have hba : Below v1.heap.size v1 v2 := by rw [hv2]; exact (Below.refl _ _).alloc (Nat.le_refl _) _
              have EB2 := Lib.hid (EB1.out.below hba (Nat.le_refl _))
              have EA2 : Hid (OwnI 3 v2 w2.heap.size (.slice (some ⟨v1.heap.size, 0, none⟩) 0 0) []) := by rw [hv2]; exact cmp_empty _ _ _ _ rfl BB1.out.size
              have AP2 := Lib.hid (apart_new (n := 0) (c := 0) EB1.out v1.heap.size rfl).symm
              have BB2 : Hid (Below w2.heap.size w2 v2) := BB1.out.trans (hba.mono BB1.out.size)
              have RD2 := Lib.hid (show _ ∧ _ from ⟨RD1.out.1.below hba (Nat.le_refl _), RD1.out.2.below hba (Nat.le_refl _)⟩)
              have KX2 := Lib.hid (KX1.out.below hba KX1.out.lt)
              rw [← hv2]
              refine hK _ _ KX2.out.c.1 ?_
              clear hK K hv2 hba
              repeat (go_big_quiet_step (fail))
              refine wpQuiet_nil ?_
              intro K hK
              go_wp2_with (at_builtin; refine wpList_appG v2 rfl (.tmp 31) (.tmp 35) 29 rfl w2.heap.size 3 Tryz.underlying29 sll.infoInt _ [] rfl EA2.out _ tk rfl RD2.out.1 HNE.out.1 (by have := HTD.out; simp only [List.length_nil]; omega) BB2.out.size ?_)
              intro va v3 ho hgr
              try rw [List.nil_append] at ho
              have hba : Below w2.heap.size v2 v3 := hgr.below EA2.out BB2.out.size
              have hk2 := keptG hgr EB2.out AP2.out
              have EB3 := Lib.hid hk2.1
              have AP3 := Lib.hid hk2.2
              clear hk2
              have EA3 := Lib.hid ho
              have BB3 : Hid (Below w2.heap.size w2 v3) := BB2.out.trans hba
              have KX3 : Hid (Box 24 v3 w.heap.size N s r) := KX2.out.below hba HXL
              have RD3 := Lib.hid (show _ ∧ _ from ⟨reads_lowB RD2.out.1 hba GL.out, reads_lowB RD2.out.2 hba GL.out⟩)
              clear ho hgr hba
              refine hK _ _ KX3.out.c.1 ?_
              clear hK K
              repeat (go_big_quiet_step (fail))
              refine wpQuiet_nil ?_
              intro K hK
              go_wp2_with (at_builtin; refine wpList_appG v3 rfl (.tmp 37) (.tmp 41) 29 rfl w2.heap.size 3 Tryz.underlying29 sll.infoInt _ [] rfl EB3.out _ dk rfl RD3.out.2 HNE.out.2 (by have := HTD.out; simp only [List.length_nil]; omega) BB3.out.size ?_)
              intro vb v4 ho hgr
              try rw [List.nil_append] at ho
              have hba : Below w2.heap.size v3 v4 := hgr.below EB3.out BB3.out.size
              have hk2 := keptG hgr EA3.out AP3.out.symm
              have EA4 := Lib.hid hk2.1
              have AP4 := Lib.hid hk2.2.symm
              clear hk2
              have EB4 := Lib.hid ho
              have BB4 : Hid (Below w2.heap.size w2 v4) := BB3.out.trans hba
              have KX4 : Hid (Box 24 v4 w.heap.size N s r) := KX3.out.below hba HXL
              have RD4 := Lib.hid (show _ ∧ _ from ⟨reads_lowB RD3.out.1 hba GL.out, reads_lowB RD3.out.2 hba GL.out⟩)
              clear ho hgr hba
              refine hK _ _ KX4.out.c.1 ?_
              clear hK K
              repeat (go_big_quiet_step (fail))
              refine wpQuiet_nil ?_
              go_wp2_with fail
              go_meet
              exact ⟨EA4.out, EB4.out, AP4.out, BB4.out⟩
          case rest =>
            obtain ⟨h1, h2, h3, h4⟩ := hcut
            have SM : Hid (decide (sortI tk = sortI dk) = sameAt ⟨N, s, r⟩ ⟨M, t, q⟩ K) := by
              have e : sameAt ⟨N, s, r⟩ ⟨M, t, q⟩ K = decide (tk.Perm dk) := by rw [HTK.out.1, HTK.out.2, HCC.out]; rfl
              rw [Hid, e]
              exact decide_eq_decide.2 sortI_eq_iff
            have Z := Lib.hid (show _ ∧ _ ∧ _ ∧ _ ∧ _ from ⟨h1, h2, h3, UB0.out.trans (h4.mono (Nat.le_of_lt HXL)), BX2.out.below h4 HXL⟩)
            have ZY := Lib.hid (BY2.out.below h4 BY2.out.lt)
            have hc2 : w2.heap.size ≤ wc.heap.size := h4.size
            clear h1 h2 h3 h4 q0 hne c0
            go_wp2_with fail
            refine (sortI_any _ tk _ w2.heap.size Z.out.1 (by have := HTD.out.1; omega)).mono ?_
            rintro e w4 ⟨rfl, ho, hg⟩
            have hb4 : Below w2.heap.size wc w4 := below_of_grown hg hc2 fun q hq => (World.ownsRow.lt Z.out.1 q hq).1
            have Z4 := Lib.hid (show _ ∧ _ ∧ _ ∧ _ ∧ _ from ⟨ho, Z.out.2.1.keepMark hg Z.out.2.2.1.symm, Z.out.2.2.1, Z.out.2.2.2.1.trans (hb4.mono (Nat.le_of_lt HXL)), Z.out.2.2.2.2.below hb4 HXL⟩)
            have ZY4 := Lib.hid (ZY.out.below hb4 BY2.out.lt)
            have hc4 : w2.heap.size ≤ w4.heap.size := Nat.le_trans hc2 hb4.size
            clear ho hg hb4 Z ZY
            go_wp2_with fail
            refine (sortI_any _ dk _ w2.heap.size Z4.out.2.1 (by have := HTD.out.2; omega)).mono ?_
            rintro e w5 ⟨rfl, ho, hg⟩
            have hb5 : Below w2.heap.size w4 w5 := below_of_grown hg hc4 fun q hq => (World.ownsRow.lt Z4.out.2.1 q hq).1
            have Z5 := Lib.hid (show _ ∧ _ ∧ _ ∧ _ ∧ _ from ⟨Z4.out.1.keepMark hg Z4.out.2.2.1, ho, Z4.out.2.2.1, Z4.out.2.2.2.1.trans (hb5.mono (Nat.le_of_lt HXL)), Z4.out.2.2.2.2.below hb5 HXL⟩)
            have ZY5 := Lib.hid (ZY4.out.below hb5 BY2.out.lt)
            clear ho hg hb5 Z4 ZY4
            have HSN : Hid (sortI tk ≠ [] ∧ sortI dk ≠ []) := ⟨fun e => HNE.out.1 (List.length_eq_zero_iff.1 (by rw [← sortI_len, e]; rfl)), fun e => HNE.out.2 (List.length_eq_zero_iff.1 (by rw [← sortI_len, e]; rfl))⟩
            go_wp2_with fail
            refine (equal_any _ _ (sortI tk) (sortI dk) _ (OwnI.reads Z5.out.1) (OwnI.reads Z5.out.2.1) HSN.out.1 HSN.out.2 (by rw [sortI_len]; have := HTD.out.1; omega) (by rw [sortI_len]; have := HTD.out.2; omega)).mono ?_
            rintro e w6 ⟨rfl, hq6⟩
            have hb6 := Lib.hid (below_drewNx hq6)
            have Z6 := Lib.hid (show _ ∧ _ ∧ _ from ⟨Z5.out.2.2.2.2.below hb6.out Z5.out.2.2.2.2.lt, ZY5.out.below hb6.out ZY5.out.lt, Z5.out.2.2.2.1.trans (hb6.out.mono Z5.out.2.2.2.1.size)⟩)
            clear hq6 hb6 Z5 ZY5
            rw [SM.out]
            cases hsm : sameAt ⟨N, s, r⟩ ⟨M, t, q⟩ K with
            | false =>
              have HR : Hid (roundTo ⟨N, s, r⟩ ⟨M, t, q⟩ (N + M + 1) = (K : Int)) := roundTo_at hsm PR.out (by omega)
              clear hsm
              go_wp2
              go_ret
              exact ⟨by rw [HE.out, HR.out]; rfl, Z6.out.2.2⟩
            | true =>
              have HR : Hid (∀ j, j < K + 1 → sameAt ⟨N, s, r⟩ ⟨M, t, q⟩ j = true) := fun j hj => by
                by_cases e : j = K
                · subst e; exact hsm
                · exact PR.out j (by omega)
              clear hsm
              go_wp2
              go_roundw
              case rel => exact ⟨K + 1, by omega, by go_num, Z6.out.1, Z6.out.2.1, Z6.out.2.2, HR.out⟩
              case measure => simp [intOf]; omega
        · have t1 : decide ((K : Int) ≤ (N : Int) + (M : Int)) = false := by simp; omega
          have HR : Hid (roundTo ⟨N, s, r⟩ ⟨M, t, q⟩ (N + M + 1) = -1) := roundTo_none.2 (HQ3.out.2.2.2 _ (by omega))
          go_wp2
          go_ret
          exact ⟨by rw [HE.out, HR.out]; rfl, HQ3.out.2.2.1⟩

set_option maxHeartbeats 1600000 in
theorem implSameColours_any (n : Int) (s r : ByteArray) (m : Int) (t q : ByteArray) (w : World) (hs : s.size ≤ 9223372036854775807) (hr : r.size ≤ 9223372036854775807) (ht : t.size ≤ 9223372036854775807) (hq : q.size ≤ 9223372036854775807) :
    Calls Tryz.prog 8 #[.agg #[.int .i64 n, .string s, .string r], .agg #[.int .i64 m, .string t, .string q]] w fun e w' => e = .returned (.bool (sameR n s r m t q)) ∧ Below w.heap.size w w' := by
  obtain ⟨W0, hW0⟩ : ∃ W0, W0 = (w.alloc (.cells #[.int .i64 n, .string s, .string r] 24)).alloc (.cells #[.int .i64 m, .string t, .string q] 24) := ⟨_, rfl⟩
  have AW : Hid (Below w.heap.size w W0) := by rw [hW0]; exact ((Below.refl _ _).alloc (Nat.le_refl _) _).alloc (by simp) _
  have HW0 := Lib.hid hW0
  clear hW0
  go_enter Tryz.func8, Tryz.ntmps8
  go_wp2_with fail
  rw [← HW0.out]
  clear HW0
  refine (implColourRound_any n s r m t q _ hs hr ht hq).mono ?_
  rintro e w1 ⟨rfl, hw⟩
  have R := Lib.hid (AW.out.trans (hw.mono AW.out.size))
  have HS := Lib.hid (same_round n s r m t q)
  clear hw AW
  obtain ⟨x, hx⟩ : ∃ x, x = roundR n s r m t q := ⟨_, rfl⟩
  rw [← hx] at HS ⊢
  clear hx
  go_wp2
  go_ret
  exact ⟨by rw [← HS.out]; first | rfl | (congr 2; simp [beq_eq_decide]), R.out⟩
end Go.Proofs.YtpcnoiigbmiejaaGreatDoor.colj

/- The colour functions of both sides, as the exact laws ask for them. -/
namespace Go.Proofs.YtpcnoiigbmiejaaGreatDoor.cole
set_option linter.unusedVariables false
set_option linter.unusedSimpArgs false
open Go.ChangeShapes Go.WideShapes Go.ChangeAt Go.RowKit
open Go.Proofs.YtpcnoiigbmiejaaGreatDoor.lib Go.Proofs.YtpcnoiigbmiejaaGreatDoor.st Go.Proofs.YtpcnoiigbmiejaaGreatDoor.base Go.Proofs.YtpcnoiigbmiejaaGreatDoor.col Go.Proofs.YtpcnoiigbmiejaaGreatDoor.colp Go.Proofs.YtpcnoiigbmiejaaGreatDoor.sll Go.Proofs.YtpcnoiigbmiejaaGreatDoor.both Go.Proofs.YtpcnoiigbmiejaaGreatDoor.specc Go.Proofs.YtpcnoiigbmiejaaGreatDoor.specd Go.Proofs.YtpcnoiigbmiejaaGreatDoor.coli Go.Proofs.YtpcnoiigbmiejaaGreatDoor.colj Go.Proofs.YtpcnoiigbmiejaaGreatDoor.flow

/-- a slice that reads as a list, in a block that is there -/
def RB (w : World) (v : Value) (l : List Int) : Prop := Reads w v l ∧ ∀ k, v.ownBlock = some k → k < w.heap.size
theorem RB.reads {w : World} {v : Value} {l : List Int} (h : RB w v l) : Reads w v l := h.1
theorem RB.below {w w' : World} {C : Nat} {v : Value} {l : List Int} (h : RB w v l) (hb : Below C w w') (hC : w.heap.size ≤ C) : RB w' v l := ⟨h.1.below hb hC, fun k hk => Nat.lt_of_lt_of_le (h.2 k hk) hb.size⟩
theorem RB.keepMark {w w' : World} {v v2 : Value} {l : List Int} (h : RB w v l) (hg : w.grownBy w' v2.ownBlock) (ha : Apart v v2) : RB w' v l :=
  ⟨sll.reads_kept h.1 hg fun k hk e => ha k e hk, fun k hk => Nat.lt_of_lt_of_le (h.2 k hk) hg.size⟩
theorem RB.apart {T : TypeId} {w w' : World} {v v2 : Value} {l l2 : List Int} (h : OwnI T w' w.heap.size v l) (h2 : RB w v2 l2) : Apart v v2 := fun k h1 h3 => by
  have := (World.ownsRow.lt h k h1).1
  have := h2.2 k h3
  omega
theorem both_lens (n : Int) (s r : ByteArray) (m : Int) (t q : ByteArray) (c : Int) : (bothA n s r m t q c).length ≤ 8 ∧ (bothB n s r m t q c).length ≤ 8 := by
  by_cases h : validB n s r = true ∧ validB m t q = true ∧ basic.inB c 0 8 = true
  · obtain ⟨N, rfl, h1, h8, -, -⟩ := valid_size h.1
    obtain ⟨M, rfl, g1, g8, -, -⟩ := valid_size h.2.1
    unfold bothA bothB
    rw [if_pos h, if_pos h, colA_len, colB_len]
    simp only [Int.toNat_natCast]
    omega
  · rw [(both_no h).1, (both_no h).2]; simp
namespace cof
theorem len0 (n : Int) (s r : ByteArray) (c : Int) : s.size + r.size ≤ 1048576 → (colsR n s r c).length ≤ 4194304 := fun _ => by have := colsR_len n s r c; omega
end cof
namespace cnt
theorem len0 (n : Int) (s r : ByteArray) (c : Int) : s.size + r.size ≤ 1048576 → (countsR n s r c).length ≤ 4194304 := fun _ => by
  have := colsR_most n s r c
  unfold countsR counts
  rw [List.length_map, List.length_range]; omega
end cnt
namespace stb
theorem len0 (n : Int) (s r : ByteArray) : s.size + r.size ≤ 1048576 → (stableL n s r).length ≤ 4194304 := fun _ => by have := stable_len n s r; omega
end stb
namespace bth
theorem len0 (n : Int) (s r : ByteArray) (m : Int) (t q : ByteArray) (c : Int) : s.size + r.size + (t.size + q.size) ≤ 1048576 → (bothA n s r m t q c).length ≤ 4194304 := fun _ => by have := both_lens n s r m t q c; omega
theorem len1 (n : Int) (s r : ByteArray) (m : Int) (t q : ByteArray) (c : Int) : s.size + r.size + (t.size + q.size) ≤ 1048576 → (bothB n s r m t q c).length ≤ 4194304 := fun _ => by have := both_lens n s r m t q c; omega
end bth
namespace sam
end sam
namespace rnd
end rnd
end Go.Proofs.YtpcnoiigbmiejaaGreatDoor.cole

/- What two variables say is the same of two structures with the same colours. No program in sight. -/
namespace Go.Proofs.YtpcnoiigbmiejaaGreatDoor.twop
set_option linter.unusedVariables false
set_option linter.unusedSimpArgs false
open Go.Proofs.YtpcnoiigbmiejaaGreatDoor.lib Go.Proofs.YtpcnoiigbmiejaaGreatDoor.base Go.Proofs.YtpcnoiigbmiejaaGreatDoor.col Go.Proofs.YtpcnoiigbmiejaaGreatDoor.colp Go.Proofs.YtpcnoiigbmiejaaGreatDoor.both Go.Proofs.YtpcnoiigbmiejaaGreatDoor.specd Go.Proofs.YtpcnoiigbmiejaaGreatDoor.coli Go.Proofs.YtpcnoiigbmiejaaGreatDoor.colj Go.Proofs.YtpcnoiigbmiejaaGreatDoor.cole Go.Proofs.YtpcnoiigbmiejaaGreatDoor.colq Go.Proofs.YtpcnoiigbmiejaaGreatDoor.less Go.Proofs.YtpcnoiigbmiejaaGreatDoor.peb Go.Proofs.YtpcnoiigbmiejaaGreatDoor.game Go.Proofs.YtpcnoiigbmiejaaGreatDoor.fm Go.Proofs.YtpcnoiigbmiejaaGreatDoor.fmq Go.Proofs.YtpcnoiigbmiejaaGreatDoor.sat

theorem at_txt {f : ByteArray} {k e : Nat} {a : Fm} (h : At f k a e) : f.data.toList.drop k = a.txt ++ f.data.toList.drop e := (read_sound h.2).2.1
theorem cols_end {As : List St} (h : 0 < total As) {k : Nat} (hk : total As ≤ k) : cols As k = cols As (total As) := by
  have hx : ∃ j, j < total As ∧ most (cols As j) = most (cols As (j + 1)) := by
    refine Classical.byContradiction fun hn => ?_
    have a := most_grow h (total As) fun j hj e => hn ⟨j, hj, e⟩
    have b := cols_most_le As (total As)
    omega
  obtain ⟨j, hj, e⟩ := hx
  have st := cols_stay (cols_stop h e)
  have e1 := st (k - j)
  have e2 := st (total As - j)
  rw [show j + (k - j) = k by omega] at e1
  rw [show j + (total As - j) = total As by omega] at e2
  rw [e1, e2]
/-- the same colours: the second player never loses the counting game with two pebbles -/
theorem fact {N M : Nat} {s r t q : ByteArray} (h1 : validB N s r = true) (h2 : validB M t q = true) (hs : sameR N s r M t q = true) : ∀ k, Cw (gob.gr N s r) (gob.gr M t q) k [0, 0] [0, 0] := by
  have hn := (validB_iff.1 h1).1
  have e : sameR N s r M t q = sameAt ⟨N, s, r⟩ ⟨M, t, q⟩ (N + M) := by unfold sameR; rw [h1, h2]; rfl
  have ht : 0 < total [(⟨N, s, r⟩ : St), ⟨M, t, q⟩] := by simp [total]; omega
  rw [e] at hs
  refine (same_iff (a := ⟨N, s, r⟩) (b := ⟨M, t, q⟩)).1 fun k => ?_
  have htot : total [(⟨N, s, r⟩ : St), ⟨M, t, q⟩] = N + M := by simp [total]
  rcases Nat.le_total k (N + M) with z | z
  · exact sameAt_down z hs
  · have e1 := cols_end ht (k := k) (by omega)
    have e2 := cols_end ht (k := N + M) (by omega)
    unfold sameAt at hs ⊢
    rw [e1]
    rw [e2] at hs
    exact hs
theorem same_valid {n m : Int} {s r t q : ByteArray} (h : sameR n s r m t q = true) : validB n s r = true ∧ validB m t q = true := by
  unfold sameR at h
  rw [Bool.and_eq_true, Bool.and_eq_true] at h
  exact ⟨h.1, h.2.1⟩
theorem size_same {A B : Gr} (h : Cw A B 1 [0, 0] [0, 0]) : A.n = B.n := by
  obtain ⟨f, g, hb, -⟩ := h.2 0 (by simp)
  have := count_keys (K := fun _ => true) (L := fun _ => true) hb fun _ _ => rfl
  simpa using this
theorem at_one {f : ByteArray} {a b : Fm} (ha : At f 0 a f.size) (hb : At f 0 b f.size) : a = b := by
  have h := ha.2.symm.trans hb.2
  simp only [Option.some.injEq, Prod.mk.injEq] at h
  exact h.1
/-- the law in plain words -/
theorem two_law {N M : Nat} {s r t q f : ByteArray} (h : sameR N s r M t q = true) {a b : Fm} (ha : At f 0 a f.size) (hfr : a.free = 0) (hb : At f 0 b f.size) (hl : ∀ i (hi : i < f.size), f[i].toNat ≠ 99 ∧ f[i].toNat ≠ 100) :
    sat (gob.gr N s r) a (fun _ => 0) = sat (gob.gr M t q) b fun _ => 0 := by
  obtain rfl := at_one ha hb
  obtain ⟨v1, v2⟩ := same_valid h
  have hC := fact v1 v2 h
  have ht := at_txt ha
  rw [List.drop_zero] at ht
  have h2 : only2 a := only_txt ha.ok fun c hc => by
    have hm : c ∈ f.data.toList := by rw [ht]; exact List.mem_append_left _ hc
    obtain ⟨i, hi, rfl⟩ := List.getElem_of_mem hm
    have hi' : i < f.size := by simpa using hi
    have := hl i hi'
    have e : f.data.toList[i] = f[i] := by simp; rfl
    rw [e]
    exact ⟨fun h => this.1 (by rw [h]; rfl), fun h => this.2 (by rw [h]; rfl)⟩
  refine two_vars ha.ok h2 (Nat.le_refl _) (ps := [0, 0]) (bs := [0, 0]) rfl (hC _) (size_same (hC 1)) fun u hu hb => ?_
  rw [hfr] at hb
  simp at hb
end Go.Proofs.YtpcnoiigbmiejaaGreatDoor.twop
