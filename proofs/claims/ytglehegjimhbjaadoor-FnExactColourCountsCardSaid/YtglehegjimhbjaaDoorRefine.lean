/- l8Refine of the reference: a round more of two structures. -/
import Derived.Test.YtglehegjimhbjaaDoorDesc
import Derived.Test.YtglehegjimhbjaaDoorNum
namespace Go.Proofs.YtglehegjimhbjaaDoor.refine
set_option linter.unusedVariables false
set_option linter.unusedSimpArgs false
open Go.ChangeShapes Go.WideShapes Go.ChangeAt Go.RowKit
open Go.Proofs.YtglehegjimhbjaaDoor.lib Go.Proofs.YtglehegjimhbjaaDoor.st Go.Proofs.YtglehegjimhbjaaDoor.base Go.Proofs.YtglehegjimhbjaaDoor.col Go.Proofs.YtglehegjimhbjaaDoor.colp Go.Proofs.YtglehegjimhbjaaDoor.sll Go.Proofs.YtglehegjimhbjaaDoor.kind Go.Proofs.YtglehegjimhbjaaDoor.srt Go.Proofs.YtglehegjimhbjaaDoor.descr Go.Proofs.YtglehegjimhbjaaDoor.numb

/-- an element's description: the first one, or by colours -/
def dsc (a : St) (first : Bool) (c : List Int) (x : Nat) : List Int := if first then d0 a x else desc a c x
theorem dsc_ne (a : St) (f : Bool) (c : List Int) (x : Nat) : dsc a f c x ≠ [] := by
  unfold dsc
  cases f
  · rw [if_neg (by simp)]; unfold desc descTo; simp
  · rw [if_pos rfl]; unfold d0; simp
theorem dsc_len (a : St) (f : Bool) (c : List Int) (x : Nat) (h : a.n ≤ 8) : (dsc a f c x).length ≤ 1000 := by
  unfold dsc
  cases f
  · rw [if_neg (by simp)]
    have := descTo_len a c x 4
    unfold desc; omega
  · rw [if_pos rfl]; unfold d0; simp
/-- the rows of the first k elements -/
def drow (a : St) (f : Bool) (c : List Int) (k : Nat) : List (List Int) := (List.range k).map (dsc a f c)
theorem drow_len (a : St) (f : Bool) (c : List Int) (k : Nat) : (drow a f c k).length = k := by simp [drow]
theorem drow_succ (a : St) (f : Bool) (c : List Int) (k : Nat) : drow a f c (k + 1) = drow a f c k ++ [dsc a f c k] := by simp [drow, List.range_succ]
theorem drow_short (a b : St) (f : Bool) (c d : List Int) (ha : a.n ≤ 8) (hb : b.n ≤ 8) : Short (drow a f c a.n ++ drow b f d b.n) := by
  refine ⟨by rw [List.length_append, drow_len, drow_len]; omega, fun l hl => ?_⟩
  rcases List.mem_append.1 hl with h | h
  · obtain ⟨x, _, rfl⟩ := List.mem_map.1 h; exact ⟨dsc_ne _ _ _ _, dsc_len _ _ _ _ ha⟩
  · obtain ⟨x, _, rfl⟩ := List.mem_map.1 h; exact ⟨dsc_ne _ _ _ _, dsc_len _ _ _ _ hb⟩
theorem first_own {N : Nat} {s r : ByteArray} {x : Nat} {w : World} {f : Bool} {c : List Int} (hf : f = true) (hx : x < N) (hn : N ≤ 8) (hs : s.size = N) (hr : r.size = N * N) :
    Calls Tryd.prog 47 #[.agg #[.int .i64 N, .string s, .string r], .int .i64 x] w fun e w' => ∃ g cap, e = .returned (.slice (some ⟨g, 0, none⟩) (dsc ⟨N, s, r⟩ f c x).length cap) ∧ OwnI 3 w' w.heap.size (.slice (some ⟨g, 0, none⟩) (dsc ⟨N, s, r⟩ f c x).length cap) (dsc ⟨N, s, r⟩ f c x) ∧ Below w.heap.size w w' := by
  refine (l8First_any N s r x w hx hn hs hr).mono ?_
  rintro e w' ⟨v, rfl, ho, hb⟩
  have e0 : dsc ⟨N, s, r⟩ f c x = d0 ⟨N, s, r⟩ x := by unfold dsc; rw [hf]; rfl
  rw [e0]
  rcases ho.shape with ⟨_, h0⟩ | ⟨g, cap, rfl⟩
  · simp [d0] at h0
  · exact ⟨g, cap, rfl, ho, hb⟩
theorem desc_own {N : Nat} {s r : ByteArray} {v : Value} {x : Nat} {w : World} {f : Bool} {c : List Int} (hf : f = false) (hx : x < N) (hn : N ≤ 8) (hr : r.size = N * N) (hv : Reads w v c) (hc : c.length = N) :
    Calls Tryd.prog 48 #[.agg #[.int .i64 N, .string s, .string r], v, .int .i64 x] w fun e w' => ∃ g cap, e = .returned (.slice (some ⟨g, 0, none⟩) (dsc ⟨N, s, r⟩ f c x).length cap) ∧ OwnI 3 w' w.heap.size (.slice (some ⟨g, 0, none⟩) (dsc ⟨N, s, r⟩ f c x).length cap) (dsc ⟨N, s, r⟩ f c x) ∧ Below w.heap.size w w' := by
  refine (l8Describe_any N s r c v x w hx hn hr hv hc).mono ?_
  rintro e w' ⟨v0, rfl, ho, hb⟩
  have e0 : dsc ⟨N, s, r⟩ f c x = desc ⟨N, s, r⟩ c x := by unfold dsc; rw [hf]; rfl
  rw [e0]
  rcases ho.shape with ⟨_, h0⟩ | ⟨g, cap, rfl⟩
  · simp [desc, descTo] at h0
  · exact ⟨g, cap, rfl, ho, hb⟩

set_option maxHeartbeats 6400000 in
set_option maxRecDepth 100000 in
theorem l8Refine_any (N : Nat) (s r : ByteArray) (M : Nat) (t q : ByteArray) (ca cb : List Int) (va vb : Value) (w : World) (hN1 : 1 ≤ N) (hN : N ≤ 8) (hs : s.size = N) (hr : r.size = N * N) (hM1 : 1 ≤ M) (hM : M ≤ 8) (ht : t.size = M) (hq : q.size = M * M)
    (hva : Reads w va ca) (hvb : Reads w vb cb) (hc : ca = [] ∨ (ca.length = N ∧ cb.length = M)) :
    Calls Tryd.prog 38 #[.agg #[.int .i64 N, .string s, .string r], va, .agg #[.int .i64 M, .string t, .string q], vb] w fun e w' => ∃ v1 v2, e = .returned (.tuple #[v1, v2]) ∧
      Reads w' v1 ((nums (drow ⟨N, s, r⟩ ca.isEmpty ca N ++ drow ⟨M, t, q⟩ ca.isEmpty cb M)).take N) ∧ Reads w' v2 ((nums (drow ⟨N, s, r⟩ ca.isEmpty ca N ++ drow ⟨M, t, q⟩ ca.isEmpty cb M)).drop N) ∧ OwnI 3 w' w.heap.size v1 ((nums (drow ⟨N, s, r⟩ ca.isEmpty ca N ++ drow ⟨M, t, q⟩ ca.isEmpty cb M)).take N) ∧ Below w.heap.size w w' := by
  obtain ⟨ao, cap, rfl⟩ := hva.len
  obtain ⟨f, hf⟩ : ∃ f, f = ca.isEmpty := ⟨_, rfl⟩
  rw [← hf]
  obtain ⟨W0, hW0⟩ : ∃ W0, W0 = (w.alloc (.cells #[.int .i64 N, .string s, .string r] 28)).alloc (.cells #[.int .i64 M, .string t, .string q] 28) := ⟨_, rfl⟩
  have BA : Hid (Box 28 W0 w.heap.size N s r) := by rw [hW0]; exact (Box.new 28 w w.heap.size rfl N s r).below ((Below.refl (w.heap.size + 1) _).alloc (by simp) _) (by omega)
  have BB : Hid (Box 28 W0 (w.heap.size + 1) M t q) := by rw [hW0]; exact Box.new 28 _ (w.heap.size + 1) (by simp) M t q
  have AW : Hid (Below w.heap.size w W0) := by rw [hW0]; exact ((Below.refl _ _).alloc (Nat.le_refl _) _).alloc (by simp) _
  have Z0 : Hid (W0.heap.size = w.heap.size + 2) := by rw [Hid, hW0]; simp
  have A1 : Hid (Below W0.heap.size W0 (W0.alloc (.cells #[] 25))) := (Below.refl _ _).alloc (Nat.le_refl _) _
  have START : Hid (OwnL (W0.alloc (.cells #[] 25)) W0.heap.size (.slice (some ⟨W0.heap.size, 0, none⟩) 0 0) (drow ⟨N, s, r⟩ f ca 0) ∧ Below W0.heap.size W0 (W0.alloc (.cells #[] 25))) := ⟨OwnL.empty _ _ _ rfl (Nat.le_refl _), A1.out⟩
  obtain ⟨na, hna⟩ : ∃ na, na = ca.length := ⟨_, rfl⟩
  rw [← hna] at hva ⊢
  have tf : ((na : Int) == 0) = f := by
    rw [hf, hna]
    cases ca with
    | nil => rfl
    | cons a l => simp; omega
  have HW0 := Lib.hid hW0
  have HR := Lib.hid (show _ ∧ _ ∧ _ ∧ _ ∧ _ ∧ _ from ⟨hva, hvb, hs, hr, ht, hq⟩)
  have HC : Hid (f = false → ca.length = N ∧ cb.length = M) := fun h => by
    rcases hc with h1 | h1
    · rw [h1] at hf; rw [hf] at h; cases h
    · exact h1
  have HTF := Lib.hid tf
  obtain ⟨HB, hHB⟩ : ∃ HB, HB = w.heap.size + 1 + 1 := ⟨_, rfl⟩
  have hwB : w.heap.size + 1 < HB := by omega
  have HHB := Lib.hid hHB
  rw [show W0.heap.size = HB from by rw [hHB]; exact Z0.out] at START
  clear hva hvb hs hr ht hq hc hf hna hW0 A1 hHB tf
  cases f
  · have tf : ((na : Int) == 0) = false := HTF.out
    go_enter Tryd.func38, Tryd.ntmps38
    go_wp2_with fail
    rw [← HW0.out, ← HHB.out]
    go_loopw [10, 11] (fun u i wr => ∃ (x g cp : Nat), x ≤ N ∧ i = .int .i64 x ∧ u = .slice (some ⟨g, 0, none⟩) x cp ∧ OwnL wr HB u (drow ⟨N, s, r⟩ false ca x) ∧ Below HB W0 wr) (fun _ i _ => N - (intOf i).toNat)
    case atStart => exact ⟨0, HB, 0, Nat.zero_le _, rfl, rfl, START.out⟩
    case round =>
      clear START
      obtain ⟨x, g, cp, hx, rfl, rfl, q1, q2⟩ := hrel
      have HQ := Lib.hid (show _ ∧ _ from ⟨q1, q2⟩)
      clear q1 q2
      have hBw : HB ≤ wr.heap.size := by
        rcases HQ.out.1.len with ⟨h, _⟩ | ⟨_, _, _, h1, h2⟩
        · cases h
        · omega
      obtain ⟨a0, a1, a2⟩ := (BA.out.below HQ.out.2 (by omega)).c
      by_cases hxN : x < N
      · go_wp2_with fail
        refine (desc_own (f := false) (c := ca) rfl hxN hN HR.out.2.2.2.1 (HR.out.1.below (AW.out.trans (HQ.out.2.mono (by omega))) (Nat.le_refl _)) (HC.out (by simp)).1).mono ?_
        rintro e w2 ⟨g2, cap2, rfl, ho, hb⟩
        obtain ⟨d, hd⟩ : ∃ d, d = dsc ⟨N, s, r⟩ false ca x := ⟨_, rfl⟩
        rw [← hd] at ho ⊢
        have hdl : d.length ≤ 1000 := by rw [hd]; exact dsc_len _ _ _ _ (by assumption)
        have hdn : d ≠ [] := by rw [hd]; exact dsc_ne _ _ _ _
        have HN : Hid (drow ⟨N, s, r⟩ false ca (x + 1) = drow ⟨N, s, r⟩ false ca x ++ [d]) := by rw [Hid, hd]; exact drow_succ _ _ _ _
        obtain ⟨us, hul, hrow, hus⟩ := (HQ.out.1.below hb (Nat.le_refl _)).row
        have hum : us.length = x := by rw [hul]; exact drow_len _ _ _ _
        rw [hum] at hrow
        have HO := Lib.hid (show _ ∧ _ ∧ _ ∧ _ ∧ _ ∧ _ ∧ _ ∧ _ from ⟨ho, hul, hus, hum, hrow, hdn, HQ.out.2.trans (hb.mono hBw), hb.size⟩)
        have hgl : g < wr.heap.size := by
          rcases HQ.out.1.len with ⟨h, _⟩ | ⟨_, _, h0, h1, h2⟩
          · cases h
          · simp only [Value.slice.injEq, Option.some.injEq, Addr.mk.injEq] at h0; omega
        obtain ⟨dl, hdll⟩ : ∃ dl, dl = d.length := ⟨_, rfl⟩
        rw [← hdll] at HO ⊢
        have HDL := Lib.hid hdll
        clear ho hb hd hul hrow hus hum hdn hdll hdl a0 a1 a2
        go_wp2_with (at_builtin; refine wpList_app1 w2 rfl (.tmp 30) (.tmp 35) 51 rfl HB 25 (.slice none 0 0) 24 Tryd.underlying51 infoSl rfl (by decide) _ _ _ (.slice (some ⟨g2, 0, none⟩) dl cap2) rfl HO.out.2.2.2.2.1 w2.heap.size rfl rfl rfl (by have := HO.out.2.2.2.1; omega) (Nat.le_trans hBw HO.out.2.2.2.2.2.2.2) ?_)
        intro g' cap' w9 hown9 hgr
        have R : Hid (OwnL w9 HB (.slice (some ⟨g', 0, none⟩) (x + 1) cap') (drow ⟨N, s, r⟩ false ca (x + 1)) ∧ Below HB W0 w9) := by
          obtain ⟨h1, h2, h3, h4, h5, h6, h7, h8⟩ := HO.out
          have h9 := hgr.below h5 (Nat.le_trans hBw h8)
          refine ⟨?_, h7.trans h9⟩
          rw [HN.out]
          refine own_push' h4 h2 h3 h1.reads h6 (fun q hq e => ?_) hown9 hgr
          simp [Value.ownBlock] at hq e
          have := h1.ge
          omega
        clear hown9 hgr HO
        go_wp2
        go_roundw
        case rel => exact ⟨x + 1, g', cap', by omega, by go_num, by congr 1, R.out⟩
        case measure => simp [intOf]; omega
      · obtain rfl : N = x := by omega
        have ST2 : Hid (OwnL wr HB (.slice (some ⟨g, 0, none⟩) N cp) (drow ⟨N, s, r⟩ false ca N ++ drow ⟨M, t, q⟩ false cb 0) ∧ Below HB W0 wr) := ⟨by rw [show drow ⟨M, t, q⟩ false cb 0 = [] from rfl, List.append_nil]; exact HQ.out.1, HQ.out.2⟩
        go_wp2_with fail
        clear a0 a1 a2
        go_loopw [10, 12] (fun u i wr => ∃ (y g cp : Nat), y ≤ M ∧ i = .int .i64 y ∧ u = .slice (some ⟨g, 0, none⟩) (N + y) cp ∧ OwnL wr HB u (drow ⟨N, s, r⟩ false ca N ++ drow ⟨M, t, q⟩ false cb y) ∧ Below HB W0 wr) (fun _ i _ => M - (intOf i).toNat)
        case atStart => exact ⟨0, g, cp, Nat.zero_le _, rfl, rfl, ST2.out⟩
        case round =>
          clear ST2 HQ
          obtain ⟨y, g, cp, hy, rfl, rfl, q1, q2⟩ := hrel
          have HQ := Lib.hid (show _ ∧ _ from ⟨q1, q2⟩)
          clear q1 q2
          have hBw : HB ≤ wr.heap.size := by
            rcases HQ.out.1.len with ⟨h, _⟩ | ⟨_, _, _, h1, h2⟩
            · cases h
            · omega
          obtain ⟨a0, a1, a2⟩ := (BB.out.below HQ.out.2 (by omega)).c
          by_cases hyM : y < M
          · go_wp2_with fail
            refine (desc_own (f := false) (c := cb) rfl hyM hM HR.out.2.2.2.2.2 (HR.out.2.1.below (AW.out.trans (HQ.out.2.mono (by omega))) (Nat.le_refl _)) (HC.out (by simp)).2).mono ?_
            rintro e w2 ⟨g2, cap2, rfl, ho, hb⟩
            obtain ⟨d, hd⟩ : ∃ d, d = dsc ⟨M, t, q⟩ false cb y := ⟨_, rfl⟩
            rw [← hd] at ho ⊢
            have hdl : d.length ≤ 1000 := by rw [hd]; exact dsc_len _ _ _ _ (by assumption)
            have hdn : d ≠ [] := by rw [hd]; exact dsc_ne _ _ _ _
            have HN : Hid (drow ⟨N, s, r⟩ false ca N ++ drow ⟨M, t, q⟩ false cb (y + 1) = (drow ⟨N, s, r⟩ false ca N ++ drow ⟨M, t, q⟩ false cb y) ++ [d]) := by rw [Hid, hd]; exact by rw [drow_succ, List.append_assoc]
            obtain ⟨us, hul, hrow, hus⟩ := (HQ.out.1.below hb (Nat.le_refl _)).row
            have hum : us.length = (N + y) := by rw [hul]; exact by rw [List.length_append, drow_len, drow_len]
            rw [hum] at hrow
            have HO := Lib.hid (show _ ∧ _ ∧ _ ∧ _ ∧ _ ∧ _ ∧ _ ∧ _ from ⟨ho, hul, hus, hum, hrow, hdn, HQ.out.2.trans (hb.mono hBw), hb.size⟩)
            have hgl : g < wr.heap.size := by
              rcases HQ.out.1.len with ⟨h, _⟩ | ⟨_, _, h0, h1, h2⟩
              · cases h
              · simp only [Value.slice.injEq, Option.some.injEq, Addr.mk.injEq] at h0; omega
            obtain ⟨dl, hdll⟩ : ∃ dl, dl = d.length := ⟨_, rfl⟩
            rw [← hdll] at HO ⊢
            have HDL := Lib.hid hdll
            clear ho hb hd hul hrow hus hum hdn hdll hdl a0 a1 a2
            go_wp2_with (at_builtin; refine wpList_app1 w2 rfl (.tmp 52) (.tmp 57) 51 rfl HB 25 (.slice none 0 0) 24 Tryd.underlying51 infoSl rfl (by decide) _ _ _ (.slice (some ⟨g2, 0, none⟩) dl cap2) rfl HO.out.2.2.2.2.1 w2.heap.size rfl rfl rfl (by have := HO.out.2.2.2.1; omega) (Nat.le_trans hBw HO.out.2.2.2.2.2.2.2) ?_)
            intro g' cap' w9 hown9 hgr
            have R : Hid (OwnL w9 HB (.slice (some ⟨g', 0, none⟩) ((N + y) + 1) cap') (drow ⟨N, s, r⟩ false ca N ++ drow ⟨M, t, q⟩ false cb (y + 1)) ∧ Below HB W0 w9) := by
              obtain ⟨h1, h2, h3, h4, h5, h6, h7, h8⟩ := HO.out
              have h9 := hgr.below h5 (Nat.le_trans hBw h8)
              refine ⟨?_, h7.trans h9⟩
              rw [HN.out]
              refine own_push' h4 h2 h3 h1.reads h6 (fun q hq e => ?_) hown9 hgr
              simp [Value.ownBlock] at hq e
              have := h1.ge
              omega
            clear hown9 hgr HO
            go_wp2
            go_roundw
            case rel => exact ⟨y + 1, g', cap', by omega, by go_num, by congr 1, R.out⟩
            case measure => simp [intOf]; omega
          · obtain rfl : M = y := by omega
            have HSH := Lib.hid (drow_short ⟨N, s, r⟩ ⟨M, t, q⟩ false ca cb hN hM)
            have HLEN : Hid ((nums (drow ⟨N, s, r⟩ false ca N ++ drow ⟨M, t, q⟩ false cb M)).length = N + M) := by rw [Hid, nums_len, List.length_append, drow_len, drow_len]
            go_wp2_with fail
            clear a0 a1 a2
            refine (l8Numbers_any _ _ _ HQ.out.1.rows HSH.out).mono ?_
            rintro e w3 ⟨v0, rfl, ho, hb⟩
            have ho2 : OwnI 3 w3 wr.heap.size v0 (nums (drow ⟨N, s, r⟩ false ca N ++ drow ⟨M, t, q⟩ false cb M)) := ho
            rcases ho2.shape with ⟨_, h0⟩ | ⟨g0, cap0, rfl⟩
            · have := HLEN.out; rw [h0] at this; simp at this; omega
            have hcap : N + M ≤ cap0 ∧ cap0 ≤ 9223372036854775807 := by
              have hle := HLEN.out
              rcases ho2.2 with ⟨h', _⟩ | ⟨g', cap', cur, h', hb, hh, hnc, hcm, _⟩
              · simp at h'
              · simp only [Value.slice.injEq] at h'
                obtain ⟨_, hx, rfl⟩ := h'
                exact ⟨by omega, hcm⟩
            obtain ⟨out, hout⟩ : ∃ o, o = nums (drow ⟨N, s, r⟩ false ca N ++ drow ⟨M, t, q⟩ false cb M) := ⟨_, rfl⟩
            rw [← hout] at ho2 HLEN ⊢
            rw [HLEN.out] at ho2 ⊢
            have HOUT := Lib.hid hout
            clear hout
            have HO := Lib.hid (show _ ∧ _ from ⟨ho2, HQ.out.2.trans (hb.mono hBw)⟩)
            obtain ⟨a0, a1, a2⟩ := (BA.out.below HO.out.2 (by omega)).c
            clear ho ho2 hb HQ
            have hNc : N < cap0 := by omega
            go_wp2_with fail
            go_region
            go_wp2
            have RD1 : Reads w3 (.slice (some ⟨g0, 0, none⟩) N cap0) (out.take N) ∧ Reads w3 (.slice (some ⟨g0, N, none⟩) M (cap0 - N)) (out.drop N) := by
              have hlk : (out.take N).length = N := by simp; have := HLEN.out; omega
              have hld : (out.drop N).length = M := by simp; have := HLEN.out; omega
              have hml := HLEN.out
              refine ⟨⟨some ⟨g0, 0, none⟩, cap0, by rw [hlk], .inr ⟨g0, 0, rfl, fun i hi => ?_⟩, fun h => by cases h⟩, ⟨some ⟨g0, N, none⟩, cap0 - N, by rw [hld], .inr ⟨g0, N, rfl, fun i hi => ?_⟩, fun h => by cases h⟩⟩
              · have := HO.out.1.cell i (by omega)
                rw [Nat.zero_add, this]
                simp [List.getD_eq_getElem?_getD, List.getElem?_take, show i < N by omega]
              · have := HO.out.1.cell (N + i) (by omega)
                rw [this]
                simp [List.getD_eq_getElem?_getD, List.getElem?_drop]
            have OT := ownI_take (m := N) HO.out.1 (by omega)
            have AA : Hid (Below w.heap.size w w3.drew) := (AW.out.trans (HO.out.2.mono (by omega))).drew
            have DD : Below w3.heap.size w3 w3.drew := (Below.refl _ _).drew
            have RES := Lib.hid (show _ ∧ _ ∧ _ from ⟨RD1.1.below DD (Nat.le_refl _), RD1.2.below DD (Nat.le_refl _), (OT.below DD (Nat.le_refl _)).mono (show w.heap.size ≤ wr.heap.size by omega)⟩)
            clear RD1 OT DD a0 a1 a2
            rw [HOUT.out] at RES
            go_ret2
            exact ⟨_, _, rfl, RES.out.1, RES.out.2.1, RES.out.2.2, AA.out⟩
  · have tf : ((na : Int) == 0) = true := HTF.out
    go_enter Tryd.func38, Tryd.ntmps38
    go_wp2_with fail
    rw [← HW0.out, ← HHB.out]
    go_loopw [10, 11] (fun u i wr => ∃ (x g cp : Nat), x ≤ N ∧ i = .int .i64 x ∧ u = .slice (some ⟨g, 0, none⟩) x cp ∧ OwnL wr HB u (drow ⟨N, s, r⟩ true ca x) ∧ Below HB W0 wr) (fun _ i _ => N - (intOf i).toNat)
    case atStart => exact ⟨0, HB, 0, Nat.zero_le _, rfl, rfl, START.out⟩
    case round =>
      clear START
      obtain ⟨x, g, cp, hx, rfl, rfl, q1, q2⟩ := hrel
      have HQ := Lib.hid (show _ ∧ _ from ⟨q1, q2⟩)
      clear q1 q2
      have hBw : HB ≤ wr.heap.size := by
        rcases HQ.out.1.len with ⟨h, _⟩ | ⟨_, _, _, h1, h2⟩
        · cases h
        · omega
      obtain ⟨a0, a1, a2⟩ := (BA.out.below HQ.out.2 (by omega)).c
      by_cases hxN : x < N
      · go_wp2_with fail
        refine (first_own (f := true) (c := ca) rfl hxN hN HR.out.2.2.1 HR.out.2.2.2.1).mono ?_
        rintro e w2 ⟨g2, cap2, rfl, ho, hb⟩
        obtain ⟨d, hd⟩ : ∃ d, d = dsc ⟨N, s, r⟩ true ca x := ⟨_, rfl⟩
        rw [← hd] at ho ⊢
        have hdl : d.length ≤ 1000 := by rw [hd]; exact dsc_len _ _ _ _ (by assumption)
        have hdn : d ≠ [] := by rw [hd]; exact dsc_ne _ _ _ _
        have HN : Hid (drow ⟨N, s, r⟩ true ca (x + 1) = drow ⟨N, s, r⟩ true ca x ++ [d]) := by rw [Hid, hd]; exact drow_succ _ _ _ _
        obtain ⟨us, hul, hrow, hus⟩ := (HQ.out.1.below hb (Nat.le_refl _)).row
        have hum : us.length = x := by rw [hul]; exact drow_len _ _ _ _
        rw [hum] at hrow
        have HO := Lib.hid (show _ ∧ _ ∧ _ ∧ _ ∧ _ ∧ _ ∧ _ ∧ _ from ⟨ho, hul, hus, hum, hrow, hdn, HQ.out.2.trans (hb.mono hBw), hb.size⟩)
        have hgl : g < wr.heap.size := by
          rcases HQ.out.1.len with ⟨h, _⟩ | ⟨_, _, h0, h1, h2⟩
          · cases h
          · simp only [Value.slice.injEq, Option.some.injEq, Addr.mk.injEq] at h0; omega
        obtain ⟨dl, hdll⟩ : ∃ dl, dl = d.length := ⟨_, rfl⟩
        rw [← hdll] at HO ⊢
        have HDL := Lib.hid hdll
        clear ho hb hd hul hrow hus hum hdn hdll hdl a0 a1 a2
        go_wp2_with (at_builtin; refine wpList_app1 w2 rfl (.tmp 24) (.tmp 28) 51 rfl HB 25 (.slice none 0 0) 24 Tryd.underlying51 infoSl rfl (by decide) _ _ _ (.slice (some ⟨g2, 0, none⟩) dl cap2) rfl HO.out.2.2.2.2.1 w2.heap.size rfl rfl rfl (by have := HO.out.2.2.2.1; omega) (Nat.le_trans hBw HO.out.2.2.2.2.2.2.2) ?_)
        intro g' cap' w9 hown9 hgr
        have R : Hid (OwnL w9 HB (.slice (some ⟨g', 0, none⟩) (x + 1) cap') (drow ⟨N, s, r⟩ true ca (x + 1)) ∧ Below HB W0 w9) := by
          obtain ⟨h1, h2, h3, h4, h5, h6, h7, h8⟩ := HO.out
          have h9 := hgr.below h5 (Nat.le_trans hBw h8)
          refine ⟨?_, h7.trans h9⟩
          rw [HN.out]
          refine own_push' h4 h2 h3 h1.reads h6 (fun q hq e => ?_) hown9 hgr
          simp [Value.ownBlock] at hq e
          have := h1.ge
          omega
        clear hown9 hgr HO
        go_wp2
        go_roundw
        case rel => exact ⟨x + 1, g', cap', by omega, by go_num, by congr 1, R.out⟩
        case measure => simp [intOf]; omega
      · obtain rfl : N = x := by omega
        have ST2 : Hid (OwnL wr HB (.slice (some ⟨g, 0, none⟩) N cp) (drow ⟨N, s, r⟩ true ca N ++ drow ⟨M, t, q⟩ true cb 0) ∧ Below HB W0 wr) := ⟨by rw [show drow ⟨M, t, q⟩ true cb 0 = [] from rfl, List.append_nil]; exact HQ.out.1, HQ.out.2⟩
        go_wp2_with fail
        clear a0 a1 a2
        go_loopw [10, 12] (fun u i wr => ∃ (y g cp : Nat), y ≤ M ∧ i = .int .i64 y ∧ u = .slice (some ⟨g, 0, none⟩) (N + y) cp ∧ OwnL wr HB u (drow ⟨N, s, r⟩ true ca N ++ drow ⟨M, t, q⟩ true cb y) ∧ Below HB W0 wr) (fun _ i _ => M - (intOf i).toNat)
        case atStart => exact ⟨0, g, cp, Nat.zero_le _, rfl, rfl, ST2.out⟩
        case round =>
          clear ST2 HQ
          obtain ⟨y, g, cp, hy, rfl, rfl, q1, q2⟩ := hrel
          have HQ := Lib.hid (show _ ∧ _ from ⟨q1, q2⟩)
          clear q1 q2
          have hBw : HB ≤ wr.heap.size := by
            rcases HQ.out.1.len with ⟨h, _⟩ | ⟨_, _, _, h1, h2⟩
            · cases h
            · omega
          obtain ⟨a0, a1, a2⟩ := (BB.out.below HQ.out.2 (by omega)).c
          by_cases hyM : y < M
          · go_wp2_with fail
            refine (first_own (f := true) (c := cb) rfl hyM hM HR.out.2.2.2.2.1 HR.out.2.2.2.2.2).mono ?_
            rintro e w2 ⟨g2, cap2, rfl, ho, hb⟩
            obtain ⟨d, hd⟩ : ∃ d, d = dsc ⟨M, t, q⟩ true cb y := ⟨_, rfl⟩
            rw [← hd] at ho ⊢
            have hdl : d.length ≤ 1000 := by rw [hd]; exact dsc_len _ _ _ _ (by assumption)
            have hdn : d ≠ [] := by rw [hd]; exact dsc_ne _ _ _ _
            have HN : Hid (drow ⟨N, s, r⟩ true ca N ++ drow ⟨M, t, q⟩ true cb (y + 1) = (drow ⟨N, s, r⟩ true ca N ++ drow ⟨M, t, q⟩ true cb y) ++ [d]) := by rw [Hid, hd]; exact by rw [drow_succ, List.append_assoc]
            obtain ⟨us, hul, hrow, hus⟩ := (HQ.out.1.below hb (Nat.le_refl _)).row
            have hum : us.length = (N + y) := by rw [hul]; exact by rw [List.length_append, drow_len, drow_len]
            rw [hum] at hrow
            have HO := Lib.hid (show _ ∧ _ ∧ _ ∧ _ ∧ _ ∧ _ ∧ _ ∧ _ from ⟨ho, hul, hus, hum, hrow, hdn, HQ.out.2.trans (hb.mono hBw), hb.size⟩)
            have hgl : g < wr.heap.size := by
              rcases HQ.out.1.len with ⟨h, _⟩ | ⟨_, _, h0, h1, h2⟩
              · cases h
              · simp only [Value.slice.injEq, Option.some.injEq, Addr.mk.injEq] at h0; omega
            obtain ⟨dl, hdll⟩ : ∃ dl, dl = d.length := ⟨_, rfl⟩
            rw [← hdll] at HO ⊢
            have HDL := Lib.hid hdll
            clear ho hb hd hul hrow hus hum hdn hdll hdl a0 a1 a2
            go_wp2_with (at_builtin; refine wpList_app1 w2 rfl (.tmp 46) (.tmp 50) 51 rfl HB 25 (.slice none 0 0) 24 Tryd.underlying51 infoSl rfl (by decide) _ _ _ (.slice (some ⟨g2, 0, none⟩) dl cap2) rfl HO.out.2.2.2.2.1 w2.heap.size rfl rfl rfl (by have := HO.out.2.2.2.1; omega) (Nat.le_trans hBw HO.out.2.2.2.2.2.2.2) ?_)
            intro g' cap' w9 hown9 hgr
            have R : Hid (OwnL w9 HB (.slice (some ⟨g', 0, none⟩) ((N + y) + 1) cap') (drow ⟨N, s, r⟩ true ca N ++ drow ⟨M, t, q⟩ true cb (y + 1)) ∧ Below HB W0 w9) := by
              obtain ⟨h1, h2, h3, h4, h5, h6, h7, h8⟩ := HO.out
              have h9 := hgr.below h5 (Nat.le_trans hBw h8)
              refine ⟨?_, h7.trans h9⟩
              rw [HN.out]
              refine own_push' h4 h2 h3 h1.reads h6 (fun q hq e => ?_) hown9 hgr
              simp [Value.ownBlock] at hq e
              have := h1.ge
              omega
            clear hown9 hgr HO
            go_wp2
            go_roundw
            case rel => exact ⟨y + 1, g', cap', by omega, by go_num, by congr 1, R.out⟩
            case measure => simp [intOf]; omega
          · obtain rfl : M = y := by omega
            have HSH := Lib.hid (drow_short ⟨N, s, r⟩ ⟨M, t, q⟩ true ca cb hN hM)
            have HLEN : Hid ((nums (drow ⟨N, s, r⟩ true ca N ++ drow ⟨M, t, q⟩ true cb M)).length = N + M) := by rw [Hid, nums_len, List.length_append, drow_len, drow_len]
            go_wp2_with fail
            clear a0 a1 a2
            refine (l8Numbers_any _ _ _ HQ.out.1.rows HSH.out).mono ?_
            rintro e w3 ⟨v0, rfl, ho, hb⟩
            have ho2 : OwnI 3 w3 wr.heap.size v0 (nums (drow ⟨N, s, r⟩ true ca N ++ drow ⟨M, t, q⟩ true cb M)) := ho
            rcases ho2.shape with ⟨_, h0⟩ | ⟨g0, cap0, rfl⟩
            · have := HLEN.out; rw [h0] at this; simp at this; omega
            have hcap : N + M ≤ cap0 ∧ cap0 ≤ 9223372036854775807 := by
              have hle := HLEN.out
              rcases ho2.2 with ⟨h', _⟩ | ⟨g', cap', cur, h', hb, hh, hnc, hcm, _⟩
              · simp at h'
              · simp only [Value.slice.injEq] at h'
                obtain ⟨_, hx, rfl⟩ := h'
                exact ⟨by omega, hcm⟩
            obtain ⟨out, hout⟩ : ∃ o, o = nums (drow ⟨N, s, r⟩ true ca N ++ drow ⟨M, t, q⟩ true cb M) := ⟨_, rfl⟩
            rw [← hout] at ho2 HLEN ⊢
            rw [HLEN.out] at ho2 ⊢
            have HOUT := Lib.hid hout
            clear hout
            have HO := Lib.hid (show _ ∧ _ from ⟨ho2, HQ.out.2.trans (hb.mono hBw)⟩)
            obtain ⟨a0, a1, a2⟩ := (BA.out.below HO.out.2 (by omega)).c
            clear ho ho2 hb HQ
            have hNc : N < cap0 := by omega
            go_wp2_with fail
            go_region
            go_wp2
            have RD1 : Reads w3 (.slice (some ⟨g0, 0, none⟩) N cap0) (out.take N) ∧ Reads w3 (.slice (some ⟨g0, N, none⟩) M (cap0 - N)) (out.drop N) := by
              have hlk : (out.take N).length = N := by simp; have := HLEN.out; omega
              have hld : (out.drop N).length = M := by simp; have := HLEN.out; omega
              have hml := HLEN.out
              refine ⟨⟨some ⟨g0, 0, none⟩, cap0, by rw [hlk], .inr ⟨g0, 0, rfl, fun i hi => ?_⟩, fun h => by cases h⟩, ⟨some ⟨g0, N, none⟩, cap0 - N, by rw [hld], .inr ⟨g0, N, rfl, fun i hi => ?_⟩, fun h => by cases h⟩⟩
              · have := HO.out.1.cell i (by omega)
                rw [Nat.zero_add, this]
                simp [List.getD_eq_getElem?_getD, List.getElem?_take, show i < N by omega]
              · have := HO.out.1.cell (N + i) (by omega)
                rw [this]
                simp [List.getD_eq_getElem?_getD, List.getElem?_drop]
            have OT := ownI_take (m := N) HO.out.1 (by omega)
            have AA : Hid (Below w.heap.size w w3.drew) := (AW.out.trans (HO.out.2.mono (by omega))).drew
            have DD : Below w3.heap.size w3 w3.drew := (Below.refl _ _).drew
            have RES := Lib.hid (show _ ∧ _ ∧ _ from ⟨RD1.1.below DD (Nat.le_refl _), RD1.2.below DD (Nat.le_refl _), (OT.below DD (Nat.le_refl _)).mono (show w.heap.size ≤ wr.heap.size by omega)⟩)
            clear RD1 OT DD a0 a1 a2
            rw [HOUT.out] at RES
            go_ret2
            exact ⟨_, _, rfl, RES.out.1, RES.out.2.1, RES.out.2.2, AA.out⟩
end Go.Proofs.YtglehegjimhbjaaDoor.refine
