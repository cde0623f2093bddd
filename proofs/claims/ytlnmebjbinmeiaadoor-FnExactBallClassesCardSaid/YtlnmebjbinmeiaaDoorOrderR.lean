/- l1Order of the reference: the first order that begins with some elements. -/
import Derived.Test.YtlnmebjbinmeiaaDoorFitsR
import Derived.Test.YtlnmebjbinmeiaaDoorIso
import Derived.Test.YtlnmebjbinmeiaaDoorDistS
namespace Go.Proofs.YtlnmebjbinmeiaaDoor.fits
set_option linter.unusedVariables false
set_option linter.unusedSimpArgs false
open Go.ChangeShapes Go.WideShapes Go.ChangeAt Go.RowKit
open Go.Proofs.YtlnmebjbinmeiaaDoor.lib Go.Proofs.YtlnmebjbinmeiaaDoor.st Go.Proofs.YtlnmebjbinmeiaaDoor.base Go.Proofs.YtlnmebjbinmeiaaDoor.flow Go.Proofs.YtlnmebjbinmeiaaDoor.part Go.Proofs.YtlnmebjbinmeiaaDoor.ord Go.Proofs.YtlnmebjbinmeiaaDoor.near

/-- what l1Order leaves -/
def Ordered (L : List (List Nat)) (w : World) (e : Ending) (w' : World) : Prop :=
  ∃ v, e = .returned (.tuple #[v, .bool L.head?.isSome]) ∧ Reads w' v (ints (L.head?.getD [])) ∧ Below w.heap.size w w'
def Orders (n : Nat) (sa ra sb rb : ByteArray) (d : Nat) : Prop :=
  ∀ (pre : List Nat) (v : Value) (w : World), pre.length + d = n → (∀ y, y ∈ pre → y < n) → Reads w v (ints pre) →
    Calls Tryd.prog 101 #[.agg #[.int .i64 n, .string sa, .string ra], v, .agg #[.int .i64 n, .string sb, .string rb]] w (Ordered (ords n (okB n sa ra sb rb) d pre) w)
variable {n : Nat} {sa ra sb rb : ByteArray}
theorem order_zero : Orders n sa ra sb rb 0 := by
  intro pre v w hl hp hr
  obtain ⟨ao, cap, rfl⟩ := hr.len
  rw [ints_len] at hr ⊢
  have B1 : Hid (Box 25 (w.alloc (.cells #[.int .i64 n, .string sa, .string ra] 25)) w.heap.size n sa ra) := Box.new _ w _ rfl _ _ _
  have BA := Lib.hid (B1.out.below ((Below.refl _ _).alloc (Nat.le_refl _) (.cells #[.int .i64 n, .string sb, .string rb] 25)) B1.out.lt)
  have AW : Hid (Below w.heap.size w ((w.alloc (.cells #[.int .i64 n, .string sa, .string ra] 25)).alloc (.cells #[.int .i64 n, .string sb, .string rb] 25))) := ((Below.refl _ _).alloc (Nat.le_refl _) _).alloc (by simp) _
  have RD := Lib.hid (hr.below AW.out (Nat.le_refl _))
  obtain ⟨c0, c1, c2⟩ := BA.out.c
  have tn : ((pre.length : Int) == (n : Int)) = true := by simp; omega
  clear hr hl hp
  go_enter Tryd.func101, Tryd.ntmps101
  go_wp2
  exact bodyPost_ret (v := .tuple #[.slice ao pre.length cap, .bool true]) (by simp [results, Tryd.results101, go_sem]) rfl ⟨.slice ao pre.length cap, by simp [ords], by simpa [ords] using RD.out, AW.out⟩
theorem marks_range (m : Nat) : marks 0 m = ints (List.range m) := by simp [marks, ints]

set_option maxHeartbeats 4000000 in
set_option maxRecDepth 100000 in
theorem order_succ (hn : n ≤ 8) (hs : sa.size = n ∧ ra.size = n * n ∧ sb.size = n ∧ rb.size = n * n) {d : Nat} (ih : Orders n sa ra sb rb d) : Orders n sa ra sb rb (d + 1) := by
  obtain ⟨i0, hi, hz0, hz1, hz2⟩ := info_parts infoInt
  have HII := Lib.hid (show _ ∧ _ ∧ _ ∧ _ from ⟨hi, hz0, hz1, hz2⟩)
  clear hi hz0 hz1 hz2
  intro pre v w hl hp hr
  have hln : pre.length < n := by omega
  obtain ⟨ao, cap, rfl⟩ := hr.len
  rw [ints_len] at hr ⊢
  obtain ⟨W2, hW2⟩ : ∃ W2, W2 = (w.alloc (.cells #[.int .i64 n, .string sa, .string ra] 25)).alloc (.cells #[.int .i64 n, .string sb, .string rb] 25) := ⟨_, rfl⟩
  have BA : Hid (Box 25 W2 w.heap.size n sa ra) := by rw [hW2]; exact (Box.new 25 w w.heap.size rfl n sa ra).below ((Below.refl _ _).alloc (Nat.le_refl _) _) (by simp)
  have BB : Hid (Box 25 W2 (w.heap.size + 1) n sb rb) := by rw [hW2]; exact Box.new _ _ _ (by simp) _ _ _
  have AW : Hid (Below w.heap.size w W2) := by rw [hW2]; exact ((Below.refl _ _).alloc (Nat.le_refl _) _).alloc (by simp) _
  have RD := Lib.hid (hr.below AW.out (Nat.le_refl _))
  obtain ⟨c0, c1, c2⟩ := BA.out.c
  have tn : ((pre.length : Int) == (n : Int)) = false := by simp; omega
  have HQ := Lib.hid (show _ ∧ _ ∧ _ from ⟨hp, hl, hs⟩)
  have HW := Lib.hid hW2
  have IH := Lib.hid ih
  clear hr hl hp hs hW2 ih
  go_enter Tryd.func101, Tryd.ntmps101
  go_wp2_with fail
  rw [← HW.out]
  clear c0 c1 c2 tn
  go_loopw [8] (fun i wr => ∃ k : Nat, k ≤ n ∧ i = .int .i64 k ∧ upto n (okB n sa ra sb rb) d pre k = [] ∧ Below W2.heap.size W2 wr) (fun i _ => n - (intOf i).toNat)
  case atStart => exact ⟨0, Nat.zero_le _, rfl, rfl, Below.refl _ _⟩
  case round =>
    obtain ⟨k, hk, rfl, hup, hb⟩ := hrel
    have HX := Lib.hid (show _ ∧ _ from ⟨hup, hb⟩)
    clear hup hb
    have AX : Hid (Below w.heap.size w wr) := AW.out.trans (HX.out.2.mono AW.out.size)
    obtain ⟨a0, a1, a2⟩ := (BA.out.below HX.out.2 BA.out.lt).c
    by_cases hkn : k < n
    · have E0 : Hid (OwnI 3 (wr.alloc (.cells #[] 3)) wr.heap.size (.slice (some ⟨wr.heap.size, 0, none⟩) 0 0) []) := emptyRow _ _ _ _ rfl (Nat.le_refl _)
      have A0 : Hid (Below wr.heap.size wr (wr.alloc (.cells #[] 3))) := (Below.refl _ _).alloc (Nat.le_refl _) _
      have R0 : Hid (Reads (wr.alloc (.cells #[] 3)) (.slice ao pre.length cap) (ints pre)) := RD.out.below (HX.out.2.trans (A0.out.mono HX.out.2.size)) (Nat.le_refl _)
      go_wp2_with (at_builtin; refine wpList_appAll _ rfl (.tmp 26) (.tmp 27) 31 rfl wr.heap.size 3 Tryd.underlying31 infoInt _ [] (ints pre) rfl E0.out _ rfl R0.out (by rw [ints_len]; simp; omega) (by simp) ?_)
      intro va w1 hown1 hgr1 hbk1
      have A1 : Hid (Below wr.heap.size wr w1) := A0.out.trans (below_of_grown hgr1 (by simp) (fun q hq => by simp [Value.ownBlock] at hq; omega))
      have O1 := Lib.hid hown1
      clear E0 R0 hown1 hgr1 hbk1
      go_wp2_with (at_builtin; refine wpList_app1 w1 rfl (.tmp 28) (.tmp 30) 31 rfl wr.heap.size 3 (.int .i64 0) 8 Tryd.underlying31 infoInt rfl (by decide) _ _ _ (.int .i64 k) rfl O1.out w1.heap.size rfl rfl rfl (by simp [ints_len]; omega) A1.out.size ?_)
      intro g cap' w2 hown2 hgr2
      have O2 : Hid (OwnI 3 w2 wr.heap.size (.slice (some ⟨g, 0, none⟩) (pre.length + 1) cap') (ints (pre ++ [k]))) := by
        unfold OwnI
        simp only [List.nil_append, ints_len] at hown2
        rw [Hid, ints_app, ivs_append, List.length_append, ints_len]
        exact hown2
      have A2 : Hid (Below wr.heap.size wr w2) := A1.out.trans (hgr2.below O1.out A1.out.size)
      simp only [List.nil_append, ints_len]
      clear O1 A1 hown2 hgr2 a0 a1 a2
      go_wp2_with (at_make; refine wpList_make_full _ rfl _ _ 31 rfl w2.heap.size 3 i0 (.int .i64 0) 1 Tryd.underlying31 HII.out.1 HII.out.2.1 HII.out.2.2.1 _ _ _ _ (pre.length + 1) rfl rfl (by omega) (by omega) ?b2 ?b3 (Nat.le_refl _) ?_)
      case b2 => rw [HII.out.2.2.2]; omega
      case b3 => unfold maxLen; omega
      intro w3 hown3 hgr3
      have A3 : Hid (Below w2.heap.size w2 w3) := below_of_grown hgr3 (Nat.le_refl _) (fun q hq => by cases hq)
      have O3 : Hid (OwnI 3 w3 w2.heap.size (.slice (some ⟨w2.heap.size, 0, none⟩) (pre.length + 1) (pre.length + 1)) (marks 0 0 ++ (List.replicate (pre.length + 1) 0).drop 0)) := by
        have := OwnI.made hown3
        refine Lib.hid ?_
        simpa [marks] using this
      obtain ⟨go, hgo⟩ : ∃ go, go = w2.heap.size := ⟨_, rfl⟩
      have HGO := Lib.hid hgo
      rw [← hgo] at O3 ⊢
      clear hown3 hgr3 hgo
      go_wp2_with fail
      go_loopw [11] (fun i wr => ∃ j : Nat, j ≤ pre.length + 1 ∧ i = .int .i64 j ∧ OwnI 3 wr go (.slice (some ⟨go, 0, none⟩) (pre.length + 1) (pre.length + 1)) (marks 0 j ++ (List.replicate (pre.length + 1) 0).drop j) ∧ Below w2.heap.size w2 wr) (fun i _ => pre.length + 1 - (intOf i).toNat)
      case atStart => exact ⟨0, Nat.zero_le _, rfl, O3.out, A3.out⟩
      case round =>
        clear O3 A3
        obtain ⟨j, hj, rfl, hown, hb⟩ := hrel
        have HO := Lib.hid (show _ ∧ _ from ⟨hown, hb⟩)
        clear hown hb
        by_cases hjm : j < pre.length + 1
        · have hfz := HO.out.1.free j
          have hce := HO.out.1.cell j (by simp [marks]; omega)
          have R : Hid (OwnI 3 (wr.setCell ⟨go, j, none⟩ (.int .i64 j)) go (.slice (some ⟨go, 0, none⟩) (pre.length + 1) (pre.length + 1)) (marks 0 (j + 1) ++ (List.replicate (pre.length + 1) 0).drop (j + 1)) ∧ Below w2.heap.size w2 (wr.setCell ⟨go, j, none⟩ (.int .i64 j))) := by
            have h := marks_step (List.replicate (pre.length + 1) 0) 0 j (by simp; omega)
            rw [Int.zero_add] at h
            exact ⟨by rw [← h]; exact HO.out.1.set j j, HO.out.2.setCell (p := ⟨go, j, none⟩) (by show w2.heap.size ≤ go; rw [HGO.out]; exact Nat.le_refl _) _⟩
          go_wp2
          go_roundw
          case rel => exact ⟨j + 1, by omega, by go_num, R.out⟩
          case measure => simp [intOf]; omega
        · obtain rfl : j = pre.length + 1 := by omega
          have hle : w2.heap.size ≤ wr.heap.size := HO.out.2.size
          have AQ := Lib.hid (A2.out.trans (HO.out.2.mono A2.out.size))
          have RO : Hid (Reads wr (.slice (some ⟨go, 0, none⟩) (pre.length + 1) (pre.length + 1)) (ints (List.range (pre.length + 1)))) := by
            have h := HO.out.1
            have e : marks 0 (pre.length + 1) ++ (List.replicate (pre.length + 1) (0 : Int)).drop (pre.length + 1) = ints (List.range (pre.length + 1)) := by simp [marks_range]
            rw [e] at h; exact h.reads
          have RM : Hid (Reads wr (.slice (some ⟨g, 0, none⟩) (pre.length + 1) cap') (ints (pre ++ [k]))) := (O2.out.below HO.out.2 (Nat.le_refl _)).reads
          have BAQ := Lib.hid ((BA.out.below HX.out.2 BA.out.lt).below AQ.out (Nat.lt_of_lt_of_le BA.out.lt HX.out.2.size))
          have BBQ := Lib.hid ((BB.out.below HX.out.2 BB.out.lt).below AQ.out (Nat.lt_of_lt_of_le BB.out.lt HX.out.2.size))
          obtain ⟨a0, a1, a2⟩ := BAQ.out.c
          obtain ⟨b0, b1, b2⟩ := BBQ.out.c
          have HUP := Lib.hid HX.out.1
          have AXQ : Hid (Below W2.heap.size W2 wr) := HX.out.2.trans (AQ.out.mono HX.out.2.size)
          clear hle HO AQ HX AX A2 O2
          go_wp2_with fail
          refine (l1Fits_any n sa ra sb rb pre k _ _ _ hkn hln HQ.out.1 hn HQ.out.2.2.1 HQ.out.2.2.2.1 HQ.out.2.2.2.2.1 HQ.out.2.2.2.2.2 RM.out RO.out).mono ?_
          rintro e w4 ⟨rfl, hb⟩
          have RM4 := Lib.hid (RM.out.below hb (Nat.le_refl _))
          have BA4 := Lib.hid (BAQ.out.below hb BAQ.out.lt)
          have BB4 := Lib.hid (BBQ.out.below hb BBQ.out.lt)
          have A4 : Hid (Below W2.heap.size W2 w4) := AXQ.out.trans (hb.mono AXQ.out.size)
          clear a0 a1 a2 b0 b1 b2 hb RM RO BAQ BBQ AXQ
          cases hok : okB n sa ra sb rb pre k with
          | false =>
            have R : Hid (upto n (okB n sa ra sb rb) d pre (k + 1) = []) := by rw [Hid, upto_no hok]; exact HUP.out
            clear hok
            go_wp2
            go_roundw
            case rel => exact ⟨k + 1, by omega, by go_num, R.out, A4.out⟩
            case measure => simp [intOf]; omega
          | true =>
            have HU : Hid (upto n (okB n sa ra sb rb) d pre (k + 1) = ords n (okB n sa ra sb rb) d (pre ++ [k])) := by rw [Hid, upto_yes hok, HUP.out]; rfl
            clear hok
            obtain ⟨a0, a1, a2⟩ := BA4.out.c
            obtain ⟨b0, b1, b2⟩ := BB4.out.c
            go_wp2_with fail
            refine (IH.out (pre ++ [k]) _ _ (by have := HQ.out.2.1; simp; omega) (fun y hy => by rcases List.mem_append.1 hy with h | h; exact HQ.out.1 y h; simp at h; omega) RM4.out).mono ?_
            rintro e w5 ⟨vo, rfl, hro, hb⟩
            have A5 : Hid (Below W2.heap.size W2 w5) := A4.out.trans (hb.mono A4.out.size)
            have HRO := Lib.hid hro
            clear a0 a1 a2 b0 b1 b2 hb hro
            cases hL : ords n (okB n sa ra sb rb) d (pre ++ [k]) with
            | nil =>
              have R : Hid (upto n (okB n sa ra sb rb) d pre (k + 1) = []) := by rw [Hid, HU.out, hL]
              clear hL
              simp only [List.head?_nil, Option.isSome_none]
              go_wp2
              go_roundw
              case rel => exact ⟨k + 1, by omega, by go_num, R.out, A5.out⟩
              case measure => simp [intOf]; omega
            | cons o os =>
              have R : Hid (Ordered (ords n (okB n sa ra sb rb) (d + 1) pre) w (.returned (.tuple #[vo, .bool true])) w5) := by
                obtain ⟨m, hm⟩ := upto_part n (okB n sa ra sb rb) d pre (k := k + 1) (by omega)
                have hh : (ords n (okB n sa ra sb rb) (d + 1) pre).head? = some o := by rw [hm, HU.out, hL]; rfl
                refine ⟨vo, by rw [hh]; rfl, ?_, AW.out.trans (A5.out.mono AW.out.size)⟩
                have h := HRO.out
                rw [hL] at h
                rw [hh]; exact h
              clear hL
              simp only [List.head?_cons, Option.isSome_some]
              go_wp2
              exact bodyPost_ret (v := .tuple #[vo, .bool true]) (by simp [results, Tryd.results101, go_sem]) rfl R.out
    · obtain rfl : n = k := by omega
      have E0 : Hid (OwnI 3 (wr.alloc (.cells #[] 3)) wr.heap.size (.slice (some ⟨wr.heap.size, 0, none⟩) 0 0) []) := emptyRow _ _ _ _ rfl (Nat.le_refl _)
      have A0 : Hid (Below w.heap.size w (wr.alloc (.cells #[] 3))) := AX.out.alloc AX.out.size _
      have HE : Hid (ords n (okB n sa ra sb rb) (d + 1) pre = []) := by rw [Hid, ← upto_full]; exact HX.out.1
      go_wp2
      exact bodyPost_ret (v := .tuple #[.slice (some ⟨wr.heap.size, 0, none⟩) 0 0, .bool false]) (by simp [results, Tryd.results101, go_sem]) rfl ⟨.slice (some ⟨wr.heap.size, 0, none⟩) 0 0, by rw [HE.out]; rfl, by rw [HE.out]; exact E0.out.reads, A0.out⟩
theorem order_any (hn : n ≤ 8) (hs : sa.size = n ∧ ra.size = n * n ∧ sb.size = n ∧ rb.size = n * n) : ∀ d, Orders n sa ra sb rb d
  | 0 => order_zero
  | d + 1 => order_succ hn hs (order_any hn hs d)
end Go.Proofs.YtlnmebjbinmeiaaDoor.fits
