/- Several texts in one: OrderB, ShapeR, L4. -/
import Derived.Test.YtpcnoiigbmiejaaDoorFitsR
import Derived.Test.YtpcnoiigbmiejaaDoorPkO
import Derived.Test.YtpcnoiigbmiejaaDoorPkF
import Derived.Test.YtpcnoiigbmiejaaDoorBase
import Derived.Test.YtpcnoiigbmiejaaDoorPair
import Derived.Test.YtpcnoiigbmiejaaDoorPkD
/- l1Order of the reference: the first order that begins with some elements. -/
namespace Go.Proofs.YtpcnoiigbmiejaaDoor.orderb
set_option linter.unusedVariables false
set_option linter.unusedSimpArgs false
open Go.ChangeShapes Go.WideShapes Go.ChangeAt Go.RowKit
open Go.Proofs.YtpcnoiigbmiejaaDoor.fits Go.Proofs.YtpcnoiigbmiejaaDoor.lib Go.Proofs.YtpcnoiigbmiejaaDoor.st Go.Proofs.YtpcnoiigbmiejaaDoor.base Go.Proofs.YtpcnoiigbmiejaaDoor.flow Go.Proofs.YtpcnoiigbmiejaaDoor.part Go.Proofs.YtpcnoiigbmiejaaDoor.ord Go.Proofs.YtpcnoiigbmiejaaDoor.near

/-- the slice lies in blocks from B on -/
def From (B : Nat) (v : Value) : Prop := ∀ a n c, v = .slice (some a) n c → B ≤ a.block
/-- what l1Order leaves -/
def Ordered (L : List (List Nat)) (w : World) (v0 : Value) (e : Ending) (w' : World) : Prop :=
  ∃ v, e = .returned (.tuple #[v, .bool L.head?.isSome]) ∧ Reads w' v (ints (L.head?.getD [])) ∧ Below w.heap.size w w' ∧ ∀ B, B ≤ w.heap.size → From B v0 → From B v
def Orders (n : Nat) (sa ra sb rb : ByteArray) (d : Nat) : Prop :=
  ∀ (pre : List Nat) (v : Value) (w : World), pre.length + d = n → (∀ y, y ∈ pre → y < n) → Reads w v (ints pre) →
    Calls Tryd.prog 127 #[.agg #[.int .i64 n, .string sa, .string ra], v, .agg #[.int .i64 n, .string sb, .string rb]] w (Ordered (ords n (okB n sa ra sb rb) d pre) w v)
variable {n : Nat} {sa ra sb rb : ByteArray}
theorem order_zero : Orders n sa ra sb rb 0 := by
  intro pre v w hl hp hr
  obtain ⟨ao, cap, rfl⟩ := hr.len
  rw [ints_len] at hr ⊢
  have B1 : Hid (Box 24 (w.alloc (.cells #[.int .i64 n, .string sa, .string ra] 24)) w.heap.size n sa ra) := Box.new _ w _ rfl _ _ _
  have BA := Lib.hid (B1.out.below ((Below.refl _ _).alloc (Nat.le_refl _) (.cells #[.int .i64 n, .string sb, .string rb] 24)) B1.out.lt)
  have AW : Hid (Below w.heap.size w ((w.alloc (.cells #[.int .i64 n, .string sa, .string ra] 24)).alloc (.cells #[.int .i64 n, .string sb, .string rb] 24))) := ((Below.refl _ _).alloc (Nat.le_refl _) _).alloc (by simp) _
  have RD := Lib.hid (hr.below AW.out (Nat.le_refl _))
  obtain ⟨c0, c1, c2⟩ := BA.out.c
  have tn : ((pre.length : Int) == (n : Int)) = true := by simp; omega
  clear hr hl hp
  go_enter Tryd.func127, Tryd.ntmps127
  go_wp2
  exact bodyPost_ret (v := .tuple #[.slice ao pre.length cap, .bool true]) (by simp [results, Tryd.results127, go_sem]) rfl ⟨.slice ao pre.length cap, by simp [ords], by simpa [ords] using RD.out, AW.out, fun _ _ h => h⟩
theorem marks_range (m : Nat) : marks 0 m = ints (List.range m) := by simp [marks, ints]

set_option maxHeartbeats 4000000 in
set_option maxRecDepth 100000 in
theorem order_succ (hn : n ≤ 8) (hs : sa.size = n ∧ ra.size = n * n ∧ sb.size = n ∧ rb.size = n * n) {d : Nat} (ih : Orders n sa ra sb rb d) : Orders n sa ra sb rb (d + 1) := by
  obtain ⟨i0, hi, hz0, hz1, hz2⟩ := info_parts infoInt
  have HII := Lib.hid (show _ ∧ _ ∧ _ ∧ _ from ⟨hi, hz0, hz1, hz2⟩)
  clear hi hz0 hz1 hz2
  intro pre v w hl hp hr
  have hln : pre.length < n := by omega
  obtain ⟨ao, cap, rfl⟩ := hr.len
  rw [ints_len] at hr ⊢
  obtain ⟨W2, hW2⟩ : ∃ W2, W2 = (w.alloc (.cells #[.int .i64 n, .string sa, .string ra] 24)).alloc (.cells #[.int .i64 n, .string sb, .string rb] 24) := ⟨_, rfl⟩
  have BA : Hid (Box 24 W2 w.heap.size n sa ra) := by rw [hW2]; exact (Box.new 24 w w.heap.size rfl n sa ra).below ((Below.refl _ _).alloc (Nat.le_refl _) _) (by simp)
  have BB : Hid (Box 24 W2 (w.heap.size + 1) n sb rb) := by rw [hW2]; exact Box.new _ _ _ (by simp) _ _ _
  have AW : Hid (Below w.heap.size w W2) := by rw [hW2]; exact ((Below.refl _ _).alloc (Nat.le_refl _) _).alloc (by simp) _
  have RD := Lib.hid (hr.below AW.out (Nat.le_refl _))
  obtain ⟨c0, c1, c2⟩ := BA.out.c
  have tn : ((pre.length : Int) == (n : Int)) = false := by simp; omega
  have HQ := Lib.hid (show _ ∧ _ ∧ _ from ⟨hp, hl, hs⟩)
  have HW := Lib.hid hW2
  have IH := Lib.hid ih
  clear hr hl hp hs hW2 ih
  go_enter Tryd.func127, Tryd.ntmps127
  go_wp2_with fail
  rw [← HW.out]
  clear c0 c1 c2 tn
  go_loopw [8] (fun i wr => ∃ k : Nat, k ≤ n ∧ i = .int .i64 k ∧ upto n (okB n sa ra sb rb) d pre k = [] ∧ Below W2.heap.size W2 wr) (fun i _ => n - (intOf i).toNat)
  case atStart => exact ⟨0, Nat.zero_le _, rfl, rfl, Below.refl _ _⟩
  case round =>
    obtain ⟨k, hk, rfl, hup, hb⟩ := hrel
    have HX := Lib.hid (show _ ∧ _ from ⟨hup, hb⟩)
    clear hup hb
    have AX : Hid (Below w.heap.size w wr) := AW.out.trans (HX.out.2.mono AW.out.size)
    obtain ⟨a0, a1, a2⟩ := (BA.out.below HX.out.2 BA.out.lt).c
    by_cases hkn : k < n
    · have E0 : Hid (OwnI 3 (wr.alloc (.cells #[] 3)) wr.heap.size (.slice (some ⟨wr.heap.size, 0, none⟩) 0 0) []) := emptyRow _ _ _ _ rfl (Nat.le_refl _)
      have A0 : Hid (Below wr.heap.size wr (wr.alloc (.cells #[] 3))) := (Below.refl _ _).alloc (Nat.le_refl _) _
      have R0 : Hid (Reads (wr.alloc (.cells #[] 3)) (.slice ao pre.length cap) (ints pre)) := RD.out.below (HX.out.2.trans (A0.out.mono HX.out.2.size)) (Nat.le_refl _)
      go_wp2_with (at_builtin; refine wpList_appAll _ rfl (.tmp 26) (.tmp 27) 32 rfl wr.heap.size 3 Tryd.underlying32 infoInt _ [] (ints pre) rfl E0.out _ rfl R0.out (by rw [ints_len]; simp; omega) (by simp) ?_)
      intro va w1 hown1 hgr1 hbk1
      have A1 : Hid (Below wr.heap.size wr w1) := A0.out.trans (below_of_grown hgr1 (by simp) (fun q hq => by simp [Value.ownBlock] at hq; omega))
      have O1 := Lib.hid hown1
      clear E0 R0 hown1 hgr1 hbk1
      go_wp2_with (at_builtin; refine wpList_app1 w1 rfl (.tmp 28) (.tmp 30) 32 rfl wr.heap.size 3 (.int .i64 0) 8 Tryd.underlying32 infoInt rfl (by decide) _ _ _ (.int .i64 k) rfl O1.out w1.heap.size rfl rfl rfl (by simp [ints_len]; omega) A1.out.size ?_)
      intro g cap' w2 hown2 hgr2
      have O2 : Hid (OwnI 3 w2 wr.heap.size (.slice (some ⟨g, 0, none⟩) (pre.length + 1) cap') (ints (pre ++ [k]))) := by
        unfold OwnI
        simp only [List.nil_append, ints_len] at hown2
        rw [Hid, ints_app, ivs_append, List.length_append, ints_len]
        exact hown2
      have A2 : Hid (Below wr.heap.size wr w2) := A1.out.trans (hgr2.below O1.out A1.out.size)
      simp only [List.nil_append, ints_len]
      clear O1 A1 hown2 hgr2 a0 a1 a2
      go_wp2_with (at_make; refine wpList_make_full _ rfl _ _ 32 rfl w2.heap.size 3 i0 (.int .i64 0) 1 Tryd.underlying32 HII.out.1 HII.out.2.1 HII.out.2.2.1 _ _ _ _ (pre.length + 1) rfl rfl (by omega) (by omega) ?b2 ?b3 (Nat.le_refl _) ?_)
      case b2 => rw [HII.out.2.2.2]; omega
      case b3 => unfold maxLen; omega
      intro w3 hown3 hgr3
      have A3 : Hid (Below w2.heap.size w2 w3) := below_of_grown hgr3 (Nat.le_refl _) (fun q hq => by cases hq)
      have O3 : Hid (OwnI 3 w3 w2.heap.size (.slice (some ⟨w2.heap.size, 0, none⟩) (pre.length + 1) (pre.length + 1)) (marks 0 0 ++ (List.replicate (pre.length + 1) 0).drop 0)) := by
        have := OwnI.made hown3
        refine Lib.hid ?_
        simpa [marks] using this
      obtain ⟨go, hgo⟩ : ∃ go, go = w2.heap.size := ⟨_, rfl⟩
      have HGO := Lib.hid hgo
      rw [← hgo] at O3 ⊢
      clear hown3 hgr3 hgo
      go_wp2_with fail
      go_loopw [11] (fun i wr => ∃ j : Nat, j ≤ pre.length + 1 ∧ i = .int .i64 j ∧ OwnI 3 wr go (.slice (some ⟨go, 0, none⟩) (pre.length + 1) (pre.length + 1)) (marks 0 j ++ (List.replicate (pre.length + 1) 0).drop j) ∧ Below w2.heap.size w2 wr) (fun i _ => pre.length + 1 - (intOf i).toNat)
      case atStart => exact ⟨0, Nat.zero_le _, rfl, O3.out, A3.out⟩
      case round =>
        clear O3 A3
        obtain ⟨j, hj, rfl, hown, hb⟩ := hrel
        have HO := Lib.hid (show _ ∧ _ from ⟨hown, hb⟩)
        clear hown hb
        by_cases hjm : j < pre.length + 1
        · have hfz := HO.out.1.free j
          have hce := HO.out.1.cell j (by simp [marks]; omega)
          have R : Hid (OwnI 3 (wr.setCell ⟨go, j, none⟩ (.int .i64 j)) go (.slice (some ⟨go, 0, none⟩) (pre.length + 1) (pre.length + 1)) (marks 0 (j + 1) ++ (List.replicate (pre.length + 1) 0).drop (j + 1)) ∧ Below w2.heap.size w2 (wr.setCell ⟨go, j, none⟩ (.int .i64 j))) := by
            have h := marks_step (List.replicate (pre.length + 1) 0) 0 j (by simp; omega)
            rw [Int.zero_add] at h
            exact ⟨by rw [← h]; exact HO.out.1.set j j, HO.out.2.setCell (p := ⟨go, j, none⟩) (by show w2.heap.size ≤ go; rw [HGO.out]; exact Nat.le_refl _) _⟩
          go_wp2
          go_roundw
          case rel => exact ⟨j + 1, by omega, by go_num, R.out⟩
          case measure => simp [intOf]; omega
        · obtain rfl : j = pre.length + 1 := by omega
          have hle : w2.heap.size ≤ wr.heap.size := HO.out.2.size
          have AQ := Lib.hid (A2.out.trans (HO.out.2.mono A2.out.size))
          have RO : Hid (Reads wr (.slice (some ⟨go, 0, none⟩) (pre.length + 1) (pre.length + 1)) (ints (List.range (pre.length + 1)))) := by
            have h := HO.out.1
            have e : marks 0 (pre.length + 1) ++ (List.replicate (pre.length + 1) (0 : Int)).drop (pre.length + 1) = ints (List.range (pre.length + 1)) := by simp [marks_range]
            rw [e] at h; exact h.reads
          have hgw : w.heap.size ≤ g := by have := O2.out.ge.1; have := HX.out.2.size; have := AW.out.size; omega
          have RM : Hid (Reads wr (.slice (some ⟨g, 0, none⟩) (pre.length + 1) cap') (ints (pre ++ [k]))) := (O2.out.below HO.out.2 (Nat.le_refl _)).reads
          have BAQ := Lib.hid ((BA.out.below HX.out.2 BA.out.lt).below AQ.out (Nat.lt_of_lt_of_le BA.out.lt HX.out.2.size))
          have BBQ := Lib.hid ((BB.out.below HX.out.2 BB.out.lt).below AQ.out (Nat.lt_of_lt_of_le BB.out.lt HX.out.2.size))
          obtain ⟨a0, a1, a2⟩ := BAQ.out.c
          obtain ⟨b0, b1, b2⟩ := BBQ.out.c
          have HUP := Lib.hid HX.out.1
          have AXQ : Hid (Below W2.heap.size W2 wr) := HX.out.2.trans (AQ.out.mono HX.out.2.size)
          clear hle HO AQ HX AX A2 O2
          go_wp2_with fail
          refine (l1Fits_any n sa ra sb rb pre k _ _ _ hkn hln HQ.out.1 hn HQ.out.2.2.1 HQ.out.2.2.2.1 HQ.out.2.2.2.2.1 HQ.out.2.2.2.2.2 RM.out RO.out).mono ?_
          rintro e w4 ⟨rfl, hb⟩
          have RM4 := Lib.hid (RM.out.below hb (Nat.le_refl _))
          have BA4 := Lib.hid (BAQ.out.below hb BAQ.out.lt)
          have BB4 := Lib.hid (BBQ.out.below hb BBQ.out.lt)
          have A4 : Hid (Below W2.heap.size W2 w4) := AXQ.out.trans (hb.mono AXQ.out.size)
          clear a0 a1 a2 b0 b1 b2 hb RM RO BAQ BBQ AXQ
          cases hok : okB n sa ra sb rb pre k with
          | false =>
            have R : Hid (upto n (okB n sa ra sb rb) d pre (k + 1) = []) := by rw [Hid, upto_no hok]; exact HUP.out
            clear hok
            go_wp2
            go_roundw
            case rel => exact ⟨k + 1, by omega, by go_num, R.out, A4.out⟩
            case measure => simp [intOf]; omega
          | true =>
            have HU : Hid (upto n (okB n sa ra sb rb) d pre (k + 1) = ords n (okB n sa ra sb rb) d (pre ++ [k])) := by rw [Hid, upto_yes hok, HUP.out]; rfl
            clear hok
            obtain ⟨a0, a1, a2⟩ := BA4.out.c
            obtain ⟨b0, b1, b2⟩ := BB4.out.c
            go_wp2_with fail
            refine (IH.out (pre ++ [k]) _ _ (by have := HQ.out.2.1; simp; omega) (fun y hy => by rcases List.mem_append.1 hy with h | h; exact HQ.out.1 y h; simp at h; omega) RM4.out).mono ?_
            rintro e w5 ⟨vo, rfl, hro, hb, hfr⟩
            have A5 : Hid (Below W2.heap.size W2 w5) := A4.out.trans (hb.mono A4.out.size)
            have HRO := Lib.hid hro
            have HFR : Hid (∀ B, B ≤ w.heap.size → From B vo) := fun B hB => hfr B (by have := A4.out.size; have := AW.out.size; omega) (fun a n c h => by simp only [Value.slice.injEq, Option.some.injEq] at h; obtain ⟨rfl, -, -⟩ := h; show B ≤ g; omega)
            clear hfr
            clear a0 a1 a2 b0 b1 b2 hb hro
            cases hL : ords n (okB n sa ra sb rb) d (pre ++ [k]) with
            | nil =>
              have R : Hid (upto n (okB n sa ra sb rb) d pre (k + 1) = []) := by rw [Hid, HU.out, hL]
              clear hL
              simp only [List.head?_nil, Option.isSome_none]
              go_wp2
              go_roundw
              case rel => exact ⟨k + 1, by omega, by go_num, R.out, A5.out⟩
              case measure => simp [intOf]; omega
            | cons o os =>
              have R : Hid (Ordered (ords n (okB n sa ra sb rb) (d + 1) pre) w (.slice ao pre.length cap) (.returned (.tuple #[vo, .bool true])) w5) := by
                obtain ⟨m, hm⟩ := upto_part n (okB n sa ra sb rb) d pre (k := k + 1) (by omega)
                have hh : (ords n (okB n sa ra sb rb) (d + 1) pre).head? = some o := by rw [hm, HU.out, hL]; rfl
                refine ⟨vo, by rw [hh]; rfl, ?_, AW.out.trans (A5.out.mono AW.out.size), fun B hB _ => HFR.out B hB⟩
                have h := HRO.out
                rw [hL] at h
                rw [hh]; exact h
              clear hL
              simp only [List.head?_cons, Option.isSome_some]
              go_wp2
              exact bodyPost_ret (v := .tuple #[vo, .bool true]) (by simp [results, Tryd.results127, go_sem]) rfl R.out
    · obtain rfl : n = k := by omega
      have E0 : Hid (OwnI 3 (wr.alloc (.cells #[] 3)) wr.heap.size (.slice (some ⟨wr.heap.size, 0, none⟩) 0 0) []) := emptyRow _ _ _ _ rfl (Nat.le_refl _)
      have A0 : Hid (Below w.heap.size w (wr.alloc (.cells #[] 3))) := AX.out.alloc AX.out.size _
      have HE : Hid (ords n (okB n sa ra sb rb) (d + 1) pre = []) := by rw [Hid, ← upto_full]; exact HX.out.1
      go_wp2
      exact bodyPost_ret (v := .tuple #[.slice (some ⟨wr.heap.size, 0, none⟩) 0 0, .bool false]) (by simp [results, Tryd.results127, go_sem]) rfl ⟨.slice (some ⟨wr.heap.size, 0, none⟩) 0 0, by rw [HE.out]; rfl, by rw [HE.out]; exact E0.out.reads, A0.out, fun B hB _ a n c h => by simp only [Value.slice.injEq, Option.some.injEq] at h; obtain ⟨rfl, -, -⟩ := h; have := AX.out.size; show B ≤ wr.heap.size; omega⟩
theorem order_any (hn : n ≤ 8) (hs : sa.size = n ∧ ra.size = n * n ∧ sb.size = n ∧ rb.size = n * n) : ∀ d, Orders n sa ra sb rb d
  | 0 => order_zero
  | d + 1 => order_succ hn hs (order_any hn hs d)
end Go.Proofs.YtpcnoiigbmiejaaDoor.orderb

/- SameShape of the reference: what it returns is a short list and a bit. -/
namespace Go.Proofs.YtpcnoiigbmiejaaDoor.shaper
set_option linter.unusedVariables false
set_option linter.unusedSimpArgs false
open Go.ChangeShapes Go.WideShapes Go.ChangeAt Go.RowKit
open Go.Proofs.YtpcnoiigbmiejaaDoor.lib Go.Proofs.YtpcnoiigbmiejaaDoor.st Go.Proofs.YtpcnoiigbmiejaaDoor.base Go.Proofs.YtpcnoiigbmiejaaDoor.fits Go.Proofs.YtpcnoiigbmiejaaDoor.ord Go.Proofs.YtpcnoiigbmiejaaDoor.orderb

/-- what SameShape leaves -/
def Shaped (w : World) (e : Ending) (w' : World) : Prop :=
  ∃ v l b, e = .returned (.tuple #[v, .bool b]) ∧ Reads w' v l ∧ l.length ≤ 8 ∧ Below w.heap.size w w' ∧ From w.heap.size v
theorem empty_reads (w : World) (H : Nat) : Reads w (.slice (some ⟨H, 0, none⟩) 0 0) [] := ⟨_, _, rfl, .inl rfl, fun h => by cases h⟩
set_option maxHeartbeats 1600000 in
theorem specSameShape_any (N : Nat) (sa ra : ByteArray) (M : Nat) (sb rb : ByteArray) (w : World) (hN : N ≤ 8) (hM : M ≤ 8) (hsa : sa.size = N) (hra : ra.size = N * N) (hsb : sb.size = M) (hrb : rb.size = M * M) :
    Calls Tryd.prog 144 #[.agg #[.int .i64 N, .string sa, .string ra], .agg #[.int .i64 M, .string sb, .string rb]] w (Shaped w) := by
  obtain ⟨W0, hW0⟩ : ∃ W0, W0 = (w.alloc (.cells #[.int .i64 N, .string sa, .string ra] 24)).alloc (.cells #[.int .i64 M, .string sb, .string rb] 24) := ⟨_, rfl⟩
  have BA : Hid (Box 24 W0 w.heap.size N sa ra) := by rw [hW0]; exact (Box.new 24 w w.heap.size rfl N sa ra).below ((Below.refl (w.heap.size + 1) _).alloc (by simp) _) (by omega)
  have BB : Hid (Box 24 W0 (w.heap.size + 1) M sb rb) := by rw [hW0]; exact Box.new 24 _ (w.heap.size + 1) (by simp) M sb rb
  have AW : Hid (Below w.heap.size w W0) := by rw [hW0]; exact ((Below.refl _ _).alloc (Nat.le_refl _) _).alloc (by simp) _
  have HZ : Hid (sa.size ≤ 64 ∧ ra.size ≤ 64 ∧ sb.size ≤ 64 ∧ rb.size ≤ 64) := by
    have h1 : N * N ≤ 8 * 8 := Nat.mul_le_mul hN hN
    have h2 : M * M ≤ 8 * 8 := Nat.mul_le_mul hM hM
    exact ⟨by omega, by omega, by omega, by omega⟩
  have HS := Lib.hid (show _ ∧ _ ∧ _ ∧ _ from ⟨hsa, hra, hsb, hrb⟩)
  have HW0 := Lib.hid hW0
  clear hsa hra hsb hrb hW0
  go_enter Tryd.func144, Tryd.ntmps144
  go_wp2_with fail
  rw [← HW0.out]
  clear HW0
  refine (StructureValid_any N sa ra _ (by have := HZ.out; omega) (by have := HZ.out; omega)).mono ?_
  rintro e w1 ⟨rfl, hw⟩
  have HQ := Lib.hid (show _ ∧ _ ∧ _ from ⟨BA.out.below hw BA.out.lt, BB.out.below hw BB.out.lt, AW.out.trans (hw.mono AW.out.size)⟩)
  clear hw BA BB AW
  obtain ⟨a0, a1, a2⟩ := HQ.out.1.c
  obtain ⟨b0, b1, b2⟩ := HQ.out.2.1.c
  have fin : ∀ W, Below w.heap.size w W → Hid (Shaped w (.returned (.tuple #[.slice (some ⟨W.heap.size, 0, none⟩) 0 0, .bool false])) (W.alloc (.cells #[] 3))) := fun W h => ⟨_, [], false, rfl, empty_reads _ _, by simp, h.alloc (by have := h.size; omega) _, fun a n c e => by simp only [Value.slice.injEq, Option.some.injEq] at e; obtain ⟨rfl, -, -⟩ := e; exact h.size⟩
  cases hv : validB N sa ra with
  | false =>
    have R := fin w1 HQ.out.2.2
    clear fin hv
    go_wp2
    exact bodyPost_ret (v := .tuple #[.slice (some ⟨w1.heap.size, 0, none⟩) 0 0, .bool false]) (by simp [results, Tryd.results144, go_sem]) rfl R.out
  | true =>
    go_wp2_with fail
    refine (StructureValid_any M sb rb _ (by have := HZ.out; omega) (by have := HZ.out; omega)).mono ?_
    rintro e w2 ⟨rfl, hw⟩
    have HQ2 := Lib.hid (show _ ∧ _ ∧ _ from ⟨HQ.out.1.below hw HQ.out.1.lt, HQ.out.2.1.below hw HQ.out.2.1.lt, HQ.out.2.2.trans (hw.mono HQ.out.2.2.size)⟩)
    clear hw HQ a0 a1 a2 b0 b1 b2
    obtain ⟨a0, a1, a2⟩ := HQ2.out.1.c
    obtain ⟨b0, b1, b2⟩ := HQ2.out.2.1.c
    cases hv2 : validB M sb rb with
    | false =>
      have R := fin w2 HQ2.out.2.2
      clear fin hv hv2
      go_wp2
      exact bodyPost_ret (v := .tuple #[.slice (some ⟨w2.heap.size, 0, none⟩) 0 0, .bool false]) (by simp [results, Tryd.results144, go_sem]) rfl R.out
    | true =>
      by_cases hnm : N = M
      rotate_left
      · have t1 : ((N : Int) != (M : Int)) = true := by simp; omega
        have R := fin w2 HQ2.out.2.2
        clear fin hv hv2 hnm
        go_wp2
        exact bodyPost_ret (v := .tuple #[.slice (some ⟨w2.heap.size, 0, none⟩) 0 0, .bool false]) (by simp [results, Tryd.results144, go_sem]) rfl R.out
      subst hnm
      have hn1 : 1 ≤ N := by have := (validB_iff.1 hv).1; omega
      have A3 : Hid (Below w2.heap.size w2 (w2.alloc (.cells #[] 3))) := (Below.refl _ _).alloc (Nat.le_refl _) _
      obtain ⟨d0, d1, d2⟩ := (HQ2.out.1.below A3.out HQ2.out.1.lt).c
      obtain ⟨e0, e1, e2⟩ := (HQ2.out.2.1.below A3.out HQ2.out.2.1.lt).c
      have hl1 := HQ2.out.1.lt
      have hl2 := HQ2.out.2.1.lt
      clear fin hv hv2
      go_wp2_with fail
      clear a0 a1 a2 b0 b1 b2 d0 d1 d2 e0 e1 e2
      refine (orderb.order_any hN ⟨HS.out.1, HS.out.2.1, HS.out.2.2.1, HS.out.2.2.2⟩ N [] _ _ (by simp) (fun y hy => by cases hy) (empty_reads _ _)).mono ?_
      rintro e w4 ⟨v, rfl, hr, hb, hfr⟩
      have R : Hid (Shaped w (.returned (.tuple #[v, .bool (ords N (okB N sa ra sb rb) N []).head?.isSome])) w4) := by
        refine ⟨v, _, _, rfl, hr, ?_, HQ2.out.2.2.trans ((A3.out.trans (hb.mono A3.out.size)).mono HQ2.out.2.2.size), hfr _ (by have := A3.out.size; have := HQ2.out.2.2.size; omega) (fun a n c e => by simp only [Value.slice.injEq, Option.some.injEq] at e; obtain ⟨rfl, -, -⟩ := e; exact HQ2.out.2.2.size)⟩
        rw [ints_len]
        cases h : (ords N (okB N sa ra sb rb) N []).head? with
        | none => simp
        | some o =>
          have := ords_len (List.mem_of_head? h)
          simp at this
          simp; omega
      clear hr hb
      go_wp2
      exact bodyPost_ret (v := .tuple #[v, .bool (ords N (okB N sa ra sb rb) N []).head?.isSome]) (by simp [results, Tryd.results144, go_sem]) rfl R.out
end Go.Proofs.YtpcnoiigbmiejaaDoor.shaper

/- The drawing of two structures and a list of elements of either: l4Pair. -/
namespace Go.Proofs.YtpcnoiigbmiejaaDoor.l4
set_option linter.unusedVariables false
set_option linter.unusedSimpArgs false
open Go.ChangeShapes Go.WideShapes Go.ChangeAt Go.RowKit
open Go.Proofs.YtpcnoiigbmiejaaDoor.lib Go.Proofs.YtpcnoiigbmiejaaDoor.st Go.Proofs.YtpcnoiigbmiejaaDoor.flow Go.Proofs.YtpcnoiigbmiejaaDoor.chain Go.Proofs.YtpcnoiigbmiejaaDoor.draw Go.Proofs.YtpcnoiigbmiejaaDoor.shuf Go.Proofs.YtpcnoiigbmiejaaDoor.pair Go.Proofs.YtpcnoiigbmiejaaDoor.orderb Go.Proofs.YtpcnoiigbmiejaaDoor.shaper

/-- numbers that are nearly elements -/
def Nearly (l : List Int) : Prop := ∀ x, x ∈ l → -1 ≤ x ∧ x ≤ 8
theorem Nearly.app {l : List Int} {x : Int} (h : Nearly l) (hx : -1 ≤ x ∧ x ≤ 8) : Nearly (l ++ [x]) := fun y hy => by
  rcases List.mem_append.1 hy with h' | h'
  · exact h y h'
  · rw [List.mem_singleton.1 h']; exact hx
/-- what l4Pair leaves -/
def DrawnL4 (w : World) (R : Nat) (ao : Option Addr) (len cap P : Nat) (e : Ending) (w' : World) : Prop :=
  ∃ (n : Int) (s r : ByteArray) (va : Value) (la : List Int) (m : Int) (t q : ByteArray) (vb : Value) (lb : List Int) (p : Nat), e = .returned (.tuple #[.agg #[.int .i64 n, .string s, .string r], va, .agg #[.int .i64 m, .string t, .string q], vb]) ∧
    ((Lit.int .i64 n).wf = true ∧ s.size ≤ 100 ∧ r.size ≤ 100) ∧ ((Lit.int .i64 m).wf = true ∧ t.size ≤ 100 ∧ q.size ≤ 100) ∧ (la.length ≤ 100 ∧ Nearly la) ∧ (lb.length ≤ 100 ∧ Nearly lb) ∧ OwnI 3 w' w.heap.size va la ∧ OwnI 3 w' w.heap.size vb lb ∧ Rd w' R ao len cap p ∧ p ≤ P ∧ w.grownBy w' (some R)
/-- what is known between the statements -/
structure St4 (w : World) (R : Nat) (ao : Option Addr) (len cap P HC HD : Nat) (n : Int) (s r : ByteArray) (m : Int) (t q : ByteArray) (BA : Nat) (va : Value) (la : List Int) (BB : Nat) (vb : Value) (lb : List Int) (p : Nat) (wx : World) : Prop where
  oa : OwnI 3 wx BA va la
  ob : OwnI 3 wx BB vb lb
  la : la.length ≤ 40 ∧ Nearly la
  lb : lb.length ≤ 40 ∧ Nearly lb
  ap : Apart va vb
  rd : Rd wx R ao len cap p
  p : p ≤ P
  g : w.grownBy wx (some R)
  ba : w.heap.size ≤ BA ∧ R < BA ∧ BA ≤ wx.heap.size ∧ HD < BA
  bb : BA ≤ BB ∧ BB ≤ wx.heap.size
  h : R < HC ∧ w.heap.size + 1 < HC ∧ HC < HD ∧ R < w.heap.size
  a : Box 24 wx w.heap.size 0 ⟨#[]⟩ ⟨#[]⟩
  b : Box 24 wx (w.heap.size + 1) 0 ⟨#[]⟩ ⟨#[]⟩
  c : Box 24 wx HC n s r
  d : Box 24 wx HD m t q
section
variable {w : World} {R : Nat} {ao : Option Addr} {len cap P HC HD : Nat} {n : Int} {s r : ByteArray} {m : Int} {t q : ByteArray} {BA : Nat} {va : Value} {la : List Int} {BB : Nat} {vb : Value} {lb : List Int} {p : Nat} {wx : World}
/-- a draw -/
theorem St4.draw (h : St4 w R ao len cap P HC HD n s r m t q BA va la BB vb lb p wx) {w' : World} {p' : Nat} (hrd : Rd w' R ao len cap p') (hp : p' ≤ P) (hg : wx.grownBy w' (some R)) : St4 w R ao len cap P HC HD n s r m t q BA va la BB vb lb p' w' := by
  have hb := h.ba
  have hh := h.h
  have hz := hg.size
  have hbb := h.bb
  exact ⟨ownKept h.oa hg hb.2.1, ownKept h.ob hg (by omega), h.la, h.lb, h.ap, hrd, hp, grown_trans h.g hg, ⟨hb.1, hb.2.1, by omega, hb.2.2.2⟩, ⟨h.bb.1, by omega⟩, hh, Box.kept (row := some R) h.a hg (by simp; omega), Box.kept (row := some R) h.b hg (by simp; omega), Box.kept (row := some R) h.c hg (by simp; omega), Box.kept (row := some R) h.d hg (by simp; omega)⟩
theorem grown_over {w wx w' : World} {R C : Nat} (hg : w.grownBy wx (some R)) (hb : Below C wx w') (hC : w.heap.size ≤ C) : w.grownBy w' (some R) :=
  ⟨hb.os.trans hg.os, hb.tape.trans hg.tape, hb.output.trans hg.output, Nat.le_trans hg.size hb.size, fun k hk hne => (hb.block k (by omega)).trans (hg.block k hk hne)⟩
/-- a call that writes nothing old -/
theorem St4.calls (h : St4 w R ao len cap P HC HD n s r m t q BA va la BB vb lb p wx) {w' : World} (hb : Below wx.heap.size wx w') : St4 w R ao len cap P HC HD n s r m t q BA va la BB vb lb p w' :=
  h.draw (rd_below h.rd hb h.rd.lt) h.p (grown_of_below hb)
/-- the second list grows -/
theorem St4.grewB (h : St4 w R ao len cap P HC HD n s r m t q BA va la BB vb lb p wx) {w' : World} {vb' : Value} {lb' : List Int} (hg : Grew wx w' vb vb') (ho : OwnI 3 w' BB vb' lb') (hl : lb'.length ≤ 40 ∧ Nearly lb') : St4 w R ao len cap P HC HD n s r m t q BA va la BB vb' lb' p w' := by
  have hb := h.ba
  have hh := h.h
  have hbb := h.bb
  have hbel : Below BB wx w' := hg.below h.ob h.bb.2
  have hz := hbel.size
  obtain ⟨k1, k2⟩ := hg.keep h.oa h.ap.symm
  exact ⟨k1, ho, h.la, hl, k2.symm, rd_below h.rd hbel (by omega), h.p, grown_over h.g hbel (by omega), ⟨hb.1, hb.2.1, by omega, hb.2.2.2⟩, ⟨hbb.1, by omega⟩, hh, h.a.below hbel (by omega), h.b.below hbel (by omega), h.c.below hbel (by omega), h.d.below hbel (by omega)⟩
/-- the first list grows -/
theorem St4.grewA (h : St4 w R ao len cap P HC HD n s r m t q BA va la BB vb lb p wx) {w' : World} {va' : Value} {la' : List Int} (hg : Grew wx w' va va') (ho : OwnI 3 w' BA va' la') (hl : la'.length ≤ 40 ∧ Nearly la') : St4 w R ao len cap P HC HD n s r m t q BA va' la' BB vb lb p w' := by
  have hb := h.ba
  have hh := h.h
  have hbb := h.bb
  have hbel : Below BA wx w' := hg.below h.oa hb.2.2.1
  have hz := hbel.size
  obtain ⟨k1, k2⟩ := hg.keep h.ob h.ap
  exact ⟨ho, k1, hl, h.lb, k2, rd_below h.rd hbel (by omega), h.p, grown_over h.g hbel (by omega), ⟨hb.1, hb.2.1, by omega, hb.2.2.2⟩, ⟨hbb.1, by omega⟩, hh, h.a.below hbel (by omega), h.b.below hbel (by omega), h.c.below hbel (by omega), h.d.below hbel (by omega)⟩
/-- the second list anew -/
theorem St4.newB (h : St4 w R ao len cap P HC HD n s r m t q BA va la BB vb lb p wx) : St4 w R ao len cap P HC HD n s r m t q BA va la wx.heap.size (.slice (some ⟨wx.heap.size, 0, none⟩) 0 0) [] p (wx.alloc (.cells #[] 3)) := by
  have hbel : Below wx.heap.size wx (wx.alloc (.cells #[] 3)) := (Below.refl _ _).alloc (Nat.le_refl _) _
  have h2 := h.calls hbel
  have ho : OwnI 3 (wx.alloc (.cells #[] 3)) wx.heap.size (.slice (some ⟨wx.heap.size, 0, none⟩) 0 0) [] := World.ownsRow_made wx #[] 0 (Nat.le_refl _) (by decide) rfl
  have hz := hbel.size
  have hbb := h.bb
  refine ⟨h2.oa, ho, h2.la, ⟨by simp, fun x hx => by cases hx⟩, fun k hk h1 => ?_, h2.rd, h2.p, h2.g, h2.ba, ⟨by omega, hz⟩, h2.h, h2.a, h2.b, h2.c, h2.d⟩
  have := (World.ownsRow.lt h.oa k hk).2
  simp [Value.ownBlock] at h1
  omega
/-- the first structure anew -/
theorem St4.setC (h : St4 w R ao len cap P HC HD n s r m t q BA va la BB vb lb p wx) (n' : Int) (s' r' : ByteArray) : St4 w R ao len cap P HC HD n' s' r' m t q BA va la BB vb lb p (((wx.setCell ⟨HC, 0, none⟩ (.int .i64 n')).setCell ⟨HC, 1, none⟩ (.string s')).setCell ⟨HC, 2, none⟩ (.string r')) := by
  have hb := h.ba
  have hh := h.h
  have hbb := h.bb
  have g1 : ∀ (W : World) (o : Nat) (u : Value), W.grownBy (W.setCell ⟨HC, o, none⟩ u) (some HC) := fun W o u => grown_setCell W HC o u
  have hg : wx.grownBy (((wx.setCell ⟨HC, 0, none⟩ (.int .i64 n')).setCell ⟨HC, 1, none⟩ (.string s')).setCell ⟨HC, 2, none⟩ (.string r')) (some HC) := grown_trans (grown_trans (g1 _ _ _) (g1 _ _ _)) (g1 _ _ _)
  have hz := hg.size
  exact ⟨ownKept h.oa hg (by omega), ownKept h.ob hg (by omega), h.la, h.lb, h.ap, rd_sets h.rd (by omega), h.p, grown_sets h.g (by omega), ⟨hb.1, hb.2.1, by omega, hb.2.2.2⟩, ⟨hbb.1, by omega⟩, hh, box_others h.a (by omega), box_others h.b (by omega), ((Box.set0 h.c n').set1 s').set2 r', box_others h.d (by omega)⟩
end
theorem spot {w : World} {ao : Option Addr} {n cap : Nat} {l : List Int} (h : Reads w (.slice ao n cap) l) (hn : n = l.length) (h1 : 1 ≤ n) : ∃ b off, ao = some ⟨b, off, none⟩ ∧ b < w.heap.size ∧ ∀ i, i < n → w.cell? ⟨b, off + i, none⟩ = some (.int .i64 (l.getD i 0)) := by
  obtain ⟨ao', c', hv', hc', _⟩ := h
  simp only [Value.slice.injEq] at hv'
  rcases hc' with h | ⟨b, off, he, hc⟩
  · rw [h] at hn; simp at hn; omega
  · exact ⟨b, off, hv'.1.trans he, World.block_lt_of_cell? w _ (hc 0 (by omega)), fun i hi => hc i (by omega)⟩
theorem reads_grown {w w' : World} {R B : Nat} {v : Value} {l : List Int} (h : Reads w v l) (hf : From B v) (hB : R < B) (hg : w.grownBy w' (some R)) : Reads w' v l := by
  obtain ⟨ao, cap, hv, hc, hn⟩ := h
  refine ⟨ao, cap, hv, ?_, hn⟩
  rcases hc with h | ⟨b, off, ha, hc⟩
  · exact .inl h
  · refine .inr ⟨b, off, ha, fun i hi => hg.cell (hc i hi) ?_⟩
    have : B ≤ b := hf ⟨b, off, none⟩ l.length cap (by rw [hv, ha])
    simp; omega
theorem own_sets {T : TypeId} {w : World} {B b : Nat} {v : Value} {l : List Int} {u0 u1 u2 : Value} (h : OwnI T w B v l) (hb : b < B) : OwnI T (((w.setCell ⟨b, 0, none⟩ u0).setCell ⟨b, 1, none⟩ u1).setCell ⟨b, 2, none⟩ u2) B v l :=
  ownKept (ownKept (ownKept h (grown_setCell w b 0 u0) hb) (grown_setCell _ b 1 u1) hb) (grown_setCell _ b 2 u2) hb
theorem nearly_of {l : List Int} {N : Nat} (hN : N ≤ 8) (h : ∀ x, x ∈ l → 0 ≤ x ∧ x < (N : Int)) : Nearly l := fun x hx => by have := h x hx; omega
theorem nearly_take {l : List Int} (h : Nearly l) (i : Nat) (hi : i < l.length) : -1 ≤ l.getD i 0 ∧ l.getD i 0 ≤ 8 := by
  rw [List.getD_eq_getElem?_getD, List.getElem?_eq_getElem hi]
  exact h _ (List.getElem_mem _)

set_option maxHeartbeats 12800000 in
set_option maxRecDepth 100000 in
theorem l4Pair_any (R : Nat) (ao : Option Addr) (len cap p : Nat) (w : World) (h : Rd w R ao len cap p) (hp : p ≤ 40000000) :
    Calls Tryd.prog 106 #[.pointer (some ⟨R, 0, none⟩)] w (DrawnL4 w R ao len cap (p + 2000)) := by
  have hRl := h.lt
  obtain ⟨W0, hW0⟩ : ∃ QZ, QZ = ((w.alloc (.cells #[.int .i64 0, .string ⟨#[]⟩, .string ⟨#[]⟩] 24)).alloc (.cells #[.int .i64 0, .string ⟨#[]⟩, .string ⟨#[]⟩] 24)) := ⟨_, rfl⟩
  have RD_0 : Hid (Rd W0 R ao len cap p) := by rw [hW0]; exact h.alloc _ |>.alloc _
  have GR_0 : Hid (w.grownBy W0 (some R)) := by rw [hW0]; exact (grown_alloc (World.grownBy_alloc w _ _) _)
  have BA_0 : Hid (Box 24 W0 (w.heap.size) 0 ⟨#[]⟩ ⟨#[]⟩) := by rw [hW0]; exact (Box.new 24 w w.heap.size rfl 0 ⟨#[]⟩ ⟨#[]⟩).below ((Below.refl (w.heap.size + 1) _).alloc (by simp) _) (by omega)
  have BB_0 : Hid (Box 24 W0 (w.heap.size + 1) 0 ⟨#[]⟩ ⟨#[]⟩) := by rw [hW0]; exact Box.new 24 _ (w.heap.size + 1) (by simp) 0 ⟨#[]⟩ ⟨#[]⟩
  clear h
  go_enter Tryd.func106, Tryd.ntmps106
  go_wp2_with fail
  rw [← hW0]
  clear hW0
  go_wp2_with fail
  refine (l1Pair_any R ao len cap p _ RD_0.out (by omega)).mono ?_
  rintro e W1 ⟨N, s, r, M, t, q, p1, rfl, ⟨hN1, hN2, hs, hr⟩, ⟨hM1, hM2, ht, hq⟩, hrd, hp1, hg⟩
  have RD_1 := Lib.hid hrd
  have GR_1 := Lib.hid (grown_trans GR_0.out hg)
  have BA_1 := Lib.hid (Box.kept (row := some R) BA_0.out hg (by simp; omega))
  have BB_1 := Lib.hid (Box.kept (row := some R) BB_0.out hg (by simp; omega))
  clear hrd hg
  clear RD_0 GR_0 BA_0 BB_0
  have HN := Lib.hid (show _ ∧ _ ∧ _ ∧ _ from ⟨hs, hr, ht, hq⟩)
  clear hs hr ht hq
  obtain ⟨HC, hHC⟩ : ∃ QZ, QZ = W1.heap.size := ⟨_, rfl⟩
  have hlC : (w.heap.size + 1) < HC := by rw [hHC]; exact BB_1.out.lt
  obtain ⟨W2, hW2⟩ : ∃ QZ, QZ = W1.alloc (.cells #[.int .i64 N, .string s, .string r] 24) := ⟨_, rfl⟩
  have RD_2 : Hid (Rd W2 R ao len cap p1) := by rw [hW2]; exact RD_1.out.alloc _
  have GR_2 : Hid (w.grownBy W2 (some R)) := by rw [hW2]; exact grown_alloc GR_1.out _
  have BA_2 : Hid (Box 24 W2 (w.heap.size) 0 ⟨#[]⟩ ⟨#[]⟩) := by rw [hW2]; exact BA_1.out.below ((Below.refl W1.heap.size W1).alloc (Nat.le_refl _) _) BA_1.out.lt
  have BB_2 : Hid (Box 24 W2 (w.heap.size + 1) 0 ⟨#[]⟩ ⟨#[]⟩) := by rw [hW2]; exact BB_1.out.below ((Below.refl W1.heap.size W1).alloc (Nat.le_refl _) _) BB_1.out.lt
  have BC_2 : Hid (Box 24 W2 HC N s r) := by rw [hW2, hHC]; exact Box.new _ _ _ rfl _ _ _
  clear RD_1 GR_1 BA_1 BB_1
  obtain ⟨HD, hHD⟩ : ∃ QZ, QZ = W2.heap.size := ⟨_, rfl⟩
  have hlD : HC < HD := by rw [hHD]; exact BC_2.out.lt
  obtain ⟨W3, hW3⟩ : ∃ QZ, QZ = W2.alloc (.cells #[.int .i64 M, .string t, .string q] 24) := ⟨_, rfl⟩
  have RD_3 : Hid (Rd W3 R ao len cap p1) := by rw [hW3]; exact RD_2.out.alloc _
  have GR_3 : Hid (w.grownBy W3 (some R)) := by rw [hW3]; exact grown_alloc GR_2.out _
  have BA_3 : Hid (Box 24 W3 (w.heap.size) 0 ⟨#[]⟩ ⟨#[]⟩) := by rw [hW3]; exact BA_2.out.below ((Below.refl W2.heap.size W2).alloc (Nat.le_refl _) _) BA_2.out.lt
  have BB_3 : Hid (Box 24 W3 (w.heap.size + 1) 0 ⟨#[]⟩ ⟨#[]⟩) := by rw [hW3]; exact BB_2.out.below ((Below.refl W2.heap.size W2).alloc (Nat.le_refl _) _) BB_2.out.lt
  have BC_3 : Hid (Box 24 W3 HC N s r) := by rw [hW3]; exact BC_2.out.below ((Below.refl W2.heap.size W2).alloc (Nat.le_refl _) _) BC_2.out.lt
  have BD_3 : Hid (Box 24 W3 HD M t q) := by rw [hW3, hHD]; exact Box.new _ _ _ rfl _ _ _
  clear RD_2 GR_2 BA_2 BB_2 BC_2
  have hz3 : W3.heap.size = HD + 1 := by rw [hHD, hW3]; simp
  have hHD2 : HD = HC + 1 := by rw [hHD, hW2, World.size_alloc, ← hHC]
  clear hHD
  go_wp2_with fail
  rw [← hW2]
  rw [← hHC]
  rw [← hW3]
  rw [← hHD2]
  clear hW2 hHC hW3 hHD2
  refine (num_lit R ao len cap p1 7 (HD + 1) _ [1, 2, 0, 3, 2, 1, 4] W3 RD_3.out (by omega) rfl rfl (by decide) (by decide) hz3).mono ?_
  rintro e W6 ⟨xn, hxn, rfl, hrd, hg0⟩
  have hg := grown_trans (World.grownBy_alloc W3 _ (some R)) hg0
  clear hg0
  have RD_4 := Lib.hid hrd
  have GR_4 := Lib.hid (grown_trans GR_3.out hg)
  have BA_4 := Lib.hid (Box.kept (row := some R) BA_3.out hg (by simp; omega))
  have BB_4 := Lib.hid (Box.kept (row := some R) BB_3.out hg (by simp; omega))
  have BC_4 := Lib.hid (Box.kept (row := some R) BC_3.out hg (by simp; omega))
  have BD_4 := Lib.hid (Box.kept (row := some R) BD_3.out hg (by simp; omega))
  clear hrd hg
  clear RD_3 GR_3 BA_3 BB_3 BC_3 BD_3
  obtain ⟨nn, rfl, hnn⟩ : ∃ nn : Nat, xn = nn ∧ nn ≤ 4 := by
    simp only [List.mem_cons, List.not_mem_nil, or_false] at hxn
    rcases hxn with rfl | rfl | rfl | rfl | rfl | rfl | rfl
    · exact ⟨1, rfl, by omega⟩
    · exact ⟨2, rfl, by omega⟩
    · exact ⟨0, rfl, by omega⟩
    · exact ⟨3, rfl, by omega⟩
    · exact ⟨2, rfl, by omega⟩
    · exact ⟨1, rfl, by omega⟩
    · exact ⟨4, rfl, by omega⟩
  clear hxn
  obtain ⟨c0, c1, c2⟩ := Box.c BC_4.out
  go_wp2_with fail
  refine (l4Some_any R ao len cap (p1 + 1) nn N s r _ RD_4.out (by omega) (by omega) hN1 hN2).mono ?_
  rintro e W7 ⟨va, la, rfl, hla, hlb, hoa, hrd, hg⟩
  obtain ⟨BA, hBA⟩ : ∃ BA, BA = W6.heap.size := ⟨_, rfl⟩
  have hRBA : R < BA ∧ HD < BA ∧ w.heap.size ≤ BA := by rw [hBA]; exact ⟨RD_4.out.lt, BD_4.out.lt, GR_4.out.size⟩
  rw [← hBA] at hoa
  have OA := Lib.hid hoa
  have LA := Lib.hid (show _ ∧ _ from ⟨hla, nearly_of hN2 hlb⟩)
  have hBA7 : BA ≤ W7.heap.size := by rw [hBA]; exact hg.size
  clear hoa hla hlb hBA c0 c1 c2
  have RD_5 := Lib.hid hrd
  have GR_5 := Lib.hid (grown_trans GR_4.out hg)
  have BA_5 := Lib.hid (Box.kept (row := some R) BA_4.out hg (by simp; omega))
  have BB_5 := Lib.hid (Box.kept (row := some R) BB_4.out hg (by simp; omega))
  have BC_5 := Lib.hid (Box.kept (row := some R) BC_4.out hg (by simp; omega))
  have BD_5 := Lib.hid (Box.kept (row := some R) BD_4.out hg (by simp; omega))
  clear hrd hg
  clear RD_4 GR_4 BA_4 BB_4 BC_4 BD_4
  obtain ⟨d0, d1, d2⟩ := Box.c BD_5.out
  go_wp2_with fail
  refine (l4Some_any R ao len cap (p1 + 1 + nn) nn M t q _ RD_5.out (by omega) (by omega) hM1 hM2).mono ?_
  rintro e W8 ⟨vb, lb, rfl, hla, hlb, hob, hrd, hg⟩
  obtain ⟨BB, hBB⟩ : ∃ BB, BB = W7.heap.size := ⟨_, rfl⟩
  rw [← hBB] at hob
  have OB := Lib.hid hob
  have LB := Lib.hid (show _ ∧ _ from ⟨hla, nearly_of hM2 hlb⟩)
  have AP : Hid (Apart va vb) := fun k h1 h2 => by have a := (World.ownsRow.lt OA.out k h1).2; have b := (World.ownsRow.lt hob k h2).1; omega
  have OA2 := Lib.hid (ownKept OA.out hg hRBA.1)
  have hBB8 : BB ≤ W8.heap.size ∧ BA ≤ BB := by rw [hBB]; exact ⟨hg.size, hBA7⟩
  clear hob hla hlb hBB OA d0 d1 d2
  have RD_6 := Lib.hid hrd
  have GR_6 := Lib.hid (grown_trans GR_5.out hg)
  have BA_6 := Lib.hid (Box.kept (row := some R) BA_5.out hg (by simp; omega))
  have BB_6 := Lib.hid (Box.kept (row := some R) BB_5.out hg (by simp; omega))
  have BC_6 := Lib.hid (Box.kept (row := some R) BC_5.out hg (by simp; omega))
  have BD_6 := Lib.hid (Box.kept (row := some R) BD_5.out hg (by simp; omega))
  clear hrd hg
  clear RD_5 GR_5 BA_5 BB_5 BC_5 BD_5
  have ST : Hid (St4 w R ao len cap (p + 2000) HC HD N s r M t q BA va la BB vb lb (p1 + 1 + nn + nn) W8) := ⟨OA2.out, OB.out, ⟨by have := LA.out.1; omega, LA.out.2⟩, ⟨by have := LB.out.1; omega, LB.out.2⟩, AP.out, RD_6.out, by omega, GR_6.out, ⟨hRBA.2.2, hRBA.1, by omega, hRBA.2.1⟩, ⟨hBB8.2, hBB8.1⟩, ⟨by omega, by omega, by omega, hRl⟩, BA_6.out, BB_6.out, BC_6.out, BD_6.out⟩
  clear OA2 OB AP hBB8 hBA7 hRBA
  obtain ⟨c0, c1, c2⟩ := Box.c ST.out.c
  obtain ⟨d0, d1, d2⟩ := Box.c ST.out.d
  clear RD_6 GR_6 BA_6 BB_6 BC_6 BD_6
  go_wp2_with fail
  clear c0 c1 c2 d0 d1 d2
  refine (specSameShape_any N s r M t q _ hN2 hM2 HN.out.1 HN.out.2.1 HN.out.2.2.1 HN.out.2.2.2).mono ?_
  rintro e W9 ⟨vo, lo, ok, rfl, hro, hlo, hb, hfr⟩
  have ST9 := Lib.hid (ST.out.calls hb)
  have ORD := Lib.hid (show _ ∧ _ ∧ _ from ⟨hro, hlo, hfr⟩)
  have hRW : R < W8.heap.size := ST.out.rd.lt
  clear hro hlo hb hfr ST
  have hpb : (p1 + 1 + nn + nn) + 2 ≤ p + 2000 := by omega
  go_upto_region 6 with (fail)
  go_cut [42] from 37 to 42 (fun c wx => ∃ (cb : Bool) (p2 : Nat), c = .bool cb ∧ St4 w R ao len cap (p + 2000) HC HD N s r M t q BA va la BB vb lb p2 wx ∧ p2 ≤ (p1 + 1 + nn + nn) + 1 ∧ Reads wx vo lo ∧ From W8.heap.size vo)
  case first =>
    cases ok with
    | false =>
      go_wp2
      go_meet
      exact ⟨false, _, rfl, ST9.out, by omega, ORD.out.1, ORD.out.2.2⟩
    | true =>
      go_wp2_with fail
      refine (pick_any R ao len cap (p1 + 1 + nn + nn) 4 _ ST9.out.rd (by omega) (by omega) (by omega)).mono ?_
      rintro e W10 ⟨v2, hv2, rfl, hrd, hg⟩
      have ST10 := Lib.hid (ST9.out.draw hrd (by omega) hg)
      have OR10 := Lib.hid (show _ ∧ _ from ⟨reads_grown ORD.out.1 ORD.out.2.2 hRW hg, ORD.out.2.2⟩)
      clear hrd hg ST9 ORD
      go_wp2
      go_meet
      exact ⟨_, _, rfl, ST10.out, by omega, OR10.out.1, OR10.out.2⟩
  case rest =>
    obtain ⟨cb, p2, rfl, hst, hp2, hro, hfr⟩ := hcut
    have ST10 := Lib.hid hst
    have OR10 := Lib.hid (show _ ∧ _ from ⟨hro, ORD.out.2.1⟩)
    clear hst hro hfr ST9 ORD
    go_upto_if 42 with (fail)
    go_cut [10, 13, 14] from 43 to 67 (fun b i k wx => ∃ (BB2 : Nat) (vb2 : Value) (lb2 : List Int) (p2 : Nat), vb2 = b ∧ St4 w R ao len cap (p + 2000) HC HD N s r M t q BA va la BB2 vb2 lb2 p2 wx ∧ p2 ≤ (p1 + 1 + nn + nn) + 1 ∧ lb2.length ≤ 36)
    case first =>
      cases cb with
      | false =>
        go_wp2
        go_meet
        exact ⟨BB, _, lb, _, rfl, ST10.out, by omega, by have := LB.out.1; omega⟩
      | true =>
        obtain ⟨ao2, co, hvo⟩ := OR10.out.1.len
        obtain ⟨no, hno⟩ : ∃ no, no = lo.length := ⟨_, rfl⟩
        rw [← hno] at hvo
        subst hvo
        obtain ⟨aa, ca, hva⟩ := OwnI.reads ST10.out.oa |>.len
        rw [LA.out.1] at hva
        subst hva
        have HNO := Lib.hid hno
        have hno8 : no ≤ 8 := by rw [hno]; exact OR10.out.2
        have START := Lib.hid ST10.out.newB
        have RA := Lib.hid (OwnI.reads ST10.out.oa)
        have hz10 : BA ≤ wc.heap.size := ST10.out.ba.2.2.1
        clear hno
        obtain ⟨W11, hW11⟩ : ∃ q, q = wc.alloc (.cells #[] 3) := ⟨_, rfl⟩
        have hb11 : Hid (Below wc.heap.size wc W11) := by rw [hW11]; exact (Below.refl _ _).alloc (Nat.le_refl _) _
        rw [← hW11] at START
        go_wp2_with fail
        rw [← hW11]
        clear hW11 ST10
        go_loopw [10, 13] (fun v i wr => ∃ I : Nat, ∃ u l, u = v ∧ I ≤ nn ∧ i = .int .i64 I ∧ St4 w R ao len cap (p + 2000) HC HD N s r M t q BA (.slice aa nn ca) la wc.heap.size u l p2 wr ∧ l.length ≤ 8 * I ∧ Below wc.heap.size wc wr) (fun _ i _ => nn - (intOf i).toNat)
        case atStart => exact ⟨0, _, [], rfl, Nat.zero_le _, rfl, START.out, by simp, hb11.out⟩
        case round =>
          clear START hb11
          obtain ⟨I, u, l, rfl, hI, rfl, hst, hll, hb⟩ := hrel
          by_cases hIn : I < nn
          · have tI : decide ((I : Int) < (nn : Int)) = true := by simp; omega
            have HS := Lib.hid (show _ ∧ _ from ⟨hst, hb⟩)
            clear hst hb
            go_wp2_with fail
            go_loopw [10, 14] (fun v i wr => ∃ K : Nat, ∃ u l, u = v ∧ K ≤ no ∧ i = .int .i64 K ∧ St4 w R ao len cap (p + 2000) HC HD N s r M t q BA (.slice aa nn ca) la wc.heap.size u l p2 wr ∧ l.length ≤ 8 * I + K ∧ Below wc.heap.size wc wr) (fun _ i _ => no - (intOf i).toNat)
            case atStart => exact ⟨0, _, l, rfl, Nat.zero_le _, rfl, HS.out.1, by omega, HS.out.2⟩
            case round =>
              clear HS
              obtain ⟨K, u2, l2, rfl, hK, rfl, hst, hl2, hb⟩ := hrel
              by_cases hKn : K < no
              · have tK : decide ((K : Int) < (no : Int)) = true := by simp; omega
                have HS := Lib.hid (show _ ∧ _ from ⟨hst, hb⟩)
                obtain ⟨b1, o1, rfl, hb1, hc1⟩ := spot OR10.out.1 HNO.out (by omega)
                obtain ⟨b2, o2, rfl, hb2, hc2⟩ := spot RA.out LA.out.1.symm (by omega)
                have k1 : wr.cell? ⟨b1, o1 + K, none⟩ = some (.int .i64 (lo.getD K 0)) := by rw [hb.cell (p := ⟨b1, o1 + K, none⟩) hb1]; exact hc1 K hKn
                have k2 : wr.cell? ⟨b2, o2 + I, none⟩ = some (.int .i64 (la.getD I 0)) := by rw [hb.cell (p := ⟨b2, o2 + I, none⟩) hb2]; exact hc2 I hIn
                obtain ⟨x1, hx1⟩ : ∃ x, x = lo.getD K 0 := ⟨_, rfl⟩
                obtain ⟨x2, hx2⟩ : ∃ x, x = la.getD I 0 := ⟨_, rfl⟩
                rw [← hx1] at k1
                rw [← hx2] at k2
                clear hst hb hc1 hc2 hx1 hx2 hb1 hb2
                have q1 : ∀ X : Wd (fun Z => Z = wr.drew), X.w.cell? ⟨b1, o1 + K, none⟩ = some (.int .i64 x1) := fun X => by rw [X.ok]; exact k1
                have q2 : ∀ X : Wd (fun Z => Z = wr.drew), X.w.cell? ⟨b2, o2 + I, none⟩ = some (.int .i64 x2) := fun X => by rw [X.ok]; exact k2
                have hne : Nonempty (Wd (fun Z => Z = wr.drew)) := ⟨⟨wr.drew, rfl⟩⟩
                have HD1 : Hid (St4 w R ao len cap (p + 2000) HC HD N s r M t q BA (.slice (some ⟨b2, o2, none⟩) nn ca) la wc.heap.size u2 l2 p2 wr.drew ∧ Below wc.heap.size wc wr.drew) := ⟨HS.out.1.draw HS.out.1.rd.drew HS.out.1.p ⟨rfl, rfl, rfl, Nat.le_refl _, fun _ _ _ => rfl⟩, HS.out.2.drew⟩
                clear HS k1 k2
                go_wp2_with fail
                refine flow_all (S := (fun Z => Z = wr.drew)) (by kernel_rfl) (by kernel_rfl) rfl ?_
                repeat (go_big_quiet_step (fail))
                refine wpQuiet_nil ?_
                rintro _ ⟨X, rfl⟩
                have hX : X.w = wr.drew := X.ok
                rw [hX]
                clear q1 q2 hne hX X
                obtain ⟨w12, hw12⟩ : ∃ q, q = wr.drew := ⟨_, rfl⟩
                rw [← hw12] at HD1 ⊢
                clear hw12
                by_cases he : x1 = x2
                · have te : (x1 == x2) = true := by simpa using he
                  have hbz := HD1.out.1.bb.2
                  clear he
                  go_wp2_with (at_builtin; refine wpList_app1 w12 rfl (.tmp 64) (.tmp 66) 32 rfl wc.heap.size 3 (.int .i64 0) 8 Tryd.underlying32 sl.infoInt rfl (by decide) u2 _ _ (.int .i64 K) rfl HD1.out.1.ob w12.heap.size rfl rfl rfl (by omega) hbz ?_)
                  intro g cap' w13 hown hgr
                  have hown' : OwnI 3 w13 wc.heap.size (.slice (some ⟨g, 0, none⟩) (l2.length + 1) cap') (l2 ++ [(K : Int)]) := by unfold OwnI; rw [List.length_append, ivs_append]; exact hown
                  have R13 : Hid (St4 w R ao len cap (p + 2000) HC HD N s r M t q BA (.slice (some ⟨b2, o2, none⟩) nn ca) la wc.heap.size (.slice (some ⟨g, 0, none⟩) (l2.length + 1) cap') (l2 ++ [(K : Int)]) p2 w13 ∧ (l2 ++ [(K : Int)]).length ≤ 8 * I + (K + 1) ∧ Below wc.heap.size wc w13) :=
                    ⟨HD1.out.1.grewB hgr hown' ⟨by simp; omega, HD1.out.1.lb.2.app (by omega)⟩, by simp; omega, HD1.out.2.trans (hgr.below HD1.out.1.ob hbz)⟩
                  clear hown hown' hgr HD1
                  go_wp2
                  go_roundw
                  case rel => first | exact ⟨K + 1, _, _, rfl, by omega, by go_num, R13.out⟩ | ((repeat apply Exists.intro); exact ⟨⟨K + 1, _, _, rfl, by omega, by go_num, R13.out⟩, rfl⟩)
                  case measure => simp [intOf]; omega
                · have te : (x1 == x2) = false := by simpa using he
                  clear he
                  go_wp2
                  go_roundw
                  case rel => first | exact ⟨K + 1, _, l2, rfl, by omega, by go_num, HD1.out.1, by omega, HD1.out.2⟩ | ((repeat apply Exists.intro); exact ⟨⟨K + 1, _, l2, rfl, by omega, by go_num, HD1.out.1, by omega, HD1.out.2⟩, rfl⟩)
                  case measure => simp [intOf]; omega
              · obtain rfl : no = K := by omega
                have tK : decide ((no : Int) < (no : Int)) = false := by simp
                have HS := Lib.hid (show _ ∧ _ from ⟨hst, hb⟩)
                clear hst hb
                go_wp2
                go_roundw
                case rel => first | exact ⟨I + 1, _, l2, rfl, by omega, by go_num, HS.out.1, by omega, HS.out.2⟩ | ((repeat apply Exists.intro); exact ⟨⟨I + 1, _, l2, rfl, by omega, by go_num, HS.out.1, by omega, HS.out.2⟩, rfl⟩)
                case measure => simp [intOf]; omega
          · obtain rfl : nn = I := by omega
            have tI : decide ((nn : Int) < (nn : Int)) = false := by simp
            have HS := Lib.hid hst
            clear hst hb
            go_wp2
            go_meet
            exact ⟨_, _, _, _, rfl, HS.out, by omega, by omega⟩
    case rest =>
      clear OR10 ST10
      obtain ⟨BB2, vb2, lb2, p2', hvb2, hst, hp2', hlb2⟩ := hcut
      subst hvb2
      have ST := Lib.hid hst
      clear hst
      go_wp2_with fail
      refine (pick_any R ao len cap p2' 40 _ ST.out.rd (by omega) (by omega) (by omega)).mono ?_
      rintro e W20 ⟨v3, hv3, rfl, hrd, hg⟩
      have ST20 := Lib.hid (ST.out.draw hrd (by omega) hg)
      clear hrd hg ST
      have hnw : (Lit.int .i64 (N : Int)).wf = true := small_wf N (by omega)
      have hNN : 1 ≤ r.size ∧ r.size ≤ 64 := by rw [HN.out.2.1]; exact ⟨Nat.mul_le_mul hN1 hN1, Nat.mul_le_mul hN2 hN2⟩
      have hs100 : s.size ≤ 100 := by have := HN.out.1; omega
      have HMQ : Hid ((Lit.int .i64 (M : Int)).wf = true ∧ t.size ≤ 100 ∧ q.size ≤ 100) := by
        have h64 : M * M ≤ 8 * 8 := Nat.mul_le_mul hM2 hM2
        have := HN.out
        exact ⟨small_wf M (by omega), by omega, by omega⟩
      rcases (show v3 = 0 ∨ v3 = 1 ∨ v3 = 2 ∨ 3 ≤ v3 by omega) with rfl | rfl | rfl | h3
      · go_wp2_with fail
        refine (num_lit R ao len cap (p2' + 1) 3 W20.heap.size _ [-1, 8, 0] W20 ST20.out.rd (by omega) rfl rfl (by decide) (by decide) rfl).mono ?_
        rintro e W21 ⟨x, hx, rfl, hrd, hg0⟩
        have hg := grown_trans (World.grownBy_alloc W20 _ (some R)) hg0
        have ST21 := Lib.hid (ST20.out.draw hrd (by omega) hg)
        have hxb : -1 ≤ x ∧ x ≤ 8 := by
          simp only [List.mem_cons, List.not_mem_nil, or_false] at hx
          rcases hx with rfl | rfl | rfl <;> omega
        have hba := ST21.out.ba.2.2.1
        clear hx hrd hg hg0 ST20
        go_wp2_with (at_builtin; refine wpList_app1 W21 rfl (.tmp 72) (.tmp 76) 32 rfl BA 3 (.int .i64 0) 8 Tryd.underlying32 sl.infoInt rfl (by decide) va _ _ (.int .i64 x) rfl ST21.out.oa W21.heap.size rfl rfl rfl (by have := LA.out.1; omega) hba ?_)
        intro g cap' W22 hown hgr
        have hown' : OwnI 3 W22 BA (.slice (some ⟨g, 0, none⟩) (la.length + 1) cap') (la ++ [x]) := by unfold OwnI; rw [List.length_append, ivs_append]; exact hown
        have ST22 := Lib.hid (ST21.out.grewA hgr hown' ⟨by have := LA.out.1; simp; omega, ST21.out.la.2.app hxb⟩)
        clear hown hown' hgr ST21 hxb
        have RD_50 := Lib.hid ST22.out.rd
        have GR_50 := Lib.hid ST22.out.g
        have BA_50 := Lib.hid ST22.out.a
        have BB_50 := Lib.hid ST22.out.b
        have BC_50 := Lib.hid ST22.out.c
        have BD_50 := Lib.hid ST22.out.d
        have OA_50 := Lib.hid ST22.out.oa
        have OB_50 := Lib.hid ST22.out.ob
        have LAB := Lib.hid (show _ ∧ _ ∧ _ from ⟨ST22.out.la, ST22.out.lb, ST22.out.p⟩)
        have hh1 := ST22.out.h
        have hh2 := ST22.out.ba
        have hh3 := ST22.out.bb
        clear ST22
        have q0 : ∀ QQ : Wd (fun Q => Q.cell? ⟨HC, 0, none⟩ = some (.int .i64 N) ∧ Q.cell? ⟨HC, 1, none⟩ = some (.string s) ∧ Q.cell? ⟨HC, 2, none⟩ = some (.string r) ∧ Q.cell? ⟨HD, 0, none⟩ = some (.int .i64 M) ∧ Q.cell? ⟨HD, 1, none⟩ = some (.string t) ∧ Q.cell? ⟨HD, 2, none⟩ = some (.string q)), QQ.w.cell? ⟨HC, 0, none⟩ = some (.int .i64 N) := fun QQ => QQ.ok.1
        have q1 : ∀ QQ : Wd (fun Q => Q.cell? ⟨HC, 0, none⟩ = some (.int .i64 N) ∧ Q.cell? ⟨HC, 1, none⟩ = some (.string s) ∧ Q.cell? ⟨HC, 2, none⟩ = some (.string r) ∧ Q.cell? ⟨HD, 0, none⟩ = some (.int .i64 M) ∧ Q.cell? ⟨HD, 1, none⟩ = some (.string t) ∧ Q.cell? ⟨HD, 2, none⟩ = some (.string q)), QQ.w.cell? ⟨HC, 1, none⟩ = some (.string s) := fun QQ => QQ.ok.2.1
        have q2 : ∀ QQ : Wd (fun Q => Q.cell? ⟨HC, 0, none⟩ = some (.int .i64 N) ∧ Q.cell? ⟨HC, 1, none⟩ = some (.string s) ∧ Q.cell? ⟨HC, 2, none⟩ = some (.string r) ∧ Q.cell? ⟨HD, 0, none⟩ = some (.int .i64 M) ∧ Q.cell? ⟨HD, 1, none⟩ = some (.string t) ∧ Q.cell? ⟨HD, 2, none⟩ = some (.string q)), QQ.w.cell? ⟨HC, 2, none⟩ = some (.string r) := fun QQ => QQ.ok.2.2.1
        have q3 : ∀ QQ : Wd (fun Q => Q.cell? ⟨HC, 0, none⟩ = some (.int .i64 N) ∧ Q.cell? ⟨HC, 1, none⟩ = some (.string s) ∧ Q.cell? ⟨HC, 2, none⟩ = some (.string r) ∧ Q.cell? ⟨HD, 0, none⟩ = some (.int .i64 M) ∧ Q.cell? ⟨HD, 1, none⟩ = some (.string t) ∧ Q.cell? ⟨HD, 2, none⟩ = some (.string q)), QQ.w.cell? ⟨HD, 0, none⟩ = some (.int .i64 M) := fun QQ => QQ.ok.2.2.2.1
        have q4 : ∀ QQ : Wd (fun Q => Q.cell? ⟨HC, 0, none⟩ = some (.int .i64 N) ∧ Q.cell? ⟨HC, 1, none⟩ = some (.string s) ∧ Q.cell? ⟨HC, 2, none⟩ = some (.string r) ∧ Q.cell? ⟨HD, 0, none⟩ = some (.int .i64 M) ∧ Q.cell? ⟨HD, 1, none⟩ = some (.string t) ∧ Q.cell? ⟨HD, 2, none⟩ = some (.string q)), QQ.w.cell? ⟨HD, 1, none⟩ = some (.string t) := fun QQ => QQ.ok.2.2.2.2.1
        have q5 : ∀ QQ : Wd (fun Q => Q.cell? ⟨HC, 0, none⟩ = some (.int .i64 N) ∧ Q.cell? ⟨HC, 1, none⟩ = some (.string s) ∧ Q.cell? ⟨HC, 2, none⟩ = some (.string r) ∧ Q.cell? ⟨HD, 0, none⟩ = some (.int .i64 M) ∧ Q.cell? ⟨HD, 1, none⟩ = some (.string t) ∧ Q.cell? ⟨HD, 2, none⟩ = some (.string q)), QQ.w.cell? ⟨HD, 2, none⟩ = some (.string q) := fun QQ => QQ.ok.2.2.2.2.2
        have hne : Nonempty (Wd (fun Q => Q.cell? ⟨HC, 0, none⟩ = some (.int .i64 N) ∧ Q.cell? ⟨HC, 1, none⟩ = some (.string s) ∧ Q.cell? ⟨HC, 2, none⟩ = some (.string r) ∧ Q.cell? ⟨HD, 0, none⟩ = some (.int .i64 M) ∧ Q.cell? ⟨HD, 1, none⟩ = some (.string t) ∧ Q.cell? ⟨HD, 2, none⟩ = some (.string q))) := ⟨⟨W22, ⟨(Box.c BC_50.out).1, (Box.c BC_50.out).2.1, (Box.c BC_50.out).2.2, (Box.c BD_50.out).1, (Box.c BD_50.out).2.1, (Box.c BD_50.out).2.2⟩⟩⟩
        go_wp2_with fail
        refine chain (S := (fun Q => Q.cell? ⟨HC, 0, none⟩ = some (.int .i64 N) ∧ Q.cell? ⟨HC, 1, none⟩ = some (.string s) ∧ Q.cell? ⟨HC, 2, none⟩ = some (.string r) ∧ Q.cell? ⟨HD, 0, none⟩ = some (.int .i64 M) ∧ Q.cell? ⟨HD, 1, none⟩ = some (.string t) ∧ Q.cell? ⟨HD, 2, none⟩ = some (.string q))) [([true, true, true, true], 4), ([false, false, false, false, false, true], 6)] [false, false, false, false, false, false, false, true] (by kernel_rfl) (by kernel_rfl) (by kernel_rfl) ⟨(Box.c BC_50.out).1, (Box.c BC_50.out).2.1, (Box.c BC_50.out).2.2, (Box.c BD_50.out).1, (Box.c BD_50.out).2.1, (Box.c BD_50.out).2.2⟩ ?_
        simp only [wpSegs, pickB, List.dropLast_cons_cons, List.dropLast_singleton, List.getLast?_cons_cons, List.getLast?_singleton, List.toList_toArray, List.getElem?_toArray, List.getElem?_cons_succ, List.getElem?_cons_zero, Option.toList_some]
        have OA_51 := Lib.hid (ownKept (R := R) OA_50.out (grown_drew (World.grownBy.refl _ _)) (by omega))
        have OB_51 := Lib.hid (ownKept (R := R) OB_50.out (grown_drew (World.grownBy.refl _ _)) (by omega))
        have RD_51 : Hid (Rd W22.drew R ao len cap (p2' + 1 + 1)) := RD_50.out.drew
        have GR_51 := Lib.hid (grown_drew GR_50.out)
        have BA_51 : Hid (Box 24 W22.drew w.heap.size 0 ⟨#[]⟩ ⟨#[]⟩) := Box.drew BA_50.out
        have BB_51 : Hid (Box 24 W22.drew (w.heap.size + 1) 0 ⟨#[]⟩ ⟨#[]⟩) := Box.drew BB_50.out
        have BC_51 : Hid (Box 24 W22.drew HC N s r) := Box.drew BC_50.out
        have BD_51 : Hid (Box 24 W22.drew HD M t q) := Box.drew BD_50.out
        clear RD_50 GR_50 BA_50 BB_50 BC_50 BD_50 OA_50 OB_50
        have BZ : Box 24 W22 w.heap.size 0 ⟨#[]⟩ ⟨#[]⟩ := BA_51.out
        obtain ⟨z0, z1, z2⟩ := Box.c BZ
        have f0 := Box.free BZ 0
        have f1 := Box.free BZ 1
        have f2 := Box.free BZ 2
        clear BZ
        repeat (go_big_quiet_step (fail))
        refine wpQuiet_nil ?_
        intro K hK
        go_wp2_with fail
        clear z0 z1 z2 f0 f1 f2
        obtain ⟨W52, hWf52⟩ : ∃ QZ, QZ = (((W22.setCell ⟨w.heap.size, 0, none⟩ (.int .i64 N)).setCell ⟨w.heap.size, 1, none⟩ (.string s)).setCell ⟨w.heap.size, 2, none⟩ (.string r)).drew := ⟨_, rfl⟩
        have hW52 : W52 = (((W22.drew.setCell ⟨w.heap.size, 0, none⟩ (.int .i64 N)).setCell ⟨w.heap.size, 1, none⟩ (.string s)).setCell ⟨w.heap.size, 2, none⟩ (.string r)) := hWf52
        have RD_52 : Hid (Rd W52 R ao len cap (p2' + 1 + 1)) := by rw [hW52]; exact rd_sets RD_51.out (by omega)
        have GR_52 : Hid (w.grownBy W52 (some R)) := by rw [hW52]; exact grown_sets GR_51.out (by omega)
        have BA_52 : Hid (Box 24 W52 w.heap.size N s r) := by rw [hW52]; exact ((Box.set0 BA_51.out N).set1 s).set2 r
        have BB_52 : Hid (Box 24 W52 (w.heap.size + 1) 0 ⟨#[]⟩ ⟨#[]⟩) := by rw [hW52]; exact box_others BB_51.out (by omega)
        have BC_52 : Hid (Box 24 W52 HC N s r) := by rw [hW52]; exact box_others BC_51.out (by omega)
        have BD_52 : Hid (Box 24 W52 HD M t q) := by rw [hW52]; exact box_others BD_51.out (by omega)
        have OA_52 : Hid (OwnI 3 W52 BA (.slice (some ⟨g, 0, none⟩) (la.length + 1) cap') (la ++ [x])) := by rw [hW52]; exact own_sets OA_51.out (by omega)
        have OB_52 : Hid (OwnI 3 W52 BB2 vb2 lb2) := by rw [hW52]; exact own_sets OB_51.out (by omega)
        clear RD_51 GR_51 BA_51 BB_51 BC_51 BD_51 OA_51 OB_51
        clear hW52
        rw [← hWf52]
        clear hWf52
        refine hK _ _ ⟨(Box.c BC_52.out).1, (Box.c BC_52.out).2.1, (Box.c BC_52.out).2.2, (Box.c BD_52.out).1, (Box.c BD_52.out).2.1, (Box.c BD_52.out).2.2⟩ ?_
        clear hK K
        have BZ := BB_52.out
        obtain ⟨z0, z1, z2⟩ := Box.c BZ
        have f0 := Box.free BZ 0
        have f1 := Box.free BZ 1
        have f2 := Box.free BZ 2
        clear BZ
        repeat (go_big_quiet_step (fail))
        refine wpQuiet_nil ?_
        intro K hK
        go_wp2_with fail
        clear z0 z1 z2 f0 f1 f2
        obtain ⟨W53, hW53⟩ : ∃ QZ, QZ = (((W52.setCell ⟨w.heap.size + 1, 0, none⟩ (.int .i64 M)).setCell ⟨w.heap.size + 1, 1, none⟩ (.string t)).setCell ⟨w.heap.size + 1, 2, none⟩ (.string q)) := ⟨_, rfl⟩
        have RD_53 : Hid (Rd W53 R ao len cap (p2' + 1 + 1)) := by rw [hW53]; exact rd_sets RD_52.out (by omega)
        have GR_53 : Hid (w.grownBy W53 (some R)) := by rw [hW53]; exact grown_sets GR_52.out (by omega)
        have BA_53 : Hid (Box 24 W53 w.heap.size N s r) := by rw [hW53]; exact box_others BA_52.out (by omega)
        have BB_53 : Hid (Box 24 W53 (w.heap.size + 1) M t q) := by rw [hW53]; exact ((Box.set0 BB_52.out M).set1 t).set2 q
        have BC_53 : Hid (Box 24 W53 HC N s r) := by rw [hW53]; exact box_others BC_52.out (by omega)
        have BD_53 : Hid (Box 24 W53 HD M t q) := by rw [hW53]; exact box_others BD_52.out (by omega)
        have OA_53 : Hid (OwnI 3 W53 BA (.slice (some ⟨g, 0, none⟩) (la.length + 1) cap') (la ++ [x])) := by rw [hW53]; exact own_sets OA_52.out (by omega)
        have OB_53 : Hid (OwnI 3 W53 BB2 vb2 lb2) := by rw [hW53]; exact own_sets OB_52.out (by omega)
        clear RD_52 GR_52 BA_52 BB_52 BC_52 BD_52 OA_52 OB_52
        rw [← hW53]
        clear hW53
        refine hK _ _ ⟨(Box.c BC_53.out).1, (Box.c BC_53.out).2.1, (Box.c BC_53.out).2.2, (Box.c BD_53.out).1, (Box.c BD_53.out).2.1, (Box.c BD_53.out).2.2⟩ ?_
        clear hK K
        repeat (go_big_quiet_step (fail))
        refine wpQuiet_nil ?_
        clear q0 q1 q2 q3 q4 q5 hne
        have HF := Lib.hid (show _ ∧ _ from ⟨Box.c BA_53.out, Box.c BB_53.out⟩)
        have RES := Lib.hid (show _ ∧ _ ∧ _ ∧ _ from ⟨OA_53.out.mono (show w.heap.size ≤ BA by omega), OB_53.out.mono (show w.heap.size ≤ BB2 by omega), RD_53.out, GR_53.out⟩)
        clear RD_53 GR_53 BA_53 BB_53 BC_53 BD_53 OA_53 OB_53
        go_wp2
        exact bodyPost_ret (v := .tuple #[.agg #[.int .i64 N, .string s, .string r], (.slice (some ⟨g, 0, none⟩) (la.length + 1) cap'), .agg #[.int .i64 M, .string t, .string q], vb2]) (by simp [results, Tryd.results106, go_sem, HF.out.1.1, HF.out.1.2.1, HF.out.1.2.2, HF.out.2.1, HF.out.2.2.1, HF.out.2.2.2]) rfl ⟨N, s, r, _, (la ++ [x]), M, t, q, _, lb2, _, rfl, ⟨hnw, hs100, by omega⟩, HMQ.out, ⟨by have := LAB.out.1.1; omega, LAB.out.1.2⟩, ⟨by have := LAB.out.2.1.1; omega, LAB.out.2.1.2⟩, RES.out.1, RES.out.2.1, RES.out.2.2.1, LAB.out.2.2, RES.out.2.2.2⟩
      · have hba := ST20.out.bb.2
        go_wp2_with (at_builtin; refine wpList_app1 W20 rfl (.tmp 80) (.tmp 81) 32 rfl BB2 3 (.int .i64 0) 8 Tryd.underlying32 sl.infoInt rfl (by decide) _ _ _ (.int .i64 0) rfl ST20.out.ob W20.heap.size rfl rfl rfl (by omega) hba ?_)
        intro g cap' W22 hown hgr
        have hown' : OwnI 3 W22 BB2 (.slice (some ⟨g, 0, none⟩) (lb2.length + 1) cap') (lb2 ++ [0]) := by unfold OwnI; rw [List.length_append, ivs_append]; exact hown
        have ST22 := Lib.hid (ST20.out.grewB hgr hown' ⟨by simp; omega, ST20.out.lb.2.app (by omega)⟩)
        clear hown hown' hgr ST20
        have RD_50 := Lib.hid ST22.out.rd
        have GR_50 := Lib.hid ST22.out.g
        have BA_50 := Lib.hid ST22.out.a
        have BB_50 := Lib.hid ST22.out.b
        have BC_50 := Lib.hid ST22.out.c
        have BD_50 := Lib.hid ST22.out.d
        have OA_50 := Lib.hid ST22.out.oa
        have OB_50 := Lib.hid ST22.out.ob
        have LAB := Lib.hid (show _ ∧ _ ∧ _ from ⟨ST22.out.la, ST22.out.lb, ST22.out.p⟩)
        have hh1 := ST22.out.h
        have hh2 := ST22.out.ba
        have hh3 := ST22.out.bb
        clear ST22
        have q0 : ∀ QQ : Wd (fun Q => Q.cell? ⟨HC, 0, none⟩ = some (.int .i64 N) ∧ Q.cell? ⟨HC, 1, none⟩ = some (.string s) ∧ Q.cell? ⟨HC, 2, none⟩ = some (.string r) ∧ Q.cell? ⟨HD, 0, none⟩ = some (.int .i64 M) ∧ Q.cell? ⟨HD, 1, none⟩ = some (.string t) ∧ Q.cell? ⟨HD, 2, none⟩ = some (.string q)), QQ.w.cell? ⟨HC, 0, none⟩ = some (.int .i64 N) := fun QQ => QQ.ok.1
        have q1 : ∀ QQ : Wd (fun Q => Q.cell? ⟨HC, 0, none⟩ = some (.int .i64 N) ∧ Q.cell? ⟨HC, 1, none⟩ = some (.string s) ∧ Q.cell? ⟨HC, 2, none⟩ = some (.string r) ∧ Q.cell? ⟨HD, 0, none⟩ = some (.int .i64 M) ∧ Q.cell? ⟨HD, 1, none⟩ = some (.string t) ∧ Q.cell? ⟨HD, 2, none⟩ = some (.string q)), QQ.w.cell? ⟨HC, 1, none⟩ = some (.string s) := fun QQ => QQ.ok.2.1
        have q2 : ∀ QQ : Wd (fun Q => Q.cell? ⟨HC, 0, none⟩ = some (.int .i64 N) ∧ Q.cell? ⟨HC, 1, none⟩ = some (.string s) ∧ Q.cell? ⟨HC, 2, none⟩ = some (.string r) ∧ Q.cell? ⟨HD, 0, none⟩ = some (.int .i64 M) ∧ Q.cell? ⟨HD, 1, none⟩ = some (.string t) ∧ Q.cell? ⟨HD, 2, none⟩ = some (.string q)), QQ.w.cell? ⟨HC, 2, none⟩ = some (.string r) := fun QQ => QQ.ok.2.2.1
        have q3 : ∀ QQ : Wd (fun Q => Q.cell? ⟨HC, 0, none⟩ = some (.int .i64 N) ∧ Q.cell? ⟨HC, 1, none⟩ = some (.string s) ∧ Q.cell? ⟨HC, 2, none⟩ = some (.string r) ∧ Q.cell? ⟨HD, 0, none⟩ = some (.int .i64 M) ∧ Q.cell? ⟨HD, 1, none⟩ = some (.string t) ∧ Q.cell? ⟨HD, 2, none⟩ = some (.string q)), QQ.w.cell? ⟨HD, 0, none⟩ = some (.int .i64 M) := fun QQ => QQ.ok.2.2.2.1
        have q4 : ∀ QQ : Wd (fun Q => Q.cell? ⟨HC, 0, none⟩ = some (.int .i64 N) ∧ Q.cell? ⟨HC, 1, none⟩ = some (.string s) ∧ Q.cell? ⟨HC, 2, none⟩ = some (.string r) ∧ Q.cell? ⟨HD, 0, none⟩ = some (.int .i64 M) ∧ Q.cell? ⟨HD, 1, none⟩ = some (.string t) ∧ Q.cell? ⟨HD, 2, none⟩ = some (.string q)), QQ.w.cell? ⟨HD, 1, none⟩ = some (.string t) := fun QQ => QQ.ok.2.2.2.2.1
        have q5 : ∀ QQ : Wd (fun Q => Q.cell? ⟨HC, 0, none⟩ = some (.int .i64 N) ∧ Q.cell? ⟨HC, 1, none⟩ = some (.string s) ∧ Q.cell? ⟨HC, 2, none⟩ = some (.string r) ∧ Q.cell? ⟨HD, 0, none⟩ = some (.int .i64 M) ∧ Q.cell? ⟨HD, 1, none⟩ = some (.string t) ∧ Q.cell? ⟨HD, 2, none⟩ = some (.string q)), QQ.w.cell? ⟨HD, 2, none⟩ = some (.string q) := fun QQ => QQ.ok.2.2.2.2.2
        have hne : Nonempty (Wd (fun Q => Q.cell? ⟨HC, 0, none⟩ = some (.int .i64 N) ∧ Q.cell? ⟨HC, 1, none⟩ = some (.string s) ∧ Q.cell? ⟨HC, 2, none⟩ = some (.string r) ∧ Q.cell? ⟨HD, 0, none⟩ = some (.int .i64 M) ∧ Q.cell? ⟨HD, 1, none⟩ = some (.string t) ∧ Q.cell? ⟨HD, 2, none⟩ = some (.string q))) := ⟨⟨W22, ⟨(Box.c BC_50.out).1, (Box.c BC_50.out).2.1, (Box.c BC_50.out).2.2, (Box.c BD_50.out).1, (Box.c BD_50.out).2.1, (Box.c BD_50.out).2.2⟩⟩⟩
        go_wp2_with fail
        refine chain (S := (fun Q => Q.cell? ⟨HC, 0, none⟩ = some (.int .i64 N) ∧ Q.cell? ⟨HC, 1, none⟩ = some (.string s) ∧ Q.cell? ⟨HC, 2, none⟩ = some (.string r) ∧ Q.cell? ⟨HD, 0, none⟩ = some (.int .i64 M) ∧ Q.cell? ⟨HD, 1, none⟩ = some (.string t) ∧ Q.cell? ⟨HD, 2, none⟩ = some (.string q))) [([true, true, true, true], 4), ([false, false, false, false, false, true], 6)] [false, false, false, false, false, false, false, true] (by kernel_rfl) (by kernel_rfl) (by kernel_rfl) ⟨(Box.c BC_50.out).1, (Box.c BC_50.out).2.1, (Box.c BC_50.out).2.2, (Box.c BD_50.out).1, (Box.c BD_50.out).2.1, (Box.c BD_50.out).2.2⟩ ?_
        simp only [wpSegs, pickB, List.dropLast_cons_cons, List.dropLast_singleton, List.getLast?_cons_cons, List.getLast?_singleton, List.toList_toArray, List.getElem?_toArray, List.getElem?_cons_succ, List.getElem?_cons_zero, Option.toList_some]
        have OA_51 := Lib.hid (ownKept (R := R) OA_50.out (grown_drew (World.grownBy.refl _ _)) (by omega))
        have OB_51 := Lib.hid (ownKept (R := R) OB_50.out (grown_drew (World.grownBy.refl _ _)) (by omega))
        have RD_51 : Hid (Rd W22.drew R ao len cap (p2' + 1)) := RD_50.out.drew
        have GR_51 := Lib.hid (grown_drew GR_50.out)
        have BA_51 : Hid (Box 24 W22.drew w.heap.size 0 ⟨#[]⟩ ⟨#[]⟩) := Box.drew BA_50.out
        have BB_51 : Hid (Box 24 W22.drew (w.heap.size + 1) 0 ⟨#[]⟩ ⟨#[]⟩) := Box.drew BB_50.out
        have BC_51 : Hid (Box 24 W22.drew HC N s r) := Box.drew BC_50.out
        have BD_51 : Hid (Box 24 W22.drew HD M t q) := Box.drew BD_50.out
        clear RD_50 GR_50 BA_50 BB_50 BC_50 BD_50 OA_50 OB_50
        have BZ : Box 24 W22 w.heap.size 0 ⟨#[]⟩ ⟨#[]⟩ := BA_51.out
        obtain ⟨z0, z1, z2⟩ := Box.c BZ
        have f0 := Box.free BZ 0
        have f1 := Box.free BZ 1
        have f2 := Box.free BZ 2
        clear BZ
        repeat (go_big_quiet_step (fail))
        refine wpQuiet_nil ?_
        intro K hK
        go_wp2_with fail
        clear z0 z1 z2 f0 f1 f2
        obtain ⟨W52, hWf52⟩ : ∃ QZ, QZ = (((W22.setCell ⟨w.heap.size, 0, none⟩ (.int .i64 N)).setCell ⟨w.heap.size, 1, none⟩ (.string s)).setCell ⟨w.heap.size, 2, none⟩ (.string r)).drew := ⟨_, rfl⟩
        have hW52 : W52 = (((W22.drew.setCell ⟨w.heap.size, 0, none⟩ (.int .i64 N)).setCell ⟨w.heap.size, 1, none⟩ (.string s)).setCell ⟨w.heap.size, 2, none⟩ (.string r)) := hWf52
        have RD_52 : Hid (Rd W52 R ao len cap (p2' + 1)) := by rw [hW52]; exact rd_sets RD_51.out (by omega)
        have GR_52 : Hid (w.grownBy W52 (some R)) := by rw [hW52]; exact grown_sets GR_51.out (by omega)
        have BA_52 : Hid (Box 24 W52 w.heap.size N s r) := by rw [hW52]; exact ((Box.set0 BA_51.out N).set1 s).set2 r
        have BB_52 : Hid (Box 24 W52 (w.heap.size + 1) 0 ⟨#[]⟩ ⟨#[]⟩) := by rw [hW52]; exact box_others BB_51.out (by omega)
        have BC_52 : Hid (Box 24 W52 HC N s r) := by rw [hW52]; exact box_others BC_51.out (by omega)
        have BD_52 : Hid (Box 24 W52 HD M t q) := by rw [hW52]; exact box_others BD_51.out (by omega)
        have OA_52 : Hid (OwnI 3 W52 BA va la) := by rw [hW52]; exact own_sets OA_51.out (by omega)
        have OB_52 : Hid (OwnI 3 W52 BB2 (.slice (some ⟨g, 0, none⟩) (lb2.length + 1) cap') (lb2 ++ [0])) := by rw [hW52]; exact own_sets OB_51.out (by omega)
        clear RD_51 GR_51 BA_51 BB_51 BC_51 BD_51 OA_51 OB_51
        clear hW52
        rw [← hWf52]
        clear hWf52
        refine hK _ _ ⟨(Box.c BC_52.out).1, (Box.c BC_52.out).2.1, (Box.c BC_52.out).2.2, (Box.c BD_52.out).1, (Box.c BD_52.out).2.1, (Box.c BD_52.out).2.2⟩ ?_
        clear hK K
        have BZ := BB_52.out
        obtain ⟨z0, z1, z2⟩ := Box.c BZ
        have f0 := Box.free BZ 0
        have f1 := Box.free BZ 1
        have f2 := Box.free BZ 2
        clear BZ
        repeat (go_big_quiet_step (fail))
        refine wpQuiet_nil ?_
        intro K hK
        go_wp2_with fail
        clear z0 z1 z2 f0 f1 f2
        obtain ⟨W53, hW53⟩ : ∃ QZ, QZ = (((W52.setCell ⟨w.heap.size + 1, 0, none⟩ (.int .i64 M)).setCell ⟨w.heap.size + 1, 1, none⟩ (.string t)).setCell ⟨w.heap.size + 1, 2, none⟩ (.string q)) := ⟨_, rfl⟩
        have RD_53 : Hid (Rd W53 R ao len cap (p2' + 1)) := by rw [hW53]; exact rd_sets RD_52.out (by omega)
        have GR_53 : Hid (w.grownBy W53 (some R)) := by rw [hW53]; exact grown_sets GR_52.out (by omega)
        have BA_53 : Hid (Box 24 W53 w.heap.size N s r) := by rw [hW53]; exact box_others BA_52.out (by omega)
        have BB_53 : Hid (Box 24 W53 (w.heap.size + 1) M t q) := by rw [hW53]; exact ((Box.set0 BB_52.out M).set1 t).set2 q
        have BC_53 : Hid (Box 24 W53 HC N s r) := by rw [hW53]; exact box_others BC_52.out (by omega)
        have BD_53 : Hid (Box 24 W53 HD M t q) := by rw [hW53]; exact box_others BD_52.out (by omega)
        have OA_53 : Hid (OwnI 3 W53 BA va la) := by rw [hW53]; exact own_sets OA_52.out (by omega)
        have OB_53 : Hid (OwnI 3 W53 BB2 (.slice (some ⟨g, 0, none⟩) (lb2.length + 1) cap') (lb2 ++ [0])) := by rw [hW53]; exact own_sets OB_52.out (by omega)
        clear RD_52 GR_52 BA_52 BB_52 BC_52 BD_52 OA_52 OB_52
        rw [← hW53]
        clear hW53
        refine hK _ _ ⟨(Box.c BC_53.out).1, (Box.c BC_53.out).2.1, (Box.c BC_53.out).2.2, (Box.c BD_53.out).1, (Box.c BD_53.out).2.1, (Box.c BD_53.out).2.2⟩ ?_
        clear hK K
        repeat (go_big_quiet_step (fail))
        refine wpQuiet_nil ?_
        clear q0 q1 q2 q3 q4 q5 hne
        have HF := Lib.hid (show _ ∧ _ from ⟨Box.c BA_53.out, Box.c BB_53.out⟩)
        have RES := Lib.hid (show _ ∧ _ ∧ _ ∧ _ from ⟨OA_53.out.mono (show w.heap.size ≤ BA by omega), OB_53.out.mono (show w.heap.size ≤ BB2 by omega), RD_53.out, GR_53.out⟩)
        clear RD_53 GR_53 BA_53 BB_53 BC_53 BD_53 OA_53 OB_53
        go_wp2
        exact bodyPost_ret (v := .tuple #[.agg #[.int .i64 N, .string s, .string r], va, .agg #[.int .i64 M, .string t, .string q], (.slice (some ⟨g, 0, none⟩) (lb2.length + 1) cap')]) (by simp [results, Tryd.results106, go_sem, HF.out.1.1, HF.out.1.2.1, HF.out.1.2.2, HF.out.2.1, HF.out.2.2.1, HF.out.2.2.2]) rfl ⟨N, s, r, _, la, M, t, q, _, (lb2 ++ [0]), _, rfl, ⟨hnw, hs100, by omega⟩, HMQ.out, ⟨by have := LAB.out.1.1; omega, LAB.out.1.2⟩, ⟨by have := LAB.out.2.1.1; omega, LAB.out.2.1.2⟩, RES.out.1, RES.out.2.1, RES.out.2.2.1, LAB.out.2.2, RES.out.2.2.2⟩
      · obtain ⟨c0, c1, c2⟩ := Box.c ST20.out.c
        go_wp2_with fail
        clear c0 c1 c2
        refine (l1Bad_any R ao len cap (p2' + 1) N s r _ ST20.out.rd (by omega) hN2 HN.out.1 hNN.1 hNN.2).mono ?_
        rintro e W21 ⟨n2, s2, r2, p5, rfl, hnw2, hs2, hr2, hrd, hp5, hg⟩
        have ST21 := Lib.hid (ST20.out.draw hrd (by omega) hg)
        clear hrd hg ST20
        obtain ⟨z0, z1, z2⟩ := Box.c ST21.out.c
        have f0 := Box.free ST21.out.c 0
        have f1 := Box.free ST21.out.c 1
        have f2 := Box.free ST21.out.c 2
        obtain ⟨W22, hW22⟩ : ∃ q, q = (((W21.setCell ⟨HC, 0, none⟩ (.int .i64 n2)).setCell ⟨HC, 1, none⟩ (.string s2)).setCell ⟨HC, 2, none⟩ (.string r2)) := ⟨_, rfl⟩
        have ST22 : Hid (St4 w R ao len cap (p + 2000) HC HD n2 s2 r2 M t q BA va la BB2 vb2 lb2 p5 W22) := by rw [hW22]; exact ST21.out.setC n2 s2 r2
        clear ST21
        have RD_50 := Lib.hid ST22.out.rd
        have GR_50 := Lib.hid ST22.out.g
        have BA_50 := Lib.hid ST22.out.a
        have BB_50 := Lib.hid ST22.out.b
        have BC_50 := Lib.hid ST22.out.c
        have BD_50 := Lib.hid ST22.out.d
        have OA_50 := Lib.hid ST22.out.oa
        have OB_50 := Lib.hid ST22.out.ob
        have LAB := Lib.hid (show _ ∧ _ ∧ _ from ⟨ST22.out.la, ST22.out.lb, ST22.out.p⟩)
        have hh1 := ST22.out.h
        have hh2 := ST22.out.ba
        have hh3 := ST22.out.bb
        clear ST22
        have q0 : ∀ QQ : Wd (fun Q => Q.cell? ⟨HC, 0, none⟩ = some (.int .i64 n2) ∧ Q.cell? ⟨HC, 1, none⟩ = some (.string s2) ∧ Q.cell? ⟨HC, 2, none⟩ = some (.string r2) ∧ Q.cell? ⟨HD, 0, none⟩ = some (.int .i64 M) ∧ Q.cell? ⟨HD, 1, none⟩ = some (.string t) ∧ Q.cell? ⟨HD, 2, none⟩ = some (.string q)), QQ.w.cell? ⟨HC, 0, none⟩ = some (.int .i64 n2) := fun QQ => QQ.ok.1
        have q1 : ∀ QQ : Wd (fun Q => Q.cell? ⟨HC, 0, none⟩ = some (.int .i64 n2) ∧ Q.cell? ⟨HC, 1, none⟩ = some (.string s2) ∧ Q.cell? ⟨HC, 2, none⟩ = some (.string r2) ∧ Q.cell? ⟨HD, 0, none⟩ = some (.int .i64 M) ∧ Q.cell? ⟨HD, 1, none⟩ = some (.string t) ∧ Q.cell? ⟨HD, 2, none⟩ = some (.string q)), QQ.w.cell? ⟨HC, 1, none⟩ = some (.string s2) := fun QQ => QQ.ok.2.1
        have q2 : ∀ QQ : Wd (fun Q => Q.cell? ⟨HC, 0, none⟩ = some (.int .i64 n2) ∧ Q.cell? ⟨HC, 1, none⟩ = some (.string s2) ∧ Q.cell? ⟨HC, 2, none⟩ = some (.string r2) ∧ Q.cell? ⟨HD, 0, none⟩ = some (.int .i64 M) ∧ Q.cell? ⟨HD, 1, none⟩ = some (.string t) ∧ Q.cell? ⟨HD, 2, none⟩ = some (.string q)), QQ.w.cell? ⟨HC, 2, none⟩ = some (.string r2) := fun QQ => QQ.ok.2.2.1
        have q3 : ∀ QQ : Wd (fun Q => Q.cell? ⟨HC, 0, none⟩ = some (.int .i64 n2) ∧ Q.cell? ⟨HC, 1, none⟩ = some (.string s2) ∧ Q.cell? ⟨HC, 2, none⟩ = some (.string r2) ∧ Q.cell? ⟨HD, 0, none⟩ = some (.int .i64 M) ∧ Q.cell? ⟨HD, 1, none⟩ = some (.string t) ∧ Q.cell? ⟨HD, 2, none⟩ = some (.string q)), QQ.w.cell? ⟨HD, 0, none⟩ = some (.int .i64 M) := fun QQ => QQ.ok.2.2.2.1
        have q4 : ∀ QQ : Wd (fun Q => Q.cell? ⟨HC, 0, none⟩ = some (.int .i64 n2) ∧ Q.cell? ⟨HC, 1, none⟩ = some (.string s2) ∧ Q.cell? ⟨HC, 2, none⟩ = some (.string r2) ∧ Q.cell? ⟨HD, 0, none⟩ = some (.int .i64 M) ∧ Q.cell? ⟨HD, 1, none⟩ = some (.string t) ∧ Q.cell? ⟨HD, 2, none⟩ = some (.string q)), QQ.w.cell? ⟨HD, 1, none⟩ = some (.string t) := fun QQ => QQ.ok.2.2.2.2.1
        have q5 : ∀ QQ : Wd (fun Q => Q.cell? ⟨HC, 0, none⟩ = some (.int .i64 n2) ∧ Q.cell? ⟨HC, 1, none⟩ = some (.string s2) ∧ Q.cell? ⟨HC, 2, none⟩ = some (.string r2) ∧ Q.cell? ⟨HD, 0, none⟩ = some (.int .i64 M) ∧ Q.cell? ⟨HD, 1, none⟩ = some (.string t) ∧ Q.cell? ⟨HD, 2, none⟩ = some (.string q)), QQ.w.cell? ⟨HD, 2, none⟩ = some (.string q) := fun QQ => QQ.ok.2.2.2.2.2
        have hne : Nonempty (Wd (fun Q => Q.cell? ⟨HC, 0, none⟩ = some (.int .i64 n2) ∧ Q.cell? ⟨HC, 1, none⟩ = some (.string s2) ∧ Q.cell? ⟨HC, 2, none⟩ = some (.string r2) ∧ Q.cell? ⟨HD, 0, none⟩ = some (.int .i64 M) ∧ Q.cell? ⟨HD, 1, none⟩ = some (.string t) ∧ Q.cell? ⟨HD, 2, none⟩ = some (.string q))) := ⟨⟨W22, ⟨(Box.c BC_50.out).1, (Box.c BC_50.out).2.1, (Box.c BC_50.out).2.2, (Box.c BD_50.out).1, (Box.c BD_50.out).2.1, (Box.c BD_50.out).2.2⟩⟩⟩
        go_wp2_with fail
        rw [← hW22]
        clear hW22 z0 z1 z2 f0 f1 f2
        refine chain (S := (fun Q => Q.cell? ⟨HC, 0, none⟩ = some (.int .i64 n2) ∧ Q.cell? ⟨HC, 1, none⟩ = some (.string s2) ∧ Q.cell? ⟨HC, 2, none⟩ = some (.string r2) ∧ Q.cell? ⟨HD, 0, none⟩ = some (.int .i64 M) ∧ Q.cell? ⟨HD, 1, none⟩ = some (.string t) ∧ Q.cell? ⟨HD, 2, none⟩ = some (.string q))) [([true, true, true, true], 4), ([false, false, false, false, false, true], 6)] [false, false, false, false, false, false, false, true] (by kernel_rfl) (by kernel_rfl) (by kernel_rfl) ⟨(Box.c BC_50.out).1, (Box.c BC_50.out).2.1, (Box.c BC_50.out).2.2, (Box.c BD_50.out).1, (Box.c BD_50.out).2.1, (Box.c BD_50.out).2.2⟩ ?_
        simp only [wpSegs, pickB, List.dropLast_cons_cons, List.dropLast_singleton, List.getLast?_cons_cons, List.getLast?_singleton, List.toList_toArray, List.getElem?_toArray, List.getElem?_cons_succ, List.getElem?_cons_zero, Option.toList_some]
        have OA_51 := Lib.hid (ownKept (R := R) OA_50.out (grown_drew (World.grownBy.refl _ _)) (by omega))
        have OB_51 := Lib.hid (ownKept (R := R) OB_50.out (grown_drew (World.grownBy.refl _ _)) (by omega))
        have RD_51 : Hid (Rd W22.drew R ao len cap p5) := RD_50.out.drew
        have GR_51 := Lib.hid (grown_drew GR_50.out)
        have BA_51 : Hid (Box 24 W22.drew w.heap.size 0 ⟨#[]⟩ ⟨#[]⟩) := Box.drew BA_50.out
        have BB_51 : Hid (Box 24 W22.drew (w.heap.size + 1) 0 ⟨#[]⟩ ⟨#[]⟩) := Box.drew BB_50.out
        have BC_51 : Hid (Box 24 W22.drew HC n2 s2 r2) := Box.drew BC_50.out
        have BD_51 : Hid (Box 24 W22.drew HD M t q) := Box.drew BD_50.out
        clear RD_50 GR_50 BA_50 BB_50 BC_50 BD_50 OA_50 OB_50
        have BZ : Box 24 W22 w.heap.size 0 ⟨#[]⟩ ⟨#[]⟩ := BA_51.out
        obtain ⟨z0, z1, z2⟩ := Box.c BZ
        have f0 := Box.free BZ 0
        have f1 := Box.free BZ 1
        have f2 := Box.free BZ 2
        clear BZ
        repeat (go_big_quiet_step (fail))
        refine wpQuiet_nil ?_
        intro K hK
        go_wp2_with fail
        clear z0 z1 z2 f0 f1 f2
        obtain ⟨W52, hWf52⟩ : ∃ QZ, QZ = (((W22.setCell ⟨w.heap.size, 0, none⟩ (.int .i64 n2)).setCell ⟨w.heap.size, 1, none⟩ (.string s2)).setCell ⟨w.heap.size, 2, none⟩ (.string r2)).drew := ⟨_, rfl⟩
        have hW52 : W52 = (((W22.drew.setCell ⟨w.heap.size, 0, none⟩ (.int .i64 n2)).setCell ⟨w.heap.size, 1, none⟩ (.string s2)).setCell ⟨w.heap.size, 2, none⟩ (.string r2)) := hWf52
        have RD_52 : Hid (Rd W52 R ao len cap p5) := by rw [hW52]; exact rd_sets RD_51.out (by omega)
        have GR_52 : Hid (w.grownBy W52 (some R)) := by rw [hW52]; exact grown_sets GR_51.out (by omega)
        have BA_52 : Hid (Box 24 W52 w.heap.size n2 s2 r2) := by rw [hW52]; exact ((Box.set0 BA_51.out n2).set1 s2).set2 r2
        have BB_52 : Hid (Box 24 W52 (w.heap.size + 1) 0 ⟨#[]⟩ ⟨#[]⟩) := by rw [hW52]; exact box_others BB_51.out (by omega)
        have BC_52 : Hid (Box 24 W52 HC n2 s2 r2) := by rw [hW52]; exact box_others BC_51.out (by omega)
        have BD_52 : Hid (Box 24 W52 HD M t q) := by rw [hW52]; exact box_others BD_51.out (by omega)
        have OA_52 : Hid (OwnI 3 W52 BA va la) := by rw [hW52]; exact own_sets OA_51.out (by omega)
        have OB_52 : Hid (OwnI 3 W52 BB2 vb2 lb2) := by rw [hW52]; exact own_sets OB_51.out (by omega)
        clear RD_51 GR_51 BA_51 BB_51 BC_51 BD_51 OA_51 OB_51
        clear hW52
        rw [← hWf52]
        clear hWf52
        refine hK _ _ ⟨(Box.c BC_52.out).1, (Box.c BC_52.out).2.1, (Box.c BC_52.out).2.2, (Box.c BD_52.out).1, (Box.c BD_52.out).2.1, (Box.c BD_52.out).2.2⟩ ?_
        clear hK K
        have BZ := BB_52.out
        obtain ⟨z0, z1, z2⟩ := Box.c BZ
        have f0 := Box.free BZ 0
        have f1 := Box.free BZ 1
        have f2 := Box.free BZ 2
        clear BZ
        repeat (go_big_quiet_step (fail))
        refine wpQuiet_nil ?_
        intro K hK
        go_wp2_with fail
        clear z0 z1 z2 f0 f1 f2
        obtain ⟨W53, hW53⟩ : ∃ QZ, QZ = (((W52.setCell ⟨w.heap.size + 1, 0, none⟩ (.int .i64 M)).setCell ⟨w.heap.size + 1, 1, none⟩ (.string t)).setCell ⟨w.heap.size + 1, 2, none⟩ (.string q)) := ⟨_, rfl⟩
        have RD_53 : Hid (Rd W53 R ao len cap p5) := by rw [hW53]; exact rd_sets RD_52.out (by omega)
        have GR_53 : Hid (w.grownBy W53 (some R)) := by rw [hW53]; exact grown_sets GR_52.out (by omega)
        have BA_53 : Hid (Box 24 W53 w.heap.size n2 s2 r2) := by rw [hW53]; exact box_others BA_52.out (by omega)
        have BB_53 : Hid (Box 24 W53 (w.heap.size + 1) M t q) := by rw [hW53]; exact ((Box.set0 BB_52.out M).set1 t).set2 q
        have BC_53 : Hid (Box 24 W53 HC n2 s2 r2) := by rw [hW53]; exact box_others BC_52.out (by omega)
        have BD_53 : Hid (Box 24 W53 HD M t q) := by rw [hW53]; exact box_others BD_52.out (by omega)
        have OA_53 : Hid (OwnI 3 W53 BA va la) := by rw [hW53]; exact own_sets OA_52.out (by omega)
        have OB_53 : Hid (OwnI 3 W53 BB2 vb2 lb2) := by rw [hW53]; exact own_sets OB_52.out (by omega)
        clear RD_52 GR_52 BA_52 BB_52 BC_52 BD_52 OA_52 OB_52
        rw [← hW53]
        clear hW53
        refine hK _ _ ⟨(Box.c BC_53.out).1, (Box.c BC_53.out).2.1, (Box.c BC_53.out).2.2, (Box.c BD_53.out).1, (Box.c BD_53.out).2.1, (Box.c BD_53.out).2.2⟩ ?_
        clear hK K
        repeat (go_big_quiet_step (fail))
        refine wpQuiet_nil ?_
        clear q0 q1 q2 q3 q4 q5 hne
        have HF := Lib.hid (show _ ∧ _ from ⟨Box.c BA_53.out, Box.c BB_53.out⟩)
        have RES := Lib.hid (show _ ∧ _ ∧ _ ∧ _ from ⟨OA_53.out.mono (show w.heap.size ≤ BA by omega), OB_53.out.mono (show w.heap.size ≤ BB2 by omega), RD_53.out, GR_53.out⟩)
        clear RD_53 GR_53 BA_53 BB_53 BC_53 BD_53 OA_53 OB_53
        go_wp2
        exact bodyPost_ret (v := .tuple #[.agg #[.int .i64 n2, .string s2, .string r2], va, .agg #[.int .i64 M, .string t, .string q], vb2]) (by simp [results, Tryd.results106, go_sem, HF.out.1.1, HF.out.1.2.1, HF.out.1.2.2, HF.out.2.1, HF.out.2.2.1, HF.out.2.2.2]) rfl ⟨n2, s2, r2, _, la, M, t, q, _, lb2, _, rfl, ⟨hnw2, hs2, hr2⟩, HMQ.out, ⟨by have := LAB.out.1.1; omega, LAB.out.1.2⟩, ⟨by have := LAB.out.2.1.1; omega, LAB.out.2.1.2⟩, RES.out.1, RES.out.2.1, RES.out.2.2.1, LAB.out.2.2, RES.out.2.2.2⟩
      · have n0 : ((v3 : Int) == 0) = false := by simp; omega
        have n1 : ((v3 : Int) == 1) = false := by simp; omega
        have n2 : ((v3 : Int) == 2) = false := by simp; omega
        have RD_50 := Lib.hid ST20.out.rd
        have GR_50 := Lib.hid ST20.out.g
        have BA_50 := Lib.hid ST20.out.a
        have BB_50 := Lib.hid ST20.out.b
        have BC_50 := Lib.hid ST20.out.c
        have BD_50 := Lib.hid ST20.out.d
        have OA_50 := Lib.hid ST20.out.oa
        have OB_50 := Lib.hid ST20.out.ob
        have LAB := Lib.hid (show _ ∧ _ ∧ _ from ⟨ST20.out.la, ST20.out.lb, ST20.out.p⟩)
        have hh1 := ST20.out.h
        have hh2 := ST20.out.ba
        have hh3 := ST20.out.bb
        clear ST20
        have q0 : ∀ QQ : Wd (fun Q => Q.cell? ⟨HC, 0, none⟩ = some (.int .i64 N) ∧ Q.cell? ⟨HC, 1, none⟩ = some (.string s) ∧ Q.cell? ⟨HC, 2, none⟩ = some (.string r) ∧ Q.cell? ⟨HD, 0, none⟩ = some (.int .i64 M) ∧ Q.cell? ⟨HD, 1, none⟩ = some (.string t) ∧ Q.cell? ⟨HD, 2, none⟩ = some (.string q)), QQ.w.cell? ⟨HC, 0, none⟩ = some (.int .i64 N) := fun QQ => QQ.ok.1
        have q1 : ∀ QQ : Wd (fun Q => Q.cell? ⟨HC, 0, none⟩ = some (.int .i64 N) ∧ Q.cell? ⟨HC, 1, none⟩ = some (.string s) ∧ Q.cell? ⟨HC, 2, none⟩ = some (.string r) ∧ Q.cell? ⟨HD, 0, none⟩ = some (.int .i64 M) ∧ Q.cell? ⟨HD, 1, none⟩ = some (.string t) ∧ Q.cell? ⟨HD, 2, none⟩ = some (.string q)), QQ.w.cell? ⟨HC, 1, none⟩ = some (.string s) := fun QQ => QQ.ok.2.1
        have q2 : ∀ QQ : Wd (fun Q => Q.cell? ⟨HC, 0, none⟩ = some (.int .i64 N) ∧ Q.cell? ⟨HC, 1, none⟩ = some (.string s) ∧ Q.cell? ⟨HC, 2, none⟩ = some (.string r) ∧ Q.cell? ⟨HD, 0, none⟩ = some (.int .i64 M) ∧ Q.cell? ⟨HD, 1, none⟩ = some (.string t) ∧ Q.cell? ⟨HD, 2, none⟩ = some (.string q)), QQ.w.cell? ⟨HC, 2, none⟩ = some (.string r) := fun QQ => QQ.ok.2.2.1
        have q3 : ∀ QQ : Wd (fun Q => Q.cell? ⟨HC, 0, none⟩ = some (.int .i64 N) ∧ Q.cell? ⟨HC, 1, none⟩ = some (.string s) ∧ Q.cell? ⟨HC, 2, none⟩ = some (.string r) ∧ Q.cell? ⟨HD, 0, none⟩ = some (.int .i64 M) ∧ Q.cell? ⟨HD, 1, none⟩ = some (.string t) ∧ Q.cell? ⟨HD, 2, none⟩ = some (.string q)), QQ.w.cell? ⟨HD, 0, none⟩ = some (.int .i64 M) := fun QQ => QQ.ok.2.2.2.1
        have q4 : ∀ QQ : Wd (fun Q => Q.cell? ⟨HC, 0, none⟩ = some (.int .i64 N) ∧ Q.cell? ⟨HC, 1, none⟩ = some (.string s) ∧ Q.cell? ⟨HC, 2, none⟩ = some (.string r) ∧ Q.cell? ⟨HD, 0, none⟩ = some (.int .i64 M) ∧ Q.cell? ⟨HD, 1, none⟩ = some (.string t) ∧ Q.cell? ⟨HD, 2, none⟩ = some (.string q)), QQ.w.cell? ⟨HD, 1, none⟩ = some (.string t) := fun QQ => QQ.ok.2.2.2.2.1
        have q5 : ∀ QQ : Wd (fun Q => Q.cell? ⟨HC, 0, none⟩ = some (.int .i64 N) ∧ Q.cell? ⟨HC, 1, none⟩ = some (.string s) ∧ Q.cell? ⟨HC, 2, none⟩ = some (.string r) ∧ Q.cell? ⟨HD, 0, none⟩ = some (.int .i64 M) ∧ Q.cell? ⟨HD, 1, none⟩ = some (.string t) ∧ Q.cell? ⟨HD, 2, none⟩ = some (.string q)), QQ.w.cell? ⟨HD, 2, none⟩ = some (.string q) := fun QQ => QQ.ok.2.2.2.2.2
        have hne : Nonempty (Wd (fun Q => Q.cell? ⟨HC, 0, none⟩ = some (.int .i64 N) ∧ Q.cell? ⟨HC, 1, none⟩ = some (.string s) ∧ Q.cell? ⟨HC, 2, none⟩ = some (.string r) ∧ Q.cell? ⟨HD, 0, none⟩ = some (.int .i64 M) ∧ Q.cell? ⟨HD, 1, none⟩ = some (.string t) ∧ Q.cell? ⟨HD, 2, none⟩ = some (.string q))) := ⟨⟨W20, ⟨(Box.c BC_50.out).1, (Box.c BC_50.out).2.1, (Box.c BC_50.out).2.2, (Box.c BD_50.out).1, (Box.c BD_50.out).2.1, (Box.c BD_50.out).2.2⟩⟩⟩
        go_wp2_with fail
        refine chain (S := (fun Q => Q.cell? ⟨HC, 0, none⟩ = some (.int .i64 N) ∧ Q.cell? ⟨HC, 1, none⟩ = some (.string s) ∧ Q.cell? ⟨HC, 2, none⟩ = some (.string r) ∧ Q.cell? ⟨HD, 0, none⟩ = some (.int .i64 M) ∧ Q.cell? ⟨HD, 1, none⟩ = some (.string t) ∧ Q.cell? ⟨HD, 2, none⟩ = some (.string q))) [([true, true, true, true], 4), ([false, false, false, false, false, true], 6)] [false, false, false, false, false, false, false, true] (by kernel_rfl) (by kernel_rfl) (by kernel_rfl) ⟨(Box.c BC_50.out).1, (Box.c BC_50.out).2.1, (Box.c BC_50.out).2.2, (Box.c BD_50.out).1, (Box.c BD_50.out).2.1, (Box.c BD_50.out).2.2⟩ ?_
        simp only [wpSegs, pickB, List.dropLast_cons_cons, List.dropLast_singleton, List.getLast?_cons_cons, List.getLast?_singleton, List.toList_toArray, List.getElem?_toArray, List.getElem?_cons_succ, List.getElem?_cons_zero, Option.toList_some]
        have OA_51 := Lib.hid (ownKept (R := R) OA_50.out (grown_drew (World.grownBy.refl _ _)) (by omega))
        have OB_51 := Lib.hid (ownKept (R := R) OB_50.out (grown_drew (World.grownBy.refl _ _)) (by omega))
        have RD_51 : Hid (Rd W20.drew R ao len cap (p2' + 1)) := RD_50.out.drew
        have GR_51 := Lib.hid (grown_drew GR_50.out)
        have BA_51 : Hid (Box 24 W20.drew w.heap.size 0 ⟨#[]⟩ ⟨#[]⟩) := Box.drew BA_50.out
        have BB_51 : Hid (Box 24 W20.drew (w.heap.size + 1) 0 ⟨#[]⟩ ⟨#[]⟩) := Box.drew BB_50.out
        have BC_51 : Hid (Box 24 W20.drew HC N s r) := Box.drew BC_50.out
        have BD_51 : Hid (Box 24 W20.drew HD M t q) := Box.drew BD_50.out
        clear RD_50 GR_50 BA_50 BB_50 BC_50 BD_50 OA_50 OB_50
        have BZ : Box 24 W20 w.heap.size 0 ⟨#[]⟩ ⟨#[]⟩ := BA_51.out
        obtain ⟨z0, z1, z2⟩ := Box.c BZ
        have f0 := Box.free BZ 0
        have f1 := Box.free BZ 1
        have f2 := Box.free BZ 2
        clear BZ
        repeat (go_big_quiet_step (fail))
        refine wpQuiet_nil ?_
        intro K hK
        go_wp2_with fail
        clear z0 z1 z2 f0 f1 f2
        obtain ⟨W52, hWf52⟩ : ∃ QZ, QZ = (((W20.setCell ⟨w.heap.size, 0, none⟩ (.int .i64 N)).setCell ⟨w.heap.size, 1, none⟩ (.string s)).setCell ⟨w.heap.size, 2, none⟩ (.string r)).drew := ⟨_, rfl⟩
        have hW52 : W52 = (((W20.drew.setCell ⟨w.heap.size, 0, none⟩ (.int .i64 N)).setCell ⟨w.heap.size, 1, none⟩ (.string s)).setCell ⟨w.heap.size, 2, none⟩ (.string r)) := hWf52
        have RD_52 : Hid (Rd W52 R ao len cap (p2' + 1)) := by rw [hW52]; exact rd_sets RD_51.out (by omega)
        have GR_52 : Hid (w.grownBy W52 (some R)) := by rw [hW52]; exact grown_sets GR_51.out (by omega)
        have BA_52 : Hid (Box 24 W52 w.heap.size N s r) := by rw [hW52]; exact ((Box.set0 BA_51.out N).set1 s).set2 r
        have BB_52 : Hid (Box 24 W52 (w.heap.size + 1) 0 ⟨#[]⟩ ⟨#[]⟩) := by rw [hW52]; exact box_others BB_51.out (by omega)
        have BC_52 : Hid (Box 24 W52 HC N s r) := by rw [hW52]; exact box_others BC_51.out (by omega)
        have BD_52 : Hid (Box 24 W52 HD M t q) := by rw [hW52]; exact box_others BD_51.out (by omega)
        have OA_52 : Hid (OwnI 3 W52 BA va la) := by rw [hW52]; exact own_sets OA_51.out (by omega)
        have OB_52 : Hid (OwnI 3 W52 BB2 vb2 lb2) := by rw [hW52]; exact own_sets OB_51.out (by omega)
        clear RD_51 GR_51 BA_51 BB_51 BC_51 BD_51 OA_51 OB_51
        clear hW52
        rw [← hWf52]
        clear hWf52
        refine hK _ _ ⟨(Box.c BC_52.out).1, (Box.c BC_52.out).2.1, (Box.c BC_52.out).2.2, (Box.c BD_52.out).1, (Box.c BD_52.out).2.1, (Box.c BD_52.out).2.2⟩ ?_
        clear hK K
        have BZ := BB_52.out
        obtain ⟨z0, z1, z2⟩ := Box.c BZ
        have f0 := Box.free BZ 0
        have f1 := Box.free BZ 1
        have f2 := Box.free BZ 2
        clear BZ
        repeat (go_big_quiet_step (fail))
        refine wpQuiet_nil ?_
        intro K hK
        go_wp2_with fail
        clear z0 z1 z2 f0 f1 f2
        obtain ⟨W53, hW53⟩ : ∃ QZ, QZ = (((W52.setCell ⟨w.heap.size + 1, 0, none⟩ (.int .i64 M)).setCell ⟨w.heap.size + 1, 1, none⟩ (.string t)).setCell ⟨w.heap.size + 1, 2, none⟩ (.string q)) := ⟨_, rfl⟩
        have RD_53 : Hid (Rd W53 R ao len cap (p2' + 1)) := by rw [hW53]; exact rd_sets RD_52.out (by omega)
        have GR_53 : Hid (w.grownBy W53 (some R)) := by rw [hW53]; exact grown_sets GR_52.out (by omega)
        have BA_53 : Hid (Box 24 W53 w.heap.size N s r) := by rw [hW53]; exact box_others BA_52.out (by omega)
        have BB_53 : Hid (Box 24 W53 (w.heap.size + 1) M t q) := by rw [hW53]; exact ((Box.set0 BB_52.out M).set1 t).set2 q
        have BC_53 : Hid (Box 24 W53 HC N s r) := by rw [hW53]; exact box_others BC_52.out (by omega)
        have BD_53 : Hid (Box 24 W53 HD M t q) := by rw [hW53]; exact box_others BD_52.out (by omega)
        have OA_53 : Hid (OwnI 3 W53 BA va la) := by rw [hW53]; exact own_sets OA_52.out (by omega)
        have OB_53 : Hid (OwnI 3 W53 BB2 vb2 lb2) := by rw [hW53]; exact own_sets OB_52.out (by omega)
        clear RD_52 GR_52 BA_52 BB_52 BC_52 BD_52 OA_52 OB_52
        rw [← hW53]
        clear hW53
        refine hK _ _ ⟨(Box.c BC_53.out).1, (Box.c BC_53.out).2.1, (Box.c BC_53.out).2.2, (Box.c BD_53.out).1, (Box.c BD_53.out).2.1, (Box.c BD_53.out).2.2⟩ ?_
        clear hK K
        repeat (go_big_quiet_step (fail))
        refine wpQuiet_nil ?_
        clear q0 q1 q2 q3 q4 q5 hne
        have HF := Lib.hid (show _ ∧ _ from ⟨Box.c BA_53.out, Box.c BB_53.out⟩)
        have RES := Lib.hid (show _ ∧ _ ∧ _ ∧ _ from ⟨OA_53.out.mono (show w.heap.size ≤ BA by omega), OB_53.out.mono (show w.heap.size ≤ BB2 by omega), RD_53.out, GR_53.out⟩)
        clear RD_53 GR_53 BA_53 BB_53 BC_53 BD_53 OA_53 OB_53
        go_wp2
        exact bodyPost_ret (v := .tuple #[.agg #[.int .i64 N, .string s, .string r], va, .agg #[.int .i64 M, .string t, .string q], vb2]) (by simp [results, Tryd.results106, go_sem, HF.out.1.1, HF.out.1.2.1, HF.out.1.2.2, HF.out.2.1, HF.out.2.2.1, HF.out.2.2.2]) rfl ⟨N, s, r, _, la, M, t, q, _, lb2, _, rfl, ⟨hnw, hs100, by omega⟩, HMQ.out, ⟨by have := LAB.out.1.1; omega, LAB.out.1.2⟩, ⟨by have := LAB.out.2.1.1; omega, LAB.out.2.1.2⟩, RES.out.1, RES.out.2.1, RES.out.2.2.1, LAB.out.2.2, RES.out.2.2.2⟩
end Go.Proofs.YtpcnoiigbmiejaaDoor.l4
