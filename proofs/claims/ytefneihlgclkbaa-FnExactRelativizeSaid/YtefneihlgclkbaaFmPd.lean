/- Formulas in the program: put, some sorts. -/
import Derived.Test.YtefneihlgclkbaaFmO
namespace Go.Proofs.Ytefneihlgclkbaa.fmpd
set_option linter.unusedVariables false
set_option linter.unusedSimpArgs false
open Go.ChangeShapes Go.WideShapes Go.ChangeAt Go.RowKit
open Go.Proofs.Ytefneihlgclkbaa.lib Go.Proofs.Ytefneihlgclkbaa.fm Go.Proofs.Ytefneihlgclkbaa.fmt Go.Proofs.Ytefneihlgclkbaa.fmu Go.Proofs.Ytefneihlgclkbaa.fme Go.Proofs.Ytefneihlgclkbaa.fmx Go.Proofs.Ytefneihlgclkbaa.fmj Go.Proofs.Ytefneihlgclkbaa.fmv
open Go.Proofs.Ytefneihlgclkbaa.fmo

set_option maxHeartbeats 6400000 in
set_option maxRecDepth 100000 in
theorem pt_rv (So Ro : Option Fm) (M : Nat) (hM : 1 ≤ M ∧ M ≤ 4000) (hS : So = none ∨ ∃ s, So = some s ∧ s.ok ∧ s.free >>> 1 = 0 ∧ s.txt.length ≤ M ∧ ∀ (Hs v : Nat) (w : World), v < 4 → Tree 49 w s Hs → Calls Try.prog 29 #[.agg #[.pointer none, .pointer none], .pointer (some ⟨Hs, 0, none⟩), .agg #[.int .u8 (97 + (v : Nat) : Int), .int .u8 98, .int .u8 99, .int .u8 100]] w (PutQ w (put0 s (map1 v)))) (hR : Ro = none ∨ ∃ s, Ro = some s ∧ s.ok ∧ s.free >>> 2 = 0 ∧ s.txt.length ≤ M ∧ ∀ (Hs v u : Nat) (w : World), v < 4 → u < 4 → Tree 49 w s Hs → Calls Try.prog 29 #[.agg #[.pointer none, .pointer none], .pointer (some ⟨Hs, 0, none⟩), .agg #[.int .u8 (97 + (v : Nat) : Int), .int .u8 (97 + (u : Nat) : Int), .int .u8 99, .int .u8 100]] w (PutQ w (put0 s (map2 v u)))) (sv rv : Value) (m : Nat → Nat) (H : Nat) (w : World) (hm : ∀ x, x < 4 → m x < 4) (vs : VT w sv So) (vr : VT w rv Ro) (v u : Nat) (hv : v < 4) (hu : u < 4) (s : Fm) (hRo : Ro = some s) (hnode : Tree 49 w (.r 69 v u) H) :
    Calls Try.prog 29 #[.agg #[sv, rv], .pointer (some ⟨H, 0, none⟩), .agg #[.int .u8 (97 + (m 0 : Nat) : Int), .int .u8 (97 + (m 1 : Nat) : Int), .int .u8 (97 + (m 2 : Nat) : Int), .int .u8 (97 + (m 3 : Nat) : Int)]] w (PutQ w (put So Ro (.r 69 v u) m)) := by
  subst hRo
  obtain ⟨Hs, hsv, hts⟩ := vr.2 s rfl
  obtain ⟨s2, he, hs1, hs2, hs3, hcall⟩ := hR.resolve_left (by simp)
  obtain rfl : s = s2 := Option.some.inj he
  have HSV := Lib.hid hsv
  have HTS := Lib.hid hts
  have HCALL := Lib.hid hcall
  clear hsv hts hcall he hs1 hs2 hs3
  have hnode : fmt.Node 49 w H 69 [v, u] [] (1 <<< v ||| 1 <<< u) (1 <<< v ||| 1 <<< u) := hnode
  obtain ⟨op, hop⟩ : ∃ op : UInt8, op = 69 := ⟨_, rfl⟩
  rw [← hop] at hnode
  obtain ⟨W2, hW2⟩ : ∃ QZ, QZ = ((w.alloc (.cells #[sv, rv] 60)).alloc (.cells #[.int .u8 (97 + (m 0 : Nat) : Int), .int .u8 (97 + (m 1 : Nat) : Int), .int .u8 (97 + (m 2 : Nat) : Int), .int .u8 (97 + (m 3 : Nat) : Int)] 62)).alloc (.cells #[] 5) := ⟨_, rfl⟩
  have HX0 : Hid (Bx w W2 sv rv m) := by rw [hW2]; exact (Bx.new w sv rv m).call ((Below.refl _ _).alloc (Nat.le_refl _) _)
  have HO0 : Hid (W2.ownsRow (w.heap.size + 2) 5 1 (.slice (some ⟨w.heap.size + 1 + 1, 0, none⟩) 0 0) 0 (nb [])) := by rw [hW2, Hid]; have h := own_new (w := ((w.alloc (.cells #[sv, rv] 60)).alloc (.cells #[.int .u8 (97 + (m 0 : Nat) : Int), .int .u8 (97 + (m 1 : Nat) : Int), .int .u8 (97 + (m 2 : Nat) : Int), .int .u8 (97 + (m 3 : Nat) : Int)] 62))) (C := w.heap.size + 2) (by simp); simpa using h
  have HN : Hid (fmt.Node 49 w H op [v, u] [] (1 <<< v ||| 1 <<< u) (1 <<< v ||| 1 <<< u)) := hnode
  have HN2 : Hid (fmt.Node 49 W2 H op [v, u] [] (1 <<< v ||| 1 <<< u) (1 <<< v ||| 1 <<< u)) := hnode.below HX0.out.b (Nat.le_refl _)
  obtain ⟨vv, pv, hvv, hpv, c0, c1, c2, c3, c4⟩ := HN2.out.cells
  obtain ⟨va, vc, rfl⟩ := rv_len hvv
  obtain ⟨pa, pc, rfl⟩ := rv_len hpv
  have hH := Lib.hid HN.out.lt
  simp only [List.map_nil, List.map_cons, List.length_nil, List.length_cons, Nat.zero_add, Nat.reduceAdd] at c1 c2 hvv hpv
  obtain ⟨vb_, vo, rfl, ce0⟩ := rv_cell hvv rfl (k := 0) (by simp)
  have hvb := World.block_lt_of_cell? _ _ ce0
  obtain ⟨vb2, vo2, hv2, ce1⟩ := rv_cell hvv rfl (k := 1) (by simp)
  simp only [Option.some.injEq, Addr.mk.injEq] at hv2
  obtain ⟨rfl, rfl, -⟩ := hv2
  have HCN : Hid (∀ wr {m : Nat → Nat}, Bx w wr sv rv m → wr.cell? ⟨H, 0, none⟩ = some (.int .u8 (op.toNat : Int)) ∧ wr.cell? ⟨H, 1, none⟩ = some (.slice (some ⟨vb_, vo, none⟩) 2 vc) ∧ wr.cell? ⟨H, 2, none⟩ = some (.slice pa 0 pc) ∧ True ∧ True) := fun wr _ hx => by
    have e : ∀ j, wr.cell? ⟨H, j, none⟩ = w.cell? ⟨H, j, none⟩ := fun j => hx.b.cell (p := ⟨H, j, none⟩) hH.out
    have e2 : ∀ j, W2.cell? ⟨H, j, none⟩ = w.cell? ⟨H, j, none⟩ := fun j => HX0.out.b.cell (p := ⟨H, j, none⟩) hH.out
    exact ⟨(e 0).trans ((e2 0).symm.trans c0), (e 1).trans ((e2 1).symm.trans c1), (e 2).trans ((e2 2).symm.trans c2), trivial, trivial⟩
  have HCE0 : Hid (∀ wr, Bx w wr sv rv m → wr.cell? ⟨vb_, vo, none⟩ = some (.int .u8 (97 + (v : Nat) : Int))) := fun wr hx => by
    have hvb0 : vb_ < w.heap.size := by
      obtain ⟨vv0, _, hv0, _, _, c10, _⟩ := HN.out.cells
      have e : W2.cell? ⟨H, 1, none⟩ = w.cell? ⟨H, 1, none⟩ := HX0.out.b.cell (p := ⟨H, 1, none⟩) hH.out
      rw [c1, c10] at e
      obtain ⟨b9, o9, he9, h9⟩ := rv_cell hv0 (Option.some.inj e).symm (k := 0) (by simp)
      simp only [Option.some.injEq, Addr.mk.injEq] at he9
      rw [he9.1]
      exact World.block_lt_of_cell? _ _ h9
    have e : wr.cell? ⟨vb_, vo, none⟩ = w.cell? ⟨vb_, vo, none⟩ := hx.b.cell (p := ⟨vb_, vo, none⟩) hvb0
    have e2 : W2.cell? ⟨vb_, vo, none⟩ = w.cell? ⟨vb_, vo, none⟩ := HX0.out.b.cell (p := ⟨vb_, vo, none⟩) hvb0
    rw [e, ← e2, vb_int hv]
    exact ce0
  have HCE1 : Hid (∀ wr, Bx w wr sv rv m → wr.cell? ⟨vb_, vo + 1, none⟩ = some (.int .u8 (97 + (u : Nat) : Int))) := fun wr hx => by
    have hvb0 : vb_ < w.heap.size := by
      obtain ⟨vv0, _, hv0, _, _, c10, _⟩ := HN.out.cells
      have e : W2.cell? ⟨H, 1, none⟩ = w.cell? ⟨H, 1, none⟩ := HX0.out.b.cell (p := ⟨H, 1, none⟩) hH.out
      rw [c1, c10] at e
      obtain ⟨b9, o9, he9, h9⟩ := rv_cell hv0 (Option.some.inj e).symm (k := 0) (by simp)
      simp only [Option.some.injEq, Addr.mk.injEq] at he9
      rw [he9.1]
      exact World.block_lt_of_cell? _ _ h9
    have e : wr.cell? ⟨vb_, vo + 1, none⟩ = w.cell? ⟨vb_, vo + 1, none⟩ := hx.b.cell (p := ⟨vb_, vo + 1, none⟩) hvb0
    have e2 : W2.cell? ⟨vb_, vo + 1, none⟩ = w.cell? ⟨vb_, vo + 1, none⟩ := HX0.out.b.cell (p := ⟨vb_, vo + 1, none⟩) hvb0
    rw [e, ← e2, vb_int hu]
    exact ce1
  have HM := Lib.hid hm
  have HND := HN
  have e80 : ((op.toNat : Int) == 80) = false := by rw [hop]; rfl
  have e69 : ((op.toNat : Int) == 69) = true := by rw [hop]; rfl
  have HQ : Hid (isQ op.toNat = false) := by rw [hop]; rfl
  have HOP := Lib.hid hop
  clear hop hnode
  clear hvv hpv hm hS hR vs vr
  clear hvb ce0 ce1
  rw [hW2] at c0 c1 c2 c3 c4
  go_enter Try.func29, Try.ntmps29
  go_wp2_with fail
  rw [← hW2] at c0 c1 c2 c3 c4 ⊢
  clear hW2
  go_loopw [8, 27] (fun nv i wr => ∃ (k g cap : Nat), k ≤ 2 ∧ i = .int .i64 k ∧ nv = .slice (some ⟨g, 0, none⟩) k cap ∧ Hid (wr.ownsRow (w.heap.size + 2) 5 1 (.slice (some ⟨g, 0, none⟩) k cap) k (nb (([m v, m u] : List Nat).take k))) ∧ Hid (Bx w wr sv rv m)) (fun _ i _ => 2 - (intOf i).toNat)
  case atStart => exact ⟨0, _, _, Nat.zero_le _, rfl, rfl, HO0.out, HX0.out⟩
  case round =>
    clear HO0 HX0 c0 c1 c2 c3 c4
    obtain ⟨k, g, cap, hk, rfl, rfl, HO, HX⟩ := hrel
    have hgl := HO.out.lt g rfl
    obtain rfl | rfl | rfl : k = 0 ∨ k = 1 ∨ k = 2 := by omega
    · have cx := HCE0.out wr HX.out
      have cy := HX.out.at hv
      have s1 := u8_sub hv
      have s2 := u8_wrap hv
      have l1 : (v : Int) < 4 := by omega
      have HZ : Hid (0 + 1 ≤ 4398046511104 ∧ w.heap.size + 2 ≤ wr.heap.size) := ⟨by decide, HX.out.size⟩
      clear hgl
      go_wp2_with (at_builtin; refine wpList_app1 wr rfl (.tmp 31) (.tmp 36) 46 rfl (w.heap.size + 2) 5 (.int .u8 0) 1 Try.underlying46 infoB rfl (by decide) _ _ _ (.int .u8 (97 + (m v : Nat) : Int)) rfl HO.out wr.heap.size rfl rfl rfl HZ.out.1 HZ.out.2 ?_)
      intro g2 cap2 w1 hown hgr
      have HX2 : Hid (Bx w w1 sv rv m) := HX.out.on (hgr.below HO.out HZ.out.2)
      have HO2 := Lib.hid hown
      clear hown hgr cx cy
      go_wp2
      go_roundw
      case rel => exact ⟨1, g2, cap2, by decide, by first | rfl | go_num, rfl, HO2.out, HX2.out⟩
      case measure => simp [intOf]
    · have cx := HCE1.out wr HX.out
      have cy := HX.out.at hu
      have s1 := u8_sub hu
      have s2 := u8_wrap hu
      have l1 : (u : Int) < 4 := by omega
      have HZ : Hid (1 + 1 ≤ 4398046511104 ∧ w.heap.size + 2 ≤ wr.heap.size) := ⟨by decide, HX.out.size⟩
      clear hgl
      go_wp2_with (at_builtin; refine wpList_app1 wr rfl (.tmp 31) (.tmp 36) 46 rfl (w.heap.size + 2) 5 (.int .u8 0) 1 Try.underlying46 infoB rfl (by decide) _ _ _ (.int .u8 (97 + (m u : Nat) : Int)) rfl HO.out wr.heap.size rfl rfl rfl HZ.out.1 HZ.out.2 ?_)
      intro g2 cap2 w1 hown hgr
      have HX2 : Hid (Bx w w1 sv rv m) := HX.out.on (hgr.below HO.out HZ.out.2)
      have HO2 := Lib.hid hown
      clear hown hgr cx cy
      go_wp2
      go_roundw
      case rel => exact ⟨2, g2, cap2, by decide, by first | rfl | go_num, rfl, HO2.out, HX2.out⟩
      case measure => simp [intOf]
    · have cs : wr.cell? ⟨w.heap.size, 1, none⟩ = some (.pointer (some ⟨Hs, 0, none⟩)) := by rw [HX.out.c.2.1, HSV.out]
      have cn0 : wr.cell? ⟨g, 0, none⟩ = some (.int .u8 (97 + (m v : Nat) : Int)) := by have := HO.out.cellAt 0 (by decide); exact this
      have cn1 : wr.cell? ⟨g, 1, none⟩ = some (.int .u8 (97 + (m u : Nat) : Int)) := by have := HO.out.cellAt 1 (by decide); exact this
      have HC : Hid (Calls Try.prog 29 #[.agg #[.pointer none, .pointer none], .pointer (some ⟨Hs, 0, none⟩), .agg #[.int .u8 (97 + (m v : Nat) : Int), .int .u8 (97 + (m u : Nat) : Int), .int .u8 99, .int .u8 100]] wr.drew (PutQ wr.drew (put0 s (map2 (m v) (m u))))) := HCALL.out Hs (m v) (m u) _ (HM.out v hv) (HM.out u hu) (HTS.out.below HX.out.b.drew (Nat.le_refl _))
      have HBX := Lib.hid HX.out.b
      obtain ⟨c0, c1, c2, c3, c4⟩ := HCN.out wr HX.out
      go_wp2_with fail
      go_region_with (refine HC.out.mono ?_; rintro eo w1 ⟨rfl, hb⟩)
      all_goals
        have HB9 : Hid (Below w.heap.size w w1) := HBX.out.drew.trans (hb.mono HBX.out.size)
        go_wp2
        go_ret2
        exact ⟨rfl, HB9.out⟩
end Go.Proofs.Ytefneihlgclkbaa.fmpd
