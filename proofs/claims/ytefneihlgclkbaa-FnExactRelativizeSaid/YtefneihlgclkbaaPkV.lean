/- Several texts in one: FmPa, FmPb, FmPc, FmPe, FmPf. -/
import Derived.Test.YtefneihlgclkbaaFmO
/- Formulas in the program: put, some sorts. -/
namespace Go.Proofs.Ytefneihlgclkbaa.fmpa
set_option linter.unusedVariables false
set_option linter.unusedSimpArgs false
open Go.ChangeShapes Go.WideShapes Go.ChangeAt Go.RowKit
open Go.Proofs.Ytefneihlgclkbaa.lib Go.Proofs.Ytefneihlgclkbaa.fm Go.Proofs.Ytefneihlgclkbaa.fmt Go.Proofs.Ytefneihlgclkbaa.fmu Go.Proofs.Ytefneihlgclkbaa.fme Go.Proofs.Ytefneihlgclkbaa.fmx Go.Proofs.Ytefneihlgclkbaa.fmj Go.Proofs.Ytefneihlgclkbaa.fmv
open Go.Proofs.Ytefneihlgclkbaa.fmo

set_option maxHeartbeats 6400000 in
set_option maxRecDepth 100000 in
theorem pt_tf (So Ro : Option Fm) (M : Nat) (hM : 1 ≤ M ∧ M ≤ 4000) (hS : So = none ∨ ∃ s, So = some s ∧ s.ok ∧ s.free >>> 1 = 0 ∧ s.txt.length ≤ M ∧ ∀ (Hs v : Nat) (w : World), v < 4 → Tree 49 w s Hs → Calls Try.prog 29 #[.agg #[.pointer none, .pointer none], .pointer (some ⟨Hs, 0, none⟩), .agg #[.int .u8 (97 + (v : Nat) : Int), .int .u8 98, .int .u8 99, .int .u8 100]] w (PutQ w (put0 s (map1 v)))) (hR : Ro = none ∨ ∃ s, Ro = some s ∧ s.ok ∧ s.free >>> 2 = 0 ∧ s.txt.length ≤ M ∧ ∀ (Hs v u : Nat) (w : World), v < 4 → u < 4 → Tree 49 w s Hs → Calls Try.prog 29 #[.agg #[.pointer none, .pointer none], .pointer (some ⟨Hs, 0, none⟩), .agg #[.int .u8 (97 + (v : Nat) : Int), .int .u8 (97 + (u : Nat) : Int), .int .u8 99, .int .u8 100]] w (PutQ w (put0 s (map2 v u)))) (sv rv : Value) (m : Nat → Nat) (H : Nat) (w : World) (hm : ∀ x, x < 4 → m x < 4) (vs : VT w sv So) (vr : VT w rv Ro) (op : UInt8) (hop : sort op = .tf) (hnode : Tree 49 w (.tf op) H) :
    Calls Try.prog 29 #[.agg #[sv, rv], .pointer (some ⟨H, 0, none⟩), .agg #[.int .u8 (97 + (m 0 : Nat) : Int), .int .u8 (97 + (m 1 : Nat) : Int), .int .u8 (97 + (m 2 : Nat) : Int), .int .u8 (97 + (m 3 : Nat) : Int)]] w (PutQ w (put So Ro (.tf op) m)) := by
  have hnode : fmt.Node 49 w H op [] [] 0 0 := hnode
  obtain ⟨W2, hW2⟩ : ∃ QZ, QZ = ((w.alloc (.cells #[sv, rv] 60)).alloc (.cells #[.int .u8 (97 + (m 0 : Nat) : Int), .int .u8 (97 + (m 1 : Nat) : Int), .int .u8 (97 + (m 2 : Nat) : Int), .int .u8 (97 + (m 3 : Nat) : Int)] 62)).alloc (.cells #[] 5) := ⟨_, rfl⟩
  have HX0 : Hid (Bx w W2 sv rv m) := by rw [hW2]; exact (Bx.new w sv rv m).call ((Below.refl _ _).alloc (Nat.le_refl _) _)
  have HO0 : Hid (W2.ownsRow (w.heap.size + 2) 5 1 (.slice (some ⟨w.heap.size + 1 + 1, 0, none⟩) 0 0) 0 (nb [])) := by rw [hW2, Hid]; have h := own_new (w := ((w.alloc (.cells #[sv, rv] 60)).alloc (.cells #[.int .u8 (97 + (m 0 : Nat) : Int), .int .u8 (97 + (m 1 : Nat) : Int), .int .u8 (97 + (m 2 : Nat) : Int), .int .u8 (97 + (m 3 : Nat) : Int)] 62))) (C := w.heap.size + 2) (by simp); simpa using h
  have HN : Hid (fmt.Node 49 w H op [] [] 0 0) := hnode
  have HN2 : Hid (fmt.Node 49 W2 H op [] [] 0 0) := hnode.below HX0.out.b (Nat.le_refl _)
  obtain ⟨vv, pv, hvv, hpv, c0, c1, c2, c3, c4⟩ := HN2.out.cells
  obtain ⟨va, vc, rfl⟩ := rv_len hvv
  obtain ⟨pa, pc, rfl⟩ := rv_len hpv
  have hH := Lib.hid HN.out.lt
  simp only [List.map_nil, List.map_cons, List.length_nil, List.length_cons, Nat.zero_add, Nat.reduceAdd] at c1 c2 hvv hpv
  have HCN : Hid (∀ wr {m : Nat → Nat}, Bx w wr sv rv m → wr.cell? ⟨H, 0, none⟩ = some (.int .u8 (op.toNat : Int)) ∧ wr.cell? ⟨H, 1, none⟩ = some (.slice va 0 vc) ∧ wr.cell? ⟨H, 2, none⟩ = some (.slice pa 0 pc) ∧ True ∧ True) := fun wr _ hx => by
    have e : ∀ j, wr.cell? ⟨H, j, none⟩ = w.cell? ⟨H, j, none⟩ := fun j => hx.b.cell (p := ⟨H, j, none⟩) hH.out
    have e2 : ∀ j, W2.cell? ⟨H, j, none⟩ = w.cell? ⟨H, j, none⟩ := fun j => HX0.out.b.cell (p := ⟨H, j, none⟩) hH.out
    exact ⟨(e 0).trans ((e2 0).symm.trans c0), (e 1).trans ((e2 1).symm.trans c1), (e 2).trans ((e2 2).symm.trans c2), trivial, trivial⟩
  have HM := Lib.hid hm
  have HND := HN
  have e80 := not80 (c := op) (by rw [hop]; decide)
  have e69 := not69 (c := op) (by rw [hop]; decide)
  have HQ : Hid (isQ op.toNat = false) := by rw [isq_sort, hop]; rfl
  clear hop hnode
  clear hvv hpv hm hS hR vs vr
  rw [hW2] at c0 c1 c2 c3 c4
  go_enter Try.func29, Try.ntmps29
  go_wp2_with fail
  rw [← hW2] at c0 c1 c2 c3 c4 ⊢
  clear hW2
  go_loopw [8, 27] (fun nv i wr => ∃ (k g cap : Nat), k ≤ 0 ∧ i = .int .i64 k ∧ nv = .slice (some ⟨g, 0, none⟩) k cap ∧ Hid (wr.ownsRow (w.heap.size + 2) 5 1 (.slice (some ⟨g, 0, none⟩) k cap) k (nb (([] : List Nat).take k))) ∧ Hid (Bx w wr sv rv m)) (fun _ i _ => 0 - (intOf i).toNat)
  case atStart => exact ⟨0, _, _, Nat.zero_le _, rfl, rfl, HO0.out, HX0.out⟩
  case round =>
    clear HO0 HX0 c0 c1 c2 c3 c4
    obtain ⟨k, g, cap, hk, rfl, rfl, HO, HX⟩ := hrel
    have hgl := HO.out.lt g rfl
    obtain rfl : k = 0 := by omega
    · have ca : ∀ W : World, W.cell? ⟨wr.heap.size, 0, none⟩ = some (.int .u8 (op.toNat : Int)) → (convert 46 9 (.slice (some ⟨wr.heap.size, 0, none⟩) 1 1)).run Try.prog W = .ok (.string ⟨#[op]⟩) W := fun W h => to_text1 _ _ op _ rfl W h
      have cb : ∀ W : World, (convert 46 9 (.slice (some ⟨g, 0, none⟩) 0 cap)).run Try.prog W = .ok (.string ⟨#[]⟩) W := fun W => to_text0 _ _ W
      have cad := add_ok (P := Try.prog) (x := ⟨#[op]⟩) (y := ⟨#[]⟩) (by show 1 ≤ 32000000; decide) (by show 0 ≤ 32000000; decide)
      have hlw : H < wr.heap.size := by have := hH.out; have := HX.out.size; have := HX.out.b.size; omega
      have hgw : g < wr.heap.size := hgl.2
      clear hgl
      obtain ⟨c0, c1, c2, c3, c4⟩ := HCN.out wr HX.out
      have HB9 : Hid (Below w.heap.size w (wr.alloc (.cells #[.int .u8 (op.toNat : Int)] 5)).drew) := (HX.out.b.alloc (by have := HX.out.b.size; omega) _).drew
      go_wp2_with fail
      refine Calls.mono (isQuantifier_any 49 H op [] [] 0 0 wr (HND.out.below HX.out.b (Nat.le_refl _))) ?_
      rintro eo w1 ⟨rfl, rfl⟩
      rw [HQ.out]
      go_wp2_with fail
      go_region
      go_wp2_with fail
      obtain ⟨w9, hw9⟩ : ∃ QZ, QZ = (wr.alloc (.cells #[.int .u8 (op.toNat : Int)] 5)).drew := ⟨_, rfl⟩
      rw [← hw9] at HB9 ⊢
      clear hw9
      go_loop [16, 154] (fun o i => o = .string (⟨#[op]⟩ ++ ⟨#[]⟩) ∧ i = .int .i64 0) (fun _ _ => 0)
      case atStart => exact ⟨rfl, rfl⟩
      case round =>
        obtain ⟨rfl, rfl⟩ := hrel
        go_wp2
        go_ret2
        exact put_ok (t := [op]) (rfl) (cat_one (c := op) (t := [])) rfl HB9.out
set_option maxHeartbeats 6400000 in
set_option maxRecDepth 100000 in
theorem pt_p (So Ro : Option Fm) (M : Nat) (hM : 1 ≤ M ∧ M ≤ 4000) (hS : So = none ∨ ∃ s, So = some s ∧ s.ok ∧ s.free >>> 1 = 0 ∧ s.txt.length ≤ M ∧ ∀ (Hs v : Nat) (w : World), v < 4 → Tree 49 w s Hs → Calls Try.prog 29 #[.agg #[.pointer none, .pointer none], .pointer (some ⟨Hs, 0, none⟩), .agg #[.int .u8 (97 + (v : Nat) : Int), .int .u8 98, .int .u8 99, .int .u8 100]] w (PutQ w (put0 s (map1 v)))) (hR : Ro = none ∨ ∃ s, Ro = some s ∧ s.ok ∧ s.free >>> 2 = 0 ∧ s.txt.length ≤ M ∧ ∀ (Hs v u : Nat) (w : World), v < 4 → u < 4 → Tree 49 w s Hs → Calls Try.prog 29 #[.agg #[.pointer none, .pointer none], .pointer (some ⟨Hs, 0, none⟩), .agg #[.int .u8 (97 + (v : Nat) : Int), .int .u8 (97 + (u : Nat) : Int), .int .u8 99, .int .u8 100]] w (PutQ w (put0 s (map2 v u)))) (sv rv : Value) (m : Nat → Nat) (H : Nat) (w : World) (hm : ∀ x, x < 4 → m x < 4) (vs : VT w sv So) (vr : VT w rv Ro) (v : Nat) (hv : v < 4) (hSo : So = none) (hnode : Tree 49 w (.p v) H) :
    Calls Try.prog 29 #[.agg #[sv, rv], .pointer (some ⟨H, 0, none⟩), .agg #[.int .u8 (97 + (m 0 : Nat) : Int), .int .u8 (97 + (m 1 : Nat) : Int), .int .u8 (97 + (m 2 : Nat) : Int), .int .u8 (97 + (m 3 : Nat) : Int)]] w (PutQ w (put So Ro (.p v) m)) := by
  subst hSo
  have HSV := Lib.hid (vs.1 rfl)
  have hv4 := hm v hv
  have hnode : fmt.Node 49 w H 80 [v] [] (1 <<< v) (1 <<< v) := hnode
  obtain ⟨op, hop⟩ : ∃ op : UInt8, op = 80 := ⟨_, rfl⟩
  rw [← hop] at hnode
  obtain ⟨W2, hW2⟩ : ∃ QZ, QZ = ((w.alloc (.cells #[sv, rv] 60)).alloc (.cells #[.int .u8 (97 + (m 0 : Nat) : Int), .int .u8 (97 + (m 1 : Nat) : Int), .int .u8 (97 + (m 2 : Nat) : Int), .int .u8 (97 + (m 3 : Nat) : Int)] 62)).alloc (.cells #[] 5) := ⟨_, rfl⟩
  have HX0 : Hid (Bx w W2 sv rv m) := by rw [hW2]; exact (Bx.new w sv rv m).call ((Below.refl _ _).alloc (Nat.le_refl _) _)
  have HO0 : Hid (W2.ownsRow (w.heap.size + 2) 5 1 (.slice (some ⟨w.heap.size + 1 + 1, 0, none⟩) 0 0) 0 (nb [])) := by rw [hW2, Hid]; have h := own_new (w := ((w.alloc (.cells #[sv, rv] 60)).alloc (.cells #[.int .u8 (97 + (m 0 : Nat) : Int), .int .u8 (97 + (m 1 : Nat) : Int), .int .u8 (97 + (m 2 : Nat) : Int), .int .u8 (97 + (m 3 : Nat) : Int)] 62))) (C := w.heap.size + 2) (by simp); simpa using h
  have HN : Hid (fmt.Node 49 w H op [v] [] (1 <<< v) (1 <<< v)) := hnode
  have HN2 : Hid (fmt.Node 49 W2 H op [v] [] (1 <<< v) (1 <<< v)) := hnode.below HX0.out.b (Nat.le_refl _)
  obtain ⟨vv, pv, hvv, hpv, c0, c1, c2, c3, c4⟩ := HN2.out.cells
  obtain ⟨va, vc, rfl⟩ := rv_len hvv
  obtain ⟨pa, pc, rfl⟩ := rv_len hpv
  have hH := Lib.hid HN.out.lt
  simp only [List.map_nil, List.map_cons, List.length_nil, List.length_cons, Nat.zero_add, Nat.reduceAdd] at c1 c2 hvv hpv
  obtain ⟨vb_, vo, rfl, ce0⟩ := rv_cell hvv rfl (k := 0) (by simp)
  have hvb := World.block_lt_of_cell? _ _ ce0
  have HCN : Hid (∀ wr {m : Nat → Nat}, Bx w wr sv rv m → wr.cell? ⟨H, 0, none⟩ = some (.int .u8 (op.toNat : Int)) ∧ wr.cell? ⟨H, 1, none⟩ = some (.slice (some ⟨vb_, vo, none⟩) 1 vc) ∧ wr.cell? ⟨H, 2, none⟩ = some (.slice pa 0 pc) ∧ True ∧ True) := fun wr _ hx => by
    have e : ∀ j, wr.cell? ⟨H, j, none⟩ = w.cell? ⟨H, j, none⟩ := fun j => hx.b.cell (p := ⟨H, j, none⟩) hH.out
    have e2 : ∀ j, W2.cell? ⟨H, j, none⟩ = w.cell? ⟨H, j, none⟩ := fun j => HX0.out.b.cell (p := ⟨H, j, none⟩) hH.out
    exact ⟨(e 0).trans ((e2 0).symm.trans c0), (e 1).trans ((e2 1).symm.trans c1), (e 2).trans ((e2 2).symm.trans c2), trivial, trivial⟩
  have HCE0 : Hid (∀ wr, Bx w wr sv rv m → wr.cell? ⟨vb_, vo, none⟩ = some (.int .u8 (97 + (v : Nat) : Int))) := fun wr hx => by
    have hvb0 : vb_ < w.heap.size := by
      obtain ⟨vv0, _, hv0, _, _, c10, _⟩ := HN.out.cells
      have e : W2.cell? ⟨H, 1, none⟩ = w.cell? ⟨H, 1, none⟩ := HX0.out.b.cell (p := ⟨H, 1, none⟩) hH.out
      rw [c1, c10] at e
      obtain ⟨b9, o9, he9, h9⟩ := rv_cell hv0 (Option.some.inj e).symm (k := 0) (by simp)
      simp only [Option.some.injEq, Addr.mk.injEq] at he9
      rw [he9.1]
      exact World.block_lt_of_cell? _ _ h9
    have e : wr.cell? ⟨vb_, vo, none⟩ = w.cell? ⟨vb_, vo, none⟩ := hx.b.cell (p := ⟨vb_, vo, none⟩) hvb0
    have e2 : W2.cell? ⟨vb_, vo, none⟩ = w.cell? ⟨vb_, vo, none⟩ := HX0.out.b.cell (p := ⟨vb_, vo, none⟩) hvb0
    rw [e, ← e2, vb_int hv]
    exact ce0
  have HM := Lib.hid hm
  have HND := HN
  have e80 : ((op.toNat : Int) == 80) = true := by rw [hop]; rfl
  have e69 : ((op.toNat : Int) == 69) = false := by rw [hop]; rfl
  have HQ : Hid (isQ op.toNat = false) := by rw [hop]; rfl
  have HOP := Lib.hid hop
  clear hop hnode
  clear hvv hpv hm hS hR vs vr
  clear hvb ce0
  rw [hW2] at c0 c1 c2 c3 c4
  go_enter Try.func29, Try.ntmps29
  go_wp2_with fail
  rw [← hW2] at c0 c1 c2 c3 c4 ⊢
  clear hW2
  go_loopw [8, 27] (fun nv i wr => ∃ (k g cap : Nat), k ≤ 1 ∧ i = .int .i64 k ∧ nv = .slice (some ⟨g, 0, none⟩) k cap ∧ Hid (wr.ownsRow (w.heap.size + 2) 5 1 (.slice (some ⟨g, 0, none⟩) k cap) k (nb (([m v] : List Nat).take k))) ∧ Hid (Bx w wr sv rv m)) (fun _ i _ => 1 - (intOf i).toNat)
  case atStart => exact ⟨0, _, _, Nat.zero_le _, rfl, rfl, HO0.out, HX0.out⟩
  case round =>
    clear HO0 HX0 c0 c1 c2 c3 c4
    obtain ⟨k, g, cap, hk, rfl, rfl, HO, HX⟩ := hrel
    have hgl := HO.out.lt g rfl
    obtain rfl | rfl : k = 0 ∨ k = 1 := by omega
    · have cx := HCE0.out wr HX.out
      have cy := HX.out.at hv
      have s1 := u8_sub hv
      have s2 := u8_wrap hv
      have l1 : (v : Int) < 4 := by omega
      have HZ : Hid (0 + 1 ≤ 4398046511104 ∧ w.heap.size + 2 ≤ wr.heap.size) := ⟨by decide, HX.out.size⟩
      clear hgl
      go_wp2_with (at_builtin; refine wpList_app1 wr rfl (.tmp 31) (.tmp 36) 46 rfl (w.heap.size + 2) 5 (.int .u8 0) 1 Try.underlying46 infoB rfl (by decide) _ _ _ (.int .u8 (97 + (m v : Nat) : Int)) rfl HO.out wr.heap.size rfl rfl rfl HZ.out.1 HZ.out.2 ?_)
      intro g2 cap2 w1 hown hgr
      have HX2 : Hid (Bx w w1 sv rv m) := HX.out.on (hgr.below HO.out HZ.out.2)
      have HO2 := Lib.hid hown
      clear hown hgr cx cy
      go_wp2
      go_roundw
      case rel => exact ⟨1, g2, cap2, by decide, by first | rfl | go_num, rfl, HO2.out, HX2.out⟩
      case measure => simp [intOf]
    · have ca : ∀ W : World, W.cell? ⟨wr.heap.size, 0, none⟩ = some (.int .u8 (op.toNat : Int)) → (convert 46 9 (.slice (some ⟨wr.heap.size, 0, none⟩) 1 1)).run Try.prog W = .ok (.string ⟨#[op]⟩) W := fun W h => to_text1 _ _ op _ rfl W h
      have cn0 : wr.cell? ⟨g, 0, none⟩ = some (.int .u8 (97 + (m v : Nat) : Int)) := by have := HO.out.cellAt 0 (by decide); exact this
      have cb : ∀ W : World, W.cell? ⟨g, 0, none⟩ = some (.int .u8 (97 + (m v : Nat) : Int)) → (convert 46 9 (.slice (some ⟨g, 0, none⟩) 1 cap)).run Try.prog W = .ok (.string ⟨#[vb (m v)]⟩) W := fun W h => to_text1 _ _ _ _ (vb_int (HM.out _ hv)) W h
      have cad := add_ok (P := Try.prog) (x := ⟨#[op]⟩) (y := ⟨#[vb (m v)]⟩) (by show 1 ≤ 32000000; decide) (by show 1 ≤ 32000000; decide)
      have hlw : H < wr.heap.size := by have := hH.out; have := HX.out.size; have := HX.out.b.size; omega
      have hgw : g < wr.heap.size := hgl.2
      clear hgl
      obtain ⟨c0, c1, c2, c3, c4⟩ := HCN.out wr HX.out
      have cs : wr.cell? ⟨w.heap.size, 0, none⟩ = some (.pointer none) := by rw [HX.out.c.1, HSV.out]
      have HB9 : Hid (Below w.heap.size w (wr.alloc (.cells #[.int .u8 (op.toNat : Int)] 5)).drew) := (HX.out.b.alloc (by have := HX.out.b.size; omega) _).drew
      go_wp2_with fail
      refine Calls.mono (isQuantifier_any 49 H op [v] [] (1 <<< v) (1 <<< v) wr (HND.out.below HX.out.b (Nat.le_refl _))) ?_
      rintro eo w1 ⟨rfl, rfl⟩
      rw [HQ.out]
      go_wp2_with fail
      go_region
      go_wp2_with fail
      obtain ⟨w9, hw9⟩ : ∃ QZ, QZ = (wr.alloc (.cells #[.int .u8 (op.toNat : Int)] 5)).drew := ⟨_, rfl⟩
      rw [← hw9] at HB9 ⊢
      clear hw9
      go_loop [16, 154] (fun o i => o = .string (⟨#[op]⟩ ++ ⟨#[vb (m v)]⟩) ∧ i = .int .i64 0) (fun _ _ => 0)
      case atStart => exact ⟨rfl, rfl⟩
      case round =>
        obtain ⟨rfl, rfl⟩ := hrel
        go_wp2
        go_ret2
        exact put_ok (t := [op, vb (m v)]) (by rw [HOP.out]; rfl) (cat_one (c := op) (t := [vb (m v)])) rfl HB9.out
end Go.Proofs.Ytefneihlgclkbaa.fmpa

/- Formulas in the program: put, some sorts. -/
namespace Go.Proofs.Ytefneihlgclkbaa.fmpb
set_option linter.unusedVariables false
set_option linter.unusedSimpArgs false
open Go.ChangeShapes Go.WideShapes Go.ChangeAt Go.RowKit
open Go.Proofs.Ytefneihlgclkbaa.lib Go.Proofs.Ytefneihlgclkbaa.fm Go.Proofs.Ytefneihlgclkbaa.fmt Go.Proofs.Ytefneihlgclkbaa.fmu Go.Proofs.Ytefneihlgclkbaa.fme Go.Proofs.Ytefneihlgclkbaa.fmx Go.Proofs.Ytefneihlgclkbaa.fmj Go.Proofs.Ytefneihlgclkbaa.fmv
open Go.Proofs.Ytefneihlgclkbaa.fmo

set_option maxHeartbeats 6400000 in
set_option maxRecDepth 100000 in
theorem pt_r1 (So Ro : Option Fm) (M : Nat) (hM : 1 ≤ M ∧ M ≤ 4000) (hS : So = none ∨ ∃ s, So = some s ∧ s.ok ∧ s.free >>> 1 = 0 ∧ s.txt.length ≤ M ∧ ∀ (Hs v : Nat) (w : World), v < 4 → Tree 49 w s Hs → Calls Try.prog 29 #[.agg #[.pointer none, .pointer none], .pointer (some ⟨Hs, 0, none⟩), .agg #[.int .u8 (97 + (v : Nat) : Int), .int .u8 98, .int .u8 99, .int .u8 100]] w (PutQ w (put0 s (map1 v)))) (hR : Ro = none ∨ ∃ s, Ro = some s ∧ s.ok ∧ s.free >>> 2 = 0 ∧ s.txt.length ≤ M ∧ ∀ (Hs v u : Nat) (w : World), v < 4 → u < 4 → Tree 49 w s Hs → Calls Try.prog 29 #[.agg #[.pointer none, .pointer none], .pointer (some ⟨Hs, 0, none⟩), .agg #[.int .u8 (97 + (v : Nat) : Int), .int .u8 (97 + (u : Nat) : Int), .int .u8 99, .int .u8 100]] w (PutQ w (put0 s (map2 v u)))) (sv rv : Value) (m : Nat → Nat) (H : Nat) (w : World) (hm : ∀ x, x < 4 → m x < 4) (vs : VT w sv So) (vr : VT w rv Ro) (op : UInt8) (v u : Nat) (hop : sort op = .r) (hne : op ≠ 69) (hv : v < 4) (hu : u < 4) (hnode : Tree 49 w (.r op v u) H) :
    Calls Try.prog 29 #[.agg #[sv, rv], .pointer (some ⟨H, 0, none⟩), .agg #[.int .u8 (97 + (m 0 : Nat) : Int), .int .u8 (97 + (m 1 : Nat) : Int), .int .u8 (97 + (m 2 : Nat) : Int), .int .u8 (97 + (m 3 : Nat) : Int)]] w (PutQ w (put So Ro (.r op v u) m)) := by
  have hnode : fmt.Node 49 w H op [v, u] [] (1 <<< v ||| 1 <<< u) (1 <<< v ||| 1 <<< u) := hnode
  obtain ⟨W2, hW2⟩ : ∃ QZ, QZ = ((w.alloc (.cells #[sv, rv] 60)).alloc (.cells #[.int .u8 (97 + (m 0 : Nat) : Int), .int .u8 (97 + (m 1 : Nat) : Int), .int .u8 (97 + (m 2 : Nat) : Int), .int .u8 (97 + (m 3 : Nat) : Int)] 62)).alloc (.cells #[] 5) := ⟨_, rfl⟩
  have HX0 : Hid (Bx w W2 sv rv m) := by rw [hW2]; exact (Bx.new w sv rv m).call ((Below.refl _ _).alloc (Nat.le_refl _) _)
  have HO0 : Hid (W2.ownsRow (w.heap.size + 2) 5 1 (.slice (some ⟨w.heap.size + 1 + 1, 0, none⟩) 0 0) 0 (nb [])) := by rw [hW2, Hid]; have h := own_new (w := ((w.alloc (.cells #[sv, rv] 60)).alloc (.cells #[.int .u8 (97 + (m 0 : Nat) : Int), .int .u8 (97 + (m 1 : Nat) : Int), .int .u8 (97 + (m 2 : Nat) : Int), .int .u8 (97 + (m 3 : Nat) : Int)] 62))) (C := w.heap.size + 2) (by simp); simpa using h
  have HN : Hid (fmt.Node 49 w H op [v, u] [] (1 <<< v ||| 1 <<< u) (1 <<< v ||| 1 <<< u)) := hnode
  have HN2 : Hid (fmt.Node 49 W2 H op [v, u] [] (1 <<< v ||| 1 <<< u) (1 <<< v ||| 1 <<< u)) := hnode.below HX0.out.b (Nat.le_refl _)
  obtain ⟨vv, pv, hvv, hpv, c0, c1, c2, c3, c4⟩ := HN2.out.cells
  obtain ⟨va, vc, rfl⟩ := rv_len hvv
  obtain ⟨pa, pc, rfl⟩ := rv_len hpv
  have hH := Lib.hid HN.out.lt
  simp only [List.map_nil, List.map_cons, List.length_nil, List.length_cons, Nat.zero_add, Nat.reduceAdd] at c1 c2 hvv hpv
  obtain ⟨vb_, vo, rfl, ce0⟩ := rv_cell hvv rfl (k := 0) (by simp)
  have hvb := World.block_lt_of_cell? _ _ ce0
  obtain ⟨vb2, vo2, hv2, ce1⟩ := rv_cell hvv rfl (k := 1) (by simp)
  simp only [Option.some.injEq, Addr.mk.injEq] at hv2
  obtain ⟨rfl, rfl, -⟩ := hv2
  have HCN : Hid (∀ wr {m : Nat → Nat}, Bx w wr sv rv m → wr.cell? ⟨H, 0, none⟩ = some (.int .u8 (op.toNat : Int)) ∧ wr.cell? ⟨H, 1, none⟩ = some (.slice (some ⟨vb_, vo, none⟩) 2 vc) ∧ wr.cell? ⟨H, 2, none⟩ = some (.slice pa 0 pc) ∧ True ∧ True) := fun wr _ hx => by
    have e : ∀ j, wr.cell? ⟨H, j, none⟩ = w.cell? ⟨H, j, none⟩ := fun j => hx.b.cell (p := ⟨H, j, none⟩) hH.out
    have e2 : ∀ j, W2.cell? ⟨H, j, none⟩ = w.cell? ⟨H, j, none⟩ := fun j => HX0.out.b.cell (p := ⟨H, j, none⟩) hH.out
    exact ⟨(e 0).trans ((e2 0).symm.trans c0), (e 1).trans ((e2 1).symm.trans c1), (e 2).trans ((e2 2).symm.trans c2), trivial, trivial⟩
  have HCE0 : Hid (∀ wr, Bx w wr sv rv m → wr.cell? ⟨vb_, vo, none⟩ = some (.int .u8 (97 + (v : Nat) : Int))) := fun wr hx => by
    have hvb0 : vb_ < w.heap.size := by
      obtain ⟨vv0, _, hv0, _, _, c10, _⟩ := HN.out.cells
      have e : W2.cell? ⟨H, 1, none⟩ = w.cell? ⟨H, 1, none⟩ := HX0.out.b.cell (p := ⟨H, 1, none⟩) hH.out
      rw [c1, c10] at e
      obtain ⟨b9, o9, he9, h9⟩ := rv_cell hv0 (Option.some.inj e).symm (k := 0) (by simp)
      simp only [Option.some.injEq, Addr.mk.injEq] at he9
      rw [he9.1]
      exact World.block_lt_of_cell? _ _ h9
    have e : wr.cell? ⟨vb_, vo, none⟩ = w.cell? ⟨vb_, vo, none⟩ := hx.b.cell (p := ⟨vb_, vo, none⟩) hvb0
    have e2 : W2.cell? ⟨vb_, vo, none⟩ = w.cell? ⟨vb_, vo, none⟩ := HX0.out.b.cell (p := ⟨vb_, vo, none⟩) hvb0
    rw [e, ← e2, vb_int hv]
    exact ce0
  have HCE1 : Hid (∀ wr, Bx w wr sv rv m → wr.cell? ⟨vb_, vo + 1, none⟩ = some (.int .u8 (97 + (u : Nat) : Int))) := fun wr hx => by
    have hvb0 : vb_ < w.heap.size := by
      obtain ⟨vv0, _, hv0, _, _, c10, _⟩ := HN.out.cells
      have e : W2.cell? ⟨H, 1, none⟩ = w.cell? ⟨H, 1, none⟩ := HX0.out.b.cell (p := ⟨H, 1, none⟩) hH.out
      rw [c1, c10] at e
      obtain ⟨b9, o9, he9, h9⟩ := rv_cell hv0 (Option.some.inj e).symm (k := 0) (by simp)
      simp only [Option.some.injEq, Addr.mk.injEq] at he9
      rw [he9.1]
      exact World.block_lt_of_cell? _ _ h9
    have e : wr.cell? ⟨vb_, vo + 1, none⟩ = w.cell? ⟨vb_, vo + 1, none⟩ := hx.b.cell (p := ⟨vb_, vo + 1, none⟩) hvb0
    have e2 : W2.cell? ⟨vb_, vo + 1, none⟩ = w.cell? ⟨vb_, vo + 1, none⟩ := HX0.out.b.cell (p := ⟨vb_, vo + 1, none⟩) hvb0
    rw [e, ← e2, vb_int hu]
    exact ce1
  have HM := Lib.hid hm
  have HND := HN
  have e80 := not80 (c := op) (by rw [hop]; decide)
  have e69 : ((op.toNat : Int) == 69) = false := by
    cases hb : ((op.toNat : Int) == 69) with
    | false => rfl
    | true => exact absurd (UInt8.toNat_inj.1 (show op.toNat = (69 : UInt8).toNat by have := eq_of_beq hb; show op.toNat = 69; omega)) hne
  have HQ : Hid (isQ op.toNat = false) := by rw [isq_sort, hop]; rfl
  have HOP := Lib.hid hne
  clear hop hnode hne
  clear hvv hpv hm hS hR vs vr
  clear hvb ce0 ce1
  rw [hW2] at c0 c1 c2 c3 c4
  go_enter Try.func29, Try.ntmps29
  go_wp2_with fail
  rw [← hW2] at c0 c1 c2 c3 c4 ⊢
  clear hW2
  go_loopw [8, 27] (fun nv i wr => ∃ (k g cap : Nat), k ≤ 2 ∧ i = .int .i64 k ∧ nv = .slice (some ⟨g, 0, none⟩) k cap ∧ Hid (wr.ownsRow (w.heap.size + 2) 5 1 (.slice (some ⟨g, 0, none⟩) k cap) k (nb (([m v, m u] : List Nat).take k))) ∧ Hid (Bx w wr sv rv m)) (fun _ i _ => 2 - (intOf i).toNat)
  case atStart => exact ⟨0, _, _, Nat.zero_le _, rfl, rfl, HO0.out, HX0.out⟩
  case round =>
    clear HO0 HX0 c0 c1 c2 c3 c4
    obtain ⟨k, g, cap, hk, rfl, rfl, HO, HX⟩ := hrel
    have hgl := HO.out.lt g rfl
    obtain rfl | rfl | rfl : k = 0 ∨ k = 1 ∨ k = 2 := by omega
    · have cx := HCE0.out wr HX.out
      have cy := HX.out.at hv
      have s1 := u8_sub hv
      have s2 := u8_wrap hv
      have l1 : (v : Int) < 4 := by omega
      have HZ : Hid (0 + 1 ≤ 4398046511104 ∧ w.heap.size + 2 ≤ wr.heap.size) := ⟨by decide, HX.out.size⟩
      clear hgl
      go_wp2_with (at_builtin; refine wpList_app1 wr rfl (.tmp 31) (.tmp 36) 46 rfl (w.heap.size + 2) 5 (.int .u8 0) 1 Try.underlying46 infoB rfl (by decide) _ _ _ (.int .u8 (97 + (m v : Nat) : Int)) rfl HO.out wr.heap.size rfl rfl rfl HZ.out.1 HZ.out.2 ?_)
      intro g2 cap2 w1 hown hgr
      have HX2 : Hid (Bx w w1 sv rv m) := HX.out.on (hgr.below HO.out HZ.out.2)
      have HO2 := Lib.hid hown
      clear hown hgr cx cy
      go_wp2
      go_roundw
      case rel => exact ⟨1, g2, cap2, by decide, by first | rfl | go_num, rfl, HO2.out, HX2.out⟩
      case measure => simp [intOf]
    · have cx := HCE1.out wr HX.out
      have cy := HX.out.at hu
      have s1 := u8_sub hu
      have s2 := u8_wrap hu
      have l1 : (u : Int) < 4 := by omega
      have HZ : Hid (1 + 1 ≤ 4398046511104 ∧ w.heap.size + 2 ≤ wr.heap.size) := ⟨by decide, HX.out.size⟩
      clear hgl
      go_wp2_with (at_builtin; refine wpList_app1 wr rfl (.tmp 31) (.tmp 36) 46 rfl (w.heap.size + 2) 5 (.int .u8 0) 1 Try.underlying46 infoB rfl (by decide) _ _ _ (.int .u8 (97 + (m u : Nat) : Int)) rfl HO.out wr.heap.size rfl rfl rfl HZ.out.1 HZ.out.2 ?_)
      intro g2 cap2 w1 hown hgr
      have HX2 : Hid (Bx w w1 sv rv m) := HX.out.on (hgr.below HO.out HZ.out.2)
      have HO2 := Lib.hid hown
      clear hown hgr cx cy
      go_wp2
      go_roundw
      case rel => exact ⟨2, g2, cap2, by decide, by first | rfl | go_num, rfl, HO2.out, HX2.out⟩
      case measure => simp [intOf]
    · have ca : ∀ W : World, W.cell? ⟨wr.heap.size, 0, none⟩ = some (.int .u8 (op.toNat : Int)) → (convert 46 9 (.slice (some ⟨wr.heap.size, 0, none⟩) 1 1)).run Try.prog W = .ok (.string ⟨#[op]⟩) W := fun W h => to_text1 _ _ op _ rfl W h
      have cn0 : wr.cell? ⟨g, 0, none⟩ = some (.int .u8 (97 + (m v : Nat) : Int)) := by have := HO.out.cellAt 0 (by decide); exact this
      have cn1 : wr.cell? ⟨g, 1, none⟩ = some (.int .u8 (97 + (m u : Nat) : Int)) := by have := HO.out.cellAt 1 (by decide); exact this
      have cb : ∀ W : World, W.cell? ⟨g, 0, none⟩ = some (.int .u8 (97 + (m v : Nat) : Int)) → W.cell? ⟨g, 1, none⟩ = some (.int .u8 (97 + (m u : Nat) : Int)) → (convert 46 9 (.slice (some ⟨g, 0, none⟩) 2 cap)).run Try.prog W = .ok (.string ⟨#[vb (m v), vb (m u)]⟩) W := fun W h h2 => to_text2 _ _ _ _ _ _ (vb_int (HM.out _ hv)) (vb_int (HM.out _ hu)) W h h2
      have cad := add_ok (P := Try.prog) (x := ⟨#[op]⟩) (y := ⟨#[vb (m v), vb (m u)]⟩) (by show 1 ≤ 32000000; decide) (by show 2 ≤ 32000000; decide)
      have hlw : H < wr.heap.size := by have := hH.out; have := HX.out.size; have := HX.out.b.size; omega
      have hgw : g < wr.heap.size := hgl.2
      clear hgl
      obtain ⟨c0, c1, c2, c3, c4⟩ := HCN.out wr HX.out
      have HB9 : Hid (Below w.heap.size w (wr.alloc (.cells #[.int .u8 (op.toNat : Int)] 5)).drew) := (HX.out.b.alloc (by have := HX.out.b.size; omega) _).drew
      go_wp2_with fail
      refine Calls.mono (isQuantifier_any 49 H op [v, u] [] (1 <<< v ||| 1 <<< u) (1 <<< v ||| 1 <<< u) wr (HND.out.below HX.out.b (Nat.le_refl _))) ?_
      rintro eo w1 ⟨rfl, rfl⟩
      rw [HQ.out]
      go_wp2_with fail
      go_region
      go_wp2_with fail
      obtain ⟨w9, hw9⟩ : ∃ QZ, QZ = (wr.alloc (.cells #[.int .u8 (op.toNat : Int)] 5)).drew := ⟨_, rfl⟩
      rw [← hw9] at HB9 ⊢
      clear hw9
      go_loop [16, 154] (fun o i => o = .string (⟨#[op]⟩ ++ ⟨#[vb (m v), vb (m u)]⟩) ∧ i = .int .i64 0) (fun _ _ => 0)
      case atStart => exact ⟨rfl, rfl⟩
      case round =>
        obtain ⟨rfl, rfl⟩ := hrel
        go_wp2
        go_ret2
        exact put_ok (t := [op, vb (m v), vb (m u)]) (by unfold put; cases Ro with | none => rfl | some s => simp only; rw [if_neg HOP.out]) (cat_one (c := op) (t := [vb (m v), vb (m u)])) rfl HB9.out
set_option maxHeartbeats 6400000 in
set_option maxRecDepth 100000 in
theorem pt_r2 (So Ro : Option Fm) (M : Nat) (hM : 1 ≤ M ∧ M ≤ 4000) (hS : So = none ∨ ∃ s, So = some s ∧ s.ok ∧ s.free >>> 1 = 0 ∧ s.txt.length ≤ M ∧ ∀ (Hs v : Nat) (w : World), v < 4 → Tree 49 w s Hs → Calls Try.prog 29 #[.agg #[.pointer none, .pointer none], .pointer (some ⟨Hs, 0, none⟩), .agg #[.int .u8 (97 + (v : Nat) : Int), .int .u8 98, .int .u8 99, .int .u8 100]] w (PutQ w (put0 s (map1 v)))) (hR : Ro = none ∨ ∃ s, Ro = some s ∧ s.ok ∧ s.free >>> 2 = 0 ∧ s.txt.length ≤ M ∧ ∀ (Hs v u : Nat) (w : World), v < 4 → u < 4 → Tree 49 w s Hs → Calls Try.prog 29 #[.agg #[.pointer none, .pointer none], .pointer (some ⟨Hs, 0, none⟩), .agg #[.int .u8 (97 + (v : Nat) : Int), .int .u8 (97 + (u : Nat) : Int), .int .u8 99, .int .u8 100]] w (PutQ w (put0 s (map2 v u)))) (sv rv : Value) (m : Nat → Nat) (H : Nat) (w : World) (hm : ∀ x, x < 4 → m x < 4) (vs : VT w sv So) (vr : VT w rv Ro) (v u : Nat) (hRo : Ro = none) (hv : v < 4) (hu : u < 4) (hnode : Tree 49 w (.r 69 v u) H) :
    Calls Try.prog 29 #[.agg #[sv, rv], .pointer (some ⟨H, 0, none⟩), .agg #[.int .u8 (97 + (m 0 : Nat) : Int), .int .u8 (97 + (m 1 : Nat) : Int), .int .u8 (97 + (m 2 : Nat) : Int), .int .u8 (97 + (m 3 : Nat) : Int)]] w (PutQ w (put So Ro (.r 69 v u) m)) := by
  subst hRo
  have HRV := Lib.hid (vr.1 rfl)
  have hnode : fmt.Node 49 w H 69 [v, u] [] (1 <<< v ||| 1 <<< u) (1 <<< v ||| 1 <<< u) := hnode
  obtain ⟨op, hop⟩ : ∃ op : UInt8, op = 69 := ⟨_, rfl⟩
  rw [← hop] at hnode
  obtain ⟨W2, hW2⟩ : ∃ QZ, QZ = ((w.alloc (.cells #[sv, rv] 60)).alloc (.cells #[.int .u8 (97 + (m 0 : Nat) : Int), .int .u8 (97 + (m 1 : Nat) : Int), .int .u8 (97 + (m 2 : Nat) : Int), .int .u8 (97 + (m 3 : Nat) : Int)] 62)).alloc (.cells #[] 5) := ⟨_, rfl⟩
  have HX0 : Hid (Bx w W2 sv rv m) := by rw [hW2]; exact (Bx.new w sv rv m).call ((Below.refl _ _).alloc (Nat.le_refl _) _)
  have HO0 : Hid (W2.ownsRow (w.heap.size + 2) 5 1 (.slice (some ⟨w.heap.size + 1 + 1, 0, none⟩) 0 0) 0 (nb [])) := by rw [hW2, Hid]; have h := own_new (w := ((w.alloc (.cells #[sv, rv] 60)).alloc (.cells #[.int .u8 (97 + (m 0 : Nat) : Int), .int .u8 (97 + (m 1 : Nat) : Int), .int .u8 (97 + (m 2 : Nat) : Int), .int .u8 (97 + (m 3 : Nat) : Int)] 62))) (C := w.heap.size + 2) (by simp); simpa using h
  have HN : Hid (fmt.Node 49 w H op [v, u] [] (1 <<< v ||| 1 <<< u) (1 <<< v ||| 1 <<< u)) := hnode
  have HN2 : Hid (fmt.Node 49 W2 H op [v, u] [] (1 <<< v ||| 1 <<< u) (1 <<< v ||| 1 <<< u)) := hnode.below HX0.out.b (Nat.le_refl _)
  obtain ⟨vv, pv, hvv, hpv, c0, c1, c2, c3, c4⟩ := HN2.out.cells
  obtain ⟨va, vc, rfl⟩ := rv_len hvv
  obtain ⟨pa, pc, rfl⟩ := rv_len hpv
  have hH := Lib.hid HN.out.lt
  simp only [List.map_nil, List.map_cons, List.length_nil, List.length_cons, Nat.zero_add, Nat.reduceAdd] at c1 c2 hvv hpv
  obtain ⟨vb_, vo, rfl, ce0⟩ := rv_cell hvv rfl (k := 0) (by simp)
  have hvb := World.block_lt_of_cell? _ _ ce0
  obtain ⟨vb2, vo2, hv2, ce1⟩ := rv_cell hvv rfl (k := 1) (by simp)
  simp only [Option.some.injEq, Addr.mk.injEq] at hv2
  obtain ⟨rfl, rfl, -⟩ := hv2
  have HCN : Hid (∀ wr {m : Nat → Nat}, Bx w wr sv rv m → wr.cell? ⟨H, 0, none⟩ = some (.int .u8 (op.toNat : Int)) ∧ wr.cell? ⟨H, 1, none⟩ = some (.slice (some ⟨vb_, vo, none⟩) 2 vc) ∧ wr.cell? ⟨H, 2, none⟩ = some (.slice pa 0 pc) ∧ True ∧ True) := fun wr _ hx => by
    have e : ∀ j, wr.cell? ⟨H, j, none⟩ = w.cell? ⟨H, j, none⟩ := fun j => hx.b.cell (p := ⟨H, j, none⟩) hH.out
    have e2 : ∀ j, W2.cell? ⟨H, j, none⟩ = w.cell? ⟨H, j, none⟩ := fun j => HX0.out.b.cell (p := ⟨H, j, none⟩) hH.out
    exact ⟨(e 0).trans ((e2 0).symm.trans c0), (e 1).trans ((e2 1).symm.trans c1), (e 2).trans ((e2 2).symm.trans c2), trivial, trivial⟩
  have HCE0 : Hid (∀ wr, Bx w wr sv rv m → wr.cell? ⟨vb_, vo, none⟩ = some (.int .u8 (97 + (v : Nat) : Int))) := fun wr hx => by
    have hvb0 : vb_ < w.heap.size := by
      obtain ⟨vv0, _, hv0, _, _, c10, _⟩ := HN.out.cells
      have e : W2.cell? ⟨H, 1, none⟩ = w.cell? ⟨H, 1, none⟩ := HX0.out.b.cell (p := ⟨H, 1, none⟩) hH.out
      rw [c1, c10] at e
      obtain ⟨b9, o9, he9, h9⟩ := rv_cell hv0 (Option.some.inj e).symm (k := 0) (by simp)
      simp only [Option.some.injEq, Addr.mk.injEq] at he9
      rw [he9.1]
      exact World.block_lt_of_cell? _ _ h9
    have e : wr.cell? ⟨vb_, vo, none⟩ = w.cell? ⟨vb_, vo, none⟩ := hx.b.cell (p := ⟨vb_, vo, none⟩) hvb0
    have e2 : W2.cell? ⟨vb_, vo, none⟩ = w.cell? ⟨vb_, vo, none⟩ := HX0.out.b.cell (p := ⟨vb_, vo, none⟩) hvb0
    rw [e, ← e2, vb_int hv]
    exact ce0
  have HCE1 : Hid (∀ wr, Bx w wr sv rv m → wr.cell? ⟨vb_, vo + 1, none⟩ = some (.int .u8 (97 + (u : Nat) : Int))) := fun wr hx => by
    have hvb0 : vb_ < w.heap.size := by
      obtain ⟨vv0, _, hv0, _, _, c10, _⟩ := HN.out.cells
      have e : W2.cell? ⟨H, 1, none⟩ = w.cell? ⟨H, 1, none⟩ := HX0.out.b.cell (p := ⟨H, 1, none⟩) hH.out
      rw [c1, c10] at e
      obtain ⟨b9, o9, he9, h9⟩ := rv_cell hv0 (Option.some.inj e).symm (k := 0) (by simp)
      simp only [Option.some.injEq, Addr.mk.injEq] at he9
      rw [he9.1]
      exact World.block_lt_of_cell? _ _ h9
    have e : wr.cell? ⟨vb_, vo + 1, none⟩ = w.cell? ⟨vb_, vo + 1, none⟩ := hx.b.cell (p := ⟨vb_, vo + 1, none⟩) hvb0
    have e2 : W2.cell? ⟨vb_, vo + 1, none⟩ = w.cell? ⟨vb_, vo + 1, none⟩ := HX0.out.b.cell (p := ⟨vb_, vo + 1, none⟩) hvb0
    rw [e, ← e2, vb_int hu]
    exact ce1
  have HM := Lib.hid hm
  have HND := HN
  have e80 : ((op.toNat : Int) == 80) = false := by rw [hop]; rfl
  have e69 : ((op.toNat : Int) == 69) = true := by rw [hop]; rfl
  have HQ : Hid (isQ op.toNat = false) := by rw [hop]; rfl
  have HOP := Lib.hid hop
  clear hop hnode
  clear hvv hpv hm hS hR vs vr
  clear hvb ce0 ce1
  rw [hW2] at c0 c1 c2 c3 c4
  go_enter Try.func29, Try.ntmps29
  go_wp2_with fail
  rw [← hW2] at c0 c1 c2 c3 c4 ⊢
  clear hW2
  go_loopw [8, 27] (fun nv i wr => ∃ (k g cap : Nat), k ≤ 2 ∧ i = .int .i64 k ∧ nv = .slice (some ⟨g, 0, none⟩) k cap ∧ Hid (wr.ownsRow (w.heap.size + 2) 5 1 (.slice (some ⟨g, 0, none⟩) k cap) k (nb (([m v, m u] : List Nat).take k))) ∧ Hid (Bx w wr sv rv m)) (fun _ i _ => 2 - (intOf i).toNat)
  case atStart => exact ⟨0, _, _, Nat.zero_le _, rfl, rfl, HO0.out, HX0.out⟩
  case round =>
    clear HO0 HX0 c0 c1 c2 c3 c4
    obtain ⟨k, g, cap, hk, rfl, rfl, HO, HX⟩ := hrel
    have hgl := HO.out.lt g rfl
    obtain rfl | rfl | rfl : k = 0 ∨ k = 1 ∨ k = 2 := by omega
    · have cx := HCE0.out wr HX.out
      have cy := HX.out.at hv
      have s1 := u8_sub hv
      have s2 := u8_wrap hv
      have l1 : (v : Int) < 4 := by omega
      have HZ : Hid (0 + 1 ≤ 4398046511104 ∧ w.heap.size + 2 ≤ wr.heap.size) := ⟨by decide, HX.out.size⟩
      clear hgl
      go_wp2_with (at_builtin; refine wpList_app1 wr rfl (.tmp 31) (.tmp 36) 46 rfl (w.heap.size + 2) 5 (.int .u8 0) 1 Try.underlying46 infoB rfl (by decide) _ _ _ (.int .u8 (97 + (m v : Nat) : Int)) rfl HO.out wr.heap.size rfl rfl rfl HZ.out.1 HZ.out.2 ?_)
      intro g2 cap2 w1 hown hgr
      have HX2 : Hid (Bx w w1 sv rv m) := HX.out.on (hgr.below HO.out HZ.out.2)
      have HO2 := Lib.hid hown
      clear hown hgr cx cy
      go_wp2
      go_roundw
      case rel => exact ⟨1, g2, cap2, by decide, by first | rfl | go_num, rfl, HO2.out, HX2.out⟩
      case measure => simp [intOf]
    · have cx := HCE1.out wr HX.out
      have cy := HX.out.at hu
      have s1 := u8_sub hu
      have s2 := u8_wrap hu
      have l1 : (u : Int) < 4 := by omega
      have HZ : Hid (1 + 1 ≤ 4398046511104 ∧ w.heap.size + 2 ≤ wr.heap.size) := ⟨by decide, HX.out.size⟩
      clear hgl
      go_wp2_with (at_builtin; refine wpList_app1 wr rfl (.tmp 31) (.tmp 36) 46 rfl (w.heap.size + 2) 5 (.int .u8 0) 1 Try.underlying46 infoB rfl (by decide) _ _ _ (.int .u8 (97 + (m u : Nat) : Int)) rfl HO.out wr.heap.size rfl rfl rfl HZ.out.1 HZ.out.2 ?_)
      intro g2 cap2 w1 hown hgr
      have HX2 : Hid (Bx w w1 sv rv m) := HX.out.on (hgr.below HO.out HZ.out.2)
      have HO2 := Lib.hid hown
      clear hown hgr cx cy
      go_wp2
      go_roundw
      case rel => exact ⟨2, g2, cap2, by decide, by first | rfl | go_num, rfl, HO2.out, HX2.out⟩
      case measure => simp [intOf]
    · have ca : ∀ W : World, W.cell? ⟨wr.heap.size, 0, none⟩ = some (.int .u8 (op.toNat : Int)) → (convert 46 9 (.slice (some ⟨wr.heap.size, 0, none⟩) 1 1)).run Try.prog W = .ok (.string ⟨#[op]⟩) W := fun W h => to_text1 _ _ op _ rfl W h
      have cn0 : wr.cell? ⟨g, 0, none⟩ = some (.int .u8 (97 + (m v : Nat) : Int)) := by have := HO.out.cellAt 0 (by decide); exact this
      have cn1 : wr.cell? ⟨g, 1, none⟩ = some (.int .u8 (97 + (m u : Nat) : Int)) := by have := HO.out.cellAt 1 (by decide); exact this
      have cb : ∀ W : World, W.cell? ⟨g, 0, none⟩ = some (.int .u8 (97 + (m v : Nat) : Int)) → W.cell? ⟨g, 1, none⟩ = some (.int .u8 (97 + (m u : Nat) : Int)) → (convert 46 9 (.slice (some ⟨g, 0, none⟩) 2 cap)).run Try.prog W = .ok (.string ⟨#[vb (m v), vb (m u)]⟩) W := fun W h h2 => to_text2 _ _ _ _ _ _ (vb_int (HM.out _ hv)) (vb_int (HM.out _ hu)) W h h2
      have cad := add_ok (P := Try.prog) (x := ⟨#[op]⟩) (y := ⟨#[vb (m v), vb (m u)]⟩) (by show 1 ≤ 32000000; decide) (by show 2 ≤ 32000000; decide)
      have hlw : H < wr.heap.size := by have := hH.out; have := HX.out.size; have := HX.out.b.size; omega
      have hgw : g < wr.heap.size := hgl.2
      clear hgl
      obtain ⟨c0, c1, c2, c3, c4⟩ := HCN.out wr HX.out
      have cs : wr.cell? ⟨w.heap.size, 1, none⟩ = some (.pointer none) := by rw [HX.out.c.2.1, HRV.out]
      have HB9 : Hid (Below w.heap.size w (wr.alloc (.cells #[.int .u8 (op.toNat : Int)] 5)).drew) := (HX.out.b.alloc (by have := HX.out.b.size; omega) _).drew
      go_wp2_with fail
      refine Calls.mono (isQuantifier_any 49 H op [v, u] [] (1 <<< v ||| 1 <<< u) (1 <<< v ||| 1 <<< u) wr (HND.out.below HX.out.b (Nat.le_refl _))) ?_
      rintro eo w1 ⟨rfl, rfl⟩
      rw [HQ.out]
      go_wp2_with fail
      go_region
      go_wp2_with fail
      obtain ⟨w9, hw9⟩ : ∃ QZ, QZ = (wr.alloc (.cells #[.int .u8 (op.toNat : Int)] 5)).drew := ⟨_, rfl⟩
      rw [← hw9] at HB9 ⊢
      clear hw9
      go_loop [16, 154] (fun o i => o = .string (⟨#[op]⟩ ++ ⟨#[vb (m v), vb (m u)]⟩) ∧ i = .int .i64 0) (fun _ _ => 0)
      case atStart => exact ⟨rfl, rfl⟩
      case round =>
        obtain ⟨rfl, rfl⟩ := hrel
        go_wp2
        go_ret2
        exact put_ok (t := [op, vb (m v), vb (m u)]) (by rw [HOP.out]; rfl) (cat_one (c := op) (t := [vb (m v), vb (m u)])) rfl HB9.out
end Go.Proofs.Ytefneihlgclkbaa.fmpb

/- Formulas in the program: put, some sorts. -/
namespace Go.Proofs.Ytefneihlgclkbaa.fmpc
set_option linter.unusedVariables false
set_option linter.unusedSimpArgs false
open Go.ChangeShapes Go.WideShapes Go.ChangeAt Go.RowKit
open Go.Proofs.Ytefneihlgclkbaa.lib Go.Proofs.Ytefneihlgclkbaa.fm Go.Proofs.Ytefneihlgclkbaa.fmt Go.Proofs.Ytefneihlgclkbaa.fmu Go.Proofs.Ytefneihlgclkbaa.fme Go.Proofs.Ytefneihlgclkbaa.fmx Go.Proofs.Ytefneihlgclkbaa.fmj Go.Proofs.Ytefneihlgclkbaa.fmv
open Go.Proofs.Ytefneihlgclkbaa.fmo

set_option maxHeartbeats 6400000 in
set_option maxRecDepth 100000 in
theorem pt_pv (So Ro : Option Fm) (M : Nat) (hM : 1 ≤ M ∧ M ≤ 4000) (hS : So = none ∨ ∃ s, So = some s ∧ s.ok ∧ s.free >>> 1 = 0 ∧ s.txt.length ≤ M ∧ ∀ (Hs v : Nat) (w : World), v < 4 → Tree 49 w s Hs → Calls Try.prog 29 #[.agg #[.pointer none, .pointer none], .pointer (some ⟨Hs, 0, none⟩), .agg #[.int .u8 (97 + (v : Nat) : Int), .int .u8 98, .int .u8 99, .int .u8 100]] w (PutQ w (put0 s (map1 v)))) (hR : Ro = none ∨ ∃ s, Ro = some s ∧ s.ok ∧ s.free >>> 2 = 0 ∧ s.txt.length ≤ M ∧ ∀ (Hs v u : Nat) (w : World), v < 4 → u < 4 → Tree 49 w s Hs → Calls Try.prog 29 #[.agg #[.pointer none, .pointer none], .pointer (some ⟨Hs, 0, none⟩), .agg #[.int .u8 (97 + (v : Nat) : Int), .int .u8 (97 + (u : Nat) : Int), .int .u8 99, .int .u8 100]] w (PutQ w (put0 s (map2 v u)))) (sv rv : Value) (m : Nat → Nat) (H : Nat) (w : World) (hm : ∀ x, x < 4 → m x < 4) (vs : VT w sv So) (vr : VT w rv Ro) (v : Nat) (hv : v < 4) (s : Fm) (hSo : So = some s) (hnode : Tree 49 w (.p v) H) :
    Calls Try.prog 29 #[.agg #[sv, rv], .pointer (some ⟨H, 0, none⟩), .agg #[.int .u8 (97 + (m 0 : Nat) : Int), .int .u8 (97 + (m 1 : Nat) : Int), .int .u8 (97 + (m 2 : Nat) : Int), .int .u8 (97 + (m 3 : Nat) : Int)]] w (PutQ w (put So Ro (.p v) m)) := by
  subst hSo
  obtain ⟨Hs, hsv, hts⟩ := vs.2 s rfl
  obtain ⟨s2, he, hs1, hs2, hs3, hcall⟩ := hS.resolve_left (by simp)
  obtain rfl : s = s2 := Option.some.inj he
  have HSV := Lib.hid hsv
  have HTS := Lib.hid hts
  have HCALL := Lib.hid hcall
  clear hsv hts hcall he hs1 hs2 hs3
  have hv4 := hm v hv
  have hnode : fmt.Node 49 w H 80 [v] [] (1 <<< v) (1 <<< v) := hnode
  obtain ⟨op, hop⟩ : ∃ op : UInt8, op = 80 := ⟨_, rfl⟩
  rw [← hop] at hnode
  obtain ⟨W2, hW2⟩ : ∃ QZ, QZ = ((w.alloc (.cells #[sv, rv] 60)).alloc (.cells #[.int .u8 (97 + (m 0 : Nat) : Int), .int .u8 (97 + (m 1 : Nat) : Int), .int .u8 (97 + (m 2 : Nat) : Int), .int .u8 (97 + (m 3 : Nat) : Int)] 62)).alloc (.cells #[] 5) := ⟨_, rfl⟩
  have HX0 : Hid (Bx w W2 sv rv m) := by rw [hW2]; exact (Bx.new w sv rv m).call ((Below.refl _ _).alloc (Nat.le_refl _) _)
  have HO0 : Hid (W2.ownsRow (w.heap.size + 2) 5 1 (.slice (some ⟨w.heap.size + 1 + 1, 0, none⟩) 0 0) 0 (nb [])) := by rw [hW2, Hid]; have h := own_new (w := ((w.alloc (.cells #[sv, rv] 60)).alloc (.cells #[.int .u8 (97 + (m 0 : Nat) : Int), .int .u8 (97 + (m 1 : Nat) : Int), .int .u8 (97 + (m 2 : Nat) : Int), .int .u8 (97 + (m 3 : Nat) : Int)] 62))) (C := w.heap.size + 2) (by simp); simpa using h
  have HN : Hid (fmt.Node 49 w H op [v] [] (1 <<< v) (1 <<< v)) := hnode
  have HN2 : Hid (fmt.Node 49 W2 H op [v] [] (1 <<< v) (1 <<< v)) := hnode.below HX0.out.b (Nat.le_refl _)
  obtain ⟨vv, pv, hvv, hpv, c0, c1, c2, c3, c4⟩ := HN2.out.cells
  obtain ⟨va, vc, rfl⟩ := rv_len hvv
  obtain ⟨pa, pc, rfl⟩ := rv_len hpv
  have hH := Lib.hid HN.out.lt
  simp only [List.map_nil, List.map_cons, List.length_nil, List.length_cons, Nat.zero_add, Nat.reduceAdd] at c1 c2 hvv hpv
  obtain ⟨vb_, vo, rfl, ce0⟩ := rv_cell hvv rfl (k := 0) (by simp)
  have hvb := World.block_lt_of_cell? _ _ ce0
  have HCN : Hid (∀ wr {m : Nat → Nat}, Bx w wr sv rv m → wr.cell? ⟨H, 0, none⟩ = some (.int .u8 (op.toNat : Int)) ∧ wr.cell? ⟨H, 1, none⟩ = some (.slice (some ⟨vb_, vo, none⟩) 1 vc) ∧ wr.cell? ⟨H, 2, none⟩ = some (.slice pa 0 pc) ∧ True ∧ True) := fun wr _ hx => by
    have e : ∀ j, wr.cell? ⟨H, j, none⟩ = w.cell? ⟨H, j, none⟩ := fun j => hx.b.cell (p := ⟨H, j, none⟩) hH.out
    have e2 : ∀ j, W2.cell? ⟨H, j, none⟩ = w.cell? ⟨H, j, none⟩ := fun j => HX0.out.b.cell (p := ⟨H, j, none⟩) hH.out
    exact ⟨(e 0).trans ((e2 0).symm.trans c0), (e 1).trans ((e2 1).symm.trans c1), (e 2).trans ((e2 2).symm.trans c2), trivial, trivial⟩
  have HCE0 : Hid (∀ wr, Bx w wr sv rv m → wr.cell? ⟨vb_, vo, none⟩ = some (.int .u8 (97 + (v : Nat) : Int))) := fun wr hx => by
    have hvb0 : vb_ < w.heap.size := by
      obtain ⟨vv0, _, hv0, _, _, c10, _⟩ := HN.out.cells
      have e : W2.cell? ⟨H, 1, none⟩ = w.cell? ⟨H, 1, none⟩ := HX0.out.b.cell (p := ⟨H, 1, none⟩) hH.out
      rw [c1, c10] at e
      obtain ⟨b9, o9, he9, h9⟩ := rv_cell hv0 (Option.some.inj e).symm (k := 0) (by simp)
      simp only [Option.some.injEq, Addr.mk.injEq] at he9
      rw [he9.1]
      exact World.block_lt_of_cell? _ _ h9
    have e : wr.cell? ⟨vb_, vo, none⟩ = w.cell? ⟨vb_, vo, none⟩ := hx.b.cell (p := ⟨vb_, vo, none⟩) hvb0
    have e2 : W2.cell? ⟨vb_, vo, none⟩ = w.cell? ⟨vb_, vo, none⟩ := HX0.out.b.cell (p := ⟨vb_, vo, none⟩) hvb0
    rw [e, ← e2, vb_int hv]
    exact ce0
  have HM := Lib.hid hm
  have HND := HN
  have e80 : ((op.toNat : Int) == 80) = true := by rw [hop]; rfl
  have e69 : ((op.toNat : Int) == 69) = false := by rw [hop]; rfl
  have HQ : Hid (isQ op.toNat = false) := by rw [hop]; rfl
  have HOP := Lib.hid hop
  clear hop hnode
  clear hvv hpv hm hS hR vs vr
  clear hvb ce0
  rw [hW2] at c0 c1 c2 c3 c4
  go_enter Try.func29, Try.ntmps29
  go_wp2_with fail
  rw [← hW2] at c0 c1 c2 c3 c4 ⊢
  clear hW2
  go_loopw [8, 27] (fun nv i wr => ∃ (k g cap : Nat), k ≤ 1 ∧ i = .int .i64 k ∧ nv = .slice (some ⟨g, 0, none⟩) k cap ∧ Hid (wr.ownsRow (w.heap.size + 2) 5 1 (.slice (some ⟨g, 0, none⟩) k cap) k (nb (([m v] : List Nat).take k))) ∧ Hid (Bx w wr sv rv m)) (fun _ i _ => 1 - (intOf i).toNat)
  case atStart => exact ⟨0, _, _, Nat.zero_le _, rfl, rfl, HO0.out, HX0.out⟩
  case round =>
    clear HO0 HX0 c0 c1 c2 c3 c4
    obtain ⟨k, g, cap, hk, rfl, rfl, HO, HX⟩ := hrel
    have hgl := HO.out.lt g rfl
    obtain rfl | rfl : k = 0 ∨ k = 1 := by omega
    · have cx := HCE0.out wr HX.out
      have cy := HX.out.at hv
      have s1 := u8_sub hv
      have s2 := u8_wrap hv
      have l1 : (v : Int) < 4 := by omega
      have HZ : Hid (0 + 1 ≤ 4398046511104 ∧ w.heap.size + 2 ≤ wr.heap.size) := ⟨by decide, HX.out.size⟩
      clear hgl
      go_wp2_with (at_builtin; refine wpList_app1 wr rfl (.tmp 31) (.tmp 36) 46 rfl (w.heap.size + 2) 5 (.int .u8 0) 1 Try.underlying46 infoB rfl (by decide) _ _ _ (.int .u8 (97 + (m v : Nat) : Int)) rfl HO.out wr.heap.size rfl rfl rfl HZ.out.1 HZ.out.2 ?_)
      intro g2 cap2 w1 hown hgr
      have HX2 : Hid (Bx w w1 sv rv m) := HX.out.on (hgr.below HO.out HZ.out.2)
      have HO2 := Lib.hid hown
      clear hown hgr cx cy
      go_wp2
      go_roundw
      case rel => exact ⟨1, g2, cap2, by decide, by first | rfl | go_num, rfl, HO2.out, HX2.out⟩
      case measure => simp [intOf]
    · have cs : wr.cell? ⟨w.heap.size, 0, none⟩ = some (.pointer (some ⟨Hs, 0, none⟩)) := by rw [HX.out.c.1, HSV.out]
      have cn0 : wr.cell? ⟨g, 0, none⟩ = some (.int .u8 (97 + (m v : Nat) : Int)) := by have := HO.out.cellAt 0 (by decide); exact this
      have HC : Hid (Calls Try.prog 29 #[.agg #[.pointer none, .pointer none], .pointer (some ⟨Hs, 0, none⟩), .agg #[.int .u8 (97 + (m v : Nat) : Int), .int .u8 98, .int .u8 99, .int .u8 100]] wr.drew (PutQ wr.drew (put0 s (map1 (m v))))) := HCALL.out Hs (m v) _ (HM.out v hv) (HTS.out.below HX.out.b.drew (Nat.le_refl _))
      have HBX := Lib.hid HX.out.b
      obtain ⟨c0, c1, c2, c3, c4⟩ := HCN.out wr HX.out
      go_wp2_with fail
      go_region_with (refine HC.out.mono ?_; rintro eo w1 ⟨rfl, hb⟩)
      all_goals
        have HB9 : Hid (Below w.heap.size w w1) := HBX.out.drew.trans (hb.mono HBX.out.size)
        go_wp2
        go_ret2
        exact ⟨rfl, HB9.out⟩
end Go.Proofs.Ytefneihlgclkbaa.fmpc

/- Formulas in the program: put, some sorts. -/
namespace Go.Proofs.Ytefneihlgclkbaa.fmpe
set_option linter.unusedVariables false
set_option linter.unusedSimpArgs false
open Go.ChangeShapes Go.WideShapes Go.ChangeAt Go.RowKit
open Go.Proofs.Ytefneihlgclkbaa.lib Go.Proofs.Ytefneihlgclkbaa.fm Go.Proofs.Ytefneihlgclkbaa.fmt Go.Proofs.Ytefneihlgclkbaa.fmu Go.Proofs.Ytefneihlgclkbaa.fme Go.Proofs.Ytefneihlgclkbaa.fmx Go.Proofs.Ytefneihlgclkbaa.fmj Go.Proofs.Ytefneihlgclkbaa.fmv
open Go.Proofs.Ytefneihlgclkbaa.fmo

set_option maxHeartbeats 6400000 in
set_option maxRecDepth 100000 in
theorem pt_no (So Ro : Option Fm) (M : Nat) (hM : 1 ≤ M ∧ M ≤ 4000) (hS : So = none ∨ ∃ s, So = some s ∧ s.ok ∧ s.free >>> 1 = 0 ∧ s.txt.length ≤ M ∧ ∀ (Hs v : Nat) (w : World), v < 4 → Tree 49 w s Hs → Calls Try.prog 29 #[.agg #[.pointer none, .pointer none], .pointer (some ⟨Hs, 0, none⟩), .agg #[.int .u8 (97 + (v : Nat) : Int), .int .u8 98, .int .u8 99, .int .u8 100]] w (PutQ w (put0 s (map1 v)))) (hR : Ro = none ∨ ∃ s, Ro = some s ∧ s.ok ∧ s.free >>> 2 = 0 ∧ s.txt.length ≤ M ∧ ∀ (Hs v u : Nat) (w : World), v < 4 → u < 4 → Tree 49 w s Hs → Calls Try.prog 29 #[.agg #[.pointer none, .pointer none], .pointer (some ⟨Hs, 0, none⟩), .agg #[.int .u8 (97 + (v : Nat) : Int), .int .u8 (97 + (u : Nat) : Int), .int .u8 99, .int .u8 100]] w (PutQ w (put0 s (map2 v u)))) (sv rv : Value) (m : Nat → Nat) (H : Nat) (w : World) (hm : ∀ x, x < 4 → m x < 4) (vs : VT w sv So) (vr : VT w rv Ro) (a0 : Fm) (hla : M * (Fm.no a0).txt.length ≤ 16000000) (hok : (Fm.no a0).ok) (iha0 : M * a0.txt.length ≤ 16000000 → a0.ok → ∀ (m : Nat → Nat) (H : Nat) (w : World), (∀ x, x < 4 → m x < 4) → VT w sv So → VT w rv Ro → Tree 49 w a0 H → Calls Try.prog 29 #[.agg #[sv, rv], .pointer (some ⟨H, 0, none⟩), .agg #[.int .u8 (97 + (m 0 : Nat) : Int), .int .u8 (97 + (m 1 : Nat) : Int), .int .u8 (97 + (m 2 : Nat) : Int), .int .u8 (97 + (m 3 : Nat) : Int)]] w (PutQ w (put So Ro a0 m))) (ht : Tree 49 w (.no a0) H) :
    Calls Try.prog 29 #[.agg #[sv, rv], .pointer (some ⟨H, 0, none⟩), .agg #[.int .u8 (97 + (m 0 : Nat) : Int), .int .u8 (97 + (m 1 : Nat) : Int), .int .u8 (97 + (m 2 : Nat) : Int), .int .u8 (97 + (m 3 : Nat) : Int)]] w (PutQ w (put So Ro (.no a0) m)) := by
  obtain ⟨K0, ht0, hnode⟩ := ht
  have hok : a0.ok := hok
  have hla : M * a0.txt.length ≤ 16000000 := Nat.le_trans (Nat.mul_le_mul_left _ (by simp [Fm.txt])) hla
  have hnode : fmt.Node 49 w H 33 [] [K0] a0.free (Fm.all a0) := hnode
  obtain ⟨op, hop⟩ : ∃ op : UInt8, op = 33 := ⟨_, rfl⟩
  rw [← hop] at hnode
  have HSORT : sort op = .no := by rw [hop]; rfl
  have IHa0 := Lib.hid (iha0 hla hok)
  have HLa0 := Lib.hid hla
  have HT0 := Lib.hid ht0
  have HOP := Lib.hid hop
  clear hop
  have HVS := Lib.hid vs
  have HVR := Lib.hid vr
  have HLM : Hid (1 ≤ M ∧ (∀ s, So = some s → s.txt.length ≤ M) ∧ ∀ s, Ro = some s → s.txt.length ≤ M) := by
    refine ⟨hM.1, fun s hs => ?_, fun s hs => ?_⟩
    · obtain ⟨s2, he, _, _, h3, _⟩ := hS.resolve_left (by rw [hs]; simp)
      rw [hs] at he; cases he; exact h3
    · obtain ⟨s2, he, _, _, h3, _⟩ := hR.resolve_left (by rw [hs]; simp)
      rw [hs] at he; cases he; exact h3
  obtain ⟨W2, hW2⟩ : ∃ QZ, QZ = ((w.alloc (.cells #[sv, rv] 60)).alloc (.cells #[.int .u8 (97 + (m 0 : Nat) : Int), .int .u8 (97 + (m 1 : Nat) : Int), .int .u8 (97 + (m 2 : Nat) : Int), .int .u8 (97 + (m 3 : Nat) : Int)] 62)).alloc (.cells #[] 5) := ⟨_, rfl⟩
  have HX0 : Hid (Bx w W2 sv rv m) := by rw [hW2]; exact (Bx.new w sv rv m).call ((Below.refl _ _).alloc (Nat.le_refl _) _)
  have HO0 : Hid (W2.ownsRow (w.heap.size + 2) 5 1 (.slice (some ⟨w.heap.size + 1 + 1, 0, none⟩) 0 0) 0 (nb [])) := by rw [hW2, Hid]; have h := own_new (w := ((w.alloc (.cells #[sv, rv] 60)).alloc (.cells #[.int .u8 (97 + (m 0 : Nat) : Int), .int .u8 (97 + (m 1 : Nat) : Int), .int .u8 (97 + (m 2 : Nat) : Int), .int .u8 (97 + (m 3 : Nat) : Int)] 62))) (C := w.heap.size + 2) (by simp); simpa using h
  have HN : Hid (fmt.Node 49 w H op [] [K0] a0.free (Fm.all a0)) := hnode
  have HN2 : Hid (fmt.Node 49 W2 H op [] [K0] a0.free (Fm.all a0)) := hnode.below HX0.out.b (Nat.le_refl _)
  obtain ⟨vv, pv, hvv, hpv, c0, c1, c2, c3, c4⟩ := HN2.out.cells
  obtain ⟨va, vc, rfl⟩ := rv_len hvv
  obtain ⟨pa, pc, rfl⟩ := rv_len hpv
  have hH := Lib.hid HN.out.lt
  simp only [List.map_nil, List.map_cons, List.length_nil, List.length_cons, Nat.zero_add, Nat.reduceAdd] at c1 c2 hvv hpv
  obtain ⟨pb, po, rfl, cp0⟩ := rv_cell hpv rfl (k := 0) (by simp)
  have HCN : Hid (∀ wr {m : Nat → Nat}, Bx w wr sv rv m → wr.cell? ⟨H, 0, none⟩ = some (.int .u8 (op.toNat : Int)) ∧ wr.cell? ⟨H, 1, none⟩ = some (.slice va 0 vc) ∧ wr.cell? ⟨H, 2, none⟩ = some (.slice (some ⟨pb, po, none⟩) 1 pc) ∧ True ∧ True) := fun wr _ hx => by
    have e : ∀ j, wr.cell? ⟨H, j, none⟩ = w.cell? ⟨H, j, none⟩ := fun j => hx.b.cell (p := ⟨H, j, none⟩) hH.out
    have e2 : ∀ j, W2.cell? ⟨H, j, none⟩ = w.cell? ⟨H, j, none⟩ := fun j => HX0.out.b.cell (p := ⟨H, j, none⟩) hH.out
    exact ⟨(e 0).trans ((e2 0).symm.trans c0), (e 1).trans ((e2 1).symm.trans c1), (e 2).trans ((e2 2).symm.trans c2), trivial, trivial⟩
  have HPE0 : Hid (∀ wr (mm : Nat → Nat), Bx w wr sv rv mm → wr.cell? ⟨pb, po, none⟩ = some (.pointer (some ⟨K0, 0, none⟩))) := fun wr mm hx => by
    have hpb0 : pb < w.heap.size := by
      obtain ⟨_, pv0, _, hv0, _, _, c20, _⟩ := HN.out.cells
      have e : W2.cell? ⟨H, 2, none⟩ = w.cell? ⟨H, 2, none⟩ := HX0.out.b.cell (p := ⟨H, 2, none⟩) hH.out
      rw [c2, c20] at e
      obtain ⟨b9, o9, he9, h9⟩ := rv_cell hv0 (Option.some.inj e).symm (k := 0) (by simp)
      simp only [Option.some.injEq, Addr.mk.injEq] at he9
      rw [he9.1]
      exact World.block_lt_of_cell? _ _ h9
    have e : wr.cell? ⟨pb, po, none⟩ = w.cell? ⟨pb, po, none⟩ := hx.b.cell (p := ⟨pb, po, none⟩) hpb0
    have e2 : W2.cell? ⟨pb, po, none⟩ = w.cell? ⟨pb, po, none⟩ := HX0.out.b.cell (p := ⟨pb, po, none⟩) hpb0
    rw [e, ← e2]
    exact cp0
  have HM := Lib.hid hm
  have HMM := Lib.hid hm
  have HND := HN
  have e80 := not80 (c := op) (by rw [HSORT]; decide)
  have e69 := not69 (c := op) (by rw [HSORT]; decide)
  have HQ : Hid (isQ op.toNat = false) := by rw [isq_sort, HSORT]; rfl
  clear HSORT hnode hok hla hvv hpv hm hM hS hR vs vr iha0 ht0 cp0
  rw [hW2] at c0 c1 c2 c3 c4
  go_enter Try.func29, Try.ntmps29
  go_wp2_with fail
  rw [← hW2] at c0 c1 c2 c3 c4 ⊢
  clear hW2
  go_loopw [8, 27] (fun nv i wr => ∃ (k g cap : Nat), k ≤ 0 ∧ i = .int .i64 k ∧ nv = .slice (some ⟨g, 0, none⟩) k cap ∧ Hid (wr.ownsRow (w.heap.size + 2) 5 1 (.slice (some ⟨g, 0, none⟩) k cap) k (nb (([] : List Nat).take k))) ∧ Hid (Bx w wr sv rv m)) (fun _ i _ => 0 - (intOf i).toNat)
  case atStart => exact ⟨0, _, _, Nat.zero_le _, rfl, rfl, HO0.out, HX0.out⟩
  case round =>
    clear HO0 HX0 c0 c1 c2 c3 c4
    obtain ⟨k, g, cap, hk, rfl, rfl, HO, HX⟩ := hrel
    have hgl := HO.out.lt g rfl
    obtain rfl : k = 0 := by omega
    · have ca : ∀ W : World, W.cell? ⟨wr.heap.size, 0, none⟩ = some (.int .u8 (op.toNat : Int)) → (convert 46 9 (.slice (some ⟨wr.heap.size, 0, none⟩) 1 1)).run Try.prog W = .ok (.string ⟨#[op]⟩) W := fun W h => to_text1 _ _ op _ rfl W h
      have cb : ∀ W : World, (convert 46 9 (.slice (some ⟨g, 0, none⟩) 0 cap)).run Try.prog W = .ok (.string ⟨#[]⟩) W := fun W => to_text0 _ _ W
      have cad := add_ok (P := Try.prog) (x := ⟨#[op]⟩) (y := ⟨#[]⟩) (by show 1 ≤ 32000000; decide) (by show 0 ≤ 32000000; decide)
      have hlw : H < wr.heap.size := by have := hH.out; have := HX.out.size; have := HX.out.b.size; omega
      have hgw : g < wr.heap.size := hgl.2
      clear hgl
      obtain ⟨c0, c1, c2, c3, c4⟩ := HCN.out wr HX.out
      have HX9 : Hid (Bx w (wr.alloc (.cells #[.int .u8 (op.toNat : Int)] 5)).drew sv rv m) := HX.out.call ((Below.refl _ _).alloc (Nat.le_refl _) _).drew
      go_wp2_with fail
      refine Calls.mono (isQuantifier_any 49 H op [] [K0] a0.free (Fm.all a0) wr (HND.out.below HX.out.b (Nat.le_refl _))) ?_
      rintro eo w1 ⟨rfl, rfl⟩
      rw [HQ.out]
      go_wp2_with fail
      go_region
      go_wp2_with fail
      obtain ⟨w9, hw9⟩ : ∃ QZ, QZ = (wr.alloc (.cells #[.int .u8 (op.toNat : Int)] 5)).drew := ⟨_, rfl⟩
      rw [← hw9] at HX9 ⊢
      clear hw9 c0 c1 c2 c3 c4 HX HO
      go_loopw [16, 154] (fun o i wr => ∃ (k : Nat) (q : List (List UInt8)) (s : ByteArray), k ≤ 1 ∧ q.length = k ∧ i = .int .i64 k ∧ o = .string s ∧ Hid (s = ⟨([op] ++ q.flatten).toArray⟩) ∧ Hid (Bx w wr sv rv m) ∧ Hid (q.map some = (([a0] : List Fm).take k).map fun a => put So Ro a m)) (fun _ i _ => 1 - (intOf i).toNat)
      case atStart => exact ⟨0, [], _, Nat.zero_le _, rfl, rfl, rfl, by rw [cat_one (t := [])]; rfl, HX9.out, rfl⟩
      case round =>
        clear HX9
        obtain ⟨k, q, s, hk, hql, rfl, rfl, HSS, HX, HQQ⟩ := hrel
        have hlw : H < wr.heap.size := by have := hH.out; have := HX.out.b.size; omega
        obtain rfl | rfl : k = 0 ∨ k = 1 := by omega
        · have cx := HPE0.out wr _ HX.out
          obtain ⟨q0, q1, r0, r1, r2, r3⟩ := HX.out.c
          have rp := HX.out.p
          have rv_ := HX.out.v
          have HC := Lib.hid (IHa0.out m K0 wr HMM.out (HVS.out.below' HX.out.b) (HVR.out.below' HX.out.b) (HT0.out.below HX.out.b (Nat.le_refl _)))
          cases hp : put So Ro a0 m with
          | none =>
            have HP := Lib.hid hp
            have HE : Hid (put So Ro (.no a0) m = none) := by unfold Hid put; rw [HP.out]
            clear hp
            go_wp2_with fail
            refine HC.out.mono ?_
            rintro eo w1 ⟨rfl, hb⟩
            rw [HP.out]
            have HB9 : Hid (Below w.heap.size w w1) := HX.out.b.trans (hb.mono HX.out.b.size)
            clear hb
            go_wp2
            go_ret2
            exact put_no HE.out rfl rfl HB9.out
          | some x =>
            have HP := Lib.hid hp
            have hxl : x.length ≤ 16000000 := Nat.le_trans (put_len HLM.out.1 HLM.out.2.1 HLM.out.2.2 hp) HLa0.out
            have hq0 : ([op] ++ q.flatten).length ≤ 16000010 := by rw [List.length_eq_zero_iff.1 hql]; simp
            have cad := add_ok (P := Try.prog) (x := s) (y := optS (some x)) (by rw [HSS.out]; show ([op] ++ q.flatten).toArray.size ≤ _; rw [List.size_toArray]; omega) (by show x.toArray.size ≤ _; rw [List.size_toArray]; omega)
            have HQ2 : Hid ((q ++ [x]).map some = (([a0] : List Fm).take (0 + 1)).map fun a => put So Ro a m) := by
              rw [Hid, List.map_append, HQQ.out]
              simp [hp]
            have HT2 : Hid (s ++ optS (some x) = ⟨([op] ++ (q ++ [x]).flatten).toArray⟩) := by
              rw [optS_some, Hid, HSS.out, cat_two, List.flatten_append, ← List.append_assoc]
              simp
            clear hp hxl hq0
            go_wp2_with fail
            refine HC.out.mono ?_
            rintro eo w1 ⟨rfl, hb⟩
            rw [HP.out]
            have HX2 : Hid (Bx w w1 sv rv m) := HX.out.call hb
            clear hb cx q0 q1 r0 r1 r2 r3 rp rv_ HX HC
            obtain ⟨z, hz⟩ : ∃ z, z = optS (some x) := ⟨_, rfl⟩
            rw [← hz] at cad HT2 ⊢
            clear hz
            go_wp2
            go_roundw
            case rel => first | exact ⟨0 + 1, q ++ [x], s ++ z, by decide, by simp [hql], by first | rfl | go_num, rfl, HT2, HX2, HQ2⟩ | ((repeat apply Exists.intro); exact ⟨⟨0 + 1, q ++ [x], s ++ z, by decide, by simp [hql], by first | rfl | go_num, rfl, HT2, HX2, HQ2⟩, rfl⟩)
            case measure => simp [intOf]
        · have HE : Hid (put So Ro (.no a0) m = some ([op] ++ q.flatten)) := by
            match q, hql, HQQ with
            | [x], _, HQQ =>
              have h := HQQ.out
              simp at h
              unfold Hid put
              rw [← h, HOP.out]; simp
          have HB9 := Lib.hid HX.out.b
          go_wp2
          go_ret2
          exact put_ok HE.out HSS.out rfl HB9.out
end Go.Proofs.Ytefneihlgclkbaa.fmpe

/- Formulas in the program: put, some sorts. -/
namespace Go.Proofs.Ytefneihlgclkbaa.fmpf
set_option linter.unusedVariables false
set_option linter.unusedSimpArgs false
open Go.ChangeShapes Go.WideShapes Go.ChangeAt Go.RowKit
open Go.Proofs.Ytefneihlgclkbaa.lib Go.Proofs.Ytefneihlgclkbaa.fm Go.Proofs.Ytefneihlgclkbaa.fmt Go.Proofs.Ytefneihlgclkbaa.fmu Go.Proofs.Ytefneihlgclkbaa.fme Go.Proofs.Ytefneihlgclkbaa.fmx Go.Proofs.Ytefneihlgclkbaa.fmj Go.Proofs.Ytefneihlgclkbaa.fmv
open Go.Proofs.Ytefneihlgclkbaa.fmo

set_option maxHeartbeats 6400000 in
set_option maxRecDepth 100000 in
theorem pt_two (So Ro : Option Fm) (M : Nat) (hM : 1 ≤ M ∧ M ≤ 4000) (hS : So = none ∨ ∃ s, So = some s ∧ s.ok ∧ s.free >>> 1 = 0 ∧ s.txt.length ≤ M ∧ ∀ (Hs v : Nat) (w : World), v < 4 → Tree 49 w s Hs → Calls Try.prog 29 #[.agg #[.pointer none, .pointer none], .pointer (some ⟨Hs, 0, none⟩), .agg #[.int .u8 (97 + (v : Nat) : Int), .int .u8 98, .int .u8 99, .int .u8 100]] w (PutQ w (put0 s (map1 v)))) (hR : Ro = none ∨ ∃ s, Ro = some s ∧ s.ok ∧ s.free >>> 2 = 0 ∧ s.txt.length ≤ M ∧ ∀ (Hs v u : Nat) (w : World), v < 4 → u < 4 → Tree 49 w s Hs → Calls Try.prog 29 #[.agg #[.pointer none, .pointer none], .pointer (some ⟨Hs, 0, none⟩), .agg #[.int .u8 (97 + (v : Nat) : Int), .int .u8 (97 + (u : Nat) : Int), .int .u8 99, .int .u8 100]] w (PutQ w (put0 s (map2 v u)))) (sv rv : Value) (m : Nat → Nat) (H : Nat) (w : World) (hm : ∀ x, x < 4 → m x < 4) (vs : VT w sv So) (vr : VT w rv Ro) (op : UInt8) (a0 a1 : Fm) (hla : M * (Fm.two op a0 a1).txt.length ≤ 16000000) (hok : (Fm.two op a0 a1).ok) (iha0 : M * a0.txt.length ≤ 16000000 → a0.ok → ∀ (m : Nat → Nat) (H : Nat) (w : World), (∀ x, x < 4 → m x < 4) → VT w sv So → VT w rv Ro → Tree 49 w a0 H → Calls Try.prog 29 #[.agg #[sv, rv], .pointer (some ⟨H, 0, none⟩), .agg #[.int .u8 (97 + (m 0 : Nat) : Int), .int .u8 (97 + (m 1 : Nat) : Int), .int .u8 (97 + (m 2 : Nat) : Int), .int .u8 (97 + (m 3 : Nat) : Int)]] w (PutQ w (put So Ro a0 m))) (iha1 : M * a1.txt.length ≤ 16000000 → a1.ok → ∀ (m : Nat → Nat) (H : Nat) (w : World), (∀ x, x < 4 → m x < 4) → VT w sv So → VT w rv Ro → Tree 49 w a1 H → Calls Try.prog 29 #[.agg #[sv, rv], .pointer (some ⟨H, 0, none⟩), .agg #[.int .u8 (97 + (m 0 : Nat) : Int), .int .u8 (97 + (m 1 : Nat) : Int), .int .u8 (97 + (m 2 : Nat) : Int), .int .u8 (97 + (m 3 : Nat) : Int)]] w (PutQ w (put So Ro a1 m))) (ht : Tree 49 w (.two op a0 a1) H) :
    Calls Try.prog 29 #[.agg #[sv, rv], .pointer (some ⟨H, 0, none⟩), .agg #[.int .u8 (97 + (m 0 : Nat) : Int), .int .u8 (97 + (m 1 : Nat) : Int), .int .u8 (97 + (m 2 : Nat) : Int), .int .u8 (97 + (m 3 : Nat) : Int)]] w (PutQ w (put So Ro (.two op a0 a1) m)) := by
  obtain ⟨K0, K1, ht0, ht1, hnode⟩ := ht
  have hok : sort op = .two ∧ a0.ok ∧ a1.ok := hok
  have hla0 : M * a0.txt.length ≤ 16000000 := Nat.le_trans (Nat.mul_le_mul_left _ (by simp [Fm.txt]; omega)) hla
  have hla1 : M * a1.txt.length ≤ 16000000 := Nat.le_trans (Nat.mul_le_mul_left _ (by simp [Fm.txt]; omega)) hla
  have hnode : fmt.Node 49 w H op [] [K0, K1] (a0.free ||| a1.free) (Fm.all a0 ||| Fm.all a1) := hnode
  have HSORT := hok.1
  have IHa0 := Lib.hid (iha0 hla0 hok.2.1)
  have IHa1 := Lib.hid (iha1 hla1 hok.2.2)
  have HLa0 := Lib.hid hla0
  have HLa1 := Lib.hid hla1
  have HT0 := Lib.hid ht0
  have HT1 := Lib.hid ht1
  have HVS := Lib.hid vs
  have HVR := Lib.hid vr
  have HLM : Hid (1 ≤ M ∧ (∀ s, So = some s → s.txt.length ≤ M) ∧ ∀ s, Ro = some s → s.txt.length ≤ M) := by
    refine ⟨hM.1, fun s hs => ?_, fun s hs => ?_⟩
    · obtain ⟨s2, he, _, _, h3, _⟩ := hS.resolve_left (by rw [hs]; simp)
      rw [hs] at he; cases he; exact h3
    · obtain ⟨s2, he, _, _, h3, _⟩ := hR.resolve_left (by rw [hs]; simp)
      rw [hs] at he; cases he; exact h3
  obtain ⟨W2, hW2⟩ : ∃ QZ, QZ = ((w.alloc (.cells #[sv, rv] 60)).alloc (.cells #[.int .u8 (97 + (m 0 : Nat) : Int), .int .u8 (97 + (m 1 : Nat) : Int), .int .u8 (97 + (m 2 : Nat) : Int), .int .u8 (97 + (m 3 : Nat) : Int)] 62)).alloc (.cells #[] 5) := ⟨_, rfl⟩
  have HX0 : Hid (Bx w W2 sv rv m) := by rw [hW2]; exact (Bx.new w sv rv m).call ((Below.refl _ _).alloc (Nat.le_refl _) _)
  have HO0 : Hid (W2.ownsRow (w.heap.size + 2) 5 1 (.slice (some ⟨w.heap.size + 1 + 1, 0, none⟩) 0 0) 0 (nb [])) := by rw [hW2, Hid]; have h := own_new (w := ((w.alloc (.cells #[sv, rv] 60)).alloc (.cells #[.int .u8 (97 + (m 0 : Nat) : Int), .int .u8 (97 + (m 1 : Nat) : Int), .int .u8 (97 + (m 2 : Nat) : Int), .int .u8 (97 + (m 3 : Nat) : Int)] 62))) (C := w.heap.size + 2) (by simp); simpa using h
  have HN : Hid (fmt.Node 49 w H op [] [K0, K1] (a0.free ||| a1.free) (Fm.all a0 ||| Fm.all a1)) := hnode
  have HN2 : Hid (fmt.Node 49 W2 H op [] [K0, K1] (a0.free ||| a1.free) (Fm.all a0 ||| Fm.all a1)) := hnode.below HX0.out.b (Nat.le_refl _)
  obtain ⟨vv, pv, hvv, hpv, c0, c1, c2, c3, c4⟩ := HN2.out.cells
  obtain ⟨va, vc, rfl⟩ := rv_len hvv
  obtain ⟨pa, pc, rfl⟩ := rv_len hpv
  have hH := Lib.hid HN.out.lt
  simp only [List.map_nil, List.map_cons, List.length_nil, List.length_cons, Nat.zero_add, Nat.reduceAdd] at c1 c2 hvv hpv
  obtain ⟨pb, po, rfl, cp0⟩ := rv_cell hpv rfl (k := 0) (by simp)
  obtain ⟨pb2, po2, hp2, cp1⟩ := rv_cell hpv rfl (k := 1) (by simp)
  simp only [Option.some.injEq, Addr.mk.injEq] at hp2
  obtain ⟨rfl, rfl, -⟩ := hp2
  have HCN : Hid (∀ wr {m : Nat → Nat}, Bx w wr sv rv m → wr.cell? ⟨H, 0, none⟩ = some (.int .u8 (op.toNat : Int)) ∧ wr.cell? ⟨H, 1, none⟩ = some (.slice va 0 vc) ∧ wr.cell? ⟨H, 2, none⟩ = some (.slice (some ⟨pb, po, none⟩) 2 pc) ∧ True ∧ True) := fun wr _ hx => by
    have e : ∀ j, wr.cell? ⟨H, j, none⟩ = w.cell? ⟨H, j, none⟩ := fun j => hx.b.cell (p := ⟨H, j, none⟩) hH.out
    have e2 : ∀ j, W2.cell? ⟨H, j, none⟩ = w.cell? ⟨H, j, none⟩ := fun j => HX0.out.b.cell (p := ⟨H, j, none⟩) hH.out
    exact ⟨(e 0).trans ((e2 0).symm.trans c0), (e 1).trans ((e2 1).symm.trans c1), (e 2).trans ((e2 2).symm.trans c2), trivial, trivial⟩
  have HPE0 : Hid (∀ wr (mm : Nat → Nat), Bx w wr sv rv mm → wr.cell? ⟨pb, po, none⟩ = some (.pointer (some ⟨K0, 0, none⟩))) := fun wr mm hx => by
    have hpb0 : pb < w.heap.size := by
      obtain ⟨_, pv0, _, hv0, _, _, c20, _⟩ := HN.out.cells
      have e : W2.cell? ⟨H, 2, none⟩ = w.cell? ⟨H, 2, none⟩ := HX0.out.b.cell (p := ⟨H, 2, none⟩) hH.out
      rw [c2, c20] at e
      obtain ⟨b9, o9, he9, h9⟩ := rv_cell hv0 (Option.some.inj e).symm (k := 0) (by simp)
      simp only [Option.some.injEq, Addr.mk.injEq] at he9
      rw [he9.1]
      exact World.block_lt_of_cell? _ _ h9
    have e : wr.cell? ⟨pb, po, none⟩ = w.cell? ⟨pb, po, none⟩ := hx.b.cell (p := ⟨pb, po, none⟩) hpb0
    have e2 : W2.cell? ⟨pb, po, none⟩ = w.cell? ⟨pb, po, none⟩ := HX0.out.b.cell (p := ⟨pb, po, none⟩) hpb0
    rw [e, ← e2]
    exact cp0
  have HPE1 : Hid (∀ wr (mm : Nat → Nat), Bx w wr sv rv mm → wr.cell? ⟨pb, po + 1, none⟩ = some (.pointer (some ⟨K1, 0, none⟩))) := fun wr mm hx => by
    have hpb0 : pb < w.heap.size := by
      obtain ⟨_, pv0, _, hv0, _, _, c20, _⟩ := HN.out.cells
      have e : W2.cell? ⟨H, 2, none⟩ = w.cell? ⟨H, 2, none⟩ := HX0.out.b.cell (p := ⟨H, 2, none⟩) hH.out
      rw [c2, c20] at e
      obtain ⟨b9, o9, he9, h9⟩ := rv_cell hv0 (Option.some.inj e).symm (k := 0) (by simp)
      simp only [Option.some.injEq, Addr.mk.injEq] at he9
      rw [he9.1]
      exact World.block_lt_of_cell? _ _ h9
    have e : wr.cell? ⟨pb, po + 1, none⟩ = w.cell? ⟨pb, po + 1, none⟩ := hx.b.cell (p := ⟨pb, po + 1, none⟩) hpb0
    have e2 : W2.cell? ⟨pb, po + 1, none⟩ = w.cell? ⟨pb, po + 1, none⟩ := HX0.out.b.cell (p := ⟨pb, po + 1, none⟩) hpb0
    rw [e, ← e2]
    exact cp1
  have HM := Lib.hid hm
  have HMM := Lib.hid hm
  have HND := HN
  have e80 := not80 (c := op) (by rw [HSORT]; decide)
  have e69 := not69 (c := op) (by rw [HSORT]; decide)
  have HQ : Hid (isQ op.toNat = false) := by rw [isq_sort, HSORT]; rfl
  clear HSORT hnode hok hla hla0 hla1 hvv hpv hm hM hS hR vs vr iha0 iha1 ht0 ht1 cp0 cp1
  rw [hW2] at c0 c1 c2 c3 c4
  go_enter Try.func29, Try.ntmps29
  go_wp2_with fail
  rw [← hW2] at c0 c1 c2 c3 c4 ⊢
  clear hW2
  go_loopw [8, 27] (fun nv i wr => ∃ (k g cap : Nat), k ≤ 0 ∧ i = .int .i64 k ∧ nv = .slice (some ⟨g, 0, none⟩) k cap ∧ Hid (wr.ownsRow (w.heap.size + 2) 5 1 (.slice (some ⟨g, 0, none⟩) k cap) k (nb (([] : List Nat).take k))) ∧ Hid (Bx w wr sv rv m)) (fun _ i _ => 0 - (intOf i).toNat)
  case atStart => exact ⟨0, _, _, Nat.zero_le _, rfl, rfl, HO0.out, HX0.out⟩
  case round =>
    clear HO0 HX0 c0 c1 c2 c3 c4
    obtain ⟨k, g, cap, hk, rfl, rfl, HO, HX⟩ := hrel
    have hgl := HO.out.lt g rfl
    obtain rfl : k = 0 := by omega
    · have ca : ∀ W : World, W.cell? ⟨wr.heap.size, 0, none⟩ = some (.int .u8 (op.toNat : Int)) → (convert 46 9 (.slice (some ⟨wr.heap.size, 0, none⟩) 1 1)).run Try.prog W = .ok (.string ⟨#[op]⟩) W := fun W h => to_text1 _ _ op _ rfl W h
      have cb : ∀ W : World, (convert 46 9 (.slice (some ⟨g, 0, none⟩) 0 cap)).run Try.prog W = .ok (.string ⟨#[]⟩) W := fun W => to_text0 _ _ W
      have cad := add_ok (P := Try.prog) (x := ⟨#[op]⟩) (y := ⟨#[]⟩) (by show 1 ≤ 32000000; decide) (by show 0 ≤ 32000000; decide)
      have hlw : H < wr.heap.size := by have := hH.out; have := HX.out.size; have := HX.out.b.size; omega
      have hgw : g < wr.heap.size := hgl.2
      clear hgl
      obtain ⟨c0, c1, c2, c3, c4⟩ := HCN.out wr HX.out
      have HX9 : Hid (Bx w (wr.alloc (.cells #[.int .u8 (op.toNat : Int)] 5)).drew sv rv m) := HX.out.call ((Below.refl _ _).alloc (Nat.le_refl _) _).drew
      go_wp2_with fail
      refine Calls.mono (isQuantifier_any 49 H op [] [K0, K1] (a0.free ||| a1.free) (Fm.all a0 ||| Fm.all a1) wr (HND.out.below HX.out.b (Nat.le_refl _))) ?_
      rintro eo w1 ⟨rfl, rfl⟩
      rw [HQ.out]
      go_wp2_with fail
      go_region
      go_wp2_with fail
      obtain ⟨w9, hw9⟩ : ∃ QZ, QZ = (wr.alloc (.cells #[.int .u8 (op.toNat : Int)] 5)).drew := ⟨_, rfl⟩
      rw [← hw9] at HX9 ⊢
      clear hw9 c0 c1 c2 c3 c4 HX HO
      go_loopw [16, 154] (fun o i wr => ∃ (k : Nat) (q : List (List UInt8)) (s : ByteArray), k ≤ 2 ∧ q.length = k ∧ i = .int .i64 k ∧ o = .string s ∧ Hid (s = ⟨([op] ++ q.flatten).toArray⟩) ∧ Hid (Bx w wr sv rv m) ∧ Hid (q.map some = (([a0, a1] : List Fm).take k).map fun a => put So Ro a m)) (fun _ i _ => 2 - (intOf i).toNat)
      case atStart => exact ⟨0, [], _, Nat.zero_le _, rfl, rfl, rfl, by rw [cat_one (t := [])]; rfl, HX9.out, rfl⟩
      case round =>
        clear HX9
        obtain ⟨k, q, s, hk, hql, rfl, rfl, HSS, HX, HQQ⟩ := hrel
        have hlw : H < wr.heap.size := by have := hH.out; have := HX.out.b.size; omega
        obtain rfl | rfl | rfl : k = 0 ∨ k = 1 ∨ k = 2 := by omega
        · have cx := HPE0.out wr _ HX.out
          obtain ⟨q0, q1, r0, r1, r2, r3⟩ := HX.out.c
          have rp := HX.out.p
          have rv_ := HX.out.v
          have HC := Lib.hid (IHa0.out m K0 wr HMM.out (HVS.out.below' HX.out.b) (HVR.out.below' HX.out.b) (HT0.out.below HX.out.b (Nat.le_refl _)))
          cases hp : put So Ro a0 m with
          | none =>
            have HP := Lib.hid hp
            have HE : Hid (put So Ro (.two op a0 a1) m = none) := by unfold Hid put; rw [HP.out]
            clear hp
            go_wp2_with fail
            refine HC.out.mono ?_
            rintro eo w1 ⟨rfl, hb⟩
            rw [HP.out]
            have HB9 : Hid (Below w.heap.size w w1) := HX.out.b.trans (hb.mono HX.out.b.size)
            clear hb
            go_wp2
            go_ret2
            exact put_no HE.out rfl rfl HB9.out
          | some x =>
            have HP := Lib.hid hp
            have hxl : x.length ≤ 16000000 := Nat.le_trans (put_len HLM.out.1 HLM.out.2.1 HLM.out.2.2 hp) HLa0.out
            have hq0 : ([op] ++ q.flatten).length ≤ 16000010 := by rw [List.length_eq_zero_iff.1 hql]; simp
            have cad := add_ok (P := Try.prog) (x := s) (y := optS (some x)) (by rw [HSS.out]; show ([op] ++ q.flatten).toArray.size ≤ _; rw [List.size_toArray]; omega) (by show x.toArray.size ≤ _; rw [List.size_toArray]; omega)
            have HQ2 : Hid ((q ++ [x]).map some = (([a0, a1] : List Fm).take (0 + 1)).map fun a => put So Ro a m) := by
              rw [Hid, List.map_append, HQQ.out]
              simp [hp]
            have HT2 : Hid (s ++ optS (some x) = ⟨([op] ++ (q ++ [x]).flatten).toArray⟩) := by
              rw [optS_some, Hid, HSS.out, cat_two, List.flatten_append, ← List.append_assoc]
              simp
            clear hp hxl hq0
            go_wp2_with fail
            refine HC.out.mono ?_
            rintro eo w1 ⟨rfl, hb⟩
            rw [HP.out]
            have HX2 : Hid (Bx w w1 sv rv m) := HX.out.call hb
            clear hb cx q0 q1 r0 r1 r2 r3 rp rv_ HX HC
            obtain ⟨z, hz⟩ : ∃ z, z = optS (some x) := ⟨_, rfl⟩
            rw [← hz] at cad HT2 ⊢
            clear hz
            go_wp2
            go_roundw
            case rel => first | exact ⟨0 + 1, q ++ [x], s ++ z, by decide, by simp [hql], by first | rfl | go_num, rfl, HT2, HX2, HQ2⟩ | ((repeat apply Exists.intro); exact ⟨⟨0 + 1, q ++ [x], s ++ z, by decide, by simp [hql], by first | rfl | go_num, rfl, HT2, HX2, HQ2⟩, rfl⟩)
            case measure => simp [intOf]
        · have cx := HPE1.out wr _ HX.out
          obtain ⟨q0, q1, r0, r1, r2, r3⟩ := HX.out.c
          have rp := HX.out.p
          have rv_ := HX.out.v
          have HC := Lib.hid (IHa1.out m K1 wr HMM.out (HVS.out.below' HX.out.b) (HVR.out.below' HX.out.b) (HT1.out.below HX.out.b (Nat.le_refl _)))
          cases hp : put So Ro a1 m with
          | none =>
            have HP := Lib.hid hp
            have HE : Hid (put So Ro (.two op a0 a1) m = none) := by unfold Hid put; rw [HP.out]; cases put So Ro a0 m <;> rfl
            clear hp
            go_wp2_with fail
            refine HC.out.mono ?_
            rintro eo w1 ⟨rfl, hb⟩
            rw [HP.out]
            have HB9 : Hid (Below w.heap.size w w1) := HX.out.b.trans (hb.mono HX.out.b.size)
            clear hb
            go_wp2
            go_ret2
            exact put_no HE.out rfl rfl HB9.out
          | some x =>
            have HP := Lib.hid hp
            have hxl : x.length ≤ 16000000 := Nat.le_trans (put_len HLM.out.1 HLM.out.2.1 HLM.out.2.2 hp) HLa1.out
            have hq0 : ([op] ++ q.flatten).length ≤ 16000010 := by
              match q, hql, HQQ with
              | [y], _, HQQ =>
                have h := HQQ.out
                simp at h
                have := put_len HLM.out.1 HLM.out.2.1 HLM.out.2.2 h.symm
                have := HLa0.out
                simp; omega
            have cad := add_ok (P := Try.prog) (x := s) (y := optS (some x)) (by rw [HSS.out]; show ([op] ++ q.flatten).toArray.size ≤ _; rw [List.size_toArray]; omega) (by show x.toArray.size ≤ _; rw [List.size_toArray]; omega)
            have HQ2 : Hid ((q ++ [x]).map some = (([a0, a1] : List Fm).take (1 + 1)).map fun a => put So Ro a m) := by
              rw [Hid, List.map_append, HQQ.out]
              simp [hp]
            have HT2 : Hid (s ++ optS (some x) = ⟨([op] ++ (q ++ [x]).flatten).toArray⟩) := by
              rw [optS_some, Hid, HSS.out, cat_two, List.flatten_append, ← List.append_assoc]
              simp
            clear hp hxl hq0
            go_wp2_with fail
            refine HC.out.mono ?_
            rintro eo w1 ⟨rfl, hb⟩
            rw [HP.out]
            have HX2 : Hid (Bx w w1 sv rv m) := HX.out.call hb
            clear hb cx q0 q1 r0 r1 r2 r3 rp rv_ HX HC
            obtain ⟨z, hz⟩ : ∃ z, z = optS (some x) := ⟨_, rfl⟩
            rw [← hz] at cad HT2 ⊢
            clear hz
            go_wp2
            go_roundw
            case rel => first | exact ⟨1 + 1, q ++ [x], s ++ z, by decide, by simp [hql], by first | rfl | go_num, rfl, HT2, HX2, HQ2⟩ | ((repeat apply Exists.intro); exact ⟨⟨1 + 1, q ++ [x], s ++ z, by decide, by simp [hql], by first | rfl | go_num, rfl, HT2, HX2, HQ2⟩, rfl⟩)
            case measure => simp [intOf]
        · have HE : Hid (put So Ro (.two op a0 a1) m = some ([op] ++ q.flatten)) := by
            match q, hql, HQQ with
            | [x, y], _, HQQ =>
              have h := HQQ.out
              simp at h
              unfold Hid put
              rw [← h.1, ← h.2]; simp
          have HB9 := Lib.hid HX.out.b
          go_wp2
          go_ret2
          exact put_ok HE.out HSS.out rfl HB9.out
end Go.Proofs.Ytefneihlgclkbaa.fmpf
