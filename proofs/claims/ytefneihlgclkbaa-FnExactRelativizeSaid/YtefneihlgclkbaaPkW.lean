/- Several texts in one: FmPg, FmPh, FmPi, FmPj. -/
import Derived.Test.YtefneihlgclkbaaFmQu
/- Formulas in the program: put, some sorts. -/
namespace Go.Proofs.Ytefneihlgclkbaa.fmpg
set_option linter.unusedVariables false
set_option linter.unusedSimpArgs false
open Go.ChangeShapes Go.WideShapes Go.ChangeAt Go.RowKit
open Go.Proofs.Ytefneihlgclkbaa.lib Go.Proofs.Ytefneihlgclkbaa.fm Go.Proofs.Ytefneihlgclkbaa.fmt Go.Proofs.Ytefneihlgclkbaa.fmu Go.Proofs.Ytefneihlgclkbaa.fme Go.Proofs.Ytefneihlgclkbaa.fmx Go.Proofs.Ytefneihlgclkbaa.fmj Go.Proofs.Ytefneihlgclkbaa.fmv
open Go.Proofs.Ytefneihlgclkbaa.fmo

open Go.Proofs.Ytefneihlgclkbaa.fmqu
set_option maxHeartbeats 6400000 in
set_option maxRecDepth 100000 in
theorem pt_qu1 (So Ro : Option Fm) (M : Nat) (hM : 1 ≤ M ∧ M ≤ 4000) (hS : So = none ∨ ∃ s, So = some s ∧ s.ok ∧ s.free >>> 1 = 0 ∧ s.txt.length ≤ M ∧ ∀ (Hs v : Nat) (w : World), v < 4 → Tree 49 w s Hs → Calls Try.prog 29 #[.agg #[.pointer none, .pointer none], .pointer (some ⟨Hs, 0, none⟩), .agg #[.int .u8 (97 + (v : Nat) : Int), .int .u8 98, .int .u8 99, .int .u8 100]] w (PutQ w (put0 s (map1 v)))) (hR : Ro = none ∨ ∃ s, Ro = some s ∧ s.ok ∧ s.free >>> 2 = 0 ∧ s.txt.length ≤ M ∧ ∀ (Hs v u : Nat) (w : World), v < 4 → u < 4 → Tree 49 w s Hs → Calls Try.prog 29 #[.agg #[.pointer none, .pointer none], .pointer (some ⟨Hs, 0, none⟩), .agg #[.int .u8 (97 + (v : Nat) : Int), .int .u8 (97 + (u : Nat) : Int), .int .u8 99, .int .u8 100]] w (PutQ w (put0 s (map2 v u)))) (sv rv : Value) (m : Nat → Nat) (H : Nat) (w : World) (hm : ∀ x, x < 4 → m x < 4) (vs : VT w sv So) (vr : VT w rv Ro) (op : UInt8) (a0 : Fm) (hla : M * (Fm.qu op 1 a0).txt.length ≤ 16000000) (hok : (Fm.qu op 1 a0).ok) (iha0 : M * a0.txt.length ≤ 16000000 → a0.ok → ∀ (m : Nat → Nat) (H : Nat) (w : World), (∀ x, x < 4 → m x < 4) → VT w sv So → VT w rv Ro → Tree 49 w a0 H → Calls Try.prog 29 #[.agg #[sv, rv], .pointer (some ⟨H, 0, none⟩), .agg #[.int .u8 (97 + (m 0 : Nat) : Int), .int .u8 (97 + (m 1 : Nat) : Int), .int .u8 (97 + (m 2 : Nat) : Int), .int .u8 (97 + (m 3 : Nat) : Int)]] w (PutQ w (put So Ro a0 m))) (ht : Tree 49 w (.qu op 1 a0) H) :
    Calls Try.prog 29 #[.agg #[sv, rv], .pointer (some ⟨H, 0, none⟩), .agg #[.int .u8 (97 + (m 0 : Nat) : Int), .int .u8 (97 + (m 1 : Nat) : Int), .int .u8 (97 + (m 2 : Nat) : Int), .int .u8 (97 + (m 3 : Nat) : Int)]] w (PutQ w (put So Ro (.qu op 1 a0) m)) := by
  obtain ⟨K0, ht0, hnode⟩ := ht
  have hok : sort op = .qu ∧ 1 < 4 ∧ a0.ok := hok
  have hla0 : M * a0.txt.length ≤ 16000000 := Nat.le_trans (Nat.mul_le_mul_left _ (by simp [Fm.txt]; omega)) hla
  have hnode : fmt.Node 49 w H op [1] [K0] (a0.free &&& (15 ^^^ 1 <<< 1)) (1 <<< 1 ||| Fm.all a0) := hnode
  have HSORT := hok.1
  have h1 : 1 < 4 := by decide
  have IHa0 := Lib.hid (iha0 hla0 hok.2.2)
  have HLa0 := Lib.hid hla0
  have HT0 := Lib.hid ht0
  have HS16 := Lib.hid (Fm.free_lt hok.2.2)
  obtain ⟨S, hS0⟩ : ∃ S, S = a0.free := ⟨_, rfl⟩
  have HSS0 := Lib.hid hS0
  rw [← hS0] at HS16
  clear hS0
  have HVS := Lib.hid vs
  have HVR := Lib.hid vr
  have HLM : Hid (1 ≤ M ∧ (∀ s, So = some s → s.txt.length ≤ M) ∧ ∀ s, Ro = some s → s.txt.length ≤ M) := by
    refine ⟨hM.1, fun s hs => ?_, fun s hs => ?_⟩
    · obtain ⟨s2, he, _, _, h3, _⟩ := hS.resolve_left (by rw [hs]; simp)
      rw [hs] at he; cases he; exact h3
    · obtain ⟨s2, he, _, _, h3, _⟩ := hR.resolve_left (by rw [hs]; simp)
      rw [hs] at he; cases he; exact h3
  obtain ⟨W2, hW2⟩ : ∃ QZ, QZ = ((w.alloc (.cells #[sv, rv] 60)).alloc (.cells #[.int .u8 (97 + (m 0 : Nat) : Int), .int .u8 (97 + (m 1 : Nat) : Int), .int .u8 (97 + (m 2 : Nat) : Int), .int .u8 (97 + (m 3 : Nat) : Int)] 62)).alloc (.cells #[] 5) := ⟨_, rfl⟩
  have HX0 : Hid (Bx w W2 sv rv m) := by rw [hW2]; exact (Bx.new w sv rv m).call ((Below.refl _ _).alloc (Nat.le_refl _) _)
  have HO0 : Hid (W2.ownsRow (w.heap.size + 2) 5 1 (.slice (some ⟨w.heap.size + 1 + 1, 0, none⟩) 0 0) 0 (nb [])) := by rw [hW2, Hid]; have h := own_new (w := ((w.alloc (.cells #[sv, rv] 60)).alloc (.cells #[.int .u8 (97 + (m 0 : Nat) : Int), .int .u8 (97 + (m 1 : Nat) : Int), .int .u8 (97 + (m 2 : Nat) : Int), .int .u8 (97 + (m 3 : Nat) : Int)] 62))) (C := w.heap.size + 2) (by simp); simpa using h
  have HN : Hid (fmt.Node 49 w H op [1] [K0] (a0.free &&& (15 ^^^ 1 <<< 1)) (1 <<< 1 ||| Fm.all a0)) := hnode
  have HN2 : Hid (fmt.Node 49 W2 H op [1] [K0] (a0.free &&& (15 ^^^ 1 <<< 1)) (1 <<< 1 ||| Fm.all a0)) := hnode.below HX0.out.b (Nat.le_refl _)
  obtain ⟨vv, pv, hvv, hpv, c0, c1, c2, c3, c4⟩ := HN2.out.cells
  obtain ⟨va, vc, rfl⟩ := rv_len hvv
  obtain ⟨pa, pc, rfl⟩ := rv_len hpv
  have hH := Lib.hid HN.out.lt
  simp only [List.map_nil, List.map_cons, List.length_nil, List.length_cons, Nat.zero_add, Nat.reduceAdd] at c1 c2 hvv hpv
  obtain ⟨vb_, vo, rfl, ce0⟩ := rv_cell hvv rfl (k := 0) (by simp)
  have hvb := World.block_lt_of_cell? _ _ ce0
  obtain ⟨pb, po, rfl, cp0⟩ := rv_cell hpv rfl (k := 0) (by simp)
  have HCN : Hid (∀ wr {m : Nat → Nat}, Bx w wr sv rv m → wr.cell? ⟨H, 0, none⟩ = some (.int .u8 (op.toNat : Int)) ∧ wr.cell? ⟨H, 1, none⟩ = some (.slice (some ⟨vb_, vo, none⟩) 1 vc) ∧ wr.cell? ⟨H, 2, none⟩ = some (.slice (some ⟨pb, po, none⟩) 1 pc) ∧ True ∧ True) := fun wr _ hx => by
    have e : ∀ j, wr.cell? ⟨H, j, none⟩ = w.cell? ⟨H, j, none⟩ := fun j => hx.b.cell (p := ⟨H, j, none⟩) hH.out
    have e2 : ∀ j, W2.cell? ⟨H, j, none⟩ = w.cell? ⟨H, j, none⟩ := fun j => HX0.out.b.cell (p := ⟨H, j, none⟩) hH.out
    exact ⟨(e 0).trans ((e2 0).symm.trans c0), (e 1).trans ((e2 1).symm.trans c1), (e 2).trans ((e2 2).symm.trans c2), trivial, trivial⟩
  have HCE0 : Hid (∀ wr, Bx w wr sv rv m → wr.cell? ⟨vb_, vo, none⟩ = some (.int .u8 98)) := fun wr hx => by
    have hvb0 : vb_ < w.heap.size := by
      obtain ⟨vv0, _, hv0, _, _, c10, _⟩ := HN.out.cells
      have e : W2.cell? ⟨H, 1, none⟩ = w.cell? ⟨H, 1, none⟩ := HX0.out.b.cell (p := ⟨H, 1, none⟩) hH.out
      rw [c1, c10] at e
      obtain ⟨b9, o9, he9, h9⟩ := rv_cell hv0 (Option.some.inj e).symm (k := 0) (by simp)
      simp only [Option.some.injEq, Addr.mk.injEq] at he9
      rw [he9.1]
      exact World.block_lt_of_cell? _ _ h9
    have e : wr.cell? ⟨vb_, vo, none⟩ = w.cell? ⟨vb_, vo, none⟩ := hx.b.cell (p := ⟨vb_, vo, none⟩) hvb0
    have e2 : W2.cell? ⟨vb_, vo, none⟩ = w.cell? ⟨vb_, vo, none⟩ := HX0.out.b.cell (p := ⟨vb_, vo, none⟩) hvb0
    rw [e, ← e2]
    exact ce0
  have HPE0 : Hid (∀ wr (mm : Nat → Nat), Bx w wr sv rv mm → wr.cell? ⟨pb, po, none⟩ = some (.pointer (some ⟨K0, 0, none⟩))) := fun wr mm hx => by
    have hpb0 : pb < w.heap.size := by
      obtain ⟨_, pv0, _, hv0, _, _, c20, _⟩ := HN.out.cells
      have e : W2.cell? ⟨H, 2, none⟩ = w.cell? ⟨H, 2, none⟩ := HX0.out.b.cell (p := ⟨H, 2, none⟩) hH.out
      rw [c2, c20] at e
      obtain ⟨b9, o9, he9, h9⟩ := rv_cell hv0 (Option.some.inj e).symm (k := 0) (by simp)
      simp only [Option.some.injEq, Addr.mk.injEq] at he9
      rw [he9.1]
      exact World.block_lt_of_cell? _ _ h9
    have e : wr.cell? ⟨pb, po, none⟩ = w.cell? ⟨pb, po, none⟩ := hx.b.cell (p := ⟨pb, po, none⟩) hpb0
    have e2 : W2.cell? ⟨pb, po, none⟩ = w.cell? ⟨pb, po, none⟩ := HX0.out.b.cell (p := ⟨pb, po, none⟩) hpb0
    rw [e, ← e2]
    exact cp0
  have HM := Lib.hid hm
  have HND := HN
  have e80 := not80 (c := op) (by rw [HSORT]; decide)
  have e69 := not69 (c := op) (by rw [HSORT]; decide)
  have HQ : Hid (isQ op.toNat = true) := by rw [isq_sort, HSORT]; rfl
  clear HSORT hnode hok hla hla0 hvv hpv hm hM hS hR vs vr iha0 ht0 cp0 ce0 hvb
  rw [hW2] at c0 c1 c2 c3 c4
  go_enter Try.func29, Try.ntmps29
  go_wp2_with fail
  rw [← hW2] at c0 c1 c2 c3 c4 ⊢
  clear hW2
  go_loopw [8, 27] (fun nv i wr => ∃ (k g cap : Nat), k ≤ 1 ∧ i = .int .i64 k ∧ nv = .slice (some ⟨g, 0, none⟩) k cap ∧ Hid (wr.ownsRow (w.heap.size + 2) 5 1 (.slice (some ⟨g, 0, none⟩) k cap) k (nb (([m 1] : List Nat).take k))) ∧ Hid (Bx w wr sv rv m)) (fun _ i _ => 1 - (intOf i).toNat)
  case atStart => exact ⟨0, _, _, Nat.zero_le _, rfl, rfl, HO0.out, HX0.out⟩
  case round =>
    clear HO0 HX0 c0 c1 c2 c3 c4
    obtain ⟨k, g, cap, hk, rfl, rfl, HO, HX⟩ := hrel
    have hgl := HO.out.lt g rfl
    obtain rfl | rfl : k = 0 ∨ k = 1 := by omega
    · have cx := HCE0.out wr HX.out
      have cy := HX.out.at h1
      have s1 := u8_sub h1
      have s2 := u8_wrap h1
      have l1 : (1 : Int) < 4 := by omega
      have HZ : Hid (0 + 1 ≤ 4398046511104 ∧ w.heap.size + 2 ≤ wr.heap.size) := ⟨by decide, HX.out.size⟩
      clear hgl
      go_wp2_with (at_builtin; refine wpList_app1 wr rfl (.tmp 31) (.tmp 36) 46 rfl (w.heap.size + 2) 5 (.int .u8 0) 1 Try.underlying46 infoB rfl (by decide) _ _ _ (.int .u8 (97 + (m 1 : Nat) : Int)) rfl HO.out wr.heap.size rfl rfl rfl HZ.out.1 HZ.out.2 ?_)
      intro g2 cap2 w1 hown hgr
      have HX2 : Hid (Bx w w1 sv rv m) := HX.out.on (hgr.below HO.out HZ.out.2)
      have HO2 := Lib.hid hown
      clear hown hgr cx cy
      go_wp2
      go_roundw
      case rel => exact ⟨1, g2, cap2, by decide, by first | rfl | go_num, rfl, HO2.out, HX2.out⟩
      case measure => simp [intOf]
    · have hlw : H < wr.heap.size := by have := hH.out; have := HX.out.b.size; omega
      clear hgl
      obtain ⟨c0, c1, c2, c3, c4⟩ := HCN.out wr HX.out
      have cx := HCE0.out wr HX.out
      obtain ⟨W7, hW7⟩ : ∃ QZ, QZ = wr.alloc (.cells #[.bool false, .bool false, .bool false, .bool false] 67) := ⟨_, rfl⟩
      have HTK0 : Hid (Tk W7 wr.heap.size S 1 m 0 ∧ Bx w W7 sv rv m) := by
        rw [hW7]
        exact ⟨heap_alloc_new wr _, HX.out.call ((Below.refl _ _).alloc (Nat.le_refl _) _)⟩
      go_wp2_with fail
      refine Calls.mono (isQuantifier_any 49 H op [1] [K0] (a0.free &&& (15 ^^^ 1 <<< 1)) (1 <<< 1 ||| Fm.all a0) wr (HND.out.below HX.out.b (Nat.le_refl _))) ?_
      rintro eo w1 ⟨rfl, rfl⟩
      rw [HQ.out]
      go_wp2_with fail
      rw [← hW7]
      obtain ⟨B, hB⟩ : ∃ B, B = wr.heap.size := ⟨_, rfl⟩
      have HBB : Hid (w.heap.size + 2 ≤ B) := by rw [hB]; exact HX.out.size
      rw [← hB] at HTK0 ⊢
      clear hB hW7 HX c0 c1 c2 c3 c4 cx hlw HO
      go_loopw [93] (fun i wx => ∃ k : Nat, k ≤ 4 ∧ i = .int .i64 k ∧ Hid (Tk wx B S 1 m k ∧ Bx w wx sv rv m)) (fun i _ => 4 - (intOf i).toNat)
      case atStart => exact ⟨0, Nat.zero_le _, rfl, HTK0.out⟩
      case round =>
        clear HTK0
        obtain ⟨k, hk, rfl, HTX⟩ := hrel
        have hlw : H < wr.heap.size := by have := hH.out; have := HTX.out.2.b.size; omega
        obtain ⟨c0, c1, c2, c3, c4⟩ := HCN.out wr HTX.out.2
        have cx := HPE0.out wr _ HTX.out.2
        have cf := (part_free (HT0.out.below HTX.out.2.b (Nat.le_refl _))).1
        rw [← HSS0.out] at cf
        obtain rfl | rfl | rfl | rfl | rfl : k = 0 ∨ k = 1 ∨ k = 2 ∨ k = 3 ∨ k = 4 := by omega
        · have hbi := fmi.b_in_0 HS16.out
          cases hin : inS S 0 with
          | false =>
            rw [hin] at hbi
            have HT2 : Hid (Tk wr B S 1 m 1 ∧ Bx w wr sv rv m) := ⟨HTX.out.1.same (by rw [hin]; rfl), HTX.out.2⟩
            clear hin

            go_wp2
            go_roundw
            case rel => exact ⟨1, by omega, rfl, HT2⟩
            case measure => simp [intOf]
          | true =>
            rw [hin] at hbi
            have hmk := HM.out 0 (by decide)
            have l1 : (m 0 : Int) < 4 := by omega
            have s1 := u8_sub hmk
            have s2 := u8_wrap hmk
            have cy := HTX.out.2.at (v := 0) (by decide)
            have cz := HTX.out.1.c (m 0) hmk
            have fz := HTX.out.1.free (m 0)
            have HT2 : Hid (Tk (wr.setCell ⟨B, m 0, none⟩ (.bool true)) B S 1 m 1 ∧ Bx w (wr.setCell ⟨B, m 0, none⟩ (.bool true)) sv rv m) := ⟨HTX.out.1.set (by rw [hin]; rfl) hmk, HTX.out.2.on ((Below.refl _ _).setCell (p := ⟨B, m 0, none⟩) (by have := HBB.out; exact this) _)⟩
            clear hin

            go_wp2
            go_roundw
            case rel => exact ⟨1, by omega, rfl, HT2⟩
            case measure => simp [intOf]
        · have hbi := fmi.b_in_1 HS16.out
          cases hin : inS S 1 with
          | false =>
            rw [hin] at hbi
            have HT2 : Hid (Tk wr B S 1 m 2 ∧ Bx w wr sv rv m) := ⟨HTX.out.1.same (by rw [hin]; rfl), HTX.out.2⟩
            clear hin

            go_wp2
            go_roundw
            case rel => exact ⟨2, by omega, rfl, HT2⟩
            case measure => simp [intOf]
          | true =>
            rw [hin] at hbi
            have HT2 : Hid (Tk wr B S 1 m 2 ∧ Bx w wr sv rv m) := ⟨HTX.out.1.same (by rw [hin]; rfl), HTX.out.2⟩
            clear hin

            go_wp2
            go_roundw
            case rel => exact ⟨2, by omega, rfl, HT2⟩
            case measure => simp [intOf]
        · have hbi := fmi.b_in_2 HS16.out
          cases hin : inS S 2 with
          | false =>
            rw [hin] at hbi
            have HT2 : Hid (Tk wr B S 1 m 3 ∧ Bx w wr sv rv m) := ⟨HTX.out.1.same (by rw [hin]; rfl), HTX.out.2⟩
            clear hin

            go_wp2
            go_roundw
            case rel => exact ⟨3, by omega, rfl, HT2⟩
            case measure => simp [intOf]
          | true =>
            rw [hin] at hbi
            have hmk := HM.out 2 (by decide)
            have l1 : (m 2 : Int) < 4 := by omega
            have s1 := u8_sub hmk
            have s2 := u8_wrap hmk
            have cy := HTX.out.2.at (v := 2) (by decide)
            have cz := HTX.out.1.c (m 2) hmk
            have fz := HTX.out.1.free (m 2)
            have HT2 : Hid (Tk (wr.setCell ⟨B, m 2, none⟩ (.bool true)) B S 1 m 3 ∧ Bx w (wr.setCell ⟨B, m 2, none⟩ (.bool true)) sv rv m) := ⟨HTX.out.1.set (by rw [hin]; rfl) hmk, HTX.out.2.on ((Below.refl _ _).setCell (p := ⟨B, m 2, none⟩) (by have := HBB.out; exact this) _)⟩
            clear hin

            go_wp2
            go_roundw
            case rel => exact ⟨3, by omega, rfl, HT2⟩
            case measure => simp [intOf]
        · have hbi := fmi.b_in_3 HS16.out
          cases hin : inS S 3 with
          | false =>
            rw [hin] at hbi
            have HT2 : Hid (Tk wr B S 1 m 4 ∧ Bx w wr sv rv m) := ⟨HTX.out.1.same (by rw [hin]; rfl), HTX.out.2⟩
            clear hin

            go_wp2
            go_roundw
            case rel => exact ⟨4, by omega, rfl, HT2⟩
            case measure => simp [intOf]
          | true =>
            rw [hin] at hbi
            have hmk := HM.out 3 (by decide)
            have l1 : (m 3 : Int) < 4 := by omega
            have s1 := u8_sub hmk
            have s2 := u8_wrap hmk
            have cy := HTX.out.2.at (v := 3) (by decide)
            have cz := HTX.out.1.c (m 3) hmk
            have fz := HTX.out.1.free (m 3)
            have HT2 : Hid (Tk (wr.setCell ⟨B, m 3, none⟩ (.bool true)) B S 1 m 4 ∧ Bx w (wr.setCell ⟨B, m 3, none⟩ (.bool true)) sv rv m) := ⟨HTX.out.1.set (by rw [hin]; rfl) hmk, HTX.out.2.on ((Below.refl _ _).setCell (p := ⟨B, m 3, none⟩) (by have := HBB.out; exact this) _)⟩
            clear hin

            go_wp2
            go_roundw
            case rel => exact ⟨4, by omega, rfl, HT2⟩
            case measure => simp [intOf]
        · have cz := HTX.out.1.c 1 (by decide)
          have HCI := Lib.hid (HTX.out.1.c)
          have HXX := Lib.hid HTX.out.2
          have HFR := Lib.hid (fun h => fresh_idx (v := 1) HS16.out (by decide) HM.out h)
          have HFS := Lib.hid (fun h => fresh_same (v := 1) HS16.out (by decide) HM.out h)
          clear cx cf
          go_upto_if 126 with (fail)
          go_cut [6, 7, 14, 15] from 122 to 133 (fun _ _ c _ wx => ∃ u : Nat, u < 4 ∧ c = .int .u8 (97 + (u : Nat) : Int) ∧ Hid (fresh 1 S m = some u) ∧ wx = wr)
          case first =>
            cases ht : tk S 1 m 4 1 with
            | false =>
              have HF := Lib.hid (HFS.out ht)
              clear ht cz
              go_wp2
              go_meet
              exact ⟨1, by decide, rfl, HF, rfl⟩
            | true =>
              have HF := Lib.hid (HFR.out ht)
              clear ht cz
              go_wp2_with fail
              refine (fmv.index_any B 4 (tk S 1 m 4) _ HCI.out).mono ?_
              rintro eo w1 ⟨rfl, rfl⟩
              cases hi : idx (tk S 1 m 4) with
              | none =>
                have HE : Hid (put So Ro (.qu op 1 a0) m = none) := by
                  unfold Hid put
                  rw [← HSS0.out, HF.out, hi]
                clear hi
                have HB9 := Lib.hid HXX.out.b
                go_wp2
                go_ret2
                exact put_no HE.out rfl rfl HB9.out
              | some u =>
                have hu := idx_lt hi
                have HI := Lib.hid hi
                clear hi
                rw [show frI (some u) = (u : Int) from rfl]
                obtain rfl | rfl | rfl | rfl : u = 0 ∨ u = 1 ∨ u = 2 ∨ u = 3 := by omega
                all_goals
                  go_wp2
                  go_meet
                  exact ⟨_, hu, rfl, by have h := HF.out; rw [HI.out] at h; exact h, rfl⟩
          case rest =>
            obtain ⟨u, hu, rfl, HF, hwc⟩ := hcut
            rw [hwc]
            clear hwc
            clear HFR HFS HCI cz c0 c1 c2 c3 c4 hlw
            have l1 : (u : Int) < 4 := by omega
            have cw := HXX.out.at (v := 1) (by decide)
            have fw := HXX.out.free 1
            obtain ⟨W8, hW8⟩ : ∃ QZ, QZ = wr.setCell ⟨w.heap.size + 1, 1, none⟩ (.int .u8 (97 + (u : Nat) : Int)) := ⟨_, rfl⟩
            have HX8 : Hid (Bx w W8 sv rv (upd m 1 u)) := by rw [hW8]; exact HXX.out.set (v := 1) (by decide)
            go_upto_region 27 with (fail)
            rw [← hW8]
            clear hW8 HXX cw fw HTX
            obtain ⟨W9, hW9⟩ : ∃ QZ, QZ = W8.alloc (.cells #[.int .u8 (97 + (u : Nat) : Int)] 5) := ⟨_, rfl⟩
            have HX9' : Hid (Bx w W9 sv rv (upd m 1 u) ∧ W9.cell? ⟨W8.heap.size, 0, none⟩ = some (.int .u8 (97 + (u : Nat) : Int)) ∧ W8.heap.size < W9.heap.size) := by
              rw [hW9]
              exact ⟨HX8.out.call ((Below.refl _ _).alloc (Nat.le_refl _) _), World.cell?_alloc_mark _ _ _ _ _, by simp⟩
            go_upto_region 28 with (fail)
            rw [← hW9]
            clear hW9 HX8
            obtain ⟨g9, hg9⟩ : ∃ g9, g9 = W8.heap.size := ⟨_, rfl⟩
            rw [← hg9] at HX9' ⊢
            clear hg9
            obtain ⟨cn0, hgw⟩ := HX9'.out.2
            have ca : ∀ W : World, W.cell? ⟨W9.heap.size, 0, none⟩ = some (.int .u8 (op.toNat : Int)) → (convert 46 9 (.slice (some ⟨W9.heap.size, 0, none⟩) 1 1)).run Try.prog W = .ok (.string ⟨#[op]⟩) W := fun W h => to_text1 _ _ op _ rfl W h
            have cb : ∀ W : World, W.cell? ⟨g9, 0, none⟩ = some (.int .u8 (97 + (u : Nat) : Int)) → (convert 46 9 (.slice (some ⟨g9, 0, none⟩) 1 1)).run Try.prog W = .ok (.string ⟨#[vb u]⟩) W := fun W h => to_text1 _ _ _ _ (vb_int hu) W h
            have cad := add_ok (P := Try.prog) (x := ⟨#[op]⟩) (y := ⟨#[vb u]⟩) (by show 1 ≤ 32000000; decide) (by show 1 ≤ 32000000; decide)
            have hlw : H < W9.heap.size := by have := hH.out; have := HX9'.out.1.b.size; omega
            obtain ⟨c0, c1, c2, c3, c4⟩ := HCN.out W9 HX9'.out.1
            have HMM : Hid (∀ x, x < 4 → upd m 1 u x < 4) := fun x hx => by
              unfold upd
              split
              · exact hu
              · exact HM.out x hx
            have HX9 : Hid (Bx w (W9.alloc (.cells #[.int .u8 (op.toNat : Int)] 5)).drew sv rv (upd m 1 u)) := HX9'.out.1.call ((Below.refl _ _).alloc (Nat.le_refl _) _).drew
            go_region
            go_wp2_with fail
            obtain ⟨w9, hw9⟩ : ∃ QZ, QZ = (W9.alloc (.cells #[.int .u8 (op.toNat : Int)] 5)).drew := ⟨_, rfl⟩
            rw [← hw9] at HX9 ⊢
            clear hw9 c0 c1 c2 c3 c4 HX9' cn0
            go_loopw [16, 154] (fun o i wr => ∃ (k : Nat) (q : List (List UInt8)) (s : ByteArray), k ≤ 1 ∧ q.length = k ∧ i = .int .i64 k ∧ o = .string s ∧ Hid (s = ⟨([op, vb u] ++ q.flatten).toArray⟩) ∧ Hid (Bx w wr sv rv (upd m 1 u)) ∧ Hid (q.map some = (([a0] : List Fm).take k).map fun a => put So Ro a (upd m 1 u))) (fun _ i _ => 1 - (intOf i).toNat)
            case atStart => exact ⟨0, [], _, Nat.zero_le _, rfl, rfl, rfl, (cat_one (c := op) (t := [vb u])).trans (by simp), HX9.out, rfl⟩
            case round =>
              clear HX9
              obtain ⟨k, q, s, hk, hql, rfl, rfl, HSS, HX, HQQ⟩ := hrel
              have hlw : H < wr.heap.size := by have := hH.out; have := HX.out.b.size; omega
              obtain rfl | rfl : k = 0 ∨ k = 1 := by omega
              · have cx := HPE0.out wr _ HX.out
                obtain ⟨q0, q1, r0, r1, r2, r3⟩ := HX.out.c
                have rp := HX.out.p
                have rv_ := HX.out.v
                have HC := Lib.hid (IHa0.out (upd m 1 u) K0 wr HMM.out (HVS.out.below' HX.out.b) (HVR.out.below' HX.out.b) (HT0.out.below HX.out.b (Nat.le_refl _)))
                cases hp : put So Ro a0 (upd m 1 u) with
                | none =>
                  have HP := Lib.hid hp
                  have HE : Hid (put So Ro (.qu op 1 a0) m = none) := by unfold Hid put; rw [← HSS0.out, HF.out]; simp only; rw [HP.out]
                  clear hp
                  go_wp2_with fail
                  refine HC.out.mono ?_
                  rintro eo w1 ⟨rfl, hb⟩
                  rw [HP.out]
                  have HB9 : Hid (Below w.heap.size w w1) := HX.out.b.trans (hb.mono HX.out.b.size)
                  clear hb
                  go_wp2
                  go_ret2
                  exact put_no HE.out rfl rfl HB9.out
                | some x =>
                  have HP := Lib.hid hp
                  have hxl : x.length ≤ 16000000 := Nat.le_trans (put_len HLM.out.1 HLM.out.2.1 HLM.out.2.2 hp) HLa0.out
                  have hq0 : ([op, vb u] ++ q.flatten).length ≤ 16000010 := by rw [List.length_eq_zero_iff.1 hql]; simp
                  have cad := add_ok (P := Try.prog) (x := s) (y := optS (some x)) (by rw [HSS.out]; show ([op, vb u] ++ q.flatten).toArray.size ≤ _; rw [List.size_toArray]; omega) (by show x.toArray.size ≤ _; rw [List.size_toArray]; omega)
                  have HQ2 : Hid ((q ++ [x]).map some = (([a0] : List Fm).take (0 + 1)).map fun a => put So Ro a (upd m 1 u)) := by
                    rw [Hid, List.map_append, HQQ.out]
                    simp [hp]
                  have HT2 : Hid (s ++ optS (some x) = ⟨([op, vb u] ++ (q ++ [x]).flatten).toArray⟩) := by
                    rw [optS_some, Hid, HSS.out, cat_two, List.flatten_append, ← List.append_assoc]
                    simp
                  clear hp hxl hq0
                  go_wp2_with fail
                  refine HC.out.mono ?_
                  rintro eo w1 ⟨rfl, hb⟩
                  rw [HP.out]
                  have HX2 : Hid (Bx w w1 sv rv (upd m 1 u)) := HX.out.call hb
                  clear hb cx q0 q1 r0 r1 r2 r3 rp rv_ HX HC
                  obtain ⟨z, hz⟩ : ∃ z, z = optS (some x) := ⟨_, rfl⟩
                  rw [← hz] at cad HT2 ⊢
                  clear hz
                  go_wp2
                  go_roundw
                  case rel => first | exact ⟨0 + 1, q ++ [x], s ++ z, by decide, by simp [hql], by first | rfl | go_num, rfl, HT2, HX2, HQ2⟩ | ((repeat apply Exists.intro); exact ⟨⟨0 + 1, q ++ [x], s ++ z, by decide, by simp [hql], by first | rfl | go_num, rfl, HT2, HX2, HQ2⟩, rfl⟩)
                  case measure => simp [intOf]
              · have HE : Hid (put So Ro (.qu op 1 a0) m = some ([op, vb u] ++ q.flatten)) := by
                      match q, hql, HQQ with
                      | [x], _, HQQ =>
                        have h := HQQ.out
                        simp at h
                        unfold Hid put
                        rw [← HSS0.out, HF.out]
                        simp only
                        rw [← h]; simp
                have HB9 := Lib.hid HX.out.b
                go_wp2
                go_ret2
                exact put_ok HE.out HSS.out rfl HB9.out
end Go.Proofs.Ytefneihlgclkbaa.fmpg

/- Formulas in the program: put, some sorts. -/
namespace Go.Proofs.Ytefneihlgclkbaa.fmph
set_option linter.unusedVariables false
set_option linter.unusedSimpArgs false
open Go.ChangeShapes Go.WideShapes Go.ChangeAt Go.RowKit
open Go.Proofs.Ytefneihlgclkbaa.lib Go.Proofs.Ytefneihlgclkbaa.fm Go.Proofs.Ytefneihlgclkbaa.fmt Go.Proofs.Ytefneihlgclkbaa.fmu Go.Proofs.Ytefneihlgclkbaa.fme Go.Proofs.Ytefneihlgclkbaa.fmx Go.Proofs.Ytefneihlgclkbaa.fmj Go.Proofs.Ytefneihlgclkbaa.fmv
open Go.Proofs.Ytefneihlgclkbaa.fmo

open Go.Proofs.Ytefneihlgclkbaa.fmqu
set_option maxHeartbeats 6400000 in
set_option maxRecDepth 100000 in
theorem pt_qu0 (So Ro : Option Fm) (M : Nat) (hM : 1 ≤ M ∧ M ≤ 4000) (hS : So = none ∨ ∃ s, So = some s ∧ s.ok ∧ s.free >>> 1 = 0 ∧ s.txt.length ≤ M ∧ ∀ (Hs v : Nat) (w : World), v < 4 → Tree 49 w s Hs → Calls Try.prog 29 #[.agg #[.pointer none, .pointer none], .pointer (some ⟨Hs, 0, none⟩), .agg #[.int .u8 (97 + (v : Nat) : Int), .int .u8 98, .int .u8 99, .int .u8 100]] w (PutQ w (put0 s (map1 v)))) (hR : Ro = none ∨ ∃ s, Ro = some s ∧ s.ok ∧ s.free >>> 2 = 0 ∧ s.txt.length ≤ M ∧ ∀ (Hs v u : Nat) (w : World), v < 4 → u < 4 → Tree 49 w s Hs → Calls Try.prog 29 #[.agg #[.pointer none, .pointer none], .pointer (some ⟨Hs, 0, none⟩), .agg #[.int .u8 (97 + (v : Nat) : Int), .int .u8 (97 + (u : Nat) : Int), .int .u8 99, .int .u8 100]] w (PutQ w (put0 s (map2 v u)))) (sv rv : Value) (m : Nat → Nat) (H : Nat) (w : World) (hm : ∀ x, x < 4 → m x < 4) (vs : VT w sv So) (vr : VT w rv Ro) (op : UInt8) (a0 : Fm) (hla : M * (Fm.qu op 0 a0).txt.length ≤ 16000000) (hok : (Fm.qu op 0 a0).ok) (iha0 : M * a0.txt.length ≤ 16000000 → a0.ok → ∀ (m : Nat → Nat) (H : Nat) (w : World), (∀ x, x < 4 → m x < 4) → VT w sv So → VT w rv Ro → Tree 49 w a0 H → Calls Try.prog 29 #[.agg #[sv, rv], .pointer (some ⟨H, 0, none⟩), .agg #[.int .u8 (97 + (m 0 : Nat) : Int), .int .u8 (97 + (m 1 : Nat) : Int), .int .u8 (97 + (m 2 : Nat) : Int), .int .u8 (97 + (m 3 : Nat) : Int)]] w (PutQ w (put So Ro a0 m))) (ht : Tree 49 w (.qu op 0 a0) H) :
    Calls Try.prog 29 #[.agg #[sv, rv], .pointer (some ⟨H, 0, none⟩), .agg #[.int .u8 (97 + (m 0 : Nat) : Int), .int .u8 (97 + (m 1 : Nat) : Int), .int .u8 (97 + (m 2 : Nat) : Int), .int .u8 (97 + (m 3 : Nat) : Int)]] w (PutQ w (put So Ro (.qu op 0 a0) m)) := by
  obtain ⟨K0, ht0, hnode⟩ := ht
  have hok : sort op = .qu ∧ 0 < 4 ∧ a0.ok := hok
  have hla0 : M * a0.txt.length ≤ 16000000 := Nat.le_trans (Nat.mul_le_mul_left _ (by simp [Fm.txt]; omega)) hla
  have hnode : fmt.Node 49 w H op [0] [K0] (a0.free &&& (15 ^^^ 1 <<< 0)) (1 <<< 0 ||| Fm.all a0) := hnode
  have HSORT := hok.1
  have h0 : 0 < 4 := by decide
  have IHa0 := Lib.hid (iha0 hla0 hok.2.2)
  have HLa0 := Lib.hid hla0
  have HT0 := Lib.hid ht0
  have HS16 := Lib.hid (Fm.free_lt hok.2.2)
  obtain ⟨S, hS0⟩ : ∃ S, S = a0.free := ⟨_, rfl⟩
  have HSS0 := Lib.hid hS0
  rw [← hS0] at HS16
  clear hS0
  have HVS := Lib.hid vs
  have HVR := Lib.hid vr
  have HLM : Hid (1 ≤ M ∧ (∀ s, So = some s → s.txt.length ≤ M) ∧ ∀ s, Ro = some s → s.txt.length ≤ M) := by
    refine ⟨hM.1, fun s hs => ?_, fun s hs => ?_⟩
    · obtain ⟨s2, he, _, _, h3, _⟩ := hS.resolve_left (by rw [hs]; simp)
      rw [hs] at he; cases he; exact h3
    · obtain ⟨s2, he, _, _, h3, _⟩ := hR.resolve_left (by rw [hs]; simp)
      rw [hs] at he; cases he; exact h3
  obtain ⟨W2, hW2⟩ : ∃ QZ, QZ = ((w.alloc (.cells #[sv, rv] 60)).alloc (.cells #[.int .u8 (97 + (m 0 : Nat) : Int), .int .u8 (97 + (m 1 : Nat) : Int), .int .u8 (97 + (m 2 : Nat) : Int), .int .u8 (97 + (m 3 : Nat) : Int)] 62)).alloc (.cells #[] 5) := ⟨_, rfl⟩
  have HX0 : Hid (Bx w W2 sv rv m) := by rw [hW2]; exact (Bx.new w sv rv m).call ((Below.refl _ _).alloc (Nat.le_refl _) _)
  have HO0 : Hid (W2.ownsRow (w.heap.size + 2) 5 1 (.slice (some ⟨w.heap.size + 1 + 1, 0, none⟩) 0 0) 0 (nb [])) := by rw [hW2, Hid]; have h := own_new (w := ((w.alloc (.cells #[sv, rv] 60)).alloc (.cells #[.int .u8 (97 + (m 0 : Nat) : Int), .int .u8 (97 + (m 1 : Nat) : Int), .int .u8 (97 + (m 2 : Nat) : Int), .int .u8 (97 + (m 3 : Nat) : Int)] 62))) (C := w.heap.size + 2) (by simp); simpa using h
  have HN : Hid (fmt.Node 49 w H op [0] [K0] (a0.free &&& (15 ^^^ 1 <<< 0)) (1 <<< 0 ||| Fm.all a0)) := hnode
  have HN2 : Hid (fmt.Node 49 W2 H op [0] [K0] (a0.free &&& (15 ^^^ 1 <<< 0)) (1 <<< 0 ||| Fm.all a0)) := hnode.below HX0.out.b (Nat.le_refl _)
  obtain ⟨vv, pv, hvv, hpv, c0, c1, c2, c3, c4⟩ := HN2.out.cells
  obtain ⟨va, vc, rfl⟩ := rv_len hvv
  obtain ⟨pa, pc, rfl⟩ := rv_len hpv
  have hH := Lib.hid HN.out.lt
  simp only [List.map_nil, List.map_cons, List.length_nil, List.length_cons, Nat.zero_add, Nat.reduceAdd] at c1 c2 hvv hpv
  obtain ⟨vb_, vo, rfl, ce0⟩ := rv_cell hvv rfl (k := 0) (by simp)
  have hvb := World.block_lt_of_cell? _ _ ce0
  obtain ⟨pb, po, rfl, cp0⟩ := rv_cell hpv rfl (k := 0) (by simp)
  have HCN : Hid (∀ wr {m : Nat → Nat}, Bx w wr sv rv m → wr.cell? ⟨H, 0, none⟩ = some (.int .u8 (op.toNat : Int)) ∧ wr.cell? ⟨H, 1, none⟩ = some (.slice (some ⟨vb_, vo, none⟩) 1 vc) ∧ wr.cell? ⟨H, 2, none⟩ = some (.slice (some ⟨pb, po, none⟩) 1 pc) ∧ True ∧ True) := fun wr _ hx => by
    have e : ∀ j, wr.cell? ⟨H, j, none⟩ = w.cell? ⟨H, j, none⟩ := fun j => hx.b.cell (p := ⟨H, j, none⟩) hH.out
    have e2 : ∀ j, W2.cell? ⟨H, j, none⟩ = w.cell? ⟨H, j, none⟩ := fun j => HX0.out.b.cell (p := ⟨H, j, none⟩) hH.out
    exact ⟨(e 0).trans ((e2 0).symm.trans c0), (e 1).trans ((e2 1).symm.trans c1), (e 2).trans ((e2 2).symm.trans c2), trivial, trivial⟩
  have HCE0 : Hid (∀ wr, Bx w wr sv rv m → wr.cell? ⟨vb_, vo, none⟩ = some (.int .u8 97)) := fun wr hx => by
    have hvb0 : vb_ < w.heap.size := by
      obtain ⟨vv0, _, hv0, _, _, c10, _⟩ := HN.out.cells
      have e : W2.cell? ⟨H, 1, none⟩ = w.cell? ⟨H, 1, none⟩ := HX0.out.b.cell (p := ⟨H, 1, none⟩) hH.out
      rw [c1, c10] at e
      obtain ⟨b9, o9, he9, h9⟩ := rv_cell hv0 (Option.some.inj e).symm (k := 0) (by simp)
      simp only [Option.some.injEq, Addr.mk.injEq] at he9
      rw [he9.1]
      exact World.block_lt_of_cell? _ _ h9
    have e : wr.cell? ⟨vb_, vo, none⟩ = w.cell? ⟨vb_, vo, none⟩ := hx.b.cell (p := ⟨vb_, vo, none⟩) hvb0
    have e2 : W2.cell? ⟨vb_, vo, none⟩ = w.cell? ⟨vb_, vo, none⟩ := HX0.out.b.cell (p := ⟨vb_, vo, none⟩) hvb0
    rw [e, ← e2]
    exact ce0
  have HPE0 : Hid (∀ wr (mm : Nat → Nat), Bx w wr sv rv mm → wr.cell? ⟨pb, po, none⟩ = some (.pointer (some ⟨K0, 0, none⟩))) := fun wr mm hx => by
    have hpb0 : pb < w.heap.size := by
      obtain ⟨_, pv0, _, hv0, _, _, c20, _⟩ := HN.out.cells
      have e : W2.cell? ⟨H, 2, none⟩ = w.cell? ⟨H, 2, none⟩ := HX0.out.b.cell (p := ⟨H, 2, none⟩) hH.out
      rw [c2, c20] at e
      obtain ⟨b9, o9, he9, h9⟩ := rv_cell hv0 (Option.some.inj e).symm (k := 0) (by simp)
      simp only [Option.some.injEq, Addr.mk.injEq] at he9
      rw [he9.1]
      exact World.block_lt_of_cell? _ _ h9
    have e : wr.cell? ⟨pb, po, none⟩ = w.cell? ⟨pb, po, none⟩ := hx.b.cell (p := ⟨pb, po, none⟩) hpb0
    have e2 : W2.cell? ⟨pb, po, none⟩ = w.cell? ⟨pb, po, none⟩ := HX0.out.b.cell (p := ⟨pb, po, none⟩) hpb0
    rw [e, ← e2]
    exact cp0
  have HM := Lib.hid hm
  have HND := HN
  have e80 := not80 (c := op) (by rw [HSORT]; decide)
  have e69 := not69 (c := op) (by rw [HSORT]; decide)
  have HQ : Hid (isQ op.toNat = true) := by rw [isq_sort, HSORT]; rfl
  clear HSORT hnode hok hla hla0 hvv hpv hm hM hS hR vs vr iha0 ht0 cp0 ce0 hvb
  rw [hW2] at c0 c1 c2 c3 c4
  go_enter Try.func29, Try.ntmps29
  go_wp2_with fail
  rw [← hW2] at c0 c1 c2 c3 c4 ⊢
  clear hW2
  go_loopw [8, 27] (fun nv i wr => ∃ (k g cap : Nat), k ≤ 1 ∧ i = .int .i64 k ∧ nv = .slice (some ⟨g, 0, none⟩) k cap ∧ Hid (wr.ownsRow (w.heap.size + 2) 5 1 (.slice (some ⟨g, 0, none⟩) k cap) k (nb (([m 0] : List Nat).take k))) ∧ Hid (Bx w wr sv rv m)) (fun _ i _ => 1 - (intOf i).toNat)
  case atStart => exact ⟨0, _, _, Nat.zero_le _, rfl, rfl, HO0.out, HX0.out⟩
  case round =>
    clear HO0 HX0 c0 c1 c2 c3 c4
    obtain ⟨k, g, cap, hk, rfl, rfl, HO, HX⟩ := hrel
    have hgl := HO.out.lt g rfl
    obtain rfl | rfl : k = 0 ∨ k = 1 := by omega
    · have cx := HCE0.out wr HX.out
      have cy := HX.out.at h0
      have s1 := u8_sub h0
      have s2 := u8_wrap h0
      have l1 : (0 : Int) < 4 := by omega
      have HZ : Hid (0 + 1 ≤ 4398046511104 ∧ w.heap.size + 2 ≤ wr.heap.size) := ⟨by decide, HX.out.size⟩
      clear hgl
      go_wp2_with (at_builtin; refine wpList_app1 wr rfl (.tmp 31) (.tmp 36) 46 rfl (w.heap.size + 2) 5 (.int .u8 0) 1 Try.underlying46 infoB rfl (by decide) _ _ _ (.int .u8 (97 + (m 0 : Nat) : Int)) rfl HO.out wr.heap.size rfl rfl rfl HZ.out.1 HZ.out.2 ?_)
      intro g2 cap2 w1 hown hgr
      have HX2 : Hid (Bx w w1 sv rv m) := HX.out.on (hgr.below HO.out HZ.out.2)
      have HO2 := Lib.hid hown
      clear hown hgr cx cy
      go_wp2
      go_roundw
      case rel => exact ⟨1, g2, cap2, by decide, by first | rfl | go_num, rfl, HO2.out, HX2.out⟩
      case measure => simp [intOf]
    · have hlw : H < wr.heap.size := by have := hH.out; have := HX.out.b.size; omega
      clear hgl
      obtain ⟨c0, c1, c2, c3, c4⟩ := HCN.out wr HX.out
      have cx := HCE0.out wr HX.out
      obtain ⟨W7, hW7⟩ : ∃ QZ, QZ = wr.alloc (.cells #[.bool false, .bool false, .bool false, .bool false] 67) := ⟨_, rfl⟩
      have HTK0 : Hid (Tk W7 wr.heap.size S 0 m 0 ∧ Bx w W7 sv rv m) := by
        rw [hW7]
        exact ⟨heap_alloc_new wr _, HX.out.call ((Below.refl _ _).alloc (Nat.le_refl _) _)⟩
      go_wp2_with fail
      refine Calls.mono (isQuantifier_any 49 H op [0] [K0] (a0.free &&& (15 ^^^ 1 <<< 0)) (1 <<< 0 ||| Fm.all a0) wr (HND.out.below HX.out.b (Nat.le_refl _))) ?_
      rintro eo w1 ⟨rfl, rfl⟩
      rw [HQ.out]
      go_wp2_with fail
      rw [← hW7]
      obtain ⟨B, hB⟩ : ∃ B, B = wr.heap.size := ⟨_, rfl⟩
      have HBB : Hid (w.heap.size + 2 ≤ B) := by rw [hB]; exact HX.out.size
      rw [← hB] at HTK0 ⊢
      clear hB hW7 HX c0 c1 c2 c3 c4 cx hlw HO
      go_loopw [93] (fun i wx => ∃ k : Nat, k ≤ 4 ∧ i = .int .i64 k ∧ Hid (Tk wx B S 0 m k ∧ Bx w wx sv rv m)) (fun i _ => 4 - (intOf i).toNat)
      case atStart => exact ⟨0, Nat.zero_le _, rfl, HTK0.out⟩
      case round =>
        clear HTK0
        obtain ⟨k, hk, rfl, HTX⟩ := hrel
        have hlw : H < wr.heap.size := by have := hH.out; have := HTX.out.2.b.size; omega
        obtain ⟨c0, c1, c2, c3, c4⟩ := HCN.out wr HTX.out.2
        have cx := HPE0.out wr _ HTX.out.2
        have cf := (part_free (HT0.out.below HTX.out.2.b (Nat.le_refl _))).1
        rw [← HSS0.out] at cf
        obtain rfl | rfl | rfl | rfl | rfl : k = 0 ∨ k = 1 ∨ k = 2 ∨ k = 3 ∨ k = 4 := by omega
        · have hbi := fmi.b_in_0 HS16.out
          cases hin : inS S 0 with
          | false =>
            rw [hin] at hbi
            have HT2 : Hid (Tk wr B S 0 m 1 ∧ Bx w wr sv rv m) := ⟨HTX.out.1.same (by rw [hin]; rfl), HTX.out.2⟩
            clear hin

            go_wp2
            go_roundw
            case rel => exact ⟨1, by omega, rfl, HT2⟩
            case measure => simp [intOf]
          | true =>
            rw [hin] at hbi
            have HT2 : Hid (Tk wr B S 0 m 1 ∧ Bx w wr sv rv m) := ⟨HTX.out.1.same (by rw [hin]; rfl), HTX.out.2⟩
            clear hin

            go_wp2
            go_roundw
            case rel => exact ⟨1, by omega, rfl, HT2⟩
            case measure => simp [intOf]
        · have hbi := fmi.b_in_1 HS16.out
          cases hin : inS S 1 with
          | false =>
            rw [hin] at hbi
            have HT2 : Hid (Tk wr B S 0 m 2 ∧ Bx w wr sv rv m) := ⟨HTX.out.1.same (by rw [hin]; rfl), HTX.out.2⟩
            clear hin

            go_wp2
            go_roundw
            case rel => exact ⟨2, by omega, rfl, HT2⟩
            case measure => simp [intOf]
          | true =>
            rw [hin] at hbi
            have hmk := HM.out 1 (by decide)
            have l1 : (m 1 : Int) < 4 := by omega
            have s1 := u8_sub hmk
            have s2 := u8_wrap hmk
            have cy := HTX.out.2.at (v := 1) (by decide)
            have cz := HTX.out.1.c (m 1) hmk
            have fz := HTX.out.1.free (m 1)
            have HT2 : Hid (Tk (wr.setCell ⟨B, m 1, none⟩ (.bool true)) B S 0 m 2 ∧ Bx w (wr.setCell ⟨B, m 1, none⟩ (.bool true)) sv rv m) := ⟨HTX.out.1.set (by rw [hin]; rfl) hmk, HTX.out.2.on ((Below.refl _ _).setCell (p := ⟨B, m 1, none⟩) (by have := HBB.out; exact this) _)⟩
            clear hin

            go_wp2
            go_roundw
            case rel => exact ⟨2, by omega, rfl, HT2⟩
            case measure => simp [intOf]
        · have hbi := fmi.b_in_2 HS16.out
          cases hin : inS S 2 with
          | false =>
            rw [hin] at hbi
            have HT2 : Hid (Tk wr B S 0 m 3 ∧ Bx w wr sv rv m) := ⟨HTX.out.1.same (by rw [hin]; rfl), HTX.out.2⟩
            clear hin

            go_wp2
            go_roundw
            case rel => exact ⟨3, by omega, rfl, HT2⟩
            case measure => simp [intOf]
          | true =>
            rw [hin] at hbi
            have hmk := HM.out 2 (by decide)
            have l1 : (m 2 : Int) < 4 := by omega
            have s1 := u8_sub hmk
            have s2 := u8_wrap hmk
            have cy := HTX.out.2.at (v := 2) (by decide)
            have cz := HTX.out.1.c (m 2) hmk
            have fz := HTX.out.1.free (m 2)
            have HT2 : Hid (Tk (wr.setCell ⟨B, m 2, none⟩ (.bool true)) B S 0 m 3 ∧ Bx w (wr.setCell ⟨B, m 2, none⟩ (.bool true)) sv rv m) := ⟨HTX.out.1.set (by rw [hin]; rfl) hmk, HTX.out.2.on ((Below.refl _ _).setCell (p := ⟨B, m 2, none⟩) (by have := HBB.out; exact this) _)⟩
            clear hin

            go_wp2
            go_roundw
            case rel => exact ⟨3, by omega, rfl, HT2⟩
            case measure => simp [intOf]
        · have hbi := fmi.b_in_3 HS16.out
          cases hin : inS S 3 with
          | false =>
            rw [hin] at hbi
            have HT2 : Hid (Tk wr B S 0 m 4 ∧ Bx w wr sv rv m) := ⟨HTX.out.1.same (by rw [hin]; rfl), HTX.out.2⟩
            clear hin

            go_wp2
            go_roundw
            case rel => exact ⟨4, by omega, rfl, HT2⟩
            case measure => simp [intOf]
          | true =>
            rw [hin] at hbi
            have hmk := HM.out 3 (by decide)
            have l1 : (m 3 : Int) < 4 := by omega
            have s1 := u8_sub hmk
            have s2 := u8_wrap hmk
            have cy := HTX.out.2.at (v := 3) (by decide)
            have cz := HTX.out.1.c (m 3) hmk
            have fz := HTX.out.1.free (m 3)
            have HT2 : Hid (Tk (wr.setCell ⟨B, m 3, none⟩ (.bool true)) B S 0 m 4 ∧ Bx w (wr.setCell ⟨B, m 3, none⟩ (.bool true)) sv rv m) := ⟨HTX.out.1.set (by rw [hin]; rfl) hmk, HTX.out.2.on ((Below.refl _ _).setCell (p := ⟨B, m 3, none⟩) (by have := HBB.out; exact this) _)⟩
            clear hin

            go_wp2
            go_roundw
            case rel => exact ⟨4, by omega, rfl, HT2⟩
            case measure => simp [intOf]
        · have cz := HTX.out.1.c 0 (by decide)
          have HCI := Lib.hid (HTX.out.1.c)
          have HXX := Lib.hid HTX.out.2
          have HFR := Lib.hid (fun h => fresh_idx (v := 0) HS16.out (by decide) HM.out h)
          have HFS := Lib.hid (fun h => fresh_same (v := 0) HS16.out (by decide) HM.out h)
          clear cx cf
          go_upto_if 126 with (fail)
          go_cut [6, 7, 14, 15] from 122 to 133 (fun _ _ c _ wx => ∃ u : Nat, u < 4 ∧ c = .int .u8 (97 + (u : Nat) : Int) ∧ Hid (fresh 0 S m = some u) ∧ wx = wr)
          case first =>
            cases ht : tk S 0 m 4 0 with
            | false =>
              have HF := Lib.hid (HFS.out ht)
              clear ht cz
              go_wp2
              go_meet
              exact ⟨0, by decide, rfl, HF, rfl⟩
            | true =>
              have HF := Lib.hid (HFR.out ht)
              clear ht cz
              go_wp2_with fail
              refine (fmv.index_any B 4 (tk S 0 m 4) _ HCI.out).mono ?_
              rintro eo w1 ⟨rfl, rfl⟩
              cases hi : idx (tk S 0 m 4) with
              | none =>
                have HE : Hid (put So Ro (.qu op 0 a0) m = none) := by
                  unfold Hid put
                  rw [← HSS0.out, HF.out, hi]
                clear hi
                have HB9 := Lib.hid HXX.out.b
                go_wp2
                go_ret2
                exact put_no HE.out rfl rfl HB9.out
              | some u =>
                have hu := idx_lt hi
                have HI := Lib.hid hi
                clear hi
                rw [show frI (some u) = (u : Int) from rfl]
                obtain rfl | rfl | rfl | rfl : u = 0 ∨ u = 1 ∨ u = 2 ∨ u = 3 := by omega
                all_goals
                  go_wp2
                  go_meet
                  exact ⟨_, hu, rfl, by have h := HF.out; rw [HI.out] at h; exact h, rfl⟩
          case rest =>
            obtain ⟨u, hu, rfl, HF, hwc⟩ := hcut
            rw [hwc]
            clear hwc
            clear HFR HFS HCI cz c0 c1 c2 c3 c4 hlw
            have l1 : (u : Int) < 4 := by omega
            have cw := HXX.out.at (v := 0) (by decide)
            have fw := HXX.out.free 0
            obtain ⟨W8, hW8⟩ : ∃ QZ, QZ = wr.setCell ⟨w.heap.size + 1, 0, none⟩ (.int .u8 (97 + (u : Nat) : Int)) := ⟨_, rfl⟩
            have HX8 : Hid (Bx w W8 sv rv (upd m 0 u)) := by rw [hW8]; exact HXX.out.set (v := 0) (by decide)
            go_upto_region 27 with (fail)
            rw [← hW8]
            clear hW8 HXX cw fw HTX
            obtain ⟨W9, hW9⟩ : ∃ QZ, QZ = W8.alloc (.cells #[.int .u8 (97 + (u : Nat) : Int)] 5) := ⟨_, rfl⟩
            have HX9' : Hid (Bx w W9 sv rv (upd m 0 u) ∧ W9.cell? ⟨W8.heap.size, 0, none⟩ = some (.int .u8 (97 + (u : Nat) : Int)) ∧ W8.heap.size < W9.heap.size) := by
              rw [hW9]
              exact ⟨HX8.out.call ((Below.refl _ _).alloc (Nat.le_refl _) _), World.cell?_alloc_mark _ _ _ _ _, by simp⟩
            go_upto_region 28 with (fail)
            rw [← hW9]
            clear hW9 HX8
            obtain ⟨g9, hg9⟩ : ∃ g9, g9 = W8.heap.size := ⟨_, rfl⟩
            rw [← hg9] at HX9' ⊢
            clear hg9
            obtain ⟨cn0, hgw⟩ := HX9'.out.2
            have ca : ∀ W : World, W.cell? ⟨W9.heap.size, 0, none⟩ = some (.int .u8 (op.toNat : Int)) → (convert 46 9 (.slice (some ⟨W9.heap.size, 0, none⟩) 1 1)).run Try.prog W = .ok (.string ⟨#[op]⟩) W := fun W h => to_text1 _ _ op _ rfl W h
            have cb : ∀ W : World, W.cell? ⟨g9, 0, none⟩ = some (.int .u8 (97 + (u : Nat) : Int)) → (convert 46 9 (.slice (some ⟨g9, 0, none⟩) 1 1)).run Try.prog W = .ok (.string ⟨#[vb u]⟩) W := fun W h => to_text1 _ _ _ _ (vb_int hu) W h
            have cad := add_ok (P := Try.prog) (x := ⟨#[op]⟩) (y := ⟨#[vb u]⟩) (by show 1 ≤ 32000000; decide) (by show 1 ≤ 32000000; decide)
            have hlw : H < W9.heap.size := by have := hH.out; have := HX9'.out.1.b.size; omega
            obtain ⟨c0, c1, c2, c3, c4⟩ := HCN.out W9 HX9'.out.1
            have HMM : Hid (∀ x, x < 4 → upd m 0 u x < 4) := fun x hx => by
              unfold upd
              split
              · exact hu
              · exact HM.out x hx
            have HX9 : Hid (Bx w (W9.alloc (.cells #[.int .u8 (op.toNat : Int)] 5)).drew sv rv (upd m 0 u)) := HX9'.out.1.call ((Below.refl _ _).alloc (Nat.le_refl _) _).drew
            go_region
            go_wp2_with fail
            obtain ⟨w9, hw9⟩ : ∃ QZ, QZ = (W9.alloc (.cells #[.int .u8 (op.toNat : Int)] 5)).drew := ⟨_, rfl⟩
            rw [← hw9] at HX9 ⊢
            clear hw9 c0 c1 c2 c3 c4 HX9' cn0
            go_loopw [16, 154] (fun o i wr => ∃ (k : Nat) (q : List (List UInt8)) (s : ByteArray), k ≤ 1 ∧ q.length = k ∧ i = .int .i64 k ∧ o = .string s ∧ Hid (s = ⟨([op, vb u] ++ q.flatten).toArray⟩) ∧ Hid (Bx w wr sv rv (upd m 0 u)) ∧ Hid (q.map some = (([a0] : List Fm).take k).map fun a => put So Ro a (upd m 0 u))) (fun _ i _ => 1 - (intOf i).toNat)
            case atStart => exact ⟨0, [], _, Nat.zero_le _, rfl, rfl, rfl, (cat_one (c := op) (t := [vb u])).trans (by simp), HX9.out, rfl⟩
            case round =>
              clear HX9
              obtain ⟨k, q, s, hk, hql, rfl, rfl, HSS, HX, HQQ⟩ := hrel
              have hlw : H < wr.heap.size := by have := hH.out; have := HX.out.b.size; omega
              obtain rfl | rfl : k = 0 ∨ k = 1 := by omega
              · have cx := HPE0.out wr _ HX.out
                obtain ⟨q0, q1, r0, r1, r2, r3⟩ := HX.out.c
                have rp := HX.out.p
                have rv_ := HX.out.v
                have HC := Lib.hid (IHa0.out (upd m 0 u) K0 wr HMM.out (HVS.out.below' HX.out.b) (HVR.out.below' HX.out.b) (HT0.out.below HX.out.b (Nat.le_refl _)))
                cases hp : put So Ro a0 (upd m 0 u) with
                | none =>
                  have HP := Lib.hid hp
                  have HE : Hid (put So Ro (.qu op 0 a0) m = none) := by unfold Hid put; rw [← HSS0.out, HF.out]; simp only; rw [HP.out]
                  clear hp
                  go_wp2_with fail
                  refine HC.out.mono ?_
                  rintro eo w1 ⟨rfl, hb⟩
                  rw [HP.out]
                  have HB9 : Hid (Below w.heap.size w w1) := HX.out.b.trans (hb.mono HX.out.b.size)
                  clear hb
                  go_wp2
                  go_ret2
                  exact put_no HE.out rfl rfl HB9.out
                | some x =>
                  have HP := Lib.hid hp
                  have hxl : x.length ≤ 16000000 := Nat.le_trans (put_len HLM.out.1 HLM.out.2.1 HLM.out.2.2 hp) HLa0.out
                  have hq0 : ([op, vb u] ++ q.flatten).length ≤ 16000010 := by rw [List.length_eq_zero_iff.1 hql]; simp
                  have cad := add_ok (P := Try.prog) (x := s) (y := optS (some x)) (by rw [HSS.out]; show ([op, vb u] ++ q.flatten).toArray.size ≤ _; rw [List.size_toArray]; omega) (by show x.toArray.size ≤ _; rw [List.size_toArray]; omega)
                  have HQ2 : Hid ((q ++ [x]).map some = (([a0] : List Fm).take (0 + 1)).map fun a => put So Ro a (upd m 0 u)) := by
                    rw [Hid, List.map_append, HQQ.out]
                    simp [hp]
                  have HT2 : Hid (s ++ optS (some x) = ⟨([op, vb u] ++ (q ++ [x]).flatten).toArray⟩) := by
                    rw [optS_some, Hid, HSS.out, cat_two, List.flatten_append, ← List.append_assoc]
                    simp
                  clear hp hxl hq0
                  go_wp2_with fail
                  refine HC.out.mono ?_
                  rintro eo w1 ⟨rfl, hb⟩
                  rw [HP.out]
                  have HX2 : Hid (Bx w w1 sv rv (upd m 0 u)) := HX.out.call hb
                  clear hb cx q0 q1 r0 r1 r2 r3 rp rv_ HX HC
                  obtain ⟨z, hz⟩ : ∃ z, z = optS (some x) := ⟨_, rfl⟩
                  rw [← hz] at cad HT2 ⊢
                  clear hz
                  go_wp2
                  go_roundw
                  case rel => first | exact ⟨0 + 1, q ++ [x], s ++ z, by decide, by simp [hql], by first | rfl | go_num, rfl, HT2, HX2, HQ2⟩ | ((repeat apply Exists.intro); exact ⟨⟨0 + 1, q ++ [x], s ++ z, by decide, by simp [hql], by first | rfl | go_num, rfl, HT2, HX2, HQ2⟩, rfl⟩)
                  case measure => simp [intOf]
              · have HE : Hid (put So Ro (.qu op 0 a0) m = some ([op, vb u] ++ q.flatten)) := by
                      match q, hql, HQQ with
                      | [x], _, HQQ =>
                        have h := HQQ.out
                        simp at h
                        unfold Hid put
                        rw [← HSS0.out, HF.out]
                        simp only
                        rw [← h]; simp
                have HB9 := Lib.hid HX.out.b
                go_wp2
                go_ret2
                exact put_ok HE.out HSS.out rfl HB9.out
end Go.Proofs.Ytefneihlgclkbaa.fmph

/- Formulas in the program: put, some sorts. -/
namespace Go.Proofs.Ytefneihlgclkbaa.fmpi
set_option linter.unusedVariables false
set_option linter.unusedSimpArgs false
open Go.ChangeShapes Go.WideShapes Go.ChangeAt Go.RowKit
open Go.Proofs.Ytefneihlgclkbaa.lib Go.Proofs.Ytefneihlgclkbaa.fm Go.Proofs.Ytefneihlgclkbaa.fmt Go.Proofs.Ytefneihlgclkbaa.fmu Go.Proofs.Ytefneihlgclkbaa.fme Go.Proofs.Ytefneihlgclkbaa.fmx Go.Proofs.Ytefneihlgclkbaa.fmj Go.Proofs.Ytefneihlgclkbaa.fmv
open Go.Proofs.Ytefneihlgclkbaa.fmo

open Go.Proofs.Ytefneihlgclkbaa.fmqu
set_option maxHeartbeats 6400000 in
set_option maxRecDepth 100000 in
theorem pt_qu2 (So Ro : Option Fm) (M : Nat) (hM : 1 ≤ M ∧ M ≤ 4000) (hS : So = none ∨ ∃ s, So = some s ∧ s.ok ∧ s.free >>> 1 = 0 ∧ s.txt.length ≤ M ∧ ∀ (Hs v : Nat) (w : World), v < 4 → Tree 49 w s Hs → Calls Try.prog 29 #[.agg #[.pointer none, .pointer none], .pointer (some ⟨Hs, 0, none⟩), .agg #[.int .u8 (97 + (v : Nat) : Int), .int .u8 98, .int .u8 99, .int .u8 100]] w (PutQ w (put0 s (map1 v)))) (hR : Ro = none ∨ ∃ s, Ro = some s ∧ s.ok ∧ s.free >>> 2 = 0 ∧ s.txt.length ≤ M ∧ ∀ (Hs v u : Nat) (w : World), v < 4 → u < 4 → Tree 49 w s Hs → Calls Try.prog 29 #[.agg #[.pointer none, .pointer none], .pointer (some ⟨Hs, 0, none⟩), .agg #[.int .u8 (97 + (v : Nat) : Int), .int .u8 (97 + (u : Nat) : Int), .int .u8 99, .int .u8 100]] w (PutQ w (put0 s (map2 v u)))) (sv rv : Value) (m : Nat → Nat) (H : Nat) (w : World) (hm : ∀ x, x < 4 → m x < 4) (vs : VT w sv So) (vr : VT w rv Ro) (op : UInt8) (a0 : Fm) (hla : M * (Fm.qu op 2 a0).txt.length ≤ 16000000) (hok : (Fm.qu op 2 a0).ok) (iha0 : M * a0.txt.length ≤ 16000000 → a0.ok → ∀ (m : Nat → Nat) (H : Nat) (w : World), (∀ x, x < 4 → m x < 4) → VT w sv So → VT w rv Ro → Tree 49 w a0 H → Calls Try.prog 29 #[.agg #[sv, rv], .pointer (some ⟨H, 0, none⟩), .agg #[.int .u8 (97 + (m 0 : Nat) : Int), .int .u8 (97 + (m 1 : Nat) : Int), .int .u8 (97 + (m 2 : Nat) : Int), .int .u8 (97 + (m 3 : Nat) : Int)]] w (PutQ w (put So Ro a0 m))) (ht : Tree 49 w (.qu op 2 a0) H) :
    Calls Try.prog 29 #[.agg #[sv, rv], .pointer (some ⟨H, 0, none⟩), .agg #[.int .u8 (97 + (m 0 : Nat) : Int), .int .u8 (97 + (m 1 : Nat) : Int), .int .u8 (97 + (m 2 : Nat) : Int), .int .u8 (97 + (m 3 : Nat) : Int)]] w (PutQ w (put So Ro (.qu op 2 a0) m)) := by
  obtain ⟨K0, ht0, hnode⟩ := ht
  have hok : sort op = .qu ∧ 2 < 4 ∧ a0.ok := hok
  have hla0 : M * a0.txt.length ≤ 16000000 := Nat.le_trans (Nat.mul_le_mul_left _ (by simp [Fm.txt]; omega)) hla
  have hnode : fmt.Node 49 w H op [2] [K0] (a0.free &&& (15 ^^^ 1 <<< 2)) (1 <<< 2 ||| Fm.all a0) := hnode
  have HSORT := hok.1
  have h2 : 2 < 4 := by decide
  have IHa0 := Lib.hid (iha0 hla0 hok.2.2)
  have HLa0 := Lib.hid hla0
  have HT0 := Lib.hid ht0
  have HS16 := Lib.hid (Fm.free_lt hok.2.2)
  obtain ⟨S, hS0⟩ : ∃ S, S = a0.free := ⟨_, rfl⟩
  have HSS0 := Lib.hid hS0
  rw [← hS0] at HS16
  clear hS0
  have HVS := Lib.hid vs
  have HVR := Lib.hid vr
  have HLM : Hid (1 ≤ M ∧ (∀ s, So = some s → s.txt.length ≤ M) ∧ ∀ s, Ro = some s → s.txt.length ≤ M) := by
    refine ⟨hM.1, fun s hs => ?_, fun s hs => ?_⟩
    · obtain ⟨s2, he, _, _, h3, _⟩ := hS.resolve_left (by rw [hs]; simp)
      rw [hs] at he; cases he; exact h3
    · obtain ⟨s2, he, _, _, h3, _⟩ := hR.resolve_left (by rw [hs]; simp)
      rw [hs] at he; cases he; exact h3
  obtain ⟨W2, hW2⟩ : ∃ QZ, QZ = ((w.alloc (.cells #[sv, rv] 60)).alloc (.cells #[.int .u8 (97 + (m 0 : Nat) : Int), .int .u8 (97 + (m 1 : Nat) : Int), .int .u8 (97 + (m 2 : Nat) : Int), .int .u8 (97 + (m 3 : Nat) : Int)] 62)).alloc (.cells #[] 5) := ⟨_, rfl⟩
  have HX0 : Hid (Bx w W2 sv rv m) := by rw [hW2]; exact (Bx.new w sv rv m).call ((Below.refl _ _).alloc (Nat.le_refl _) _)
  have HO0 : Hid (W2.ownsRow (w.heap.size + 2) 5 1 (.slice (some ⟨w.heap.size + 1 + 1, 0, none⟩) 0 0) 0 (nb [])) := by rw [hW2, Hid]; have h := own_new (w := ((w.alloc (.cells #[sv, rv] 60)).alloc (.cells #[.int .u8 (97 + (m 0 : Nat) : Int), .int .u8 (97 + (m 1 : Nat) : Int), .int .u8 (97 + (m 2 : Nat) : Int), .int .u8 (97 + (m 3 : Nat) : Int)] 62))) (C := w.heap.size + 2) (by simp); simpa using h
  have HN : Hid (fmt.Node 49 w H op [2] [K0] (a0.free &&& (15 ^^^ 1 <<< 2)) (1 <<< 2 ||| Fm.all a0)) := hnode
  have HN2 : Hid (fmt.Node 49 W2 H op [2] [K0] (a0.free &&& (15 ^^^ 1 <<< 2)) (1 <<< 2 ||| Fm.all a0)) := hnode.below HX0.out.b (Nat.le_refl _)
  obtain ⟨vv, pv, hvv, hpv, c0, c1, c2, c3, c4⟩ := HN2.out.cells
  obtain ⟨va, vc, rfl⟩ := rv_len hvv
  obtain ⟨pa, pc, rfl⟩ := rv_len hpv
  have hH := Lib.hid HN.out.lt
  simp only [List.map_nil, List.map_cons, List.length_nil, List.length_cons, Nat.zero_add, Nat.reduceAdd] at c1 c2 hvv hpv
  obtain ⟨vb_, vo, rfl, ce0⟩ := rv_cell hvv rfl (k := 0) (by simp)
  have hvb := World.block_lt_of_cell? _ _ ce0
  obtain ⟨pb, po, rfl, cp0⟩ := rv_cell hpv rfl (k := 0) (by simp)
  have HCN : Hid (∀ wr {m : Nat → Nat}, Bx w wr sv rv m → wr.cell? ⟨H, 0, none⟩ = some (.int .u8 (op.toNat : Int)) ∧ wr.cell? ⟨H, 1, none⟩ = some (.slice (some ⟨vb_, vo, none⟩) 1 vc) ∧ wr.cell? ⟨H, 2, none⟩ = some (.slice (some ⟨pb, po, none⟩) 1 pc) ∧ True ∧ True) := fun wr _ hx => by
    have e : ∀ j, wr.cell? ⟨H, j, none⟩ = w.cell? ⟨H, j, none⟩ := fun j => hx.b.cell (p := ⟨H, j, none⟩) hH.out
    have e2 : ∀ j, W2.cell? ⟨H, j, none⟩ = w.cell? ⟨H, j, none⟩ := fun j => HX0.out.b.cell (p := ⟨H, j, none⟩) hH.out
    exact ⟨(e 0).trans ((e2 0).symm.trans c0), (e 1).trans ((e2 1).symm.trans c1), (e 2).trans ((e2 2).symm.trans c2), trivial, trivial⟩
  have HCE0 : Hid (∀ wr, Bx w wr sv rv m → wr.cell? ⟨vb_, vo, none⟩ = some (.int .u8 99)) := fun wr hx => by
    have hvb0 : vb_ < w.heap.size := by
      obtain ⟨vv0, _, hv0, _, _, c10, _⟩ := HN.out.cells
      have e : W2.cell? ⟨H, 1, none⟩ = w.cell? ⟨H, 1, none⟩ := HX0.out.b.cell (p := ⟨H, 1, none⟩) hH.out
      rw [c1, c10] at e
      obtain ⟨b9, o9, he9, h9⟩ := rv_cell hv0 (Option.some.inj e).symm (k := 0) (by simp)
      simp only [Option.some.injEq, Addr.mk.injEq] at he9
      rw [he9.1]
      exact World.block_lt_of_cell? _ _ h9
    have e : wr.cell? ⟨vb_, vo, none⟩ = w.cell? ⟨vb_, vo, none⟩ := hx.b.cell (p := ⟨vb_, vo, none⟩) hvb0
    have e2 : W2.cell? ⟨vb_, vo, none⟩ = w.cell? ⟨vb_, vo, none⟩ := HX0.out.b.cell (p := ⟨vb_, vo, none⟩) hvb0
    rw [e, ← e2]
    exact ce0
  have HPE0 : Hid (∀ wr (mm : Nat → Nat), Bx w wr sv rv mm → wr.cell? ⟨pb, po, none⟩ = some (.pointer (some ⟨K0, 0, none⟩))) := fun wr mm hx => by
    have hpb0 : pb < w.heap.size := by
      obtain ⟨_, pv0, _, hv0, _, _, c20, _⟩ := HN.out.cells
      have e : W2.cell? ⟨H, 2, none⟩ = w.cell? ⟨H, 2, none⟩ := HX0.out.b.cell (p := ⟨H, 2, none⟩) hH.out
      rw [c2, c20] at e
      obtain ⟨b9, o9, he9, h9⟩ := rv_cell hv0 (Option.some.inj e).symm (k := 0) (by simp)
      simp only [Option.some.injEq, Addr.mk.injEq] at he9
      rw [he9.1]
      exact World.block_lt_of_cell? _ _ h9
    have e : wr.cell? ⟨pb, po, none⟩ = w.cell? ⟨pb, po, none⟩ := hx.b.cell (p := ⟨pb, po, none⟩) hpb0
    have e2 : W2.cell? ⟨pb, po, none⟩ = w.cell? ⟨pb, po, none⟩ := HX0.out.b.cell (p := ⟨pb, po, none⟩) hpb0
    rw [e, ← e2]
    exact cp0
  have HM := Lib.hid hm
  have HND := HN
  have e80 := not80 (c := op) (by rw [HSORT]; decide)
  have e69 := not69 (c := op) (by rw [HSORT]; decide)
  have HQ : Hid (isQ op.toNat = true) := by rw [isq_sort, HSORT]; rfl
  clear HSORT hnode hok hla hla0 hvv hpv hm hM hS hR vs vr iha0 ht0 cp0 ce0 hvb
  rw [hW2] at c0 c1 c2 c3 c4
  go_enter Try.func29, Try.ntmps29
  go_wp2_with fail
  rw [← hW2] at c0 c1 c2 c3 c4 ⊢
  clear hW2
  go_loopw [8, 27] (fun nv i wr => ∃ (k g cap : Nat), k ≤ 1 ∧ i = .int .i64 k ∧ nv = .slice (some ⟨g, 0, none⟩) k cap ∧ Hid (wr.ownsRow (w.heap.size + 2) 5 1 (.slice (some ⟨g, 0, none⟩) k cap) k (nb (([m 2] : List Nat).take k))) ∧ Hid (Bx w wr sv rv m)) (fun _ i _ => 1 - (intOf i).toNat)
  case atStart => exact ⟨0, _, _, Nat.zero_le _, rfl, rfl, HO0.out, HX0.out⟩
  case round =>
    clear HO0 HX0 c0 c1 c2 c3 c4
    obtain ⟨k, g, cap, hk, rfl, rfl, HO, HX⟩ := hrel
    have hgl := HO.out.lt g rfl
    obtain rfl | rfl : k = 0 ∨ k = 1 := by omega
    · have cx := HCE0.out wr HX.out
      have cy := HX.out.at h2
      have s1 := u8_sub h2
      have s2 := u8_wrap h2
      have l1 : (2 : Int) < 4 := by omega
      have HZ : Hid (0 + 1 ≤ 4398046511104 ∧ w.heap.size + 2 ≤ wr.heap.size) := ⟨by decide, HX.out.size⟩
      clear hgl
      go_wp2_with (at_builtin; refine wpList_app1 wr rfl (.tmp 31) (.tmp 36) 46 rfl (w.heap.size + 2) 5 (.int .u8 0) 1 Try.underlying46 infoB rfl (by decide) _ _ _ (.int .u8 (97 + (m 2 : Nat) : Int)) rfl HO.out wr.heap.size rfl rfl rfl HZ.out.1 HZ.out.2 ?_)
      intro g2 cap2 w1 hown hgr
      have HX2 : Hid (Bx w w1 sv rv m) := HX.out.on (hgr.below HO.out HZ.out.2)
      have HO2 := Lib.hid hown
      clear hown hgr cx cy
      go_wp2
      go_roundw
      case rel => exact ⟨1, g2, cap2, by decide, by first | rfl | go_num, rfl, HO2.out, HX2.out⟩
      case measure => simp [intOf]
    · have hlw : H < wr.heap.size := by have := hH.out; have := HX.out.b.size; omega
      clear hgl
      obtain ⟨c0, c1, c2, c3, c4⟩ := HCN.out wr HX.out
      have cx := HCE0.out wr HX.out
      obtain ⟨W7, hW7⟩ : ∃ QZ, QZ = wr.alloc (.cells #[.bool false, .bool false, .bool false, .bool false] 67) := ⟨_, rfl⟩
      have HTK0 : Hid (Tk W7 wr.heap.size S 2 m 0 ∧ Bx w W7 sv rv m) := by
        rw [hW7]
        exact ⟨heap_alloc_new wr _, HX.out.call ((Below.refl _ _).alloc (Nat.le_refl _) _)⟩
      go_wp2_with fail
      refine Calls.mono (isQuantifier_any 49 H op [2] [K0] (a0.free &&& (15 ^^^ 1 <<< 2)) (1 <<< 2 ||| Fm.all a0) wr (HND.out.below HX.out.b (Nat.le_refl _))) ?_
      rintro eo w1 ⟨rfl, rfl⟩
      rw [HQ.out]
      go_wp2_with fail
      rw [← hW7]
      obtain ⟨B, hB⟩ : ∃ B, B = wr.heap.size := ⟨_, rfl⟩
      have HBB : Hid (w.heap.size + 2 ≤ B) := by rw [hB]; exact HX.out.size
      rw [← hB] at HTK0 ⊢
      clear hB hW7 HX c0 c1 c2 c3 c4 cx hlw HO
      go_loopw [93] (fun i wx => ∃ k : Nat, k ≤ 4 ∧ i = .int .i64 k ∧ Hid (Tk wx B S 2 m k ∧ Bx w wx sv rv m)) (fun i _ => 4 - (intOf i).toNat)
      case atStart => exact ⟨0, Nat.zero_le _, rfl, HTK0.out⟩
      case round =>
        clear HTK0
        obtain ⟨k, hk, rfl, HTX⟩ := hrel
        have hlw : H < wr.heap.size := by have := hH.out; have := HTX.out.2.b.size; omega
        obtain ⟨c0, c1, c2, c3, c4⟩ := HCN.out wr HTX.out.2
        have cx := HPE0.out wr _ HTX.out.2
        have cf := (part_free (HT0.out.below HTX.out.2.b (Nat.le_refl _))).1
        rw [← HSS0.out] at cf
        obtain rfl | rfl | rfl | rfl | rfl : k = 0 ∨ k = 1 ∨ k = 2 ∨ k = 3 ∨ k = 4 := by omega
        · have hbi := fmi.b_in_0 HS16.out
          cases hin : inS S 0 with
          | false =>
            rw [hin] at hbi
            have HT2 : Hid (Tk wr B S 2 m 1 ∧ Bx w wr sv rv m) := ⟨HTX.out.1.same (by rw [hin]; rfl), HTX.out.2⟩
            clear hin

            go_wp2
            go_roundw
            case rel => exact ⟨1, by omega, rfl, HT2⟩
            case measure => simp [intOf]
          | true =>
            rw [hin] at hbi
            have hmk := HM.out 0 (by decide)
            have l1 : (m 0 : Int) < 4 := by omega
            have s1 := u8_sub hmk
            have s2 := u8_wrap hmk
            have cy := HTX.out.2.at (v := 0) (by decide)
            have cz := HTX.out.1.c (m 0) hmk
            have fz := HTX.out.1.free (m 0)
            have HT2 : Hid (Tk (wr.setCell ⟨B, m 0, none⟩ (.bool true)) B S 2 m 1 ∧ Bx w (wr.setCell ⟨B, m 0, none⟩ (.bool true)) sv rv m) := ⟨HTX.out.1.set (by rw [hin]; rfl) hmk, HTX.out.2.on ((Below.refl _ _).setCell (p := ⟨B, m 0, none⟩) (by have := HBB.out; exact this) _)⟩
            clear hin

            go_wp2
            go_roundw
            case rel => exact ⟨1, by omega, rfl, HT2⟩
            case measure => simp [intOf]
        · have hbi := fmi.b_in_1 HS16.out
          cases hin : inS S 1 with
          | false =>
            rw [hin] at hbi
            have HT2 : Hid (Tk wr B S 2 m 2 ∧ Bx w wr sv rv m) := ⟨HTX.out.1.same (by rw [hin]; rfl), HTX.out.2⟩
            clear hin

            go_wp2
            go_roundw
            case rel => exact ⟨2, by omega, rfl, HT2⟩
            case measure => simp [intOf]
          | true =>
            rw [hin] at hbi
            have hmk := HM.out 1 (by decide)
            have l1 : (m 1 : Int) < 4 := by omega
            have s1 := u8_sub hmk
            have s2 := u8_wrap hmk
            have cy := HTX.out.2.at (v := 1) (by decide)
            have cz := HTX.out.1.c (m 1) hmk
            have fz := HTX.out.1.free (m 1)
            have HT2 : Hid (Tk (wr.setCell ⟨B, m 1, none⟩ (.bool true)) B S 2 m 2 ∧ Bx w (wr.setCell ⟨B, m 1, none⟩ (.bool true)) sv rv m) := ⟨HTX.out.1.set (by rw [hin]; rfl) hmk, HTX.out.2.on ((Below.refl _ _).setCell (p := ⟨B, m 1, none⟩) (by have := HBB.out; exact this) _)⟩
            clear hin

            go_wp2
            go_roundw
            case rel => exact ⟨2, by omega, rfl, HT2⟩
            case measure => simp [intOf]
        · have hbi := fmi.b_in_2 HS16.out
          cases hin : inS S 2 with
          | false =>
            rw [hin] at hbi
            have HT2 : Hid (Tk wr B S 2 m 3 ∧ Bx w wr sv rv m) := ⟨HTX.out.1.same (by rw [hin]; rfl), HTX.out.2⟩
            clear hin

            go_wp2
            go_roundw
            case rel => exact ⟨3, by omega, rfl, HT2⟩
            case measure => simp [intOf]
          | true =>
            rw [hin] at hbi
            have HT2 : Hid (Tk wr B S 2 m 3 ∧ Bx w wr sv rv m) := ⟨HTX.out.1.same (by rw [hin]; rfl), HTX.out.2⟩
            clear hin

            go_wp2
            go_roundw
            case rel => exact ⟨3, by omega, rfl, HT2⟩
            case measure => simp [intOf]
        · have hbi := fmi.b_in_3 HS16.out
          cases hin : inS S 3 with
          | false =>
            rw [hin] at hbi
            have HT2 : Hid (Tk wr B S 2 m 4 ∧ Bx w wr sv rv m) := ⟨HTX.out.1.same (by rw [hin]; rfl), HTX.out.2⟩
            clear hin

            go_wp2
            go_roundw
            case rel => exact ⟨4, by omega, rfl, HT2⟩
            case measure => simp [intOf]
          | true =>
            rw [hin] at hbi
            have hmk := HM.out 3 (by decide)
            have l1 : (m 3 : Int) < 4 := by omega
            have s1 := u8_sub hmk
            have s2 := u8_wrap hmk
            have cy := HTX.out.2.at (v := 3) (by decide)
            have cz := HTX.out.1.c (m 3) hmk
            have fz := HTX.out.1.free (m 3)
            have HT2 : Hid (Tk (wr.setCell ⟨B, m 3, none⟩ (.bool true)) B S 2 m 4 ∧ Bx w (wr.setCell ⟨B, m 3, none⟩ (.bool true)) sv rv m) := ⟨HTX.out.1.set (by rw [hin]; rfl) hmk, HTX.out.2.on ((Below.refl _ _).setCell (p := ⟨B, m 3, none⟩) (by have := HBB.out; exact this) _)⟩
            clear hin

            go_wp2
            go_roundw
            case rel => exact ⟨4, by omega, rfl, HT2⟩
            case measure => simp [intOf]
        · have cz := HTX.out.1.c 2 (by decide)
          have HCI := Lib.hid (HTX.out.1.c)
          have HXX := Lib.hid HTX.out.2
          have HFR := Lib.hid (fun h => fresh_idx (v := 2) HS16.out (by decide) HM.out h)
          have HFS := Lib.hid (fun h => fresh_same (v := 2) HS16.out (by decide) HM.out h)
          clear cx cf
          go_upto_if 126 with (fail)
          go_cut [6, 7, 14, 15] from 122 to 133 (fun _ _ c _ wx => ∃ u : Nat, u < 4 ∧ c = .int .u8 (97 + (u : Nat) : Int) ∧ Hid (fresh 2 S m = some u) ∧ wx = wr)
          case first =>
            cases ht : tk S 2 m 4 2 with
            | false =>
              have HF := Lib.hid (HFS.out ht)
              clear ht cz
              go_wp2
              go_meet
              exact ⟨2, by decide, rfl, HF, rfl⟩
            | true =>
              have HF := Lib.hid (HFR.out ht)
              clear ht cz
              go_wp2_with fail
              refine (fmv.index_any B 4 (tk S 2 m 4) _ HCI.out).mono ?_
              rintro eo w1 ⟨rfl, rfl⟩
              cases hi : idx (tk S 2 m 4) with
              | none =>
                have HE : Hid (put So Ro (.qu op 2 a0) m = none) := by
                  unfold Hid put
                  rw [← HSS0.out, HF.out, hi]
                clear hi
                have HB9 := Lib.hid HXX.out.b
                go_wp2
                go_ret2
                exact put_no HE.out rfl rfl HB9.out
              | some u =>
                have hu := idx_lt hi
                have HI := Lib.hid hi
                clear hi
                rw [show frI (some u) = (u : Int) from rfl]
                obtain rfl | rfl | rfl | rfl : u = 0 ∨ u = 1 ∨ u = 2 ∨ u = 3 := by omega
                all_goals
                  go_wp2
                  go_meet
                  exact ⟨_, hu, rfl, by have h := HF.out; rw [HI.out] at h; exact h, rfl⟩
          case rest =>
            obtain ⟨u, hu, rfl, HF, hwc⟩ := hcut
            rw [hwc]
            clear hwc
            clear HFR HFS HCI cz c0 c1 c2 c3 c4 hlw
            have l1 : (u : Int) < 4 := by omega
            have cw := HXX.out.at (v := 2) (by decide)
            have fw := HXX.out.free 2
            obtain ⟨W8, hW8⟩ : ∃ QZ, QZ = wr.setCell ⟨w.heap.size + 1, 2, none⟩ (.int .u8 (97 + (u : Nat) : Int)) := ⟨_, rfl⟩
            have HX8 : Hid (Bx w W8 sv rv (upd m 2 u)) := by rw [hW8]; exact HXX.out.set (v := 2) (by decide)
            go_upto_region 27 with (fail)
            rw [← hW8]
            clear hW8 HXX cw fw HTX
            obtain ⟨W9, hW9⟩ : ∃ QZ, QZ = W8.alloc (.cells #[.int .u8 (97 + (u : Nat) : Int)] 5) := ⟨_, rfl⟩
            have HX9' : Hid (Bx w W9 sv rv (upd m 2 u) ∧ W9.cell? ⟨W8.heap.size, 0, none⟩ = some (.int .u8 (97 + (u : Nat) : Int)) ∧ W8.heap.size < W9.heap.size) := by
              rw [hW9]
              exact ⟨HX8.out.call ((Below.refl _ _).alloc (Nat.le_refl _) _), World.cell?_alloc_mark _ _ _ _ _, by simp⟩
            go_upto_region 28 with (fail)
            rw [← hW9]
            clear hW9 HX8
            obtain ⟨g9, hg9⟩ : ∃ g9, g9 = W8.heap.size := ⟨_, rfl⟩
            rw [← hg9] at HX9' ⊢
            clear hg9
            obtain ⟨cn0, hgw⟩ := HX9'.out.2
            have ca : ∀ W : World, W.cell? ⟨W9.heap.size, 0, none⟩ = some (.int .u8 (op.toNat : Int)) → (convert 46 9 (.slice (some ⟨W9.heap.size, 0, none⟩) 1 1)).run Try.prog W = .ok (.string ⟨#[op]⟩) W := fun W h => to_text1 _ _ op _ rfl W h
            have cb : ∀ W : World, W.cell? ⟨g9, 0, none⟩ = some (.int .u8 (97 + (u : Nat) : Int)) → (convert 46 9 (.slice (some ⟨g9, 0, none⟩) 1 1)).run Try.prog W = .ok (.string ⟨#[vb u]⟩) W := fun W h => to_text1 _ _ _ _ (vb_int hu) W h
            have cad := add_ok (P := Try.prog) (x := ⟨#[op]⟩) (y := ⟨#[vb u]⟩) (by show 1 ≤ 32000000; decide) (by show 1 ≤ 32000000; decide)
            have hlw : H < W9.heap.size := by have := hH.out; have := HX9'.out.1.b.size; omega
            obtain ⟨c0, c1, c2, c3, c4⟩ := HCN.out W9 HX9'.out.1
            have HMM : Hid (∀ x, x < 4 → upd m 2 u x < 4) := fun x hx => by
              unfold upd
              split
              · exact hu
              · exact HM.out x hx
            have HX9 : Hid (Bx w (W9.alloc (.cells #[.int .u8 (op.toNat : Int)] 5)).drew sv rv (upd m 2 u)) := HX9'.out.1.call ((Below.refl _ _).alloc (Nat.le_refl _) _).drew
            go_region
            go_wp2_with fail
            obtain ⟨w9, hw9⟩ : ∃ QZ, QZ = (W9.alloc (.cells #[.int .u8 (op.toNat : Int)] 5)).drew := ⟨_, rfl⟩
            rw [← hw9] at HX9 ⊢
            clear hw9 c0 c1 c2 c3 c4 HX9' cn0
            go_loopw [16, 154] (fun o i wr => ∃ (k : Nat) (q : List (List UInt8)) (s : ByteArray), k ≤ 1 ∧ q.length = k ∧ i = .int .i64 k ∧ o = .string s ∧ Hid (s = ⟨([op, vb u] ++ q.flatten).toArray⟩) ∧ Hid (Bx w wr sv rv (upd m 2 u)) ∧ Hid (q.map some = (([a0] : List Fm).take k).map fun a => put So Ro a (upd m 2 u))) (fun _ i _ => 1 - (intOf i).toNat)
            case atStart => exact ⟨0, [], _, Nat.zero_le _, rfl, rfl, rfl, (cat_one (c := op) (t := [vb u])).trans (by simp), HX9.out, rfl⟩
            case round =>
              clear HX9
              obtain ⟨k, q, s, hk, hql, rfl, rfl, HSS, HX, HQQ⟩ := hrel
              have hlw : H < wr.heap.size := by have := hH.out; have := HX.out.b.size; omega
              obtain rfl | rfl : k = 0 ∨ k = 1 := by omega
              · have cx := HPE0.out wr _ HX.out
                obtain ⟨q0, q1, r0, r1, r2, r3⟩ := HX.out.c
                have rp := HX.out.p
                have rv_ := HX.out.v
                have HC := Lib.hid (IHa0.out (upd m 2 u) K0 wr HMM.out (HVS.out.below' HX.out.b) (HVR.out.below' HX.out.b) (HT0.out.below HX.out.b (Nat.le_refl _)))
                cases hp : put So Ro a0 (upd m 2 u) with
                | none =>
                  have HP := Lib.hid hp
                  have HE : Hid (put So Ro (.qu op 2 a0) m = none) := by unfold Hid put; rw [← HSS0.out, HF.out]; simp only; rw [HP.out]
                  clear hp
                  go_wp2_with fail
                  refine HC.out.mono ?_
                  rintro eo w1 ⟨rfl, hb⟩
                  rw [HP.out]
                  have HB9 : Hid (Below w.heap.size w w1) := HX.out.b.trans (hb.mono HX.out.b.size)
                  clear hb
                  go_wp2
                  go_ret2
                  exact put_no HE.out rfl rfl HB9.out
                | some x =>
                  have HP := Lib.hid hp
                  have hxl : x.length ≤ 16000000 := Nat.le_trans (put_len HLM.out.1 HLM.out.2.1 HLM.out.2.2 hp) HLa0.out
                  have hq0 : ([op, vb u] ++ q.flatten).length ≤ 16000010 := by rw [List.length_eq_zero_iff.1 hql]; simp
                  have cad := add_ok (P := Try.prog) (x := s) (y := optS (some x)) (by rw [HSS.out]; show ([op, vb u] ++ q.flatten).toArray.size ≤ _; rw [List.size_toArray]; omega) (by show x.toArray.size ≤ _; rw [List.size_toArray]; omega)
                  have HQ2 : Hid ((q ++ [x]).map some = (([a0] : List Fm).take (0 + 1)).map fun a => put So Ro a (upd m 2 u)) := by
                    rw [Hid, List.map_append, HQQ.out]
                    simp [hp]
                  have HT2 : Hid (s ++ optS (some x) = ⟨([op, vb u] ++ (q ++ [x]).flatten).toArray⟩) := by
                    rw [optS_some, Hid, HSS.out, cat_two, List.flatten_append, ← List.append_assoc]
                    simp
                  clear hp hxl hq0
                  go_wp2_with fail
                  refine HC.out.mono ?_
                  rintro eo w1 ⟨rfl, hb⟩
                  rw [HP.out]
                  have HX2 : Hid (Bx w w1 sv rv (upd m 2 u)) := HX.out.call hb
                  clear hb cx q0 q1 r0 r1 r2 r3 rp rv_ HX HC
                  obtain ⟨z, hz⟩ : ∃ z, z = optS (some x) := ⟨_, rfl⟩
                  rw [← hz] at cad HT2 ⊢
                  clear hz
                  go_wp2
                  go_roundw
                  case rel => first | exact ⟨0 + 1, q ++ [x], s ++ z, by decide, by simp [hql], by first | rfl | go_num, rfl, HT2, HX2, HQ2⟩ | ((repeat apply Exists.intro); exact ⟨⟨0 + 1, q ++ [x], s ++ z, by decide, by simp [hql], by first | rfl | go_num, rfl, HT2, HX2, HQ2⟩, rfl⟩)
                  case measure => simp [intOf]
              · have HE : Hid (put So Ro (.qu op 2 a0) m = some ([op, vb u] ++ q.flatten)) := by
                      match q, hql, HQQ with
                      | [x], _, HQQ =>
                        have h := HQQ.out
                        simp at h
                        unfold Hid put
                        rw [← HSS0.out, HF.out]
                        simp only
                        rw [← h]; simp
                have HB9 := Lib.hid HX.out.b
                go_wp2
                go_ret2
                exact put_ok HE.out HSS.out rfl HB9.out
end Go.Proofs.Ytefneihlgclkbaa.fmpi

/- Formulas in the program: put, some sorts. -/
namespace Go.Proofs.Ytefneihlgclkbaa.fmpj
set_option linter.unusedVariables false
set_option linter.unusedSimpArgs false
open Go.ChangeShapes Go.WideShapes Go.ChangeAt Go.RowKit
open Go.Proofs.Ytefneihlgclkbaa.lib Go.Proofs.Ytefneihlgclkbaa.fm Go.Proofs.Ytefneihlgclkbaa.fmt Go.Proofs.Ytefneihlgclkbaa.fmu Go.Proofs.Ytefneihlgclkbaa.fme Go.Proofs.Ytefneihlgclkbaa.fmx Go.Proofs.Ytefneihlgclkbaa.fmj Go.Proofs.Ytefneihlgclkbaa.fmv
open Go.Proofs.Ytefneihlgclkbaa.fmo

open Go.Proofs.Ytefneihlgclkbaa.fmqu
set_option maxHeartbeats 6400000 in
set_option maxRecDepth 100000 in
theorem pt_qu3 (So Ro : Option Fm) (M : Nat) (hM : 1 ≤ M ∧ M ≤ 4000) (hS : So = none ∨ ∃ s, So = some s ∧ s.ok ∧ s.free >>> 1 = 0 ∧ s.txt.length ≤ M ∧ ∀ (Hs v : Nat) (w : World), v < 4 → Tree 49 w s Hs → Calls Try.prog 29 #[.agg #[.pointer none, .pointer none], .pointer (some ⟨Hs, 0, none⟩), .agg #[.int .u8 (97 + (v : Nat) : Int), .int .u8 98, .int .u8 99, .int .u8 100]] w (PutQ w (put0 s (map1 v)))) (hR : Ro = none ∨ ∃ s, Ro = some s ∧ s.ok ∧ s.free >>> 2 = 0 ∧ s.txt.length ≤ M ∧ ∀ (Hs v u : Nat) (w : World), v < 4 → u < 4 → Tree 49 w s Hs → Calls Try.prog 29 #[.agg #[.pointer none, .pointer none], .pointer (some ⟨Hs, 0, none⟩), .agg #[.int .u8 (97 + (v : Nat) : Int), .int .u8 (97 + (u : Nat) : Int), .int .u8 99, .int .u8 100]] w (PutQ w (put0 s (map2 v u)))) (sv rv : Value) (m : Nat → Nat) (H : Nat) (w : World) (hm : ∀ x, x < 4 → m x < 4) (vs : VT w sv So) (vr : VT w rv Ro) (op : UInt8) (a0 : Fm) (hla : M * (Fm.qu op 3 a0).txt.length ≤ 16000000) (hok : (Fm.qu op 3 a0).ok) (iha0 : M * a0.txt.length ≤ 16000000 → a0.ok → ∀ (m : Nat → Nat) (H : Nat) (w : World), (∀ x, x < 4 → m x < 4) → VT w sv So → VT w rv Ro → Tree 49 w a0 H → Calls Try.prog 29 #[.agg #[sv, rv], .pointer (some ⟨H, 0, none⟩), .agg #[.int .u8 (97 + (m 0 : Nat) : Int), .int .u8 (97 + (m 1 : Nat) : Int), .int .u8 (97 + (m 2 : Nat) : Int), .int .u8 (97 + (m 3 : Nat) : Int)]] w (PutQ w (put So Ro a0 m))) (ht : Tree 49 w (.qu op 3 a0) H) :
    Calls Try.prog 29 #[.agg #[sv, rv], .pointer (some ⟨H, 0, none⟩), .agg #[.int .u8 (97 + (m 0 : Nat) : Int), .int .u8 (97 + (m 1 : Nat) : Int), .int .u8 (97 + (m 2 : Nat) : Int), .int .u8 (97 + (m 3 : Nat) : Int)]] w (PutQ w (put So Ro (.qu op 3 a0) m)) := by
  obtain ⟨K0, ht0, hnode⟩ := ht
  have hok : sort op = .qu ∧ 3 < 4 ∧ a0.ok := hok
  have hla0 : M * a0.txt.length ≤ 16000000 := Nat.le_trans (Nat.mul_le_mul_left _ (by simp [Fm.txt]; omega)) hla
  have hnode : fmt.Node 49 w H op [3] [K0] (a0.free &&& (15 ^^^ 1 <<< 3)) (1 <<< 3 ||| Fm.all a0) := hnode
  have HSORT := hok.1
  have h3 : 3 < 4 := by decide
  have IHa0 := Lib.hid (iha0 hla0 hok.2.2)
  have HLa0 := Lib.hid hla0
  have HT0 := Lib.hid ht0
  have HS16 := Lib.hid (Fm.free_lt hok.2.2)
  obtain ⟨S, hS0⟩ : ∃ S, S = a0.free := ⟨_, rfl⟩
  have HSS0 := Lib.hid hS0
  rw [← hS0] at HS16
  clear hS0
  have HVS := Lib.hid vs
  have HVR := Lib.hid vr
  have HLM : Hid (1 ≤ M ∧ (∀ s, So = some s → s.txt.length ≤ M) ∧ ∀ s, Ro = some s → s.txt.length ≤ M) := by
    refine ⟨hM.1, fun s hs => ?_, fun s hs => ?_⟩
    · obtain ⟨s2, he, _, _, h3, _⟩ := hS.resolve_left (by rw [hs]; simp)
      rw [hs] at he; cases he; exact h3
    · obtain ⟨s2, he, _, _, h3, _⟩ := hR.resolve_left (by rw [hs]; simp)
      rw [hs] at he; cases he; exact h3
  obtain ⟨W2, hW2⟩ : ∃ QZ, QZ = ((w.alloc (.cells #[sv, rv] 60)).alloc (.cells #[.int .u8 (97 + (m 0 : Nat) : Int), .int .u8 (97 + (m 1 : Nat) : Int), .int .u8 (97 + (m 2 : Nat) : Int), .int .u8 (97 + (m 3 : Nat) : Int)] 62)).alloc (.cells #[] 5) := ⟨_, rfl⟩
  have HX0 : Hid (Bx w W2 sv rv m) := by rw [hW2]; exact (Bx.new w sv rv m).call ((Below.refl _ _).alloc (Nat.le_refl _) _)
  have HO0 : Hid (W2.ownsRow (w.heap.size + 2) 5 1 (.slice (some ⟨w.heap.size + 1 + 1, 0, none⟩) 0 0) 0 (nb [])) := by rw [hW2, Hid]; have h := own_new (w := ((w.alloc (.cells #[sv, rv] 60)).alloc (.cells #[.int .u8 (97 + (m 0 : Nat) : Int), .int .u8 (97 + (m 1 : Nat) : Int), .int .u8 (97 + (m 2 : Nat) : Int), .int .u8 (97 + (m 3 : Nat) : Int)] 62))) (C := w.heap.size + 2) (by simp); simpa using h
  have HN : Hid (fmt.Node 49 w H op [3] [K0] (a0.free &&& (15 ^^^ 1 <<< 3)) (1 <<< 3 ||| Fm.all a0)) := hnode
  have HN2 : Hid (fmt.Node 49 W2 H op [3] [K0] (a0.free &&& (15 ^^^ 1 <<< 3)) (1 <<< 3 ||| Fm.all a0)) := hnode.below HX0.out.b (Nat.le_refl _)
  obtain ⟨vv, pv, hvv, hpv, c0, c1, c2, c3, c4⟩ := HN2.out.cells
  obtain ⟨va, vc, rfl⟩ := rv_len hvv
  obtain ⟨pa, pc, rfl⟩ := rv_len hpv
  have hH := Lib.hid HN.out.lt
  simp only [List.map_nil, List.map_cons, List.length_nil, List.length_cons, Nat.zero_add, Nat.reduceAdd] at c1 c2 hvv hpv
  obtain ⟨vb_, vo, rfl, ce0⟩ := rv_cell hvv rfl (k := 0) (by simp)
  have hvb := World.block_lt_of_cell? _ _ ce0
  obtain ⟨pb, po, rfl, cp0⟩ := rv_cell hpv rfl (k := 0) (by simp)
  have HCN : Hid (∀ wr {m : Nat → Nat}, Bx w wr sv rv m → wr.cell? ⟨H, 0, none⟩ = some (.int .u8 (op.toNat : Int)) ∧ wr.cell? ⟨H, 1, none⟩ = some (.slice (some ⟨vb_, vo, none⟩) 1 vc) ∧ wr.cell? ⟨H, 2, none⟩ = some (.slice (some ⟨pb, po, none⟩) 1 pc) ∧ True ∧ True) := fun wr _ hx => by
    have e : ∀ j, wr.cell? ⟨H, j, none⟩ = w.cell? ⟨H, j, none⟩ := fun j => hx.b.cell (p := ⟨H, j, none⟩) hH.out
    have e2 : ∀ j, W2.cell? ⟨H, j, none⟩ = w.cell? ⟨H, j, none⟩ := fun j => HX0.out.b.cell (p := ⟨H, j, none⟩) hH.out
    exact ⟨(e 0).trans ((e2 0).symm.trans c0), (e 1).trans ((e2 1).symm.trans c1), (e 2).trans ((e2 2).symm.trans c2), trivial, trivial⟩
  have HCE0 : Hid (∀ wr, Bx w wr sv rv m → wr.cell? ⟨vb_, vo, none⟩ = some (.int .u8 100)) := fun wr hx => by
    have hvb0 : vb_ < w.heap.size := by
      obtain ⟨vv0, _, hv0, _, _, c10, _⟩ := HN.out.cells
      have e : W2.cell? ⟨H, 1, none⟩ = w.cell? ⟨H, 1, none⟩ := HX0.out.b.cell (p := ⟨H, 1, none⟩) hH.out
      rw [c1, c10] at e
      obtain ⟨b9, o9, he9, h9⟩ := rv_cell hv0 (Option.some.inj e).symm (k := 0) (by simp)
      simp only [Option.some.injEq, Addr.mk.injEq] at he9
      rw [he9.1]
      exact World.block_lt_of_cell? _ _ h9
    have e : wr.cell? ⟨vb_, vo, none⟩ = w.cell? ⟨vb_, vo, none⟩ := hx.b.cell (p := ⟨vb_, vo, none⟩) hvb0
    have e2 : W2.cell? ⟨vb_, vo, none⟩ = w.cell? ⟨vb_, vo, none⟩ := HX0.out.b.cell (p := ⟨vb_, vo, none⟩) hvb0
    rw [e, ← e2]
    exact ce0
  have HPE0 : Hid (∀ wr (mm : Nat → Nat), Bx w wr sv rv mm → wr.cell? ⟨pb, po, none⟩ = some (.pointer (some ⟨K0, 0, none⟩))) := fun wr mm hx => by
    have hpb0 : pb < w.heap.size := by
      obtain ⟨_, pv0, _, hv0, _, _, c20, _⟩ := HN.out.cells
      have e : W2.cell? ⟨H, 2, none⟩ = w.cell? ⟨H, 2, none⟩ := HX0.out.b.cell (p := ⟨H, 2, none⟩) hH.out
      rw [c2, c20] at e
      obtain ⟨b9, o9, he9, h9⟩ := rv_cell hv0 (Option.some.inj e).symm (k := 0) (by simp)
      simp only [Option.some.injEq, Addr.mk.injEq] at he9
      rw [he9.1]
      exact World.block_lt_of_cell? _ _ h9
    have e : wr.cell? ⟨pb, po, none⟩ = w.cell? ⟨pb, po, none⟩ := hx.b.cell (p := ⟨pb, po, none⟩) hpb0
    have e2 : W2.cell? ⟨pb, po, none⟩ = w.cell? ⟨pb, po, none⟩ := HX0.out.b.cell (p := ⟨pb, po, none⟩) hpb0
    rw [e, ← e2]
    exact cp0
  have HM := Lib.hid hm
  have HND := HN
  have e80 := not80 (c := op) (by rw [HSORT]; decide)
  have e69 := not69 (c := op) (by rw [HSORT]; decide)
  have HQ : Hid (isQ op.toNat = true) := by rw [isq_sort, HSORT]; rfl
  clear HSORT hnode hok hla hla0 hvv hpv hm hM hS hR vs vr iha0 ht0 cp0 ce0 hvb
  rw [hW2] at c0 c1 c2 c3 c4
  go_enter Try.func29, Try.ntmps29
  go_wp2_with fail
  rw [← hW2] at c0 c1 c2 c3 c4 ⊢
  clear hW2
  go_loopw [8, 27] (fun nv i wr => ∃ (k g cap : Nat), k ≤ 1 ∧ i = .int .i64 k ∧ nv = .slice (some ⟨g, 0, none⟩) k cap ∧ Hid (wr.ownsRow (w.heap.size + 2) 5 1 (.slice (some ⟨g, 0, none⟩) k cap) k (nb (([m 3] : List Nat).take k))) ∧ Hid (Bx w wr sv rv m)) (fun _ i _ => 1 - (intOf i).toNat)
  case atStart => exact ⟨0, _, _, Nat.zero_le _, rfl, rfl, HO0.out, HX0.out⟩
  case round =>
    clear HO0 HX0 c0 c1 c2 c3 c4
    obtain ⟨k, g, cap, hk, rfl, rfl, HO, HX⟩ := hrel
    have hgl := HO.out.lt g rfl
    obtain rfl | rfl : k = 0 ∨ k = 1 := by omega
    · have cx := HCE0.out wr HX.out
      have cy := HX.out.at h3
      have s1 := u8_sub h3
      have s2 := u8_wrap h3
      have l1 : (3 : Int) < 4 := by omega
      have HZ : Hid (0 + 1 ≤ 4398046511104 ∧ w.heap.size + 2 ≤ wr.heap.size) := ⟨by decide, HX.out.size⟩
      clear hgl
      go_wp2_with (at_builtin; refine wpList_app1 wr rfl (.tmp 31) (.tmp 36) 46 rfl (w.heap.size + 2) 5 (.int .u8 0) 1 Try.underlying46 infoB rfl (by decide) _ _ _ (.int .u8 (97 + (m 3 : Nat) : Int)) rfl HO.out wr.heap.size rfl rfl rfl HZ.out.1 HZ.out.2 ?_)
      intro g2 cap2 w1 hown hgr
      have HX2 : Hid (Bx w w1 sv rv m) := HX.out.on (hgr.below HO.out HZ.out.2)
      have HO2 := Lib.hid hown
      clear hown hgr cx cy
      go_wp2
      go_roundw
      case rel => exact ⟨1, g2, cap2, by decide, by first | rfl | go_num, rfl, HO2.out, HX2.out⟩
      case measure => simp [intOf]
    · have hlw : H < wr.heap.size := by have := hH.out; have := HX.out.b.size; omega
      clear hgl
      obtain ⟨c0, c1, c2, c3, c4⟩ := HCN.out wr HX.out
      have cx := HCE0.out wr HX.out
      obtain ⟨W7, hW7⟩ : ∃ QZ, QZ = wr.alloc (.cells #[.bool false, .bool false, .bool false, .bool false] 67) := ⟨_, rfl⟩
      have HTK0 : Hid (Tk W7 wr.heap.size S 3 m 0 ∧ Bx w W7 sv rv m) := by
        rw [hW7]
        exact ⟨heap_alloc_new wr _, HX.out.call ((Below.refl _ _).alloc (Nat.le_refl _) _)⟩
      go_wp2_with fail
      refine Calls.mono (isQuantifier_any 49 H op [3] [K0] (a0.free &&& (15 ^^^ 1 <<< 3)) (1 <<< 3 ||| Fm.all a0) wr (HND.out.below HX.out.b (Nat.le_refl _))) ?_
      rintro eo w1 ⟨rfl, rfl⟩
      rw [HQ.out]
      go_wp2_with fail
      rw [← hW7]
      obtain ⟨B, hB⟩ : ∃ B, B = wr.heap.size := ⟨_, rfl⟩
      have HBB : Hid (w.heap.size + 2 ≤ B) := by rw [hB]; exact HX.out.size
      rw [← hB] at HTK0 ⊢
      clear hB hW7 HX c0 c1 c2 c3 c4 cx hlw HO
      go_loopw [93] (fun i wx => ∃ k : Nat, k ≤ 4 ∧ i = .int .i64 k ∧ Hid (Tk wx B S 3 m k ∧ Bx w wx sv rv m)) (fun i _ => 4 - (intOf i).toNat)
      case atStart => exact ⟨0, Nat.zero_le _, rfl, HTK0.out⟩
      case round =>
        clear HTK0
        obtain ⟨k, hk, rfl, HTX⟩ := hrel
        have hlw : H < wr.heap.size := by have := hH.out; have := HTX.out.2.b.size; omega
        obtain ⟨c0, c1, c2, c3, c4⟩ := HCN.out wr HTX.out.2
        have cx := HPE0.out wr _ HTX.out.2
        have cf := (part_free (HT0.out.below HTX.out.2.b (Nat.le_refl _))).1
        rw [← HSS0.out] at cf
        obtain rfl | rfl | rfl | rfl | rfl : k = 0 ∨ k = 1 ∨ k = 2 ∨ k = 3 ∨ k = 4 := by omega
        · have hbi := fmi.b_in_0 HS16.out
          cases hin : inS S 0 with
          | false =>
            rw [hin] at hbi
            have HT2 : Hid (Tk wr B S 3 m 1 ∧ Bx w wr sv rv m) := ⟨HTX.out.1.same (by rw [hin]; rfl), HTX.out.2⟩
            clear hin

            go_wp2
            go_roundw
            case rel => exact ⟨1, by omega, rfl, HT2⟩
            case measure => simp [intOf]
          | true =>
            rw [hin] at hbi
            have hmk := HM.out 0 (by decide)
            have l1 : (m 0 : Int) < 4 := by omega
            have s1 := u8_sub hmk
            have s2 := u8_wrap hmk
            have cy := HTX.out.2.at (v := 0) (by decide)
            have cz := HTX.out.1.c (m 0) hmk
            have fz := HTX.out.1.free (m 0)
            have HT2 : Hid (Tk (wr.setCell ⟨B, m 0, none⟩ (.bool true)) B S 3 m 1 ∧ Bx w (wr.setCell ⟨B, m 0, none⟩ (.bool true)) sv rv m) := ⟨HTX.out.1.set (by rw [hin]; rfl) hmk, HTX.out.2.on ((Below.refl _ _).setCell (p := ⟨B, m 0, none⟩) (by have := HBB.out; exact this) _)⟩
            clear hin

            go_wp2
            go_roundw
            case rel => exact ⟨1, by omega, rfl, HT2⟩
            case measure => simp [intOf]
        · have hbi := fmi.b_in_1 HS16.out
          cases hin : inS S 1 with
          | false =>
            rw [hin] at hbi
            have HT2 : Hid (Tk wr B S 3 m 2 ∧ Bx w wr sv rv m) := ⟨HTX.out.1.same (by rw [hin]; rfl), HTX.out.2⟩
            clear hin

            go_wp2
            go_roundw
            case rel => exact ⟨2, by omega, rfl, HT2⟩
            case measure => simp [intOf]
          | true =>
            rw [hin] at hbi
            have hmk := HM.out 1 (by decide)
            have l1 : (m 1 : Int) < 4 := by omega
            have s1 := u8_sub hmk
            have s2 := u8_wrap hmk
            have cy := HTX.out.2.at (v := 1) (by decide)
            have cz := HTX.out.1.c (m 1) hmk
            have fz := HTX.out.1.free (m 1)
            have HT2 : Hid (Tk (wr.setCell ⟨B, m 1, none⟩ (.bool true)) B S 3 m 2 ∧ Bx w (wr.setCell ⟨B, m 1, none⟩ (.bool true)) sv rv m) := ⟨HTX.out.1.set (by rw [hin]; rfl) hmk, HTX.out.2.on ((Below.refl _ _).setCell (p := ⟨B, m 1, none⟩) (by have := HBB.out; exact this) _)⟩
            clear hin

            go_wp2
            go_roundw
            case rel => exact ⟨2, by omega, rfl, HT2⟩
            case measure => simp [intOf]
        · have hbi := fmi.b_in_2 HS16.out
          cases hin : inS S 2 with
          | false =>
            rw [hin] at hbi
            have HT2 : Hid (Tk wr B S 3 m 3 ∧ Bx w wr sv rv m) := ⟨HTX.out.1.same (by rw [hin]; rfl), HTX.out.2⟩
            clear hin

            go_wp2
            go_roundw
            case rel => exact ⟨3, by omega, rfl, HT2⟩
            case measure => simp [intOf]
          | true =>
            rw [hin] at hbi
            have hmk := HM.out 2 (by decide)
            have l1 : (m 2 : Int) < 4 := by omega
            have s1 := u8_sub hmk
            have s2 := u8_wrap hmk
            have cy := HTX.out.2.at (v := 2) (by decide)
            have cz := HTX.out.1.c (m 2) hmk
            have fz := HTX.out.1.free (m 2)
            have HT2 : Hid (Tk (wr.setCell ⟨B, m 2, none⟩ (.bool true)) B S 3 m 3 ∧ Bx w (wr.setCell ⟨B, m 2, none⟩ (.bool true)) sv rv m) := ⟨HTX.out.1.set (by rw [hin]; rfl) hmk, HTX.out.2.on ((Below.refl _ _).setCell (p := ⟨B, m 2, none⟩) (by have := HBB.out; exact this) _)⟩
            clear hin

            go_wp2
            go_roundw
            case rel => exact ⟨3, by omega, rfl, HT2⟩
            case measure => simp [intOf]
        · have hbi := fmi.b_in_3 HS16.out
          cases hin : inS S 3 with
          | false =>
            rw [hin] at hbi
            have HT2 : Hid (Tk wr B S 3 m 4 ∧ Bx w wr sv rv m) := ⟨HTX.out.1.same (by rw [hin]; rfl), HTX.out.2⟩
            clear hin

            go_wp2
            go_roundw
            case rel => exact ⟨4, by omega, rfl, HT2⟩
            case measure => simp [intOf]
          | true =>
            rw [hin] at hbi
            have HT2 : Hid (Tk wr B S 3 m 4 ∧ Bx w wr sv rv m) := ⟨HTX.out.1.same (by rw [hin]; rfl), HTX.out.2⟩
            clear hin

            go_wp2
            go_roundw
            case rel => exact ⟨4, by omega, rfl, HT2⟩
            case measure => simp [intOf]
        · have cz := HTX.out.1.c 3 (by decide)
          have HCI := Lib.hid (HTX.out.1.c)
          have HXX := Lib.hid HTX.out.2
          have HFR := Lib.hid (fun h => fresh_idx (v := 3) HS16.out (by decide) HM.out h)
          have HFS := Lib.hid (fun h => fresh_same (v := 3) HS16.out (by decide) HM.out h)
          clear cx cf
          go_upto_if 126 with (fail)
          go_cut [6, 7, 14, 15] from 122 to 133 (fun _ _ c _ wx => ∃ u : Nat, u < 4 ∧ c = .int .u8 (97 + (u : Nat) : Int) ∧ Hid (fresh 3 S m = some u) ∧ wx = wr)
          case first =>
            cases ht : tk S 3 m 4 3 with
            | false =>
              have HF := Lib.hid (HFS.out ht)
              clear ht cz
              go_wp2
              go_meet
              exact ⟨3, by decide, rfl, HF, rfl⟩
            | true =>
              have HF := Lib.hid (HFR.out ht)
              clear ht cz
              go_wp2_with fail
              refine (fmv.index_any B 4 (tk S 3 m 4) _ HCI.out).mono ?_
              rintro eo w1 ⟨rfl, rfl⟩
              cases hi : idx (tk S 3 m 4) with
              | none =>
                have HE : Hid (put So Ro (.qu op 3 a0) m = none) := by
                  unfold Hid put
                  rw [← HSS0.out, HF.out, hi]
                clear hi
                have HB9 := Lib.hid HXX.out.b
                go_wp2
                go_ret2
                exact put_no HE.out rfl rfl HB9.out
              | some u =>
                have hu := idx_lt hi
                have HI := Lib.hid hi
                clear hi
                rw [show frI (some u) = (u : Int) from rfl]
                obtain rfl | rfl | rfl | rfl : u = 0 ∨ u = 1 ∨ u = 2 ∨ u = 3 := by omega
                all_goals
                  go_wp2
                  go_meet
                  exact ⟨_, hu, rfl, by have h := HF.out; rw [HI.out] at h; exact h, rfl⟩
          case rest =>
            obtain ⟨u, hu, rfl, HF, hwc⟩ := hcut
            rw [hwc]
            clear hwc
            clear HFR HFS HCI cz c0 c1 c2 c3 c4 hlw
            have l1 : (u : Int) < 4 := by omega
            have cw := HXX.out.at (v := 3) (by decide)
            have fw := HXX.out.free 3
            obtain ⟨W8, hW8⟩ : ∃ QZ, QZ = wr.setCell ⟨w.heap.size + 1, 3, none⟩ (.int .u8 (97 + (u : Nat) : Int)) := ⟨_, rfl⟩
            have HX8 : Hid (Bx w W8 sv rv (upd m 3 u)) := by rw [hW8]; exact HXX.out.set (v := 3) (by decide)
            go_upto_region 27 with (fail)
            rw [← hW8]
            clear hW8 HXX cw fw HTX
            obtain ⟨W9, hW9⟩ : ∃ QZ, QZ = W8.alloc (.cells #[.int .u8 (97 + (u : Nat) : Int)] 5) := ⟨_, rfl⟩
            have HX9' : Hid (Bx w W9 sv rv (upd m 3 u) ∧ W9.cell? ⟨W8.heap.size, 0, none⟩ = some (.int .u8 (97 + (u : Nat) : Int)) ∧ W8.heap.size < W9.heap.size) := by
              rw [hW9]
              exact ⟨HX8.out.call ((Below.refl _ _).alloc (Nat.le_refl _) _), World.cell?_alloc_mark _ _ _ _ _, by simp⟩
            go_upto_region 28 with (fail)
            rw [← hW9]
            clear hW9 HX8
            obtain ⟨g9, hg9⟩ : ∃ g9, g9 = W8.heap.size := ⟨_, rfl⟩
            rw [← hg9] at HX9' ⊢
            clear hg9
            obtain ⟨cn0, hgw⟩ := HX9'.out.2
            have ca : ∀ W : World, W.cell? ⟨W9.heap.size, 0, none⟩ = some (.int .u8 (op.toNat : Int)) → (convert 46 9 (.slice (some ⟨W9.heap.size, 0, none⟩) 1 1)).run Try.prog W = .ok (.string ⟨#[op]⟩) W := fun W h => to_text1 _ _ op _ rfl W h
            have cb : ∀ W : World, W.cell? ⟨g9, 0, none⟩ = some (.int .u8 (97 + (u : Nat) : Int)) → (convert 46 9 (.slice (some ⟨g9, 0, none⟩) 1 1)).run Try.prog W = .ok (.string ⟨#[vb u]⟩) W := fun W h => to_text1 _ _ _ _ (vb_int hu) W h
            have cad := add_ok (P := Try.prog) (x := ⟨#[op]⟩) (y := ⟨#[vb u]⟩) (by show 1 ≤ 32000000; decide) (by show 1 ≤ 32000000; decide)
            have hlw : H < W9.heap.size := by have := hH.out; have := HX9'.out.1.b.size; omega
            obtain ⟨c0, c1, c2, c3, c4⟩ := HCN.out W9 HX9'.out.1
            have HMM : Hid (∀ x, x < 4 → upd m 3 u x < 4) := fun x hx => by
              unfold upd
              split
              · exact hu
              · exact HM.out x hx
            have HX9 : Hid (Bx w (W9.alloc (.cells #[.int .u8 (op.toNat : Int)] 5)).drew sv rv (upd m 3 u)) := HX9'.out.1.call ((Below.refl _ _).alloc (Nat.le_refl _) _).drew
            go_region
            go_wp2_with fail
            obtain ⟨w9, hw9⟩ : ∃ QZ, QZ = (W9.alloc (.cells #[.int .u8 (op.toNat : Int)] 5)).drew := ⟨_, rfl⟩
            rw [← hw9] at HX9 ⊢
            clear hw9 c0 c1 c2 c3 c4 HX9' cn0
            go_loopw [16, 154] (fun o i wr => ∃ (k : Nat) (q : List (List UInt8)) (s : ByteArray), k ≤ 1 ∧ q.length = k ∧ i = .int .i64 k ∧ o = .string s ∧ Hid (s = ⟨([op, vb u] ++ q.flatten).toArray⟩) ∧ Hid (Bx w wr sv rv (upd m 3 u)) ∧ Hid (q.map some = (([a0] : List Fm).take k).map fun a => put So Ro a (upd m 3 u))) (fun _ i _ => 1 - (intOf i).toNat)
            case atStart => exact ⟨0, [], _, Nat.zero_le _, rfl, rfl, rfl, (cat_one (c := op) (t := [vb u])).trans (by simp), HX9.out, rfl⟩
            case round =>
              clear HX9
              obtain ⟨k, q, s, hk, hql, rfl, rfl, HSS, HX, HQQ⟩ := hrel
              have hlw : H < wr.heap.size := by have := hH.out; have := HX.out.b.size; omega
              obtain rfl | rfl : k = 0 ∨ k = 1 := by omega
              · have cx := HPE0.out wr _ HX.out
                obtain ⟨q0, q1, r0, r1, r2, r3⟩ := HX.out.c
                have rp := HX.out.p
                have rv_ := HX.out.v
                have HC := Lib.hid (IHa0.out (upd m 3 u) K0 wr HMM.out (HVS.out.below' HX.out.b) (HVR.out.below' HX.out.b) (HT0.out.below HX.out.b (Nat.le_refl _)))
                cases hp : put So Ro a0 (upd m 3 u) with
                | none =>
                  have HP := Lib.hid hp
                  have HE : Hid (put So Ro (.qu op 3 a0) m = none) := by unfold Hid put; rw [← HSS0.out, HF.out]; simp only; rw [HP.out]
                  clear hp
                  go_wp2_with fail
                  refine HC.out.mono ?_
                  rintro eo w1 ⟨rfl, hb⟩
                  rw [HP.out]
                  have HB9 : Hid (Below w.heap.size w w1) := HX.out.b.trans (hb.mono HX.out.b.size)
                  clear hb
                  go_wp2
                  go_ret2
                  exact put_no HE.out rfl rfl HB9.out
                | some x =>
                  have HP := Lib.hid hp
                  have hxl : x.length ≤ 16000000 := Nat.le_trans (put_len HLM.out.1 HLM.out.2.1 HLM.out.2.2 hp) HLa0.out
                  have hq0 : ([op, vb u] ++ q.flatten).length ≤ 16000010 := by rw [List.length_eq_zero_iff.1 hql]; simp
                  have cad := add_ok (P := Try.prog) (x := s) (y := optS (some x)) (by rw [HSS.out]; show ([op, vb u] ++ q.flatten).toArray.size ≤ _; rw [List.size_toArray]; omega) (by show x.toArray.size ≤ _; rw [List.size_toArray]; omega)
                  have HQ2 : Hid ((q ++ [x]).map some = (([a0] : List Fm).take (0 + 1)).map fun a => put So Ro a (upd m 3 u)) := by
                    rw [Hid, List.map_append, HQQ.out]
                    simp [hp]
                  have HT2 : Hid (s ++ optS (some x) = ⟨([op, vb u] ++ (q ++ [x]).flatten).toArray⟩) := by
                    rw [optS_some, Hid, HSS.out, cat_two, List.flatten_append, ← List.append_assoc]
                    simp
                  clear hp hxl hq0
                  go_wp2_with fail
                  refine HC.out.mono ?_
                  rintro eo w1 ⟨rfl, hb⟩
                  rw [HP.out]
                  have HX2 : Hid (Bx w w1 sv rv (upd m 3 u)) := HX.out.call hb
                  clear hb cx q0 q1 r0 r1 r2 r3 rp rv_ HX HC
                  obtain ⟨z, hz⟩ : ∃ z, z = optS (some x) := ⟨_, rfl⟩
                  rw [← hz] at cad HT2 ⊢
                  clear hz
                  go_wp2
                  go_roundw
                  case rel => first | exact ⟨0 + 1, q ++ [x], s ++ z, by decide, by simp [hql], by first | rfl | go_num, rfl, HT2, HX2, HQ2⟩ | ((repeat apply Exists.intro); exact ⟨⟨0 + 1, q ++ [x], s ++ z, by decide, by simp [hql], by first | rfl | go_num, rfl, HT2, HX2, HQ2⟩, rfl⟩)
                  case measure => simp [intOf]
              · have HE : Hid (put So Ro (.qu op 3 a0) m = some ([op, vb u] ++ q.flatten)) := by
                      match q, hql, HQQ with
                      | [x], _, HQQ =>
                        have h := HQQ.out
                        simp at h
                        unfold Hid put
                        rw [← HSS0.out, HF.out]
                        simp only
                        rw [← h]; simp
                have HB9 := Lib.hid HX.out.b
                go_wp2
                go_ret2
                exact put_ok HE.out HSS.out rfl HB9.out
end Go.Proofs.Ytefneihlgclkbaa.fmpj
