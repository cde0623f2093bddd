/- Formulas in the program: relativized, Relativize. -/
import Derived.Test.YtefneihlgclkbaaFmVj
import Derived.Laws.BytesArg
namespace Go.Proofs.Ytefneihlgclkbaa.fmrl
set_option linter.unusedVariables false
set_option linter.unusedSimpArgs false
open Go.ChangeShapes Go.WideShapes Go.ChangeAt Go.RowKit
open Go.Proofs.Ytefneihlgclkbaa.lib Go.Proofs.Ytefneihlgclkbaa.fm Go.Proofs.Ytefneihlgclkbaa.fmp Go.Proofs.Ytefneihlgclkbaa.fmq Go.Proofs.Ytefneihlgclkbaa.fmt Go.Proofs.Ytefneihlgclkbaa.fmu Go.Proofs.Ytefneihlgclkbaa.fme Go.Proofs.Ytefneihlgclkbaa.fmx Go.Proofs.Ytefneihlgclkbaa.fmo Go.Proofs.Ytefneihlgclkbaa.fmpz Go.Proofs.Ytefneihlgclkbaa.fmzz Go.Proofs.Ytefneihlgclkbaa.fml Go.Proofs.Ytefneihlgclkbaa.fmvs Go.Proofs.Ytefneihlgclkbaa.fmvi Go.Proofs.Ytefneihlgclkbaa.fmvj

/-- a slice of letters as a text, wherever it lies -/
theorem letters {w : World} {v : Value} {us : List Nat} (h : RV w v (us.map fun v => .int .u8 (vb v).toNat)) :
    ∃ ao cap, v = .slice ao us.length cap ∧ (us = [] ∨ ∃ b off, ao = some ⟨b, off, none⟩ ∧ b < w.heap.size ∧ ∀ j (hj : j < us.length), w.cell? ⟨b, off + j, none⟩ = some (.int .u8 ((vb us[j]).toNat : Nat))) := by
  obtain ⟨ao, cap, hv, hc⟩ := h
  rw [List.length_map] at hv
  refine ⟨ao, cap, hv, ?_⟩
  rcases hc with hc | ⟨b, off, ha, hc⟩
  · exact .inl (List.map_eq_nil_iff.1 hc)
  · cases us with
    | nil => exact .inl rfl
    | cons u us =>
      have h0 := hc 0 (by simp)
      exact .inr ⟨b, off, ha, World.block_lt_of_cell? w ⟨b, off + 0, none⟩ h0, fun j hj => by have := hc j (by simpa using hj); rw [List.getElem_map] at this; exact this⟩
theorem nil_text (ao : Option Addr) (cap : Nat) (W : World) : (convert 46 9 (.slice ao 0 cap)).run Try.prog W = .ok (.string ⟨#[]⟩) W := by
  cases ao with
  | none => exact run_convert_bytes_nil (w := W) 46 5 Try.underlying46 Try.underlying5 0 cap 9 Try.underlying9
  | some a => exact run_convert_bytes_back W 46 9 5 a cap [] Try.underlying46 Try.underlying5 Try.underlying9 (fun j hj => by cases hj)
theorem one_text (b off cap : Nat) (c : UInt8) (W : World) (h : W.cell? ⟨b, off, none⟩ = some (.int .u8 (c.toNat : Int))) : (convert 46 9 (.slice (some ⟨b, off, none⟩) 1 cap)).run Try.prog W = .ok (.string ⟨#[c]⟩) W :=
  run_convert_bytes_back W 46 9 5 ⟨b, off, none⟩ cap [c] Try.underlying46 Try.underlying5 Try.underlying9 (fun j hj => by
    have : j = 0 := by simpa using hj
    subst this
    simpa [Addr.add] using h)
theorem two_text (b off cap : Nat) (c d : UInt8) (W : World) (h : W.cell? ⟨b, off, none⟩ = some (.int .u8 (c.toNat : Int))) (h2 : W.cell? ⟨b, off + 1, none⟩ = some (.int .u8 (d.toNat : Int))) : (convert 46 9 (.slice (some ⟨b, off, none⟩) 2 cap)).run Try.prog W = .ok (.string ⟨#[c, d]⟩) W :=
  run_convert_bytes_back W 46 9 5 ⟨b, off, none⟩ cap [c, d] Try.underlying46 Try.underlying5 Try.underlying9 (fun j hj => by
    obtain rfl | rfl : j = 0 ∨ j = 1 := by simp at hj; omega
    · simpa [Addr.add] using h
    · simpa [Addr.add] using h2)
theorem wi_no (f a : Fm) : wi f (.no a) = match wi f a with | some x => some (33 :: x) | none => none := rfl
theorem wi_two (f : Fm) (o : UInt8) (a b : Fm) : wi f (.two o a b) = match wi f a, wi f b with | some x, some y => some (o :: (x ++ y)) | _, _ => none := rfl
theorem wi_qu (f : Fm) (o : UInt8) (v : Nat) (a : Fm) : wi f (.qu o v a) = match wi f a, put0 f (map1 v) with | some x, some y => some (o :: vb v :: ((if o = 65 then [124, 33] else [38]) ++ y ++ x)) | _, _ => none := rfl
set_option maxHeartbeats 3200000 in
set_option maxRecDepth 100000 in
theorem rl_tf (s : Fm) (HF : Nat) (w : World) (hs : Ok w s HF) (fs : s.free >>> 1 = 0) (H : Nat) (op : UInt8) (hop : sort op = .tf) (hnode : Tree 49 w (.tf op) H) :
    Calls Try.prog 21 #[.pointer (some ⟨H, 0, none⟩), .pointer (some ⟨HF, 0, none⟩)] w (PutQ w (wi s (.tf op))) := by
  have hnode : fmt.Node 49 w H op [] [] 0 0 := hnode
  have HQ : Hid (isQ op.toNat = false) := by rw [isq_sort, hop]; rfl
  have HV : Hid (wi s (.tf op) = some [op]) := rfl
  clear hop
  clear hs fs
  have HN := Lib.hid hnode
  obtain ⟨vv, pv, hvv, hpv, c0, c1, c2, c3, c4⟩ := hnode.cells
  obtain ⟨va, vc, rfl, hvl⟩ := letters hvv
  obtain ⟨pa, pc, rfl⟩ := rv_len hpv
  have hlw := hnode.lt
  simp only [List.map_nil, List.map_cons, List.length_nil, List.length_cons, Nat.zero_add, Nat.reduceAdd] at c1 c2 hpv
  clear hvl
  clear hvv hpv hnode
  have ca : ∀ W : World, W.cell? ⟨w.heap.size, 0, none⟩ = some (.int .u8 (op.toNat : Int)) → (convert 46 9 (.slice (some ⟨w.heap.size, 0, none⟩) 1 1)).run Try.prog W = .ok (.string ⟨#[op]⟩) W := fun W h => to_text1 _ _ op _ rfl W h
  have cb : ∀ W : World, (convert 46 9 (.slice va 0 vc)).run Try.prog W = .ok (.string ⟨#[]⟩) W := fun W => nil_text _ _ W
  have cad := add_ok (P := Try.prog) (x := ⟨#[op]⟩) (y := ⟨#[]⟩) (by show 1 ≤ 32000000; decide) (by show 0 ≤ 32000000; decide)
  have HB9 : Hid (Below w.heap.size w (w.alloc (.cells #[.int .u8 (op.toNat : Int)] 5)).drew) := ((Below.refl _ _).alloc (Nat.le_refl _) _).drew
  obtain ⟨w9, hw9⟩ : ∃ QZ, QZ = (w.alloc (.cells #[.int .u8 (op.toNat : Int)] 5)).drew := ⟨_, rfl⟩
  rw [← hw9] at HB9
  go_enter Try.func21, Try.ntmps21
  go_wp2_with fail
  go_region
  go_wp2_with fail
  rw [← hw9]
  clear hw9
  refine Calls.mono (isQuantifier_any 49 H op [] [] 0 0 w9 (HN.out.below HB9.out (Nat.le_refl _))) ?_
  rintro eo w1 ⟨rfl, rfl⟩
  rw [HQ.out]
  have d2 : w9.cell? ⟨H, 2, none⟩ = w.cell? ⟨H, 2, none⟩ := HB9.out.cell (p := ⟨H, 2, none⟩) hlw
  rw [c2] at d2
  clear c0 c1 c2 c3 c4 ca cb cad
  go_wp2_with fail
  go_loop [6, 60] (fun o i => o = .string (⟨#[op]⟩ ++ ⟨#[]⟩) ∧ i = .int .i64 0) (fun _ _ => 0)
  case atStart => exact ⟨rfl, rfl⟩
  case round =>
    obtain ⟨rfl, rfl⟩ := hrel
    go_wp2
    go_ret2
    exact put_ok HV.out (cat_one (c := op) (t := [])) rfl HB9.out
set_option maxHeartbeats 3200000 in
set_option maxRecDepth 100000 in
theorem rl_p (s : Fm) (HF : Nat) (w : World) (hs : Ok w s HF) (fs : s.free >>> 1 = 0) (H : Nat) (v : Nat) (hnode : Tree 49 w (.p v) H) :
    Calls Try.prog 21 #[.pointer (some ⟨H, 0, none⟩), .pointer (some ⟨HF, 0, none⟩)] w (PutQ w (wi s (.p v))) := by
  have hnode : fmt.Node 49 w H 80 [v] [] (1 <<< v) (1 <<< v) := hnode
  obtain ⟨op, hop⟩ : ∃ op : UInt8, op = 80 := ⟨_, rfl⟩
  rw [← hop] at hnode
  have HQ : Hid (isQ op.toNat = false) := by rw [hop]; rfl
  have HV : Hid (wi s (.p v) = some [op, vb v]) := by rw [hop]; rfl
  clear hop
  clear hs fs
  have HN := Lib.hid hnode
  obtain ⟨vv, pv, hvv, hpv, c0, c1, c2, c3, c4⟩ := hnode.cells
  obtain ⟨va, vc, rfl, hvl⟩ := letters hvv
  obtain ⟨pa, pc, rfl⟩ := rv_len hpv
  have hlw := hnode.lt
  simp only [List.map_nil, List.map_cons, List.length_nil, List.length_cons, Nat.zero_add, Nat.reduceAdd] at c1 c2 hpv
  obtain ⟨b, off, rfl, hbl, hce⟩ := hvl.resolve_left (by simp)
  have ce0 : w.cell? ⟨b, off, none⟩ = some (.int .u8 ((vb v).toNat : Int)) := hce 0 (by simp)
  clear hce hvl
  clear hvv hpv hnode
  have ca : ∀ W : World, W.cell? ⟨w.heap.size, 0, none⟩ = some (.int .u8 (op.toNat : Int)) → (convert 46 9 (.slice (some ⟨w.heap.size, 0, none⟩) 1 1)).run Try.prog W = .ok (.string ⟨#[op]⟩) W := fun W h => to_text1 _ _ op _ rfl W h
  have cb : ∀ W : World, W.cell? ⟨b, off, none⟩ = some (.int .u8 ((vb v).toNat : Int)) → (convert 46 9 (.slice (some ⟨b, off, none⟩) 1 vc)).run Try.prog W = .ok (.string ⟨#[vb v]⟩) W := fun W h => one_text _ _ _ _ W h
  have cad := add_ok (P := Try.prog) (x := ⟨#[op]⟩) (y := ⟨#[vb v]⟩) (by show 1 ≤ 32000000; decide) (by show 1 ≤ 32000000; decide)
  have HB9 : Hid (Below w.heap.size w (w.alloc (.cells #[.int .u8 (op.toNat : Int)] 5)).drew) := ((Below.refl _ _).alloc (Nat.le_refl _) _).drew
  obtain ⟨w9, hw9⟩ : ∃ QZ, QZ = (w.alloc (.cells #[.int .u8 (op.toNat : Int)] 5)).drew := ⟨_, rfl⟩
  rw [← hw9] at HB9
  go_enter Try.func21, Try.ntmps21
  go_wp2_with fail
  go_region
  go_wp2_with fail
  rw [← hw9]
  clear hw9
  refine Calls.mono (isQuantifier_any 49 H op [v] [] (1 <<< v) (1 <<< v) w9 (HN.out.below HB9.out (Nat.le_refl _))) ?_
  rintro eo w1 ⟨rfl, rfl⟩
  rw [HQ.out]
  have d2 : w9.cell? ⟨H, 2, none⟩ = w.cell? ⟨H, 2, none⟩ := HB9.out.cell (p := ⟨H, 2, none⟩) hlw
  rw [c2] at d2
  clear c0 c1 c2 c3 c4 ca cb cad
  go_wp2_with fail
  go_loop [6, 60] (fun o i => o = .string (⟨#[op]⟩ ++ ⟨#[vb v]⟩) ∧ i = .int .i64 0) (fun _ _ => 0)
  case atStart => exact ⟨rfl, rfl⟩
  case round =>
    obtain ⟨rfl, rfl⟩ := hrel
    go_wp2
    go_ret2
    exact put_ok HV.out (cat_one (c := op) (t := [vb v])) rfl HB9.out
set_option maxHeartbeats 3200000 in
set_option maxRecDepth 100000 in
theorem rl_r (s : Fm) (HF : Nat) (w : World) (hs : Ok w s HF) (fs : s.free >>> 1 = 0) (H : Nat) (op : UInt8) (v u : Nat) (hop : sort op = .r) (hnode : Tree 49 w (.r op v u) H) :
    Calls Try.prog 21 #[.pointer (some ⟨H, 0, none⟩), .pointer (some ⟨HF, 0, none⟩)] w (PutQ w (wi s (.r op v u))) := by
  have hnode : fmt.Node 49 w H op [v, u] [] (1 <<< v ||| 1 <<< u) (1 <<< v ||| 1 <<< u) := hnode
  have HQ : Hid (isQ op.toNat = false) := by rw [isq_sort, hop]; rfl
  have HV : Hid (wi s (.r op v u) = some [op, vb v, vb u]) := rfl
  clear hop
  clear hs fs
  have HN := Lib.hid hnode
  obtain ⟨vv, pv, hvv, hpv, c0, c1, c2, c3, c4⟩ := hnode.cells
  obtain ⟨va, vc, rfl, hvl⟩ := letters hvv
  obtain ⟨pa, pc, rfl⟩ := rv_len hpv
  have hlw := hnode.lt
  simp only [List.map_nil, List.map_cons, List.length_nil, List.length_cons, Nat.zero_add, Nat.reduceAdd] at c1 c2 hpv
  obtain ⟨b, off, rfl, hbl, hce⟩ := hvl.resolve_left (by simp)
  have ce0 : w.cell? ⟨b, off, none⟩ = some (.int .u8 ((vb v).toNat : Int)) := hce 0 (by simp)
  have ce1 : w.cell? ⟨b, off + 1, none⟩ = some (.int .u8 ((vb u).toNat : Int)) := hce 1 (by simp)
  clear hce hvl
  clear hvv hpv hnode
  have ca : ∀ W : World, W.cell? ⟨w.heap.size, 0, none⟩ = some (.int .u8 (op.toNat : Int)) → (convert 46 9 (.slice (some ⟨w.heap.size, 0, none⟩) 1 1)).run Try.prog W = .ok (.string ⟨#[op]⟩) W := fun W h => to_text1 _ _ op _ rfl W h
  have cb : ∀ W : World, W.cell? ⟨b, off, none⟩ = some (.int .u8 ((vb v).toNat : Int)) → W.cell? ⟨b, off + 1, none⟩ = some (.int .u8 ((vb u).toNat : Int)) → (convert 46 9 (.slice (some ⟨b, off, none⟩) 2 vc)).run Try.prog W = .ok (.string ⟨#[vb v, vb u]⟩) W := fun W h h2 => two_text _ _ _ _ _ W h h2
  have cad := add_ok (P := Try.prog) (x := ⟨#[op]⟩) (y := ⟨#[vb v, vb u]⟩) (by show 1 ≤ 32000000; decide) (by show 2 ≤ 32000000; decide)
  have HB9 : Hid (Below w.heap.size w (w.alloc (.cells #[.int .u8 (op.toNat : Int)] 5)).drew) := ((Below.refl _ _).alloc (Nat.le_refl _) _).drew
  obtain ⟨w9, hw9⟩ : ∃ QZ, QZ = (w.alloc (.cells #[.int .u8 (op.toNat : Int)] 5)).drew := ⟨_, rfl⟩
  rw [← hw9] at HB9
  go_enter Try.func21, Try.ntmps21
  go_wp2_with fail
  go_region
  go_wp2_with fail
  rw [← hw9]
  clear hw9
  refine Calls.mono (isQuantifier_any 49 H op [v, u] [] (1 <<< v ||| 1 <<< u) (1 <<< v ||| 1 <<< u) w9 (HN.out.below HB9.out (Nat.le_refl _))) ?_
  rintro eo w1 ⟨rfl, rfl⟩
  rw [HQ.out]
  have d2 : w9.cell? ⟨H, 2, none⟩ = w.cell? ⟨H, 2, none⟩ := HB9.out.cell (p := ⟨H, 2, none⟩) hlw
  rw [c2] at d2
  clear c0 c1 c2 c3 c4 ca cb cad
  go_wp2_with fail
  go_loop [6, 60] (fun o i => o = .string (⟨#[op]⟩ ++ ⟨#[vb v, vb u]⟩) ∧ i = .int .i64 0) (fun _ _ => 0)
  case atStart => exact ⟨rfl, rfl⟩
  case round =>
    obtain ⟨rfl, rfl⟩ := hrel
    go_wp2
    go_ret2
    exact put_ok HV.out (cat_one (c := op) (t := [vb v, vb u])) rfl HB9.out
set_option maxHeartbeats 3200000 in
set_option maxRecDepth 100000 in
theorem rl_no (s : Fm) (HF : Nat) (w : World) (hs : Ok w s HF) (fs : s.free >>> 1 = 0) (H : Nat) (a0 : Fm) (K0 : Nat) (hla0 : 4003 * a0.txt.length ≤ 16012000) (iha0 : ∀ w, Ok w s HF → Tree 49 w a0 K0 → Calls Try.prog 21 #[.pointer (some ⟨K0, 0, none⟩), .pointer (some ⟨HF, 0, none⟩)] w (PutQ w (wi s a0))) (ht0 : Tree 49 w a0 K0) (hnode : fmt.Node 49 w H 33 [] [K0] a0.free (Fm.all a0)) :
    Calls Try.prog 21 #[.pointer (some ⟨H, 0, none⟩), .pointer (some ⟨HF, 0, none⟩)] w (PutQ w (wi s (.no a0))) := by
  obtain ⟨op, hop⟩ : ∃ op : UInt8, op = 33 := ⟨_, rfl⟩
  rw [← hop] at hnode
  have HQ : Hid (isQ op.toNat = false) := by rw [hop]; rfl
  have HOP := Lib.hid hop
  clear hop
  have HOK := Lib.hid hs
  have IHa0 := Lib.hid iha0
  have HLa0 := Lib.hid hla0
  have HT0 := Lib.hid ht0
  clear hs fs iha0 hla0 ht0
  have HN := Lib.hid hnode
  obtain ⟨vv, pv, hvv, hpv, c0, c1, c2, c3, c4⟩ := hnode.cells
  obtain ⟨va, vc, rfl, hvl⟩ := letters hvv
  obtain ⟨pa, pc, rfl⟩ := rv_len hpv
  have hlw := hnode.lt
  simp only [List.map_nil, List.map_cons, List.length_nil, List.length_cons, Nat.zero_add, Nat.reduceAdd] at c1 c2 hpv
  clear hvl
  obtain ⟨pb, po, rfl, cp0⟩ := rv_cell hpv rfl (k := 0) (by simp)
  have hpb := World.block_lt_of_cell? _ _ cp0
  have HPE0 : Hid (∀ W, Below w.heap.size w W → W.cell? ⟨pb, po, none⟩ = some (.pointer (some ⟨K0, 0, none⟩))) := fun W hW => by rw [hW.cell (p := ⟨pb, po, none⟩) hpb]; exact cp0
  have HHC : Hid (∀ W, Below w.heap.size w W → W.cell? ⟨H, 2, none⟩ = some (.slice (some ⟨pb, po, none⟩) 1 pc)) := fun W hW => by rw [hW.cell (p := ⟨H, 2, none⟩) hlw]; exact c2
  clear cp0 hpb
  clear hvv hpv hnode
  have ca : ∀ W : World, W.cell? ⟨w.heap.size, 0, none⟩ = some (.int .u8 (op.toNat : Int)) → (convert 46 9 (.slice (some ⟨w.heap.size, 0, none⟩) 1 1)).run Try.prog W = .ok (.string ⟨#[op]⟩) W := fun W h => to_text1 _ _ op _ rfl W h
  have cb : ∀ W : World, (convert 46 9 (.slice va 0 vc)).run Try.prog W = .ok (.string ⟨#[]⟩) W := fun W => nil_text _ _ W
  have cad := add_ok (P := Try.prog) (x := ⟨#[op]⟩) (y := ⟨#[]⟩) (by show 1 ≤ 32000000; decide) (by show 0 ≤ 32000000; decide)
  have HB9 : Hid (Below w.heap.size w (w.alloc (.cells #[.int .u8 (op.toNat : Int)] 5)).drew) := ((Below.refl _ _).alloc (Nat.le_refl _) _).drew
  obtain ⟨w9, hw9⟩ : ∃ QZ, QZ = (w.alloc (.cells #[.int .u8 (op.toNat : Int)] 5)).drew := ⟨_, rfl⟩
  rw [← hw9] at HB9
  go_enter Try.func21, Try.ntmps21
  go_wp2_with fail
  go_region
  go_wp2_with fail
  rw [← hw9]
  clear hw9
  refine Calls.mono (isQuantifier_any 49 H op [] [K0] a0.free (Fm.all a0) w9 (HN.out.below HB9.out (Nat.le_refl _))) ?_
  rintro eo w1 ⟨rfl, rfl⟩
  rw [HQ.out]
  have d2 : w9.cell? ⟨H, 2, none⟩ = w.cell? ⟨H, 2, none⟩ := HB9.out.cell (p := ⟨H, 2, none⟩) hlw
  rw [c2] at d2
  clear c0 c1 c2 c3 c4 ca cb cad
  go_wp2_with fail
  clear d2
  go_loopw [6, 60] (fun o i wr => ∃ (k : Nat) (q : List (List UInt8)) (t : ByteArray), k ≤ 1 ∧ q.length = k ∧ i = .int .i64 k ∧ o = .string t ∧ Hid (t = ⟨([op] ++ q.flatten).toArray⟩) ∧ Hid (Below w.heap.size w wr) ∧ Hid (q.map some = (([a0] : List Fm).take k).map fun a => wi s a)) (fun _ i _ => 1 - (intOf i).toNat)
  case atStart => exact ⟨0, [], _, Nat.zero_le _, rfl, rfl, rfl, by rw [cat_one (t := [])]; rfl, HB9.out, rfl⟩
  case round =>
    clear HB9
    obtain ⟨k, q, t, hk, hql, rfl, rfl, HSS, HX, HQQ⟩ := hrel
    obtain rfl | rfl : k = 0 ∨ k = 1 := by omega
    · have cx := HPE0.out wr HX.out
      have HC := Lib.hid (IHa0.out wr (HOK.out.below HX.out) (HT0.out.below HX.out (Nat.le_refl _)))
      cases hp : wi s a0 with
      | none =>
        have HP := Lib.hid hp
        have HE : Hid (wi s (.no a0) = none) := by rw [Hid, wi_no, HP.out]
        clear hp
        go_wp2_with fail
        refine HC.out.mono ?_
        rintro eo w1 ⟨rfl, hb⟩
        rw [HP.out]
        have HB9 : Hid (Below w.heap.size w w1) := HX.out.trans (hb.mono HX.out.size)
        clear hb
        go_wp2
        go_ret2
        exact put_no HE.out rfl rfl HB9.out
      | some x =>
        have HP := Lib.hid hp
        have hxl : x.length ≤ 16012000 := Nat.le_trans (wi_len HOK.out.2.1 hp) HLa0.out
        have hq0 : ([op] ++ q.flatten).length ≤ 16016100 := by rw [List.length_eq_zero_iff.1 hql]; simp
        have cad := add_ok (P := Try.prog) (x := t) (y := optS (some x)) (by rw [HSS.out]; show ([op] ++ q.flatten).toArray.size ≤ _; rw [List.size_toArray]; omega) (by show x.toArray.size ≤ _; rw [List.size_toArray]; omega)
        have HQ2 : Hid ((q ++ [x]).map some = (([a0] : List Fm).take (0 + 1)).map fun a => wi s a) := by
          rw [Hid, List.map_append, HQQ.out]
          simp [hp]
        have HT2 : Hid (t ++ optS (some x) = ⟨([op] ++ (q ++ [x]).flatten).toArray⟩) := by
          rw [optS_some, Hid, HSS.out, cat_two, List.flatten_append, ← List.append_assoc]
          simp
        clear hp hxl hq0
        go_wp2_with fail
        refine HC.out.mono ?_
        rintro eo w1 ⟨rfl, hb⟩
        rw [HP.out]
        have HX2 : Hid (Below w.heap.size w w1) := HX.out.trans (hb.mono HX.out.size)
        clear hb cx HX HC
        obtain ⟨z, hz⟩ : ∃ z, z = optS (some x) := ⟨_, rfl⟩
        rw [← hz] at cad HT2 ⊢
        clear hz
        go_wp2
        go_roundw
        case rel => first | exact ⟨0 + 1, q ++ [x], t ++ z, by decide, by simp [hql], by first | rfl | go_num, rfl, HT2, HX2, HQ2⟩ | ((repeat apply Exists.intro); exact ⟨⟨0 + 1, q ++ [x], t ++ z, by decide, by simp [hql], by first | rfl | go_num, rfl, HT2, HX2, HQ2⟩, rfl⟩)
        case measure => simp [intOf]
    · have HE : Hid (wi s (.no a0) = some ([op] ++ q.flatten)) := by
        match q, hql, HQQ with
        | [x], _, HQQ =>
          have h := HQQ.out
          simp at h
          rw [Hid, wi_no, ← h, HOP.out]; simp
      have HB9 := Lib.hid HX.out
      go_wp2
      go_ret2
      exact put_ok HE.out HSS.out rfl HB9.out
set_option maxHeartbeats 3200000 in
set_option maxRecDepth 100000 in
theorem rl_two (s : Fm) (HF : Nat) (w : World) (hs : Ok w s HF) (fs : s.free >>> 1 = 0) (H : Nat) (op : UInt8) (hop : sort op = .two) (a0 a1 : Fm) (K0 K1 : Nat) (hla0 : 4003 * a0.txt.length ≤ 16012000) (hla1 : 4003 * a1.txt.length ≤ 16012000) (iha0 : ∀ w, Ok w s HF → Tree 49 w a0 K0 → Calls Try.prog 21 #[.pointer (some ⟨K0, 0, none⟩), .pointer (some ⟨HF, 0, none⟩)] w (PutQ w (wi s a0))) (iha1 : ∀ w, Ok w s HF → Tree 49 w a1 K1 → Calls Try.prog 21 #[.pointer (some ⟨K1, 0, none⟩), .pointer (some ⟨HF, 0, none⟩)] w (PutQ w (wi s a1))) (ht0 : Tree 49 w a0 K0) (ht1 : Tree 49 w a1 K1) (hnode : fmt.Node 49 w H op [] [K0, K1] (a0.free ||| a1.free) (Fm.all a0 ||| Fm.all a1)) :
    Calls Try.prog 21 #[.pointer (some ⟨H, 0, none⟩), .pointer (some ⟨HF, 0, none⟩)] w (PutQ w (wi s (.two op a0 a1))) := by
  have HQ : Hid (isQ op.toNat = false) := by rw [isq_sort, hop]; rfl
  clear hop
  have HOK := Lib.hid hs
  have IHa0 := Lib.hid iha0
  have HLa0 := Lib.hid hla0
  have HT0 := Lib.hid ht0
  have IHa1 := Lib.hid iha1
  have HLa1 := Lib.hid hla1
  have HT1 := Lib.hid ht1
  clear hs fs iha0 hla0 ht0 iha1 hla1 ht1
  have HN := Lib.hid hnode
  obtain ⟨vv, pv, hvv, hpv, c0, c1, c2, c3, c4⟩ := hnode.cells
  obtain ⟨va, vc, rfl, hvl⟩ := letters hvv
  obtain ⟨pa, pc, rfl⟩ := rv_len hpv
  have hlw := hnode.lt
  simp only [List.map_nil, List.map_cons, List.length_nil, List.length_cons, Nat.zero_add, Nat.reduceAdd] at c1 c2 hpv
  clear hvl
  obtain ⟨pb, po, rfl, cp0⟩ := rv_cell hpv rfl (k := 0) (by simp)
  have hpb := World.block_lt_of_cell? _ _ cp0
  obtain ⟨pb2, po2, hp2, cp1⟩ := rv_cell hpv rfl (k := 1) (by simp)
  simp only [Option.some.injEq, Addr.mk.injEq] at hp2
  obtain ⟨rfl, rfl, -⟩ := hp2
  have HPE0 : Hid (∀ W, Below w.heap.size w W → W.cell? ⟨pb, po, none⟩ = some (.pointer (some ⟨K0, 0, none⟩))) := fun W hW => by rw [hW.cell (p := ⟨pb, po, none⟩) hpb]; exact cp0
  have HPE1 : Hid (∀ W, Below w.heap.size w W → W.cell? ⟨pb, po + 1, none⟩ = some (.pointer (some ⟨K1, 0, none⟩))) := fun W hW => by rw [hW.cell (p := ⟨pb, po + 1, none⟩) hpb]; exact cp1
  have HHC : Hid (∀ W, Below w.heap.size w W → W.cell? ⟨H, 2, none⟩ = some (.slice (some ⟨pb, po, none⟩) 2 pc)) := fun W hW => by rw [hW.cell (p := ⟨H, 2, none⟩) hlw]; exact c2
  clear cp0 cp1 hpb
  clear hvv hpv hnode
  have ca : ∀ W : World, W.cell? ⟨w.heap.size, 0, none⟩ = some (.int .u8 (op.toNat : Int)) → (convert 46 9 (.slice (some ⟨w.heap.size, 0, none⟩) 1 1)).run Try.prog W = .ok (.string ⟨#[op]⟩) W := fun W h => to_text1 _ _ op _ rfl W h
  have cb : ∀ W : World, (convert 46 9 (.slice va 0 vc)).run Try.prog W = .ok (.string ⟨#[]⟩) W := fun W => nil_text _ _ W
  have cad := add_ok (P := Try.prog) (x := ⟨#[op]⟩) (y := ⟨#[]⟩) (by show 1 ≤ 32000000; decide) (by show 0 ≤ 32000000; decide)
  have HB9 : Hid (Below w.heap.size w (w.alloc (.cells #[.int .u8 (op.toNat : Int)] 5)).drew) := ((Below.refl _ _).alloc (Nat.le_refl _) _).drew
  obtain ⟨w9, hw9⟩ : ∃ QZ, QZ = (w.alloc (.cells #[.int .u8 (op.toNat : Int)] 5)).drew := ⟨_, rfl⟩
  rw [← hw9] at HB9
  go_enter Try.func21, Try.ntmps21
  go_wp2_with fail
  go_region
  go_wp2_with fail
  rw [← hw9]
  clear hw9
  refine Calls.mono (isQuantifier_any 49 H op [] [K0, K1] (a0.free ||| a1.free) (Fm.all a0 ||| Fm.all a1) w9 (HN.out.below HB9.out (Nat.le_refl _))) ?_
  rintro eo w1 ⟨rfl, rfl⟩
  rw [HQ.out]
  have d2 : w9.cell? ⟨H, 2, none⟩ = w.cell? ⟨H, 2, none⟩ := HB9.out.cell (p := ⟨H, 2, none⟩) hlw
  rw [c2] at d2
  clear c0 c1 c2 c3 c4 ca cb cad
  go_wp2_with fail
  clear d2
  go_loopw [6, 60] (fun o i wr => ∃ (k : Nat) (q : List (List UInt8)) (t : ByteArray), k ≤ 2 ∧ q.length = k ∧ i = .int .i64 k ∧ o = .string t ∧ Hid (t = ⟨([op] ++ q.flatten).toArray⟩) ∧ Hid (Below w.heap.size w wr) ∧ Hid (q.map some = (([a0, a1] : List Fm).take k).map fun a => wi s a)) (fun _ i _ => 2 - (intOf i).toNat)
  case atStart => exact ⟨0, [], _, Nat.zero_le _, rfl, rfl, rfl, by rw [cat_one (t := [])]; rfl, HB9.out, rfl⟩
  case round =>
    clear HB9
    obtain ⟨k, q, t, hk, hql, rfl, rfl, HSS, HX, HQQ⟩ := hrel
    obtain rfl | rfl | rfl : k = 0 ∨ k = 1 ∨ k = 2 := by omega
    · have cx := HPE0.out wr HX.out
      have HC := Lib.hid (IHa0.out wr (HOK.out.below HX.out) (HT0.out.below HX.out (Nat.le_refl _)))
      cases hp : wi s a0 with
      | none =>
        have HP := Lib.hid hp
        have HE : Hid (wi s (.two op a0 a1) = none) := by rw [Hid, wi_two, HP.out]
        clear hp
        go_wp2_with fail
        refine HC.out.mono ?_
        rintro eo w1 ⟨rfl, hb⟩
        rw [HP.out]
        have HB9 : Hid (Below w.heap.size w w1) := HX.out.trans (hb.mono HX.out.size)
        clear hb
        go_wp2
        go_ret2
        exact put_no HE.out rfl rfl HB9.out
      | some x =>
        have HP := Lib.hid hp
        have hxl : x.length ≤ 16012000 := Nat.le_trans (wi_len HOK.out.2.1 hp) HLa0.out
        have hq0 : ([op] ++ q.flatten).length ≤ 16016100 := by rw [List.length_eq_zero_iff.1 hql]; simp
        have cad := add_ok (P := Try.prog) (x := t) (y := optS (some x)) (by rw [HSS.out]; show ([op] ++ q.flatten).toArray.size ≤ _; rw [List.size_toArray]; omega) (by show x.toArray.size ≤ _; rw [List.size_toArray]; omega)
        have HQ2 : Hid ((q ++ [x]).map some = (([a0, a1] : List Fm).take (0 + 1)).map fun a => wi s a) := by
          rw [Hid, List.map_append, HQQ.out]
          simp [hp]
        have HT2 : Hid (t ++ optS (some x) = ⟨([op] ++ (q ++ [x]).flatten).toArray⟩) := by
          rw [optS_some, Hid, HSS.out, cat_two, List.flatten_append, ← List.append_assoc]
          simp
        clear hp hxl hq0
        go_wp2_with fail
        refine HC.out.mono ?_
        rintro eo w1 ⟨rfl, hb⟩
        rw [HP.out]
        have HX2 : Hid (Below w.heap.size w w1) := HX.out.trans (hb.mono HX.out.size)
        clear hb cx HX HC
        obtain ⟨z, hz⟩ : ∃ z, z = optS (some x) := ⟨_, rfl⟩
        rw [← hz] at cad HT2 ⊢
        clear hz
        go_wp2
        go_roundw
        case rel => first | exact ⟨0 + 1, q ++ [x], t ++ z, by decide, by simp [hql], by first | rfl | go_num, rfl, HT2, HX2, HQ2⟩ | ((repeat apply Exists.intro); exact ⟨⟨0 + 1, q ++ [x], t ++ z, by decide, by simp [hql], by first | rfl | go_num, rfl, HT2, HX2, HQ2⟩, rfl⟩)
        case measure => simp [intOf]
    · have cx := HPE1.out wr HX.out
      have HC := Lib.hid (IHa1.out wr (HOK.out.below HX.out) (HT1.out.below HX.out (Nat.le_refl _)))
      cases hp : wi s a1 with
      | none =>
        have HP := Lib.hid hp
        have HE : Hid (wi s (.two op a0 a1) = none) := by rw [Hid, wi_two, HP.out]; cases wi s a0 <;> rfl
        clear hp
        go_wp2_with fail
        refine HC.out.mono ?_
        rintro eo w1 ⟨rfl, hb⟩
        rw [HP.out]
        have HB9 : Hid (Below w.heap.size w w1) := HX.out.trans (hb.mono HX.out.size)
        clear hb
        go_wp2
        go_ret2
        exact put_no HE.out rfl rfl HB9.out
      | some x =>
        have HP := Lib.hid hp
        have hxl : x.length ≤ 16012000 := Nat.le_trans (wi_len HOK.out.2.1 hp) HLa1.out
        have hq0 : ([op] ++ q.flatten).length ≤ 16016100 := by
            match q, hql, HQQ with
            | [y], _, HQQ =>
              have h := HQQ.out
              simp at h
              have := wi_len HOK.out.2.1 h.symm
              have := HLa0.out
              simp; omega
        have cad := add_ok (P := Try.prog) (x := t) (y := optS (some x)) (by rw [HSS.out]; show ([op] ++ q.flatten).toArray.size ≤ _; rw [List.size_toArray]; omega) (by show x.toArray.size ≤ _; rw [List.size_toArray]; omega)
        have HQ2 : Hid ((q ++ [x]).map some = (([a0, a1] : List Fm).take (1 + 1)).map fun a => wi s a) := by
          rw [Hid, List.map_append, HQQ.out]
          simp [hp]
        have HT2 : Hid (t ++ optS (some x) = ⟨([op] ++ (q ++ [x]).flatten).toArray⟩) := by
          rw [optS_some, Hid, HSS.out, cat_two, List.flatten_append, ← List.append_assoc]
          simp
        clear hp hxl hq0
        go_wp2_with fail
        refine HC.out.mono ?_
        rintro eo w1 ⟨rfl, hb⟩
        rw [HP.out]
        have HX2 : Hid (Below w.heap.size w w1) := HX.out.trans (hb.mono HX.out.size)
        clear hb cx HX HC
        obtain ⟨z, hz⟩ : ∃ z, z = optS (some x) := ⟨_, rfl⟩
        rw [← hz] at cad HT2 ⊢
        clear hz
        go_wp2
        go_roundw
        case rel => first | exact ⟨1 + 1, q ++ [x], t ++ z, by decide, by simp [hql], by first | rfl | go_num, rfl, HT2, HX2, HQ2⟩ | ((repeat apply Exists.intro); exact ⟨⟨1 + 1, q ++ [x], t ++ z, by decide, by simp [hql], by first | rfl | go_num, rfl, HT2, HX2, HQ2⟩, rfl⟩)
        case measure => simp [intOf]
    · have HE : Hid (wi s (.two op a0 a1) = some ([op] ++ q.flatten)) := by
        match q, hql, HQQ with
        | [x, y], _, HQQ =>
          have h := HQQ.out
          simp at h
          rw [Hid, wi_two, ← h.1, ← h.2]; simp
      have HB9 := Lib.hid HX.out
      go_wp2
      go_ret2
      exact put_ok HE.out HSS.out rfl HB9.out
set_option maxHeartbeats 3200000 in
set_option maxRecDepth 100000 in
theorem rl_qu (s : Fm) (HF : Nat) (w : World) (hs : Ok w s HF) (fs : s.free >>> 1 = 0) (H : Nat) (op : UInt8) (hop : sort op = .qu) (v : Nat) (hv : v < 4) (a0 : Fm) (K0 : Nat) (hla0 : 4003 * a0.txt.length ≤ 16012000) (iha0 : ∀ w, Ok w s HF → Tree 49 w a0 K0 → Calls Try.prog 21 #[.pointer (some ⟨K0, 0, none⟩), .pointer (some ⟨HF, 0, none⟩)] w (PutQ w (wi s a0))) (ht0 : Tree 49 w a0 K0) (hnode : fmt.Node 49 w H op [v] [K0] (a0.free &&& (15 ^^^ 1 <<< v)) (1 <<< v ||| Fm.all a0)) :
    Calls Try.prog 21 #[.pointer (some ⟨H, 0, none⟩), .pointer (some ⟨HF, 0, none⟩)] w (PutQ w (wi s (.qu op v a0))) := by
  have HQ : Hid (isQ op.toNat = true) := by rw [isq_sort, hop]; rfl
  clear hop
  have HOK := Lib.hid hs
  have HFS := Lib.hid fs
  have IHa0 := Lib.hid iha0
  have HLa0 := Lib.hid hla0
  have HT0 := Lib.hid ht0
  clear hs fs iha0 hla0 ht0
  have HPC : Hid (∀ W, Below w.heap.size w W → Calls Try.prog 29 #[.agg #[.pointer none, .pointer none], .pointer (some ⟨HF, 0, none⟩), .agg #[.int .u8 ((vb v).toNat : Int), .int .u8 98, .int .u8 99, .int .u8 100]] W (PutQ W (put0 s (map1 v)))) := fun W hW => by
    have h := put0_any s HOK.out.2.1 HOK.out.2.2 (pm1 v) HF W (fun x hx => by unfold pm1; split <;> omega) (HOK.out.below hW).1
    rw [put0_pm1 HOK.out.2.2 HFS.out] at h
    rw [← vb_int hv]
    exact h
  have HN := Lib.hid hnode
  obtain ⟨vv, pv, hvv, hpv, c0, c1, c2, c3, c4⟩ := hnode.cells
  obtain ⟨va, vc, rfl, hvl⟩ := letters hvv
  obtain ⟨pa, pc, rfl⟩ := rv_len hpv
  have hlw := hnode.lt
  simp only [List.map_nil, List.map_cons, List.length_nil, List.length_cons, Nat.zero_add, Nat.reduceAdd] at c1 c2 hpv
  obtain ⟨b, off, rfl, hbl, hce⟩ := hvl.resolve_left (by simp)
  have ce0 : w.cell? ⟨b, off, none⟩ = some (.int .u8 ((vb v).toNat : Int)) := hce 0 (by simp)
  clear hce hvl
  obtain ⟨pb, po, rfl, cp0⟩ := rv_cell hpv rfl (k := 0) (by simp)
  have hpb := World.block_lt_of_cell? _ _ cp0
  have HPE0 : Hid (∀ W, Below w.heap.size w W → W.cell? ⟨pb, po, none⟩ = some (.pointer (some ⟨K0, 0, none⟩))) := fun W hW => by rw [hW.cell (p := ⟨pb, po, none⟩) hpb]; exact cp0
  have HHC : Hid (∀ W, Below w.heap.size w W → W.cell? ⟨H, 2, none⟩ = some (.slice (some ⟨pb, po, none⟩) 1 pc)) := fun W hW => by rw [hW.cell (p := ⟨H, 2, none⟩) hlw]; exact c2
  clear cp0 hpb
  clear hvv hpv hnode
  have ca : ∀ W : World, W.cell? ⟨w.heap.size, 0, none⟩ = some (.int .u8 (op.toNat : Int)) → (convert 46 9 (.slice (some ⟨w.heap.size, 0, none⟩) 1 1)).run Try.prog W = .ok (.string ⟨#[op]⟩) W := fun W h => to_text1 _ _ op _ rfl W h
  have cb : ∀ W : World, W.cell? ⟨b, off, none⟩ = some (.int .u8 ((vb v).toNat : Int)) → (convert 46 9 (.slice (some ⟨b, off, none⟩) 1 vc)).run Try.prog W = .ok (.string ⟨#[vb v]⟩) W := fun W h => one_text _ _ _ _ W h
  have cad := add_ok (P := Try.prog) (x := ⟨#[op]⟩) (y := ⟨#[vb v]⟩) (by show 1 ≤ 32000000; decide) (by show 1 ≤ 32000000; decide)
  have HB9 : Hid (Below w.heap.size w (w.alloc (.cells #[.int .u8 (op.toNat : Int)] 5)).drew) := ((Below.refl _ _).alloc (Nat.le_refl _) _).drew
  obtain ⟨w9, hw9⟩ : ∃ QZ, QZ = (w.alloc (.cells #[.int .u8 (op.toNat : Int)] 5)).drew := ⟨_, rfl⟩
  rw [← hw9] at HB9
  go_enter Try.func21, Try.ntmps21
  go_wp2_with fail
  go_region
  go_wp2_with fail
  rw [← hw9]
  clear hw9
  refine Calls.mono (isQuantifier_any 49 H op [v] [K0] (a0.free &&& (15 ^^^ 1 <<< v)) (1 <<< v ||| Fm.all a0) w9 (HN.out.below HB9.out (Nat.le_refl _))) ?_
  rintro eo w1 ⟨rfl, rfl⟩
  rw [HQ.out]
  have d2 : w9.cell? ⟨H, 2, none⟩ = w.cell? ⟨H, 2, none⟩ := HB9.out.cell (p := ⟨H, 2, none⟩) hlw
  rw [c2] at d2
  have d0 : w9.cell? ⟨H, 0, none⟩ = w.cell? ⟨H, 0, none⟩ := HB9.out.cell (p := ⟨H, 0, none⟩) hlw
  rw [c0] at d0
  have d1 : w9.cell? ⟨H, 1, none⟩ = w.cell? ⟨H, 1, none⟩ := HB9.out.cell (p := ⟨H, 1, none⟩) hlw
  rw [c1] at d1
  have dv : w9.cell? ⟨b, off, none⟩ = w.cell? ⟨b, off, none⟩ := HB9.out.cell (p := ⟨b, off, none⟩) hbl
  rw [ce0] at dv
  have HC0 := Lib.hid (show _ ∧ _ from ⟨c0, c2⟩)
  clear c0 c1 c2 c3 c4 ca cb cad ce0 d2
  cases hpp : put0 s (map1 v) with
  | none =>
    have HPP := Lib.hid hpp
    have HE : Hid (wi s (.qu op v a0) = none) := by rw [Hid, wi_qu, hpp]; cases wi s a0 <;> rfl
    clear hpp
    go_wp2_with fail
    refine (HPC.out _ HB9.out).mono ?_
    rintro eo w2 ⟨rfl, hb2⟩
    rw [HPP.out]
    have HB2 := Lib.hid (HB9.out.trans (hb2.mono HB9.out.size))
    clear hb2 d0 d1 dv
    go_wp2
    go_ret2
    exact put_no HE.out rfl rfl HB2.out
  | some y =>
    have HPP := Lib.hid hpp
    have HYL : Hid (y.length ≤ 4000) := by rw [Hid, put0_len hpp]; exact HOK.out.2.1
    clear hpp
    by_cases h65 : op = 65
    · have e65 : ((op.toNat : Int) == 65) = true := by rw [h65]; rfl
      have H65 : Hid ((if op = 65 then [124, 33] else [38] : List UInt8) = [124, 33]) := by rw [Hid, if_pos h65]
      clear h65
      have hyl := HYL.out
      have cad1 := add_ok (P := Try.prog) (x := ⟨#[124, 33]⟩) (y := optS (some y)) (by show 2 ≤ 32000000; decide) (by show y.toArray.size ≤ _; rw [List.size_toArray]; omega)
      have cad2 := add_ok (P := Try.prog) (x := ⟨#[op]⟩ ++ ⟨#[vb v]⟩) (y := ⟨#[124, 33]⟩ ++ optS (some y)) (by rw [ByteArray.size_append]; show 1 + 1 ≤ 32000000; decide) (by rw [ByteArray.size_append]; show 2 + y.toArray.size ≤ _; rw [List.size_toArray]; omega)
      have HTX : Hid ((⟨#[op]⟩ ++ ⟨#[vb v]⟩ ++ (⟨#[124, 33]⟩ ++ optS (some y)) : ByteArray) = ⟨([op, vb v] ++ [124, 33] ++ y ++ ([] : List (List UInt8)).flatten).toArray⟩) := by
        rw [Hid, optS_some]
        apply ByteArray.ext
        simp [ByteArray.data_append]
      clear hyl
      go_wp2_with fail
      refine (HPC.out _ HB9.out).mono ?_
      rintro eo w2 ⟨rfl, hb2⟩
      rw [HPP.out]
      have HB2 := Lib.hid (HB9.out.trans (hb2.mono HB9.out.size))
      have d0' : w2.cell? ⟨H, 0, none⟩ = w.cell? ⟨H, 0, none⟩ := HB2.out.cell (p := ⟨H, 0, none⟩) hlw
      rw [HC0.out.1] at d0'
      have d2' : w2.cell? ⟨H, 2, none⟩ = w.cell? ⟨H, 2, none⟩ := HB2.out.cell (p := ⟨H, 2, none⟩) hlw
      rw [HC0.out.2] at d2'
      clear hb2 d0 d1 dv HB9
      obtain ⟨z, hz⟩ : ∃ z, z = optS (some y) := ⟨_, rfl⟩
      rw [← hz] at cad1 cad2 HTX ⊢
      clear hz
      go_wp2_with fail
      have HB9 := HB2
      clear d0' d2' cad1 cad2 HB2
      go_loopw [6, 60] (fun o i wr => ∃ (k : Nat) (q : List (List UInt8)) (t : ByteArray), k ≤ 1 ∧ q.length = k ∧ i = .int .i64 k ∧ o = .string t ∧ Hid (t = ⟨(([op, vb v] ++ [124, 33] ++ y) ++ q.flatten).toArray⟩) ∧ Hid (Below w.heap.size w wr) ∧ Hid (q.map some = (([a0] : List Fm).take k).map fun a => wi s a)) (fun _ i _ => 1 - (intOf i).toNat)
      case atStart => exact ⟨0, [], _, Nat.zero_le _, rfl, rfl, rfl, HTX, HB9.out, rfl⟩
      case round =>
        clear HB9
        obtain ⟨k, q, t, hk, hql, rfl, rfl, HSS, HX, HQQ⟩ := hrel
        obtain rfl | rfl : k = 0 ∨ k = 1 := by omega
        · have cx := HPE0.out wr HX.out
          have HC := Lib.hid (IHa0.out wr (HOK.out.below HX.out) (HT0.out.below HX.out (Nat.le_refl _)))
          cases hp : wi s a0 with
          | none =>
            have HP := Lib.hid hp
            have HE : Hid (wi s (.qu op v a0) = none) := by rw [Hid, wi_qu, HP.out]
            clear hp
            go_wp2_with fail
            refine HC.out.mono ?_
            rintro eo w1 ⟨rfl, hb⟩
            rw [HP.out]
            have HB9 : Hid (Below w.heap.size w w1) := HX.out.trans (hb.mono HX.out.size)
            clear hb
            go_wp2
            go_ret2
            exact put_no HE.out rfl rfl HB9.out
          | some x =>
            have HP := Lib.hid hp
            have hxl : x.length ≤ 16012000 := Nat.le_trans (wi_len HOK.out.2.1 hp) HLa0.out
            have hq0 : (([op, vb v] ++ [124, 33] ++ y) ++ q.flatten).length ≤ 16016100 := by have := HYL.out; rw [List.length_eq_zero_iff.1 hql]; simp; omega
            have cad := add_ok (P := Try.prog) (x := t) (y := optS (some x)) (by rw [HSS.out]; show (([op, vb v] ++ [124, 33] ++ y) ++ q.flatten).toArray.size ≤ _; rw [List.size_toArray]; omega) (by show x.toArray.size ≤ _; rw [List.size_toArray]; omega)
            have HQ2 : Hid ((q ++ [x]).map some = (([a0] : List Fm).take (0 + 1)).map fun a => wi s a) := by
              rw [Hid, List.map_append, HQQ.out]
              simp [hp]
            have HT2 : Hid (t ++ optS (some x) = ⟨(([op, vb v] ++ [124, 33] ++ y) ++ (q ++ [x]).flatten).toArray⟩) := by
              rw [optS_some, Hid, HSS.out, cat_two, List.flatten_append, ← List.append_assoc]
              simp
            clear hp hxl hq0
            go_wp2_with fail
            refine HC.out.mono ?_
            rintro eo w1 ⟨rfl, hb⟩
            rw [HP.out]
            have HX2 : Hid (Below w.heap.size w w1) := HX.out.trans (hb.mono HX.out.size)
            clear hb cx HX HC
            obtain ⟨z, hz⟩ : ∃ z, z = optS (some x) := ⟨_, rfl⟩
            rw [← hz] at cad HT2 ⊢
            clear hz
            go_wp2
            go_roundw
            case rel => first | exact ⟨0 + 1, q ++ [x], t ++ z, by decide, by simp [hql], by first | rfl | go_num, rfl, HT2, HX2, HQ2⟩ | ((repeat apply Exists.intro); exact ⟨⟨0 + 1, q ++ [x], t ++ z, by decide, by simp [hql], by first | rfl | go_num, rfl, HT2, HX2, HQ2⟩, rfl⟩)
            case measure => simp [intOf]
        · have HE : Hid (wi s (.qu op v a0) = some (([op, vb v] ++ [124, 33] ++ y) ++ q.flatten)) := by
            match q, hql, HQQ with
            | [x], _, HQQ =>
              have h := HQQ.out
              simp at h
              rw [Hid, wi_qu, ← h, HPP.out, H65.out]; simp
          have HB9 := Lib.hid HX.out
          go_wp2
          go_ret2
          exact put_ok HE.out HSS.out rfl HB9.out
    · have e65 : ((op.toNat : Int) == 65) = false := by
        cases hb9 : ((op.toNat : Int) == 65) with
        | false => rfl
        | true => exact absurd (UInt8.toNat_inj.1 (show op.toNat = (65 : UInt8).toNat by have := eq_of_beq hb9; show op.toNat = 65; omega)) h65
      have H65 : Hid ((if op = 65 then [124, 33] else [38] : List UInt8) = [38]) := by rw [Hid, if_neg h65]
      clear h65
      have hyl := HYL.out
      have cad1 := add_ok (P := Try.prog) (x := ⟨#[38]⟩) (y := optS (some y)) (by show 1 ≤ 32000000; decide) (by show y.toArray.size ≤ _; rw [List.size_toArray]; omega)
      have cad2 := add_ok (P := Try.prog) (x := ⟨#[op]⟩ ++ ⟨#[vb v]⟩) (y := ⟨#[38]⟩ ++ optS (some y)) (by rw [ByteArray.size_append]; show 1 + 1 ≤ 32000000; decide) (by rw [ByteArray.size_append]; show 1 + y.toArray.size ≤ _; rw [List.size_toArray]; omega)
      have HTX : Hid ((⟨#[op]⟩ ++ ⟨#[vb v]⟩ ++ (⟨#[38]⟩ ++ optS (some y)) : ByteArray) = ⟨([op, vb v] ++ [38] ++ y ++ ([] : List (List UInt8)).flatten).toArray⟩) := by
        rw [Hid, optS_some]
        apply ByteArray.ext
        simp [ByteArray.data_append]
      clear hyl
      go_wp2_with fail
      refine (HPC.out _ HB9.out).mono ?_
      rintro eo w2 ⟨rfl, hb2⟩
      rw [HPP.out]
      have HB2 := Lib.hid (HB9.out.trans (hb2.mono HB9.out.size))
      have d0' : w2.cell? ⟨H, 0, none⟩ = w.cell? ⟨H, 0, none⟩ := HB2.out.cell (p := ⟨H, 0, none⟩) hlw
      rw [HC0.out.1] at d0'
      have d2' : w2.cell? ⟨H, 2, none⟩ = w.cell? ⟨H, 2, none⟩ := HB2.out.cell (p := ⟨H, 2, none⟩) hlw
      rw [HC0.out.2] at d2'
      clear hb2 d0 d1 dv HB9
      obtain ⟨z, hz⟩ : ∃ z, z = optS (some y) := ⟨_, rfl⟩
      rw [← hz] at cad1 cad2 HTX ⊢
      clear hz
      go_wp2_with fail
      have HB9 := HB2
      clear d0' d2' cad1 cad2 HB2
      go_loopw [6, 60] (fun o i wr => ∃ (k : Nat) (q : List (List UInt8)) (t : ByteArray), k ≤ 1 ∧ q.length = k ∧ i = .int .i64 k ∧ o = .string t ∧ Hid (t = ⟨(([op, vb v] ++ [38] ++ y) ++ q.flatten).toArray⟩) ∧ Hid (Below w.heap.size w wr) ∧ Hid (q.map some = (([a0] : List Fm).take k).map fun a => wi s a)) (fun _ i _ => 1 - (intOf i).toNat)
      case atStart => exact ⟨0, [], _, Nat.zero_le _, rfl, rfl, rfl, HTX, HB9.out, rfl⟩
      case round =>
        clear HB9
        obtain ⟨k, q, t, hk, hql, rfl, rfl, HSS, HX, HQQ⟩ := hrel
        obtain rfl | rfl : k = 0 ∨ k = 1 := by omega
        · have cx := HPE0.out wr HX.out
          have HC := Lib.hid (IHa0.out wr (HOK.out.below HX.out) (HT0.out.below HX.out (Nat.le_refl _)))
          cases hp : wi s a0 with
          | none =>
            have HP := Lib.hid hp
            have HE : Hid (wi s (.qu op v a0) = none) := by rw [Hid, wi_qu, HP.out]
            clear hp
            go_wp2_with fail
            refine HC.out.mono ?_
            rintro eo w1 ⟨rfl, hb⟩
            rw [HP.out]
            have HB9 : Hid (Below w.heap.size w w1) := HX.out.trans (hb.mono HX.out.size)
            clear hb
            go_wp2
            go_ret2
            exact put_no HE.out rfl rfl HB9.out
          | some x =>
            have HP := Lib.hid hp
            have hxl : x.length ≤ 16012000 := Nat.le_trans (wi_len HOK.out.2.1 hp) HLa0.out
            have hq0 : (([op, vb v] ++ [38] ++ y) ++ q.flatten).length ≤ 16016100 := by have := HYL.out; rw [List.length_eq_zero_iff.1 hql]; simp; omega
            have cad := add_ok (P := Try.prog) (x := t) (y := optS (some x)) (by rw [HSS.out]; show (([op, vb v] ++ [38] ++ y) ++ q.flatten).toArray.size ≤ _; rw [List.size_toArray]; omega) (by show x.toArray.size ≤ _; rw [List.size_toArray]; omega)
            have HQ2 : Hid ((q ++ [x]).map some = (([a0] : List Fm).take (0 + 1)).map fun a => wi s a) := by
              rw [Hid, List.map_append, HQQ.out]
              simp [hp]
            have HT2 : Hid (t ++ optS (some x) = ⟨(([op, vb v] ++ [38] ++ y) ++ (q ++ [x]).flatten).toArray⟩) := by
              rw [optS_some, Hid, HSS.out, cat_two, List.flatten_append, ← List.append_assoc]
              simp
            clear hp hxl hq0
            go_wp2_with fail
            refine HC.out.mono ?_
            rintro eo w1 ⟨rfl, hb⟩
            rw [HP.out]
            have HX2 : Hid (Below w.heap.size w w1) := HX.out.trans (hb.mono HX.out.size)
            clear hb cx HX HC
            obtain ⟨z, hz⟩ : ∃ z, z = optS (some x) := ⟨_, rfl⟩
            rw [← hz] at cad HT2 ⊢
            clear hz
            go_wp2
            go_roundw
            case rel => first | exact ⟨0 + 1, q ++ [x], t ++ z, by decide, by simp [hql], by first | rfl | go_num, rfl, HT2, HX2, HQ2⟩ | ((repeat apply Exists.intro); exact ⟨⟨0 + 1, q ++ [x], t ++ z, by decide, by simp [hql], by first | rfl | go_num, rfl, HT2, HX2, HQ2⟩, rfl⟩)
            case measure => simp [intOf]
        · have HE : Hid (wi s (.qu op v a0) = some (([op, vb v] ++ [38] ++ y) ++ q.flatten)) := by
            match q, hql, HQQ with
            | [x], _, HQQ =>
              have h := HQQ.out
              simp at h
              rw [Hid, wi_qu, ← h, HPP.out, H65.out]; simp
          have HB9 := Lib.hid HX.out
          go_wp2
          go_ret2
          exact put_ok HE.out HSS.out rfl HB9.out
theorem relativized_any (s : Fm) (HF : Nat) (fs : s.free >>> 1 = 0) : ∀ (a : Fm), 4003 * a.txt.length ≤ 16012000 → a.ok → ∀ (H : Nat) (w : World), Ok w s HF → Tree 49 w a H →
    Calls Try.prog 21 #[.pointer (some ⟨H, 0, none⟩), .pointer (some ⟨HF, 0, none⟩)] w (PutQ w (wi s a))
  | .tf op, _, hok, H, w, hs, ht => rl_tf s HF w hs fs H op hok ht
  | .p v, _, hok, H, w, hs, ht => rl_p s HF w hs fs H v ht
  | .r op v u, _, hok, H, w, hs, ht => rl_r s HF w hs fs H op v u hok.1 ht
  | .no a, hl, hok, H, w, hs, ⟨K, h1, h2⟩ => rl_no s HF w hs fs H a K (Nat.le_trans (Nat.mul_le_mul_left _ (by simp [Fm.txt])) hl) (fun w hs ht => relativized_any s HF fs a (Nat.le_trans (Nat.mul_le_mul_left _ (by simp [Fm.txt])) hl) hok K w hs ht) h1 h2
  | .two op a b, hl, hok, H, w, hs, ⟨K, L, h1, h2, h3⟩ =>
    have la : 4003 * a.txt.length ≤ 16012000 := Nat.le_trans (Nat.mul_le_mul_left _ (by simp [Fm.txt]; omega)) hl
    have lb : 4003 * b.txt.length ≤ 16012000 := Nat.le_trans (Nat.mul_le_mul_left _ (by simp [Fm.txt]; omega)) hl
    rl_two s HF w hs fs H op hok.1 a b K L la lb (fun w hs ht => relativized_any s HF fs a la hok.2.1 K w hs ht) (fun w hs ht => relativized_any s HF fs b lb hok.2.2 L w hs ht) h1 h2 h3
  | .qu op v a, hl, hok, H, w, hs, ⟨K, h1, h2⟩ =>
    have la : 4003 * a.txt.length ≤ 16012000 := Nat.le_trans (Nat.mul_le_mul_left _ (by simp [Fm.txt]; omega)) hl
    rl_qu s HF w hs fs H op hok.1 v hok.2.1 a K la (fun w hs ht => relativized_any s HF fs a la hok.2.2 K w hs ht) h1 h2
set_option maxHeartbeats 3200000 in
set_option maxRecDepth 100000 in
theorem implRelativize_any (h f : ByteArray) (w : World) :
    Calls Try.prog 11 #[.string h, .string f] w fun e w' => e = .returned (.tuple #[.string (resS (rlO h f)), .bool (resB (rlO h f))]) ∧ Below w.heap.size w w' := by
  cases hh : fmOf h with
  | none =>
    have HE := Lib.hid (rl1 (f := f) hh)
    have HH := Lib.hid (fm_b hh)
    clear hh
    go_enter Try.func11, Try.ntmps11
    go_wp2_with fail
    refine (parseFormula_any h _).mono ?_
    rintro eo w1 ⟨p, rfl, hb1, hp⟩
    obtain rfl := parse_no (w := w) HH.out hp
    have HB1 := Lib.hid hb1
    clear hp hb1
    go_wp2_with fail
    refine (parseFormula_any f _).mono ?_
    rintro eo w2 ⟨q, rfl, hb2, hq⟩
    have HB2 := Lib.hid (HB1.out.trans (hb2.mono HB1.out.size))
    clear hq hb2
    go_wp2
    go_ret2
    exact ⟨by rw [HE.out]; rfl, HB2.out⟩
  | some a =>
    have HHA := Lib.hid hh
    cases hf : fmOf f with
    | none =>
      have HE := Lib.hid (rl2 (h := h) (vw_no (k := 1) hf))
      have HF := Lib.hid (fm_b hf)
      clear hh hf
      go_enter Try.func11, Try.ntmps11
      go_wp2_with fail
      refine (parseFormula_any h _).mono ?_
      rintro eo w1 ⟨p, rfl, hb1, hp⟩
      obtain ⟨H, rfl, ht⟩ := parse_yes HHA.out hp
      have HB1 := Lib.hid hb1
      clear hp hb1 ht
      go_wp2_with fail
      refine (parseFormula_any f _).mono ?_
      rintro eo w2 ⟨q, rfl, hb2, hq⟩
      obtain rfl := parse_no (w := w) HF.out hq
      have HB2 := Lib.hid (HB1.out.trans (hb2.mono HB1.out.size))
      clear hq hb2
      go_wp2
      go_ret2
      exact ⟨by rw [HE.out]; rfl, HB2.out⟩
    | some s =>
      have HFA := Lib.hid hf
      obtain ⟨_, hfat, _⟩ := fm_some hf
      have hv1 := vw_at (k := 1) hf
      have s1 := sh1 ⟨s.free, Fm.free_lt hfat.ok⟩
      simp only at s1
      cases d1 : decide (s.free >>> 1 = 0) with
      | false =>
        rw [d1] at s1
        have s3 : (((s.free : Nat) : Int) / 2 != 0) = true := by rw [bne, s1]; rfl
        have HE : Hid (rlO h f = none) := rl2 (by rw [hv1, if_neg (of_decide_eq_false d1)])
        clear hh hf hfat hv1 d1
        go_enter Try.func11, Try.ntmps11
        go_wp2_with fail
        refine (parseFormula_any h _).mono ?_
        rintro eo w1 ⟨p, rfl, hb1, hp⟩
        obtain ⟨H, rfl, ht⟩ := parse_yes HHA.out hp
        have HB1 := Lib.hid hb1
        clear hp hb1 ht
        go_wp2_with fail
        refine (parseFormula_any f _).mono ?_
        rintro eo w2 ⟨q, rfl, hb2, hq⟩
        obtain ⟨H2, rfl, ht2⟩ := parse_yes HFA.out hq
        have HB2 := Lib.hid (HB1.out.trans (hb2.mono HB1.out.size))
        have c3 := free_cell ht2
        clear hq hb2 ht2
        go_wp2
        go_ret2
        exact ⟨by rw [HE.out]; rfl, HB2.out⟩
      | true =>
        rw [d1] at s1
        have s3 : (((s.free : Nat) : Int) / 2 != 0) = false := by rw [bne, s1]; rfl
        have HE : Hid (rlO h f = wi s a) := rl4 hh (by rw [hv1, if_pos (of_decide_eq_true d1)])
        have HFS := Lib.hid (of_decide_eq_true d1)
        obtain ⟨o, ho⟩ : ∃ o, wi s a = o := ⟨_, rfl⟩
        rw [ho] at HE
        have HO := Lib.hid ho
        have HSF := Lib.hid (res_short o)
        clear hh hf hfat hv1 d1 ho
        go_enter Try.func11, Try.ntmps11
        go_wp2_with fail
        refine (parseFormula_any h _).mono ?_
        rintro eo w1 ⟨p, rfl, hb1, hp⟩
        obtain ⟨H, rfl, ht⟩ := parse_yes HHA.out hp
        have HB1 := Lib.hid hb1
        have HT1 := Lib.hid (ok_of HHA.out ht)
        clear hp hb1 ht
        go_wp2_with fail
        refine (parseFormula_any f _).mono ?_
        rintro eo w2 ⟨q, rfl, hb2, hq⟩
        obtain ⟨H2, rfl, ht2⟩ := parse_yes HFA.out hq
        have HB2 := Lib.hid (HB1.out.trans (hb2.mono HB1.out.size))
        have c3 := free_cell ht2
        have HR := Lib.hid (relativized_any s H2 HFS.out a (by have := HT1.out.2.1; omega) HT1.out.2.2 H w2 (ok_of HFA.out ht2) (HT1.out.below hb2).1)
        clear hq hb2 ht2
        go_wp2_with fail
        refine HR.out.mono ?_
        rintro eo w3 ⟨rfl, hb3⟩
        rw [HO.out]
        have HB3 := Lib.hid (HB2.out.trans (hb3.mono HB2.out.size))
        clear hb3 c3
        go_wp2_with fail
        refine (shortFormula_any (optS o) o.isSome _ (resS o) (resB o) HSF.out).mono ?_
        rintro eo w4 ⟨rfl, rfl⟩
        rw [← HE.out]
        go_wp2
        go_ret2
        exact ⟨rfl, HB3.out⟩
end Go.Proofs.Ytefneihlgclkbaa.fmrl
