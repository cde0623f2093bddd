/- Several texts in one: FmZ, FmZa, FmZt. -/
import Derived.Test.YtpcnoiigbmiejaaDoorPk8
/- Formulas in the program: parsePart, letters with parts: plain words. -/
namespace Go.Proofs.YtpcnoiigbmiejaaDoor.fmz
set_option linter.unusedVariables false
set_option linter.unusedSimpArgs false
open Go.ChangeShapes Go.WideShapes Go.ChangeAt Go.RowKit
open Go.Proofs.YtpcnoiigbmiejaaDoor.lib Go.Proofs.YtpcnoiigbmiejaaDoor.fm Go.Proofs.YtpcnoiigbmiejaaDoor.fmp Go.Proofs.YtpcnoiigbmiejaaDoor.fmt Go.Proofs.YtpcnoiigbmiejaaDoor.fmu Go.Proofs.YtpcnoiigbmiejaaDoor.fme Go.Proofs.YtpcnoiigbmiejaaDoor.fmf Go.Proofs.YtpcnoiigbmiejaaDoor.fmw Go.Proofs.YtpcnoiigbmiejaaDoor.fmx

open Go.Proofs.YtpcnoiigbmiejaaDoor.fmy

theorem held_at {w w2 : World} {C lo k : Nat} {p : Value} {a : Fm} (h : Held w C p a k) (hC : lo ≤ C) (hg : Agree lo w.heap.size w w2) : Tree 84 w2 a k := by
  obtain ⟨l, h2, h3, h4, _, h6⟩ := h
  exact h6 w2 fun b hb hb2 => hg b (by omega) (by omega)
theorem or_zero (x : Nat) : 0 ||| x = x := Nat.zero_or x
theorem frs_one (a : Fm) : frs [a] = a.free := or_zero _
theorem frs_two (a b : Fm) : frs [a, b] = a.free ||| b.free := congrArg (· ||| b.free) (or_zero _)
theorem als_one (a : Fm) : als (alls []) [a] = Fm.all a := or_zero _
theorem als_two (a b : Fm) : als (alls []) [a, b] = Fm.all a ||| Fm.all b := congrArg (· ||| Fm.all b) (or_zero _)
theorem als_qu (m : Nat) (a : Fm) : als (alls [m]) [a] = 1 <<< m ||| Fm.all a := congrArg (· ||| Fm.all a) (or_zero _)
theorem frs_lt {q : List Fm} (h : ∀ a, a ∈ q → a.ok) : frs q < 16 := by
  have key : ∀ (l : List Fm) (x : Nat), x < 16 → (∀ u, u ∈ l → u.ok) → l.foldl (fun x a => x ||| a.free) x < 16 := by
    intro l
    induction l with
    | nil => intro x hx _; exact hx
    | cons y l ih => intro x hx h; exact ih _ (or_lt ⟨x, hx⟩ ⟨y.free, Fm.free_lt (h y List.mem_cons_self)⟩) fun u hu => h u (List.mem_cons_of_mem _ hu)
  exact key q 0 (by decide) h
theorem als_lt {q : List Fm} {x : Nat} (hx : x < 16) (h : ∀ a, a ∈ q → a.ok) : als x q < 16 := by
  have key : ∀ (l : List Fm) (x : Nat), x < 16 → (∀ u, u ∈ l → u.ok) → l.foldl (fun x a => x ||| Fm.all a) x < 16 := by
    intro l
    induction l with
    | nil => intro x hx _; exact hx
    | cons y l ih => intro x hx h; exact ih _ (or_lt ⟨x, hx⟩ ⟨Fm.all y, Fm.all_lt (h y List.mem_cons_self)⟩) fun u hu => h u (List.mem_cons_of_mem _ hu)
  exact key q x hx h
theorem tree_no {w w2 : World} {H : Nat} {op : UInt8} {v p : Value} {q : List (Fm × Nat)} {a : Fm} (ho : op = 33) (hq : q.map (·.1) = [a]) (h : Nd w (H + 1) H op v p [] (q.map (·.2)) (frs (q.map (·.1))) (als (alls []) (q.map (·.1)))) (hh : ∀ x, x ∈ q → Held w (H + 1) p x.1 x.2) (hg : Agree H w.heap.size w w2) : Tree 84 w2 (.no a) H := by
  match q, hq with
  | [(b, k)], hq =>
    obtain rfl : b = a := by simpa using hq
    subst ho
    have := h.nodeS (Nat.le_refl _) hg
    simp only [List.map_cons, List.map_nil] at this
    rw [frs_one, als_one] at this
    exact ⟨k, held_at (hh (b, k) (by simp)) (Nat.le_succ _) hg, this⟩
theorem tree_two {w w2 : World} {H : Nat} {op : UInt8} {v p : Value} {q : List (Fm × Nat)} {a b : Fm} (hq : q.map (·.1) = [a, b]) (h : Nd w (H + 1) H op v p [] (q.map (·.2)) (frs (q.map (·.1))) (als (alls []) (q.map (·.1)))) (hh : ∀ x, x ∈ q → Held w (H + 1) p x.1 x.2) (hg : Agree H w.heap.size w w2) : Tree 84 w2 (.two op a b) H := by
  match q, hq with
  | [(a', k), (b', l)], hq =>
    obtain ⟨rfl, rfl⟩ : a' = a ∧ b' = b := by simpa using hq
    have := h.nodeS (Nat.le_refl _) hg
    simp only [List.map_cons, List.map_nil] at this
    rw [frs_two, als_two] at this
    exact ⟨k, l, held_at (hh (a', k) (by simp)) (Nat.le_succ _) hg, held_at (hh (b', l) (by simp)) (Nat.le_succ _) hg, this⟩
theorem tree_qu {w w2 : World} {H m : Nat} {op : UInt8} {v p : Value} {q : List (Fm × Nat)} {a : Fm} (hq : q.map (·.1) = [a]) (h : Nd w (H + 1) H op v p [m] (q.map (·.2)) (frs (q.map (·.1)) &&& (15 ^^^ 1 <<< m)) (als (alls [m]) (q.map (·.1)))) (hh : ∀ x, x ∈ q → Held w (H + 1) p x.1 x.2) (hg : Agree H w.heap.size w w2) : Tree 84 w2 (.qu op m a) H := by
  match q, hq with
  | [(b, k)], hq =>
    obtain rfl : b = a := by simpa using hq
    have := h.nodeS (Nat.le_refl _) hg
    simp only [List.map_cons, List.map_nil] at this
    rw [frs_one, als_qu] at this
    exact ⟨k, held_at (hh (b, k) (by simp)) (Nat.le_succ _) hg, this⟩
theorem size_drop {s t : ByteArray} {l : List UInt8} (h : s.data.toList.drop 1 = l ++ t.data.toList) (hs : 0 < s.size) : t.size < s.size := by
  have := congrArg List.length h
  rw [List.length_drop, List.length_append, lsz, lsz] at this
  omega
end Go.Proofs.YtpcnoiigbmiejaaDoor.fmz

/- Formulas in the program: parsePart, some letters. -/
namespace Go.Proofs.YtpcnoiigbmiejaaDoor.fmza
set_option linter.unusedVariables false
set_option linter.unusedSimpArgs false
open Go.ChangeShapes Go.WideShapes Go.ChangeAt Go.RowKit
open Go.Proofs.YtpcnoiigbmiejaaDoor.lib Go.Proofs.YtpcnoiigbmiejaaDoor.fm Go.Proofs.YtpcnoiigbmiejaaDoor.fmp Go.Proofs.YtpcnoiigbmiejaaDoor.fmt Go.Proofs.YtpcnoiigbmiejaaDoor.fmu Go.Proofs.YtpcnoiigbmiejaaDoor.fme Go.Proofs.YtpcnoiigbmiejaaDoor.fmf Go.Proofs.YtpcnoiigbmiejaaDoor.fmw Go.Proofs.YtpcnoiigbmiejaaDoor.fmx

open Go.Proofs.YtpcnoiigbmiejaaDoor.fmy Go.Proofs.YtpcnoiigbmiejaaDoor.fmz
set_option maxHeartbeats 6400000 in
set_option maxRecDepth 100000 in
theorem part_33 (s : ByteArray) (hs : s.size ≤ 4000) (h0 : 0 < s.size) (hne : s.toList.isEmpty = false) (hx : s[0].toNat = 33) (ih : ∀ t : ByteArray, t.size < s.size → ∀ w, Calls Tryd.prog 135 #[.string t] w (PartP 84 w t.data.toList)) (w : World) :
    Calls Tryd.prog 135 #[.string s] w (PartP 84 w s.data.toList) := by
  have e116 : ((s[0].toNat : Int) == 116) = false := by simp; omega
  have e102 : ((s[0].toNat : Int) == 102) = false := by simp; omega
  have e80 : ((s[0].toNat : Int) == 80) = false := by simp; omega
  have e61 : ((s[0].toNat : Int) == 61) = false := by simp; omega
  have e69 : ((s[0].toNat : Int) == 69) = false := by simp; omega
  have e33 : ((s[0].toNat : Int) == 33) = true := by simp; omega
  have HSO : Hid (sort s[0] = .no) := sort_of 33 hx rfl
  have HQ : Hid (isQ s[0].toNat = false) := by rw [hx]; rfl
  have HS0 : Hid (s.data.toList = s[0] :: s.data.toList.drop 1) := (full_of h0).2
  have hs1 : 0 < s.size := h0
  have IH := Lib.hid ih
  have TL0 : Hid (s.data.toList.drop 1 = ([] : List Nat).map vb ++ (s.extract 1 s.size).data.toList) := by rw [tail_one]; rfl
  have ND0 : Hid (Nd (w.alloc (.cells #[.int .u8 s[0].toNat, .slice none 0 0, .slice none 0 0, .int .i64 0, .int .i64 0] 84)) (w.heap.size + 1) w.heap.size s[0] (.slice none 0 0) (.slice none 0 0) [] [] 0 (alls []) ∧ Below w.heap.size w (w.alloc (.cells #[.int .u8 s[0].toNat, .slice none 0 0, .slice none 0 0, .int .i64 0, .int .i64 0] 84))) := ⟨Nd.new w s[0], (Below.refl _ _).alloc (Nat.le_refl _) _⟩
  clear hx ih
  go_enter Tryd.func135, Tryd.ntmps135
  go_wp2_with fail
  go_loopw [0, 41] (fun s0 i wr => ∃ (k : Nat) (t : ByteArray) (us : List Nat) (v : Value), k ≤ 0 ∧ us.length = k ∧ i = .int .i64 k ∧ s0 = .string t ∧ Hid (s.data.toList.drop 1 = us.map vb ++ t.data.toList) ∧ Hid (Nd wr (w.heap.size + 1) w.heap.size s[0] v (.slice none 0 0) us [] 0 (alls us) ∧ Below w.heap.size w wr)) (fun _ i _ => 0 - (intOf i).toNat)
  case atStart => exact ⟨0, _, [], _, Nat.zero_le _, rfl, rfl, rfl, TL0, ND0.out⟩
  case round =>
    clear TL0 ND0
    obtain ⟨k, t, us, v, hk, hul, rfl, rfl, HL, HN⟩ := hrel
    have cc := HN.out.1.cells
    obtain ⟨c0, c1, c2, c3, c4⟩ := cc
    have hH := Lib.hid HN.out.1.hlt
    obtain rfl : k = 0 := by omega
    · have hus : us = [] := List.length_eq_zero_iff.1 hul
      subst hus
      clear hul
      have f3 := HN.out.1.free 3
      have HN3 : Hid (Nd ((wr.setCell ⟨w.heap.size, 3, none⟩ (.int .i64 (alls ([] : List Nat) : Nat))).setCell ⟨w.heap.size, 3, none⟩ (.int .i64 0)) (w.heap.size + 1) w.heap.size s[0] v (.slice none 0 0) ([] : List Nat) [] 0 (alls ([] : List Nat)) ∧ Below w.heap.size w ((wr.setCell ⟨w.heap.size, 3, none⟩ (.int .i64 (alls ([] : List Nat) : Nat))).setCell ⟨w.heap.size, 3, none⟩ (.int .i64 0))) :=
        ⟨(HN.out.1.setF _ HN.out.1.fl.2).setF 0 (by decide), (HN.out.2.setCell (p := ⟨w.heap.size, 3, none⟩) (Nat.le_refl _) _).setCell (p := ⟨w.heap.size, 3, none⟩) (Nat.le_refl _) _⟩
      go_wp2_with fail
      obtain ⟨w4, hw4⟩ : ∃ QZ, QZ = (wr.setCell ⟨w.heap.size, 3, none⟩ (.int .i64 (alls ([] : List Nat) : Nat))).setCell ⟨w.heap.size, 3, none⟩ (.int .i64 0) := ⟨_, rfl⟩
      rw [← hw4] at HN3 ⊢
      clear hw4 HN c0 c1 c2 c3 c4 f3 hH
      go_loopw [0, 90] (fun s0 i wr => ∃ (k : Nat) (t2 : ByteArray) (q : List (Fm × Nat)) (p : Value), k ≤ 1 ∧ q.length = k ∧ i = .int .i64 k ∧ s0 = .string t2 ∧ Hid (Chain t.data.toList (q.map (·.1)) t2.data.toList) ∧ Hid (Nd wr (w.heap.size + 1) w.heap.size s[0] v p ([] : List Nat) (q.map (·.2)) (frs (q.map (·.1))) (als (alls ([] : List Nat)) (q.map (·.1))) ∧ Below w.heap.size w wr ∧ ∀ x, x ∈ q → Held wr (w.heap.size + 1) p x.1 x.2)) (fun _ i _ => 1 - (intOf i).toNat)
      case atStart => exact ⟨0, t, [], .slice none 0 0, Nat.zero_le _, rfl, rfl, rfl, rfl, HN3.out.1, HN3.out.2, fun x hx => by cases hx⟩
      case round =>
        clear HN3
        obtain ⟨k, t2, q, p, hk, hql, rfl, rfl, HC, HN⟩ := hrel
        obtain ⟨c0, c1, c2, c3, c4⟩ := HN.out.1.cells
        have hH := Lib.hid HN.out.1.hlt
        obtain rfl | rfl : k = 0 ∨ k = 1 := by omega
        · have hlt : t2.size < s.size := by
            have h1 := chain_len HC.out
            have h2 := size_drop HL.out hs1
            rw [lsz, lsz] at h1
            omega
          have HI := Lib.hid (IH.out t2 hlt wr)
          clear hlt
          cases hr : read t2.data.toList with
          | none =>
            have HR : Hid (read s.data.toList = none) := by rw [HS0.out, HL.out, chain_nil HC.out (by rw [List.length_map]; exact hql)]; show read (s[0] :: t2.data.toList) = _; rw [read_no HSO.out, hr]
            have HRT := Lib.hid hr
            clear hr
            go_wp2_with fail
            refine HI.out.mono ?_
            rintro eo w1 ⟨p1, t1, rfl, hb, hm⟩
            rw [HRT.out] at hm
            obtain rfl : p1 = .pointer none := hm
            have HB1 := Lib.hid (HN.out.2.1.trans (hb.mono HN.out.2.1.size))
            clear hb
            go_wp2
            go_ret2
            exact ⟨_, _, rfl, HB1.out, by rw [HR.out]; rfl⟩
          | some x =>
            obtain ⟨a, r⟩ := x
            have HRT := Lib.hid hr
            have haok := Lib.hid (read_sound hr).1
            clear hr
            go_wp2_with fail
            refine HI.out.mono ?_
            rintro eo w1 ⟨p1, t1, rfl, hb, hm⟩
            rw [HRT.out] at hm
            obtain ⟨ht1, K, rfl, hts⟩ := hm
            have HT1 := Lib.hid ht1
            have HO : Hid (w1.ownsRow (w.heap.size + 1) 80 1 p 0 (pv (q.map (·.2)))) := by have h := own_below HN.out.1.ps hb (Nat.le_refl _); rw [List.length_map, hql] at h; exact h
            have HN1 : Hid (Nd w1 (w.heap.size + 1) w.heap.size s[0] v p ([] : List Nat) (q.map (·.2)) (frs (q.map (·.1))) (als (alls ([] : List Nat)) (q.map (·.1))) ∧ Below w.heap.size w w1 ∧ (∀ x, x ∈ q → Held w1 (w.heap.size + 1) p x.1 x.2) ∧ Held w1 (w.heap.size + 1) p a K) :=
              ⟨HN.out.1.below hb (Nat.le_refl _), HN.out.2.1.trans (hb.mono HN.out.2.1.size), fun x hx => (HN.out.2.2 x hx).call hb (Nat.le_refl _), Held.new HN.out.1.ps hH.out hts⟩
            have HZ : Hid (0 + 1 ≤ 4398046511104 ∧ w.heap.size + 1 ≤ w1.heap.size) := ⟨by decide, HN1.out.1.hlt⟩
            clear ht1 hb hts c0 c1 c2 c3 c4 hH HN HI
            obtain ⟨c0, c1, c2, c3, c4⟩ := HN1.out.1.cells
            have f2 := HN1.out.1.free 2
            have hlt1 : w.heap.size < w1.heap.size := HZ.out.2
            go_wp2_with (at_builtin; refine wpList_app1 w1 rfl (.tmp 104) (.tmp 106) 82 rfl (w.heap.size + 1) 80 (.pointer none) 8 Tryd.underlying82 infoP rfl (by decide) _ _ _ (.pointer (some ⟨K, 0, none⟩)) rfl HO.out w1.heap.size rfl rfl rfl HZ.out.1 HZ.out.2 ?_)
            intro g cap' w2 hown hgr
            have fc := (HN1.out.1.grewP hgr).1
            have ff := (HN1.out.1.grewP hgr).2
            have HN2 : Hid (Nd (w2.setCell ⟨w.heap.size, 2, none⟩ (.slice (some ⟨g, 0, none⟩) (0 + 1) cap')) (w.heap.size + 1) w.heap.size s[0] v (.slice (some ⟨g, 0, none⟩) (0 + 1) cap') ([] : List Nat) (q.map (·.2) ++ [K]) (frs (q.map (·.1))) (als (alls ([] : List Nat)) (q.map (·.1))) ∧ Below w.heap.size w (w2.setCell ⟨w.heap.size, 2, none⟩ (.slice (some ⟨g, 0, none⟩) (0 + 1) cap')) ∧ ∀ x, x ∈ q ++ [(a, K)] → Held (w2.setCell ⟨w.heap.size, 2, none⟩ (.slice (some ⟨g, 0, none⟩) (0 + 1) cap')) (w.heap.size + 1) (.slice (some ⟨g, 0, none⟩) (0 + 1) cap') x.1 x.2) := by
              refine ⟨HN1.out.1.appP (u := K) (n := 0) (by rw [List.length_map]; exact hql.symm) hown hgr, (below_grew HN1.out.2.1 hgr HO.out (Nat.le_succ _)).setCell (p := ⟨w.heap.size, 2, none⟩) (Nat.le_refl _) _, fun x hx => ?_⟩
              rcases List.mem_append.1 hx with hx | hx
              · exact ((HN1.out.2.2.1 x hx).app hgr).setH (Nat.lt_succ_self _) _ _
              · rw [List.mem_singleton.1 hx]; exact (HN1.out.2.2.2.app hgr).setH (Nat.lt_succ_self _) _ _
            go_wp2_with fail
            obtain ⟨w5, hw5⟩ : ∃ QZ, QZ = w2.setCell ⟨w.heap.size, 2, none⟩ (.slice (some ⟨g, 0, none⟩) (0 + 1) cap') := ⟨_, rfl⟩
            rw [← hw5] at HN2 ⊢
            obtain ⟨p5, hp5⟩ : ∃ QZ, QZ = Value.slice (some ⟨g, 0, none⟩) (0 + 1) cap' := ⟨_, rfl⟩
            rw [← hp5] at HN2
            clear hw5 hp5 hown hgr fc ff HN1 c0 c1 c2 c3 c4 f2 hlt1 HO HZ
            obtain ⟨c0, c1, c2, c3, c4⟩ := HN2.out.1.cells
            have f3 := HN2.out.1.free 3
            have hK : ∃ vv pvv op, w5.cell? ⟨K, 3, none⟩ = some (.int .i64 (a.free : Nat)) ∧ w5.cell? ⟨K, 4, none⟩ = some (.int .i64 (Fm.all a : Nat)) ∧ vv = v ∧ pvv = v ∧ op = s[0] := by
              obtain ⟨lo, hi, h1, h2, h3, h4⟩ := HN2.out.2.2 (a, K) (by simp)
              obtain ⟨op, vs, ps, hn⟩ := h4.tree.free
              obtain ⟨_, _, _, _, _, _, _, d3, d4⟩ := hn.cells
              exact ⟨v, v, s[0], d3, d4, rfl, rfl, rfl⟩
            obtain ⟨_, _, _, d3, d4, -, -, -⟩ := hK
            go_region
            have HN6 : Hid (Nd (w5.setCell ⟨w.heap.size, 3, none⟩ (.int .i64 (bits .or .i64 (frs (q.map (·.1)) : Nat) (a.free : Nat)))).drew (w.heap.size + 1) w.heap.size s[0] v p5 ([] : List Nat) (q.map (·.2) ++ [K]) (frs (q.map (·.1) ++ [a])) (als (alls ([] : List Nat)) (q.map (·.1))) ∧ Below w.heap.size w (w5.setCell ⟨w.heap.size, 3, none⟩ (.int .i64 (bits .or .i64 (frs (q.map (·.1)) : Nat) (a.free : Nat)))).drew ∧ ∀ x, x ∈ q ++ [(a, K)] → Held (w5.setCell ⟨w.heap.size, 3, none⟩ (.int .i64 (bits .or .i64 (frs (q.map (·.1)) : Nat) (a.free : Nat)))).drew (w.heap.size + 1) p5 x.1 x.2) := by
              have e : bits .or .i64 (frs (q.map (·.1)) : Nat) (a.free : Nat) = ((frs (q.map (·.1) ++ [a]) : Nat) : Int) := by rw [frs_snoc]; exact b_or HN2.out.1.fl.1 (Fm.free_lt haok.out)
              rw [e]
              have hl : frs (q.map (·.1) ++ [a]) < 16 := by rw [frs_snoc]; exact or_lt ⟨_, HN2.out.1.fl.1⟩ ⟨_, Fm.free_lt haok.out⟩
              exact ⟨(HN2.out.1.setF _ hl).drew, (HN2.out.2.1.setCell (p := ⟨w.heap.size, 3, none⟩) (Nat.le_refl _) _).drew, fun x hx => (HN2.out.2.2 x hx).setH (Nat.lt_succ_self _) _ _⟩
            go_wp2_with fail
            obtain ⟨w6, hw6⟩ : ∃ QZ, QZ = (w5.setCell ⟨w.heap.size, 3, none⟩ (.int .i64 (bits .or .i64 (frs (q.map (·.1)) : Nat) (a.free : Nat)))).drew := ⟨_, rfl⟩
            rw [← hw6] at HN6 ⊢
            clear hw6 HN2 c0 c1 c2 c3 c4 f3 d3 d4
            obtain ⟨c0, c1, c2, c3, c4⟩ := HN6.out.1.cells
            have f4 := HN6.out.1.free 4
            have d4 : w6.cell? ⟨K, 4, none⟩ = some (.int .i64 (Fm.all a : Nat)) := by
              obtain ⟨lo, hi, h1, h2, h3, h4⟩ := HN6.out.2.2 (a, K) (by simp)
              obtain ⟨op, vs, ps, hn⟩ := h4.tree.free
              obtain ⟨_, _, _, _, _, _, _, _, d4⟩ := hn.cells
              exact d4
            go_region
            have HN7 : Hid (Nd (w6.setCell ⟨w.heap.size, 4, none⟩ (.int .i64 (bits .or .i64 (als (alls ([] : List Nat)) (q.map (·.1)) : Nat) (Fm.all a : Nat)))).drew (w.heap.size + 1) w.heap.size s[0] v p5 ([] : List Nat) ((q ++ [(a, K)]).map (·.2)) (frs ((q ++ [(a, K)]).map (·.1))) (als (alls ([] : List Nat)) ((q ++ [(a, K)]).map (·.1))) ∧ Below w.heap.size w (w6.setCell ⟨w.heap.size, 4, none⟩ (.int .i64 (bits .or .i64 (als (alls ([] : List Nat)) (q.map (·.1)) : Nat) (Fm.all a : Nat)))).drew ∧ ∀ x, x ∈ q ++ [(a, K)] → Held (w6.setCell ⟨w.heap.size, 4, none⟩ (.int .i64 (bits .or .i64 (als (alls ([] : List Nat)) (q.map (·.1)) : Nat) (Fm.all a : Nat)))).drew (w.heap.size + 1) p5 x.1 x.2) := by
              have e : bits .or .i64 (als (alls ([] : List Nat)) (q.map (·.1)) : Nat) (Fm.all a : Nat) = ((als (alls ([] : List Nat)) (q.map (·.1) ++ [a]) : Nat) : Int) := by rw [als_snoc]; exact b_or HN6.out.1.fl.2 (Fm.all_lt haok.out)
              rw [e, List.map_append, List.map_append]
              have hl : als (alls ([] : List Nat)) (q.map (·.1) ++ [a]) < 16 := by rw [als_snoc]; exact or_lt ⟨_, HN6.out.1.fl.2⟩ ⟨_, Fm.all_lt haok.out⟩
              exact ⟨(HN6.out.1.setA _ hl).drew, (HN6.out.2.1.setCell (p := ⟨w.heap.size, 4, none⟩) (Nat.le_refl _) _).drew, fun x hx => (HN6.out.2.2 x hx).setH (Nat.lt_succ_self _) _ _⟩
            have HC2 : Hid (Chain t.data.toList ((q ++ [(a, K)]).map (·.1)) t1.data.toList) := by
              rw [List.map_append]
              exact HC.out.snoc (by rw [HRT.out, HT1.out])
            clear HN6 c0 c1 c2 c3 c4 f4 d4
            go_wp2
            go_roundw
            case rel => first | exact ⟨_, _, _, _, _, _, ⟨0 + 1, by decide, t1, q ++ [(a, K)], by simp [hql], rfl, rfl, HC2, p5, HN7.out.1, HN7.out.2.1, fun x y h => HN7.out.2.2 (x, y) h⟩, rfl, rfl, rfl, rfl, rfl, rfl⟩ | exact ⟨0 + 1, t1, q ++ [(a, K)], p5, by decide, by simp [hql], by first | rfl | go_num, rfl, HC2, HN7⟩
            case measure => simp [intOf]
        · have HR : Hid (∃ a, q.map (·.1) = [a] ∧ read s.data.toList = some (.no a, t2.data.toList)) := by obtain ⟨a, h1, h2⟩ := chain_one HC.out (by rw [List.length_map]; exact hql); exact ⟨a, h1, by rw [HS0.out, HL.out]; show read (s[0] :: t.data.toList) = _; rw [read_no HSO.out, h2]⟩
          go_wp2_with fail
          refine (isQuantifier_any 84 w.heap.size s[0] ([] : List Nat) (q.map (·.2)) (frs (q.map (·.1))) (als (alls ([] : List Nat)) (q.map (·.1))) _ HN.out.1.node).mono ?_
          rintro eo w1 ⟨rfl, rfl⟩
          rw [HQ.out]
          go_wp2
          go_ret2
          exact ⟨_, _, rfl, HN.out.2.1, by obtain ⟨a, h1, h2⟩ := HR.out; rw [h2]; exact ⟨rfl, w.heap.size, rfl, fun _ hg => tree_no (sort_no HSO.out) h1 HN.out.1 HN.out.2.2 hg⟩⟩
end Go.Proofs.YtpcnoiigbmiejaaDoor.fmza

/- Formulas in the program: parsePart, some letters. -/
namespace Go.Proofs.YtpcnoiigbmiejaaDoor.fmzt
set_option linter.unusedVariables false
set_option linter.unusedSimpArgs false
open Go.ChangeShapes Go.WideShapes Go.ChangeAt Go.RowKit
open Go.Proofs.YtpcnoiigbmiejaaDoor.lib Go.Proofs.YtpcnoiigbmiejaaDoor.fm Go.Proofs.YtpcnoiigbmiejaaDoor.fmp Go.Proofs.YtpcnoiigbmiejaaDoor.fmt Go.Proofs.YtpcnoiigbmiejaaDoor.fmu Go.Proofs.YtpcnoiigbmiejaaDoor.fme Go.Proofs.YtpcnoiigbmiejaaDoor.fmf Go.Proofs.YtpcnoiigbmiejaaDoor.fmw Go.Proofs.YtpcnoiigbmiejaaDoor.fmx

open Go.Proofs.YtpcnoiigbmiejaaDoor.fmy Go.Proofs.YtpcnoiigbmiejaaDoor.fmz
set_option maxHeartbeats 6400000 in
set_option maxRecDepth 100000 in
theorem part_t (s : ByteArray) (hs : s.size ≤ 4000) (h0 : 0 < s.size) (hne : s.toList.isEmpty = false) (hx : s[0].toNat = 38 ∨ s[0].toNat = 124) (ih : ∀ t : ByteArray, t.size < s.size → ∀ w, Calls Tryd.prog 135 #[.string t] w (PartP 84 w t.data.toList)) (w : World) :
    Calls Tryd.prog 135 #[.string s] w (PartP 84 w s.data.toList) := by
  have HSO : Hid (sort s[0] = .two) := by
    rcases hx with hx | hx
    · exact sort_of 38 hx rfl
    · exact sort_of 124 hx rfl
  have HQ : Hid (isQ s[0].toNat = false) := by
    rcases hx with hx | hx <;> (rw [Hid, hx]; rfl)
  have HS0 : Hid (s.data.toList = s[0] :: s.data.toList.drop 1) := (full_of h0).2
  have hs1 : 0 < s.size := h0
  have IH := Lib.hid ih
  have TL0 : Hid (s.data.toList.drop 1 = ([] : List Nat).map vb ++ (s.extract 1 s.size).data.toList) := by rw [tail_one]; rfl
  have ND0 : Hid (Nd (w.alloc (.cells #[.int .u8 s[0].toNat, .slice none 0 0, .slice none 0 0, .int .i64 0, .int .i64 0] 84)) (w.heap.size + 1) w.heap.size s[0] (.slice none 0 0) (.slice none 0 0) [] [] 0 (alls []) ∧ Below w.heap.size w (w.alloc (.cells #[.int .u8 s[0].toNat, .slice none 0 0, .slice none 0 0, .int .i64 0, .int .i64 0] 84))) := ⟨Nd.new w s[0], (Below.refl _ _).alloc (Nat.le_refl _) _⟩
  have HXX := Lib.hid hx
  clear hx ih
  go_enter Tryd.func135, Tryd.ntmps135
  go_upto_region 5 with (fail)
  rename_i KB hKB
  go_cut [17] from 16 to 17 (fun v17 wx => v17 = .int .u8 s[0].toNat ∧ wx = w.alloc (.cells #[.int .u8 s[0].toNat, .slice none 0 0, .slice none 0 0, .int .i64 0, .int .i64 0] 84))
  case first =>
    go_wp2_with fail
    go_meet
    exact ⟨rfl, rfl⟩
  obtain ⟨rfl, rfl⟩ := hcut
  refine hKB _ _ ?_
  clear hKB
  go_cut [5, 6] from 16 to 37 (fun v5 v6 wx => v5 = .int .i64 0 ∧ v6 = .int .i64 2 ∧ wx = w.alloc (.cells #[.int .u8 s[0].toNat, .slice none 0 0, .slice none 0 0, .int .i64 0, .int .i64 0] 84))
  case first =>
    have HX1 := HXX.out
    clear TL0 ND0
    rcases HX1 with HX1 | HX1
    · have e116 : ((s[0].toNat : Int) == 116) = false := by simp; omega
      have e102 : ((s[0].toNat : Int) == 102) = false := by simp; omega
      have e80 : ((s[0].toNat : Int) == 80) = false := by simp; omega
      have e61 : ((s[0].toNat : Int) == 61) = false := by simp; omega
      have e69 : ((s[0].toNat : Int) == 69) = false := by simp; omega
      have e33 : ((s[0].toNat : Int) == 33) = false := by simp; omega
      have e38 : ((s[0].toNat : Int) == 38) = true := by simp; omega
      clear HX1
      go_wp2_with fail
      go_meet
      exact ⟨rfl, rfl, rfl⟩
    · have e116 : ((s[0].toNat : Int) == 116) = false := by simp; omega
      have e102 : ((s[0].toNat : Int) == 102) = false := by simp; omega
      have e80 : ((s[0].toNat : Int) == 80) = false := by simp; omega
      have e61 : ((s[0].toNat : Int) == 61) = false := by simp; omega
      have e69 : ((s[0].toNat : Int) == 69) = false := by simp; omega
      have e33 : ((s[0].toNat : Int) == 33) = false := by simp; omega
      have e38 : ((s[0].toNat : Int) == 38) = false := by simp; omega
      have e124 : ((s[0].toNat : Int) == 124) = true := by simp; omega
      clear HX1
      go_wp2_with fail
      go_meet
      exact ⟨rfl, rfl, rfl⟩
  case rest =>
    obtain ⟨rfl, rfl, rfl⟩ := hcut
    clear HXX
    go_wp2_with fail
    go_loopw [0, 41] (fun s0 i wr => ∃ (k : Nat) (t : ByteArray) (us : List Nat) (v : Value), k ≤ 0 ∧ us.length = k ∧ i = .int .i64 k ∧ s0 = .string t ∧ Hid (s.data.toList.drop 1 = us.map vb ++ t.data.toList) ∧ Hid (Nd wr (w.heap.size + 1) w.heap.size s[0] v (.slice none 0 0) us [] 0 (alls us) ∧ Below w.heap.size w wr)) (fun _ i _ => 0 - (intOf i).toNat)
    case atStart => exact ⟨0, _, [], _, Nat.zero_le _, rfl, rfl, rfl, TL0, ND0.out⟩
    case round =>
      clear TL0 ND0
      obtain ⟨k, t, us, v, hk, hul, rfl, rfl, HL, HN⟩ := hrel
      have cc := HN.out.1.cells
      obtain ⟨c0, c1, c2, c3, c4⟩ := cc
      have hH := Lib.hid HN.out.1.hlt
      obtain rfl : k = 0 := by omega
      · have hus : us = [] := List.length_eq_zero_iff.1 hul
        subst hus
        clear hul
        have f3 := HN.out.1.free 3
        have HN3 : Hid (Nd ((wr.setCell ⟨w.heap.size, 3, none⟩ (.int .i64 (alls ([] : List Nat) : Nat))).setCell ⟨w.heap.size, 3, none⟩ (.int .i64 0)) (w.heap.size + 1) w.heap.size s[0] v (.slice none 0 0) ([] : List Nat) [] 0 (alls ([] : List Nat)) ∧ Below w.heap.size w ((wr.setCell ⟨w.heap.size, 3, none⟩ (.int .i64 (alls ([] : List Nat) : Nat))).setCell ⟨w.heap.size, 3, none⟩ (.int .i64 0))) :=
          ⟨(HN.out.1.setF _ HN.out.1.fl.2).setF 0 (by decide), (HN.out.2.setCell (p := ⟨w.heap.size, 3, none⟩) (Nat.le_refl _) _).setCell (p := ⟨w.heap.size, 3, none⟩) (Nat.le_refl _) _⟩
        go_wp2_with fail
        obtain ⟨w4, hw4⟩ : ∃ QZ, QZ = (wr.setCell ⟨w.heap.size, 3, none⟩ (.int .i64 (alls ([] : List Nat) : Nat))).setCell ⟨w.heap.size, 3, none⟩ (.int .i64 0) := ⟨_, rfl⟩
        rw [← hw4] at HN3 ⊢
        clear hw4 HN c0 c1 c2 c3 c4 f3 hH
        go_loopw [0, 90] (fun s0 i wr => ∃ (k : Nat) (t2 : ByteArray) (q : List (Fm × Nat)) (p : Value), k ≤ 2 ∧ q.length = k ∧ i = .int .i64 k ∧ s0 = .string t2 ∧ Hid (Chain t.data.toList (q.map (·.1)) t2.data.toList) ∧ Hid (Nd wr (w.heap.size + 1) w.heap.size s[0] v p ([] : List Nat) (q.map (·.2)) (frs (q.map (·.1))) (als (alls ([] : List Nat)) (q.map (·.1))) ∧ Below w.heap.size w wr ∧ ∀ x, x ∈ q → Held wr (w.heap.size + 1) p x.1 x.2)) (fun _ i _ => 2 - (intOf i).toNat)
        case atStart => exact ⟨0, t, [], .slice none 0 0, Nat.zero_le _, rfl, rfl, rfl, rfl, HN3.out.1, HN3.out.2, fun x hx => by cases hx⟩
        case round =>
          clear HN3
          obtain ⟨k, t2, q, p, hk, hql, rfl, rfl, HC, HN⟩ := hrel
          obtain ⟨c0, c1, c2, c3, c4⟩ := HN.out.1.cells
          have hH := Lib.hid HN.out.1.hlt
          obtain rfl | rfl | rfl : k = 0 ∨ k = 1 ∨ k = 2 := by omega
          · have hlt : t2.size < s.size := by
              have h1 := chain_len HC.out
              have h2 := size_drop HL.out hs1
              rw [lsz, lsz] at h1
              omega
            have HI := Lib.hid (IH.out t2 hlt wr)
            clear hlt
            cases hr : read t2.data.toList with
            | none =>
              have HR : Hid (read s.data.toList = none) := by rw [HS0.out, HL.out, chain_nil HC.out (by rw [List.length_map]; exact hql)]; show read (s[0] :: t2.data.toList) = _; rw [read_two HSO.out, hr]
              have HRT := Lib.hid hr
              clear hr
              go_wp2_with fail
              refine HI.out.mono ?_
              rintro eo w1 ⟨p1, t1, rfl, hb, hm⟩
              rw [HRT.out] at hm
              obtain rfl : p1 = .pointer none := hm
              have HB1 := Lib.hid (HN.out.2.1.trans (hb.mono HN.out.2.1.size))
              clear hb
              go_wp2
              go_ret2
              exact ⟨_, _, rfl, HB1.out, by rw [HR.out]; rfl⟩
            | some x =>
              obtain ⟨a, r⟩ := x
              have HRT := Lib.hid hr
              have haok := Lib.hid (read_sound hr).1
              clear hr
              go_wp2_with fail
              refine HI.out.mono ?_
              rintro eo w1 ⟨p1, t1, rfl, hb, hm⟩
              rw [HRT.out] at hm
              obtain ⟨ht1, K, rfl, hts⟩ := hm
              have HT1 := Lib.hid ht1
              have HO : Hid (w1.ownsRow (w.heap.size + 1) 80 1 p 0 (pv (q.map (·.2)))) := by have h := own_below HN.out.1.ps hb (Nat.le_refl _); rw [List.length_map, hql] at h; exact h
              have HN1 : Hid (Nd w1 (w.heap.size + 1) w.heap.size s[0] v p ([] : List Nat) (q.map (·.2)) (frs (q.map (·.1))) (als (alls ([] : List Nat)) (q.map (·.1))) ∧ Below w.heap.size w w1 ∧ (∀ x, x ∈ q → Held w1 (w.heap.size + 1) p x.1 x.2) ∧ Held w1 (w.heap.size + 1) p a K) :=
                ⟨HN.out.1.below hb (Nat.le_refl _), HN.out.2.1.trans (hb.mono HN.out.2.1.size), fun x hx => (HN.out.2.2 x hx).call hb (Nat.le_refl _), Held.new HN.out.1.ps hH.out hts⟩
              have HZ : Hid (0 + 1 ≤ 4398046511104 ∧ w.heap.size + 1 ≤ w1.heap.size) := ⟨by decide, HN1.out.1.hlt⟩
              clear ht1 hb hts c0 c1 c2 c3 c4 hH HN HI
              obtain ⟨c0, c1, c2, c3, c4⟩ := HN1.out.1.cells
              have f2 := HN1.out.1.free 2
              have hlt1 : w.heap.size < w1.heap.size := HZ.out.2
              go_wp2_with (at_builtin; refine wpList_app1 w1 rfl (.tmp 104) (.tmp 106) 82 rfl (w.heap.size + 1) 80 (.pointer none) 8 Tryd.underlying82 infoP rfl (by decide) _ _ _ (.pointer (some ⟨K, 0, none⟩)) rfl HO.out w1.heap.size rfl rfl rfl HZ.out.1 HZ.out.2 ?_)
              intro g cap' w2 hown hgr
              have fc := (HN1.out.1.grewP hgr).1
              have ff := (HN1.out.1.grewP hgr).2
              have HN2 : Hid (Nd (w2.setCell ⟨w.heap.size, 2, none⟩ (.slice (some ⟨g, 0, none⟩) (0 + 1) cap')) (w.heap.size + 1) w.heap.size s[0] v (.slice (some ⟨g, 0, none⟩) (0 + 1) cap') ([] : List Nat) (q.map (·.2) ++ [K]) (frs (q.map (·.1))) (als (alls ([] : List Nat)) (q.map (·.1))) ∧ Below w.heap.size w (w2.setCell ⟨w.heap.size, 2, none⟩ (.slice (some ⟨g, 0, none⟩) (0 + 1) cap')) ∧ ∀ x, x ∈ q ++ [(a, K)] → Held (w2.setCell ⟨w.heap.size, 2, none⟩ (.slice (some ⟨g, 0, none⟩) (0 + 1) cap')) (w.heap.size + 1) (.slice (some ⟨g, 0, none⟩) (0 + 1) cap') x.1 x.2) := by
                refine ⟨HN1.out.1.appP (u := K) (n := 0) (by rw [List.length_map]; exact hql.symm) hown hgr, (below_grew HN1.out.2.1 hgr HO.out (Nat.le_succ _)).setCell (p := ⟨w.heap.size, 2, none⟩) (Nat.le_refl _) _, fun x hx => ?_⟩
                rcases List.mem_append.1 hx with hx | hx
                · exact ((HN1.out.2.2.1 x hx).app hgr).setH (Nat.lt_succ_self _) _ _
                · rw [List.mem_singleton.1 hx]; exact (HN1.out.2.2.2.app hgr).setH (Nat.lt_succ_self _) _ _
              go_wp2_with fail
              obtain ⟨w5, hw5⟩ : ∃ QZ, QZ = w2.setCell ⟨w.heap.size, 2, none⟩ (.slice (some ⟨g, 0, none⟩) (0 + 1) cap') := ⟨_, rfl⟩
              rw [← hw5] at HN2 ⊢
              obtain ⟨p5, hp5⟩ : ∃ QZ, QZ = Value.slice (some ⟨g, 0, none⟩) (0 + 1) cap' := ⟨_, rfl⟩
              rw [← hp5] at HN2
              clear hw5 hp5 hown hgr fc ff HN1 c0 c1 c2 c3 c4 f2 hlt1 HO HZ
              obtain ⟨c0, c1, c2, c3, c4⟩ := HN2.out.1.cells
              have f3 := HN2.out.1.free 3
              have hK : ∃ vv pvv op, w5.cell? ⟨K, 3, none⟩ = some (.int .i64 (a.free : Nat)) ∧ w5.cell? ⟨K, 4, none⟩ = some (.int .i64 (Fm.all a : Nat)) ∧ vv = v ∧ pvv = v ∧ op = s[0] := by
                obtain ⟨lo, hi, h1, h2, h3, h4⟩ := HN2.out.2.2 (a, K) (by simp)
                obtain ⟨op, vs, ps, hn⟩ := h4.tree.free
                obtain ⟨_, _, _, _, _, _, _, d3, d4⟩ := hn.cells
                exact ⟨v, v, s[0], d3, d4, rfl, rfl, rfl⟩
              obtain ⟨_, _, _, d3, d4, -, -, -⟩ := hK
              go_region
              have HN6 : Hid (Nd (w5.setCell ⟨w.heap.size, 3, none⟩ (.int .i64 (bits .or .i64 (frs (q.map (·.1)) : Nat) (a.free : Nat)))).drew (w.heap.size + 1) w.heap.size s[0] v p5 ([] : List Nat) (q.map (·.2) ++ [K]) (frs (q.map (·.1) ++ [a])) (als (alls ([] : List Nat)) (q.map (·.1))) ∧ Below w.heap.size w (w5.setCell ⟨w.heap.size, 3, none⟩ (.int .i64 (bits .or .i64 (frs (q.map (·.1)) : Nat) (a.free : Nat)))).drew ∧ ∀ x, x ∈ q ++ [(a, K)] → Held (w5.setCell ⟨w.heap.size, 3, none⟩ (.int .i64 (bits .or .i64 (frs (q.map (·.1)) : Nat) (a.free : Nat)))).drew (w.heap.size + 1) p5 x.1 x.2) := by
                have e : bits .or .i64 (frs (q.map (·.1)) : Nat) (a.free : Nat) = ((frs (q.map (·.1) ++ [a]) : Nat) : Int) := by rw [frs_snoc]; exact b_or HN2.out.1.fl.1 (Fm.free_lt haok.out)
                rw [e]
                have hl : frs (q.map (·.1) ++ [a]) < 16 := by rw [frs_snoc]; exact or_lt ⟨_, HN2.out.1.fl.1⟩ ⟨_, Fm.free_lt haok.out⟩
                exact ⟨(HN2.out.1.setF _ hl).drew, (HN2.out.2.1.setCell (p := ⟨w.heap.size, 3, none⟩) (Nat.le_refl _) _).drew, fun x hx => (HN2.out.2.2 x hx).setH (Nat.lt_succ_self _) _ _⟩
              go_wp2_with fail
              obtain ⟨w6, hw6⟩ : ∃ QZ, QZ = (w5.setCell ⟨w.heap.size, 3, none⟩ (.int .i64 (bits .or .i64 (frs (q.map (·.1)) : Nat) (a.free : Nat)))).drew := ⟨_, rfl⟩
              rw [← hw6] at HN6 ⊢
              clear hw6 HN2 c0 c1 c2 c3 c4 f3 d3 d4
              obtain ⟨c0, c1, c2, c3, c4⟩ := HN6.out.1.cells
              have f4 := HN6.out.1.free 4
              have d4 : w6.cell? ⟨K, 4, none⟩ = some (.int .i64 (Fm.all a : Nat)) := by
                obtain ⟨lo, hi, h1, h2, h3, h4⟩ := HN6.out.2.2 (a, K) (by simp)
                obtain ⟨op, vs, ps, hn⟩ := h4.tree.free
                obtain ⟨_, _, _, _, _, _, _, _, d4⟩ := hn.cells
                exact d4
              go_region
              have HN7 : Hid (Nd (w6.setCell ⟨w.heap.size, 4, none⟩ (.int .i64 (bits .or .i64 (als (alls ([] : List Nat)) (q.map (·.1)) : Nat) (Fm.all a : Nat)))).drew (w.heap.size + 1) w.heap.size s[0] v p5 ([] : List Nat) ((q ++ [(a, K)]).map (·.2)) (frs ((q ++ [(a, K)]).map (·.1))) (als (alls ([] : List Nat)) ((q ++ [(a, K)]).map (·.1))) ∧ Below w.heap.size w (w6.setCell ⟨w.heap.size, 4, none⟩ (.int .i64 (bits .or .i64 (als (alls ([] : List Nat)) (q.map (·.1)) : Nat) (Fm.all a : Nat)))).drew ∧ ∀ x, x ∈ q ++ [(a, K)] → Held (w6.setCell ⟨w.heap.size, 4, none⟩ (.int .i64 (bits .or .i64 (als (alls ([] : List Nat)) (q.map (·.1)) : Nat) (Fm.all a : Nat)))).drew (w.heap.size + 1) p5 x.1 x.2) := by
                have e : bits .or .i64 (als (alls ([] : List Nat)) (q.map (·.1)) : Nat) (Fm.all a : Nat) = ((als (alls ([] : List Nat)) (q.map (·.1) ++ [a]) : Nat) : Int) := by rw [als_snoc]; exact b_or HN6.out.1.fl.2 (Fm.all_lt haok.out)
                rw [e, List.map_append, List.map_append]
                have hl : als (alls ([] : List Nat)) (q.map (·.1) ++ [a]) < 16 := by rw [als_snoc]; exact or_lt ⟨_, HN6.out.1.fl.2⟩ ⟨_, Fm.all_lt haok.out⟩
                exact ⟨(HN6.out.1.setA _ hl).drew, (HN6.out.2.1.setCell (p := ⟨w.heap.size, 4, none⟩) (Nat.le_refl _) _).drew, fun x hx => (HN6.out.2.2 x hx).setH (Nat.lt_succ_self _) _ _⟩
              have HC2 : Hid (Chain t.data.toList ((q ++ [(a, K)]).map (·.1)) t1.data.toList) := by
                rw [List.map_append]
                exact HC.out.snoc (by rw [HRT.out, HT1.out])
              clear HN6 c0 c1 c2 c3 c4 f4 d4
              go_wp2
              go_roundw
              case rel => first | exact ⟨_, _, _, _, _, _, ⟨0 + 1, by decide, t1, q ++ [(a, K)], by simp [hql], rfl, rfl, HC2, p5, HN7.out.1, HN7.out.2.1, fun x y h => HN7.out.2.2 (x, y) h⟩, rfl, rfl, rfl, rfl, rfl, rfl⟩ | exact ⟨0 + 1, t1, q ++ [(a, K)], p5, by decide, by simp [hql], by first | rfl | go_num, rfl, HC2, HN7⟩
              case measure => simp [intOf]
          · have hlt : t2.size < s.size := by
              have h1 := chain_len HC.out
              have h2 := size_drop HL.out hs1
              rw [lsz, lsz] at h1
              omega
            have HI := Lib.hid (IH.out t2 hlt wr)
            clear hlt
            cases hr : read t2.data.toList with
            | none =>
              have HR : Hid (read s.data.toList = none) := by obtain ⟨a, h1, h2⟩ := chain_one HC.out (by rw [List.length_map]; exact hql); rw [HS0.out, HL.out]; show read (s[0] :: t.data.toList) = _; rw [read_two HSO.out, h2]; simp only; rw [hr]
              have HRT := Lib.hid hr
              clear hr
              go_wp2_with fail
              refine HI.out.mono ?_
              rintro eo w1 ⟨p1, t1, rfl, hb, hm⟩
              rw [HRT.out] at hm
              obtain rfl : p1 = .pointer none := hm
              have HB1 := Lib.hid (HN.out.2.1.trans (hb.mono HN.out.2.1.size))
              clear hb
              go_wp2
              go_ret2
              exact ⟨_, _, rfl, HB1.out, by rw [HR.out]; rfl⟩
            | some x =>
              obtain ⟨a, r⟩ := x
              have HRT := Lib.hid hr
              have haok := Lib.hid (read_sound hr).1
              clear hr
              go_wp2_with fail
              refine HI.out.mono ?_
              rintro eo w1 ⟨p1, t1, rfl, hb, hm⟩
              rw [HRT.out] at hm
              obtain ⟨ht1, K, rfl, hts⟩ := hm
              have HT1 := Lib.hid ht1
              have HO : Hid (w1.ownsRow (w.heap.size + 1) 80 1 p 1 (pv (q.map (·.2)))) := by have h := own_below HN.out.1.ps hb (Nat.le_refl _); rw [List.length_map, hql] at h; exact h
              have HN1 : Hid (Nd w1 (w.heap.size + 1) w.heap.size s[0] v p ([] : List Nat) (q.map (·.2)) (frs (q.map (·.1))) (als (alls ([] : List Nat)) (q.map (·.1))) ∧ Below w.heap.size w w1 ∧ (∀ x, x ∈ q → Held w1 (w.heap.size + 1) p x.1 x.2) ∧ Held w1 (w.heap.size + 1) p a K) :=
                ⟨HN.out.1.below hb (Nat.le_refl _), HN.out.2.1.trans (hb.mono HN.out.2.1.size), fun x hx => (HN.out.2.2 x hx).call hb (Nat.le_refl _), Held.new HN.out.1.ps hH.out hts⟩
              have HZ : Hid (1 + 1 ≤ 4398046511104 ∧ w.heap.size + 1 ≤ w1.heap.size) := ⟨by decide, HN1.out.1.hlt⟩
              clear ht1 hb hts c0 c1 c2 c3 c4 hH HN HI
              obtain ⟨c0, c1, c2, c3, c4⟩ := HN1.out.1.cells
              have f2 := HN1.out.1.free 2
              have hlt1 : w.heap.size < w1.heap.size := HZ.out.2
              go_wp2_with (at_builtin; refine wpList_app1 w1 rfl (.tmp 104) (.tmp 106) 82 rfl (w.heap.size + 1) 80 (.pointer none) 8 Tryd.underlying82 infoP rfl (by decide) _ _ _ (.pointer (some ⟨K, 0, none⟩)) rfl HO.out w1.heap.size rfl rfl rfl HZ.out.1 HZ.out.2 ?_)
              intro g cap' w2 hown hgr
              have fc := (HN1.out.1.grewP hgr).1
              have ff := (HN1.out.1.grewP hgr).2
              have HN2 : Hid (Nd (w2.setCell ⟨w.heap.size, 2, none⟩ (.slice (some ⟨g, 0, none⟩) (1 + 1) cap')) (w.heap.size + 1) w.heap.size s[0] v (.slice (some ⟨g, 0, none⟩) (1 + 1) cap') ([] : List Nat) (q.map (·.2) ++ [K]) (frs (q.map (·.1))) (als (alls ([] : List Nat)) (q.map (·.1))) ∧ Below w.heap.size w (w2.setCell ⟨w.heap.size, 2, none⟩ (.slice (some ⟨g, 0, none⟩) (1 + 1) cap')) ∧ ∀ x, x ∈ q ++ [(a, K)] → Held (w2.setCell ⟨w.heap.size, 2, none⟩ (.slice (some ⟨g, 0, none⟩) (1 + 1) cap')) (w.heap.size + 1) (.slice (some ⟨g, 0, none⟩) (1 + 1) cap') x.1 x.2) := by
                refine ⟨HN1.out.1.appP (u := K) (n := 1) (by rw [List.length_map]; exact hql.symm) hown hgr, (below_grew HN1.out.2.1 hgr HO.out (Nat.le_succ _)).setCell (p := ⟨w.heap.size, 2, none⟩) (Nat.le_refl _) _, fun x hx => ?_⟩
                rcases List.mem_append.1 hx with hx | hx
                · exact ((HN1.out.2.2.1 x hx).app hgr).setH (Nat.lt_succ_self _) _ _
                · rw [List.mem_singleton.1 hx]; exact (HN1.out.2.2.2.app hgr).setH (Nat.lt_succ_self _) _ _
              go_wp2_with fail
              obtain ⟨w5, hw5⟩ : ∃ QZ, QZ = w2.setCell ⟨w.heap.size, 2, none⟩ (.slice (some ⟨g, 0, none⟩) (1 + 1) cap') := ⟨_, rfl⟩
              rw [← hw5] at HN2 ⊢
              obtain ⟨p5, hp5⟩ : ∃ QZ, QZ = Value.slice (some ⟨g, 0, none⟩) (1 + 1) cap' := ⟨_, rfl⟩
              rw [← hp5] at HN2
              clear hw5 hp5 hown hgr fc ff HN1 c0 c1 c2 c3 c4 f2 hlt1 HO HZ
              obtain ⟨c0, c1, c2, c3, c4⟩ := HN2.out.1.cells
              have f3 := HN2.out.1.free 3
              have hK : ∃ vv pvv op, w5.cell? ⟨K, 3, none⟩ = some (.int .i64 (a.free : Nat)) ∧ w5.cell? ⟨K, 4, none⟩ = some (.int .i64 (Fm.all a : Nat)) ∧ vv = v ∧ pvv = v ∧ op = s[0] := by
                obtain ⟨lo, hi, h1, h2, h3, h4⟩ := HN2.out.2.2 (a, K) (by simp)
                obtain ⟨op, vs, ps, hn⟩ := h4.tree.free
                obtain ⟨_, _, _, _, _, _, _, d3, d4⟩ := hn.cells
                exact ⟨v, v, s[0], d3, d4, rfl, rfl, rfl⟩
              obtain ⟨_, _, _, d3, d4, -, -, -⟩ := hK
              go_region
              have HN6 : Hid (Nd (w5.setCell ⟨w.heap.size, 3, none⟩ (.int .i64 (bits .or .i64 (frs (q.map (·.1)) : Nat) (a.free : Nat)))).drew (w.heap.size + 1) w.heap.size s[0] v p5 ([] : List Nat) (q.map (·.2) ++ [K]) (frs (q.map (·.1) ++ [a])) (als (alls ([] : List Nat)) (q.map (·.1))) ∧ Below w.heap.size w (w5.setCell ⟨w.heap.size, 3, none⟩ (.int .i64 (bits .or .i64 (frs (q.map (·.1)) : Nat) (a.free : Nat)))).drew ∧ ∀ x, x ∈ q ++ [(a, K)] → Held (w5.setCell ⟨w.heap.size, 3, none⟩ (.int .i64 (bits .or .i64 (frs (q.map (·.1)) : Nat) (a.free : Nat)))).drew (w.heap.size + 1) p5 x.1 x.2) := by
                have e : bits .or .i64 (frs (q.map (·.1)) : Nat) (a.free : Nat) = ((frs (q.map (·.1) ++ [a]) : Nat) : Int) := by rw [frs_snoc]; exact b_or HN2.out.1.fl.1 (Fm.free_lt haok.out)
                rw [e]
                have hl : frs (q.map (·.1) ++ [a]) < 16 := by rw [frs_snoc]; exact or_lt ⟨_, HN2.out.1.fl.1⟩ ⟨_, Fm.free_lt haok.out⟩
                exact ⟨(HN2.out.1.setF _ hl).drew, (HN2.out.2.1.setCell (p := ⟨w.heap.size, 3, none⟩) (Nat.le_refl _) _).drew, fun x hx => (HN2.out.2.2 x hx).setH (Nat.lt_succ_self _) _ _⟩
              go_wp2_with fail
              obtain ⟨w6, hw6⟩ : ∃ QZ, QZ = (w5.setCell ⟨w.heap.size, 3, none⟩ (.int .i64 (bits .or .i64 (frs (q.map (·.1)) : Nat) (a.free : Nat)))).drew := ⟨_, rfl⟩
              rw [← hw6] at HN6 ⊢
              clear hw6 HN2 c0 c1 c2 c3 c4 f3 d3 d4
              obtain ⟨c0, c1, c2, c3, c4⟩ := HN6.out.1.cells
              have f4 := HN6.out.1.free 4
              have d4 : w6.cell? ⟨K, 4, none⟩ = some (.int .i64 (Fm.all a : Nat)) := by
                obtain ⟨lo, hi, h1, h2, h3, h4⟩ := HN6.out.2.2 (a, K) (by simp)
                obtain ⟨op, vs, ps, hn⟩ := h4.tree.free
                obtain ⟨_, _, _, _, _, _, _, _, d4⟩ := hn.cells
                exact d4
              go_region
              have HN7 : Hid (Nd (w6.setCell ⟨w.heap.size, 4, none⟩ (.int .i64 (bits .or .i64 (als (alls ([] : List Nat)) (q.map (·.1)) : Nat) (Fm.all a : Nat)))).drew (w.heap.size + 1) w.heap.size s[0] v p5 ([] : List Nat) ((q ++ [(a, K)]).map (·.2)) (frs ((q ++ [(a, K)]).map (·.1))) (als (alls ([] : List Nat)) ((q ++ [(a, K)]).map (·.1))) ∧ Below w.heap.size w (w6.setCell ⟨w.heap.size, 4, none⟩ (.int .i64 (bits .or .i64 (als (alls ([] : List Nat)) (q.map (·.1)) : Nat) (Fm.all a : Nat)))).drew ∧ ∀ x, x ∈ q ++ [(a, K)] → Held (w6.setCell ⟨w.heap.size, 4, none⟩ (.int .i64 (bits .or .i64 (als (alls ([] : List Nat)) (q.map (·.1)) : Nat) (Fm.all a : Nat)))).drew (w.heap.size + 1) p5 x.1 x.2) := by
                have e : bits .or .i64 (als (alls ([] : List Nat)) (q.map (·.1)) : Nat) (Fm.all a : Nat) = ((als (alls ([] : List Nat)) (q.map (·.1) ++ [a]) : Nat) : Int) := by rw [als_snoc]; exact b_or HN6.out.1.fl.2 (Fm.all_lt haok.out)
                rw [e, List.map_append, List.map_append]
                have hl : als (alls ([] : List Nat)) (q.map (·.1) ++ [a]) < 16 := by rw [als_snoc]; exact or_lt ⟨_, HN6.out.1.fl.2⟩ ⟨_, Fm.all_lt haok.out⟩
                exact ⟨(HN6.out.1.setA _ hl).drew, (HN6.out.2.1.setCell (p := ⟨w.heap.size, 4, none⟩) (Nat.le_refl _) _).drew, fun x hx => (HN6.out.2.2 x hx).setH (Nat.lt_succ_self _) _ _⟩
              have HC2 : Hid (Chain t.data.toList ((q ++ [(a, K)]).map (·.1)) t1.data.toList) := by
                rw [List.map_append]
                exact HC.out.snoc (by rw [HRT.out, HT1.out])
              clear HN6 c0 c1 c2 c3 c4 f4 d4
              go_wp2
              go_roundw
              case rel => first | exact ⟨_, _, _, _, _, _, ⟨1 + 1, by decide, t1, q ++ [(a, K)], by simp [hql], rfl, rfl, HC2, p5, HN7.out.1, HN7.out.2.1, fun x y h => HN7.out.2.2 (x, y) h⟩, rfl, rfl, rfl, rfl, rfl, rfl⟩ | exact ⟨1 + 1, t1, q ++ [(a, K)], p5, by decide, by simp [hql], by first | rfl | go_num, rfl, HC2, HN7⟩
              case measure => simp [intOf]
          · have HR : Hid (∃ a b, q.map (·.1) = [a, b] ∧ read s.data.toList = some (.two s[0] a b, t2.data.toList)) := by obtain ⟨a, b, m, h1, h2, h3⟩ := chain_two HC.out (by rw [List.length_map]; exact hql); exact ⟨a, b, h1, by rw [HS0.out, HL.out]; show read (s[0] :: t.data.toList) = _; rw [read_two HSO.out, h2]; simp only; rw [h3]⟩
            go_wp2_with fail
            refine (isQuantifier_any 84 w.heap.size s[0] ([] : List Nat) (q.map (·.2)) (frs (q.map (·.1))) (als (alls ([] : List Nat)) (q.map (·.1))) _ HN.out.1.node).mono ?_
            rintro eo w1 ⟨rfl, rfl⟩
            rw [HQ.out]
            go_wp2
            go_ret2
            exact ⟨_, _, rfl, HN.out.2.1, by obtain ⟨a, b, h1, h2⟩ := HR.out; rw [h2]; exact ⟨rfl, w.heap.size, rfl, fun _ hg => tree_two h1 HN.out.1 HN.out.2.2 hg⟩⟩
end Go.Proofs.YtpcnoiigbmiejaaDoor.fmzt
