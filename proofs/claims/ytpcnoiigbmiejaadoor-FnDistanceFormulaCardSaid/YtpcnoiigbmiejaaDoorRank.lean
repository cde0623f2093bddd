/- RankOf, WidthOf and FormulaValid of the program. -/
import Derived.Test.YtpcnoiigbmiejaaDoorFmZz
import Derived.Test.YtpcnoiigbmiejaaDoorPkR
namespace Go.Proofs.YtpcnoiigbmiejaaDoor.rnk
set_option linter.unusedVariables false
set_option linter.unusedSimpArgs false
open Go.Shelf
open Go.ChangeShapes Go.WideShapes Go.ChangeAt Go.RowKit
open Go.Proofs.YtpcnoiigbmiejaaDoor.lib Go.Proofs.YtpcnoiigbmiejaaDoor.fm Go.Proofs.YtpcnoiigbmiejaaDoor.fms Go.Proofs.YtpcnoiigbmiejaaDoor.fmp Go.Proofs.YtpcnoiigbmiejaaDoor.fmq Go.Proofs.YtpcnoiigbmiejaaDoor.fme Go.Proofs.YtpcnoiigbmiejaaDoor.fmt Go.Proofs.YtpcnoiigbmiejaaDoor.fmu Go.Proofs.YtpcnoiigbmiejaaDoor.fmzz Go.Proofs.YtpcnoiigbmiejaaDoor.dft Go.Proofs.YtpcnoiigbmiejaaDoor.keys Go.Proofs.YtpcnoiigbmiejaaDoor.rdb

theorem run_add {P : Program} {x y : ByteArray} (hx : x.size ≤ 32000000) (hy : y.size ≤ 32000000) : ∀ W : World, (Op.stringOp .add x y).run P W = .ok (.string (x ++ y)) W := fun W => run_string_add_sum (P := P) (w := W) x y (by omega)
def isC (c : Nat) : Bool := decide (c = 50 ∨ c = 51 ∨ c = 52)
set_option maxRecDepth 20000 in
theorem c_at0 : ∀ c : Fin 256, decide (0 ≤ Lib.indexByte [50, 51, 52] (UInt8.ofNat c.1)) = isC c.1 := by decide
theorem isCounting_any (T : TypeId) (H : Nat) (op : UInt8) (vs ps : List Nat) (fr al : Nat) (w : World) (hn : fmt.Node T w H op vs ps fr al) :
    Calls Tryd.prog 139 #[.pointer (some ⟨H, 0, none⟩)] w fun e w' => e = .returned (.bool (isC op.toNat)) ∧ w = w' := by
  obtain ⟨vv, pv, _, _, c0, _⟩ := hn.cells
  have HQ : Hid (decide (0 ≤ Lib.indexByte [50, 51, 52] op) = isC op.toNat) := by
    have hv := c_at0 ⟨op.toNat, op.toNat_lt⟩
    simp only [UInt8.ofNat_toNat] at hv
    exact hv
  have HI : Hid (∀ W, Calls Tryd.prog 179 #[.string ⟨#[50, 51, 52]⟩, .int .u8 op.toNat] W fun e w' => e = .returned (.int .i64 (Lib.indexByte [50, 51, 52] op)) ∧ W = w') := fun W => by
    have h := Any.strings_IndexByte Tryd.lays137 ⟨#[50, 51, 52]⟩ op.toNat W
    refine h.mono fun e w' hh => ⟨?_, hh.2.symm⟩
    rw [hh.1]
    simp
  obtain ⟨z, hz⟩ : ∃ z, z = Lib.indexByte [50, 51, 52] op := ⟨_, rfl⟩
  rw [← hz] at HQ HI
  clear hz
  go_enter Tryd.func139, Tryd.ntmps139
  go_wp2_with fail
  refine (HI.out _).mono ?_
  rintro e w1 ⟨rfl, rfl⟩
  go_wp2
  go_ret
  exact ⟨by rw [← HQ.out]; rfl, rfl⟩
/-- what the operator itself adds -/
def own (op : UInt8) : Nat := if isC op.toNat = true then op.toNat - 48 else if isQ op.toNat = true then 1 else 0
theorem isC_cases {op : UInt8} (h : isC op.toNat = true) : op = 50 ∨ op = 51 ∨ op = 52 := by
  have h := of_decide_eq_true h
  rcases h with h | h | h
  · exact .inl (UInt8.toNat_inj.1 h)
  · exact .inr (.inl (UInt8.toNat_inj.1 h))
  · exact .inr (.inr (UInt8.toNat_inj.1 h))
theorem fold_le {l : List Nat} {B : Nat} (h : ∀ r, r ∈ l → r ≤ B) : ∀ m, m ≤ B → l.foldl max m ≤ B := by
  induction l with
  | nil => intro m hm; exact hm
  | cons x l ih => intro m hm; exact ih (fun r hr => h r (List.mem_cons_of_mem _ hr)) _ (by have := h x (List.mem_cons_self ..); omega)
set_option maxHeartbeats 3200000 in
set_option maxRecDepth 100000 in
theorem rank_node (H : Nat) (op : UInt8) (vs ps : List Nat) (fr al : Nat) (rs : List Nat) (w : World) (hn : fmt.Node 84 w H op vs ps fr al) (hl : rs.length = ps.length) (hb : ∀ r, r ∈ rs → r ≤ 20000) (hp : ps.length ≤ 2)
    (ih : ∀ (i K r : Nat), ps[i]? = some K → rs[i]? = some r → Calls Tryd.prog 93 #[.pointer (some ⟨K, 0, none⟩)] w fun e w' => e = .returned (.int .i64 (r : Nat)) ∧ w = w') :
    Calls Tryd.prog 93 #[.pointer (some ⟨H, 0, none⟩)] w fun e w' => e = .returned (.int .i64 ((rs.foldl max 0 + own op : Nat))) ∧ w = w' := by
  have HC : Hid (∀ W, W = w → Calls Tryd.prog 139 #[.pointer (some ⟨H, 0, none⟩)] W fun e w' => e = .returned (.bool (isC op.toNat)) ∧ W = w') := fun W h => by subst h; exact isCounting_any _ H op vs ps fr al _ hn
  have HQ : Hid (∀ W, W = w → Calls Tryd.prog 140 #[.pointer (some ⟨H, 0, none⟩)] W fun e w' => e = .returned (.bool (isQ op.toNat)) ∧ W = w') := fun W h => by subst h; exact isQuantifier_any _ H op vs ps fr al _ hn
  obtain ⟨vv, pv, -, hpv, c0, -, c2, -⟩ := hn.cells
  obtain ⟨ao, cap, rfl, hrow⟩ := hpv
  rw [List.length_map] at c2
  obtain ⟨n, hnn⟩ : ∃ n, n = ps.length := ⟨_, rfl⟩
  rw [← hnn] at c2 hl hp
  have HROW := Lib.hid (show _ ∧ _ from ⟨hrow, hnn⟩)
  have IH := Lib.hid ih
  have HL := Lib.hid hl
  have HB := Lib.hid hb
  have C0 := Lib.hid c0
  clear hrow hnn ih hn hl hb c0
  go_enter Tryd.func93, Tryd.ntmps93
  go_wp2
  go_loop [3, 11] (fun rv iv => ∃ i m : Nat, i ≤ n ∧ iv = .int .i64 i ∧ rv = .int .i64 m ∧ m ≤ 20000 ∧ Hid (m = (rs.take i).foldl max 0)) (fun _ iv => n - (intOf iv).toNat)
  case atStart => exact ⟨0, 0, Nat.zero_le _, rfl, rfl, by omega, rfl⟩
  case round =>
    obtain ⟨i, m, hi, rfl, rfl, hm, HM⟩ := hrel
    by_cases hlt : i < n
    · obtain ⟨K, hK⟩ : ∃ K, ps[i]? = some K := ⟨ps[i]'(by have := HROW.out.2; omega), List.getElem?_eq_getElem _⟩
      obtain ⟨r, hr⟩ : ∃ r, rs[i]? = some r := ⟨rs[i]'(by have := HL.out; omega), List.getElem?_eq_getElem _⟩
      have hr2 : r ≤ 20000 := HB.out r (List.mem_of_getElem? hr)
      obtain ⟨b, off, hao, hc⟩ : ∃ b off, ao = some ⟨b, off, none⟩ ∧ w.cell? ⟨b, off + i, none⟩ = some (.pointer (some ⟨K, 0, none⟩)) := by
        have hps : i < ps.length := by have := HROW.out.2; omega
        rcases HROW.out.1 with h | ⟨b, off, h, hc⟩
        · have := congrArg List.length h; rw [List.length_map] at this; simp at this; rw [this] at hps; simp at hps
        · refine ⟨b, off, h, ?_⟩
          have h2 := hc i (by rw [List.length_map]; exact hps)
          rw [h2]
          rw [List.getElem?_eq_getElem hps] at hK
          simp only [Option.some.injEq] at hK
          simp [hK]
      subst hao
      have HCALL := Lib.hid (IH.out i K r hK hr)
      have HMM : Hid (max m r = (rs.take (i + 1)).foldl max 0) := by
        rw [Hid, List.take_add_one, hr, List.foldl_append, ← HM.out]; rfl
      have hmx : max m r ≤ 20000 := by omega
      clear hK hr
      obtain ⟨x, hx⟩ : ∃ x : Nat, x = max m r := ⟨_, rfl⟩
      rw [← hx] at HMM hmx
      have tx : max (m : Int) (r : Int) = (x : Int) := by omega
      clear hx
      go_wp2_with fail
      refine (HCALL.out).mono ?_
      rintro e w1 ⟨rfl, rfl⟩
      go_wp2
      go_round
      case rel => exact ⟨i + 1, x, by omega, by go_num, by first | rfl | (rw [tx]) | (congr 1), hmx, HMM⟩
      case measure => simp [intOf]; omega
    · obtain rfl : i = n := by omega
      have HF : Hid (m = rs.foldl max 0) := by rw [Hid, HM.out, List.take_of_length_le (by have := HL.out; omega)]
      have c0 := C0.out
      clear HM IH
      go_wp2_with fail
      refine (HC.out _ rfl).mono ?_
      rintro e w1 ⟨rfl, rfl⟩
      cases hcc : isC op.toNat with
      | true =>
        have HO : Hid (own op = op.toNat - 48) := by unfold own; rw [hcc]; rfl
        have hop := isC_cases hcc
        clear hcc HC HQ
        rcases hop with rfl | rfl | rfl
        all_goals
          go_wp2
          go_ret
          exact ⟨by rw [← HF.out, HO.out]; rfl, rfl⟩
      | false =>
        go_wp2_with fail
        refine (HQ.out _ rfl).mono ?_
        rintro e w1 ⟨rfl, rfl⟩
        cases hqq : isQ op.toNat with
        | true =>
          have HO : Hid (own op = 1) := by unfold own; rw [hcc, hqq]; rfl
          go_wp2
          go_ret
          exact ⟨by rw [← HF.out, HO.out]; rfl, rfl⟩
        | false =>
          have HO : Hid (own op = 0) := by unfold own; rw [hcc, hqq]; rfl
          go_wp2
          go_ret
          exact ⟨by rw [← HF.out, HO.out]; rfl, rfl⟩
theorem tf_cases {c : UInt8} (h : sort c = .tf) : c = 116 ∨ c = 102 := by
  revert h
  unfold sort
  repeat' split
  all_goals simp_all
theorem r_cases {c : UInt8} (h : sort c = .r) : c = 61 ∨ c = 69 := by
  revert h
  unfold sort
  repeat' split
  all_goals simp_all
theorem two_cases {c : UInt8} (h : sort c = .two) : c = 38 ∨ c = 124 := by
  revert h
  unfold sort
  repeat' split
  all_goals simp_all
theorem qu_cases {c : UInt8} (h : sort c = .qu) : c = 65 ∨ c = 83 ∨ c = 50 ∨ c = 51 ∨ c = 52 := by
  revert h
  unfold sort
  repeat' split
  all_goals simp_all
theorem own_qu {c : UInt8} (h : sort c = .qu) : own c = (if c = 65 ∨ c = 83 then 1 else c.toNat - 48) ∧ own c ≤ 4 := by
  rcases qu_cases h with rfl | rfl | rfl | rfl | rfl <;> decide
theorem rank_le : ∀ a : Fm, a.ok → rankF a ≤ 4 * a.txt.length
  | .tf _, _ => Nat.zero_le _
  | .p _, _ => Nat.zero_le _
  | .r _ _ _, _ => Nat.zero_le _
  | .no a, h => by
    have := rank_le a h
    show rankF a ≤ 4 * (a.txt.length + 1); omega
  | .two _ a b, h => by
    have h1 := rank_le a h.2.1
    have h2 := rank_le b h.2.2
    show max (rankF a) (rankF b) ≤ 4 * ((a.txt ++ b.txt).length + 1)
    rw [List.length_append]; omega
  | .qu o _ a, h => by
    have h1 := rank_le a h.2.2
    have h2 := own_qu h.1
    show rankF a + (if o = 65 ∨ o = 83 then 1 else o.toNat - 48) ≤ 4 * (a.txt.length + 1 + 1)
    rw [← h2.1]; omega
theorem rank_any : ∀ (a : Fm) (H : Nat) (w : World), a.ok → a.txt.length ≤ 5000 → Tree 84 w a H →
    Calls Tryd.prog 93 #[.pointer (some ⟨H, 0, none⟩)] w fun e w' => e = .returned (.int .i64 (rankF a : Nat)) ∧ w = w'
  | .tf c, H, w, hk, _, ht => by
    have h := rank_node H c [] [] 0 0 [] w ht rfl (fun r hr => by cases hr) (by decide) (fun i K r h => by simp at h)
    have ho : own c = 0 := by rcases tf_cases hk with rfl | rfl <;> rfl
    rw [ho] at h
    exact h
  | .p v, H, w, hk, _, ht => rank_node H 80 [v] [] _ _ [] w ht rfl (fun r hr => by cases hr) (by decide) (fun i K r h => by simp at h)
  | .r o v u, H, w, hk, _, ht => by
    have h := rank_node H o [v, u] [] _ _ [] w ht rfl (fun r hr => by cases hr) (by decide) (fun i K r h => by simp at h)
    have ho : own o = 0 := by rcases r_cases hk.1 with rfl | rfl <;> rfl
    rw [ho] at h
    exact h
  | .no a, H, w, hk, hz, ht => by
    obtain ⟨K, h1, h2⟩ := ht
    have hz' : a.txt.length ≤ 5000 := by have : a.txt.length + 1 ≤ 5000 := hz; omega
    have hle := rank_le a hk
    have h := rank_node H 33 [] [K] _ _ [rankF a] w h2 rfl (fun r hr => by simp at hr; omega) (by simp) (fun i K' r h3 h4 => by
      match i, h3, h4 with
      | 0, h3, h4 => simp at h3 h4; subst h3 h4; exact rank_any a K w hk hz' h1
      | i + 1, h3, h4 => simp at h3)
    have e : [rankF a].foldl max 0 + own 33 = rankF (.no a) := by show max 0 (rankF a) + 0 = rankF a; omega
    rw [e] at h
    exact h
  | .two o a b, H, w, hk, hz, ht => by
    obtain ⟨K, L, h1, h2, h3⟩ := ht
    have hz2 : (a.txt ++ b.txt).length + 1 ≤ 5000 := hz
    rw [List.length_append] at hz2
    have hla := rank_le a hk.2.1
    have hlb := rank_le b hk.2.2
    have h := rank_node H o [] [K, L] _ _ [rankF a, rankF b] w h3 rfl (fun r hr => by simp at hr; omega) (by simp) (fun i K' r h4 h5 => by
      match i, h4, h5 with
      | 0, h4, h5 => simp at h4 h5; subst h4 h5; exact rank_any a K w hk.2.1 (by omega) h1
      | 1, h4, h5 => simp at h4 h5; subst h4 h5; exact rank_any b L w hk.2.2 (by omega) h2
      | i + 2, h4, h5 => simp at h4)
    have ho : own o = 0 := by rcases two_cases hk.1 with rfl | rfl <;> rfl
    have e : [rankF a, rankF b].foldl max 0 + own o = rankF (.two o a b) := by rw [ho]; show max (max 0 (rankF a)) (rankF b) + 0 = max (rankF a) (rankF b); omega
    rw [e] at h
    exact h
  | .qu o v a, H, w, hk, hz, ht => by
    obtain ⟨K, h1, h2⟩ := ht
    have hz' : a.txt.length ≤ 5000 := by have : a.txt.length + 1 + 1 ≤ 5000 := hz; omega
    have hle := rank_le a hk.2.2
    have h := rank_node H o [v] [K] _ _ [rankF a] w h2 rfl (fun r hr => by simp at hr; omega) (by simp) (fun i K' r h3 h4 => by
      match i, h3, h4 with
      | 0, h3, h4 => simp at h3 h4; subst h3 h4; exact rank_any a K w hk.2.2 hz' h1
      | i + 1, h3, h4 => simp at h3)
    have e : [rankF a].foldl max 0 + own o = rankF (.qu o v a) := by
      rw [(own_qu hk.1).1]
      show max 0 (rankF a) + _ = rankF a + _
      rw [Nat.zero_max]
    rw [e] at h
    exact h
theorem txt_len {f : ByteArray} {a : Fm} (h : At f 0 a f.size) : a.txt.length ≤ f.size := by
  have h2 := (read_sound h.2).2.1
  have := congrArg List.length h2
  rw [List.length_append, List.length_drop, lsz] at this
  omega
theorem rankOf_any (f : ByteArray) (a : Fm) (hat : At f 0 a f.size) (hs : f.size ≤ 4000) (w : World) :
    Calls Tryd.prog 42 #[.string f] w fun e w' => e = .returned (.int .i64 (rankF a : Nat)) ∧ Below w.heap.size w w' := by
  have hfm : fmB f = true := fmB_iff.2 ⟨hs, a, hat⟩
  have HAT := Lib.hid (show _ ∧ _ ∧ _ from ⟨hat, hs, hfm⟩)
  clear hat hs hfm
  go_enter Tryd.func42, Tryd.ntmps42
  go_wp2_with fail
  refine (parseFormula_any f _).mono ?_
  rintro e w1 ⟨p, rfl, hb, hp⟩
  rcases hp with ⟨h, -⟩ | ⟨-, a', H, hat', rfl, ht⟩
  · rw [HAT.out.2.2] at h; cases h
  · obtain rfl := at_one HAT.out.1 hat'
    have HB := Lib.hid hb
    have HR := Lib.hid (rank_any a H w1 hat'.ok (by have := txt_len hat'; have := HAT.out.2.1; omega) ht)
    clear hb ht hat'
    go_wp2_with fail
    refine (HR.out).mono ?_
    rintro e w2 ⟨rfl, rfl⟩
    go_wp2
    go_ret
    exact ⟨rfl, HB.out⟩
theorem implFormulaValid_any (f : ByteArray) (a : Fm) (hat : At f 0 a f.size) (hs : f.size ≤ 4000) (w : World) :
    Calls Tryd.prog 39 #[.string f] w fun e w' => e = .returned (.bool true) ∧ Below w.heap.size w w' := by
  have hfm : fmB f = true := fmB_iff.2 ⟨hs, a, hat⟩
  have HAT := Lib.hid hfm
  clear hat hs hfm
  go_enter Tryd.func39, Tryd.ntmps39
  go_wp2_with fail
  refine (parseFormula_any f _).mono ?_
  rintro e w1 ⟨p, rfl, hb, hp⟩
  rcases hp with ⟨h, -⟩ | ⟨-, a', H, hat', rfl, ht⟩
  · rw [HAT.out] at h; cases h
  · have HB := Lib.hid hb
    clear hb ht hat'
    go_wp2
    go_ret
    exact ⟨rfl, HB.out⟩
theorem obq0 : ∀ F : Fin 16, bits .and .i64 ((F.1 : Nat) : Int) 1 = ((F.1 % 2 : Nat) : Int) := by decide
theorem obq1 : ∀ F : Fin 16, bits .and .i64 (((F.1 : Nat) : Int) / 2) 1 = ((F.1 / 2 % 2 : Nat) : Int) := by decide
theorem obq2 : ∀ F : Fin 16, bits .and .i64 (((F.1 : Nat) : Int) / 4) 1 = ((F.1 / 4 % 2 : Nat) : Int) := by decide
theorem obq3 : ∀ F : Fin 16, bits .and .i64 (((F.1 : Nat) : Int) / 8) 1 = ((F.1 / 8 % 2 : Nat) : Int) := by decide
theorem ins0 : ∀ F : Fin 16, inS F.1 0 = decide (F.1 % 2 = 1) ∧ inS F.1 1 = decide (F.1 / 2 % 2 = 1) ∧ inS F.1 2 = decide (F.1 / 4 % 2 = 1) ∧ inS F.1 3 = decide (F.1 / 8 % 2 = 1) := by decide
theorem cnt_succ (s k : Nat) : ((List.range (k + 1)).countP fun i => inS s i) = ((List.range k).countP fun i => inS s i) + if inS s k = true then 1 else 0 := by
  rw [List.range_succ, List.countP_append, List.countP_singleton]
set_option maxHeartbeats 3200000 in
set_option maxRecDepth 100000 in
theorem varsText_any (F : Nat) (hF : F < 16) (w : World) : Calls Tryd.prog 94 #[.int .i64 (F : Nat)] w fun e w' => ∃ o : ByteArray, e = .returned (.string o) ∧ o.size = bits4 F ∧ w = w' := by
  have o0 := obq0 ⟨F, hF⟩
  have o1 := obq1 ⟨F, hF⟩
  have o2 := obq2 ⟨F, hF⟩
  have o3 := obq3 ⟨F, hF⟩
  simp only at o0 o1 o2 o3
  have HI := Lib.hid (ins0 ⟨F, hF⟩)
  go_enter Tryd.func94, Tryd.ntmps94
  go_wp2
  go_loop [3, 5] (fun ov v => ∃ (k : Nat) (x : ByteArray), k ≤ 4 ∧ v = .int .i64 k ∧ ov = .string x ∧ Hid (x.size = (List.range k).countP fun i => inS F i) ∧ x.size ≤ k) (fun _ v => 4 - (intOf v).toNat)
  case atStart => exact ⟨0, ⟨#[]⟩, by omega, rfl, rfl, rfl, Nat.le_refl _⟩
  case round =>
    obtain ⟨k, x, hk, rfl, rfl, HX, hx⟩ := hrel
    by_cases h4 : k < 4
    · rcases (by omega : k = 0 ∨ k = 1 ∨ k = 2 ∨ k = 3) with rfl | rfl | rfl | rfl
      · have ez : ((⟨#[97, 98, 99, 100]⟩ : ByteArray).extract 0 1).size = 1 := by decide
        have hadd := run_add (P := Tryd.prog) (x := x) (y := (⟨#[97, 98, 99, 100]⟩ : ByteArray).extract 0 1) (by omega) (by rw [ez]; omega)
        have HXS : Hid ((x ++ (⟨#[97, 98, 99, 100]⟩ : ByteArray).extract 0 1).size = x.size + 1) := by rw [Hid, ByteArray.size_append, ez]
        clear ez
        by_cases hbit : F % 2 = 1
        · have HC : Hid ((x ++ (⟨#[97, 98, 99, 100]⟩ : ByteArray).extract 0 1).size = (List.range (0 + 1)).countP fun i => inS F i) := by
            have hh : inS F 0 = true := by rw [(HI.out.1 : inS F 0 = decide (F % 2 = 1)), hbit]; rfl
            rw [Hid, HXS.out, cnt_succ, hh, HX.out]; rfl
          rw [hbit] at o0
          go_wp2
          go_round
          case rel => exact ⟨0 + 1, _, by omega, rfl, rfl, HC, by rw [HXS.out]; omega⟩
          case measure => simp [intOf]
        · have hbit : F % 2 = 0 := by omega
          have HC : Hid (x.size = (List.range (0 + 1)).countP fun i => inS F i) := by
            have hh : inS F 0 = false := by rw [(HI.out.1 : inS F 0 = decide (F % 2 = 1)), hbit]; rfl
            rw [Hid, cnt_succ, hh, HX.out]; rfl
          rw [hbit] at o0
          go_wp2
          go_round
          case rel => exact ⟨0 + 1, _, by omega, rfl, rfl, HC, by omega⟩
          case measure => simp [intOf]
      · have ez : ((⟨#[97, 98, 99, 100]⟩ : ByteArray).extract 1 2).size = 1 := by decide
        have hadd := run_add (P := Tryd.prog) (x := x) (y := (⟨#[97, 98, 99, 100]⟩ : ByteArray).extract 1 2) (by omega) (by rw [ez]; omega)
        have HXS : Hid ((x ++ (⟨#[97, 98, 99, 100]⟩ : ByteArray).extract 1 2).size = x.size + 1) := by rw [Hid, ByteArray.size_append, ez]
        clear ez
        by_cases hbit : F / 2 % 2 = 1
        · have HC : Hid ((x ++ (⟨#[97, 98, 99, 100]⟩ : ByteArray).extract 1 2).size = (List.range (1 + 1)).countP fun i => inS F i) := by
            have hh : inS F 1 = true := by rw [(HI.out.2.1 : inS F 1 = decide (F / 2 % 2 = 1)), hbit]; rfl
            rw [Hid, HXS.out, cnt_succ, hh, HX.out]; rfl
          rw [hbit] at o1
          go_wp2
          go_round
          case rel => exact ⟨1 + 1, _, by omega, rfl, rfl, HC, by rw [HXS.out]; omega⟩
          case measure => simp [intOf]
        · have hbit : F / 2 % 2 = 0 := by omega
          have HC : Hid (x.size = (List.range (1 + 1)).countP fun i => inS F i) := by
            have hh : inS F 1 = false := by rw [(HI.out.2.1 : inS F 1 = decide (F / 2 % 2 = 1)), hbit]; rfl
            rw [Hid, cnt_succ, hh, HX.out]; rfl
          rw [hbit] at o1
          go_wp2
          go_round
          case rel => exact ⟨1 + 1, _, by omega, rfl, rfl, HC, by omega⟩
          case measure => simp [intOf]
      · have ez : ((⟨#[97, 98, 99, 100]⟩ : ByteArray).extract 2 3).size = 1 := by decide
        have hadd := run_add (P := Tryd.prog) (x := x) (y := (⟨#[97, 98, 99, 100]⟩ : ByteArray).extract 2 3) (by omega) (by rw [ez]; omega)
        have HXS : Hid ((x ++ (⟨#[97, 98, 99, 100]⟩ : ByteArray).extract 2 3).size = x.size + 1) := by rw [Hid, ByteArray.size_append, ez]
        clear ez
        by_cases hbit : F / 4 % 2 = 1
        · have HC : Hid ((x ++ (⟨#[97, 98, 99, 100]⟩ : ByteArray).extract 2 3).size = (List.range (2 + 1)).countP fun i => inS F i) := by
            have hh : inS F 2 = true := by rw [(HI.out.2.2.1 : inS F 2 = decide (F / 4 % 2 = 1)), hbit]; rfl
            rw [Hid, HXS.out, cnt_succ, hh, HX.out]; rfl
          rw [hbit] at o2
          go_wp2
          go_round
          case rel => exact ⟨2 + 1, _, by omega, rfl, rfl, HC, by rw [HXS.out]; omega⟩
          case measure => simp [intOf]
        · have hbit : F / 4 % 2 = 0 := by omega
          have HC : Hid (x.size = (List.range (2 + 1)).countP fun i => inS F i) := by
            have hh : inS F 2 = false := by rw [(HI.out.2.2.1 : inS F 2 = decide (F / 4 % 2 = 1)), hbit]; rfl
            rw [Hid, cnt_succ, hh, HX.out]; rfl
          rw [hbit] at o2
          go_wp2
          go_round
          case rel => exact ⟨2 + 1, _, by omega, rfl, rfl, HC, by omega⟩
          case measure => simp [intOf]
      · have ez : ((⟨#[97, 98, 99, 100]⟩ : ByteArray).extract 3 4).size = 1 := by decide
        have hadd := run_add (P := Tryd.prog) (x := x) (y := (⟨#[97, 98, 99, 100]⟩ : ByteArray).extract 3 4) (by omega) (by rw [ez]; omega)
        have HXS : Hid ((x ++ (⟨#[97, 98, 99, 100]⟩ : ByteArray).extract 3 4).size = x.size + 1) := by rw [Hid, ByteArray.size_append, ez]
        clear ez
        by_cases hbit : F / 8 % 2 = 1
        · have HC : Hid ((x ++ (⟨#[97, 98, 99, 100]⟩ : ByteArray).extract 3 4).size = (List.range (3 + 1)).countP fun i => inS F i) := by
            have hh : inS F 3 = true := by rw [(HI.out.2.2.2 : inS F 3 = decide (F / 8 % 2 = 1)), hbit]; rfl
            rw [Hid, HXS.out, cnt_succ, hh, HX.out]; rfl
          rw [hbit] at o3
          go_wp2
          go_round
          case rel => exact ⟨3 + 1, _, by omega, rfl, rfl, HC, by rw [HXS.out]; omega⟩
          case measure => simp [intOf]
        · have hbit : F / 8 % 2 = 0 := by omega
          have HC : Hid (x.size = (List.range (3 + 1)).countP fun i => inS F i) := by
            have hh : inS F 3 = false := by rw [(HI.out.2.2.2 : inS F 3 = decide (F / 8 % 2 = 1)), hbit]; rfl
            rw [Hid, cnt_succ, hh, HX.out]; rfl
          rw [hbit] at o3
          go_wp2
          go_round
          case rel => exact ⟨3 + 1, _, by omega, rfl, rfl, HC, by omega⟩
          case measure => simp [intOf]
    · obtain rfl : k = 4 := by omega
      go_wp2
      go_ret
      exact ⟨x, rfl, HX.out, rfl⟩
theorem widthOf_any (f : ByteArray) (a : Fm) (hat : At f 0 a f.size) (hs : f.size ≤ 4000) (w : World) :
    Calls Tryd.prog 43 #[.string f] w fun e w' => e = .returned (.int .i64 (bits4 (Fm.all a) : Nat)) ∧ Below w.heap.size w w' := by
  have hfm : fmB f = true := fmB_iff.2 ⟨hs, a, hat⟩
  have HAT := Lib.hid (show _ ∧ _ ∧ _ from ⟨hat, hs, hfm⟩)
  clear hat hs hfm
  go_enter Tryd.func43, Tryd.ntmps43
  go_wp2_with fail
  refine (parseFormula_any f _).mono ?_
  rintro e w1 ⟨p, rfl, hb, hp⟩
  rcases hp with ⟨h, -⟩ | ⟨-, a', H, hat', rfl, ht⟩
  · rw [HAT.out.2.2] at h; cases h
  · obtain rfl := at_one HAT.out.1 hat'
    have HB := Lib.hid hb
    obtain ⟨op, vs, ps, hnode⟩ := ht.free
    obtain ⟨vv, pv, -, -, -, -, -, -, c4⟩ := hnode.cells
    have hlt := Fm.all_lt hat'.ok
    obtain ⟨F, hF⟩ : ∃ F, F = Fm.all a := ⟨_, rfl⟩
    rw [← hF] at c4 hlt
    have HF := Lib.hid hF
    clear hb ht hat' hnode hF
    go_wp2_with fail
    refine (varsText_any F hlt _).mono ?_
    rintro e w2 ⟨o, rfl, ho, rfl⟩
    have HO := Lib.hid ho
    clear ho c4
    go_wp2
    go_ret
    exact ⟨by rw [HO.out, HF.out]; rfl, HB.out⟩
end Go.Proofs.YtpcnoiigbmiejaaDoor.rnk
