/- Distances: distancesFrom, l9Distances, DistanceOf in the program and in the reference. -/
import Derived.Test.YtlnmebjbinmeiaaDoorRows
import Derived.Test.YtlnmebjbinmeiaaDoorBase
import Derived.Test.YtlnmebjbinmeiaaDoorNear
import Derived.Test.YtlnmebjbinmeiaaDoorQue
import Derived.Test.YtlnmebjbinmeiaaDoorDistP
import Derived.Deep.LoopGhost
namespace Go.Proofs.YtlnmebjbinmeiaaDoor.dist
set_option linter.unusedVariables false
set_option linter.unusedSimpArgs false
open Go.ChangeShapes Go.WideShapes Go.ChangeAt Go.RowKit
open Go.Proofs.YtlnmebjbinmeiaaDoor.lib Go.Proofs.YtlnmebjbinmeiaaDoor.st Go.Proofs.YtlnmebjbinmeiaaDoor.base Go.Proofs.YtlnmebjbinmeiaaDoor.near Go.Proofs.YtlnmebjbinmeiaaDoor.que

set_option maxHeartbeats 1600000 in
theorem besides_any (n : Nat) (w : World) (hn : n ≤ 4398046511) :
    Calls Tryd.prog 99 #[.int .i64 n] w fun e w' => ∃ v, e = .returned v ∧ OwnI 3 w' w.heap.size v (List.replicate n (-1)) ∧ Below w.heap.size w w' := by
  have he : Hid (OwnI 3 (w.alloc (.cells #[] 3)) w.heap.size (.slice (some ⟨w.heap.size, 0, none⟩) 0 0) []) := emptyRow _ _ _ _ rfl (Nat.le_refl _)
  have hb0 : Hid (Below w.heap.size w (w.alloc (.cells #[] 3))) := (Below.refl _ _).alloc (Nat.le_refl _) _
  go_enter Tryd.func99, Tryd.ntmps99
  go_wp2
  go_loopw [3, 6] (fun v i wr => ∃ k : Nat, k ≤ n ∧ i = .int .i64 k ∧ OwnI 3 wr w.heap.size v (List.replicate k (-1)) ∧ Below w.heap.size w wr) (fun _ i _ => n - (intOf i).toNat)
  case atStart => exact ⟨0, Nat.zero_le _, rfl, he.out, hb0.out⟩
  case round =>
    obtain ⟨k, hk, rfl, hown, hnx⟩ := hrel
    have HO := Lib.hid hown
    have HX := Lib.hid hnx
    clear hown hnx
    by_cases hlt : k < n
    · have hsz : w.heap.size ≤ wr.heap.size := HX.out.size
      go_wp2_with (at_builtin; refine wpList_app1 wr rfl (.tmp 8) (.tmp 9) 31 rfl w.heap.size 3 (.int .i64 0) 8 Tryd.underlying31 infoInt rfl (by decide) _ _ _ (.int .i64 (-1)) rfl HO.out wr.heap.size rfl rfl rfl (by rw [List.length_replicate]; omega) hsz ?_)
      intro g cap' w9 hown9 hgr
      have R : Hid (OwnI 3 w9 w.heap.size (.slice (some ⟨g, 0, none⟩) (k + 1) cap') (List.replicate (k + 1) (-1)) ∧ Below w.heap.size w w9) :=
        ⟨by rw [List.replicate_succ']; unfold OwnI; rw [List.length_append, ivs_append, List.length_replicate]; exact hown9, HX.out.trans (hgr.below HO.out hsz)⟩
      clear hown9 hgr hsz
      go_wp2
      go_roundw
      case rel => exact ⟨k + 1, by omega, by go_num, R.out.1, R.out.2⟩
      case measure => simp [intOf]; omega
    · obtain rfl : k = n := by omega
      go_wp2
      go_ret
      exact ⟨_, rfl, HO.out, HX.out⟩

def negs (out : List Int) : Nat := (out.filter (fun d => decide (d < 0))).length
theorem negs_set (out : List Int) (y : Nat) (d : Int) (hy : y < out.length) (h : out.getD y 0 < 0) (hd : 0 ≤ d) : negs (out.set y d) + 1 = negs out := by
  induction out generalizing y with
  | nil => simp at hy
  | cons a l ih =>
    cases y with
    | zero =>
      simp at h
      simp only [List.set_cons_zero, negs, List.filter_cons]
      rw [if_neg (by simp; omega), if_pos (by simpa using h)]
      simp
    | succ y =>
      simp at hy h
      have := ih y hy (by simpa using h)
      simp only [List.set_cons_succ, negs, List.filter_cons] at this ⊢
      split
      · simp only [List.length_cons]; omega
      · exact this
theorem negs_start (n x : Nat) (hx : x < n) : negs ((List.replicate n (-1 : Int)).set x 0) + 1 = n := by
  rw [negs_set _ _ _ (by simpa using hx) (by simp [List.getD_eq_getElem?_getD, hx]) (Int.le_refl _)]
  simp [negs]

/-- no distance is too great -/
def Bd (n : Nat) (out : List Int) : Prop := ∀ y, y < n → out.getD y 0 + negs out + 1 ≤ n
theorem Bd.put {n : Nat} {out : List Int} (h : Bd n out) (hl : out.length = n) {v y : Nat} (hv : v < n) (hy : y < n) (h0 : out.getD y 0 < 0) (hv0 : 0 ≤ out.getD v 0) : Bd n (out.set y (out.getD v 0 + 1)) := by
  intro z hz
  have h1 := negs_set out y (out.getD v 0 + 1) (by omega) h0 (by omega)
  rw [getD_set _ _ _ _ (by omega)]
  have h2 := h v hv
  have h3 := h z hz
  split <;> omega
theorem Bd.start {n x : Nat} (hx : x < n) : Bd n ((List.replicate n (-1 : Int)).set x 0) := by
  intro z hz
  have h1 := negs_start n x hx
  rw [getD_set _ _ _ _ (by simpa using hx)]
  split
  · omega
  · simp only [List.getD_eq_getElem?_getD, List.getElem?_replicate, if_pos hz, Option.getD_some]; omega

theorem Mid.weak {nb : Nat → Nat → Bool} {n x : Nat} {out : List Int} {queue : List Nat} {v : Nat} {todo todo2 : Nat → Prop} (h : Mid nb n x out queue v todo) (ht : ∀ z, todo z → todo2 z) : Mid nb n x out queue v todo2 :=
  ⟨h.len, h.lo, h.zero, h.pred, h.vn, h.v0, h.qin, h.sorted, h.top, h.closed, fun z hz hn h2 => h.done z hz hn (fun t => h2 (ht z t))⟩

/-- at the head of the search's loop -/
def Head (nb : Nat → Nat → Bool) (n x : Nat) (out : List Int) : List Nat → Prop
  | [] => IsDist nb n x out
  | q :: rest => Mid nb n x out rest q (fun _ => True)
theorem Head.of {nb : Nat → Nat → Bool} {n x : Nat} {out : List Int} {queue : List Nat} {v : Nat} {todo : Nat → Prop} (h : Mid nb n x out queue v todo) (ht : ∀ z, z < n → nb v z = true → ¬ todo z) : Head nb n x out queue := by
  cases queue with
  | nil => exact h.fin ht
  | cons q rest => exact h.pop ht

theorem nearTo_get {n : Nat} {r : ByteArray} {v : Nat} {k : Nat} (h : k < (nearTo n r v n).length) : ∃ Y : Nat, (nearTo n r v n).getD k 0 = (Y : Int) ∧ Y < n ∧ adj n r v Y = true := by
  have hm : (nearTo n r v n).getD k 0 ∈ nearTo n r v n := by
    rw [List.getD_eq_getElem?_getD, List.getElem?_eq_getElem h]; exact List.getElem_mem h
  unfold nearTo at hm ⊢
  obtain ⟨Y, hY, he⟩ := List.mem_map.1 hm
  have := List.mem_filter.1 hY
  exact ⟨Y, he.symm, List.mem_range.1 this.1, this.2⟩
theorem nearTo_mem {n : Nat} {r : ByteArray} {v z : Nat} (hz : z < n) (h : adj n r v z = true) : (z : Int) ∈ nearTo n r v n := by
  unfold nearTo
  exact List.mem_map.2 ⟨z, List.mem_filter.2 ⟨List.mem_range.2 hz, h⟩, rfl⟩

/-- what the search holds: the distances so far, the queue -/
structure Sea (w : World) (HB go co n g off m cap : Nat) (out : List Int) (Q : List Nat) : Prop where
  own : OwnI 3 w HB (.slice (some ⟨go, 0, none⟩) n co) out
  que : Que 3 w HB g off m cap (Q.map fun q : Nat => (q : Int))
  ne : go ≠ g
structure Nr (w : World) (HN go g : Nat) (nv : Value) (L : List Int) : Prop where
  own : OwnI 3 w HN nv L
  n1 : nv.ownBlock ≠ some go
  n2 : nv.ownBlock ≠ some g

variable {w w' : World} {HB HN go co n g off m cap : Nat} {out : List Int} {Q : List Nat} {nv : Value} {L : List Int}
theorem Sea.below {C : Nat} (h : Sea w HB go co n g off m cap out Q) (hb : Below C w w') (hC : w.heap.size ≤ C) : Sea w' HB go co n g off m cap out Q :=
  ⟨h.own.below hb hC, h.que.below hb hC, h.ne⟩
theorem Sea.set (h : Sea w HB go co n g off m cap out Q) (y : Nat) (d : Int) : Sea (w.setCell ⟨go, y, none⟩ (.int .i64 d)) HB go co n g off m cap (out.set y d) Q :=
  ⟨h.own.set y d, h.que.kept (h.own.setGrown y d) (fun e => h.ne (by simpa using e)), h.ne⟩
theorem Nr.set (hn : Nr w HN go g nv L) (h : Sea w HB go co n g off m cap out Q) (y : Nat) (d : Int) : Nr (w.setCell ⟨go, y, none⟩ (.int .i64 d)) HN go g nv L :=
  ⟨World.ownsRow.kept hn.own (h.own.setGrown y d) (.inr hn.n1), hn.n1, hn.n2⟩
theorem Sea.app {g' off' m' cap' y : Nat} (h : Sea w HB go co n g off m cap out Q) (hq : Que 3 w' HB g' off' m' cap' (Q.map (fun q : Nat => (q : Int)) ++ [(y : Int)])) (hg : w.grownBy w' (some g)) (hn : g' = g ∨ w.heap.size ≤ g') :
    Sea w' HB go co n g' off' m' cap' out (Q ++ [y]) := by
  refine ⟨World.ownsRow.kept h.own hg (.inr fun e => h.ne (by simpa [Value.ownBlock] using e)), by rw [List.map_append]; exact hq, ?_⟩
  rcases hn with rfl | hn
  · exact h.ne
  · have := h.own.ge; omega
theorem Nr.app {g' : Nat} (h : Nr w HN go g nv L) (hg : w.grownBy w' (some g)) (hn : g' = g ∨ w.heap.size ≤ g') : Nr w' HN go g' nv L := by
  refine ⟨World.ownsRow.kept h.own hg (.inr h.n2), h.n1, ?_⟩
  rcases hn with rfl | hn
  · exact h.n2
  · intro e
    have := (World.ownsRow.lt h.own g' e).2; omega

/-- the state of the inner loop -/
def Inner (n : Nat) (r : ByteArray) (x v : Nat) (w0 : World) (HB HN go co gk : Nat) (nv q i : Value) (wr : World) : Prop :=
  ∃ (k g off m cap : Nat) (out : List Int) (Q : List Nat), k ≤ (nearTo n r v n).length ∧ i = .int .i64 k ∧ q = .slice (some ⟨g, off, none⟩) m cap ∧ negs out + Q.length + 1 = gk ∧ Sea wr HB go co n g off m cap out Q ∧ Nr wr HN go g nv (nearTo n r v n) ∧
    Mid (adj n r) n x out Q v (fun z => (z : Int) ∉ (nearTo n r v n).take k) ∧ Bd n out ∧ Below HB w0 wr
def Outer (n : Nat) (r : ByteArray) (x : Nat) (w0 : World) (HB go co gk : Nat) (q : Value) (wr : World) : Prop :=
  ∃ (g off m cap : Nat) (out : List Int) (Q : List Nat), q = .slice (some ⟨g, off, none⟩) m cap ∧ negs out + Q.length = gk ∧ Sea wr HB go co n g off m cap out Q ∧ Head (adj n r) n x out Q ∧ Bd n out ∧ Below HB w0 wr

theorem todo_succ {L : List Int} {k : Nat} {Y : Nat} (hk : k < L.length) (hY : L.getD k 0 = (Y : Int)) (z : Nat) (h : (z : Int) ∉ L.take k ∧ z ≠ Y) : (z : Int) ∉ L.take (k + 1) := by
  rw [List.take_succ_eq_append_getElem hk]
  rw [List.getD_eq_getElem?_getD, List.getElem?_eq_getElem hk] at hY
  intro hm
  rcases List.mem_append.1 hm with hm | hm
  · exact h.1 hm
  · simp at hm hY
    rw [hY] at hm
    exact h.2 (by omega)

set_option maxHeartbeats 3200000 in
theorem distancesFrom_any (n : Nat) (s r : ByteArray) (x : Nat) (w : World) (hx : x < n) (hn : n ≤ 8) (hr : r.size = n * n) :
    Calls Tryd.prog 64 #[.agg #[.int .i64 n, .string s, .string r], .int .i64 x] w fun e w' => ∃ v out, e = .returned v ∧ OwnI 3 w' w.heap.size v out ∧ IsDist (adj n r) n x out ∧ Below w.heap.size w w' := by
  obtain ⟨HB, hHB⟩ : ∃ HB, HB = w.heap.size + 1 := ⟨_, rfl⟩
  have BX : Hid (Box 25 (w.alloc (.cells #[.int .i64 n, .string s, .string r] 25)) w.heap.size n s r) := Box.new _ w _ rfl n s r
  have AW : Hid (Below w.heap.size w (w.alloc (.cells #[.int .i64 n, .string s, .string r] 25))) := (Below.refl _ _).alloc (Nat.le_refl _) _
  have HBS : Hid ((w.alloc (.cells #[.int .i64 n, .string s, .string r] 25)).heap.size = HB) := by rw [hHB]; simp [Hid]
  have HHB := Lib.hid hHB
  have HR := Lib.hid hr
  clear hr hHB
  go_enter Tryd.func64, Tryd.ntmps64
  go_wp2_with fail
  refine (besides_any n _ (by omega)).mono ?_
  rintro e w1 ⟨v, rfl, ho, hw⟩
  have HL := negs_start n x hx
  rcases ho.shape with ⟨_, h0⟩ | ⟨go, co, rfl⟩
  · have := congrArg List.length h0
    simp at this; omega
  rw [List.length_replicate] at ho ⊢
  rw [HBS.out] at ho hw
  have HX1 := Lib.hid hw
  have hgo := ho.ge
  have HGO := Lib.hid hgo
  have hz1 := Nat.lt_of_le_of_lt hgo.1 hgo.2
  have hfz : w1.frozen? ⟨go, x, none⟩ = false := ho.free x
  have hce := ho.cell x (by simpa using hx)
  have hxl : x < (List.replicate n (-1 : Int)).length := by simpa using hx
  have hset : Sea ((w1.setCell ⟨go, x, none⟩ (.int .i64 0)).alloc (.cells #[.int .i64 x] 3)) HB go co n w1.heap.size 0 1 1 ((List.replicate n (-1)).set x 0) [x] :=
    ⟨(ho.set x 0).below ((Below.refl _ _).alloc (Nat.le_refl _) _) (Nat.le_refl _), Que.new (by simp; omega) _ _ (by simp), by omega⟩
  have hb2 : Below HB (w.alloc (.cells #[.int .i64 n, .string s, .string r] 25)) ((w1.setCell ⟨go, x, none⟩ (.int .i64 0)).alloc (.cells #[.int .i64 x] 3)) := (hw.setCell (by exact hgo.1) _).alloc (by simp; omega) _
  have S := Lib.hid (show _ ∧ _ ∧ _ from ⟨HL, hset, hb2⟩)
  clear HL hset hb2 ho hw hgo
  go_wp2
  go_loopg [6] n (fun gk q wr => Outer n r x (w.alloc (.cells #[.int .i64 n, .string s, .string r] 25)) HB go co gk q wr ∧ gk ≤ n)
  case atStart => exact ⟨⟨_, _, _, _, _, [x], rfl, S.out.1, S.out.2.1, Mid.start hx, Bd.start hx, S.out.2.2⟩, Nat.le_refl _⟩
  case round =>
    obtain ⟨⟨g, off, m, cap, out, Q, rfl, hgk, hsea, hhead, hbd, hnx⟩, hgn⟩ := hrel
    obtain ⟨wo, rfl⟩ : ∃ q : World, q = wr := ⟨_, rfl⟩
    have HBD := Lib.hid hbd
    clear hbd
    obtain ⟨c0, c1, c2⟩ := (BX.out.below hnx (by have := HHB.out; omega)).c
    have HM := Lib.hid hsea.que.len
    have HGK := Lib.hid hgk
    have HX := Lib.hid hnx
    clear hgk hnx
    cases Q with
    | nil =>
      have hm0 : m = 0 := by simpa using HM.out
      subst hm0
      have R := Lib.hid (show _ ∧ _ from ⟨hsea.own, hhead⟩)
      clear hsea hhead
      go_wp2
      go_ret
      exact ⟨_, _, rfl, R.out.1.mono (by have := HHB.out; omega), R.out.2, AW.out.trans (HX.out.mono (by have := HHB.out; omega))⟩
    | cons V Q =>
      have hq := hsea.que
      simp only [List.map_cons] at hq
      have hmc := hq.le
      have hcm := hq.max
      unfold maxLen at hcm
      have hm1 : 0 < m := by have := HM.out; simp at this; omega
      have hcell := hq.head
      have HV : Hid (Mid (adj n r) n x out Q V (fun _ => True)) := hhead
      have HS := Lib.hid hsea
      have HQ := Lib.hid hq
      have hVn : V < n := HV.out.vn
      clear hsea hq hhead
      have hnegs : negs out + Q.length + 1 = gk := by have := HGK.out; simp at this; omega
      have HNG := Lib.hid hnegs
      clear hnegs
      have HP : Hid ((cap = 1 → Que 3 wo HB g off 0 0 (Q.map fun q : Nat => (q : Int))) ∧ (Que 3 wo HB g (off + 1) (m - 1) (cap - 1) (Q.map fun q : Nat => (q : Int)))) :=
        ⟨fun h => by subst h; exact HQ.out.pop1, HQ.out.pop⟩
      obtain ⟨hown, hne⟩ : OwnI 3 wo HB (.slice (some ⟨go, 0, none⟩) n co) out ∧ go ≠ g := ⟨HS.out.own, HS.out.ne⟩
      have HO := Lib.hid (show _ ∧ _ from ⟨hown, hne⟩)
      clear hown hne
      by_cases hc1 : cap = 1
      · have HQ2 := Lib.hid (HP.out.1 hc1)
        subst hc1
        obtain rfl : m = 1 := by omega
        clear HP HQ HS
        go_wp2_with fail
        refine (nearOf_any n s r V _ hVn hn HR.out).mono ?_
        rintro e w2 ⟨nv, rfl, hno, hw⟩
        have hnl := nearTo_len n r V n
        obtain ⟨ao, cn, hnv⟩ := hno.reads.len
        obtain ⟨N, hN⟩ : ∃ N, N = (nearTo n r V n).length := ⟨_, rfl⟩
        rw [← hN] at hnl hnv
        subst hnv
        have hgg := HQ2.out.lt
        have START : Hid (Inner n r x V (w.alloc (.cells #[.int .i64 n, .string s, .string r] 25)) HB wo.heap.size go co gk (.slice ao N cn) _ (.int .i64 0) w2) :=
          ⟨0, _, _, _, _, out, Q, Nat.zero_le _, rfl, rfl, HNG.out, ⟨HO.out.1.below hw (Nat.le_refl _), HQ2.out.below hw (Nat.le_refl _), HO.out.2⟩,
            ⟨hno, fun e => by have := (World.ownsRow.lt hno go e).1; have := HO.out.1.ge; omega, fun e => by have := (World.ownsRow.lt hno g e).1; omega⟩,
            Mid.weak HV.out (fun z _ => by simp), HBD.out, HX.out.trans (hw.mono (by have := HX.out.size; have := HBS.out; omega))⟩
        have HNN := Lib.hid hN
        clear hN hno hw HO HQ2 HNG HGK hgg
        go_wp2_with fail
        go_loopw [6, 30] (fun q i wr => Inner n r x V (w.alloc (.cells #[.int .i64 n, .string s, .string r] 25)) HB wo.heap.size go co gk (.slice ao N cn) q i wr) (fun _ i _ => N - (intOf i).toNat)
        case atStart => exact START.out
        case round =>
          obtain ⟨k, g2, off2, m2, cap2, out2, Q2, hk, rfl, rfl, hng2, hsea, hnr, hmid, hbd, hnx⟩ := hrel
          have hmlen := hsea.que.len
          rw [List.length_map] at hmlen
          have hQle : m2 + 1 ≤ 4398046511104 := by omega
          have HK := Lib.hid (show _ ∧ _ ∧ _ ∧ _ ∧ _ ∧ _ ∧ _ ∧ _ from ⟨hk, hng2, hsea, hnr, hmid, hbd, hnx, hmlen⟩)
          clear hk hng2 hsea hnr hmid hbd hnx hmlen
          by_cases hlt : k < N
          · obtain ⟨Y, hY, hYn, hYa⟩ := nearTo_get (n := n) (r := r) (v := V) (k := k) (by have := HNN.out; omega)
            have hreads := HK.out.2.2.2.1.own.reads
            obtain ⟨ao', cap', hv', hcs, -⟩ := hreads
            simp only [Value.slice.injEq] at hv'
            obtain ⟨rfl, -, rfl⟩ := hv'
            rcases hcs with hcs | ⟨bn, on, rfl, hcs⟩
            · have := HNN.out; rw [hcs] at this; simp at this; omega
            have hcY := hcs k (by have := HNN.out; omega)
            rw [hY] at hcY
            obtain ⟨D, hD⟩ : ∃ D, D = out2.getD V 0 := ⟨_, rfl⟩
            obtain ⟨E, hE⟩ : ∃ E, E = out2.getD Y 0 := ⟨_, rfl⟩
            have hol := HK.out.2.2.1.own.len
            have hcV := HK.out.2.2.1.own.cell V (by omega)
            have hcE := HK.out.2.2.1.own.cell Y (by omega)
            rw [← hD] at hcV
            rw [← hE] at hcE
            have hfY : wr.frozen? ⟨go, Y, none⟩ = false := HK.out.2.2.1.own.free Y
            have hD0 : 0 ≤ D ∧ D ≤ 9223372036854775800 := by
              have h1 := HK.out.2.2.2.2.1.v0
              have h2 := HK.out.2.2.2.2.2.1 V hVn
              omega
            have HDE := Lib.hid (show _ ∧ _ ∧ _ ∧ _ from ⟨hD, hE, hY, hol⟩)
            clear hcs hD hE hY hol
            by_cases hneg : E < 0
            · have hpos := HK.out.2.2.2.2.1.v0
              have hE2 : out2.getD Y 0 < 0 := by have := HDE.out.2.1; omega
              have hol := HK.out.2.2.1.own.len
              have hns := negs_set out2 Y (out2.getD V 0 + 1) (by have := HK.out.2.2.2.2.1.len; omega) hE2 (by omega)
              have hHBz : HB ≤ wr.heap.size := by have := HK.out.2.2.2.2.2.2.1.size; have := HBS.out; omega
              have SET : Hid (Sea (wr.setCell ⟨go, Y, none⟩ (.int .i64 (D + 1))) HB go co n g2 off2 m2 cap2 (out2.set Y (out2.getD V 0 + 1)) Q2 ∧ Nr (wr.setCell ⟨go, Y, none⟩ (.int .i64 (D + 1))) wo.heap.size go g2 (.slice (some ⟨bn, on, none⟩) N cn) (nearTo n r V n) ∧ Below HB (w.alloc (.cells #[.int .i64 n, .string s, .string r] 25)) (wr.setCell ⟨go, Y, none⟩ (.int .i64 (D + 1))) ∧
                  Mid (adj n r) n x (out2.set Y (out2.getD V 0 + 1)) (Q2 ++ [Y]) V (fun z => (z : Int) ∉ (nearTo n r V n).take (k + 1)) ∧ Bd n (out2.set Y (out2.getD V 0 + 1)) ∧ negs (out2.set Y (out2.getD V 0 + 1)) + (Q2 ++ [Y]).length + 1 = gk) := by
                rw [HDE.out.1]
                refine ⟨HK.out.2.2.1.set Y _, HK.out.2.2.2.1.set HK.out.2.2.1 Y _, HK.out.2.2.2.2.2.2.1.setCell (by exact HK.out.2.2.1.own.ge.1) _, ?_, HK.out.2.2.2.2.2.1.put (by omega) hVn hYn hE2 hpos, ?_⟩
                · exact Mid.weak (HK.out.2.2.2.2.1.push hYn hE2 hYa) (todo_succ (by have := HNN.out; omega) HDE.out.2.2.1)
                · have := HK.out.2.1; simp only [List.length_append, List.length_singleton]; omega
              have HQ3 := Lib.hid SET.out.1.que
              clear hns hE2 hpos hol
              go_wp2_with (at_builtin; refine wpList_appQ (wr.setCell ⟨go, Y, none⟩ (.int .i64 (D + 1))) rfl (.tmp 47) (.tmp 49) 31 rfl HB 3 Tryd.underlying31 infoInt g2 off2 m2 cap2 _ rfl HQ3.out Y wr.heap.size (by simp) rfl hQle hHBz ?_)
              intro g3 off3 cap3 w9 hq9 hg9 hn9
              have hn10 : g3 = g2 ∨ (wr.setCell ⟨go, Y, none⟩ (.int .i64 (D + 1))).heap.size ≤ g3 := by simpa using hn9
              have REL : Hid (Inner n r x V (w.alloc (.cells #[.int .i64 n, .string s, .string r] 25)) HB wo.heap.size go co gk (.slice (some ⟨bn, on, none⟩) N cn) (.slice (some ⟨g3, off3, none⟩) (m2 + 1) cap3) (.int .i64 ((k + 1 : Nat) : Int)) w9) :=
                ⟨k + 1, g3, off3, m2 + 1, cap3, _, Q2 ++ [Y], by have := HNN.out; omega, rfl, rfl, SET.out.2.2.2.2.2, SET.out.1.app hq9 hg9 hn10, SET.out.2.1.app hg9 hn10, SET.out.2.2.2.1, SET.out.2.2.2.2.1,
                  SET.out.2.2.1.trans (below_of_grown hg9 (by simpa using hHBz) (fun q hq => by cases hq; exact SET.out.1.que.ge))⟩
              clear hq9 hg9 hn9 hn10
              go_wp2
              go_roundw
              case rel => exact REL.out
              case measure => simp [intOf]; omega
            · have REL : Hid (Inner n r x V (w.alloc (.cells #[.int .i64 n, .string s, .string r] 25)) HB wo.heap.size go co gk (.slice (some ⟨bn, on, none⟩) N cn) (.slice (some ⟨g2, off2, none⟩) m2 cap2) (.int .i64 ((k + 1 : Nat) : Int)) wr) :=
                ⟨k + 1, g2, off2, m2, cap2, out2, Q2, by have := HNN.out; omega, rfl, rfl, HK.out.2.1, HK.out.2.2.1, HK.out.2.2.2.1,
                  Mid.weak (HK.out.2.2.2.2.1.skip hYn (by have := HDE.out.2.1; omega)) (todo_succ (by have := HNN.out; omega) HDE.out.2.2.1), HK.out.2.2.2.2.2.1, HK.out.2.2.2.2.2.2.1⟩
              go_wp2
              go_roundw
              case rel => exact REL.out
              case measure => simp [intOf]; omega
          · obtain rfl : k = N := by have := HK.out.1; have := HNN.out; omega
            have REL : Hid (Outer n r x (w.alloc (.cells #[.int .i64 n, .string s, .string r] 25)) HB go co (gk - 1) (.slice (some ⟨g2, off2, none⟩) m2 cap2) wr) :=
              ⟨g2, off2, m2, cap2, out2, Q2, rfl, by have := HK.out.2.1; omega, HK.out.2.2.1, Head.of HK.out.2.2.2.2.1 (fun z hz hnb ht => ht (by rw [HNN.out, List.take_length]; exact nearTo_mem hz hnb)), HK.out.2.2.2.2.2.1, HK.out.2.2.2.2.2.2.1⟩
            have hgpos : 0 < gk := by have := HK.out.2.1; omega
            go_wp2
            go_roundg (gk - 1)
            case measure => omega
            case rel => exact ⟨REL.out, by omega⟩
      · have HQ2 := Lib.hid HP.out.2
        clear HP HQ HS
        go_wp2_with fail
        refine (nearOf_any n s r V _ hVn hn HR.out).mono ?_
        rintro e w2 ⟨nv, rfl, hno, hw⟩
        have hnl := nearTo_len n r V n
        obtain ⟨ao, cn, hnv⟩ := hno.reads.len
        obtain ⟨N, hN⟩ : ∃ N, N = (nearTo n r V n).length := ⟨_, rfl⟩
        rw [← hN] at hnl hnv
        subst hnv
        have hgg := HQ2.out.lt
        have START : Hid (Inner n r x V (w.alloc (.cells #[.int .i64 n, .string s, .string r] 25)) HB wo.heap.size go co gk (.slice ao N cn) _ (.int .i64 0) w2) :=
          ⟨0, _, _, _, _, out, Q, Nat.zero_le _, rfl, rfl, HNG.out, ⟨HO.out.1.below hw (Nat.le_refl _), HQ2.out.below hw (Nat.le_refl _), HO.out.2⟩,
            ⟨hno, fun e => by have := (World.ownsRow.lt hno go e).1; have := HO.out.1.ge; omega, fun e => by have := (World.ownsRow.lt hno g e).1; omega⟩,
            Mid.weak HV.out (fun z _ => by simp), HBD.out, HX.out.trans (hw.mono (by have := HX.out.size; have := HBS.out; omega))⟩
        have HNN := Lib.hid hN
        clear hN hno hw HO HQ2 HNG HGK hgg
        go_wp2_with fail
        go_loopw [6, 30] (fun q i wr => Inner n r x V (w.alloc (.cells #[.int .i64 n, .string s, .string r] 25)) HB wo.heap.size go co gk (.slice ao N cn) q i wr) (fun _ i _ => N - (intOf i).toNat)
        case atStart => exact START.out
        case round =>
          obtain ⟨k, g2, off2, m2, cap2, out2, Q2, hk, rfl, rfl, hng2, hsea, hnr, hmid, hbd, hnx⟩ := hrel
          have hmlen := hsea.que.len
          rw [List.length_map] at hmlen
          have hQle : m2 + 1 ≤ 4398046511104 := by omega
          have HK := Lib.hid (show _ ∧ _ ∧ _ ∧ _ ∧ _ ∧ _ ∧ _ ∧ _ from ⟨hk, hng2, hsea, hnr, hmid, hbd, hnx, hmlen⟩)
          clear hk hng2 hsea hnr hmid hbd hnx hmlen
          by_cases hlt : k < N
          · obtain ⟨Y, hY, hYn, hYa⟩ := nearTo_get (n := n) (r := r) (v := V) (k := k) (by have := HNN.out; omega)
            have hreads := HK.out.2.2.2.1.own.reads
            obtain ⟨ao', cap', hv', hcs, -⟩ := hreads
            simp only [Value.slice.injEq] at hv'
            obtain ⟨rfl, -, rfl⟩ := hv'
            rcases hcs with hcs | ⟨bn, on, rfl, hcs⟩
            · have := HNN.out; rw [hcs] at this; simp at this; omega
            have hcY := hcs k (by have := HNN.out; omega)
            rw [hY] at hcY
            obtain ⟨D, hD⟩ : ∃ D, D = out2.getD V 0 := ⟨_, rfl⟩
            obtain ⟨E, hE⟩ : ∃ E, E = out2.getD Y 0 := ⟨_, rfl⟩
            have hol := HK.out.2.2.1.own.len
            have hcV := HK.out.2.2.1.own.cell V (by omega)
            have hcE := HK.out.2.2.1.own.cell Y (by omega)
            rw [← hD] at hcV
            rw [← hE] at hcE
            have hfY : wr.frozen? ⟨go, Y, none⟩ = false := HK.out.2.2.1.own.free Y
            have hD0 : 0 ≤ D ∧ D ≤ 9223372036854775800 := by
              have h1 := HK.out.2.2.2.2.1.v0
              have h2 := HK.out.2.2.2.2.2.1 V hVn
              omega
            have HDE := Lib.hid (show _ ∧ _ ∧ _ ∧ _ from ⟨hD, hE, hY, hol⟩)
            clear hcs hD hE hY hol
            by_cases hneg : E < 0
            · have hpos := HK.out.2.2.2.2.1.v0
              have hE2 : out2.getD Y 0 < 0 := by have := HDE.out.2.1; omega
              have hol := HK.out.2.2.1.own.len
              have hns := negs_set out2 Y (out2.getD V 0 + 1) (by have := HK.out.2.2.2.2.1.len; omega) hE2 (by omega)
              have hHBz : HB ≤ wr.heap.size := by have := HK.out.2.2.2.2.2.2.1.size; have := HBS.out; omega
              have SET : Hid (Sea (wr.setCell ⟨go, Y, none⟩ (.int .i64 (D + 1))) HB go co n g2 off2 m2 cap2 (out2.set Y (out2.getD V 0 + 1)) Q2 ∧ Nr (wr.setCell ⟨go, Y, none⟩ (.int .i64 (D + 1))) wo.heap.size go g2 (.slice (some ⟨bn, on, none⟩) N cn) (nearTo n r V n) ∧ Below HB (w.alloc (.cells #[.int .i64 n, .string s, .string r] 25)) (wr.setCell ⟨go, Y, none⟩ (.int .i64 (D + 1))) ∧
                  Mid (adj n r) n x (out2.set Y (out2.getD V 0 + 1)) (Q2 ++ [Y]) V (fun z => (z : Int) ∉ (nearTo n r V n).take (k + 1)) ∧ Bd n (out2.set Y (out2.getD V 0 + 1)) ∧ negs (out2.set Y (out2.getD V 0 + 1)) + (Q2 ++ [Y]).length + 1 = gk) := by
                rw [HDE.out.1]
                refine ⟨HK.out.2.2.1.set Y _, HK.out.2.2.2.1.set HK.out.2.2.1 Y _, HK.out.2.2.2.2.2.2.1.setCell (by exact HK.out.2.2.1.own.ge.1) _, ?_, HK.out.2.2.2.2.2.1.put (by omega) hVn hYn hE2 hpos, ?_⟩
                · exact Mid.weak (HK.out.2.2.2.2.1.push hYn hE2 hYa) (todo_succ (by have := HNN.out; omega) HDE.out.2.2.1)
                · have := HK.out.2.1; simp only [List.length_append, List.length_singleton]; omega
              have HQ3 := Lib.hid SET.out.1.que
              clear hns hE2 hpos hol
              go_wp2_with (at_builtin; refine wpList_appQ (wr.setCell ⟨go, Y, none⟩ (.int .i64 (D + 1))) rfl (.tmp 47) (.tmp 49) 31 rfl HB 3 Tryd.underlying31 infoInt g2 off2 m2 cap2 _ rfl HQ3.out Y wr.heap.size (by simp) rfl hQle hHBz ?_)
              intro g3 off3 cap3 w9 hq9 hg9 hn9
              have hn10 : g3 = g2 ∨ (wr.setCell ⟨go, Y, none⟩ (.int .i64 (D + 1))).heap.size ≤ g3 := by simpa using hn9
              have REL : Hid (Inner n r x V (w.alloc (.cells #[.int .i64 n, .string s, .string r] 25)) HB wo.heap.size go co gk (.slice (some ⟨bn, on, none⟩) N cn) (.slice (some ⟨g3, off3, none⟩) (m2 + 1) cap3) (.int .i64 ((k + 1 : Nat) : Int)) w9) :=
                ⟨k + 1, g3, off3, m2 + 1, cap3, _, Q2 ++ [Y], by have := HNN.out; omega, rfl, rfl, SET.out.2.2.2.2.2, SET.out.1.app hq9 hg9 hn10, SET.out.2.1.app hg9 hn10, SET.out.2.2.2.1, SET.out.2.2.2.2.1,
                  SET.out.2.2.1.trans (below_of_grown hg9 (by simpa using hHBz) (fun q hq => by cases hq; exact SET.out.1.que.ge))⟩
              clear hq9 hg9 hn9 hn10
              go_wp2
              go_roundw
              case rel => exact REL.out
              case measure => simp [intOf]; omega
            · have REL : Hid (Inner n r x V (w.alloc (.cells #[.int .i64 n, .string s, .string r] 25)) HB wo.heap.size go co gk (.slice (some ⟨bn, on, none⟩) N cn) (.slice (some ⟨g2, off2, none⟩) m2 cap2) (.int .i64 ((k + 1 : Nat) : Int)) wr) :=
                ⟨k + 1, g2, off2, m2, cap2, out2, Q2, by have := HNN.out; omega, rfl, rfl, HK.out.2.1, HK.out.2.2.1, HK.out.2.2.2.1,
                  Mid.weak (HK.out.2.2.2.2.1.skip hYn (by have := HDE.out.2.1; omega)) (todo_succ (by have := HNN.out; omega) HDE.out.2.2.1), HK.out.2.2.2.2.2.1, HK.out.2.2.2.2.2.2.1⟩
              go_wp2
              go_roundw
              case rel => exact REL.out
              case measure => simp [intOf]; omega
          · obtain rfl : k = N := by have := HK.out.1; have := HNN.out; omega
            have REL : Hid (Outer n r x (w.alloc (.cells #[.int .i64 n, .string s, .string r] 25)) HB go co (gk - 1) (.slice (some ⟨g2, off2, none⟩) m2 cap2) wr) :=
              ⟨g2, off2, m2, cap2, out2, Q2, rfl, by have := HK.out.2.1; omega, HK.out.2.2.1, Head.of HK.out.2.2.2.2.1 (fun z hz hnb ht => ht (by rw [HNN.out, List.take_length]; exact nearTo_mem hz hnb)), HK.out.2.2.2.2.2.1, HK.out.2.2.2.2.2.2.1⟩
            have hgpos : 0 < gk := by have := HK.out.2.1; omega
            go_wp2
            go_roundg (gk - 1)
            case measure => omega
            case rel => exact ⟨REL.out, by omega⟩

end Go.Proofs.YtlnmebjbinmeiaaDoor.dist
