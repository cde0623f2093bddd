/- Several texts in one: Ins, Ball, BallS, Around. -/
import Derived.Test.YtpcnoiigbmiejaaGreatDoorRows
import Derived.Test.YtpcnoiigbmiejaaGreatDoorLib
import Derived.Test.YtpcnoiigbmiejaaGreatDoorTree
import Derived.Test.YtpcnoiigbmiejaaGreatDoorNear
import Derived.Deep.CutRange
import Derived.Test.YtpcnoiigbmiejaaGreatDoorPkF
import Derived.Test.YtpcnoiigbmiejaaGreatDoorBasic
import Derived.Test.YtpcnoiigbmiejaaGreatDoorPart
/- l5Insert: the reference's insertion into a sorted list. -/
namespace Go.Proofs.YtpcnoiigbmiejaaGreatDoor.ins
set_option linter.unusedVariables false
set_option linter.unusedSimpArgs false
open Go.ChangeShapes Go.WideShapes Go.ChangeAt Go.RowKit
open Go.Proofs.YtpcnoiigbmiejaaGreatDoor.lib Go.Proofs.YtpcnoiigbmiejaaGreatDoor.flow Go.Proofs.YtpcnoiigbmiejaaGreatDoor.chain Go.Proofs.YtpcnoiigbmiejaaGreatDoor.near

def ins : List Int → Int → List Int
  | [], n => [n]
  | a :: l, n => if a = n then a :: l else if n < a then n :: a :: l else a :: ins l n
theorem ins_split (l : List Int) (n : Int) : ∀ (i : Nat), i ≤ l.length → (∀ j, j < i → l.getD j 0 < n) → ins l n = l.take i ++ ins (l.drop i) n := by
  induction l with
  | nil => intro i hi _; simp at hi; subst hi; rfl
  | cons a l ih =>
    intro i hi h
    cases i with
    | zero => rfl
    | succ i =>
      have h0 := h 0 (by omega)
      simp at h0
      simp at hi
      rw [ins, if_neg (by omega), if_neg (by omega), ih i hi (fun j hj => by have := h (j + 1) (by omega); simpa using this)]
      rfl
theorem drop_head (l : List Int) (i : Nat) (hi : i < l.length) : l.drop i = l.getD i 0 :: l.drop (i + 1) := by
  rw [List.drop_eq_getElem_cons hi]; simp [List.getD_eq_getElem?_getD, List.getElem?_eq_getElem hi]
theorem ins_len (l : List Int) (n : Int) : (ins l n).length ≤ l.length + 1 := by
  induction l with
  | nil => simp [ins]
  | cons a l ih =>
    unfold ins
    split
    · simp
    · split <;> simp; omega

/-- an append of what lies at a place -/
theorem wpList_appL {P : Program} (w : World) {ops : Array Oper} {rest : List Oper} {o : Oper} {a : Act} {Q : Exit → Act → World → Prop} (hgd : o.guard = none)
    (s x : Operand) (t : TypeId) (hop : o.op = Op.call { callee := Callee.builtin Builtin.append, args := #[s, x], argTypes := #[t, t] })
    (base : Nat) (e : TypeId) (h1 : P.underlying t = some (.slice e)) (hinfo : (P.info? e).map (fun i => (i.zero, i.size, i.bytes)) = some (some (.int .i64 0), 1, 8))
    (v : Value) (l : List Int) (hs : a.eval s = v) (hown : OwnI e w base v l) (H : Nat) (u : Int) (hx : a.eval x = .slice (some ⟨H, 0, none⟩) 1 1) (hc : w.cell? ⟨H, 0, none⟩ = some (.int .i64 u))
    (b1 : l.length + 1 ≤ 4398046511104) (b4 : base ≤ w.heap.size)
    (h : ∀ g cap w', OwnI e w' base (.slice (some ⟨g, 0, none⟩) (l.length + 1) cap) (l ++ [u]) → Grew w w' v (.slice (some ⟨g, 0, none⟩) (l.length + 1) cap) → wpList P ops Q rest (a.put o.dst (.slice (some ⟨g, 0, none⟩) (l.length + 1) cap)) w') :
    wpList P ops Q (o :: rest) a w := by
  refine wpList_plain hgd fun K hK => ?_
  refine wp_appL w s x t hop base e (.int .i64 0) 8 h1 hinfo rfl (by decide) v l.length (ivs l) hs hown ⟨H, 0, none⟩ 1 1 [.int .i64 u] hx rfl ?_ ?_ (by decide) b1 b4 (fun g cap w' ho hg => hK _ _ (h g cap w' ?_ hg))
  · intro j y hj
    match j, hj with
    | 0, hj => simp at hj; subst hj; simpa [Addr.add] using hc
  · intro y hy; simp at hy; subst hy; rfl
  · unfold OwnI; rw [List.length_append, ivs_append]; exact ho

/-- what a world keeps of an older one -/
theorem keepCell {W W' : World} {B : Nat} (hb : Below B W W') {a : Addr} {v : Value} (h : W.cell? a = some v) (hB : W.heap.size ≤ B := by exact Nat.le_refl _) : W'.cell? a = some v := by
  rw [hb.cell (Nat.lt_of_lt_of_le (World.block_lt_of_cell? W a h) hB)]; exact h

end Go.Proofs.YtpcnoiigbmiejaaGreatDoor.ins

/- BallOf in the program and in the reference. -/
namespace Go.Proofs.YtpcnoiigbmiejaaGreatDoor.ball
set_option linter.unusedVariables false
set_option linter.unusedSimpArgs false
open Go.ChangeShapes Go.WideShapes Go.ChangeAt Go.RowKit
open Go.Proofs.YtpcnoiigbmiejaaGreatDoor.lib Go.Proofs.YtpcnoiigbmiejaaGreatDoor.st Go.Proofs.YtpcnoiigbmiejaaGreatDoor.base Go.Proofs.YtpcnoiigbmiejaaGreatDoor.near Go.Proofs.YtpcnoiigbmiejaaGreatDoor.dist

/-- within the radius -/
noncomputable def inBall (n : Nat) (r : ByteArray) (x : Nat) (rad : Int) (y : Nat) : Bool := decide (0 ≤ D (adj n r) n x y ∧ D (adj n r) n x y ≤ rad)
/-- those up to k -/
noncomputable def ballTo (n : Nat) (r : ByteArray) (x : Nat) (rad : Int) (k : Nat) : List Int := ((List.range k).filter (inBall n r x rad)).map fun (y : Nat) => (y : Int)
theorem ballTo_yes {n : Nat} {r : ByteArray} {x : Nat} {rad : Int} {k : Nat} (h : inBall n r x rad k = true) : ballTo n r x rad (k + 1) = ballTo n r x rad k ++ [(k : Int)] := by
  simp [ballTo, List.range_succ, h]
theorem ballTo_no {n : Nat} {r : ByteArray} {x : Nat} {rad : Int} {k : Nat} (h : inBall n r x rad k = false) : ballTo n r x rad (k + 1) = ballTo n r x rad k := by
  simp [ballTo, List.range_succ, h]
theorem ballTo_len (n : Nat) (r : ByteArray) (x : Nat) (rad : Int) (k : Nat) : (ballTo n r x rad k).length ≤ k := by
  unfold ballTo; rw [List.length_map]
  have := List.length_filter_le (inBall n r x rad) (List.range k)
  rw [List.length_range] at this; exact this

theorem isRadius_any (d : Int) (w : World) : Calls Tryz.prog 38 #[.int .i64 d] w fun e w' => e = .returned (.bool (basic.inB d 0 100)) ∧ w = w' := by
  by_cases h1 : 0 ≤ d
  · by_cases h2 : d ≤ 100
    · have HE : Hid (basic.inB d 0 100 = true) := basic.inB_true h1 h2
      go_enter Tryz.func38, Tryz.ntmps38
      go_wp2
      go_ret
      exact ⟨by rw [HE.out]; rfl, rfl⟩
    · have HE : Hid (basic.inB d 0 100 = false) := basic.inB_false (by omega)
      go_enter Tryz.func38, Tryz.ntmps38
      go_wp2
      go_ret
      exact ⟨by rw [HE.out]; rfl, rfl⟩
  · have HE : Hid (basic.inB d 0 100 = false) := basic.inB_false (by omega)
    go_enter Tryz.func38, Tryz.ntmps38
    go_wp2
    go_ret
    exact ⟨by rw [HE.out]; rfl, rfl⟩

set_option maxHeartbeats 1600000 in
theorem ballOf_any (n : Nat) (s r : ByteArray) (x : Nat) (rad : Int) (w : World) (hx : x < n) (hn : n ≤ 8) (hr : r.size = n * n) :
    Calls Tryz.prog 111 #[.agg #[.int .i64 n, .string s, .string r], .int .i64 x, .int .i64 rad] w fun e w' => ∃ v, e = .returned v ∧ OwnI 3 w' w.heap.size v (ballTo n r x rad n) ∧ Below w.heap.size w w' := by
  obtain ⟨HB, hHB⟩ : ∃ HB, HB = w.heap.size + 1 := ⟨_, rfl⟩
  have BX : Hid (Box 24 (w.alloc (.cells #[.int .i64 n, .string s, .string r] 24)) w.heap.size n s r) := Box.new _ w _ rfl n s r
  have AW : Hid (Below w.heap.size w (w.alloc (.cells #[.int .i64 n, .string s, .string r] 24))) := (Below.refl _ _).alloc (Nat.le_refl _) _
  have he : Hid (OwnI 3 ((w.alloc (.cells #[.int .i64 n, .string s, .string r] 24)).alloc (.cells #[] 3)) HB (.slice (some ⟨w.heap.size + 1, 0, none⟩) 0 0) []) := emptyRow _ _ _ _ (by simp) (by omega)
  have hb0 : Hid (Below HB (w.alloc (.cells #[.int .i64 n, .string s, .string r] 24)) ((w.alloc (.cells #[.int .i64 n, .string s, .string r] 24)).alloc (.cells #[] 3))) := (Below.refl _ _).alloc (by simp; omega) _
  have HBS : Hid ((w.alloc (.cells #[.int .i64 n, .string s, .string r] 24)).heap.size = HB) := by rw [hHB]; simp [Hid]
  have HHB := Lib.hid hHB
  have HR := Lib.hid hr
  clear hr hHB
  go_enter Tryz.func111, Tryz.ntmps111
  obtain ⟨c0, c1, c2⟩ := (BX.out.below hb0.out (by have := HHB.out; omega)).c
  go_wp2_with fail
  refine (distancesFrom_any n s r x _ hx hn HR.out).mono ?_
  rintro e w1 ⟨dv, out, rfl, ho, hd, hw⟩
  have hl := hd.len
  rcases ho.shape with ⟨_, h0⟩ | ⟨go, co, rfl⟩
  · rw [h0] at hl; simp at hl; omega
  rw [hl] at ho ⊢
  have HD : Hid (∀ y, y < n → inBall n r x rad y = decide (0 ≤ out.getD y 0 ∧ out.getD y 0 ≤ rad)) := fun y hy => by
    unfold inBall D; rw [distL_eq hx hd]
  have HO1 := Lib.hid (show _ ∧ _ ∧ _ ∧ _ from ⟨he.out.below hw (Nat.le_refl _), hb0.out.trans (hw.mono (by have := hb0.out.size; have := HBS.out; omega)), ho, hl⟩)
  have hgo := ho.ge
  have HGO := Lib.hid hgo
  have hge : HB < go := by have h1 := hb0.out.size; have h2 := HBS.out; have h3 := hgo.1; simp only [World.size_alloc] at h3; simp at h2; omega
  clear c0 c1 c2 ho hd hw hl hgo
  go_wp2_with fail
  go_loopw [7, 15] (fun v i wr => ∃ k : Nat, k ≤ n ∧ i = .int .i64 k ∧ OwnI 3 wr HB v (ballTo n r x rad k) ∧ Below HB (w.alloc (.cells #[.int .i64 n, .string s, .string r] 24)) wr ∧ (∀ y, y < n → wr.cell? ⟨go, y, none⟩ = some (.int .i64 (out.getD y 0))) ∧ (∀ q, v.ownBlock = some q → q ≠ go) ∧ go < wr.heap.size) (fun _ i _ => n - (intOf i).toNat)
  case atStart =>
    refine ⟨0, Nat.zero_le _, rfl, HO1.out.1, HO1.out.2.1, fun y hy => HO1.out.2.2.1.cell y (by have := HO1.out.2.2.2; omega), fun q hq => ?_, HGO.out.2⟩
    simp [Value.ownBlock] at hq
    have := HHB.out; omega
  case round =>
    obtain ⟨k, hk, rfl, hown, hb, hcell, hne, hgl⟩ := hrel
    have HO := Lib.hid (show _ ∧ _ ∧ _ ∧ _ ∧ _ from ⟨hown, hb, hcell, hne, hgl⟩)
    have HL := Lib.hid (ballTo_len n r x rad k)
    clear hown hb hcell hne hgl
    by_cases hlt : k < n
    · have hc := HO.out.2.2.1 k hlt
      obtain ⟨d, hdd⟩ : ∃ d, d = out.getD k 0 := ⟨_, rfl⟩
      rw [← hdd] at hc
      have hdk := HD.out k hlt
      rw [← hdd] at hdk
      have HDK := Lib.hid hdk
      clear hdd hdk
      by_cases h0 : 0 ≤ d
      · by_cases h1 : d ≤ rad
        · have HS : Hid (ballTo n r x rad (k + 1) = ballTo n r x rad k ++ [(k : Int)]) := ballTo_yes (by rw [HDK.out]; exact decide_eq_true ⟨h0, h1⟩)
          have hsz : HB ≤ wr.heap.size := by have := HO.out.2.1.size; have := HBS.out; omega
          go_wp2_with (at_builtin; refine wpList_app1 wr rfl (.tmp 27) (.tmp 29) 29 rfl HB 3 (.int .i64 0) 8 Tryz.underlying29 infoInt rfl (by decide) _ _ _ (.int .i64 k) rfl HO.out.1 wr.heap.size rfl rfl rfl (by have := HL.out; omega) hsz ?_)
          intro g cap' w9 hown9 hgr
          have R : Hid (OwnI 3 w9 HB (.slice (some ⟨g, 0, none⟩) ((ballTo n r x rad k).length + 1) cap') (ballTo n r x rad (k + 1)) ∧ Below HB (w.alloc (.cells #[.int .i64 n, .string s, .string r] 24)) w9 ∧ (∀ y, y < n → w9.cell? ⟨go, y, none⟩ = some (.int .i64 (out.getD y 0))) ∧ g ≠ go ∧ go < w9.heap.size) := by
            refine ⟨by rw [HS.out]; unfold OwnI; rw [List.length_append, ivs_append]; exact hown9, HO.out.2.1.trans (hgr.below HO.out.1 hsz), fun y hy => hgr.grown.cell (HO.out.2.2.1 y hy) (fun e => HO.out.2.2.2.1 _ e.symm rfl), ?_, Nat.lt_of_lt_of_le HO.out.2.2.2.2 hgr.grown.size⟩
            rcases hgr.blk g (by simp [Value.ownBlock]) with hb | hb
            · exact HO.out.2.2.2.1 g hb
            · have := HO.out.2.2.2.2; omega
          clear hown9 hgr hsz
          go_wp2
          go_roundw
          case rel => exact ⟨k + 1, by omega, by go_num, R.out.1, R.out.2.1, R.out.2.2.1, fun q hq => by simp [Value.ownBlock] at hq; have := R.out.2.2.2.1; omega, R.out.2.2.2.2⟩
          case measure => simp [intOf]; omega
        · have R : Hid (OwnI 3 wr HB u7 (ballTo n r x rad (k + 1))) := by
            rw [Hid, ballTo_no (by rw [HDK.out]; exact decide_eq_false (by omega))]; exact HO.out.1
          go_wp2
          go_roundw
          case rel => exact ⟨k + 1, by omega, by go_num, R.out, HO.out.2⟩
          case measure => simp [intOf]; omega
      · have R : Hid (OwnI 3 wr HB u7 (ballTo n r x rad (k + 1))) := by
          rw [Hid, ballTo_no (by rw [HDK.out]; exact decide_eq_false (by omega))]; exact HO.out.1
        go_wp2
        go_roundw
        case rel => exact ⟨k + 1, by omega, by go_num, R.out, HO.out.2⟩
        case measure => simp [intOf]; omega
    · obtain rfl : n = k := by omega
      go_wp2
      go_ret
      exact ⟨_, rfl, HO.out.1.mono (by have := HHB.out; omega), AW.out.trans (HO.out.2.1.mono (by have := HHB.out; omega))⟩
end Go.Proofs.YtpcnoiigbmiejaaGreatDoor.ball

/- BallOf in the reference. -/
namespace Go.Proofs.YtpcnoiigbmiejaaGreatDoor.ball
set_option linter.unusedVariables false
set_option linter.unusedSimpArgs false
open Go.ChangeShapes Go.WideShapes Go.ChangeAt Go.RowKit
open Go.Proofs.YtpcnoiigbmiejaaGreatDoor.lib Go.Proofs.YtpcnoiigbmiejaaGreatDoor.st Go.Proofs.YtpcnoiigbmiejaaGreatDoor.base Go.Proofs.YtpcnoiigbmiejaaGreatDoor.near Go.Proofs.YtpcnoiigbmiejaaGreatDoor.dist Go.Proofs.YtpcnoiigbmiejaaGreatDoor.ins

theorem sorted_ext : ∀ (l m : List Int), l.Pairwise (· < ·) → m.Pairwise (· < ·) → (∀ a, a ∈ l ↔ a ∈ m) → l = m
  | [], [], _, _, _ => rfl
  | [], b :: m, _, _, h => by have := (h b).2 List.mem_cons_self; cases this
  | a :: l, [], _, _, h => by have := (h a).1 List.mem_cons_self; cases this
  | a :: l, b :: m, hl, hm, h => by
    have h1 := List.pairwise_cons.1 hl
    have h2 := List.pairwise_cons.1 hm
    have e : a = b := by
      rcases List.mem_cons.1 ((h a).1 List.mem_cons_self) with r | r
      · exact r
      · rcases List.mem_cons.1 ((h b).2 List.mem_cons_self) with q | q
        · exact q.symm
        · have := h1.1 b q; have := h2.1 a r; omega
    subst e
    rw [sorted_ext l m h1.2 h2.2 fun c => ⟨fun hc => ?_, fun hc => ?_⟩]
    · rcases List.mem_cons.1 ((h c).1 (List.mem_cons_of_mem _ hc)) with r | r
      · have := h1.1 c hc; omega
      · exact r
    · rcases List.mem_cons.1 ((h c).2 (List.mem_cons_of_mem _ hc)) with r | r
      · have := h2.1 c hc; omega
      · exact r
theorem ins_mem (n a : Int) : ∀ l : List Int, a ∈ ins l n ↔ a = n ∨ a ∈ l
  | [] => by simp [ins]
  | b :: l => by
    unfold ins
    split
    · rename_i h; subst h; simp
    · split
      · simp
      · simp only [List.mem_cons, ins_mem n a l]
        constructor
        · rintro (h | h | h) <;> simp [h]
        · rintro (h | h | h) <;> simp [h]
theorem ins_sorted (n : Int) : ∀ l : List Int, l.Pairwise (· < ·) → (ins l n).Pairwise (· < ·)
  | [], _ => by simp [ins]
  | b :: l, h => by
    have h1 := List.pairwise_cons.1 h
    unfold ins
    split
    · exact h
    · split
      · refine List.pairwise_cons.2 ⟨fun c hc => ?_, h⟩
        rcases List.mem_cons.1 hc with r | r
        · omega
        · have := h1.1 c r; omega
      · refine List.pairwise_cons.2 ⟨fun c hc => ?_, ins_sorted n l h1.2⟩
        rcases (ins_mem n c l).1 hc with r | r
        · omega
        · exact h1.1 c r
/-- all of a list inserted -/
def insAll (l : List Int) : List Int := l.foldl ins []
theorem insAll_succ (l : List Int) (k : Nat) (h : k < l.length) : insAll (l.take (k + 1)) = ins (insAll (l.take k)) (l.getD k 0) := by
  unfold insAll
  rw [List.take_succ_eq_append_getElem h, List.foldl_append]
  simp [List.getD_eq_getElem?_getD, List.getElem?_eq_getElem h]
theorem insAll_spec (l : List Int) : (insAll l).Pairwise (· < ·) ∧ ∀ a, a ∈ insAll l ↔ a ∈ l := by
  have key : ∀ (l acc : List Int), acc.Pairwise (· < ·) → (l.foldl ins acc).Pairwise (· < ·) ∧ ∀ a, a ∈ l.foldl ins acc ↔ a ∈ acc ∨ a ∈ l := by
    intro l
    induction l with
    | nil => intro acc h; exact ⟨h, fun a => by simp⟩
    | cons b l ih =>
      intro acc h
      have := ih (ins acc b) (ins_sorted b acc h)
      refine ⟨this.1, fun a => ?_⟩
      show a ∈ l.foldl ins (ins acc b) ↔ _
      rw [this.2, ins_mem, List.mem_cons]
      constructor
      · rintro ((h | h) | h) <;> simp [h]
      · rintro (h | h | h) <;> simp [h]
  have := key l [] List.Pairwise.nil
  exact ⟨this.1, fun a => by rw [insAll, this.2]; simp⟩
theorem insAll_len (l : List Int) : (insAll l).length ≤ l.length := by
  have key : ∀ (l acc : List Int), (l.foldl ins acc).length ≤ acc.length + l.length := by
    intro l
    induction l with
    | nil => intro acc; simp
    | cons b l ih =>
      intro acc
      have h1 := ih (ins acc b)
      have h2 := ins_len acc b
      simp only [List.foldl_cons, List.length_cons]; omega
  have := key l []
  simpa [insAll] using this

theorem oneRow (T : TypeId) (w : World) (B H : Nat) (x : Int) (hH : w.heap.size = H) (hB : B ≤ H) : OwnI T (w.alloc (.cells #[.int .i64 x] T)) B (.slice (some ⟨H, 0, none⟩) 1 1) [x] := by
  subst hH
  exact ⟨rfl, .inr ⟨_, 1, _, rfl, hB, heap_alloc_new w _, Nat.le_refl _, by decide, rfl, rfl⟩⟩
/-- the ball, the middle first -/
noncomputable def midTo (n : Nat) (r : ByteArray) (x : Nat) (rad : Int) (k : Nat) : List Int := (x : Int) :: ((List.range k).filter (fun y => (y != x) && inBall n r x rad y)).map fun (y : Nat) => (y : Int)
theorem midTo_yes {n : Nat} {r : ByteArray} {x : Nat} {rad : Int} {k : Nat} (h0 : k ≠ x) (h : inBall n r x rad k = true) : midTo n r x rad (k + 1) = midTo n r x rad k ++ [(k : Int)] := by
  have : (k != x) = true := by simpa using h0
  simp [midTo, List.range_succ, h, this]
theorem midTo_no {n : Nat} {r : ByteArray} {x : Nat} {rad : Int} {k : Nat} (h : k = x ∨ inBall n r x rad k = false) : midTo n r x rad (k + 1) = midTo n r x rad k := by
  have : ((k != x) && inBall n r x rad k) = false := by
    rcases h with h | h
    · subst h; simp
    · rw [h, Bool.and_false]
  simp [midTo, List.range_succ, this]
theorem midTo_len (n : Nat) (r : ByteArray) (x : Nat) (rad : Int) (k : Nat) : (midTo n r x rad k).length ≤ k + 1 := by
  unfold midTo; rw [List.length_cons, List.length_map]
  have := List.length_filter_le (fun y => (y != x) && inBall n r x rad y) (List.range k)
  rw [List.length_range] at this; omega
theorem range_sorted (k : Nat) : ((List.range k).map fun (y : Nat) => (y : Int)).Pairwise (· < ·) := by
  rw [List.pairwise_map]
  exact List.pairwise_lt_range.imp (fun h => by omega)
theorem mid_ball (n : Nat) (r : ByteArray) (x : Nat) (rad : Int) (hx : x < n) (h0 : 0 ≤ rad) : insAll (midTo n r x rad n) = ballTo n r x rad n := by
  have hs := insAll_spec (midTo n r x rad n)
  have hin : inBall n r x rad x = true := by
    have := (D_zero (nb := adj n r) hx hx).2 rfl
    unfold inBall; rw [this]; exact decide_eq_true ⟨Int.le_refl _, h0⟩
  refine sorted_ext _ _ hs.1 ?_ fun a => ?_
  · unfold ballTo
    rw [List.pairwise_map]
    exact (List.pairwise_lt_range.filter _).imp (fun h => by omega)
  · rw [hs.2]
    unfold midTo ballTo
    simp only [List.mem_cons, List.mem_map, List.mem_filter, List.mem_range, Bool.and_eq_true, bne_iff_ne, ne_eq]
    constructor
    · rintro (h | ⟨y, ⟨hy, _, hb⟩, rfl⟩)
      · exact ⟨x, ⟨hx, hin⟩, h.symm⟩
      · exact ⟨y, ⟨hy, hb⟩, rfl⟩
    · rintro ⟨y, ⟨hy, hb⟩, rfl⟩
      by_cases e : y = x
      · subst e; exact .inl rfl
      · exact .inr ⟨y, ⟨hy, e, hb⟩, rfl⟩

set_option maxHeartbeats 1600000 in
theorem l9Ball_any (n : Nat) (s r : ByteArray) (x : Nat) (rad : Int) (w : World) (hx : x < n) (hn : n ≤ 8) (hr : r.size = n * n) :
    Calls Tryz.prog 85 #[.agg #[.int .i64 n, .string s, .string r], .int .i64 x, .int .i64 rad] w fun e w' => ∃ v, e = .returned v ∧ OwnI 3 w' w.heap.size v (midTo n r x rad n) ∧ Below w.heap.size w w' := by
  obtain ⟨HB, hHB⟩ : ∃ HB, HB = w.heap.size + 1 := ⟨_, rfl⟩
  have BX : Hid (Box 24 (w.alloc (.cells #[.int .i64 n, .string s, .string r] 24)) w.heap.size n s r) := Box.new _ w _ rfl n s r
  have AW : Hid (Below w.heap.size w (w.alloc (.cells #[.int .i64 n, .string s, .string r] 24))) := (Below.refl _ _).alloc (Nat.le_refl _) _
  have he : Hid (OwnI 3 ((w.alloc (.cells #[.int .i64 n, .string s, .string r] 24)).alloc (.cells #[.int .i64 x] 3)) HB (.slice (some ⟨w.heap.size + 1, 0, none⟩) 1 1) [(x : Int)]) := oneRow _ _ _ _ _ (by simp) (by omega)
  have hb0 : Hid (Below HB (w.alloc (.cells #[.int .i64 n, .string s, .string r] 24)) ((w.alloc (.cells #[.int .i64 n, .string s, .string r] 24)).alloc (.cells #[.int .i64 x] 3))) := (Below.refl _ _).alloc (by simp; omega) _
  have HBS : Hid ((w.alloc (.cells #[.int .i64 n, .string s, .string r] 24)).heap.size = HB) := by rw [hHB]; simp [Hid]
  have HHB := Lib.hid hHB
  have HR := Lib.hid hr
  clear hr hHB
  go_enter Tryz.func85, Tryz.ntmps85
  obtain ⟨c0, c1, c2⟩ := (BX.out.below hb0.out (by have := HHB.out; omega)).c
  go_wp2_with fail
  refine (l9Distances_any n s r x _ hx hn HR.out).mono ?_
  rintro e w1 ⟨dv, out, rfl, ho, hd, hw⟩
  have hl := hd.len
  rcases ho.shape with ⟨_, h0⟩ | ⟨go, co, rfl⟩
  · rw [h0] at hl; simp at hl; omega
  rw [hl] at ho ⊢
  have HD : Hid (∀ y, y < n → inBall n r x rad y = basic.inB (out.getD y 0) 0 rad) := fun y hy => by
    unfold inBall D basic.inB; rw [distL_eq hx hd]
  have HO1 := Lib.hid (show _ ∧ _ ∧ _ ∧ _ from ⟨he.out.below hw (Nat.le_refl _), hb0.out.trans (hw.mono (by have := hb0.out.size; have := HBS.out; omega)), ho, hl⟩)
  have hgo := ho.ge
  have HGO := Lib.hid hgo
  have hge : HB < go := by have h1 := hb0.out.size; have h2 := HBS.out; have h3 := hgo.1; simp only [World.size_alloc] at h3; simp at h2; omega
  clear c0 c1 c2 ho hd hw hl hgo
  go_wp2_with fail
  go_loopw [7, 9] (fun v i wr => ∃ k : Nat, k ≤ n ∧ i = .int .i64 k ∧ OwnI 3 wr HB v (midTo n r x rad k) ∧ Below HB (w.alloc (.cells #[.int .i64 n, .string s, .string r] 24)) wr ∧ (∀ y, y < n → wr.cell? ⟨go, y, none⟩ = some (.int .i64 (out.getD y 0))) ∧ (∀ q, v.ownBlock = some q → q ≠ go) ∧ go < wr.heap.size) (fun _ i _ => n - (intOf i).toNat)
  case atStart =>
    refine ⟨0, Nat.zero_le _, rfl, HO1.out.1, HO1.out.2.1, fun y hy => HO1.out.2.2.1.cell y (by have := HO1.out.2.2.2; omega), fun q hq => ?_, HGO.out.2⟩
    simp [Value.ownBlock] at hq
    have := HHB.out; omega
  case round =>
    obtain ⟨k, hk, rfl, hown, hb, hcell, hne, hgl⟩ := hrel
    obtain ⟨c0, c1, c2⟩ := (BX.out.below hb (by have := HHB.out; omega)).c
    have HO := Lib.hid (show _ ∧ _ ∧ _ ∧ _ ∧ _ from ⟨hown, hb, hcell, hne, hgl⟩)
    have HL := Lib.hid (midTo_len n r x rad k)
    clear hown hb hcell hne hgl
    by_cases hlt : k < n
    · by_cases hkx : k = x
      · have R : Hid (OwnI 3 wr HB u7 (midTo n r x rad (k + 1))) := by
          rw [Hid, midTo_no (.inl hkx)]; exact HO.out.1
        have t1 : ((k : Int) != (x : Int)) = false := by simp; omega
        clear hkx
        go_wp2
        go_roundw
        case rel => exact ⟨k + 1, by omega, by go_num, R.out, HO.out.2⟩
        case measure => simp [intOf]; omega
      · have t1 : ((k : Int) != (x : Int)) = true := by simp; omega
        have hc := HO.out.2.2.1 k hlt
        obtain ⟨d, hdd⟩ : ∃ d, d = out.getD k 0 := ⟨_, rfl⟩
        rw [← hdd] at hc
        have hdk := HD.out k hlt
        rw [← hdd] at hdk
        have HDK := Lib.hid hdk
        have HKX := Lib.hid hkx
        clear hdd hdk hkx
        go_wp2_with fail
        refine (basic.l1In_any _ _ _ _).mono ?_
        rintro e w1 ⟨rfl, rfl⟩
        cases hib : basic.inB d 0 rad with
        | true =>
          have HS : Hid (midTo n r x rad (k + 1) = midTo n r x rad k ++ [(k : Int)]) := midTo_yes HKX.out (by rw [HDK.out]; exact hib)
          have hsz : HB ≤ wr.heap.size := by have := HO.out.2.1.size; have := HBS.out; omega
          clear hib
          go_wp2_with (at_builtin; refine wpList_app1 wr rfl (.tmp 32) (.tmp 34) 29 rfl HB 3 (.int .i64 0) 8 Tryz.underlying29 infoInt rfl (by decide) _ _ _ (.int .i64 k) rfl HO.out.1 wr.heap.size rfl rfl rfl (by have := HL.out; omega) hsz ?_)
          intro g cap' w9 hown9 hgr
          have R : Hid (OwnI 3 w9 HB (.slice (some ⟨g, 0, none⟩) ((midTo n r x rad k).length + 1) cap') (midTo n r x rad (k + 1)) ∧ Below HB (w.alloc (.cells #[.int .i64 n, .string s, .string r] 24)) w9 ∧ (∀ y, y < n → w9.cell? ⟨go, y, none⟩ = some (.int .i64 (out.getD y 0))) ∧ g ≠ go ∧ go < w9.heap.size) := by
            refine ⟨by rw [HS.out]; unfold OwnI; rw [List.length_append, ivs_append]; exact hown9, HO.out.2.1.trans (hgr.below HO.out.1 hsz), fun y hy => hgr.grown.cell (HO.out.2.2.1 y hy) (fun e => HO.out.2.2.2.1 _ e.symm rfl), ?_, Nat.lt_of_lt_of_le HO.out.2.2.2.2 hgr.grown.size⟩
            rcases hgr.blk g (by simp [Value.ownBlock]) with hb | hb
            · exact HO.out.2.2.2.1 g hb
            · have := HO.out.2.2.2.2; omega
          clear hown9 hgr hsz
          go_wp2
          go_roundw
          case rel => exact ⟨k + 1, by omega, by go_num, R.out.1, R.out.2.1, R.out.2.2.1, fun q hq => by simp [Value.ownBlock] at hq; have := R.out.2.2.2.1; omega, R.out.2.2.2.2⟩
          case measure => simp [intOf]; omega
        | false =>
          have R : Hid (OwnI 3 wr HB u7 (midTo n r x rad (k + 1))) := by
            rw [Hid, midTo_no (.inr (by rw [HDK.out]; exact hib))]; exact HO.out.1
          clear hib
          go_wp2
          go_roundw
          case rel => exact ⟨k + 1, by omega, by go_num, R.out, HO.out.2⟩
          case measure => simp [intOf]; omega
    · obtain rfl : n = k := by omega
      go_wp2
      go_ret
      exact ⟨_, rfl, HO.out.1.mono (by have := HHB.out; omega), AW.out.trans (HO.out.2.1.mono (by have := HHB.out; omega))⟩
end Go.Proofs.YtpcnoiigbmiejaaGreatDoor.ball

/- aroundOf: the structure of a ball, in the program. -/
namespace Go.Proofs.YtpcnoiigbmiejaaGreatDoor.around
set_option linter.unusedVariables false
set_option linter.unusedSimpArgs false
open Go.ChangeShapes Go.WideShapes Go.ChangeAt Go.RowKit
open Go.Proofs.YtpcnoiigbmiejaaGreatDoor.lib Go.Proofs.YtpcnoiigbmiejaaGreatDoor.st Go.Proofs.YtpcnoiigbmiejaaGreatDoor.base Go.Proofs.YtpcnoiigbmiejaaGreatDoor.make Go.Proofs.YtpcnoiigbmiejaaGreatDoor.near Go.Proofs.YtpcnoiigbmiejaaGreatDoor.dist Go.Proofs.YtpcnoiigbmiejaaGreatDoor.ball Go.Proofs.YtpcnoiigbmiejaaGreatDoor.fits Go.Proofs.YtpcnoiigbmiejaaGreatDoor.part

/-- the ball's elements, the middle first -/
noncomputable def midN (n : Nat) (r : ByteArray) (x : Nat) (rad : Int) : List Nat := x :: (List.range n).filter (fun y => (y != x) && inBall n r x rad y)
theorem midN_ints (n : Nat) (r : ByteArray) (x : Nat) (rad : Int) : midTo n r x rad n = ints (midN n r x rad) := rfl
theorem midN_lt {n : Nat} {r : ByteArray} {x : Nat} {rad : Int} (hx : x < n) : ∀ y, y ∈ midN n r x rad → y < n := by
  intro y hy
  rcases List.mem_cons.1 hy with rfl | h
  · exact hx
  · exact List.mem_range.1 (List.mem_filter.1 h).1
theorem midN_nodup (n : Nat) (r : ByteArray) (x : Nat) (rad : Int) : (midN n r x rad).Nodup := by
  refine List.nodup_cons.2 ⟨fun h => ?_, List.nodup_range.filter _⟩
  have := (List.mem_filter.1 h).2
  simp at this
theorem midN_len {n : Nat} {r : ByteArray} {x : Nat} {rad : Int} (hx : x < n) : (midN n r x rad).length ≤ n := by
  have h := (midN_nodup n r x rad).length_le_of_subset (l₂ := List.range n) (fun y hy => List.mem_range.2 (midN_lt hx y hy))
  simpa using h
theorem midN_pos (n : Nat) (r : ByteArray) (x : Nat) (rad : Int) : 1 ≤ (midN n r x rad).length := by simp [midN]
/-- the ball's elements in order -/
noncomputable def ballN (n : Nat) (r : ByteArray) (x : Nat) (rad : Int) : List Nat := (List.range n).filter (inBall n r x rad)
theorem ballN_ints (n : Nat) (r : ByteArray) (x : Nat) (rad : Int) : ballTo n r x rad n = ints (ballN n r x rad) := rfl
theorem ballN_len (n : Nat) (r : ByteArray) (x : Nat) (rad : Int) : (ballN n r x rad).length ≤ n := by
  unfold ballN
  have := List.length_filter_le (inBall n r x rad) (List.range n)
  rw [List.length_range] at this; exact this
/-- the middle and those of the first j that are others -/
noncomputable def arTo (n : Nat) (r : ByteArray) (x : Nat) (rad : Int) (j : Nat) : List Nat := x :: ((ballN n r x rad).take j).filter (fun y => y != x)
theorem arTo_all (n : Nat) (r : ByteArray) (x : Nat) (rad : Int) : arTo n r x rad (ballN n r x rad).length = midN n r x rad := by
  unfold arTo midN
  rw [List.take_length, ballN, List.filter_filter]
theorem arTo_yes {n : Nat} {r : ByteArray} {x : Nat} {rad : Int} {j y : Nat} (hj : j < (ballN n r x rad).length) (hy : (ballN n r x rad).getD j 0 = y) (h : y ≠ x) : arTo n r x rad (j + 1) = arTo n r x rad j ++ [y] := by
  unfold arTo
  rw [List.take_succ_eq_append_getElem hj, List.filter_append]
  rw [List.getD_eq_getElem?_getD, List.getElem?_eq_getElem hj, Option.getD_some] at hy
  rw [hy]
  have : (y != x) = true := by simpa using h
  simp [this]
theorem arTo_no {n : Nat} {r : ByteArray} {x : Nat} {rad : Int} {j : Nat} (hj : j < (ballN n r x rad).length) (hy : (ballN n r x rad).getD j 0 = x) : arTo n r x rad (j + 1) = arTo n r x rad j := by
  unfold arTo
  rw [List.take_succ_eq_append_getElem hj, List.filter_append]
  rw [List.getD_eq_getElem?_getD, List.getElem?_eq_getElem hj, Option.getD_some] at hy
  rw [hy]
  simp
theorem arTo_len (n : Nat) (r : ByteArray) (x : Nat) (rad : Int) (j : Nat) : (arTo n r x rad j).length ≤ j + 1 := by
  unfold arTo
  rw [List.length_cons]
  have := List.length_filter_le (fun y => y != x) ((ballN n r x rad).take j)
  have := List.length_take_le j (ballN n r x rad)
  omega

set_option maxHeartbeats 1600000 in
theorem aroundOf_any (n : Nat) (s r : ByteArray) (x : Nat) (rad : Int) (w : World) (hx : x < n) (hn : n ≤ 8) (hs : s.size = n) (hr : r.size = n * n) :
    Calls Tryz.prog 80 #[.agg #[.int .i64 n, .string s, .string r], .int .i64 x, .int .i64 rad] w fun e w' =>
      e = .returned (.agg #[.int .i64 (midN n r x rad).length, .string (bS (pS s (midN n r x rad)) (midN n r x rad).length), .string (bR (pR n r (midN n r x rad)) (midN n r x rad).length (midN n r x rad).length)]) ∧ Below w.heap.size w w' := by
  obtain ⟨W1, hW1⟩ : ∃ W1, W1 = w.alloc (.cells #[.int .i64 n, .string s, .string r] 24) := ⟨_, rfl⟩
  have z1 : W1.heap.size = w.heap.size + 1 := by rw [hW1]; simp
  have A1 : Below w.heap.size w W1 := by rw [hW1]; exact (Below.refl _ _).alloc (Nat.le_refl _) _
  have B1 : Box 24 W1 w.heap.size n s r := by rw [hW1]; exact Box.new _ w _ rfl _ _ _
  obtain ⟨W2, hW2⟩ : ∃ W2, W2 = W1.alloc (.cells #[.int .i64 0, .string ⟨#[]⟩, .string ⟨#[]⟩] 24) := ⟨_, rfl⟩
  have z2 : W2.heap.size = w.heap.size + 2 := by rw [hW2]; simp [z1]
  have A2 : Below W1.heap.size W1 W2 := by rw [hW2]; exact (Below.refl _ _).alloc (Nat.le_refl _) _
  have B2 : Box 24 W2 (w.heap.size + 1) 0 ⟨#[]⟩ ⟨#[]⟩ := by rw [hW2]; exact Box.new _ W1 _ z1 _ _ _
  obtain ⟨W3, hW3⟩ : ∃ W3, W3 = W2.alloc (.cells #[.int .i64 x] 3) := ⟨_, rfl⟩
  have A3 : Below W2.heap.size W2 W3 := by rw [hW3]; exact (Below.refl _ _).alloc (Nat.le_refl _) _
  have O3 : OwnI 3 W3 (w.heap.size + 2) (.slice (some ⟨w.heap.size + 2, 0, none⟩) 1 1) [(x : Int)] := by rw [hW3]; exact oneRow _ _ _ _ _ z2 (Nat.le_refl _)
  have A02 := A1.trans (A2.mono (by omega))
  have A03 := A02.trans (A3.mono (by omega))
  have BA := Lib.hid ((B1.below A2 B1.lt).below A3 (by omega))
  have BR := Lib.hid (B2.below A3 B2.lt)
  have HO3 := Lib.hid O3
  have HA := Lib.hid A03
  have HS := Lib.hid (show _ ∧ _ from ⟨hs, hr⟩)
  have HZ : Hid (W3.heap.size = w.heap.size + 3) := by rw [Hid, hW3]; simp [z2]
  have HW : Hid (W3 = ((w.alloc (.cells #[.int .i64 n, .string s, .string r] 24)).alloc (.cells #[.int .i64 0, .string ⟨#[]⟩, .string ⟨#[]⟩] 24)).alloc (.cells #[.int .i64 x] 3)) := by rw [Hid, hW3, hW2, hW1]
  clear hW1 hW2 hW3 z1 z2 A1 A2 A3 B1 B2 O3 A02 A03 hs hr
  go_enter Tryz.func80, Tryz.ntmps80
  go_wp2_with fail
  rw [← HW.out]
  refine (ballOf_any n s r x rad _ hx hn HS.out.2).mono ?_
  rintro e w1 ⟨v, rfl, ho, hw⟩
  rw [ballN_ints] at ho
  obtain ⟨ao, cb, rfl⟩ := ho.reads.len
  obtain ⟨m, hm⟩ : ∃ m, m = (ballN n r x rad).length := ⟨_, rfl⟩
  rw [ints_len, ← hm] at ho ⊢
  have hm8 : m ≤ 8 := by rw [hm]; have := ballN_len n r x rad; omega
  have HM := Lib.hid hm
  have START : Hid (OwnI 3 w1 (w.heap.size + 2) (.slice (some ⟨w.heap.size + 2, 0, none⟩) 1 1) (ints (arTo n r x rad 0)) ∧ Reads w1 (.slice ao m cb) (ints (ballN n r x rad)) ∧ (∀ b off, ao = some ⟨b, off, none⟩ → b ≠ w.heap.size + 2) ∧ Below w.heap.size w w1 ∧ Box 24 w1 w.heap.size n s r ∧ Box 24 w1 (w.heap.size + 1) 0 ⟨#[]⟩ ⟨#[]⟩) := by
    refine ⟨HO3.out.below hw (Nat.le_refl _), ho.reads, fun b off e => ?_, HA.out.trans (hw.mono (by have := HA.out.size; omega)), BA.out.below hw BA.out.lt, BR.out.below hw BR.out.lt⟩
    have := (World.ownsRow.lt ho b (by rw [e]; rfl)).1
    have := HZ.out
    omega
  clear ho hw hm HO3 BA BR HA HW
  go_wp2_with fail
  go_loopw [7, 17] (fun v i wr => ∃ k : Nat, k ≤ m ∧ i = .int .i64 k ∧ OwnI 3 wr (w.heap.size + 2) v (ints (arTo n r x rad k)) ∧ Reads wr (.slice ao m cb) (ints (ballN n r x rad)) ∧ (∀ b off, ao = some ⟨b, off, none⟩ → ∀ q, v.ownBlock = some q → b ≠ q) ∧ Below w.heap.size w wr ∧ Box 24 wr w.heap.size n s r ∧ Box 24 wr (w.heap.size + 1) 0 ⟨#[]⟩ ⟨#[]⟩) (fun _ i _ => m - (intOf i).toNat)
  case atStart =>
    exact ⟨0, Nat.zero_le _, rfl, START.out.1, START.out.2.1, fun b off e q hq => by simp [Value.ownBlock] at hq; have := START.out.2.2.1 b off e; omega, START.out.2.2.2⟩
  case round =>
    clear START
    obtain ⟨k, hk, rfl, hown, hrd, hne, hbl, hba, hbr⟩ := hrel
    have HO := Lib.hid (show _ ∧ _ ∧ _ ∧ _ ∧ _ ∧ _ from ⟨hown, hrd, hne, hbl, hba, hbr⟩)
    have HL := Lib.hid (arTo_len n r x rad k)
    clear hown hrd hne hbl hba hbr
    by_cases hlt : k < m
    · obtain ⟨b, off, rfl, hbl, hc⟩ := lies HO.out.2.1 HM.out (by omega)
      have ck := hc k hlt
      obtain ⟨y, hy⟩ : ∃ y, (ballN n r x rad).getD k 0 = y := ⟨_, rfl⟩
      rw [hy] at ck
      have HC := Lib.hid hc
      have HY := Lib.hid hy
      clear hc hy hbl
      by_cases hyx : y = x
      · subst hyx
        have R : Hid (OwnI 3 wr (w.heap.size + 2) u7 (ints (arTo n r y rad (k + 1)))) := by rw [Hid, arTo_no (by rw [← HM.out]; exact hlt) HY.out]; exact HO.out.1
        go_wp2
        go_roundw
        case rel => exact ⟨k + 1, by omega, by go_num, R.out, HO.out.2⟩
        case measure => simp [intOf]; omega
      · have HSU : Hid (arTo n r x rad (k + 1) = arTo n r x rad k ++ [y]) := arTo_yes (by rw [← HM.out]; exact hlt) HY.out hyx
        have t1 : ((y : Int) != (x : Int)) = true := by simp; omega
        have hsz : w.heap.size + 2 ≤ wr.heap.size := by have := HO.out.2.2.2.2.2.lt; omega
        clear hyx
        go_wp2_with (at_builtin; refine wpList_app1 wr rfl (.tmp 24) (.tmp 26) 29 rfl (w.heap.size + 2) 3 (.int .i64 0) 8 Tryz.underlying29 infoInt rfl (by decide) _ _ _ (.int .i64 y) rfl HO.out.1 wr.heap.size rfl rfl rfl (by rw [ints_len]; have := HL.out; omega) hsz ?_)
        intro g cap' w9 hown9 hgr
        rw [ints_len] at hown9 hgr ⊢
        have hb2 : Below (w.heap.size + 2) wr w9 := hgr.below HO.out.1 hsz
        have R : Hid (OwnI 3 w9 (w.heap.size + 2) (.slice (some ⟨g, 0, none⟩) ((arTo n r x rad k).length + 1) cap') (ints (arTo n r x rad (k + 1))) ∧ Reads w9 (.slice (some ⟨b, off, none⟩) m cb) (ints (ballN n r x rad)) ∧ b ≠ g ∧ Below w.heap.size w w9 ∧ Box 24 w9 w.heap.size n s r ∧ Box 24 w9 (w.heap.size + 1) 0 ⟨#[]⟩ ⟨#[]⟩) := by
          refine ⟨by rw [HSU.out, ints_app]; unfold OwnI; rw [List.length_append, ivs_append, ints_len]; exact hown9, ⟨_, cb, by rw [ints_len, ← HM.out], .inr ⟨b, off, rfl, fun i hi => ?_⟩, fun h => by cases h⟩, ?_, HO.out.2.2.2.1.trans (hb2.mono (by omega)), HO.out.2.2.2.2.1.below hb2 (by omega), HO.out.2.2.2.2.2.below hb2 (by omega)⟩
          · rw [ints_len, ← HM.out] at hi
            rw [ints_get]
            exact hgr.grown.cell (HC.out i hi) (fun e => HO.out.2.2.1 b off rfl _ e.symm rfl)
          · rcases hgr.blk g (by simp [Value.ownBlock]) with hq | hq
            · exact HO.out.2.2.1 b off rfl g hq
            · have := World.block_lt_of_cell? wr _ (HC.out k hlt)
              simp at this; omega
        clear hown9 hgr hsz hb2
        go_wp2
        go_roundw
        case rel => exact ⟨k + 1, by omega, by go_num, R.out.1, R.out.2.1, fun b' off' e q hq => by simp [Value.ownBlock] at hq; cases e; have := R.out.2.2.1; omega, R.out.2.2.2⟩
        case measure => simp [intOf]; omega
    · obtain rfl : m = k := by omega
      have hown := HO.out.1
      rw [HM.out, arTo_all] at hown
      have RD := Lib.hid hown.reads
      have HQ := Lib.hid HO.out.2.2.2
      obtain ⟨c0, c1, c2⟩ := HQ.out.2.1.c
      clear hown HO HL
      go_wp2_with fail
      refine (partOf_any n s r (midN n r x rad) _ _ RD.out (midN_lt hx) (by have := midN_len (n := n) (r := r) (x := x) (rad := rad) hx; omega) HS.out.1 HS.out.2 hn).mono ?_
      rintro e W4 ⟨rfl, hb⟩
      have B4 := HQ.out.2.2.below hb HQ.out.2.2.lt
      obtain ⟨z0, z1, z2⟩ := B4.c
      have g0 := B4.free 0
      have g1 := B4.free 1
      have g2 := B4.free 2
      have HF := Lib.hid (((B4.set0 (midN n r x rad).length).set1 (bS (pS s (midN n r x rad)) (midN n r x rad).length)).set2 (bR (pR n r (midN n r x rad)) (midN n r x rad).length (midN n r x rad).length)).c
      have R : Hid (Below w.heap.size w (((W4.setCell ⟨w.heap.size + 1, 0, none⟩ (.int .i64 (midN n r x rad).length)).setCell ⟨w.heap.size + 1, 1, none⟩ (.string (bS (pS s (midN n r x rad)) (midN n r x rad).length))).setCell ⟨w.heap.size + 1, 2, none⟩ (.string (bR (pR n r (midN n r x rad)) (midN n r x rad).length (midN n r x rad).length)))) :=
        (((HQ.out.1.trans (hb.mono HQ.out.1.size)).setCell (by show w.heap.size ≤ w.heap.size + 1; omega) _).setCell (by show w.heap.size ≤ w.heap.size + 1; omega) _).setCell (by show w.heap.size ≤ w.heap.size + 1; omega) _
      clear B4 hb
      go_wp2
      exact bodyPost_ret (v := .agg #[.int .i64 (midN n r x rad).length, .string (bS (pS s (midN n r x rad)) (midN n r x rad).length), .string (bR (pR n r (midN n r x rad)) (midN n r x rad).length (midN n r x rad).length)]) (by simp [results, Tryz.results80, go_sem, HF.out.1, HF.out.2.1, HF.out.2.2]) rfl ⟨rfl, R.out⟩
end Go.Proofs.YtpcnoiigbmiejaaGreatDoor.around
