/- BallOf in the reference. -/
import Derived.Test.YtlnmebjbinmeiaaDoorBall
namespace Go.Proofs.YtlnmebjbinmeiaaDoor.ball
set_option linter.unusedVariables false
set_option linter.unusedSimpArgs false
open Go.ChangeShapes Go.WideShapes Go.ChangeAt Go.RowKit
open Go.Proofs.YtlnmebjbinmeiaaDoor.lib Go.Proofs.YtlnmebjbinmeiaaDoor.st Go.Proofs.YtlnmebjbinmeiaaDoor.base Go.Proofs.YtlnmebjbinmeiaaDoor.near Go.Proofs.YtlnmebjbinmeiaaDoor.dist Go.Proofs.YtlnmebjbinmeiaaDoor.ins

theorem sorted_ext : ∀ (l m : List Int), l.Pairwise (· < ·) → m.Pairwise (· < ·) → (∀ a, a ∈ l ↔ a ∈ m) → l = m
  | [], [], _, _, _ => rfl
  | [], b :: m, _, _, h => by have := (h b).2 List.mem_cons_self; cases this
  | a :: l, [], _, _, h => by have := (h a).1 List.mem_cons_self; cases this
  | a :: l, b :: m, hl, hm, h => by
    have h1 := List.pairwise_cons.1 hl
    have h2 := List.pairwise_cons.1 hm
    have e : a = b := by
      rcases List.mem_cons.1 ((h a).1 List.mem_cons_self) with r | r
      · exact r
      · rcases List.mem_cons.1 ((h b).2 List.mem_cons_self) with q | q
        · exact q.symm
        · have := h1.1 b q; have := h2.1 a r; omega
    subst e
    rw [sorted_ext l m h1.2 h2.2 fun c => ⟨fun hc => ?_, fun hc => ?_⟩]
    · rcases List.mem_cons.1 ((h c).1 (List.mem_cons_of_mem _ hc)) with r | r
      · have := h1.1 c hc; omega
      · exact r
    · rcases List.mem_cons.1 ((h c).2 (List.mem_cons_of_mem _ hc)) with r | r
      · have := h2.1 c hc; omega
      · exact r
theorem ins_mem (n a : Int) : ∀ l : List Int, a ∈ ins l n ↔ a = n ∨ a ∈ l
  | [] => by simp [ins]
  | b :: l => by
    unfold ins
    split
    · rename_i h; subst h; simp
    · split
      · simp
      · simp only [List.mem_cons, ins_mem n a l]
        constructor
        · rintro (h | h | h) <;> simp [h]
        · rintro (h | h | h) <;> simp [h]
theorem ins_sorted (n : Int) : ∀ l : List Int, l.Pairwise (· < ·) → (ins l n).Pairwise (· < ·)
  | [], _ => by simp [ins]
  | b :: l, h => by
    have h1 := List.pairwise_cons.1 h
    unfold ins
    split
    · exact h
    · split
      · refine List.pairwise_cons.2 ⟨fun c hc => ?_, h⟩
        rcases List.mem_cons.1 hc with r | r
        · omega
        · have := h1.1 c r; omega
      · refine List.pairwise_cons.2 ⟨fun c hc => ?_, ins_sorted n l h1.2⟩
        rcases (ins_mem n c l).1 hc with r | r
        · omega
        · exact h1.1 c r
/-- all of a list inserted -/
def insAll (l : List Int) : List Int := l.foldl ins []
theorem insAll_succ (l : List Int) (k : Nat) (h : k < l.length) : insAll (l.take (k + 1)) = ins (insAll (l.take k)) (l.getD k 0) := by
  unfold insAll
  rw [List.take_succ_eq_append_getElem h, List.foldl_append]
  simp [List.getD_eq_getElem?_getD, List.getElem?_eq_getElem h]
theorem insAll_spec (l : List Int) : (insAll l).Pairwise (· < ·) ∧ ∀ a, a ∈ insAll l ↔ a ∈ l := by
  have key : ∀ (l acc : List Int), acc.Pairwise (· < ·) → (l.foldl ins acc).Pairwise (· < ·) ∧ ∀ a, a ∈ l.foldl ins acc ↔ a ∈ acc ∨ a ∈ l := by
    intro l
    induction l with
    | nil => intro acc h; exact ⟨h, fun a => by simp⟩
    | cons b l ih =>
      intro acc h
      have := ih (ins acc b) (ins_sorted b acc h)
      refine ⟨this.1, fun a => ?_⟩
      show a ∈ l.foldl ins (ins acc b) ↔ _
      rw [this.2, ins_mem, List.mem_cons]
      constructor
      · rintro ((h | h) | h) <;> simp [h]
      · rintro (h | h | h) <;> simp [h]
  have := key l [] List.Pairwise.nil
  exact ⟨this.1, fun a => by rw [insAll, this.2]; simp⟩
theorem insAll_len (l : List Int) : (insAll l).length ≤ l.length := by
  have key : ∀ (l acc : List Int), (l.foldl ins acc).length ≤ acc.length + l.length := by
    intro l
    induction l with
    | nil => intro acc; simp
    | cons b l ih =>
      intro acc
      have h1 := ih (ins acc b)
      have h2 := ins_len acc b
      simp only [List.foldl_cons, List.length_cons]; omega
  have := key l []
  simpa [insAll] using this

theorem oneRow (T : TypeId) (w : World) (B H : Nat) (x : Int) (hH : w.heap.size = H) (hB : B ≤ H) : OwnI T (w.alloc (.cells #[.int .i64 x] T)) B (.slice (some ⟨H, 0, none⟩) 1 1) [x] := by
  subst hH
  exact ⟨rfl, .inr ⟨_, 1, _, rfl, hB, heap_alloc_new w _, Nat.le_refl _, by decide, rfl, rfl⟩⟩
/-- the ball, the middle first -/
noncomputable def midTo (n : Nat) (r : ByteArray) (x : Nat) (rad : Int) (k : Nat) : List Int := (x : Int) :: ((List.range k).filter (fun y => (y != x) && inBall n r x rad y)).map fun (y : Nat) => (y : Int)
theorem midTo_yes {n : Nat} {r : ByteArray} {x : Nat} {rad : Int} {k : Nat} (h0 : k ≠ x) (h : inBall n r x rad k = true) : midTo n r x rad (k + 1) = midTo n r x rad k ++ [(k : Int)] := by
  have : (k != x) = true := by simpa using h0
  simp [midTo, List.range_succ, h, this]
theorem midTo_no {n : Nat} {r : ByteArray} {x : Nat} {rad : Int} {k : Nat} (h : k = x ∨ inBall n r x rad k = false) : midTo n r x rad (k + 1) = midTo n r x rad k := by
  have : ((k != x) && inBall n r x rad k) = false := by
    rcases h with h | h
    · subst h; simp
    · rw [h, Bool.and_false]
  simp [midTo, List.range_succ, this]
theorem midTo_len (n : Nat) (r : ByteArray) (x : Nat) (rad : Int) (k : Nat) : (midTo n r x rad k).length ≤ k + 1 := by
  unfold midTo; rw [List.length_cons, List.length_map]
  have := List.length_filter_le (fun y => (y != x) && inBall n r x rad y) (List.range k)
  rw [List.length_range] at this; omega
theorem range_sorted (k : Nat) : ((List.range k).map fun (y : Nat) => (y : Int)).Pairwise (· < ·) := by
  rw [List.pairwise_map]
  exact List.pairwise_lt_range.imp (fun h => by omega)
theorem mid_ball (n : Nat) (r : ByteArray) (x : Nat) (rad : Int) (hx : x < n) (h0 : 0 ≤ rad) : insAll (midTo n r x rad n) = ballTo n r x rad n := by
  have hs := insAll_spec (midTo n r x rad n)
  have hin : inBall n r x rad x = true := by
    have := (D_zero (nb := adj n r) hx hx).2 rfl
    unfold inBall; rw [this]; exact decide_eq_true ⟨Int.le_refl _, h0⟩
  refine sorted_ext _ _ hs.1 ?_ fun a => ?_
  · unfold ballTo
    rw [List.pairwise_map]
    exact (List.pairwise_lt_range.filter _).imp (fun h => by omega)
  · rw [hs.2]
    unfold midTo ballTo
    simp only [List.mem_cons, List.mem_map, List.mem_filter, List.mem_range, Bool.and_eq_true, bne_iff_ne, ne_eq]
    constructor
    · rintro (h | ⟨y, ⟨hy, _, hb⟩, rfl⟩)
      · exact ⟨x, ⟨hx, hin⟩, h.symm⟩
      · exact ⟨y, ⟨hy, hb⟩, rfl⟩
    · rintro ⟨y, ⟨hy, hb⟩, rfl⟩
      by_cases e : y = x
      · subst e; exact .inl rfl
      · exact .inr ⟨y, ⟨hy, e, hb⟩, rfl⟩

set_option maxHeartbeats 1600000 in
theorem l9Ball_any (n : Nat) (s r : ByteArray) (x : Nat) (rad : Int) (w : World) (hx : x < n) (hn : n ≤ 8) (hr : r.size = n * n) :
    Calls Tryd.prog 67 #[.agg #[.int .i64 n, .string s, .string r], .int .i64 x, .int .i64 rad] w fun e w' => ∃ v, e = .returned v ∧ OwnI 3 w' w.heap.size v (midTo n r x rad n) ∧ Below w.heap.size w w' := by
  obtain ⟨HB, hHB⟩ : ∃ HB, HB = w.heap.size + 1 := ⟨_, rfl⟩
  have BX : Hid (Box 25 (w.alloc (.cells #[.int .i64 n, .string s, .string r] 25)) w.heap.size n s r) := Box.new _ w _ rfl n s r
  have AW : Hid (Below w.heap.size w (w.alloc (.cells #[.int .i64 n, .string s, .string r] 25))) := (Below.refl _ _).alloc (Nat.le_refl _) _
  have he : Hid (OwnI 3 ((w.alloc (.cells #[.int .i64 n, .string s, .string r] 25)).alloc (.cells #[.int .i64 x] 3)) HB (.slice (some ⟨w.heap.size + 1, 0, none⟩) 1 1) [(x : Int)]) := oneRow _ _ _ _ _ (by simp) (by omega)
  have hb0 : Hid (Below HB (w.alloc (.cells #[.int .i64 n, .string s, .string r] 25)) ((w.alloc (.cells #[.int .i64 n, .string s, .string r] 25)).alloc (.cells #[.int .i64 x] 3))) := (Below.refl _ _).alloc (by simp; omega) _
  have HBS : Hid ((w.alloc (.cells #[.int .i64 n, .string s, .string r] 25)).heap.size = HB) := by rw [hHB]; simp [Hid]
  have HHB := Lib.hid hHB
  have HR := Lib.hid hr
  clear hr hHB
  go_enter Tryd.func67, Tryd.ntmps67
  obtain ⟨c0, c1, c2⟩ := (BX.out.below hb0.out (by have := HHB.out; omega)).c
  go_wp2_with fail
  refine (l9Distances_any n s r x _ hx hn HR.out).mono ?_
  rintro e w1 ⟨dv, out, rfl, ho, hd, hw⟩
  have hl := hd.len
  rcases ho.shape with ⟨_, h0⟩ | ⟨go, co, rfl⟩
  · rw [h0] at hl; simp at hl; omega
  rw [hl] at ho ⊢
  have HD : Hid (∀ y, y < n → inBall n r x rad y = basic.inB (out.getD y 0) 0 rad) := fun y hy => by
    unfold inBall D basic.inB; rw [distL_eq hx hd]
  have HO1 := Lib.hid (show _ ∧ _ ∧ _ ∧ _ from ⟨he.out.below hw (Nat.le_refl _), hb0.out.trans (hw.mono (by have := hb0.out.size; have := HBS.out; omega)), ho, hl⟩)
  have hgo := ho.ge
  have HGO := Lib.hid hgo
  have hge : HB < go := by have h1 := hb0.out.size; have h2 := HBS.out; have h3 := hgo.1; simp only [World.size_alloc] at h3; simp at h2; omega
  clear c0 c1 c2 ho hd hw hl hgo
  go_wp2_with fail
  go_loopw [7, 9] (fun v i wr => ∃ k : Nat, k ≤ n ∧ i = .int .i64 k ∧ OwnI 3 wr HB v (midTo n r x rad k) ∧ Below HB (w.alloc (.cells #[.int .i64 n, .string s, .string r] 25)) wr ∧ (∀ y, y < n → wr.cell? ⟨go, y, none⟩ = some (.int .i64 (out.getD y 0))) ∧ (∀ q, v.ownBlock = some q → q ≠ go) ∧ go < wr.heap.size) (fun _ i _ => n - (intOf i).toNat)
  case atStart =>
    refine ⟨0, Nat.zero_le _, rfl, HO1.out.1, HO1.out.2.1, fun y hy => HO1.out.2.2.1.cell y (by have := HO1.out.2.2.2; omega), fun q hq => ?_, HGO.out.2⟩
    simp [Value.ownBlock] at hq
    have := HHB.out; omega
  case round =>
    obtain ⟨k, hk, rfl, hown, hb, hcell, hne, hgl⟩ := hrel
    obtain ⟨c0, c1, c2⟩ := (BX.out.below hb (by have := HHB.out; omega)).c
    have HO := Lib.hid (show _ ∧ _ ∧ _ ∧ _ ∧ _ from ⟨hown, hb, hcell, hne, hgl⟩)
    have HL := Lib.hid (midTo_len n r x rad k)
    clear hown hb hcell hne hgl
    by_cases hlt : k < n
    · by_cases hkx : k = x
      · have R : Hid (OwnI 3 wr HB u7 (midTo n r x rad (k + 1))) := by
          rw [Hid, midTo_no (.inl hkx)]; exact HO.out.1
        have t1 : ((k : Int) != (x : Int)) = false := by simp; omega
        clear hkx
        go_wp2
        go_roundw
        case rel => exact ⟨k + 1, by omega, by go_num, R.out, HO.out.2⟩
        case measure => simp [intOf]; omega
      · have t1 : ((k : Int) != (x : Int)) = true := by simp; omega
        have hc := HO.out.2.2.1 k hlt
        obtain ⟨d, hdd⟩ : ∃ d, d = out.getD k 0 := ⟨_, rfl⟩
        rw [← hdd] at hc
        have hdk := HD.out k hlt
        rw [← hdd] at hdk
        have HDK := Lib.hid hdk
        have HKX := Lib.hid hkx
        clear hdd hdk hkx
        go_wp2_with fail
        refine (basic.l1In_any _ _ _ _).mono ?_
        rintro e w1 ⟨rfl, rfl⟩
        cases hib : basic.inB d 0 rad with
        | true =>
          have HS : Hid (midTo n r x rad (k + 1) = midTo n r x rad k ++ [(k : Int)]) := midTo_yes HKX.out (by rw [HDK.out]; exact hib)
          have hsz : HB ≤ wr.heap.size := by have := HO.out.2.1.size; have := HBS.out; omega
          clear hib
          go_wp2_with (at_builtin; refine wpList_app1 wr rfl (.tmp 32) (.tmp 34) 31 rfl HB 3 (.int .i64 0) 8 Tryd.underlying31 infoInt rfl (by decide) _ _ _ (.int .i64 k) rfl HO.out.1 wr.heap.size rfl rfl rfl (by have := HL.out; omega) hsz ?_)
          intro g cap' w9 hown9 hgr
          have R : Hid (OwnI 3 w9 HB (.slice (some ⟨g, 0, none⟩) ((midTo n r x rad k).length + 1) cap') (midTo n r x rad (k + 1)) ∧ Below HB (w.alloc (.cells #[.int .i64 n, .string s, .string r] 25)) w9 ∧ (∀ y, y < n → w9.cell? ⟨go, y, none⟩ = some (.int .i64 (out.getD y 0))) ∧ g ≠ go ∧ go < w9.heap.size) := by
            refine ⟨by rw [HS.out]; unfold OwnI; rw [List.length_append, ivs_append]; exact hown9, HO.out.2.1.trans (hgr.below HO.out.1 hsz), fun y hy => hgr.grown.cell (HO.out.2.2.1 y hy) (fun e => HO.out.2.2.2.1 _ e.symm rfl), ?_, Nat.lt_of_lt_of_le HO.out.2.2.2.2 hgr.grown.size⟩
            rcases hgr.blk g (by simp [Value.ownBlock]) with hb | hb
            · exact HO.out.2.2.2.1 g hb
            · have := HO.out.2.2.2.2; omega
          clear hown9 hgr hsz
          go_wp2
          go_roundw
          case rel => exact ⟨k + 1, by omega, by go_num, R.out.1, R.out.2.1, R.out.2.2.1, fun q hq => by simp [Value.ownBlock] at hq; have := R.out.2.2.2.1; omega, R.out.2.2.2.2⟩
          case measure => simp [intOf]; omega
        | false =>
          have R : Hid (OwnI 3 wr HB u7 (midTo n r x rad (k + 1))) := by
            rw [Hid, midTo_no (.inr (by rw [HDK.out]; exact hib))]; exact HO.out.1
          clear hib
          go_wp2
          go_roundw
          case rel => exact ⟨k + 1, by omega, by go_num, R.out, HO.out.2⟩
          case measure => simp [intOf]; omega
    · obtain rfl : n = k := by omega
      go_wp2
      go_ret
      exact ⟨_, rfl, HO.out.1.mono (by have := HHB.out; omega), AW.out.trans (HO.out.2.1.mono (by have := HHB.out; omega))⟩
end Go.Proofs.YtlnmebjbinmeiaaDoor.ball
