/- Several texts in one: Flip, Pair, Pair8, DrawP. -/
import Derived.Test.YtpcnoiigbmiejaaGreatDoorPkD
import Derived.Laws.IdiomStrings
import Derived.Test.YtpcnoiigbmiejaaGreatDoorPkG
import Derived.Test.YtpcnoiigbmiejaaGreatDoorPkR
/- l1Flip of the reference, of a text of one byte. -/
namespace Go.Proofs.YtpcnoiigbmiejaaGreatDoor.flip
set_option linter.unusedVariables false
set_option linter.unusedSimpArgs false
open Go.ChangeShapes Go.WideShapes Go.ChangeAt Go.RowKit
open Go.Proofs.YtpcnoiigbmiejaaGreatDoor.lib Go.Proofs.YtpcnoiigbmiejaaGreatDoor.st Go.Proofs.YtpcnoiigbmiejaaGreatDoor.draw Go.Proofs.YtpcnoiigbmiejaaGreatDoor.flow
set_option maxHeartbeats 1600000 in
set_option maxRecDepth 100000 in
theorem flip_core (s : ByteArray) (w : World) (cap x : Nat) (C : Array Value) (hx : x < 256) (hC : C[0]? = some (.int .u8 x)) (hcap : 1 ≤ cap ∧ cap ≤ 9223372036854775807)
    (hconv : (convert 9 22 (.string s)).run Tryz.prog w = .ok (.slice (some ⟨w.heap.size, 0, none⟩) 1 cap) (w.drew.alloc (.cells C 5 (C.size, C.size + 1)))) :
    Calls Tryz.prog 79 #[.string s] w fun e w' => ∃ t : ByteArray, t.size = 1 ∧ e = .returned (.string t) ∧ Below w.heap.size w w' := by
  have hC1 : 1 ≤ C.size := by
    rcases Nat.eq_zero_or_pos C.size with h | h
    · rw [Array.getElem?_eq_none (by omega)] at hC; cases hC
    · exact h
  have START : Hid (Below w.heap.size w (w.drew.alloc (.cells C 5 (C.size, C.size + 1))) ∧ ∃ z : Nat, z < 256 ∧ (w.drew.alloc (.cells C 5 (C.size, C.size + 1))).cell? ⟨w.heap.size, 0, none⟩ = some (.int .u8 z) ∧ (w.drew.alloc (.cells C 5 (C.size, C.size + 1))).frozen? ⟨w.heap.size, 0, none⟩ = false) := by
    refine ⟨((Below.refl w.heap.size w).drew).alloc (Nat.le_refl _) _, x, hx, ?_, ?_⟩
    · rw [show w.heap.size = w.drew.heap.size from rfl, World.cell?_alloc_mark]; exact hC
    · rw [show w.heap.size = w.drew.heap.size from rfl, World.frozen?_alloc_mark, decide_eq_false (show ¬ C.size ≤ 0 by omega)]; rfl
  have BACK : Hid (∀ (W : World) (z : Nat), z < 256 → W.cell? ⟨w.heap.size, 0, none⟩ = some (.int .u8 z) → (convert 22 9 (.slice (some ⟨w.heap.size, 0, none⟩) 1 cap)).run Tryz.prog W = .ok (.string ⟨#[UInt8.ofNat z]⟩) W) := fun W z hz hc => by
    refine run_convert_bytes_back W 22 9 5 ⟨w.heap.size, 0, none⟩ cap [UInt8.ofNat z] Tryz.underlying22 Tryz.underlying5 Tryz.underlying9 fun j hj => ?_
    have : j = 0 := by simpa using hj
    subst this
    simp only [Addr.add, List.getElem_cons_zero]
    rw [show ((UInt8.ofNat z).toNat : Int) = (z : Int) by simp; omega]
    exact hc
  obtain ⟨H, hH⟩ : ∃ H, H = w.heap.size := ⟨_, rfl⟩
  have HH := Lib.hid hH
  have HC := Lib.hid hC
  rw [← hH] at START BACK
  clear hC hx hH
  go_enter Tryz.func79, Tryz.ntmps79
  go_wp2_with fail
  try rw [← HH.out]
  go_loopw [4] (fun i wr => ∃ k : Nat, k ≤ 1 ∧ i = .int .i64 k ∧ Below H w wr ∧ ∃ z : Nat, z < 256 ∧ wr.cell? ⟨H, 0, none⟩ = some (.int .u8 z) ∧ wr.frozen? ⟨H, 0, none⟩ = false) (fun i _ => 1 - (intOf i).toNat)
  case atStart => exact ⟨0, by omega, rfl, START.out⟩
  case round =>
    clear START hconv
    obtain ⟨k, hk, rfl, hb, z, hz, hc, hf⟩ := hrel
    have HB := Lib.hid hb
    clear hb
    rcases (show k = 0 ∨ k = 1 by omega) with rfl | rfl
    · have hy : ∃ y : Nat, (97 - (z : Int)) % 256 = (y : Int) ∧ y < 256 := ⟨((97 - (z : Int)) % 256).toNat, by omega, by omega⟩
      obtain ⟨y, hy, hy2⟩ := hy
      have HY := Lib.hid hy
      have R : Hid (Below H w (wr.setCell ⟨H, 0, none⟩ (.int .u8 y)) ∧ (wr.setCell ⟨H, 0, none⟩ (.int .u8 y)).cell? ⟨H, 0, none⟩ = some (.int .u8 y) ∧ (wr.setCell ⟨H, 0, none⟩ (.int .u8 y)).frozen? ⟨H, 0, none⟩ = false) :=
        ⟨HB.out.setCell (Nat.le_refl _) _, World.cell?_setCell_same _ _ _ hc, by rw [World.frozen?_setCell]; exact hf⟩
      clear hy
      go_wp2
      rw [HY.out]
      exact ⟨⟨1, Nat.le_refl _, rfl, R.out.1, y, hy2, R.out.2.1, R.out.2.2⟩, by simp [intOf]⟩
    · have hback := BACK.out wr z hz hc
      have R : Hid ((⟨#[UInt8.ofNat z]⟩ : ByteArray).size = 1 ∧ Below w.heap.size w wr) := ⟨rfl, by rw [← HH.out]; exact HB.out⟩
      go_wp2
      go_ret
      exact ⟨_, R.out.1, rfl, R.out.2⟩
theorem flip_any (s : ByteArray) (w : World) (hs : s.size = 1) :
    Calls Tryz.prog 79 #[.string s] w fun e w' => ∃ t : ByteArray, t.size = 1 ∧ e = .returned (.string t) ∧ Below w.heap.size w w' := by
  have h := run_bytes_of_string (P := Tryz.prog) w 9 22 5 s Tryz.underlying9 Tryz.underlying22 Tryz.underlying5
  obtain ⟨x, hx, hb⟩ : ∃ x : Nat, x < 256 ∧ (bytesRow s (grownCap w s.size 0 5))[0]? = some (.int .u8 x) := ⟨(s.data[0]'(by have : s.data.size = s.size := rfl; omega)).toNat, by have := (s.data[0]'(by have : s.data.size = s.size := rfl; omega)).toNat_lt; simpa using this, bytesRow_at s (grownCap w s.size 0 5) 0 (by have : s.data.size = s.size := rfl; omega)⟩
  have hc : 1 ≤ grownCap w s.size 0 5 ∧ grownCap w s.size 0 5 ≤ 9223372036854775807 := ⟨Nat.le_trans (by omega) (grownCap_ge w s.size 0 _), Nat.le_trans (grownCap_le_maxLen w s.size 0 _ (by unfold maxLen; omega)) (by unfold maxLen; omega)⟩
  rw [hs] at h hb hc
  exact flip_core s w _ x _ hx hb hc h
end Go.Proofs.YtpcnoiigbmiejaaGreatDoor.flip

/- The drawing of two structures: l1Pair. -/
namespace Go.Proofs.YtpcnoiigbmiejaaGreatDoor.pair
set_option linter.unusedVariables false
set_option linter.unusedSimpArgs false
open Go.ChangeShapes Go.WideShapes Go.ChangeAt Go.RowKit
open Go.Proofs.YtpcnoiigbmiejaaGreatDoor.lib Go.Proofs.YtpcnoiigbmiejaaGreatDoor.st Go.Proofs.YtpcnoiigbmiejaaGreatDoor.flow Go.Proofs.YtpcnoiigbmiejaaGreatDoor.chain Go.Proofs.YtpcnoiigbmiejaaGreatDoor.draw Go.Proofs.YtpcnoiigbmiejaaGreatDoor.shuf Go.Proofs.YtpcnoiigbmiejaaGreatDoor.make Go.Proofs.YtpcnoiigbmiejaaGreatDoor.fits

/-- what the drawing of two valid structures leaves -/
def DrawnT (w : World) (R : Nat) (ao : Option Addr) (len cap P : Nat) (e : Ending) (w' : World) : Prop :=
  ∃ (N : Nat) (s r : ByteArray) (M : Nat) (t q : ByteArray) (p : Nat), e = .returned (.tuple #[.agg #[.int .i64 N, .string s, .string r], .agg #[.int .i64 M, .string t, .string q]]) ∧ (1 ≤ N ∧ N ≤ 8 ∧ s.size = N ∧ r.size = N * N) ∧ (1 ≤ M ∧ M ≤ 8 ∧ t.size = M ∧ q.size = M * M) ∧ Rd w' R ao len cap p ∧ p ≤ P ∧ w.grownBy w' (some R)
theorem ints_nat {l : List Int} (h : ∀ x, x ∈ l → 0 ≤ x) : ints (l.map Int.toNat) = l := by
  unfold ints
  rw [List.map_map]
  conv => rhs; rw [← List.map_id l]
  exact List.map_congr_left fun x hx => by have := h x hx; simp; omega
/-- a part of a structure, in an order that was drawn -/
theorem part_drawn (R : Nat) (ao : Option Addr) (len cap p N B : Nat) (s r : ByteArray) (v : Value) (l : List Int) (w : World) (h : Rd w R ao len cap p) (hN1 : 1 ≤ N) (hN : N ≤ 8) (hs : s.size = N) (hr : r.size = N * N) (ho : OwnI 3 w B v l) (hl : l.length = N) (hb : ∀ x, x ∈ l → 0 ≤ x ∧ x < (N : Int)) :
    Calls Tryz.prog 59 #[.agg #[.int .i64 N, .string s, .string r], v] w fun e w' => ∃ (t q : ByteArray), e = .returned (.agg #[.int .i64 N, .string t, .string q]) ∧ t.size = N ∧ q.size = N * N ∧ Rd w' R ao len cap p ∧ w.grownBy w' (some R) := by
  have e := ints_nat (fun x hx => (hb x hx).1)
  have hln : (l.map Int.toNat).length = N := by rw [List.length_map]; exact hl
  refine (part.l1Part_any N s r (l.map Int.toNat) v w (by rw [e]; exact OwnI.reads ho) (fun y hy => ?_) (by omega) hs hr hN).mono ?_
  · obtain ⟨x, hx, rfl⟩ := List.mem_map.1 hy
    have := hb x hx; omega
  · rintro e w' ⟨rfl, hbl⟩
    rw [hln]
    exact ⟨_, _, rfl, bS_size _ _, bR_size _ _ _, rd_below h hbl h.lt, grown_of_below hbl⟩

set_option maxHeartbeats 12800000 in
set_option maxRecDepth 100000 in
theorem l1Pair_any (R : Nat) (ao : Option Addr) (len cap p : Nat) (w : World) (h : Rd w R ao len cap p) (hp : p ≤ 70000000) :
    Calls Tryz.prog 61 #[.pointer (some ⟨R, 0, none⟩)] w (DrawnT w R ao len cap (p + 500)) := by
  have hRl := h.lt
  obtain ⟨W0, hW0⟩ : ∃ QZ, QZ = ((w.alloc (.cells #[.int .i64 0, .string ⟨#[]⟩, .string ⟨#[]⟩] 24)).alloc (.cells #[.int .i64 0, .string ⟨#[]⟩, .string ⟨#[]⟩] 24)) := ⟨_, rfl⟩
  have RD_0 : Hid (Rd W0 R ao len cap p) := by rw [hW0]; exact h.alloc _ |>.alloc _
  have GR_0 : Hid (w.grownBy W0 (some R)) := by rw [hW0]; exact (grown_alloc (World.grownBy_alloc w _ _) _)
  have BA_0 : Hid (Box 24 W0 (w.heap.size) 0 ⟨#[]⟩ ⟨#[]⟩) := by rw [hW0]; exact (Box.new 24 w w.heap.size rfl 0 ⟨#[]⟩ ⟨#[]⟩).below ((Below.refl (w.heap.size + 1) _).alloc (by simp) _) (by omega)
  have BB_0 : Hid (Box 24 W0 (w.heap.size + 1) 0 ⟨#[]⟩ ⟨#[]⟩) := by rw [hW0]; exact Box.new 24 _ (w.heap.size + 1) (by simp) 0 ⟨#[]⟩ ⟨#[]⟩
  clear h
  go_enter Tryz.func61, Tryz.ntmps61
  go_wp2_with fail
  rw [← hW0]
  clear hW0
  go_wp2_with fail
  refine (l1Some_any R ao len cap p _ RD_0.out (by omega)).mono ?_
  rintro e W1 ⟨N, s, r, p1, rfl, hN1, hN2, hs, hr, -, -, hrd, hp1, hg⟩
  have RD_1 := Lib.hid hrd
  have GR_1 := Lib.hid (grown_trans GR_0.out hg)
  have BA_1 := Lib.hid (Box.kept (row := some R) BA_0.out hg (by simp; omega))
  have BB_1 := Lib.hid (Box.kept (row := some R) BB_0.out hg (by simp; omega))
  clear hrd hg
  clear RD_0 GR_0 BA_0 BB_0
  have HN := Lib.hid (show _ ∧ _ from ⟨hs, hr⟩)
  clear hs hr
  obtain ⟨HC, hHC⟩ : ∃ QZ, QZ = W1.heap.size := ⟨_, rfl⟩
  have hlC : (w.heap.size + 1) < HC := by rw [hHC]; exact BB_1.out.lt
  obtain ⟨W2, hW2⟩ : ∃ QZ, QZ = W1.alloc (.cells #[.int .i64 N, .string s, .string r] 24) := ⟨_, rfl⟩
  have RD_2 : Hid (Rd W2 R ao len cap p1) := by rw [hW2]; exact RD_1.out.alloc _
  have GR_2 : Hid (w.grownBy W2 (some R)) := by rw [hW2]; exact grown_alloc GR_1.out _
  have BA_2 : Hid (Box 24 W2 (w.heap.size) 0 ⟨#[]⟩ ⟨#[]⟩) := by rw [hW2]; exact BA_1.out.below ((Below.refl W1.heap.size W1).alloc (Nat.le_refl _) _) BA_1.out.lt
  have BB_2 : Hid (Box 24 W2 (w.heap.size + 1) 0 ⟨#[]⟩ ⟨#[]⟩) := by rw [hW2]; exact BB_1.out.below ((Below.refl W1.heap.size W1).alloc (Nat.le_refl _) _) BB_1.out.lt
  have BC_2 : Hid (Box 24 W2 HC N s r) := by rw [hW2, hHC]; exact Box.new _ _ _ rfl _ _ _
  clear RD_1 GR_1 BA_1 BB_1
  go_wp2_with fail
  rw [← hW2]
  rw [← hHC]
  clear hW2 hHC
  refine (pick_any R ao len cap p1 4 _ RD_2.out (by omega) (by omega) (by omega)).mono ?_
  rintro e W3 ⟨v, hv, rfl, hrd, hg⟩
  have RD_3 := Lib.hid hrd
  have GR_3 := Lib.hid (grown_trans GR_2.out hg)
  have BA_3 := Lib.hid (Box.kept (row := some R) BA_2.out hg (by simp; omega))
  have BB_3 := Lib.hid (Box.kept (row := some R) BB_2.out hg (by simp; omega))
  have BC_3 := Lib.hid (Box.kept (row := some R) BC_2.out hg (by simp; omega))
  clear hrd hg
  clear RD_2 GR_2 BA_2 BB_2 BC_2
  rcases (show v = 0 ∨ v = 1 ∨ v = 2 ∨ v = 3 by omega) with rfl | rfl | rfl | rfl
  · have q0 : ∀ QQ : Wd (fun Q => Q.cell? ⟨HC, 0, none⟩ = some (.int .i64 N) ∧ Q.cell? ⟨HC, 1, none⟩ = some (.string s) ∧ Q.cell? ⟨HC, 2, none⟩ = some (.string r)), QQ.w.cell? ⟨HC, 0, none⟩ = some (.int .i64 N) := fun QQ => QQ.ok.1
    have q1 : ∀ QQ : Wd (fun Q => Q.cell? ⟨HC, 0, none⟩ = some (.int .i64 N) ∧ Q.cell? ⟨HC, 1, none⟩ = some (.string s) ∧ Q.cell? ⟨HC, 2, none⟩ = some (.string r)), QQ.w.cell? ⟨HC, 1, none⟩ = some (.string s) := fun QQ => QQ.ok.2.1
    have q2 : ∀ QQ : Wd (fun Q => Q.cell? ⟨HC, 0, none⟩ = some (.int .i64 N) ∧ Q.cell? ⟨HC, 1, none⟩ = some (.string s) ∧ Q.cell? ⟨HC, 2, none⟩ = some (.string r)), QQ.w.cell? ⟨HC, 2, none⟩ = some (.string r) := fun QQ => QQ.ok.2.2
    have hne : Nonempty (Wd (fun Q => Q.cell? ⟨HC, 0, none⟩ = some (.int .i64 N) ∧ Q.cell? ⟨HC, 1, none⟩ = some (.string s) ∧ Q.cell? ⟨HC, 2, none⟩ = some (.string r))) := ⟨⟨W3, ⟨(Box.c BC_3.out).1, (Box.c BC_3.out).2.1, (Box.c BC_3.out).2.2⟩⟩⟩
    go_wp2_with fail
    refine chain (S := (fun Q => Q.cell? ⟨HC, 0, none⟩ = some (.int .i64 N) ∧ Q.cell? ⟨HC, 1, none⟩ = some (.string s) ∧ Q.cell? ⟨HC, 2, none⟩ = some (.string r))) [([true, true, true, true, true], 5), ([], 6), ([], 7), ([], 8)] [] (by kernel_rfl) (by kernel_rfl) (by kernel_rfl) ⟨(Box.c BC_3.out).1, (Box.c BC_3.out).2.1, (Box.c BC_3.out).2.2⟩ ?_
    simp only [wpSegs, pickB, List.dropLast_cons_cons, List.dropLast_singleton, List.getLast?_cons_cons, List.getLast?_singleton, List.toList_toArray, List.getElem?_toArray, List.getElem?_cons_succ, List.getElem?_cons_zero, Option.toList_some]
    have RD_4 : Hid (Rd W3.drew R ao len cap (p1 + 1)) := RD_3.out.drew
    have GR_4 := Lib.hid (grown_drew GR_3.out)
    have BA_4 : Hid (Box 24 W3.drew (w.heap.size) 0 ⟨#[]⟩ ⟨#[]⟩) := Box.drew BA_3.out
    have BB_4 : Hid (Box 24 W3.drew (w.heap.size + 1) 0 ⟨#[]⟩ ⟨#[]⟩) := Box.drew BB_3.out
    have BC_4 : Hid (Box 24 W3.drew HC N s r) := Box.drew BC_3.out
    clear RD_3 GR_3 BA_3 BB_3 BC_3
    repeat (go_big_quiet_step (fail))
    refine wpQuiet_nil ?_
    intro K hK
    go_wp2_with fail
    refine (shuffle_any R ao len cap (p1 + 1) N _ RD_4.out (by omega) hN2).mono ?_
    rintro e V1 ⟨vl, l, p5, rfl, hll, hlb, ho, hrd, hp5, hg⟩
    have HO := Lib.hid (show _ ∧ _ ∧ _ from ⟨hll, hlb, ho⟩)
    clear hll hlb ho
    have RD_5 := Lib.hid hrd
    have GR_5 := Lib.hid (grown_trans GR_4.out hg)
    have BA_5 := Lib.hid (Box.kept (row := some R) BA_4.out hg (by simp; omega))
    have BB_5 := Lib.hid (Box.kept (row := some R) BB_4.out hg (by simp; omega))
    have BC_5 := Lib.hid (Box.kept (row := some R) BC_4.out hg (by simp; omega))
    clear hrd hg
    clear RD_4 GR_4 BA_4 BB_4 BC_4
    go_wp2_with fail
    refine hK _ _ ⟨(Box.c BC_5.out).1, (Box.c BC_5.out).2.1, (Box.c BC_5.out).2.2⟩ ?_
    clear hK K
    repeat (go_big_quiet_step (fail))
    refine wpQuiet_nil ?_
    intro K hK
    go_wp2_with fail
    refine (part_drawn R ao len cap p5 N _ s r vl l _ RD_5.out hN1 hN2 HN.out.1 HN.out.2 HO.out.2.2 HO.out.1 HO.out.2.1).mono ?_
    rintro e V2 ⟨t, q, rfl, ht, hq, hrd, hg⟩
    have HM := Lib.hid (show _ ∧ _ from ⟨ht, hq⟩)
    clear ht hq
    have RD_6 := Lib.hid hrd
    have GR_6 := Lib.hid (grown_trans GR_5.out hg)
    have BA_6 := Lib.hid (Box.kept (row := some R) BA_5.out hg (by simp; omega))
    have BB_6 := Lib.hid (Box.kept (row := some R) BB_5.out hg (by simp; omega))
    have BC_6 := Lib.hid (Box.kept (row := some R) BC_5.out hg (by simp; omega))
    clear hrd hg
    clear RD_5 GR_5 BA_5 BB_5 BC_5
    go_wp2_with fail
    refine hK _ _ ⟨(Box.c BC_6.out).1, (Box.c BC_6.out).2.1, (Box.c BC_6.out).2.2⟩ ?_
    clear hK K
    obtain ⟨z0, z1, z2⟩ := Box.c BA_6.out
    have f0 := Box.free BA_6.out 0
    have f1 := Box.free BA_6.out 1
    have f2 := Box.free BA_6.out 2
    repeat (go_big_quiet_step (fail))
    refine wpQuiet_nil ?_
    intro K hK
    go_wp2_with fail
    clear z0 z1 z2 f0 f1 f2
    obtain ⟨W7, hW7⟩ : ∃ QZ, QZ = (((V2.setCell ⟨w.heap.size, 0, none⟩ (.int .i64 N)).setCell ⟨w.heap.size, 1, none⟩ (.string s)).setCell ⟨w.heap.size, 2, none⟩ (.string r)) := ⟨_, rfl⟩
    have RD_7 : Hid (Rd W7 R ao len cap p5) := by rw [hW7]; exact rd_sets RD_6.out (by omega)
    have GR_7 : Hid (w.grownBy W7 (some R)) := by rw [hW7]; exact grown_sets GR_6.out (by omega)
    have BA_7 : Hid (Box 24 W7 (w.heap.size) N s r) := by rw [hW7]; exact ((Box.set0 BA_6.out N).set1 s).set2 r
    have BB_7 : Hid (Box 24 W7 (w.heap.size + 1) 0 ⟨#[]⟩ ⟨#[]⟩) := by rw [hW7]; exact box_others BB_6.out (by omega)
    have BC_7 : Hid (Box 24 W7 HC N s r) := by rw [hW7]; exact box_others BC_6.out (by omega)
    clear RD_6 GR_6 BA_6 BB_6 BC_6
    rw [← hW7]
    clear hW7
    refine hK _ _ ⟨(Box.c BC_7.out).1, (Box.c BC_7.out).2.1, (Box.c BC_7.out).2.2⟩ ?_
    clear hK K
    obtain ⟨z0, z1, z2⟩ := Box.c BB_7.out
    have f0 := Box.free BB_7.out 0
    have f1 := Box.free BB_7.out 1
    have f2 := Box.free BB_7.out 2
    repeat (go_big_quiet_step (fail))
    refine wpQuiet_nil ?_
    intro K hK
    go_wp2_with fail
    clear z0 z1 z2 f0 f1 f2
    obtain ⟨W8, hW8⟩ : ∃ QZ, QZ = (((W7.setCell ⟨w.heap.size + 1, 0, none⟩ (.int .i64 N)).setCell ⟨w.heap.size + 1, 1, none⟩ (.string t)).setCell ⟨w.heap.size + 1, 2, none⟩ (.string q)) := ⟨_, rfl⟩
    have RD_8 : Hid (Rd W8 R ao len cap p5) := by rw [hW8]; exact rd_sets RD_7.out (by omega)
    have GR_8 : Hid (w.grownBy W8 (some R)) := by rw [hW8]; exact grown_sets GR_7.out (by omega)
    have BA_8 : Hid (Box 24 W8 (w.heap.size) N s r) := by rw [hW8]; exact box_others BA_7.out (by omega)
    have BB_8 : Hid (Box 24 W8 (w.heap.size + 1) N t q) := by rw [hW8]; exact ((Box.set0 BB_7.out N).set1 t).set2 q
    have BC_8 : Hid (Box 24 W8 HC N s r) := by rw [hW8]; exact box_others BC_7.out (by omega)
    clear RD_7 GR_7 BA_7 BB_7 BC_7
    rw [← hW8]
    clear hW8
    refine hK _ _ ⟨(Box.c BC_8.out).1, (Box.c BC_8.out).2.1, (Box.c BC_8.out).2.2⟩ ?_
    clear hK K
    repeat (go_big_quiet_step (fail))
    refine wpQuiet_nil ?_
    clear q0 q1 q2 hne
    have HF := Lib.hid (show _ ∧ _ from ⟨Box.c BA_8.out, Box.c BB_8.out⟩)
    have RES := Lib.hid (show _ ∧ _ from ⟨RD_8.out, GR_8.out⟩)
    clear RD_8 GR_8 BA_8 BB_8 BC_8
    go_wp2
    exact bodyPost_ret (v := .tuple #[.agg #[.int .i64 N, .string s, .string r], .agg #[.int .i64 N, .string t, .string q]]) (by simp [results, Tryz.results61, go_sem, HF.out.1.1, HF.out.1.2.1, HF.out.1.2.2, HF.out.2.1, HF.out.2.2.1, HF.out.2.2.2]) rfl ⟨N, s, r, N, t, q, _, rfl, ⟨hN1, hN2, HN.out.1, HN.out.2⟩, ⟨hN1, hN2, HM.out.1, HM.out.2⟩, RES.out.1, by omega, RES.out.2⟩
  · have q0 : ∀ QQ : Wd (fun Q => Q.cell? ⟨HC, 0, none⟩ = some (.int .i64 N) ∧ Q.cell? ⟨HC, 1, none⟩ = some (.string s) ∧ Q.cell? ⟨HC, 2, none⟩ = some (.string r)), QQ.w.cell? ⟨HC, 0, none⟩ = some (.int .i64 N) := fun QQ => QQ.ok.1
    have q1 : ∀ QQ : Wd (fun Q => Q.cell? ⟨HC, 0, none⟩ = some (.int .i64 N) ∧ Q.cell? ⟨HC, 1, none⟩ = some (.string s) ∧ Q.cell? ⟨HC, 2, none⟩ = some (.string r)), QQ.w.cell? ⟨HC, 1, none⟩ = some (.string s) := fun QQ => QQ.ok.2.1
    have q2 : ∀ QQ : Wd (fun Q => Q.cell? ⟨HC, 0, none⟩ = some (.int .i64 N) ∧ Q.cell? ⟨HC, 1, none⟩ = some (.string s) ∧ Q.cell? ⟨HC, 2, none⟩ = some (.string r)), QQ.w.cell? ⟨HC, 2, none⟩ = some (.string r) := fun QQ => QQ.ok.2.2
    have hne : Nonempty (Wd (fun Q => Q.cell? ⟨HC, 0, none⟩ = some (.int .i64 N) ∧ Q.cell? ⟨HC, 1, none⟩ = some (.string s) ∧ Q.cell? ⟨HC, 2, none⟩ = some (.string r))) := ⟨⟨W3, ⟨(Box.c BC_3.out).1, (Box.c BC_3.out).2.1, (Box.c BC_3.out).2.2⟩⟩⟩
    go_wp2_with fail
    go_cut [5] from 22 to 27 (fun b wx => ∃ (HD : Nat) (t q : ByteArray) (p5 : Nat), b = .pointer (some ⟨HD, 0, none⟩) ∧ HC < HD ∧ Box 24 wx HD N t q ∧ t.size = N ∧ q.size = N * N ∧ Rd wx R ao len cap p5 ∧ p5 ≤ p1 + 1 + 8 ∧ W3.grownBy wx (some R))
    case first =>
      go_wp2_with fail
      refine tree (S := (fun Q => Q.cell? ⟨HC, 0, none⟩ = some (.int .i64 N) ∧ Q.cell? ⟨HC, 1, none⟩ = some (.string s) ∧ Q.cell? ⟨HC, 2, none⟩ = some (.string r))) (Tr.two [true, true, true, true] 4 (Tr.two [] 5 (Tr.one [] 6 (Tr.one [] 7 (Tr.leaf []))) 6 (Tr.one [] 5 (Tr.one [] 7 (Tr.leaf [])))) 6 (Tr.one [] 4 (Tr.one [] 5 (Tr.one [] 7 (Tr.leaf []))))) (by kernel_rfl) (by kernel_rfl) (by kernel_rfl) ⟨(Box.c BC_3.out).1, (Box.c BC_3.out).2.1, (Box.c BC_3.out).2.2⟩ ?_
      simp only [wpTr, pickB, List.toList_toArray, List.getElem?_toArray, List.getElem?_cons_succ, List.getElem?_cons_zero, Option.toList_some]
      have GC_4 : Hid (W3.grownBy W3.drew (some R)) := grown_drew (World.grownBy.refl _ _)
      have RD_4 : Hid (Rd W3.drew R ao len cap (p1 + 1)) := RD_3.out.drew
      have GR_4 := Lib.hid (grown_drew GR_3.out)
      have BA_4 : Hid (Box 24 W3.drew (w.heap.size) 0 ⟨#[]⟩ ⟨#[]⟩) := Box.drew BA_3.out
      have BB_4 : Hid (Box 24 W3.drew (w.heap.size + 1) 0 ⟨#[]⟩ ⟨#[]⟩) := Box.drew BB_3.out
      have BC_4 : Hid (Box 24 W3.drew HC N s r) := Box.drew BC_3.out
      clear RD_3 GR_3 BA_3 BB_3 BC_3
      repeat (go_big_quiet_step (fail))
      refine wpQuiet_nil ?_
      constructor
      · intro K hK
        go_wp2_with fail
        refine (shuffle_any R ao len cap (p1 + 1) N _ RD_4.out (by omega) hN2).mono ?_
        rintro e V1 ⟨vl, l, p5, rfl, hll, hlb, ho, hrd, hp5, hg⟩
        have HO := Lib.hid (show _ ∧ _ ∧ _ from ⟨hll, hlb, ho⟩)
        clear hll hlb ho
        have GC_5 := Lib.hid (grown_trans GC_4.out hg)
        have RD_5 := Lib.hid hrd
        have GR_5 := Lib.hid (grown_trans GR_4.out hg)
        have BA_5 := Lib.hid (Box.kept (row := some R) BA_4.out hg (by simp; omega))
        have BB_5 := Lib.hid (Box.kept (row := some R) BB_4.out hg (by simp; omega))
        have BC_5 := Lib.hid (Box.kept (row := some R) BC_4.out hg (by simp; omega))
        clear hrd hg
        clear RD_4 GR_4 BA_4 BB_4 BC_4
        clear GC_4
        go_wp2_with fail
        refine hK _ _ ⟨(Box.c BC_5.out).1, (Box.c BC_5.out).2.1, (Box.c BC_5.out).2.2⟩ ?_
        clear hK K
        repeat (go_big_quiet_step (fail))
        refine wpQuiet_nil ?_
        constructor
        · intro K hK
          go_wp2_with fail
          refine (part_drawn R ao len cap p5 N _ s r vl l _ RD_5.out hN1 hN2 HN.out.1 HN.out.2 HO.out.2.2 HO.out.1 HO.out.2.1).mono ?_
          rintro e V2 ⟨t, q, rfl, ht, hq, hrd, hg⟩
          have HM := Lib.hid (show _ ∧ _ from ⟨ht, hq⟩)
          clear ht hq
          have GC_6 := Lib.hid (grown_trans GC_5.out hg)
          have RD_6 := Lib.hid hrd
          have GR_6 := Lib.hid (grown_trans GR_5.out hg)
          have BA_6 := Lib.hid (Box.kept (row := some R) BA_5.out hg (by simp; omega))
          have BB_6 := Lib.hid (Box.kept (row := some R) BB_5.out hg (by simp; omega))
          have BC_6 := Lib.hid (Box.kept (row := some R) BC_5.out hg (by simp; omega))
          clear hrd hg
          clear RD_5 GR_5 BA_5 BB_5 BC_5
          clear GC_5
          go_wp2_with fail
          refine hK _ _ ⟨(Box.c BC_6.out).1, (Box.c BC_6.out).2.1, (Box.c BC_6.out).2.2⟩ ?_
          clear hK K
          repeat (go_big_quiet_step (fail))
          refine wpQuiet_nil ?_
          intro K hK
          go_wp2_with fail
          obtain ⟨V16, hV⟩ : ∃ QZ, QZ = V2.alloc (.cells #[.int .i64 0, .string ⟨#[]⟩, .string ⟨#[]⟩] 24) := ⟨_, rfl⟩
          obtain ⟨HD, hHD⟩ : ∃ QZ, QZ = V2.heap.size := ⟨_, rfl⟩
          have hCD : HC < HD := by rw [hHD]; exact BC_6.out.lt
          have hD3 : W3.heap.size ≤ HD := by rw [hHD]; exact GC_6.out.size
          have hba : Below V2.heap.size V2 V16 := by rw [hV]; exact (Below.refl _ _).alloc (Nat.le_refl _) _
          have DD_7 : Hid (Box 24 V16 HD 0 ⟨#[]⟩ ⟨#[]⟩) := by rw [hV, hHD]; exact Box.new _ _ _ rfl _ _ _
          have hrd := rd_below RD_6.out hba RD_6.out.lt
          have hg : V2.grownBy V16 (some R) := grown_of_below hba
          have GC_7 := Lib.hid (grown_trans GC_6.out hg)
          rw [← hV, ← hHD]
          have RD_7 := Lib.hid hrd
          have GR_7 := Lib.hid (grown_trans GR_6.out hg)
          have BA_7 := Lib.hid (Box.kept (row := some R) BA_6.out hg (by simp; omega))
          have BB_7 := Lib.hid (Box.kept (row := some R) BB_6.out hg (by simp; omega))
          have BC_7 := Lib.hid (Box.kept (row := some R) BC_6.out hg (by simp; omega))
          clear hrd hg
          clear RD_6 GR_6 BA_6 BB_6 BC_6
          clear GC_6 hba
          refine hK _ _ ⟨(Box.c BC_7.out).1, (Box.c BC_7.out).2.1, (Box.c BC_7.out).2.2⟩ ?_
          clear hK K hV hHD
          obtain ⟨z0, z1, z2⟩ := Box.c DD_7.out
          have f0 := Box.free DD_7.out 0
          have f1 := Box.free DD_7.out 1
          have f2 := Box.free DD_7.out 2
          repeat (go_big_quiet_step (fail))
          refine wpQuiet_nil ?_
          intro K hK
          go_wp2_with fail
          clear z0 z1 z2 f0 f1 f2
          obtain ⟨VZ, hVZ⟩ : ∃ QZ, QZ = (((V16.setCell ⟨HD, 0, none⟩ (.int .i64 N)).setCell ⟨HD, 1, none⟩ (.string t)).setCell ⟨HD, 2, none⟩ (.string q)) := ⟨_, rfl⟩
          have FIN : Hid (Box 24 VZ HD N t q ∧ Rd VZ R ao len cap p5 ∧ W3.grownBy VZ (some R)) := by rw [hVZ]; exact ⟨((Box.set0 DD_7.out N).set1 t).set2 q, rd_sets RD_7.out (by omega), grown_sets GC_7.out (by omega)⟩
          have BCZ : Hid (Box 24 VZ HC N s r) := by rw [hVZ]; exact box_others BC_7.out (by omega)
          rw [← hVZ]
          clear hVZ
          refine hK _ _ (Box.c BCZ.out) ?_
          clear hK K
          repeat (go_big_quiet_step (fail))
          refine wpQuiet_nil ?_
          go_wp2_with fail
          go_meet
          exact ⟨HD, t, q, p5, rfl, hCD, FIN.out.1, HM.out.1, HM.out.2, FIN.out.2.1, by omega, FIN.out.2.2⟩
        · intro K hK
          go_wp2_with fail
          obtain ⟨V15, hV⟩ : ∃ QZ, QZ = V1.alloc (.cells #[.int .i64 0, .string ⟨#[]⟩, .string ⟨#[]⟩] 24) := ⟨_, rfl⟩
          obtain ⟨HD, hHD⟩ : ∃ QZ, QZ = V1.heap.size := ⟨_, rfl⟩
          have hCD : HC < HD := by rw [hHD]; exact BC_5.out.lt
          have hD3 : W3.heap.size ≤ HD := by rw [hHD]; exact GC_5.out.size
          have hba : Below V1.heap.size V1 V15 := by rw [hV]; exact (Below.refl _ _).alloc (Nat.le_refl _) _
          have DD_6 : Hid (Box 24 V15 HD 0 ⟨#[]⟩ ⟨#[]⟩) := by rw [hV, hHD]; exact Box.new _ _ _ rfl _ _ _
          have hrd := rd_below RD_5.out hba RD_5.out.lt
          have hg : V1.grownBy V15 (some R) := grown_of_below hba
          have GC_6 := Lib.hid (grown_trans GC_5.out hg)
          have HO2 := HO.out.2.2.below hba (Nat.le_refl _)
          have HO := Lib.hid (show _ ∧ _ ∧ _ from ⟨HO.out.1, HO.out.2.1, HO2⟩)
          clear HO2
          rw [← hV, ← hHD]
          have RD_6 := Lib.hid hrd
          have GR_6 := Lib.hid (grown_trans GR_5.out hg)
          have BA_6 := Lib.hid (Box.kept (row := some R) BA_5.out hg (by simp; omega))
          have BB_6 := Lib.hid (Box.kept (row := some R) BB_5.out hg (by simp; omega))
          have BC_6 := Lib.hid (Box.kept (row := some R) BC_5.out hg (by simp; omega))
          clear hrd hg
          clear RD_5 GR_5 BA_5 BB_5 BC_5
          clear GC_5 hba
          refine hK _ _ ⟨(Box.c BC_6.out).1, (Box.c BC_6.out).2.1, (Box.c BC_6.out).2.2⟩ ?_
          clear hK K hV hHD
          repeat (go_big_quiet_step (fail))
          refine wpQuiet_nil ?_
          intro K hK
          go_wp2_with fail
          refine (part_drawn R ao len cap p5 N _ s r vl l _ RD_6.out hN1 hN2 HN.out.1 HN.out.2 HO.out.2.2 HO.out.1 HO.out.2.1).mono ?_
          rintro e V2 ⟨t, q, rfl, ht, hq, hrd, hg⟩
          have HM := Lib.hid (show _ ∧ _ from ⟨ht, hq⟩)
          clear ht hq
          have GC_7 := Lib.hid (grown_trans GC_6.out hg)
          have DD_7 := Lib.hid (Box.kept (row := some R) DD_6.out hg (by simp; omega))
          have RD_7 := Lib.hid hrd
          have GR_7 := Lib.hid (grown_trans GR_6.out hg)
          have BA_7 := Lib.hid (Box.kept (row := some R) BA_6.out hg (by simp; omega))
          have BB_7 := Lib.hid (Box.kept (row := some R) BB_6.out hg (by simp; omega))
          have BC_7 := Lib.hid (Box.kept (row := some R) BC_6.out hg (by simp; omega))
          clear hrd hg
          clear RD_6 GR_6 BA_6 BB_6 BC_6
          clear GC_6 DD_6
          go_wp2_with fail
          refine hK _ _ ⟨(Box.c BC_7.out).1, (Box.c BC_7.out).2.1, (Box.c BC_7.out).2.2⟩ ?_
          clear hK K
          obtain ⟨z0, z1, z2⟩ := Box.c DD_7.out
          have f0 := Box.free DD_7.out 0
          have f1 := Box.free DD_7.out 1
          have f2 := Box.free DD_7.out 2
          repeat (go_big_quiet_step (fail))
          refine wpQuiet_nil ?_
          intro K hK
          go_wp2_with fail
          clear z0 z1 z2 f0 f1 f2
          obtain ⟨VZ, hVZ⟩ : ∃ QZ, QZ = (((V2.setCell ⟨HD, 0, none⟩ (.int .i64 N)).setCell ⟨HD, 1, none⟩ (.string t)).setCell ⟨HD, 2, none⟩ (.string q)) := ⟨_, rfl⟩
          have FIN : Hid (Box 24 VZ HD N t q ∧ Rd VZ R ao len cap p5 ∧ W3.grownBy VZ (some R)) := by rw [hVZ]; exact ⟨((Box.set0 DD_7.out N).set1 t).set2 q, rd_sets RD_7.out (by omega), grown_sets GC_7.out (by omega)⟩
          have BCZ : Hid (Box 24 VZ HC N s r) := by rw [hVZ]; exact box_others BC_7.out (by omega)
          rw [← hVZ]
          clear hVZ
          refine hK _ _ (Box.c BCZ.out) ?_
          clear hK K
          repeat (go_big_quiet_step (fail))
          refine wpQuiet_nil ?_
          go_wp2_with fail
          go_meet
          exact ⟨HD, t, q, p5, rfl, hCD, FIN.out.1, HM.out.1, HM.out.2, FIN.out.2.1, by omega, FIN.out.2.2⟩
      · intro K hK
        go_wp2_with fail
        obtain ⟨V14, hV⟩ : ∃ QZ, QZ = (W3.alloc (.cells #[.int .i64 0, .string ⟨#[]⟩, .string ⟨#[]⟩] 24)).drew := ⟨_, rfl⟩
        obtain ⟨HD, hHD⟩ : ∃ QZ, QZ = W3.heap.size := ⟨_, rfl⟩
        have hCD : HC < HD := by rw [hHD]; exact BC_4.out.lt
        have hD3 : W3.heap.size ≤ HD := by rw [hHD]; exact GC_4.out.size
        have hba : Below W3.heap.size W3.drew V14 := by rw [hV]; exact Below.trans (b := W3) ⟨rfl, rfl, rfl, Nat.le_refl _, fun _ _ => rfl⟩ ((Below.refl W3.heap.size W3).alloc (Nat.le_refl _) _).drew
        have DD_5 : Hid (Box 24 V14 HD 0 ⟨#[]⟩ ⟨#[]⟩) := by rw [hV, hHD]; exact Box.drew (Box.new _ _ _ rfl _ _ _)
        have hrd := rd_below RD_4.out hba RD_4.out.lt
        have hg : W3.drew.grownBy V14 (some R) := grown_of_below hba
        have GC_5 := Lib.hid (grown_trans GC_4.out hg)
        rw [← hV, ← hHD]
        have RD_5 := Lib.hid hrd
        have GR_5 := Lib.hid (grown_trans GR_4.out hg)
        have BA_5 := Lib.hid (Box.kept (row := some R) BA_4.out hg (by simp; omega))
        have BB_5 := Lib.hid (Box.kept (row := some R) BB_4.out hg (by simp; omega))
        have BC_5 := Lib.hid (Box.kept (row := some R) BC_4.out hg (by simp; omega))
        clear hrd hg
        clear RD_4 GR_4 BA_4 BB_4 BC_4
        clear GC_4 hba
        refine hK _ _ ⟨(Box.c BC_5.out).1, (Box.c BC_5.out).2.1, (Box.c BC_5.out).2.2⟩ ?_
        clear hK K hV hHD
        repeat (go_big_quiet_step (fail))
        refine wpQuiet_nil ?_
        intro K hK
        go_wp2_with fail
        refine (shuffle_any R ao len cap (p1 + 1) N _ RD_5.out (by omega) hN2).mono ?_
        rintro e V1 ⟨vl, l, p5, rfl, hll, hlb, ho, hrd, hp5, hg⟩
        have HO := Lib.hid (show _ ∧ _ ∧ _ from ⟨hll, hlb, ho⟩)
        clear hll hlb ho
        have GC_6 := Lib.hid (grown_trans GC_5.out hg)
        have DD_6 := Lib.hid (Box.kept (row := some R) DD_5.out hg (by simp; omega))
        have RD_6 := Lib.hid hrd
        have GR_6 := Lib.hid (grown_trans GR_5.out hg)
        have BA_6 := Lib.hid (Box.kept (row := some R) BA_5.out hg (by simp; omega))
        have BB_6 := Lib.hid (Box.kept (row := some R) BB_5.out hg (by simp; omega))
        have BC_6 := Lib.hid (Box.kept (row := some R) BC_5.out hg (by simp; omega))
        clear hrd hg
        clear RD_5 GR_5 BA_5 BB_5 BC_5
        clear GC_5 DD_5
        go_wp2_with fail
        refine hK _ _ ⟨(Box.c BC_6.out).1, (Box.c BC_6.out).2.1, (Box.c BC_6.out).2.2⟩ ?_
        clear hK K
        repeat (go_big_quiet_step (fail))
        refine wpQuiet_nil ?_
        intro K hK
        go_wp2_with fail
        refine (part_drawn R ao len cap p5 N _ s r vl l _ RD_6.out hN1 hN2 HN.out.1 HN.out.2 HO.out.2.2 HO.out.1 HO.out.2.1).mono ?_
        rintro e V2 ⟨t, q, rfl, ht, hq, hrd, hg⟩
        have HM := Lib.hid (show _ ∧ _ from ⟨ht, hq⟩)
        clear ht hq
        have GC_7 := Lib.hid (grown_trans GC_6.out hg)
        have DD_7 := Lib.hid (Box.kept (row := some R) DD_6.out hg (by simp; omega))
        have RD_7 := Lib.hid hrd
        have GR_7 := Lib.hid (grown_trans GR_6.out hg)
        have BA_7 := Lib.hid (Box.kept (row := some R) BA_6.out hg (by simp; omega))
        have BB_7 := Lib.hid (Box.kept (row := some R) BB_6.out hg (by simp; omega))
        have BC_7 := Lib.hid (Box.kept (row := some R) BC_6.out hg (by simp; omega))
        clear hrd hg
        clear RD_6 GR_6 BA_6 BB_6 BC_6
        clear GC_6 DD_6
        go_wp2_with fail
        refine hK _ _ ⟨(Box.c BC_7.out).1, (Box.c BC_7.out).2.1, (Box.c BC_7.out).2.2⟩ ?_
        clear hK K
        obtain ⟨z0, z1, z2⟩ := Box.c DD_7.out
        have f0 := Box.free DD_7.out 0
        have f1 := Box.free DD_7.out 1
        have f2 := Box.free DD_7.out 2
        repeat (go_big_quiet_step (fail))
        refine wpQuiet_nil ?_
        intro K hK
        go_wp2_with fail
        clear z0 z1 z2 f0 f1 f2
        obtain ⟨VZ, hVZ⟩ : ∃ QZ, QZ = (((V2.setCell ⟨HD, 0, none⟩ (.int .i64 N)).setCell ⟨HD, 1, none⟩ (.string t)).setCell ⟨HD, 2, none⟩ (.string q)) := ⟨_, rfl⟩
        have FIN : Hid (Box 24 VZ HD N t q ∧ Rd VZ R ao len cap p5 ∧ W3.grownBy VZ (some R)) := by rw [hVZ]; exact ⟨((Box.set0 DD_7.out N).set1 t).set2 q, rd_sets RD_7.out (by omega), grown_sets GC_7.out (by omega)⟩
        have BCZ : Hid (Box 24 VZ HC N s r) := by rw [hVZ]; exact box_others BC_7.out (by omega)
        rw [← hVZ]
        clear hVZ
        refine hK _ _ (Box.c BCZ.out) ?_
        clear hK K
        repeat (go_big_quiet_step (fail))
        refine wpQuiet_nil ?_
        go_wp2_with fail
        go_meet
        exact ⟨HD, t, q, p5, rfl, hCD, FIN.out.1, HM.out.1, HM.out.2, FIN.out.2.1, by omega, FIN.out.2.2⟩
    case rest =>
      obtain ⟨HD, t, q, p5, rfl, hCD, hbx, ht, hq, hrd, hp5, hg⟩ := hcut
      clear q0 q1 q2 hne
      have HM := Lib.hid (show _ ∧ _ from ⟨ht, hq⟩)
      have BDx := Lib.hid hbx
      clear hbx ht hq
      have RD_4 := Lib.hid hrd
      have GR_4 := Lib.hid (grown_trans GR_3.out hg)
      have BA_4 := Lib.hid (Box.kept (row := some R) BA_3.out hg (by simp; omega))
      have BB_4 := Lib.hid (Box.kept (row := some R) BB_3.out hg (by simp; omega))
      have BC_4 := Lib.hid (Box.kept (row := some R) BC_3.out hg (by simp; omega))
      clear hrd hg
      clear RD_3 GR_3 BA_3 BB_3 BC_3
      have BD_4 := BDx
      clear BDx
      have hNN : 1 ≤ N * N ∧ N * N ≤ 64 := ⟨Nat.mul_le_mul hN1 hN1, Nat.mul_le_mul hN2 hN2⟩
      have hqs : 1 ≤ q.size ∧ q.size ≤ 64 := by rw [HM.out.2]; exact hNN
      clear hNN
      obtain ⟨d0, d1, d2⟩ := Box.c BD_4.out
      go_wp2_with fail
      refine (pick_any R ao len cap p5 q.size _ RD_4.out (by omega) (by omega) (by omega)).mono ?_
      rintro e W5 ⟨kk, hkk, rfl, hrd, hg⟩
      have RD_5 := Lib.hid hrd
      have GR_5 := Lib.hid (grown_trans GR_4.out hg)
      have BA_5 := Lib.hid (Box.kept (row := some R) BA_4.out hg (by simp; omega))
      have BB_5 := Lib.hid (Box.kept (row := some R) BB_4.out hg (by simp; omega))
      have BC_5 := Lib.hid (Box.kept (row := some R) BC_4.out hg (by simp; omega))
      have BD_5 := Lib.hid (Box.kept (row := some R) BD_4.out hg (by simp; omega))
      clear hrd hg
      clear RD_4 GR_4 BA_4 BB_4 BC_4 BD_4
      clear d0 d1 d2
      have q0 : ∀ QQ : Wd (fun Q => Q.cell? ⟨HD, 2, none⟩ = some (.string q)), QQ.w.cell? ⟨HD, 2, none⟩ = some (.string q) := fun QQ => QQ.ok
      have hne : Nonempty (Wd (fun Q => Q.cell? ⟨HD, 2, none⟩ = some (.string q))) := ⟨⟨W5, (Box.c BD_5.out).2.2⟩⟩
      go_wp2_with fail
      have hk1 : ((kk : Int) + 1) ≤ (q.size : Int) := by omega
      refine chain_last (S := (fun Q => Q.cell? ⟨HD, 2, none⟩ = some (.string q))) [([true, true, true, true, true, true, true, true, true, true, false, false, true, true, true, true, true], 10)] [false, false, false, false, false, false, false, false, false, false, false, true, false, false, false, false, false, true, true] (by kernel_rfl) (by kernel_rfl) (by kernel_rfl) (by kernel_rfl) (by kernel_rfl) (by kernel_rfl) (Box.c BD_5.out).2.2 ?_
      simp only [wpSegs, pickB, List.dropLast_cons_cons, List.dropLast_singleton, List.getLast?_cons_cons, List.getLast?_singleton, List.toList_toArray, List.getElem?_toArray, List.getElem?_cons_succ, List.getElem?_cons_zero, Option.toList_some]
      have RD_6 : Hid (Rd W5.drew R ao len cap (p5 + 1)) := RD_5.out.drew
      have GR_6 := Lib.hid (grown_drew GR_5.out)
      have BA_6 : Hid (Box 24 W5.drew (w.heap.size) 0 ⟨#[]⟩ ⟨#[]⟩) := Box.drew BA_5.out
      have BB_6 : Hid (Box 24 W5.drew (w.heap.size + 1) 0 ⟨#[]⟩ ⟨#[]⟩) := Box.drew BB_5.out
      have BC_6 : Hid (Box 24 W5.drew HC N s r) := Box.drew BC_5.out
      have BD_6 : Hid (Box 24 W5.drew HD N t q) := Box.drew BD_5.out
      clear RD_5 GR_5 BA_5 BB_5 BC_5 BD_5
      repeat (go_big_quiet_step (fail))
      refine wpQuiet_nil ?_
      intro K hK
      go_wp2_with fail
      refine (flip.flip_any _ _ (by rw [ByteArray.size_extract]; omega)).mono ?_
      rintro e V1 ⟨ff, hff, rfl, hb⟩
      have hrd := rd_below RD_6.out hb RD_6.out.lt
      have hg : W5.drew.grownBy V1 (some R) := grown_of_below hb
      clear hb
      have RD_7 := Lib.hid hrd
      have GR_7 := Lib.hid (grown_trans GR_6.out hg)
      have BA_7 := Lib.hid (Box.kept (row := some R) BA_6.out hg (by simp; omega))
      have BB_7 := Lib.hid (Box.kept (row := some R) BB_6.out hg (by simp; omega))
      have BC_7 := Lib.hid (Box.kept (row := some R) BC_6.out hg (by simp; omega))
      have BD_7 := Lib.hid (Box.kept (row := some R) BD_6.out hg (by simp; omega))
      clear hrd hg
      clear RD_6 GR_6 BA_6 BB_6 BC_6 BD_6
      go_wp2_with fail
      refine hK _ _ (Box.c BD_7.out).2.2 ?_
      clear hK K
      repeat (go_big_quiet_step (fail))
      refine wpQuiet_nil ?_
      show wpList _ _ _ _ _ _
      clear q0 hne
      obtain ⟨rq, hrq⟩ : ∃ QZ, QZ = q.extract 0 kk ++ ff ++ q.extract (kk + 1) q.size := ⟨_, rfl⟩
      have HQ2 : Hid (rq.size = N * N) := by rw [Hid, hrq, ByteArray.size_append, ByteArray.size_append, ByteArray.size_extract, ByteArray.size_extract, hff, ← HM.out.2]; omega
      have HQQ := Lib.hid hrq
      clear hff hk1
      obtain ⟨z0, z1, z2⟩ := Box.c BD_7.out
      have f2 := Box.free BD_7.out 2
      obtain ⟨W20, hW20⟩ : ∃ QZ, QZ = V1.setCell ⟨HD, 2, none⟩ (.string rq) := ⟨_, rfl⟩
      have RD_8 : Hid (Rd W20 R ao len cap (p5 + 1)) := by rw [hW20]; exact RD_7.out.setNew (by omega)
      have GR_8 : Hid (w.grownBy W20 (some R)) := by rw [hW20]; exact grown_new GR_7.out (by omega)
      have BA_8 : Hid (Box 24 W20 (w.heap.size) 0 ⟨#[]⟩ ⟨#[]⟩) := by rw [hW20]; exact box_other BA_7.out (by omega)
      have BB_8 : Hid (Box 24 W20 (w.heap.size + 1) 0 ⟨#[]⟩ ⟨#[]⟩) := by rw [hW20]; exact box_other BB_7.out (by omega)
      have BC_8 : Hid (Box 24 W20 HC N s r) := by rw [hW20]; exact box_other BC_7.out (by omega)
      have BD_8 : Hid (Box 24 W20 HD N t rq) := by rw [hW20]; exact Box.set2 BD_7.out rq
      clear RD_7 GR_7 BA_7 BB_7 BC_7 BD_7
      clear hrq
      go_wp2_with fail
      rw [← HQQ.out, ← hW20]
      clear hW20 HQQ z0 z1 z2 f2
      have q0 : ∀ QQ : Wd (fun Q => Q.cell? ⟨HC, 0, none⟩ = some (.int .i64 N) ∧ Q.cell? ⟨HC, 1, none⟩ = some (.string s) ∧ Q.cell? ⟨HC, 2, none⟩ = some (.string r) ∧ Q.cell? ⟨HD, 0, none⟩ = some (.int .i64 N) ∧ Q.cell? ⟨HD, 1, none⟩ = some (.string t) ∧ Q.cell? ⟨HD, 2, none⟩ = some (.string rq)), QQ.w.cell? ⟨HC, 0, none⟩ = some (.int .i64 N) := fun QQ => QQ.ok.1
      have q1 : ∀ QQ : Wd (fun Q => Q.cell? ⟨HC, 0, none⟩ = some (.int .i64 N) ∧ Q.cell? ⟨HC, 1, none⟩ = some (.string s) ∧ Q.cell? ⟨HC, 2, none⟩ = some (.string r) ∧ Q.cell? ⟨HD, 0, none⟩ = some (.int .i64 N) ∧ Q.cell? ⟨HD, 1, none⟩ = some (.string t) ∧ Q.cell? ⟨HD, 2, none⟩ = some (.string rq)), QQ.w.cell? ⟨HC, 1, none⟩ = some (.string s) := fun QQ => QQ.ok.2.1
      have q2 : ∀ QQ : Wd (fun Q => Q.cell? ⟨HC, 0, none⟩ = some (.int .i64 N) ∧ Q.cell? ⟨HC, 1, none⟩ = some (.string s) ∧ Q.cell? ⟨HC, 2, none⟩ = some (.string r) ∧ Q.cell? ⟨HD, 0, none⟩ = some (.int .i64 N) ∧ Q.cell? ⟨HD, 1, none⟩ = some (.string t) ∧ Q.cell? ⟨HD, 2, none⟩ = some (.string rq)), QQ.w.cell? ⟨HC, 2, none⟩ = some (.string r) := fun QQ => QQ.ok.2.2.1
      have q3 : ∀ QQ : Wd (fun Q => Q.cell? ⟨HC, 0, none⟩ = some (.int .i64 N) ∧ Q.cell? ⟨HC, 1, none⟩ = some (.string s) ∧ Q.cell? ⟨HC, 2, none⟩ = some (.string r) ∧ Q.cell? ⟨HD, 0, none⟩ = some (.int .i64 N) ∧ Q.cell? ⟨HD, 1, none⟩ = some (.string t) ∧ Q.cell? ⟨HD, 2, none⟩ = some (.string rq)), QQ.w.cell? ⟨HD, 0, none⟩ = some (.int .i64 N) := fun QQ => QQ.ok.2.2.2.1
      have q4 : ∀ QQ : Wd (fun Q => Q.cell? ⟨HC, 0, none⟩ = some (.int .i64 N) ∧ Q.cell? ⟨HC, 1, none⟩ = some (.string s) ∧ Q.cell? ⟨HC, 2, none⟩ = some (.string r) ∧ Q.cell? ⟨HD, 0, none⟩ = some (.int .i64 N) ∧ Q.cell? ⟨HD, 1, none⟩ = some (.string t) ∧ Q.cell? ⟨HD, 2, none⟩ = some (.string rq)), QQ.w.cell? ⟨HD, 1, none⟩ = some (.string t) := fun QQ => QQ.ok.2.2.2.2.1
      have q5 : ∀ QQ : Wd (fun Q => Q.cell? ⟨HC, 0, none⟩ = some (.int .i64 N) ∧ Q.cell? ⟨HC, 1, none⟩ = some (.string s) ∧ Q.cell? ⟨HC, 2, none⟩ = some (.string r) ∧ Q.cell? ⟨HD, 0, none⟩ = some (.int .i64 N) ∧ Q.cell? ⟨HD, 1, none⟩ = some (.string t) ∧ Q.cell? ⟨HD, 2, none⟩ = some (.string rq)), QQ.w.cell? ⟨HD, 2, none⟩ = some (.string rq) := fun QQ => QQ.ok.2.2.2.2.2
      have hne : Nonempty (Wd (fun Q => Q.cell? ⟨HC, 0, none⟩ = some (.int .i64 N) ∧ Q.cell? ⟨HC, 1, none⟩ = some (.string s) ∧ Q.cell? ⟨HC, 2, none⟩ = some (.string r) ∧ Q.cell? ⟨HD, 0, none⟩ = some (.int .i64 N) ∧ Q.cell? ⟨HD, 1, none⟩ = some (.string t) ∧ Q.cell? ⟨HD, 2, none⟩ = some (.string rq))) := ⟨⟨W20, ⟨(Box.c BC_8.out).1, (Box.c BC_8.out).2.1, (Box.c BC_8.out).2.2, (Box.c BD_8.out).1, (Box.c BD_8.out).2.1, (Box.c BD_8.out).2.2⟩⟩⟩
      refine chain (S := (fun Q => Q.cell? ⟨HC, 0, none⟩ = some (.int .i64 N) ∧ Q.cell? ⟨HC, 1, none⟩ = some (.string s) ∧ Q.cell? ⟨HC, 2, none⟩ = some (.string r) ∧ Q.cell? ⟨HD, 0, none⟩ = some (.int .i64 N) ∧ Q.cell? ⟨HD, 1, none⟩ = some (.string t) ∧ Q.cell? ⟨HD, 2, none⟩ = some (.string rq))) [([true, true], 2), ([], 3)] [] (by kernel_rfl) (by kernel_rfl) (by kernel_rfl) ⟨(Box.c BC_8.out).1, (Box.c BC_8.out).2.1, (Box.c BC_8.out).2.2, (Box.c BD_8.out).1, (Box.c BD_8.out).2.1, (Box.c BD_8.out).2.2⟩ ?_
      simp only [wpSegs, pickB, List.dropLast_cons_cons, List.dropLast_singleton, List.getLast?_cons_cons, List.getLast?_singleton, List.toList_toArray, List.getElem?_toArray, List.getElem?_cons_succ, List.getElem?_cons_zero, Option.toList_some]
      have RD_9 : Hid (Rd W20.drew R ao len cap (p5 + 1)) := RD_8.out.drew
      have GR_9 := Lib.hid (grown_drew GR_8.out)
      have BA_9 : Hid (Box 24 W20.drew (w.heap.size) 0 ⟨#[]⟩ ⟨#[]⟩) := Box.drew BA_8.out
      have BB_9 : Hid (Box 24 W20.drew (w.heap.size + 1) 0 ⟨#[]⟩ ⟨#[]⟩) := Box.drew BB_8.out
      have BC_9 : Hid (Box 24 W20.drew HC N s r) := Box.drew BC_8.out
      have BD_9 : Hid (Box 24 W20.drew HD N t rq) := Box.drew BD_8.out
      clear RD_8 GR_8 BA_8 BB_8 BC_8 BD_8
      have BZ : Box 24 W20 (w.heap.size) 0 ⟨#[]⟩ ⟨#[]⟩ := BA_9.out
      obtain ⟨z0, z1, z2⟩ := Box.c BZ
      have f0 := Box.free BZ 0
      have f1 := Box.free BZ 1
      have f2 := Box.free BZ 2
      clear BZ
      repeat (go_big_quiet_step (fail))
      refine wpQuiet_nil ?_
      intro K hK
      go_wp2_with fail
      clear z0 z1 z2 f0 f1 f2
      obtain ⟨W10, hWf10⟩ : ∃ QZ, QZ = (((W20.setCell ⟨w.heap.size, 0, none⟩ (.int .i64 N)).setCell ⟨w.heap.size, 1, none⟩ (.string s)).setCell ⟨w.heap.size, 2, none⟩ (.string r)).drew := ⟨_, rfl⟩
      have hW10 : W10 = (((W20.drew.setCell ⟨w.heap.size, 0, none⟩ (.int .i64 N)).setCell ⟨w.heap.size, 1, none⟩ (.string s)).setCell ⟨w.heap.size, 2, none⟩ (.string r)) := hWf10
      have RD_10 : Hid (Rd W10 R ao len cap (p5 + 1)) := by rw [hW10]; exact rd_sets RD_9.out (by omega)
      have GR_10 : Hid (w.grownBy W10 (some R)) := by rw [hW10]; exact grown_sets GR_9.out (by omega)
      have BA_10 : Hid (Box 24 W10 (w.heap.size) N s r) := by rw [hW10]; exact ((Box.set0 BA_9.out N).set1 s).set2 r
      have BB_10 : Hid (Box 24 W10 (w.heap.size + 1) 0 ⟨#[]⟩ ⟨#[]⟩) := by rw [hW10]; exact box_others BB_9.out (by omega)
      have BC_10 : Hid (Box 24 W10 HC N s r) := by rw [hW10]; exact box_others BC_9.out (by omega)
      have BD_10 : Hid (Box 24 W10 HD N t rq) := by rw [hW10]; exact box_others BD_9.out (by omega)
      clear RD_9 GR_9 BA_9 BB_9 BC_9 BD_9
      clear hW10
      rw [← hWf10]
      clear hWf10
      refine hK _ _ ⟨(Box.c BC_10.out).1, (Box.c BC_10.out).2.1, (Box.c BC_10.out).2.2, (Box.c BD_10.out).1, (Box.c BD_10.out).2.1, (Box.c BD_10.out).2.2⟩ ?_
      clear hK K
      have BZ := BB_10.out
      obtain ⟨z0, z1, z2⟩ := Box.c BZ
      have f0 := Box.free BZ 0
      have f1 := Box.free BZ 1
      have f2 := Box.free BZ 2
      clear BZ
      repeat (go_big_quiet_step (fail))
      refine wpQuiet_nil ?_
      intro K hK
      go_wp2_with fail
      clear z0 z1 z2 f0 f1 f2
      obtain ⟨W11, hW11⟩ : ∃ QZ, QZ = (((W10.setCell ⟨w.heap.size + 1, 0, none⟩ (.int .i64 N)).setCell ⟨w.heap.size + 1, 1, none⟩ (.string t)).setCell ⟨w.heap.size + 1, 2, none⟩ (.string rq)) := ⟨_, rfl⟩
      have RD_11 : Hid (Rd W11 R ao len cap (p5 + 1)) := by rw [hW11]; exact rd_sets RD_10.out (by omega)
      have GR_11 : Hid (w.grownBy W11 (some R)) := by rw [hW11]; exact grown_sets GR_10.out (by omega)
      have BA_11 : Hid (Box 24 W11 (w.heap.size) N s r) := by rw [hW11]; exact box_others BA_10.out (by omega)
      have BB_11 : Hid (Box 24 W11 (w.heap.size + 1) N t rq) := by rw [hW11]; exact ((Box.set0 BB_10.out N).set1 t).set2 rq
      have BC_11 : Hid (Box 24 W11 HC N s r) := by rw [hW11]; exact box_others BC_10.out (by omega)
      have BD_11 : Hid (Box 24 W11 HD N t rq) := by rw [hW11]; exact box_others BD_10.out (by omega)
      clear RD_10 GR_10 BA_10 BB_10 BC_10 BD_10
      rw [← hW11]
      clear hW11
      refine hK _ _ ⟨(Box.c BC_11.out).1, (Box.c BC_11.out).2.1, (Box.c BC_11.out).2.2, (Box.c BD_11.out).1, (Box.c BD_11.out).2.1, (Box.c BD_11.out).2.2⟩ ?_
      clear hK K
      repeat (go_big_quiet_step (fail))
      refine wpQuiet_nil ?_
      clear q0 q1 q2 q3 q4 q5 hne
      have HF := Lib.hid (show _ ∧ _ from ⟨Box.c BA_11.out, Box.c BB_11.out⟩)
      have RES := Lib.hid (show _ ∧ _ from ⟨RD_11.out, GR_11.out⟩)
      clear RD_11 GR_11 BA_11 BB_11 BC_11 BD_11
      go_wp2
      exact bodyPost_ret (v := .tuple #[.agg #[.int .i64 N, .string s, .string r], .agg #[.int .i64 N, .string t, .string rq]]) (by simp [results, Tryz.results61, go_sem, HF.out.1.1, HF.out.1.2.1, HF.out.1.2.2, HF.out.2.1, HF.out.2.2.1, HF.out.2.2.2]) rfl ⟨N, s, r, N, t, rq, _, rfl, ⟨hN1, hN2, HN.out.1, HN.out.2⟩, ⟨hN1, hN2, HM.out.1, HQ2.out⟩, RES.out.1, by omega, RES.out.2⟩
  · have q0 : ∀ QQ : Wd (fun Q => Q.cell? ⟨HC, 0, none⟩ = some (.int .i64 N) ∧ Q.cell? ⟨HC, 1, none⟩ = some (.string s) ∧ Q.cell? ⟨HC, 2, none⟩ = some (.string r)), QQ.w.cell? ⟨HC, 0, none⟩ = some (.int .i64 N) := fun QQ => QQ.ok.1
    have q1 : ∀ QQ : Wd (fun Q => Q.cell? ⟨HC, 0, none⟩ = some (.int .i64 N) ∧ Q.cell? ⟨HC, 1, none⟩ = some (.string s) ∧ Q.cell? ⟨HC, 2, none⟩ = some (.string r)), QQ.w.cell? ⟨HC, 1, none⟩ = some (.string s) := fun QQ => QQ.ok.2.1
    have q2 : ∀ QQ : Wd (fun Q => Q.cell? ⟨HC, 0, none⟩ = some (.int .i64 N) ∧ Q.cell? ⟨HC, 1, none⟩ = some (.string s) ∧ Q.cell? ⟨HC, 2, none⟩ = some (.string r)), QQ.w.cell? ⟨HC, 2, none⟩ = some (.string r) := fun QQ => QQ.ok.2.2
    have hne : Nonempty (Wd (fun Q => Q.cell? ⟨HC, 0, none⟩ = some (.int .i64 N) ∧ Q.cell? ⟨HC, 1, none⟩ = some (.string s) ∧ Q.cell? ⟨HC, 2, none⟩ = some (.string r))) := ⟨⟨W3, ⟨(Box.c BC_3.out).1, (Box.c BC_3.out).2.1, (Box.c BC_3.out).2.2⟩⟩⟩
    go_wp2_with fail
    refine chain (S := (fun Q => Q.cell? ⟨HC, 0, none⟩ = some (.int .i64 N) ∧ Q.cell? ⟨HC, 1, none⟩ = some (.string s) ∧ Q.cell? ⟨HC, 2, none⟩ = some (.string r))) [([true, true, true, true], 4), ([], 5), ([], 6)] [] (by kernel_rfl) (by kernel_rfl) (by kernel_rfl) ⟨(Box.c BC_3.out).1, (Box.c BC_3.out).2.1, (Box.c BC_3.out).2.2⟩ ?_
    simp only [wpSegs, pickB, List.dropLast_cons_cons, List.dropLast_singleton, List.getLast?_cons_cons, List.getLast?_singleton, List.toList_toArray, List.getElem?_toArray, List.getElem?_cons_succ, List.getElem?_cons_zero, Option.toList_some]
    have RD_4 : Hid (Rd W3.drew R ao len cap (p1 + 1)) := RD_3.out.drew
    have GR_4 := Lib.hid (grown_drew GR_3.out)
    have BA_4 : Hid (Box 24 W3.drew (w.heap.size) 0 ⟨#[]⟩ ⟨#[]⟩) := Box.drew BA_3.out
    have BB_4 : Hid (Box 24 W3.drew (w.heap.size + 1) 0 ⟨#[]⟩ ⟨#[]⟩) := Box.drew BB_3.out
    have BC_4 : Hid (Box 24 W3.drew HC N s r) := Box.drew BC_3.out
    clear RD_3 GR_3 BA_3 BB_3 BC_3
    repeat (go_big_quiet_step (fail))
    refine wpQuiet_nil ?_
    intro K hK
    go_wp2_with fail
    refine (l1Draw_any R ao len cap (p1 + 1) N _ RD_4.out (by omega) hN1 hN2).mono ?_
    rintro e V1 ⟨t, q, p5, rfl, ht, hq, -, -, hrd, hp5, hg⟩
    have HM := Lib.hid (show _ ∧ _ from ⟨ht, hq⟩)
    clear ht hq
    have RD_5 := Lib.hid hrd
    have GR_5 := Lib.hid (grown_trans GR_4.out hg)
    have BA_5 := Lib.hid (Box.kept (row := some R) BA_4.out hg (by simp; omega))
    have BB_5 := Lib.hid (Box.kept (row := some R) BB_4.out hg (by simp; omega))
    have BC_5 := Lib.hid (Box.kept (row := some R) BC_4.out hg (by simp; omega))
    clear hrd hg
    clear RD_4 GR_4 BA_4 BB_4 BC_4
    go_wp2_with fail
    refine hK _ _ ⟨(Box.c BC_5.out).1, (Box.c BC_5.out).2.1, (Box.c BC_5.out).2.2⟩ ?_
    clear hK K
    obtain ⟨z0, z1, z2⟩ := Box.c BA_5.out
    have f0 := Box.free BA_5.out 0
    have f1 := Box.free BA_5.out 1
    have f2 := Box.free BA_5.out 2
    repeat (go_big_quiet_step (fail))
    refine wpQuiet_nil ?_
    intro K hK
    go_wp2_with fail
    clear z0 z1 z2 f0 f1 f2
    obtain ⟨W6, hW6⟩ : ∃ QZ, QZ = (((V1.setCell ⟨w.heap.size, 0, none⟩ (.int .i64 N)).setCell ⟨w.heap.size, 1, none⟩ (.string s)).setCell ⟨w.heap.size, 2, none⟩ (.string r)) := ⟨_, rfl⟩
    have RD_6 : Hid (Rd W6 R ao len cap p5) := by rw [hW6]; exact rd_sets RD_5.out (by omega)
    have GR_6 : Hid (w.grownBy W6 (some R)) := by rw [hW6]; exact grown_sets GR_5.out (by omega)
    have BA_6 : Hid (Box 24 W6 (w.heap.size) N s r) := by rw [hW6]; exact ((Box.set0 BA_5.out N).set1 s).set2 r
    have BB_6 : Hid (Box 24 W6 (w.heap.size + 1) 0 ⟨#[]⟩ ⟨#[]⟩) := by rw [hW6]; exact box_others BB_5.out (by omega)
    have BC_6 : Hid (Box 24 W6 HC N s r) := by rw [hW6]; exact box_others BC_5.out (by omega)
    clear RD_5 GR_5 BA_5 BB_5 BC_5
    rw [← hW6]
    clear hW6
    refine hK _ _ ⟨(Box.c BC_6.out).1, (Box.c BC_6.out).2.1, (Box.c BC_6.out).2.2⟩ ?_
    clear hK K
    obtain ⟨z0, z1, z2⟩ := Box.c BB_6.out
    have f0 := Box.free BB_6.out 0
    have f1 := Box.free BB_6.out 1
    have f2 := Box.free BB_6.out 2
    repeat (go_big_quiet_step (fail))
    refine wpQuiet_nil ?_
    intro K hK
    go_wp2_with fail
    clear z0 z1 z2 f0 f1 f2
    obtain ⟨W7, hW7⟩ : ∃ QZ, QZ = (((W6.setCell ⟨w.heap.size + 1, 0, none⟩ (.int .i64 N)).setCell ⟨w.heap.size + 1, 1, none⟩ (.string t)).setCell ⟨w.heap.size + 1, 2, none⟩ (.string q)) := ⟨_, rfl⟩
    have RD_7 : Hid (Rd W7 R ao len cap p5) := by rw [hW7]; exact rd_sets RD_6.out (by omega)
    have GR_7 : Hid (w.grownBy W7 (some R)) := by rw [hW7]; exact grown_sets GR_6.out (by omega)
    have BA_7 : Hid (Box 24 W7 (w.heap.size) N s r) := by rw [hW7]; exact box_others BA_6.out (by omega)
    have BB_7 : Hid (Box 24 W7 (w.heap.size + 1) N t q) := by rw [hW7]; exact ((Box.set0 BB_6.out N).set1 t).set2 q
    have BC_7 : Hid (Box 24 W7 HC N s r) := by rw [hW7]; exact box_others BC_6.out (by omega)
    clear RD_6 GR_6 BA_6 BB_6 BC_6
    rw [← hW7]
    clear hW7
    refine hK _ _ ⟨(Box.c BC_7.out).1, (Box.c BC_7.out).2.1, (Box.c BC_7.out).2.2⟩ ?_
    clear hK K
    repeat (go_big_quiet_step (fail))
    refine wpQuiet_nil ?_
    clear q0 q1 q2 hne
    have HF := Lib.hid (show _ ∧ _ from ⟨Box.c BA_7.out, Box.c BB_7.out⟩)
    have RES := Lib.hid (show _ ∧ _ from ⟨RD_7.out, GR_7.out⟩)
    clear RD_7 GR_7 BA_7 BB_7 BC_7
    go_wp2
    exact bodyPost_ret (v := .tuple #[.agg #[.int .i64 N, .string s, .string r], .agg #[.int .i64 N, .string t, .string q]]) (by simp [results, Tryz.results61, go_sem, HF.out.1.1, HF.out.1.2.1, HF.out.1.2.2, HF.out.2.1, HF.out.2.2.1, HF.out.2.2.2]) rfl ⟨N, s, r, N, t, q, _, rfl, ⟨hN1, hN2, HN.out.1, HN.out.2⟩, ⟨hN1, hN2, HM.out.1, HM.out.2⟩, RES.out.1, by omega, RES.out.2⟩
  · have q0 : ∀ QQ : Wd (fun Q => Q.cell? ⟨HC, 0, none⟩ = some (.int .i64 N) ∧ Q.cell? ⟨HC, 1, none⟩ = some (.string s) ∧ Q.cell? ⟨HC, 2, none⟩ = some (.string r)), QQ.w.cell? ⟨HC, 0, none⟩ = some (.int .i64 N) := fun QQ => QQ.ok.1
    have q1 : ∀ QQ : Wd (fun Q => Q.cell? ⟨HC, 0, none⟩ = some (.int .i64 N) ∧ Q.cell? ⟨HC, 1, none⟩ = some (.string s) ∧ Q.cell? ⟨HC, 2, none⟩ = some (.string r)), QQ.w.cell? ⟨HC, 1, none⟩ = some (.string s) := fun QQ => QQ.ok.2.1
    have q2 : ∀ QQ : Wd (fun Q => Q.cell? ⟨HC, 0, none⟩ = some (.int .i64 N) ∧ Q.cell? ⟨HC, 1, none⟩ = some (.string s) ∧ Q.cell? ⟨HC, 2, none⟩ = some (.string r)), QQ.w.cell? ⟨HC, 2, none⟩ = some (.string r) := fun QQ => QQ.ok.2.2
    have hne : Nonempty (Wd (fun Q => Q.cell? ⟨HC, 0, none⟩ = some (.int .i64 N) ∧ Q.cell? ⟨HC, 1, none⟩ = some (.string s) ∧ Q.cell? ⟨HC, 2, none⟩ = some (.string r))) := ⟨⟨W3, ⟨(Box.c BC_3.out).1, (Box.c BC_3.out).2.1, (Box.c BC_3.out).2.2⟩⟩⟩
    go_wp2_with fail
    refine chain (S := (fun Q => Q.cell? ⟨HC, 0, none⟩ = some (.int .i64 N) ∧ Q.cell? ⟨HC, 1, none⟩ = some (.string s) ∧ Q.cell? ⟨HC, 2, none⟩ = some (.string r))) [([true, true], 2), ([], 3), ([], 4)] [] (by kernel_rfl) (by kernel_rfl) (by kernel_rfl) ⟨(Box.c BC_3.out).1, (Box.c BC_3.out).2.1, (Box.c BC_3.out).2.2⟩ ?_
    simp only [wpSegs, pickB, List.dropLast_cons_cons, List.dropLast_singleton, List.getLast?_cons_cons, List.getLast?_singleton, List.toList_toArray, List.getElem?_toArray, List.getElem?_cons_succ, List.getElem?_cons_zero, Option.toList_some]
    have RD_4 : Hid (Rd W3.drew R ao len cap (p1 + 1)) := RD_3.out.drew
    have GR_4 := Lib.hid (grown_drew GR_3.out)
    have BA_4 : Hid (Box 24 W3.drew (w.heap.size) 0 ⟨#[]⟩ ⟨#[]⟩) := Box.drew BA_3.out
    have BB_4 : Hid (Box 24 W3.drew (w.heap.size + 1) 0 ⟨#[]⟩ ⟨#[]⟩) := Box.drew BB_3.out
    have BC_4 : Hid (Box 24 W3.drew HC N s r) := Box.drew BC_3.out
    clear RD_3 GR_3 BA_3 BB_3 BC_3
    repeat (go_big_quiet_step (fail))
    refine wpQuiet_nil ?_
    intro K hK
    go_wp2_with fail
    refine (l1Some_any R ao len cap (p1 + 1) _ RD_4.out (by omega)).mono ?_
    rintro e V1 ⟨M, t, q, p5, rfl, hM1, hM2, ht, hq, -, -, hrd, hp5, hg⟩
    have HM := Lib.hid (show _ ∧ _ from ⟨ht, hq⟩)
    clear ht hq
    have RD_5 := Lib.hid hrd
    have GR_5 := Lib.hid (grown_trans GR_4.out hg)
    have BA_5 := Lib.hid (Box.kept (row := some R) BA_4.out hg (by simp; omega))
    have BB_5 := Lib.hid (Box.kept (row := some R) BB_4.out hg (by simp; omega))
    have BC_5 := Lib.hid (Box.kept (row := some R) BC_4.out hg (by simp; omega))
    clear hrd hg
    clear RD_4 GR_4 BA_4 BB_4 BC_4
    go_wp2_with fail
    refine hK _ _ ⟨(Box.c BC_5.out).1, (Box.c BC_5.out).2.1, (Box.c BC_5.out).2.2⟩ ?_
    clear hK K
    obtain ⟨z0, z1, z2⟩ := Box.c BA_5.out
    have f0 := Box.free BA_5.out 0
    have f1 := Box.free BA_5.out 1
    have f2 := Box.free BA_5.out 2
    repeat (go_big_quiet_step (fail))
    refine wpQuiet_nil ?_
    intro K hK
    go_wp2_with fail
    clear z0 z1 z2 f0 f1 f2
    obtain ⟨W6, hW6⟩ : ∃ QZ, QZ = (((V1.setCell ⟨w.heap.size, 0, none⟩ (.int .i64 N)).setCell ⟨w.heap.size, 1, none⟩ (.string s)).setCell ⟨w.heap.size, 2, none⟩ (.string r)) := ⟨_, rfl⟩
    have RD_6 : Hid (Rd W6 R ao len cap p5) := by rw [hW6]; exact rd_sets RD_5.out (by omega)
    have GR_6 : Hid (w.grownBy W6 (some R)) := by rw [hW6]; exact grown_sets GR_5.out (by omega)
    have BA_6 : Hid (Box 24 W6 (w.heap.size) N s r) := by rw [hW6]; exact ((Box.set0 BA_5.out N).set1 s).set2 r
    have BB_6 : Hid (Box 24 W6 (w.heap.size + 1) 0 ⟨#[]⟩ ⟨#[]⟩) := by rw [hW6]; exact box_others BB_5.out (by omega)
    have BC_6 : Hid (Box 24 W6 HC N s r) := by rw [hW6]; exact box_others BC_5.out (by omega)
    clear RD_5 GR_5 BA_5 BB_5 BC_5
    rw [← hW6]
    clear hW6
    refine hK _ _ ⟨(Box.c BC_6.out).1, (Box.c BC_6.out).2.1, (Box.c BC_6.out).2.2⟩ ?_
    clear hK K
    obtain ⟨z0, z1, z2⟩ := Box.c BB_6.out
    have f0 := Box.free BB_6.out 0
    have f1 := Box.free BB_6.out 1
    have f2 := Box.free BB_6.out 2
    repeat (go_big_quiet_step (fail))
    refine wpQuiet_nil ?_
    intro K hK
    go_wp2_with fail
    clear z0 z1 z2 f0 f1 f2
    obtain ⟨W7, hW7⟩ : ∃ QZ, QZ = (((W6.setCell ⟨w.heap.size + 1, 0, none⟩ (.int .i64 M)).setCell ⟨w.heap.size + 1, 1, none⟩ (.string t)).setCell ⟨w.heap.size + 1, 2, none⟩ (.string q)) := ⟨_, rfl⟩
    have RD_7 : Hid (Rd W7 R ao len cap p5) := by rw [hW7]; exact rd_sets RD_6.out (by omega)
    have GR_7 : Hid (w.grownBy W7 (some R)) := by rw [hW7]; exact grown_sets GR_6.out (by omega)
    have BA_7 : Hid (Box 24 W7 (w.heap.size) N s r) := by rw [hW7]; exact box_others BA_6.out (by omega)
    have BB_7 : Hid (Box 24 W7 (w.heap.size + 1) M t q) := by rw [hW7]; exact ((Box.set0 BB_6.out M).set1 t).set2 q
    have BC_7 : Hid (Box 24 W7 HC N s r) := by rw [hW7]; exact box_others BC_6.out (by omega)
    clear RD_6 GR_6 BA_6 BB_6 BC_6
    rw [← hW7]
    clear hW7
    refine hK _ _ ⟨(Box.c BC_7.out).1, (Box.c BC_7.out).2.1, (Box.c BC_7.out).2.2⟩ ?_
    clear hK K
    repeat (go_big_quiet_step (fail))
    refine wpQuiet_nil ?_
    clear q0 q1 q2 hne
    have HF := Lib.hid (show _ ∧ _ from ⟨Box.c BA_7.out, Box.c BB_7.out⟩)
    have RES := Lib.hid (show _ ∧ _ from ⟨RD_7.out, GR_7.out⟩)
    clear RD_7 GR_7 BA_7 BB_7 BC_7
    go_wp2
    exact bodyPost_ret (v := .tuple #[.agg #[.int .i64 N, .string s, .string r], .agg #[.int .i64 M, .string t, .string q]]) (by simp [results, Tryz.results61, go_sem, HF.out.1.1, HF.out.1.2.1, HF.out.1.2.2, HF.out.2.1, HF.out.2.2.1, HF.out.2.2.2]) rfl ⟨N, s, r, M, t, q, _, rfl, ⟨hN1, hN2, HN.out.1, HN.out.2⟩, ⟨hM1, hM2, HM.out.1, HM.out.2⟩, RES.out.1, by omega, RES.out.2⟩
end Go.Proofs.YtpcnoiigbmiejaaGreatDoor.pair

/- The drawing of two structures that are hard to tell apart: l8Pair. -/
namespace Go.Proofs.YtpcnoiigbmiejaaGreatDoor.pair
set_option linter.unusedVariables false
set_option linter.unusedSimpArgs false
open Go.ChangeShapes Go.WideShapes Go.ChangeAt Go.RowKit
open Go.Proofs.YtpcnoiigbmiejaaGreatDoor.lib Go.Proofs.YtpcnoiigbmiejaaGreatDoor.st Go.Proofs.YtpcnoiigbmiejaaGreatDoor.flow Go.Proofs.YtpcnoiigbmiejaaGreatDoor.chain Go.Proofs.YtpcnoiigbmiejaaGreatDoor.draw Go.Proofs.YtpcnoiigbmiejaaGreatDoor.shuf Go.Proofs.YtpcnoiigbmiejaaGreatDoor.make Go.Proofs.YtpcnoiigbmiejaaGreatDoor.fits

/-- two structures under way -/
def In6 (w : World) (R : Nat) (ao : Option Addr) (len cap p HC HD k : Nat) (W : World) : Prop :=
  ∃ ra rb : ByteArray, ra.size = k ∧ rb.size = k ∧ Rd W R ao len cap p ∧ w.grownBy W (some R) ∧ Box 24 W w.heap.size 0 ⟨#[]⟩ ⟨#[]⟩ ∧ Box 24 W (w.heap.size + 1) 0 ⟨#[]⟩ ⟨#[]⟩ ∧ Box 24 W HC 6 ⟨#[48, 48, 48, 48, 48, 48]⟩ ra ∧ Box 24 W HD 6 ⟨#[48, 48, 48, 48, 48, 48]⟩ rb
theorem bit_ex (b : Bool) (w : World) :
    Calls Tryz.prog 58 #[.bool b] w fun e w' => ∃ f : ByteArray, f.size = 1 ∧ e = .returned (.string f) ∧ w = w' ∧ ∀ (s : ByteArray) (_ : s.size ≤ 100) (W : World), (Op.stringOp .add s f).run Tryz.prog W = .ok (.string (s ++ f)) W := by
  refine (l1Bit_draw b w).mono ?_
  rintro e w' ⟨rfl, rfl⟩
  exact ⟨bitS b, by cases b <;> rfl, rfl, rfl, fun s hs W => addS s b hs W⟩

set_option maxHeartbeats 12800000 in
set_option maxRecDepth 100000 in
theorem l8Pair_any (R : Nat) (ao : Option Addr) (len cap p : Nat) (w : World) (h : Rd w R ao len cap p) (hp : p ≤ 60000000) :
    Calls Tryz.prog 27 #[.pointer (some ⟨R, 0, none⟩)] w (DrawnT w R ao len cap (p + 600)) := by
  have hRl := h.lt
  obtain ⟨W0, hW0⟩ : ∃ QZ, QZ = ((w.alloc (.cells #[.int .i64 0, .string ⟨#[]⟩, .string ⟨#[]⟩] 24)).alloc (.cells #[.int .i64 0, .string ⟨#[]⟩, .string ⟨#[]⟩] 24)) := ⟨_, rfl⟩
  have RD_0 : Hid (Rd W0 R ao len cap p) := by rw [hW0]; exact h.alloc _ |>.alloc _
  have GR_0 : Hid (w.grownBy W0 (some R)) := by rw [hW0]; exact (grown_alloc (World.grownBy_alloc w _ _) _)
  have BA_0 : Hid (Box 24 W0 (w.heap.size) 0 ⟨#[]⟩ ⟨#[]⟩) := by rw [hW0]; exact (Box.new 24 w w.heap.size rfl 0 ⟨#[]⟩ ⟨#[]⟩).below ((Below.refl (w.heap.size + 1) _).alloc (by simp) _) (by omega)
  have BB_0 : Hid (Box 24 W0 (w.heap.size + 1) 0 ⟨#[]⟩ ⟨#[]⟩) := by rw [hW0]; exact Box.new 24 _ (w.heap.size + 1) (by simp) 0 ⟨#[]⟩ ⟨#[]⟩
  clear h
  go_enter Tryz.func27, Tryz.ntmps27
  go_wp2_with fail
  rw [← hW0]
  clear hW0
  refine (pick_any R ao len cap p 4 _ RD_0.out (by omega) (by omega) (by omega)).mono ?_
  rintro e W1 ⟨v, hv, rfl, hrd, hg⟩
  have RD_1 := Lib.hid hrd
  have GR_1 := Lib.hid (grown_trans GR_0.out hg)
  have BA_1 := Lib.hid (Box.kept (row := some R) BA_0.out hg (by simp; omega))
  have BB_1 := Lib.hid (Box.kept (row := some R) BB_0.out hg (by simp; omega))
  clear hrd hg
  clear RD_0 GR_0 BA_0 BB_0
  rcases (show v = 0 ∨ v = 1 ∨ (v = 2 ∨ v = 3) by omega) with rfl | rfl | hv23
  · obtain ⟨HC, hHC⟩ : ∃ QZ, QZ = W1.heap.size := ⟨_, rfl⟩
    have hlC : (w.heap.size + 1) < HC := by rw [hHC]; exact BB_1.out.lt
    obtain ⟨W2, hW2⟩ : ∃ QZ, QZ = W1.alloc (.cells #[.int .i64 6, .string ⟨#[48, 48, 48, 48, 48, 48]⟩, .string ⟨#[]⟩] 24) := ⟨_, rfl⟩
    have RD_2 : Hid (Rd W2 R ao len cap (p + 1)) := by rw [hW2]; exact RD_1.out.alloc _
    have GR_2 : Hid (w.grownBy W2 (some R)) := by rw [hW2]; exact grown_alloc GR_1.out _
    have BA_2 : Hid (Box 24 W2 (w.heap.size) 0 ⟨#[]⟩ ⟨#[]⟩) := by rw [hW2]; exact BA_1.out.below ((Below.refl W1.heap.size W1).alloc (Nat.le_refl _) _) BA_1.out.lt
    have BB_2 : Hid (Box 24 W2 (w.heap.size + 1) 0 ⟨#[]⟩ ⟨#[]⟩) := by rw [hW2]; exact BB_1.out.below ((Below.refl W1.heap.size W1).alloc (Nat.le_refl _) _) BB_1.out.lt
    have BC_2 : Hid (Box 24 W2 HC 6 ⟨#[48, 48, 48, 48, 48, 48]⟩ ⟨#[]⟩) := by rw [hW2, hHC]; exact Box.new _ _ _ rfl _ _ _
    clear RD_1 GR_1 BA_1 BB_1
    obtain ⟨HD, hHD⟩ : ∃ QZ, QZ = W2.heap.size := ⟨_, rfl⟩
    have hlD : HC < HD := by rw [hHD]; exact BC_2.out.lt
    obtain ⟨W3, hW3⟩ : ∃ QZ, QZ = W2.alloc (.cells #[.int .i64 6, .string ⟨#[48, 48, 48, 48, 48, 48]⟩, .string ⟨#[]⟩] 24) := ⟨_, rfl⟩
    have RD_3 : Hid (Rd W3 R ao len cap (p + 1)) := by rw [hW3]; exact RD_2.out.alloc _
    have GR_3 : Hid (w.grownBy W3 (some R)) := by rw [hW3]; exact grown_alloc GR_2.out _
    have BA_3 : Hid (Box 24 W3 (w.heap.size) 0 ⟨#[]⟩ ⟨#[]⟩) := by rw [hW3]; exact BA_2.out.below ((Below.refl W2.heap.size W2).alloc (Nat.le_refl _) _) BA_2.out.lt
    have BB_3 : Hid (Box 24 W3 (w.heap.size + 1) 0 ⟨#[]⟩ ⟨#[]⟩) := by rw [hW3]; exact BB_2.out.below ((Below.refl W2.heap.size W2).alloc (Nat.le_refl _) _) BB_2.out.lt
    have BC_3 : Hid (Box 24 W3 HC 6 ⟨#[48, 48, 48, 48, 48, 48]⟩ ⟨#[]⟩) := by rw [hW3]; exact BC_2.out.below ((Below.refl W2.heap.size W2).alloc (Nat.le_refl _) _) BC_2.out.lt
    have BD_3 : Hid (Box 24 W3 HD 6 ⟨#[48, 48, 48, 48, 48, 48]⟩ ⟨#[]⟩) := by rw [hW3, hHD]; exact Box.new _ _ _ rfl _ _ _
    clear RD_2 GR_2 BA_2 BB_2 BC_2
    have hHD2 : HD = HC + 1 := by rw [hHD, hW2, World.size_alloc, ← hHC]
    clear hHD
    have START : Hid (In6 w R ao len cap (p + 1) HC HD 0 W3) := ⟨⟨#[]⟩, ⟨#[]⟩, rfl, rfl, RD_3.out, GR_3.out, BA_3.out, BB_3.out, BC_3.out, BD_3.out⟩
    clear RD_3 GR_3 BA_3 BB_3 BC_3 BD_3
    go_wp2_with fail
    rw [← hW2]
    rw [← hHC]
    rw [← hW3]
    rw [← hHD2]
    clear hW2 hHC hW3 hHD2
    go_loopw [6] (fun i wr => ∃ x : Nat, x ≤ 6 ∧ i = .int .i64 x ∧ In6 w R ao len cap (p + 1) HC HD (6 * x) wr) (fun i _ => 6 - (intOf i).toNat)
    case atStart => exact ⟨0, by omega, rfl, START.out⟩
    case round =>
      clear START
      obtain ⟨x, hx, rfl, hI⟩ := hrel
      have HI := Lib.hid hI
      clear hI
      by_cases hx6 : x < 6
      · have tx6 : decide ((x : Int) < 6) = true := by simp; omega
        go_wp2_with fail
        go_loopw [7] (fun i wr => ∃ y : Nat, y ≤ 6 ∧ i = .int .i64 y ∧ In6 w R ao len cap (p + 1) HC HD (6 * x + y) wr) (fun i _ => 6 - (intOf i).toNat)
        case atStart => exact ⟨0, by omega, rfl, HI.out⟩
        case round =>
          clear HI
          obtain ⟨y, hy, rfl, hI⟩ := hrel
          by_cases hy6 : y < 6
          · have ty6 : decide ((y : Int) < 6) = true := by simp; omega
            obtain ⟨ra, rb, hra, hrb, i1, i2, i3, i4, i5, i6⟩ := hI
            have RD_0 := Lib.hid i1
            have GR_0 := Lib.hid i2
            have BA_0 := Lib.hid i3
            have BB_0 := Lib.hid i4
            have BC_0 := Lib.hid i5
            have BD_0 := Lib.hid i6
            have HSZ := Lib.hid (show _ ∧ _ from ⟨hra, hrb⟩)
            have hb1 : ra.size ≤ 100 ∧ rb.size ≤ 100 := by omega
            clear i1 i2 i3 i4 i5 i6 hra hrb
            by_cases hxy : (x + 1) % 6 = y
            · have tA : (((x : Int) + 1) % 6 == (y : Int)) = true := by simp; omega
              have tB : (((x : Int) + 1).tmod 6 == (y : Int)) = true := by rw [Int.tmod_eq_emod_of_nonneg (by omega)]; exact tA
              clear hxy
              have q0 : ∀ QQ : Wd (fun Q => Q.cell? ⟨HC, 2, none⟩ = some (.string ra)), QQ.w.cell? ⟨HC, 2, none⟩ = some (.string ra) := fun QQ => QQ.ok
              have hne : Nonempty (Wd (fun Q => Q.cell? ⟨HC, 2, none⟩ = some (.string ra))) := ⟨⟨wr, (Box.c BC_0.out).2.2⟩⟩
              go_wp2_with fail
              refine chain_last (S := (fun Q => Q.cell? ⟨HC, 2, none⟩ = some (.string ra))) [([true, true, true, true, true, true, true, true, true, true, true, true, true, true], 14)] [false, false, false, false, false, false, false, false, false, false, false, false, false, false, false, true, true] (by kernel_rfl) (by kernel_rfl) (by kernel_rfl) (by kernel_rfl) (by kernel_rfl) (by kernel_rfl) (Box.c BC_0.out).2.2 ?_
              simp only [wpSegs, pickB, List.dropLast_cons_cons, List.dropLast_singleton, List.getLast?_cons_cons, List.getLast?_singleton, List.toList_toArray, List.getElem?_toArray, List.getElem?_cons_succ, List.getElem?_cons_zero, Option.toList_some]
              have RD_1 : Hid (Rd wr.drew R ao len cap (p + 1)) := RD_0.out.drew
              have GR_1 := Lib.hid (grown_drew GR_0.out)
              have BA_1 : Hid (Box 24 wr.drew (w.heap.size) 0 ⟨#[]⟩ ⟨#[]⟩) := Box.drew BA_0.out
              have BB_1 : Hid (Box 24 wr.drew (w.heap.size + 1) 0 ⟨#[]⟩ ⟨#[]⟩) := Box.drew BB_0.out
              have BC_1 : Hid (Box 24 wr.drew HC 6 ⟨#[48, 48, 48, 48, 48, 48]⟩ ra) := Box.drew BC_0.out
              have BD_1 : Hid (Box 24 wr.drew HD 6 ⟨#[48, 48, 48, 48, 48, 48]⟩ rb) := Box.drew BD_0.out
              clear RD_0 GR_0 BA_0 BB_0 BC_0 BD_0
              repeat (go_big_quiet_step (fail))
              refine wpQuiet_nil ?_
              intro K hK
              go_wp2_with fail
              refine (bit_ex _ _).mono ?_
              rintro e WX ⟨fa, hfa, rfl, rfl, had⟩
              have hadd := had ra (by omega)
              clear had
              go_wp2_with fail
              refine hK _ _ (Box.c BC_1.out).2.2 ?_
              clear hK K
              repeat (go_big_quiet_step (fail))
              refine wpQuiet_nil ?_
              show wpList _ _ _ _ _ _
              clear q0 hne hadd
              obtain ⟨nra, hnra⟩ : ∃ QZ, QZ = ra ++ fa := ⟨_, rfl⟩
              have Hnra : Hid (nra.size = ra.size + 1) := by rw [Hid, hnra, ByteArray.size_append, hfa]
              have HQnra := Lib.hid hnra
              have BZ : Box 24 wr HC 6 ⟨#[48, 48, 48, 48, 48, 48]⟩ ra := BC_1.out
              obtain ⟨z0, z1, z2⟩ := Box.c BZ
              have f2 := Box.free BZ 2
              clear BZ
              obtain ⟨Zra, hF⟩ : ∃ QZ, QZ = (wr.setCell ⟨HC, 2, none⟩ (.string nra)).drew := ⟨_, rfl⟩
              have hW : Zra = wr.drew.setCell ⟨HC, 2, none⟩ (.string nra) := hF
              have RD_2 : Hid (Rd Zra R ao len cap (p + 1)) := by rw [hW]; exact RD_1.out.setNew (by omega)
              have GR_2 : Hid (w.grownBy Zra (some R)) := by rw [hW]; exact grown_new GR_1.out (by omega)
              have BA_2 : Hid (Box 24 Zra (w.heap.size) 0 ⟨#[]⟩ ⟨#[]⟩) := by rw [hW]; exact box_other BA_1.out (by omega)
              have BB_2 : Hid (Box 24 Zra (w.heap.size + 1) 0 ⟨#[]⟩ ⟨#[]⟩) := by rw [hW]; exact box_other BB_1.out (by omega)
              have BC_2 : Hid (Box 24 Zra HC 6 ⟨#[48, 48, 48, 48, 48, 48]⟩ nra) := by rw [hW]; exact Box.set2 BC_1.out nra
              have BD_2 : Hid (Box 24 Zra HD 6 ⟨#[48, 48, 48, 48, 48, 48]⟩ rb) := by rw [hW]; exact box_other BD_1.out (by omega)
              clear RD_1 GR_1 BA_1 BB_1 BC_1 BD_1 hnra hW
              go_wp2_with fail
              rw [← HQnra.out, ← hF]
              clear hF z0 z1 z2 f2 tA tB
              by_cases hxy2 : x ≠ y
              · have tC : ((x : Int) != (y : Int)) = true := by simp; omega
                clear hxy2
                have q0 : ∀ QQ : Wd (fun Q => Q.cell? ⟨HD, 2, none⟩ = some (.string rb)), QQ.w.cell? ⟨HD, 2, none⟩ = some (.string rb) := fun QQ => QQ.ok
                have hne : Nonempty (Wd (fun Q => Q.cell? ⟨HD, 2, none⟩ = some (.string rb))) := ⟨⟨Zra, (Box.c BD_2.out).2.2⟩⟩
                go_wp2_with fail
                refine chain_last (S := (fun Q => Q.cell? ⟨HD, 2, none⟩ = some (.string rb))) [([true, true, true, true, true, true, true, true, true, true, true, true], 12)] [false, false, false, false, false, false, false, false, false, false, false, false, false, true, true] (by kernel_rfl) (by kernel_rfl) (by kernel_rfl) (by kernel_rfl) (by kernel_rfl) (by kernel_rfl) (Box.c BD_2.out).2.2 ?_
                simp only [wpSegs, pickB, List.dropLast_cons_cons, List.dropLast_singleton, List.getLast?_cons_cons, List.getLast?_singleton, List.toList_toArray, List.getElem?_toArray, List.getElem?_cons_succ, List.getElem?_cons_zero, Option.toList_some]
                have RD_3 : Hid (Rd Zra.drew R ao len cap (p + 1)) := RD_2.out.drew
                have GR_3 := Lib.hid (grown_drew GR_2.out)
                have BA_3 : Hid (Box 24 Zra.drew (w.heap.size) 0 ⟨#[]⟩ ⟨#[]⟩) := Box.drew BA_2.out
                have BB_3 : Hid (Box 24 Zra.drew (w.heap.size + 1) 0 ⟨#[]⟩ ⟨#[]⟩) := Box.drew BB_2.out
                have BC_3 : Hid (Box 24 Zra.drew HC 6 ⟨#[48, 48, 48, 48, 48, 48]⟩ nra) := Box.drew BC_2.out
                have BD_3 : Hid (Box 24 Zra.drew HD 6 ⟨#[48, 48, 48, 48, 48, 48]⟩ rb) := Box.drew BD_2.out
                clear RD_2 GR_2 BA_2 BB_2 BC_2 BD_2
                repeat (go_big_quiet_step (fail))
                refine wpQuiet_nil ?_
                intro K hK
                go_wp2_with fail
                refine (bit_ex _ _).mono ?_
                rintro e WX ⟨fb, hfb, rfl, rfl, had⟩
                have hadd := had rb (by omega)
                clear had
                go_wp2_with fail
                refine hK _ _ (Box.c BD_3.out).2.2 ?_
                clear hK K
                repeat (go_big_quiet_step (fail))
                refine wpQuiet_nil ?_
                show wpList _ _ _ _ _ _
                clear q0 hne hadd
                obtain ⟨nrb, hnrb⟩ : ∃ QZ, QZ = rb ++ fb := ⟨_, rfl⟩
                have Hnrb : Hid (nrb.size = rb.size + 1) := by rw [Hid, hnrb, ByteArray.size_append, hfb]
                have HQnrb := Lib.hid hnrb
                have BZ : Box 24 Zra HD 6 ⟨#[48, 48, 48, 48, 48, 48]⟩ rb := BD_3.out
                obtain ⟨z0, z1, z2⟩ := Box.c BZ
                have f2 := Box.free BZ 2
                clear BZ
                obtain ⟨Zrb, hF⟩ : ∃ QZ, QZ = (Zra.setCell ⟨HD, 2, none⟩ (.string nrb)).drew := ⟨_, rfl⟩
                have hW : Zrb = Zra.drew.setCell ⟨HD, 2, none⟩ (.string nrb) := hF
                have RD_4 : Hid (Rd Zrb R ao len cap (p + 1)) := by rw [hW]; exact RD_3.out.setNew (by omega)
                have GR_4 : Hid (w.grownBy Zrb (some R)) := by rw [hW]; exact grown_new GR_3.out (by omega)
                have BA_4 : Hid (Box 24 Zrb (w.heap.size) 0 ⟨#[]⟩ ⟨#[]⟩) := by rw [hW]; exact box_other BA_3.out (by omega)
                have BB_4 : Hid (Box 24 Zrb (w.heap.size + 1) 0 ⟨#[]⟩ ⟨#[]⟩) := by rw [hW]; exact box_other BB_3.out (by omega)
                have BC_4 : Hid (Box 24 Zrb HC 6 ⟨#[48, 48, 48, 48, 48, 48]⟩ nra) := by rw [hW]; exact box_other BC_3.out (by omega)
                have BD_4 : Hid (Box 24 Zrb HD 6 ⟨#[48, 48, 48, 48, 48, 48]⟩ nrb) := by rw [hW]; exact Box.set2 BD_3.out nrb
                clear RD_3 GR_3 BA_3 BB_3 BC_3 BD_3 hnrb hW
                have IN : Hid (In6 w R ao len cap (p + 1) HC HD (6 * x + (y + 1)) Zrb) := ⟨nra, nrb, by have := Hnra.out; have := HSZ.out.1; omega, by have := Hnrb.out; have := HSZ.out.2; omega, RD_4.out, GR_4.out, BA_4.out, BB_4.out, BC_4.out, BD_4.out⟩
                go_wp2
                rw [← HQnrb.out, ← hF]
                clear hF z0 z1 z2 f2
                go_roundw
                case rel => first | exact ⟨y + 1, by omega, by go_num, IN.out⟩ | ((repeat apply Exists.intro); exact ⟨⟨y + 1, by omega, by go_num, IN.out⟩, rfl⟩)
                case measure => simp [intOf]; omega
              · have tC : ((x : Int) != (y : Int)) = false := by simp; omega
                clear hxy2
                have q0 : ∀ QQ : Wd (fun Q => Q.cell? ⟨HD, 2, none⟩ = some (.string rb)), QQ.w.cell? ⟨HD, 2, none⟩ = some (.string rb) := fun QQ => QQ.ok
                have hne : Nonempty (Wd (fun Q => Q.cell? ⟨HD, 2, none⟩ = some (.string rb))) := ⟨⟨Zra, (Box.c BD_2.out).2.2⟩⟩
                go_wp2_with fail
                refine chain_last (S := (fun Q => Q.cell? ⟨HD, 2, none⟩ = some (.string rb))) [([true, true, true, true, true, true, true, true, true, true, true, true], 12)] [false, false, false, false, false, false, false, false, false, false, false, false, false, true, true] (by kernel_rfl) (by kernel_rfl) (by kernel_rfl) (by kernel_rfl) (by kernel_rfl) (by kernel_rfl) (Box.c BD_2.out).2.2 ?_
                simp only [wpSegs, pickB, List.dropLast_cons_cons, List.dropLast_singleton, List.getLast?_cons_cons, List.getLast?_singleton, List.toList_toArray, List.getElem?_toArray, List.getElem?_cons_succ, List.getElem?_cons_zero, Option.toList_some]
                have RD_3 : Hid (Rd Zra.drew R ao len cap (p + 1)) := RD_2.out.drew
                have GR_3 := Lib.hid (grown_drew GR_2.out)
                have BA_3 : Hid (Box 24 Zra.drew (w.heap.size) 0 ⟨#[]⟩ ⟨#[]⟩) := Box.drew BA_2.out
                have BB_3 : Hid (Box 24 Zra.drew (w.heap.size + 1) 0 ⟨#[]⟩ ⟨#[]⟩) := Box.drew BB_2.out
                have BC_3 : Hid (Box 24 Zra.drew HC 6 ⟨#[48, 48, 48, 48, 48, 48]⟩ nra) := Box.drew BC_2.out
                have BD_3 : Hid (Box 24 Zra.drew HD 6 ⟨#[48, 48, 48, 48, 48, 48]⟩ rb) := Box.drew BD_2.out
                clear RD_2 GR_2 BA_2 BB_2 BC_2 BD_2
                repeat (go_big_quiet_step (fail))
                refine wpQuiet_nil ?_
                intro K hK
                go_wp2_with fail
                refine (bit_ex _ _).mono ?_
                rintro e WX ⟨fb, hfb, rfl, rfl, had⟩
                have hadd := had rb (by omega)
                clear had
                go_wp2_with fail
                refine hK _ _ (Box.c BD_3.out).2.2 ?_
                clear hK K
                repeat (go_big_quiet_step (fail))
                refine wpQuiet_nil ?_
                show wpList _ _ _ _ _ _
                clear q0 hne hadd
                obtain ⟨nrb, hnrb⟩ : ∃ QZ, QZ = rb ++ fb := ⟨_, rfl⟩
                have Hnrb : Hid (nrb.size = rb.size + 1) := by rw [Hid, hnrb, ByteArray.size_append, hfb]
                have HQnrb := Lib.hid hnrb
                have BZ : Box 24 Zra HD 6 ⟨#[48, 48, 48, 48, 48, 48]⟩ rb := BD_3.out
                obtain ⟨z0, z1, z2⟩ := Box.c BZ
                have f2 := Box.free BZ 2
                clear BZ
                obtain ⟨Zrb, hF⟩ : ∃ QZ, QZ = (Zra.setCell ⟨HD, 2, none⟩ (.string nrb)).drew := ⟨_, rfl⟩
                have hW : Zrb = Zra.drew.setCell ⟨HD, 2, none⟩ (.string nrb) := hF
                have RD_4 : Hid (Rd Zrb R ao len cap (p + 1)) := by rw [hW]; exact RD_3.out.setNew (by omega)
                have GR_4 : Hid (w.grownBy Zrb (some R)) := by rw [hW]; exact grown_new GR_3.out (by omega)
                have BA_4 : Hid (Box 24 Zrb (w.heap.size) 0 ⟨#[]⟩ ⟨#[]⟩) := by rw [hW]; exact box_other BA_3.out (by omega)
                have BB_4 : Hid (Box 24 Zrb (w.heap.size + 1) 0 ⟨#[]⟩ ⟨#[]⟩) := by rw [hW]; exact box_other BB_3.out (by omega)
                have BC_4 : Hid (Box 24 Zrb HC 6 ⟨#[48, 48, 48, 48, 48, 48]⟩ nra) := by rw [hW]; exact box_other BC_3.out (by omega)
                have BD_4 : Hid (Box 24 Zrb HD 6 ⟨#[48, 48, 48, 48, 48, 48]⟩ nrb) := by rw [hW]; exact Box.set2 BD_3.out nrb
                clear RD_3 GR_3 BA_3 BB_3 BC_3 BD_3 hnrb hW
                have IN : Hid (In6 w R ao len cap (p + 1) HC HD (6 * x + (y + 1)) Zrb) := ⟨nra, nrb, by have := Hnra.out; have := HSZ.out.1; omega, by have := Hnrb.out; have := HSZ.out.2; omega, RD_4.out, GR_4.out, BA_4.out, BB_4.out, BC_4.out, BD_4.out⟩
                go_wp2
                rw [← HQnrb.out, ← hF]
                clear hF z0 z1 z2 f2
                go_roundw
                case rel => first | exact ⟨y + 1, by omega, by go_num, IN.out⟩ | ((repeat apply Exists.intro); exact ⟨⟨y + 1, by omega, by go_num, IN.out⟩, rfl⟩)
                case measure => simp [intOf]; omega
            · have tA : (((x : Int) + 1) % 6 == (y : Int)) = false := by simp; omega
              have tB : (((x : Int) + 1).tmod 6 == (y : Int)) = false := by rw [Int.tmod_eq_emod_of_nonneg (by omega)]; exact tA
              clear hxy
              have q0 : ∀ QQ : Wd (fun Q => Q.cell? ⟨HC, 2, none⟩ = some (.string ra)), QQ.w.cell? ⟨HC, 2, none⟩ = some (.string ra) := fun QQ => QQ.ok
              have hne : Nonempty (Wd (fun Q => Q.cell? ⟨HC, 2, none⟩ = some (.string ra))) := ⟨⟨wr, (Box.c BC_0.out).2.2⟩⟩
              go_wp2_with fail
              refine chain_last (S := (fun Q => Q.cell? ⟨HC, 2, none⟩ = some (.string ra))) [([true, true, true, true, true, true, true, true, true, true, true, true, true, true], 14)] [false, false, false, false, false, false, false, false, false, false, false, false, false, false, false, true, true] (by kernel_rfl) (by kernel_rfl) (by kernel_rfl) (by kernel_rfl) (by kernel_rfl) (by kernel_rfl) (Box.c BC_0.out).2.2 ?_
              simp only [wpSegs, pickB, List.dropLast_cons_cons, List.dropLast_singleton, List.getLast?_cons_cons, List.getLast?_singleton, List.toList_toArray, List.getElem?_toArray, List.getElem?_cons_succ, List.getElem?_cons_zero, Option.toList_some]
              have RD_1 : Hid (Rd wr.drew R ao len cap (p + 1)) := RD_0.out.drew
              have GR_1 := Lib.hid (grown_drew GR_0.out)
              have BA_1 : Hid (Box 24 wr.drew (w.heap.size) 0 ⟨#[]⟩ ⟨#[]⟩) := Box.drew BA_0.out
              have BB_1 : Hid (Box 24 wr.drew (w.heap.size + 1) 0 ⟨#[]⟩ ⟨#[]⟩) := Box.drew BB_0.out
              have BC_1 : Hid (Box 24 wr.drew HC 6 ⟨#[48, 48, 48, 48, 48, 48]⟩ ra) := Box.drew BC_0.out
              have BD_1 : Hid (Box 24 wr.drew HD 6 ⟨#[48, 48, 48, 48, 48, 48]⟩ rb) := Box.drew BD_0.out
              clear RD_0 GR_0 BA_0 BB_0 BC_0 BD_0
              repeat (go_big_quiet_step (fail))
              refine wpQuiet_nil ?_
              intro K hK
              go_wp2_with fail
              refine (bit_ex _ _).mono ?_
              rintro e WX ⟨fa, hfa, rfl, rfl, had⟩
              have hadd := had ra (by omega)
              clear had
              go_wp2_with fail
              refine hK _ _ (Box.c BC_1.out).2.2 ?_
              clear hK K
              repeat (go_big_quiet_step (fail))
              refine wpQuiet_nil ?_
              show wpList _ _ _ _ _ _
              clear q0 hne hadd
              obtain ⟨nra, hnra⟩ : ∃ QZ, QZ = ra ++ fa := ⟨_, rfl⟩
              have Hnra : Hid (nra.size = ra.size + 1) := by rw [Hid, hnra, ByteArray.size_append, hfa]
              have HQnra := Lib.hid hnra
              have BZ : Box 24 wr HC 6 ⟨#[48, 48, 48, 48, 48, 48]⟩ ra := BC_1.out
              obtain ⟨z0, z1, z2⟩ := Box.c BZ
              have f2 := Box.free BZ 2
              clear BZ
              obtain ⟨Zra, hF⟩ : ∃ QZ, QZ = (wr.setCell ⟨HC, 2, none⟩ (.string nra)).drew := ⟨_, rfl⟩
              have hW : Zra = wr.drew.setCell ⟨HC, 2, none⟩ (.string nra) := hF
              have RD_2 : Hid (Rd Zra R ao len cap (p + 1)) := by rw [hW]; exact RD_1.out.setNew (by omega)
              have GR_2 : Hid (w.grownBy Zra (some R)) := by rw [hW]; exact grown_new GR_1.out (by omega)
              have BA_2 : Hid (Box 24 Zra (w.heap.size) 0 ⟨#[]⟩ ⟨#[]⟩) := by rw [hW]; exact box_other BA_1.out (by omega)
              have BB_2 : Hid (Box 24 Zra (w.heap.size + 1) 0 ⟨#[]⟩ ⟨#[]⟩) := by rw [hW]; exact box_other BB_1.out (by omega)
              have BC_2 : Hid (Box 24 Zra HC 6 ⟨#[48, 48, 48, 48, 48, 48]⟩ nra) := by rw [hW]; exact Box.set2 BC_1.out nra
              have BD_2 : Hid (Box 24 Zra HD 6 ⟨#[48, 48, 48, 48, 48, 48]⟩ rb) := by rw [hW]; exact box_other BD_1.out (by omega)
              clear RD_1 GR_1 BA_1 BB_1 BC_1 BD_1 hnra hW
              go_wp2_with fail
              rw [← HQnra.out, ← hF]
              clear hF z0 z1 z2 f2 tA tB
              by_cases hxy2 : x ≠ y
              · have tC : ((x : Int) != (y : Int)) = true := by simp; omega
                clear hxy2
                have q0 : ∀ QQ : Wd (fun Q => Q.cell? ⟨HD, 2, none⟩ = some (.string rb)), QQ.w.cell? ⟨HD, 2, none⟩ = some (.string rb) := fun QQ => QQ.ok
                have hne : Nonempty (Wd (fun Q => Q.cell? ⟨HD, 2, none⟩ = some (.string rb))) := ⟨⟨Zra, (Box.c BD_2.out).2.2⟩⟩
                go_wp2_with fail
                refine chain_last (S := (fun Q => Q.cell? ⟨HD, 2, none⟩ = some (.string rb))) [([true, true, true, true, true, true, true, true, true, true, true, true], 12)] [false, false, false, false, false, false, false, false, false, false, false, false, false, true, true] (by kernel_rfl) (by kernel_rfl) (by kernel_rfl) (by kernel_rfl) (by kernel_rfl) (by kernel_rfl) (Box.c BD_2.out).2.2 ?_
                simp only [wpSegs, pickB, List.dropLast_cons_cons, List.dropLast_singleton, List.getLast?_cons_cons, List.getLast?_singleton, List.toList_toArray, List.getElem?_toArray, List.getElem?_cons_succ, List.getElem?_cons_zero, Option.toList_some]
                have RD_3 : Hid (Rd Zra.drew R ao len cap (p + 1)) := RD_2.out.drew
                have GR_3 := Lib.hid (grown_drew GR_2.out)
                have BA_3 : Hid (Box 24 Zra.drew (w.heap.size) 0 ⟨#[]⟩ ⟨#[]⟩) := Box.drew BA_2.out
                have BB_3 : Hid (Box 24 Zra.drew (w.heap.size + 1) 0 ⟨#[]⟩ ⟨#[]⟩) := Box.drew BB_2.out
                have BC_3 : Hid (Box 24 Zra.drew HC 6 ⟨#[48, 48, 48, 48, 48, 48]⟩ nra) := Box.drew BC_2.out
                have BD_3 : Hid (Box 24 Zra.drew HD 6 ⟨#[48, 48, 48, 48, 48, 48]⟩ rb) := Box.drew BD_2.out
                clear RD_2 GR_2 BA_2 BB_2 BC_2 BD_2
                repeat (go_big_quiet_step (fail))
                refine wpQuiet_nil ?_
                intro K hK
                go_wp2_with fail
                refine (bit_ex _ _).mono ?_
                rintro e WX ⟨fb, hfb, rfl, rfl, had⟩
                have hadd := had rb (by omega)
                clear had
                go_wp2_with fail
                refine hK _ _ (Box.c BD_3.out).2.2 ?_
                clear hK K
                repeat (go_big_quiet_step (fail))
                refine wpQuiet_nil ?_
                show wpList _ _ _ _ _ _
                clear q0 hne hadd
                obtain ⟨nrb, hnrb⟩ : ∃ QZ, QZ = rb ++ fb := ⟨_, rfl⟩
                have Hnrb : Hid (nrb.size = rb.size + 1) := by rw [Hid, hnrb, ByteArray.size_append, hfb]
                have HQnrb := Lib.hid hnrb
                have BZ : Box 24 Zra HD 6 ⟨#[48, 48, 48, 48, 48, 48]⟩ rb := BD_3.out
                obtain ⟨z0, z1, z2⟩ := Box.c BZ
                have f2 := Box.free BZ 2
                clear BZ
                obtain ⟨Zrb, hF⟩ : ∃ QZ, QZ = (Zra.setCell ⟨HD, 2, none⟩ (.string nrb)).drew := ⟨_, rfl⟩
                have hW : Zrb = Zra.drew.setCell ⟨HD, 2, none⟩ (.string nrb) := hF
                have RD_4 : Hid (Rd Zrb R ao len cap (p + 1)) := by rw [hW]; exact RD_3.out.setNew (by omega)
                have GR_4 : Hid (w.grownBy Zrb (some R)) := by rw [hW]; exact grown_new GR_3.out (by omega)
                have BA_4 : Hid (Box 24 Zrb (w.heap.size) 0 ⟨#[]⟩ ⟨#[]⟩) := by rw [hW]; exact box_other BA_3.out (by omega)
                have BB_4 : Hid (Box 24 Zrb (w.heap.size + 1) 0 ⟨#[]⟩ ⟨#[]⟩) := by rw [hW]; exact box_other BB_3.out (by omega)
                have BC_4 : Hid (Box 24 Zrb HC 6 ⟨#[48, 48, 48, 48, 48, 48]⟩ nra) := by rw [hW]; exact box_other BC_3.out (by omega)
                have BD_4 : Hid (Box 24 Zrb HD 6 ⟨#[48, 48, 48, 48, 48, 48]⟩ nrb) := by rw [hW]; exact Box.set2 BD_3.out nrb
                clear RD_3 GR_3 BA_3 BB_3 BC_3 BD_3 hnrb hW
                have IN : Hid (In6 w R ao len cap (p + 1) HC HD (6 * x + (y + 1)) Zrb) := ⟨nra, nrb, by have := Hnra.out; have := HSZ.out.1; omega, by have := Hnrb.out; have := HSZ.out.2; omega, RD_4.out, GR_4.out, BA_4.out, BB_4.out, BC_4.out, BD_4.out⟩
                go_wp2
                rw [← HQnrb.out, ← hF]
                clear hF z0 z1 z2 f2
                go_roundw
                case rel => first | exact ⟨y + 1, by omega, by go_num, IN.out⟩ | ((repeat apply Exists.intro); exact ⟨⟨y + 1, by omega, by go_num, IN.out⟩, rfl⟩)
                case measure => simp [intOf]; omega
              · have tC : ((x : Int) != (y : Int)) = false := by simp; omega
                clear hxy2
                have q0 : ∀ QQ : Wd (fun Q => Q.cell? ⟨HD, 2, none⟩ = some (.string rb)), QQ.w.cell? ⟨HD, 2, none⟩ = some (.string rb) := fun QQ => QQ.ok
                have hne : Nonempty (Wd (fun Q => Q.cell? ⟨HD, 2, none⟩ = some (.string rb))) := ⟨⟨Zra, (Box.c BD_2.out).2.2⟩⟩
                go_wp2_with fail
                refine chain_last (S := (fun Q => Q.cell? ⟨HD, 2, none⟩ = some (.string rb))) [([true, true, true, true, true, true, true, true, true, true, true, true], 12)] [false, false, false, false, false, false, false, false, false, false, false, false, false, true, true] (by kernel_rfl) (by kernel_rfl) (by kernel_rfl) (by kernel_rfl) (by kernel_rfl) (by kernel_rfl) (Box.c BD_2.out).2.2 ?_
                simp only [wpSegs, pickB, List.dropLast_cons_cons, List.dropLast_singleton, List.getLast?_cons_cons, List.getLast?_singleton, List.toList_toArray, List.getElem?_toArray, List.getElem?_cons_succ, List.getElem?_cons_zero, Option.toList_some]
                have RD_3 : Hid (Rd Zra.drew R ao len cap (p + 1)) := RD_2.out.drew
                have GR_3 := Lib.hid (grown_drew GR_2.out)
                have BA_3 : Hid (Box 24 Zra.drew (w.heap.size) 0 ⟨#[]⟩ ⟨#[]⟩) := Box.drew BA_2.out
                have BB_3 : Hid (Box 24 Zra.drew (w.heap.size + 1) 0 ⟨#[]⟩ ⟨#[]⟩) := Box.drew BB_2.out
                have BC_3 : Hid (Box 24 Zra.drew HC 6 ⟨#[48, 48, 48, 48, 48, 48]⟩ nra) := Box.drew BC_2.out
                have BD_3 : Hid (Box 24 Zra.drew HD 6 ⟨#[48, 48, 48, 48, 48, 48]⟩ rb) := Box.drew BD_2.out
                clear RD_2 GR_2 BA_2 BB_2 BC_2 BD_2
                repeat (go_big_quiet_step (fail))
                refine wpQuiet_nil ?_
                intro K hK
                go_wp2_with fail
                refine (bit_ex _ _).mono ?_
                rintro e WX ⟨fb, hfb, rfl, rfl, had⟩
                have hadd := had rb (by omega)
                clear had
                go_wp2_with fail
                refine hK _ _ (Box.c BD_3.out).2.2 ?_
                clear hK K
                repeat (go_big_quiet_step (fail))
                refine wpQuiet_nil ?_
                show wpList _ _ _ _ _ _
                clear q0 hne hadd
                obtain ⟨nrb, hnrb⟩ : ∃ QZ, QZ = rb ++ fb := ⟨_, rfl⟩
                have Hnrb : Hid (nrb.size = rb.size + 1) := by rw [Hid, hnrb, ByteArray.size_append, hfb]
                have HQnrb := Lib.hid hnrb
                have BZ : Box 24 Zra HD 6 ⟨#[48, 48, 48, 48, 48, 48]⟩ rb := BD_3.out
                obtain ⟨z0, z1, z2⟩ := Box.c BZ
                have f2 := Box.free BZ 2
                clear BZ
                obtain ⟨Zrb, hF⟩ : ∃ QZ, QZ = (Zra.setCell ⟨HD, 2, none⟩ (.string nrb)).drew := ⟨_, rfl⟩
                have hW : Zrb = Zra.drew.setCell ⟨HD, 2, none⟩ (.string nrb) := hF
                have RD_4 : Hid (Rd Zrb R ao len cap (p + 1)) := by rw [hW]; exact RD_3.out.setNew (by omega)
                have GR_4 : Hid (w.grownBy Zrb (some R)) := by rw [hW]; exact grown_new GR_3.out (by omega)
                have BA_4 : Hid (Box 24 Zrb (w.heap.size) 0 ⟨#[]⟩ ⟨#[]⟩) := by rw [hW]; exact box_other BA_3.out (by omega)
                have BB_4 : Hid (Box 24 Zrb (w.heap.size + 1) 0 ⟨#[]⟩ ⟨#[]⟩) := by rw [hW]; exact box_other BB_3.out (by omega)
                have BC_4 : Hid (Box 24 Zrb HC 6 ⟨#[48, 48, 48, 48, 48, 48]⟩ nra) := by rw [hW]; exact box_other BC_3.out (by omega)
                have BD_4 : Hid (Box 24 Zrb HD 6 ⟨#[48, 48, 48, 48, 48, 48]⟩ nrb) := by rw [hW]; exact Box.set2 BD_3.out nrb
                clear RD_3 GR_3 BA_3 BB_3 BC_3 BD_3 hnrb hW
                have IN : Hid (In6 w R ao len cap (p + 1) HC HD (6 * x + (y + 1)) Zrb) := ⟨nra, nrb, by have := Hnra.out; have := HSZ.out.1; omega, by have := Hnrb.out; have := HSZ.out.2; omega, RD_4.out, GR_4.out, BA_4.out, BB_4.out, BC_4.out, BD_4.out⟩
                go_wp2
                rw [← HQnrb.out, ← hF]
                clear hF z0 z1 z2 f2
                go_roundw
                case rel => first | exact ⟨y + 1, by omega, by go_num, IN.out⟩ | ((repeat apply Exists.intro); exact ⟨⟨y + 1, by omega, by go_num, IN.out⟩, rfl⟩)
                case measure => simp [intOf]; omega
          · obtain rfl : y = 6 := by omega
            have HI := Lib.hid hI
            clear hI
            go_wp2
            go_roundw
            case rel => exact ⟨x + 1, by omega, by go_num, HI.out⟩
            case measure => simp [intOf]; omega
      · obtain rfl : x = 6 := by omega
        obtain ⟨ra, rb, hra, hrb, i1, i2, i3, i4, i5, i6⟩ := HI.out
        have HSZ := Lib.hid (show _ ∧ _ from ⟨hra, hrb⟩)
        have RD_0 := Lib.hid i1
        have GR_0 := Lib.hid i2
        have BA_0 := Lib.hid i3
        have BB_0 := Lib.hid i4
        have BC_0 := Lib.hid i5
        have BD_0 := Lib.hid i6
        clear HI i1 i2 i3 i4 i5 i6 hra hrb hx hx6
        go_wp2_with fail
        refine (pick_any R ao len cap (p + 1) 2 _ RD_0.out (by omega) (by omega) (by omega)).mono ?_
        rintro e W1 ⟨v2, hv2, rfl, hrd, hg⟩
        have RD_1 := Lib.hid hrd
        have GR_1 := Lib.hid (grown_trans GR_0.out hg)
        have BA_1 := Lib.hid (Box.kept (row := some R) BA_0.out hg (by simp; omega))
        have BB_1 := Lib.hid (Box.kept (row := some R) BB_0.out hg (by simp; omega))
        have BC_1 := Lib.hid (Box.kept (row := some R) BC_0.out hg (by simp; omega))
        have BD_1 := Lib.hid (Box.kept (row := some R) BD_0.out hg (by simp; omega))
        clear hrd hg
        clear RD_0 GR_0 BA_0 BB_0 BC_0 BD_0
        rcases (show v2 = 0 ∨ v2 = 1 by omega) with rfl | rfl
        · have q0 : ∀ QQ : Wd (fun Q => Q.cell? ⟨HC, 0, none⟩ = some (.int .i64 6) ∧ Q.cell? ⟨HC, 1, none⟩ = some (.string ⟨#[48, 48, 48, 48, 48, 48]⟩) ∧ Q.cell? ⟨HC, 2, none⟩ = some (.string ra) ∧ Q.cell? ⟨HD, 0, none⟩ = some (.int .i64 6) ∧ Q.cell? ⟨HD, 1, none⟩ = some (.string ⟨#[48, 48, 48, 48, 48, 48]⟩) ∧ Q.cell? ⟨HD, 2, none⟩ = some (.string rb)), QQ.w.cell? ⟨HC, 0, none⟩ = some (.int .i64 6) := fun QQ => QQ.ok.1
          have q1 : ∀ QQ : Wd (fun Q => Q.cell? ⟨HC, 0, none⟩ = some (.int .i64 6) ∧ Q.cell? ⟨HC, 1, none⟩ = some (.string ⟨#[48, 48, 48, 48, 48, 48]⟩) ∧ Q.cell? ⟨HC, 2, none⟩ = some (.string ra) ∧ Q.cell? ⟨HD, 0, none⟩ = some (.int .i64 6) ∧ Q.cell? ⟨HD, 1, none⟩ = some (.string ⟨#[48, 48, 48, 48, 48, 48]⟩) ∧ Q.cell? ⟨HD, 2, none⟩ = some (.string rb)), QQ.w.cell? ⟨HC, 1, none⟩ = some (.string ⟨#[48, 48, 48, 48, 48, 48]⟩) := fun QQ => QQ.ok.2.1
          have q2 : ∀ QQ : Wd (fun Q => Q.cell? ⟨HC, 0, none⟩ = some (.int .i64 6) ∧ Q.cell? ⟨HC, 1, none⟩ = some (.string ⟨#[48, 48, 48, 48, 48, 48]⟩) ∧ Q.cell? ⟨HC, 2, none⟩ = some (.string ra) ∧ Q.cell? ⟨HD, 0, none⟩ = some (.int .i64 6) ∧ Q.cell? ⟨HD, 1, none⟩ = some (.string ⟨#[48, 48, 48, 48, 48, 48]⟩) ∧ Q.cell? ⟨HD, 2, none⟩ = some (.string rb)), QQ.w.cell? ⟨HC, 2, none⟩ = some (.string ra) := fun QQ => QQ.ok.2.2.1
          have q3 : ∀ QQ : Wd (fun Q => Q.cell? ⟨HC, 0, none⟩ = some (.int .i64 6) ∧ Q.cell? ⟨HC, 1, none⟩ = some (.string ⟨#[48, 48, 48, 48, 48, 48]⟩) ∧ Q.cell? ⟨HC, 2, none⟩ = some (.string ra) ∧ Q.cell? ⟨HD, 0, none⟩ = some (.int .i64 6) ∧ Q.cell? ⟨HD, 1, none⟩ = some (.string ⟨#[48, 48, 48, 48, 48, 48]⟩) ∧ Q.cell? ⟨HD, 2, none⟩ = some (.string rb)), QQ.w.cell? ⟨HD, 0, none⟩ = some (.int .i64 6) := fun QQ => QQ.ok.2.2.2.1
          have q4 : ∀ QQ : Wd (fun Q => Q.cell? ⟨HC, 0, none⟩ = some (.int .i64 6) ∧ Q.cell? ⟨HC, 1, none⟩ = some (.string ⟨#[48, 48, 48, 48, 48, 48]⟩) ∧ Q.cell? ⟨HC, 2, none⟩ = some (.string ra) ∧ Q.cell? ⟨HD, 0, none⟩ = some (.int .i64 6) ∧ Q.cell? ⟨HD, 1, none⟩ = some (.string ⟨#[48, 48, 48, 48, 48, 48]⟩) ∧ Q.cell? ⟨HD, 2, none⟩ = some (.string rb)), QQ.w.cell? ⟨HD, 1, none⟩ = some (.string ⟨#[48, 48, 48, 48, 48, 48]⟩) := fun QQ => QQ.ok.2.2.2.2.1
          have q5 : ∀ QQ : Wd (fun Q => Q.cell? ⟨HC, 0, none⟩ = some (.int .i64 6) ∧ Q.cell? ⟨HC, 1, none⟩ = some (.string ⟨#[48, 48, 48, 48, 48, 48]⟩) ∧ Q.cell? ⟨HC, 2, none⟩ = some (.string ra) ∧ Q.cell? ⟨HD, 0, none⟩ = some (.int .i64 6) ∧ Q.cell? ⟨HD, 1, none⟩ = some (.string ⟨#[48, 48, 48, 48, 48, 48]⟩) ∧ Q.cell? ⟨HD, 2, none⟩ = some (.string rb)), QQ.w.cell? ⟨HD, 2, none⟩ = some (.string rb) := fun QQ => QQ.ok.2.2.2.2.2
          have hne : Nonempty (Wd (fun Q => Q.cell? ⟨HC, 0, none⟩ = some (.int .i64 6) ∧ Q.cell? ⟨HC, 1, none⟩ = some (.string ⟨#[48, 48, 48, 48, 48, 48]⟩) ∧ Q.cell? ⟨HC, 2, none⟩ = some (.string ra) ∧ Q.cell? ⟨HD, 0, none⟩ = some (.int .i64 6) ∧ Q.cell? ⟨HD, 1, none⟩ = some (.string ⟨#[48, 48, 48, 48, 48, 48]⟩) ∧ Q.cell? ⟨HD, 2, none⟩ = some (.string rb))) := ⟨⟨W1, ⟨(Box.c BC_1.out).1, (Box.c BC_1.out).2.1, (Box.c BC_1.out).2.2, (Box.c BD_1.out).1, (Box.c BD_1.out).2.1, (Box.c BD_1.out).2.2⟩⟩⟩
          go_wp2_with fail
          refine chain (S := (fun Q => Q.cell? ⟨HC, 0, none⟩ = some (.int .i64 6) ∧ Q.cell? ⟨HC, 1, none⟩ = some (.string ⟨#[48, 48, 48, 48, 48, 48]⟩) ∧ Q.cell? ⟨HC, 2, none⟩ = some (.string ra) ∧ Q.cell? ⟨HD, 0, none⟩ = some (.int .i64 6) ∧ Q.cell? ⟨HD, 1, none⟩ = some (.string ⟨#[48, 48, 48, 48, 48, 48]⟩) ∧ Q.cell? ⟨HD, 2, none⟩ = some (.string rb))) [([true, true, true], 3), ([], 4), ([], 5), ([], 6)] [] (by kernel_rfl) (by kernel_rfl) (by kernel_rfl) ⟨(Box.c BC_1.out).1, (Box.c BC_1.out).2.1, (Box.c BC_1.out).2.2, (Box.c BD_1.out).1, (Box.c BD_1.out).2.1, (Box.c BD_1.out).2.2⟩ ?_
          simp only [wpSegs, pickB, List.dropLast_cons_cons, List.dropLast_singleton, List.getLast?_cons_cons, List.getLast?_singleton, List.toList_toArray, List.getElem?_toArray, List.getElem?_cons_succ, List.getElem?_cons_zero, Option.toList_some]
          have RD_2 : Hid (Rd W1.drew R ao len cap ((p + 1) + 1)) := RD_1.out.drew
          have GR_2 := Lib.hid (grown_drew GR_1.out)
          have BA_2 : Hid (Box 24 W1.drew (w.heap.size) 0 ⟨#[]⟩ ⟨#[]⟩) := Box.drew BA_1.out
          have BB_2 : Hid (Box 24 W1.drew (w.heap.size + 1) 0 ⟨#[]⟩ ⟨#[]⟩) := Box.drew BB_1.out
          have BC_2 : Hid (Box 24 W1.drew HC 6 ⟨#[48, 48, 48, 48, 48, 48]⟩ ra) := Box.drew BC_1.out
          have BD_2 : Hid (Box 24 W1.drew HD 6 ⟨#[48, 48, 48, 48, 48, 48]⟩ rb) := Box.drew BD_1.out
          clear RD_1 GR_1 BA_1 BB_1 BC_1 BD_1
          repeat (go_big_quiet_step (fail))
          refine wpQuiet_nil ?_
          intro K hK
          go_wp2_with fail
          refine (shuffle_any R ao len cap ((p + 1) + 1) 6 _ RD_2.out (by omega) (by omega)).mono ?_
          rintro e V1 ⟨vl, l, p5, rfl, hll, hlb, ho, hrd, hp5, hg⟩
          have HO := Lib.hid (show _ ∧ _ ∧ _ from ⟨hll, hlb, ho⟩)
          clear hll hlb ho
          have RD_3 := Lib.hid hrd
          have GR_3 := Lib.hid (grown_trans GR_2.out hg)
          have BA_3 := Lib.hid (Box.kept (row := some R) BA_2.out hg (by simp; omega))
          have BB_3 := Lib.hid (Box.kept (row := some R) BB_2.out hg (by simp; omega))
          have BC_3 := Lib.hid (Box.kept (row := some R) BC_2.out hg (by simp; omega))
          have BD_3 := Lib.hid (Box.kept (row := some R) BD_2.out hg (by simp; omega))
          clear hrd hg
          clear RD_2 GR_2 BA_2 BB_2 BC_2 BD_2
          go_wp2_with fail
          refine hK _ _ ⟨(Box.c BC_3.out).1, (Box.c BC_3.out).2.1, (Box.c BC_3.out).2.2, (Box.c BD_3.out).1, (Box.c BD_3.out).2.1, (Box.c BD_3.out).2.2⟩ ?_
          clear hK K
          repeat (go_big_quiet_step (fail))
          refine wpQuiet_nil ?_
          intro K hK
          go_wp2_with fail
          refine (part_drawn R ao len cap p5 6 _ ⟨#[48, 48, 48, 48, 48, 48]⟩ rb vl l _ RD_3.out (by omega) (by omega) rfl HSZ.out.2 HO.out.2.2 HO.out.1 HO.out.2.1).mono ?_
          rintro e V2 ⟨t, q, rfl, ht, hq, hrd, hg⟩
          have HM := Lib.hid (show _ ∧ _ from ⟨ht, hq⟩)
          clear ht hq
          have RD_4 := Lib.hid hrd
          have GR_4 := Lib.hid (grown_trans GR_3.out hg)
          have BA_4 := Lib.hid (Box.kept (row := some R) BA_3.out hg (by simp; omega))
          have BB_4 := Lib.hid (Box.kept (row := some R) BB_3.out hg (by simp; omega))
          have BC_4 := Lib.hid (Box.kept (row := some R) BC_3.out hg (by simp; omega))
          have BD_4 := Lib.hid (Box.kept (row := some R) BD_3.out hg (by simp; omega))
          clear hrd hg
          clear RD_3 GR_3 BA_3 BB_3 BC_3 BD_3
          go_wp2_with fail
          refine hK _ _ ⟨(Box.c BC_4.out).1, (Box.c BC_4.out).2.1, (Box.c BC_4.out).2.2, (Box.c BD_4.out).1, (Box.c BD_4.out).2.1, (Box.c BD_4.out).2.2⟩ ?_
          clear hK K
          have BZ := BA_4.out
          obtain ⟨z0, z1, z2⟩ := Box.c BZ
          have f0 := Box.free BZ 0
          have f1 := Box.free BZ 1
          have f2 := Box.free BZ 2
          clear BZ
          repeat (go_big_quiet_step (fail))
          refine wpQuiet_nil ?_
          intro K hK
          go_wp2_with fail
          clear z0 z1 z2 f0 f1 f2
          obtain ⟨W5, hW5⟩ : ∃ QZ, QZ = (((V2.setCell ⟨w.heap.size, 0, none⟩ (.int .i64 6)).setCell ⟨w.heap.size, 1, none⟩ (.string ⟨#[48, 48, 48, 48, 48, 48]⟩)).setCell ⟨w.heap.size, 2, none⟩ (.string ra)) := ⟨_, rfl⟩
          have RD_5 : Hid (Rd W5 R ao len cap p5) := by rw [hW5]; exact rd_sets RD_4.out (by omega)
          have GR_5 : Hid (w.grownBy W5 (some R)) := by rw [hW5]; exact grown_sets GR_4.out (by omega)
          have BA_5 : Hid (Box 24 W5 (w.heap.size) 6 ⟨#[48, 48, 48, 48, 48, 48]⟩ ra) := by rw [hW5]; exact ((Box.set0 BA_4.out 6).set1 ⟨#[48, 48, 48, 48, 48, 48]⟩).set2 ra
          have BB_5 : Hid (Box 24 W5 (w.heap.size + 1) 0 ⟨#[]⟩ ⟨#[]⟩) := by rw [hW5]; exact box_others BB_4.out (by omega)
          have BC_5 : Hid (Box 24 W5 HC 6 ⟨#[48, 48, 48, 48, 48, 48]⟩ ra) := by rw [hW5]; exact box_others BC_4.out (by omega)
          have BD_5 : Hid (Box 24 W5 HD 6 ⟨#[48, 48, 48, 48, 48, 48]⟩ rb) := by rw [hW5]; exact box_others BD_4.out (by omega)
          clear RD_4 GR_4 BA_4 BB_4 BC_4 BD_4
          rw [← hW5]
          clear hW5
          refine hK _ _ ⟨(Box.c BC_5.out).1, (Box.c BC_5.out).2.1, (Box.c BC_5.out).2.2, (Box.c BD_5.out).1, (Box.c BD_5.out).2.1, (Box.c BD_5.out).2.2⟩ ?_
          clear hK K
          have BZ := BB_5.out
          obtain ⟨z0, z1, z2⟩ := Box.c BZ
          have f0 := Box.free BZ 0
          have f1 := Box.free BZ 1
          have f2 := Box.free BZ 2
          clear BZ
          repeat (go_big_quiet_step (fail))
          refine wpQuiet_nil ?_
          intro K hK
          go_wp2_with fail
          clear z0 z1 z2 f0 f1 f2
          obtain ⟨W6, hW6⟩ : ∃ QZ, QZ = (((W5.setCell ⟨w.heap.size + 1, 0, none⟩ (.int .i64 6)).setCell ⟨w.heap.size + 1, 1, none⟩ (.string t)).setCell ⟨w.heap.size + 1, 2, none⟩ (.string q)) := ⟨_, rfl⟩
          have RD_6 : Hid (Rd W6 R ao len cap p5) := by rw [hW6]; exact rd_sets RD_5.out (by omega)
          have GR_6 : Hid (w.grownBy W6 (some R)) := by rw [hW6]; exact grown_sets GR_5.out (by omega)
          have BA_6 : Hid (Box 24 W6 (w.heap.size) 6 ⟨#[48, 48, 48, 48, 48, 48]⟩ ra) := by rw [hW6]; exact box_others BA_5.out (by omega)
          have BB_6 : Hid (Box 24 W6 (w.heap.size + 1) 6 t q) := by rw [hW6]; exact ((Box.set0 BB_5.out 6).set1 t).set2 q
          have BC_6 : Hid (Box 24 W6 HC 6 ⟨#[48, 48, 48, 48, 48, 48]⟩ ra) := by rw [hW6]; exact box_others BC_5.out (by omega)
          have BD_6 : Hid (Box 24 W6 HD 6 ⟨#[48, 48, 48, 48, 48, 48]⟩ rb) := by rw [hW6]; exact box_others BD_5.out (by omega)
          clear RD_5 GR_5 BA_5 BB_5 BC_5 BD_5
          rw [← hW6]
          clear hW6
          refine hK _ _ ⟨(Box.c BC_6.out).1, (Box.c BC_6.out).2.1, (Box.c BC_6.out).2.2, (Box.c BD_6.out).1, (Box.c BD_6.out).2.1, (Box.c BD_6.out).2.2⟩ ?_
          clear hK K
          repeat (go_big_quiet_step (fail))
          refine wpQuiet_nil ?_
          clear q0 q1 q2 q3 q4 q5 hne
          have HF := Lib.hid (show _ ∧ _ from ⟨Box.c BA_6.out, Box.c BB_6.out⟩)
          have RES := Lib.hid (show _ ∧ _ from ⟨RD_6.out, GR_6.out⟩)
          clear RD_6 GR_6 BA_6 BB_6 BC_6 BD_6
          go_wp2
          exact bodyPost_ret (v := .tuple #[.agg #[.int .i64 6, .string ⟨#[48, 48, 48, 48, 48, 48]⟩, .string ra], .agg #[.int .i64 6, .string t, .string q]]) (by simp [results, Tryz.results27, go_sem, HF.out.1.1, HF.out.1.2.1, HF.out.1.2.2, HF.out.2.1, HF.out.2.2.1, HF.out.2.2.2]) rfl ⟨6, ⟨#[48, 48, 48, 48, 48, 48]⟩, ra, 6, t, q, _, rfl, ⟨by omega, by omega, rfl, HSZ.out.1⟩, ⟨by omega, by omega, HM.out.1, HM.out.2⟩, RES.out.1, by omega, RES.out.2⟩
        · have q0 : ∀ QQ : Wd (fun Q => Q.cell? ⟨HC, 0, none⟩ = some (.int .i64 6) ∧ Q.cell? ⟨HC, 1, none⟩ = some (.string ⟨#[48, 48, 48, 48, 48, 48]⟩) ∧ Q.cell? ⟨HC, 2, none⟩ = some (.string ra) ∧ Q.cell? ⟨HD, 0, none⟩ = some (.int .i64 6) ∧ Q.cell? ⟨HD, 1, none⟩ = some (.string ⟨#[48, 48, 48, 48, 48, 48]⟩) ∧ Q.cell? ⟨HD, 2, none⟩ = some (.string rb)), QQ.w.cell? ⟨HC, 0, none⟩ = some (.int .i64 6) := fun QQ => QQ.ok.1
          have q1 : ∀ QQ : Wd (fun Q => Q.cell? ⟨HC, 0, none⟩ = some (.int .i64 6) ∧ Q.cell? ⟨HC, 1, none⟩ = some (.string ⟨#[48, 48, 48, 48, 48, 48]⟩) ∧ Q.cell? ⟨HC, 2, none⟩ = some (.string ra) ∧ Q.cell? ⟨HD, 0, none⟩ = some (.int .i64 6) ∧ Q.cell? ⟨HD, 1, none⟩ = some (.string ⟨#[48, 48, 48, 48, 48, 48]⟩) ∧ Q.cell? ⟨HD, 2, none⟩ = some (.string rb)), QQ.w.cell? ⟨HC, 1, none⟩ = some (.string ⟨#[48, 48, 48, 48, 48, 48]⟩) := fun QQ => QQ.ok.2.1
          have q2 : ∀ QQ : Wd (fun Q => Q.cell? ⟨HC, 0, none⟩ = some (.int .i64 6) ∧ Q.cell? ⟨HC, 1, none⟩ = some (.string ⟨#[48, 48, 48, 48, 48, 48]⟩) ∧ Q.cell? ⟨HC, 2, none⟩ = some (.string ra) ∧ Q.cell? ⟨HD, 0, none⟩ = some (.int .i64 6) ∧ Q.cell? ⟨HD, 1, none⟩ = some (.string ⟨#[48, 48, 48, 48, 48, 48]⟩) ∧ Q.cell? ⟨HD, 2, none⟩ = some (.string rb)), QQ.w.cell? ⟨HC, 2, none⟩ = some (.string ra) := fun QQ => QQ.ok.2.2.1
          have q3 : ∀ QQ : Wd (fun Q => Q.cell? ⟨HC, 0, none⟩ = some (.int .i64 6) ∧ Q.cell? ⟨HC, 1, none⟩ = some (.string ⟨#[48, 48, 48, 48, 48, 48]⟩) ∧ Q.cell? ⟨HC, 2, none⟩ = some (.string ra) ∧ Q.cell? ⟨HD, 0, none⟩ = some (.int .i64 6) ∧ Q.cell? ⟨HD, 1, none⟩ = some (.string ⟨#[48, 48, 48, 48, 48, 48]⟩) ∧ Q.cell? ⟨HD, 2, none⟩ = some (.string rb)), QQ.w.cell? ⟨HD, 0, none⟩ = some (.int .i64 6) := fun QQ => QQ.ok.2.2.2.1
          have q4 : ∀ QQ : Wd (fun Q => Q.cell? ⟨HC, 0, none⟩ = some (.int .i64 6) ∧ Q.cell? ⟨HC, 1, none⟩ = some (.string ⟨#[48, 48, 48, 48, 48, 48]⟩) ∧ Q.cell? ⟨HC, 2, none⟩ = some (.string ra) ∧ Q.cell? ⟨HD, 0, none⟩ = some (.int .i64 6) ∧ Q.cell? ⟨HD, 1, none⟩ = some (.string ⟨#[48, 48, 48, 48, 48, 48]⟩) ∧ Q.cell? ⟨HD, 2, none⟩ = some (.string rb)), QQ.w.cell? ⟨HD, 1, none⟩ = some (.string ⟨#[48, 48, 48, 48, 48, 48]⟩) := fun QQ => QQ.ok.2.2.2.2.1
          have q5 : ∀ QQ : Wd (fun Q => Q.cell? ⟨HC, 0, none⟩ = some (.int .i64 6) ∧ Q.cell? ⟨HC, 1, none⟩ = some (.string ⟨#[48, 48, 48, 48, 48, 48]⟩) ∧ Q.cell? ⟨HC, 2, none⟩ = some (.string ra) ∧ Q.cell? ⟨HD, 0, none⟩ = some (.int .i64 6) ∧ Q.cell? ⟨HD, 1, none⟩ = some (.string ⟨#[48, 48, 48, 48, 48, 48]⟩) ∧ Q.cell? ⟨HD, 2, none⟩ = some (.string rb)), QQ.w.cell? ⟨HD, 2, none⟩ = some (.string rb) := fun QQ => QQ.ok.2.2.2.2.2
          have hne : Nonempty (Wd (fun Q => Q.cell? ⟨HC, 0, none⟩ = some (.int .i64 6) ∧ Q.cell? ⟨HC, 1, none⟩ = some (.string ⟨#[48, 48, 48, 48, 48, 48]⟩) ∧ Q.cell? ⟨HC, 2, none⟩ = some (.string ra) ∧ Q.cell? ⟨HD, 0, none⟩ = some (.int .i64 6) ∧ Q.cell? ⟨HD, 1, none⟩ = some (.string ⟨#[48, 48, 48, 48, 48, 48]⟩) ∧ Q.cell? ⟨HD, 2, none⟩ = some (.string rb))) := ⟨⟨W1, ⟨(Box.c BC_1.out).1, (Box.c BC_1.out).2.1, (Box.c BC_1.out).2.2, (Box.c BD_1.out).1, (Box.c BD_1.out).2.1, (Box.c BD_1.out).2.2⟩⟩⟩
          go_wp2_with fail
          refine chain (S := (fun Q => Q.cell? ⟨HC, 0, none⟩ = some (.int .i64 6) ∧ Q.cell? ⟨HC, 1, none⟩ = some (.string ⟨#[48, 48, 48, 48, 48, 48]⟩) ∧ Q.cell? ⟨HC, 2, none⟩ = some (.string ra) ∧ Q.cell? ⟨HD, 0, none⟩ = some (.int .i64 6) ∧ Q.cell? ⟨HD, 1, none⟩ = some (.string ⟨#[48, 48, 48, 48, 48, 48]⟩) ∧ Q.cell? ⟨HD, 2, none⟩ = some (.string rb))) [([true, true], 2), ([], 3)] [] (by kernel_rfl) (by kernel_rfl) (by kernel_rfl) ⟨(Box.c BC_1.out).1, (Box.c BC_1.out).2.1, (Box.c BC_1.out).2.2, (Box.c BD_1.out).1, (Box.c BD_1.out).2.1, (Box.c BD_1.out).2.2⟩ ?_
          simp only [wpSegs, pickB, List.dropLast_cons_cons, List.dropLast_singleton, List.getLast?_cons_cons, List.getLast?_singleton, List.toList_toArray, List.getElem?_toArray, List.getElem?_cons_succ, List.getElem?_cons_zero, Option.toList_some]
          have RD_2 : Hid (Rd W1.drew R ao len cap ((p + 1) + 1)) := RD_1.out.drew
          have GR_2 := Lib.hid (grown_drew GR_1.out)
          have BA_2 : Hid (Box 24 W1.drew (w.heap.size) 0 ⟨#[]⟩ ⟨#[]⟩) := Box.drew BA_1.out
          have BB_2 : Hid (Box 24 W1.drew (w.heap.size + 1) 0 ⟨#[]⟩ ⟨#[]⟩) := Box.drew BB_1.out
          have BC_2 : Hid (Box 24 W1.drew HC 6 ⟨#[48, 48, 48, 48, 48, 48]⟩ ra) := Box.drew BC_1.out
          have BD_2 : Hid (Box 24 W1.drew HD 6 ⟨#[48, 48, 48, 48, 48, 48]⟩ rb) := Box.drew BD_1.out
          clear RD_1 GR_1 BA_1 BB_1 BC_1 BD_1
          have BZ : Box 24 W1 (w.heap.size) 0 ⟨#[]⟩ ⟨#[]⟩ := BA_2.out
          obtain ⟨z0, z1, z2⟩ := Box.c BZ
          have f0 := Box.free BZ 0
          have f1 := Box.free BZ 1
          have f2 := Box.free BZ 2
          clear BZ
          repeat (go_big_quiet_step (fail))
          refine wpQuiet_nil ?_
          intro K hK
          go_wp2_with fail
          clear z0 z1 z2 f0 f1 f2
          obtain ⟨W3, hWf3⟩ : ∃ QZ, QZ = (((W1.setCell ⟨w.heap.size, 0, none⟩ (.int .i64 6)).setCell ⟨w.heap.size, 1, none⟩ (.string ⟨#[48, 48, 48, 48, 48, 48]⟩)).setCell ⟨w.heap.size, 2, none⟩ (.string ra)).drew := ⟨_, rfl⟩
          have hW3 : W3 = (((W1.drew.setCell ⟨w.heap.size, 0, none⟩ (.int .i64 6)).setCell ⟨w.heap.size, 1, none⟩ (.string ⟨#[48, 48, 48, 48, 48, 48]⟩)).setCell ⟨w.heap.size, 2, none⟩ (.string ra)) := hWf3
          have RD_3 : Hid (Rd W3 R ao len cap ((p + 1) + 1)) := by rw [hW3]; exact rd_sets RD_2.out (by omega)
          have GR_3 : Hid (w.grownBy W3 (some R)) := by rw [hW3]; exact grown_sets GR_2.out (by omega)
          have BA_3 : Hid (Box 24 W3 (w.heap.size) 6 ⟨#[48, 48, 48, 48, 48, 48]⟩ ra) := by rw [hW3]; exact ((Box.set0 BA_2.out 6).set1 ⟨#[48, 48, 48, 48, 48, 48]⟩).set2 ra
          have BB_3 : Hid (Box 24 W3 (w.heap.size + 1) 0 ⟨#[]⟩ ⟨#[]⟩) := by rw [hW3]; exact box_others BB_2.out (by omega)
          have BC_3 : Hid (Box 24 W3 HC 6 ⟨#[48, 48, 48, 48, 48, 48]⟩ ra) := by rw [hW3]; exact box_others BC_2.out (by omega)
          have BD_3 : Hid (Box 24 W3 HD 6 ⟨#[48, 48, 48, 48, 48, 48]⟩ rb) := by rw [hW3]; exact box_others BD_2.out (by omega)
          clear RD_2 GR_2 BA_2 BB_2 BC_2 BD_2
          clear hW3
          rw [← hWf3]
          clear hWf3
          refine hK _ _ ⟨(Box.c BC_3.out).1, (Box.c BC_3.out).2.1, (Box.c BC_3.out).2.2, (Box.c BD_3.out).1, (Box.c BD_3.out).2.1, (Box.c BD_3.out).2.2⟩ ?_
          clear hK K
          have BZ := BB_3.out
          obtain ⟨z0, z1, z2⟩ := Box.c BZ
          have f0 := Box.free BZ 0
          have f1 := Box.free BZ 1
          have f2 := Box.free BZ 2
          clear BZ
          repeat (go_big_quiet_step (fail))
          refine wpQuiet_nil ?_
          intro K hK
          go_wp2_with fail
          clear z0 z1 z2 f0 f1 f2
          obtain ⟨W4, hW4⟩ : ∃ QZ, QZ = (((W3.setCell ⟨w.heap.size + 1, 0, none⟩ (.int .i64 6)).setCell ⟨w.heap.size + 1, 1, none⟩ (.string ⟨#[48, 48, 48, 48, 48, 48]⟩)).setCell ⟨w.heap.size + 1, 2, none⟩ (.string rb)) := ⟨_, rfl⟩
          have RD_4 : Hid (Rd W4 R ao len cap ((p + 1) + 1)) := by rw [hW4]; exact rd_sets RD_3.out (by omega)
          have GR_4 : Hid (w.grownBy W4 (some R)) := by rw [hW4]; exact grown_sets GR_3.out (by omega)
          have BA_4 : Hid (Box 24 W4 (w.heap.size) 6 ⟨#[48, 48, 48, 48, 48, 48]⟩ ra) := by rw [hW4]; exact box_others BA_3.out (by omega)
          have BB_4 : Hid (Box 24 W4 (w.heap.size + 1) 6 ⟨#[48, 48, 48, 48, 48, 48]⟩ rb) := by rw [hW4]; exact ((Box.set0 BB_3.out 6).set1 ⟨#[48, 48, 48, 48, 48, 48]⟩).set2 rb
          have BC_4 : Hid (Box 24 W4 HC 6 ⟨#[48, 48, 48, 48, 48, 48]⟩ ra) := by rw [hW4]; exact box_others BC_3.out (by omega)
          have BD_4 : Hid (Box 24 W4 HD 6 ⟨#[48, 48, 48, 48, 48, 48]⟩ rb) := by rw [hW4]; exact box_others BD_3.out (by omega)
          clear RD_3 GR_3 BA_3 BB_3 BC_3 BD_3
          rw [← hW4]
          clear hW4
          refine hK _ _ ⟨(Box.c BC_4.out).1, (Box.c BC_4.out).2.1, (Box.c BC_4.out).2.2, (Box.c BD_4.out).1, (Box.c BD_4.out).2.1, (Box.c BD_4.out).2.2⟩ ?_
          clear hK K
          repeat (go_big_quiet_step (fail))
          refine wpQuiet_nil ?_
          clear q0 q1 q2 q3 q4 q5 hne
          have HF := Lib.hid (show _ ∧ _ from ⟨Box.c BA_4.out, Box.c BB_4.out⟩)
          have RES := Lib.hid (show _ ∧ _ from ⟨RD_4.out, GR_4.out⟩)
          clear RD_4 GR_4 BA_4 BB_4 BC_4 BD_4
          go_wp2
          exact bodyPost_ret (v := .tuple #[.agg #[.int .i64 6, .string ⟨#[48, 48, 48, 48, 48, 48]⟩, .string ra], .agg #[.int .i64 6, .string ⟨#[48, 48, 48, 48, 48, 48]⟩, .string rb]]) (by simp [results, Tryz.results27, go_sem, HF.out.1.1, HF.out.1.2.1, HF.out.1.2.2, HF.out.2.1, HF.out.2.2.1, HF.out.2.2.2]) rfl ⟨6, ⟨#[48, 48, 48, 48, 48, 48]⟩, ra, 6, ⟨#[48, 48, 48, 48, 48, 48]⟩, rb, _, rfl, ⟨by omega, by omega, rfl, HSZ.out.1⟩, ⟨by omega, by omega, rfl, HSZ.out.2⟩, RES.out.1, by omega, RES.out.2⟩

  · go_wp2_with fail
    refine (l1Draw_any R ao len cap (p + 1) 6 _ RD_1.out (by omega) (by omega) (by omega)).mono ?_
    rintro e W2 ⟨s, r, p2, rfl, hs, hr, -, -, hrd, hp2, hg⟩
    have RD_2 := Lib.hid hrd
    have GR_2 := Lib.hid (grown_trans GR_1.out hg)
    have BA_2 := Lib.hid (Box.kept (row := some R) BA_1.out hg (by simp; omega))
    have BB_2 := Lib.hid (Box.kept (row := some R) BB_1.out hg (by simp; omega))
    clear hrd hg
    clear RD_1 GR_1 BA_1 BB_1
    have HN := Lib.hid (show _ ∧ _ from ⟨hs, hr⟩)
    clear hs hr
    obtain ⟨HC, hHC⟩ : ∃ QZ, QZ = W2.heap.size := ⟨_, rfl⟩
    have hlC : (w.heap.size + 1) < HC := by rw [hHC]; exact BB_2.out.lt
    obtain ⟨W3, hW3⟩ : ∃ QZ, QZ = W2.alloc (.cells #[.int .i64 6, .string s, .string r] 24) := ⟨_, rfl⟩
    have RD_3 : Hid (Rd W3 R ao len cap p2) := by rw [hW3]; exact RD_2.out.alloc _
    have GR_3 : Hid (w.grownBy W3 (some R)) := by rw [hW3]; exact grown_alloc GR_2.out _
    have BA_3 : Hid (Box 24 W3 (w.heap.size) 0 ⟨#[]⟩ ⟨#[]⟩) := by rw [hW3]; exact BA_2.out.below ((Below.refl W2.heap.size W2).alloc (Nat.le_refl _) _) BA_2.out.lt
    have BB_3 : Hid (Box 24 W3 (w.heap.size + 1) 0 ⟨#[]⟩ ⟨#[]⟩) := by rw [hW3]; exact BB_2.out.below ((Below.refl W2.heap.size W2).alloc (Nat.le_refl _) _) BB_2.out.lt
    have BC_3 : Hid (Box 24 W3 HC 6 s r) := by rw [hW3, hHC]; exact Box.new _ _ _ rfl _ _ _
    clear RD_2 GR_2 BA_2 BB_2
    have q0 : ∀ QQ : Wd (fun Q => Q.cell? ⟨HC, 0, none⟩ = some (.int .i64 6) ∧ Q.cell? ⟨HC, 1, none⟩ = some (.string s) ∧ Q.cell? ⟨HC, 2, none⟩ = some (.string r)), QQ.w.cell? ⟨HC, 0, none⟩ = some (.int .i64 6) := fun QQ => QQ.ok.1
    have q1 : ∀ QQ : Wd (fun Q => Q.cell? ⟨HC, 0, none⟩ = some (.int .i64 6) ∧ Q.cell? ⟨HC, 1, none⟩ = some (.string s) ∧ Q.cell? ⟨HC, 2, none⟩ = some (.string r)), QQ.w.cell? ⟨HC, 1, none⟩ = some (.string s) := fun QQ => QQ.ok.2.1
    have q2 : ∀ QQ : Wd (fun Q => Q.cell? ⟨HC, 0, none⟩ = some (.int .i64 6) ∧ Q.cell? ⟨HC, 1, none⟩ = some (.string s) ∧ Q.cell? ⟨HC, 2, none⟩ = some (.string r)), QQ.w.cell? ⟨HC, 2, none⟩ = some (.string r) := fun QQ => QQ.ok.2.2
    have hne : Nonempty (Wd (fun Q => Q.cell? ⟨HC, 0, none⟩ = some (.int .i64 6) ∧ Q.cell? ⟨HC, 1, none⟩ = some (.string s) ∧ Q.cell? ⟨HC, 2, none⟩ = some (.string r))) := ⟨⟨W3, ⟨(Box.c BC_3.out).1, (Box.c BC_3.out).2.1, (Box.c BC_3.out).2.2⟩⟩⟩
    go_wp2_with fail
    rw [← hW3]
    rw [← hHC]
    clear hW3 hHC
    refine chain (S := (fun Q => Q.cell? ⟨HC, 0, none⟩ = some (.int .i64 6) ∧ Q.cell? ⟨HC, 1, none⟩ = some (.string s) ∧ Q.cell? ⟨HC, 2, none⟩ = some (.string r))) [([true, true, true], 3), ([], 4), ([], 5), ([], 6)] [] (by kernel_rfl) (by kernel_rfl) (by kernel_rfl) ⟨(Box.c BC_3.out).1, (Box.c BC_3.out).2.1, (Box.c BC_3.out).2.2⟩ ?_
    simp only [wpSegs, pickB, List.dropLast_cons_cons, List.dropLast_singleton, List.getLast?_cons_cons, List.getLast?_singleton, List.toList_toArray, List.getElem?_toArray, List.getElem?_cons_succ, List.getElem?_cons_zero, Option.toList_some]
    have RD_4 : Hid (Rd W3.drew R ao len cap p2) := RD_3.out.drew
    have GR_4 := Lib.hid (grown_drew GR_3.out)
    have BA_4 : Hid (Box 24 W3.drew (w.heap.size) 0 ⟨#[]⟩ ⟨#[]⟩) := Box.drew BA_3.out
    have BB_4 : Hid (Box 24 W3.drew (w.heap.size + 1) 0 ⟨#[]⟩ ⟨#[]⟩) := Box.drew BB_3.out
    have BC_4 : Hid (Box 24 W3.drew HC 6 s r) := Box.drew BC_3.out
    clear RD_3 GR_3 BA_3 BB_3 BC_3
    repeat (go_big_quiet_step (fail))
    refine wpQuiet_nil ?_
    intro K hK
    go_wp2_with fail
    refine (shuffle_any R ao len cap p2 6 _ RD_4.out (by omega) (by omega)).mono ?_
    rintro e V1 ⟨vl, l, p5, rfl, hll, hlb, ho, hrd, hp5, hg⟩
    have HO := Lib.hid (show _ ∧ _ ∧ _ from ⟨hll, hlb, ho⟩)
    clear hll hlb ho
    have RD_5 := Lib.hid hrd
    have GR_5 := Lib.hid (grown_trans GR_4.out hg)
    have BA_5 := Lib.hid (Box.kept (row := some R) BA_4.out hg (by simp; omega))
    have BB_5 := Lib.hid (Box.kept (row := some R) BB_4.out hg (by simp; omega))
    have BC_5 := Lib.hid (Box.kept (row := some R) BC_4.out hg (by simp; omega))
    clear hrd hg
    clear RD_4 GR_4 BA_4 BB_4 BC_4
    go_wp2_with fail
    refine hK _ _ ⟨(Box.c BC_5.out).1, (Box.c BC_5.out).2.1, (Box.c BC_5.out).2.2⟩ ?_
    clear hK K
    repeat (go_big_quiet_step (fail))
    refine wpQuiet_nil ?_
    intro K hK
    go_wp2_with fail
    refine (part_drawn R ao len cap p5 6 _ s r vl l _ RD_5.out (by omega) (by omega) HN.out.1 HN.out.2 HO.out.2.2 HO.out.1 HO.out.2.1).mono ?_
    rintro e V2 ⟨t, q, rfl, ht, hq, hrd, hg⟩
    have HM := Lib.hid (show _ ∧ _ from ⟨ht, hq⟩)
    clear ht hq
    have RD_6 := Lib.hid hrd
    have GR_6 := Lib.hid (grown_trans GR_5.out hg)
    have BA_6 := Lib.hid (Box.kept (row := some R) BA_5.out hg (by simp; omega))
    have BB_6 := Lib.hid (Box.kept (row := some R) BB_5.out hg (by simp; omega))
    have BC_6 := Lib.hid (Box.kept (row := some R) BC_5.out hg (by simp; omega))
    clear hrd hg
    clear RD_5 GR_5 BA_5 BB_5 BC_5
    go_wp2_with fail
    refine hK _ _ ⟨(Box.c BC_6.out).1, (Box.c BC_6.out).2.1, (Box.c BC_6.out).2.2⟩ ?_
    clear hK K
    have BZ := BA_6.out
    obtain ⟨z0, z1, z2⟩ := Box.c BZ
    have f0 := Box.free BZ 0
    have f1 := Box.free BZ 1
    have f2 := Box.free BZ 2
    clear BZ
    repeat (go_big_quiet_step (fail))
    refine wpQuiet_nil ?_
    intro K hK
    go_wp2_with fail
    clear z0 z1 z2 f0 f1 f2
    obtain ⟨W7, hW7⟩ : ∃ QZ, QZ = (((V2.setCell ⟨w.heap.size, 0, none⟩ (.int .i64 6)).setCell ⟨w.heap.size, 1, none⟩ (.string s)).setCell ⟨w.heap.size, 2, none⟩ (.string r)) := ⟨_, rfl⟩
    have RD_7 : Hid (Rd W7 R ao len cap p5) := by rw [hW7]; exact rd_sets RD_6.out (by omega)
    have GR_7 : Hid (w.grownBy W7 (some R)) := by rw [hW7]; exact grown_sets GR_6.out (by omega)
    have BA_7 : Hid (Box 24 W7 (w.heap.size) 6 s r) := by rw [hW7]; exact ((Box.set0 BA_6.out 6).set1 s).set2 r
    have BB_7 : Hid (Box 24 W7 (w.heap.size + 1) 0 ⟨#[]⟩ ⟨#[]⟩) := by rw [hW7]; exact box_others BB_6.out (by omega)
    have BC_7 : Hid (Box 24 W7 HC 6 s r) := by rw [hW7]; exact box_others BC_6.out (by omega)
    clear RD_6 GR_6 BA_6 BB_6 BC_6
    rw [← hW7]
    clear hW7
    refine hK _ _ ⟨(Box.c BC_7.out).1, (Box.c BC_7.out).2.1, (Box.c BC_7.out).2.2⟩ ?_
    clear hK K
    have BZ := BB_7.out
    obtain ⟨z0, z1, z2⟩ := Box.c BZ
    have f0 := Box.free BZ 0
    have f1 := Box.free BZ 1
    have f2 := Box.free BZ 2
    clear BZ
    repeat (go_big_quiet_step (fail))
    refine wpQuiet_nil ?_
    intro K hK
    go_wp2_with fail
    clear z0 z1 z2 f0 f1 f2
    obtain ⟨W8, hW8⟩ : ∃ QZ, QZ = (((W7.setCell ⟨w.heap.size + 1, 0, none⟩ (.int .i64 6)).setCell ⟨w.heap.size + 1, 1, none⟩ (.string t)).setCell ⟨w.heap.size + 1, 2, none⟩ (.string q)) := ⟨_, rfl⟩
    have RD_8 : Hid (Rd W8 R ao len cap p5) := by rw [hW8]; exact rd_sets RD_7.out (by omega)
    have GR_8 : Hid (w.grownBy W8 (some R)) := by rw [hW8]; exact grown_sets GR_7.out (by omega)
    have BA_8 : Hid (Box 24 W8 (w.heap.size) 6 s r) := by rw [hW8]; exact box_others BA_7.out (by omega)
    have BB_8 : Hid (Box 24 W8 (w.heap.size + 1) 6 t q) := by rw [hW8]; exact ((Box.set0 BB_7.out 6).set1 t).set2 q
    have BC_8 : Hid (Box 24 W8 HC 6 s r) := by rw [hW8]; exact box_others BC_7.out (by omega)
    clear RD_7 GR_7 BA_7 BB_7 BC_7
    rw [← hW8]
    clear hW8
    refine hK _ _ ⟨(Box.c BC_8.out).1, (Box.c BC_8.out).2.1, (Box.c BC_8.out).2.2⟩ ?_
    clear hK K
    repeat (go_big_quiet_step (fail))
    refine wpQuiet_nil ?_
    clear q0 q1 q2 hne
    have HF := Lib.hid (show _ ∧ _ from ⟨Box.c BA_8.out, Box.c BB_8.out⟩)
    have RES := Lib.hid (show _ ∧ _ from ⟨RD_8.out, GR_8.out⟩)
    clear RD_8 GR_8 BA_8 BB_8 BC_8
    go_wp2
    exact bodyPost_ret (v := .tuple #[.agg #[.int .i64 6, .string s, .string r], .agg #[.int .i64 6, .string t, .string q]]) (by simp [results, Tryz.results27, go_sem, HF.out.1.1, HF.out.1.2.1, HF.out.1.2.2, HF.out.2.1, HF.out.2.2.1, HF.out.2.2.2]) rfl ⟨6, s, r, 6, t, q, _, rfl, ⟨by omega, by omega, HN.out.1, HN.out.2⟩, ⟨by omega, by omega, HM.out.1, HM.out.2⟩, RES.out.1, by omega, RES.out.2⟩
  · have t1 : ((v : Int) == 0) = false := by simp; omega
    have t2 : ((v : Int) == 1) = false := by simp; omega
    clear hv23
    go_wp2_with fail
    refine (l1Pair_any R ao len cap (p + 1) _ RD_1.out (by omega)).mono ?_
    rintro e W2 ⟨N, s, r, M, t, q, p2, rfl, hN, hM, hrd, hp2, hg⟩
    have RD_2 := Lib.hid hrd
    have GR_2 := Lib.hid (grown_trans GR_1.out hg)
    have BA_2 := Lib.hid (Box.kept (row := some R) BA_1.out hg (by simp; omega))
    have BB_2 := Lib.hid (Box.kept (row := some R) BB_1.out hg (by simp; omega))
    clear hrd hg
    clear RD_1 GR_1 BA_1 BB_1
    have HN := Lib.hid (show _ ∧ _ from ⟨hN, hM⟩)
    clear hN hM
    obtain ⟨z0, z1, z2⟩ := Box.c BA_2.out
    have f0 := Box.free BA_2.out 0
    have f1 := Box.free BA_2.out 1
    have f2 := Box.free BA_2.out 2
    obtain ⟨y0, y1, y2⟩ := Box.c BB_2.out
    have g0 := Box.free BB_2.out 0
    have g1 := Box.free BB_2.out 1
    have g2 := Box.free BB_2.out 2
    obtain ⟨W3, hW3⟩ : ∃ QZ, QZ = (((W2.setCell ⟨w.heap.size, 0, none⟩ (.int .i64 N)).setCell ⟨w.heap.size, 1, none⟩ (.string s)).setCell ⟨w.heap.size, 2, none⟩ (.string r)) := ⟨_, rfl⟩
    have RD_3 : Hid (Rd W3 R ao len cap p2) := by rw [hW3]; exact rd_sets RD_2.out (by omega)
    have GR_3 : Hid (w.grownBy W3 (some R)) := by rw [hW3]; exact grown_sets GR_2.out (by omega)
    have BA_3 : Hid (Box 24 W3 (w.heap.size) N s r) := by rw [hW3]; exact ((Box.set0 BA_2.out N).set1 s).set2 r
    have BB_3 : Hid (Box 24 W3 (w.heap.size + 1) 0 ⟨#[]⟩ ⟨#[]⟩) := by rw [hW3]; exact box_others BB_2.out (by omega)
    clear RD_2 GR_2 BA_2 BB_2
    obtain ⟨W4, hW4⟩ : ∃ QZ, QZ = (((W3.setCell ⟨w.heap.size + 1, 0, none⟩ (.int .i64 M)).setCell ⟨w.heap.size + 1, 1, none⟩ (.string t)).setCell ⟨w.heap.size + 1, 2, none⟩ (.string q)) := ⟨_, rfl⟩
    have RD_4 : Hid (Rd W4 R ao len cap p2) := by rw [hW4]; exact rd_sets RD_3.out (by omega)
    have GR_4 : Hid (w.grownBy W4 (some R)) := by rw [hW4]; exact grown_sets GR_3.out (by omega)
    have BA_4 : Hid (Box 24 W4 (w.heap.size) N s r) := by rw [hW4]; exact box_others BA_3.out (by omega)
    have BB_4 : Hid (Box 24 W4 (w.heap.size + 1) M t q) := by rw [hW4]; exact ((Box.set0 BB_3.out M).set1 t).set2 q
    clear RD_3 GR_3 BA_3 BB_3
    have HF := Lib.hid (show _ ∧ _ from ⟨Box.c BA_4.out, Box.c BB_4.out⟩)
    have RES := Lib.hid (show _ ∧ _ from ⟨RD_4.out, GR_4.out⟩)
    clear RD_4 GR_4 BA_4 BB_4
    go_wp2
    rw [← hW3]
    rw [← hW4]
    clear hW3 hW4
    exact bodyPost_ret (v := .tuple #[.agg #[.int .i64 N, .string s, .string r], .agg #[.int .i64 M, .string t, .string q]]) (by simp [results, Tryz.results27, go_sem, HF.out.1.1, HF.out.1.2.1, HF.out.1.2.2, HF.out.2.1, HF.out.2.2.1, HF.out.2.2.2]) rfl ⟨N, s, r, M, t, q, _, rfl, HN.out.1, HN.out.2, RES.out.1, by omega, RES.out.2⟩
end Go.Proofs.YtpcnoiigbmiejaaGreatDoor.pair

/- The drawing of the arguments of SameColours, ColourRound, BothColours. -/
namespace Go.Proofs.YtpcnoiigbmiejaaGreatDoor.drawp
set_option linter.unusedVariables false
set_option linter.unusedSimpArgs false
open Go.ChangeShapes Go.WideShapes Go.ChangeAt Go.RowKit
open Go.Proofs.YtpcnoiigbmiejaaGreatDoor.lib Go.Proofs.YtpcnoiigbmiejaaGreatDoor.st Go.Proofs.YtpcnoiigbmiejaaGreatDoor.flow Go.Proofs.YtpcnoiigbmiejaaGreatDoor.chain Go.Proofs.YtpcnoiigbmiejaaGreatDoor.draw Go.Proofs.YtpcnoiigbmiejaaGreatDoor.shuf Go.Proofs.YtpcnoiigbmiejaaGreatDoor.pair
set_option maxHeartbeats 6400000 in
set_option maxRecDepth 100000 in
theorem drawSame_any (ao : Option Addr) (len cap : Nat) (w : World) (h : Byt w w.heap.size ao len) (hc : len ≤ cap) (hm : cap ≤ 9223372036854775807) :
    Calls Tryz.prog 7 #[.slice ao len cap] w (DrawnQ w) := by
  obtain ⟨W0, hW0⟩ : ∃ QZ, QZ = ((w.alloc (.cells #[.int .i64 0, .string ⟨#[]⟩, .string ⟨#[]⟩] 24)).alloc (.cells #[.int .i64 0, .string ⟨#[]⟩, .string ⟨#[]⟩] 24)) := ⟨_, rfl⟩
  have BA_0 : Hid (Box 24 W0 w.heap.size 0 ⟨#[]⟩ ⟨#[]⟩) := by rw [hW0]; exact (Box.new 24 w w.heap.size rfl 0 ⟨#[]⟩ ⟨#[]⟩).below ((Below.refl (w.heap.size + 1) _).alloc (by simp) _) (by omega)
  have BB_0 : Hid (Box 24 W0 (w.heap.size + 1) 0 ⟨#[]⟩ ⟨#[]⟩) := by rw [hW0]; exact Box.new 24 _ (w.heap.size + 1) (by simp) 0 ⟨#[]⟩ ⟨#[]⟩
  have BL_0 : Hid (Below w.heap.size w W0) := by rw [hW0]; exact ((Below.refl _ _).alloc (Nat.le_refl _) _).alloc (by simp) _
  have HBY : Hid (Byt W0 W0.heap.size ao len) := by rw [hW0]; exact Byt.up h (by simp; omega) (fun k hk => by rw [heap_alloc_old _ _ (by simp; omega)]; exact heap_alloc_old w _ hk)
  have hz0 : w.heap.size + 1 < W0.heap.size := BB_0.out.lt
  clear h
  go_enter Tryz.func7, Tryz.ntmps7
  go_wp2_with fail
  rw [← hW0]
  clear hW0
  refine (open_any ao len cap _ HBY.out hc hm).mono ?_
  rintro e W1 ⟨R, ao1, len1, cap1, rfl, hrd, hR, hb⟩
  have RD_1 := Lib.hid hrd
  have BL_1 := Lib.hid (BL_0.out.trans (hb.mono BL_0.out.size))
  have BA_1 := Lib.hid (BA_0.out.below hb BA_0.out.lt)
  have BB_1 := Lib.hid (BB_0.out.below hb BB_0.out.lt)
  clear hrd hb BA_0 BB_0 BL_0 HBY
  go_wp2_with fail
  refine (l8Pair_any R ao1 len1 cap1 0 _ RD_1.out (by omega)).mono ?_
  rintro e W2 ⟨N, s, r, M, t, q, p2, rfl, ⟨hN1, hN2, hs, hr⟩, ⟨hM1, hM2, ht, hq⟩, hrd, hp2, hg⟩
  have RD_2 := Lib.hid hrd
  have BL_2 := Lib.hid (BL_1.out.grown hg BL_1.out.size (fun k hk => by cases hk; omega))
  have BA_2 := Lib.hid (Box.kept (row := some R) BA_1.out hg (by simp; omega))
  have BB_2 := Lib.hid (Box.kept (row := some R) BB_1.out hg (by simp; omega))
  clear hrd hg
  clear BL_1 RD_1 BA_1 BB_1
  have hNN : 1 ≤ r.size ∧ r.size ≤ 64 := by rw [hr]; exact ⟨Nat.mul_le_mul hN1 hN1, Nat.mul_le_mul hN2 hN2⟩
  have hQ : t.size ≤ 100 ∧ q.size ≤ 100 ∧ (Lit.int .i64 (M : Int)).wf = true := by
    have h64 : M * M ≤ 8 * 8 := Nat.mul_le_mul hM2 hM2
    exact ⟨by omega, by omega, small_wf M (by omega)⟩
  have HQ := Lib.hid hQ
  have HS := Lib.hid hs
  clear hr ht hq hs hQ
  obtain ⟨HC, hHC⟩ : ∃ QZ, QZ = W2.heap.size := ⟨_, rfl⟩
  obtain ⟨HD, hHD⟩ : ∃ QZ, QZ = HC + 1 := ⟨_, rfl⟩
  have hlC : w.heap.size + 1 < HC := by rw [hHC]; exact BB_2.out.lt
  have hRC : R < HC := by rw [hHC]; exact RD_2.out.lt
  have hlD : HC < HD := by omega
  obtain ⟨W9, hW9⟩ : ∃ QZ, QZ = (W2.alloc (.cells #[.int .i64 N, .string s, .string r] 24)).alloc (.cells #[.int .i64 M, .string t, .string q] 24) := ⟨_, rfl⟩
  have RD_3 : Hid (Rd W9 R ao1 len1 cap1 p2) := by rw [hW9]; exact (RD_2.out.alloc _).alloc _
  have BL_3 : Hid (Below w.heap.size w W9) := by rw [hW9]; exact (BL_2.out.alloc BL_2.out.size _).alloc (BL_2.out.alloc BL_2.out.size _).size _
  have BA_3 : Hid (Box 24 W9 (w.heap.size) 0 ⟨#[]⟩ ⟨#[]⟩) := by rw [hW9]; exact BA_2.out.below (((Below.refl W2.heap.size W2).alloc (Nat.le_refl _) _).alloc (by simp) _) BA_2.out.lt
  have BB_3 : Hid (Box 24 W9 (w.heap.size + 1) 0 ⟨#[]⟩ ⟨#[]⟩) := by rw [hW9]; exact BB_2.out.below (((Below.refl W2.heap.size W2).alloc (Nat.le_refl _) _).alloc (by simp) _) BB_2.out.lt
  have BC_3 : Hid (Box 24 W9 HC N s r) := by rw [hW9, hHC]; exact (Box.new 24 W2 _ rfl N s r).below ((Below.refl (W2.heap.size + 1) _).alloc (by simp) _) (by omega)
  have BD_3 : Hid (Box 24 W9 HD M t q) := by rw [hW9, hHD, hHC]; exact Box.new 24 _ _ (by simp) M t q
  clear BL_2 RD_2 BA_2 BB_2
  have q0 : ∀ QQ : Wd (fun Q => Q.cell? ⟨HC, 0, none⟩ = some (.int .i64 N) ∧ Q.cell? ⟨HC, 1, none⟩ = some (.string s) ∧ Q.cell? ⟨HC, 2, none⟩ = some (.string r) ∧ Q.cell? ⟨HD, 0, none⟩ = some (.int .i64 M) ∧ Q.cell? ⟨HD, 1, none⟩ = some (.string t) ∧ Q.cell? ⟨HD, 2, none⟩ = some (.string q)), QQ.w.cell? ⟨HC, 0, none⟩ = some (.int .i64 N) := fun QQ => QQ.ok.1
  have q1 : ∀ QQ : Wd (fun Q => Q.cell? ⟨HC, 0, none⟩ = some (.int .i64 N) ∧ Q.cell? ⟨HC, 1, none⟩ = some (.string s) ∧ Q.cell? ⟨HC, 2, none⟩ = some (.string r) ∧ Q.cell? ⟨HD, 0, none⟩ = some (.int .i64 M) ∧ Q.cell? ⟨HD, 1, none⟩ = some (.string t) ∧ Q.cell? ⟨HD, 2, none⟩ = some (.string q)), QQ.w.cell? ⟨HC, 1, none⟩ = some (.string s) := fun QQ => QQ.ok.2.1
  have q2 : ∀ QQ : Wd (fun Q => Q.cell? ⟨HC, 0, none⟩ = some (.int .i64 N) ∧ Q.cell? ⟨HC, 1, none⟩ = some (.string s) ∧ Q.cell? ⟨HC, 2, none⟩ = some (.string r) ∧ Q.cell? ⟨HD, 0, none⟩ = some (.int .i64 M) ∧ Q.cell? ⟨HD, 1, none⟩ = some (.string t) ∧ Q.cell? ⟨HD, 2, none⟩ = some (.string q)), QQ.w.cell? ⟨HC, 2, none⟩ = some (.string r) := fun QQ => QQ.ok.2.2.1
  have q3 : ∀ QQ : Wd (fun Q => Q.cell? ⟨HC, 0, none⟩ = some (.int .i64 N) ∧ Q.cell? ⟨HC, 1, none⟩ = some (.string s) ∧ Q.cell? ⟨HC, 2, none⟩ = some (.string r) ∧ Q.cell? ⟨HD, 0, none⟩ = some (.int .i64 M) ∧ Q.cell? ⟨HD, 1, none⟩ = some (.string t) ∧ Q.cell? ⟨HD, 2, none⟩ = some (.string q)), QQ.w.cell? ⟨HD, 0, none⟩ = some (.int .i64 M) := fun QQ => QQ.ok.2.2.2.1
  have q4 : ∀ QQ : Wd (fun Q => Q.cell? ⟨HC, 0, none⟩ = some (.int .i64 N) ∧ Q.cell? ⟨HC, 1, none⟩ = some (.string s) ∧ Q.cell? ⟨HC, 2, none⟩ = some (.string r) ∧ Q.cell? ⟨HD, 0, none⟩ = some (.int .i64 M) ∧ Q.cell? ⟨HD, 1, none⟩ = some (.string t) ∧ Q.cell? ⟨HD, 2, none⟩ = some (.string q)), QQ.w.cell? ⟨HD, 1, none⟩ = some (.string t) := fun QQ => QQ.ok.2.2.2.2.1
  have q5 : ∀ QQ : Wd (fun Q => Q.cell? ⟨HC, 0, none⟩ = some (.int .i64 N) ∧ Q.cell? ⟨HC, 1, none⟩ = some (.string s) ∧ Q.cell? ⟨HC, 2, none⟩ = some (.string r) ∧ Q.cell? ⟨HD, 0, none⟩ = some (.int .i64 M) ∧ Q.cell? ⟨HD, 1, none⟩ = some (.string t) ∧ Q.cell? ⟨HD, 2, none⟩ = some (.string q)), QQ.w.cell? ⟨HD, 2, none⟩ = some (.string q) := fun QQ => QQ.ok.2.2.2.2.2
  have hne : Nonempty (Wd (fun Q => Q.cell? ⟨HC, 0, none⟩ = some (.int .i64 N) ∧ Q.cell? ⟨HC, 1, none⟩ = some (.string s) ∧ Q.cell? ⟨HC, 2, none⟩ = some (.string r) ∧ Q.cell? ⟨HD, 0, none⟩ = some (.int .i64 M) ∧ Q.cell? ⟨HD, 1, none⟩ = some (.string t) ∧ Q.cell? ⟨HD, 2, none⟩ = some (.string q))) := ⟨⟨W9, ⟨(Box.c BC_3.out).1, (Box.c BC_3.out).2.1, (Box.c BC_3.out).2.2, (Box.c BD_3.out).1, (Box.c BD_3.out).2.1, (Box.c BD_3.out).2.2⟩⟩⟩
  go_wp2_with fail
  rw [← hW9]
  rw [← hHC]
  rw [← hHD]
  clear hW9 hHC hHD
  refine chain (S := (fun Q => Q.cell? ⟨HC, 0, none⟩ = some (.int .i64 N) ∧ Q.cell? ⟨HC, 1, none⟩ = some (.string s) ∧ Q.cell? ⟨HC, 2, none⟩ = some (.string r) ∧ Q.cell? ⟨HD, 0, none⟩ = some (.int .i64 M) ∧ Q.cell? ⟨HD, 1, none⟩ = some (.string t) ∧ Q.cell? ⟨HD, 2, none⟩ = some (.string q))) [([true, true, false, true], 2), ([], 4), ([], 5)] [] (by kernel_rfl) (by kernel_rfl) (by kernel_rfl) ⟨(Box.c BC_3.out).1, (Box.c BC_3.out).2.1, (Box.c BC_3.out).2.2, (Box.c BD_3.out).1, (Box.c BD_3.out).2.1, (Box.c BD_3.out).2.2⟩ ?_
  simp only [wpSegs, pickB, List.dropLast_cons_cons, List.dropLast_singleton, List.getLast?_cons_cons, List.getLast?_singleton, List.toList_toArray, List.getElem?_toArray, List.getElem?_cons_succ, List.getElem?_cons_zero, Option.toList_some]
  have RD_4 : Hid (Rd W9.drew R ao1 len1 cap1 p2) := RD_3.out.drew
  have BL_4 := Lib.hid BL_3.out.drew
  have BA_4 : Hid (Box 24 W9.drew (w.heap.size) 0 ⟨#[]⟩ ⟨#[]⟩) := Box.drew BA_3.out
  have BB_4 : Hid (Box 24 W9.drew (w.heap.size + 1) 0 ⟨#[]⟩ ⟨#[]⟩) := Box.drew BB_3.out
  have BC_4 : Hid (Box 24 W9.drew HC N s r) := Box.drew BC_3.out
  have BD_4 : Hid (Box 24 W9.drew HD M t q) := Box.drew BD_3.out
  clear BL_3 RD_3 BA_3 BB_3 BC_3 BD_3
  repeat (go_big_quiet_step (fail))
  refine wpQuiet_nil ?_
  intro K hK
  go_wp2_with fail
  refine (l1Bad_any R ao1 len1 cap1 p2 N s r _ RD_4.out (by omega) hN2 HS.out hNN.1 hNN.2).mono ?_
  rintro e V1 ⟨n, s2, r2, p5, rfl, hnw, hs2, hr2, hrd, hp5, hg⟩
  have HB := Lib.hid (show _ ∧ _ ∧ _ from ⟨hnw, hs2, hr2⟩)
  clear hnw hs2 hr2
  have RD_5 := Lib.hid hrd
  have BL_5 := Lib.hid (BL_4.out.grown hg BL_4.out.size (fun k hk => by cases hk; omega))
  have BA_5 := Lib.hid (Box.kept (row := some R) BA_4.out hg (by simp; omega))
  have BB_5 := Lib.hid (Box.kept (row := some R) BB_4.out hg (by simp; omega))
  have BC_5 := Lib.hid (Box.kept (row := some R) BC_4.out hg (by simp; omega))
  have BD_5 := Lib.hid (Box.kept (row := some R) BD_4.out hg (by simp; omega))
  clear hrd hg
  clear BL_4 RD_4 BA_4 BB_4 BC_4 BD_4
  go_wp2_with fail
  refine hK _ _ ⟨(Box.c BC_5.out).1, (Box.c BC_5.out).2.1, (Box.c BC_5.out).2.2, (Box.c BD_5.out).1, (Box.c BD_5.out).2.1, (Box.c BD_5.out).2.2⟩ ?_
  clear hK K
  have BZ := BA_5.out
  obtain ⟨z0, z1, z2⟩ := Box.c BZ
  have f0 := Box.free BZ 0
  have f1 := Box.free BZ 1
  have f2 := Box.free BZ 2
  clear BZ
  repeat (go_big_quiet_step (fail))
  refine wpQuiet_nil ?_
  intro K hK
  go_wp2_with fail
  clear z0 z1 z2 f0 f1 f2
  obtain ⟨W6, hW6⟩ : ∃ QZ, QZ = (((V1.setCell ⟨w.heap.size, 0, none⟩ (.int .i64 n)).setCell ⟨w.heap.size, 1, none⟩ (.string s2)).setCell ⟨w.heap.size, 2, none⟩ (.string r2)) := ⟨_, rfl⟩
  have BL_6 : Hid (Below w.heap.size w W6) := by rw [hW6]; exact Below.setCell (Below.setCell (Below.setCell BL_5.out (by simp) _) (by simp) _) (by simp) _
  have BA_6 : Hid (Box 24 W6 (w.heap.size) n s2 r2) := by rw [hW6]; exact ((Box.set0 BA_5.out n).set1 s2).set2 r2
  have BB_6 : Hid (Box 24 W6 (w.heap.size + 1) 0 ⟨#[]⟩ ⟨#[]⟩) := by rw [hW6]; exact box_others BB_5.out (by omega)
  have BC_6 : Hid (Box 24 W6 HC N s r) := by rw [hW6]; exact box_others BC_5.out (by omega)
  have BD_6 : Hid (Box 24 W6 HD M t q) := by rw [hW6]; exact box_others BD_5.out (by omega)
  clear BL_5 RD_5 BA_5 BB_5 BC_5 BD_5
  rw [← hW6]
  clear hW6
  refine hK _ _ ⟨(Box.c BC_6.out).1, (Box.c BC_6.out).2.1, (Box.c BC_6.out).2.2, (Box.c BD_6.out).1, (Box.c BD_6.out).2.1, (Box.c BD_6.out).2.2⟩ ?_
  clear hK K
  have BZ := BB_6.out
  obtain ⟨z0, z1, z2⟩ := Box.c BZ
  have f0 := Box.free BZ 0
  have f1 := Box.free BZ 1
  have f2 := Box.free BZ 2
  clear BZ
  repeat (go_big_quiet_step (fail))
  refine wpQuiet_nil ?_
  intro K hK
  go_wp2_with fail
  clear z0 z1 z2 f0 f1 f2
  obtain ⟨W7, hW7⟩ : ∃ QZ, QZ = (((W6.setCell ⟨w.heap.size + 1, 0, none⟩ (.int .i64 M)).setCell ⟨w.heap.size + 1, 1, none⟩ (.string t)).setCell ⟨w.heap.size + 1, 2, none⟩ (.string q)) := ⟨_, rfl⟩
  have BL_7 : Hid (Below w.heap.size w W7) := by rw [hW7]; exact Below.setCell (Below.setCell (Below.setCell BL_6.out (by simp) _) (by simp) _) (by simp) _
  have BA_7 : Hid (Box 24 W7 (w.heap.size) n s2 r2) := by rw [hW7]; exact box_others BA_6.out (by omega)
  have BB_7 : Hid (Box 24 W7 (w.heap.size + 1) M t q) := by rw [hW7]; exact ((Box.set0 BB_6.out M).set1 t).set2 q
  have BC_7 : Hid (Box 24 W7 HC N s r) := by rw [hW7]; exact box_others BC_6.out (by omega)
  have BD_7 : Hid (Box 24 W7 HD M t q) := by rw [hW7]; exact box_others BD_6.out (by omega)
  clear BL_6 BA_6 BB_6 BC_6 BD_6
  rw [← hW7]
  clear hW7
  refine hK _ _ ⟨(Box.c BC_7.out).1, (Box.c BC_7.out).2.1, (Box.c BC_7.out).2.2, (Box.c BD_7.out).1, (Box.c BD_7.out).2.1, (Box.c BD_7.out).2.2⟩ ?_
  clear hK K
  repeat (go_big_quiet_step (fail))
  refine wpQuiet_nil ?_
  clear q0 q1 q2 q3 q4 q5 hne
  have HF := Lib.hid (show _ ∧ _ from ⟨Box.c BA_7.out, Box.c BB_7.out⟩)
  have RES := BL_7
  clear BL_7 BA_7 BB_7 BC_7 BD_7
  go_wp2
  exact bodyPost_ret (v := .tuple #[.agg #[.int .i64 n, .string s2, .string r2], .agg #[.int .i64 M, .string t, .string q]]) (by simp [results, Tryz.results7, go_sem, HF.out.1.1, HF.out.1.2.1, HF.out.1.2.2, HF.out.2.1, HF.out.2.2.1, HF.out.2.2.2]) rfl ⟨n, s2, r2, M, t, q, rfl, HB.out.1, HB.out.2.1, HB.out.2.2, HQ.out.2.2, HQ.out.1, HQ.out.2.1, RES.out⟩

end Go.Proofs.YtpcnoiigbmiejaaGreatDoor.drawp
