/- partOf: the structure of some elements, in the program. -/
import Derived.Test.YtpcnoiigbmiejaaDoorPkO
import Derived.Test.YtpcnoiigbmiejaaDoorMake
namespace Go.Proofs.YtpcnoiigbmiejaaDoor.part
set_option linter.unusedVariables false
set_option linter.unusedSimpArgs false
open Go.ChangeShapes Go.WideShapes Go.ChangeAt Go.RowKit
open Go.Proofs.YtpcnoiigbmiejaaDoor.lib Go.Proofs.YtpcnoiigbmiejaaDoor.st Go.Proofs.YtpcnoiigbmiejaaDoor.base Go.Proofs.YtpcnoiigbmiejaaDoor.make Go.Proofs.YtpcnoiigbmiejaaDoor.flow Go.Proofs.YtpcnoiigbmiejaaDoor.fits

/-- the bits of the part -/
def pS (sa : ByteArray) (l : List Nat) (x : Nat) : Bool := bitAt sa (l.getD x 0)
def pR (n : Nat) (ra : ByteArray) (l : List Nat) (x y : Nat) : Bool := bitAt ra (l.getD x 0 * n + l.getD y 0)
/-- where a list lies that is not empty -/
theorem lies {w : World} {ao : Option Addr} {m cap : Nat} {l : List Nat} (h : Reads w (.slice ao m cap) (ints l)) (hm : m = l.length) (h1 : 1 ≤ m) :
    ∃ b off, ao = some ⟨b, off, none⟩ ∧ b < w.heap.size ∧ ∀ i, i < m → w.cell? ⟨b, off + i, none⟩ = some (.int .i64 (l.getD i 0 : Nat)) := by
  obtain ⟨ao', c', hv', hc', _⟩ := h
  simp only [Value.slice.injEq] at hv'
  rw [ints_len] at hc'
  rcases hc' with h | ⟨b, off, he, hc⟩
  · have h2 : (ints l).length = 0 := by rw [h]; rfl
    rw [ints_len] at h2; omega
  · have key : ∀ i, i < m → w.cell? ⟨b, off + i, none⟩ = some (.int .i64 (l.getD i 0 : Nat)) := fun i hi => by rw [hc i (by omega), ints_get]
    exact ⟨b, off, hv'.1.trans he, World.block_lt_of_cell? w _ (key 0 (by omega)), key⟩
theorem getD_lt {l : List Nat} {n i : Nat} (h : ∀ y, y ∈ l → y < n) (hi : i < l.length) : l.getD i 0 < n := by
  rw [List.getD_eq_getElem?_getD, List.getElem?_eq_getElem hi]; exact h _ (List.getElem_mem hi)

set_option maxHeartbeats 1600000 in
theorem partSet_any (n : Nat) (sa ra : ByteArray) (l : List Nat) (Ha Hl : Nat) (ao : Option Addr) (m cap x : Nat) (w : World) (hm : m = l.length) (ha : Box 24 w Ha n sa ra) (hc : w.cell? ⟨Hl, 0, none⟩ = some (.slice ao m cap))
    (hr : Reads w (.slice ao m cap) (ints l)) (hx : x < m) (hl : ∀ y, y ∈ l → y < n) (hsa : sa.size = n) (hn : n ≤ 8) :
    Calls Tryd.prog 189 #[.int .i64 x, .pointer (some ⟨Ha, 0, none⟩), .pointer (some ⟨Hl, 0, none⟩)] w fun e w' => e = .returned (.bool (pS sa l x)) ∧ Below w.heap.size w w' := by
  obtain ⟨b, off, rfl, hb, hcell⟩ := lies hr hm (by omega)
  have hcx := hcell x hx
  have hyn : l.getD x 0 < n := getD_lt hl (by omega)
  have HY : Hid (pS sa l x = bitAt sa (l.getD x 0)) := rfl
  generalize l.getD x 0 = y at hcx hyn HY
  have C : Hid (∀ W, Calls Tryd.prog 52 #[.agg #[.int .i64 n, .string sa, .string ra], .int .i64 y] W fun e w' => e = .returned (.bool (pS sa l x)) ∧ Below W.heap.size W w') := fun W => by rw [HY.out]; exact inSet_any n sa ra y W (by omega) (by omega)
  have ca0 : ∀ X : Wd (fun W => Hid (Below w.heap.size w W)), X.w.cell? ⟨Ha, 0, none⟩ = some (.int .i64 n) := fun X => (ha.below X.ok.out ha.lt).c.1
  have ca1 : ∀ X : Wd (fun W => Hid (Below w.heap.size w W)), X.w.cell? ⟨Ha, 1, none⟩ = some (.string sa) := fun X => (ha.below X.ok.out ha.lt).c.2.1
  have ca2 : ∀ X : Wd (fun W => Hid (Below w.heap.size w W)), X.w.cell? ⟨Ha, 2, none⟩ = some (.string ra) := fun X => (ha.below X.ok.out ha.lt).c.2.2
  have cl : ∀ X : Wd (fun W => Hid (Below w.heap.size w W)), X.w.cell? ⟨Hl, 0, none⟩ = some (.slice (some ⟨b, off, none⟩) m cap) := fun X => keepCell X.ok.out hc
  have cx : ∀ X : Wd (fun W => Hid (Below w.heap.size w W)), X.w.cell? ⟨b, off + x, none⟩ = some (.int .i64 y) := fun X => keepCell X.ok.out hcx
  have hne : Nonempty (Wd (fun W => Hid (Below w.heap.size w W))) := ⟨⟨w, Lib.hid (Below.refl _ _)⟩⟩
  clear ha hc hr hl hm hcell hcx hsa
  go_enter Tryd.func189, Tryd.ntmps189
  go_wp2_with fail
  refine flow_last (S := (fun W => Hid (Below w.heap.size w W))) (by kernel_rfl) (by kernel_rfl) (by kernel_rfl) (by kernel_rfl) (by kernel_rfl) (Lib.hid (Below.refl _ _).drew) ?_
  simp only [List.dropLast_cons_cons, List.dropLast_singleton, List.getLast?_cons_cons, List.getLast?_singleton, Option.toList_some]
  repeat (go_big_quiet_step (first | ((with_reducible refine (C.out _).mono ?_); rintro e W ⟨rfl, hb⟩; exact ⟨rfl, Wd.on (Wd.ok _) hb⟩)))
  refine wpQuiet_nil ?_
  rintro _ ⟨X, rfl⟩
  have HX := X.ok.out
  go_wp2
  go_ret
  exact ⟨rfl, HX⟩

set_option maxHeartbeats 1600000 in
theorem partRel_any (n : Nat) (sa ra : ByteArray) (l : List Nat) (Ha Hl : Nat) (ao : Option Addr) (m cap x z : Nat) (w : World) (hm : m = l.length) (ha : Box 24 w Ha n sa ra) (hc : w.cell? ⟨Hl, 0, none⟩ = some (.slice ao m cap))
    (hr : Reads w (.slice ao m cap) (ints l)) (hx : x < m) (hz : z < m) (hl : ∀ y, y ∈ l → y < n) (hra : ra.size = n * n) (hn : n ≤ 8) :
    Calls Tryd.prog 190 #[.int .i64 x, .int .i64 z, .pointer (some ⟨Ha, 0, none⟩), .pointer (some ⟨Hl, 0, none⟩)] w fun e w' => e = .returned (.bool (pR n ra l x z)) ∧ Below w.heap.size w w' := by
  obtain ⟨b, off, rfl, hb, hcell⟩ := lies hr hm (by omega)
  have hcx := hcell x hx
  have hcz := hcell z hz
  have hyn : l.getD x 0 < n := getD_lt hl (by omega)
  have hvn : l.getD z 0 < n := getD_lt hl (by omega)
  have HY : Hid (pR n ra l x z = bitAt ra (l.getD x 0 * n + l.getD z 0)) := rfl
  generalize l.getD x 0 = y at hcx hyn HY
  generalize l.getD z 0 = v at hcz hvn HY
  have C : Hid (∀ W, Calls Tryd.prog 55 #[.agg #[.int .i64 n, .string sa, .string ra], .int .i64 y, .int .i64 v] W fun e w' => e = .returned (.bool (pR n ra l x z)) ∧ Below W.heap.size W w') := fun W => by rw [HY.out]; exact inRel_any n sa ra y v W hyn hvn hn hra
  have ca0 : ∀ X : Wd (fun W => Hid (Below w.heap.size w W)), X.w.cell? ⟨Ha, 0, none⟩ = some (.int .i64 n) := fun X => (ha.below X.ok.out ha.lt).c.1
  have ca1 : ∀ X : Wd (fun W => Hid (Below w.heap.size w W)), X.w.cell? ⟨Ha, 1, none⟩ = some (.string sa) := fun X => (ha.below X.ok.out ha.lt).c.2.1
  have ca2 : ∀ X : Wd (fun W => Hid (Below w.heap.size w W)), X.w.cell? ⟨Ha, 2, none⟩ = some (.string ra) := fun X => (ha.below X.ok.out ha.lt).c.2.2
  have cl : ∀ X : Wd (fun W => Hid (Below w.heap.size w W)), X.w.cell? ⟨Hl, 0, none⟩ = some (.slice (some ⟨b, off, none⟩) m cap) := fun X => keepCell X.ok.out hc
  have cx : ∀ X : Wd (fun W => Hid (Below w.heap.size w W)), X.w.cell? ⟨b, off + x, none⟩ = some (.int .i64 y) := fun X => keepCell X.ok.out hcx
  have cz : ∀ X : Wd (fun W => Hid (Below w.heap.size w W)), X.w.cell? ⟨b, off + z, none⟩ = some (.int .i64 v) := fun X => keepCell X.ok.out hcz
  have hne : Nonempty (Wd (fun W => Hid (Below w.heap.size w W))) := ⟨⟨w, Lib.hid (Below.refl _ _)⟩⟩
  clear ha hc hr hl hm hcell hcx hcz hra
  go_enter Tryd.func190, Tryd.ntmps190
  go_wp2_with fail
  refine flow_last (S := (fun W => Hid (Below w.heap.size w W))) (by kernel_rfl) (by kernel_rfl) (by kernel_rfl) (by kernel_rfl) (by kernel_rfl) (Lib.hid (Below.refl _ _).drew) ?_
  simp only [List.dropLast_cons_cons, List.dropLast_singleton, List.getLast?_cons_cons, List.getLast?_singleton, Option.toList_some]
  repeat (go_big_quiet_step (first | ((with_reducible refine (C.out _).mono ?_); rintro e W ⟨rfl, hb⟩; exact ⟨rfl, Wd.on (Wd.ok _) hb⟩)))
  refine wpQuiet_nil ?_
  rintro _ ⟨X, rfl⟩
  have HX := X.ok.out
  go_wp2
  go_ret
  exact ⟨rfl, HX⟩

set_option maxHeartbeats 1600000 in
theorem partOf_any (n : Nat) (sa ra : ByteArray) (l : List Nat) (v : Value) (w : World) (hr : Reads w v (ints l)) (hl : ∀ y, y ∈ l → y < n) (h8 : l.length ≤ 8) (hsa : sa.size = n) (hra : ra.size = n * n) (hn : n ≤ 8) :
    Calls Tryd.prog 159 #[.agg #[.int .i64 n, .string sa, .string ra], v] w fun e w' => e = .returned (.agg #[.int .i64 l.length, .string (bS (pS sa l) l.length), .string (bR (pR n ra l) l.length l.length)]) ∧ Below w.heap.size w w' := by
  obtain ⟨ao, cap, rfl⟩ := hr.len
  rw [ints_len] at hr ⊢
  obtain ⟨m, hm⟩ : ∃ m, m = l.length := ⟨_, rfl⟩
  rw [← hm] at hr h8 ⊢
  obtain ⟨W1, hW1⟩ : ∃ W1, W1 = w.alloc (.cells #[.int .i64 n, .string sa, .string ra] 24) := ⟨_, rfl⟩
  have z1 : W1.heap.size = w.heap.size + 1 := by rw [hW1]; simp
  have A1 : Below w.heap.size w W1 := by rw [hW1]; exact (Below.refl _ _).alloc (Nat.le_refl _) _
  have B1 : Box 24 W1 w.heap.size n sa ra := by rw [hW1]; exact Box.new _ w _ rfl _ _ _
  obtain ⟨W2, hW2⟩ : ∃ W2, W2 = W1.alloc (.cells #[.slice ao m cap] 32) := ⟨_, rfl⟩
  have z2 : W2.heap.size = w.heap.size + 2 := by rw [hW2]; simp [z1]
  have A2 : Below W1.heap.size W1 W2 := by rw [hW2]; exact (Below.refl _ _).alloc (Nat.le_refl _) _
  have C2 : W2.cell? ⟨w.heap.size + 1, 0, none⟩ = some (.slice ao m cap) := by
    have h := heap_alloc_new W1 (.cells #[.slice ao m cap] 32)
    rw [z1] at h
    simp [World.cell?, hW2, h]
  obtain ⟨W3, hW3⟩ : ∃ W3, W3 = W2.alloc (.cells #[.int .i64 0, .string ⟨#[]⟩, .string ⟨#[]⟩] 24) := ⟨_, rfl⟩
  have A3 : Below W2.heap.size W2 W3 := by rw [hW3]; exact (Below.refl _ _).alloc (Nat.le_refl _) _
  have B3 : Box 24 W3 (w.heap.size + 2) 0 ⟨#[]⟩ ⟨#[]⟩ := by rw [hW3]; exact Box.new _ W2 _ z2 _ _ _
  have A13 : Below W1.heap.size W1 W3 := A2.trans (A3.mono A2.size)
  have A03 := A1.trans (A13.mono (by omega))
  have BA := Lib.hid (B1.below A13 B1.lt)
  have CL := Lib.hid (keepCell A3 C2)
  have RD := Lib.hid (hr.below A03 (Nat.le_refl _))
  have HA := Lib.hid A03
  have HB3 := Lib.hid B3
  have HH := Lib.hid (show _ ∧ _ ∧ _ ∧ _ from ⟨hm, hl, hsa, hra⟩)
  have HZ : Hid (W3.heap.size = w.heap.size + 3) := by rw [Hid, hW3]; simp [z2]
  have c2 := CL.out
  have HW : Hid (W3 = ((w.alloc (.cells #[.int .i64 n, .string sa, .string ra] 24)).alloc (.cells #[.slice ao m cap] 32)).alloc (.cells #[.int .i64 0, .string ⟨#[]⟩, .string ⟨#[]⟩] 24)) := by rw [Hid, hW3, hW2, hW1]
  clear hW1 hW2 hW3 z1 z2 A1 A2 A3 B1 C2 B3 A13 A03 hm hl hsa hra hr c2
  go_enter Tryd.func159, Tryd.ntmps159
  go_wp2_with fail
  rw [← HW.out]
  refine (make_any m h8 189 190 #[.pointer (some ⟨w.heap.size, 0, none⟩), .pointer (some ⟨w.heap.size + 1, 0, none⟩)] #[.pointer (some ⟨w.heap.size, 0, none⟩), .pointer (some ⟨w.heap.size + 1, 0, none⟩)] (pS sa l) (pR n ra l) W3
    (enters_of Tryd.func189 (by kernel_rfl) rfl) (enters_of Tryd.func190 (by kernel_rfl) rfl)
    (fun W hW x hx => partSet_any n sa ra l w.heap.size (w.heap.size + 1) ao m cap x W HH.out.1 (BA.out.below hW BA.out.lt) (keepCell hW CL.out) (RD.out.below hW (Nat.le_refl _)) hx HH.out.2.1 HH.out.2.2.1 hn)
    (fun W hW x z hx hz => partRel_any n sa ra l w.heap.size (w.heap.size + 1) ao m cap x z W HH.out.1 (BA.out.below hW BA.out.lt) (keepCell hW CL.out) (RD.out.below hW (Nat.le_refl _)) hx hz HH.out.2.1 HH.out.2.2.2 hn)).mono ?_
  rintro e W4 ⟨rfl, hb⟩
  have B4 := HB3.out.below hb HB3.out.lt
  obtain ⟨z0, z1, z2⟩ := B4.c
  have g0 := B4.free 0
  have g1 := B4.free 1
  have g2 := B4.free 2
  have HF := Lib.hid (((B4.set0 m).set1 (bS (pS sa l) m)).set2 (bR (pR n ra l) m m)).c
  have R : Hid (Below w.heap.size w (((W4.setCell ⟨w.heap.size + 2, 0, none⟩ (.int .i64 m)).setCell ⟨w.heap.size + 2, 1, none⟩ (.string (bS (pS sa l) m))).setCell ⟨w.heap.size + 2, 2, none⟩ (.string (bR (pR n ra l) m m)))) :=
    (((HA.out.trans (hb.mono HA.out.size)).setCell (by show w.heap.size ≤ w.heap.size + 2; omega) _).setCell (by show w.heap.size ≤ w.heap.size + 2; omega) _).setCell (by show w.heap.size ≤ w.heap.size + 2; omega) _
  clear B4 hb
  go_wp2
  exact bodyPost_ret (v := .agg #[.int .i64 m, .string (bS (pS sa l) m), .string (bR (pR n ra l) m m)]) (by simp [results, Tryd.results159, go_sem, HF.out.1, HF.out.2.1, HF.out.2.2]) rfl ⟨rfl, R.out⟩
end Go.Proofs.YtpcnoiigbmiejaaDoor.part
