/- holds of the holder, for two elements. -/
import Derived.Test.YtpcnoiigbmiejaaDoorPk6
import Derived.Laws.CopyRow
import Derived.Laws.CopyOwn
namespace Go.Proofs.YtpcnoiigbmiejaaDoor.ist
set_option linter.unusedVariables false
set_option linter.unusedSimpArgs false
open Go.ChangeShapes Go.WideShapes Go.ChangeAt Go.RowKit
open Go.Proofs.YtpcnoiigbmiejaaDoor.lib Go.Proofs.YtpcnoiigbmiejaaDoor.st Go.Proofs.YtpcnoiigbmiejaaDoor.flow Go.Proofs.YtpcnoiigbmiejaaDoor.chain Go.Proofs.YtpcnoiigbmiejaaDoor.base Go.Proofs.YtpcnoiigbmiejaaDoor.make Go.Proofs.YtpcnoiigbmiejaaDoor.fm Go.Proofs.YtpcnoiigbmiejaaDoor.fmt Go.Proofs.YtpcnoiigbmiejaaDoor.sat Go.Proofs.YtpcnoiigbmiejaaDoor.game Go.Proofs.YtpcnoiigbmiejaaDoor.keys Go.Proofs.YtpcnoiigbmiejaaDoor.mapr Go.Proofs.YtpcnoiigbmiejaaDoor.tab Go.Proofs.YtpcnoiigbmiejaaDoor.hold

/-- two elements for the first two variables -/
def e2 (x y : Nat) (u : Nat) : Nat := if u = 0 then x else if u = 1 then y else 0
theorem cpTwo (ty : TypeId) (g b cap x y : Nat) (w : World) (T : TypeId) (hg : w.heap[g]? = some (.cells #[.int .i64 0, .int .i64 0, .int .i64 0, .int .i64 0] T (0, 0))) (h0 : w.cell? ⟨b, 0, none⟩ = some (.int .i64 (x : Nat))) (h1 : w.cell? ⟨b, 1, none⟩ = some (.int .i64 (y : Nat))) :
    (Builtin.copy_ #[32, 32] ty #[.slice (some ⟨g, 0, none⟩) 4 4, .slice (some ⟨b, 0, none⟩) 2 cap]).run Tryd.prog w = .ok (goInt 2) (w.setRow g #[.int .i64 (x : Nat), .int .i64 (y : Nat), .int .i64 0, .int .i64 0]) := by
  have hs : (Tryd.prog.info? 3).map (·.size) = some 1 := by kernel_rfl
  exact run_copy_row Tryd.prog w _ _ ty 3 g 0 4 4 ⟨b, 0, none⟩ 2 cap _ T [.int .i64 (x : Nat), .int .i64 (y : Nat)] Tryd.underlying32 hs hg rfl (by
    intro j v hj
    match j, hj with
    | 0, hj => simp at hj; subst hj; simpa [Addr.add] using h0
    | 1, hj => simp at hj; subst hj; simpa [Addr.add] using h1) (by simp) (by intro v hv; simp at hv; rcases hv with rfl | rfl <;> rfl)
section
variable {N : Nat} {s r : ByteArray} {w0 : World} {m0 h0 : Nat}
set_option maxHeartbeats 1600000 in
set_option maxRecDepth 100000 in
theorem holds_two (hN : N ≤ 8) (hs : s.size = N) (hr : r.size = N * N) {a : Fm} (hk : a.ok) {H : Nat} {D : Nat → Prop} {W : World} (ht : Tree 84 w0 a H) (hfr : ∀ u, 2 ≤ u → u < 4 → inS a.free u = false) (hst : St N s r w0 m0 h0 (gob.gr N s r) W D)
    (b cap x y : Nat) (hx : x < N) (hy : y < N) (c0 : W.cell? ⟨b, 0, none⟩ = some (.int .i64 (x : Nat))) (c1 : W.cell? ⟨b, 1, none⟩ = some (.int .i64 (y : Nat))) :
    Calls Tryd.prog 90 #[.pointer (some ⟨h0, 0, none⟩), .pointer (some ⟨H, 0, none⟩), .slice (some ⟨b, 0, none⟩) 2 cap] W (Post N s r w0 m0 h0 (gob.gr N s r) W D (sat (gob.gr N s r) a (e2 x y))) := by
  obtain ⟨W1, hW1⟩ : ∃ W1, W1 = W.alloc (.cells #[.int .i64 0, .int .i64 0, .int .i64 0, .int .i64 0] 131) := ⟨_, rfl⟩
  obtain ⟨W2, hW2⟩ : ∃ W2, W2 = W1.setRow W.heap.size #[.int .i64 (x : Nat), .int .i64 (y : Nat), .int .i64 0, .int .i64 0] := ⟨_, rfl⟩
  have hb1 : Below W.heap.size W W1 := by rw [hW1]; exact (Below.refl _ _).alloc (Nat.le_refl _) _
  have hb2 : Below W.heap.size W W2 := by rw [hW2]; exact below_setRow hb1 (Nat.le_refl _) _
  have hg1 : W1.heap[W.heap.size]? = some (.cells #[.int .i64 0, .int .i64 0, .int .i64 0, .int .i64 0] 131 (0, 0)) := by rw [hW1]; exact heap_alloc_new W _
  have d0 : W2.cell? ⟨W.heap.size, 0, none⟩ = some (.int .i64 (x : Nat)) := by rw [hW2, cell_setRow_same W1 W.heap.size 0 _ _ _ _ hg1]; rfl
  have d1 : W2.cell? ⟨W.heap.size, 1, none⟩ = some (.int .i64 (y : Nat)) := by rw [hW2, cell_setRow_same W1 W.heap.size 1 _ _ _ _ hg1]; rfl
  have d2 : W2.cell? ⟨W.heap.size, 2, none⟩ = some (.int .i64 0) := by rw [hW2, cell_setRow_same W1 W.heap.size 2 _ _ _ _ hg1]; rfl
  have d3 : W2.cell? ⟨W.heap.size, 3, none⟩ = some (.int .i64 0) := by rw [hW2, cell_setRow_same W1 W.heap.size 3 _ _ _ _ hg1]; rfl
  have k0 : W1.cell? ⟨b, 0, none⟩ = some (.int .i64 (x : Nat)) := by rw [hb1.cell (World.block_lt_of_cell? W ⟨b, 0, none⟩ c0)]; exact c0
  have k1 : W1.cell? ⟨b, 1, none⟩ = some (.int .i64 (y : Nat)) := by rw [hb1.cell (World.block_lt_of_cell? W ⟨b, 1, none⟩ c1)]; exact c1
  have hcp : ∀ ty, (Builtin.copy_ #[32, 32] ty #[.slice (some ⟨W.heap.size, 0, none⟩) 4 4, .slice (some ⟨b, 0, none⟩) 2 cap]).run Tryd.prog W1 = .ok (goInt 2) W2 := fun ty => by rw [hW2]; exact cpTwo ty _ b cap x y W1 _ hg1 k0 k1
  rw [hW1] at hcp
  have HB2 := Lib.hid hb2
  have HS2 := Lib.hid (hst.below hb2 (Nat.le_refl _))
  have hfa : ∀ u, u < 4 → inS a.free u = true → e2 x y u < (gob.gr N s r).n := fun u hu h => by
    show e2 x y u < N
    unfold e2
    split
    · exact hx
    · split
      · exact hy
      · rw [hfr u (by omega) hu] at h; cases h
  have h8 : V8 (e2 x y) := fun u _ => by
    unfold e2
    split
    · omega
    · split <;> omega
  have HC := Lib.hid (tru (w0 := w0) (m0 := m0) (h0 := h0) hN hs hr a hk H D W2 (e2 x y) ht h8 hfa HS2.out)
  clear hst hb1 hb2 hW1 hW2 hfa ht hg1 k0 k1 c0 c1 h8
  go_enter Tryd.func90, Tryd.ntmps90
  go_wp2_with fail
  refine Calls.mono (show Calls Tryd.prog 136 #[.pointer (some ⟨h0, 0, none⟩), .pointer (some ⟨H, 0, none⟩), .agg #[.int .i64 (x : Nat), .int .i64 (y : Nat), .int .i64 0, .int .i64 0]] W2 _ from HC.out) ?_
  rintro e1 W3 ⟨D2, rfl, hs2, ho2, hg2⟩
  have hz := HB2.out.size
  have HR : Hid (Post N s r w0 m0 h0 (gob.gr N s r) W D (sat (gob.gr N s r) a (e2 x y)) (.returned (.bool (sat (gob.gr N s r) a (e2 x y)))) W3) :=
    ⟨D2, rfl, hs2, (Out.of HB2.out (Nat.le_refl _)).trans ho2 fun k hk => .inl hk, fun k hk => by
      rcases hg2 k hk with h | h
      · exact .inl h
      · exact .inr (by omega)⟩
  clear hs2 ho2 hg2 hz HC d0 d1 d2 d3 hcp
  go_wp2
  go_ret
  exact HR.out
end
end Go.Proofs.YtpcnoiigbmiejaaDoor.ist
