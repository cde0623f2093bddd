/- The drawing of two structures that are sometimes not valid: l10Pair, DrawOrderedSum, DrawDisjointSum, DrawProductOf. -/
import Derived.Test.YtpcnoiigbmiejaaDoorPkD
namespace Go.Proofs.YtpcnoiigbmiejaaDoor.draw
set_option linter.unusedVariables false
set_option linter.unusedSimpArgs false
open Go.ChangeShapes Go.WideShapes Go.ChangeAt Go.RowKit
open Go.Proofs.YtpcnoiigbmiejaaDoor.lib Go.Proofs.YtpcnoiigbmiejaaDoor.st Go.Proofs.YtpcnoiigbmiejaaDoor.flow Go.Proofs.YtpcnoiigbmiejaaDoor.chain

theorem box_other {T : TypeId} {w : World} {H k j : Nat} {n : Int} {s r : ByteArray} {u : Value} (h : Box T w H n s r) (hne : H ≠ k) : Box T (w.setCell ⟨k, j, none⟩ u) H n s r :=
  Box.kept (row := some k) h (grown_setCell _ _ _ _) (fun e => hne (Option.some.inj e).symm)
theorem box_others {T : TypeId} {w : World} {H k : Nat} {n : Int} {s r : ByteArray} {u0 u1 u2 : Value} (h : Box T w H n s r) (hne : H ≠ k) : Box T (((w.setCell ⟨k, 0, none⟩ u0).setCell ⟨k, 1, none⟩ u1).setCell ⟨k, 2, none⟩ u2) H n s r :=
  box_other (box_other (box_other h hne) hne) hne
theorem rd_sets {w : World} {R : Nat} {ao : Option Addr} {len cap p : Nat} (h : Rd w R ao len cap p) {b : Nat} {u0 u1 u2 : Value} (hb : R < b) : Rd (((w.setCell ⟨b, 0, none⟩ u0).setCell ⟨b, 1, none⟩ u1).setCell ⟨b, 2, none⟩ u2) R ao len cap p := ((h.setNew hb).setNew hb).setNew hb
theorem grown_sets {w w' : World} {row : Option Nat} (h : w.grownBy w' row) {b : Nat} {u0 u1 u2 : Value} (hb : w.heap.size ≤ b) : w.grownBy (((w'.setCell ⟨b, 0, none⟩ u0).setCell ⟨b, 1, none⟩ u1).setCell ⟨b, 2, none⟩ u2) row := grown_new (grown_new (grown_new h hb) hb) hb
/-- what the drawing of two structures leaves -/
def DrawnP (w : World) (R : Nat) (ao : Option Addr) (len cap P : Nat) (e : Ending) (w' : World) : Prop :=
  ∃ (n : Int) (s r : ByteArray) (m : Int) (t q : ByteArray) (p : Nat), e = .returned (.tuple #[.agg #[.int .i64 n, .string s, .string r], .agg #[.int .i64 m, .string t, .string q]]) ∧ (Lit.int .i64 n).wf = true ∧ s.size ≤ 100 ∧ r.size ≤ 100 ∧ (Lit.int .i64 m).wf = true ∧ t.size ≤ 100 ∧ q.size ≤ 100 ∧ Rd w' R ao len cap p ∧ p ≤ P ∧ w.grownBy w' (some R)
/-- what the drawing of two structures out of bytes leaves -/
def DrawnQ (w : World) (e : Ending) (w' : World) : Prop :=
  ∃ (n : Int) (s r : ByteArray) (m : Int) (t q : ByteArray), e = .returned (.tuple #[.agg #[.int .i64 n, .string s, .string r], .agg #[.int .i64 m, .string t, .string q]]) ∧ (Lit.int .i64 n).wf = true ∧ s.size ≤ 100 ∧ r.size ≤ 100 ∧ (Lit.int .i64 m).wf = true ∧ t.size ≤ 100 ∧ q.size ≤ 100 ∧ Below w.heap.size w w'

end Go.Proofs.YtpcnoiigbmiejaaDoor.draw
