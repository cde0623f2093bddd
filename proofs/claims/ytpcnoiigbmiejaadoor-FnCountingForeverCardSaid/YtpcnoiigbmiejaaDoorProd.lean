/- ProductOf, in the program and in the reference. -/
import Derived.Test.YtpcnoiigbmiejaaDoorRows
import Derived.Test.YtpcnoiigbmiejaaDoorBase
import Derived.Test.YtpcnoiigbmiejaaDoorMake
import Derived.Test.YtpcnoiigbmiejaaDoorFlow
namespace Go.Proofs.YtpcnoiigbmiejaaDoor.prod
set_option linter.unusedVariables false
set_option linter.unusedSimpArgs false
open Go.ChangeShapes Go.WideShapes Go.ChangeAt Go.RowKit
open Go.Proofs.YtpcnoiigbmiejaaDoor.lib Go.Proofs.YtpcnoiigbmiejaaDoor.st Go.Proofs.YtpcnoiigbmiejaaDoor.base Go.Proofs.YtpcnoiigbmiejaaDoor.make Go.Proofs.YtpcnoiigbmiejaaDoor.flow

/-- what ProductOf returns -/
def okP (n : Int) (s r : ByteArray) (m : Int) (t q : ByteArray) : Bool := validB n s r && (validB m t q && decide (n * m ≤ 8))
def pSet (s : ByteArray) (m : Nat) (t : ByteArray) (x : Nat) : Bool := bitAt s (x / m) && bitAt t (x % m)
def pRel (n : Nat) (r : ByteArray) (m : Nat) (q : ByteArray) (x y : Nat) : Bool := bitAt r (x / m * n + y / m) && bitAt q (x % m * m + y % m)
def ps (n : Int) (s r : ByteArray) (m : Int) (t q : ByteArray) : ByteArray := if okP n s r m t q = true then bS (pSet s m.toNat t) (n.toNat * m.toNat) else ⟨#[]⟩
def pr (n : Int) (s r : ByteArray) (m : Int) (t q : ByteArray) : ByteArray := if okP n s r m t q = true then bR (pRel n.toNat r m.toNat q) (n.toNat * m.toNat) (n.toNat * m.toNat) else ⟨#[]⟩
theorem l1Set_at (n : Int) (s r : ByteArray) (i : Int) (k : Nat) (b : Bool) (w : World) (hi : i = k) (hb : bitAt s k = b) (hx : k < s.size) (hs : s.size ≤ 9223372036854775807) :
    Calls Tryd.prog 125 #[.agg #[.int .i64 n, .string s, .string r], .int .i64 i] w fun e w' => e = .returned (.bool b) ∧ Below w.heap.size w w' := by
  subst hi hb; exact l1Set_any n s r k w hx hs
theorem l1Rel_at (n : Nat) (s r : ByteArray) (i j : Int) (x y : Nat) (b : Bool) (w : World) (hi : i = x) (hj : j = y) (hb : bitAt r (x * n + y) = b) (hx : x < n) (hy : y < n) (hn : n ≤ 8) (hr : r.size = n * n) :
    Calls Tryd.prog 126 #[.agg #[.int .i64 n, .string s, .string r], .int .i64 i, .int .i64 j] w fun e w' => e = .returned (.bool b) ∧ Below w.heap.size w w' := by
  subst hi hj hb; exact l1Rel_any n s r x y w hx hy hn hr
theorem l1Bit_at (b : Bool) (w : World) : Calls Tryd.prog 141 #[.bool b] w fun e w' => e = .returned (.string (bit1 b)) ∧ w' = w := (l1Bit_any b w).mono fun _ _ h => ⟨h.1, h.2.symm⟩

end Go.Proofs.YtpcnoiigbmiejaaDoor.prod
