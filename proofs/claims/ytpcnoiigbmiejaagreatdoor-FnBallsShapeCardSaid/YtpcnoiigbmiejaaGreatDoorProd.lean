/- ProductOf, in the program and in the reference. -/
import Derived.Test.YtpcnoiigbmiejaaGreatDoorRows
import Derived.Test.YtpcnoiigbmiejaaGreatDoorBase
import Derived.Test.YtpcnoiigbmiejaaGreatDoorMake
import Derived.Test.YtpcnoiigbmiejaaGreatDoorFlow
namespace Go.Proofs.YtpcnoiigbmiejaaGreatDoor.prod
set_option linter.unusedVariables false
set_option linter.unusedSimpArgs false
open Go.ChangeShapes Go.WideShapes Go.ChangeAt Go.RowKit
open Go.Proofs.YtpcnoiigbmiejaaGreatDoor.lib Go.Proofs.YtpcnoiigbmiejaaGreatDoor.st Go.Proofs.YtpcnoiigbmiejaaGreatDoor.base Go.Proofs.YtpcnoiigbmiejaaGreatDoor.make Go.Proofs.YtpcnoiigbmiejaaGreatDoor.flow

/-- the bits by numbers of whatever spelling -/
theorem inSet_at (n : Int) (s r : ByteArray) (i : Int) (k : Nat) (b : Bool) (w : World) (hi : i = k) (hb : bitAt s k = b) (hx : k < s.size) (hs : s.size ≤ 9223372036854775807) :
    Calls Tryz.prog 89 #[.agg #[.int .i64 n, .string s, .string r], .int .i64 i] w fun e w' => e = .returned (.bool b) ∧ Below w.heap.size w w' := by
  subst hi hb; exact inSet_any n s r k w hx hs
theorem inRel_at (n : Nat) (s r : ByteArray) (i j : Int) (x y : Nat) (b : Bool) (w : World) (hi : i = x) (hj : j = y) (hb : bitAt r (x * n + y) = b) (hx : x < n) (hy : y < n) (hn : n ≤ 8) (hr : r.size = n * n) :
    Calls Tryz.prog 90 #[.agg #[.int .i64 n, .string s, .string r], .int .i64 i, .int .i64 j] w fun e w' => e = .returned (.bool b) ∧ Below w.heap.size w w' := by
  subst hi hj hb; exact inRel_any n s r x y w hx hy hn hr

theorem wrap_nat (k : Nat) (h : k ≤ 1000) : IntKind.i64.wrap (k : Int) = (k : Int) := by rw [IntKind.wrap_i64]; omega
theorem div_facts {x m : Nat} (hm : 1 ≤ m ∧ m ≤ 8) (hx : x ≤ 64) : IntKind.i64.wrap ((x : Int) / (m : Int)) = ((x / m : Nat) : Int) ∧ (x : Int).tmod (m : Int) = ((x % m : Nat) : Int) ∧ ¬ m = 0 :=
  ⟨wrap_nat (x / m) (Nat.le_trans (Nat.div_le_self _ _) (by omega)), rfl, by omega⟩

/-- what ProductOf returns -/
def okP (n : Int) (s r : ByteArray) (m : Int) (t q : ByteArray) : Bool := validB n s r && (validB m t q && decide (n * m ≤ 8))
def pSet (s : ByteArray) (m : Nat) (t : ByteArray) (x : Nat) : Bool := bitAt s (x / m) && bitAt t (x % m)
def pRel (n : Nat) (r : ByteArray) (m : Nat) (q : ByteArray) (x y : Nat) : Bool := bitAt r (x / m * n + y / m) && bitAt q (x % m * m + y % m)
def pn (n : Int) (s r : ByteArray) (m : Int) (t q : ByteArray) : Int := if okP n s r m t q = true then n * m else 0
def ps (n : Int) (s r : ByteArray) (m : Int) (t q : ByteArray) : ByteArray := if okP n s r m t q = true then bS (pSet s m.toNat t) (n.toNat * m.toNat) else ⟨#[]⟩
def pr (n : Int) (s r : ByteArray) (m : Int) (t q : ByteArray) : ByteArray := if okP n s r m t q = true then bR (pRel n.toNat r m.toNat q) (n.toNat * m.toNat) (n.toNat * m.toNat) else ⟨#[]⟩
theorem p_no {n : Int} {s r : ByteArray} {m : Int} {t q : ByteArray} (h : okP n s r m t q = false) : pn n s r m t q = 0 ∧ ps n s r m t q = ⟨#[]⟩ ∧ pr n s r m t q = ⟨#[]⟩ := by simp [pn, ps, pr, h]
theorem p_yes {N M : Nat} {s r t q : ByteArray} (h : okP N s r M t q = true) : pn N s r M t q = ((N * M : Nat) : Int) ∧ ps N s r M t q = bS (pSet s M t) (N * M) ∧ pr N s r M t q = bR (pRel N r M q) (N * M) (N * M) := by simp [pn, ps, pr, h]
theorem p_yes_at {N M K : Nat} {s r t q : ByteArray} (hK : K = N * M) (h : okP N s r M t q = true) : pn N s r M t q = (K : Int) ∧ ps N s r M t q = bS (pSet s M t) K ∧ pr N s r M t q = bR (pRel N r M q) K K := by subst hK; exact p_yes h
theorem valid_size {n : Int} {s r : ByteArray} (h : validB n s r = true) : ∃ N : Nat, n = N ∧ 1 ≤ N ∧ N ≤ 8 ∧ s.size = N ∧ r.size = N * N := by
  obtain ⟨⟨h2, h3⟩, hs, hr, _⟩ := validB_iff.1 h
  refine ⟨n.toNat, by omega, by omega, by omega, by omega, ?_⟩
  have e : (n.toNat : Int) = n := by omega
  have : ((n.toNat * n.toNat : Nat) : Int) = n * n := by rw [Int.natCast_mul, e]
  omega

/- the reference -/
theorem l1Set_at (n : Int) (s r : ByteArray) (i : Int) (k : Nat) (b : Bool) (w : World) (hi : i = k) (hb : bitAt s k = b) (hx : k < s.size) (hs : s.size ≤ 9223372036854775807) :
    Calls Tryz.prog 86 #[.agg #[.int .i64 n, .string s, .string r], .int .i64 i] w fun e w' => e = .returned (.bool b) ∧ Below w.heap.size w w' := by
  subst hi hb; exact l1Set_any n s r k w hx hs
theorem l1Rel_at (n : Nat) (s r : ByteArray) (i j : Int) (x y : Nat) (b : Bool) (w : World) (hi : i = x) (hj : j = y) (hb : bitAt r (x * n + y) = b) (hx : x < n) (hy : y < n) (hn : n ≤ 8) (hr : r.size = n * n) :
    Calls Tryz.prog 87 #[.agg #[.int .i64 n, .string s, .string r], .int .i64 i, .int .i64 j] w fun e w' => e = .returned (.bool b) ∧ Below w.heap.size w w' := by
  subst hi hj hb; exact l1Rel_any n s r x y w hx hy hn hr
theorem l1Bit_at (b : Bool) (w : World) : Calls Tryz.prog 58 #[.bool b] w fun e w' => e = .returned (.string (bit1 b)) ∧ w' = w := (l1Bit_any b w).mono fun _ _ h => ⟨h.1, h.2.symm⟩

end Go.Proofs.YtpcnoiigbmiejaaGreatDoor.prod
