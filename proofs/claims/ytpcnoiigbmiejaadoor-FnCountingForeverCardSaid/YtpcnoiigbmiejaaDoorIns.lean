/- l5Insert: the reference's insertion into a sorted list. -/
import Derived.Test.YtpcnoiigbmiejaaDoorRows
import Derived.Test.YtpcnoiigbmiejaaDoorLib
import Derived.Test.YtpcnoiigbmiejaaDoorTree
import Derived.Test.YtpcnoiigbmiejaaDoorNear
import Derived.Deep.CutRange
namespace Go.Proofs.YtpcnoiigbmiejaaDoor.ins
set_option linter.unusedVariables false
set_option linter.unusedSimpArgs false
open Go.ChangeShapes Go.WideShapes Go.ChangeAt Go.RowKit
open Go.Proofs.YtpcnoiigbmiejaaDoor.lib Go.Proofs.YtpcnoiigbmiejaaDoor.flow Go.Proofs.YtpcnoiigbmiejaaDoor.chain Go.Proofs.YtpcnoiigbmiejaaDoor.near

def ins : List Int → Int → List Int
  | [], n => [n]
  | a :: l, n => if a = n then a :: l else if n < a then n :: a :: l else a :: ins l n
/-- an append of what lies at a place -/
theorem wpList_appL {P : Program} (w : World) {ops : Array Oper} {rest : List Oper} {o : Oper} {a : Act} {Q : Exit → Act → World → Prop} (hgd : o.guard = none)
    (s x : Operand) (t : TypeId) (hop : o.op = Op.call { callee := Callee.builtin Builtin.append, args := #[s, x], argTypes := #[t, t] })
    (base : Nat) (e : TypeId) (h1 : P.underlying t = some (.slice e)) (hinfo : (P.info? e).map (fun i => (i.zero, i.size, i.bytes)) = some (some (.int .i64 0), 1, 8))
    (v : Value) (l : List Int) (hs : a.eval s = v) (hown : OwnI e w base v l) (H : Nat) (u : Int) (hx : a.eval x = .slice (some ⟨H, 0, none⟩) 1 1) (hc : w.cell? ⟨H, 0, none⟩ = some (.int .i64 u))
    (b1 : l.length + 1 ≤ 4398046511104) (b4 : base ≤ w.heap.size)
    (h : ∀ g cap w', OwnI e w' base (.slice (some ⟨g, 0, none⟩) (l.length + 1) cap) (l ++ [u]) → Grew w w' v (.slice (some ⟨g, 0, none⟩) (l.length + 1) cap) → wpList P ops Q rest (a.put o.dst (.slice (some ⟨g, 0, none⟩) (l.length + 1) cap)) w') :
    wpList P ops Q (o :: rest) a w := by
  refine wpList_plain hgd fun K hK => ?_
  refine wp_appL w s x t hop base e (.int .i64 0) 8 h1 hinfo rfl (by decide) v l.length (ivs l) hs hown ⟨H, 0, none⟩ 1 1 [.int .i64 u] hx rfl ?_ ?_ (by decide) b1 b4 (fun g cap w' ho hg => hK _ _ (h g cap w' ?_ hg))
  · intro j y hj
    match j, hj with
    | 0, hj => simp at hj; subst hj; simpa [Addr.add] using hc
  · intro y hy; simp at hy; subst hy; rfl
  · unfold OwnI; rw [List.length_append, ivs_append]; exact ho

/-- what a world keeps of an older one -/
theorem keepCell {W W' : World} {B : Nat} (hb : Below B W W') {a : Addr} {v : Value} (h : W.cell? a = some v) (hB : W.heap.size ≤ B := by exact Nat.le_refl _) : W'.cell? a = some v := by
  rw [hb.cell (Nat.lt_of_lt_of_le (World.block_lt_of_cell? W a h) hB)]; exact h

end Go.Proofs.YtpcnoiigbmiejaaDoor.ins
