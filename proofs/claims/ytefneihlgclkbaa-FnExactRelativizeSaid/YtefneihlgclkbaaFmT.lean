/- Formulas in the program: parsed formulas in memory. -/
import Derived.Test.YtefneihlgclkbaaFmQ
import Derived.Test.YtefneihlgclkbaaStr
namespace Go.Proofs.Ytefneihlgclkbaa.fmt
set_option linter.unusedVariables false
set_option linter.unusedSimpArgs false
open Go.ChangeShapes Go.WideShapes Go.ChangeAt Go.RowKit
open Go.Proofs.Ytefneihlgclkbaa.lib Go.Proofs.Ytefneihlgclkbaa.fm

/-- all variables, as bits -/
def Fm.all : Fm → Nat
  | .tf _ => 0
  | .p v => 1 <<< v
  | .r _ v u => 1 <<< v ||| 1 <<< u
  | .no a => Fm.all a
  | .two _ a b => Fm.all a ||| Fm.all b
  | .qu _ v a => 1 <<< v ||| Fm.all a
theorem Fm.all_lt : ∀ {a : Fm}, a.ok → Fm.all a < 16
  | .tf _, _ => by simp [Fm.all]
  | .p v, h => sh_lt ⟨v, h⟩
  | .r _ v u, h => or_lt ⟨1 <<< v, sh_lt ⟨v, h.2.1⟩⟩ ⟨1 <<< u, sh_lt ⟨u, h.2.2⟩⟩
  | .no a, h => Fm.all_lt (a := a) h
  | .two _ a b, h => or_lt ⟨Fm.all a, Fm.all_lt h.2.1⟩ ⟨Fm.all b, Fm.all_lt h.2.2⟩
  | .qu _ v a, h => or_lt ⟨1 <<< v, sh_lt ⟨v, h.2.1⟩⟩ ⟨Fm.all a, Fm.all_lt h.2.2⟩
/-- v is a slice that reads as l -/
def RV (w : World) (v : Value) (l : List Value) : Prop :=
  ∃ ao cap, v = .slice ao l.length cap ∧ (l = [] ∨ ∃ b off, ao = some ⟨b, off, none⟩ ∧ ∀ i (h : i < l.length), w.cell? ⟨b, off + i, none⟩ = some l[i])
theorem RV.below {w w' : World} {C : Nat} {v : Value} {l : List Value} (h : RV w v l) (hb : Below C w w') (hC : w.heap.size ≤ C) : RV w' v l := by
  obtain ⟨ao, cap, hv, h⟩ := h
  refine ⟨ao, cap, hv, ?_⟩
  rcases h with h | ⟨b, off, ha, hc⟩
  · exact .inl h
  · refine .inr ⟨b, off, ha, fun i hi => ?_⟩
    have h1 := hc i hi
    have hlt := World.block_lt_of_cell? w ⟨b, off + i, none⟩ h1
    rw [hb.cell (p := ⟨b, off + i, none⟩) (Nat.lt_of_lt_of_le hlt hC)]
    exact h1
/-- a node: operator, variables, parts, the sets -/
def Node (T : TypeId) (w : World) (H : Nat) (op : UInt8) (vs ps : List Nat) (fr al : Nat) : Prop :=
  ∃ vv pv, w.heap[H]? = some (.cells #[.int .u8 op.toNat, vv, pv, .int .i64 fr, .int .i64 al] T (0, 0)) ∧ RV w vv (vs.map fun v => .int .u8 (vb v).toNat) ∧ RV w pv (ps.map fun k => .pointer (some ⟨k, 0, none⟩))
theorem Node.lt {T : TypeId} {w : World} {H : Nat} {op : UInt8} {vs ps : List Nat} {fr al : Nat} (h : Node T w H op vs ps fr al) : H < w.heap.size := by
  obtain ⟨_, _, h, _⟩ := h
  exact (Array.getElem?_eq_some_iff.1 h).1
theorem Node.below {T : TypeId} {w w' : World} {C H : Nat} {op : UInt8} {vs ps : List Nat} {fr al : Nat} (h : Node T w H op vs ps fr al) (hb : Below C w w') (hC : w.heap.size ≤ C) : Node T w' H op vs ps fr al := by
  have hlt := h.lt
  obtain ⟨vv, pv, h1, h2, h3⟩ := h
  exact ⟨vv, pv, by rw [hb.block H (by omega)]; exact h1, h2.below hb hC, h3.below hb hC⟩
/-- the formula a lies in memory from block H on -/
def Tree (T : TypeId) (w : World) : Fm → Nat → Prop
  | .tf c, H => Node T w H c [] [] 0 0
  | .p v, H => Node T w H 80 [v] [] (1 <<< v) (1 <<< v)
  | .r o v u, H => Node T w H o [v, u] [] (1 <<< v ||| 1 <<< u) (1 <<< v ||| 1 <<< u)
  | .no a, H => ∃ K, Tree T w a K ∧ Node T w H 33 [] [K] a.free (Fm.all a)
  | .two o a b, H => ∃ K L, Tree T w a K ∧ Tree T w b L ∧ Node T w H o [] [K, L] (a.free ||| b.free) (Fm.all a ||| Fm.all b)
  | .qu o v a, H => ∃ K, Tree T w a K ∧ Node T w H o [v] [K] (a.free &&& (15 ^^^ 1 <<< v)) (1 <<< v ||| Fm.all a)
theorem Tree.below {T : TypeId} {w w' : World} {C : Nat} (hb : Below C w w') (hC : w.heap.size ≤ C) : ∀ {a : Fm} {H : Nat}, Tree T w a H → Tree T w' a H
  | .tf _, _, h => Node.below h hb hC
  | .p _, _, h => Node.below h hb hC
  | .r _ _ _, _, h => Node.below h hb hC
  | .no _, _, ⟨K, h1, h2⟩ => ⟨K, Tree.below hb hC h1, h2.below hb hC⟩
  | .two _ _ _, _, ⟨K, L, h1, h2, h3⟩ => ⟨K, L, Tree.below hb hC h1, Tree.below hb hC h2, h3.below hb hC⟩
  | .qu _ _ _, _, ⟨K, h1, h2⟩ => ⟨K, Tree.below hb hC h1, h2.below hb hC⟩
/-- the node of a tree: its set of free variables -/
theorem Tree.free {T : TypeId} {w : World} : ∀ {a : Fm} {H : Nat}, Tree T w a H → ∃ op vs ps, Node T w H op vs ps a.free (Fm.all a)
  | .tf _, _, h => ⟨_, _, _, h⟩
  | .p _, _, h => ⟨_, _, _, h⟩
  | .r _ _ _, _, h => ⟨_, _, _, h⟩
  | .no _, _, ⟨_, _, h⟩ => ⟨_, _, _, h⟩
  | .two _ _ _, _, ⟨_, _, _, _, h⟩ => ⟨_, _, _, h⟩
  | .qu _ _ _, _, ⟨_, _, h⟩ => ⟨_, _, _, h⟩
theorem Node.cells {T : TypeId} {w : World} {H : Nat} {op : UInt8} {vs ps : List Nat} {fr al : Nat} (h : Node T w H op vs ps fr al) :
    ∃ vv pv, RV w vv (vs.map fun v => .int .u8 (vb v).toNat) ∧ RV w pv (ps.map fun k => .pointer (some ⟨k, 0, none⟩)) ∧ w.cell? ⟨H, 0, none⟩ = some (.int .u8 op.toNat) ∧ w.cell? ⟨H, 1, none⟩ = some vv ∧ w.cell? ⟨H, 2, none⟩ = some pv ∧ w.cell? ⟨H, 3, none⟩ = some (.int .i64 fr) ∧ w.cell? ⟨H, 4, none⟩ = some (.int .i64 al) := by
  obtain ⟨vv, pv, h1, h2, h3⟩ := h
  refine ⟨vv, pv, h2, h3, ?_, ?_, ?_, ?_, ?_⟩ <;> simp [World.cell?, h1]
/-- the same in the blocks from lo up to hi -/
def Agree (lo hi : Nat) (w w' : World) : Prop := ∀ b, lo ≤ b → b < hi → w'.heap[b]? = w.heap[b]?
/-- the formula a lies from H on, within the blocks from lo up to hi -/
def TS (T : TypeId) (lo hi : Nat) (w : World) (a : Fm) (H : Nat) : Prop := ∀ w', Agree lo hi w w' → Tree T w' a H
theorem TS.tree {T : TypeId} {lo hi : Nat} {w : World} {a : Fm} {H : Nat} (h : TS T lo hi w a H) : Tree T w a H := h w fun _ _ _ => rfl
theorem TS.to {T : TypeId} {lo hi : Nat} {w w' : World} {a : Fm} {H : Nat} (h : TS T lo hi w a H) (hg : Agree lo hi w w') : TS T lo hi w' a H := fun w2 h2 => h w2 fun b h3 h4 => (h2 b h3 h4).trans (hg b h3 h4)
theorem Agree.of_below {lo hi C : Nat} {w w' : World} (hb : Below C w w') (hC : hi ≤ C) : Agree lo hi w w' := fun b _ h => hb.block b (by omega)
theorem node_new {T : TypeId} {w w2 : World} {op : UInt8} (h : Agree w.heap.size (w.alloc (.cells #[.int .u8 op.toNat, .slice none 0 0, .slice none 0 0, .int .i64 0, .int .i64 0] T)).heap.size (w.alloc (.cells #[.int .u8 op.toNat, .slice none 0 0, .slice none 0 0, .int .i64 0, .int .i64 0] T)) w2) : Node T w2 w.heap.size op [] [] 0 0 :=
  ⟨_, _, (h _ (Nat.le_refl _) (by simp)).trans (heap_alloc_new w _), ⟨none, 0, rfl, .inl rfl⟩, ⟨none, 0, rfl, .inl rfl⟩⟩
end Go.Proofs.Ytefneihlgclkbaa.fmt
