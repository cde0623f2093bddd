/- Several texts in one: Ins, Ball, BallS, Around. -/
import Derived.Test.YtpcnoiigbmiejaaGreatDoorRows
import Derived.Test.YtpcnoiigbmiejaaGreatDoorLib
import Derived.Test.YtpcnoiigbmiejaaGreatDoorPk2
import Derived.Test.YtpcnoiigbmiejaaGreatDoorNear
import Derived.Deep.CutRange
import Derived.Test.YtpcnoiigbmiejaaGreatDoorPkF
import Derived.Test.YtpcnoiigbmiejaaGreatDoorBasic
import Derived.Test.YtpcnoiigbmiejaaGreatDoorPart
/- l5Insert: the reference's insertion into a sorted list. -/
namespace Go.Proofs.YtpcnoiigbmiejaaGreatDoor.ins
set_option linter.unusedVariables false
set_option linter.unusedSimpArgs false
open Go.ChangeShapes Go.WideShapes Go.ChangeAt Go.RowKit
open Go.Proofs.YtpcnoiigbmiejaaGreatDoor.lib Go.Proofs.YtpcnoiigbmiejaaGreatDoor.flow Go.Proofs.YtpcnoiigbmiejaaGreatDoor.chain Go.Proofs.YtpcnoiigbmiejaaGreatDoor.near

def ins : List Int → Int → List Int
  | [], n => [n]
  | a :: l, n => if a = n then a :: l else if n < a then n :: a :: l else a :: ins l n
/-- an append of what lies at a place -/
theorem wpList_appL {P : Program} (w : World) {ops : Array Oper} {rest : List Oper} {o : Oper} {a : Act} {Q : Exit → Act → World → Prop} (hgd : o.guard = none)
    (s x : Operand) (t : TypeId) (hop : o.op = Op.call { callee := Callee.builtin Builtin.append, args := #[s, x], argTypes := #[t, t] })
    (base : Nat) (e : TypeId) (h1 : P.underlying t = some (.slice e)) (hinfo : (P.info? e).map (fun i => (i.zero, i.size, i.bytes)) = some (some (.int .i64 0), 1, 8))
    (v : Value) (l : List Int) (hs : a.eval s = v) (hown : OwnI e w base v l) (H : Nat) (u : Int) (hx : a.eval x = .slice (some ⟨H, 0, none⟩) 1 1) (hc : w.cell? ⟨H, 0, none⟩ = some (.int .i64 u))
    (b1 : l.length + 1 ≤ 4398046511104) (b4 : base ≤ w.heap.size)
    (h : ∀ g cap w', OwnI e w' base (.slice (some ⟨g, 0, none⟩) (l.length + 1) cap) (l ++ [u]) → Grew w w' v (.slice (some ⟨g, 0, none⟩) (l.length + 1) cap) → wpList P ops Q rest (a.put o.dst (.slice (some ⟨g, 0, none⟩) (l.length + 1) cap)) w') :
    wpList P ops Q (o :: rest) a w := by
  refine wpList_plain hgd fun K hK => ?_
  refine wp_appL w s x t hop base e (.int .i64 0) 8 h1 hinfo rfl (by decide) v l.length (ivs l) hs hown ⟨H, 0, none⟩ 1 1 [.int .i64 u] hx rfl ?_ ?_ (by decide) b1 b4 (fun g cap w' ho hg => hK _ _ (h g cap w' ?_ hg))
  · intro j y hj
    match j, hj with
    | 0, hj => simp at hj; subst hj; simpa [Addr.add] using hc
  · intro y hy; simp at hy; subst hy; rfl
  · unfold OwnI; rw [List.length_append, ivs_append]; exact ho

/-- what a world keeps of an older one -/
theorem keepCell {W W' : World} {B : Nat} (hb : Below B W W') {a : Addr} {v : Value} (h : W.cell? a = some v) (hB : W.heap.size ≤ B := by exact Nat.le_refl _) : W'.cell? a = some v := by
  rw [hb.cell (Nat.lt_of_lt_of_le (World.block_lt_of_cell? W a h) hB)]; exact h

end Go.Proofs.YtpcnoiigbmiejaaGreatDoor.ins

/- BallOf in the program and in the reference. -/
namespace Go.Proofs.YtpcnoiigbmiejaaGreatDoor.ball
set_option linter.unusedVariables false
set_option linter.unusedSimpArgs false
open Go.ChangeShapes Go.WideShapes Go.ChangeAt Go.RowKit
open Go.Proofs.YtpcnoiigbmiejaaGreatDoor.lib Go.Proofs.YtpcnoiigbmiejaaGreatDoor.st Go.Proofs.YtpcnoiigbmiejaaGreatDoor.base Go.Proofs.YtpcnoiigbmiejaaGreatDoor.near Go.Proofs.YtpcnoiigbmiejaaGreatDoor.dist

/-- within the radius -/
noncomputable def inBall (n : Nat) (r : ByteArray) (x : Nat) (rad : Int) (y : Nat) : Bool := decide (0 ≤ D (adj n r) n x y ∧ D (adj n r) n x y ≤ rad)
/-- those up to k -/
noncomputable def ballTo (n : Nat) (r : ByteArray) (x : Nat) (rad : Int) (k : Nat) : List Int := ((List.range k).filter (inBall n r x rad)).map fun (y : Nat) => (y : Int)
theorem ballTo_len (n : Nat) (r : ByteArray) (x : Nat) (rad : Int) (k : Nat) : (ballTo n r x rad k).length ≤ k := by
  unfold ballTo; rw [List.length_map]
  have := List.length_filter_le (inBall n r x rad) (List.range k)
  rw [List.length_range] at this; exact this

end Go.Proofs.YtpcnoiigbmiejaaGreatDoor.ball

/- BallOf in the reference. -/
namespace Go.Proofs.YtpcnoiigbmiejaaGreatDoor.ball
set_option linter.unusedVariables false
set_option linter.unusedSimpArgs false
open Go.ChangeShapes Go.WideShapes Go.ChangeAt Go.RowKit
open Go.Proofs.YtpcnoiigbmiejaaGreatDoor.lib Go.Proofs.YtpcnoiigbmiejaaGreatDoor.st Go.Proofs.YtpcnoiigbmiejaaGreatDoor.base Go.Proofs.YtpcnoiigbmiejaaGreatDoor.near Go.Proofs.YtpcnoiigbmiejaaGreatDoor.dist Go.Proofs.YtpcnoiigbmiejaaGreatDoor.ins

theorem sorted_ext : ∀ (l m : List Int), l.Pairwise (· < ·) → m.Pairwise (· < ·) → (∀ a, a ∈ l ↔ a ∈ m) → l = m
  | [], [], _, _, _ => rfl
  | [], b :: m, _, _, h => by have := (h b).2 List.mem_cons_self; cases this
  | a :: l, [], _, _, h => by have := (h a).1 List.mem_cons_self; cases this
  | a :: l, b :: m, hl, hm, h => by
    have h1 := List.pairwise_cons.1 hl
    have h2 := List.pairwise_cons.1 hm
    have e : a = b := by
      rcases List.mem_cons.1 ((h a).1 List.mem_cons_self) with r | r
      · exact r
      · rcases List.mem_cons.1 ((h b).2 List.mem_cons_self) with q | q
        · exact q.symm
        · have := h1.1 b q; have := h2.1 a r; omega
    subst e
    rw [sorted_ext l m h1.2 h2.2 fun c => ⟨fun hc => ?_, fun hc => ?_⟩]
    · rcases List.mem_cons.1 ((h c).1 (List.mem_cons_of_mem _ hc)) with r | r
      · have := h1.1 c hc; omega
      · exact r
    · rcases List.mem_cons.1 ((h c).2 (List.mem_cons_of_mem _ hc)) with r | r
      · have := h2.1 c hc; omega
      · exact r
theorem ins_mem (n a : Int) : ∀ l : List Int, a ∈ ins l n ↔ a = n ∨ a ∈ l
  | [] => by simp [ins]
  | b :: l => by
    unfold ins
    split
    · rename_i h; subst h; simp
    · split
      · simp
      · simp only [List.mem_cons, ins_mem n a l]
        constructor
        · rintro (h | h | h) <;> simp [h]
        · rintro (h | h | h) <;> simp [h]
theorem ins_sorted (n : Int) : ∀ l : List Int, l.Pairwise (· < ·) → (ins l n).Pairwise (· < ·)
  | [], _ => by simp [ins]
  | b :: l, h => by
    have h1 := List.pairwise_cons.1 h
    unfold ins
    split
    · exact h
    · split
      · refine List.pairwise_cons.2 ⟨fun c hc => ?_, h⟩
        rcases List.mem_cons.1 hc with r | r
        · omega
        · have := h1.1 c r; omega
      · refine List.pairwise_cons.2 ⟨fun c hc => ?_, ins_sorted n l h1.2⟩
        rcases (ins_mem n c l).1 hc with r | r
        · omega
        · exact h1.1 c r
theorem oneRow (T : TypeId) (w : World) (B H : Nat) (x : Int) (hH : w.heap.size = H) (hB : B ≤ H) : OwnI T (w.alloc (.cells #[.int .i64 x] T)) B (.slice (some ⟨H, 0, none⟩) 1 1) [x] := by
  subst hH
  exact ⟨rfl, .inr ⟨_, 1, _, rfl, hB, heap_alloc_new w _, Nat.le_refl _, by decide, rfl, rfl⟩⟩
end Go.Proofs.YtpcnoiigbmiejaaGreatDoor.ball

/- aroundOf: the structure of a ball, in the program. -/
namespace Go.Proofs.YtpcnoiigbmiejaaGreatDoor.around
set_option linter.unusedVariables false
set_option linter.unusedSimpArgs false
open Go.ChangeShapes Go.WideShapes Go.ChangeAt Go.RowKit
open Go.Proofs.YtpcnoiigbmiejaaGreatDoor.lib Go.Proofs.YtpcnoiigbmiejaaGreatDoor.st Go.Proofs.YtpcnoiigbmiejaaGreatDoor.base Go.Proofs.YtpcnoiigbmiejaaGreatDoor.make Go.Proofs.YtpcnoiigbmiejaaGreatDoor.near Go.Proofs.YtpcnoiigbmiejaaGreatDoor.dist Go.Proofs.YtpcnoiigbmiejaaGreatDoor.ball Go.Proofs.YtpcnoiigbmiejaaGreatDoor.fits Go.Proofs.YtpcnoiigbmiejaaGreatDoor.part

end Go.Proofs.YtpcnoiigbmiejaaGreatDoor.around
