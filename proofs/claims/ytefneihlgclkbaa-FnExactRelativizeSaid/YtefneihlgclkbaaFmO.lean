/- Formulas in the program: put, in plain words. -/
import Derived.Test.YtefneihlgclkbaaFmX
import Derived.Test.YtefneihlgclkbaaFmN
import Derived.Test.YtefneihlgclkbaaFmV
import Derived.Laws.Concat
import Derived.Laws.IdiomStrings
namespace Go.Proofs.Ytefneihlgclkbaa.fmo
set_option linter.unusedVariables false
set_option linter.unusedSimpArgs false
open Go.ChangeShapes Go.WideShapes Go.ChangeAt Go.RowKit
open Go.Proofs.Ytefneihlgclkbaa.lib Go.Proofs.Ytefneihlgclkbaa.fm Go.Proofs.Ytefneihlgclkbaa.fmt Go.Proofs.Ytefneihlgclkbaa.fmu Go.Proofs.Ytefneihlgclkbaa.fme Go.Proofs.Ytefneihlgclkbaa.fmx Go.Proofs.Ytefneihlgclkbaa.fmj Go.Proofs.Ytefneihlgclkbaa.fmv

/-- the text of what is put -/
def optS : Option (List UInt8) → ByteArray
  | none => ⟨#[]⟩
  | some t => ⟨t.toArray⟩
/-- what put returns -/
def PutQ (w : World) (o : Option (List UInt8)) (e : Ending) (w' : World) : Prop := e = .returned (.tuple #[.string (optS o), .bool o.isSome]) ∧ Below w.heap.size w w'
theorem optS_some (t : List UInt8) : optS (some t) = ⟨t.toArray⟩ := rfl
/-- the letters' cells -/
def nb (l : List Nat) : List Value := l.map fun v => .int .u8 (97 + (v : Nat) : Int)
theorem nb_bytes {l : List Nat} (h : ∀ v, v ∈ l → v < 4) : (l.map vb).map (fun b => Value.int .u8 (b.toNat : Int)) = nb l := by
  unfold nb
  rw [List.map_map]
  exact List.map_congr_left fun v hv => by simp [vb_nat (h v hv)]
/-- two boxes: the views and the letters -/
structure Bx (w0 wr : World) (sv rv : Value) (m : Nat → Nat) : Prop where
  p : wr.heap[w0.heap.size]? = some (.cells #[sv, rv] 60 (0, 0))
  v : wr.heap[w0.heap.size + 1]? = some (.cells #[.int .u8 (97 + (m 0 : Nat) : Int), .int .u8 (97 + (m 1 : Nat) : Int), .int .u8 (97 + (m 2 : Nat) : Int), .int .u8 (97 + (m 3 : Nat) : Int)] 62 (0, 0))
  b : Below w0.heap.size w0 wr
theorem Bx.size {w0 wr : World} {sv rv : Value} {m : Nat → Nat} (h : Bx w0 wr sv rv m) : w0.heap.size + 2 ≤ wr.heap.size := (Array.getElem?_eq_some_iff.1 h.v).1
theorem Bx.new (w : World) (sv rv : Value) (m : Nat → Nat) : Bx w ((w.alloc (.cells #[sv, rv] 60)).alloc (.cells #[.int .u8 (97 + (m 0 : Nat) : Int), .int .u8 (97 + (m 1 : Nat) : Int), .int .u8 (97 + (m 2 : Nat) : Int), .int .u8 (97 + (m 3 : Nat) : Int)] 62)) sv rv m :=
  ⟨(heap_alloc_old _ _ (by simp)).trans (heap_alloc_new w _), by have h := heap_alloc_new (w.alloc (.cells #[sv, rv] 60)) (.cells #[.int .u8 (97 + (m 0 : Nat) : Int), .int .u8 (97 + (m 1 : Nat) : Int), .int .u8 (97 + (m 2 : Nat) : Int), .int .u8 (97 + (m 3 : Nat) : Int)] 62); rw [World.size_alloc] at h; exact h, ((Below.refl _ _).alloc (Nat.le_refl _) _).alloc (by simp) _⟩
theorem Bx.c {w0 wr : World} {sv rv : Value} {m : Nat → Nat} (h : Bx w0 wr sv rv m) : wr.cell? ⟨w0.heap.size, 0, none⟩ = some sv ∧ wr.cell? ⟨w0.heap.size, 1, none⟩ = some rv ∧ wr.cell? ⟨w0.heap.size + 1, 0, none⟩ = some (.int .u8 (97 + (m 0 : Nat) : Int)) ∧ wr.cell? ⟨w0.heap.size + 1, 1, none⟩ = some (.int .u8 (97 + (m 1 : Nat) : Int)) ∧ wr.cell? ⟨w0.heap.size + 1, 2, none⟩ = some (.int .u8 (97 + (m 2 : Nat) : Int)) ∧ wr.cell? ⟨w0.heap.size + 1, 3, none⟩ = some (.int .u8 (97 + (m 3 : Nat) : Int)) := by
  have h1 := h.p
  have h2 := h.v
  refine ⟨?_, ?_, ?_, ?_, ?_, ?_⟩ <;> simp [World.cell?, h1, h2]
theorem Bx.free {w0 wr : World} {sv rv : Value} {m : Nat → Nat} (h : Bx w0 wr sv rv m) (j : Nat) : wr.frozen? ⟨w0.heap.size + 1, j, none⟩ = false := frozen_of_row wr _ j _ _ h.v
theorem Bx.on {w0 wr w' : World} {sv rv : Value} {m : Nat → Nat} (h : Bx w0 wr sv rv m) (hb : Below (w0.heap.size + 2) wr w') : Bx w0 w' sv rv m :=
  ⟨by rw [hb.block _ (by omega)]; exact h.p, by rw [hb.block _ (by omega)]; exact h.v, h.b.trans (hb.mono (by omega))⟩
theorem Bx.call {w0 wr w' : World} {sv rv : Value} {m : Nat → Nat} (h : Bx w0 wr sv rv m) (hb : Below wr.heap.size wr w') : Bx w0 w' sv rv m := h.on (hb.mono h.size)
theorem Bx.set {w0 wr : World} {sv rv : Value} {m : Nat → Nat} (h : Bx w0 wr sv rv m) {v u : Nat} (hv : v < 4) : Bx w0 (wr.setCell ⟨w0.heap.size + 1, v, none⟩ (.int .u8 (97 + (u : Nat) : Int))) sv rv (upd m v u) := by
  refine ⟨?_, ?_, h.b.setCell (p := ⟨w0.heap.size + 1, v, none⟩) (Nat.le_succ _) _⟩
  · rw [Below.heap_setCell _ _ _ _ (by intro e; simp at e)]; exact h.p
  · have := heap_setCell_same wr (w0.heap.size + 1) v _ _ (.int .u8 (97 + (u : Nat) : Int)) h.v
    rw [this]
    obtain rfl | rfl | rfl | rfl : v = 0 ∨ v = 1 ∨ v = 2 ∨ v = 3 := by omega
    all_goals rfl
/-- the trees of the views -/
def VT (w : World) (v : Value) (o : Option Fm) : Prop := (o = none → v = .pointer none) ∧ ∀ s, o = some s → ∃ Hs, v = .pointer (some ⟨Hs, 0, none⟩) ∧ Tree 49 w s Hs
theorem VT.below {w w' : World} {v : Value} {o : Option Fm} (h : VT w v o) (hb : Below w.heap.size w w') : VT w' v o := ⟨h.1, fun s hs => by obtain ⟨Hs, h1, h2⟩ := h.2 s hs; exact ⟨Hs, h1, h2.below hb (Nat.le_refl _)⟩⟩
theorem VT.below' {w w' : World} {v : Value} {o : Option Fm} (h : VT w v o) (hb : Below w.heap.size w w') : VT w' v o := h.below hb
/-- the names so far -/
theorem own_new {w : World} {C : Nat} (hC : C ≤ w.heap.size) : (w.alloc (.cells #[] 5)).ownsRow C 5 1 (.slice (some ⟨w.heap.size, 0, none⟩) 0 0) 0 (nb []) := ⟨rfl, .inr ⟨w.heap.size, 0, #[], rfl, hC, heap_alloc_new w _, Nat.le_refl _, Nat.zero_le _, rfl, rfl⟩⟩
theorem rv_cell {w : World} {v : Value} {l : List Value} (h : RV w v l) {ao : Option Addr} {n cap k : Nat} (hv : v = .slice ao n cap) (hk : k < l.length) : ∃ b off, ao = some ⟨b, off, none⟩ ∧ w.cell? ⟨b, off + k, none⟩ = some l[k] := by
  obtain ⟨ao', cap', hv', hc⟩ := h
  rw [hv] at hv'
  simp only [Value.slice.injEq] at hv'
  obtain ⟨rfl, rfl, rfl⟩ := hv'
  rcases hc with hc | ⟨b, off, ha, hc⟩
  · rw [hc] at hk; cases hk
  · exact ⟨b, off, ha, hc k hk⟩
theorem not80 {c : UInt8} (h : sort c ≠ .p) : ((c.toNat : Int) == 80) = false := by
  cases hb : ((c.toNat : Int) == 80) with
  | false => rfl
  | true =>
    have h1 : c.toNat = 80 := by have := eq_of_beq hb; omega
    exact absurd (by rw [UInt8.toNat_inj.1 (show c.toNat = (80 : UInt8).toNat from h1)]; rfl) h
theorem not69 {c : UInt8} (h : sort c ≠ .r) : ((c.toNat : Int) == 69) = false := by
  cases hb : ((c.toNat : Int) == 69) with
  | false => rfl
  | true =>
    have h1 : c.toNat = 69 := by have := eq_of_beq hb; omega
    exact absurd (by rw [UInt8.toNat_inj.1 (show c.toNat = (69 : UInt8).toNat from h1)]; rfl) h
set_option maxRecDepth 20000 in
theorem isq_sort0 : ∀ c : Fin 256, isQ c.1 = decide (sort (UInt8.ofNat c.1) = .qu) := by decide
theorem isq_sort (c : UInt8) : isQ c.toNat = decide (sort c = .qu) := by
  have h := isq_sort0 ⟨c.toNat, c.toNat_lt⟩
  simp only [UInt8.ofNat_toNat] at h
  exact h
/-- a slice of bytes to a text -/
theorem to_text (g cap : Nat) (l : List UInt8) (W : World) (hc : ∀ j (h : j < l.length), W.cell? ⟨g, j, none⟩ = some (.int .u8 (l[j].toNat : Int))) :
    (convert 46 9 (.slice (some ⟨g, 0, none⟩) l.length cap)).run Try.prog W = .ok (.string ⟨l.toArray⟩) W :=
  run_convert_bytes_back W 46 9 5 ⟨g, 0, none⟩ cap l Try.underlying46 Try.underlying5 Try.underlying9 fun j hj => by
    rw [show (⟨g, 0, none⟩ : Addr).add j = ⟨g, j, none⟩ from by unfold Addr.add; simp; omega]
    exact hc j hj
theorem to_text0 (g cap : Nat) (W : World) : (convert 46 9 (.slice (some ⟨g, 0, none⟩) 0 cap)).run Try.prog W = .ok (.string ⟨#[]⟩) W := to_text g cap [] W (fun j h => by cases h)
theorem to_text1 (g cap : Nat) (c : UInt8) (x : Int) (hx : x = c.toNat) (W : World) (h : W.cell? ⟨g, 0, none⟩ = some (.int .u8 x)) : (convert 46 9 (.slice (some ⟨g, 0, none⟩) 1 cap)).run Try.prog W = .ok (.string ⟨#[c]⟩) W :=
  to_text g cap [c] W (fun j hj => by
    have : j = 0 := by simpa using hj
    subst this
    subst hx
    exact h)
theorem to_text2 (g cap : Nat) (c d : UInt8) (x y : Int) (hx : x = c.toNat) (hy : y = d.toNat) (W : World) (h : W.cell? ⟨g, 0, none⟩ = some (.int .u8 x)) (h2 : W.cell? ⟨g, 1, none⟩ = some (.int .u8 y)) : (convert 46 9 (.slice (some ⟨g, 0, none⟩) 2 cap)).run Try.prog W = .ok (.string ⟨#[c, d]⟩) W :=
  to_text g cap [c, d] W (fun j hj => by
    subst hx
    subst hy
    obtain rfl | rfl : j = 0 ∨ j = 1 := by simp at hj; omega
    · exact h
    · exact h2)
theorem u8_sub {v : Nat} (h : v < 4) : IntKind.u8.wrap (97 + (v : Int) - 97) = (v : Int) := by
  rw [show 97 + (v : Int) - 97 = (v : Int) from by omega]
  obtain rfl | rfl | rfl | rfl : v = 0 ∨ v = 1 ∨ v = 2 ∨ v = 3 := by omega
  all_goals rfl
theorem u8_wrap {v : Nat} (h : v < 4) : IntKind.u8.wrap (v : Int) = (v : Int) := by
  obtain rfl | rfl | rfl | rfl : v = 0 ∨ v = 1 ∨ v = 2 ∨ v = 3 := by omega
  all_goals rfl
theorem vb_int {v : Nat} (h : v < 4) : 97 + (v : Int) = ((vb v).toNat : Int) := by rw [vb_nat h]; simp
theorem Bx.at {w0 wr : World} {sv rv : Value} {m : Nat → Nat} (h : Bx w0 wr sv rv m) {v : Nat} (hv : v < 4) : wr.cell? ⟨w0.heap.size + 1, v, none⟩ = some (.int .u8 (97 + (m v : Nat) : Int)) := by
  obtain ⟨_, _, h0, h1, h2, h3⟩ := h.c
  obtain rfl | rfl | rfl | rfl : v = 0 ∨ v = 1 ∨ v = 2 ∨ v = 3 := by omega
  · exact h0
  · exact h1
  · exact h2
  · exact h3
theorem add_ok {P : Program} {x y : ByteArray} (hx : x.size ≤ 32000000) (hy : y.size ≤ 32000000) : ∀ W : World, (Op.stringOp .add x y).run P W = .ok (.string (x ++ y)) W := fun W => run_string_add_sum (P := P) (w := W) x y (by omega)
theorem cat_one {c : UInt8} {t : List UInt8} : (⟨#[c]⟩ : ByteArray) ++ ⟨t.toArray⟩ = ⟨(c :: t).toArray⟩ := by
  apply ByteArray.ext
  rw [ByteArray.data_append]
  simp
theorem cat_two {c : List UInt8} {t : List UInt8} : (⟨c.toArray⟩ : ByteArray) ++ ⟨t.toArray⟩ = ⟨(c ++ t).toArray⟩ := by
  apply ByteArray.ext
  rw [ByteArray.data_append]
  simp
theorem put_ok {w w' : World} {o : Option (List UInt8)} {t : List UInt8} {s : ByteArray} {b : Bool} (h : o = some t) (hs : s = ⟨t.toArray⟩) (hb : b = true) (hw : Below w.heap.size w w') : PutQ w o (.returned (.tuple #[.string s, .bool b])) w' := by
  subst h; subst hs; subst hb; exact ⟨rfl, hw⟩
theorem put_no {w w' : World} {o : Option (List UInt8)} {s : ByteArray} {b : Bool} (h : o = none) (hs : s = ⟨#[]⟩) (hb : b = false) (hw : Below w.heap.size w w') : PutQ w o (.returned (.tuple #[.string s, .bool b])) w' := by
  subst h; subst hs; subst hb; exact ⟨rfl, hw⟩
theorem rv_len {w : World} {v : Value} {l : List Value} (h : RV w v l) : ∃ ao cap, v = .slice ao l.length cap := by
  obtain ⟨ao, cap, hv, _⟩ := h; exact ⟨ao, cap, hv⟩
end Go.Proofs.Ytefneihlgclkbaa.fmo
