/- Formulas in the program: parsePart, a node under way. -/
import Derived.Test.YtefneihlgclkbaaFmW
import Derived.OneCell
import Derived.Laws.Strings
import Derived.Laws.Strings2
import Derived.BigRegion
import Derived.Deep.CutRange
import Derived.Deep.DeepCutAuto
import Derived.Test.YtefneihlgclkbaaFlow
namespace Go.Proofs.Ytefneihlgclkbaa.fmx
set_option linter.unusedVariables false
set_option linter.unusedSimpArgs false
open Go.ChangeShapes Go.WideShapes Go.ChangeAt Go.RowKit
open Go.Proofs.Ytefneihlgclkbaa.lib Go.Proofs.Ytefneihlgclkbaa.fm Go.Proofs.Ytefneihlgclkbaa.fmp Go.Proofs.Ytefneihlgclkbaa.fmt Go.Proofs.Ytefneihlgclkbaa.fmu Go.Proofs.Ytefneihlgclkbaa.fme Go.Proofs.Ytefneihlgclkbaa.fmf Go.Proofs.Ytefneihlgclkbaa.fmw

theorem infoB : (Try.prog.info? 5).map (fun i => (i.zero, i.size, i.bytes)) = some (some (.int .u8 0), 1, 1) := by kernel_rfl
theorem infoP : (Try.prog.info? 40).map (fun i => (i.zero, i.size, i.bytes)) = some (some (.pointer none), 1, 8) := by kernel_rfl
def bv (us : List Nat) : List Value := us.map fun v => .int .u8 (vb v).toNat
def pv (ps : List Nat) : List Value := ps.map fun k => .pointer (some ⟨k, 0, none⟩)
/-- a node under way: its slices are the call's own -/
structure Nd (w : World) (C H : Nat) (op : UInt8) (v p : Value) (us ps : List Nat) (fr al : Nat) : Prop where
  row : w.heap[H]? = some (.cells #[.int .u8 op.toNat, v, p, .int .i64 fr, .int .i64 al] 49 (0, 0))
  vs : w.ownsRow C 5 1 v us.length (bv us)
  ps : w.ownsRow C 40 1 p ps.length (pv ps)
  ap : Apart v p
  lt : H < C
  u4 : ∀ u, u ∈ us → u < 4
  fl : fr < 16 ∧ al < 16
theorem own_rv {w : World} {C n : Nat} {T : TypeId} {v : Value} {l : List Value} (h : w.ownsRow C T 1 v n l) (hn : n = l.length) : RV w v l := by
  subst hn
  have h0 := h
  rcases h.2 with ⟨rfl, hn⟩ | ⟨g, cap, cur, rfl, _⟩
  · exact ⟨none, 0, by rw [hn], .inl (List.length_eq_zero_iff.1 hn)⟩
  · refine ⟨_, _, rfl, .inr ⟨g, 0, rfl, fun i hi => ?_⟩⟩
    have := h0.cellAt i (by omega)
    rw [Nat.zero_add, this, List.getElem?_eq_getElem hi]
theorem Nd.node {w : World} {C H : Nat} {op : UInt8} {v p : Value} {us ps : List Nat} {fr al : Nat} (h : Nd w C H op v p us ps fr al) : fmt.Node 49 w H op us ps fr al := by
  exact ⟨v, p, h.row, own_rv h.vs (by simp [bv]), own_rv h.ps (by simp [pv])⟩
theorem Nd.cells {w : World} {C H : Nat} {op : UInt8} {v p : Value} {us ps : List Nat} {fr al : Nat} (h : Nd w C H op v p us ps fr al) :
    w.cell? ⟨H, 0, none⟩ = some (.int .u8 op.toNat) ∧ w.cell? ⟨H, 1, none⟩ = some v ∧ w.cell? ⟨H, 2, none⟩ = some p ∧ w.cell? ⟨H, 3, none⟩ = some (.int .i64 fr) ∧ w.cell? ⟨H, 4, none⟩ = some (.int .i64 al) := by
  have h1 := h.row
  refine ⟨?_, ?_, ?_, ?_, ?_⟩ <;> simp [World.cell?, h1]
theorem Nd.free {w : World} {C H : Nat} {op : UInt8} {v p : Value} {us ps : List Nat} {fr al : Nat} (h : Nd w C H op v p us ps fr al) (j : Nat) : w.frozen? ⟨H, j, none⟩ = false := frozen_of_row w H j _ _ h.row
theorem Nd.hlt {w : World} {C H : Nat} {op : UInt8} {v p : Value} {us ps : List Nat} {fr al : Nat} (h : Nd w C H op v p us ps fr al) : H < w.heap.size := (Array.getElem?_eq_some_iff.1 h.row).1
theorem own_ne {w : World} {C H n : Nat} {T : TypeId} {v : Value} {l : List Value} (h : w.ownsRow C T 1 v n l) (hH : H < C) : v.ownBlock ≠ some H := fun e => by have := (h.lt H e).1; omega
theorem own_below {w w' : World} {B C n : Nat} {T : TypeId} {v : Value} {l : List Value} (h : w.ownsRow B T 1 v n l) (hb : Below C w w') (hC : w.heap.size ≤ C) : w'.ownsRow B T 1 v n l := by
  refine ⟨h.1, ?_⟩
  rcases h.2 with hn | ⟨g, cap, cur, hv, hg, hh, r⟩
  · exact .inl hn
  · have := (Array.getElem?_eq_some_iff.1 hh).1
    exact .inr ⟨g, cap, cur, hv, hg, by rw [hb.block g (by omega)]; exact hh, r⟩
theorem Nd.below {w w' : World} {C H D : Nat} {op : UInt8} {v p : Value} {us ps : List Nat} {fr al : Nat} (h : Nd w C H op v p us ps fr al) (hb : Below D w w') (hD : w.heap.size ≤ D) : Nd w' C H op v p us ps fr al :=
  ⟨by rw [hb.block H (Nat.lt_of_lt_of_le h.hlt hD)]; exact h.row, own_below h.vs hb hD, own_below h.ps hb hD, h.ap, h.lt, h.u4, h.fl⟩
theorem Nd.drew {w : World} {C H : Nat} {op : UInt8} {v p : Value} {us ps : List Nat} {fr al : Nat} (h : Nd w C H op v p us ps fr al) : Nd w.drew C H op v p us ps fr al := ⟨h.row, h.vs, h.ps, h.ap, h.lt, h.u4, h.fl⟩
theorem Nd.setF {w : World} {C H : Nat} {op : UInt8} {v p : Value} {us ps : List Nat} {fr al : Nat} (h : Nd w C H op v p us ps fr al) (x : Nat) (hx : x < 16) : Nd (w.setCell ⟨H, 3, none⟩ (.int .i64 x)) C H op v p us ps x al :=
  ⟨by have := heap_setCell_same w H 3 _ _ (.int .i64 x) h.row; rw [this]; rfl, ownsRow_setCell_other h.vs (own_ne h.vs h.lt) _, ownsRow_setCell_other h.ps (own_ne h.ps h.lt) _, h.ap, h.lt, h.u4, hx, h.fl.2⟩
theorem Nd.setA {w : World} {C H : Nat} {op : UInt8} {v p : Value} {us ps : List Nat} {fr al : Nat} (h : Nd w C H op v p us ps fr al) (x : Nat) (hx : x < 16) : Nd (w.setCell ⟨H, 4, none⟩ (.int .i64 x)) C H op v p us ps fr x :=
  ⟨by have := heap_setCell_same w H 4 _ _ (.int .i64 x) h.row; rw [this]; rfl, ownsRow_setCell_other h.vs (own_ne h.vs h.lt) _, ownsRow_setCell_other h.ps (own_ne h.ps h.lt) _, h.ap, h.lt, h.u4, h.fl.1, hx⟩
theorem Nd.appV {w w1 : World} {C H : Nat} {op : UInt8} {v v' p : Value} {us ps : List Nat} {fr al : Nat} (h : Nd w C H op v p us ps fr al) {u : Nat} (hu : u < 4)
    {n : Nat} (hn : n = us.length) {x : Int} (hx : x = (vb u).toNat) (ho : w1.ownsRow C 5 1 v' (n + 1) (bv us ++ [.int .u8 x])) (hg : Grew w w1 v v') : Nd (w1.setCell ⟨H, 1, none⟩ v') C H op v' p (us ++ [u]) ps fr al := by
  have hr : w1.heap[H]? = some (.cells #[.int .u8 op.toNat, v, p, .int .i64 fr, .int .i64 al] 49 (0, 0)) := by
    rw [hg.grown.block H h.hlt (fun e => own_ne h.vs h.lt e.symm)]; exact h.row
  have hk := hg.keep h.ps h.ap
  subst hn
  subst hx
  refine ⟨by have := heap_setCell_same w1 H 1 _ _ v' hr; rw [this]; rfl, ?_, ownsRow_setCell_other hk.1 (own_ne hk.1 h.lt) _, hk.2, h.lt, fun x hx => ?_, h.fl⟩
  · have := ownsRow_setCell_other ho (a := ⟨H, 1, none⟩) (own_ne ho h.lt) v'
    unfold bv
    rw [List.length_append, List.map_append]
    exact this
  · rcases List.mem_append.1 hx with hx | hx
    · exact h.u4 x hx
    · rw [List.mem_singleton.1 hx]; exact hu
theorem Nd.appP {w w1 : World} {C H : Nat} {op : UInt8} {v p p' : Value} {us ps : List Nat} {fr al : Nat} (h : Nd w C H op v p us ps fr al) {u : Nat}
    {n : Nat} (hn : n = ps.length) (ho : w1.ownsRow C 40 1 p' (n + 1) (pv ps ++ [.pointer (some ⟨u, 0, none⟩)])) (hg : Grew w w1 p p') : Nd (w1.setCell ⟨H, 2, none⟩ p') C H op v p' us (ps ++ [u]) fr al := by
  have hr : w1.heap[H]? = some (.cells #[.int .u8 op.toNat, v, p, .int .i64 fr, .int .i64 al] 49 (0, 0)) := by
    rw [hg.grown.block H h.hlt (fun e => own_ne h.ps h.lt e.symm)]; exact h.row
  have hk := hg.keep h.vs h.ap.symm
  subst hn
  refine ⟨by have := heap_setCell_same w1 H 2 _ _ p' hr; rw [this]; rfl, ownsRow_setCell_other hk.1 (own_ne hk.1 h.lt) _, ?_, hk.2.symm, h.lt, h.u4, h.fl⟩
  have := ownsRow_setCell_other ho (a := ⟨H, 2, none⟩) (own_ne ho h.lt) p'
  unfold pv
  rw [List.length_append, List.map_append]
  exact this
theorem Nd.grewV {w w1 : World} {C H : Nat} {op : UInt8} {v v' p : Value} {us ps : List Nat} {fr al : Nat} (h : Nd w C H op v p us ps fr al) (hg : Grew w w1 v v') : w1.cell? ⟨H, 1, none⟩ = some v ∧ w1.frozen? ⟨H, 1, none⟩ = false := by
  have hr : w1.heap[H]? = some (.cells #[.int .u8 op.toNat, v, p, .int .i64 fr, .int .i64 al] 49 (0, 0)) := by
    rw [hg.grown.block H h.hlt (fun e => own_ne h.vs h.lt e.symm)]; exact h.row
  exact ⟨by simp [World.cell?, hr], frozen_of_row w1 H 1 _ _ hr⟩
theorem Nd.grewP {w w1 : World} {C H : Nat} {op : UInt8} {v p p' : Value} {us ps : List Nat} {fr al : Nat} (h : Nd w C H op v p us ps fr al) (hg : Grew w w1 p p') : w1.cell? ⟨H, 2, none⟩ = some p ∧ w1.frozen? ⟨H, 2, none⟩ = false := by
  have hr : w1.heap[H]? = some (.cells #[.int .u8 op.toNat, v, p, .int .i64 fr, .int .i64 al] 49 (0, 0)) := by
    rw [hg.grown.block H h.hlt (fun e => own_ne h.ps h.lt e.symm)]; exact h.row
  exact ⟨by simp [World.cell?, hr], frozen_of_row w1 H 2 _ _ hr⟩
theorem Nd.new (w : World) (op : UInt8) : Nd (w.alloc (.cells #[.int .u8 op.toNat, .slice none 0 0, .slice none 0 0, .int .i64 0, .int .i64 0] 49)) (w.heap.size + 1) w.heap.size op (.slice none 0 0) (.slice none 0 0) [] [] 0 0 :=
  ⟨heap_alloc_new w _, World.ownsRow_nil _ _ _ _, World.ownsRow_nil _ _ _ _, fun k hk => by simp [Value.ownBlock] at hk, Nat.lt_succ_self _, fun u hu => (by cases hu), ⟨by decide, by decide⟩⟩
theorem own_le {w : World} {B C n : Nat} {T : TypeId} {v : Value} {l : List Value} (h : w.ownsRow C T 1 v n l) (hB : B ≤ C) : w.ownsRow B T 1 v n l := by
  refine ⟨h.1, ?_⟩
  rcases h.2 with hn | ⟨g, cap, cur, hv, hb, r⟩
  · exact .inl hn
  · exact .inr ⟨g, cap, cur, hv, by omega, r⟩
theorem below_grew {w0 w w1 : World} {C n : Nat} {T : TypeId} {v v' : Value} {l : List Value} (hb : Below w0.heap.size w0 w) (hg : Grew w w1 v v') (ho : w.ownsRow C T 1 v n l) (hC : w0.heap.size ≤ C) : Below w0.heap.size w0 w1 :=
  hb.trans (hg.below (own_le ho hC) hb.size)
theorem empty_of {t : ByteArray} (h : t.size = 0) : t.toList.isEmpty = true ∧ t.data.toList = [] := by
  have e : t.data.toList = [] := List.length_eq_zero_iff.1 (by rw [lsz]; exact h)
  rw [ByteArray.toList_eq, e]; exact ⟨rfl, rfl⟩
theorem full_of {t : ByteArray} (h : 0 < t.size) : t.toList.isEmpty = false ∧ t.data.toList = t[0] :: t.data.toList.drop 1 := by
  have e : t.data.toList = t[0] :: t.data.toList.drop 1 := by
    have := drop_at (f := t) (k := 0) h
    rw [List.drop_zero] at this
    exact this
  refine ⟨?_, e⟩
  rw [ByteArray.toList_eq, e]; rfl
theorem ext_first {t : ByteArray} (h : 0 < t.size) : t.extract 0 1 = ⟨#[t[0]]⟩ := by
  apply ByteArray.ext
  rw [ByteArray.data_extract]
  apply Array.ext'
  simp only [Array.toList_extract, List.extract_eq_take_drop]
  rw [drop_at h]
  rfl
theorem isV_at {c : UInt8} (h : isV c = true) : ∃ m, m < 4 ∧ c = vb m ∧ c.toNat = 97 + m := ⟨vn c, vn_lt h, (vb_vn h).symm, by have := of_decide_eq_true h; unfold vn; omega⟩
/-- what of a node under way stays if the blocks from its own on stay -/
theorem Nd.nodeS {w : World} {C H lo : Nat} {op : UInt8} {v p : Value} {us ps : List Nat} {fr al : Nat} (h : Nd w C H op v p us ps fr al) (hlo : lo ≤ H) {w2 : World} (hg : Agree lo w.heap.size w w2) : fmt.Node 49 w2 H op us ps fr al := by
  have key : ∀ {n : Nat} {T : TypeId} {v : Value} {l : List Value}, w.ownsRow C T 1 v n l → w2.ownsRow C T 1 v n l := fun {n T v l} ho => by
    refine ⟨ho.1, ?_⟩
    rcases ho.2 with hn | ⟨g, cap, cur, hv, hb, hh, r⟩
    · exact .inl hn
    · have := (Array.getElem?_eq_some_iff.1 hh).1
      exact .inr ⟨g, cap, cur, hv, hb, by rw [hg g (by have := h.lt; omega) this]; exact hh, r⟩
  exact ⟨v, p, by rw [hg H hlo h.hlt]; exact h.row, own_rv (key h.vs) (by simp [bv]), own_rv (key h.ps) (by simp [pv])⟩
/-- a part that is held: within blocks that the parts' slice does not touch -/
def Held (w : World) (C : Nat) (p : Value) (a : Fm) (k : Nat) : Prop := ∃ lo hi, C ≤ lo ∧ hi ≤ w.heap.size ∧ (∀ g, p.ownBlock = some g → g < lo ∨ hi ≤ g) ∧ TS 49 lo hi w a k
theorem Held.setH {w : World} {C H : Nat} {p : Value} {a : Fm} {k : Nat} (h : Held w C p a k) (hH : H < C) (j : Nat) (x : Value) : Held (w.setCell ⟨H, j, none⟩ x) C p a k := by
  obtain ⟨lo, hi, h1, h2, h3, h4⟩ := h
  refine ⟨lo, hi, h1, by simpa using h2, h3, h4.to fun b hb _ => ?_⟩
  exact Below.heap_setCell _ _ _ _ (by intro e; simp at e; omega)
theorem Held.call {w w' : World} {C D : Nat} {p : Value} {a : Fm} {k : Nat} (h : Held w C p a k) (hb : Below D w w') (hD : w.heap.size ≤ D) : Held w' C p a k := by
  obtain ⟨lo, hi, h1, h2, h3, h4⟩ := h
  exact ⟨lo, hi, h1, Nat.le_trans h2 hb.size, h3, h4.to (Agree.of_below hb (by omega))⟩
theorem Held.app {w w1 : World} {C : Nat} {p p' : Value} {a : Fm} {k : Nat} (h : Held w C p a k) (hg : Grew w w1 p p') : Held w1 C p' a k := by
  obtain ⟨lo, hi, h1, h2, h3, h4⟩ := h
  refine ⟨lo, hi, h1, Nat.le_trans h2 hg.grown.size, fun g hgb => ?_, h4.to fun b hb hb2 => hg.grown.block b (by omega) fun e => ?_⟩
  · rcases hg.blk g hgb with e | e
    · exact h3 g e
    · exact .inr (by omega)
  · rcases h3 b e.symm with e | e <;> omega
theorem Held.new {w w' : World} {C n : Nat} {T : TypeId} {p : Value} {l : List Value} {a : Fm} {k : Nat} (ho : w.ownsRow C T 1 p n l) (hC : C ≤ w.heap.size) (h : TS 49 w.heap.size w'.heap.size w' a k) : Held w' C p a k :=
  ⟨_, _, hC, Nat.le_refl _, fun g hg => .inl (ho.lt g hg).2, h⟩
/-- parts one behind the other -/
def Chain : List UInt8 → List Fm → List UInt8 → Prop
  | l, [], r => l = r
  | l, a :: q, r => ∃ m, read l = some (a, m) ∧ Chain m q r
theorem Chain.snoc {a : Fm} {t : List UInt8} : ∀ {l : List UInt8} {q : List Fm} {r : List UInt8}, Chain l q r → read r = some (a, t) → Chain l (q ++ [a]) t
  | _, [], _, h, h2 => ⟨_, h ▸ h2, rfl⟩
  | _, _ :: _, _, ⟨m, h1, h3⟩, h2 => ⟨m, h1, Chain.snoc h3 h2⟩
theorem chain_one {l r : List UInt8} {q : List Fm} (h : Chain l q r) (hq : q.length = 1) : ∃ a, q = [a] ∧ read l = some (a, r) := by
  match q, hq, h with
  | [a], _, ⟨m, h1, h2⟩ => exact ⟨a, rfl, by rw [h1]; exact congrArg (fun z => some (a, z)) h2⟩
theorem chain_two {l r : List UInt8} {q : List Fm} (h : Chain l q r) (hq : q.length = 2) : ∃ a b m, q = [a, b] ∧ read l = some (a, m) ∧ read m = some (b, r) := by
  match q, hq, h with
  | [a, b], _, ⟨m, h1, m2, h2, h3⟩ => exact ⟨a, b, m, rfl, h1, by rw [h2]; exact congrArg (fun z => some (b, z)) h3⟩
theorem chain_nil {l r : List UInt8} {q : List Fm} (h : Chain l q r) (hq : q.length = 0) : l = r := by
  match q, hq, h with
  | [], _, h => exact h
theorem chain_ok {r : List UInt8} : ∀ {l : List UInt8} {q : List Fm}, Chain l q r → ∀ a, a ∈ q → a.ok
  | _, [], _, a, h => by cases h
  | _, b :: q, ⟨m, h1, h2⟩, a, h => by
    rcases List.mem_cons.1 h with rfl | h
    · exact (read_sound h1).1
    · exact chain_ok h2 a h
theorem chain_len {r : List UInt8} : ∀ {l : List UInt8} {q : List Fm}, Chain l q r → r.length ≤ l.length
  | _, [], h => by rw [show _ = r from h]; exact Nat.le_refl _
  | _, b :: q, ⟨m, h1, h2⟩ => by have := chain_len h2; have := (read_sound h1).2.2; omega
def frs (q : List Fm) : Nat := q.foldl (fun x a => x ||| a.free) 0
def als (x : Nat) (q : List Fm) : Nat := q.foldl (fun x a => x ||| Fm.all a) x
theorem frs_snoc (q : List Fm) (a : Fm) : frs (q ++ [a]) = frs q ||| a.free := by unfold frs; rw [List.foldl_append]; rfl
theorem als_snoc (x : Nat) (q : List Fm) (a : Fm) : als x (q ++ [a]) = als x q ||| Fm.all a := by unfold als; rw [List.foldl_append]; rfl
def alls (us : List Nat) : Nat := us.foldl (fun a u => a ||| 1 <<< u) 0
theorem alls_snoc (us : List Nat) (u : Nat) : alls (us ++ [u]) = alls us ||| 1 <<< u := by unfold alls; rw [List.foldl_append]; rfl
theorem alls_lt : ∀ (us : List Nat), (∀ u, u ∈ us → u < 4) → alls us < 16 := by
  intro us
  have key : ∀ (l : List Nat) (a : Nat), a < 16 → (∀ u, u ∈ l → u < 4) → l.foldl (fun a u => a ||| 1 <<< u) a < 16 := by
    intro l
    induction l with
    | nil => intro a ha _; exact ha
    | cons x l ih => intro a ha h; exact ih _ (or_lt ⟨a, ha⟩ ⟨1 <<< x, sh_lt ⟨x, h x List.mem_cons_self⟩⟩) fun u hu => h u (List.mem_cons_of_mem _ hu)
  exact key us 0 (by decide)
end Go.Proofs.Ytefneihlgclkbaa.fmx
