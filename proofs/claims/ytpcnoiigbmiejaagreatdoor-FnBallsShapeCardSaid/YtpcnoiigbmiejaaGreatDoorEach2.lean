/- eachShape, the whole. -/
import Derived.Test.YtpcnoiigbmiejaaGreatDoorEach
import Derived.Laws.EntriesVeiled
namespace Go.Proofs.YtpcnoiigbmiejaaGreatDoor.each
set_option linter.unusedVariables false
set_option linter.unusedSimpArgs false
open Go.ChangeShapes Go.WideShapes Go.ChangeAt Go.RowKit
open Go.Proofs.YtpcnoiigbmiejaaGreatDoor.lib Go.Proofs.YtpcnoiigbmiejaaGreatDoor.st Go.Proofs.YtpcnoiigbmiejaaGreatDoor.base Go.Proofs.YtpcnoiigbmiejaaGreatDoor.ord Go.Proofs.YtpcnoiigbmiejaaGreatDoor.fits Go.Proofs.YtpcnoiigbmiejaaGreatDoor.sl
variable {n : Nat} {sa ra sb rb : ByteArray} {ft : FuncId} {cs : Array Value}
variable {σ : Type} {st : σ → List Nat → σ × Bool} {Inv Fin : σ → World → Prop} {B : Nat}
/-- what eachShape leaves -/
def All (st : σ → List Nat → σ × Bool) (Inv Fin : σ → World → Prop) (B : Nat) (w : World) (L : List (List Nat)) (s : σ) (e : Ending) (w' : World) : Prop :=
  ∃ v s' b, e = .returned v ∧ run st L s = (s', b) ∧ (b = true → Inv s' w') ∧ (b = false → Fin s' w') ∧ Below B w w'
/-- the world in which the search begins -/
def start (n : Nat) (sa ra sb rb : ByteArray) (ft : FuncId) (cs : Array Value) (w : World) : World :=
  ((((((w.alloc (.cells #[.int .i64 n, .string sa, .string ra] 24)).alloc (.cells #[.int .i64 n, .string sb, .string rb] 24)).alloc (.cells #[.func (.func ft) #[] cs] 65)).alloc (.cells #[] 3)).alloc
    (.cells #[.slice (some ⟨w.heap.size + 1 + 1 + 1, 0, none⟩) 0 0] 29)).alloc (.cells #[.func (.func 82) #[] (caps w.heap.size)] 59))
theorem start_size (w : World) : (start n sa ra sb rb ft cs w).heap.size = w.heap.size + 6 := by simp [start]
theorem start_below (w : World) : Below w.heap.size w (start n sa ra sb rb ft cs w) := by
  unfold start
  exact ((((((Below.refl _ _).alloc (Nat.le_refl _) _).alloc (by first | (simp; done) | (simp; omega)) _).alloc (by first | (simp; done) | (simp; omega)) _).alloc (by first | (simp; done) | (simp; omega)) _).alloc (by first | (simp; done) | (simp; omega)) _).alloc (by first | (simp; done) | (simp; omega)) _
theorem at_alloc {w : World} {o o' : Obj} {k : Nat} (hk : k < w.heap.size) (h : w.heap[k]? = some o') : (w.alloc o).heap[k]? = some o' := by rw [heap_alloc_old w o hk]; exact h
theorem at_new {w : World} {o : Obj} {k : Nat} (hk : w.heap.size = k) : (w.alloc o).heap[k]? = some o := by subst hk; exact heap_alloc_new w o
theorem start_pl (w : World) : Pl n sa ra sb rb ft cs w.heap.size [] (start n sa ra sb rb ft cs w) := by
  refine ⟨?_, ?_, ?_, ?_, ⟨w.heap.size + 3, 0, ?_, ?_, .inl rfl⟩, by rw [start_size]; exact Nat.le_refl _⟩
  · unfold Box start
    exact at_alloc (by first | (simp; done) | (simp; omega)) (at_alloc (by first | (simp; done) | (simp; omega)) (at_alloc (by first | (simp; done) | (simp; omega)) (at_alloc (by first | (simp; done) | (simp; omega)) (at_alloc (by simp) (at_new rfl)))))
  · unfold Box start
    exact at_alloc (by first | (simp; done) | (simp; omega)) (at_alloc (by first | (simp; done) | (simp; omega)) (at_alloc (by first | (simp; done) | (simp; omega)) (at_alloc (by simp) (at_new (by simp)))))
  · have h : (start n sa ra sb rb ft cs w).heap[w.heap.size + 2]? = some (.cells #[.func (.func ft) #[] cs] 65 (0, 0)) := by
      unfold start
      exact at_alloc (by first | (simp; done) | (simp; omega)) (at_alloc (by first | (simp; done) | (simp; omega)) (at_alloc (by simp) (at_new (by simp))))
    simp [World.cell?, h]
  · have h : (start n sa ra sb rb ft cs w).heap[w.heap.size + 5]? = some (.cells #[.func (.func 82) #[] (caps w.heap.size)] 59 (0, 0)) := by
      unfold start
      exact at_new (by simp)
    simp [World.cell?, h]
  · unfold start
    exact at_alloc (by simp) (at_new (by simp))
  · have h : (start n sa ra sb rb ft cs w).heap[w.heap.size + 3]? = some (.cells #[] 3 (0, 0)) := by
      unfold start
      exact at_alloc (by first | (simp; done) | (simp; omega)) (at_alloc (by simp) (at_new (by simp)))
    exact ⟨rfl, .inr ⟨w.heap.size + 3, 0, #[], rfl, Nat.le_refl _, h, Nat.le_refl _, by decide, rfl, rfl⟩⟩
set_option maxHeartbeats 4000000 in
set_option maxRecDepth 100000 in
theorem eachShape_any (w : World) (J : Job st Inv Fin n sa ra sb rb ft cs B w.heap.size w) (s : σ) (hs : Inv s w) :
    Calls Tryz.prog 40 #[.agg #[.int .i64 n, .string sa, .string ra], .agg #[.int .i64 n, .string sb, .string rb], .func (.func ft) #[] cs] w (All st Inv Fin B w (ords n (okB n sa ra sb rb) n []) s) := by
  have H := Lib.hid (place_any J n [] s (start n sa ra sb rb ft cs w) (by simp) (by simp) (fun o h => h) (J.hI s w _ hs (start_below w)) (start_pl w) ((start_below w).mono J.hB))
  have eP : make.Enters 82 := make.enters_of Tryz.func82 (by kernel_rfl) rfl
  unfold make.Enters at eP
  clear J hs
  go_enter Tryz.func40, Tryz.ntmps40
  go_wp2_with fail
  refine Calls.mono (by exact H.out) ?_
  rintro e W1 (⟨s', hr, rfl, _, hi, hb⟩ | ⟨s', hr, rfl, hf, hb⟩)
  · have R : Hid (All st Inv Fin B w (ords n (okB n sa ra sb rb) n []) s (.returned (.tuple #[])) W1) := ⟨_, s', true, rfl, hr, fun _ => hi, (fun h => by cases h), hb⟩
    clear hr hi hb
    go_wp2
    exact bodyPost_ret (v := .tuple #[]) (by simp [results, Tryz.results40, go_sem]) rfl R.out
  · have R : Hid (All st Inv Fin B w (ords n (okB n sa ra sb rb) n []) s (.returned (.tuple #[])) W1) := ⟨_, s', false, rfl, hr, (fun h => by cases h), fun _ => hf, hb⟩
    clear hr hf hb
    go_wp2
    exact bodyPost_ret (v := .tuple #[]) (by simp [results, Tryz.results40, go_sem]) rfl R.out
end Go.Proofs.YtpcnoiigbmiejaaGreatDoor.each
