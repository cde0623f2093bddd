/- makeStructure: a structure out of two tests. -/
import Derived.Test.YtpcnoiigbmiejaaDoorRows
import Derived.Test.YtpcnoiigbmiejaaDoorBase
import Derived.Laws.Concat
import Derived.WalkSpells
import Derived.Deep.RegionWith
import Derived.Deep.DeepCutAuto
namespace Go.Proofs.YtpcnoiigbmiejaaDoor.make
set_option linter.unusedVariables false
set_option linter.unusedSimpArgs false
open Go.ChangeShapes Go.WideShapes Go.ChangeAt Go.RowKit
open Go.Proofs.YtpcnoiigbmiejaaDoor.lib Go.Proofs.YtpcnoiigbmiejaaDoor.st Go.Proofs.YtpcnoiigbmiejaaDoor.base

def bit1 (b : Bool) : ByteArray := ⟨#[if b then 49 else 48]⟩
/-- the bits of a test -/
def bS (p : Nat → Bool) : Nat → ByteArray
  | 0 => ⟨#[]⟩
  | k + 1 => bS p k ++ bit1 (p k)
/-- a text with a row of bits behind it -/
def bRow (acc : ByteArray) (q : Nat → Bool) : Nat → ByteArray
  | 0 => acc
  | k + 1 => bRow acc q k ++ bit1 (q k)
/-- the rows of a test of pairs -/
def bR (q : Nat → Nat → Bool) (n : Nat) : Nat → ByteArray
  | 0 => ⟨#[]⟩
  | k + 1 => bRow (bR q n k) (q k) n
theorem bit1_size (b : Bool) : (bit1 b).size = 1 := rfl
theorem bS_size (p : Nat → Bool) : ∀ k, (bS p k).size = k
  | 0 => rfl
  | k + 1 => by rw [bS, ByteArray.size_append, bS_size p k, bit1_size]
theorem bRow_size (acc : ByteArray) (q : Nat → Bool) : ∀ k, (bRow acc q k).size = acc.size + k
  | 0 => rfl
  | k + 1 => by rw [bRow, ByteArray.size_append, bRow_size acc q k, bit1_size]; omega
theorem bR_size (q : Nat → Nat → Bool) (n : Nat) : ∀ k, (bR q n k).size = k * n
  | 0 => by rw [bR, Nat.zero_mul]; rfl
  | k + 1 => by rw [bR, bRow_size, bR_size q n k, Nat.succ_mul]

/-- a function value that is called enters its function -/
def Enters (f : FuncId) : Prop := ∀ (args : Array Value) (W : World), (callFunc f args).run Tryd.prog W = .ok (.enter f args) W
theorem enters_of {f : FuncId} {fn : Func} (hf : Tryd.prog.funcs[f]? = some fn) (hname : (fn.name == "runtime.NumGoroutine") = false) (hb : fn.body.isNone = false) : Enters f := by
  intro args W
  have h1 : fn.name ≠ "runtime.NumGoroutine" := by simpa using hname
  have h2 : ¬ fn.body = none := by intro h; rw [h] at hb; cases hb
  simp [callFunc, hf, h1, h2]

end Go.Proofs.YtpcnoiigbmiejaaDoor.make
