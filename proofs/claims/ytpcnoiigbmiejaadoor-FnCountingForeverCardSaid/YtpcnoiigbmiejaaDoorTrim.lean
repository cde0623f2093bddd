/- strings.Trim at the cutset "01", by the library's shelf; the bits of a text. -/
import Derived.Test.YtpcnoiigbmiejaaDoorRows
import Derived.Test.YtpcnoiigbmiejaaDoorLib
import Derived.Test.YtpcnoiigbmiejaaDoorShelf
namespace Go.Proofs.YtpcnoiigbmiejaaDoor.trim
set_option linter.unusedVariables false
set_option linter.unusedSimpArgs false
open Go.RowKit Go.Shelf

/-- every byte is a bit -/
def bitsB (s : ByteArray) : Bool := s.data.toList.all fun b => b == 48 || b == 49
theorem dropWhile_nil {p : UInt8 → Bool} : ∀ {l : List UInt8}, l.dropWhile p = [] ↔ l.all p = true
  | [] => by simp
  | a :: l => by
    by_cases h : p a = true
    · simp [List.dropWhile_cons, h, dropWhile_nil (l := l)]
    · simp [List.dropWhile_cons, h]
theorem dropWhile_all {p : UInt8 → Bool} : ∀ {l : List UInt8}, (l.dropWhile p).all p = l.all p
  | [] => by simp
  | a :: l => by
    by_cases h : p a = true
    · rw [List.dropWhile_cons, if_pos h, dropWhile_all (l := l), List.all_cons, h, Bool.true_and]
    · rw [List.dropWhile_cons, if_neg h]
theorem trimS_nil (l : List UInt8) : Lib.trimS l [48, 49] = [] ↔ l.all (fun b => b == 48 || b == 49) = true := by
  have e : (fun x => [(48 : UInt8), 49].contains x) = (fun b : UInt8 => b == 48 || b == 49) := by
    funext b; by_cases h1 : b = 48 <;> by_cases h2 : b = 49 <;> simp [List.contains_cons, h1, h2]
  unfold Lib.trimS Lib.trimLeftS Lib.trimRightS
  rw [e, dropWhile_nil, List.all_reverse, dropWhile_all, List.all_reverse]

theorem trim01 (s : ByteArray) (w : World) (hs : s.size ≤ 9223372036854775807) :
    Calls Tryd.prog 142 #[.string s, .string ⟨#[48, 49]⟩] w fun e w' => ∃ t : ByteArray, e = .returned (.string t) ∧ t.toList.isEmpty = bitsB s ∧ Below w.heap.size w w' := by
  have hcon := Any.strings_Trim_laid Tryd.lays160 (by kernel_rfl) s ⟨#[48, 49]⟩ w hs (by decide) (ascii_of_all (by decide))
  change Calls Tryd.prog 142 _ _ (fun e w' => e = .returned (.string ⟨(Lib.trimS s.data.toList [48, 49]).toArray⟩) ∧ Below w.heap.size w w') at hcon
  refine hcon.mono fun e w' ⟨he, hb⟩ => ⟨_, he, ?_, hb⟩
  have h := trimS_nil s.data.toList
  rw [ByteArray.toList_eq]
  show (Lib.trimS s.data.toList [48, 49]).isEmpty = bitsB s
  unfold bitsB
  cases hx : s.data.toList.all (fun b => b == 48 || b == 49) with
  | true => rw [h.2 hx]; rfl
  | false =>
    cases ht : Lib.trimS s.data.toList [48, 49] with
    | nil => rw [h.1 ht] at hx; cases hx
    | cons a l => rfl
end Go.Proofs.YtpcnoiigbmiejaaDoor.trim
