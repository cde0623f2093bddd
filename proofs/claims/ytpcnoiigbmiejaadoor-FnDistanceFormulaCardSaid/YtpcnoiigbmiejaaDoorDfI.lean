/- DistanceFormula: the program's side: strings.Map with a closure that exchanges two letters, by the library's shelf. -/
import Derived.Test.YtpcnoiigbmiejaaDoorPk1
import Derived.Test.YtpcnoiigbmiejaaDoorShelfM
import Derived.Shelf.Strings.MapGrows
import Derived.Lib.MapLaws
import Derived.Lib.TrimAscii
namespace Go.Proofs.YtpcnoiigbmiejaaDoor.df
set_option linter.unusedVariables false
set_option linter.unusedSimpArgs false
open Go.ChangeShapes Go.WideShapes Go.ChangeAt Go.RowKit Go.Shelf Go.Lib
open Go.Proofs.YtpcnoiigbmiejaaDoor.lib

theorem extra : Builder.Extra Tryd.prog Tryd.lays230_ren where
  sizeBuilder := by kernel_rfl
  liesBuilder := by kernel_rfl
  t5 := Tryd.lays230.t5
  a5 := Tryd.lays230.a5
  z5 := Tryd.lays230.z5
  v5 := Tryd.lays230.v5
  infoByte := by kernel_rfl
  cellsByte := by kernel_rfl
  sizeByte := by kernel_rfl
  neB5 := by decide
/-- the library's two tables -/
def Tabs (w : World) : Prop := Lib.Utf8Tabs (Tryd.lays230_ren.g 3) (Tryd.lays230_ren.g 4) w
theorem tabs_below {w w' : World} (h : Tabs w) (hb : Below w.heap.size w w') : Tabs w' := Utf8Tabs_below h hb

def ex (r : Int) : Int := if r = 97 then 99 else if r = 99 then 97 else r
def exB (b : UInt8) : UInt8 := if b = 97 then 99 else if b = 99 then 97 else b
theorem clo_any (x : Nat) (w : World) (hx : x ≤ 1114111) :
    Calls Tryd.prog 134 #[.int .i32 x] w fun e w' => e = .returned (.int .i32 (ex x)) ∧ w = w' := by
  by_cases h1 : x = 97
  · subst h1
    go_enter Tryd.func134, Tryd.ntmps134
    go_wp2
    go_ret
    exact ⟨rfl, rfl⟩
  · have e1 : ((x : Int) == 97) = false := by simp; omega
    by_cases h2 : x = 99
    · subst h2
      clear e1
      go_enter Tryd.func134, Tryd.ntmps134
      go_wp2
      go_ret
      exact ⟨rfl, rfl⟩
    · have e2 : ((x : Int) == 99) = false := by simp; omega
      have HE : Hid (ex x = x) := by unfold Hid ex; rw [if_neg (by omega), if_neg (by omega)]
      go_enter Tryd.func134, Tryd.ntmps134
      go_wp2
      go_ret
      exact ⟨by rw [HE.out]; rfl, rfl⟩
theorem clo_pays (w : World) : MapGrows Tryd.prog 134 #[] ex w := by
  intro W x hx hb
  exact (clo_any x W hx).mono fun e w' ⟨he, hw⟩ => ⟨he, hw ▸ Below.refl _ _⟩
theorem ex_range (x : Nat) (hx : x ≤ 1114111) : -2147483648 ≤ ex x ∧ ex x ≤ 2147483647 := by
  unfold ex
  split
  · omega
  · split <;> omega
theorem ex_byte (b : UInt8) (hb : b.toNat < 128) : 0 ≤ ex b.toNat ∧ encodeRune (ex b.toNat) = [exB b] := by
  have hlt : ∀ n : Nat, n < 128 → 0 ≤ ex n ∧ encodeRune (ex n) = [exB n.toUInt8] := by decide
  have := hlt b.toNat hb
  rwa [show b.toNat.toUInt8 = b from by simp] at this
theorem mapD_ascii : ∀ (l : List UInt8), (∀ b ∈ l, b.toNat < 128) → mapD ex l = l.map exB
  | [], _ => rfl
  | b :: l, h => by
    have hb := h b List.mem_cons_self
    obtain ⟨h1, h2⟩ := ex_byte b hb
    rw [mapD_step ex (b :: l) (by simp), decodeL_ascii b l hb]
    simp only [List.drop_succ_cons, List.drop_zero, List.map_cons]
    rw [if_pos h1, h2, mapD_ascii l (fun c hc => h c (List.mem_cons_of_mem _ hc))]
    rfl
theorem exchanged_any (s : ByteArray) (w : World) (hs : s.size ≤ 10000) (ha : ∀ b ∈ s.data.toList, b.toNat < 128) (hT : Tabs w) :
    Calls Tryd.prog 83 #[.string s] w fun e w' => e = .returned (.string ⟨(s.data.toList.map exB).toArray⟩) ∧ Below w.heap.size w w' := by
  have cM : Calls Tryd.prog 133 #[.func (.func 134) #[] #[], .string s] w _ :=
    Any.strings_Map_grows Tryd.lays230 extra 134 #[] (enters_of Tryd.func134 (by kernel_rfl) rfl) ex s w (by omega) (clo_pays w) ex_range hT
  rw [mapD_ascii _ ha] at cM
  clear hT ha
  go_enter Tryd.func83, Tryd.ntmps83
  go_wp2_with fail
  refine cM.mono ?_
  rintro e w1 ⟨rfl, hb⟩
  go_wp2
  go_ret
  exact ⟨rfl, hb⟩
theorem exB_wl : ∀ (d : Nat), (wl d 97 99).map exB = wl d 99 97 ∧ (wl d 99 97).map exB = wl d 97 99
  | 0 => by decide
  | d + 1 => by
    obtain ⟨h1, h2⟩ := exB_wl d
    constructor
    · rw [wl, List.map_append, h2, wl]; rfl
    · rw [wl, List.map_append, h1, wl]; rfl
theorem wl_ascii : ∀ (d : Nat) (v h : UInt8), v.toNat < 128 → h.toNat < 128 → ∀ b ∈ wl d v h, b.toNat < 128
  | 0, v, h, hv, hh, b, hb => by simp [wl] at hb; rcases hb with rfl | rfl | rfl <;> first | exact hv | decide
  | d + 1, v, h, hv, hh, b, hb => by
    rw [wl] at hb
    rcases List.mem_append.1 hb with hb | hb
    · simp at hb
      rcases hb with rfl | rfl | rfl | rfl | rfl | rfl | rfl | rfl | rfl | rfl | rfl | rfl | rfl | rfl <;> first | exact hv | exact hh | decide
    · exact wl_ascii d h v hh hv b hb
/-- the program's exchange of a formula for a distance -/
theorem exchanged_wb (d : Nat) (w : World) (hd : d ≤ 100) (hT : Tabs w) :
    Calls Tryd.prog 83 #[.string (wb d 97 99)] w fun e w' => e = .returned (.string (wb d 99 97)) ∧ Below w.heap.size w w' := by
  have h := exchanged_any (wb d 97 99) w (by rw [wb_size]; omega) (fun b hb => wl_ascii d 97 99 (by decide) (by decide) b (by simpa [wb] using hb)) hT
  have e : (wb d 97 99).data.toList.map exB = wl d 99 97 := by simp only [wb]; exact (exB_wl d).1
  rw [e] at h
  exact h

theorem shortFormula_any (s : ByteArray) (w : World) (hs : s.size ≤ 4000) :
    Calls Tryd.prog 84 #[.string s, .bool true] w fun e w' => e = .returned (.tuple #[.string s, .bool true]) ∧ w = w' := by
  go_enter Tryd.func84, Tryd.ntmps84
  go_wp2
  go_ret2
  exact ⟨rfl, rfl⟩

/-- what DistanceFormula returns -/
def okD (d : Int) : Bool := decide (0 ≤ d ∧ d ≤ 100)
def dfS (d : Int) : ByteArray := if okD d = true then wb d.toNat 97 99 else ⟨#[]⟩
theorem wb_succ (k : Nat) : (⟨#[124, 61, 97, 98, 83, 99, 38, 124, 69, 97, 99, 69, 99, 97]⟩ : ByteArray) ++ wb k 99 97 = wb (k + 1) 97 99 := by
  apply ByteArray.ext
  rw [ByteArray.data_append]
  simp [wb, wl]

set_option maxHeartbeats 800000 in
theorem implDf_any (d : Int) (w : World) (hT : Tabs w) :
    Calls Tryd.prog 36 #[.int .i64 d] w fun e w' => e = .returned (.tuple #[.string (dfS d), .bool (okD d)]) ∧ Below w.heap.size w w' := by
  by_cases h0 : 0 ≤ d
  · by_cases h1 : d ≤ 100
    · obtain ⟨D, rfl⟩ : ∃ D : Nat, d = D := ⟨d.toNat, by omega⟩
      have HE : Hid (okD D = true ∧ dfS D = wb D 97 99) := by
        have h : okD D = true := decide_eq_true ⟨by omega, by omega⟩
        exact ⟨h, by unfold dfS; rw [if_pos h]; rfl⟩
      have HT := Lib.hid hT
      clear hT
      go_enter Tryd.func36, Tryd.ntmps36
      go_wp2
      go_loopw [4, 12] (fun f i wr => ∃ k : Nat, k ≤ D ∧ i = .int .i64 k ∧ f = .string (wb k 97 99) ∧ Below w.heap.size w wr) (fun _ i _ => D - (intOf i).toNat)
      case atStart => exact ⟨0, Nat.zero_le _, rfl, rfl, Below.refl _ _⟩
      case round =>
        obtain ⟨k, hk, rfl, rfl, hb⟩ := hrel
        have HB := Lib.hid hb
        clear hb
        by_cases hlt : k < D
        · go_wp2_with fail
          refine (exchanged_wb k _ (by omega) (tabs_below HT.out HB.out)).mono ?_
          rintro e w1 ⟨rfl, hb⟩
          have HB1 : Hid (Below w.heap.size w w1) := HB.out.trans (hb.mono HB.out.size)
          have hz : (wb k 99 97).size ≤ 2000 := by rw [wb_size]; omega
          clear hb
          go_wp2
          go_roundw
          case rel => exact ⟨k + 1, by omega, by go_num, congrArg Value.string (wb_succ k), HB1.out⟩
          case measure => simp [intOf]; omega
        · obtain rfl : D = k := by omega
          have hz : (wb D 97 99).size ≤ 4000 := by rw [wb_size]; omega
          go_wp2_with fail
          refine (shortFormula_any _ _ hz).mono ?_
          rintro e w1 ⟨rfl, rfl⟩
          go_wp2
          go_ret2
          exact ⟨by rw [HE.out.1, HE.out.2]; rfl, HB.out⟩
    · have HE : Hid (okD d = false ∧ dfS d = ⟨#[]⟩) := by
        have h : okD d = false := decide_eq_false (by omega)
        exact ⟨h, by unfold dfS; rw [h]; rfl⟩
      clear hT
      go_enter Tryd.func36, Tryd.ntmps36
      go_wp2
      go_ret2
      exact ⟨by rw [HE.out.1, HE.out.2]; rfl, Below.refl _ _⟩
  · have HE : Hid (okD d = false ∧ dfS d = ⟨#[]⟩) := by
      have h : okD d = false := decide_eq_false (by omega)
      exact ⟨h, by unfold dfS; rw [h]; rfl⟩
    clear hT
    go_enter Tryd.func36, Tryd.ntmps36
    go_wp2
    go_ret2
    exact ⟨by rw [HE.out.1, HE.out.2]; rfl, Below.refl _ _⟩
theorem specDf_any (d : Int) (w : World) :
    Calls Tryd.prog 37 #[.int .i64 d] w fun e w' => e = .returned (.tuple #[.string (dfS d), .bool (okD d)]) ∧ w = w' := by
  by_cases h : 0 ≤ d ∧ d ≤ 100
  · obtain ⟨D, rfl⟩ : ∃ D : Nat, d = D := ⟨d.toNat, by omega⟩
    have HE : Hid (okD D = true ∧ dfS D = wb D 97 99) := by
      have h : okD D = true := decide_eq_true h
      exact ⟨h, by unfold dfS; rw [if_pos h]; rfl⟩
    have HI : Hid (basic.inB D 0 100 = true) := decide_eq_true h
    have hd : D ≤ 100 := by omega
    clear h
    go_enter Tryd.func37, Tryd.ntmps37
    go_wp2_with fail
    refine (basic.l1In_any _ _ _ _).mono ?_
    rintro e w1 ⟨rfl, rfl⟩
    rw [HI.out]
    go_wp2_with fail
    refine ((within_any D hd).1 _).mono ?_
    rintro e w1 ⟨rfl, rfl⟩
    go_wp2
    go_ret2
    exact ⟨by rw [HE.out.1, HE.out.2]; rfl, rfl⟩
  · have HE : Hid (okD d = false ∧ dfS d = ⟨#[]⟩) := by
      have h : okD d = false := decide_eq_false h
      exact ⟨h, by unfold dfS; rw [h]; rfl⟩
    have HI : Hid (basic.inB d 0 100 = false) := decide_eq_false h
    clear h
    go_enter Tryd.func37, Tryd.ntmps37
    go_wp2_with fail
    refine (basic.l1In_any _ _ _ _).mono ?_
    rintro e w1 ⟨rfl, rfl⟩
    rw [HI.out]
    go_wp2
    go_ret2
    exact ⟨by rw [HE.out.1, HE.out.2]; rfl, rfl⟩
end Go.Proofs.YtpcnoiigbmiejaaDoor.df
