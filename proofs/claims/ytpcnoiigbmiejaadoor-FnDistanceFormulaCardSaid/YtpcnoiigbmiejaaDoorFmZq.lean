/- Formulas in the program: parsePart, some letters. -/
import Derived.Test.YtpcnoiigbmiejaaDoorPk9
namespace Go.Proofs.YtpcnoiigbmiejaaDoor.fmzq
set_option linter.unusedVariables false
set_option linter.unusedSimpArgs false
open Go.ChangeShapes Go.WideShapes Go.ChangeAt Go.RowKit
open Go.Proofs.YtpcnoiigbmiejaaDoor.lib Go.Proofs.YtpcnoiigbmiejaaDoor.fm Go.Proofs.YtpcnoiigbmiejaaDoor.fmp Go.Proofs.YtpcnoiigbmiejaaDoor.fmt Go.Proofs.YtpcnoiigbmiejaaDoor.fmu Go.Proofs.YtpcnoiigbmiejaaDoor.fme Go.Proofs.YtpcnoiigbmiejaaDoor.fmf Go.Proofs.YtpcnoiigbmiejaaDoor.fmw Go.Proofs.YtpcnoiigbmiejaaDoor.fmx

open Go.Proofs.YtpcnoiigbmiejaaDoor.fmy Go.Proofs.YtpcnoiigbmiejaaDoor.fmz
set_option maxHeartbeats 6400000 in
set_option maxRecDepth 100000 in
theorem part_q (s : ByteArray) (hs : s.size ≤ 4000) (h0 : 0 < s.size) (hne : s.toList.isEmpty = false) (hx : s[0].toNat = 65 ∨ s[0].toNat = 83 ∨ s[0].toNat = 50 ∨ s[0].toNat = 51 ∨ s[0].toNat = 52) (ih : ∀ t : ByteArray, t.size < s.size → ∀ w, Calls Tryd.prog 135 #[.string t] w (PartP 84 w t.data.toList)) (w : World) :
    Calls Tryd.prog 135 #[.string s] w (PartP 84 w s.data.toList) := by
  have HSO : Hid (sort s[0] = .qu) := by
    rcases hx with hx | hx | hx | hx | hx
    · exact sort_of 65 hx rfl
    · exact sort_of 83 hx rfl
    · exact sort_of 50 hx rfl
    · exact sort_of 51 hx rfl
    · exact sort_of 52 hx rfl
  have HQ : Hid (isQ s[0].toNat = true) := by
    rcases hx with hx | hx | hx | hx | hx <;> (rw [Hid, hx]; rfl)
  have HS0 : Hid (s.data.toList = s[0] :: s.data.toList.drop 1) := (full_of h0).2
  have hs1 : 0 < s.size := h0
  have IH := Lib.hid ih
  have TL0 : Hid (s.data.toList.drop 1 = ([] : List Nat).map vb ++ (s.extract 1 s.size).data.toList) := by rw [tail_one]; rfl
  have ND0 : Hid (Nd (w.alloc (.cells #[.int .u8 s[0].toNat, .slice none 0 0, .slice none 0 0, .int .i64 0, .int .i64 0] 84)) (w.heap.size + 1) w.heap.size s[0] (.slice none 0 0) (.slice none 0 0) [] [] 0 (alls []) ∧ Below w.heap.size w (w.alloc (.cells #[.int .u8 s[0].toNat, .slice none 0 0, .slice none 0 0, .int .i64 0, .int .i64 0] 84))) := ⟨Nd.new w s[0], (Below.refl _ _).alloc (Nat.le_refl _) _⟩
  have HXX := Lib.hid hx
  clear hx ih
  go_enter Tryd.func135, Tryd.ntmps135
  go_upto_region 5 with (fail)
  rename_i KB hKB
  go_cut [17] from 16 to 17 (fun v17 wx => v17 = .int .u8 s[0].toNat ∧ wx = w.alloc (.cells #[.int .u8 s[0].toNat, .slice none 0 0, .slice none 0 0, .int .i64 0, .int .i64 0] 84))
  case first =>
    go_wp2_with fail
    go_meet
    exact ⟨rfl, rfl⟩
  obtain ⟨rfl, rfl⟩ := hcut
  refine hKB _ _ ?_
  clear hKB
  go_cut [5, 6] from 16 to 37 (fun v5 v6 wx => v5 = .int .i64 1 ∧ v6 = .int .i64 1 ∧ wx = w.alloc (.cells #[.int .u8 s[0].toNat, .slice none 0 0, .slice none 0 0, .int .i64 0, .int .i64 0] 84))
  case first =>
    have HX1 := HXX.out
    clear TL0 ND0
    rcases HX1 with HX1 | HX1 | HX1 | HX1 | HX1
    · have e116 : ((s[0].toNat : Int) == 116) = false := by simp; omega
      have e102 : ((s[0].toNat : Int) == 102) = false := by simp; omega
      have e80 : ((s[0].toNat : Int) == 80) = false := by simp; omega
      have e61 : ((s[0].toNat : Int) == 61) = false := by simp; omega
      have e69 : ((s[0].toNat : Int) == 69) = false := by simp; omega
      have e33 : ((s[0].toNat : Int) == 33) = false := by simp; omega
      have e38 : ((s[0].toNat : Int) == 38) = false := by simp; omega
      have e124 : ((s[0].toNat : Int) == 124) = false := by simp; omega
      have e65 : ((s[0].toNat : Int) == 65) = true := by simp; omega
      clear HX1
      go_wp2_with fail
      go_meet
      exact ⟨rfl, rfl, rfl⟩
    · have e116 : ((s[0].toNat : Int) == 116) = false := by simp; omega
      have e102 : ((s[0].toNat : Int) == 102) = false := by simp; omega
      have e80 : ((s[0].toNat : Int) == 80) = false := by simp; omega
      have e61 : ((s[0].toNat : Int) == 61) = false := by simp; omega
      have e69 : ((s[0].toNat : Int) == 69) = false := by simp; omega
      have e33 : ((s[0].toNat : Int) == 33) = false := by simp; omega
      have e38 : ((s[0].toNat : Int) == 38) = false := by simp; omega
      have e124 : ((s[0].toNat : Int) == 124) = false := by simp; omega
      have e65 : ((s[0].toNat : Int) == 65) = false := by simp; omega
      have e83 : ((s[0].toNat : Int) == 83) = true := by simp; omega
      clear HX1
      go_wp2_with fail
      go_meet
      exact ⟨rfl, rfl, rfl⟩
    · have e116 : ((s[0].toNat : Int) == 116) = false := by simp; omega
      have e102 : ((s[0].toNat : Int) == 102) = false := by simp; omega
      have e80 : ((s[0].toNat : Int) == 80) = false := by simp; omega
      have e61 : ((s[0].toNat : Int) == 61) = false := by simp; omega
      have e69 : ((s[0].toNat : Int) == 69) = false := by simp; omega
      have e33 : ((s[0].toNat : Int) == 33) = false := by simp; omega
      have e38 : ((s[0].toNat : Int) == 38) = false := by simp; omega
      have e124 : ((s[0].toNat : Int) == 124) = false := by simp; omega
      have e65 : ((s[0].toNat : Int) == 65) = false := by simp; omega
      have e83 : ((s[0].toNat : Int) == 83) = false := by simp; omega
      have e50 : ((s[0].toNat : Int) == 50) = true := by simp; omega
      clear HX1
      go_wp2_with fail
      go_meet
      exact ⟨rfl, rfl, rfl⟩
    · have e116 : ((s[0].toNat : Int) == 116) = false := by simp; omega
      have e102 : ((s[0].toNat : Int) == 102) = false := by simp; omega
      have e80 : ((s[0].toNat : Int) == 80) = false := by simp; omega
      have e61 : ((s[0].toNat : Int) == 61) = false := by simp; omega
      have e69 : ((s[0].toNat : Int) == 69) = false := by simp; omega
      have e33 : ((s[0].toNat : Int) == 33) = false := by simp; omega
      have e38 : ((s[0].toNat : Int) == 38) = false := by simp; omega
      have e124 : ((s[0].toNat : Int) == 124) = false := by simp; omega
      have e65 : ((s[0].toNat : Int) == 65) = false := by simp; omega
      have e83 : ((s[0].toNat : Int) == 83) = false := by simp; omega
      have e50 : ((s[0].toNat : Int) == 50) = false := by simp; omega
      have e51 : ((s[0].toNat : Int) == 51) = true := by simp; omega
      clear HX1
      go_wp2_with fail
      go_meet
      exact ⟨rfl, rfl, rfl⟩
    · have e116 : ((s[0].toNat : Int) == 116) = false := by simp; omega
      have e102 : ((s[0].toNat : Int) == 102) = false := by simp; omega
      have e80 : ((s[0].toNat : Int) == 80) = false := by simp; omega
      have e61 : ((s[0].toNat : Int) == 61) = false := by simp; omega
      have e69 : ((s[0].toNat : Int) == 69) = false := by simp; omega
      have e33 : ((s[0].toNat : Int) == 33) = false := by simp; omega
      have e38 : ((s[0].toNat : Int) == 38) = false := by simp; omega
      have e124 : ((s[0].toNat : Int) == 124) = false := by simp; omega
      have e65 : ((s[0].toNat : Int) == 65) = false := by simp; omega
      have e83 : ((s[0].toNat : Int) == 83) = false := by simp; omega
      have e50 : ((s[0].toNat : Int) == 50) = false := by simp; omega
      have e51 : ((s[0].toNat : Int) == 51) = false := by simp; omega
      have e52 : ((s[0].toNat : Int) == 52) = true := by simp; omega
      clear HX1
      go_wp2_with fail
      go_meet
      exact ⟨rfl, rfl, rfl⟩
  case rest =>
    obtain ⟨rfl, rfl, rfl⟩ := hcut
    clear HXX
    go_wp2_with fail
    go_loopw [0, 41] (fun s0 i wr => ∃ (k : Nat) (t : ByteArray) (us : List Nat) (v : Value), k ≤ 1 ∧ us.length = k ∧ i = .int .i64 k ∧ s0 = .string t ∧ Hid (s.data.toList.drop 1 = us.map vb ++ t.data.toList) ∧ Hid (Nd wr (w.heap.size + 1) w.heap.size s[0] v (.slice none 0 0) us [] 0 (alls us) ∧ Below w.heap.size w wr)) (fun _ i _ => 1 - (intOf i).toNat)
    case atStart => exact ⟨0, _, [], _, Nat.zero_le _, rfl, rfl, rfl, TL0, ND0.out⟩
    case round =>
      clear TL0 ND0
      obtain ⟨k, t, us, v, hk, hul, rfl, rfl, HL, HN⟩ := hrel
      have cc := HN.out.1.cells
      obtain ⟨c0, c1, c2, c3, c4⟩ := cc
      have hH := Lib.hid HN.out.1.hlt
      obtain rfl | rfl : k = 0 ∨ k = 1 := by omega
      · by_cases h0 : 0 < t.size
        · obtain ⟨te, hd⟩ := full_of h0
          have HD := Lib.hid hd
          have ax := ext_first h0
          clear hd
          cases hv : isV t[0] with
          | false =>
            have HV : Hid (∀ W, Calls Tryd.prog 177 #[.string ⟨#[97, 98, 99, 100]⟩, .string ⟨#[t[0]]⟩] W fun e w' => e = .returned (.bool false) ∧ W = w') := fun W => by rw [← hv]; exact isVar_any t[0] W
            have HR : Hid (read s.data.toList = none) := by rw [HS0.out, HL.out, HD.out, List.length_eq_zero_iff.1 hul]; exact read_qun HSO.out hv
            clear hv
            go_wp2_with fail
            refine (HV.out _).mono ?_
            rintro eo w1 ⟨rfl, rfl⟩
            go_wp2
            go_ret2
            exact ⟨_, _, rfl, HN.out.2, by rw [HR.out]; rfl⟩
          | true =>
            have HV : Hid (∀ W, Calls Tryd.prog 177 #[.string ⟨#[97, 98, 99, 100]⟩, .string ⟨#[t[0]]⟩] W fun e w' => e = .returned (.bool true) ∧ W = w') := fun W => by rw [← hv]; exact isVar_any t[0] W
            obtain ⟨m, hm4, hmv, hmn⟩ := isV_at hv
            have HM := Lib.hid hmv
            clear hv hmv
            have HO : Hid (wr.drew.ownsRow (w.heap.size + 1) 5 1 v 0 (bv us)) := by have h := HN.out.1.vs; rw [hul] at h; exact h
            have HZ : Hid (0 + 1 ≤ 4398046511104 ∧ w.heap.size + 1 ≤ wr.heap.size) := ⟨by decide, hH.out⟩
            have HN' : Hid (Nd wr.drew (w.heap.size + 1) w.heap.size s[0] v (.slice none 0 0) us [] 0 (alls us)) := HN.out.1.drew
            obtain rfl | rfl | rfl | rfl : m = 0 ∨ m = 1 ∨ m = 2 ∨ m = 3 := by omega
            · have hb : (t[0].toNat : Int) = 97 := by omega
              have hlt : w.heap.size < wr.heap.size := hH.out
              clear hmn
              go_wp2_with fail
              refine (HV.out _).mono ?_
              rintro eo w1 ⟨rfl, rfl⟩
              go_wp2_with fail
              go_cut [62] from 52 to 62 (fun _ wx => ∃ v', Hid (Nd wx (w.heap.size + 1) w.heap.size s[0] v' (.slice none 0 0) (us ++ [0]) [] 0 (alls us) ∧ Below w.heap.size w wx))
              case first =>
                go_region_law (refine step_app1 wr.drew rfl (.tmp 56) (.tmp 59) 22 rfl (w.heap.size + 1) 5 (.int .u8 0) 1 Tryd.underlying22 infoB rfl (by decide) _ _ _ (.int .u8 97) rfl HO.out wr.heap.size rfl rfl rfl HZ.out.1 HZ.out.2 ?_; intro g cap' w1 hown1 hgr; have fc := (HN'.out.grewV hgr).1; have ff := (HN'.out.grewV hgr).2)
                all_goals
                  have R := Lib.hid (show _ ∧ _ from ⟨HN'.out.appV (u := 0) (by decide) (n := 0) hul.symm (by rfl) hown1 hgr, (below_grew HN.out.2.drew hgr HO.out (by omega)).setCell (p := ⟨w.heap.size, 1, none⟩) (Nat.le_refl _) (.slice (some ⟨g, 0, none⟩) (0 + 1) cap')⟩)
                  go_wp2
                  go_meet
                  exact ⟨_, R⟩
              case rest =>
                obtain ⟨v', HN2⟩ := hcut
                clear HO HZ HN' HN c0 c1 c2 c3 c4 hlt
                obtain ⟨c0, c1, c2, c3, c4⟩ := HN2.out.1.cells
                have f4 := HN2.out.1.free 4
                go_wp2_with fail
                go_region
                have R : Hid (Nd (wc.setCell ⟨w.heap.size, 4, none⟩ (.int .i64 (bits .or .i64 (alls us : Nat) 1))).drew (w.heap.size + 1) w.heap.size s[0] v' (.slice none 0 0) (us ++ [0]) [] 0 (alls (us ++ [0])) ∧ Below w.heap.size w (wc.setCell ⟨w.heap.size, 4, none⟩ (.int .i64 (bits .or .i64 (alls us : Nat) 1))).drew) := by
                  have hl := HN2.out.1.fl.2
                  have e : bits .or .i64 (alls us : Nat) 1 = ((alls (us ++ [0]) : Nat) : Int) := by rw [alls_snoc]; exact b_or (y := 1) hl (by decide)
                  rw [e]
                  exact ⟨(HN2.out.1.setA _ (alls_lt _ HN2.out.1.u4)).drew, (HN2.out.2.setCell (p := ⟨w.heap.size, 4, none⟩) (Nat.le_refl _) _).drew⟩
                have HL2 : Hid (s.data.toList.drop 1 = (us ++ [0]).map vb ++ (t.extract 1 t.size).data.toList) := by
                  rw [Hid, HL.out, HD.out, HM.out, tail_one]; simp
                go_wp2
                go_roundw
                case rel => exact ⟨0 + 1, _, us ++ [0], v', by decide, by simp [hul], by first | rfl | go_num, rfl, HL2, R⟩
                case measure => simp [intOf]
            · have hb : (t[0].toNat : Int) = 98 := by omega
              have hlt : w.heap.size < wr.heap.size := hH.out
              clear hmn
              go_wp2_with fail
              refine (HV.out _).mono ?_
              rintro eo w1 ⟨rfl, rfl⟩
              go_wp2_with fail
              go_cut [62] from 52 to 62 (fun _ wx => ∃ v', Hid (Nd wx (w.heap.size + 1) w.heap.size s[0] v' (.slice none 0 0) (us ++ [1]) [] 0 (alls us) ∧ Below w.heap.size w wx))
              case first =>
                go_region_law (refine step_app1 wr.drew rfl (.tmp 56) (.tmp 59) 22 rfl (w.heap.size + 1) 5 (.int .u8 0) 1 Tryd.underlying22 infoB rfl (by decide) _ _ _ (.int .u8 98) rfl HO.out wr.heap.size rfl rfl rfl HZ.out.1 HZ.out.2 ?_; intro g cap' w1 hown1 hgr; have fc := (HN'.out.grewV hgr).1; have ff := (HN'.out.grewV hgr).2)
                all_goals
                  have R := Lib.hid (show _ ∧ _ from ⟨HN'.out.appV (u := 1) (by decide) (n := 0) hul.symm (by rfl) hown1 hgr, (below_grew HN.out.2.drew hgr HO.out (by omega)).setCell (p := ⟨w.heap.size, 1, none⟩) (Nat.le_refl _) (.slice (some ⟨g, 0, none⟩) (0 + 1) cap')⟩)
                  go_wp2
                  go_meet
                  exact ⟨_, R⟩
              case rest =>
                obtain ⟨v', HN2⟩ := hcut
                clear HO HZ HN' HN c0 c1 c2 c3 c4 hlt
                obtain ⟨c0, c1, c2, c3, c4⟩ := HN2.out.1.cells
                have f4 := HN2.out.1.free 4
                go_wp2_with fail
                go_region
                have R : Hid (Nd (wc.setCell ⟨w.heap.size, 4, none⟩ (.int .i64 (bits .or .i64 (alls us : Nat) 2))).drew (w.heap.size + 1) w.heap.size s[0] v' (.slice none 0 0) (us ++ [1]) [] 0 (alls (us ++ [1])) ∧ Below w.heap.size w (wc.setCell ⟨w.heap.size, 4, none⟩ (.int .i64 (bits .or .i64 (alls us : Nat) 2))).drew) := by
                  have hl := HN2.out.1.fl.2
                  have e : bits .or .i64 (alls us : Nat) 2 = ((alls (us ++ [1]) : Nat) : Int) := by rw [alls_snoc]; exact b_or (y := 2) hl (by decide)
                  rw [e]
                  exact ⟨(HN2.out.1.setA _ (alls_lt _ HN2.out.1.u4)).drew, (HN2.out.2.setCell (p := ⟨w.heap.size, 4, none⟩) (Nat.le_refl _) _).drew⟩
                have HL2 : Hid (s.data.toList.drop 1 = (us ++ [1]).map vb ++ (t.extract 1 t.size).data.toList) := by
                  rw [Hid, HL.out, HD.out, HM.out, tail_one]; simp
                go_wp2
                go_roundw
                case rel => exact ⟨0 + 1, _, us ++ [1], v', by decide, by simp [hul], by first | rfl | go_num, rfl, HL2, R⟩
                case measure => simp [intOf]
            · have hb : (t[0].toNat : Int) = 99 := by omega
              have hlt : w.heap.size < wr.heap.size := hH.out
              clear hmn
              go_wp2_with fail
              refine (HV.out _).mono ?_
              rintro eo w1 ⟨rfl, rfl⟩
              go_wp2_with fail
              go_cut [62] from 52 to 62 (fun _ wx => ∃ v', Hid (Nd wx (w.heap.size + 1) w.heap.size s[0] v' (.slice none 0 0) (us ++ [2]) [] 0 (alls us) ∧ Below w.heap.size w wx))
              case first =>
                go_region_law (refine step_app1 wr.drew rfl (.tmp 56) (.tmp 59) 22 rfl (w.heap.size + 1) 5 (.int .u8 0) 1 Tryd.underlying22 infoB rfl (by decide) _ _ _ (.int .u8 99) rfl HO.out wr.heap.size rfl rfl rfl HZ.out.1 HZ.out.2 ?_; intro g cap' w1 hown1 hgr; have fc := (HN'.out.grewV hgr).1; have ff := (HN'.out.grewV hgr).2)
                all_goals
                  have R := Lib.hid (show _ ∧ _ from ⟨HN'.out.appV (u := 2) (by decide) (n := 0) hul.symm (by rfl) hown1 hgr, (below_grew HN.out.2.drew hgr HO.out (by omega)).setCell (p := ⟨w.heap.size, 1, none⟩) (Nat.le_refl _) (.slice (some ⟨g, 0, none⟩) (0 + 1) cap')⟩)
                  go_wp2
                  go_meet
                  exact ⟨_, R⟩
              case rest =>
                obtain ⟨v', HN2⟩ := hcut
                clear HO HZ HN' HN c0 c1 c2 c3 c4 hlt
                obtain ⟨c0, c1, c2, c3, c4⟩ := HN2.out.1.cells
                have f4 := HN2.out.1.free 4
                go_wp2_with fail
                go_region
                have R : Hid (Nd (wc.setCell ⟨w.heap.size, 4, none⟩ (.int .i64 (bits .or .i64 (alls us : Nat) 4))).drew (w.heap.size + 1) w.heap.size s[0] v' (.slice none 0 0) (us ++ [2]) [] 0 (alls (us ++ [2])) ∧ Below w.heap.size w (wc.setCell ⟨w.heap.size, 4, none⟩ (.int .i64 (bits .or .i64 (alls us : Nat) 4))).drew) := by
                  have hl := HN2.out.1.fl.2
                  have e : bits .or .i64 (alls us : Nat) 4 = ((alls (us ++ [2]) : Nat) : Int) := by rw [alls_snoc]; exact b_or (y := 4) hl (by decide)
                  rw [e]
                  exact ⟨(HN2.out.1.setA _ (alls_lt _ HN2.out.1.u4)).drew, (HN2.out.2.setCell (p := ⟨w.heap.size, 4, none⟩) (Nat.le_refl _) _).drew⟩
                have HL2 : Hid (s.data.toList.drop 1 = (us ++ [2]).map vb ++ (t.extract 1 t.size).data.toList) := by
                  rw [Hid, HL.out, HD.out, HM.out, tail_one]; simp
                go_wp2
                go_roundw
                case rel => exact ⟨0 + 1, _, us ++ [2], v', by decide, by simp [hul], by first | rfl | go_num, rfl, HL2, R⟩
                case measure => simp [intOf]
            · have hb : (t[0].toNat : Int) = 100 := by omega
              have hlt : w.heap.size < wr.heap.size := hH.out
              clear hmn
              go_wp2_with fail
              refine (HV.out _).mono ?_
              rintro eo w1 ⟨rfl, rfl⟩
              go_wp2_with fail
              go_cut [62] from 52 to 62 (fun _ wx => ∃ v', Hid (Nd wx (w.heap.size + 1) w.heap.size s[0] v' (.slice none 0 0) (us ++ [3]) [] 0 (alls us) ∧ Below w.heap.size w wx))
              case first =>
                go_region_law (refine step_app1 wr.drew rfl (.tmp 56) (.tmp 59) 22 rfl (w.heap.size + 1) 5 (.int .u8 0) 1 Tryd.underlying22 infoB rfl (by decide) _ _ _ (.int .u8 100) rfl HO.out wr.heap.size rfl rfl rfl HZ.out.1 HZ.out.2 ?_; intro g cap' w1 hown1 hgr; have fc := (HN'.out.grewV hgr).1; have ff := (HN'.out.grewV hgr).2)
                all_goals
                  have R := Lib.hid (show _ ∧ _ from ⟨HN'.out.appV (u := 3) (by decide) (n := 0) hul.symm (by rfl) hown1 hgr, (below_grew HN.out.2.drew hgr HO.out (by omega)).setCell (p := ⟨w.heap.size, 1, none⟩) (Nat.le_refl _) (.slice (some ⟨g, 0, none⟩) (0 + 1) cap')⟩)
                  go_wp2
                  go_meet
                  exact ⟨_, R⟩
              case rest =>
                obtain ⟨v', HN2⟩ := hcut
                clear HO HZ HN' HN c0 c1 c2 c3 c4 hlt
                obtain ⟨c0, c1, c2, c3, c4⟩ := HN2.out.1.cells
                have f4 := HN2.out.1.free 4
                go_wp2_with fail
                go_region
                have R : Hid (Nd (wc.setCell ⟨w.heap.size, 4, none⟩ (.int .i64 (bits .or .i64 (alls us : Nat) 8))).drew (w.heap.size + 1) w.heap.size s[0] v' (.slice none 0 0) (us ++ [3]) [] 0 (alls (us ++ [3])) ∧ Below w.heap.size w (wc.setCell ⟨w.heap.size, 4, none⟩ (.int .i64 (bits .or .i64 (alls us : Nat) 8))).drew) := by
                  have hl := HN2.out.1.fl.2
                  have e : bits .or .i64 (alls us : Nat) 8 = ((alls (us ++ [3]) : Nat) : Int) := by rw [alls_snoc]; exact b_or (y := 8) hl (by decide)
                  rw [e]
                  exact ⟨(HN2.out.1.setA _ (alls_lt _ HN2.out.1.u4)).drew, (HN2.out.2.setCell (p := ⟨w.heap.size, 4, none⟩) (Nat.le_refl _) _).drew⟩
                have HL2 : Hid (s.data.toList.drop 1 = (us ++ [3]).map vb ++ (t.extract 1 t.size).data.toList) := by
                  rw [Hid, HL.out, HD.out, HM.out, tail_one]; simp
                go_wp2
                go_roundw
                case rel => exact ⟨0 + 1, _, us ++ [3], v', by decide, by simp [hul], by first | rfl | go_num, rfl, HL2, R⟩
                case measure => simp [intOf]
        · obtain ⟨te, hd⟩ := empty_of (by omega : t.size = 0)
          have HR : Hid (read s.data.toList = none) := by rw [HS0.out, HL.out, hd, List.length_eq_zero_iff.1 hul]; exact read_qu0 HSO.out
          clear hd
          go_wp2
          go_ret2
          exact ⟨_, _, rfl, HN.out.2, by rw [HR.out]; rfl⟩
      · have HU : Hid (∃ m, us = [m] ∧ m < 4) := by
          match us, hul, HN with
          | [m], _, HN => exact ⟨m, rfl, HN.out.1.u4 m (by simp)⟩
        have HLR : Hid (read s.data.toList = match read t.data.toList with | some (a, l2) => some (.qu s[0] (us.headD 0) a, l2) | none => none) := by
          obtain ⟨m, hm, hm4⟩ := HU.out
          rw [HS0.out, HL.out, hm]
          show read (s[0] :: vb m :: t.data.toList) = _
          rw [read_qu HSO.out (isV_vb hm4), vn_vb hm4]
          rfl
        have f3 := HN.out.1.free 3
        have HN3 : Hid (Nd ((wr.setCell ⟨w.heap.size, 3, none⟩ (.int .i64 (alls us : Nat))).setCell ⟨w.heap.size, 3, none⟩ (.int .i64 0)) (w.heap.size + 1) w.heap.size s[0] v (.slice none 0 0) us [] 0 (alls us) ∧ Below w.heap.size w ((wr.setCell ⟨w.heap.size, 3, none⟩ (.int .i64 (alls us : Nat))).setCell ⟨w.heap.size, 3, none⟩ (.int .i64 0))) :=
          ⟨(HN.out.1.setF _ HN.out.1.fl.2).setF 0 (by decide), (HN.out.2.setCell (p := ⟨w.heap.size, 3, none⟩) (Nat.le_refl _) _).setCell (p := ⟨w.heap.size, 3, none⟩) (Nat.le_refl _) _⟩
        go_wp2_with fail
        obtain ⟨w4, hw4⟩ : ∃ QZ, QZ = (wr.setCell ⟨w.heap.size, 3, none⟩ (.int .i64 (alls us : Nat))).setCell ⟨w.heap.size, 3, none⟩ (.int .i64 0) := ⟨_, rfl⟩
        rw [← hw4] at HN3 ⊢
        clear hw4 HN c0 c1 c2 c3 c4 f3 hH
        go_loopw [0, 90] (fun s0 i wr => ∃ (k : Nat) (t2 : ByteArray) (q : List (Fm × Nat)) (p : Value), k ≤ 1 ∧ q.length = k ∧ i = .int .i64 k ∧ s0 = .string t2 ∧ Hid (Chain t.data.toList (q.map (·.1)) t2.data.toList) ∧ Hid (Nd wr (w.heap.size + 1) w.heap.size s[0] v p us (q.map (·.2)) (frs (q.map (·.1))) (als (alls us) (q.map (·.1))) ∧ Below w.heap.size w wr ∧ ∀ x, x ∈ q → Held wr (w.heap.size + 1) p x.1 x.2)) (fun _ i _ => 1 - (intOf i).toNat)
        case atStart => exact ⟨0, t, [], .slice none 0 0, Nat.zero_le _, rfl, rfl, rfl, rfl, HN3.out.1, HN3.out.2, fun x hx => by cases hx⟩
        case round =>
          clear HN3
          obtain ⟨k, t2, q, p, hk, hql, rfl, rfl, HC, HN⟩ := hrel
          obtain ⟨c0, c1, c2, c3, c4⟩ := HN.out.1.cells
          have hH := Lib.hid HN.out.1.hlt
          obtain rfl | rfl : k = 0 ∨ k = 1 := by omega
          · have hlt : t2.size < s.size := by
              have h1 := chain_len HC.out
              have h2 := size_drop HL.out hs1
              rw [lsz, lsz] at h1
              omega
            have HI := Lib.hid (IH.out t2 hlt wr)
            clear hlt
            cases hr : read t2.data.toList with
            | none =>
              have HR : Hid (read s.data.toList = none) := by have h := HLR.out; rw [chain_nil HC.out (by rw [List.length_map]; exact hql), hr] at h; exact h
              have HRT := Lib.hid hr
              clear hr
              go_wp2_with fail
              refine HI.out.mono ?_
              rintro eo w1 ⟨p1, t1, rfl, hb, hm⟩
              rw [HRT.out] at hm
              obtain rfl : p1 = .pointer none := hm
              have HB1 := Lib.hid (HN.out.2.1.trans (hb.mono HN.out.2.1.size))
              clear hb
              go_wp2
              go_ret2
              exact ⟨_, _, rfl, HB1.out, by rw [HR.out]; rfl⟩
            | some x =>
              obtain ⟨a, r⟩ := x
              have HRT := Lib.hid hr
              have haok := Lib.hid (read_sound hr).1
              clear hr
              go_wp2_with fail
              refine HI.out.mono ?_
              rintro eo w1 ⟨p1, t1, rfl, hb, hm⟩
              rw [HRT.out] at hm
              obtain ⟨ht1, K, rfl, hts⟩ := hm
              have HT1 := Lib.hid ht1
              have HO : Hid (w1.ownsRow (w.heap.size + 1) 80 1 p 0 (pv (q.map (·.2)))) := by have h := own_below HN.out.1.ps hb (Nat.le_refl _); rw [List.length_map, hql] at h; exact h
              have HN1 : Hid (Nd w1 (w.heap.size + 1) w.heap.size s[0] v p us (q.map (·.2)) (frs (q.map (·.1))) (als (alls us) (q.map (·.1))) ∧ Below w.heap.size w w1 ∧ (∀ x, x ∈ q → Held w1 (w.heap.size + 1) p x.1 x.2) ∧ Held w1 (w.heap.size + 1) p a K) :=
                ⟨HN.out.1.below hb (Nat.le_refl _), HN.out.2.1.trans (hb.mono HN.out.2.1.size), fun x hx => (HN.out.2.2 x hx).call hb (Nat.le_refl _), Held.new HN.out.1.ps hH.out hts⟩
              have HZ : Hid (0 + 1 ≤ 4398046511104 ∧ w.heap.size + 1 ≤ w1.heap.size) := ⟨by decide, HN1.out.1.hlt⟩
              clear ht1 hb hts c0 c1 c2 c3 c4 hH HN HI
              obtain ⟨c0, c1, c2, c3, c4⟩ := HN1.out.1.cells
              have f2 := HN1.out.1.free 2
              have hlt1 : w.heap.size < w1.heap.size := HZ.out.2
              go_wp2_with (at_builtin; refine wpList_app1 w1 rfl (.tmp 104) (.tmp 106) 82 rfl (w.heap.size + 1) 80 (.pointer none) 8 Tryd.underlying82 infoP rfl (by decide) _ _ _ (.pointer (some ⟨K, 0, none⟩)) rfl HO.out w1.heap.size rfl rfl rfl HZ.out.1 HZ.out.2 ?_)
              intro g cap' w2 hown hgr
              have fc := (HN1.out.1.grewP hgr).1
              have ff := (HN1.out.1.grewP hgr).2
              have HN2 : Hid (Nd (w2.setCell ⟨w.heap.size, 2, none⟩ (.slice (some ⟨g, 0, none⟩) (0 + 1) cap')) (w.heap.size + 1) w.heap.size s[0] v (.slice (some ⟨g, 0, none⟩) (0 + 1) cap') us (q.map (·.2) ++ [K]) (frs (q.map (·.1))) (als (alls us) (q.map (·.1))) ∧ Below w.heap.size w (w2.setCell ⟨w.heap.size, 2, none⟩ (.slice (some ⟨g, 0, none⟩) (0 + 1) cap')) ∧ ∀ x, x ∈ q ++ [(a, K)] → Held (w2.setCell ⟨w.heap.size, 2, none⟩ (.slice (some ⟨g, 0, none⟩) (0 + 1) cap')) (w.heap.size + 1) (.slice (some ⟨g, 0, none⟩) (0 + 1) cap') x.1 x.2) := by
                refine ⟨HN1.out.1.appP (u := K) (n := 0) (by rw [List.length_map]; exact hql.symm) hown hgr, (below_grew HN1.out.2.1 hgr HO.out (Nat.le_succ _)).setCell (p := ⟨w.heap.size, 2, none⟩) (Nat.le_refl _) _, fun x hx => ?_⟩
                rcases List.mem_append.1 hx with hx | hx
                · exact ((HN1.out.2.2.1 x hx).app hgr).setH (Nat.lt_succ_self _) _ _
                · rw [List.mem_singleton.1 hx]; exact (HN1.out.2.2.2.app hgr).setH (Nat.lt_succ_self _) _ _
              go_wp2_with fail
              obtain ⟨w5, hw5⟩ : ∃ QZ, QZ = w2.setCell ⟨w.heap.size, 2, none⟩ (.slice (some ⟨g, 0, none⟩) (0 + 1) cap') := ⟨_, rfl⟩
              rw [← hw5] at HN2 ⊢
              obtain ⟨p5, hp5⟩ : ∃ QZ, QZ = Value.slice (some ⟨g, 0, none⟩) (0 + 1) cap' := ⟨_, rfl⟩
              rw [← hp5] at HN2
              clear hw5 hp5 hown hgr fc ff HN1 c0 c1 c2 c3 c4 f2 hlt1 HO HZ
              obtain ⟨c0, c1, c2, c3, c4⟩ := HN2.out.1.cells
              have f3 := HN2.out.1.free 3
              have hK : ∃ vv pvv op, w5.cell? ⟨K, 3, none⟩ = some (.int .i64 (a.free : Nat)) ∧ w5.cell? ⟨K, 4, none⟩ = some (.int .i64 (Fm.all a : Nat)) ∧ vv = v ∧ pvv = v ∧ op = s[0] := by
                obtain ⟨lo, hi, h1, h2, h3, h4⟩ := HN2.out.2.2 (a, K) (by simp)
                obtain ⟨op, vs, ps, hn⟩ := h4.tree.free
                obtain ⟨_, _, _, _, _, _, _, d3, d4⟩ := hn.cells
                exact ⟨v, v, s[0], d3, d4, rfl, rfl, rfl⟩
              obtain ⟨_, _, _, d3, d4, -, -, -⟩ := hK
              go_region
              have HN6 : Hid (Nd (w5.setCell ⟨w.heap.size, 3, none⟩ (.int .i64 (bits .or .i64 (frs (q.map (·.1)) : Nat) (a.free : Nat)))).drew (w.heap.size + 1) w.heap.size s[0] v p5 us (q.map (·.2) ++ [K]) (frs (q.map (·.1) ++ [a])) (als (alls us) (q.map (·.1))) ∧ Below w.heap.size w (w5.setCell ⟨w.heap.size, 3, none⟩ (.int .i64 (bits .or .i64 (frs (q.map (·.1)) : Nat) (a.free : Nat)))).drew ∧ ∀ x, x ∈ q ++ [(a, K)] → Held (w5.setCell ⟨w.heap.size, 3, none⟩ (.int .i64 (bits .or .i64 (frs (q.map (·.1)) : Nat) (a.free : Nat)))).drew (w.heap.size + 1) p5 x.1 x.2) := by
                have e : bits .or .i64 (frs (q.map (·.1)) : Nat) (a.free : Nat) = ((frs (q.map (·.1) ++ [a]) : Nat) : Int) := by rw [frs_snoc]; exact b_or HN2.out.1.fl.1 (Fm.free_lt haok.out)
                rw [e]
                have hl : frs (q.map (·.1) ++ [a]) < 16 := by rw [frs_snoc]; exact or_lt ⟨_, HN2.out.1.fl.1⟩ ⟨_, Fm.free_lt haok.out⟩
                exact ⟨(HN2.out.1.setF _ hl).drew, (HN2.out.2.1.setCell (p := ⟨w.heap.size, 3, none⟩) (Nat.le_refl _) _).drew, fun x hx => (HN2.out.2.2 x hx).setH (Nat.lt_succ_self _) _ _⟩
              go_wp2_with fail
              obtain ⟨w6, hw6⟩ : ∃ QZ, QZ = (w5.setCell ⟨w.heap.size, 3, none⟩ (.int .i64 (bits .or .i64 (frs (q.map (·.1)) : Nat) (a.free : Nat)))).drew := ⟨_, rfl⟩
              rw [← hw6] at HN6 ⊢
              clear hw6 HN2 c0 c1 c2 c3 c4 f3 d3 d4
              obtain ⟨c0, c1, c2, c3, c4⟩ := HN6.out.1.cells
              have f4 := HN6.out.1.free 4
              have d4 : w6.cell? ⟨K, 4, none⟩ = some (.int .i64 (Fm.all a : Nat)) := by
                obtain ⟨lo, hi, h1, h2, h3, h4⟩ := HN6.out.2.2 (a, K) (by simp)
                obtain ⟨op, vs, ps, hn⟩ := h4.tree.free
                obtain ⟨_, _, _, _, _, _, _, _, d4⟩ := hn.cells
                exact d4
              go_region
              have HN7 : Hid (Nd (w6.setCell ⟨w.heap.size, 4, none⟩ (.int .i64 (bits .or .i64 (als (alls us) (q.map (·.1)) : Nat) (Fm.all a : Nat)))).drew (w.heap.size + 1) w.heap.size s[0] v p5 us ((q ++ [(a, K)]).map (·.2)) (frs ((q ++ [(a, K)]).map (·.1))) (als (alls us) ((q ++ [(a, K)]).map (·.1))) ∧ Below w.heap.size w (w6.setCell ⟨w.heap.size, 4, none⟩ (.int .i64 (bits .or .i64 (als (alls us) (q.map (·.1)) : Nat) (Fm.all a : Nat)))).drew ∧ ∀ x, x ∈ q ++ [(a, K)] → Held (w6.setCell ⟨w.heap.size, 4, none⟩ (.int .i64 (bits .or .i64 (als (alls us) (q.map (·.1)) : Nat) (Fm.all a : Nat)))).drew (w.heap.size + 1) p5 x.1 x.2) := by
                have e : bits .or .i64 (als (alls us) (q.map (·.1)) : Nat) (Fm.all a : Nat) = ((als (alls us) (q.map (·.1) ++ [a]) : Nat) : Int) := by rw [als_snoc]; exact b_or HN6.out.1.fl.2 (Fm.all_lt haok.out)
                rw [e, List.map_append, List.map_append]
                have hl : als (alls us) (q.map (·.1) ++ [a]) < 16 := by rw [als_snoc]; exact or_lt ⟨_, HN6.out.1.fl.2⟩ ⟨_, Fm.all_lt haok.out⟩
                exact ⟨(HN6.out.1.setA _ hl).drew, (HN6.out.2.1.setCell (p := ⟨w.heap.size, 4, none⟩) (Nat.le_refl _) _).drew, fun x hx => (HN6.out.2.2 x hx).setH (Nat.lt_succ_self _) _ _⟩
              have HC2 : Hid (Chain t.data.toList ((q ++ [(a, K)]).map (·.1)) t1.data.toList) := by
                rw [List.map_append]
                exact HC.out.snoc (by rw [HRT.out, HT1.out])
              clear HN6 c0 c1 c2 c3 c4 f4 d4
              go_wp2
              go_roundw
              case rel => first | exact ⟨_, _, _, _, _, _, ⟨0 + 1, by decide, t1, q ++ [(a, K)], by simp [hql], rfl, rfl, HC2, p5, HN7.out.1, HN7.out.2.1, fun x y h => HN7.out.2.2 (x, y) h⟩, rfl, rfl, rfl, rfl, rfl, rfl⟩ | exact ⟨0 + 1, t1, q ++ [(a, K)], p5, by decide, by simp [hql], by first | rfl | go_num, rfl, HC2, HN7⟩
              case measure => simp [intOf]
          · have HR : Hid (∃ m a, us = [m] ∧ q.map (·.1) = [a] ∧ read s.data.toList = some (.qu s[0] m a, t2.data.toList)) := by obtain ⟨a, h1, h2⟩ := chain_one HC.out (by rw [List.length_map]; exact hql); obtain ⟨m, hm, _⟩ := HU.out; exact ⟨m, a, hm, h1, by rw [HLR.out, h2, hm]; rfl⟩
            obtain ⟨m, a, hu, hqa, hrd⟩ := HR.out
            have hm4 := HN.out.1.u4 m (by rw [hu]; simp)
            obtain ⟨g, cap, hv, cg⟩ : ∃ g cap, v = .slice (some ⟨g, 0, none⟩) 1 cap ∧ wr.cell? ⟨g, 0, none⟩ = some (.int .u8 (vb m).toNat) := by
              have h1 := HN.out.1.vs
              rw [hu] at h1
              have h0 := h1
              rcases h1.2 with ⟨_, hn⟩ | ⟨g, cap, cur, hv, _⟩
              · cases hn
              · have hv2 : v = .slice (some ⟨g, 0, none⟩) 1 cap := hv
                rw [hv2] at h0
                exact ⟨g, cap, hv2, by have := h0.cellAt 0 (by decide); rw [this]; rfl⟩
            rw [vb_nat hm4] at cg
            rw [hv] at c1
            have f3 := HN.out.1.free 3
            have HRD := Lib.hid (show _ ∧ _ ∧ _ from ⟨hu, hqa, hrd⟩)
            have hfl := Lib.hid HN.out.1.fl
            clear hu hqa hrd hv HR
            obtain rfl | rfl | rfl | rfl : m = 0 ∨ m = 1 ∨ m = 2 ∨ m = 3 := by omega
            · have cg : wr.cell? ⟨g, 0, none⟩ = some (.int .u8 97) := cg
              go_wp2_with fail
              refine (isQuantifier_any 84 w.heap.size s[0] us (q.map (·.2)) (frs (q.map (·.1))) (als (alls us) (q.map (·.1))) _ HN.out.1.node).mono ?_
              rintro eo w1 ⟨rfl, rfl⟩
              rw [HQ.out]
              go_wp2_with fail
              go_region
              have HN7 : Hid (Nd (wr.setCell ⟨w.heap.size, 3, none⟩ (.int .i64 (bits .andNot .i64 (frs (q.map (·.1)) : Nat) 1))).drew (w.heap.size + 1) w.heap.size s[0] v p [0] (q.map (·.2)) (frs (q.map (·.1)) &&& (15 ^^^ 1 <<< 0)) (als (alls [0]) (q.map (·.1))) ∧ Below w.heap.size w (wr.setCell ⟨w.heap.size, 3, none⟩ (.int .i64 (bits .andNot .i64 (frs (q.map (·.1)) : Nat) 1))).drew ∧ ∀ x, x ∈ q → Held (wr.setCell ⟨w.heap.size, 3, none⟩ (.int .i64 (bits .andNot .i64 (frs (q.map (·.1)) : Nat) 1))).drew (w.heap.size + 1) p x.1 x.2) := by
                have e : bits .andNot .i64 (frs (q.map (·.1)) : Nat) 1 = ((frs (q.map (·.1)) &&& (15 ^^^ 1 <<< 0) : Nat) : Int) := b_an (v := 0) hfl.out.1 (by decide)
                rw [e]
                have h1 := HN.out.1
                rw [HRD.out.1] at h1
                exact ⟨(h1.setF _ (and_lt ⟨_, hfl.out.1⟩ ⟨0, by decide⟩)).drew, (HN.out.2.1.setCell (p := ⟨w.heap.size, 3, none⟩) (Nat.le_refl _) _).drew, fun x hx => (HN.out.2.2 x hx).setH (Nat.lt_succ_self _) _ _⟩
              go_wp2
              go_ret2
              exact ⟨_, _, rfl, HN7.out.2.1, by rw [HRD.out.2.2]; exact ⟨rfl, w.heap.size, rfl, fun _ hg => tree_qu HRD.out.2.1 HN7.out.1 HN7.out.2.2 hg⟩⟩
            · have cg : wr.cell? ⟨g, 0, none⟩ = some (.int .u8 98) := cg
              go_wp2_with fail
              refine (isQuantifier_any 84 w.heap.size s[0] us (q.map (·.2)) (frs (q.map (·.1))) (als (alls us) (q.map (·.1))) _ HN.out.1.node).mono ?_
              rintro eo w1 ⟨rfl, rfl⟩
              rw [HQ.out]
              go_wp2_with fail
              go_region
              have HN7 : Hid (Nd (wr.setCell ⟨w.heap.size, 3, none⟩ (.int .i64 (bits .andNot .i64 (frs (q.map (·.1)) : Nat) 2))).drew (w.heap.size + 1) w.heap.size s[0] v p [1] (q.map (·.2)) (frs (q.map (·.1)) &&& (15 ^^^ 1 <<< 1)) (als (alls [1]) (q.map (·.1))) ∧ Below w.heap.size w (wr.setCell ⟨w.heap.size, 3, none⟩ (.int .i64 (bits .andNot .i64 (frs (q.map (·.1)) : Nat) 2))).drew ∧ ∀ x, x ∈ q → Held (wr.setCell ⟨w.heap.size, 3, none⟩ (.int .i64 (bits .andNot .i64 (frs (q.map (·.1)) : Nat) 2))).drew (w.heap.size + 1) p x.1 x.2) := by
                have e : bits .andNot .i64 (frs (q.map (·.1)) : Nat) 2 = ((frs (q.map (·.1)) &&& (15 ^^^ 1 <<< 1) : Nat) : Int) := b_an (v := 1) hfl.out.1 (by decide)
                rw [e]
                have h1 := HN.out.1
                rw [HRD.out.1] at h1
                exact ⟨(h1.setF _ (and_lt ⟨_, hfl.out.1⟩ ⟨1, by decide⟩)).drew, (HN.out.2.1.setCell (p := ⟨w.heap.size, 3, none⟩) (Nat.le_refl _) _).drew, fun x hx => (HN.out.2.2 x hx).setH (Nat.lt_succ_self _) _ _⟩
              go_wp2
              go_ret2
              exact ⟨_, _, rfl, HN7.out.2.1, by rw [HRD.out.2.2]; exact ⟨rfl, w.heap.size, rfl, fun _ hg => tree_qu HRD.out.2.1 HN7.out.1 HN7.out.2.2 hg⟩⟩
            · have cg : wr.cell? ⟨g, 0, none⟩ = some (.int .u8 99) := cg
              go_wp2_with fail
              refine (isQuantifier_any 84 w.heap.size s[0] us (q.map (·.2)) (frs (q.map (·.1))) (als (alls us) (q.map (·.1))) _ HN.out.1.node).mono ?_
              rintro eo w1 ⟨rfl, rfl⟩
              rw [HQ.out]
              go_wp2_with fail
              go_region
              have HN7 : Hid (Nd (wr.setCell ⟨w.heap.size, 3, none⟩ (.int .i64 (bits .andNot .i64 (frs (q.map (·.1)) : Nat) 4))).drew (w.heap.size + 1) w.heap.size s[0] v p [2] (q.map (·.2)) (frs (q.map (·.1)) &&& (15 ^^^ 1 <<< 2)) (als (alls [2]) (q.map (·.1))) ∧ Below w.heap.size w (wr.setCell ⟨w.heap.size, 3, none⟩ (.int .i64 (bits .andNot .i64 (frs (q.map (·.1)) : Nat) 4))).drew ∧ ∀ x, x ∈ q → Held (wr.setCell ⟨w.heap.size, 3, none⟩ (.int .i64 (bits .andNot .i64 (frs (q.map (·.1)) : Nat) 4))).drew (w.heap.size + 1) p x.1 x.2) := by
                have e : bits .andNot .i64 (frs (q.map (·.1)) : Nat) 4 = ((frs (q.map (·.1)) &&& (15 ^^^ 1 <<< 2) : Nat) : Int) := b_an (v := 2) hfl.out.1 (by decide)
                rw [e]
                have h1 := HN.out.1
                rw [HRD.out.1] at h1
                exact ⟨(h1.setF _ (and_lt ⟨_, hfl.out.1⟩ ⟨2, by decide⟩)).drew, (HN.out.2.1.setCell (p := ⟨w.heap.size, 3, none⟩) (Nat.le_refl _) _).drew, fun x hx => (HN.out.2.2 x hx).setH (Nat.lt_succ_self _) _ _⟩
              go_wp2
              go_ret2
              exact ⟨_, _, rfl, HN7.out.2.1, by rw [HRD.out.2.2]; exact ⟨rfl, w.heap.size, rfl, fun _ hg => tree_qu HRD.out.2.1 HN7.out.1 HN7.out.2.2 hg⟩⟩
            · have cg : wr.cell? ⟨g, 0, none⟩ = some (.int .u8 100) := cg
              go_wp2_with fail
              refine (isQuantifier_any 84 w.heap.size s[0] us (q.map (·.2)) (frs (q.map (·.1))) (als (alls us) (q.map (·.1))) _ HN.out.1.node).mono ?_
              rintro eo w1 ⟨rfl, rfl⟩
              rw [HQ.out]
              go_wp2_with fail
              go_region
              have HN7 : Hid (Nd (wr.setCell ⟨w.heap.size, 3, none⟩ (.int .i64 (bits .andNot .i64 (frs (q.map (·.1)) : Nat) 8))).drew (w.heap.size + 1) w.heap.size s[0] v p [3] (q.map (·.2)) (frs (q.map (·.1)) &&& (15 ^^^ 1 <<< 3)) (als (alls [3]) (q.map (·.1))) ∧ Below w.heap.size w (wr.setCell ⟨w.heap.size, 3, none⟩ (.int .i64 (bits .andNot .i64 (frs (q.map (·.1)) : Nat) 8))).drew ∧ ∀ x, x ∈ q → Held (wr.setCell ⟨w.heap.size, 3, none⟩ (.int .i64 (bits .andNot .i64 (frs (q.map (·.1)) : Nat) 8))).drew (w.heap.size + 1) p x.1 x.2) := by
                have e : bits .andNot .i64 (frs (q.map (·.1)) : Nat) 8 = ((frs (q.map (·.1)) &&& (15 ^^^ 1 <<< 3) : Nat) : Int) := b_an (v := 3) hfl.out.1 (by decide)
                rw [e]
                have h1 := HN.out.1
                rw [HRD.out.1] at h1
                exact ⟨(h1.setF _ (and_lt ⟨_, hfl.out.1⟩ ⟨3, by decide⟩)).drew, (HN.out.2.1.setCell (p := ⟨w.heap.size, 3, none⟩) (Nat.le_refl _) _).drew, fun x hx => (HN.out.2.2 x hx).setH (Nat.lt_succ_self _) _ _⟩
              go_wp2
              go_ret2
              exact ⟨_, _, rfl, HN7.out.2.1, by rw [HRD.out.2.2]; exact ⟨rfl, w.heap.size, rfl, fun _ hg => tree_qu HRD.out.2.1 HN7.out.1 HN7.out.2.2 hg⟩⟩
end Go.Proofs.YtpcnoiigbmiejaaDoor.fmzq
