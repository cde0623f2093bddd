/- Formulas in the program: parsePart, some letters. -/
import Derived.Test.YtpcnoiigbmiejaaDoorPk8
namespace Go.Proofs.YtpcnoiigbmiejaaDoor.fmyr
set_option linter.unusedVariables false
set_option linter.unusedSimpArgs false
open Go.ChangeShapes Go.WideShapes Go.ChangeAt Go.RowKit
open Go.Proofs.YtpcnoiigbmiejaaDoor.lib Go.Proofs.YtpcnoiigbmiejaaDoor.fm Go.Proofs.YtpcnoiigbmiejaaDoor.fmp Go.Proofs.YtpcnoiigbmiejaaDoor.fmt Go.Proofs.YtpcnoiigbmiejaaDoor.fmu Go.Proofs.YtpcnoiigbmiejaaDoor.fme Go.Proofs.YtpcnoiigbmiejaaDoor.fmf Go.Proofs.YtpcnoiigbmiejaaDoor.fmw Go.Proofs.YtpcnoiigbmiejaaDoor.fmx

open Go.Proofs.YtpcnoiigbmiejaaDoor.fmy
set_option maxHeartbeats 3200000 in
set_option maxRecDepth 100000 in
theorem part_r (s : ByteArray) (hs : s.size ≤ 4000) (h0 : 0 < s.size) (hne : s.toList.isEmpty = false) (hx : s[0].toNat = 61 ∨ s[0].toNat = 69) (w : World) :
    Calls Tryd.prog 135 #[.string s] w (PartP 84 w s.data.toList) := by
  have HSO : Hid (sort s[0] = .r) := by
    rcases hx with hx | hx
    · exact sort_of 61 hx rfl
    · exact sort_of 69 hx rfl
  have HQ : Hid (isQ s[0].toNat = false) := by
    rcases hx with hx | hx <;> (rw [Hid, hx]; rfl)
  have HS0 : Hid (s.data.toList = s[0] :: s.data.toList.drop 1) := (full_of h0).2
  have TL0 : Hid (s.data.toList.drop 1 = ([] : List Nat).map vb ++ (s.extract 1 s.size).data.toList) := by rw [tail_one]; rfl
  have ND0 : Hid (Nd (w.alloc (.cells #[.int .u8 s[0].toNat, .slice none 0 0, .slice none 0 0, .int .i64 0, .int .i64 0] 84)) (w.heap.size + 1) w.heap.size s[0] (.slice none 0 0) (.slice none 0 0) [] [] 0 (alls []) ∧ Below w.heap.size w (w.alloc (.cells #[.int .u8 s[0].toNat, .slice none 0 0, .slice none 0 0, .int .i64 0, .int .i64 0] 84))) := ⟨Nd.new w s[0], (Below.refl _ _).alloc (Nat.le_refl _) _⟩
  have HXX := Lib.hid hx
  clear hx
  go_enter Tryd.func135, Tryd.ntmps135
  go_upto_region 5 with (fail)
  rename_i KB hKB
  go_cut [17] from 16 to 17 (fun v17 wx => v17 = .int .u8 s[0].toNat ∧ wx = w.alloc (.cells #[.int .u8 s[0].toNat, .slice none 0 0, .slice none 0 0, .int .i64 0, .int .i64 0] 84))
  case first =>
    go_wp2_with fail
    go_meet
    exact ⟨rfl, rfl⟩
  obtain ⟨rfl, rfl⟩ := hcut
  refine hKB _ _ ?_
  clear hKB
  go_cut [5, 6] from 16 to 37 (fun v5 v6 wx => v5 = .int .i64 2 ∧ v6 = .int .i64 0 ∧ wx = w.alloc (.cells #[.int .u8 s[0].toNat, .slice none 0 0, .slice none 0 0, .int .i64 0, .int .i64 0] 84))
  case first =>
    have HX1 := HXX.out
    clear TL0 ND0
    rcases HX1 with HX1 | HX1
    · have e116 : ((s[0].toNat : Int) == 116) = false := by simp; omega
      have e102 : ((s[0].toNat : Int) == 102) = false := by simp; omega
      have e80 : ((s[0].toNat : Int) == 80) = false := by simp; omega
      have e61 : ((s[0].toNat : Int) == 61) = true := by simp; omega
      clear HX1
      go_wp2_with fail
      go_meet
      exact ⟨rfl, rfl, rfl⟩
    · have e116 : ((s[0].toNat : Int) == 116) = false := by simp; omega
      have e102 : ((s[0].toNat : Int) == 102) = false := by simp; omega
      have e80 : ((s[0].toNat : Int) == 80) = false := by simp; omega
      have e61 : ((s[0].toNat : Int) == 61) = false := by simp; omega
      have e69 : ((s[0].toNat : Int) == 69) = true := by simp; omega
      clear HX1
      go_wp2_with fail
      go_meet
      exact ⟨rfl, rfl, rfl⟩
  case rest =>
    obtain ⟨rfl, rfl, rfl⟩ := hcut
    clear HXX
    go_wp2_with fail
    go_loopw [0, 41] (fun s0 i wr => ∃ (k : Nat) (t : ByteArray) (us : List Nat) (v : Value), k ≤ 2 ∧ us.length = k ∧ i = .int .i64 k ∧ s0 = .string t ∧ Hid (s.data.toList.drop 1 = us.map vb ++ t.data.toList) ∧ Hid (Nd wr (w.heap.size + 1) w.heap.size s[0] v (.slice none 0 0) us [] 0 (alls us) ∧ Below w.heap.size w wr)) (fun _ i _ => 2 - (intOf i).toNat)
    case atStart => exact ⟨0, _, [], _, Nat.zero_le _, rfl, rfl, rfl, TL0, ND0.out⟩
    case round =>
      clear TL0 ND0
      obtain ⟨k, t, us, v, hk, hul, rfl, rfl, HL, HN⟩ := hrel
      have cc := HN.out.1.cells
      obtain ⟨c0, c1, c2, c3, c4⟩ := cc
      have hH := Lib.hid HN.out.1.hlt
      obtain rfl | rfl | rfl : k = 0 ∨ k = 1 ∨ k = 2 := by omega
      · by_cases h0 : 0 < t.size
        · obtain ⟨te, hd⟩ := full_of h0
          have HD := Lib.hid hd
          have ax := ext_first h0
          clear hd
          cases hv : isV t[0] with
          | false =>
            have HV : Hid (∀ W, Calls Tryd.prog 177 #[.string ⟨#[97, 98, 99, 100]⟩, .string ⟨#[t[0]]⟩] W fun e w' => e = .returned (.bool false) ∧ W = w') := fun W => by rw [← hv]; exact isVar_any t[0] W
            have HR : Hid (read s.data.toList = none) := by rw [HS0.out, HL.out, HD.out, List.length_eq_zero_iff.1 hul]; exact read_rv HSO.out hv
            clear hv
            go_wp2_with fail
            refine (HV.out _).mono ?_
            rintro eo w1 ⟨rfl, rfl⟩
            go_wp2
            go_ret2
            exact ⟨_, _, rfl, HN.out.2, by rw [HR.out]; rfl⟩
          | true =>
            have HV : Hid (∀ W, Calls Tryd.prog 177 #[.string ⟨#[97, 98, 99, 100]⟩, .string ⟨#[t[0]]⟩] W fun e w' => e = .returned (.bool true) ∧ W = w') := fun W => by rw [← hv]; exact isVar_any t[0] W
            obtain ⟨m, hm4, hmv, hmn⟩ := isV_at hv
            have HM := Lib.hid hmv
            clear hv hmv
            have HO : Hid (wr.drew.ownsRow (w.heap.size + 1) 5 1 v 0 (bv us)) := by have h := HN.out.1.vs; rw [hul] at h; exact h
            have HZ : Hid (0 + 1 ≤ 4398046511104 ∧ w.heap.size + 1 ≤ wr.heap.size) := ⟨by decide, hH.out⟩
            have HN' : Hid (Nd wr.drew (w.heap.size + 1) w.heap.size s[0] v (.slice none 0 0) us [] 0 (alls us)) := HN.out.1.drew
            obtain rfl | rfl | rfl | rfl : m = 0 ∨ m = 1 ∨ m = 2 ∨ m = 3 := by omega
            · have hb : (t[0].toNat : Int) = 97 := by omega
              have hlt : w.heap.size < wr.heap.size := hH.out
              clear hmn
              go_wp2_with fail
              refine (HV.out _).mono ?_
              rintro eo w1 ⟨rfl, rfl⟩
              go_wp2_with fail
              go_cut [62] from 52 to 62 (fun _ wx => ∃ v', Hid (Nd wx (w.heap.size + 1) w.heap.size s[0] v' (.slice none 0 0) (us ++ [0]) [] 0 (alls us) ∧ Below w.heap.size w wx))
              case first =>
                go_region_law (refine step_app1 wr.drew rfl (.tmp 56) (.tmp 59) 22 rfl (w.heap.size + 1) 5 (.int .u8 0) 1 Tryd.underlying22 infoB rfl (by decide) _ _ _ (.int .u8 97) rfl HO.out wr.heap.size rfl rfl rfl HZ.out.1 HZ.out.2 ?_; intro g cap' w1 hown1 hgr; have fc := (HN'.out.grewV hgr).1; have ff := (HN'.out.grewV hgr).2)
                all_goals
                  have R := Lib.hid (show _ ∧ _ from ⟨HN'.out.appV (u := 0) (by decide) (n := 0) hul.symm (by rfl) hown1 hgr, (below_grew HN.out.2.drew hgr HO.out (by omega)).setCell (p := ⟨w.heap.size, 1, none⟩) (Nat.le_refl _) (.slice (some ⟨g, 0, none⟩) (0 + 1) cap')⟩)
                  go_wp2
                  go_meet
                  exact ⟨_, R⟩
              case rest =>
                obtain ⟨v', HN2⟩ := hcut
                clear HO HZ HN' HN c0 c1 c2 c3 c4 hlt
                obtain ⟨c0, c1, c2, c3, c4⟩ := HN2.out.1.cells
                have f4 := HN2.out.1.free 4
                go_wp2_with fail
                go_region
                have R : Hid (Nd (wc.setCell ⟨w.heap.size, 4, none⟩ (.int .i64 (bits .or .i64 (alls us : Nat) 1))).drew (w.heap.size + 1) w.heap.size s[0] v' (.slice none 0 0) (us ++ [0]) [] 0 (alls (us ++ [0])) ∧ Below w.heap.size w (wc.setCell ⟨w.heap.size, 4, none⟩ (.int .i64 (bits .or .i64 (alls us : Nat) 1))).drew) := by
                  have hl := HN2.out.1.fl.2
                  have e : bits .or .i64 (alls us : Nat) 1 = ((alls (us ++ [0]) : Nat) : Int) := by rw [alls_snoc]; exact b_or (y := 1) hl (by decide)
                  rw [e]
                  exact ⟨(HN2.out.1.setA _ (alls_lt _ HN2.out.1.u4)).drew, (HN2.out.2.setCell (p := ⟨w.heap.size, 4, none⟩) (Nat.le_refl _) _).drew⟩
                have HL2 : Hid (s.data.toList.drop 1 = (us ++ [0]).map vb ++ (t.extract 1 t.size).data.toList) := by
                  rw [Hid, HL.out, HD.out, HM.out, tail_one]; simp
                go_wp2
                go_roundw
                case rel => exact ⟨0 + 1, _, us ++ [0], v', by decide, by simp [hul], by first | rfl | go_num, rfl, HL2, R⟩
                case measure => simp [intOf]
            · have hb : (t[0].toNat : Int) = 98 := by omega
              have hlt : w.heap.size < wr.heap.size := hH.out
              clear hmn
              go_wp2_with fail
              refine (HV.out _).mono ?_
              rintro eo w1 ⟨rfl, rfl⟩
              go_wp2_with fail
              go_cut [62] from 52 to 62 (fun _ wx => ∃ v', Hid (Nd wx (w.heap.size + 1) w.heap.size s[0] v' (.slice none 0 0) (us ++ [1]) [] 0 (alls us) ∧ Below w.heap.size w wx))
              case first =>
                go_region_law (refine step_app1 wr.drew rfl (.tmp 56) (.tmp 59) 22 rfl (w.heap.size + 1) 5 (.int .u8 0) 1 Tryd.underlying22 infoB rfl (by decide) _ _ _ (.int .u8 98) rfl HO.out wr.heap.size rfl rfl rfl HZ.out.1 HZ.out.2 ?_; intro g cap' w1 hown1 hgr; have fc := (HN'.out.grewV hgr).1; have ff := (HN'.out.grewV hgr).2)
                all_goals
                  have R := Lib.hid (show _ ∧ _ from ⟨HN'.out.appV (u := 1) (by decide) (n := 0) hul.symm (by rfl) hown1 hgr, (below_grew HN.out.2.drew hgr HO.out (by omega)).setCell (p := ⟨w.heap.size, 1, none⟩) (Nat.le_refl _) (.slice (some ⟨g, 0, none⟩) (0 + 1) cap')⟩)
                  go_wp2
                  go_meet
                  exact ⟨_, R⟩
              case rest =>
                obtain ⟨v', HN2⟩ := hcut
                clear HO HZ HN' HN c0 c1 c2 c3 c4 hlt
                obtain ⟨c0, c1, c2, c3, c4⟩ := HN2.out.1.cells
                have f4 := HN2.out.1.free 4
                go_wp2_with fail
                go_region
                have R : Hid (Nd (wc.setCell ⟨w.heap.size, 4, none⟩ (.int .i64 (bits .or .i64 (alls us : Nat) 2))).drew (w.heap.size + 1) w.heap.size s[0] v' (.slice none 0 0) (us ++ [1]) [] 0 (alls (us ++ [1])) ∧ Below w.heap.size w (wc.setCell ⟨w.heap.size, 4, none⟩ (.int .i64 (bits .or .i64 (alls us : Nat) 2))).drew) := by
                  have hl := HN2.out.1.fl.2
                  have e : bits .or .i64 (alls us : Nat) 2 = ((alls (us ++ [1]) : Nat) : Int) := by rw [alls_snoc]; exact b_or (y := 2) hl (by decide)
                  rw [e]
                  exact ⟨(HN2.out.1.setA _ (alls_lt _ HN2.out.1.u4)).drew, (HN2.out.2.setCell (p := ⟨w.heap.size, 4, none⟩) (Nat.le_refl _) _).drew⟩
                have HL2 : Hid (s.data.toList.drop 1 = (us ++ [1]).map vb ++ (t.extract 1 t.size).data.toList) := by
                  rw [Hid, HL.out, HD.out, HM.out, tail_one]; simp
                go_wp2
                go_roundw
                case rel => exact ⟨0 + 1, _, us ++ [1], v', by decide, by simp [hul], by first | rfl | go_num, rfl, HL2, R⟩
                case measure => simp [intOf]
            · have hb : (t[0].toNat : Int) = 99 := by omega
              have hlt : w.heap.size < wr.heap.size := hH.out
              clear hmn
              go_wp2_with fail
              refine (HV.out _).mono ?_
              rintro eo w1 ⟨rfl, rfl⟩
              go_wp2_with fail
              go_cut [62] from 52 to 62 (fun _ wx => ∃ v', Hid (Nd wx (w.heap.size + 1) w.heap.size s[0] v' (.slice none 0 0) (us ++ [2]) [] 0 (alls us) ∧ Below w.heap.size w wx))
              case first =>
                go_region_law (refine step_app1 wr.drew rfl (.tmp 56) (.tmp 59) 22 rfl (w.heap.size + 1) 5 (.int .u8 0) 1 Tryd.underlying22 infoB rfl (by decide) _ _ _ (.int .u8 99) rfl HO.out wr.heap.size rfl rfl rfl HZ.out.1 HZ.out.2 ?_; intro g cap' w1 hown1 hgr; have fc := (HN'.out.grewV hgr).1; have ff := (HN'.out.grewV hgr).2)
                all_goals
                  have R := Lib.hid (show _ ∧ _ from ⟨HN'.out.appV (u := 2) (by decide) (n := 0) hul.symm (by rfl) hown1 hgr, (below_grew HN.out.2.drew hgr HO.out (by omega)).setCell (p := ⟨w.heap.size, 1, none⟩) (Nat.le_refl _) (.slice (some ⟨g, 0, none⟩) (0 + 1) cap')⟩)
                  go_wp2
                  go_meet
                  exact ⟨_, R⟩
              case rest =>
                obtain ⟨v', HN2⟩ := hcut
                clear HO HZ HN' HN c0 c1 c2 c3 c4 hlt
                obtain ⟨c0, c1, c2, c3, c4⟩ := HN2.out.1.cells
                have f4 := HN2.out.1.free 4
                go_wp2_with fail
                go_region
                have R : Hid (Nd (wc.setCell ⟨w.heap.size, 4, none⟩ (.int .i64 (bits .or .i64 (alls us : Nat) 4))).drew (w.heap.size + 1) w.heap.size s[0] v' (.slice none 0 0) (us ++ [2]) [] 0 (alls (us ++ [2])) ∧ Below w.heap.size w (wc.setCell ⟨w.heap.size, 4, none⟩ (.int .i64 (bits .or .i64 (alls us : Nat) 4))).drew) := by
                  have hl := HN2.out.1.fl.2
                  have e : bits .or .i64 (alls us : Nat) 4 = ((alls (us ++ [2]) : Nat) : Int) := by rw [alls_snoc]; exact b_or (y := 4) hl (by decide)
                  rw [e]
                  exact ⟨(HN2.out.1.setA _ (alls_lt _ HN2.out.1.u4)).drew, (HN2.out.2.setCell (p := ⟨w.heap.size, 4, none⟩) (Nat.le_refl _) _).drew⟩
                have HL2 : Hid (s.data.toList.drop 1 = (us ++ [2]).map vb ++ (t.extract 1 t.size).data.toList) := by
                  rw [Hid, HL.out, HD.out, HM.out, tail_one]; simp
                go_wp2
                go_roundw
                case rel => exact ⟨0 + 1, _, us ++ [2], v', by decide, by simp [hul], by first | rfl | go_num, rfl, HL2, R⟩
                case measure => simp [intOf]
            · have hb : (t[0].toNat : Int) = 100 := by omega
              have hlt : w.heap.size < wr.heap.size := hH.out
              clear hmn
              go_wp2_with fail
              refine (HV.out _).mono ?_
              rintro eo w1 ⟨rfl, rfl⟩
              go_wp2_with fail
              go_cut [62] from 52 to 62 (fun _ wx => ∃ v', Hid (Nd wx (w.heap.size + 1) w.heap.size s[0] v' (.slice none 0 0) (us ++ [3]) [] 0 (alls us) ∧ Below w.heap.size w wx))
              case first =>
                go_region_law (refine step_app1 wr.drew rfl (.tmp 56) (.tmp 59) 22 rfl (w.heap.size + 1) 5 (.int .u8 0) 1 Tryd.underlying22 infoB rfl (by decide) _ _ _ (.int .u8 100) rfl HO.out wr.heap.size rfl rfl rfl HZ.out.1 HZ.out.2 ?_; intro g cap' w1 hown1 hgr; have fc := (HN'.out.grewV hgr).1; have ff := (HN'.out.grewV hgr).2)
                all_goals
                  have R := Lib.hid (show _ ∧ _ from ⟨HN'.out.appV (u := 3) (by decide) (n := 0) hul.symm (by rfl) hown1 hgr, (below_grew HN.out.2.drew hgr HO.out (by omega)).setCell (p := ⟨w.heap.size, 1, none⟩) (Nat.le_refl _) (.slice (some ⟨g, 0, none⟩) (0 + 1) cap')⟩)
                  go_wp2
                  go_meet
                  exact ⟨_, R⟩
              case rest =>
                obtain ⟨v', HN2⟩ := hcut
                clear HO HZ HN' HN c0 c1 c2 c3 c4 hlt
                obtain ⟨c0, c1, c2, c3, c4⟩ := HN2.out.1.cells
                have f4 := HN2.out.1.free 4
                go_wp2_with fail
                go_region
                have R : Hid (Nd (wc.setCell ⟨w.heap.size, 4, none⟩ (.int .i64 (bits .or .i64 (alls us : Nat) 8))).drew (w.heap.size + 1) w.heap.size s[0] v' (.slice none 0 0) (us ++ [3]) [] 0 (alls (us ++ [3])) ∧ Below w.heap.size w (wc.setCell ⟨w.heap.size, 4, none⟩ (.int .i64 (bits .or .i64 (alls us : Nat) 8))).drew) := by
                  have hl := HN2.out.1.fl.2
                  have e : bits .or .i64 (alls us : Nat) 8 = ((alls (us ++ [3]) : Nat) : Int) := by rw [alls_snoc]; exact b_or (y := 8) hl (by decide)
                  rw [e]
                  exact ⟨(HN2.out.1.setA _ (alls_lt _ HN2.out.1.u4)).drew, (HN2.out.2.setCell (p := ⟨w.heap.size, 4, none⟩) (Nat.le_refl _) _).drew⟩
                have HL2 : Hid (s.data.toList.drop 1 = (us ++ [3]).map vb ++ (t.extract 1 t.size).data.toList) := by
                  rw [Hid, HL.out, HD.out, HM.out, tail_one]; simp
                go_wp2
                go_roundw
                case rel => exact ⟨0 + 1, _, us ++ [3], v', by decide, by simp [hul], by first | rfl | go_num, rfl, HL2, R⟩
                case measure => simp [intOf]
        · obtain ⟨te, hd⟩ := empty_of (by omega : t.size = 0)
          have HR : Hid (read s.data.toList = none) := by rw [HS0.out, HL.out, hd, List.length_eq_zero_iff.1 hul]; exact read_r0 HSO.out
          clear hd
          go_wp2
          go_ret2
          exact ⟨_, _, rfl, HN.out.2, by rw [HR.out]; rfl⟩
      · by_cases h0 : 0 < t.size
        · obtain ⟨te, hd⟩ := full_of h0
          have HD := Lib.hid hd
          have ax := ext_first h0
          clear hd
          cases hv : isV t[0] with
          | false =>
            have HV : Hid (∀ W, Calls Tryd.prog 177 #[.string ⟨#[97, 98, 99, 100]⟩, .string ⟨#[t[0]]⟩] W fun e w' => e = .returned (.bool false) ∧ W = w') := fun W => by rw [← hv]; exact isVar_any t[0] W
            have HR : Hid (read s.data.toList = none) := by rw [HS0.out, HL.out, HD.out]; exact read_ru HSO.out hul hv
            clear hv
            go_wp2_with fail
            refine (HV.out _).mono ?_
            rintro eo w1 ⟨rfl, rfl⟩
            go_wp2
            go_ret2
            exact ⟨_, _, rfl, HN.out.2, by rw [HR.out]; rfl⟩
          | true =>
            have HV : Hid (∀ W, Calls Tryd.prog 177 #[.string ⟨#[97, 98, 99, 100]⟩, .string ⟨#[t[0]]⟩] W fun e w' => e = .returned (.bool true) ∧ W = w') := fun W => by rw [← hv]; exact isVar_any t[0] W
            obtain ⟨m, hm4, hmv, hmn⟩ := isV_at hv
            have HM := Lib.hid hmv
            clear hv hmv
            have HO : Hid (wr.drew.ownsRow (w.heap.size + 1) 5 1 v 1 (bv us)) := by have h := HN.out.1.vs; rw [hul] at h; exact h
            have HZ : Hid (1 + 1 ≤ 4398046511104 ∧ w.heap.size + 1 ≤ wr.heap.size) := ⟨by decide, hH.out⟩
            have HN' : Hid (Nd wr.drew (w.heap.size + 1) w.heap.size s[0] v (.slice none 0 0) us [] 0 (alls us)) := HN.out.1.drew
            obtain rfl | rfl | rfl | rfl : m = 0 ∨ m = 1 ∨ m = 2 ∨ m = 3 := by omega
            · have hb : (t[0].toNat : Int) = 97 := by omega
              have hlt : w.heap.size < wr.heap.size := hH.out
              clear hmn
              go_wp2_with fail
              refine (HV.out _).mono ?_
              rintro eo w1 ⟨rfl, rfl⟩
              go_wp2_with fail
              go_cut [62] from 52 to 62 (fun _ wx => ∃ v', Hid (Nd wx (w.heap.size + 1) w.heap.size s[0] v' (.slice none 0 0) (us ++ [0]) [] 0 (alls us) ∧ Below w.heap.size w wx))
              case first =>
                go_region_law (refine step_app1 wr.drew rfl (.tmp 56) (.tmp 59) 22 rfl (w.heap.size + 1) 5 (.int .u8 0) 1 Tryd.underlying22 infoB rfl (by decide) _ _ _ (.int .u8 97) rfl HO.out wr.heap.size rfl rfl rfl HZ.out.1 HZ.out.2 ?_; intro g cap' w1 hown1 hgr; have fc := (HN'.out.grewV hgr).1; have ff := (HN'.out.grewV hgr).2)
                all_goals
                  have R := Lib.hid (show _ ∧ _ from ⟨HN'.out.appV (u := 0) (by decide) (n := 1) hul.symm (by rfl) hown1 hgr, (below_grew HN.out.2.drew hgr HO.out (by omega)).setCell (p := ⟨w.heap.size, 1, none⟩) (Nat.le_refl _) (.slice (some ⟨g, 0, none⟩) (1 + 1) cap')⟩)
                  go_wp2
                  go_meet
                  exact ⟨_, R⟩
              case rest =>
                obtain ⟨v', HN2⟩ := hcut
                clear HO HZ HN' HN c0 c1 c2 c3 c4 hlt
                obtain ⟨c0, c1, c2, c3, c4⟩ := HN2.out.1.cells
                have f4 := HN2.out.1.free 4
                go_wp2_with fail
                go_region
                have R : Hid (Nd (wc.setCell ⟨w.heap.size, 4, none⟩ (.int .i64 (bits .or .i64 (alls us : Nat) 1))).drew (w.heap.size + 1) w.heap.size s[0] v' (.slice none 0 0) (us ++ [0]) [] 0 (alls (us ++ [0])) ∧ Below w.heap.size w (wc.setCell ⟨w.heap.size, 4, none⟩ (.int .i64 (bits .or .i64 (alls us : Nat) 1))).drew) := by
                  have hl := HN2.out.1.fl.2
                  have e : bits .or .i64 (alls us : Nat) 1 = ((alls (us ++ [0]) : Nat) : Int) := by rw [alls_snoc]; exact b_or (y := 1) hl (by decide)
                  rw [e]
                  exact ⟨(HN2.out.1.setA _ (alls_lt _ HN2.out.1.u4)).drew, (HN2.out.2.setCell (p := ⟨w.heap.size, 4, none⟩) (Nat.le_refl _) _).drew⟩
                have HL2 : Hid (s.data.toList.drop 1 = (us ++ [0]).map vb ++ (t.extract 1 t.size).data.toList) := by
                  rw [Hid, HL.out, HD.out, HM.out, tail_one]; simp
                go_wp2
                go_roundw
                case rel => exact ⟨1 + 1, _, us ++ [0], v', by decide, by simp [hul], by first | rfl | go_num, rfl, HL2, R⟩
                case measure => simp [intOf]
            · have hb : (t[0].toNat : Int) = 98 := by omega
              have hlt : w.heap.size < wr.heap.size := hH.out
              clear hmn
              go_wp2_with fail
              refine (HV.out _).mono ?_
              rintro eo w1 ⟨rfl, rfl⟩
              go_wp2_with fail
              go_cut [62] from 52 to 62 (fun _ wx => ∃ v', Hid (Nd wx (w.heap.size + 1) w.heap.size s[0] v' (.slice none 0 0) (us ++ [1]) [] 0 (alls us) ∧ Below w.heap.size w wx))
              case first =>
                go_region_law (refine step_app1 wr.drew rfl (.tmp 56) (.tmp 59) 22 rfl (w.heap.size + 1) 5 (.int .u8 0) 1 Tryd.underlying22 infoB rfl (by decide) _ _ _ (.int .u8 98) rfl HO.out wr.heap.size rfl rfl rfl HZ.out.1 HZ.out.2 ?_; intro g cap' w1 hown1 hgr; have fc := (HN'.out.grewV hgr).1; have ff := (HN'.out.grewV hgr).2)
                all_goals
                  have R := Lib.hid (show _ ∧ _ from ⟨HN'.out.appV (u := 1) (by decide) (n := 1) hul.symm (by rfl) hown1 hgr, (below_grew HN.out.2.drew hgr HO.out (by omega)).setCell (p := ⟨w.heap.size, 1, none⟩) (Nat.le_refl _) (.slice (some ⟨g, 0, none⟩) (1 + 1) cap')⟩)
                  go_wp2
                  go_meet
                  exact ⟨_, R⟩
              case rest =>
                obtain ⟨v', HN2⟩ := hcut
                clear HO HZ HN' HN c0 c1 c2 c3 c4 hlt
                obtain ⟨c0, c1, c2, c3, c4⟩ := HN2.out.1.cells
                have f4 := HN2.out.1.free 4
                go_wp2_with fail
                go_region
                have R : Hid (Nd (wc.setCell ⟨w.heap.size, 4, none⟩ (.int .i64 (bits .or .i64 (alls us : Nat) 2))).drew (w.heap.size + 1) w.heap.size s[0] v' (.slice none 0 0) (us ++ [1]) [] 0 (alls (us ++ [1])) ∧ Below w.heap.size w (wc.setCell ⟨w.heap.size, 4, none⟩ (.int .i64 (bits .or .i64 (alls us : Nat) 2))).drew) := by
                  have hl := HN2.out.1.fl.2
                  have e : bits .or .i64 (alls us : Nat) 2 = ((alls (us ++ [1]) : Nat) : Int) := by rw [alls_snoc]; exact b_or (y := 2) hl (by decide)
                  rw [e]
                  exact ⟨(HN2.out.1.setA _ (alls_lt _ HN2.out.1.u4)).drew, (HN2.out.2.setCell (p := ⟨w.heap.size, 4, none⟩) (Nat.le_refl _) _).drew⟩
                have HL2 : Hid (s.data.toList.drop 1 = (us ++ [1]).map vb ++ (t.extract 1 t.size).data.toList) := by
                  rw [Hid, HL.out, HD.out, HM.out, tail_one]; simp
                go_wp2
                go_roundw
                case rel => exact ⟨1 + 1, _, us ++ [1], v', by decide, by simp [hul], by first | rfl | go_num, rfl, HL2, R⟩
                case measure => simp [intOf]
            · have hb : (t[0].toNat : Int) = 99 := by omega
              have hlt : w.heap.size < wr.heap.size := hH.out
              clear hmn
              go_wp2_with fail
              refine (HV.out _).mono ?_
              rintro eo w1 ⟨rfl, rfl⟩
              go_wp2_with fail
              go_cut [62] from 52 to 62 (fun _ wx => ∃ v', Hid (Nd wx (w.heap.size + 1) w.heap.size s[0] v' (.slice none 0 0) (us ++ [2]) [] 0 (alls us) ∧ Below w.heap.size w wx))
              case first =>
                go_region_law (refine step_app1 wr.drew rfl (.tmp 56) (.tmp 59) 22 rfl (w.heap.size + 1) 5 (.int .u8 0) 1 Tryd.underlying22 infoB rfl (by decide) _ _ _ (.int .u8 99) rfl HO.out wr.heap.size rfl rfl rfl HZ.out.1 HZ.out.2 ?_; intro g cap' w1 hown1 hgr; have fc := (HN'.out.grewV hgr).1; have ff := (HN'.out.grewV hgr).2)
                all_goals
                  have R := Lib.hid (show _ ∧ _ from ⟨HN'.out.appV (u := 2) (by decide) (n := 1) hul.symm (by rfl) hown1 hgr, (below_grew HN.out.2.drew hgr HO.out (by omega)).setCell (p := ⟨w.heap.size, 1, none⟩) (Nat.le_refl _) (.slice (some ⟨g, 0, none⟩) (1 + 1) cap')⟩)
                  go_wp2
                  go_meet
                  exact ⟨_, R⟩
              case rest =>
                obtain ⟨v', HN2⟩ := hcut
                clear HO HZ HN' HN c0 c1 c2 c3 c4 hlt
                obtain ⟨c0, c1, c2, c3, c4⟩ := HN2.out.1.cells
                have f4 := HN2.out.1.free 4
                go_wp2_with fail
                go_region
                have R : Hid (Nd (wc.setCell ⟨w.heap.size, 4, none⟩ (.int .i64 (bits .or .i64 (alls us : Nat) 4))).drew (w.heap.size + 1) w.heap.size s[0] v' (.slice none 0 0) (us ++ [2]) [] 0 (alls (us ++ [2])) ∧ Below w.heap.size w (wc.setCell ⟨w.heap.size, 4, none⟩ (.int .i64 (bits .or .i64 (alls us : Nat) 4))).drew) := by
                  have hl := HN2.out.1.fl.2
                  have e : bits .or .i64 (alls us : Nat) 4 = ((alls (us ++ [2]) : Nat) : Int) := by rw [alls_snoc]; exact b_or (y := 4) hl (by decide)
                  rw [e]
                  exact ⟨(HN2.out.1.setA _ (alls_lt _ HN2.out.1.u4)).drew, (HN2.out.2.setCell (p := ⟨w.heap.size, 4, none⟩) (Nat.le_refl _) _).drew⟩
                have HL2 : Hid (s.data.toList.drop 1 = (us ++ [2]).map vb ++ (t.extract 1 t.size).data.toList) := by
                  rw [Hid, HL.out, HD.out, HM.out, tail_one]; simp
                go_wp2
                go_roundw
                case rel => exact ⟨1 + 1, _, us ++ [2], v', by decide, by simp [hul], by first | rfl | go_num, rfl, HL2, R⟩
                case measure => simp [intOf]
            · have hb : (t[0].toNat : Int) = 100 := by omega
              have hlt : w.heap.size < wr.heap.size := hH.out
              clear hmn
              go_wp2_with fail
              refine (HV.out _).mono ?_
              rintro eo w1 ⟨rfl, rfl⟩
              go_wp2_with fail
              go_cut [62] from 52 to 62 (fun _ wx => ∃ v', Hid (Nd wx (w.heap.size + 1) w.heap.size s[0] v' (.slice none 0 0) (us ++ [3]) [] 0 (alls us) ∧ Below w.heap.size w wx))
              case first =>
                go_region_law (refine step_app1 wr.drew rfl (.tmp 56) (.tmp 59) 22 rfl (w.heap.size + 1) 5 (.int .u8 0) 1 Tryd.underlying22 infoB rfl (by decide) _ _ _ (.int .u8 100) rfl HO.out wr.heap.size rfl rfl rfl HZ.out.1 HZ.out.2 ?_; intro g cap' w1 hown1 hgr; have fc := (HN'.out.grewV hgr).1; have ff := (HN'.out.grewV hgr).2)
                all_goals
                  have R := Lib.hid (show _ ∧ _ from ⟨HN'.out.appV (u := 3) (by decide) (n := 1) hul.symm (by rfl) hown1 hgr, (below_grew HN.out.2.drew hgr HO.out (by omega)).setCell (p := ⟨w.heap.size, 1, none⟩) (Nat.le_refl _) (.slice (some ⟨g, 0, none⟩) (1 + 1) cap')⟩)
                  go_wp2
                  go_meet
                  exact ⟨_, R⟩
              case rest =>
                obtain ⟨v', HN2⟩ := hcut
                clear HO HZ HN' HN c0 c1 c2 c3 c4 hlt
                obtain ⟨c0, c1, c2, c3, c4⟩ := HN2.out.1.cells
                have f4 := HN2.out.1.free 4
                go_wp2_with fail
                go_region
                have R : Hid (Nd (wc.setCell ⟨w.heap.size, 4, none⟩ (.int .i64 (bits .or .i64 (alls us : Nat) 8))).drew (w.heap.size + 1) w.heap.size s[0] v' (.slice none 0 0) (us ++ [3]) [] 0 (alls (us ++ [3])) ∧ Below w.heap.size w (wc.setCell ⟨w.heap.size, 4, none⟩ (.int .i64 (bits .or .i64 (alls us : Nat) 8))).drew) := by
                  have hl := HN2.out.1.fl.2
                  have e : bits .or .i64 (alls us : Nat) 8 = ((alls (us ++ [3]) : Nat) : Int) := by rw [alls_snoc]; exact b_or (y := 8) hl (by decide)
                  rw [e]
                  exact ⟨(HN2.out.1.setA _ (alls_lt _ HN2.out.1.u4)).drew, (HN2.out.2.setCell (p := ⟨w.heap.size, 4, none⟩) (Nat.le_refl _) _).drew⟩
                have HL2 : Hid (s.data.toList.drop 1 = (us ++ [3]).map vb ++ (t.extract 1 t.size).data.toList) := by
                  rw [Hid, HL.out, HD.out, HM.out, tail_one]; simp
                go_wp2
                go_roundw
                case rel => exact ⟨1 + 1, _, us ++ [3], v', by decide, by simp [hul], by first | rfl | go_num, rfl, HL2, R⟩
                case measure => simp [intOf]
        · obtain ⟨te, hd⟩ := empty_of (by omega : t.size = 0)
          have HR : Hid (read s.data.toList = none) := by rw [HS0.out, HL.out, hd]; exact read_re HSO.out hul
          clear hd
          go_wp2
          go_ret2
          exact ⟨_, _, rfl, HN.out.2, by rw [HR.out]; rfl⟩
      · have HR : Hid (∃ m u, us = [m, u] ∧ read s.data.toList = some (.r s[0] m u, t.data.toList)) := by
          match us, hul, HL with
          | [m, u], _, HL =>
            have hm := HN.out.1.u4 m (by simp)
            have hu := HN.out.1.u4 u (by simp)
            refine ⟨m, u, rfl, ?_⟩
            rw [HS0.out, HL.out]
            show read (s[0] :: vb m :: vb u :: t.data.toList) = _
            rw [read_r HSO.out (isV_vb hm) (isV_vb hu), vn_vb hm, vn_vb hu]
        have f3 := HN.out.1.free 3
        have HN3 : Hid (Nd (wr.setCell ⟨w.heap.size, 3, none⟩ (.int .i64 (alls us : Nat))) (w.heap.size + 1) w.heap.size s[0] v (.slice none 0 0) us [] (alls us) (alls us) ∧ Below w.heap.size w (wr.setCell ⟨w.heap.size, 3, none⟩ (.int .i64 (alls us : Nat)))) :=
          ⟨HN.out.1.setF _ HN.out.1.fl.2, HN.out.2.setCell (p := ⟨w.heap.size, 3, none⟩) (Nat.le_refl _) _⟩
        go_wp2_with fail
        obtain ⟨w4, hw4⟩ : ∃ QZ, QZ = wr.setCell ⟨w.heap.size, 3, none⟩ (.int .i64 (alls us : Nat)) := ⟨_, rfl⟩
        rw [← hw4] at HN3 ⊢
        clear hw4 HN c0 c1 c2 c3 c4 f3
        go_loop [0, 90] (fun s0 i => s0 = .string t ∧ i = .int .i64 0) (fun _ _ => 0)
        case atStart => exact ⟨rfl, rfl⟩
        case round =>
          obtain ⟨rfl, rfl⟩ := hrel
          go_wp2_with fail
          refine (isQuantifier_any 84 w.heap.size s[0] us [] (alls us) (alls us) _ HN3.out.1.node).mono ?_
          rintro eo w1 ⟨rfl, rfl⟩
          rw [HQ.out]
          go_wp2
          go_ret2
          exact ⟨_, _, rfl, HN3.out.2, by obtain ⟨m, u, rfl, hr⟩ := HR.out; rw [hr]; exact ⟨rfl, w.heap.size, rfl, fun _ hg => tree_r HN3.out.1 (Nat.le_refl _) hg⟩⟩
end Go.Proofs.YtpcnoiigbmiejaaDoor.fmyr
