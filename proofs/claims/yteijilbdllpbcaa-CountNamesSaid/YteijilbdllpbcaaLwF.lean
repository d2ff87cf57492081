/- The law CountNames: the walk. Conditions: none. -/
import Derived.Test.YteijilbdllpbcaaLwB
namespace Go.Proofs.Yteijilbdllpbcaa
open Go.RowKit

set_option maxRecDepth 1000000 in
theorem val_sample2 : (truthsR 3 [[0, 1, 2], [0, 2, 2]]).2 = 1 := by decide +kernel
theorem val_turned2 : (truthsR 2 [[0, 1], [1, 0]]).2 = 2 := by decide +kernel
theorem ew0 : errOf 3 [[0, 1, 2], [0, 2, 2]] true = 0 := err_sample rfl
theorem ew0' : errOf 2 [[0, 1], [1, 0]] true = 0 := err_turned rfl
theorem ew1 : (truthsE 3 [[0, 1, 2], [0, 2, 2]] (errOf 3 [[0, 1, 2], [0, 2, 2]] true)).2 = 1 := by rw [ew0]; unfold truthsE; rw [if_pos rfl]; exact val_sample2
theorem ew2 : (truthsE 2 [[0, 1], [1, 0]] (errOf 2 [[0, 1], [1, 0]] true)).2 = 2 := by rw [ew0']; unfold truthsE; rw [if_pos rfl]; exact val_turned2
theorem ew3 : countR 3 [[0, 1, 2], [0, 2, 2]] = 2 := by unfold countR; rw [if_pos sample_valid]; show ((truthsR 3 _).1.length : Int) = 2; rw [val_sample]; rfl
theorem ew4 : validE 3 [[0, 1, 2], [0, 2, 2]] = 0 := by decide
theorem ew5 : countR 2 [[0, 1], [1, 0], [0, 1, 0]] = 1 := by unfold countR; rw [if_pos (by decide)]; show ((truthsR 2 _).1.length : Int) = 1; rw [val_third]; rfl
theorem ew6 : validE 2 [[0, 1], [1, 0], [0, 1, 0]] = 0 := by decide
theorem ew7 : (truthsE 3 [[0, 1, 2], [0, 2, 2]] (errOf 3 [[0, 1, 2], [0, 2, 2]] true)).1.headD [] = [0, 1, 2] := by rw [ew0]; unfold truthsE; rw [if_pos rfl]; show (truthsR 3 _).1.headD [] = _; rw [val_sample]; rfl
theorem ew8 : (truthsE 2 [[0, 1], [1, 0]] (errOf 2 [[0, 1], [1, 0]] true)).1.headD [] = [0, 0] := by rw [ew0']; unfold truthsE; rw [if_pos rfl]; show (truthsR 2 _).1.headD [] = _; rw [val_turned]; rfl
theorem ew9 : isE 3 [[0, 1, 2], [0, 2, 2]] [0, 0, 2] = 0 := by decide
theorem ew10 : isR 3 [[0, 1, 2], [0, 2, 2]] [0, 0, 2] = false := by unfold isR; rw [if_pos ew9]; show (truthsR 3 _).1.contains _ = false; rw [val_sample]; decide
theorem ew11 : lapsR 3 [[0, 1, 2], [0, 2, 2]] 0 = 2 := by unfold lapsR; rw [if_pos (err_sample (by decide))]; show lapsZ (truthsR 3 _).1 0 = 2; rw [val_sample]; decide
theorem ew12 : lapsR 3 [[0, 1, 2], [0, 2, 2]] 1 = 3 := by unfold lapsR; rw [if_pos (err_sample (by decide))]; show lapsZ (truthsR 3 _).1 1 = 3; rw [val_sample]; decide
theorem ew13 : lapsR 3 [[0, 1, 2], [0, 2, 2]] 2 = 6 := by unfold lapsR; rw [if_pos (err_sample (by decide))]; show lapsZ (truthsR 3 _).1 2 = 6; rw [val_sample]; decide
theorem ew14 : leadR 2 [[0, 1], [1, 0]] 0 1 = (-2, 2) := by unfold leadR; rw [if_pos (err_turned (by decide))]; show spanOf _ (truthsR 2 _).1 = _; rw [val_turned]; decide
theorem ew15 : settleR 2 [[0, 1], [1, 0]] 0 1 = (0, 4) := by unfold settleR; rw [if_pos (err_turned (by decide))]; show settleZ (truthsR 2 _).1 0 1 = _; rw [val_turned]; decide +kernel
theorem err_third {ok : Bool} (h : ok = true) : errOf 2 [[0, 1], [1, 0], [0, 1, 0]] ok = 0 := by rw [h]; exact ev2
theorem ew16 : settleR 2 [[0, 1], [1, 0], [0, 1, 0]] 0 1 = (0, 11) := by unfold settleR; rw [if_pos (err_third (by decide))]; show settleZ (truthsR 2 _).1 0 1 = _; rw [val_third]; decide +kernel
theorem ew17 : errorsR 3 [[0, 1, 2], [0, 2, 2]] 0 = (0, 1) := by unfold errorsR; rw [if_pos (err_sample (by decide))]; show spanOf _ (truthsR 3 _).1 = _; rw [val_sample]; decide +kernel
set_option maxRecDepth 100000 in
set_option maxHeartbeats 2000000 in
theorem lcountNames (w : World) : Calls Try.prog 4 #[] w fun e w' => e = .returned (.bool true) ∧ Grow w w' := by
  go_enter Try.func4, Try.ntmps4
  go_wp2_with fail
  refine (lsample_any _).mono ?_
  rintro e w1 ⟨s1, rfl, h1, g1⟩
  go_wp2_with fail
  refine (pFewest_any 3 s1 _ w1 h1).mono ?_
  rw [ew1, ew0]
  rintro e w2 ⟨rfl, g2⟩
  go_wp2_with fail
  refine (lturned_no _).mono ?_
  rintro e w3 ⟨s3, rfl, h3, g3⟩
  go_wp2_with fail
  refine (pFewest_any 2 s3 _ w3 h3).mono ?_
  rw [ew2, ew0']
  rintro e w4 ⟨rfl, g4⟩
  go_wp2_with fail
  refine (lsample_any _).mono ?_
  rintro e w5 ⟨s5, rfl, h5, g5⟩
  go_wp2_with fail
  refine (pCount_any 3 s5 _ w5 h5).mono ?_
  rw [ew3, ew4]
  rintro e w6 ⟨rfl, g6⟩
  go_wp2_with fail
  refine (lturned_yes _).mono ?_
  rintro e w7 ⟨s7, rfl, h7, g7⟩
  go_wp2_with fail
  refine (pCount_any 2 s7 _ w7 h7).mono ?_
  rw [ew5, ew6]
  rintro e w8 ⟨rfl, g8⟩
  go_wp2_with fail
  refine (lsample_any _).mono ?_
  rintro e w9 ⟨s9, rfl, h9, g9⟩
  go_wp2_with fail
  refine (pFirst_any 3 s9 _ w9 h9).mono ?_
  rw [ew7, ew0]
  rintro e w10 ⟨v10, rfl, g10, i10⟩
  go_wp2_with fail
  refine (lturned_no _).mono ?_
  rintro e w11 ⟨s11, rfl, h11, g11⟩
  go_wp2_with fail
  refine (pFirst_any 2 s11 _ w11 h11).mono ?_
  rw [ew8, ew0']
  rintro e w12 ⟨v12, rfl, g12, i12⟩
  go_wp2_with fail
  refine (lsample_any _).mono ?_
  rintro e w13 ⟨s13, rfl, h13, g13⟩
  go_wp2_with fail
  have i13 := new_ints w13 [0, 0, 2] 3 rfl rfl (by decide)
  refine (pIs_any 3 s13 _ _ [0, 0, 2] _ (by decide) (by decide) (h13.grow ((Grow.refl w13).alloc _)) i13).mono ?_
  rw [ew9, ew10]
  rintro e w14 ⟨rfl, g14⟩
  have g13' : Grow w13 w14 := ((Grow.refl w13).alloc _).trans g14
  have I10 := Lib.hid (i10.grow ((g11.trans g12).trans (g13.trans g13')))
  have I12 := Lib.hid (i12.grow (g13.trans g13'))
  have gw : Grow w w14 := (((g1.trans g2).trans (g3.trans g4)).trans ((g5.trans g6).trans (g7.trans g8))).trans (((g9.trans g10).trans (g11.trans g12)).trans (g13.trans g13'))
  clear i10 i12 i13 h1 h3 h5 h7 h9 h11 h13 g1 g2 g3 g4 g5 g6 g7 g8 g9 g10 g11 g12 g13 g13' g14
  go_wp2_with fail
  refine (rInts_any _ _ [0, 1, 2] [0, 1, 2] _ (I10.out.grow ((Grow.refl _).alloc _)) (new_ints _ [0, 1, 2] _ rfl rfl (by decide))).mono ?_
  rw [beq_self_eq_true]
  rintro e w15 ⟨rfl, g15⟩
  have g15' : Grow w14 w15 := ((Grow.refl w14).alloc _).trans g15
  have J12 := Lib.hid (I12.out.grow g15')
  go_wp2_with fail
  refine (rInts_any _ _ [0, 0] [0, 0] _ (J12.out.grow ((Grow.refl _).alloc _)) (new_ints _ [0, 0] _ rfl rfl (by decide))).mono ?_
  rw [beq_self_eq_true]
  rintro e w16 ⟨rfl, g16⟩
  have gx : Grow w w16 := (gw.trans g15').trans (((Grow.refl w15).alloc _).trans g16)
  clear gw g15 g15' g16 I10 I12 J12
  go_wp2_with fail
  obtain ⟨B, hB⟩ : ∃ B, w16.heap.size = B := ⟨_, rfl⟩
  obtain ⟨wo, hwo⟩ : ∃ wo, w16.alloc (.cells #[.int .i64 2, .int .i64 3, .int .i64 6] 3) = wo := ⟨_, rfl⟩
  have hI : IsInts wo (.slice (some ⟨B, 0, none⟩) 3 3) [2, 3, 6] := by rw [← hwo]; exact new_ints w16 [2, 3, 6] _ hB.symm rfl (by decide)
  have go : Grow w wo := gx.trans (by rw [← hwo]; exact (Grow.refl w16).alloc _)
  rw [hwo, hB]
  clear hwo hB gx
  obtain ⟨a, cap, heq, hcap, hlen, hrow⟩ := hI
  injection heq with h1 h2 h3
  subst h1 h3
  clear h2
  go_loopw [122] (fun i wr => ∃ k : Nat, k ≤ 3 ∧ i = .int .i64 k ∧ Grow wo wr) (fun i _ => 3 - (intOf i).toNat)
  case atStart => exact ⟨0, by decide, rfl, Grow.refl _⟩
  case round =>
    obtain ⟨k, hk, rfl, hg⟩ := hrel
    by_cases hlt : k < 3
    · obtain ⟨b, o, x, hx, hbo, hc⟩ := hrow.int (i := k) hlt
      have hv : Hid (lapsR 3 [[0, 1, 2], [0, 2, 2]] (k : Int) = x) := by
        show lapsR 3 [[0, 1, 2], [0, 2, 2]] (k : Int) = x
        rcases k with _ | _ | _ | k
        · cases (show some (2 : Int) = some x from hx); exact ew11
        · cases (show some (3 : Int) = some x from hx); exact ew12
        · cases (show some (6 : Int) = some x from hx); exact ew13
        · omega
      clear hx
      cases hbo
      rw [Nat.zero_add] at hc
      have hc' := hg.keeps hc
      go_wp2_with fail
      refine (lsample_any _).mono ?_
      rintro e wa ⟨s, rfl, hs, gs⟩
      go_wp2_with fail
      refine (pLaps_any 3 k s _ wa (by decide) (by decide) hs).mono ?_
      rw [hv.out, err_sample (inB_true.2 ⟨by omega, by omega⟩)]
      rintro e wb ⟨rfl, gb⟩
      go_wp2_with fail
      exact ⟨⟨k + 1, by omega, by go_num, (hg.trans gs).trans gb⟩, by simp [intOf]; omega⟩
    · clear hrow
      go_wp2_with fail
      refine (lturned_no _).mono ?_
      rintro e w17 ⟨s17, rfl, h17, g17⟩
      go_wp2_with fail
      refine (pLead_any 2 0 1 s17 _ w17 (by decide) (by decide) h17).mono ?_
      rw [ew14, err_turned (by decide)]
      rintro e w18 ⟨rfl, g18⟩
      go_wp2_with fail
      refine (lturned_no _).mono ?_
      rintro e w19 ⟨s19, rfl, h19, g19⟩
      go_wp2_with fail
      refine (pSettle_any 2 0 1 s19 _ w19 (by decide) (by decide) h19).mono ?_
      rw [ew15]
      rintro e w20 ⟨rfl, g20⟩
      go_wp2_with fail
      refine (lturned_yes _).mono ?_
      rintro e w21 ⟨s21, rfl, h21, g21⟩
      go_wp2_with fail
      refine (pSettle_any 2 0 1 s21 _ w21 (by decide) (by decide) h21).mono ?_
      rw [ew16]
      rintro e w22 ⟨rfl, g22⟩
      go_wp2_with fail
      refine (lsample_any _).mono ?_
      rintro e w23 ⟨s23, rfl, h23, g23⟩
      go_wp2_with fail
      refine (pErrors_any 3 0 s23 _ w23 h23).mono ?_
      rw [ew17, err_sample (by decide)]
      rintro e w24 ⟨rfl, g24⟩
      have gz : Grow (w18.alloc (.cells #[.int .i64 (-2), .int .i64 2] 36)) w24 := ((g19.trans g20).trans (g21.trans g22)).trans (g23.trans g24)
      have k1 : w24.cell? ⟨w18.heap.size, 0, none⟩ = some (.int .i64 (-2)) := gz.keeps (cell_new rfl rfl)
      have k2 : w24.cell? ⟨w18.heap.size, 1, none⟩ = some (.int .i64 2) := gz.keeps (cell_new rfl rfl)
      have kl := lt_of_cell k1
      have g0 : Grow w w24 := ((go.trans hg).trans ((g17.trans g18).trans ((Grow.refl w18).alloc _))).trans gz
      go_wp2_with fail
      obtain ⟨B1, hB1⟩ : ∃ B, w18.heap.size = B := ⟨_, rfl⟩
      obtain ⟨B2, hB2⟩ : ∃ B, w24.heap.size = B := ⟨_, rfl⟩
      obtain ⟨W, hW⟩ : ∃ W, w24.alloc (.cells #[.int .i64 0, .int .i64 1] 36) = W := ⟨_, rfl⟩
      have gW : Grow w24 W := by rw [← hW]; exact (Grow.refl w24).alloc _
      have e0 : W.cell? ⟨B2, 0, none⟩ = some (.int .i64 0) := by rw [← hW]; exact cell_new hB2.symm rfl
      have e1 : W.cell? ⟨B2, 1, none⟩ = some (.int .i64 1) := by rw [← hW]; exact cell_new hB2.symm rfl
      have f0 : W.cell? ⟨B1, 0, none⟩ = some (.int .i64 (-2)) := by rw [← hB1]; exact gW.keeps k1
      have f1 : W.cell? ⟨B1, 1, none⟩ = some (.int .i64 2) := by rw [← hB1]; exact gW.keeps k2
      have gF : Grow w W := g0.trans gW
      rw [hW, hB1, hB2]
      clear hW hB1 hB2 k1 k2 kl h17 h19 h21 h23 g17 g18 g19 g20 g21 g22 g23 g24 gW g0 gz go hg
      go_region_held3 (fun Wx => Grow W Wx ∧ Wx.cell? ⟨B1, 0, none⟩ = some (.int .i64 (-2)) ∧ Wx.cell? ⟨B1, 1, none⟩ = some (.int .i64 2) ∧ Wx.cell? ⟨B2, 0, none⟩ = some (.int .i64 0) ∧ Wx.cell? ⟨B2, 1, none⟩ = some (.int .i64 1)) ((refine (fun (hG : Grow W _) => ⟨hG, Grow.keeps hG (by assumption), Grow.keeps hG (by assumption), Grow.keeps hG (by assumption), Grow.keeps hG (by assumption)⟩) ?_; (try go_split_ands); first | exact (Below.refl _ _).drew | exact Grow.alloc (by assumption) _ | exact Below.setCell (Below.setCell (by assumption) (by simp <;> omega) _) (by simp <;> omega) _ | exact Grow.trans (by assumption) (by assumption) | exact Below.trans (by assumption) (by assumption))) ((first | (go_at_call 12; refine (lalive_any _).mono ?_; rintro e w' ⟨rfl, hg'⟩) | (go_at_call 29; refine (lspan_any _ _ _).mono ?_; rintro e w' ⟨rfl, hg'⟩)))
      all_goals
        go_wp2_with fail
        go_ret
        refine ⟨rfl, gF.trans ?_⟩
        go_split_ands
        assumption
end Go.Proofs.Yteijilbdllpbcaa
