/- The laws of layer 1: alive. Conditions: none. -/
import Derived.Test.YteijilbdllpbcaaLwA
import Derived.Test.YteijilbdllpbcaaPgV
namespace Go.Proofs.Yteijilbdllpbcaa
open Go.RowKit

theorem ev1 : (truthsE 2 [[0, 1], [1, 0], [0, 1, 0]] (errOf 2 [[0, 1], [1, 0], [0, 1, 0]] true)).2 = 2 := by
  rw [show errOf 2 [[0, 1], [1, 0], [0, 1, 0]] true = 0 by decide +kernel]; unfold truthsE; rw [if_pos rfl]; show (truthsR 2 _).2 = 2; rw [val_third]
theorem ev2 : errOf 2 [[0, 1], [1, 0], [0, 1, 0]] true = 0 := by decide +kernel
theorem ev3 : countR 2 [[0, 1], [1, 0]] = 6 := by unfold countR; rw [if_pos (by decide)]; show ((truthsR 2 _).1.length : Int) = 6; rw [val_turned]; rfl
theorem ev4 : validE 2 [[0, 1], [1, 0]] = 0 := by decide
theorem ev5 : (truthsE 2 [[0, 1], [1, 0], [0, 1, 0]] (errOf 2 [[0, 1], [1, 0], [0, 1, 0]] true)).1.headD [] = [0, 1, 0] := by
  rw [ev2]; unfold truthsE; rw [if_pos rfl]; show (truthsR 2 _).1.headD [] = _; rw [val_third]; rfl
theorem sample_valid : validB 3 [[0, 1, 2], [0, 2, 2]] = true := by decide
theorem ev6 : isE 3 [[0, 1, 2], [0, 2, 2]] [0, 2, 2] = 0 := by decide
theorem ev7 : isR 3 [[0, 1, 2], [0, 2, 2]] [0, 2, 2] = true := by unfold isR; rw [if_pos ev6]; show (truthsR 3 _).1.contains _ = true; rw [val_sample]; decide
theorem err_sample {ok : Bool} (h : ok = true) : errOf 3 [[0, 1, 2], [0, 2, 2]] ok = 0 := by
  rw [errOf_zero' (by unfold codeO; rw [sample_valid, h]; rfl), if_neg]
  show (truthsR 3 _).1 ≠ []
  rw [val_sample]; decide
theorem err_turned {ok : Bool} (h : ok = true) : errOf 2 [[0, 1], [1, 0]] ok = 0 := by
  rw [errOf_zero' (by unfold codeO; rw [h]; decide), if_neg]
  show (truthsR 2 _).1 ≠ []
  rw [val_turned]; decide
theorem ev8 : lapsR 2 [[0, 1], [1, 0]] 0 = 7 := by unfold lapsR; rw [if_pos (err_turned (by decide))]; show lapsZ (truthsR 2 _).1 0 = 7; rw [val_turned]; decide
theorem ev9 : leadR 3 [[0, 1, 2], [0, 2, 2]] 2 1 = (0, 2) := by unfold leadR; rw [if_pos (err_sample (by decide))]; show spanOf _ (truthsR 3 _).1 = _; rw [val_sample]; decide
theorem ev10 : settleR 3 [[0, 1, 2], [0, 2, 2]] 1 2 = (1, 0) := by unfold settleR; rw [if_pos (err_sample (by decide))]; show settleZ (truthsR 3 _).1 1 2 = _; rw [val_sample]; decide
theorem ev11 : errorsR 2 [[0, 1], [1, 0]] 1 = (0, 2) := by unfold errorsR; rw [if_pos (err_turned (by decide))]; show spanOf _ (truthsR 2 _).1 = _; rw [val_turned]; decide +kernel
set_option maxRecDepth 100000 in
set_option maxHeartbeats 1000000 in
theorem lalive_any (w : World) : Calls Try.prog 12 #[] w fun e w' => e = .returned (.bool true) ∧ Grow w w' := by
  go_enter Try.func12, Try.ntmps12
  go_wp2_with fail
  refine (lturned_yes _).mono ?_
  rintro e w1 ⟨s1, rfl, h1, g1⟩
  go_wp2_with fail
  refine (pFewest_any 2 s1 _ w1 h1).mono ?_
  rw [ev1, ev2]
  rintro e w2 ⟨rfl, g2⟩
  go_wp2_with fail
  refine (lturned_no _).mono ?_
  rintro e w3 ⟨s3, rfl, h3, g3⟩
  go_wp2_with fail
  refine (pCount_any 2 s3 _ w3 h3).mono ?_
  rw [ev3, ev4]
  rintro e w4 ⟨rfl, g4⟩
  go_wp2_with fail
  refine (lturned_yes _).mono ?_
  rintro e w5 ⟨s5, rfl, h5, g5⟩
  go_wp2_with fail
  refine (pFirst_any 2 s5 _ w5 h5).mono ?_
  rw [ev5, ev2]
  rintro e w6 ⟨v6, rfl, g6, i6⟩
  go_wp2_with fail
  refine (lsample_any _).mono ?_
  rintro e w7 ⟨s7, rfl, h7, g7⟩
  go_wp2_with fail
  have i7 := new_ints w7 [0, 2, 2] 3 rfl rfl (by decide)
  refine (pIs_any 3 s7 _ _ [0, 2, 2] _ (by decide) (by decide) (h7.grow ((Grow.refl w7).alloc _)) i7).mono ?_
  rw [ev6, ev7]
  rintro e w8 ⟨rfl, g8⟩
  clear i7
  go_wp2_with fail
  refine (lturned_no _).mono ?_
  rintro e w9 ⟨s9, rfl, h9, g9⟩
  go_wp2_with fail
  refine (pLaps_any 2 0 s9 _ w9 (by decide) (by decide) h9).mono ?_
  rw [ev8, err_turned (by decide)]
  rintro e w10 ⟨rfl, g10⟩
  go_wp2_with fail
  refine (lsample_any _).mono ?_
  rintro e w11 ⟨s11, rfl, h11, g11⟩
  go_wp2_with fail
  refine (pLead_any 3 2 1 s11 _ w11 (by decide) (by decide) h11).mono ?_
  rw [ev9, err_sample (by decide)]
  rintro e w12 ⟨rfl, g12⟩
  go_wp2_with fail
  refine (lsample_any _).mono ?_
  rintro e w13 ⟨s13, rfl, h13, g13⟩
  go_wp2_with fail
  refine (pSettle_any 3 1 2 s13 _ w13 (by decide) (by decide) h13).mono ?_
  rw [ev10]
  rintro e w14 ⟨rfl, g14⟩
  go_wp2_with fail
  refine (lturned_no _).mono ?_
  rintro e w15 ⟨s15, rfl, h15, g15⟩
  go_wp2_with fail
  refine (pErrors_any 2 1 s15 _ w15 h15).mono ?_
  rw [ev11, err_turned (by decide)]
  rintro e w16 ⟨rfl, g16⟩
  have k1 : w16.cell? ⟨w12.heap.size, 0, none⟩ = some (.int .i64 0) := ((g13.trans g14).trans (g15.trans g16)).keeps (cell_new rfl rfl)
  have k2 : w16.cell? ⟨w12.heap.size, 1, none⟩ = some (.int .i64 2) := ((g13.trans g14).trans (g15.trans g16)).keeps (cell_new rfl rfl)
  have kl := lt_of_cell k1
  have i16 : Hid (IsInts w16 v6 [0, 1, 0]) := i6.grow ((((g7.trans ((((Grow.refl w7).alloc _).trans g8))).trans (g9.trans g10)).trans ((g11.trans g12).trans ((Grow.refl w12).alloc _))).trans ((g13.trans g14).trans (g15.trans g16)))
  have g0 : Grow w w16 := (((g1.trans g2).trans (g3.trans g4)).trans (g5.trans g6)).trans ((((g7.trans ((((Grow.refl w7).alloc _).trans g8))).trans (g9.trans g10)).trans ((g11.trans g12).trans ((Grow.refl w12).alloc _))).trans ((g13.trans g14).trans (g15.trans g16)))
  clear i6
  go_wp2_with fail
  simp only [List.append_eq, List.cons_append, List.nil_append]
  obtain ⟨B1, hB1⟩ : ∃ B, w12.heap.size = B := ⟨_, rfl⟩
  obtain ⟨B2, hB2⟩ : ∃ B, w16.heap.size = B := ⟨_, rfl⟩
  obtain ⟨W, hW⟩ : ∃ W, w16.alloc (.cells #[.int .i64 0, .int .i64 2] 36) = W := ⟨_, rfl⟩
  have gW : Grow w16 W := by rw [← hW]; exact (Grow.refl w16).alloc _
  have e0 : W.cell? ⟨B2, 0, none⟩ = some (.int .i64 0) := by rw [← hW]; exact cell_new hB2.symm rfl
  have e1 : W.cell? ⟨B2, 1, none⟩ = some (.int .i64 2) := by rw [← hW]; exact cell_new hB2.symm rfl
  have f0 : W.cell? ⟨B1, 0, none⟩ = some (.int .i64 0) := by rw [← hB1]; exact gW.keeps k1
  have f1 : W.cell? ⟨B1, 1, none⟩ = some (.int .i64 2) := by rw [← hB1]; exact gW.keeps k2
  have iW : Hid (IsInts W v6 [0, 1, 0]) := i16.out.grow gW
  have gF : Grow w W := g0.trans gW
  rw [hW, hB1, hB2]
  clear hW hB1 hB2 k1 k2 kl i16 h1 h3 h5 h7 h9 h11 h13 h15 g1 g2 g3 g4 g5 g6 g7 g8 g9 g10 g11 g12 g13 g14 g15 g16 gW g0
  go_region_held3 (fun Wx => Grow W Wx ∧ Wx.cell? ⟨B1, 0, none⟩ = some (.int .i64 0) ∧ Wx.cell? ⟨B1, 1, none⟩ = some (.int .i64 2) ∧ Wx.cell? ⟨B2, 0, none⟩ = some (.int .i64 0) ∧ Wx.cell? ⟨B2, 1, none⟩ = some (.int .i64 2)) ((refine (fun (hG : Grow W _) => ⟨hG, Grow.keeps hG (by assumption), Grow.keeps hG (by assumption), Grow.keeps hG (by assumption), Grow.keeps hG (by assumption)⟩) ?_; (try go_split_ands); first | exact (Below.refl _ _).drew | exact ((Grow.refl _).alloc _).drew | exact Grow.alloc (by assumption) _ | exact Below.setCell (Below.setCell (by assumption) (by simp <;> omega) _) (by simp <;> omega) _ | exact Grow.trans (by assumption) (by assumption) | exact Below.trans (by assumption) (by assumption))) ((first | (go_at_call 23; refine (rInts_any _ _ [0, 1, 0] [0, 1, 0] _ (iW.out.grow (by first | exact (Grow.refl W).drew.alloc _ | exact Grow.trans (by assumption) (by assumption) | assumption)) (new_ints _ _ _ rfl rfl (by decide))).mono ?_; rintro e w' ⟨rfl, hg'⟩) | (go_at_call 29; refine (lspan_any _ _ _).mono ?_; rintro e w' ⟨rfl, hg'⟩)))
  all_goals
    go_wp2_with fail
    go_ret
    refine ⟨rfl, gF.trans ?_⟩
    go_split_ands
    assumption
end Go.Proofs.Yteijilbdllpbcaa
