/- The law CountLeads: the walk. Conditions: sizes. -/
import Derived.Test.YteijilbdllpbcaaGreatLwB
import Derived.Test.YteijilbdllpbcaaGreatLwC
import Derived.Test.YteijilbdllpbcaaGreatRefF
namespace Go.Proofs.YteijilbdllpbcaaGreat
open Go.RowKit

set_option maxRecDepth 100000 in
set_option maxHeartbeats 1000000 in
theorem lcountLeads (P : Int) (v : Value) (ss : List (List Int)) (p q : Int) (w : World) (hP1 : -9223372036854775808 ≤ P) (hP2 : P ≤ 9223372036854775807) (hv : IsSheets w v ss) (hs : ss.length * 24 ≤ 140737488351232) (hnil : ∀ n cap, v = .slice none n cap → cap = 0) :
    Calls Tryz.prog 3 #[.agg #[.int .i64 P, v], .int .i64 p, .int .i64 q] w fun e w' => e = .returned (.bool true) ∧ Grow w w' := by
  obtain ⟨a, cap, rfl, hcap, hlen, hrow⟩ := id hv
  have Hv := Lib.hid hv
  have PF : ∃ x1 y1 : Int, (∀ V, Grow w V → Calls Tryz.prog 6 #[.agg #[.int .i64 P, .slice a ss.length cap], .int .i64 p] V fun e w' => e = .returned (.tuple #[.int .i64 x1, .int .i64 y1]) ∧ Grow V w') ∧ (∀ V, Grow w V → Calls Tryz.prog 7 #[.agg #[.int .i64 P, .slice a ss.length cap], .int .i64 p] V fun e w' => e = .returned (.tuple #[.int .i64 x1, .int .i64 y1]) ∧ Grow V w') := ⟨_, _, fun V hV => pLaps_any P p _ ss V hP1 hP2 (hv.grow hV), fun V hV => rLaps_any P p _ ss V hP1 hP2 (hv.grow hV)⟩
  have PC : ∃ x2 z2 y2 : Int, (∀ V, Grow w V → Calls Tryz.prog 8 #[.agg #[.int .i64 P, .slice a ss.length cap], .int .i64 p, .int .i64 q] V fun e w' => e = .returned (.tuple #[.agg #[.int .i64 x2, .int .i64 z2], .int .i64 y2]) ∧ Grow V w') ∧ (∀ V, Grow w V → Calls Tryz.prog 9 #[.agg #[.int .i64 P, .slice a ss.length cap], .int .i64 p, .int .i64 q] V fun e w' => e = .returned (.tuple #[.agg #[.int .i64 x2, .int .i64 z2], .int .i64 y2]) ∧ Grow V w') := ⟨_, _, _, fun V hV => pLead_any P p q _ ss V hP1 hP2 (hv.grow hV), fun V hV => rLead_any P p q _ ss V hP1 hP2 (hv.grow hV)⟩
  have PE : ∃ x3 y3 : Int, (∀ V, Grow w V → Calls Tryz.prog 10 #[.agg #[.int .i64 P, .slice a ss.length cap], .int .i64 p, .int .i64 q] V fun e w' => e = .returned (.tuple #[.int .i64 x3, .int .i64 y3]) ∧ Grow V w') ∧ (∀ V, Grow w V → Calls Tryz.prog 11 #[.agg #[.int .i64 P, .slice a ss.length cap], .int .i64 p, .int .i64 q] V fun e w' => e = .returned (.tuple #[.int .i64 x3, .int .i64 y3]) ∧ Grow V w') := ⟨_, _, fun V hV => pSettle_any P p q _ ss V hP1 hP2 (hv.grow hV), fun V hV => rSettle_any P p q _ ss V hP1 hP2 (hv.grow hV)⟩
  obtain ⟨x1, y1, pf, rf⟩ := PF
  obtain ⟨x2, z2, y2, pc, rc⟩ := PC
  obtain ⟨x3, y3, pe, re⟩ := PE
  have PF := Lib.hid pf
  have RF := Lib.hid rf
  have PC := Lib.hid pc
  have RC := Lib.hid rc
  have PE := Lib.hid pe
  have RE := Lib.hid re
  clear hv hrow pf rf pc rc pe re
  go_enter Tryz.func3, Tryz.ntmps3
  go_wp2_with fail
  obtain ⟨B, hB⟩ : ∃ B, w.heap.size = B := ⟨_, rfl⟩
  obtain ⟨w1, hw1⟩ : ∃ w1, w.alloc (.cells #[.int .i64 P, .slice a ss.length cap] 24) = w1 := ⟨_, rfl⟩
  have g1 : Grow w w1 := by rw [← hw1]; exact (Grow.refl w).alloc _
  have c0 : w1.cell? ⟨B, 0, none⟩ = some (.int .i64 P) := by rw [← hw1]; exact cell_new hB.symm rfl
  have c1 : w1.cell? ⟨B, 1, none⟩ = some (.slice a ss.length cap) := by rw [← hw1]; exact cell_new hB.symm rfl
  rw [hw1, hB]
  clear hw1 hB
  refine (lheavy_any 0 P _ _ ss [] _ hP1 hP2 (Hv.out.grow g1) hs (Own.nil _ _ _) (Nat.zero_le _) (by simp) (by simp) hnil (fun V hV => Hv.out.grow (g1.trans (grownBy_below hV (by intro k hk; have hk : none = some k := hk; cases hk) (by simp))))).mono ?_
  rintro e w2 ⟨⟨b, rfl⟩, hb2⟩
  have g2 : Grow w1 w2 := grownBy_below hb2 (by intro k hk; have hk : none = some k := hk; cases hk) (by simp)
  have d0 := g2.keeps c0
  have d1 := g2.keeps c1
  have gw := g1.trans g2
  clear hb2 c0 c1 g1 g2
  cases b
  · go_wp2_with fail
    refine (PF.out _ gw).mono ?_
    rintro e w3 ⟨rfl, g3⟩
    have e0 := g3.keeps d0
    have e1 := g3.keeps d1
    have ge := gw.trans g3
    clear d0 d1 gw
    have d0 := e0
    have d1 := e1
    have gw := ge
    clear e0 e1 ge
    have dl := lt_of_cell d0
    go_wp2_with fail
    (try clear dl)
    refine (RF.out _ gw).mono ?_
    rintro e w4 ⟨rfl, g4⟩
    have e0 := g4.keeps d0
    have e1 := g4.keeps d1
    have ge := gw.trans g4
    clear d0 d1 gw
    have d0 := e0
    have d1 := e1
    have gw := ge
    clear e0 e1 ge
    have dl := lt_of_cell d0
    go_wp2_with fail
    (try clear dl)
    refine (PC.out _ gw).mono ?_
    rintro e w5 ⟨rfl, g5⟩
    have e0 := g5.keeps d0
    have e1 := g5.keeps d1
    have ge := gw.trans g5
    clear d0 d1 gw
    have d0 := e0
    have d1 := e1
    have gw := ge
    clear e0 e1 ge
    have dl := lt_of_cell d0
    go_wp2_with fail
    (try clear dl)
    obtain ⟨w6, hw6⟩ : ∃ w6, w5.alloc (.cells #[.int .i64 x2, .int .i64 z2] 31) = w6 := ⟨_, rfl⟩
    obtain ⟨B1, hB1⟩ : ∃ B1, w5.heap.size = B1 := ⟨_, rfl⟩
    have g6 : Grow w5 w6 := by rw [← hw6]; exact (Grow.refl w5).alloc _
    have s0 : w6.cell? ⟨B1, 0, none⟩ = some (.int .i64 x2) := by rw [← hw6]; exact cell_new hB1.symm rfl
    have s1 : w6.cell? ⟨B1, 1, none⟩ = some (.int .i64 z2) := by rw [← hw6]; exact cell_new hB1.symm rfl
    rw [hw6, hB1]
    clear hw6 hB1
    refine (RC.out _ (gw.trans g6)).mono ?_
    rintro e w7 ⟨rfl, g7⟩
    have gw7 := (gw.trans g6).trans g7
    have s0' := g7.keeps s0
    have s1' := g7.keeps s1
    have e0 := g7.keeps (g6.keeps d0)
    have e1 := g7.keeps (g6.keeps d1)
    clear d0 d1 gw
    have ls := lt_of_cell s0'
    have dl := lt_of_cell e0
    go_wp2_with fail
    obtain ⟨w8, hw8⟩ : ∃ w8, w7.alloc (.cells #[.int .i64 x2, .int .i64 z2] 31) = w8 := ⟨_, rfl⟩
    obtain ⟨B2, hB2⟩ : ∃ B2, w7.heap.size = B2 := ⟨_, rfl⟩
    have g8 : Grow w7 w8 := by rw [← hw8]; exact (Grow.refl w7).alloc _
    have r0 : w8.cell? ⟨B2, 0, none⟩ = some (.int .i64 x2) := by rw [← hw8]; exact cell_new hB2.symm rfl
    have r1 : w8.cell? ⟨B2, 1, none⟩ = some (.int .i64 z2) := by rw [← hw8]; exact cell_new hB2.symm rfl
    have f0 := g8.keeps e0
    have f1 := g8.keeps e1
    rw [hw8, hB2]
    clear hw8 hB2 e0 e1 ls dl
    refine (PE.out _ (gw7.trans g8)).mono ?_
    rintro e w9 ⟨rfl, g9⟩
    have k0 := g9.keeps f0
    have k1 := g9.keeps f1
    have dl := lt_of_cell k0
    go_wp2_with fail
    refine (RE.out _ ((gw7.trans g8).trans g9)).mono ?_
    rintro e w10 ⟨rfl, g10⟩
    have q0 := g10.keeps (g9.keeps (g8.keeps s0'))
    have q1 := g10.keeps (g9.keeps (g8.keeps s1'))
    have q2 := g10.keeps (g9.keeps r0)
    have q3 := g10.keeps (g9.keeps r1)
    have gF := ((gw7.trans g8).trans g9).trans g10
    clear k0 k1 dl f0 f1 s0 s1 s0' s1' r0 r1
    go_wp2_with fail
    refine (lalive_any _).mono ?_
    rintro e w11 ⟨rfl, g11⟩
    go_wp2_with fail
    go_ret
    exact ⟨rfl, gF.trans g11⟩
  · go_wp2_with fail
    refine (lalive_any _).mono ?_
    rintro e w3 ⟨rfl, g3⟩
    go_wp2_with fail
    go_ret
    exact ⟨rfl, gw.trans g3⟩
end Go.Proofs.YteijilbdllpbcaaGreat
