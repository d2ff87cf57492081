/- The law CountTells: the walk. Conditions: sizes. -/
import Derived.Test.YteijilbdllpbcaaLwB
import Derived.Test.YteijilbdllpbcaaLwC
import Derived.Test.YteijilbdllpbcaaRefC
namespace Go.Proofs.Yteijilbdllpbcaa
open Go.RowKit

set_option maxRecDepth 100000 in
set_option maxHeartbeats 1000000 in
theorem lcountTells (P : Int) (v u : Value) (ss : List (List Int)) (l : List Int) (i : Int) (w : World) (hP1 : -9223372036854775808 ≤ P) (hP2 : P ≤ 9223372036854775807) (hv : IsSheets w v ss) (hs : ss.length * 24 ≤ 140737488351232) (hnil : ∀ n cap, v = .slice none n cap → cap = 0) (hu : IsInts w u l) :
    Calls Try.prog 3 #[.agg #[.int .i64 P, v], u, .int .i64 i] w fun e w' => e = .returned (.bool true) ∧ Grow w w' := by
  obtain ⟨a, cap, rfl, hcap, hlen, hrow⟩ := id hv
  obtain ⟨ua, uc, rfl, huc, hu8, hur⟩ := id hu
  have Hv := Lib.hid hv
  have Hu := Lib.hid hu
  have PF : ∃ x y : Int, (∀ V, Grow w V → Calls Try.prog 13 #[.agg #[.int .i64 P, .slice a ss.length cap]] V fun e w' => e = .returned (.tuple #[.int .i64 x, .int .i64 y]) ∧ Grow V w') ∧ (∀ V, Grow w V → Calls Try.prog 14 #[.agg #[.int .i64 P, .slice a ss.length cap]] V fun e w' => e = .returned (.tuple #[.int .i64 x, .int .i64 y]) ∧ Grow V w') := ⟨_, _, fun V hV => pFewest_any P _ ss V (hv.grow hV), fun V hV => rFewest_any P _ ss V hP1 hP2 (hv.grow hV)⟩
  have PC : ∃ x y : Int, (∀ V, Grow w V → Calls Try.prog 15 #[.agg #[.int .i64 P, .slice a ss.length cap]] V fun e w' => e = .returned (.tuple #[.int .i64 x, .int .i64 y]) ∧ Grow V w') ∧ (∀ V, Grow w V → Calls Try.prog 16 #[.agg #[.int .i64 P, .slice a ss.length cap]] V fun e w' => e = .returned (.tuple #[.int .i64 x, .int .i64 y]) ∧ Grow V w') := ⟨_, _, fun V hV => pCount_any P _ ss V (hv.grow hV), fun V hV => rCount_any P _ ss V hP1 hP2 (hv.grow hV)⟩
  have PR : ∃ (c : Int) (t : List Int), (∀ V, Grow w V → Calls Try.prog 17 #[.agg #[.int .i64 P, .slice a ss.length cap]] V (FirstPost V c t)) ∧ (∀ V, Grow w V → Calls Try.prog 18 #[.agg #[.int .i64 P, .slice a ss.length cap]] V (FirstPost V c t)) := ⟨_, _, fun V hV => pFirst_any P _ ss V (hv.grow hV), fun V hV => rFirst_any P _ ss V hP1 hP2 (hv.grow hV)⟩
  have PI : ∃ (x : Bool) (y : Int), (∀ V, Grow w V → Calls Try.prog 19 #[.agg #[.int .i64 P, .slice a ss.length cap], .slice ua l.length uc] V fun e w' => e = .returned (.tuple #[.bool x, .int .i64 y]) ∧ Grow V w') ∧ (∀ V, Grow w V → Calls Try.prog 20 #[.agg #[.int .i64 P, .slice a ss.length cap], .slice ua l.length uc] V fun e w' => e = .returned (.tuple #[.bool x, .int .i64 y]) ∧ Grow V w') := ⟨_, _, fun V hV => pIs_any P _ _ ss l V hP1 hP2 (hv.grow hV) (hu.grow hV), fun V hV => rIs_any P _ _ ss l V hP1 hP2 (hv.grow hV) (hu.grow hV)⟩
  have PE : ∃ x y z : Int, (∀ V, Grow w V → Calls Try.prog 21 #[.agg #[.int .i64 P, .slice a ss.length cap], .int .i64 i] V fun e w' => e = .returned (.tuple #[.agg #[.int .i64 x, .int .i64 y], .int .i64 z]) ∧ Grow V w') ∧ (∀ V, Grow w V → Calls Try.prog 22 #[.agg #[.int .i64 P, .slice a ss.length cap], .int .i64 i] V fun e w' => e = .returned (.tuple #[.agg #[.int .i64 x, .int .i64 y], .int .i64 z]) ∧ Grow V w') := ⟨_, _, _, fun V hV => pErrors_any P i _ ss V (hv.grow hV), fun V hV => rErrors_any P _ ss i V hP1 hP2 (hv.grow hV)⟩
  obtain ⟨x1, y1, pf, rf⟩ := PF
  obtain ⟨x2, y2, pc, rc⟩ := PC
  obtain ⟨y3, t3, pr, rr⟩ := PR
  obtain ⟨x4, y4, pi, ri⟩ := PI
  obtain ⟨x5, z5, y5, pe, re⟩ := PE
  have PF := Lib.hid pf
  have RF := Lib.hid rf
  have PC := Lib.hid pc
  have RC := Lib.hid rc
  have PR := Lib.hid pr
  have RR := Lib.hid rr
  have PI := Lib.hid pi
  have RI := Lib.hid ri
  have PE := Lib.hid pe
  have RE := Lib.hid re
  clear hv hu hrow hur pf rf pc rc pr rr pi ri pe re
  go_enter Try.func3, Try.ntmps3
  go_wp2_with fail
  obtain ⟨B, hB⟩ : ∃ B, w.heap.size = B := ⟨_, rfl⟩
  obtain ⟨w1, hw1⟩ : ∃ w1, w.alloc (.cells #[.int .i64 P, .slice a ss.length cap] 24) = w1 := ⟨_, rfl⟩
  have g1 : Grow w w1 := by rw [← hw1]; exact (Grow.refl w).alloc _
  have c0 : w1.cell? ⟨B, 0, none⟩ = some (.int .i64 P) := by rw [← hw1]; exact cell_new hB.symm rfl
  have c1 : w1.cell? ⟨B, 1, none⟩ = some (.slice a ss.length cap) := by rw [← hw1]; exact cell_new hB.symm rfl
  have hsz : B + 1 = w1.heap.size := by rw [← hw1, ← hB]; simp
  rw [hw1, hB]
  clear hw1 hB
  have hown : Own (w1.alloc (.cells #[.slice ua l.length uc] 25)) (B + 1) 25 (.slice (some ⟨B + 1, 0, none⟩) 1 1) [.slice ua l.length uc] := Own.new1 (by omega) hsz
  have hg1 : Grow w1 (w1.alloc (.cells #[.slice ua l.length uc] 25)) := (Grow.refl w1).alloc _
  refine (lheavy_any (B + 1) P _ _ ss _ _ hP1 hP2 (Hv.out.grow (g1.trans hg1)) hs hown (by simp; omega) (by simp) (by intro x hx; rw [List.mem_singleton.1 hx]; exact ⟨_, _, _, rfl, by omega⟩) hnil (fun V hV => Hv.out.grow (g1.trans (Below.trans hg1 (grownBy_below hV (by intro k hk; have hk : some (B + 1) = some k := hk; injection hk with hk; omega) (by simp)))))).mono ?_
  rintro e w2 ⟨⟨b, rfl⟩, hb2⟩
  have g2 : Grow w1 w2 := Below.trans hg1 (grownBy_below hb2 (by intro k hk; have hk : some (B + 1) = some k := hk; injection hk with hk; omega) (by simp))
  have d0 := g2.keeps c0
  have d1 := g2.keeps c1
  have gw := g1.trans g2
  clear hown hg1 hb2 c0 c1 g1 g2 hsz
  cases b
  · go_wp2_with fail
    refine (PF.out _ gw).mono ?_
    rintro e w3 ⟨rfl, g3⟩
    have e0 := g3.keeps d0
    have e1 := g3.keeps d1
    have ge := gw.trans g3
    clear d0 d1 gw
    have d0 := e0
    have d1 := e1
    have gw := ge
    clear e0 e1 ge
    have dl := lt_of_cell d0
    go_wp2_with fail
    (try clear dl)
    refine (RF.out _ gw).mono ?_
    rintro e w4 ⟨rfl, g4⟩
    have e0 := g4.keeps d0
    have e1 := g4.keeps d1
    have ge := gw.trans g4
    clear d0 d1 gw
    have d0 := e0
    have d1 := e1
    have gw := ge
    clear e0 e1 ge
    have dl := lt_of_cell d0
    go_wp2_with fail
    (try clear dl)
    refine (PC.out _ gw).mono ?_
    rintro e w5 ⟨rfl, g5⟩
    have e0 := g5.keeps d0
    have e1 := g5.keeps d1
    have ge := gw.trans g5
    clear d0 d1 gw
    have d0 := e0
    have d1 := e1
    have gw := ge
    clear e0 e1 ge
    have dl := lt_of_cell d0
    go_wp2_with fail
    (try clear dl)
    refine (RC.out _ gw).mono ?_
    rintro e w6 ⟨rfl, g6⟩
    have e0 := g6.keeps d0
    have e1 := g6.keeps d1
    have ge := gw.trans g6
    clear d0 d1 gw
    have d0 := e0
    have d1 := e1
    have gw := ge
    clear e0 e1 ge
    have dl := lt_of_cell d0
    go_wp2_with fail
    (try clear dl)
    refine (PR.out _ gw).mono ?_
    rintro e w7 ⟨v7, rfl, g7, i7⟩
    have e0 := g7.keeps d0
    have e1 := g7.keeps d1
    have ge := gw.trans g7
    clear d0 d1 gw
    have d0 := e0
    have d1 := e1
    have gw := ge
    clear e0 e1 ge
    have dl := lt_of_cell d0
    have I7 := Lib.hid i7
    clear i7
    go_wp2_with fail
    (try clear dl)
    refine (RR.out _ gw).mono ?_
    rintro e w8 ⟨v8, rfl, g8, i8⟩
    have e0 := g8.keeps d0
    have e1 := g8.keeps d1
    have ge := gw.trans g8
    clear d0 d1 gw
    have d0 := e0
    have d1 := e1
    have gw := ge
    clear e0 e1 ge
    have dl := lt_of_cell d0
    have I7 := Lib.hid (I7.out.grow g8)
    have I8 := Lib.hid i8
    clear i8
    go_wp2_with fail
    (try clear dl)
    refine (PI.out _ gw).mono ?_
    rintro e w9 ⟨rfl, g9⟩
    have e0 := g9.keeps d0
    have e1 := g9.keeps d1
    have ge := gw.trans g9
    clear d0 d1 gw
    have d0 := e0
    have d1 := e1
    have gw := ge
    clear e0 e1 ge
    have dl := lt_of_cell d0
    go_wp2_with fail
    (try clear dl)
    refine (RI.out _ gw).mono ?_
    rintro e w10 ⟨rfl, g10⟩
    have e0 := g10.keeps d0
    have e1 := g10.keeps d1
    have ge := gw.trans g10
    clear d0 d1 gw
    have d0 := e0
    have d1 := e1
    have gw := ge
    clear e0 e1 ge
    have dl := lt_of_cell d0
    go_wp2_with fail
    (try clear dl)
    refine (PE.out _ gw).mono ?_
    rintro e w11 ⟨rfl, g11⟩
    have e0 := g11.keeps d0
    have e1 := g11.keeps d1
    have ge := gw.trans g11
    clear d0 d1 gw
    have d0 := e0
    have d1 := e1
    have gw := ge
    clear e0 e1 ge
    have dl := lt_of_cell d0
    go_wp2_with fail
    (try clear dl)
    obtain ⟨w12, hw12⟩ : ∃ w12, w11.alloc (.cells #[.int .i64 x5, .int .i64 z5] 36) = w12 := ⟨_, rfl⟩
    obtain ⟨B1, hB1⟩ : ∃ B1, w11.heap.size = B1 := ⟨_, rfl⟩
    have g12 : Grow w11 w12 := by rw [← hw12]; exact (Grow.refl w11).alloc _
    have s0 : w12.cell? ⟨B1, 0, none⟩ = some (.int .i64 x5) := by rw [← hw12]; exact cell_new hB1.symm rfl
    have s1 : w12.cell? ⟨B1, 1, none⟩ = some (.int .i64 z5) := by rw [← hw12]; exact cell_new hB1.symm rfl
    rw [hw12, hB1]
    clear hw12 hB1
    refine (RE.out _ (gw.trans g12)).mono ?_
    rintro e w13 ⟨rfl, g13⟩
    have gw13 := (gw.trans g12).trans g13
    have s0' := g13.keeps s0
    have s1' := g13.keeps s1
    have ls := lt_of_cell s0'
    go_wp2_with fail
    obtain ⟨w14, hw14⟩ : ∃ w14, w13.alloc (.cells #[.int .i64 x5, .int .i64 z5] 36) = w14 := ⟨_, rfl⟩
    obtain ⟨B2, hB2⟩ : ∃ B2, w13.heap.size = B2 := ⟨_, rfl⟩
    have g14 : Grow w13 w14 := by rw [← hw14]; exact (Grow.refl w13).alloc _
    have r0 : w14.cell? ⟨B2, 0, none⟩ = some (.int .i64 x5) := by rw [← hw14]; exact cell_new hB2.symm rfl
    have r1 : w14.cell? ⟨B2, 1, none⟩ = some (.int .i64 z5) := by rw [← hw14]; exact cell_new hB2.symm rfl
    rw [hw14, hB2]
    clear hw14 hB2
    have g814 : Grow w8 w14 := ((((g9.trans g10).trans g11).trans g12).trans g13).trans g14
    refine (rInts_any v7 v8 t3 t3 _ (I7.out.grow g814) (I8.out.grow g814)).mono ?_
    rw [beq_self_eq_true]
    rintro e w15 ⟨rfl, g15⟩
    have q0 := g15.keeps (g14.keeps s0')
    have q1 := g15.keeps (g14.keeps s1')
    have q2 := g15.keeps r0
    have q3 := g15.keeps r1
    have gF := (gw13.trans g14).trans g15
    go_wp2_with fail
    refine (lalive_any _).mono ?_
    rintro e w16 ⟨rfl, g16⟩
    go_wp2_with fail
    go_ret
    exact ⟨rfl, gF.trans g16⟩
  · go_wp2_with fail
    refine (lalive_any _).mono ?_
    rintro e w3 ⟨rfl, g3⟩
    go_wp2_with fail
    go_ret
    exact ⟨rfl, gw.trans g3⟩
end Go.Proofs.Yteijilbdllpbcaa
