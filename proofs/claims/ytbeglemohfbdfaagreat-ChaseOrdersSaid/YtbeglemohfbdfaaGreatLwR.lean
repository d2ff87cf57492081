/- The law ChaseOrders: the walk. Conditions: sizes. -/
import Derived.Test.YtbeglemohfbdfaaGreatRfM
import Derived.Deep.DeepCutAuto
namespace Go.Proofs.YtbeglemohfbdfaaGreat
open Go.RowKit

/-- What the program and the document answer: the same. -/
structure OrdersC (w : World) (E F : Int) (v : Value) (n e m e2 : Int) (l : List Nat) : Prop where
  pOrders : ∀ V, Grow w V → Calls Tryz.prog 19 #[.agg #[.int .i64 E, .int .i64 F, v]] V fun d w' => d = .returned (.tuple #[.int .i64 n, .int .i64 e]) ∧ Grow V w'
  rOrders : ∀ V, Grow w V → Calls Tryz.prog 20 #[.agg #[.int .i64 E, .int .i64 F, v]] V fun d w' => d = .returned (.tuple #[.int .i64 n, .int .i64 e]) ∧ Grow V w'
  pAsk : ∀ V, Grow w V → Calls Tryz.prog 23 #[.agg #[.int .i64 E, .int .i64 F, v]] V fun d w' => d = .returned (.tuple #[.int .i64 m, .int .i64 e2]) ∧ Grow V w'
  rAsk : ∀ V, Grow w V → Calls Tryz.prog 24 #[.agg #[.int .i64 E, .int .i64 F, v]] V fun d w' => d = .returned (.tuple #[.int .i64 m, .int .i64 e2]) ∧ Grow V w'
  pFirst : ∀ V, Grow w V → Calls Tryz.prog 21 #[.agg #[.int .i64 E, .int .i64 F, v]] V fun d w' => ∃ a c, d = .returned (.tuple #[.slice a (natL l).length c, .int .i64 e]) ∧ IsInts w' (.slice a (natL l).length c) (natL l) ∧ Grow V w'
  rFirst : ∀ V, Grow w V → Calls Tryz.prog 22 #[.agg #[.int .i64 E, .int .i64 F, v]] V fun d w' => ∃ a c, d = .returned (.tuple #[.slice a (natL l).length c, .int .i64 e]) ∧ IsInts w' (.slice a (natL l).length c) (natL l) ∧ Grow V w'
theorem orders_calls {w : World} (E F : Int) {v : Value} {ss : List (List Int)} (hv : IsSheets w v ss) : ∃ n e m e2 l, OrdersC w E F v n e m e2 l :=
  ⟨ordersV E F ss, errOf E F ss true, (askE E F ss).1, (askE E F ss).2, firstL E F ss,
    {pOrders := fun V g => pOrders_any E F v ss V (hv.grow g), rOrders := fun V g => rOrders_any E F v ss V (hv.grow g),
     pAsk := fun V g => pAsk_any E F v ss V (hv.grow g), rAsk := fun V g => rAsk_any E F v ss V (hv.grow g),
     pFirst := fun V g => (pFirst_any E F v ss V (hv.grow g)).mono fun d w' ⟨u, h1, h2, _, h4⟩ => by
       obtain ⟨a, c, rfl, _⟩ := id h2
       exact ⟨a, c, h1, h2, h4⟩,
     rFirst := fun V g => (rFirst_any E F v ss V (hv.grow g)).mono fun d w' ⟨u, h1, h2, h4⟩ => by
       obtain ⟨a, c, rfl, _⟩ := id h2
       exact ⟨a, c, h1, h2, h4⟩}⟩
set_option maxRecDepth 100000 in
set_option maxHeartbeats 8000000 in
theorem lchaseOrders (E F : Int) (v : Value) (ss : List (List Int)) (w : World) (hv : IsSheets w v ss) :
    Calls Tryz.prog 4 #[.agg #[.int .i64 E, .int .i64 F, v]] w fun e w' => e = .returned (.bool true) ∧ Grow w w' := by
  obtain ⟨n, e, m, e2, l, hC⟩ := orders_calls (w := w) E F hv
  have HC := Lib.hid hC
  obtain ⟨a, cap, rfl, hcap, hlen, hrow⟩ := id hv
  have Hv := Lib.hid hv
  clear hv hrow hC
  go_enter Tryz.func4, Tryz.ntmps4
  go_wp2_with fail
  have c0 : (w.alloc (.cells #[.int .i64 E, .int .i64 F, .slice a ss.length cap] 24)).cell? ⟨w.heap.size, 0, none⟩ = some (.int .i64 E) := cell_new rfl rfl
  have c1 : (w.alloc (.cells #[.int .i64 E, .int .i64 F, .slice a ss.length cap] 24)).cell? ⟨w.heap.size, 1, none⟩ = some (.int .i64 F) := cell_new rfl rfl
  have c2 : (w.alloc (.cells #[.int .i64 E, .int .i64 F, .slice a ss.length cap] 24)).cell? ⟨w.heap.size, 2, none⟩ = some (.slice a ss.length cap) := cell_new rfl rfl
  have gX : Grow w (w.alloc (.cells #[.int .i64 E, .int .i64 F, .slice a ss.length cap] 24)) := (Grow.refl w).alloc _
  obtain ⟨X, hX⟩ : ∃ z, w.alloc (.cells #[.int .i64 E, .int .i64 F, .slice a ss.length cap] 24) = z := ⟨_, rfl⟩
  obtain ⟨B, hB⟩ : ∃ z, w.heap.size = z := ⟨_, rfl⟩
  rw [hX] at c0 c1 c2 gX
  rw [hB] at c0 c1 c2
  have hXs : X.heap.size = B + 1 := by rw [← hX, ← hB]; simp
  (try rw [hX])
  (try rw [hB])
  have HB := Lib.hid hB
  clear hX hB
  have b0 := c0
  have b1 := c1
  have b2 := c2
  have gW := gX
  obtain ⟨W, hW⟩ : ∃ z, X = z := ⟨_, rfl⟩
  rw [hW] at b0 b1 b2 gW
  (try rw [hW])
  have hlB := lt_of_cell b0
  clear c0 c1 c2 gX hXs hW
  refine (lheavy_any E F 600 _ ss _ (Hv.out.grow gW)).mono ?_
  rintro d w0 ⟨⟨b, rfl⟩, g0⟩
  have z0 := g0.keeps b0
  have z1 := g0.keeps b1
  have z2 := g0.keeps b2
  have hl0 := lt_of_cell z0
  have G0 := gW.trans g0
  cases b
  case true =>
    go_wp2_with (go_at_call 6; refine (lalive_any _).mono ?_; rintro d w2 ⟨rfl, g2⟩)
    go_ret
    exact ⟨rfl, G0.trans g2⟩
  clear b0 b1 b2
  go_wp2_with first | (go_at_call 19; refine (HC.out.pOrders _ G0).mono ?_; rintro d w1 ⟨rfl, g1⟩; have hl1 := lt_of_cell (g1.keeps z0); have x10 := g1.keeps z0; have x11 := g1.keeps z1; have x12 := g1.keeps z2; have G1 := G0.trans g1) | (go_at_call 20; refine (HC.out.rOrders _ G1).mono ?_; rintro d w2 ⟨rfl, g2⟩; have hl2 := lt_of_cell (g2.keeps x10); have x20 := g2.keeps x10; have x21 := g2.keeps x11; have x22 := g2.keeps x12; have G2 := G1.trans g2) | (go_at_call 21; refine (HC.out.pFirst _ G2).mono ?_; rintro d w3 ⟨fa3, fc3, rfl, hi3, g3⟩; have hl3 := lt_of_cell (g3.keeps x20); have x30 := g3.keeps x20; have x31 := g3.keeps x21; have x32 := g3.keeps x22; have HI3 := Lib.hid hi3; clear hi3; have G3 := G2.trans g3) | (go_at_call 22; refine (HC.out.rFirst _ G3).mono ?_; rintro d w4 ⟨fa4, fc4, rfl, hi4, g4⟩; have hl4 := lt_of_cell (g4.keeps x30); have x40 := g4.keeps x30; have x41 := g4.keeps x31; have x42 := g4.keeps x32; have HI4 := Lib.hid hi4; clear hi4; have G4 := G3.trans g4) | (go_at_call 23; refine (HC.out.pAsk _ G4).mono ?_; rintro d w5 ⟨rfl, g5⟩; have hl5 := lt_of_cell (g5.keeps x40); have x50 := g5.keeps x40; have x51 := g5.keeps x41; have x52 := g5.keeps x42; have G5 := G4.trans g5) | (go_at_call 24; refine (HC.out.rAsk _ G5).mono ?_; rintro d w6 ⟨rfl, g6⟩; have hl6 := lt_of_cell (g6.keeps x50); have x60 := g6.keeps x50; have x61 := g6.keeps x51; have x62 := g6.keeps x52; have G6 := G5.trans g6) | (go_at_call 25; refine (rInts_any _ _ _ _ _ (HI3.out.grow (((g4.trans g5).trans g6))) (HI4.out.grow (g5.trans g6))).mono ?_; rintro d w7 ⟨rfl, g7⟩; rw [beq_self_eq_true]) | (go_at_call 6; refine (lalive_any _).mono ?_; rintro d w8 ⟨rfl, g8⟩)
  go_ret
  exact ⟨rfl, (G6.trans g7).trans g8⟩
end Go.Proofs.YtbeglemohfbdfaaGreat
