/- The law ChaseTells: the walk. Conditions: sizes. -/
import Derived.Test.YtbeglemohfbdfaaGreatRfI
import Derived.Deep.DeepCutAuto
namespace Go.Proofs.YtbeglemohfbdfaaGreat
open Go.RowKit

/-- What the program and the document answer: the same. -/
structure TellsC (w : World) (E F p q : Int) (v : Value) (x1 y1 e1 n2 e2 x3 y3 n4 x5 y5 e5 n6 e6 : Int) : Prop where
  pTime : ∀ V, Grow w V → Calls Tryz.prog 7 #[.agg #[.int .i64 E, .int .i64 F, v], .int .i64 p] V fun e w' => e = .returned (.tuple #[.agg #[.int .i64 x1, .int .i64 y1], .int .i64 e1]) ∧ Grow V w'
  rTime : ∀ V, Grow w V → Calls Tryz.prog 8 #[.agg #[.int .i64 E, .int .i64 F, v], .int .i64 p] V fun e w' => e = .returned (.tuple #[.agg #[.int .i64 x1, .int .i64 y1], .int .i64 e1]) ∧ Grow V w'
  pWrong : ∀ V, Grow w V → Calls Tryz.prog 9 #[.agg #[.int .i64 E, .int .i64 F, v], .int .i64 p] V fun e w' => e = .returned (.tuple #[.int .i64 n2, .int .i64 e2]) ∧ Grow V w'
  rWrong : ∀ V, Grow w V → Calls Tryz.prog 10 #[.agg #[.int .i64 E, .int .i64 F, v], .int .i64 p] V fun e w' => e = .returned (.tuple #[.int .i64 n2, .int .i64 e2]) ∧ Grow V w'
  pPlace : ∀ V, Grow w V → Calls Tryz.prog 11 #[.agg #[.int .i64 E, .int .i64 F, v], .int .i64 p] V fun e w' => e = .returned (.tuple #[.agg #[.int .i64 x3, .int .i64 y3], .int .i64 e1]) ∧ Grow V w'
  rPlace : ∀ V, Grow w V → Calls Tryz.prog 12 #[.agg #[.int .i64 E, .int .i64 F, v], .int .i64 p] V fun e w' => e = .returned (.tuple #[.agg #[.int .i64 x3, .int .i64 y3], .int .i64 e1]) ∧ Grow V w'
  pFinal : ∀ V, Grow w V → Calls Tryz.prog 13 #[.agg #[.int .i64 E, .int .i64 F, v], .int .i64 p] V fun e w' => e = .returned (.tuple #[.int .i64 n4, .int .i64 e1]) ∧ Grow V w'
  rFinal : ∀ V, Grow w V → Calls Tryz.prog 14 #[.agg #[.int .i64 E, .int .i64 F, v], .int .i64 p] V fun e w' => e = .returned (.tuple #[.int .i64 n4, .int .i64 e1]) ∧ Grow V w'
  pCut : ∀ V, Grow w V → Calls Tryz.prog 15 #[.agg #[.int .i64 E, .int .i64 F, v]] V fun e w' => e = .returned (.tuple #[.agg #[.int .i64 x5, .int .i64 y5], .int .i64 e5]) ∧ Grow V w'
  rCut : ∀ V, Grow w V → Calls Tryz.prog 16 #[.agg #[.int .i64 E, .int .i64 F, v]] V fun e w' => e = .returned (.tuple #[.agg #[.int .i64 x5, .int .i64 y5], .int .i64 e5]) ∧ Grow V w'
  pMeet : ∀ V, Grow w V → Calls Tryz.prog 17 #[.agg #[.int .i64 E, .int .i64 F, v], .int .i64 p, .int .i64 q] V fun e w' => e = .returned (.tuple #[.int .i64 n6, .int .i64 e6]) ∧ Grow V w'
  rMeet : ∀ V, Grow w V → Calls Tryz.prog 18 #[.agg #[.int .i64 E, .int .i64 F, v], .int .i64 p, .int .i64 q] V fun e w' => e = .returned (.tuple #[.int .i64 n6, .int .i64 e6]) ∧ Grow V w'
theorem tells_calls {w : World} (E F p q : Int) {v : Value} {ss : List (List Int)} (hv : IsSheets w v ss) : ∃ x1 y1 e1 n2 e2 x3 y3 n4 x5 y5 e5 n6 e6, TellsC w E F p q v x1 y1 e1 n2 e2 x3 y3 n4 x5 y5 e5 n6 e6 :=
  ⟨(timeV E F ss p).1, (timeV E F ss p).2, errOf E F ss (inB p 0 (ss.length - 1)), wrongE E F ss p, codeO E F ss (inB p 0 (ss.length - 1)), (placeV E F ss p).1, (placeV E F ss p).2, finalE E F ss p, (cutE E F ss).1, (cutE E F ss).2, errOf E F ss true, meetE E F ss p q, errOf E F ss (okM ss p q),
    {pTime := fun V g => pTime_any E F p v ss V (hv.grow g), rTime := fun V g => rTime_any E F p v ss V (hv.grow g),
     pWrong := fun V g => pWrong_any E F p v ss V (hv.grow g), rWrong := fun V g => rWrong_any E F p v ss V (hv.grow g),
     pPlace := fun V g => pPlace_any E F p v ss V (hv.grow g), rPlace := fun V g => rPlace_any E F p v ss V (hv.grow g),
     pFinal := fun V g => pFinal_any E F p v ss V (hv.grow g), rFinal := fun V g => rFinal_any E F p v ss V (hv.grow g),
     pCut := fun V g => pCut_any E F v ss V (hv.grow g), rCut := fun V g => rCut_any E F v ss V (hv.grow g),
     pMeet := fun V g => pMeet_any E F p q v ss V (hv.grow g), rMeet := fun V g => rMeet_any E F p q v ss V (hv.grow g)}⟩
set_option maxRecDepth 100000 in
set_option maxHeartbeats 8000000 in
theorem lchaseTells (E F : Int) (v : Value) (ss : List (List Int)) (p q : Int) (w : World) (hv : IsSheets w v ss) :
    Calls Tryz.prog 3 #[.agg #[.int .i64 E, .int .i64 F, v], .int .i64 p, .int .i64 q] w fun e w' => e = .returned (.bool true) ∧ Grow w w' := by
  obtain ⟨x1, y1, e1, n2, e2, x3, y3, n4, x5, y5, e5, n6, e6, hC⟩ := tells_calls (w := w) E F p q hv
  have HC := Lib.hid hC
  obtain ⟨a, cap, rfl, hcap, hlen, hrow⟩ := id hv
  have Hv := Lib.hid hv
  clear hv hrow hC
  go_enter Tryz.func3, Tryz.ntmps3
  go_wp2_with fail
  have c0 : (w.alloc (.cells #[.int .i64 E, .int .i64 F, .slice a ss.length cap] 24)).cell? ⟨w.heap.size, 0, none⟩ = some (.int .i64 E) := cell_new rfl rfl
  have c1 : (w.alloc (.cells #[.int .i64 E, .int .i64 F, .slice a ss.length cap] 24)).cell? ⟨w.heap.size, 1, none⟩ = some (.int .i64 F) := cell_new rfl rfl
  have c2 : (w.alloc (.cells #[.int .i64 E, .int .i64 F, .slice a ss.length cap] 24)).cell? ⟨w.heap.size, 2, none⟩ = some (.slice a ss.length cap) := cell_new rfl rfl
  have gX : Grow w (w.alloc (.cells #[.int .i64 E, .int .i64 F, .slice a ss.length cap] 24)) := (Grow.refl w).alloc _
  obtain ⟨X, hX⟩ : ∃ z, w.alloc (.cells #[.int .i64 E, .int .i64 F, .slice a ss.length cap] 24) = z := ⟨_, rfl⟩
  obtain ⟨B, hB⟩ : ∃ z, w.heap.size = z := ⟨_, rfl⟩
  rw [hX] at c0 c1 c2 gX
  rw [hB] at c0 c1 c2
  have hXs : X.heap.size = B + 1 := by rw [← hX, ← hB]; simp
  (try rw [hX])
  (try rw [hB])
  have HB := Lib.hid hB
  clear hX hB
  have b0 := c0
  have b1 := c1
  have b2 := c2
  have gW := gX
  obtain ⟨W, hW⟩ : ∃ z, X = z := ⟨_, rfl⟩
  rw [hW] at b0 b1 b2 gW
  (try rw [hW])
  have hlB := lt_of_cell b0
  clear c0 c1 c2 gX hXs hW
  refine (lheavy_any E F 3000 _ ss _ (Hv.out.grow gW)).mono ?_
  rintro e w0 ⟨⟨b, rfl⟩, g0⟩
  have z0 := g0.keeps b0
  have z1 := g0.keeps b1
  have z2 := g0.keeps b2
  have hl0 := lt_of_cell z0
  have G0 := gW.trans g0
  cases b
  case true =>
    go_wp2_with (go_at_call 6; refine (lalive_any _).mono ?_; rintro e w2 ⟨rfl, g2⟩)
    go_ret
    exact ⟨rfl, G0.trans g2⟩
  clear b0 b1 b2
  go_upto_region 15 with first | (go_at_call 7; refine (HC.out.pTime _ G0).mono ?_; rintro e w1 ⟨rfl, g1⟩; have hl1 := lt_of_cell (g1.keeps z0); have h1 := g1.alloc (.cells #[.int .i64 x1, .int .i64 y1] 28); have c10 : (w1.alloc (.cells #[.int .i64 x1, .int .i64 y1] 28)).cell? ⟨w1.heap.size, 0, none⟩ = some (.int .i64 x1) := cell_new rfl rfl; have c11 : (w1.alloc (.cells #[.int .i64 x1, .int .i64 y1] 28)).cell? ⟨w1.heap.size, 1, none⟩ = some (.int .i64 y1) := cell_new rfl rfl; have x10 := h1.keeps z0; have x11 := h1.keeps z1; have x12 := h1.keeps z2; have G1 := G0.trans h1) | (go_at_call 8; refine (HC.out.rTime _ G1).mono ?_; rintro e w2 ⟨rfl, g2⟩; have hl2 := lt_of_cell (g2.keeps x10); have h2 := g2.alloc (.cells #[.int .i64 x1, .int .i64 y1] 28); have c20 : (w2.alloc (.cells #[.int .i64 x1, .int .i64 y1] 28)).cell? ⟨w2.heap.size, 0, none⟩ = some (.int .i64 x1) := cell_new rfl rfl; have c21 : (w2.alloc (.cells #[.int .i64 x1, .int .i64 y1] 28)).cell? ⟨w2.heap.size, 1, none⟩ = some (.int .i64 y1) := cell_new rfl rfl; have x20 := h2.keeps x10; have x21 := h2.keeps x11; have x22 := h2.keeps x12; replace c10 := h2.keeps c10; replace c11 := h2.keeps c11; have G2 := G1.trans h2) | (go_at_call 9; refine (HC.out.pWrong _ G2).mono ?_; rintro e w3 ⟨rfl, g3⟩; have hl3 := lt_of_cell (g3.keeps x20); have h3 := g3; have x30 := h3.keeps x20; have x31 := h3.keeps x21; have x32 := h3.keeps x22; replace c10 := h3.keeps c10; replace c11 := h3.keeps c11; replace c20 := h3.keeps c20; replace c21 := h3.keeps c21; have G3 := G2.trans h3) | (go_at_call 10; refine (HC.out.rWrong _ G3).mono ?_; rintro e w4 ⟨rfl, g4⟩; have hl4 := lt_of_cell (g4.keeps x30); have h4 := g4; have x40 := h4.keeps x30; have x41 := h4.keeps x31; have x42 := h4.keeps x32; replace c10 := h4.keeps c10; replace c11 := h4.keeps c11; replace c20 := h4.keeps c20; replace c21 := h4.keeps c21; have G4 := G3.trans h4) | (go_at_call 11; refine (HC.out.pPlace _ G4).mono ?_; rintro e w5 ⟨rfl, g5⟩; have hl5 := lt_of_cell (g5.keeps x40); have h5 := g5.alloc (.cells #[.int .i64 x3, .int .i64 y3] 28); have c50 : (w5.alloc (.cells #[.int .i64 x3, .int .i64 y3] 28)).cell? ⟨w5.heap.size, 0, none⟩ = some (.int .i64 x3) := cell_new rfl rfl; have c51 : (w5.alloc (.cells #[.int .i64 x3, .int .i64 y3] 28)).cell? ⟨w5.heap.size, 1, none⟩ = some (.int .i64 y3) := cell_new rfl rfl; have x50 := h5.keeps x40; have x51 := h5.keeps x41; have x52 := h5.keeps x42; replace c10 := h5.keeps c10; replace c11 := h5.keeps c11; replace c20 := h5.keeps c20; replace c21 := h5.keeps c21; have G5 := G4.trans h5) | (go_at_call 12; refine (HC.out.rPlace _ G5).mono ?_; rintro e w6 ⟨rfl, g6⟩; have hl6 := lt_of_cell (g6.keeps x50); have h6 := g6.alloc (.cells #[.int .i64 x3, .int .i64 y3] 28); have c60 : (w6.alloc (.cells #[.int .i64 x3, .int .i64 y3] 28)).cell? ⟨w6.heap.size, 0, none⟩ = some (.int .i64 x3) := cell_new rfl rfl; have c61 : (w6.alloc (.cells #[.int .i64 x3, .int .i64 y3] 28)).cell? ⟨w6.heap.size, 1, none⟩ = some (.int .i64 y3) := cell_new rfl rfl; have x60 := h6.keeps x50; have x61 := h6.keeps x51; have x62 := h6.keeps x52; replace c10 := h6.keeps c10; replace c11 := h6.keeps c11; replace c20 := h6.keeps c20; replace c21 := h6.keeps c21; replace c50 := h6.keeps c50; replace c51 := h6.keeps c51; have G6 := G5.trans h6) | (go_at_call 13; refine (HC.out.pFinal _ G6).mono ?_; rintro e w7 ⟨rfl, g7⟩; have hl7 := lt_of_cell (g7.keeps x60); have h7 := g7; have x70 := h7.keeps x60; have x71 := h7.keeps x61; have x72 := h7.keeps x62; replace c10 := h7.keeps c10; replace c11 := h7.keeps c11; replace c20 := h7.keeps c20; replace c21 := h7.keeps c21; replace c50 := h7.keeps c50; replace c51 := h7.keeps c51; replace c60 := h7.keeps c60; replace c61 := h7.keeps c61; have G7 := G6.trans h7) | (go_at_call 14; refine (HC.out.rFinal _ G7).mono ?_; rintro e w8 ⟨rfl, g8⟩; have hl8 := lt_of_cell (g8.keeps x70); have h8 := g8; have x80 := h8.keeps x70; have x81 := h8.keeps x71; have x82 := h8.keeps x72; replace c10 := h8.keeps c10; replace c11 := h8.keeps c11; replace c20 := h8.keeps c20; replace c21 := h8.keeps c21; replace c50 := h8.keeps c50; replace c51 := h8.keeps c51; replace c60 := h8.keeps c60; replace c61 := h8.keeps c61; have G8 := G7.trans h8) | (go_at_call 15; refine (HC.out.pCut _ G8).mono ?_; rintro e w9 ⟨rfl, g9⟩; have hl9 := lt_of_cell (g9.keeps x80); have h9 := g9.alloc (.cells #[.int .i64 x5, .int .i64 y5] 28); have c90 : (w9.alloc (.cells #[.int .i64 x5, .int .i64 y5] 28)).cell? ⟨w9.heap.size, 0, none⟩ = some (.int .i64 x5) := cell_new rfl rfl; have c91 : (w9.alloc (.cells #[.int .i64 x5, .int .i64 y5] 28)).cell? ⟨w9.heap.size, 1, none⟩ = some (.int .i64 y5) := cell_new rfl rfl; have x90 := h9.keeps x80; have x91 := h9.keeps x81; have x92 := h9.keeps x82; replace c10 := h9.keeps c10; replace c11 := h9.keeps c11; replace c20 := h9.keeps c20; replace c21 := h9.keeps c21; replace c50 := h9.keeps c50; replace c51 := h9.keeps c51; replace c60 := h9.keeps c60; replace c61 := h9.keeps c61; have G9 := G8.trans h9) | (go_at_call 16; refine (HC.out.rCut _ G9).mono ?_; rintro e w10 ⟨rfl, g10⟩; have hl10 := lt_of_cell (g10.keeps x90); have h10 := g10.alloc (.cells #[.int .i64 x5, .int .i64 y5] 28); have c100 : (w10.alloc (.cells #[.int .i64 x5, .int .i64 y5] 28)).cell? ⟨w10.heap.size, 0, none⟩ = some (.int .i64 x5) := cell_new rfl rfl; have c101 : (w10.alloc (.cells #[.int .i64 x5, .int .i64 y5] 28)).cell? ⟨w10.heap.size, 1, none⟩ = some (.int .i64 y5) := cell_new rfl rfl; have x100 := h10.keeps x90; have x101 := h10.keeps x91; have x102 := h10.keeps x92; replace c10 := h10.keeps c10; replace c11 := h10.keeps c11; replace c20 := h10.keeps c20; replace c21 := h10.keeps c21; replace c50 := h10.keeps c50; replace c51 := h10.keeps c51; replace c60 := h10.keeps c60; replace c61 := h10.keeps c61; replace c90 := h10.keeps c90; replace c91 := h10.keeps c91; have G10 := G9.trans h10) | (go_at_call 17; refine (HC.out.pMeet _ G10).mono ?_; rintro e w11 ⟨rfl, g11⟩; have hl11 := lt_of_cell (g11.keeps x100); have h11 := g11; have x110 := h11.keeps x100; have x111 := h11.keeps x101; have x112 := h11.keeps x102; replace c10 := h11.keeps c10; replace c11 := h11.keeps c11; replace c20 := h11.keeps c20; replace c21 := h11.keeps c21; replace c50 := h11.keeps c50; replace c51 := h11.keeps c51; replace c60 := h11.keeps c60; replace c61 := h11.keeps c61; replace c90 := h11.keeps c90; replace c91 := h11.keeps c91; replace c100 := h11.keeps c100; replace c101 := h11.keeps c101; have G11 := G10.trans h11) | (go_at_call 18; refine (HC.out.rMeet _ G11).mono ?_; rintro e w12 ⟨rfl, g12⟩; have hl12 := lt_of_cell (g12.keeps x110); have h12 := g12; have x120 := h12.keeps x110; have x121 := h12.keeps x111; have x122 := h12.keeps x112; replace c10 := h12.keeps c10; replace c11 := h12.keeps c11; replace c20 := h12.keeps c20; replace c21 := h12.keeps c21; replace c50 := h12.keeps c50; replace c51 := h12.keeps c51; replace c60 := h12.keeps c60; replace c61 := h12.keeps c61; replace c90 := h12.keeps c90; replace c91 := h12.keeps c91; replace c100 := h12.keeps c100; replace c101 := h12.keeps c101; have G12 := G11.trans h12)
  obtain ⟨P1, hP1⟩ : ∃ z, w1.heap.size = z := ⟨_, rfl⟩
  rw [hP1] at c10 c11
  rw [hP1]
  have hlp1 := lt_of_cell c10
  obtain ⟨P2, hP2⟩ : ∃ z, w2.heap.size = z := ⟨_, rfl⟩
  rw [hP2] at c20 c21
  rw [hP2]
  have hlp2 := lt_of_cell c20
  obtain ⟨P5, hP5⟩ : ∃ z, w5.heap.size = z := ⟨_, rfl⟩
  rw [hP5] at c50 c51
  rw [hP5]
  have hlp5 := lt_of_cell c50
  obtain ⟨P6, hP6⟩ : ∃ z, w6.heap.size = z := ⟨_, rfl⟩
  rw [hP6] at c60 c61
  rw [hP6]
  have hlp6 := lt_of_cell c60
  obtain ⟨P9, hP9⟩ : ∃ z, w9.heap.size = z := ⟨_, rfl⟩
  rw [hP9] at c90 c91
  rw [hP9]
  have hlp9 := lt_of_cell c90
  obtain ⟨P10, hP10⟩ : ∃ z, w10.heap.size = z := ⟨_, rfl⟩
  rw [hP10] at c100 c101
  rw [hP10]
  have hlp10 := lt_of_cell c100
  clear hP1 hP2 hP5 hP6 hP9 hP10 x10 x11 x12 x20 x21 x22 x30 x31 x32 x40 x41 x42 x50 x51 x52 x60 x61 x62 x70 x71 x72 x80 x81 x82 x90 x91 x92 x100 x101 x102 x110 x111 x112 x120 x121 x122 hl1 g1 h1 hl2 g2 h2 hl3 g3 h3 hl4 g4 h4 hl5 g5 h5 hl6 g6 h6 hl7 g7 h7 hl8 g8 h8 hl9 g9 h9 hl10 g10 h10 hl11 g11 h11 hl12 g12 h12 G0 G1 G2 G3 G4 G5 G6 G7 G8 G9 G10 G11 z0 z1 z2 hl0 g0
  go_wp2_with (go_at_call 6; refine (lalive_any _).mono ?_; rintro e w99 ⟨rfl, g99⟩)
  go_ret
  exact ⟨rfl, G12.trans g99⟩
end Go.Proofs.YtbeglemohfbdfaaGreat
