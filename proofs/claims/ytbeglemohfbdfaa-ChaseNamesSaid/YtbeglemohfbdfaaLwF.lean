/- The law ChaseNames: the walk. Conditions: none. -/
import Derived.Test.YtbeglemohfbdfaaLwB
namespace Go.Proofs.Ytbeglemohfbdfaa
open Go.RowKit

set_option maxRecDepth 1000000 in
theorem ew1 : errOf 1 1 wideS (inB 0 0 (wideS.length - 1)) = 10 ∧ timeV 1 1 wideS 0 = (0, 0) := by decide +kernel
set_option maxRecDepth 1000000 in
theorem ew2 : wrongE 1 2 sampleS 2 = 0 ∧ codeO 1 2 sampleS (inB 2 0 (sampleS.length - 1)) = 0 := by decide +kernel
set_option maxRecDepth 1000000 in
theorem ew3 : meetE 1 2 sampleS 1 3 = 1 ∧ errOf 1 2 sampleS (okM sampleS 1 3) = 0 := by decide +kernel
set_option maxRecDepth 1000000 in
theorem ew4 : meetE 1 2 sampleS 1 2 = 0 ∧ errOf 1 2 sampleS (okM sampleS 1 2) = 0 := by decide +kernel
set_option maxRecDepth 1000000 in
theorem ew5 : askE 1 2 sampleS = (0, 4) := by decide +kernel
def namesT : List Value := [.int .i64 50, .int .i64 51, .int .i64 0, .int .i64 1, .int .i64 2, .int .i64 51, .int .i64 53, .int .i64 1, .int .i64 2, .int .i64 1, .int .i64 53, .int .i64 54, .int .i64 3, .int .i64 3, .int .i64 0, .int .i64 50, .int .i64 52, .int .i64 0, .int .i64 2, .int .i64 1]
/-- What each row of the table tells. -/
def RowT (k : Nat) (a b c d f : Int) : Prop := (namesT[k * 5]? = some (.int .i64 a) ∧ namesT[k * 5 + 1]? = some (.int .i64 b) ∧ namesT[k * 5 + 2]? = some (.int .i64 c) ∧ namesT[k * 5 + 3]? = some (.int .i64 d) ∧ namesT[k * 5 + 4]? = some (.int .i64 f)) ∧
  timeV 1 2 sampleS k = (a, b) ∧ placeV 1 2 sampleS k = (c, d) ∧ finalE 1 2 sampleS k = f ∧ errOf 1 2 sampleS (inB k 0 (sampleS.length - 1)) = 0
set_option maxRecDepth 1000000 in
theorem rowT_any {k : Nat} (hk : k < 4) : ∃ a b c d f, RowT k a b c d f := by
  have h : k = 0 ∨ k = 1 ∨ k = 2 ∨ k = 3 := by omega
  rcases h with rfl | rfl | rfl | rfl
  · exact ⟨50, 51, 0, 1, 2, ⟨rfl, rfl, rfl, rfl, rfl⟩, by decide +kernel, by decide +kernel, by decide +kernel, by decide +kernel⟩
  · exact ⟨51, 53, 1, 2, 1, ⟨rfl, rfl, rfl, rfl, rfl⟩, by decide +kernel, by decide +kernel, by decide +kernel, by decide +kernel⟩
  · exact ⟨53, 54, 3, 3, 0, ⟨rfl, rfl, rfl, rfl, rfl⟩, by decide +kernel, by decide +kernel, by decide +kernel, by decide +kernel⟩
  · exact ⟨50, 52, 0, 2, 1, ⟨rfl, rfl, rfl, rfl, rfl⟩, by decide +kernel, by decide +kernel, by decide +kernel, by decide +kernel⟩
set_option maxRecDepth 100000 in
set_option maxHeartbeats 2000000 in
theorem lchaseNames (w : World) : Calls Try.prog 3 #[] w fun e w' => e = .returned (.bool true) ∧ Grow w w' := by
  go_enter Try.func3, Try.ntmps3
  go_wp2_with fail
  refine (lspan_any _ _ _).mono ?_
  rintro e a1 ⟨rfl, g1⟩
  go_wp2_with fail
  refine (lspan_any _ _ _).mono ?_
  rintro e a2 ⟨rfl, g2⟩
  go_wp2_with fail
  refine (lspan_any _ _ _).mono ?_
  rintro e a3 ⟨rfl, g3⟩
  go_wp2_with fail
  refine (lspan_any _ _ _).mono ?_
  rintro e a4 ⟨rfl, g4⟩
  go_wp2_with fail
  refine (lspan_any _ _ _).mono ?_
  rintro e a5 ⟨rfl, g5⟩
  go_wp2_with fail
  refine (lspan_any _ _ _).mono ?_
  rintro e a6 ⟨rfl, g6⟩
  go_wp2_with fail
  refine (lspan_any _ _ _).mono ?_
  rintro e a7 ⟨rfl, g7⟩
  go_wp2_with fail
  refine (lspan_any _ _ _).mono ?_
  rintro e a8 ⟨rfl, g8⟩
  go_wp2_with fail
  refine named (K := Code.wp _ _ _) ?_
  intro V hV
  have gF0 : Grow w V := by rw [hV]; exact (((g1.trans g2).trans (g3.trans g4)).trans ((g5.trans g6).trans (g7.trans g8))).alloc _
  have hT : ∀ (j : Nat) (v : Value), namesT[j]? = some v → V.cell? ⟨a8.heap.size, j, none⟩ = some v := by
    intro j v h
    rw [hV]
    refine cell_new rfl ?_
    show (namesT.toArray)[j]? = some v
    rw [List.getElem?_toArray]
    exact h
  have HT := Lib.hid hT
  have hBl : a8.heap.size < V.heap.size := by rw [hV]; simp
  obtain ⟨B, hB⟩ : ∃ z, a8.heap.size = z := ⟨_, rfl⟩
  rw [hB] at HT hBl
  rw [hB]
  clear hV hB hT g1 g2 g3 g4 g5 g6 g7 g8
  go_loopw [33] (fun i wr => ∃ k : Nat, k ≤ 4 ∧ i = .int .i64 k ∧ Grow V wr) (fun i _ => 4 - (intOf i).toNat)
  case atStart => exact ⟨0, Nat.zero_le _, rfl, Grow.refl _⟩
  case round =>
    obtain ⟨k, hk, rfl, hg⟩ := hrel
    by_cases hlt : k < 4
    · obtain ⟨a, b, c, d, f, ⟨t0, t1, t2, t3, t4⟩, q1, q2, q3, q4⟩ := rowT_any hlt
      have m0 := hg.keeps (HT.out _ _ t0)
      have m1 := hg.keeps (HT.out _ _ t1)
      have m2 := hg.keeps (HT.out _ _ t2)
      have m3 := hg.keeps (HT.out _ _ t3)
      have m4 := hg.keeps (HT.out _ _ t4)
      have Q1 := Lib.hid q1
      have Q2 := Lib.hid q2
      have Q3 := Lib.hid q3
      have Q4 := Lib.hid q4
      have hbl := lt_of_cell m0
      clear t0 t1 t2 t3 t4 q1 q2 q3 q4
      go_wp2_with fail
      refine (lsample_any _).mono ?_
      rintro e w1 ⟨s1, rfl, h1, g1⟩
      go_wp2_with fail
      refine (pTime_any 1 2 k s1 _ w1 h1).mono ?_
      rw [Q1.out, Q4.out]
      rintro e w2 ⟨rfl, g2⟩
      go_wp2_with fail
      refine (lsample_any _).mono ?_
      rintro e w3 ⟨s3, rfl, h3, g3⟩
      go_wp2_with fail
      refine (pPlace_any 1 2 k s3 _ w3 h3).mono ?_
      rw [Q2.out, Q4.out]
      rintro e w4 ⟨rfl, g4⟩
      go_wp2_with fail
      refine (lsample_any _).mono ?_
      rintro e w5 ⟨s5, rfl, h5, g5⟩
      go_wp2_with fail
      refine (pFinal_any 1 2 k s5 _ w5 h5).mono ?_
      rw [Q3.out, Q4.out]
      rintro e w6 ⟨rfl, g6⟩
      have G5 := g5.trans g6
      have G3 := ((g3.trans g4).alloc (.cells #[.int .i64 c, .int .i64 d] 23)).trans G5
      have G1 := ((g1.trans g2).alloc (.cells #[.int .i64 a, .int .i64 b] 23)).trans G3
      have e0 : w6.cell? ⟨wr.heap.size, 0, none⟩ = some (.int .i64 a) := G1.keeps (cell_new rfl rfl)
      have e1 : w6.cell? ⟨wr.heap.size, 1, none⟩ = some (.int .i64 b) := G1.keeps (cell_new rfl rfl)
      have e2 : w6.cell? ⟨wr.heap.size, 2, none⟩ = some (.int .i64 c) := G1.keeps (cell_new rfl rfl)
      have e3 : w6.cell? ⟨wr.heap.size, 3, none⟩ = some (.int .i64 d) := G1.keeps (cell_new rfl rfl)
      have e4 : w6.cell? ⟨wr.heap.size, 4, none⟩ = some (.int .i64 f) := G1.keeps (cell_new rfl rfl)
      have e5 : w6.cell? ⟨w2.heap.size, 0, none⟩ = some (.int .i64 a) := G3.keeps (cell_new rfl rfl)
      have e6 : w6.cell? ⟨w2.heap.size, 1, none⟩ = some (.int .i64 b) := G3.keeps (cell_new rfl rfl)
      have e7 : w6.cell? ⟨w4.heap.size, 0, none⟩ = some (.int .i64 c) := G5.keeps (cell_new rfl rfl)
      have e8 : w6.cell? ⟨w4.heap.size, 1, none⟩ = some (.int .i64 d) := G5.keeps (cell_new rfl rfl)
      have gR : Grow V w6 := (hg.alloc _).trans G1
      go_wp2_with fail
      exact ⟨⟨k + 1, by omega, by go_num, by first | exact gR | exact gR.drew⟩, by simp [intOf]; omega⟩
    · obtain rfl : k = 4 := by omega
      go_wp2_with fail
      refine (lwide_any _).mono ?_
      rintro e b1 ⟨s1, rfl, h1, g1⟩
      go_wp2_with fail
      refine (pTime_any 1 1 0 s1 _ b1 h1).mono ?_
      rw [ew1.1, ew1.2]
      rintro e b2 ⟨rfl, g2⟩
      go_wp2_with fail
      refine (lsample_any _).mono ?_
      rintro e b3 ⟨s3, rfl, h3, g3⟩
      go_wp2_with fail
      refine (pWrong_any 1 2 2 s3 _ b3 h3).mono ?_
      rw [ew2.1, ew2.2]
      rintro e b4 ⟨rfl, g4⟩
      go_wp2_with fail
      refine (lsample_any _).mono ?_
      rintro e b5 ⟨s5, rfl, h5, g5⟩
      go_wp2_with fail
      refine (pMeet_any 1 2 1 3 s5 _ b5 h5).mono ?_
      rw [ew3.1, ew3.2]
      rintro e b6 ⟨rfl, g6⟩
      go_wp2_with fail
      refine (lsample_any _).mono ?_
      rintro e b7 ⟨s7, rfl, h7, g7⟩
      go_wp2_with fail
      refine (pMeet_any 1 2 1 2 s7 _ b7 h7).mono ?_
      rw [ew4.1, ew4.2]
      rintro e b8 ⟨rfl, g8⟩
      go_wp2_with fail
      refine (lsample_any _).mono ?_
      rintro e b9 ⟨s9, rfl, h9, g9⟩
      go_wp2_with fail
      refine (pAsk_any 1 2 s9 _ b9 h9).mono ?_
      rw [ew5]
      rintro e b10 ⟨rfl, g10⟩
      have G : Grow w b10 := (gF0.trans (hg.trans ((g1.trans g2).alloc _))).trans (((g3.trans g4).trans (g5.trans g6)).trans ((g7.trans g8).trans (g9.trans g10)))
      clear h1 h3 h5 h7 h9 g1 g2 g3 g4 g5 g6 g7 g8 g9 g10 hg gF0 HT
      go_wp2_with (go_at_call 19; refine (lalive_any _).mono ?_; rintro e b11 ⟨rfl, g11⟩)
      go_ret
      exact ⟨rfl, G.trans g11⟩
end Go.Proofs.Ytbeglemohfbdfaa
