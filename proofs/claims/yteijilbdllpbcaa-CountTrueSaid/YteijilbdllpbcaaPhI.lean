/- The program of layer 1: opened. Conditions: sizes. -/
import Derived.Test.YteijilbdllpbcaaPhH
namespace Go.Proofs.Yteijilbdllpbcaa
open Go.RowKit

def OpInvC (W : World) (W0 W1 : Nat) (P p q : Int) (a : Option Addr) (n cap : Nat) (ss T : List (List Int)) (L : Array Bool) (A : Act) (V : World) : Prop :=
  ∃ v6 v8 v9 v10 v11 v12 v13 v14 v15 v16 v17 v18 v19 v20 v21 v22 v23 v24 v25 v26, A = { tmps := #[.agg #[.int .i64 P, .slice a n cap], .int .i64 p, .int .i64 q, .pointer (some ⟨W0, 0, none⟩), undef, undef, v6, .pointer (some ⟨W1, 0, none⟩), v8, v9, v10, v11, v12, v13, v14, v15, v16, v17, v18, v19, v20, v21, v22, v23, v24, v25, v26], defers := [] } ∧ (Grow W V) ∧ (Over L 0 → (v8 = .agg #[.int .i64 P, .slice a n cap])) ∧ (Over L 1 → (v9 = .agg #[.int .i64 P, .slice a n cap])) ∧ (Over L 2 → (v10 = .int .i64 p)) ∧ (Over L 3 → (v11 = .bool true)) ∧ (Over L 4 → (v12 = .bool true)) ∧ (Over L 5 → (v13 = .agg #[.int .i64 P, .slice a n cap])) ∧ (Over L 6 → (v14 = .int .i64 q)) ∧ (Over L 7 → (v15 = .bool true)) ∧ (Over L 8 → (v16 = .bool true)) ∧ (Over L 9 → (v17 = .bool true)) ∧ (Over L 10 → (v18 = .int .i64 p)) ∧ (Over L 11 → (v19 = .int .i64 q)) ∧ (Over L 12 → (v20 = .bool (p != q))) ∧ (Over L 13 → (v21 = .bool (p != q))) ∧ (Over L 14 → (FullAt V ss T v22)) ∧ (Over L 16 → (v24 = .int .i64 p)) ∧ (Over L 17 → (v25 = .int .i64 q)) ∧ (Over L 18 → (v26 = .agg #[.int .i64 p, .int .i64 q])) ∧ ¬ Over L 15 ∧ ¬ Over L 19 ∧ ¬ Over L 20
set_option maxRecDepth 100000 in
set_option maxHeartbeats 1000000 in
theorem popened_clash (P p q k : Int) (v : Value) (ss : List (List Int)) (w : World) (hv : IsSheets w v ss) (hr : ∀ n V, Grow w V → Calls Try.prog 62 #[.agg #[.int .i64 P, v], .int .i64 n] V fun e w' => e = .returned (.bool (inB n 0 k)) ∧ Grow V w') (h1 : inB p 0 k = true) (h2 : inB q 0 k = true) (hc : codeO P ss (p != q) = 0) (h0 : (truthsR P.toNat ss).1 = []) :
    Calls Try.prog 67 #[.agg #[.int .i64 P, v], .int .i64 p, .int .i64 q] w fun e w' => e = .panicked (refusal 10) ∧ Grow w w' := by
  obtain ⟨a, cap, rfl, hcap, hlen, hrow⟩ := id hv
  have Hv := Lib.hid hv
  have HR := Lib.hid hr
  have H1 := Lib.hid h1
  have H2 := Lib.hid h2
  have Hc := Lib.hid hc
  have H0 := Lib.hid h0
  clear hv hr h1 h2 hc h0
  go_enter Try.func67, Try.ntmps67
  go_wp2_with fail
  obtain ⟨W, hW⟩ : ∃ W, W = ((w.alloc (.cells #[.int .i64 P, .slice a ss.length cap] 24)).alloc (.cells #[.int .i64 0, .int .i64 0] 92)) := ⟨_, rfl⟩
  have hgW : Grow w W := by rw [hW]; exact (((Grow.refl w).alloc _).alloc _)
  have hW00 : W.cell? ⟨w.heap.size, 0, none⟩ = some (.int .i64 P) := by rw [hW]; exact Grow.keepA (cell_new (by simp) rfl) _
  have hW01 : W.cell? ⟨w.heap.size, 1, none⟩ = some (.slice a ss.length cap) := by rw [hW]; exact Grow.keepA (cell_new (by simp) rfl) _
  have hWf0 : ∀ o, W.frozen? ⟨w.heap.size, o, none⟩ = false := by intro o; rw [hW]; exact (((Grow.refl _).alloc _).marks _ _ (by simp <;> omega)).trans (hot_new (by simp))
  have hWl0 : w.heap.size < W.heap.size := by rw [hW]; simp; try omega
  have hW10 : W.cell? ⟨w.heap.size + 1, 0, none⟩ = some (.int .i64 0) := by rw [hW]; exact cell_new (by simp) rfl
  have hW11 : W.cell? ⟨w.heap.size + 1, 1, none⟩ = some (.int .i64 0) := by rw [hW]; exact cell_new (by simp) rfl
  have hWf1 : ∀ o, W.frozen? ⟨w.heap.size + 1, o, none⟩ = false := by intro o; rw [hW]; exact hot_new (by simp)
  have hWl1 : w.heap.size + 1 < W.heap.size := by rw [hW]; simp; try omega
  rw [← hW]
  clear hW
  have hWd : ∀ n, (W.drewN n).heap.size = W.heap.size := fun _ => rfl
  have hWq : ∀ n o b j, b < W.heap.size → ((W.drewN n).alloc o).cell? ⟨b, j, none⟩ = W.cell? ⟨b, j, none⟩ := cell_drewN_alloc W
  have hWr : ∀ n o b j, b < W.heap.size → ((W.drewN n).alloc o).frozen? ⟨b, j, none⟩ = W.frozen? ⟨b, j, none⟩ := hot_drewN_alloc W
  have hWb0 : w.heap.size ≤ w.heap.size := by omega
  have hWb1 : w.heap.size ≤ w.heap.size + 1 := by omega
  have hWn01 : w.heap.size ≠ w.heap.size + 1 := by omega
  have hWn10 : w.heap.size + 1 ≠ w.heap.size := by omega
  obtain ⟨W1, hWe1⟩ : ∃ g, w.heap.size + 1 = g := ⟨_, rfl⟩
  rw [hWe1] at hW10 hW11 hWf1 hWl1 hWb1 hWn10 hWn01
  (try rw [hWe1])
  have hWk1 := Lib.hid hWe1
  clear hWe1
  obtain ⟨W0, hWe0⟩ : ∃ g, w.heap.size = g := ⟨_, rfl⟩
  have hWb0 : w.heap.size ≤ W0 := by omega
  rw [hWe0] at hW00 hW01 hWf0 hWl0 hWn01 hWn10
  (try rw [hWe0])
  have hWk0 := Lib.hid hWe0
  clear hWe0
  refine wp_region_inv (by kernel_rfl) (OpInvC W W0 W1 P p q a ss.length cap ss (truthsR P.toNat ss).1) (by kernel_rfl) ?_ ?_ ?_
  · exact fun L hL => ⟨.pointer none, _, _, _, _, _, _, _, _, _, _, _, _, _, _, _, _, _, _, _, rfl, (Grow.refl W).drew, fun h => absurd h (hL _), fun h => absurd h (hL _), fun h => absurd h (hL _), fun h => absurd h (hL _), fun h => absurd h (hL _), fun h => absurd h (hL _), fun h => absurd h (hL _), fun h => absurd h (hL _), fun h => absurd h (hL _), fun h => absurd h (hL _), fun h => absurd h (hL _), fun h => absurd h (hL _), fun h => absurd h (hL _), fun h => absurd h (hL _), fun h => absurd h (hL _), fun h => absurd h (hL _), fun h => absurd h (hL _), fun h => absurd h (hL _), hL _, hL _, hL _⟩
  · rintro L A V ⟨v6, v8, v9, v10, v11, v12, v13, v14, v15, v16, v17, v18, v19, v20, v21, v22, v23, v24, v25, v26, rfl, hg, h0, h1, h2, h3, h4, h5, h6, h7, h8, h9, h10, h11, h12, h13, h14, h16, h17, h18, n15, n19, n20⟩ hall
    exact absurd (hall 15 (by simp)) n15
  · rintro i o L A V ho hi ⟨v6, v8, v9, v10, v11, v12, v13, v14, v15, v16, v17, v18, v19, v20, v21, v22, v23, v24, v25, v26, rfl, hg, h0, h1, h2, h3, h4, h5, h6, h7, h8, h9, h10, h11, h12, h13, h14, h16, h17, h18, n15, n19, n20⟩ hno hd
    have hio := (Array.getElem?_eq_some_iff.1 ho).1
    simp only [List.size_toArray, List.length_cons, List.length_nil, Nat.reduceAdd] at hio
    obtain rfl | rfl | rfl | rfl | rfl | rfl | rfl | rfl | rfl | rfl | rfl | rfl | rfl | rfl | rfl | rfl | rfl | rfl | rfl | rfl | rfl : i = 0 ∨ i = 1 ∨ i = 2 ∨ i = 3 ∨ i = 4 ∨ i = 5 ∨ i = 6 ∨ i = 7 ∨ i = 8 ∨ i = 9 ∨ i = 10 ∨ i = 11 ∨ i = 12 ∨ i = 13 ∨ i = 14 ∨ i = 15 ∨ i = 16 ∨ i = 17 ∨ i = 18 ∨ i = 19 ∨ i = 20 := by omega
    · cases ho
      have c0 := hg.keeps hW00
      have c1 := hg.keeps hW01
      go_simp
      exact ⟨_, _, _, _, _, _, _, _, _, _, _, _, _, _, _, _, _, _, _, _, rfl, hg, fun _ => rfl, fun h => h1 (over_ne h (by decide)), fun h => h2 (over_ne h (by decide)), fun h => h3 (over_ne h (by decide)), fun h => h4 (over_ne h (by decide)), fun h => h5 (over_ne h (by decide)), fun h => h6 (over_ne h (by decide)), fun h => h7 (over_ne h (by decide)), fun h => h8 (over_ne h (by decide)), fun h => h9 (over_ne h (by decide)), fun h => h10 (over_ne h (by decide)), fun h => h11 (over_ne h (by decide)), fun h => h12 (over_ne h (by decide)), fun h => h13 (over_ne h (by decide)), fun h => h14 (over_ne h (by decide)), fun h => h16 (over_ne h (by decide)), fun h => h17 (over_ne h (by decide)), fun h => h18 (over_ne h (by decide)), fun h => n15 (over_ne h (by decide)), fun h => n19 (over_ne h (by decide)), fun h => n20 (over_ne h (by decide))⟩
    · cases ho
      have c0 := hg.keeps hW00
      have c1 := hg.keeps hW01
      go_simp
      exact ⟨_, _, _, _, _, _, _, _, _, _, _, _, _, _, _, _, _, _, _, _, rfl, hg, fun h => h0 (over_ne h (by decide)), fun _ => rfl, fun h => h2 (over_ne h (by decide)), fun h => h3 (over_ne h (by decide)), fun h => h4 (over_ne h (by decide)), fun h => h5 (over_ne h (by decide)), fun h => h6 (over_ne h (by decide)), fun h => h7 (over_ne h (by decide)), fun h => h8 (over_ne h (by decide)), fun h => h9 (over_ne h (by decide)), fun h => h10 (over_ne h (by decide)), fun h => h11 (over_ne h (by decide)), fun h => h12 (over_ne h (by decide)), fun h => h13 (over_ne h (by decide)), fun h => h14 (over_ne h (by decide)), fun h => h16 (over_ne h (by decide)), fun h => h17 (over_ne h (by decide)), fun h => h18 (over_ne h (by decide)), fun h => n15 (over_ne h (by decide)), fun h => n19 (over_ne h (by decide)), fun h => n20 (over_ne h (by decide))⟩
    · cases ho
      go_simp
      exact ⟨_, _, _, _, _, _, _, _, _, _, _, _, _, _, _, _, _, _, _, _, rfl, hg, fun h => h0 (over_ne h (by decide)), fun h => h1 (over_ne h (by decide)), fun _ => rfl, fun h => h3 (over_ne h (by decide)), fun h => h4 (over_ne h (by decide)), fun h => h5 (over_ne h (by decide)), fun h => h6 (over_ne h (by decide)), fun h => h7 (over_ne h (by decide)), fun h => h8 (over_ne h (by decide)), fun h => h9 (over_ne h (by decide)), fun h => h10 (over_ne h (by decide)), fun h => h11 (over_ne h (by decide)), fun h => h12 (over_ne h (by decide)), fun h => h13 (over_ne h (by decide)), fun h => h14 (over_ne h (by decide)), fun h => h16 (over_ne h (by decide)), fun h => h17 (over_ne h (by decide)), fun h => h18 (over_ne h (by decide)), fun h => n15 (over_ne h (by decide)), fun h => n19 (over_ne h (by decide)), fun h => n20 (over_ne h (by decide))⟩
    · cases ho
      have d1 := h1 (hd { on := 1, ground := .data } (by simp) rfl)
      have d2 := h2 (hd { on := 2, ground := .data } (by simp) rfl)
      subst d1 d2
      go_simp
      go_at_call 62
      refine (HR.out _ _ (hgW.trans hg)).mono ?_
      rw [H1.out]
      rintro e V2 ⟨rfl, hgV⟩
      go_simp
      exact ⟨_, _, _, _, _, _, _, _, _, _, _, _, _, _, _, _, _, _, _, _, rfl, (fun h => h.trans hgV) hg, fun h => h0 (over_ne h (by decide)), fun h => h1 (over_ne h (by decide)), fun h => h2 (over_ne h (by decide)), fun _ => rfl, fun h => h4 (over_ne h (by decide)), fun h => h5 (over_ne h (by decide)), fun h => h6 (over_ne h (by decide)), fun h => h7 (over_ne h (by decide)), fun h => h8 (over_ne h (by decide)), fun h => h9 (over_ne h (by decide)), fun h => h10 (over_ne h (by decide)), fun h => h11 (over_ne h (by decide)), fun h => h12 (over_ne h (by decide)), fun h => h13 (over_ne h (by decide)), fun h => (fun h => h.grow hgV) (h14 (over_ne h (by decide))), fun h => h16 (over_ne h (by decide)), fun h => h17 (over_ne h (by decide)), fun h => h18 (over_ne h (by decide)), fun h => n15 (over_ne h (by decide)), fun h => n19 (over_ne h (by decide)), fun h => n20 (over_ne h (by decide))⟩
    · cases ho
      have d3 := h3 (hd { on := 3, ground := .data } (by simp) rfl)
      subst d3
      go_simp
      exact ⟨_, _, _, _, _, _, _, _, _, _, _, _, _, _, _, _, _, _, _, _, rfl, hg, fun h => h0 (over_ne h (by decide)), fun h => h1 (over_ne h (by decide)), fun h => h2 (over_ne h (by decide)), fun h => h3 (over_ne h (by decide)), fun _ => rfl, fun h => h5 (over_ne h (by decide)), fun h => h6 (over_ne h (by decide)), fun h => h7 (over_ne h (by decide)), fun h => h8 (over_ne h (by decide)), fun h => h9 (over_ne h (by decide)), fun h => h10 (over_ne h (by decide)), fun h => h11 (over_ne h (by decide)), fun h => h12 (over_ne h (by decide)), fun h => h13 (over_ne h (by decide)), fun h => h14 (over_ne h (by decide)), fun h => h16 (over_ne h (by decide)), fun h => h17 (over_ne h (by decide)), fun h => h18 (over_ne h (by decide)), fun h => n15 (over_ne h (by decide)), fun h => n19 (over_ne h (by decide)), fun h => n20 (over_ne h (by decide))⟩
    · cases ho
      have d4 := h4 (hd { on := 4, ground := .guard } (by simp) rfl)
      have c0 := hg.keeps hW00
      have c1 := hg.keeps hW01
      subst d4
      go_simp
      exact ⟨_, _, _, _, _, _, _, _, _, _, _, _, _, _, _, _, _, _, _, _, rfl, hg, fun h => h0 (over_ne h (by decide)), fun h => h1 (over_ne h (by decide)), fun h => h2 (over_ne h (by decide)), fun h => h3 (over_ne h (by decide)), fun h => h4 (over_ne h (by decide)), fun _ => rfl, fun h => h6 (over_ne h (by decide)), fun h => h7 (over_ne h (by decide)), fun h => h8 (over_ne h (by decide)), fun h => h9 (over_ne h (by decide)), fun h => h10 (over_ne h (by decide)), fun h => h11 (over_ne h (by decide)), fun h => h12 (over_ne h (by decide)), fun h => h13 (over_ne h (by decide)), fun h => h14 (over_ne h (by decide)), fun h => h16 (over_ne h (by decide)), fun h => h17 (over_ne h (by decide)), fun h => h18 (over_ne h (by decide)), fun h => n15 (over_ne h (by decide)), fun h => n19 (over_ne h (by decide)), fun h => n20 (over_ne h (by decide))⟩
    · cases ho
      have d4 := h4 (hd { on := 4, ground := .guard } (by simp) rfl)
      subst d4
      go_simp
      exact ⟨_, _, _, _, _, _, _, _, _, _, _, _, _, _, _, _, _, _, _, _, rfl, hg, fun h => h0 (over_ne h (by decide)), fun h => h1 (over_ne h (by decide)), fun h => h2 (over_ne h (by decide)), fun h => h3 (over_ne h (by decide)), fun h => h4 (over_ne h (by decide)), fun h => h5 (over_ne h (by decide)), fun _ => rfl, fun h => h7 (over_ne h (by decide)), fun h => h8 (over_ne h (by decide)), fun h => h9 (over_ne h (by decide)), fun h => h10 (over_ne h (by decide)), fun h => h11 (over_ne h (by decide)), fun h => h12 (over_ne h (by decide)), fun h => h13 (over_ne h (by decide)), fun h => h14 (over_ne h (by decide)), fun h => h16 (over_ne h (by decide)), fun h => h17 (over_ne h (by decide)), fun h => h18 (over_ne h (by decide)), fun h => n15 (over_ne h (by decide)), fun h => n19 (over_ne h (by decide)), fun h => n20 (over_ne h (by decide))⟩
    · cases ho
      have d4 := h4 (hd { on := 4, ground := .guard } (by simp) rfl)
      have d5 := h5 (hd { on := 5, ground := .data } (by simp) rfl)
      have d6 := h6 (hd { on := 6, ground := .data } (by simp) rfl)
      subst d4 d5 d6
      go_simp
      go_at_call 62
      refine (HR.out _ _ (hgW.trans hg)).mono ?_
      rw [H2.out]
      rintro e V2 ⟨rfl, hgV⟩
      go_simp
      exact ⟨_, _, _, _, _, _, _, _, _, _, _, _, _, _, _, _, _, _, _, _, rfl, (fun h => h.trans hgV) hg, fun h => h0 (over_ne h (by decide)), fun h => h1 (over_ne h (by decide)), fun h => h2 (over_ne h (by decide)), fun h => h3 (over_ne h (by decide)), fun h => h4 (over_ne h (by decide)), fun h => h5 (over_ne h (by decide)), fun h => h6 (over_ne h (by decide)), fun _ => rfl, fun h => h8 (over_ne h (by decide)), fun h => h9 (over_ne h (by decide)), fun h => h10 (over_ne h (by decide)), fun h => h11 (over_ne h (by decide)), fun h => h12 (over_ne h (by decide)), fun h => h13 (over_ne h (by decide)), fun h => (fun h => h.grow hgV) (h14 (over_ne h (by decide))), fun h => h16 (over_ne h (by decide)), fun h => h17 (over_ne h (by decide)), fun h => h18 (over_ne h (by decide)), fun h => n15 (over_ne h (by decide)), fun h => n19 (over_ne h (by decide)), fun h => n20 (over_ne h (by decide))⟩
    · cases ho
      have d4 := h4 (hd { on := 4, ground := .data } (by simp) rfl)
      have d7 := h7 (hd { on := 7, ground := .data } (by simp) rfl)
      subst d4 d7
      go_simp
      exact ⟨_, _, _, _, _, _, _, _, _, _, _, _, _, _, _, _, _, _, _, _, rfl, hg, fun h => h0 (over_ne h (by decide)), fun h => h1 (over_ne h (by decide)), fun h => h2 (over_ne h (by decide)), fun h => h3 (over_ne h (by decide)), fun h => h4 (over_ne h (by decide)), fun h => h5 (over_ne h (by decide)), fun h => h6 (over_ne h (by decide)), fun h => h7 (over_ne h (by decide)), fun _ => rfl, fun h => h9 (over_ne h (by decide)), fun h => h10 (over_ne h (by decide)), fun h => h11 (over_ne h (by decide)), fun h => h12 (over_ne h (by decide)), fun h => h13 (over_ne h (by decide)), fun h => h14 (over_ne h (by decide)), fun h => h16 (over_ne h (by decide)), fun h => h17 (over_ne h (by decide)), fun h => h18 (over_ne h (by decide)), fun h => n15 (over_ne h (by decide)), fun h => n19 (over_ne h (by decide)), fun h => n20 (over_ne h (by decide))⟩
    · cases ho
      have d8 := h8 (hd { on := 8, ground := .data } (by simp) rfl)
      subst d8
      go_simp
      exact ⟨_, _, _, _, _, _, _, _, _, _, _, _, _, _, _, _, _, _, _, _, rfl, hg, fun h => h0 (over_ne h (by decide)), fun h => h1 (over_ne h (by decide)), fun h => h2 (over_ne h (by decide)), fun h => h3 (over_ne h (by decide)), fun h => h4 (over_ne h (by decide)), fun h => h5 (over_ne h (by decide)), fun h => h6 (over_ne h (by decide)), fun h => h7 (over_ne h (by decide)), fun h => h8 (over_ne h (by decide)), fun _ => rfl, fun h => h10 (over_ne h (by decide)), fun h => h11 (over_ne h (by decide)), fun h => h12 (over_ne h (by decide)), fun h => h13 (over_ne h (by decide)), fun h => h14 (over_ne h (by decide)), fun h => h16 (over_ne h (by decide)), fun h => h17 (over_ne h (by decide)), fun h => h18 (over_ne h (by decide)), fun h => n15 (over_ne h (by decide)), fun h => n19 (over_ne h (by decide)), fun h => n20 (over_ne h (by decide))⟩
    · cases ho
      have d9 := h9 (hd { on := 9, ground := .guard } (by simp) rfl)
      subst d9
      go_simp
      exact ⟨_, _, _, _, _, _, _, _, _, _, _, _, _, _, _, _, _, _, _, _, rfl, hg, fun h => h0 (over_ne h (by decide)), fun h => h1 (over_ne h (by decide)), fun h => h2 (over_ne h (by decide)), fun h => h3 (over_ne h (by decide)), fun h => h4 (over_ne h (by decide)), fun h => h5 (over_ne h (by decide)), fun h => h6 (over_ne h (by decide)), fun h => h7 (over_ne h (by decide)), fun h => h8 (over_ne h (by decide)), fun h => h9 (over_ne h (by decide)), fun _ => rfl, fun h => h11 (over_ne h (by decide)), fun h => h12 (over_ne h (by decide)), fun h => h13 (over_ne h (by decide)), fun h => h14 (over_ne h (by decide)), fun h => h16 (over_ne h (by decide)), fun h => h17 (over_ne h (by decide)), fun h => h18 (over_ne h (by decide)), fun h => n15 (over_ne h (by decide)), fun h => n19 (over_ne h (by decide)), fun h => n20 (over_ne h (by decide))⟩
    · cases ho
      have d9 := h9 (hd { on := 9, ground := .guard } (by simp) rfl)
      subst d9
      go_simp
      exact ⟨_, _, _, _, _, _, _, _, _, _, _, _, _, _, _, _, _, _, _, _, rfl, hg, fun h => h0 (over_ne h (by decide)), fun h => h1 (over_ne h (by decide)), fun h => h2 (over_ne h (by decide)), fun h => h3 (over_ne h (by decide)), fun h => h4 (over_ne h (by decide)), fun h => h5 (over_ne h (by decide)), fun h => h6 (over_ne h (by decide)), fun h => h7 (over_ne h (by decide)), fun h => h8 (over_ne h (by decide)), fun h => h9 (over_ne h (by decide)), fun h => h10 (over_ne h (by decide)), fun _ => rfl, fun h => h12 (over_ne h (by decide)), fun h => h13 (over_ne h (by decide)), fun h => h14 (over_ne h (by decide)), fun h => h16 (over_ne h (by decide)), fun h => h17 (over_ne h (by decide)), fun h => h18 (over_ne h (by decide)), fun h => n15 (over_ne h (by decide)), fun h => n19 (over_ne h (by decide)), fun h => n20 (over_ne h (by decide))⟩
    · cases ho
      have d9 := h9 (hd { on := 9, ground := .guard } (by simp) rfl)
      have d10 := h10 (hd { on := 10, ground := .data } (by simp) rfl)
      have d11 := h11 (hd { on := 11, ground := .data } (by simp) rfl)
      subst d9 d10 d11
      go_simp
      exact ⟨_, _, _, _, _, _, _, _, _, _, _, _, _, _, _, _, _, _, _, _, rfl, hg, fun h => h0 (over_ne h (by decide)), fun h => h1 (over_ne h (by decide)), fun h => h2 (over_ne h (by decide)), fun h => h3 (over_ne h (by decide)), fun h => h4 (over_ne h (by decide)), fun h => h5 (over_ne h (by decide)), fun h => h6 (over_ne h (by decide)), fun h => h7 (over_ne h (by decide)), fun h => h8 (over_ne h (by decide)), fun h => h9 (over_ne h (by decide)), fun h => h10 (over_ne h (by decide)), fun h => h11 (over_ne h (by decide)), fun _ => rfl, fun h => h13 (over_ne h (by decide)), fun h => h14 (over_ne h (by decide)), fun h => h16 (over_ne h (by decide)), fun h => h17 (over_ne h (by decide)), fun h => h18 (over_ne h (by decide)), fun h => n15 (over_ne h (by decide)), fun h => n19 (over_ne h (by decide)), fun h => n20 (over_ne h (by decide))⟩
    · cases ho
      have d9 := h9 (hd { on := 9, ground := .data } (by simp) rfl)
      have d12 := h12 (hd { on := 12, ground := .data } (by simp) rfl)
      subst d9 d12
      go_simp
      exact ⟨_, _, _, _, _, _, _, _, _, _, _, _, _, _, _, _, _, _, _, _, rfl, hg, fun h => h0 (over_ne h (by decide)), fun h => h1 (over_ne h (by decide)), fun h => h2 (over_ne h (by decide)), fun h => h3 (over_ne h (by decide)), fun h => h4 (over_ne h (by decide)), fun h => h5 (over_ne h (by decide)), fun h => h6 (over_ne h (by decide)), fun h => h7 (over_ne h (by decide)), fun h => h8 (over_ne h (by decide)), fun h => h9 (over_ne h (by decide)), fun h => h10 (over_ne h (by decide)), fun h => h11 (over_ne h (by decide)), fun h => h12 (over_ne h (by decide)), fun _ => rfl, fun h => h14 (over_ne h (by decide)), fun h => h16 (over_ne h (by decide)), fun h => h17 (over_ne h (by decide)), fun h => h18 (over_ne h (by decide)), fun h => n15 (over_ne h (by decide)), fun h => n19 (over_ne h (by decide)), fun h => n20 (over_ne h (by decide))⟩
    · cases ho
      have d0 := h0 (hd { on := 0, ground := .data } (by simp) rfl)
      have d13 := h13 (hd { on := 13, ground := .data } (by simp) rfl)
      subst d0 d13
      go_simp
      go_at_call 43
      refine (popen P _ ss _ _ (Hv.out.grow (hgW.trans hg))).mono ?_
      rintro e V2 ⟨hgV, _, hok⟩
      obtain ⟨c, sheets, ts, m, rfl, hcs, hwc, hsh, hts, hn, hz12⟩ := hok Hc.out
      go_simp
      exact ⟨_, _, _, _, _, _, _, _, _, _, _, _, _, _, _, _, _, _, _, _, rfl, (fun h => h.trans hgV) hg, fun h => h0 (over_ne h (by decide)), fun h => h1 (over_ne h (by decide)), fun h => h2 (over_ne h (by decide)), fun h => h3 (over_ne h (by decide)), fun h => h4 (over_ne h (by decide)), fun h => h5 (over_ne h (by decide)), fun h => h6 (over_ne h (by decide)), fun h => h7 (over_ne h (by decide)), fun h => h8 (over_ne h (by decide)), fun h => h9 (over_ne h (by decide)), fun h => h10 (over_ne h (by decide)), fun h => h11 (over_ne h (by decide)), fun h => h12 (over_ne h (by decide)), fun h => h13 (over_ne h (by decide)), fun _ => ⟨c, sheets, ts, m, rfl, hcs, hsh, hts, hz12⟩, fun h => h16 (over_ne h (by decide)), fun h => h17 (over_ne h (by decide)), fun h => h18 (over_ne h (by decide)), fun h => n15 (over_ne h (by decide)), fun h => n19 (over_ne h (by decide)), fun h => n20 (over_ne h (by decide))⟩
    · cases ho
      have d14 := h14 (hd { on := 14, ground := .data } (by simp) rfl)
      obtain ⟨c, sheets, ts, m, rfl, hcs, hsh, hts, hz12⟩ := d14
      have hts0 : ts = [] := List.map_eq_nil_iff.1 (hts.trans H0.out)
      subst hts0
      go_simp
      go_at_call 44
      refine (ptold_no c sheets m _ hcs).mono ?_
      rintro e w1 ⟨rfl, rfl⟩
      go_simp
      show _ = [] ∧ _
      exact ⟨rfl, rfl, hgW.trans (hg)⟩
    · cases ho
      go_simp
      exact ⟨_, _, _, _, _, _, _, _, _, _, _, _, _, _, _, _, _, _, _, _, rfl, hg, fun h => h0 (over_ne h (by decide)), fun h => h1 (over_ne h (by decide)), fun h => h2 (over_ne h (by decide)), fun h => h3 (over_ne h (by decide)), fun h => h4 (over_ne h (by decide)), fun h => h5 (over_ne h (by decide)), fun h => h6 (over_ne h (by decide)), fun h => h7 (over_ne h (by decide)), fun h => h8 (over_ne h (by decide)), fun h => h9 (over_ne h (by decide)), fun h => h10 (over_ne h (by decide)), fun h => h11 (over_ne h (by decide)), fun h => h12 (over_ne h (by decide)), fun h => h13 (over_ne h (by decide)), fun h => h14 (over_ne h (by decide)), fun _ => rfl, fun h => h17 (over_ne h (by decide)), fun h => h18 (over_ne h (by decide)), fun h => n15 (over_ne h (by decide)), fun h => n19 (over_ne h (by decide)), fun h => n20 (over_ne h (by decide))⟩
    · cases ho
      go_simp
      exact ⟨_, _, _, _, _, _, _, _, _, _, _, _, _, _, _, _, _, _, _, _, rfl, hg, fun h => h0 (over_ne h (by decide)), fun h => h1 (over_ne h (by decide)), fun h => h2 (over_ne h (by decide)), fun h => h3 (over_ne h (by decide)), fun h => h4 (over_ne h (by decide)), fun h => h5 (over_ne h (by decide)), fun h => h6 (over_ne h (by decide)), fun h => h7 (over_ne h (by decide)), fun h => h8 (over_ne h (by decide)), fun h => h9 (over_ne h (by decide)), fun h => h10 (over_ne h (by decide)), fun h => h11 (over_ne h (by decide)), fun h => h12 (over_ne h (by decide)), fun h => h13 (over_ne h (by decide)), fun h => h14 (over_ne h (by decide)), fun h => h16 (over_ne h (by decide)), fun _ => rfl, fun h => h18 (over_ne h (by decide)), fun h => n15 (over_ne h (by decide)), fun h => n19 (over_ne h (by decide)), fun h => n20 (over_ne h (by decide))⟩
    · cases ho
      have d16 := h16 (hd { on := 16, ground := .data } (by simp) rfl)
      have d17 := h17 (hd { on := 17, ground := .data } (by simp) rfl)
      subst d16 d17
      go_simp
      exact ⟨_, _, _, _, _, _, _, _, _, _, _, _, _, _, _, _, _, _, _, _, rfl, hg, fun h => h0 (over_ne h (by decide)), fun h => h1 (over_ne h (by decide)), fun h => h2 (over_ne h (by decide)), fun h => h3 (over_ne h (by decide)), fun h => h4 (over_ne h (by decide)), fun h => h5 (over_ne h (by decide)), fun h => h6 (over_ne h (by decide)), fun h => h7 (over_ne h (by decide)), fun h => h8 (over_ne h (by decide)), fun h => h9 (over_ne h (by decide)), fun h => h10 (over_ne h (by decide)), fun h => h11 (over_ne h (by decide)), fun h => h12 (over_ne h (by decide)), fun h => h13 (over_ne h (by decide)), fun h => h14 (over_ne h (by decide)), fun h => h16 (over_ne h (by decide)), fun h => h17 (over_ne h (by decide)), fun _ => rfl, fun h => n15 (over_ne h (by decide)), fun h => n19 (over_ne h (by decide)), fun h => n20 (over_ne h (by decide))⟩
    · cases ho
      exact absurd (hd { on := 15, ground := .data } (by simp) rfl) n15
    · cases ho
      exact absurd (hd { on := 19, ground := .chain } (by simp) rfl) n19
def OpenedOk (w : World) (ss T : List (List Int)) (p q : Int) (e : Ending) (w' : World) : Prop :=
  ∃ (c : Nat) (sheets ts : List ByteArray) (n : Int), e = .returned (.tuple #[.pointer (some ⟨c, 0, none⟩), .agg #[.int .i64 p, .int .i64 q]]) ∧ CountIs w' c sheets ts n ∧ sheets.map intsB = ss ∧ ts.map intsB = T ∧ (∀ r ∈ ts, r.size ≤ 12) ∧ Grow w w'
/-- A lead's two cells. -/
def LeadCell (W1 : Nat) (V : World) : Prop := (∃ x, V.cell? ⟨W1, 0, none⟩ = some (.int .i64 x)) ∧ (∃ y, V.cell? ⟨W1, 1, none⟩ = some (.int .i64 y)) ∧ ∀ o, V.frozen? ⟨W1, o, none⟩ = false
theorem LeadCell.grow {W1 : Nat} {V V2 : World} (h : LeadCell W1 V) (hg : Grow V V2) : LeadCell W1 V2 := by
  obtain ⟨⟨x, h1⟩, ⟨y, h2⟩, h3⟩ := h
  exact ⟨⟨x, hg.keeps h1⟩, ⟨y, hg.keeps h2⟩, fun o => (hg.marks _ _ (lt_of_cell h1)).trans (h3 o)⟩
def LeadAt (W1 : Nat) (p q : Int) (V : World) : Prop := V.cell? ⟨W1, 0, none⟩ = some (.int .i64 p) ∧ V.cell? ⟨W1, 1, none⟩ = some (.int .i64 q)
theorem LeadAt.stored {W1 : Nat} {V : World} {p q x y : Int} (h1 : V.cell? ⟨W1, 0, none⟩ = some (.int .i64 x)) (h2 : V.cell? ⟨W1, 1, none⟩ = some (.int .i64 y)) : LeadAt W1 p q ((V.setCell ⟨W1, 0, none⟩ (.int .i64 p)).setCell ⟨W1, 1, none⟩ (.int .i64 q)) := by
  obtain ⟨z0, z1, _, _⟩ := cells2 (x := .int .i64 p) (y := .int .i64 q) h1 h2
  exact ⟨z0, z1⟩
theorem LeadCell.store {W1 : Nat} {V : World} {p q : Int} (h : LeadCell W1 V) : LeadCell W1 ((V.setCell ⟨W1, 0, none⟩ (.int .i64 p)).setCell ⟨W1, 1, none⟩ (.int .i64 q)) := by
  obtain ⟨⟨x, h1⟩, ⟨y, h2⟩, h3⟩ := h
  obtain ⟨z0, z1, z2, _⟩ := cells2 (x := .int .i64 p) (y := .int .i64 q) h1 h2
  exact ⟨⟨p, z0⟩, ⟨q, z1⟩, fun o => (z2 _).trans (h3 o)⟩
theorem cell_put {V : World} {g k b o : Nat} {x y z : Value} (hg : V.cell? ⟨g, k, none⟩ = some y) (h : V.cell? ⟨b, o, none⟩ = some x) (hne : x ≠ y ∨ o ≠ k) : (V.setCell ⟨g, k, none⟩ z).cell? ⟨b, o, none⟩ = some x := by
  rw [World.cell?_setCell_other _ _ _ _ (by intro e; injection e with e1 e2; subst e1; subst e2; rw [hg] at h; cases h; rcases hne with hne | hne <;> exact hne rfl)]
  exact h
theorem RowAt.put {V : World} {a : Option Addr} {rs : List ByteArray} {g k : Nat} {y : Int} {z : Value} (h : RowAt V a (rs.map Value.string)) (hg : V.cell? ⟨g, k, none⟩ = some (.int .i64 y)) : RowAt (V.setCell ⟨g, k, none⟩ z) a (rs.map Value.string) := fun i x hx => by
  obtain ⟨b, o, ha, hc⟩ := h i x hx
  refine ⟨b, o, ha, cell_put hg hc (.inl fun e => ?_)⟩
  subst e
  obtain ⟨r, _, hr⟩ := List.mem_map.1 (List.mem_of_getElem? hx)
  cases hr
theorem IsRaces.put {V : World} {v : Value} {rs : List ByteArray} {g k : Nat} {y : Int} {z : Value} (h : IsRaces V v rs) (hg : V.cell? ⟨g, k, none⟩ = some (.int .i64 y)) : IsRaces (V.setCell ⟨g, k, none⟩ z) v rs := by
  obtain ⟨a, cap, h1, h2, h3, h4, h5⟩ := h
  exact ⟨a, cap, h1, h2, h3, h4, h5.put hg⟩
theorem FullAt.put {V : World} {ss T : List (List Int)} {v : Value} {g k : Nat} {y : Int} {z : Value} (h : FullAt V ss T v) (hk : 2 ≠ k) (hg : V.cell? ⟨g, k, none⟩ = some (.int .i64 y)) : FullAt (V.setCell ⟨g, k, none⟩ z) ss T v := by
  obtain ⟨c, sheets, ts, n, h1, ⟨v1, v2, k1, k2, k3, k4, k5⟩, h3⟩ := h
  exact ⟨c, sheets, ts, n, h1, ⟨v1, v2, cell_put hg k1 (.inl (by obtain ⟨_, _, rfl, _⟩ := k2; simp)), k2.put hg, cell_put hg k3 (.inl (by obtain ⟨_, _, rfl, _⟩ := k4; simp)), k4.put hg, cell_put hg k5 (.inr hk)⟩, h3⟩
theorem FullAt.put2 {V : World} {ss T : List (List Int)} {v : Value} {g : Nat} {x y p q : Int} (h : FullAt V ss T v) (h0 : V.cell? ⟨g, 0, none⟩ = some (.int .i64 x)) (h1 : V.cell? ⟨g, 1, none⟩ = some (.int .i64 y)) : FullAt ((V.setCell ⟨g, 0, none⟩ (.int .i64 p)).setCell ⟨g, 1, none⟩ (.int .i64 q)) ss T v :=
  (h.put (by decide) h0).put (by decide) (cell_put h0 h1 (.inr (by decide)))
def OpInvO (w : World) (W0 W1 : Nat) (P p q : Int) (a : Option Addr) (n cap : Nat) (ss T : List (List Int)) (L : Array Bool) (A : Act) (V : World) : Prop :=
  ∃ v6 v8 v9 v10 v11 v12 v13 v14 v15 v16 v17 v18 v19 v20 v21 v22 v23 v24 v25 v26, A = { tmps := #[.agg #[.int .i64 P, .slice a n cap], .int .i64 p, .int .i64 q, .pointer (some ⟨W0, 0, none⟩), undef, undef, v6, .pointer (some ⟨W1, 0, none⟩), v8, v9, v10, v11, v12, v13, v14, v15, v16, v17, v18, v19, v20, v21, v22, v23, v24, v25, v26], defers := [] } ∧ (Grow w V) ∧ (V.cell? ⟨W0, 0, none⟩ = some (.int .i64 P) ∧ V.cell? ⟨W0, 1, none⟩ = some (.slice a n cap)) ∧ (LeadCell W1 V) ∧ (Over L 0 → (v8 = .agg #[.int .i64 P, .slice a n cap])) ∧ (Over L 1 → (v9 = .agg #[.int .i64 P, .slice a n cap])) ∧ (Over L 2 → (v10 = .int .i64 p)) ∧ (Over L 3 → (v11 = .bool true)) ∧ (Over L 4 → (v12 = .bool true)) ∧ (Over L 5 → (v13 = .agg #[.int .i64 P, .slice a n cap])) ∧ (Over L 6 → (v14 = .int .i64 q)) ∧ (Over L 7 → (v15 = .bool true)) ∧ (Over L 8 → (v16 = .bool true)) ∧ (Over L 9 → (v17 = .bool true)) ∧ (Over L 10 → (v18 = .int .i64 p)) ∧ (Over L 11 → (v19 = .int .i64 q)) ∧ (Over L 12 → (v20 = .bool (p != q))) ∧ (Over L 13 → (v21 = .bool (p != q))) ∧ (Over L 14 → (FullAt V ss T v22)) ∧ (Over L 15 → (FullAt V ss T v23)) ∧ (Over L 16 → (v24 = .int .i64 p)) ∧ (Over L 17 → (v25 = .int .i64 q)) ∧ (Over L 18 → (v26 = .agg #[.int .i64 p, .int .i64 q])) ∧ (Over L 19 → (FullAt V ss T v6)) ∧ (Over L 20 → (∀ j, j < 20 → Over L j) ∧ (LeadAt W1 p q V))
set_option maxRecDepth 100000 in
set_option maxHeartbeats 1000000 in
theorem popened_ok (P p q k : Int) (v : Value) (ss : List (List Int)) (w : World) (hv : IsSheets w v ss) (hr : ∀ n V, Grow w V → Calls Try.prog 62 #[.agg #[.int .i64 P, v], .int .i64 n] V fun e w' => e = .returned (.bool (inB n 0 k)) ∧ Grow V w') (h1 : inB p 0 k = true) (h2 : inB q 0 k = true) (hc : codeO P ss (p != q) = 0) (h0 : (truthsR P.toNat ss).1 ≠ []) :
    Calls Try.prog 67 #[.agg #[.int .i64 P, v], .int .i64 p, .int .i64 q] w (OpenedOk w ss (truthsR P.toNat ss).1 p q) := by
  obtain ⟨a, cap, rfl, hcap, hlen, hrow⟩ := id hv
  have Hv := Lib.hid hv
  have HR := Lib.hid hr
  have H1 := Lib.hid h1
  have H2 := Lib.hid h2
  have Hc := Lib.hid hc
  have H0 := Lib.hid h0
  clear hv hr h1 h2 hc h0
  go_enter Try.func67, Try.ntmps67
  go_wp2_with fail
  obtain ⟨W, hW⟩ : ∃ W, W = ((w.alloc (.cells #[.int .i64 P, .slice a ss.length cap] 24)).alloc (.cells #[.int .i64 0, .int .i64 0] 92)) := ⟨_, rfl⟩
  have hgW : Grow w W := by rw [hW]; exact (((Grow.refl w).alloc _).alloc _)
  have hW00 : W.cell? ⟨w.heap.size, 0, none⟩ = some (.int .i64 P) := by rw [hW]; exact Grow.keepA (cell_new (by simp) rfl) _
  have hW01 : W.cell? ⟨w.heap.size, 1, none⟩ = some (.slice a ss.length cap) := by rw [hW]; exact Grow.keepA (cell_new (by simp) rfl) _
  have hWf0 : ∀ o, W.frozen? ⟨w.heap.size, o, none⟩ = false := by intro o; rw [hW]; exact (((Grow.refl _).alloc _).marks _ _ (by simp <;> omega)).trans (hot_new (by simp))
  have hWl0 : w.heap.size < W.heap.size := by rw [hW]; simp; try omega
  have hW10 : W.cell? ⟨w.heap.size + 1, 0, none⟩ = some (.int .i64 0) := by rw [hW]; exact cell_new (by simp) rfl
  have hW11 : W.cell? ⟨w.heap.size + 1, 1, none⟩ = some (.int .i64 0) := by rw [hW]; exact cell_new (by simp) rfl
  have hWf1 : ∀ o, W.frozen? ⟨w.heap.size + 1, o, none⟩ = false := by intro o; rw [hW]; exact hot_new (by simp)
  have hWl1 : w.heap.size + 1 < W.heap.size := by rw [hW]; simp; try omega
  rw [← hW]
  clear hW
  have hWd : ∀ n, (W.drewN n).heap.size = W.heap.size := fun _ => rfl
  have hWq : ∀ n o b j, b < W.heap.size → ((W.drewN n).alloc o).cell? ⟨b, j, none⟩ = W.cell? ⟨b, j, none⟩ := cell_drewN_alloc W
  have hWr : ∀ n o b j, b < W.heap.size → ((W.drewN n).alloc o).frozen? ⟨b, j, none⟩ = W.frozen? ⟨b, j, none⟩ := hot_drewN_alloc W
  have hWb0 : w.heap.size ≤ w.heap.size := by omega
  have hWb1 : w.heap.size ≤ w.heap.size + 1 := by omega
  have hWn01 : w.heap.size ≠ w.heap.size + 1 := by omega
  have hWn10 : w.heap.size + 1 ≠ w.heap.size := by omega
  obtain ⟨W1, hWe1⟩ : ∃ g, w.heap.size + 1 = g := ⟨_, rfl⟩
  rw [hWe1] at hW10 hW11 hWf1 hWl1 hWb1 hWn10 hWn01
  (try rw [hWe1])
  have hWk1 := Lib.hid hWe1
  clear hWe1
  obtain ⟨W0, hWe0⟩ : ∃ g, w.heap.size = g := ⟨_, rfl⟩
  have hWb0 : w.heap.size ≤ W0 := by omega
  rw [hWe0] at hW00 hW01 hWf0 hWl0 hWn01 hWn10
  (try rw [hWe0])
  have hWk0 := Lib.hid hWe0
  clear hWe0
  refine wp_region_inv (by kernel_rfl) (OpInvO w W0 W1 P p q a ss.length cap ss (truthsR P.toNat ss).1) (by kernel_rfl) ?_ ?_ ?_
  · exact fun L hL => ⟨.pointer none, _, _, _, _, _, _, _, _, _, _, _, _, _, _, _, _, _, _, _, rfl, hgW.drew, ⟨(Grow.refl W).drew.keeps hW00, (Grow.refl W).drew.keeps hW01⟩, ⟨⟨_, (Grow.refl W).drew.keeps hW10⟩, ⟨_, (Grow.refl W).drew.keeps hW11⟩, fun o => ((Grow.refl W).drew.marks _ _ hWl1).trans (hWf1 o)⟩, fun h => absurd h (hL _), fun h => absurd h (hL _), fun h => absurd h (hL _), fun h => absurd h (hL _), fun h => absurd h (hL _), fun h => absurd h (hL _), fun h => absurd h (hL _), fun h => absurd h (hL _), fun h => absurd h (hL _), fun h => absurd h (hL _), fun h => absurd h (hL _), fun h => absurd h (hL _), fun h => absurd h (hL _), fun h => absurd h (hL _), fun h => absurd h (hL _), fun h => absurd h (hL _), fun h => absurd h (hL _), fun h => absurd h (hL _), fun h => absurd h (hL _), fun h => absurd h (hL _), fun h => absurd h (hL _)⟩
  · rintro L A V ⟨v6, v8, v9, v10, v11, v12, v13, v14, v15, v16, v17, v18, v19, v20, v21, v22, v23, v24, v25, v26, rfl, hg, hB, hC, h0, h1, h2, h3, h4, h5, h6, h7, h8, h9, h10, h11, h12, h13, h14, h15, h16, h17, h18, h19, h20⟩ hall
    have f0 := h0 (hall 0 (by simp))
    have f1 := h1 (hall 1 (by simp))
    have f2 := h2 (hall 2 (by simp))
    have f3 := h3 (hall 3 (by simp))
    have f4 := h4 (hall 4 (by simp))
    have f5 := h5 (hall 5 (by simp))
    have f6 := h6 (hall 6 (by simp))
    have f7 := h7 (hall 7 (by simp))
    have f8 := h8 (hall 8 (by simp))
    have f9 := h9 (hall 9 (by simp))
    have f10 := h10 (hall 10 (by simp))
    have f11 := h11 (hall 11 (by simp))
    have f12 := h12 (hall 12 (by simp))
    have f13 := h13 (hall 13 (by simp))
    have f14 := h14 (hall 14 (by simp))
    have f15 := h15 (hall 15 (by simp))
    have f16 := h16 (hall 16 (by simp))
    have f17 := h17 (hall 17 (by simp))
    have f18 := h18 (hall 18 (by simp))
    have f19 := h19 (hall 19 (by simp))
    have f20 := (h20 (hall 20 (by simp))).2
    clear hall h0 h1 h2 h3 h4 h5 h6 h7 h8 h9 h10 h11 h12 h13 h14 h15 h16 h17 h18 h19 h20
    obtain ⟨c, sheets, ts, m, rfl, hcs, hsh, hts, hz12⟩ := f19
    obtain ⟨z0, z1⟩ := f20
    clear f0 f1 f2 f3 f4 f5 f6 f7 f8 f9 f10 f11 f12 f13 f14 f15 f16 f17 f18
    have Hcs := Lib.hid hcs
    have Hsh := Lib.hid hsh
    have Hts := Lib.hid hts
    clear hcs hsh hts
    go_wp2
    exact bodyPost_ret (v := .tuple #[.pointer (some ⟨c, 0, none⟩), .agg #[.int .i64 p, .int .i64 q]]) (by simp [results, Try.results67, go_sem, z0, z1]) rfl ⟨c, sheets, ts, m, rfl, Hcs.out, Hsh.out, Hts.out, hz12, hg⟩
  · rintro i o L A V ho hi ⟨v6, v8, v9, v10, v11, v12, v13, v14, v15, v16, v17, v18, v19, v20, v21, v22, v23, v24, v25, v26, rfl, hg, hB, hC, h0, h1, h2, h3, h4, h5, h6, h7, h8, h9, h10, h11, h12, h13, h14, h15, h16, h17, h18, h19, h20⟩ hno hd
    have hio := (Array.getElem?_eq_some_iff.1 ho).1
    simp only [List.size_toArray, List.length_cons, List.length_nil, Nat.reduceAdd] at hio
    obtain rfl | rfl | rfl | rfl | rfl | rfl | rfl | rfl | rfl | rfl | rfl | rfl | rfl | rfl | rfl | rfl | rfl | rfl | rfl | rfl | rfl : i = 0 ∨ i = 1 ∨ i = 2 ∨ i = 3 ∨ i = 4 ∨ i = 5 ∨ i = 6 ∨ i = 7 ∨ i = 8 ∨ i = 9 ∨ i = 10 ∨ i = 11 ∨ i = 12 ∨ i = 13 ∨ i = 14 ∨ i = 15 ∨ i = 16 ∨ i = 17 ∨ i = 18 ∨ i = 19 ∨ i = 20 := by omega
    · cases ho
      have c0 := hB.1
      have c1 := hB.2
      go_simp
      exact ⟨_, _, _, _, _, _, _, _, _, _, _, _, _, _, _, _, _, _, _, _, rfl, hg, hB, hC, fun _ => rfl, fun h => h1 (over_ne h (by decide)), fun h => h2 (over_ne h (by decide)), fun h => h3 (over_ne h (by decide)), fun h => h4 (over_ne h (by decide)), fun h => h5 (over_ne h (by decide)), fun h => h6 (over_ne h (by decide)), fun h => h7 (over_ne h (by decide)), fun h => h8 (over_ne h (by decide)), fun h => h9 (over_ne h (by decide)), fun h => h10 (over_ne h (by decide)), fun h => h11 (over_ne h (by decide)), fun h => h12 (over_ne h (by decide)), fun h => h13 (over_ne h (by decide)), fun h => h14 (over_ne h (by decide)), fun h => h15 (over_ne h (by decide)), fun h => h16 (over_ne h (by decide)), fun h => h17 (over_ne h (by decide)), fun h => h18 (over_ne h (by decide)), fun h => h19 (over_ne h (by decide)), fun h => absurd ((h20 (over_ne h (by decide))).1 0 (by decide)) hno⟩
    · cases ho
      have c0 := hB.1
      have c1 := hB.2
      go_simp
      exact ⟨_, _, _, _, _, _, _, _, _, _, _, _, _, _, _, _, _, _, _, _, rfl, hg, hB, hC, fun h => h0 (over_ne h (by decide)), fun _ => rfl, fun h => h2 (over_ne h (by decide)), fun h => h3 (over_ne h (by decide)), fun h => h4 (over_ne h (by decide)), fun h => h5 (over_ne h (by decide)), fun h => h6 (over_ne h (by decide)), fun h => h7 (over_ne h (by decide)), fun h => h8 (over_ne h (by decide)), fun h => h9 (over_ne h (by decide)), fun h => h10 (over_ne h (by decide)), fun h => h11 (over_ne h (by decide)), fun h => h12 (over_ne h (by decide)), fun h => h13 (over_ne h (by decide)), fun h => h14 (over_ne h (by decide)), fun h => h15 (over_ne h (by decide)), fun h => h16 (over_ne h (by decide)), fun h => h17 (over_ne h (by decide)), fun h => h18 (over_ne h (by decide)), fun h => h19 (over_ne h (by decide)), fun h => absurd ((h20 (over_ne h (by decide))).1 1 (by decide)) hno⟩
    · cases ho
      go_simp
      exact ⟨_, _, _, _, _, _, _, _, _, _, _, _, _, _, _, _, _, _, _, _, rfl, hg, hB, hC, fun h => h0 (over_ne h (by decide)), fun h => h1 (over_ne h (by decide)), fun _ => rfl, fun h => h3 (over_ne h (by decide)), fun h => h4 (over_ne h (by decide)), fun h => h5 (over_ne h (by decide)), fun h => h6 (over_ne h (by decide)), fun h => h7 (over_ne h (by decide)), fun h => h8 (over_ne h (by decide)), fun h => h9 (over_ne h (by decide)), fun h => h10 (over_ne h (by decide)), fun h => h11 (over_ne h (by decide)), fun h => h12 (over_ne h (by decide)), fun h => h13 (over_ne h (by decide)), fun h => h14 (over_ne h (by decide)), fun h => h15 (over_ne h (by decide)), fun h => h16 (over_ne h (by decide)), fun h => h17 (over_ne h (by decide)), fun h => h18 (over_ne h (by decide)), fun h => h19 (over_ne h (by decide)), fun h => absurd ((h20 (over_ne h (by decide))).1 2 (by decide)) hno⟩
    · cases ho
      have d1 := h1 (hd { on := 1, ground := .data } (by simp) rfl)
      have d2 := h2 (hd { on := 2, ground := .data } (by simp) rfl)
      subst d1 d2
      go_simp
      go_at_call 62
      refine (HR.out _ _ hg).mono ?_
      rw [H1.out]
      rintro e V2 ⟨rfl, hgV⟩
      go_simp
      exact ⟨_, _, _, _, _, _, _, _, _, _, _, _, _, _, _, _, _, _, _, _, rfl, (fun h => h.trans hgV) hg, (fun h => ⟨hgV.keeps h.1, hgV.keeps h.2⟩) hB, (fun h => h.grow hgV) hC, fun h => h0 (over_ne h (by decide)), fun h => h1 (over_ne h (by decide)), fun h => h2 (over_ne h (by decide)), fun _ => rfl, fun h => h4 (over_ne h (by decide)), fun h => h5 (over_ne h (by decide)), fun h => h6 (over_ne h (by decide)), fun h => h7 (over_ne h (by decide)), fun h => h8 (over_ne h (by decide)), fun h => h9 (over_ne h (by decide)), fun h => h10 (over_ne h (by decide)), fun h => h11 (over_ne h (by decide)), fun h => h12 (over_ne h (by decide)), fun h => h13 (over_ne h (by decide)), fun h => (fun h => h.grow hgV) (h14 (over_ne h (by decide))), fun h => (fun h => h.grow hgV) (h15 (over_ne h (by decide))), fun h => h16 (over_ne h (by decide)), fun h => h17 (over_ne h (by decide)), fun h => h18 (over_ne h (by decide)), fun h => (fun h => h.grow hgV) (h19 (over_ne h (by decide))), fun h => absurd ((h20 (over_ne h (by decide))).1 3 (by decide)) hno⟩
    · cases ho
      have d3 := h3 (hd { on := 3, ground := .data } (by simp) rfl)
      subst d3
      go_simp
      exact ⟨_, _, _, _, _, _, _, _, _, _, _, _, _, _, _, _, _, _, _, _, rfl, hg, hB, hC, fun h => h0 (over_ne h (by decide)), fun h => h1 (over_ne h (by decide)), fun h => h2 (over_ne h (by decide)), fun h => h3 (over_ne h (by decide)), fun _ => rfl, fun h => h5 (over_ne h (by decide)), fun h => h6 (over_ne h (by decide)), fun h => h7 (over_ne h (by decide)), fun h => h8 (over_ne h (by decide)), fun h => h9 (over_ne h (by decide)), fun h => h10 (over_ne h (by decide)), fun h => h11 (over_ne h (by decide)), fun h => h12 (over_ne h (by decide)), fun h => h13 (over_ne h (by decide)), fun h => h14 (over_ne h (by decide)), fun h => h15 (over_ne h (by decide)), fun h => h16 (over_ne h (by decide)), fun h => h17 (over_ne h (by decide)), fun h => h18 (over_ne h (by decide)), fun h => h19 (over_ne h (by decide)), fun h => absurd ((h20 (over_ne h (by decide))).1 4 (by decide)) hno⟩
    · cases ho
      have d4 := h4 (hd { on := 4, ground := .guard } (by simp) rfl)
      have c0 := hB.1
      have c1 := hB.2
      subst d4
      go_simp
      exact ⟨_, _, _, _, _, _, _, _, _, _, _, _, _, _, _, _, _, _, _, _, rfl, hg, hB, hC, fun h => h0 (over_ne h (by decide)), fun h => h1 (over_ne h (by decide)), fun h => h2 (over_ne h (by decide)), fun h => h3 (over_ne h (by decide)), fun h => h4 (over_ne h (by decide)), fun _ => rfl, fun h => h6 (over_ne h (by decide)), fun h => h7 (over_ne h (by decide)), fun h => h8 (over_ne h (by decide)), fun h => h9 (over_ne h (by decide)), fun h => h10 (over_ne h (by decide)), fun h => h11 (over_ne h (by decide)), fun h => h12 (over_ne h (by decide)), fun h => h13 (over_ne h (by decide)), fun h => h14 (over_ne h (by decide)), fun h => h15 (over_ne h (by decide)), fun h => h16 (over_ne h (by decide)), fun h => h17 (over_ne h (by decide)), fun h => h18 (over_ne h (by decide)), fun h => h19 (over_ne h (by decide)), fun h => absurd ((h20 (over_ne h (by decide))).1 5 (by decide)) hno⟩
    · cases ho
      have d4 := h4 (hd { on := 4, ground := .guard } (by simp) rfl)
      subst d4
      go_simp
      exact ⟨_, _, _, _, _, _, _, _, _, _, _, _, _, _, _, _, _, _, _, _, rfl, hg, hB, hC, fun h => h0 (over_ne h (by decide)), fun h => h1 (over_ne h (by decide)), fun h => h2 (over_ne h (by decide)), fun h => h3 (over_ne h (by decide)), fun h => h4 (over_ne h (by decide)), fun h => h5 (over_ne h (by decide)), fun _ => rfl, fun h => h7 (over_ne h (by decide)), fun h => h8 (over_ne h (by decide)), fun h => h9 (over_ne h (by decide)), fun h => h10 (over_ne h (by decide)), fun h => h11 (over_ne h (by decide)), fun h => h12 (over_ne h (by decide)), fun h => h13 (over_ne h (by decide)), fun h => h14 (over_ne h (by decide)), fun h => h15 (over_ne h (by decide)), fun h => h16 (over_ne h (by decide)), fun h => h17 (over_ne h (by decide)), fun h => h18 (over_ne h (by decide)), fun h => h19 (over_ne h (by decide)), fun h => absurd ((h20 (over_ne h (by decide))).1 6 (by decide)) hno⟩
    · cases ho
      have d4 := h4 (hd { on := 4, ground := .guard } (by simp) rfl)
      have d5 := h5 (hd { on := 5, ground := .data } (by simp) rfl)
      have d6 := h6 (hd { on := 6, ground := .data } (by simp) rfl)
      subst d4 d5 d6
      go_simp
      go_at_call 62
      refine (HR.out _ _ hg).mono ?_
      rw [H2.out]
      rintro e V2 ⟨rfl, hgV⟩
      go_simp
      exact ⟨_, _, _, _, _, _, _, _, _, _, _, _, _, _, _, _, _, _, _, _, rfl, (fun h => h.trans hgV) hg, (fun h => ⟨hgV.keeps h.1, hgV.keeps h.2⟩) hB, (fun h => h.grow hgV) hC, fun h => h0 (over_ne h (by decide)), fun h => h1 (over_ne h (by decide)), fun h => h2 (over_ne h (by decide)), fun h => h3 (over_ne h (by decide)), fun h => h4 (over_ne h (by decide)), fun h => h5 (over_ne h (by decide)), fun h => h6 (over_ne h (by decide)), fun _ => rfl, fun h => h8 (over_ne h (by decide)), fun h => h9 (over_ne h (by decide)), fun h => h10 (over_ne h (by decide)), fun h => h11 (over_ne h (by decide)), fun h => h12 (over_ne h (by decide)), fun h => h13 (over_ne h (by decide)), fun h => (fun h => h.grow hgV) (h14 (over_ne h (by decide))), fun h => (fun h => h.grow hgV) (h15 (over_ne h (by decide))), fun h => h16 (over_ne h (by decide)), fun h => h17 (over_ne h (by decide)), fun h => h18 (over_ne h (by decide)), fun h => (fun h => h.grow hgV) (h19 (over_ne h (by decide))), fun h => absurd ((h20 (over_ne h (by decide))).1 7 (by decide)) hno⟩
    · cases ho
      have d4 := h4 (hd { on := 4, ground := .data } (by simp) rfl)
      have d7 := h7 (hd { on := 7, ground := .data } (by simp) rfl)
      subst d4 d7
      go_simp
      exact ⟨_, _, _, _, _, _, _, _, _, _, _, _, _, _, _, _, _, _, _, _, rfl, hg, hB, hC, fun h => h0 (over_ne h (by decide)), fun h => h1 (over_ne h (by decide)), fun h => h2 (over_ne h (by decide)), fun h => h3 (over_ne h (by decide)), fun h => h4 (over_ne h (by decide)), fun h => h5 (over_ne h (by decide)), fun h => h6 (over_ne h (by decide)), fun h => h7 (over_ne h (by decide)), fun _ => rfl, fun h => h9 (over_ne h (by decide)), fun h => h10 (over_ne h (by decide)), fun h => h11 (over_ne h (by decide)), fun h => h12 (over_ne h (by decide)), fun h => h13 (over_ne h (by decide)), fun h => h14 (over_ne h (by decide)), fun h => h15 (over_ne h (by decide)), fun h => h16 (over_ne h (by decide)), fun h => h17 (over_ne h (by decide)), fun h => h18 (over_ne h (by decide)), fun h => h19 (over_ne h (by decide)), fun h => absurd ((h20 (over_ne h (by decide))).1 8 (by decide)) hno⟩
    · cases ho
      have d8 := h8 (hd { on := 8, ground := .data } (by simp) rfl)
      subst d8
      go_simp
      exact ⟨_, _, _, _, _, _, _, _, _, _, _, _, _, _, _, _, _, _, _, _, rfl, hg, hB, hC, fun h => h0 (over_ne h (by decide)), fun h => h1 (over_ne h (by decide)), fun h => h2 (over_ne h (by decide)), fun h => h3 (over_ne h (by decide)), fun h => h4 (over_ne h (by decide)), fun h => h5 (over_ne h (by decide)), fun h => h6 (over_ne h (by decide)), fun h => h7 (over_ne h (by decide)), fun h => h8 (over_ne h (by decide)), fun _ => rfl, fun h => h10 (over_ne h (by decide)), fun h => h11 (over_ne h (by decide)), fun h => h12 (over_ne h (by decide)), fun h => h13 (over_ne h (by decide)), fun h => h14 (over_ne h (by decide)), fun h => h15 (over_ne h (by decide)), fun h => h16 (over_ne h (by decide)), fun h => h17 (over_ne h (by decide)), fun h => h18 (over_ne h (by decide)), fun h => h19 (over_ne h (by decide)), fun h => absurd ((h20 (over_ne h (by decide))).1 9 (by decide)) hno⟩
    · cases ho
      have d9 := h9 (hd { on := 9, ground := .guard } (by simp) rfl)
      subst d9
      go_simp
      exact ⟨_, _, _, _, _, _, _, _, _, _, _, _, _, _, _, _, _, _, _, _, rfl, hg, hB, hC, fun h => h0 (over_ne h (by decide)), fun h => h1 (over_ne h (by decide)), fun h => h2 (over_ne h (by decide)), fun h => h3 (over_ne h (by decide)), fun h => h4 (over_ne h (by decide)), fun h => h5 (over_ne h (by decide)), fun h => h6 (over_ne h (by decide)), fun h => h7 (over_ne h (by decide)), fun h => h8 (over_ne h (by decide)), fun h => h9 (over_ne h (by decide)), fun _ => rfl, fun h => h11 (over_ne h (by decide)), fun h => h12 (over_ne h (by decide)), fun h => h13 (over_ne h (by decide)), fun h => h14 (over_ne h (by decide)), fun h => h15 (over_ne h (by decide)), fun h => h16 (over_ne h (by decide)), fun h => h17 (over_ne h (by decide)), fun h => h18 (over_ne h (by decide)), fun h => h19 (over_ne h (by decide)), fun h => absurd ((h20 (over_ne h (by decide))).1 10 (by decide)) hno⟩
    · cases ho
      have d9 := h9 (hd { on := 9, ground := .guard } (by simp) rfl)
      subst d9
      go_simp
      exact ⟨_, _, _, _, _, _, _, _, _, _, _, _, _, _, _, _, _, _, _, _, rfl, hg, hB, hC, fun h => h0 (over_ne h (by decide)), fun h => h1 (over_ne h (by decide)), fun h => h2 (over_ne h (by decide)), fun h => h3 (over_ne h (by decide)), fun h => h4 (over_ne h (by decide)), fun h => h5 (over_ne h (by decide)), fun h => h6 (over_ne h (by decide)), fun h => h7 (over_ne h (by decide)), fun h => h8 (over_ne h (by decide)), fun h => h9 (over_ne h (by decide)), fun h => h10 (over_ne h (by decide)), fun _ => rfl, fun h => h12 (over_ne h (by decide)), fun h => h13 (over_ne h (by decide)), fun h => h14 (over_ne h (by decide)), fun h => h15 (over_ne h (by decide)), fun h => h16 (over_ne h (by decide)), fun h => h17 (over_ne h (by decide)), fun h => h18 (over_ne h (by decide)), fun h => h19 (over_ne h (by decide)), fun h => absurd ((h20 (over_ne h (by decide))).1 11 (by decide)) hno⟩
    · cases ho
      have d9 := h9 (hd { on := 9, ground := .guard } (by simp) rfl)
      have d10 := h10 (hd { on := 10, ground := .data } (by simp) rfl)
      have d11 := h11 (hd { on := 11, ground := .data } (by simp) rfl)
      subst d9 d10 d11
      go_simp
      exact ⟨_, _, _, _, _, _, _, _, _, _, _, _, _, _, _, _, _, _, _, _, rfl, hg, hB, hC, fun h => h0 (over_ne h (by decide)), fun h => h1 (over_ne h (by decide)), fun h => h2 (over_ne h (by decide)), fun h => h3 (over_ne h (by decide)), fun h => h4 (over_ne h (by decide)), fun h => h5 (over_ne h (by decide)), fun h => h6 (over_ne h (by decide)), fun h => h7 (over_ne h (by decide)), fun h => h8 (over_ne h (by decide)), fun h => h9 (over_ne h (by decide)), fun h => h10 (over_ne h (by decide)), fun h => h11 (over_ne h (by decide)), fun _ => rfl, fun h => h13 (over_ne h (by decide)), fun h => h14 (over_ne h (by decide)), fun h => h15 (over_ne h (by decide)), fun h => h16 (over_ne h (by decide)), fun h => h17 (over_ne h (by decide)), fun h => h18 (over_ne h (by decide)), fun h => h19 (over_ne h (by decide)), fun h => absurd ((h20 (over_ne h (by decide))).1 12 (by decide)) hno⟩
    · cases ho
      have d9 := h9 (hd { on := 9, ground := .data } (by simp) rfl)
      have d12 := h12 (hd { on := 12, ground := .data } (by simp) rfl)
      subst d9 d12
      go_simp
      exact ⟨_, _, _, _, _, _, _, _, _, _, _, _, _, _, _, _, _, _, _, _, rfl, hg, hB, hC, fun h => h0 (over_ne h (by decide)), fun h => h1 (over_ne h (by decide)), fun h => h2 (over_ne h (by decide)), fun h => h3 (over_ne h (by decide)), fun h => h4 (over_ne h (by decide)), fun h => h5 (over_ne h (by decide)), fun h => h6 (over_ne h (by decide)), fun h => h7 (over_ne h (by decide)), fun h => h8 (over_ne h (by decide)), fun h => h9 (over_ne h (by decide)), fun h => h10 (over_ne h (by decide)), fun h => h11 (over_ne h (by decide)), fun h => h12 (over_ne h (by decide)), fun _ => rfl, fun h => h14 (over_ne h (by decide)), fun h => h15 (over_ne h (by decide)), fun h => h16 (over_ne h (by decide)), fun h => h17 (over_ne h (by decide)), fun h => h18 (over_ne h (by decide)), fun h => h19 (over_ne h (by decide)), fun h => absurd ((h20 (over_ne h (by decide))).1 13 (by decide)) hno⟩
    · cases ho
      have d0 := h0 (hd { on := 0, ground := .data } (by simp) rfl)
      have d13 := h13 (hd { on := 13, ground := .data } (by simp) rfl)
      subst d0 d13
      go_simp
      go_at_call 43
      refine (popen P _ ss _ _ (Hv.out.grow hg)).mono ?_
      rintro e V2 ⟨hgV, _, hok⟩
      obtain ⟨c, sheets, ts, m, rfl, hcs, hwc, hsh, hts, hn, hz12⟩ := hok Hc.out
      go_simp
      exact ⟨_, _, _, _, _, _, _, _, _, _, _, _, _, _, _, _, _, _, _, _, rfl, (fun h => h.trans hgV) hg, (fun h => ⟨hgV.keeps h.1, hgV.keeps h.2⟩) hB, (fun h => h.grow hgV) hC, fun h => h0 (over_ne h (by decide)), fun h => h1 (over_ne h (by decide)), fun h => h2 (over_ne h (by decide)), fun h => h3 (over_ne h (by decide)), fun h => h4 (over_ne h (by decide)), fun h => h5 (over_ne h (by decide)), fun h => h6 (over_ne h (by decide)), fun h => h7 (over_ne h (by decide)), fun h => h8 (over_ne h (by decide)), fun h => h9 (over_ne h (by decide)), fun h => h10 (over_ne h (by decide)), fun h => h11 (over_ne h (by decide)), fun h => h12 (over_ne h (by decide)), fun h => h13 (over_ne h (by decide)), fun _ => ⟨c, sheets, ts, m, rfl, hcs, hsh, hts, hz12⟩, fun h => (fun h => h.grow hgV) (h15 (over_ne h (by decide))), fun h => h16 (over_ne h (by decide)), fun h => h17 (over_ne h (by decide)), fun h => h18 (over_ne h (by decide)), fun h => (fun h => h.grow hgV) (h19 (over_ne h (by decide))), fun h => absurd ((h20 (over_ne h (by decide))).1 14 (by decide)) hno⟩
    · cases ho
      have d14 := h14 (hd { on := 14, ground := .data } (by simp) rfl)
      obtain ⟨c, sheets, ts, m, rfl, hcs, hsh, hts, hz12⟩ := d14
      go_simp
      go_at_call 44
      refine (ptold_yes c sheets ts m _ hcs (fun e => H0.out (by rw [← hts, e]; rfl))).mono ?_
      rintro e w1 ⟨rfl, rfl⟩
      go_simp
      exact ⟨_, _, _, _, _, _, _, _, _, _, _, _, _, _, _, _, _, _, _, _, rfl, hg, hB, hC, fun h => h0 (over_ne h (by decide)), fun h => h1 (over_ne h (by decide)), fun h => h2 (over_ne h (by decide)), fun h => h3 (over_ne h (by decide)), fun h => h4 (over_ne h (by decide)), fun h => h5 (over_ne h (by decide)), fun h => h6 (over_ne h (by decide)), fun h => h7 (over_ne h (by decide)), fun h => h8 (over_ne h (by decide)), fun h => h9 (over_ne h (by decide)), fun h => h10 (over_ne h (by decide)), fun h => h11 (over_ne h (by decide)), fun h => h12 (over_ne h (by decide)), fun h => h13 (over_ne h (by decide)), fun h => h14 (over_ne h (by decide)), fun _ => ⟨c, sheets, ts, m, rfl, hcs, hsh, hts, hz12⟩, fun h => h16 (over_ne h (by decide)), fun h => h17 (over_ne h (by decide)), fun h => h18 (over_ne h (by decide)), fun h => h19 (over_ne h (by decide)), fun h => absurd ((h20 (over_ne h (by decide))).1 15 (by decide)) hno⟩
    · cases ho
      go_simp
      exact ⟨_, _, _, _, _, _, _, _, _, _, _, _, _, _, _, _, _, _, _, _, rfl, hg, hB, hC, fun h => h0 (over_ne h (by decide)), fun h => h1 (over_ne h (by decide)), fun h => h2 (over_ne h (by decide)), fun h => h3 (over_ne h (by decide)), fun h => h4 (over_ne h (by decide)), fun h => h5 (over_ne h (by decide)), fun h => h6 (over_ne h (by decide)), fun h => h7 (over_ne h (by decide)), fun h => h8 (over_ne h (by decide)), fun h => h9 (over_ne h (by decide)), fun h => h10 (over_ne h (by decide)), fun h => h11 (over_ne h (by decide)), fun h => h12 (over_ne h (by decide)), fun h => h13 (over_ne h (by decide)), fun h => h14 (over_ne h (by decide)), fun h => h15 (over_ne h (by decide)), fun _ => rfl, fun h => h17 (over_ne h (by decide)), fun h => h18 (over_ne h (by decide)), fun h => h19 (over_ne h (by decide)), fun h => absurd ((h20 (over_ne h (by decide))).1 16 (by decide)) hno⟩
    · cases ho
      go_simp
      exact ⟨_, _, _, _, _, _, _, _, _, _, _, _, _, _, _, _, _, _, _, _, rfl, hg, hB, hC, fun h => h0 (over_ne h (by decide)), fun h => h1 (over_ne h (by decide)), fun h => h2 (over_ne h (by decide)), fun h => h3 (over_ne h (by decide)), fun h => h4 (over_ne h (by decide)), fun h => h5 (over_ne h (by decide)), fun h => h6 (over_ne h (by decide)), fun h => h7 (over_ne h (by decide)), fun h => h8 (over_ne h (by decide)), fun h => h9 (over_ne h (by decide)), fun h => h10 (over_ne h (by decide)), fun h => h11 (over_ne h (by decide)), fun h => h12 (over_ne h (by decide)), fun h => h13 (over_ne h (by decide)), fun h => h14 (over_ne h (by decide)), fun h => h15 (over_ne h (by decide)), fun h => h16 (over_ne h (by decide)), fun _ => rfl, fun h => h18 (over_ne h (by decide)), fun h => h19 (over_ne h (by decide)), fun h => absurd ((h20 (over_ne h (by decide))).1 17 (by decide)) hno⟩
    · cases ho
      have d16 := h16 (hd { on := 16, ground := .data } (by simp) rfl)
      have d17 := h17 (hd { on := 17, ground := .data } (by simp) rfl)
      subst d16 d17
      go_simp
      exact ⟨_, _, _, _, _, _, _, _, _, _, _, _, _, _, _, _, _, _, _, _, rfl, hg, hB, hC, fun h => h0 (over_ne h (by decide)), fun h => h1 (over_ne h (by decide)), fun h => h2 (over_ne h (by decide)), fun h => h3 (over_ne h (by decide)), fun h => h4 (over_ne h (by decide)), fun h => h5 (over_ne h (by decide)), fun h => h6 (over_ne h (by decide)), fun h => h7 (over_ne h (by decide)), fun h => h8 (over_ne h (by decide)), fun h => h9 (over_ne h (by decide)), fun h => h10 (over_ne h (by decide)), fun h => h11 (over_ne h (by decide)), fun h => h12 (over_ne h (by decide)), fun h => h13 (over_ne h (by decide)), fun h => h14 (over_ne h (by decide)), fun h => h15 (over_ne h (by decide)), fun h => h16 (over_ne h (by decide)), fun h => h17 (over_ne h (by decide)), fun _ => rfl, fun h => h19 (over_ne h (by decide)), fun h => absurd ((h20 (over_ne h (by decide))).1 18 (by decide)) hno⟩
    · cases ho
      have d15 := h15 (hd { on := 15, ground := .data } (by simp) rfl)
      obtain ⟨c, sheets, ts, m, rfl, hcs, hsh, hts, hz12⟩ := d15
      go_simp
      exact ⟨_, _, _, _, _, _, _, _, _, _, _, _, _, _, _, _, _, _, _, _, rfl, hg, hB, hC, fun h => h0 (over_ne h (by decide)), fun h => h1 (over_ne h (by decide)), fun h => h2 (over_ne h (by decide)), fun h => h3 (over_ne h (by decide)), fun h => h4 (over_ne h (by decide)), fun h => h5 (over_ne h (by decide)), fun h => h6 (over_ne h (by decide)), fun h => h7 (over_ne h (by decide)), fun h => h8 (over_ne h (by decide)), fun h => h9 (over_ne h (by decide)), fun h => h10 (over_ne h (by decide)), fun h => h11 (over_ne h (by decide)), fun h => h12 (over_ne h (by decide)), fun h => h13 (over_ne h (by decide)), fun h => h14 (over_ne h (by decide)), fun h => h15 (over_ne h (by decide)), fun h => h16 (over_ne h (by decide)), fun h => h17 (over_ne h (by decide)), fun h => h18 (over_ne h (by decide)), fun _ => ⟨c, sheets, ts, m, rfl, hcs, hsh, hts, hz12⟩, fun h => absurd ((h20 (over_ne h (by decide))).1 19 (by decide)) hno⟩
    · cases ho
      have d18 := h18 (hd { on := 18, ground := .data } (by simp) rfl)
      subst d18
      obtain ⟨x0, e10⟩ := hC.1
      obtain ⟨y0, e11⟩ := hC.2.1
      have e1f := hC.2.2
      have e1l := lt_of_cell e10
      go_simp
      exact ⟨_, _, _, _, _, _, _, _, _, _, _, _, _, _, _, _, _, _, _, _, rfl, (Below.setCell (p := ⟨W1, 1, none⟩) (Below.setCell (p := ⟨W1, 0, none⟩) hg (by omega) _) (by omega) _), ⟨byCell1 (bySet _ W1 1 _) (byCell1 (bySet _ W1 0 _) hB.1 (by intro e; injection e with e; omega)) (by intro e; injection e with e; omega), byCell1 (bySet _ W1 1 _) (byCell1 (bySet _ W1 0 _) hB.2 (by intro e; injection e with e; omega)) (by intro e; injection e with e; omega)⟩, hC.store, fun h => h0 (over_ne h (by decide)), fun h => h1 (over_ne h (by decide)), fun h => h2 (over_ne h (by decide)), fun h => h3 (over_ne h (by decide)), fun h => h4 (over_ne h (by decide)), fun h => h5 (over_ne h (by decide)), fun h => h6 (over_ne h (by decide)), fun h => h7 (over_ne h (by decide)), fun h => h8 (over_ne h (by decide)), fun h => h9 (over_ne h (by decide)), fun h => h10 (over_ne h (by decide)), fun h => h11 (over_ne h (by decide)), fun h => h12 (over_ne h (by decide)), fun h => h13 (over_ne h (by decide)), fun h => (h14 (over_ne h (by decide))).put2 e10 e11, fun h => (h15 (over_ne h (by decide))).put2 e10 e11, fun h => h16 (over_ne h (by decide)), fun h => h17 (over_ne h (by decide)), fun h => h18 (over_ne h (by decide)), fun h => (h19 (over_ne h (by decide))).put2 e10 e11, fun _ => ⟨(by intro j hj; obtain rfl | rfl | rfl | rfl | rfl | rfl | rfl | rfl | rfl | rfl | rfl | rfl | rfl | rfl | rfl | rfl | rfl | rfl | rfl | rfl : j = 0 ∨ j = 1 ∨ j = 2 ∨ j = 3 ∨ j = 4 ∨ j = 5 ∨ j = 6 ∨ j = 7 ∨ j = 8 ∨ j = 9 ∨ j = 10 ∨ j = 11 ∨ j = 12 ∨ j = 13 ∨ j = 14 ∨ j = 15 ∨ j = 16 ∨ j = 17 ∨ j = 18 ∨ j = 19 := (by omega); all_goals exact over_mono (hd { on := _, ground := .phase } (by simp) rfl)), LeadAt.stored e10 e11⟩⟩
def pairsB (P p q : Int) : Bool := inB p 0 (P - 1) && inB q 0 (P - 1) && p != q
theorem popened_any (P p q : Int) (v : Value) (ss : List (List Int)) (w : World) (hP1 : -9223372036854775808 ≤ P) (hP2 : P ≤ 9223372036854775807) (hv : IsSheets w v ss) :
    Calls Try.prog 67 #[.agg #[.int .i64 P, v], .int .i64 p, .int .i64 q] w (OpenedPost w P ss p q (pairsB P p q)) := by
  obtain ⟨k, hk, hc⟩ := pisPair_q P hP1 hP2
  have hcc := fun n V hg => hc v ss n w V hv hg
  have hbad : ∀ ok : Bool, codeO P ss ok ≠ 0 → (ok = pairsB P p q ∨ validB P ss = false) → Calls Try.prog 67 #[.agg #[.int .i64 P, v], .int .i64 p, .int .i64 q] w (fun e w' => e = .panicked (refusal (codeO P ss ok)) ∧ Grow w w') →
      Calls Try.prog 67 #[.agg #[.int .i64 P, v], .int .i64 p, .int .i64 q] w (OpenedPost w P ss p q (pairsB P p q)) := by
    intro ok h hor hcall
    have he : errOf P ss (pairsB P p q) = codeO P ss ok := by
      rcases hor with rfl | hval
      · exact codeO_errOf h
      · rw [codeO_errOf (by rw [codeO_any hval]; decide), codeO_any hval, codeO_any hval]
    exact hcall.mono fun e w' ⟨h1, h2⟩ => ⟨h2, fun _ => by rw [he]; exact h1, fun h0 => absurd (he.symm.trans h0) h⟩
  have hor : ∀ ok : Bool, (-9223372036854775808 < P → ok = pairsB P p q) → ok = pairsB P p q ∨ validB P ss = false := fun ok h => by
    by_cases hlt : -9223372036854775808 < P
    · exact .inl (h hlt)
    · exact .inr (valid_min hlt)
  have hne : ∀ ok : Bool, ok = false → codeO P ss ok ≠ 0 := fun ok h h0 => by have := (codeO_val h0).2; rw [h] at this; cases this
  cases h1 : inB p 0 k with
  | false => exact hbad false (hne _ rfl) (hor _ fun hlt => by obtain rfl := hk hlt; unfold pairsB; rw [h1]; rfl) (popened_badF P p q k v ss w hv hcc h1 (hne _ rfl))
  | true =>
    cases h2 : inB q 0 k with
    | false => exact hbad false (hne _ rfl) (hor _ fun hlt => by obtain rfl := hk hlt; unfold pairsB; rw [h1, h2]; rfl) (popened_badG P p q k v ss w hv hcc h1 h2 (hne _ rfl))
    | true =>
      by_cases hd : codeO P ss (p != q) = 0
      · obtain ⟨g1, g2⟩ := codeO_val hd
        have hp := (valid_sheets g1).2.1
        obtain rfl := hk (by omega)
        have hpe : pairsB P p q = (p != q) := by unfold pairsB; rw [h1, h2]; rfl
        have he := errOf_zero' hd
        rw [hpe]
        by_cases h0 : (truthsR P.toNat ss).1 = []
        · rw [if_pos h0] at he
          exact (popened_clash P p q _ v ss w hv hcc h1 h2 hd h0).mono fun e w' ⟨r1, r2⟩ => ⟨r2, fun _ => by rw [he]; exact r1, fun hz => absurd (he.symm.trans hz) (by decide)⟩
        · rw [if_neg h0] at he
          exact (popened_ok P p q _ v ss w hv hcc h1 h2 hd h0).mono fun e w' ⟨c, sheets, ts, n, r1, r2, r3, r4, r5, r6⟩ => ⟨r6, fun hz => absurd he hz, fun _ => ⟨c, sheets, ts, n, r1, r2, r3, r4, r5⟩⟩
      · exact hbad (p != q) hd (hor _ fun hlt => by obtain rfl := hk hlt; unfold pairsB; rw [h1, h2]; rfl) (popened_badH P p q k v ss w hv hcc h1 h2 hd)
end Go.Proofs.Yteijilbdllpbcaa
