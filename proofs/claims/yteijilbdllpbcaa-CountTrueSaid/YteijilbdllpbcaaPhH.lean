/- The program of layer 1: opened, where it is refused. Conditions: sizes. -/
import Derived.Test.YteijilbdllpbcaaPhG
namespace Go.Proofs.Yteijilbdllpbcaa
open Go.RowKit

def OpInvF (W : World) (W0 W1 : Nat) (P p q : Int) (a : Option Addr) (n cap : Nat) (L : Array Bool) (A : Act) (V : World) : Prop :=
  ∃ v6 v8 v9 v10 v11 v12 v13 v14 v15 v16 v17 v18 v19 v20 v21 v22 v23 v24 v25 v26, A = { tmps := #[.agg #[.int .i64 P, .slice a n cap], .int .i64 p, .int .i64 q, .pointer (some ⟨W0, 0, none⟩), undef, undef, v6, .pointer (some ⟨W1, 0, none⟩), v8, v9, v10, v11, v12, v13, v14, v15, v16, v17, v18, v19, v20, v21, v22, v23, v24, v25, v26], defers := [] } ∧ (Grow W V) ∧ (Over L 0 → (v8 = .agg #[.int .i64 P, .slice a n cap])) ∧ (Over L 1 → (v9 = .agg #[.int .i64 P, .slice a n cap])) ∧ (Over L 2 → (v10 = .int .i64 p)) ∧ (Over L 3 → (v11 = .bool false)) ∧ (Over L 4 → (v12 = .bool false)) ∧ (Over L 8 → (v16 = .bool false)) ∧ (Over L 9 → (v17 = .bool false)) ∧ (Over L 13 → (v21 = .bool false)) ∧ (Over L 16 → (v24 = .int .i64 p)) ∧ (Over L 17 → (v25 = .int .i64 q)) ∧ (Over L 18 → (v26 = .agg #[.int .i64 p, .int .i64 q])) ∧ ¬ Over L 14 ∧ ¬ Over L 15 ∧ ¬ Over L 19 ∧ ¬ Over L 20
set_option maxRecDepth 100000 in
set_option maxHeartbeats 1000000 in
theorem popened_badF (P p q k : Int) (v : Value) (ss : List (List Int)) (w : World) (hv : IsSheets w v ss) (hr : ∀ n V, Grow w V → Calls Try.prog 62 #[.agg #[.int .i64 P, v], .int .i64 n] V fun e w' => e = .returned (.bool (inB n 0 k)) ∧ Grow V w') (h1 : inB p 0 k = false) (hc : codeO P ss false ≠ 0) :
    Calls Try.prog 67 #[.agg #[.int .i64 P, v], .int .i64 p, .int .i64 q] w fun e w' => e = .panicked (refusal (codeO P ss false)) ∧ Grow w w' := by
  obtain ⟨a, cap, rfl, hcap, hlen, hrow⟩ := id hv
  have Hv := Lib.hid hv
  have HR := Lib.hid hr
  have H1 := Lib.hid h1
  obtain ⟨cd, hcd⟩ : ∃ cd, cd = codeO P ss false := ⟨_, rfl⟩
  have Hcd := Lib.hid hcd
  rw [← hcd] at hc ⊢
  clear hv hr hcd h1
  go_enter Try.func67, Try.ntmps67
  go_wp2_with fail
  obtain ⟨W, hW⟩ : ∃ W, W = ((w.alloc (.cells #[.int .i64 P, .slice a ss.length cap] 24)).alloc (.cells #[.int .i64 0, .int .i64 0] 92)) := ⟨_, rfl⟩
  have hgW : Grow w W := by rw [hW]; exact (((Grow.refl w).alloc _).alloc _)
  have hW00 : W.cell? ⟨w.heap.size, 0, none⟩ = some (.int .i64 P) := by rw [hW]; exact Grow.keepA (cell_new (by simp) rfl) _
  have hW01 : W.cell? ⟨w.heap.size, 1, none⟩ = some (.slice a ss.length cap) := by rw [hW]; exact Grow.keepA (cell_new (by simp) rfl) _
  have hWf0 : ∀ o, W.frozen? ⟨w.heap.size, o, none⟩ = false := by intro o; rw [hW]; exact (((Grow.refl _).alloc _).marks _ _ (by simp <;> omega)).trans (hot_new (by simp))
  have hWl0 : w.heap.size < W.heap.size := by rw [hW]; simp; try omega
  have hW10 : W.cell? ⟨w.heap.size + 1, 0, none⟩ = some (.int .i64 0) := by rw [hW]; exact cell_new (by simp) rfl
  have hW11 : W.cell? ⟨w.heap.size + 1, 1, none⟩ = some (.int .i64 0) := by rw [hW]; exact cell_new (by simp) rfl
  have hWf1 : ∀ o, W.frozen? ⟨w.heap.size + 1, o, none⟩ = false := by intro o; rw [hW]; exact hot_new (by simp)
  have hWl1 : w.heap.size + 1 < W.heap.size := by rw [hW]; simp; try omega
  rw [← hW]
  clear hW
  have hWd : ∀ n, (W.drewN n).heap.size = W.heap.size := fun _ => rfl
  have hWq : ∀ n o b j, b < W.heap.size → ((W.drewN n).alloc o).cell? ⟨b, j, none⟩ = W.cell? ⟨b, j, none⟩ := cell_drewN_alloc W
  have hWr : ∀ n o b j, b < W.heap.size → ((W.drewN n).alloc o).frozen? ⟨b, j, none⟩ = W.frozen? ⟨b, j, none⟩ := hot_drewN_alloc W
  have hWb0 : w.heap.size ≤ w.heap.size := by omega
  have hWb1 : w.heap.size ≤ w.heap.size + 1 := by omega
  have hWn01 : w.heap.size ≠ w.heap.size + 1 := by omega
  have hWn10 : w.heap.size + 1 ≠ w.heap.size := by omega
  obtain ⟨W1, hWe1⟩ : ∃ g, w.heap.size + 1 = g := ⟨_, rfl⟩
  rw [hWe1] at hW10 hW11 hWf1 hWl1 hWb1 hWn10 hWn01
  (try rw [hWe1])
  have hWk1 := Lib.hid hWe1
  clear hWe1
  obtain ⟨W0, hWe0⟩ : ∃ g, w.heap.size = g := ⟨_, rfl⟩
  have hWb0 : w.heap.size ≤ W0 := by omega
  rw [hWe0] at hW00 hW01 hWf0 hWl0 hWn01 hWn10
  (try rw [hWe0])
  have hWk0 := Lib.hid hWe0
  clear hWe0
  refine wp_region_inv (by kernel_rfl) (OpInvF W W0 W1 P p q a ss.length cap) (by kernel_rfl) ?_ ?_ ?_
  · exact fun L hL => ⟨.pointer none, _, _, _, _, _, _, _, _, _, _, _, _, _, _, _, _, _, _, _, rfl, (Grow.refl W).drew, fun h => absurd h (hL _), fun h => absurd h (hL _), fun h => absurd h (hL _), fun h => absurd h (hL _), fun h => absurd h (hL _), fun h => absurd h (hL _), fun h => absurd h (hL _), fun h => absurd h (hL _), fun h => absurd h (hL _), fun h => absurd h (hL _), fun h => absurd h (hL _), hL _, hL _, hL _, hL _⟩
  · rintro L A V ⟨v6, v8, v9, v10, v11, v12, v13, v14, v15, v16, v17, v18, v19, v20, v21, v22, v23, v24, v25, v26, rfl, hg, h0, h1, h2, h3, h4, h8, h9, h13, h16, h17, h18, n14, n15, n19, n20⟩ hall
    exact absurd (hall 14 (by simp)) n14
  · rintro i o L A V ho hi ⟨v6, v8, v9, v10, v11, v12, v13, v14, v15, v16, v17, v18, v19, v20, v21, v22, v23, v24, v25, v26, rfl, hg, h0, h1, h2, h3, h4, h8, h9, h13, h16, h17, h18, n14, n15, n19, n20⟩ hno hd
    have hio := (Array.getElem?_eq_some_iff.1 ho).1
    simp only [List.size_toArray, List.length_cons, List.length_nil, Nat.reduceAdd] at hio
    obtain rfl | rfl | rfl | rfl | rfl | rfl | rfl | rfl | rfl | rfl | rfl | rfl | rfl | rfl | rfl | rfl | rfl | rfl | rfl | rfl | rfl : i = 0 ∨ i = 1 ∨ i = 2 ∨ i = 3 ∨ i = 4 ∨ i = 5 ∨ i = 6 ∨ i = 7 ∨ i = 8 ∨ i = 9 ∨ i = 10 ∨ i = 11 ∨ i = 12 ∨ i = 13 ∨ i = 14 ∨ i = 15 ∨ i = 16 ∨ i = 17 ∨ i = 18 ∨ i = 19 ∨ i = 20 := by omega
    · cases ho
      have c0 := hg.keeps hW00
      have c1 := hg.keeps hW01
      go_simp
      exact ⟨_, _, _, _, _, _, _, _, _, _, _, _, _, _, _, _, _, _, _, _, rfl, hg, fun _ => rfl, fun h => h1 (over_ne h (by decide)), fun h => h2 (over_ne h (by decide)), fun h => h3 (over_ne h (by decide)), fun h => h4 (over_ne h (by decide)), fun h => h8 (over_ne h (by decide)), fun h => h9 (over_ne h (by decide)), fun h => h13 (over_ne h (by decide)), fun h => h16 (over_ne h (by decide)), fun h => h17 (over_ne h (by decide)), fun h => h18 (over_ne h (by decide)), fun h => n14 (over_ne h (by decide)), fun h => n15 (over_ne h (by decide)), fun h => n19 (over_ne h (by decide)), fun h => n20 (over_ne h (by decide))⟩
    · cases ho
      have c0 := hg.keeps hW00
      have c1 := hg.keeps hW01
      go_simp
      exact ⟨_, _, _, _, _, _, _, _, _, _, _, _, _, _, _, _, _, _, _, _, rfl, hg, fun h => h0 (over_ne h (by decide)), fun _ => rfl, fun h => h2 (over_ne h (by decide)), fun h => h3 (over_ne h (by decide)), fun h => h4 (over_ne h (by decide)), fun h => h8 (over_ne h (by decide)), fun h => h9 (over_ne h (by decide)), fun h => h13 (over_ne h (by decide)), fun h => h16 (over_ne h (by decide)), fun h => h17 (over_ne h (by decide)), fun h => h18 (over_ne h (by decide)), fun h => n14 (over_ne h (by decide)), fun h => n15 (over_ne h (by decide)), fun h => n19 (over_ne h (by decide)), fun h => n20 (over_ne h (by decide))⟩
    · cases ho
      go_simp
      exact ⟨_, _, _, _, _, _, _, _, _, _, _, _, _, _, _, _, _, _, _, _, rfl, hg, fun h => h0 (over_ne h (by decide)), fun h => h1 (over_ne h (by decide)), fun _ => rfl, fun h => h3 (over_ne h (by decide)), fun h => h4 (over_ne h (by decide)), fun h => h8 (over_ne h (by decide)), fun h => h9 (over_ne h (by decide)), fun h => h13 (over_ne h (by decide)), fun h => h16 (over_ne h (by decide)), fun h => h17 (over_ne h (by decide)), fun h => h18 (over_ne h (by decide)), fun h => n14 (over_ne h (by decide)), fun h => n15 (over_ne h (by decide)), fun h => n19 (over_ne h (by decide)), fun h => n20 (over_ne h (by decide))⟩
    · cases ho
      have d1 := h1 (hd { on := 1, ground := .data } (by simp) rfl)
      have d2 := h2 (hd { on := 2, ground := .data } (by simp) rfl)
      subst d1 d2
      go_simp
      go_at_call 62
      refine (HR.out _ _ (hgW.trans hg)).mono ?_
      rw [H1.out]
      rintro e V2 ⟨rfl, hgV⟩
      go_simp
      exact ⟨_, _, _, _, _, _, _, _, _, _, _, _, _, _, _, _, _, _, _, _, rfl, (fun h => h.trans hgV) hg, fun h => h0 (over_ne h (by decide)), fun h => h1 (over_ne h (by decide)), fun h => h2 (over_ne h (by decide)), fun _ => rfl, fun h => h4 (over_ne h (by decide)), fun h => h8 (over_ne h (by decide)), fun h => h9 (over_ne h (by decide)), fun h => h13 (over_ne h (by decide)), fun h => h16 (over_ne h (by decide)), fun h => h17 (over_ne h (by decide)), fun h => h18 (over_ne h (by decide)), fun h => n14 (over_ne h (by decide)), fun h => n15 (over_ne h (by decide)), fun h => n19 (over_ne h (by decide)), fun h => n20 (over_ne h (by decide))⟩
    · cases ho
      have d3 := h3 (hd { on := 3, ground := .data } (by simp) rfl)
      subst d3
      go_simp
      exact ⟨_, _, _, _, _, _, _, _, _, _, _, _, _, _, _, _, _, _, _, _, rfl, hg, fun h => h0 (over_ne h (by decide)), fun h => h1 (over_ne h (by decide)), fun h => h2 (over_ne h (by decide)), fun h => h3 (over_ne h (by decide)), fun _ => rfl, fun h => h8 (over_ne h (by decide)), fun h => h9 (over_ne h (by decide)), fun h => h13 (over_ne h (by decide)), fun h => h16 (over_ne h (by decide)), fun h => h17 (over_ne h (by decide)), fun h => h18 (over_ne h (by decide)), fun h => n14 (over_ne h (by decide)), fun h => n15 (over_ne h (by decide)), fun h => n19 (over_ne h (by decide)), fun h => n20 (over_ne h (by decide))⟩
    · cases ho
      have d4 := h4 (hd { on := 4, ground := .guard } (by simp) rfl)
      subst d4
      go_simp
      exact ⟨_, _, _, _, _, _, _, _, _, _, _, _, _, _, _, _, _, _, _, _, rfl, hg, fun h => h0 (over_ne h (by decide)), fun h => h1 (over_ne h (by decide)), fun h => h2 (over_ne h (by decide)), fun h => h3 (over_ne h (by decide)), fun h => h4 (over_ne h (by decide)), fun h => h8 (over_ne h (by decide)), fun h => h9 (over_ne h (by decide)), fun h => h13 (over_ne h (by decide)), fun h => h16 (over_ne h (by decide)), fun h => h17 (over_ne h (by decide)), fun h => h18 (over_ne h (by decide)), fun h => n14 (over_ne h (by decide)), fun h => n15 (over_ne h (by decide)), fun h => n19 (over_ne h (by decide)), fun h => n20 (over_ne h (by decide))⟩
    · cases ho
      have d4 := h4 (hd { on := 4, ground := .guard } (by simp) rfl)
      subst d4
      go_simp
      exact ⟨_, _, _, _, _, _, _, _, _, _, _, _, _, _, _, _, _, _, _, _, rfl, hg, fun h => h0 (over_ne h (by decide)), fun h => h1 (over_ne h (by decide)), fun h => h2 (over_ne h (by decide)), fun h => h3 (over_ne h (by decide)), fun h => h4 (over_ne h (by decide)), fun h => h8 (over_ne h (by decide)), fun h => h9 (over_ne h (by decide)), fun h => h13 (over_ne h (by decide)), fun h => h16 (over_ne h (by decide)), fun h => h17 (over_ne h (by decide)), fun h => h18 (over_ne h (by decide)), fun h => n14 (over_ne h (by decide)), fun h => n15 (over_ne h (by decide)), fun h => n19 (over_ne h (by decide)), fun h => n20 (over_ne h (by decide))⟩
    · cases ho
      have d4 := h4 (hd { on := 4, ground := .guard } (by simp) rfl)
      subst d4
      go_simp
      exact ⟨_, _, _, _, _, _, _, _, _, _, _, _, _, _, _, _, _, _, _, _, rfl, hg, fun h => h0 (over_ne h (by decide)), fun h => h1 (over_ne h (by decide)), fun h => h2 (over_ne h (by decide)), fun h => h3 (over_ne h (by decide)), fun h => h4 (over_ne h (by decide)), fun h => h8 (over_ne h (by decide)), fun h => h9 (over_ne h (by decide)), fun h => h13 (over_ne h (by decide)), fun h => h16 (over_ne h (by decide)), fun h => h17 (over_ne h (by decide)), fun h => h18 (over_ne h (by decide)), fun h => n14 (over_ne h (by decide)), fun h => n15 (over_ne h (by decide)), fun h => n19 (over_ne h (by decide)), fun h => n20 (over_ne h (by decide))⟩
    · cases ho
      have d4 := h4 (hd { on := 4, ground := .data } (by simp) rfl)
      subst d4
      go_simp
      exact ⟨_, _, _, _, _, _, _, _, _, _, _, _, _, _, _, _, _, _, _, _, rfl, hg, fun h => h0 (over_ne h (by decide)), fun h => h1 (over_ne h (by decide)), fun h => h2 (over_ne h (by decide)), fun h => h3 (over_ne h (by decide)), fun h => h4 (over_ne h (by decide)), fun _ => rfl, fun h => h9 (over_ne h (by decide)), fun h => h13 (over_ne h (by decide)), fun h => h16 (over_ne h (by decide)), fun h => h17 (over_ne h (by decide)), fun h => h18 (over_ne h (by decide)), fun h => n14 (over_ne h (by decide)), fun h => n15 (over_ne h (by decide)), fun h => n19 (over_ne h (by decide)), fun h => n20 (over_ne h (by decide))⟩
    · cases ho
      have d8 := h8 (hd { on := 8, ground := .data } (by simp) rfl)
      subst d8
      go_simp
      exact ⟨_, _, _, _, _, _, _, _, _, _, _, _, _, _, _, _, _, _, _, _, rfl, hg, fun h => h0 (over_ne h (by decide)), fun h => h1 (over_ne h (by decide)), fun h => h2 (over_ne h (by decide)), fun h => h3 (over_ne h (by decide)), fun h => h4 (over_ne h (by decide)), fun h => h8 (over_ne h (by decide)), fun _ => rfl, fun h => h13 (over_ne h (by decide)), fun h => h16 (over_ne h (by decide)), fun h => h17 (over_ne h (by decide)), fun h => h18 (over_ne h (by decide)), fun h => n14 (over_ne h (by decide)), fun h => n15 (over_ne h (by decide)), fun h => n19 (over_ne h (by decide)), fun h => n20 (over_ne h (by decide))⟩
    · cases ho
      have d9 := h9 (hd { on := 9, ground := .guard } (by simp) rfl)
      subst d9
      go_simp
      exact ⟨_, _, _, _, _, _, _, _, _, _, _, _, _, _, _, _, _, _, _, _, rfl, hg, fun h => h0 (over_ne h (by decide)), fun h => h1 (over_ne h (by decide)), fun h => h2 (over_ne h (by decide)), fun h => h3 (over_ne h (by decide)), fun h => h4 (over_ne h (by decide)), fun h => h8 (over_ne h (by decide)), fun h => h9 (over_ne h (by decide)), fun h => h13 (over_ne h (by decide)), fun h => h16 (over_ne h (by decide)), fun h => h17 (over_ne h (by decide)), fun h => h18 (over_ne h (by decide)), fun h => n14 (over_ne h (by decide)), fun h => n15 (over_ne h (by decide)), fun h => n19 (over_ne h (by decide)), fun h => n20 (over_ne h (by decide))⟩
    · cases ho
      have d9 := h9 (hd { on := 9, ground := .guard } (by simp) rfl)
      subst d9
      go_simp
      exact ⟨_, _, _, _, _, _, _, _, _, _, _, _, _, _, _, _, _, _, _, _, rfl, hg, fun h => h0 (over_ne h (by decide)), fun h => h1 (over_ne h (by decide)), fun h => h2 (over_ne h (by decide)), fun h => h3 (over_ne h (by decide)), fun h => h4 (over_ne h (by decide)), fun h => h8 (over_ne h (by decide)), fun h => h9 (over_ne h (by decide)), fun h => h13 (over_ne h (by decide)), fun h => h16 (over_ne h (by decide)), fun h => h17 (over_ne h (by decide)), fun h => h18 (over_ne h (by decide)), fun h => n14 (over_ne h (by decide)), fun h => n15 (over_ne h (by decide)), fun h => n19 (over_ne h (by decide)), fun h => n20 (over_ne h (by decide))⟩
    · cases ho
      have d9 := h9 (hd { on := 9, ground := .guard } (by simp) rfl)
      subst d9
      go_simp
      exact ⟨_, _, _, _, _, _, _, _, _, _, _, _, _, _, _, _, _, _, _, _, rfl, hg, fun h => h0 (over_ne h (by decide)), fun h => h1 (over_ne h (by decide)), fun h => h2 (over_ne h (by decide)), fun h => h3 (over_ne h (by decide)), fun h => h4 (over_ne h (by decide)), fun h => h8 (over_ne h (by decide)), fun h => h9 (over_ne h (by decide)), fun h => h13 (over_ne h (by decide)), fun h => h16 (over_ne h (by decide)), fun h => h17 (over_ne h (by decide)), fun h => h18 (over_ne h (by decide)), fun h => n14 (over_ne h (by decide)), fun h => n15 (over_ne h (by decide)), fun h => n19 (over_ne h (by decide)), fun h => n20 (over_ne h (by decide))⟩
    · cases ho
      have d9 := h9 (hd { on := 9, ground := .data } (by simp) rfl)
      subst d9
      go_simp
      exact ⟨_, _, _, _, _, _, _, _, _, _, _, _, _, _, _, _, _, _, _, _, rfl, hg, fun h => h0 (over_ne h (by decide)), fun h => h1 (over_ne h (by decide)), fun h => h2 (over_ne h (by decide)), fun h => h3 (over_ne h (by decide)), fun h => h4 (over_ne h (by decide)), fun h => h8 (over_ne h (by decide)), fun h => h9 (over_ne h (by decide)), fun _ => rfl, fun h => h16 (over_ne h (by decide)), fun h => h17 (over_ne h (by decide)), fun h => h18 (over_ne h (by decide)), fun h => n14 (over_ne h (by decide)), fun h => n15 (over_ne h (by decide)), fun h => n19 (over_ne h (by decide)), fun h => n20 (over_ne h (by decide))⟩
    · cases ho
      have d0 := h0 (hd { on := 0, ground := .data } (by simp) rfl)
      have d13 := h13 (hd { on := 13, ground := .data } (by simp) rfl)
      subst d0 d13
      go_simp
      go_at_call 43
      refine (popen P _ ss _ _ (Hv.out.grow (hgW.trans hg))).mono ?_
      rintro e w1 ⟨hg1, hbad, _⟩
      have hbad := hbad (by rw [← Hcd.out]; exact hc)
      rw [← Hcd.out] at hbad
      subst hbad
      go_simp
      show _ = [] ∧ _
      exact ⟨rfl, rfl, hgW.trans (hg.trans hg1)⟩
    · cases ho
      exact absurd (hd { on := 14, ground := .data } (by simp) rfl) n14
    · cases ho
      go_simp
      exact ⟨_, _, _, _, _, _, _, _, _, _, _, _, _, _, _, _, _, _, _, _, rfl, hg, fun h => h0 (over_ne h (by decide)), fun h => h1 (over_ne h (by decide)), fun h => h2 (over_ne h (by decide)), fun h => h3 (over_ne h (by decide)), fun h => h4 (over_ne h (by decide)), fun h => h8 (over_ne h (by decide)), fun h => h9 (over_ne h (by decide)), fun h => h13 (over_ne h (by decide)), fun _ => rfl, fun h => h17 (over_ne h (by decide)), fun h => h18 (over_ne h (by decide)), fun h => n14 (over_ne h (by decide)), fun h => n15 (over_ne h (by decide)), fun h => n19 (over_ne h (by decide)), fun h => n20 (over_ne h (by decide))⟩
    · cases ho
      go_simp
      exact ⟨_, _, _, _, _, _, _, _, _, _, _, _, _, _, _, _, _, _, _, _, rfl, hg, fun h => h0 (over_ne h (by decide)), fun h => h1 (over_ne h (by decide)), fun h => h2 (over_ne h (by decide)), fun h => h3 (over_ne h (by decide)), fun h => h4 (over_ne h (by decide)), fun h => h8 (over_ne h (by decide)), fun h => h9 (over_ne h (by decide)), fun h => h13 (over_ne h (by decide)), fun h => h16 (over_ne h (by decide)), fun _ => rfl, fun h => h18 (over_ne h (by decide)), fun h => n14 (over_ne h (by decide)), fun h => n15 (over_ne h (by decide)), fun h => n19 (over_ne h (by decide)), fun h => n20 (over_ne h (by decide))⟩
    · cases ho
      have d16 := h16 (hd { on := 16, ground := .data } (by simp) rfl)
      have d17 := h17 (hd { on := 17, ground := .data } (by simp) rfl)
      subst d16 d17
      go_simp
      exact ⟨_, _, _, _, _, _, _, _, _, _, _, _, _, _, _, _, _, _, _, _, rfl, hg, fun h => h0 (over_ne h (by decide)), fun h => h1 (over_ne h (by decide)), fun h => h2 (over_ne h (by decide)), fun h => h3 (over_ne h (by decide)), fun h => h4 (over_ne h (by decide)), fun h => h8 (over_ne h (by decide)), fun h => h9 (over_ne h (by decide)), fun h => h13 (over_ne h (by decide)), fun h => h16 (over_ne h (by decide)), fun h => h17 (over_ne h (by decide)), fun _ => rfl, fun h => n14 (over_ne h (by decide)), fun h => n15 (over_ne h (by decide)), fun h => n19 (over_ne h (by decide)), fun h => n20 (over_ne h (by decide))⟩
    · cases ho
      exact absurd (hd { on := 15, ground := .data } (by simp) rfl) n15
    · cases ho
      exact absurd (hd { on := 19, ground := .chain } (by simp) rfl) n19
def OpInvG (W : World) (W0 W1 : Nat) (P p q : Int) (a : Option Addr) (n cap : Nat) (L : Array Bool) (A : Act) (V : World) : Prop :=
  ∃ v6 v8 v9 v10 v11 v12 v13 v14 v15 v16 v17 v18 v19 v20 v21 v22 v23 v24 v25 v26, A = { tmps := #[.agg #[.int .i64 P, .slice a n cap], .int .i64 p, .int .i64 q, .pointer (some ⟨W0, 0, none⟩), undef, undef, v6, .pointer (some ⟨W1, 0, none⟩), v8, v9, v10, v11, v12, v13, v14, v15, v16, v17, v18, v19, v20, v21, v22, v23, v24, v25, v26], defers := [] } ∧ (Grow W V) ∧ (Over L 0 → (v8 = .agg #[.int .i64 P, .slice a n cap])) ∧ (Over L 1 → (v9 = .agg #[.int .i64 P, .slice a n cap])) ∧ (Over L 2 → (v10 = .int .i64 p)) ∧ (Over L 3 → (v11 = .bool true)) ∧ (Over L 4 → (v12 = .bool true)) ∧ (Over L 5 → (v13 = .agg #[.int .i64 P, .slice a n cap])) ∧ (Over L 6 → (v14 = .int .i64 q)) ∧ (Over L 7 → (v15 = .bool false)) ∧ (Over L 8 → (v16 = .bool false)) ∧ (Over L 9 → (v17 = .bool false)) ∧ (Over L 13 → (v21 = .bool false)) ∧ (Over L 16 → (v24 = .int .i64 p)) ∧ (Over L 17 → (v25 = .int .i64 q)) ∧ (Over L 18 → (v26 = .agg #[.int .i64 p, .int .i64 q])) ∧ ¬ Over L 14 ∧ ¬ Over L 15 ∧ ¬ Over L 19 ∧ ¬ Over L 20
set_option maxRecDepth 100000 in
set_option maxHeartbeats 1000000 in
theorem popened_badG (P p q k : Int) (v : Value) (ss : List (List Int)) (w : World) (hv : IsSheets w v ss) (hr : ∀ n V, Grow w V → Calls Try.prog 62 #[.agg #[.int .i64 P, v], .int .i64 n] V fun e w' => e = .returned (.bool (inB n 0 k)) ∧ Grow V w') (h1 : inB p 0 k = true) (h2 : inB q 0 k = false) (hc : codeO P ss false ≠ 0) :
    Calls Try.prog 67 #[.agg #[.int .i64 P, v], .int .i64 p, .int .i64 q] w fun e w' => e = .panicked (refusal (codeO P ss false)) ∧ Grow w w' := by
  obtain ⟨a, cap, rfl, hcap, hlen, hrow⟩ := id hv
  have Hv := Lib.hid hv
  have HR := Lib.hid hr
  have H1 := Lib.hid h1
  have H2 := Lib.hid h2
  obtain ⟨cd, hcd⟩ : ∃ cd, cd = codeO P ss false := ⟨_, rfl⟩
  have Hcd := Lib.hid hcd
  rw [← hcd] at hc ⊢
  clear hv hr hcd h1 h2
  go_enter Try.func67, Try.ntmps67
  go_wp2_with fail
  obtain ⟨W, hW⟩ : ∃ W, W = ((w.alloc (.cells #[.int .i64 P, .slice a ss.length cap] 24)).alloc (.cells #[.int .i64 0, .int .i64 0] 92)) := ⟨_, rfl⟩
  have hgW : Grow w W := by rw [hW]; exact (((Grow.refl w).alloc _).alloc _)
  have hW00 : W.cell? ⟨w.heap.size, 0, none⟩ = some (.int .i64 P) := by rw [hW]; exact Grow.keepA (cell_new (by simp) rfl) _
  have hW01 : W.cell? ⟨w.heap.size, 1, none⟩ = some (.slice a ss.length cap) := by rw [hW]; exact Grow.keepA (cell_new (by simp) rfl) _
  have hWf0 : ∀ o, W.frozen? ⟨w.heap.size, o, none⟩ = false := by intro o; rw [hW]; exact (((Grow.refl _).alloc _).marks _ _ (by simp <;> omega)).trans (hot_new (by simp))
  have hWl0 : w.heap.size < W.heap.size := by rw [hW]; simp; try omega
  have hW10 : W.cell? ⟨w.heap.size + 1, 0, none⟩ = some (.int .i64 0) := by rw [hW]; exact cell_new (by simp) rfl
  have hW11 : W.cell? ⟨w.heap.size + 1, 1, none⟩ = some (.int .i64 0) := by rw [hW]; exact cell_new (by simp) rfl
  have hWf1 : ∀ o, W.frozen? ⟨w.heap.size + 1, o, none⟩ = false := by intro o; rw [hW]; exact hot_new (by simp)
  have hWl1 : w.heap.size + 1 < W.heap.size := by rw [hW]; simp; try omega
  rw [← hW]
  clear hW
  have hWd : ∀ n, (W.drewN n).heap.size = W.heap.size := fun _ => rfl
  have hWq : ∀ n o b j, b < W.heap.size → ((W.drewN n).alloc o).cell? ⟨b, j, none⟩ = W.cell? ⟨b, j, none⟩ := cell_drewN_alloc W
  have hWr : ∀ n o b j, b < W.heap.size → ((W.drewN n).alloc o).frozen? ⟨b, j, none⟩ = W.frozen? ⟨b, j, none⟩ := hot_drewN_alloc W
  have hWb0 : w.heap.size ≤ w.heap.size := by omega
  have hWb1 : w.heap.size ≤ w.heap.size + 1 := by omega
  have hWn01 : w.heap.size ≠ w.heap.size + 1 := by omega
  have hWn10 : w.heap.size + 1 ≠ w.heap.size := by omega
  obtain ⟨W1, hWe1⟩ : ∃ g, w.heap.size + 1 = g := ⟨_, rfl⟩
  rw [hWe1] at hW10 hW11 hWf1 hWl1 hWb1 hWn10 hWn01
  (try rw [hWe1])
  have hWk1 := Lib.hid hWe1
  clear hWe1
  obtain ⟨W0, hWe0⟩ : ∃ g, w.heap.size = g := ⟨_, rfl⟩
  have hWb0 : w.heap.size ≤ W0 := by omega
  rw [hWe0] at hW00 hW01 hWf0 hWl0 hWn01 hWn10
  (try rw [hWe0])
  have hWk0 := Lib.hid hWe0
  clear hWe0
  refine wp_region_inv (by kernel_rfl) (OpInvG W W0 W1 P p q a ss.length cap) (by kernel_rfl) ?_ ?_ ?_
  · exact fun L hL => ⟨.pointer none, _, _, _, _, _, _, _, _, _, _, _, _, _, _, _, _, _, _, _, rfl, (Grow.refl W).drew, fun h => absurd h (hL _), fun h => absurd h (hL _), fun h => absurd h (hL _), fun h => absurd h (hL _), fun h => absurd h (hL _), fun h => absurd h (hL _), fun h => absurd h (hL _), fun h => absurd h (hL _), fun h => absurd h (hL _), fun h => absurd h (hL _), fun h => absurd h (hL _), fun h => absurd h (hL _), fun h => absurd h (hL _), fun h => absurd h (hL _), hL _, hL _, hL _, hL _⟩
  · rintro L A V ⟨v6, v8, v9, v10, v11, v12, v13, v14, v15, v16, v17, v18, v19, v20, v21, v22, v23, v24, v25, v26, rfl, hg, h0, h1, h2, h3, h4, h5, h6, h7, h8, h9, h13, h16, h17, h18, n14, n15, n19, n20⟩ hall
    exact absurd (hall 14 (by simp)) n14
  · rintro i o L A V ho hi ⟨v6, v8, v9, v10, v11, v12, v13, v14, v15, v16, v17, v18, v19, v20, v21, v22, v23, v24, v25, v26, rfl, hg, h0, h1, h2, h3, h4, h5, h6, h7, h8, h9, h13, h16, h17, h18, n14, n15, n19, n20⟩ hno hd
    have hio := (Array.getElem?_eq_some_iff.1 ho).1
    simp only [List.size_toArray, List.length_cons, List.length_nil, Nat.reduceAdd] at hio
    obtain rfl | rfl | rfl | rfl | rfl | rfl | rfl | rfl | rfl | rfl | rfl | rfl | rfl | rfl | rfl | rfl | rfl | rfl | rfl | rfl | rfl : i = 0 ∨ i = 1 ∨ i = 2 ∨ i = 3 ∨ i = 4 ∨ i = 5 ∨ i = 6 ∨ i = 7 ∨ i = 8 ∨ i = 9 ∨ i = 10 ∨ i = 11 ∨ i = 12 ∨ i = 13 ∨ i = 14 ∨ i = 15 ∨ i = 16 ∨ i = 17 ∨ i = 18 ∨ i = 19 ∨ i = 20 := by omega
    · cases ho
      have c0 := hg.keeps hW00
      have c1 := hg.keeps hW01
      go_simp
      exact ⟨_, _, _, _, _, _, _, _, _, _, _, _, _, _, _, _, _, _, _, _, rfl, hg, fun _ => rfl, fun h => h1 (over_ne h (by decide)), fun h => h2 (over_ne h (by decide)), fun h => h3 (over_ne h (by decide)), fun h => h4 (over_ne h (by decide)), fun h => h5 (over_ne h (by decide)), fun h => h6 (over_ne h (by decide)), fun h => h7 (over_ne h (by decide)), fun h => h8 (over_ne h (by decide)), fun h => h9 (over_ne h (by decide)), fun h => h13 (over_ne h (by decide)), fun h => h16 (over_ne h (by decide)), fun h => h17 (over_ne h (by decide)), fun h => h18 (over_ne h (by decide)), fun h => n14 (over_ne h (by decide)), fun h => n15 (over_ne h (by decide)), fun h => n19 (over_ne h (by decide)), fun h => n20 (over_ne h (by decide))⟩
    · cases ho
      have c0 := hg.keeps hW00
      have c1 := hg.keeps hW01
      go_simp
      exact ⟨_, _, _, _, _, _, _, _, _, _, _, _, _, _, _, _, _, _, _, _, rfl, hg, fun h => h0 (over_ne h (by decide)), fun _ => rfl, fun h => h2 (over_ne h (by decide)), fun h => h3 (over_ne h (by decide)), fun h => h4 (over_ne h (by decide)), fun h => h5 (over_ne h (by decide)), fun h => h6 (over_ne h (by decide)), fun h => h7 (over_ne h (by decide)), fun h => h8 (over_ne h (by decide)), fun h => h9 (over_ne h (by decide)), fun h => h13 (over_ne h (by decide)), fun h => h16 (over_ne h (by decide)), fun h => h17 (over_ne h (by decide)), fun h => h18 (over_ne h (by decide)), fun h => n14 (over_ne h (by decide)), fun h => n15 (over_ne h (by decide)), fun h => n19 (over_ne h (by decide)), fun h => n20 (over_ne h (by decide))⟩
    · cases ho
      go_simp
      exact ⟨_, _, _, _, _, _, _, _, _, _, _, _, _, _, _, _, _, _, _, _, rfl, hg, fun h => h0 (over_ne h (by decide)), fun h => h1 (over_ne h (by decide)), fun _ => rfl, fun h => h3 (over_ne h (by decide)), fun h => h4 (over_ne h (by decide)), fun h => h5 (over_ne h (by decide)), fun h => h6 (over_ne h (by decide)), fun h => h7 (over_ne h (by decide)), fun h => h8 (over_ne h (by decide)), fun h => h9 (over_ne h (by decide)), fun h => h13 (over_ne h (by decide)), fun h => h16 (over_ne h (by decide)), fun h => h17 (over_ne h (by decide)), fun h => h18 (over_ne h (by decide)), fun h => n14 (over_ne h (by decide)), fun h => n15 (over_ne h (by decide)), fun h => n19 (over_ne h (by decide)), fun h => n20 (over_ne h (by decide))⟩
    · cases ho
      have d1 := h1 (hd { on := 1, ground := .data } (by simp) rfl)
      have d2 := h2 (hd { on := 2, ground := .data } (by simp) rfl)
      subst d1 d2
      go_simp
      go_at_call 62
      refine (HR.out _ _ (hgW.trans hg)).mono ?_
      rw [H1.out]
      rintro e V2 ⟨rfl, hgV⟩
      go_simp
      exact ⟨_, _, _, _, _, _, _, _, _, _, _, _, _, _, _, _, _, _, _, _, rfl, (fun h => h.trans hgV) hg, fun h => h0 (over_ne h (by decide)), fun h => h1 (over_ne h (by decide)), fun h => h2 (over_ne h (by decide)), fun _ => rfl, fun h => h4 (over_ne h (by decide)), fun h => h5 (over_ne h (by decide)), fun h => h6 (over_ne h (by decide)), fun h => h7 (over_ne h (by decide)), fun h => h8 (over_ne h (by decide)), fun h => h9 (over_ne h (by decide)), fun h => h13 (over_ne h (by decide)), fun h => h16 (over_ne h (by decide)), fun h => h17 (over_ne h (by decide)), fun h => h18 (over_ne h (by decide)), fun h => n14 (over_ne h (by decide)), fun h => n15 (over_ne h (by decide)), fun h => n19 (over_ne h (by decide)), fun h => n20 (over_ne h (by decide))⟩
    · cases ho
      have d3 := h3 (hd { on := 3, ground := .data } (by simp) rfl)
      subst d3
      go_simp
      exact ⟨_, _, _, _, _, _, _, _, _, _, _, _, _, _, _, _, _, _, _, _, rfl, hg, fun h => h0 (over_ne h (by decide)), fun h => h1 (over_ne h (by decide)), fun h => h2 (over_ne h (by decide)), fun h => h3 (over_ne h (by decide)), fun _ => rfl, fun h => h5 (over_ne h (by decide)), fun h => h6 (over_ne h (by decide)), fun h => h7 (over_ne h (by decide)), fun h => h8 (over_ne h (by decide)), fun h => h9 (over_ne h (by decide)), fun h => h13 (over_ne h (by decide)), fun h => h16 (over_ne h (by decide)), fun h => h17 (over_ne h (by decide)), fun h => h18 (over_ne h (by decide)), fun h => n14 (over_ne h (by decide)), fun h => n15 (over_ne h (by decide)), fun h => n19 (over_ne h (by decide)), fun h => n20 (over_ne h (by decide))⟩
    · cases ho
      have d4 := h4 (hd { on := 4, ground := .guard } (by simp) rfl)
      have c0 := hg.keeps hW00
      have c1 := hg.keeps hW01
      subst d4
      go_simp
      exact ⟨_, _, _, _, _, _, _, _, _, _, _, _, _, _, _, _, _, _, _, _, rfl, hg, fun h => h0 (over_ne h (by decide)), fun h => h1 (over_ne h (by decide)), fun h => h2 (over_ne h (by decide)), fun h => h3 (over_ne h (by decide)), fun h => h4 (over_ne h (by decide)), fun _ => rfl, fun h => h6 (over_ne h (by decide)), fun h => h7 (over_ne h (by decide)), fun h => h8 (over_ne h (by decide)), fun h => h9 (over_ne h (by decide)), fun h => h13 (over_ne h (by decide)), fun h => h16 (over_ne h (by decide)), fun h => h17 (over_ne h (by decide)), fun h => h18 (over_ne h (by decide)), fun h => n14 (over_ne h (by decide)), fun h => n15 (over_ne h (by decide)), fun h => n19 (over_ne h (by decide)), fun h => n20 (over_ne h (by decide))⟩
    · cases ho
      have d4 := h4 (hd { on := 4, ground := .guard } (by simp) rfl)
      subst d4
      go_simp
      exact ⟨_, _, _, _, _, _, _, _, _, _, _, _, _, _, _, _, _, _, _, _, rfl, hg, fun h => h0 (over_ne h (by decide)), fun h => h1 (over_ne h (by decide)), fun h => h2 (over_ne h (by decide)), fun h => h3 (over_ne h (by decide)), fun h => h4 (over_ne h (by decide)), fun h => h5 (over_ne h (by decide)), fun _ => rfl, fun h => h7 (over_ne h (by decide)), fun h => h8 (over_ne h (by decide)), fun h => h9 (over_ne h (by decide)), fun h => h13 (over_ne h (by decide)), fun h => h16 (over_ne h (by decide)), fun h => h17 (over_ne h (by decide)), fun h => h18 (over_ne h (by decide)), fun h => n14 (over_ne h (by decide)), fun h => n15 (over_ne h (by decide)), fun h => n19 (over_ne h (by decide)), fun h => n20 (over_ne h (by decide))⟩
    · cases ho
      have d4 := h4 (hd { on := 4, ground := .guard } (by simp) rfl)
      have d5 := h5 (hd { on := 5, ground := .data } (by simp) rfl)
      have d6 := h6 (hd { on := 6, ground := .data } (by simp) rfl)
      subst d4 d5 d6
      go_simp
      go_at_call 62
      refine (HR.out _ _ (hgW.trans hg)).mono ?_
      rw [H2.out]
      rintro e V2 ⟨rfl, hgV⟩
      go_simp
      exact ⟨_, _, _, _, _, _, _, _, _, _, _, _, _, _, _, _, _, _, _, _, rfl, (fun h => h.trans hgV) hg, fun h => h0 (over_ne h (by decide)), fun h => h1 (over_ne h (by decide)), fun h => h2 (over_ne h (by decide)), fun h => h3 (over_ne h (by decide)), fun h => h4 (over_ne h (by decide)), fun h => h5 (over_ne h (by decide)), fun h => h6 (over_ne h (by decide)), fun _ => rfl, fun h => h8 (over_ne h (by decide)), fun h => h9 (over_ne h (by decide)), fun h => h13 (over_ne h (by decide)), fun h => h16 (over_ne h (by decide)), fun h => h17 (over_ne h (by decide)), fun h => h18 (over_ne h (by decide)), fun h => n14 (over_ne h (by decide)), fun h => n15 (over_ne h (by decide)), fun h => n19 (over_ne h (by decide)), fun h => n20 (over_ne h (by decide))⟩
    · cases ho
      have d4 := h4 (hd { on := 4, ground := .data } (by simp) rfl)
      have d7 := h7 (hd { on := 7, ground := .data } (by simp) rfl)
      subst d4 d7
      go_simp
      exact ⟨_, _, _, _, _, _, _, _, _, _, _, _, _, _, _, _, _, _, _, _, rfl, hg, fun h => h0 (over_ne h (by decide)), fun h => h1 (over_ne h (by decide)), fun h => h2 (over_ne h (by decide)), fun h => h3 (over_ne h (by decide)), fun h => h4 (over_ne h (by decide)), fun h => h5 (over_ne h (by decide)), fun h => h6 (over_ne h (by decide)), fun h => h7 (over_ne h (by decide)), fun _ => rfl, fun h => h9 (over_ne h (by decide)), fun h => h13 (over_ne h (by decide)), fun h => h16 (over_ne h (by decide)), fun h => h17 (over_ne h (by decide)), fun h => h18 (over_ne h (by decide)), fun h => n14 (over_ne h (by decide)), fun h => n15 (over_ne h (by decide)), fun h => n19 (over_ne h (by decide)), fun h => n20 (over_ne h (by decide))⟩
    · cases ho
      have d8 := h8 (hd { on := 8, ground := .data } (by simp) rfl)
      subst d8
      go_simp
      exact ⟨_, _, _, _, _, _, _, _, _, _, _, _, _, _, _, _, _, _, _, _, rfl, hg, fun h => h0 (over_ne h (by decide)), fun h => h1 (over_ne h (by decide)), fun h => h2 (over_ne h (by decide)), fun h => h3 (over_ne h (by decide)), fun h => h4 (over_ne h (by decide)), fun h => h5 (over_ne h (by decide)), fun h => h6 (over_ne h (by decide)), fun h => h7 (over_ne h (by decide)), fun h => h8 (over_ne h (by decide)), fun _ => rfl, fun h => h13 (over_ne h (by decide)), fun h => h16 (over_ne h (by decide)), fun h => h17 (over_ne h (by decide)), fun h => h18 (over_ne h (by decide)), fun h => n14 (over_ne h (by decide)), fun h => n15 (over_ne h (by decide)), fun h => n19 (over_ne h (by decide)), fun h => n20 (over_ne h (by decide))⟩
    · cases ho
      have d9 := h9 (hd { on := 9, ground := .guard } (by simp) rfl)
      subst d9
      go_simp
      exact ⟨_, _, _, _, _, _, _, _, _, _, _, _, _, _, _, _, _, _, _, _, rfl, hg, fun h => h0 (over_ne h (by decide)), fun h => h1 (over_ne h (by decide)), fun h => h2 (over_ne h (by decide)), fun h => h3 (over_ne h (by decide)), fun h => h4 (over_ne h (by decide)), fun h => h5 (over_ne h (by decide)), fun h => h6 (over_ne h (by decide)), fun h => h7 (over_ne h (by decide)), fun h => h8 (over_ne h (by decide)), fun h => h9 (over_ne h (by decide)), fun h => h13 (over_ne h (by decide)), fun h => h16 (over_ne h (by decide)), fun h => h17 (over_ne h (by decide)), fun h => h18 (over_ne h (by decide)), fun h => n14 (over_ne h (by decide)), fun h => n15 (over_ne h (by decide)), fun h => n19 (over_ne h (by decide)), fun h => n20 (over_ne h (by decide))⟩
    · cases ho
      have d9 := h9 (hd { on := 9, ground := .guard } (by simp) rfl)
      subst d9
      go_simp
      exact ⟨_, _, _, _, _, _, _, _, _, _, _, _, _, _, _, _, _, _, _, _, rfl, hg, fun h => h0 (over_ne h (by decide)), fun h => h1 (over_ne h (by decide)), fun h => h2 (over_ne h (by decide)), fun h => h3 (over_ne h (by decide)), fun h => h4 (over_ne h (by decide)), fun h => h5 (over_ne h (by decide)), fun h => h6 (over_ne h (by decide)), fun h => h7 (over_ne h (by decide)), fun h => h8 (over_ne h (by decide)), fun h => h9 (over_ne h (by decide)), fun h => h13 (over_ne h (by decide)), fun h => h16 (over_ne h (by decide)), fun h => h17 (over_ne h (by decide)), fun h => h18 (over_ne h (by decide)), fun h => n14 (over_ne h (by decide)), fun h => n15 (over_ne h (by decide)), fun h => n19 (over_ne h (by decide)), fun h => n20 (over_ne h (by decide))⟩
    · cases ho
      have d9 := h9 (hd { on := 9, ground := .guard } (by simp) rfl)
      subst d9
      go_simp
      exact ⟨_, _, _, _, _, _, _, _, _, _, _, _, _, _, _, _, _, _, _, _, rfl, hg, fun h => h0 (over_ne h (by decide)), fun h => h1 (over_ne h (by decide)), fun h => h2 (over_ne h (by decide)), fun h => h3 (over_ne h (by decide)), fun h => h4 (over_ne h (by decide)), fun h => h5 (over_ne h (by decide)), fun h => h6 (over_ne h (by decide)), fun h => h7 (over_ne h (by decide)), fun h => h8 (over_ne h (by decide)), fun h => h9 (over_ne h (by decide)), fun h => h13 (over_ne h (by decide)), fun h => h16 (over_ne h (by decide)), fun h => h17 (over_ne h (by decide)), fun h => h18 (over_ne h (by decide)), fun h => n14 (over_ne h (by decide)), fun h => n15 (over_ne h (by decide)), fun h => n19 (over_ne h (by decide)), fun h => n20 (over_ne h (by decide))⟩
    · cases ho
      have d9 := h9 (hd { on := 9, ground := .data } (by simp) rfl)
      subst d9
      go_simp
      exact ⟨_, _, _, _, _, _, _, _, _, _, _, _, _, _, _, _, _, _, _, _, rfl, hg, fun h => h0 (over_ne h (by decide)), fun h => h1 (over_ne h (by decide)), fun h => h2 (over_ne h (by decide)), fun h => h3 (over_ne h (by decide)), fun h => h4 (over_ne h (by decide)), fun h => h5 (over_ne h (by decide)), fun h => h6 (over_ne h (by decide)), fun h => h7 (over_ne h (by decide)), fun h => h8 (over_ne h (by decide)), fun h => h9 (over_ne h (by decide)), fun _ => rfl, fun h => h16 (over_ne h (by decide)), fun h => h17 (over_ne h (by decide)), fun h => h18 (over_ne h (by decide)), fun h => n14 (over_ne h (by decide)), fun h => n15 (over_ne h (by decide)), fun h => n19 (over_ne h (by decide)), fun h => n20 (over_ne h (by decide))⟩
    · cases ho
      have d0 := h0 (hd { on := 0, ground := .data } (by simp) rfl)
      have d13 := h13 (hd { on := 13, ground := .data } (by simp) rfl)
      subst d0 d13
      go_simp
      go_at_call 43
      refine (popen P _ ss _ _ (Hv.out.grow (hgW.trans hg))).mono ?_
      rintro e w1 ⟨hg1, hbad, _⟩
      have hbad := hbad (by rw [← Hcd.out]; exact hc)
      rw [← Hcd.out] at hbad
      subst hbad
      go_simp
      show _ = [] ∧ _
      exact ⟨rfl, rfl, hgW.trans (hg.trans hg1)⟩
    · cases ho
      exact absurd (hd { on := 14, ground := .data } (by simp) rfl) n14
    · cases ho
      go_simp
      exact ⟨_, _, _, _, _, _, _, _, _, _, _, _, _, _, _, _, _, _, _, _, rfl, hg, fun h => h0 (over_ne h (by decide)), fun h => h1 (over_ne h (by decide)), fun h => h2 (over_ne h (by decide)), fun h => h3 (over_ne h (by decide)), fun h => h4 (over_ne h (by decide)), fun h => h5 (over_ne h (by decide)), fun h => h6 (over_ne h (by decide)), fun h => h7 (over_ne h (by decide)), fun h => h8 (over_ne h (by decide)), fun h => h9 (over_ne h (by decide)), fun h => h13 (over_ne h (by decide)), fun _ => rfl, fun h => h17 (over_ne h (by decide)), fun h => h18 (over_ne h (by decide)), fun h => n14 (over_ne h (by decide)), fun h => n15 (over_ne h (by decide)), fun h => n19 (over_ne h (by decide)), fun h => n20 (over_ne h (by decide))⟩
    · cases ho
      go_simp
      exact ⟨_, _, _, _, _, _, _, _, _, _, _, _, _, _, _, _, _, _, _, _, rfl, hg, fun h => h0 (over_ne h (by decide)), fun h => h1 (over_ne h (by decide)), fun h => h2 (over_ne h (by decide)), fun h => h3 (over_ne h (by decide)), fun h => h4 (over_ne h (by decide)), fun h => h5 (over_ne h (by decide)), fun h => h6 (over_ne h (by decide)), fun h => h7 (over_ne h (by decide)), fun h => h8 (over_ne h (by decide)), fun h => h9 (over_ne h (by decide)), fun h => h13 (over_ne h (by decide)), fun h => h16 (over_ne h (by decide)), fun _ => rfl, fun h => h18 (over_ne h (by decide)), fun h => n14 (over_ne h (by decide)), fun h => n15 (over_ne h (by decide)), fun h => n19 (over_ne h (by decide)), fun h => n20 (over_ne h (by decide))⟩
    · cases ho
      have d16 := h16 (hd { on := 16, ground := .data } (by simp) rfl)
      have d17 := h17 (hd { on := 17, ground := .data } (by simp) rfl)
      subst d16 d17
      go_simp
      exact ⟨_, _, _, _, _, _, _, _, _, _, _, _, _, _, _, _, _, _, _, _, rfl, hg, fun h => h0 (over_ne h (by decide)), fun h => h1 (over_ne h (by decide)), fun h => h2 (over_ne h (by decide)), fun h => h3 (over_ne h (by decide)), fun h => h4 (over_ne h (by decide)), fun h => h5 (over_ne h (by decide)), fun h => h6 (over_ne h (by decide)), fun h => h7 (over_ne h (by decide)), fun h => h8 (over_ne h (by decide)), fun h => h9 (over_ne h (by decide)), fun h => h13 (over_ne h (by decide)), fun h => h16 (over_ne h (by decide)), fun h => h17 (over_ne h (by decide)), fun _ => rfl, fun h => n14 (over_ne h (by decide)), fun h => n15 (over_ne h (by decide)), fun h => n19 (over_ne h (by decide)), fun h => n20 (over_ne h (by decide))⟩
    · cases ho
      exact absurd (hd { on := 15, ground := .data } (by simp) rfl) n15
    · cases ho
      exact absurd (hd { on := 19, ground := .chain } (by simp) rfl) n19
def OpInvH (W : World) (W0 W1 : Nat) (P p q : Int) (a : Option Addr) (n cap : Nat) (L : Array Bool) (A : Act) (V : World) : Prop :=
  ∃ v6 v8 v9 v10 v11 v12 v13 v14 v15 v16 v17 v18 v19 v20 v21 v22 v23 v24 v25 v26, A = { tmps := #[.agg #[.int .i64 P, .slice a n cap], .int .i64 p, .int .i64 q, .pointer (some ⟨W0, 0, none⟩), undef, undef, v6, .pointer (some ⟨W1, 0, none⟩), v8, v9, v10, v11, v12, v13, v14, v15, v16, v17, v18, v19, v20, v21, v22, v23, v24, v25, v26], defers := [] } ∧ (Grow W V) ∧ (Over L 0 → (v8 = .agg #[.int .i64 P, .slice a n cap])) ∧ (Over L 1 → (v9 = .agg #[.int .i64 P, .slice a n cap])) ∧ (Over L 2 → (v10 = .int .i64 p)) ∧ (Over L 3 → (v11 = .bool true)) ∧ (Over L 4 → (v12 = .bool true)) ∧ (Over L 5 → (v13 = .agg #[.int .i64 P, .slice a n cap])) ∧ (Over L 6 → (v14 = .int .i64 q)) ∧ (Over L 7 → (v15 = .bool true)) ∧ (Over L 8 → (v16 = .bool true)) ∧ (Over L 9 → (v17 = .bool true)) ∧ (Over L 10 → (v18 = .int .i64 p)) ∧ (Over L 11 → (v19 = .int .i64 q)) ∧ (Over L 12 → (v20 = .bool (p != q))) ∧ (Over L 13 → (v21 = .bool (p != q))) ∧ (Over L 16 → (v24 = .int .i64 p)) ∧ (Over L 17 → (v25 = .int .i64 q)) ∧ (Over L 18 → (v26 = .agg #[.int .i64 p, .int .i64 q])) ∧ ¬ Over L 14 ∧ ¬ Over L 15 ∧ ¬ Over L 19 ∧ ¬ Over L 20
set_option maxRecDepth 100000 in
set_option maxHeartbeats 1000000 in
theorem popened_badH (P p q k : Int) (v : Value) (ss : List (List Int)) (w : World) (hv : IsSheets w v ss) (hr : ∀ n V, Grow w V → Calls Try.prog 62 #[.agg #[.int .i64 P, v], .int .i64 n] V fun e w' => e = .returned (.bool (inB n 0 k)) ∧ Grow V w') (h1 : inB p 0 k = true) (h2 : inB q 0 k = true) (hc : codeO P ss (p != q) ≠ 0) :
    Calls Try.prog 67 #[.agg #[.int .i64 P, v], .int .i64 p, .int .i64 q] w fun e w' => e = .panicked (refusal (codeO P ss (p != q))) ∧ Grow w w' := by
  obtain ⟨a, cap, rfl, hcap, hlen, hrow⟩ := id hv
  have Hv := Lib.hid hv
  have HR := Lib.hid hr
  have H1 := Lib.hid h1
  have H2 := Lib.hid h2
  obtain ⟨cd, hcd⟩ : ∃ cd, cd = codeO P ss (p != q) := ⟨_, rfl⟩
  have Hcd := Lib.hid hcd
  rw [← hcd] at hc ⊢
  clear hv hr hcd h1 h2
  go_enter Try.func67, Try.ntmps67
  go_wp2_with fail
  obtain ⟨W, hW⟩ : ∃ W, W = ((w.alloc (.cells #[.int .i64 P, .slice a ss.length cap] 24)).alloc (.cells #[.int .i64 0, .int .i64 0] 92)) := ⟨_, rfl⟩
  have hgW : Grow w W := by rw [hW]; exact (((Grow.refl w).alloc _).alloc _)
  have hW00 : W.cell? ⟨w.heap.size, 0, none⟩ = some (.int .i64 P) := by rw [hW]; exact Grow.keepA (cell_new (by simp) rfl) _
  have hW01 : W.cell? ⟨w.heap.size, 1, none⟩ = some (.slice a ss.length cap) := by rw [hW]; exact Grow.keepA (cell_new (by simp) rfl) _
  have hWf0 : ∀ o, W.frozen? ⟨w.heap.size, o, none⟩ = false := by intro o; rw [hW]; exact (((Grow.refl _).alloc _).marks _ _ (by simp <;> omega)).trans (hot_new (by simp))
  have hWl0 : w.heap.size < W.heap.size := by rw [hW]; simp; try omega
  have hW10 : W.cell? ⟨w.heap.size + 1, 0, none⟩ = some (.int .i64 0) := by rw [hW]; exact cell_new (by simp) rfl
  have hW11 : W.cell? ⟨w.heap.size + 1, 1, none⟩ = some (.int .i64 0) := by rw [hW]; exact cell_new (by simp) rfl
  have hWf1 : ∀ o, W.frozen? ⟨w.heap.size + 1, o, none⟩ = false := by intro o; rw [hW]; exact hot_new (by simp)
  have hWl1 : w.heap.size + 1 < W.heap.size := by rw [hW]; simp; try omega
  rw [← hW]
  clear hW
  have hWd : ∀ n, (W.drewN n).heap.size = W.heap.size := fun _ => rfl
  have hWq : ∀ n o b j, b < W.heap.size → ((W.drewN n).alloc o).cell? ⟨b, j, none⟩ = W.cell? ⟨b, j, none⟩ := cell_drewN_alloc W
  have hWr : ∀ n o b j, b < W.heap.size → ((W.drewN n).alloc o).frozen? ⟨b, j, none⟩ = W.frozen? ⟨b, j, none⟩ := hot_drewN_alloc W
  have hWb0 : w.heap.size ≤ w.heap.size := by omega
  have hWb1 : w.heap.size ≤ w.heap.size + 1 := by omega
  have hWn01 : w.heap.size ≠ w.heap.size + 1 := by omega
  have hWn10 : w.heap.size + 1 ≠ w.heap.size := by omega
  obtain ⟨W1, hWe1⟩ : ∃ g, w.heap.size + 1 = g := ⟨_, rfl⟩
  rw [hWe1] at hW10 hW11 hWf1 hWl1 hWb1 hWn10 hWn01
  (try rw [hWe1])
  have hWk1 := Lib.hid hWe1
  clear hWe1
  obtain ⟨W0, hWe0⟩ : ∃ g, w.heap.size = g := ⟨_, rfl⟩
  have hWb0 : w.heap.size ≤ W0 := by omega
  rw [hWe0] at hW00 hW01 hWf0 hWl0 hWn01 hWn10
  (try rw [hWe0])
  have hWk0 := Lib.hid hWe0
  clear hWe0
  refine wp_region_inv (by kernel_rfl) (OpInvH W W0 W1 P p q a ss.length cap) (by kernel_rfl) ?_ ?_ ?_
  · exact fun L hL => ⟨.pointer none, _, _, _, _, _, _, _, _, _, _, _, _, _, _, _, _, _, _, _, rfl, (Grow.refl W).drew, fun h => absurd h (hL _), fun h => absurd h (hL _), fun h => absurd h (hL _), fun h => absurd h (hL _), fun h => absurd h (hL _), fun h => absurd h (hL _), fun h => absurd h (hL _), fun h => absurd h (hL _), fun h => absurd h (hL _), fun h => absurd h (hL _), fun h => absurd h (hL _), fun h => absurd h (hL _), fun h => absurd h (hL _), fun h => absurd h (hL _), fun h => absurd h (hL _), fun h => absurd h (hL _), fun h => absurd h (hL _), hL _, hL _, hL _, hL _⟩
  · rintro L A V ⟨v6, v8, v9, v10, v11, v12, v13, v14, v15, v16, v17, v18, v19, v20, v21, v22, v23, v24, v25, v26, rfl, hg, h0, h1, h2, h3, h4, h5, h6, h7, h8, h9, h10, h11, h12, h13, h16, h17, h18, n14, n15, n19, n20⟩ hall
    exact absurd (hall 14 (by simp)) n14
  · rintro i o L A V ho hi ⟨v6, v8, v9, v10, v11, v12, v13, v14, v15, v16, v17, v18, v19, v20, v21, v22, v23, v24, v25, v26, rfl, hg, h0, h1, h2, h3, h4, h5, h6, h7, h8, h9, h10, h11, h12, h13, h16, h17, h18, n14, n15, n19, n20⟩ hno hd
    have hio := (Array.getElem?_eq_some_iff.1 ho).1
    simp only [List.size_toArray, List.length_cons, List.length_nil, Nat.reduceAdd] at hio
    obtain rfl | rfl | rfl | rfl | rfl | rfl | rfl | rfl | rfl | rfl | rfl | rfl | rfl | rfl | rfl | rfl | rfl | rfl | rfl | rfl | rfl : i = 0 ∨ i = 1 ∨ i = 2 ∨ i = 3 ∨ i = 4 ∨ i = 5 ∨ i = 6 ∨ i = 7 ∨ i = 8 ∨ i = 9 ∨ i = 10 ∨ i = 11 ∨ i = 12 ∨ i = 13 ∨ i = 14 ∨ i = 15 ∨ i = 16 ∨ i = 17 ∨ i = 18 ∨ i = 19 ∨ i = 20 := by omega
    · cases ho
      have c0 := hg.keeps hW00
      have c1 := hg.keeps hW01
      go_simp
      exact ⟨_, _, _, _, _, _, _, _, _, _, _, _, _, _, _, _, _, _, _, _, rfl, hg, fun _ => rfl, fun h => h1 (over_ne h (by decide)), fun h => h2 (over_ne h (by decide)), fun h => h3 (over_ne h (by decide)), fun h => h4 (over_ne h (by decide)), fun h => h5 (over_ne h (by decide)), fun h => h6 (over_ne h (by decide)), fun h => h7 (over_ne h (by decide)), fun h => h8 (over_ne h (by decide)), fun h => h9 (over_ne h (by decide)), fun h => h10 (over_ne h (by decide)), fun h => h11 (over_ne h (by decide)), fun h => h12 (over_ne h (by decide)), fun h => h13 (over_ne h (by decide)), fun h => h16 (over_ne h (by decide)), fun h => h17 (over_ne h (by decide)), fun h => h18 (over_ne h (by decide)), fun h => n14 (over_ne h (by decide)), fun h => n15 (over_ne h (by decide)), fun h => n19 (over_ne h (by decide)), fun h => n20 (over_ne h (by decide))⟩
    · cases ho
      have c0 := hg.keeps hW00
      have c1 := hg.keeps hW01
      go_simp
      exact ⟨_, _, _, _, _, _, _, _, _, _, _, _, _, _, _, _, _, _, _, _, rfl, hg, fun h => h0 (over_ne h (by decide)), fun _ => rfl, fun h => h2 (over_ne h (by decide)), fun h => h3 (over_ne h (by decide)), fun h => h4 (over_ne h (by decide)), fun h => h5 (over_ne h (by decide)), fun h => h6 (over_ne h (by decide)), fun h => h7 (over_ne h (by decide)), fun h => h8 (over_ne h (by decide)), fun h => h9 (over_ne h (by decide)), fun h => h10 (over_ne h (by decide)), fun h => h11 (over_ne h (by decide)), fun h => h12 (over_ne h (by decide)), fun h => h13 (over_ne h (by decide)), fun h => h16 (over_ne h (by decide)), fun h => h17 (over_ne h (by decide)), fun h => h18 (over_ne h (by decide)), fun h => n14 (over_ne h (by decide)), fun h => n15 (over_ne h (by decide)), fun h => n19 (over_ne h (by decide)), fun h => n20 (over_ne h (by decide))⟩
    · cases ho
      go_simp
      exact ⟨_, _, _, _, _, _, _, _, _, _, _, _, _, _, _, _, _, _, _, _, rfl, hg, fun h => h0 (over_ne h (by decide)), fun h => h1 (over_ne h (by decide)), fun _ => rfl, fun h => h3 (over_ne h (by decide)), fun h => h4 (over_ne h (by decide)), fun h => h5 (over_ne h (by decide)), fun h => h6 (over_ne h (by decide)), fun h => h7 (over_ne h (by decide)), fun h => h8 (over_ne h (by decide)), fun h => h9 (over_ne h (by decide)), fun h => h10 (over_ne h (by decide)), fun h => h11 (over_ne h (by decide)), fun h => h12 (over_ne h (by decide)), fun h => h13 (over_ne h (by decide)), fun h => h16 (over_ne h (by decide)), fun h => h17 (over_ne h (by decide)), fun h => h18 (over_ne h (by decide)), fun h => n14 (over_ne h (by decide)), fun h => n15 (over_ne h (by decide)), fun h => n19 (over_ne h (by decide)), fun h => n20 (over_ne h (by decide))⟩
    · cases ho
      have d1 := h1 (hd { on := 1, ground := .data } (by simp) rfl)
      have d2 := h2 (hd { on := 2, ground := .data } (by simp) rfl)
      subst d1 d2
      go_simp
      go_at_call 62
      refine (HR.out _ _ (hgW.trans hg)).mono ?_
      rw [H1.out]
      rintro e V2 ⟨rfl, hgV⟩
      go_simp
      exact ⟨_, _, _, _, _, _, _, _, _, _, _, _, _, _, _, _, _, _, _, _, rfl, (fun h => h.trans hgV) hg, fun h => h0 (over_ne h (by decide)), fun h => h1 (over_ne h (by decide)), fun h => h2 (over_ne h (by decide)), fun _ => rfl, fun h => h4 (over_ne h (by decide)), fun h => h5 (over_ne h (by decide)), fun h => h6 (over_ne h (by decide)), fun h => h7 (over_ne h (by decide)), fun h => h8 (over_ne h (by decide)), fun h => h9 (over_ne h (by decide)), fun h => h10 (over_ne h (by decide)), fun h => h11 (over_ne h (by decide)), fun h => h12 (over_ne h (by decide)), fun h => h13 (over_ne h (by decide)), fun h => h16 (over_ne h (by decide)), fun h => h17 (over_ne h (by decide)), fun h => h18 (over_ne h (by decide)), fun h => n14 (over_ne h (by decide)), fun h => n15 (over_ne h (by decide)), fun h => n19 (over_ne h (by decide)), fun h => n20 (over_ne h (by decide))⟩
    · cases ho
      have d3 := h3 (hd { on := 3, ground := .data } (by simp) rfl)
      subst d3
      go_simp
      exact ⟨_, _, _, _, _, _, _, _, _, _, _, _, _, _, _, _, _, _, _, _, rfl, hg, fun h => h0 (over_ne h (by decide)), fun h => h1 (over_ne h (by decide)), fun h => h2 (over_ne h (by decide)), fun h => h3 (over_ne h (by decide)), fun _ => rfl, fun h => h5 (over_ne h (by decide)), fun h => h6 (over_ne h (by decide)), fun h => h7 (over_ne h (by decide)), fun h => h8 (over_ne h (by decide)), fun h => h9 (over_ne h (by decide)), fun h => h10 (over_ne h (by decide)), fun h => h11 (over_ne h (by decide)), fun h => h12 (over_ne h (by decide)), fun h => h13 (over_ne h (by decide)), fun h => h16 (over_ne h (by decide)), fun h => h17 (over_ne h (by decide)), fun h => h18 (over_ne h (by decide)), fun h => n14 (over_ne h (by decide)), fun h => n15 (over_ne h (by decide)), fun h => n19 (over_ne h (by decide)), fun h => n20 (over_ne h (by decide))⟩
    · cases ho
      have d4 := h4 (hd { on := 4, ground := .guard } (by simp) rfl)
      have c0 := hg.keeps hW00
      have c1 := hg.keeps hW01
      subst d4
      go_simp
      exact ⟨_, _, _, _, _, _, _, _, _, _, _, _, _, _, _, _, _, _, _, _, rfl, hg, fun h => h0 (over_ne h (by decide)), fun h => h1 (over_ne h (by decide)), fun h => h2 (over_ne h (by decide)), fun h => h3 (over_ne h (by decide)), fun h => h4 (over_ne h (by decide)), fun _ => rfl, fun h => h6 (over_ne h (by decide)), fun h => h7 (over_ne h (by decide)), fun h => h8 (over_ne h (by decide)), fun h => h9 (over_ne h (by decide)), fun h => h10 (over_ne h (by decide)), fun h => h11 (over_ne h (by decide)), fun h => h12 (over_ne h (by decide)), fun h => h13 (over_ne h (by decide)), fun h => h16 (over_ne h (by decide)), fun h => h17 (over_ne h (by decide)), fun h => h18 (over_ne h (by decide)), fun h => n14 (over_ne h (by decide)), fun h => n15 (over_ne h (by decide)), fun h => n19 (over_ne h (by decide)), fun h => n20 (over_ne h (by decide))⟩
    · cases ho
      have d4 := h4 (hd { on := 4, ground := .guard } (by simp) rfl)
      subst d4
      go_simp
      exact ⟨_, _, _, _, _, _, _, _, _, _, _, _, _, _, _, _, _, _, _, _, rfl, hg, fun h => h0 (over_ne h (by decide)), fun h => h1 (over_ne h (by decide)), fun h => h2 (over_ne h (by decide)), fun h => h3 (over_ne h (by decide)), fun h => h4 (over_ne h (by decide)), fun h => h5 (over_ne h (by decide)), fun _ => rfl, fun h => h7 (over_ne h (by decide)), fun h => h8 (over_ne h (by decide)), fun h => h9 (over_ne h (by decide)), fun h => h10 (over_ne h (by decide)), fun h => h11 (over_ne h (by decide)), fun h => h12 (over_ne h (by decide)), fun h => h13 (over_ne h (by decide)), fun h => h16 (over_ne h (by decide)), fun h => h17 (over_ne h (by decide)), fun h => h18 (over_ne h (by decide)), fun h => n14 (over_ne h (by decide)), fun h => n15 (over_ne h (by decide)), fun h => n19 (over_ne h (by decide)), fun h => n20 (over_ne h (by decide))⟩
    · cases ho
      have d4 := h4 (hd { on := 4, ground := .guard } (by simp) rfl)
      have d5 := h5 (hd { on := 5, ground := .data } (by simp) rfl)
      have d6 := h6 (hd { on := 6, ground := .data } (by simp) rfl)
      subst d4 d5 d6
      go_simp
      go_at_call 62
      refine (HR.out _ _ (hgW.trans hg)).mono ?_
      rw [H2.out]
      rintro e V2 ⟨rfl, hgV⟩
      go_simp
      exact ⟨_, _, _, _, _, _, _, _, _, _, _, _, _, _, _, _, _, _, _, _, rfl, (fun h => h.trans hgV) hg, fun h => h0 (over_ne h (by decide)), fun h => h1 (over_ne h (by decide)), fun h => h2 (over_ne h (by decide)), fun h => h3 (over_ne h (by decide)), fun h => h4 (over_ne h (by decide)), fun h => h5 (over_ne h (by decide)), fun h => h6 (over_ne h (by decide)), fun _ => rfl, fun h => h8 (over_ne h (by decide)), fun h => h9 (over_ne h (by decide)), fun h => h10 (over_ne h (by decide)), fun h => h11 (over_ne h (by decide)), fun h => h12 (over_ne h (by decide)), fun h => h13 (over_ne h (by decide)), fun h => h16 (over_ne h (by decide)), fun h => h17 (over_ne h (by decide)), fun h => h18 (over_ne h (by decide)), fun h => n14 (over_ne h (by decide)), fun h => n15 (over_ne h (by decide)), fun h => n19 (over_ne h (by decide)), fun h => n20 (over_ne h (by decide))⟩
    · cases ho
      have d4 := h4 (hd { on := 4, ground := .data } (by simp) rfl)
      have d7 := h7 (hd { on := 7, ground := .data } (by simp) rfl)
      subst d4 d7
      go_simp
      exact ⟨_, _, _, _, _, _, _, _, _, _, _, _, _, _, _, _, _, _, _, _, rfl, hg, fun h => h0 (over_ne h (by decide)), fun h => h1 (over_ne h (by decide)), fun h => h2 (over_ne h (by decide)), fun h => h3 (over_ne h (by decide)), fun h => h4 (over_ne h (by decide)), fun h => h5 (over_ne h (by decide)), fun h => h6 (over_ne h (by decide)), fun h => h7 (over_ne h (by decide)), fun _ => rfl, fun h => h9 (over_ne h (by decide)), fun h => h10 (over_ne h (by decide)), fun h => h11 (over_ne h (by decide)), fun h => h12 (over_ne h (by decide)), fun h => h13 (over_ne h (by decide)), fun h => h16 (over_ne h (by decide)), fun h => h17 (over_ne h (by decide)), fun h => h18 (over_ne h (by decide)), fun h => n14 (over_ne h (by decide)), fun h => n15 (over_ne h (by decide)), fun h => n19 (over_ne h (by decide)), fun h => n20 (over_ne h (by decide))⟩
    · cases ho
      have d8 := h8 (hd { on := 8, ground := .data } (by simp) rfl)
      subst d8
      go_simp
      exact ⟨_, _, _, _, _, _, _, _, _, _, _, _, _, _, _, _, _, _, _, _, rfl, hg, fun h => h0 (over_ne h (by decide)), fun h => h1 (over_ne h (by decide)), fun h => h2 (over_ne h (by decide)), fun h => h3 (over_ne h (by decide)), fun h => h4 (over_ne h (by decide)), fun h => h5 (over_ne h (by decide)), fun h => h6 (over_ne h (by decide)), fun h => h7 (over_ne h (by decide)), fun h => h8 (over_ne h (by decide)), fun _ => rfl, fun h => h10 (over_ne h (by decide)), fun h => h11 (over_ne h (by decide)), fun h => h12 (over_ne h (by decide)), fun h => h13 (over_ne h (by decide)), fun h => h16 (over_ne h (by decide)), fun h => h17 (over_ne h (by decide)), fun h => h18 (over_ne h (by decide)), fun h => n14 (over_ne h (by decide)), fun h => n15 (over_ne h (by decide)), fun h => n19 (over_ne h (by decide)), fun h => n20 (over_ne h (by decide))⟩
    · cases ho
      have d9 := h9 (hd { on := 9, ground := .guard } (by simp) rfl)
      subst d9
      go_simp
      exact ⟨_, _, _, _, _, _, _, _, _, _, _, _, _, _, _, _, _, _, _, _, rfl, hg, fun h => h0 (over_ne h (by decide)), fun h => h1 (over_ne h (by decide)), fun h => h2 (over_ne h (by decide)), fun h => h3 (over_ne h (by decide)), fun h => h4 (over_ne h (by decide)), fun h => h5 (over_ne h (by decide)), fun h => h6 (over_ne h (by decide)), fun h => h7 (over_ne h (by decide)), fun h => h8 (over_ne h (by decide)), fun h => h9 (over_ne h (by decide)), fun _ => rfl, fun h => h11 (over_ne h (by decide)), fun h => h12 (over_ne h (by decide)), fun h => h13 (over_ne h (by decide)), fun h => h16 (over_ne h (by decide)), fun h => h17 (over_ne h (by decide)), fun h => h18 (over_ne h (by decide)), fun h => n14 (over_ne h (by decide)), fun h => n15 (over_ne h (by decide)), fun h => n19 (over_ne h (by decide)), fun h => n20 (over_ne h (by decide))⟩
    · cases ho
      have d9 := h9 (hd { on := 9, ground := .guard } (by simp) rfl)
      subst d9
      go_simp
      exact ⟨_, _, _, _, _, _, _, _, _, _, _, _, _, _, _, _, _, _, _, _, rfl, hg, fun h => h0 (over_ne h (by decide)), fun h => h1 (over_ne h (by decide)), fun h => h2 (over_ne h (by decide)), fun h => h3 (over_ne h (by decide)), fun h => h4 (over_ne h (by decide)), fun h => h5 (over_ne h (by decide)), fun h => h6 (over_ne h (by decide)), fun h => h7 (over_ne h (by decide)), fun h => h8 (over_ne h (by decide)), fun h => h9 (over_ne h (by decide)), fun h => h10 (over_ne h (by decide)), fun _ => rfl, fun h => h12 (over_ne h (by decide)), fun h => h13 (over_ne h (by decide)), fun h => h16 (over_ne h (by decide)), fun h => h17 (over_ne h (by decide)), fun h => h18 (over_ne h (by decide)), fun h => n14 (over_ne h (by decide)), fun h => n15 (over_ne h (by decide)), fun h => n19 (over_ne h (by decide)), fun h => n20 (over_ne h (by decide))⟩
    · cases ho
      have d9 := h9 (hd { on := 9, ground := .guard } (by simp) rfl)
      have d10 := h10 (hd { on := 10, ground := .data } (by simp) rfl)
      have d11 := h11 (hd { on := 11, ground := .data } (by simp) rfl)
      subst d9 d10 d11
      go_simp
      exact ⟨_, _, _, _, _, _, _, _, _, _, _, _, _, _, _, _, _, _, _, _, rfl, hg, fun h => h0 (over_ne h (by decide)), fun h => h1 (over_ne h (by decide)), fun h => h2 (over_ne h (by decide)), fun h => h3 (over_ne h (by decide)), fun h => h4 (over_ne h (by decide)), fun h => h5 (over_ne h (by decide)), fun h => h6 (over_ne h (by decide)), fun h => h7 (over_ne h (by decide)), fun h => h8 (over_ne h (by decide)), fun h => h9 (over_ne h (by decide)), fun h => h10 (over_ne h (by decide)), fun h => h11 (over_ne h (by decide)), fun _ => rfl, fun h => h13 (over_ne h (by decide)), fun h => h16 (over_ne h (by decide)), fun h => h17 (over_ne h (by decide)), fun h => h18 (over_ne h (by decide)), fun h => n14 (over_ne h (by decide)), fun h => n15 (over_ne h (by decide)), fun h => n19 (over_ne h (by decide)), fun h => n20 (over_ne h (by decide))⟩
    · cases ho
      have d9 := h9 (hd { on := 9, ground := .data } (by simp) rfl)
      have d12 := h12 (hd { on := 12, ground := .data } (by simp) rfl)
      subst d9 d12
      go_simp
      exact ⟨_, _, _, _, _, _, _, _, _, _, _, _, _, _, _, _, _, _, _, _, rfl, hg, fun h => h0 (over_ne h (by decide)), fun h => h1 (over_ne h (by decide)), fun h => h2 (over_ne h (by decide)), fun h => h3 (over_ne h (by decide)), fun h => h4 (over_ne h (by decide)), fun h => h5 (over_ne h (by decide)), fun h => h6 (over_ne h (by decide)), fun h => h7 (over_ne h (by decide)), fun h => h8 (over_ne h (by decide)), fun h => h9 (over_ne h (by decide)), fun h => h10 (over_ne h (by decide)), fun h => h11 (over_ne h (by decide)), fun h => h12 (over_ne h (by decide)), fun _ => rfl, fun h => h16 (over_ne h (by decide)), fun h => h17 (over_ne h (by decide)), fun h => h18 (over_ne h (by decide)), fun h => n14 (over_ne h (by decide)), fun h => n15 (over_ne h (by decide)), fun h => n19 (over_ne h (by decide)), fun h => n20 (over_ne h (by decide))⟩
    · cases ho
      have d0 := h0 (hd { on := 0, ground := .data } (by simp) rfl)
      have d13 := h13 (hd { on := 13, ground := .data } (by simp) rfl)
      subst d0 d13
      go_simp
      go_at_call 43
      refine (popen P _ ss _ _ (Hv.out.grow (hgW.trans hg))).mono ?_
      rintro e w1 ⟨hg1, hbad, _⟩
      have hbad := hbad (by rw [← Hcd.out]; exact hc)
      rw [← Hcd.out] at hbad
      subst hbad
      go_simp
      show _ = [] ∧ _
      exact ⟨rfl, rfl, hgW.trans (hg.trans hg1)⟩
    · cases ho
      exact absurd (hd { on := 14, ground := .data } (by simp) rfl) n14
    · cases ho
      go_simp
      exact ⟨_, _, _, _, _, _, _, _, _, _, _, _, _, _, _, _, _, _, _, _, rfl, hg, fun h => h0 (over_ne h (by decide)), fun h => h1 (over_ne h (by decide)), fun h => h2 (over_ne h (by decide)), fun h => h3 (over_ne h (by decide)), fun h => h4 (over_ne h (by decide)), fun h => h5 (over_ne h (by decide)), fun h => h6 (over_ne h (by decide)), fun h => h7 (over_ne h (by decide)), fun h => h8 (over_ne h (by decide)), fun h => h9 (over_ne h (by decide)), fun h => h10 (over_ne h (by decide)), fun h => h11 (over_ne h (by decide)), fun h => h12 (over_ne h (by decide)), fun h => h13 (over_ne h (by decide)), fun _ => rfl, fun h => h17 (over_ne h (by decide)), fun h => h18 (over_ne h (by decide)), fun h => n14 (over_ne h (by decide)), fun h => n15 (over_ne h (by decide)), fun h => n19 (over_ne h (by decide)), fun h => n20 (over_ne h (by decide))⟩
    · cases ho
      go_simp
      exact ⟨_, _, _, _, _, _, _, _, _, _, _, _, _, _, _, _, _, _, _, _, rfl, hg, fun h => h0 (over_ne h (by decide)), fun h => h1 (over_ne h (by decide)), fun h => h2 (over_ne h (by decide)), fun h => h3 (over_ne h (by decide)), fun h => h4 (over_ne h (by decide)), fun h => h5 (over_ne h (by decide)), fun h => h6 (over_ne h (by decide)), fun h => h7 (over_ne h (by decide)), fun h => h8 (over_ne h (by decide)), fun h => h9 (over_ne h (by decide)), fun h => h10 (over_ne h (by decide)), fun h => h11 (over_ne h (by decide)), fun h => h12 (over_ne h (by decide)), fun h => h13 (over_ne h (by decide)), fun h => h16 (over_ne h (by decide)), fun _ => rfl, fun h => h18 (over_ne h (by decide)), fun h => n14 (over_ne h (by decide)), fun h => n15 (over_ne h (by decide)), fun h => n19 (over_ne h (by decide)), fun h => n20 (over_ne h (by decide))⟩
    · cases ho
      have d16 := h16 (hd { on := 16, ground := .data } (by simp) rfl)
      have d17 := h17 (hd { on := 17, ground := .data } (by simp) rfl)
      subst d16 d17
      go_simp
      exact ⟨_, _, _, _, _, _, _, _, _, _, _, _, _, _, _, _, _, _, _, _, rfl, hg, fun h => h0 (over_ne h (by decide)), fun h => h1 (over_ne h (by decide)), fun h => h2 (over_ne h (by decide)), fun h => h3 (over_ne h (by decide)), fun h => h4 (over_ne h (by decide)), fun h => h5 (over_ne h (by decide)), fun h => h6 (over_ne h (by decide)), fun h => h7 (over_ne h (by decide)), fun h => h8 (over_ne h (by decide)), fun h => h9 (over_ne h (by decide)), fun h => h10 (over_ne h (by decide)), fun h => h11 (over_ne h (by decide)), fun h => h12 (over_ne h (by decide)), fun h => h13 (over_ne h (by decide)), fun h => h16 (over_ne h (by decide)), fun h => h17 (over_ne h (by decide)), fun _ => rfl, fun h => n14 (over_ne h (by decide)), fun h => n15 (over_ne h (by decide)), fun h => n19 (over_ne h (by decide)), fun h => n20 (over_ne h (by decide))⟩
    · cases ho
      exact absurd (hd { on := 15, ground := .data } (by simp) rfl) n15
    · cases ho
      exact absurd (hd { on := 19, ground := .chain } (by simp) rfl) n19
end Go.Proofs.Yteijilbdllpbcaa
