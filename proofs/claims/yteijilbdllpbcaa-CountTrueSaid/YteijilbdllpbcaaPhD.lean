/- The program of layer 1: Errors. Conditions: sizes. -/
import Derived.Test.YteijilbdllpbcaaPhB
namespace Go.Proofs.Yteijilbdllpbcaa
open Go.RowKit

/-- A count's address: its sheets, its truths. -/
def FullAt (V : World) (ss T : List (List Int)) (v : Value) : Prop :=
  ∃ c sheets ts n, v = .pointer (some ⟨c, 0, none⟩) ∧ CountIs V c sheets ts n ∧ sheets.map intsB = ss ∧ ts.map intsB = T ∧ ∀ r ∈ ts, r.size ≤ 12
theorem FullAt.grow {V V2 : World} {ss T : List (List Int)} {v : Value} (h : FullAt V ss T v) (hg : Grow V V2) : FullAt V2 ss T v := by
  obtain ⟨c, sheets, ts, n, h1, h2, h3⟩ := h
  exact ⟨c, sheets, ts, n, h1, h2.grow hg, h3⟩
/-- A new variable that holds nil. -/
def FreshAt (W V : World) (v : Value) : Prop := ∃ g, v = .pointer (some ⟨g, 0, none⟩) ∧ W.heap.size ≤ g ∧ V.cell? ⟨g, 0, none⟩ = some (.pointer none) ∧ ∀ o, V.frozen? ⟨g, o, none⟩ = false
theorem FreshAt.grow {W V V2 : World} {v : Value} (h : FreshAt W V v) (hg : Grow V V2) : FreshAt W V2 v := by
  obtain ⟨g, h1, h0, h2, h3⟩ := h
  exact ⟨g, h1, h0, hg.keeps h2, fun o => (hg.marks _ _ (lt_of_cell h2)).trans (h3 o)⟩
def ErrInvB (W : World) (W0 W1 W2 W3 : Nat) (P i : Int) (a : Option Addr) (n cap : Nat) (L : Array Bool) (A : Act) (V : World) : Prop :=
  ∃ v6 v8 v9 v10 v11 v12 v13 v14 v15 v16, A = { tmps := #[.agg #[.int .i64 P, .slice a n cap], .int .i64 i, .pointer (some ⟨W0, 0, none⟩), .pointer (some ⟨W1, 0, none⟩), .pointer (some ⟨W2, 0, none⟩), .pointer (some ⟨W3, 0, none⟩), v6, .func (.func 55) #[] #[.pointer (some ⟨W3, 0, none⟩)], v8, v9, v10, v11, v12, v13, v14, v15, v16, undef, undef, undef], defers := [{ target := .fn (.func 55) #[.pointer (some ⟨W3, 0, none⟩)], args := #[] }] } ∧ (Grow W V) ∧ (Over L 0 → (v8 = .agg #[.int .i64 P, .slice a n cap])) ∧ (Over L 1 → (v9 = .int .i64 i)) ∧ (Over L 2 → (v10 = .pointer (some ⟨W0, 1, none⟩))) ∧ (Over L 3 → (v11 = .slice a n cap)) ∧ (Over L 4 → (v12 = .int .i64 n)) ∧ (Over L 5 → (v13 = .int .i64 (n - 1))) ∧ (Over L 6 → (v14 = .bool (inB i 0 (n - 1)))) ∧ (Over L 9 → (FreshAt W V v6)) ∧ ¬ Over L 7 ∧ ¬ Over L 8 ∧ ¬ Over L 10
set_option maxRecDepth 100000 in
set_option maxHeartbeats 1000000 in
theorem pErrors_bad (P i : Int) (v : Value) (ss : List (List Int)) (w : World) (hv : IsSheets w v ss) (hc : codeO P ss (inB i 0 (ss.length - 1)) ≠ 0) :
    Calls Try.prog 21 #[.agg #[.int .i64 P, v], .int .i64 i] w fun e w' => e = .returned (.tuple #[.agg #[.int .i64 0, .int .i64 0], .int .i64 (codeO P ss (inB i 0 (ss.length - 1)))]) ∧ Grow w w' := by
  have hmf : ∀ (fn : Fn) (first cap : Array Value) (w : World), (Instr.makeFunc fn first cap).run Try.prog w = .ok (.func fn first cap) w := fun _ _ _ _ => rfl
  obtain ⟨a, cap, rfl, hcap, hlen, hrow⟩ := id hv
  have Hv := Lib.hid hv
  clear hv
  obtain ⟨cd, hcd⟩ : ∃ cd, cd = codeO P ss (inB i 0 (ss.length - 1)) := ⟨_, rfl⟩
  have Hcd := Lib.hid hcd
  rw [← hcd] at hc ⊢
  clear hcd
  go_enter_defers Try.func21, Try.ntmps21
  go_wp2_with fail
  obtain ⟨W, hW⟩ : ∃ W, W = ((((w.alloc (.cells #[.int .i64 P, .slice a ss.length cap] 24)).alloc (.cells #[.int .i64 i] 3)).alloc (.cells #[.int .i64 0, .int .i64 0] 36)).alloc (.cells #[.int .i64 0] 28)) := ⟨_, rfl⟩
  have hgW : Grow w W := by rw [hW]; exact (((((Grow.refl w).alloc _).alloc _).alloc _).alloc _)
  have hW00 : W.cell? ⟨w.heap.size, 0, none⟩ = some (.int .i64 P) := by rw [hW]; exact Grow.keepA (Grow.keepA (Grow.keepA (cell_new (by simp) rfl) _) _) _
  have hW01 : W.cell? ⟨w.heap.size, 1, none⟩ = some (.slice a ss.length cap) := by rw [hW]; exact Grow.keepA (Grow.keepA (Grow.keepA (cell_new (by simp) rfl) _) _) _
  have hWf0 : ∀ o, W.frozen? ⟨w.heap.size, o, none⟩ = false := by intro o; rw [hW]; exact (((Grow.refl _).alloc _).marks _ _ (by simp <;> omega)).trans ((((Grow.refl _).alloc _).marks _ _ (by simp <;> omega)).trans ((((Grow.refl _).alloc _).marks _ _ (by simp <;> omega)).trans (hot_new (by simp))))
  have hWl0 : w.heap.size < W.heap.size := by rw [hW]; simp; try omega
  have hW10 : W.cell? ⟨w.heap.size + 1, 0, none⟩ = some (.int .i64 i) := by rw [hW]; exact Grow.keepA (Grow.keepA (cell_new (by simp) rfl) _) _
  have hWf1 : ∀ o, W.frozen? ⟨w.heap.size + 1, o, none⟩ = false := by intro o; rw [hW]; exact (((Grow.refl _).alloc _).marks _ _ (by simp <;> omega)).trans ((((Grow.refl _).alloc _).marks _ _ (by simp <;> omega)).trans (hot_new (by simp)))
  have hWl1 : w.heap.size + 1 < W.heap.size := by rw [hW]; simp; try omega
  have hW20 : W.cell? ⟨w.heap.size + 1 + 1, 0, none⟩ = some (.int .i64 0) := by rw [hW]; exact Grow.keepA (cell_new (by simp) rfl) _
  have hW21 : W.cell? ⟨w.heap.size + 1 + 1, 1, none⟩ = some (.int .i64 0) := by rw [hW]; exact Grow.keepA (cell_new (by simp) rfl) _
  have hWf2 : ∀ o, W.frozen? ⟨w.heap.size + 1 + 1, o, none⟩ = false := by intro o; rw [hW]; exact (((Grow.refl _).alloc _).marks _ _ (by simp <;> omega)).trans (hot_new (by simp))
  have hWl2 : w.heap.size + 1 + 1 < W.heap.size := by rw [hW]; simp; try omega
  have hW30 : W.cell? ⟨w.heap.size + 1 + 1 + 1, 0, none⟩ = some (.int .i64 0) := by rw [hW]; exact cell_new (by simp) rfl
  have hWf3 : ∀ o, W.frozen? ⟨w.heap.size + 1 + 1 + 1, o, none⟩ = false := by intro o; rw [hW]; exact hot_new (by simp)
  have hWl3 : w.heap.size + 1 + 1 + 1 < W.heap.size := by rw [hW]; simp; try omega
  rw [← hW]
  clear hW
  have hWd : ∀ n, (W.drewN n).heap.size = W.heap.size := fun _ => rfl
  have hWq : ∀ n o b j, b < W.heap.size → ((W.drewN n).alloc o).cell? ⟨b, j, none⟩ = W.cell? ⟨b, j, none⟩ := cell_drewN_alloc W
  have hWr : ∀ n o b j, b < W.heap.size → ((W.drewN n).alloc o).frozen? ⟨b, j, none⟩ = W.frozen? ⟨b, j, none⟩ := hot_drewN_alloc W
  have hWb0 : w.heap.size ≤ w.heap.size := by omega
  have hWb1 : w.heap.size ≤ w.heap.size + 1 := by omega
  have hWn01 : w.heap.size ≠ w.heap.size + 1 := by omega
  have hWn10 : w.heap.size + 1 ≠ w.heap.size := by omega
  have hWb2 : w.heap.size ≤ w.heap.size + 1 + 1 := by omega
  have hWn02 : w.heap.size ≠ w.heap.size + 1 + 1 := by omega
  have hWn20 : w.heap.size + 1 + 1 ≠ w.heap.size := by omega
  have hWn12 : w.heap.size + 1 ≠ w.heap.size + 1 + 1 := by omega
  have hWn21 : w.heap.size + 1 + 1 ≠ w.heap.size + 1 := by omega
  have hWb3 : w.heap.size ≤ w.heap.size + 1 + 1 + 1 := by omega
  have hWn03 : w.heap.size ≠ w.heap.size + 1 + 1 + 1 := by omega
  have hWn30 : w.heap.size + 1 + 1 + 1 ≠ w.heap.size := by omega
  have hWn13 : w.heap.size + 1 ≠ w.heap.size + 1 + 1 + 1 := by omega
  have hWn31 : w.heap.size + 1 + 1 + 1 ≠ w.heap.size + 1 := by omega
  have hWn23 : w.heap.size + 1 + 1 ≠ w.heap.size + 1 + 1 + 1 := by omega
  have hWn32 : w.heap.size + 1 + 1 + 1 ≠ w.heap.size + 1 + 1 := by omega
  obtain ⟨W3, hWe3⟩ : ∃ g, w.heap.size + 1 + 1 + 1 = g := ⟨_, rfl⟩
  rw [hWe3] at hW30 hWf3 hWl3 hWb3 hWn30 hWn31 hWn32 hWn03 hWn13 hWn23
  (try rw [hWe3])
  have hWk3 := Lib.hid hWe3
  clear hWe3
  obtain ⟨W2, hWe2⟩ : ∃ g, w.heap.size + 1 + 1 = g := ⟨_, rfl⟩
  rw [hWe2] at hW20 hW21 hWf2 hWl2 hWb2 hWn20 hWn21 hWn23 hWn02 hWn12 hWn32
  (try rw [hWe2])
  have hWk2 := Lib.hid hWe2
  clear hWe2
  obtain ⟨W1, hWe1⟩ : ∃ g, w.heap.size + 1 = g := ⟨_, rfl⟩
  rw [hWe1] at hW10 hWf1 hWl1 hWb1 hWn10 hWn12 hWn13 hWn01 hWn21 hWn31
  (try rw [hWe1])
  have hWk1 := Lib.hid hWe1
  clear hWe1
  obtain ⟨W0, hWe0⟩ : ∃ g, w.heap.size = g := ⟨_, rfl⟩
  have hWb0 : w.heap.size ≤ W0 := by omega
  rw [hWe0] at hW00 hW01 hWf0 hWl0 hWn01 hWn02 hWn03 hWn10 hWn20 hWn30
  (try rw [hWe0])
  have hWk0 := Lib.hid hWe0
  clear hWe0
  refine wp_region_inv (by kernel_rfl) (ErrInvB W W0 W1 W2 W3 P i a ss.length cap) (by kernel_rfl) ?_ ?_ ?_
  · exact fun L hL => ⟨undef, _, _, _, _, _, _, _, _, _, rfl, (Grow.refl W).drew, fun h => absurd h (hL _), fun h => absurd h (hL _), fun h => absurd h (hL _), fun h => absurd h (hL _), fun h => absurd h (hL _), fun h => absurd h (hL _), fun h => absurd h (hL _), fun h => absurd h (hL _), hL _, hL _, hL _⟩
  · rintro L A V ⟨v6, v8, v9, v10, v11, v12, v13, v14, v15, v16, rfl, hg, h0, h1, h2, h3, h4, h5, h6, h9, n7, n8, n10⟩ hall
    exact absurd (hall 7 (by simp)) n7
  · rintro i o L A V ho hi ⟨v6, v8, v9, v10, v11, v12, v13, v14, v15, v16, rfl, hg, h0, h1, h2, h3, h4, h5, h6, h9, n7, n8, n10⟩ hno hd
    have hio := (Array.getElem?_eq_some_iff.1 ho).1
    simp only [List.size_toArray, List.length_cons, List.length_nil, Nat.reduceAdd] at hio
    obtain rfl | rfl | rfl | rfl | rfl | rfl | rfl | rfl | rfl | rfl | rfl : i = 0 ∨ i = 1 ∨ i = 2 ∨ i = 3 ∨ i = 4 ∨ i = 5 ∨ i = 6 ∨ i = 7 ∨ i = 8 ∨ i = 9 ∨ i = 10 := by omega
    · cases ho
      have c0 := hg.keeps hW00
      have c1 := hg.keeps hW01
      have c2 := hg.keeps hW10
      go_simp
      exact ⟨_, _, _, _, _, _, _, _, _, _, rfl, hg, fun _ => rfl, fun h => h1 (over_ne h (by decide)), fun h => h2 (over_ne h (by decide)), fun h => h3 (over_ne h (by decide)), fun h => h4 (over_ne h (by decide)), fun h => h5 (over_ne h (by decide)), fun h => h6 (over_ne h (by decide)), fun h => h9 (over_ne h (by decide)), fun h => n7 (over_ne h (by decide)), fun h => n8 (over_ne h (by decide)), fun h => n10 (over_ne h (by decide))⟩
    · cases ho
      have c0 := hg.keeps hW00
      have c1 := hg.keeps hW01
      have c2 := hg.keeps hW10
      go_simp
      exact ⟨_, _, _, _, _, _, _, _, _, _, rfl, hg, fun h => h0 (over_ne h (by decide)), fun _ => rfl, fun h => h2 (over_ne h (by decide)), fun h => h3 (over_ne h (by decide)), fun h => h4 (over_ne h (by decide)), fun h => h5 (over_ne h (by decide)), fun h => h6 (over_ne h (by decide)), fun h => h9 (over_ne h (by decide)), fun h => n7 (over_ne h (by decide)), fun h => n8 (over_ne h (by decide)), fun h => n10 (over_ne h (by decide))⟩
    · cases ho
      go_simp
      exact ⟨_, _, _, _, _, _, _, _, _, _, rfl, hg, fun h => h0 (over_ne h (by decide)), fun h => h1 (over_ne h (by decide)), fun _ => rfl, fun h => h3 (over_ne h (by decide)), fun h => h4 (over_ne h (by decide)), fun h => h5 (over_ne h (by decide)), fun h => h6 (over_ne h (by decide)), fun h => h9 (over_ne h (by decide)), fun h => n7 (over_ne h (by decide)), fun h => n8 (over_ne h (by decide)), fun h => n10 (over_ne h (by decide))⟩
    · cases ho
      have d2 := h2 (hd { on := 2, ground := .data } (by simp) rfl)
      have c0 := hg.keeps hW00
      have c1 := hg.keeps hW01
      have c2 := hg.keeps hW10
      subst d2
      go_simp
      exact ⟨_, _, _, _, _, _, _, _, _, _, rfl, hg, fun h => h0 (over_ne h (by decide)), fun h => h1 (over_ne h (by decide)), fun h => h2 (over_ne h (by decide)), fun _ => rfl, fun h => h4 (over_ne h (by decide)), fun h => h5 (over_ne h (by decide)), fun h => h6 (over_ne h (by decide)), fun h => h9 (over_ne h (by decide)), fun h => n7 (over_ne h (by decide)), fun h => n8 (over_ne h (by decide)), fun h => n10 (over_ne h (by decide))⟩
    · cases ho
      have d3 := h3 (hd { on := 3, ground := .data } (by simp) rfl)
      subst d3
      go_simp
      exact ⟨_, _, _, _, _, _, _, _, _, _, rfl, hg, fun h => h0 (over_ne h (by decide)), fun h => h1 (over_ne h (by decide)), fun h => h2 (over_ne h (by decide)), fun h => h3 (over_ne h (by decide)), fun _ => rfl, fun h => h5 (over_ne h (by decide)), fun h => h6 (over_ne h (by decide)), fun h => h9 (over_ne h (by decide)), fun h => n7 (over_ne h (by decide)), fun h => n8 (over_ne h (by decide)), fun h => n10 (over_ne h (by decide))⟩
    · cases ho
      have d4 := h4 (hd { on := 4, ground := .data } (by simp) rfl)
      subst d4
      have hwr : IntKind.i64.wrap ((ss.length : Int) - 1) = ss.length - 1 := IntWalk.i64_in _ (by omega)
      go_simp
      exact ⟨_, _, _, _, _, _, _, _, _, _, rfl, hg, fun h => h0 (over_ne h (by decide)), fun h => h1 (over_ne h (by decide)), fun h => h2 (over_ne h (by decide)), fun h => h3 (over_ne h (by decide)), fun h => h4 (over_ne h (by decide)), fun _ => rfl, fun h => h6 (over_ne h (by decide)), fun h => h9 (over_ne h (by decide)), fun h => n7 (over_ne h (by decide)), fun h => n8 (over_ne h (by decide)), fun h => n10 (over_ne h (by decide))⟩
    · cases ho
      have d1 := h1 (hd { on := 1, ground := .data } (by simp) rfl)
      have d5 := h5 (hd { on := 5, ground := .data } (by simp) rfl)
      subst d1 d5
      go_simp
      go_at_call 56
      refine (pwithin_any _ _ _ _).mono ?_
      rintro e V2 ⟨rfl, rfl⟩
      go_simp
      exact ⟨_, _, _, _, _, _, _, _, _, _, rfl, hg, fun h => h0 (over_ne h (by decide)), fun h => h1 (over_ne h (by decide)), fun h => h2 (over_ne h (by decide)), fun h => h3 (over_ne h (by decide)), fun h => h4 (over_ne h (by decide)), fun h => h5 (over_ne h (by decide)), fun _ => rfl, fun h => h9 (over_ne h (by decide)), fun h => n7 (over_ne h (by decide)), fun h => n8 (over_ne h (by decide)), fun h => n10 (over_ne h (by decide))⟩
    · cases ho
      have d0 := h0 (hd { on := 0, ground := .data } (by simp) rfl)
      have d6 := h6 (hd { on := 6, ground := .data } (by simp) rfl)
      subst d0 d6
      go_simp
      go_at_call 43
      refine (popen P _ ss _ _ (Hv.out.grow (hgW.trans hg))).mono ?_
      rintro e w1 ⟨hg1, hbad, _⟩
      have hbad := hbad (by rw [← Hcd.out]; exact hc)
      rw [← Hcd.out] at hbad
      subst hbad
      go_simp
      have hG1 : Grow W w1 := hg.trans hg1
      have hc1 : w1.cell? ⟨W3, 0, none⟩ = some (.int .i64 0) := hG1.keeps hW30
      have hf1 : ∀ o, w1.frozen? ⟨W3, o, none⟩ = false := fun o => (hG1.marks _ _ hWl3).trans (hWf3 o)
      unfold refusal
      show Leaves _ _ _ _ _ _ _
      refine leaves_cons (f := 55) (args := #[.pointer (some ⟨W3, 0, none⟩)]) (by simp) (by simp [go_sem]) ?_
      refine (pdefErrors_panic W3 cd [] w1 hc1 hf1).mono ?_
      rintro e u' w'' ⟨rfl, rfl, q1, q2⟩
      have hG : Grow w w'' := Below.trans (hgW.trans hG1) (grownBy_below q2 (by intro k hk; injection hk with hk; omega) (hgW.trans hG1).size)
      have q3 := byCell1 q2 (hG1.keeps hW20) (by intro e; injection e with e; omega)
      have q4 := byCell1 q2 (hG1.keeps hW21) (by intro e; injection e with e; omega)
      simp [Leaves, settle, results, Try.results21, go_sem, q1, q3, q4]
      exact hG
    · cases ho
      exact absurd (hd { on := 7, ground := .data } (by simp) rfl) n7
    · cases ho
      have hgV : Grow V (V.alloc (.cells #[.pointer none] 72)) := (Grow.refl V).alloc _
      go_simp
      exact ⟨_, _, _, _, _, _, _, _, _, _, rfl, (fun h => h.trans hgV) hg, fun h => h0 (over_ne h (by decide)), fun h => h1 (over_ne h (by decide)), fun h => h2 (over_ne h (by decide)), fun h => h3 (over_ne h (by decide)), fun h => h4 (over_ne h (by decide)), fun h => h5 (over_ne h (by decide)), fun h => h6 (over_ne h (by decide)), fun _ => ⟨_, rfl, hg.size, cell_new (by simp) rfl, fun o => hot_new (by simp)⟩, fun h => n7 (over_ne h (by decide)), fun h => n8 (over_ne h (by decide)), fun h => n10 (over_ne h (by decide))⟩
    · cases ho
      exact absurd (hd { on := 8, ground := .data } (by simp) rfl) n8
def ErrInvC (W : World) (W0 W1 W2 W3 : Nat) (P i : Int) (a : Option Addr) (n cap : Nat) (ss T : List (List Int)) (L : Array Bool) (A : Act) (V : World) : Prop :=
  ∃ v6 v8 v9 v10 v11 v12 v13 v14 v15 v16, A = { tmps := #[.agg #[.int .i64 P, .slice a n cap], .int .i64 i, .pointer (some ⟨W0, 0, none⟩), .pointer (some ⟨W1, 0, none⟩), .pointer (some ⟨W2, 0, none⟩), .pointer (some ⟨W3, 0, none⟩), v6, .func (.func 55) #[] #[.pointer (some ⟨W3, 0, none⟩)], v8, v9, v10, v11, v12, v13, v14, v15, v16, undef, undef, undef], defers := [{ target := .fn (.func 55) #[.pointer (some ⟨W3, 0, none⟩)], args := #[] }] } ∧ (Grow W V) ∧ (Over L 0 → (v8 = .agg #[.int .i64 P, .slice a n cap])) ∧ (Over L 1 → (v9 = .int .i64 i)) ∧ (Over L 2 → (v10 = .pointer (some ⟨W0, 1, none⟩))) ∧ (Over L 3 → (v11 = .slice a n cap)) ∧ (Over L 4 → (v12 = .int .i64 n)) ∧ (Over L 5 → (v13 = .int .i64 (n - 1))) ∧ (Over L 6 → (v14 = .bool (inB i 0 (n - 1)))) ∧ (Over L 7 → (FullAt V ss T v15)) ∧ (Over L 9 → (FreshAt W V v6)) ∧ ¬ Over L 8 ∧ ¬ Over L 10
set_option maxRecDepth 100000 in
set_option maxHeartbeats 1000000 in
theorem pErrors_clash (P i : Int) (v : Value) (ss : List (List Int)) (w : World) (hv : IsSheets w v ss) (hc : codeO P ss (inB i 0 (ss.length - 1)) = 0) (h0 : (truthsR P.toNat ss).1 = []) :
    Calls Try.prog 21 #[.agg #[.int .i64 P, v], .int .i64 i] w fun e w' => e = .returned (.tuple #[.agg #[.int .i64 0, .int .i64 0], .int .i64 10]) ∧ Grow w w' := by
  have hmf : ∀ (fn : Fn) (first cap : Array Value) (w : World), (Instr.makeFunc fn first cap).run Try.prog w = .ok (.func fn first cap) w := fun _ _ _ _ => rfl
  obtain ⟨a, cap, rfl, hcap, hlen, hrow⟩ := id hv
  have Hv := Lib.hid hv
  have Hc := Lib.hid hc
  have H0 := Lib.hid h0
  clear hv hc h0
  go_enter_defers Try.func21, Try.ntmps21
  go_wp2_with fail
  obtain ⟨W, hW⟩ : ∃ W, W = ((((w.alloc (.cells #[.int .i64 P, .slice a ss.length cap] 24)).alloc (.cells #[.int .i64 i] 3)).alloc (.cells #[.int .i64 0, .int .i64 0] 36)).alloc (.cells #[.int .i64 0] 28)) := ⟨_, rfl⟩
  have hgW : Grow w W := by rw [hW]; exact (((((Grow.refl w).alloc _).alloc _).alloc _).alloc _)
  have hW00 : W.cell? ⟨w.heap.size, 0, none⟩ = some (.int .i64 P) := by rw [hW]; exact Grow.keepA (Grow.keepA (Grow.keepA (cell_new (by simp) rfl) _) _) _
  have hW01 : W.cell? ⟨w.heap.size, 1, none⟩ = some (.slice a ss.length cap) := by rw [hW]; exact Grow.keepA (Grow.keepA (Grow.keepA (cell_new (by simp) rfl) _) _) _
  have hWf0 : ∀ o, W.frozen? ⟨w.heap.size, o, none⟩ = false := by intro o; rw [hW]; exact (((Grow.refl _).alloc _).marks _ _ (by simp <;> omega)).trans ((((Grow.refl _).alloc _).marks _ _ (by simp <;> omega)).trans ((((Grow.refl _).alloc _).marks _ _ (by simp <;> omega)).trans (hot_new (by simp))))
  have hWl0 : w.heap.size < W.heap.size := by rw [hW]; simp; try omega
  have hW10 : W.cell? ⟨w.heap.size + 1, 0, none⟩ = some (.int .i64 i) := by rw [hW]; exact Grow.keepA (Grow.keepA (cell_new (by simp) rfl) _) _
  have hWf1 : ∀ o, W.frozen? ⟨w.heap.size + 1, o, none⟩ = false := by intro o; rw [hW]; exact (((Grow.refl _).alloc _).marks _ _ (by simp <;> omega)).trans ((((Grow.refl _).alloc _).marks _ _ (by simp <;> omega)).trans (hot_new (by simp)))
  have hWl1 : w.heap.size + 1 < W.heap.size := by rw [hW]; simp; try omega
  have hW20 : W.cell? ⟨w.heap.size + 1 + 1, 0, none⟩ = some (.int .i64 0) := by rw [hW]; exact Grow.keepA (cell_new (by simp) rfl) _
  have hW21 : W.cell? ⟨w.heap.size + 1 + 1, 1, none⟩ = some (.int .i64 0) := by rw [hW]; exact Grow.keepA (cell_new (by simp) rfl) _
  have hWf2 : ∀ o, W.frozen? ⟨w.heap.size + 1 + 1, o, none⟩ = false := by intro o; rw [hW]; exact (((Grow.refl _).alloc _).marks _ _ (by simp <;> omega)).trans (hot_new (by simp))
  have hWl2 : w.heap.size + 1 + 1 < W.heap.size := by rw [hW]; simp; try omega
  have hW30 : W.cell? ⟨w.heap.size + 1 + 1 + 1, 0, none⟩ = some (.int .i64 0) := by rw [hW]; exact cell_new (by simp) rfl
  have hWf3 : ∀ o, W.frozen? ⟨w.heap.size + 1 + 1 + 1, o, none⟩ = false := by intro o; rw [hW]; exact hot_new (by simp)
  have hWl3 : w.heap.size + 1 + 1 + 1 < W.heap.size := by rw [hW]; simp; try omega
  rw [← hW]
  clear hW
  have hWd : ∀ n, (W.drewN n).heap.size = W.heap.size := fun _ => rfl
  have hWq : ∀ n o b j, b < W.heap.size → ((W.drewN n).alloc o).cell? ⟨b, j, none⟩ = W.cell? ⟨b, j, none⟩ := cell_drewN_alloc W
  have hWr : ∀ n o b j, b < W.heap.size → ((W.drewN n).alloc o).frozen? ⟨b, j, none⟩ = W.frozen? ⟨b, j, none⟩ := hot_drewN_alloc W
  have hWb0 : w.heap.size ≤ w.heap.size := by omega
  have hWb1 : w.heap.size ≤ w.heap.size + 1 := by omega
  have hWn01 : w.heap.size ≠ w.heap.size + 1 := by omega
  have hWn10 : w.heap.size + 1 ≠ w.heap.size := by omega
  have hWb2 : w.heap.size ≤ w.heap.size + 1 + 1 := by omega
  have hWn02 : w.heap.size ≠ w.heap.size + 1 + 1 := by omega
  have hWn20 : w.heap.size + 1 + 1 ≠ w.heap.size := by omega
  have hWn12 : w.heap.size + 1 ≠ w.heap.size + 1 + 1 := by omega
  have hWn21 : w.heap.size + 1 + 1 ≠ w.heap.size + 1 := by omega
  have hWb3 : w.heap.size ≤ w.heap.size + 1 + 1 + 1 := by omega
  have hWn03 : w.heap.size ≠ w.heap.size + 1 + 1 + 1 := by omega
  have hWn30 : w.heap.size + 1 + 1 + 1 ≠ w.heap.size := by omega
  have hWn13 : w.heap.size + 1 ≠ w.heap.size + 1 + 1 + 1 := by omega
  have hWn31 : w.heap.size + 1 + 1 + 1 ≠ w.heap.size + 1 := by omega
  have hWn23 : w.heap.size + 1 + 1 ≠ w.heap.size + 1 + 1 + 1 := by omega
  have hWn32 : w.heap.size + 1 + 1 + 1 ≠ w.heap.size + 1 + 1 := by omega
  obtain ⟨W3, hWe3⟩ : ∃ g, w.heap.size + 1 + 1 + 1 = g := ⟨_, rfl⟩
  rw [hWe3] at hW30 hWf3 hWl3 hWb3 hWn30 hWn31 hWn32 hWn03 hWn13 hWn23
  (try rw [hWe3])
  have hWk3 := Lib.hid hWe3
  clear hWe3
  obtain ⟨W2, hWe2⟩ : ∃ g, w.heap.size + 1 + 1 = g := ⟨_, rfl⟩
  rw [hWe2] at hW20 hW21 hWf2 hWl2 hWb2 hWn20 hWn21 hWn23 hWn02 hWn12 hWn32
  (try rw [hWe2])
  have hWk2 := Lib.hid hWe2
  clear hWe2
  obtain ⟨W1, hWe1⟩ : ∃ g, w.heap.size + 1 = g := ⟨_, rfl⟩
  rw [hWe1] at hW10 hWf1 hWl1 hWb1 hWn10 hWn12 hWn13 hWn01 hWn21 hWn31
  (try rw [hWe1])
  have hWk1 := Lib.hid hWe1
  clear hWe1
  obtain ⟨W0, hWe0⟩ : ∃ g, w.heap.size = g := ⟨_, rfl⟩
  have hWb0 : w.heap.size ≤ W0 := by omega
  rw [hWe0] at hW00 hW01 hWf0 hWl0 hWn01 hWn02 hWn03 hWn10 hWn20 hWn30
  (try rw [hWe0])
  have hWk0 := Lib.hid hWe0
  clear hWe0
  refine wp_region_inv (by kernel_rfl) (ErrInvC W W0 W1 W2 W3 P i a ss.length cap ss (truthsR P.toNat ss).1) (by kernel_rfl) ?_ ?_ ?_
  · exact fun L hL => ⟨undef, _, _, _, _, _, _, _, _, _, rfl, (Grow.refl W).drew, fun h => absurd h (hL _), fun h => absurd h (hL _), fun h => absurd h (hL _), fun h => absurd h (hL _), fun h => absurd h (hL _), fun h => absurd h (hL _), fun h => absurd h (hL _), fun h => absurd h (hL _), fun h => absurd h (hL _), hL _, hL _⟩
  · rintro L A V ⟨v6, v8, v9, v10, v11, v12, v13, v14, v15, v16, rfl, hg, h0, h1, h2, h3, h4, h5, h6, h7, h9, n8, n10⟩ hall
    exact absurd (hall 8 (by simp)) n8
  · rintro i o L A V ho hi ⟨v6, v8, v9, v10, v11, v12, v13, v14, v15, v16, rfl, hg, h0, h1, h2, h3, h4, h5, h6, h7, h9, n8, n10⟩ hno hd
    have hio := (Array.getElem?_eq_some_iff.1 ho).1
    simp only [List.size_toArray, List.length_cons, List.length_nil, Nat.reduceAdd] at hio
    obtain rfl | rfl | rfl | rfl | rfl | rfl | rfl | rfl | rfl | rfl | rfl : i = 0 ∨ i = 1 ∨ i = 2 ∨ i = 3 ∨ i = 4 ∨ i = 5 ∨ i = 6 ∨ i = 7 ∨ i = 8 ∨ i = 9 ∨ i = 10 := by omega
    · cases ho
      have c0 := hg.keeps hW00
      have c1 := hg.keeps hW01
      have c2 := hg.keeps hW10
      go_simp
      exact ⟨_, _, _, _, _, _, _, _, _, _, rfl, hg, fun _ => rfl, fun h => h1 (over_ne h (by decide)), fun h => h2 (over_ne h (by decide)), fun h => h3 (over_ne h (by decide)), fun h => h4 (over_ne h (by decide)), fun h => h5 (over_ne h (by decide)), fun h => h6 (over_ne h (by decide)), fun h => h7 (over_ne h (by decide)), fun h => h9 (over_ne h (by decide)), fun h => n8 (over_ne h (by decide)), fun h => n10 (over_ne h (by decide))⟩
    · cases ho
      have c0 := hg.keeps hW00
      have c1 := hg.keeps hW01
      have c2 := hg.keeps hW10
      go_simp
      exact ⟨_, _, _, _, _, _, _, _, _, _, rfl, hg, fun h => h0 (over_ne h (by decide)), fun _ => rfl, fun h => h2 (over_ne h (by decide)), fun h => h3 (over_ne h (by decide)), fun h => h4 (over_ne h (by decide)), fun h => h5 (over_ne h (by decide)), fun h => h6 (over_ne h (by decide)), fun h => h7 (over_ne h (by decide)), fun h => h9 (over_ne h (by decide)), fun h => n8 (over_ne h (by decide)), fun h => n10 (over_ne h (by decide))⟩
    · cases ho
      go_simp
      exact ⟨_, _, _, _, _, _, _, _, _, _, rfl, hg, fun h => h0 (over_ne h (by decide)), fun h => h1 (over_ne h (by decide)), fun _ => rfl, fun h => h3 (over_ne h (by decide)), fun h => h4 (over_ne h (by decide)), fun h => h5 (over_ne h (by decide)), fun h => h6 (over_ne h (by decide)), fun h => h7 (over_ne h (by decide)), fun h => h9 (over_ne h (by decide)), fun h => n8 (over_ne h (by decide)), fun h => n10 (over_ne h (by decide))⟩
    · cases ho
      have d2 := h2 (hd { on := 2, ground := .data } (by simp) rfl)
      have c0 := hg.keeps hW00
      have c1 := hg.keeps hW01
      have c2 := hg.keeps hW10
      subst d2
      go_simp
      exact ⟨_, _, _, _, _, _, _, _, _, _, rfl, hg, fun h => h0 (over_ne h (by decide)), fun h => h1 (over_ne h (by decide)), fun h => h2 (over_ne h (by decide)), fun _ => rfl, fun h => h4 (over_ne h (by decide)), fun h => h5 (over_ne h (by decide)), fun h => h6 (over_ne h (by decide)), fun h => h7 (over_ne h (by decide)), fun h => h9 (over_ne h (by decide)), fun h => n8 (over_ne h (by decide)), fun h => n10 (over_ne h (by decide))⟩
    · cases ho
      have d3 := h3 (hd { on := 3, ground := .data } (by simp) rfl)
      subst d3
      go_simp
      exact ⟨_, _, _, _, _, _, _, _, _, _, rfl, hg, fun h => h0 (over_ne h (by decide)), fun h => h1 (over_ne h (by decide)), fun h => h2 (over_ne h (by decide)), fun h => h3 (over_ne h (by decide)), fun _ => rfl, fun h => h5 (over_ne h (by decide)), fun h => h6 (over_ne h (by decide)), fun h => h7 (over_ne h (by decide)), fun h => h9 (over_ne h (by decide)), fun h => n8 (over_ne h (by decide)), fun h => n10 (over_ne h (by decide))⟩
    · cases ho
      have d4 := h4 (hd { on := 4, ground := .data } (by simp) rfl)
      subst d4
      have hwr : IntKind.i64.wrap ((ss.length : Int) - 1) = ss.length - 1 := IntWalk.i64_in _ (by omega)
      go_simp
      exact ⟨_, _, _, _, _, _, _, _, _, _, rfl, hg, fun h => h0 (over_ne h (by decide)), fun h => h1 (over_ne h (by decide)), fun h => h2 (over_ne h (by decide)), fun h => h3 (over_ne h (by decide)), fun h => h4 (over_ne h (by decide)), fun _ => rfl, fun h => h6 (over_ne h (by decide)), fun h => h7 (over_ne h (by decide)), fun h => h9 (over_ne h (by decide)), fun h => n8 (over_ne h (by decide)), fun h => n10 (over_ne h (by decide))⟩
    · cases ho
      have d1 := h1 (hd { on := 1, ground := .data } (by simp) rfl)
      have d5 := h5 (hd { on := 5, ground := .data } (by simp) rfl)
      subst d1 d5
      go_simp
      go_at_call 56
      refine (pwithin_any _ _ _ _).mono ?_
      rintro e V2 ⟨rfl, rfl⟩
      go_simp
      exact ⟨_, _, _, _, _, _, _, _, _, _, rfl, hg, fun h => h0 (over_ne h (by decide)), fun h => h1 (over_ne h (by decide)), fun h => h2 (over_ne h (by decide)), fun h => h3 (over_ne h (by decide)), fun h => h4 (over_ne h (by decide)), fun h => h5 (over_ne h (by decide)), fun _ => rfl, fun h => h7 (over_ne h (by decide)), fun h => h9 (over_ne h (by decide)), fun h => n8 (over_ne h (by decide)), fun h => n10 (over_ne h (by decide))⟩
    · cases ho
      have d0 := h0 (hd { on := 0, ground := .data } (by simp) rfl)
      have d6 := h6 (hd { on := 6, ground := .data } (by simp) rfl)
      subst d0 d6
      go_simp
      go_at_call 43
      refine (popen P _ ss _ _ (Hv.out.grow (hgW.trans hg))).mono ?_
      rintro e V2 ⟨hgV, _, hok⟩
      obtain ⟨c, sheets, ts, m, rfl, hcs, hwc, hsh, hts, hn, hz12⟩ := hok Hc.out
      go_simp
      exact ⟨_, _, _, _, _, _, _, _, _, _, rfl, (fun h => h.trans hgV) hg, fun h => h0 (over_ne h (by decide)), fun h => h1 (over_ne h (by decide)), fun h => h2 (over_ne h (by decide)), fun h => h3 (over_ne h (by decide)), fun h => h4 (over_ne h (by decide)), fun h => h5 (over_ne h (by decide)), fun h => h6 (over_ne h (by decide)), fun _ => ⟨c, sheets, ts, m, rfl, hcs, hsh, hts, hz12⟩, fun h => (fun h => h.grow hgV) (h9 (over_ne h (by decide))), fun h => n8 (over_ne h (by decide)), fun h => n10 (over_ne h (by decide))⟩
    · cases ho
      have d7 := h7 (hd { on := 7, ground := .data } (by simp) rfl)
      obtain ⟨c, sheets, ts, m, rfl, hcs, hsh, hts, hz12⟩ := d7
      have hts0 : ts = [] := List.map_eq_nil_iff.1 (hts.trans H0.out)
      subst hts0
      go_simp
      go_at_call 44
      refine (ptold_no c sheets m _ hcs).mono ?_
      rintro e w1 ⟨rfl, rfl⟩
      go_simp
      have hG1 : Grow W V := hg
      have hc1 : V.cell? ⟨W3, 0, none⟩ = some (.int .i64 0) := hG1.keeps hW30
      have hf1 : ∀ o, V.frozen? ⟨W3, o, none⟩ = false := fun o => (hG1.marks _ _ hWl3).trans (hWf3 o)
      unfold refusal
      show Leaves _ _ _ _ _ _ _
      refine leaves_cons (f := 55) (args := #[.pointer (some ⟨W3, 0, none⟩)]) (by simp) (by simp [go_sem]) ?_
      refine (pdefErrors_panic W3 10 [] V hc1 hf1).mono ?_
      rintro e u' w'' ⟨rfl, rfl, q1, q2⟩
      have hG : Grow w w'' := Below.trans (hgW.trans hG1) (grownBy_below q2 (by intro k hk; injection hk with hk; omega) (hgW.trans hG1).size)
      have q3 := byCell1 q2 (hG1.keeps hW20) (by intro e; injection e with e; omega)
      have q4 := byCell1 q2 (hG1.keeps hW21) (by intro e; injection e with e; omega)
      simp [Leaves, settle, results, Try.results21, go_sem, q1, q3, q4]
      exact hG
    · cases ho
      have hgV : Grow V (V.alloc (.cells #[.pointer none] 72)) := (Grow.refl V).alloc _
      go_simp
      exact ⟨_, _, _, _, _, _, _, _, _, _, rfl, (fun h => h.trans hgV) hg, fun h => h0 (over_ne h (by decide)), fun h => h1 (over_ne h (by decide)), fun h => h2 (over_ne h (by decide)), fun h => h3 (over_ne h (by decide)), fun h => h4 (over_ne h (by decide)), fun h => h5 (over_ne h (by decide)), fun h => h6 (over_ne h (by decide)), fun h => (fun h => h.grow hgV) (h7 (over_ne h (by decide))), fun _ => ⟨_, rfl, hg.size, cell_new (by simp) rfl, fun o => hot_new (by simp)⟩, fun h => n8 (over_ne h (by decide)), fun h => n10 (over_ne h (by decide))⟩
    · cases ho
      exact absurd (hd { on := 8, ground := .data } (by simp) rfl) n8
theorem over_mono {L : Array Bool} {i j : Nat} (h : Over L j) : Over (L.setIfInBounds i true) j := by
  by_cases e : i = j
  · subst e
    exact (over_set (over_lt h)).2 (.inr rfl)
  · simpa [Over, Array.getElem?_setIfInBounds_ne e] using h
/-- A variable that holds a value. -/
def StoredAt (V : World) (v u : Value) : Prop := ∃ g, v = .pointer (some ⟨g, 0, none⟩) ∧ V.cell? ⟨g, 0, none⟩ = some u
theorem cell_stored {V : World} {g b o : Nat} {x y z : Value} (hg : V.cell? ⟨g, 0, none⟩ = some y) (h : V.cell? ⟨b, o, none⟩ = some x) (hne : x ≠ y) : (V.setCell ⟨g, 0, none⟩ z).cell? ⟨b, o, none⟩ = some x := by
  rw [World.cell?_setCell_other _ _ _ _ (by intro e; injection e with e1 e2; subst e1; subst e2; rw [hg] at h; cases h; exact hne rfl)]
  exact h
theorem RowAt.stored {V : World} {a : Option Addr} {vs : List Value} {g : Nat} {y z : Value} (h : RowAt V a vs) (hg : V.cell? ⟨g, 0, none⟩ = some y) (hne : ∀ x ∈ vs, x ≠ y) : RowAt (V.setCell ⟨g, 0, none⟩ z) a vs := fun i x hx => by
  obtain ⟨b, o, ha, hc⟩ := h i x hx
  exact ⟨b, o, ha, cell_stored hg hc (hne x (List.mem_of_getElem? hx))⟩
theorem IsRaces.stored {V : World} {v : Value} {rs : List ByteArray} {g : Nat} {z : Value} {q : Option Addr} (h : IsRaces V v rs) (hg : V.cell? ⟨g, 0, none⟩ = some (.pointer q)) : IsRaces (V.setCell ⟨g, 0, none⟩ z) v rs := by
  obtain ⟨a, cap, h1, h2, h3, h4, h5⟩ := h
  exact ⟨a, cap, h1, h2, h3, h4, h5.stored hg fun x hx e => by subst e; obtain ⟨r, _, hr⟩ := List.mem_map.1 hx; cases hr⟩
theorem FullAt.stored {V : World} {ss T : List (List Int)} {v : Value} {g : Nat} {z : Value} {q : Option Addr} (h : FullAt V ss T v) (hg : V.cell? ⟨g, 0, none⟩ = some (.pointer q)) : FullAt (V.setCell ⟨g, 0, none⟩ z) ss T v := by
  obtain ⟨c, sheets, ts, n, h1, ⟨v1, v2, k1, k2, k3, k4, k5⟩, h3⟩ := h
  exact ⟨c, sheets, ts, n, h1, ⟨v1, v2, cell_stored hg k1 (by obtain ⟨_, _, rfl, _⟩ := k2; simp), k2.stored hg, cell_stored hg k3 (by obtain ⟨_, _, rfl, _⟩ := k4; simp), k4.stored hg, cell_stored hg k5 (by simp)⟩, h3⟩
/-- The least and the greatest, by the program and by the reference. -/
theorem foldl_span (f : List Int → Int) : ∀ (l : List (List Int)) (a b : Int), l.foldl (spanStep f) (a, b) = ((l.map f).foldl min a, (l.map f).foldl max b)
  | [], a, b => rfl
  | r :: l, a, b => by simp [spanStep, foldl_span f l]
theorem spanOf_eq (f : List Int → Int) (l : List (List Int)) (h : l ≠ []) : spanOf f l = (minL (l.map f), maxL (l.map f)) := by
  cases l with
  | nil => exact absurd rfl h
  | cons r l => unfold spanOf minL maxL; rw [foldl_span]; rfl
theorem span_eq {T : List (List Int)} (ts : List ByteArray) (s : ByteArray) (hz : ∀ r ∈ ts, r.size ≤ 12) (hT : ts.map intsB = T) (h0 : ts ≠ []) :
    (minL (ts.map fun r => errorsB r.data.toList s.data.toList), maxL (ts.map fun r => errorsB r.data.toList s.data.toList)) = spanOf (fun r => errs r (intsB s)) T := by
  have hm : ts.map (fun r => errorsB r.data.toList s.data.toList) = T.map fun r => errs r (intsB s) := by
    rw [← hT, List.map_map]
    refine List.map_congr_left fun r hr => ?_
    have := hz r hr
    exact errorsB_errs _ _ (by rw [size_list]; omega)
  rw [hm, spanOf_eq _ _ (by rw [← hT]; simpa using h0)]
def ErrInvO (W : World) (W0 W1 W2 W3 : Nat) (P i : Int) (a : Option Addr) (n cap : Nat) (ss T : List (List Int)) (L : Array Bool) (A : Act) (V : World) : Prop :=
  ∃ v6 v8 v9 v10 v11 v12 v13 v14 v15 v16, A = { tmps := #[.agg #[.int .i64 P, .slice a n cap], .int .i64 i, .pointer (some ⟨W0, 0, none⟩), .pointer (some ⟨W1, 0, none⟩), .pointer (some ⟨W2, 0, none⟩), .pointer (some ⟨W3, 0, none⟩), v6, .func (.func 55) #[] #[.pointer (some ⟨W3, 0, none⟩)], v8, v9, v10, v11, v12, v13, v14, v15, v16, undef, undef, undef], defers := [{ target := .fn (.func 55) #[.pointer (some ⟨W3, 0, none⟩)], args := #[] }] } ∧ (Grow W V) ∧ (Over L 0 → (v8 = .agg #[.int .i64 P, .slice a n cap])) ∧ (Over L 1 → (v9 = .int .i64 i)) ∧ (Over L 2 → (v10 = .pointer (some ⟨W0, 1, none⟩))) ∧ (Over L 3 → (v11 = .slice a n cap)) ∧ (Over L 4 → (v12 = .int .i64 n)) ∧ (Over L 5 → (v13 = .int .i64 (n - 1))) ∧ (Over L 6 → (v14 = .bool (inB i 0 (n - 1)))) ∧ (Over L 7 → (FullAt V ss T v15)) ∧ (Over L 8 → (FullAt V ss T v16)) ∧ (Over L 9 → (FreshAt W V v6 ∨ Over L 10)) ∧ (Over L 10 → (∀ j, j < 10 → Over L j) ∧ (StoredAt V v6 v16))
set_option maxRecDepth 100000 in
set_option maxHeartbeats 2000000 in
theorem pErrors_ok (P i : Int) (v : Value) (ss : List (List Int)) (w : World) (hv : IsSheets w v ss) (hval : validB P ss = true) (hin : inB i 0 (ss.length - 1) = true) (h0 : (truthsR P.toNat ss).1 ≠ []) (S : Int × Int) (hS : ∀ s, ss[i.toNat]? = some s → spanOf (fun r => errs r s) (truthsR P.toNat ss).1 = S) :
    Calls Try.prog 21 #[.agg #[.int .i64 P, v], .int .i64 i] w fun e w' => e = .returned (.tuple #[.agg #[.int .i64 S.1, .int .i64 S.2], .int .i64 0]) ∧ Grow w w' := by
  have hmf : ∀ (fn : Fn) (first cap : Array Value) (w : World), (Instr.makeFunc fn first cap).run Try.prog w = .ok (.func fn first cap) w := fun _ _ _ _ => rfl
  have hc : codeO P ss (inB i 0 (ss.length - 1)) = 0 := by unfold codeO; rw [hval, hin]; rfl
  have hlenT : ∀ (T : List (List Int)) (ts : List ByteArray), ts.map intsB = (truthsR P.toNat ss).1 → ts.length ≤ 13841287201 := by
    intro _ ts h
    have := truths2_len hval ss.length (Nat.le_refl _)
    unfold truths2 at this
    rw [List.take_length, ← h, List.length_map] at this
    omega
  obtain ⟨a, cap, rfl, hcap, hlen, hrow⟩ := id hv
  have Hv := Lib.hid hv
  have Hc := Lib.hid hc
  have H0 := Lib.hid h0
  have Hval := Lib.hid hval
  have Hin := Lib.hid hin
  have Hlen := Lib.hid hlenT
  have HS := Lib.hid hS
  clear hv hc h0 hval hin hlenT hS
  go_enter_defers Try.func21, Try.ntmps21
  go_wp2_with fail
  obtain ⟨W, hW⟩ : ∃ W, W = ((((w.alloc (.cells #[.int .i64 P, .slice a ss.length cap] 24)).alloc (.cells #[.int .i64 i] 3)).alloc (.cells #[.int .i64 0, .int .i64 0] 36)).alloc (.cells #[.int .i64 0] 28)) := ⟨_, rfl⟩
  have hgW : Grow w W := by rw [hW]; exact (((((Grow.refl w).alloc _).alloc _).alloc _).alloc _)
  have hW00 : W.cell? ⟨w.heap.size, 0, none⟩ = some (.int .i64 P) := by rw [hW]; exact Grow.keepA (Grow.keepA (Grow.keepA (cell_new (by simp) rfl) _) _) _
  have hW01 : W.cell? ⟨w.heap.size, 1, none⟩ = some (.slice a ss.length cap) := by rw [hW]; exact Grow.keepA (Grow.keepA (Grow.keepA (cell_new (by simp) rfl) _) _) _
  have hWf0 : ∀ o, W.frozen? ⟨w.heap.size, o, none⟩ = false := by intro o; rw [hW]; exact (((Grow.refl _).alloc _).marks _ _ (by simp <;> omega)).trans ((((Grow.refl _).alloc _).marks _ _ (by simp <;> omega)).trans ((((Grow.refl _).alloc _).marks _ _ (by simp <;> omega)).trans (hot_new (by simp))))
  have hWl0 : w.heap.size < W.heap.size := by rw [hW]; simp; try omega
  have hW10 : W.cell? ⟨w.heap.size + 1, 0, none⟩ = some (.int .i64 i) := by rw [hW]; exact Grow.keepA (Grow.keepA (cell_new (by simp) rfl) _) _
  have hWf1 : ∀ o, W.frozen? ⟨w.heap.size + 1, o, none⟩ = false := by intro o; rw [hW]; exact (((Grow.refl _).alloc _).marks _ _ (by simp <;> omega)).trans ((((Grow.refl _).alloc _).marks _ _ (by simp <;> omega)).trans (hot_new (by simp)))
  have hWl1 : w.heap.size + 1 < W.heap.size := by rw [hW]; simp; try omega
  have hW20 : W.cell? ⟨w.heap.size + 1 + 1, 0, none⟩ = some (.int .i64 0) := by rw [hW]; exact Grow.keepA (cell_new (by simp) rfl) _
  have hW21 : W.cell? ⟨w.heap.size + 1 + 1, 1, none⟩ = some (.int .i64 0) := by rw [hW]; exact Grow.keepA (cell_new (by simp) rfl) _
  have hWf2 : ∀ o, W.frozen? ⟨w.heap.size + 1 + 1, o, none⟩ = false := by intro o; rw [hW]; exact (((Grow.refl _).alloc _).marks _ _ (by simp <;> omega)).trans (hot_new (by simp))
  have hWl2 : w.heap.size + 1 + 1 < W.heap.size := by rw [hW]; simp; try omega
  have hW30 : W.cell? ⟨w.heap.size + 1 + 1 + 1, 0, none⟩ = some (.int .i64 0) := by rw [hW]; exact cell_new (by simp) rfl
  have hWf3 : ∀ o, W.frozen? ⟨w.heap.size + 1 + 1 + 1, o, none⟩ = false := by intro o; rw [hW]; exact hot_new (by simp)
  have hWl3 : w.heap.size + 1 + 1 + 1 < W.heap.size := by rw [hW]; simp; try omega
  rw [← hW]
  clear hW
  have hWd : ∀ n, (W.drewN n).heap.size = W.heap.size := fun _ => rfl
  have hWq : ∀ n o b j, b < W.heap.size → ((W.drewN n).alloc o).cell? ⟨b, j, none⟩ = W.cell? ⟨b, j, none⟩ := cell_drewN_alloc W
  have hWr : ∀ n o b j, b < W.heap.size → ((W.drewN n).alloc o).frozen? ⟨b, j, none⟩ = W.frozen? ⟨b, j, none⟩ := hot_drewN_alloc W
  have hWb0 : w.heap.size ≤ w.heap.size := by omega
  have hWb1 : w.heap.size ≤ w.heap.size + 1 := by omega
  have hWn01 : w.heap.size ≠ w.heap.size + 1 := by omega
  have hWn10 : w.heap.size + 1 ≠ w.heap.size := by omega
  have hWb2 : w.heap.size ≤ w.heap.size + 1 + 1 := by omega
  have hWn02 : w.heap.size ≠ w.heap.size + 1 + 1 := by omega
  have hWn20 : w.heap.size + 1 + 1 ≠ w.heap.size := by omega
  have hWn12 : w.heap.size + 1 ≠ w.heap.size + 1 + 1 := by omega
  have hWn21 : w.heap.size + 1 + 1 ≠ w.heap.size + 1 := by omega
  have hWb3 : w.heap.size ≤ w.heap.size + 1 + 1 + 1 := by omega
  have hWn03 : w.heap.size ≠ w.heap.size + 1 + 1 + 1 := by omega
  have hWn30 : w.heap.size + 1 + 1 + 1 ≠ w.heap.size := by omega
  have hWn13 : w.heap.size + 1 ≠ w.heap.size + 1 + 1 + 1 := by omega
  have hWn31 : w.heap.size + 1 + 1 + 1 ≠ w.heap.size + 1 := by omega
  have hWn23 : w.heap.size + 1 + 1 ≠ w.heap.size + 1 + 1 + 1 := by omega
  have hWn32 : w.heap.size + 1 + 1 + 1 ≠ w.heap.size + 1 + 1 := by omega
  obtain ⟨W3, hWe3⟩ : ∃ g, w.heap.size + 1 + 1 + 1 = g := ⟨_, rfl⟩
  rw [hWe3] at hW30 hWf3 hWl3 hWb3 hWn30 hWn31 hWn32 hWn03 hWn13 hWn23
  (try rw [hWe3])
  have hWk3 := Lib.hid hWe3
  clear hWe3
  obtain ⟨W2, hWe2⟩ : ∃ g, w.heap.size + 1 + 1 = g := ⟨_, rfl⟩
  rw [hWe2] at hW20 hW21 hWf2 hWl2 hWb2 hWn20 hWn21 hWn23 hWn02 hWn12 hWn32
  (try rw [hWe2])
  have hWk2 := Lib.hid hWe2
  clear hWe2
  obtain ⟨W1, hWe1⟩ : ∃ g, w.heap.size + 1 = g := ⟨_, rfl⟩
  rw [hWe1] at hW10 hWf1 hWl1 hWb1 hWn10 hWn12 hWn13 hWn01 hWn21 hWn31
  (try rw [hWe1])
  have hWk1 := Lib.hid hWe1
  clear hWe1
  obtain ⟨W0, hWe0⟩ : ∃ g, w.heap.size = g := ⟨_, rfl⟩
  have hWb0 : w.heap.size ≤ W0 := by omega
  rw [hWe0] at hW00 hW01 hWf0 hWl0 hWn01 hWn02 hWn03 hWn10 hWn20 hWn30
  (try rw [hWe0])
  have hWk0 := Lib.hid hWe0
  clear hWe0
  refine wp_region_inv (by kernel_rfl) (ErrInvO W W0 W1 W2 W3 P i a ss.length cap ss (truthsR P.toNat ss).1) (by kernel_rfl) ?_ ?_ ?_
  · exact fun L hL => ⟨undef, _, _, _, _, _, _, _, _, _, rfl, (Grow.refl W).drew, fun h => absurd h (hL _), fun h => absurd h (hL _), fun h => absurd h (hL _), fun h => absurd h (hL _), fun h => absurd h (hL _), fun h => absurd h (hL _), fun h => absurd h (hL _), fun h => absurd h (hL _), fun h => absurd h (hL _), fun h => absurd h (hL _), fun h => absurd h (hL _)⟩
  · rintro L A V ⟨v6, v8, v9, v10, v11, v12, v13, v14, v15, v16, rfl, hg, h0, h1, h2, h3, h4, h5, h6, h7, h8, h9, h10⟩ hall
    have f0 := h0 (hall 0 (by simp))
    have f1 := h1 (hall 1 (by simp))
    have f2 := h2 (hall 2 (by simp))
    have f3 := h3 (hall 3 (by simp))
    have f4 := h4 (hall 4 (by simp))
    have f5 := h5 (hall 5 (by simp))
    have f6 := h6 (hall 6 (by simp))
    have f7 := h7 (hall 7 (by simp))
    have f8 := h8 (hall 8 (by simp))
    have f9 := h9 (hall 9 (by simp))
    have f10 := (h10 (hall 10 (by simp))).2
    clear hall h0 h1 h2 h3 h4 h5 h6 h7 h8 h9 h10
    obtain ⟨g, rfl, hs0⟩ := f10
    obtain ⟨c, sheets, ts, m, rfl, hcs, hsh, hts, hz12⟩ := f8
    clear f0 f1 f2 f3 f4 f5 f6 f7 f9
    obtain ⟨u1, u2, x2, ⟨a1, c1, rfl, x4, x5, x6, x7⟩, x8, ⟨a2, c2, rfl, x9, x10, x11, x12⟩, x13⟩ := id hcs
    have hsl : sheets.length = ss.length := by rw [← hsh]; simp
    obtain ⟨k, rfl⟩ : ∃ k : Nat, i = k := ⟨i.toNat, by have := inB_true.1 Hin.out; omega⟩
    have hk : k < sheets.length := by have := inB_true.1 Hin.out; omega
    obtain ⟨b, o, s, hs, rfl, hsc⟩ := x7.str hk
    have hsi : ss[k]? = some (intsB s) := by rw [← hsh, List.getElem?_map, hs]; rfl
    have hs6 : s.size ≤ 6 := by
      have hm := (valid_sheets Hval.out).2.2.2.2 _ (List.mem_of_getElem? hsi)
      unfold sheetB at hm
      simp only [Bool.and_eq_true, decide_eq_true_eq, intsB_len] at hm
      exact hm.1
    have Hsi := Lib.hid hsi
    have ht0 : ts ≠ [] := fun e => H0.out (by rw [← hts, e]; rfl)
    have htl : ts.length ≤ 13841287201 := Hlen.out [] ts hts
    have hW1V : V.cell? ⟨W1, 0, none⟩ = some (.int .i64 k) := hg.keeps hW10
    have hsp := fun V2 (hV2 : Grow V V2) => pspan_any c 58 #[] #[.pointer (some ⟨g, 0, none⟩), .pointer (some ⟨W1, 0, none⟩)] (enters_of Try.func58 (by kernel_rfl) rfl) a2 ts c2 (fun r => errorsB r.data.toList s.data.toList) V2 htl
      (fun r W1' hr' hg' => perrors2_any r s g W1 c b o k sheets.length c1 W1' (by have := hz12 r hr'; omega) (by omega) hk ((hV2.trans hg').keeps hs0) ((hV2.trans hg').keeps hW1V) ((hV2.trans hg').keeps x2) ((hV2.trans hg').keeps hsc)) (hV2.keeps x8) (x12.grow hV2) ht0
    have Hsp := Lib.hid hsp
    have Hf := Lib.hid (span_eq ts s hz12 hts ht0)
    have hW2a := hg.keeps hW20
    have hW2b := hg.keeps hW21
    have hW2f : ∀ o, V.frozen? ⟨W2, o, none⟩ = false := fun o => (hg.marks _ _ hWl2).trans (hWf2 o)
    have hW3a := hg.keeps hW30
    have hW3f : ∀ o, V.frozen? ⟨W3, o, none⟩ = false := fun o => (hg.marks _ _ hWl3).trans (hWf3 o)
    clear hsp x2 x4 x5 x6 x7 x8 x9 x10 x11 x12 x13 hsc hcs hsh hts hz12 hsi
    go_wp2_with (go_at_call 57; refine (Hsp.out _ (Grow.refl _)).mono ?_; rintro e V3 ⟨rfl, hg3⟩; have y1 := hg3.keeps hW2a; have y2 := hg3.keeps hW2b; have y3 : ∀ o, V3.frozen? ⟨W2, o, none⟩ = false := (fun o => (hg3.marks _ _ (lt_of_cell hW2a)).trans (hW2f o)); have y4 := hg3.keeps hW3a; have y5 : ∀ o, V3.frozen? ⟨W3, o, none⟩ = false := (fun o => (hg3.marks _ _ (lt_of_cell hW3a)).trans (hW3f o)))
    obtain ⟨lo, hlo⟩ : ∃ lo, lo = minL (ts.map fun r => errorsB r.data.toList s.data.toList) := ⟨_, rfl⟩
    obtain ⟨hi, hhi⟩ : ∃ hi, hi = maxL (ts.map fun r => errorsB r.data.toList s.data.toList) := ⟨_, rfl⟩
    have hS2 : (lo, hi) = S := by rw [hlo, hhi, Hf.out]; exact HS.out _ (by simpa using Hsi.out)
    rw [← hlo, ← hhi]
    subst hS2
    clear hlo hhi
    obtain ⟨z0, z1, _, _⟩ := cells2 (x := .int .i64 lo) (y := .int .i64 hi) y1 y2
    have z2 : ((V3.setCell ⟨W2, 0, none⟩ (.int .i64 lo)).setCell ⟨W2, 1, none⟩ (.int .i64 hi)).cell? ⟨W3, 0, none⟩ = some (.int .i64 0) := byCell1 (bySet _ W2 1 _) (byCell1 (bySet _ W2 0 _) y4 (by intro e; injection e with e; omega)) (by intro e; injection e with e; omega)
    have z3 := byCell1 (bySet _ W3 0 (.int .i64 0)) z0 (by intro e; injection e with e; omega)
    have z4 := byCell1 (bySet _ W3 0 (.int .i64 0)) z1 (by intro e; injection e with e; omega)
    have z5 : (((V3.setCell ⟨W2, 0, none⟩ (.int .i64 lo)).setCell ⟨W2, 1, none⟩ (.int .i64 hi)).setCell ⟨W3, 0, none⟩ (.int .i64 0)).cell? ⟨W3, 0, none⟩ = some (.int .i64 0) := World.cell?_setCell_same' _ _ _ (by rw [z2]; rfl)
    have hG : Grow w (((V3.setCell ⟨W2, 0, none⟩ (.int .i64 lo)).setCell ⟨W2, 1, none⟩ (.int .i64 hi)).setCell ⟨W3, 0, none⟩ (.int .i64 0)) := ((Below.setCell (p := ⟨W2, 0, none⟩) ((hgW.trans hg).trans hg3) (by omega) _).setCell (p := ⟨W2, 1, none⟩) (by omega) _).setCell (p := ⟨W3, 0, none⟩) (by omega) _
    show Leaves _ _ _ _ _ _ _
    refine leaves_cons (f := 55) (args := #[.pointer (some ⟨W3, 0, none⟩)]) (by simp) (by simp [go_sem]) ?_
    refine (pdefErrors_idle W3 _).mono ?_
    rintro e u' w'' ⟨rfl, rfl, rfl⟩
    simp [Leaves, settle, results, Try.results21, go_sem, z3, z4, z5]
    exact hG
  · rintro i o L A V ho hi ⟨v6, v8, v9, v10, v11, v12, v13, v14, v15, v16, rfl, hg, h0, h1, h2, h3, h4, h5, h6, h7, h8, h9, h10⟩ hno hd
    have hio := (Array.getElem?_eq_some_iff.1 ho).1
    simp only [List.size_toArray, List.length_cons, List.length_nil, Nat.reduceAdd] at hio
    obtain rfl | rfl | rfl | rfl | rfl | rfl | rfl | rfl | rfl | rfl | rfl : i = 0 ∨ i = 1 ∨ i = 2 ∨ i = 3 ∨ i = 4 ∨ i = 5 ∨ i = 6 ∨ i = 7 ∨ i = 8 ∨ i = 9 ∨ i = 10 := by omega
    · cases ho
      have c0 := hg.keeps hW00
      have c1 := hg.keeps hW01
      have c2 := hg.keeps hW10
      go_simp
      exact ⟨_, _, _, _, _, _, _, _, _, _, rfl, hg, fun _ => rfl, fun h => h1 (over_ne h (by decide)), fun h => h2 (over_ne h (by decide)), fun h => h3 (over_ne h (by decide)), fun h => h4 (over_ne h (by decide)), fun h => h5 (over_ne h (by decide)), fun h => h6 (over_ne h (by decide)), fun h => h7 (over_ne h (by decide)), fun h => h8 (over_ne h (by decide)), fun h => (fun h => h.imp id over_mono) (h9 (over_ne h (by decide))), fun h => absurd ((h10 (over_ne h (by decide))).1 0 (by decide)) hno⟩
    · cases ho
      have c0 := hg.keeps hW00
      have c1 := hg.keeps hW01
      have c2 := hg.keeps hW10
      go_simp
      exact ⟨_, _, _, _, _, _, _, _, _, _, rfl, hg, fun h => h0 (over_ne h (by decide)), fun _ => rfl, fun h => h2 (over_ne h (by decide)), fun h => h3 (over_ne h (by decide)), fun h => h4 (over_ne h (by decide)), fun h => h5 (over_ne h (by decide)), fun h => h6 (over_ne h (by decide)), fun h => h7 (over_ne h (by decide)), fun h => h8 (over_ne h (by decide)), fun h => (fun h => h.imp id over_mono) (h9 (over_ne h (by decide))), fun h => absurd ((h10 (over_ne h (by decide))).1 1 (by decide)) hno⟩
    · cases ho
      go_simp
      exact ⟨_, _, _, _, _, _, _, _, _, _, rfl, hg, fun h => h0 (over_ne h (by decide)), fun h => h1 (over_ne h (by decide)), fun _ => rfl, fun h => h3 (over_ne h (by decide)), fun h => h4 (over_ne h (by decide)), fun h => h5 (over_ne h (by decide)), fun h => h6 (over_ne h (by decide)), fun h => h7 (over_ne h (by decide)), fun h => h8 (over_ne h (by decide)), fun h => (fun h => h.imp id over_mono) (h9 (over_ne h (by decide))), fun h => absurd ((h10 (over_ne h (by decide))).1 2 (by decide)) hno⟩
    · cases ho
      have d2 := h2 (hd { on := 2, ground := .data } (by simp) rfl)
      have c0 := hg.keeps hW00
      have c1 := hg.keeps hW01
      have c2 := hg.keeps hW10
      subst d2
      go_simp
      exact ⟨_, _, _, _, _, _, _, _, _, _, rfl, hg, fun h => h0 (over_ne h (by decide)), fun h => h1 (over_ne h (by decide)), fun h => h2 (over_ne h (by decide)), fun _ => rfl, fun h => h4 (over_ne h (by decide)), fun h => h5 (over_ne h (by decide)), fun h => h6 (over_ne h (by decide)), fun h => h7 (over_ne h (by decide)), fun h => h8 (over_ne h (by decide)), fun h => (fun h => h.imp id over_mono) (h9 (over_ne h (by decide))), fun h => absurd ((h10 (over_ne h (by decide))).1 3 (by decide)) hno⟩
    · cases ho
      have d3 := h3 (hd { on := 3, ground := .data } (by simp) rfl)
      subst d3
      go_simp
      exact ⟨_, _, _, _, _, _, _, _, _, _, rfl, hg, fun h => h0 (over_ne h (by decide)), fun h => h1 (over_ne h (by decide)), fun h => h2 (over_ne h (by decide)), fun h => h3 (over_ne h (by decide)), fun _ => rfl, fun h => h5 (over_ne h (by decide)), fun h => h6 (over_ne h (by decide)), fun h => h7 (over_ne h (by decide)), fun h => h8 (over_ne h (by decide)), fun h => (fun h => h.imp id over_mono) (h9 (over_ne h (by decide))), fun h => absurd ((h10 (over_ne h (by decide))).1 4 (by decide)) hno⟩
    · cases ho
      have d4 := h4 (hd { on := 4, ground := .data } (by simp) rfl)
      subst d4
      have hwr : IntKind.i64.wrap ((ss.length : Int) - 1) = ss.length - 1 := IntWalk.i64_in _ (by omega)
      go_simp
      exact ⟨_, _, _, _, _, _, _, _, _, _, rfl, hg, fun h => h0 (over_ne h (by decide)), fun h => h1 (over_ne h (by decide)), fun h => h2 (over_ne h (by decide)), fun h => h3 (over_ne h (by decide)), fun h => h4 (over_ne h (by decide)), fun _ => rfl, fun h => h6 (over_ne h (by decide)), fun h => h7 (over_ne h (by decide)), fun h => h8 (over_ne h (by decide)), fun h => (fun h => h.imp id over_mono) (h9 (over_ne h (by decide))), fun h => absurd ((h10 (over_ne h (by decide))).1 5 (by decide)) hno⟩
    · cases ho
      have d1 := h1 (hd { on := 1, ground := .data } (by simp) rfl)
      have d5 := h5 (hd { on := 5, ground := .data } (by simp) rfl)
      subst d1 d5
      go_simp
      go_at_call 56
      refine (pwithin_any _ _ _ _).mono ?_
      rintro e V2 ⟨rfl, rfl⟩
      go_simp
      exact ⟨_, _, _, _, _, _, _, _, _, _, rfl, hg, fun h => h0 (over_ne h (by decide)), fun h => h1 (over_ne h (by decide)), fun h => h2 (over_ne h (by decide)), fun h => h3 (over_ne h (by decide)), fun h => h4 (over_ne h (by decide)), fun h => h5 (over_ne h (by decide)), fun _ => rfl, fun h => h7 (over_ne h (by decide)), fun h => h8 (over_ne h (by decide)), fun h => (fun h => h.imp id over_mono) (h9 (over_ne h (by decide))), fun h => absurd ((h10 (over_ne h (by decide))).1 6 (by decide)) hno⟩
    · cases ho
      have d0 := h0 (hd { on := 0, ground := .data } (by simp) rfl)
      have d6 := h6 (hd { on := 6, ground := .data } (by simp) rfl)
      subst d0 d6
      go_simp
      go_at_call 43
      refine (popen P _ ss _ _ (Hv.out.grow (hgW.trans hg))).mono ?_
      rintro e V2 ⟨hgV, _, hok⟩
      obtain ⟨c, sheets, ts, m, rfl, hcs, hwc, hsh, hts, hn, hz12⟩ := hok Hc.out
      go_simp
      exact ⟨_, _, _, _, _, _, _, _, _, _, rfl, (fun h => h.trans hgV) hg, fun h => h0 (over_ne h (by decide)), fun h => h1 (over_ne h (by decide)), fun h => h2 (over_ne h (by decide)), fun h => h3 (over_ne h (by decide)), fun h => h4 (over_ne h (by decide)), fun h => h5 (over_ne h (by decide)), fun h => h6 (over_ne h (by decide)), fun _ => ⟨c, sheets, ts, m, rfl, hcs, hsh, hts, hz12⟩, fun h => (fun h => h.grow hgV) (h8 (over_ne h (by decide))), fun h => (fun h => h.imp (fun k => k.grow hgV) over_mono) (h9 (over_ne h (by decide))), fun h => absurd ((h10 (over_ne h (by decide))).1 7 (by decide)) hno⟩
    · cases ho
      have d7 := h7 (hd { on := 7, ground := .data } (by simp) rfl)
      obtain ⟨c, sheets, ts, m, rfl, hcs, hsh, hts, hz12⟩ := d7
      go_simp
      go_at_call 44
      refine (ptold_yes c sheets ts m _ hcs (fun e => H0.out (by rw [← hts, e]; rfl))).mono ?_
      rintro e w1 ⟨rfl, rfl⟩
      go_simp
      exact ⟨_, _, _, _, _, _, _, _, _, _, rfl, hg, fun h => h0 (over_ne h (by decide)), fun h => h1 (over_ne h (by decide)), fun h => h2 (over_ne h (by decide)), fun h => h3 (over_ne h (by decide)), fun h => h4 (over_ne h (by decide)), fun h => h5 (over_ne h (by decide)), fun h => h6 (over_ne h (by decide)), fun h => h7 (over_ne h (by decide)), fun _ => ⟨c, sheets, ts, m, rfl, hcs, hsh, hts, hz12⟩, fun h => (fun h => h.imp id over_mono) (h9 (over_ne h (by decide))), fun h => absurd ((h10 (over_ne h (by decide))).1 8 (by decide)) hno⟩
    · cases ho
      have hgV : Grow V (V.alloc (.cells #[.pointer none] 72)) := (Grow.refl V).alloc _
      go_simp
      exact ⟨_, _, _, _, _, _, _, _, _, _, rfl, (fun h => h.trans hgV) hg, fun h => h0 (over_ne h (by decide)), fun h => h1 (over_ne h (by decide)), fun h => h2 (over_ne h (by decide)), fun h => h3 (over_ne h (by decide)), fun h => h4 (over_ne h (by decide)), fun h => h5 (over_ne h (by decide)), fun h => h6 (over_ne h (by decide)), fun h => (fun h => h.grow hgV) (h7 (over_ne h (by decide))), fun h => (fun h => h.grow hgV) (h8 (over_ne h (by decide))), fun _ => .inl ⟨_, rfl, hg.size, cell_new (by simp) rfl, fun o => hot_new (by simp)⟩, fun h => absurd ((h10 (over_ne h (by decide))).1 9 (by decide)) hno⟩
    · cases ho
      have d9 := h9 (hd { on := 9, ground := .data } (by simp) rfl)
      have d8 := h8 (hd { on := 8, ground := .data } (by simp) rfl)
      obtain ⟨g, rfl, k0, k1, k2⟩ := d9.resolve_right hno
      have hlt := lt_of_cell k1
      obtain ⟨c, sheets, ts, m, rfl, _⟩ := id d8
      go_simp
      exact ⟨_, _, _, _, _, _, _, _, _, _, rfl, hg.setCell (p := ⟨g, 0, none⟩) k0 _, fun h => h0 (over_ne h (by decide)), fun h => h1 (over_ne h (by decide)), fun h => h2 (over_ne h (by decide)), fun h => h3 (over_ne h (by decide)), fun h => h4 (over_ne h (by decide)), fun h => h5 (over_ne h (by decide)), fun h => h6 (over_ne h (by decide)), fun h => (h7 (over_ne h (by decide))).stored k1, fun h => (h8 (over_ne h (by decide))).stored k1, fun _ => .inr ((over_set hi).2 (.inr rfl)), fun _ => ⟨(by intro j hj; obtain rfl | rfl | rfl | rfl | rfl | rfl | rfl | rfl | rfl | rfl : j = 0 ∨ j = 1 ∨ j = 2 ∨ j = 3 ∨ j = 4 ∨ j = 5 ∨ j = 6 ∨ j = 7 ∨ j = 8 ∨ j = 9 := (by omega); all_goals exact over_mono (hd { on := _, ground := .phase } (by simp) rfl)), ⟨g, rfl, World.cell?_setCell_same' _ _ _ (by rw [k1]; rfl)⟩⟩⟩
theorem pErrors_any (P i : Int) (v : Value) (ss : List (List Int)) (w : World) (hv : IsSheets w v ss) :
    Calls Try.prog 21 #[.agg #[.int .i64 P, v], .int .i64 i] w fun e w' => e = .returned (.tuple #[.agg #[.int .i64 (errorsR P ss i).1, .int .i64 (errorsR P ss i).2], .int .i64 (errOf P ss (inB i 0 (ss.length - 1)))]) ∧ Grow w w' := by
  by_cases hc : codeO P ss (inB i 0 (ss.length - 1)) = 0
  · have he := errOf_zero' hc
    by_cases h0 : (truthsR P.toNat ss).1 = []
    · rw [if_pos h0] at he
      rw [show errorsR P ss i = (0, 0) by unfold errorsR; rw [if_neg (by rw [he]; decide)], he]
      exact pErrors_clash P i v ss w hv hc h0
    · rw [if_neg h0] at he
      have hval : validB P ss = true := by
        unfold codeO at hc
        by_cases h1 : validB P ss = true
        · exact h1
        · rw [if_pos (by simpa using h1)] at hc; cases hc
      have hin : inB i 0 (ss.length - 1) = true := by
        unfold codeO at hc
        rw [hval] at hc
        cases h : inB i 0 (ss.length - 1) with
        | true => rfl
        | false => rw [h] at hc; simp at hc
      rw [he]
      refine pErrors_ok P i v ss w hv hval hin h0 _ fun s hs => ?_
      unfold errorsR
      rw [if_pos he, hs]
      rfl
  · have he := codeO_errOf hc
    rw [show errorsR P ss i = (0, 0) by unfold errorsR; rw [if_neg (by rw [he]; exact hc)], he]
    exact pErrors_bad P i v ss w hv hc
end Go.Proofs.Yteijilbdllpbcaa
