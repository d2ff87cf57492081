/- The program of layer 1: Laps, where it is refused. Conditions: sizes. -/
import Derived.Test.YteijilbdllpbcaaPhD
namespace Go.Proofs.Yteijilbdllpbcaa
open Go.RowKit

def LapsInvB (W : World) (W0 W1 W2 W3 : Nat) (P p : Int) (a : Option Addr) (n cap : Nat) (rb : Bool) (L : Array Bool) (A : Act) (V : World) : Prop :=
  ∃ v6 v10 v11 v12 v13 v14 v15, A = { tmps := #[.agg #[.int .i64 P, .slice a n cap], .int .i64 p, .pointer (some ⟨W0, 0, none⟩), .pointer (some ⟨W1, 0, none⟩), .pointer (some ⟨W2, 0, none⟩), .pointer (some ⟨W3, 0, none⟩), v6, undef, undef, .func (.func 61) #[] #[.pointer (some ⟨W3, 0, none⟩)], v10, v11, v12, v13, v14, v15, undef, undef, undef, undef, undef, undef, undef, undef, undef], defers := [{ target := .fn (.func 61) #[.pointer (some ⟨W3, 0, none⟩)], args := #[] }] } ∧ (Grow W V) ∧ (Over L 0 → (v10 = .agg #[.int .i64 P, .slice a n cap])) ∧ (Over L 1 → (v11 = .agg #[.int .i64 P, .slice a n cap])) ∧ (Over L 2 → (v12 = .int .i64 p)) ∧ (Over L 3 → (v13 = .bool rb)) ∧ ¬ Over L 4 ∧ ¬ Over L 5 ∧ ¬ Over L 6
def LapsInvC (W : World) (W0 W1 W2 W3 : Nat) (P p : Int) (a : Option Addr) (n cap : Nat) (rb : Bool) (ss T : List (List Int)) (L : Array Bool) (A : Act) (V : World) : Prop :=
  ∃ v6 v10 v11 v12 v13 v14 v15, A = { tmps := #[.agg #[.int .i64 P, .slice a n cap], .int .i64 p, .pointer (some ⟨W0, 0, none⟩), .pointer (some ⟨W1, 0, none⟩), .pointer (some ⟨W2, 0, none⟩), .pointer (some ⟨W3, 0, none⟩), v6, undef, undef, .func (.func 61) #[] #[.pointer (some ⟨W3, 0, none⟩)], v10, v11, v12, v13, v14, v15, undef, undef, undef, undef, undef, undef, undef, undef, undef], defers := [{ target := .fn (.func 61) #[.pointer (some ⟨W3, 0, none⟩)], args := #[] }] } ∧ (Grow W V) ∧ (Over L 0 → (v10 = .agg #[.int .i64 P, .slice a n cap])) ∧ (Over L 1 → (v11 = .agg #[.int .i64 P, .slice a n cap])) ∧ (Over L 2 → (v12 = .int .i64 p)) ∧ (Over L 3 → (v13 = .bool rb)) ∧ (Over L 4 → (FullAt V ss T v14)) ∧ ¬ Over L 5 ∧ ¬ Over L 6
set_option maxRecDepth 100000 in
set_option maxHeartbeats 1000000 in
theorem pLaps_bad (P p : Int) (v : Value) (ss : List (List Int)) (rb : Bool) (w : World) (hv : IsSheets w v ss) (hr : ∀ V, Grow w V → Calls Try.prog 62 #[.agg #[.int .i64 P, v], .int .i64 p] V fun e w' => e = .returned (.bool rb) ∧ Grow V w') (hc : codeO P ss rb ≠ 0) :
    Calls Try.prog 26 #[.agg #[.int .i64 P, v], .int .i64 p] w fun e w' => e = .returned (.tuple #[.int .i64 0, .int .i64 (codeO P ss rb)]) ∧ Grow w w' := by
  have hmf : ∀ (fn : Fn) (first cap : Array Value) (w : World), (Instr.makeFunc fn first cap).run Try.prog w = .ok (.func fn first cap) w := fun _ _ _ _ => rfl
  obtain ⟨a, cap, rfl, hcap, hlen, hrow⟩ := id hv
  have Hv := Lib.hid hv
  have HR := Lib.hid hr
  clear hv hr
  obtain ⟨cd, hcd⟩ : ∃ cd, cd = codeO P ss rb := ⟨_, rfl⟩
  have Hcd := Lib.hid hcd
  rw [← hcd] at hc ⊢
  clear hcd
  go_enter_defers Try.func26, Try.ntmps26
  go_wp2_with fail
  obtain ⟨W, hW⟩ : ∃ W, W = ((((w.alloc (.cells #[.int .i64 P, .slice a ss.length cap] 24)).alloc (.cells #[.int .i64 p] 3)).alloc (.cells #[.int .i64 0] 3)).alloc (.cells #[.int .i64 0] 28)) := ⟨_, rfl⟩
  have hgW : Grow w W := by rw [hW]; exact (((((Grow.refl w).alloc _).alloc _).alloc _).alloc _)
  have hW00 : W.cell? ⟨w.heap.size, 0, none⟩ = some (.int .i64 P) := by rw [hW]; exact Grow.keepA (Grow.keepA (Grow.keepA (cell_new (by simp) rfl) _) _) _
  have hW01 : W.cell? ⟨w.heap.size, 1, none⟩ = some (.slice a ss.length cap) := by rw [hW]; exact Grow.keepA (Grow.keepA (Grow.keepA (cell_new (by simp) rfl) _) _) _
  have hWf0 : ∀ o, W.frozen? ⟨w.heap.size, o, none⟩ = false := by intro o; rw [hW]; exact (((Grow.refl _).alloc _).marks _ _ (by simp <;> omega)).trans ((((Grow.refl _).alloc _).marks _ _ (by simp <;> omega)).trans ((((Grow.refl _).alloc _).marks _ _ (by simp <;> omega)).trans (hot_new (by simp))))
  have hWl0 : w.heap.size < W.heap.size := by rw [hW]; simp; try omega
  have hW10 : W.cell? ⟨w.heap.size + 1, 0, none⟩ = some (.int .i64 p) := by rw [hW]; exact Grow.keepA (Grow.keepA (cell_new (by simp) rfl) _) _
  have hWf1 : ∀ o, W.frozen? ⟨w.heap.size + 1, o, none⟩ = false := by intro o; rw [hW]; exact (((Grow.refl _).alloc _).marks _ _ (by simp <;> omega)).trans ((((Grow.refl _).alloc _).marks _ _ (by simp <;> omega)).trans (hot_new (by simp)))
  have hWl1 : w.heap.size + 1 < W.heap.size := by rw [hW]; simp; try omega
  have hW20 : W.cell? ⟨w.heap.size + 1 + 1, 0, none⟩ = some (.int .i64 0) := by rw [hW]; exact Grow.keepA (cell_new (by simp) rfl) _
  have hWf2 : ∀ o, W.frozen? ⟨w.heap.size + 1 + 1, o, none⟩ = false := by intro o; rw [hW]; exact (((Grow.refl _).alloc _).marks _ _ (by simp <;> omega)).trans (hot_new (by simp))
  have hWl2 : w.heap.size + 1 + 1 < W.heap.size := by rw [hW]; simp; try omega
  have hW30 : W.cell? ⟨w.heap.size + 1 + 1 + 1, 0, none⟩ = some (.int .i64 0) := by rw [hW]; exact cell_new (by simp) rfl
  have hWf3 : ∀ o, W.frozen? ⟨w.heap.size + 1 + 1 + 1, o, none⟩ = false := by intro o; rw [hW]; exact hot_new (by simp)
  have hWl3 : w.heap.size + 1 + 1 + 1 < W.heap.size := by rw [hW]; simp; try omega
  rw [← hW]
  clear hW
  have hWd : ∀ n, (W.drewN n).heap.size = W.heap.size := fun _ => rfl
  have hWq : ∀ n o b j, b < W.heap.size → ((W.drewN n).alloc o).cell? ⟨b, j, none⟩ = W.cell? ⟨b, j, none⟩ := cell_drewN_alloc W
  have hWr : ∀ n o b j, b < W.heap.size → ((W.drewN n).alloc o).frozen? ⟨b, j, none⟩ = W.frozen? ⟨b, j, none⟩ := hot_drewN_alloc W
  have hWb0 : w.heap.size ≤ w.heap.size := by omega
  have hWb1 : w.heap.size ≤ w.heap.size + 1 := by omega
  have hWn01 : w.heap.size ≠ w.heap.size + 1 := by omega
  have hWn10 : w.heap.size + 1 ≠ w.heap.size := by omega
  have hWb2 : w.heap.size ≤ w.heap.size + 1 + 1 := by omega
  have hWn02 : w.heap.size ≠ w.heap.size + 1 + 1 := by omega
  have hWn20 : w.heap.size + 1 + 1 ≠ w.heap.size := by omega
  have hWn12 : w.heap.size + 1 ≠ w.heap.size + 1 + 1 := by omega
  have hWn21 : w.heap.size + 1 + 1 ≠ w.heap.size + 1 := by omega
  have hWb3 : w.heap.size ≤ w.heap.size + 1 + 1 + 1 := by omega
  have hWn03 : w.heap.size ≠ w.heap.size + 1 + 1 + 1 := by omega
  have hWn30 : w.heap.size + 1 + 1 + 1 ≠ w.heap.size := by omega
  have hWn13 : w.heap.size + 1 ≠ w.heap.size + 1 + 1 + 1 := by omega
  have hWn31 : w.heap.size + 1 + 1 + 1 ≠ w.heap.size + 1 := by omega
  have hWn23 : w.heap.size + 1 + 1 ≠ w.heap.size + 1 + 1 + 1 := by omega
  have hWn32 : w.heap.size + 1 + 1 + 1 ≠ w.heap.size + 1 + 1 := by omega
  obtain ⟨W3, hWe3⟩ : ∃ g, w.heap.size + 1 + 1 + 1 = g := ⟨_, rfl⟩
  rw [hWe3] at hW30 hWf3 hWl3 hWb3 hWn30 hWn31 hWn32 hWn03 hWn13 hWn23
  (try rw [hWe3])
  have hWk3 := Lib.hid hWe3
  clear hWe3
  obtain ⟨W2, hWe2⟩ : ∃ g, w.heap.size + 1 + 1 = g := ⟨_, rfl⟩
  rw [hWe2] at hW20 hWf2 hWl2 hWb2 hWn20 hWn21 hWn23 hWn02 hWn12 hWn32
  (try rw [hWe2])
  have hWk2 := Lib.hid hWe2
  clear hWe2
  obtain ⟨W1, hWe1⟩ : ∃ g, w.heap.size + 1 = g := ⟨_, rfl⟩
  rw [hWe1] at hW10 hWf1 hWl1 hWb1 hWn10 hWn12 hWn13 hWn01 hWn21 hWn31
  (try rw [hWe1])
  have hWk1 := Lib.hid hWe1
  clear hWe1
  obtain ⟨W0, hWe0⟩ : ∃ g, w.heap.size = g := ⟨_, rfl⟩
  have hWb0 : w.heap.size ≤ W0 := by omega
  rw [hWe0] at hW00 hW01 hWf0 hWl0 hWn01 hWn02 hWn03 hWn10 hWn20 hWn30
  (try rw [hWe0])
  have hWk0 := Lib.hid hWe0
  clear hWe0
  refine wp_region_inv (by kernel_rfl) (LapsInvB W W0 W1 W2 W3 P p a ss.length cap rb) (by kernel_rfl) ?_ ?_ ?_
  · exact fun L hL => ⟨undef, _, _, _, _, _, _, rfl, (Grow.refl W).drew, fun h => absurd h (hL _), fun h => absurd h (hL _), fun h => absurd h (hL _), fun h => absurd h (hL _), hL _, hL _, hL _⟩
  · rintro L A V ⟨v6, v10, v11, v12, v13, v14, v15, rfl, hg, h0, h1, h2, h3, n4, n5, n6⟩ hall
    exact absurd (hall 4 (by simp)) n4
  · rintro i o L A V ho hi ⟨v6, v10, v11, v12, v13, v14, v15, rfl, hg, h0, h1, h2, h3, n4, n5, n6⟩ hno hd
    have hio := (Array.getElem?_eq_some_iff.1 ho).1
    simp only [List.size_toArray, List.length_cons, List.length_nil, Nat.reduceAdd] at hio
    obtain rfl | rfl | rfl | rfl | rfl | rfl | rfl : i = 0 ∨ i = 1 ∨ i = 2 ∨ i = 3 ∨ i = 4 ∨ i = 5 ∨ i = 6 := by omega
    · cases ho
      have c0 := hg.keeps hW00
      have c1 := hg.keeps hW01
      have c2 := hg.keeps hW10
      go_simp
      exact ⟨_, _, _, _, _, _, _, rfl, hg, fun _ => rfl, fun h => h1 (over_ne h (by decide)), fun h => h2 (over_ne h (by decide)), fun h => h3 (over_ne h (by decide)), fun h => n4 (over_ne h (by decide)), fun h => n5 (over_ne h (by decide)), fun h => n6 (over_ne h (by decide))⟩
    · cases ho
      have c0 := hg.keeps hW00
      have c1 := hg.keeps hW01
      have c2 := hg.keeps hW10
      go_simp
      exact ⟨_, _, _, _, _, _, _, rfl, hg, fun h => h0 (over_ne h (by decide)), fun _ => rfl, fun h => h2 (over_ne h (by decide)), fun h => h3 (over_ne h (by decide)), fun h => n4 (over_ne h (by decide)), fun h => n5 (over_ne h (by decide)), fun h => n6 (over_ne h (by decide))⟩
    · cases ho
      have c0 := hg.keeps hW00
      have c1 := hg.keeps hW01
      have c2 := hg.keeps hW10
      go_simp
      exact ⟨_, _, _, _, _, _, _, rfl, hg, fun h => h0 (over_ne h (by decide)), fun h => h1 (over_ne h (by decide)), fun _ => rfl, fun h => h3 (over_ne h (by decide)), fun h => n4 (over_ne h (by decide)), fun h => n5 (over_ne h (by decide)), fun h => n6 (over_ne h (by decide))⟩
    · cases ho
      have d1 := h1 (hd { on := 1, ground := .data } (by simp) rfl)
      have d2 := h2 (hd { on := 2, ground := .data } (by simp) rfl)
      subst d1 d2
      go_simp
      go_at_call 62
      refine (HR.out _ (hgW.trans hg)).mono ?_
      rintro e V2 ⟨rfl, hgV⟩
      go_simp
      exact ⟨_, _, _, _, _, _, _, rfl, (fun h => h.trans hgV) hg, fun h => h0 (over_ne h (by decide)), fun h => h1 (over_ne h (by decide)), fun h => h2 (over_ne h (by decide)), fun _ => rfl, fun h => n4 (over_ne h (by decide)), fun h => n5 (over_ne h (by decide)), fun h => n6 (over_ne h (by decide))⟩
    · cases ho
      have d0 := h0 (hd { on := 0, ground := .data } (by simp) rfl)
      have d3 := h3 (hd { on := 3, ground := .data } (by simp) rfl)
      subst d0 d3
      go_simp
      go_at_call 43
      refine (popen P _ ss _ _ (Hv.out.grow (hgW.trans hg))).mono ?_
      rintro e w1 ⟨hg1, hbad, _⟩
      have hbad := hbad (by rw [← Hcd.out]; exact hc)
      rw [← Hcd.out] at hbad
      subst hbad
      go_simp
      have hG1 : Grow W w1 := hg.trans hg1
      have hc1 : w1.cell? ⟨W3, 0, none⟩ = some (.int .i64 0) := hG1.keeps hW30
      have hf1 : ∀ o, w1.frozen? ⟨W3, o, none⟩ = false := fun o => (hG1.marks _ _ hWl3).trans (hWf3 o)
      unfold refusal
      show Leaves _ _ _ _ _ _ _
      refine leaves_cons (f := 61) (args := #[.pointer (some ⟨W3, 0, none⟩)]) (by simp) (by simp [go_sem]) ?_
      refine (pdefLaps_panic W3 cd [] w1 hc1 hf1).mono ?_
      rintro e u' w'' ⟨rfl, rfl, q1, q2⟩
      have hG : Grow w w'' := Below.trans (hgW.trans hG1) (grownBy_below q2 (by intro k hk; injection hk with hk; omega) (hgW.trans hG1).size)
      have q3 := byCell1 q2 (hG1.keeps hW20) (by intro e; injection e with e; omega)
      simp [Leaves, settle, results, Try.results26, go_sem, q1, q3]
      exact hG
    · cases ho
      exact absurd (hd { on := 4, ground := .data } (by simp) rfl) n4
    · cases ho
      exact absurd (hd { on := 5, ground := .data } (by simp) rfl) n5
set_option maxRecDepth 100000 in
set_option maxHeartbeats 1000000 in
theorem pLaps_clash (P p : Int) (v : Value) (ss : List (List Int)) (rb : Bool) (w : World) (hv : IsSheets w v ss) (hr : ∀ V, Grow w V → Calls Try.prog 62 #[.agg #[.int .i64 P, v], .int .i64 p] V fun e w' => e = .returned (.bool rb) ∧ Grow V w') (hc : codeO P ss rb = 0) (h0 : (truthsR P.toNat ss).1 = []) :
    Calls Try.prog 26 #[.agg #[.int .i64 P, v], .int .i64 p] w fun e w' => e = .returned (.tuple #[.int .i64 0, .int .i64 10]) ∧ Grow w w' := by
  have hmf : ∀ (fn : Fn) (first cap : Array Value) (w : World), (Instr.makeFunc fn first cap).run Try.prog w = .ok (.func fn first cap) w := fun _ _ _ _ => rfl
  obtain ⟨a, cap, rfl, hcap, hlen, hrow⟩ := id hv
  have Hv := Lib.hid hv
  have HR := Lib.hid hr
  have Hc := Lib.hid hc
  have H0 := Lib.hid h0
  clear hv hr hc h0
  go_enter_defers Try.func26, Try.ntmps26
  go_wp2_with fail
  obtain ⟨W, hW⟩ : ∃ W, W = ((((w.alloc (.cells #[.int .i64 P, .slice a ss.length cap] 24)).alloc (.cells #[.int .i64 p] 3)).alloc (.cells #[.int .i64 0] 3)).alloc (.cells #[.int .i64 0] 28)) := ⟨_, rfl⟩
  have hgW : Grow w W := by rw [hW]; exact (((((Grow.refl w).alloc _).alloc _).alloc _).alloc _)
  have hW00 : W.cell? ⟨w.heap.size, 0, none⟩ = some (.int .i64 P) := by rw [hW]; exact Grow.keepA (Grow.keepA (Grow.keepA (cell_new (by simp) rfl) _) _) _
  have hW01 : W.cell? ⟨w.heap.size, 1, none⟩ = some (.slice a ss.length cap) := by rw [hW]; exact Grow.keepA (Grow.keepA (Grow.keepA (cell_new (by simp) rfl) _) _) _
  have hWf0 : ∀ o, W.frozen? ⟨w.heap.size, o, none⟩ = false := by intro o; rw [hW]; exact (((Grow.refl _).alloc _).marks _ _ (by simp <;> omega)).trans ((((Grow.refl _).alloc _).marks _ _ (by simp <;> omega)).trans ((((Grow.refl _).alloc _).marks _ _ (by simp <;> omega)).trans (hot_new (by simp))))
  have hWl0 : w.heap.size < W.heap.size := by rw [hW]; simp; try omega
  have hW10 : W.cell? ⟨w.heap.size + 1, 0, none⟩ = some (.int .i64 p) := by rw [hW]; exact Grow.keepA (Grow.keepA (cell_new (by simp) rfl) _) _
  have hWf1 : ∀ o, W.frozen? ⟨w.heap.size + 1, o, none⟩ = false := by intro o; rw [hW]; exact (((Grow.refl _).alloc _).marks _ _ (by simp <;> omega)).trans ((((Grow.refl _).alloc _).marks _ _ (by simp <;> omega)).trans (hot_new (by simp)))
  have hWl1 : w.heap.size + 1 < W.heap.size := by rw [hW]; simp; try omega
  have hW20 : W.cell? ⟨w.heap.size + 1 + 1, 0, none⟩ = some (.int .i64 0) := by rw [hW]; exact Grow.keepA (cell_new (by simp) rfl) _
  have hWf2 : ∀ o, W.frozen? ⟨w.heap.size + 1 + 1, o, none⟩ = false := by intro o; rw [hW]; exact (((Grow.refl _).alloc _).marks _ _ (by simp <;> omega)).trans (hot_new (by simp))
  have hWl2 : w.heap.size + 1 + 1 < W.heap.size := by rw [hW]; simp; try omega
  have hW30 : W.cell? ⟨w.heap.size + 1 + 1 + 1, 0, none⟩ = some (.int .i64 0) := by rw [hW]; exact cell_new (by simp) rfl
  have hWf3 : ∀ o, W.frozen? ⟨w.heap.size + 1 + 1 + 1, o, none⟩ = false := by intro o; rw [hW]; exact hot_new (by simp)
  have hWl3 : w.heap.size + 1 + 1 + 1 < W.heap.size := by rw [hW]; simp; try omega
  rw [← hW]
  clear hW
  have hWd : ∀ n, (W.drewN n).heap.size = W.heap.size := fun _ => rfl
  have hWq : ∀ n o b j, b < W.heap.size → ((W.drewN n).alloc o).cell? ⟨b, j, none⟩ = W.cell? ⟨b, j, none⟩ := cell_drewN_alloc W
  have hWr : ∀ n o b j, b < W.heap.size → ((W.drewN n).alloc o).frozen? ⟨b, j, none⟩ = W.frozen? ⟨b, j, none⟩ := hot_drewN_alloc W
  have hWb0 : w.heap.size ≤ w.heap.size := by omega
  have hWb1 : w.heap.size ≤ w.heap.size + 1 := by omega
  have hWn01 : w.heap.size ≠ w.heap.size + 1 := by omega
  have hWn10 : w.heap.size + 1 ≠ w.heap.size := by omega
  have hWb2 : w.heap.size ≤ w.heap.size + 1 + 1 := by omega
  have hWn02 : w.heap.size ≠ w.heap.size + 1 + 1 := by omega
  have hWn20 : w.heap.size + 1 + 1 ≠ w.heap.size := by omega
  have hWn12 : w.heap.size + 1 ≠ w.heap.size + 1 + 1 := by omega
  have hWn21 : w.heap.size + 1 + 1 ≠ w.heap.size + 1 := by omega
  have hWb3 : w.heap.size ≤ w.heap.size + 1 + 1 + 1 := by omega
  have hWn03 : w.heap.size ≠ w.heap.size + 1 + 1 + 1 := by omega
  have hWn30 : w.heap.size + 1 + 1 + 1 ≠ w.heap.size := by omega
  have hWn13 : w.heap.size + 1 ≠ w.heap.size + 1 + 1 + 1 := by omega
  have hWn31 : w.heap.size + 1 + 1 + 1 ≠ w.heap.size + 1 := by omega
  have hWn23 : w.heap.size + 1 + 1 ≠ w.heap.size + 1 + 1 + 1 := by omega
  have hWn32 : w.heap.size + 1 + 1 + 1 ≠ w.heap.size + 1 + 1 := by omega
  obtain ⟨W3, hWe3⟩ : ∃ g, w.heap.size + 1 + 1 + 1 = g := ⟨_, rfl⟩
  rw [hWe3] at hW30 hWf3 hWl3 hWb3 hWn30 hWn31 hWn32 hWn03 hWn13 hWn23
  (try rw [hWe3])
  have hWk3 := Lib.hid hWe3
  clear hWe3
  obtain ⟨W2, hWe2⟩ : ∃ g, w.heap.size + 1 + 1 = g := ⟨_, rfl⟩
  rw [hWe2] at hW20 hWf2 hWl2 hWb2 hWn20 hWn21 hWn23 hWn02 hWn12 hWn32
  (try rw [hWe2])
  have hWk2 := Lib.hid hWe2
  clear hWe2
  obtain ⟨W1, hWe1⟩ : ∃ g, w.heap.size + 1 = g := ⟨_, rfl⟩
  rw [hWe1] at hW10 hWf1 hWl1 hWb1 hWn10 hWn12 hWn13 hWn01 hWn21 hWn31
  (try rw [hWe1])
  have hWk1 := Lib.hid hWe1
  clear hWe1
  obtain ⟨W0, hWe0⟩ : ∃ g, w.heap.size = g := ⟨_, rfl⟩
  have hWb0 : w.heap.size ≤ W0 := by omega
  rw [hWe0] at hW00 hW01 hWf0 hWl0 hWn01 hWn02 hWn03 hWn10 hWn20 hWn30
  (try rw [hWe0])
  have hWk0 := Lib.hid hWe0
  clear hWe0
  refine wp_region_inv (by kernel_rfl) (LapsInvC W W0 W1 W2 W3 P p a ss.length cap rb ss (truthsR P.toNat ss).1) (by kernel_rfl) ?_ ?_ ?_
  · exact fun L hL => ⟨undef, _, _, _, _, _, _, rfl, (Grow.refl W).drew, fun h => absurd h (hL _), fun h => absurd h (hL _), fun h => absurd h (hL _), fun h => absurd h (hL _), fun h => absurd h (hL _), hL _, hL _⟩
  · rintro L A V ⟨v6, v10, v11, v12, v13, v14, v15, rfl, hg, h0, h1, h2, h3, h4, n5, n6⟩ hall
    exact absurd (hall 5 (by simp)) n5
  · rintro i o L A V ho hi ⟨v6, v10, v11, v12, v13, v14, v15, rfl, hg, h0, h1, h2, h3, h4, n5, n6⟩ hno hd
    have hio := (Array.getElem?_eq_some_iff.1 ho).1
    simp only [List.size_toArray, List.length_cons, List.length_nil, Nat.reduceAdd] at hio
    obtain rfl | rfl | rfl | rfl | rfl | rfl | rfl : i = 0 ∨ i = 1 ∨ i = 2 ∨ i = 3 ∨ i = 4 ∨ i = 5 ∨ i = 6 := by omega
    · cases ho
      have c0 := hg.keeps hW00
      have c1 := hg.keeps hW01
      have c2 := hg.keeps hW10
      go_simp
      exact ⟨_, _, _, _, _, _, _, rfl, hg, fun _ => rfl, fun h => h1 (over_ne h (by decide)), fun h => h2 (over_ne h (by decide)), fun h => h3 (over_ne h (by decide)), fun h => h4 (over_ne h (by decide)), fun h => n5 (over_ne h (by decide)), fun h => n6 (over_ne h (by decide))⟩
    · cases ho
      have c0 := hg.keeps hW00
      have c1 := hg.keeps hW01
      have c2 := hg.keeps hW10
      go_simp
      exact ⟨_, _, _, _, _, _, _, rfl, hg, fun h => h0 (over_ne h (by decide)), fun _ => rfl, fun h => h2 (over_ne h (by decide)), fun h => h3 (over_ne h (by decide)), fun h => h4 (over_ne h (by decide)), fun h => n5 (over_ne h (by decide)), fun h => n6 (over_ne h (by decide))⟩
    · cases ho
      have c0 := hg.keeps hW00
      have c1 := hg.keeps hW01
      have c2 := hg.keeps hW10
      go_simp
      exact ⟨_, _, _, _, _, _, _, rfl, hg, fun h => h0 (over_ne h (by decide)), fun h => h1 (over_ne h (by decide)), fun _ => rfl, fun h => h3 (over_ne h (by decide)), fun h => h4 (over_ne h (by decide)), fun h => n5 (over_ne h (by decide)), fun h => n6 (over_ne h (by decide))⟩
    · cases ho
      have d1 := h1 (hd { on := 1, ground := .data } (by simp) rfl)
      have d2 := h2 (hd { on := 2, ground := .data } (by simp) rfl)
      subst d1 d2
      go_simp
      go_at_call 62
      refine (HR.out _ (hgW.trans hg)).mono ?_
      rintro e V2 ⟨rfl, hgV⟩
      go_simp
      exact ⟨_, _, _, _, _, _, _, rfl, (fun h => h.trans hgV) hg, fun h => h0 (over_ne h (by decide)), fun h => h1 (over_ne h (by decide)), fun h => h2 (over_ne h (by decide)), fun _ => rfl, fun h => (fun h => h.grow hgV) (h4 (over_ne h (by decide))), fun h => n5 (over_ne h (by decide)), fun h => n6 (over_ne h (by decide))⟩
    · cases ho
      have d0 := h0 (hd { on := 0, ground := .data } (by simp) rfl)
      have d3 := h3 (hd { on := 3, ground := .data } (by simp) rfl)
      subst d0 d3
      go_simp
      go_at_call 43
      refine (popen P _ ss _ _ (Hv.out.grow (hgW.trans hg))).mono ?_
      rintro e V2 ⟨hgV, _, hok⟩
      obtain ⟨c, sheets, ts, m, rfl, hcs, hwc, hsh, hts, hn, hz12⟩ := hok Hc.out
      go_simp
      exact ⟨_, _, _, _, _, _, _, rfl, (fun h => h.trans hgV) hg, fun h => h0 (over_ne h (by decide)), fun h => h1 (over_ne h (by decide)), fun h => h2 (over_ne h (by decide)), fun h => h3 (over_ne h (by decide)), fun _ => ⟨c, sheets, ts, m, rfl, hcs, hsh, hts, hz12⟩, fun h => n5 (over_ne h (by decide)), fun h => n6 (over_ne h (by decide))⟩
    · cases ho
      have d4 := h4 (hd { on := 4, ground := .data } (by simp) rfl)
      obtain ⟨c, sheets, ts, m, rfl, hcs, hsh, hts, hz12⟩ := d4
      have hts0 : ts = [] := List.map_eq_nil_iff.1 (hts.trans H0.out)
      subst hts0
      go_simp
      go_at_call 44
      refine (ptold_no c sheets m _ hcs).mono ?_
      rintro e w1 ⟨rfl, rfl⟩
      go_simp
      have hG1 : Grow W V := hg
      have hc1 : V.cell? ⟨W3, 0, none⟩ = some (.int .i64 0) := hG1.keeps hW30
      have hf1 : ∀ o, V.frozen? ⟨W3, o, none⟩ = false := fun o => (hG1.marks _ _ hWl3).trans (hWf3 o)
      unfold refusal
      show Leaves _ _ _ _ _ _ _
      refine leaves_cons (f := 61) (args := #[.pointer (some ⟨W3, 0, none⟩)]) (by simp) (by simp [go_sem]) ?_
      refine (pdefLaps_panic W3 10 [] V hc1 hf1).mono ?_
      rintro e u' w'' ⟨rfl, rfl, q1, q2⟩
      have hG : Grow w w'' := Below.trans (hgW.trans hG1) (grownBy_below q2 (by intro k hk; injection hk with hk; omega) (hgW.trans hG1).size)
      have q3 := byCell1 q2 (hG1.keeps hW20) (by intro e; injection e with e; omega)
      simp [Leaves, settle, results, Try.results26, go_sem, q1, q3]
      exact hG
    · cases ho
      exact absurd (hd { on := 5, ground := .data } (by simp) rfl) n5
end Go.Proofs.Yteijilbdllpbcaa
