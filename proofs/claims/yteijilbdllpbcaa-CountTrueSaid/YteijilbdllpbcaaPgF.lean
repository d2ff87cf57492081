/- The program of layer 1: what can happen to a passing. Conditions: sizes. -/
import Derived.Test.YteijilbdllpbcaaPgE
import Derived.Test.YteijilbdllpbcaaLibX
import Derived.Deep.DeepCutAuto
namespace Go.Proofs.Yteijilbdllpbcaa
open Go.RowKit

/-- What is left then, who passed, how many errors it is, and whether it can be. -/
def OnPost (w : World) (i j : Int) (who : List Int) (n : Int) (is : Bool) (e : Ending) (w' : World) : Prop :=
  ∃ v, e = .returned (.tuple #[.agg #[.int .i64 i, .int .i64 j], v, .int .i64 n, .bool is]) ∧ Own w' w.heap.size 5 v (who.map (Value.int .u8)) ∧ Grow w w'

set_option maxRecDepth 100000 in
theorem pboth_noA (a b : ByteArray) (p i j : Nat) (w : World) (ha : w.cell? ⟨p, 0, none⟩ = some (.string a)) (hb : w.cell? ⟨p, 1, none⟩ = some (.string b)) (h : i = a.size) :
    Calls Try.prog 130 #[.agg #[], .pointer (some ⟨p, 0, none⟩), .agg #[.int .i64 i, .int .i64 j]] w (OnPost w i j [] 0 false) := by
  have hlt := lt_of_cell ha
  have h1 : ((i : Int) == (a.size : Int)) = true := by rw [h]; simp
  clear h
  go_enter Try.func130, Try.ntmps130
  go_wp2_with fail
  obtain ⟨W, hW⟩ : ∃ W, W = (((w.alloc (.cells #[] 136)).alloc (.cells #[.int .i64 i, .int .i64 j] 121)).alloc (.cells #[.int .i64 0, .int .i64 0] 121)) := ⟨_, rfl⟩
  have hgW : Grow w W := by rw [hW]; exact ((((Grow.refl w).alloc _).alloc _).alloc _)
  have hWf0 : ∀ o, W.frozen? ⟨w.heap.size, o, none⟩ = false := by intro o; rw [hW]; exact (((Grow.refl _).alloc _).marks _ _ (by simp <;> omega)).trans ((((Grow.refl _).alloc _).marks _ _ (by simp <;> omega)).trans (hot_new (by simp)))
  have hWl0 : w.heap.size < W.heap.size := by rw [hW]; simp; try omega
  have hW10 : W.cell? ⟨w.heap.size + 1, 0, none⟩ = some (.int .i64 i) := by rw [hW]; exact Grow.keepA (cell_new (by simp) rfl) _
  have hW11 : W.cell? ⟨w.heap.size + 1, 1, none⟩ = some (.int .i64 j) := by rw [hW]; exact Grow.keepA (cell_new (by simp) rfl) _
  have hWf1 : ∀ o, W.frozen? ⟨w.heap.size + 1, o, none⟩ = false := by intro o; rw [hW]; exact (((Grow.refl _).alloc _).marks _ _ (by simp <;> omega)).trans (hot_new (by simp))
  have hWl1 : w.heap.size + 1 < W.heap.size := by rw [hW]; simp; try omega
  have hW20 : W.cell? ⟨w.heap.size + 1 + 1, 0, none⟩ = some (.int .i64 0) := by rw [hW]; exact cell_new (by simp) rfl
  have hW21 : W.cell? ⟨w.heap.size + 1 + 1, 1, none⟩ = some (.int .i64 0) := by rw [hW]; exact cell_new (by simp) rfl
  have hWf2 : ∀ o, W.frozen? ⟨w.heap.size + 1 + 1, o, none⟩ = false := by intro o; rw [hW]; exact hot_new (by simp)
  have hWl2 : w.heap.size + 1 + 1 < W.heap.size := by rw [hW]; simp; try omega
  rw [← hW]
  clear hW
  have hWd : ∀ n, (W.drewN n).heap.size = W.heap.size := fun _ => rfl
  have hWq : ∀ n o b j, b < W.heap.size → ((W.drewN n).alloc o).cell? ⟨b, j, none⟩ = W.cell? ⟨b, j, none⟩ := cell_drewN_alloc W
  have hWr : ∀ n o b j, b < W.heap.size → ((W.drewN n).alloc o).frozen? ⟨b, j, none⟩ = W.frozen? ⟨b, j, none⟩ := hot_drewN_alloc W
  have hWb0 : w.heap.size ≤ w.heap.size := by omega
  have hWb1 : w.heap.size ≤ w.heap.size + 1 := by omega
  have hWn01 : w.heap.size ≠ w.heap.size + 1 := by omega
  have hWn10 : w.heap.size + 1 ≠ w.heap.size := by omega
  have hWb2 : w.heap.size ≤ w.heap.size + 1 + 1 := by omega
  have hWn02 : w.heap.size ≠ w.heap.size + 1 + 1 := by omega
  have hWn20 : w.heap.size + 1 + 1 ≠ w.heap.size := by omega
  have hWn12 : w.heap.size + 1 ≠ w.heap.size + 1 + 1 := by omega
  have hWn21 : w.heap.size + 1 + 1 ≠ w.heap.size + 1 := by omega
  obtain ⟨W2, hWe2⟩ : ∃ g, w.heap.size + 1 + 1 = g := ⟨_, rfl⟩
  rw [hWe2] at hW20 hW21 hWf2 hWl2 hWb2 hWn20 hWn21 hWn02 hWn12
  (try rw [hWe2])
  have hWk2 := Lib.hid hWe2
  clear hWe2
  obtain ⟨W1, hWe1⟩ : ∃ g, w.heap.size + 1 = g := ⟨_, rfl⟩
  rw [hWe1] at hW10 hW11 hWf1 hWl1 hWb1 hWn10 hWn12 hWn01 hWn21
  (try rw [hWe1])
  have hWk1 := Lib.hid hWe1
  clear hWe1
  obtain ⟨W0, hWe0⟩ : ∃ g, w.heap.size = g := ⟨_, rfl⟩
  have hWb0 : w.heap.size ≤ W0 := by omega
  rw [hWe0] at hWf0 hWl0 hWn01 hWn02 hWn10 hWn20
  (try rw [hWe0])
  have hWk0 := Lib.hid hWe0
  clear hWe0
  have hWa := hgW.keeps ha
  have hWb := hgW.keeps hb
  go_quiet (fail)
  go_wp2_with fail
  refine bodyPost_ret (v := .tuple #[.agg #[.int .i64 (i), .int .i64 (j)], .slice none 0 0, .int .i64 0, .bool false]) (by simp [results, Try.results130, go_sem, hW20, hW21]) rfl ⟨_, rfl, Own.nil _ _ _, ?_⟩
  exact (((hgW.drewN _).setCell hWb2 _).setCell hWb2 _)
set_option maxRecDepth 100000 in
theorem pboth_noB (a b : ByteArray) (p i j : Nat) (w : World) (ha : w.cell? ⟨p, 0, none⟩ = some (.string a)) (hb : w.cell? ⟨p, 1, none⟩ = some (.string b)) (hi : i < a.size) (h : j = b.size) :
    Calls Try.prog 130 #[.agg #[], .pointer (some ⟨p, 0, none⟩), .agg #[.int .i64 i, .int .i64 j]] w (OnPost w i j [] 0 false) := by
  have hlt := lt_of_cell ha
  have h1 : ((i : Int) == (a.size : Int)) = false := by rw [beq_eq_false_iff_ne]; omega
  have h2 : ((j : Int) == (b.size : Int)) = true := by rw [h]; simp
  clear h
  go_enter Try.func130, Try.ntmps130
  go_wp2_with fail
  obtain ⟨W, hW⟩ : ∃ W, W = (((w.alloc (.cells #[] 136)).alloc (.cells #[.int .i64 i, .int .i64 j] 121)).alloc (.cells #[.int .i64 0, .int .i64 0] 121)) := ⟨_, rfl⟩
  have hgW : Grow w W := by rw [hW]; exact ((((Grow.refl w).alloc _).alloc _).alloc _)
  have hWf0 : ∀ o, W.frozen? ⟨w.heap.size, o, none⟩ = false := by intro o; rw [hW]; exact (((Grow.refl _).alloc _).marks _ _ (by simp <;> omega)).trans ((((Grow.refl _).alloc _).marks _ _ (by simp <;> omega)).trans (hot_new (by simp)))
  have hWl0 : w.heap.size < W.heap.size := by rw [hW]; simp; try omega
  have hW10 : W.cell? ⟨w.heap.size + 1, 0, none⟩ = some (.int .i64 i) := by rw [hW]; exact Grow.keepA (cell_new (by simp) rfl) _
  have hW11 : W.cell? ⟨w.heap.size + 1, 1, none⟩ = some (.int .i64 j) := by rw [hW]; exact Grow.keepA (cell_new (by simp) rfl) _
  have hWf1 : ∀ o, W.frozen? ⟨w.heap.size + 1, o, none⟩ = false := by intro o; rw [hW]; exact (((Grow.refl _).alloc _).marks _ _ (by simp <;> omega)).trans (hot_new (by simp))
  have hWl1 : w.heap.size + 1 < W.heap.size := by rw [hW]; simp; try omega
  have hW20 : W.cell? ⟨w.heap.size + 1 + 1, 0, none⟩ = some (.int .i64 0) := by rw [hW]; exact cell_new (by simp) rfl
  have hW21 : W.cell? ⟨w.heap.size + 1 + 1, 1, none⟩ = some (.int .i64 0) := by rw [hW]; exact cell_new (by simp) rfl
  have hWf2 : ∀ o, W.frozen? ⟨w.heap.size + 1 + 1, o, none⟩ = false := by intro o; rw [hW]; exact hot_new (by simp)
  have hWl2 : w.heap.size + 1 + 1 < W.heap.size := by rw [hW]; simp; try omega
  rw [← hW]
  clear hW
  have hWd : ∀ n, (W.drewN n).heap.size = W.heap.size := fun _ => rfl
  have hWq : ∀ n o b j, b < W.heap.size → ((W.drewN n).alloc o).cell? ⟨b, j, none⟩ = W.cell? ⟨b, j, none⟩ := cell_drewN_alloc W
  have hWr : ∀ n o b j, b < W.heap.size → ((W.drewN n).alloc o).frozen? ⟨b, j, none⟩ = W.frozen? ⟨b, j, none⟩ := hot_drewN_alloc W
  have hWb0 : w.heap.size ≤ w.heap.size := by omega
  have hWb1 : w.heap.size ≤ w.heap.size + 1 := by omega
  have hWn01 : w.heap.size ≠ w.heap.size + 1 := by omega
  have hWn10 : w.heap.size + 1 ≠ w.heap.size := by omega
  have hWb2 : w.heap.size ≤ w.heap.size + 1 + 1 := by omega
  have hWn02 : w.heap.size ≠ w.heap.size + 1 + 1 := by omega
  have hWn20 : w.heap.size + 1 + 1 ≠ w.heap.size := by omega
  have hWn12 : w.heap.size + 1 ≠ w.heap.size + 1 + 1 := by omega
  have hWn21 : w.heap.size + 1 + 1 ≠ w.heap.size + 1 := by omega
  obtain ⟨W2, hWe2⟩ : ∃ g, w.heap.size + 1 + 1 = g := ⟨_, rfl⟩
  rw [hWe2] at hW20 hW21 hWf2 hWl2 hWb2 hWn20 hWn21 hWn02 hWn12
  (try rw [hWe2])
  have hWk2 := Lib.hid hWe2
  clear hWe2
  obtain ⟨W1, hWe1⟩ : ∃ g, w.heap.size + 1 = g := ⟨_, rfl⟩
  rw [hWe1] at hW10 hW11 hWf1 hWl1 hWb1 hWn10 hWn12 hWn01 hWn21
  (try rw [hWe1])
  have hWk1 := Lib.hid hWe1
  clear hWe1
  obtain ⟨W0, hWe0⟩ : ∃ g, w.heap.size = g := ⟨_, rfl⟩
  have hWb0 : w.heap.size ≤ W0 := by omega
  rw [hWe0] at hWf0 hWl0 hWn01 hWn02 hWn10 hWn20
  (try rw [hWe0])
  have hWk0 := Lib.hid hWe0
  clear hWe0
  have hWa := hgW.keeps ha
  have hWb := hgW.keeps hb
  go_quiet (fail)
  go_wp2_with fail
  refine bodyPost_ret (v := .tuple #[.agg #[.int .i64 (i), .int .i64 (j)], .slice none 0 0, .int .i64 0, .bool false]) (by simp [results, Try.results130, go_sem, hW20, hW21]) rfl ⟨_, rfl, Own.nil _ _ _, ?_⟩
  exact (((hgW.drewN _).setCell hWb2 _).setCell hWb2 _)
set_option maxRecDepth 100000 in
theorem pboth_same (a b : ByteArray) (p i j : Nat) (w : World) (ha : w.cell? ⟨p, 0, none⟩ = some (.string a)) (hb : w.cell? ⟨p, 1, none⟩ = some (.string b)) (hsa : a.size ≤ 1000) (hsb : b.size ≤ 1000) (hi : i < a.size) (hj : j < b.size) (h : a[i].toNat = b[j].toNat) :
    Calls Try.prog 130 #[.agg #[], .pointer (some ⟨p, 0, none⟩), .agg #[.int .i64 i, .int .i64 j]] w (OnPost w ((i : Int) + 1) ((j : Int) + 1) [(a[i].toNat : Int)] 0 true) := by
  have hlt := lt_of_cell ha
  have h1 : ((i : Int) == (a.size : Int)) = false := by rw [beq_eq_false_iff_ne]; omega
  have h2 : ((j : Int) == (b.size : Int)) = false := by rw [beq_eq_false_iff_ne]; omega
  have h3 : ((a[i].toNat : Int) == (b[j].toNat : Int)) = true := by rw [h]; simp
  have H := Lib.hid h
  clear h
  go_enter Try.func130, Try.ntmps130
  go_wp2_with fail
  obtain ⟨W, hW⟩ : ∃ W, W = (((w.alloc (.cells #[] 136)).alloc (.cells #[.int .i64 i, .int .i64 j] 121)).alloc (.cells #[.int .i64 0, .int .i64 0] 121)) := ⟨_, rfl⟩
  have hgW : Grow w W := by rw [hW]; exact ((((Grow.refl w).alloc _).alloc _).alloc _)
  have hWf0 : ∀ o, W.frozen? ⟨w.heap.size, o, none⟩ = false := by intro o; rw [hW]; exact (((Grow.refl _).alloc _).marks _ _ (by simp <;> omega)).trans ((((Grow.refl _).alloc _).marks _ _ (by simp <;> omega)).trans (hot_new (by simp)))
  have hWl0 : w.heap.size < W.heap.size := by rw [hW]; simp; try omega
  have hW10 : W.cell? ⟨w.heap.size + 1, 0, none⟩ = some (.int .i64 i) := by rw [hW]; exact Grow.keepA (cell_new (by simp) rfl) _
  have hW11 : W.cell? ⟨w.heap.size + 1, 1, none⟩ = some (.int .i64 j) := by rw [hW]; exact Grow.keepA (cell_new (by simp) rfl) _
  have hWf1 : ∀ o, W.frozen? ⟨w.heap.size + 1, o, none⟩ = false := by intro o; rw [hW]; exact (((Grow.refl _).alloc _).marks _ _ (by simp <;> omega)).trans (hot_new (by simp))
  have hWl1 : w.heap.size + 1 < W.heap.size := by rw [hW]; simp; try omega
  have hW20 : W.cell? ⟨w.heap.size + 1 + 1, 0, none⟩ = some (.int .i64 0) := by rw [hW]; exact cell_new (by simp) rfl
  have hW21 : W.cell? ⟨w.heap.size + 1 + 1, 1, none⟩ = some (.int .i64 0) := by rw [hW]; exact cell_new (by simp) rfl
  have hWf2 : ∀ o, W.frozen? ⟨w.heap.size + 1 + 1, o, none⟩ = false := by intro o; rw [hW]; exact hot_new (by simp)
  have hWl2 : w.heap.size + 1 + 1 < W.heap.size := by rw [hW]; simp; try omega
  rw [← hW]
  clear hW
  have hWd : ∀ n, (W.drewN n).heap.size = W.heap.size := fun _ => rfl
  have hWq : ∀ n o b j, b < W.heap.size → ((W.drewN n).alloc o).cell? ⟨b, j, none⟩ = W.cell? ⟨b, j, none⟩ := cell_drewN_alloc W
  have hWr : ∀ n o b j, b < W.heap.size → ((W.drewN n).alloc o).frozen? ⟨b, j, none⟩ = W.frozen? ⟨b, j, none⟩ := hot_drewN_alloc W
  have hWb0 : w.heap.size ≤ w.heap.size := by omega
  have hWb1 : w.heap.size ≤ w.heap.size + 1 := by omega
  have hWn01 : w.heap.size ≠ w.heap.size + 1 := by omega
  have hWn10 : w.heap.size + 1 ≠ w.heap.size := by omega
  have hWb2 : w.heap.size ≤ w.heap.size + 1 + 1 := by omega
  have hWn02 : w.heap.size ≠ w.heap.size + 1 + 1 := by omega
  have hWn20 : w.heap.size + 1 + 1 ≠ w.heap.size := by omega
  have hWn12 : w.heap.size + 1 ≠ w.heap.size + 1 + 1 := by omega
  have hWn21 : w.heap.size + 1 + 1 ≠ w.heap.size + 1 := by omega
  obtain ⟨W2, hWe2⟩ : ∃ g, w.heap.size + 1 + 1 = g := ⟨_, rfl⟩
  rw [hWe2] at hW20 hW21 hWf2 hWl2 hWb2 hWn20 hWn21 hWn02 hWn12
  (try rw [hWe2])
  have hWk2 := Lib.hid hWe2
  clear hWe2
  obtain ⟨W1, hWe1⟩ : ∃ g, w.heap.size + 1 = g := ⟨_, rfl⟩
  rw [hWe1] at hW10 hW11 hWf1 hWl1 hWb1 hWn10 hWn12 hWn01 hWn21
  (try rw [hWe1])
  have hWk1 := Lib.hid hWe1
  clear hWe1
  obtain ⟨W0, hWe0⟩ : ∃ g, w.heap.size = g := ⟨_, rfl⟩
  have hWb0 : w.heap.size ≤ W0 := by omega
  rw [hWe0] at hWf0 hWl0 hWn01 hWn02 hWn10 hWn20
  (try rw [hWe0])
  have hWk0 := Lib.hid hWe0
  clear hWe0
  have hWa := hgW.keeps ha
  have hWb := hgW.keeps hb
  go_quiet (fail)
  go_wp2_with fail
  go_quiet (fail)
  go_wp2_with fail
  refine bodyPost_ret (v := .tuple #[.agg #[.int .i64 ((i : Int) + 1), .int .i64 ((j : Int) + 1)], .slice (some ⟨W.heap.size, 0, none⟩) 1 1, .int .i64 0, .bool true]) (by simp [results, Try.results130, go_sem, hW20, hW21, hWq, hWl2]) rfl ⟨_, rfl, ?_, ?_⟩
  · exact (Own.kept (Own.kept (Own.new1 (w := W.drewN _) hgW.size rfl) (bySet _ W2 0 _) (.inr (by simp [Value.ownBlock]; omega))) (bySet _ W2 1 _) (.inr (by simp [Value.ownBlock]; omega)) :)
  · exact ((((hgW.drewN _).alloc _).setCell hWb2 _).setCell hWb2 _)
set_option maxRecDepth 100000 in
theorem pboth_diff (a b : ByteArray) (p i j : Nat) (w : World) (ha : w.cell? ⟨p, 0, none⟩ = some (.string a)) (hb : w.cell? ⟨p, 1, none⟩ = some (.string b)) (hsa : a.size ≤ 1000) (hsb : b.size ≤ 1000) (hi : i < a.size) (hj : j < b.size) (h : a[i].toNat ≠ b[j].toNat) :
    Calls Try.prog 130 #[.agg #[], .pointer (some ⟨p, 0, none⟩), .agg #[.int .i64 i, .int .i64 j]] w (OnPost w ((i : Int) + 1) ((j : Int) + 1) [(a[i].toNat : Int), (b[j].toNat : Int)] 1 true) := by
  have hlt := lt_of_cell ha
  have h1 : ((i : Int) == (a.size : Int)) = false := by rw [beq_eq_false_iff_ne]; omega
  have h2 : ((j : Int) == (b.size : Int)) = false := by rw [beq_eq_false_iff_ne]; omega
  have h3 : ((a[i].toNat : Int) == (b[j].toNat : Int)) = false := by rw [beq_eq_false_iff_ne]; omega
  have H := Lib.hid h
  clear h
  go_enter Try.func130, Try.ntmps130
  go_wp2_with fail
  obtain ⟨W, hW⟩ : ∃ W, W = (((w.alloc (.cells #[] 136)).alloc (.cells #[.int .i64 i, .int .i64 j] 121)).alloc (.cells #[.int .i64 0, .int .i64 0] 121)) := ⟨_, rfl⟩
  have hgW : Grow w W := by rw [hW]; exact ((((Grow.refl w).alloc _).alloc _).alloc _)
  have hWf0 : ∀ o, W.frozen? ⟨w.heap.size, o, none⟩ = false := by intro o; rw [hW]; exact (((Grow.refl _).alloc _).marks _ _ (by simp <;> omega)).trans ((((Grow.refl _).alloc _).marks _ _ (by simp <;> omega)).trans (hot_new (by simp)))
  have hWl0 : w.heap.size < W.heap.size := by rw [hW]; simp; try omega
  have hW10 : W.cell? ⟨w.heap.size + 1, 0, none⟩ = some (.int .i64 i) := by rw [hW]; exact Grow.keepA (cell_new (by simp) rfl) _
  have hW11 : W.cell? ⟨w.heap.size + 1, 1, none⟩ = some (.int .i64 j) := by rw [hW]; exact Grow.keepA (cell_new (by simp) rfl) _
  have hWf1 : ∀ o, W.frozen? ⟨w.heap.size + 1, o, none⟩ = false := by intro o; rw [hW]; exact (((Grow.refl _).alloc _).marks _ _ (by simp <;> omega)).trans (hot_new (by simp))
  have hWl1 : w.heap.size + 1 < W.heap.size := by rw [hW]; simp; try omega
  have hW20 : W.cell? ⟨w.heap.size + 1 + 1, 0, none⟩ = some (.int .i64 0) := by rw [hW]; exact cell_new (by simp) rfl
  have hW21 : W.cell? ⟨w.heap.size + 1 + 1, 1, none⟩ = some (.int .i64 0) := by rw [hW]; exact cell_new (by simp) rfl
  have hWf2 : ∀ o, W.frozen? ⟨w.heap.size + 1 + 1, o, none⟩ = false := by intro o; rw [hW]; exact hot_new (by simp)
  have hWl2 : w.heap.size + 1 + 1 < W.heap.size := by rw [hW]; simp; try omega
  rw [← hW]
  clear hW
  have hWd : ∀ n, (W.drewN n).heap.size = W.heap.size := fun _ => rfl
  have hWq : ∀ n o b j, b < W.heap.size → ((W.drewN n).alloc o).cell? ⟨b, j, none⟩ = W.cell? ⟨b, j, none⟩ := cell_drewN_alloc W
  have hWr : ∀ n o b j, b < W.heap.size → ((W.drewN n).alloc o).frozen? ⟨b, j, none⟩ = W.frozen? ⟨b, j, none⟩ := hot_drewN_alloc W
  have hWb0 : w.heap.size ≤ w.heap.size := by omega
  have hWb1 : w.heap.size ≤ w.heap.size + 1 := by omega
  have hWn01 : w.heap.size ≠ w.heap.size + 1 := by omega
  have hWn10 : w.heap.size + 1 ≠ w.heap.size := by omega
  have hWb2 : w.heap.size ≤ w.heap.size + 1 + 1 := by omega
  have hWn02 : w.heap.size ≠ w.heap.size + 1 + 1 := by omega
  have hWn20 : w.heap.size + 1 + 1 ≠ w.heap.size := by omega
  have hWn12 : w.heap.size + 1 ≠ w.heap.size + 1 + 1 := by omega
  have hWn21 : w.heap.size + 1 + 1 ≠ w.heap.size + 1 := by omega
  obtain ⟨W2, hWe2⟩ : ∃ g, w.heap.size + 1 + 1 = g := ⟨_, rfl⟩
  rw [hWe2] at hW20 hW21 hWf2 hWl2 hWb2 hWn20 hWn21 hWn02 hWn12
  (try rw [hWe2])
  have hWk2 := Lib.hid hWe2
  clear hWe2
  obtain ⟨W1, hWe1⟩ : ∃ g, w.heap.size + 1 = g := ⟨_, rfl⟩
  rw [hWe1] at hW10 hW11 hWf1 hWl1 hWb1 hWn10 hWn12 hWn01 hWn21
  (try rw [hWe1])
  have hWk1 := Lib.hid hWe1
  clear hWe1
  obtain ⟨W0, hWe0⟩ : ∃ g, w.heap.size = g := ⟨_, rfl⟩
  have hWb0 : w.heap.size ≤ W0 := by omega
  rw [hWe0] at hWf0 hWl0 hWn01 hWn02 hWn10 hWn20
  (try rw [hWe0])
  have hWk0 := Lib.hid hWe0
  clear hWe0
  have hWa := hgW.keeps ha
  have hWb := hgW.keeps hb
  go_quiet (fail)
  go_wp2_with fail
  go_quiet (fail)
  go_wp2_with fail
  refine bodyPost_ret (v := .tuple #[.agg #[.int .i64 ((i : Int) + 1), .int .i64 ((j : Int) + 1)], .slice (some ⟨W.heap.size, 0, none⟩) 2 2, .int .i64 1, .bool true]) (by simp [results, Try.results130, go_sem, hW20, hW21, hWq, hWl2]) rfl ⟨_, rfl, ?_, ?_⟩
  · exact (Own.kept (Own.kept (Own.newL (w := W.drewN _) [.int .u8 a[i].toNat, .int .u8 b[j].toNat] hgW.size rfl rfl (by simp [maxLen])) (bySet _ W2 0 _) (.inr (by simp [Value.ownBlock]; omega))) (bySet _ W2 1 _) (.inr (by simp [Value.ownBlock]; omega)) :)
  · exact ((((hgW.drewN _).alloc _).setCell hWb2 _).setCell hWb2 _)

theorem palone_any (w : World) : Calls Try.prog 131 #[.agg #[]] w fun e w' => e = .returned (.int .i64 1) ∧ Grow w w' := by
  go_enter Try.func131, Try.ntmps131
  go_wp2_with fail
  go_ret
  exact ⟨rfl, (Grow.refl w).alloc _⟩

set_option maxRecDepth 100000 in
theorem pfirst_no (a b : ByteArray) (p i j : Nat) (w : World) (ha : w.cell? ⟨p, 0, none⟩ = some (.string a)) (hb : w.cell? ⟨p, 1, none⟩ = some (.string b)) (h : i = a.size) :
    Calls Try.prog 132 #[.agg #[], .pointer (some ⟨p, 0, none⟩), .agg #[.int .i64 i, .int .i64 j]] w (OnPost w i j [] 0 false) := by
  have hlt := lt_of_cell ha
  have h1 : ((i : Int) == (a.size : Int)) = true := by rw [h]; simp
  clear h
  go_enter Try.func132, Try.ntmps132
  go_wp2_with fail
  obtain ⟨W, hW⟩ : ∃ W, W = (((w.alloc (.cells #[] 137)).alloc (.cells #[.int .i64 i, .int .i64 j] 121)).alloc (.cells #[.int .i64 0, .int .i64 0] 121)) := ⟨_, rfl⟩
  have hgW : Grow w W := by rw [hW]; exact ((((Grow.refl w).alloc _).alloc _).alloc _)
  have hWf0 : ∀ o, W.frozen? ⟨w.heap.size, o, none⟩ = false := by intro o; rw [hW]; exact (((Grow.refl _).alloc _).marks _ _ (by simp <;> omega)).trans ((((Grow.refl _).alloc _).marks _ _ (by simp <;> omega)).trans (hot_new (by simp)))
  have hWl0 : w.heap.size < W.heap.size := by rw [hW]; simp; try omega
  have hW10 : W.cell? ⟨w.heap.size + 1, 0, none⟩ = some (.int .i64 i) := by rw [hW]; exact Grow.keepA (cell_new (by simp) rfl) _
  have hW11 : W.cell? ⟨w.heap.size + 1, 1, none⟩ = some (.int .i64 j) := by rw [hW]; exact Grow.keepA (cell_new (by simp) rfl) _
  have hWf1 : ∀ o, W.frozen? ⟨w.heap.size + 1, o, none⟩ = false := by intro o; rw [hW]; exact (((Grow.refl _).alloc _).marks _ _ (by simp <;> omega)).trans (hot_new (by simp))
  have hWl1 : w.heap.size + 1 < W.heap.size := by rw [hW]; simp; try omega
  have hW20 : W.cell? ⟨w.heap.size + 1 + 1, 0, none⟩ = some (.int .i64 0) := by rw [hW]; exact cell_new (by simp) rfl
  have hW21 : W.cell? ⟨w.heap.size + 1 + 1, 1, none⟩ = some (.int .i64 0) := by rw [hW]; exact cell_new (by simp) rfl
  have hWf2 : ∀ o, W.frozen? ⟨w.heap.size + 1 + 1, o, none⟩ = false := by intro o; rw [hW]; exact hot_new (by simp)
  have hWl2 : w.heap.size + 1 + 1 < W.heap.size := by rw [hW]; simp; try omega
  rw [← hW]
  clear hW
  have hWd : ∀ n, (W.drewN n).heap.size = W.heap.size := fun _ => rfl
  have hWq : ∀ n o b j, b < W.heap.size → ((W.drewN n).alloc o).cell? ⟨b, j, none⟩ = W.cell? ⟨b, j, none⟩ := cell_drewN_alloc W
  have hWr : ∀ n o b j, b < W.heap.size → ((W.drewN n).alloc o).frozen? ⟨b, j, none⟩ = W.frozen? ⟨b, j, none⟩ := hot_drewN_alloc W
  have hWb0 : w.heap.size ≤ w.heap.size := by omega
  have hWb1 : w.heap.size ≤ w.heap.size + 1 := by omega
  have hWn01 : w.heap.size ≠ w.heap.size + 1 := by omega
  have hWn10 : w.heap.size + 1 ≠ w.heap.size := by omega
  have hWb2 : w.heap.size ≤ w.heap.size + 1 + 1 := by omega
  have hWn02 : w.heap.size ≠ w.heap.size + 1 + 1 := by omega
  have hWn20 : w.heap.size + 1 + 1 ≠ w.heap.size := by omega
  have hWn12 : w.heap.size + 1 ≠ w.heap.size + 1 + 1 := by omega
  have hWn21 : w.heap.size + 1 + 1 ≠ w.heap.size + 1 := by omega
  obtain ⟨W2, hWe2⟩ : ∃ g, w.heap.size + 1 + 1 = g := ⟨_, rfl⟩
  rw [hWe2] at hW20 hW21 hWf2 hWl2 hWb2 hWn20 hWn21 hWn02 hWn12
  (try rw [hWe2])
  have hWk2 := Lib.hid hWe2
  clear hWe2
  obtain ⟨W1, hWe1⟩ : ∃ g, w.heap.size + 1 = g := ⟨_, rfl⟩
  rw [hWe1] at hW10 hW11 hWf1 hWl1 hWb1 hWn10 hWn12 hWn01 hWn21
  (try rw [hWe1])
  have hWk1 := Lib.hid hWe1
  clear hWe1
  obtain ⟨W0, hWe0⟩ : ∃ g, w.heap.size = g := ⟨_, rfl⟩
  have hWb0 : w.heap.size ≤ W0 := by omega
  rw [hWe0] at hWf0 hWl0 hWn01 hWn02 hWn10 hWn20
  (try rw [hWe0])
  have hWk0 := Lib.hid hWe0
  clear hWe0
  have hWa := hgW.keeps ha
  have hWb := hgW.keeps hb
  go_quiet (fail)
  go_wp2_with fail
  refine bodyPost_ret (v := .tuple #[.agg #[.int .i64 (i), .int .i64 (j)], .slice none 0 0, .int .i64 0, .bool false]) (by simp [results, Try.results132, go_sem, hW20, hW21]) rfl ⟨_, rfl, Own.nil _ _ _, ?_⟩
  exact (((hgW.drewN _).setCell hWb2 _).setCell hWb2 _)

set_option maxHeartbeats 1000000 in
set_option maxRecDepth 100000 in
theorem pfirst_yes (a b : ByteArray) (p i j : Nat) (w : World) (ha : w.cell? ⟨p, 0, none⟩ = some (.string a)) (hb : w.cell? ⟨p, 1, none⟩ = some (.string b)) (hi : i < a.size) (hsa : a.size ≤ 1000) :
    Calls Try.prog 132 #[.agg #[], .pointer (some ⟨p, 0, none⟩), .agg #[.int .i64 i, .int .i64 j]] w (OnPost w ((i : Int) + 1) j [(a[i].toNat : Int)] 1 true) := by
  have hlt := lt_of_cell ha
  have h1 : ((i : Int) == (a.size : Int)) = false := by rw [beq_eq_false_iff_ne]; omega
  go_enter Try.func132, Try.ntmps132
  go_wp2_with fail
  obtain ⟨W, hW⟩ : ∃ W, W = (((w.alloc (.cells #[] 137)).alloc (.cells #[.int .i64 i, .int .i64 j] 121)).alloc (.cells #[.int .i64 0, .int .i64 0] 121)) := ⟨_, rfl⟩
  have hgW : Grow w W := by rw [hW]; exact ((((Grow.refl w).alloc _).alloc _).alloc _)
  have hWf0 : ∀ o, W.frozen? ⟨w.heap.size, o, none⟩ = false := by intro o; rw [hW]; exact (((Grow.refl _).alloc _).marks _ _ (by simp <;> omega)).trans ((((Grow.refl _).alloc _).marks _ _ (by simp <;> omega)).trans (hot_new (by simp)))
  have hWl0 : w.heap.size < W.heap.size := by rw [hW]; simp; try omega
  have hW10 : W.cell? ⟨w.heap.size + 1, 0, none⟩ = some (.int .i64 i) := by rw [hW]; exact Grow.keepA (cell_new (by simp) rfl) _
  have hW11 : W.cell? ⟨w.heap.size + 1, 1, none⟩ = some (.int .i64 j) := by rw [hW]; exact Grow.keepA (cell_new (by simp) rfl) _
  have hWf1 : ∀ o, W.frozen? ⟨w.heap.size + 1, o, none⟩ = false := by intro o; rw [hW]; exact (((Grow.refl _).alloc _).marks _ _ (by simp <;> omega)).trans (hot_new (by simp))
  have hWl1 : w.heap.size + 1 < W.heap.size := by rw [hW]; simp; try omega
  have hW20 : W.cell? ⟨w.heap.size + 1 + 1, 0, none⟩ = some (.int .i64 0) := by rw [hW]; exact cell_new (by simp) rfl
  have hW21 : W.cell? ⟨w.heap.size + 1 + 1, 1, none⟩ = some (.int .i64 0) := by rw [hW]; exact cell_new (by simp) rfl
  have hWf2 : ∀ o, W.frozen? ⟨w.heap.size + 1 + 1, o, none⟩ = false := by intro o; rw [hW]; exact hot_new (by simp)
  have hWl2 : w.heap.size + 1 + 1 < W.heap.size := by rw [hW]; simp; try omega
  rw [← hW]
  clear hW
  have hWd : ∀ n, (W.drewN n).heap.size = W.heap.size := fun _ => rfl
  have hWq : ∀ n o b j, b < W.heap.size → ((W.drewN n).alloc o).cell? ⟨b, j, none⟩ = W.cell? ⟨b, j, none⟩ := cell_drewN_alloc W
  have hWr : ∀ n o b j, b < W.heap.size → ((W.drewN n).alloc o).frozen? ⟨b, j, none⟩ = W.frozen? ⟨b, j, none⟩ := hot_drewN_alloc W
  have hWb0 : w.heap.size ≤ w.heap.size := by omega
  have hWb1 : w.heap.size ≤ w.heap.size + 1 := by omega
  have hWn01 : w.heap.size ≠ w.heap.size + 1 := by omega
  have hWn10 : w.heap.size + 1 ≠ w.heap.size := by omega
  have hWb2 : w.heap.size ≤ w.heap.size + 1 + 1 := by omega
  have hWn02 : w.heap.size ≠ w.heap.size + 1 + 1 := by omega
  have hWn20 : w.heap.size + 1 + 1 ≠ w.heap.size := by omega
  have hWn12 : w.heap.size + 1 ≠ w.heap.size + 1 + 1 := by omega
  have hWn21 : w.heap.size + 1 + 1 ≠ w.heap.size + 1 := by omega
  obtain ⟨W2, hWe2⟩ : ∃ g, w.heap.size + 1 + 1 = g := ⟨_, rfl⟩
  rw [hWe2] at hW20 hW21 hWf2 hWl2 hWb2 hWn20 hWn21 hWn02 hWn12
  (try rw [hWe2])
  have hWk2 := Lib.hid hWe2
  clear hWe2
  obtain ⟨W1, hWe1⟩ : ∃ g, w.heap.size + 1 = g := ⟨_, rfl⟩
  rw [hWe1] at hW10 hW11 hWf1 hWl1 hWb1 hWn10 hWn12 hWn01 hWn21
  (try rw [hWe1])
  have hWk1 := Lib.hid hWe1
  clear hWe1
  obtain ⟨W0, hWe0⟩ : ∃ g, w.heap.size = g := ⟨_, rfl⟩
  have hWb0 : w.heap.size ≤ W0 := by omega
  rw [hWe0] at hWf0 hWl0 hWn01 hWn02 hWn10 hWn20
  (try rw [hWe0])
  have hWk0 := Lib.hid hWe0
  clear hWe0
  have hWa := hgW.keeps ha
  have hWb := hgW.keeps hb
  go_quiet (fail)
  go_wp2_with fail
  obtain ⟨V, hV⟩ : ∃ V, V = W.drewN nq := ⟨_, rfl⟩
  have hgV : Grow W V := by rw [hV]; exact (Grow.refl W).drewN _
  have hVa := hgV.keeps hWa
  have hVb := hgV.keeps hWb
  have hV10 := hgV.keeps hW10
  have hV11 := hgV.keeps hW11
  have hV20 := hgV.keeps hW20
  have hV21 := hgV.keeps hW21
  have hVf2 : ∀ o, V.frozen? ⟨W2, o, none⟩ = false := fun o => (hgV.marks _ _ hWl2).trans (hWf2 o)
  have hVl2 : W2 < V.heap.size := Nat.lt_of_lt_of_le hWl2 hgV.size
  have hpn : p ≠ W2 := by omega
  rw [← hV]
  clear hV
  have hw1 : IntKind.i64.wrap ((i : Int) + 1) = i + 1 := IntWalk.i64_in _ (by omega)
  have hi1 : (i : Int) < (a.size : Int) := by omega
  go_region_held3 (fun Wx => V.grownBy Wx (some W2) ∧ Wx.cell? ⟨W1, 0, none⟩ = some (.int .i64 i) ∧ Wx.cell? ⟨W1, 1, none⟩ = some (.int .i64 j) ∧ Wx.cell? ⟨p, 0, none⟩ = some (.string a)) ((refine (fun (hG : V.grownBy _ (some W2)) => ⟨hG, byCell1 hG (by assumption) (by first | assumption | (intro e; injection e with e; omega)), byCell1 hG (by assumption) (by first | assumption | (intro e; injection e with e; omega)), byCell1 hG (by assumption) (by first | assumption | (intro e; injection e with e; omega))⟩) ?_; (try go_split_ands); first | exact byDrew _ _ | exact byAlloc (by assumption) _ | exact byBy (by assumption) (by assumption) | exact byThen (by assumption) (by assumption) | exact byBelow (by assumption) (by assumption) | ((repeat (first | assumption | refine byStore ?_ _ _ | refine byAlloc ?_ _)); done))) ((go_at_call 131; refine (palone_any _).mono ?_; rintro e w' ⟨rfl, hg'⟩; have hs0 : w'.cell? ⟨W2, 0, none⟩ = some (.int .i64 0) := hg'.keeps (by first | exact ((Grow.refl V).drew).keeps hV20 | exact (((Grow.refl V).alloc _).drew).keeps hV20); have hs1 : w'.cell? ⟨W2, 1, none⟩ = some (.int .i64 0) := hg'.keeps (by first | exact ((Grow.refl V).drew).keeps hV21 | exact (((Grow.refl V).alloc _).drew).keeps hV21); have hs2 : ∀ o, w'.frozen? ⟨W2, o, none⟩ = false := fun o => (hg'.marks _ _ (by first | exact hVl2 | (simp <;> omega))).trans (by first | exact ((Grow.refl V).drew.marks _ _ hVl2).trans (hVf2 o) | exact (((Grow.refl V).alloc _).drew.marks _ _ hVl2).trans (hVf2 o)); have hs3 : W2 < w'.heap.size := lt_of_cell hs0; have hG' : Grow V w' := Grow.trans (by first | exact (Grow.refl V).drew | exact ((Grow.refl V).alloc _).drew) hg'; have hb' : V.grownBy w' (some W2) := hG'.grownBy _))
  all_goals go_wp2_with fail
  all_goals rename_i hx
  all_goals have hG : Grow w _ := Below.trans (hgW.trans hgV) (grownBy_below hx.1 (by intro k hk; injection hk with hk; omega) (hgW.trans hgV).size)
  all_goals clear hx
  all_goals first
    | exact bodyPost_ret (v := .tuple #[.agg #[.int .i64 ((i : Int) + 1), .int .i64 j], .slice (some ⟨V.heap.size, 0, none⟩) 1 1, .int .i64 1, .bool true]) (by simp [results, Try.results132, go_sem, hs0, hs1]) rfl
        ⟨_, rfl, (Own.kept (Own.kept ((Own.new1 (w := V) (e := 5) (x := .int .u8 a[i].toNat) (hgW.trans hgV).size rfl).drew.grow hg') (bySet _ W2 0 _) (.inr (by simp [Value.ownBlock]; omega))) (bySet _ W2 1 _) (.inr (by simp [Value.ownBlock]; omega)) :), hG⟩
    | exact bodyPost_ret (v := .tuple #[.agg #[.int .i64 ((i : Int) + 1), .int .i64 j], .slice (some ⟨w'.heap.size, 0, none⟩) 1 1, .int .i64 1, .bool true]) (by simp [results, Try.results132, go_sem, hs0, hs1, hs3]) rfl
        ⟨_, rfl, (Own.kept (Own.kept (Own.new1 (w := w') (e := 5) (x := .int .u8 a[i].toNat) ((hgW.trans hgV).trans hG').size rfl) (bySet _ W2 0 _) (.inr (by simp [Value.ownBlock]; omega))) (bySet _ W2 1 _) (.inr (by simp [Value.ownBlock]; omega)) :), hG⟩
    | (refine bodyPost_ret (v := .tuple #[.agg #[.int .i64 ((i : Int) + 1), .int .i64 j], .slice (some ⟨w'.heap.size, 0, none⟩) 1 1, .int .i64 1, .bool true]) ?_ rfl
        ⟨_, rfl, ?_, hG⟩
       · simp [results, Try.results132, go_sem, hs0, hs1, hs3]
       · refine (Own.new1 (e := 5) (x := .int .u8 a[i].toNat) ?_ ?_ :)
         · simpa using ((hgW.trans hgV).trans hG').size
         · simp)
end Go.Proofs.Yteijilbdllpbcaa
namespace Go.Proofs.Yteijilbdllpbcaa
open Go.RowKit

theorem _root_.Go.Proofs.Yteijilbdllpbcaa.Grow.shape {w w' : World} (h : Grow w w') {b : Nat} {x : TypeId × Nat} (hx : w.shape? b = some x) : w'.shape? b = some x := by
  have hb : b < w.heap.size := by
    apply Decidable.byContradiction; intro hn
    have hn' : w.heap[b]? = none := Array.getElem?_eq_none (by omega)
    simp [World.shape?, hn'] at hx
  unfold World.shape? at *
  rw [h.block b hb]; exact hx
theorem shape_new {w : World} {b : Nat} {cs : Array Value} {e : TypeId} (hb : b = w.heap.size) : (w.alloc (.cells cs e)).shape? b = some (e, cs.size) := by
  rw [hb]; unfold World.shape?; rw [heap_alloc_new]
theorem byShape {w w' : World} {r : Option Nat} {b : Nat} {x : TypeId × Nat} (hg : w.grownBy w' r) (hx : w.shape? b = some x) (hne : r ≠ some b) : w'.shape? b = some x := by
  have hb : b < w.heap.size := by
    apply Decidable.byContradiction; intro hn
    have hn' : w.heap[b]? = none := Array.getElem?_eq_none (by omega)
    simp [World.shape?, hn'] at hx
  unfold World.shape? at *
  rw [hg.block b hb (fun e => hne e.symm)]; exact hx
theorem cells139 : Try.prog.cellsOf 139 = 0 := by kernel_rfl
theorem part0 {w : World} {b n : Nat} (h : w.shape? b = some (139, n)) : Sem.run Try.prog (partAt ⟨b, 0, none⟩ 0 0) w = .ok ⟨b, 0, none⟩ w := by
  have hb : Sem.run Try.prog (byteOf ⟨b, 0, none⟩) w = .ok 0 w := by
    simp [byteOf, noView, viewAt, go_sem, Go.shape, Go.program, Sem.run, h, cells139]
  unfold partAt
  simp only [Sem.run_bind, hb, Result.andThen]
  simp [go_sem]

theorem new2 (w : World) (x y : Value) (e : TypeId) : ((w.alloc (.cells #[x, y] e)).drew).cell? ⟨w.heap.size, 0, none⟩ = some x ∧ ((w.alloc (.cells #[x, y] e)).drew).cell? ⟨w.heap.size, 1, none⟩ = some y :=
  ⟨(Grow.refl (w.alloc _)).drew.keeps (cell_new (cs := #[x, y]) rfl (by rfl)), (Grow.refl (w.alloc _)).drew.keeps (cell_new (cs := #[x, y]) rfl (by rfl))⟩
theorem new2o (w : World) (x y : Value) (e : TypeId) (o : Obj) : (((w.alloc (.cells #[x, y] e)).alloc o).drew).cell? ⟨w.heap.size, 0, none⟩ = some x ∧ (((w.alloc (.cells #[x, y] e)).alloc o).drew).cell? ⟨w.heap.size, 1, none⟩ = some y :=
  ⟨(((Grow.refl (w.alloc _)).alloc _).drew).keeps (cell_new (cs := #[x, y]) rfl (by rfl)), (((Grow.refl (w.alloc _)).alloc _).drew).keeps (cell_new (cs := #[x, y]) rfl (by rfl))⟩
theorem new2p (w : World) (x y : Value) (e : TypeId) (o : Obj) : (((w.alloc o).alloc (.cells #[x, y] e)).drew).cell? ⟨w.heap.size + 1, 0, none⟩ = some x ∧ (((w.alloc o).alloc (.cells #[x, y] e)).drew).cell? ⟨w.heap.size + 1, 1, none⟩ = some y := by
  have := new2 (w.alloc o) x y e
  rwa [show (w.alloc o).heap.size = w.heap.size + 1 by simp] at this
theorem hot2o (w : World) (cs : Array Value) (e : TypeId) (o : Obj) (k : Nat) : (((w.alloc (.cells cs e)).alloc o).drew).frozen? ⟨w.heap.size, k, none⟩ = false :=
  ((((Grow.refl (w.alloc (.cells cs e))).alloc o).drew).marks _ _ (by simp)).trans (hot_new rfl)
theorem hot2p (w : World) (cs : Array Value) (e : TypeId) (o : Obj) (k : Nat) : (((w.alloc o).alloc (.cells cs e)).drew).frozen? ⟨w.heap.size + 1, k, none⟩ = false :=
  (((Grow.refl ((w.alloc o).alloc (.cells cs e))).drew).marks _ _ (by simp)).trans (hot_new (by simp))
theorem ppasses_any (w : World) : Calls Try.prog 91 #[] w fun e w' => e = .returned (.agg #[.iface 136 (.agg #[]), .iface 137 (.agg #[]), .iface 139 (.agg #[])]) ∧ Grow w w' := by
  go_enter Try.func91, Try.ntmps91
  go_wp2_with fail
  exact bodyPost_ret (v := .agg #[.iface 136 (.agg #[]), .iface 137 (.agg #[]), .iface 139 (.agg #[])]) (by simp [results, Try.results91, go_sem]) rfl ⟨rfl, (Grow.refl w).alloc _⟩

/-- Behind the call: what it handed back, where it was put. -/
def AfterOn (W : World) (s10 s11 s12 s13 : Value) (i j : Int) (who : List Int) (n : Int) (is : Bool) (V : World) : Prop :=
  ∃ g, s10 = .pointer (some ⟨g, 0, none⟩) ∧ W.heap.size ≤ g ∧ V.cell? ⟨g, 0, none⟩ = some (.int .i64 i) ∧ V.cell? ⟨g, 1, none⟩ = some (.int .i64 j) ∧ Own V W.heap.size 5 s11 (who.map (Value.int .u8)) ∧ s12 = .int .i64 n ∧ s13 = .bool is ∧ Grow W V

set_option maxHeartbeats 4000000 in
set_option maxRecDepth 100000 in
theorem psecond_of (a b : ByteArray) (p i j : Nat) (i' j' n : Int) (who : List Int) (is : Bool) (w : World) (ha : w.cell? ⟨p, 0, none⟩ = some (.string a)) (hb : w.cell? ⟨p, 1, none⟩ = some (.string b))
    (hf : ∀ (p' : Nat) (w1 : World), w1.cell? ⟨p', 0, none⟩ = some (.string b) → w1.cell? ⟨p', 1, none⟩ = some (.string a) → Calls Try.prog 132 #[.agg #[], .pointer (some ⟨p', 0, none⟩), .agg #[.int .i64 j, .int .i64 i]] w1 (OnPost w1 j' i' who n is)) :
    Calls Try.prog 133 #[.agg #[], .pointer (some ⟨p, 0, none⟩), .agg #[.int .i64 i, .int .i64 j]] w (OnPost w i' j' who 1 is) := by
  have hlt := lt_of_cell ha
  have H := Lib.hid hf
  clear hf
  go_enter Try.func133, Try.ntmps133
  go_wp2_with fail
  obtain ⟨W, hW⟩ : ∃ W, W = (((w.alloc (.cells #[] 139)).alloc (.cells #[.int .i64 i, .int .i64 j] 121)).alloc (.cells #[.int .i64 0, .int .i64 0] 121)) := ⟨_, rfl⟩
  have hgW : Grow w W := by rw [hW]; exact ((((Grow.refl w).alloc _).alloc _).alloc _)
  have hWf0 : ∀ o, W.frozen? ⟨w.heap.size, o, none⟩ = false := by intro o; rw [hW]; exact (((Grow.refl _).alloc _).marks _ _ (by simp <;> omega)).trans ((((Grow.refl _).alloc _).marks _ _ (by simp <;> omega)).trans (hot_new (by simp)))
  have hWl0 : w.heap.size < W.heap.size := by rw [hW]; simp; try omega
  have hWs0 : W.shape? w.heap.size = some (139, 0) := by rw [hW]; exact (((Grow.refl _).alloc _).shape ((((Grow.refl _).alloc _).shape (shape_new (by simp)))))
  have hW10 : W.cell? ⟨w.heap.size + 1, 0, none⟩ = some (.int .i64 i) := by rw [hW]; exact Grow.keepA (cell_new (by simp) rfl) _
  have hW11 : W.cell? ⟨w.heap.size + 1, 1, none⟩ = some (.int .i64 j) := by rw [hW]; exact Grow.keepA (cell_new (by simp) rfl) _
  have hWf1 : ∀ o, W.frozen? ⟨w.heap.size + 1, o, none⟩ = false := by intro o; rw [hW]; exact (((Grow.refl _).alloc _).marks _ _ (by simp <;> omega)).trans (hot_new (by simp))
  have hWl1 : w.heap.size + 1 < W.heap.size := by rw [hW]; simp; try omega
  have hW20 : W.cell? ⟨w.heap.size + 1 + 1, 0, none⟩ = some (.int .i64 0) := by rw [hW]; exact cell_new (by simp) rfl
  have hW21 : W.cell? ⟨w.heap.size + 1 + 1, 1, none⟩ = some (.int .i64 0) := by rw [hW]; exact cell_new (by simp) rfl
  have hWf2 : ∀ o, W.frozen? ⟨w.heap.size + 1 + 1, o, none⟩ = false := by intro o; rw [hW]; exact hot_new (by simp)
  have hWl2 : w.heap.size + 1 + 1 < W.heap.size := by rw [hW]; simp; try omega
  rw [← hW]
  clear hW
  have hWd : ∀ n, (W.drewN n).heap.size = W.heap.size := fun _ => rfl
  have hWq : ∀ n o b j, b < W.heap.size → ((W.drewN n).alloc o).cell? ⟨b, j, none⟩ = W.cell? ⟨b, j, none⟩ := cell_drewN_alloc W
  have hWr : ∀ n o b j, b < W.heap.size → ((W.drewN n).alloc o).frozen? ⟨b, j, none⟩ = W.frozen? ⟨b, j, none⟩ := hot_drewN_alloc W
  have hWb0 : w.heap.size ≤ w.heap.size := by omega
  have hWb1 : w.heap.size ≤ w.heap.size + 1 := by omega
  have hWn01 : w.heap.size ≠ w.heap.size + 1 := by omega
  have hWn10 : w.heap.size + 1 ≠ w.heap.size := by omega
  have hWb2 : w.heap.size ≤ w.heap.size + 1 + 1 := by omega
  have hWn02 : w.heap.size ≠ w.heap.size + 1 + 1 := by omega
  have hWn20 : w.heap.size + 1 + 1 ≠ w.heap.size := by omega
  have hWn12 : w.heap.size + 1 ≠ w.heap.size + 1 + 1 := by omega
  have hWn21 : w.heap.size + 1 + 1 ≠ w.heap.size + 1 := by omega
  obtain ⟨W2, hWe2⟩ : ∃ g, w.heap.size + 1 + 1 = g := ⟨_, rfl⟩
  rw [hWe2] at hW20 hW21 hWf2 hWl2 hWb2 hWn20 hWn21 hWn02 hWn12
  (try rw [hWe2])
  have hWk2 := Lib.hid hWe2
  clear hWe2
  obtain ⟨W1, hWe1⟩ : ∃ g, w.heap.size + 1 = g := ⟨_, rfl⟩
  rw [hWe1] at hW10 hW11 hWf1 hWl1 hWb1 hWn10 hWn12 hWn01 hWn21
  (try rw [hWe1])
  have hWk1 := Lib.hid hWe1
  clear hWe1
  obtain ⟨W0, hWe0⟩ : ∃ g, w.heap.size = g := ⟨_, rfl⟩
  have hWb0 : w.heap.size ≤ W0 := by omega
  rw [hWe0] at hWf0 hWl0 hWs0 hWn01 hWn02 hWn10 hWn20
  (try rw [hWe0])
  have hWk0 := Lib.hid hWe0
  clear hWe0
  have hWa := hgW.keeps ha
  have hWb := hgW.keeps hb
  go_upto_region 1 with fail
  go_cut [10, 11, 12, 13] (fun s10 s11 s12 s13 V => AfterOn W s10 s11 s12 s13 j' i' who n is V)
  case first =>
    go_region_held3 (fun Wx => Grow W Wx ∧ Sem.run Try.prog (partAt ⟨W0, 0, none⟩ 0 0) Wx = .ok ⟨W0, 0, none⟩ Wx ∧ Wx.cell? ⟨W1, 0, none⟩ = some (.int .i64 i) ∧ Wx.cell? ⟨W1, 1, none⟩ = some (.int .i64 j) ∧ Wx.cell? ⟨p, 0, none⟩ = some (.string a) ∧ Wx.cell? ⟨p, 1, none⟩ = some (.string b)) ((refine (fun (hG : Grow W _) => ⟨hG, part0 (hG.shape hWs0), Grow.keeps hG (by assumption), Grow.keeps hG (by assumption), Grow.keeps hG (by assumption), Grow.keeps hG (by assumption)⟩) ?_; (try go_split_ands); first | exact (Below.refl _ _).drew | exact ((Grow.refl _).alloc _).drew | exact Grow.alloc (by assumption) _ | exact Below.setCell (Below.setCell (by assumption) (by simp <;> omega) _) (by simp <;> omega) _ | exact Grow.trans (by assumption) (by assumption) | exact Below.trans (by assumption) (by assumption))) ((go_at_call 132; refine (H.out _ _ ?_ ?_).mono ?_; (first | exact (new2 _ _ _ _).1 | exact (new2o _ _ _ _ _).1 | exact (new2p _ _ _ _ _).1); (first | exact (new2 _ _ _ _).2 | exact (new2o _ _ _ _ _).2 | exact (new2p _ _ _ _ _).2); rintro e w' ⟨v, rfl, hv, hg'⟩; have hG' : Grow W w' := Grow.trans (by repeat (first | exact Grow.refl _ | refine Grow.drew ?_ | refine Grow.alloc ?_ _)) hg'; (first | (have hs0 : w'.cell? ⟨W.heap.size + 1, 0, none⟩ = some (.int .i64 0) := hg'.keeps (new2p _ _ _ _ _).1; have hs1 : w'.cell? ⟨W.heap.size + 1, 1, none⟩ = some (.int .i64 0) := hg'.keeps (new2p _ _ _ _ _).2; have hs2 : ∀ o, w'.frozen? ⟨W.heap.size + 1, o, none⟩ = false := fun o => (hg'.marks _ _ (by simp <;> omega)).trans (hot2p _ _ _ _ _); have hs3 : W.heap.size + 1 < w'.heap.size := lt_of_cell hs0) | (have hs0 : w'.cell? ⟨W.heap.size, 0, none⟩ = some (.int .i64 0) := hg'.keeps (new2o _ _ _ _ _).1; have hs1 : w'.cell? ⟨W.heap.size, 1, none⟩ = some (.int .i64 0) := hg'.keeps (new2o _ _ _ _ _).2; have hs2 : ∀ o, w'.frozen? ⟨W.heap.size, o, none⟩ = false := fun o => (hg'.marks _ _ (by simp <;> omega)).trans (hot2o _ _ _ _ _); have hs3 : W.heap.size < w'.heap.size := lt_of_cell hs0) | skip)))
    all_goals go_wp2_with fail
    all_goals go_meet
    · exact ⟨w'.heap.size, rfl, hG'.size, by simp, by simp, (hv.lower (by simp)).grow ((Grow.refl _).alloc _), rfl, rfl, hG'.alloc _⟩
    · exact ⟨W.heap.size + 1, rfl, by omega, (cells2 hs0 hs1).1, (cells2 hs0 hs1).2.1, ((hv.lower (by simp <;> omega)).kept (bySet _ (W.heap.size + 1) 0 _) (.inr fun e => by have := hv.base _ e; simp at this; omega)).kept (bySet _ (W.heap.size + 1) 1 _) (.inr fun e => by have := hv.base _ e; simp at this; omega), rfl, rfl, Below.setCell (Below.setCell hG' (by simp) _) (by simp) _⟩
    · exact ⟨W.heap.size, rfl, by omega, (cells2 hs0 hs1).1, (cells2 hs0 hs1).2.1, ((hv.lower (by simp <;> omega)).kept (bySet _ W.heap.size 0 _) (.inr fun e => by have := hv.base _ e; simp at this; omega)).kept (bySet _ W.heap.size 1 _) (.inr fun e => by have := hv.base _ e; simp at this; omega), rfl, rfl, Below.setCell (Below.setCell hG' (by simp) _) (by simp) _⟩
  case rest =>
    obtain ⟨g, rfl, hgb, h0, h1, hv, rfl, rfl, hg⟩ := hcut
    obtain ⟨V, rfl⟩ : ∃ V : World, V = wc := ⟨_, rfl⟩
    have hV20 := hg.keeps hW20
    have hV21 := hg.keeps hW21
    have hVf2 : ∀ o, V.frozen? ⟨W2, o, none⟩ = false := fun o => (hg.marks _ _ hWl2).trans (hWf2 o)
    have hVl2 : W2 < V.heap.size := Nat.lt_of_lt_of_le hWl2 hg.size
    have hVs0 := hg.shape hWs0
    have hgn : g ≠ W2 := by omega
    go_wp2_with fail
    go_region_held3 (fun Wx => V.grownBy Wx (some W2) ∧ Sem.run Try.prog (partAt ⟨W0, 0, none⟩ 0 0) Wx = .ok ⟨W0, 0, none⟩ Wx ∧ Wx.cell? ⟨g, 0, none⟩ = some (.int .i64 j') ∧ Wx.cell? ⟨g, 1, none⟩ = some (.int .i64 i')) ((refine (fun (hG : V.grownBy _ (some W2)) => ⟨hG, part0 (byShape hG hVs0 (by intro e; injection e with e; omega)), byCell1 hG (by assumption) (by first | assumption | (intro e; injection e with e; omega)), byCell1 hG (by assumption) (by first | assumption | (intro e; injection e with e; omega))⟩) ?_; (try go_split_ands); first | exact byDrew _ _ | exact byAlloc (by assumption) _ | exact byBy (by assumption) (by assumption) | exact byThen (by assumption) (by assumption) | exact byBelow (by assumption) (by assumption) | ((repeat (first | assumption | refine byStore ?_ _ _ | refine byAlloc ?_ _)); done))) ((go_at_call 131; refine (palone_any _).mono ?_; rintro e w' ⟨rfl, hg'⟩; have hs0 : w'.cell? ⟨W2, 0, none⟩ = some (.int .i64 0) := hg'.keeps (((Grow.refl V).drew).keeps hV20); have hs1 : w'.cell? ⟨W2, 1, none⟩ = some (.int .i64 0) := hg'.keeps (((Grow.refl V).drew).keeps hV21); have hs2 : ∀ o, w'.frozen? ⟨W2, o, none⟩ = false := fun o => (hg'.marks _ _ hVl2).trans (((Grow.refl V).drew.marks _ _ hVl2).trans (hVf2 o)); have hs3 : W2 < w'.heap.size := lt_of_cell hs0; have hG' : Grow V w' := Grow.trans (Grow.refl V).drew hg'; have hb' : V.grownBy w' (some W2) := hG'.grownBy _))
    go_wp2_with fail
    have hB : ∀ k, u11.ownBlock = some k → W.heap.size ≤ k := hv.base
    refine bodyPost_ret (v := .tuple #[.agg #[.int .i64 i', .int .i64 j'], u11, .int .i64 1, .bool is]) (by simp [results, Try.results133, go_sem, hs0, hs1]) rfl ⟨_, rfl, ?_, ?_⟩
    · exact (((hv.lower hgW.size).grow hG').kept (bySet _ W2 0 _) (.inr fun e => by have := hB _ e; omega)).kept (bySet _ W2 1 _) (.inr fun e => by have := hB _ e; omega)
    · exact ((Grow.trans (hgW.trans hg) hG').setCell hWb2 _).setCell hWb2 _
theorem psecond_no (a b : ByteArray) (p i j : Nat) (w : World) (ha : w.cell? ⟨p, 0, none⟩ = some (.string a)) (hb : w.cell? ⟨p, 1, none⟩ = some (.string b)) (h : j = b.size) :
    Calls Try.prog 133 #[.agg #[], .pointer (some ⟨p, 0, none⟩), .agg #[.int .i64 i, .int .i64 j]] w (OnPost w i j [] 1 false) :=
  psecond_of a b p i j i j 0 [] false w ha hb fun p' w1 h1 h2 => pfirst_no b a p' j i w1 h1 h2 h
theorem psecond_yes (a b : ByteArray) (p i j : Nat) (w : World) (ha : w.cell? ⟨p, 0, none⟩ = some (.string a)) (hb : w.cell? ⟨p, 1, none⟩ = some (.string b)) (hj : j < b.size) (hsb : b.size ≤ 1000) :
    Calls Try.prog 133 #[.agg #[], .pointer (some ⟨p, 0, none⟩), .agg #[.int .i64 i, .int .i64 j]] w (OnPost w i ((j : Int) + 1) [(b[j].toNat : Int)] 1 true) :=
  psecond_of a b p i j i ((j : Int) + 1) 1 [(b[j].toNat : Int)] true w ha hb fun p' w1 h1 h2 => pfirst_yes b a p' j i w1 h1 h2 hj hsb
end Go.Proofs.Yteijilbdllpbcaa
