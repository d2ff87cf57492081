/- The program of layer 1: what is asked of a race: its errors on a sheet, a pair's laps, a lead, a sign. Conditions: sizes. -/
import Derived.Test.YteijilbdllpbcaaPgX
import Derived.Test.YteijilbdllpbcaaPgA
import Derived.Test.YteijilbdllpbcaaRefC
namespace Go.Proofs.Yteijilbdllpbcaa
open Go.RowKit

theorem perrors2_any (r s : ByteArray) (x i c b o k n cap : Nat) (w : World) (hr : r.size ≤ 1000000) (hs : s.size ≤ 1000) (hk : k < n)
    (h1 : w.cell? ⟨x, 0, none⟩ = some (.pointer (some ⟨c, 0, none⟩))) (h2 : w.cell? ⟨i, 0, none⟩ = some (.int .i64 k)) (h3 : w.cell? ⟨c, 0, none⟩ = some (.slice (some ⟨b, o, none⟩) n cap)) (h4 : w.cell? ⟨b, o + k, none⟩ = some (.string s)) :
    Calls Try.prog 58 #[.string r, .pointer (some ⟨x, 0, none⟩), .pointer (some ⟨i, 0, none⟩)] w fun e w' => e = .returned (.int .i64 (errorsB r.data.toList s.data.toList)) ∧ Grow w w' := by
  have hk' : (k : Int) < (n : Int) := by omega
  go_enter Try.func58, Try.ntmps58
  go_wp2_with fail
  go_region_held3 (fun Wx => Grow w Wx ∧ Wx.cell? ⟨x, 0, none⟩ = some (.pointer (some ⟨c, 0, none⟩)) ∧ Wx.cell? ⟨i, 0, none⟩ = some (.int .i64 k) ∧ Wx.cell? ⟨c, 0, none⟩ = some (.slice (some ⟨b, o, none⟩) n cap) ∧ Wx.cell? ⟨b, o + k, none⟩ = some (.string s)) ((refine (fun (hG : Grow w _) => ⟨hG, Grow.keeps hG (by assumption), Grow.keeps hG (by assumption), Grow.keeps hG (by assumption), Grow.keeps hG (by assumption)⟩) ?_; (try go_split_ands); first | exact (Below.refl _ _).drew | exact ((Grow.refl _).alloc _).drew | exact Grow.alloc (by assumption) _ | exact Below.setCell (Below.setCell (by assumption) (by simp <;> omega) _) (by simp <;> omega) _ | exact Grow.trans (by assumption) (by assumption) | exact Below.trans (by assumption) (by assumption))) ((go_at_call 59; refine (perrors_any _ _ _ hr hs).mono ?_; rintro e w2 ⟨rfl, hg2⟩))
  all_goals
    go_wp2_with fail
    go_ret
    refine ⟨rfl, ?_⟩
    go_split_ands
    assumption
theorem plaps2_any (r : ByteArray) (q i : Nat) (p : Int) (w : World) (hr : r.size ≤ 140737488355328) (h1 : w.cell? ⟨q, 0, none⟩ = some (.func (.func 63) #[] #[])) (h2 : w.cell? ⟨i, 0, none⟩ = some (.int .i64 p)) :
    Calls Try.prog 65 #[.string r, .pointer (some ⟨q, 0, none⟩), .pointer (some ⟨i, 0, none⟩)] w fun e w' => e = .returned (.int .i64 (lapsB r p)) ∧ Grow w w' := by
  go_enter Try.func65, Try.ntmps65
  go_wp2_with (go_at_call 63; refine (plaps_any _ _ _ hr).mono ?_; rintro e w2 ⟨rfl, rfl⟩)
  go_ret
  exact ⟨rfl, Grow.refl _⟩
/-- A lead in a race. -/
def leadB (r : ByteArray) (p q : Int) : Int := lapsB r p - lapsB r q
theorem lapsB_range (r : ByteArray) (p : Int) : 0 ≤ lapsB r p ∧ lapsB r p ≤ r.size := by
  have h := lapsTo_le r p r.size
  rw [lapsTo_all r p (Nat.lt_irrefl _)] at h
  exact h
set_option maxRecDepth 100000 in
theorem plead_any (r : ByteArray) (p q : Int) (w : World) (hr : r.size ≤ 140737488355328) :
    Calls Try.prog 68 #[.agg #[.int .i64 p, .int .i64 q], .string r] w fun e w' => e = .returned (.int .i64 (leadB r p q)) ∧ Grow w w' := by
  unfold leadB
  have hp : 0 ≤ lapsB r p ∧ lapsB r p ≤ 140737488355328 := by have := lapsB_range r p; omega
  have hq : 0 ≤ lapsB r q ∧ lapsB r q ≤ 140737488355328 := by have := lapsB_range r q; omega
  have hw : IntKind.i64.wrap (lapsB r p - lapsB r q) = lapsB r p - lapsB r q := IntWalk.i64_in _ (by omega)
  go_enter Try.func68, Try.ntmps68
  go_wp2_with fail
  obtain ⟨W, hW⟩ : ∃ W, W = (w.alloc (.cells #[.int .i64 p, .int .i64 q] 92)) := ⟨_, rfl⟩
  have hgW : Grow w W := by rw [hW]; exact ((Grow.refl w).alloc _)
  have hW00 : W.cell? ⟨w.heap.size, 0, none⟩ = some (.int .i64 p) := by rw [hW]; exact cell_new (by simp) rfl
  have hW01 : W.cell? ⟨w.heap.size, 1, none⟩ = some (.int .i64 q) := by rw [hW]; exact cell_new (by simp) rfl
  have hWf0 : ∀ o, W.frozen? ⟨w.heap.size, o, none⟩ = false := by intro o; rw [hW]; exact hot_new (by simp)
  have hWl0 : w.heap.size < W.heap.size := by rw [hW]; simp; try omega
  rw [← hW]
  clear hW
  have hWd : ∀ n, (W.drewN n).heap.size = W.heap.size := fun _ => rfl
  have hWq : ∀ n o b j, b < W.heap.size → ((W.drewN n).alloc o).cell? ⟨b, j, none⟩ = W.cell? ⟨b, j, none⟩ := cell_drewN_alloc W
  have hWr : ∀ n o b j, b < W.heap.size → ((W.drewN n).alloc o).frozen? ⟨b, j, none⟩ = W.frozen? ⟨b, j, none⟩ := hot_drewN_alloc W
  have hWb0 : w.heap.size ≤ w.heap.size := by omega
  obtain ⟨W0, hWe0⟩ : ∃ g, w.heap.size = g := ⟨_, rfl⟩
  have hWb0 : w.heap.size ≤ W0 := by omega
  rw [hWe0] at hW00 hW01 hWf0 hWl0
  (try rw [hWe0])
  have hWk0 := Lib.hid hWe0
  clear hWe0
  go_region_held3 (fun Wx => Grow W Wx ∧ Wx.cell? ⟨W0, 0, none⟩ = some (.int .i64 p) ∧ Wx.cell? ⟨W0, 1, none⟩ = some (.int .i64 q)) ((refine (fun (hG : Grow W _) => ⟨hG, Grow.keeps hG (by assumption), Grow.keeps hG (by assumption)⟩) ?_; (try go_split_ands); first | exact (Below.refl _ _).drew | exact ((Grow.refl _).alloc _).drew | exact Grow.alloc (by assumption) _ | exact Below.setCell (Below.setCell (by assumption) (by simp <;> omega) _) (by simp <;> omega) _ | exact Grow.trans (by assumption) (by assumption) | exact Below.trans (by assumption) (by assumption))) ((go_at_call 63; refine (plaps_any _ _ _ hr).mono ?_; rintro e w2 ⟨rfl, rfl⟩))
  all_goals
    go_wp2_with fail
    go_ret
    refine ⟨rfl, ?_⟩
    go_split_ands
    exact hgW.trans (by assumption)
theorem psign_any (n : Int) (w : World) :
    Calls Try.prog 71 #[.int .i64 n] w fun e w' => e = .returned (.int .i64 (max (-1) (min 1 n))) ∧ w = w' := by
  go_enter Try.func71, Try.ntmps71
  go_wp2_with fail
  go_ret
  exact ⟨rfl, rfl⟩
end Go.Proofs.Yteijilbdllpbcaa
