/- The laws of layer 1: span, sample, turned. Conditions: none. -/
import Derived.Test.YteijilbdllpbcaaPhJ
namespace Go.Proofs.Yteijilbdllpbcaa
open Go.RowKit

theorem lspan_any (lo hi : Int) (w : World) : Calls Try.prog 29 #[.int .i64 lo, .int .i64 hi] w fun e w' => e = .returned (.agg #[.int .i64 lo, .int .i64 hi]) ∧ Grow w w' := by
  go_enter Try.func29, Try.ntmps29
  go_wp2_with fail
  exact bodyPost_ret (v := .agg #[.int .i64 lo, .int .i64 hi]) (by simp [results, Try.results29, go_sem]) rfl ⟨rfl, (Grow.refl w).alloc _⟩
/-- A count that a function makes. -/
def MadeC (w : World) (P : Int) (ss : List (List Int)) (e : Ending) (w' : World) : Prop := ∃ sv, e = .returned (.agg #[.int .i64 P, sv]) ∧ IsSheets w' sv ss ∧ Grow w w'
theorem new_ints (w : World) (l : List Int) (e : TypeId) {g n : Nat} (hg : g = w.heap.size) (hn : n = l.length) (hl : l.length ≤ 1000) : IsInts (w.alloc (.cells ((l.map (Value.int .i64)).toArray) e)) (.slice (some ⟨g, 0, none⟩) n n) l := by
  subst hg hn
  refine ⟨_, _, rfl, Nat.le_refl _, by omega, fun i x hx => ⟨_, 0, rfl, ?_⟩⟩
  exact cell_new rfl (by simpa using hx)
theorem new_sheets {w : World} {vs : List Value} {ss : List (List Int)} {e : TypeId} {g n : Nat} (hg : g = w.heap.size) (hn : n = ss.length) (hl : vs.length = ss.length) (h : ∀ (i : Nat) (v : Value) (s : List Int), vs[i]? = some v → ss[i]? = some s → IsInts w v s) (hs : ss.length ≤ 1000) :
    IsSheets (w.alloc (.cells vs.toArray e)) (.slice (some ⟨g, 0, none⟩) n n) ss := by
  subst hg hn
  refine ⟨_, _, rfl, Nat.le_refl _, by omega, fun i s hi => ?_⟩
  have hlt : i < vs.length := by rw [hl]; exact (List.getElem?_eq_some_iff.1 hi).1
  refine ⟨_, 0, vs[i], rfl, cell_new rfl (by simp [hlt]), (h i _ s (by simp [hlt]) hi).grow ((Grow.refl w).alloc _)⟩
theorem lsample_any (w : World) : Calls Try.prog 24 #[] w (MadeC w 3 [[0, 1, 2], [0, 2, 2]]) := by
  go_enter Try.func24, Try.ntmps24
  go_wp2_with fail
  refine bodyPost_ret (v := .agg #[.int .i64 3, .slice (some ⟨w.heap.size + 1 + 1 + 1, 0, none⟩) 2 2]) (by simp [results, Try.results24, go_sem]) rfl ⟨_, rfl, ?_, ?_⟩
  · refine new_sheets (vs := [.slice (some ⟨w.heap.size + 1, 0, none⟩) 3 3, .slice (some ⟨w.heap.size + 1 + 1, 0, none⟩) 3 3]) (by simp) rfl rfl (fun i v s hv hs => ?_) (by decide)
    rcases i with _ | _ | i
    · cases hv; cases hs
      exact (new_ints _ [0, 1, 2] _ (by simp) rfl (by decide)).grow ((Grow.refl _).alloc _)
    · cases hv; cases hs
      exact new_ints _ [0, 2, 2] _ (by simp) rfl (by decide)
    · simp at hv
  · exact ((((Grow.refl w).alloc _).alloc _).alloc _).alloc _
theorem two_sheets (w : World) (c : Obj) : IsSheets ((((w.alloc c).alloc (.cells #[.int .i64 0, .int .i64 1] 3)).alloc (.cells #[.int .i64 1, .int .i64 0] 3)).alloc (.cells #[.slice (some ⟨w.heap.size + 1, 0, none⟩) 2 2, .slice (some ⟨w.heap.size + 1 + 1, 0, none⟩) 2 2] 25)) (.slice (some ⟨w.heap.size + 1 + 1 + 1, 0, none⟩) 2 2) [[0, 1], [1, 0]] := by
  refine new_sheets (vs := [.slice (some ⟨w.heap.size + 1, 0, none⟩) 2 2, .slice (some ⟨w.heap.size + 1 + 1, 0, none⟩) 2 2]) (by simp) rfl rfl (fun i v s hv hs => ?_) (by decide)
  rcases i with _ | _ | i
  · cases hv; cases hs
    exact (new_ints _ [0, 1] _ (by simp) rfl (by decide)).grow ((Grow.refl _).alloc _)
  · cases hv; cases hs
    exact new_ints _ [1, 0] _ (by simp) rfl (by decide)
  · simp at hv
theorem ob_ne {b n c k : Nat} (h : b ≠ k) : (Value.slice (some ⟨b, 0, none⟩) n c).ownBlock ≠ some k := fun e => by
  have e' : some b = some k := e
  injection e' with e''
  exact h e''
theorem ob_ne2 {b n c k m d : Nat} (h : b ≠ k) : (Value.slice (some ⟨b, 0, none⟩) n c).ownBlock ≠ (Value.slice (some ⟨k, 0, none⟩) m d).ownBlock := ob_ne h
theorem lturned_no (w : World) : Calls Try.prog 25 #[.bool false] w (MadeC w 2 [[0, 1], [1, 0]]) := by
  go_enter Try.func25, Try.ntmps25
  go_wp2_with fail
  refine bodyPost_ret (v := .agg #[.int .i64 2, .slice (some ⟨w.heap.size + 1 + 1 + 1, 0, none⟩) 2 2]) (by simp [results, Try.results25, go_sem]) rfl ⟨_, rfl, (two_sheets w _).grow ((Grow.refl _).alloc _), ((((Grow.refl w).alloc _).alloc _).alloc _).alloc _ |>.alloc _⟩
set_option maxRecDepth 100000 in
theorem lturned_yes (w : World) : Calls Try.prog 25 #[.bool true] w (MadeC w 2 [[0, 1], [1, 0], [0, 1, 0]]) := by
  obtain ⟨i0, hi0, hi1, hi2, hi3⟩ := info_parts info_ints
  have hu : Try.prog.underlying 22 = some (.slice 25) := by kernel_rfl
  go_enter Try.func25, Try.ntmps25
  go_upto_region 3 with (fail)
  obtain ⟨W, hW⟩ : ∃ W, ((((w.alloc (.cells #[.int .i64 0, .slice none 0 0] 24)).alloc (.cells #[.int .i64 0, .int .i64 1] 3)).alloc (.cells #[.int .i64 1, .int .i64 0] 3)).alloc (.cells #[.slice (some ⟨w.heap.size + 1, 0, none⟩) 2 2, .slice (some ⟨w.heap.size + 1 + 1, 0, none⟩) 2 2] 25)).alloc (.cells #[.int .i64 2, .slice (some ⟨w.heap.size + 1 + 1 + 1, 0, none⟩) 2 2] 24) = W := ⟨_, rfl⟩
  have hg : Grow w W := by rw [← hW]; exact ((((Grow.refl w).alloc _).alloc _).alloc _).alloc _ |>.alloc _
  have hsz : W.heap.size = w.heap.size + 1 + 1 + 1 + 1 + 1 := by rw [← hW]; simp
  have hown : Own W (w.heap.size + 1 + 1 + 1) 25 (.slice (some ⟨w.heap.size + 1 + 1 + 1, 0, none⟩) 2 2) [.slice (some ⟨w.heap.size + 1, 0, none⟩) 2 2, .slice (some ⟨w.heap.size + 1 + 1, 0, none⟩) 2 2] := by
    rw [← hW]
    exact (Own.newL _ (by simp) (by simp) rfl (by simp [maxLen])).alloc _
  have hr0 : W.cell? ⟨w.heap.size, 0, none⟩ = some (.int .i64 0) := by rw [← hW]; exact Grow.keepA (Grow.keepA (Grow.keepA (Grow.keepA (cell_new rfl rfl) _) _) _) _
  have hr1 : W.cell? ⟨w.heap.size, 1, none⟩ = some (.slice none 0 0) := by rw [← hW]; exact Grow.keepA (Grow.keepA (Grow.keepA (Grow.keepA (cell_new rfl rfl) _) _) _) _
  have hrf : ∀ o, W.frozen? ⟨w.heap.size, o, none⟩ = false := fun o => by rw [← hW]; exact ((((((Grow.refl (w.alloc _)).alloc _).alloc _).alloc _).alloc _).marks _ _ (by simp)).trans (hot_new rfl)
  have hv0 : W.cell? ⟨w.heap.size + 1 + 1 + 1 + 1, 0, none⟩ = some (.int .i64 2) := by rw [← hW]; exact cell_new (by simp) rfl
  have hv1 : W.cell? ⟨w.heap.size + 1 + 1 + 1 + 1, 1, none⟩ = some (.slice (some ⟨w.heap.size + 1 + 1 + 1, 0, none⟩) 2 2) := by rw [← hW]; exact cell_new (by simp) rfl
  have hvf : ∀ o, W.frozen? ⟨w.heap.size + 1 + 1 + 1 + 1, o, none⟩ = false := fun o => by rw [← hW]; exact hot_new (by simp)
  have hsh := two_sheets w (.cells #[.int .i64 0, .slice none 0 0] 24)
  have hi01 : IsInts W (.slice (some ⟨w.heap.size + 1, 0, none⟩) 2 2) [0, 1] := by rw [← hW]; exact (new_ints _ [0, 1] _ (by simp) rfl (by decide)).grow ((((Grow.refl _).alloc _).alloc _).alloc _)
  have hi10 : IsInts W (.slice (some ⟨w.heap.size + 1 + 1, 0, none⟩) 2 2) [1, 0] := by rw [← hW]; exact (new_ints _ [1, 0] _ (by simp) rfl (by decide)).grow (((Grow.refl _).alloc _).alloc _)
  rw [hW]
  have hle : w.heap.size + 1 + 1 + 1 + 1 < W.heap.size := by omega
  have Hsz := Lib.hid hsz
  clear hW hsh hsz
  have hX1 : Grow W ((W.alloc (.cells #[.int .i64 0, .int .i64 1, .int .i64 0] 3)).alloc (.cells #[.slice (some ⟨W.heap.size, 0, none⟩) 3 3] 25)) := ((Grow.refl W).alloc _).alloc _
  go_wp2_with (at_builtin; go_loud (refine wpl_app rfl (.tmp 10) (.tmp 12) 22 rfl (w.heap.size + 1 + 1 + 1) 25 i0 _ 24 hu hi0 hi1 hi2 hi3 rfl (.slice (some ⟨w.heap.size + 1 + 1 + 1, 0, none⟩) 2 2) [.slice (some ⟨w.heap.size + 1, 0, none⟩) 2 2, .slice (some ⟨w.heap.size + 1 + 1, 0, none⟩) 2 2] rfl ((hown.alloc _).alloc _) (some ⟨W.heap.size + 1, 0, none⟩) 1 [.slice (some ⟨W.heap.size, 0, none⟩) 3 3] 1 rfl rfl (fun h => nomatch h) (row_new1 _ _ _ (by simp)) (by simp [Value.oneCell']) (by simp) (by decide) (by simp; omega) ?_; intro v' w6 hown6 hg6 hm6; obtain ⟨g6, cap6, rfl, hcap6⟩ := hown6.some (n := 3) rfl (by decide); have hr06 := byCell1 hg6 (hX1.keeps hr0) (by show some (w.heap.size + 1 + 1 + 1) ≠ some _; intro e; injection e with e; omega); have hr16 := byCell1 hg6 (hX1.keeps hr1) (by show some (w.heap.size + 1 + 1 + 1) ≠ some _; intro e; injection e with e; omega); have hv06 := byCell1 hg6 (hX1.keeps hv0) (by show some (w.heap.size + 1 + 1 + 1) ≠ some _; intro e; injection e with e; omega); have hv16 := byCell1 hg6 (hX1.keeps hv1) (by show some (w.heap.size + 1 + 1 + 1) ≠ some _; intro e; injection e with e; omega); have hlr := lt_of_cell hr06; have hlv := lt_of_cell hv06; have hrf6 : ∀ o, w6.frozen? ⟨w.heap.size, o, none⟩ = false := (fun o => (byHot hg6 (lt_of_cell (hX1.keeps hr0)) (by show some (w.heap.size + 1 + 1 + 1) ≠ some _; intro e; injection e with e; omega) o).trans ((hX1.marks _ _ (lt_of_cell hr0)).trans (hrf o))); have hvf6 : ∀ o, w6.frozen? ⟨w.heap.size + 1 + 1 + 1 + 1, o, none⟩ = false := (fun o => (byHot hg6 (lt_of_cell (hX1.keeps hv0)) (by show some (w.heap.size + 1 + 1 + 1) ≠ some _; intro e; injection e with e; omega) o).trans ((hX1.marks _ _ (lt_of_cell hv0)).trans (hvf o)))))
  have hg6b : g6 = w.heap.size + 1 + 1 + 1 ∨ W.heap.size + 1 + 1 ≤ g6 := by
    rcases hm6 with h | h
    · left
      have : some g6 = some (w.heap.size + 1 + 1 + 1) := h
      injection this
    · right
      have := h g6 rfl
      simp at this
      omega
  have hiN : IsInts w6 (.slice (some ⟨W.heap.size, 0, none⟩) 3 3) [0, 1, 0] := IsInts.kept ((new_ints W [0, 1, 0] 3 rfl rfl (by decide)).grow ((Grow.refl _).alloc _)) hg6 (.inr (ob_ne2 (by omega)))
  have hi01' : IsInts w6 (.slice (some ⟨w.heap.size + 1, 0, none⟩) 2 2) [0, 1] := IsInts.kept (hi01.grow hX1) hg6 (.inr (ob_ne2 (by omega)))
  have hi10' : IsInts w6 (.slice (some ⟨w.heap.size + 1 + 1, 0, none⟩) 2 2) [1, 0] := IsInts.kept (hi10.grow hX1) hg6 (.inr (ob_ne2 (by omega)))
  have hk : ∀ (b : Nat) (v : Value) (l : List Int) (n cap : Nat), v = .slice (some ⟨b, 0, none⟩) n cap → b ≠ w.heap.size + 1 + 1 + 1 + 1 → b ≠ w.heap.size → IsInts w6 v l → IsInts (((w6.setCell ⟨w.heap.size + 1 + 1 + 1 + 1, 1, none⟩ (.slice (some ⟨g6, 0, none⟩) 3 cap6)).setCell ⟨w.heap.size, 0, none⟩ (.int .i64 2)).setCell ⟨w.heap.size, 1, none⟩ (.slice (some ⟨g6, 0, none⟩) 3 cap6)) v l := by
    rintro b v l n cap rfl h1 h2 h
    exact ((h.kept (bySet _ _ _ _) (.inr (ob_ne (by omega)))).kept (bySet _ _ _ _) (.inr (ob_ne (by omega)))).kept (bySet _ _ _ _) (.inr (ob_ne (by omega)))
  have hoZ := ((hown6.kept (bySet w6 (w.heap.size + 1 + 1 + 1 + 1) 1 (.slice (some ⟨g6, 0, none⟩) 3 cap6)) (.inr (ob_ne (by omega)))).kept (bySet _ w.heap.size 0 (.int .i64 2)) (.inr (ob_ne (by omega)))).kept (bySet _ w.heap.size 1 (.slice (some ⟨g6, 0, none⟩) 3 cap6)) (.inr (ob_ne (by omega)))
  have hrZ := (((Rows2.nil _ (.slice (some ⟨g6, 0, none⟩) 3 cap6)).snoc (hk _ _ _ _ _ rfl (by omega) (by omega) hi01') (.inr (ob_ne2 (by omega)))).snoc (hk _ _ _ _ _ rfl (by omega) (by omega) hi10') (.inr (ob_ne2 (by omega)))).snoc (hk _ _ _ _ _ rfl (by omega) (by omega) hiN) (.inr (ob_ne2 (by omega)))
  have hsh := hrZ.sheets hoZ (by decide)
  obtain ⟨z0, z1, _, _⟩ := cells2 (x := .int .i64 2) (y := .slice (some ⟨g6, 0, none⟩) 3 cap6) (byCell1 (bySet w6 (w.heap.size + 1 + 1 + 1 + 1) 1 (.slice (some ⟨g6, 0, none⟩) 3 cap6)) hr06 (by intro e; injection e with e; omega)) (byCell1 (bySet w6 (w.heap.size + 1 + 1 + 1 + 1) 1 (.slice (some ⟨g6, 0, none⟩) 3 cap6)) hr16 (by intro e; injection e with e; omega))
  have hG6 : Below w.heap.size w w6 := Below.trans (hg.trans hX1) (grownBy_below hg6 (by intro k hk; have hk : some (w.heap.size + 1 + 1 + 1) = some k := hk; injection hk with hk; omega) (by simp; omega))
  exact bodyPost_ret (v := .agg #[.int .i64 2, .slice (some ⟨g6, 0, none⟩) 3 cap6]) (by simp [results, Try.results25, go_sem, z0, z1]) rfl ⟨_, rfl, hsh, ((hG6.setCell (p := ⟨w.heap.size + 1 + 1 + 1 + 1, 1, none⟩) (by simp; omega) _).setCell (p := ⟨w.heap.size, 0, none⟩) (by simp) _).setCell (p := ⟨w.heap.size, 1, none⟩) (by simp) _⟩
set_option maxRecDepth 1000000 in
theorem val_sample : (truthsR 3 [[0, 1, 2], [0, 2, 2]]).1 = [[0, 1, 2], [0, 2, 2]] := by decide +kernel
theorem val_turned : (truthsR 2 [[0, 1], [1, 0]]).1 = [[0, 0], [0, 1], [0, 1, 0], [1, 0], [1, 0, 1], [1, 1]] := by decide +kernel
theorem val_third : truthsR 2 [[0, 1], [1, 0], [0, 1, 0]] = ([[0, 1, 0]], 2) := by decide +kernel
end Go.Proofs.Yteijilbdllpbcaa
