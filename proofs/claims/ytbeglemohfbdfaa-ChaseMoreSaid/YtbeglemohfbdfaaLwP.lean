/- The law's own function known: a chase in which a pair's time is known. Conditions: sizes. -/
import Derived.Test.YtbeglemohfbdfaaLibS
import Derived.Deep.DeepCutAuto
namespace Go.Proofs.Ytbeglemohfbdfaa
open Go.RowKit Go.Instr

theorem SheetsAt.vals {w : World} {a : Option Addr} {ss : List (List Int)} (h : SheetsAt w a ss) : ∃ vs : List Value, vs.length = ss.length ∧ RowAt w a vs ∧ ∀ (i : Nat) (v : Value) (s : List Int), vs[i]? = some v → ss[i]? = some s → IsInts w v s := by
  cases ss with
  | nil => exact ⟨[], rfl, fun i x hx => by simp at hx, fun i v s hv => by simp at hv⟩
  | cons s0 ss =>
    obtain ⟨b, o, v0, ha, _, _⟩ := h 0 s0 rfl
    refine ⟨(List.range (s0 :: ss).length).map fun i => (w.cell? ⟨b, o + i, none⟩).getD undef, by simp, fun i x hx => ?_, fun i v s hv hs => ?_⟩
    · rw [List.getElem?_map] at hx
      obtain ⟨j, hj, rfl⟩ := Option.map_eq_some_iff.1 hx
      have hj2 := List.getElem?_eq_some_iff.1 hj
      obtain ⟨hj3, hj4⟩ := hj2
      simp at hj3 hj4
      subst hj4
      obtain ⟨b', o', v', ha', hc', _⟩ := h i (s0 :: ss)[i] (by simp; try omega)
      rw [ha] at ha'; cases ha'
      exact ⟨b, o, ha, by rw [hc']; rfl⟩
    · obtain ⟨b', o', v', ha', hc', hi'⟩ := h i s hs
      rw [ha] at ha'; cases ha'
      rw [List.getElem?_map] at hv
      obtain ⟨j, hj, rfl⟩ := Option.map_eq_some_iff.1 hv
      obtain ⟨hj3, hj4⟩ := List.getElem?_eq_some_iff.1 hj
      simp at hj3 hj4
      subst hj4
      rw [hc']; exact hi'
theorem ints_slice {w : World} {v : Value} {l : List Int} (h : IsInts w v l) : ∃ a cap, v = .slice a l.length cap := by
  obtain ⟨a, cap, h1, _⟩ := h
  exact ⟨a, cap, h1⟩
theorem pinfo_ints7 : (Try.prog.info? 40).map (fun i => (i.zero, i.size, i.bytes)) = some (some (.slice none 0 0), 1, 24) := by kernel_rfl
theorem own_sheets {w : World} {B E : Nat} {v : Value} {vs : List Value} {ss : List (List Int)} (h : Own w B E v vs) (hl : vs.length = ss.length) (hi : ∀ (i : Nat) (x : Value) (s : List Int), vs[i]? = some x → ss[i]? = some s → IsInts w x s) (hs : ss.length * 24 ≤ 140737488355328) : IsSheets w v ss := by
  obtain ⟨a, cap, rfl, h1, _, h3⟩ := h.row
  rw [hl] at h1
  refine ⟨a, cap, by rw [hl], h1, hs, fun i s hsi => ?_⟩
  have hlt : i < vs.length := by rw [hl]; exact (List.getElem?_eq_some_iff.1 hsi).1
  obtain ⟨b, o, ha, hc⟩ := h3 i vs[i] (List.getElem?_eq_getElem hlt)
  exact ⟨b, o, vs[i], ha, hc, hi i _ s (List.getElem?_eq_getElem hlt) hsi⟩
set_option maxRecDepth 100000 in
set_option maxHeartbeats 1000000 in
theorem lknown_any (E F t : Int) (v : Value) (ss : List (List Int)) (p : Nat) (w : World) (hv : IsSheets w v ss) (hp : p < ss.length) (hl : ss.length ≤ 6) (hE : 0 ≤ E ∧ E ≤ 3) (ht : -1000 ≤ t ∧ t ≤ 1000) :
    Calls Try.prog 30 #[.agg #[.int .i64 E, .int .i64 F, v], .int .i64 p, .int .i64 t] w fun e w' => ∃ v', e = .returned (.tuple #[.agg #[.int .i64 E, .int .i64 F, v'], .bool (decide (0 ≤ t - E) && decide (t + E ≤ 200))]) ∧ IsSheets w' v' (ss.set p [t - E, t + E]) ∧ Grow w w' := by
  obtain ⟨a, cap, rfl, hcap, hlen, hrow⟩ := hv
  obtain ⟨vs, hvl, hvr, hvi⟩ := hrow.vals
  have hone : ∀ x ∈ vs, x.oneCell' = true := by
    intro x hx
    obtain ⟨i, hi, rfl⟩ := List.getElem_of_mem hx
    obtain ⟨a2, c2, h2⟩ := ints_slice (hvi i vs[i] (ss[i]'(by omega)) (by simp [hi]) (by simp; try omega))
    rw [h2]; rfl
  have hcap0 : a = none → cap = 0 ∨ ss.length = 0 := fun h => by
    subst h
    obtain ⟨b, o, h1, _⟩ := hvr 0 vs[0] (List.getElem?_eq_getElem (by omega))
    cases h1
  have ha : ∃ b o, a = some ⟨b, o, none⟩ := by
    obtain ⟨b, o, h1, _⟩ := hvr 0 vs[0] (List.getElem?_eq_getElem (by omega))
    exact ⟨b, o, h1⟩
  obtain ⟨b, o, rfl⟩ := ha
  have Hvr := Lib.hid hvr
  have Hvi := Lib.hid hvi
  have Hone := Lib.hid hone
  clear hvr hvi hone hrow hcap0
  obtain ⟨i0, hi0, hi1, hi2, hi3⟩ := info_parts pinfo_ints7
  have hu : Try.prog.underlying 30 = some (.slice 40) := by kernel_rfl
  have hw1 : IntKind.i64.wrap (t - E) = t - E := IntWalk.i64_in _ (by omega)
  have hw2 : IntKind.i64.wrap (t + E) = t + E := IntWalk.i64_in _ (by omega)
  obtain ⟨ok, hok⟩ : ∃ z, (decide (0 ≤ t - E) && decide (t + E ≤ 200)) = z := ⟨_, rfl⟩
  rw [hok]
  have Hok := Lib.hid hok
  clear hok
  go_enter Try.func30, Try.ntmps30
  go_upto_region 2 with fail
  obtain ⟨W, hW⟩ : ∃ W, W = (((w.alloc (.cells #[.int .i64 E, .int .i64 F, .slice (some ⟨b, o, none⟩) ss.length cap] 32)).alloc (.cells #[.int .i64 0, .int .i64 0, .slice none 0 0] 32)).alloc (.cells #[.int .i64 E, .int .i64 F, .slice (some ⟨b, o, none⟩) ss.length cap] 32)) := ⟨_, rfl⟩
  have hgW : Grow w W := by rw [hW]; exact ((((Grow.refl w).alloc _).alloc _).alloc _)
  have hW00 : W.cell? ⟨w.heap.size, 0, none⟩ = some (.int .i64 E) := by rw [hW]; exact Grow.keepA (Grow.keepA (cell_new (by simp) rfl) _) _
  have hW01 : W.cell? ⟨w.heap.size, 1, none⟩ = some (.int .i64 F) := by rw [hW]; exact Grow.keepA (Grow.keepA (cell_new (by simp) rfl) _) _
  have hW02 : W.cell? ⟨w.heap.size, 2, none⟩ = some (.slice (some ⟨b, o, none⟩) ss.length cap) := by rw [hW]; exact Grow.keepA (Grow.keepA (cell_new (by simp) rfl) _) _
  have hWf0 : ∀ o, W.frozen? ⟨w.heap.size, o, none⟩ = false := by intro o; rw [hW]; exact (((Grow.refl _).alloc _).marks _ _ (by simp <;> omega)).trans ((((Grow.refl _).alloc _).marks _ _ (by simp <;> omega)).trans (hot_new (by simp)))
  have hWl0 : w.heap.size < W.heap.size := by rw [hW]; simp; try omega
  have hW10 : W.cell? ⟨w.heap.size + 1, 0, none⟩ = some (.int .i64 0) := by rw [hW]; exact Grow.keepA (cell_new (by simp) rfl) _
  have hW11 : W.cell? ⟨w.heap.size + 1, 1, none⟩ = some (.int .i64 0) := by rw [hW]; exact Grow.keepA (cell_new (by simp) rfl) _
  have hW12 : W.cell? ⟨w.heap.size + 1, 2, none⟩ = some (.slice none 0 0) := by rw [hW]; exact Grow.keepA (cell_new (by simp) rfl) _
  have hWf1 : ∀ o, W.frozen? ⟨w.heap.size + 1, o, none⟩ = false := by intro o; rw [hW]; exact (((Grow.refl _).alloc _).marks _ _ (by simp <;> omega)).trans (hot_new (by simp))
  have hWl1 : w.heap.size + 1 < W.heap.size := by rw [hW]; simp; try omega
  have hW20 : W.cell? ⟨w.heap.size + 1 + 1, 0, none⟩ = some (.int .i64 E) := by rw [hW]; exact cell_new (by simp) rfl
  have hW21 : W.cell? ⟨w.heap.size + 1 + 1, 1, none⟩ = some (.int .i64 F) := by rw [hW]; exact cell_new (by simp) rfl
  have hW22 : W.cell? ⟨w.heap.size + 1 + 1, 2, none⟩ = some (.slice (some ⟨b, o, none⟩) ss.length cap) := by rw [hW]; exact cell_new (by simp) rfl
  have hWf2 : ∀ o, W.frozen? ⟨w.heap.size + 1 + 1, o, none⟩ = false := by intro o; rw [hW]; exact hot_new (by simp)
  have hWl2 : w.heap.size + 1 + 1 < W.heap.size := by rw [hW]; simp; try omega
  rw [← hW]
  clear hW
  have hWd : ∀ n, (W.drewN n).heap.size = W.heap.size := fun _ => rfl
  have hWq : ∀ n o b j, b < W.heap.size → ((W.drewN n).alloc o).cell? ⟨b, j, none⟩ = W.cell? ⟨b, j, none⟩ := cell_drewN_alloc W
  have hWr : ∀ n o b j, b < W.heap.size → ((W.drewN n).alloc o).frozen? ⟨b, j, none⟩ = W.frozen? ⟨b, j, none⟩ := hot_drewN_alloc W
  have hWb0 : w.heap.size ≤ w.heap.size := by omega
  have hWb1 : w.heap.size ≤ w.heap.size + 1 := by omega
  have hWn01 : w.heap.size ≠ w.heap.size + 1 := by omega
  have hWn10 : w.heap.size + 1 ≠ w.heap.size := by omega
  have hWb2 : w.heap.size ≤ w.heap.size + 1 + 1 := by omega
  have hWn02 : w.heap.size ≠ w.heap.size + 1 + 1 := by omega
  have hWn20 : w.heap.size + 1 + 1 ≠ w.heap.size := by omega
  have hWn12 : w.heap.size + 1 ≠ w.heap.size + 1 + 1 := by omega
  have hWn21 : w.heap.size + 1 + 1 ≠ w.heap.size + 1 := by omega
  obtain ⟨W2, hWe2⟩ : ∃ g, w.heap.size + 1 + 1 = g := ⟨_, rfl⟩
  rw [hWe2] at hW20 hW21 hW22 hWf2 hWl2 hWb2 hWn20 hWn21 hWn02 hWn12
  (try rw [hWe2])
  have hWk2 := Lib.hid hWe2
  clear hWe2
  obtain ⟨W1, hWe1⟩ : ∃ g, w.heap.size + 1 = g := ⟨_, rfl⟩
  rw [hWe1] at hW10 hW11 hW12 hWf1 hWl1 hWb1 hWn10 hWn12 hWn01 hWn21
  (try rw [hWe1])
  have hWk1 := Lib.hid hWe1
  clear hWe1
  obtain ⟨W0, hWe0⟩ : ∃ g, w.heap.size = g := ⟨_, rfl⟩
  have hWb0 : w.heap.size ≤ W0 := by omega
  rw [hWe0] at hW00 hW01 hW02 hWf0 hWl0 hWn01 hWn02 hWn10 hWn20
  (try rw [hWe0])
  have hWk0 := Lib.hid hWe0
  clear hWe0
  have gA : Grow W (W.alloc (.cells #[] 40)) := (Grow.refl W).alloc _
  have nW : ∀ k : Nat, k < W.heap.size → (Value.slice (some ⟨W.heap.size, 0, none⟩) 0 0).ownBlock ≠ some k := fun k hk e => by
    have e' : some W.heap.size = some k := e
    injection e' with e''
    omega
  go_upto_region 3 with (at_builtin; go_loud (refine wpl_app rfl (.tmp 12) (.tmp 14) 30 rfl W.heap.size 40 i0 _ 24 hu hi0 hi1 hi2 hi3 rfl (.slice (some ⟨W.heap.size, 0, none⟩) 0 0) [] (by rfl) (Own.new0 (Nat.le_refl _) rfl) (some ⟨b, o, none⟩) cap vs ss.length (by rfl) hvl (fun h => nomatch h) (Hvr.out.grow (hgW.alloc _)) Hone.out (by simp; omega) (by decide) (by simp) ?_; intro v' w1 ho1 hg1 hm1; rw [List.nil_append] at ho1; obtain ⟨g, cp, rfl, hcp⟩ := ho1.some (n := ss.length) hvl (by omega); have HO1 := Lib.hid ho1; have q00 := byCell1 hg1 (gA.keeps hW00) (nW _ hWl0); have q02 := byCell1 hg1 (gA.keeps hW02) (nW _ hWl0); have q10 := byCell1 hg1 (gA.keeps hW10) (nW _ hWl1); have q11 := byCell1 hg1 (gA.keeps hW11) (nW _ hWl1); have q12 := byCell1 hg1 (gA.keeps hW12) (nW _ hWl1); have q20 := byCell1 hg1 (gA.keeps hW20) (nW _ hWl2); have q21 := byCell1 hg1 (gA.keeps hW21) (nW _ hWl2); have q22 := byCell1 hg1 (gA.keeps hW22) (nW _ hWl2); have f1 : ∀ o, w1.frozen? ⟨W1, o, none⟩ = false := (fun o => (byHot hg1 (Nat.lt_of_lt_of_le hWl1 gA.size) (nW _ hWl1) o).trans ((gA.marks _ _ hWl1).trans (hWf1 o))); have f2 : ∀ o, w1.frozen? ⟨W2, o, none⟩ = false := (fun o => (byHot hg1 (Nat.lt_of_lt_of_le hWl2 gA.size) (nW _ hWl2) o).trans ((gA.marks _ _ hWl2).trans (hWf2 o))); have hl0 := lt_of_cell q00; have hl1 := lt_of_cell q10; have hl2 := lt_of_cell q20; have hgg : W.heap.size ≤ g := ho1.base g rfl; have hgl : g < w1.heap.size := (ho1.lt g rfl).2; have fg : ∀ o, w1.frozen? ⟨g, o, none⟩ = false := (fun o => ho1.hot o); have gW1 : Grow w w1 := (show Grow w w1 from Below.trans (hgW.trans gA) (grownBy_below hg1 (fun k hk => by have e' : some W.heap.size = some k := hk; injection e' with e''; have := hgW.size; omega) (Nat.le_trans hgW.size gA.size))); clear ho1 hg1 hm1))
  have n2 : ∀ k : Nat, k ≠ W2 → (some W2 : Option Nat) ≠ some k := fun k hk e => by injection e with e; exact hk e.symm
  have gX : Grow w (w1.setCell ⟨W2, 2, none⟩ (.slice (some ⟨g, 0, none⟩) ss.length cp)) := Below.setCell (p := ⟨W2, 2, none⟩) gW1 hWb2 _
  have hgW2 : g ≠ W2 := by omega
  have p00 := byCell1 (bySet w1 W2 2 (.slice (some ⟨g, 0, none⟩) ss.length cp)) q00 (n2 W0 hWn02)
  have p10 := byCell1 (bySet w1 W2 2 (.slice (some ⟨g, 0, none⟩) ss.length cp)) q10 (n2 W1 hWn12)
  have p11 := byCell1 (bySet w1 W2 2 (.slice (some ⟨g, 0, none⟩) ss.length cp)) q11 (n2 W1 hWn12)
  have p12 := byCell1 (bySet w1 W2 2 (.slice (some ⟨g, 0, none⟩) ss.length cp)) q12 (n2 W1 hWn12)
  have p20 : (w1.setCell ⟨W2, 2, none⟩ (.slice (some ⟨g, 0, none⟩) ss.length cp)).cell? ⟨W2, 0, none⟩ = some (.int .i64 E) := (World.cell?_setCell_other _ _ _ _ (by simp)).trans q20
  have p21 : (w1.setCell ⟨W2, 2, none⟩ (.slice (some ⟨g, 0, none⟩) ss.length cp)).cell? ⟨W2, 1, none⟩ = some (.int .i64 F) := (World.cell?_setCell_other _ _ _ _ (by simp)).trans q21
  have p22 : (w1.setCell ⟨W2, 2, none⟩ (.slice (some ⟨g, 0, none⟩) ss.length cp)).cell? ⟨W2, 2, none⟩ = some (.slice (some ⟨g, 0, none⟩) ss.length cp) := World.cell?_setCell_same' _ _ _ (by rw [q22]; rfl)
  have pf1 : ∀ o, (w1.setCell ⟨W2, 2, none⟩ (.slice (some ⟨g, 0, none⟩) ss.length cp)).frozen? ⟨W1, o, none⟩ = false := fun o => (byHot (bySet w1 W2 2 _) hl1 (n2 W1 hWn12) o).trans (f1 o)
  have HO2 := Lib.hid (HO1.out.kept (bySet w1 W2 2 (.slice (some ⟨g, 0, none⟩) ss.length cp)) (.inr (fun e => by
    have e' : some g = some W2 := e
    injection e' with e''
    exact hgW2 e'')))
  have hsz : (w1.setCell ⟨W2, 2, none⟩ (.slice (some ⟨g, 0, none⟩) ss.length cp)).heap.size = w1.heap.size := by simp
  obtain ⟨X, hX⟩ : ∃ z, w1.setCell ⟨W2, 2, none⟩ (.slice (some ⟨g, 0, none⟩) ss.length cp) = z := ⟨_, rfl⟩
  rw [hX] at gX p00 p10 p11 p12 p20 p21 p22 pf1 HO2 hsz
  rw [hX]
  rw [← hsz] at hl0 hl1 hl2 hgl
  clear hX q00 q02 q10 q11 q12 q20 q21 q22 f1 f2 fg HO1 gW1 hsz
  have S0 : X.drew.cell? ⟨W0, 0, none⟩ = some (.int .i64 E) := p00
  (refine wp_region_held_drew (S := fun Vx => Vx.cell? ⟨W0, 0, none⟩ = some (.int .i64 E)) (by kernel_rfl) (S0) (fun hHeld => ?_); refine wpAnyH_take (i := 0) (oi := _) (v := ?_) rfl (by kernel_rfl) (by kernel_rfl) (by kernel_rfl) (fun _ _ _ h => h) (Or.inl ⟨by rfl, ?_⟩) (by assumption) ?_; rotate_left; (focus (intro w hSw; (try dsimp only at hSw); go_simp; (try with_reducible rfl))); (try simp only [Act.put, List.setIfInBounds_toArray, List.set_cons_zero, List.set_cons_succ, List.getElem_toArray, List.getElem_cons_zero]); refine wpAnyH_take (i := 1) (oi := _) (v := ?_) rfl (by kernel_rfl) (by kernel_rfl) (by kernel_rfl) (fun _ _ _ h => h) (Or.inl ⟨by rfl, ?_⟩) (by assumption) ?_; rotate_left; (focus (intro w hSw; (try dsimp only at hSw); go_simp; (try with_reducible rfl))); (try simp only [Act.put, List.setIfInBounds_toArray, List.set_cons_zero, List.set_cons_succ, List.getElem_toArray, List.getElem_cons_zero, List.getElem_cons_succ]); refine wpAnyH_take (i := 2) (oi := _) (v := ?_) rfl (by kernel_rfl) (by kernel_rfl) (by kernel_rfl) (fun _ _ _ h => h) (Or.inl ⟨by rfl, ?_⟩) (by assumption) ?_; rotate_left; (focus (intro w hSw; (try dsimp only at hSw); go_simp; (try with_reducible rfl))); (try simp only [Act.put, List.setIfInBounds_toArray, List.set_cons_zero, List.set_cons_succ, List.getElem_toArray, List.getElem_cons_zero, List.getElem_cons_succ]); refine wpAnyH_take (i := 3) (oi := _) (v := ?_) rfl (by kernel_rfl) (by kernel_rfl) (by kernel_rfl) (fun _ _ _ h => h) (Or.inl ⟨by rfl, ?_⟩) (by assumption) ?_; rotate_left; (focus (intro w hSw; (try dsimp only at hSw); go_simp; (try with_reducible rfl))); (try simp only [Act.put, List.setIfInBounds_toArray, List.set_cons_zero, List.set_cons_succ, List.getElem_toArray, List.getElem_cons_zero, List.getElem_cons_succ]); refine wpAnyH_take (i := 4) (oi := _) (v := ?_) rfl (by kernel_rfl) (by kernel_rfl) (by kernel_rfl) (fun _ _ _ h => h) (Or.inl ⟨by rfl, ?_⟩) (by assumption) ?_; rotate_left; (focus (intro w hSw; (try dsimp only at hSw); go_simp; (try with_reducible rfl))); (try simp only [Act.put, List.setIfInBounds_toArray, List.set_cons_zero, List.set_cons_succ, List.getElem_toArray, List.getElem_cons_zero, List.getElem_cons_succ]); refine wpAnyH_take (i := 5) (oi := _) (v := ?_) rfl (by kernel_rfl) (by kernel_rfl) (by kernel_rfl) (fun _ _ _ h => h) (Or.inl ⟨by rfl, ?_⟩) (by assumption) ?_; rotate_left; (focus (intro w hSw; (try dsimp only at hSw); go_simp; (try with_reducible rfl))); (try simp only [Act.put, List.setIfInBounds_toArray, List.set_cons_zero, List.set_cons_succ, List.getElem_toArray, List.getElem_cons_zero, List.getElem_cons_succ]); refine wpAnyH_take (i := 6) (oi := _) (v := ?_) rfl (by kernel_rfl) (by kernel_rfl) (by kernel_rfl) (fun _ _ _ h => h) (Or.inl ⟨by rfl, ?_⟩) (by assumption) ?_; rotate_left; (focus (intro w hSw; (try dsimp only at hSw); go_simp; (try with_reducible rfl))); (try simp only [Act.put, List.setIfInBounds_toArray, List.set_cons_zero, List.set_cons_succ, List.getElem_toArray, List.getElem_cons_zero, List.getElem_cons_succ]); refine wpAnyH_take (i := 7) (oi := _) (v := ?_) rfl (by kernel_rfl) (by kernel_rfl) (by kernel_rfl) (fun _ _ _ h => h) (Or.inl ⟨by rfl, ?_⟩) (by assumption) ?_; rotate_left; (focus (intro w hSw; (try dsimp only at hSw); go_simp; (try with_reducible rfl))); (try simp only [Act.put, List.setIfInBounds_toArray, List.set_cons_zero, List.set_cons_succ, List.getElem_toArray, List.getElem_cons_zero, List.getElem_cons_succ]); refine wpAnyH_take (i := 8) (oi := _) (v := ?_) rfl (by kernel_rfl) (by kernel_rfl) (by kernel_rfl) (fun _ _ _ h => h) (Or.inl ⟨by rfl, ?_⟩) (by assumption) ?_; rotate_left; (focus (intro w hSw; (try dsimp only at hSw); go_simp; (try with_reducible rfl))); (try simp only [Act.put, List.setIfInBounds_toArray, List.set_cons_zero, List.set_cons_succ, List.getElem_toArray, List.getElem_cons_zero, List.getElem_cons_succ]); refine wpAnyH_take (i := 9) (oi := _) (v := ?_) rfl (by kernel_rfl) (by kernel_rfl) (by kernel_rfl) (fun _ _ _ h => h) (Or.inl ⟨by rfl, ?_⟩) (by assumption) ?_; rotate_left; (focus (intro w hSw; (try dsimp only at hSw); go_simp; (try with_reducible rfl))); (try simp only [Act.put, List.setIfInBounds_toArray, List.set_cons_zero, List.set_cons_succ, List.getElem_toArray, List.getElem_cons_zero, List.getElem_cons_succ]); refine wpAnyH_done (by kernel_rfl) ?_ _)
  obtain ⟨Y, hY⟩ : ∃ z, X.drew = z := ⟨_, rfl⟩
  have gY : Grow X Y := by rw [← hY]; exact (Grow.refl X).drew
  rw [hY]
  have r10 := gY.keeps p10
  have r11 := gY.keeps p11
  have r12 := gY.keeps p12
  have r20 := gY.keeps p20
  have r21 := gY.keeps p21
  have r22 := gY.keeps p22
  have rf1 : ∀ o, Y.frozen? ⟨W1, o, none⟩ = false := fun o => (gY.marks _ _ hl1).trans (pf1 o)
  have hsY : Y.heap.size = X.heap.size := by rw [← hY]; rfl
  have HO3 := Lib.hid (HO2.out.grow gY)
  have rfg : ∀ o, Y.frozen? ⟨g, o, none⟩ = false := fun o => HO3.out.hot o
  rw [← hsY] at hl0 hl1 hl2 hgl
  have gwY := gX.trans gY
  clear hHeld S0 hY p00 p10 p11 p12 p20 p21 p22 pf1 HO2 gX gY hsY
  obtain ⟨xo, hxo⟩ : ∃ z, vs[p]? = some z := ⟨vs[p], List.getElem?_eq_getElem (by omega)⟩
  have rg := HO3.out.at (by rw [hvl]) hxo
  go_upto_region 5 with fail
  have ng : ∀ k : Nat, k ≠ g → (some g : Option Nat) ≠ some k := fun k hk e => by injection e with e; exact hk e.symm
  have hg1 : W1 ≠ g := by omega
  have gY2 : ∀ {k q : Nat} {u : Value}, Y.cell? ⟨k, q, none⟩ = some u → (some g : Option Nat) ≠ some k → (Y.setCell ⟨g, p, none⟩ (.slice (some ⟨Y.heap.size, 0, none⟩) 2 2)).cell? ⟨k, q, none⟩ = some u := fun h n => byCell1 (bySet Y g p (.slice (some ⟨Y.heap.size, 0, none⟩) 2 2)) h n
  have gS : Grow w (Y.setCell ⟨g, p, none⟩ (.slice (some ⟨Y.heap.size, 0, none⟩) 2 2)) := Below.setCell (p := ⟨g, p, none⟩) gwY (by have := hgW.size; show w.heap.size ≤ g; omega) _
  have a10 := Grow.keepA (gY2 r10 (ng W1 hg1)) (.cells #[.int .i64 (t - E), .int .i64 (t + E)] 3)
  have a11 := Grow.keepA (gY2 r11 (ng W1 hg1)) (.cells #[.int .i64 (t - E), .int .i64 (t + E)] 3)
  have a12 := Grow.keepA (gY2 r12 (ng W1 hg1)) (.cells #[.int .i64 (t - E), .int .i64 (t + E)] 3)
  have a20 := Grow.keepA (gY2 r20 (ng W2 hgW2.symm)) (.cells #[.int .i64 (t - E), .int .i64 (t + E)] 3)
  have a21 := Grow.keepA (gY2 r21 (ng W2 hgW2.symm)) (.cells #[.int .i64 (t - E), .int .i64 (t + E)] 3)
  have a22 := Grow.keepA (gY2 r22 (ng W2 hgW2.symm)) (.cells #[.int .i64 (t - E), .int .i64 (t + E)] 3)
  have hs1 : (Y.setCell ⟨g, p, none⟩ (.slice (some ⟨Y.heap.size, 0, none⟩) 2 2)).heap.size = Y.heap.size := by simp
  have af1 : ∀ q, ((Y.setCell ⟨g, p, none⟩ (.slice (some ⟨Y.heap.size, 0, none⟩) 2 2)).alloc (.cells #[.int .i64 (t - E), .int .i64 (t + E)] 3)).frozen? ⟨W1, q, none⟩ = false := fun q => (((Grow.refl _).alloc _).marks _ _ (by rw [hs1]; exact hl1)).trans ((byHot (bySet Y g p _) hl1 (ng W1 hg1) q).trans (rf1 q))
  have HOz := Lib.hid ((HO3.out.set hvl.symm p (.slice (some ⟨Y.heap.size, 0, none⟩) 2 2)).1.alloc (.cells #[.int .i64 (t - E), .int .i64 (t + E)] 3))
  have hin := Lib.hid (new_ints (Y.setCell ⟨g, p, none⟩ (.slice (some ⟨Y.heap.size, 0, none⟩) 2 2)) [t - E, t + E] 3 (g := Y.heap.size) (n := 2) hs1.symm rfl (by simp))
  have gZ := gS.alloc (.cells #[.int .i64 (t - E), .int .i64 (t + E)] 3)
  have hin' : Hid (IsInts ((Y.setCell ⟨g, p, none⟩ (.slice (some ⟨Y.heap.size, 0, none⟩) 2 2)).alloc (.cells #[.int .i64 (t - E), .int .i64 (t + E)] 3)) (.slice (some ⟨Y.heap.size, 0, none⟩) 2 2) [t - E, t + E]) := hin.out
  clear hin
  obtain ⟨Z, hZ⟩ : ∃ z, (Y.setCell ⟨g, p, none⟩ (.slice (some ⟨Y.heap.size, 0, none⟩) 2 2)).alloc (.cells #[.int .i64 (t - E), .int .i64 (t + E)] 3) = z := ⟨_, rfl⟩
  have hlZ : W1 < Z.heap.size := by rw [← hZ]; simp; omega
  have hlZ2 : W2 < Z.heap.size := by rw [← hZ]; simp; omega
  rw [hZ] at a10 a11 a12 a20 a21 a22 af1 HOz hin' gZ
  rw [hZ]
  obtain ⟨yb, hyb⟩ : ∃ z, Y.heap.size = z := ⟨_, rfl⟩
  rw [hyb] at HOz hin' hl1
  rw [hyb]
  clear hZ hyb gS gY2 r10 r11 r12 r20 r21 r22 rf1 rfg rg HO3 hs1
  obtain ⟨b0, b1, b2, _⟩ := cells3 (x := .int .i64 E) (y := .int .i64 F) (z := .slice (some ⟨g, 0, none⟩) ss.length cp) a10 a11 a12
  have GF : Grow w (((Z.setCell ⟨W1, 0, none⟩ (.int .i64 E)).setCell ⟨W1, 1, none⟩ (.int .i64 F)).setCell ⟨W1, 2, none⟩ (.slice (some ⟨g, 0, none⟩) ss.length cp)) := ((Below.setCell (p := ⟨W1, 0, none⟩) gZ hWb1 _).setCell (p := ⟨W1, 1, none⟩) hWb1 _).setCell (p := ⟨W1, 2, none⟩) hWb1 _
  have hIS : IsSheets (((Z.setCell ⟨W1, 0, none⟩ (.int .i64 E)).setCell ⟨W1, 1, none⟩ (.int .i64 F)).setCell ⟨W1, 2, none⟩ (.slice (some ⟨g, 0, none⟩) ss.length cp)) (.slice (some ⟨g, 0, none⟩) ss.length cp) (ss.set p [t - E, t + E]) := by
    have neg : (Value.slice (some ⟨g, 0, none⟩) ss.length cp).ownBlock = none ∨ (Value.slice (some ⟨g, 0, none⟩) ss.length cp).ownBlock ≠ some W1 := .inr (fun e => by
      have e' : some g = some W1 := e
      injection e' with e''
      omega)
    have nei : ([t - E, t + E] : List Int) = [] ∨ (Value.slice (some ⟨yb, 0, none⟩) 2 2).ownBlock ≠ some W1 := .inr (fun e => by
      have e' : some yb = some W1 := e
      injection e' with e''
      omega)
    refine own_sheets (((HOz.out.kept (bySet Z W1 0 (.int .i64 E)) neg).kept (bySet _ W1 1 (.int .i64 F)) neg).kept (bySet _ W1 2 (.slice (some ⟨g, 0, none⟩) ss.length cp)) neg) (by rw [List.length_set, List.length_set, hvl]) (fun i x s hx hs => ?_) (by rw [List.length_set]; omega)
    by_cases e : i = p
    · subst e
      rw [List.getElem?_set_self (by omega)] at hx hs
      cases hx
      cases hs
      exact ((hin'.out.kept (bySet Z W1 0 (.int .i64 E)) nei).kept (bySet _ W1 1 (.int .i64 F)) nei).kept (bySet _ W1 2 (.slice (some ⟨g, 0, none⟩) ss.length cp)) nei
    · rw [List.getElem?_set_ne (fun h => e h.symm)] at hx hs
      exact (Hvi.out i x s hx hs).grow GF
  have HIS := Lib.hid hIS
  clear hIS HOz hin' gZ
  cases j1 : decide (0 ≤ t - E) <;> cases j2 : decide (t + E ≤ 200)
  all_goals
    have J1 := Lib.hid j1
    have J2 := Lib.hid j2
    simp only [decide_eq_true_eq, decide_eq_false_iff_not] at j1 j2
    first | (exfalso; omega) | skip
  all_goals
    go_wp2_with fail
    have hk := Hok.out
    rw [J1.out, J2.out] at hk
    subst hk
    exact bodyPost_ret (v := .tuple #[.agg #[.int .i64 E, .int .i64 F, .slice (some ⟨g, 0, none⟩) ss.length cp], .bool _]) (by simp [results, Try.results30, go_sem, b0, b1, b2]) rfl ⟨_, rfl, HIS.out, GF⟩
end Go.Proofs.Ytbeglemohfbdfaa
