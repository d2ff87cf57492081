/- The program of layer 7: whether all answers, none or some are yes; the questions. Conditions: sizes. -/
import Derived.Test.YtbeglemohfbdfaaQpN
import Derived.Laws.EntriesVeiled
import Derived.Sort.AtCall
namespace Go.Proofs.Ytbeglemohfbdfaa
open Go.RowKit Go.Instr

attribute [local go_sem] Oper.semAt_some

/-- A slice of answers. -/
def BoolsAt (w : World) (v : Value) (l : List Bool) : Prop := ∃ a cap, v = .slice a l.length cap ∧ l.length ≤ 1000000 ∧ RowAt w a (l.map Value.bool)
theorem BoolsAt.grow {w w' : World} {v : Value} {l : List Bool} (h : BoolsAt w v l) (hg : Grow w w') : BoolsAt w' v l := by
  obtain ⟨a, cap, h1, h2, h3⟩ := h
  exact ⟨a, cap, h1, h2, h3.grow hg⟩
theorem pIndexB_any (v : Value) (l : List Bool) (b : Bool) (w : World) (hv : BoolsAt w v l) :
    Calls Try.prog 100 #[v, .bool b] w fun e w' => ∃ i : Int, e = .returned (.int .i64 i) ∧ decide (0 ≤ i) = l.contains b ∧ -1 ≤ i ∧ w' = w := by
  obtain ⟨a, cap, rfl, hl, hr⟩ := hv
  have Hr := Lib.hid hr
  clear hr
  go_enter Try.func100, Try.ntmps100
  go_wp2_with fail
  go_loopw [8] (fun i wr => ∃ k : Nat, k ≤ l.length ∧ i = .int .i64 k ∧ (l.take k).contains b = false ∧ wr = w) (fun i _ => l.length - (intOf i).toNat)
  case atStart => exact ⟨0, Nat.zero_le _, rfl, rfl, rfl⟩
  case round =>
    obtain ⟨k, hk, rfl, hno, rfl⟩ := hrel
    by_cases hlt : k < l.length
    · obtain ⟨bb, o, ha, hc⟩ := Hr.out k (.bool l[k]) (by simp [hlt])
      subst ha
      have hcl := lt_of_cell hc
      by_cases he : b = l[k]
      · have hbe : (b == l[k]) = true := by simpa using he
        go_wp2_with fail
        go_ret
        refine ⟨_, rfl, ?_, by omega, rfl⟩
        simp [he]
      · have hbe : (b == l[k]) = false := by simpa using he
        go_wp2_with fail
        refine ⟨⟨k + 1, by omega, by go_num, ?_, trivial⟩, by simp [intOf]; omega⟩
        rw [take_get (List.getElem?_eq_getElem hlt), Bool.eq_false_iff, ne_eq, List.contains_iff_mem, List.mem_append, List.mem_singleton]
        rintro (h | h)
        · rw [Bool.eq_false_iff, ne_eq, List.contains_iff_mem] at hno
          exact hno h
        · exact he h
    · obtain rfl : k = l.length := by omega
      go_wp2_with fail
      go_ret
      refine ⟨_, rfl, ?_, by omega, rfl⟩
      rw [List.take_length] at hno
      rw [hno]
      rfl
theorem pContainsB_any (v : Value) (l : List Bool) (b : Bool) (w : World) (hv : BoolsAt w v l) :
    Calls Try.prog 81 #[v, .bool b] w fun e w' => e = .returned (.bool (l.contains b)) ∧ w' = w := by
  obtain ⟨x, hx⟩ : ∃ x, l.contains b = x := ⟨_, rfl⟩
  rw [hx]
  have Hx := Lib.hid hx
  have Hv := Lib.hid hv
  clear hx hv
  go_enter Try.func81, Try.ntmps81
  go_wp2_with (go_at_call 100; refine (pIndexB_any _ l b _ Hv.out).mono ?_; rintro e w1 ⟨i, rfl, hi, hi0, rfl⟩; rw [Hx.out] at hi)
  go_ret
  exact ⟨by rw [← hi]; rfl, rfl⟩
theorem pso_any (v : Value) (l : List Bool) (w : World) (hv : BoolsAt w v l) :
    Calls Try.prog 67 #[v] w fun e w' => e = .returned (.int .i64 (soB l)) ∧ w' = w := by
  have Hv := Lib.hid hv
  unfold soB
  obtain ⟨x, hx⟩ : ∃ x, l.contains false = x := ⟨_, rfl⟩
  obtain ⟨y, hy⟩ : ∃ y, l.contains true = y := ⟨_, rfl⟩
  rw [hx, hy]
  have Hx := Lib.hid hx
  have Hy := Lib.hid hy
  clear hx hy hv
  cases x <;> cases y
  all_goals
    go_enter Try.func67, Try.ntmps67
    go_wp2_with (go_at_call 81; refine (pContainsB_any _ l _ _ Hv.out).mono ?_; rintro e w1 ⟨rfl, rfl⟩; first | rw [Hx.out] | rw [Hy.out])
    go_ret
    exact ⟨rfl, rfl⟩
theorem pat_any (xs : List Int) (hx : xs.length = 6) (p : Nat) (hp : p < 6) (w : World) :
    Calls Try.prog 66 #[.agg (xs.map (Value.int .i64)).toArray, .int .i64 p] w fun e w' => e = .returned (.int .i64 (xs[p]'(by omega))) ∧ Grow w w' := by
  go_enter Try.func66, Try.ntmps66
  go_wp2_with fail
  go_ret
  exact ⟨rfl, (Grow.refl _).alloc _⟩
/-- Where a pair comes, as a func value. -/
def atV (xs : List Int) : Value := .func (.func 66) #[.agg (xs.map (Value.int .i64)).toArray] #[]
set_option maxRecDepth 100000 in
theorem pcomes_any (xs : List Int) (hx : xs.length = 6) (p : Nat) (hp : p < 6) (F : Int) (w : World) :
    Calls Try.prog 123 #[.agg #[.int .i64 p, .int .i64 F], atV xs] w fun e w' => e = .returned (.bool (decide (xs[p]'(by omega) < F))) ∧ Grow w w' := by
  unfold atV
  obtain ⟨r, hr⟩ : ∃ r, xs[p]'(by omega) = r := ⟨_, rfl⟩
  rw [hr]
  have Hr := Lib.hid hr
  clear hr
  go_enter Try.func123, Try.ntmps123
  go_wp2
  obtain ⟨W, hW⟩ : ∃ W, W = (w.alloc (.cells #[.int .i64 p, .int .i64 F] 76)) := ⟨_, rfl⟩
  have hgW : Grow w W := by rw [hW]; exact ((Grow.refl w).alloc _)
  have hW00 : W.cell? ⟨w.heap.size, 0, none⟩ = some (.int .i64 p) := by rw [hW]; exact cell_new (by simp) rfl
  have hW01 : W.cell? ⟨w.heap.size, 1, none⟩ = some (.int .i64 F) := by rw [hW]; exact cell_new (by simp) rfl
  have hWf0 : ∀ o, W.frozen? ⟨w.heap.size, o, none⟩ = false := by intro o; rw [hW]; exact hot_new (by simp)
  have hWl0 : w.heap.size < W.heap.size := by rw [hW]; simp; try omega
  rw [← hW]
  clear hW
  have hWd : ∀ n, (W.drewN n).heap.size = W.heap.size := fun _ => rfl
  have hWq : ∀ n o b j, b < W.heap.size → ((W.drewN n).alloc o).cell? ⟨b, j, none⟩ = W.cell? ⟨b, j, none⟩ := cell_drewN_alloc W
  have hWr : ∀ n o b j, b < W.heap.size → ((W.drewN n).alloc o).frozen? ⟨b, j, none⟩ = W.frozen? ⟨b, j, none⟩ := hot_drewN_alloc W
  have hWb0 : w.heap.size ≤ w.heap.size := by omega
  obtain ⟨W0, hWe0⟩ : ∃ g, w.heap.size = g := ⟨_, rfl⟩
  have hWb0 : w.heap.size ≤ W0 := by omega
  rw [hWe0] at hW00 hW01 hWf0 hWl0
  (try rw [hWe0])
  have hWk0 := Lib.hid hWe0
  clear hWe0
  have hSX : W.drew.cell? ⟨W0, 0, none⟩ = some (.int .i64 p) ∧ W.drew.cell? ⟨W0, 1, none⟩ = some (.int .i64 F) := ⟨hW00, hW01⟩
  (refine wp_region_held_drew (S := fun Vx => Vx.cell? ⟨W0, 0, none⟩ = some (.int .i64 p) ∧ Vx.cell? ⟨W0, 1, none⟩ = some (.int .i64 F)) (by kernel_rfl) (hSX) (fun hHeld => ?_); refine wpAnyH_take (i := 0) (oi := _) (v := ?_) rfl (by kernel_rfl) (by kernel_rfl) (by kernel_rfl) (fun _ _ _ h => h) (Or.inl ⟨by rfl, ?_⟩) (by assumption) ?_; rotate_left; (focus (intro w hSw; (try dsimp only at hSw); go_simp; (try with_reducible rfl))); (try simp only [Act.put, List.setIfInBounds_toArray, List.set_cons_zero, List.set_cons_succ, List.getElem_toArray, List.getElem_cons_zero]); refine wpAnyH_take (i := 1) (oi := _) (v := ?_) rfl (by kernel_rfl) (by kernel_rfl) (by kernel_rfl) (fun _ _ _ h => h) (Or.inl ⟨by rfl, ?_⟩) (by assumption) ?_; rotate_left; (focus (intro w hSw; (try dsimp only at hSw); go_simp; (try with_reducible rfl))); (try simp only [Act.put, List.setIfInBounds_toArray, List.set_cons_zero, List.set_cons_succ, List.getElem_toArray, List.getElem_cons_zero, List.getElem_cons_succ]); refine wpAnyH_take (i := 2) (oi := _) (v := ?_) rfl (by kernel_rfl) (by kernel_rfl) (by kernel_rfl) (fun _ _ _ h => h) (Or.inl ⟨by rfl, ?_⟩) (by assumption) ?_; rotate_left; (focus (intro w hSw; (try dsimp only at hSw); go_simp; (try with_reducible rfl))); (try simp only [Act.put, List.setIfInBounds_toArray, List.set_cons_zero, List.set_cons_succ, List.getElem_toArray, List.getElem_cons_zero, List.getElem_cons_succ]); refine wpAnyH_take (i := 4) (oi := _) (v := ?_) rfl (by kernel_rfl) (by kernel_rfl) (by kernel_rfl) (fun _ _ _ h => h) (Or.inl ⟨by rfl, ?_⟩) (by assumption) ?_; rotate_left; (focus (intro w hSw; (try dsimp only at hSw); go_simp; (try with_reducible rfl))); (try simp only [Act.put, List.setIfInBounds_toArray, List.set_cons_zero, List.set_cons_succ, List.getElem_toArray, List.getElem_cons_zero, List.getElem_cons_succ]); refine wpAnyH_take (i := 5) (oi := _) (v := ?_) rfl (by kernel_rfl) (by kernel_rfl) (by kernel_rfl) (fun _ _ _ h => h) (Or.inl ⟨by rfl, ?_⟩) (by assumption) ?_; rotate_left; (focus (intro w hSw; (try dsimp only at hSw); go_simp; (try with_reducible rfl))); (try simp only [Act.put, List.setIfInBounds_toArray, List.set_cons_zero, List.set_cons_succ, List.getElem_toArray, List.getElem_cons_zero, List.getElem_cons_succ]); refine wpAnyH_ready (rs := [3]) (by kernel_rfl) (by simp) ?_; refine AllReadyH.cons (o := _) rfl (fun K hK => ?_) AllReadyH.nil; (try simp only [List.getElem_toArray, List.getElem_cons_zero, List.getElem_cons_succ]); (try go_simp); ((go_at_call 66; refine (pat_any xs hx p hp _).mono ?_; rintro e w1 ⟨rfl, hg1⟩; rw [Hr.out])); (try (go_wp2_with fail)); refine hK.out _ _ ?_ (fun hHeld => ?_); (focus (first | assumption | exact ⟨Grow.keeps (by assumption) hSX.1, Grow.keeps (by assumption) hSX.2⟩)); clear hK K; (try simp only [Act.put, List.setIfInBounds_toArray, List.set_cons_zero, List.set_cons_succ, List.getElem_toArray, List.getElem_cons_zero, List.getElem_cons_succ]); refine wpAnyH_take (i := 6) (oi := _) (v := ?_) rfl (by kernel_rfl) (by kernel_rfl) (by kernel_rfl) (fun _ _ _ h => h) (Or.inl ⟨by rfl, ?_⟩) (by assumption) ?_; rotate_left; (focus (intro w hSw; (try dsimp only at hSw); go_simp; (try with_reducible rfl))); (try simp only [Act.put, List.setIfInBounds_toArray, List.set_cons_zero, List.set_cons_succ, List.getElem_toArray, List.getElem_cons_zero, List.getElem_cons_succ]); refine wpAnyH_take (i := 7) (oi := _) (v := ?_) rfl (by kernel_rfl) (by kernel_rfl) (by kernel_rfl) (fun _ _ _ h => h) (Or.inl ⟨by rfl, ?_⟩) (by assumption) ?_; rotate_left; (focus (intro w hSw; (try dsimp only at hSw); go_simp; (try with_reducible rfl))); (try simp only [Act.put, List.setIfInBounds_toArray, List.set_cons_zero, List.set_cons_succ, List.getElem_toArray, List.getElem_cons_zero, List.getElem_cons_succ]); refine wpAnyH_done (by kernel_rfl) ?_ _)
  go_wp2
  go_ret
  exact ⟨rfl, hgW.drew.trans hg1⟩
set_option maxRecDepth 100000 in
theorem pmeets_any (xs : List Int) (hx : xs.length = 6) (hb : ∀ x ∈ xs, -100 ≤ x ∧ x ≤ 100) (p q : Nat) (hp : p < 6) (hq : q < 6) (n : Nat) (hn : n ≤ 6) (w : World) :
    Calls Try.prog 124 #[.agg #[.int .i64 p, .int .i64 q, .int .i64 n], atV xs] w fun e w' => e = .returned (.bool (decide (xs[p]'(by omega) + xs[q]'(by omega) = (n : Int) - 1))) ∧ Grow w w' := by
  unfold atV
  obtain ⟨r, hr⟩ : ∃ r, xs[p]'(by omega) = r := ⟨_, rfl⟩
  obtain ⟨s, hs⟩ : ∃ s, xs[q]'(by omega) = s := ⟨_, rfl⟩
  have hrb := hb _ (List.getElem_mem (show p < xs.length by omega))
  have hsb := hb _ (List.getElem_mem (show q < xs.length by omega))
  rw [hr] at hrb ⊢
  rw [hs] at hsb ⊢
  have Hr := Lib.hid hr
  have Hs := Lib.hid hs
  have hwn : IntKind.i64.wrap ((n : Int) - 1) = (n : Int) - 1 := IntWalk.i64_in _ (by omega)
  clear hr hs hb
  go_enter Try.func124, Try.ntmps124
  go_wp2
  obtain ⟨W, hW⟩ : ∃ W, W = (w.alloc (.cells #[.int .i64 p, .int .i64 q, .int .i64 n] 84)) := ⟨_, rfl⟩
  have hgW : Grow w W := by rw [hW]; exact ((Grow.refl w).alloc _)
  have hW00 : W.cell? ⟨w.heap.size, 0, none⟩ = some (.int .i64 p) := by rw [hW]; exact cell_new (by simp) rfl
  have hW01 : W.cell? ⟨w.heap.size, 1, none⟩ = some (.int .i64 q) := by rw [hW]; exact cell_new (by simp) rfl
  have hW02 : W.cell? ⟨w.heap.size, 2, none⟩ = some (.int .i64 n) := by rw [hW]; exact cell_new (by simp) rfl
  have hWf0 : ∀ o, W.frozen? ⟨w.heap.size, o, none⟩ = false := by intro o; rw [hW]; exact hot_new (by simp)
  have hWl0 : w.heap.size < W.heap.size := by rw [hW]; simp; try omega
  rw [← hW]
  clear hW
  have hWd : ∀ n, (W.drewN n).heap.size = W.heap.size := fun _ => rfl
  have hWq : ∀ n o b j, b < W.heap.size → ((W.drewN n).alloc o).cell? ⟨b, j, none⟩ = W.cell? ⟨b, j, none⟩ := cell_drewN_alloc W
  have hWr : ∀ n o b j, b < W.heap.size → ((W.drewN n).alloc o).frozen? ⟨b, j, none⟩ = W.frozen? ⟨b, j, none⟩ := hot_drewN_alloc W
  have hWb0 : w.heap.size ≤ w.heap.size := by omega
  obtain ⟨W0, hWe0⟩ : ∃ g, w.heap.size = g := ⟨_, rfl⟩
  have hWb0 : w.heap.size ≤ W0 := by omega
  rw [hWe0] at hW00 hW01 hW02 hWf0 hWl0
  (try rw [hWe0])
  have hWk0 := Lib.hid hWe0
  clear hWe0
  have hSX : W.drew.cell? ⟨W0, 0, none⟩ = some (.int .i64 p) ∧ W.drew.cell? ⟨W0, 1, none⟩ = some (.int .i64 q) ∧ W.drew.cell? ⟨W0, 2, none⟩ = some (.int .i64 n) := ⟨hW00, hW01, hW02⟩
  (refine wp_region_held_drew (S := fun Vx => Vx.cell? ⟨W0, 0, none⟩ = some (.int .i64 p) ∧ Vx.cell? ⟨W0, 1, none⟩ = some (.int .i64 q) ∧ Vx.cell? ⟨W0, 2, none⟩ = some (.int .i64 n)) (by kernel_rfl) (hSX) (fun hHeld => ?_); refine wpAnyH_take (i := 0) (oi := _) (v := ?_) rfl (by kernel_rfl) (by kernel_rfl) (by kernel_rfl) (fun _ _ _ h => h) (Or.inl ⟨by rfl, ?_⟩) (by assumption) ?_; rotate_left; (focus (intro w hSw; (try dsimp only at hSw); go_simp; (try with_reducible rfl))); (try simp only [Act.put, List.setIfInBounds_toArray, List.set_cons_zero, List.set_cons_succ, List.getElem_toArray, List.getElem_cons_zero]); refine wpAnyH_take (i := 1) (oi := _) (v := ?_) rfl (by kernel_rfl) (by kernel_rfl) (by kernel_rfl) (fun _ _ _ h => h) (Or.inl ⟨by rfl, ?_⟩) (by assumption) ?_; rotate_left; (focus (intro w hSw; (try dsimp only at hSw); go_simp; (try with_reducible rfl))); (try simp only [Act.put, List.setIfInBounds_toArray, List.set_cons_zero, List.set_cons_succ, List.getElem_toArray, List.getElem_cons_zero, List.getElem_cons_succ]); refine wpAnyH_take (i := 2) (oi := _) (v := ?_) rfl (by kernel_rfl) (by kernel_rfl) (by kernel_rfl) (fun _ _ _ h => h) (Or.inl ⟨by rfl, ?_⟩) (by assumption) ?_; rotate_left; (focus (intro w hSw; (try dsimp only at hSw); go_simp; (try with_reducible rfl))); (try simp only [Act.put, List.setIfInBounds_toArray, List.set_cons_zero, List.set_cons_succ, List.getElem_toArray, List.getElem_cons_zero, List.getElem_cons_succ]); refine wpAnyH_take (i := 4) (oi := _) (v := ?_) rfl (by kernel_rfl) (by kernel_rfl) (by kernel_rfl) (fun _ _ _ h => h) (Or.inl ⟨by rfl, ?_⟩) (by assumption) ?_; rotate_left; (focus (intro w hSw; (try dsimp only at hSw); go_simp; (try with_reducible rfl))); (try simp only [Act.put, List.setIfInBounds_toArray, List.set_cons_zero, List.set_cons_succ, List.getElem_toArray, List.getElem_cons_zero, List.getElem_cons_succ]); refine wpAnyH_take (i := 5) (oi := _) (v := ?_) rfl (by kernel_rfl) (by kernel_rfl) (by kernel_rfl) (fun _ _ _ h => h) (Or.inl ⟨by rfl, ?_⟩) (by assumption) ?_; rotate_left; (focus (intro w hSw; (try dsimp only at hSw); go_simp; (try with_reducible rfl))); (try simp only [Act.put, List.setIfInBounds_toArray, List.set_cons_zero, List.set_cons_succ, List.getElem_toArray, List.getElem_cons_zero, List.getElem_cons_succ]); refine wpAnyH_take (i := 6) (oi := _) (v := ?_) rfl (by kernel_rfl) (by kernel_rfl) (by kernel_rfl) (fun _ _ _ h => h) (Or.inl ⟨by rfl, ?_⟩) (by assumption) ?_; rotate_left; (focus (intro w hSw; (try dsimp only at hSw); go_simp; (try with_reducible rfl))); (try simp only [Act.put, List.setIfInBounds_toArray, List.set_cons_zero, List.set_cons_succ, List.getElem_toArray, List.getElem_cons_zero, List.getElem_cons_succ]); refine wpAnyH_take (i := 9) (oi := _) (v := ?_) rfl (by kernel_rfl) (by kernel_rfl) (by kernel_rfl) (fun _ _ _ h => h) (Or.inl ⟨by rfl, ?_⟩) (by assumption) ?_; rotate_left; (focus (intro w hSw; (try dsimp only at hSw); go_simp; (try with_reducible rfl))); (try simp only [Act.put, List.setIfInBounds_toArray, List.set_cons_zero, List.set_cons_succ, List.getElem_toArray, List.getElem_cons_zero, List.getElem_cons_succ]); refine wpAnyH_take (i := 10) (oi := _) (v := ?_) rfl (by kernel_rfl) (by kernel_rfl) (by kernel_rfl) (fun _ _ _ h => h) (Or.inl ⟨by rfl, ?_⟩) (by assumption) ?_; rotate_left; (focus (intro w hSw; (try dsimp only at hSw); go_simp; (try with_reducible rfl))); (try simp only [Act.put, List.setIfInBounds_toArray, List.set_cons_zero, List.set_cons_succ, List.getElem_toArray, List.getElem_cons_zero, List.getElem_cons_succ]); refine wpAnyH_take (i := 11) (oi := _) (v := ?_) rfl (by kernel_rfl) (by kernel_rfl) (by kernel_rfl) (fun _ _ _ h => h) (Or.inl ⟨by rfl, ?_⟩) (by assumption) ?_; rotate_left; (focus (intro w hSw; (try dsimp only at hSw); go_simp; (try with_reducible rfl))); (try simp only [Act.put, List.setIfInBounds_toArray, List.set_cons_zero, List.set_cons_succ, List.getElem_toArray, List.getElem_cons_zero, List.getElem_cons_succ]); refine wpAnyH_ready (rs := [3]) (by kernel_rfl) (by simp) ?_; refine AllReadyH.cons (o := _) rfl (fun K hK => ?_) AllReadyH.nil; (try simp only [List.getElem_toArray, List.getElem_cons_zero, List.getElem_cons_succ]); (try go_simp); (first | (go_at_call_has 66 (Value.int .i64 (p : Int)); refine (pat_any xs hx p hp _).mono ?_; rintro e w1 ⟨rfl, hg1⟩; rw [Hr.out]) | (go_at_call 66; refine (pat_any xs hx q hq _).mono ?_; rintro e w1 ⟨rfl, hg2⟩; rw [Hs.out])); (try (go_wp2_with fail)); refine hK.out _ _ ?_ (fun hHeld => ?_); (focus (first | assumption | exact ⟨Grow.keeps (by assumption) hSX.1, Grow.keeps (by assumption) hSX.2.1, Grow.keeps (by assumption) hSX.2.2⟩ | exact ⟨Grow.keeps (by assumption) (Grow.keeps (by assumption) hSX.1), Grow.keeps (by assumption) (Grow.keeps (by assumption) hSX.2.1), Grow.keeps (by assumption) (Grow.keeps (by assumption) hSX.2.2)⟩)); clear hK K; (try simp only [Act.put, List.setIfInBounds_toArray, List.set_cons_zero, List.set_cons_succ, List.getElem_toArray, List.getElem_cons_zero, List.getElem_cons_succ]); refine wpAnyH_ready (rs := [7]) (by kernel_rfl) (by simp) ?_; refine AllReadyH.cons (o := _) rfl (fun K hK => ?_) AllReadyH.nil; (try simp only [List.getElem_toArray, List.getElem_cons_zero, List.getElem_cons_succ]); (try go_simp); (first | (go_at_call_has 66 (Value.int .i64 (p : Int)); refine (pat_any xs hx p hp _).mono ?_; rintro e w1 ⟨rfl, hg1⟩; rw [Hr.out]) | (go_at_call 66; refine (pat_any xs hx q hq _).mono ?_; rintro e w1 ⟨rfl, hg2⟩; rw [Hs.out])); (try (go_wp2_with fail)); refine hK.out _ _ ?_ (fun hHeld => ?_); (focus (first | assumption | exact ⟨Grow.keeps (by assumption) hSX.1, Grow.keeps (by assumption) hSX.2.1, Grow.keeps (by assumption) hSX.2.2⟩ | exact ⟨Grow.keeps (by assumption) (Grow.keeps (by assumption) hSX.1), Grow.keeps (by assumption) (Grow.keeps (by assumption) hSX.2.1), Grow.keeps (by assumption) (Grow.keeps (by assumption) hSX.2.2)⟩)); clear hK K; (try simp only [Act.put, List.setIfInBounds_toArray, List.set_cons_zero, List.set_cons_succ, List.getElem_toArray, List.getElem_cons_zero, List.getElem_cons_succ]); refine wpAnyH_take (i := 8) (oi := _) (v := ?_) rfl (by kernel_rfl) (by kernel_rfl) (by kernel_rfl) (fun _ _ _ h => h) (Or.inl ⟨by rfl, ?_⟩) (by assumption) ?_; rotate_left; (focus (intro w hSw; (try dsimp only at hSw); go_simp; (try with_reducible rfl))); (try simp only [Act.put, List.setIfInBounds_toArray, List.set_cons_zero, List.set_cons_succ, List.getElem_toArray, List.getElem_cons_zero, List.getElem_cons_succ]); refine wpAnyH_take (i := 12) (oi := _) (v := ?_) rfl (by kernel_rfl) (by kernel_rfl) (by kernel_rfl) (fun _ _ _ h => h) (Or.inl ⟨by rfl, ?_⟩) (by assumption) ?_; rotate_left; (focus (intro w hSw; (try dsimp only at hSw); go_simp; (try with_reducible rfl))); (try simp only [Act.put, List.setIfInBounds_toArray, List.set_cons_zero, List.set_cons_succ, List.getElem_toArray, List.getElem_cons_zero, List.getElem_cons_succ]); refine wpAnyH_take (i := 13) (oi := _) (v := ?_) rfl (by kernel_rfl) (by kernel_rfl) (by kernel_rfl) (fun _ _ _ h => h) (Or.inl ⟨by rfl, ?_⟩) (by assumption) ?_; rotate_left; (focus (intro w hSw; (try dsimp only at hSw); go_simp; (try with_reducible rfl))); (try simp only [Act.put, List.setIfInBounds_toArray, List.set_cons_zero, List.set_cons_succ, List.getElem_toArray, List.getElem_cons_zero, List.getElem_cons_succ]); refine wpAnyH_done (by kernel_rfl) ?_ _)
  go_wp2
  go_ret
  have hws : IntKind.i64.wrap (r + s) = r + s := IntWalk.i64_in _ (by omega)
  refine ⟨?_, (hgW.drew.trans hg1).trans hg2⟩
  show Ending.returned (.bool (IntKind.i64.wrap (r + s) == (n : Int) - 1)) = _
  rw [hws]
  exact ret_bool (Bool.eq_iff_iff.2 (by simp))
end Go.Proofs.Ytbeglemohfbdfaa
