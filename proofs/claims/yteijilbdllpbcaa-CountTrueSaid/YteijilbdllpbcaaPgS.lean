/- The program of layer 1: Fewest. Conditions: sizes. -/
import Derived.Test.YteijilbdllpbcaaPgQ
import Derived.Test.YteijilbdllpbcaaRefC
import Derived.Defers
import Derived.Tactics
import Derived.Tactics2
namespace Go.Proofs.Yteijilbdllpbcaa
open Go.RowKit

theorem popen (P : Int) (v : Value) (ss : List (List Int)) (ok : Bool) (w : World) (hv : IsSheets w v ss) :
    Calls Try.prog 43 #[.agg #[.int .i64 P, v], .bool ok] w (OpenPost w P ss ok) := by
  cases h1 : inB P 1 4 with
  | false => exact popen_pairs P v ss ok w hv (.inl h1)
  | true =>
    cases h2 : inB ss.length 1 4 with
    | false => exact popen_pairs P v ss ok w hv (.inr h2)
    | true => exact popen_any P v ss ok w hv h1 h2
theorem codeO_errOf {P : Int} {ss : List (List Int)} {ok : Bool} (h : codeO P ss ok ≠ 0) : errOf P ss ok = codeO P ss ok := by
  unfold codeO at h ⊢
  unfold errOf
  by_cases h1 : validB P ss = false
  · simp [h1]
  · by_cases h2 : ok = false
    · simp [h1, h2]
    · simp [h1, h2] at h
set_option maxRecDepth 100000 in
theorem pFewest_bad (P : Int) (v : Value) (ss : List (List Int)) (w : World) (hv : IsSheets w v ss) (hc : codeO P ss true ≠ 0) :
    Calls Try.prog 13 #[.agg #[.int .i64 P, v]] w fun e w' => e = .returned (.tuple #[.int .i64 0, .int .i64 (codeO P ss true)]) ∧ Grow w w' := by
  have hmf : ∀ (fn : Fn) (first cap : Array Value) (w : World), (Instr.makeFunc fn first cap).run Try.prog w = .ok (.func fn first cap) w := fun _ _ _ _ => rfl
  obtain ⟨a, cap, rfl, hcap, hlen, hrow⟩ := id hv
  have Hv := Lib.hid hv
  clear hv
  obtain ⟨cd, hcd⟩ : ∃ cd, cd = codeO P ss true := ⟨_, rfl⟩
  have Hcd := Lib.hid hcd
  rw [← hcd] at hc ⊢
  clear hcd
  go_enter_defers Try.func13, Try.ntmps13
  go_wp2_with (go_at_call 43; refine (popen P _ ss true _ (Hv.out.grow (((Grow.refl w).alloc _).alloc _))).mono ?_; rintro e w1 ⟨hg1, hbad, _⟩; have hbad := hbad (by rw [← Hcd.out]; exact hc); rw [← Hcd.out] at hbad; subst hbad)
  have hc1 : w1.cell? ⟨w.heap.size + 1, 0, none⟩ = some (.int .i64 0) := hg1.keeps (cell_new (by simp) rfl)
  have hf1 : ∀ o, w1.frozen? ⟨w.heap.size + 1, o, none⟩ = false := fun o => (hg1.marks _ _ (by simp)).trans (hot_new (by simp))
  have hG1 : Grow w w1 := (((Grow.refl w).alloc _).alloc _).trans hg1
  unfold refusal
  refine leaves_cons (f := 41) (args := #[.pointer (some ⟨w.heap.size + 1, 0, none⟩)]) (by simp) (by simp [go_sem]) ?_
  refine (pdefFewest_panic (w.heap.size + 1) cd [] w1 hc1 hf1).mono ?_
  rintro e u' w'' ⟨rfl, rfl, h1, h2⟩
  have hG : Grow w w'' := Below.trans hG1 (grownBy_below h2 (by intro k hk; injection hk with hk; omega) hG1.size)
  simp [Leaves, settle, results, Try.results13, go_sem, h1]
  exact hG
theorem errOf_zero' {P : Int} {ss : List (List Int)} {ok : Bool} (h : codeO P ss ok = 0) : errOf P ss ok = if (truthsR P.toNat ss).1 = [] then 10 else 0 := by
  unfold codeO at h
  unfold errOf
  by_cases h1 : validB P ss = false
  · simp [h1] at h
  · by_cases h2 : ok = false
    · simp [h1, h2] at h
    · simp [h1, h2]
set_option maxRecDepth 100000 in
theorem pFewest_clash (P : Int) (v : Value) (ss : List (List Int)) (w : World) (hv : IsSheets w v ss) (hc : codeO P ss true = 0) (h0 : (truthsR P.toNat ss).1 = []) :
    Calls Try.prog 13 #[.agg #[.int .i64 P, v]] w fun e w' => e = .returned (.tuple #[.int .i64 0, .int .i64 10]) ∧ Grow w w' := by
  have hmf : ∀ (fn : Fn) (first cap : Array Value) (w : World), (Instr.makeFunc fn first cap).run Try.prog w = .ok (.func fn first cap) w := fun _ _ _ _ => rfl
  obtain ⟨a, cap, rfl, hcap, hlen, hrow⟩ := id hv
  have Hv := Lib.hid hv
  have Hc := Lib.hid hc
  have H0 := Lib.hid h0
  clear hv hc h0
  go_enter_defers Try.func13, Try.ntmps13
  go_wp2_with first | (go_at_call 43; refine (popen P _ ss true _ (Hv.out.grow (((Grow.refl w).alloc _).alloc _))).mono ?_; rintro e w1 ⟨hg1, _, hok⟩; obtain ⟨c, sheets, ts, n, rfl, hcs, hwc, _, hts, hn, _⟩ := hok Hc.out; have hts0 : ts = [] := List.map_eq_nil_iff.1 (hts.trans H0.out); subst hts0; have Hcs := Lib.hid hcs; clear hcs hts hn hok) | (go_at_call 44; refine (ptold_no c sheets n _ Hcs.out).mono ?_; rintro e w2 ⟨rfl, rfl⟩)
  have hc1 : w1.cell? ⟨w.heap.size + 1, 0, none⟩ = some (.int .i64 0) := hg1.keeps (cell_new (by simp) rfl)
  have hf1 : ∀ o, w1.frozen? ⟨w.heap.size + 1, o, none⟩ = false := fun o => (hg1.marks _ _ (by simp)).trans (hot_new (by simp))
  have hG1 : Grow w w1 := (((Grow.refl w).alloc _).alloc _).trans hg1
  unfold refusal
  refine leaves_cons (f := 41) (args := #[.pointer (some ⟨w.heap.size + 1, 0, none⟩)]) (by simp) (by simp [go_sem]) ?_
  refine (pdefFewest_panic (w.heap.size + 1) 10 [] w1 hc1 hf1).mono ?_
  rintro e u' w'' ⟨rfl, rfl, h1, h2⟩
  have hG : Grow w w'' := Below.trans hG1 (grownBy_below h2 (by intro k hk; injection hk with hk; omega) hG1.size)
  simp [Leaves, settle, results, Try.results13, go_sem, h1]
  exact hG
set_option maxRecDepth 100000 in
theorem pFewest_ok (P : Int) (v : Value) (ss : List (List Int)) (w : World) (hv : IsSheets w v ss) (hc : codeO P ss true = 0) (h0 : (truthsR P.toNat ss).1 ≠ []) :
    Calls Try.prog 13 #[.agg #[.int .i64 P, v]] w fun e w' => e = .returned (.tuple #[.int .i64 (truthsR P.toNat ss).2, .int .i64 0]) ∧ Grow w w' := by
  have hmf : ∀ (fn : Fn) (first cap : Array Value) (w : World), (Instr.makeFunc fn first cap).run Try.prog w = .ok (.func fn first cap) w := fun _ _ _ _ => rfl
  obtain ⟨a, cap, rfl, hcap, hlen, hrow⟩ := id hv
  have Hv := Lib.hid hv
  have Hc := Lib.hid hc
  have H0 := Lib.hid h0
  obtain ⟨m, hm⟩ : ∃ m, m = (truthsR P.toNat ss).2 := ⟨_, rfl⟩
  rw [← hm]
  have Hm := Lib.hid hm
  clear hv hc h0 hm
  go_enter_defers Try.func13, Try.ntmps13
  go_wp2_with first | (go_at_call 43; refine (popen P _ ss true _ (Hv.out.grow (((Grow.refl w).alloc _).alloc _))).mono ?_; rintro e w1 ⟨hg1, _, hok⟩; obtain ⟨c, sheets, ts, n, rfl, hcs, hwc, _, hts, hn, _⟩ := hok Hc.out; have hts0 : ts ≠ [] := fun e => H0.out (by rw [← hts, e]; rfl); obtain rfl : n = m := hn.trans Hm.out.symm; have Hcs := Lib.hid hcs; obtain ⟨v1, v2, q1, q2, q3, q4, q5⟩ := hcs; have Hts0 := Lib.hid hts0; clear hts hn hok q1 q2 q3 q4 hts0; have hc1 : w1.cell? ⟨w.heap.size + 1, 0, none⟩ = some (.int .i64 0) := hg1.keeps (cell_new (by simp) rfl); have hf1 : ∀ o, w1.frozen? ⟨w.heap.size + 1, o, none⟩ = false := fun o => (hg1.marks _ _ (by simp)).trans (hot_new (by simp)); have hl1 := lt_of_cell hc1) | (go_at_call 44; refine (ptold_yes c sheets ts _ _ Hcs.out Hts0.out).mono ?_; rintro e w2 ⟨rfl, rfl⟩)
  have hG1 : Grow w w1 := (((Grow.refl w).alloc _).alloc _).trans hg1
  have hG : Grow w (w1.setCell ⟨w.heap.size + 1, 0, none⟩ (.int .i64 0)) := hG1.setCell (p := ⟨w.heap.size + 1, 0, none⟩) (by simp) _
  have hV0 : (w1.setCell ⟨w.heap.size + 1, 0, none⟩ (.int .i64 0)).cell? ⟨w.heap.size + 1, 0, none⟩ = some (.int .i64 0) := World.cell?_setCell_same' _ _ _ (by rw [hc1]; rfl)
  refine leaves_cons (f := 41) (args := #[.pointer (some ⟨w.heap.size + 1, 0, none⟩)]) (by simp) (by simp [go_sem]) ?_
  refine (pdefFewest_idle (w.heap.size + 1) _).mono ?_
  rintro e u' w'' ⟨rfl, rfl, rfl⟩
  simp [Leaves, settle, results, Try.results13, go_sem, hV0]
  exact hG
theorem pFewest_any (P : Int) (v : Value) (ss : List (List Int)) (w : World) (hv : IsSheets w v ss) :
    Calls Try.prog 13 #[.agg #[.int .i64 P, v]] w fun e w' => e = .returned (.tuple #[.int .i64 (truthsE P ss (errOf P ss true)).2, .int .i64 (errOf P ss true)]) ∧ Grow w w' := by
  by_cases hc : codeO P ss true = 0
  · have he := errOf_zero' hc
    by_cases h0 : (truthsR P.toNat ss).1 = []
    · rw [if_pos h0] at he
      rw [he]
      exact pFewest_clash P v ss w hv hc h0
    · rw [if_neg h0] at he
      rw [he]
      exact pFewest_ok P v ss w hv hc h0
  · have he := codeO_errOf hc
    rw [he, show (truthsE P ss (codeO P ss true)).2 = 0 by unfold truthsE; rw [if_neg hc]]
    exact pFewest_bad P v ss w hv hc
end Go.Proofs.Yteijilbdllpbcaa
namespace Go.Proofs.Yteijilbdllpbcaa
open Go.RowKit

set_option maxRecDepth 100000 in
theorem pCount_bad (P : Int) (v : Value) (ss : List (List Int)) (w : World) (hv : IsSheets w v ss) (hc : codeO P ss true ≠ 0) :
    Calls Try.prog 15 #[.agg #[.int .i64 P, v]] w fun e w' => e = .returned (.tuple #[.int .i64 0, .int .i64 (codeO P ss true)]) ∧ Grow w w' := by
  have hmf : ∀ (fn : Fn) (first cap : Array Value) (w : World), (Instr.makeFunc fn first cap).run Try.prog w = .ok (.func fn first cap) w := fun _ _ _ _ => rfl
  obtain ⟨a, cap, rfl, hcap, hlen, hrow⟩ := id hv
  have Hv := Lib.hid hv
  clear hv
  obtain ⟨cd, hcd⟩ : ∃ cd, cd = codeO P ss true := ⟨_, rfl⟩
  have Hcd := Lib.hid hcd
  rw [← hcd] at hc ⊢
  clear hcd
  go_enter_defers Try.func15, Try.ntmps15
  go_wp2_with (go_at_call 43; refine (popen P _ ss true _ (Hv.out.grow (((Grow.refl w).alloc _).alloc _))).mono ?_; rintro e w1 ⟨hg1, hbad, _⟩; have hbad := hbad (by rw [← Hcd.out]; exact hc); rw [← Hcd.out] at hbad; subst hbad)
  have hc1 : w1.cell? ⟨w.heap.size + 1, 0, none⟩ = some (.int .i64 0) := hg1.keeps (cell_new (by simp) rfl)
  have hf1 : ∀ o, w1.frozen? ⟨w.heap.size + 1, o, none⟩ = false := fun o => (hg1.marks _ _ (by simp)).trans (hot_new (by simp))
  have hG1 : Grow w w1 := (((Grow.refl w).alloc _).alloc _).trans hg1
  unfold refusal
  refine leaves_cons (f := 46) (args := #[.pointer (some ⟨w.heap.size + 1, 0, none⟩)]) (by simp) (by simp [go_sem]) ?_
  refine (pdefCount_panic (w.heap.size + 1) cd [] w1 hc1 hf1).mono ?_
  rintro e u' w'' ⟨rfl, rfl, h1, h2⟩
  have hG : Grow w w'' := Below.trans hG1 (grownBy_below h2 (by intro k hk; injection hk with hk; omega) hG1.size)
  simp [Leaves, settle, results, Try.results15, go_sem, h1]
  exact hG
set_option maxRecDepth 100000 in
theorem pCount_ok (P : Int) (v : Value) (ss : List (List Int)) (w : World) (hv : IsSheets w v ss) (hc : codeO P ss true = 0) :
    Calls Try.prog 15 #[.agg #[.int .i64 P, v]] w fun e w' => e = .returned (.tuple #[.int .i64 (truthsR P.toNat ss).1.length, .int .i64 0]) ∧ Grow w w' := by
  have hmf : ∀ (fn : Fn) (first cap : Array Value) (w : World), (Instr.makeFunc fn first cap).run Try.prog w = .ok (.func fn first cap) w := fun _ _ _ _ => rfl
  obtain ⟨a, cap, rfl, hcap, hlen, hrow⟩ := id hv
  have Hv := Lib.hid hv
  have Hc := Lib.hid hc
  obtain ⟨m, hm⟩ : ∃ m, m = (truthsR P.toNat ss).1.length := ⟨_, rfl⟩
  rw [← hm]
  have Hm := Lib.hid hm
  clear hv hc hm
  go_enter_defers Try.func15, Try.ntmps15
  go_wp2_with (go_at_call 43; refine (popen P _ ss true _ (Hv.out.grow (((Grow.refl w).alloc _).alloc _))).mono ?_; rintro e w1 ⟨hg1, _, hok⟩; obtain ⟨c, sheets, ts, n, rfl, ⟨v1, v2, q1, q2, q3, ⟨a3, c3, rfl, q4⟩, q5⟩, hwc, _, hts, hn, _⟩ := hok Hc.out; obtain rfl : m = ts.length := (by rw [Hm.out, ← hts, List.length_map]); clear hts hn hok q1 q2 q4 q5; have hc1 : w1.cell? ⟨w.heap.size + 1, 0, none⟩ = some (.int .i64 0) := hg1.keeps (cell_new (by simp) rfl); have hf1 : ∀ o, w1.frozen? ⟨w.heap.size + 1, o, none⟩ = false := fun o => (hg1.marks _ _ (by simp)).trans (hot_new (by simp)); have hl1 := lt_of_cell hc1)
  have hG1 : Grow w w1 := (((Grow.refl w).alloc _).alloc _).trans hg1
  have hG : Grow w (w1.setCell ⟨w.heap.size + 1, 0, none⟩ (.int .i64 0)) := hG1.setCell (p := ⟨w.heap.size + 1, 0, none⟩) (by simp) _
  have hV0 : (w1.setCell ⟨w.heap.size + 1, 0, none⟩ (.int .i64 0)).cell? ⟨w.heap.size + 1, 0, none⟩ = some (.int .i64 0) := World.cell?_setCell_same' _ _ _ (by rw [hc1]; rfl)
  refine leaves_cons (f := 46) (args := #[.pointer (some ⟨w.heap.size + 1, 0, none⟩)]) (by simp) (by simp [go_sem]) ?_
  refine (pdefCount_idle (w.heap.size + 1) _).mono ?_
  rintro e u' w'' ⟨rfl, rfl, rfl⟩
  simp [Leaves, settle, results, Try.results15, go_sem, hV0]
  exact hG
theorem pCount_any (P : Int) (v : Value) (ss : List (List Int)) (w : World) (hv : IsSheets w v ss) :
    Calls Try.prog 15 #[.agg #[.int .i64 P, v]] w fun e w' => e = .returned (.tuple #[.int .i64 (countR P ss), .int .i64 (validE P ss)]) ∧ Grow w w' := by
  unfold countR validE
  cases h : validB P ss with
  | true =>
    have hc : codeO P ss true = 0 := by unfold codeO; rw [h]; rfl
    simpa using pCount_ok P v ss w hv hc
  | false =>
    have hc : codeO P ss true = 1 := by unfold codeO; rw [h]; rfl
    have := pCount_bad P v ss w hv (by rw [hc]; decide)
    rw [hc] at this
    simpa using this
end Go.Proofs.Yteijilbdllpbcaa
namespace Go.Proofs.Yteijilbdllpbcaa
open Go.RowKit

set_option maxRecDepth 100000 in
theorem pFirst_bad (P : Int) (v : Value) (ss : List (List Int)) (w : World) (hv : IsSheets w v ss) (hc : codeO P ss true ≠ 0) :
    Calls Try.prog 17 #[.agg #[.int .i64 P, v]] w fun e w' => e = .returned (.tuple #[.slice none 0 0, .int .i64 (codeO P ss true)]) ∧ Grow w w' := by
  have hmf : ∀ (fn : Fn) (first cap : Array Value) (w : World), (Instr.makeFunc fn first cap).run Try.prog w = .ok (.func fn first cap) w := fun _ _ _ _ => rfl
  obtain ⟨a, cap, rfl, hcap, hlen, hrow⟩ := id hv
  have Hv := Lib.hid hv
  clear hv
  obtain ⟨cd, hcd⟩ : ∃ cd, cd = codeO P ss true := ⟨_, rfl⟩
  have Hcd := Lib.hid hcd
  rw [← hcd] at hc ⊢
  clear hcd
  go_enter_defers Try.func17, Try.ntmps17
  go_wp2_with (go_at_call 43; refine (popen P _ ss true _ (Hv.out.grow (((Grow.refl w).alloc _).alloc _))).mono ?_; rintro e w1 ⟨hg1, hbad, _⟩; have hbad := hbad (by rw [← Hcd.out]; exact hc); rw [← Hcd.out] at hbad; subst hbad)
  have hc1 : w1.cell? ⟨w.heap.size + 1, 0, none⟩ = some (.int .i64 0) := hg1.keeps (cell_new (by simp) rfl)
  have hf1 : ∀ o, w1.frozen? ⟨w.heap.size + 1, o, none⟩ = false := fun o => (hg1.marks _ _ (by simp)).trans (hot_new (by simp))
  have hG1 : Grow w w1 := (((Grow.refl w).alloc _).alloc _).trans hg1
  unfold refusal
  refine leaves_cons (f := 48) (args := #[.pointer (some ⟨w.heap.size + 1, 0, none⟩)]) (by simp) (by simp [go_sem]) ?_
  refine (pdefFirst_panic (w.heap.size + 1) cd [] w1 hc1 hf1).mono ?_
  rintro e u' w'' ⟨rfl, rfl, h1, h2⟩
  have hG : Grow w w'' := Below.trans hG1 (grownBy_below h2 (by intro k hk; injection hk with hk; omega) hG1.size)
  simp [Leaves, settle, results, Try.results17, go_sem, h1]
  exact hG
set_option maxRecDepth 100000 in
theorem pFirst_clash (P : Int) (v : Value) (ss : List (List Int)) (w : World) (hv : IsSheets w v ss) (hc : codeO P ss true = 0) (h0 : (truthsR P.toNat ss).1 = []) :
    Calls Try.prog 17 #[.agg #[.int .i64 P, v]] w fun e w' => e = .returned (.tuple #[.slice none 0 0, .int .i64 10]) ∧ Grow w w' := by
  have hmf : ∀ (fn : Fn) (first cap : Array Value) (w : World), (Instr.makeFunc fn first cap).run Try.prog w = .ok (.func fn first cap) w := fun _ _ _ _ => rfl
  obtain ⟨a, cap, rfl, hcap, hlen, hrow⟩ := id hv
  have Hv := Lib.hid hv
  have Hc := Lib.hid hc
  have H0 := Lib.hid h0
  clear hv hc h0
  go_enter_defers Try.func17, Try.ntmps17
  go_wp2_with first | (go_at_call 43; refine (popen P _ ss true _ (Hv.out.grow (((Grow.refl w).alloc _).alloc _))).mono ?_; rintro e w1 ⟨hg1, _, hok⟩; obtain ⟨c, sheets, ts, n, rfl, hcs, hwc, _, hts, hn, _⟩ := hok Hc.out; have hts0 : ts = [] := List.map_eq_nil_iff.1 (hts.trans H0.out); subst hts0; have Hcs := Lib.hid hcs; clear hcs hts hn hok) | (go_at_call 44; refine (ptold_no c sheets n _ Hcs.out).mono ?_; rintro e w2 ⟨rfl, rfl⟩)
  have hc1 : w1.cell? ⟨w.heap.size + 1, 0, none⟩ = some (.int .i64 0) := hg1.keeps (cell_new (by simp) rfl)
  have hf1 : ∀ o, w1.frozen? ⟨w.heap.size + 1, o, none⟩ = false := fun o => (hg1.marks _ _ (by simp)).trans (hot_new (by simp))
  have hG1 : Grow w w1 := (((Grow.refl w).alloc _).alloc _).trans hg1
  unfold refusal
  refine leaves_cons (f := 48) (args := #[.pointer (some ⟨w.heap.size + 1, 0, none⟩)]) (by simp) (by simp [go_sem]) ?_
  refine (pdefFirst_panic (w.heap.size + 1) 10 [] w1 hc1 hf1).mono ?_
  rintro e u' w'' ⟨rfl, rfl, h1, h2⟩
  have hG : Grow w w'' := Below.trans hG1 (grownBy_below h2 (by intro k hk; injection hk with hk; omega) hG1.size)
  simp [Leaves, settle, results, Try.results17, go_sem, h1]
  exact hG
set_option maxRecDepth 100000 in
theorem pFirst_ok (P : Int) (v : Value) (ss : List (List Int)) (w : World) (hv : IsSheets w v ss) (hc : codeO P ss true = 0) (h0 : (truthsR P.toNat ss).1 ≠ []) :
    Calls Try.prog 17 #[.agg #[.int .i64 P, v]] w (FirstPost w 0 ((truthsR P.toNat ss).1.headD [])) := by
  have hmf : ∀ (fn : Fn) (first cap : Array Value) (w : World), (Instr.makeFunc fn first cap).run Try.prog w = .ok (.func fn first cap) w := fun _ _ _ _ => rfl
  obtain ⟨a, cap, rfl, hcap, hlen, hrow⟩ := id hv
  have Hv := Lib.hid hv
  have Hc := Lib.hid hc
  have H0 := Lib.hid h0
  clear hv hc h0
  go_enter_defers Try.func17, Try.ntmps17
  go_wp2_with first | (go_at_call 43; refine (popen P _ ss true _ (Hv.out.grow (((Grow.refl w).alloc _).alloc _))).mono ?_; rintro e w1 ⟨hg1, _, hok⟩; obtain ⟨c, sheets, ts, n, rfl, hcs, hwc, _, hts, hn, h12⟩ := hok Hc.out; have hts0 : ts ≠ [] := (fun e => H0.out (by rw [← hts, e]; rfl)); obtain ⟨r0, tr, rfl⟩ : ∃ r0 tr, ts = r0 :: tr := (by cases ts with | nil => exact absurd rfl hts0 | cons x l => exact ⟨x, l, rfl⟩); have Hcs := Lib.hid hcs; obtain ⟨v1, v2, q1, q2, q3, ⟨a3, c3, rfl, q41, q42, q43, q44⟩, q5⟩ := hcs; obtain ⟨b3, o3, rfl, q6⟩ := q44 0 (.string r0) rfl; have Hts := Lib.hid hts; have h12r := h12 r0 (by simp); have q3 : w1.cell? ⟨c, 1, none⟩ = some (.slice (some ⟨b3, o3, none⟩) (tr.length + 1) c3) := q3; have q6 : w1.cell? ⟨b3, o3, none⟩ = some (.string r0) := q6; clear hts hn hok q1 q2 q41 q42 q43 q5 h12; have hc1 : w1.cell? ⟨w.heap.size + 1, 0, none⟩ = some (.int .i64 0) := hg1.keeps (cell_new (by simp) rfl); have hf1 : ∀ o, w1.frozen? ⟨w.heap.size + 1, o, none⟩ = false := (fun o => (hg1.marks _ _ (by simp)).trans (hot_new (by simp))); have hl1 := lt_of_cell hc1) | (go_at_call 44; refine (ptold_yes c sheets (r0 :: tr) _ _ Hcs.out (by simp)).mono ?_; rintro e w2 ⟨rfl, rfl⟩) | (go_at_call 49; refine (pints_any r0 _ (by omega)).mono ?_; rintro e w3 ⟨v3, rfl, hv3, hg3⟩; have hc3 := hg3.keeps hc1; have hf3 : ∀ o, w3.frozen? ⟨w.heap.size + 1, o, none⟩ = false := (fun o => (hg3.marks _ _ hl1).trans (hf1 o)); have hl3 := lt_of_cell hc3)
  have hG1 : Grow w w3 := ((((Grow.refl w).alloc _).alloc _).trans hg1).trans hg3
  have hG : Grow w (w3.setCell ⟨w.heap.size + 1, 0, none⟩ (.int .i64 0)) := hG1.setCell (p := ⟨w.heap.size + 1, 0, none⟩) (by simp) _
  have hV0 : (w3.setCell ⟨w.heap.size + 1, 0, none⟩ (.int .i64 0)).cell? ⟨w.heap.size + 1, 0, none⟩ = some (.int .i64 0) := World.cell?_setCell_same' _ _ _ (by rw [hc3]; rfl)
  have hown : Own (w3.setCell ⟨w.heap.size + 1, 0, none⟩ (.int .i64 0)) w1.heap.size 3 v3 ((intsB r0).map (Value.int .i64)) := hv3.kept (bySet _ (w.heap.size + 1) 0 _) (.inr fun e => by have := hv3.base _ e; omega)
  have hI := hown.ints (by rw [intsB_len]; omega)
  have hh : (truthsR P.toNat ss).1.headD [] = intsB r0 := by rw [← Hts.out]; rfl
  rw [hh]
  have HI := Lib.hid hI
  clear hI hh hown
  refine leaves_cons (f := 48) (args := #[.pointer (some ⟨w.heap.size + 1, 0, none⟩)]) (by simp) (by simp [go_sem]) ?_
  refine (pdefFirst_idle (w.heap.size + 1) _).mono ?_
  rintro e u' w'' ⟨rfl, rfl, rfl⟩
  simp [Leaves, settle, results, Try.results17, go_sem, hV0]
  exact ⟨_, rfl, hG, HI.out⟩
theorem pFirst_any (P : Int) (v : Value) (ss : List (List Int)) (w : World) (hv : IsSheets w v ss) :
    Calls Try.prog 17 #[.agg #[.int .i64 P, v]] w (FirstPost w (errOf P ss true) ((truthsE P ss (errOf P ss true)).1.headD [])) := by
  have hnil : ∀ w' : World, IsInts w' (.slice none 0 0) [] := fun w' => ⟨none, 0, rfl, by simp, by simp, fun i x hx => by simp at hx⟩
  by_cases hc : codeO P ss true = 0
  · have he := errOf_zero' hc
    by_cases h0 : (truthsR P.toNat ss).1 = []
    · rw [if_pos h0] at he
      rw [he]
      exact (pFirst_clash P v ss w hv hc h0).mono fun e w' ⟨h1, h2⟩ => ⟨_, h1, h2, hnil w'⟩
    · rw [if_neg h0] at he
      rw [he]
      exact pFirst_ok P v ss w hv hc h0
  · have he := codeO_errOf hc
    rw [he, show (truthsE P ss (codeO P ss true)).1 = [] by unfold truthsE; rw [if_neg hc]]
    exact (pFirst_bad P v ss w hv hc).mono fun e w' ⟨h1, h2⟩ => ⟨_, h1, h2, hnil w'⟩
end Go.Proofs.Yteijilbdllpbcaa
