/- First again: what it returns is the call's own. Conditions: sizes. -/
import Derived.Test.YteijilbdllpbcaaPgS
namespace Go.Proofs.Yteijilbdllpbcaa
open Go.RowKit

def FirstOwn (w : World) (c : Int) (l : List Int) (e : Ending) (w' : World) : Prop :=
  ∃ v, e = .returned (.tuple #[v, .int .i64 c]) ∧ Grow w w' ∧ Own w' w.heap.size 3 v (l.map (Value.int .i64))
set_option maxRecDepth 100000 in
theorem pFirst_okOwn (P : Int) (v : Value) (ss : List (List Int)) (w : World) (hv : IsSheets w v ss) (hc : codeO P ss true = 0) (h0 : (truthsR P.toNat ss).1 ≠ []) :
    Calls Try.prog 17 #[.agg #[.int .i64 P, v]] w (FirstOwn w 0 ((truthsR P.toNat ss).1.headD [])) := by
  have hmf : ∀ (fn : Fn) (first cap : Array Value) (w : World), (Instr.makeFunc fn first cap).run Try.prog w = .ok (.func fn first cap) w := fun _ _ _ _ => rfl
  obtain ⟨a, cap, rfl, hcap, hlen, hrow⟩ := id hv
  have Hv := Lib.hid hv
  have Hc := Lib.hid hc
  have H0 := Lib.hid h0
  clear hv hc h0
  go_enter_defers Try.func17, Try.ntmps17
  go_wp2_with first | (go_at_call 43; refine (popen P _ ss true _ (Hv.out.grow (((Grow.refl w).alloc _).alloc _))).mono ?_; rintro e w1 ⟨hg1, _, hok⟩; obtain ⟨c, sheets, ts, n, rfl, hcs, hwc, _, hts, hn, h12⟩ := hok Hc.out; have hts0 : ts ≠ [] := (fun e => H0.out (by rw [← hts, e]; rfl)); obtain ⟨r0, tr, rfl⟩ : ∃ r0 tr, ts = r0 :: tr := (by cases ts with | nil => exact absurd rfl hts0 | cons x l => exact ⟨x, l, rfl⟩); have Hcs := Lib.hid hcs; obtain ⟨v1, v2, q1, q2, q3, ⟨a3, c3, rfl, q41, q42, q43, q44⟩, q5⟩ := hcs; obtain ⟨b3, o3, rfl, q6⟩ := q44 0 (.string r0) rfl; have Hts := Lib.hid hts; have h12r := h12 r0 (by simp); have q3 : w1.cell? ⟨c, 1, none⟩ = some (.slice (some ⟨b3, o3, none⟩) (tr.length + 1) c3) := q3; have q6 : w1.cell? ⟨b3, o3, none⟩ = some (.string r0) := q6; clear hts hn hok q1 q2 q41 q42 q43 q5 h12; have hc1 : w1.cell? ⟨w.heap.size + 1, 0, none⟩ = some (.int .i64 0) := hg1.keeps (cell_new (by simp) rfl); have hf1 : ∀ o, w1.frozen? ⟨w.heap.size + 1, o, none⟩ = false := (fun o => (hg1.marks _ _ (by simp)).trans (hot_new (by simp))); have hl1 := lt_of_cell hc1) | (go_at_call 44; refine (ptold_yes c sheets (r0 :: tr) _ _ Hcs.out (by simp)).mono ?_; rintro e w2 ⟨rfl, rfl⟩) | (go_at_call 49; refine (pints_any r0 _ (by omega)).mono ?_; rintro e w3 ⟨v3, rfl, hv3, hg3⟩; have hc3 := hg3.keeps hc1; have hf3 : ∀ o, w3.frozen? ⟨w.heap.size + 1, o, none⟩ = false := (fun o => (hg3.marks _ _ hl1).trans (hf1 o)); have hl3 := lt_of_cell hc3)
  have hG1 : Grow w w3 := ((((Grow.refl w).alloc _).alloc _).trans hg1).trans hg3
  have hG : Grow w (w3.setCell ⟨w.heap.size + 1, 0, none⟩ (.int .i64 0)) := hG1.setCell (p := ⟨w.heap.size + 1, 0, none⟩) (by simp) _
  have hV0 : (w3.setCell ⟨w.heap.size + 1, 0, none⟩ (.int .i64 0)).cell? ⟨w.heap.size + 1, 0, none⟩ = some (.int .i64 0) := World.cell?_setCell_same' _ _ _ (by rw [hc3]; rfl)
  have hown : Own (w3.setCell ⟨w.heap.size + 1, 0, none⟩ (.int .i64 0)) w1.heap.size 3 v3 ((intsB r0).map (Value.int .i64)) := hv3.kept (bySet _ (w.heap.size + 1) 0 _) (.inr fun e => by have := hv3.base _ e; omega)
  have hI := hown.lower (base' := w.heap.size) (by omega)
  have hh : (truthsR P.toNat ss).1.headD [] = intsB r0 := by rw [← Hts.out]; rfl
  rw [hh]
  have HI := Lib.hid hI
  clear hI hh hown
  refine leaves_cons (f := 48) (args := #[.pointer (some ⟨w.heap.size + 1, 0, none⟩)]) (by simp) (by simp [go_sem]) ?_
  refine (pdefFirst_idle (w.heap.size + 1) _).mono ?_
  rintro e u' w'' ⟨rfl, rfl, rfl⟩
  simp [Leaves, settle, results, Try.results17, go_sem, hV0]
  exact ⟨_, rfl, hG, HI.out⟩
theorem pFirst_own (P : Int) (v : Value) (ss : List (List Int)) (w : World) (hv : IsSheets w v ss) :
    Calls Try.prog 17 #[.agg #[.int .i64 P, v]] w (FirstOwn w (errOf P ss true) ((truthsE P ss (errOf P ss true)).1.headD [])) := by
  by_cases hc : codeO P ss true = 0
  · have he := errOf_zero' hc
    by_cases h0 : (truthsR P.toNat ss).1 = []
    · rw [if_pos h0] at he
      rw [he]
      exact (pFirst_clash P v ss w hv hc h0).mono fun e w' ⟨h1, h2⟩ => ⟨_, h1, h2, Own.nil _ _ _⟩
    · rw [if_neg h0] at he
      rw [he]
      exact pFirst_okOwn P v ss w hv hc h0
  · have he := codeO_errOf hc
    rw [he, show (truthsE P ss (codeO P ss true)).1 = [] by unfold truthsE; rw [if_neg hc]]
    exact (pFirst_bad P v ss w hv hc).mono fun e w' ⟨h1, h2⟩ => ⟨_, h1, h2, Own.nil _ _ _⟩
end Go.Proofs.Yteijilbdllpbcaa
