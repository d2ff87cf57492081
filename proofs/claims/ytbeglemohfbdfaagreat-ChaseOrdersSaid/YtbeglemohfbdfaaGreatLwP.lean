/- The law's own function known: a chase in which a pair's time is known. Conditions: sizes. -/
import Derived.Test.YtbeglemohfbdfaaGreatLibS
import Derived.Deep.DeepCutAuto
namespace Go.Proofs.YtbeglemohfbdfaaGreat
open Go.RowKit Go.Instr

theorem SheetsAt.vals {w : World} {a : Option Addr} {ss : List (List Int)} (h : SheetsAt w a ss) : ∃ vs : List Value, vs.length = ss.length ∧ RowAt w a vs ∧ ∀ (i : Nat) (v : Value) (s : List Int), vs[i]? = some v → ss[i]? = some s → IsInts w v s := by
  cases ss with
  | nil => exact ⟨[], rfl, fun i x hx => by simp at hx, fun i v s hv => by simp at hv⟩
  | cons s0 ss =>
    obtain ⟨b, o, v0, ha, _, _⟩ := h 0 s0 rfl
    refine ⟨(List.range (s0 :: ss).length).map fun i => (w.cell? ⟨b, o + i, none⟩).getD undef, by simp, fun i x hx => ?_, fun i v s hv hs => ?_⟩
    · rw [List.getElem?_map] at hx
      obtain ⟨j, hj, rfl⟩ := Option.map_eq_some_iff.1 hx
      have hj2 := List.getElem?_eq_some_iff.1 hj
      obtain ⟨hj3, hj4⟩ := hj2
      simp at hj3 hj4
      subst hj4
      obtain ⟨b', o', v', ha', hc', _⟩ := h i (s0 :: ss)[i] (by simp; try omega)
      rw [ha] at ha'; cases ha'
      exact ⟨b, o, ha, by rw [hc']; rfl⟩
    · obtain ⟨b', o', v', ha', hc', hi'⟩ := h i s hs
      rw [ha] at ha'; cases ha'
      rw [List.getElem?_map] at hv
      obtain ⟨j, hj, rfl⟩ := Option.map_eq_some_iff.1 hv
      obtain ⟨hj3, hj4⟩ := List.getElem?_eq_some_iff.1 hj
      simp at hj3 hj4
      subst hj4
      rw [hc']; exact hi'
theorem ints_slice {w : World} {v : Value} {l : List Int} (h : IsInts w v l) : ∃ a cap, v = .slice a l.length cap := by
  obtain ⟨a, cap, h1, _⟩ := h
  exact ⟨a, cap, h1⟩
theorem pinfo_ints7 : (Tryz.prog.info? 38).map (fun i => (i.zero, i.size, i.bytes)) = some (some (.slice none 0 0), 1, 24) := by kernel_rfl
theorem own_sheets {w : World} {B E : Nat} {v : Value} {vs : List Value} {ss : List (List Int)} (h : Own w B E v vs) (hl : vs.length = ss.length) (hi : ∀ (i : Nat) (x : Value) (s : List Int), vs[i]? = some x → ss[i]? = some s → IsInts w x s) (hs : ss.length * 24 ≤ 140737488355328) : IsSheets w v ss := by
  obtain ⟨a, cap, rfl, h1, _, h3⟩ := h.row
  rw [hl] at h1
  refine ⟨a, cap, by rw [hl], h1, hs, fun i s hsi => ?_⟩
  have hlt : i < vs.length := by rw [hl]; exact (List.getElem?_eq_some_iff.1 hsi).1
  obtain ⟨b, o, ha, hc⟩ := h3 i vs[i] (List.getElem?_eq_getElem hlt)
  exact ⟨b, o, vs[i], ha, hc, hi i _ s (List.getElem?_eq_getElem hlt) hsi⟩
end Go.Proofs.YtbeglemohfbdfaaGreat
