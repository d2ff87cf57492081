/- Plain: what the law CountFirst needs of the first truth. Conditions: a valid count. -/
import Derived.Test.YteijilbdllpbcaaPlH
namespace Go.Proofs.Yteijilbdllpbcaa

theorem raceB_all {P : Int} {l : List Int} : raceB P l = true ↔ ∀ x ∈ l, 0 ≤ x ∧ x < P := by
  unfold raceB
  rw [List.all_eq_true]
  constructor
  · intro h x hx
    have := inB_true.1 (h x hx)
    omega
  · intro h x hx
    have := h x hx
    exact inB_true.2 (by omega)
theorem valid_parts {P : Int} {ss : List (List Int)} (h : validB P ss = true) : (1 ≤ P ∧ P ≤ 4) ∧ (1 ≤ ss.length ∧ ss.length ≤ 4) ∧ ∀ s ∈ ss, s.length ≤ 6 ∧ ∀ x ∈ s, 0 ≤ x ∧ x < P := by
  unfold validB at h
  rw [Bool.and_eq_true, Bool.and_eq_true, inB_true, inB_true, List.all_eq_true] at h
  obtain ⟨⟨h1, h2⟩, h3⟩ := h
  refine ⟨h1, by omega, fun s hs => ?_⟩
  have := h3 s hs
  rw [Bool.and_eq_true, decide_eq_true_eq, raceB_all] at this
  exact this
/-- A count without truths has more than two sheets. -/
theorem none_three {P : Int} {ss : List (List Int)} (h : validB P ss = true) (hT : (truthsR P.toNat ss).1 = []) : 2 < ss.length := by
  obtain ⟨h1, h2, h3⟩ := valid_parts h
  match ss, h2 with
  | [s], _ => exact absurd hT (List.cons_ne_nil _ _)
  | [s, t], _ =>
    have hs := h3 s (by simp)
    have ht := h3 t (by simp)
    exact absurd hT (two_least P.toNat s t [] hs.1 ht.1 (by omega) (fun x hx => by have := hs.2 x hx; omega) (fun x hx => by have := ht.2 x hx; omega) (by simp) (by simp)).2.2
  | _ :: _ :: _ :: _, _ => simp
theorem truth_race {P : Int} {ss : List (List Int)} (h : validB P ss = true) {r : List Int} (hr : r ∈ (truthsR P.toNat ss).1) : raceB P r = true := by
  obtain ⟨h1, h2, h3⟩ := valid_parts h
  rw [raceB_all]
  match ss with
  | [] => cases hr
  | [s] =>
    rw [List.mem_singleton.1 hr]
    exact (h3 s (by simp)).2
  | s :: t :: rest =>
    intro x hx
    have := (truths_mem P.toNat s t rest r hr).2 x hx
    omega
theorem first_mem {P : Nat} {ss : List (List Int)} (h : (truthsR P ss).1 ≠ []) : (truthsR P ss).1.headD [] ∈ (truthsR P ss).1 := by
  cases hT : (truthsR P ss).1 with
  | nil => exact absurd hT h
  | cons x l => simp
theorem isE_race {P : Int} {ss : List (List Int)} {r : List Int} (h : validB P ss = true) (hr : raceB P r = true) : isE P ss r = 0 := by
  unfold isE
  rw [h, hr]
  rfl
theorem isR_mem {P : Int} {ss : List (List Int)} {r : List Int} (h : validB P ss = true) (hr : raceB P r = true) : isR P ss r = true ↔ r ∈ (truthsR P.toNat ss).1 := by
  unfold isR
  rw [if_pos (isE_race h hr), List.contains_iff_mem]
/-- Where a race is not before another one, and they are alike up to there. -/
theorem lex_at : ∀ (l m : List Int) (k : Nat), l = m ∨ l < m → k < l.length → l.take k = m.take k → ∃ x y, l[k]? = some x ∧ m[k]? = some y ∧ x ≤ y
  | [], _, k, _, hk, _ => absurd hk (by simp)
  | x :: l, [], _, h, _, _ => by
    rcases h with h | h
    · cases h
    · exact absurd h (List.not_lt_nil _)
  | x :: l, y :: m, 0, h, _, _ => by
    refine ⟨x, y, rfl, rfl, ?_⟩
    rcases h with h | h
    · injection h with h; omega
    · rw [List.cons_lt_cons_iff] at h; omega
  | x :: l, y :: m, k + 1, h, hk, he => by
    have hh : l = m ∨ l < m := by
      have he0 : x = y := by simp at he; exact he.1
      rcases h with h | h
      · injection h with _ h; exact .inl h
      · rw [List.cons_lt_cons_iff] at h
        rcases h with h | h
        · omega
        · exact .inr h.2
    obtain ⟨a, b, h1, h2, h3⟩ := lex_at l m k hh (by simpa using hk) (by simp at he; exact he.2)
    exact ⟨a, b, by simpa using h1, by simpa using h2, h3⟩
end Go.Proofs.Yteijilbdllpbcaa
