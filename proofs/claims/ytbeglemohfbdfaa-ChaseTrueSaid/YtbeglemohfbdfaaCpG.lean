/- Plain laws of chases: a time that is known; the law ChaseAsk. Conditions: none. -/
import Derived.Test.YtbeglemohfbdfaaCpF
namespace Go.Proofs.Ytbeglemohfbdfaa

theorem known_span {E t : Int} (hE : 0 ≤ E) (h1 : 0 ≤ t - E) (h2 : t + E ≤ 200) : loOf E [t - E, t + E] = t ∧ hiOf E [t - E, t + E] = t := by
  constructor
  · show max (max 0 (t - E - E)) (t + E - E) = t
    omega
  · show min (min 203 (t - E + E)) (t + E + E) = t
    omega
theorem clocks_set (E : Int) (ss : List (List Int)) (p : Nat) (l : List Int) : clocksOf E (ss.set p l) = (clocksOf E ss).set p (loOf E l, hiOf E l) := by
  unfold clocksOf
  rw [List.map_set]
theorem known_clocks {E t : Int} {ss : List (List Int)} {p : Nat} (hE : 0 ≤ E) (h1 : 0 ≤ t - E) (h2 : t + E ≤ 200) : clocksOf E (ss.set p [t - E, t + E]) = (clocksOf E ss).set p (t, t) := by
  rw [clocks_set, (known_span hE h1 h2).1, (known_span hE h1 h2).2]
theorem feas_set {ks : List (Int × Int)} {p : Nat} {t : Int} (h : Feas ks) : Feas (ks.set p (t, t)) := by
  rw [← feasB_iff] at h ⊢
  unfold feasB at h ⊢
  rw [List.all_eq_true] at h ⊢
  intro k hk
  rcases List.mem_or_eq_of_mem_set hk with hk | rfl
  · exact h k hk
  · simp
/-- Watches that are not at the edge: what they leave is not either, and no wider than the error allows. -/
theorem mid_range {E : Int} {l : List Int} (hE : 0 ≤ E ∧ E ≤ 3) (h1 : 1 ≤ l.length) (hb : ∀ x ∈ l, 10 ≤ x ∧ x ≤ 190) : 7 ≤ loOf E l ∧ hiOf E l ≤ 193 ∧ hiOf E l ≤ loOf E l + 6 := by
  obtain ⟨n, m, rfl⟩ : ∃ n m, l = n :: m := by
    cases l with
    | nil => simp at h1
    | cons n m => exact ⟨n, m, rfl⟩
  have hn := hb n (by simp)
  have a := loOf_mem (E := E) (l := n :: m) (n := n) (by simp)
  have b := hiOf_mem (E := E) (l := n :: m) (n := n) (by simp)
  omega
end Go.Proofs.Ytbeglemohfbdfaa
