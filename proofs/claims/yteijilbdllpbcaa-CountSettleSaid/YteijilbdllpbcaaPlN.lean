/- Plain laws of CountSettle: the same for both directions, settled just if the span says so, and what a passing that is told says. Conditions: none. -/
import Derived.Test.YteijilbdllpbcaaPlL
import Derived.Test.YteijilbdllpbcaaPlM
import Derived.Test.YteijilbdllpbcaaPhJ
namespace Go.Proofs.Yteijilbdllpbcaa
open Go.RowKit

theorem signL_neg (p q : Int) (t : List Int) : signL q p t = -signL p q t := by
  unfold signL signOf
  rw [leadOf_neg]
  omega
theorem consB_neg {f g h : List Int → Int} (T : List (List Int)) (hg : ∀ t, h t = -g t) : consB f h T = consB f g T := by
  rw [Bool.eq_iff_iff, consB_iff, consB_iff]
  unfold Cons
  constructor
  · intro k r hr s hs e
    have := k r hr s hs e
    rw [hg, hg] at this
    omega
  · intro k r hr s hs e
    rw [hg, hg, k r hr s hs e]
theorem settleGo_sym (T : List (List Int)) (p q : Int) : ∀ (f n : Nat), settleGo T q p f n = settleGo T p q f n
  | 0, _ => rfl
  | f + 1, n => by
    unfold settleGo
    rw [consB_neg T (signL_neg p q), settleGo_sym T p q f (n + 1)]
theorem settleZ_sym (T : List (List Int)) (p q : Int) : settleZ T q p = settleZ T p q := by
  unfold settleZ
  rw [consB_neg T (signL_neg p q), settleGo_sym]
theorem pairsB_sym (P p q : Int) : pairsB P q p = pairsB P p q := by
  rw [Bool.eq_iff_iff]
  unfold pairsB
  simp only [Bool.and_eq_true, bne_iff_ne, ne_eq]
  constructor
  · rintro ⟨⟨a, b⟩, c⟩; exact ⟨⟨b, a⟩, fun e => c e.symm⟩
  · rintro ⟨⟨a, b⟩, c⟩; exact ⟨⟨b, a⟩, fun e => c e.symm⟩
theorem settleR_sym (P : Int) (ss : List (List Int)) (p q : Int) : settleR P ss q p = settleR P ss p q := by
  unfold settleR
  rw [pairsB_sym, settleZ_sym]
theorem settle_span {T : List (List Int)} (hT : T ≠ []) (p q : Int) : consB (fun _ => 0) (signL p q) T = true ↔ (0 < (spanOf (leadOf p q) T).1 ∨ (spanOf (leadOf p q) T).2 < 0 ∨ ((spanOf (leadOf p q) T).1 = 0 ∧ (spanOf (leadOf p q) T).2 = 0)) := by
  obtain ⟨h1, ⟨r, hr, h2⟩, s, hs, h3⟩ := spanOf_spec (leadOf p q) hT
  have h4 := h1 r hr
  have h5 := h1 s hs
  rw [consB_iff]
  unfold Cons
  constructor
  · intro k
    have := k r hr s hs rfl
    unfold signL signOf at this
    rw [h2, h3] at this
    omega
  · intro k x hx y hy _
    have a := h1 x hx
    have b := h1 y hy
    unfold signL signOf
    omega
theorem settleGo_spec (T : List (List Int)) (p q : Int) : ∀ (f n : Nat), settleGo T p q f n = (0, 4) ∨ ∃ k : Nat, k < n + f ∧ settleGo T p q f n = ((k : Int), 0) ∧ consB (atOf k) (signL p q) T = true
  | 0, _ => .inl rfl
  | f + 1, n => by
    unfold settleGo
    by_cases h : consB (atOf n) (signL p q) T = true
    · rw [if_pos h]
      exact .inr ⟨n, by omega, rfl, h⟩
    · rw [if_neg h]
      rcases settleGo_spec T p q f (n + 1) with h1 | ⟨k, hk, h1, h2⟩
      · exact .inl h1
      · exact .inr ⟨k, by omega, h1, h2⟩
/-- What Settle tells where there is a truth. -/
theorem settle_cases {T : List (List Int)} (hT : T ≠ []) (p q : Int) :
    ((settleZ T p q).2 = 11 ∧ (settleZ T p q).1 = 0 ∧ (0 < (spanOf (leadOf p q) T).1 ∨ (spanOf (leadOf p q) T).2 < 0 ∨ ((spanOf (leadOf p q) T).1 = 0 ∧ (spanOf (leadOf p q) T).2 = 0))) ∨
    ((settleZ T p q).2 = 4 ∧ (settleZ T p q).1 = 0 ∧ ¬ (0 < (spanOf (leadOf p q) T).1 ∨ (spanOf (leadOf p q) T).2 < 0 ∨ ((spanOf (leadOf p q) T).1 = 0 ∧ (spanOf (leadOf p q) T).2 = 0))) ∨
    ∃ k : Nat, k < 12 ∧ (settleZ T p q).1 = k ∧ (settleZ T p q).2 = 0 ∧ ¬ (0 < (spanOf (leadOf p q) T).1 ∨ (spanOf (leadOf p q) T).2 < 0 ∨ ((spanOf (leadOf p q) T).1 = 0 ∧ (spanOf (leadOf p q) T).2 = 0)) ∧
      ∀ r ∈ T, ∀ s ∈ T, atOf k r = atOf k s → signL p q r = signL p q s := by
  rw [← settle_span hT]
  by_cases h : consB (fun _ => 0) (signL p q) T = true
  · refine .inl ?_
    unfold settleZ
    rw [if_pos h]
    exact ⟨rfl, rfl, h⟩
  · refine .inr ?_
    unfold settleZ
    rw [if_neg h]
    rcases settleGo_spec T p q 12 0 with h1 | ⟨k, hk, h1, h2⟩
    · rw [h1]
      exact .inl ⟨rfl, rfl, h⟩
    · rw [h1]
      exact .inr ⟨k, by omega, rfl, rfl, h, (consB_iff _ _ _).1 h2⟩
theorem settleR_N {P : Int} {ss : List (List Int)} {p q : Int} (h : validB P ss = true) (hp : 0 ≤ p ∧ p < P) (hq : 0 ≤ q ∧ q < P) (hne : p ≠ q) (hT : (truthsR P.toNat ss).1 ≠ []) : settleR P ss p q = settleZ (truthsR P.toNat ss).1 p q := by
  have he := errOf_ok (b := pairsB P p q) h (pairsB_true hp hq hne) hT
  unfold settleR
  rw [if_pos he]
/-- The other pair: not the first one, whatever number tells it. -/
theorem other_pair {P a b : Int} (hP : 2 ≤ P) (ha : 0 ≤ a) (hb : 0 ≤ b) : 0 ≤ a.tmod P ∧ a.tmod P < P ∧ 0 ≤ b.tmod (P - 1) ∧ b.tmod (P - 1) < P ∧ 0 ≤ (a.tmod P + 1 + b.tmod (P - 1)).tmod P ∧ (a.tmod P + 1 + b.tmod (P - 1)).tmod P < P ∧ a.tmod P ≠ (a.tmod P + 1 + b.tmod (P - 1)).tmod P := by
  have h1 := Int.tmod_nonneg P ha
  have h2 := Int.tmod_lt_of_pos a (show 0 < P by omega)
  have h3 := Int.tmod_nonneg (P - 1) hb
  have h4 := Int.tmod_lt_of_pos b (show 0 < P - 1 by omega)
  obtain ⟨x, hx⟩ : ∃ x, a.tmod P = x := ⟨_, rfl⟩
  obtain ⟨y, hy⟩ : ∃ y, b.tmod (P - 1) = y := ⟨_, rfl⟩
  rw [hx] at h1 h2
  rw [hy] at h3 h4
  rw [hx, hy]
  have h5 := Int.tmod_nonneg P (show 0 ≤ x + 1 + y by omega)
  have h6 := Int.tmod_lt_of_pos (x + 1 + y) (show 0 < P by omega)
  refine ⟨h1, h2, h3, by omega, h5, h6, fun e => ?_⟩
  rw [Int.tmod_eq_emod_of_nonneg (show 0 ≤ x + 1 + y by omega)] at e
  by_cases hlt : x + 1 + y < P
  · rw [Int.emod_eq_of_lt (by omega) hlt] at e
    omega
  · rw [← Int.sub_emod_right, Int.emod_eq_of_lt (by omega) (by omega)] at e
    omega
/-- What Settle and Lead tell, of a count that is valid and two of its pairs. -/
theorem settle_facts {P : Int} {ss : List (List Int)} {p q : Int} (h : validB P ss = true) (hp : 0 ≤ p ∧ p < P) (hq : 0 ≤ q ∧ q < P) (hne : p ≠ q) :
    ((settleR P ss p q).2 = 10 ∧ (settleR P ss p q).1 = 0 ∧ errOf P ss (pairsB P p q) = 10) ∨
    ((truthsR P.toNat ss).1 ≠ [] ∧ errOf P ss (pairsB P p q) = 0 ∧
      (((settleR P ss p q).2 = 11 ∧ (settleR P ss p q).1 = 0 ∧ (0 < (leadR P ss p q).1 ∨ (leadR P ss p q).2 < 0 ∨ ((leadR P ss p q).1 = 0 ∧ (leadR P ss p q).2 = 0))) ∨
      ((settleR P ss p q).2 = 4 ∧ (settleR P ss p q).1 = 0 ∧ ¬ (0 < (leadR P ss p q).1 ∨ (leadR P ss p q).2 < 0 ∨ ((leadR P ss p q).1 = 0 ∧ (leadR P ss p q).2 = 0))) ∨
      ∃ k : Nat, k < 12 ∧ (settleR P ss p q).1 = k ∧ (settleR P ss p q).2 = 0 ∧ ¬ (0 < (leadR P ss p q).1 ∨ (leadR P ss p q).2 < 0 ∨ ((leadR P ss p q).1 = 0 ∧ (leadR P ss p q).2 = 0)) ∧
        ∀ r ∈ (truthsR P.toNat ss).1, ∀ s ∈ (truthsR P.toNat ss).1, atOf k r = atOf k s → signL p q r = signL p q s)) := by
  by_cases hT : (truthsR P.toNat ss).1 = []
  · left
    have he : errOf P ss (pairsB P p q) = 10 := by unfold errOf; rw [if_neg (by simp [h]), if_neg (by simp [pairsB_true hp hq hne]), if_pos hT]
    unfold settleR
    rw [he]
    exact ⟨rfl, rfl, rfl⟩
  · right
    obtain ⟨h1, h2⟩ := leadR_N h hp hq hne hT
    rw [h1, settleR_N h hp hq hne hT]
    exact ⟨hT, h2, settle_cases hT p q⟩
end Go.Proofs.Yteijilbdllpbcaa
