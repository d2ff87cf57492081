/- Plain: how the document's Laps and Settle say it: sets by division, races two by two. Conditions: none. -/
import Derived.Test.YteijilbdllpbcaaPhJ
namespace Go.Proofs.Yteijilbdllpbcaa

theorem or_two_pow (a n : Nat) : a ||| 2 ^ n = if a / 2 ^ n % 2 = 1 then a else a + 2 ^ n := by
  have hb : a.testBit n = decide (a / 2 ^ n % 2 = 1) := Nat.testBit_eq_decide_div_mod_eq
  split
  · rename_i h
    rw [decide_eq_true h] at hb
    refine Nat.eq_of_testBit_eq fun i => ?_
    rw [Nat.testBit_or, Nat.testBit_two_pow]
    by_cases hi : n = i
    · subst hi; simp [hb]
    · simp [hi]
  · rename_i h
    have hq : a / 2 ^ n % 2 = 0 := by omega
    have hp : 0 < 2 ^ n := Nat.two_pow_pos n
    -- a = 2^n * (2*c) + r
    have h1 : a = 2 ^ n * (a / 2 ^ n) + a % 2 ^ n := (Nat.div_add_mod a (2 ^ n)).symm
    have hr : a % 2 ^ n < 2 ^ n := Nat.mod_lt _ hp
    have h2 : a + 2 ^ n = 2 ^ n * (a / 2 ^ n + 1) + a % 2 ^ n := by
      rw [Nat.mul_add]; omega
    rw [h2]
    refine Nat.eq_of_testBit_eq fun i => ?_
    rw [Nat.testBit_or, Nat.testBit_two_pow, Nat.testBit_two_pow_mul_add _ hr]
    conv => lhs; lhs; rw [h1]
    rw [Nat.testBit_two_pow_mul_add _ hr]
    by_cases hi : i < n
    · simp [hi, show n ≠ i by omega]
    · simp only [hi, if_false]
      by_cases he : n = i
      · subst he
        simp
        omega
      · obtain ⟨j, hj⟩ : ∃ j, i - n = j + 1 := ⟨i - n - 1, by omega⟩
        rw [hj]
        simp [he, Nat.testBit_succ]
        rw [show a / 2 ^ n = 2 * (a / 2 ^ n / 2) by omega, Nat.mul_add_div (by decide)]
        simp
theorem setOfN_step (l : List Nat) (n : Nat) : setOfN (l ++ [n]) = if setOfN l / 2 ^ n % 2 = 1 then setOfN l else setOfN l + 2 ^ n := by
  rw [setOfN_snoc, or_two_pow]
theorem consB_snoc {α : Type} (f g : α → Int) (l : List α) (x : α) : consB f g (l ++ [x]) = (consB f g l && l.all fun r => !(f x == f r) || g x == g r) := by
  rw [Bool.eq_iff_iff, Bool.and_eq_true, consB_iff, consB_iff]
  unfold Cons
  simp only [List.mem_append, List.mem_singleton, List.all_eq_true, Bool.or_eq_true, Bool.not_eq_true', beq_eq_false_iff_ne, beq_iff_eq]
  constructor
  · intro h
    exact ⟨fun r hr s hs => h r (.inl hr) s (.inl hs), fun r hr => by
      by_cases he : f x = f r
      · exact .inr (h x (.inr rfl) r (.inl hr) he)
      · exact .inl he⟩
  · rintro ⟨h1, h2⟩ r hr s hs he
    rcases hr with hr | rfl
    · rcases hs with hs | rfl
      · exact h1 r hr s hs he
      · exact ((h2 r hr).resolve_left fun k => k he.symm).symm
    · rcases hs with hs | rfl
      · exact (h2 s hs).resolve_left fun k => k he
      · rfl
theorem consB_take {α : Type} (f g : α → Int) (l : List α) (k : Nat) (h : consB f g (l.take k) = false) : consB f g l = false := by
  by_cases hc : consB f g l = true
  · exfalso
    rw [consB_iff] at hc
    have : consB f g (l.take k) = true := (consB_iff _ _ _).2 fun r hr s hs he => hc r (List.mem_of_mem_take hr) s (List.mem_of_mem_take hs) he
    rw [this] at h; cases h
  · simpa using hc
end Go.Proofs.Yteijilbdllpbcaa
