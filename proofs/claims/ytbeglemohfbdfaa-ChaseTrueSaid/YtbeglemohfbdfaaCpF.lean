/- Plain laws of chases: the law ChaseWrong. Conditions: none. -/
import Derived.Test.YtbeglemohfbdfaaCpE
namespace Go.Proofs.Ytbeglemohfbdfaa

theorem keepW_sub : ∀ (l : List Int) (s : Nat), ∀ x ∈ keepW l s, x ∈ l
  | [], _, _, h => by simp [keepW] at h
  | n :: l, s, x, h => by
    unfold keepW at h
    split at h
    · rcases List.mem_cons.1 h with rfl | h
      · simp
      · exact List.mem_cons_of_mem _ (keepW_sub l _ x h)
    · exact List.mem_cons_of_mem _ (keepW_sub l _ x h)
theorem keepW_len : ∀ (l : List Int) (s : Nat), (keepW l s).length ≤ l.length
  | [], _ => by simp [keepW]
  | n :: l, s => by
    have := keepW_len l (s / 2)
    unfold keepW
    split <;> simp <;> omega
theorem right_empty {E : Int} {l : List Int} {s : Nat} (h : keepW l s = []) : rightB E l s = true := by
  unfold rightB
  rw [h]
  rfl
/-- The watches that must be wrong are not all. -/
theorem wrong_lt {E : Int} {l : List Int} (hE : 0 ≤ E) (h1 : 1 ≤ l.length) (h3 : l.length ≤ 3) (hb : ∀ x ∈ l, 0 ≤ x ∧ x ≤ 200) : wrongV E l < 2 ^ l.length - 1 := by
  have hw := wrong_is (E := E) h3
  have hp : 2 ≤ 2 ^ l.length := Nat.le_trans (by decide : 2 ≤ 2 ^ 1) (Nat.pow_le_pow_right (by decide) h1)
  obtain ⟨n, m, rfl⟩ : ∃ n m, l = n :: m := by
    cases l with
    | nil => simp at h1
    | cons n m => exact ⟨n, m, rfl⟩
  have hn := hb n (by simp)
  have hr : rightB E (n :: m) (2 ^ (n :: m).length - 2) = true := by
    refine rightB_iff.2 ⟨n, by omega, fun i x hi0 hbit => ?_⟩
    cases i with
    | zero => simp at hi0; subst hi0; omega
    | succ i =>
      exfalso
      have hi : i < m.length := by
        have := (List.getElem?_eq_some_iff.1 hi0).1
        simpa using this
      have e : 2 ^ (n :: m).length - 2 = 2 * (2 ^ m.length - 1) := by simp [Nat.pow_succ]; omega
      rw [e, Nat.testBit_succ] at hbit
      rw [show 2 * (2 ^ m.length - 1) / 2 = 2 ^ m.length - 1 by omega, Nat.testBit_two_pow_sub_one] at hbit
      simp [hi] at hbit
  have hle := hw.least _ (by omega) hr
  have hlt := hw.lt
  have hs := size_le (l := n :: m) h3 (o := 2 ^ (n :: m).length - 2) (by omega)
  have hne : wrongV E (n :: m) ≠ 2 ^ (n :: m).length - 1 := by
    intro e
    rw [e] at hle
    rcases hs with hs | hs
    · omega
    · omega
  omega
/-- Without any one of them the others cannot all be right. -/
theorem wrong_need {E : Int} {l : List Int} (h3 : l.length ≤ 3) {i : Nat} (hi : i < l.length) (hbit : (wrongV E l).testBit i = true) : wrongV E l - 2 ^ i < wrongV E l ∧ rightB E l (wrongV E l - 2 ^ i) = false := by
  have hw := wrong_is (E := E) h3
  have hge : 2 ^ i ≤ wrongV E l := Nat.ge_two_pow_of_testBit hbit
  have hpos : 0 < 2 ^ i := Nat.two_pow_pos i
  refine ⟨by omega, ?_⟩
  cases hr : rightB E l (wrongV E l - 2 ^ i) with
  | false => rfl
  | true =>
    exfalso
    have := hw.least _ (Nat.lt_of_le_of_lt (Nat.sub_le _ _) hw.lt) hr
    have h8 : wrongV E l < 8 := Nat.lt_of_lt_of_le hw.lt (Nat.le_trans (Nat.pow_le_pow_right (by decide) h3) (by decide))
    have key : ∀ s : Fin 8, ∀ i : Fin 3, s.1.testBit i.1 = true → sizeN (s.1 - 2 ^ i.1) < sizeN s.1 := by decide
    have := key ⟨_, h8⟩ ⟨i, by omega⟩ hbit
    dsimp only at this
    omega
theorem wrong_other {E : Int} {l : List Int} (h3 : l.length ≤ 3) {o : Nat} (ho : o < 2 ^ l.length) (hr : rightB E l o = true) : ¬ (sizeN o < sizeN (wrongV E l)) ∧ ¬ (sizeN o = sizeN (wrongV E l) ∧ o < wrongV E l) := by
  have := (wrong_is (E := E) h3).least o ho hr
  omega
/-- No watch of any pair must be wrong just if there is a truth. -/
theorem none_feas {E : Int} {ss : List (List Int)} (h : ∀ l ∈ ss, l.length ≤ 3) : (ss.all fun l => decide (wrongV E l = 0)) = feasB (clocksOf E ss) := by
  unfold feasB clocksOf
  rw [List.all_map, Bool.eq_iff_iff, List.all_eq_true, List.all_eq_true]
  constructor
  · intro k l hl
    have := k l hl
    simp only [decide_eq_true_eq, Function.comp] at this ⊢
    exact (wrong_zero (h l hl)).1 this
  · intro k l hl
    have := k l hl
    simp only [decide_eq_true_eq, Function.comp] at this ⊢
    exact (wrong_zero (h l hl)).2 this
end Go.Proofs.Ytbeglemohfbdfaa
