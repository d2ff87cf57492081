/- Plain laws of chases: what watches leave, and which must be wrong. Conditions: none. -/
import Derived.Test.YtbeglemohfbdfaaCpB
namespace Go.Proofs.Ytbeglemohfbdfaa

def loOf (E : Int) (l : List Int) : Int := l.foldl (fun a n => max a (n - E)) 0
def hiOf (E : Int) (l : List Int) : Int := l.foldl (fun a n => min a (n + E)) 203
theorem loOf_snoc (E : Int) (l : List Int) (n : Int) : loOf E (l ++ [n]) = max (loOf E l) (n - E) := by simp [loOf]
theorem hiOf_snoc (E : Int) (l : List Int) (n : Int) : hiOf E (l ++ [n]) = min (hiOf E l) (n + E) := by simp [hiOf]
theorem foldl_max (E : Int) : ∀ (l : List Int) (a x : Int), l.foldl (fun a n => max a (n - E)) a ≤ x ↔ a ≤ x ∧ ∀ n ∈ l, n - E ≤ x
  | [], a, x => by simp
  | m :: l, a, x => by
    simp only [List.foldl_cons, foldl_max E l, List.mem_cons, forall_eq_or_imp, Int.max_le, and_assoc]
theorem foldl_min (E : Int) : ∀ (l : List Int) (a x : Int), x ≤ l.foldl (fun a n => min a (n + E)) a ↔ x ≤ a ∧ ∀ n ∈ l, x ≤ n + E
  | [], a, x => by simp
  | m :: l, a, x => by
    simp only [List.foldl_cons, foldl_min E l, List.mem_cons, forall_eq_or_imp, Int.le_min, and_assoc]
theorem loOf_le {E : Int} {l : List Int} {x : Int} : loOf E l ≤ x ↔ 0 ≤ x ∧ ∀ n ∈ l, n - E ≤ x := foldl_max E l 0 x
theorem le_hiOf {E : Int} {l : List Int} {x : Int} : x ≤ hiOf E l ↔ x ≤ 203 ∧ ∀ n ∈ l, x ≤ n + E := foldl_min E l 203 x
theorem loOf_nonneg (E : Int) (l : List Int) : 0 ≤ loOf E l := (loOf_le.1 (Int.le_refl _)).1
theorem hiOf_le (E : Int) (l : List Int) : hiOf E l ≤ 203 := (le_hiOf.1 (Int.le_refl _)).1
theorem loOf_mem {E : Int} {l : List Int} {n : Int} (h : n ∈ l) : n - E ≤ loOf E l := (loOf_le.1 (Int.le_refl _)).2 n h
theorem hiOf_mem {E : Int} {l : List Int} {n : Int} (h : n ∈ l) : hiOf E l ≤ n + E := (le_hiOf.1 (Int.le_refl _)).2 n h
/-- The span of times that all watches leave. -/
theorem span_iff {E : Int} {l : List Int} {x : Int} : (loOf E l ≤ x ∧ x ≤ hiOf E l) ↔ (0 ≤ x ∧ x ≤ 203) ∧ ∀ n ∈ l, n - E ≤ x ∧ x ≤ n + E := by
  rw [loOf_le, le_hiOf]
  constructor
  · rintro ⟨⟨a, b⟩, c, d⟩
    exact ⟨⟨a, c⟩, fun n hn => ⟨b n hn, d n hn⟩⟩
  · rintro ⟨⟨a, b⟩, c⟩
    exact ⟨⟨a, fun n hn => (c n hn).1⟩, b, fun n hn => (c n hn).2⟩
/-- The bounds of what has been told. -/
theorem loOf_range {E : Int} (hE : 0 ≤ E ∧ E ≤ 3) {l : List Int} (h : ∀ n ∈ l, 0 ≤ n ∧ n ≤ 200) : 0 ≤ loOf E l ∧ loOf E l ≤ 200 :=
  ⟨loOf_nonneg E l, loOf_le.2 ⟨by omega, fun n hn => by have := h n hn; omega⟩⟩
theorem hiOf_range {E : Int} (hE : 0 ≤ E ∧ E ≤ 3) {l : List Int} (h : ∀ n ∈ l, 0 ≤ n ∧ n ≤ 200) : 0 ≤ hiOf E l ∧ hiOf E l ≤ 203 :=
  ⟨le_hiOf.2 ⟨by omega, fun n hn => by have := h n hn; omega⟩, hiOf_le E l⟩
/-- The clocks of a chase. -/
def clocksOf (E : Int) (ss : List (List Int)) : List (Int × Int) := ss.map fun l => (loOf E l, hiOf E l)
theorem clocks_len (E : Int) (ss : List (List Int)) : (clocksOf E ss).length = ss.length := by simp [clocksOf]
theorem clocks_get {E : Int} {ss : List (List Int)} {p : Nat} {l : List Int} (h : ss[p]? = some l) : lo (clocksOf E ss) p = loOf E l ∧ hi (clocksOf E ss) p = hiOf E l := by
  simp [lo, hi, clocksOf, h]
theorem clocks_nonneg (E : Int) (ss : List (List Int)) : ∀ p, p < (clocksOf E ss).length → 0 ≤ lo (clocksOf E ss) p := fun p hp => by
  rw [clocks_len] at hp
  rw [(clocks_get (E := E) (List.getElem?_eq_getElem hp)).1]
  exact loOf_nonneg _ _
def feasB (ks : List (Int × Int)) : Bool := ks.all fun k => decide (k.1 ≤ k.2)
theorem feasB_iff {ks : List (Int × Int)} : feasB ks = true ↔ Feas ks := by
  unfold feasB Feas
  rw [List.all_eq_true]
  constructor
  · intro h p hp
    have := h ks[p] (List.getElem_mem hp)
    simpa [lo, hi, hp] using this
  · intro h k hk
    obtain ⟨p, hp, rfl⟩ := List.getElem_of_mem hk
    simpa [lo, hi, hp] using h p hp

/-- The watches that are not in a set. -/
def keepW : List Int → Nat → List Int
  | [], _ => []
  | n :: l, s => if s % 2 = 0 then n :: keepW l (s / 2) else keepW l (s / 2)
/-- Can all others be right? -/
def rightB (E : Int) (l : List Int) (s : Nat) : Bool := decide (loOf E (keepW l s) ≤ hiOf E (keepW l s))
/-- How many are in a set. -/
def sizeN (s : Nat) : Nat := s % 2 + s / 2 % 2 + s / 4 % 2
def wrongStep (E : Int) (l : List Int) (best s : Nat) : Nat := if sizeN s < sizeN best ∧ rightB E l s = true then s else best
def wrongTo (E : Int) (l : List Int) (k : Nat) : Nat := (List.range k).foldl (wrongStep E l) (2 ^ l.length - 1)
/-- The watches that must be wrong. -/
def wrongV (E : Int) (l : List Int) : Nat := wrongTo E l (2 ^ l.length)
theorem wrongTo_succ (E : Int) (l : List Int) (k : Nat) : wrongTo E l (k + 1) = wrongStep E l (wrongTo E l k) k := by simp [wrongTo, List.range_succ]
theorem mem_keepW {n : Int} : ∀ {l : List Int} {s : Nat}, n ∈ keepW l s ↔ ∃ i, l[i]? = some n ∧ s.testBit i = false
  | [], s => by simp [keepW]
  | m :: l, s => by
    have ih := mem_keepW (n := n) (l := l) (s := s / 2)
    constructor
    · intro h
      unfold keepW at h
      split at h
      · rcases List.mem_cons.1 h with rfl | h
        · exact ⟨0, rfl, by simp [Nat.testBit_zero]; omega⟩
        · obtain ⟨i, h1, h2⟩ := ih.1 h
          exact ⟨i + 1, by simpa using h1, by rw [Nat.testBit_succ]; exact h2⟩
      · obtain ⟨i, h1, h2⟩ := ih.1 h
        exact ⟨i + 1, by simpa using h1, by rw [Nat.testBit_succ]; exact h2⟩
    · rintro ⟨i, h1, h2⟩
      unfold keepW
      cases i with
      | zero =>
        simp only [List.getElem?_cons_zero, Option.some.injEq] at h1
        subst h1
        rw [if_pos (by simp [Nat.testBit_zero] at h2; omega)]
        simp
      | succ i =>
        have : n ∈ keepW l (s / 2) := ih.2 ⟨i, by simpa using h1, by rw [Nat.testBit_succ] at h2; exact h2⟩
        split <;> simp [this]
theorem rightB_iff {E : Int} {l : List Int} {s : Nat} : rightB E l s = true ↔ ∃ x, (0 ≤ x ∧ x ≤ 203) ∧ ∀ (i : Nat) (n : Int), l[i]? = some n → s.testBit i = false → n - E ≤ x ∧ x ≤ n + E := by
  unfold rightB
  rw [decide_eq_true_eq]
  constructor
  · intro h
    obtain ⟨h1, h2⟩ := span_iff.1 ⟨Int.le_refl _, h⟩
    exact ⟨_, h1, fun i n hi0 hb => h2 n (mem_keepW.2 ⟨i, hi0, hb⟩)⟩
  · rintro ⟨x, h1, h2⟩
    obtain ⟨a, b⟩ := span_iff.2 ⟨h1, fun n hn => by obtain ⟨i, hi0, hb⟩ := mem_keepW.1 hn; exact h2 i n hi0 hb⟩
    omega
/-- What the watches that must be wrong are. -/
structure WrongIs (E : Int) (l : List Int) (s : Nat) : Prop where
  lt : s < 2 ^ l.length
  right : rightB E l s = true
  least : ∀ o, o < 2 ^ l.length → rightB E l o = true → sizeN s < sizeN o ∨ sizeN s = sizeN o ∧ s ≤ o
theorem every_right (E : Int) (l : List Int) : rightB E l (2 ^ l.length - 1) = true :=
  rightB_iff.2 ⟨0, by omega, fun i n hn hb => by
    have := (List.getElem?_eq_some_iff.1 hn).1
    rw [Nat.testBit_two_pow_sub_one] at hb
    simp [this] at hb⟩
theorem size_le {l : List Int} (hl : l.length ≤ 3) {o : Nat} (ho : o < 2 ^ l.length) : sizeN o < sizeN (2 ^ l.length - 1) ∨ o = 2 ^ l.length - 1 := by
  unfold sizeN
  have : l.length = 0 ∨ l.length = 1 ∨ l.length = 2 ∨ l.length = 3 := by omega
  rcases this with h | h | h | h <;> rw [h] at ho ⊢ <;> simp at ho ⊢ <;> omega
theorem wrong_to {E : Int} {l : List Int} (hl : l.length ≤ 3) : ∀ k, k ≤ 2 ^ l.length → rightB E l (wrongTo E l k) = true ∧ wrongTo E l k < 2 ^ l.length ∧
    (wrongTo E l k < k ∨ wrongTo E l k = 2 ^ l.length - 1) ∧ ∀ o, o < k → rightB E l o = true → sizeN (wrongTo E l k) < sizeN o ∨ sizeN (wrongTo E l k) = sizeN o ∧ wrongTo E l k ≤ o
  | 0, _ => by
    have h0 : 0 < 2 ^ l.length := Nat.two_pow_pos _
    have e : wrongTo E l 0 = 2 ^ l.length - 1 := rfl
    exact ⟨every_right E l, by rw [e]; omega, .inr rfl, fun o ho => absurd ho (Nat.not_lt_zero _)⟩
  | k + 1, hk => by
    obtain ⟨h1, h2, h3, h4⟩ := wrong_to (E := E) hl k (by omega)
    have hs := wrongTo_succ E l k
    unfold wrongStep at hs
    by_cases hc : sizeN k < sizeN (wrongTo E l k) ∧ rightB E l k = true
    · rw [if_pos hc] at hs
      rw [hs]
      refine ⟨hc.2, by omega, .inl (by omega), fun o ho hr => ?_⟩
      by_cases e : o = k
      · subst e; exact .inr ⟨rfl, Nat.le_refl _⟩
      · have := h4 o (by omega) hr
        omega
    · rw [if_neg hc] at hs
      rw [hs]
      refine ⟨h1, h2, by omega, fun o ho hr => ?_⟩
      by_cases e : o = k
      · subst e
        have hn : ¬ sizeN o < sizeN (wrongTo E l o) := fun h => hc ⟨h, hr⟩
        rcases h3 with h3 | h3
        · omega
        · rcases size_le hl (by omega : o < 2 ^ l.length) with h5 | h5
          · rw [h3] at hn; omega
          · rw [h3, h5]; exact .inr ⟨rfl, Nat.le_refl _⟩
      · exact h4 o (by omega) hr
theorem wrong_is {E : Int} {l : List Int} (hl : l.length ≤ 3) : WrongIs E l (wrongV E l) := by
  obtain ⟨h1, h2, _, h4⟩ := wrong_to (E := E) hl _ (Nat.le_refl _)
  exact ⟨h2, h1, h4⟩
theorem WrongIs.unique {E : Int} {l : List Int} {s r : Nat} (h : WrongIs E l s) (g : WrongIs E l r) : s = r := by
  have a := h.least r g.lt g.right
  have b := g.least s h.lt h.right
  omega
theorem wrong_zero {E : Int} {l : List Int} (hl : l.length ≤ 3) : wrongV E l = 0 ↔ loOf E l ≤ hiOf E l := by
  have h0 : keepW l 0 = l := by
    clear hl
    induction l with
    | nil => rfl
    | cons n l ih => simp [keepW, ih]
  have h1 : rightB E l 0 = true ↔ loOf E l ≤ hiOf E l := by unfold rightB; rw [h0, decide_eq_true_eq]
  rw [← h1]
  have hw := wrong_is (E := E) hl
  constructor
  · intro h
    have := hw.right
    rwa [h] at this
  · intro h
    have := hw.least 0 (Nat.two_pow_pos _) h
    have e : sizeN 0 = 0 := rfl
    rw [e] at this
    omega
end Go.Proofs.Ytbeglemohfbdfaa
