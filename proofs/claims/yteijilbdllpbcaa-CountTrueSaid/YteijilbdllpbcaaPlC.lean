/- Plain: the errors of a sheet by a race: by rows, and by what can have happened to each passing. Conditions: sizes. -/
import Derived.Test.YteijilbdllpbcaaPlA
import Derived.Test.YteijilbdllpbcaaRefA
import Derived.Test.YteijilbdllpbcaaPgA
namespace Go.Proofs.Yteijilbdllpbcaa

def cst (c x : UInt8) : Nat := if c = x then 0 else 1
theorem cst_le (c x : UInt8) : cst c x ≤ 1 := by unfold cst; split <;> omega
/-- A sheet can be made of a race with so many errors. -/
def Al : List UInt8 → List UInt8 → Nat → Prop
  | [], [], n => n = 0
  | [], _ :: _, _ => False
  | _ :: r, [], n => ∃ m, n = m + 1 ∧ Al r [] m
  | c :: r, x :: s, n => (∃ m, n = m + 1 ∧ Al r (x :: s) m) ∨ (∃ m, n = m + cst c x ∧ Al r s m)
theorem Al.len : ∀ {r s : List UInt8} {n : Nat}, Al r s n → s.length ≤ r.length
  | [], [], _, _ => by simp
  | [], _ :: _, _, h => by cases h
  | _ :: r, [], _, _ => by simp
  | c :: r, x :: s, n, h => by
    rcases h with ⟨m, _, h⟩ | ⟨m, _, h⟩
    · have := h.len; simp only [List.length_cons] at *; omega
    · have := h.len; simp only [List.length_cons]; omega
theorem Al.miss {c : UInt8} {r s : List UInt8} {n : Nat} (h : Al r s n) : Al (c :: r) s (n + 1) := by
  cases s with
  | nil => exact ⟨n, rfl, h⟩
  | cons x s => exact .inl ⟨n, rfl, h⟩
theorem Al.snoc_nil : ∀ {r : List UInt8} {c : UInt8} {n : Nat}, Al (r ++ [c]) [] n ↔ ∃ m, n = m + 1 ∧ Al r [] m
  | [], c, n => Iff.rfl
  | d :: r, c, n => by
    show (∃ m, n = m + 1 ∧ Al (r ++ [c]) [] m) ↔ _
    constructor
    · rintro ⟨m, rfl, h⟩
      obtain ⟨k, rfl, hk⟩ := Al.snoc_nil.1 h
      exact ⟨k + 1, rfl, k, rfl, hk⟩
    · rintro ⟨m, rfl, k, rfl, hk⟩
      exact ⟨k + 1, rfl, Al.snoc_nil.2 ⟨k, rfl, hk⟩⟩
theorem Al.nil_snoc {s : List UInt8} {x : UInt8} {n : Nat} : ¬ Al [] (s ++ [x]) n := by
  cases s <;> exact id
theorem Al.snoc : ∀ {r s : List UInt8} {c x : UInt8} {n : Nat}, Al (r ++ [c]) (s ++ [x]) n ↔ (∃ m, n = m + 1 ∧ Al r (s ++ [x]) m) ∨ (∃ m, n = m + cst c x ∧ Al r s m)
  | [], [], c, x, n => Iff.rfl
  | [], y :: s, c, x, n => by
    constructor
    · rintro (⟨m, _, h⟩ | ⟨m, _, h⟩)
      · cases h
      · exact absurd h Al.nil_snoc
    · rintro (⟨m, _, h⟩ | ⟨m, _, h⟩)
      · cases h
      · cases h
  | d :: r, [], c, x, n => by
    constructor
    · rintro (⟨m, rfl, h⟩ | ⟨m, rfl, h⟩)
      · rcases (Al.snoc (s := [])).1 h with ⟨k, rfl, hk⟩ | ⟨k, rfl, hk⟩
        · exact .inl ⟨k + 1, rfl, .inl ⟨k, rfl, hk⟩⟩
        · exact .inr ⟨k + 1, by omega, k, rfl, hk⟩
      · obtain ⟨k, rfl, hk⟩ := Al.snoc_nil.1 h
        exact .inl ⟨k + cst d x, by omega, .inr ⟨k, rfl, hk⟩⟩
    · rintro (⟨m, rfl, ⟨k, rfl, hk⟩ | ⟨k, rfl, hk⟩⟩ | ⟨m, rfl, k, rfl, hk⟩)
      · exact .inl ⟨k + 1, rfl, (Al.snoc (s := [])).2 (.inl ⟨k, rfl, hk⟩)⟩
      · exact .inr ⟨k + 1, by omega, Al.snoc_nil.2 ⟨k, rfl, hk⟩⟩
      · exact .inl ⟨k + cst c x, by omega, (Al.snoc (s := [])).2 (.inr ⟨k, rfl, hk⟩)⟩
  | d :: r, y :: s, c, x, n => by
    constructor
    · rintro (⟨m, rfl, h⟩ | ⟨m, rfl, h⟩)
      · rcases (Al.snoc (s := y :: s)).1 h with ⟨k, rfl, hk⟩ | ⟨k, rfl, hk⟩
        · exact .inl ⟨k + 1, rfl, .inl ⟨k, rfl, hk⟩⟩
        · exact .inr ⟨k + 1, by omega, .inl ⟨k, rfl, hk⟩⟩
      · rcases (Al.snoc (s := s)).1 h with ⟨k, rfl, hk⟩ | ⟨k, rfl, hk⟩
        · exact .inl ⟨k + cst d y, by omega, .inr ⟨k, rfl, hk⟩⟩
        · exact .inr ⟨k + cst d y, by omega, .inr ⟨k, rfl, hk⟩⟩
    · rintro (⟨m, rfl, ⟨k, rfl, hk⟩ | ⟨k, rfl, hk⟩⟩ | ⟨m, rfl, ⟨k, rfl, hk⟩ | ⟨k, rfl, hk⟩⟩)
      · exact .inl ⟨k + 1, rfl, (Al.snoc (s := y :: s)).2 (.inl ⟨k, rfl, hk⟩)⟩
      · exact .inr ⟨k + 1, by omega, (Al.snoc (s := s)).2 (.inl ⟨k, rfl, hk⟩)⟩
      · exact .inl ⟨k + cst c x, by omega, (Al.snoc (s := y :: s)).2 (.inr ⟨k, rfl, hk⟩)⟩
      · exact .inr ⟨k + cst c x, by omega, (Al.snoc (s := s)).2 (.inr ⟨k, rfl, hk⟩)⟩
/-- The least of some numbers, at most 1000. -/
def MinOf (P : Nat → Prop) (v : Int) : Prop := v ≤ 1000 ∧ (∀ n : Nat, P n → v ≤ n) ∧ (v = 1000 ∨ ∃ n : Nat, P n ∧ v = n)
theorem MinOf.eq {P : Nat → Prop} {v u : Int} (h : MinOf P v) (k : MinOf P u) : v = u := by
  obtain ⟨h1, h2, h3⟩ := h
  obtain ⟨k1, k2, k3⟩ := k
  rcases h3 with h3 | ⟨n, hn, h3⟩
  · rcases k3 with k3 | ⟨m, hm, k3⟩
    · omega
    · have := h2 m hm; omega
  · have := k2 n hn
    rcases k3 with k3 | ⟨m, hm, k3⟩
    · omega
    · have := h2 m hm; omega
def intsL (l : List UInt8) : List Int := l.map fun c => (c.toNat : Int)
theorem errs_min : ∀ (r s : List UInt8), r.length ≤ 1000 → MinOf (Al r s) (errs (intsL r) (intsL s))
  | [], [], _ => ⟨by simp [intsL, errs], (fun n h => by cases h; simp [intsL, errs]), .inr ⟨0, rfl, by simp [intsL, errs]⟩⟩
  | [], x :: s, _ => ⟨by simp [intsL, errs], (fun n h => by cases h), .inl (by simp [intsL, errs])⟩
  | c :: r, [], h => by
    have ih := errs_min r [] (by simp only [List.length_cons] at h; omega)
    have hl : errs (intsL r) [] = r.length := by
      clear ih h
      induction r with
      | nil => simp [intsL, errs]
      | cons d r ih => simp only [intsL, List.map_cons, errs, List.length_cons] at *; rw [ih]; omega
    have e : errs (intsL (c :: r)) (intsL []) = 1 + errs (intsL r) [] := rfl
    obtain ⟨i1, i2, i3⟩ := ih
    simp only [List.length_cons] at h
    refine ⟨by rw [e, hl]; omega, ?_, ?_⟩
    · rintro n ⟨m, rfl, hm⟩
      have := i2 m hm
      rw [e]; simp only [intsL, List.map_nil] at this ⊢; omega
    · refine .inr ⟨r.length + 1, ⟨r.length, rfl, ?_⟩, by rw [e, hl]; simp; omega⟩
      clear i1 i2 i3 e hl h
      induction r with
      | nil => rfl
      | cons d r ih => exact ⟨r.length, rfl, ih⟩
  | c :: r, x :: s, h => by
    simp only [List.length_cons] at h
    have ih1 := errs_min r (x :: s) (by omega)
    have ih2 := errs_min r s (by omega)
    have hne : ((c.toNat : Int) != (x.toNat : Int)) = decide (c ≠ x) := by
      rw [Bool.eq_iff_iff]
      simp only [bne_iff_ne, ne_eq, decide_eq_true_eq]
      constructor
      · intro h e; exact h (by rw [e])
      · intro h e; exact h (UInt8.toNat_inj.1 (by omega))
    have e : errs (intsL (c :: r)) (intsL (x :: s)) = if r.length < s.length then 1000 else min (min (1 + errs (intsL r) (intsL (x :: s))) (errs (intsL r) (intsL s) + (cst c x : Nat))) 1000 := by
      show (if (intsL r).length < (intsL s).length then (1000 : Int) else min (min (1 + errs (intsL r) (intsL (x :: s))) (errs (intsL r) (intsL s) + if ((c.toNat : Int) != (x.toNat : Int)) then 1 else 0)) 1000) = _
      rw [hne]
      simp only [intsL, List.length_map]
      congr 2
      unfold cst
      by_cases hcx : c = x <;> simp [hcx]
    rw [e]
    by_cases hl : r.length < s.length
    · rw [if_pos hl]
      refine ⟨by omega, fun n hn => ?_, .inl rfl⟩
      have := hn.len; simp only [List.length_cons] at this; omega
    · rw [if_neg hl]
      obtain ⟨a1, a2, a3⟩ := ih1
      obtain ⟨b1, b2, b3⟩ := ih2
      generalize errs (intsL r) (intsL (x :: s)) = u at *
      generalize errs (intsL r) (intsL s) = v at *
      have hc := cst_le c x
      refine ⟨by omega, ?_, ?_⟩
      · rintro n (⟨m, rfl, hm⟩ | ⟨m, rfl, hm⟩)
        · have := a2 m hm; omega
        · have := b2 m hm; omega
      · by_cases h1 : 1 + u ≤ v + (cst c x : Nat)
        · rcases a3 with a3 | ⟨n, hn, a3⟩
          · left; omega
          · by_cases h2 : 1 + u ≤ 1000
            · exact .inr ⟨n + 1, .inl ⟨n, rfl, hn⟩, by omega⟩
            · left; omega
        · rcases b3 with b3 | ⟨n, hn, b3⟩
          · left; omega
          · by_cases h2 : v + (cst c x : Nat) ≤ 1000
            · exact .inr ⟨n + cst c x, .inr ⟨n, rfl, hn⟩, by omega⟩
            · left; omega
theorem rowTo_get (sheet : List UInt8) (c : UInt8) (row : List Int) : ∀ (k i : Nat), i < k → i < row.length → (rowTo sheet c row k)[i]? = some (match i with
    | 0 => row[0]?.getD 0 + 1
    | j + 1 => cellOf (row[j + 1]?.getD 0) (row[j]?.getD 0) (c == sheet[j]?.getD 0))
  | 0, i, h, _ => by omega
  | k + 1, i, h, hl => by
    simp only [rowTo]
    by_cases e : k = i
    · subst e
      rw [List.getElem?_set_self (by rw [rowTo_len]; exact hl)]
      cases k <;> rfl
    · rw [List.getElem?_set_ne e, rowTo_get sheet c row k i (by omega) hl]
theorem rowAt_get (r s : List UInt8) (hr : r.length ≤ 1000) : ∀ (i k : Nat), i ≤ r.length → k ≤ s.length → ∃ v, (rowAt r s i)[k]? = some v ∧ MinOf (Al (r.take i) (s.take k)) v
  | 0, k, _, hk => by
    cases k with
    | zero => exact ⟨0, by simp [rowAt, row0], by omega, fun n h => by have : n = 0 := h; omega, .inr ⟨0, rfl, rfl⟩⟩
    | succ k =>
      refine ⟨1000, by simp only [rowAt, row0, List.take_zero, List.foldl_nil, List.getElem?_cons_succ, List.getElem?_replicate]; rw [if_pos (by omega)], by omega, fun n h => ?_, .inl rfl⟩
      have := h.len
      simp only [List.take_zero, List.length_nil, List.length_take] at this
      omega
  | i + 1, k, hi, hk => by
    have hc : r[i]? = some (r[i]'(by omega)) := List.getElem?_eq_getElem (by omega)
    obtain ⟨c, hcv⟩ : ∃ c, c = r[i]'(by omega) := ⟨_, rfl⟩
    rw [← hcv] at hc
    rw [rowAt_succ hc, take_get hc]
    have hlen := rowAt_len r s i
    unfold nextRow
    rw [rowTo_get s c (rowAt r s i) _ k (by omega) (by omega)]
    cases k with
    | zero =>
      obtain ⟨u, hu, hm⟩ := rowAt_get r s hr i 0 (by omega) (by omega)
      have hz : ∀ j, j ≤ r.length → (rowAt r s j)[0]? = some (j : Int) := by
        intro j hj
        induction j with
        | zero => simp [rowAt, row0]
        | succ j ih =>
          have hcj : r[j]? = some (r[j]'(by omega)) := List.getElem?_eq_getElem (by omega)
          rw [rowAt_succ hcj]
          unfold nextRow
          rw [rowTo_get s _ (rowAt r s j) _ 0 (by rw [rowAt_len]; omega) (by rw [rowAt_len]; omega), ih (by omega)]
          simp
      rw [hu]
      have h0 := hz i (by omega)
      rw [hu] at h0
      injection h0 with h0
      refine ⟨u + 1, rfl, by omega, ?_, ?_⟩
      · intro n hn
        obtain ⟨m, rfl, hm'⟩ := Al.snoc_nil.1 (by simpa using hn)
        have := hm.2.1 m (by simpa using hm')
        omega
      · rcases hm.2.2 with h | ⟨n, hn, h⟩
        · left; omega
        · exact .inr ⟨n + 1, by simpa using Al.snoc_nil.2 ⟨n, rfl, by simpa using hn⟩, by omega⟩
    | succ k =>
      obtain ⟨u, hu, a1, a2, a3⟩ := rowAt_get r s hr i (k + 1) (by omega) hk
      obtain ⟨v, hv, b1, b2, b3⟩ := rowAt_get r s hr i k (by omega) (by omega)
      have hx : s[k]? = some (s[k]'(by omega)) := List.getElem?_eq_getElem (by omega)
      obtain ⟨x, hxv⟩ : ∃ x, x = s[k]'(by omega) := ⟨_, rfl⟩
      rw [← hxv] at hx
      show ∃ v, some (cellOf ((rowAt r s i)[k + 1]?.getD 0) ((rowAt r s i)[k]?.getD 0) (c == s[k]?.getD 0)) = some v ∧ _
      rw [hu, hv, hx, take_get hx]
      rw [take_get hx] at a2 a3
      simp only [Option.getD_some]
      have e : cellOf u v (c == x) = min (min (u + 1) (v + (cst c x : Nat))) 1000 := by
        unfold cellOf minL cst
        by_cases h : c = x
        · simp [h]
        · simp [h]
      have hc2 := cst_le c x
      refine ⟨_, rfl, ?_⟩
      rw [e]
      refine ⟨by omega, ?_, ?_⟩
      · intro n hn
        rcases Al.snoc.1 hn with ⟨m, rfl, hm⟩ | ⟨m, rfl, hm⟩
        · have := a2 m hm; omega
        · have := b2 m hm; omega
      · by_cases h1 : u + 1 ≤ v + (cst c x : Nat)
        · rcases a3 with a3 | ⟨n, hn, a3⟩
          · left; omega
          · by_cases h2 : u + 1 ≤ 1000
            · exact .inr ⟨n + 1, Al.snoc.2 (.inl ⟨n, rfl, hn⟩), by omega⟩
            · left; omega
        · rcases b3 with b3 | ⟨n, hn, b3⟩
          · left; omega
          · by_cases h2 : v + (cst c x : Nat) ≤ 1000
            · exact .inr ⟨n + cst c x, Al.snoc.2 (.inr ⟨n, rfl, hn⟩), by omega⟩
            · left; omega
/-- By rows and by the reference: the same. -/
theorem errorsB_errs (r s : List UInt8) (hr : r.length ≤ 1000) : errorsB r s = errs (intsL r) (intsL s) := by
  obtain ⟨v, hv, hm⟩ := rowAt_get r s hr r.length s.length (Nat.le_refl _) (Nat.le_refl _)
  rw [List.take_length, List.take_length] at hm
  have h2 := errs_min r s hr
  rw [← hm.eq h2]
  have := hm.1
  unfold errorsB minL
  rw [hv]
  simp
  omega
end Go.Proofs.Yteijilbdllpbcaa
namespace Go.Proofs.Yteijilbdllpbcaa

theorem dist_one : ∀ (x : UInt8) (A B : List UInt8), dist (x :: A) B ≤ 1 + dist A B
  | x, A, [] => by rw [dist_nil', dist_nil']; simp; omega
  | x, A, y :: B => by rw [dist_cons]; omega
theorem dist_two : ∀ (A : List UInt8) (y : UInt8) (B : List UInt8), dist A (y :: B) ≤ 1 + dist A B
  | [], y, B => by simp [dist_nil]; omega
  | x :: A, y, B => by rw [dist_cons]; omega
theorem cst_tri (c x y : UInt8) : cst x y ≤ cst c x + cst c y := by
  unfold cst
  by_cases h1 : c = x
  · by_cases h2 : c = y
    · subst h1; subst h2; simp
    · subst h1; simp [h2]
  · simp [h1]; split <;> omega
theorem dist_both (x y : UInt8) (A B : List UInt8) : dist (x :: A) (y :: B) ≤ cst x y + dist A B := by rw [dist_cons]; unfold cst; omega
/-- No race has fewer errors on two sheets; one with as few is one of theirs. -/
theorem al_lower : ∀ (r A B : List UInt8) (n1 n2 : Nat), Al r A n1 → Al r B n2 → dist A B ≤ n1 + n2 ∧ (n1 + n2 = dist A B → IsT r A B)
  | [], A, B, n1, n2, h1, h2 => by
    cases A with
    | cons x A => cases h1
    | nil =>
      cases B with
      | cons y B => cases h2
      | nil => exact ⟨by simp [dist_nil], fun _ => ⟨rfl, rfl⟩⟩
  | c :: r, A, B, n1, n2, h1, h2 => by
    have hA : (∃ m, n1 = m + 1 ∧ Al r A m) ∨ (∃ x A' m, A = x :: A' ∧ n1 = m + cst c x ∧ Al r A' m) := by
      cases A with
      | nil => exact .inl h1
      | cons x A => exact h1.imp id fun ⟨m, e, h⟩ => ⟨x, A, m, rfl, e, h⟩
    have hB : (∃ m, n2 = m + 1 ∧ Al r B m) ∨ (∃ x B' m, B = x :: B' ∧ n2 = m + cst c x ∧ Al r B' m) := by
      cases B with
      | nil => exact .inl h2
      | cons x B => exact h2.imp id fun ⟨m, e, h⟩ => ⟨x, B, m, rfl, e, h⟩
    rcases hA with ⟨m1, rfl, k1⟩ | ⟨x, A', m1, rfl, rfl, k1⟩
    · rcases hB with ⟨m2, rfl, k2⟩ | ⟨y, B', m2, rfl, rfl, k2⟩
      · have ih := al_lower r A B m1 m2 k1 k2
        exact ⟨by omega, fun h => by omega⟩
      · have ih := al_lower r A B' m1 m2 k1 k2
        have hd := dist_two A y B'
        refine ⟨by omega, fun h => ?_⟩
        have h0 : cst c y = 0 := by omega
        have hc : c = y := by
          apply Decidable.byContradiction; intro hn
          simp [cst, hn] at h0
        exact ⟨2, by omega, (A, B'), [y], 1, rfl, by show 1 + dist A B' = _; omega, by simp [hc], ih.2 (by omega)⟩
    · rcases hB with ⟨m2, rfl, k2⟩ | ⟨y, B', m2, rfl, rfl, k2⟩
      · have ih := al_lower r A' B m1 m2 k1 k2
        have hd := dist_one x A' B
        refine ⟨by omega, fun h => ?_⟩
        have h0 : cst c x = 0 := by omega
        have hc : c = x := by
          apply Decidable.byContradiction; intro hn
          simp [cst, hn] at h0
        exact ⟨1, by omega, (A', B), [x], 1, rfl, by show 1 + dist A' B = _; omega, by simp [hc], ih.2 (by omega)⟩
      · have ih := al_lower r A' B' m1 m2 k1 k2
        have hd := dist_both x y A' B'
        have ht := cst_tri c x y
        refine ⟨by omega, fun h => ?_⟩
        have he : cst c x + cst c y = cst x y := by omega
        refine ⟨0, by omega, (A', B'), if x = y then [x] else [x, y], if x = y then 0 else 1, rfl, ?_, ?_, ih.2 (by omega)⟩
        · show cst x y + dist A' B' = _; omega
        · by_cases hxy : x = y
          · subst hxy
            have : cst c x = 0 := by unfold cst at he ⊢; simp at he ⊢; exact he
            have hc : c = x := by
              apply Decidable.byContradiction; intro hn
              simp [cst, hn] at this
            simp [hc]
          · simp only [hxy, if_false]
            by_cases h1 : c = x
            · simp [h1]
            · by_cases h2 : c = y
              · simp [h2]
              · simp [cst, hxy, h1, h2] at he
/-- A race of two sheets has as few errors on them. -/
theorem al_upper : ∀ (r A B : List UInt8), IsT r A B → ∃ n1 n2, Al r A n1 ∧ Al r B n2 ∧ n1 + n2 = dist A B
  | [], A, B, ⟨hA, hB⟩ => by subst hA; subst hB; exact ⟨0, 0, rfl, rfl, rfl⟩
  | c :: r, A, B, h => by
    obtain ⟨k, hk, nx, who, n, hm, he, hc, hT⟩ := h
    obtain ⟨m1, m2, k1, k2, hs⟩ := al_upper r nx.1 nx.2 hT
    match k, A, B, hm with
    | 0, x :: A, y :: B, hm =>
      simp only [mvs, Option.some.injEq, Prod.mk.injEq] at hm
      obtain ⟨rfl, rfl, rfl⟩ := hm
      refine ⟨m1 + cst c x, m2 + cst c y, .inr ⟨m1, rfl, k1⟩, .inr ⟨m2, rfl, k2⟩, ?_⟩
      have hcc : cst c x + cst c y = if x = y then 0 else 1 := by
        by_cases hxy : x = y
        · subst hxy; simp at hc; subst hc; simp [cst]
        · simp [hxy] at hc
          rcases hc with rfl | rfl
          · simp [cst, hxy]
          · have hyx : ¬ c = x := fun e => hxy e.symm
            simp [cst, hxy, hyx]
      simp only at hs he
      omega
    | 1, x :: A, B, hm =>
      simp only [mvs, Option.some.injEq, Prod.mk.injEq] at hm
      obtain ⟨rfl, rfl, rfl⟩ := hm
      simp at hc
      subst hc
      simp only at hs he k1 k2
      exact ⟨m1, m2 + 1, .inr ⟨m1, by simp [cst], k1⟩, k2.miss, by omega⟩
    | 2, A, y :: B, hm =>
      simp only [mvs, Option.some.injEq, Prod.mk.injEq] at hm
      obtain ⟨rfl, rfl, rfl⟩ := hm
      simp at hc
      subst hc
      simp only at hs he k1 k2
      exact ⟨m1 + 1, m2, k1.miss, .inr ⟨m2, by simp [cst], k2⟩, by omega⟩
    | 0, [], _, hm => simp [mvs] at hm
    | 0, _ :: _, [], hm => simp [mvs] at hm
    | 1, [], _, hm => simp [mvs] at hm
    | 2, _, [], hm => simp [mvs] at hm
    | k + 3, _, _, hm => omega
/-- There is one. -/
theorem isT_ex : ∀ (n : Nat) (A B : List UInt8), A.length + B.length ≤ n → ∃ r, IsT r A B
  | 0, A, B, h => ⟨[], List.eq_nil_of_length_eq_zero (by omega), List.eq_nil_of_length_eq_zero (by omega)⟩
  | n + 1, [], [], _ => ⟨[], rfl, rfl⟩
  | n + 1, x :: A, [], h => by
    simp only [List.length_cons, List.length_nil] at h
    obtain ⟨r, hr⟩ := isT_ex n A [] (by simp; omega)
    exact ⟨x :: r, 1, by omega, (A, []), [x], 1, rfl, by simp [dist_nil']; omega, by simp, hr⟩
  | n + 1, [], y :: B, h => by
    simp only [List.length_cons, List.length_nil] at h
    obtain ⟨r, hr⟩ := isT_ex n [] B (by simp; omega)
    exact ⟨y :: r, 2, by omega, ([], B), [y], 1, rfl, by simp [dist_nil]; omega, by simp, hr⟩
  | n + 1, x :: A, y :: B, h => by
    simp only [List.length_cons] at h
    have hd := dist_cons x y A B
    by_cases h1 : dist (x :: A) (y :: B) = 1 + dist A (y :: B)
    · obtain ⟨r, hr⟩ := isT_ex n A (y :: B) (by simp; omega)
      exact ⟨x :: r, 1, by omega, (A, y :: B), [x], 1, rfl, h1.symm, by simp, hr⟩
    · by_cases h2 : dist (x :: A) (y :: B) = 1 + dist (x :: A) B
      · obtain ⟨r, hr⟩ := isT_ex n (x :: A) B (by simp; omega)
        exact ⟨y :: r, 2, by omega, (x :: A, B), [y], 1, rfl, h2.symm, by simp, hr⟩
      · obtain ⟨r, hr⟩ := isT_ex n A B (by omega)
        refine ⟨x :: r, 0, by omega, (A, B), if x = y then [x] else [x, y], if x = y then 0 else 1, rfl, ?_, ?_, hr⟩
        · show (if x = y then 0 else 1) + dist A B = _; omega
        · split <;> simp
theorem isT_mem : ∀ (r A B : List UInt8), IsT r A B → ∀ c ∈ r, c ∈ A ∨ c ∈ B
  | [], _, _, _ => by simp
  | c :: r, A, B, h => by
    obtain ⟨k, hk, nx, who, n, hm, he, hc, hT⟩ := h
    have ih := isT_mem r nx.1 nx.2 hT
    match k, A, B, hm with
    | 0, x :: A, y :: B, hm =>
      simp only [mvs, Option.some.injEq, Prod.mk.injEq] at hm
      obtain ⟨rfl, rfl, rfl⟩ := hm
      intro d hd
      rcases List.mem_cons.1 hd with rfl | hd
      · by_cases hxy : x = y
        · simp [hxy] at hc; simp [hc, hxy]
        · simp [hxy] at hc
          rcases hc with rfl | rfl <;> simp
      · exact (ih d hd).imp (List.mem_cons_of_mem _) (List.mem_cons_of_mem _)
    | 1, x :: A, B, hm =>
      simp only [mvs, Option.some.injEq, Prod.mk.injEq] at hm
      obtain ⟨rfl, rfl, rfl⟩ := hm
      intro d hd
      simp at hc
      rcases List.mem_cons.1 hd with rfl | hd
      · simp [hc]
      · exact (ih d hd).imp (List.mem_cons_of_mem _) id
    | 2, A, y :: B, hm =>
      simp only [mvs, Option.some.injEq, Prod.mk.injEq] at hm
      obtain ⟨rfl, rfl, rfl⟩ := hm
      intro d hd
      simp at hc
      rcases List.mem_cons.1 hd with rfl | hd
      · simp [hc]
      · exact (ih d hd).imp id (List.mem_cons_of_mem _)
    | 0, [], _, hm => simp [mvs] at hm
    | 0, _ :: _, [], hm => simp [mvs] at hm
    | 1, [], _, hm => simp [mvs] at hm
    | 2, _, [], hm => simp [mvs] at hm
    | k + 3, _, _, hm => omega
/-- The errors of a race on two sheets, by the reference. -/
theorem errs_two (r A B : List UInt8) (hr : r.length ≤ 1000) (hl : A.length + B.length < 1000) :
    (dist A B : Int) ≤ errs (intsL r) (intsL A) + errs (intsL r) (intsL B) ∧ (errs (intsL r) (intsL A) + errs (intsL r) (intsL B) = (dist A B : Nat) ↔ IsT r A B) := by
  have hd := dist_le A B
  obtain ⟨a1, a2, a3⟩ := errs_min r A hr
  obtain ⟨b1, b2, b3⟩ := errs_min r B hr
  have hp1 : 0 ≤ errs (intsL r) (intsL A) := (errs_range _ _).1
  have hp2 : 0 ≤ errs (intsL r) (intsL B) := (errs_range _ _).1
  generalize errs (intsL r) (intsL A) = u at *
  generalize errs (intsL r) (intsL B) = v at *
  constructor
  · rcases a3 with a3 | ⟨n, hn, a3⟩
    · omega
    · rcases b3 with b3 | ⟨m, hm, b3⟩
      · omega
      · have := (al_lower r A B n m hn hm).1; omega
  · constructor
    · intro h
      rcases a3 with a3 | ⟨n, hn, a3⟩
      · omega
      · rcases b3 with b3 | ⟨m, hm, b3⟩
        · omega
        · exact (al_lower r A B n m hn hm).2 (by omega)
    · intro h
      obtain ⟨n1, n2, h1, h2, h3⟩ := al_upper r A B h
      have := a2 n1 h1
      have := b2 n2 h2
      rcases a3 with a3 | ⟨n, hn, a3⟩
      · omega
      · rcases b3 with b3 | ⟨m, hm, b3⟩
        · omega
        · have := (al_lower r A B n m hn hm).1; omega
end Go.Proofs.Yteijilbdllpbcaa
