/- Plain: two sheets against one another: the fewest errors, and which races have so few. Conditions: none. -/
import Derived.Lib.Hide
namespace Go.Proofs.Yteijilbdllpbcaa

/-- A row of the table of errors, by the one for a passing less. -/
def distRow (x : UInt8) (f : List UInt8 → Nat) (n : Nat) : List UInt8 → Nat
  | [] => n
  | y :: b => min ((if x = y then 0 else 1) + f b) (min (1 + f (y :: b)) (1 + distRow x f n b))
/-- The fewest errors of two sheets. -/
def dist : List UInt8 → List UInt8 → Nat
  | [], b => b.length
  | x :: a, b => distRow x (dist a) (a.length + 1) b
theorem dist_nil (b : List UInt8) : dist [] b = b.length := rfl
theorem dist_nil' : ∀ a : List UInt8, dist a [] = a.length
  | [] => rfl
  | _ :: _ => rfl
theorem dist_cons (x y : UInt8) (a b : List UInt8) : dist (x :: a) (y :: b) = min ((if x = y then 0 else 1) + dist a b) (min (1 + dist a (y :: b)) (1 + dist (x :: a) b)) := rfl
theorem distRow_le (x : UInt8) (f : List UInt8 → Nat) (n : Nat) (hf : ∀ b, f b ≤ n + b.length) : ∀ b, distRow x f (n + 1) b ≤ n + 1 + b.length
  | [] => by simp [distRow]
  | y :: b => by
    have h1 := distRow_le x f n hf b
    simp only [distRow, List.length_cons]
    omega
theorem dist_le : ∀ a b : List UInt8, dist a b ≤ a.length + b.length
  | [], b => by simp [dist]
  | x :: a, b => by
    have := distRow_le x (dist a) a.length (dist_le a) b
    simp only [dist, List.length_cons]
    omega
/-- What can happen to the first passing that is left: what is left then, who can have passed, how many errors it is. -/
def mvs (A B : List UInt8) : Nat → Option ((List UInt8 × List UInt8) × List UInt8 × Nat)
  | 0 => match A, B with
    | x :: a, y :: b => some ((a, b), if x = y then [x] else [x, y], if x = y then 0 else 1)
    | _, _ => none
  | 1 => match A with
    | x :: a => some ((a, B), [x], 1)
    | [] => none
  | 2 => match B with
    | y :: b => some ((A, b), [y], 1)
    | [] => none
  | _ => none
/-- A race with the fewest errors. -/
def IsT : List UInt8 → List UInt8 → List UInt8 → Prop
  | [], A, B => A = [] ∧ B = []
  | c :: t, A, B => ∃ k, k < 3 ∧ ∃ nx who n, mvs A B k = some (nx, who, n) ∧ n + dist nx.1 nx.2 = dist A B ∧ c ∈ who ∧ IsT t nx.1 nx.2
/-- The fewest errors by the first k things that can happen; the races that have so few. -/
def bc (A B : List UInt8) : Nat → Nat
  | 0 => 1000
  | k + 1 => match mvs A B k with
    | none => bc A B k
    | some (nx, _, n) => min (bc A B k) (n + dist nx.1 nx.2)
def NW (nx : List UInt8 × List UInt8) (who t : List UInt8) : Prop := ∃ c t', c ∈ who ∧ t = c :: t' ∧ IsT t' nx.1 nx.2
def BS (A B : List UInt8) (k : Nat) (t : List UInt8) : Prop :=
  ∃ i, i < k ∧ ∃ nx who n, mvs A B i = some (nx, who, n) ∧ n + dist nx.1 nx.2 = bc A B k ∧ NW nx who t
theorem bc_none {A B : List UInt8} {k : Nat} (h : mvs A B k = none) : bc A B (k + 1) = bc A B k := by simp [bc, h]
theorem bc_some {A B : List UInt8} {k n : Nat} {nx : List UInt8 × List UInt8} {who : List UInt8} (h : mvs A B k = some (nx, who, n)) : bc A B (k + 1) = min (bc A B k) (n + dist nx.1 nx.2) := by simp [bc, h]
theorem bc_le {A B : List UInt8} : ∀ {i k n : Nat} {nx : List UInt8 × List UInt8} {who : List UInt8}, i < k → mvs A B i = some (nx, who, n) → bc A B k ≤ n + dist nx.1 nx.2
  | i, 0, _, _, _, h, _ => by omega
  | i, k + 1, n, nx, who, h, hm => by
    by_cases e : i = k
    · subst e; rw [bc_some hm]; omega
    · have := bc_le (k := k) (by omega) hm
      cases hk : mvs A B k with
      | none => rw [bc_none hk]; exact this
      | some q => rw [bc_some (nx := q.1) (who := q.2.1) (n := q.2.2) hk]; omega
theorem BS_none {A B : List UInt8} {k : Nat} (h : mvs A B k = none) (t : List UInt8) : BS A B (k + 1) t ↔ BS A B k t := by
  unfold BS
  rw [bc_none h]
  constructor
  · rintro ⟨i, hi, nx, who, n, hm, r⟩
    refine ⟨i, ?_, nx, who, n, hm, r⟩
    apply Decidable.byContradiction
    intro hn
    obtain rfl : i = k := by omega
    rw [h] at hm; cases hm
  · rintro ⟨i, hi, r⟩; exact ⟨i, by omega, r⟩
theorem BS_more {A B : List UInt8} {k n : Nat} {nx : List UInt8 × List UInt8} {who : List UInt8} (h : mvs A B k = some (nx, who, n)) (hn : bc A B k < n + dist nx.1 nx.2) (t : List UInt8) : BS A B (k + 1) t ↔ BS A B k t := by
  unfold BS
  rw [bc_some h, Nat.min_eq_left (by omega)]
  constructor
  · rintro ⟨i, hi, nx', who', n', hm, he, r⟩
    refine ⟨i, ?_, nx', who', n', hm, he, r⟩
    apply Decidable.byContradiction
    intro hc
    obtain rfl : i = k := by omega
    rw [h] at hm; cases hm
    omega
  · rintro ⟨i, hi, r⟩; exact ⟨i, by omega, r⟩
theorem BS_same {A B : List UInt8} {k n : Nat} {nx : List UInt8 × List UInt8} {who : List UInt8} (h : mvs A B k = some (nx, who, n)) (hn : n + dist nx.1 nx.2 = bc A B k) (t : List UInt8) : BS A B (k + 1) t ↔ BS A B k t ∨ NW nx who t := by
  unfold BS
  rw [bc_some h, Nat.min_eq_left (by omega)]
  constructor
  · rintro ⟨i, hi, nx', who', n', hm, he, r⟩
    by_cases hc : i = k
    · subst hc
      rw [h] at hm; cases hm
      exact .inr r
    · exact .inl ⟨i, by omega, nx', who', n', hm, he, r⟩
  · rintro (⟨i, hi, r⟩ | r)
    · exact ⟨i, by omega, r⟩
    · exact ⟨k, by omega, nx, who, n, h, hn, r⟩
theorem BS_less {A B : List UInt8} {k n : Nat} {nx : List UInt8 × List UInt8} {who : List UInt8} (h : mvs A B k = some (nx, who, n)) (hn : n + dist nx.1 nx.2 < bc A B k) (t : List UInt8) : BS A B (k + 1) t ↔ NW nx who t := by
  unfold BS
  rw [bc_some h, Nat.min_eq_right (by omega)]
  constructor
  · rintro ⟨i, hi, nx', who', n', hm, he, r⟩
    by_cases hc : i = k
    · subst hc
      rw [h] at hm; cases hm
      exact r
    · have := bc_le (k := k) (by omega) hm
      omega
  · intro r; exact ⟨k, by omega, nx, who, n, h, rfl, r⟩
theorem mvs_len {A B : List UInt8} {k n : Nat} {nx : List UInt8 × List UInt8} {who : List UInt8} (h : mvs A B k = some (nx, who, n)) : nx.1.length + nx.2.length < A.length + B.length ∧ who.length ≤ 2 := by
  match k, A, B, h with
  | 0, x :: a, y :: b, h =>
    simp only [mvs, Option.some.injEq, Prod.mk.injEq] at h
    obtain ⟨rfl, rfl, _⟩ := h
    refine ⟨by simp; omega, ?_⟩
    split <;> simp
  | 1, x :: a, B, h =>
    simp only [mvs, Option.some.injEq, Prod.mk.injEq] at h
    obtain ⟨rfl, rfl, _⟩ := h
    exact ⟨by simp, by simp⟩
  | 2, A, y :: b, h =>
    simp only [mvs, Option.some.injEq, Prod.mk.injEq] at h
    obtain ⟨rfl, rfl, _⟩ := h
    exact ⟨by simp, by simp⟩
  | 0, [], _, h => simp [mvs] at h
  | 0, _ :: _, [], h => simp [mvs] at h
  | 1, [], _, h => simp [mvs] at h
  | 2, _, [], h => simp [mvs] at h
  | k + 3, _, _, h => simp [mvs] at h
theorem isT_len : ∀ (t A B : List UInt8), IsT t A B → t.length ≤ A.length + B.length
  | [], A, B, _ => by simp
  | c :: t, A, B, h => by
    obtain ⟨k, hk, nx, who, n, hm, he, hc, hT⟩ := h
    have h1 := isT_len t _ _ hT
    have h2 := (mvs_len hm).1
    simp only [List.length_cons]
    omega
theorem bc_dist {A B : List UInt8} (h0 : ¬ (A = [] ∧ B = [])) (hl : A.length + B.length ≤ 1000) : bc A B 3 = dist A B := by
  have hd := dist_le A B
  cases A with
  | nil =>
    cases B with
    | nil => simp at h0
    | cons y b =>
      simp only [List.length_nil, List.length_cons] at *
      simp [bc, mvs, dist]
      omega
  | cons x a =>
    cases B with
    | nil =>
      simp only [List.length_nil, List.length_cons] at *
      simp [bc, mvs, dist_nil']
      omega
    | cons y b =>
      rw [dist_cons] at *
      simp only [bc, mvs]
      generalize dist a b = d1 at *
      generalize dist a (y :: b) = d2 at *
      generalize dist (x :: a) b = d3 at *
      simp only [List.length_cons] at hd hl
      omega
theorem BS_all {A B : List UInt8} (h0 : ¬ (A = [] ∧ B = [])) (hl : A.length + B.length ≤ 1000) (t : List UInt8) : BS A B 3 t ↔ IsT t A B := by
  unfold BS NW
  rw [bc_dist h0 hl]
  cases t with
  | nil =>
    constructor
    · rintro ⟨i, hi, nx, who, n, hm, he, c, t', hc, ht, _⟩; cases ht
    · rintro ⟨rfl, rfl⟩; simp at h0
  | cons c t =>
    constructor
    · rintro ⟨i, hi, nx, who, n, hm, he, c', t', hc, ht, r⟩
      cases ht
      exact ⟨i, hi, nx, who, n, hm, he, hc, r⟩
    · rintro ⟨i, hi, nx, who, n, hm, he, hc, r⟩
      exact ⟨i, hi, nx, who, n, hm, he, c, t, hc, rfl, r⟩
end Go.Proofs.Yteijilbdllpbcaa
namespace Go.Proofs.Yteijilbdllpbcaa

def enumT : Nat → List UInt8 → List UInt8 → List (List UInt8)
  | 0, _, _ => [[]]
  | n + 1, A, B => [] :: (List.range 3).flatMap fun k => match mvs A B k with
    | none => []
    | some (nx, who, _) => (enumT n nx.1 nx.2).flatMap fun t => who.map (· :: t)
theorem isT_enum : ∀ (n : Nat) (t A B : List UInt8), A.length + B.length ≤ n → IsT t A B → t ∈ enumT n A B
  | 0, t, A, B, h, hT => by
    have := isT_len t A B hT
    have h0 : t = [] := List.eq_nil_of_length_eq_zero (by omega)
    rw [h0]; simp [enumT]
  | n + 1, [], A, B, h, hT => by simp [enumT]
  | n + 1, c :: t, A, B, h, hT => by
    obtain ⟨k, hk, nx, who, m, hm, he, hc, hT'⟩ := hT
    have h1 := (mvs_len hm).1
    have ih := isT_enum n t nx.1 nx.2 (by omega) hT'
    refine List.mem_cons_of_mem _ (List.mem_flatMap.2 ⟨k, List.mem_range.2 hk, ?_⟩)
    rw [hm]
    exact List.mem_flatMap.2 ⟨t, ih, List.mem_map.2 ⟨c, hc, rfl⟩⟩
theorem flat_le {α β : Type} (f : α → List β) (m : Nat) : ∀ l : List α, (∀ x ∈ l, (f x).length ≤ m) → (l.flatMap f).length ≤ l.length * m
  | [], _ => by simp
  | x :: l, h => by
    have ih := flat_le f m l fun y hy => h y (List.mem_cons_of_mem _ hy)
    have hx := h x List.mem_cons_self
    rw [List.flatMap_cons, List.length_append, List.length_cons, Nat.succ_mul]
    omega
theorem enumT_le : ∀ (n : Nat) (A B : List UInt8), (enumT n A B).length ≤ 7 ^ n
  | 0, A, B => by simp [enumT]
  | n + 1, A, B => by
    have hp : 1 ≤ 7 ^ n := Nat.one_le_pow _ _ (by omega)
    have hk : ∀ k ∈ List.range 3, (match mvs A B k with | none => ([] : List (List UInt8)) | some (nx, who, _) => (enumT n nx.1 nx.2).flatMap fun t => who.map (· :: t)).length ≤ 7 ^ n * 2 := by
      intro k _
      cases hm : mvs A B k with
      | none => simp
      | some q =>
        obtain ⟨nx, who, m⟩ := q
        have h2 := (mvs_len hm).2
        have ih := enumT_le n nx.1 nx.2
        have := flat_le (fun t => who.map (· :: t)) 2 (enumT n nx.1 nx.2) (fun t _ => by simpa using h2)
        exact Nat.le_trans this (Nat.mul_le_mul_right 2 ih)
    have h3 := flat_le _ _ _ hk
    simp only [enumT, List.length_cons]
    rw [List.length_range] at h3
    rw [Nat.pow_succ]
    omega
theorem nodup_le {α : Type} [DecidableEq α] : ∀ (l L : List α), l.Nodup → (∀ x ∈ l, x ∈ L) → l.length ≤ L.length
  | [], L, _, _ => by simp
  | x :: l, L, hn, hs => by
    have hx := hs x List.mem_cons_self
    have h1 := List.nodup_cons.1 hn
    have ih := nodup_le l (L.erase x) h1.2 fun y hy => by
      have hne : y ≠ x := fun e => h1.1 (e ▸ hy)
      exact (List.mem_erase_of_ne hne).2 (hs y (List.mem_cons_of_mem _ hy))
    rw [List.length_erase_of_mem hx] at ih
    have : 0 < L.length := List.length_pos_of_mem hx
    simp only [List.length_cons]
    omega
/-- At most so many races have the fewest errors. -/
theorem isT_few {A B : List UInt8} {n : Nat} (h : A.length + B.length ≤ n) (l : List (List UInt8)) (hn : l.Nodup) (hT : ∀ t ∈ l, IsT t A B) : l.length ≤ 7 ^ n :=
  Nat.le_trans (nodup_le l _ hn fun t ht => isT_enum n t A B h (hT t ht)) (enumT_le n A B)
end Go.Proofs.Yteijilbdllpbcaa
