/- Plain laws of chases: the final, meetings, the cut. Conditions: none. -/
import Derived.Test.YtbeglemohfbdfaaCpA
namespace Go.Proofs.Ytbeglemohfbdfaa

/-- Always, never, perhaps. -/
def soB (l : List Bool) : Int := if l.contains false = false then 2 else if l.contains true = false then 0 else 1
theorem soB_two {l : List Bool} : soB l = 2 ↔ ∀ b ∈ l, b = true := by
  unfold soB
  constructor
  · intro h b hb
    cases b with
    | true => rfl
    | false =>
      rw [if_neg (by simp [hb])] at h
      split at h <;> omega
  · intro h
    rw [if_pos]
    rw [Bool.eq_false_iff, ne_eq, List.contains_iff_mem]
    intro hm
    cases h _ hm
theorem soB_zero {l : List Bool} (hne : l ≠ []) : soB l = 0 ↔ ∀ b ∈ l, b = false := by
  unfold soB
  constructor
  · intro h b hb
    cases b with
    | false => rfl
    | true =>
      by_cases h1 : l.contains false = false
      · rw [if_pos h1] at h; omega
      · rw [if_neg h1, if_neg (by simp [hb])] at h; omega
  · intro h
    have h1 : ¬ l.contains false = false := by
      cases l with
      | nil => exact absurd rfl hne
      | cons b r => have := h b (by simp); subst this; simp
    rw [if_neg h1, if_pos]
    rw [Bool.eq_false_iff, ne_eq, List.contains_iff_mem]
    intro hm
    cases h _ hm
theorem soB_cases (l : List Bool) : soB l = 2 ∨ soB l = 0 ∨ soB l = 1 := by
  unfold soB
  split
  · exact .inl rfl
  · split
    · exact .inr (.inl rfl)
    · exact .inr (.inr rfl)
theorem soB_eq {l m : List Bool} (hl : l ≠ []) (hm : m ≠ []) (h1 : (∀ b ∈ l, b = true) ↔ ∀ b ∈ m, b = true) (h0 : (∀ b ∈ l, b = false) ↔ ∀ b ∈ m, b = false) : soB l = soB m := by
  have a := soB_cases l
  have b := soB_cases m
  have c := (soB_two (l := l)).trans (h1.trans soB_two.symm)
  have d := (soB_zero hl).trans (h0.trans (soB_zero hm).symm)
  omega

theorem orders_ne {ks : List (Int × Int)} (h0 : ∀ p, p < ks.length → 0 ≤ lo ks p) (hf : Feas ks) : ordersL ks ≠ [] := by
  have ht : Tr ks ((List.range ks.length).map (lo ks)) := tr_of fun p hp => ⟨Int.le_refl _, hf p hp⟩
  obtain ⟨l, hl⟩ := srt_ex ((List.range ks.length).map (lo ks))
  have := (mem_orders h0).2 ⟨_, ht, hl⟩
  intro e
  rw [e] at this
  cases this
/-- Whether something is so of places, in all truths. -/
theorem so_orders {ks : List (Int × Int)} (h0 : ∀ p, p < ks.length → 0 ≤ lo ks p) (f : List Nat → Bool) (b : Bool) :
    (∀ x ∈ (ordersL ks).map f, x = b) ↔ ∀ t l, Tr ks t → Srt t l → f l = b := by
  constructor
  · intro h t l ht hl
    exact h _ (List.mem_map.2 ⟨l, (mem_orders h0).2 ⟨t, ht, hl⟩, rfl⟩)
  · intro h x hx
    obtain ⟨l, hl, rfl⟩ := List.mem_map.1 hx
    obtain ⟨t, ht, hs⟩ := (mem_orders h0).1 hl
    exact h t l ht hs
/-- Whether a pair comes into the final, by all orders. -/
def finalV (ks : List (Int × Int)) (F : Int) (p : Nat) : Int := soB ((ordersL ks).map fun l => decide ((l.idxOf p : Int) < F))
/-- The same by places. -/
def finalP (ks : List (Int × Int)) (F : Int) (p : Nat) : Int := soB [decide ((placeLo ks p : Int) < F), decide ((placeHi ks p : Int) < F)]
theorem placeLo_le {ks : List (Int × Int)} (hf : Feas ks) {p : Nat} (hp : p < ks.length) : placeLo ks p ≤ placeHi ks p := by
  obtain ⟨t, ht, _, h⟩ := place_lo hf hp
  have := (place_range ht hp).2
  omega
theorem finalV_eq {ks : List (Int × Int)} (h0 : ∀ p, p < ks.length → 0 ≤ lo ks p) (hf : Feas ks) {F : Int} {p : Nat} (hp : p < ks.length) : finalV ks F p = finalP ks F p := by
  have hle := placeLo_le hf hp
  obtain ⟨t1, ht1, _, e1⟩ := place_lo hf hp
  obtain ⟨t2, ht2, _, e2⟩ := place_hi hf hp
  obtain ⟨l1, hl1⟩ := srt_ex t1
  obtain ⟨l2, hl2⟩ := srt_ex t2
  refine soB_eq (by simpa using orders_ne h0 hf) (by simp) ?_ ?_
  · rw [so_orders h0]
    constructor
    · intro h b hb
      have := h t2 l2 ht2 hl2
      rw [hl2.idx (by rw [ht2.1]; exact hp), e2, decide_eq_true_eq] at this
      simp only [List.mem_cons, List.not_mem_nil, or_false] at hb
      rcases hb with rfl | rfl <;> rw [decide_eq_true_eq] <;> omega
    · intro h t l ht hl
      have := h (decide ((placeHi ks p : Int) < F)) (by simp)
      rw [decide_eq_true_eq] at this
      rw [hl.idx (by rw [ht.1]; exact hp), decide_eq_true_eq]
      have := (place_range ht hp).2
      omega
  · rw [so_orders h0]
    constructor
    · intro h b hb
      have := h t1 l1 ht1 hl1
      rw [hl1.idx (by rw [ht1.1]; exact hp), e1, decide_eq_false_iff_not] at this
      simp only [List.mem_cons, List.not_mem_nil, or_false] at hb
      rcases hb with rfl | rfl <;> rw [decide_eq_false_iff_not] <;> omega
    · intro h t l ht hl
      have := h (decide ((placeLo ks p : Int) < F)) (by simp)
      rw [decide_eq_false_iff_not] at this
      rw [hl.idx (by rw [ht.1]; exact hp), decide_eq_false_iff_not]
      have := (place_range ht hp).1
      omega
/-- Whether two pairs meet. -/
def meetV (ks : List (Int × Int)) (p q : Nat) : Int := soB ((ordersL ks).map fun l => decide ((l.idxOf p : Int) + l.idxOf q = ks.length - 1))

/-- The number on a place, if a list is sorted. -/
structure Kth (l : List Int) (k : Nat) (x : Int) : Prop where
  under : l.countP (fun y => decide (y < x)) ≤ k
  upto : k < l.countP (fun y => decide (y ≤ x))
theorem Kth.unique {l : List Int} {k : Nat} {x y : Int} (h : Kth l k x) (g : Kth l k y) : x = y := by
  have key : ∀ {a b : Int}, Kth l k a → Kth l k b → ¬ a < b := fun {a b} ha hb hab => by
    have := List.countP_mono_left (l := l) (p := fun z => decide (z ≤ a)) (q := fun z => decide (z < b)) fun z _ hz => by
      simp only [decide_eq_true_eq] at hz ⊢; omega
    have := ha.upto
    have := hb.under
    omega
  have := key h g
  have := key g h
  omega
theorem count_range (f : Nat → Int) (n : Nat) (P : Int → Bool) : ((List.range n).map f).countP P = (List.range n).countP fun i => P (f i) := by
  rw [List.countP_map]; rfl
/-- The number on a place is no greater if all numbers are not. -/
theorem Kth.mono {f g : Nat → Int} {n k : Nat} {x y : Int} (h : Kth ((List.range n).map f) k x) (h' : Kth ((List.range n).map g) k y) (hfg : ∀ i, i < n → f i ≤ g i) : x ≤ y := by
  refine Classical.byContradiction fun hn => ?_
  have h1 := h.under
  have h2 := h'.upto
  rw [count_range] at h1 h2
  have := List.countP_mono_left (l := List.range n) (p := fun i => decide (g i ≤ y)) (q := fun i => decide (f i < x)) fun i hi0 hz => by
    have := hfg i (List.mem_range.1 hi0)
    simp only [decide_eq_true_eq] at hz ⊢; omega
  omega
theorem Kth.shift {f : Nat → Int} {n k : Nat} {x : Int} (d : Int) (h : Kth ((List.range n).map f) k x) : Kth ((List.range n).map fun i => f i + d) k (x + d) := by
  obtain ⟨h1, h2⟩ := h
  rw [count_range] at h1 h2
  constructor
  · rw [count_range]
    refine Nat.le_trans (List.countP_mono_left fun i _ hz => ?_) h1
    simp only [decide_eq_true_eq] at hz ⊢; omega
  · rw [count_range]
    refine Nat.lt_of_lt_of_le h2 (List.countP_mono_left fun i _ hz => ?_)
    simp only [decide_eq_true_eq] at hz ⊢; omega
/-- A sorted list has each number on its place. -/
theorem kth_sorted {l m : List Int} (hp : m.Perm l) (hs : m.Pairwise (· ≤ ·)) {k : Nat} {x : Int} (hk : m[k]? = some x) : Kth l k x := by
  obtain ⟨hk1, hk2⟩ := List.getElem?_eq_some_iff.1 hk
  rw [List.pairwise_iff_getElem] at hs
  constructor
  · rw [← hp.countP_eq, ← List.take_append_drop k m, List.countP_append]
    have h1 := List.countP_le_length (p := fun y => decide (y < x)) (l := m.take k)
    have h2 : (m.drop k).countP (fun y => decide (y < x)) = 0 := by
      rw [List.countP_eq_zero]
      intro y hy
      obtain ⟨i, hi1, rfl⟩ := List.getElem_of_mem hy
      rw [List.length_drop] at hi1
      rw [List.getElem_drop, decide_eq_true_eq, ← hk2]
      by_cases e : i = 0
      · subst e; simp
      · have := hs k (k + i) hk1 (by omega) (by omega)
        omega
    rw [List.length_take] at h1
    omega
  · rw [← hp.countP_eq, ← List.take_append_drop (k + 1) m, List.countP_append]
    have h1 : (m.take (k + 1)).countP (fun y => decide (y ≤ x)) = (m.take (k + 1)).length := by
      rw [List.countP_eq_length]
      intro y hy
      obtain ⟨i, hi1, rfl⟩ := List.getElem_of_mem hy
      rw [List.length_take] at hi1
      rw [List.getElem_take, decide_eq_true_eq, ← hk2]
      by_cases e : i = k
      · subst e; simp
      · exact hs i k (by omega) hk1 (by omega)
    rw [h1, List.length_take]
    omega
/-- The time of the last pair that comes into the final. -/
theorem kth_truth {t : List Int} {l : List Nat} (h : Srt t l) {k p : Nat} (hk : l[k]? = some p) : Kth ((List.range t.length).map (tm t)) k (tm t p) := by
  refine kth_sorted (m := l.map (tm t)) (h.perm.symm.map _) ?_ (by rw [List.getElem?_map, hk]; rfl)
  rw [List.pairwise_map]
  refine h.asc.imp fun {a b} hab => ?_
  rw [befB_iff] at hab
  omega
end Go.Proofs.Ytbeglemohfbdfaa
