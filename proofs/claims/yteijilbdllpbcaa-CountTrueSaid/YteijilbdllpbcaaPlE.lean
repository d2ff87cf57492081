/- Plain: the truths of the reference are those of the program: of two sheets, and of each sheet more. Conditions: sizes. -/
import Derived.Test.YteijilbdllpbcaaPlC
import Derived.Test.YteijilbdllpbcaaRefC
import Derived.Test.YteijilbdllpbcaaPgN
namespace Go.Proofs.Yteijilbdllpbcaa

/-- Those of some things of which a number is least, below 1000. -/
def Lst {α : Type} (f : α → Int) (L : List α) (p : List α × Int) : Prop :=
  p.2 ≤ 1000 ∧ (∀ r ∈ L, p.2 ≤ f r) ∧ p.1 = L.filter (fun r => decide (f r = p.2 ∧ p.2 < 1000)) ∧ (p.2 = 1000 ∨ ∃ r ∈ L, f r = p.2)
theorem Lst.step {α : Type} {f : α → Int} {L : List α} {p : List α × Int} {r : α} (h : Lst f L p) :
    (f r < p.2 → Lst f (L ++ [r]) ([r], f r)) ∧ (f r = p.2 → f r < 1000 → Lst f (L ++ [r]) (p.1 ++ [r], p.2)) ∧ ((p.2 < f r ∨ (f r = p.2 ∧ 1000 ≤ f r)) → Lst f (L ++ [r]) p) := by
  obtain ⟨h1, h2, h3, h4⟩ := h
  refine ⟨fun hr => ⟨by show f r ≤ 1000; omega, ?_, ?_, .inr ⟨r, by simp, rfl⟩⟩, fun hr hl => ⟨h1, ?_, ?_, .inr ⟨r, by simp, hr⟩⟩, fun hr => ⟨h1, ?_, ?_, ?_⟩⟩
  · intro x hx
    rcases List.mem_append.1 hx with hx | hx
    · have := h2 x hx; show f r ≤ _; omega
    · simp at hx; subst hx; exact Int.le_refl _
  · show [r] = (L ++ [r]).filter (fun x => decide (f x = f r ∧ f r < 1000))
    have : L.filter (fun x => decide (f x = f r ∧ f r < 1000)) = [] := by
      rw [List.filter_eq_nil_iff]
      intro x hx
      have := h2 x hx
      simp; intro; omega
    have h9 : f r < 1000 := by omega
    rw [List.filter_append, this, List.nil_append, List.filter_cons_of_pos (by simp [h9])]
    rfl
  · intro x hx
    rcases List.mem_append.1 hx with hx | hx
    · exact h2 x hx
    · simp at hx; subst hx; show p.2 ≤ _; omega
  · show p.1 ++ [r] = _
    rw [List.filter_append, ← h3]
    have h9 : p.2 < 1000 := by omega
    rw [List.filter_cons_of_pos (by simp [hr, h9])]
    rfl
  · intro x hx
    rcases List.mem_append.1 hx with hx | hx
    · exact h2 x hx
    · simp at hx; subst hx; omega
  · rw [List.filter_append, ← h3]
    have : [r].filter (fun x => decide (f x = p.2 ∧ p.2 < 1000)) = [] := by
      rw [List.filter_eq_nil_iff]
      intro x hx
      simp at hx; subst hx
      simp; omega
    rw [this, List.append_nil]
  · exact h4.imp id fun ⟨x, hx, e⟩ => ⟨x, by simp [hx], e⟩
theorem Lst.nil {α : Type} (f : α → Int) : Lst f ([] : List α) ([], 1000) := ⟨by simp, by simp, by simp, .inl rfl⟩
theorem leastR_lst (l : List (List Int)) (L : List (List Int)) : Lst (fun r => sumErrs r l) L (leastR L l) := by
  have : ∀ n (L : List (List Int)), L.length = n → Lst (fun r => sumErrs r l) L (leastR L l) := by
    intro n
    induction n with
    | zero => intro L h; rw [List.eq_nil_of_length_eq_zero h]; exact Lst.nil _
    | succ n ih =>
      intro L h
      obtain ⟨L', r, rfl⟩ : ∃ L' r, L = L' ++ [r] := by
        rcases List.eq_nil_or_concat L with h0 | ⟨L', r, h0⟩
        · rw [h0] at h; simp at h
        · exact ⟨L', r, by rw [h0]; simp⟩
      have h' := ih L' (by simpa using h)
      rw [leastR_snoc]
      generalize leastR L' l = p at h'
      obtain ⟨s1, s2, s3⟩ := h'.step (r := r)
      unfold leastStep
      by_cases h1 : sumErrs r l < p.2
      · have h5 := h'.1
        simp only [h1, if_true]
        rw [if_pos ⟨trivial, by omega⟩]
        exact s1 h1
      · simp only [h1, if_false]
        by_cases h2 : sumErrs r l = p.2 ∧ sumErrs r l < 1000
        · rw [if_pos h2]
          exact s2 h2.1 h2.2
        · rw [if_neg h2]
          exact s3 (by omega)
  exact this _ L rfl
theorem fewestB_lst (f : ByteArray → Int) (L : List ByteArray) : Lst f L (fewestB f L) := by
  have : ∀ n, n ≤ L.length → Lst f (L.take n) (fewTo f L n) := by
    intro n
    induction n with
    | zero => intro _; simpa [fewTo] using Lst.nil f
    | succ n ih =>
      intro h
      have hx : L[n]? = some L[n] := by simp
      have h' := ih (by omega)
      rw [fewTo_succ hx, take_get hx]
      generalize fewTo f L n = p at h'
      obtain ⟨s1, s2, s3⟩ := h'.step (r := L[n])
      have h5 := h'.1
      by_cases h1 : f L[n] < p.2
      · rw [fewStep_lt h1 (by omega)]; exact s1 h1
      · by_cases h2 : f L[n] = p.2 ∧ f L[n] < 1000
        · rw [fewStep_eq h2.1 h2.2]; exact s2 h2.1 h2.2
        · rw [fewStep_gt (by omega)]; exact s3 (by omega)
  have h := this L.length (Nat.le_refl _)
  rw [List.take_length, fewTo_all (by omega)] at h
  exact h
/-- Of the same numbers the same comes out. -/
theorem Lst.map {α β : Type} {g : α → β} {f : α → Int} {f' : β → Int} {L : List α} {p : List α × Int} {q : List β × Int} (h : Lst f L p) (k : Lst f' (L.map g) q) (hf : ∀ r ∈ L, f' (g r) = f r) : q = (p.1.map g, p.2) := by
  obtain ⟨h1, h2, h3, h4⟩ := h
  obtain ⟨k1, k2, k3, k4⟩ := k
  have he : q.2 = p.2 := by
    have a1 : q.2 ≤ p.2 := by
      rcases h4 with h4 | ⟨r, hr, h4⟩
      · omega
      · have := k2 (g r) (List.mem_map_of_mem hr); rw [hf r hr] at this; omega
    have a2 : p.2 ≤ q.2 := by
      rcases k4 with k4 | ⟨r, hr, k4⟩
      · omega
      · obtain ⟨x, hx, rfl⟩ := List.mem_map.1 hr
        have := h2 x hx; rw [hf x hx] at k4; omega
    omega
  refine Prod.ext ?_ he
  show q.1 = p.1.map g
  rw [k3, h3, he, List.filter_map]
  congr 1
  refine List.filter_congr fun x hx => ?_
  simp [hf x hx]
theorem intsB_eq (r : ByteArray) : intsB r = intsL r.data.toList := rfl
/-- A sheet more. -/
theorem few_leave (l : List ByteArray) (s : ByteArray) (hl : ∀ r ∈ l, r.size ≤ 1000) :
    leastR (l.map intsB) [intsB s] = ((fewestB (fun r => errorsB r.data.toList s.data.toList) l).1.map intsB, (fewestB (fun r => errorsB r.data.toList s.data.toList) l).2) := by
  refine (fewestB_lst _ l).map (leastR_lst [intsB s] (l.map intsB)) fun r hr => ?_
  rw [errorsB_errs _ _ (by rw [size_list]; exact hl r hr)]
  simp [sumErrs, intsB_eq]
theorem sorted_ext {α : Type} {lt : α → α → Prop} (irr : ∀ x, ¬ lt x x) (asy : ∀ x y, lt x y → ¬ lt y x) : ∀ (l m : List α), l.Pairwise lt → m.Pairwise lt → (∀ x, x ∈ l ↔ x ∈ m) → l = m
  | [], [], _, _, _ => rfl
  | [], y :: m, _, _, h => by have := (h y).2 (by simp); cases this
  | x :: l, [], _, _, h => by have := (h x).1 (by simp); cases this
  | x :: l, y :: m, h1, h2, h => by
    obtain ⟨a1, a2⟩ := List.pairwise_cons.1 h1
    obtain ⟨b1, b2⟩ := List.pairwise_cons.1 h2
    have e : x = y := by
      rcases List.mem_cons.1 ((h x).1 (by simp)) with e | hx
      · exact e
      · rcases List.mem_cons.1 ((h y).2 (by simp)) with e | hy
        · exact e.symm
        · exact absurd (b1 x hx) (asy _ _ (a1 y hy))
    subst e
    rw [sorted_ext irr asy l m a2 b2 fun z => ?_]
    have hz := h z
    simp only [List.mem_cons] at hz
    constructor
    · intro hl
      rcases hz.1 (.inr hl) with e | hm
      · subst e; exact absurd (a1 _ hl) (irr _)
      · exact hm
    · intro hm
      rcases hz.2 (.inr hm) with e | hl
      · subst e; exact absurd (b1 _ hm) (irr _)
      · exact hl
theorem app_lt : ∀ (b u v : List Int), u < v → b ++ u < b ++ v
  | [], _, _, h => h
  | _ :: b, u, v, h => List.cons_lt_cons_iff.2 (.inr ⟨rfl, app_lt b u v h⟩)
theorem mem_alls (P : Nat) : ∀ (n : Nat) (b t : List Int), t ∈ alls P n b ↔ ∃ u, t = b ++ u ∧ u.length ≤ n ∧ ∀ x ∈ u, 0 ≤ x ∧ x < P
  | 0, b, t => by
    simp only [alls, List.mem_singleton, Nat.le_zero_eq]
    constructor
    · rintro rfl; exact ⟨[], by simp, rfl, by simp⟩
    · rintro ⟨u, rfl, hu, _⟩; rw [List.eq_nil_of_length_eq_zero hu]; simp
  | n + 1, b, t => by
    simp only [alls, List.mem_cons, List.mem_flatMap, List.mem_range]
    constructor
    · rintro (rfl | ⟨p, hp, ht⟩)
      · exact ⟨[], by simp, by simp, by simp⟩
      · obtain ⟨u, rfl, hu, hx⟩ := (mem_alls P n _ t).1 ht
        refine ⟨(p : Int) :: u, by simp, by simp only [List.length_cons]; omega, fun x hxm => ?_⟩
        rcases List.mem_cons.1 hxm with rfl | hxm
        · omega
        · exact hx x hxm
    · rintro ⟨u, rfl, hu, hx⟩
      cases u with
      | nil => left; simp
      | cons y u =>
        right
        have hy := hx y (by simp)
        refine ⟨y.toNat, by omega, (mem_alls P n _ _).2 ⟨u, ?_, by simp only [List.length_cons] at hu; omega, fun x h => hx x (by simp [h])⟩⟩
        rw [Int.toNat_of_nonneg hy.1]; simp
theorem alls_sorted (P : Nat) : ∀ (n : Nat) (b : List Int), (alls P n b).Pairwise (· < ·)
  | 0, b => by simp [alls]
  | n + 1, b => by
    refine List.pairwise_cons.2 ⟨fun t ht => ?_, ?_⟩
    · obtain ⟨p, hp, ht⟩ := List.mem_flatMap.1 ht
      obtain ⟨u, rfl, _⟩ := (mem_alls P n _ t).1 ht
      rw [List.append_assoc]
      have := app_lt b [] ([(p : Int)] ++ u) (by simp)
      simpa using this
    · have : ∀ m, ((List.range m).flatMap fun (p : Nat) => alls P n (b ++ [(p : Int)])).Pairwise (· < ·) := by
        intro m
        induction m with
        | zero => simp
        | succ m ih =>
          rw [List.range_succ, List.flatMap_append]
          refine List.pairwise_append.2 ⟨ih, by simpa using alls_sorted P n (b ++ [(m : Int)]), fun t ht s hs => ?_⟩
          obtain ⟨p, hp, ht⟩ := List.mem_flatMap.1 ht
          obtain ⟨u, rfl, _⟩ := (mem_alls P n _ t).1 ht
          simp only [List.flatMap_cons, List.flatMap_nil, List.append_nil] at hs
          obtain ⟨v, rfl, _⟩ := (mem_alls P n _ s).1 hs
          have hpm := List.mem_range.1 hp
          rw [List.append_assoc, List.append_assoc]
          exact app_lt b _ _ (List.cons_lt_cons_iff.2 (.inl (by omega)))
      exact this P
theorem intsL_lt {x y : List UInt8} (h : x < y) : intsL x < intsL y := List.map_lt (fun a b h => by have := UInt8.lt_iff_toNat_lt.1 h; omega) h
theorem sortB_sorted (l : List ByteArray) (hn : l.Nodup) : ((sortB l).map intsB).Pairwise (· < ·) := by
  have h1 := List.pairwise_mergeSort (le := fun x y : List UInt8 => decide (x ≤ y)) (fun a b c h k => by simp only [decide_eq_true_eq] at *; exact List.le_trans h k) (fun a b => by simp only [Bool.or_eq_true, decide_eq_true_eq]; exact List.le_total a b) (l.map bytesL)
  have h2 : (sortL (l.map bytesL)).Nodup := by
    refine (List.mergeSort_perm _ _).nodup_iff.2 ?_
    exact List.Pairwise.map _ (fun x y hxy e => hxy (by rw [← ofL_bytesL x, ← ofL_bytesL y, e])) hn
  have h3 : (sortL (l.map bytesL)).Pairwise (· < ·) := by
    refine (List.Pairwise.and h1 h2).imp ?_
    rintro a b ⟨h, hne⟩
    rcases List.le_iff_lt_or_eq.1 (by simpa using h) with h | h
    · exact h
    · exact absurd h hne
  rw [sortB, List.map_map]
  refine List.Pairwise.map _ (fun a b h => ?_) h3
  show intsL (bytesL (ofL a)) < intsL (bytesL (ofL b))
  rw [bytesL_ofL, bytesL_ofL]
  exact intsL_lt h
theorem mem_sortB (l : List ByteArray) (t : ByteArray) : t ∈ sortB l ↔ t ∈ l := by
  unfold sortB
  rw [List.mem_map]
  constructor
  · rintro ⟨x, hx, rfl⟩
    obtain ⟨r, hr, rfl⟩ := List.mem_map.1 ((List.mergeSort_perm _ _).mem_iff.1 hx)
    rw [ofL_bytesL]; exact hr
  · intro h
    exact ⟨bytesL t, (List.mergeSort_perm _ _).mem_iff.2 (List.mem_map_of_mem h), ofL_bytesL t⟩
/-- All truths of two sheets. -/
theorem two_truths (P : Nat) (a b : ByteArray) (l : List ByteArray) (ha : a.size ≤ 6) (hb : b.size ≤ 6) (hP : P ≤ 255) (hpa : ∀ c ∈ a.data.toList, c.toNat < P) (hpb : ∀ c ∈ b.data.toList, c.toNat < P)
    (h : TruthList a.data.toList b.data.toList l) : leastR (alls P (a.size + b.size) []) [intsB a, intsB b] = (l.map intsB, ((dist a.data.toList b.data.toList : Nat) : Int)) := by
  obtain ⟨l0, hn, hm, rfl⟩ := h
  obtain ⟨k1, k2, k3, k4⟩ := leastR_lst [intsB a, intsB b] (alls P (a.size + b.size) [])
  have hla := size_list a
  have hlb := size_list b
  have hsum : ∀ r : List UInt8, sumErrs (intsL r) [intsB a, intsB b] = errs (intsL r) (intsL a.data.toList) + errs (intsL r) (intsL b.data.toList) := fun r => by simp [sumErrs, intsB_eq]
  have hin : ∀ t ∈ alls P (a.size + b.size) [], ∃ r : List UInt8, t = intsL r ∧ r.length ≤ 12 := fun t ht => by
    obtain ⟨u, hu0, hu, hx⟩ := (mem_alls P _ _ t).1 ht
    rw [List.nil_append] at hu0
    rw [hu0]
    refine ⟨u.map fun x => UInt8.ofNat x.toNat, ?_, by rw [List.length_map]; omega⟩
    rw [intsL, List.map_map]
    refine (List.map_id' u).symm.trans (List.map_congr_left fun x hxm => ?_)
    have := hx x hxm
    simp
    omega
  have hmem : ∀ r : List UInt8, IsT r a.data.toList b.data.toList → intsL r ∈ alls P (a.size + b.size) [] := fun r hr => by
    refine (mem_alls P _ _ _).2 ⟨intsL r, by simp, ?_, fun x hx => ?_⟩
    · have := isT_len r _ _ hr; rw [intsL, List.length_map]; omega
    · obtain ⟨c, hc, rfl⟩ := List.mem_map.1 hx
      have : c.toNat < P := (isT_mem r _ _ hr c hc).elim (hpa c) (hpb c)
      omega
  have hd := dist_le a.data.toList b.data.toList
  obtain ⟨r0, hr0⟩ := isT_ex _ a.data.toList b.data.toList (Nat.le_refl _)
  have he : (leastR (alls P (a.size + b.size) []) [intsB a, intsB b]).2 = (dist a.data.toList b.data.toList : Nat) := by
    have a1 : (leastR (alls P (a.size + b.size) []) [intsB a, intsB b]).2 ≤ sumErrs (intsL r0) [intsB a, intsB b] := k2 _ (hmem r0 hr0)
    have a0 := (errs_two r0 a.data.toList b.data.toList (by have := isT_len r0 _ _ hr0; omega) (by omega)).2.2 hr0
    rw [hsum] at a1
    have a2 : ((dist a.data.toList b.data.toList : Nat) : Int) ≤ (leastR (alls P (a.size + b.size) []) [intsB a, intsB b]).2 := by
      rcases k4 with k4 | ⟨t, ht, k4⟩
      · omega
      · obtain ⟨r, rfl, hrl⟩ := hin t ht
        have := (errs_two r a.data.toList b.data.toList (by omega) (by omega)).1
        have k5 : sumErrs (intsL r) [intsB a, intsB b] = _ := k4
        rw [hsum] at k5
        omega
    omega
  refine Prod.ext ?_ he
  show (leastR (alls P (a.size + b.size) []) [intsB a, intsB b]).1 = (sortB l0).map intsB
  rw [k3]
  refine sorted_ext (lt := (· < ·)) List.lt_irrefl (fun x y h => List.lt_asymm h) _ _ ((alls_sorted P _ []).filter _) (sortB_sorted l0 hn) fun t => ?_
  rw [List.mem_filter, he, List.mem_map]
  constructor
  · rintro ⟨ht, hs⟩
    obtain ⟨r, rfl, hrl⟩ := hin t ht
    simp only [decide_eq_true_eq, hsum] at hs
    have hT := (errs_two r a.data.toList b.data.toList (by omega) (by omega)).2.1 hs.1
    refine ⟨⟨r.toArray⟩, (mem_sortB _ _).2 ((hm _).2 (by simpa using hT)), by simp [intsB_eq]⟩
  · rintro ⟨r, hr, rfl⟩
    have hT := (hm r).1 ((mem_sortB _ _).1 hr)
    rw [intsB_eq]
    refine ⟨hmem _ hT, ?_⟩
    simp only [decide_eq_true_eq, hsum]
    exact ⟨(errs_two _ a.data.toList b.data.toList (by have := isT_len _ _ _ hT; omega) (by omega)).2.2 hT, by omega⟩
end Go.Proofs.Yteijilbdllpbcaa
