/- Plain laws of chases: the document's orders, the first of them, and what settles the final. Conditions: none. -/
import Derived.Test.YtbeglemohfbdfaaGreatCpK
namespace Go.Proofs.YtbeglemohfbdfaaGreat

def ordStep (acc : List (List Nat)) (t : List Int) : List (List Nat) := if acc.contains (ordL t) = true then acc else acc ++ [ordL t]
/-- All orders of some truths, each once. -/
def ordsTo (L : List (List Int)) (k : Nat) : List (List Nat) := (L.take k).foldl ordStep []
def ordsL (L : List (List Int)) : List (List Nat) := L.foldl ordStep []
theorem ordsTo_all {L : List (List Int)} : ordsTo L L.length = ordsL L := by unfold ordsTo ordsL; rw [List.take_length]
theorem ords_facts : ∀ (L : List (List Int)) (acc : List (List Nat)), acc.Nodup → (L.foldl ordStep acc).Nodup ∧ (∀ o, o ∈ L.foldl ordStep acc ↔ o ∈ acc ∨ ∃ t ∈ L, ordL t = o) ∧ (L.foldl ordStep acc).length ≤ acc.length + L.length
  | [], acc, h => ⟨h, by simp, by simp⟩
  | t :: L, acc, h => by
    rw [List.foldl_cons]
    by_cases hc : acc.contains (ordL t) = true
    · have hs : ordStep acc t = acc := if_pos hc
      rw [hs]
      obtain ⟨h1, h2, h3⟩ := ords_facts L acc h
      refine ⟨h1, fun o => ?_, by simp; omega⟩
      rw [h2]
      rw [List.contains_iff_mem] at hc
      simp only [List.mem_cons, exists_eq_or_imp]
      constructor
      · rintro (h | h)
        · exact .inl h
        · exact .inr (.inr h)
      · rintro (h | h | h)
        · exact .inl h
        · exact .inl (by rw [← h]; exact hc)
        · exact .inr h
    · have hs : ordStep acc t = acc ++ [ordL t] := if_neg hc
      rw [hs]
      have hn : (acc ++ [ordL t]).Nodup := by
        rw [List.nodup_append]
        refine ⟨h, by simp, fun a ha b hb e => ?_⟩
        rw [List.mem_singleton] at hb
        subst e
        subst hb
        exact hc (List.contains_iff_mem.2 ha)
      obtain ⟨h1, h2, h3⟩ := ords_facts L _ hn
      refine ⟨h1, fun o => ?_, by simp at h3 ⊢; omega⟩
      rw [h2]
      simp only [List.mem_append, List.mem_cons, exists_eq_or_imp]
      constructor
      · rintro ((h | h | h) | h)
        · exact .inl h
        · exact .inr (.inl h.symm)
        · cases h
        · exact .inr (.inr h)
      · rintro (h | h | h)
        · exact .inl (.inl h)
        · exact .inl (.inr (.inl h.symm))
        · exact .inr h
theorem mem_ords {ks : List (Int × Int)} {L : List (List Int)} (h0 : ∀ p, p < ks.length → 0 ≤ lo ks p) (hL : ∀ t, t ∈ L ↔ Tr ks t) (o : List Nat) : o ∈ ordsL L ↔ o ∈ ordersL ks := by
  unfold ordsL
  rw [(ords_facts L [] List.nodup_nil).2.1, mem_orders h0]
  constructor
  · rintro (h | ⟨t, ht, rfl⟩)
    · cases h
    · exact ⟨t, (hL t).1 ht, ordL_srt t⟩
  · rintro ⟨t, ht, hs⟩
    exact .inr ⟨t, (hL t).2 ht, srt_unique (ordL_srt t) hs⟩
theorem ords_len {ks : List (Int × Int)} {L : List (List Int)} (h0 : ∀ p, p < ks.length → 0 ≤ lo ks p) (hL : ∀ t, t ∈ L ↔ Tr ks t) : (ordsL L).length = (ordersL ks).length := by
  have h1 := nodup_le (ordsL L) (ordersL ks) (ords_facts L [] List.nodup_nil).1 fun o ho => (mem_ords h0 hL o).1 ho
  have h2 := nodup_le (ordersL ks) (ordsL L) (orders_nodup ks) fun o ho => (mem_ords h0 hL o).2 ho
  omega
theorem ordsTo_succ {L : List (List Int)} {k : Nat} {t : List Int} (h : L[k]? = some t) : ordsTo L (k + 1) = ordStep (ordsTo L k) t := by
  unfold ordsTo
  rw [List.take_add_one, h, List.foldl_append]
  rfl
theorem ordsTo_len (L : List (List Int)) (k : Nat) : (ordsTo L k).length ≤ k := by
  unfold ordsTo
  have := (ords_facts (L.take k) [] List.nodup_nil).2.2
  simp at this
  omega
theorem ordsTo_mem {L : List (List Int)} {k : Nat} {o : List Nat} (h : o ∈ ordsTo L k) : ∃ t ∈ L, ordL t = o := by
  unfold ordsTo at h
  rcases ((ords_facts (L.take k) [] List.nodup_nil).2.1 o).1 h with h | ⟨t, ht, e⟩
  · cases h
  · exact ⟨t, List.mem_of_mem_take ht, e⟩
/-- Does a list come before another one? -/
def lltB : List Nat → List Nat → Bool
  | a :: l, b :: m => if a = b then lltB l m else decide (a < b)
  | _, _ => false
theorem lltB_iff : ∀ (a b : List Nat), lltB a b = true ↔ llt a b
  | [], b => by cases b <;> simp [lltB, llt]
  | a :: l, [] => by simp [lltB, llt]
  | a :: l, b :: m => by
    unfold lltB llt
    by_cases h : a = b
    · rw [if_pos h, lltB_iff l m]
      constructor
      · exact fun k => .inr ⟨h, k⟩
      · rintro (k | k)
        · omega
        · exact k.2
    · rw [if_neg h, decide_eq_true_eq]
      constructor
      · exact fun k => .inl k
      · rintro (k | k)
        · exact k
        · exact absurd k.1 h
theorem lltB_at {a b : List Nat} {k x y : Nat} : a.take k = b.take k → a[k]? = some x → b[k]? = some y → x ≠ y → lltB a b = decide (x < y) := by
  induction k generalizing a b with
  | zero =>
    intro _ hx hy hne
    cases a with
    | nil => simp at hx
    | cons p a =>
      cases b with
      | nil => simp at hy
      | cons q b =>
        simp at hx hy
        subst hx hy
        unfold lltB
        rw [if_neg hne]
  | succ k ih =>
    intro ht hx hy hne
    cases a with
    | nil => simp at hx
    | cons p a =>
      cases b with
      | nil => simp at hy
      | cons q b =>
        simp only [List.take_succ_cons, List.cons.injEq] at ht
        unfold lltB
        rw [if_pos ht.1]
        exact ih ht.2 (by simpa using hx) (by simpa using hy) hne
theorem lltB_same : ∀ (a : List Nat), lltB a a = false
  | [] => rfl
  | a :: l => by unfold lltB; rw [if_pos rfl]; exact lltB_same l
theorem llt_trans : ∀ {a b c : List Nat}, llt a b → llt b c → llt a c
  | [], _, _, h, _ => h.elim
  | _ :: _, [], _, h, _ => h.elim
  | _ :: _, _ :: _, [], _, h => h.elim
  | a :: l, b :: m, c :: n, h, k => by
    rcases h with h | h <;> rcases k with k | k
    · exact .inl (by omega)
    · exact .inl (by omega)
    · exact .inl (by omega)
    · exact .inr ⟨by omega, llt_trans h.2 k.2⟩
def bestStep (b o : List Nat) : List Nat := if lltB o b = true then o else b
def bestTo (A : List (List Nat)) (k : Nat) : List Nat := (A.take k).foldl bestStep (A.headD [])
theorem bestTo_succ {A : List (List Nat)} {k : Nat} {o : List Nat} (h : A[k]? = some o) : bestTo A (k + 1) = bestStep (bestTo A k) o := by
  unfold bestTo
  rw [List.take_add_one, h, List.foldl_append]
  rfl
theorem best_facts : ∀ (A : List (List Nat)) (b : List Nat), (A.foldl bestStep b = b ∨ A.foldl bestStep b ∈ A) ∧ (∀ o ∈ A, ¬ llt o (A.foldl bestStep b)) ∧ ∀ x, ¬ llt x b → ¬ llt x (A.foldl bestStep b)
  | [], b => ⟨.inl rfl, fun o h => (nomatch h), fun x h => h⟩
  | o :: A, b => by
    rw [List.foldl_cons]
    by_cases hc : lltB o b = true
    · have hs : bestStep b o = o := if_pos hc
      rw [hs]
      obtain ⟨h1, h2, h3⟩ := best_facts A o
      refine ⟨.inr ?_, fun x hx => ?_, fun x hx => h3 x fun h => hx (llt_trans h ((lltB_iff _ _).1 hc))⟩
      · rcases h1 with h1 | h1
        · rw [h1]; simp
        · exact List.mem_cons_of_mem _ h1
      · rcases List.mem_cons.1 hx with rfl | hx
        · exact h3 x (llt_irrefl x)
        · exact h2 x hx
    · have hs : bestStep b o = b := if_neg hc
      rw [hs]
      obtain ⟨h1, h2, h3⟩ := best_facts A b
      refine ⟨h1.imp id (List.mem_cons_of_mem _), fun x hx => ?_, h3⟩
      rcases List.mem_cons.1 hx with rfl | hx
      · exact h3 x fun h => hc ((lltB_iff _ _).2 h)
      · exact h2 x hx
/-- The first order. -/
theorem best_first {ks : List (Int × Int)} {L : List (List Int)} (h0 : ∀ p, p < ks.length → 0 ≤ lo ks p) (hf : Feas ks) (hL : ∀ t, t ∈ L ↔ Tr ks t) : bestTo (ordsL L) (ordsL L).length = (ordersL ks).headD [] := by
  have hne : ordsL L ≠ [] := fun e => by
    have h1 := ords_len h0 hL
    rw [e] at h1
    exact orders_ne h0 hf (List.eq_nil_of_length_eq_zero h1.symm)
  obtain ⟨h1, h2, _⟩ := best_facts (ordsL L) ((ordsL L).headD [])
  unfold bestTo
  rw [List.take_length]
  have hm : (ordsL L).foldl bestStep ((ordsL L).headD []) ∈ ordsL L := by
    rcases h1 with h1 | h1
    · rw [h1]
      cases hA : ordsL L with
      | nil => exact absurd hA hne
      | cons a r => simp
    · exact h1
  have hh : (ordersL ks).headD [] ∈ ordsL L := by
    refine (mem_ords h0 hL _).2 ?_
    cases hA : ordersL ks with
    | nil => exact absurd hA (orders_ne h0 hf)
    | cons a r => simp
  rcases orders_first ((mem_ords h0 hL _).1 hm) with e | e
  · exact e
  · exact absurd e (h2 _ hh)
/-- Is the final settled, by some truths? -/
def settledS (L : List (List Int)) (F : Int) (n : Nat) : Bool := (List.range n).all fun p => decide (finalS L F p ≠ 1)
theorem settledS_eq {ks : List (Int × Int)} {L : List (List Int)} (h0 : ∀ p, p < ks.length → 0 ≤ lo ks p) (hf : Feas ks) (hL : ∀ t, t ∈ L ↔ Tr ks t) (F : Int) : settledS L F ks.length = settledB ks F := by
  unfold settledS settledB
  rw [Bool.eq_iff_iff, List.all_eq_true, List.all_eq_true]
  constructor
  · intro h p hp
    have h2 := h p hp
    rwa [finalS_eq h0 hf hL (List.mem_range.1 hp), finalV_eq h0 hf (List.mem_range.1 hp)] at h2
  · intro h p hp
    have h2 := h p hp
    rwa [finalS_eq h0 hf hL (List.mem_range.1 hp), finalV_eq h0 hf (List.mem_range.1 hp)]
def someTo (L : List (List Int)) (p : Nat) (t : Int) (k : Nat) : List (List Int) := (L.take k).filter fun u => tm u p == t
theorem someTo_succ {L : List (List Int)} {p : Nat} {t : Int} {k : Nat} {u : List Int} (h : L[k]? = some u) : someTo L p t (k + 1) = someTo L p t k ++ if (tm u p == t) = true then [u] else [] := by
  unfold someTo
  rw [List.take_add_one, h, List.filter_append]
  congr 1
  simp [List.filter_cons]
def someL (L : List (List Int)) (p : Nat) (t : Int) : List (List Int) := L.filter fun u => tm u p == t
/-- Does a pair's time settle the final, by some truths? -/
def settlesTo (L : List (List Int)) (F : Int) (n p : Nat) (T : List Int) (k : Nat) : Bool := (T.take k).all fun t => settledS (someL L p t) F n
theorem settlesTo_succ {L : List (List Int)} {F : Int} {n p : Nat} {T : List Int} {k : Nat} {t : Int} (h : T[k]? = some t) : settlesTo L F n p T (k + 1) = (settlesTo L F n p T k && settledS (someL L p t) F n) := by
  unfold settlesTo
  rw [List.take_add_one, h, List.all_append]
  simp
theorem some_tr {ks : List (Int × Int)} {L : List (List Int)} (hL : ∀ t, t ∈ L ↔ Tr ks t) {p : Nat} (hp : p < ks.length) {t : Int} (h1 : lo ks p ≤ t) (h2 : t ≤ hi ks p) (u : List Int) : u ∈ someL L p t ↔ Tr (ks.set p (t, t)) u := by
  unfold someL
  rw [List.mem_filter, hL, beq_iff_eq]
  unfold Tr
  rw [List.length_set]
  have hlo : ∀ i, lo (ks.set p (t, t)) i = if i = p then t else lo ks i := fun i => by
    unfold lo
    by_cases e : i = p
    · subst e; rw [List.getElem?_set_self hp, if_pos rfl]; rfl
    · rw [List.getElem?_set_ne (fun h => e h.symm), if_neg e]
  have hhi : ∀ i, hi (ks.set p (t, t)) i = if i = p then t else hi ks i := fun i => by
    unfold hi
    by_cases e : i = p
    · subst e; rw [List.getElem?_set_self hp, if_pos rfl]; rfl
    · rw [List.getElem?_set_ne (fun h => e h.symm), if_neg e]
  constructor
  · rintro ⟨⟨a, b⟩, c⟩
    refine ⟨a, fun i hi0 => ?_⟩
    rw [hlo, hhi]
    by_cases e : i = p
    · subst e; rw [if_pos rfl, if_pos rfl]; omega
    · rw [if_neg e, if_neg e]; exact b i hi0
  · rintro ⟨a, b⟩
    have hb := b p hp
    rw [hlo, hhi, if_pos rfl, if_pos rfl] at hb
    refine ⟨⟨a, fun i hi0 => ?_⟩, by omega⟩
    by_cases e : i = p
    · subst e; omega
    · have := b i hi0
      rw [hlo, hhi, if_neg e, if_neg e] at this
      exact this
theorem settles_eq {ks : List (Int × Int)} {L : List (List Int)} (h0 : ∀ p, p < ks.length → 0 ≤ lo ks p) (hf : Feas ks) (hL : ∀ t, t ∈ L ↔ Tr ks t) {F : Int} {p : Nat} (hp : p < ks.length) {T : List Int} (hT : ∀ t, t ∈ T ↔ lo ks p ≤ t ∧ t ≤ hi ks p) : settlesTo L F ks.length p T T.length = settlesB ks F p := by
  have key : ∀ t, lo ks p ≤ t → t ≤ hi ks p → settledS (someL L p t) F ks.length = settledB (ks.set p (t, t)) F := fun t h1 h2 => by
    have hlo : ∀ i, i < (ks.set p (t, t)).length → 0 ≤ lo (ks.set p (t, t)) i := fun i hi0 => by
      rw [List.length_set] at hi0
      unfold lo
      by_cases e : i = p
      · subst e; rw [List.getElem?_set_self hp]; have := h0 i hp; show 0 ≤ t; omega
      · rw [List.getElem?_set_ne (fun h => e h.symm)]; exact h0 i hi0
    have hfe : Feas (ks.set p (t, t)) := by
      rw [← feasB_iff] at hf ⊢
      unfold feasB at hf ⊢
      rw [List.all_eq_true] at hf ⊢
      intro k hk
      rcases List.mem_or_eq_of_mem_set hk with hk | rfl
      · exact hf k hk
      · simp
    have := settledS_eq hlo hfe (some_tr hL hp h1 h2) F
    rwa [List.length_set] at this
  unfold settlesTo
  rw [List.take_length, Bool.eq_iff_iff, List.all_eq_true, settlesB_iff]
  unfold settlesP
  constructor
  · intro h t h1 h2
    rw [← key t h1 h2]
    exact h t ((hT t).2 ⟨h1, h2⟩)
  · intro h t ht
    obtain ⟨h1, h2⟩ := (hT t).1 ht
    rw [key t h1 h2]
    exact h t h1 h2
end Go.Proofs.YtbeglemohfbdfaaGreat
