/- Plain laws of chases: the document's own results: all truths, and what is told of them. Conditions: none. -/
import Derived.Test.YtbeglemohfbdfaaGreatCpE
import Derived.Test.YtbeglemohfbdfaaGreatQpZ
namespace Go.Proofs.YtbeglemohfbdfaaGreat

/-- Are the watches of a set right of a time? -/
def rightT (E : Int) (l : List Int) (s : Nat) (t : Int) : Bool := (List.range l.length).all fun i => !(s.testBit i) || inB (l[i]?.getD 0 - t) (-E) E
def timesTo (E : Int) (l : List Int) (s k : Nat) : List Int := ((List.range k).filter fun t : Nat => rightT E l s t).map fun t : Nat => (t : Int)
/-- All times with which the watches of a set are right. -/
def timesL (E : Int) (l : List Int) (s : Nat) : List Int := timesTo E l s 204
theorem timesTo_succ (E : Int) (l : List Int) (s k : Nat) : timesTo E l s (k + 1) = timesTo E l s k ++ if rightT E l s k = true then [(k : Int)] else [] := by
  unfold timesTo
  rw [List.range_succ, List.filter_append, List.map_append]
  by_cases h : rightT E l s (k : Int) = true
  · simp [h]
  · simp [h]
theorem rightT_iff {E : Int} {l : List Int} {s : Nat} {t : Int} : rightT E l s t = true ↔ ∀ (i : Nat) (n : Int), l[i]? = some n → s.testBit i = true → n - E ≤ t ∧ t ≤ n + E := by
  unfold rightT
  rw [List.all_eq_true]
  constructor
  · intro h i n hi hb
    have := h i (List.mem_range.2 (List.getElem?_eq_some_iff.1 hi).1)
    rw [hi, hb] at this
    simp only [Bool.not_true, Bool.false_or, Option.getD_some] at this
    have := inB_true.1 this
    omega
  · intro h i hi
    have hi := List.mem_range.1 hi
    cases hb : s.testBit i
    · rfl
    · have := h i l[i] (List.getElem?_eq_getElem hi) hb
      rw [List.getElem?_eq_getElem hi]
      simp only [Bool.not_true, Bool.false_or, Option.getD_some]
      exact inB_true.2 (by omega)
theorem mem_times {E : Int} {l : List Int} {s : Nat} {t : Int} : t ∈ timesL E l s ↔ (0 ≤ t ∧ t ≤ 203) ∧ rightT E l s t = true := by
  unfold timesL timesTo
  simp only [List.mem_map, List.mem_filter, List.mem_range]
  constructor
  · rintro ⟨k, ⟨h1, h2⟩, rfl⟩
    exact ⟨by omega, h2⟩
  · rintro ⟨h1, h2⟩
    exact ⟨t.toNat, ⟨by omega, by rw [Int.toNat_of_nonneg h1.1]; exact h2⟩, Int.toNat_of_nonneg h1.1⟩
theorem mem_times_all {E : Int} {l : List Int} {t : Int} : t ∈ timesL E l (2 ^ l.length - 1) ↔ loOf E l ≤ t ∧ t ≤ hiOf E l := by
  rw [mem_times, span_iff, rightT_iff]
  refine and_congr_right fun _ => ⟨fun h n hn => ?_, fun h i n hi _ => h n (List.mem_of_getElem? hi)⟩
  obtain ⟨i, hi, rfl⟩ := List.getElem_of_mem hn
  exact h i _ (List.getElem?_eq_getElem hi) (by rw [Nat.testBit_two_pow_sub_one]; simpa using hi)
theorem times_ne {E : Int} {l : List Int} {s : Nat} (hl : l.length ≤ 3) (hs : s < 2 ^ l.length) : (timesL E l (2 ^ l.length - 1 - s) ≠ []) ↔ rightB E l s = true := by
  rw [rightB_iff]
  have hbit : ∀ i, i < l.length → (2 ^ l.length - 1 - s).testBit i = !s.testBit i := by
    have key : ∀ n : Fin 4, ∀ s : Fin 8, s.1 < 2 ^ n.1 → ∀ i : Fin 3, i.1 < n.1 → (2 ^ n.1 - 1 - s.1).testBit i.1 = !s.1.testBit i.1 := by decide
    intro i hi
    have h8 : s < 8 := Nat.lt_of_lt_of_le hs (Nat.le_trans (Nat.pow_le_pow_right (by decide) hl) (by decide))
    exact key ⟨l.length, by omega⟩ ⟨s, h8⟩ hs ⟨i, by omega⟩ hi
  constructor
  · intro h
    obtain ⟨t, r, e⟩ := List.exists_cons_of_ne_nil h
    obtain ⟨h1, h2⟩ := mem_times.1 (show t ∈ timesL E l (2 ^ l.length - 1 - s) by rw [e]; simp)
    refine ⟨t, h1, fun i n hi hb => rightT_iff.1 h2 i n hi ?_⟩
    rw [hbit i (List.getElem?_eq_some_iff.1 hi).1, hb]
    rfl
  · rintro ⟨t, h1, h2⟩ e
    have : t ∈ timesL E l (2 ^ l.length - 1 - s) := mem_times.2 ⟨h1, rightT_iff.2 fun i n hi hb => h2 i n hi (by
      rw [hbit i (List.getElem?_eq_some_iff.1 hi).1] at hb
      simpa using hb)⟩
    rw [e] at this
    cases this
theorem times_nodup (E : Int) (l : List Int) (s : Nat) : (timesL E l s).Nodup := by
  unfold timesL timesTo
  rw [List.nodup_iff_pairwise_ne, List.pairwise_map]
  exact (List.Pairwise.filter _ (List.nodup_iff_pairwise_ne.1 List.nodup_range)).imp fun h e => h (Int.ofNat.inj e)
theorem times_len {E : Int} {l : List Int} (hE : 0 ≤ E ∧ E ≤ 3) (h1 : 1 ≤ l.length) : (timesL E l (2 ^ l.length - 1)).length ≤ 7 := by
  obtain ⟨n, m, rfl⟩ : ∃ n m, l = n :: m := by
    cases l with
    | nil => simp at h1
    | cons n m => exact ⟨n, m, rfl⟩
  have a := loOf_mem (E := E) (l := n :: m) (n := n) (by simp)
  have b := hiOf_mem (E := E) (l := n :: m) (n := n) (by simp)
  have := nodup_le (timesL E (n :: m) (2 ^ (n :: m).length - 1)) ((List.range 7).map fun i : Nat => n - 3 + (i : Int)) (times_nodup _ _ _) fun t ht => by
    have := mem_times_all.1 ht
    exact List.mem_map.2 ⟨(t - (n - 3)).toNat, List.mem_range.2 (by omega), by omega⟩
  simpa using this

/-- All lists that take one of each. -/
def prodL : List (List Int) → List (List Int)
  | [] => [[]]
  | x :: r => x.flatMap fun t => (prodL r).map (t :: ·)
theorem mem_prod : ∀ {T : List (List Int)} {t : List Int}, t ∈ prodL T ↔ t.length = T.length ∧ ∀ (i : Nat) (x : List Int), T[i]? = some x → tm t i ∈ x
  | [], t => by
    simp only [prodL, List.mem_singleton, List.length_nil, List.getElem?_nil]
    exact ⟨fun h => by subst h; exact ⟨rfl, fun i x hx => nomatch hx⟩, fun h => List.eq_nil_of_length_eq_zero h.1⟩
  | x :: r, t => by
    simp only [prodL, List.mem_flatMap, List.mem_map]
    constructor
    · rintro ⟨a, ha, u, hu, rfl⟩
      obtain ⟨h1, h2⟩ := mem_prod.1 hu
      refine ⟨by simp [h1], fun i y hy => ?_⟩
      cases i with
      | zero => simp at hy; subst hy; exact ha
      | succ i => exact h2 i y (by simpa using hy)
    · rintro ⟨h1, h2⟩
      cases t with
      | nil => simp at h1
      | cons a u =>
        exact ⟨a, h2 0 x rfl, u, mem_prod.2 ⟨by simpa using h1, fun i y hy => h2 (i + 1) y (by simpa using hy)⟩, rfl⟩
theorem prod_len : ∀ (T : List (List Int)), (∀ x ∈ T, x.length ≤ 7) → (prodL T).length ≤ 7 ^ T.length
  | [], _ => by simp [prodL]
  | x :: r, h => by
    have h1 := h x (by simp)
    have h2 := prod_len r fun y hy => h y (by simp [hy])
    rw [prodL, List.length_flatMap]
    refine Nat.le_trans (sum_le _ (7 ^ r.length) _ fun o _ => by rw [List.length_map]; exact h2) ?_
    rw [List.length_cons, Nat.pow_succ, Nat.mul_comm]
    exact Nat.mul_le_mul_left _ h1
/-- The times of each pair. -/
def allT (E : Int) (ss : List (List Int)) : List (List Int) := ss.map fun l => timesL E l (2 ^ l.length - 1)
/-- All truths. -/
def truthsL (E : Int) (ss : List (List Int)) : List (List Int) := prodL (allT E ss)
theorem mem_truths {E : Int} {ss : List (List Int)} {t : List Int} : t ∈ truthsL E ss ↔ Tr (clocksOf E ss) t := by
  unfold truthsL allT
  rw [mem_prod, List.length_map]
  unfold Tr
  rw [clocks_len]
  refine and_congr_right fun hl => ⟨fun h p hp => ?_, fun h i x hx => ?_⟩
  · have hx := List.getElem?_eq_getElem hp
    obtain ⟨e1, e2⟩ := clocks_get (E := E) hx
    rw [e1, e2]
    exact mem_times_all.1 (h p _ (by rw [List.getElem?_map, hx]; rfl))
  · rw [List.getElem?_map] at hx
    obtain ⟨l, hl2, rfl⟩ := Option.map_eq_some_iff.1 hx
    have hi := (List.getElem?_eq_some_iff.1 hl2).1
    obtain ⟨e1, e2⟩ := clocks_get (E := E) hl2
    have := h i hi
    rw [e1, e2] at this
    exact mem_times_all.2 this
theorem truths_ne {E : Int} {ss : List (List Int)} : (truthsL E ss ≠ []) ↔ feasB (clocksOf E ss) = true := by
  rw [feasB_iff]
  constructor
  · intro h p hp
    obtain ⟨t, r, e⟩ := List.exists_cons_of_ne_nil h
    have ht := mem_truths.1 (show t ∈ truthsL E ss by rw [e]; simp)
    have := ht.2 p hp
    omega
  · intro h e
    have := mem_truths.2 (low_truth h)
    rw [e] at this
    cases this
theorem truths_len {E F : Int} {ss : List (List Int)} (h : validB E F ss = true) : (truthsL E ss).length ≤ 117649 := by
  obtain ⟨hE, hn, _, hl⟩ := valid_parts h
  refine Nat.le_trans (prod_len _ fun x hx => ?_) (Nat.le_trans (Nat.pow_le_pow_right (by decide) (show (allT E ss).length ≤ 6 by simp [allT]; omega)) (by decide))
  unfold allT at hx
  obtain ⟨l, hl2, rfl⟩ := List.mem_map.1 hx
  exact times_len hE (hl l hl2).1.1

/-- The span of some numbers. -/
def hullL (l : List Int) : Int × Int := l.foldl (fun a x => (min a.1 x, max a.2 x)) (l.headD 0, l.headD 0)
theorem hull_fold : ∀ (l : List Int) (a : Int × Int), (∀ x ∈ l, (l.foldl (fun a x => (min a.1 x, max a.2 x)) a).1 ≤ x ∧ x ≤ (l.foldl (fun a x => (min a.1 x, max a.2 x)) a).2) ∧ (l.foldl (fun a x => (min a.1 x, max a.2 x)) a).1 ≤ a.1 ∧ a.2 ≤ (l.foldl (fun a x => (min a.1 x, max a.2 x)) a).2 ∧ ((l.foldl (fun a x => (min a.1 x, max a.2 x)) a).1 = a.1 ∨ (l.foldl (fun a x => (min a.1 x, max a.2 x)) a).1 ∈ l) ∧ ((l.foldl (fun a x => (min a.1 x, max a.2 x)) a).2 = a.2 ∨ (l.foldl (fun a x => (min a.1 x, max a.2 x)) a).2 ∈ l)
  | [], a => ⟨fun x h => (nomatch h), Int.le_refl _, Int.le_refl _, .inl rfl, .inl rfl⟩
  | y :: l, a => by
    obtain ⟨h1, h2, h3, h4, h5⟩ := hull_fold l (min a.1 y, max a.2 y)
    rw [List.foldl_cons]
    revert h1 h2 h3 h4 h5
    generalize l.foldl (fun a x => (min a.1 x, max a.2 x)) (min a.1 y, max a.2 y) = r
    intro h1 h2 h3 h4 h5
    dsimp only at h2 h3 h4 h5
    refine ⟨fun x hx => ?_, by omega, by omega, ?_, ?_⟩
    · rcases List.mem_cons.1 hx with rfl | hx
      · omega
      · exact h1 x hx
    · rcases h4 with h4 | h4
      · by_cases c : a.1 ≤ y
        · exact .inl (by omega)
        · exact .inr (by rw [show r.1 = y by omega]; simp)
      · exact .inr (by simp [h4])
    · rcases h5 with h5 | h5
      · by_cases c : y ≤ a.2
        · exact .inl (by omega)
        · exact .inr (by rw [show r.2 = y by omega]; simp)
      · exact .inr (by simp [h5])
theorem hull_eq {l : List Int} {x y : Int} (hx : x ∈ l) (hy : y ∈ l) (h : ∀ z ∈ l, x ≤ z ∧ z ≤ y) : hullL l = (x, y) := by
  cases l with
  | nil => cases hx
  | cons a r =>
    unfold hullL
    rw [List.headD_cons]
    obtain ⟨h1, h2, h3, h4, h5⟩ := hull_fold (a :: r) (a, a)
    revert h1 h2 h3 h4 h5
    generalize (a :: r).foldl (fun a x => (min a.1 x, max a.2 x)) (a, a) = q
    intro h1 h2 h3 h4 h5
    have ha := h a (by simp)
    have e1 := (h1 x hx).1
    have e2 := (h1 y hy).2
    have m1 : x ≤ q.1 := by
      rcases h4 with h4 | h4
      · rw [h4]; exact ha.1
      · exact (h _ h4).1
    have m2 : q.2 ≤ y := by
      rcases h5 with h5 | h5
      · rw [h5]; exact ha.2
      · exact (h _ h5).2
    exact Prod.ext (by omega) (by omega)
theorem time_hull {E : Int} {ss : List (List Int)} (hf : Feas (clocksOf E ss)) {p : Nat} (hp : p < (clocksOf E ss).length) : hullL ((truthsL E ss).map fun t => tm t p) = (lo (clocksOf E ss) p, hi (clocksOf E ss) p) := by
  obtain ⟨t, ht, e, _⟩ := place_lo hf hp
  obtain ⟨u, hu, e', _⟩ := place_hi hf hp
  refine hull_eq (List.mem_map.2 ⟨t, mem_truths.2 ht, e⟩) (List.mem_map.2 ⟨u, mem_truths.2 hu, e'⟩) fun z hz => ?_
  obtain ⟨v, hv, rfl⟩ := List.mem_map.1 hz
  exact (mem_truths.1 hv).2 p hp
theorem place_hull {E : Int} {ss : List (List Int)} (hf : Feas (clocksOf E ss)) {p : Nat} (hp : p < (clocksOf E ss).length) : hullL ((truthsL E ss).map fun t => (placeN t p : Int)) = ((placeLo (clocksOf E ss) p : Int), (placeHi (clocksOf E ss) p : Int)) := by
  obtain ⟨t, ht, _, e⟩ := place_lo hf hp
  obtain ⟨u, hu, _, e'⟩ := place_hi hf hp
  refine hull_eq (List.mem_map.2 ⟨t, mem_truths.2 ht, by rw [e]⟩) (List.mem_map.2 ⟨u, mem_truths.2 hu, by rw [e']⟩) fun z hz => ?_
  obtain ⟨v, hv, rfl⟩ := List.mem_map.1 hz
  have := place_range (mem_truths.1 hv) hp
  omega
/-- The order of a truth. -/
def ordL (t : List Int) : List Nat := (List.range t.length).mergeSort fun p q => !befB (tm t q) q (tm t p) p
theorem ordL_srt (t : List Int) : Srt t (ordL t) := by
  obtain ⟨l, hl⟩ := srt_ex t
  have : Srt t ((List.range t.length).mergeSort fun p q => !befB (tm t q) q (tm t p) p) := by
    refine ⟨?_, ?_, ?_, ?_⟩
    · exact (List.mergeSort_perm _ _).nodup_iff.2 List.nodup_range
    · rw [(List.mergeSort_perm _ _).length_eq, List.length_range]
    · exact fun p h => List.mem_range.1 ((List.mergeSort_perm _ _).mem_iff.1 h)
    · have hp := List.mergeSort_perm (List.range t.length) fun p q => !befB (tm t q) q (tm t p) p
      have hn := hp.nodup_iff.2 List.nodup_range
      have hs := List.pairwise_mergeSort (le := fun p q => !befB (tm t q) q (tm t p) p) (fun a b c h1 h2 => by simp only [Bool.not_eq_true', Bool.eq_false_iff, ne_eq, befB_iff] at h1 h2 ⊢; omega) (fun a b => by simp only [Bool.or_eq_true, Bool.not_eq_true', Bool.eq_false_iff, ne_eq, befB_iff]; omega) (List.range t.length)
      refine (hs.and (List.nodup_iff_pairwise_ne.1 hn)).imp fun {a b} h => ?_
      have h1 := h.1
      rw [Bool.not_eq_true', Bool.eq_false_iff, ne_eq, befB_iff] at h1
      rw [befB_iff]
      have := h.2
      omega
  exact this
/-- The time of the last pair that comes into the final, in a truth. -/
def cutT (F : Nat) (t : List Int) : Int := tm t ((ordL t)[F]?.getD 0)
theorem cutT_kth {t : List Int} {F : Nat} (hF : F < t.length) : Kth ((List.range t.length).map (tm t)) F (cutT F t) := by
  have hs := ordL_srt t
  have hl : F < (ordL t).length := by rw [hs.len]; exact hF
  unfold cutT
  rw [List.getElem?_eq_getElem hl]
  exact kth_truth hs (List.getElem?_eq_getElem hl)
theorem cut_hull {E : Int} {ss : List (List Int)} (hf : Feas (clocksOf E ss)) {F : Nat} (hF : F < (clocksOf E ss).length) : hullL ((truthsL E ss).map (cutT F)) = (kthV ((clocksOf E ss).map (·.1)) F, kthV ((clocksOf E ss).map (·.2)) F) := by
  have a := (kthV_sorted ((clocksOf E ss).map (·.1)) (k := F) (by simpa using hF)).2
  have b := (kthV_sorted ((clocksOf E ss).map (·.2)) (k := F) (by simpa using hF)).2
  have hu : Tr (clocksOf E ss) ((List.range (clocksOf E ss).length).map (hi (clocksOf E ss))) := tr_of fun p hp => ⟨hf p hp, Int.le_refl _⟩
  have hl := low_truth hf
  have key : ∀ g : Nat → Int, Kth ((List.range ((List.range (clocksOf E ss).length).map g).length).map (tm ((List.range (clocksOf E ss).length).map g))) F (cutT F ((List.range (clocksOf E ss).length).map g)) → Kth ((List.range (clocksOf E ss).length).map g) F (cutT F ((List.range (clocksOf E ss).length).map g)) := fun g h => by
    rw [show (List.range ((List.range (clocksOf E ss).length).map g).length).map (tm ((List.range (clocksOf E ss).length).map g)) = (List.range (clocksOf E ss).length).map g by
      rw [List.length_map, List.length_range]
      exact List.map_congr_left fun i hi0 => tm_map (List.mem_range.1 hi0)] at h
    exact h
  have k1 := key _ (cutT_kth (t := (List.range (clocksOf E ss).length).map (lo (clocksOf E ss))) (F := F) (by simpa using hF))
  have k2 := key _ (cutT_kth (t := (List.range (clocksOf E ss).length).map (hi (clocksOf E ss))) (F := F) (by simpa using hF))
  revert a b
  generalize kthV ((clocksOf E ss).map (·.1)) F = x
  generalize kthV ((clocksOf E ss).map (·.2)) F = y
  rw [map_fst, map_snd]
  intro a0 b0
  refine hull_eq (List.mem_map.2 ⟨_, mem_truths.2 hl, Kth.unique k1 a0⟩) (List.mem_map.2 ⟨_, mem_truths.2 hu, Kth.unique k2 b0⟩) fun z hz => ?_
  obtain ⟨v, hv, rfl⟩ := List.mem_map.1 hz
  have hv := mem_truths.1 hv
  have k3 := cutT_kth (t := v) (F := F) (by rw [hv.1]; exact hF)
  rw [hv.1] at k3
  exact ⟨a0.mono k3 fun i hi0 => (hv.2 i hi0).1, k3.mono b0 fun i hi0 => (hv.2 i hi0).2⟩

/-- In how many of so many. -/
def soN (n m : Nat) : Int := if n = m then 2 else if n = 0 then 0 else 1
theorem soN_eq (f : List Int → Bool) (L : List (List Int)) : soN (L.countP f) L.length = soB (L.map f) := by
  unfold soN
  by_cases h2 : L.countP f = L.length
  · rw [if_pos h2]
    refine (soB_two.2 fun b hb => ?_).symm
    obtain ⟨t, ht, rfl⟩ := List.mem_map.1 hb
    exact List.countP_eq_length.1 h2 t ht
  · rw [if_neg h2]
    have hne : L.map f ≠ [] := fun e => h2 (by rw [List.map_eq_nil_iff.1 e]; rfl)
    by_cases h0 : L.countP f = 0
    · rw [if_pos h0]
      refine ((soB_zero hne).2 fun b hb => ?_).symm
      obtain ⟨t, ht, rfl⟩ := List.mem_map.1 hb
      have := List.countP_eq_zero.1 h0 t ht
      simpa using this
    · rw [if_neg h0]
      rcases soB_cases (L.map f) with c | c | c
      · exact absurd (List.countP_eq_length.2 fun t ht => soB_two.1 c _ (List.mem_map.2 ⟨t, ht, rfl⟩)) h2
      · refine absurd (List.countP_eq_zero.2 fun t ht => ?_) h0
        rw [(soB_zero hne).1 c _ (List.mem_map.2 ⟨t, ht, rfl⟩)]
        decide
      · rw [c]
/-- Whether something is so of places, by some truths and by all orders of theirs. -/
theorem so_truths {ks : List (Int × Int)} {L : List (List Int)} (h0 : ∀ p, p < ks.length → 0 ≤ lo ks p) (hf : Feas ks) (hL : ∀ t, t ∈ L ↔ Tr ks t) (f : List Int → Bool) (g : List Nat → Bool) (hfg : ∀ t l, Tr ks t → Srt t l → f t = g l) : soB (L.map f) = soB ((ordersL ks).map g) := by
  have hne : L ≠ [] := fun e => by
    have := (hL _).2 (low_truth hf)
    rw [e] at this
    cases this
  refine soB_eq (by simpa using hne) (by simpa using orders_ne h0 hf) ?_ ?_
  · rw [so_orders h0]
    exact ⟨fun h t l ht hl => by rw [← hfg t l ht hl]; exact h _ (List.mem_map.2 ⟨t, (hL t).2 ht, rfl⟩), fun h b hb => by
      obtain ⟨t, ht, rfl⟩ := List.mem_map.1 hb
      rw [hfg t _ ((hL t).1 ht) (ordL_srt t)]
      exact h t _ ((hL t).1 ht) (ordL_srt t)⟩
  · rw [so_orders h0]
    exact ⟨fun h t l ht hl => by rw [← hfg t l ht hl]; exact h _ (List.mem_map.2 ⟨t, (hL t).2 ht, rfl⟩), fun h b hb => by
      obtain ⟨t, ht, rfl⟩ := List.mem_map.1 hb
      rw [hfg t _ ((hL t).1 ht) (ordL_srt t)]
      exact h t _ ((hL t).1 ht) (ordL_srt t)⟩
def finalT (F : Int) (p : Nat) (t : List Int) : Bool := decide ((placeN t p : Int) < F)
def meetT (n p q : Nat) (t : List Int) : Bool := decide ((placeN t p : Int) + placeN t q = (n : Int) - 1)
/-- Whether a pair comes into the final, by some truths. -/
def finalS (L : List (List Int)) (F : Int) (p : Nat) : Int := soN (L.countP (finalT F p)) L.length
theorem finalS_eq {ks : List (Int × Int)} {L : List (List Int)} (h0 : ∀ p, p < ks.length → 0 ≤ lo ks p) (hf : Feas ks) (hL : ∀ t, t ∈ L ↔ Tr ks t) {F : Int} {p : Nat} (hp : p < ks.length) : finalS L F p = finalV ks F p := by
  unfold finalS
  rw [soN_eq, so_truths h0 hf hL (finalT F p) (fun l => decide ((l.idxOf p : Int) < F)) fun t l ht hl => by
    unfold finalT
    rw [hl.idx (by rw [ht.1]; exact hp)]]
  rfl
theorem meetS_eq {ks : List (Int × Int)} {L : List (List Int)} (h0 : ∀ p, p < ks.length → 0 ≤ lo ks p) (hf : Feas ks) (hL : ∀ t, t ∈ L ↔ Tr ks t) {p q : Nat} (hp : p < ks.length) (hq : q < ks.length) : soN (L.countP (meetT ks.length p q)) L.length = meetV ks p q := by
  rw [soN_eq, so_truths h0 hf hL (meetT ks.length p q) (fun l => decide ((l.idxOf p : Int) + l.idxOf q = ks.length - 1)) fun t l ht hl => by
    unfold meetT
    rw [hl.idx (by rw [ht.1]; exact hp), hl.idx (by rw [ht.1]; exact hq)]]
  rfl
end Go.Proofs.YtbeglemohfbdfaaGreat
