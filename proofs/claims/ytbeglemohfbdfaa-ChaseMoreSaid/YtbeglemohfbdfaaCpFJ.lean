/- Plain laws of chases: the law ChaseWrong. Conditions: none. -/
import Derived.Test.YtbeglemohfbdfaaCpE
import Derived.Test.YtbeglemohfbdfaaLwC
namespace Go.Proofs.Ytbeglemohfbdfaa

theorem keepW_sub : ∀ (l : List Int) (s : Nat), ∀ x ∈ keepW l s, x ∈ l
  | [], _, _, h => by simp [keepW] at h
  | n :: l, s, x, h => by
    unfold keepW at h
    split at h
    · rcases List.mem_cons.1 h with rfl | h
      · simp
      · exact List.mem_cons_of_mem _ (keepW_sub l _ x h)
    · exact List.mem_cons_of_mem _ (keepW_sub l _ x h)
theorem keepW_len : ∀ (l : List Int) (s : Nat), (keepW l s).length ≤ l.length
  | [], _ => by simp [keepW]
  | n :: l, s => by
    have := keepW_len l (s / 2)
    unfold keepW
    split <;> simp <;> omega
theorem right_empty {E : Int} {l : List Int} {s : Nat} (h : keepW l s = []) : rightB E l s = true := by
  unfold rightB
  rw [h]
  rfl
/-- The watches that must be wrong are not all. -/
theorem wrong_lt {E : Int} {l : List Int} (hE : 0 ≤ E) (h1 : 1 ≤ l.length) (h3 : l.length ≤ 3) (hb : ∀ x ∈ l, 0 ≤ x ∧ x ≤ 200) : wrongV E l < 2 ^ l.length - 1 := by
  have hw := wrong_is (E := E) h3
  have hp : 2 ≤ 2 ^ l.length := Nat.le_trans (by decide : 2 ≤ 2 ^ 1) (Nat.pow_le_pow_right (by decide) h1)
  obtain ⟨n, m, rfl⟩ : ∃ n m, l = n :: m := by
    cases l with
    | nil => simp at h1
    | cons n m => exact ⟨n, m, rfl⟩
  have hn := hb n (by simp)
  have hr : rightB E (n :: m) (2 ^ (n :: m).length - 2) = true := by
    refine rightB_iff.2 ⟨n, by omega, fun i x hi0 hbit => ?_⟩
    cases i with
    | zero => simp at hi0; subst hi0; omega
    | succ i =>
      exfalso
      have hi : i < m.length := by
        have := (List.getElem?_eq_some_iff.1 hi0).1
        simpa using this
      have e : 2 ^ (n :: m).length - 2 = 2 * (2 ^ m.length - 1) := by simp [Nat.pow_succ]; omega
      rw [e, Nat.testBit_succ] at hbit
      rw [show 2 * (2 ^ m.length - 1) / 2 = 2 ^ m.length - 1 by omega, Nat.testBit_two_pow_sub_one] at hbit
      simp [hi] at hbit
  have hle := hw.least _ (by omega) hr
  have hlt := hw.lt
  have hs := size_le (l := n :: m) h3 (o := 2 ^ (n :: m).length - 2) (by omega)
  have hne : wrongV E (n :: m) ≠ 2 ^ (n :: m).length - 1 := by
    intro e
    rw [e] at hle
    rcases hs with hs | hs
    · omega
    · omega
  omega
/-- Without any one of them the others cannot all be right. -/
theorem wrong_need {E : Int} {l : List Int} (h3 : l.length ≤ 3) {i : Nat} (hi : i < l.length) (hbit : (wrongV E l).testBit i = true) : wrongV E l - 2 ^ i < wrongV E l ∧ rightB E l (wrongV E l - 2 ^ i) = false := by
  have hw := wrong_is (E := E) h3
  have hge : 2 ^ i ≤ wrongV E l := Nat.ge_two_pow_of_testBit hbit
  have hpos : 0 < 2 ^ i := Nat.two_pow_pos i
  refine ⟨by omega, ?_⟩
  cases hr : rightB E l (wrongV E l - 2 ^ i) with
  | false => rfl
  | true =>
    exfalso
    have := hw.least _ (Nat.lt_of_le_of_lt (Nat.sub_le _ _) hw.lt) hr
    have h8 : wrongV E l < 8 := Nat.lt_of_lt_of_le hw.lt (Nat.le_trans (Nat.pow_le_pow_right (by decide) h3) (by decide))
    have key : ∀ s : Fin 8, ∀ i : Fin 3, s.1.testBit i.1 = true → sizeN (s.1 - 2 ^ i.1) < sizeN s.1 := by decide
    have := key ⟨_, h8⟩ ⟨i, by omega⟩ hbit
    dsimp only at this
    omega
theorem wrong_other {E : Int} {l : List Int} (h3 : l.length ≤ 3) {o : Nat} (ho : o < 2 ^ l.length) (hr : rightB E l o = true) : ¬ (sizeN o < sizeN (wrongV E l)) ∧ ¬ (sizeN o = sizeN (wrongV E l) ∧ o < wrongV E l) := by
  have := (wrong_is (E := E) h3).least o ho hr
  omega
/-- No watch of any pair must be wrong just if there is a truth. -/
theorem none_feas {E : Int} {ss : List (List Int)} (h : ∀ l ∈ ss, l.length ≤ 3) : (ss.all fun l => decide (wrongV E l = 0)) = feasB (clocksOf E ss) := by
  unfold feasB clocksOf
  rw [List.all_map, Bool.eq_iff_iff, List.all_eq_true, List.all_eq_true]
  constructor
  · intro k l hl
    have := k l hl
    simp only [decide_eq_true_eq, Function.comp] at this ⊢
    exact (wrong_zero (h l hl)).1 this
  · intro k l hl
    have := k l hl
    simp only [decide_eq_true_eq, Function.comp] at this ⊢
    exact (wrong_zero (h l hl)).2 this
end Go.Proofs.Ytbeglemohfbdfaa
namespace Go.Proofs.Ytbeglemohfbdfaa

theorem known_span {E t : Int} (hE : 0 ≤ E) (h1 : 0 ≤ t - E) (h2 : t + E ≤ 200) : loOf E [t - E, t + E] = t ∧ hiOf E [t - E, t + E] = t := by
  constructor
  · show max (max 0 (t - E - E)) (t + E - E) = t
    omega
  · show min (min 203 (t - E + E)) (t + E + E) = t
    omega
theorem clocks_set (E : Int) (ss : List (List Int)) (p : Nat) (l : List Int) : clocksOf E (ss.set p l) = (clocksOf E ss).set p (loOf E l, hiOf E l) := by
  unfold clocksOf
  rw [List.map_set]
theorem known_clocks {E t : Int} {ss : List (List Int)} {p : Nat} (hE : 0 ≤ E) (h1 : 0 ≤ t - E) (h2 : t + E ≤ 200) : clocksOf E (ss.set p [t - E, t + E]) = (clocksOf E ss).set p (t, t) := by
  rw [clocks_set, (known_span hE h1 h2).1, (known_span hE h1 h2).2]
theorem feas_set {ks : List (Int × Int)} {p : Nat} {t : Int} (h : Feas ks) : Feas (ks.set p (t, t)) := by
  rw [← feasB_iff] at h ⊢
  unfold feasB at h ⊢
  rw [List.all_eq_true] at h ⊢
  intro k hk
  rcases List.mem_or_eq_of_mem_set hk with hk | rfl
  · exact h k hk
  · simp
/-- Watches that are not at the edge: what they leave is not either, and no wider than the error allows. -/
theorem mid_range {E : Int} {l : List Int} (hE : 0 ≤ E ∧ E ≤ 3) (h1 : 1 ≤ l.length) (hb : ∀ x ∈ l, 10 ≤ x ∧ x ≤ 190) : 7 ≤ loOf E l ∧ hiOf E l ≤ 193 ∧ hiOf E l ≤ loOf E l + 6 := by
  obtain ⟨n, m, rfl⟩ : ∃ n m, l = n :: m := by
    cases l with
    | nil => simp at h1
    | cons n m => exact ⟨n, m, rfl⟩
  have hn := hb n (by simp)
  have a := loOf_mem (E := E) (l := n :: m) (n := n) (by simp)
  have b := hiOf_mem (E := E) (l := n :: m) (n := n) (by simp)
  omega
end Go.Proofs.Ytbeglemohfbdfaa
namespace Go.Proofs.Ytbeglemohfbdfaa

theorem lo_set {ks : List (Int × Int)} {p i : Nat} {t : Int} (hp : p < ks.length) : lo (ks.set p (t, t)) i = if i = p then t else lo ks i := by
  unfold lo
  by_cases e : i = p
  · subst e; rw [List.getElem?_set_self hp, if_pos rfl]; rfl
  · rw [List.getElem?_set_ne (fun h => e h.symm), if_neg e]
theorem hi_set {ks : List (Int × Int)} {p i : Nat} {t : Int} (hp : p < ks.length) : hi (ks.set p (t, t)) i = if i = p then t else hi ks i := by
  unfold hi
  by_cases e : i = p
  · subst e; rw [List.getElem?_set_self hp, if_pos rfl]; rfl
  · rw [List.getElem?_set_ne (fun h => e h.symm), if_neg e]
theorem placeLo_set {ks : List (Int × Int)} {p : Nat} {t : Int} (hp : p < ks.length) : placeLo (ks.set p (t, t)) p = (List.range ks.length).countP fun i => decide (i ≠ p) && befB (hi ks i) i t p := by
  unfold placeLo
  rw [List.length_set]
  refine List.countP_congr fun i _ => ?_
  rw [hi_set hp, lo_set hp, if_pos rfl]
  by_cases e : i = p
  · simp [e]
  · simp [e]
theorem placeHi_set {ks : List (Int × Int)} {p : Nat} {t : Int} (hp : p < ks.length) : placeHi (ks.set p (t, t)) p = (List.range ks.length).countP fun i => decide (i ≠ p) && befB (lo ks i) i t p := by
  unfold placeHi
  rw [List.length_set]
  refine List.countP_congr fun i _ => ?_
  rw [hi_set hp, lo_set hp, if_pos rfl]
  by_cases e : i = p
  · simp [e]
  · simp [e]
/-- A pair's place is no less exact if its time is known; its ends are those of the times' ends. -/
theorem place_known {ks : List (Int × Int)} (_ : Feas ks) {p : Nat} {t : Int} (hp : p < ks.length) (h1 : lo ks p ≤ t) (h2 : t ≤ hi ks p) :
    placeLo ks p ≤ placeLo (ks.set p (t, t)) p ∧ placeHi (ks.set p (t, t)) p ≤ placeHi ks p ∧ (t = lo ks p → placeLo (ks.set p (t, t)) p = placeLo ks p) ∧ (t = hi ks p → placeHi (ks.set p (t, t)) p = placeHi ks p) := by
  rw [placeLo_set hp, placeHi_set hp]
  refine ⟨?_, ?_, fun e => ?_, fun e => ?_⟩
  · unfold placeLo
    refine List.countP_mono_left fun i _ hb => ?_
    simp only [Bool.and_eq_true, befB_iff] at hb ⊢
    exact ⟨hb.1, by have := hb.2; omega⟩
  · unfold placeHi
    refine List.countP_mono_left fun i _ hb => ?_
    simp only [Bool.and_eq_true, befB_iff] at hb ⊢
    exact ⟨hb.1, by have := hb.2; omega⟩
  · subst e; rfl
  · subst e; rfl
theorem place_below {ks : List (Int × Int)} {p : Nat} (hp : p < ks.length) : placeHi ks p < ks.length := by
  unfold placeHi
  have h := List.countP_le_length (p := fun i => decide (i ≠ p)) (l := List.range ks.length)
  have h1 : (List.range ks.length).countP (fun i => decide (i ≠ p) && befB (lo ks i) i (hi ks p) p) ≤ (List.range ks.length).countP fun i => decide (i ≠ p) :=
    List.countP_mono_left fun i _ hb => by simp only [Bool.and_eq_true] at hb; exact hb.1
  have h2 : (List.range ks.length).countP (fun i => decide (i ≠ p)) < (List.range ks.length).length := by
    rw [List.countP_eq_length_filter]
    refine Nat.lt_of_le_of_ne (List.length_filter_le _ _) fun e => ?_
    have := (List.length_filter_eq_length_iff.1 e) p (List.mem_range.2 hp)
    simp at this
  rw [List.length_range] at h2
  omega
/-- A watch that tells what no time agrees with. -/
theorem far_clash {E told : Int} {l : List Int} (h : told + E < loOf E l ∨ hiOf E l < told - E) : ¬ loOf E (l ++ [told]) ≤ hiOf E (l ++ [told]) := by
  rw [loOf_snoc, hiOf_snoc]
  omega
theorem feas_no {ks : List (Int × Int)} {p : Nat} {k : Int × Int} (hp : p < ks.length) (h : ¬ k.1 ≤ k.2) : feasB (ks.set p k) = false := by
  unfold feasB
  rw [List.all_eq_false]
  exact ⟨k, List.mem_of_getElem? (List.getElem?_set_self hp), by simpa using h⟩
end Go.Proofs.Ytbeglemohfbdfaa
namespace Go.Proofs.Ytbeglemohfbdfaa

/-- A chase whose watches are right of some times. -/
structure Right7 (E F : Int) (ss : List (List Int)) (t : List Int) : Prop where
  err : 0 ≤ E ∧ E ≤ 3
  n : 1 ≤ ss.length ∧ ss.length ≤ 6
  fin : 1 ≤ F ∧ F ≤ ss.length
  len : t.length = ss.length
  at_ : ∀ i l, ss[i]? = some l → (1 ≤ l.length ∧ l.length ≤ 3) ∧ (0 ≤ tm t i ∧ tm t i ≤ 170) ∧ ∀ n ∈ l, (0 ≤ n ∧ n ≤ 200) ∧ n - E ≤ tm t i ∧ tm t i ≤ n + E
theorem Right7.valid {E F : Int} {ss : List (List Int)} {t : List Int} (h : Right7 E F ss t) : validB E F ss = true := by
  unfold validB
  have h1 := h.err
  have h2 := h.n
  have h3 := h.fin
  rw [inB_true.2 h1, inB_true.2 (show (1 : Int) ≤ (ss.length : Int) ∧ (ss.length : Int) ≤ 6 by omega), inB_true.2 h3]
  simp only [Bool.true_and, List.all_eq_true]
  intro l hl
  obtain ⟨i, hi, rfl⟩ := List.getElem_of_mem hl
  obtain ⟨k1, _, k2⟩ := h.at_ i _ (List.getElem?_eq_getElem hi)
  unfold listB
  rw [inB_true.2 (show (1 : Int) ≤ (ss[i].length : Int) ∧ (ss[i].length : Int) ≤ 3 by omega), Bool.true_and, List.all_eq_true]
  exact fun n hn => inB_true.2 (k2 n hn).1
theorem Right7.tr {E F : Int} {ss : List (List Int)} {t : List Int} (h : Right7 E F ss t) : Tr (clocksOf E ss) t := by
  refine ⟨by rw [clocks_len, h.len], fun p hp => ?_⟩
  rw [clocks_len] at hp
  obtain ⟨_, k1, k2⟩ := h.at_ p _ (List.getElem?_eq_getElem hp)
  obtain ⟨e1, e2⟩ := clocks_get (E := E) (List.getElem?_eq_getElem hp)
  rw [e1, e2]
  exact span_iff.2 ⟨by omega, fun n hn => (k2 n hn).2⟩
theorem Right7.feas {E F : Int} {ss : List (List Int)} {t : List Int} (h : Right7 E F ss t) : Feas (clocksOf E ss) := fun p hp => by
  have := h.tr.2 p hp
  omega
theorem Right7.ok {E F : Int} {ss : List (List Int)} {t : List Int} (h : Right7 E F ss t) {o : Bool} (ho : o = true) : errOf E F ss o = 0 := errOf_ok h.valid (feasB_iff.2 h.feas) ho
theorem Right7.told {E F : Int} {ss : List (List Int)} {t : List Int} (h : Right7 E F ss t) {p : Nat} (hp : p < ss.length) : Told E F ss p := told_at h.valid (feasB_iff.2 h.feas) hp
/-- The time of the last pair that comes into the final lies within the cut. -/
theorem Right7.cut {E F : Int} {ss : List (List Int)} {t : List Int} (h : Right7 E F ss t) {l : List Nat} (hs : Srt t l) {p : Nat} (hp : l[(F - 1).toNat]? = some p) : (cutE E F ss).1 ≤ tm t p ∧ tm t p ≤ (cutE E F ss).2 := by
  rw [cutE_ok (h.ok rfl)]
  unfold cutV
  have hn := h.len
  have hf := h.fin
  have hk := kth_truth hs hp
  have htr := h.tr
  have h1 : (F - 1).toNat < (clocksOf E ss).length := by rw [clocks_len]; omega
  have a := (kthV_sorted ((clocksOf E ss).map (·.1)) (k := (F - 1).toNat) (by simpa using h1)).2
  have b := (kthV_sorted ((clocksOf E ss).map (·.2)) (k := (F - 1).toNat) (by simpa using h1)).2
  revert a b
  generalize kthV ((clocksOf E ss).map (·.1)) (F - 1).toNat = x
  generalize kthV ((clocksOf E ss).map (·.2)) (F - 1).toNat = y
  rw [map_fst, map_snd]
  intro a b
  rw [htr.1] at hk
  exact ⟨a.mono hk fun i hi0 => (htr.2 i hi0).1, hk.mono b fun i hi0 => (htr.2 i hi0).2⟩
theorem Right7.order {E F : Int} {ss : List (List Int)} {t : List Int} (h : Right7 E F ss t) {l : List Nat} (hs : Srt t l) : l ∈ ordersL (clocksOf E ss) := (mem_orders (clocks_nonneg E ss)).2 ⟨t, h.tr, hs⟩
theorem Right7.orders {E F : Int} {ss : List (List Int)} {t : List Int} (h : Right7 E F ss t) : ∃ n : Nat, ordersV E F ss = n ∧ 1 ≤ n ∧ n ≤ 46656 := by
  obtain ⟨l, hl⟩ := srt_ex t
  refine ⟨(ordersL (clocksOf E ss)).length, by unfold ordersV; rw [if_pos (h.ok rfl)], List.length_pos_of_mem (h.order hl), ?_⟩
  have h1 := ordersF_len (clocksOf E ss) (by rw [clocks_len]; exact h.n.2) (clocksOf E ss).length .begin
  refine Nat.le_trans h1 (Nat.le_trans (Nat.pow_le_pow_right (by decide) (show (clocksOf E ss).length ≤ 6 by rw [clocks_len]; exact h.n.2)) (by decide))
/-- The first order does not come behind the true one. -/
theorem Right7.first {E F : Int} {ss : List (List Int)} {t : List Int} (h : Right7 E F ss t) {l : List Nat} (hs : Srt t l) : (firstL E F ss).length = l.length ∧ (l = firstL E F ss ∨ llt (firstL E F ss) l) := by
  unfold firstL
  rw [if_pos (h.ok rfl)]
  have hm := h.order hs
  refine ⟨?_, orders_first hm⟩
  have key : (ordersL (clocksOf E ss)).headD [] ∈ ordersL (clocksOf E ss) := by
    revert hm
    generalize ordersL (clocksOf E ss) = L
    intro hm
    cases L with
    | nil => cases hm
    | cons a r => simp
  have e1 := ((mem_ordersF _ _ _ _).1 key).1
  have e2 := ((mem_ordersF _ _ _ _).1 hm).1
  omega
theorem llt_at : ∀ {a b : List Nat} {k : Nat} {x y : Nat}, llt a b → a.take k = b.take k → a[k]? = some x → b[k]? = some y → x ≠ y → x < y
  | [], _, _, _, _, h, _, _, _, _ => h.elim
  | _ :: _, [], _, _, _, h, _, _, _, _ => h.elim
  | p :: a, q :: b, 0, x, y, h, _, hx, hy, hne => by
    simp at hx hy
    subst hx hy
    rcases h with h | h
    · exact h
    · exact absurd h.1 hne
  | p :: a, q :: b, k + 1, x, y, h, ht, hx, hy, hne => by
    simp only [List.take_succ_cons, List.cons.injEq] at ht
    rcases h with h | h
    · omega
    · exact llt_at h.2 ht.2 (by simpa using hx) (by simpa using hy) hne
theorem Right7.time {E F : Int} {ss : List (List Int)} {t : List Int} (h : Right7 E F ss t) {p : Nat} (hp : p < ss.length) : (timeV E F ss p).1 ≤ tm t p ∧ tm t p ≤ (timeV E F ss p).2 := by
  rw [(h.told hp).time]
  exact h.tr.2 p (by rw [clocks_len]; exact hp)
theorem Right7.wrong {E F : Int} {ss : List (List Int)} {t : List Int} (h : Right7 E F ss t) {p : Nat} (hp : p < ss.length) : wrongE E F ss p = 0 ∧ codeO E F ss (inB p 0 (ss.length - 1)) = 0 := by
  have hc : codeO E F ss (inB p 0 (ss.length - 1)) = 0 := by
    unfold codeO
    rw [h.valid, inB_true.2 (show (0 : Int) ≤ (p : Int) ∧ (p : Int) ≤ (ss.length : Int) - 1 by omega)]
    rfl
  refine ⟨?_, hc⟩
  unfold wrongE
  rw [if_pos hc, Int.toNat_natCast, List.getElem?_eq_getElem hp]
  have h3 : ss[p].length ≤ 3 := (h.at_ p _ (List.getElem?_eq_getElem hp)).1.2
  have hz := (wrong_zero (E := E) (l := ss[p]) h3).2 (by
    have := h.feas p (by rw [clocks_len]; exact hp)
    obtain ⟨e1, e2⟩ := clocks_get (E := E) (List.getElem?_eq_getElem hp)
    rw [e1, e2] at this
    exact this)
  show ((wrongV E ss[p] : Nat) : Int) = 0
  rw [hz]
  rfl
theorem Right7.place {E F : Int} {ss : List (List Int)} {t : List Int} (h : Right7 E F ss t) {p : Nat} (hp : p < ss.length) : (placeV E F ss p).1 ≤ (placeN t p : Int) ∧ (placeN t p : Int) ≤ (placeV E F ss p).2 := by
  rw [(h.told hp).place]
  have := place_range h.tr (p := p) (by rw [clocks_len]; exact hp)
  dsimp only
  omega
theorem Right7.final {E F : Int} {ss : List (List Int)} {t : List Int} (h : Right7 E F ss t) {p : Nat} (hp : p < ss.length) : ((placeN t p : Int) < F → finalE E F ss p ≠ 0) ∧ (F ≤ (placeN t p : Int) → finalE E F ss p ≠ 2) := by
  rw [(h.told hp).final]
  have := place_range h.tr (p := p) (by rw [clocks_len]; exact hp)
  constructor
  · intro h1 e
    have := (finalP_zero.1 e).1
    omega
  · intro h1 e
    have := (finalP_two.1 e).2
    omega
theorem Right7.meet {E F : Int} {ss : List (List Int)} {t : List Int} (h : Right7 E F ss t) {p q : Nat} (hp : p < ss.length) (hq : q < ss.length) (hne : p ≠ q) : errOf E F ss (okM ss p q) = 0 ∧ ((placeN t p : Int) + placeN t q = ss.length - 1 → meetE E F ss p q ≠ 0) ∧ (¬ (placeN t p : Int) + placeN t q = ss.length - 1 → meetE E F ss p q ≠ 2) := by
  have ho : okM ss p q = true := by
    unfold okM
    rw [inB_true.2 (show (0 : Int) ≤ (p : Int) ∧ (p : Int) ≤ (ss.length : Int) - 1 by omega), inB_true.2 (show (0 : Int) ≤ (q : Int) ∧ (q : Int) ≤ (ss.length : Int) - 1 by omega)]
    simp; omega
  have he := h.ok ho
  refine ⟨he, ?_⟩
  unfold meetE
  rw [if_pos he, Int.toNat_natCast, Int.toNat_natCast]
  unfold meetV
  obtain ⟨l, hs⟩ := srt_ex t
  have hm := h.order hs
  have e1 := hs.idx (p := p) (by rw [h.len]; exact hp)
  have e2 := hs.idx (p := q) (by rw [h.len]; exact hq)
  rw [clocks_len]
  have hmem : decide ((l.idxOf p : Int) + l.idxOf q = ss.length - 1) ∈ (ordersL (clocksOf E ss)).map fun l => decide ((l.idxOf p : Int) + l.idxOf q = ss.length - 1) := List.mem_map.2 ⟨l, hm, rfl⟩
  rw [e1, e2] at hmem
  constructor
  · intro k e
    have := (soB_zero (fun e => by rw [e] at hmem; cases hmem)).1 e _ hmem
    rw [decide_eq_false_iff_not] at this
    exact this k
  · intro k e
    have := soB_two.1 e _ hmem
    rw [decide_eq_true_eq] at this
    exact k this
end Go.Proofs.Ytbeglemohfbdfaa
namespace Go.Proofs.Ytbeglemohfbdfaa

/-- Each pair can have no other times, but for a shift. -/
structure Narrow (ks js : List (Int × Int)) (d : Int) : Prop where
  len : js.length = ks.length
  at_ : ∀ p, p < ks.length → lo ks p + d ≤ lo js p ∧ hi js p ≤ hi ks p + d
theorem Narrow.feas {ks js : List (Int × Int)} {d : Int} (h : Narrow ks js d) (hf : Feas js) : Feas ks := fun p hp => by
  have h1 := h.at_ p hp
  have h2 := hf p (by rw [h.len]; exact hp)
  omega
theorem tm_sub {t : List Int} {d : Int} {p : Nat} (hp : p < t.length) : tm (t.map (· - d)) p = tm t p - d := by simp [tm, hp]
theorem Narrow.tr {ks js : List (Int × Int)} {d : Int} (h : Narrow ks js d) {t : List Int} (ht : Tr js t) : Tr ks (t.map (· - d)) := by
  refine ⟨by rw [List.length_map, ht.1, h.len], fun p hp => ?_⟩
  have hp' : p < js.length := by rw [h.len]; exact hp
  rw [tm_sub (by rw [ht.1]; exact hp')]
  have h1 := h.at_ p hp
  have h2 := ht.2 p hp'
  omega
theorem placeN_sub {t : List Int} {d : Int} {p : Nat} (hp : p < t.length) : placeN (t.map (· - d)) p = placeN t p := by
  unfold placeN
  rw [List.length_map]
  refine List.countP_congr fun i hi0 => ?_
  rw [tm_sub (List.mem_range.1 hi0), tm_sub hp, befB_iff, befB_iff]
  omega
theorem srt_sub {t : List Int} {d : Int} {l : List Nat} (h : Srt t l) : Srt (t.map (· - d)) l := by
  refine ⟨h.nd, by rw [List.length_map]; exact h.len, fun p hp => by rw [List.length_map]; exact h.lt p hp, ?_⟩
  refine List.Pairwise.imp_of_mem (fun {a b} ha hb hab => ?_) h.asc
  rw [tm_sub (h.lt a ha), tm_sub (h.lt b hb), befB_iff]
  rw [befB_iff] at hab
  omega
theorem Narrow.orders {ks js : List (Int × Int)} {d : Int} (h : Narrow ks js d) (h0 : ∀ p, p < ks.length → 0 ≤ lo ks p) (h1 : ∀ p, p < js.length → 0 ≤ lo js p) : (ordersL js).length ≤ (ordersL ks).length :=
  nodup_le _ _ (orders_nodup js) fun l hl => by
    obtain ⟨t, ht, hs⟩ := (mem_orders h1).1 hl
    exact (mem_orders h0).2 ⟨_, h.tr ht, srt_sub hs⟩
theorem Narrow.place {ks js : List (Int × Int)} {d : Int} (h : Narrow ks js d) (hf : Feas js) {p : Nat} (hp : p < ks.length) : placeLo ks p ≤ placeLo js p ∧ placeHi js p ≤ placeHi ks p := by
  have hp' : p < js.length := by rw [h.len]; exact hp
  obtain ⟨t, ht, _, e1⟩ := place_lo hf hp'
  obtain ⟨u, hu, _, e2⟩ := place_hi hf hp'
  have h1 := place_range (h.tr ht) hp
  have h2 := place_range (h.tr hu) hp
  rw [placeN_sub (by rw [ht.1]; exact hp')] at h1
  rw [placeN_sub (by rw [hu.1]; exact hp')] at h2
  omega
theorem Narrow.final {ks js : List (Int × Int)} {d F : Int} (h : Narrow ks js d) (hf : Feas js) {p : Nat} (hp : p < ks.length) (hne : finalP ks F p ≠ 1) : finalP js F p = finalP ks F p := by
  have h1 := h.place hf hp
  rcases finalP_cases ks F p with c | c | c
  · rw [c]
    have := finalP_two.1 c
    have := placeLo_le hf (p := p) (by rw [h.len]; exact hp)
    exact finalP_two.2 ⟨by omega, by omega⟩
  · rw [c]
    have := finalP_zero.1 c
    have := placeLo_le hf (p := p) (by rw [h.len]; exact hp)
    exact finalP_zero.2 ⟨by omega, by omega⟩
  · exact absurd c hne
theorem Narrow.cut {ks js : List (Int × Int)} {d F : Int} (h : Narrow ks js d) (hF : 1 ≤ F ∧ F ≤ ks.length) : (cutV ks F).1 + d ≤ (cutV js F).1 ∧ (cutV js F).2 ≤ (cutV ks F).2 + d := by
  unfold cutV
  have hk : (F - 1).toNat < ks.length := by omega
  have a1 := (kthV_sorted (ks.map (·.1)) (k := (F - 1).toNat) (by simpa using hk)).2
  have a2 := (kthV_sorted (ks.map (·.2)) (k := (F - 1).toNat) (by simpa using hk)).2
  have b1 := (kthV_sorted (js.map (·.1)) (k := (F - 1).toNat) (by rw [List.length_map, h.len]; exact hk)).2
  have b2 := (kthV_sorted (js.map (·.2)) (k := (F - 1).toNat) (by rw [List.length_map, h.len]; exact hk)).2
  dsimp only
  revert a1 a2 b1 b2
  generalize kthV (ks.map (·.1)) (F - 1).toNat = x1
  generalize kthV (ks.map (·.2)) (F - 1).toNat = x2
  generalize kthV (js.map (·.1)) (F - 1).toNat = y1
  generalize kthV (js.map (·.2)) (F - 1).toNat = y2
  rw [map_fst, map_snd, map_fst, map_snd, h.len]
  intro a1 a2 b1 b2
  exact ⟨(a1.shift d).mono b1 fun i hi0 => (h.at_ i hi0).1, b2.mono (a2.shift d) fun i hi0 => (h.at_ i hi0).2⟩

/-- What the four chases of the law have to do with the one that is given. -/
structure MoreQ (E F : Int) (ss : List (List Int)) (p i : Nat) (E' : Int) (ss' : List (List Int)) (d : Int) : Prop where
  len : ss'.length = ss.length
  n : Narrow (clocksOf E ss) (clocksOf E' ss') d
  back : 2 ≤ i → Narrow (clocksOf E' ss') (clocksOf E ss) (-d)
  less : sizeN (wrongV E (ss[p]?.getD [])) ≤ sizeN (wrongV E' (ss'[p]?.getD []))
  same : i = 2 → wrongV E (ss[p]?.getD []) = wrongV E' (ss'[p]?.getD [])
  more : i = 3 → sizeN (wrongV E' (ss'[p]?.getD [])) ≤ sizeN (wrongV E (ss[p]?.getD []))

theorem loOf_err {E E' : Int} (h : E' ≤ E) (l : List Int) : loOf E l ≤ loOf E' l := loOf_le.2 ⟨loOf_nonneg _ _, fun n hn => by have := loOf_mem (E := E') hn; omega⟩
theorem hiOf_err {E E' : Int} (h : E' ≤ E) (l : List Int) : hiOf E' l ≤ hiOf E l := le_hiOf.2 ⟨hiOf_le _ _, fun n hn => by have := hiOf_mem (E := E') hn; omega⟩
theorem loOf_shift {E d : Int} {l : List Int} (hE : 0 ≤ E ∧ E ≤ 3) (hd : 0 ≤ d) (h1 : 1 ≤ l.length) (hb : ∀ n ∈ l, 3 ≤ n) : loOf E (l.map (· + d)) = loOf E l + d := by
  obtain ⟨a, r, rfl⟩ : ∃ a r, l = a :: r := by cases l with | nil => simp at h1 | cons a r => exact ⟨a, r, rfl⟩
  refine Int.le_antisymm (loOf_le.2 ⟨?_, fun n hn => ?_⟩) ?_
  · have := loOf_nonneg E (a :: r); omega
  · obtain ⟨m, hm, rfl⟩ := List.mem_map.1 hn
    have := loOf_mem (E := E) hm
    omega
  · have : loOf E (a :: r) ≤ loOf E ((a :: r).map (· + d)) - d := loOf_le.2 ⟨?_, fun n hn => ?_⟩
    · omega
    · have h2 := loOf_mem (E := E) (l := (a :: r).map (· + d)) (n := a + d) (by simp)
      have := hb a (by simp)
      omega
    · have h2 := loOf_mem (E := E) (l := (a :: r).map (· + d)) (n := n + d) (List.mem_map.2 ⟨n, hn, rfl⟩)
      omega
theorem hiOf_shift {E d : Int} {l : List Int} (hE : 0 ≤ E ∧ E ≤ 3) (hd : 0 ≤ d) (h1 : 1 ≤ l.length) (hb : ∀ n ∈ l, n + d ≤ 200) : hiOf E (l.map (· + d)) = hiOf E l + d := by
  obtain ⟨a, r, rfl⟩ : ∃ a r, l = a :: r := by cases l with | nil => simp at h1 | cons a r => exact ⟨a, r, rfl⟩
  refine Int.le_antisymm ?_ (le_hiOf.2 ⟨?_, fun n hn => ?_⟩)
  · have : hiOf E ((a :: r).map (· + d)) - d ≤ hiOf E (a :: r) := le_hiOf.2 ⟨?_, fun n hn => ?_⟩
    · omega
    · have := hiOf_le E ((a :: r).map (· + d)); omega
    · have h2 := hiOf_mem (E := E) (l := (a :: r).map (· + d)) (n := n + d) (List.mem_map.2 ⟨n, hn, rfl⟩)
      omega
  · have h2 := hiOf_mem (E := E) (l := a :: r) (n := a) (by simp)
    have := hb a (by simp)
    omega
  · obtain ⟨m, hm, rfl⟩ := List.mem_map.1 hn
    have := hiOf_mem (E := E) hm
    omega
theorem loOf_rev (E : Int) (l : List Int) : loOf E l.reverse = loOf E l :=
  Int.le_antisymm (loOf_le.2 ⟨loOf_nonneg _ _, fun _ hn => loOf_mem (List.mem_reverse.1 hn)⟩) (loOf_le.2 ⟨loOf_nonneg _ _, fun _ hn => loOf_mem (List.mem_reverse.2 hn)⟩)
theorem hiOf_rev (E : Int) (l : List Int) : hiOf E l.reverse = hiOf E l :=
  Int.le_antisymm (le_hiOf.2 ⟨hiOf_le _ _, fun _ hn => hiOf_mem (List.mem_reverse.2 hn)⟩) (le_hiOf.2 ⟨hiOf_le _ _, fun _ hn => hiOf_mem (List.mem_reverse.1 hn)⟩)

theorem wrong_lt8 {E : Int} {l : List Int} (h3 : l.length ≤ 3) : wrongV E l < 8 := Nat.lt_of_lt_of_le (wrong_is (E := E) h3).lt (Nat.le_trans (Nat.pow_le_pow_right (by decide) h3) (by decide))
theorem wrong_least {E : Int} {l : List Int} (h3 : l.length ≤ 3) {s : Nat} (hs : s < 2 ^ l.length) (hr : rightB E l s = true) : sizeN (wrongV E l) ≤ sizeN s := by
  have := (wrong_is (E := E) h3).least s hs hr
  omega
theorem wrong_snoc {E x : Int} {l : List Int} (h3 : (l ++ [x]).length ≤ 3) : sizeN (wrongV E l) ≤ sizeN (wrongV E (l ++ [x])) := by
  have hl : l.length ≤ 3 := by simp at h3; omega
  have hw := wrong_is (E := E) h3
  have h8 := wrong_lt8 (E := E) h3
  have key : ∀ s : Fin 8, ∀ k : Fin 4, sizeN (s.1 % 2 ^ k.1) ≤ sizeN s.1 := by decide
  refine Nat.le_trans (wrong_least hl (s := wrongV E (l ++ [x]) % 2 ^ l.length) (Nat.mod_lt _ (Nat.two_pow_pos _)) ?_) (key ⟨_, h8⟩ ⟨l.length, by omega⟩)
  obtain ⟨y, hy, h⟩ := rightB_iff.1 hw.right
  refine rightB_iff.2 ⟨y, hy, fun i n hi0 hb => ?_⟩
  have hi := (List.getElem?_eq_some_iff.1 hi0).1
  rw [Nat.testBit_mod_two_pow] at hb
  simp only [hi, decide_true, Bool.true_and] at hb
  exact h i n (by rw [List.getElem?_append_left hi]; exact hi0) hb
theorem wrong_err {E E' : Int} (h : E' ≤ E) {l : List Int} (h3 : l.length ≤ 3) : sizeN (wrongV E l) ≤ sizeN (wrongV E' l) := by
  have hw := wrong_is (E := E') h3
  refine wrong_least h3 hw.lt ?_
  obtain ⟨y, hy, k⟩ := rightB_iff.1 hw.right
  exact rightB_iff.2 ⟨y, hy, fun i n hi0 hb => by have := k i n hi0 hb; omega⟩
theorem right_shift {E d : Int} {l : List Int} {s : Nat} (hE : 0 ≤ E ∧ E ≤ 3) (hd : 0 ≤ d) (hb : ∀ n ∈ l, 3 ≤ n ∧ n + d ≤ 200) : rightB E (l.map (· + d)) s = rightB E l s := by
  rw [Bool.eq_iff_iff, rightB_iff, rightB_iff]
  by_cases hex : ∃ (i : Nat) (n : Int), l[i]? = some n ∧ s.testBit i = false
  · obtain ⟨j, m, hj, hjb⟩ := hex
    have hm := hb m (List.mem_of_getElem? hj)
    constructor
    · rintro ⟨x, hx, h⟩
      have h1 := h j (m + d) (by rw [List.getElem?_map, hj]; rfl) hjb
      exact ⟨x - d, by omega, fun i n hi0 hbit => by have := h i (n + d) (by rw [List.getElem?_map, hi0]; rfl) hbit; omega⟩
    · rintro ⟨x, hx, h⟩
      have h1 := h j m hj hjb
      refine ⟨x + d, by omega, fun i n hi0 hbit => ?_⟩
      rw [List.getElem?_map] at hi0
      obtain ⟨n', hn', rfl⟩ := Option.map_eq_some_iff.1 hi0
      have := h i n' hn' hbit
      omega
  · constructor
    · rintro ⟨x, hx, _⟩
      exact ⟨x, hx, fun i n hi0 hbit => absurd ⟨i, n, hi0, hbit⟩ hex⟩
    · rintro ⟨x, hx, _⟩
      refine ⟨x, hx, fun i n hi0 hbit => ?_⟩
      rw [List.getElem?_map] at hi0
      obtain ⟨n', hn', rfl⟩ := Option.map_eq_some_iff.1 hi0
      exact absurd ⟨i, n', hn', hbit⟩ hex
theorem wrong_shift {E d : Int} {l : List Int} (hE : 0 ≤ E ∧ E ≤ 3) (hd : 0 ≤ d) (hb : ∀ n ∈ l, 3 ≤ n ∧ n + d ≤ 200) : wrongV E (l.map (· + d)) = wrongV E l := by
  have : wrongStep E (l.map (· + d)) = wrongStep E l := by
    funext best s
    unfold wrongStep
    rw [right_shift hE hd hb]
  unfold wrongV wrongTo
  rw [List.length_map, this]
/-- A set of watches, read from behind. -/
def revN (n s : Nat) : Nat := ((List.range n).map fun i => if s.testBit i = true then 2 ^ (n - 1 - i) else 0).sum
theorem revN_facts : ∀ n : Fin 4, ∀ s : Fin 8, s.1 < 2 ^ n.1 → revN n.1 s.1 < 2 ^ n.1 ∧ sizeN (revN n.1 s.1) = sizeN s.1 ∧ ∀ i : Fin 3, i.1 < n.1 → (revN n.1 s.1).testBit i.1 = s.1.testBit (n.1 - 1 - i.1) := by decide
theorem wrong_rev1 {E : Int} {l : List Int} (h3 : l.length ≤ 3) : sizeN (wrongV E l) ≤ sizeN (wrongV E l.reverse) := by
  have h3' : l.reverse.length ≤ 3 := by simpa using h3
  have hw := wrong_is (E := E) h3'
  have h8 := wrong_lt8 (E := E) h3'
  have hlt := hw.lt
  rw [List.length_reverse] at hlt
  obtain ⟨k1, k2, k3⟩ := revN_facts ⟨l.length, by omega⟩ ⟨wrongV E l.reverse, h8⟩ hlt
  dsimp only at k1 k2 k3
  rw [← k2]
  refine wrong_least h3 k1 ?_
  obtain ⟨y, hy, h⟩ := rightB_iff.1 hw.right
  refine rightB_iff.2 ⟨y, hy, fun i n hi0 hb => ?_⟩
  have hi := (List.getElem?_eq_some_iff.1 hi0).1
  rw [k3 ⟨i, by omega⟩ hi] at hb
  refine h (l.length - 1 - i) n ?_ hb
  rw [List.getElem?_reverse (by omega), show l.length - 1 - (l.length - 1 - i) = i by omega]
  exact hi0
theorem wrong_rev {E : Int} {l : List Int} (h3 : l.length ≤ 3) : sizeN (wrongV E l.reverse) = sizeN (wrongV E l) := by
  have a := wrong_rev1 (E := E) h3
  have b := wrong_rev1 (E := E) (l := l.reverse) (by simpa using h3)
  rw [List.reverse_reverse] at b
  omega

theorem narrow_of {E E' d : Int} {ss ss' : List (List Int)} (hl : ss'.length = ss.length) (h : ∀ (i : Nat) (l l' : List Int), ss[i]? = some l → ss'[i]? = some l' → loOf E l + d ≤ loOf E' l' ∧ hiOf E' l' ≤ hiOf E l + d) : Narrow (clocksOf E ss) (clocksOf E' ss') d := by
  refine ⟨by rw [clocks_len, clocks_len, hl], fun p hp => ?_⟩
  rw [clocks_len] at hp
  have e := clocks_get (E := E) (List.getElem?_eq_getElem hp)
  have e' := clocks_get (E := E') (List.getElem?_eq_getElem (show p < ss'.length by omega))
  rw [e.1, e.2, e'.1, e'.2]
  exact h p _ _ (List.getElem?_eq_getElem hp) (List.getElem?_eq_getElem (by omega))
/-- With a watch more. -/
theorem more_watch {E F x : Int} {ss : List (List Int)} {p : Nat} {l : List Int} (hx : ss[p]? = some l) (h3 : (l ++ [x]).length ≤ 3) : MoreQ E F ss p 0 E (ss.set p (l ++ [x])) 0 := by
  have hp := (List.getElem?_eq_some_iff.1 hx).1
  refine ⟨List.length_set, narrow_of List.length_set fun i a b ha hb => ?_, fun h => by omega, ?_, fun h => by omega, fun h => by omega⟩
  · by_cases e : p = i
    · subst e
      rw [List.getElem?_set_self hp] at hb
      rw [hx] at ha
      cases ha
      cases hb
      rw [loOf_snoc, hiOf_snoc]
      omega
    · rw [List.getElem?_set_ne e, ha] at hb
      cases hb
      omega
  · rw [hx, List.getElem?_set_self hp]
    exact wrong_snoc h3
/-- With a smaller error. -/
theorem more_error {E E' F : Int} {ss : List (List Int)} {p : Nat} {l : List Int} (h : E' ≤ E) (hx : ss[p]? = some l) (h3 : l.length ≤ 3) : MoreQ E F ss p 1 E' ss 0 := by
  refine ⟨rfl, narrow_of rfl fun i a b ha hb => ?_, fun h => by omega, ?_, fun h => by omega, fun h => by omega⟩
  · rw [ha] at hb
    cases hb
    have := loOf_err h a
    have := hiOf_err h a
    omega
  · rw [hx]
    exact wrong_err h h3
/-- All times more by as much. -/
theorem more_times {E F d : Int} {ss : List (List Int)} {p : Nat} (hE : 0 ≤ E ∧ E ≤ 3) (hd : 0 ≤ d) (hb : ∀ l ∈ ss, 1 ≤ l.length ∧ ∀ n ∈ l, 3 ≤ n ∧ n + d ≤ 200) : MoreQ E F ss p 2 E (ss.map fun l => l.map (· + d)) d := by
  have key : ∀ (i : Nat) (a b : List Int), ss[i]? = some a → (ss.map fun l => l.map (· + d))[i]? = some b → loOf E b = loOf E a + d ∧ hiOf E b = hiOf E a + d := fun i a b ha hb' => by
    rw [List.getElem?_map, ha] at hb'
    cases hb'
    have h := hb a (List.mem_of_getElem? ha)
    exact ⟨loOf_shift hE hd h.1 fun n hn => (h.2 n hn).1, hiOf_shift hE hd h.1 fun n hn => (h.2 n hn).2⟩
  have hw : wrongV E (ss[p]?.getD []) = wrongV E ((ss.map fun l => l.map (· + d))[p]?.getD []) := by
    rw [List.getElem?_map]
    cases hx : ss[p]? with
    | none => rfl
    | some l => exact (wrong_shift hE hd (hb l (List.mem_of_getElem? hx)).2).symm
  refine ⟨List.length_map _, narrow_of (List.length_map _) fun i a b ha hb' => ?_, fun _ => narrow_of (List.length_map _).symm fun i a b ha hb' => ?_, Nat.le_of_eq (by rw [hw]), fun _ => hw, fun h => by omega⟩
  · have := key i a b ha hb'
    omega
  · have := key i b a hb' ha
    omega
/-- The watches in another order. -/
theorem more_turned {E F : Int} {ss : List (List Int)} {p : Nat} (hb : ∀ l ∈ ss, l.length ≤ 3) : MoreQ E F ss p 3 E (ss.map List.reverse) 0 := by
  have key : ∀ (i : Nat) (a b : List Int), ss[i]? = some a → (ss.map List.reverse)[i]? = some b → loOf E b = loOf E a ∧ hiOf E b = hiOf E a := fun i a b ha hb' => by
    rw [List.getElem?_map, ha] at hb'
    cases hb'
    exact ⟨loOf_rev _ _, hiOf_rev _ _⟩
  have hw : sizeN (wrongV E ((ss.map List.reverse)[p]?.getD [])) = sizeN (wrongV E (ss[p]?.getD [])) := by
    rw [List.getElem?_map]
    cases hx : ss[p]? with
    | none => rfl
    | some l => exact wrong_rev (hb l (List.mem_of_getElem? hx))
  refine ⟨List.length_map _, narrow_of (List.length_map _) fun i a b ha hb' => ?_, fun _ => narrow_of (List.length_map _).symm fun i a b ha hb' => ?_, by omega, fun h => by omega, fun _ => by omega⟩
  · have := key i a b ha hb'
    omega
  · have := key i b a hb' ha
    omega
theorem errOf_two {E F : Int} {ss : List (List Int)} (hv : validB E F ss = true) : errOf E F ss true = 0 ∧ feasB (clocksOf E ss) = true ∨ errOf E F ss true = 10 ∧ feasB (clocksOf E ss) = false := by
  cases hf : feasB (clocksOf E ss)
  · exact .inr ⟨errOf_no hv hf rfl, rfl⟩
  · exact .inl ⟨errOf_ok hv hf rfl, rfl⟩
/-- What the law asks of each of the four, if there is a truth of it. -/
structure MoreT (E F : Int) (ss : List (List Int)) (i : Nat) (E' : Int) (ss' : List (List Int)) (d : Int) : Prop where
  ok : errOf E F ss true = 0
  orders : ordersV E' F ss' ≤ ordersV E F ss ∧ (2 ≤ i → ordersV E' F ss' = ordersV E F ss)
  cut : (cutE E F ss).1 + d ≤ (cutE E' F ss').1 ∧ (cutE E' F ss').2 ≤ (cutE E F ss).2 + d
  cut2 : 2 ≤ i → (cutE E' F ss').1 = (cutE E F ss).1 + d ∧ (cutE E' F ss').2 = (cutE E F ss).2 + d
  told : ∀ r, r < ss.length → Told E F ss r
  told' : ∀ r, r < ss.length → Told E' F ss' r
  place : ∀ r, r < ss.length → placeLo (clocksOf E ss) r ≤ placeLo (clocksOf E' ss') r ∧ placeHi (clocksOf E' ss') r ≤ placeHi (clocksOf E ss) r
  place2 : 2 ≤ i → ∀ r, r < ss.length → placeLo (clocksOf E' ss') r = placeLo (clocksOf E ss) r ∧ placeHi (clocksOf E' ss') r = placeHi (clocksOf E ss) r
  time : ∀ r, r < ss.length → lo (clocksOf E ss) r + d ≤ lo (clocksOf E' ss') r ∧ hi (clocksOf E' ss') r ≤ hi (clocksOf E ss) r + d
  time2 : 2 ≤ i → ∀ r, r < ss.length → lo (clocksOf E' ss') r = lo (clocksOf E ss) r + d ∧ hi (clocksOf E' ss') r = hi (clocksOf E ss) r + d
  final : ∀ r, r < ss.length → finalP (clocksOf E ss) F r ≠ 1 → finalP (clocksOf E' ss') F r = finalP (clocksOf E ss) F r
  final2 : 2 ≤ i → ∀ r, r < ss.length → finalP (clocksOf E' ss') F r = finalP (clocksOf E ss) F r
theorem more_told {E F E' d : Int} {ss ss' : List (List Int)} {p i : Nat} (h : MoreQ E F ss p i E' ss' d) (hv : validB E F ss = true) (hv' : validB E' F ss' = true) (he : errOf E' F ss' true = 0) : MoreT E F ss i E' ss' d := by
  have hf' : feasB (clocksOf E' ss') = true := by
    rcases errOf_two hv' with c | c
    · exact c.2
    · omega
  have hfe' := feasB_iff.1 hf'
  have hfe := h.n.feas hfe'
  have hf := feasB_iff.2 hfe
  have e0 := errOf_ok hv hf (ok := true) rfl
  obtain ⟨_, hn, hF, _⟩ := valid_parts hv
  have hl := clocks_len E ss
  have hl' := clocks_len E' ss'
  have hlen := h.len
  have hF' : 1 ≤ F ∧ F ≤ (clocksOf E ss).length := by omega
  have hF2 : 1 ≤ F ∧ F ≤ (clocksOf E' ss').length := by omega
  have o1 := h.n.orders (clocks_nonneg E ss) (clocks_nonneg E' ss')
  refine ⟨e0, ?_, ?_, fun hi2 => ?_, fun r hr => told_at hv hf hr, fun r hr => told_at hv' hf' (by omega), fun r hr => h.n.place hfe' (by omega), fun hi2 r hr => ?_, fun r hr => h.n.at_ r (by omega), fun hi2 r hr => ?_, fun r hr hne => h.n.final hfe' (by omega) hne, fun hi2 r hr => ?_⟩
  · unfold ordersV
    rw [if_pos e0, if_pos he]
    refine ⟨by omega, fun hi2 => ?_⟩
    have := (h.back hi2).orders (clocks_nonneg E' ss') (clocks_nonneg E ss)
    omega
  · rw [cutE_ok e0, cutE_ok he]
    exact h.n.cut hF'
  · rw [cutE_ok e0, cutE_ok he]
    have a := h.n.cut hF'
    have b := (h.back hi2).cut hF2
    omega
  · have a := h.n.place hfe' (p := r) (by omega)
    have b := (h.back hi2).place hfe (p := r) (by omega)
    omega
  · have a := h.n.at_ r (by omega)
    have b := (h.back hi2).at_ r (by omega)
    omega
  · by_cases c : finalP (clocksOf E ss) F r = 1
    · by_cases c' : finalP (clocksOf E' ss') F r = 1
      · rw [c, c']
      · exact ((h.back hi2).final hfe (by omega) c').symm
    · exact h.n.final hfe' (by omega) c
theorem more_err {E F E' d : Int} {ss ss' : List (List Int)} {p i : Nat} (h : MoreQ E F ss p i E' ss' d) (hv : validB E F ss = true) (hv' : validB E' F ss' = true) (hi2 : 2 ≤ i) : errOf E' F ss' true = errOf E F ss true := by
  rcases errOf_two hv with c | c <;> rcases errOf_two hv' with c' | c'
  · omega
  · have := (h.back hi2).feas (feasB_iff.1 c.2)
    rw [← feasB_iff, c'.2] at this
    cases this
  · have := h.n.feas (feasB_iff.1 c'.2)
    rw [← feasB_iff, c.2] at this
    cases this
  · omega
end Go.Proofs.Ytbeglemohfbdfaa
