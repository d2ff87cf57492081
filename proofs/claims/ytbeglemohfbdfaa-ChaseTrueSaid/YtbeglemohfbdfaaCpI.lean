/- Plain laws of chases: the law ChaseTrue: times that all watches are right of. Conditions: none. -/
import Derived.Test.YtbeglemohfbdfaaLwC
import Derived.Test.YtbeglemohfbdfaaCpH
namespace Go.Proofs.Ytbeglemohfbdfaa

/-- A chase whose watches are right of some times. -/
structure Right7 (E F : Int) (ss : List (List Int)) (t : List Int) : Prop where
  err : 0 ≤ E ∧ E ≤ 3
  n : 1 ≤ ss.length ∧ ss.length ≤ 6
  fin : 1 ≤ F ∧ F ≤ ss.length
  len : t.length = ss.length
  at_ : ∀ i l, ss[i]? = some l → (1 ≤ l.length ∧ l.length ≤ 3) ∧ (0 ≤ tm t i ∧ tm t i ≤ 170) ∧ ∀ n ∈ l, (0 ≤ n ∧ n ≤ 200) ∧ n - E ≤ tm t i ∧ tm t i ≤ n + E
theorem Right7.valid {E F : Int} {ss : List (List Int)} {t : List Int} (h : Right7 E F ss t) : validB E F ss = true := by
  unfold validB
  have h1 := h.err
  have h2 := h.n
  have h3 := h.fin
  rw [inB_true.2 h1, inB_true.2 (show (1 : Int) ≤ (ss.length : Int) ∧ (ss.length : Int) ≤ 6 by omega), inB_true.2 h3]
  simp only [Bool.true_and, List.all_eq_true]
  intro l hl
  obtain ⟨i, hi, rfl⟩ := List.getElem_of_mem hl
  obtain ⟨k1, _, k2⟩ := h.at_ i _ (List.getElem?_eq_getElem hi)
  unfold listB
  rw [inB_true.2 (show (1 : Int) ≤ (ss[i].length : Int) ∧ (ss[i].length : Int) ≤ 3 by omega), Bool.true_and, List.all_eq_true]
  exact fun n hn => inB_true.2 (k2 n hn).1
theorem Right7.tr {E F : Int} {ss : List (List Int)} {t : List Int} (h : Right7 E F ss t) : Tr (clocksOf E ss) t := by
  refine ⟨by rw [clocks_len, h.len], fun p hp => ?_⟩
  rw [clocks_len] at hp
  obtain ⟨_, k1, k2⟩ := h.at_ p _ (List.getElem?_eq_getElem hp)
  obtain ⟨e1, e2⟩ := clocks_get (E := E) (List.getElem?_eq_getElem hp)
  rw [e1, e2]
  exact span_iff.2 ⟨by omega, fun n hn => (k2 n hn).2⟩
theorem Right7.feas {E F : Int} {ss : List (List Int)} {t : List Int} (h : Right7 E F ss t) : Feas (clocksOf E ss) := fun p hp => by
  have := h.tr.2 p hp
  omega
theorem Right7.ok {E F : Int} {ss : List (List Int)} {t : List Int} (h : Right7 E F ss t) {o : Bool} (ho : o = true) : errOf E F ss o = 0 := errOf_ok h.valid (feasB_iff.2 h.feas) ho
theorem Right7.told {E F : Int} {ss : List (List Int)} {t : List Int} (h : Right7 E F ss t) {p : Nat} (hp : p < ss.length) : Told E F ss p := told_at h.valid (feasB_iff.2 h.feas) hp
/-- The time of the last pair that comes into the final lies within the cut. -/
theorem Right7.cut {E F : Int} {ss : List (List Int)} {t : List Int} (h : Right7 E F ss t) {l : List Nat} (hs : Srt t l) {p : Nat} (hp : l[(F - 1).toNat]? = some p) : (cutE E F ss).1 ≤ tm t p ∧ tm t p ≤ (cutE E F ss).2 := by
  rw [cutE_ok (h.ok rfl)]
  unfold cutV
  have hn := h.len
  have hf := h.fin
  have hk := kth_truth hs hp
  have htr := h.tr
  have h1 : (F - 1).toNat < (clocksOf E ss).length := by rw [clocks_len]; omega
  have a := (kthV_sorted ((clocksOf E ss).map (·.1)) (k := (F - 1).toNat) (by simpa using h1)).2
  have b := (kthV_sorted ((clocksOf E ss).map (·.2)) (k := (F - 1).toNat) (by simpa using h1)).2
  revert a b
  generalize kthV ((clocksOf E ss).map (·.1)) (F - 1).toNat = x
  generalize kthV ((clocksOf E ss).map (·.2)) (F - 1).toNat = y
  rw [map_fst, map_snd]
  intro a b
  rw [htr.1] at hk
  exact ⟨a.mono hk fun i hi0 => (htr.2 i hi0).1, hk.mono b fun i hi0 => (htr.2 i hi0).2⟩
theorem Right7.order {E F : Int} {ss : List (List Int)} {t : List Int} (h : Right7 E F ss t) {l : List Nat} (hs : Srt t l) : l ∈ ordersL (clocksOf E ss) := (mem_orders (clocks_nonneg E ss)).2 ⟨t, h.tr, hs⟩
theorem Right7.orders {E F : Int} {ss : List (List Int)} {t : List Int} (h : Right7 E F ss t) : ∃ n : Nat, ordersV E F ss = n ∧ 1 ≤ n ∧ n ≤ 46656 := by
  obtain ⟨l, hl⟩ := srt_ex t
  refine ⟨(ordersL (clocksOf E ss)).length, by unfold ordersV; rw [if_pos (h.ok rfl)], List.length_pos_of_mem (h.order hl), ?_⟩
  have h1 := ordersF_len (clocksOf E ss) (by rw [clocks_len]; exact h.n.2) (clocksOf E ss).length .begin
  refine Nat.le_trans h1 (Nat.le_trans (Nat.pow_le_pow_right (by decide) (show (clocksOf E ss).length ≤ 6 by rw [clocks_len]; exact h.n.2)) (by decide))
/-- The first order does not come behind the true one. -/
theorem Right7.first {E F : Int} {ss : List (List Int)} {t : List Int} (h : Right7 E F ss t) {l : List Nat} (hs : Srt t l) : (firstL E F ss).length = l.length ∧ (l = firstL E F ss ∨ llt (firstL E F ss) l) := by
  unfold firstL
  rw [if_pos (h.ok rfl)]
  have hm := h.order hs
  refine ⟨?_, orders_first hm⟩
  have key : (ordersL (clocksOf E ss)).headD [] ∈ ordersL (clocksOf E ss) := by
    revert hm
    generalize ordersL (clocksOf E ss) = L
    intro hm
    cases L with
    | nil => cases hm
    | cons a r => simp
  have e1 := ((mem_ordersF _ _ _ _).1 key).1
  have e2 := ((mem_ordersF _ _ _ _).1 hm).1
  omega
theorem llt_at : ∀ {a b : List Nat} {k : Nat} {x y : Nat}, llt a b → a.take k = b.take k → a[k]? = some x → b[k]? = some y → x ≠ y → x < y
  | [], _, _, _, _, h, _, _, _, _ => h.elim
  | _ :: _, [], _, _, _, h, _, _, _, _ => h.elim
  | p :: a, q :: b, 0, x, y, h, _, hx, hy, hne => by
    simp at hx hy
    subst hx hy
    rcases h with h | h
    · exact h
    · exact absurd h.1 hne
  | p :: a, q :: b, k + 1, x, y, h, ht, hx, hy, hne => by
    simp only [List.take_succ_cons, List.cons.injEq] at ht
    rcases h with h | h
    · omega
    · exact llt_at h.2 ht.2 (by simpa using hx) (by simpa using hy) hne
theorem Right7.time {E F : Int} {ss : List (List Int)} {t : List Int} (h : Right7 E F ss t) {p : Nat} (hp : p < ss.length) : (timeV E F ss p).1 ≤ tm t p ∧ tm t p ≤ (timeV E F ss p).2 := by
  rw [(h.told hp).time]
  exact h.tr.2 p (by rw [clocks_len]; exact hp)
theorem Right7.wrong {E F : Int} {ss : List (List Int)} {t : List Int} (h : Right7 E F ss t) {p : Nat} (hp : p < ss.length) : wrongE E F ss p = 0 ∧ codeO E F ss (inB p 0 (ss.length - 1)) = 0 := by
  have hc : codeO E F ss (inB p 0 (ss.length - 1)) = 0 := by
    unfold codeO
    rw [h.valid, inB_true.2 (show (0 : Int) ≤ (p : Int) ∧ (p : Int) ≤ (ss.length : Int) - 1 by omega)]
    rfl
  refine ⟨?_, hc⟩
  unfold wrongE
  rw [if_pos hc, Int.toNat_natCast, List.getElem?_eq_getElem hp]
  have h3 : ss[p].length ≤ 3 := (h.at_ p _ (List.getElem?_eq_getElem hp)).1.2
  have hz := (wrong_zero (E := E) (l := ss[p]) h3).2 (by
    have := h.feas p (by rw [clocks_len]; exact hp)
    obtain ⟨e1, e2⟩ := clocks_get (E := E) (List.getElem?_eq_getElem hp)
    rw [e1, e2] at this
    exact this)
  show ((wrongV E ss[p] : Nat) : Int) = 0
  rw [hz]
  rfl
theorem Right7.place {E F : Int} {ss : List (List Int)} {t : List Int} (h : Right7 E F ss t) {p : Nat} (hp : p < ss.length) : (placeV E F ss p).1 ≤ (placeN t p : Int) ∧ (placeN t p : Int) ≤ (placeV E F ss p).2 := by
  rw [(h.told hp).place]
  have := place_range h.tr (p := p) (by rw [clocks_len]; exact hp)
  dsimp only
  omega
theorem Right7.final {E F : Int} {ss : List (List Int)} {t : List Int} (h : Right7 E F ss t) {p : Nat} (hp : p < ss.length) : ((placeN t p : Int) < F → finalE E F ss p ≠ 0) ∧ (F ≤ (placeN t p : Int) → finalE E F ss p ≠ 2) := by
  rw [(h.told hp).final]
  have := place_range h.tr (p := p) (by rw [clocks_len]; exact hp)
  constructor
  · intro h1 e
    have := (finalP_zero.1 e).1
    omega
  · intro h1 e
    have := (finalP_two.1 e).2
    omega
theorem Right7.meet {E F : Int} {ss : List (List Int)} {t : List Int} (h : Right7 E F ss t) {p q : Nat} (hp : p < ss.length) (hq : q < ss.length) (hne : p ≠ q) : errOf E F ss (okM ss p q) = 0 ∧ ((placeN t p : Int) + placeN t q = ss.length - 1 → meetE E F ss p q ≠ 0) ∧ (¬ (placeN t p : Int) + placeN t q = ss.length - 1 → meetE E F ss p q ≠ 2) := by
  have ho : okM ss p q = true := by
    unfold okM
    rw [inB_true.2 (show (0 : Int) ≤ (p : Int) ∧ (p : Int) ≤ (ss.length : Int) - 1 by omega), inB_true.2 (show (0 : Int) ≤ (q : Int) ∧ (q : Int) ≤ (ss.length : Int) - 1 by omega)]
    simp; omega
  have he := h.ok ho
  refine ⟨he, ?_⟩
  unfold meetE
  rw [if_pos he, Int.toNat_natCast, Int.toNat_natCast]
  unfold meetV
  obtain ⟨l, hs⟩ := srt_ex t
  have hm := h.order hs
  have e1 := hs.idx (p := p) (by rw [h.len]; exact hp)
  have e2 := hs.idx (p := q) (by rw [h.len]; exact hq)
  rw [clocks_len]
  have hmem : decide ((l.idxOf p : Int) + l.idxOf q = ss.length - 1) ∈ (ordersL (clocksOf E ss)).map fun l => decide ((l.idxOf p : Int) + l.idxOf q = ss.length - 1) := List.mem_map.2 ⟨l, hm, rfl⟩
  rw [e1, e2] at hmem
  constructor
  · intro k e
    have := (soB_zero (fun e => by rw [e] at hmem; cases hmem)).1 e _ hmem
    rw [decide_eq_false_iff_not] at this
    exact this k
  · intro k e
    have := soB_two.1 e _ hmem
    rw [decide_eq_true_eq] at this
    exact k this
end Go.Proofs.Ytbeglemohfbdfaa
