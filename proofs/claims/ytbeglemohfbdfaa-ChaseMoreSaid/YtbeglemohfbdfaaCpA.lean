/- Plain laws of chases: times, places, orders. Conditions: none. -/
import Derived.Test.YtbeglemohfbdfaaProg
namespace Go.Proofs.Ytbeglemohfbdfaa

/-- The time of a pair. -/
def tm (t : List Int) (p : Nat) : Int := t[p]?.getD 0
/-- Does a pair with a time come before another one? -/
def befB (t : Int) (p : Nat) (u : Int) (q : Nat) : Bool := decide (t < u) || (decide (t = u) && decide (p < q))
theorem befB_iff {t : Int} {p : Nat} {u : Int} {q : Nat} : befB t p u q = true ↔ t < u ∨ t = u ∧ p < q := by simp [befB]
/-- A pair's place. -/
def placeN (t : List Int) (p : Nat) : Nat := (List.range t.length).countP fun i => befB (tm t i) i (tm t p) p
def lo (ks : List (Int × Int)) (p : Nat) : Int := (ks[p]?.getD (0, 0)).1
def hi (ks : List (Int × Int)) (p : Nat) : Int := (ks[p]?.getD (0, 0)).2
/-- A truth. -/
def Tr (ks : List (Int × Int)) (t : List Int) : Prop := t.length = ks.length ∧ ∀ p, p < ks.length → lo ks p ≤ tm t p ∧ tm t p ≤ hi ks p
/-- There is a truth. -/
def Feas (ks : List (Int × Int)) : Prop := ∀ p, p < ks.length → lo ks p ≤ hi ks p
def placeLo (ks : List (Int × Int)) (p : Nat) : Nat := (List.range ks.length).countP fun i => decide (i ≠ p) && befB (hi ks i) i (lo ks p) p
def placeHi (ks : List (Int × Int)) (p : Nat) : Nat := (List.range ks.length).countP fun i => decide (i ≠ p) && befB (lo ks i) i (hi ks p) p

theorem place_range {ks : List (Int × Int)} {t : List Int} {p : Nat} (h : Tr ks t) (hp : p < ks.length) : placeLo ks p ≤ placeN t p ∧ placeN t p ≤ placeHi ks p := by
  unfold placeLo placeN placeHi
  rw [h.1]
  have h1 := h.2 p hp
  refine ⟨List.countP_mono_left fun i hi0 hb => ?_, List.countP_mono_left fun i hi0 hb => ?_⟩
  · have h2 := h.2 i (List.mem_range.1 hi0)
    simp only [Bool.and_eq_true, befB_iff] at hb ⊢
    omega
  · have h2 := h.2 i (List.mem_range.1 hi0)
    simp only [Bool.and_eq_true, befB_iff, decide_eq_true_eq] at hb ⊢
    refine ⟨fun e => ?_, ?_⟩
    · subst e; omega
    · omega
theorem tm_map {n : Nat} {f : Nat → Int} {i : Nat} (h : i < n) : tm ((List.range n).map f) i = f i := by simp [tm, h]
theorem tr_of {ks : List (Int × Int)} {f : Nat → Int} (h : ∀ p, p < ks.length → lo ks p ≤ f p ∧ f p ≤ hi ks p) : Tr ks ((List.range ks.length).map f) :=
  ⟨by simp, fun p hp => by rw [tm_map hp]; exact h p hp⟩
theorem place_lo {ks : List (Int × Int)} {p : Nat} (hf : Feas ks) (hp : p < ks.length) : ∃ t, Tr ks t ∧ tm t p = lo ks p ∧ placeN t p = placeLo ks p := by
  refine ⟨(List.range ks.length).map fun i => if i = p then lo ks p else hi ks i, tr_of fun q hq => ?_, ?_, ?_⟩
  · have := hf q hq
    split
    · subst_vars; omega
    · omega
  · rw [tm_map hp, if_pos rfl]
  · unfold placeN placeLo
    rw [List.length_map, List.length_range]
    refine List.countP_congr fun i hi0 => ?_
    rw [tm_map (List.mem_range.1 hi0), tm_map hp, if_pos rfl]
    by_cases e : i = p
    · subst e; simp [befB]
    · simp [e]
theorem place_hi {ks : List (Int × Int)} {p : Nat} (hf : Feas ks) (hp : p < ks.length) : ∃ t, Tr ks t ∧ tm t p = hi ks p ∧ placeN t p = placeHi ks p := by
  refine ⟨(List.range ks.length).map fun i => if i = p then hi ks p else lo ks i, tr_of fun q hq => ?_, ?_, ?_⟩
  · have := hf q hq
    split
    · subst_vars; omega
    · omega
  · rw [tm_map hp, if_pos rfl]
  · unfold placeN placeHi
    rw [List.length_map, List.length_range]
    refine List.countP_congr fun i hi0 => ?_
    rw [tm_map (List.mem_range.1 hi0), tm_map hp, if_pos rfl]
    by_cases e : i = p
    · subst e; simp [befB]
    · simp [e]

/-- A list without repetition is no longer than one that has all of it. -/
theorem nodup_le {α : Type} [DecidableEq α] : ∀ (a b : List α), a.Nodup → (∀ x ∈ a, x ∈ b) → a.length ≤ b.length
  | [], _, _, _ => Nat.zero_le _
  | x :: a, b, h, hs => by
    have hx := hs x (by simp)
    rw [List.nodup_cons] at h
    have := nodup_le a (b.erase x) h.2 fun y hy => (List.mem_erase_of_ne (fun e : y = x => h.1 (by rw [← e]; exact hy))).2 (hs y (by simp [hy]))
    rw [List.length_erase_of_mem hx] at this
    have := List.length_pos_of_mem hx
    simp only [List.length_cons]
    omega
theorem mem_of_full {n : Nat} {l : List Nat} (h : l.Nodup) (hl : l.length = n) (hb : ∀ x ∈ l, x < n) {x : Nat} (hx : x < n) : x ∈ l := by
  refine Classical.byContradiction fun hn => ?_
  have := nodup_le (x :: l) (List.range n) (List.nodup_cons.2 ⟨hn, h⟩) fun y hy => by
    rcases List.mem_cons.1 hy with rfl | hy
    · exact List.mem_range.2 hx
    · exact List.mem_range.2 (hb y hy)
  simp at this
  omega

/-- A list of all pairs, in the order of times. -/
structure Srt (t : List Int) (l : List Nat) : Prop where
  nd : l.Nodup
  len : l.length = t.length
  lt : ∀ p ∈ l, p < t.length
  asc : l.Pairwise fun p q => befB (tm t p) p (tm t q) q = true
theorem Srt.perm {t : List Int} {l : List Nat} (h : Srt t l) : (List.range t.length).Perm l :=
  (List.perm_ext_iff_of_nodup List.nodup_range h.nd).2 fun p => ⟨fun hp => mem_of_full h.nd h.len h.lt (List.mem_range.1 hp), fun hp => List.mem_range.2 (h.lt p hp)⟩
theorem count_asc {R : Nat → Nat → Bool} (hi : ∀ a b, R a b = true → R b a = false) (hr : ∀ a, R a a = false) : ∀ (l : List Nat), l.Pairwise (fun p q => R p q = true) → ∀ k (hk : k < l.length), l.countP (fun i => R i l[k]) = k
  | [], _, k, hk => by simp at hk
  | x :: l, h, 0, hk => by
    rw [List.pairwise_cons] at h
    simp only [List.getElem_cons_zero, List.countP_eq_zero, List.mem_cons]
    rintro a (rfl | ha)
    · simp [hr]
    · simp [hi _ _ (h.1 a ha)]
  | x :: l, h, k + 1, hk => by
    rw [List.pairwise_cons] at h
    simp only [List.getElem_cons_succ, List.countP_cons]
    rw [count_asc hi hr l h.2 k (by simpa using hk), if_pos (h.1 _ (List.getElem_mem _))]
theorem Srt.place {t : List Int} {l : List Nat} (h : Srt t l) {k : Nat} (hk : k < l.length) : placeN t l[k] = k := by
  unfold placeN
  rw [h.perm.countP_eq]
  refine count_asc (R := fun i j => befB (tm t i) i (tm t j) j) (fun a b hab => ?_) (fun a => by simp [befB]) l h.asc k hk
  rw [befB_iff] at hab
  rw [Bool.eq_false_iff, ne_eq, befB_iff]
  omega
theorem Srt.at {t : List Int} {l : List Nat} (h : Srt t l) {p : Nat} (hp : p < t.length) : l[placeN t p]? = some p := by
  obtain ⟨k, hk, rfl⟩ := List.getElem_of_mem (mem_of_full h.nd h.len h.lt hp)
  rw [h.place hk]
  simp [hk]
theorem place_lt {t : List Int} {p : Nat} (hp : p < t.length) {l : List Nat} (h : Srt t l) : placeN t p < t.length := by
  have := h.at hp
  have := (List.getElem?_eq_some_iff.1 this).1
  rw [h.len] at this
  exact this
theorem Srt.idx {t : List Int} {l : List Nat} (h : Srt t l) {p : Nat} (hp : p < t.length) : l.idxOf p = placeN t p := by
  have h1 := h.at hp
  obtain ⟨h2, h3⟩ := List.getElem?_eq_some_iff.1 h1
  rw [← h3, h.nd.idxOf_getElem, h.place h2]
theorem srt_ex (t : List Int) : ∃ l, Srt t l := by
  refine ⟨(List.range t.length).mergeSort fun p q => !befB (tm t q) q (tm t p) p, ?_⟩
  have hp := List.mergeSort_perm (List.range t.length) fun p q => !befB (tm t q) q (tm t p) p
  have hn := hp.nodup_iff.2 List.nodup_range
  refine ⟨hn, by rw [hp.length_eq, List.length_range], fun p h => List.mem_range.1 (hp.mem_iff.1 h), ?_⟩
  have hs := List.pairwise_mergeSort (le := fun p q => !befB (tm t q) q (tm t p) p) (fun a b c h1 h2 => ?_) (fun a b => ?_) (List.range t.length)
  · refine (hs.and (List.nodup_iff_pairwise_ne.1 hn)).imp fun {a b} h => ?_
    have h1 := h.1
    rw [Bool.not_eq_true', Bool.eq_false_iff, ne_eq, befB_iff] at h1
    rw [befB_iff]
    have := h.2
    omega
  · simp only [Bool.not_eq_true', Bool.eq_false_iff, ne_eq, befB_iff] at h1 h2 ⊢
    omega
  · simp only [Bool.or_eq_true, Bool.not_eq_true', Bool.eq_false_iff, ne_eq, befB_iff]
    omega
theorem srt_unique {t : List Int} {l m : List Nat} (h : Srt t l) (k : Srt t m) : l = m := by
  refine List.ext_getElem (by rw [h.len, k.len]) fun i h1 h2 => ?_
  have := k.at (h.lt _ (List.getElem_mem h1))
  rw [h.place h1] at this
  rw [List.getElem?_eq_getElem h2] at this
  exact (Option.some.inj this).symm

/-- Pairs that are placed, the last one, its least time. -/
structure St where
  placed : Nat
  last : Int
  time : Int
theorem St.ext' {a b : St} (h1 : a.placed = b.placed) (h2 : a.last = b.last) (h3 : a.time = b.time) : a = b := by
  cases a; cases b; simp_all
instance St.dec : DecidableEq St := fun a b =>
  if h : a.placed = b.placed ∧ a.last = b.last ∧ a.time = b.time then isTrue (St.ext' h.1 h.2.1 h.2.2) else isFalse fun e => h (by subst e; exact ⟨rfl, rfl, rfl⟩)
def St.begin : St := ⟨0, -1, 0⟩
def early (k : Int × Int) (p : Nat) (s : St) : Int := max k.1 (if (p : Int) < s.last then s.time + 1 else s.time)
def stepSt (ks : List (Int × Int)) (s : St) (p : Nat) : St := ⟨s.placed ||| 2 ^ p, p, early (lo ks p, hi ks p) p s⟩
def okSt (ks : List (Int × Int)) (s : St) (p : Nat) : Bool := !s.placed.testBit p && decide (early (lo ks p, hi ks p) p s ≤ hi ks p)
def nexts (ks : List (Int × Int)) (s : St) : List St := ((List.range ks.length).filter (okSt ks s)).map (stepSt ks s)
def ordersF (ks : List (Int × Int)) : Nat → St → List (List Nat)
  | 0, _ => [[]]
  | m + 1, s => (nexts ks s).flatMap fun o => (ordersF ks m o).map (o.last.toNat :: ·)
/-- All orders. -/
def ordersL (ks : List (Int × Int)) : List (List Nat) := ordersF ks ks.length .begin
def Path (ks : List (Int × Int)) : St → List Nat → Prop
  | _, [] => True
  | s, p :: l => p < ks.length ∧ okSt ks s p = true ∧ Path ks (stepSt ks s p) l
theorem mem_ordersF (ks : List (Int × Int)) : ∀ (m : Nat) (s : St) (l : List Nat), l ∈ ordersF ks m s ↔ l.length = m ∧ Path ks s l
  | 0, s, l => by
    cases l <;> simp [ordersF, Path]
  | m + 1, s, l => by
    simp only [ordersF, List.mem_flatMap, List.mem_map, nexts, List.mem_filter, List.mem_range]
    constructor
    · rintro ⟨o, ⟨p, ⟨hp, ho⟩, rfl⟩, r, hr, rfl⟩
      have := (mem_ordersF ks m _ r).1 hr
      exact ⟨by simp [this.1], hp, ho, this.2⟩
    · rintro ⟨h1, h2⟩
      cases l with
      | nil => simp at h1
      | cons p r =>
        obtain ⟨hp, ho, hr⟩ := h2
        exact ⟨_, ⟨p, ⟨hp, ho⟩, rfl⟩, r, (mem_ordersF ks m _ r).2 ⟨by simpa using h1, hr⟩, rfl⟩
theorem okSt_iff {ks : List (Int × Int)} {s : St} {p : Nat} : okSt ks s p = true ↔ s.placed.testBit p = false ∧ early (lo ks p, hi ks p) p s ≤ hi ks p := by
  simp [okSt]
theorem bit_step {ks : List (Int × Int)} {s : St} {p q : Nat} : (stepSt ks s p).placed.testBit q = (s.placed.testBit q || decide (p = q)) := by
  simp [stepSt, Nat.testBit_or, Nat.testBit_two_pow]
/-- The least times on a way. -/
def gtime (ks : List (Int × Int)) : St → List Nat → Nat → Int
  | _, [], _ => 0
  | s, p :: l, q => if p = q then early (lo ks p, hi ks p) p s else gtime ks (stepSt ks s p) l q
theorem path_facts (ks : List (Int × Int)) : ∀ (l : List Nat) (s : St), Path ks s l → (∀ q : Nat, (q : Int) = s.last → s.placed.testBit q = true) →
    l.Nodup ∧ (∀ q ∈ l, q < ks.length ∧ s.placed.testBit q = false ∧ lo ks q ≤ gtime ks s l q ∧ gtime ks s l q ≤ hi ks q ∧ (s.time < gtime ks s l q ∨ s.time = gtime ks s l q ∧ s.last < q)) ∧
      l.Pairwise fun p q => befB (gtime ks s l p) p (gtime ks s l q) q = true
  | [], s, _, _ => ⟨List.nodup_nil, by simp, List.Pairwise.nil⟩
  | p :: l, s, ⟨hp, ho, hr⟩, hs => by
    obtain ⟨h1, h2, h3⟩ := path_facts ks l _ hr fun q hq => by
      rw [bit_step]
      have : p = q := by have : (q : Int) = (p : Int) := hq; omega
      simp [this]
    obtain ⟨o1, o2⟩ := okSt_iff.1 ho
    have hnp : ∀ q ∈ l, p ≠ q ∧ s.placed.testBit q = false := fun q hq => by
      have := (h2 q hq).2.1
      rw [bit_step] at this
      simpa [and_comm] using this
    have hg : ∀ q ∈ l, gtime ks s (p :: l) q = gtime ks (stepSt ks s p) l q := fun q hq => by
      rw [gtime, if_neg (hnp q hq).1]
    have hpl : (p : Int) ≠ s.last := fun e => by rw [hs p e] at o1; cases o1
    have he : gtime ks s (p :: l) p = early (lo ks p, hi ks p) p s := by rw [gtime, if_pos rfl]
    have hE : lo ks p ≤ early (lo ks p, hi ks p) p s ∧ (s.time < early (lo ks p, hi ks p) p s ∨ s.time = early (lo ks p, hi ks p) p s ∧ s.last < p) := by
      unfold early
      dsimp only
      split <;> omega
    refine ⟨List.nodup_cons.2 ⟨fun hm => (hnp p hm).1 rfl, h1⟩, ?_, List.pairwise_cons.2 ⟨fun q hq => ?_, ?_⟩⟩
    · intro q hq
      rcases List.mem_cons.1 hq with rfl | hq
      · rw [he]
        exact ⟨hp, o1, hE.1, o2, hE.2⟩
      · rw [hg q hq]
        obtain ⟨a1, a2, a3, a4, a5⟩ := h2 q hq
        refine ⟨a1, (hnp q hq).2, a3, a4, ?_⟩
        have : (stepSt ks s p).time = early (lo ks p, hi ks p) p s := rfl
        have : (stepSt ks s p).last = p := rfl
        omega
    · rw [he, hg q hq, befB_iff]
      have := (h2 q hq).2.2.2.2
      have e1 : (stepSt ks s p).time = early (lo ks p, hi ks p) p s := rfl
      have e2 : (stepSt ks s p).last = p := rfl
      omega
    · refine List.Pairwise.imp_of_mem (fun {a b} ha hb h => ?_) h3
      rw [hg a ha, hg b hb]
      exact h
theorem path_of (ks : List (Int × Int)) (t : List Int) (h : Tr ks t) : ∀ (l : List Nat) (s : St), (∀ p ∈ l, p < ks.length) → l.Pairwise (fun p q => befB (tm t p) p (tm t q) q = true) →
    (∀ q ∈ l, s.placed.testBit q = false ∧ (if (q : Int) < s.last then s.time + 1 else s.time) ≤ tm t q) → Path ks s l
  | [], _, _, _, _ => trivial
  | p :: l, s, hb, ha, hs => by
    rw [List.pairwise_cons] at ha
    have h1 := hs p (by simp)
    have h2 := h.2 p (hb p (by simp))
    have hE : early (lo ks p, hi ks p) p s ≤ tm t p := by
      unfold early
      dsimp only
      omega
    refine ⟨hb p (by simp), okSt_iff.2 ⟨h1.1, by omega⟩, path_of ks t h l _ (fun q hq => hb q (by simp [hq])) ha.2 fun q hq => ?_⟩
    have h3 := ha.1 q hq
    rw [befB_iff] at h3
    refine ⟨?_, ?_⟩
    · rw [bit_step, (hs q (by simp [hq])).1]
      have : p ≠ q := by rintro rfl; omega
      simp [this]
    · have e1 : (stepSt ks s p).time = early (lo ks p, hi ks p) p s := rfl
      have e2 : (stepSt ks s p).last = p := rfl
      rw [e1, e2]
      split <;> omega
/-- **The orders are those of the truths.** -/
theorem mem_orders {ks : List (Int × Int)} (h0 : ∀ p, p < ks.length → 0 ≤ lo ks p) {l : List Nat} : l ∈ ordersL ks ↔ ∃ t, Tr ks t ∧ Srt t l := by
  unfold ordersL
  rw [mem_ordersF]
  constructor
  · rintro ⟨h1, h2⟩
    obtain ⟨a1, a2, a3⟩ := path_facts ks l .begin h2 fun q hq => by have : (q : Int) = -1 := hq; omega
    refine ⟨(List.range ks.length).map (gtime ks .begin l), tr_of fun p hp => ?_, a1, by simp [h1], fun p hp => by simpa using (a2 p hp).1, ?_⟩
    · have := a2 p (mem_of_full a1 h1 (fun x hx => (a2 x hx).1) hp)
      exact ⟨this.2.2.1, this.2.2.2.1⟩
    · refine List.Pairwise.imp_of_mem (fun {a b} ha hb h => ?_) a3
      rw [tm_map (a2 a ha).1, tm_map (a2 b hb).1]
      exact h
  · rintro ⟨t, h1, h2⟩
    refine ⟨by rw [h2.len, h1.1], path_of ks t h1 l _ (fun p hp => by rw [← h1.1]; exact h2.lt p hp) h2.asc fun q hq => ?_⟩
    refine ⟨by simp [St.begin], ?_⟩
    have hq' : q < ks.length := by rw [← h1.1]; exact h2.lt q hq
    have e1 := h1.2 q hq'
    have e2 := h0 q hq'
    have : ¬ (q : Int) < St.begin.last := by show ¬ (q : Int) < -1; omega
    rw [if_neg this]
    show 0 ≤ _
    omega
/-- Does a list come before another one? -/
def llt : List Nat → List Nat → Prop
  | a :: l, b :: m => a < b ∨ a = b ∧ llt l m
  | _, _ => False
theorem llt_irrefl : ∀ l, ¬ llt l l
  | [] => fun h => h
  | a :: l => fun h => by
    rcases h with h | h
    · omega
    · exact llt_irrefl l h.2
theorem llt_asymm : ∀ l m, llt l m → ¬ llt m l
  | [], _ => fun h => h.elim
  | _ :: _, [] => fun h => h.elim
  | a :: l, b :: m => fun h k => by
    rcases h with h | h <;> rcases k with k | k
    · omega
    · omega
    · omega
    · exact llt_asymm l m h.2 k.2
theorem ordersF_sorted (ks : List (Int × Int)) : ∀ (m : Nat) (s : St), (ordersF ks m s).Pairwise llt
  | 0, _ => by simp [ordersF]
  | m + 1, s => by
    rw [ordersF, List.pairwise_flatMap]
    refine ⟨fun o _ => ?_, ?_⟩
    · rw [List.pairwise_map]
      exact (ordersF_sorted ks m o).imp fun h => .inr ⟨rfl, h⟩
    · rw [nexts, List.pairwise_map]
      refine (List.Pairwise.filter _ List.pairwise_lt_range).imp fun {a b} hab x hx y hy => ?_
      obtain ⟨l, _, rfl⟩ := List.mem_map.1 hx
      obtain ⟨r, _, rfl⟩ := List.mem_map.1 hy
      exact .inl (by simpa [stepSt] using hab)
theorem orders_nodup (ks : List (Int × Int)) : (ordersL ks).Nodup :=
  List.nodup_iff_pairwise_ne.2 ((ordersF_sorted ks _ _).imp fun {a b} h (e : a = b) => llt_irrefl a (by rw [← e] at h; exact h))
theorem orders_first {ks : List (Int × Int)} {l : List Nat} (h : l ∈ ordersL ks) : l = (ordersL ks).headD [] ∨ llt ((ordersL ks).headD []) l := by
  have hs : (ordersL ks).Pairwise llt := ordersF_sorted ks _ _
  revert h hs
  generalize ordersL ks = L
  intro h hs
  cases L with
  | nil => simp at h
  | cons a r =>
    rw [List.pairwise_cons] at hs
    rcases List.mem_cons.1 h with rfl | h
    · exact .inl rfl
    · exact .inr (hs.1 l h)
/-- How many pairs are not placed. -/
def leftN (ks : List (Int × Int)) (s : St) : Nat := (List.range ks.length).countP fun p => !s.placed.testBit p
theorem leftN_begin (ks : List (Int × Int)) : leftN ks .begin = ks.length := by
  unfold leftN St.begin
  simp
theorem leftN_step {ks : List (Int × Int)} {s : St} {p : Nat} (hp : p < ks.length) (h : s.placed.testBit p = false) : leftN ks (stepSt ks s p) + 1 = leftN ks s := by
  have key : ∀ n, p < n → (List.range n).countP (fun q => !(stepSt ks s p).placed.testBit q) + 1 = (List.range n).countP fun q => !s.placed.testBit q := by
    intro n
    induction n with
    | zero => intro h; omega
    | succ n ih =>
      intro hn
      rw [List.range_succ, List.countP_append, List.countP_append, List.countP_singleton, List.countP_singleton, bit_step]
      by_cases e : p = n
      · subst e
        have : (List.range p).countP (fun q => !(stepSt ks s p).placed.testBit q) = (List.range p).countP fun q => !s.placed.testBit q := by
          refine List.countP_congr fun q hq => ?_
          rw [bit_step]
          have := List.mem_range.1 hq
          simp [show p ≠ q by omega]
        rw [this]
        simp [h]
      · have := ih (by omega)
        simp only [e, decide_false, Bool.or_false]
        omega
  exact key _ hp
theorem mem_nexts {ks : List (Int × Int)} {s o : St} (h : o ∈ nexts ks s) : ∃ p, p < ks.length ∧ okSt ks s p = true ∧ o = stepSt ks s p := by
  unfold nexts at h
  obtain ⟨p, hp, rfl⟩ := List.mem_map.1 h
  obtain ⟨h1, h2⟩ := List.mem_filter.1 hp
  exact ⟨p, List.mem_range.1 h1, h2, rfl⟩
theorem leftN_next {ks : List (Int × Int)} {s o : St} (h : o ∈ nexts ks s) : leftN ks o + 1 = leftN ks s := by
  obtain ⟨p, hp, ho, rfl⟩ := mem_nexts h
  exact leftN_step hp (okSt_iff.1 ho).1
/-- A state that can be. -/
structure OkSt (ks : List (Int × Int)) (s : St) : Prop where
  lt : s.placed < 2 ^ ks.length
  last : -1 ≤ s.last ∧ s.last < ks.length
  time : 0 ≤ s.time ∧ s.time ≤ 203
theorem OkSt.begin (ks : List (Int × Int)) : OkSt ks .begin := ⟨Nat.two_pow_pos _, ⟨Int.le_refl _, by show (-1 : Int) < _; omega⟩, by show (0 : Int) ≤ 0 ∧ (0 : Int) ≤ 203; omega⟩
theorem OkSt.next {ks : List (Int × Int)} {s o : St} (h : OkSt ks s) (hk : ∀ p, p < ks.length → 0 ≤ lo ks p ∧ hi ks p ≤ 203) (ho : o ∈ nexts ks s) : OkSt ks o := by
  obtain ⟨p, hp, hok, rfl⟩ := mem_nexts ho
  have h1 := okSt_iff.1 hok
  have h2 := hk p hp
  refine ⟨Nat.or_lt_two_pow h.lt (Nat.pow_lt_pow_right (by decide) hp), ?_, ?_⟩
  · show -1 ≤ (p : Int) ∧ (p : Int) < _
    omega
  · show 0 ≤ early (lo ks p, hi ks p) p s ∧ early (lo ks p, hi ks p) p s ≤ 203
    refine ⟨?_, by omega⟩
    unfold early
    dsimp only
    omega
theorem all_left {ks : List (Int × Int)} {s : St} (h : OkSt ks s) : s.placed = 2 ^ ks.length - 1 ↔ leftN ks s = 0 := by
  unfold leftN
  rw [List.countP_eq_zero]
  constructor
  · intro e p hp
    rw [e, Nat.testBit_two_pow_sub_one]
    simp [List.mem_range.1 hp]
  · intro hall
    refine Nat.eq_of_testBit_eq fun i => ?_
    rw [Nat.testBit_two_pow_sub_one]
    by_cases hi : i < ks.length
    · have := hall i (List.mem_range.2 hi)
      simp [hi] at this ⊢
      exact this
    · simp only [hi, decide_false]
      exact Nat.testBit_lt_two_pow (Nat.lt_of_lt_of_le h.lt (Nat.pow_le_pow_right (by decide) (by omega)))
/-- In how many ways pairs can come next. -/
def waysN (ks : List (Int × Int)) (s : St) : Nat := (ordersF ks (leftN ks s) s).length
theorem waysN_zero {ks : List (Int × Int)} {s : St} (h : leftN ks s = 0) : waysN ks s = 1 := by unfold waysN; rw [h]; rfl
theorem waysN_sum {ks : List (Int × Int)} {s : St} (h : leftN ks s ≠ 0) : waysN ks s = ((nexts ks s).map (waysN ks)).sum := by
  obtain ⟨m, hm⟩ : ∃ m, leftN ks s = m + 1 := ⟨leftN ks s - 1, by omega⟩
  have h0 : waysN ks s = (ordersF ks (m + 1) s).length := by unfold waysN; rw [hm]
  rw [h0, ordersF, List.length_flatMap]
  congr 1
  refine List.map_congr_left fun o ho => ?_
  have := leftN_next ho
  rw [List.length_map]
  unfold waysN
  rw [show leftN ks o = m by omega]
theorem sum_le {α : Type} (f : α → Nat) (b : Nat) : ∀ (l : List α), (∀ x ∈ l, f x ≤ b) → (l.map f).sum ≤ l.length * b
  | [], _ => by simp
  | x :: l, h => by
    have h1 := h x (by simp)
    have h2 := sum_le f b l fun y hy => h y (by simp [hy])
    simp only [List.map_cons, List.sum_cons, List.length_cons, Nat.succ_mul]
    omega
theorem nexts_len (ks : List (Int × Int)) (s : St) : (nexts ks s).length ≤ ks.length := by
  unfold nexts
  rw [List.length_map]
  refine Nat.le_trans (List.length_filter_le _ _) (by simp)
theorem ordersF_len (ks : List (Int × Int)) (hl : ks.length ≤ 6) : ∀ (m : Nat) (s : St), (ordersF ks m s).length ≤ 6 ^ m
  | 0, _ => by simp [ordersF]
  | m + 1, s => by
    rw [ordersF, List.length_flatMap]
    refine Nat.le_trans (sum_le _ (6 ^ m) _ fun o _ => by rw [List.length_map]; exact ordersF_len ks hl m o) ?_
    rw [Nat.pow_succ, Nat.mul_comm]
    exact Nat.mul_le_mul_left _ (Nat.le_trans (nexts_len ks s) hl)
theorem leftN_le (ks : List (Int × Int)) (s : St) : leftN ks s ≤ ks.length := by
  unfold leftN
  refine Nat.le_trans List.countP_le_length (by simp)
theorem waysN_le {ks : List (Int × Int)} (hl : ks.length ≤ 6) (s : St) : waysN ks s ≤ 46656 := by
  have h := ordersF_len ks hl (leftN ks s) s
  have := leftN_le ks s
  exact Nat.le_trans h (Nat.pow_le_pow_right (by decide) (show leftN ks s ≤ 6 by omega))
end Go.Proofs.Ytbeglemohfbdfaa
