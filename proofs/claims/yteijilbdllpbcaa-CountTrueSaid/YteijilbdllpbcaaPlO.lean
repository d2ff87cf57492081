/- Plain laws of CountTurned: the first two sheets exchanged, pairs numbered otherwise, all sheets read from behind. Conditions: none. -/
import Derived.Test.YteijilbdllpbcaaPlM
import Derived.Test.YteijilbdllpbcaaPlH
import Derived.Test.YteijilbdllpbcaaPhG
namespace Go.Proofs.Yteijilbdllpbcaa
open Go.RowKit

theorem least_swap (L : List (List Int)) (s t : List Int) : leastR L [s, t] = leastR L [t, s] := by
  unfold leastR
  congr 1
  funext acc r
  unfold leastStep
  rw [show sumErrs r [s, t] = sumErrs r [t, s] by simp [sumErrs]; omega]
theorem truths_swap (P : Nat) (s t : List Int) (rest : List (List Int)) : truthsR P (t :: s :: rest) = truthsR P (s :: t :: rest) := by
  show rest.foldl leave (leastR (alls P (t.length + s.length) []) [t, s]) = rest.foldl leave (leastR (alls P (s.length + t.length) []) [s, t])
  rw [least_swap, Nat.add_comm]
theorem al_rev : ∀ {r s : List UInt8} {n : Nat}, Al r s n → Al r.reverse s.reverse n
  | [], [], n, h => h
  | [], _ :: _, n, h => by cases h
  | c :: r, [], n, h => by
    obtain ⟨m, rfl, h⟩ := h
    have := al_rev h
    simp only [List.reverse_cons, List.reverse_nil] at this ⊢
    exact Al.snoc_nil.2 ⟨m, rfl, this⟩
  | c :: r, x :: s, n, h => by
    rw [List.reverse_cons, List.reverse_cons]
    rcases h with ⟨m, rfl, h⟩ | ⟨m, rfl, h⟩
    · have := al_rev h
      rw [List.reverse_cons] at this
      exact Al.snoc.2 (.inl ⟨m, rfl, this⟩)
    · exact Al.snoc.2 (.inr ⟨m, rfl, al_rev h⟩)
theorem errs_revB (r s : List UInt8) (hr : r.length ≤ 1000) : errs (intsL r.reverse) (intsL s.reverse) = errs (intsL r) (intsL s) := by
  have h1 := errs_min r s hr
  have h2 := errs_min r.reverse s.reverse (by simpa using hr)
  have e : Al r.reverse s.reverse = Al r s := funext fun n => propext ⟨fun h => by simpa using al_rev h, al_rev⟩
  rw [e] at h2
  exact h2.eq h1
theorem errs_rev {P : Nat} (hP : P ≤ 256) {r s : List Int} (hr : r.length ≤ 1000) (hr1 : ∀ x ∈ r, 0 ≤ x ∧ x < P) (hs1 : ∀ x ∈ s, 0 ≤ x ∧ x < P) : errs r.reverse s.reverse = errs r s := by
  obtain ⟨a, rfl, ha, _⟩ := ints_of r P hP hr1
  obtain ⟨b, rfl, hb, _⟩ := ints_of s P hP hs1
  have := errs_revB a b (by omega)
  rw [← this]
  unfold intsL
  rw [List.map_reverse, List.map_reverse]
theorem errs_map (f : Int → Int) : ∀ (r s : List Int), (∀ x ∈ r, ∀ y ∈ s, f x = f y → x = y) → errs (r.map f) (s.map f) = errs r s
  | [], m, _ => by cases m <;> simp [errs]
  | x :: l, [], _ => by
    have h1 := errs_map f l [] (by simp)
    simp only [List.map_cons, List.map_nil] at h1 ⊢
    unfold errs
    rw [h1]
  | x :: l, y :: m, h => by
    have h1 := errs_map f l (y :: m) (fun a ha b hb => h a (by simp [ha]) b hb)
    have h2 := errs_map f l m (fun a ha b hb => h a (by simp [ha]) b (by simp [hb]))
    have hxy : (f x != f y) = (x != y) := by
      by_cases e : x = y
      · subst e; simp
      · have : f x ≠ f y := fun k => e (h x (by simp) y (by simp) k)
        rw [bne_iff_ne.2 e, bne_iff_ne.2 this]
    simp only [List.map_cons] at h1 ⊢
    unfold errs
    rw [h1, h2, hxy, List.length_map, List.length_map]
theorem lst_perm {α : Type} {f : α → Int} {L L' : List α} {p q : List α × Int} (h : Lst f L p) (k : Lst f L' q) (hp : L.Perm L') : p.1.Perm q.1 ∧ p.2 = q.2 := by
  obtain ⟨a1, a2, a3, a4⟩ := h
  obtain ⟨b1, b2, b3, b4⟩ := k
  have e : p.2 = q.2 := by
    have u1 : q.2 ≤ p.2 := by
      rcases a4 with a4 | ⟨r, hr, e⟩
      · omega
      · have := b2 r (hp.mem_iff.1 hr); omega
    have u2 : p.2 ≤ q.2 := by
      rcases b4 with b4 | ⟨r, hr, e⟩
      · omega
      · have := a2 r (hp.mem_iff.2 hr); omega
    omega
  refine ⟨?_, e⟩
  rw [a3, b3, e]
  exact hp.filter _
theorem least_turned {g : List Int → List Int} {L L' l l' : List (List Int)} (hL : (L.map g).Perm L') (hf : ∀ r ∈ L, sumErrs (g r) l' = sumErrs r l) : ((leastR L l).1.map g).Perm (leastR L' l').1 ∧ (leastR L' l').2 = (leastR L l).2 := by
  have h1 := Lst.map (leastR_lst l L) (leastR_lst l' (L.map g)) hf
  obtain ⟨h2, h3⟩ := lst_perm (leastR_lst l' (L.map g)) (leastR_lst l' L') hL
  rw [h1] at h2 h3
  exact ⟨h2, h3.symm⟩
theorem leaves_turned {g : List Int → List Int} : ∀ (rest : List (List Int)) (acc acc' : List (List Int) × Int), (acc.1.map g).Perm acc'.1 → acc'.2 = acc.2 → (∀ r ∈ acc.1, ∀ s ∈ rest, errs (g r) (g s) = errs r s) →
    ((rest.foldl leave acc).1.map g).Perm ((rest.map g).foldl leave acc').1 ∧ ((rest.map g).foldl leave acc').2 = (rest.foldl leave acc).2
  | [], acc, acc', h1, h2, _ => ⟨h1, h2⟩
  | s :: rest, acc, acc', h1, h2, h3 => by
    rw [List.map_cons, List.foldl_cons, List.foldl_cons]
    obtain ⟨k1, k2⟩ := least_turned (l := [s]) (l' := [g s]) h1 (fun r hr => by rw [sumErrs_one, sumErrs_one]; exact h3 r hr s (by simp))
    refine leaves_turned rest (leave acc s) (leave acc' (g s)) k1 ?_ (fun r hr x hx => h3 r (leave_sub _ _ r hr) x (by simp [hx]))
    show acc'.2 + (leastR acc'.1 [g s]).2 = acc.2 + (leastR acc.1 [s]).2
    rw [k2, h2]
theorem truths_turned {P : Nat} {g : List Int → List Int} : ∀ (ss : List (List Int)), (∀ s ∈ ss, (g s).length = s.length) → (∀ n, ((alls P n []).map g).Perm (alls P n [])) → (∀ r s : List Int, (∀ x ∈ r, 0 ≤ x ∧ x < (P : Int)) → s ∈ ss → r.length ≤ 2 * (ss.map List.length).sum → errs (g r) (g s) = errs r s) →
    ((truthsR P ss).1.map g).Perm (truthsR P (ss.map g)).1 ∧ (truthsR P (ss.map g)).2 = (truthsR P ss).2
  | [], _, _, _ => ⟨.nil, rfl⟩
  | [s], _, _, _ => ⟨.refl _, rfl⟩
  | s :: t :: rest, hl, hU, he => by
    have hb : ∀ r ∈ alls P (s.length + t.length) [], (∀ x ∈ r, 0 ≤ x ∧ x < P) ∧ r.length ≤ 2 * ((s :: t :: rest).map List.length).sum := fun r hr => by
      obtain ⟨u, rfl, h1, h2⟩ := (mem_alls _ _ _ _).1 hr
      exact ⟨by simpa using h2, by simp; omega⟩
    show ((rest.foldl leave (leastR (alls P (s.length + t.length) []) [s, t])).1.map g).Perm ((rest.map g).foldl leave (leastR (alls P ((g s).length + (g t).length) []) [g s, g t])).1 ∧ _
    rw [hl s (by simp), hl t (by simp)]
    obtain ⟨k1, k2⟩ := least_turned (l := [s, t]) (l' := [g s, g t]) (hU (s.length + t.length)) (fun r hr => by
      have a := he r s (hb r hr).1 (by simp) (hb r hr).2
      have b := he r t (hb r hr).1 (by simp) (hb r hr).2
      simp only [sumErrs, List.map_cons, List.map_nil, List.sum_cons, List.sum_nil]
      rw [a, b])
    have := leaves_turned rest _ _ k1 k2 (fun r hr x hx => by
      have hr := leastR_sub _ _ r hr
      exact he r x (hb r hr).1 (by simp [hx]) (hb r hr).2)
    refine ⟨this.1, ?_⟩
    show (((rest.map g).foldl leave (leastR (alls P ((g s).length + (g t).length) []) [g s, g t])).2) = _
    rw [hl s (by simp), hl t (by simp)]
    exact this.2
theorem univ_turned {P n : Nat} {g h : List Int → List Int} (hg : ∀ r ∈ alls P n [], g r ∈ alls P n []) (hh : ∀ r ∈ alls P n [], h r ∈ alls P n []) (h1 : ∀ r ∈ alls P n [], h (g r) = r) (h2 : ∀ r ∈ alls P n [], g (h r) = r) : ((alls P n []).map g).Perm (alls P n []) := by
  have hs : (alls P n []).Nodup := (alls_sorted P n []).imp fun hab e => absurd hab (by subst e; exact List.lt_irrefl _)
  have hm : ((alls P n []).map g).Nodup := by
    refine List.pairwise_map.2 ?_
    refine List.Pairwise.imp_of_mem ?_ hs
    intro a b ha hb hne e
    exact hne (by rw [← h1 a ha, ← h1 b hb, e])
  refine (List.perm_ext_iff_of_nodup hm hs).2 fun x => ?_
  rw [List.mem_map]
  constructor
  · rintro ⟨r, hr, rfl⟩
    exact hg r hr
  · intro hx
    exact ⟨h x, hh x hx, h2 x hx⟩
theorem mem_univ {P n : Nat} {r : List Int} : r ∈ alls P n [] ↔ r.length ≤ n ∧ ∀ x ∈ r, 0 ≤ x ∧ x < (P : Int) := by
  rw [mem_alls]
  constructor
  · rintro ⟨u, rfl, h⟩; simpa using h
  · intro h; exact ⟨r, rfl, h⟩
theorem univ_rev (P n : Nat) : ((alls P n []).map List.reverse).Perm (alls P n []) := by
  refine univ_turned (h := List.reverse) ?_ ?_ ?_ ?_
  · intro r hr
    rw [mem_univ] at hr ⊢
    simpa using hr
  · intro r hr
    rw [mem_univ] at hr ⊢
    simpa using hr
  · intro r _; exact List.reverse_reverse r
  · intro r _; exact List.reverse_reverse r
/-- Pairs numbered otherwise. -/
def numT (P t p : Int) : Int := (p + t).tmod P
theorem numT_emod {P t p : Int} (ht : 0 ≤ t) (hp : 0 ≤ p) : numT P t p = (p + t) % P := Int.tmod_eq_emod_of_nonneg (by omega)
theorem numT_range {P t p : Int} (hP : 0 < P) (ht : 0 ≤ t) (hp : 0 ≤ p) : 0 ≤ numT P t p ∧ numT P t p < P :=
  ⟨Int.tmod_nonneg _ (by omega), Int.tmod_lt_of_pos _ hP⟩
theorem numT_back {P t p : Int} (ht : 0 ≤ t) (hp : 0 ≤ p) (hp2 : p < P) : (numT P t p - t) % P = p := by
  rw [numT_emod ht hp, Int.emod_sub_emod, Int.add_sub_cancel, Int.emod_eq_of_lt hp hp2]
theorem numT_to {P t p : Int} (ht : 0 ≤ t) (hp : 0 ≤ p) (hp2 : p < P) : numT P t ((p - t) % P) = p := by
  rw [numT_emod ht (Int.emod_nonneg _ (by omega)), Int.emod_add_emod, Int.sub_add_cancel, Int.emod_eq_of_lt hp hp2]
theorem numT_inj {P t p q : Int} (ht : 0 ≤ t) (hp : 0 ≤ p) (hp2 : p < P) (hq : 0 ≤ q) (hq2 : q < P) (h : numT P t p = numT P t q) : p = q := by
  rw [← numT_back ht hp hp2, ← numT_back ht hq hq2, h]
theorem map_same {f : Int → Int} : ∀ {r : List Int}, (∀ x ∈ r, f x = x) → r.map f = r
  | [], _ => rfl
  | x :: r, h => by rw [List.map_cons, h x (by simp), map_same fun y hy => h y (by simp [hy])]
theorem univ_num {P : Nat} {t : Int} (ht : 0 ≤ t) (n : Nat) : ((alls P n []).map (List.map (numT P t))).Perm (alls P n []) := by
  refine univ_turned (h := List.map fun x => (x - t) % (P : Int)) ?_ ?_ ?_ ?_
  · intro r hr
    rw [mem_univ] at hr ⊢
    refine ⟨by simpa using hr.1, fun x hx => ?_⟩
    obtain ⟨y, hy, rfl⟩ := List.mem_map.1 hx
    have := hr.2 y hy
    exact numT_range (by omega) ht this.1
  · intro r hr
    rw [mem_univ] at hr ⊢
    refine ⟨by simpa using hr.1, fun x hx => ?_⟩
    obtain ⟨y, hy, rfl⟩ := List.mem_map.1 hx
    have := hr.2 y hy
    exact ⟨Int.emod_nonneg _ (by omega), Int.emod_lt_of_pos _ (by omega)⟩
  · intro r hr
    rw [mem_univ] at hr
    rw [List.map_map]
    exact map_same fun x hx => numT_back ht (hr.2 x hx).1 (hr.2 x hx).2
  · intro r hr
    rw [mem_univ] at hr
    rw [List.map_map]
    exact map_same fun x hx => numT_to ht (hr.2 x hx).1 (hr.2 x hx).2
theorem count_num {P t p : Int} (ht : 0 ≤ t) (hp : 0 ≤ p) (hp2 : p < P) : ∀ {r : List Int}, (∀ x ∈ r, 0 ≤ x ∧ x < P) → (r.map (numT P t)).count (numT P t p) = r.count p
  | [], _ => rfl
  | x :: r, h => by
    rw [List.map_cons, List.count_cons, List.count_cons, count_num ht hp hp2 fun y hy => h y (by simp [hy])]
    have hx := h x (by simp)
    have : (numT P t x == numT P t p) = (x == p) := by
      by_cases e : x = p
      · subst e; simp
      · have : ¬ numT P t x = numT P t p := fun k => e (numT_inj ht hx.1 hx.2 hp hp2 k)
        rw [beq_eq_false_iff_ne.2 e, beq_eq_false_iff_ne.2 this]
    rw [this]
/-- A count that tells the same as another one, but for the pairs' numbers. -/
def Alike (P : Int) (ss sx : List (List Int)) (f : Int → Int) : Prop :=
  validB P sx = true ∧ (truthsR P.toNat sx).2 = (truthsR P.toNat ss).2 ∧ (truthsR P.toNat sx).1.length = (truthsR P.toNat ss).1.length ∧
    ∀ p, 0 ≤ p → p < P → (0 ≤ f p ∧ f p < P) ∧ lapN (truthsR P.toNat sx).1 (f p) = lapN (truthsR P.toNat ss).1 p
theorem Alike.refl {P : Int} {ss : List (List Int)} (h : validB P ss = true) : Alike P ss ss fun p => p := ⟨h, rfl, rfl, fun _ h1 h2 => ⟨⟨h1, h2⟩, rfl⟩⟩
theorem lapN_perm {T T' : List (List Int)} {g : List Int → List Int} {p q : Int} (h : (T.map g).Perm T') (hc : ∀ r ∈ T, (g r).count q = r.count p) : lapN T' q = lapN T p := by
  refine Nat.eq_of_testBit_eq fun i => ?_
  rw [Bool.eq_iff_iff, lapN_bit, lapN_bit]
  constructor
  · rintro ⟨t, ht, e⟩
    obtain ⟨r, hr, rfl⟩ := List.mem_map.1 (h.mem_iff.2 ht)
    exact ⟨r, hr, by rw [← hc r hr]; exact e⟩
  · rintro ⟨r, hr, e⟩
    exact ⟨g r, h.mem_iff.1 (List.mem_map.2 ⟨r, hr, rfl⟩), by rw [hc r hr]; exact e⟩
theorem sheets_short {ss : List (List Int)} (h4 : ss.length ≤ 4) (h6 : ∀ s ∈ ss, s.length ≤ 6) : (ss.map List.length).sum ≤ 24 := by
  have : ∀ l : List (List Int), (∀ s ∈ l, s.length ≤ 6) → (l.map List.length).sum ≤ 6 * l.length := by
    intro l
    induction l with
    | nil => intro _; simp
    | cons x l ih =>
      intro h
      have a := ih fun s hs => h s (by simp [hs])
      have b := h x (by simp)
      simp only [List.map_cons, List.sum_cons, List.length_cons]
      omega
  have := this ss h6
  omega
theorem valid_of {P : Int} {ss : List (List Int)} (h1 : 1 ≤ P ∧ P ≤ 4) (h2 : 1 ≤ ss.length ∧ ss.length ≤ 4) (h3 : ∀ s ∈ ss, s.length ≤ 6 ∧ ∀ x ∈ s, 0 ≤ x ∧ x < P) : validB P ss = true := by
  rw [validB_eq, Bool.and_eq_true, Bool.and_eq_true, inB_true, inB_true, List.all_eq_true]
  refine ⟨⟨h1, by omega⟩, fun s hs => ?_⟩
  have := h3 s hs
  unfold sheetB
  simp only [Bool.and_eq_true, decide_eq_true_eq]
  exact ⟨by omega, raceB_all.2 this.2⟩
theorem alike_num {P t : Int} {ss : List (List Int)} (h : validB P ss = true) (ht : 0 ≤ t) : Alike P ss (ss.map (List.map (numT P t))) (numT P t) := by
  obtain ⟨hP, hn, hs⟩ := valid_parts h
  have hPn : ((P.toNat : Nat) : Int) = P := by omega
  have hsum := sheets_short hn.2 fun s hx => (hs s hx).1
  obtain ⟨k1, k2⟩ := truths_turned (P := P.toNat) (g := List.map (numT P t)) ss (fun s _ => by simp) (fun n => by have := univ_num (P := P.toNat) ht n; rw [hPn] at this; exact this) (fun r s hr hx _ => errs_map _ _ _ fun x hxr y hys e => by
    have a := hr x hxr
    have b := (hs s hx).2 y hys
    exact numT_inj ht a.1 (by omega) b.1 b.2 e)
  refine ⟨valid_of hP (by simpa using hn) fun s hx => ?_, k2, ?_, fun p hp hp2 => ⟨numT_range (by omega) ht hp, lapN_perm k1 fun r hr => count_num ht hp hp2 (raceB_all.1 (truth_race h hr))⟩⟩
  · obtain ⟨r, hr, rfl⟩ := List.mem_map.1 hx
    refine ⟨by simpa using (hs r hr).1, fun x hxr => ?_⟩
    obtain ⟨y, hy, rfl⟩ := List.mem_map.1 hxr
    exact numT_range (by omega) ht ((hs r hr).2 y hy).1
  · have := k1.length_eq
    rw [List.length_map] at this
    exact this.symm
theorem alike_rev {P : Int} {ss : List (List Int)} (h : validB P ss = true) : Alike P ss (ss.map List.reverse) fun p => p := by
  obtain ⟨hP, hn, hs⟩ := valid_parts h
  have hsum := sheets_short hn.2 fun s hx => (hs s hx).1
  obtain ⟨k1, k2⟩ := truths_turned (P := P.toNat) (g := List.reverse) ss (fun s _ => by simp) (fun n => univ_rev _ n) (fun r s hr hx hl => errs_rev (P := P.toNat) (by omega) (by omega) hr fun x hxs => by
    have b := (hs s hx).2 x hxs
    omega)
  refine ⟨valid_of hP (by simpa using hn) fun s hx => ?_, k2, ?_, fun p hp hp2 => ⟨⟨hp, hp2⟩, lapN_perm k1 fun r hr => List.count_reverse⟩⟩
  · obtain ⟨r, hr, rfl⟩ := List.mem_map.1 hx
    exact ⟨by simpa using (hs r hr).1, fun x hxr => (hs r hr).2 x (by simpa using hxr)⟩
  · have := k1.length_eq
    rw [List.length_map] at this
    exact this.symm
theorem alike_swap {P : Int} {s t : List Int} {rest : List (List Int)} (h : validB P (s :: t :: rest) = true) : Alike P (s :: t :: rest) (t :: s :: rest) fun p => p := by
  obtain ⟨hP, hn, hs⟩ := valid_parts h
  refine ⟨valid_of hP (by simpa using hn) fun x hx => hs x ?_, by rw [truths_swap], by rw [truths_swap], fun p hp hp2 => ⟨⟨hp, hp2⟩, by rw [truths_swap]⟩⟩
  simp only [List.mem_cons] at hx ⊢
  rcases hx with h | h | h <;> simp [h]
/-- What is told of counts that are alike. -/
theorem Alike.tells {P : Int} {ss sx : List (List Int)} {f : Int → Int} (hv : validB P ss = true) (h : Alike P ss sx f) :
    errOf P sx true = errOf P ss true ∧ (truthsE P sx (errOf P ss true)).2 = (truthsE P ss (errOf P ss true)).2 ∧ countR P sx = countR P ss ∧ validE P sx = validE P ss ∧
    ∀ p, 0 ≤ p → p < P → lapsR P sx (f p) = lapsR P ss p ∧ errOf P sx (inB (f p) 0 (P - 1)) = errOf P ss (inB p 0 (P - 1)) := by
  obtain ⟨h1, h2, h3, h4⟩ := h
  have hT : (truthsR P.toNat sx).1 = [] ↔ (truthsR P.toNat ss).1 = [] := by rw [← List.length_eq_zero_iff, h3, List.length_eq_zero_iff]
  have hE : ∀ b, errOf P sx b = errOf P ss b := fun b => by
    unfold errOf
    rw [h1, hv]
    by_cases hb : b = false
    · simp [hb]
    · by_cases hE : (truthsR P.toNat ss).1 = []
      · simp [hE, hT.2 hE]
      · have hE2 : ¬ (truthsR P.toNat sx).1 = [] := fun k => hE (hT.1 k)
        simp [hE, hE2]
  refine ⟨hE true, ?_, ?_, ?_, fun p hp hp2 => ?_⟩
  · unfold truthsE
    split
    · exact h2
    · rfl
  · unfold countR
    rw [h1, hv, h3]
  · unfold validE
    rw [h1, hv]
  · obtain ⟨h5, h6⟩ := h4 p hp hp2
    have e1 : inB (f p) 0 (P - 1) = true := inB_true.2 (by omega)
    have e2 : inB p 0 (P - 1) = true := inB_true.2 (by omega)
    rw [e1, e2, hE]
    refine ⟨?_, rfl⟩
    unfold lapsR
    rw [e1, e2, hE]
    split
    · show ((lapN _ _ : Nat) : Int) = ((lapN _ _ : Nat) : Int)
      rw [h6]
    · rfl
end Go.Proofs.Yteijilbdllpbcaa
