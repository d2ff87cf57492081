/- Plain laws of chases: both ends of a place; the law ChaseEnds. Conditions: none. -/
import Derived.Test.YtbeglemohfbdfaaCpG
namespace Go.Proofs.Ytbeglemohfbdfaa

theorem lo_set {ks : List (Int × Int)} {p i : Nat} {t : Int} (hp : p < ks.length) : lo (ks.set p (t, t)) i = if i = p then t else lo ks i := by
  unfold lo
  by_cases e : i = p
  · subst e; rw [List.getElem?_set_self hp, if_pos rfl]; rfl
  · rw [List.getElem?_set_ne (fun h => e h.symm), if_neg e]
theorem hi_set {ks : List (Int × Int)} {p i : Nat} {t : Int} (hp : p < ks.length) : hi (ks.set p (t, t)) i = if i = p then t else hi ks i := by
  unfold hi
  by_cases e : i = p
  · subst e; rw [List.getElem?_set_self hp, if_pos rfl]; rfl
  · rw [List.getElem?_set_ne (fun h => e h.symm), if_neg e]
theorem placeLo_set {ks : List (Int × Int)} {p : Nat} {t : Int} (hp : p < ks.length) : placeLo (ks.set p (t, t)) p = (List.range ks.length).countP fun i => decide (i ≠ p) && befB (hi ks i) i t p := by
  unfold placeLo
  rw [List.length_set]
  refine List.countP_congr fun i _ => ?_
  rw [hi_set hp, lo_set hp, if_pos rfl]
  by_cases e : i = p
  · simp [e]
  · simp [e]
theorem placeHi_set {ks : List (Int × Int)} {p : Nat} {t : Int} (hp : p < ks.length) : placeHi (ks.set p (t, t)) p = (List.range ks.length).countP fun i => decide (i ≠ p) && befB (lo ks i) i t p := by
  unfold placeHi
  rw [List.length_set]
  refine List.countP_congr fun i _ => ?_
  rw [hi_set hp, lo_set hp, if_pos rfl]
  by_cases e : i = p
  · simp [e]
  · simp [e]
/-- A pair's place is no less exact if its time is known; its ends are those of the times' ends. -/
theorem place_known {ks : List (Int × Int)} (_ : Feas ks) {p : Nat} {t : Int} (hp : p < ks.length) (h1 : lo ks p ≤ t) (h2 : t ≤ hi ks p) :
    placeLo ks p ≤ placeLo (ks.set p (t, t)) p ∧ placeHi (ks.set p (t, t)) p ≤ placeHi ks p ∧ (t = lo ks p → placeLo (ks.set p (t, t)) p = placeLo ks p) ∧ (t = hi ks p → placeHi (ks.set p (t, t)) p = placeHi ks p) := by
  rw [placeLo_set hp, placeHi_set hp]
  refine ⟨?_, ?_, fun e => ?_, fun e => ?_⟩
  · unfold placeLo
    refine List.countP_mono_left fun i _ hb => ?_
    simp only [Bool.and_eq_true, befB_iff] at hb ⊢
    exact ⟨hb.1, by have := hb.2; omega⟩
  · unfold placeHi
    refine List.countP_mono_left fun i _ hb => ?_
    simp only [Bool.and_eq_true, befB_iff] at hb ⊢
    exact ⟨hb.1, by have := hb.2; omega⟩
  · subst e; rfl
  · subst e; rfl
theorem place_below {ks : List (Int × Int)} {p : Nat} (hp : p < ks.length) : placeHi ks p < ks.length := by
  unfold placeHi
  have h := List.countP_le_length (p := fun i => decide (i ≠ p)) (l := List.range ks.length)
  have h1 : (List.range ks.length).countP (fun i => decide (i ≠ p) && befB (lo ks i) i (hi ks p) p) ≤ (List.range ks.length).countP fun i => decide (i ≠ p) :=
    List.countP_mono_left fun i _ hb => by simp only [Bool.and_eq_true] at hb; exact hb.1
  have h2 : (List.range ks.length).countP (fun i => decide (i ≠ p)) < (List.range ks.length).length := by
    rw [List.countP_eq_length_filter]
    refine Nat.lt_of_le_of_ne (List.length_filter_le _ _) fun e => ?_
    have := (List.length_filter_eq_length_iff.1 e) p (List.mem_range.2 hp)
    simp at this
  rw [List.length_range] at h2
  omega
/-- A watch that tells what no time agrees with. -/
theorem far_clash {E told : Int} {l : List Int} (h : told + E < loOf E l ∨ hiOf E l < told - E) : ¬ loOf E (l ++ [told]) ≤ hiOf E (l ++ [told]) := by
  rw [loOf_snoc, hiOf_snoc]
  omega
theorem feas_no {ks : List (Int × Int)} {p : Nat} {k : Int × Int} (hp : p < ks.length) (h : ¬ k.1 ≤ k.2) : feasB (ks.set p k) = false := by
  unfold feasB
  rw [List.all_eq_false]
  exact ⟨k, List.mem_of_getElem? (List.getElem?_set_self hp), by simpa using h⟩
end Go.Proofs.Ytbeglemohfbdfaa
