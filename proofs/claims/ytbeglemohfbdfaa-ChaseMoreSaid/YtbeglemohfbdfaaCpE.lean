/- Plain laws of chases: the law ChaseFinal. Conditions: none. -/
import Derived.Test.YtbeglemohfbdfaaCpC
namespace Go.Proofs.Ytbeglemohfbdfaa

theorem countP_lt (F : Nat) : ∀ n, (List.range n).countP (fun i => decide (i < F)) = min F n
  | 0 => by simp
  | n + 1 => by
    rw [List.range_succ, List.countP_append, countP_lt F n, List.countP_singleton]
    by_cases h : n < F
    · rw [if_pos (by simpa using h)]; omega
    · rw [if_neg (by simpa using h)]; omega
theorem place_count {t : List Int} {l : List Nat} (h : Srt t l) (F : Nat) : (List.range t.length).countP (fun p => decide (placeN t p < F)) = min F t.length := by
  rw [h.perm.countP_eq, ← countP_lt F t.length, ← h.len]
  have hm : l.map (placeN t) = List.range l.length := by
    refine List.ext_getElem (by simp) fun i h1 h2 => ?_
    rw [List.getElem_map, List.getElem_range]
    exact h.place (by simpa using h1)
  rw [← hm, List.countP_map]
  rfl
theorem finalP_two {ks : List (Int × Int)} {F : Int} {p : Nat} : finalP ks F p = 2 ↔ (placeLo ks p : Int) < F ∧ (placeHi ks p : Int) < F := by
  unfold finalP
  rw [soB_two]
  simp
theorem finalP_zero {ks : List (Int × Int)} {F : Int} {p : Nat} : finalP ks F p = 0 ↔ ¬ (placeLo ks p : Int) < F ∧ ¬ (placeHi ks p : Int) < F := by
  unfold finalP
  rw [soB_zero (by simp)]
  simp
theorem finalP_cases (ks : List (Int × Int)) (F : Int) (p : Nat) : finalP ks F p = 2 ∨ finalP ks F p = 0 ∨ finalP ks F p = 1 := soB_cases _
theorem low_truth {ks : List (Int × Int)} (hf : Feas ks) : Tr ks ((List.range ks.length).map (lo ks)) := tr_of fun p hp => ⟨Int.le_refl _, hf p hp⟩
/-- No more come into the final for sure than are wanted. -/
theorem sure_le {ks : List (Int × Int)} (hf : Feas ks) (F : Nat) : (List.range ks.length).countP (fun p => decide (finalP ks F p = 2)) ≤ F := by
  obtain ⟨l, hl⟩ := srt_ex ((List.range ks.length).map (lo ks))
  have ht := low_truth hf
  have hc := place_count hl F
  rw [ht.1] at hc
  refine Nat.le_trans (List.countP_mono_left fun p hp h => ?_) (Nat.le_trans (Nat.le_of_eq hc) (Nat.min_le_left _ _))
  simp only [decide_eq_true_eq] at h ⊢
  have h1 := (finalP_two.1 h).2
  have h2 := (place_range ht (List.mem_range.1 hp)).2
  omega
theorem not_le {ks : List (Int × Int)} (hf : Feas ks) {F : Nat} (hF : F ≤ ks.length) : (List.range ks.length).countP (fun p => decide (finalP ks F p = 0)) + F ≤ ks.length := by
  obtain ⟨l, hl⟩ := srt_ex ((List.range ks.length).map (lo ks))
  have ht := low_truth hf
  have hc := place_count hl F
  rw [ht.1] at hc
  have hs := List.length_eq_countP_add_countP (fun p => decide (placeN ((List.range ks.length).map (lo ks)) p < F)) (l := List.range ks.length)
  rw [List.length_range, hc] at hs
  have : (List.range ks.length).countP (fun p => decide (finalP ks F p = 0)) ≤ (List.range ks.length).countP (fun p => decide (¬ decide (placeN ((List.range ks.length).map (lo ks)) p < F) = true)) := by
    refine List.countP_mono_left fun p hp h => ?_
    simp only [decide_eq_true_eq] at h ⊢
    have h1 := (finalP_zero.1 h).1
    have h2 := (place_range ht (List.mem_range.1 hp)).1
    omega
  omega
/-- Who surely is not behind another one does not come into the final less surely. -/
theorem final_mono {ks : List (Int × Int)} (hf : Feas ks) {F : Int} {p q : Nat} (hp : p < ks.length) (hq : q < ks.length) (h : befB (hi ks p) p (lo ks q) q = true) : finalP ks F q ≤ finalP ks F p := by
  rw [befB_iff] at h
  have hfp := hf p hp
  have hfq := hf q hq
  have h1 : placeLo ks p ≤ placeLo ks q := by
    unfold placeLo
    refine List.countP_mono_left fun i _ hb => ?_
    simp only [Bool.and_eq_true, decide_eq_true_eq, befB_iff] at hb ⊢
    refine ⟨fun e => ?_, by omega⟩
    subst e; omega
  have h2 : placeHi ks p ≤ placeHi ks q := by
    unfold placeHi
    refine List.countP_mono_left fun i _ hb => ?_
    simp only [Bool.and_eq_true, decide_eq_true_eq, befB_iff] at hb ⊢
    refine ⟨fun e => ?_, by omega⟩
    subst e; omega
  have hle := placeLo_le hf hp
  have hle2 := placeLo_le hf hq
  have a2 := finalP_two (ks := ks) (F := F) (p := p)
  have a0 := finalP_zero (ks := ks) (F := F) (p := q)
  have b2 := finalP_two (ks := ks) (F := F) (p := q)
  have b0 := finalP_zero (ks := ks) (F := F) (p := p)
  rcases finalP_cases ks F p with c | c | c <;> rcases finalP_cases ks F q with d | d | d <;> omega
theorem map_fst (ks : List (Int × Int)) : ks.map (·.1) = (List.range ks.length).map (lo ks) := by
  refine List.ext_getElem (by simp) fun i h1 h2 => ?_
  have : i < ks.length := by simpa using h1
  simp [lo, this]
theorem map_snd (ks : List (Int × Int)) : ks.map (·.2) = (List.range ks.length).map (hi ks) := by
  refine List.ext_getElem (by simp) fun i h1 h2 => ?_
  have : i < ks.length := by simpa using h1
  simp [hi, this]
/-- How many of the first are as wanted. -/
def cntTo (k : Nat) (f : Nat → Bool) : Nat := (List.range k).countP f
theorem cntTo_succ (k : Nat) (f : Nat → Bool) : cntTo (k + 1) f = cntTo k f + if f k = true then 1 else 0 := by
  unfold cntTo
  rw [List.range_succ, List.countP_append, List.countP_singleton]
theorem cntTo_le (k : Nat) (f : Nat → Bool) : cntTo k f ≤ k := by
  unfold cntTo
  refine Nat.le_trans List.countP_le_length (by simp)
theorem cut_counts {ks : List (Int × Int)} {F : Nat} {x : Int} {g : Nat → Int} (hk : Kth ((List.range ks.length).map g) F x) : F + 1 ≤ cntTo ks.length (fun p => decide (g p ≤ x)) ∧ cntTo ks.length (fun p => decide (g p < x)) ≤ F := by
  have h1 := hk.under
  have h2 := hk.upto
  rw [count_range] at h1 h2
  exact ⟨h2, h1⟩
end Go.Proofs.Ytbeglemohfbdfaa
