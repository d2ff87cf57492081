/- CountMore's own function: a count with a sheet more. Conditions: at least one sheet. -/
import Derived.Test.YteijilbdllpbcaaLwC
namespace Go.Proofs.Yteijilbdllpbcaa
open Go.RowKit

set_option maxRecDepth 100000 in
set_option maxHeartbeats 2000000 in
theorem lwith_any (P : Int) (ss : List (List Int)) (s : List Int) (a : Option Addr) (cap B : Nat) (u : Value) (w : World) (hv : IsSheets w (.slice a ss.length cap) ss) (h0 : 0 < ss.length) (h4 : ss.length ≤ 4) (hu : IsInts w u s)
    (hc0 : w.cell? ⟨B, 0, none⟩ = some (.int .i64 P)) (hc1 : w.cell? ⟨B, 1, none⟩ = some (.slice a ss.length cap)) :
    Calls Try.prog 39 #[u, .pointer (some ⟨B, 0, none⟩)] w (MadeC w P (ss ++ [s])) := by
  obtain ⟨i0, hi0, hi1, hi2, hi3⟩ := info_parts info_ints
  have hul : Try.prog.underlying 22 = some (.slice 25) := by kernel_rfl
  obtain ⟨a', cap', he, hcap, hlen, hrow⟩ := id hv
  cases he
  obtain ⟨ua, uc, rfl, _, _, _⟩ := id hu
  obtain ⟨vs, hvl, hvr, hvi⟩ := hrow.vals
  have hone : ∀ x ∈ vs, x.oneCell' = true := by
    intro x hx
    obtain ⟨i, hi, rfl⟩ := List.getElem_of_mem hx
    obtain ⟨a2, c2, h2⟩ := ints_slice (hvi i vs[i] (ss[i]'(by omega)) (by simp [hi]) (by simp; try omega))
    rw [h2]; rfl
  have huone : (Value.slice ua s.length uc).oneCell' = true := rfl
  obtain ⟨b0, o0, s0, _, _, _, rfl, _⟩ := hrow.get h0
  have Hvr := Lib.hid hvr
  have Hvi := Lib.hid hvi
  clear hvr hvi hrow
  obtain ⟨n, hn⟩ : ∃ n, ss.length = n := ⟨_, rfl⟩
  have hvn : vs.length = n := by rw [← hn, hvl]
  rw [hn] at hc1 h0 h4
  have dl := lt_of_cell hc0
  have hnews : ∀ x ∈ [Value.slice ua s.length uc], x.oneCell' = true := fun x hx => by rw [List.mem_singleton.1 hx]; exact huone
  go_enter Try.func39, Try.ntmps39
  go_upto_region 2 with (fail)
  obtain ⟨W, hW⟩ : ∃ W, (w.alloc (.cells #[.int .i64 0, .slice none 0 0] 24)).alloc (.cells #[.int .i64 P, .slice (some ⟨b0, o0, none⟩) n cap] 24) = W := ⟨_, rfl⟩
  have hg : Grow w W := by rw [← hW]; exact ((Grow.refl w).alloc _).alloc _
  have hsz : W.heap.size = w.heap.size + 1 + 1 := by rw [← hW]; simp
  have hr0 : W.cell? ⟨w.heap.size, 0, none⟩ = some (.int .i64 0) := by rw [← hW]; exact Grow.keepA (cell_new rfl rfl) _
  have hr1 : W.cell? ⟨w.heap.size, 1, none⟩ = some (.slice none 0 0) := by rw [← hW]; exact Grow.keepA (cell_new rfl rfl) _
  have hrf : ∀ o, W.frozen? ⟨w.heap.size, o, none⟩ = false := fun o => by rw [← hW]; exact (((Grow.refl (w.alloc _)).alloc _).marks _ _ (by simp)).trans (hot_new rfl)
  have hv0 : W.cell? ⟨w.heap.size + 1, 0, none⟩ = some (.int .i64 P) := by rw [← hW]; exact cell_new (by simp) rfl
  have hv1 : W.cell? ⟨w.heap.size + 1, 1, none⟩ = some (.slice (some ⟨b0, o0, none⟩) n cap) := by rw [← hW]; exact cell_new (by simp) rfl
  have hvf : ∀ o, W.frozen? ⟨w.heap.size + 1, o, none⟩ = false := fun o => by rw [← hW]; exact hot_new (by simp)
  have hB0 := hg.keeps hc0
  have hB1 := hg.keeps hc1
  rw [hW]
  clear hW
  have dlW := lt_of_cell hB0
  have hown0 : Own (W.alloc (.cells #[] 25)) (w.heap.size + 1 + 1) 25 (.slice (some ⟨W.heap.size, 0, none⟩) 0 0) [] := Own.new0 (by omega) rfl
  have hX1 : Grow W (W.alloc (.cells #[] 25)) := (Grow.refl W).alloc _
  have hle : w.heap.size + 1 + 1 ≤ W.heap.size := by omega
  clear hsz
  go_wp2_with (at_builtin; first | ((refine wpl_app rfl (.tmp 6) (.tmp 8) 22 rfl (w.heap.size + 1 + 1) 25 i0 _ 24 hul hi0 hi1 hi2 hi3 rfl (.slice (some ⟨W.heap.size, 0, none⟩) 0 0) [] rfl hown0 (some ⟨b0, o0, none⟩) cap vs n rfl hvn (fun h => nomatch h) (Hvr.out.grow (hg.trans ((Grow.refl W).alloc _))) hone (by simp [hvn]; omega) (by decide) (by simp; omega) ?_; intro v1 w1 hown1 hg1 hm1; obtain ⟨g1, cap1, rfl, hcap1⟩ := hown1.some (n := n) (by simp [hvn]) h0; have hg1b := hown1.base g1 rfl; have hr01 := byCell1 hg1 (hX1.keeps hr0) (by show some W.heap.size ≠ some _; intro e; injection e with e; omega); have hr11 := byCell1 hg1 (hX1.keeps hr1) (by show some W.heap.size ≠ some _; intro e; injection e with e; omega); have hv01 := byCell1 hg1 (hX1.keeps hv0) (by show some W.heap.size ≠ some _; intro e; injection e with e; omega); have hv11 := byCell1 hg1 (hX1.keeps hv1) (by show some W.heap.size ≠ some _; intro e; injection e with e; omega); have hrf1 : ∀ o, w1.frozen? ⟨w.heap.size, o, none⟩ = false := (fun o => (byHot hg1 (lt_of_cell (hX1.keeps hr0)) (by show some W.heap.size ≠ some _; intro e; injection e with e; omega) o).trans ((hX1.marks _ _ (lt_of_cell hr0)).trans (hrf o))); have hvf1 : ∀ o, w1.frozen? ⟨w.heap.size + 1, o, none⟩ = false := (fun o => (byHot hg1 (lt_of_cell (hX1.keeps hv0)) (by show some W.heap.size ≠ some _; intro e; injection e with e; omega) o).trans ((hX1.marks _ _ (lt_of_cell hv0)).trans (hvf o))); have hlr := lt_of_cell hr01; have hlv := lt_of_cell hv01; have hX2 : Grow w1 (w1.alloc (.cells #[.slice ua s.length uc] 25)) := (Grow.refl w1).alloc _; have hs1 : w.heap.size + 1 + 1 ≤ w1.heap.size := by omega)) | ((refine wpl_app rfl (.tmp 9) (.tmp 11) 22 rfl (w.heap.size + 1 + 1) 25 i0 _ 24 hul hi0 hi1 hi2 hi3 rfl (.slice (some ⟨g1, 0, none⟩) n cap1) ([] ++ vs) rfl (hown1.alloc _) (some ⟨w1.heap.size, 0, none⟩) 1 [.slice ua s.length uc] 1 rfl rfl (fun h => nomatch h) (row_new1 _ _ _ (by simp)) hnews (by simp [hvn]; omega) (by decide) (by simp; omega) ?_; intro v2 w2 hown2 hg2 hm2; obtain ⟨g2, cap2, rfl, hcap2⟩ := hown2.some (n := n + 1) (by simp [hvn]) (by omega); have hg2b := hown2.base g2 rfl; have hr02 := byCell1 hg2 (hX2.keeps hr01) (by show some g1 ≠ some _; intro e; injection e with e; omega); have hr12 := byCell1 hg2 (hX2.keeps hr11) (by show some g1 ≠ some _; intro e; injection e with e; omega); have hv02 := byCell1 hg2 (hX2.keeps hv01) (by show some g1 ≠ some _; intro e; injection e with e; omega); have hv12 := byCell1 hg2 (hX2.keeps hv11) (by show some g1 ≠ some _; intro e; injection e with e; omega); have hrf2 : ∀ o, w2.frozen? ⟨w.heap.size, o, none⟩ = false := (fun o => (byHot hg2 (lt_of_cell (hX2.keeps hr01)) (by show some g1 ≠ some _; intro e; injection e with e; omega) o).trans ((hX2.marks _ _ (lt_of_cell hr01)).trans (hrf1 o))); have hvf2 : ∀ o, w2.frozen? ⟨w.heap.size + 1, o, none⟩ = false := (fun o => (byHot hg2 (lt_of_cell (hX2.keeps hv01)) (by show some g1 ≠ some _; intro e; injection e with e; omega) o).trans ((hX2.marks _ _ (lt_of_cell hv01)).trans (hvf1 o))); have hlr2 := lt_of_cell hr02; have hlv2 := lt_of_cell hv02)))
  obtain ⟨V, hV⟩ : ∃ V : Value, .slice (some ⟨g2, 0, none⟩) (n + 1) cap2 = V := ⟨_, rfl⟩
  obtain ⟨z0, z1, _, _⟩ := cells2 (x := .int .i64 P) (y := V) (byCell1 (bySet w2 (w.heap.size + 1) 1 V) hr02 (by intro e; injection e with e; omega)) (byCell1 (bySet w2 (w.heap.size + 1) 1 V) hr12 (by intro e; injection e with e; omega))
  have hG1 : Grow w w1 := Below.trans (hg.trans hX1) (grownBy_below hg1 (by intro k hk; have hk : some W.heap.size = some k := hk; injection hk with hk; omega) (by simp; omega))
  have hG2 : Grow w w2 := Below.trans (hG1.trans hX2) (grownBy_below hg2 (by intro k hk; have hk : some g1 = some k := hk; injection hk with hk; omega) (by simp; omega))
  have hGF := ((hG2.setCell (p := ⟨w.heap.size + 1, 1, none⟩) (by simp) V).setCell (p := ⟨w.heap.size, 0, none⟩) (by simp) (.int .i64 P)).setCell (p := ⟨w.heap.size, 1, none⟩) (by simp) V
  have hoZ := ((hown2.kept (bySet w2 (w.heap.size + 1) 1 V) (.inr (ob_ne (by omega)))).kept (bySet _ w.heap.size 0 (.int .i64 P)) (.inr (ob_ne (by omega)))).kept (bySet _ w.heap.size 1 V) (.inr (ob_ne (by omega)))
  have hsh : IsSheets (((w2.setCell ⟨w.heap.size + 1, 1, none⟩ V).setCell ⟨w.heap.size, 0, none⟩ (.int .i64 P)).setCell ⟨w.heap.size, 1, none⟩ V) V (ss ++ [s]) := by
    obtain ⟨a3, cap3, he3, hl3, _, hr3⟩ := hoZ.row
    injection he3 with q1 _ q3
    subst q1
    subst q3
    refine ⟨some ⟨g2, 0, none⟩, cap2, by rw [← hV]; simp [hn], by simp [hn]; omega, by simp [hn]; omega, fun i t hi => ?_⟩
    by_cases hin : i < n
    · have hx : ([] ++ vs ++ [Value.slice ua s.length uc])[i]? = some (vs[i]'(by omega)) := by simp [List.getElem?_append, hvn, hin]
      have ht : ss[i]? = some t := by rw [List.getElem?_append_left (by omega)] at hi; exact hi
      obtain ⟨b, o, hb, hc⟩ := hr3 i _ hx
      exact ⟨b, o, _, hb, hc, (Hvi.out i _ t (by simp [hvn, hin]) ht).grow hGF⟩
    · have hin2 : i = n := by
        have := (List.getElem?_eq_some_iff.1 hi).1
        simp [hn] at this
        omega
      subst hin2
      have hx : ([] ++ vs ++ [Value.slice ua s.length uc])[i]? = some (.slice ua s.length uc) := by rw [List.getElem?_append_right (by simp [hvn])]; simp [hvn]
      have ht : s = t := by rw [List.getElem?_append_right (by omega)] at hi; simpa [hn] using hi
      subst ht
      obtain ⟨b, o, hb, hc⟩ := hr3 i _ hx
      exact ⟨b, o, _, hb, hc, hu.grow hGF⟩
  rw [hV]
  exact bodyPost_ret (v := .agg #[.int .i64 P, V]) (by simp [results, Try.results39, go_sem, z0, z1]) rfl ⟨_, rfl, hsh, hGF⟩
end Go.Proofs.Yteijilbdllpbcaa
