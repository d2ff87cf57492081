/- The program of layer 7: whether a pair's time settles the final. Conditions: sizes. -/
import Derived.Test.YtbeglemohfbdfaaQpV
namespace Go.Proofs.Ytbeglemohfbdfaa
open Go.RowKit Go.Instr

/-- Does a pair's time settle the final, whatever it is? -/
def settlesP (ks : List (Int × Int)) (F : Int) (k : Nat) : Prop := ∀ t, lo ks k ≤ t → t ≤ hi ks k → settledB (ks.set k (t, t)) F = true
def settlesB (ks : List (Int × Int)) (F : Int) (k : Nat) : Bool := (List.range (hi ks k + 1 - lo ks k).toNat).all fun i => settledB (ks.set k (lo ks k + i, lo ks k + i)) F
theorem settlesB_iff {ks : List (Int × Int)} {F : Int} {k : Nat} : settlesB ks F k = true ↔ settlesP ks F k := by
  unfold settlesB settlesP
  rw [List.all_eq_true]
  constructor
  · intro h t h1 h2
    have := h (t - lo ks k).toNat (List.mem_range.2 (by omega))
    rw [show lo ks k + ((t - lo ks k).toNat : Int) = t by omega] at this
    exact this
  · intro h i hi0
    have := List.mem_range.1 hi0
    exact h _ (by omega) (by omega)
theorem copy_is {w1 : World} {S g cp k sn sc : Nat} {E F z : Int} {sa : Option Addr} {v3 : Value} {ks : List (Int × Int)} (hSg : S ≠ g) (hcp : ks.length ≤ cp) (d0 : w1.cell? ⟨S, 0, none⟩ = some (.int .i64 E)) (d1 : w1.cell? ⟨S, 1, none⟩ = some (.int .i64 F)) (d2 : w1.cell? ⟨S, 2, none⟩ = some (.slice sa sn sc)) (d3 : w1.cell? ⟨S, 3, none⟩ = some v3) (h : CksAt w1 (some ⟨g, 0, none⟩) ks) :
    ChaseIs (((w1.setCell ⟨S, 3, none⟩ (.slice (some ⟨g, 0, none⟩) ks.length cp)).setCell ⟨g, k * 3, none⟩ (.int .i64 z)).setCell ⟨g, k * 3 + 1, none⟩ (.int .i64 z)) S F (ks.set k (z, z)) := by
  have oS : ∀ {o : Nat} {v : Value}, (w1.setCell ⟨S, 3, none⟩ (.slice (some ⟨g, 0, none⟩) ks.length cp)).cell? ⟨S, o, none⟩ = some v → (((w1.setCell ⟨S, 3, none⟩ (.slice (some ⟨g, 0, none⟩) ks.length cp)).setCell ⟨g, k * 3, none⟩ (.int .i64 z)).setCell ⟨g, k * 3 + 1, none⟩ (.int .i64 z)).cell? ⟨S, o, none⟩ = some v := fun {o v} hv =>
    byCell1 (bySet _ g _ _) (byCell1 (bySet _ g _ _) hv (fun e => hSg (Option.some.inj e).symm)) (fun e => hSg (Option.some.inj e).symm)
  have oO : ∀ {o : Nat} {v : Value}, o ≠ 3 → w1.cell? ⟨S, o, none⟩ = some v → (w1.setCell ⟨S, 3, none⟩ (.slice (some ⟨g, 0, none⟩) ks.length cp)).cell? ⟨S, o, none⟩ = some v := fun {o v} ho hv => (World.cell?_setCell_other _ _ _ _ (by intro e; injection e with e1 e2; exact ho e2.symm)).trans hv
  refine ⟨E, sa, sn, sc, some ⟨g, 0, none⟩, cp, oS (oO (by decide) d0), oS (oO (by decide) d1), oS (oO (by decide) d2), ?_, by rw [List.length_set]; exact hcp, ?_⟩
  · rw [List.length_set]
    exact oS (World.cell?_setCell_same' _ _ _ (by rw [d3]; rfl))
  · intro p x hx
    have hp : p < ks.length := by have := (List.getElem?_eq_some_iff.1 hx).1; rwa [List.length_set] at this
    obtain ⟨b, o, e, q1, q2, q3⟩ := h p ks[p] (List.getElem?_eq_getElem hp)
    cases e
    rw [Nat.zero_add] at q1 q2 q3
    have g3 : ∀ {o : Nat} {v : Value}, w1.cell? ⟨g, o, none⟩ = some v → (w1.setCell ⟨S, 3, none⟩ (.slice (some ⟨g, 0, none⟩) ks.length cp)).cell? ⟨g, o, none⟩ = some v := fun {o v} hv => byCell1 (bySet _ S _ _) hv (fun e => hSg (Option.some.inj e))
    refine ⟨g, 0, rfl, ?_⟩
    rw [Nat.zero_add]
    by_cases hpk : p = k
    · subst hpk
      rw [List.getElem?_set_self hp] at hx
      cases hx
      refine ⟨?_, World.cell?_setCell_same' _ _ _ ?_, ?_⟩
      · rw [World.cell?_setCell_other _ _ _ _ (by simp)]
        exact World.cell?_setCell_same' _ _ _ (by rw [g3 q1]; rfl)
      · rw [World.cell?_setCell_other _ _ _ _ (by simp), g3 q2]; rfl
      · rw [World.cell?_setCell_other _ _ _ _ (by simp), World.cell?_setCell_other _ _ _ _ (by simp)]
        exact g3 q3
    · rw [List.getElem?_set_ne (fun e => hpk e.symm), List.getElem?_eq_getElem hp] at hx
      cases hx
      have oth : ∀ {o : Nat} {v : Value}, o ≠ k * 3 → o ≠ k * 3 + 1 → w1.cell? ⟨g, o, none⟩ = some v → (((w1.setCell ⟨S, 3, none⟩ (.slice (some ⟨g, 0, none⟩) ks.length cp)).setCell ⟨g, k * 3, none⟩ (.int .i64 z)).setCell ⟨g, k * 3 + 1, none⟩ (.int .i64 z)).cell? ⟨g, o, none⟩ = some v := fun {o v} h1 h2 hv => by
        rw [World.cell?_setCell_other _ _ _ _ (by intro e; injection e with e1 e2; exact h2 e2.symm), World.cell?_setCell_other _ _ _ _ (by intro e; injection e with e1 e2; exact h1 e2.symm)]
        exact g3 hv
      exact ⟨oth (by omega) (by omega) q1, oth (by omega) (by omega) q2, oth (by omega) (by omega) q3⟩
set_option maxRecDepth 100000 in
set_option maxHeartbeats 1000000 in
theorem psettles_any (c k : Nat) (F : Int) (ks : List (Int × Int)) (w : World) (hch : ChaseIs w c F ks) (hk : k < ks.length) (hl : ks.length ≤ 6) (hb : ∀ p, p < ks.length → 0 ≤ lo ks p ∧ lo ks p ≤ 1000 ∧ hi ks p ≤ 203) :
    Calls Try.prog 53 #[.pointer (some ⟨c, 0, none⟩), .int .i64 k] w fun e w' => ∃ b : Bool, e = .returned (.bool b) ∧ (b = true ↔ settlesP ks F k) ∧ Grow w w' := by
  have Hch := Lib.hid hch
  have Hb := Lib.hid hb
  obtain ⟨E, sa, sn, sc, a, cap, h0, h1, h2, h3, h4, h5⟩ := hch
  have H5 := Lib.hid h5
  obtain ⟨b, o, rfl, m1, m2, m3⟩ := h5 k (lo ks k, hi ks k) (by simp [lo, hi, hk])
  have hcl := lt_of_cell h3
  have hbl := lt_of_cell m1
  have hbk := hb k hk
  obtain ⟨x, hx⟩ : ∃ z, lo ks k = z := ⟨_, rfl⟩
  obtain ⟨y, hy⟩ : ∃ z, hi ks k = z := ⟨_, rfl⟩
  rw [hx] at m1 hbk
  rw [hy] at m2 hbk
  have Hx := Lib.hid hx
  have Hy := Lib.hid hy
  clear h5 hx hy hb
  go_enter Try.func53, Try.ntmps53
  go_wp2_with fail
  go_loopw [5] (fun i wr => ∃ z : Int, i = .int .i64 z ∧ x ≤ z ∧ z ≤ max x (y + 1) ∧ (∀ t, x ≤ t → t < z → settledB (ks.set k (t, t)) F = true) ∧ Grow w wr) (fun i _ => (y + 1 - intOf i).toNat)
  case atStart => exact ⟨x, rfl, Int.le_refl _, by omega, fun t h1 h2 => by omega, Grow.refl _⟩
  case round =>
    obtain ⟨z, rfl, hz0, hz1, hall, hg⟩ := hrel
    have Hall := Lib.hid hall
    clear hall
    have c0 := hg.keeps h0
    have c1 := hg.keeps h1
    have c2 := hg.keeps h2
    have c3 := hg.keeps h3
    have n1 := hg.keeps m1
    have n2 := hg.keeps m2
    have hcl2 := lt_of_cell c0
    have hwr := hg.size
    have hbl2 := lt_of_cell n1
    by_cases hzy : z ≤ y
    · cases hsb : settledB (ks.set k (z, z)) F
      · have Hsb := Lib.hid hsb
        clear hsb
        go_wp2_with first | (go_at_call 72; refine (pclone_any b o cap ks _ ((H5.out.grow hg).grow ((Grow.refl wr).alloc _)) hl (by omega)).mono ?_; rintro e w1 ⟨v1, rfl, hown1, hg1⟩; obtain ⟨g, cp, cur, rfl, hgb, _, hcp, _⟩ := hown1.2.resolve_left (fun h => by omega); have HO1 := Lib.hid hown1; clear hown1; have d0 : w1.cell? ⟨wr.heap.size, 0, none⟩ = some (.int .i64 E) := hg1.keeps (cell_new rfl rfl); have d1 : w1.cell? ⟨wr.heap.size, 1, none⟩ = some (.int .i64 F) := hg1.keeps (cell_new rfl rfl); have d2 : w1.cell? ⟨wr.heap.size, 2, none⟩ = some (.slice sa sn sc) := hg1.keeps (cell_new rfl rfl); have d3 : w1.cell? ⟨wr.heap.size, 3, none⟩ = some (.slice (some ⟨b, o, none⟩) ks.length cap) := hg1.keeps (cell_new rfl rfl); have df : ∀ q, w1.frozen? ⟨wr.heap.size, q, none⟩ = false := (fun q => (hg1.marks _ _ (by simp)).trans (by simp)); have dl := lt_of_cell d3; have hck1 := CksAt.of_row HO1.out; obtain ⟨_, _, e', q1, q2, q3⟩ := hck1 k (lo ks k, hi ks k) (by simp [lo, hi, hk]); cases e'; rw [Nat.zero_add] at q1 q2 q3; have hq : ∀ q, w1.frozen? ⟨g, q, none⟩ = false := (fun q => World.ownsRow.frozenAt HO1.out q); have hgl := lt_of_cell q1; have hgne : wr.heap.size + 1 ≤ g := (by simpa using hgb)) | (go_at_call 52; refine (psettled_any _ F (ks.set k (z, z)) _ (copy_is (by omega) hcp d0 d1 d2 d3 hck1) (by rw [List.length_set]; exact hl)).mono ?_; rintro e w2 ⟨rfl, hg2⟩; rw [Hsb.out])
        go_ret
        refine ⟨false, rfl, ⟨fun h => (nomatch h), fun h => ?_⟩, ?_⟩
        · have := h z (by rw [Hx.out]; exact hz0) (by rw [Hy.out]; exact hzy)
          rw [Hsb.out] at this
          cases this
        · have hgw : w.heap.size ≤ g := Nat.le_trans hwr (Nat.le_trans (by simp) hgb)
          exact Grow.trans (show Grow w _ from ((((hg.alloc _).trans hg1).setCell (p := ⟨wr.heap.size, 3, none⟩) hwr _).setCell (p := ⟨g, k * 3, none⟩) (by omega) _).setCell (p := ⟨g, k * 3 + 1, none⟩) (by omega) _) hg2
      · have Hsb := Lib.hid hsb
        clear hsb
        go_wp2_with first | (go_at_call 72; refine (pclone_any b o cap ks _ ((H5.out.grow hg).grow ((Grow.refl wr).alloc _)) hl (by omega)).mono ?_; rintro e w1 ⟨v1, rfl, hown1, hg1⟩; obtain ⟨g, cp, cur, rfl, hgb, _, hcp, _⟩ := hown1.2.resolve_left (fun h => by omega); have HO1 := Lib.hid hown1; clear hown1; have d0 : w1.cell? ⟨wr.heap.size, 0, none⟩ = some (.int .i64 E) := hg1.keeps (cell_new rfl rfl); have d1 : w1.cell? ⟨wr.heap.size, 1, none⟩ = some (.int .i64 F) := hg1.keeps (cell_new rfl rfl); have d2 : w1.cell? ⟨wr.heap.size, 2, none⟩ = some (.slice sa sn sc) := hg1.keeps (cell_new rfl rfl); have d3 : w1.cell? ⟨wr.heap.size, 3, none⟩ = some (.slice (some ⟨b, o, none⟩) ks.length cap) := hg1.keeps (cell_new rfl rfl); have df : ∀ q, w1.frozen? ⟨wr.heap.size, q, none⟩ = false := (fun q => (hg1.marks _ _ (by simp)).trans (by simp)); have dl := lt_of_cell d3; have hck1 := CksAt.of_row HO1.out; obtain ⟨_, _, e', q1, q2, q3⟩ := hck1 k (lo ks k, hi ks k) (by simp [lo, hi, hk]); cases e'; rw [Nat.zero_add] at q1 q2 q3; have hq : ∀ q, w1.frozen? ⟨g, q, none⟩ = false := (fun q => World.ownsRow.frozenAt HO1.out q); have hgl := lt_of_cell q1; have hgne : wr.heap.size + 1 ≤ g := (by simpa using hgb)) | (go_at_call 52; refine (psettled_any _ F (ks.set k (z, z)) _ (copy_is (by omega) hcp d0 d1 d2 d3 hck1) (by rw [List.length_set]; exact hl)).mono ?_; rintro e w2 ⟨rfl, hg2⟩; rw [Hsb.out])
        have hgw : w.heap.size ≤ g := Nat.le_trans hwr (Nat.le_trans (by simp) hgb)
        refine ⟨⟨z + 1, rfl, by omega, by omega, fun t h1 h2 => ?_, Grow.trans (show Grow w _ from ((((hg.alloc _).trans hg1).setCell (p := ⟨wr.heap.size, 3, none⟩) hwr _).setCell (p := ⟨g, k * 3, none⟩) (by omega) _).setCell (p := ⟨g, k * 3 + 1, none⟩) (by omega) _) hg2⟩, by simp [intOf]; omega⟩
        by_cases e : t = z
        · subst e; exact Hsb.out
        · exact Hall.out t h1 (by omega)
    · go_wp2_with fail
      go_ret
      have hall2 : settlesP ks F k := fun t h1 h2 => Hall.out t (by rw [← Hx.out]; exact h1) (by rw [Hy.out] at h2; omega)
      exact Or.inr ⟨rfl, hall2, hg⟩
theorem psettlesB_any (c k : Nat) (F : Int) (ks : List (Int × Int)) (w : World) (hch : ChaseIs w c F ks) (hk : k < ks.length) (hl : ks.length ≤ 6) (hb : ∀ p, p < ks.length → 0 ≤ lo ks p ∧ lo ks p ≤ 1000 ∧ hi ks p ≤ 203) :
    Calls Try.prog 53 #[.pointer (some ⟨c, 0, none⟩), .int .i64 k] w fun e w' => e = .returned (.bool (settlesB ks F k)) ∧ Grow w w' := by
  refine (psettles_any c k F ks w hch hk hl hb).mono ?_
  rintro e w' ⟨b, rfl, hb, hg⟩
  refine ⟨ret_bool ?_, hg⟩
  rw [← settlesB_iff] at hb
  exact Bool.eq_iff_iff.2 hb
end Go.Proofs.Ytbeglemohfbdfaa
