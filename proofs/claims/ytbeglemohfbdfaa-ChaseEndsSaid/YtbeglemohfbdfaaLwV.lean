/- The law ChaseEnds: the walk. Conditions: sizes. -/
import Derived.Test.YtbeglemohfbdfaaLwQ
import Derived.Test.YtbeglemohfbdfaaCpH
import Derived.Deep.DeepCutAuto
namespace Go.Proofs.Ytbeglemohfbdfaa
open Go.RowKit Go.Instr

/-- A chase in which one pair's watches are others. -/
theorem far_sheets {w Z : World} {D T g n cp p : Nat} {vs : List Value} {s8 : Value} {ss : List (List Int)} {l : List Int} (ho : Own Z D T (.slice (some ⟨g, 0, none⟩) n cp) (vs.set p s8)) (hvl : vs.length = ss.length) (hp : p < ss.length) (hs : ss.length ≤ 6) (hi : IsInts Z s8 l)
    (hvi : ∀ (i : Nat) (x : Value) (s : List Int), vs[i]? = some x → ss[i]? = some s → IsInts w x s) (hg : Grow w Z) : IsSheets Z (.slice (some ⟨g, 0, none⟩) n cp) (ss.set p l) :=
  own_sheets ho (by rw [List.length_set, List.length_set, hvl]) (fun i x s hx hs => by
    by_cases e : i = p
    · rw [e, List.getElem?_set_self (by omega)] at hx hs
      cases hx
      cases hs
      exact hi
    · rw [List.getElem?_set_ne (fun h => e h.symm)] at hx hs
      exact (hvi i x s hx hs).grow hg) (by rw [List.length_set]; omega)
theorem far_err {E F t : Int} {ss : List (List Int)} {p : Nat} {l : List Int} (hv : validB E F ss = true) (hp : p < ss.length) (hl : ss[p]? = some l) (hln : 1 ≤ l.length ∧ ∀ n ∈ l, 0 ≤ n ∧ n ≤ 200) (hl3 : l.length < 3) (ht : 0 ≤ t ∧ t ≤ 200) (hc : t + E < lo (clocksOf E ss) p ∨ hi (clocksOf E ss) p < t - E) :
    errOf E F (ss.set p (l ++ [t])) (inB p 0 ((ss.length : Int) - 1)) = 10 ∧ timeV E F (ss.set p (l ++ [t])) p = (0, 0) := by
  have hlb9 : listB (l ++ [t]) = true := by
    unfold listB
    rw [inB_true.2 (show (1 : Int) ≤ ((l ++ [t]).length : Int) ∧ ((l ++ [t]).length : Int) ≤ 3 by simp; omega), Bool.true_and, List.all_eq_true]
    intro z hz
    rcases List.mem_append.1 hz with hz | hz
    · exact inB_true.2 (hln.2 z hz)
    · rw [List.mem_singleton.1 hz]; exact inB_true.2 ht
  have hcg := clocks_get (E := E) hl
  have hcl : ¬ loOf E (l ++ [t]) ≤ hiOf E (l ++ [t]) := far_clash (by rw [← hcg.1, ← hcg.2]; exact hc)
  have herr : errOf E F (ss.set p (l ++ [t])) (inB p 0 ((ss.length : Int) - 1)) = 10 := by
    refine errOf_no (valid_set hv hlb9) ?_ (inB_true.2 (show (0 : Int) ≤ (p : Int) ∧ (p : Int) ≤ (ss.length : Int) - 1 by omega))
    rw [clocks_set]
    exact feas_no (by rw [clocks_len]; exact hp) hcl
  exact ⟨herr, by unfold timeV; rw [List.length_set, if_neg (by rw [herr]; decide)]⟩
def FarI (M g n cp : Nat) (vs : List Value) (p : Nat) (V : World) : Prop := ∃ u, Own V M 40 (.slice (some ⟨g, 0, none⟩) n cp) (vs.set p u)
set_option maxRecDepth 100000 in
set_option maxHeartbeats 4000000 in
theorem lchaseEnds (E F : Int) (v : Value) (ss : List (List Int)) (wi : Int) (w : World) (hv : IsSheets w v ss) (hwi : 0 ≤ wi ∧ wi < 256) :
    Calls Try.prog 5 #[.agg #[.int .i64 E, .int .i64 F, v], .int .u8 wi] w fun e w' => e = .returned (.bool true) ∧ Grow w w' := by
  have hmf : ∀ (fn : Fn) (first cap : Array Value) (w : World), (Instr.makeFunc fn first cap).run Try.prog w = .ok (.func fn first cap) w := fun _ _ _ _ => rfl
  obtain ⟨wn, rfl⟩ : ∃ n : Nat, wi = n := ⟨wi.toNat, by omega⟩
  have hwn : wn < 256 := by omega
  clear hwi
  obtain ⟨a, cap, rfl, hcap, hlen, hrow⟩ := id hv
  have Hv := Lib.hid hv
  have Hrow := Lib.hid hrow
  clear hv hrow
  go_enter Try.func5, Try.ntmps5
  go_wp2_with fail
  have hgw : Grow w (w.alloc (.cells #[.int .i64 E, .int .i64 F, .slice a ss.length cap] 32)) := (Grow.refl w).alloc _
  have c0 : (w.alloc (.cells #[.int .i64 E, .int .i64 F, .slice a ss.length cap] 32)).cell? ⟨w.heap.size, 0, none⟩ = some (.int .i64 E) := cell_new rfl rfl
  have c1 : (w.alloc (.cells #[.int .i64 E, .int .i64 F, .slice a ss.length cap] 32)).cell? ⟨w.heap.size, 1, none⟩ = some (.int .i64 F) := cell_new rfl rfl
  have c2 : (w.alloc (.cells #[.int .i64 E, .int .i64 F, .slice a ss.length cap] 32)).cell? ⟨w.heap.size, 2, none⟩ = some (.slice a ss.length cap) := cell_new rfl rfl
  obtain ⟨W, hW⟩ : ∃ z, w.alloc (.cells #[.int .i64 E, .int .i64 F, .slice a ss.length cap] 32) = z := ⟨_, rfl⟩
  obtain ⟨B, hB⟩ : ∃ z, w.heap.size = z := ⟨_, rfl⟩
  rw [hW] at hgw c0 c1 c2
  rw [hB] at c0 c1 c2
  rw [hW, hB]
  have HB := Lib.hid hB
  clear hW hB
  refine (llong_any E F _ ss _ (Hv.out.grow hgw)).mono ?_
  rintro e w1 ⟨⟨b, rfl⟩, g1⟩
  have G1 := hgw.trans g1
  have d0 := g1.keeps c0
  have d1 := g1.keeps c1
  have d2 := g1.keeps c2
  clear c0 c1 c2 g1
  cases b
  case true =>
    go_wp2_with (go_at_call 19; refine (lalive_any _).mono ?_; rintro e w2 ⟨rfl, g2⟩)
    go_ret
    exact ⟨rfl, G1.trans g2⟩
  cases hval : validB E F ss
  case false =>
    have he : errOf E F ss true = 1 := by unfold errOf; rw [if_pos hval]
    have hce := cutE_bad he (by decide)
    have Hval := Lib.hid hval
    have He := Lib.hid he
    have Hce := Lib.hid hce
    clear hval he hce
    go_wp2_with first | (go_at_call 29; refine (rChase_any E F _ ss _ (Hv.out.grow G1)).mono ?_; rintro e w2 ⟨rfl, g2⟩; rw [Hval.out]; have k0 := g2.keeps d0; have k1 := g2.keeps d1; have k2 := g2.keeps d2) | (go_at_call 23; refine (pCut_any E F _ ss _ (Hv.out.grow (G1.trans g2))).mono ?_; rw [He.out, Hce.out]; rintro e w3 ⟨rfl, g3⟩) | (go_at_call 19; refine (lalive_any _).mono ?_; rintro e w4 ⟨rfl, g4⟩)
    go_ret
    exact ⟨rfl, (((G1.trans g2).trans g3).alloc _).trans g4⟩
  have Hval := Lib.hid hval
  obtain ⟨hE, hn6, hF6, hll⟩ := valid_parts hval
  have Hll := Lib.hid hll
  clear hval hll
  have hnn : (ss.length : Int) ≤ 6 := by omega
  go_wp2_with (go_at_call 29; refine (rChase_any E F _ ss _ (Hv.out.grow G1)).mono ?_; rintro e w2 ⟨rfl, g2⟩; rw [Hval.out]; have k0 := g2.keeps d0; have k1 := g2.keeps d1; have k2 := g2.keeps d2; have hlk := lt_of_cell k0)
  have G2 := G1.trans g2
  clear d0 d1 d2 g2 G1 hgw
  go_loop [51] (fun i => ∃ k : Nat, k ≤ ss.length ∧ i = .int .i64 k ∧ ∀ l ∈ ss.take k, ∀ x ∈ l, 10 ≤ x ∧ x ≤ 190) (fun i => ss.length - (intOf i).toNat)
  case atStart => exact ⟨0, Nat.zero_le _, rfl, fun l hl => by simp at hl⟩
  case round =>
    obtain ⟨k, hk, rfl, hm⟩ := hrel
    have Hm := Lib.hid hm
    clear hm
    by_cases hlt : k < ss.length
    · obtain ⟨b, o, s, ta, tc, hx, rfl, hc, hsc, hs8, hs⟩ := Hrow.out.get hlt
      have hc' := G2.keeps hc
      have hlb := lt_of_cell hc'
      have Hx := Lib.hid hx
      have Hs := Lib.hid hs
      have hsl : s.length ≤ 3 := (Hll.out s (List.mem_of_getElem? hx)).1.2
      clear hx hs hc
      go_wp2_with fail
      go_loop [57] (fun i => ∃ m : Nat, m ≤ s.length ∧ i = .int .i64 m ∧ ∀ x ∈ s.take m, 10 ≤ x ∧ x ≤ 190) (fun i => s.length - (intOf i).toNat)
      case atStart => exact ⟨0, Nat.zero_le _, rfl, fun x hx => by simp at hx⟩
      case round =>
        obtain ⟨m, hm, rfl, hq⟩ := hrel
        have Hq := Lib.hid hq
        clear hq
        by_cases hlm : m < s.length
        · obtain ⟨b2, o2, x, hx, rfl, hcx⟩ := Hs.out.int hlm
          have hcx' := G2.keeps hcx
          have hlx := lt_of_cell hcx'
          have HX := Lib.hid hx
          clear hx hcx
          by_cases h1 : x < 10
          · go_wp2_with (go_at_call 19; refine (lalive_any _).mono ?_; rintro e w3 ⟨rfl, g3⟩)
            go_ret
            exact ⟨rfl, G2.trans g3⟩
          · by_cases h2 : 190 < x
            · go_wp2_with (go_at_call 19; refine (lalive_any _).mono ?_; rintro e w3 ⟨rfl, g3⟩)
              go_ret
              exact ⟨rfl, G2.trans g3⟩
            · go_wp2_with fail
              refine ⟨⟨m + 1, by omega, by go_num, fun z hz => ?_⟩, by simp [intOf]; omega⟩
              rw [take_get HX.out] at hz
              rcases List.mem_append.1 hz with hz | hz
              · exact Hq.out z hz
              · rw [List.mem_singleton.1 hz]; omega
        · have h3 : s.take m = s := take_len hlm
          have hq := Hq.out
          rw [h3] at hq
          have HQ := Lib.hid hq
          clear hq h3
          go_wp2_with fail
          refine ⟨⟨k + 1, by omega, by go_num, fun l hl => ?_⟩, by simp [intOf]; omega⟩
          rw [take_get Hx.out] at hl
          rcases List.mem_append.1 hl with hl | hl
          · exact Hm.out l hl
          · rw [List.mem_singleton.1 hl]; exact HQ.out
    · obtain rfl : k = ss.length := by omega
      rw [List.take_length] at Hm
      obtain ⟨p, hpd⟩ : ∃ p, wn % ss.length = p := ⟨_, rfl⟩
      have hp : p < ss.length := by rw [← hpd]; exact Nat.mod_lt _ (by omega)
      have hrem : (wn : Int).tmod (ss.length : Int) = (p : Int) := by rw [← hpd]; exact (Int.ofNat_tmod wn ss.length).symm
      have hcv : IntKind.i64.wrap (wn : Int) = (wn : Int) := IntWalk.i64_in _ (by omega)
      have hne0 : (ss.length : Int) ≠ 0 := by omega
      have hlB := lt_of_cell k0
      clear hpd hlk
      cases hfe : feasB (clocksOf E ss)
      case false =>
        have h1 := clash_at Hval.out hfe hp
        have h2 : timeV E F ss p = (0, 0) := by unfold timeV; rw [if_neg (by rw [h1]; decide)]
        have h3 : placeV E F ss p = (0, 0) := by unfold placeV; rw [if_neg (by rw [h1]; decide)]
        have h4 : finalE E F ss p = 0 := by unfold finalE; rw [if_neg (by rw [h1]; decide)]
        have H1 := Lib.hid h1
        have H2 := Lib.hid h2
        have H3 := Lib.hid h3
        have H4 := Lib.hid h4
        clear hfe h1 h2 h3 h4
        go_wp2_with first | (go_at_call 11; refine (pTime_any E F p _ ss _ (Hv.out.grow G2)).mono ?_; rw [H1.out, H2.out]; rintro e w4 ⟨rfl, g4⟩; have y0 := g4.keeps k0; have y1 := g4.keeps k1; have y2 := g4.keeps k2; have hly := lt_of_cell y0) | (go_at_call 13; refine (pPlace_any E F p _ ss _ (Hv.out.grow ((G2.trans g4).alloc _))).mono ?_; rw [H1.out, H3.out]; rintro e w5 ⟨rfl, g5⟩; have z0 := g5.keeps (Grow.keepA y0 _); have z1 := g5.keeps (Grow.keepA y1 _); have z2 := g5.keeps (Grow.keepA y2 _); have hlz := lt_of_cell z0; have a0 : w5.cell? ⟨w4.heap.size, 0, none⟩ = some (.int .i64 0) := g5.keeps (cell_new rfl rfl); have a1 : w5.cell? ⟨w4.heap.size, 1, none⟩ = some (.int .i64 0) := g5.keeps (cell_new rfl rfl); have hla := lt_of_cell a0) | (go_at_call 14; refine (pFinal_any E F p _ ss _ (Hv.out.grow ((((G2.trans g4).alloc _).trans g5).alloc _))).mono ?_; rw [H1.out, H4.out]; rintro e w6 ⟨rfl, g6⟩; have b0 := g6.keeps (Grow.keepA a0 _); have b1 := g6.keeps (Grow.keepA a1 _); have b2 : w6.cell? ⟨w5.heap.size, 0, none⟩ = some (.int .i64 0) := g6.keeps (cell_new rfl rfl); have b3 : w6.cell? ⟨w5.heap.size, 1, none⟩ = some (.int .i64 0) := g6.keeps (cell_new rfl rfl)) | (go_at_call 19; refine (lalive_any _).mono ?_; rintro e w7 ⟨rfl, g7⟩)
        go_ret
        exact ⟨rfl, (((((G2.trans g4).alloc _).trans g5).alloc _).trans g6).trans g7⟩
      obtain ⟨h1, h2, h3, h4⟩ := told_at Hval.out hfe hp
      have hpl := placeLo_le (feasB_iff.1 hfe) (p := p) (by rw [clocks_len]; exact hp)
      have hpb := place_below (ks := clocksOf E ss) (p := p) (by rw [clocks_len]; exact hp)
      rw [clocks_len] at hpb
      have hm := mid_range hE ((Hll.out _ (List.getElem_mem hp)).1.1) (Hm.out _ (List.getElem_mem hp))
      have hcg := clocks_get (E := E) (List.getElem?_eq_getElem hp)
      rw [← hcg.1, ← hcg.2] at hm
      have hxy := feasB_iff.1 hfe p (by rw [clocks_len]; exact hp)
      have hknow : ∀ t : Int, lo (clocksOf E ss) p ≤ t → t ≤ hi (clocksOf E ss) p → Told E F (ss.set p [t - E, t + E]) p ∧ clocksOf E (ss.set p [t - E, t + E]) = (clocksOf E ss).set p (t, t) := fun t ht1 ht2 => by
        have hk := known_clocks (E := E) (t := t) (ss := ss) (p := p) hE.1 (by omega) (by omega)
        refine ⟨told_at (valid_set Hval.out (known_list hE.1 (by omega) (by omega))) (by rw [hk, feasB_iff]; exact feas_set (feasB_iff.1 hfe)) (by rw [List.length_set]; exact hp), hk⟩
      have hplace : ∀ t : Int, lo (clocksOf E ss) p ≤ t → t ≤ hi (clocksOf E ss) p → _ := fun t ht1 ht2 => place_known (feasB_iff.1 hfe) (p := p) (by rw [clocks_len]; exact hp) ht1 ht2
      obtain ⟨x, hx⟩ : ∃ z, lo (clocksOf E ss) p = z := ⟨_, rfl⟩
      obtain ⟨y, hy⟩ : ∃ z, hi (clocksOf E ss) p = z := ⟨_, rfl⟩
      obtain ⟨pl, hpl0⟩ : ∃ z, placeLo (clocksOf E ss) p = z := ⟨_, rfl⟩
      obtain ⟨ph, hph0⟩ : ∃ z, placeHi (clocksOf E ss) p = z := ⟨_, rfl⟩
      rw [hx, hy] at h2 hm hxy hknow hplace
      rw [hpl0, hph0] at h3 hpl hplace
      rw [hph0] at hpb
      have Hknow := Lib.hid hknow
      have Hplace := Lib.hid hplace
      have hf2 := finalP_two (ks := clocksOf E ss) (F := F) (p := p)
      have hf0 := finalP_zero (ks := clocksOf E ss) (F := F) (p := p)
      have hfc := finalP_cases (clocksOf E ss) F p
      obtain ⟨nf, hnf⟩ : ∃ z, finalP (clocksOf E ss) F p = z := ⟨_, rfl⟩
      rw [hpl0, hph0, hnf] at hf2 hf0
      rw [hnf] at hfc h4
      have H1 := Lib.hid h1
      have H2 := Lib.hid h2
      have H3 := Lib.hid h3
      have H4 := Lib.hid h4
      have Hfe := Lib.hid hfe
      have Hx := Lib.hid hx
      have Hy := Lib.hid hy
      clear hfe h1 h2 h3 h4 hx hy hpl0 hph0 hnf hknow hplace hcg
      have c1 : decide ((ss.length : Int) ≤ (ph : Int)) = false := by simp; omega
      have c1n : decide (ss.length ≤ ph) = false := by simp; omega
      have c2 : decide ((ph : Int) < (pl : Int)) = false := by simp; omega
      have c2n : decide (ph < pl) = false := by simp; omega
      have c3 : (nf == 2) = decide ((ph : Int) < F) := by
        rw [Bool.eq_iff_iff]
        simp only [beq_iff_eq, decide_eq_true_eq]
        constructor
        · intro h; exact (hf2.1 h).2
        · intro h; exact hf2.2 ⟨by omega, h⟩
      have c4 : (nf == 0) = decide (F ≤ (pl : Int)) := by
        rw [Bool.eq_iff_iff]
        simp only [beq_iff_eq, decide_eq_true_eq]
        constructor
        · intro h; have := (hf0.1 h).1; omega
        · intro h; exact hf0.2 ⟨by omega, by omega⟩
      clear hfc
      clear hf2 hf0
      go_upto_region 24 with first | (go_at_call 11; refine (pTime_any E F p _ ss _ (Hv.out.grow G2)).mono ?_; rw [H1.out, H2.out]; rintro e w4 ⟨rfl, g4⟩; have y0 := g4.keeps k0; have y1 := g4.keeps k1; have y2 := g4.keeps k2; have hly := lt_of_cell y0) | (go_at_call 13; refine (pPlace_any E F p _ ss _ (Hv.out.grow ((G2.trans g4).alloc _))).mono ?_; rw [H1.out, H3.out]; rintro e w5 ⟨rfl, g5⟩; have z0 := g5.keeps (Grow.keepA y0 _); have z1 := g5.keeps (Grow.keepA y1 _); have z2 := g5.keeps (Grow.keepA y2 _); have hlz := lt_of_cell z0; have a0 : w5.cell? ⟨w4.heap.size, 0, none⟩ = some (.int .i64 x) := g5.keeps (cell_new rfl rfl); have a1 : w5.cell? ⟨w4.heap.size, 1, none⟩ = some (.int .i64 y) := g5.keeps (cell_new rfl rfl); have hla := lt_of_cell a0) | (go_at_call 14; refine (pFinal_any E F p _ ss _ (Hv.out.grow ((((G2.trans g4).alloc _).trans g5).alloc _))).mono ?_; rw [H1.out, H4.out]; rintro e w6 ⟨rfl, g6⟩; have b0 := g6.keeps (Grow.keepA a0 _); have b1 := g6.keeps (Grow.keepA a1 _); have b2 : w6.cell? ⟨w5.heap.size, 0, none⟩ = some (.int .i64 pl) := g6.keeps (cell_new rfl rfl); have b3 : w6.cell? ⟨w5.heap.size, 1, none⟩ = some (.int .i64 ph) := g6.keeps (cell_new rfl rfl); have q0 := g6.keeps (Grow.keepA z0 _); have q1 := g6.keeps (Grow.keepA z1 _); have q2 := g6.keeps (Grow.keepA z2 _))
      have G6 := (((((G2.trans g4).alloc _).trans g5).alloc _).trans g6)
      obtain ⟨S, hS⟩ : ∃ z, w4.heap.size = z := ⟨_, rfl⟩
      obtain ⟨Q, hQ⟩ : ∃ z, w5.heap.size = z := ⟨_, rfl⟩
      rw [hS] at b0 b1
      rw [hQ] at b2 b3
      rw [hS, hQ]
      clear hS hQ g4 g5 g6 a0 a1 hla y0 y1 y2 z0 z1 z2 hly hlz k0 k1 k2 G2 hlB
      have hlS := lt_of_cell b0
      have hlQ := lt_of_cell b2
      have hlB := lt_of_cell q0
      go_upto_region 26 with fail
      have n0 : (w6.alloc (.cells #[.int .i64 x, .int .i64 y] 3)).cell? ⟨w6.heap.size, 0, none⟩ = some (.int .i64 x) := cell_new rfl rfl
      have n1 : (w6.alloc (.cells #[.int .i64 x, .int .i64 y] 3)).cell? ⟨w6.heap.size, 1, none⟩ = some (.int .i64 y) := cell_new rfl rfl
      have gV : Grow w6 (w6.alloc (.cells #[.int .i64 x, .int .i64 y] 3)) := (Grow.refl w6).alloc _
      go_wp2_with fail
      obtain ⟨V, hV⟩ : ∃ z, w6.alloc (.cells #[.int .i64 x, .int .i64 y] 3) = z := ⟨_, rfl⟩
      obtain ⟨A, hA⟩ : ∃ z, w6.heap.size = z := ⟨_, rfl⟩
      rw [hV] at n0 n1 gV
      rw [hA] at n0 n1
      rw [hV, hA]
      have v0 := gV.keeps q0
      have v1 := gV.keeps q1
      have v2 := gV.keeps q2
      have s0 := gV.keeps b0
      have s1 := gV.keeps b1
      have p0 := gV.keeps b2
      have p1 := gV.keeps b3
      have GV := G6.trans gV
      clear hV hA gV G6 q0 q1 q2 b0 b1 b2 b3 hlS hlQ hlB c1 c1n c2 c2n c3 c4
      go_loopw [174] (fun i wr => ∃ k : Nat, k ≤ 2 ∧ i = .int .i64 k ∧ Grow V wr) (fun i _ => 2 - (intOf i).toNat)
      case atStart => exact ⟨0, Nat.zero_le _, rfl, Grow.refl _⟩
      case round =>
        obtain ⟨k, hk, rfl, hg⟩ := hrel
        have u0 := hg.keeps v0
        have u1 := hg.keeps v1
        have u2 := hg.keeps v2
        have r0 := hg.keeps p0
        have r1 := hg.keeps p1
        have hlu := lt_of_cell u0
        have hlr := lt_of_cell r0
        by_cases hlt : k < 2
        · obtain ⟨t, ht1, ht2, htc, hx0, hy1⟩ : ∃ t : Int, x ≤ t ∧ t ≤ y ∧ V.cell? ⟨A, k, none⟩ = some (.int .i64 t) ∧ (k = 0 → t = x) ∧ (k = 1 → t = y) := by
            have h : k = 0 ∨ k = 1 := by omega
            rcases h with rfl | rfl
            · exact ⟨x, by omega, hxy, n0, fun _ => rfl, fun h => by omega⟩
            · exact ⟨y, hxy, by omega, n1, fun h => by omega, fun _ => rfl⟩
          obtain ⟨⟨e1, e2, e3, _⟩, hkc⟩ := Hknow.out t ht1 ht2
          obtain ⟨l1, l2, l3, l4⟩ := Hplace.out t ht1 ht2
          rw [hkc] at e2 e3
          have hlo : lo ((clocksOf E ss).set p (t, t)) p = t := by rw [lo_set (by rw [clocks_len]; exact hp), if_pos rfl]
          have hhi : hi ((clocksOf E ss).set p (t, t)) p = t := by rw [hi_set (by rw [clocks_len]; exact hp), if_pos rfl]
          rw [hlo, hhi] at e2
          obtain ⟨pa, hpa⟩ : ∃ z, placeLo ((clocksOf E ss).set p (t, t)) p = z := ⟨_, rfl⟩
          obtain ⟨pb, hpb2⟩ : ∃ z, placeHi ((clocksOf E ss).set p (t, t)) p = z := ⟨_, rfl⟩
          rw [hpa, hpb2] at e3
          rw [hpa] at l1 l3
          rw [hpb2] at l2 l4
          have m1 : k = 0 → pa = pl := fun h => l3 (hx0 h)
          have m2 : k = 1 → pb = ph := fun h => l4 (hy1 h)
          have hok : (decide (0 ≤ t - E) && decide (t + E ≤ 200)) = true := by simp; omega
          rw [List.length_set] at e1
          have E1 := Lib.hid e1
          have E2 := Lib.hid e2
          have E3 := Lib.hid e3
          have Hok := Lib.hid hok
          have uA := hg.keeps htc
          have hlA := lt_of_cell uA
          clear e1 e2 e3 l3 l4 hok htc hkc hlo hhi hpa hpb2 hx0 hy1
          go_upto_region 32 with first | (go_at_call 30; refine (lknown_any E F t _ ss p _ (Hv.out.grow (GV.trans hg)) hp (by omega) hE (by omega)).mono ?_; rw [Hok.out]; rintro e w4 ⟨v4, rfl, hs4, g4⟩; have Hs4 := Lib.hid hs4; obtain ⟨a4, c4, h4, _, _, _⟩ := hs4; rw [List.length_set] at h4; subst h4) | (go_at_call 11; refine (pTime_any E F p _ (ss.set p [t - E, t + E]) _ (Hs4.out.grow ((Grow.refl _).alloc _))).mono ?_; rw [List.length_set, E1.out, E2.out]; rintro e w5 ⟨rfl, g5⟩; have x0 := g5.keeps (cell_new (w := w4) (b := w4.heap.size) (o := 0) (cs := #[.int .i64 E, .int .i64 F, .slice a4 ss.length c4]) (e := 32) (v := .int .i64 E) rfl rfl); have x1 := g5.keeps (cell_new (w := w4) (b := w4.heap.size) (o := 1) (cs := #[.int .i64 E, .int .i64 F, .slice a4 ss.length c4]) (e := 32) (v := .int .i64 F) rfl rfl); have x2 := g5.keeps (cell_new (w := w4) (b := w4.heap.size) (o := 2) (cs := #[.int .i64 E, .int .i64 F, .slice a4 ss.length c4]) (e := 32) (v := .slice a4 ss.length c4) rfl rfl); have hlx := lt_of_cell x0) | (go_at_call 13; refine (pPlace_any E F p _ (ss.set p [t - E, t + E]) _ (Hs4.out.grow (((Grow.refl _).alloc _).trans (g5.alloc _)))).mono ?_; rw [List.length_set, E1.out, E3.out]; rintro e w6 ⟨rfl, g6⟩)
          have i0 : w6.cell? ⟨w5.heap.size, 0, none⟩ = some (.int .i64 t) := g6.keeps (cell_new rfl rfl)
          have i1 : w6.cell? ⟨w5.heap.size, 1, none⟩ = some (.int .i64 t) := g6.keeps (cell_new rfl rfl)
          have g46 : Grow wr w6 := (g4.trans ((Grow.refl _).alloc _)).trans ((g5.alloc _).trans g6)
          have gN := g46.alloc (.cells #[.int .i64 pa, .int .i64 pb] 23)
          have N0 := Grow.keepA i0 (.cells #[.int .i64 pa, .int .i64 pb] 23)
          have N1 := Grow.keepA i1 (.cells #[.int .i64 pa, .int .i64 pb] 23)
          have N2 : (w6.alloc (.cells #[.int .i64 pa, .int .i64 pb] 23)).cell? ⟨w6.heap.size, 0, none⟩ = some (.int .i64 pa) := cell_new rfl rfl
          have N3 : (w6.alloc (.cells #[.int .i64 pa, .int .i64 pb] 23)).cell? ⟨w6.heap.size, 1, none⟩ = some (.int .i64 pb) := cell_new rfl rfl
          have N4 := gN.keeps r0
          have N5 := gN.keeps r1
          obtain ⟨N, hN⟩ : ∃ z, w6.alloc (.cells #[.int .i64 pa, .int .i64 pb] 23) = z := ⟨_, rfl⟩
          obtain ⟨T5, hT5⟩ : ∃ z, w5.heap.size = z := ⟨_, rfl⟩
          obtain ⟨T6, hT6⟩ : ∃ z, w6.heap.size = z := ⟨_, rfl⟩
          rw [hN] at N0 N1 N2 N3 N4 N5 gN
          rw [hT5] at N0 N1
          rw [hT6] at N2 N3
          rw [hN, hT5, hT6]
          have gVN := hg.trans gN
          clear hN hT5 hT6 i0 i1 g46 g4 g5 g6 gN x0 x1 x2 hlx u0 u1 u2 r0 r1 hlu hlr uA hlA hg E1 E2 E3 Hs4
          have hS0 : Grow N N.drew ∧ N.drew.cell? ⟨T5, 0, none⟩ = some (.int .i64 t) ∧ N.drew.cell? ⟨T5, 1, none⟩ = some (.int .i64 t) ∧ N.drew.cell? ⟨T6, 0, none⟩ = some (.int .i64 pa) ∧ N.drew.cell? ⟨T6, 1, none⟩ = some (.int .i64 pb) ∧ N.drew.cell? ⟨Q, 0, none⟩ = some (.int .i64 pl) ∧ N.drew.cell? ⟨Q, 1, none⟩ = some (.int .i64 ph) := ⟨(Grow.refl N).drew, N0, N1, N2, N3, N4, N5⟩
          have hgS : ∀ X Y : World, (Grow N X ∧ X.cell? ⟨T5, 0, none⟩ = some (.int .i64 t) ∧ X.cell? ⟨T5, 1, none⟩ = some (.int .i64 t) ∧ X.cell? ⟨T6, 0, none⟩ = some (.int .i64 pa) ∧ X.cell? ⟨T6, 1, none⟩ = some (.int .i64 pb) ∧ X.cell? ⟨Q, 0, none⟩ = some (.int .i64 pl) ∧ X.cell? ⟨Q, 1, none⟩ = some (.int .i64 ph)) → Grow X Y → Grow N Y ∧ Y.cell? ⟨T5, 0, none⟩ = some (.int .i64 t) ∧ Y.cell? ⟨T5, 1, none⟩ = some (.int .i64 t) ∧ Y.cell? ⟨T6, 0, none⟩ = some (.int .i64 pa) ∧ Y.cell? ⟨T6, 1, none⟩ = some (.int .i64 pb) ∧ Y.cell? ⟨Q, 0, none⟩ = some (.int .i64 pl) ∧ Y.cell? ⟨Q, 1, none⟩ = some (.int .i64 ph) := fun X Y h g => ⟨h.1.trans g, g.keeps h.2.1, g.keeps h.2.2.1, g.keeps h.2.2.2.1, g.keeps h.2.2.2.2.1, g.keeps h.2.2.2.2.2.1, g.keeps h.2.2.2.2.2.2⟩
          have dA : decide ((pa : Int) < (pl : Int)) = false := by simp; omega
          have dAn : decide (pa < pl) = false := by simp; omega
          have dB : decide ((ph : Int) < (pb : Int)) = false := by simp; omega
          have dBn : decide (ph < pb) = false := by simp; omega
          clear N0 N1 N2 N3 N4 N5
          have h01 : k = 0 ∨ k = 1 := by omega
          rcases h01 with rfl | rfl
          · have mm : ((pa : Int) == (pl : Int)) = true := by simp [m1 rfl]
            have mm2 : pa = pl := m1 rfl
            clear m1 m2
            (refine wp_region_held_drew (S := fun Vx => Grow N Vx ∧ Vx.cell? ⟨T5, 0, none⟩ = some (.int .i64 t) ∧ Vx.cell? ⟨T5, 1, none⟩ = some (.int .i64 t) ∧ Vx.cell? ⟨T6, 0, none⟩ = some (.int .i64 pa) ∧ Vx.cell? ⟨T6, 1, none⟩ = some (.int .i64 pb) ∧ Vx.cell? ⟨Q, 0, none⟩ = some (.int .i64 pl) ∧ Vx.cell? ⟨Q, 1, none⟩ = some (.int .i64 ph)) (by kernel_rfl) (hS0) (fun hHeld => ?_); refine wpAnyH_take (i := 0) (oi := _) (v := ?_) rfl (by kernel_rfl) (by kernel_rfl) (by kernel_rfl) (fun _ _ _ h => h) (Or.inl ⟨by rfl, ?_⟩) (by assumption) ?_; rotate_left; (focus (intro w hSw; (try dsimp only at hSw); go_simp; (try with_reducible rfl))); (try simp only [Act.put, List.setIfInBounds_toArray, List.set_cons_zero, List.set_cons_succ, List.getElem_toArray, List.getElem_cons_zero]); refine wpAnyH_take (i := 1) (oi := _) (v := ?_) rfl (by kernel_rfl) (by kernel_rfl) (by kernel_rfl) (fun _ _ _ h => h) (Or.inl ⟨by rfl, ?_⟩) (by assumption) ?_; rotate_left; (focus (intro w hSw; (try dsimp only at hSw); go_simp; (try with_reducible rfl))); (try simp only [Act.put, List.setIfInBounds_toArray, List.set_cons_zero, List.set_cons_succ, List.getElem_toArray, List.getElem_cons_zero, List.getElem_cons_succ]); refine wpAnyH_take (i := 2) (oi := _) (v := ?_) rfl (by kernel_rfl) (by kernel_rfl) (by kernel_rfl) (fun _ _ _ h => h) (Or.inl ⟨by rfl, ?_⟩) (by assumption) ?_; rotate_left; (focus (intro w hSw; (try dsimp only at hSw); go_simp; (try with_reducible rfl))); (try simp only [Act.put, List.setIfInBounds_toArray, List.set_cons_zero, List.set_cons_succ, List.getElem_toArray, List.getElem_cons_zero, List.getElem_cons_succ]); refine wpAnyH_take (i := 3) (oi := _) (v := ?_) rfl (by kernel_rfl) (by kernel_rfl) (by kernel_rfl) (fun _ _ _ h => h) (Or.inl ⟨by rfl, ?_⟩) (by assumption) ?_; rotate_left; (focus (intro w hSw; (try dsimp only at hSw); go_simp; (try with_reducible rfl))); (try simp only [Act.put, List.setIfInBounds_toArray, List.set_cons_zero, List.set_cons_succ, List.getElem_toArray, List.getElem_cons_zero, List.getElem_cons_succ]); refine wpAnyH_take (i := 4) (oi := _) (v := ?_) rfl (by kernel_rfl) (by kernel_rfl) (by kernel_rfl) (fun _ _ _ h => h) (Or.inl ⟨by rfl, ?_⟩) (by assumption) ?_; rotate_left; (focus (intro w hSw; (try dsimp only at hSw); go_simp; (try with_reducible rfl))); (try simp only [Act.put, List.setIfInBounds_toArray, List.set_cons_zero, List.set_cons_succ, List.getElem_toArray, List.getElem_cons_zero, List.getElem_cons_succ]); refine wpAnyH_take (i := 5) (oi := _) (v := ?_) rfl (by kernel_rfl) (by kernel_rfl) (by kernel_rfl) (fun _ _ _ h => h) (Or.inl ⟨by rfl, ?_⟩) (by assumption) ?_; rotate_left; (focus (intro w hSw; (try dsimp only at hSw); go_simp; (try with_reducible rfl))); (try simp only [Act.put, List.setIfInBounds_toArray, List.set_cons_zero, List.set_cons_succ, List.getElem_toArray, List.getElem_cons_zero, List.getElem_cons_succ]); refine wpAnyH_take (i := 6) (oi := _) (v := ?_) rfl (by kernel_rfl) (by kernel_rfl) (by kernel_rfl) (fun _ _ _ h => h) (Or.inl ⟨by rfl, ?_⟩) (by assumption) ?_; rotate_left; (focus (intro w hSw; (try dsimp only at hSw); go_simp; (try with_reducible rfl))); (try simp only [Act.put, List.setIfInBounds_toArray, List.set_cons_zero, List.set_cons_succ, List.getElem_toArray, List.getElem_cons_zero, List.getElem_cons_succ]); refine wpAnyH_take (i := 7) (oi := _) (v := ?_) rfl (by kernel_rfl) (by kernel_rfl) (by kernel_rfl) (fun _ _ _ h => h) (Or.inl ⟨by rfl, ?_⟩) (by assumption) ?_; rotate_left; (focus (intro w hSw; (try dsimp only at hSw); go_simp; (try with_reducible rfl))); (try simp only [Act.put, List.setIfInBounds_toArray, List.set_cons_zero, List.set_cons_succ, List.getElem_toArray, List.getElem_cons_zero, List.getElem_cons_succ]); refine wpAnyH_ready (rs := [8]) (by kernel_rfl) (by simp) ?_; refine AllReadyH.cons (o := _) rfl (fun K hK => ?_) AllReadyH.nil; (try simp only [List.getElem_toArray, List.getElem_cons_zero, List.getElem_cons_succ]); (try go_simp); ((go_at_call 10; refine (lspan_any _ _ _).mono ?_; rintro e w' ⟨rfl, hg'⟩)); (try (go_wp2_with fail)); refine hK.out _ _ ?_ (fun hHeld => ?_); (focus (exact hgS _ _ hHeld hg')); clear hK K; (try simp only [Act.put, List.setIfInBounds_toArray, List.set_cons_zero, List.set_cons_succ, List.getElem_toArray, List.getElem_cons_zero, List.getElem_cons_succ]); refine wpAnyH_take (i := 9) (oi := _) (v := ?_) rfl (by kernel_rfl) (by kernel_rfl) (by kernel_rfl) (fun _ _ _ h => h) (Or.inl ⟨by rfl, ?_⟩) (by assumption) ?_; rotate_left; (focus (intro w hSw; (try dsimp only at hSw); go_simp; (try with_reducible rfl))); (try simp only [Act.put, List.setIfInBounds_toArray, List.set_cons_zero, List.set_cons_succ, List.getElem_toArray, List.getElem_cons_zero, List.getElem_cons_succ]); refine wpAnyH_take (i := 10) (oi := _) (v := ?_) rfl (by kernel_rfl) (by kernel_rfl) (by kernel_rfl) (fun _ _ _ h => h) (Or.inl ⟨by rfl, ?_⟩) (by assumption) ?_; rotate_left; (focus (intro w hSw; (try dsimp only at hSw); go_simp; (try with_reducible rfl))); (try simp only [Act.put, List.setIfInBounds_toArray, List.set_cons_zero, List.set_cons_succ, List.getElem_toArray, List.getElem_cons_zero, List.getElem_cons_succ]); refine wpAnyH_take (i := 11) (oi := _) (v := ?_) rfl (by kernel_rfl) (by kernel_rfl) (by kernel_rfl) (fun _ _ _ h => h) (Or.inl ⟨by rfl, ?_⟩) (by assumption) ?_; rotate_left; (focus (intro w hSw; (try dsimp only at hSw); go_simp; (try with_reducible rfl))); (try simp only [Act.put, List.setIfInBounds_toArray, List.set_cons_zero, List.set_cons_succ, List.getElem_toArray, List.getElem_cons_zero, List.getElem_cons_succ]); refine wpAnyH_take (i := 12) (oi := _) (v := ?_) rfl (by kernel_rfl) (by kernel_rfl) (by kernel_rfl) (fun _ _ _ h => h) (Or.inl ⟨by rfl, ?_⟩) (by assumption) ?_; rotate_left; (focus (intro w hSw; (try dsimp only at hSw); go_simp; (try with_reducible rfl))); (try simp only [Act.put, List.setIfInBounds_toArray, List.set_cons_zero, List.set_cons_succ, List.getElem_toArray, List.getElem_cons_zero, List.getElem_cons_succ]); refine wpAnyH_take (i := 13) (oi := _) (v := ?_) rfl (by kernel_rfl) (by kernel_rfl) (by kernel_rfl) (fun _ _ _ h => h) (Or.inl ⟨by rfl, ?_⟩) (by assumption) ?_; rotate_left; (focus (intro w hSw; (try dsimp only at hSw); go_simp; (try with_reducible rfl))); (try simp only [Act.put, List.setIfInBounds_toArray, List.set_cons_zero, List.set_cons_succ, List.getElem_toArray, List.getElem_cons_zero, List.getElem_cons_succ]); refine wpAnyH_take (i := 14) (oi := _) (v := ?_) rfl (by kernel_rfl) (by kernel_rfl) (by kernel_rfl) (fun _ _ _ h => h) (Or.inl ⟨by rfl, ?_⟩) (by assumption) ?_; rotate_left; (focus (intro w hSw; (try dsimp only at hSw); go_simp; (try with_reducible rfl))); (try simp only [Act.put, List.setIfInBounds_toArray, List.set_cons_zero, List.set_cons_succ, List.getElem_toArray, List.getElem_cons_zero, List.getElem_cons_succ]); refine wpAnyH_take (i := 15) (oi := _) (v := ?_) rfl (by kernel_rfl) (by kernel_rfl) (by kernel_rfl) (fun _ _ _ h => h) (Or.inl ⟨by rfl, ?_⟩) (by assumption) ?_; rotate_left; (focus (intro w hSw; (try dsimp only at hSw); go_simp; (try with_reducible rfl))); (try simp only [Act.put, List.setIfInBounds_toArray, List.set_cons_zero, List.set_cons_succ, List.getElem_toArray, List.getElem_cons_zero, List.getElem_cons_succ]); refine wpAnyH_take (i := 16) (oi := _) (v := ?_) rfl (by kernel_rfl) (by kernel_rfl) (by kernel_rfl) (fun _ _ _ h => h) (Or.inl ⟨by rfl, ?_⟩) (by assumption) ?_; rotate_left; (focus (intro w hSw; (try dsimp only at hSw); go_simp; (try with_reducible rfl))); (try simp only [Act.put, List.setIfInBounds_toArray, List.set_cons_zero, List.set_cons_succ, List.getElem_toArray, List.getElem_cons_zero, List.getElem_cons_succ]); refine wpAnyH_take (i := 17) (oi := _) (v := ?_) rfl (by kernel_rfl) (by kernel_rfl) (by kernel_rfl) (fun _ _ _ h => h) (Or.inl ⟨by rfl, ?_⟩) (by assumption) ?_; rotate_left; (focus (intro w hSw; (try dsimp only at hSw); go_simp; (try with_reducible rfl))); (try simp only [Act.put, List.setIfInBounds_toArray, List.set_cons_zero, List.set_cons_succ, List.getElem_toArray, List.getElem_cons_zero, List.getElem_cons_succ]); refine wpAnyH_take (i := 18) (oi := _) (v := ?_) rfl (by kernel_rfl) (by kernel_rfl) (by kernel_rfl) (fun _ _ _ h => h) (Or.inl ⟨by rfl, ?_⟩) (by assumption) ?_; rotate_left; (focus (intro w hSw; (try dsimp only at hSw); go_simp; (try with_reducible rfl))); (try simp only [Act.put, List.setIfInBounds_toArray, List.set_cons_zero, List.set_cons_succ, List.getElem_toArray, List.getElem_cons_zero, List.getElem_cons_succ]); refine wpAnyH_take (i := 19) (oi := _) (v := ?_) rfl (by kernel_rfl) (by kernel_rfl) (by kernel_rfl) (fun _ _ _ h => h) (Or.inl ⟨by rfl, ?_⟩) (by assumption) ?_; rotate_left; (focus (intro w hSw; (try dsimp only at hSw); go_simp; (try with_reducible rfl))); (try simp only [Act.put, List.setIfInBounds_toArray, List.set_cons_zero, List.set_cons_succ, List.getElem_toArray, List.getElem_cons_zero, List.getElem_cons_succ]); refine wpAnyH_take (i := 20) (oi := _) (v := ?_) rfl (by kernel_rfl) (by kernel_rfl) (by kernel_rfl) (fun _ _ _ h => h) (Or.inl ⟨by rfl, ?_⟩) (by assumption) ?_; rotate_left; (focus (intro w hSw; (try dsimp only at hSw); go_simp; (try with_reducible rfl))); (try simp only [Act.put, List.setIfInBounds_toArray, List.set_cons_zero, List.set_cons_succ, List.getElem_toArray, List.getElem_cons_zero, List.getElem_cons_succ]); refine wpAnyH_take (i := 21) (oi := _) (v := ?_) rfl (by kernel_rfl) (by kernel_rfl) (by kernel_rfl) (fun _ _ _ h => h) (Or.inl ⟨by rfl, ?_⟩) (by assumption) ?_; rotate_left; (focus (intro w hSw; (try dsimp only at hSw); go_simp; (try with_reducible rfl))); (try simp only [Act.put, List.setIfInBounds_toArray, List.set_cons_zero, List.set_cons_succ, List.getElem_toArray, List.getElem_cons_zero, List.getElem_cons_succ]); refine wpAnyH_take (i := 22) (oi := _) (v := ?_) rfl (by kernel_rfl) (by kernel_rfl) (by kernel_rfl) (fun _ _ _ h => h) (Or.inl ⟨by rfl, ?_⟩) (by assumption) ?_; rotate_left; (focus (intro w hSw; (try dsimp only at hSw); go_simp; (try with_reducible rfl))); (try simp only [Act.put, List.setIfInBounds_toArray, List.set_cons_zero, List.set_cons_succ, List.getElem_toArray, List.getElem_cons_zero, List.getElem_cons_succ]); refine wpAnyH_take (i := 23) (oi := _) (v := ?_) rfl (by kernel_rfl) (by kernel_rfl) (by kernel_rfl) (fun _ _ _ h => h) (Or.inl ⟨by rfl, ?_⟩) (by assumption) ?_; rotate_left; (focus (intro w hSw; (try dsimp only at hSw); go_simp; (try with_reducible rfl))); (try simp only [Act.put, List.setIfInBounds_toArray, List.set_cons_zero, List.set_cons_succ, List.getElem_toArray, List.getElem_cons_zero, List.getElem_cons_succ]); refine wpAnyH_take (i := 24) (oi := _) (v := ?_) rfl (by kernel_rfl) (by kernel_rfl) (by kernel_rfl) (fun _ _ _ h => h) (Or.inl ⟨by rfl, ?_⟩) (by assumption) ?_; rotate_left; (focus (intro w hSw; (try dsimp only at hSw); go_simp; (try with_reducible rfl))); (try simp only [Act.put, List.setIfInBounds_toArray, List.set_cons_zero, List.set_cons_succ, List.getElem_toArray, List.getElem_cons_zero, List.getElem_cons_succ]); refine wpAnyH_take (i := 25) (oi := _) (v := ?_) rfl (by kernel_rfl) (by kernel_rfl) (by kernel_rfl) (fun _ _ _ h => h) (Or.inl ⟨by rfl, ?_⟩) (by assumption) ?_; rotate_left; (focus (intro w hSw; (try dsimp only at hSw); go_simp; (try with_reducible rfl))); (try simp only [Act.put, List.setIfInBounds_toArray, List.set_cons_zero, List.set_cons_succ, List.getElem_toArray, List.getElem_cons_zero, List.getElem_cons_succ]); refine wpAnyH_take (i := 26) (oi := _) (v := ?_) rfl (by kernel_rfl) (by kernel_rfl) (by kernel_rfl) (fun _ _ _ h => h) (Or.inl ⟨by rfl, ?_⟩) (by assumption) ?_; rotate_left; (focus (intro w hSw; (try dsimp only at hSw); go_simp; (try with_reducible rfl))); (try simp only [Act.put, List.setIfInBounds_toArray, List.set_cons_zero, List.set_cons_succ, List.getElem_toArray, List.getElem_cons_zero, List.getElem_cons_succ]); refine wpAnyH_take (i := 27) (oi := _) (v := ?_) rfl (by kernel_rfl) (by kernel_rfl) (by kernel_rfl) (fun _ _ _ h => h) (Or.inl ⟨by rfl, ?_⟩) (by assumption) ?_; rotate_left; (focus (intro w hSw; (try dsimp only at hSw); go_simp; (try with_reducible rfl))); (try simp only [Act.put, List.setIfInBounds_toArray, List.set_cons_zero, List.set_cons_succ, List.getElem_toArray, List.getElem_cons_zero, List.getElem_cons_succ]); refine wpAnyH_take (i := 28) (oi := _) (v := ?_) rfl (by kernel_rfl) (by kernel_rfl) (by kernel_rfl) (fun _ _ _ h => h) (Or.inl ⟨by rfl, ?_⟩) (by assumption) ?_; rotate_left; (focus (intro w hSw; (try dsimp only at hSw); go_simp; (try with_reducible rfl))); (try simp only [Act.put, List.setIfInBounds_toArray, List.set_cons_zero, List.set_cons_succ, List.getElem_toArray, List.getElem_cons_zero, List.getElem_cons_succ]); refine wpAnyH_take (i := 29) (oi := _) (v := ?_) rfl (by kernel_rfl) (by kernel_rfl) (by kernel_rfl) (fun _ _ _ h => h) (Or.inl ⟨by rfl, ?_⟩) (by assumption) ?_; rotate_left; (focus (intro w hSw; (try dsimp only at hSw); go_simp; (try with_reducible rfl))); (try simp only [Act.put, List.setIfInBounds_toArray, List.set_cons_zero, List.set_cons_succ, List.getElem_toArray, List.getElem_cons_zero, List.getElem_cons_succ]); refine wpAnyH_take (i := 30) (oi := _) (v := ?_) rfl (by kernel_rfl) (by kernel_rfl) (by kernel_rfl) (fun _ _ _ h => h) (Or.inl ⟨by rfl, ?_⟩) (by assumption) ?_; rotate_left; (focus (intro w hSw; (try dsimp only at hSw); go_simp; (try with_reducible rfl))); (try simp only [Act.put, List.setIfInBounds_toArray, List.set_cons_zero, List.set_cons_succ, List.getElem_toArray, List.getElem_cons_zero, List.getElem_cons_succ]); refine wpAnyH_take (i := 31) (oi := _) (v := ?_) rfl (by kernel_rfl) (by kernel_rfl) (by kernel_rfl) (fun _ _ _ h => h) (Or.inl ⟨by rfl, ?_⟩) (by assumption) ?_; rotate_left; (focus (intro w hSw; (try dsimp only at hSw); go_simp; (try with_reducible rfl))); (try simp only [Act.put, List.setIfInBounds_toArray, List.set_cons_zero, List.set_cons_succ, List.getElem_toArray, List.getElem_cons_zero, List.getElem_cons_succ]); refine wpAnyH_take (i := 32) (oi := _) (v := ?_) rfl (by kernel_rfl) (by kernel_rfl) (by kernel_rfl) (fun _ _ _ h => h) (Or.inl ⟨by rfl, ?_⟩) (by assumption) ?_; rotate_left; (focus (intro w hSw; (try dsimp only at hSw); go_simp; (try with_reducible rfl))); (try simp only [Act.put, List.setIfInBounds_toArray, List.set_cons_zero, List.set_cons_succ, List.getElem_toArray, List.getElem_cons_zero, List.getElem_cons_succ]); refine wpAnyH_take (i := 33) (oi := _) (v := ?_) rfl (by kernel_rfl) (by kernel_rfl) (by kernel_rfl) (fun _ _ _ h => h) (Or.inl ⟨by rfl, ?_⟩) (by assumption) ?_; rotate_left; (focus (intro w hSw; (try dsimp only at hSw); go_simp; (try with_reducible rfl))); (try simp only [Act.put, List.setIfInBounds_toArray, List.set_cons_zero, List.set_cons_succ, List.getElem_toArray, List.getElem_cons_zero, List.getElem_cons_succ]); refine wpAnyH_take (i := 34) (oi := _) (v := ?_) rfl (by kernel_rfl) (by kernel_rfl) (by kernel_rfl) (fun _ _ _ h => h) (Or.inl ⟨by rfl, ?_⟩) (by assumption) ?_; rotate_left; (focus (intro w hSw; (try dsimp only at hSw); go_simp; (try with_reducible rfl))); (try simp only [Act.put, List.setIfInBounds_toArray, List.set_cons_zero, List.set_cons_succ, List.getElem_toArray, List.getElem_cons_zero, List.getElem_cons_succ]); refine wpAnyH_take (i := 35) (oi := _) (v := ?_) rfl (by kernel_rfl) (by kernel_rfl) (by kernel_rfl) (fun _ _ _ h => h) (Or.inl ⟨by rfl, ?_⟩) (by assumption) ?_; rotate_left; (focus (intro w hSw; (try dsimp only at hSw); go_simp; (try with_reducible rfl))); (try simp only [Act.put, List.setIfInBounds_toArray, List.set_cons_zero, List.set_cons_succ, List.getElem_toArray, List.getElem_cons_zero, List.getElem_cons_succ]); refine wpAnyH_take (i := 36) (oi := _) (v := ?_) rfl (by kernel_rfl) (by kernel_rfl) (by kernel_rfl) (fun _ _ _ h => h) (Or.inl ⟨by rfl, ?_⟩) (by assumption) ?_; rotate_left; (focus (intro w hSw; (try dsimp only at hSw); go_simp; (try with_reducible rfl))); (try simp only [Act.put, List.setIfInBounds_toArray, List.set_cons_zero, List.set_cons_succ, List.getElem_toArray, List.getElem_cons_zero, List.getElem_cons_succ]); refine wpAnyH_take (i := 37) (oi := _) (v := ?_) rfl (by kernel_rfl) (by kernel_rfl) (by kernel_rfl) (fun _ _ _ h => h) (Or.inl ⟨by rfl, ?_⟩) (by assumption) ?_; rotate_left; (focus (intro w hSw; (try dsimp only at hSw); go_simp; (try with_reducible rfl))); (try simp only [Act.put, List.setIfInBounds_toArray, List.set_cons_zero, List.set_cons_succ, List.getElem_toArray, List.getElem_cons_zero, List.getElem_cons_succ]); refine wpAnyH_take (i := 38) (oi := _) (v := ?_) rfl (by kernel_rfl) (by kernel_rfl) (by kernel_rfl) (fun _ _ _ h => h) (Or.inl ⟨by rfl, ?_⟩) (by assumption) ?_; rotate_left; (focus (intro w hSw; (try dsimp only at hSw); go_simp; (try with_reducible rfl))); (try simp only [Act.put, List.setIfInBounds_toArray, List.set_cons_zero, List.set_cons_succ, List.getElem_toArray, List.getElem_cons_zero, List.getElem_cons_succ]); refine wpAnyH_take (i := 39) (oi := _) (v := ?_) rfl (by kernel_rfl) (by kernel_rfl) (by kernel_rfl) (fun _ _ _ h => h) (Or.inl ⟨by rfl, ?_⟩) (by assumption) ?_; rotate_left; (focus (intro w hSw; (try dsimp only at hSw); go_simp; (try with_reducible rfl))); (try simp only [Act.put, List.setIfInBounds_toArray, List.set_cons_zero, List.set_cons_succ, List.getElem_toArray, List.getElem_cons_zero, List.getElem_cons_succ]); refine wpAnyH_take (i := 40) (oi := _) (v := ?_) rfl (by kernel_rfl) (by kernel_rfl) (by kernel_rfl) (fun _ _ _ h => h) (Or.inl ⟨by rfl, ?_⟩) (by assumption) ?_; rotate_left; (focus (intro w hSw; (try dsimp only at hSw); go_simp; (try with_reducible rfl))); (try simp only [Act.put, List.setIfInBounds_toArray, List.set_cons_zero, List.set_cons_succ, List.getElem_toArray, List.getElem_cons_zero, List.getElem_cons_succ]); refine wpAnyH_take (i := 41) (oi := _) (v := ?_) rfl (by kernel_rfl) (by kernel_rfl) (by kernel_rfl) (fun _ _ _ h => h) (Or.inl ⟨by rfl, ?_⟩) (by assumption) ?_; rotate_left; (focus (intro w hSw; (try dsimp only at hSw); go_simp; (try with_reducible rfl))); (try simp only [Act.put, List.setIfInBounds_toArray, List.set_cons_zero, List.set_cons_succ, List.getElem_toArray, List.getElem_cons_zero, List.getElem_cons_succ]); refine wpAnyH_take (i := 42) (oi := _) (v := ?_) rfl (by kernel_rfl) (by kernel_rfl) (by kernel_rfl) (fun _ _ _ h => h) (Or.inl ⟨by rfl, ?_⟩) (by assumption) ?_; rotate_left; (focus (intro w hSw; (try dsimp only at hSw); go_simp; (try with_reducible rfl))); (try simp only [Act.put, List.setIfInBounds_toArray, List.set_cons_zero, List.set_cons_succ, List.getElem_toArray, List.getElem_cons_zero, List.getElem_cons_succ]); refine wpAnyH_take (i := 43) (oi := _) (v := ?_) rfl (by kernel_rfl) (by kernel_rfl) (by kernel_rfl) (fun _ _ _ h => h) (Or.inl ⟨by rfl, ?_⟩) (by assumption) ?_; rotate_left; (focus (intro w hSw; (try dsimp only at hSw); go_simp; (try with_reducible rfl))); (try simp only [Act.put, List.setIfInBounds_toArray, List.set_cons_zero, List.set_cons_succ, List.getElem_toArray, List.getElem_cons_zero, List.getElem_cons_succ]); refine wpAnyH_take (i := 44) (oi := _) (v := undef) rfl (by kernel_rfl) (by kernel_rfl) (by kernel_rfl) (fun _ _ _ h => h) (Or.inr ⟨by rfl, rfl⟩) (by assumption) ?_; (try simp only [Act.put, List.setIfInBounds_toArray, List.set_cons_zero, List.set_cons_succ, List.getElem_toArray, List.getElem_cons_zero, List.getElem_cons_succ]); refine wpAnyH_take (i := 45) (oi := _) (v := undef) rfl (by kernel_rfl) (by kernel_rfl) (by kernel_rfl) (fun _ _ _ h => h) (Or.inr ⟨by rfl, rfl⟩) (by assumption) ?_; (try simp only [Act.put, List.setIfInBounds_toArray, List.set_cons_zero, List.set_cons_succ, List.getElem_toArray, List.getElem_cons_zero, List.getElem_cons_succ]); refine wpAnyH_take (i := 46) (oi := _) (v := undef) rfl (by kernel_rfl) (by kernel_rfl) (by kernel_rfl) (fun _ _ _ h => h) (Or.inr ⟨by rfl, rfl⟩) (by assumption) ?_; (try simp only [Act.put, List.setIfInBounds_toArray, List.set_cons_zero, List.set_cons_succ, List.getElem_toArray, List.getElem_cons_zero, List.getElem_cons_succ]); refine wpAnyH_take (i := 47) (oi := _) (v := undef) rfl (by kernel_rfl) (by kernel_rfl) (by kernel_rfl) (fun _ _ _ h => h) (Or.inr ⟨by rfl, rfl⟩) (by assumption) ?_; (try simp only [Act.put, List.setIfInBounds_toArray, List.set_cons_zero, List.set_cons_succ, List.getElem_toArray, List.getElem_cons_zero, List.getElem_cons_succ]); refine wpAnyH_take (i := 48) (oi := _) (v := undef) rfl (by kernel_rfl) (by kernel_rfl) (by kernel_rfl) (fun _ _ _ h => h) (Or.inr ⟨by rfl, rfl⟩) (by assumption) ?_; (try simp only [Act.put, List.setIfInBounds_toArray, List.set_cons_zero, List.set_cons_succ, List.getElem_toArray, List.getElem_cons_zero, List.getElem_cons_succ]); refine wpAnyH_take (i := 49) (oi := _) (v := ?_) rfl (by kernel_rfl) (by kernel_rfl) (by kernel_rfl) (fun _ _ _ h => h) (Or.inl ⟨by rfl, ?_⟩) (by assumption) ?_; rotate_left; (focus (intro w hSw; (try dsimp only at hSw); go_simp; (try with_reducible rfl))); (try simp only [Act.put, List.setIfInBounds_toArray, List.set_cons_zero, List.set_cons_succ, List.getElem_toArray, List.getElem_cons_zero, List.getElem_cons_succ]); refine wpAnyH_take (i := 50) (oi := _) (v := ?_) rfl (by kernel_rfl) (by kernel_rfl) (by kernel_rfl) (fun _ _ _ h => h) (Or.inl ⟨by rfl, ?_⟩) (by assumption) ?_; rotate_left; (focus (intro w hSw; (try dsimp only at hSw); go_simp; (try with_reducible rfl))); (try simp only [Act.put, List.setIfInBounds_toArray, List.set_cons_zero, List.set_cons_succ, List.getElem_toArray, List.getElem_cons_zero, List.getElem_cons_succ]); refine wpAnyH_take (i := 51) (oi := _) (v := ?_) rfl (by kernel_rfl) (by kernel_rfl) (by kernel_rfl) (fun _ _ _ h => h) (Or.inl ⟨by rfl, ?_⟩) (by assumption) ?_; rotate_left; (focus (intro w hSw; (try dsimp only at hSw); go_simp; (try with_reducible rfl))); (try simp only [Act.put, List.setIfInBounds_toArray, List.set_cons_zero, List.set_cons_succ, List.getElem_toArray, List.getElem_cons_zero, List.getElem_cons_succ]); refine wpAnyH_done (by kernel_rfl) ?_ _)
            go_wp2_with fail
            exact ⟨⟨1, by omega, rfl, gVN.trans hHeld.1⟩, by simp [intOf]⟩
          · have mm : ((pb : Int) == (ph : Int)) = true := by simp [m2 rfl]
            have mm2 : pb = ph := m2 rfl
            clear m1 m2
            (refine wp_region_held_drew (S := fun Vx => Grow N Vx ∧ Vx.cell? ⟨T5, 0, none⟩ = some (.int .i64 t) ∧ Vx.cell? ⟨T5, 1, none⟩ = some (.int .i64 t) ∧ Vx.cell? ⟨T6, 0, none⟩ = some (.int .i64 pa) ∧ Vx.cell? ⟨T6, 1, none⟩ = some (.int .i64 pb) ∧ Vx.cell? ⟨Q, 0, none⟩ = some (.int .i64 pl) ∧ Vx.cell? ⟨Q, 1, none⟩ = some (.int .i64 ph)) (by kernel_rfl) (hS0) (fun hHeld => ?_); refine wpAnyH_take (i := 0) (oi := _) (v := ?_) rfl (by kernel_rfl) (by kernel_rfl) (by kernel_rfl) (fun _ _ _ h => h) (Or.inl ⟨by rfl, ?_⟩) (by assumption) ?_; rotate_left; (focus (intro w hSw; (try dsimp only at hSw); go_simp; (try with_reducible rfl))); (try simp only [Act.put, List.setIfInBounds_toArray, List.set_cons_zero, List.set_cons_succ, List.getElem_toArray, List.getElem_cons_zero]); refine wpAnyH_take (i := 1) (oi := _) (v := ?_) rfl (by kernel_rfl) (by kernel_rfl) (by kernel_rfl) (fun _ _ _ h => h) (Or.inl ⟨by rfl, ?_⟩) (by assumption) ?_; rotate_left; (focus (intro w hSw; (try dsimp only at hSw); go_simp; (try with_reducible rfl))); (try simp only [Act.put, List.setIfInBounds_toArray, List.set_cons_zero, List.set_cons_succ, List.getElem_toArray, List.getElem_cons_zero, List.getElem_cons_succ]); refine wpAnyH_take (i := 2) (oi := _) (v := ?_) rfl (by kernel_rfl) (by kernel_rfl) (by kernel_rfl) (fun _ _ _ h => h) (Or.inl ⟨by rfl, ?_⟩) (by assumption) ?_; rotate_left; (focus (intro w hSw; (try dsimp only at hSw); go_simp; (try with_reducible rfl))); (try simp only [Act.put, List.setIfInBounds_toArray, List.set_cons_zero, List.set_cons_succ, List.getElem_toArray, List.getElem_cons_zero, List.getElem_cons_succ]); refine wpAnyH_take (i := 3) (oi := _) (v := ?_) rfl (by kernel_rfl) (by kernel_rfl) (by kernel_rfl) (fun _ _ _ h => h) (Or.inl ⟨by rfl, ?_⟩) (by assumption) ?_; rotate_left; (focus (intro w hSw; (try dsimp only at hSw); go_simp; (try with_reducible rfl))); (try simp only [Act.put, List.setIfInBounds_toArray, List.set_cons_zero, List.set_cons_succ, List.getElem_toArray, List.getElem_cons_zero, List.getElem_cons_succ]); refine wpAnyH_take (i := 4) (oi := _) (v := ?_) rfl (by kernel_rfl) (by kernel_rfl) (by kernel_rfl) (fun _ _ _ h => h) (Or.inl ⟨by rfl, ?_⟩) (by assumption) ?_; rotate_left; (focus (intro w hSw; (try dsimp only at hSw); go_simp; (try with_reducible rfl))); (try simp only [Act.put, List.setIfInBounds_toArray, List.set_cons_zero, List.set_cons_succ, List.getElem_toArray, List.getElem_cons_zero, List.getElem_cons_succ]); refine wpAnyH_take (i := 5) (oi := _) (v := ?_) rfl (by kernel_rfl) (by kernel_rfl) (by kernel_rfl) (fun _ _ _ h => h) (Or.inl ⟨by rfl, ?_⟩) (by assumption) ?_; rotate_left; (focus (intro w hSw; (try dsimp only at hSw); go_simp; (try with_reducible rfl))); (try simp only [Act.put, List.setIfInBounds_toArray, List.set_cons_zero, List.set_cons_succ, List.getElem_toArray, List.getElem_cons_zero, List.getElem_cons_succ]); refine wpAnyH_take (i := 6) (oi := _) (v := ?_) rfl (by kernel_rfl) (by kernel_rfl) (by kernel_rfl) (fun _ _ _ h => h) (Or.inl ⟨by rfl, ?_⟩) (by assumption) ?_; rotate_left; (focus (intro w hSw; (try dsimp only at hSw); go_simp; (try with_reducible rfl))); (try simp only [Act.put, List.setIfInBounds_toArray, List.set_cons_zero, List.set_cons_succ, List.getElem_toArray, List.getElem_cons_zero, List.getElem_cons_succ]); refine wpAnyH_take (i := 7) (oi := _) (v := ?_) rfl (by kernel_rfl) (by kernel_rfl) (by kernel_rfl) (fun _ _ _ h => h) (Or.inl ⟨by rfl, ?_⟩) (by assumption) ?_; rotate_left; (focus (intro w hSw; (try dsimp only at hSw); go_simp; (try with_reducible rfl))); (try simp only [Act.put, List.setIfInBounds_toArray, List.set_cons_zero, List.set_cons_succ, List.getElem_toArray, List.getElem_cons_zero, List.getElem_cons_succ]); refine wpAnyH_ready (rs := [8]) (by kernel_rfl) (by simp) ?_; refine AllReadyH.cons (o := _) rfl (fun K hK => ?_) AllReadyH.nil; (try simp only [List.getElem_toArray, List.getElem_cons_zero, List.getElem_cons_succ]); (try go_simp); ((go_at_call 10; refine (lspan_any _ _ _).mono ?_; rintro e w' ⟨rfl, hg'⟩)); (try (go_wp2_with fail)); refine hK.out _ _ ?_ (fun hHeld => ?_); (focus (exact hgS _ _ hHeld hg')); clear hK K; (try simp only [Act.put, List.setIfInBounds_toArray, List.set_cons_zero, List.set_cons_succ, List.getElem_toArray, List.getElem_cons_zero, List.getElem_cons_succ]); refine wpAnyH_take (i := 9) (oi := _) (v := ?_) rfl (by kernel_rfl) (by kernel_rfl) (by kernel_rfl) (fun _ _ _ h => h) (Or.inl ⟨by rfl, ?_⟩) (by assumption) ?_; rotate_left; (focus (intro w hSw; (try dsimp only at hSw); go_simp; (try with_reducible rfl))); (try simp only [Act.put, List.setIfInBounds_toArray, List.set_cons_zero, List.set_cons_succ, List.getElem_toArray, List.getElem_cons_zero, List.getElem_cons_succ]); refine wpAnyH_take (i := 10) (oi := _) (v := ?_) rfl (by kernel_rfl) (by kernel_rfl) (by kernel_rfl) (fun _ _ _ h => h) (Or.inl ⟨by rfl, ?_⟩) (by assumption) ?_; rotate_left; (focus (intro w hSw; (try dsimp only at hSw); go_simp; (try with_reducible rfl))); (try simp only [Act.put, List.setIfInBounds_toArray, List.set_cons_zero, List.set_cons_succ, List.getElem_toArray, List.getElem_cons_zero, List.getElem_cons_succ]); refine wpAnyH_take (i := 11) (oi := _) (v := ?_) rfl (by kernel_rfl) (by kernel_rfl) (by kernel_rfl) (fun _ _ _ h => h) (Or.inl ⟨by rfl, ?_⟩) (by assumption) ?_; rotate_left; (focus (intro w hSw; (try dsimp only at hSw); go_simp; (try with_reducible rfl))); (try simp only [Act.put, List.setIfInBounds_toArray, List.set_cons_zero, List.set_cons_succ, List.getElem_toArray, List.getElem_cons_zero, List.getElem_cons_succ]); refine wpAnyH_take (i := 12) (oi := _) (v := ?_) rfl (by kernel_rfl) (by kernel_rfl) (by kernel_rfl) (fun _ _ _ h => h) (Or.inl ⟨by rfl, ?_⟩) (by assumption) ?_; rotate_left; (focus (intro w hSw; (try dsimp only at hSw); go_simp; (try with_reducible rfl))); (try simp only [Act.put, List.setIfInBounds_toArray, List.set_cons_zero, List.set_cons_succ, List.getElem_toArray, List.getElem_cons_zero, List.getElem_cons_succ]); refine wpAnyH_take (i := 13) (oi := _) (v := ?_) rfl (by kernel_rfl) (by kernel_rfl) (by kernel_rfl) (fun _ _ _ h => h) (Or.inl ⟨by rfl, ?_⟩) (by assumption) ?_; rotate_left; (focus (intro w hSw; (try dsimp only at hSw); go_simp; (try with_reducible rfl))); (try simp only [Act.put, List.setIfInBounds_toArray, List.set_cons_zero, List.set_cons_succ, List.getElem_toArray, List.getElem_cons_zero, List.getElem_cons_succ]); refine wpAnyH_take (i := 14) (oi := _) (v := ?_) rfl (by kernel_rfl) (by kernel_rfl) (by kernel_rfl) (fun _ _ _ h => h) (Or.inl ⟨by rfl, ?_⟩) (by assumption) ?_; rotate_left; (focus (intro w hSw; (try dsimp only at hSw); go_simp; (try with_reducible rfl))); (try simp only [Act.put, List.setIfInBounds_toArray, List.set_cons_zero, List.set_cons_succ, List.getElem_toArray, List.getElem_cons_zero, List.getElem_cons_succ]); refine wpAnyH_take (i := 15) (oi := _) (v := ?_) rfl (by kernel_rfl) (by kernel_rfl) (by kernel_rfl) (fun _ _ _ h => h) (Or.inl ⟨by rfl, ?_⟩) (by assumption) ?_; rotate_left; (focus (intro w hSw; (try dsimp only at hSw); go_simp; (try with_reducible rfl))); (try simp only [Act.put, List.setIfInBounds_toArray, List.set_cons_zero, List.set_cons_succ, List.getElem_toArray, List.getElem_cons_zero, List.getElem_cons_succ]); refine wpAnyH_take (i := 16) (oi := _) (v := ?_) rfl (by kernel_rfl) (by kernel_rfl) (by kernel_rfl) (fun _ _ _ h => h) (Or.inl ⟨by rfl, ?_⟩) (by assumption) ?_; rotate_left; (focus (intro w hSw; (try dsimp only at hSw); go_simp; (try with_reducible rfl))); (try simp only [Act.put, List.setIfInBounds_toArray, List.set_cons_zero, List.set_cons_succ, List.getElem_toArray, List.getElem_cons_zero, List.getElem_cons_succ]); refine wpAnyH_take (i := 17) (oi := _) (v := ?_) rfl (by kernel_rfl) (by kernel_rfl) (by kernel_rfl) (fun _ _ _ h => h) (Or.inl ⟨by rfl, ?_⟩) (by assumption) ?_; rotate_left; (focus (intro w hSw; (try dsimp only at hSw); go_simp; (try with_reducible rfl))); (try simp only [Act.put, List.setIfInBounds_toArray, List.set_cons_zero, List.set_cons_succ, List.getElem_toArray, List.getElem_cons_zero, List.getElem_cons_succ]); refine wpAnyH_take (i := 18) (oi := _) (v := ?_) rfl (by kernel_rfl) (by kernel_rfl) (by kernel_rfl) (fun _ _ _ h => h) (Or.inl ⟨by rfl, ?_⟩) (by assumption) ?_; rotate_left; (focus (intro w hSw; (try dsimp only at hSw); go_simp; (try with_reducible rfl))); (try simp only [Act.put, List.setIfInBounds_toArray, List.set_cons_zero, List.set_cons_succ, List.getElem_toArray, List.getElem_cons_zero, List.getElem_cons_succ]); refine wpAnyH_take (i := 19) (oi := _) (v := ?_) rfl (by kernel_rfl) (by kernel_rfl) (by kernel_rfl) (fun _ _ _ h => h) (Or.inl ⟨by rfl, ?_⟩) (by assumption) ?_; rotate_left; (focus (intro w hSw; (try dsimp only at hSw); go_simp; (try with_reducible rfl))); (try simp only [Act.put, List.setIfInBounds_toArray, List.set_cons_zero, List.set_cons_succ, List.getElem_toArray, List.getElem_cons_zero, List.getElem_cons_succ]); refine wpAnyH_take (i := 20) (oi := _) (v := ?_) rfl (by kernel_rfl) (by kernel_rfl) (by kernel_rfl) (fun _ _ _ h => h) (Or.inl ⟨by rfl, ?_⟩) (by assumption) ?_; rotate_left; (focus (intro w hSw; (try dsimp only at hSw); go_simp; (try with_reducible rfl))); (try simp only [Act.put, List.setIfInBounds_toArray, List.set_cons_zero, List.set_cons_succ, List.getElem_toArray, List.getElem_cons_zero, List.getElem_cons_succ]); refine wpAnyH_take (i := 21) (oi := _) (v := ?_) rfl (by kernel_rfl) (by kernel_rfl) (by kernel_rfl) (fun _ _ _ h => h) (Or.inl ⟨by rfl, ?_⟩) (by assumption) ?_; rotate_left; (focus (intro w hSw; (try dsimp only at hSw); go_simp; (try with_reducible rfl))); (try simp only [Act.put, List.setIfInBounds_toArray, List.set_cons_zero, List.set_cons_succ, List.getElem_toArray, List.getElem_cons_zero, List.getElem_cons_succ]); refine wpAnyH_take (i := 22) (oi := _) (v := ?_) rfl (by kernel_rfl) (by kernel_rfl) (by kernel_rfl) (fun _ _ _ h => h) (Or.inl ⟨by rfl, ?_⟩) (by assumption) ?_; rotate_left; (focus (intro w hSw; (try dsimp only at hSw); go_simp; (try with_reducible rfl))); (try simp only [Act.put, List.setIfInBounds_toArray, List.set_cons_zero, List.set_cons_succ, List.getElem_toArray, List.getElem_cons_zero, List.getElem_cons_succ]); refine wpAnyH_take (i := 23) (oi := _) (v := ?_) rfl (by kernel_rfl) (by kernel_rfl) (by kernel_rfl) (fun _ _ _ h => h) (Or.inl ⟨by rfl, ?_⟩) (by assumption) ?_; rotate_left; (focus (intro w hSw; (try dsimp only at hSw); go_simp; (try with_reducible rfl))); (try simp only [Act.put, List.setIfInBounds_toArray, List.set_cons_zero, List.set_cons_succ, List.getElem_toArray, List.getElem_cons_zero, List.getElem_cons_succ]); refine wpAnyH_take (i := 24) (oi := _) (v := ?_) rfl (by kernel_rfl) (by kernel_rfl) (by kernel_rfl) (fun _ _ _ h => h) (Or.inl ⟨by rfl, ?_⟩) (by assumption) ?_; rotate_left; (focus (intro w hSw; (try dsimp only at hSw); go_simp; (try with_reducible rfl))); (try simp only [Act.put, List.setIfInBounds_toArray, List.set_cons_zero, List.set_cons_succ, List.getElem_toArray, List.getElem_cons_zero, List.getElem_cons_succ]); refine wpAnyH_take (i := 25) (oi := _) (v := ?_) rfl (by kernel_rfl) (by kernel_rfl) (by kernel_rfl) (fun _ _ _ h => h) (Or.inl ⟨by rfl, ?_⟩) (by assumption) ?_; rotate_left; (focus (intro w hSw; (try dsimp only at hSw); go_simp; (try with_reducible rfl))); (try simp only [Act.put, List.setIfInBounds_toArray, List.set_cons_zero, List.set_cons_succ, List.getElem_toArray, List.getElem_cons_zero, List.getElem_cons_succ]); refine wpAnyH_take (i := 26) (oi := _) (v := ?_) rfl (by kernel_rfl) (by kernel_rfl) (by kernel_rfl) (fun _ _ _ h => h) (Or.inl ⟨by rfl, ?_⟩) (by assumption) ?_; rotate_left; (focus (intro w hSw; (try dsimp only at hSw); go_simp; (try with_reducible rfl))); (try simp only [Act.put, List.setIfInBounds_toArray, List.set_cons_zero, List.set_cons_succ, List.getElem_toArray, List.getElem_cons_zero, List.getElem_cons_succ]); refine wpAnyH_take (i := 27) (oi := _) (v := ?_) rfl (by kernel_rfl) (by kernel_rfl) (by kernel_rfl) (fun _ _ _ h => h) (Or.inl ⟨by rfl, ?_⟩) (by assumption) ?_; rotate_left; (focus (intro w hSw; (try dsimp only at hSw); go_simp; (try with_reducible rfl))); (try simp only [Act.put, List.setIfInBounds_toArray, List.set_cons_zero, List.set_cons_succ, List.getElem_toArray, List.getElem_cons_zero, List.getElem_cons_succ]); refine wpAnyH_take (i := 28) (oi := _) (v := ?_) rfl (by kernel_rfl) (by kernel_rfl) (by kernel_rfl) (fun _ _ _ h => h) (Or.inl ⟨by rfl, ?_⟩) (by assumption) ?_; rotate_left; (focus (intro w hSw; (try dsimp only at hSw); go_simp; (try with_reducible rfl))); (try simp only [Act.put, List.setIfInBounds_toArray, List.set_cons_zero, List.set_cons_succ, List.getElem_toArray, List.getElem_cons_zero, List.getElem_cons_succ]); refine wpAnyH_take (i := 29) (oi := _) (v := ?_) rfl (by kernel_rfl) (by kernel_rfl) (by kernel_rfl) (fun _ _ _ h => h) (Or.inl ⟨by rfl, ?_⟩) (by assumption) ?_; rotate_left; (focus (intro w hSw; (try dsimp only at hSw); go_simp; (try with_reducible rfl))); (try simp only [Act.put, List.setIfInBounds_toArray, List.set_cons_zero, List.set_cons_succ, List.getElem_toArray, List.getElem_cons_zero, List.getElem_cons_succ]); refine wpAnyH_take (i := 30) (oi := _) (v := ?_) rfl (by kernel_rfl) (by kernel_rfl) (by kernel_rfl) (fun _ _ _ h => h) (Or.inl ⟨by rfl, ?_⟩) (by assumption) ?_; rotate_left; (focus (intro w hSw; (try dsimp only at hSw); go_simp; (try with_reducible rfl))); (try simp only [Act.put, List.setIfInBounds_toArray, List.set_cons_zero, List.set_cons_succ, List.getElem_toArray, List.getElem_cons_zero, List.getElem_cons_succ]); refine wpAnyH_take (i := 31) (oi := _) (v := ?_) rfl (by kernel_rfl) (by kernel_rfl) (by kernel_rfl) (fun _ _ _ h => h) (Or.inl ⟨by rfl, ?_⟩) (by assumption) ?_; rotate_left; (focus (intro w hSw; (try dsimp only at hSw); go_simp; (try with_reducible rfl))); (try simp only [Act.put, List.setIfInBounds_toArray, List.set_cons_zero, List.set_cons_succ, List.getElem_toArray, List.getElem_cons_zero, List.getElem_cons_succ]); refine wpAnyH_take (i := 32) (oi := _) (v := ?_) rfl (by kernel_rfl) (by kernel_rfl) (by kernel_rfl) (fun _ _ _ h => h) (Or.inl ⟨by rfl, ?_⟩) (by assumption) ?_; rotate_left; (focus (intro w hSw; (try dsimp only at hSw); go_simp; (try with_reducible rfl))); (try simp only [Act.put, List.setIfInBounds_toArray, List.set_cons_zero, List.set_cons_succ, List.getElem_toArray, List.getElem_cons_zero, List.getElem_cons_succ]); refine wpAnyH_take (i := 33) (oi := _) (v := undef) rfl (by kernel_rfl) (by kernel_rfl) (by kernel_rfl) (fun _ _ _ h => h) (Or.inr ⟨by rfl, rfl⟩) (by assumption) ?_; (try simp only [Act.put, List.setIfInBounds_toArray, List.set_cons_zero, List.set_cons_succ, List.getElem_toArray, List.getElem_cons_zero, List.getElem_cons_succ]); refine wpAnyH_take (i := 34) (oi := _) (v := undef) rfl (by kernel_rfl) (by kernel_rfl) (by kernel_rfl) (fun _ _ _ h => h) (Or.inr ⟨by rfl, rfl⟩) (by assumption) ?_; (try simp only [Act.put, List.setIfInBounds_toArray, List.set_cons_zero, List.set_cons_succ, List.getElem_toArray, List.getElem_cons_zero, List.getElem_cons_succ]); refine wpAnyH_take (i := 35) (oi := _) (v := undef) rfl (by kernel_rfl) (by kernel_rfl) (by kernel_rfl) (fun _ _ _ h => h) (Or.inr ⟨by rfl, rfl⟩) (by assumption) ?_; (try simp only [Act.put, List.setIfInBounds_toArray, List.set_cons_zero, List.set_cons_succ, List.getElem_toArray, List.getElem_cons_zero, List.getElem_cons_succ]); refine wpAnyH_take (i := 36) (oi := _) (v := undef) rfl (by kernel_rfl) (by kernel_rfl) (by kernel_rfl) (fun _ _ _ h => h) (Or.inr ⟨by rfl, rfl⟩) (by assumption) ?_; (try simp only [Act.put, List.setIfInBounds_toArray, List.set_cons_zero, List.set_cons_succ, List.getElem_toArray, List.getElem_cons_zero, List.getElem_cons_succ]); refine wpAnyH_take (i := 37) (oi := _) (v := undef) rfl (by kernel_rfl) (by kernel_rfl) (by kernel_rfl) (fun _ _ _ h => h) (Or.inr ⟨by rfl, rfl⟩) (by assumption) ?_; (try simp only [Act.put, List.setIfInBounds_toArray, List.set_cons_zero, List.set_cons_succ, List.getElem_toArray, List.getElem_cons_zero, List.getElem_cons_succ]); refine wpAnyH_take (i := 38) (oi := _) (v := ?_) rfl (by kernel_rfl) (by kernel_rfl) (by kernel_rfl) (fun _ _ _ h => h) (Or.inl ⟨by rfl, ?_⟩) (by assumption) ?_; rotate_left; (focus (intro w hSw; (try dsimp only at hSw); go_simp; (try with_reducible rfl))); (try simp only [Act.put, List.setIfInBounds_toArray, List.set_cons_zero, List.set_cons_succ, List.getElem_toArray, List.getElem_cons_zero, List.getElem_cons_succ]); refine wpAnyH_take (i := 39) (oi := _) (v := ?_) rfl (by kernel_rfl) (by kernel_rfl) (by kernel_rfl) (fun _ _ _ h => h) (Or.inl ⟨by rfl, ?_⟩) (by assumption) ?_; rotate_left; (focus (intro w hSw; (try dsimp only at hSw); go_simp; (try with_reducible rfl))); (try simp only [Act.put, List.setIfInBounds_toArray, List.set_cons_zero, List.set_cons_succ, List.getElem_toArray, List.getElem_cons_zero, List.getElem_cons_succ]); refine wpAnyH_take (i := 40) (oi := _) (v := ?_) rfl (by kernel_rfl) (by kernel_rfl) (by kernel_rfl) (fun _ _ _ h => h) (Or.inl ⟨by rfl, ?_⟩) (by assumption) ?_; rotate_left; (focus (intro w hSw; (try dsimp only at hSw); go_simp; (try with_reducible rfl))); (try simp only [Act.put, List.setIfInBounds_toArray, List.set_cons_zero, List.set_cons_succ, List.getElem_toArray, List.getElem_cons_zero, List.getElem_cons_succ]); refine wpAnyH_take (i := 41) (oi := _) (v := ?_) rfl (by kernel_rfl) (by kernel_rfl) (by kernel_rfl) (fun _ _ _ h => h) (Or.inl ⟨by rfl, ?_⟩) (by assumption) ?_; rotate_left; (focus (intro w hSw; (try dsimp only at hSw); go_simp; (try with_reducible rfl))); (try simp only [Act.put, List.setIfInBounds_toArray, List.set_cons_zero, List.set_cons_succ, List.getElem_toArray, List.getElem_cons_zero, List.getElem_cons_succ]); refine wpAnyH_take (i := 42) (oi := _) (v := ?_) rfl (by kernel_rfl) (by kernel_rfl) (by kernel_rfl) (fun _ _ _ h => h) (Or.inl ⟨by rfl, ?_⟩) (by assumption) ?_; rotate_left; (focus (intro w hSw; (try dsimp only at hSw); go_simp; (try with_reducible rfl))); (try simp only [Act.put, List.setIfInBounds_toArray, List.set_cons_zero, List.set_cons_succ, List.getElem_toArray, List.getElem_cons_zero, List.getElem_cons_succ]); refine wpAnyH_take (i := 43) (oi := _) (v := ?_) rfl (by kernel_rfl) (by kernel_rfl) (by kernel_rfl) (fun _ _ _ h => h) (Or.inl ⟨by rfl, ?_⟩) (by assumption) ?_; rotate_left; (focus (intro w hSw; (try dsimp only at hSw); go_simp; (try with_reducible rfl))); (try simp only [Act.put, List.setIfInBounds_toArray, List.set_cons_zero, List.set_cons_succ, List.getElem_toArray, List.getElem_cons_zero, List.getElem_cons_succ]); refine wpAnyH_take (i := 44) (oi := _) (v := ?_) rfl (by kernel_rfl) (by kernel_rfl) (by kernel_rfl) (fun _ _ _ h => h) (Or.inl ⟨by rfl, ?_⟩) (by assumption) ?_; rotate_left; (focus (intro w hSw; (try dsimp only at hSw); go_simp; (try with_reducible rfl))); (try simp only [Act.put, List.setIfInBounds_toArray, List.set_cons_zero, List.set_cons_succ, List.getElem_toArray, List.getElem_cons_zero, List.getElem_cons_succ]); refine wpAnyH_take (i := 45) (oi := _) (v := ?_) rfl (by kernel_rfl) (by kernel_rfl) (by kernel_rfl) (fun _ _ _ h => h) (Or.inl ⟨by rfl, ?_⟩) (by assumption) ?_; rotate_left; (focus (intro w hSw; (try dsimp only at hSw); go_simp; (try with_reducible rfl))); (try simp only [Act.put, List.setIfInBounds_toArray, List.set_cons_zero, List.set_cons_succ, List.getElem_toArray, List.getElem_cons_zero, List.getElem_cons_succ]); refine wpAnyH_take (i := 46) (oi := _) (v := ?_) rfl (by kernel_rfl) (by kernel_rfl) (by kernel_rfl) (fun _ _ _ h => h) (Or.inl ⟨by rfl, ?_⟩) (by assumption) ?_; rotate_left; (focus (intro w hSw; (try dsimp only at hSw); go_simp; (try with_reducible rfl))); (try simp only [Act.put, List.setIfInBounds_toArray, List.set_cons_zero, List.set_cons_succ, List.getElem_toArray, List.getElem_cons_zero, List.getElem_cons_succ]); refine wpAnyH_take (i := 47) (oi := _) (v := ?_) rfl (by kernel_rfl) (by kernel_rfl) (by kernel_rfl) (fun _ _ _ h => h) (Or.inl ⟨by rfl, ?_⟩) (by assumption) ?_; rotate_left; (focus (intro w hSw; (try dsimp only at hSw); go_simp; (try with_reducible rfl))); (try simp only [Act.put, List.setIfInBounds_toArray, List.set_cons_zero, List.set_cons_succ, List.getElem_toArray, List.getElem_cons_zero, List.getElem_cons_succ]); refine wpAnyH_take (i := 48) (oi := _) (v := ?_) rfl (by kernel_rfl) (by kernel_rfl) (by kernel_rfl) (fun _ _ _ h => h) (Or.inl ⟨by rfl, ?_⟩) (by assumption) ?_; rotate_left; (focus (intro w hSw; (try dsimp only at hSw); go_simp; (try with_reducible rfl))); (try simp only [Act.put, List.setIfInBounds_toArray, List.set_cons_zero, List.set_cons_succ, List.getElem_toArray, List.getElem_cons_zero, List.getElem_cons_succ]); refine wpAnyH_take (i := 49) (oi := _) (v := ?_) rfl (by kernel_rfl) (by kernel_rfl) (by kernel_rfl) (fun _ _ _ h => h) (Or.inl ⟨by rfl, ?_⟩) (by assumption) ?_; rotate_left; (focus (intro w hSw; (try dsimp only at hSw); go_simp; (try with_reducible rfl))); (try simp only [Act.put, List.setIfInBounds_toArray, List.set_cons_zero, List.set_cons_succ, List.getElem_toArray, List.getElem_cons_zero, List.getElem_cons_succ]); refine wpAnyH_take (i := 50) (oi := _) (v := ?_) rfl (by kernel_rfl) (by kernel_rfl) (by kernel_rfl) (fun _ _ _ h => h) (Or.inl ⟨by rfl, ?_⟩) (by assumption) ?_; rotate_left; (focus (intro w hSw; (try dsimp only at hSw); go_simp; (try with_reducible rfl))); (try simp only [Act.put, List.setIfInBounds_toArray, List.set_cons_zero, List.set_cons_succ, List.getElem_toArray, List.getElem_cons_zero, List.getElem_cons_succ]); refine wpAnyH_take (i := 51) (oi := _) (v := ?_) rfl (by kernel_rfl) (by kernel_rfl) (by kernel_rfl) (fun _ _ _ h => h) (Or.inl ⟨by rfl, ?_⟩) (by assumption) ?_; rotate_left; (focus (intro w hSw; (try dsimp only at hSw); go_simp; (try with_reducible rfl))); (try simp only [Act.put, List.setIfInBounds_toArray, List.set_cons_zero, List.set_cons_succ, List.getElem_toArray, List.getElem_cons_zero, List.getElem_cons_succ]); refine wpAnyH_done (by kernel_rfl) ?_ _)
            go_wp2_with fail
            exact ⟨⟨2, by omega, rfl, gVN.trans hHeld.1⟩, by simp [intOf]⟩
        · obtain rfl : k = 2 := by omega
          obtain ⟨vs, hvl, hvr, hvi⟩ := Hrow.out.vals
          have hone : ∀ x ∈ vs, x.oneCell' = true := by
            intro x hx
            obtain ⟨i, hi, rfl⟩ := List.getElem_of_mem hx
            obtain ⟨a2, c2, h2⟩ := ints_slice (hvi i vs[i] (ss[i]'(by omega)) (by simp [hi]) (by simp; try omega))
            rw [h2]; rfl
          obtain ⟨b, o, l, ta, tc, hlx, rfl, hc, hsc, hs8, hls⟩ := Hrow.out.get hp
          have hc' := (GV.trans hg).keeps hc
          have hlb := lt_of_cell hc'
          have u0 := hg.keeps v0
          have u1 := hg.keeps v1
          have u2 := hg.keeps v2
          have w0 := hg.keeps s0
          have w1' := hg.keeps s1
          have hlu := lt_of_cell u0
          have hlw := lt_of_cell w0
          have GR := GV.trans hg
          have Hvr := Lib.hid hvr
          have Hvi := Lib.hid hvi
          have Hone := Lib.hid hone
          have Hlx := Lib.hid hlx
          have Hls := Lib.hid (hls.grow GR)
          have hln := Hll.out l (List.mem_of_getElem? hlx)
          have hlm := Hm.out l (List.mem_of_getElem? hlx)
          have Hln := Lib.hid hln
          have Hlm := Lib.hid hlm
          have hl3 : l.length ≤ 3 := hln.1.2
          obtain ⟨R, hR⟩ : ∃ z, z = wr := ⟨_, rfl⟩
          subst hR
          clear hvr hvi hone hlx hls hln hlm hc v0 v1 v2 s0 s1 p0 p1 n0 n1 GV hg
          obtain ⟨i0, hi0, hi1, hi2, hi3⟩ := info_parts pinfo_ints7
          have hu : Try.prog.underlying 30 = some (.slice 40) := by kernel_rfl
          go_upto_region 36 with fail
          have m0 : (R.alloc (.cells #[.int .i64 E, .int .i64 F, .slice (some ⟨b, o, none⟩) ss.length cap] 32)).cell? ⟨R.heap.size, 0, none⟩ = some (.int .i64 E) := cell_new rfl rfl
          have m1 : (R.alloc (.cells #[.int .i64 E, .int .i64 F, .slice (some ⟨b, o, none⟩) ss.length cap] 32)).cell? ⟨R.heap.size, 1, none⟩ = some (.int .i64 F) := cell_new rfl rfl
          have m2 : (R.alloc (.cells #[.int .i64 E, .int .i64 F, .slice (some ⟨b, o, none⟩) ss.length cap] 32)).cell? ⟨R.heap.size, 2, none⟩ = some (.slice (some ⟨b, o, none⟩) ss.length cap) := cell_new rfl rfl
          have mf : ∀ q, (R.alloc (.cells #[.int .i64 E, .int .i64 F, .slice (some ⟨b, o, none⟩) ss.length cap] 32)).frozen? ⟨R.heap.size, q, none⟩ = false := fun q => hot_new rfl
          have gM : Grow R (R.alloc (.cells #[.int .i64 E, .int .i64 F, .slice (some ⟨b, o, none⟩) ss.length cap] 32)) := (Grow.refl R).alloc _
          obtain ⟨M, hM⟩ : ∃ z, R.alloc (.cells #[.int .i64 E, .int .i64 F, .slice (some ⟨b, o, none⟩) ss.length cap] 32) = z := ⟨_, rfl⟩
          obtain ⟨T6, hT6⟩ : ∃ z, R.heap.size = z := ⟨_, rfl⟩
          rw [hM] at m0 m1 m2 mf gM
          rw [hT6] at m0 m1 m2 mf
          rw [hM, hT6]
          have HT6 := Lib.hid hT6
          clear hM hT6
          have hlT := lt_of_cell m0
          have nB1 : B ≠ T6 := by have := HT6.out; omega
          have nB2 : T6 ≠ B := fun e => nB1 e.symm
          have nb1 : b ≠ T6 := by have := HT6.out; omega
          have nb2 : T6 ≠ b := fun e => nb1 e.symm
          have nS1 : S ≠ T6 := by have := HT6.out; omega
          have nS2 : T6 ≠ S := fun e => nS1 e.symm
          have k2 := gM.keeps u2
          have hlk := lt_of_cell k2
          have kc := gM.keeps hc'
          have hlkc := lt_of_cell kc
          have gA : Grow M (M.alloc (.cells #[] 40)) := (Grow.refl M).alloc _
          have nW : ∀ k : Nat, k < M.heap.size → (Value.slice (some ⟨M.heap.size, 0, none⟩) 0 0).ownBlock ≠ some k := fun k hk e => by
            have e' : some M.heap.size = some k := e
            injection e' with e''
            omega
          go_upto_region 38 with (at_builtin; go_loud (refine wpl_app rfl (.tmp 252) (.tmp 254) 30 rfl M.heap.size 40 i0 _ 24 hu hi0 hi1 hi2 hi3 rfl (.slice (some ⟨M.heap.size, 0, none⟩) 0 0) [] (by rfl) (Own.new0 (Nat.le_refl _) rfl) (some ⟨b, o, none⟩) cap vs ss.length (by rfl) hvl (fun h => nomatch h) (Hvr.out.grow ((GR.trans gM).alloc _)) Hone.out (by simp; omega) (by decide) (by simp) ?_; intro v' x1 ho1 hg1 hm1; rw [List.nil_append] at ho1; obtain ⟨g, cp, rfl, hcp⟩ := ho1.some (n := ss.length) hvl (by omega); have HO1 := Lib.hid ho1; have q0 := byCell1 hg1 (gA.keeps m0) (nW _ hlT); have q1 := byCell1 hg1 (gA.keeps m1) (nW _ hlT); have q2 := byCell1 hg1 (gA.keeps m2) (nW _ hlT); have qf : ∀ o, x1.frozen? ⟨T6, o, none⟩ = false := (fun o => (byHot hg1 (Nat.lt_of_lt_of_le hlT gA.size) (nW _ hlT) o).trans ((gA.marks _ _ hlT).trans (mf o))); have hgg : M.heap.size ≤ g := ho1.base g rfl; have hgl : g < x1.heap.size := (ho1.lt g rfl).2; have gX1 : Grow R x1 := (show Grow R x1 from Below.trans (gM.trans gA) (grownBy_below hg1 (fun k hk => by have e' : some M.heap.size = some k := hk; injection e' with e''; have := gM.size; omega) (Nat.le_trans gM.size gA.size))); have j2 := gX1.keeps u2; have jc := gX1.keeps hc'; have hlj := lt_of_cell j2; have hljc := lt_of_cell jc; have hlq := lt_of_cell q0; clear ho1 hg1 hm1))
          have nT : ∀ k : Nat, k ≠ T6 → (some T6 : Option Nat) ≠ some k := fun k hk e => by injection e with e; exact hk e.symm
          have gX : Grow R (x1.setCell ⟨T6, 2, none⟩ (.slice (some ⟨g, 0, none⟩) ss.length cp)) := Below.setCell (p := ⟨T6, 2, none⟩) gX1 (Nat.le_of_eq HT6.out) _
          have z0 : (x1.setCell ⟨T6, 2, none⟩ (.slice (some ⟨g, 0, none⟩) ss.length cp)).cell? ⟨T6, 0, none⟩ = some (.int .i64 E) := (World.cell?_setCell_other _ _ _ _ (by simp)).trans q0
          have z1 : (x1.setCell ⟨T6, 2, none⟩ (.slice (some ⟨g, 0, none⟩) ss.length cp)).cell? ⟨T6, 1, none⟩ = some (.int .i64 F) := (World.cell?_setCell_other _ _ _ _ (by simp)).trans q1
          have z2 : (x1.setCell ⟨T6, 2, none⟩ (.slice (some ⟨g, 0, none⟩) ss.length cp)).cell? ⟨T6, 2, none⟩ = some (.slice (some ⟨g, 0, none⟩) ss.length cp) := World.cell?_setCell_same' _ _ _ (by rw [q2]; rfl)
          have hgT : g ≠ T6 := by omega
          have HO2 := Lib.hid (HO1.out.kept (bySet x1 T6 2 (.slice (some ⟨g, 0, none⟩) ss.length cp)) (.inr (fun e => by
            have e' : some g = some T6 := e
            injection e' with e''
            exact hgT e'')))
          have hsz : (x1.setCell ⟨T6, 2, none⟩ (.slice (some ⟨g, 0, none⟩) ss.length cp)).heap.size = x1.heap.size := by simp
          obtain ⟨X, hX⟩ : ∃ z, x1.setCell ⟨T6, 2, none⟩ (.slice (some ⟨g, 0, none⟩) ss.length cp) = z := ⟨_, rfl⟩
          rw [hX] at gX z0 z1 z2 HO2 hsz
          rw [hX]
          clear hX q0 q1 q2 qf HO1 hsz j2 jc hlj hljc hlq gX1 hgl k2 kc hlk hlkc nW gA m0 m1 m2 mf
          by_cases hll3 : l.length < 3
          case neg =>
            go_wp2_with (go_at_call 19; refine (lalive_any _).mono ?_; rintro e w8 ⟨rfl, g8⟩)
            go_ret
            exact ⟨rfl, (GR.trans gX).trans g8⟩
          have y0 := gX.keeps w0
          have y1 := gX.keeps w1'
          have yE := gX.keeps u0
          have hly := lt_of_cell y0
          have hlE := lt_of_cell yE
          have hr1 : IntKind.i64.wrap (x - E) = x - E := IntWalk.i64_in _ (by omega)
          have hr2 : IntKind.i64.wrap (x - E - 1) = x - E - 1 := IntWalk.i64_in _ (by omega)
          have hr3 : IntKind.i64.wrap (y + E) = y + E := IntWalk.i64_in _ (by omega)
          have hr4 : IntKind.i64.wrap (y + E + 1) = y + E + 1 := IntWalk.i64_in _ (by omega)
          go_wp2_with fail
          have f0 : (X.alloc (.cells #[.int .i64 (x - E - 1), .int .i64 (y + E + 1)] 3)).cell? ⟨X.heap.size, 0, none⟩ = some (.int .i64 (x - E - 1)) := cell_new rfl rfl
          have f1 : (X.alloc (.cells #[.int .i64 (x - E - 1), .int .i64 (y + E + 1)] 3)).cell? ⟨X.heap.size, 1, none⟩ = some (.int .i64 (y + E + 1)) := cell_new rfl rfl
          have gK : Grow X (X.alloc (.cells #[.int .i64 (x - E - 1), .int .i64 (y + E + 1)] 3)) := (Grow.refl X).alloc _
          obtain ⟨K, hK⟩ : ∃ z, X.alloc (.cells #[.int .i64 (x - E - 1), .int .i64 (y + E + 1)] 3) = z := ⟨_, rfl⟩
          obtain ⟨A2, hA2⟩ : ∃ z, X.heap.size = z := ⟨_, rfl⟩
          rw [hK] at f0 f1 gK
          rw [hA2] at f0 f1
          rw [hK, hA2]
          have HA2 := Lib.hid hA2
          clear hK hA2
          have HOK := Lib.hid (HO2.out.grow gK)
          have zK0 := gK.keeps z0
          have zK1 := gK.keeps z1
          have zK2 := gK.keeps z2
          have GK := gX.trans gK
          have hgX : g < X.heap.size := (HO2.out.lt g rfl).2
          have nA1 : A2 ≠ g := by have := HA2.out; omega
          have nA3 : A2 ≠ T6 := by have := HA2.out; have := HT6.out; have := lt_of_cell z0; omega
          have hMg : M.heap.size ≤ g := hgg
          have hRM := gM.size
          clear y0 y1 yE hly hlE hr1 hr2 hr3 hr4 z0 z1 z2 gX gK HO2 w0 w1' hlw u0 u1 u2 hlu hc' hlb gM hgg
          obtain ⟨bl, ol, hta, _⟩ := Hls.out 0 (.int .i64 (l[0]'(by have := Hln.out; omega))) (by rw [List.getElem?_map, List.getElem?_eq_getElem (by have := Hln.out; omega)]; rfl)
          subst hta
          obtain ⟨i1, hk0, hk1, hk2', hk3⟩ := info_parts pinfo_int7
          have hui : Try.prog.underlying 40 = some (.slice 3) := by kernel_rfl
          have hd3 : decide ((l.length : Int) < 3) = true := by simp; omega
          (try rw [hd3])
          go_loopw [279] (fun i wr => ∃ k : Nat, k ≤ 2 ∧ i = .int .i64 k ∧ FarI M.heap.size g ss.length cp vs p wr ∧ wr.cell? ⟨T6, 0, none⟩ = some (.int .i64 E) ∧ wr.cell? ⟨T6, 1, none⟩ = some (.int .i64 F) ∧ wr.cell? ⟨T6, 2, none⟩ = some (.slice (some ⟨g, 0, none⟩) ss.length cp) ∧ wr.cell? ⟨A2, 0, none⟩ = some (.int .i64 (x - E - 1)) ∧ wr.cell? ⟨A2, 1, none⟩ = some (.int .i64 (y + E + 1)) ∧ Grow R wr) (fun i _ => 2 - (intOf i).toNat)
          case atStart => exact ⟨0, Nat.zero_le _, rfl, ⟨vs[p]'(by omega), by rw [List.set_getElem_self]; exact HOK.out⟩, zK0, zK1, zK2, f0, f1, GK⟩
          case round =>
            clear zK0 zK1 zK2 f0 f1 GK HOK
            obtain ⟨k, hk, rfl, ⟨u, hown⟩, z0, z1, z2, f0, f1, hg⟩ := hrel
            have HO := Lib.hid hown
            clear hown
            have hlz := lt_of_cell z0
            by_cases hlt : k < 2
            · obtain ⟨t, ht1, ht2, htc⟩ : ∃ t : Int, (0 ≤ t ∧ t ≤ 200) ∧ (t + E < x ∨ y < t - E) ∧ wr.cell? ⟨A2, k, none⟩ = some (.int .i64 t) := by
                have h : k = 0 ∨ k = 1 := by omega
                rcases h with rfl | rfl
                · exact ⟨x - E - 1, by omega, by omega, f0⟩
                · exact ⟨y + E + 1, by omega, by omega, f1⟩
              have hlA := lt_of_cell htc
              go_upto_region 42 with fail
              have hrS := hg.size
              have hlmap : (l.map (Value.int .i64)).length = l.length := by simp
              refine Left.start (fun Wx => Wx.cell? ⟨T6, 2, none⟩ = some (.slice (some ⟨g, 0, none⟩) ss.length cp)) (fun k => k != 10) (by kernel_rfl) ?_
              refine named (K := Left _ _ _ _ _ _ _ _) ?_
              intro U0 hU0
              have gW : Grow wr U0 := by rw [hU0]; exact (Grow.refl _).drew
              clear hU0
              refine Left.take 6 (i := 0) (oi := _) (v := ?_) rfl (by kernel_rfl) (by kernel_rfl) (by kernel_rfl) (by kernel_rfl) (fun _ _ _ h => h) (Or.inl ⟨by rfl, ?_⟩) (gW.keeps z2) (by kernel_rfl) ?_
              rotate_left
              (focus (intro w hSw; (try dsimp only at hSw); go_simp; (try with_reducible rfl)))
              (try simp only [Act.put, List.setIfInBounds_toArray, List.set_cons_zero, List.set_cons_succ, List.getElem_toArray, List.getElem_cons_zero])
              refine Left.take 6 (i := 1) (oi := _) (v := ?_) rfl (by kernel_rfl) (by kernel_rfl) (by kernel_rfl) (by kernel_rfl) (fun _ _ _ h => h) (Or.inl ⟨by rfl, ?_⟩) (gW.keeps z2) (by kernel_rfl) ?_
              rotate_left
              (focus (intro w hSw; (try dsimp only at hSw); go_simp; (try with_reducible rfl)))
              (try simp only [Act.put, List.setIfInBounds_toArray, List.set_cons_zero, List.set_cons_succ, List.getElem_toArray, List.getElem_cons_zero, List.getElem_cons_succ])
              refine Left.take 6 (i := 2) (oi := _) (v := ?_) rfl (by kernel_rfl) (by kernel_rfl) (by kernel_rfl) (by kernel_rfl) (fun _ _ _ h => h) (Or.inl ⟨by rfl, ?_⟩) (gW.keeps z2) (by kernel_rfl) ?_
              rotate_left
              (focus (intro w hSw; (try dsimp only at hSw); go_simp; (try with_reducible rfl)))
              (try simp only [Act.put, List.setIfInBounds_toArray, List.set_cons_zero, List.set_cons_succ, List.getElem_toArray, List.getElem_cons_zero, List.getElem_cons_succ])
              refine Left.take 6 (i := 4) (oi := _) (v := ?_) rfl (by kernel_rfl) (by kernel_rfl) (by kernel_rfl) (by kernel_rfl) (fun _ _ _ h => h) (Or.inl ⟨by rfl, ?_⟩) (gW.keeps z2) (by kernel_rfl) ?_
              rotate_left
              (focus (intro w hSw; (try dsimp only at hSw); go_simp; (try with_reducible rfl)))
              (try simp only [Act.put, List.setIfInBounds_toArray, List.set_cons_zero, List.set_cons_succ, List.getElem_toArray, List.getElem_cons_zero, List.getElem_cons_succ])
              refine Left.take 6 (i := 6) (oi := _) (v := ?_) rfl (by kernel_rfl) (by kernel_rfl) (by kernel_rfl) (by kernel_rfl) (fun _ _ _ h => h) (Or.inl ⟨by rfl, ?_⟩) (gW.keeps z2) (by kernel_rfl) ?_
              rotate_left
              (focus (intro w hSw; (try dsimp only at hSw); go_simp; (try with_reducible rfl)))
              (try simp only [Act.put, List.setIfInBounds_toArray, List.set_cons_zero, List.set_cons_succ, List.getElem_toArray, List.getElem_cons_zero, List.getElem_cons_succ])
              refine Left.ready (rs := [3, 7]) (by kernel_rfl) (by simp) ?_
              refine (LeftAll.cons (o := _) rfl (fun K hK => ?_) (LeftAll.cons (o := _) rfl (fun K hK => ?_) LeftAll.nil))
              · (try simp only [List.getElem_toArray, List.getElem_cons_zero, List.getElem_cons_succ])
                (try go_simp)
                (try (go_wp2_with fail))
                refine named ?_
                intro U1 hU
                have gU : Grow U0 U1 := by rw [hU]; exact (Grow.refl _).alloc _
                have o3 : Own U1 wr.heap.size 3 (.slice (some ⟨U0.heap.size, 0, none⟩) 0 0) [] := by rw [hU]; exact Own.new0 gW.size rfl
                replace gW := gW.trans gU
                clear hU
                refine hK.out _ _ (fun _ => gW.keeps z2) ?_
                clear hK K
                (try simp only [Act.put, List.setIfInBounds_toArray, List.set_cons_zero, List.set_cons_succ, List.getElem_toArray, List.getElem_cons_zero, List.getElem_cons_succ])
                refine Left.ready (rs := [5, 7]) (by kernel_rfl) (by simp) ?_
                refine (LeftAll.cons (o := _) rfl (fun K hK => ?_) (LeftAll.cons (o := _) rfl (fun K hK => ?_) LeftAll.nil))
                · (try simp only [List.getElem_toArray, List.getElem_cons_zero, List.getElem_cons_succ])
                  refine (if_pos (by rfl)).mpr ?_
                  refine wp_app (.tmp 286) (.tmp 287) 40 rfl wr.heap.size 3 i1 _ 8 hui hk0 hk1 hk2' hk3 rfl (.slice (some ⟨U0.heap.size, 0, none⟩) 0 0) [] (by rfl) o3 (some ⟨bl, ol, none⟩) tc (l.map (Value.int .i64)) l.length (by rfl) hlmap (fun h => nomatch h) (Hls.out.grow (hg.trans gW)) (by simp [Value.oneCell']) (by simp; omega) (by omega) gW.size ?_
                  intro v5 U2 o5 hgr hm
                  rw [List.nil_append] at o5
                  replace gW : Grow wr U2 := Below.trans gW (grownBy_below hgr (fun k hk => o3.base k hk) gW.size)
                  clear hgr hm o3
                  refine hK.out _ _ (fun _ => gW.keeps z2) ?_
                  clear hK K
                  (try simp only [Act.put, List.setIfInBounds_toArray, List.set_cons_zero, List.set_cons_succ])
                  refine Left.ready (rs := [7]) (by kernel_rfl) (by simp) ?_
                  refine (LeftAll.cons (o := _) rfl (fun K hK => ?_) LeftAll.nil)
                  · (try simp only [List.getElem_toArray, List.getElem_cons_zero, List.getElem_cons_succ])
                    (try go_simp)
                    (try (go_wp2_with fail))
                    refine named ?_
                    intro U3 hU
                    have gU : Grow U2 U3 := by rw [hU]; exact (Grow.refl _).alloc _
                    have r7 : RowAt U3 (some ⟨U2.heap.size, 0, none⟩) [.int .i64 t] := by rw [hU]; exact row_new1 _ _ _ rfl
                    replace o5 := o5.grow gU
                    have l7 : U2.heap.size < U3.heap.size := by rw [hU]; simp
                    replace gW := gW.trans gU
                    clear hU
                    refine hK.out _ _ (fun _ => gW.keeps z2) ?_
                    clear hK K
                    (try simp only [Act.put, List.setIfInBounds_toArray, List.set_cons_zero, List.set_cons_succ, List.getElem_toArray, List.getElem_cons_zero, List.getElem_cons_succ])
                    refine Left.ready (rs := [8]) (by kernel_rfl) (by simp) ?_
                    refine (LeftAll.cons (o := _) rfl (fun K hK => ?_) LeftAll.nil)
                    · (try simp only [List.getElem_toArray, List.getElem_cons_zero, List.getElem_cons_succ])
                      refine (if_pos (by rfl)).mpr ?_
                      refine wp_app (.tmp 288) (.tmp 290) 40 rfl wr.heap.size 3 i1 _ 8 hui hk0 hk1 hk2' hk3 rfl v5 (l.map (Value.int .i64)) (by rfl) o5 (some ⟨U2.heap.size, 0, none⟩) 1 [.int .i64 t] 1 (by rfl) rfl (fun h => nomatch h) r7 (by simp [Value.oneCell']) (by simp; omega) (by omega) gW.size ?_
                      intro v8 U4 o8 hgr hm
                      replace gW : Grow wr U4 := Below.trans gW (grownBy_below hgr (fun k hk => o5.base k hk) gW.size)
                      clear hgr hm o5
                      refine hK.out _ _ (fun _ => gW.keeps z2) ?_
                      clear hK K
                      (try simp only [Act.put, List.setIfInBounds_toArray, List.set_cons_zero, List.set_cons_succ])
                      refine Left.take 6 (i := 9) (oi := _) (v := ?_) rfl (by kernel_rfl) (by kernel_rfl) (by kernel_rfl) (by kernel_rfl) (fun _ _ _ h => h) (Or.inl ⟨by rfl, ?_⟩) (gW.keeps z2) (by kernel_rfl) ?_
                      rotate_left
                      (focus (intro w hSw; (try dsimp only at hSw); go_simp; (try with_reducible rfl)))
                      (try simp only [Act.put, List.setIfInBounds_toArray, List.set_cons_zero, List.set_cons_succ, List.getElem_toArray, List.getElem_cons_zero, List.getElem_cons_succ])
                      obtain ⟨g8, c8, rfl, _⟩ := o8.some (n := l.length + 1) (by simp) (by omega)
                      refine Left.ready (rs := [10]) (by kernel_rfl) (by simp) ?_
                      refine LeftAll.cons (o := _) rfl (fun K hK => ?_) LeftAll.nil
                      (try simp only [List.getElem_toArray, List.getElem_cons_zero, List.getElem_cons_succ])
                      have HOg := Lib.hid (HO.out.grow gW)
                      have cg := HOg.out.at (i := p) (x := u) (by rw [List.length_set, hvl]) (List.getElem?_set_self (by omega))
                      have cf : ∀ q, U4.frozen? ⟨g, q, none⟩ = false := fun q => HOg.out.hot q
                      have hlg := lt_of_cell cg
                      (try go_simp)
                      (try (go_wp2_with fail))
                      refine hK.out _ _ (fun h => absurd h (by decide)) ?_
                      clear hK K
                      (try simp only [Act.put, List.setIfInBounds_toArray, List.set_cons_zero, List.set_cons_succ])
                      refine Left.done (by kernel_rfl) ?_ _
                      have hI8 : IsInts U4 (.slice (some ⟨g8, 0, none⟩) (l.length + 1) c8) (l ++ [t]) := by
                        have o9 := o8
                        rw [show l.map (Value.int .i64) ++ [Value.int .i64 t] = (l ++ [t]).map (Value.int .i64) by simp] at o9
                        exact o9.ints (by simp; omega)
                      have hb8 : wr.heap.size ≤ g8 := o8.base g8 rfl
                      have ng8 : (some g : Option Nat) ≠ some g8 := fun e => by injection e with e; have := (HO.out.lt g rfl).2; omega
                      have n6 : (some g : Option Nat) ≠ some T6 := fun e => by injection e with e; exact hgT e
                      have n2 : (some g : Option Nat) ≠ some A2 := fun e => by injection e with e; exact nA1 e.symm
                      have e0 := byCell1 (bySet U4 g p (.slice (some ⟨g8, 0, none⟩) (l.length + 1) c8)) (gW.keeps z0) n6
                      have e1 := byCell1 (bySet U4 g p (.slice (some ⟨g8, 0, none⟩) (l.length + 1) c8)) (gW.keeps z1) n6
                      have e2 := byCell1 (bySet U4 g p (.slice (some ⟨g8, 0, none⟩) (l.length + 1) c8)) (gW.keeps z2) n6
                      have e3 := byCell1 (bySet U4 g p (.slice (some ⟨g8, 0, none⟩) (l.length + 1) c8)) (gW.keeps f0) n2
                      have e4 := byCell1 (bySet U4 g p (.slice (some ⟨g8, 0, none⟩) (l.length + 1) c8)) (gW.keeps f1) n2
                      have gZ : Grow R (U4.setCell ⟨g, p, none⟩ (.slice (some ⟨g8, 0, none⟩) (l.length + 1) c8)) := Below.setCell (p := ⟨g, p, none⟩) (hg.trans gW) (show R.heap.size ≤ g by omega) _
                      have HO9 := Lib.hid (HOg.out.set (by rw [List.length_set, hvl]) p (.slice (some ⟨g8, 0, none⟩) (l.length + 1) c8)).1
                      rw [List.set_set] at HO9
                      have hI9 : IsInts (U4.setCell ⟨g, p, none⟩ (.slice (some ⟨g8, 0, none⟩) (l.length + 1) c8)) (.slice (some ⟨g8, 0, none⟩) (l.length + 1) c8) (l ++ [t]) := hI8.kept (bySet _ _ _ _) (.inr (fun e => ng8 e.symm))
                      have hIS := Lib.hid (far_sheets (ss := ss) (l := l ++ [t]) HO9.out hvl hp (by omega) hI9 Hvi.out (GR.trans gZ))
                      have hlZ := lt_of_cell e0
                      obtain ⟨Z, hZ⟩ : ∃ z, U4.setCell ⟨g, p, none⟩ (.slice (some ⟨g8, 0, none⟩) (l.length + 1) c8) = z := ⟨_, rfl⟩
                      rw [hZ] at e0 e1 e2 e3 e4 gZ HO9 hIS hlZ
                      obtain ⟨herr, htv⟩ := far_err (E := E) (F := F) (t := t) Hval.out hp Hlx.out ⟨Hln.out.1.1, Hln.out.2⟩ hll3 ht1 (by rw [Hx.out, Hy.out]; exact ht2)
                      have Herr := Lib.hid herr
                      have Htv := Lib.hid htv
                      have HIS2 : Hid (IsSheets Z (.slice (some ⟨g, 0, none⟩) ss.length cp) (ss.set p (l ++ [t]))) := hIS.out
                      have hZZ := hZ
                      clear herr htv hI8 hI9 hIS cg cf hlg HOg HO z0 z1 z2 f0 f1 hlz htc hlA hZ
                      (try rw [hZZ])
                      go_wp2_with (go_at_call 11; refine (pTime_any E F p _ (ss.set p (l ++ [t])) _ HIS2.out).mono ?_; rw [List.length_set, Herr.out, Htv.out]; rintro e w9 ⟨rfl, g9⟩)
                      have gE : Grow Z (w9.alloc (.cells #[.int .i64 0, .int .i64 0] 23)) := g9.alloc _
                      exact ⟨⟨k + 1, by omega, by go_num, (⟨_, HO9.out.grow gE⟩ : FarI _ _ _ _ _ _ _), gE.keeps e0, gE.keeps e1, gE.keeps e2, gE.keeps e3, gE.keeps e4, gZ.trans gE⟩, by simp [intOf]; omega⟩
                · (try simp only [List.getElem_toArray, List.getElem_cons_zero, List.getElem_cons_succ])
                  (try go_simp)
                  (try (go_wp2_with fail))
                  refine named ?_
                  intro U5 hU
                  have gU : Grow U1 U5 := by rw [hU]; exact (Grow.refl _).alloc _
                  have r7 : RowAt U5 (some ⟨U1.heap.size, 0, none⟩) [.int .i64 t] := by rw [hU]; exact row_new1 _ _ _ rfl
                  have d37 : U1.heap.size ≠ U0.heap.size := Ne.symm (Nat.ne_of_lt (o3.lt _ rfl).2)
                  replace o3 := o3.grow gU
                  have l7 : U1.heap.size < U5.heap.size := by rw [hU]; simp
                  replace gW := gW.trans gU
                  clear hU
                  refine hK.out _ _ (fun _ => gW.keeps z2) ?_
                  clear hK K
                  (try simp only [Act.put, List.setIfInBounds_toArray, List.set_cons_zero, List.set_cons_succ, List.getElem_toArray, List.getElem_cons_zero, List.getElem_cons_succ])
                  refine Left.ready (rs := [5]) (by kernel_rfl) (by simp) ?_
                  refine (LeftAll.cons (o := _) rfl (fun K hK => ?_) LeftAll.nil)
                  · (try simp only [List.getElem_toArray, List.getElem_cons_zero, List.getElem_cons_succ])
                    refine (if_pos (by rfl)).mpr ?_
                    refine wp_app (.tmp 286) (.tmp 287) 40 rfl wr.heap.size 3 i1 _ 8 hui hk0 hk1 hk2' hk3 rfl (.slice (some ⟨U0.heap.size, 0, none⟩) 0 0) [] (by rfl) o3 (some ⟨bl, ol, none⟩) tc (l.map (Value.int .i64)) l.length (by rfl) hlmap (fun h => nomatch h) (Hls.out.grow (hg.trans gW)) (by simp [Value.oneCell']) (by simp; omega) (by omega) gW.size ?_
                    intro v5 U6 o5 hgr hm
                    rw [List.nil_append] at o5
                    replace r7 := r7.kept hgr (.inr (fun e => by have e' : some (U1.heap.size) = some (U0.heap.size) := e; injection e' with e''; exact d37 e''))
                    replace gW : Grow wr U6 := Below.trans gW (grownBy_below hgr (fun k hk => o3.base k hk) gW.size)
                    clear hgr hm o3
                    refine hK.out _ _ (fun _ => gW.keeps z2) ?_
                    clear hK K
                    (try simp only [Act.put, List.setIfInBounds_toArray, List.set_cons_zero, List.set_cons_succ])
                    refine Left.ready (rs := [8]) (by kernel_rfl) (by simp) ?_
                    refine (LeftAll.cons (o := _) rfl (fun K hK => ?_) LeftAll.nil)
                    · (try simp only [List.getElem_toArray, List.getElem_cons_zero, List.getElem_cons_succ])
                      refine (if_pos (by rfl)).mpr ?_
                      refine wp_app (.tmp 288) (.tmp 290) 40 rfl wr.heap.size 3 i1 _ 8 hui hk0 hk1 hk2' hk3 rfl v5 (l.map (Value.int .i64)) (by rfl) o5 (some ⟨U1.heap.size, 0, none⟩) 1 [.int .i64 t] 1 (by rfl) rfl (fun h => nomatch h) r7 (by simp [Value.oneCell']) (by simp; omega) (by omega) gW.size ?_
                      intro v8 U7 o8 hgr hm
                      replace gW : Grow wr U7 := Below.trans gW (grownBy_below hgr (fun k hk => o5.base k hk) gW.size)
                      clear hgr hm o5
                      refine hK.out _ _ (fun _ => gW.keeps z2) ?_
                      clear hK K
                      (try simp only [Act.put, List.setIfInBounds_toArray, List.set_cons_zero, List.set_cons_succ])
                      refine Left.take 6 (i := 9) (oi := _) (v := ?_) rfl (by kernel_rfl) (by kernel_rfl) (by kernel_rfl) (by kernel_rfl) (fun _ _ _ h => h) (Or.inl ⟨by rfl, ?_⟩) (gW.keeps z2) (by kernel_rfl) ?_
                      rotate_left
                      (focus (intro w hSw; (try dsimp only at hSw); go_simp; (try with_reducible rfl)))
                      (try simp only [Act.put, List.setIfInBounds_toArray, List.set_cons_zero, List.set_cons_succ, List.getElem_toArray, List.getElem_cons_zero, List.getElem_cons_succ])
                      obtain ⟨g8, c8, rfl, _⟩ := o8.some (n := l.length + 1) (by simp) (by omega)
                      refine Left.ready (rs := [10]) (by kernel_rfl) (by simp) ?_
                      refine LeftAll.cons (o := _) rfl (fun K hK => ?_) LeftAll.nil
                      (try simp only [List.getElem_toArray, List.getElem_cons_zero, List.getElem_cons_succ])
                      have HOg := Lib.hid (HO.out.grow gW)
                      have cg := HOg.out.at (i := p) (x := u) (by rw [List.length_set, hvl]) (List.getElem?_set_self (by omega))
                      have cf : ∀ q, U7.frozen? ⟨g, q, none⟩ = false := fun q => HOg.out.hot q
                      have hlg := lt_of_cell cg
                      (try go_simp)
                      (try (go_wp2_with fail))
                      refine hK.out _ _ (fun h => absurd h (by decide)) ?_
                      clear hK K
                      (try simp only [Act.put, List.setIfInBounds_toArray, List.set_cons_zero, List.set_cons_succ])
                      refine Left.done (by kernel_rfl) ?_ _
                      have hI8 : IsInts U7 (.slice (some ⟨g8, 0, none⟩) (l.length + 1) c8) (l ++ [t]) := by
                        have o9 := o8
                        rw [show l.map (Value.int .i64) ++ [Value.int .i64 t] = (l ++ [t]).map (Value.int .i64) by simp] at o9
                        exact o9.ints (by simp; omega)
                      have hb8 : wr.heap.size ≤ g8 := o8.base g8 rfl
                      have ng8 : (some g : Option Nat) ≠ some g8 := fun e => by injection e with e; have := (HO.out.lt g rfl).2; omega
                      have n6 : (some g : Option Nat) ≠ some T6 := fun e => by injection e with e; exact hgT e
                      have n2 : (some g : Option Nat) ≠ some A2 := fun e => by injection e with e; exact nA1 e.symm
                      have e0 := byCell1 (bySet U7 g p (.slice (some ⟨g8, 0, none⟩) (l.length + 1) c8)) (gW.keeps z0) n6
                      have e1 := byCell1 (bySet U7 g p (.slice (some ⟨g8, 0, none⟩) (l.length + 1) c8)) (gW.keeps z1) n6
                      have e2 := byCell1 (bySet U7 g p (.slice (some ⟨g8, 0, none⟩) (l.length + 1) c8)) (gW.keeps z2) n6
                      have e3 := byCell1 (bySet U7 g p (.slice (some ⟨g8, 0, none⟩) (l.length + 1) c8)) (gW.keeps f0) n2
                      have e4 := byCell1 (bySet U7 g p (.slice (some ⟨g8, 0, none⟩) (l.length + 1) c8)) (gW.keeps f1) n2
                      have gZ : Grow R (U7.setCell ⟨g, p, none⟩ (.slice (some ⟨g8, 0, none⟩) (l.length + 1) c8)) := Below.setCell (p := ⟨g, p, none⟩) (hg.trans gW) (show R.heap.size ≤ g by omega) _
                      have HO9 := Lib.hid (HOg.out.set (by rw [List.length_set, hvl]) p (.slice (some ⟨g8, 0, none⟩) (l.length + 1) c8)).1
                      rw [List.set_set] at HO9
                      have hI9 : IsInts (U7.setCell ⟨g, p, none⟩ (.slice (some ⟨g8, 0, none⟩) (l.length + 1) c8)) (.slice (some ⟨g8, 0, none⟩) (l.length + 1) c8) (l ++ [t]) := hI8.kept (bySet _ _ _ _) (.inr (fun e => ng8 e.symm))
                      have hIS := Lib.hid (far_sheets (ss := ss) (l := l ++ [t]) HO9.out hvl hp (by omega) hI9 Hvi.out (GR.trans gZ))
                      have hlZ := lt_of_cell e0
                      obtain ⟨Z, hZ⟩ : ∃ z, U7.setCell ⟨g, p, none⟩ (.slice (some ⟨g8, 0, none⟩) (l.length + 1) c8) = z := ⟨_, rfl⟩
                      rw [hZ] at e0 e1 e2 e3 e4 gZ HO9 hIS hlZ
                      obtain ⟨herr, htv⟩ := far_err (E := E) (F := F) (t := t) Hval.out hp Hlx.out ⟨Hln.out.1.1, Hln.out.2⟩ hll3 ht1 (by rw [Hx.out, Hy.out]; exact ht2)
                      have Herr := Lib.hid herr
                      have Htv := Lib.hid htv
                      have HIS2 : Hid (IsSheets Z (.slice (some ⟨g, 0, none⟩) ss.length cp) (ss.set p (l ++ [t]))) := hIS.out
                      have hZZ := hZ
                      clear herr htv hI8 hI9 hIS cg cf hlg HOg HO z0 z1 z2 f0 f1 hlz htc hlA hZ
                      (try rw [hZZ])
                      go_wp2_with (go_at_call 11; refine (pTime_any E F p _ (ss.set p (l ++ [t])) _ HIS2.out).mono ?_; rw [List.length_set, Herr.out, Htv.out]; rintro e w9 ⟨rfl, g9⟩)
                      have gE : Grow Z (w9.alloc (.cells #[.int .i64 0, .int .i64 0] 23)) := g9.alloc _
                      exact ⟨⟨k + 1, by omega, by go_num, (⟨_, HO9.out.grow gE⟩ : FarI _ _ _ _ _ _ _), gE.keeps e0, gE.keeps e1, gE.keeps e2, gE.keeps e3, gE.keeps e4, gZ.trans gE⟩, by simp [intOf]; omega⟩
              · (try simp only [List.getElem_toArray, List.getElem_cons_zero, List.getElem_cons_succ])
                (try go_simp)
                (try (go_wp2_with fail))
                refine named ?_
                intro U8 hU
                have gU : Grow U0 U8 := by rw [hU]; exact (Grow.refl _).alloc _
                have r7 : RowAt U8 (some ⟨U0.heap.size, 0, none⟩) [.int .i64 t] := by rw [hU]; exact row_new1 _ _ _ rfl
                have l7 : U0.heap.size < U8.heap.size := by rw [hU]; simp
                replace gW := gW.trans gU
                clear hU
                refine hK.out _ _ (fun _ => gW.keeps z2) ?_
                clear hK K
                (try simp only [Act.put, List.setIfInBounds_toArray, List.set_cons_zero, List.set_cons_succ, List.getElem_toArray, List.getElem_cons_zero, List.getElem_cons_succ])
                refine Left.ready (rs := [3]) (by kernel_rfl) (by simp) ?_
                refine (LeftAll.cons (o := _) rfl (fun K hK => ?_) LeftAll.nil)
                · (try simp only [List.getElem_toArray, List.getElem_cons_zero, List.getElem_cons_succ])
                  (try go_simp)
                  (try (go_wp2_with fail))
                  refine named ?_
                  intro U9 hU
                  have gU : Grow U8 U9 := by rw [hU]; exact (Grow.refl _).alloc _
                  have o3 : Own U9 wr.heap.size 3 (.slice (some ⟨U8.heap.size, 0, none⟩) 0 0) [] := by rw [hU]; exact Own.new0 gW.size rfl
                  replace r7 := r7.grow gU
                  have d37 : U0.heap.size ≠ U8.heap.size := by omega
                  replace gW := gW.trans gU
                  clear hU
                  refine hK.out _ _ (fun _ => gW.keeps z2) ?_
                  clear hK K
                  (try simp only [Act.put, List.setIfInBounds_toArray, List.set_cons_zero, List.set_cons_succ, List.getElem_toArray, List.getElem_cons_zero, List.getElem_cons_succ])
                  refine Left.ready (rs := [5]) (by kernel_rfl) (by simp) ?_
                  refine (LeftAll.cons (o := _) rfl (fun K hK => ?_) LeftAll.nil)
                  · (try simp only [List.getElem_toArray, List.getElem_cons_zero, List.getElem_cons_succ])
                    refine (if_pos (by rfl)).mpr ?_
                    refine wp_app (.tmp 286) (.tmp 287) 40 rfl wr.heap.size 3 i1 _ 8 hui hk0 hk1 hk2' hk3 rfl (.slice (some ⟨U8.heap.size, 0, none⟩) 0 0) [] (by rfl) o3 (some ⟨bl, ol, none⟩) tc (l.map (Value.int .i64)) l.length (by rfl) hlmap (fun h => nomatch h) (Hls.out.grow (hg.trans gW)) (by simp [Value.oneCell']) (by simp; omega) (by omega) gW.size ?_
                    intro v5 U10 o5 hgr hm
                    rw [List.nil_append] at o5
                    replace r7 := r7.kept hgr (.inr (fun e => by have e' : some (U0.heap.size) = some (U8.heap.size) := e; injection e' with e''; exact d37 e''))
                    replace gW : Grow wr U10 := Below.trans gW (grownBy_below hgr (fun k hk => o3.base k hk) gW.size)
                    clear hgr hm o3
                    refine hK.out _ _ (fun _ => gW.keeps z2) ?_
                    clear hK K
                    (try simp only [Act.put, List.setIfInBounds_toArray, List.set_cons_zero, List.set_cons_succ])
                    refine Left.ready (rs := [8]) (by kernel_rfl) (by simp) ?_
                    refine (LeftAll.cons (o := _) rfl (fun K hK => ?_) LeftAll.nil)
                    · (try simp only [List.getElem_toArray, List.getElem_cons_zero, List.getElem_cons_succ])
                      refine (if_pos (by rfl)).mpr ?_
                      refine wp_app (.tmp 288) (.tmp 290) 40 rfl wr.heap.size 3 i1 _ 8 hui hk0 hk1 hk2' hk3 rfl v5 (l.map (Value.int .i64)) (by rfl) o5 (some ⟨U0.heap.size, 0, none⟩) 1 [.int .i64 t] 1 (by rfl) rfl (fun h => nomatch h) r7 (by simp [Value.oneCell']) (by simp; omega) (by omega) gW.size ?_
                      intro v8 U11 o8 hgr hm
                      replace gW : Grow wr U11 := Below.trans gW (grownBy_below hgr (fun k hk => o5.base k hk) gW.size)
                      clear hgr hm o5
                      refine hK.out _ _ (fun _ => gW.keeps z2) ?_
                      clear hK K
                      (try simp only [Act.put, List.setIfInBounds_toArray, List.set_cons_zero, List.set_cons_succ])
                      refine Left.take 6 (i := 9) (oi := _) (v := ?_) rfl (by kernel_rfl) (by kernel_rfl) (by kernel_rfl) (by kernel_rfl) (fun _ _ _ h => h) (Or.inl ⟨by rfl, ?_⟩) (gW.keeps z2) (by kernel_rfl) ?_
                      rotate_left
                      (focus (intro w hSw; (try dsimp only at hSw); go_simp; (try with_reducible rfl)))
                      (try simp only [Act.put, List.setIfInBounds_toArray, List.set_cons_zero, List.set_cons_succ, List.getElem_toArray, List.getElem_cons_zero, List.getElem_cons_succ])
                      obtain ⟨g8, c8, rfl, _⟩ := o8.some (n := l.length + 1) (by simp) (by omega)
                      refine Left.ready (rs := [10]) (by kernel_rfl) (by simp) ?_
                      refine LeftAll.cons (o := _) rfl (fun K hK => ?_) LeftAll.nil
                      (try simp only [List.getElem_toArray, List.getElem_cons_zero, List.getElem_cons_succ])
                      have HOg := Lib.hid (HO.out.grow gW)
                      have cg := HOg.out.at (i := p) (x := u) (by rw [List.length_set, hvl]) (List.getElem?_set_self (by omega))
                      have cf : ∀ q, U11.frozen? ⟨g, q, none⟩ = false := fun q => HOg.out.hot q
                      have hlg := lt_of_cell cg
                      (try go_simp)
                      (try (go_wp2_with fail))
                      refine hK.out _ _ (fun h => absurd h (by decide)) ?_
                      clear hK K
                      (try simp only [Act.put, List.setIfInBounds_toArray, List.set_cons_zero, List.set_cons_succ])
                      refine Left.done (by kernel_rfl) ?_ _
                      have hI8 : IsInts U11 (.slice (some ⟨g8, 0, none⟩) (l.length + 1) c8) (l ++ [t]) := by
                        have o9 := o8
                        rw [show l.map (Value.int .i64) ++ [Value.int .i64 t] = (l ++ [t]).map (Value.int .i64) by simp] at o9
                        exact o9.ints (by simp; omega)
                      have hb8 : wr.heap.size ≤ g8 := o8.base g8 rfl
                      have ng8 : (some g : Option Nat) ≠ some g8 := fun e => by injection e with e; have := (HO.out.lt g rfl).2; omega
                      have n6 : (some g : Option Nat) ≠ some T6 := fun e => by injection e with e; exact hgT e
                      have n2 : (some g : Option Nat) ≠ some A2 := fun e => by injection e with e; exact nA1 e.symm
                      have e0 := byCell1 (bySet U11 g p (.slice (some ⟨g8, 0, none⟩) (l.length + 1) c8)) (gW.keeps z0) n6
                      have e1 := byCell1 (bySet U11 g p (.slice (some ⟨g8, 0, none⟩) (l.length + 1) c8)) (gW.keeps z1) n6
                      have e2 := byCell1 (bySet U11 g p (.slice (some ⟨g8, 0, none⟩) (l.length + 1) c8)) (gW.keeps z2) n6
                      have e3 := byCell1 (bySet U11 g p (.slice (some ⟨g8, 0, none⟩) (l.length + 1) c8)) (gW.keeps f0) n2
                      have e4 := byCell1 (bySet U11 g p (.slice (some ⟨g8, 0, none⟩) (l.length + 1) c8)) (gW.keeps f1) n2
                      have gZ : Grow R (U11.setCell ⟨g, p, none⟩ (.slice (some ⟨g8, 0, none⟩) (l.length + 1) c8)) := Below.setCell (p := ⟨g, p, none⟩) (hg.trans gW) (show R.heap.size ≤ g by omega) _
                      have HO9 := Lib.hid (HOg.out.set (by rw [List.length_set, hvl]) p (.slice (some ⟨g8, 0, none⟩) (l.length + 1) c8)).1
                      rw [List.set_set] at HO9
                      have hI9 : IsInts (U11.setCell ⟨g, p, none⟩ (.slice (some ⟨g8, 0, none⟩) (l.length + 1) c8)) (.slice (some ⟨g8, 0, none⟩) (l.length + 1) c8) (l ++ [t]) := hI8.kept (bySet _ _ _ _) (.inr (fun e => ng8 e.symm))
                      have hIS := Lib.hid (far_sheets (ss := ss) (l := l ++ [t]) HO9.out hvl hp (by omega) hI9 Hvi.out (GR.trans gZ))
                      have hlZ := lt_of_cell e0
                      obtain ⟨Z, hZ⟩ : ∃ z, U11.setCell ⟨g, p, none⟩ (.slice (some ⟨g8, 0, none⟩) (l.length + 1) c8) = z := ⟨_, rfl⟩
                      rw [hZ] at e0 e1 e2 e3 e4 gZ HO9 hIS hlZ
                      obtain ⟨herr, htv⟩ := far_err (E := E) (F := F) (t := t) Hval.out hp Hlx.out ⟨Hln.out.1.1, Hln.out.2⟩ hll3 ht1 (by rw [Hx.out, Hy.out]; exact ht2)
                      have Herr := Lib.hid herr
                      have Htv := Lib.hid htv
                      have HIS2 : Hid (IsSheets Z (.slice (some ⟨g, 0, none⟩) ss.length cp) (ss.set p (l ++ [t]))) := hIS.out
                      have hZZ := hZ
                      clear herr htv hI8 hI9 hIS cg cf hlg HOg HO z0 z1 z2 f0 f1 hlz htc hlA hZ
                      (try rw [hZZ])
                      go_wp2_with (go_at_call 11; refine (pTime_any E F p _ (ss.set p (l ++ [t])) _ HIS2.out).mono ?_; rw [List.length_set, Herr.out, Htv.out]; rintro e w9 ⟨rfl, g9⟩)
                      have gE : Grow Z (w9.alloc (.cells #[.int .i64 0, .int .i64 0] 23)) := g9.alloc _
                      exact ⟨⟨k + 1, by omega, by go_num, (⟨_, HO9.out.grow gE⟩ : FarI _ _ _ _ _ _ _), gE.keeps e0, gE.keeps e1, gE.keeps e2, gE.keeps e3, gE.keeps e4, gZ.trans gE⟩, by simp [intOf]; omega⟩
            · obtain rfl : k = 2 := by omega
              go_wp2_with (go_at_call 19; refine (lalive_any _).mono ?_; rintro e w8 ⟨rfl, g8⟩)
              go_ret
              exact ⟨rfl, (GR.trans hg).trans g8⟩
end Go.Proofs.Ytbeglemohfbdfaa
