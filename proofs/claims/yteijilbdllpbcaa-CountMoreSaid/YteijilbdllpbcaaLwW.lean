/- The law CountMore: the walk. Conditions: sizes. -/
import Derived.Test.YteijilbdllpbcaaLwB
import Derived.Test.YteijilbdllpbcaaLwV
import Derived.Test.YteijilbdllpbcaaPlM
import Derived.Deep.DeepCutAuto
namespace Go.Proofs.Yteijilbdllpbcaa
open Go.RowKit

/-- What is left of all truths with a sheet more, as the law wants it. -/
theorem more_facts {P : Int} {ss : List (List Int)} {s : List Int} (h2 : 2 ≤ ss.length) : (∀ r ∈ (truthsR P.toNat (ss ++ [s])).1, r ∈ (truthsR P.toNat ss).1) ∧ (truthsR P.toNat (ss ++ [s])).1.length ≤ (truthsR P.toNat ss).1.length ∧ (truthsR P.toNat ss).2 ≤ (truthsR P.toNat (ss ++ [s])).2 := by
  rw [truths_more _ _ _ h2]
  exact ⟨fun r hr => leave_sub _ _ r hr, (leave_sub2 _ _).length_le, leave_num _ _⟩
theorem more_only {P : Int} {ss : List (List Int)} {l : List Int} (h2 : 2 ≤ ss.length) (hl : l ∈ (truthsR P.toNat ss).1) : truthsR P.toNat (ss ++ [l]) = ([l], (truthsR P.toNat ss).2) := by
  rw [truths_more _ _ _ h2]
  exact leave_only (truths_sorted _ _) hl
/-- Laps of a pair, by the count and by the one with a sheet more: an error of the latter, or no more. -/
theorem more_laps {P : Int} {ss : List (List Int)} {s : List Int} (hval : validB P ss = true) (h2 : 2 ≤ ss.length) (hvx : validB P (ss ++ [s]) = true) (p : Nat) (hp : (p : Int) < P) :
    (errOf P (ss ++ [s]) (inB p 0 (P - 1)) = 0 → errOf P ss (inB p 0 (P - 1)) = 0 ∧ bits .andNot .i64 (lapsR P (ss ++ [s]) p) (lapsR P ss p) = 0) := by
  intro he
  obtain ⟨_, _, hTx⟩ := errOf_zero he
  obtain ⟨hsub, _, _⟩ := more_facts (P := P) (s := s) h2
  have hT : (truthsR P.toNat ss).1 ≠ [] := fun h => by
    cases hc : (truthsR P.toNat (ss ++ [s])).1 with
    | nil => exact hTx hc
    | cons r R => have := hsub r (by rw [hc]; simp); rw [h] at this; cases this
  obtain ⟨e1, e2⟩ := lapsR_N (p := (p : Int)) hval ⟨by omega, hp⟩ hT
  obtain ⟨e3, e4⟩ := lapsR_N (p := (p : Int)) hvx ⟨by omega, hp⟩ hTx
  rw [e1, e3]
  exact ⟨e2, bits_andNot _ _ (lapN_lt (truths_12 hvx)) (lapN_lt (truths_12 hval)) (lapN_sub hsub _)⟩
theorem more_leads {P : Int} {ss : List (List Int)} {s : List Int} (hval : validB P ss = true) (h2 : 2 ≤ ss.length) (hvx : validB P (ss ++ [s]) = true) (p q : Nat) (hp : (p : Int) < P) (hq : (q : Int) < P) (hne : p ≠ q) :
    (errOf P (ss ++ [s]) (pairsB P p q) = 0 → errOf P ss (pairsB P p q) = 0 ∧ (leadR P ss p q).1 ≤ (leadR P (ss ++ [s]) p q).1 ∧ (leadR P (ss ++ [s]) p q).2 ≤ (leadR P ss p q).2) := by
  intro he
  obtain ⟨_, _, hTx⟩ := errOf_zero he
  obtain ⟨hsub, _, _⟩ := more_facts (P := P) (s := s) h2
  have hT : (truthsR P.toNat ss).1 ≠ [] := fun h => by
    cases hc : (truthsR P.toNat (ss ++ [s])).1 with
    | nil => exact hTx hc
    | cons r R => have := hsub r (by rw [hc]; simp); rw [h] at this; cases this
  obtain ⟨e1, e2⟩ := leadR_N (p := (p : Int)) (q := (q : Int)) hval ⟨by omega, hp⟩ ⟨by omega, hq⟩ (by omega) hT
  obtain ⟨e3, e4⟩ := leadR_N (p := (p : Int)) (q := (q : Int)) hvx ⟨by omega, hp⟩ ⟨by omega, hq⟩ (by omega) hTx
  rw [e1, e3]
  exact ⟨e2, span_sub hsub hTx hT _⟩

set_option maxRecDepth 100000 in
set_option maxHeartbeats 8000000 in
theorem lcountMore (P : Int) (v u : Value) (ss : List (List Int)) (s : List Int) (w : World) (hP1 : -9223372036854775808 ≤ P) (hP2 : P ≤ 9223372036854775807) (hv : IsSheets w v ss) (hs : ss.length * 24 ≤ 140737488351232) (hnil : ∀ n cap, v = .slice none n cap → cap = 0) (hu : IsInts w u s) :
    Calls Try.prog 9 #[.agg #[.int .i64 P, v], u] w fun e w' => e = .returned (.bool true) ∧ Grow w w' := by
  obtain ⟨a, cap, rfl, hcap, hlen, hrow⟩ := id hv
  obtain ⟨ua, uc, rfl, huc, hu8, hur⟩ := id hu
  have Hv := Lib.hid hv
  have Hu := Lib.hid hu
  clear hv hu hrow hur
  go_enter Try.func9, Try.ntmps9
  go_wp2_with fail
  obtain ⟨B, hB⟩ : ∃ B, w.heap.size = B := ⟨_, rfl⟩
  obtain ⟨w1, hw1⟩ : ∃ w1, w.alloc (.cells #[.int .i64 P, .slice a ss.length cap] 24) = w1 := ⟨_, rfl⟩
  have g1 : Grow w w1 := by rw [← hw1]; exact (Grow.refl w).alloc _
  have c0 : w1.cell? ⟨B, 0, none⟩ = some (.int .i64 P) := by rw [← hw1]; exact cell_new hB.symm rfl
  have c1 : w1.cell? ⟨B, 1, none⟩ = some (.slice a ss.length cap) := by rw [← hw1]; exact cell_new hB.symm rfl
  have hsz : B + 1 = w1.heap.size := by rw [← hw1, ← hB]; simp
  rw [hw1, hB]
  clear hw1 hB
  have hown : Own (w1.alloc (.cells #[.slice ua s.length uc] 25)) (B + 1) 25 (.slice (some ⟨B + 1, 0, none⟩) 1 1) [.slice ua s.length uc] := Own.new1 (by omega) hsz
  have hg1 : Grow w1 (w1.alloc (.cells #[.slice ua s.length uc] 25)) := (Grow.refl w1).alloc _
  refine (llong_any (B + 1) P _ _ ss _ _ (Hv.out.grow (g1.trans hg1)) hs hown (by simp; omega) (by simp) (by intro x hx; rw [List.mem_singleton.1 hx]; exact ⟨_, _, _, rfl, by omega⟩) hnil).mono ?_
  rintro e w2 ⟨⟨b, rfl⟩, hb2⟩
  have g2 : Grow w1 w2 := Below.trans hg1 (grownBy_below hb2 (by intro k hk; have hk : some (B + 1) = some k := hk; injection hk with hk; omega) (by simp))
  have d0 := g2.keeps c0
  have d1 := g2.keeps c1
  have gw := g1.trans g2
  clear hown hg1 hb2 c0 c1 g1 g2 hsz
  have dl := lt_of_cell d0
  cases b
  · go_wp2_with fail
    refine (rValid_any P _ ss _ hP1 hP2 (Hv.out.grow gw)).mono ?_
    rintro e w3 ⟨rfl, g3⟩
    have e0 := g3.keeps d0
    have e1 := g3.keeps d1
    have gx := gw.trans g3
    clear d0 d1 dl gw g3
    have d0 := e0
    have d1 := e1
    have gw := gx
    clear e0 e1 gx
    have dl := lt_of_cell d0
    cases hval : validB P ss
    · go_wp2_with fail
      refine (lalive_any _).mono ?_
      rintro e w7 ⟨rfl, g7⟩
      go_wp2_with fail
      go_ret
      exact ⟨rfl, gw.trans g7⟩
    · by_cases h2 : ss.length < 2
      · have E1 : decide ((ss.length : Int) < 2) = true := decide_eq_true (by omega)
        have F1 : decide (ss.length < 2) = true := decide_eq_true h2
        go_wp2_with fail
        refine (lalive_any _).mono ?_
        rintro e w7 ⟨rfl, g7⟩
        go_wp2_with fail
        go_ret
        exact ⟨rfl, gw.trans g7⟩
      · by_cases h4 : 4 ≤ ss.length
        · have E1 : decide ((ss.length : Int) < 2) = false := decide_eq_false (by omega)
          have F1 : decide (ss.length < 2) = false := decide_eq_false h2
          have E2 : decide ((4 : Int) ≤ ss.length) = true := decide_eq_true (by omega)
          have F2 : decide (4 ≤ ss.length) = true := decide_eq_true h4
          go_wp2_with fail
          refine (lalive_any _).mono ?_
          rintro e w7 ⟨rfl, g7⟩
          go_wp2_with fail
          go_ret
          exact ⟨rfl, gw.trans g7⟩
        · have h2' : (2 : Int) ≤ ss.length := by omega
          have h4' : (ss.length : Int) < 4 := by omega
          obtain ⟨vp1, _, _⟩ := valid_parts hval
          have Hval := Lib.hid hval
          have E1 : decide ((ss.length : Int) < 2) = false := decide_eq_false (by omega)
          have F1 : decide (ss.length < 2) = false := decide_eq_false h2
          have E2 : decide ((4 : Int) ≤ ss.length) = false := decide_eq_false (by omega)
          have F2 : decide (4 ≤ ss.length) = false := decide_eq_false h4
          clear hval
          go_wp2_with fail
          refine (lwith_any P ss s a cap B _ _ (Hv.out.grow gw) (by omega) (by omega) (Hu.out.grow gw) d0 d1).mono ?_
          rintro e w4 ⟨xv, rfl, xs, g4⟩
          have e0 := g4.keeps d0
          have e1 := g4.keeps d1
          have gx := gw.trans g4
          clear d0 d1 dl gw g4
          have dl := lt_of_cell e0
          have h2n : 2 ≤ ss.length := by omega
          clear h2 h4
          obtain ⟨xa, xc, hxv, _⟩ := id xs
          have Hxs := Lib.hid xs
          clear xs
          subst hxv
          obtain ⟨N, hN⟩ : ∃ N, (ss ++ [s]).length = N := ⟨_, rfl⟩
          rw [hN] at Hxs
          rw [hN]
          clear hN
          go_wp2_with fail
          obtain ⟨wx, hwx⟩ : ∃ wx, w4.alloc (.cells #[.int .i64 P, .slice xa N xc] 24) = wx := ⟨_, rfl⟩
          obtain ⟨BX, hBX⟩ : ∃ BX, w4.heap.size = BX := ⟨_, rfl⟩
          have gX : Grow w4 wx := by rw [← hwx]; exact (Grow.refl w4).alloc _
          have x0 : wx.cell? ⟨BX, 0, none⟩ = some (.int .i64 P) := by rw [← hwx]; exact cell_new hBX.symm rfl
          have x1 : wx.cell? ⟨BX, 1, none⟩ = some (.slice xa N xc) := by rw [← hwx]; exact cell_new hBX.symm rfl
          have d0 := gX.keeps e0
          have d1 := gX.keeps e1
          have gw := gx.trans gX
          have Hxs := Lib.hid (Hxs.out.grow gX)
          have gv : Grow wx wx := Grow.refl _
          rw [hwx, hBX]
          clear hwx hBX e0 e1 gx gX dl
          have dl := lt_of_cell d0
          have dx := lt_of_cell x0
          obtain ⟨a1, ha1⟩ : ∃ a1, countR P ss = a1 := ⟨_, rfl⟩
          obtain ⟨b1, hb1⟩ : ∃ b1, countR P (ss ++ [s]) = b1 := ⟨_, rfl⟩
          obtain ⟨f1, hf1⟩ : ∃ f1, validE P (ss ++ [s]) = f1 := ⟨_, rfl⟩
          have QC := pCount_any P _ ss _ (Hv.out.grow gw)
          rw [ha1, show validE P ss = 0 by unfold validE; rw [if_pos Hval.out]] at QC
          have QX : Hid (∀ V, Grow wx V → Calls Try.prog 15 #[.agg #[.int .i64 P, .slice xa N xc]] V fun e w' => e = .returned (.tuple #[.int .i64 b1, .int .i64 f1]) ∧ Grow V w') := fun V hV => by
            have h := pCount_any P _ (ss ++ [s]) V (Hxs.out.grow hV)
            rw [hb1, hf1] at h
            exact h
          have Ha1 := Lib.hid ha1
          have Hb1 := Lib.hid hb1
          have Hf1 := Lib.hid hf1
          clear ha1 hb1 hf1
          refine (QC).mono ?_
          rintro e w5 ⟨rfl, g5⟩
          have d0_ := g5.keeps d0
          have d1_ := g5.keeps d1
          have x0_ := g5.keeps x0
          have x1_ := g5.keeps x1
          have gw_ := gw.trans g5
          have gv_ := gv.trans g5
          clear d0 d1 x0 x1 gw gv
          have d0 := d0_
          have d1 := d1_
          have x0 := x0_
          have x1 := x1_
          have gw := gw_
          have gv := gv_
          clear d0_ d1_ x0_ x1_ gw_ gv_
          have dl := lt_of_cell d0
          have dx := lt_of_cell x0
          go_wp2_with fail
          (try clear dl)
          (try clear dx)
          refine (QX.out _ gv).mono ?_
          rintro e w6 ⟨rfl, g6⟩
          have d0_ := g6.keeps d0
          have d1_ := g6.keeps d1
          have x0_ := g6.keeps x0
          have x1_ := g6.keeps x1
          have gw_ := gw.trans g6
          have gv_ := gv.trans g6
          clear d0 d1 x0 x1 gw gv
          have d0 := d0_
          have d1 := d1_
          have x0 := x0_
          have x1 := x1_
          have gw := gw_
          have gv := gv_
          clear d0_ d1_ x0_ x1_ gw_ gv_
          have dl := lt_of_cell d0
          have dx := lt_of_cell x0
          go_wp2_with fail
          (try clear dl)
          (try clear dx)
          refine (rValid_any P _ (ss ++ [s]) _ hP1 hP2 (Hxs.out.grow gv)).mono ?_
          rintro e w7 ⟨rfl, g7⟩
          have d0_ := g7.keeps d0
          have d1_ := g7.keeps d1
          have x0_ := g7.keeps x0
          have x1_ := g7.keeps x1
          have gw_ := gw.trans g7
          have gv_ := gv.trans g7
          clear d0 d1 x0 x1 gw gv QC
          have d0 := d0_
          have d1 := d1_
          have x0 := x0_
          have x1 := x1_
          have gw := gw_
          have gv := gv_
          clear d0_ d1_ x0_ x1_ gw_ gv_
          have dl := lt_of_cell d0
          have dx := lt_of_cell x0
          cases hvx : validB P (ss ++ [s])
          · obtain rfl : f1 = 1 := by rw [← Hf1.out]; unfold validE; rw [if_neg (by simp [hvx])]
            obtain rfl : b1 = 0 := by rw [← Hb1.out]; unfold countR; rw [if_neg (by simp [hvx])]
            go_wp2_with fail
            refine (lalive_any _).mono ?_
            rintro e w9 ⟨rfl, g9⟩
            go_wp2_with fail
            go_ret
            exact ⟨rfl, gw.trans g9⟩
          · obtain rfl : f1 = 0 := by rw [← Hf1.out]; unfold validE; rw [if_pos hvx]
            have ha1 : ((truthsR P.toNat ss).1.length : Int) = a1 := by rw [← Ha1.out]; unfold countR; rw [if_pos Hval.out]
            have hb1 : ((truthsR P.toNat (ss ++ [s])).1.length : Int) = b1 := by rw [← Hb1.out]; unfold countR; rw [if_pos hvx]
            obtain ⟨_, hba, hnm⟩ := more_facts (P := P) (s := s) h2n
            have Hvx := Lib.hid hvx
            clear hvx Hf1 Ha1 Hb1
            obtain ⟨g, hg0⟩ : ∃ g, errOf P ss true = g := ⟨_, rfl⟩
            obtain ⟨h, hh0⟩ : ∃ h, errOf P (ss ++ [s]) true = h := ⟨_, rfl⟩
            obtain ⟨n, hn0⟩ : ∃ n, (truthsE P ss g).2 = n := ⟨_, rfl⟩
            obtain ⟨m, hm0⟩ : ∃ m, (truthsE P (ss ++ [s]) h).2 = m := ⟨_, rfl⟩
            have hcond : (h = 0 ∧ 0 < b1 ∧ g = 0 ∧ n ≤ m) ∨ (h = 10 ∧ b1 = 0) := by
              by_cases hTx : (truthsR P.toNat (ss ++ [s])).1 = []
              · right
                refine ⟨?_, by rw [← hb1, hTx]; rfl⟩
                rw [← hh0]; unfold errOf; rw [if_neg (by simp [Hvx.out]), if_neg (by simp), if_pos hTx]
              · left
                have hpos : 0 < (truthsR P.toNat (ss ++ [s])).1.length := List.length_pos_iff.2 hTx
                have hT : (truthsR P.toNat ss).1 ≠ [] := List.length_pos_iff.1 (by omega)
                obtain rfl : h = 0 := by rw [← hh0]; exact errOf_ok Hvx.out rfl hTx
                obtain rfl : g = 0 := by rw [← hg0]; exact errOf_ok Hval.out rfl hT
                have e1 : (truthsE P ss 0).2 = (truthsR P.toNat ss).2 := rfl
                have e2 : (truthsE P (ss ++ [s]) 0).2 = (truthsR P.toNat (ss ++ [s])).2 := rfl
                exact ⟨rfl, by omega, rfl, by omega⟩
            have hba1 : b1 ≤ a1 := by omega
            have QF : Hid (∀ V, Grow w V → Calls Try.prog 13 #[.agg #[.int .i64 P, .slice a ss.length cap]] V fun e w' => e = .returned (.tuple #[.int .i64 n, .int .i64 g]) ∧ Grow V w') := fun V hV => by
              have q := pFewest_any P _ ss V (Hv.out.grow hV)
              rw [hg0, hn0] at q
              exact q
            have QG : Hid (∀ V, Grow wx V → Calls Try.prog 13 #[.agg #[.int .i64 P, .slice xa N xc]] V fun e w' => e = .returned (.tuple #[.int .i64 m, .int .i64 h]) ∧ Grow V w') := fun V hV => by
              have q := pFewest_any P _ (ss ++ [s]) V (Hxs.out.grow hV)
              rw [hh0, hm0] at q
              exact q
            have Hn0 := Lib.hid hn0
            have Hg0 := Lib.hid hg0
            clear ha1 hb1 hba hnm hn0 hg0 hm0 hh0
            go_wp2_with fail
            refine (QF.out _ gw).mono ?_
            rintro e w8 ⟨rfl, g8⟩
            have d0_ := g8.keeps d0
            have d1_ := g8.keeps d1
            have x0_ := g8.keeps x0
            have x1_ := g8.keeps x1
            have gw_ := gw.trans g8
            have gv_ := gv.trans g8
            clear d0 d1 x0 x1 gw gv
            have d0 := d0_
            have d1 := d1_
            have x0 := x0_
            have x1 := x1_
            have gw := gw_
            have gv := gv_
            clear d0_ d1_ x0_ x1_ gw_ gv_
            have dl := lt_of_cell d0
            have dx := lt_of_cell x0
            go_wp2_with fail
            (try clear dl)
            (try clear dx)
            refine (QG.out _ gv).mono ?_
            rintro e w9 ⟨rfl, g9⟩
            have d0_ := g9.keeps d0
            have d1_ := g9.keeps d1
            have x0_ := g9.keeps x0
            have x1_ := g9.keeps x1
            have gw_ := gw.trans g9
            have gv_ := gv.trans g9
            clear d0 d1 x0 x1 gw gv
            have d0 := d0_
            have d1 := d1_
            have x0 := x0_
            have x1 := x1_
            have gw := gw_
            have gv := gv_
            clear d0_ d1_ x0_ x1_ gw_ gv_
            have dl := lt_of_cell d0
            have dx := lt_of_cell x0
            go_upto_region 11 with fail
            go_cut [122] (fun s122 V => s122 = .bool false ∧ w9 = V)
            case first =>
              rcases hcond with ⟨rfl, hb0, rfl, hnm⟩ | ⟨rfl, rfl⟩
              · have E1 : decide (a1 < b1) = false := decide_eq_false (by omega)
                have E2 : decide (0 < b1) = true := decide_eq_true hb0
                have E3 : decide (m < n) = false := decide_eq_false (by omega)
                clear hb0 hnm hba1 QF QG QX
                go_wp2_with fail
                go_meet
                exact ⟨rfl, rfl⟩
              · have E1 : decide (a1 < 0) = false := decide_eq_false (by omega)
                clear QF QG QX hba1
                go_wp2_with fail
                go_meet
                exact ⟨rfl, rfl⟩
            case rest =>
              obtain ⟨rfl, rfl⟩ := hcut
              clear hcond QF QG QX hba1
              go_wp2_with fail
              go_loopw [125] (fun i wr => ∃ p : Nat, (p : Int) ≤ P ∧ i = .int .i64 p ∧ Grow w9 wr) (fun i _ => (P - intOf i).toNat)
              case atStart => exact ⟨0, by omega, rfl, Grow.refl _⟩
              case round =>
                obtain ⟨p, hp, rfl, hg⟩ := hrel
                have e0 := hg.keeps d0
                have e1 := hg.keeps d1
                have y0 := hg.keeps x0
                have y1 := hg.keeps x1
                have hw := gw.trans hg
                have hx := gv.trans hg
                have dl := lt_of_cell e0
                have dx := lt_of_cell y0
                by_cases hlt : (p : Int) < P
                · skip
                  have ML := more_laps (s := s) Hval.out h2n Hvx.out p hlt
                  have QC : Hid (∀ V, Grow w V → Calls Try.prog 26 #[.agg #[.int .i64 P, .slice a ss.length cap], .int .i64 p] V fun e w' => e = .returned (.tuple #[.int .i64 (lapsR P ss p), .int .i64 (errOf P ss (inB p 0 (P - 1)))]) ∧ Grow V w') := fun V hV => pLaps_any P p _ ss V hP1 hP2 (Hv.out.grow hV)
                  have QX : Hid (∀ V, Grow wx V → Calls Try.prog 26 #[.agg #[.int .i64 P, .slice xa N xc], .int .i64 p] V fun e w' => e = .returned (.tuple #[.int .i64 (lapsR P (ss ++ [s]) p), .int .i64 (errOf P (ss ++ [s]) (inB p 0 (P - 1)))]) ∧ Grow V w') := fun V hV => pLaps_any P p _ (ss ++ [s]) V hP1 hP2 (Hxs.out.grow hV)
                  obtain ⟨l1, hl1⟩ : ∃ l1, lapsR P ss p = l1 := ⟨_, rfl⟩
                  obtain ⟨i1, hi1⟩ : ∃ i1, errOf P ss (inB p 0 (P - 1)) = i1 := ⟨_, rfl⟩
                  obtain ⟨k1, hk1⟩ : ∃ k1, lapsR P (ss ++ [s]) p = k1 := ⟨_, rfl⟩
                  obtain ⟨j1, hj1⟩ : ∃ j1, errOf P (ss ++ [s]) (inB p 0 (P - 1)) = j1 := ⟨_, rfl⟩
                  rw [hl1, hi1] at ML QC
                  rw [hk1, hj1] at ML QX
                  have HML := Lib.hid ML
                  clear hl1 hi1 hk1 hj1 ML
                  go_wp2_with fail
                  refine (QC.out _ hw).mono ?_
                  rintro e w10 ⟨rfl, g10⟩
                  have e0_ := g10.keeps e0
                  have e1_ := g10.keeps e1
                  have y0_ := g10.keeps y0
                  have y1_ := g10.keeps y1
                  have hw_ := hw.trans g10
                  have hx_ := hx.trans g10
                  clear e0 e1 y0 y1 hw hx
                  have e0 := e0_
                  have e1 := e1_
                  have y0 := y0_
                  have y1 := y1_
                  have hw := hw_
                  have hx := hx_
                  clear e0_ e1_ y0_ y1_ hw_ hx_
                  have dl := lt_of_cell e0
                  have dx := lt_of_cell y0
                  go_wp2_with fail
                  (try clear dl)
                  (try clear dx)
                  refine (QX.out _ hx).mono ?_
                  rintro e w11 ⟨rfl, g11⟩
                  have f0 := g11.keeps e0
                  have f1 := g11.keeps e1
                  have z0 := g11.keeps y0
                  have z1 := g11.keeps y1
                  have hw := hw.trans g11
                  have hx := hx.trans g11
                  clear e0 e1 y0 y1 QC QX
                  have dl := lt_of_cell f0
                  have dx := lt_of_cell z0
                  have hG := Lib.hid (hg.trans (g10.trans g11))
                  by_cases hj : j1 = 0
                  case' pos =>
                    subst hj
                    obtain ⟨rfl, hand⟩ := HML.out rfl
                    go_wp2_with fail
                    clear hand
                  case' neg =>
                    have E1 : (j1 == 0) = false := beq_eq_false_iff_ne.2 hj
                    clear hj
                    go_wp2_with fail
                    clear E1
                  all_goals
                    go_loopw [153] (fun i wr => ∃ q : Nat, q ≤ p ∧ i = .int .i64 q ∧ Grow w11 wr) (fun i _ => p - (intOf i).toNat)
                    case atStart => exact ⟨0, Nat.zero_le _, rfl, Grow.refl _⟩
                    case round =>
                      obtain ⟨q, hq, rfl, hg2⟩ := hrel
                      have e0 := hg2.keeps f0
                      have e1 := hg2.keeps f1
                      have y0 := hg2.keeps z0
                      have y1 := hg2.keeps z1
                      have hw2 := hw.trans hg2
                      have hx2 := hx.trans hg2
                      have dl := lt_of_cell e0
                      have dx := lt_of_cell y0
                      by_cases hlq : q < p
                      · have ML := more_leads (s := s) Hval.out h2n Hvx.out p q hlt (by omega) (by omega)
                        have QC : Hid (∀ V, Grow w V → Calls Try.prog 27 #[.agg #[.int .i64 P, .slice a ss.length cap], .int .i64 p, .int .i64 q] V fun e w' => e = .returned (.tuple #[.agg #[.int .i64 (leadR P ss p q).1, .int .i64 (leadR P ss p q).2], .int .i64 (errOf P ss (pairsB P p q))]) ∧ Grow V w') := fun V hV => pLead_any P p q _ ss V hP1 hP2 (Hv.out.grow hV)
                        have QX : Hid (∀ V, Grow wx V → Calls Try.prog 27 #[.agg #[.int .i64 P, .slice xa N xc], .int .i64 p, .int .i64 q] V fun e w' => e = .returned (.tuple #[.agg #[.int .i64 (leadR P (ss ++ [s]) p q).1, .int .i64 (leadR P (ss ++ [s]) p q).2], .int .i64 (errOf P (ss ++ [s]) (pairsB P p q))]) ∧ Grow V w') := fun V hV => pLead_any P p q _ (ss ++ [s]) V hP1 hP2 (Hxs.out.grow hV)
                        obtain ⟨lo1, hl1⟩ : ∃ z, (leadR P ss p q).1 = z := ⟨_, rfl⟩
                        obtain ⟨hi1, hh1⟩ : ∃ z, (leadR P ss p q).2 = z := ⟨_, rfl⟩
                        obtain ⟨i2, hi2⟩ : ∃ z, errOf P ss (pairsB P p q) = z := ⟨_, rfl⟩
                        obtain ⟨lo2, hl2⟩ : ∃ z, (leadR P (ss ++ [s]) p q).1 = z := ⟨_, rfl⟩
                        obtain ⟨hi3, hh2⟩ : ∃ z, (leadR P (ss ++ [s]) p q).2 = z := ⟨_, rfl⟩
                        obtain ⟨j2, hj2⟩ : ∃ z, errOf P (ss ++ [s]) (pairsB P p q) = z := ⟨_, rfl⟩
                        rw [hl1, hh1, hi2] at ML QC
                        rw [hl2, hh2, hj2] at ML QX
                        have HML2 := Lib.hid ML
                        clear hl1 hh1 hi2 hl2 hh2 hj2 ML
                        go_wp2_with fail
                        refine (QC.out _ hw2).mono ?_
                        rintro e w12 ⟨rfl, g12⟩
                        have y0 := g12.keeps y0
                        have y1 := g12.keeps y1
                        have hx3 := hx2.trans g12
                        have dx := lt_of_cell y0
                        have hG2 := hg2.trans g12
                        clear e0 e1 dl
                        go_wp2_with fail
                        obtain ⟨wa, hwa⟩ : ∃ wa, w12.alloc (.cells #[.int .i64 lo1, .int .i64 hi1] 36) = wa := ⟨_, rfl⟩
                        obtain ⟨B1, hB1⟩ : ∃ B1, w12.heap.size = B1 := ⟨_, rfl⟩
                        have ga : Grow w12 wa := by rw [← hwa]; exact (Grow.refl w12).alloc _
                        have s0 : wa.cell? ⟨B1, 0, none⟩ = some (.int .i64 lo1) := by rw [← hwa]; exact cell_new hB1.symm rfl
                        have s1 : wa.cell? ⟨B1, 1, none⟩ = some (.int .i64 hi1) := by rw [← hwa]; exact cell_new hB1.symm rfl
                        rw [hwa, hB1]
                        clear hwa hB1
                        refine (QX.out _ (hx3.trans ga)).mono ?_
                        rintro e wb ⟨rfl, gb⟩
                        have s0 := gb.keeps s0
                        have s1 := gb.keeps s1
                        have hG3 := (hG2.trans ga).trans gb
                        have ls := lt_of_cell s0
                        clear y0 y1 dx
                        go_upto_region 25 with fail
                        obtain ⟨wc, hwc⟩ : ∃ wc, wb.alloc (.cells #[.int .i64 lo2, .int .i64 hi3] 36) = wc := ⟨_, rfl⟩
                        obtain ⟨B2, hB2⟩ : ∃ B2, wb.heap.size = B2 := ⟨_, rfl⟩
                        have gc : Grow wb wc := by rw [← hwc]; exact (Grow.refl wb).alloc _
                        have t0 : wc.cell? ⟨B2, 0, none⟩ = some (.int .i64 lo2) := by rw [← hwc]; exact cell_new hB2.symm rfl
                        have t1 : wc.cell? ⟨B2, 1, none⟩ = some (.int .i64 hi3) := by rw [← hwc]; exact cell_new hB2.symm rfl
                        have s0 := gc.keeps s0
                        have s1 := gc.keeps s1
                        have hG4 := hG3.trans gc
                        rw [hwc, hB2]
                        clear hwc hB2 ls QC QX
                        by_cases hj : j2 = 0
                        · subst hj
                          obtain ⟨rfl, hlo, hhi⟩ := HML2.out rfl
                          have E1 : decide (lo2 < lo1) = false := decide_eq_false (by omega)
                          have E2 : decide (hi1 < hi3) = false := decide_eq_false (by omega)
                          go_wp2_with fail
                          exact ⟨⟨q + 1, by omega, by go_num, hG4⟩, by simp [intOf]; omega⟩
                        · have E1 : (j2 == 0) = false := beq_eq_false_iff_ne.2 hj
                          clear hj
                          go_wp2_with fail
                          exact ⟨⟨q + 1, by omega, by go_num, hG4⟩, by simp [intOf]; omega⟩
                      · go_wp2_with fail
                        exact ⟨⟨p + 1, by omega, by go_num, hG.out.trans hg2⟩, by simp [intOf]; omega⟩
                · skip
                  by_cases hT : (truthsR P.toNat ss).1 = []
                  · have he : errOf P ss true = 10 := by unfold errOf; rw [if_neg (by simp [Hval.out]), if_neg (by simp), if_pos hT]
                    have QF := pFirst_any P _ ss _ (Hv.out.grow hw)
                    rw [he] at QF
                    clear hT
                    go_wp2_with fail
                    refine QF.mono ?_
                    rintro e w10 ⟨v9, rfl, g10, i9⟩
                    obtain ⟨la, lc, rfl, _, _, _⟩ := id i9
                    go_wp2_with fail
                    refine (lalive_any _).mono ?_
                    rintro e w11 ⟨rfl, g11⟩
                    go_wp2_with fail
                    go_ret
                    exact ⟨rfl, (hw.trans g10).trans g11⟩
                  · have he : errOf P ss true = 0 := errOf_ok Hval.out rfl hT
                    have hn : (truthsR P.toNat ss).2 = n := by
                      have h := Hn0.out
                      rw [← Hg0.out, he] at h
                      exact h
                    have QF := pFirst_any P _ ss _ (Hv.out.grow hw)
                    rw [he] at QF
                    have hmem := first_mem hT
                    obtain ⟨l, hl⟩ : ∃ l, (truthsR P.toNat ss).1.headD [] = l := ⟨_, rfl⟩
                    rw [show (truthsE P ss 0).1.headD [] = l from hl] at QF
                    rw [hl] at hmem
                    have hl12 := truths_12 Hval.out l hmem
                    have hrace := truth_race Hval.out hmem
                    have hone := more_only (P := P) h2n hmem
                    rw [hn] at hone
                    have Hone := Lib.hid hone
                    have Hrace := Lib.hid hrace
                    clear hT hl hmem he hn hone hrace
                    go_wp2_with fail
                    refine QF.mono ?_
                    rintro e w10 ⟨v9, rfl, g10, i9⟩
                    obtain ⟨la, lc, rfl, hlc, hl8, _⟩ := id i9
                    have e0 := g10.keeps e0
                    have e1 := g10.keeps e1
                    have hw := hw.trans g10
                    have dl := lt_of_cell e0
                    have I9 := Lib.hid i9
                    clear i9 y0 y1 dx QF
                    by_cases h6 : 6 < l.length
                    · have E1 : decide ((6 : Int) < l.length) = true := decide_eq_true (by omega)
                      have F1 : decide (6 < l.length) = true := decide_eq_true h6
                      go_wp2_with fail
                      refine (lalive_any _).mono ?_
                      rintro e w11 ⟨rfl, g11⟩
                      go_wp2_with fail
                      go_ret
                      exact ⟨rfl, hw.trans g11⟩
                    · have E1 : decide ((6 : Int) < l.length) = false := decide_eq_false (by omega)
                      have F1 : decide (6 < l.length) = false := decide_eq_false h6
                      have hvo : validB P (ss ++ [l]) = true := valid_more Hval.out (by omega) (by omega) Hrace.out
                      have RC : Hid (∀ V z, IsSheets V z (ss ++ [l]) → Calls Try.prog 15 #[.agg #[.int .i64 P, z]] V fun e w' => e = .returned (.tuple #[.int .i64 1, .int .i64 0]) ∧ Grow V w') := fun V z hz => by
                        have h := pCount_any P z (ss ++ [l]) V hz
                        rw [show countR P (ss ++ [l]) = 1 by unfold countR; rw [if_pos hvo, Hone.out]; rfl, show validE P (ss ++ [l]) = 0 by unfold validE; rw [if_pos hvo]] at h
                        exact h
                      have heo : errOf P (ss ++ [l]) true = 0 := errOf_ok hvo rfl (by rw [Hone.out]; simp)
                      have RF : Hid (∀ V z, IsSheets V z (ss ++ [l]) → Calls Try.prog 17 #[.agg #[.int .i64 P, z]] V (FirstPost V 0 l)) := fun V z hz => by
                        have h := pFirst_any P z (ss ++ [l]) V hz
                        rw [heo, show (truthsE P (ss ++ [l]) 0).1.headD [] = l by show (truthsR P.toNat (ss ++ [l])).1.headD [] = l; rw [Hone.out]; rfl] at h
                        exact h
                      have RW : Hid (∀ V z, IsSheets V z (ss ++ [l]) → Calls Try.prog 13 #[.agg #[.int .i64 P, z]] V fun e w' => e = .returned (.tuple #[.int .i64 n, .int .i64 0]) ∧ Grow V w') := fun V z hz => by
                        have h := pFewest_any P z (ss ++ [l]) V hz
                        rw [heo, show (truthsE P (ss ++ [l]) 0).2 = n by show (truthsR P.toNat (ss ++ [l])).2 = n; rw [Hone.out]] at h
                        exact h
                      clear hvo heo h6
                      go_wp2_with fail
                      refine (lwith_any P ss l a cap B _ _ (Hv.out.grow hw) (by omega) (by omega) I9.out e0 e1).mono ?_
                      rintro e w11 ⟨ov, rfl, os, g11⟩
                      have I9 := Lib.hid (I9.out.grow g11)
                      have hw := hw.trans g11
                      obtain ⟨oa, oc, hov, _⟩ := id os
                      have Hos := Lib.hid os
                      clear os e0 e1 dl
                      subst hov
                      obtain ⟨M, hM⟩ : ∃ M, (ss ++ [l]).length = M := ⟨_, rfl⟩
                      rw [hM] at Hos
                      rw [hM]
                      clear hM
                      go_wp2_with fail
                      obtain ⟨wo, hwo⟩ : ∃ wo, w11.alloc (.cells #[.int .i64 P, .slice oa M oc] 24) = wo := ⟨_, rfl⟩
                      obtain ⟨BO, hBO⟩ : ∃ BO, w11.heap.size = BO := ⟨_, rfl⟩
                      have gO : Grow w11 wo := by rw [← hwo]; exact (Grow.refl w11).alloc _
                      have o0 : wo.cell? ⟨BO, 0, none⟩ = some (.int .i64 P) := by rw [← hwo]; exact cell_new hBO.symm rfl
                      have o1 : wo.cell? ⟨BO, 1, none⟩ = some (.slice oa M oc) := by rw [← hwo]; exact cell_new hBO.symm rfl
                      have hw := hw.trans gO
                      have I9 := Lib.hid (I9.out.grow gO)
                      have Hos := Lib.hid (Hos.out.grow gO)
                      rw [hwo, hBO]
                      clear hwo hBO
                      have dl := lt_of_cell o0
                      refine (RC.out _ _ Hos.out).mono ?_
                      rintro e w13 ⟨rfl, g13⟩
                      have o0 := g13.keeps o0
                      have o1 := g13.keeps o1
                      have hw := hw.trans g13
                      have I9 := Lib.hid (I9.out.grow g13)
                      have Hos := Lib.hid (Hos.out.grow g13)
                      have dl := lt_of_cell o0
                      go_wp2_with fail
                      refine (RF.out _ _ Hos.out).mono ?_
                      rintro e w14 ⟨v14, rfl, g14, i14⟩
                      have o0 := g14.keeps o0
                      have o1 := g14.keeps o1
                      have hw := hw.trans g14
                      have I9 := Lib.hid (I9.out.grow g14)
                      have Hos := Lib.hid (Hos.out.grow g14)
                      have I14 := Lib.hid i14
                      obtain ⟨ka, kc, rfl, _, _, _⟩ := id i14
                      clear i14
                      have dl := lt_of_cell o0
                      go_wp2_with fail
                      refine (RW.out _ _ Hos.out).mono ?_
                      rintro e w15 ⟨rfl, g15⟩
                      have hw := hw.trans g15
                      have I9 := Lib.hid (I9.out.grow g15)
                      have I14 := Lib.hid (I14.out.grow g15)
                      go_wp2_with fail
                      refine (rInts_any _ _ l l _ I14.out I9.out).mono ?_
                      rw [beq_self_eq_true]
                      rintro e w16 ⟨rfl, g16⟩
                      go_wp2_with fail
                      refine (lalive_any _).mono ?_
                      rintro e w17 ⟨rfl, g17⟩
                      go_wp2_with fail
                      go_ret
                      exact ⟨rfl, (hw.trans g16).trans g17⟩
  · go_wp2_with fail
    refine (lalive_any _).mono ?_
    rintro e w3 ⟨rfl, g3⟩
    go_wp2_with fail
    go_ret
    exact ⟨rfl, gw.trans g3⟩
end Go.Proofs.Yteijilbdllpbcaa
