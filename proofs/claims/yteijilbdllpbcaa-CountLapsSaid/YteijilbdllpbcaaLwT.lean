/- The law CountLaps: the walk. Conditions: sizes. -/
import Derived.Test.YteijilbdllpbcaaLwB
import Derived.Test.YteijilbdllpbcaaLwC
import Derived.Test.YteijilbdllpbcaaPlL
namespace Go.Proofs.Yteijilbdllpbcaa
open Go.RowKit

set_option maxRecDepth 100000 in
set_option maxHeartbeats 8000000 in
theorem lcountLaps (P : Int) (v : Value) (ss : List (List Int)) (w : World) (hP1 : -9223372036854775808 ≤ P) (hP2 : P ≤ 9223372036854775807) (hv : IsSheets w v ss) (hs : ss.length * 24 ≤ 140737488351232) (hnil : ∀ n cap, v = .slice none n cap → cap = 0) :
    Calls Try.prog 7 #[.agg #[.int .i64 P, v]] w fun e w' => e = .returned (.bool true) ∧ Grow w w' := by
  obtain ⟨a, cap, rfl, hcap, hlen, hrow⟩ := id hv
  have Hv := Lib.hid hv
  obtain ⟨c, hc⟩ : ∃ c, errOf P ss true = c := ⟨_, rfl⟩
  obtain ⟨l, hl⟩ : ∃ l, (truthsE P ss c).1.headD [] = l := ⟨_, rfl⟩
  have PR : Hid (∀ V, Grow w V → Calls Try.prog 17 #[.agg #[.int .i64 P, .slice a ss.length cap]] V (FirstPost V c l)) := fun V hV => by
    have := pFirst_any P _ ss V (hv.grow hV)
    rw [hc, hl] at this
    exact this
  have Hc := Lib.hid hc
  have Hl := Lib.hid hl
  clear hv hrow hc hl
  go_enter Try.func7, Try.ntmps7
  go_wp2_with fail
  obtain ⟨B, hB⟩ : ∃ B, w.heap.size = B := ⟨_, rfl⟩
  obtain ⟨w1, hw1⟩ : ∃ w1, w.alloc (.cells #[.int .i64 P, .slice a ss.length cap] 24) = w1 := ⟨_, rfl⟩
  have g1 : Grow w w1 := by rw [← hw1]; exact (Grow.refl w).alloc _
  have c0 : w1.cell? ⟨B, 0, none⟩ = some (.int .i64 P) := by rw [← hw1]; exact cell_new hB.symm rfl
  have c1 : w1.cell? ⟨B, 1, none⟩ = some (.slice a ss.length cap) := by rw [← hw1]; exact cell_new hB.symm rfl
  rw [hw1, hB]
  clear hw1 hB
  refine (llong_any 0 P _ _ ss [] _ (Hv.out.grow g1) hs (Own.nil _ _ _) (Nat.zero_le _) (by simp) (by simp) hnil).mono ?_
  rintro e w2 ⟨⟨b, rfl⟩, hb2⟩
  have g2 : Grow w1 w2 := grownBy_below hb2 (by intro k hk; have hk : none = some k := hk; cases hk) (by simp)
  have d0 := g2.keeps c0
  have d1 := g2.keeps c1
  have gw := g1.trans g2
  clear hb2 c0 c1 g1 g2 hnil
  have dl := lt_of_cell d0
  cases b
  · go_wp2_with fail
    refine (rValid_any P _ ss _ hP1 hP2 (Hv.out.grow gw)).mono ?_
    rintro e w3 ⟨rfl, g3⟩
    have e0 := g3.keeps d0
    have e1 := g3.keeps d1
    have gx := gw.trans g3
    clear d0 d1 dl gw g3
    have dl := lt_of_cell e0
    cases hval : validB P ss
    · clear PR
      go_wp2_with fail
      refine (lalive_any _).mono ?_
      rintro e w7 ⟨rfl, g7⟩
      go_wp2_with fail
      go_ret
      exact ⟨rfl, gx.trans g7⟩
    · go_wp2_with fail
      refine (PR.out _ gx).mono ?_
      rintro e w5 ⟨v5, rfl, g5, i5⟩
      have d0 := g5.keeps e0
      have d1 := g5.keeps e1
      have gw := gx.trans g5
      clear e0 e1 dl gx g5
      have dl := lt_of_cell d0
      obtain ⟨la, lc, rfl, hlc, hl8, hlr⟩ := id i5
      have I5 := Lib.hid i5
      clear i5 hlr
      by_cases hT : (truthsR P.toNat ss).1 = []
      · obtain rfl : c = 10 := by rw [← Hc.out]; unfold errOf; rw [if_neg (by simp [hval]), if_neg (by simp), if_pos hT]
        clear Hc Hl PR
        go_wp2_with fail
        refine (lalive_any _).mono ?_
        rintro e w7 ⟨rfl, g7⟩
        go_wp2_with fail
        go_ret
        exact ⟨rfl, gw.trans g7⟩
      · obtain rfl : c = 0 := by rw [← Hc.out]; unfold errOf; rw [if_neg (by simp [hval]), if_neg (by simp), if_neg hT]
        have hl : (truthsR P.toNat ss).1.headD [] = l := Hl.out
        have hmem : l ∈ (truthsR P.toNat ss).1 := by rw [← hl]; exact first_mem hT
        obtain ⟨vp1, vp2, _⟩ := valid_parts hval
        have Hmem := Lib.hid hmem
        have HT := Lib.hid hT
        have Hval := Lib.hid hval
        obtain ⟨T, hTT⟩ : ∃ T, (truthsR P.toNat ss).1 = T := ⟨_, rfl⟩
        have h12 : ∀ t ∈ T, t.length ≤ 12 := by rw [← hTT]; exact truths_12 hval
        have PL : Hid (∀ (p : Nat), (p : Int) < P → ∀ V, Grow w V → Calls Try.prog 26 #[.agg #[.int .i64 P, .slice a ss.length cap], .int .i64 p] V fun e w' => e = .returned (.tuple #[.int .i64 (lapN T p : Nat), .int .i64 0]) ∧ Grow V w') := fun p hp V hV => by
          have h := pLaps_any P p _ ss V hP1 hP2 (Hv.out.grow hV)
          obtain ⟨e1, e2⟩ := lapsR_N (p := (p : Int)) hval ⟨by omega, hp⟩ hT
          rw [e1, e2, hTT] at h
          exact h
        have PX : Hid (∀ V, Grow w V → Calls Try.prog 26 #[.agg #[.int .i64 P, .slice a ss.length cap], .int .i64 P] V fun e w' => (∃ z : Int, e = .returned (.tuple #[.int .i64 z, .int .i64 2])) ∧ Grow V w') := fun V hV => by
          have h := pLaps_any P P _ ss V hP1 hP2 (Hv.out.grow hV)
          rw [errOf_two (b := inB P 0 (P - 1)) hval (inB_false.2 (by omega))] at h
          exact h.mono fun e w' ⟨h1, h2⟩ => ⟨⟨_, h1⟩, h2⟩
        have PD : Hid (∀ (p q : Nat), (p : Int) < P → (q : Int) < P → p ≠ q → ∀ V, Grow w V → Calls Try.prog 27 #[.agg #[.int .i64 P, .slice a ss.length cap], .int .i64 p, .int .i64 q] V fun e w' => e = .returned (.tuple #[.agg #[.int .i64 (spanOf (leadOf p q) T).1, .int .i64 (spanOf (leadOf p q) T).2], .int .i64 0]) ∧ Grow V w') := fun p q hp hq hne V hV => by
          have h := pLead_any P p q _ ss V hP1 hP2 (Hv.out.grow hV)
          obtain ⟨e1, e2⟩ := leadR_N (p := (p : Int)) (q := (q : Int)) hval ⟨by omega, hp⟩ ⟨by omega, hq⟩ (by omega) hT
          rw [e1, e2, hTT] at h
          exact h
        have PS : Hid (∀ (p : Nat) V, Grow w V → Calls Try.prog 27 #[.agg #[.int .i64 P, .slice a ss.length cap], .int .i64 p, .int .i64 p] V fun e w' => (∃ z y : Int, e = .returned (.tuple #[.agg #[.int .i64 z, .int .i64 y], .int .i64 2])) ∧ Grow V w') := fun p V hV => by
          have h := pLead_any P p p _ ss V hP1 hP2 (Hv.out.grow hV)
          rw [errOf_two (b := pairsB P p p) hval (by unfold pairsB; simp)] at h
          exact h.mono fun e w' ⟨h1, h2⟩ => ⟨⟨_, _, h1⟩, h2⟩
        rw [hTT] at hmem hT
        have hlm := h12 l hmem
        have H12 := Lib.hid h12
        have HTn := Lib.hid hT
        have HM := Lib.hid hmem
        clear Hl hl hmem hT hval PR Hc h12 hTT Hmem HT
        go_wp2_with fail
        go_loopw [47] (fun i wr => ∃ p : Nat, (p : Int) ≤ P ∧ i = .int .i64 p ∧ Grow w5 wr) (fun i _ => (P - intOf i).toNat)
        case atStart => exact ⟨0, by omega, rfl, Grow.refl _⟩
        case round =>
          obtain ⟨p, hp, rfl, hg⟩ := hrel
          have e0 := hg.keeps d0
          have e1 := hg.keeps d1
          by_cases hlt : (p : Int) < P
          · go_wp2_with fail
            refine (PL.out p hlt _ (gw.trans hg)).mono ?_
            rintro e w6 ⟨rfl, g6⟩
            have k0 := g6.keeps e0
            have k1 := g6.keeps e1
            have g56 := hg.trans g6
            clear e0 e1 hg g6 dl
            have dl := lt_of_cell k0
            have hS1 := lapN_pos (p := (p : Int)) HTn.out
            have hS2 := lapN_lt (p := (p : Int)) H12.out
            have hbit : Hid ((lapN T p).testBit (l.count (p : Int)) = true) := lapN_bit.2 ⟨l, HM.out, rfl⟩
            have hcl : l.count (p : Int) ≤ l.length := List.count_le_length
            have RL := Lib.hid (fun V hV => rLapsOf_any _ l (p : Int) V (I5.out.grow (w' := V) hV))
            obtain ⟨S, hS⟩ : ∃ S, lapN T p = S := ⟨_, rfl⟩
            obtain ⟨n, hn⟩ : ∃ n, l.count (p : Int) = n := ⟨_, rfl⟩
            rw [hS] at hS1 hS2 hbit
            rw [hS]
            rw [hn] at hbit hcl RL
            have HS := Lib.hid hS
            have E13 : (S : Int) / 8192 = 0 := by omega
            have E1 : (1 : Int) ≤ S := by omega
            have hn0 : (n : Int) ≤ 12 := by omega
            have EB : bits .and .i64 ((S : Int) / 2 ^ n) 1 = 1 := by rw [bits_and S n hS2, hbit.out]; rfl
            have Hn := Lib.hid hn
            clear hS hn
            go_wp2_with fail
            refine (RL.out _ g56).mono ?_
            rintro e w7 ⟨rfl, rfl⟩
            rename_i w7
            go_wp2_with fail
            clear E13 E1 EB hn0
            go_loopw [77] (fun i wr => ∃ q : Nat, q ≤ p ∧ i = .int .i64 q ∧ Grow w6 wr) (fun i _ => p - (intOf i).toNat)
            case atStart => exact ⟨0, Nat.zero_le _, rfl, Grow.refl _⟩
            case round =>
              obtain ⟨q, hq, rfl, hg⟩ := hrel
              have e0 := hg.keeps k0
              have e1 := hg.keeps k1
              have gQ := gw.trans (g56.trans hg)
              by_cases hlq : q < p
              · have hqP : (q : Int) < P := by omega
                go_wp2_with fail
                refine (PL.out q hqP _ gQ).mono ?_
                rintro e w8 ⟨rfl, g8⟩
                have f0 := g8.keeps e0
                have f1 := g8.keeps e1
                have gR := gQ.trans g8
                have g68 := hg.trans g8
                clear e0 e1 hg g8 gQ dl
                have dl := lt_of_cell f0
                obtain ⟨Sq, hSq⟩ : ∃ Sq, lapN T q = Sq := ⟨_, rfl⟩
                have hSq2 := lapN_lt (p := (q : Int)) H12.out
                rw [hSq] at hSq2 ⊢
                have hneg := lead_neg HTn.out (p : Int) (q : Int)
                have hlaps := lead_laps HTn.out H12.out (p : Int) (q : Int)
                obtain ⟨hle, hlo, hhi, hin⟩ := lead_bounds HTn.out H12.out (p : Int) (q : Int) HM.out
                have PD1 := Lib.hid (PD.out p q hlt hqP (by omega))
                have PD2 := Lib.hid (PD.out q p hqP hlt (by omega))
                rw [hneg] at PD2
                rw [HS.out, hSq] at hlaps
                obtain ⟨lo, hlo'⟩ : ∃ lo, (spanOf (leadOf p q) T).1 = lo := ⟨_, rfl⟩
                obtain ⟨hi, hhi'⟩ : ∃ hi, (spanOf (leadOf p q) T).2 = hi := ⟨_, rfl⟩
                rw [hlo'] at PD1 PD2 hlaps hin hle hlo
                rw [hhi'] at PD1 PD2 hlaps hin hle hhi
                have Hlaps := Lib.hid hlaps
                clear hneg hlaps hlo' hhi' hSq
                go_wp2_with fail
                refine (PD1.out _ gR).mono ?_
                rintro e w9 ⟨rfl, g9⟩
                have e0 := g9.keeps f0
                have e1 := g9.keeps f1
                have gS := gR.trans g9
                have g69 := g68.trans g9
                clear f0 f1 gR g68 g9 dl
                have dl := lt_of_cell e0
                go_wp2_with fail
                obtain ⟨wa, hwa⟩ : ∃ wa, w9.alloc (.cells #[.int .i64 lo, .int .i64 hi] 36) = wa := ⟨_, rfl⟩
                obtain ⟨B1, hB1⟩ : ∃ B1, w9.heap.size = B1 := ⟨_, rfl⟩
                have ga : Grow w9 wa := by rw [← hwa]; exact (Grow.refl w9).alloc _
                have s0 : wa.cell? ⟨B1, 0, none⟩ = some (.int .i64 lo) := by rw [← hwa]; exact cell_new hB1.symm rfl
                have s1 : wa.cell? ⟨B1, 1, none⟩ = some (.int .i64 hi) := by rw [← hwa]; exact cell_new hB1.symm rfl
                rw [hwa, hB1]
                clear hwa hB1
                refine (PD2.out _ (gS.trans ga)).mono ?_
                rintro e wb ⟨rfl, gb⟩
                have s0' := gb.keeps s0
                have s1' := gb.keeps s1
                have e0' := gb.keeps (ga.keeps e0)
                have e1' := gb.keeps (ga.keeps e1)
                have gT := (gS.trans ga).trans gb
                have g6b := (g69.trans ga).trans gb
                clear e0 e1 gS g69 ga gb s0 s1 dl
                have ls := lt_of_cell s0'
                have dl := lt_of_cell e0'
                go_wp2_with fail
                obtain ⟨wc, hwc⟩ : ∃ wc, wb.alloc (.cells #[.int .i64 (-hi), .int .i64 (-lo)] 36) = wc := ⟨_, rfl⟩
                obtain ⟨B2, hB2⟩ : ∃ B2, wb.heap.size = B2 := ⟨_, rfl⟩
                have gc : Grow wb wc := by rw [← hwc]; exact (Grow.refl wb).alloc _
                have t0 : wc.cell? ⟨B2, 0, none⟩ = some (.int .i64 (-hi)) := by rw [← hwc]; exact cell_new hB2.symm rfl
                have t1 : wc.cell? ⟨B2, 1, none⟩ = some (.int .i64 (-lo)) := by rw [← hwc]; exact cell_new hB2.symm rfl
                rw [hwc, hB2]
                clear hwc hB2
                have s0 := gc.keeps s0'
                have s1 := gc.keeps s1'
                have e0 := gc.keeps e0'
                have e1 := gc.keeps e1'
                have gU := gT.trans gc
                have g6c := g6b.trans gc
                clear s0' s1' e0' e1' gT g6b ls dl
                have E1 : decide (hi < lo) = false := decide_eq_false (by omega)
                have E2 : IntKind.i64.wrap (-hi) = -hi := IntWalk.i64_in _ (by omega)
                have E3 : IntKind.i64.wrap (-lo) = -lo := IntWalk.i64_in _ (by omega)
                (refine wp_region_held_drew (S := fun Wx => Grow wc Wx ∧ Wx.cell? ⟨B1, 0, none⟩ = some (.int .i64 lo) ∧ Wx.cell? ⟨B1, 1, none⟩ = some (.int .i64 hi) ∧ Wx.cell? ⟨B2, 0, none⟩ = some (.int .i64 (-hi)) ∧ Wx.cell? ⟨B2, 1, none⟩ = some (.int .i64 (-lo))) (by kernel_rfl) ⟨(Below.refl _ _).drew, Grow.keeps (Below.refl _ _).drew (by assumption), Grow.keeps (Below.refl _ _).drew (by assumption), Grow.keeps (Below.refl _ _).drew (by assumption), Grow.keeps (Below.refl _ _).drew (by assumption)⟩ (fun hHeld => ?_); refine wpAnyH_take (i := 0) (oi := _) (v := ?_) rfl (by kernel_rfl) (by kernel_rfl) (by kernel_rfl) (fun _ _ _ h => h) (Or.inl ⟨by rfl, ?_⟩) (by assumption) ?_; rotate_left; (focus (intro w hSw; (try dsimp only at hSw); go_simp; (try with_reducible rfl))); (try simp only [Act.put, List.setIfInBounds_toArray, List.set_cons_zero, List.set_cons_succ, List.getElem_toArray, List.getElem_cons_zero]); refine wpAnyH_take (i := 1) (oi := _) (v := ?_) rfl (by kernel_rfl) (by kernel_rfl) (by kernel_rfl) (fun _ _ _ h => h) (Or.inl ⟨by rfl, ?_⟩) (by assumption) ?_; rotate_left; (focus (intro w hSw; (try dsimp only at hSw); go_simp; (try with_reducible rfl))); (try simp only [Act.put, List.setIfInBounds_toArray, List.set_cons_zero, List.set_cons_succ, List.getElem_toArray, List.getElem_cons_zero, List.getElem_cons_succ]); refine wpAnyH_take (i := 2) (oi := _) (v := ?_) rfl (by kernel_rfl) (by kernel_rfl) (by kernel_rfl) (fun _ _ _ h => h) (Or.inl ⟨by rfl, ?_⟩) (by assumption) ?_; rotate_left; (focus (intro w hSw; (try dsimp only at hSw); go_simp; (try with_reducible rfl))); (try simp only [Act.put, List.setIfInBounds_toArray, List.set_cons_zero, List.set_cons_succ, List.getElem_toArray, List.getElem_cons_zero, List.getElem_cons_succ]); refine wpAnyH_take (i := 3) (oi := _) (v := ?_) rfl (by kernel_rfl) (by kernel_rfl) (by kernel_rfl) (fun _ _ _ h => h) (Or.inl ⟨by rfl, ?_⟩) (by assumption) ?_; rotate_left; (focus (intro w hSw; (try dsimp only at hSw); go_simp; (try with_reducible rfl))); (try simp only [Act.put, List.setIfInBounds_toArray, List.set_cons_zero, List.set_cons_succ, List.getElem_toArray, List.getElem_cons_zero, List.getElem_cons_succ]); refine wpAnyH_take (i := 4) (oi := _) (v := ?_) rfl (by kernel_rfl) (by kernel_rfl) (by kernel_rfl) (fun _ _ _ h => h) (Or.inl ⟨by rfl, ?_⟩) (by assumption) ?_; rotate_left; (focus (intro w hSw; (try dsimp only at hSw); go_simp; (try with_reducible rfl))); (try simp only [Act.put, List.setIfInBounds_toArray, List.set_cons_zero, List.set_cons_succ, List.getElem_toArray, List.getElem_cons_zero, List.getElem_cons_succ]); refine wpAnyH_take (i := 5) (oi := _) (v := ?_) rfl (by kernel_rfl) (by kernel_rfl) (by kernel_rfl) (fun _ _ _ h => h) (Or.inl ⟨by rfl, ?_⟩) (by assumption) ?_; rotate_left; (focus (intro w hSw; (try dsimp only at hSw); go_simp; (try with_reducible rfl))); (try simp only [Act.put, List.setIfInBounds_toArray, List.set_cons_zero, List.set_cons_succ, List.getElem_toArray, List.getElem_cons_zero, List.getElem_cons_succ]); refine wpAnyH_take (i := 6) (oi := _) (v := ?_) rfl (by kernel_rfl) (by kernel_rfl) (by kernel_rfl) (fun _ _ _ h => h) (Or.inl ⟨by rfl, ?_⟩) (by assumption) ?_; rotate_left; (focus (intro w hSw; (try dsimp only at hSw); go_simp; (try with_reducible rfl))); (try simp only [Act.put, List.setIfInBounds_toArray, List.set_cons_zero, List.set_cons_succ, List.getElem_toArray, List.getElem_cons_zero, List.getElem_cons_succ]); refine wpAnyH_take (i := 7) (oi := _) (v := ?_) rfl (by kernel_rfl) (by kernel_rfl) (by kernel_rfl) (fun _ _ _ h => h) (Or.inl ⟨by rfl, ?_⟩) (by assumption) ?_; rotate_left; (focus (intro w hSw; (try dsimp only at hSw); go_simp; (try with_reducible rfl))); (try simp only [Act.put, List.setIfInBounds_toArray, List.set_cons_zero, List.set_cons_succ, List.getElem_toArray, List.getElem_cons_zero, List.getElem_cons_succ]); refine wpAnyH_take (i := 8) (oi := _) (v := ?_) rfl (by kernel_rfl) (by kernel_rfl) (by kernel_rfl) (fun _ _ _ h => h) (Or.inl ⟨by rfl, ?_⟩) (by assumption) ?_; rotate_left; (focus (intro w hSw; (try dsimp only at hSw); go_simp; (try with_reducible rfl))); (try simp only [Act.put, List.setIfInBounds_toArray, List.set_cons_zero, List.set_cons_succ, List.getElem_toArray, List.getElem_cons_zero, List.getElem_cons_succ]); refine wpAnyH_take (i := 9) (oi := _) (v := ?_) rfl (by kernel_rfl) (by kernel_rfl) (by kernel_rfl) (fun _ _ _ h => h) (Or.inl ⟨by rfl, ?_⟩) (by assumption) ?_; rotate_left; (focus (intro w hSw; (try dsimp only at hSw); go_simp; (try with_reducible rfl))); (try simp only [Act.put, List.setIfInBounds_toArray, List.set_cons_zero, List.set_cons_succ, List.getElem_toArray, List.getElem_cons_zero, List.getElem_cons_succ]); refine wpAnyH_take (i := 10) (oi := _) (v := ?_) rfl (by kernel_rfl) (by kernel_rfl) (by kernel_rfl) (fun _ _ _ h => h) (Or.inl ⟨by rfl, ?_⟩) (by assumption) ?_; rotate_left; (focus (intro w hSw; (try dsimp only at hSw); go_simp; (try with_reducible rfl))); (try simp only [Act.put, List.setIfInBounds_toArray, List.set_cons_zero, List.set_cons_succ, List.getElem_toArray, List.getElem_cons_zero, List.getElem_cons_succ]); refine wpAnyH_take (i := 11) (oi := _) (v := ?_) rfl (by kernel_rfl) (by kernel_rfl) (by kernel_rfl) (fun _ _ _ h => h) (Or.inl ⟨by rfl, ?_⟩) (by assumption) ?_; rotate_left; (focus (intro w hSw; (try dsimp only at hSw); go_simp; (try with_reducible rfl))); (try simp only [Act.put, List.setIfInBounds_toArray, List.set_cons_zero, List.set_cons_succ, List.getElem_toArray, List.getElem_cons_zero, List.getElem_cons_succ]); refine wpAnyH_take (i := 12) (oi := _) (v := ?_) rfl (by kernel_rfl) (by kernel_rfl) (by kernel_rfl) (fun _ _ _ h => h) (Or.inl ⟨by rfl, ?_⟩) (by assumption) ?_; rotate_left; (focus (intro w hSw; (try dsimp only at hSw); go_simp; (try with_reducible rfl))); (try simp only [Act.put, List.setIfInBounds_toArray, List.set_cons_zero, List.set_cons_succ, List.getElem_toArray, List.getElem_cons_zero, List.getElem_cons_succ]); refine wpAnyH_take (i := 13) (oi := _) (v := ?_) rfl (by kernel_rfl) (by kernel_rfl) (by kernel_rfl) (fun _ _ _ h => h) (Or.inl ⟨by rfl, ?_⟩) (by assumption) ?_; rotate_left; (focus (intro w hSw; (try dsimp only at hSw); go_simp; (try with_reducible rfl))); (try simp only [Act.put, List.setIfInBounds_toArray, List.set_cons_zero, List.set_cons_succ, List.getElem_toArray, List.getElem_cons_zero, List.getElem_cons_succ]); refine wpAnyH_take (i := 14) (oi := _) (v := ?_) rfl (by kernel_rfl) (by kernel_rfl) (by kernel_rfl) (fun _ _ _ h => h) (Or.inl ⟨by rfl, ?_⟩) (by assumption) ?_; rotate_left; (focus (intro w hSw; (try dsimp only at hSw); go_simp; (try with_reducible rfl))); (try simp only [Act.put, List.setIfInBounds_toArray, List.set_cons_zero, List.set_cons_succ, List.getElem_toArray, List.getElem_cons_zero, List.getElem_cons_succ]); refine wpAnyH_take (i := 15) (oi := _) (v := ?_) rfl (by kernel_rfl) (by kernel_rfl) (by kernel_rfl) (fun _ _ _ h => h) (Or.inl ⟨by rfl, ?_⟩) (by assumption) ?_; rotate_left; (focus (intro w hSw; (try dsimp only at hSw); go_simp; (try with_reducible rfl))); (try simp only [Act.put, List.setIfInBounds_toArray, List.set_cons_zero, List.set_cons_succ, List.getElem_toArray, List.getElem_cons_zero, List.getElem_cons_succ]); refine wpAnyH_take (i := 16) (oi := _) (v := ?_) rfl (by kernel_rfl) (by kernel_rfl) (by kernel_rfl) (fun _ _ _ h => h) (Or.inl ⟨by rfl, ?_⟩) (by assumption) ?_; rotate_left; (focus (intro w hSw; (try dsimp only at hSw); go_simp; (try with_reducible rfl))); (try simp only [Act.put, List.setIfInBounds_toArray, List.set_cons_zero, List.set_cons_succ, List.getElem_toArray, List.getElem_cons_zero, List.getElem_cons_succ]); refine wpAnyH_take (i := 17) (oi := _) (v := ?_) rfl (by kernel_rfl) (by kernel_rfl) (by kernel_rfl) (fun _ _ _ h => h) (Or.inl ⟨by rfl, ?_⟩) (by assumption) ?_; rotate_left; (focus (intro w hSw; (try dsimp only at hSw); go_simp; (try with_reducible rfl))); (try simp only [Act.put, List.setIfInBounds_toArray, List.set_cons_zero, List.set_cons_succ, List.getElem_toArray, List.getElem_cons_zero, List.getElem_cons_succ]); refine wpAnyH_take (i := 18) (oi := _) (v := ?_) rfl (by kernel_rfl) (by kernel_rfl) (by kernel_rfl) (fun _ _ _ h => h) (Or.inl ⟨by rfl, ?_⟩) (by assumption) ?_; rotate_left; (focus (intro w hSw; (try dsimp only at hSw); go_simp; (try with_reducible rfl))); (try simp only [Act.put, List.setIfInBounds_toArray, List.set_cons_zero, List.set_cons_succ, List.getElem_toArray, List.getElem_cons_zero, List.getElem_cons_succ]); refine wpAnyH_take (i := 19) (oi := _) (v := ?_) rfl (by kernel_rfl) (by kernel_rfl) (by kernel_rfl) (fun _ _ _ h => h) (Or.inl ⟨by rfl, ?_⟩) (by assumption) ?_; rotate_left; (focus (intro w hSw; (try dsimp only at hSw); go_simp; (try with_reducible rfl))); (try simp only [Act.put, List.setIfInBounds_toArray, List.set_cons_zero, List.set_cons_succ, List.getElem_toArray, List.getElem_cons_zero, List.getElem_cons_succ]); refine wpAnyH_take (i := 20) (oi := _) (v := ?_) rfl (by kernel_rfl) (by kernel_rfl) (by kernel_rfl) (fun _ _ _ h => h) (Or.inl ⟨by rfl, ?_⟩) (by assumption) ?_; rotate_left; (focus (intro w hSw; (try dsimp only at hSw); go_simp; (try with_reducible rfl))); (try simp only [Act.put, List.setIfInBounds_toArray, List.set_cons_zero, List.set_cons_succ, List.getElem_toArray, List.getElem_cons_zero, List.getElem_cons_succ]); refine wpAnyH_take (i := 21) (oi := _) (v := ?_) rfl (by kernel_rfl) (by kernel_rfl) (by kernel_rfl) (fun _ _ _ h => h) (Or.inl ⟨by rfl, ?_⟩) (by assumption) ?_; rotate_left; (focus (intro w hSw; (try dsimp only at hSw); go_simp; (try with_reducible rfl))); (try simp only [Act.put, List.setIfInBounds_toArray, List.set_cons_zero, List.set_cons_succ, List.getElem_toArray, List.getElem_cons_zero, List.getElem_cons_succ]); refine wpAnyH_take (i := 22) (oi := _) (v := ?_) rfl (by kernel_rfl) (by kernel_rfl) (by kernel_rfl) (fun _ _ _ h => h) (Or.inl ⟨by rfl, ?_⟩) (by assumption) ?_; rotate_left; (focus (intro w hSw; (try dsimp only at hSw); go_simp; (try with_reducible rfl))); (try simp only [Act.put, List.setIfInBounds_toArray, List.set_cons_zero, List.set_cons_succ, List.getElem_toArray, List.getElem_cons_zero, List.getElem_cons_succ]); refine wpAnyH_take (i := 23) (oi := _) (v := ?_) rfl (by kernel_rfl) (by kernel_rfl) (by kernel_rfl) (fun _ _ _ h => h) (Or.inl ⟨by rfl, ?_⟩) (by assumption) ?_; rotate_left; (focus (intro w hSw; (try dsimp only at hSw); go_simp; (try with_reducible rfl))); (try simp only [Act.put, List.setIfInBounds_toArray, List.set_cons_zero, List.set_cons_succ, List.getElem_toArray, List.getElem_cons_zero, List.getElem_cons_succ]); refine wpAnyH_take (i := 24) (oi := _) (v := ?_) rfl (by kernel_rfl) (by kernel_rfl) (by kernel_rfl) (fun _ _ _ h => h) (Or.inl ⟨by rfl, ?_⟩) (by assumption) ?_; rotate_left; (focus (intro w hSw; (try dsimp only at hSw); go_simp; (try with_reducible rfl))); (try simp only [Act.put, List.setIfInBounds_toArray, List.set_cons_zero, List.set_cons_succ, List.getElem_toArray, List.getElem_cons_zero, List.getElem_cons_succ]); refine wpAnyH_ready (rs := [25]) (by kernel_rfl) (by simp) ?_; refine AllReadyH.cons (o := _) rfl (fun K hK => ?_) AllReadyH.nil; (try simp only [List.getElem_toArray, List.getElem_cons_zero, List.getElem_cons_succ]); go_simp; (go_at_call 29; refine (lspan_any _ _ _).mono ?_; rintro e wd ⟨rfl, gd⟩); (try (go_wp2_with fail)); refine hK.out _ _ ?_ (fun hHeld => ?_); (focus ((try dsimp only); refine (fun (hG : Grow wc _) => ⟨hG, Grow.keeps hG (by assumption), Grow.keeps hG (by assumption), Grow.keeps hG (by assumption), Grow.keeps hG (by assumption)⟩) ?_; (try go_split_ands); first | assumption | exact Grow.trans (by assumption) (by assumption) | exact Below.trans (by assumption) (by assumption))); clear hK K; (try simp only [Act.put, List.setIfInBounds_toArray, List.set_cons_zero, List.set_cons_succ, List.getElem_toArray, List.getElem_cons_zero, List.getElem_cons_succ]); refine wpAnyH_take (i := 26) (oi := _) (v := ?_) rfl (by kernel_rfl) (by kernel_rfl) (by kernel_rfl) (fun _ _ _ h => h) (Or.inl ⟨by rfl, ?_⟩) (by assumption) ?_; rotate_left; (focus (intro w hSw; (try dsimp only at hSw); go_simp; (try with_reducible rfl))); (try simp only [Act.put, List.setIfInBounds_toArray, List.set_cons_zero, List.set_cons_succ, List.getElem_toArray, List.getElem_cons_zero, List.getElem_cons_succ]); refine wpAnyH_take (i := 27) (oi := _) (v := ?_) rfl (by kernel_rfl) (by kernel_rfl) (by kernel_rfl) (fun _ _ _ h => h) (Or.inl ⟨by rfl, ?_⟩) (by assumption) ?_; rotate_left; (focus (intro w hSw; (try dsimp only at hSw); go_simp; (try with_reducible rfl))); (try simp only [Act.put, List.setIfInBounds_toArray, List.set_cons_zero, List.set_cons_succ, List.getElem_toArray, List.getElem_cons_zero, List.getElem_cons_succ]); refine wpAnyH_done (by kernel_rfl) ?_ _)
                have gh := hHeld.1
                have s0 := hHeld.2.1
                have s1 := hHeld.2.2.1
                have e0 := gh.keeps e0
                have e1 := gh.keeps e1
                have gV := gU.trans gh
                have g6d := g6c.trans gh
                clear E1 E2 E3 t0 t1 gc gh gU g6c hHeld
                have HLC := Lib.hid hlc
                go_wp2_with fail
                obtain ⟨we, hwe⟩ : ∃ we, wd.alloc (.cells #[.int .i64 lo, .int .i64 hi] 3) = we := ⟨_, rfl⟩
                obtain ⟨B3, hB3⟩ : ∃ B3, wd.heap.size = B3 := ⟨_, rfl⟩
                have ge : Grow wd we := by rw [← hwe]; exact (Grow.refl wd).alloc _
                have n0 : we.cell? ⟨B3, 0, none⟩ = some (.int .i64 lo) := by rw [← hwe]; exact cell_new hB3.symm rfl
                have n1 : we.cell? ⟨B3, 1, none⟩ = some (.int .i64 hi) := by rw [← hwe]; exact cell_new hB3.symm rfl
                rw [hwe, hB3]
                clear hwe hB3
                have hnn : Hid (∀ m : Nat, m < 2 → ∃ nn : Int, we.cell? ⟨B3, m, none⟩ = some (.int .i64 nn) ∧ (nn = lo ∨ nn = hi)) := fun m hm => by
                  obtain rfl | rfl : m = 0 ∨ m = 1 := by omega
                  · exact ⟨lo, n0, .inl rfl⟩
                  · exact ⟨hi, n1, .inr rfl⟩
                have s0 := ge.keeps s0
                have s1 := ge.keeps s1
                have e0 := ge.keeps e0
                have e1 := ge.keeps e1
                have gX := gV.trans ge
                have g6e := g6d.trans ge
                clear n0 n1 ge gV g6d
                go_loopw [134] (fun i wr => ∃ m : Nat, m ≤ 2 ∧ i = .int .i64 m ∧ Grow we wr) (fun i _ => 2 - (intOf i).toNat)
                case atStart => exact ⟨0, by omega, rfl, Grow.refl _⟩
                case round =>
                  obtain ⟨m, hm, rfl, hgm⟩ := hrel
                  have s0 := hgm.keeps s0
                  have s1 := hgm.keeps s1
                  have e0 := hgm.keeps e0
                  have e1 := hgm.keeps e1
                  by_cases hlm2 : m < 2
                  · skip
                    obtain ⟨nn, hcn, hnlh⟩ := hnn.out m hlm2
                    have hcn := hgm.keeps hcn
                    have hnr : -12 ≤ nn ∧ nn ≤ 12 := by rcases hnlh with rfl | rfl <;> omega
                    obtain ⟨ok, hok⟩ : ∃ ok : Nat → Bool, ok = fun k => S.testBit k && (decide (0 ≤ (k : Int) - nn) && Sq.testBit ((k : Int) - nn).toNat) := ⟨_, rfl⟩
                    have Hok : Hid (∀ k : Nat, ok k = (S.testBit k && (decide (0 ≤ (k : Int) - nn) && Sq.testBit ((k : Int) - nn).toNat))) := fun k => by rw [hok]
                    have Hall : Hid ((List.range 13).any ok = true) := by
                      obtain ⟨x, y, hx, hy, he, h1, h2⟩ := Hlaps.out nn hnlh
                      refine List.any_eq_true.2 ⟨x, List.mem_range.2 (by omega), ?_⟩
                      rw [Hok.out x, h1, he, decide_eq_true (by omega)]
                      simpa using h2
                    have Hstep : Hid (∀ k : Nat, (List.range (k + 1)).any ok = ((List.range k).any ok || ok k)) := fun k => by rw [List.range_succ, List.any_append]; simp
                    have hm2 : (m : Int) < 2 := by omega
                    clear hok hnlh
                    go_wp2_with fail
                    go_loopw [17, 138] (fun f i wr2 => ∃ k : Nat, k ≤ 13 ∧ i = .int .i64 k ∧ f = .bool ((List.range k).any ok) ∧ Grow wr wr2) (fun _ i _ => 13 - (intOf i).toNat)
                    case atStart => exact ⟨0, by omega, rfl, rfl, Grow.refl _⟩
                    case round =>
                      obtain ⟨k, hk, rfl, rfl, hgk⟩ := hrel
                      by_cases hlk : k < 13
                      · have EB1 := bits_and S k hS2
                        have HSt := Lib.hid (Hstep.out k)
                        have Hk := Lib.hid (Hok.out k)
                        have hkI : (k : Int) < 13 := by omega
                        obtain ⟨f, hf⟩ : ∃ f, (List.range k).any ok = f := ⟨_, rfl⟩
                        rw [hf] at HSt ⊢
                        clear hf
                        cases hb1 : S.testBit k
                        · rw [hb1] at EB1 Hk
                          have EB1 : bits .and .i64 ((S : Int) / 2 ^ k) 1 = 0 := EB1
                          have Hk2 : Hid (ok k = false) := Hk.out
                          clear hb1
                          go_wp2_with fail
                          exact ⟨⟨k + 1, by omega, by go_num, by rw [HSt.out, Hk2.out, Bool.or_false], hgk⟩, by simp [intOf]; omega⟩
                        · rw [hb1] at EB1 Hk
                          have EB1 : bits .and .i64 ((S : Int) / 2 ^ k) 1 = 1 := EB1
                          clear hb1
                          by_cases hz0 : 0 ≤ (k : Int) - nn
                          · have hge : nn ≤ (k : Int) := by omega
                            have EB2 := bits_and Sq ((k : Int) - nn).toNat hSq2
                            rw [decide_eq_true hz0] at Hk
                            have Hk2 : Hid (ok k = Sq.testBit ((k : Int) - nn).toNat) := by show _ = _; rw [Hk.out]; simp
                            clear hz0 Hk
                            cases hb2 : Sq.testBit ((k : Int) - nn).toNat
                            · rw [hb2] at EB2 Hk2
                              have EB2 : bits .and .i64 ((Sq : Int) / 2 ^ ((k : Int) - nn).toNat) 1 = 0 := EB2
                              clear hb2
                              go_wp2_with fail
                              exact ⟨⟨k + 1, by omega, by go_num, by rw [HSt.out, Hk2.out, Bool.or_false], hgk⟩, by simp [intOf]; omega⟩
                            · rw [hb2] at EB2 Hk2
                              have EB2 : bits .and .i64 ((Sq : Int) / 2 ^ ((k : Int) - nn).toNat) 1 = 1 := EB2
                              clear hb2
                              go_wp2_with fail
                              exact ⟨⟨k + 1, by omega, by go_num, by rw [HSt.out, Hk2.out, Bool.or_true], hgk⟩, by simp [intOf]; omega⟩
                          · have hge : ¬ nn ≤ (k : Int) := by omega
                            rw [decide_eq_false hz0] at Hk
                            have Hk2 : Hid (ok k = false) := by show _ = _; rw [Hk.out]; rfl
                            clear Hk hz0
                            go_wp2_with fail
                            exact ⟨⟨k + 1, by omega, by go_num, by rw [HSt.out, Hk2.out, Bool.or_false], hgk⟩, by simp [intOf]; omega⟩
                      · obtain rfl : k = 13 := by omega
                        rw [Hall.out]
                        go_wp2_with fail
                        exact ⟨⟨m + 1, by omega, by go_num, hgm.trans hgk⟩, by simp [intOf]; omega⟩
                  · skip
                    have RQ := Lib.hid (fun V hV => rLapsOf_any _ l (q : Int) V (I5.out.grow (w' := V) hV))
                    have hin2 : lo ≤ leadOf p q l ∧ leadOf p q l ≤ hi := hin
                    have hL : leadOf p q l = (l.count (p : Int) : Int) - l.count (q : Int) := rfl
                    obtain ⟨nq, hnq⟩ : ∃ nq, l.count (q : Int) = nq := ⟨_, rfl⟩
                    have RP := Lib.hid (RL.out _ (g56.trans (g6e.trans hgm)))
                    have RQ2 := Lib.hid (RQ.out _ (g56.trans (g6e.trans hgm)))
                    obtain ⟨d, hd⟩ : ∃ d, leadOf p q l = d := ⟨_, rfl⟩
                    rw [hnq] at hL RQ2
                    rw [hd] at hL hin2
                    have hnd : (n : Int) - nq = d := by rw [hL, Hn.out]
                    have hw : wrap64 ((n : Int) - nq) = d := by rw [hnd]; exact IntWalk.wrap64_in _ (by omega)
                    have hd1 : decide (d < lo) = false := decide_eq_false (by omega)
                    have hd2 : decide (hi < d) = false := decide_eq_false (by omega)
                    clear RQ hL hnq hd hin2 hnd hin
                    go_wp2_with fail
                    refine RP.out.mono ?_
                    rintro e wf ⟨rfl, rfl⟩
                    go_wp2_with fail
                    refine RQ2.out.mono ?_
                    rintro e wf ⟨rfl, rfl⟩
                    go_wp2_with fail
                    exact ⟨⟨q + 1, by omega, by go_num, g6e.trans hgm⟩, by simp [intOf]; omega⟩
              · skip
                go_wp2_with fail
                refine (PS.out p _ gQ).mono ?_
                rintro e w8 ⟨⟨z, y, rfl⟩, g8⟩
                go_wp2_with fail
                exact ⟨⟨p + 1, by omega, by go_num, ((g56.trans hg).trans g8).alloc _⟩, by simp [intOf]; omega⟩
          · obtain rfl : P = p := by omega
            go_wp2_with fail
            refine (PX.out _ (gw.trans hg)).mono ?_
            rintro e w8 ⟨⟨z, rfl⟩, g8⟩
            go_wp2_with fail
            refine (lalive_any _).mono ?_
            rintro e w9 ⟨rfl, g9⟩
            go_wp2_with fail
            go_ret
            exact ⟨rfl, ((gw.trans hg).trans g8).trans g9⟩
  · go_wp2_with fail
    refine (lalive_any _).mono ?_
    rintro e w3 ⟨rfl, g3⟩
    go_wp2_with fail
    go_ret
    exact ⟨rfl, gw.trans g3⟩
end Go.Proofs.Yteijilbdllpbcaa
