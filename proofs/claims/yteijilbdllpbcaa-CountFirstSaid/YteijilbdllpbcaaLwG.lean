/- The law CountFirst: the walk. Conditions: sizes. -/
import Derived.Test.YteijilbdllpbcaaLwB
import Derived.Test.YteijilbdllpbcaaLwC
import Derived.Test.YteijilbdllpbcaaLwP
import Derived.Test.YteijilbdllpbcaaPlI
import Derived.Test.YteijilbdllpbcaaPlK
namespace Go.Proofs.Yteijilbdllpbcaa
open Go.RowKit

set_option maxRecDepth 100000 in
set_option maxHeartbeats 8000000 in
theorem lcountFirst (P : Int) (v u : Value) (ss : List (List Int)) (bs : List Int) (w : World) (hP1 : -9223372036854775808 ≤ P) (hP2 : P ≤ 9223372036854775807) (hv : IsSheets w v ss) (hs : ss.length * 24 ≤ 140737488351232) (hnil : ∀ n cap, v = .slice none n cap → cap = 0) (hu : IsK .u8 w u bs) :
    Calls Try.prog 6 #[.agg #[.int .i64 P, v], u] w fun e w' => e = .returned (.bool true) ∧ Grow w w' := by
  obtain ⟨a, cap, rfl, hcap, hlen, hrow⟩ := id hv
  obtain ⟨ua, uc, rfl, huc, hul, hur, huw⟩ := id hu
  have hul2 : bs.length ≤ 9223372036854775807 := by simpa [maxLen] using hul
  have Hv := Lib.hid hv
  have Hrow := Lib.hid hrow
  have Hur := Lib.hid hur
  have Huw := Lib.hid huw
  obtain ⟨c, hc⟩ : ∃ c, errOf P ss true = c := ⟨_, rfl⟩
  obtain ⟨n, hn⟩ : ∃ n, (truthsE P ss c).2 = n := ⟨_, rfl⟩
  obtain ⟨l, hl⟩ : ∃ l, (truthsE P ss c).1.headD [] = l := ⟨_, rfl⟩
  obtain ⟨m, hm⟩ : ∃ m, countR P ss = m := ⟨_, rfl⟩
  obtain ⟨f, hf⟩ : ∃ f, validE P ss = f := ⟨_, rfl⟩
  have PF : Hid (∀ V, Grow w V → Calls Try.prog 13 #[.agg #[.int .i64 P, .slice a ss.length cap]] V fun e w' => e = .returned (.tuple #[.int .i64 n, .int .i64 c]) ∧ Grow V w') := fun V hV => by
    have := pFewest_any P _ ss V (hv.grow hV)
    rw [hc, hn] at this
    exact this
  have PC : Hid (∀ V, Grow w V → Calls Try.prog 15 #[.agg #[.int .i64 P, .slice a ss.length cap]] V fun e w' => e = .returned (.tuple #[.int .i64 m, .int .i64 f]) ∧ Grow V w') := fun V hV => by
    have := pCount_any P _ ss V (hv.grow hV)
    rw [hm, hf] at this
    exact this
  have PR : Hid (∀ V, Grow w V → Calls Try.prog 17 #[.agg #[.int .i64 P, .slice a ss.length cap]] V (FirstPost V c l)) := fun V hV => by
    have := pFirst_any P _ ss V (hv.grow hV)
    rw [hc, hl] at this
    exact this
  have Hc := Lib.hid hc
  have Hn := Lib.hid hn
  have Hl := Lib.hid hl
  have Hm := Lib.hid hm
  have Hf := Lib.hid hf
  clear hv hu hrow hur huw hc hn hl hm hf
  go_enter Try.func6, Try.ntmps6
  go_wp2_with fail
  obtain ⟨B, hB⟩ : ∃ B, w.heap.size = B := ⟨_, rfl⟩
  obtain ⟨w1, hw1⟩ : ∃ w1, w.alloc (.cells #[.int .i64 P, .slice a ss.length cap] 24) = w1 := ⟨_, rfl⟩
  have g1 : Grow w w1 := by rw [← hw1]; exact (Grow.refl w).alloc _
  have c0 : w1.cell? ⟨B, 0, none⟩ = some (.int .i64 P) := by rw [← hw1]; exact cell_new hB.symm rfl
  have c1 : w1.cell? ⟨B, 1, none⟩ = some (.slice a ss.length cap) := by rw [← hw1]; exact cell_new hB.symm rfl
  rw [hw1, hB]
  clear hw1 hB
  refine (llong_any 0 P _ _ ss [] _ (Hv.out.grow g1) hs (Own.nil _ _ _) (Nat.zero_le _) (by simp) (by simp) hnil).mono ?_
  rintro e w2 ⟨⟨b, rfl⟩, hb2⟩
  have g2 : Grow w1 w2 := grownBy_below hb2 (by intro k hk; have hk : none = some k := hk; cases hk) (by simp)
  have d0 := g2.keeps c0
  have d1 := g2.keeps c1
  have gw := g1.trans g2
  clear hb2 c0 c1 g1 g2 hnil
  cases b
  · go_wp2_with fail
    refine (PF.out _ gw).mono ?_
    rintro e w3 ⟨rfl, g3⟩
    have e0 := g3.keeps d0
    have e1 := g3.keeps d1
    have dl := lt_of_cell e0
    go_wp2_with fail
    refine (PC.out _ (gw.trans g3)).mono ?_
    rintro e w4 ⟨rfl, g4⟩
    have k0 := g4.keeps e0
    have k1 := g4.keeps e1
    clear d0 d1 e0 e1 dl
    have dl := lt_of_cell k0
    go_wp2_with fail
    refine (PR.out _ ((gw.trans g3).trans g4)).mono ?_
    rintro e w5 ⟨v5, rfl, g5, i5⟩
    have e0 := g5.keeps k0
    have e1 := g5.keeps k1
    have gx := ((gw.trans g3).trans g4).trans g5
    clear k0 k1 dl gw g3 g4 g5
    have dl := lt_of_cell e0
    obtain ⟨la, lc, rfl, hlc, hl8, hlr⟩ := id i5
    have I5 := Lib.hid i5
    have Hlr := Lib.hid hlr
    clear i5 hlr
    go_wp2_with fail
    refine (rValid_any P _ ss _ hP1 hP2 (Hv.out.grow gx)).mono ?_
    rintro e w6 ⟨rfl, g6⟩
    have d0 := g6.keeps e0
    have d1 := g6.keeps e1
    have gw := gx.trans g6
    have I6 := Lib.hid (I5.out.grow g6)
    have Hlr6 := Lib.hid (Hlr.out.grow g6)
    clear e0 e1 dl gx g6 I5 Hlr
    have dl := lt_of_cell d0
    cases hval : validB P ss
    · obtain rfl : c = 1 := by rw [← Hc.out]; unfold errOf; rw [if_pos hval]
      obtain rfl : n = 0 := by rw [← Hn.out]; rfl
      obtain rfl : l = [] := by rw [← Hl.out]; rfl
      obtain rfl : m = 0 := by rw [← Hm.out]; unfold countR; rw [if_neg (by simp [hval])]
      obtain rfl : f = 1 := by rw [← Hf.out]; unfold validE; rw [if_neg (by simp [hval])]
      clear Hc Hn Hl Hm Hf PF PC PR I6 Hlr6
      go_wp2_with fail
      refine (lalive_any _).mono ?_
      rintro e w7 ⟨rfl, g7⟩
      go_wp2_with fail
      go_ret
      exact ⟨rfl, gw.trans g7⟩
    · obtain rfl : f = 0 := by rw [← Hf.out]; unfold validE; rw [if_pos hval]
      obtain ⟨vp1, vp2, vp3⟩ := valid_parts hval
      by_cases hT : (truthsR P.toNat ss).1 = []
      · obtain rfl : c = 10 := by rw [← Hc.out]; unfold errOf; rw [if_neg (by simp [hval]), if_neg (by simp), if_pos hT]
        obtain rfl : n = 0 := by rw [← Hn.out]; rfl
        obtain rfl : l = [] := by rw [← Hl.out]; rfl
        obtain rfl : m = 0 := by rw [← Hm.out]; unfold countR; rw [if_pos hval, hT]; rfl
        have h3 := none_three hval hT
        have h3' : (2 : Int) < ss.length := by omega
        clear Hc Hn Hl Hm Hf PF PC PR I6 Hlr6
        go_wp2_with fail
        refine (lalive_any _).mono ?_
        rintro e w7 ⟨rfl, g7⟩
        go_wp2_with fail
        go_ret
        exact ⟨rfl, gw.trans g7⟩
      · obtain rfl : c = 0 := by rw [← Hc.out]; unfold errOf; rw [if_neg (by simp [hval]), if_neg (by simp), if_neg hT]
        have hn : (truthsR P.toNat ss).2 = n := Hn.out
        have hl : (truthsR P.toNat ss).1.headD [] = l := Hl.out
        have hm : ((truthsR P.toNat ss).1.length : Int) = m := by rw [← Hm.out]; unfold countR; rw [if_pos hval]
        have hm0 : 0 < m := by have := List.length_pos_iff.2 hT; omega
        have hmem : l ∈ (truthsR P.toNat ss).1 := by rw [← hl]; exact first_mem hT
        have hrace := truth_race hval hmem
        have hisE := isE_race hval hrace
        have hisR := (isR_mem hval hrace).2 hmem
        have hsum := (truths_sum P.toNat ss l hmem).1
        have hlong : ∀ s ∈ ss, s.length ≤ l.length := fun s hs => truths_long hmem hs
        have HT := Lib.hid hT
        have Hmem := Lib.hid hmem
        have Hsum := Lib.hid hsum
        have Hlong := Lib.hid hlong
        have Hn := Lib.hid hn
        have Hl := Lib.hid hl
        have Hval := Lib.hid hval
        have Hvp3 := Lib.hid vp3
        have hn0 : ¬ m < 0 := by omega
        have Hm := Lib.hid hm
        have HE := Lib.hid hisE
        have HR := Lib.hid hisR
        clear hn hl hm hmem hrace hsum hlong hT hval Hc Hf PF PC PR vp3 hisE hisR
        go_wp2_with fail
        refine (pIs_any P _ _ ss l _ hP1 hP2 (Hv.out.grow gw) I6.out).mono ?_
        rw [HE.out, HR.out]
        rintro e w7 ⟨rfl, g7⟩
        have e0 := g7.keeps d0
        have e1 := g7.keeps d1
        have gx := gw.trans g7
        have I7 := Lib.hid (I6.out.grow g7)
        clear d0 d1 dl gw g7 I6 Hlr6 HE HR
        have dl := lt_of_cell e0
        obtain ⟨b, o, s0, sa0, sc0, hx0, rfl, hc0, hsc0, hs80, hsr0⟩ := Hrow.out.get (i := 0) (by omega)
        rw [Nat.add_zero] at hc0
        have hl12 : l.length ≤ 12 ∧ (1 < ss.length → ∃ s1 sa1 sc1, ss[1]? = some s1 ∧ w.cell? ⟨b, o + 1, none⟩ = some (.slice sa1 s1.length sc1) ∧ s1.length ≤ sc1 ∧ s1.length ≤ 6 ∧ RowAt w sa1 (s1.map (Value.int .i64)) ∧ l.length ≤ s0.length + s1.length) := by
          have hm := Hmem.out
          have h60 := (Hvp3.out s0 (List.mem_of_getElem? hx0)).1
          match ss, hx0, Hrow, Hvp3, hm with
          | [s], hx0, _, _, hm =>
            cases hx0
            rw [List.mem_singleton.1 hm]
            exact ⟨by omega, fun h => absurd h (by simp)⟩
          | s :: t :: rest, hx0, Hrow, Hvp3, hm =>
            cases hx0
            obtain ⟨b', o', s1, sa1, sc1, hx1, hbo, hc1, hsc1, hs81, hsr1⟩ := Hrow.out.get (i := 1) (by simp)
            cases hbo
            cases hx1
            have h61 := (Hvp3.out t (by simp)).1
            have hb := (truths_mem P.toNat s0 t rest l hm).1
            exact ⟨by omega, fun _ => ⟨t, sa1, sc1, rfl, hc1, hsc1, h61, hsr1, hb⟩⟩
        obtain ⟨hl12, htwo⟩ := hl12
        have Htwo := Lib.hid htwo
        have Hx0 := Lib.hid hx0
        have Hsr0 := Lib.hid hsr0
        have hy0 := gx.keeps hc0
        clear htwo hx0 hsr0
        have hvp2 := vp2.2
        go_wp2_with fail
        go_loopw [13, 124] (fun q i wr => ∃ k : Nat, k ≤ ss.length ∧ i = .int .i64 k ∧ q = .int .i64 (sumErrs l (ss.take k)) ∧ Grow w7 wr) (fun _ i _ => ss.length - (intOf i).toNat)
        case atStart => exact ⟨0, Nat.zero_le _, rfl, rfl, Grow.refl _⟩
        case round =>
          obtain ⟨k, hk, rfl, rfl, hg⟩ := hrel
          have d0 := hg.keeps e0
          have d1 := hg.keeps e1
          have z0 := hg.keeps hy0
          by_cases hlt : k < ss.length
          · obtain ⟨b', o', s, sa, sc, hx, hbo, hcs, hsc, hs8, hsr⟩ := Hrow.out.get hlt
            cases hbo
            have hck := hg.keeps (gx.keeps hcs)
            have hsI : Hid (IsInts wr (.slice sa s.length sc) s) := ⟨sa, sc, rfl, hsc, hs8, hsr.grow (gx.trans hg)⟩
            have hLs := Hlong.out s (List.mem_of_getElem? hx)
            have hS : Hid (sumErrs l (ss.take (k + 1)) = sumErrs l (ss.take k) + errs l s) := by
              show _ = _
              rw [take_get hx, sumErrs_snoc]
            have hq1 := sumErrs_range l (ss.take k)
            have hq2 : ((ss.take k).length : Int) ≤ 4 := by rw [List.length_take]; omega
            have hq3 : ((ss.take k).length : Int) * (1000 + l.length) ≤ 4 * (1000 + 12) := Int.mul_le_mul hq2 (by omega) (by omega) (by omega)
            have he := errs_range l s
            obtain ⟨q, hq⟩ : ∃ q, q = sumErrs l (ss.take k) := ⟨_, rfl⟩
            rw [← hq] at hq1 ⊢
            have Hq := Lib.hid hq
            have hq4 : 0 ≤ q ∧ q ≤ 4048 := by omega
            clear hx hcs hsr hq hq1 hq2 hq3
            have hnl : ¬ ((l.length : Int) < s.length) := by omega
            go_wp2_with fail
            by_cases h1 : 1 < ss.length
            · obtain ⟨s1, sa1, sc1, hx1, hc1, hsc1, h61, hsr1, hb1⟩ := Htwo.out h1
              have z1 := hg.keeps (gx.keeps hc1)
              have h60 := (Hvp3.out s0 (List.mem_of_getElem? Hx0.out)).1
              have hbn : ¬ ((s0.length : Int) + s1.length < l.length) := by omega
              clear hx1 hc1 hsr1
              have E1 : decide ((l.length : Int) < s.length) = false := decide_eq_false (by omega)
              have F1 : decide (l.length < s.length) = false := decide_eq_false (by omega)
              by_cases hk2 : k < 2
              · skip
                have E2 : decide ((k : Int) < 2) = true := decide_eq_true (by omega)
                have F2 : decide (k < 2) = true := decide_eq_true hk2
                have E3 : decide ((1 : Int) < ss.length) = true := decide_eq_true (by omega)
                have E4 : decide ((s0.length : Int) + s1.length < l.length) = false := decide_eq_false (by omega)
                have E5 : IntKind.i64.wrap ((s0.length : Int) + s1.length) = s0.length + s1.length := IntWalk.i64_in _ (by omega)
                have E6 : (1 : Int) < ss.length := by omega
                have E7 : (0 : Int) < ss.length := by omega
                have F3 : decide (1 < ss.length) = true := decide_eq_true h1
                have F4 : decide (s0.length + s1.length < l.length) = false := decide_eq_false (by omega)
                have F7 : 0 < ss.length := by omega
                clear hnl hbn
                (refine wp_region_held_drew (S := fun Wx => Grow wr Wx ∧ Wx.cell? ⟨B, 1, none⟩ = some (.slice (some ⟨b, o, none⟩) ss.length cap) ∧ Wx.cell? ⟨b, o, none⟩ = some (.slice sa0 s0.length sc0) ∧ Wx.cell? ⟨b, o + 1, none⟩ = some (.slice sa1 s1.length sc1)) (by kernel_rfl) ⟨(Below.refl _ _).drew, Grow.keeps (Below.refl _ _).drew (by assumption), Grow.keeps (Below.refl _ _).drew (by assumption), Grow.keeps (Below.refl _ _).drew (by assumption)⟩ (fun hHeld => ?_); refine wpAnyH_take (i := 0) (oi := _) (v := ?_) rfl (by kernel_rfl) (by kernel_rfl) (by kernel_rfl) (fun _ _ _ h => h) (Or.inl ⟨by rfl, ?_⟩) (by assumption) ?_; rotate_left; (focus (intro w hSw; (try dsimp only at hSw); go_simp; (try with_reducible rfl))); (try simp only [Act.put, List.setIfInBounds_toArray, List.set_cons_zero, List.set_cons_succ, List.getElem_toArray, List.getElem_cons_zero]); refine wpAnyH_take (i := 1) (oi := _) (v := ?_) rfl (by kernel_rfl) (by kernel_rfl) (by kernel_rfl) (fun _ _ _ h => h) (Or.inl ⟨by rfl, ?_⟩) (by assumption) ?_; rotate_left; (focus (intro w hSw; (try dsimp only at hSw); go_simp; (try with_reducible rfl))); (try simp only [Act.put, List.setIfInBounds_toArray, List.set_cons_zero, List.set_cons_succ, List.getElem_toArray, List.getElem_cons_zero, List.getElem_cons_succ]); refine wpAnyH_take (i := 2) (oi := _) (v := ?_) rfl (by kernel_rfl) (by kernel_rfl) (by kernel_rfl) (fun _ _ _ h => h) (Or.inl ⟨by rfl, ?_⟩) (by assumption) ?_; rotate_left; (focus (intro w hSw; (try dsimp only at hSw); go_simp; (try with_reducible rfl))); (try simp only [Act.put, List.setIfInBounds_toArray, List.set_cons_zero, List.set_cons_succ, List.getElem_toArray, List.getElem_cons_zero, List.getElem_cons_succ]); refine wpAnyH_take (i := 3) (oi := _) (v := ?_) rfl (by kernel_rfl) (by kernel_rfl) (by kernel_rfl) (fun _ _ _ h => h) (Or.inl ⟨by rfl, ?_⟩) (by assumption) ?_; rotate_left; (focus (intro w hSw; (try dsimp only at hSw); go_simp; (try with_reducible rfl))); (try simp only [Act.put, List.setIfInBounds_toArray, List.set_cons_zero, List.set_cons_succ, List.getElem_toArray, List.getElem_cons_zero, List.getElem_cons_succ]); refine wpAnyH_take (i := 4) (oi := _) (v := ?_) rfl (by kernel_rfl) (by kernel_rfl) (by kernel_rfl) (fun _ _ _ h => h) (Or.inl ⟨by rfl, ?_⟩) (by assumption) ?_; rotate_left; (focus (intro w hSw; (try dsimp only at hSw); go_simp; (try with_reducible rfl))); (try simp only [Act.put, List.setIfInBounds_toArray, List.set_cons_zero, List.set_cons_succ, List.getElem_toArray, List.getElem_cons_zero, List.getElem_cons_succ]); refine wpAnyH_take (i := 5) (oi := _) (v := ?_) rfl (by kernel_rfl) (by kernel_rfl) (by kernel_rfl) (fun _ _ _ h => h) (Or.inl ⟨by rfl, ?_⟩) (by assumption) ?_; rotate_left; (focus (intro w hSw; (try dsimp only at hSw); go_simp; (try with_reducible rfl))); (try simp only [Act.put, List.setIfInBounds_toArray, List.set_cons_zero, List.set_cons_succ, List.getElem_toArray, List.getElem_cons_zero, List.getElem_cons_succ]); refine wpAnyH_take (i := 6) (oi := _) (v := ?_) rfl (by kernel_rfl) (by kernel_rfl) (by kernel_rfl) (fun _ _ _ h => h) (Or.inl ⟨by rfl, ?_⟩) (by assumption) ?_; rotate_left; (focus (intro w hSw; (try dsimp only at hSw); go_simp; (try with_reducible rfl))); (try simp only [Act.put, List.setIfInBounds_toArray, List.set_cons_zero, List.set_cons_succ, List.getElem_toArray, List.getElem_cons_zero, List.getElem_cons_succ]); refine wpAnyH_take (i := 7) (oi := _) (v := ?_) rfl (by kernel_rfl) (by kernel_rfl) (by kernel_rfl) (fun _ _ _ h => h) (Or.inl ⟨by rfl, ?_⟩) (by assumption) ?_; rotate_left; (focus (intro w hSw; (try dsimp only at hSw); go_simp; (try with_reducible rfl))); (try simp only [Act.put, List.setIfInBounds_toArray, List.set_cons_zero, List.set_cons_succ, List.getElem_toArray, List.getElem_cons_zero, List.getElem_cons_succ]); refine wpAnyH_take (i := 8) (oi := _) (v := ?_) rfl (by kernel_rfl) (by kernel_rfl) (by kernel_rfl) (fun _ _ _ h => h) (Or.inl ⟨by rfl, ?_⟩) (by assumption) ?_; rotate_left; (focus (intro w hSw; (try dsimp only at hSw); go_simp; (try with_reducible rfl))); (try simp only [Act.put, List.setIfInBounds_toArray, List.set_cons_zero, List.set_cons_succ, List.getElem_toArray, List.getElem_cons_zero, List.getElem_cons_succ]); refine wpAnyH_take (i := 9) (oi := _) (v := ?_) rfl (by kernel_rfl) (by kernel_rfl) (by kernel_rfl) (fun _ _ _ h => h) (Or.inl ⟨by rfl, ?_⟩) (by assumption) ?_; rotate_left; (focus (intro w hSw; (try dsimp only at hSw); go_simp; (try with_reducible rfl))); (try simp only [Act.put, List.setIfInBounds_toArray, List.set_cons_zero, List.set_cons_succ, List.getElem_toArray, List.getElem_cons_zero, List.getElem_cons_succ]); refine wpAnyH_take (i := 10) (oi := _) (v := ?_) rfl (by kernel_rfl) (by kernel_rfl) (by kernel_rfl) (fun _ _ _ h => h) (Or.inl ⟨by rfl, ?_⟩) (by assumption) ?_; rotate_left; (focus (intro w hSw; (try dsimp only at hSw); go_simp; (try with_reducible rfl))); (try simp only [Act.put, List.setIfInBounds_toArray, List.set_cons_zero, List.set_cons_succ, List.getElem_toArray, List.getElem_cons_zero, List.getElem_cons_succ]); refine wpAnyH_take (i := 11) (oi := _) (v := ?_) rfl (by kernel_rfl) (by kernel_rfl) (by kernel_rfl) (fun _ _ _ h => h) (Or.inl ⟨by rfl, ?_⟩) (by assumption) ?_; rotate_left; (focus (intro w hSw; (try dsimp only at hSw); go_simp; (try with_reducible rfl))); (try simp only [Act.put, List.setIfInBounds_toArray, List.set_cons_zero, List.set_cons_succ, List.getElem_toArray, List.getElem_cons_zero, List.getElem_cons_succ]); refine wpAnyH_take (i := 12) (oi := _) (v := ?_) rfl (by kernel_rfl) (by kernel_rfl) (by kernel_rfl) (fun _ _ _ h => h) (Or.inl ⟨by rfl, ?_⟩) (by assumption) ?_; rotate_left; (focus (intro w hSw; (try dsimp only at hSw); go_simp; (try with_reducible rfl))); (try simp only [Act.put, List.setIfInBounds_toArray, List.set_cons_zero, List.set_cons_succ, List.getElem_toArray, List.getElem_cons_zero, List.getElem_cons_succ]); refine wpAnyH_take (i := 13) (oi := _) (v := ?_) rfl (by kernel_rfl) (by kernel_rfl) (by kernel_rfl) (fun _ _ _ h => h) (Or.inl ⟨by rfl, ?_⟩) (by assumption) ?_; rotate_left; (focus (intro w hSw; (try dsimp only at hSw); go_simp; (try with_reducible rfl))); (try simp only [Act.put, List.setIfInBounds_toArray, List.set_cons_zero, List.set_cons_succ, List.getElem_toArray, List.getElem_cons_zero, List.getElem_cons_succ]); refine wpAnyH_take (i := 14) (oi := _) (v := ?_) rfl (by kernel_rfl) (by kernel_rfl) (by kernel_rfl) (fun _ _ _ h => h) (Or.inl ⟨by rfl, ?_⟩) (by assumption) ?_; rotate_left; (focus (intro w hSw; (try dsimp only at hSw); go_simp; (try with_reducible rfl))); (try simp only [Act.put, List.setIfInBounds_toArray, List.set_cons_zero, List.set_cons_succ, List.getElem_toArray, List.getElem_cons_zero, List.getElem_cons_succ]); refine wpAnyH_take (i := 15) (oi := _) (v := ?_) rfl (by kernel_rfl) (by kernel_rfl) (by kernel_rfl) (fun _ _ _ h => h) (Or.inl ⟨by rfl, ?_⟩) (by assumption) ?_; rotate_left; (focus (intro w hSw; (try dsimp only at hSw); go_simp; (try with_reducible rfl))); (try simp only [Act.put, List.setIfInBounds_toArray, List.set_cons_zero, List.set_cons_succ, List.getElem_toArray, List.getElem_cons_zero, List.getElem_cons_succ]); refine wpAnyH_take (i := 16) (oi := _) (v := ?_) rfl (by kernel_rfl) (by kernel_rfl) (by kernel_rfl) (fun _ _ _ h => h) (Or.inl ⟨by rfl, ?_⟩) (by assumption) ?_; rotate_left; (focus (intro w hSw; (try dsimp only at hSw); go_simp; (try with_reducible rfl))); (try simp only [Act.put, List.setIfInBounds_toArray, List.set_cons_zero, List.set_cons_succ, List.getElem_toArray, List.getElem_cons_zero, List.getElem_cons_succ]); refine wpAnyH_take (i := 17) (oi := _) (v := ?_) rfl (by kernel_rfl) (by kernel_rfl) (by kernel_rfl) (fun _ _ _ h => h) (Or.inl ⟨by rfl, ?_⟩) (by assumption) ?_; rotate_left; (focus (intro w hSw; (try dsimp only at hSw); go_simp; (try with_reducible rfl))); (try simp only [Act.put, List.setIfInBounds_toArray, List.set_cons_zero, List.set_cons_succ, List.getElem_toArray, List.getElem_cons_zero, List.getElem_cons_succ]); refine wpAnyH_take (i := 18) (oi := _) (v := ?_) rfl (by kernel_rfl) (by kernel_rfl) (by kernel_rfl) (fun _ _ _ h => h) (Or.inl ⟨by rfl, ?_⟩) (by assumption) ?_; rotate_left; (focus (intro w hSw; (try dsimp only at hSw); go_simp; (try with_reducible rfl))); (try simp only [Act.put, List.setIfInBounds_toArray, List.set_cons_zero, List.set_cons_succ, List.getElem_toArray, List.getElem_cons_zero, List.getElem_cons_succ]); refine wpAnyH_take (i := 19) (oi := _) (v := ?_) rfl (by kernel_rfl) (by kernel_rfl) (by kernel_rfl) (fun _ _ _ h => h) (Or.inl ⟨by rfl, ?_⟩) (by assumption) ?_; rotate_left; (focus (intro w hSw; (try dsimp only at hSw); go_simp; (try with_reducible rfl))); (try simp only [Act.put, List.setIfInBounds_toArray, List.set_cons_zero, List.set_cons_succ, List.getElem_toArray, List.getElem_cons_zero, List.getElem_cons_succ]); refine wpAnyH_take (i := 20) (oi := _) (v := ?_) rfl (by kernel_rfl) (by kernel_rfl) (by kernel_rfl) (fun _ _ _ h => h) (Or.inl ⟨by rfl, ?_⟩) (by assumption) ?_; rotate_left; (focus (intro w hSw; (try dsimp only at hSw); go_simp; (try with_reducible rfl))); (try simp only [Act.put, List.setIfInBounds_toArray, List.set_cons_zero, List.set_cons_succ, List.getElem_toArray, List.getElem_cons_zero, List.getElem_cons_succ]); refine wpAnyH_take (i := 21) (oi := _) (v := ?_) rfl (by kernel_rfl) (by kernel_rfl) (by kernel_rfl) (fun _ _ _ h => h) (Or.inl ⟨by rfl, ?_⟩) (by assumption) ?_; rotate_left; (focus (intro w hSw; (try dsimp only at hSw); go_simp; (try with_reducible rfl))); (try simp only [Act.put, List.setIfInBounds_toArray, List.set_cons_zero, List.set_cons_succ, List.getElem_toArray, List.getElem_cons_zero, List.getElem_cons_succ]); refine wpAnyH_take (i := 22) (oi := _) (v := ?_) rfl (by kernel_rfl) (by kernel_rfl) (by kernel_rfl) (fun _ _ _ h => h) (Or.inl ⟨by rfl, ?_⟩) (by assumption) ?_; rotate_left; (focus (intro w hSw; (try dsimp only at hSw); go_simp; (try with_reducible rfl))); (try simp only [Act.put, List.setIfInBounds_toArray, List.set_cons_zero, List.set_cons_succ, List.getElem_toArray, List.getElem_cons_zero, List.getElem_cons_succ]); refine wpAnyH_take (i := 23) (oi := _) (v := ?_) rfl (by kernel_rfl) (by kernel_rfl) (by kernel_rfl) (fun _ _ _ h => h) (Or.inl ⟨by rfl, ?_⟩) (by assumption) ?_; rotate_left; (focus (intro w hSw; (try dsimp only at hSw); go_simp; (try with_reducible rfl))); (try simp only [Act.put, List.setIfInBounds_toArray, List.set_cons_zero, List.set_cons_succ, List.getElem_toArray, List.getElem_cons_zero, List.getElem_cons_succ]); refine wpAnyH_take (i := 24) (oi := _) (v := ?_) rfl (by kernel_rfl) (by kernel_rfl) (by kernel_rfl) (fun _ _ _ h => h) (Or.inl ⟨by rfl, ?_⟩) (by assumption) ?_; rotate_left; (focus (intro w hSw; (try dsimp only at hSw); go_simp; (try with_reducible rfl))); (try simp only [Act.put, List.setIfInBounds_toArray, List.set_cons_zero, List.set_cons_succ, List.getElem_toArray, List.getElem_cons_zero, List.getElem_cons_succ]); refine wpAnyH_take (i := 25) (oi := _) (v := ?_) rfl (by kernel_rfl) (by kernel_rfl) (by kernel_rfl) (fun _ _ _ h => h) (Or.inl ⟨by rfl, ?_⟩) (by assumption) ?_; rotate_left; (focus (intro w hSw; (try dsimp only at hSw); go_simp; (try with_reducible rfl))); (try simp only [Act.put, List.setIfInBounds_toArray, List.set_cons_zero, List.set_cons_succ, List.getElem_toArray, List.getElem_cons_zero, List.getElem_cons_succ]); refine wpAnyH_take (i := 26) (oi := _) (v := ?_) rfl (by kernel_rfl) (by kernel_rfl) (by kernel_rfl) (fun _ _ _ h => h) (Or.inl ⟨by rfl, ?_⟩) (by assumption) ?_; rotate_left; (focus (intro w hSw; (try dsimp only at hSw); go_simp; (try with_reducible rfl))); (try simp only [Act.put, List.setIfInBounds_toArray, List.set_cons_zero, List.set_cons_succ, List.getElem_toArray, List.getElem_cons_zero, List.getElem_cons_succ]); refine wpAnyH_take (i := 27) (oi := _) (v := ?_) rfl (by kernel_rfl) (by kernel_rfl) (by kernel_rfl) (fun _ _ _ h => h) (Or.inl ⟨by rfl, ?_⟩) (by assumption) ?_; rotate_left; (focus (intro w hSw; (try dsimp only at hSw); go_simp; (try with_reducible rfl))); (try simp only [Act.put, List.setIfInBounds_toArray, List.set_cons_zero, List.set_cons_succ, List.getElem_toArray, List.getElem_cons_zero, List.getElem_cons_succ]); refine wpAnyH_take (i := 28) (oi := _) (v := ?_) rfl (by kernel_rfl) (by kernel_rfl) (by kernel_rfl) (fun _ _ _ h => h) (Or.inl ⟨by rfl, ?_⟩) (by assumption) ?_; rotate_left; (focus (intro w hSw; (try dsimp only at hSw); go_simp; (try with_reducible rfl))); (try simp only [Act.put, List.setIfInBounds_toArray, List.set_cons_zero, List.set_cons_succ, List.getElem_toArray, List.getElem_cons_zero, List.getElem_cons_succ]); refine wpAnyH_take (i := 29) (oi := _) (v := ?_) rfl (by kernel_rfl) (by kernel_rfl) (by kernel_rfl) (fun _ _ _ h => h) (Or.inl ⟨by rfl, ?_⟩) (by assumption) ?_; rotate_left; (focus (intro w hSw; (try dsimp only at hSw); go_simp; (try with_reducible rfl))); (try simp only [Act.put, List.setIfInBounds_toArray, List.set_cons_zero, List.set_cons_succ, List.getElem_toArray, List.getElem_cons_zero, List.getElem_cons_succ]); refine wpAnyH_take (i := 30) (oi := _) (v := ?_) rfl (by kernel_rfl) (by kernel_rfl) (by kernel_rfl) (fun _ _ _ h => h) (Or.inl ⟨by rfl, ?_⟩) (by assumption) ?_; rotate_left; (focus (intro w hSw; (try dsimp only at hSw); go_simp; (try with_reducible rfl))); (try simp only [Act.put, List.setIfInBounds_toArray, List.set_cons_zero, List.set_cons_succ, List.getElem_toArray, List.getElem_cons_zero, List.getElem_cons_succ]); refine wpAnyH_done (by kernel_rfl) ?_ _)
                have hG := hHeld.1
                clear E1 E2 E3 E4 E5 E6 E7 F1 F2 F3 F4
                go_wp2_with fail
                refine (rErrs_any l s _ _ _ (I7.out.grow (hg.trans hG)) (hsI.out.grow hG)).mono ?_
                rintro e w8 ⟨rfl, g8⟩
                go_wp2_with fail
                exact ⟨⟨k + 1, by omega, by go_num, by rw [hS.out, ← Hq.out], (hg.trans hG).trans g8⟩, by simp [intOf]; omega⟩
              · skip
                have E2 : decide ((k : Int) < 2) = false := decide_eq_false (by omega)
                have F2 : decide (k < 2) = false := decide_eq_false hk2
                clear hnl hbn
                (refine wp_region_held_drew (S := fun Wx => Grow wr Wx ∧ Wx.cell? ⟨B, 1, none⟩ = some (.slice (some ⟨b, o, none⟩) ss.length cap)) (by kernel_rfl) ⟨(Below.refl _ _).drew, Grow.keeps (Below.refl _ _).drew (by assumption)⟩ (fun hHeld => ?_); refine wpAnyH_take (i := 0) (oi := _) (v := ?_) rfl (by kernel_rfl) (by kernel_rfl) (by kernel_rfl) (fun _ _ _ h => h) (Or.inl ⟨by rfl, ?_⟩) (by assumption) ?_; rotate_left; (focus (intro w hSw; (try dsimp only at hSw); go_simp; (try with_reducible rfl))); (try simp only [Act.put, List.setIfInBounds_toArray, List.set_cons_zero, List.set_cons_succ, List.getElem_toArray, List.getElem_cons_zero]); refine wpAnyH_take (i := 1) (oi := _) (v := ?_) rfl (by kernel_rfl) (by kernel_rfl) (by kernel_rfl) (fun _ _ _ h => h) (Or.inl ⟨by rfl, ?_⟩) (by assumption) ?_; rotate_left; (focus (intro w hSw; (try dsimp only at hSw); go_simp; (try with_reducible rfl))); (try simp only [Act.put, List.setIfInBounds_toArray, List.set_cons_zero, List.set_cons_succ, List.getElem_toArray, List.getElem_cons_zero, List.getElem_cons_succ]); refine wpAnyH_take (i := 2) (oi := _) (v := ?_) rfl (by kernel_rfl) (by kernel_rfl) (by kernel_rfl) (fun _ _ _ h => h) (Or.inl ⟨by rfl, ?_⟩) (by assumption) ?_; rotate_left; (focus (intro w hSw; (try dsimp only at hSw); go_simp; (try with_reducible rfl))); (try simp only [Act.put, List.setIfInBounds_toArray, List.set_cons_zero, List.set_cons_succ, List.getElem_toArray, List.getElem_cons_zero, List.getElem_cons_succ]); refine wpAnyH_take (i := 3) (oi := _) (v := ?_) rfl (by kernel_rfl) (by kernel_rfl) (by kernel_rfl) (fun _ _ _ h => h) (Or.inl ⟨by rfl, ?_⟩) (by assumption) ?_; rotate_left; (focus (intro w hSw; (try dsimp only at hSw); go_simp; (try with_reducible rfl))); (try simp only [Act.put, List.setIfInBounds_toArray, List.set_cons_zero, List.set_cons_succ, List.getElem_toArray, List.getElem_cons_zero, List.getElem_cons_succ]); refine wpAnyH_take (i := 4) (oi := _) (v := ?_) rfl (by kernel_rfl) (by kernel_rfl) (by kernel_rfl) (fun _ _ _ h => h) (Or.inl ⟨by rfl, ?_⟩) (by assumption) ?_; rotate_left; (focus (intro w hSw; (try dsimp only at hSw); go_simp; (try with_reducible rfl))); (try simp only [Act.put, List.setIfInBounds_toArray, List.set_cons_zero, List.set_cons_succ, List.getElem_toArray, List.getElem_cons_zero, List.getElem_cons_succ]); refine wpAnyH_take (i := 5) (oi := _) (v := ?_) rfl (by kernel_rfl) (by kernel_rfl) (by kernel_rfl) (fun _ _ _ h => h) (Or.inl ⟨by rfl, ?_⟩) (by assumption) ?_; rotate_left; (focus (intro w hSw; (try dsimp only at hSw); go_simp; (try with_reducible rfl))); (try simp only [Act.put, List.setIfInBounds_toArray, List.set_cons_zero, List.set_cons_succ, List.getElem_toArray, List.getElem_cons_zero, List.getElem_cons_succ]); refine wpAnyH_take (i := 6) (oi := _) (v := ?_) rfl (by kernel_rfl) (by kernel_rfl) (by kernel_rfl) (fun _ _ _ h => h) (Or.inl ⟨by rfl, ?_⟩) (by assumption) ?_; rotate_left; (focus (intro w hSw; (try dsimp only at hSw); go_simp; (try with_reducible rfl))); (try simp only [Act.put, List.setIfInBounds_toArray, List.set_cons_zero, List.set_cons_succ, List.getElem_toArray, List.getElem_cons_zero, List.getElem_cons_succ]); refine wpAnyH_take (i := 7) (oi := _) (v := ?_) rfl (by kernel_rfl) (by kernel_rfl) (by kernel_rfl) (fun _ _ _ h => h) (Or.inl ⟨by rfl, ?_⟩) (by assumption) ?_; rotate_left; (focus (intro w hSw; (try dsimp only at hSw); go_simp; (try with_reducible rfl))); (try simp only [Act.put, List.setIfInBounds_toArray, List.set_cons_zero, List.set_cons_succ, List.getElem_toArray, List.getElem_cons_zero, List.getElem_cons_succ]); refine wpAnyH_take (i := 8) (oi := _) (v := ?_) rfl (by kernel_rfl) (by kernel_rfl) (by kernel_rfl) (fun _ _ _ h => h) (Or.inl ⟨by rfl, ?_⟩) (by assumption) ?_; rotate_left; (focus (intro w hSw; (try dsimp only at hSw); go_simp; (try with_reducible rfl))); (try simp only [Act.put, List.setIfInBounds_toArray, List.set_cons_zero, List.set_cons_succ, List.getElem_toArray, List.getElem_cons_zero, List.getElem_cons_succ]); refine wpAnyH_take (i := 9) (oi := _) (v := undef) rfl (by kernel_rfl) (by kernel_rfl) (by kernel_rfl) (fun _ _ _ h => h) (Or.inr ⟨by rfl, rfl⟩) (by assumption) ?_; (try simp only [Act.put, List.setIfInBounds_toArray, List.set_cons_zero, List.set_cons_succ, List.getElem_toArray, List.getElem_cons_zero, List.getElem_cons_succ]); refine wpAnyH_take (i := 10) (oi := _) (v := undef) rfl (by kernel_rfl) (by kernel_rfl) (by kernel_rfl) (fun _ _ _ h => h) (Or.inr ⟨by rfl, rfl⟩) (by assumption) ?_; (try simp only [Act.put, List.setIfInBounds_toArray, List.set_cons_zero, List.set_cons_succ, List.getElem_toArray, List.getElem_cons_zero, List.getElem_cons_succ]); refine wpAnyH_take (i := 11) (oi := _) (v := undef) rfl (by kernel_rfl) (by kernel_rfl) (by kernel_rfl) (fun _ _ _ h => h) (Or.inr ⟨by rfl, rfl⟩) (by assumption) ?_; (try simp only [Act.put, List.setIfInBounds_toArray, List.set_cons_zero, List.set_cons_succ, List.getElem_toArray, List.getElem_cons_zero, List.getElem_cons_succ]); refine wpAnyH_take (i := 12) (oi := _) (v := undef) rfl (by kernel_rfl) (by kernel_rfl) (by kernel_rfl) (fun _ _ _ h => h) (Or.inr ⟨by rfl, rfl⟩) (by assumption) ?_; (try simp only [Act.put, List.setIfInBounds_toArray, List.set_cons_zero, List.set_cons_succ, List.getElem_toArray, List.getElem_cons_zero, List.getElem_cons_succ]); refine wpAnyH_take (i := 13) (oi := _) (v := ?_) rfl (by kernel_rfl) (by kernel_rfl) (by kernel_rfl) (fun _ _ _ h => h) (Or.inl ⟨by rfl, ?_⟩) (by assumption) ?_; rotate_left; (focus (intro w hSw; (try dsimp only at hSw); go_simp; (try with_reducible rfl))); (try simp only [Act.put, List.setIfInBounds_toArray, List.set_cons_zero, List.set_cons_succ, List.getElem_toArray, List.getElem_cons_zero, List.getElem_cons_succ]); refine wpAnyH_take (i := 14) (oi := _) (v := ?_) rfl (by kernel_rfl) (by kernel_rfl) (by kernel_rfl) (fun _ _ _ h => h) (Or.inl ⟨by rfl, ?_⟩) (by assumption) ?_; rotate_left; (focus (intro w hSw; (try dsimp only at hSw); go_simp; (try with_reducible rfl))); (try simp only [Act.put, List.setIfInBounds_toArray, List.set_cons_zero, List.set_cons_succ, List.getElem_toArray, List.getElem_cons_zero, List.getElem_cons_succ]); refine wpAnyH_take (i := 15) (oi := _) (v := undef) rfl (by kernel_rfl) (by kernel_rfl) (by kernel_rfl) (fun _ _ _ h => h) (Or.inr ⟨by rfl, rfl⟩) (by assumption) ?_; (try simp only [Act.put, List.setIfInBounds_toArray, List.set_cons_zero, List.set_cons_succ, List.getElem_toArray, List.getElem_cons_zero, List.getElem_cons_succ]); refine wpAnyH_take (i := 16) (oi := _) (v := undef) rfl (by kernel_rfl) (by kernel_rfl) (by kernel_rfl) (fun _ _ _ h => h) (Or.inr ⟨by rfl, rfl⟩) (by assumption) ?_; (try simp only [Act.put, List.setIfInBounds_toArray, List.set_cons_zero, List.set_cons_succ, List.getElem_toArray, List.getElem_cons_zero, List.getElem_cons_succ]); refine wpAnyH_take (i := 17) (oi := _) (v := undef) rfl (by kernel_rfl) (by kernel_rfl) (by kernel_rfl) (fun _ _ _ h => h) (Or.inr ⟨by rfl, rfl⟩) (by assumption) ?_; (try simp only [Act.put, List.setIfInBounds_toArray, List.set_cons_zero, List.set_cons_succ, List.getElem_toArray, List.getElem_cons_zero, List.getElem_cons_succ]); refine wpAnyH_take (i := 18) (oi := _) (v := undef) rfl (by kernel_rfl) (by kernel_rfl) (by kernel_rfl) (fun _ _ _ h => h) (Or.inr ⟨by rfl, rfl⟩) (by assumption) ?_; (try simp only [Act.put, List.setIfInBounds_toArray, List.set_cons_zero, List.set_cons_succ, List.getElem_toArray, List.getElem_cons_zero, List.getElem_cons_succ]); refine wpAnyH_take (i := 19) (oi := _) (v := undef) rfl (by kernel_rfl) (by kernel_rfl) (by kernel_rfl) (fun _ _ _ h => h) (Or.inr ⟨by rfl, rfl⟩) (by assumption) ?_; (try simp only [Act.put, List.setIfInBounds_toArray, List.set_cons_zero, List.set_cons_succ, List.getElem_toArray, List.getElem_cons_zero, List.getElem_cons_succ]); refine wpAnyH_take (i := 20) (oi := _) (v := undef) rfl (by kernel_rfl) (by kernel_rfl) (by kernel_rfl) (fun _ _ _ h => h) (Or.inr ⟨by rfl, rfl⟩) (by assumption) ?_; (try simp only [Act.put, List.setIfInBounds_toArray, List.set_cons_zero, List.set_cons_succ, List.getElem_toArray, List.getElem_cons_zero, List.getElem_cons_succ]); refine wpAnyH_take (i := 21) (oi := _) (v := undef) rfl (by kernel_rfl) (by kernel_rfl) (by kernel_rfl) (fun _ _ _ h => h) (Or.inr ⟨by rfl, rfl⟩) (by assumption) ?_; (try simp only [Act.put, List.setIfInBounds_toArray, List.set_cons_zero, List.set_cons_succ, List.getElem_toArray, List.getElem_cons_zero, List.getElem_cons_succ]); refine wpAnyH_take (i := 22) (oi := _) (v := undef) rfl (by kernel_rfl) (by kernel_rfl) (by kernel_rfl) (fun _ _ _ h => h) (Or.inr ⟨by rfl, rfl⟩) (by assumption) ?_; (try simp only [Act.put, List.setIfInBounds_toArray, List.set_cons_zero, List.set_cons_succ, List.getElem_toArray, List.getElem_cons_zero, List.getElem_cons_succ]); refine wpAnyH_take (i := 23) (oi := _) (v := undef) rfl (by kernel_rfl) (by kernel_rfl) (by kernel_rfl) (fun _ _ _ h => h) (Or.inr ⟨by rfl, rfl⟩) (by assumption) ?_; (try simp only [Act.put, List.setIfInBounds_toArray, List.set_cons_zero, List.set_cons_succ, List.getElem_toArray, List.getElem_cons_zero, List.getElem_cons_succ]); refine wpAnyH_take (i := 24) (oi := _) (v := undef) rfl (by kernel_rfl) (by kernel_rfl) (by kernel_rfl) (fun _ _ _ h => h) (Or.inr ⟨by rfl, rfl⟩) (by assumption) ?_; (try simp only [Act.put, List.setIfInBounds_toArray, List.set_cons_zero, List.set_cons_succ, List.getElem_toArray, List.getElem_cons_zero, List.getElem_cons_succ]); refine wpAnyH_take (i := 25) (oi := _) (v := undef) rfl (by kernel_rfl) (by kernel_rfl) (by kernel_rfl) (fun _ _ _ h => h) (Or.inr ⟨by rfl, rfl⟩) (by assumption) ?_; (try simp only [Act.put, List.setIfInBounds_toArray, List.set_cons_zero, List.set_cons_succ, List.getElem_toArray, List.getElem_cons_zero, List.getElem_cons_succ]); refine wpAnyH_take (i := 26) (oi := _) (v := undef) rfl (by kernel_rfl) (by kernel_rfl) (by kernel_rfl) (fun _ _ _ h => h) (Or.inr ⟨by rfl, rfl⟩) (by assumption) ?_; (try simp only [Act.put, List.setIfInBounds_toArray, List.set_cons_zero, List.set_cons_succ, List.getElem_toArray, List.getElem_cons_zero, List.getElem_cons_succ]); refine wpAnyH_take (i := 27) (oi := _) (v := undef) rfl (by kernel_rfl) (by kernel_rfl) (by kernel_rfl) (fun _ _ _ h => h) (Or.inr ⟨by rfl, rfl⟩) (by assumption) ?_; (try simp only [Act.put, List.setIfInBounds_toArray, List.set_cons_zero, List.set_cons_succ, List.getElem_toArray, List.getElem_cons_zero, List.getElem_cons_succ]); refine wpAnyH_take (i := 28) (oi := _) (v := undef) rfl (by kernel_rfl) (by kernel_rfl) (by kernel_rfl) (fun _ _ _ h => h) (Or.inr ⟨by rfl, rfl⟩) (by assumption) ?_; (try simp only [Act.put, List.setIfInBounds_toArray, List.set_cons_zero, List.set_cons_succ, List.getElem_toArray, List.getElem_cons_zero, List.getElem_cons_succ]); refine wpAnyH_take (i := 29) (oi := _) (v := ?_) rfl (by kernel_rfl) (by kernel_rfl) (by kernel_rfl) (fun _ _ _ h => h) (Or.inl ⟨by rfl, ?_⟩) (by assumption) ?_; rotate_left; (focus (intro w hSw; (try dsimp only at hSw); go_simp; (try with_reducible rfl))); (try simp only [Act.put, List.setIfInBounds_toArray, List.set_cons_zero, List.set_cons_succ, List.getElem_toArray, List.getElem_cons_zero, List.getElem_cons_succ]); refine wpAnyH_take (i := 30) (oi := _) (v := ?_) rfl (by kernel_rfl) (by kernel_rfl) (by kernel_rfl) (fun _ _ _ h => h) (Or.inl ⟨by rfl, ?_⟩) (by assumption) ?_; rotate_left; (focus (intro w hSw; (try dsimp only at hSw); go_simp; (try with_reducible rfl))); (try simp only [Act.put, List.setIfInBounds_toArray, List.set_cons_zero, List.set_cons_succ, List.getElem_toArray, List.getElem_cons_zero, List.getElem_cons_succ]); refine wpAnyH_done (by kernel_rfl) ?_ _)
                have hG := hHeld.1
                clear E1 E2 F1 F2
                go_wp2_with fail
                refine (rErrs_any l s _ _ _ (I7.out.grow (hg.trans hG)) (hsI.out.grow hG)).mono ?_
                rintro e w8 ⟨rfl, g8⟩
                go_wp2_with fail
                exact ⟨⟨k + 1, by omega, by go_num, by rw [hS.out, ← Hq.out], (hg.trans hG).trans g8⟩, by simp [intOf]; omega⟩
            · skip
              have E1 : decide ((l.length : Int) < s.length) = false := decide_eq_false (by omega)
              have F1 : decide (l.length < s.length) = false := decide_eq_false (by omega)
              have E2 : decide ((k : Int) < 2) = true := decide_eq_true (by omega)
              have F2 : decide (k < 2) = true := decide_eq_true (by omega)
              have E3 : decide ((1 : Int) < ss.length) = false := decide_eq_false (by omega)
              have F3 : decide (1 < ss.length) = false := decide_eq_false h1
              clear hnl
              (refine wp_region_held_drew (S := fun Wx => Grow wr Wx ∧ Wx.cell? ⟨B, 1, none⟩ = some (.slice (some ⟨b, o, none⟩) ss.length cap)) (by kernel_rfl) ⟨(Below.refl _ _).drew, Grow.keeps (Below.refl _ _).drew (by assumption)⟩ (fun hHeld => ?_); refine wpAnyH_take (i := 0) (oi := _) (v := ?_) rfl (by kernel_rfl) (by kernel_rfl) (by kernel_rfl) (fun _ _ _ h => h) (Or.inl ⟨by rfl, ?_⟩) (by assumption) ?_; rotate_left; (focus (intro w hSw; (try dsimp only at hSw); go_simp; (try with_reducible rfl))); (try simp only [Act.put, List.setIfInBounds_toArray, List.set_cons_zero, List.set_cons_succ, List.getElem_toArray, List.getElem_cons_zero]); refine wpAnyH_take (i := 1) (oi := _) (v := ?_) rfl (by kernel_rfl) (by kernel_rfl) (by kernel_rfl) (fun _ _ _ h => h) (Or.inl ⟨by rfl, ?_⟩) (by assumption) ?_; rotate_left; (focus (intro w hSw; (try dsimp only at hSw); go_simp; (try with_reducible rfl))); (try simp only [Act.put, List.setIfInBounds_toArray, List.set_cons_zero, List.set_cons_succ, List.getElem_toArray, List.getElem_cons_zero, List.getElem_cons_succ]); refine wpAnyH_take (i := 2) (oi := _) (v := ?_) rfl (by kernel_rfl) (by kernel_rfl) (by kernel_rfl) (fun _ _ _ h => h) (Or.inl ⟨by rfl, ?_⟩) (by assumption) ?_; rotate_left; (focus (intro w hSw; (try dsimp only at hSw); go_simp; (try with_reducible rfl))); (try simp only [Act.put, List.setIfInBounds_toArray, List.set_cons_zero, List.set_cons_succ, List.getElem_toArray, List.getElem_cons_zero, List.getElem_cons_succ]); refine wpAnyH_take (i := 3) (oi := _) (v := ?_) rfl (by kernel_rfl) (by kernel_rfl) (by kernel_rfl) (fun _ _ _ h => h) (Or.inl ⟨by rfl, ?_⟩) (by assumption) ?_; rotate_left; (focus (intro w hSw; (try dsimp only at hSw); go_simp; (try with_reducible rfl))); (try simp only [Act.put, List.setIfInBounds_toArray, List.set_cons_zero, List.set_cons_succ, List.getElem_toArray, List.getElem_cons_zero, List.getElem_cons_succ]); refine wpAnyH_take (i := 4) (oi := _) (v := ?_) rfl (by kernel_rfl) (by kernel_rfl) (by kernel_rfl) (fun _ _ _ h => h) (Or.inl ⟨by rfl, ?_⟩) (by assumption) ?_; rotate_left; (focus (intro w hSw; (try dsimp only at hSw); go_simp; (try with_reducible rfl))); (try simp only [Act.put, List.setIfInBounds_toArray, List.set_cons_zero, List.set_cons_succ, List.getElem_toArray, List.getElem_cons_zero, List.getElem_cons_succ]); refine wpAnyH_take (i := 5) (oi := _) (v := ?_) rfl (by kernel_rfl) (by kernel_rfl) (by kernel_rfl) (fun _ _ _ h => h) (Or.inl ⟨by rfl, ?_⟩) (by assumption) ?_; rotate_left; (focus (intro w hSw; (try dsimp only at hSw); go_simp; (try with_reducible rfl))); (try simp only [Act.put, List.setIfInBounds_toArray, List.set_cons_zero, List.set_cons_succ, List.getElem_toArray, List.getElem_cons_zero, List.getElem_cons_succ]); refine wpAnyH_take (i := 6) (oi := _) (v := ?_) rfl (by kernel_rfl) (by kernel_rfl) (by kernel_rfl) (fun _ _ _ h => h) (Or.inl ⟨by rfl, ?_⟩) (by assumption) ?_; rotate_left; (focus (intro w hSw; (try dsimp only at hSw); go_simp; (try with_reducible rfl))); (try simp only [Act.put, List.setIfInBounds_toArray, List.set_cons_zero, List.set_cons_succ, List.getElem_toArray, List.getElem_cons_zero, List.getElem_cons_succ]); refine wpAnyH_take (i := 7) (oi := _) (v := ?_) rfl (by kernel_rfl) (by kernel_rfl) (by kernel_rfl) (fun _ _ _ h => h) (Or.inl ⟨by rfl, ?_⟩) (by assumption) ?_; rotate_left; (focus (intro w hSw; (try dsimp only at hSw); go_simp; (try with_reducible rfl))); (try simp only [Act.put, List.setIfInBounds_toArray, List.set_cons_zero, List.set_cons_succ, List.getElem_toArray, List.getElem_cons_zero, List.getElem_cons_succ]); refine wpAnyH_take (i := 8) (oi := _) (v := ?_) rfl (by kernel_rfl) (by kernel_rfl) (by kernel_rfl) (fun _ _ _ h => h) (Or.inl ⟨by rfl, ?_⟩) (by assumption) ?_; rotate_left; (focus (intro w hSw; (try dsimp only at hSw); go_simp; (try with_reducible rfl))); (try simp only [Act.put, List.setIfInBounds_toArray, List.set_cons_zero, List.set_cons_succ, List.getElem_toArray, List.getElem_cons_zero, List.getElem_cons_succ]); refine wpAnyH_take (i := 9) (oi := _) (v := ?_) rfl (by kernel_rfl) (by kernel_rfl) (by kernel_rfl) (fun _ _ _ h => h) (Or.inl ⟨by rfl, ?_⟩) (by assumption) ?_; rotate_left; (focus (intro w hSw; (try dsimp only at hSw); go_simp; (try with_reducible rfl))); (try simp only [Act.put, List.setIfInBounds_toArray, List.set_cons_zero, List.set_cons_succ, List.getElem_toArray, List.getElem_cons_zero, List.getElem_cons_succ]); refine wpAnyH_take (i := 10) (oi := _) (v := ?_) rfl (by kernel_rfl) (by kernel_rfl) (by kernel_rfl) (fun _ _ _ h => h) (Or.inl ⟨by rfl, ?_⟩) (by assumption) ?_; rotate_left; (focus (intro w hSw; (try dsimp only at hSw); go_simp; (try with_reducible rfl))); (try simp only [Act.put, List.setIfInBounds_toArray, List.set_cons_zero, List.set_cons_succ, List.getElem_toArray, List.getElem_cons_zero, List.getElem_cons_succ]); refine wpAnyH_take (i := 11) (oi := _) (v := ?_) rfl (by kernel_rfl) (by kernel_rfl) (by kernel_rfl) (fun _ _ _ h => h) (Or.inl ⟨by rfl, ?_⟩) (by assumption) ?_; rotate_left; (focus (intro w hSw; (try dsimp only at hSw); go_simp; (try with_reducible rfl))); (try simp only [Act.put, List.setIfInBounds_toArray, List.set_cons_zero, List.set_cons_succ, List.getElem_toArray, List.getElem_cons_zero, List.getElem_cons_succ]); refine wpAnyH_take (i := 12) (oi := _) (v := ?_) rfl (by kernel_rfl) (by kernel_rfl) (by kernel_rfl) (fun _ _ _ h => h) (Or.inl ⟨by rfl, ?_⟩) (by assumption) ?_; rotate_left; (focus (intro w hSw; (try dsimp only at hSw); go_simp; (try with_reducible rfl))); (try simp only [Act.put, List.setIfInBounds_toArray, List.set_cons_zero, List.set_cons_succ, List.getElem_toArray, List.getElem_cons_zero, List.getElem_cons_succ]); refine wpAnyH_take (i := 13) (oi := _) (v := ?_) rfl (by kernel_rfl) (by kernel_rfl) (by kernel_rfl) (fun _ _ _ h => h) (Or.inl ⟨by rfl, ?_⟩) (by assumption) ?_; rotate_left; (focus (intro w hSw; (try dsimp only at hSw); go_simp; (try with_reducible rfl))); (try simp only [Act.put, List.setIfInBounds_toArray, List.set_cons_zero, List.set_cons_succ, List.getElem_toArray, List.getElem_cons_zero, List.getElem_cons_succ]); refine wpAnyH_take (i := 14) (oi := _) (v := ?_) rfl (by kernel_rfl) (by kernel_rfl) (by kernel_rfl) (fun _ _ _ h => h) (Or.inl ⟨by rfl, ?_⟩) (by assumption) ?_; rotate_left; (focus (intro w hSw; (try dsimp only at hSw); go_simp; (try with_reducible rfl))); (try simp only [Act.put, List.setIfInBounds_toArray, List.set_cons_zero, List.set_cons_succ, List.getElem_toArray, List.getElem_cons_zero, List.getElem_cons_succ]); refine wpAnyH_take (i := 15) (oi := _) (v := undef) rfl (by kernel_rfl) (by kernel_rfl) (by kernel_rfl) (fun _ _ _ h => h) (Or.inr ⟨by rfl, rfl⟩) (by assumption) ?_; (try simp only [Act.put, List.setIfInBounds_toArray, List.set_cons_zero, List.set_cons_succ, List.getElem_toArray, List.getElem_cons_zero, List.getElem_cons_succ]); refine wpAnyH_take (i := 16) (oi := _) (v := undef) rfl (by kernel_rfl) (by kernel_rfl) (by kernel_rfl) (fun _ _ _ h => h) (Or.inr ⟨by rfl, rfl⟩) (by assumption) ?_; (try simp only [Act.put, List.setIfInBounds_toArray, List.set_cons_zero, List.set_cons_succ, List.getElem_toArray, List.getElem_cons_zero, List.getElem_cons_succ]); refine wpAnyH_take (i := 17) (oi := _) (v := undef) rfl (by kernel_rfl) (by kernel_rfl) (by kernel_rfl) (fun _ _ _ h => h) (Or.inr ⟨by rfl, rfl⟩) (by assumption) ?_; (try simp only [Act.put, List.setIfInBounds_toArray, List.set_cons_zero, List.set_cons_succ, List.getElem_toArray, List.getElem_cons_zero, List.getElem_cons_succ]); refine wpAnyH_take (i := 18) (oi := _) (v := undef) rfl (by kernel_rfl) (by kernel_rfl) (by kernel_rfl) (fun _ _ _ h => h) (Or.inr ⟨by rfl, rfl⟩) (by assumption) ?_; (try simp only [Act.put, List.setIfInBounds_toArray, List.set_cons_zero, List.set_cons_succ, List.getElem_toArray, List.getElem_cons_zero, List.getElem_cons_succ]); refine wpAnyH_take (i := 19) (oi := _) (v := undef) rfl (by kernel_rfl) (by kernel_rfl) (by kernel_rfl) (fun _ _ _ h => h) (Or.inr ⟨by rfl, rfl⟩) (by assumption) ?_; (try simp only [Act.put, List.setIfInBounds_toArray, List.set_cons_zero, List.set_cons_succ, List.getElem_toArray, List.getElem_cons_zero, List.getElem_cons_succ]); refine wpAnyH_take (i := 20) (oi := _) (v := undef) rfl (by kernel_rfl) (by kernel_rfl) (by kernel_rfl) (fun _ _ _ h => h) (Or.inr ⟨by rfl, rfl⟩) (by assumption) ?_; (try simp only [Act.put, List.setIfInBounds_toArray, List.set_cons_zero, List.set_cons_succ, List.getElem_toArray, List.getElem_cons_zero, List.getElem_cons_succ]); refine wpAnyH_take (i := 21) (oi := _) (v := undef) rfl (by kernel_rfl) (by kernel_rfl) (by kernel_rfl) (fun _ _ _ h => h) (Or.inr ⟨by rfl, rfl⟩) (by assumption) ?_; (try simp only [Act.put, List.setIfInBounds_toArray, List.set_cons_zero, List.set_cons_succ, List.getElem_toArray, List.getElem_cons_zero, List.getElem_cons_succ]); refine wpAnyH_take (i := 22) (oi := _) (v := undef) rfl (by kernel_rfl) (by kernel_rfl) (by kernel_rfl) (fun _ _ _ h => h) (Or.inr ⟨by rfl, rfl⟩) (by assumption) ?_; (try simp only [Act.put, List.setIfInBounds_toArray, List.set_cons_zero, List.set_cons_succ, List.getElem_toArray, List.getElem_cons_zero, List.getElem_cons_succ]); refine wpAnyH_take (i := 23) (oi := _) (v := undef) rfl (by kernel_rfl) (by kernel_rfl) (by kernel_rfl) (fun _ _ _ h => h) (Or.inr ⟨by rfl, rfl⟩) (by assumption) ?_; (try simp only [Act.put, List.setIfInBounds_toArray, List.set_cons_zero, List.set_cons_succ, List.getElem_toArray, List.getElem_cons_zero, List.getElem_cons_succ]); refine wpAnyH_take (i := 24) (oi := _) (v := undef) rfl (by kernel_rfl) (by kernel_rfl) (by kernel_rfl) (fun _ _ _ h => h) (Or.inr ⟨by rfl, rfl⟩) (by assumption) ?_; (try simp only [Act.put, List.setIfInBounds_toArray, List.set_cons_zero, List.set_cons_succ, List.getElem_toArray, List.getElem_cons_zero, List.getElem_cons_succ]); refine wpAnyH_take (i := 25) (oi := _) (v := undef) rfl (by kernel_rfl) (by kernel_rfl) (by kernel_rfl) (fun _ _ _ h => h) (Or.inr ⟨by rfl, rfl⟩) (by assumption) ?_; (try simp only [Act.put, List.setIfInBounds_toArray, List.set_cons_zero, List.set_cons_succ, List.getElem_toArray, List.getElem_cons_zero, List.getElem_cons_succ]); refine wpAnyH_take (i := 26) (oi := _) (v := undef) rfl (by kernel_rfl) (by kernel_rfl) (by kernel_rfl) (fun _ _ _ h => h) (Or.inr ⟨by rfl, rfl⟩) (by assumption) ?_; (try simp only [Act.put, List.setIfInBounds_toArray, List.set_cons_zero, List.set_cons_succ, List.getElem_toArray, List.getElem_cons_zero, List.getElem_cons_succ]); refine wpAnyH_take (i := 27) (oi := _) (v := undef) rfl (by kernel_rfl) (by kernel_rfl) (by kernel_rfl) (fun _ _ _ h => h) (Or.inr ⟨by rfl, rfl⟩) (by assumption) ?_; (try simp only [Act.put, List.setIfInBounds_toArray, List.set_cons_zero, List.set_cons_succ, List.getElem_toArray, List.getElem_cons_zero, List.getElem_cons_succ]); refine wpAnyH_take (i := 28) (oi := _) (v := undef) rfl (by kernel_rfl) (by kernel_rfl) (by kernel_rfl) (fun _ _ _ h => h) (Or.inr ⟨by rfl, rfl⟩) (by assumption) ?_; (try simp only [Act.put, List.setIfInBounds_toArray, List.set_cons_zero, List.set_cons_succ, List.getElem_toArray, List.getElem_cons_zero, List.getElem_cons_succ]); refine wpAnyH_take (i := 29) (oi := _) (v := ?_) rfl (by kernel_rfl) (by kernel_rfl) (by kernel_rfl) (fun _ _ _ h => h) (Or.inl ⟨by rfl, ?_⟩) (by assumption) ?_; rotate_left; (focus (intro w hSw; (try dsimp only at hSw); go_simp; (try with_reducible rfl))); (try simp only [Act.put, List.setIfInBounds_toArray, List.set_cons_zero, List.set_cons_succ, List.getElem_toArray, List.getElem_cons_zero, List.getElem_cons_succ]); refine wpAnyH_take (i := 30) (oi := _) (v := ?_) rfl (by kernel_rfl) (by kernel_rfl) (by kernel_rfl) (fun _ _ _ h => h) (Or.inl ⟨by rfl, ?_⟩) (by assumption) ?_; rotate_left; (focus (intro w hSw; (try dsimp only at hSw); go_simp; (try with_reducible rfl))); (try simp only [Act.put, List.setIfInBounds_toArray, List.set_cons_zero, List.set_cons_succ, List.getElem_toArray, List.getElem_cons_zero, List.getElem_cons_succ]); refine wpAnyH_done (by kernel_rfl) ?_ _)
              have hG := hHeld.1
              clear E1 E2 E3 F1 F2 F3
              go_wp2_with fail
              refine (rErrs_any l s _ _ _ (I7.out.grow (hg.trans hG)) (hsI.out.grow hG)).mono ?_
              rintro e w8 ⟨rfl, g8⟩
              go_wp2_with fail
              exact ⟨⟨k + 1, by omega, by go_num, by rw [hS.out, ← Hq.out], (hg.trans hG).trans g8⟩, by simp [intOf]; omega⟩
          · have hkk : sumErrs l (ss.take k) = n := by rw [take_len hlt, Hsum.out, Hn.out]
            rw [hkk]
            clear hkk
            go_wp2_with fail
            obtain ⟨wL, hwL⟩ : ∃ wL, wL = wr := ⟨_, rfl⟩
            subst hwL
            have gL := gx.trans hg
            have g7L := hg
            clear z0 hy0 hg hk hlt e0 e1 gx
            go_loopw [16, 179] (fun q i wo => ∃ (k2 : Nat) (u2 : Value), u2 = q ∧ k2 ≤ bs.length ∧ i = .int .i64 k2 ∧ Own wo wL.heap.size 3 u2 ((ownTo P bs k2).map (Value.int .i64)) ∧ Grow wL wo) (fun _ i _ => bs.length - (intOf i).toNat)
            case atStart => exact ⟨0, _, rfl, Nat.zero_le _, rfl, Own.nil _ _ _, Grow.refl _⟩
            case round =>
              obtain ⟨k2, u2, rfl, hk2, rfl, hown, hgo⟩ := hrel
              have o0 := hgo.keeps d0
              have o1 := hgo.keeps d1
              by_cases hlt2 : k2 < bs.length
              · skip
                obtain ⟨i0, hi0, hi1, hi2, hi3⟩ := info_parts pinfo_int
                obtain ⟨bb, bo, x, hx, rfl, hcx⟩ := Hur.out.kind hlt2
                have hcx := hgo.keeps (gL.keeps hcx)
                have hxr := wf_u8 (Huw.out x (List.mem_of_getElem? hx))
                have hlen2 := ownTo_len P bs k2
                have HX := Lib.hid hx
                have hwx : wrap64 x = x := IntWalk.wrap64_in _ (by omega)
                have hrn : 0 ≤ x.tmod P := Int.tmod_nonneg _ hxr.1
                have hrl : x.tmod P < P := Int.tmod_lt_of_pos _ (by omega)
                have hP0 : ¬ P = 0 := by omega
                clear hx
                by_cases h12 : k2 < 12
                · have HO := Lib.hid (ownTo_succ (P := P) HX.out h12)
                  obtain ⟨y, hy⟩ : ∃ y, x.tmod P = y := ⟨_, rfl⟩
                  have hwy : wrap64 y = y := IntWalk.wrap64_in _ (by omega)
                  have hbytes : (((ownTo P bs k2).map (Value.int .i64)).length + [Value.int .i64 y].length) * 8 ≤ 140737488355328 := by simp; omega
                  have hu : Try.prog.underlying 25 = some (.slice 3) := by kernel_rfl
                  rw [hy] at HO hrn hrl
                  go_wp2_with (at_builtin; refine wpl_app rfl _ _ 25 rfl wL.heap.size 3 i0 _ 8 hu hi0 hi1 hi2 hi3 rfl u2 ((ownTo P bs k2).map (Value.int .i64)) rfl (hown.alloc _) _ _ [.int .i64 y] 1 rfl rfl (fun h => nomatch h) (row_new1 _ _ _ (by simp)) (by simp [Value.oneCell']) hbytes (by omega) (by first | exact hgo.size | exact (hgo.alloc _).size) ?_; intro v' wz hown1 hgr1 hmv1)
                  refine ⟨⟨k2 + 1, v', rfl, by omega, by go_num, by rw [HO.out, List.map_append]; exact hown1, ?_⟩, by simp [intOf]; omega⟩
                  exact Below.trans hgo (Below.trans (((Grow.refl _).alloc _).mono hgo.size) (grownBy_below hgr1 (fun k h => hown.base k h) (by first | exact hgo.size | exact (hgo.alloc _).size)))
                · have HO := Lib.hid (ownTo_same (P := P) (bs := bs) (k := k2) (by omega))
                  go_wp2_with fail
                  exact ⟨⟨k2 + 1, _, rfl, by omega, by go_num, by rw [HO.out]; exact hown, hgo⟩, by simp [intOf]; omega⟩
              · skip
                obtain ⟨ow, how⟩ : ∃ ow, ownTo P bs k2 = ow := ⟨_, rfl⟩
                have hor : raceB P ow = true := by rw [← how]; exact ownTo_race (by omega) (fun x hx => (wf_u8 (Huw.out x hx)).1) _
                have hol := ownTo_len P bs k2
                rw [how] at hol hown
                have gO := gL.trans hgo
                have HI := Lib.hid (hown.ints (by omega))
                clear how hown
                have hbE := isE_race Hval.out hor
                obtain ⟨ib, hb⟩ : ∃ ib, isR P ss ow = ib := ⟨_, rfl⟩
                have Hor := Lib.hid hor
                have HbE := Lib.hid hbE
                have Hb := Lib.hid hb
                clear hor hbE hb
                go_wp2_with fail
                refine (pIs_any P _ _ ss ow _ hP1 hP2 (Hv.out.grow gO) HI.out).mono ?_
                rw [HbE.out, Hb.out]
                rintro e w8 ⟨rfl, g8⟩
                have p0 := g8.keeps o0
                have p1 := g8.keeps o1
                clear o0 o1 HbE
                have dl := lt_of_cell p0
                have g78 := hgo.trans g8
                have gP := gO.trans g8
                have HI8 := Lib.hid (HI.out.grow g8)
                clear HI gO hgo g8 d0 d1
                have z0 := gP.keeps hc0
                have HI8b := Lib.hid (HI8.out)
                go_wp2_with fail
                by_cases h2 : ss.length = 2
                case' pos =>
                  obtain ⟨s1, sa1, sc1, hx1, hc1, hsc1, h61, hsr1, hb1⟩ := Htwo.out (by omega)
                  have z1 := gP.keeps hc1
                  have h60 := (Hvp3.out s0 (List.mem_of_getElem? Hx0.out)).1
                  have hge : n ≤ errs ow s0 + errs ow s1 := by
                    have hss : ss = [s0, s1] := by
                      have hx0 := Hx0.out
                      match ss, h2, hx0, hx1 with
                      | [x, y], _, hx0, hx1 => cases hx0; cases hx1; rfl
                    have hor := raceB_all.1 Hor.out
                    have ha := (Hvp3.out s0 (List.mem_of_getElem? Hx0.out)).2
                    have hb := (Hvp3.out s1 (List.mem_of_getElem? hx1)).2
                    have := (two_least P.toNat s0 s1 ow h60 h61 (by omega) (fun x hx => by have := ha x hx; omega) (fun x hx => by have := hb x hx; omega) (by omega) (fun x hx => by have := hor x hx; omega)).1
                    rw [← Hn.out, hss]; exact this
                  have hq0r := errs_range ow s0
                  have hq1r := errs_range ow s1
                  have RE : Hid (∀ V (x : Value) (q : Int), Grow w8 V → ((x = .slice sa0 s0.length sc0 ∧ q = errs ow s0) ∨ (x = .slice sa1 s1.length sc1 ∧ q = errs ow s1)) → Calls Try.prog 32 #[u2, x] V fun e w' => e = .returned (.int .i64 q) ∧ Grow V w') := by
                    rintro V x q hV (⟨rfl, rfl⟩ | ⟨rfl, rfl⟩)
                    · exact rErrs_any ow s0 _ _ V (HI8.out.grow hV) ⟨sa0, sc0, rfl, hsc0, hs80, (Hsr0.out.grow gP).grow hV⟩
                    · exact rErrs_any ow s1 _ _ V (HI8.out.grow hV) ⟨sa1, sc1, rfl, hsc1, by omega, (hsr1.grow gP).grow hV⟩
                  obtain ⟨q0, hq0⟩ : ∃ q, errs ow s0 = q := ⟨_, rfl⟩
                  obtain ⟨q1, hq1⟩ : ∃ q, errs ow s1 = q := ⟨_, rfl⟩
                  rw [hq0] at RE hq0r hge
                  rw [hq1] at RE hq1r hge
                  rw [h2] at p1 ⊢
                  have H2 := Lib.hid h2
                  have E4 : IntKind.i64.wrap (q0 + q1) = q0 + q1 := IntWalk.i64_in _ (by omega)
                  have E5 : decide (q0 + q1 < n) = false := decide_eq_false (by omega)
                  clear hx1 hc1 hsr1 hq0 hq1 hb1 h2 hvp2 vp2 vp1 hul2 hul huc hcap hlen hsc0 hs80 h60 h61 hlt2 hk2
                  go_region_held3 (fun Wx => Grow w8 Wx ∧ Wx.cell? ⟨B, 1, none⟩ = some (.slice (some ⟨b, o, none⟩) 2 cap) ∧ Wx.cell? ⟨b, o, none⟩ = some (.slice sa0 s0.length sc0) ∧ Wx.cell? ⟨b, o + 1, none⟩ = some (.slice sa1 s1.length sc1)) ((refine (fun (hG : Grow w8 _) => ⟨hG, Grow.keeps hG (by assumption), Grow.keeps hG (by assumption), Grow.keeps hG (by assumption)⟩) ?_; (try go_split_ands); first | exact (Below.refl _ _).drew | exact Grow.alloc (by assumption) _ | exact Below.setCell (Below.setCell (by assumption) (by simp <;> omega) _) (by simp <;> omega) _ | exact Grow.trans (by assumption) (by assumption) | exact Below.trans (by assumption) (by assumption))) ((go_at_call 32; refine (RE.out _ _ _ (by first | assumption | (go_split_ands; assumption) | exact (Grow.refl _).drew) (by first | exact .inl ⟨rfl, rfl⟩ | exact .inr ⟨rfl, rfl⟩)).mono ?_; rintro e w9 ⟨rfl, g9⟩))
                  rename_i hH
                  have gz := hH.1
                  clear hH E4 E5 RE z1 hge
                case' neg =>
                  have E1 : ((ss.length : Int) == 2) = false := beq_eq_false_iff_ne.2 (by omega)
                  have F1 : (ss.length == 2) = false := beq_eq_false_iff_ne.2 h2
                  have E2 : decide ((ss.length : Int) = 2) = false := decide_eq_false (by omega)
                  have F2 : decide (ss.length = 2) = false := decide_eq_false h2
                  (refine wp_region_held_drew (S := fun Wx => Grow w8 Wx ∧ Wx.cell? ⟨B, 1, none⟩ = some (.slice (some ⟨b, o, none⟩) ss.length cap)) (by kernel_rfl) ⟨(Below.refl _ _).drew, Grow.keeps (Below.refl _ _).drew (by assumption)⟩ (fun hHeld => ?_); refine wpAnyH_take (i := 0) (oi := _) (v := ?_) rfl (by kernel_rfl) (by kernel_rfl) (by kernel_rfl) (fun _ _ _ h => h) (Or.inl ⟨by rfl, ?_⟩) (by assumption) ?_; rotate_left; (focus (intro w hSw; (try dsimp only at hSw); go_simp; (try with_reducible rfl))); (try simp only [Act.put, List.setIfInBounds_toArray, List.set_cons_zero, List.set_cons_succ, List.getElem_toArray, List.getElem_cons_zero]); refine wpAnyH_take (i := 1) (oi := _) (v := ?_) rfl (by kernel_rfl) (by kernel_rfl) (by kernel_rfl) (fun _ _ _ h => h) (Or.inl ⟨by rfl, ?_⟩) (by assumption) ?_; rotate_left; (focus (intro w hSw; (try dsimp only at hSw); go_simp; (try with_reducible rfl))); (try simp only [Act.put, List.setIfInBounds_toArray, List.set_cons_zero, List.set_cons_succ, List.getElem_toArray, List.getElem_cons_zero, List.getElem_cons_succ]); refine wpAnyH_take (i := 2) (oi := _) (v := ?_) rfl (by kernel_rfl) (by kernel_rfl) (by kernel_rfl) (fun _ _ _ h => h) (Or.inl ⟨by rfl, ?_⟩) (by assumption) ?_; rotate_left; (focus (intro w hSw; (try dsimp only at hSw); go_simp; (try with_reducible rfl))); (try simp only [Act.put, List.setIfInBounds_toArray, List.set_cons_zero, List.set_cons_succ, List.getElem_toArray, List.getElem_cons_zero, List.getElem_cons_succ]); refine wpAnyH_take (i := 3) (oi := _) (v := ?_) rfl (by kernel_rfl) (by kernel_rfl) (by kernel_rfl) (fun _ _ _ h => h) (Or.inl ⟨by rfl, ?_⟩) (by assumption) ?_; rotate_left; (focus (intro w hSw; (try dsimp only at hSw); go_simp; (try with_reducible rfl))); (try simp only [Act.put, List.setIfInBounds_toArray, List.set_cons_zero, List.set_cons_succ, List.getElem_toArray, List.getElem_cons_zero, List.getElem_cons_succ]); refine wpAnyH_take (i := 4) (oi := _) (v := ?_) rfl (by kernel_rfl) (by kernel_rfl) (by kernel_rfl) (fun _ _ _ h => h) (Or.inl ⟨by rfl, ?_⟩) (by assumption) ?_; rotate_left; (focus (intro w hSw; (try dsimp only at hSw); go_simp; (try with_reducible rfl))); (try simp only [Act.put, List.setIfInBounds_toArray, List.set_cons_zero, List.set_cons_succ, List.getElem_toArray, List.getElem_cons_zero, List.getElem_cons_succ]); refine wpAnyH_take (i := 5) (oi := _) (v := undef) rfl (by kernel_rfl) (by kernel_rfl) (by kernel_rfl) (fun _ _ _ h => h) (Or.inr ⟨by rfl, rfl⟩) (by assumption) ?_; (try simp only [Act.put, List.setIfInBounds_toArray, List.set_cons_zero, List.set_cons_succ, List.getElem_toArray, List.getElem_cons_zero, List.getElem_cons_succ]); refine wpAnyH_take (i := 6) (oi := _) (v := undef) rfl (by kernel_rfl) (by kernel_rfl) (by kernel_rfl) (fun _ _ _ h => h) (Or.inr ⟨by rfl, rfl⟩) (by assumption) ?_; (try simp only [Act.put, List.setIfInBounds_toArray, List.set_cons_zero, List.set_cons_succ, List.getElem_toArray, List.getElem_cons_zero, List.getElem_cons_succ]); refine wpAnyH_take (i := 7) (oi := _) (v := undef) rfl (by kernel_rfl) (by kernel_rfl) (by kernel_rfl) (fun _ _ _ h => h) (Or.inr ⟨by rfl, rfl⟩) (by assumption) ?_; (try simp only [Act.put, List.setIfInBounds_toArray, List.set_cons_zero, List.set_cons_succ, List.getElem_toArray, List.getElem_cons_zero, List.getElem_cons_succ]); refine wpAnyH_take (i := 8) (oi := _) (v := undef) rfl (by kernel_rfl) (by kernel_rfl) (by kernel_rfl) (fun _ _ _ h => h) (Or.inr ⟨by rfl, rfl⟩) (by assumption) ?_; (try simp only [Act.put, List.setIfInBounds_toArray, List.set_cons_zero, List.set_cons_succ, List.getElem_toArray, List.getElem_cons_zero, List.getElem_cons_succ]); refine wpAnyH_take (i := 9) (oi := _) (v := undef) rfl (by kernel_rfl) (by kernel_rfl) (by kernel_rfl) (fun _ _ _ h => h) (Or.inr ⟨by rfl, rfl⟩) (by assumption) ?_; (try simp only [Act.put, List.setIfInBounds_toArray, List.set_cons_zero, List.set_cons_succ, List.getElem_toArray, List.getElem_cons_zero, List.getElem_cons_succ]); refine wpAnyH_take (i := 10) (oi := _) (v := undef) rfl (by kernel_rfl) (by kernel_rfl) (by kernel_rfl) (fun _ _ _ h => h) (Or.inr ⟨by rfl, rfl⟩) (by assumption) ?_; (try simp only [Act.put, List.setIfInBounds_toArray, List.set_cons_zero, List.set_cons_succ, List.getElem_toArray, List.getElem_cons_zero, List.getElem_cons_succ]); refine wpAnyH_take (i := 11) (oi := _) (v := undef) rfl (by kernel_rfl) (by kernel_rfl) (by kernel_rfl) (fun _ _ _ h => h) (Or.inr ⟨by rfl, rfl⟩) (by assumption) ?_; (try simp only [Act.put, List.setIfInBounds_toArray, List.set_cons_zero, List.set_cons_succ, List.getElem_toArray, List.getElem_cons_zero, List.getElem_cons_succ]); refine wpAnyH_take (i := 12) (oi := _) (v := undef) rfl (by kernel_rfl) (by kernel_rfl) (by kernel_rfl) (fun _ _ _ h => h) (Or.inr ⟨by rfl, rfl⟩) (by assumption) ?_; (try simp only [Act.put, List.setIfInBounds_toArray, List.set_cons_zero, List.set_cons_succ, List.getElem_toArray, List.getElem_cons_zero, List.getElem_cons_succ]); refine wpAnyH_take (i := 13) (oi := _) (v := undef) rfl (by kernel_rfl) (by kernel_rfl) (by kernel_rfl) (fun _ _ _ h => h) (Or.inr ⟨by rfl, rfl⟩) (by assumption) ?_; (try simp only [Act.put, List.setIfInBounds_toArray, List.set_cons_zero, List.set_cons_succ, List.getElem_toArray, List.getElem_cons_zero, List.getElem_cons_succ]); refine wpAnyH_take (i := 14) (oi := _) (v := undef) rfl (by kernel_rfl) (by kernel_rfl) (by kernel_rfl) (fun _ _ _ h => h) (Or.inr ⟨by rfl, rfl⟩) (by assumption) ?_; (try simp only [Act.put, List.setIfInBounds_toArray, List.set_cons_zero, List.set_cons_succ, List.getElem_toArray, List.getElem_cons_zero, List.getElem_cons_succ]); refine wpAnyH_take (i := 15) (oi := _) (v := undef) rfl (by kernel_rfl) (by kernel_rfl) (by kernel_rfl) (fun _ _ _ h => h) (Or.inr ⟨by rfl, rfl⟩) (by assumption) ?_; (try simp only [Act.put, List.setIfInBounds_toArray, List.set_cons_zero, List.set_cons_succ, List.getElem_toArray, List.getElem_cons_zero, List.getElem_cons_succ]); refine wpAnyH_take (i := 16) (oi := _) (v := undef) rfl (by kernel_rfl) (by kernel_rfl) (by kernel_rfl) (fun _ _ _ h => h) (Or.inr ⟨by rfl, rfl⟩) (by assumption) ?_; (try simp only [Act.put, List.setIfInBounds_toArray, List.set_cons_zero, List.set_cons_succ, List.getElem_toArray, List.getElem_cons_zero, List.getElem_cons_succ]); refine wpAnyH_take (i := 17) (oi := _) (v := undef) rfl (by kernel_rfl) (by kernel_rfl) (by kernel_rfl) (fun _ _ _ h => h) (Or.inr ⟨by rfl, rfl⟩) (by assumption) ?_; (try simp only [Act.put, List.setIfInBounds_toArray, List.set_cons_zero, List.set_cons_succ, List.getElem_toArray, List.getElem_cons_zero, List.getElem_cons_succ]); refine wpAnyH_take (i := 18) (oi := _) (v := undef) rfl (by kernel_rfl) (by kernel_rfl) (by kernel_rfl) (fun _ _ _ h => h) (Or.inr ⟨by rfl, rfl⟩) (by assumption) ?_; (try simp only [Act.put, List.setIfInBounds_toArray, List.set_cons_zero, List.set_cons_succ, List.getElem_toArray, List.getElem_cons_zero, List.getElem_cons_succ]); refine wpAnyH_take (i := 19) (oi := _) (v := undef) rfl (by kernel_rfl) (by kernel_rfl) (by kernel_rfl) (fun _ _ _ h => h) (Or.inr ⟨by rfl, rfl⟩) (by assumption) ?_; (try simp only [Act.put, List.setIfInBounds_toArray, List.set_cons_zero, List.set_cons_succ, List.getElem_toArray, List.getElem_cons_zero, List.getElem_cons_succ]); refine wpAnyH_take (i := 20) (oi := _) (v := ?_) rfl (by kernel_rfl) (by kernel_rfl) (by kernel_rfl) (fun _ _ _ h => h) (Or.inl ⟨by rfl, ?_⟩) (by assumption) ?_; rotate_left; (focus (intro w hSw; (try dsimp only at hSw); go_simp; (try with_reducible rfl))); (try simp only [Act.put, List.setIfInBounds_toArray, List.set_cons_zero, List.set_cons_succ, List.getElem_toArray, List.getElem_cons_zero, List.getElem_cons_succ]); refine wpAnyH_done (by kernel_rfl) ?_ _)
                  have gz := hHeld.1
                  clear E1 F1 E2 F2
                all_goals
                  cases ib
                  · go_wp2_with fail
                    refine (lalive_any _).mono ?_
                    rintro e w10 ⟨rfl, g10⟩
                    go_wp2_with fail
                    go_ret
                    exact ⟨rfl, (gP.trans gz).trans g10⟩
                  · have hin := (isR_mem Hval.out Hor.out).1 Hb.out
                    have hfst := truths_first hin
                    rw [Hl.out] at hfst
                    have Hfst := Lib.hid hfst
                    obtain ⟨la2, lc2, hla2, _, hl8b, hlr2⟩ := id I7.out
                    cases hla2
                    obtain ⟨oa, oc, rfl, _, ho8, hor2⟩ := id HI8.out
                    have Hlr2 := Lib.hid hlr2
                    have Hor2 := Lib.hid hor2
                    have g7 := g7L.trans g78
                    clear hin hfst hlr2 hor2
                    go_wp2_with fail
                    go_loopw [229] (fun i wq => ∃ k3 : Nat, k3 ≤ l.length ∧ i = .int .i64 k3 ∧ l.take k3 = ow.take k3 ∧ Grow w8 wq) (fun i _ => l.length - (intOf i).toNat)
                    case atStart => exact ⟨0, Nat.zero_le _, rfl, rfl, gz⟩
                    case round =>
                      obtain ⟨k3, hk3, rfl, ht, gq⟩ := hrel
                      by_cases hlt3 : k3 < l.length
                      · obtain ⟨x, y, hx, hy, hxy⟩ := lex_at l ow k3 Hfst.out hlt3 ht
                        have hlt4 : k3 < ow.length := (List.getElem?_eq_some_iff.1 hy).1
                        obtain ⟨lb, lo, x2, hx2, rfl, hcl⟩ := Hlr2.out.int hlt3
                        obtain rfl : x = x2 := by rw [hx] at hx2; injection hx2
                        obtain ⟨ob, oo, y2, hy2, rfl, hco⟩ := Hor2.out.int hlt4
                        obtain rfl : y = y2 := by rw [hy] at hy2; injection hy2
                        have hcl := gq.keeps (g7.keeps hcl)
                        have hco := gq.keeps hco
                        have HT := Lib.hid (show y = x → l.take (k3 + 1) = ow.take (k3 + 1) from fun he => by rw [take_get hx, take_get hy, ht, he])
                        have E1 : ((k3 : Int) == ow.length) = false := beq_eq_false_iff_ne.2 (by omega)
                        have F1 : (k3 == ow.length) = false := beq_eq_false_iff_ne.2 (by omega)
                        have E2 : (k3 : Int) < ow.length := by omega
                        have E3 : (k3 : Int) < l.length := by omega
                        clear hx hx2 hy hy2 ht
                        by_cases hyx : y = x
                        · have E4 : (y != x) = false := by simp [hyx]
                          have HT2 := Lib.hid (HT.out hyx)
                          clear hyx hxy
                          go_wp2_with fail
                          go_region_held3 (fun Wx => Grow wr Wx ∧ Wx.cell? ⟨ob, oo + k3, none⟩ = some (.int .i64 y) ∧ Wx.cell? ⟨lb, lo + k3, none⟩ = some (.int .i64 x)) ((refine (fun (hG : Grow wr _) => ⟨hG, Grow.keeps hG (by assumption), Grow.keeps hG (by assumption)⟩) ?_; (try go_split_ands); first | exact (Below.refl _ _).drew | exact Grow.alloc (by assumption) _ | exact Below.setCell (Below.setCell (by assumption) (by simp <;> omega) _) (by simp <;> omega) _ | exact Grow.trans (by assumption) (by assumption) | exact Below.trans (by assumption) (by assumption))) (fail)
                          rename_i hH
                          have gh := hH.1
                          clear E1 F1 E2 E3
                          go_wp2_with fail
                          exact ⟨⟨k3 + 1, by omega, by go_num, HT2.out, gq.trans gh⟩, by simp [intOf]; omega⟩
                        · have E4 : (y != x) = true := by simp [hyx]
                          have E5 : decide (x < y) = true := decide_eq_true (by omega)
                          clear hyx hxy
                          go_wp2_with fail
                          go_region_held3 (fun Wx => Grow wr Wx ∧ Wx.cell? ⟨ob, oo + k3, none⟩ = some (.int .i64 y) ∧ Wx.cell? ⟨lb, lo + k3, none⟩ = some (.int .i64 x)) ((refine (fun (hG : Grow wr _) => ⟨hG, Grow.keeps hG (by assumption), Grow.keeps hG (by assumption)⟩) ?_; (try go_split_ands); first | exact (Below.refl _ _).drew | exact Grow.alloc (by assumption) _ | exact Below.setCell (Below.setCell (by assumption) (by simp <;> omega) _) (by simp <;> omega) _ | exact Grow.trans (by assumption) (by assumption) | exact Below.trans (by assumption) (by assumption))) (fail)
                          rename_i hH
                          have gh := hH.1
                          have hco2 := hH.2.1
                          have hcl2 := hH.2.2
                          clear E1 F1 hH
                          go_wp2_with fail
                          obtain ⟨wy, hwy⟩ : ∃ wy, wr.drew = wy := ⟨_, rfl⟩
                          rw [hwy] at gh hco2 hcl2 ⊢
                          clear hwy hcl hco
                          go_region_held3 (fun Wx => Grow wy Wx ∧ Wx.cell? ⟨ob, oo + k3, none⟩ = some (.int .i64 y) ∧ Wx.cell? ⟨lb, lo + k3, none⟩ = some (.int .i64 x)) ((refine (fun (hG : Grow wy _) => ⟨hG, Grow.keeps hG (by assumption), Grow.keeps hG (by assumption)⟩) ?_; (try go_split_ands); first | exact (Below.refl _ _).drew | exact Grow.alloc (by assumption) _ | exact Below.setCell (Below.setCell (by assumption) (by simp <;> omega) _) (by simp <;> omega) _ | exact Grow.trans (by assumption) (by assumption) | exact Below.trans (by assumption) (by assumption))) ((go_at_call 12; refine (lalive_any _).mono ?_; rintro e w11 ⟨rfl, g11⟩))
                          rename_i hH
                          have gy := hH.1
                          clear hH
                          go_wp2_with fail
                          go_ret
                          exact ⟨rfl, ((gP.trans gq).trans gh).trans gy⟩
                      · go_wp2_with fail
                        refine (lalive_any _).mono ?_
                        rintro e w10 ⟨rfl, g10⟩
                        go_wp2_with fail
                        go_ret
                        exact ⟨rfl, (gP.trans gq).trans g10⟩
  · go_wp2_with fail
    refine (lalive_any _).mono ?_
    rintro e w3 ⟨rfl, g3⟩
    go_wp2_with fail
    go_ret
    exact ⟨rfl, gw.trans g3⟩
end Go.Proofs.Yteijilbdllpbcaa
