/- The reference of layer 7: Wrong, Meet: they answer as the program does. Conditions: sizes. -/
import Derived.Test.YtbeglemohfbdfaaGreatRfG
namespace Go.Proofs.YtbeglemohfbdfaaGreat
open Go.RowKit

theorem wrong_to_lt {E : Int} {l : List Int} (h3 : l.length ≤ 3) : ∀ k, k ≤ 2 ^ l.length → wrongTo E l k < 8 := by
  have h8 : 2 ^ l.length ≤ 8 := Nat.le_trans (Nat.pow_le_pow_right (by decide) h3) (by decide)
  have h1 : 0 < 2 ^ l.length := Nat.two_pow_pos _
  intro k
  induction k with
  | zero => intro _; show 2 ^ l.length - 1 < 8; omega
  | succ k ih =>
    intro hk
    rw [wrongTo_succ]
    unfold wrongStep
    split
    · omega
    · exact ih (by omega)
set_option maxRecDepth 100000 in
set_option maxHeartbeats 2000000 in
theorem rWrong_any (E F p : Int) (v : Value) (ss : List (List Int)) (w : World) (hv : IsSheets w v ss) :
    Calls Tryz.prog 10 #[.agg #[.int .i64 E, .int .i64 F, v], .int .i64 p] w fun e w' => e = .returned (.tuple #[.int .i64 (wrongE E F ss p), .int .i64 (codeO E F ss (inB p 0 (ss.length - 1)))]) ∧ Grow w w' := by
  obtain ⟨a, cap, rfl, hcap, hlen, hrow⟩ := id hv
  have Hv := Lib.hid hv
  clear hv hrow
  cases hval : validB E F ss
  case false =>
    have hc : codeO E F ss (inB p 0 (ss.length - 1)) = 1 := by unfold codeO; rw [hval]; rfl
    have hw : wrongE E F ss p = 0 := if_neg (by rw [hc]; decide)
    have Hc := Lib.hid hc
    have Hw := Lib.hid hw
    have Hval := Lib.hid hval
    clear hc hw hval
    go_enter Tryz.func10, Tryz.ntmps10
    go_wp2_with (go_at_call 27; refine (rChase_any E F _ ss _ (Hv.out.grow ((Grow.refl _).alloc _))).mono ?_; rw [Hval.out]; rintro e w1 ⟨rfl, hg1⟩)
    go_ret2
    exact ⟨by rw [Hc.out, Hw.out]; rfl, ((Grow.refl w).alloc _).trans hg1⟩
  cases hin : inB p 0 (ss.length - 1)
  case false =>
    have hc : codeO E F ss (inB p 0 (ss.length - 1)) = 2 := by unfold codeO; rw [hval, hin]; rfl
    have hw : wrongE E F ss p = 0 := if_neg (by rw [hc]; decide)
    have hc2 := hc
    rw [hin] at hc2
    have Hc := Lib.hid hc2
    have Hw := Lib.hid hw
    have Hval := Lib.hid hval
    have Hin := Lib.hid hin
    clear hc hw hval hin hc2
    go_enter Tryz.func10, Tryz.ntmps10
    go_wp2_with first | (go_at_call 27; refine (rChase_any E F _ ss _ (Hv.out.grow ((Grow.refl _).alloc _))).mono ?_; rw [Hval.out]; rintro e w1 ⟨rfl, hg1⟩; have hk1 := hg1.cells) | (go_at_call 38; refine (rPair2_any E F a ss.length cap p _ (by omega)).mono ?_; rw [Hin.out]; rintro e w2 ⟨rfl, hg2⟩)
    go_ret2
    exact ⟨by rw [Hc.out, Hw.out]; rfl, (((Grow.refl w).alloc _).trans hg1).trans hg2⟩
  have hc : codeO E F ss true = 0 := by unfold codeO; rw [hval]; rfl
  have hin2 := inB_true.1 hin
  obtain ⟨k, rfl⟩ : ∃ k : Nat, p = k := ⟨p.toNat, by omega⟩
  have hks : k < ss.length := by omega
  obtain ⟨hE, hn6, _, hll⟩ := valid_parts hval
  obtain ⟨l, hlx⟩ : ∃ l, ss[k]? = some l := ⟨_, List.getElem?_eq_getElem hks⟩
  have hl := hll l (List.mem_of_getElem? hlx)
  have hw : wrongE E F ss (k : Int) = (wrongV E l : Nat) := by unfold wrongE; rw [hin, if_pos hc, Int.toNat_natCast, hlx]; rfl
  have hpos : 0 < 2 ^ l.length := Nat.two_pow_pos _
  have h8 : 2 ^ l.length ≤ 8 := Nat.le_trans (Nat.pow_le_pow_right (by decide) hl.1.2) (by decide)
  obtain ⟨q, hq⟩ : ∃ q, 2 ^ l.length - 1 = q := ⟨_, rfl⟩
  have hq1 : 2 ^ l.length = q + 1 := by omega
  have Hc := Lib.hid hc
  have Hw := Lib.hid hw
  have Hval := Lib.hid hval
  have Hin := Lib.hid hin
  have Hl := Lib.hid hl
  have Hlx := Lib.hid hlx
  have Hq := Lib.hid hq
  have Hq1 := Lib.hid hq1
  have hq7 : q < 8 := by omega
  clear hc hw hval hin hl hlx hq hq1 hll hin2 h8 hpos
  go_enter Tryz.func10, Tryz.ntmps10
  go_wp2_with fail
  have c0 : (w.alloc (.cells #[.int .i64 E, .int .i64 F, .slice a ss.length cap] 24)).cell? ⟨w.heap.size, 0, none⟩ = some (.int .i64 E) := cell_new rfl rfl
  have c1 : (w.alloc (.cells #[.int .i64 E, .int .i64 F, .slice a ss.length cap] 24)).cell? ⟨w.heap.size, 1, none⟩ = some (.int .i64 F) := cell_new rfl rfl
  have c2 : (w.alloc (.cells #[.int .i64 E, .int .i64 F, .slice a ss.length cap] 24)).cell? ⟨w.heap.size, 2, none⟩ = some (.slice a ss.length cap) := cell_new rfl rfl
  have gX : Grow w (w.alloc (.cells #[.int .i64 E, .int .i64 F, .slice a ss.length cap] 24)) := (Grow.refl w).alloc _
  obtain ⟨X, hX⟩ : ∃ z, w.alloc (.cells #[.int .i64 E, .int .i64 F, .slice a ss.length cap] 24) = z := ⟨_, rfl⟩
  obtain ⟨B, hB⟩ : ∃ z, w.heap.size = z := ⟨_, rfl⟩
  rw [hX] at c0 c1 c2 gX
  rw [hB] at c0 c1 c2
  have hXs : X.heap.size = B + 1 := by rw [← hX, ← hB]; simp
  (try rw [hX])
  (try rw [hB])
  have HB := Lib.hid hB
  clear hX hB
  have b0 := c0
  have b1 := c1
  have b2 := c2
  have hlB := lt_of_cell b0
  clear hXs c0 c1 c2
  have EV : Hid (∀ V, Grow X V → Calls Tryz.prog 44 #[.agg #[.int .i64 E, .int .i64 F, .slice a ss.length cap], .int .i64 (k : Nat)] V fun e w' => e = .returned (.int .i64 (q : Nat)) ∧ Grow V w') := (fun V g => by
    have h := revery_any E F _ ss k l V (Hv.out.grow (gX.trans g)) Hlx.out Hl.out.1.2
    rw [Hq.out] at h
    exact h : ∀ V, Grow X V → Calls Tryz.prog 44 #[.agg #[.int .i64 E, .int .i64 F, .slice a ss.length cap], .int .i64 (k : Nat)] V fun e w' => e = .returned (.int .i64 (q : Nat)) ∧ Grow V w')
  go_wp2_with first | (go_at_call 27; refine (rChase_any E F _ ss _ (Hv.out.grow gX)).mono ?_; rw [Hval.out]; rintro e w1 ⟨rfl, hg1⟩; have d0 := hg1.keeps b0; have d1 := hg1.keeps b1; have d2 := hg1.keeps b2; have hld := lt_of_cell d0) | (go_at_call 38; refine (rPair2_any E F a ss.length cap k _ (by omega)).mono ?_; rw [Hin.out]; rintro e w2 ⟨rfl, hg2⟩; have f0 := hg2.keeps d0; have f1 := hg2.keeps d1; have f2 := hg2.keeps d2; have hlf := lt_of_cell f0) | (go_at_call 44; refine (EV.out _ (hg1.trans hg2)).mono ?_; rintro e w3 ⟨rfl, hg3⟩)
  have G3 : Grow X w3 := (hg1.trans hg2).trans hg3
  have j0 := hg3.keeps f0
  have j1 := hg3.keeps f1
  have j2 := hg3.keeps f2
  clear d0 d1 d2 hld f0 f1 f2 hlf hg1 hg2 hg3
  go_loopw [6, 7] (fun u i wr => ∃ (s b : Nat), s ≤ q + 1 ∧ i = .int .i64 s ∧ u = .int .i64 b ∧ b = wrongTo E l s ∧ Grow w3 wr) (fun _ i _ => q + 1 - (intOf i).toNat)
  case atStart => exact ⟨0, q, Nat.zero_le _, rfl, rfl, Hq.out.symm, Grow.refl _⟩
  case round =>
    obtain ⟨s, b, hs, rfl, rfl, hbq, hg⟩ := hrel
    have hb8 : b < 8 := by rw [hbq]; exact wrong_to_lt Hl.out.1.2 s (by rw [Hq1.out]; exact hs)
    have k0 := hg.keeps j0
    have k1 := hg.keeps j1
    have k2 := hg.keeps j2
    have hlk := lt_of_cell k0
    by_cases hlt : s < q + 1
    · have hs8 : s < 8 := by omega
      have hst := wrongTo_succ E l s
      rw [← hbq] at hst
      unfold wrongStep at hst
      have Hbq := Lib.hid hbq
      have hle : decide ((s : Int) ≤ (q : Int)) = true := by simp; omega
      clear hbq
      by_cases h1 : sizeN s < sizeN b
      · have hne := times_ne (E := E) (l := l) (s := s) Hl.out.1.2 (by rw [Hq1.out]; exact hlt)
        rw [Hq.out] at hne
        obtain ⟨T, hT⟩ : ∃ T, timesL E l (q - s) = T := ⟨_, rfl⟩
        rw [hT] at hne
        have HT := Lib.hid hT
        have E1 : IntKind.i64.wrap ((q : Int) - (s : Int)) = ((q - s : Nat) : Int) := by rw [IntWalk.i64_in _ (by omega)]; omega
        have p1 : decide ((sizeN s : Int) < (sizeN b : Int)) = true := by simp; omega
        have p1n : decide (sizeN s < sizeN b) = true := by simp; omega
        cases hr : rightB E l s
        case' false =>
          rw [hr] at hst hne
          have hT0 : T.length = 0 := by rw [List.length_eq_zero_iff]; exact Classical.byContradiction fun h => by cases hne.1 h
          rw [if_neg (fun h => by cases h.2)] at hst
          have p2 : decide (0 < T.length) = false := by rw [hT0]; rfl
          have p3 : decide ((0 : Int) < (T.length : Int)) = false := by rw [hT0]; rfl
        case' true =>
          rw [hr] at hst hne
          have hT0 : 0 < T.length := List.length_pos_iff.2 (hne.2 rfl)
          rw [if_pos ⟨h1, rfl⟩] at hst
          have p2 : decide (0 < T.length) = true := by simp; omega
          have p3 : decide ((0 : Int) < (T.length : Int)) = true := by simp; omega
        all_goals
          have Hst := Lib.hid hst
          clear hst hne hr h1 hT hT0
          go_upto_region 9 with (go_at_call 44; refine (EV.out _ (G3.trans hg)).mono ?_; rintro e w4 ⟨rfl, g4⟩; have m0 := g4.keeps k0; have m1 := g4.keeps k1; have m2 := g4.keeps k2; have hlm := lt_of_cell m0)
          (refine wp_region_held_drew (S := fun Wx => Grow w4 Wx ∧ Wx.cell? ⟨B, 0, none⟩ = some (.int .i64 E) ∧ Wx.cell? ⟨B, 1, none⟩ = some (.int .i64 F) ∧ Wx.cell? ⟨B, 2, none⟩ = some (.slice a ss.length cap)) (by kernel_rfl) ⟨(Below.refl _ _).drew, Grow.keeps (Below.refl _ _).drew (by assumption), Grow.keeps (Below.refl _ _).drew (by assumption), Grow.keeps (Below.refl _ _).drew (by assumption)⟩ (fun hHeld => ?_); refine wpAnyH_take (i := 0) (oi := _) (v := ?_) rfl (by kernel_rfl) (by kernel_rfl) (by kernel_rfl) (fun _ _ _ h => h) (Or.inl ⟨by rfl, ?_⟩) (by assumption) ?_; rotate_left; (focus (intro w hSw; (try dsimp only at hSw); go_simp; (try with_reducible rfl))); (try simp only [Act.put, List.setIfInBounds_toArray, List.set_cons_zero, List.set_cons_succ, List.getElem_toArray, List.getElem_cons_zero]); refine wpAnyH_take (i := 2) (oi := _) (v := ?_) rfl (by kernel_rfl) (by kernel_rfl) (by kernel_rfl) (fun _ _ _ h => h) (Or.inl ⟨by rfl, ?_⟩) (by assumption) ?_; rotate_left; (focus (intro w hSw; (try dsimp only at hSw); go_simp; (try with_reducible rfl))); (try simp only [Act.put, List.setIfInBounds_toArray, List.set_cons_zero, List.set_cons_succ, List.getElem_toArray, List.getElem_cons_zero, List.getElem_cons_succ]); refine wpAnyH_ready (rs := [1]) (by kernel_rfl) (by simp) ?_; refine AllReadyH.cons (o := _) rfl (fun K hK => ?_) AllReadyH.nil; (try simp only [List.getElem_toArray, List.getElem_cons_zero, List.getElem_cons_succ]); go_simp; (first | (go_at_call 45; refine (rSize_any _ (by first | exact hs8 | exact hb8) _).mono ?_; rintro e w5 ⟨rfl, g5⟩) | (go_at_call 44; refine (EV.out _ ((G3.trans hg).trans (g4.trans (by first | assumption | (go_split_ands; assumption) | exact (Grow.refl _).drew)))).mono ?_; rintro e w6 ⟨rfl, g6⟩) | (go_at_call 46; refine (rtimes_any E F _ ss k l (q - s) _ (Hv.out.grow (gX.trans ((G3.trans hg).trans (g4.trans (by first | assumption | (go_split_ands; assumption) | exact (Grow.refl _).drew))))) Hlx.out Hl.out.1.2 hE Hl.out.2 (by omega)).mono ?_; rintro e w7 ⟨tv, rfl, hto, g7⟩; rw [HT.out] at hto; obtain ⟨ta7, tc7, rfl, _, _, _⟩ := hto.row; rw [List.length_map])); (try (go_wp2_with fail)); refine hK.out _ _ ?_ (fun hHeld => ?_); (focus ((try dsimp only); refine (fun (hG : Grow w4 _) => ⟨hG, Grow.keeps hG (by assumption), Grow.keeps hG (by assumption), Grow.keeps hG (by assumption)⟩) ?_; (try go_split_ands); first | assumption | exact Grow.trans (by assumption) (by assumption) | exact Below.trans (by assumption) (by assumption))); clear hK K; (try simp only [Act.put, List.setIfInBounds_toArray, List.set_cons_zero, List.set_cons_succ, List.getElem_toArray, List.getElem_cons_zero, List.getElem_cons_succ]); refine wpAnyH_ready (rs := [3]) (by kernel_rfl) (by simp) ?_; refine AllReadyH.cons (o := _) rfl (fun K hK => ?_) AllReadyH.nil; (try simp only [List.getElem_toArray, List.getElem_cons_zero, List.getElem_cons_succ]); go_simp; (first | (go_at_call 45; refine (rSize_any _ (by first | exact hs8 | exact hb8) _).mono ?_; rintro e w5 ⟨rfl, g5⟩) | (go_at_call 44; refine (EV.out _ ((G3.trans hg).trans (g4.trans (by first | assumption | (go_split_ands; assumption) | exact (Grow.refl _).drew)))).mono ?_; rintro e w6 ⟨rfl, g6⟩) | (go_at_call 46; refine (rtimes_any E F _ ss k l (q - s) _ (Hv.out.grow (gX.trans ((G3.trans hg).trans (g4.trans (by first | assumption | (go_split_ands; assumption) | exact (Grow.refl _).drew))))) Hlx.out Hl.out.1.2 hE Hl.out.2 (by omega)).mono ?_; rintro e w7 ⟨tv, rfl, hto, g7⟩; rw [HT.out] at hto; obtain ⟨ta7, tc7, rfl, _, _, _⟩ := hto.row; rw [List.length_map])); (try (go_wp2_with fail)); refine hK.out _ _ ?_ (fun hHeld => ?_); (focus ((try dsimp only); refine (fun (hG : Grow w4 _) => ⟨hG, Grow.keeps hG (by assumption), Grow.keeps hG (by assumption), Grow.keeps hG (by assumption)⟩) ?_; (try go_split_ands); first | assumption | exact Grow.trans (by assumption) (by assumption) | exact Below.trans (by assumption) (by assumption))); clear hK K; (try simp only [Act.put, List.setIfInBounds_toArray, List.set_cons_zero, List.set_cons_succ, List.getElem_toArray, List.getElem_cons_zero, List.getElem_cons_succ]); refine wpAnyH_take (i := 4) (oi := _) (v := ?_) rfl (by kernel_rfl) (by kernel_rfl) (by kernel_rfl) (fun _ _ _ h => h) (Or.inl ⟨by rfl, ?_⟩) (by assumption) ?_; rotate_left; (focus (intro w hSw; (try dsimp only at hSw); go_simp; (try with_reducible rfl))); (try simp only [Act.put, List.setIfInBounds_toArray, List.set_cons_zero, List.set_cons_succ, List.getElem_toArray, List.getElem_cons_zero, List.getElem_cons_succ]); refine wpAnyH_take (i := 5) (oi := _) (v := ?_) rfl (by kernel_rfl) (by kernel_rfl) (by kernel_rfl) (fun _ _ _ h => h) (Or.inl ⟨by rfl, ?_⟩) (by assumption) ?_; rotate_left; (focus (intro w hSw; (try dsimp only at hSw); go_simp; (try with_reducible rfl))); (try simp only [Act.put, List.setIfInBounds_toArray, List.set_cons_zero, List.set_cons_succ, List.getElem_toArray, List.getElem_cons_zero, List.getElem_cons_succ]); refine wpAnyH_take (i := 6) (oi := _) (v := ?_) rfl (by kernel_rfl) (by kernel_rfl) (by kernel_rfl) (fun _ _ _ h => h) (Or.inl ⟨by rfl, ?_⟩) (by assumption) ?_; rotate_left; (focus (intro w hSw; (try dsimp only at hSw); go_simp; (try with_reducible rfl))); (try simp only [Act.put, List.setIfInBounds_toArray, List.set_cons_zero, List.set_cons_succ, List.getElem_toArray, List.getElem_cons_zero, List.getElem_cons_succ]); refine wpAnyH_take (i := 7) (oi := _) (v := ?_) rfl (by kernel_rfl) (by kernel_rfl) (by kernel_rfl) (fun _ _ _ h => h) (Or.inl ⟨by rfl, ?_⟩) (by assumption) ?_; rotate_left; (focus (intro w hSw; (try dsimp only at hSw); go_simp; (try with_reducible rfl))); (try simp only [Act.put, List.setIfInBounds_toArray, List.set_cons_zero, List.set_cons_succ, List.getElem_toArray, List.getElem_cons_zero, List.getElem_cons_succ]); refine wpAnyH_take (i := 8) (oi := _) (v := ?_) rfl (by kernel_rfl) (by kernel_rfl) (by kernel_rfl) (fun _ _ _ h => h) (Or.inl ⟨by rfl, ?_⟩) (by assumption) ?_; rotate_left; (focus (intro w hSw; (try dsimp only at hSw); go_simp; (try with_reducible rfl))); (try simp only [Act.put, List.setIfInBounds_toArray, List.set_cons_zero, List.set_cons_succ, List.getElem_toArray, List.getElem_cons_zero, List.getElem_cons_succ]); refine wpAnyH_take (i := 9) (oi := _) (v := ?_) rfl (by kernel_rfl) (by kernel_rfl) (by kernel_rfl) (fun _ _ _ h => h) (Or.inl ⟨by rfl, ?_⟩) (by assumption) ?_; rotate_left; (focus (intro w hSw; (try dsimp only at hSw); go_simp; (try with_reducible rfl))); (try simp only [Act.put, List.setIfInBounds_toArray, List.set_cons_zero, List.set_cons_succ, List.getElem_toArray, List.getElem_cons_zero, List.getElem_cons_succ]); refine wpAnyH_take (i := 11) (oi := _) (v := ?_) rfl (by kernel_rfl) (by kernel_rfl) (by kernel_rfl) (fun _ _ _ h => h) (Or.inl ⟨by rfl, ?_⟩) (by assumption) ?_; rotate_left; (focus (intro w hSw; (try dsimp only at hSw); go_simp; (try with_reducible rfl))); (try simp only [Act.put, List.setIfInBounds_toArray, List.set_cons_zero, List.set_cons_succ, List.getElem_toArray, List.getElem_cons_zero, List.getElem_cons_succ]); refine wpAnyH_ready (rs := [10]) (by kernel_rfl) (by simp) ?_; refine AllReadyH.cons (o := _) rfl (fun K hK => ?_) AllReadyH.nil; (try simp only [List.getElem_toArray, List.getElem_cons_zero, List.getElem_cons_succ]); go_simp; (first | (go_at_call 45; refine (rSize_any _ (by first | exact hs8 | exact hb8) _).mono ?_; rintro e w5 ⟨rfl, g5⟩) | (go_at_call 44; refine (EV.out _ ((G3.trans hg).trans (g4.trans (by first | assumption | (go_split_ands; assumption) | exact (Grow.refl _).drew)))).mono ?_; rintro e w6 ⟨rfl, g6⟩) | (go_at_call 46; refine (rtimes_any E F _ ss k l (q - s) _ (Hv.out.grow (gX.trans ((G3.trans hg).trans (g4.trans (by first | assumption | (go_split_ands; assumption) | exact (Grow.refl _).drew))))) Hlx.out Hl.out.1.2 hE Hl.out.2 (by omega)).mono ?_; rintro e w7 ⟨tv, rfl, hto, g7⟩; rw [HT.out] at hto; obtain ⟨ta7, tc7, rfl, _, _, _⟩ := hto.row; rw [List.length_map])); (try (go_wp2_with fail)); refine hK.out _ _ ?_ (fun hHeld => ?_); (focus ((try dsimp only); refine (fun (hG : Grow w4 _) => ⟨hG, Grow.keeps hG (by assumption), Grow.keeps hG (by assumption), Grow.keeps hG (by assumption)⟩) ?_; (try go_split_ands); first | assumption | exact Grow.trans (by assumption) (by assumption) | exact Below.trans (by assumption) (by assumption))); clear hK K; (try simp only [Act.put, List.setIfInBounds_toArray, List.set_cons_zero, List.set_cons_succ, List.getElem_toArray, List.getElem_cons_zero, List.getElem_cons_succ]); refine wpAnyH_take (i := 12) (oi := _) (v := ?_) rfl (by kernel_rfl) (by kernel_rfl) (by kernel_rfl) (fun _ _ _ h => h) (Or.inl ⟨by rfl, ?_⟩) (by assumption) ?_; rotate_left; (focus (intro w hSw; (try dsimp only at hSw); go_simp; (try with_reducible rfl))); (try simp only [Act.put, List.setIfInBounds_toArray, List.set_cons_zero, List.set_cons_succ, List.getElem_toArray, List.getElem_cons_zero, List.getElem_cons_succ]); refine wpAnyH_ready (rs := [13]) (by kernel_rfl) (by simp) ?_; refine AllReadyH.cons (o := _) rfl (fun K hK => ?_) AllReadyH.nil; (try simp only [List.getElem_toArray, List.getElem_cons_zero, List.getElem_cons_succ]); go_simp; (first | (go_at_call 45; refine (rSize_any _ (by first | exact hs8 | exact hb8) _).mono ?_; rintro e w5 ⟨rfl, g5⟩) | (go_at_call 44; refine (EV.out _ ((G3.trans hg).trans (g4.trans (by first | assumption | (go_split_ands; assumption) | exact (Grow.refl _).drew)))).mono ?_; rintro e w6 ⟨rfl, g6⟩) | (go_at_call 46; refine (rtimes_any E F _ ss k l (q - s) _ (Hv.out.grow (gX.trans ((G3.trans hg).trans (g4.trans (by first | assumption | (go_split_ands; assumption) | exact (Grow.refl _).drew))))) Hlx.out Hl.out.1.2 hE Hl.out.2 (by omega)).mono ?_; rintro e w7 ⟨tv, rfl, hto, g7⟩; rw [HT.out] at hto; obtain ⟨ta7, tc7, rfl, _, _, _⟩ := hto.row; rw [List.length_map])); (try (go_wp2_with fail)); refine hK.out _ _ ?_ (fun hHeld => ?_); (focus ((try dsimp only); refine (fun (hG : Grow w4 _) => ⟨hG, Grow.keeps hG (by assumption), Grow.keeps hG (by assumption), Grow.keeps hG (by assumption)⟩) ?_; (try go_split_ands); first | assumption | exact Grow.trans (by assumption) (by assumption) | exact Below.trans (by assumption) (by assumption))); clear hK K; (try simp only [Act.put, List.setIfInBounds_toArray, List.set_cons_zero, List.set_cons_succ, List.getElem_toArray, List.getElem_cons_zero, List.getElem_cons_succ]); refine wpAnyH_take (i := 14) (oi := _) (v := ?_) rfl (by kernel_rfl) (by kernel_rfl) (by kernel_rfl) (fun _ _ _ h => h) (Or.inl ⟨by rfl, ?_⟩) (by assumption) ?_; rotate_left; (focus (intro w hSw; (try dsimp only at hSw); go_simp; (try with_reducible rfl))); (try simp only [Act.put, List.setIfInBounds_toArray, List.set_cons_zero, List.set_cons_succ, List.getElem_toArray, List.getElem_cons_zero, List.getElem_cons_succ]); refine wpAnyH_take (i := 15) (oi := _) (v := ?_) rfl (by kernel_rfl) (by kernel_rfl) (by kernel_rfl) (fun _ _ _ h => h) (Or.inl ⟨by rfl, ?_⟩) (by assumption) ?_; rotate_left; (focus (intro w hSw; (try dsimp only at hSw); go_simp; (try with_reducible rfl))); (try simp only [Act.put, List.setIfInBounds_toArray, List.set_cons_zero, List.set_cons_succ, List.getElem_toArray, List.getElem_cons_zero, List.getElem_cons_succ]); refine wpAnyH_take (i := 16) (oi := _) (v := ?_) rfl (by kernel_rfl) (by kernel_rfl) (by kernel_rfl) (fun _ _ _ h => h) (Or.inl ⟨by rfl, ?_⟩) (by assumption) ?_; rotate_left; (focus (intro w hSw; (try dsimp only at hSw); go_simp; (try with_reducible rfl))); (try simp only [Act.put, List.setIfInBounds_toArray, List.set_cons_zero, List.set_cons_succ, List.getElem_toArray, List.getElem_cons_zero, List.getElem_cons_succ]); refine wpAnyH_done (by kernel_rfl) ?_ _)
          have hG := hHeld.1
          go_wp2_with fail
          exact ⟨⟨s + 1, _, by omega, by go_num, rfl, Hst.out.symm, (hg.trans g4).trans hG⟩, by simp [intOf]; omega⟩
      · rw [if_neg (fun h => h1 h.1)] at hst
        have p1 : decide ((sizeN s : Int) < (sizeN b : Int)) = false := by simp; omega
        have p1n : decide (sizeN s < sizeN b) = false := by simp; omega
        have Hst := Lib.hid hst
        clear hst h1
        go_upto_region 9 with (go_at_call 44; refine (EV.out _ (G3.trans hg)).mono ?_; rintro e w4 ⟨rfl, g4⟩; have m0 := g4.keeps k0; have m1 := g4.keeps k1; have m2 := g4.keeps k2; have hlm := lt_of_cell m0)
        (refine wp_region_held_drew (S := fun Wx => Grow w4 Wx ∧ Wx.cell? ⟨B, 0, none⟩ = some (.int .i64 E) ∧ Wx.cell? ⟨B, 1, none⟩ = some (.int .i64 F) ∧ Wx.cell? ⟨B, 2, none⟩ = some (.slice a ss.length cap)) (by kernel_rfl) ⟨(Below.refl _ _).drew, Grow.keeps (Below.refl _ _).drew (by assumption), Grow.keeps (Below.refl _ _).drew (by assumption), Grow.keeps (Below.refl _ _).drew (by assumption)⟩ (fun hHeld => ?_); refine wpAnyH_take (i := 0) (oi := _) (v := ?_) rfl (by kernel_rfl) (by kernel_rfl) (by kernel_rfl) (fun _ _ _ h => h) (Or.inl ⟨by rfl, ?_⟩) (by assumption) ?_; rotate_left; (focus (intro w hSw; (try dsimp only at hSw); go_simp; (try with_reducible rfl))); (try simp only [Act.put, List.setIfInBounds_toArray, List.set_cons_zero, List.set_cons_succ, List.getElem_toArray, List.getElem_cons_zero]); refine wpAnyH_take (i := 2) (oi := _) (v := ?_) rfl (by kernel_rfl) (by kernel_rfl) (by kernel_rfl) (fun _ _ _ h => h) (Or.inl ⟨by rfl, ?_⟩) (by assumption) ?_; rotate_left; (focus (intro w hSw; (try dsimp only at hSw); go_simp; (try with_reducible rfl))); (try simp only [Act.put, List.setIfInBounds_toArray, List.set_cons_zero, List.set_cons_succ, List.getElem_toArray, List.getElem_cons_zero, List.getElem_cons_succ]); refine wpAnyH_ready (rs := [1]) (by kernel_rfl) (by simp) ?_; refine AllReadyH.cons (o := _) rfl (fun K hK => ?_) AllReadyH.nil; (try simp only [List.getElem_toArray, List.getElem_cons_zero, List.getElem_cons_succ]); go_simp; ((go_at_call 45; refine (rSize_any _ (by first | exact hs8 | exact hb8) _).mono ?_; rintro e w5 ⟨rfl, g5⟩)); (try (go_wp2_with fail)); refine hK.out _ _ ?_ (fun hHeld => ?_); (focus ((try dsimp only); refine (fun (hG : Grow w4 _) => ⟨hG, Grow.keeps hG (by assumption), Grow.keeps hG (by assumption), Grow.keeps hG (by assumption)⟩) ?_; (try go_split_ands); first | assumption | exact Grow.trans (by assumption) (by assumption) | exact Below.trans (by assumption) (by assumption))); clear hK K; (try simp only [Act.put, List.setIfInBounds_toArray, List.set_cons_zero, List.set_cons_succ, List.getElem_toArray, List.getElem_cons_zero, List.getElem_cons_succ]); refine wpAnyH_ready (rs := [3]) (by kernel_rfl) (by simp) ?_; refine AllReadyH.cons (o := _) rfl (fun K hK => ?_) AllReadyH.nil; (try simp only [List.getElem_toArray, List.getElem_cons_zero, List.getElem_cons_succ]); go_simp; ((go_at_call 45; refine (rSize_any _ (by first | exact hs8 | exact hb8) _).mono ?_; rintro e w5 ⟨rfl, g5⟩)); (try (go_wp2_with fail)); refine hK.out _ _ ?_ (fun hHeld => ?_); (focus ((try dsimp only); refine (fun (hG : Grow w4 _) => ⟨hG, Grow.keeps hG (by assumption), Grow.keeps hG (by assumption), Grow.keeps hG (by assumption)⟩) ?_; (try go_split_ands); first | assumption | exact Grow.trans (by assumption) (by assumption) | exact Below.trans (by assumption) (by assumption))); clear hK K; (try simp only [Act.put, List.setIfInBounds_toArray, List.set_cons_zero, List.set_cons_succ, List.getElem_toArray, List.getElem_cons_zero, List.getElem_cons_succ]); refine wpAnyH_take (i := 4) (oi := _) (v := ?_) rfl (by kernel_rfl) (by kernel_rfl) (by kernel_rfl) (fun _ _ _ h => h) (Or.inl ⟨by rfl, ?_⟩) (by assumption) ?_; rotate_left; (focus (intro w hSw; (try dsimp only at hSw); go_simp; (try with_reducible rfl))); (try simp only [Act.put, List.setIfInBounds_toArray, List.set_cons_zero, List.set_cons_succ, List.getElem_toArray, List.getElem_cons_zero, List.getElem_cons_succ]); refine wpAnyH_take (i := 5) (oi := _) (v := ?_) rfl (by kernel_rfl) (by kernel_rfl) (by kernel_rfl) (fun _ _ _ h => h) (Or.inl ⟨by rfl, ?_⟩) (by assumption) ?_; rotate_left; (focus (intro w hSw; (try dsimp only at hSw); go_simp; (try with_reducible rfl))); (try simp only [Act.put, List.setIfInBounds_toArray, List.set_cons_zero, List.set_cons_succ, List.getElem_toArray, List.getElem_cons_zero, List.getElem_cons_succ]); refine wpAnyH_take (i := 6) (oi := _) (v := undef) rfl (by kernel_rfl) (by kernel_rfl) (by kernel_rfl) (fun _ _ _ h => h) (Or.inr ⟨by rfl, rfl⟩) (by assumption) ?_; (try simp only [Act.put, List.setIfInBounds_toArray, List.set_cons_zero, List.set_cons_succ, List.getElem_toArray, List.getElem_cons_zero, List.getElem_cons_succ]); refine wpAnyH_take (i := 7) (oi := _) (v := undef) rfl (by kernel_rfl) (by kernel_rfl) (by kernel_rfl) (fun _ _ _ h => h) (Or.inr ⟨by rfl, rfl⟩) (by assumption) ?_; (try simp only [Act.put, List.setIfInBounds_toArray, List.set_cons_zero, List.set_cons_succ, List.getElem_toArray, List.getElem_cons_zero, List.getElem_cons_succ]); refine wpAnyH_take (i := 8) (oi := _) (v := undef) rfl (by kernel_rfl) (by kernel_rfl) (by kernel_rfl) (fun _ _ _ h => h) (Or.inr ⟨by rfl, rfl⟩) (by assumption) ?_; (try simp only [Act.put, List.setIfInBounds_toArray, List.set_cons_zero, List.set_cons_succ, List.getElem_toArray, List.getElem_cons_zero, List.getElem_cons_succ]); refine wpAnyH_take (i := 9) (oi := _) (v := undef) rfl (by kernel_rfl) (by kernel_rfl) (by kernel_rfl) (fun _ _ _ h => h) (Or.inr ⟨by rfl, rfl⟩) (by assumption) ?_; (try simp only [Act.put, List.setIfInBounds_toArray, List.set_cons_zero, List.set_cons_succ, List.getElem_toArray, List.getElem_cons_zero, List.getElem_cons_succ]); refine wpAnyH_take (i := 10) (oi := _) (v := undef) rfl (by kernel_rfl) (by kernel_rfl) (by kernel_rfl) (fun _ _ _ h => h) (Or.inr ⟨by rfl, rfl⟩) (by assumption) ?_; (try simp only [Act.put, List.setIfInBounds_toArray, List.set_cons_zero, List.set_cons_succ, List.getElem_toArray, List.getElem_cons_zero, List.getElem_cons_succ]); refine wpAnyH_take (i := 11) (oi := _) (v := undef) rfl (by kernel_rfl) (by kernel_rfl) (by kernel_rfl) (fun _ _ _ h => h) (Or.inr ⟨by rfl, rfl⟩) (by assumption) ?_; (try simp only [Act.put, List.setIfInBounds_toArray, List.set_cons_zero, List.set_cons_succ, List.getElem_toArray, List.getElem_cons_zero, List.getElem_cons_succ]); refine wpAnyH_take (i := 12) (oi := _) (v := undef) rfl (by kernel_rfl) (by kernel_rfl) (by kernel_rfl) (fun _ _ _ h => h) (Or.inr ⟨by rfl, rfl⟩) (by assumption) ?_; (try simp only [Act.put, List.setIfInBounds_toArray, List.set_cons_zero, List.set_cons_succ, List.getElem_toArray, List.getElem_cons_zero, List.getElem_cons_succ]); refine wpAnyH_take (i := 13) (oi := _) (v := undef) rfl (by kernel_rfl) (by kernel_rfl) (by kernel_rfl) (fun _ _ _ h => h) (Or.inr ⟨by rfl, rfl⟩) (by assumption) ?_; (try simp only [Act.put, List.setIfInBounds_toArray, List.set_cons_zero, List.set_cons_succ, List.getElem_toArray, List.getElem_cons_zero, List.getElem_cons_succ]); refine wpAnyH_take (i := 14) (oi := _) (v := undef) rfl (by kernel_rfl) (by kernel_rfl) (by kernel_rfl) (fun _ _ _ h => h) (Or.inr ⟨by rfl, rfl⟩) (by assumption) ?_; (try simp only [Act.put, List.setIfInBounds_toArray, List.set_cons_zero, List.set_cons_succ, List.getElem_toArray, List.getElem_cons_zero, List.getElem_cons_succ]); refine wpAnyH_take (i := 15) (oi := _) (v := undef) rfl (by kernel_rfl) (by kernel_rfl) (by kernel_rfl) (fun _ _ _ h => h) (Or.inr ⟨by rfl, rfl⟩) (by assumption) ?_; (try simp only [Act.put, List.setIfInBounds_toArray, List.set_cons_zero, List.set_cons_succ, List.getElem_toArray, List.getElem_cons_zero, List.getElem_cons_succ]); refine wpAnyH_take (i := 16) (oi := _) (v := ?_) rfl (by kernel_rfl) (by kernel_rfl) (by kernel_rfl) (fun _ _ _ h => h) (Or.inl ⟨by rfl, ?_⟩) (by assumption) ?_; rotate_left; (focus (intro w hSw; (try dsimp only at hSw); go_simp; (try with_reducible rfl))); (try simp only [Act.put, List.setIfInBounds_toArray, List.set_cons_zero, List.set_cons_succ, List.getElem_toArray, List.getElem_cons_zero, List.getElem_cons_succ]); refine wpAnyH_done (by kernel_rfl) ?_ _)
        have hG := hHeld.1
        go_wp2_with fail
        exact ⟨⟨s + 1, _, by omega, by go_num, rfl, Hst.out.symm, (hg.trans g4).trans hG⟩, by simp [intOf]; omega⟩
    · obtain rfl : s = q + 1 := by omega
      have hle : decide (((q + 1 : Nat) : Int) ≤ (q : Int)) = false := by simp; omega
      rw [← Hq1.out] at hbq
      have Hbq := Lib.hid hbq
      clear hbq
      go_wp2_with (go_at_call 44; refine (EV.out _ (G3.trans hg)).mono ?_; rintro e w4 ⟨rfl, g4⟩)
      go_ret2
      exact ⟨by rw [Hw.out, Hc.out, show wrongV E l = b from Hbq.out.symm]; rfl, ((gX.trans G3).trans hg).trans g4⟩
end Go.Proofs.YtbeglemohfbdfaaGreat
