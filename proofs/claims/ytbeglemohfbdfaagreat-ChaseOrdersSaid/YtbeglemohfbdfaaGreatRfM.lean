/- The reference of layer 7: Ask: it answers as the program does. Conditions: sizes. -/
import Derived.Test.YtbeglemohfbdfaaGreatRfL
namespace Go.Proofs.YtbeglemohfbdfaaGreat
open Go.RowKit

theorem askV_two {ks : List (Int × Int)} {F : Int} (h : settledB ks F = false) : (∃ k, k < ks.length ∧ settlesB ks F k = true ∧ (∀ j, j < k → settlesB ks F j = false) ∧ askV ks F = ((k : Int), 0)) ∨ ((∀ j, j < ks.length → settlesB ks F j = false) ∧ askV ks F = (0, 4)) := by
  cases hf : (List.range ks.length).find? (settlesB ks F) with
  | none =>
    have hn : ∀ j, j < ks.length → settlesB ks F j = false := fun j hj => by
      have := List.find?_eq_none.1 hf j (List.mem_range.2 hj)
      simpa using this
    exact .inr ⟨hn, askV_none h hn⟩
  | some k =>
    rw [List.find?_range_eq_some] at hf
    obtain ⟨h1, h2, h3⟩ := hf
    have hn : ∀ j, j < k → settlesB ks F j = false := fun j hj => by simpa using h3 j hj
    exact .inl ⟨k, List.mem_range.1 h2, h1, hn, askV_some h (List.mem_range.1 h2) h1 hn⟩
set_option maxRecDepth 100000 in
set_option maxHeartbeats 4000000 in
theorem rAsk_any (E F : Int) (v : Value) (ss : List (List Int)) (w : World) (hv : IsSheets w v ss) :
    Calls Tryz.prog 24 #[.agg #[.int .i64 E, .int .i64 F, v]] w fun e w' => e = .returned (.tuple #[.int .i64 (askE E F ss).1, .int .i64 (askE E F ss).2]) ∧ Grow w w' := by
  obtain ⟨a, cap, rfl, hcap, hlen, hrow⟩ := id hv
  have Hv := Lib.hid hv
  clear hv hrow
  obtain ⟨c, hc⟩ : ∃ c, errOf E F ss true = c := ⟨_, rfl⟩
  have He := Lib.hid hc
  by_cases h0 : c = 0
  · subst h0
    obtain ⟨hval, _, hfe⟩ := errOf_all hc
    have hfeas := feasB_iff.1 hfe
    have hLn := truths_len hval
    have hto : toldL E F ss true = truthsL E ss := by unfold toldL; rw [if_pos hc]
    have hTr : ∀ t ∈ truthsL E ss, t.length = ss.length := fun t ht => by rw [(mem_truths.1 ht).1, clocks_len]
    obtain ⟨hE, hn6, _, hll⟩ := valid_parts hval
    have hask := askE_ok hc
    have hsd := settledS_eq (clocks_nonneg E ss) hfeas (L := truthsL E ss) (fun t => mem_truths) F
    have hse : ∀ (p : Nat) (l : List Int), ss[p]? = some l → settlesTo (truthsL E ss) F ss.length p (timesL E l (2 ^ l.length - 1)) (timesL E l (2 ^ l.length - 1)).length = settlesB (clocksOf E ss) F p := fun p l hl => by
      have hp := (List.getElem?_eq_some_iff.1 hl).1
      obtain ⟨e1, e2⟩ := clocks_get (E := E) hl
      have h := settles_eq (clocks_nonneg E ss) hfeas (L := truthsL E ss) (fun t => mem_truths) (F := F) (p := p) (by rw [clocks_len]; exact hp) (T := timesL E l (2 ^ l.length - 1)) (fun t => by rw [e1, e2]; exact mem_times_all)
      rwa [clocks_len] at h
    have hkl := clocks_len E ss
    obtain ⟨L, hL⟩ : ∃ z, truthsL E ss = z := ⟨_, rfl⟩
    rw [hL] at hLn hto hTr hsd hse
    obtain ⟨ks, hks⟩ : ∃ z, clocksOf E ss = z := ⟨_, rfl⟩
    rw [hks] at hask hsd hse hkl
    rw [hkl] at hsd
    have Hto := Lib.hid hto
    have HTr := Lib.hid hTr
    have Hask := Lib.hid hask
    have Hse := Lib.hid hse
    have Hll := Lib.hid hll
    have Hkl := Lib.hid hkl
    clear hc hto hTr hL hval hfe hfeas hask hse hll hks hkl
    go_enter Tryz.func24, Tryz.ntmps24
    go_wp2_with fail
    have c0 : (w.alloc (.cells #[.int .i64 E, .int .i64 F, .slice a ss.length cap] 24)).cell? ⟨w.heap.size, 0, none⟩ = some (.int .i64 E) := cell_new rfl rfl
    have c1 : (w.alloc (.cells #[.int .i64 E, .int .i64 F, .slice a ss.length cap] 24)).cell? ⟨w.heap.size, 1, none⟩ = some (.int .i64 F) := cell_new rfl rfl
    have c2 : (w.alloc (.cells #[.int .i64 E, .int .i64 F, .slice a ss.length cap] 24)).cell? ⟨w.heap.size, 2, none⟩ = some (.slice a ss.length cap) := cell_new rfl rfl
    have gX : Grow w (w.alloc (.cells #[.int .i64 E, .int .i64 F, .slice a ss.length cap] 24)) := (Grow.refl w).alloc _
    obtain ⟨X, hX⟩ : ∃ z, w.alloc (.cells #[.int .i64 E, .int .i64 F, .slice a ss.length cap] 24) = z := ⟨_, rfl⟩
    obtain ⟨B, hB⟩ : ∃ z, w.heap.size = z := ⟨_, rfl⟩
    rw [hX] at c0 c1 c2 gX
    rw [hB] at c0 c1 c2
    have hXs : X.heap.size = B + 1 := by rw [← hX, ← hB]; simp
    (try rw [hX])
    (try rw [hB])
    have HB := Lib.hid hB
    clear hX hB
    have b0 := c0
    have b1 := c1
    have b2 := c2
    have hlB := lt_of_cell b0
    clear hXs c0 c1 c2
    refine (rtold_any E F _ ss _ _ (Hv.out.grow gX)).mono ?_
    rintro e w1 ⟨ov, rfl, hs1, g1⟩
    rw [He.out]
    obtain ⟨oa, oc, rfl, _, _, _⟩ := id hs1
    rw [Hto.out] at hs1 ⊢
    have Hs1 := Lib.hid hs1
    have d0 := g1.keeps b0
    have d1 := g1.keeps b1
    have d2 := g1.keeps b2
    have hld := lt_of_cell d0
    have G1 := gX.trans g1
    have QS := Lib.hid (fun (V : World) (g : Grow w1 V) => rsettled_any E F _ _ ss L V (Hv.out.grow (G1.trans g)) (Hs1.out.grow g) HTr.out (by omega) (by omega))
    rw [hsd] at QS
    clear hs1 hsd b0 b1 b2
    cases hsb : settledB ks F
    case true =>
      have hav := askV_settled hsb
      rw [hsb] at QS
      have Hav := Lib.hid hav
      clear hsb hav
      go_wp2_with (go_at_call 69; refine (QS.out _ (Grow.refl _)).mono ?_; rintro e w2 ⟨rfl, g2⟩)
      go_ret2
      exact ⟨by rw [Hask.out, Hav.out]; rfl, G1.trans g2⟩
    rw [hsb] at QS
    have hac := askV_two hsb
    have Hac := Lib.hid hac
    clear hsb hac
    obtain ⟨i0, hi0, hi1, hi2, hi3⟩ := info_parts pinfo_ints7
    have hu : Tryz.prog.underlying 22 = some (.slice 38) := by kernel_rfl
    obtain ⟨_, _, eo, _, _, hat⟩ := id Hs1.out
    injection eo with eo1 eo2 eo3
    subst eo1
    have Hat := Lib.hid hat
    clear hat eo2 eo3
    go_wp2_with (go_at_call 69; refine (QS.out _ (Grow.refl _)).mono ?_; rintro e w2 ⟨rfl, g2⟩)
    have f0 := g2.keeps d0
    have f1 := g2.keeps d1
    have f2 := g2.keeps d2
    have hlf := lt_of_cell f0
    go_loopw [6] (fun i wr => ∃ k : Nat, k ≤ ss.length ∧ i = .int .i64 k ∧ (∀ j, j < k → settlesB ks F j = false) ∧ Grow w2 wr) (fun i _ => ss.length - (intOf i).toNat)
    case atStart => exact ⟨0, Nat.zero_le _, rfl, fun j h => absurd h (Nat.not_lt_zero _), Grow.refl _⟩
    case round =>
      obtain ⟨k, hk, rfl, hno, hg⟩ := hrel
      have Hno := Lib.hid hno
      clear hno
      have k0 := hg.keeps f0
      have k1 := hg.keeps f1
      have k2 := hg.keeps f2
      have hlk := lt_of_cell k0
      by_cases hlt : k < ss.length
      · obtain ⟨l, hlx⟩ : ∃ l, ss[k]? = some l := ⟨_, List.getElem?_eq_getElem hlt⟩
        have hl := Hll.out l (List.mem_of_getElem? hlx)
        have hsk := Hse.out k l hlx
        have hpow : 2 ^ l.length - 1 < 8 := by have := Nat.pow_le_pow_right (n := 2) (by decide) hl.1.2; omega
        obtain ⟨q, hq⟩ : ∃ q, 2 ^ l.length - 1 = q := ⟨_, rfl⟩
        have hT7 := times_len hE hl.1.1
        rw [hq] at hsk hpow hT7
        obtain ⟨T, hT⟩ : ∃ T, timesL E l q = T := ⟨_, rfl⟩
        rw [hT] at hsk hT7
        have HT := Lib.hid hT
        have Hq := Lib.hid hq
        have Hl := Lib.hid hl
        have Hlx := Lib.hid hlx
        have Hsk := Lib.hid hsk
        have hE2 : decide ((k : Int) < (ss.length : Int)) = true := decide_eq_true (by omega)
        have GK := (G1.trans g2).trans hg
        clear hq hT hl hlx hsk
        go_upto_region 9 with fail
        (try rw [hE2])
        (refine wp_region_held_drew (S := fun Wx => Grow wr Wx ∧ Wx.cell? ⟨B, 0, none⟩ = some (.int .i64 E) ∧ Wx.cell? ⟨B, 1, none⟩ = some (.int .i64 F) ∧ Wx.cell? ⟨B, 2, none⟩ = some (.slice a ss.length cap)) (by kernel_rfl) ⟨(Below.refl _ _).drew, Grow.keeps (Below.refl _ _).drew (by assumption), Grow.keeps (Below.refl _ _).drew (by assumption), Grow.keeps (Below.refl _ _).drew (by assumption)⟩ (fun hHeld => ?_); refine wpAnyH_take (i := 0) (oi := _) (v := ?_) rfl (by kernel_rfl) (by kernel_rfl) (by kernel_rfl) (fun _ _ _ h => h) (Or.inl ⟨by rfl, ?_⟩) (by assumption) ?_; rotate_left; (focus (intro w hSw; (try dsimp only at hSw); go_simp; (try with_reducible rfl))); (try simp only [Act.put, List.setIfInBounds_toArray, List.set_cons_zero, List.set_cons_succ, List.getElem_toArray, List.getElem_cons_zero]); refine wpAnyH_take (i := 1) (oi := _) (v := ?_) rfl (by kernel_rfl) (by kernel_rfl) (by kernel_rfl) (fun _ _ _ h => h) (Or.inl ⟨by rfl, ?_⟩) (by assumption) ?_; rotate_left; (focus (intro w hSw; (try dsimp only at hSw); go_simp; (try with_reducible rfl))); (try simp only [Act.put, List.setIfInBounds_toArray, List.set_cons_zero, List.set_cons_succ, List.getElem_toArray, List.getElem_cons_zero, List.getElem_cons_succ]); refine wpAnyH_take (i := 2) (oi := _) (v := ?_) rfl (by kernel_rfl) (by kernel_rfl) (by kernel_rfl) (fun _ _ _ h => h) (Or.inl ⟨by rfl, ?_⟩) (by assumption) ?_; rotate_left; (focus (intro w hSw; (try dsimp only at hSw); go_simp; (try with_reducible rfl))); (try simp only [Act.put, List.setIfInBounds_toArray, List.set_cons_zero, List.set_cons_succ, List.getElem_toArray, List.getElem_cons_zero, List.getElem_cons_succ]); refine wpAnyH_take (i := 3) (oi := _) (v := ?_) rfl (by kernel_rfl) (by kernel_rfl) (by kernel_rfl) (fun _ _ _ h => h) (Or.inl ⟨by rfl, ?_⟩) (by assumption) ?_; rotate_left; (focus (intro w hSw; (try dsimp only at hSw); go_simp; (try with_reducible rfl))); (try simp only [Act.put, List.setIfInBounds_toArray, List.set_cons_zero, List.set_cons_succ, List.getElem_toArray, List.getElem_cons_zero, List.getElem_cons_succ]); refine wpAnyH_ready (rs := [4]) (by kernel_rfl) (by simp) ?_; refine AllReadyH.cons (o := _) rfl (fun K hK => ?_) AllReadyH.nil; (try simp only [List.getElem_toArray, List.getElem_cons_zero, List.getElem_cons_succ]); go_simp; (first | (go_at_call 44; refine (revery_any E F _ ss k l _ (Hv.out.grow (GK.trans (by first | assumption | (go_split_ands; assumption) | exact (Grow.refl _).drew))) Hlx.out Hl.out.1.2).mono ?_; rw [Hq.out]; rintro e w98 ⟨rfl, g98⟩) | (go_at_call 46; refine (rtimes_any E F _ ss k l q _ (Hv.out.grow (GK.trans (by first | assumption | (go_split_ands; assumption) | exact (Grow.refl _).drew))) Hlx.out Hl.out.1.2 hE Hl.out.2 hpow).mono ?_; rintro e w99 ⟨tv, rfl, hto, g99⟩; rw [HT.out] at hto)); (try (go_wp2_with fail)); refine hK.out _ _ ?_ (fun hHeld => ?_); (focus ((try dsimp only); refine (fun (hG : Grow wr _) => ⟨hG, Grow.keeps hG (by assumption), Grow.keeps hG (by assumption), Grow.keeps hG (by assumption)⟩) ?_; (try go_split_ands); first | assumption | exact Grow.trans (by assumption) (by assumption) | exact Below.trans (by assumption) (by assumption))); clear hK K; (try simp only [Act.put, List.setIfInBounds_toArray, List.set_cons_zero, List.set_cons_succ, List.getElem_toArray, List.getElem_cons_zero, List.getElem_cons_succ]); refine wpAnyH_ready (rs := [5]) (by kernel_rfl) (by simp) ?_; refine AllReadyH.cons (o := _) rfl (fun K hK => ?_) AllReadyH.nil; (try simp only [List.getElem_toArray, List.getElem_cons_zero, List.getElem_cons_succ]); go_simp; (first | (go_at_call 44; refine (revery_any E F _ ss k l _ (Hv.out.grow (GK.trans (by first | assumption | (go_split_ands; assumption) | exact (Grow.refl _).drew))) Hlx.out Hl.out.1.2).mono ?_; rw [Hq.out]; rintro e w98 ⟨rfl, g98⟩) | (go_at_call 46; refine (rtimes_any E F _ ss k l q _ (Hv.out.grow (GK.trans (by first | assumption | (go_split_ands; assumption) | exact (Grow.refl _).drew))) Hlx.out Hl.out.1.2 hE Hl.out.2 hpow).mono ?_; rintro e w99 ⟨tv, rfl, hto, g99⟩; rw [HT.out] at hto)); (try (go_wp2_with fail)); refine hK.out _ _ ?_ (fun hHeld => ?_); (focus ((try dsimp only); refine (fun (hG : Grow wr _) => ⟨hG, Grow.keeps hG (by assumption), Grow.keeps hG (by assumption), Grow.keeps hG (by assumption)⟩) ?_; (try go_split_ands); first | assumption | exact Grow.trans (by assumption) (by assumption) | exact Below.trans (by assumption) (by assumption))); clear hK K; (try simp only [Act.put, List.setIfInBounds_toArray, List.set_cons_zero, List.set_cons_succ, List.getElem_toArray, List.getElem_cons_zero, List.getElem_cons_succ]); refine wpAnyH_take (i := 6) (oi := _) (v := ?_) rfl (by kernel_rfl) (by kernel_rfl) (by kernel_rfl) (fun _ _ _ h => h) (Or.inl ⟨by rfl, ?_⟩) (by assumption) ?_; rotate_left; (focus (intro w hSw; (try dsimp only at hSw); go_simp; (try with_reducible rfl))); (try simp only [Act.put, List.setIfInBounds_toArray, List.set_cons_zero, List.set_cons_succ, List.getElem_toArray, List.getElem_cons_zero, List.getElem_cons_succ]); refine wpAnyH_take (i := 7) (oi := _) (v := ?_) rfl (by kernel_rfl) (by kernel_rfl) (by kernel_rfl) (fun _ _ _ h => h) (Or.inl ⟨by rfl, ?_⟩) (by assumption) ?_; rotate_left; (focus (intro w hSw; (try dsimp only at hSw); go_simp; (try with_reducible rfl))); (try simp only [Act.put, List.setIfInBounds_toArray, List.set_cons_zero, List.set_cons_succ, List.getElem_toArray, List.getElem_cons_zero, List.getElem_cons_succ]); refine wpAnyH_done (by kernel_rfl) ?_ _)
        have G9 : Grow wr w99 := hHeld.1
        have m0 := G9.keeps k0
        have m1 := G9.keeps k1
        have m2 := G9.keeps k2
        have hlm := lt_of_cell m0
        have hti := hto.ints (by omega)
        obtain ⟨ta, tc, rfl, _, _, _⟩ := id hti
        have Hti := Lib.hid hti
        have G19 : Grow w1 w99 := (g2.trans hg).trans G9
        clear hHeld hto hti g98 g99 hE2
        go_wp2_with fail
        obtain ⟨wP, hwP⟩ : ∃ y, y = wr := ⟨_, rfl⟩
        subst hwP
        go_loopw [8, 9] (fun r i wz => ∃ (j : Nat) (z : Bool), j ≤ T.length ∧ i = .int .i64 j ∧ r = .bool z ∧ z = settlesTo L F ss.length k T j ∧ Grow w99 wz) (fun _ i _ => T.length - (intOf i).toNat)
        case atStart => exact ⟨0, true, Nat.zero_le _, rfl, rfl, rfl, Grow.refl _⟩
        case round =>
          obtain ⟨j, z, hj, rfl, rfl, hzq, hgj⟩ := hrel
          have Hzq := Lib.hid hzq
          clear hzq
          by_cases hjt : j < T.length
          · obtain ⟨wS, hwS⟩ : ∃ y, y = wr := ⟨_, rfl⟩
            obtain ⟨_, _, et, _, _, hrt⟩ := id Hti.out
            cases et
            obtain ⟨tb, tq, x, hx, hta, hcx⟩ := hrt.int hjt
            subst hta
            have hst := settlesTo_succ (L := L) (F := F) (n := ss.length) (p := k) hx
            rw [← Hzq.out] at hst
            have Hst := Lib.hid hst
            have hcxS := hgj.keeps hcx
            have hE3 : decide ((j : Int) < (T.length : Int)) = true := decide_eq_true (by omega)
            have hjI : (j : Int) < T.length := by omega
            clear hx hcx hrt hst
            go_wp2_with fail
            (try rw [hE3])
            clear hE3
            subst hwS
            have hgS := hgj
            clear hgj
            go_loopw [10, 11] (fun u i wy => ∃ (m : Nat) (ov : Value) (vs : List Value), ov = u ∧ m ≤ L.length ∧ i = .int .i64 m ∧ Own wy wS.heap.size 38 ov vs ∧ Rows2 wy ov vs (someTo L k x m) ∧ Grow wS wy) (fun _ i _ => L.length - (intOf i).toNat)
            case atStart => exact ⟨0, _, [], rfl, Nat.zero_le _, rfl, Own.nil _ _ _, Rows2.nil _ _, Grow.refl _⟩
            case round =>
              obtain ⟨m, ov, vs, rfl, hm, rfl, hown, hrows, hgm⟩ := hrel
              have hvl : vs.length ≤ m := by
                rw [hrows.1]
                unfold someTo
                exact Nat.le_trans (List.length_filter_le _ _) (by simp; omega)
              have Hown := Lib.hid hown
              have Hrows := Lib.hid hrows
              clear hown hrows
              have GM := (G19.trans hgS).trans hgm
              by_cases hml : m < L.length
              · obtain ⟨lb, lq, u, ua, uc, hux, hle, hcl, husc, hus8, hus⟩ := Hat.out.get hml
                subst hle
                have hul := HTr.out u (List.mem_of_getElem? hux)
                obtain ⟨ub, uq, y, hy, hua, hcy⟩ := hus.int (i := k) (by rw [hul]; exact hlt)
                subst hua
                have hsu := someTo_succ (p := k) (t := x) hux
                have htm : tm u k = y := by simp [tm, hy]
                rw [htm] at hsu
                have n1 := GM.keeps hcl
                have n2 := GM.keeps hcy
                have n3 := hgm.keeps hcxS
                have hl1 := lt_of_cell n1
                have hl2 := lt_of_cell n2
                have hl3 := lt_of_cell n3
                have hkU : (k : Int) < u.length := by rw [hul]; omega
                have hmI : (m : Int) < L.length := by omega
                have hIu : IsInts w1 (.slice (some ⟨ub, uq, none⟩) u.length uc) u := ⟨_, uc, rfl, husc, hus8, hus⟩
                have hub : ub < w1.heap.size := lt_of_cell hcy
                have HIu := Lib.hid (hIu.grow GM)
                have hws := ((G19.trans hgS)).size
                have hwm := hgm.size
                clear hux hcl hus hy hcy htm hIu hul
                by_cases hyx : y = x
                · subst hyx
                  rw [if_pos (by simp)] at hsu
                  have Hsu := Lib.hid hsu
                  clear hsu
                  go_upto_region 17 with fail
                  (refine wp_region_held_drew (S := fun Wx => Grow wr Wx ∧ Wx.cell? ⟨lb, lq + m, none⟩ = some (.slice (some ⟨ub, uq, none⟩) u.length uc) ∧ Wx.cell? ⟨ub, uq + k, none⟩ = some (.int .i64 y) ∧ Wx.cell? ⟨tb, tq + j, none⟩ = some (.int .i64 y)) (by kernel_rfl) ⟨(Below.refl _ _).drew, Grow.keeps (Below.refl _ _).drew (by assumption), Grow.keeps (Below.refl _ _).drew (by assumption), Grow.keeps (Below.refl _ _).drew (by assumption)⟩ (fun hHeld => ?_); refine wpAnyH_take (i := 0) (oi := _) (v := ?_) rfl (by kernel_rfl) (by kernel_rfl) (by kernel_rfl) (fun _ _ _ h => h) (Or.inl ⟨by rfl, ?_⟩) (by assumption) ?_; rotate_left; (focus (intro w hSw; (try dsimp only at hSw); go_simp; (try with_reducible rfl))); (try simp only [Act.put, List.setIfInBounds_toArray, List.set_cons_zero, List.set_cons_succ, List.getElem_toArray, List.getElem_cons_zero]); refine wpAnyH_take (i := 1) (oi := _) (v := ?_) rfl (by kernel_rfl) (by kernel_rfl) (by kernel_rfl) (fun _ _ _ h => h) (Or.inl ⟨by rfl, ?_⟩) (by assumption) ?_; rotate_left; (focus (intro w hSw; (try dsimp only at hSw); go_simp; (try with_reducible rfl))); (try simp only [Act.put, List.setIfInBounds_toArray, List.set_cons_zero, List.set_cons_succ, List.getElem_toArray, List.getElem_cons_zero, List.getElem_cons_succ]); refine wpAnyH_take (i := 2) (oi := _) (v := ?_) rfl (by kernel_rfl) (by kernel_rfl) (by kernel_rfl) (fun _ _ _ h => h) (Or.inl ⟨by rfl, ?_⟩) (by assumption) ?_; rotate_left; (focus (intro w hSw; (try dsimp only at hSw); go_simp; (try with_reducible rfl))); (try simp only [Act.put, List.setIfInBounds_toArray, List.set_cons_zero, List.set_cons_succ, List.getElem_toArray, List.getElem_cons_zero, List.getElem_cons_succ]); refine wpAnyH_take (i := 3) (oi := _) (v := ?_) rfl (by kernel_rfl) (by kernel_rfl) (by kernel_rfl) (fun _ _ _ h => h) (Or.inl ⟨by rfl, ?_⟩) (by assumption) ?_; rotate_left; (focus (intro w hSw; (try dsimp only at hSw); go_simp; (try with_reducible rfl))); (try simp only [Act.put, List.setIfInBounds_toArray, List.set_cons_zero, List.set_cons_succ, List.getElem_toArray, List.getElem_cons_zero, List.getElem_cons_succ]); refine wpAnyH_take (i := 4) (oi := _) (v := ?_) rfl (by kernel_rfl) (by kernel_rfl) (by kernel_rfl) (fun _ _ _ h => h) (Or.inl ⟨by rfl, ?_⟩) (by assumption) ?_; rotate_left; (focus (intro w hSw; (try dsimp only at hSw); go_simp; (try with_reducible rfl))); (try simp only [Act.put, List.setIfInBounds_toArray, List.set_cons_zero, List.set_cons_succ, List.getElem_toArray, List.getElem_cons_zero, List.getElem_cons_succ]); refine wpAnyH_take (i := 5) (oi := _) (v := ?_) rfl (by kernel_rfl) (by kernel_rfl) (by kernel_rfl) (fun _ _ _ h => h) (Or.inl ⟨by rfl, ?_⟩) (by assumption) ?_; rotate_left; (focus (intro w hSw; (try dsimp only at hSw); go_simp; (try with_reducible rfl))); (try simp only [Act.put, List.setIfInBounds_toArray, List.set_cons_zero, List.set_cons_succ, List.getElem_toArray, List.getElem_cons_zero, List.getElem_cons_succ]); refine wpAnyH_take (i := 6) (oi := _) (v := ?_) rfl (by kernel_rfl) (by kernel_rfl) (by kernel_rfl) (fun _ _ _ h => h) (Or.inl ⟨by rfl, ?_⟩) (by assumption) ?_; rotate_left; (focus (intro w hSw; (try dsimp only at hSw); go_simp; (try with_reducible rfl))); (try simp only [Act.put, List.setIfInBounds_toArray, List.set_cons_zero, List.set_cons_succ, List.getElem_toArray, List.getElem_cons_zero, List.getElem_cons_succ]); refine wpAnyH_take (i := 7) (oi := _) (v := ?_) rfl (by kernel_rfl) (by kernel_rfl) (by kernel_rfl) (fun _ _ _ h => h) (Or.inl ⟨by rfl, ?_⟩) (by assumption) ?_; rotate_left; (focus (intro w hSw; (try dsimp only at hSw); go_simp; (try with_reducible rfl))); (try simp only [Act.put, List.setIfInBounds_toArray, List.set_cons_zero, List.set_cons_succ, List.getElem_toArray, List.getElem_cons_zero, List.getElem_cons_succ]); refine wpAnyH_take (i := 8) (oi := _) (v := ?_) rfl (by kernel_rfl) (by kernel_rfl) (by kernel_rfl) (fun _ _ _ h => h) (Or.inl ⟨by rfl, ?_⟩) (by assumption) ?_; rotate_left; (focus (intro w hSw; (try dsimp only at hSw); go_simp; (try with_reducible rfl))); (try simp only [Act.put, List.setIfInBounds_toArray, List.set_cons_zero, List.set_cons_succ, List.getElem_toArray, List.getElem_cons_zero, List.getElem_cons_succ]); refine wpAnyH_take (i := 9) (oi := _) (v := ?_) rfl (by kernel_rfl) (by kernel_rfl) (by kernel_rfl) (fun _ _ _ h => h) (Or.inl ⟨by rfl, ?_⟩) (by assumption) ?_; rotate_left; (focus (intro w hSw; (try dsimp only at hSw); go_simp; (try with_reducible rfl))); (try simp only [Act.put, List.setIfInBounds_toArray, List.set_cons_zero, List.set_cons_succ, List.getElem_toArray, List.getElem_cons_zero, List.getElem_cons_succ]); refine wpAnyH_take (i := 10) (oi := _) (v := ?_) rfl (by kernel_rfl) (by kernel_rfl) (by kernel_rfl) (fun _ _ _ h => h) (Or.inl ⟨by rfl, ?_⟩) (by assumption) ?_; rotate_left; (focus (intro w hSw; (try dsimp only at hSw); go_simp; (try with_reducible rfl))); (try simp only [Act.put, List.setIfInBounds_toArray, List.set_cons_zero, List.set_cons_succ, List.getElem_toArray, List.getElem_cons_zero, List.getElem_cons_succ]); refine wpAnyH_take (i := 11) (oi := _) (v := ?_) rfl (by kernel_rfl) (by kernel_rfl) (by kernel_rfl) (fun _ _ _ h => h) (Or.inl ⟨by rfl, ?_⟩) (by assumption) ?_; rotate_left; (focus (intro w hSw; (try dsimp only at hSw); go_simp; (try with_reducible rfl))); (try simp only [Act.put, List.setIfInBounds_toArray, List.set_cons_zero, List.set_cons_succ, List.getElem_toArray, List.getElem_cons_zero, List.getElem_cons_succ]); refine wpAnyH_done (by kernel_rfl) ?_ _)
                  have gA := hHeld.1
                  obtain ⟨wV, hwV⟩ : ∃ y, y = wr.drew := ⟨_, rfl⟩
                  rw [← hwV] at gA ⊢
                  have n1 := gA.keeps n1
                  have hl1 := lt_of_cell n1
                  have hownA := Lib.hid (Hown.out.grow gA)
                  have hwA := gA.size
                  clear hHeld n2 n3 hl2 hl3 hwV
                  go_wp2_with (at_builtin; (refine wpl_app rfl _ _ 22 rfl wS.heap.size 38 i0 _ 24 hu hi0 hi1 hi2 hi3 rfl ov vs rfl (hownA.out.alloc _) _ _ [.slice (some ⟨ub, uq, none⟩) u.length uc] 1 rfl rfl (fun h => nomatch h) (row_new1 _ _ _ (by first | rfl | simp)) (by simp [Value.oneCell']) (by simp; omega) (by omega) (by simp; omega) ?_; intro v' wq hown1 hgr1 hmv1))
                  have gq : Grow wS wq := Below.trans ((hgm.trans gA).alloc _) (grownBy_below hgr1 (fun k hk => hownA.out.base k hk) (by simp; omega))
                  have hne : (some ub : Option Nat) ≠ ov.ownBlock := fun e => by have := hownA.out.base ub e.symm; omega
                  have hne' : (some ub : Option Nat) ≠ v'.ownBlock := fun e => by have := hown1.base ub e.symm; omega
                  have hIq := ((HIu.out.grow gA).grow ((Grow.refl _).alloc (.cells #[.slice (some ⟨ub, uq, none⟩) u.length uc] 38))).kept hgr1 (.inr hne)
                  have hr1 := (((Hrows.out.grow gA).grow ((Grow.refl _).alloc (.cells #[.slice (some ⟨ub, uq, none⟩) u.length uc] 38))).kept hgr1 hmv1).snoc hIq (.inr hne')
                  exact ⟨⟨m + 1, v', _, rfl, by omega, by go_num, hown1, by rw [Hsu.out]; exact hr1, gq⟩, by simp [intOf]; omega⟩
                · have hyb : (y == x) = false := by simpa using hyx
                  rw [hyb, if_neg (by decide), List.append_nil] at hsu
                  have Hsu := Lib.hid hsu
                  clear hsu hyx
                  go_upto_region 17 with fail
                  (refine wp_region_held_drew (S := fun Wx => Grow wr Wx ∧ Wx.cell? ⟨lb, lq + m, none⟩ = some (.slice (some ⟨ub, uq, none⟩) u.length uc) ∧ Wx.cell? ⟨ub, uq + k, none⟩ = some (.int .i64 y) ∧ Wx.cell? ⟨tb, tq + j, none⟩ = some (.int .i64 x)) (by kernel_rfl) ⟨(Below.refl _ _).drew, Grow.keeps (Below.refl _ _).drew (by assumption), Grow.keeps (Below.refl _ _).drew (by assumption), Grow.keeps (Below.refl _ _).drew (by assumption)⟩ (fun hHeld => ?_); refine wpAnyH_take (i := 0) (oi := _) (v := ?_) rfl (by kernel_rfl) (by kernel_rfl) (by kernel_rfl) (fun _ _ _ h => h) (Or.inl ⟨by rfl, ?_⟩) (by assumption) ?_; rotate_left; (focus (intro w hSw; (try dsimp only at hSw); go_simp; (try with_reducible rfl))); (try simp only [Act.put, List.setIfInBounds_toArray, List.set_cons_zero, List.set_cons_succ, List.getElem_toArray, List.getElem_cons_zero]); refine wpAnyH_take (i := 1) (oi := _) (v := ?_) rfl (by kernel_rfl) (by kernel_rfl) (by kernel_rfl) (fun _ _ _ h => h) (Or.inl ⟨by rfl, ?_⟩) (by assumption) ?_; rotate_left; (focus (intro w hSw; (try dsimp only at hSw); go_simp; (try with_reducible rfl))); (try simp only [Act.put, List.setIfInBounds_toArray, List.set_cons_zero, List.set_cons_succ, List.getElem_toArray, List.getElem_cons_zero, List.getElem_cons_succ]); refine wpAnyH_take (i := 2) (oi := _) (v := ?_) rfl (by kernel_rfl) (by kernel_rfl) (by kernel_rfl) (fun _ _ _ h => h) (Or.inl ⟨by rfl, ?_⟩) (by assumption) ?_; rotate_left; (focus (intro w hSw; (try dsimp only at hSw); go_simp; (try with_reducible rfl))); (try simp only [Act.put, List.setIfInBounds_toArray, List.set_cons_zero, List.set_cons_succ, List.getElem_toArray, List.getElem_cons_zero, List.getElem_cons_succ]); refine wpAnyH_take (i := 3) (oi := _) (v := ?_) rfl (by kernel_rfl) (by kernel_rfl) (by kernel_rfl) (fun _ _ _ h => h) (Or.inl ⟨by rfl, ?_⟩) (by assumption) ?_; rotate_left; (focus (intro w hSw; (try dsimp only at hSw); go_simp; (try with_reducible rfl))); (try simp only [Act.put, List.setIfInBounds_toArray, List.set_cons_zero, List.set_cons_succ, List.getElem_toArray, List.getElem_cons_zero, List.getElem_cons_succ]); refine wpAnyH_take (i := 4) (oi := _) (v := ?_) rfl (by kernel_rfl) (by kernel_rfl) (by kernel_rfl) (fun _ _ _ h => h) (Or.inl ⟨by rfl, ?_⟩) (by assumption) ?_; rotate_left; (focus (intro w hSw; (try dsimp only at hSw); go_simp; (try with_reducible rfl))); (try simp only [Act.put, List.setIfInBounds_toArray, List.set_cons_zero, List.set_cons_succ, List.getElem_toArray, List.getElem_cons_zero, List.getElem_cons_succ]); refine wpAnyH_take (i := 5) (oi := _) (v := ?_) rfl (by kernel_rfl) (by kernel_rfl) (by kernel_rfl) (fun _ _ _ h => h) (Or.inl ⟨by rfl, ?_⟩) (by assumption) ?_; rotate_left; (focus (intro w hSw; (try dsimp only at hSw); go_simp; (try with_reducible rfl))); (try simp only [Act.put, List.setIfInBounds_toArray, List.set_cons_zero, List.set_cons_succ, List.getElem_toArray, List.getElem_cons_zero, List.getElem_cons_succ]); refine wpAnyH_take (i := 6) (oi := _) (v := ?_) rfl (by kernel_rfl) (by kernel_rfl) (by kernel_rfl) (fun _ _ _ h => h) (Or.inl ⟨by rfl, ?_⟩) (by assumption) ?_; rotate_left; (focus (intro w hSw; (try dsimp only at hSw); go_simp; (try with_reducible rfl))); (try simp only [Act.put, List.setIfInBounds_toArray, List.set_cons_zero, List.set_cons_succ, List.getElem_toArray, List.getElem_cons_zero, List.getElem_cons_succ]); refine wpAnyH_take (i := 7) (oi := _) (v := ?_) rfl (by kernel_rfl) (by kernel_rfl) (by kernel_rfl) (fun _ _ _ h => h) (Or.inl ⟨by rfl, ?_⟩) (by assumption) ?_; rotate_left; (focus (intro w hSw; (try dsimp only at hSw); go_simp; (try with_reducible rfl))); (try simp only [Act.put, List.setIfInBounds_toArray, List.set_cons_zero, List.set_cons_succ, List.getElem_toArray, List.getElem_cons_zero, List.getElem_cons_succ]); refine wpAnyH_take (i := 8) (oi := _) (v := ?_) rfl (by kernel_rfl) (by kernel_rfl) (by kernel_rfl) (fun _ _ _ h => h) (Or.inl ⟨by rfl, ?_⟩) (by assumption) ?_; rotate_left; (focus (intro w hSw; (try dsimp only at hSw); go_simp; (try with_reducible rfl))); (try simp only [Act.put, List.setIfInBounds_toArray, List.set_cons_zero, List.set_cons_succ, List.getElem_toArray, List.getElem_cons_zero, List.getElem_cons_succ]); refine wpAnyH_take (i := 9) (oi := _) (v := ?_) rfl (by kernel_rfl) (by kernel_rfl) (by kernel_rfl) (fun _ _ _ h => h) (Or.inl ⟨by rfl, ?_⟩) (by assumption) ?_; rotate_left; (focus (intro w hSw; (try dsimp only at hSw); go_simp; (try with_reducible rfl))); (try simp only [Act.put, List.setIfInBounds_toArray, List.set_cons_zero, List.set_cons_succ, List.getElem_toArray, List.getElem_cons_zero, List.getElem_cons_succ]); refine wpAnyH_take (i := 10) (oi := _) (v := ?_) rfl (by kernel_rfl) (by kernel_rfl) (by kernel_rfl) (fun _ _ _ h => h) (Or.inl ⟨by rfl, ?_⟩) (by assumption) ?_; rotate_left; (focus (intro w hSw; (try dsimp only at hSw); go_simp; (try with_reducible rfl))); (try simp only [Act.put, List.setIfInBounds_toArray, List.set_cons_zero, List.set_cons_succ, List.getElem_toArray, List.getElem_cons_zero, List.getElem_cons_succ]); refine wpAnyH_take (i := 11) (oi := _) (v := ?_) rfl (by kernel_rfl) (by kernel_rfl) (by kernel_rfl) (fun _ _ _ h => h) (Or.inl ⟨by rfl, ?_⟩) (by assumption) ?_; rotate_left; (focus (intro w hSw; (try dsimp only at hSw); go_simp; (try with_reducible rfl))); (try simp only [Act.put, List.setIfInBounds_toArray, List.set_cons_zero, List.set_cons_succ, List.getElem_toArray, List.getElem_cons_zero, List.getElem_cons_succ]); refine wpAnyH_done (by kernel_rfl) ?_ _)
                  have gA := hHeld.1
                  go_wp2_with fail
                  exact ⟨⟨m + 1, ov, vs, rfl, by omega, by go_num, Hown.out.grow gA, by rw [Hsu.out]; exact Hrows.out.grow gA, hgm.trans gA⟩, by simp [intOf]; omega⟩
              · obtain rfl : m = L.length := by omega
                have hso : someTo L k x L.length = someL L k x := by unfold someTo someL; rw [List.take_length]
                have hsh := Hrows.out.sheets Hown.out (by rw [← Hrows.out.1]; omega)
                rw [hso] at hsh
                have p0 := (hgS.trans hgm).keeps m0
                have p1 := (hgS.trans hgm).keeps m1
                have p2 := (hgS.trans hgm).keeps m2
                have hlp := lt_of_cell p0
                have hsl : (someL L k x).length ≤ L.length := by unfold someL; exact List.length_filter_le _ _
                have QS2 := Lib.hid (fun (V : World) (g : Grow wr V) => rsettled_any E F _ _ ss (someL L k x) V (Hv.out.grow ((G1.trans GM).trans g)) (hsh.grow g) (fun t ht => HTr.out t (by unfold someL at ht; exact (List.mem_filter.1 ht).1)) (by omega) (by omega))
                obtain ⟨sa, sc, rfl, _, _, _⟩ := id hsh
                have Hst2 := Hst
                clear hsh hso
                cases z
                · have hst := Hst.out
                  rw [Bool.false_and] at hst
                  have Hst3 := Lib.hid hst
                  clear hst
                  go_wp2_with fail
                  exact ⟨⟨j + 1, _, by omega, by go_num, rfl, Hst3.out.symm, hgS.trans hgm⟩, by simp [intOf]; omega⟩
                · have hst := Hst.out
                  rw [Bool.true_and] at hst
                  have Hst3 := Lib.hid hst
                  clear hst
                  go_wp2_with (go_at_call 69; refine (QS2.out _ (Grow.refl _)).mono ?_; rintro e w7 ⟨rfl, g7⟩)
                  exact ⟨⟨j + 1, _, by omega, by go_num, rfl, Hst3.out.symm, (hgS.trans hgm).trans g7⟩, by simp [intOf]; omega⟩
          · obtain rfl : j = T.length := by omega
            have hzk := Hzq.out.trans Hsk.out
            have GE := ((G1.trans G19).trans hgj)
            have hgE := (hg.trans G9).trans hgj
            cases z
            · have hno2 : Hid (∀ i, i < k + 1 → settlesB ks F i = false) := (fun i hi => by
                by_cases e : i = k
                · subst e; exact hzk.symm
                · exact Hno.out i (by omega) : ∀ i, i < k + 1 → settlesB ks F i = false)
              clear hzk
              go_wp2_with fail
              exact ⟨⟨k + 1, by omega, by go_num, hno2.out, hgE⟩, by simp [intOf]; omega⟩
            · have hav : askV ks F = ((k : Int), 0) := by
                rcases Hac.out with ⟨i, h1, h2, h3, h4⟩ | ⟨h3, h4⟩
                · obtain rfl : i = k := by
                    rcases Nat.lt_trichotomy i k with h | h | h
                    · rw [Hno.out i h] at h2; cases h2
                    · exact h
                    · rw [h3 k h] at hzk; cases hzk
                  exact h4
                · rw [h3 k (by rw [Hkl.out]; exact hlt)] at hzk; cases hzk
              have Hav := Lib.hid hav
              clear hav hzk
              go_wp2_with fail
              go_ret2
              exact ⟨by rw [Hask.out, Hav.out]; rfl, GE⟩
      · obtain rfl : k = ss.length := by omega
        have hav : askV ks F = (0, 4) := by
          rcases Hac.out with ⟨i, h1, h2, h3, h4⟩ | ⟨h3, h4⟩
          · rw [Hno.out i (by rw [← Hkl.out]; exact h1)] at h2; cases h2
          · exact h4
        have Hav := Lib.hid hav
        clear hav
        go_wp2_with fail
        go_ret2
        exact ⟨by rw [Hask.out, Hav.out]; rfl, (G1.trans g2).trans hg⟩
  · have hne : (c != 0) = true := by simpa using h0
    have hbad := askE_bad hc h0
    have Hbad := Lib.hid hbad
    clear hc hbad
    go_enter Tryz.func24, Tryz.ntmps24
    go_wp2_with (go_at_call 37; refine (rtold_any E F _ ss _ _ (Hv.out.grow ((Grow.refl w).alloc _))).mono ?_; rintro e w1 ⟨ov, rfl, hs1, g1⟩; rw [He.out]; obtain ⟨oa, oc, rfl, _, _, _⟩ := id hs1; clear hs1)
    go_ret2
    exact ⟨by rw [Hbad.out]; rfl, ((Grow.refl w).alloc _).trans g1⟩
end Go.Proofs.YtbeglemohfbdfaaGreat
