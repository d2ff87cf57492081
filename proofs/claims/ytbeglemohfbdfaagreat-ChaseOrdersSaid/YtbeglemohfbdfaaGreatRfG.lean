/- The reference of layer 7: Time, Place, Final, Cut: they answer as the program does. Conditions: sizes. -/
import Derived.Test.YtbeglemohfbdfaaGreatRfF
namespace Go.Proofs.YtbeglemohfbdfaaGreat
open Go.RowKit

theorem errOf_all {E F : Int} {ss : List (List Int)} {ok : Bool} (h : errOf E F ss ok = 0) : validB E F ss = true ∧ ok = true ∧ feasB (clocksOf E ss) = true := by
  unfold errOf at h
  cases h1 : validB E F ss <;> simp [h1] at h
  cases h2 : ok <;> simp [h2] at h
  cases h3 : feasB (clocksOf E ss) <;> simp [h3] at h
  exact ⟨rfl, rfl, rfl⟩
theorem rPair2_any (E F : Int) (sa : Option Addr) (sn sc : Nat) (n : Int) (w : World) (h1 : sn ≤ 9000000000000000) :
    Calls Tryz.prog 38 #[.agg #[.int .i64 E, .int .i64 F, .slice sa sn sc], .int .i64 n] w fun e w' => e = .returned (.bool (inB n 0 ((sn : Int) - 1))) ∧ Grow w w' := by
  have hw : IntKind.i64.wrap ((sn : Int) - 1) = (sn : Int) - 1 := IntWalk.i64_in _ (by omega)
  go_enter Tryz.func38, Tryz.ntmps38
  go_wp2_with (go_at_call 70; refine (rin_any _ _ _ _).mono ?_; rintro e w' ⟨rfl, rfl⟩)
  go_ret
  exact ⟨rfl, (Grow.refl _).alloc _⟩
set_option maxRecDepth 100000 in
set_option maxHeartbeats 2000000 in
theorem rTime_any (E F p : Int) (v : Value) (ss : List (List Int)) (w : World) (hv : IsSheets w v ss) :
    Calls Tryz.prog 8 #[.agg #[.int .i64 E, .int .i64 F, v], .int .i64 p] w fun e w' => e = .returned (.tuple #[.agg #[.int .i64 (timeV E F ss p).1, .int .i64 (timeV E F ss p).2], .int .i64 (errOf E F ss (inB p 0 (ss.length - 1)))]) ∧ Grow w w' := by
  obtain ⟨a, cap, rfl, hcap, hlen, hrow⟩ := id hv
  have Hv := Lib.hid hv
  clear hv hrow
  obtain ⟨c, hc⟩ : ∃ c, errOf E F ss (inB p 0 (ss.length - 1)) = c := ⟨_, rfl⟩
  have He := Lib.hid hc
  by_cases h0 : c = 0
  · subst h0
    obtain ⟨hval, hok, hfe⟩ := errOf_all hc
    have hfeas := feasB_iff.1 hfe
    have hkl := clocks_len E ss
    have hLn := truths_len hval
    have hpos : 0 < (truthsL E ss).length := List.length_pos_iff.2 (truths_ne.2 hfe)
    have hto : toldL E F ss (inB p 0 (ss.length - 1)) = truthsL E ss := by unfold toldL; rw [if_pos hc]
    have hTr : ∀ t ∈ truthsL E ss, t.length = ss.length ∧ Tr (clocksOf E ss) t := fun t ht => ⟨by rw [(mem_truths.1 ht).1, hkl], mem_truths.1 ht⟩
    obtain ⟨_, hn6, hF6, _⟩ := valid_parts hval
    obtain ⟨L, hL⟩ : ∃ z, truthsL E ss = z := ⟨_, rfl⟩
    rw [hL] at hLn hpos hto hTr
    have Hto := Lib.hid hto
    have HTr := Lib.hid hTr
    have HL := Lib.hid hL
    have Hfeas := Lib.hid hfeas
    have Hkl := Lib.hid hkl
    have hin := inB_true.1 hok
    obtain ⟨k, rfl⟩ : ∃ k : Nat, p = k := ⟨p.toNat, by omega⟩
    have hks : k < ss.length := by omega
    have hh := time_hull (E := E) hfeas (p := k) (by rw [hkl]; exact hks)
    rw [hL] at hh
    have hval2 : timeV E F ss (k : Int) = hullL (L.map fun t => tm t k) := by unfold timeV; rw [if_pos hc, Int.toNat_natCast, hh]
    obtain ⟨i0, hi0, hi1, hi2, hi3⟩ := info_parts pinfo_int7
    have hui : Tryz.prog.underlying 38 = some (.slice 3) := by kernel_rfl
    have Hval2 := Lib.hid hval2
    clear hc hto hTr hL hfeas hkl hok hfe hval hh hval2 hin
    go_enter Tryz.func8, Tryz.ntmps8
    go_upto_region 1 with fail
    have c0 : (w.alloc (.cells #[.int .i64 E, .int .i64 F, .slice a ss.length cap] 24)).cell? ⟨w.heap.size, 0, none⟩ = some (.int .i64 E) := cell_new rfl rfl
    have c1 : (w.alloc (.cells #[.int .i64 E, .int .i64 F, .slice a ss.length cap] 24)).cell? ⟨w.heap.size, 1, none⟩ = some (.int .i64 F) := cell_new rfl rfl
    have c2 : (w.alloc (.cells #[.int .i64 E, .int .i64 F, .slice a ss.length cap] 24)).cell? ⟨w.heap.size, 2, none⟩ = some (.slice a ss.length cap) := cell_new rfl rfl
    have gX : Grow w (w.alloc (.cells #[.int .i64 E, .int .i64 F, .slice a ss.length cap] 24)) := (Grow.refl w).alloc _
    obtain ⟨X, hX⟩ : ∃ z, w.alloc (.cells #[.int .i64 E, .int .i64 F, .slice a ss.length cap] 24) = z := ⟨_, rfl⟩
    obtain ⟨B, hB⟩ : ∃ z, w.heap.size = z := ⟨_, rfl⟩
    rw [hX] at c0 c1 c2 gX
    rw [hB] at c0 c1 c2
    have hXs : X.heap.size = B + 1 := by rw [← hX, ← hB]; simp
    (try rw [hX])
    (try rw [hB])
    have HB := Lib.hid hB
    clear hX hB
    have t0 : (X.alloc (.cells #[.int .i64 0, .int .i64 0] 28)).cell? ⟨B + 1, 0, none⟩ = some (.int .i64 0) := cell_new hXs.symm rfl
    have t1 : (X.alloc (.cells #[.int .i64 0, .int .i64 0] 28)).cell? ⟨B + 1, 1, none⟩ = some (.int .i64 0) := cell_new hXs.symm rfl
    have tf : ∀ q, (X.alloc (.cells #[.int .i64 0, .int .i64 0] 28)).frozen? ⟨B + 1, q, none⟩ = false := fun q => hot_new hXs.symm
    have gW := gX.alloc (.cells #[.int .i64 0, .int .i64 0] 28)
    have b0 := Grow.keepA c0 (.cells #[.int .i64 0, .int .i64 0] 28)
    have b1 := Grow.keepA c1 (.cells #[.int .i64 0, .int .i64 0] 28)
    have b2 := Grow.keepA c2 (.cells #[.int .i64 0, .int .i64 0] 28)
    obtain ⟨W, hW⟩ : ∃ z, X.alloc (.cells #[.int .i64 0, .int .i64 0] 28) = z := ⟨_, rfl⟩
    obtain ⟨T4, hT4⟩ : ∃ z, B + 1 = z := ⟨_, rfl⟩
    rw [hW] at t0 t1 tf gW b0 b1 b2
    rw [hT4] at t0 t1 tf
    (try rw [hW])
    (try rw [hT4])
    have HT4 := Lib.hid hT4
    have hBT : B ≠ T4 := by omega
    have hlW := lt_of_cell t0
    have hlB := lt_of_cell b0
    clear hW hT4 c0 c1 c2 hXs gX
    have hsub : IntKind.i64.wrap ((ss.length : Int) - 1) = (ss.length : Int) - 1 := IntWalk.i64_in _ (by omega)
    (refine wp_region_held_drew (S := fun Wx => Grow W Wx ∧ Wx.cell? ⟨B, 0, none⟩ = some (.int .i64 E) ∧ Wx.cell? ⟨B, 1, none⟩ = some (.int .i64 F) ∧ Wx.cell? ⟨B, 2, none⟩ = some (.slice a ss.length cap)) (by kernel_rfl) ⟨(Below.refl _ _).drew, Grow.keeps (Below.refl _ _).drew (by assumption), Grow.keeps (Below.refl _ _).drew (by assumption), Grow.keeps (Below.refl _ _).drew (by assumption)⟩ (fun hHeld => ?_); refine wpAnyH_take (i := 0) (oi := _) (v := ?_) rfl (by kernel_rfl) (by kernel_rfl) (by kernel_rfl) (fun _ _ _ h => h) (Or.inl ⟨by rfl, ?_⟩) (by assumption) ?_; rotate_left; (focus (intro w hSw; (try dsimp only at hSw); go_simp; (try with_reducible rfl))); (try simp only [Act.put, List.setIfInBounds_toArray, List.set_cons_zero, List.set_cons_succ, List.getElem_toArray, List.getElem_cons_zero]); refine wpAnyH_take (i := 1) (oi := _) (v := ?_) rfl (by kernel_rfl) (by kernel_rfl) (by kernel_rfl) (fun _ _ _ h => h) (Or.inl ⟨by rfl, ?_⟩) (by assumption) ?_; rotate_left; (focus (intro w hSw; (try dsimp only at hSw); go_simp; (try with_reducible rfl))); (try simp only [Act.put, List.setIfInBounds_toArray, List.set_cons_zero, List.set_cons_succ, List.getElem_toArray, List.getElem_cons_zero, List.getElem_cons_succ]); refine wpAnyH_take (i := 2) (oi := _) (v := ?_) rfl (by kernel_rfl) (by kernel_rfl) (by kernel_rfl) (fun _ _ _ h => h) (Or.inl ⟨by rfl, ?_⟩) (by assumption) ?_; rotate_left; (focus (intro w hSw; (try dsimp only at hSw); go_simp; (try with_reducible rfl))); (try simp only [Act.put, List.setIfInBounds_toArray, List.set_cons_zero, List.set_cons_succ, List.getElem_toArray, List.getElem_cons_zero, List.getElem_cons_succ]); refine wpAnyH_ready (rs := [3]) (by kernel_rfl) (by simp) ?_; refine AllReadyH.cons (o := _) rfl (fun K hK => ?_) AllReadyH.nil; (try simp only [List.getElem_toArray, List.getElem_cons_zero, List.getElem_cons_succ]); go_simp; (first | (go_at_call 38; refine (rPair2_any E F a ss.length cap k _ (by omega)).mono ?_; rintro e w98 ⟨rfl, g98⟩) | (go_at_call 37; refine (rtold_any E F _ ss _ _ (Hv.out.grow (gW.trans (by first | assumption | (go_split_ands; assumption) | exact (Grow.refl _).drew)))).mono ?_; rintro e w99 ⟨ov, rfl, hs99, g99⟩; rw [He.out]; obtain ⟨oa, oc, rfl, _, _, _⟩ := id hs99; have Hs99 := Lib.hid hs99; clear hs99)); (try (go_wp2_with fail)); refine hK.out _ _ ?_ (fun hHeld => ?_); (focus ((try dsimp only); refine (fun (hG : Grow W _) => ⟨hG, Grow.keeps hG (by assumption), Grow.keeps hG (by assumption), Grow.keeps hG (by assumption)⟩) ?_; (try go_split_ands); first | assumption | exact Grow.trans (by assumption) (by assumption) | exact Below.trans (by assumption) (by assumption))); clear hK K; (try simp only [Act.put, List.setIfInBounds_toArray, List.set_cons_zero, List.set_cons_succ, List.getElem_toArray, List.getElem_cons_zero, List.getElem_cons_succ]); refine wpAnyH_ready (rs := [4]) (by kernel_rfl) (by simp) ?_; refine AllReadyH.cons (o := _) rfl (fun K hK => ?_) AllReadyH.nil; (try simp only [List.getElem_toArray, List.getElem_cons_zero, List.getElem_cons_succ]); go_simp; (first | (go_at_call 38; refine (rPair2_any E F a ss.length cap k _ (by omega)).mono ?_; rintro e w98 ⟨rfl, g98⟩) | (go_at_call 37; refine (rtold_any E F _ ss _ _ (Hv.out.grow (gW.trans (by first | assumption | (go_split_ands; assumption) | exact (Grow.refl _).drew)))).mono ?_; rintro e w99 ⟨ov, rfl, hs99, g99⟩; rw [He.out]; obtain ⟨oa, oc, rfl, _, _, _⟩ := id hs99; have Hs99 := Lib.hid hs99; clear hs99)); (try (go_wp2_with fail)); refine hK.out _ _ ?_ (fun hHeld => ?_); (focus ((try dsimp only); refine (fun (hG : Grow W _) => ⟨hG, Grow.keeps hG (by assumption), Grow.keeps hG (by assumption), Grow.keeps hG (by assumption)⟩) ?_; (try go_split_ands); first | assumption | exact Grow.trans (by assumption) (by assumption) | exact Below.trans (by assumption) (by assumption))); clear hK K; (try simp only [Act.put, List.setIfInBounds_toArray, List.set_cons_zero, List.set_cons_succ, List.getElem_toArray, List.getElem_cons_zero, List.getElem_cons_succ]); refine wpAnyH_take (i := 5) (oi := _) (v := ?_) rfl (by kernel_rfl) (by kernel_rfl) (by kernel_rfl) (fun _ _ _ h => h) (Or.inl ⟨by rfl, ?_⟩) (by assumption) ?_; rotate_left; (focus (intro w hSw; (try dsimp only at hSw); go_simp; (try with_reducible rfl))); (try simp only [Act.put, List.setIfInBounds_toArray, List.set_cons_zero, List.set_cons_succ, List.getElem_toArray, List.getElem_cons_zero, List.getElem_cons_succ]); refine wpAnyH_take (i := 6) (oi := _) (v := ?_) rfl (by kernel_rfl) (by kernel_rfl) (by kernel_rfl) (fun _ _ _ h => h) (Or.inl ⟨by rfl, ?_⟩) (by assumption) ?_; rotate_left; (focus (intro w hSw; (try dsimp only at hSw); go_simp; (try with_reducible rfl))); (try simp only [Act.put, List.setIfInBounds_toArray, List.set_cons_zero, List.set_cons_succ, List.getElem_toArray, List.getElem_cons_zero, List.getElem_cons_succ]); refine wpAnyH_take (i := 7) (oi := _) (v := ?_) rfl (by kernel_rfl) (by kernel_rfl) (by kernel_rfl) (fun _ _ _ h => h) (Or.inl ⟨by rfl, ?_⟩) (by assumption) ?_; rotate_left; (focus (intro w hSw; (try dsimp only at hSw); go_simp; (try with_reducible rfl))); (try simp only [Act.put, List.setIfInBounds_toArray, List.set_cons_zero, List.set_cons_succ, List.getElem_toArray, List.getElem_cons_zero, List.getElem_cons_succ]); refine wpAnyH_take (i := 8) (oi := _) (v := ?_) rfl (by kernel_rfl) (by kernel_rfl) (by kernel_rfl) (fun _ _ _ h => h) (Or.inl ⟨by rfl, ?_⟩) (by assumption) ?_; rotate_left; (focus (intro w hSw; (try dsimp only at hSw); go_simp; (try with_reducible rfl))); (try simp only [Act.put, List.setIfInBounds_toArray, List.set_cons_zero, List.set_cons_succ, List.getElem_toArray, List.getElem_cons_zero, List.getElem_cons_succ]); refine wpAnyH_take (i := 9) (oi := _) (v := ?_) rfl (by kernel_rfl) (by kernel_rfl) (by kernel_rfl) (fun _ _ _ h => h) (Or.inl ⟨by rfl, ?_⟩) (by assumption) ?_; rotate_left; (focus (intro w hSw; (try dsimp only at hSw); go_simp; (try with_reducible rfl))); (try simp only [Act.put, List.setIfInBounds_toArray, List.set_cons_zero, List.set_cons_succ, List.getElem_toArray, List.getElem_cons_zero, List.getElem_cons_succ]); refine wpAnyH_done (by kernel_rfl) ?_ _)
    rw [Hto.out] at Hs99
    have GR : Grow W w99 := hHeld.1
    clear hHeld
    obtain ⟨_, _, eo, _, _, hat⟩ := id Hs99.out
    injection eo with eo1 eo2 eo3
    subst eo1
    rw [Hto.out]
    have Hat := Lib.hid hat
    clear hat eo2 eo3 hsub
    go_wp2_with fail
    have hW99 : w99.heap.size ≤ w99.heap.size := Nat.le_refl _
    go_loopw [8, 9] (fun u i wr => ∃ (j : Nat) (ov : Value), ov = u ∧ j ≤ L.length ∧ i = .int .i64 j ∧ Own wr w99.heap.size 3 ov (((L.take j).map fun t => tm t k).map (Value.int .i64)) ∧ Grow w99 wr) (fun _ i _ => L.length - (intOf i).toNat)
    case atStart => exact ⟨0, _, rfl, Nat.zero_le _, rfl, Own.nil _ _ _, Grow.refl _⟩
    case round =>
      obtain ⟨j, ov, rfl, hj, rfl, hown, hg⟩ := hrel
      have Hown := Lib.hid hown
      clear hown
      by_cases hlt : j < L.length
      · obtain ⟨lb, lq, t, ta, tc, hx, rfl, hcl, hsc, hs8, hst⟩ := Hat.out.get hlt
        have hcl' := hg.keeps hcl
        have hlb := lt_of_cell hcl'
        have htl := HTr.out t (List.mem_of_getElem? hx)
        have htk := take_get hx
        have hjI : (j : Int) < L.length := by omega
        obtain ⟨tb, tq, x, hx2, rfl, hcx⟩ := hst.int (i := k) (by rw [htl.1]; exact hks)
        have hcx' := hg.keeps hcx
        have hlx := lt_of_cell hcx'
        have htm : tm t k = x := by simp [tm, hx2]
        have hkI : (k : Int) < t.length := by rw [htl.1]; omega
        have Htk := Lib.hid htk
        have Htm := Lib.hid htm
        have hwl : w99.heap.size ≤ wr.heap.size := hg.size
        have own5 := Hown.out
        clear hx hcl hst htl htk hcx hx2 htm
        go_wp2_with (at_builtin; refine wpl_app rfl _ _ 38 rfl w99.heap.size 3 i0 _ 8 hui hi0 hi1 hi2 hi3 rfl ov (((L.take j).map fun t => tm t k).map (Value.int .i64)) rfl (own5.alloc _) _ _ [.int .i64 x] 1 rfl rfl (fun h => nomatch h) (row_new1 _ _ _ (by first | rfl | simp)) (by simp [Value.oneCell']) (by simp; omega) (by omega) (by simp; omega) ?_; intro v' wz hown1 hgr1 hmv1)
        have gz : Grow w99 wz := Below.trans (hg.alloc _) (grownBy_below hgr1 (fun k hk => own5.base k hk) (by simp; omega))
        exact ⟨⟨j + 1, v', rfl, by omega, by go_num, by rw [Htk.out]; simpa [Htm.out] using hown1, gz⟩, by simp [intOf]; omega⟩
      · obtain rfl : j = L.length := by omega
        rw [List.take_length] at Hown
        obtain ⟨oa2, oc2, rfl, _, _, _⟩ := Hown.out.row
        have hI := Hown.out.ints (by simp; omega)
        have HI := Lib.hid hI
        clear hI
        obtain ⟨⟨x, y⟩, hxy⟩ : ∃ z, hullL (L.map fun t => tm t k) = z := ⟨_, rfl⟩
        have Hx : Hid (timeV E F ss (k : Int) = (x, y)) := Hval2.out.trans hxy
        have Hxy := Lib.hid hxy
        clear hxy
        simp only [List.length_map] at HI ⊢
        go_upto_region 9 with fail
        have QH : Hid (∀ V, Grow wr V → Calls Tryz.prog 39 #[.slice oa2 L.length oc2] V fun e w' => e = .returned (.agg #[.int .i64 x, .int .i64 y]) ∧ Grow V w') := (fun V g => by
          have h := rhull_any _ _ V (HI.out.grow g) (by simpa using hpos)
          rw [Hxy.out] at h
          exact h : ∀ V, Grow wr V → Calls Tryz.prog 39 #[.slice oa2 L.length oc2] V fun e w' => e = .returned (.agg #[.int .i64 x, .int .i64 y]) ∧ Grow V w')
        go_wp2_with (go_at_call 39; refine (QH.out _ (Grow.refl _)).mono ?_; rintro e w5 ⟨rfl, g5⟩; have G5 := (GR.trans hg).trans g5; have u0 := G5.keeps t0; have u1 := G5.keeps t1; have uf : ∀ q, w5.frozen? ⟨T4, q, none⟩ = false := (fun q => (G5.marks _ _ hlW).trans (tf q)); have hl5 := lt_of_cell u0)
        obtain ⟨r0, r1, _, _⟩ := cells2 (x := .int .i64 x) (y := .int .i64 y) u0 u1
        exact bodyPost_ret (v := .tuple #[.agg #[.int .i64 x, .int .i64 y], .int .i64 0]) (by simp [results, Tryz.results8, go_sem, r0, r1]) rfl ⟨by rw [Hx.out, He.out], Below.setCell (p := ⟨T4, 1, none⟩) (Below.setCell (p := ⟨T4, 0, none⟩) (gW.trans G5) (by have := HT4.out; have := HB.out; show w.heap.size ≤ T4; omega) _) (by have := HT4.out; have := HB.out; show w.heap.size ≤ T4; omega) _⟩
  · have hne : (c != 0) = true := by simpa using h0
    have hbad : timeV E F ss p = (0, 0) := if_neg (by rw [hc]; exact h0)
    have Hbad := Lib.hid hbad
    clear hc hbad
    go_enter Tryz.func8, Tryz.ntmps8
    go_upto_region 1 with fail
    have c0 : (w.alloc (.cells #[.int .i64 E, .int .i64 F, .slice a ss.length cap] 24)).cell? ⟨w.heap.size, 0, none⟩ = some (.int .i64 E) := cell_new rfl rfl
    have c1 : (w.alloc (.cells #[.int .i64 E, .int .i64 F, .slice a ss.length cap] 24)).cell? ⟨w.heap.size, 1, none⟩ = some (.int .i64 F) := cell_new rfl rfl
    have c2 : (w.alloc (.cells #[.int .i64 E, .int .i64 F, .slice a ss.length cap] 24)).cell? ⟨w.heap.size, 2, none⟩ = some (.slice a ss.length cap) := cell_new rfl rfl
    have gX : Grow w (w.alloc (.cells #[.int .i64 E, .int .i64 F, .slice a ss.length cap] 24)) := (Grow.refl w).alloc _
    obtain ⟨X, hX⟩ : ∃ z, w.alloc (.cells #[.int .i64 E, .int .i64 F, .slice a ss.length cap] 24) = z := ⟨_, rfl⟩
    obtain ⟨B, hB⟩ : ∃ z, w.heap.size = z := ⟨_, rfl⟩
    rw [hX] at c0 c1 c2 gX
    rw [hB] at c0 c1 c2
    have hXs : X.heap.size = B + 1 := by rw [← hX, ← hB]; simp
    (try rw [hX])
    (try rw [hB])
    have HB := Lib.hid hB
    clear hX hB
    have t0 : (X.alloc (.cells #[.int .i64 0, .int .i64 0] 28)).cell? ⟨B + 1, 0, none⟩ = some (.int .i64 0) := cell_new hXs.symm rfl
    have t1 : (X.alloc (.cells #[.int .i64 0, .int .i64 0] 28)).cell? ⟨B + 1, 1, none⟩ = some (.int .i64 0) := cell_new hXs.symm rfl
    have tf : ∀ q, (X.alloc (.cells #[.int .i64 0, .int .i64 0] 28)).frozen? ⟨B + 1, q, none⟩ = false := fun q => hot_new hXs.symm
    have gW := gX.alloc (.cells #[.int .i64 0, .int .i64 0] 28)
    have b0 := Grow.keepA c0 (.cells #[.int .i64 0, .int .i64 0] 28)
    have b1 := Grow.keepA c1 (.cells #[.int .i64 0, .int .i64 0] 28)
    have b2 := Grow.keepA c2 (.cells #[.int .i64 0, .int .i64 0] 28)
    obtain ⟨W, hW⟩ : ∃ z, X.alloc (.cells #[.int .i64 0, .int .i64 0] 28) = z := ⟨_, rfl⟩
    obtain ⟨T4, hT4⟩ : ∃ z, B + 1 = z := ⟨_, rfl⟩
    rw [hW] at t0 t1 tf gW b0 b1 b2
    rw [hT4] at t0 t1 tf
    (try rw [hW])
    (try rw [hT4])
    have HT4 := Lib.hid hT4
    have hBT : B ≠ T4 := by omega
    have hlW := lt_of_cell t0
    have hlB := lt_of_cell b0
    clear hW hT4 c0 c1 c2 hXs gX
    have hsub : IntKind.i64.wrap ((ss.length : Int) - 1) = (ss.length : Int) - 1 := IntWalk.i64_in _ (by omega)
    (refine wp_region_held_drew (S := fun Wx => Grow W Wx ∧ Wx.cell? ⟨B, 0, none⟩ = some (.int .i64 E) ∧ Wx.cell? ⟨B, 1, none⟩ = some (.int .i64 F) ∧ Wx.cell? ⟨B, 2, none⟩ = some (.slice a ss.length cap)) (by kernel_rfl) ⟨(Below.refl _ _).drew, Grow.keeps (Below.refl _ _).drew (by assumption), Grow.keeps (Below.refl _ _).drew (by assumption), Grow.keeps (Below.refl _ _).drew (by assumption)⟩ (fun hHeld => ?_); refine wpAnyH_take (i := 0) (oi := _) (v := ?_) rfl (by kernel_rfl) (by kernel_rfl) (by kernel_rfl) (fun _ _ _ h => h) (Or.inl ⟨by rfl, ?_⟩) (by assumption) ?_; rotate_left; (focus (intro w hSw; (try dsimp only at hSw); go_simp; (try with_reducible rfl))); (try simp only [Act.put, List.setIfInBounds_toArray, List.set_cons_zero, List.set_cons_succ, List.getElem_toArray, List.getElem_cons_zero]); refine wpAnyH_take (i := 1) (oi := _) (v := ?_) rfl (by kernel_rfl) (by kernel_rfl) (by kernel_rfl) (fun _ _ _ h => h) (Or.inl ⟨by rfl, ?_⟩) (by assumption) ?_; rotate_left; (focus (intro w hSw; (try dsimp only at hSw); go_simp; (try with_reducible rfl))); (try simp only [Act.put, List.setIfInBounds_toArray, List.set_cons_zero, List.set_cons_succ, List.getElem_toArray, List.getElem_cons_zero, List.getElem_cons_succ]); refine wpAnyH_take (i := 2) (oi := _) (v := ?_) rfl (by kernel_rfl) (by kernel_rfl) (by kernel_rfl) (fun _ _ _ h => h) (Or.inl ⟨by rfl, ?_⟩) (by assumption) ?_; rotate_left; (focus (intro w hSw; (try dsimp only at hSw); go_simp; (try with_reducible rfl))); (try simp only [Act.put, List.setIfInBounds_toArray, List.set_cons_zero, List.set_cons_succ, List.getElem_toArray, List.getElem_cons_zero, List.getElem_cons_succ]); refine wpAnyH_ready (rs := [3]) (by kernel_rfl) (by simp) ?_; refine AllReadyH.cons (o := _) rfl (fun K hK => ?_) AllReadyH.nil; (try simp only [List.getElem_toArray, List.getElem_cons_zero, List.getElem_cons_succ]); go_simp; (first | (go_at_call 38; refine (rPair2_any E F a ss.length cap p _ (by omega)).mono ?_; rintro e w98 ⟨rfl, g98⟩) | (go_at_call 37; refine (rtold_any E F _ ss _ _ (Hv.out.grow (gW.trans (by first | assumption | (go_split_ands; assumption) | exact (Grow.refl _).drew)))).mono ?_; rintro e w99 ⟨ov, rfl, hs99, g99⟩; rw [He.out]; obtain ⟨oa, oc, rfl, _, _, _⟩ := id hs99; have Hs99 := Lib.hid hs99; clear hs99)); (try (go_wp2_with fail)); refine hK.out _ _ ?_ (fun hHeld => ?_); (focus ((try dsimp only); refine (fun (hG : Grow W _) => ⟨hG, Grow.keeps hG (by assumption), Grow.keeps hG (by assumption), Grow.keeps hG (by assumption)⟩) ?_; (try go_split_ands); first | assumption | exact Grow.trans (by assumption) (by assumption) | exact Below.trans (by assumption) (by assumption))); clear hK K; (try simp only [Act.put, List.setIfInBounds_toArray, List.set_cons_zero, List.set_cons_succ, List.getElem_toArray, List.getElem_cons_zero, List.getElem_cons_succ]); refine wpAnyH_ready (rs := [4]) (by kernel_rfl) (by simp) ?_; refine AllReadyH.cons (o := _) rfl (fun K hK => ?_) AllReadyH.nil; (try simp only [List.getElem_toArray, List.getElem_cons_zero, List.getElem_cons_succ]); go_simp; (first | (go_at_call 38; refine (rPair2_any E F a ss.length cap p _ (by omega)).mono ?_; rintro e w98 ⟨rfl, g98⟩) | (go_at_call 37; refine (rtold_any E F _ ss _ _ (Hv.out.grow (gW.trans (by first | assumption | (go_split_ands; assumption) | exact (Grow.refl _).drew)))).mono ?_; rintro e w99 ⟨ov, rfl, hs99, g99⟩; rw [He.out]; obtain ⟨oa, oc, rfl, _, _, _⟩ := id hs99; have Hs99 := Lib.hid hs99; clear hs99)); (try (go_wp2_with fail)); refine hK.out _ _ ?_ (fun hHeld => ?_); (focus ((try dsimp only); refine (fun (hG : Grow W _) => ⟨hG, Grow.keeps hG (by assumption), Grow.keeps hG (by assumption), Grow.keeps hG (by assumption)⟩) ?_; (try go_split_ands); first | assumption | exact Grow.trans (by assumption) (by assumption) | exact Below.trans (by assumption) (by assumption))); clear hK K; (try simp only [Act.put, List.setIfInBounds_toArray, List.set_cons_zero, List.set_cons_succ, List.getElem_toArray, List.getElem_cons_zero, List.getElem_cons_succ]); refine wpAnyH_take (i := 5) (oi := _) (v := ?_) rfl (by kernel_rfl) (by kernel_rfl) (by kernel_rfl) (fun _ _ _ h => h) (Or.inl ⟨by rfl, ?_⟩) (by assumption) ?_; rotate_left; (focus (intro w hSw; (try dsimp only at hSw); go_simp; (try with_reducible rfl))); (try simp only [Act.put, List.setIfInBounds_toArray, List.set_cons_zero, List.set_cons_succ, List.getElem_toArray, List.getElem_cons_zero, List.getElem_cons_succ]); refine wpAnyH_take (i := 6) (oi := _) (v := ?_) rfl (by kernel_rfl) (by kernel_rfl) (by kernel_rfl) (fun _ _ _ h => h) (Or.inl ⟨by rfl, ?_⟩) (by assumption) ?_; rotate_left; (focus (intro w hSw; (try dsimp only at hSw); go_simp; (try with_reducible rfl))); (try simp only [Act.put, List.setIfInBounds_toArray, List.set_cons_zero, List.set_cons_succ, List.getElem_toArray, List.getElem_cons_zero, List.getElem_cons_succ]); refine wpAnyH_take (i := 7) (oi := _) (v := ?_) rfl (by kernel_rfl) (by kernel_rfl) (by kernel_rfl) (fun _ _ _ h => h) (Or.inl ⟨by rfl, ?_⟩) (by assumption) ?_; rotate_left; (focus (intro w hSw; (try dsimp only at hSw); go_simp; (try with_reducible rfl))); (try simp only [Act.put, List.setIfInBounds_toArray, List.set_cons_zero, List.set_cons_succ, List.getElem_toArray, List.getElem_cons_zero, List.getElem_cons_succ]); refine wpAnyH_take (i := 8) (oi := _) (v := ?_) rfl (by kernel_rfl) (by kernel_rfl) (by kernel_rfl) (fun _ _ _ h => h) (Or.inl ⟨by rfl, ?_⟩) (by assumption) ?_; rotate_left; (focus (intro w hSw; (try dsimp only at hSw); go_simp; (try with_reducible rfl))); (try simp only [Act.put, List.setIfInBounds_toArray, List.set_cons_zero, List.set_cons_succ, List.getElem_toArray, List.getElem_cons_zero, List.getElem_cons_succ]); refine wpAnyH_take (i := 9) (oi := _) (v := ?_) rfl (by kernel_rfl) (by kernel_rfl) (by kernel_rfl) (fun _ _ _ h => h) (Or.inl ⟨by rfl, ?_⟩) (by assumption) ?_; rotate_left; (focus (intro w hSw; (try dsimp only at hSw); go_simp; (try with_reducible rfl))); (try simp only [Act.put, List.setIfInBounds_toArray, List.set_cons_zero, List.set_cons_succ, List.getElem_toArray, List.getElem_cons_zero, List.getElem_cons_succ]); refine wpAnyH_done (by kernel_rfl) ?_ _)
    have G5 : Grow W w99 := hHeld.1
    clear hHeld
    have u0 := G5.keeps t0
    have u1 := G5.keeps t1
    have uf : ∀ q, w99.frozen? ⟨T4, q, none⟩ = false := fun q => (G5.marks _ _ hlW).trans (tf q)
    obtain ⟨r0, r1, _, _⟩ := cells2 (x := .int .i64 0) (y := .int .i64 0) u0 u1
    have hl5 := lt_of_cell u0
    go_wp2_with fail
    exact bodyPost_ret (v := .tuple #[.agg #[.int .i64 0, .int .i64 0], .int .i64 c]) (by simp [results, Tryz.results8, go_sem, r0, r1]) rfl ⟨by rw [Hbad.out, He.out], Below.setCell (p := ⟨T4, 1, none⟩) (Below.setCell (p := ⟨T4, 0, none⟩) (gW.trans G5) (by have := HT4.out; have := HB.out; show w.heap.size ≤ T4; omega) _) (by have := HT4.out; have := HB.out; show w.heap.size ≤ T4; omega) _⟩
set_option maxRecDepth 100000 in
set_option maxHeartbeats 2000000 in
theorem rPlace_any (E F p : Int) (v : Value) (ss : List (List Int)) (w : World) (hv : IsSheets w v ss) :
    Calls Tryz.prog 12 #[.agg #[.int .i64 E, .int .i64 F, v], .int .i64 p] w fun e w' => e = .returned (.tuple #[.agg #[.int .i64 (placeV E F ss p).1, .int .i64 (placeV E F ss p).2], .int .i64 (errOf E F ss (inB p 0 (ss.length - 1)))]) ∧ Grow w w' := by
  obtain ⟨a, cap, rfl, hcap, hlen, hrow⟩ := id hv
  have Hv := Lib.hid hv
  clear hv hrow
  obtain ⟨c, hc⟩ : ∃ c, errOf E F ss (inB p 0 (ss.length - 1)) = c := ⟨_, rfl⟩
  have He := Lib.hid hc
  by_cases h0 : c = 0
  · subst h0
    obtain ⟨hval, hok, hfe⟩ := errOf_all hc
    have hfeas := feasB_iff.1 hfe
    have hkl := clocks_len E ss
    have hLn := truths_len hval
    have hpos : 0 < (truthsL E ss).length := List.length_pos_iff.2 (truths_ne.2 hfe)
    have hto : toldL E F ss (inB p 0 (ss.length - 1)) = truthsL E ss := by unfold toldL; rw [if_pos hc]
    have hTr : ∀ t ∈ truthsL E ss, t.length = ss.length ∧ Tr (clocksOf E ss) t := fun t ht => ⟨by rw [(mem_truths.1 ht).1, hkl], mem_truths.1 ht⟩
    obtain ⟨_, hn6, hF6, _⟩ := valid_parts hval
    obtain ⟨L, hL⟩ : ∃ z, truthsL E ss = z := ⟨_, rfl⟩
    rw [hL] at hLn hpos hto hTr
    have Hto := Lib.hid hto
    have HTr := Lib.hid hTr
    have HL := Lib.hid hL
    have Hfeas := Lib.hid hfeas
    have Hkl := Lib.hid hkl
    have hin := inB_true.1 hok
    obtain ⟨k, rfl⟩ : ∃ k : Nat, p = k := ⟨p.toNat, by omega⟩
    have hks : k < ss.length := by omega
    have hh := place_hull (E := E) hfeas (p := k) (by rw [hkl]; exact hks)
    rw [hL] at hh
    have hval2 : placeV E F ss (k : Int) = hullL (L.map fun t => (placeN t k : Int)) := by unfold placeV; rw [if_pos hc, Int.toNat_natCast, hh]
    have Hval2 := Lib.hid hval2
    clear hc hto hTr hL hfeas hkl hok hfe hval hh hval2 hin
    go_enter Tryz.func12, Tryz.ntmps12
    go_upto_region 1 with fail
    have c0 : (w.alloc (.cells #[.int .i64 E, .int .i64 F, .slice a ss.length cap] 24)).cell? ⟨w.heap.size, 0, none⟩ = some (.int .i64 E) := cell_new rfl rfl
    have c1 : (w.alloc (.cells #[.int .i64 E, .int .i64 F, .slice a ss.length cap] 24)).cell? ⟨w.heap.size, 1, none⟩ = some (.int .i64 F) := cell_new rfl rfl
    have c2 : (w.alloc (.cells #[.int .i64 E, .int .i64 F, .slice a ss.length cap] 24)).cell? ⟨w.heap.size, 2, none⟩ = some (.slice a ss.length cap) := cell_new rfl rfl
    have gX : Grow w (w.alloc (.cells #[.int .i64 E, .int .i64 F, .slice a ss.length cap] 24)) := (Grow.refl w).alloc _
    obtain ⟨X, hX⟩ : ∃ z, w.alloc (.cells #[.int .i64 E, .int .i64 F, .slice a ss.length cap] 24) = z := ⟨_, rfl⟩
    obtain ⟨B, hB⟩ : ∃ z, w.heap.size = z := ⟨_, rfl⟩
    rw [hX] at c0 c1 c2 gX
    rw [hB] at c0 c1 c2
    have hXs : X.heap.size = B + 1 := by rw [← hX, ← hB]; simp
    (try rw [hX])
    (try rw [hB])
    have HB := Lib.hid hB
    clear hX hB
    have t0 : (X.alloc (.cells #[.int .i64 0, .int .i64 0] 28)).cell? ⟨B + 1, 0, none⟩ = some (.int .i64 0) := cell_new hXs.symm rfl
    have t1 : (X.alloc (.cells #[.int .i64 0, .int .i64 0] 28)).cell? ⟨B + 1, 1, none⟩ = some (.int .i64 0) := cell_new hXs.symm rfl
    have tf : ∀ q, (X.alloc (.cells #[.int .i64 0, .int .i64 0] 28)).frozen? ⟨B + 1, q, none⟩ = false := fun q => hot_new hXs.symm
    have gW := gX.alloc (.cells #[.int .i64 0, .int .i64 0] 28)
    have b0 := Grow.keepA c0 (.cells #[.int .i64 0, .int .i64 0] 28)
    have b1 := Grow.keepA c1 (.cells #[.int .i64 0, .int .i64 0] 28)
    have b2 := Grow.keepA c2 (.cells #[.int .i64 0, .int .i64 0] 28)
    obtain ⟨W, hW⟩ : ∃ z, X.alloc (.cells #[.int .i64 0, .int .i64 0] 28) = z := ⟨_, rfl⟩
    obtain ⟨T4, hT4⟩ : ∃ z, B + 1 = z := ⟨_, rfl⟩
    rw [hW] at t0 t1 tf gW b0 b1 b2
    rw [hT4] at t0 t1 tf
    (try rw [hW])
    (try rw [hT4])
    have HT4 := Lib.hid hT4
    have hBT : B ≠ T4 := by omega
    have hlW := lt_of_cell t0
    have hlB := lt_of_cell b0
    clear hW hT4 c0 c1 c2 hXs gX
    have hsub : IntKind.i64.wrap ((ss.length : Int) - 1) = (ss.length : Int) - 1 := IntWalk.i64_in _ (by omega)
    (refine wp_region_held_drew (S := fun Wx => Grow W Wx ∧ Wx.cell? ⟨B, 0, none⟩ = some (.int .i64 E) ∧ Wx.cell? ⟨B, 1, none⟩ = some (.int .i64 F) ∧ Wx.cell? ⟨B, 2, none⟩ = some (.slice a ss.length cap)) (by kernel_rfl) ⟨(Below.refl _ _).drew, Grow.keeps (Below.refl _ _).drew (by assumption), Grow.keeps (Below.refl _ _).drew (by assumption), Grow.keeps (Below.refl _ _).drew (by assumption)⟩ (fun hHeld => ?_); refine wpAnyH_take (i := 0) (oi := _) (v := ?_) rfl (by kernel_rfl) (by kernel_rfl) (by kernel_rfl) (fun _ _ _ h => h) (Or.inl ⟨by rfl, ?_⟩) (by assumption) ?_; rotate_left; (focus (intro w hSw; (try dsimp only at hSw); go_simp; (try with_reducible rfl))); (try simp only [Act.put, List.setIfInBounds_toArray, List.set_cons_zero, List.set_cons_succ, List.getElem_toArray, List.getElem_cons_zero]); refine wpAnyH_take (i := 1) (oi := _) (v := ?_) rfl (by kernel_rfl) (by kernel_rfl) (by kernel_rfl) (fun _ _ _ h => h) (Or.inl ⟨by rfl, ?_⟩) (by assumption) ?_; rotate_left; (focus (intro w hSw; (try dsimp only at hSw); go_simp; (try with_reducible rfl))); (try simp only [Act.put, List.setIfInBounds_toArray, List.set_cons_zero, List.set_cons_succ, List.getElem_toArray, List.getElem_cons_zero, List.getElem_cons_succ]); refine wpAnyH_take (i := 2) (oi := _) (v := ?_) rfl (by kernel_rfl) (by kernel_rfl) (by kernel_rfl) (fun _ _ _ h => h) (Or.inl ⟨by rfl, ?_⟩) (by assumption) ?_; rotate_left; (focus (intro w hSw; (try dsimp only at hSw); go_simp; (try with_reducible rfl))); (try simp only [Act.put, List.setIfInBounds_toArray, List.set_cons_zero, List.set_cons_succ, List.getElem_toArray, List.getElem_cons_zero, List.getElem_cons_succ]); refine wpAnyH_ready (rs := [3]) (by kernel_rfl) (by simp) ?_; refine AllReadyH.cons (o := _) rfl (fun K hK => ?_) AllReadyH.nil; (try simp only [List.getElem_toArray, List.getElem_cons_zero, List.getElem_cons_succ]); go_simp; (first | (go_at_call 38; refine (rPair2_any E F a ss.length cap k _ (by omega)).mono ?_; rintro e w98 ⟨rfl, g98⟩) | (go_at_call 37; refine (rtold_any E F _ ss _ _ (Hv.out.grow (gW.trans (by first | assumption | (go_split_ands; assumption) | exact (Grow.refl _).drew)))).mono ?_; rintro e w99 ⟨ov, rfl, hs99, g99⟩; rw [He.out]; obtain ⟨oa, oc, rfl, _, _, _⟩ := id hs99; have Hs99 := Lib.hid hs99; clear hs99)); (try (go_wp2_with fail)); refine hK.out _ _ ?_ (fun hHeld => ?_); (focus ((try dsimp only); refine (fun (hG : Grow W _) => ⟨hG, Grow.keeps hG (by assumption), Grow.keeps hG (by assumption), Grow.keeps hG (by assumption)⟩) ?_; (try go_split_ands); first | assumption | exact Grow.trans (by assumption) (by assumption) | exact Below.trans (by assumption) (by assumption))); clear hK K; (try simp only [Act.put, List.setIfInBounds_toArray, List.set_cons_zero, List.set_cons_succ, List.getElem_toArray, List.getElem_cons_zero, List.getElem_cons_succ]); refine wpAnyH_ready (rs := [4]) (by kernel_rfl) (by simp) ?_; refine AllReadyH.cons (o := _) rfl (fun K hK => ?_) AllReadyH.nil; (try simp only [List.getElem_toArray, List.getElem_cons_zero, List.getElem_cons_succ]); go_simp; (first | (go_at_call 38; refine (rPair2_any E F a ss.length cap k _ (by omega)).mono ?_; rintro e w98 ⟨rfl, g98⟩) | (go_at_call 37; refine (rtold_any E F _ ss _ _ (Hv.out.grow (gW.trans (by first | assumption | (go_split_ands; assumption) | exact (Grow.refl _).drew)))).mono ?_; rintro e w99 ⟨ov, rfl, hs99, g99⟩; rw [He.out]; obtain ⟨oa, oc, rfl, _, _, _⟩ := id hs99; have Hs99 := Lib.hid hs99; clear hs99)); (try (go_wp2_with fail)); refine hK.out _ _ ?_ (fun hHeld => ?_); (focus ((try dsimp only); refine (fun (hG : Grow W _) => ⟨hG, Grow.keeps hG (by assumption), Grow.keeps hG (by assumption), Grow.keeps hG (by assumption)⟩) ?_; (try go_split_ands); first | assumption | exact Grow.trans (by assumption) (by assumption) | exact Below.trans (by assumption) (by assumption))); clear hK K; (try simp only [Act.put, List.setIfInBounds_toArray, List.set_cons_zero, List.set_cons_succ, List.getElem_toArray, List.getElem_cons_zero, List.getElem_cons_succ]); refine wpAnyH_take (i := 5) (oi := _) (v := ?_) rfl (by kernel_rfl) (by kernel_rfl) (by kernel_rfl) (fun _ _ _ h => h) (Or.inl ⟨by rfl, ?_⟩) (by assumption) ?_; rotate_left; (focus (intro w hSw; (try dsimp only at hSw); go_simp; (try with_reducible rfl))); (try simp only [Act.put, List.setIfInBounds_toArray, List.set_cons_zero, List.set_cons_succ, List.getElem_toArray, List.getElem_cons_zero, List.getElem_cons_succ]); refine wpAnyH_take (i := 6) (oi := _) (v := ?_) rfl (by kernel_rfl) (by kernel_rfl) (by kernel_rfl) (fun _ _ _ h => h) (Or.inl ⟨by rfl, ?_⟩) (by assumption) ?_; rotate_left; (focus (intro w hSw; (try dsimp only at hSw); go_simp; (try with_reducible rfl))); (try simp only [Act.put, List.setIfInBounds_toArray, List.set_cons_zero, List.set_cons_succ, List.getElem_toArray, List.getElem_cons_zero, List.getElem_cons_succ]); refine wpAnyH_take (i := 7) (oi := _) (v := ?_) rfl (by kernel_rfl) (by kernel_rfl) (by kernel_rfl) (fun _ _ _ h => h) (Or.inl ⟨by rfl, ?_⟩) (by assumption) ?_; rotate_left; (focus (intro w hSw; (try dsimp only at hSw); go_simp; (try with_reducible rfl))); (try simp only [Act.put, List.setIfInBounds_toArray, List.set_cons_zero, List.set_cons_succ, List.getElem_toArray, List.getElem_cons_zero, List.getElem_cons_succ]); refine wpAnyH_take (i := 8) (oi := _) (v := ?_) rfl (by kernel_rfl) (by kernel_rfl) (by kernel_rfl) (fun _ _ _ h => h) (Or.inl ⟨by rfl, ?_⟩) (by assumption) ?_; rotate_left; (focus (intro w hSw; (try dsimp only at hSw); go_simp; (try with_reducible rfl))); (try simp only [Act.put, List.setIfInBounds_toArray, List.set_cons_zero, List.set_cons_succ, List.getElem_toArray, List.getElem_cons_zero, List.getElem_cons_succ]); refine wpAnyH_take (i := 9) (oi := _) (v := ?_) rfl (by kernel_rfl) (by kernel_rfl) (by kernel_rfl) (fun _ _ _ h => h) (Or.inl ⟨by rfl, ?_⟩) (by assumption) ?_; rotate_left; (focus (intro w hSw; (try dsimp only at hSw); go_simp; (try with_reducible rfl))); (try simp only [Act.put, List.setIfInBounds_toArray, List.set_cons_zero, List.set_cons_succ, List.getElem_toArray, List.getElem_cons_zero, List.getElem_cons_succ]); refine wpAnyH_done (by kernel_rfl) ?_ _)
    rw [Hto.out] at Hs99
    have GR : Grow W w99 := hHeld.1
    clear hHeld
    rw [Hto.out]
    obtain ⟨⟨x, y⟩, hxy⟩ : ∃ z, hullL (L.map fun t => (placeN t k : Int)) = z := ⟨_, rfl⟩
    have Hx : Hid (placeV E F ss (k : Int) = (x, y)) := Hval2.out.trans hxy
    have Hxy := Lib.hid hxy
    have hs9 : IsSheets w99 (.slice oa L.length oc) L := Hs99.out
    have HS9 := Lib.hid hs9
    clear hxy hsub hs9
    go_wp2_with first | (go_at_call 49; refine (rplaces_any _ L k _ HS9.out (fun t ht => by rw [(HTr.out t ht).1]; exact hks) (by omega)).mono ?_; rintro e w4 ⟨pv, rfl, hI, g4⟩; have HI := Lib.hid hI; clear hI) | (go_at_call 39; refine (rhull_any _ _ _ HI.out (by simpa using hpos)).mono ?_; rw [Hxy.out]; rintro e w5 ⟨rfl, g5⟩; have G5 := (GR.trans g4).trans g5; have u0 := G5.keeps t0; have u1 := G5.keeps t1; have uf : ∀ q, w5.frozen? ⟨T4, q, none⟩ = false := (fun q => (G5.marks _ _ hlW).trans (tf q)); have hl5 := lt_of_cell u0)
    obtain ⟨r0, r1, _, _⟩ := cells2 (x := .int .i64 x) (y := .int .i64 y) u0 u1
    exact bodyPost_ret (v := .tuple #[.agg #[.int .i64 x, .int .i64 y], .int .i64 0]) (by simp [results, Tryz.results12, go_sem, r0, r1]) rfl ⟨by rw [Hx.out, He.out], Below.setCell (p := ⟨T4, 1, none⟩) (Below.setCell (p := ⟨T4, 0, none⟩) (gW.trans G5) (by have := HT4.out; have := HB.out; show w.heap.size ≤ T4; omega) _) (by have := HT4.out; have := HB.out; show w.heap.size ≤ T4; omega) _⟩
  · have hne : (c != 0) = true := by simpa using h0
    have hbad : placeV E F ss p = (0, 0) := if_neg (by rw [hc]; exact h0)
    have Hbad := Lib.hid hbad
    clear hc hbad
    go_enter Tryz.func12, Tryz.ntmps12
    go_upto_region 1 with fail
    have c0 : (w.alloc (.cells #[.int .i64 E, .int .i64 F, .slice a ss.length cap] 24)).cell? ⟨w.heap.size, 0, none⟩ = some (.int .i64 E) := cell_new rfl rfl
    have c1 : (w.alloc (.cells #[.int .i64 E, .int .i64 F, .slice a ss.length cap] 24)).cell? ⟨w.heap.size, 1, none⟩ = some (.int .i64 F) := cell_new rfl rfl
    have c2 : (w.alloc (.cells #[.int .i64 E, .int .i64 F, .slice a ss.length cap] 24)).cell? ⟨w.heap.size, 2, none⟩ = some (.slice a ss.length cap) := cell_new rfl rfl
    have gX : Grow w (w.alloc (.cells #[.int .i64 E, .int .i64 F, .slice a ss.length cap] 24)) := (Grow.refl w).alloc _
    obtain ⟨X, hX⟩ : ∃ z, w.alloc (.cells #[.int .i64 E, .int .i64 F, .slice a ss.length cap] 24) = z := ⟨_, rfl⟩
    obtain ⟨B, hB⟩ : ∃ z, w.heap.size = z := ⟨_, rfl⟩
    rw [hX] at c0 c1 c2 gX
    rw [hB] at c0 c1 c2
    have hXs : X.heap.size = B + 1 := by rw [← hX, ← hB]; simp
    (try rw [hX])
    (try rw [hB])
    have HB := Lib.hid hB
    clear hX hB
    have t0 : (X.alloc (.cells #[.int .i64 0, .int .i64 0] 28)).cell? ⟨B + 1, 0, none⟩ = some (.int .i64 0) := cell_new hXs.symm rfl
    have t1 : (X.alloc (.cells #[.int .i64 0, .int .i64 0] 28)).cell? ⟨B + 1, 1, none⟩ = some (.int .i64 0) := cell_new hXs.symm rfl
    have tf : ∀ q, (X.alloc (.cells #[.int .i64 0, .int .i64 0] 28)).frozen? ⟨B + 1, q, none⟩ = false := fun q => hot_new hXs.symm
    have gW := gX.alloc (.cells #[.int .i64 0, .int .i64 0] 28)
    have b0 := Grow.keepA c0 (.cells #[.int .i64 0, .int .i64 0] 28)
    have b1 := Grow.keepA c1 (.cells #[.int .i64 0, .int .i64 0] 28)
    have b2 := Grow.keepA c2 (.cells #[.int .i64 0, .int .i64 0] 28)
    obtain ⟨W, hW⟩ : ∃ z, X.alloc (.cells #[.int .i64 0, .int .i64 0] 28) = z := ⟨_, rfl⟩
    obtain ⟨T4, hT4⟩ : ∃ z, B + 1 = z := ⟨_, rfl⟩
    rw [hW] at t0 t1 tf gW b0 b1 b2
    rw [hT4] at t0 t1 tf
    (try rw [hW])
    (try rw [hT4])
    have HT4 := Lib.hid hT4
    have hBT : B ≠ T4 := by omega
    have hlW := lt_of_cell t0
    have hlB := lt_of_cell b0
    clear hW hT4 c0 c1 c2 hXs gX
    have hsub : IntKind.i64.wrap ((ss.length : Int) - 1) = (ss.length : Int) - 1 := IntWalk.i64_in _ (by omega)
    (refine wp_region_held_drew (S := fun Wx => Grow W Wx ∧ Wx.cell? ⟨B, 0, none⟩ = some (.int .i64 E) ∧ Wx.cell? ⟨B, 1, none⟩ = some (.int .i64 F) ∧ Wx.cell? ⟨B, 2, none⟩ = some (.slice a ss.length cap)) (by kernel_rfl) ⟨(Below.refl _ _).drew, Grow.keeps (Below.refl _ _).drew (by assumption), Grow.keeps (Below.refl _ _).drew (by assumption), Grow.keeps (Below.refl _ _).drew (by assumption)⟩ (fun hHeld => ?_); refine wpAnyH_take (i := 0) (oi := _) (v := ?_) rfl (by kernel_rfl) (by kernel_rfl) (by kernel_rfl) (fun _ _ _ h => h) (Or.inl ⟨by rfl, ?_⟩) (by assumption) ?_; rotate_left; (focus (intro w hSw; (try dsimp only at hSw); go_simp; (try with_reducible rfl))); (try simp only [Act.put, List.setIfInBounds_toArray, List.set_cons_zero, List.set_cons_succ, List.getElem_toArray, List.getElem_cons_zero]); refine wpAnyH_take (i := 1) (oi := _) (v := ?_) rfl (by kernel_rfl) (by kernel_rfl) (by kernel_rfl) (fun _ _ _ h => h) (Or.inl ⟨by rfl, ?_⟩) (by assumption) ?_; rotate_left; (focus (intro w hSw; (try dsimp only at hSw); go_simp; (try with_reducible rfl))); (try simp only [Act.put, List.setIfInBounds_toArray, List.set_cons_zero, List.set_cons_succ, List.getElem_toArray, List.getElem_cons_zero, List.getElem_cons_succ]); refine wpAnyH_take (i := 2) (oi := _) (v := ?_) rfl (by kernel_rfl) (by kernel_rfl) (by kernel_rfl) (fun _ _ _ h => h) (Or.inl ⟨by rfl, ?_⟩) (by assumption) ?_; rotate_left; (focus (intro w hSw; (try dsimp only at hSw); go_simp; (try with_reducible rfl))); (try simp only [Act.put, List.setIfInBounds_toArray, List.set_cons_zero, List.set_cons_succ, List.getElem_toArray, List.getElem_cons_zero, List.getElem_cons_succ]); refine wpAnyH_ready (rs := [3]) (by kernel_rfl) (by simp) ?_; refine AllReadyH.cons (o := _) rfl (fun K hK => ?_) AllReadyH.nil; (try simp only [List.getElem_toArray, List.getElem_cons_zero, List.getElem_cons_succ]); go_simp; (first | (go_at_call 38; refine (rPair2_any E F a ss.length cap p _ (by omega)).mono ?_; rintro e w98 ⟨rfl, g98⟩) | (go_at_call 37; refine (rtold_any E F _ ss _ _ (Hv.out.grow (gW.trans (by first | assumption | (go_split_ands; assumption) | exact (Grow.refl _).drew)))).mono ?_; rintro e w99 ⟨ov, rfl, hs99, g99⟩; rw [He.out]; obtain ⟨oa, oc, rfl, _, _, _⟩ := id hs99; have Hs99 := Lib.hid hs99; clear hs99)); (try (go_wp2_with fail)); refine hK.out _ _ ?_ (fun hHeld => ?_); (focus ((try dsimp only); refine (fun (hG : Grow W _) => ⟨hG, Grow.keeps hG (by assumption), Grow.keeps hG (by assumption), Grow.keeps hG (by assumption)⟩) ?_; (try go_split_ands); first | assumption | exact Grow.trans (by assumption) (by assumption) | exact Below.trans (by assumption) (by assumption))); clear hK K; (try simp only [Act.put, List.setIfInBounds_toArray, List.set_cons_zero, List.set_cons_succ, List.getElem_toArray, List.getElem_cons_zero, List.getElem_cons_succ]); refine wpAnyH_ready (rs := [4]) (by kernel_rfl) (by simp) ?_; refine AllReadyH.cons (o := _) rfl (fun K hK => ?_) AllReadyH.nil; (try simp only [List.getElem_toArray, List.getElem_cons_zero, List.getElem_cons_succ]); go_simp; (first | (go_at_call 38; refine (rPair2_any E F a ss.length cap p _ (by omega)).mono ?_; rintro e w98 ⟨rfl, g98⟩) | (go_at_call 37; refine (rtold_any E F _ ss _ _ (Hv.out.grow (gW.trans (by first | assumption | (go_split_ands; assumption) | exact (Grow.refl _).drew)))).mono ?_; rintro e w99 ⟨ov, rfl, hs99, g99⟩; rw [He.out]; obtain ⟨oa, oc, rfl, _, _, _⟩ := id hs99; have Hs99 := Lib.hid hs99; clear hs99)); (try (go_wp2_with fail)); refine hK.out _ _ ?_ (fun hHeld => ?_); (focus ((try dsimp only); refine (fun (hG : Grow W _) => ⟨hG, Grow.keeps hG (by assumption), Grow.keeps hG (by assumption), Grow.keeps hG (by assumption)⟩) ?_; (try go_split_ands); first | assumption | exact Grow.trans (by assumption) (by assumption) | exact Below.trans (by assumption) (by assumption))); clear hK K; (try simp only [Act.put, List.setIfInBounds_toArray, List.set_cons_zero, List.set_cons_succ, List.getElem_toArray, List.getElem_cons_zero, List.getElem_cons_succ]); refine wpAnyH_take (i := 5) (oi := _) (v := ?_) rfl (by kernel_rfl) (by kernel_rfl) (by kernel_rfl) (fun _ _ _ h => h) (Or.inl ⟨by rfl, ?_⟩) (by assumption) ?_; rotate_left; (focus (intro w hSw; (try dsimp only at hSw); go_simp; (try with_reducible rfl))); (try simp only [Act.put, List.setIfInBounds_toArray, List.set_cons_zero, List.set_cons_succ, List.getElem_toArray, List.getElem_cons_zero, List.getElem_cons_succ]); refine wpAnyH_take (i := 6) (oi := _) (v := ?_) rfl (by kernel_rfl) (by kernel_rfl) (by kernel_rfl) (fun _ _ _ h => h) (Or.inl ⟨by rfl, ?_⟩) (by assumption) ?_; rotate_left; (focus (intro w hSw; (try dsimp only at hSw); go_simp; (try with_reducible rfl))); (try simp only [Act.put, List.setIfInBounds_toArray, List.set_cons_zero, List.set_cons_succ, List.getElem_toArray, List.getElem_cons_zero, List.getElem_cons_succ]); refine wpAnyH_take (i := 7) (oi := _) (v := ?_) rfl (by kernel_rfl) (by kernel_rfl) (by kernel_rfl) (fun _ _ _ h => h) (Or.inl ⟨by rfl, ?_⟩) (by assumption) ?_; rotate_left; (focus (intro w hSw; (try dsimp only at hSw); go_simp; (try with_reducible rfl))); (try simp only [Act.put, List.setIfInBounds_toArray, List.set_cons_zero, List.set_cons_succ, List.getElem_toArray, List.getElem_cons_zero, List.getElem_cons_succ]); refine wpAnyH_take (i := 8) (oi := _) (v := ?_) rfl (by kernel_rfl) (by kernel_rfl) (by kernel_rfl) (fun _ _ _ h => h) (Or.inl ⟨by rfl, ?_⟩) (by assumption) ?_; rotate_left; (focus (intro w hSw; (try dsimp only at hSw); go_simp; (try with_reducible rfl))); (try simp only [Act.put, List.setIfInBounds_toArray, List.set_cons_zero, List.set_cons_succ, List.getElem_toArray, List.getElem_cons_zero, List.getElem_cons_succ]); refine wpAnyH_take (i := 9) (oi := _) (v := ?_) rfl (by kernel_rfl) (by kernel_rfl) (by kernel_rfl) (fun _ _ _ h => h) (Or.inl ⟨by rfl, ?_⟩) (by assumption) ?_; rotate_left; (focus (intro w hSw; (try dsimp only at hSw); go_simp; (try with_reducible rfl))); (try simp only [Act.put, List.setIfInBounds_toArray, List.set_cons_zero, List.set_cons_succ, List.getElem_toArray, List.getElem_cons_zero, List.getElem_cons_succ]); refine wpAnyH_done (by kernel_rfl) ?_ _)
    have G5 : Grow W w99 := hHeld.1
    clear hHeld
    have u0 := G5.keeps t0
    have u1 := G5.keeps t1
    have uf : ∀ q, w99.frozen? ⟨T4, q, none⟩ = false := fun q => (G5.marks _ _ hlW).trans (tf q)
    obtain ⟨r0, r1, _, _⟩ := cells2 (x := .int .i64 0) (y := .int .i64 0) u0 u1
    have hl5 := lt_of_cell u0
    go_wp2_with fail
    exact bodyPost_ret (v := .tuple #[.agg #[.int .i64 0, .int .i64 0], .int .i64 c]) (by simp [results, Tryz.results12, go_sem, r0, r1]) rfl ⟨by rw [Hbad.out, He.out], Below.setCell (p := ⟨T4, 1, none⟩) (Below.setCell (p := ⟨T4, 0, none⟩) (gW.trans G5) (by have := HT4.out; have := HB.out; show w.heap.size ≤ T4; omega) _) (by have := HT4.out; have := HB.out; show w.heap.size ≤ T4; omega) _⟩
set_option maxRecDepth 100000 in
set_option maxHeartbeats 2000000 in
theorem rFinal_any (E F p : Int) (v : Value) (ss : List (List Int)) (w : World) (hv : IsSheets w v ss) :
    Calls Tryz.prog 14 #[.agg #[.int .i64 E, .int .i64 F, v], .int .i64 p] w fun e w' => e = .returned (.tuple #[.int .i64 (finalE E F ss p), .int .i64 (errOf E F ss (inB p 0 (ss.length - 1)))]) ∧ Grow w w' := by
  obtain ⟨a, cap, rfl, hcap, hlen, hrow⟩ := id hv
  have Hv := Lib.hid hv
  clear hv hrow
  obtain ⟨c, hc⟩ : ∃ c, errOf E F ss (inB p 0 (ss.length - 1)) = c := ⟨_, rfl⟩
  have He := Lib.hid hc
  by_cases h0 : c = 0
  · subst h0
    obtain ⟨hval, hok, hfe⟩ := errOf_all hc
    have hfeas := feasB_iff.1 hfe
    have hkl := clocks_len E ss
    have hLn := truths_len hval
    have hpos : 0 < (truthsL E ss).length := List.length_pos_iff.2 (truths_ne.2 hfe)
    have hto : toldL E F ss (inB p 0 (ss.length - 1)) = truthsL E ss := by unfold toldL; rw [if_pos hc]
    have hTr : ∀ t ∈ truthsL E ss, t.length = ss.length ∧ Tr (clocksOf E ss) t := fun t ht => ⟨by rw [(mem_truths.1 ht).1, hkl], mem_truths.1 ht⟩
    obtain ⟨_, hn6, hF6, _⟩ := valid_parts hval
    obtain ⟨L, hL⟩ : ∃ z, truthsL E ss = z := ⟨_, rfl⟩
    rw [hL] at hLn hpos hto hTr
    have Hto := Lib.hid hto
    have HTr := Lib.hid hTr
    have HL := Lib.hid hL
    have Hfeas := Lib.hid hfeas
    have Hkl := Lib.hid hkl
    have hin := inB_true.1 hok
    obtain ⟨k, rfl⟩ : ∃ k : Nat, p = k := ⟨p.toNat, by omega⟩
    have hks : k < ss.length := by omega
    have hh := finalS_eq (F := F) (clocks_nonneg E ss) hfeas (L := L) (fun t => by rw [← hL]; exact mem_truths) (p := k) (by rw [hkl]; exact hks)
    have hval2 : finalE E F ss (k : Int) = finalS L F k := by unfold finalE; rw [if_pos hc, Int.toNat_natCast, hh]
    have Hval2 := Lib.hid hval2
    clear hc hto hTr hL hfeas hkl hok hfe hval hh hval2 hin
    go_enter Tryz.func14, Tryz.ntmps14
    go_upto_region 1 with fail
    have c0 : (w.alloc (.cells #[.int .i64 E, .int .i64 F, .slice a ss.length cap] 24)).cell? ⟨w.heap.size, 0, none⟩ = some (.int .i64 E) := cell_new rfl rfl
    have c1 : (w.alloc (.cells #[.int .i64 E, .int .i64 F, .slice a ss.length cap] 24)).cell? ⟨w.heap.size, 1, none⟩ = some (.int .i64 F) := cell_new rfl rfl
    have c2 : (w.alloc (.cells #[.int .i64 E, .int .i64 F, .slice a ss.length cap] 24)).cell? ⟨w.heap.size, 2, none⟩ = some (.slice a ss.length cap) := cell_new rfl rfl
    have gX : Grow w (w.alloc (.cells #[.int .i64 E, .int .i64 F, .slice a ss.length cap] 24)) := (Grow.refl w).alloc _
    obtain ⟨X, hX⟩ : ∃ z, w.alloc (.cells #[.int .i64 E, .int .i64 F, .slice a ss.length cap] 24) = z := ⟨_, rfl⟩
    obtain ⟨B, hB⟩ : ∃ z, w.heap.size = z := ⟨_, rfl⟩
    rw [hX] at c0 c1 c2 gX
    rw [hB] at c0 c1 c2
    have hXs : X.heap.size = B + 1 := by rw [← hX, ← hB]; simp
    (try rw [hX])
    (try rw [hB])
    have HB := Lib.hid hB
    clear hX hB
    have b0 := c0
    have b1 := c1
    have b2 := c2
    have gW := gX
    obtain ⟨W, hW⟩ : ∃ z, X = z := ⟨_, rfl⟩
    rw [hW] at b0 b1 b2 gW
    (try rw [hW])
    have hlB := lt_of_cell b0
    clear c0 c1 c2 gX hXs hW
    have hsub : IntKind.i64.wrap ((ss.length : Int) - 1) = (ss.length : Int) - 1 := IntWalk.i64_in _ (by omega)
    (refine wp_region_held_drew (S := fun Wx => Grow W Wx ∧ Wx.cell? ⟨B, 0, none⟩ = some (.int .i64 E) ∧ Wx.cell? ⟨B, 1, none⟩ = some (.int .i64 F) ∧ Wx.cell? ⟨B, 2, none⟩ = some (.slice a ss.length cap)) (by kernel_rfl) ⟨(Below.refl _ _).drew, Grow.keeps (Below.refl _ _).drew (by assumption), Grow.keeps (Below.refl _ _).drew (by assumption), Grow.keeps (Below.refl _ _).drew (by assumption)⟩ (fun hHeld => ?_); refine wpAnyH_take (i := 0) (oi := _) (v := ?_) rfl (by kernel_rfl) (by kernel_rfl) (by kernel_rfl) (fun _ _ _ h => h) (Or.inl ⟨by rfl, ?_⟩) (by assumption) ?_; rotate_left; (focus (intro w hSw; (try dsimp only at hSw); go_simp; (try with_reducible rfl))); (try simp only [Act.put, List.setIfInBounds_toArray, List.set_cons_zero, List.set_cons_succ, List.getElem_toArray, List.getElem_cons_zero]); refine wpAnyH_take (i := 1) (oi := _) (v := ?_) rfl (by kernel_rfl) (by kernel_rfl) (by kernel_rfl) (fun _ _ _ h => h) (Or.inl ⟨by rfl, ?_⟩) (by assumption) ?_; rotate_left; (focus (intro w hSw; (try dsimp only at hSw); go_simp; (try with_reducible rfl))); (try simp only [Act.put, List.setIfInBounds_toArray, List.set_cons_zero, List.set_cons_succ, List.getElem_toArray, List.getElem_cons_zero, List.getElem_cons_succ]); refine wpAnyH_take (i := 2) (oi := _) (v := ?_) rfl (by kernel_rfl) (by kernel_rfl) (by kernel_rfl) (fun _ _ _ h => h) (Or.inl ⟨by rfl, ?_⟩) (by assumption) ?_; rotate_left; (focus (intro w hSw; (try dsimp only at hSw); go_simp; (try with_reducible rfl))); (try simp only [Act.put, List.setIfInBounds_toArray, List.set_cons_zero, List.set_cons_succ, List.getElem_toArray, List.getElem_cons_zero, List.getElem_cons_succ]); refine wpAnyH_ready (rs := [3]) (by kernel_rfl) (by simp) ?_; refine AllReadyH.cons (o := _) rfl (fun K hK => ?_) AllReadyH.nil; (try simp only [List.getElem_toArray, List.getElem_cons_zero, List.getElem_cons_succ]); go_simp; (first | (go_at_call 38; refine (rPair2_any E F a ss.length cap k _ (by omega)).mono ?_; rintro e w98 ⟨rfl, g98⟩) | (go_at_call 37; refine (rtold_any E F _ ss _ _ (Hv.out.grow (gW.trans (by first | assumption | (go_split_ands; assumption) | exact (Grow.refl _).drew)))).mono ?_; rintro e w99 ⟨ov, rfl, hs99, g99⟩; rw [He.out]; obtain ⟨oa, oc, rfl, _, _, _⟩ := id hs99; have Hs99 := Lib.hid hs99; clear hs99)); (try (go_wp2_with fail)); refine hK.out _ _ ?_ (fun hHeld => ?_); (focus ((try dsimp only); refine (fun (hG : Grow W _) => ⟨hG, Grow.keeps hG (by assumption), Grow.keeps hG (by assumption), Grow.keeps hG (by assumption)⟩) ?_; (try go_split_ands); first | assumption | exact Grow.trans (by assumption) (by assumption) | exact Below.trans (by assumption) (by assumption))); clear hK K; (try simp only [Act.put, List.setIfInBounds_toArray, List.set_cons_zero, List.set_cons_succ, List.getElem_toArray, List.getElem_cons_zero, List.getElem_cons_succ]); refine wpAnyH_ready (rs := [4]) (by kernel_rfl) (by simp) ?_; refine AllReadyH.cons (o := _) rfl (fun K hK => ?_) AllReadyH.nil; (try simp only [List.getElem_toArray, List.getElem_cons_zero, List.getElem_cons_succ]); go_simp; (first | (go_at_call 38; refine (rPair2_any E F a ss.length cap k _ (by omega)).mono ?_; rintro e w98 ⟨rfl, g98⟩) | (go_at_call 37; refine (rtold_any E F _ ss _ _ (Hv.out.grow (gW.trans (by first | assumption | (go_split_ands; assumption) | exact (Grow.refl _).drew)))).mono ?_; rintro e w99 ⟨ov, rfl, hs99, g99⟩; rw [He.out]; obtain ⟨oa, oc, rfl, _, _, _⟩ := id hs99; have Hs99 := Lib.hid hs99; clear hs99)); (try (go_wp2_with fail)); refine hK.out _ _ ?_ (fun hHeld => ?_); (focus ((try dsimp only); refine (fun (hG : Grow W _) => ⟨hG, Grow.keeps hG (by assumption), Grow.keeps hG (by assumption), Grow.keeps hG (by assumption)⟩) ?_; (try go_split_ands); first | assumption | exact Grow.trans (by assumption) (by assumption) | exact Below.trans (by assumption) (by assumption))); clear hK K; (try simp only [Act.put, List.setIfInBounds_toArray, List.set_cons_zero, List.set_cons_succ, List.getElem_toArray, List.getElem_cons_zero, List.getElem_cons_succ]); refine wpAnyH_take (i := 5) (oi := _) (v := ?_) rfl (by kernel_rfl) (by kernel_rfl) (by kernel_rfl) (fun _ _ _ h => h) (Or.inl ⟨by rfl, ?_⟩) (by assumption) ?_; rotate_left; (focus (intro w hSw; (try dsimp only at hSw); go_simp; (try with_reducible rfl))); (try simp only [Act.put, List.setIfInBounds_toArray, List.set_cons_zero, List.set_cons_succ, List.getElem_toArray, List.getElem_cons_zero, List.getElem_cons_succ]); refine wpAnyH_take (i := 6) (oi := _) (v := ?_) rfl (by kernel_rfl) (by kernel_rfl) (by kernel_rfl) (fun _ _ _ h => h) (Or.inl ⟨by rfl, ?_⟩) (by assumption) ?_; rotate_left; (focus (intro w hSw; (try dsimp only at hSw); go_simp; (try with_reducible rfl))); (try simp only [Act.put, List.setIfInBounds_toArray, List.set_cons_zero, List.set_cons_succ, List.getElem_toArray, List.getElem_cons_zero, List.getElem_cons_succ]); refine wpAnyH_take (i := 7) (oi := _) (v := ?_) rfl (by kernel_rfl) (by kernel_rfl) (by kernel_rfl) (fun _ _ _ h => h) (Or.inl ⟨by rfl, ?_⟩) (by assumption) ?_; rotate_left; (focus (intro w hSw; (try dsimp only at hSw); go_simp; (try with_reducible rfl))); (try simp only [Act.put, List.setIfInBounds_toArray, List.set_cons_zero, List.set_cons_succ, List.getElem_toArray, List.getElem_cons_zero, List.getElem_cons_succ]); refine wpAnyH_take (i := 8) (oi := _) (v := ?_) rfl (by kernel_rfl) (by kernel_rfl) (by kernel_rfl) (fun _ _ _ h => h) (Or.inl ⟨by rfl, ?_⟩) (by assumption) ?_; rotate_left; (focus (intro w hSw; (try dsimp only at hSw); go_simp; (try with_reducible rfl))); (try simp only [Act.put, List.setIfInBounds_toArray, List.set_cons_zero, List.set_cons_succ, List.getElem_toArray, List.getElem_cons_zero, List.getElem_cons_succ]); refine wpAnyH_take (i := 9) (oi := _) (v := ?_) rfl (by kernel_rfl) (by kernel_rfl) (by kernel_rfl) (fun _ _ _ h => h) (Or.inl ⟨by rfl, ?_⟩) (by assumption) ?_; rotate_left; (focus (intro w hSw; (try dsimp only at hSw); go_simp; (try with_reducible rfl))); (try simp only [Act.put, List.setIfInBounds_toArray, List.set_cons_zero, List.set_cons_succ, List.getElem_toArray, List.getElem_cons_zero, List.getElem_cons_succ]); refine wpAnyH_done (by kernel_rfl) ?_ _)
    rw [Hto.out] at Hs99
    have GR : Grow W w99 := hHeld.1
    have d0 := GR.keeps b0
    have d1 := GR.keeps b1
    have d2 := GR.keeps b2
    have hld := lt_of_cell d0
    clear hHeld
    rw [Hto.out]
    have hs9 : IsSheets w99 (.slice oa L.length oc) L := Hs99.out
    have HS9 := Lib.hid hs9
    clear hsub hs9
    go_wp2_with (go_at_call 52; refine (rfinal_any E F _ _ ss L k _ (Hv.out.grow (gW.trans GR)) HS9.out (fun t ht => by rw [(HTr.out t ht).1]; exact hks) (by omega)).mono ?_; rintro e w4 ⟨rfl, g4⟩)
    go_ret2
    exact ⟨by rw [Hval2.out, He.out]; rfl, (gW.trans GR).trans g4⟩
  · have hne : (c != 0) = true := by simpa using h0
    have hbad : finalE E F ss p = 0 := if_neg (by rw [hc]; exact h0)
    have Hbad := Lib.hid hbad
    clear hc hbad
    go_enter Tryz.func14, Tryz.ntmps14
    go_upto_region 1 with fail
    have c0 : (w.alloc (.cells #[.int .i64 E, .int .i64 F, .slice a ss.length cap] 24)).cell? ⟨w.heap.size, 0, none⟩ = some (.int .i64 E) := cell_new rfl rfl
    have c1 : (w.alloc (.cells #[.int .i64 E, .int .i64 F, .slice a ss.length cap] 24)).cell? ⟨w.heap.size, 1, none⟩ = some (.int .i64 F) := cell_new rfl rfl
    have c2 : (w.alloc (.cells #[.int .i64 E, .int .i64 F, .slice a ss.length cap] 24)).cell? ⟨w.heap.size, 2, none⟩ = some (.slice a ss.length cap) := cell_new rfl rfl
    have gX : Grow w (w.alloc (.cells #[.int .i64 E, .int .i64 F, .slice a ss.length cap] 24)) := (Grow.refl w).alloc _
    obtain ⟨X, hX⟩ : ∃ z, w.alloc (.cells #[.int .i64 E, .int .i64 F, .slice a ss.length cap] 24) = z := ⟨_, rfl⟩
    obtain ⟨B, hB⟩ : ∃ z, w.heap.size = z := ⟨_, rfl⟩
    rw [hX] at c0 c1 c2 gX
    rw [hB] at c0 c1 c2
    have hXs : X.heap.size = B + 1 := by rw [← hX, ← hB]; simp
    (try rw [hX])
    (try rw [hB])
    have HB := Lib.hid hB
    clear hX hB
    have b0 := c0
    have b1 := c1
    have b2 := c2
    have gW := gX
    obtain ⟨W, hW⟩ : ∃ z, X = z := ⟨_, rfl⟩
    rw [hW] at b0 b1 b2 gW
    (try rw [hW])
    have hlB := lt_of_cell b0
    clear c0 c1 c2 gX hXs hW
    have hsub : IntKind.i64.wrap ((ss.length : Int) - 1) = (ss.length : Int) - 1 := IntWalk.i64_in _ (by omega)
    (refine wp_region_held_drew (S := fun Wx => Grow W Wx ∧ Wx.cell? ⟨B, 0, none⟩ = some (.int .i64 E) ∧ Wx.cell? ⟨B, 1, none⟩ = some (.int .i64 F) ∧ Wx.cell? ⟨B, 2, none⟩ = some (.slice a ss.length cap)) (by kernel_rfl) ⟨(Below.refl _ _).drew, Grow.keeps (Below.refl _ _).drew (by assumption), Grow.keeps (Below.refl _ _).drew (by assumption), Grow.keeps (Below.refl _ _).drew (by assumption)⟩ (fun hHeld => ?_); refine wpAnyH_take (i := 0) (oi := _) (v := ?_) rfl (by kernel_rfl) (by kernel_rfl) (by kernel_rfl) (fun _ _ _ h => h) (Or.inl ⟨by rfl, ?_⟩) (by assumption) ?_; rotate_left; (focus (intro w hSw; (try dsimp only at hSw); go_simp; (try with_reducible rfl))); (try simp only [Act.put, List.setIfInBounds_toArray, List.set_cons_zero, List.set_cons_succ, List.getElem_toArray, List.getElem_cons_zero]); refine wpAnyH_take (i := 1) (oi := _) (v := ?_) rfl (by kernel_rfl) (by kernel_rfl) (by kernel_rfl) (fun _ _ _ h => h) (Or.inl ⟨by rfl, ?_⟩) (by assumption) ?_; rotate_left; (focus (intro w hSw; (try dsimp only at hSw); go_simp; (try with_reducible rfl))); (try simp only [Act.put, List.setIfInBounds_toArray, List.set_cons_zero, List.set_cons_succ, List.getElem_toArray, List.getElem_cons_zero, List.getElem_cons_succ]); refine wpAnyH_take (i := 2) (oi := _) (v := ?_) rfl (by kernel_rfl) (by kernel_rfl) (by kernel_rfl) (fun _ _ _ h => h) (Or.inl ⟨by rfl, ?_⟩) (by assumption) ?_; rotate_left; (focus (intro w hSw; (try dsimp only at hSw); go_simp; (try with_reducible rfl))); (try simp only [Act.put, List.setIfInBounds_toArray, List.set_cons_zero, List.set_cons_succ, List.getElem_toArray, List.getElem_cons_zero, List.getElem_cons_succ]); refine wpAnyH_ready (rs := [3]) (by kernel_rfl) (by simp) ?_; refine AllReadyH.cons (o := _) rfl (fun K hK => ?_) AllReadyH.nil; (try simp only [List.getElem_toArray, List.getElem_cons_zero, List.getElem_cons_succ]); go_simp; (first | (go_at_call 38; refine (rPair2_any E F a ss.length cap p _ (by omega)).mono ?_; rintro e w98 ⟨rfl, g98⟩) | (go_at_call 37; refine (rtold_any E F _ ss _ _ (Hv.out.grow (gW.trans (by first | assumption | (go_split_ands; assumption) | exact (Grow.refl _).drew)))).mono ?_; rintro e w99 ⟨ov, rfl, hs99, g99⟩; rw [He.out]; obtain ⟨oa, oc, rfl, _, _, _⟩ := id hs99; have Hs99 := Lib.hid hs99; clear hs99)); (try (go_wp2_with fail)); refine hK.out _ _ ?_ (fun hHeld => ?_); (focus ((try dsimp only); refine (fun (hG : Grow W _) => ⟨hG, Grow.keeps hG (by assumption), Grow.keeps hG (by assumption), Grow.keeps hG (by assumption)⟩) ?_; (try go_split_ands); first | assumption | exact Grow.trans (by assumption) (by assumption) | exact Below.trans (by assumption) (by assumption))); clear hK K; (try simp only [Act.put, List.setIfInBounds_toArray, List.set_cons_zero, List.set_cons_succ, List.getElem_toArray, List.getElem_cons_zero, List.getElem_cons_succ]); refine wpAnyH_ready (rs := [4]) (by kernel_rfl) (by simp) ?_; refine AllReadyH.cons (o := _) rfl (fun K hK => ?_) AllReadyH.nil; (try simp only [List.getElem_toArray, List.getElem_cons_zero, List.getElem_cons_succ]); go_simp; (first | (go_at_call 38; refine (rPair2_any E F a ss.length cap p _ (by omega)).mono ?_; rintro e w98 ⟨rfl, g98⟩) | (go_at_call 37; refine (rtold_any E F _ ss _ _ (Hv.out.grow (gW.trans (by first | assumption | (go_split_ands; assumption) | exact (Grow.refl _).drew)))).mono ?_; rintro e w99 ⟨ov, rfl, hs99, g99⟩; rw [He.out]; obtain ⟨oa, oc, rfl, _, _, _⟩ := id hs99; have Hs99 := Lib.hid hs99; clear hs99)); (try (go_wp2_with fail)); refine hK.out _ _ ?_ (fun hHeld => ?_); (focus ((try dsimp only); refine (fun (hG : Grow W _) => ⟨hG, Grow.keeps hG (by assumption), Grow.keeps hG (by assumption), Grow.keeps hG (by assumption)⟩) ?_; (try go_split_ands); first | assumption | exact Grow.trans (by assumption) (by assumption) | exact Below.trans (by assumption) (by assumption))); clear hK K; (try simp only [Act.put, List.setIfInBounds_toArray, List.set_cons_zero, List.set_cons_succ, List.getElem_toArray, List.getElem_cons_zero, List.getElem_cons_succ]); refine wpAnyH_take (i := 5) (oi := _) (v := ?_) rfl (by kernel_rfl) (by kernel_rfl) (by kernel_rfl) (fun _ _ _ h => h) (Or.inl ⟨by rfl, ?_⟩) (by assumption) ?_; rotate_left; (focus (intro w hSw; (try dsimp only at hSw); go_simp; (try with_reducible rfl))); (try simp only [Act.put, List.setIfInBounds_toArray, List.set_cons_zero, List.set_cons_succ, List.getElem_toArray, List.getElem_cons_zero, List.getElem_cons_succ]); refine wpAnyH_take (i := 6) (oi := _) (v := ?_) rfl (by kernel_rfl) (by kernel_rfl) (by kernel_rfl) (fun _ _ _ h => h) (Or.inl ⟨by rfl, ?_⟩) (by assumption) ?_; rotate_left; (focus (intro w hSw; (try dsimp only at hSw); go_simp; (try with_reducible rfl))); (try simp only [Act.put, List.setIfInBounds_toArray, List.set_cons_zero, List.set_cons_succ, List.getElem_toArray, List.getElem_cons_zero, List.getElem_cons_succ]); refine wpAnyH_take (i := 7) (oi := _) (v := ?_) rfl (by kernel_rfl) (by kernel_rfl) (by kernel_rfl) (fun _ _ _ h => h) (Or.inl ⟨by rfl, ?_⟩) (by assumption) ?_; rotate_left; (focus (intro w hSw; (try dsimp only at hSw); go_simp; (try with_reducible rfl))); (try simp only [Act.put, List.setIfInBounds_toArray, List.set_cons_zero, List.set_cons_succ, List.getElem_toArray, List.getElem_cons_zero, List.getElem_cons_succ]); refine wpAnyH_take (i := 8) (oi := _) (v := ?_) rfl (by kernel_rfl) (by kernel_rfl) (by kernel_rfl) (fun _ _ _ h => h) (Or.inl ⟨by rfl, ?_⟩) (by assumption) ?_; rotate_left; (focus (intro w hSw; (try dsimp only at hSw); go_simp; (try with_reducible rfl))); (try simp only [Act.put, List.setIfInBounds_toArray, List.set_cons_zero, List.set_cons_succ, List.getElem_toArray, List.getElem_cons_zero, List.getElem_cons_succ]); refine wpAnyH_take (i := 9) (oi := _) (v := ?_) rfl (by kernel_rfl) (by kernel_rfl) (by kernel_rfl) (fun _ _ _ h => h) (Or.inl ⟨by rfl, ?_⟩) (by assumption) ?_; rotate_left; (focus (intro w hSw; (try dsimp only at hSw); go_simp; (try with_reducible rfl))); (try simp only [Act.put, List.setIfInBounds_toArray, List.set_cons_zero, List.set_cons_succ, List.getElem_toArray, List.getElem_cons_zero, List.getElem_cons_succ]); refine wpAnyH_done (by kernel_rfl) ?_ _)
    have G5 : Grow W w99 := hHeld.1
    clear hHeld
    go_wp2_with fail
    go_ret2
    exact ⟨by rw [Hbad.out, He.out]; rfl, gW.trans G5⟩
set_option maxRecDepth 100000 in
set_option maxHeartbeats 2000000 in
theorem rCut_any (E F : Int) (v : Value) (ss : List (List Int)) (w : World) (hv : IsSheets w v ss) :
    Calls Tryz.prog 16 #[.agg #[.int .i64 E, .int .i64 F, v]] w fun e w' => e = .returned (.tuple #[.agg #[.int .i64 (cutE E F ss).1, .int .i64 (cutE E F ss).2], .int .i64 (errOf E F ss true)]) ∧ Grow w w' := by
  obtain ⟨a, cap, rfl, hcap, hlen, hrow⟩ := id hv
  have Hv := Lib.hid hv
  clear hv hrow
  obtain ⟨c, hc⟩ : ∃ c, errOf E F ss true = c := ⟨_, rfl⟩
  have He := Lib.hid hc
  by_cases h0 : c = 0
  · subst h0
    obtain ⟨hval, hok, hfe⟩ := errOf_all hc
    have hfeas := feasB_iff.1 hfe
    have hkl := clocks_len E ss
    have hLn := truths_len hval
    have hpos : 0 < (truthsL E ss).length := List.length_pos_iff.2 (truths_ne.2 hfe)
    have hto : toldL E F ss true = truthsL E ss := by unfold toldL; rw [if_pos hc]
    have hTr : ∀ t ∈ truthsL E ss, t.length = ss.length ∧ Tr (clocksOf E ss) t := fun t ht => ⟨by rw [(mem_truths.1 ht).1, hkl], mem_truths.1 ht⟩
    obtain ⟨_, hn6, hF6, _⟩ := valid_parts hval
    obtain ⟨L, hL⟩ : ∃ z, truthsL E ss = z := ⟨_, rfl⟩
    rw [hL] at hLn hpos hto hTr
    have Hto := Lib.hid hto
    have HTr := Lib.hid hTr
    have HL := Lib.hid hL
    have Hfeas := Lib.hid hfeas
    have Hkl := Lib.hid hkl
    obtain ⟨f, rfl⟩ : ∃ f : Nat, F = (f : Int) + 1 := ⟨(F - 1).toNat, by omega⟩
    have hfn : f < ss.length := by omega
    have hh := cut_hull (E := E) hfeas (F := f) (by rw [hkl]; exact hfn)
    rw [hL] at hh
    have hval2 : cutE E ((f : Int) + 1) ss = hullL (L.map (cutT f)) := by rw [cutE_ok hc]; unfold cutV; rw [show ((f : Int) + 1 - 1).toNat = f by omega, hh]
    obtain ⟨i0, hi0, hi1, hi2, hi3⟩ := info_parts pinfo_int7
    have hui : Tryz.prog.underlying 38 = some (.slice 3) := by kernel_rfl
    have Hval2 := Lib.hid hval2
    clear hc hto hTr hL hfeas hkl hok hfe hval hh hval2
    go_enter Tryz.func16, Tryz.ntmps16
    go_upto_region 1 with fail
    have c0 : (w.alloc (.cells #[.int .i64 E, .int .i64 ((f : Int) + 1), .slice a ss.length cap] 24)).cell? ⟨w.heap.size, 0, none⟩ = some (.int .i64 E) := cell_new rfl rfl
    have c1 : (w.alloc (.cells #[.int .i64 E, .int .i64 ((f : Int) + 1), .slice a ss.length cap] 24)).cell? ⟨w.heap.size, 1, none⟩ = some (.int .i64 ((f : Int) + 1)) := cell_new rfl rfl
    have c2 : (w.alloc (.cells #[.int .i64 E, .int .i64 ((f : Int) + 1), .slice a ss.length cap] 24)).cell? ⟨w.heap.size, 2, none⟩ = some (.slice a ss.length cap) := cell_new rfl rfl
    have gX : Grow w (w.alloc (.cells #[.int .i64 E, .int .i64 ((f : Int) + 1), .slice a ss.length cap] 24)) := (Grow.refl w).alloc _
    obtain ⟨X, hX⟩ : ∃ z, w.alloc (.cells #[.int .i64 E, .int .i64 ((f : Int) + 1), .slice a ss.length cap] 24) = z := ⟨_, rfl⟩
    obtain ⟨B, hB⟩ : ∃ z, w.heap.size = z := ⟨_, rfl⟩
    rw [hX] at c0 c1 c2 gX
    rw [hB] at c0 c1 c2
    have hXs : X.heap.size = B + 1 := by rw [← hX, ← hB]; simp
    (try rw [hX])
    (try rw [hB])
    have HB := Lib.hid hB
    clear hX hB
    have t0 : (X.alloc (.cells #[.int .i64 0, .int .i64 0] 28)).cell? ⟨B + 1, 0, none⟩ = some (.int .i64 0) := cell_new hXs.symm rfl
    have t1 : (X.alloc (.cells #[.int .i64 0, .int .i64 0] 28)).cell? ⟨B + 1, 1, none⟩ = some (.int .i64 0) := cell_new hXs.symm rfl
    have tf : ∀ q, (X.alloc (.cells #[.int .i64 0, .int .i64 0] 28)).frozen? ⟨B + 1, q, none⟩ = false := fun q => hot_new hXs.symm
    have gW := gX.alloc (.cells #[.int .i64 0, .int .i64 0] 28)
    have b0 := Grow.keepA c0 (.cells #[.int .i64 0, .int .i64 0] 28)
    have b1 := Grow.keepA c1 (.cells #[.int .i64 0, .int .i64 0] 28)
    have b2 := Grow.keepA c2 (.cells #[.int .i64 0, .int .i64 0] 28)
    obtain ⟨W, hW⟩ : ∃ z, X.alloc (.cells #[.int .i64 0, .int .i64 0] 28) = z := ⟨_, rfl⟩
    obtain ⟨T4, hT4⟩ : ∃ z, B + 1 = z := ⟨_, rfl⟩
    rw [hW] at t0 t1 tf gW b0 b1 b2
    rw [hT4] at t0 t1 tf
    (try rw [hW])
    (try rw [hT4])
    have HT4 := Lib.hid hT4
    have hBT : B ≠ T4 := by omega
    have hlW := lt_of_cell t0
    have hlB := lt_of_cell b0
    clear hW hT4 c0 c1 c2 hXs gX
    go_wp2_with (go_at_call 37; refine (rtold_any E ((f : Int) + 1) _ ss _ _ (Hv.out.grow gW)).mono ?_; rintro e w99 ⟨ov, rfl, hs99, g99⟩; rw [He.out]; obtain ⟨oa, oc, rfl, _, _, _⟩ := id hs99; have Hs99 := Lib.hid hs99; have GR : Grow W w99 := g99; clear hs99)
    rw [Hto.out] at Hs99 ⊢
    have d1 := GR.keeps b1
    obtain ⟨_, _, eo, _, _, hat⟩ := id Hs99.out
    injection eo with eo1 eo2 eo3
    subst eo1
    have Hat := Lib.hid hat
    clear hat eo2 eo3
    have E1 : IntKind.i64.wrap ((f : Int) + 1 - 1) = f := by rw [IntWalk.i64_in _ (by omega)]; omega
    have E1' : IntKind.i64.wrap (f : Int) = f := IntWalk.i64_in _ (by omega)
    go_loopw [6, 7] (fun u i wr => ∃ (j : Nat) (ov : Value), ov = u ∧ j ≤ L.length ∧ i = .int .i64 j ∧ Own wr w99.heap.size 3 ov (((L.take j).map (cutT f)).map (Value.int .i64)) ∧ Grow w99 wr) (fun _ i _ => L.length - (intOf i).toNat)
    case atStart => exact ⟨0, _, rfl, Nat.zero_le _, rfl, Own.nil _ _ _, Grow.refl _⟩
    case round =>
      obtain ⟨j, ov, rfl, hj, rfl, hown, hg⟩ := hrel
      have Hown := Lib.hid hown
      clear hown
      by_cases hlt : j < L.length
      · obtain ⟨lb, lq, t, ta, tc, hx, rfl, hcl, hsc, hs8, hst⟩ := Hat.out.get hlt
        have hcl' := hg.keeps hcl
        have hlb := lt_of_cell hcl'
        have htl := HTr.out t (List.mem_of_getElem? hx)
        have htk := take_get hx
        have hjI : (j : Int) < L.length := by omega
        have hos := ordL_srt t
        obtain ⟨q, hq⟩ : ∃ q, (ordL t)[f]? = some q := ⟨_, List.getElem?_eq_getElem (by rw [hos.len, htl.1]; exact hfn)⟩
        have hqn : q < t.length := hos.lt q (List.mem_of_getElem? hq)
        obtain ⟨tb, tq, x, hx2, rfl, hcx⟩ := hst.int (i := q) hqn
        have hcx' := hg.keeps hcx
        have hlx := lt_of_cell hcx'
        have htm : cutT f t = x := by unfold cutT; rw [hq]; simp [tm, hx2]
        have QO : Hid (∀ V, Grow wr V → Calls Tryz.prog 55 #[.slice (some ⟨tb, tq, none⟩) t.length tc] V fun e w' => ∃ a c, e = .returned (.slice (some ⟨a, 0, none⟩) t.length c) ∧ w'.cell? ⟨a, f, none⟩ = some (.int .i64 (q : Int)) ∧ Grow V w') := fun V g => by
          refine (rOrderOf_any _ t (ordL t) V (⟨_, tc, rfl, hsc, hs8, hst.grow (hg.trans g)⟩) hos (by omega)).mono ?_
          rintro e w' ⟨a2, c2, rfl, hi, hgi⟩
          refine ⟨a2, c2, rfl, ?_, hgi⟩
          obtain ⟨_, _, e', _, _, hr⟩ := hi
          injection e' with e1 _ _
          subst e1
          obtain ⟨_, _, he, hc⟩ := hr f (.int .i64 (q : Int)) (by simp [natL, hq])
          cases he
          rw [Nat.zero_add] at hc
          exact hc
        have hqI : (q : Int) < t.length := by omega
        have hft : f < t.length := by rw [htl.1]; exact hfn
        have hfI : (f : Int) < t.length := by omega
        have Htk := Lib.hid htk
        have Htm := Lib.hid htm
        have hwl : w99.heap.size ≤ wr.heap.size := hg.size
        have d1' := hg.keeps d1
        have hld := lt_of_cell d1'
        clear hx hst htl htk hcx hx2 htm hos hq
        go_upto_region 8 with fail
        (refine wp_region_held_drew (S := fun Vx => Vx.cell? ⟨lb, lq + j, none⟩ = some (.slice (some ⟨tb, tq, none⟩) t.length tc) ∧ Vx.cell? ⟨B, 1, none⟩ = some (.int .i64 ((f : Int) + 1))) (by kernel_rfl) (⟨Grow.keeps (Grow.refl _).drew hcl', Grow.keeps (Grow.refl _).drew d1'⟩) (fun hHeld => ?_); refine wpAnyH_take (i := 0) (oi := _) (v := ?_) rfl (by kernel_rfl) (by kernel_rfl) (by kernel_rfl) (fun _ _ _ h => h) (Or.inl ⟨by rfl, ?_⟩) (by assumption) ?_; rotate_left; (focus (intro w hSw; (try dsimp only at hSw); go_simp; (try with_reducible rfl))); (try simp only [Act.put, List.setIfInBounds_toArray, List.set_cons_zero, List.set_cons_succ, List.getElem_toArray, List.getElem_cons_zero]); refine wpAnyH_take (i := 1) (oi := _) (v := ?_) rfl (by kernel_rfl) (by kernel_rfl) (by kernel_rfl) (fun _ _ _ h => h) (Or.inl ⟨by rfl, ?_⟩) (by assumption) ?_; rotate_left; (focus (intro w hSw; (try dsimp only at hSw); go_simp; (try with_reducible rfl))); (try simp only [Act.put, List.setIfInBounds_toArray, List.set_cons_zero, List.set_cons_succ, List.getElem_toArray, List.getElem_cons_zero, List.getElem_cons_succ]); refine wpAnyH_take (i := 2) (oi := _) (v := ?_) rfl (by kernel_rfl) (by kernel_rfl) (by kernel_rfl) (fun _ _ _ h => h) (Or.inl ⟨by rfl, ?_⟩) (by assumption) ?_; rotate_left; (focus (intro w hSw; (try dsimp only at hSw); go_simp; (try with_reducible rfl))); (try simp only [Act.put, List.setIfInBounds_toArray, List.set_cons_zero, List.set_cons_succ, List.getElem_toArray, List.getElem_cons_zero, List.getElem_cons_succ]); refine wpAnyH_take (i := 3) (oi := _) (v := ?_) rfl (by kernel_rfl) (by kernel_rfl) (by kernel_rfl) (fun _ _ _ h => h) (Or.inl ⟨by rfl, ?_⟩) (by assumption) ?_; rotate_left; (focus (intro w hSw; (try dsimp only at hSw); go_simp; (try with_reducible rfl))); (try simp only [Act.put, List.setIfInBounds_toArray, List.set_cons_zero, List.set_cons_succ, List.getElem_toArray, List.getElem_cons_zero, List.getElem_cons_succ]); refine wpAnyH_take (i := 4) (oi := _) (v := ?_) rfl (by kernel_rfl) (by kernel_rfl) (by kernel_rfl) (fun _ _ _ h => h) (Or.inl ⟨by rfl, ?_⟩) (by assumption) ?_; rotate_left; (focus (intro w hSw; (try dsimp only at hSw); go_simp; (try with_reducible rfl))); (try simp only [Act.put, List.setIfInBounds_toArray, List.set_cons_zero, List.set_cons_succ, List.getElem_toArray, List.getElem_cons_zero, List.getElem_cons_succ]); refine wpAnyH_take (i := 5) (oi := _) (v := ?_) rfl (by kernel_rfl) (by kernel_rfl) (by kernel_rfl) (fun _ _ _ h => h) (Or.inl ⟨by rfl, ?_⟩) (by assumption) ?_; rotate_left; (focus (intro w hSw; (try dsimp only at hSw); go_simp; (try with_reducible rfl))); (try simp only [Act.put, List.setIfInBounds_toArray, List.set_cons_zero, List.set_cons_succ, List.getElem_toArray, List.getElem_cons_zero, List.getElem_cons_succ]); refine wpAnyH_take (i := 6) (oi := _) (v := ?_) rfl (by kernel_rfl) (by kernel_rfl) (by kernel_rfl) (fun _ _ _ h => h) (Or.inl ⟨by rfl, ?_⟩) (by assumption) ?_; rotate_left; (focus (intro w hSw; (try dsimp only at hSw); go_simp; (try with_reducible rfl))); (try simp only [Act.put, List.setIfInBounds_toArray, List.set_cons_zero, List.set_cons_succ, List.getElem_toArray, List.getElem_cons_zero, List.getElem_cons_succ]); refine wpAnyH_take (i := 7) (oi := _) (v := ?_) rfl (by kernel_rfl) (by kernel_rfl) (by kernel_rfl) (fun _ _ _ h => h) (Or.inl ⟨by rfl, ?_⟩) (by assumption) ?_; rotate_left; (focus (intro w hSw; (try dsimp only at hSw); go_simp; (try with_reducible rfl))); (try simp only [Act.put, List.setIfInBounds_toArray, List.set_cons_zero, List.set_cons_succ, List.getElem_toArray, List.getElem_cons_zero, List.getElem_cons_succ]); refine wpAnyH_take (i := 8) (oi := _) (v := ?_) rfl (by kernel_rfl) (by kernel_rfl) (by kernel_rfl) (fun _ _ _ h => h) (Or.inl ⟨by rfl, ?_⟩) (by assumption) ?_; rotate_left; (focus (intro w hSw; (try dsimp only at hSw); go_simp; (try with_reducible rfl))); (try simp only [Act.put, List.setIfInBounds_toArray, List.set_cons_zero, List.set_cons_succ, List.getElem_toArray, List.getElem_cons_zero, List.getElem_cons_succ]); refine wpAnyH_take (i := 10) (oi := _) (v := ?_) rfl (by kernel_rfl) (by kernel_rfl) (by kernel_rfl) (fun _ _ _ h => h) (Or.inl ⟨by rfl, ?_⟩) (by assumption) ?_; rotate_left; (focus (intro w hSw; (try dsimp only at hSw); go_simp; (try with_reducible rfl))); (try simp only [Act.put, List.setIfInBounds_toArray, List.set_cons_zero, List.set_cons_succ, List.getElem_toArray, List.getElem_cons_zero, List.getElem_cons_succ]); refine wpAnyH_take (i := 11) (oi := _) (v := ?_) rfl (by kernel_rfl) (by kernel_rfl) (by kernel_rfl) (fun _ _ _ h => h) (Or.inl ⟨by rfl, ?_⟩) (by assumption) ?_; rotate_left; (focus (intro w hSw; (try dsimp only at hSw); go_simp; (try with_reducible rfl))); (try simp only [Act.put, List.setIfInBounds_toArray, List.set_cons_zero, List.set_cons_succ, List.getElem_toArray, List.getElem_cons_zero, List.getElem_cons_succ]); refine wpAnyH_take (i := 12) (oi := _) (v := ?_) rfl (by kernel_rfl) (by kernel_rfl) (by kernel_rfl) (fun _ _ _ h => h) (Or.inl ⟨by rfl, ?_⟩) (by assumption) ?_; rotate_left; (focus (intro w hSw; (try dsimp only at hSw); go_simp; (try with_reducible rfl))); (try simp only [Act.put, List.setIfInBounds_toArray, List.set_cons_zero, List.set_cons_succ, List.getElem_toArray, List.getElem_cons_zero, List.getElem_cons_succ]); refine wpAnyH_ready (rs := [9]) (by kernel_rfl) (by simp) ?_; refine AllReadyH.cons (o := _) rfl (fun K hK => ?_) AllReadyH.nil; (try simp only [List.getElem_toArray, List.getElem_cons_zero, List.getElem_cons_succ]); (try go_simp); (first | (refine (if_pos (by rfl)).mpr ?_; refine wp_app (.tmp 23) (.tmp 40) 38 rfl w99.heap.size 3 i0 _ 8 hui hi0 hi1 hi2 hi3 rfl ov (((L.take j).map (cutT f)).map (Value.int .i64)) (by rfl) ((Hown.out.grow g9).alloc _) (some ⟨w9.heap.size, 0, none⟩) 1 [.int .i64 x] 1 (by rfl) rfl (fun h => nomatch h) (row_new1 _ _ _ rfl) (by simp [Value.oneCell']) (by simp; omega) (by omega) (by have := g9.size; simp; omega) ?_; intro v' wz hown1 hgr1 hmv1; have gz : Grow w99 wz := Below.trans ((hg.trans g9).alloc _) (grownBy_below hgr1 (fun k hk => Hown.out.base k hk) (by have := (hg.trans g9).size; simp; omega))) | (go_at_call 55; refine (QO.out _ (Grow.refl _).drew).mono ?_; rintro e w9 ⟨oa9, oc9, rfl, hO, g9'⟩; have g9 : Grow wr w9 := (Grow.refl wr).drew.trans g9'; have hx9 := g9.keeps hcx'; have hl9 := lt_of_cell hO; have hl9' := lt_of_cell hx9)); (try (go_wp2_with fail)); refine hK.out _ _ ?_ (fun hHeld => ?_); (focus (first | exact ⟨gz.keeps hcl, gz.keeps d1⟩ | exact ⟨(g9.alloc _).keeps hcl', (g9.alloc _).keeps d1'⟩ | exact ⟨g9.keeps hcl', g9.keeps d1'⟩)); clear hK K; (try simp only [Act.put, List.setIfInBounds_toArray, List.set_cons_zero, List.set_cons_succ, List.getElem_toArray, List.getElem_cons_zero, List.getElem_cons_succ]); refine wpAnyH_ready (rs := [13]) (by kernel_rfl) (by simp) ?_; refine AllReadyH.cons (o := _) rfl (fun K hK => ?_) AllReadyH.nil; (try simp only [List.getElem_toArray, List.getElem_cons_zero, List.getElem_cons_succ]); (try go_simp); (try (go_wp2_with fail)); refine hK.out _ _ ?_ (fun hHeld => ?_); (focus (first | exact ⟨gz.keeps hcl, gz.keeps d1⟩ | exact ⟨(g9.alloc _).keeps hcl', (g9.alloc _).keeps d1'⟩ | exact ⟨g9.keeps hcl', g9.keeps d1'⟩)); clear hK K; (try simp only [Act.put, List.setIfInBounds_toArray, List.set_cons_zero, List.set_cons_succ, List.getElem_toArray, List.getElem_cons_zero, List.getElem_cons_succ]); refine wpAnyH_ready (rs := [14]) (by kernel_rfl) (by simp) ?_; refine AllReadyH.cons (o := _) rfl (fun K hK => ?_) AllReadyH.nil; (try simp only [List.getElem_toArray, List.getElem_cons_zero, List.getElem_cons_succ]); (try go_simp); (try (go_wp2_with fail)); refine hK.out _ _ ?_ (fun hHeld => ?_); (focus (first | exact ⟨gz.keeps hcl, gz.keeps d1⟩ | exact ⟨(g9.alloc _).keeps hcl', (g9.alloc _).keeps d1'⟩ | exact ⟨g9.keeps hcl', g9.keeps d1'⟩)); clear hK K; (try simp only [Act.put, List.setIfInBounds_toArray, List.set_cons_zero, List.set_cons_succ, List.getElem_toArray, List.getElem_cons_zero, List.getElem_cons_succ]); refine wpAnyH_ready (rs := [15]) (by kernel_rfl) (by simp) ?_; refine AllReadyH.cons (o := _) rfl (fun K hK => ?_) AllReadyH.nil; (try simp only [List.getElem_toArray, List.getElem_cons_zero, List.getElem_cons_succ]); (try go_simp); (try (go_wp2_with fail)); refine hK.out _ _ ?_ (fun hHeld => ?_); (focus (first | exact ⟨gz.keeps hcl, gz.keeps d1⟩ | exact ⟨(g9.alloc _).keeps hcl', (g9.alloc _).keeps d1'⟩ | exact ⟨g9.keeps hcl', g9.keeps d1'⟩)); clear hK K; (try simp only [Act.put, List.setIfInBounds_toArray, List.set_cons_zero, List.set_cons_succ, List.getElem_toArray, List.getElem_cons_zero, List.getElem_cons_succ]); refine wpAnyH_ready (rs := [16]) (by kernel_rfl) (by simp) ?_; refine AllReadyH.cons (o := _) rfl (fun K hK => ?_) AllReadyH.nil; (try simp only [List.getElem_toArray, List.getElem_cons_zero, List.getElem_cons_succ]); (try go_simp); (try (go_wp2_with fail)); refine hK.out _ _ ?_ (fun hHeld => ?_); (focus (first | exact ⟨gz.keeps hcl, gz.keeps d1⟩ | exact ⟨(g9.alloc _).keeps hcl', (g9.alloc _).keeps d1'⟩ | exact ⟨g9.keeps hcl', g9.keeps d1'⟩)); clear hK K; (try simp only [Act.put, List.setIfInBounds_toArray, List.set_cons_zero, List.set_cons_succ, List.getElem_toArray, List.getElem_cons_zero, List.getElem_cons_succ]); refine wpAnyH_ready (rs := [17]) (by kernel_rfl) (by simp) ?_; refine AllReadyH.cons (o := _) rfl (fun K hK => ?_) AllReadyH.nil; (try simp only [List.getElem_toArray, List.getElem_cons_zero, List.getElem_cons_succ]); (try go_simp); (try (go_wp2_with fail)); refine hK.out _ _ ?_ (fun hHeld => ?_); (focus (first | exact ⟨gz.keeps hcl, gz.keeps d1⟩ | exact ⟨(g9.alloc _).keeps hcl', (g9.alloc _).keeps d1'⟩ | exact ⟨g9.keeps hcl', g9.keeps d1'⟩)); clear hK K; (try simp only [Act.put, List.setIfInBounds_toArray, List.set_cons_zero, List.set_cons_succ, List.getElem_toArray, List.getElem_cons_zero, List.getElem_cons_succ]); refine wpAnyH_ready (rs := [18]) (by kernel_rfl) (by simp) ?_; refine AllReadyH.cons (o := _) rfl (fun K hK => ?_) AllReadyH.nil; (try simp only [List.getElem_toArray, List.getElem_cons_zero, List.getElem_cons_succ]); (first | (refine (if_pos (by rfl)).mpr ?_; refine wp_app (.tmp 23) (.tmp 40) 38 rfl w99.heap.size 3 i0 _ 8 hui hi0 hi1 hi2 hi3 rfl ov (((L.take j).map (cutT f)).map (Value.int .i64)) (by rfl) ((Hown.out.grow g9).alloc _) (some ⟨w9.heap.size, 0, none⟩) 1 [.int .i64 x] 1 (by rfl) rfl (fun h => nomatch h) (row_new1 _ _ _ rfl) (by simp [Value.oneCell']) (by simp; omega) (by omega) (by have := g9.size; simp; omega) ?_; intro v' wz hown1 hgr1 hmv1; have gz : Grow w99 wz := Below.trans ((hg.trans g9).alloc _) (grownBy_below hgr1 (fun k hk => Hown.out.base k hk) (by have := (hg.trans g9).size; simp; omega))) | (go_at_call 55; refine (QO.out _ (Grow.refl _).drew).mono ?_; rintro e w9 ⟨oa9, oc9, rfl, hO, g9'⟩; have g9 : Grow wr w9 := (Grow.refl wr).drew.trans g9'; have hx9 := g9.keeps hcx'; have hl9 := lt_of_cell hO; have hl9' := lt_of_cell hx9)); (try (go_wp2_with fail)); refine hK.out _ _ ?_ (fun hHeld => ?_); (focus (first | exact ⟨gz.keeps hcl, gz.keeps d1⟩ | exact ⟨(g9.alloc _).keeps hcl', (g9.alloc _).keeps d1'⟩ | exact ⟨g9.keeps hcl', g9.keeps d1'⟩)); clear hK K; (try simp only [Act.put, List.setIfInBounds_toArray, List.set_cons_zero, List.set_cons_succ, List.getElem_toArray, List.getElem_cons_zero, List.getElem_cons_succ]); refine wpAnyH_take (i := 19) (oi := _) (v := ?_) rfl (by kernel_rfl) (by kernel_rfl) (by kernel_rfl) (fun _ _ _ h => h) (Or.inl ⟨by rfl, ?_⟩) (by assumption) ?_; rotate_left; (focus (intro w hSw; (try dsimp only at hSw); go_simp; (try with_reducible rfl))); (try simp only [Act.put, List.setIfInBounds_toArray, List.set_cons_zero, List.set_cons_succ, List.getElem_toArray, List.getElem_cons_zero, List.getElem_cons_succ]); refine wpAnyH_done (by kernel_rfl) ?_ _)
        go_wp2_with fail
        exact ⟨⟨j + 1, v', rfl, by omega, by go_num, by rw [Htk.out]; simpa [Htm.out] using hown1, gz⟩, by simp [intOf]; omega⟩
      · obtain rfl : j = L.length := by omega
        rw [List.take_length] at Hown
        obtain ⟨oa2, oc2, rfl, _, _, _⟩ := Hown.out.row
        have hI := Hown.out.ints (by simp; omega)
        have HI := Lib.hid hI
        clear hI
        obtain ⟨⟨x, y⟩, hxy⟩ : ∃ z, hullL (L.map (cutT f)) = z := ⟨_, rfl⟩
        have Hx : Hid (cutE E ((f : Int) + 1) ss = (x, y)) := Hval2.out.trans hxy
        have Hxy := Lib.hid hxy
        clear hxy
        simp only [List.length_map] at HI ⊢
        go_upto_region 9 with fail
        have QH : Hid (∀ V, Grow wr V → Calls Tryz.prog 39 #[.slice oa2 L.length oc2] V fun e w' => e = .returned (.agg #[.int .i64 x, .int .i64 y]) ∧ Grow V w') := (fun V g => by
          have h := rhull_any _ _ V (HI.out.grow g) (by simpa using hpos)
          rw [Hxy.out] at h
          exact h : ∀ V, Grow wr V → Calls Tryz.prog 39 #[.slice oa2 L.length oc2] V fun e w' => e = .returned (.agg #[.int .i64 x, .int .i64 y]) ∧ Grow V w')
        go_wp2_with (go_at_call 39; refine (QH.out _ (Grow.refl _)).mono ?_; rintro e w5 ⟨rfl, g5⟩; have G5 := (GR.trans hg).trans g5; have u0 := G5.keeps t0; have u1 := G5.keeps t1; have uf : ∀ q, w5.frozen? ⟨T4, q, none⟩ = false := (fun q => (G5.marks _ _ hlW).trans (tf q)); have hl5 := lt_of_cell u0)
        obtain ⟨r0, r1, _, _⟩ := cells2 (x := .int .i64 x) (y := .int .i64 y) u0 u1
        exact bodyPost_ret (v := .tuple #[.agg #[.int .i64 x, .int .i64 y], .int .i64 0]) (by simp [results, Tryz.results16, go_sem, r0, r1]) rfl ⟨by rw [Hx.out, He.out], Below.setCell (p := ⟨T4, 1, none⟩) (Below.setCell (p := ⟨T4, 0, none⟩) (gW.trans G5) (by have := HT4.out; have := HB.out; show w.heap.size ≤ T4; omega) _) (by have := HT4.out; have := HB.out; show w.heap.size ≤ T4; omega) _⟩
  · have hne : (c != 0) = true := by simpa using h0
    have hbad : cutE E F ss = (0, 0) := if_neg (by rw [hc]; exact h0)
    have Hbad := Lib.hid hbad
    clear hc hbad
    go_enter Tryz.func16, Tryz.ntmps16
    go_upto_region 1 with fail
    have c0 : (w.alloc (.cells #[.int .i64 E, .int .i64 F, .slice a ss.length cap] 24)).cell? ⟨w.heap.size, 0, none⟩ = some (.int .i64 E) := cell_new rfl rfl
    have c1 : (w.alloc (.cells #[.int .i64 E, .int .i64 F, .slice a ss.length cap] 24)).cell? ⟨w.heap.size, 1, none⟩ = some (.int .i64 F) := cell_new rfl rfl
    have c2 : (w.alloc (.cells #[.int .i64 E, .int .i64 F, .slice a ss.length cap] 24)).cell? ⟨w.heap.size, 2, none⟩ = some (.slice a ss.length cap) := cell_new rfl rfl
    have gX : Grow w (w.alloc (.cells #[.int .i64 E, .int .i64 F, .slice a ss.length cap] 24)) := (Grow.refl w).alloc _
    obtain ⟨X, hX⟩ : ∃ z, w.alloc (.cells #[.int .i64 E, .int .i64 F, .slice a ss.length cap] 24) = z := ⟨_, rfl⟩
    obtain ⟨B, hB⟩ : ∃ z, w.heap.size = z := ⟨_, rfl⟩
    rw [hX] at c0 c1 c2 gX
    rw [hB] at c0 c1 c2
    have hXs : X.heap.size = B + 1 := by rw [← hX, ← hB]; simp
    (try rw [hX])
    (try rw [hB])
    have HB := Lib.hid hB
    clear hX hB
    have t0 : (X.alloc (.cells #[.int .i64 0, .int .i64 0] 28)).cell? ⟨B + 1, 0, none⟩ = some (.int .i64 0) := cell_new hXs.symm rfl
    have t1 : (X.alloc (.cells #[.int .i64 0, .int .i64 0] 28)).cell? ⟨B + 1, 1, none⟩ = some (.int .i64 0) := cell_new hXs.symm rfl
    have tf : ∀ q, (X.alloc (.cells #[.int .i64 0, .int .i64 0] 28)).frozen? ⟨B + 1, q, none⟩ = false := fun q => hot_new hXs.symm
    have gW := gX.alloc (.cells #[.int .i64 0, .int .i64 0] 28)
    have b0 := Grow.keepA c0 (.cells #[.int .i64 0, .int .i64 0] 28)
    have b1 := Grow.keepA c1 (.cells #[.int .i64 0, .int .i64 0] 28)
    have b2 := Grow.keepA c2 (.cells #[.int .i64 0, .int .i64 0] 28)
    obtain ⟨W, hW⟩ : ∃ z, X.alloc (.cells #[.int .i64 0, .int .i64 0] 28) = z := ⟨_, rfl⟩
    obtain ⟨T4, hT4⟩ : ∃ z, B + 1 = z := ⟨_, rfl⟩
    rw [hW] at t0 t1 tf gW b0 b1 b2
    rw [hT4] at t0 t1 tf
    (try rw [hW])
    (try rw [hT4])
    have HT4 := Lib.hid hT4
    have hBT : B ≠ T4 := by omega
    have hlW := lt_of_cell t0
    have hlB := lt_of_cell b0
    clear hW hT4 c0 c1 c2 hXs gX
    go_wp2_with (go_at_call 37; refine (rtold_any E F _ ss _ _ (Hv.out.grow gW)).mono ?_; rintro e w99 ⟨ov, rfl, hs99, g99⟩; rw [He.out]; obtain ⟨oa, oc, rfl, _, _, _⟩ := id hs99; have Hs99 := Lib.hid hs99; have u0 := g99.keeps t0; have u1 := g99.keeps t1; have uf : ∀ q, w99.frozen? ⟨T4, q, none⟩ = false := (fun q => (g99.marks _ _ hlW).trans (tf q)); have hl5 := lt_of_cell u0; clear hs99)
    have G5 := g99
    obtain ⟨r0, r1, _, _⟩ := cells2 (x := .int .i64 0) (y := .int .i64 0) u0 u1
    exact bodyPost_ret (v := .tuple #[.agg #[.int .i64 0, .int .i64 0], .int .i64 c]) (by simp [results, Tryz.results16, go_sem, r0, r1]) rfl ⟨by rw [Hbad.out, He.out], Below.setCell (p := ⟨T4, 1, none⟩) (Below.setCell (p := ⟨T4, 0, none⟩) (gW.trans G5) (by have := HT4.out; have := HB.out; show w.heap.size ≤ T4; omega) _) (by have := HT4.out; have := HB.out; show w.heap.size ≤ T4; omega) _⟩
end Go.Proofs.YtbeglemohfbdfaaGreat
