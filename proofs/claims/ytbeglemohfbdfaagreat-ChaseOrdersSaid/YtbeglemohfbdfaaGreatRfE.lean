/- The reference of layer 7: Truths, told, hull, so, final, places. Conditions: sizes. -/
import Derived.Test.YtbeglemohfbdfaaGreatRfD
namespace Go.Proofs.YtbeglemohfbdfaaGreat
open Go.RowKit

theorem goOn_nil (E : Int) (ss : List (List Int)) : goOn E ss [] = truthsL E ss := by
  unfold goOn truthsL
  simp
def SheetsPost (w : World) (ls : List (List Int)) (e : Ending) (w' : World) : Prop := ∃ ov, e = .returned ov ∧ IsSheets w' ov ls ∧ Grow w w'
set_option maxRecDepth 100000 in
theorem rTruths_any (E F : Int) (v : Value) (ss : List (List Int)) (w : World) (hv : IsSheets w v ss) (hval : validB E F ss = true) :
    Calls Tryz.prog 72 #[.agg #[.int .i64 E, .int .i64 F, v]] w (SheetsPost w (truthsL E ss)) := by
  obtain ⟨hE, hn, _, hl⟩ := valid_parts hval
  have hlen := truths_len hval
  obtain ⟨a, cap, rfl, _, _, _⟩ := id hv
  have Hv := Lib.hid hv
  have Hl := Lib.hid hl
  have Hlen := Lib.hid hlen
  clear hv hl hlen
  go_enter Tryz.func72, Tryz.ntmps72
  go_wp2_with fail
  have gW : Grow w (w.alloc (.cells #[.int .i64 E, .int .i64 F, .slice a ss.length cap] 24)) := (Grow.refl w).alloc _
  refine (rtruths_any E F _ ss hE Hl.out (by omega) ss.length [] (.slice none 0 0) (.slice none 0 0) [] [] w.heap.size _ (by simp) (fun V h => Hv.out.grow (Below.trans gW h)) ⟨none, 0, rfl, by simp, by simp, fun i x h => by simp at h⟩ (.inl rfl) (fun _ => ⟨0, rfl⟩) (Own.nil _ _ _) (Rows2.nil _ _) (by simp) (by rw [goOn_nil]; have := Hlen.out; simp; omega)).mono ?_
  rintro e w1 ⟨ov, vs, rfl, hown, hrows, hgr, _⟩
  rw [goOn_nil, List.nil_append] at hrows
  have hg1 := gW.trans (grownBy_below hgr (fun k hk => nomatch hk) (Nat.le_refl _))
  obtain ⟨oa, oc, rfl, _, _, _⟩ := hown.row
  go_wp2_with fail
  go_ret
  exact ⟨_, rfl, hrows.sheets hown (by have := Hlen.out; omega), hg1⟩
def toldL (E F : Int) (ss : List (List Int)) (ok : Bool) : List (List Int) := if errOf E F ss ok = 0 then truthsL E ss else []
def ToldPost (w : World) (E F : Int) (ss : List (List Int)) (ok : Bool) (e : Ending) (w' : World) : Prop := ∃ ov, e = .returned (.tuple #[ov, .int .i64 (errOf E F ss ok)]) ∧ IsSheets w' ov (toldL E F ss ok) ∧ Grow w w'
theorem sheets_nil (w : World) : IsSheets w (.slice none 0 0) [] := ⟨none, 0, rfl, by simp, by simp, fun i s h => by simp at h⟩
set_option maxRecDepth 100000 in
theorem rtold_any (E F : Int) (v : Value) (ss : List (List Int)) (ok : Bool) (w : World) (hv : IsSheets w v ss) :
    Calls Tryz.prog 37 #[.agg #[.int .i64 E, .int .i64 F, v], .bool ok] w (ToldPost w E F ss ok) := by
  obtain ⟨a, cap, rfl, _, _, _⟩ := id hv
  have Hv := Lib.hid hv
  clear hv
  have key : ∀ (c : Int) (W' : World), errOf E F ss ok = c → c ≠ 0 → Grow w W' → ToldPost w E F ss ok (.returned (.tuple #[.slice none 0 0, .int .i64 c])) W' := fun c W' h h0 g => ⟨_, by rw [h], by unfold toldL; rw [if_neg (by rw [h]; exact h0)]; exact sheets_nil _, g⟩
  have Key := Lib.hid key
  clear key
  cases hval : validB E F ss
  case false =>
    have he : errOf E F ss ok = 1 := by unfold errOf; rw [hval]; rfl
    have He := Lib.hid he
    have Hval := Lib.hid hval
    clear he hval
    go_enter Tryz.func37, Tryz.ntmps37
    go_wp2_with (go_at_call 27; refine (rChase_any E F _ ss _ (Hv.out.grow ((Grow.refl _).alloc _))).mono ?_; rw [Hval.out]; rintro e w1 ⟨rfl, hg1⟩)
    go_ret2
    exact Key.out 1 _ He.out (by decide) (((Grow.refl w).alloc _).trans hg1)
  have Hval := Lib.hid hval
  cases ok
  · have he : errOf E F ss false = 2 := by unfold errOf; rw [hval]; rfl
    have He := Lib.hid he
    clear he hval
    go_enter Tryz.func37, Tryz.ntmps37
    go_wp2_with (go_at_call 27; refine (rChase_any E F _ ss _ (Hv.out.grow ((Grow.refl _).alloc _))).mono ?_; rw [Hval.out]; rintro e w1 ⟨rfl, hg1⟩)
    go_ret2
    exact Key.out 2 _ He.out (by decide) (((Grow.refl w).alloc _).trans hg1)
  have hne := truths_ne (E := E) (ss := ss)
  cases hfe : feasB (clocksOf E ss)
  · have he := errOf_no hval hfe (ok := true) rfl
    have hem : truthsL E ss = [] := Classical.byContradiction fun h => by rw [hne.1 h] at hfe; cases hfe
    have He := Lib.hid he
    have Hem := Lib.hid hem
    clear he hval hfe hne hem
    go_enter Tryz.func37, Tryz.ntmps37
    go_wp2_with first | (go_at_call 27; refine (rChase_any E F _ ss _ (Hv.out.grow ((Grow.refl _).alloc _))).mono ?_; rw [Hval.out]; rintro e w1 ⟨rfl, hg1⟩; have hk1 := hg1.cells) | (go_at_call 72; refine (rTruths_any E F _ ss _ (Hv.out.grow (((Grow.refl _).alloc _).trans hg1)) Hval.out).mono ?_; rintro e w2 ⟨ov, rfl, hs, hg2⟩; rw [Hem.out] at hs; obtain ⟨oa, oc, rfl, _, _, _⟩ := hs)
    go_ret2
    exact Key.out 10 _ He.out (by decide) ((((Grow.refl w).alloc _).trans hg1).trans hg2)
  · have he := errOf_ok hval hfe (ok := true) rfl
    have hpos : 0 < (truthsL E ss).length := List.length_pos_iff.2 (hne.2 hfe)
    have hto : toldL E F ss true = truthsL E ss := by unfold toldL; rw [if_pos he]
    have He := Lib.hid he
    have Hto := Lib.hid hto
    clear he hval hfe hne hto
    go_enter Tryz.func37, Tryz.ntmps37
    go_wp2_with first | (go_at_call 27; refine (rChase_any E F _ ss _ (Hv.out.grow ((Grow.refl _).alloc _))).mono ?_; rw [Hval.out]; rintro e w1 ⟨rfl, hg1⟩; have hk1 := hg1.cells) | (go_at_call 72; refine (rTruths_any E F _ ss _ (Hv.out.grow (((Grow.refl _).alloc _).trans hg1)) Hval.out).mono ?_; rintro e w2 ⟨ov, rfl, hs, hg2⟩; obtain ⟨oa, oc, rfl, _, _, _⟩ := id hs; have Hs := Lib.hid hs; clear hs; have hne : (((truthsL E ss).length : Int) == 0) = false := beq_eq_false_iff_ne.2 (by omega); have hne2 : ((truthsL E ss).length == 0) = false := beq_eq_false_iff_ne.2 (by omega))
    go_ret2
    exact ⟨_, by rw [He.out]; rfl, by rw [Hto.out]; exact Hs.out, (((Grow.refl w).alloc _).trans hg1).trans hg2⟩
theorem rso_any (n m : Nat) (w : World) : Calls Tryz.prog 58 #[.int .i64 n, .int .i64 m] w fun e w' => e = .returned (.int .i64 (soN n m)) ∧ w = w' := by
  unfold soN
  by_cases h : n = m
  · subst h
    rw [if_pos rfl]
    go_enter Tryz.func58, Tryz.ntmps58
    go_wp2_with fail
    go_ret
    exact ⟨rfl, rfl⟩
  · rw [if_neg h]
    have h1 : ((n : Int) == (m : Int)) = false := by simp; omega
    have h2 : (n == m) = false := by simpa using h
    by_cases h0 : n = 0
    · subst h0
      rw [if_pos rfl]
      clear h
      go_enter Tryz.func58, Tryz.ntmps58
      go_wp2_with fail
      go_ret
      exact ⟨rfl, rfl⟩
    · rw [if_neg h0]
      have h3 : ((n : Int) == 0) = false := by simp; omega
      have h4 : (n == 0) = false := by simpa using h0
      clear h h0
      go_enter Tryz.func58, Tryz.ntmps58
      go_wp2_with fail
      go_ret
      exact ⟨rfl, rfl⟩
set_option maxRecDepth 100000 in
set_option maxHeartbeats 1000000 in
theorem rplaces_any (v : Value) (L : List (List Int)) (p : Nat) (w : World) (hv : IsSheets w v L) (hp : ∀ t ∈ L, p < t.length) (hL : L.length ≤ 200000) :
    Calls Tryz.prog 49 #[v, .int .i64 p] w fun e w' => ∃ ov, e = .returned ov ∧ IsInts w' ov (L.map fun t => (placeN t p : Int)) ∧ Grow w w' := by
  obtain ⟨a, cap, rfl, _, _, hat⟩ := hv
  obtain ⟨i0, hi0, hi1, hi2, hi3⟩ := info_parts pinfo_int7
  have hui : Tryz.prog.underlying 38 = some (.slice 3) := by kernel_rfl
  have Hat := Lib.hid hat
  have Hp := Lib.hid hp
  clear hat hp
  go_enter Tryz.func49, Tryz.ntmps49
  go_wp2_with fail
  go_loopw [5, 6] (fun u i wr => ∃ (k : Nat) (ov : Value), ov = u ∧ k ≤ L.length ∧ i = .int .i64 k ∧ Own wr w.heap.size 3 ov (((L.take k).map fun t => (placeN t p : Int)).map (Value.int .i64)) ∧ Grow w wr) (fun _ i _ => L.length - (intOf i).toNat)
  case atStart => exact ⟨0, _, rfl, Nat.zero_le _, rfl, Own.nil _ _ _, Grow.refl _⟩
  case round =>
    obtain ⟨k, ov, rfl, hk, rfl, hown, hg⟩ := hrel
    have Hown := Lib.hid hown
    clear hown
    by_cases hlt : k < L.length
    · obtain ⟨b, o, t, ta, tc, hx, rfl, hc, hsc, hs8, hs⟩ := Hat.out.get hlt
      have hc' := hg.keeps hc
      have hlb := lt_of_cell hc'
      have hpt := Hp.out t (List.mem_of_getElem? hx)
      have htk := take_get hx
      have hI : IsInts wr (.slice ta t.length tc) t := ⟨ta, tc, rfl, hsc, hs8, hs.grow hg⟩
      have HI := Lib.hid hI
      have Htk := Lib.hid htk
      have hkI : (k : Int) < L.length := by omega
      have hwl : w.heap.size ≤ wr.heap.size := hg.size
      clear hx hc hs hI htk
      go_wp2_with first | (go_at_call 57; refine (rPlaceOf_any _ t p _ HI.out hpt).mono ?_; rintro e w5 ⟨rfl, g5⟩; have own5 := Hown.out.grow g5; have hw5 := g5.size) | (at_builtin; refine wpl_app rfl _ _ 38 rfl w.heap.size 3 i0 _ 8 hui hi0 hi1 hi2 hi3 rfl ov (((L.take k).map fun t => (placeN t p : Int)).map (Value.int .i64)) rfl (own5.alloc _) _ _ [.int .i64 (placeN t p : Int)] 1 rfl rfl (fun h => nomatch h) (row_new1 _ _ _ (by first | rfl | simp)) (by simp [Value.oneCell']) (by simp; omega) (by omega) (by simp; omega) ?_; intro v' wz hown1 hgr1 hmv1)
      have gz : Grow w wz := Below.trans ((hg.trans g5).alloc _) (grownBy_below hgr1 (fun k hk => own5.base k hk) (by simp; omega))
      exact ⟨⟨k + 1, v', rfl, by omega, by go_num, by rw [Htk.out]; simpa using hown1, gz⟩, by simp [intOf]; omega⟩
    · obtain rfl : k = L.length := by omega
      rw [List.take_length] at Hown
      go_wp2_with fail
      go_ret
      exact ⟨_, rfl, Hown.out.ints (by simp; omega), hg⟩
theorem countP_take {L : List (List Int)} {k : Nat} {t : List Int} (f : List Int → Bool) (h : L[k]? = some t) : (L.take (k + 1)).countP f = (L.take k).countP f + if f t = true then 1 else 0 := by
  rw [take_get h, List.countP_append, List.countP_singleton]
set_option maxRecDepth 100000 in
set_option maxHeartbeats 1000000 in
theorem rfinal_any (E F : Int) (v u : Value) (ss L : List (List Int)) (p : Nat) (w : World) (hv : IsSheets w v ss) (hu : IsSheets w u L) (hp : ∀ t ∈ L, p < t.length) (hL : L.length ≤ 200000) :
    Calls Tryz.prog 52 #[.agg #[.int .i64 E, .int .i64 F, v], u, .int .i64 p] w fun e w' => e = .returned (.int .i64 (finalS L F p)) ∧ Grow w w' := by
  obtain ⟨a, cap, rfl, _, _, _⟩ := hv
  obtain ⟨la, lcap, rfl, _, _, hat⟩ := hu
  have Hat := Lib.hid hat
  have Hp := Lib.hid hp
  clear hat hp
  go_enter Tryz.func52, Tryz.ntmps52
  go_wp2_with fail
  have c1 : (w.alloc (.cells #[.int .i64 E, .int .i64 F, .slice a ss.length cap] 24)).cell? ⟨w.heap.size, 1, none⟩ = some (.int .i64 F) := cell_new rfl rfl
  have gW : Grow w (w.alloc (.cells #[.int .i64 E, .int .i64 F, .slice a ss.length cap] 24)) := (Grow.refl w).alloc _
  obtain ⟨W, hW⟩ : ∃ z, w.alloc (.cells #[.int .i64 E, .int .i64 F, .slice a ss.length cap] 24) = z := ⟨_, rfl⟩
  obtain ⟨B, hB⟩ : ∃ z, w.heap.size = z := ⟨_, rfl⟩
  rw [hW] at c1 gW
  rw [hB] at c1
  rw [hW, hB]
  clear hW hB
  go_loopw [7, 8] (fun n i wr => ∃ (k c : Nat), k ≤ L.length ∧ i = .int .i64 k ∧ n = .int .i64 c ∧ c = (L.take k).countP (finalT F p) ∧ Grow W wr) (fun _ i _ => L.length - (intOf i).toNat)
  case atStart => exact ⟨0, 0, Nat.zero_le _, rfl, rfl, rfl, Grow.refl _⟩
  case round =>
    obtain ⟨k, c, hk, rfl, rfl, hcq, hg⟩ := hrel
    have hcl : c ≤ k := by rw [hcq]; exact Nat.le_trans List.countP_le_length (by simp; omega)
    by_cases hlt : k < L.length
    · obtain ⟨b, o, t, ta, tc, hx, rfl, hc, hsc, hs8, hs⟩ := Hat.out.get hlt
      have hc' := (gW.trans hg).keeps hc
      have e1 := hg.keeps c1
      have hpt := Hp.out t (List.mem_of_getElem? hx)
      have hct := countP_take (finalT F p) hx
      rw [← hcq] at hct
      have hI : IsInts wr (.slice ta t.length tc) t := ⟨ta, tc, rfl, hsc, hs8, hs.grow (gW.trans hg)⟩
      have HI := Lib.hid hI
      have Hcq := Lib.hid hcq
      have hkI : (k : Int) < L.length := by omega
      obtain ⟨q, hq⟩ : ∃ q, placeN t p = q := ⟨_, rfl⟩
      have hft : finalT F p t = decide ((q : Int) < F) := by unfold finalT; rw [hq]
      rw [hft] at hct
      have Hq := Lib.hid hq
      clear hx hc hs hI hcq hft hq
      cases hd : decide ((q : Int) < F)
      all_goals
        rw [hd] at hct
        have Hct := Lib.hid hct
        clear hct
        go_upto_region 5 with fail
        (refine wp_region_held_drew (S := fun Wx => Grow wr Wx ∧ Wx.cell? ⟨b, o + k, none⟩ = some (.slice ta t.length tc) ∧ Wx.cell? ⟨B, 1, none⟩ = some (.int .i64 F)) (by kernel_rfl) ⟨(Below.refl _ _).drew, Grow.keeps (Below.refl _ _).drew (by assumption), Grow.keeps (Below.refl _ _).drew (by assumption)⟩ (fun hHeld => ?_); refine wpAnyH_take (i := 0) (oi := _) (v := ?_) rfl (by kernel_rfl) (by kernel_rfl) (by kernel_rfl) (fun _ _ _ h => h) (Or.inl ⟨by rfl, ?_⟩) (by assumption) ?_; rotate_left; (focus (intro w hSw; (try dsimp only at hSw); go_simp; (try with_reducible rfl))); (try simp only [Act.put, List.setIfInBounds_toArray, List.set_cons_zero, List.set_cons_succ, List.getElem_toArray, List.getElem_cons_zero]); refine wpAnyH_take (i := 1) (oi := _) (v := ?_) rfl (by kernel_rfl) (by kernel_rfl) (by kernel_rfl) (fun _ _ _ h => h) (Or.inl ⟨by rfl, ?_⟩) (by assumption) ?_; rotate_left; (focus (intro w hSw; (try dsimp only at hSw); go_simp; (try with_reducible rfl))); (try simp only [Act.put, List.setIfInBounds_toArray, List.set_cons_zero, List.set_cons_succ, List.getElem_toArray, List.getElem_cons_zero, List.getElem_cons_succ]); refine wpAnyH_take (i := 2) (oi := _) (v := ?_) rfl (by kernel_rfl) (by kernel_rfl) (by kernel_rfl) (fun _ _ _ h => h) (Or.inl ⟨by rfl, ?_⟩) (by assumption) ?_; rotate_left; (focus (intro w hSw; (try dsimp only at hSw); go_simp; (try with_reducible rfl))); (try simp only [Act.put, List.setIfInBounds_toArray, List.set_cons_zero, List.set_cons_succ, List.getElem_toArray, List.getElem_cons_zero, List.getElem_cons_succ]); refine wpAnyH_take (i := 3) (oi := _) (v := ?_) rfl (by kernel_rfl) (by kernel_rfl) (by kernel_rfl) (fun _ _ _ h => h) (Or.inl ⟨by rfl, ?_⟩) (by assumption) ?_; rotate_left; (focus (intro w hSw; (try dsimp only at hSw); go_simp; (try with_reducible rfl))); (try simp only [Act.put, List.setIfInBounds_toArray, List.set_cons_zero, List.set_cons_succ, List.getElem_toArray, List.getElem_cons_zero, List.getElem_cons_succ]); refine wpAnyH_take (i := 4) (oi := _) (v := ?_) rfl (by kernel_rfl) (by kernel_rfl) (by kernel_rfl) (fun _ _ _ h => h) (Or.inl ⟨by rfl, ?_⟩) (by assumption) ?_; rotate_left; (focus (intro w hSw; (try dsimp only at hSw); go_simp; (try with_reducible rfl))); (try simp only [Act.put, List.setIfInBounds_toArray, List.set_cons_zero, List.set_cons_succ, List.getElem_toArray, List.getElem_cons_zero, List.getElem_cons_succ]); refine wpAnyH_take (i := 6) (oi := _) (v := ?_) rfl (by kernel_rfl) (by kernel_rfl) (by kernel_rfl) (fun _ _ _ h => h) (Or.inl ⟨by rfl, ?_⟩) (by assumption) ?_; rotate_left; (focus (intro w hSw; (try dsimp only at hSw); go_simp; (try with_reducible rfl))); (try simp only [Act.put, List.setIfInBounds_toArray, List.set_cons_zero, List.set_cons_succ, List.getElem_toArray, List.getElem_cons_zero, List.getElem_cons_succ]); refine wpAnyH_take (i := 7) (oi := _) (v := ?_) rfl (by kernel_rfl) (by kernel_rfl) (by kernel_rfl) (fun _ _ _ h => h) (Or.inl ⟨by rfl, ?_⟩) (by assumption) ?_; rotate_left; (focus (intro w hSw; (try dsimp only at hSw); go_simp; (try with_reducible rfl))); (try simp only [Act.put, List.setIfInBounds_toArray, List.set_cons_zero, List.set_cons_succ, List.getElem_toArray, List.getElem_cons_zero, List.getElem_cons_succ]); refine wpAnyH_ready (rs := [5]) (by kernel_rfl) (by simp) ?_; refine AllReadyH.cons (o := _) rfl (fun K hK => ?_) AllReadyH.nil; (try simp only [List.getElem_toArray, List.getElem_cons_zero, List.getElem_cons_succ]); go_simp; (go_at_call 57; refine (rPlaceOf_any _ t p _ (HI.out.grow (Grow.refl _).drew) hpt).mono ?_; rw [Hq.out]; rintro e w5 ⟨rfl, g5⟩); (try (go_wp2_with fail)); refine hK.out _ _ ?_ (fun hHeld => ?_); (focus ((try dsimp only); refine (fun (hG : Grow wr _) => ⟨hG, Grow.keeps hG (by assumption), Grow.keeps hG (by assumption)⟩) ?_; (try go_split_ands); first | assumption | exact Grow.trans (by assumption) (by assumption) | exact Below.trans (by assumption) (by assumption))); clear hK K; (try simp only [Act.put, List.setIfInBounds_toArray, List.set_cons_zero, List.set_cons_succ, List.getElem_toArray, List.getElem_cons_zero, List.getElem_cons_succ]); refine wpAnyH_take (i := 8) (oi := _) (v := ?_) rfl (by kernel_rfl) (by kernel_rfl) (by kernel_rfl) (fun _ _ _ h => h) (Or.inl ⟨by rfl, ?_⟩) (by assumption) ?_; rotate_left; (focus (intro w hSw; (try dsimp only at hSw); go_simp; (try with_reducible rfl))); (try simp only [Act.put, List.setIfInBounds_toArray, List.set_cons_zero, List.set_cons_succ, List.getElem_toArray, List.getElem_cons_zero, List.getElem_cons_succ]); refine wpAnyH_done (by kernel_rfl) ?_ _)
        have hG := hHeld.1
        go_wp2_with fail
        exact ⟨⟨k + 1, _, by omega, by go_num, by go_num, by rw [Hct.out]; simp, hg.trans hG⟩, by simp [intOf]; omega⟩
    · obtain rfl : k = L.length := by omega
      rw [List.take_length] at hcq
      have Hcq := Lib.hid hcq
      clear hcq
      go_wp2_with (go_at_call 58; refine (rso_any _ _ _).mono ?_; rintro e w5 ⟨rfl, rfl⟩)
      go_ret
      exact ⟨by unfold finalS; rw [← Hcq.out]; rfl, gW.trans hg⟩
end Go.Proofs.YtbeglemohfbdfaaGreat
