/- The reference of layer 7: orders, Orders, less, First, settled: they answer as the program does. Conditions: sizes. -/
import Derived.Test.YtbeglemohfbdfaaGreatRfI
import Derived.Test.YtbeglemohfbdfaaGreatCpL
namespace Go.Proofs.YtbeglemohfbdfaaGreat
open Go.RowKit

set_option maxRecDepth 100000 in
set_option maxHeartbeats 1000000 in
theorem rOrderOf2_any (v : Value) (t : List Int) (l : List Nat) (w : World) (hv : IsInts w v t) (hs : Srt t l) (hn : 1 ≤ t.length ∧ t.length ≤ 1000) :
    Calls Tryz.prog 55 #[v] w fun e w' => ∃ a c, e = .returned (.slice (some ⟨a, 0, none⟩) t.length c) ∧ IsInts w' (.slice (some ⟨a, 0, none⟩) t.length c) (natL l) ∧ w.heap.size ≤ a ∧ Grow w w' := by
  obtain ⟨s, cap, rfl, hcap, hlen, hrow⟩ := id hv
  have Hv := Lib.hid hv
  obtain ⟨i0, hi0, hi1, hi2, hi3⟩ := info_parts pinfo_int7
  have hu : Tryz.prog.underlying 38 = some (.slice 3) := by kernel_rfl
  clear hv hrow
  go_enter Tryz.func55, Tryz.ntmps55
  go_wp2_with (at_make; refine wpl_make _ rfl _ _ 38 rfl w.heap.size 3 i0 _ hu hi0 hi1 hi2 rfl _ _ t.length rfl rfl (by simp) (by simp) (by rw [hi3]; omega) (by simp only [maxLen]; omega) (Nat.le_refl _) ?_; intro w1 ho1 hg1)
  have HO := Lib.hid ho1
  have HS := Lib.hid hs
  clear ho1 hs
  go_loopw [4] (fun i wr => ∃ (k : Nat) (xs : List Int), k ≤ t.length ∧ i = .int .i64 k ∧ OrdTo t k xs ∧ Own wr w.heap.size 3 (.slice (some ⟨w.heap.size, 0, none⟩) t.length t.length) (xs.map (Value.int .i64)) ∧ Grow w wr) (fun i _ => t.length - (intOf i).toNat)
  case atStart => exact ⟨0, List.replicate t.length 0, Nat.zero_le _, rfl, ⟨by simp, fun j hj => absurd hj (Nat.not_lt_zero _)⟩, by rw [List.map_replicate]; exact HO.out, hg1⟩
  case round =>
    obtain ⟨k, xs, hk, rfl, hot, hown, hg⟩ := hrel
    have Hot := Lib.hid hot
    have Hown := Lib.hid hown
    clear hot hown
    by_cases hlt : k < t.length
    · obtain ⟨p, hp⟩ : ∃ p, placeN t k = p := ⟨_, rfl⟩
      have hpl : p < t.length := by rw [← hp]; exact place_lt hlt HS.out
      have hpi : (p : Int) < t.length := by omega
      have Hp := Lib.hid hp
      clear hp
      go_wp2_with (go_at_call 57; refine (rPlaceOf_any _ t k _ (Hv.out.grow hg) hlt).mono ?_; rw [Hp.out]; rintro e w5 ⟨rfl, g5⟩; have HO5 := Lib.hid (Hown.out.grow g5); have hot5 := HO5.out.hot p; have hat5 := HO5.out.at (by simp [Hot.out.1]) (i := p) (x := .int .i64 (xs[p]'(by have := Hot.out.1; omega))) (by simp [Hot.out.1, hpl]))
      have hq := (HO5.out.set (by simp [Hot.out.1]) p (.int .i64 (k : Int))).1
      rw [← List.map_set] at hq
      exact ⟨⟨k + 1, xs.set p k, by omega, by go_num, by have := Hot.out.step HS.out hlt; rw [Hp.out] at this; exact this, hq, Below.setCell (p := ⟨w.heap.size, p, none⟩) (hg.trans g5) (Nat.le_refl _) _⟩, by simp [intOf]; omega⟩
    · obtain rfl : k = t.length := by omega
      have hx := Hot.out.done HS.out
      subst hx
      go_wp2_with fail
      go_ret
      have hi := Hown.out.ints (by simp [natL, HS.out.len]; omega)
      exact ⟨_, _, rfl, hi, Nat.le_refl _, hg⟩
theorem natL_inj {a b : List Nat} : (natL a == natL b) = (a == b) := by
  rw [Bool.eq_iff_iff, beq_iff_eq, beq_iff_eq]
  constructor
  · intro h
    unfold natL at h
    exact (List.map_inj_right (fun x y e => Int.ofNat.inj e)).1 h
  · rintro rfl; rfl
theorem contains_take {A : List (List Nat)} {j : Nat} {x o : List Nat} (h : A[j]? = some x) : (A.take (j + 1)).contains o = ((A.take j).contains o || (x == o)) := by
  rw [Bool.eq_iff_iff, List.contains_iff_mem, take_get h]
  simp only [List.mem_append, List.mem_singleton, Bool.or_eq_true, List.contains_iff_mem, beq_iff_eq]
  exact or_congr_right eq_comm
set_option maxRecDepth 100000 in
set_option maxHeartbeats 2000000 in
theorem rorders_any (v : Value) (L : List (List Int)) (w : World) (hv : IsSheets w v L) (hL : ∀ t ∈ L, 1 ≤ t.length ∧ t.length ≤ 1000) (hl : L.length ≤ 200000) :
    Calls Tryz.prog 61 #[v] w (SheetsPost w ((ordsL L).map natL)) := by
  obtain ⟨a, cap, rfl, _, _, hat⟩ := hv
  obtain ⟨i0, hi0, hi1, hi2, hi3⟩ := info_parts pinfo_ints7
  have hu : Tryz.prog.underlying 22 = some (.slice 38) := by kernel_rfl
  have Hat := Lib.hid hat
  have HL := Lib.hid hL
  clear hat hL
  go_enter Tryz.func61, Tryz.ntmps61
  go_wp2_with fail
  go_loopw [3, 4] (fun u i wr => ∃ (k : Nat) (ov : Value) (vs : List Value), ov = u ∧ k ≤ L.length ∧ i = .int .i64 k ∧ Own wr w.heap.size 38 ov vs ∧ Rows2 wr ov vs ((ordsTo L k).map natL) ∧ Grow w wr) (fun _ i _ => L.length - (intOf i).toNat)
  case atStart => exact ⟨0, _, [], rfl, Nat.zero_le _, rfl, Own.nil _ _ _, Rows2.nil _ _, Grow.refl _⟩
  case round =>
    obtain ⟨k, ov, vs, rfl, hk, rfl, hown, hrows, hg⟩ := hrel
    have hAl := ordsTo_len L k
    obtain ⟨A, hA⟩ : ∃ z, ordsTo L k = z := ⟨_, rfl⟩
    rw [hA] at hrows hAl
    have hsh := hrows.sheets hown (by simp; omega)
    have hvl : vs.length = A.length := by rw [hrows.1]; simp
    obtain ⟨va, vc, e1, _, _, hva⟩ := id hsh
    subst e1
    rw [List.length_map] at hown hrows ⊢
    have Hown := Lib.hid hown
    have Hrows := Lib.hid hrows
    have Hva := Lib.hid hva
    have Hvl := Lib.hid hvl
    have HA := Lib.hid hA
    clear hown hrows hva hsh hvl hA
    by_cases hlt : k < L.length
    · obtain ⟨b, o, t, ta, tc, hx, rfl, hc, hsc, hs8, hs⟩ := Hat.out.get hlt
      have hc' := hg.keeps hc
      have hlb := lt_of_cell hc'
      have ht := HL.out t (List.mem_of_getElem? hx)
      have hst := ordsTo_succ hx
      rw [HA.out] at hst
      obtain ⟨q, hq⟩ : ∃ z, ordL t = z := ⟨_, rfl⟩
      have hsq : Srt t q := by rw [← hq]; exact ordL_srt t
      unfold ordStep at hst
      rw [hq] at hst
      have hI : IsInts wr (.slice ta t.length tc) t := ⟨ta, tc, rfl, hsc, hs8, hs.grow hg⟩
      have HI := Lib.hid hI
      have Hsq := Lib.hid hsq
      have hkI : (k : Int) < L.length := by omega
      have hE2 : decide ((k : Int) < (L.length : Int)) = true := decide_eq_true hkI
      clear hx hc hs hI hq hsq
      have hwr := hg.size
      go_wp2_with (go_at_call 55; refine (rOrderOf2_any _ t q _ HI.out Hsq.out ht).mono ?_; rintro e w5 ⟨oa, oc, rfl, hO, hge, g5⟩; have HO := Lib.hid hO; clear hO)
      (try rw [hE2])
      clear hE2
      go_loopw [6, 7] (fun r i wz => ∃ (j : Nat) (c : Bool), j ≤ A.length ∧ i = .int .i64 j ∧ r = .bool c ∧ c = (A.take j).contains q ∧ Grow w5 wz) (fun _ i _ => A.length - (intOf i).toNat)
      case atStart => exact ⟨0, false, Nat.zero_le _, rfl, rfl, rfl, Grow.refl _⟩
      case round =>
        rename_i wz0 _ _
        obtain ⟨j, c, hj, rfl, rfl, hcq, hg2⟩ := hrel
        have Hcq := Lib.hid hcq
        clear hcq
        by_cases hjl : j < A.length
        · obtain ⟨b2, o2, x, xa, xc, hx2, rfl, hc2, hxsc, hxs8, hxs⟩ := Hva.out.get (i := j) (by simpa using hjl)
          rw [List.getElem?_map] at hx2
          obtain ⟨x', hx', rfl⟩ := Option.map_eq_some_iff.1 hx2
          have hcs := contains_take (o := q) hx'
          rw [← Hcq.out] at hcs
          have hc2' := (g5.trans hg2).keeps hc2
          have hlc2 := lt_of_cell hc2'
          have hIx : Hid (IsInts wr (.slice xa (natL x').length xc) (natL x')) := ⟨xa, xc, rfl, hxsc, hxs8, hxs.grow (g5.trans hg2)⟩
          have hjI : (j : Int) < A.length := by omega
          clear hx2 hx' hc2 hxs hxsc hxs8
          cases c
          · rw [Bool.false_or] at hcs
            have Hcs := Lib.hid hcs
            clear hcs
            go_wp2_with (go_at_call 25; refine (rInts_any _ _ _ _ _ hIx.out (HO.out.grow hg2)).mono ?_; rw [natL_inj]; rintro e w6 ⟨rfl, g6⟩)
            exact ⟨⟨j + 1, _, by omega, by go_num, rfl, Hcs.out.symm, hg2.trans g6⟩, by simp [intOf]; omega⟩
          · rw [Bool.true_or] at hcs
            have Hcs := Lib.hid hcs
            clear hcs
            go_wp2_with fail
            exact ⟨⟨j + 1, _, by omega, by go_num, rfl, Hcs.out.symm, hg2⟩, by simp [intOf]; omega⟩
        · obtain rfl : j = A.length := by omega
          have hcq := Hcq.out
          rw [List.take_length] at hcq
          have gZ := (hg.trans g5).trans hg2
          have hownZ := Hown.out.grow (g5.trans hg2)
          have hrowZ := Hrows.out.grow (g5.trans hg2)
          have HOZ := Lib.hid (HO.out.grow hg2)
          cases c
          · rw [← hcq, if_neg (by decide)] at hst
            have Hst := Lib.hid hst
            have hbl := fun k hk => (Hown.out.lt k hk).2
            have hwz := (g5.trans hg2).size
            have HownZ := Lib.hid hownZ
            have HrowZ := Lib.hid hrowZ
            have Hbl := Lib.hid hbl
            clear hst hcq hownZ hrowZ hbl
            go_wp2_with (at_builtin; refine wpl_app rfl _ _ 22 rfl w.heap.size 38 i0 _ 24 hu hi0 hi1 hi2 hi3 rfl (.slice va A.length vc) vs rfl (HownZ.out.alloc _) _ _ [.slice (some ⟨oa, 0, none⟩) t.length oc] 1 rfl rfl (fun h => nomatch h) (row_new1 _ _ _ (by first | rfl | simp)) (by simp [Value.oneCell']) (by have := Hvl.out; simp; omega) (by omega) (by simp; omega) ?_; intro v' wq hown1 hgr1 hmv1)
            have gq : Grow w wq := Below.trans (gZ.alloc _) (grownBy_below hgr1 (fun k hk => HownZ.out.base k hk) (by simp; omega))
            have hne : (some oa : Option Nat) ≠ (Value.slice va A.length vc).ownBlock := fun e => by have := Hbl.out oa e.symm; omega
            have hIq := (HOZ.out.grow ((Grow.refl _).alloc (.cells #[.slice (some ⟨oa, 0, none⟩) t.length oc] 38))).kept hgr1 (.inr hne)
            have hr1 := ((HrowZ.out.grow ((Grow.refl _).alloc (.cells #[.slice (some ⟨oa, 0, none⟩) t.length oc] 38))).kept hgr1 hmv1).snoc hIq (.inr (fun e => by
              rcases hmv1 with h | h
              · exact hne (e.trans h)
              · have := h oa e.symm
                obtain ⟨kk, hkk, hlk⟩ := HOZ.out.lt (fun h => by have h1 : (natL q).length = 0 := (by rw [h]; rfl); have h2 := Hsq.out.len; rw [show (natL q).length = q.length by simp [natL]] at h1; omega)
                have hko : oa = kk := by have h2 : some oa = some kk := hkk; injection h2
                simp at this
                omega))
            exact ⟨⟨k + 1, v', _, rfl, by omega, by go_num, hown1, by rw [Hst.out, List.map_append]; exact hr1, gq⟩, by simp [intOf]; omega⟩
          · rw [← hcq, if_pos rfl] at hst
            have Hst := Lib.hid hst
            clear hst hcq
            go_wp2_with fail
            exact ⟨⟨k + 1, _, vs, rfl, by omega, by go_num, hownZ, by rw [Hst.out]; exact hrowZ, gZ⟩, by simp [intOf]; omega⟩
    · obtain rfl : k = L.length := by omega
      rw [ordsTo_all] at HA
      go_wp2_with fail
      go_ret
      exact ⟨_, rfl, by rw [HA.out]; exact Hrows.out.sheets Hown.out (by simp; omega), hg⟩
theorem rOrders_any (E F : Int) (v : Value) (ss : List (List Int)) (w : World) (hv : IsSheets w v ss) :
    Calls Tryz.prog 20 #[.agg #[.int .i64 E, .int .i64 F, v]] w fun e w' => e = .returned (.tuple #[.int .i64 (ordersV E F ss), .int .i64 (errOf E F ss true)]) ∧ Grow w w' := by
  obtain ⟨a, cap, rfl, hcap, hlen, hrow⟩ := id hv
  have Hv := Lib.hid hv
  clear hv hrow
  obtain ⟨c, hc⟩ : ∃ c, errOf E F ss true = c := ⟨_, rfl⟩
  have He := Lib.hid hc
  by_cases h0 : c = 0
  · subst h0
    obtain ⟨hval, _, hfe⟩ := errOf_all hc
    have hLn := truths_len hval
    have hto : toldL E F ss true = truthsL E ss := by unfold toldL; rw [if_pos hc]
    have hTr : ∀ t ∈ truthsL E ss, 1 ≤ t.length ∧ t.length ≤ 1000 := fun t ht => by
      obtain ⟨_, hn6, _, _⟩ := valid_parts hval
      have := (mem_truths.1 ht).1
      rw [clocks_len] at this
      omega
    have hov : ordersV E F ss = ((ordsL (truthsL E ss)).length : Nat) := by
      unfold ordersV
      rw [if_pos hc, ords_len (clocks_nonneg E ss) (L := truthsL E ss) fun t => mem_truths]
    obtain ⟨L, hL⟩ : ∃ z, truthsL E ss = z := ⟨_, rfl⟩
    rw [hL] at hLn hto hTr hov
    have Hto := Lib.hid hto
    have HTr := Lib.hid hTr
    have Hov := Lib.hid hov
    clear hc hto hTr hL hval hfe hov
    go_enter Tryz.func20, Tryz.ntmps20
    go_wp2_with first | (go_at_call 37; refine (rtold_any E F _ ss _ _ (Hv.out.grow ((Grow.refl w).alloc _))).mono ?_; rintro e w1 ⟨ov, rfl, hs1, g1⟩; rw [He.out]; obtain ⟨oa, oc, rfl, _, _, _⟩ := id hs1; rw [Hto.out] at hs1 ⊢; have Hs1 := Lib.hid hs1; clear hs1) | (go_at_call 61; refine (rorders_any _ L _ Hs1.out HTr.out (by omega)).mono ?_; rintro e w2 ⟨ov2, rfl, hs2, g2⟩; obtain ⟨oa2, oc2, rfl, _, _, _⟩ := hs2)
    go_ret2
    exact ⟨by rw [Hov.out, He.out]; simp, (((Grow.refl w).alloc _).trans g1).trans g2⟩
  · have hne : (c != 0) = true := by simpa using h0
    have hbad : ordersV E F ss = 0 := if_neg (by rw [hc]; exact h0)
    have Hbad := Lib.hid hbad
    clear hc hbad
    go_enter Tryz.func20, Tryz.ntmps20
    go_wp2_with (go_at_call 37; refine (rtold_any E F _ ss _ _ (Hv.out.grow ((Grow.refl w).alloc _))).mono ?_; rintro e w1 ⟨ov, rfl, hs1, g1⟩; rw [He.out]; obtain ⟨oa, oc, rfl, _, _, _⟩ := id hs1; clear hs1)
    go_ret2
    exact ⟨by rw [Hbad.out, He.out]; rfl, ((Grow.refl w).alloc _).trans g1⟩
set_option maxRecDepth 100000 in
theorem rless_any (u v : Value) (x y : List Nat) (w : World) (hu : IsInts w u (natL x)) (hv : IsInts w v (natL y)) (hl : x.length = y.length) :
    Calls Tryz.prog 64 #[u, v] w fun e w' => e = .returned (.bool (lltB x y)) ∧ Grow w w' := by
  obtain ⟨a, cap, rfl, hcap, hlen, hrow⟩ := hu
  obtain ⟨a', cap', rfl, hcap', hlen', hrow'⟩ := hv
  have e1 : (natL x).length = x.length := by simp [natL]
  have e2 : (natL y).length = x.length := by simp [natL, hl]
  have hx8 : x.length ≤ 20000000000000 := by rw [e1] at hlen; omega
  rw [e1, e2]
  have Hrow := Lib.hid hrow
  have Hrow' := Lib.hid hrow'
  have E1 := Lib.hid e1
  have E2 := Lib.hid e2
  have Hl := Lib.hid hl
  clear hrow hrow' e1 e2 hl hcap hcap' hlen hlen'
  go_enter Tryz.func64, Tryz.ntmps64
  go_wp2_with fail
  go_loopw [5] (fun i wr => ∃ k : Nat, k ≤ x.length ∧ i = .int .i64 k ∧ x.take k = y.take k ∧ Grow w wr) (fun i _ => x.length - (intOf i).toNat)
  case atStart => exact ⟨0, Nat.zero_le _, rfl, rfl, Grow.refl _⟩
  case round =>
    obtain ⟨k, hk, rfl, htk, hg⟩ := hrel
    have Htk := Lib.hid htk
    clear htk
    by_cases hlt : k < x.length
    · obtain ⟨b, o, p, hp, rfl, hc⟩ := Hrow.out.int (i := k) (by rw [E1.out]; exact hlt)
      obtain ⟨b', o', q, hq, rfl, hc'⟩ := Hrow'.out.int (i := k) (by rw [E2.out]; exact hlt)
      obtain ⟨m, hm⟩ : ∃ m, x[k]? = some m := ⟨_, List.getElem?_eq_getElem hlt⟩
      obtain ⟨n, hn⟩ : ∃ n, y[k]? = some n := ⟨_, List.getElem?_eq_getElem (by rw [← Hl.out]; exact hlt)⟩
      obtain rfl : p = (m : Int) := by have := hp; simp [natL, hm] at this; exact this.symm
      obtain rfl : q = (n : Int) := by have := hq; simp [natL, hn] at this; exact this.symm
      have hc := hg.keeps hc
      have hc' := hg.keeps hc'
      have hlc := lt_of_cell hc
      have hlc' := lt_of_cell hc'
      have hkI : (k : Int) < x.length := by omega
      have Hm := Lib.hid hm
      have Hn := Lib.hid hn
      clear hp hq hm hn
      by_cases hmn : m = n
      · subst hmn
        go_upto_region 4 with fail
        (refine wp_region_held_drew (S := fun Wx => Grow wr Wx ∧ Wx.cell? ⟨b, o + k, none⟩ = some (.int .i64 (m : Int)) ∧ Wx.cell? ⟨b', o' + k, none⟩ = some (.int .i64 (m : Int))) (by kernel_rfl) ⟨(Below.refl _ _).drew, Grow.keeps (Below.refl _ _).drew (by assumption), Grow.keeps (Below.refl _ _).drew (by assumption)⟩ (fun hHeld => ?_); refine wpAnyH_take (i := 0) (oi := _) (v := ?_) rfl (by kernel_rfl) (by kernel_rfl) (by kernel_rfl) (fun _ _ _ h => h) (Or.inl ⟨by rfl, ?_⟩) (by assumption) ?_; rotate_left; (focus (intro w hSw; (try dsimp only at hSw); go_simp; (try with_reducible rfl))); (try simp only [Act.put, List.setIfInBounds_toArray, List.set_cons_zero, List.set_cons_succ, List.getElem_toArray, List.getElem_cons_zero]); refine wpAnyH_take (i := 1) (oi := _) (v := ?_) rfl (by kernel_rfl) (by kernel_rfl) (by kernel_rfl) (fun _ _ _ h => h) (Or.inl ⟨by rfl, ?_⟩) (by assumption) ?_; rotate_left; (focus (intro w hSw; (try dsimp only at hSw); go_simp; (try with_reducible rfl))); (try simp only [Act.put, List.setIfInBounds_toArray, List.set_cons_zero, List.set_cons_succ, List.getElem_toArray, List.getElem_cons_zero, List.getElem_cons_succ]); refine wpAnyH_take (i := 2) (oi := _) (v := ?_) rfl (by kernel_rfl) (by kernel_rfl) (by kernel_rfl) (fun _ _ _ h => h) (Or.inl ⟨by rfl, ?_⟩) (by assumption) ?_; rotate_left; (focus (intro w hSw; (try dsimp only at hSw); go_simp; (try with_reducible rfl))); (try simp only [Act.put, List.setIfInBounds_toArray, List.set_cons_zero, List.set_cons_succ, List.getElem_toArray, List.getElem_cons_zero, List.getElem_cons_succ]); refine wpAnyH_take (i := 3) (oi := _) (v := ?_) rfl (by kernel_rfl) (by kernel_rfl) (by kernel_rfl) (fun _ _ _ h => h) (Or.inl ⟨by rfl, ?_⟩) (by assumption) ?_; rotate_left; (focus (intro w hSw; (try dsimp only at hSw); go_simp; (try with_reducible rfl))); (try simp only [Act.put, List.setIfInBounds_toArray, List.set_cons_zero, List.set_cons_succ, List.getElem_toArray, List.getElem_cons_zero, List.getElem_cons_succ]); refine wpAnyH_take (i := 4) (oi := _) (v := ?_) rfl (by kernel_rfl) (by kernel_rfl) (by kernel_rfl) (fun _ _ _ h => h) (Or.inl ⟨by rfl, ?_⟩) (by assumption) ?_; rotate_left; (focus (intro w hSw; (try dsimp only at hSw); go_simp; (try with_reducible rfl))); (try simp only [Act.put, List.setIfInBounds_toArray, List.set_cons_zero, List.set_cons_succ, List.getElem_toArray, List.getElem_cons_zero, List.getElem_cons_succ]); refine wpAnyH_take (i := 5) (oi := _) (v := ?_) rfl (by kernel_rfl) (by kernel_rfl) (by kernel_rfl) (fun _ _ _ h => h) (Or.inl ⟨by rfl, ?_⟩) (by assumption) ?_; rotate_left; (focus (intro w hSw; (try dsimp only at hSw); go_simp; (try with_reducible rfl))); (try simp only [Act.put, List.setIfInBounds_toArray, List.set_cons_zero, List.set_cons_succ, List.getElem_toArray, List.getElem_cons_zero, List.getElem_cons_succ]); refine wpAnyH_take (i := 6) (oi := _) (v := ?_) rfl (by kernel_rfl) (by kernel_rfl) (by kernel_rfl) (fun _ _ _ h => h) (Or.inl ⟨by rfl, ?_⟩) (by assumption) ?_; rotate_left; (focus (intro w hSw; (try dsimp only at hSw); go_simp; (try with_reducible rfl))); (try simp only [Act.put, List.setIfInBounds_toArray, List.set_cons_zero, List.set_cons_succ, List.getElem_toArray, List.getElem_cons_zero, List.getElem_cons_succ]); refine wpAnyH_take (i := 7) (oi := _) (v := ?_) rfl (by kernel_rfl) (by kernel_rfl) (by kernel_rfl) (fun _ _ _ h => h) (Or.inl ⟨by rfl, ?_⟩) (by assumption) ?_; rotate_left; (focus (intro w hSw; (try dsimp only at hSw); go_simp; (try with_reducible rfl))); (try simp only [Act.put, List.setIfInBounds_toArray, List.set_cons_zero, List.set_cons_succ, List.getElem_toArray, List.getElem_cons_zero, List.getElem_cons_succ]); refine wpAnyH_take (i := 8) (oi := _) (v := ?_) rfl (by kernel_rfl) (by kernel_rfl) (by kernel_rfl) (fun _ _ _ h => h) (Or.inl ⟨by rfl, ?_⟩) (by assumption) ?_; rotate_left; (focus (intro w hSw; (try dsimp only at hSw); go_simp; (try with_reducible rfl))); (try simp only [Act.put, List.setIfInBounds_toArray, List.set_cons_zero, List.set_cons_succ, List.getElem_toArray, List.getElem_cons_zero, List.getElem_cons_succ]); refine wpAnyH_done (by kernel_rfl) ?_ _)
        go_wp2_with fail
        exact ⟨⟨k + 1, by omega, by go_num, by rw [take_get Hm.out, take_get Hn.out, Htk.out], hg.trans hHeld.1⟩, by simp [intOf]; omega⟩
      · have hr := lltB_at Htk.out Hm.out Hn.out hmn
        have Hr := Lib.hid hr
        have f1 : ((m : Int) != (n : Int)) = true := by simp; omega
        clear hr
        go_upto_region 4 with fail
        (refine wp_region_held_drew (S := fun Wx => Grow wr Wx ∧ Wx.cell? ⟨b, o + k, none⟩ = some (.int .i64 (m : Int)) ∧ Wx.cell? ⟨b', o' + k, none⟩ = some (.int .i64 (n : Int))) (by kernel_rfl) ⟨(Below.refl _ _).drew, Grow.keeps (Below.refl _ _).drew (by assumption), Grow.keeps (Below.refl _ _).drew (by assumption)⟩ (fun hHeld => ?_); refine wpAnyH_take (i := 0) (oi := _) (v := ?_) rfl (by kernel_rfl) (by kernel_rfl) (by kernel_rfl) (fun _ _ _ h => h) (Or.inl ⟨by rfl, ?_⟩) (by assumption) ?_; rotate_left; (focus (intro w hSw; (try dsimp only at hSw); go_simp; (try with_reducible rfl))); (try simp only [Act.put, List.setIfInBounds_toArray, List.set_cons_zero, List.set_cons_succ, List.getElem_toArray, List.getElem_cons_zero]); refine wpAnyH_take (i := 1) (oi := _) (v := ?_) rfl (by kernel_rfl) (by kernel_rfl) (by kernel_rfl) (fun _ _ _ h => h) (Or.inl ⟨by rfl, ?_⟩) (by assumption) ?_; rotate_left; (focus (intro w hSw; (try dsimp only at hSw); go_simp; (try with_reducible rfl))); (try simp only [Act.put, List.setIfInBounds_toArray, List.set_cons_zero, List.set_cons_succ, List.getElem_toArray, List.getElem_cons_zero, List.getElem_cons_succ]); refine wpAnyH_take (i := 2) (oi := _) (v := ?_) rfl (by kernel_rfl) (by kernel_rfl) (by kernel_rfl) (fun _ _ _ h => h) (Or.inl ⟨by rfl, ?_⟩) (by assumption) ?_; rotate_left; (focus (intro w hSw; (try dsimp only at hSw); go_simp; (try with_reducible rfl))); (try simp only [Act.put, List.setIfInBounds_toArray, List.set_cons_zero, List.set_cons_succ, List.getElem_toArray, List.getElem_cons_zero, List.getElem_cons_succ]); refine wpAnyH_take (i := 3) (oi := _) (v := ?_) rfl (by kernel_rfl) (by kernel_rfl) (by kernel_rfl) (fun _ _ _ h => h) (Or.inl ⟨by rfl, ?_⟩) (by assumption) ?_; rotate_left; (focus (intro w hSw; (try dsimp only at hSw); go_simp; (try with_reducible rfl))); (try simp only [Act.put, List.setIfInBounds_toArray, List.set_cons_zero, List.set_cons_succ, List.getElem_toArray, List.getElem_cons_zero, List.getElem_cons_succ]); refine wpAnyH_take (i := 4) (oi := _) (v := ?_) rfl (by kernel_rfl) (by kernel_rfl) (by kernel_rfl) (fun _ _ _ h => h) (Or.inl ⟨by rfl, ?_⟩) (by assumption) ?_; rotate_left; (focus (intro w hSw; (try dsimp only at hSw); go_simp; (try with_reducible rfl))); (try simp only [Act.put, List.setIfInBounds_toArray, List.set_cons_zero, List.set_cons_succ, List.getElem_toArray, List.getElem_cons_zero, List.getElem_cons_succ]); refine wpAnyH_take (i := 5) (oi := _) (v := ?_) rfl (by kernel_rfl) (by kernel_rfl) (by kernel_rfl) (fun _ _ _ h => h) (Or.inl ⟨by rfl, ?_⟩) (by assumption) ?_; rotate_left; (focus (intro w hSw; (try dsimp only at hSw); go_simp; (try with_reducible rfl))); (try simp only [Act.put, List.setIfInBounds_toArray, List.set_cons_zero, List.set_cons_succ, List.getElem_toArray, List.getElem_cons_zero, List.getElem_cons_succ]); refine wpAnyH_take (i := 6) (oi := _) (v := ?_) rfl (by kernel_rfl) (by kernel_rfl) (by kernel_rfl) (fun _ _ _ h => h) (Or.inl ⟨by rfl, ?_⟩) (by assumption) ?_; rotate_left; (focus (intro w hSw; (try dsimp only at hSw); go_simp; (try with_reducible rfl))); (try simp only [Act.put, List.setIfInBounds_toArray, List.set_cons_zero, List.set_cons_succ, List.getElem_toArray, List.getElem_cons_zero, List.getElem_cons_succ]); refine wpAnyH_take (i := 7) (oi := _) (v := ?_) rfl (by kernel_rfl) (by kernel_rfl) (by kernel_rfl) (fun _ _ _ h => h) (Or.inl ⟨by rfl, ?_⟩) (by assumption) ?_; rotate_left; (focus (intro w hSw; (try dsimp only at hSw); go_simp; (try with_reducible rfl))); (try simp only [Act.put, List.setIfInBounds_toArray, List.set_cons_zero, List.set_cons_succ, List.getElem_toArray, List.getElem_cons_zero, List.getElem_cons_succ]); refine wpAnyH_take (i := 8) (oi := _) (v := ?_) rfl (by kernel_rfl) (by kernel_rfl) (by kernel_rfl) (fun _ _ _ h => h) (Or.inl ⟨by rfl, ?_⟩) (by assumption) ?_; rotate_left; (focus (intro w hSw; (try dsimp only at hSw); go_simp; (try with_reducible rfl))); (try simp only [Act.put, List.setIfInBounds_toArray, List.set_cons_zero, List.set_cons_succ, List.getElem_toArray, List.getElem_cons_zero, List.getElem_cons_succ]); refine wpAnyH_done (by kernel_rfl) ?_ _)
        have gA := hHeld.1
        have hc := gA.keeps hc
        have hc' := gA.keeps hc'
        clear hHeld
        go_upto_region 5 with fail
        (refine wp_region_held_drew (S := fun Wx => Grow wr.drew Wx ∧ Wx.cell? ⟨b, o + k, none⟩ = some (.int .i64 (m : Int)) ∧ Wx.cell? ⟨b', o' + k, none⟩ = some (.int .i64 (n : Int))) (by kernel_rfl) ⟨(Below.refl _ _).drew, Grow.keeps (Below.refl _ _).drew (by assumption), Grow.keeps (Below.refl _ _).drew (by assumption)⟩ (fun hHeld => ?_); refine wpAnyH_take (i := 0) (oi := _) (v := ?_) rfl (by kernel_rfl) (by kernel_rfl) (by kernel_rfl) (fun _ _ _ h => h) (Or.inl ⟨by rfl, ?_⟩) (by assumption) ?_; rotate_left; (focus (intro w hSw; (try dsimp only at hSw); go_simp; (try with_reducible rfl))); (try simp only [Act.put, List.setIfInBounds_toArray, List.set_cons_zero, List.set_cons_succ, List.getElem_toArray, List.getElem_cons_zero]); refine wpAnyH_take (i := 1) (oi := _) (v := ?_) rfl (by kernel_rfl) (by kernel_rfl) (by kernel_rfl) (fun _ _ _ h => h) (Or.inl ⟨by rfl, ?_⟩) (by assumption) ?_; rotate_left; (focus (intro w hSw; (try dsimp only at hSw); go_simp; (try with_reducible rfl))); (try simp only [Act.put, List.setIfInBounds_toArray, List.set_cons_zero, List.set_cons_succ, List.getElem_toArray, List.getElem_cons_zero, List.getElem_cons_succ]); refine wpAnyH_take (i := 2) (oi := _) (v := ?_) rfl (by kernel_rfl) (by kernel_rfl) (by kernel_rfl) (fun _ _ _ h => h) (Or.inl ⟨by rfl, ?_⟩) (by assumption) ?_; rotate_left; (focus (intro w hSw; (try dsimp only at hSw); go_simp; (try with_reducible rfl))); (try simp only [Act.put, List.setIfInBounds_toArray, List.set_cons_zero, List.set_cons_succ, List.getElem_toArray, List.getElem_cons_zero, List.getElem_cons_succ]); refine wpAnyH_take (i := 3) (oi := _) (v := ?_) rfl (by kernel_rfl) (by kernel_rfl) (by kernel_rfl) (fun _ _ _ h => h) (Or.inl ⟨by rfl, ?_⟩) (by assumption) ?_; rotate_left; (focus (intro w hSw; (try dsimp only at hSw); go_simp; (try with_reducible rfl))); (try simp only [Act.put, List.setIfInBounds_toArray, List.set_cons_zero, List.set_cons_succ, List.getElem_toArray, List.getElem_cons_zero, List.getElem_cons_succ]); refine wpAnyH_take (i := 4) (oi := _) (v := ?_) rfl (by kernel_rfl) (by kernel_rfl) (by kernel_rfl) (fun _ _ _ h => h) (Or.inl ⟨by rfl, ?_⟩) (by assumption) ?_; rotate_left; (focus (intro w hSw; (try dsimp only at hSw); go_simp; (try with_reducible rfl))); (try simp only [Act.put, List.setIfInBounds_toArray, List.set_cons_zero, List.set_cons_succ, List.getElem_toArray, List.getElem_cons_zero, List.getElem_cons_succ]); refine wpAnyH_take (i := 5) (oi := _) (v := ?_) rfl (by kernel_rfl) (by kernel_rfl) (by kernel_rfl) (fun _ _ _ h => h) (Or.inl ⟨by rfl, ?_⟩) (by assumption) ?_; rotate_left; (focus (intro w hSw; (try dsimp only at hSw); go_simp; (try with_reducible rfl))); (try simp only [Act.put, List.setIfInBounds_toArray, List.set_cons_zero, List.set_cons_succ, List.getElem_toArray, List.getElem_cons_zero, List.getElem_cons_succ]); refine wpAnyH_take (i := 6) (oi := _) (v := ?_) rfl (by kernel_rfl) (by kernel_rfl) (by kernel_rfl) (fun _ _ _ h => h) (Or.inl ⟨by rfl, ?_⟩) (by assumption) ?_; rotate_left; (focus (intro w hSw; (try dsimp only at hSw); go_simp; (try with_reducible rfl))); (try simp only [Act.put, List.setIfInBounds_toArray, List.set_cons_zero, List.set_cons_succ, List.getElem_toArray, List.getElem_cons_zero, List.getElem_cons_succ]); refine wpAnyH_take (i := 7) (oi := _) (v := ?_) rfl (by kernel_rfl) (by kernel_rfl) (by kernel_rfl) (fun _ _ _ h => h) (Or.inl ⟨by rfl, ?_⟩) (by assumption) ?_; rotate_left; (focus (intro w hSw; (try dsimp only at hSw); go_simp; (try with_reducible rfl))); (try simp only [Act.put, List.setIfInBounds_toArray, List.set_cons_zero, List.set_cons_succ, List.getElem_toArray, List.getElem_cons_zero, List.getElem_cons_succ]); refine wpAnyH_take (i := 8) (oi := _) (v := ?_) rfl (by kernel_rfl) (by kernel_rfl) (by kernel_rfl) (fun _ _ _ h => h) (Or.inl ⟨by rfl, ?_⟩) (by assumption) ?_; rotate_left; (focus (intro w hSw; (try dsimp only at hSw); go_simp; (try with_reducible rfl))); (try simp only [Act.put, List.setIfInBounds_toArray, List.set_cons_zero, List.set_cons_succ, List.getElem_toArray, List.getElem_cons_zero, List.getElem_cons_succ]); refine wpAnyH_take (i := 9) (oi := _) (v := ?_) rfl (by kernel_rfl) (by kernel_rfl) (by kernel_rfl) (fun _ _ _ h => h) (Or.inl ⟨by rfl, ?_⟩) (by assumption) ?_; rotate_left; (focus (intro w hSw; (try dsimp only at hSw); go_simp; (try with_reducible rfl))); (try simp only [Act.put, List.setIfInBounds_toArray, List.set_cons_zero, List.set_cons_succ, List.getElem_toArray, List.getElem_cons_zero, List.getElem_cons_succ]); refine wpAnyH_done (by kernel_rfl) ?_ _)
        have gB := hHeld.1
        go_wp2_with fail
        go_ret
        exact ⟨by rw [Hr.out]; simp, (hg.trans gA).trans gB⟩
    · have h3 : x = y := by
        have h1 : x.take k = x := List.take_of_length_le (by omega)
        have h2 : y.take k = y := List.take_of_length_le (by have := Hl.out; omega)
        rw [← h1, Htk.out, h2]
      have Hr : Hid (lltB x y = false) := by show _ = _; rw [h3]; exact lltB_same y
      clear h3
      go_wp2_with fail
      go_ret
      exact ⟨by rw [Hr.out]; rfl, hg⟩

def RFirstPost (E F : Int) (ss : List (List Int)) (w : World) (e : Ending) (w' : World) : Prop :=
  ∃ v, e = .returned (.tuple #[v, .int .i64 (errOf E F ss true)]) ∧ IsInts w' v (natL (firstL E F ss)) ∧ Grow w w'
set_option maxRecDepth 100000 in
set_option maxHeartbeats 1000000 in
theorem rFirst_any (E F : Int) (v : Value) (ss : List (List Int)) (w : World) (hv : IsSheets w v ss) :
    Calls Tryz.prog 22 #[.agg #[.int .i64 E, .int .i64 F, v]] w (RFirstPost E F ss w) := by
  obtain ⟨a, cap, rfl, hcap, hlen, hrow⟩ := id hv
  have Hv := Lib.hid hv
  clear hv hrow
  obtain ⟨c, hc⟩ : ∃ c, errOf E F ss true = c := ⟨_, rfl⟩
  have He := Lib.hid hc
  by_cases h0 : c = 0
  · subst h0
    obtain ⟨hval, _, hfe⟩ := errOf_all hc
    have hfeas := feasB_iff.1 hfe
    have hLn := truths_len hval
    have hto : toldL E F ss true = truthsL E ss := by unfold toldL; rw [if_pos hc]
    have hTr : ∀ t ∈ truthsL E ss, t.length = ss.length := fun t ht => by rw [(mem_truths.1 ht).1, clocks_len]
    obtain ⟨_, hn6, _, _⟩ := valid_parts hval
    have hfi : firstL E F ss = bestTo (ordsL (truthsL E ss)) (ordsL (truthsL E ss)).length := by
      unfold firstL
      rw [if_pos hc, best_first (clocks_nonneg E ss) hfeas fun t => mem_truths]
    have hAn : 0 < (ordsL (truthsL E ss)).length := by
      rw [ords_len (clocks_nonneg E ss) (L := truthsL E ss) fun t => mem_truths]
      exact List.length_pos_iff.2 (orders_ne (clocks_nonneg E ss) hfeas)
    have hAb : (ordsL (truthsL E ss)).length ≤ 117649 := by
      have := ordsTo_len (truthsL E ss) (truthsL E ss).length
      rw [ordsTo_all] at this
      omega
    have hAl : ∀ o ∈ ordsL (truthsL E ss), o.length = ss.length := fun o ho => by
      rw [← ordsTo_all] at ho
      obtain ⟨t, ht, rfl⟩ := ordsTo_mem ho
      rw [(ordL_srt t).len, hTr t ht]
    obtain ⟨L, hL⟩ : ∃ z, truthsL E ss = z := ⟨_, rfl⟩
    rw [hL] at hLn hto hTr hfi hAn hAl hAb
    obtain ⟨A, hA⟩ : ∃ z, ordsL L = z := ⟨_, rfl⟩
    rw [hA] at hfi hAn hAl hAb
    have Hto := Lib.hid hto
    have HTr : Hid (∀ t ∈ L, 1 ≤ t.length ∧ t.length ≤ 1000) := (fun t ht => by rw [hTr t ht]; omega : ∀ t ∈ L, 1 ≤ t.length ∧ t.length ≤ 1000)
    have Hfi := Lib.hid hfi
    have HAl := Lib.hid hAl
    have HA := Lib.hid hA
    clear hc hto hTr hL hval hfe hfi hAl hfeas hA
    go_enter Tryz.func22, Tryz.ntmps22
    go_upto_region 5 with first | (go_at_call 37; refine (rtold_any E F _ ss _ _ (Hv.out.grow ((Grow.refl w).alloc _))).mono ?_; rintro e w1 ⟨ov, rfl, hs1, g1⟩; rw [He.out]; obtain ⟨oa, oc, rfl, _, _, _⟩ := id hs1; rw [Hto.out] at hs1 ⊢; have Hs1 := Lib.hid hs1; clear hs1) | (go_at_call 61; refine (rorders_any _ L _ Hs1.out HTr.out (by omega)).mono ?_; rintro e w2 ⟨ov2, rfl, hs2, g2⟩; obtain ⟨oa2, oc2, rfl, _, _, hat2⟩ := hs2; rw [HA.out] at hat2 ⊢; rw [List.length_map]; have Hat := Lib.hid hat2; clear hat2)
    have G2 : Grow w w2 := (((Grow.refl w).alloc _).trans g1).trans g2
    obtain ⟨ab, ao, s0, sa, sc, hx0, rfl, hc0, hsc0, hs80, hs0⟩ := Hat.out.get (i := 0) (by simpa using hAn)
    rw [Nat.add_zero] at hc0
    rw [List.getElem?_map] at hx0
    obtain ⟨b0, hb0, rfl⟩ := Option.map_eq_some_iff.1 hx0
    have hI0 : Hid (IsInts w2 (.slice sa (natL b0).length sc) (natL b0)) := ⟨sa, sc, rfl, hsc0, hs80, hs0⟩
    have hst0 : Hid (bestTo A 0 = b0) := by
      show _ = _
      unfold bestTo
      rw [List.take_zero, List.foldl_nil, List.headD_eq_head?_getD, List.head?_eq_getElem?, hb0]
      rfl
    have hAI : (0 : Int) < A.length := by omega
    have hla := lt_of_cell hc0
    have hm0 := List.mem_of_getElem? hb0
    have Hm0 := Lib.hid hm0
    clear hx0 hb0 hs0 g1 g2 hm0
    go_wp2_with fail
    go_loopw [7, 8] (fun u i wr => ∃ (k : Nat) (bv : Value) (b : List Nat), bv = u ∧ k ≤ A.length ∧ i = .int .i64 k ∧ b = bestTo A k ∧ b ∈ A ∧ IsInts wr bv (natL b) ∧ Grow w2 wr) (fun _ i _ => A.length - (intOf i).toNat)
    case atStart => exact ⟨0, _, b0, rfl, Nat.zero_le _, rfl, hst0.out.symm, Hm0.out, hI0.out, Grow.refl _⟩
    case round =>
      obtain ⟨k, bv, b, rfl, hk, rfl, hbq, hbm, hbi, hg⟩ := hrel
      obtain ⟨ba, bc, rfl, _, _, _⟩ := id hbi
      have Hbi := Lib.hid hbi
      have Hbq := Lib.hid hbq
      have Hbm := Lib.hid hbm
      clear hbi hbq hbm
      by_cases hlt : k < A.length
      · obtain ⟨_, _, s1, sa1, sc1, hx1, he, hc1, hsc1, hs81, hs1⟩ := Hat.out.get (i := k) (by simpa using hlt)
        cases he
        rw [List.getElem?_map] at hx1
        obtain ⟨o, ho, rfl⟩ := Option.map_eq_some_iff.1 hx1
        have hI1 : Hid (IsInts wr (.slice sa1 (natL o).length sc1) (natL o)) := ⟨sa1, sc1, rfl, hsc1, hs81, hs1.grow hg⟩
        have hbs := bestTo_succ ho
        rw [← Hbq.out] at hbs
        unfold bestStep at hbs
        have hom := List.mem_of_getElem? ho
        have hc1' := hg.keeps hc1
        have hl1 := lt_of_cell hc1'
        have hkI : (k : Int) < A.length := by omega
        have hol : o.length = b.length := by rw [HAl.out o hom, HAl.out b Hbm.out]
        have Hol := Lib.hid hol
        have Hom := Lib.hid hom
        have QL := Lib.hid (fun (V : World) (g : Grow wr V) => rless_any _ _ o b V (hI1.out.grow g) (Hbi.out.grow g) Hol.out)
        clear hx1 hc1 hs1 hsc1 hs81 ho hom hol
        cases hlo : lltB o b
        · rw [hlo, if_neg (by decide)] at hbs
          rw [hlo] at QL
          have Hbs := Lib.hid hbs
          clear hbs hlo
          go_wp2_with (go_at_call 64; refine (QL.out _ (Grow.refl _)).mono ?_; rintro e w5 ⟨rfl, g5⟩)
          exact ⟨⟨k + 1, _, b, rfl, by omega, by go_num, Hbs.out.symm, Hbm.out, Hbi.out.grow g5, hg.trans g5⟩, by simp [intOf]; omega⟩
        · rw [hlo, if_pos rfl] at hbs
          rw [hlo] at QL
          have Hbs := Lib.hid hbs
          clear hbs hlo
          go_wp2_with (go_at_call 64; refine (QL.out _ (Grow.refl _)).mono ?_; rintro e w5 ⟨rfl, g5⟩; have hc5 := g5.keeps hc1'; have hl5 := lt_of_cell hc5)
          exact ⟨⟨k + 1, _, o, rfl, by omega, by go_num, Hbs.out.symm, Hom.out, hI1.out.grow g5, hg.trans g5⟩, by simp [intOf]; omega⟩
      · obtain rfl : k = A.length := by omega
        go_wp2_with fail
        go_ret2
        exact ⟨_, by rw [He.out]; rfl, by rw [Hfi.out, ← Hbq.out]; exact Hbi.out, G2.trans hg⟩
  · have hne : (c != 0) = true := by simpa using h0
    have hbad : firstL E F ss = [] := if_neg (by rw [hc]; exact h0)
    have Hbad := Lib.hid hbad
    clear hc hbad
    go_enter Tryz.func22, Tryz.ntmps22
    go_wp2_with (go_at_call 37; refine (rtold_any E F _ ss _ _ (Hv.out.grow ((Grow.refl w).alloc _))).mono ?_; rintro e w1 ⟨ov, rfl, hs1, g1⟩; rw [He.out]; obtain ⟨oa, oc, rfl, _, _, _⟩ := id hs1; clear hs1)
    go_ret2
    exact ⟨_, by rw [He.out]; rfl, by rw [Hbad.out]; exact ints_nil _, ((Grow.refl w).alloc _).trans g1⟩
set_option maxRecDepth 100000 in
theorem rsettled_any (E F : Int) (v u : Value) (ss L : List (List Int)) (w : World) (hv : IsSheets w v ss) (hu : IsSheets w u L) (hp : ∀ t ∈ L, t.length = ss.length) (hL : L.length ≤ 200000) (hn : ss.length ≤ 1000) :
    Calls Tryz.prog 69 #[.agg #[.int .i64 E, .int .i64 F, v], u] w fun e w' => e = .returned (.bool (settledS L F ss.length)) ∧ Grow w w' := by
  obtain ⟨a, cap, rfl, hcap, hlen, hrow⟩ := id hv
  have Hv := Lib.hid hv
  have Hu := Lib.hid hu
  have Hp := Lib.hid hp
  obtain ⟨ua, uc, rfl, _, _, _⟩ := id hu
  obtain ⟨z, hz⟩ : ∃ z, settledS L F ss.length = z := ⟨_, rfl⟩
  rw [hz]
  have Hz := Lib.hid hz
  clear hv hrow hu hp hz
  go_enter Tryz.func69, Tryz.ntmps69
  go_wp2_with fail
  have c0 : (w.alloc (.cells #[.int .i64 E, .int .i64 F, .slice a ss.length cap] 24)).cell? ⟨w.heap.size, 0, none⟩ = some (.int .i64 E) := cell_new rfl rfl
  have c1 : (w.alloc (.cells #[.int .i64 E, .int .i64 F, .slice a ss.length cap] 24)).cell? ⟨w.heap.size, 1, none⟩ = some (.int .i64 F) := cell_new rfl rfl
  have c2 : (w.alloc (.cells #[.int .i64 E, .int .i64 F, .slice a ss.length cap] 24)).cell? ⟨w.heap.size, 2, none⟩ = some (.slice a ss.length cap) := cell_new rfl rfl
  have gX : Grow w (w.alloc (.cells #[.int .i64 E, .int .i64 F, .slice a ss.length cap] 24)) := (Grow.refl w).alloc _
  obtain ⟨X, hX⟩ : ∃ z, w.alloc (.cells #[.int .i64 E, .int .i64 F, .slice a ss.length cap] 24) = z := ⟨_, rfl⟩
  obtain ⟨B, hB⟩ : ∃ z, w.heap.size = z := ⟨_, rfl⟩
  rw [hX] at c0 c1 c2 gX
  rw [hB] at c0 c1 c2
  rw [hX, hB]
  clear hX hB
  go_loopw [5] (fun i wr => ∃ k : Nat, k ≤ ss.length ∧ i = .int .i64 k ∧ (∀ j, j < k → finalS L F j ≠ 1) ∧ Grow X wr) (fun i _ => ss.length - (intOf i).toNat)
  case atStart => exact ⟨0, Nat.zero_le _, rfl, fun j h => absurd h (Nat.not_lt_zero _), Grow.refl _⟩
  case round =>
    obtain ⟨k, hk, rfl, hno, hg⟩ := hrel
    have Hno := Lib.hid hno
    have d0 := hg.keeps c0
    have d1 := hg.keeps c1
    have d2 := hg.keeps c2
    have hld := lt_of_cell d0
    clear hno
    by_cases hlt : k < ss.length
    · obtain ⟨f, hf⟩ : ∃ f, finalS L F k = f := ⟨_, rfl⟩
      have QF := Lib.hid (fun (V : World) (g : Grow w V) => rfinal_any E F _ _ ss L k V (Hv.out.grow g) (Hu.out.grow g) (fun t ht => by rw [Hp.out t ht]; exact hlt) hL)
      rw [hf] at QF
      have Hf := Lib.hid hf
      clear hf
      by_cases hf1 : f = 1
      · subst hf1
        have hzf : z = false := by
          rw [← Hz.out]
          unfold settledS
          rw [List.all_eq_false]
          exact ⟨k, List.mem_range.2 hlt, by rw [Hf.out]; decide⟩
        subst hzf
        go_wp2_with (go_at_call 52; refine (QF.out _ (gX.trans hg)).mono ?_; rintro e w5 ⟨rfl, g5⟩)
        go_ret
        exact ⟨rfl, (gX.trans hg).trans g5⟩
      · have hf2 : (f == 1) = false := by simpa using hf1
        have hno2 : Hid (∀ j, j < k + 1 → finalS L F j ≠ 1) := (fun j hj => by
          by_cases e : j = k
          · subst e; rw [Hf.out]; exact hf1
          · exact Hno.out j (by omega) : ∀ j, j < k + 1 → finalS L F j ≠ 1)
        clear hf1
        go_wp2_with (go_at_call 52; refine (QF.out _ (gX.trans hg)).mono ?_; rintro e w5 ⟨rfl, g5⟩)
        exact ⟨⟨k + 1, by omega, by go_num, hno2.out, hg.trans g5⟩, by simp [intOf]; omega⟩
    · obtain rfl : k = ss.length := by omega
      have hzt : z = true := by
        rw [← Hz.out]
        unfold settledS
        rw [List.all_eq_true]
        exact fun p hp => by simpa using Hno.out p (List.mem_range.1 hp)
      subst hzt
      go_wp2_with fail
      go_ret
      exact ⟨rfl, gX.trans hg⟩
end Go.Proofs.YtbeglemohfbdfaaGreat
