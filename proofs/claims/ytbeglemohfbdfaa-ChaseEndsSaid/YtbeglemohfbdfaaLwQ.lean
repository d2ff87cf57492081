/- The law ChaseAsk, its closures: is the final settled; does a pair's time settle it? Conditions: sizes. -/
import Derived.Test.YtbeglemohfbdfaaLwP
import Derived.Test.YtbeglemohfbdfaaCpG
namespace Go.Proofs.Ytbeglemohfbdfaa
open Go.RowKit Go.Instr

theorem valid_set {E F : Int} {ss : List (List Int)} {p : Nat} {l : List Int} (h : validB E F ss = true) (hl : listB l = true) : validB E F (ss.set p l) = true := by
  unfold validB at h ⊢
  rw [List.length_set]
  simp only [Bool.and_eq_true, List.all_eq_true] at h ⊢
  refine ⟨h.1, fun k hk => ?_⟩
  rcases List.mem_or_eq_of_mem_set hk with hk | rfl
  · exact h.2 k hk
  · exact hl
theorem known_list {E t : Int} (hE : 0 ≤ E) (h1 : 0 ≤ t - E) (h2 : t + E ≤ 200) : listB [t - E, t + E] = true := by
  unfold listB
  simp only [List.length_cons, List.length_nil, List.all_cons, List.all_nil, Bool.and_true]
  rw [inB_true.2 (show (0 : Int) ≤ t - E ∧ t - E ≤ 200 by omega), inB_true.2 (show (0 : Int) ≤ t + E ∧ t + E ≤ 200 by omega)]
  decide
set_option maxRecDepth 100000 in
set_option maxHeartbeats 1000000 in
theorem lsettled_any (E F : Int) (v : Value) (ss : List (List Int)) (w : World) (hv : IsSheets w v ss) (hval : validB E F ss = true) (hfe : feasB (clocksOf E ss) = true) :
    Calls Try.prog 33 #[.agg #[.int .i64 E, .int .i64 F, v]] w fun e w' => e = .returned (.bool (settledB (clocksOf E ss) F)) ∧ Grow w w' := by
  obtain ⟨a, cap, rfl, hcap, hlen, hrow⟩ := id hv
  have Hv := Lib.hid hv
  have htold : ∀ k : Nat, k < ss.length → Told E F ss k := fun k hk => told_at hval hfe hk
  have Htold := Lib.hid htold
  obtain ⟨ks, hks⟩ : ∃ ks, clocksOf E ss = ks := ⟨_, rfl⟩
  have hkl : ks.length = ss.length := by rw [← hks]; exact clocks_len E ss
  have Hkl := Lib.hid hkl
  have Hks := Lib.hid hks
  obtain ⟨z, hz⟩ : ∃ z, settledB ks F = z := ⟨_, rfl⟩
  rw [hks, hz]
  have Hz := Lib.hid hz
  clear hv hrow hval hfe htold hks hkl hz
  go_enter Try.func33, Try.ntmps33
  go_wp2_with fail
  have hgw : Grow w (w.alloc (.cells #[.int .i64 E, .int .i64 F, .slice a ss.length cap] 32)) := (Grow.refl w).alloc _
  have c0 : (w.alloc (.cells #[.int .i64 E, .int .i64 F, .slice a ss.length cap] 32)).cell? ⟨w.heap.size, 0, none⟩ = some (.int .i64 E) := cell_new rfl rfl
  have c1 : (w.alloc (.cells #[.int .i64 E, .int .i64 F, .slice a ss.length cap] 32)).cell? ⟨w.heap.size, 1, none⟩ = some (.int .i64 F) := cell_new rfl rfl
  have c2 : (w.alloc (.cells #[.int .i64 E, .int .i64 F, .slice a ss.length cap] 32)).cell? ⟨w.heap.size, 2, none⟩ = some (.slice a ss.length cap) := cell_new rfl rfl
  obtain ⟨W, hW⟩ : ∃ z, w.alloc (.cells #[.int .i64 E, .int .i64 F, .slice a ss.length cap] 32) = z := ⟨_, rfl⟩
  obtain ⟨B, hB⟩ : ∃ z, w.heap.size = z := ⟨_, rfl⟩
  rw [hW] at hgw c0 c1 c2
  rw [hB] at c0 c1 c2
  rw [hW, hB]
  clear hW hB
  go_loopw [9] (fun i wr => ∃ k : Nat, k ≤ ss.length ∧ i = .int .i64 k ∧ (∀ j, j < k → finalP ks F j ≠ 1) ∧ Grow W wr) (fun i _ => ss.length - (intOf i).toNat)
  case atStart => exact ⟨0, Nat.zero_le _, rfl, fun j h => absurd h (Nat.not_lt_zero _), Grow.refl _⟩
  case round =>
    obtain ⟨k, hk, rfl, hno, hg⟩ := hrel
    have Hno := Lib.hid hno
    have d0 := hg.keeps c0
    have d1 := hg.keeps c1
    have d2 := hg.keeps c2
    clear hno
    by_cases hlt : k < ss.length
    · obtain ⟨t1, _, _, t4⟩ := Htold.out k hlt
      rw [Hks.out] at t4
      obtain ⟨fk, hfk⟩ : ∃ z, finalP ks F k = z := ⟨_, rfl⟩
      rw [hfk] at t4
      have Hfk := Lib.hid hfk
      have T1 := Lib.hid t1
      have T4 := Lib.hid t4
      clear t1 t4 hfk
      by_cases h1 : fk = 1
      · subst h1
        go_wp2_with (go_at_call 14; refine (pFinal_any E F k _ ss _ (Hv.out.grow (hgw.trans hg))).mono ?_; rw [T1.out, T4.out]; rintro e w6 ⟨rfl, g6⟩)
        go_ret
        have hzf : z = false := by
          rw [← Hz.out, Bool.eq_false_iff, ne_eq, settledB, List.all_eq_true]
          intro h
          have := h k (List.mem_range.2 (by rw [Hkl.out]; exact hlt))
          simp [Hfk.out] at this
        exact ⟨by rw [hzf]; rfl, (hgw.trans hg).trans g6⟩
      · have h1b : (fk == 1) = false := by simpa using h1
        go_wp2_with (go_at_call 14; refine (pFinal_any E F k _ ss _ (Hv.out.grow (hgw.trans hg))).mono ?_; rw [T1.out, T4.out]; rintro e w6 ⟨rfl, g6⟩)
        refine ⟨⟨k + 1, by omega, by go_num, fun j hj => ?_, hg.trans g6⟩, by simp [intOf]; omega⟩
        by_cases e : j = k
        · subst e; rw [Hfk.out]; exact h1
        · exact Hno.out j (by omega)
    · obtain rfl : k = ss.length := by omega
      go_wp2_with fail
      go_ret
      have hzt : z = true := by
        rw [← Hz.out, settledB, List.all_eq_true]
        intro j hj
        rw [Hkl.out] at hj
        simpa using Hno.out j (List.mem_range.1 hj)
      exact ⟨by rw [hzt]; rfl, hgw.trans hg⟩
set_option maxRecDepth 100000 in
set_option maxHeartbeats 2000000 in
theorem lsettles_any (T2 T9 : Nat) (E F : Int) (v : Value) (ss : List (List Int)) (p : Nat) (w : World) (c0 : w.cell? ⟨T2, 0, none⟩ = some (.int .i64 E)) (c1 : w.cell? ⟨T2, 1, none⟩ = some (.int .i64 F)) (c2 : w.cell? ⟨T2, 2, none⟩ = some v) (c9 : w.cell? ⟨T9, 0, none⟩ = some (.func (.func 33) #[] #[]))
    (hv : IsSheets w v ss) (hp : p < ss.length) (hval : validB E F ss = true) (hfe : feasB (clocksOf E ss) = true) (hmid : ∀ l ∈ ss, ∀ x ∈ l, 10 ≤ x ∧ x ≤ 190) :
    Calls Try.prog 34 #[.int .i64 p, .pointer (some ⟨T2, 0, none⟩), .pointer (some ⟨T9, 0, none⟩)] w fun e w' => e = .returned (.bool (settlesB (clocksOf E ss) F p)) ∧ Grow w w' := by
  obtain ⟨a, cap, rfl, hcap, hlen, hrow⟩ := id hv
  have Hv := Lib.hid hv
  obtain ⟨hE, hn6, _, hll⟩ := valid_parts hval
  obtain ⟨t1, t2, _, _⟩ := told_at hval hfe hp
  have hm := mid_range hE ((hll _ (List.getElem_mem hp)).1.1) (hmid _ (List.getElem_mem hp))
  have hcg := clocks_get (E := E) (List.getElem?_eq_getElem hp)
  rw [← hcg.1, ← hcg.2] at hm
  have Hval := Lib.hid hval
  have Hfe := Lib.hid (feasB_iff.1 hfe)
  obtain ⟨ks, hks⟩ : ∃ ks, clocksOf E ss = ks := ⟨_, rfl⟩
  rw [hks] at t2 hm Hfe
  rw [hks]
  obtain ⟨z9, hz9⟩ : ∃ z, settlesB ks F p = z := ⟨_, rfl⟩
  rw [hz9]
  have hiff := settlesB_iff (ks := ks) (F := F) (k := p)
  rw [hz9] at hiff
  unfold settlesP at hiff
  obtain ⟨x, hx⟩ : ∃ z, lo ks p = z := ⟨_, rfl⟩
  obtain ⟨y, hy⟩ : ∃ z, hi ks p = z := ⟨_, rfl⟩
  rw [hx, hy] at t2 hm hiff
  have T1 := Lib.hid t1
  have T2' := Lib.hid t2
  have Hks := Lib.hid hks
  have Hiff := Lib.hid hiff
  have hxy : x ≤ y := by rw [← hx, ← hy]; exact Hfe.out p (by rw [← hks, clocks_len]; exact hp)
  clear hv hrow hval hfe hmid hll hks hz9 t1 t2 hcg hiff hx hy
  have hlT := lt_of_cell c0
  have hl9 := lt_of_cell c9
  have hw6 : IntKind.i64.wrap (x + 6) = x + 6 := IntWalk.i64_in _ (by omega)
  have hmin : min y (x + 6) = y := by omega
  go_enter Try.func34, Try.ntmps34
  go_wp2_with (go_at_call 11; refine (pTime_any E F p _ ss _ Hv.out).mono ?_; rw [T1.out, T2'.out]; rintro e w1 ⟨rfl, g1⟩; have d0 := g1.keeps c0; have d1 := g1.keeps c1; have d2 := g1.keeps c2; have d9 := g1.keeps c9; have hl1 := lt_of_cell d0; have hl2 := lt_of_cell d9)
  have e0 : (w1.alloc (.cells #[.int .i64 x, .int .i64 y] 23)).cell? ⟨w1.heap.size, 0, none⟩ = some (.int .i64 x) := cell_new rfl rfl
  have e1 : (w1.alloc (.cells #[.int .i64 x, .int .i64 y] 23)).cell? ⟨w1.heap.size, 1, none⟩ = some (.int .i64 y) := cell_new rfl rfl
  have gV : Grow w1 (w1.alloc (.cells #[.int .i64 x, .int .i64 y] 23)) := (Grow.refl w1).alloc _
  obtain ⟨V, hV⟩ : ∃ z, w1.alloc (.cells #[.int .i64 x, .int .i64 y] 23) = z := ⟨_, rfl⟩
  obtain ⟨S, hS⟩ : ∃ z, w1.heap.size = z := ⟨_, rfl⟩
  rw [hV] at e0 e1 gV
  rw [hS] at e0 e1
  rw [hV, hS]
  clear hV hS
  have v0 := gV.keeps d0
  have v1 := gV.keeps d1
  have v2 := gV.keeps d2
  have v9 := gV.keeps d9
  have GV := g1.trans gV
  clear d0 d1 d2 d9 c0 c1 c2 c9 gV g1 hl1 hl2 hlT hl9
  go_loopw [7] (fun i wr => ∃ z : Int, i = .int .i64 z ∧ x ≤ z ∧ z ≤ y + 1 ∧ (∀ t, x ≤ t → t < z → settledB (ks.set p (t, t)) F = true) ∧ Grow V wr) (fun i _ => (y + 1 - intOf i).toNat)
  case atStart => exact ⟨x, rfl, Int.le_refl _, by omega, fun t h1 h2 => by omega, Grow.refl _⟩
  case round =>
    obtain ⟨z, rfl, hz0, hz1, hall, hg⟩ := hrel
    have Hall := Lib.hid hall
    have f0 := hg.keeps e0
    have f1 := hg.keeps e1
    have u0 := hg.keeps v0
    have u1 := hg.keeps v1
    have u2 := hg.keeps v2
    have u9 := hg.keeps v9
    have hlS := lt_of_cell f0
    have hlT := lt_of_cell u0
    have hl9 := lt_of_cell u9
    clear hall
    by_cases hzy : z ≤ y
    · have hk1 : 0 ≤ z - E := by omega
      have hk2 : z + E ≤ 200 := by omega
      have hok : (decide (0 ≤ z - E) && decide (z + E ≤ 200)) = true := by simp; omega
      have hvs := valid_set (p := p) Hval.out (known_list hE.1 hk1 hk2)
      have hcs := known_clocks (ss := ss) (p := p) hE.1 hk1 hk2
      rw [Hks.out] at hcs
      have hfs : feasB (clocksOf E (ss.set p [z - E, z + E])) = true := by rw [hcs, feasB_iff]; exact feas_set Hfe.out
      have Hok := Lib.hid hok
      have Hvs := Lib.hid hvs
      have Hcs := Lib.hid hcs
      have Hfs := Lib.hid hfs
      clear hok hvs hcs hfs
      cases hsb : settledB (ks.set p (z, z)) F
      · have Hsb := Lib.hid hsb
        clear hsb
        go_wp2_with first | (go_at_call 30; refine (lknown_any E F z _ ss p _ (Hv.out.grow (GV.trans hg)) hp (by omega) hE (by omega)).mono ?_; rw [Hok.out]; rintro e w4 ⟨v4, rfl, hs4, g4⟩; have Hs4 := Lib.hid hs4; obtain ⟨a4, c4, h4, _, _, _⟩ := hs4; rw [List.length_set] at h4; subst h4; have y0 := g4.keeps u0; have y9 := g4.keeps u9; have hl11 := lt_of_cell y0; have hl12 := lt_of_cell y9) | (go_at_call 33; refine (lsettled_any E F _ (ss.set p [z - E, z + E]) _ (Hs4.out.grow ((Grow.refl _).alloc _)) Hvs.out Hfs.out).mono ?_; rw [Hcs.out, Hsb.out]; rintro e w5 ⟨rfl, g5⟩)
        go_ret
        have hz9 : z9 = false := by
          rw [Bool.eq_false_iff]
          intro h
          have := Hiff.out.1 h z hz0 hzy
          rw [Hsb.out] at this
          cases this
        exact ⟨by rw [hz9]; rfl, ((GV.trans hg).trans g4).trans (((Grow.refl _).alloc _).trans g5)⟩
      · have Hsb := Lib.hid hsb
        clear hsb
        go_wp2_with first | (go_at_call 30; refine (lknown_any E F z _ ss p _ (Hv.out.grow (GV.trans hg)) hp (by omega) hE (by omega)).mono ?_; rw [Hok.out]; rintro e w4 ⟨v4, rfl, hs4, g4⟩; have Hs4 := Lib.hid hs4; obtain ⟨a4, c4, h4, _, _, _⟩ := hs4; rw [List.length_set] at h4; subst h4; have y0 := g4.keeps u0; have y9 := g4.keeps u9; have hl11 := lt_of_cell y0; have hl12 := lt_of_cell y9) | (go_at_call 33; refine (lsettled_any E F _ (ss.set p [z - E, z + E]) _ (Hs4.out.grow ((Grow.refl _).alloc _)) Hvs.out Hfs.out).mono ?_; rw [Hcs.out, Hsb.out]; rintro e w5 ⟨rfl, g5⟩)
        refine ⟨⟨z + 1, rfl, by omega, by omega, fun t h1 h2 => ?_, (hg.trans g4).trans (((Grow.refl _).alloc _).trans g5)⟩, by simp [intOf]; omega⟩
        by_cases e : t = z
        · subst e; exact Hsb.out
        · exact Hall.out t h1 (by omega)
    · go_wp2_with fail
      go_ret
      have hz9 : z9 = true := Hiff.out.2 fun t h1 h2 => Hall.out t h1 (by omega)
      exact ⟨by rw [hz9]; rfl, GV.trans hg⟩
end Go.Proofs.Ytbeglemohfbdfaa
