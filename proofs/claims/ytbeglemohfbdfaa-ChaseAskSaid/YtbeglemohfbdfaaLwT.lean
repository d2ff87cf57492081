/- The law ChaseAsk: the walk. Conditions: sizes. -/
import Derived.Test.YtbeglemohfbdfaaLwQ
import Derived.Deep.DeepCutAuto
namespace Go.Proofs.Ytbeglemohfbdfaa
open Go.RowKit Go.Instr

theorem askV_cases {ks : List (Int × Int)} {F : Int} (h : settledB ks F = false) : (∃ k, k < ks.length ∧ settlesB ks F k = true ∧ (∀ j, j < k → settlesB ks F j = false) ∧ askV ks F = ((k : Int), 0)) ∨ ((∀ j, j < ks.length → settlesB ks F j = false) ∧ askV ks F = (0, 4)) := by
  cases hf : (List.range ks.length).find? (settlesB ks F) with
  | none =>
    have hn : ∀ j, j < ks.length → settlesB ks F j = false := fun j hj => by
      have := List.find?_eq_none.1 hf j (List.mem_range.2 hj)
      simpa using this
    exact .inr ⟨hn, askV_none h hn⟩
  | some k =>
    rw [List.find?_range_eq_some] at hf
    obtain ⟨h1, h2, h3⟩ := hf
    have hn : ∀ j, j < k → settlesB ks F j = false := fun j hj => by simpa using h3 j hj
    exact .inl ⟨k, List.mem_range.1 h2, h1, hn, askV_some h (List.mem_range.1 h2) h1 hn⟩
set_option maxRecDepth 100000 in
set_option maxHeartbeats 4000000 in
theorem lchaseAsk (E F : Int) (v : Value) (ss : List (List Int)) (wi : Int) (w : World) (hv : IsSheets w v ss) (hwi : 0 ≤ wi ∧ wi < 256) :
    Calls Try.prog 8 #[.agg #[.int .i64 E, .int .i64 F, v], .int .u8 wi] w fun e w' => e = .returned (.bool true) ∧ Grow w w' := by
  have hmf : ∀ (fn : Fn) (first cap : Array Value) (w : World), (Instr.makeFunc fn first cap).run Try.prog w = .ok (.func fn first cap) w := fun _ _ _ _ => rfl
  obtain ⟨wn, rfl⟩ : ∃ n : Nat, wi = n := ⟨wi.toNat, by omega⟩
  have hwn : wn < 256 := by omega
  clear hwi
  obtain ⟨a, cap, rfl, hcap, hlen, hrow⟩ := id hv
  have Hv := Lib.hid hv
  have Hrow := Lib.hid hrow
  clear hv hrow
  go_enter Try.func8, Try.ntmps8
  go_wp2_with fail
  have hgw : Grow w (w.alloc (.cells #[.int .i64 E, .int .i64 F, .slice a ss.length cap] 32)) := (Grow.refl w).alloc _
  have c0 : (w.alloc (.cells #[.int .i64 E, .int .i64 F, .slice a ss.length cap] 32)).cell? ⟨w.heap.size, 0, none⟩ = some (.int .i64 E) := cell_new rfl rfl
  have c1 : (w.alloc (.cells #[.int .i64 E, .int .i64 F, .slice a ss.length cap] 32)).cell? ⟨w.heap.size, 1, none⟩ = some (.int .i64 F) := cell_new rfl rfl
  have c2 : (w.alloc (.cells #[.int .i64 E, .int .i64 F, .slice a ss.length cap] 32)).cell? ⟨w.heap.size, 2, none⟩ = some (.slice a ss.length cap) := cell_new rfl rfl
  obtain ⟨W, hW⟩ : ∃ z, w.alloc (.cells #[.int .i64 E, .int .i64 F, .slice a ss.length cap] 32) = z := ⟨_, rfl⟩
  obtain ⟨B, hB⟩ : ∃ z, w.heap.size = z := ⟨_, rfl⟩
  rw [hW] at hgw c0 c1 c2
  rw [hB] at c0 c1 c2
  rw [hW, hB]
  have HB := Lib.hid hB
  clear hW hB
  refine (llong_any E F _ ss _ (Hv.out.grow hgw)).mono ?_
  rintro e w1 ⟨⟨b, rfl⟩, g1⟩
  have G1 := hgw.trans g1
  have d0 := g1.keeps c0
  have d1 := g1.keeps c1
  have d2 := g1.keeps c2
  clear c0 c1 c2 g1
  cases b
  case true =>
    go_wp2_with (go_at_call 19; refine (lalive_any _).mono ?_; rintro e w2 ⟨rfl, g2⟩)
    go_ret
    exact ⟨rfl, G1.trans g2⟩
  cases hval : validB E F ss
  case false =>
    have Hval := Lib.hid hval
    clear hval
    go_wp2_with first | (go_at_call 29; refine (rChase_any E F _ ss _ (Hv.out.grow G1)).mono ?_; rintro e w2 ⟨rfl, g2⟩; rw [Hval.out]) | (go_at_call 19; refine (lalive_any _).mono ?_; rintro e w3 ⟨rfl, g3⟩)
    go_ret
    exact ⟨rfl, (G1.trans g2).trans g3⟩
  have Hval := Lib.hid hval
  obtain ⟨hE, hn6, hF6, hll⟩ := valid_parts hval
  have Hll := Lib.hid hll
  clear hval hll
  have hnn : (ss.length : Int) ≤ 6 := by omega
  go_wp2_with (go_at_call 29; refine (rChase_any E F _ ss _ (Hv.out.grow G1)).mono ?_; rintro e w2 ⟨rfl, g2⟩; rw [Hval.out]; have k0 := g2.keeps d0; have k1 := g2.keeps d1; have k2 := g2.keeps d2; have hlk := lt_of_cell k0)
  have G2 := G1.trans g2
  clear d0 d1 d2 g2 G1 hgw
  go_loop [27] (fun i => ∃ k : Nat, k ≤ ss.length ∧ i = .int .i64 k ∧ ∀ l ∈ ss.take k, ∀ x ∈ l, 10 ≤ x ∧ x ≤ 190) (fun i => ss.length - (intOf i).toNat)
  case atStart => exact ⟨0, Nat.zero_le _, rfl, fun l hl => by simp at hl⟩
  case round =>
    obtain ⟨k, hk, rfl, hm⟩ := hrel
    have Hm := Lib.hid hm
    clear hm
    by_cases hlt : k < ss.length
    · obtain ⟨b, o, s, ta, tc, hx, rfl, hc, hsc, hs8, hs⟩ := Hrow.out.get hlt
      have hc' := G2.keeps hc
      have hlb := lt_of_cell hc'
      have Hx := Lib.hid hx
      have Hs := Lib.hid hs
      have hsl : s.length ≤ 3 := (Hll.out s (List.mem_of_getElem? hx)).1.2
      clear hx hs hc
      go_wp2_with fail
      go_loop [33] (fun i => ∃ m : Nat, m ≤ s.length ∧ i = .int .i64 m ∧ ∀ x ∈ s.take m, 10 ≤ x ∧ x ≤ 190) (fun i => s.length - (intOf i).toNat)
      case atStart => exact ⟨0, Nat.zero_le _, rfl, fun x hx => by simp at hx⟩
      case round =>
        obtain ⟨m, hm, rfl, hq⟩ := hrel
        have Hq := Lib.hid hq
        clear hq
        by_cases hlm : m < s.length
        · obtain ⟨b2, o2, x, hx, rfl, hcx⟩ := Hs.out.int hlm
          have hcx' := G2.keeps hcx
          have hlx := lt_of_cell hcx'
          have HX := Lib.hid hx
          clear hx hcx
          by_cases h1 : x < 10
          · go_wp2_with (go_at_call 19; refine (lalive_any _).mono ?_; rintro e w3 ⟨rfl, g3⟩)
            go_ret
            exact ⟨rfl, G2.trans g3⟩
          · by_cases h2 : 190 < x
            · go_wp2_with (go_at_call 19; refine (lalive_any _).mono ?_; rintro e w3 ⟨rfl, g3⟩)
              go_ret
              exact ⟨rfl, G2.trans g3⟩
            · go_wp2_with fail
              refine ⟨⟨m + 1, by omega, by go_num, fun z hz => ?_⟩, by simp [intOf]; omega⟩
              rw [take_get HX.out] at hz
              rcases List.mem_append.1 hz with hz | hz
              · exact Hq.out z hz
              · rw [List.mem_singleton.1 hz]; omega
        · have h3 : s.take m = s := take_len hlm
          have hq := Hq.out
          rw [h3] at hq
          have HQ := Lib.hid hq
          clear hq h3
          go_wp2_with fail
          refine ⟨⟨k + 1, by omega, by go_num, fun l hl => ?_⟩, by simp [intOf]; omega⟩
          rw [take_get Hx.out] at hl
          rcases List.mem_append.1 hl with hl | hl
          · exact Hm.out l hl
          · rw [List.mem_singleton.1 hl]; exact HQ.out
    · obtain rfl : k = ss.length := by omega
      rw [List.take_length] at Hm
      go_upto_region 14 with fail
      have t9 : (w2.alloc (.cells #[.func (.func 33) #[] #[]] 52)).cell? ⟨w2.heap.size, 0, none⟩ = some (.func (.func 33) #[] #[]) := cell_new rfl rfl
      have gV : Grow w2 (w2.alloc (.cells #[.func (.func 33) #[] #[]] 52)) := (Grow.refl w2).alloc _
      obtain ⟨V, hV⟩ : ∃ z, w2.alloc (.cells #[.func (.func 33) #[] #[]] 52) = z := ⟨_, rfl⟩
      obtain ⟨T, hT⟩ : ∃ z, w2.heap.size = z := ⟨_, rfl⟩
      rw [hV] at t9 gV
      rw [hT] at t9
      rw [hV, hT]
      have v0 := gV.keeps k0
      have v1 := gV.keeps k1
      have v2 := gV.keeps k2
      have GV := G2.trans gV
      have hlB := lt_of_cell v0
      have hlT := lt_of_cell t9
      clear hV hT gV k0 k1 k2 hlk G2 Hrow
      cases hfe : feasB (clocksOf E ss)
      case false =>
        have he := errOf_no Hval.out hfe (ok := true) rfl
        have hce := cutE_bad he (by decide)
        have hae := askE_bad he (by decide)
        have He := Lib.hid he
        have Hce := Lib.hid hce
        have Hae := Lib.hid hae
        clear hfe he hce hae
        go_wp2_with first | (go_at_call 18; refine (pAsk_any E F _ ss _ (Hv.out.grow GV)).mono ?_; rw [Hae.out]; rintro e w4 ⟨rfl, g4⟩; have y0 := g4.keeps v0; have y1 := g4.keeps v1; have y2 := g4.keeps v2; have hly := lt_of_cell y0) | (go_at_call 23; refine (pCut_any E F _ ss _ (Hv.out.grow (GV.trans g4))).mono ?_; rw [He.out, Hce.out]; rintro e w5 ⟨rfl, g5⟩) | (go_at_call 19; refine (lalive_any _).mono ?_; rintro e w6 ⟨rfl, g6⟩)
        go_ret
        exact ⟨rfl, (((GV.trans g4).trans g5).alloc _).trans g6⟩
      have he := errOf_ok Hval.out hfe (ok := true) rfl
      have hae := askE_ok he
      have hce := cutE_ok he
      have HS : Hid (∀ X q, Grow V X → q < ss.length → Calls Try.prog 34 #[.int .i64 (q : Nat), .pointer (some ⟨B, 0, none⟩), .pointer (some ⟨T, 0, none⟩)] X fun e w' => e = .returned (.bool (settlesB (clocksOf E ss) F q)) ∧ Grow X w') := fun X q g hq =>
        lsettles_any B T E F _ ss q X (g.keeps v0) (g.keeps v1) (g.keeps v2) (g.keeps t9) (Hv.out.grow (GV.trans g)) hq Hval.out hfe Hm.out
      have Hfe := Lib.hid hfe
      obtain ⟨ks, hks⟩ : ∃ ks, clocksOf E ss = ks := ⟨_, rfl⟩
      have hkl : ks.length = ss.length := by rw [← hks]; exact clocks_len E ss
      rw [hks] at hae hce HS
      obtain ⟨cc, hcc⟩ : ∃ z, cutV ks F = z := ⟨_, rfl⟩
      rw [hcc] at hce
      obtain ⟨cx, cy⟩ := cc
      obtain ⟨q, hpd⟩ : ∃ p, wn % ss.length = p := ⟨_, rfl⟩
      have hq : q < ss.length := by rw [← hpd]; exact Nat.mod_lt _ (by omega)
      have hrem : (wn : Int).tmod (ss.length : Int) = (q : Int) := by rw [← hpd]; exact (Int.ofNat_tmod wn ss.length).symm
      have hcv : IntKind.i64.wrap (wn : Int) = (wn : Int) := IntWalk.i64_in _ (by omega)
      have hne0 : (ss.length : Int) ≠ 0 := by omega
      have He := Lib.hid he
      have Hce := Lib.hid hce
      have Hae := Lib.hid hae
      have Hks := Lib.hid hks
      clear hfe he hce hae hks hcc hpd
      have hss : ss ≠ [] := by intro e; rw [e] at hn6; simp at hn6
      have hl0 : decide ((ss.length : Int) ≤ 0) = false := by simp; exact hss
      cases hsb : settledB ks F
      case true =>
        have hav := askV_settled hsb
        have Hav := Lib.hid hav
        have Hsb := Lib.hid hsb
        clear hav hsb
        go_wp2_with first | (go_at_call 18; refine (pAsk_any E F _ ss _ (Hv.out.grow GV)).mono ?_; rw [Hae.out, Hav.out]; rintro e w4 ⟨rfl, g4⟩; have y0 := g4.keeps v0; have y1 := g4.keeps v1; have y2 := g4.keeps v2; have hly := lt_of_cell y0) | (go_at_call 23; refine (pCut_any E F _ ss _ (Hv.out.grow (GV.trans g4))).mono ?_; rw [He.out, Hce.out]; rintro e w5 ⟨rfl, g5⟩; have z0 := g5.keeps y0; have z1 := g5.keeps y1; have z2 := g5.keeps y2; have z9 := g5.keeps (g4.keeps t9); have hlz := lt_of_cell z0; have hlz9 := lt_of_cell z9) | (go_at_call 33; refine (lsettled_any E F _ ss _ (Hv.out.grow (((GV.trans g4).trans g5).alloc _)) Hval.out Hfe.out).mono ?_; rw [Hks.out, Hsb.out]; rintro e w6 ⟨rfl, g6⟩; have x2 := g6.keeps (Grow.keepA z2 _)) | (go_at_call 19; refine (lalive_any _).mono ?_; rintro e w7 ⟨rfl, g7⟩)
        go_ret
        exact ⟨rfl, ((((GV.trans g4).trans g5).alloc _).trans g6).trans g7⟩
      have hac := askV_cases hsb
      have Hsb := Lib.hid hsb
      rw [hkl] at hac
      have Hkl := Lib.hid hkl
      clear hsb hkl
      rcases hac with ⟨k, hk1, hk2, hk3, hk4⟩ | ⟨hk3, hk4⟩
      · have Hav := Lib.hid hk4
        have HK2 := Lib.hid hk2
        have HK3 := Lib.hid hk3
        have hkn : decide ((ss.length : Int) ≤ (k : Int)) = false := by simp; omega
        have hknn : decide (ss.length ≤ k) = false := by simp; omega
        clear hk2 hk3 hk4
        go_upto_region 20 with first | (go_at_call 18; refine (pAsk_any E F _ ss _ (Hv.out.grow GV)).mono ?_; rw [Hae.out, Hav.out]; rintro e w4 ⟨rfl, g4⟩; have y0 := g4.keeps v0; have y1 := g4.keeps v1; have y2 := g4.keeps v2; have hly := lt_of_cell y0) | (go_at_call 23; refine (pCut_any E F _ ss _ (Hv.out.grow (GV.trans g4))).mono ?_; rw [He.out, Hce.out]; rintro e w5 ⟨rfl, g5⟩; have z0 := g5.keeps y0; have z1 := g5.keeps y1; have z2 := g5.keeps y2; have z9 := g5.keeps (g4.keeps t9); have hlz := lt_of_cell z0; have hlz9 := lt_of_cell z9) | (go_at_call 33; refine (lsettled_any E F _ ss _ (Hv.out.grow (((GV.trans g4).trans g5).alloc _)) Hval.out Hfe.out).mono ?_; rw [Hks.out, Hsb.out]; rintro e w6 ⟨rfl, g6⟩; have x2 := g6.keeps (Grow.keepA z2 _); have hlx := lt_of_cell x2)
        have gF : Grow V w6 := ((g4.trans g5).alloc _).trans g6
        have gG := gF
        clear y0 y1 y2 hly z0 z1 z2 z9 hlz hlz9 g4 g5 g6
        by_cases hqk : q < k
        · have hql := HK3.out q hqk
          have Hql := Lib.hid hql
          clear hql
          go_wp2_with first | (go_at_call 34; refine (HS.out _ _ gG (by first | exact hk1 | exact hq)).mono ?_; (first | rw [HK2.out] | rw [Hql.out]); rintro e w8 ⟨rfl, g8⟩; replace gG := gG.trans g8) | (go_at_call 19; refine (lalive_any _).mono ?_; rintro e w7 ⟨rfl, g7⟩)
          go_ret
          exact ⟨rfl, (GV.trans gG).trans g7⟩
        · go_wp2_with first | (go_at_call 34; refine (HS.out _ k gF hk1).mono ?_; rw [HK2.out]; rintro e w8 ⟨rfl, g8⟩) | (go_at_call 19; refine (lalive_any _).mono ?_; rintro e w7 ⟨rfl, g7⟩)
          go_ret
          exact ⟨rfl, ((GV.trans gF).trans g8).trans g7⟩
      · have Hav := Lib.hid hk4
        have hql := hk3 q hq
        have Hql := Lib.hid hql
        clear hk3 hk4 hql
        go_upto_region 20 with first | (go_at_call 18; refine (pAsk_any E F _ ss _ (Hv.out.grow GV)).mono ?_; rw [Hae.out, Hav.out]; rintro e w4 ⟨rfl, g4⟩; have y0 := g4.keeps v0; have y1 := g4.keeps v1; have y2 := g4.keeps v2; have hly := lt_of_cell y0) | (go_at_call 23; refine (pCut_any E F _ ss _ (Hv.out.grow (GV.trans g4))).mono ?_; rw [He.out, Hce.out]; rintro e w5 ⟨rfl, g5⟩; have z0 := g5.keeps y0; have z1 := g5.keeps y1; have z2 := g5.keeps y2; have z9 := g5.keeps (g4.keeps t9); have hlz := lt_of_cell z0; have hlz9 := lt_of_cell z9) | (go_at_call 33; refine (lsettled_any E F _ ss _ (Hv.out.grow (((GV.trans g4).trans g5).alloc _)) Hval.out Hfe.out).mono ?_; rw [Hks.out, Hsb.out]; rintro e w6 ⟨rfl, g6⟩; have x2 := g6.keeps (Grow.keepA z2 _); have hlx := lt_of_cell x2)
        have gF : Grow V w6 := ((g4.trans g5).alloc _).trans g6
        have gG := gF
        clear y0 y1 y2 hly z0 z1 z2 z9 hlz hlz9 g4 g5 g6
        go_wp2_with first | (go_at_call 34; refine (HS.out _ q gF hq).mono ?_; rw [Hql.out]; rintro e w8 ⟨rfl, g8⟩) | (go_at_call 19; refine (lalive_any _).mono ?_; rintro e w7 ⟨rfl, g7⟩)
        go_ret
        exact ⟨rfl, ((GV.trans gF).trans g8).trans g7⟩
end Go.Proofs.Ytbeglemohfbdfaa
