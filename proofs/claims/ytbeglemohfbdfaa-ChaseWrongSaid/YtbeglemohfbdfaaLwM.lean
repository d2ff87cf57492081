/- The law ChaseWrong: the walk. Conditions: sizes. -/
import Derived.Test.YtbeglemohfbdfaaLwL
import Derived.Deep.DeepCutAuto
namespace Go.Proofs.Ytbeglemohfbdfaa
open Go.RowKit Go.Instr

theorem bits_every (n L : Nat) (hn : n < 256) (h1 : 1 ≤ L) (h3 : L ≤ 3) : bits .and .i64 (n : Int) ((2 ^ L - 1 : Nat) : Int) = ((n % 2 ^ L : Nat) : Int) := by
  have key : ∀ n : Fin 256, ∀ L : Fin 4, 1 ≤ L.1 → bits .and .i64 (n.1 : Int) ((2 ^ L.1 - 1 : Nat) : Int) = ((n.1 % 2 ^ L.1 : Nat) : Int) := by decide +kernel
  exact key ⟨n, hn⟩ ⟨L, by omega⟩ h1
theorem codeO_no {E F : Int} {ss : List (List Int)} {ok : Bool} (hv : validB E F ss = false) : codeO E F ss ok = 1 := by unfold codeO; rw [if_pos hv]
theorem codeO_ok {E F : Int} {ss : List (List Int)} {ok : Bool} (hv : validB E F ss = true) (ho : ok = true) : codeO E F ss ok = 0 := by unfold codeO; rw [hv, ho]; rfl
theorem wrong_at {E F : Int} {ss : List (List Int)} {k : Nat} {l : List Int} (hv : validB E F ss = true) (hk : ss[k]? = some l) : codeO E F ss (inB k 0 (ss.length - 1)) = 0 ∧ wrongE E F ss k = ((wrongV E l : Nat) : Int) := by
  have hlt := (List.getElem?_eq_some_iff.1 hk).1
  have hc := codeO_ok hv (inB_true.2 (show (0 : Int) ≤ (k : Int) ∧ (k : Int) ≤ (ss.length : Int) - 1 by omega))
  refine ⟨hc, ?_⟩
  unfold wrongE
  rw [if_pos hc, Int.toNat_natCast, hk]
  rfl
set_option maxRecDepth 100000 in
set_option maxHeartbeats 4000000 in
theorem lchaseWrong (E F : Int) (v : Value) (ss : List (List Int)) (wi bi : Int) (w : World) (hv : IsSheets w v ss) (hwi : 0 ≤ wi ∧ wi < 256) (hbi : 0 ≤ bi ∧ bi < 256) :
    Calls Try.prog 6 #[.agg #[.int .i64 E, .int .i64 F, v], .int .u8 wi, .int .u8 bi] w fun e w' => e = .returned (.bool true) ∧ Grow w w' := by
  have hmf : ∀ (fn : Fn) (first cap : Array Value) (w : World), (Instr.makeFunc fn first cap).run Try.prog w = .ok (.func fn first cap) w := fun _ _ _ _ => rfl
  obtain ⟨wn, rfl⟩ : ∃ n : Nat, wi = n := ⟨wi.toNat, by omega⟩
  obtain ⟨bn, rfl⟩ : ∃ n : Nat, bi = n := ⟨bi.toNat, by omega⟩
  have hwn : wn < 256 := by omega
  have hbn : bn < 256 := by omega
  clear hwi hbi
  obtain ⟨a, cap, rfl, hcap, hlen, hrow⟩ := id hv
  have Hv := Lib.hid hv
  have Hrow := Lib.hid hrow
  clear hv hrow
  go_enter Try.func6, Try.ntmps6
  go_wp2_with fail
  have hgw : Grow w (w.alloc (.cells #[.int .i64 E, .int .i64 F, .slice a ss.length cap] 32)) := (Grow.refl w).alloc _
  have c0 : (w.alloc (.cells #[.int .i64 E, .int .i64 F, .slice a ss.length cap] 32)).cell? ⟨w.heap.size, 0, none⟩ = some (.int .i64 E) := cell_new rfl rfl
  have c1 : (w.alloc (.cells #[.int .i64 E, .int .i64 F, .slice a ss.length cap] 32)).cell? ⟨w.heap.size, 1, none⟩ = some (.int .i64 F) := cell_new rfl rfl
  have c2 : (w.alloc (.cells #[.int .i64 E, .int .i64 F, .slice a ss.length cap] 32)).cell? ⟨w.heap.size, 2, none⟩ = some (.slice a ss.length cap) := cell_new rfl rfl
  obtain ⟨W, hW⟩ : ∃ z, w.alloc (.cells #[.int .i64 E, .int .i64 F, .slice a ss.length cap] 32) = z := ⟨_, rfl⟩
  obtain ⟨B, hB⟩ : ∃ z, w.heap.size = z := ⟨_, rfl⟩
  rw [hW] at hgw c0 c1 c2
  rw [hB] at c0 c1 c2
  rw [hW, hB]
  have HB := Lib.hid hB
  clear hW hB
  refine (llong_any E F _ ss _ (Hv.out.grow hgw)).mono ?_
  rintro e w1 ⟨⟨b, rfl⟩, g1⟩
  have G1 := hgw.trans g1
  have d0 := g1.keeps c0
  have d1 := g1.keeps c1
  have d2 := g1.keeps c2
  clear c0 c1 c2 g1
  cases b
  case true =>
    go_wp2_with (go_at_call 19; refine (lalive_any _).mono ?_; rintro e w2 ⟨rfl, g2⟩)
    go_ret
    exact ⟨rfl, G1.trans g2⟩
  cases hval : validB E F ss
  case false =>
    have hc := codeO_no (ok := inB 0 0 (ss.length - 1)) hval
    have hw0 : wrongE E F ss 0 = 0 := by unfold wrongE; rw [if_neg (by rw [hc]; decide)]
    have Hval := Lib.hid hval
    have Hc := Lib.hid hc
    have Hw := Lib.hid hw0
    clear hval hc hw0
    go_wp2_with first | (go_at_call 29; refine (rChase_any E F _ ss _ (Hv.out.grow G1)).mono ?_; rintro e w2 ⟨rfl, g2⟩; rw [Hval.out]; have k0 := g2.keeps d0; have k1 := g2.keeps d1; have k2 := g2.keeps d2) | (go_at_call 16; refine (pWrong_any E F 0 _ ss _ (Hv.out.grow (G1.trans g2))).mono ?_; rw [Hc.out, Hw.out]; rintro e w3 ⟨rfl, g3⟩) | (go_at_call 19; refine (lalive_any _).mono ?_; rintro e w4 ⟨rfl, g4⟩)
    go_ret
    exact ⟨rfl, ((G1.trans g2).trans g3).trans g4⟩
  have Hval := Lib.hid hval
  obtain ⟨hE, hn6, hF6, hll⟩ := valid_parts hval
  have Hll := Lib.hid hll
  clear hval hll
  have hnn : (ss.length : Int) ≤ 6 := by omega
  obtain ⟨p, hpd⟩ : ∃ p, wn % ss.length = p := ⟨_, rfl⟩
  have hp : p < ss.length := by rw [← hpd]; exact Nat.mod_lt _ (by omega)
  have hrem : (wn : Int).tmod (ss.length : Int) = (p : Int) := by rw [← hpd]; exact (Int.ofNat_tmod wn ss.length).symm
  have hcv : IntKind.i64.wrap (wn : Int) = (wn : Int) := IntWalk.i64_in _ (by omega)
  have hne0 : (ss.length : Int) ≠ 0 := by omega
  clear hpd
  obtain ⟨l, hl⟩ : ∃ l, ss[p]? = some l := ⟨ss[p], List.getElem?_eq_getElem hp⟩
  have hlm := Hll.out l (List.mem_of_getElem? hl)
  have hl1 : 1 ≤ l.length := hlm.1.1
  have hl3 : l.length ≤ 3 := hlm.1.2
  have Hlb := Lib.hid hlm.2
  obtain ⟨hwc, hwe⟩ := wrong_at Hval.out hl
  have hwi := wrong_is (E := E) hl3
  have hwlt := wrong_lt hE.1 hl1 hl3 hlm.2
  obtain ⟨st, hst⟩ : ∃ z, wrongV E l = z := ⟨_, rfl⟩
  have hneed : ∀ i, i < l.length → st.testBit i = true → st - 2 ^ i < st ∧ rightB E l (st - 2 ^ i) = false := fun i hi hb => by
    have := wrong_need (E := E) hl3 hi (by rw [hst]; exact hb)
    rw [hst] at this
    exact this
  have hoth : ∀ o, o < 2 ^ l.length → rightB E l o = true → ¬ (sizeN o < sizeN st) ∧ ¬ (sizeN o = sizeN st ∧ o < st) := fun o ho hr => by
    have := wrong_other (E := E) hl3 ho hr
    rw [hst] at this
    exact this
  rw [hst] at hwe hwi hwlt
  have hrt := hwi.right
  have hpw : 2 ≤ 2 ^ l.length ∧ 2 ^ l.length ≤ 8 := ⟨Nat.le_trans (by decide : 2 ≤ 2 ^ 1) (Nat.pow_le_pow_right (by decide) hl1), Nat.le_trans (Nat.pow_le_pow_right (by decide) hl3) (by decide)⟩
  obtain ⟨N, hN⟩ : ∃ N : Nat, 2 ^ l.length - 1 = N := ⟨_, rfl⟩
  rw [hN] at hwlt
  have hsh : IntKind.i64.wrap (2 ^ l.length) = 2 ^ l.length := by rw [show (2 : Int) ^ l.length = ((2 ^ l.length : Nat) : Int) by simp]; exact IntWalk.i64_in _ (by omega)
  have hsu : IntKind.i64.wrap (2 ^ l.length - 1) = (N : Int) := by rw [show (2 : Int) ^ l.length - 1 = (N : Int) by rw [show (2 : Int) ^ l.length = ((2 ^ l.length : Nat) : Int) by simp]; omega]; exact IntWalk.i64_in _ (by omega)
  have hown := bits_every bn l.length hbn hl1 hl3
  rw [hN] at hown
  obtain ⟨o, ho⟩ : ∃ z, bn % 2 ^ l.length = z := ⟨_, rfl⟩
  have hol : o < 2 ^ l.length := by rw [← ho]; exact Nat.mod_lt _ (by omega)
  rw [ho] at hown
  have hst8 : st < 8 := by omega
  have ho8 : o < 8 := by omega
  have hN8 : N < 8 := by omega
  have hge : decide ((N : Int) ≤ (st : Int)) = false := by simp; omega
  have hgen : decide (N ≤ st) = false := by simp; omega
  have hcb : IntKind.i64.wrap (bn : Int) = (bn : Int) := IntWalk.i64_in _ (by omega)
  have Hwc := Lib.hid hwc
  have Hwe := Lib.hid hwe
  have Hrt := Lib.hid hrt
  have Hneed := Lib.hid hneed
  have Hoth := Lib.hid hoth
  have Hl := Lib.hid hl
  have Hol := Lib.hid hol
  have Hpw := Lib.hid hpw
  clear hwc hwe hwi hneed hoth hlm hst ho hN hl hrt hol hpw
  obtain ⟨b0, o0, l', ta, tc, hl', rfl, hc, hsc, _, _⟩ := Hrow.out.get hp
  rw [Hl.out] at hl'
  injection hl' with hl'
  subst hl'
  have hcl := G1.keeps hc
  go_upto_region 7 with (go_at_call 29; refine (rChase_any E F _ ss _ (Hv.out.grow G1)).mono ?_; rintro e w2 ⟨rfl, g2⟩; rw [Hval.out]; have k0 := g2.keeps d0; have k1 := g2.keeps d1; have k2 := g2.keeps d2; have kc := g2.keeps hcl; have hlk := lt_of_cell k0; have hlc := lt_of_cell kc)
  have gV : Grow w2 (w2.alloc (.cells #[.int .i64 p] 3)) := (Grow.refl w2).alloc _
  have t9 : (w2.alloc (.cells #[.int .i64 p] 3)).cell? ⟨w2.heap.size, 0, none⟩ = some (.int .i64 p) := cell_new rfl rfl
  have GV : Grow w (w2.alloc (.cells #[.int .i64 p] 3)) := (G1.trans g2).alloc _
  have v0 := gV.keeps k0
  have v1 := gV.keeps k1
  have v2 := gV.keeps k2
  have vc := gV.keeps kc
  obtain ⟨V, hV⟩ : ∃ z, w2.alloc (.cells #[.int .i64 p] 3) = z := ⟨_, rfl⟩
  obtain ⟨T, hT⟩ : ∃ z, w2.heap.size = z := ⟨_, rfl⟩
  rw [hV] at t9 GV v0 v1 v2 vc
  rw [hT] at t9
  rw [hV, hT]
  clear hV hT k0 k1 k2 kc hlk hlc gV g2 G1 d0 d1 d2 hc hcl hgw
  have HrowV := Lib.hid (Hrow.out.grow GV)
  clear Hrow
  have hlT := lt_of_cell t9
  have hlB := lt_of_cell v0
  have hlc := lt_of_cell vc
  -- the first region behind: Wrong, the closure, all watches, and the set's own test
  go_upto_region 9 with (go_at_call 16; refine (pWrong_any E F p _ ss _ (Hv.out.grow GV)).mono ?_; rw [Hwc.out, Hwe.out]; rintro e w3 ⟨rfl, g3⟩)
  have x0 := g3.keeps v0
  have x1 := g3.keeps v1
  have x2 := g3.keeps v2
  have xc := g3.keeps vc
  have x9 := g3.keeps t9
  have hl3' := lt_of_cell x0
  have hl4' := lt_of_cell x9
  have hl5' := lt_of_cell xc
  have G3 := GV.trans g3
  have Hrow3 := Lib.hid (HrowV.out.grow g3)
  clear v0 v1 v2 vc t9 hlT hlB hlc HrowV GV g3
  have hrow3 : ∀ X, Grow w3 X → ∀ s : Nat, s < 8 → Calls Try.prog 31 #[.int .i64 s, .pointer (some ⟨B, 0, none⟩), .pointer (some ⟨T, 0, none⟩)] X fun e w' => e = .returned (.bool (rightB E l s)) ∧ Grow X w' := fun X g s hs =>
    lright_any B T E _ cap ss p l s X (g.keeps x0) (g.keeps x2) (g.keeps x9) (Hrow3.out.grow g) Hl.out hl1 hl3 Hlb.out hE hs
  have HR := Lib.hid hrow3
  clear hrow3
  go_wp2_with (refine (HR.out _ (Grow.refl _) st hst8).mono ?_; rw [Hrt.out]; rintro e w4 ⟨rfl, g4⟩; have y0 := g4.keeps x0; have y2 := g4.keeps x2; have yc := g4.keeps xc; have y9 := g4.keeps x9; have hl6 := lt_of_cell y0; have hl7 := lt_of_cell y9; have hl8 := lt_of_cell yc)
  go_loopw [87] (fun i wr => ∃ k : Nat, k ≤ l.length ∧ i = .int .i64 k ∧ Grow w4 wr) (fun i _ => l.length - (intOf i).toNat)
  case atStart => exact ⟨0, Nat.zero_le _, rfl, Grow.refl _⟩
  case round =>
    obtain ⟨k, hk, rfl, hg⟩ := hrel
    by_cases hlt : k < l.length
    · have hba := bits_and1i st k hst8 (by omega)
      have hk2 : (2 : Int) ^ k ≤ 4 := by
        have h : k = 0 ∨ k = 1 ∨ k = 2 := by omega
        rcases h with rfl | rfl | rfl <;> decide
      have hk1 : 1 ≤ (2 : Int) ^ k := by
        have h : k = 0 ∨ k = 1 ∨ k = 2 := by omega
        rcases h with rfl | rfl | rfl <;> decide
      have hsk : IntKind.i64.wrap (2 ^ k) = 2 ^ k := IntWalk.i64_in _ (by omega)
      by_cases hbit : st.testBit k = true
      · rw [if_pos hbit] at hba
        have hna := bits_nand st k hst8 (by omega) hbit
        obtain ⟨n1, n2⟩ := Hneed.out k hlt hbit
        obtain ⟨m, hm⟩ : ∃ m, st - 2 ^ k = m := ⟨_, rfl⟩
        rw [hm] at n1 n2 hna
        have N2 := Lib.hid n2
        clear hm n2 hbit
        go_wp2_with (refine (HR.out _ (g4.trans hg) m (by omega)).mono ?_; rw [N2.out]; rintro e w5 ⟨rfl, g5⟩)
        exact ⟨⟨k + 1, by omega, by go_num, hg.trans g5⟩, by simp [intOf]; omega⟩
      · rw [if_neg hbit] at hba
        clear hbit
        go_wp2_with fail
        exact ⟨⟨k + 1, by omega, by go_num, hg⟩, by simp [intOf]; omega⟩
    · obtain rfl : k = l.length := by omega
      have G5 := (G3.trans g4).trans hg
      have z0 := hg.keeps y0
      have z1 := hg.keeps (g4.keeps x1)
      have z2 := hg.keeps y2
      have z9 := hg.keeps y9
      have hl9 := lt_of_cell z0
      obtain ⟨X, hX⟩ : ∃ z, z = wr := ⟨_, rfl⟩
      subst hX
      have gX := g4.trans hg
      clear hg g4 G3 y0 y2 yc y9 x0 x1 x2 x9 xc hge hgen
      cases hr : rightB E l o
      · have Hr2 := Lib.hid hr
        clear hr
        go_wp2_with (go_at_call 31; refine (HR.out _ gX o ho8).mono ?_; rw [Hr2.out]; rintro e w5 ⟨rfl, g5⟩; have gY := g5; have u0 := g5.keeps z0; have u1 := g5.keeps z1; have u2 := g5.keeps z2; have hl10 := lt_of_cell u0)
        have GY := G5.trans gY
        clear z0 z1 z2 z9 hl9 gY gX
        go_loopw [17, 137] (fun nv i wr => ∃ k : Nat, k ≤ ss.length ∧ i = .int .i64 k ∧ nv = .bool ((ss.take k).all fun l => decide (wrongV E l = 0)) ∧ Grow w5 wr) (fun _ i _ => ss.length - (intOf i).toNat)
        case atStart => exact ⟨0, Nat.zero_le _, rfl, rfl, Grow.refl _⟩
        case round =>
          obtain ⟨k, hk, rfl, rfl, hg⟩ := hrel
          have q0 := hg.keeps u0
          have q1 := hg.keeps u1
          have q2 := hg.keeps u2
          have hl11 := lt_of_cell q0
          obtain ⟨nb, hnb⟩ : ∃ z, ((ss.take k).all fun l => decide (wrongV E l = 0)) = z := ⟨_, rfl⟩
          rw [hnb]
          have Hnb := Lib.hid hnb
          clear hnb
          by_cases hlt : k < ss.length
          · have hlk : ss[k]? = some ss[k] := List.getElem?_eq_getElem hlt
            obtain ⟨e1, e2⟩ := wrong_at Hval.out hlk
            obtain ⟨sk, hsk⟩ : ∃ z, wrongV E ss[k] = z := ⟨_, rfl⟩
            rw [hsk] at e2
            have en : ((ss.take (k + 1)).all fun l => decide (wrongV E l = 0)) = (nb && decide (sk = 0)) := by
              rw [take_get hlk, List.all_append, Hnb.out]
              simp [hsk]
            have E1 := Lib.hid e1
            have E2 := Lib.hid e2
            have En := Lib.hid en
            clear e1 e2 en hlk hsk
            cases nb
            · go_wp2_with (go_at_call 16; refine (pWrong_any E F k _ ss _ (Hv.out.grow (GY.trans hg))).mono ?_; rw [E1.out, E2.out]; rintro e w11 ⟨rfl, g11⟩)
              exact ⟨⟨k + 1, by omega, by go_num, by rw [En.out]; rfl, hg.trans g11⟩, by simp [intOf]; omega⟩
            · by_cases hs0 : sk = 0
              · subst hs0
                go_wp2_with (go_at_call 16; refine (pWrong_any E F k _ ss _ (Hv.out.grow (GY.trans hg))).mono ?_; rw [E1.out, E2.out]; rintro e w11 ⟨rfl, g11⟩)
                exact ⟨⟨k + 1, by omega, by go_num, by rw [En.out]; rfl, hg.trans g11⟩, by simp [intOf]; omega⟩
              · have hs1 : ((sk : Int) == 0) = false := by simp; omega
                have en : (true && decide (sk = 0)) = false := by simp [hs0]
                rw [en] at En
                clear en
                go_wp2_with (go_at_call 16; refine (pWrong_any E F k _ ss _ (Hv.out.grow (GY.trans hg))).mono ?_; rw [E1.out, E2.out]; rintro e w11 ⟨rfl, g11⟩)
                exact ⟨⟨k + 1, by omega, by go_num, by rw [En.out], hg.trans g11⟩, by simp [intOf]; omega⟩
          · obtain rfl : k = ss.length := by omega
            rw [List.take_length] at Hnb
            have hnf := none_feas (E := E) (ss := ss) (fun l hl => (Hll.out l hl).1.2)
            rw [Hnb.out] at hnf
            have hee : errOf E F ss true = if nb = true then 0 else 10 := by
              rw [hnf]
              cases hf : feasB (clocksOf E ss)
              · exact errOf_no Hval.out hf rfl
              · exact errOf_ok Hval.out hf rfl
            have Hee := Lib.hid hee
            clear hnf hee
            cases nb
            · have Hee2 : Hid (errOf E F ss true = 10) := Hee.out
              clear Hee
              go_wp2_with first | (go_at_call 24; refine (pOrders_any E F _ ss _ (Hv.out.grow (GY.trans hg))).mono ?_; rw [Hee2.out]; rintro e w12 ⟨rfl, g12⟩) | (go_at_call 19; refine (lalive_any _).mono ?_; rintro e w13 ⟨rfl, g13⟩)
              go_ret
              exact ⟨rfl, ((GY.trans hg).trans g12).trans g13⟩
            · have Hee2 : Hid (errOf E F ss true = 0) := Hee.out
              clear Hee
              go_wp2_with first | (go_at_call 24; refine (pOrders_any E F _ ss _ (Hv.out.grow (GY.trans hg))).mono ?_; rw [Hee2.out]; rintro e w12 ⟨rfl, g12⟩) | (go_at_call 19; refine (lalive_any _).mono ?_; rintro e w13 ⟨rfl, g13⟩)
              go_ret
              exact ⟨rfl, ((GY.trans hg).trans g12).trans g13⟩
      · obtain ⟨h1, h2⟩ := Hoth.out o Hol.out hr
        have Hr2 := Lib.hid hr
        clear hr
        obtain ⟨sa, ha⟩ : ∃ z, sizeN o = z := ⟨_, rfl⟩
        obtain ⟨sb, hb⟩ : ∃ z, sizeN st = z := ⟨_, rfl⟩
        rw [ha, hb] at h1 h2
        have Ha := Lib.hid ha
        have Hb := Lib.hid hb
        clear ha hb
        have hd1 : decide ((sa : Int) < (sb : Int)) = false := by simp; omega
        have hd1n : decide (sa < sb) = false := by simp; omega
        by_cases hab : sa = sb
        · subst hab
          have hd2 : decide ((o : Int) < (st : Int)) = false := by simp; omega
          have hd2n : decide (o < st) = false := by simp; omega
          clear h1 h2
          go_wp2_with first | (go_at_call 31; refine (HR.out _ gX o ho8).mono ?_; rw [Hr2.out]; rintro e w5 ⟨rfl, g5⟩; have gY := g5; have u0 := g5.keeps z0; have u1 := g5.keeps z1; have u2 := g5.keeps z2; have hl10 := lt_of_cell u0) | (go_at_call 32; refine (rSize_any _ (by first | exact ho8 | exact hst8) _).mono ?_; (first | rw [Ha.out] | rw [Hb.out]); rintro e w6 ⟨rfl, g6⟩; replace gY := gY.trans g6; replace u0 := g6.keeps u0; replace u1 := g6.keeps u1; replace u2 := g6.keeps u2; have hl10 := lt_of_cell u0)
          have GY := G5.trans gY
          clear z0 z1 z2 z9 hl9 gY gX
          go_loopw [17, 137] (fun nv i wr => ∃ k : Nat, k ≤ ss.length ∧ i = .int .i64 k ∧ nv = .bool ((ss.take k).all fun l => decide (wrongV E l = 0)) ∧ Grow w6 wr) (fun _ i _ => ss.length - (intOf i).toNat)
          case atStart => exact ⟨0, Nat.zero_le _, rfl, rfl, Grow.refl _⟩
          case round =>
            obtain ⟨k, hk, rfl, rfl, hg⟩ := hrel
            have q0 := hg.keeps u0
            have q1 := hg.keeps u1
            have q2 := hg.keeps u2
            have hl11 := lt_of_cell q0
            obtain ⟨nb, hnb⟩ : ∃ z, ((ss.take k).all fun l => decide (wrongV E l = 0)) = z := ⟨_, rfl⟩
            rw [hnb]
            have Hnb := Lib.hid hnb
            clear hnb
            by_cases hlt : k < ss.length
            · have hlk : ss[k]? = some ss[k] := List.getElem?_eq_getElem hlt
              obtain ⟨e1, e2⟩ := wrong_at Hval.out hlk
              obtain ⟨sk, hsk⟩ : ∃ z, wrongV E ss[k] = z := ⟨_, rfl⟩
              rw [hsk] at e2
              have en : ((ss.take (k + 1)).all fun l => decide (wrongV E l = 0)) = (nb && decide (sk = 0)) := by
                rw [take_get hlk, List.all_append, Hnb.out]
                simp [hsk]
              have E1 := Lib.hid e1
              have E2 := Lib.hid e2
              have En := Lib.hid en
              clear e1 e2 en hlk hsk
              cases nb
              · go_wp2_with (go_at_call 16; refine (pWrong_any E F k _ ss _ (Hv.out.grow (GY.trans hg))).mono ?_; rw [E1.out, E2.out]; rintro e w11 ⟨rfl, g11⟩)
                exact ⟨⟨k + 1, by omega, by go_num, by rw [En.out]; rfl, hg.trans g11⟩, by simp [intOf]; omega⟩
              · by_cases hs0 : sk = 0
                · subst hs0
                  go_wp2_with (go_at_call 16; refine (pWrong_any E F k _ ss _ (Hv.out.grow (GY.trans hg))).mono ?_; rw [E1.out, E2.out]; rintro e w11 ⟨rfl, g11⟩)
                  exact ⟨⟨k + 1, by omega, by go_num, by rw [En.out]; rfl, hg.trans g11⟩, by simp [intOf]; omega⟩
                · have hs1 : ((sk : Int) == 0) = false := by simp; omega
                  have en : (true && decide (sk = 0)) = false := by simp [hs0]
                  rw [en] at En
                  clear en
                  go_wp2_with (go_at_call 16; refine (pWrong_any E F k _ ss _ (Hv.out.grow (GY.trans hg))).mono ?_; rw [E1.out, E2.out]; rintro e w11 ⟨rfl, g11⟩)
                  exact ⟨⟨k + 1, by omega, by go_num, by rw [En.out], hg.trans g11⟩, by simp [intOf]; omega⟩
            · obtain rfl : k = ss.length := by omega
              rw [List.take_length] at Hnb
              have hnf := none_feas (E := E) (ss := ss) (fun l hl => (Hll.out l hl).1.2)
              rw [Hnb.out] at hnf
              have hee : errOf E F ss true = if nb = true then 0 else 10 := by
                rw [hnf]
                cases hf : feasB (clocksOf E ss)
                · exact errOf_no Hval.out hf rfl
                · exact errOf_ok Hval.out hf rfl
              have Hee := Lib.hid hee
              clear hnf hee
              cases nb
              · have Hee2 : Hid (errOf E F ss true = 10) := Hee.out
                clear Hee
                go_wp2_with first | (go_at_call 24; refine (pOrders_any E F _ ss _ (Hv.out.grow (GY.trans hg))).mono ?_; rw [Hee2.out]; rintro e w12 ⟨rfl, g12⟩) | (go_at_call 19; refine (lalive_any _).mono ?_; rintro e w13 ⟨rfl, g13⟩)
                go_ret
                exact ⟨rfl, ((GY.trans hg).trans g12).trans g13⟩
              · have Hee2 : Hid (errOf E F ss true = 0) := Hee.out
                clear Hee
                go_wp2_with first | (go_at_call 24; refine (pOrders_any E F _ ss _ (Hv.out.grow (GY.trans hg))).mono ?_; rw [Hee2.out]; rintro e w12 ⟨rfl, g12⟩) | (go_at_call 19; refine (lalive_any _).mono ?_; rintro e w13 ⟨rfl, g13⟩)
                go_ret
                exact ⟨rfl, ((GY.trans hg).trans g12).trans g13⟩
        · have hd3 : ((sa : Int) == (sb : Int)) = false := by simp; omega
          clear h1 h2
          go_wp2_with first | (go_at_call 31; refine (HR.out _ gX o ho8).mono ?_; rw [Hr2.out]; rintro e w5 ⟨rfl, g5⟩; have gY := g5; have u0 := g5.keeps z0; have u1 := g5.keeps z1; have u2 := g5.keeps z2; have hl10 := lt_of_cell u0) | (go_at_call 32; refine (rSize_any _ (by first | exact ho8 | exact hst8) _).mono ?_; (first | rw [Ha.out] | rw [Hb.out]); rintro e w6 ⟨rfl, g6⟩; replace gY := gY.trans g6; replace u0 := g6.keeps u0; replace u1 := g6.keeps u1; replace u2 := g6.keeps u2; have hl10 := lt_of_cell u0)
          have GY := G5.trans gY
          clear z0 z1 z2 z9 hl9 gY gX
          go_loopw [17, 137] (fun nv i wr => ∃ k : Nat, k ≤ ss.length ∧ i = .int .i64 k ∧ nv = .bool ((ss.take k).all fun l => decide (wrongV E l = 0)) ∧ Grow w6 wr) (fun _ i _ => ss.length - (intOf i).toNat)
          case atStart => exact ⟨0, Nat.zero_le _, rfl, rfl, Grow.refl _⟩
          case round =>
            obtain ⟨k, hk, rfl, rfl, hg⟩ := hrel
            have q0 := hg.keeps u0
            have q1 := hg.keeps u1
            have q2 := hg.keeps u2
            have hl11 := lt_of_cell q0
            obtain ⟨nb, hnb⟩ : ∃ z, ((ss.take k).all fun l => decide (wrongV E l = 0)) = z := ⟨_, rfl⟩
            rw [hnb]
            have Hnb := Lib.hid hnb
            clear hnb
            by_cases hlt : k < ss.length
            · have hlk : ss[k]? = some ss[k] := List.getElem?_eq_getElem hlt
              obtain ⟨e1, e2⟩ := wrong_at Hval.out hlk
              obtain ⟨sk, hsk⟩ : ∃ z, wrongV E ss[k] = z := ⟨_, rfl⟩
              rw [hsk] at e2
              have en : ((ss.take (k + 1)).all fun l => decide (wrongV E l = 0)) = (nb && decide (sk = 0)) := by
                rw [take_get hlk, List.all_append, Hnb.out]
                simp [hsk]
              have E1 := Lib.hid e1
              have E2 := Lib.hid e2
              have En := Lib.hid en
              clear e1 e2 en hlk hsk
              cases nb
              · go_wp2_with (go_at_call 16; refine (pWrong_any E F k _ ss _ (Hv.out.grow (GY.trans hg))).mono ?_; rw [E1.out, E2.out]; rintro e w11 ⟨rfl, g11⟩)
                exact ⟨⟨k + 1, by omega, by go_num, by rw [En.out]; rfl, hg.trans g11⟩, by simp [intOf]; omega⟩
              · by_cases hs0 : sk = 0
                · subst hs0
                  go_wp2_with (go_at_call 16; refine (pWrong_any E F k _ ss _ (Hv.out.grow (GY.trans hg))).mono ?_; rw [E1.out, E2.out]; rintro e w11 ⟨rfl, g11⟩)
                  exact ⟨⟨k + 1, by omega, by go_num, by rw [En.out]; rfl, hg.trans g11⟩, by simp [intOf]; omega⟩
                · have hs1 : ((sk : Int) == 0) = false := by simp; omega
                  have en : (true && decide (sk = 0)) = false := by simp [hs0]
                  rw [en] at En
                  clear en
                  go_wp2_with (go_at_call 16; refine (pWrong_any E F k _ ss _ (Hv.out.grow (GY.trans hg))).mono ?_; rw [E1.out, E2.out]; rintro e w11 ⟨rfl, g11⟩)
                  exact ⟨⟨k + 1, by omega, by go_num, by rw [En.out], hg.trans g11⟩, by simp [intOf]; omega⟩
            · obtain rfl : k = ss.length := by omega
              rw [List.take_length] at Hnb
              have hnf := none_feas (E := E) (ss := ss) (fun l hl => (Hll.out l hl).1.2)
              rw [Hnb.out] at hnf
              have hee : errOf E F ss true = if nb = true then 0 else 10 := by
                rw [hnf]
                cases hf : feasB (clocksOf E ss)
                · exact errOf_no Hval.out hf rfl
                · exact errOf_ok Hval.out hf rfl
              have Hee := Lib.hid hee
              clear hnf hee
              cases nb
              · have Hee2 : Hid (errOf E F ss true = 10) := Hee.out
                clear Hee
                go_wp2_with first | (go_at_call 24; refine (pOrders_any E F _ ss _ (Hv.out.grow (GY.trans hg))).mono ?_; rw [Hee2.out]; rintro e w12 ⟨rfl, g12⟩) | (go_at_call 19; refine (lalive_any _).mono ?_; rintro e w13 ⟨rfl, g13⟩)
                go_ret
                exact ⟨rfl, ((GY.trans hg).trans g12).trans g13⟩
              · have Hee2 : Hid (errOf E F ss true = 0) := Hee.out
                clear Hee
                go_wp2_with first | (go_at_call 24; refine (pOrders_any E F _ ss _ (Hv.out.grow (GY.trans hg))).mono ?_; rw [Hee2.out]; rintro e w12 ⟨rfl, g12⟩) | (go_at_call 19; refine (lalive_any _).mono ?_; rintro e w13 ⟨rfl, g13⟩)
                go_ret
                exact ⟨rfl, ((GY.trans hg).trans g12).trans g13⟩
end Go.Proofs.Ytbeglemohfbdfaa
