/- The law CountSettle: the walk. Conditions: sizes. -/
import Derived.Test.YteijilbdllpbcaaLwB
import Derived.Test.YteijilbdllpbcaaLwC
import Derived.Test.YteijilbdllpbcaaLwP
import Derived.Test.YteijilbdllpbcaaPlI
import Derived.Test.YteijilbdllpbcaaPlK
import Derived.Test.YteijilbdllpbcaaPlN
import Derived.Test.YteijilbdllpbcaaPgY
import Derived.Deep.DeepCutAuto
namespace Go.Proofs.Yteijilbdllpbcaa
open Go.RowKit

/-- The law's own function 'at'. -/
theorem lsetAt (x : Value) (l : List Int) (n b : Nat) (w : World) (hv : IsInts w x l) (hb : w.cell? ⟨b, 0, none⟩ = some (.int .i64 n)) :
    Calls Try.prog 37 #[x, .pointer (some ⟨b, 0, none⟩)] w fun e w' => e = .returned (.int .i64 (atOf n l)) ∧ Grow w w' := by
  obtain ⟨a, cap, rfl, hcap, hlen, hrow⟩ := hv
  by_cases h : n < l.length
  · obtain ⟨bb, bo, y, hy, rfl, hc⟩ := hrow.int h
    have he : atOf n l = y := by unfold atOf; rw [hy]; rfl
    rw [he]
    clear he hy hrow
    go_enter Try.func37, Try.ntmps37
    go_wp2_with fail
    go_ret
    exact ⟨rfl, Grow.refl _⟩
  · have he : atOf n l = -1 := by unfold atOf; rw [List.getElem?_eq_none (by omega)]; rfl
    rw [he]
    clear he hrow
    go_enter Try.func37, Try.ntmps37
    go_wp2_with fail
    go_ret
    exact ⟨rfl, Grow.refl _⟩
set_option maxRecDepth 100000 in
/-- The law's own function 'sign'. -/
theorem lsetSign (x : Value) (l : List Int) (p q : Int) (b c : Nat) (w : World) (hv : IsInts w x l) (hb : w.cell? ⟨b, 0, none⟩ = some (.int .i64 p)) (hc : w.cell? ⟨c, 0, none⟩ = some (.int .i64 q)) :
    Calls Try.prog 38 #[x, .pointer (some ⟨b, 0, none⟩), .pointer (some ⟨c, 0, none⟩)] w fun e w' => e = .returned (.int .i64 (signL p q l)) ∧ Grow w w' := by
  have Hv := Lib.hid hv
  have hlen : l.length ≤ 9223372036854775807 := by
    obtain ⟨_, _, _, _, h, _⟩ := hv
    omega
  have hp : l.count p ≤ l.length := List.count_le_length
  have hq : l.count q ≤ l.length := List.count_le_length
  have RL : Hid (∀ V (y n : Int), Grow w V → ((y = p ∧ n = l.count p) ∨ (y = q ∧ n = l.count q)) → Calls Try.prog 34 #[x, .int .i64 y] V fun e w' => e = .returned (.int .i64 n) ∧ V = w') := by
    rintro V y n hV (⟨rfl, rfl⟩ | ⟨rfl, rfl⟩)
    · exact rLapsOf_any x l _ V (Hv.out.grow hV)
    · exact rLapsOf_any x l _ V (Hv.out.grow hV)
  have hS : signL p q l = max (-1) (min 1 ((l.count p : Int) - (l.count q : Int))) := rfl
  rw [hS]
  clear hS
  obtain ⟨n, hn⟩ : ∃ n : Int, (l.count p : Int) = n := ⟨_, rfl⟩
  obtain ⟨m, hm⟩ : ∃ n : Int, (l.count q : Int) = n := ⟨_, rfl⟩
  rw [hn, hm]
  rw [hn, hm] at RL
  have E1 : IntKind.i64.wrap (n - m) = n - m := IntWalk.i64_in _ (by omega)
  clear hn hm hp hq hlen hv
  go_enter Try.func38, Try.ntmps38
  go_wp2_with fail
  (refine wp_region_held_drew (S := fun Wx => Grow w Wx ∧ Wx.cell? ⟨b, 0, none⟩ = some (.int .i64 p) ∧ Wx.cell? ⟨c, 0, none⟩ = some (.int .i64 q)) (by kernel_rfl) ⟨(Below.refl _ _).drew, Grow.keeps (Below.refl _ _).drew (by assumption), Grow.keeps (Below.refl _ _).drew (by assumption)⟩ (fun hHeld => ?_); refine wpAnyH_take (i := 0) (oi := _) (v := ?_) rfl (by kernel_rfl) (by kernel_rfl) (by kernel_rfl) (fun _ _ _ h => h) (Or.inl ⟨by rfl, ?_⟩) (by assumption) ?_; rotate_left; (focus (intro w hSw; (try dsimp only at hSw); go_simp; (try with_reducible rfl))); (try simp only [Act.put, List.setIfInBounds_toArray, List.set_cons_zero, List.set_cons_succ, List.getElem_toArray, List.getElem_cons_zero]); refine wpAnyH_take (i := 1) (oi := _) (v := ?_) rfl (by kernel_rfl) (by kernel_rfl) (by kernel_rfl) (fun _ _ _ h => h) (Or.inl ⟨by rfl, ?_⟩) (by assumption) ?_; rotate_left; (focus (intro w hSw; (try dsimp only at hSw); go_simp; (try with_reducible rfl))); (try simp only [Act.put, List.setIfInBounds_toArray, List.set_cons_zero, List.set_cons_succ, List.getElem_toArray, List.getElem_cons_zero, List.getElem_cons_succ]); refine wpAnyH_take (i := 3) (oi := _) (v := ?_) rfl (by kernel_rfl) (by kernel_rfl) (by kernel_rfl) (fun _ _ _ h => h) (Or.inl ⟨by rfl, ?_⟩) (by assumption) ?_; rotate_left; (focus (intro w hSw; (try dsimp only at hSw); go_simp; (try with_reducible rfl))); (try simp only [Act.put, List.setIfInBounds_toArray, List.set_cons_zero, List.set_cons_succ, List.getElem_toArray, List.getElem_cons_zero, List.getElem_cons_succ]); refine wpAnyH_take (i := 4) (oi := _) (v := ?_) rfl (by kernel_rfl) (by kernel_rfl) (by kernel_rfl) (fun _ _ _ h => h) (Or.inl ⟨by rfl, ?_⟩) (by assumption) ?_; rotate_left; (focus (intro w hSw; (try dsimp only at hSw); go_simp; (try with_reducible rfl))); (try simp only [Act.put, List.setIfInBounds_toArray, List.set_cons_zero, List.set_cons_succ, List.getElem_toArray, List.getElem_cons_zero, List.getElem_cons_succ]); refine wpAnyH_ready (rs := [2]) (by kernel_rfl) (by simp) ?_; refine AllReadyH.cons (o := _) rfl (fun K hK => ?_) AllReadyH.nil; (try simp only [List.getElem_toArray, List.getElem_cons_zero, List.getElem_cons_succ]); go_simp; (go_at_call 34; refine (RL.out _ _ _ (by first | assumption | (go_split_ands; assumption) | exact (Grow.refl _).drew) (by first | exact .inl ⟨rfl, rfl⟩ | exact .inr ⟨rfl, rfl⟩)).mono ?_; rintro e w9 ⟨rfl, rfl⟩); (try (go_wp2_with fail)); refine hK.out _ _ ?_ (fun hHeld => ?_); (focus ((try dsimp only); refine (fun (hG : Grow w _) => ⟨hG, Grow.keeps hG (by assumption), Grow.keeps hG (by assumption)⟩) ?_; (try go_split_ands); first | assumption | exact Grow.trans (by assumption) (by assumption) | exact Below.trans (by assumption) (by assumption))); clear hK K; (try simp only [Act.put, List.setIfInBounds_toArray, List.set_cons_zero, List.set_cons_succ, List.getElem_toArray, List.getElem_cons_zero, List.getElem_cons_succ]); refine wpAnyH_ready (rs := [5]) (by kernel_rfl) (by simp) ?_; refine AllReadyH.cons (o := _) rfl (fun K hK => ?_) AllReadyH.nil; (try simp only [List.getElem_toArray, List.getElem_cons_zero, List.getElem_cons_succ]); go_simp; (go_at_call 34; refine (RL.out _ _ _ (by first | assumption | (go_split_ands; assumption) | exact (Grow.refl _).drew) (by first | exact .inl ⟨rfl, rfl⟩ | exact .inr ⟨rfl, rfl⟩)).mono ?_; rintro e w9 ⟨rfl, rfl⟩); (try (go_wp2_with fail)); refine hK.out _ _ ?_ (fun hHeld => ?_); (focus ((try dsimp only); refine (fun (hG : Grow w _) => ⟨hG, Grow.keeps hG (by assumption), Grow.keeps hG (by assumption)⟩) ?_; (try go_split_ands); first | assumption | exact Grow.trans (by assumption) (by assumption) | exact Below.trans (by assumption) (by assumption))); clear hK K; (try simp only [Act.put, List.setIfInBounds_toArray, List.set_cons_zero, List.set_cons_succ, List.getElem_toArray, List.getElem_cons_zero, List.getElem_cons_succ]); refine wpAnyH_take (i := 6) (oi := _) (v := ?_) rfl (by kernel_rfl) (by kernel_rfl) (by kernel_rfl) (fun _ _ _ h => h) (Or.inl ⟨by rfl, ?_⟩) (by assumption) ?_; rotate_left; (focus (intro w hSw; (try dsimp only at hSw); go_simp; (try with_reducible rfl))); (try simp only [Act.put, List.setIfInBounds_toArray, List.set_cons_zero, List.set_cons_succ, List.getElem_toArray, List.getElem_cons_zero, List.getElem_cons_succ]); refine wpAnyH_take (i := 7) (oi := _) (v := ?_) rfl (by kernel_rfl) (by kernel_rfl) (by kernel_rfl) (fun _ _ _ h => h) (Or.inl ⟨by rfl, ?_⟩) (by assumption) ?_; rotate_left; (focus (intro w hSw; (try dsimp only at hSw); go_simp; (try with_reducible rfl))); (try simp only [Act.put, List.setIfInBounds_toArray, List.set_cons_zero, List.set_cons_succ, List.getElem_toArray, List.getElem_cons_zero, List.getElem_cons_succ]); refine wpAnyH_take (i := 8) (oi := _) (v := ?_) rfl (by kernel_rfl) (by kernel_rfl) (by kernel_rfl) (fun _ _ _ h => h) (Or.inl ⟨by rfl, ?_⟩) (by assumption) ?_; rotate_left; (focus (intro w hSw; (try dsimp only at hSw); go_simp; (try with_reducible rfl))); (try simp only [Act.put, List.setIfInBounds_toArray, List.set_cons_zero, List.set_cons_succ, List.getElem_toArray, List.getElem_cons_zero, List.getElem_cons_succ]); refine wpAnyH_take (i := 9) (oi := _) (v := ?_) rfl (by kernel_rfl) (by kernel_rfl) (by kernel_rfl) (fun _ _ _ h => h) (Or.inl ⟨by rfl, ?_⟩) (by assumption) ?_; rotate_left; (focus (intro w hSw; (try dsimp only at hSw); go_simp; (try with_reducible rfl))); (try simp only [Act.put, List.setIfInBounds_toArray, List.set_cons_zero, List.set_cons_succ, List.getElem_toArray, List.getElem_cons_zero, List.getElem_cons_succ]); refine wpAnyH_done (by kernel_rfl) ?_ _)
  go_wp2_with fail
  go_ret
  exact ⟨rfl, hHeld.1⟩
/-- One list more in a slice of lists. -/
theorem rows_push {w w1 : World} {ov v' race : Value} {vs : List Value} {ls : List (List Int)} {l : List Int} (hrows : Rows2 w ov vs ls) (hI : IsInts w race l) (hap : l = [] ∨ race.ownBlock ≠ ov.ownBlock) (hgr : w.grownBy w1 ov.ownBlock) (hmv : Moves w ov v') :
    Rows2 w1 v' (vs ++ [race]) (ls ++ [l]) :=
  (hrows.kept hgr hmv).snoc (hI.kept hgr hap) (by
    rcases hap with h | h
    · exact .inl h
    · by_cases he : l = []
      · exact .inl he
      · obtain ⟨k, hk, hlt⟩ := hI.lt he
        rcases hmv with hm | hm
        · rw [hm]; exact .inr h
        · exact .inr fun e => by have := hm k (by rw [← e]; exact hk); omega)
/-- Two lists in a slice of lists. -/
theorem rows_two {w : World} {B : Nat} {rr : Value} {vs : List Value} {ls : List (List Int)} (ho : Own w B 25 rr vs) (hr : Rows2 w rr vs ls) (h2 : ls.length = 2) :
    ∃ (g cap : Nat) (l0 l1 : List Int) (a0 a1 : Option Addr) (c0 c1 : Nat), rr = .slice (some ⟨g, 0, none⟩) 2 cap ∧ ls = [l0, l1] ∧ w.cell? ⟨g, 0, none⟩ = some (.slice a0 l0.length c0) ∧ w.cell? ⟨g, 1, none⟩ = some (.slice a1 l1.length c1) ∧
      IsInts w (.slice a0 l0.length c0) l0 ∧ IsInts w (.slice a1 l1.length c1) l1 := by
  obtain ⟨h0, h1⟩ := hr
  match ls, vs, h2, h0, h1, ho with
  | [l0, l1], [v0, v1], _, _, h1, ho =>
    obtain ⟨hi0, _⟩ := h1 0 v0 l0 rfl rfl
    obtain ⟨hi1, _⟩ := h1 1 v1 l1 rfl rfl
    rcases ho.parts with ⟨_, h⟩ | ⟨g, cap, rfl, _, _, _, _, hc, _⟩
    · cases h
    · have k0 := hc 0 v0 rfl
      have k1 := hc 1 v1 rfl
      obtain ⟨a0, c0, rfl, _⟩ := id hi0
      obtain ⟨a1, c1, rfl, _⟩ := id hi1
      exact ⟨g, cap, l0, l1, a0, a1, c0, c1, rfl, rfl, k0, k1, hi0, hi1⟩

set_option maxRecDepth 100000 in
set_option maxHeartbeats 8000000 in
theorem lcountSettle (P : Int) (v u1 u2 : Value) (ss : List (List Int)) (x y : Int) (bs cs : List Int) (w : World) (hP1 : -9223372036854775808 ≤ P) (hP2 : P ≤ 9223372036854775807) (hv : IsSheets w v ss) (hs : ss.length * 24 ≤ 140737488351232) (hnil : ∀ n cap, v = .slice none n cap → cap = 0) (hx : 0 ≤ x ∧ x ≤ 255) (hy : 0 ≤ y ∧ y ≤ 255) (hu1 : IsK .u8 w u1 bs) (hu2 : IsK .u8 w u2 cs) :
    Calls Try.prog 8 #[.agg #[.int .i64 P, v], .int .u8 x, .int .u8 y, u1, u2] w fun e w' => e = .returned (.bool true) ∧ Grow w w' := by
  obtain ⟨a, cap, rfl, hcap, hlen, hrow⟩ := id hv
  have Hv := Lib.hid hv
  obtain ⟨za1, zc1, rfl, hzc1, hzl1, hzr1, hzw1⟩ := id hu1
  obtain ⟨za2, zc2, rfl, hzc2, hzl2, hzr2, hzw2⟩ := id hu2
  have hbl : bs.length ≤ 9223372036854775807 := by simpa [maxLen] using hzl1
  have hcl : cs.length ≤ 9223372036854775807 := by simpa [maxLen] using hzl2
  have Hz1 := Lib.hid hzr1
  have Hz2 := Lib.hid hzr2
  have Hw1 := Lib.hid hzw1
  have Hw2 := Lib.hid hzw2
  have hmf : ∀ (fn : Fn) (first cap : Array Value) (w : World), (Instr.makeFunc fn first cap).run Try.prog w = .ok (.func fn first cap) w := fun _ _ _ _ => rfl
  clear hv hu1 hu2 hrow hzr1 hzr2 hzw1 hzw2 hzc1 hzc2 hzl1 hzl2
  go_enter Try.func8, Try.ntmps8
  go_wp2_with fail
  have gw : Grow w w := Grow.refl _
  obtain ⟨w20, hW⟩ : ∃ z, w.alloc (.cells #[.int .i64 P, .slice a ss.length cap] 24) = z := ⟨_, rfl⟩
  obtain ⟨B, hB⟩ : ∃ z, w.heap.size = z := ⟨_, rfl⟩
  have g20 : Grow w w20 := by rw [← hW]; exact (Grow.refl _).alloc _
  have d0 : w20.cell? ⟨B, 0, none⟩ = some (.int .i64 P) := by rw [← hW]; exact cell_new hB.symm rfl
  have d1 : w20.cell? ⟨B, 1, none⟩ = some (.slice a ss.length cap) := by rw [← hW]; exact cell_new hB.symm rfl
  rw [hW, hB]
  clear hW hB
  replace gw := gw.trans g20
  have dl := lt_of_cell d0
  (try clear g20)
  refine (llong_any 0 P _ _ ss [] _ (Hv.out.grow gw) hs (Own.nil _ _ _) (Nat.zero_le _) (by simp) (by simp) hnil).mono ?_
  rintro e wl ⟨⟨b, rfl⟩, hb2⟩
  have gl : Grow w20 wl := grownBy_below hb2 (by intro k hk; have hk : none = some k := hk; cases hk) (by simp)
  clear hb2 hnil dl
  replace d0 := gl.keeps d0
  replace d1 := gl.keeps d1
  replace gw := gw.trans gl
  have dl := lt_of_cell d0
  clear gl
  cases b
  · go_wp2_with fail
    refine (rValid_any P _ ss _ hP1 hP2 (Hv.out.grow gw)).mono ?_
    rintro e w21 ⟨rfl, g21⟩
    (try clear dl)
    replace d0 := g21.keeps d0
    replace d1 := g21.keeps d1
    replace gw := gw.trans g21
    have dl := lt_of_cell d0
    (try clear g21)
    cases hval : validB P ss
    · go_wp2_with fail
      (try clear dl)
      refine (lalive_any _).mono ?_
      rintro e w22 ⟨rfl, g22⟩
      go_wp2_with fail
      go_ret
      exact ⟨rfl, gw.trans g22⟩
    · obtain ⟨⟨vp1, vp2⟩, _, _⟩ := valid_parts hval
      by_cases h2 : P < 2
      · have E1 : decide (P < 2) = true := decide_eq_true h2
        go_wp2_with fail
        (try clear dl)
        refine (lalive_any _).mono ?_
        rintro e w23 ⟨rfl, g23⟩
        go_wp2_with fail
        go_ret
        exact ⟨rfl, gw.trans g23⟩
      · have E1 : decide (P < 2) = false := decide_eq_false h2
        obtain ⟨op1, op2, or1, or2, oq1, oq2, hne⟩ := other_pair (P := P) (a := x) (b := y) (by omega) hx.1 hy.1
        obtain ⟨p, hp⟩ : ∃ p, x.tmod P = p := ⟨_, rfl⟩
        obtain ⟨r, hr⟩ : ∃ r, y.tmod (P - 1) = r := ⟨_, rfl⟩
        rw [hp] at op1 op2 oq1 oq2 hne
        rw [hr] at or1 or2 oq1 oq2 hne
        obtain ⟨q, hq⟩ : ∃ q, (p + 1 + r).tmod P = q := ⟨_, rfl⟩
        rw [hq] at oq1 oq2 hne
        have Hval := Lib.hid hval
        have Hne := Lib.hid hne
        have E2 : wrap64 x = x := IntWalk.wrap64_in _ (by omega)
        have E3 : wrap64 y = y := IntWalk.wrap64_in _ (by omega)
        have E4 : ¬ P = 0 := by omega
        have E5 : ¬ P - 1 = 0 := by omega
        have E6 : wrap64 p = p := IntWalk.wrap64_in _ (by omega)
        have E7 : wrap64 q = q := IntWalk.wrap64_in _ (by omega)
        have E8 : wrap64 r = r := IntWalk.wrap64_in _ (by omega)
        have E9 : IntKind.i64.wrap (p + 1) = p + 1 := IntWalk.i64_in _ (by omega)
        have E10 : IntKind.i64.wrap (P - 1) = P - 1 := IntWalk.i64_in _ (by omega)
        have E11 : IntKind.i64.wrap (p + 1 + r) = p + 1 + r := IntWalk.i64_in _ (by omega)
        clear hval hne
        go_wp2_with fail
        obtain ⟨w24, hW⟩ : ∃ z, w21.alloc (.cells #[.int .i64 p] 3) = z := ⟨_, rfl⟩
        obtain ⟨BP, hB⟩ : ∃ z, w21.heap.size = z := ⟨_, rfl⟩
        have g24 : Grow w21 w24 := by rw [← hW]; exact (Grow.refl _).alloc _
        have k0 : w24.cell? ⟨BP, 0, none⟩ = some (.int .i64 p) := by rw [← hW]; exact cell_new hB.symm rfl
        rw [hW, hB]
        clear hW hB
        (try clear dl)
        replace d0 := g24.keeps d0
        replace d1 := g24.keeps d1
        replace gw := gw.trans g24
        have dl := lt_of_cell d0
        have lp := lt_of_cell k0
        (try clear g24)
        (refine wp_region_held_drew (S := fun Wx => Grow w24 Wx ∧ Wx.cell? ⟨B, 0, none⟩ = some (.int .i64 P) ∧ Wx.cell? ⟨BP, 0, none⟩ = some (.int .i64 p)) (by kernel_rfl) ⟨(Below.refl _ _).drew, Grow.keeps (Below.refl _ _).drew (by assumption), Grow.keeps (Below.refl _ _).drew (by assumption)⟩ (fun hHeld => ?_); refine wpAnyH_take (i := 0) (oi := _) (v := ?_) rfl (by kernel_rfl) (by kernel_rfl) (by kernel_rfl) (fun _ _ _ h => h) (Or.inl ⟨by rfl, ?_⟩) (by assumption) ?_; rotate_left; (focus (intro w hSw; (try dsimp only at hSw); go_simp; (try with_reducible rfl))); (try simp only [Act.put, List.setIfInBounds_toArray, List.set_cons_zero, List.set_cons_succ, List.getElem_toArray, List.getElem_cons_zero]); refine wpAnyH_take (i := 1) (oi := _) (v := ?_) rfl (by kernel_rfl) (by kernel_rfl) (by kernel_rfl) (fun _ _ _ h => h) (Or.inl ⟨by rfl, ?_⟩) (by assumption) ?_; rotate_left; (focus (intro w hSw; (try dsimp only at hSw); go_simp; (try with_reducible rfl))); (try simp only [Act.put, List.setIfInBounds_toArray, List.set_cons_zero, List.set_cons_succ, List.getElem_toArray, List.getElem_cons_zero, List.getElem_cons_succ]); refine wpAnyH_take (i := 2) (oi := _) (v := ?_) rfl (by kernel_rfl) (by kernel_rfl) (by kernel_rfl) (fun _ _ _ h => h) (Or.inl ⟨by rfl, ?_⟩) (by assumption) ?_; rotate_left; (focus (intro w hSw; (try dsimp only at hSw); go_simp; (try with_reducible rfl))); (try simp only [Act.put, List.setIfInBounds_toArray, List.set_cons_zero, List.set_cons_succ, List.getElem_toArray, List.getElem_cons_zero, List.getElem_cons_succ]); refine wpAnyH_take (i := 3) (oi := _) (v := ?_) rfl (by kernel_rfl) (by kernel_rfl) (by kernel_rfl) (fun _ _ _ h => h) (Or.inl ⟨by rfl, ?_⟩) (by assumption) ?_; rotate_left; (focus (intro w hSw; (try dsimp only at hSw); go_simp; (try with_reducible rfl))); (try simp only [Act.put, List.setIfInBounds_toArray, List.set_cons_zero, List.set_cons_succ, List.getElem_toArray, List.getElem_cons_zero, List.getElem_cons_succ]); refine wpAnyH_take (i := 4) (oi := _) (v := ?_) rfl (by kernel_rfl) (by kernel_rfl) (by kernel_rfl) (fun _ _ _ h => h) (Or.inl ⟨by rfl, ?_⟩) (by assumption) ?_; rotate_left; (focus (intro w hSw; (try dsimp only at hSw); go_simp; (try with_reducible rfl))); (try simp only [Act.put, List.setIfInBounds_toArray, List.set_cons_zero, List.set_cons_succ, List.getElem_toArray, List.getElem_cons_zero, List.getElem_cons_succ]); refine wpAnyH_take (i := 5) (oi := _) (v := ?_) rfl (by kernel_rfl) (by kernel_rfl) (by kernel_rfl) (fun _ _ _ h => h) (Or.inl ⟨by rfl, ?_⟩) (by assumption) ?_; rotate_left; (focus (intro w hSw; (try dsimp only at hSw); go_simp; (try with_reducible rfl))); (try simp only [Act.put, List.setIfInBounds_toArray, List.set_cons_zero, List.set_cons_succ, List.getElem_toArray, List.getElem_cons_zero, List.getElem_cons_succ]); refine wpAnyH_take (i := 6) (oi := _) (v := ?_) rfl (by kernel_rfl) (by kernel_rfl) (by kernel_rfl) (fun _ _ _ h => h) (Or.inl ⟨by rfl, ?_⟩) (by assumption) ?_; rotate_left; (focus (intro w hSw; (try dsimp only at hSw); go_simp; (try with_reducible rfl))); (try simp only [Act.put, List.setIfInBounds_toArray, List.set_cons_zero, List.set_cons_succ, List.getElem_toArray, List.getElem_cons_zero, List.getElem_cons_succ]); refine wpAnyH_take (i := 7) (oi := _) (v := ?_) rfl (by kernel_rfl) (by kernel_rfl) (by kernel_rfl) (fun _ _ _ h => h) (Or.inl ⟨by rfl, ?_⟩) (by assumption) ?_; rotate_left; (focus (intro w hSw; (try dsimp only at hSw); go_simp; (try with_reducible rfl))); (try simp only [Act.put, List.setIfInBounds_toArray, List.set_cons_zero, List.set_cons_succ, List.getElem_toArray, List.getElem_cons_zero, List.getElem_cons_succ]); refine wpAnyH_take (i := 8) (oi := _) (v := ?_) rfl (by kernel_rfl) (by kernel_rfl) (by kernel_rfl) (fun _ _ _ h => h) (Or.inl ⟨by rfl, ?_⟩) (by assumption) ?_; rotate_left; (focus (intro w hSw; (try dsimp only at hSw); go_simp; (try with_reducible rfl))); (try simp only [Act.put, List.setIfInBounds_toArray, List.set_cons_zero, List.set_cons_succ, List.getElem_toArray, List.getElem_cons_zero, List.getElem_cons_succ]); refine wpAnyH_take (i := 9) (oi := _) (v := ?_) rfl (by kernel_rfl) (by kernel_rfl) (by kernel_rfl) (fun _ _ _ h => h) (Or.inl ⟨by rfl, ?_⟩) (by assumption) ?_; rotate_left; (focus (intro w hSw; (try dsimp only at hSw); go_simp; (try with_reducible rfl))); (try simp only [Act.put, List.setIfInBounds_toArray, List.set_cons_zero, List.set_cons_succ, List.getElem_toArray, List.getElem_cons_zero, List.getElem_cons_succ]); refine wpAnyH_take (i := 10) (oi := _) (v := ?_) rfl (by kernel_rfl) (by kernel_rfl) (by kernel_rfl) (fun _ _ _ h => h) (Or.inl ⟨by rfl, ?_⟩) (by assumption) ?_; rotate_left; (focus (intro w hSw; (try dsimp only at hSw); go_simp; (try with_reducible rfl))); (try simp only [Act.put, List.setIfInBounds_toArray, List.set_cons_zero, List.set_cons_succ, List.getElem_toArray, List.getElem_cons_zero, List.getElem_cons_succ]); refine wpAnyH_take (i := 11) (oi := _) (v := ?_) rfl (by kernel_rfl) (by kernel_rfl) (by kernel_rfl) (fun _ _ _ h => h) (Or.inl ⟨by rfl, ?_⟩) (by assumption) ?_; rotate_left; (focus (intro w hSw; (try dsimp only at hSw); go_simp; (try with_reducible rfl))); (try simp only [Act.put, List.setIfInBounds_toArray, List.set_cons_zero, List.set_cons_succ, List.getElem_toArray, List.getElem_cons_zero, List.getElem_cons_succ]); refine wpAnyH_ready (rs := [12]) (by kernel_rfl) (by simp) ?_; refine AllReadyH.cons (o := _) rfl (fun K hK => ?_) AllReadyH.nil; (try simp only [List.getElem_toArray, List.getElem_cons_zero, List.getElem_cons_succ]); (try go_simp); (try (go_wp2_with fail)); refine hK.out _ _ ?_ (fun hHeld => ?_); (focus ((try dsimp only); refine (fun (hG : Grow w24 _) => ⟨hG, Grow.keeps hG (by assumption), Grow.keeps hG (by assumption)⟩) ?_; (try go_split_ands); first | assumption | exact Grow.trans (by assumption) (by assumption) | exact Below.trans (by assumption) (by assumption) | exact Grow.alloc (by assumption) _ | exact ((Grow.refl _).alloc _).drew | exact (Grow.alloc (by assumption) _).drew | exact Below.setCell (by assumption) (by simp <;> omega) _)); clear hK K; (try simp only [Act.put, List.setIfInBounds_toArray, List.set_cons_zero, List.set_cons_succ, List.getElem_toArray, List.getElem_cons_zero, List.getElem_cons_succ]); refine wpAnyH_ready (rs := [13]) (by kernel_rfl) (by simp) ?_; refine AllReadyH.cons (o := _) rfl (fun K hK => ?_) AllReadyH.nil; (try simp only [List.getElem_toArray, List.getElem_cons_zero, List.getElem_cons_succ]); (try go_simp); (try (go_wp2_with fail)); refine hK.out _ _ ?_ (fun hHeld => ?_); (focus ((try dsimp only); refine (fun (hG : Grow w24 _) => ⟨hG, Grow.keeps hG (by assumption), Grow.keeps hG (by assumption)⟩) ?_; (try go_split_ands); first | assumption | exact Grow.trans (by assumption) (by assumption) | exact Below.trans (by assumption) (by assumption) | exact Grow.alloc (by assumption) _ | exact ((Grow.refl _).alloc _).drew | exact (Grow.alloc (by assumption) _).drew | exact Below.setCell (by assumption) (by simp <;> omega) _)); clear hK K; (try simp only [Act.put, List.setIfInBounds_toArray, List.set_cons_zero, List.set_cons_succ, List.getElem_toArray, List.getElem_cons_zero, List.getElem_cons_succ]); refine wpAnyH_done (by kernel_rfl) ?_ _)
        have EQ : (IntKind.i64.wrap (p + 1 + (IntKind.i64.wrap y).tmod (P - 1))).tmod P = q := by
          rw [show IntKind.i64.wrap y = y from IntWalk.i64_in _ (by omega), hr, E11, hq]
        rw [EQ]
        clear EQ hp hr hq E1 E2 E3 E4 E5 E6 E7 E8 E9 E10 E11 or1 or2 h2
        obtain ⟨wq, hW⟩ : ∃ z, (w24.alloc (.cells #[.int .i64 q] 3)).drew = z := ⟨_, rfl⟩
        obtain ⟨BQ, hB⟩ : ∃ z, w24.heap.size = z := ⟨_, rfl⟩
        have gq : Grow w24 wq := by rw [← hW]; exact ((Grow.refl _).alloc _).drew
        have q0 : wq.cell? ⟨BQ, 0, none⟩ = some (.int .i64 q) := by rw [← hW]; exact Grow.keeps (Grow.refl _).drew (cell_new hB.symm rfl)
        rw [hW, hB]
        clear hW hB
        (try clear dl)
        (try clear lp)
        replace d0 := gq.keeps d0
        replace d1 := gq.keeps d1
        replace k0 := gq.keeps k0
        replace gw := gw.trans gq
        have dl := lt_of_cell d0
        have lp := lt_of_cell k0
        have lq := lt_of_cell q0
        clear gq
        have hfacts := settle_facts Hval.out ⟨op1, op2⟩ ⟨oq1, oq2⟩ Hne.out
        have PS : Hid (∀ V, Grow w V → Calls Try.prog 28 #[.agg #[.int .i64 P, .slice a ss.length cap], .int .i64 p, .int .i64 q] V fun e w' => e = .returned (.tuple #[.int .i64 (settleR P ss p q).1, .int .i64 (settleR P ss p q).2]) ∧ Grow V w') := fun V hV => pSettle_any P p q _ ss V hP1 hP2 (Hv.out.grow hV)
        have PT : Hid (∀ V, Grow w V → Calls Try.prog 28 #[.agg #[.int .i64 P, .slice a ss.length cap], .int .i64 q, .int .i64 p] V fun e w' => e = .returned (.tuple #[.int .i64 (settleR P ss p q).1, .int .i64 (settleR P ss p q).2]) ∧ Grow V w') := fun V hV => by
          have h := pSettle_any P q p _ ss V hP1 hP2 (Hv.out.grow hV)
          rw [settleR_sym] at h
          exact h
        have PL : Hid (∀ V, Grow w V → Calls Try.prog 27 #[.agg #[.int .i64 P, .slice a ss.length cap], .int .i64 p, .int .i64 q] V fun e w' => e = .returned (.tuple #[.agg #[.int .i64 (leadR P ss p q).1, .int .i64 (leadR P ss p q).2], .int .i64 (errOf P ss (pairsB P p q))]) ∧ Grow V w') := fun V hV => pLead_any P p q _ ss V hP1 hP2 (Hv.out.grow hV)
        obtain ⟨n0, hn0⟩ : ∃ z, (settleR P ss p q).1 = z := ⟨_, rfl⟩
        obtain ⟨e0, he0⟩ : ∃ z, (settleR P ss p q).2 = z := ⟨_, rfl⟩
        obtain ⟨lo, hlo⟩ : ∃ z, (leadR P ss p q).1 = z := ⟨_, rfl⟩
        obtain ⟨hi, hhi⟩ : ∃ z, (leadR P ss p q).2 = z := ⟨_, rfl⟩
        obtain ⟨e1, he1⟩ : ∃ z, errOf P ss (pairsB P p q) = z := ⟨_, rfl⟩
        rw [hn0, he0] at PS PT
        rw [hlo, hhi, he1] at PL
        rw [hn0, he0, hlo, hhi, he1] at hfacts
        clear hn0 he0 hlo hhi he1
        rcases hfacts with ⟨rfl, rfl, rfl⟩ | ⟨hT, rfl, ⟨rfl, rfl, hsb⟩ | ⟨rfl, rfl, hsb⟩ | ⟨k, hk, rfl, rfl, hsb, hcons⟩⟩
        · skip
          go_wp2_with fail
          refine (PS.out _ gw).mono ?_
          rintro e w25 ⟨rfl, g25⟩
          (try clear dl)
          (try clear lp)
          (try clear lq)
          replace d0 := g25.keeps d0
          replace d1 := g25.keeps d1
          replace k0 := g25.keeps k0
          replace q0 := g25.keeps q0
          replace gw := gw.trans g25
          have dl := lt_of_cell d0
          have lp := lt_of_cell k0
          have lq := lt_of_cell q0
          (try clear g25)
          go_wp2_with fail
          obtain ⟨w26, hW⟩ : ∃ z, w25.alloc (.cells #[.int .i64 0] 3) = z := ⟨_, rfl⟩
          obtain ⟨BN, hB⟩ : ∃ z, w25.heap.size = z := ⟨_, rfl⟩
          have g26 : Grow w25 w26 := by rw [← hW]; exact (Grow.refl _).alloc _
          have n0_ : w26.cell? ⟨BN, 0, none⟩ = some (.int .i64 0) := by rw [← hW]; exact cell_new hB.symm rfl
          rw [hW, hB]
          clear hW hB
          (try clear dl)
          (try clear lp)
          (try clear lq)
          replace d0 := g26.keeps d0
          replace d1 := g26.keeps d1
          replace k0 := g26.keeps k0
          replace q0 := g26.keeps q0
          replace gw := gw.trans g26
          have dl := lt_of_cell d0
          have lp := lt_of_cell k0
          have lq := lt_of_cell q0
          have ln := lt_of_cell n0_
          (try clear g26)
          refine (PT.out _ gw).mono ?_
          rintro e w27 ⟨rfl, g27⟩
          (try clear dl)
          (try clear lp)
          (try clear lq)
          (try clear ln)
          replace d0 := g27.keeps d0
          replace d1 := g27.keeps d1
          replace k0 := g27.keeps k0
          replace q0 := g27.keeps q0
          replace n0_ := g27.keeps n0_
          replace gw := gw.trans g27
          have dl := lt_of_cell d0
          have lp := lt_of_cell k0
          have lq := lt_of_cell q0
          have ln := lt_of_cell n0_
          (try clear g27)
          go_wp2_with fail
          refine (PL.out _ gw).mono ?_
          rintro e w28 ⟨rfl, g28⟩
          (try clear dl)
          (try clear lp)
          (try clear lq)
          (try clear ln)
          replace d0 := g28.keeps d0
          replace d1 := g28.keeps d1
          replace k0 := g28.keeps k0
          replace q0 := g28.keeps q0
          replace n0_ := g28.keeps n0_
          replace gw := gw.trans g28
          have dl := lt_of_cell d0
          have lp := lt_of_cell k0
          have lq := lt_of_cell q0
          have ln := lt_of_cell n0_
          (try clear g28)
          go_wp2_with fail
          obtain ⟨w29, hW⟩ : ∃ z, w28.alloc (.cells #[.int .i64 lo, .int .i64 hi] 36) = z := ⟨_, rfl⟩
          obtain ⟨BS, hB⟩ : ∃ z, w28.heap.size = z := ⟨_, rfl⟩
          have g29 : Grow w28 w29 := by rw [← hW]; exact (Grow.refl _).alloc _
          have s0_ : w29.cell? ⟨BS, 0, none⟩ = some (.int .i64 lo) := by rw [← hW]; exact cell_new hB.symm rfl
          have s1_ : w29.cell? ⟨BS, 1, none⟩ = some (.int .i64 hi) := by rw [← hW]; exact cell_new hB.symm rfl
          rw [hW, hB]
          clear hW hB
          (try clear dl)
          (try clear lp)
          (try clear lq)
          (try clear ln)
          replace d0 := g29.keeps d0
          replace d1 := g29.keeps d1
          replace k0 := g29.keeps k0
          replace q0 := g29.keeps q0
          replace n0_ := g29.keeps n0_
          replace gw := gw.trans g29
          have dl := lt_of_cell d0
          have lp := lt_of_cell k0
          have lq := lt_of_cell q0
          have ln := lt_of_cell n0_
          have lsp := lt_of_cell s0_
          (try clear g29)
          (try clear dl)
          (try clear lp)
          (try clear lq)
          (try clear ln)
          (try clear lsp)
          refine (lalive_any _).mono ?_
          rintro e w30 ⟨rfl, g30⟩
          go_wp2_with fail
          go_ret
          exact ⟨rfl, gw.trans g30⟩
        · skip
          go_wp2_with fail
          refine (PS.out _ gw).mono ?_
          rintro e w31 ⟨rfl, g31⟩
          (try clear dl)
          (try clear lp)
          (try clear lq)
          replace d0 := g31.keeps d0
          replace d1 := g31.keeps d1
          replace k0 := g31.keeps k0
          replace q0 := g31.keeps q0
          replace gw := gw.trans g31
          have dl := lt_of_cell d0
          have lp := lt_of_cell k0
          have lq := lt_of_cell q0
          (try clear g31)
          go_wp2_with fail
          obtain ⟨w32, hW⟩ : ∃ z, w31.alloc (.cells #[.int .i64 0] 3) = z := ⟨_, rfl⟩
          obtain ⟨BN, hB⟩ : ∃ z, w31.heap.size = z := ⟨_, rfl⟩
          have g32 : Grow w31 w32 := by rw [← hW]; exact (Grow.refl _).alloc _
          have n0_ : w32.cell? ⟨BN, 0, none⟩ = some (.int .i64 0) := by rw [← hW]; exact cell_new hB.symm rfl
          rw [hW, hB]
          clear hW hB
          (try clear dl)
          (try clear lp)
          (try clear lq)
          replace d0 := g32.keeps d0
          replace d1 := g32.keeps d1
          replace k0 := g32.keeps k0
          replace q0 := g32.keeps q0
          replace gw := gw.trans g32
          have dl := lt_of_cell d0
          have lp := lt_of_cell k0
          have lq := lt_of_cell q0
          have ln := lt_of_cell n0_
          (try clear g32)
          refine (PT.out _ gw).mono ?_
          rintro e w33 ⟨rfl, g33⟩
          (try clear dl)
          (try clear lp)
          (try clear lq)
          (try clear ln)
          replace d0 := g33.keeps d0
          replace d1 := g33.keeps d1
          replace k0 := g33.keeps k0
          replace q0 := g33.keeps q0
          replace n0_ := g33.keeps n0_
          replace gw := gw.trans g33
          have dl := lt_of_cell d0
          have lp := lt_of_cell k0
          have lq := lt_of_cell q0
          have ln := lt_of_cell n0_
          (try clear g33)
          go_wp2_with fail
          refine (PL.out _ gw).mono ?_
          rintro e w34 ⟨rfl, g34⟩
          (try clear dl)
          (try clear lp)
          (try clear lq)
          (try clear ln)
          replace d0 := g34.keeps d0
          replace d1 := g34.keeps d1
          replace k0 := g34.keeps k0
          replace q0 := g34.keeps q0
          replace n0_ := g34.keeps n0_
          replace gw := gw.trans g34
          have dl := lt_of_cell d0
          have lp := lt_of_cell k0
          have lq := lt_of_cell q0
          have ln := lt_of_cell n0_
          (try clear g34)
          go_upto_region 12 with fail
          obtain ⟨w35, hW⟩ : ∃ z, w34.alloc (.cells #[.int .i64 lo, .int .i64 hi] 36) = z := ⟨_, rfl⟩
          obtain ⟨BS, hB⟩ : ∃ z, w34.heap.size = z := ⟨_, rfl⟩
          have g35 : Grow w34 w35 := by rw [← hW]; exact (Grow.refl _).alloc _
          have s0_ : w35.cell? ⟨BS, 0, none⟩ = some (.int .i64 lo) := by rw [← hW]; exact cell_new hB.symm rfl
          have s1_ : w35.cell? ⟨BS, 1, none⟩ = some (.int .i64 hi) := by rw [← hW]; exact cell_new hB.symm rfl
          rw [hW, hB]
          clear hW hB
          (try clear dl)
          (try clear lp)
          (try clear lq)
          (try clear ln)
          replace d0 := g35.keeps d0
          replace d1 := g35.keeps d1
          replace k0 := g35.keeps k0
          replace q0 := g35.keeps q0
          replace n0_ := g35.keeps n0_
          replace gw := gw.trans g35
          have dl := lt_of_cell d0
          have lp := lt_of_cell k0
          have lq := lt_of_cell q0
          have ln := lt_of_cell n0_
          have lsp := lt_of_cell s0_
          (try clear g35)
          rcases hsb with hsb | hsb | hsb
          · have E1 : decide (0 < lo) = true := decide_eq_true hsb
            (refine wp_region_held_drew (S := fun Wx => Grow w35 Wx ∧ Wx.cell? ⟨BS, 0, none⟩ = some (.int .i64 lo) ∧ Wx.cell? ⟨BS, 1, none⟩ = some (.int .i64 hi)) (by kernel_rfl) ⟨(Below.refl _ _).drew, Grow.keeps (Below.refl _ _).drew (by assumption), Grow.keeps (Below.refl _ _).drew (by assumption)⟩ (fun hHeld => ?_); refine wpAnyH_take (i := 0) (oi := _) (v := ?_) rfl (by kernel_rfl) (by kernel_rfl) (by kernel_rfl) (fun _ _ _ h => h) (Or.inl ⟨by rfl, ?_⟩) (by assumption) ?_; rotate_left; (focus (intro w hSw; (try dsimp only at hSw); go_simp; (try with_reducible rfl))); (try simp only [Act.put, List.setIfInBounds_toArray, List.set_cons_zero, List.set_cons_succ, List.getElem_toArray, List.getElem_cons_zero]); refine wpAnyH_take (i := 1) (oi := _) (v := ?_) rfl (by kernel_rfl) (by kernel_rfl) (by kernel_rfl) (fun _ _ _ h => h) (Or.inl ⟨by rfl, ?_⟩) (by assumption) ?_; rotate_left; (focus (intro w hSw; (try dsimp only at hSw); go_simp; (try with_reducible rfl))); (try simp only [Act.put, List.setIfInBounds_toArray, List.set_cons_zero, List.set_cons_succ, List.getElem_toArray, List.getElem_cons_zero, List.getElem_cons_succ]); refine wpAnyH_take (i := 2) (oi := _) (v := ?_) rfl (by kernel_rfl) (by kernel_rfl) (by kernel_rfl) (fun _ _ _ h => h) (Or.inl ⟨by rfl, ?_⟩) (by assumption) ?_; rotate_left; (focus (intro w hSw; (try dsimp only at hSw); go_simp; (try with_reducible rfl))); (try simp only [Act.put, List.setIfInBounds_toArray, List.set_cons_zero, List.set_cons_succ, List.getElem_toArray, List.getElem_cons_zero, List.getElem_cons_succ]); refine wpAnyH_take (i := 3) (oi := _) (v := ?_) rfl (by kernel_rfl) (by kernel_rfl) (by kernel_rfl) (fun _ _ _ h => h) (Or.inl ⟨by rfl, ?_⟩) (by assumption) ?_; rotate_left; (focus (intro w hSw; (try dsimp only at hSw); go_simp; (try with_reducible rfl))); (try simp only [Act.put, List.setIfInBounds_toArray, List.set_cons_zero, List.set_cons_succ, List.getElem_toArray, List.getElem_cons_zero, List.getElem_cons_succ]); refine wpAnyH_take (i := 4) (oi := _) (v := undef) rfl (by kernel_rfl) (by kernel_rfl) (by kernel_rfl) (fun _ _ _ h => h) (Or.inr ⟨by rfl, rfl⟩) (by assumption) ?_; (try simp only [Act.put, List.setIfInBounds_toArray, List.set_cons_zero, List.set_cons_succ, List.getElem_toArray, List.getElem_cons_zero, List.getElem_cons_succ]); refine wpAnyH_take (i := 5) (oi := _) (v := undef) rfl (by kernel_rfl) (by kernel_rfl) (by kernel_rfl) (fun _ _ _ h => h) (Or.inr ⟨by rfl, rfl⟩) (by assumption) ?_; (try simp only [Act.put, List.setIfInBounds_toArray, List.set_cons_zero, List.set_cons_succ, List.getElem_toArray, List.getElem_cons_zero, List.getElem_cons_succ]); refine wpAnyH_take (i := 6) (oi := _) (v := undef) rfl (by kernel_rfl) (by kernel_rfl) (by kernel_rfl) (fun _ _ _ h => h) (Or.inr ⟨by rfl, rfl⟩) (by assumption) ?_; (try simp only [Act.put, List.setIfInBounds_toArray, List.set_cons_zero, List.set_cons_succ, List.getElem_toArray, List.getElem_cons_zero, List.getElem_cons_succ]); refine wpAnyH_take (i := 7) (oi := _) (v := ?_) rfl (by kernel_rfl) (by kernel_rfl) (by kernel_rfl) (fun _ _ _ h => h) (Or.inl ⟨by rfl, ?_⟩) (by assumption) ?_; rotate_left; (focus (intro w hSw; (try dsimp only at hSw); go_simp; (try with_reducible rfl))); (try simp only [Act.put, List.setIfInBounds_toArray, List.set_cons_zero, List.set_cons_succ, List.getElem_toArray, List.getElem_cons_zero, List.getElem_cons_succ]); refine wpAnyH_take (i := 8) (oi := _) (v := ?_) rfl (by kernel_rfl) (by kernel_rfl) (by kernel_rfl) (fun _ _ _ h => h) (Or.inl ⟨by rfl, ?_⟩) (by assumption) ?_; rotate_left; (focus (intro w hSw; (try dsimp only at hSw); go_simp; (try with_reducible rfl))); (try simp only [Act.put, List.setIfInBounds_toArray, List.set_cons_zero, List.set_cons_succ, List.getElem_toArray, List.getElem_cons_zero, List.getElem_cons_succ]); refine wpAnyH_take (i := 9) (oi := _) (v := undef) rfl (by kernel_rfl) (by kernel_rfl) (by kernel_rfl) (fun _ _ _ h => h) (Or.inr ⟨by rfl, rfl⟩) (by assumption) ?_; (try simp only [Act.put, List.setIfInBounds_toArray, List.set_cons_zero, List.set_cons_succ, List.getElem_toArray, List.getElem_cons_zero, List.getElem_cons_succ]); refine wpAnyH_take (i := 10) (oi := _) (v := undef) rfl (by kernel_rfl) (by kernel_rfl) (by kernel_rfl) (fun _ _ _ h => h) (Or.inr ⟨by rfl, rfl⟩) (by assumption) ?_; (try simp only [Act.put, List.setIfInBounds_toArray, List.set_cons_zero, List.set_cons_succ, List.getElem_toArray, List.getElem_cons_zero, List.getElem_cons_succ]); refine wpAnyH_take (i := 11) (oi := _) (v := undef) rfl (by kernel_rfl) (by kernel_rfl) (by kernel_rfl) (fun _ _ _ h => h) (Or.inr ⟨by rfl, rfl⟩) (by assumption) ?_; (try simp only [Act.put, List.setIfInBounds_toArray, List.set_cons_zero, List.set_cons_succ, List.getElem_toArray, List.getElem_cons_zero, List.getElem_cons_succ]); refine wpAnyH_take (i := 12) (oi := _) (v := ?_) rfl (by kernel_rfl) (by kernel_rfl) (by kernel_rfl) (fun _ _ _ h => h) (Or.inl ⟨by rfl, ?_⟩) (by assumption) ?_; rotate_left; (focus (intro w hSw; (try dsimp only at hSw); go_simp; (try with_reducible rfl))); (try simp only [Act.put, List.setIfInBounds_toArray, List.set_cons_zero, List.set_cons_succ, List.getElem_toArray, List.getElem_cons_zero, List.getElem_cons_succ]); refine wpAnyH_take (i := 13) (oi := _) (v := ?_) rfl (by kernel_rfl) (by kernel_rfl) (by kernel_rfl) (fun _ _ _ h => h) (Or.inl ⟨by rfl, ?_⟩) (by assumption) ?_; rotate_left; (focus (intro w hSw; (try dsimp only at hSw); go_simp; (try with_reducible rfl))); (try simp only [Act.put, List.setIfInBounds_toArray, List.set_cons_zero, List.set_cons_succ, List.getElem_toArray, List.getElem_cons_zero, List.getElem_cons_succ]); refine wpAnyH_done (by kernel_rfl) ?_ _)
            (try clear dl)
            (try clear lp)
            (try clear lq)
            (try clear ln)
            (try clear lsp)
            replace d0 := hHeld.1.keeps d0
            replace d1 := hHeld.1.keeps d1
            replace k0 := hHeld.1.keeps k0
            replace q0 := hHeld.1.keeps q0
            replace n0_ := hHeld.1.keeps n0_
            replace s0_ := hHeld.1.keeps s0_
            replace s1_ := hHeld.1.keeps s1_
            replace gw := gw.trans hHeld.1
            have dl := lt_of_cell d0
            have lp := lt_of_cell k0
            have lq := lt_of_cell q0
            have ln := lt_of_cell n0_
            have lsp := lt_of_cell s0_
            go_wp2_with fail
            (try clear dl)
            (try clear lp)
            (try clear lq)
            (try clear ln)
            (try clear lsp)
            refine (lalive_any _).mono ?_
            rintro e w36 ⟨rfl, g36⟩
            go_wp2_with fail
            go_ret
            exact ⟨rfl, gw.trans g36⟩
          · by_cases hl : 0 < lo
            · have E1 : decide (0 < lo) = true := decide_eq_true hl
              (refine wp_region_held_drew (S := fun Wx => Grow w35 Wx ∧ Wx.cell? ⟨BS, 0, none⟩ = some (.int .i64 lo) ∧ Wx.cell? ⟨BS, 1, none⟩ = some (.int .i64 hi)) (by kernel_rfl) ⟨(Below.refl _ _).drew, Grow.keeps (Below.refl _ _).drew (by assumption), Grow.keeps (Below.refl _ _).drew (by assumption)⟩ (fun hHeld => ?_); refine wpAnyH_take (i := 0) (oi := _) (v := ?_) rfl (by kernel_rfl) (by kernel_rfl) (by kernel_rfl) (fun _ _ _ h => h) (Or.inl ⟨by rfl, ?_⟩) (by assumption) ?_; rotate_left; (focus (intro w hSw; (try dsimp only at hSw); go_simp; (try with_reducible rfl))); (try simp only [Act.put, List.setIfInBounds_toArray, List.set_cons_zero, List.set_cons_succ, List.getElem_toArray, List.getElem_cons_zero]); refine wpAnyH_take (i := 1) (oi := _) (v := ?_) rfl (by kernel_rfl) (by kernel_rfl) (by kernel_rfl) (fun _ _ _ h => h) (Or.inl ⟨by rfl, ?_⟩) (by assumption) ?_; rotate_left; (focus (intro w hSw; (try dsimp only at hSw); go_simp; (try with_reducible rfl))); (try simp only [Act.put, List.setIfInBounds_toArray, List.set_cons_zero, List.set_cons_succ, List.getElem_toArray, List.getElem_cons_zero, List.getElem_cons_succ]); refine wpAnyH_take (i := 2) (oi := _) (v := ?_) rfl (by kernel_rfl) (by kernel_rfl) (by kernel_rfl) (fun _ _ _ h => h) (Or.inl ⟨by rfl, ?_⟩) (by assumption) ?_; rotate_left; (focus (intro w hSw; (try dsimp only at hSw); go_simp; (try with_reducible rfl))); (try simp only [Act.put, List.setIfInBounds_toArray, List.set_cons_zero, List.set_cons_succ, List.getElem_toArray, List.getElem_cons_zero, List.getElem_cons_succ]); refine wpAnyH_take (i := 3) (oi := _) (v := ?_) rfl (by kernel_rfl) (by kernel_rfl) (by kernel_rfl) (fun _ _ _ h => h) (Or.inl ⟨by rfl, ?_⟩) (by assumption) ?_; rotate_left; (focus (intro w hSw; (try dsimp only at hSw); go_simp; (try with_reducible rfl))); (try simp only [Act.put, List.setIfInBounds_toArray, List.set_cons_zero, List.set_cons_succ, List.getElem_toArray, List.getElem_cons_zero, List.getElem_cons_succ]); refine wpAnyH_take (i := 4) (oi := _) (v := undef) rfl (by kernel_rfl) (by kernel_rfl) (by kernel_rfl) (fun _ _ _ h => h) (Or.inr ⟨by rfl, rfl⟩) (by assumption) ?_; (try simp only [Act.put, List.setIfInBounds_toArray, List.set_cons_zero, List.set_cons_succ, List.getElem_toArray, List.getElem_cons_zero, List.getElem_cons_succ]); refine wpAnyH_take (i := 5) (oi := _) (v := undef) rfl (by kernel_rfl) (by kernel_rfl) (by kernel_rfl) (fun _ _ _ h => h) (Or.inr ⟨by rfl, rfl⟩) (by assumption) ?_; (try simp only [Act.put, List.setIfInBounds_toArray, List.set_cons_zero, List.set_cons_succ, List.getElem_toArray, List.getElem_cons_zero, List.getElem_cons_succ]); refine wpAnyH_take (i := 6) (oi := _) (v := undef) rfl (by kernel_rfl) (by kernel_rfl) (by kernel_rfl) (fun _ _ _ h => h) (Or.inr ⟨by rfl, rfl⟩) (by assumption) ?_; (try simp only [Act.put, List.setIfInBounds_toArray, List.set_cons_zero, List.set_cons_succ, List.getElem_toArray, List.getElem_cons_zero, List.getElem_cons_succ]); refine wpAnyH_take (i := 7) (oi := _) (v := ?_) rfl (by kernel_rfl) (by kernel_rfl) (by kernel_rfl) (fun _ _ _ h => h) (Or.inl ⟨by rfl, ?_⟩) (by assumption) ?_; rotate_left; (focus (intro w hSw; (try dsimp only at hSw); go_simp; (try with_reducible rfl))); (try simp only [Act.put, List.setIfInBounds_toArray, List.set_cons_zero, List.set_cons_succ, List.getElem_toArray, List.getElem_cons_zero, List.getElem_cons_succ]); refine wpAnyH_take (i := 8) (oi := _) (v := ?_) rfl (by kernel_rfl) (by kernel_rfl) (by kernel_rfl) (fun _ _ _ h => h) (Or.inl ⟨by rfl, ?_⟩) (by assumption) ?_; rotate_left; (focus (intro w hSw; (try dsimp only at hSw); go_simp; (try with_reducible rfl))); (try simp only [Act.put, List.setIfInBounds_toArray, List.set_cons_zero, List.set_cons_succ, List.getElem_toArray, List.getElem_cons_zero, List.getElem_cons_succ]); refine wpAnyH_take (i := 9) (oi := _) (v := undef) rfl (by kernel_rfl) (by kernel_rfl) (by kernel_rfl) (fun _ _ _ h => h) (Or.inr ⟨by rfl, rfl⟩) (by assumption) ?_; (try simp only [Act.put, List.setIfInBounds_toArray, List.set_cons_zero, List.set_cons_succ, List.getElem_toArray, List.getElem_cons_zero, List.getElem_cons_succ]); refine wpAnyH_take (i := 10) (oi := _) (v := undef) rfl (by kernel_rfl) (by kernel_rfl) (by kernel_rfl) (fun _ _ _ h => h) (Or.inr ⟨by rfl, rfl⟩) (by assumption) ?_; (try simp only [Act.put, List.setIfInBounds_toArray, List.set_cons_zero, List.set_cons_succ, List.getElem_toArray, List.getElem_cons_zero, List.getElem_cons_succ]); refine wpAnyH_take (i := 11) (oi := _) (v := undef) rfl (by kernel_rfl) (by kernel_rfl) (by kernel_rfl) (fun _ _ _ h => h) (Or.inr ⟨by rfl, rfl⟩) (by assumption) ?_; (try simp only [Act.put, List.setIfInBounds_toArray, List.set_cons_zero, List.set_cons_succ, List.getElem_toArray, List.getElem_cons_zero, List.getElem_cons_succ]); refine wpAnyH_take (i := 12) (oi := _) (v := ?_) rfl (by kernel_rfl) (by kernel_rfl) (by kernel_rfl) (fun _ _ _ h => h) (Or.inl ⟨by rfl, ?_⟩) (by assumption) ?_; rotate_left; (focus (intro w hSw; (try dsimp only at hSw); go_simp; (try with_reducible rfl))); (try simp only [Act.put, List.setIfInBounds_toArray, List.set_cons_zero, List.set_cons_succ, List.getElem_toArray, List.getElem_cons_zero, List.getElem_cons_succ]); refine wpAnyH_take (i := 13) (oi := _) (v := ?_) rfl (by kernel_rfl) (by kernel_rfl) (by kernel_rfl) (fun _ _ _ h => h) (Or.inl ⟨by rfl, ?_⟩) (by assumption) ?_; rotate_left; (focus (intro w hSw; (try dsimp only at hSw); go_simp; (try with_reducible rfl))); (try simp only [Act.put, List.setIfInBounds_toArray, List.set_cons_zero, List.set_cons_succ, List.getElem_toArray, List.getElem_cons_zero, List.getElem_cons_succ]); refine wpAnyH_done (by kernel_rfl) ?_ _)
              (try clear dl)
              (try clear lp)
              (try clear lq)
              (try clear ln)
              (try clear lsp)
              replace d0 := hHeld.1.keeps d0
              replace d1 := hHeld.1.keeps d1
              replace k0 := hHeld.1.keeps k0
              replace q0 := hHeld.1.keeps q0
              replace n0_ := hHeld.1.keeps n0_
              replace s0_ := hHeld.1.keeps s0_
              replace s1_ := hHeld.1.keeps s1_
              replace gw := gw.trans hHeld.1
              have dl := lt_of_cell d0
              have lp := lt_of_cell k0
              have lq := lt_of_cell q0
              have ln := lt_of_cell n0_
              have lsp := lt_of_cell s0_
              go_wp2_with fail
              (try clear dl)
              (try clear lp)
              (try clear lq)
              (try clear ln)
              (try clear lsp)
              refine (lalive_any _).mono ?_
              rintro e w37 ⟨rfl, g37⟩
              go_wp2_with fail
              go_ret
              exact ⟨rfl, gw.trans g37⟩
            · have E1 : decide (0 < lo) = false := decide_eq_false hl
              have E2 : decide (hi < 0) = true := decide_eq_true hsb
              (refine wp_region_held_drew (S := fun Wx => Grow w35 Wx ∧ Wx.cell? ⟨BS, 0, none⟩ = some (.int .i64 lo) ∧ Wx.cell? ⟨BS, 1, none⟩ = some (.int .i64 hi)) (by kernel_rfl) ⟨(Below.refl _ _).drew, Grow.keeps (Below.refl _ _).drew (by assumption), Grow.keeps (Below.refl _ _).drew (by assumption)⟩ (fun hHeld => ?_); refine wpAnyH_take (i := 0) (oi := _) (v := ?_) rfl (by kernel_rfl) (by kernel_rfl) (by kernel_rfl) (fun _ _ _ h => h) (Or.inl ⟨by rfl, ?_⟩) (by assumption) ?_; rotate_left; (focus (intro w hSw; (try dsimp only at hSw); go_simp; (try with_reducible rfl))); (try simp only [Act.put, List.setIfInBounds_toArray, List.set_cons_zero, List.set_cons_succ, List.getElem_toArray, List.getElem_cons_zero]); refine wpAnyH_take (i := 1) (oi := _) (v := ?_) rfl (by kernel_rfl) (by kernel_rfl) (by kernel_rfl) (fun _ _ _ h => h) (Or.inl ⟨by rfl, ?_⟩) (by assumption) ?_; rotate_left; (focus (intro w hSw; (try dsimp only at hSw); go_simp; (try with_reducible rfl))); (try simp only [Act.put, List.setIfInBounds_toArray, List.set_cons_zero, List.set_cons_succ, List.getElem_toArray, List.getElem_cons_zero, List.getElem_cons_succ]); refine wpAnyH_take (i := 2) (oi := _) (v := ?_) rfl (by kernel_rfl) (by kernel_rfl) (by kernel_rfl) (fun _ _ _ h => h) (Or.inl ⟨by rfl, ?_⟩) (by assumption) ?_; rotate_left; (focus (intro w hSw; (try dsimp only at hSw); go_simp; (try with_reducible rfl))); (try simp only [Act.put, List.setIfInBounds_toArray, List.set_cons_zero, List.set_cons_succ, List.getElem_toArray, List.getElem_cons_zero, List.getElem_cons_succ]); refine wpAnyH_take (i := 3) (oi := _) (v := ?_) rfl (by kernel_rfl) (by kernel_rfl) (by kernel_rfl) (fun _ _ _ h => h) (Or.inl ⟨by rfl, ?_⟩) (by assumption) ?_; rotate_left; (focus (intro w hSw; (try dsimp only at hSw); go_simp; (try with_reducible rfl))); (try simp only [Act.put, List.setIfInBounds_toArray, List.set_cons_zero, List.set_cons_succ, List.getElem_toArray, List.getElem_cons_zero, List.getElem_cons_succ]); refine wpAnyH_take (i := 4) (oi := _) (v := ?_) rfl (by kernel_rfl) (by kernel_rfl) (by kernel_rfl) (fun _ _ _ h => h) (Or.inl ⟨by rfl, ?_⟩) (by assumption) ?_; rotate_left; (focus (intro w hSw; (try dsimp only at hSw); go_simp; (try with_reducible rfl))); (try simp only [Act.put, List.setIfInBounds_toArray, List.set_cons_zero, List.set_cons_succ, List.getElem_toArray, List.getElem_cons_zero, List.getElem_cons_succ]); refine wpAnyH_take (i := 5) (oi := _) (v := ?_) rfl (by kernel_rfl) (by kernel_rfl) (by kernel_rfl) (fun _ _ _ h => h) (Or.inl ⟨by rfl, ?_⟩) (by assumption) ?_; rotate_left; (focus (intro w hSw; (try dsimp only at hSw); go_simp; (try with_reducible rfl))); (try simp only [Act.put, List.setIfInBounds_toArray, List.set_cons_zero, List.set_cons_succ, List.getElem_toArray, List.getElem_cons_zero, List.getElem_cons_succ]); refine wpAnyH_take (i := 6) (oi := _) (v := ?_) rfl (by kernel_rfl) (by kernel_rfl) (by kernel_rfl) (fun _ _ _ h => h) (Or.inl ⟨by rfl, ?_⟩) (by assumption) ?_; rotate_left; (focus (intro w hSw; (try dsimp only at hSw); go_simp; (try with_reducible rfl))); (try simp only [Act.put, List.setIfInBounds_toArray, List.set_cons_zero, List.set_cons_succ, List.getElem_toArray, List.getElem_cons_zero, List.getElem_cons_succ]); refine wpAnyH_take (i := 7) (oi := _) (v := ?_) rfl (by kernel_rfl) (by kernel_rfl) (by kernel_rfl) (fun _ _ _ h => h) (Or.inl ⟨by rfl, ?_⟩) (by assumption) ?_; rotate_left; (focus (intro w hSw; (try dsimp only at hSw); go_simp; (try with_reducible rfl))); (try simp only [Act.put, List.setIfInBounds_toArray, List.set_cons_zero, List.set_cons_succ, List.getElem_toArray, List.getElem_cons_zero, List.getElem_cons_succ]); refine wpAnyH_take (i := 8) (oi := _) (v := ?_) rfl (by kernel_rfl) (by kernel_rfl) (by kernel_rfl) (fun _ _ _ h => h) (Or.inl ⟨by rfl, ?_⟩) (by assumption) ?_; rotate_left; (focus (intro w hSw; (try dsimp only at hSw); go_simp; (try with_reducible rfl))); (try simp only [Act.put, List.setIfInBounds_toArray, List.set_cons_zero, List.set_cons_succ, List.getElem_toArray, List.getElem_cons_zero, List.getElem_cons_succ]); refine wpAnyH_take (i := 9) (oi := _) (v := undef) rfl (by kernel_rfl) (by kernel_rfl) (by kernel_rfl) (fun _ _ _ h => h) (Or.inr ⟨by rfl, rfl⟩) (by assumption) ?_; (try simp only [Act.put, List.setIfInBounds_toArray, List.set_cons_zero, List.set_cons_succ, List.getElem_toArray, List.getElem_cons_zero, List.getElem_cons_succ]); refine wpAnyH_take (i := 10) (oi := _) (v := undef) rfl (by kernel_rfl) (by kernel_rfl) (by kernel_rfl) (fun _ _ _ h => h) (Or.inr ⟨by rfl, rfl⟩) (by assumption) ?_; (try simp only [Act.put, List.setIfInBounds_toArray, List.set_cons_zero, List.set_cons_succ, List.getElem_toArray, List.getElem_cons_zero, List.getElem_cons_succ]); refine wpAnyH_take (i := 11) (oi := _) (v := undef) rfl (by kernel_rfl) (by kernel_rfl) (by kernel_rfl) (fun _ _ _ h => h) (Or.inr ⟨by rfl, rfl⟩) (by assumption) ?_; (try simp only [Act.put, List.setIfInBounds_toArray, List.set_cons_zero, List.set_cons_succ, List.getElem_toArray, List.getElem_cons_zero, List.getElem_cons_succ]); refine wpAnyH_take (i := 12) (oi := _) (v := ?_) rfl (by kernel_rfl) (by kernel_rfl) (by kernel_rfl) (fun _ _ _ h => h) (Or.inl ⟨by rfl, ?_⟩) (by assumption) ?_; rotate_left; (focus (intro w hSw; (try dsimp only at hSw); go_simp; (try with_reducible rfl))); (try simp only [Act.put, List.setIfInBounds_toArray, List.set_cons_zero, List.set_cons_succ, List.getElem_toArray, List.getElem_cons_zero, List.getElem_cons_succ]); refine wpAnyH_take (i := 13) (oi := _) (v := ?_) rfl (by kernel_rfl) (by kernel_rfl) (by kernel_rfl) (fun _ _ _ h => h) (Or.inl ⟨by rfl, ?_⟩) (by assumption) ?_; rotate_left; (focus (intro w hSw; (try dsimp only at hSw); go_simp; (try with_reducible rfl))); (try simp only [Act.put, List.setIfInBounds_toArray, List.set_cons_zero, List.set_cons_succ, List.getElem_toArray, List.getElem_cons_zero, List.getElem_cons_succ]); refine wpAnyH_done (by kernel_rfl) ?_ _)
              (try clear dl)
              (try clear lp)
              (try clear lq)
              (try clear ln)
              (try clear lsp)
              replace d0 := hHeld.1.keeps d0
              replace d1 := hHeld.1.keeps d1
              replace k0 := hHeld.1.keeps k0
              replace q0 := hHeld.1.keeps q0
              replace n0_ := hHeld.1.keeps n0_
              replace s0_ := hHeld.1.keeps s0_
              replace s1_ := hHeld.1.keeps s1_
              replace gw := gw.trans hHeld.1
              have dl := lt_of_cell d0
              have lp := lt_of_cell k0
              have lq := lt_of_cell q0
              have ln := lt_of_cell n0_
              have lsp := lt_of_cell s0_
              go_wp2_with fail
              (try clear dl)
              (try clear lp)
              (try clear lq)
              (try clear ln)
              (try clear lsp)
              refine (lalive_any _).mono ?_
              rintro e w38 ⟨rfl, g38⟩
              go_wp2_with fail
              go_ret
              exact ⟨rfl, gw.trans g38⟩
          · obtain ⟨rfl, rfl⟩ := hsb
            (refine wp_region_held_drew (S := fun Wx => Grow w35 Wx ∧ Wx.cell? ⟨BS, 0, none⟩ = some (.int .i64 0) ∧ Wx.cell? ⟨BS, 1, none⟩ = some (.int .i64 0)) (by kernel_rfl) ⟨(Below.refl _ _).drew, Grow.keeps (Below.refl _ _).drew (by assumption), Grow.keeps (Below.refl _ _).drew (by assumption)⟩ (fun hHeld => ?_); refine wpAnyH_take (i := 0) (oi := _) (v := ?_) rfl (by kernel_rfl) (by kernel_rfl) (by kernel_rfl) (fun _ _ _ h => h) (Or.inl ⟨by rfl, ?_⟩) (by assumption) ?_; rotate_left; (focus (intro w hSw; (try dsimp only at hSw); go_simp; (try with_reducible rfl))); (try simp only [Act.put, List.setIfInBounds_toArray, List.set_cons_zero, List.set_cons_succ, List.getElem_toArray, List.getElem_cons_zero]); refine wpAnyH_take (i := 1) (oi := _) (v := ?_) rfl (by kernel_rfl) (by kernel_rfl) (by kernel_rfl) (fun _ _ _ h => h) (Or.inl ⟨by rfl, ?_⟩) (by assumption) ?_; rotate_left; (focus (intro w hSw; (try dsimp only at hSw); go_simp; (try with_reducible rfl))); (try simp only [Act.put, List.setIfInBounds_toArray, List.set_cons_zero, List.set_cons_succ, List.getElem_toArray, List.getElem_cons_zero, List.getElem_cons_succ]); refine wpAnyH_take (i := 2) (oi := _) (v := ?_) rfl (by kernel_rfl) (by kernel_rfl) (by kernel_rfl) (fun _ _ _ h => h) (Or.inl ⟨by rfl, ?_⟩) (by assumption) ?_; rotate_left; (focus (intro w hSw; (try dsimp only at hSw); go_simp; (try with_reducible rfl))); (try simp only [Act.put, List.setIfInBounds_toArray, List.set_cons_zero, List.set_cons_succ, List.getElem_toArray, List.getElem_cons_zero, List.getElem_cons_succ]); refine wpAnyH_take (i := 3) (oi := _) (v := ?_) rfl (by kernel_rfl) (by kernel_rfl) (by kernel_rfl) (fun _ _ _ h => h) (Or.inl ⟨by rfl, ?_⟩) (by assumption) ?_; rotate_left; (focus (intro w hSw; (try dsimp only at hSw); go_simp; (try with_reducible rfl))); (try simp only [Act.put, List.setIfInBounds_toArray, List.set_cons_zero, List.set_cons_succ, List.getElem_toArray, List.getElem_cons_zero, List.getElem_cons_succ]); refine wpAnyH_take (i := 4) (oi := _) (v := ?_) rfl (by kernel_rfl) (by kernel_rfl) (by kernel_rfl) (fun _ _ _ h => h) (Or.inl ⟨by rfl, ?_⟩) (by assumption) ?_; rotate_left; (focus (intro w hSw; (try dsimp only at hSw); go_simp; (try with_reducible rfl))); (try simp only [Act.put, List.setIfInBounds_toArray, List.set_cons_zero, List.set_cons_succ, List.getElem_toArray, List.getElem_cons_zero, List.getElem_cons_succ]); refine wpAnyH_take (i := 5) (oi := _) (v := ?_) rfl (by kernel_rfl) (by kernel_rfl) (by kernel_rfl) (fun _ _ _ h => h) (Or.inl ⟨by rfl, ?_⟩) (by assumption) ?_; rotate_left; (focus (intro w hSw; (try dsimp only at hSw); go_simp; (try with_reducible rfl))); (try simp only [Act.put, List.setIfInBounds_toArray, List.set_cons_zero, List.set_cons_succ, List.getElem_toArray, List.getElem_cons_zero, List.getElem_cons_succ]); refine wpAnyH_take (i := 6) (oi := _) (v := ?_) rfl (by kernel_rfl) (by kernel_rfl) (by kernel_rfl) (fun _ _ _ h => h) (Or.inl ⟨by rfl, ?_⟩) (by assumption) ?_; rotate_left; (focus (intro w hSw; (try dsimp only at hSw); go_simp; (try with_reducible rfl))); (try simp only [Act.put, List.setIfInBounds_toArray, List.set_cons_zero, List.set_cons_succ, List.getElem_toArray, List.getElem_cons_zero, List.getElem_cons_succ]); refine wpAnyH_take (i := 7) (oi := _) (v := ?_) rfl (by kernel_rfl) (by kernel_rfl) (by kernel_rfl) (fun _ _ _ h => h) (Or.inl ⟨by rfl, ?_⟩) (by assumption) ?_; rotate_left; (focus (intro w hSw; (try dsimp only at hSw); go_simp; (try with_reducible rfl))); (try simp only [Act.put, List.setIfInBounds_toArray, List.set_cons_zero, List.set_cons_succ, List.getElem_toArray, List.getElem_cons_zero, List.getElem_cons_succ]); refine wpAnyH_take (i := 8) (oi := _) (v := ?_) rfl (by kernel_rfl) (by kernel_rfl) (by kernel_rfl) (fun _ _ _ h => h) (Or.inl ⟨by rfl, ?_⟩) (by assumption) ?_; rotate_left; (focus (intro w hSw; (try dsimp only at hSw); go_simp; (try with_reducible rfl))); (try simp only [Act.put, List.setIfInBounds_toArray, List.set_cons_zero, List.set_cons_succ, List.getElem_toArray, List.getElem_cons_zero, List.getElem_cons_succ]); refine wpAnyH_take (i := 9) (oi := _) (v := ?_) rfl (by kernel_rfl) (by kernel_rfl) (by kernel_rfl) (fun _ _ _ h => h) (Or.inl ⟨by rfl, ?_⟩) (by assumption) ?_; rotate_left; (focus (intro w hSw; (try dsimp only at hSw); go_simp; (try with_reducible rfl))); (try simp only [Act.put, List.setIfInBounds_toArray, List.set_cons_zero, List.set_cons_succ, List.getElem_toArray, List.getElem_cons_zero, List.getElem_cons_succ]); refine wpAnyH_ready (rs := [10]) (by kernel_rfl) (by simp) ?_; refine AllReadyH.cons (o := _) rfl (fun K hK => ?_) AllReadyH.nil; (try simp only [List.getElem_toArray, List.getElem_cons_zero, List.getElem_cons_succ]); go_simp; (go_at_call 29; refine (lspan_any _ _ _).mono ?_; rintro e wd ⟨rfl, gd⟩); (try (go_wp2_with fail)); refine hK.out _ _ ?_ (fun hHeld => ?_); (focus ((try dsimp only); refine (fun (hG : Grow w35 _) => ⟨hG, Grow.keeps hG (by assumption), Grow.keeps hG (by assumption)⟩) ?_; (try go_split_ands); first | assumption | exact Grow.trans (by assumption) (by assumption) | exact Below.trans (by assumption) (by assumption))); clear hK K; (try simp only [Act.put, List.setIfInBounds_toArray, List.set_cons_zero, List.set_cons_succ, List.getElem_toArray, List.getElem_cons_zero, List.getElem_cons_succ]); refine wpAnyH_take (i := 11) (oi := _) (v := ?_) rfl (by kernel_rfl) (by kernel_rfl) (by kernel_rfl) (fun _ _ _ h => h) (Or.inl ⟨by rfl, ?_⟩) (by assumption) ?_; rotate_left; (focus (intro w hSw; (try dsimp only at hSw); go_simp; (try with_reducible rfl))); (try simp only [Act.put, List.setIfInBounds_toArray, List.set_cons_zero, List.set_cons_succ, List.getElem_toArray, List.getElem_cons_zero, List.getElem_cons_succ]); refine wpAnyH_take (i := 12) (oi := _) (v := ?_) rfl (by kernel_rfl) (by kernel_rfl) (by kernel_rfl) (fun _ _ _ h => h) (Or.inl ⟨by rfl, ?_⟩) (by assumption) ?_; rotate_left; (focus (intro w hSw; (try dsimp only at hSw); go_simp; (try with_reducible rfl))); (try simp only [Act.put, List.setIfInBounds_toArray, List.set_cons_zero, List.set_cons_succ, List.getElem_toArray, List.getElem_cons_zero, List.getElem_cons_succ]); refine wpAnyH_take (i := 13) (oi := _) (v := ?_) rfl (by kernel_rfl) (by kernel_rfl) (by kernel_rfl) (fun _ _ _ h => h) (Or.inl ⟨by rfl, ?_⟩) (by assumption) ?_; rotate_left; (focus (intro w hSw; (try dsimp only at hSw); go_simp; (try with_reducible rfl))); (try simp only [Act.put, List.setIfInBounds_toArray, List.set_cons_zero, List.set_cons_succ, List.getElem_toArray, List.getElem_cons_zero, List.getElem_cons_succ]); refine wpAnyH_done (by kernel_rfl) ?_ _)
            (try clear dl)
            (try clear lp)
            (try clear lq)
            (try clear ln)
            (try clear lsp)
            replace d0 := hHeld.1.keeps d0
            replace d1 := hHeld.1.keeps d1
            replace k0 := hHeld.1.keeps k0
            replace q0 := hHeld.1.keeps q0
            replace n0_ := hHeld.1.keeps n0_
            replace s0_ := hHeld.1.keeps s0_
            replace s1_ := hHeld.1.keeps s1_
            replace gw := gw.trans hHeld.1
            have dl := lt_of_cell d0
            have lp := lt_of_cell k0
            have lq := lt_of_cell q0
            have ln := lt_of_cell n0_
            have lsp := lt_of_cell s0_
            go_wp2_with fail
            (try clear dl)
            (try clear lp)
            (try clear lq)
            (try clear ln)
            (try clear lsp)
            refine (lalive_any _).mono ?_
            rintro e w39 ⟨rfl, g39⟩
            go_wp2_with fail
            go_ret
            exact ⟨rfl, gw.trans g39⟩
        · skip
          have E1 : decide (0 < lo) = false := decide_eq_false (by omega)
          have E2 : decide (hi < 0) = false := decide_eq_false (by omega)
          go_wp2_with fail
          refine (PS.out _ gw).mono ?_
          rintro e w40 ⟨rfl, g40⟩
          (try clear dl)
          (try clear lp)
          (try clear lq)
          replace d0 := g40.keeps d0
          replace d1 := g40.keeps d1
          replace k0 := g40.keeps k0
          replace q0 := g40.keeps q0
          replace gw := gw.trans g40
          have dl := lt_of_cell d0
          have lp := lt_of_cell k0
          have lq := lt_of_cell q0
          (try clear g40)
          go_wp2_with fail
          obtain ⟨w41, hW⟩ : ∃ z, w40.alloc (.cells #[.int .i64 0] 3) = z := ⟨_, rfl⟩
          obtain ⟨BN, hB⟩ : ∃ z, w40.heap.size = z := ⟨_, rfl⟩
          have g41 : Grow w40 w41 := by rw [← hW]; exact (Grow.refl _).alloc _
          have n0_ : w41.cell? ⟨BN, 0, none⟩ = some (.int .i64 0) := by rw [← hW]; exact cell_new hB.symm rfl
          rw [hW, hB]
          clear hW hB
          (try clear dl)
          (try clear lp)
          (try clear lq)
          replace d0 := g41.keeps d0
          replace d1 := g41.keeps d1
          replace k0 := g41.keeps k0
          replace q0 := g41.keeps q0
          replace gw := gw.trans g41
          have dl := lt_of_cell d0
          have lp := lt_of_cell k0
          have lq := lt_of_cell q0
          have ln := lt_of_cell n0_
          (try clear g41)
          refine (PT.out _ gw).mono ?_
          rintro e w42 ⟨rfl, g42⟩
          (try clear dl)
          (try clear lp)
          (try clear lq)
          (try clear ln)
          replace d0 := g42.keeps d0
          replace d1 := g42.keeps d1
          replace k0 := g42.keeps k0
          replace q0 := g42.keeps q0
          replace n0_ := g42.keeps n0_
          replace gw := gw.trans g42
          have dl := lt_of_cell d0
          have lp := lt_of_cell k0
          have lq := lt_of_cell q0
          have ln := lt_of_cell n0_
          (try clear g42)
          go_wp2_with fail
          refine (PL.out _ gw).mono ?_
          rintro e w43 ⟨rfl, g43⟩
          (try clear dl)
          (try clear lp)
          (try clear lq)
          (try clear ln)
          replace d0 := g43.keeps d0
          replace d1 := g43.keeps d1
          replace k0 := g43.keeps k0
          replace q0 := g43.keeps q0
          replace n0_ := g43.keeps n0_
          replace gw := gw.trans g43
          have dl := lt_of_cell d0
          have lp := lt_of_cell k0
          have lq := lt_of_cell q0
          have ln := lt_of_cell n0_
          (try clear g43)
          go_upto_region 12 with fail
          obtain ⟨w44, hW⟩ : ∃ z, w43.alloc (.cells #[.int .i64 lo, .int .i64 hi] 36) = z := ⟨_, rfl⟩
          obtain ⟨BS, hB⟩ : ∃ z, w43.heap.size = z := ⟨_, rfl⟩
          have g44 : Grow w43 w44 := by rw [← hW]; exact (Grow.refl _).alloc _
          have s0_ : w44.cell? ⟨BS, 0, none⟩ = some (.int .i64 lo) := by rw [← hW]; exact cell_new hB.symm rfl
          have s1_ : w44.cell? ⟨BS, 1, none⟩ = some (.int .i64 hi) := by rw [← hW]; exact cell_new hB.symm rfl
          rw [hW, hB]
          clear hW hB
          (try clear dl)
          (try clear lp)
          (try clear lq)
          (try clear ln)
          replace d0 := g44.keeps d0
          replace d1 := g44.keeps d1
          replace k0 := g44.keeps k0
          replace q0 := g44.keeps q0
          replace n0_ := g44.keeps n0_
          replace gw := gw.trans g44
          have dl := lt_of_cell d0
          have lp := lt_of_cell k0
          have lq := lt_of_cell q0
          have ln := lt_of_cell n0_
          have lsp := lt_of_cell s0_
          (try clear g44)
          go_cut [19] (fun s19 V => s19 = .bool false ∧ Grow w44 V)
          case first =>
            by_cases hl : lo = 0
            · subst hl
              have hh : ¬ hi = 0 := by omega
              (refine wp_region_held_drew (S := fun Wx => Grow w44 Wx ∧ Wx.cell? ⟨BS, 0, none⟩ = some (.int .i64 0) ∧ Wx.cell? ⟨BS, 1, none⟩ = some (.int .i64 hi)) (by kernel_rfl) ⟨(Below.refl _ _).drew, Grow.keeps (Below.refl _ _).drew (by assumption), Grow.keeps (Below.refl _ _).drew (by assumption)⟩ (fun hHeld => ?_); refine wpAnyH_take (i := 0) (oi := _) (v := ?_) rfl (by kernel_rfl) (by kernel_rfl) (by kernel_rfl) (fun _ _ _ h => h) (Or.inl ⟨by rfl, ?_⟩) (by assumption) ?_; rotate_left; (focus (intro w hSw; (try dsimp only at hSw); go_simp; (try with_reducible rfl))); (try simp only [Act.put, List.setIfInBounds_toArray, List.set_cons_zero, List.set_cons_succ, List.getElem_toArray, List.getElem_cons_zero]); refine wpAnyH_take (i := 1) (oi := _) (v := ?_) rfl (by kernel_rfl) (by kernel_rfl) (by kernel_rfl) (fun _ _ _ h => h) (Or.inl ⟨by rfl, ?_⟩) (by assumption) ?_; rotate_left; (focus (intro w hSw; (try dsimp only at hSw); go_simp; (try with_reducible rfl))); (try simp only [Act.put, List.setIfInBounds_toArray, List.set_cons_zero, List.set_cons_succ, List.getElem_toArray, List.getElem_cons_zero, List.getElem_cons_succ]); refine wpAnyH_take (i := 2) (oi := _) (v := ?_) rfl (by kernel_rfl) (by kernel_rfl) (by kernel_rfl) (fun _ _ _ h => h) (Or.inl ⟨by rfl, ?_⟩) (by assumption) ?_; rotate_left; (focus (intro w hSw; (try dsimp only at hSw); go_simp; (try with_reducible rfl))); (try simp only [Act.put, List.setIfInBounds_toArray, List.set_cons_zero, List.set_cons_succ, List.getElem_toArray, List.getElem_cons_zero, List.getElem_cons_succ]); refine wpAnyH_take (i := 3) (oi := _) (v := ?_) rfl (by kernel_rfl) (by kernel_rfl) (by kernel_rfl) (fun _ _ _ h => h) (Or.inl ⟨by rfl, ?_⟩) (by assumption) ?_; rotate_left; (focus (intro w hSw; (try dsimp only at hSw); go_simp; (try with_reducible rfl))); (try simp only [Act.put, List.setIfInBounds_toArray, List.set_cons_zero, List.set_cons_succ, List.getElem_toArray, List.getElem_cons_zero, List.getElem_cons_succ]); refine wpAnyH_take (i := 4) (oi := _) (v := ?_) rfl (by kernel_rfl) (by kernel_rfl) (by kernel_rfl) (fun _ _ _ h => h) (Or.inl ⟨by rfl, ?_⟩) (by assumption) ?_; rotate_left; (focus (intro w hSw; (try dsimp only at hSw); go_simp; (try with_reducible rfl))); (try simp only [Act.put, List.setIfInBounds_toArray, List.set_cons_zero, List.set_cons_succ, List.getElem_toArray, List.getElem_cons_zero, List.getElem_cons_succ]); refine wpAnyH_take (i := 5) (oi := _) (v := ?_) rfl (by kernel_rfl) (by kernel_rfl) (by kernel_rfl) (fun _ _ _ h => h) (Or.inl ⟨by rfl, ?_⟩) (by assumption) ?_; rotate_left; (focus (intro w hSw; (try dsimp only at hSw); go_simp; (try with_reducible rfl))); (try simp only [Act.put, List.setIfInBounds_toArray, List.set_cons_zero, List.set_cons_succ, List.getElem_toArray, List.getElem_cons_zero, List.getElem_cons_succ]); refine wpAnyH_take (i := 6) (oi := _) (v := ?_) rfl (by kernel_rfl) (by kernel_rfl) (by kernel_rfl) (fun _ _ _ h => h) (Or.inl ⟨by rfl, ?_⟩) (by assumption) ?_; rotate_left; (focus (intro w hSw; (try dsimp only at hSw); go_simp; (try with_reducible rfl))); (try simp only [Act.put, List.setIfInBounds_toArray, List.set_cons_zero, List.set_cons_succ, List.getElem_toArray, List.getElem_cons_zero, List.getElem_cons_succ]); refine wpAnyH_take (i := 7) (oi := _) (v := ?_) rfl (by kernel_rfl) (by kernel_rfl) (by kernel_rfl) (fun _ _ _ h => h) (Or.inl ⟨by rfl, ?_⟩) (by assumption) ?_; rotate_left; (focus (intro w hSw; (try dsimp only at hSw); go_simp; (try with_reducible rfl))); (try simp only [Act.put, List.setIfInBounds_toArray, List.set_cons_zero, List.set_cons_succ, List.getElem_toArray, List.getElem_cons_zero, List.getElem_cons_succ]); refine wpAnyH_take (i := 8) (oi := _) (v := ?_) rfl (by kernel_rfl) (by kernel_rfl) (by kernel_rfl) (fun _ _ _ h => h) (Or.inl ⟨by rfl, ?_⟩) (by assumption) ?_; rotate_left; (focus (intro w hSw; (try dsimp only at hSw); go_simp; (try with_reducible rfl))); (try simp only [Act.put, List.setIfInBounds_toArray, List.set_cons_zero, List.set_cons_succ, List.getElem_toArray, List.getElem_cons_zero, List.getElem_cons_succ]); refine wpAnyH_take (i := 9) (oi := _) (v := ?_) rfl (by kernel_rfl) (by kernel_rfl) (by kernel_rfl) (fun _ _ _ h => h) (Or.inl ⟨by rfl, ?_⟩) (by assumption) ?_; rotate_left; (focus (intro w hSw; (try dsimp only at hSw); go_simp; (try with_reducible rfl))); (try simp only [Act.put, List.setIfInBounds_toArray, List.set_cons_zero, List.set_cons_succ, List.getElem_toArray, List.getElem_cons_zero, List.getElem_cons_succ]); refine wpAnyH_ready (rs := [10]) (by kernel_rfl) (by simp) ?_; refine AllReadyH.cons (o := _) rfl (fun K hK => ?_) AllReadyH.nil; (try simp only [List.getElem_toArray, List.getElem_cons_zero, List.getElem_cons_succ]); go_simp; (go_at_call 29; refine (lspan_any _ _ _).mono ?_; rintro e wd ⟨rfl, gd⟩); (try (go_wp2_with fail)); refine hK.out _ _ ?_ (fun hHeld => ?_); (focus ((try dsimp only); refine (fun (hG : Grow w44 _) => ⟨hG, Grow.keeps hG (by assumption), Grow.keeps hG (by assumption)⟩) ?_; (try go_split_ands); first | assumption | exact Grow.trans (by assumption) (by assumption) | exact Below.trans (by assumption) (by assumption))); clear hK K; (try simp only [Act.put, List.setIfInBounds_toArray, List.set_cons_zero, List.set_cons_succ, List.getElem_toArray, List.getElem_cons_zero, List.getElem_cons_succ]); refine wpAnyH_take (i := 11) (oi := _) (v := ?_) rfl (by kernel_rfl) (by kernel_rfl) (by kernel_rfl) (fun _ _ _ h => h) (Or.inl ⟨by rfl, ?_⟩) (by assumption) ?_; rotate_left; (focus (intro w hSw; (try dsimp only at hSw); go_simp; (try with_reducible rfl))); (try simp only [Act.put, List.setIfInBounds_toArray, List.set_cons_zero, List.set_cons_succ, List.getElem_toArray, List.getElem_cons_zero, List.getElem_cons_succ]); refine wpAnyH_take (i := 12) (oi := _) (v := ?_) rfl (by kernel_rfl) (by kernel_rfl) (by kernel_rfl) (fun _ _ _ h => h) (Or.inl ⟨by rfl, ?_⟩) (by assumption) ?_; rotate_left; (focus (intro w hSw; (try dsimp only at hSw); go_simp; (try with_reducible rfl))); (try simp only [Act.put, List.setIfInBounds_toArray, List.set_cons_zero, List.set_cons_succ, List.getElem_toArray, List.getElem_cons_zero, List.getElem_cons_succ]); refine wpAnyH_take (i := 13) (oi := _) (v := ?_) rfl (by kernel_rfl) (by kernel_rfl) (by kernel_rfl) (fun _ _ _ h => h) (Or.inl ⟨by rfl, ?_⟩) (by assumption) ?_; rotate_left; (focus (intro w hSw; (try dsimp only at hSw); go_simp; (try with_reducible rfl))); (try simp only [Act.put, List.setIfInBounds_toArray, List.set_cons_zero, List.set_cons_succ, List.getElem_toArray, List.getElem_cons_zero, List.getElem_cons_succ]); refine wpAnyH_done (by kernel_rfl) ?_ _)
              go_wp2_with fail
              go_meet
              exact ⟨rfl, hHeld.1⟩
            · (refine wp_region_held_drew (S := fun Wx => Grow w44 Wx ∧ Wx.cell? ⟨BS, 0, none⟩ = some (.int .i64 lo) ∧ Wx.cell? ⟨BS, 1, none⟩ = some (.int .i64 hi)) (by kernel_rfl) ⟨(Below.refl _ _).drew, Grow.keeps (Below.refl _ _).drew (by assumption), Grow.keeps (Below.refl _ _).drew (by assumption)⟩ (fun hHeld => ?_); refine wpAnyH_take (i := 0) (oi := _) (v := ?_) rfl (by kernel_rfl) (by kernel_rfl) (by kernel_rfl) (fun _ _ _ h => h) (Or.inl ⟨by rfl, ?_⟩) (by assumption) ?_; rotate_left; (focus (intro w hSw; (try dsimp only at hSw); go_simp; (try with_reducible rfl))); (try simp only [Act.put, List.setIfInBounds_toArray, List.set_cons_zero, List.set_cons_succ, List.getElem_toArray, List.getElem_cons_zero]); refine wpAnyH_take (i := 1) (oi := _) (v := ?_) rfl (by kernel_rfl) (by kernel_rfl) (by kernel_rfl) (fun _ _ _ h => h) (Or.inl ⟨by rfl, ?_⟩) (by assumption) ?_; rotate_left; (focus (intro w hSw; (try dsimp only at hSw); go_simp; (try with_reducible rfl))); (try simp only [Act.put, List.setIfInBounds_toArray, List.set_cons_zero, List.set_cons_succ, List.getElem_toArray, List.getElem_cons_zero, List.getElem_cons_succ]); refine wpAnyH_take (i := 2) (oi := _) (v := ?_) rfl (by kernel_rfl) (by kernel_rfl) (by kernel_rfl) (fun _ _ _ h => h) (Or.inl ⟨by rfl, ?_⟩) (by assumption) ?_; rotate_left; (focus (intro w hSw; (try dsimp only at hSw); go_simp; (try with_reducible rfl))); (try simp only [Act.put, List.setIfInBounds_toArray, List.set_cons_zero, List.set_cons_succ, List.getElem_toArray, List.getElem_cons_zero, List.getElem_cons_succ]); refine wpAnyH_take (i := 3) (oi := _) (v := ?_) rfl (by kernel_rfl) (by kernel_rfl) (by kernel_rfl) (fun _ _ _ h => h) (Or.inl ⟨by rfl, ?_⟩) (by assumption) ?_; rotate_left; (focus (intro w hSw; (try dsimp only at hSw); go_simp; (try with_reducible rfl))); (try simp only [Act.put, List.setIfInBounds_toArray, List.set_cons_zero, List.set_cons_succ, List.getElem_toArray, List.getElem_cons_zero, List.getElem_cons_succ]); refine wpAnyH_take (i := 4) (oi := _) (v := ?_) rfl (by kernel_rfl) (by kernel_rfl) (by kernel_rfl) (fun _ _ _ h => h) (Or.inl ⟨by rfl, ?_⟩) (by assumption) ?_; rotate_left; (focus (intro w hSw; (try dsimp only at hSw); go_simp; (try with_reducible rfl))); (try simp only [Act.put, List.setIfInBounds_toArray, List.set_cons_zero, List.set_cons_succ, List.getElem_toArray, List.getElem_cons_zero, List.getElem_cons_succ]); refine wpAnyH_take (i := 5) (oi := _) (v := ?_) rfl (by kernel_rfl) (by kernel_rfl) (by kernel_rfl) (fun _ _ _ h => h) (Or.inl ⟨by rfl, ?_⟩) (by assumption) ?_; rotate_left; (focus (intro w hSw; (try dsimp only at hSw); go_simp; (try with_reducible rfl))); (try simp only [Act.put, List.setIfInBounds_toArray, List.set_cons_zero, List.set_cons_succ, List.getElem_toArray, List.getElem_cons_zero, List.getElem_cons_succ]); refine wpAnyH_take (i := 6) (oi := _) (v := ?_) rfl (by kernel_rfl) (by kernel_rfl) (by kernel_rfl) (fun _ _ _ h => h) (Or.inl ⟨by rfl, ?_⟩) (by assumption) ?_; rotate_left; (focus (intro w hSw; (try dsimp only at hSw); go_simp; (try with_reducible rfl))); (try simp only [Act.put, List.setIfInBounds_toArray, List.set_cons_zero, List.set_cons_succ, List.getElem_toArray, List.getElem_cons_zero, List.getElem_cons_succ]); refine wpAnyH_take (i := 7) (oi := _) (v := ?_) rfl (by kernel_rfl) (by kernel_rfl) (by kernel_rfl) (fun _ _ _ h => h) (Or.inl ⟨by rfl, ?_⟩) (by assumption) ?_; rotate_left; (focus (intro w hSw; (try dsimp only at hSw); go_simp; (try with_reducible rfl))); (try simp only [Act.put, List.setIfInBounds_toArray, List.set_cons_zero, List.set_cons_succ, List.getElem_toArray, List.getElem_cons_zero, List.getElem_cons_succ]); refine wpAnyH_take (i := 8) (oi := _) (v := ?_) rfl (by kernel_rfl) (by kernel_rfl) (by kernel_rfl) (fun _ _ _ h => h) (Or.inl ⟨by rfl, ?_⟩) (by assumption) ?_; rotate_left; (focus (intro w hSw; (try dsimp only at hSw); go_simp; (try with_reducible rfl))); (try simp only [Act.put, List.setIfInBounds_toArray, List.set_cons_zero, List.set_cons_succ, List.getElem_toArray, List.getElem_cons_zero, List.getElem_cons_succ]); refine wpAnyH_take (i := 9) (oi := _) (v := ?_) rfl (by kernel_rfl) (by kernel_rfl) (by kernel_rfl) (fun _ _ _ h => h) (Or.inl ⟨by rfl, ?_⟩) (by assumption) ?_; rotate_left; (focus (intro w hSw; (try dsimp only at hSw); go_simp; (try with_reducible rfl))); (try simp only [Act.put, List.setIfInBounds_toArray, List.set_cons_zero, List.set_cons_succ, List.getElem_toArray, List.getElem_cons_zero, List.getElem_cons_succ]); refine wpAnyH_ready (rs := [10]) (by kernel_rfl) (by simp) ?_; refine AllReadyH.cons (o := _) rfl (fun K hK => ?_) AllReadyH.nil; (try simp only [List.getElem_toArray, List.getElem_cons_zero, List.getElem_cons_succ]); go_simp; (go_at_call 29; refine (lspan_any _ _ _).mono ?_; rintro e wd ⟨rfl, gd⟩); (try (go_wp2_with fail)); refine hK.out _ _ ?_ (fun hHeld => ?_); (focus ((try dsimp only); refine (fun (hG : Grow w44 _) => ⟨hG, Grow.keeps hG (by assumption), Grow.keeps hG (by assumption)⟩) ?_; (try go_split_ands); first | assumption | exact Grow.trans (by assumption) (by assumption) | exact Below.trans (by assumption) (by assumption))); clear hK K; (try simp only [Act.put, List.setIfInBounds_toArray, List.set_cons_zero, List.set_cons_succ, List.getElem_toArray, List.getElem_cons_zero, List.getElem_cons_succ]); refine wpAnyH_take (i := 11) (oi := _) (v := ?_) rfl (by kernel_rfl) (by kernel_rfl) (by kernel_rfl) (fun _ _ _ h => h) (Or.inl ⟨by rfl, ?_⟩) (by assumption) ?_; rotate_left; (focus (intro w hSw; (try dsimp only at hSw); go_simp; (try with_reducible rfl))); (try simp only [Act.put, List.setIfInBounds_toArray, List.set_cons_zero, List.set_cons_succ, List.getElem_toArray, List.getElem_cons_zero, List.getElem_cons_succ]); refine wpAnyH_take (i := 12) (oi := _) (v := ?_) rfl (by kernel_rfl) (by kernel_rfl) (by kernel_rfl) (fun _ _ _ h => h) (Or.inl ⟨by rfl, ?_⟩) (by assumption) ?_; rotate_left; (focus (intro w hSw; (try dsimp only at hSw); go_simp; (try with_reducible rfl))); (try simp only [Act.put, List.setIfInBounds_toArray, List.set_cons_zero, List.set_cons_succ, List.getElem_toArray, List.getElem_cons_zero, List.getElem_cons_succ]); refine wpAnyH_take (i := 13) (oi := _) (v := ?_) rfl (by kernel_rfl) (by kernel_rfl) (by kernel_rfl) (fun _ _ _ h => h) (Or.inl ⟨by rfl, ?_⟩) (by assumption) ?_; rotate_left; (focus (intro w hSw; (try dsimp only at hSw); go_simp; (try with_reducible rfl))); (try simp only [Act.put, List.setIfInBounds_toArray, List.set_cons_zero, List.set_cons_succ, List.getElem_toArray, List.getElem_cons_zero, List.getElem_cons_succ]); refine wpAnyH_done (by kernel_rfl) ?_ _)
              go_wp2_with fail
              go_meet
              exact ⟨rfl, hHeld.1⟩
          case rest =>
            obtain ⟨rfl, hG12⟩ := hcut
            clear hsb E1 E2
            (try clear dl)
            (try clear lp)
            (try clear lq)
            (try clear ln)
            (try clear lsp)
            replace d0 := hG12.keeps d0
            replace d1 := hG12.keeps d1
            replace k0 := hG12.keeps k0
            replace q0 := hG12.keeps q0
            replace n0_ := hG12.keeps n0_
            replace s0_ := hG12.keeps s0_
            replace s1_ := hG12.keeps s1_
            replace gw := gw.trans hG12
            have dl := lt_of_cell d0
            have lp := lt_of_cell k0
            have lq := lt_of_cell q0
            have ln := lt_of_cell n0_
            have lsp := lt_of_cell s0_
            clear hG12
            go_wp2_with fail
            (try clear dl)
            (try clear lp)
            (try clear lq)
            (try clear ln)
            (try clear lsp)
            refine (lalive_any _).mono ?_
            rintro e w45 ⟨rfl, g45⟩
            go_wp2_with fail
            go_ret
            exact ⟨rfl, gw.trans g45⟩
        · skip
          have E1 : decide (0 < lo) = false := decide_eq_false (by omega)
          have E2 : decide (hi < 0) = false := decide_eq_false (by omega)
          go_wp2_with fail
          refine (PS.out _ gw).mono ?_
          rintro e w46 ⟨rfl, g46⟩
          (try clear dl)
          (try clear lp)
          (try clear lq)
          replace d0 := g46.keeps d0
          replace d1 := g46.keeps d1
          replace k0 := g46.keeps k0
          replace q0 := g46.keeps q0
          replace gw := gw.trans g46
          have dl := lt_of_cell d0
          have lp := lt_of_cell k0
          have lq := lt_of_cell q0
          (try clear g46)
          go_wp2_with fail
          obtain ⟨w47, hW⟩ : ∃ z, w46.alloc (.cells #[.int .i64 k] 3) = z := ⟨_, rfl⟩
          obtain ⟨BN, hB⟩ : ∃ z, w46.heap.size = z := ⟨_, rfl⟩
          have g47 : Grow w46 w47 := by rw [← hW]; exact (Grow.refl _).alloc _
          have n0_ : w47.cell? ⟨BN, 0, none⟩ = some (.int .i64 k) := by rw [← hW]; exact cell_new hB.symm rfl
          rw [hW, hB]
          clear hW hB
          (try clear dl)
          (try clear lp)
          (try clear lq)
          replace d0 := g47.keeps d0
          replace d1 := g47.keeps d1
          replace k0 := g47.keeps k0
          replace q0 := g47.keeps q0
          replace gw := gw.trans g47
          have dl := lt_of_cell d0
          have lp := lt_of_cell k0
          have lq := lt_of_cell q0
          have ln := lt_of_cell n0_
          (try clear g47)
          refine (PT.out _ gw).mono ?_
          rintro e w48 ⟨rfl, g48⟩
          (try clear dl)
          (try clear lp)
          (try clear lq)
          (try clear ln)
          replace d0 := g48.keeps d0
          replace d1 := g48.keeps d1
          replace k0 := g48.keeps k0
          replace q0 := g48.keeps q0
          replace n0_ := g48.keeps n0_
          replace gw := gw.trans g48
          have dl := lt_of_cell d0
          have lp := lt_of_cell k0
          have lq := lt_of_cell q0
          have ln := lt_of_cell n0_
          (try clear g48)
          go_wp2_with fail
          refine (PL.out _ gw).mono ?_
          rintro e w49 ⟨rfl, g49⟩
          (try clear dl)
          (try clear lp)
          (try clear lq)
          (try clear ln)
          replace d0 := g49.keeps d0
          replace d1 := g49.keeps d1
          replace k0 := g49.keeps k0
          replace q0 := g49.keeps q0
          replace n0_ := g49.keeps n0_
          replace gw := gw.trans g49
          have dl := lt_of_cell d0
          have lp := lt_of_cell k0
          have lq := lt_of_cell q0
          have ln := lt_of_cell n0_
          (try clear g49)
          go_upto_region 12 with fail
          obtain ⟨w50, hW⟩ : ∃ z, w49.alloc (.cells #[.int .i64 lo, .int .i64 hi] 36) = z := ⟨_, rfl⟩
          obtain ⟨BS, hB⟩ : ∃ z, w49.heap.size = z := ⟨_, rfl⟩
          have g50 : Grow w49 w50 := by rw [← hW]; exact (Grow.refl _).alloc _
          have s0_ : w50.cell? ⟨BS, 0, none⟩ = some (.int .i64 lo) := by rw [← hW]; exact cell_new hB.symm rfl
          have s1_ : w50.cell? ⟨BS, 1, none⟩ = some (.int .i64 hi) := by rw [← hW]; exact cell_new hB.symm rfl
          rw [hW, hB]
          clear hW hB
          (try clear dl)
          (try clear lp)
          (try clear lq)
          (try clear ln)
          replace d0 := g50.keeps d0
          replace d1 := g50.keeps d1
          replace k0 := g50.keeps k0
          replace q0 := g50.keeps q0
          replace n0_ := g50.keeps n0_
          replace gw := gw.trans g50
          have dl := lt_of_cell d0
          have lp := lt_of_cell k0
          have lq := lt_of_cell q0
          have ln := lt_of_cell n0_
          have lsp := lt_of_cell s0_
          (try clear g50)
          go_cut [19] (fun s19 V => s19 = .bool false ∧ Grow w50 V)
          case first =>
            by_cases hl : lo = 0
            · subst hl
              have hh : ¬ hi = 0 := by omega
              (refine wp_region_held_drew (S := fun Wx => Grow w50 Wx ∧ Wx.cell? ⟨BS, 0, none⟩ = some (.int .i64 0) ∧ Wx.cell? ⟨BS, 1, none⟩ = some (.int .i64 hi)) (by kernel_rfl) ⟨(Below.refl _ _).drew, Grow.keeps (Below.refl _ _).drew (by assumption), Grow.keeps (Below.refl _ _).drew (by assumption)⟩ (fun hHeld => ?_); refine wpAnyH_take (i := 0) (oi := _) (v := ?_) rfl (by kernel_rfl) (by kernel_rfl) (by kernel_rfl) (fun _ _ _ h => h) (Or.inl ⟨by rfl, ?_⟩) (by assumption) ?_; rotate_left; (focus (intro w hSw; (try dsimp only at hSw); go_simp; (try with_reducible rfl))); (try simp only [Act.put, List.setIfInBounds_toArray, List.set_cons_zero, List.set_cons_succ, List.getElem_toArray, List.getElem_cons_zero]); refine wpAnyH_take (i := 1) (oi := _) (v := ?_) rfl (by kernel_rfl) (by kernel_rfl) (by kernel_rfl) (fun _ _ _ h => h) (Or.inl ⟨by rfl, ?_⟩) (by assumption) ?_; rotate_left; (focus (intro w hSw; (try dsimp only at hSw); go_simp; (try with_reducible rfl))); (try simp only [Act.put, List.setIfInBounds_toArray, List.set_cons_zero, List.set_cons_succ, List.getElem_toArray, List.getElem_cons_zero, List.getElem_cons_succ]); refine wpAnyH_take (i := 2) (oi := _) (v := ?_) rfl (by kernel_rfl) (by kernel_rfl) (by kernel_rfl) (fun _ _ _ h => h) (Or.inl ⟨by rfl, ?_⟩) (by assumption) ?_; rotate_left; (focus (intro w hSw; (try dsimp only at hSw); go_simp; (try with_reducible rfl))); (try simp only [Act.put, List.setIfInBounds_toArray, List.set_cons_zero, List.set_cons_succ, List.getElem_toArray, List.getElem_cons_zero, List.getElem_cons_succ]); refine wpAnyH_take (i := 3) (oi := _) (v := ?_) rfl (by kernel_rfl) (by kernel_rfl) (by kernel_rfl) (fun _ _ _ h => h) (Or.inl ⟨by rfl, ?_⟩) (by assumption) ?_; rotate_left; (focus (intro w hSw; (try dsimp only at hSw); go_simp; (try with_reducible rfl))); (try simp only [Act.put, List.setIfInBounds_toArray, List.set_cons_zero, List.set_cons_succ, List.getElem_toArray, List.getElem_cons_zero, List.getElem_cons_succ]); refine wpAnyH_take (i := 4) (oi := _) (v := ?_) rfl (by kernel_rfl) (by kernel_rfl) (by kernel_rfl) (fun _ _ _ h => h) (Or.inl ⟨by rfl, ?_⟩) (by assumption) ?_; rotate_left; (focus (intro w hSw; (try dsimp only at hSw); go_simp; (try with_reducible rfl))); (try simp only [Act.put, List.setIfInBounds_toArray, List.set_cons_zero, List.set_cons_succ, List.getElem_toArray, List.getElem_cons_zero, List.getElem_cons_succ]); refine wpAnyH_take (i := 5) (oi := _) (v := ?_) rfl (by kernel_rfl) (by kernel_rfl) (by kernel_rfl) (fun _ _ _ h => h) (Or.inl ⟨by rfl, ?_⟩) (by assumption) ?_; rotate_left; (focus (intro w hSw; (try dsimp only at hSw); go_simp; (try with_reducible rfl))); (try simp only [Act.put, List.setIfInBounds_toArray, List.set_cons_zero, List.set_cons_succ, List.getElem_toArray, List.getElem_cons_zero, List.getElem_cons_succ]); refine wpAnyH_take (i := 6) (oi := _) (v := ?_) rfl (by kernel_rfl) (by kernel_rfl) (by kernel_rfl) (fun _ _ _ h => h) (Or.inl ⟨by rfl, ?_⟩) (by assumption) ?_; rotate_left; (focus (intro w hSw; (try dsimp only at hSw); go_simp; (try with_reducible rfl))); (try simp only [Act.put, List.setIfInBounds_toArray, List.set_cons_zero, List.set_cons_succ, List.getElem_toArray, List.getElem_cons_zero, List.getElem_cons_succ]); refine wpAnyH_take (i := 7) (oi := _) (v := ?_) rfl (by kernel_rfl) (by kernel_rfl) (by kernel_rfl) (fun _ _ _ h => h) (Or.inl ⟨by rfl, ?_⟩) (by assumption) ?_; rotate_left; (focus (intro w hSw; (try dsimp only at hSw); go_simp; (try with_reducible rfl))); (try simp only [Act.put, List.setIfInBounds_toArray, List.set_cons_zero, List.set_cons_succ, List.getElem_toArray, List.getElem_cons_zero, List.getElem_cons_succ]); refine wpAnyH_take (i := 8) (oi := _) (v := ?_) rfl (by kernel_rfl) (by kernel_rfl) (by kernel_rfl) (fun _ _ _ h => h) (Or.inl ⟨by rfl, ?_⟩) (by assumption) ?_; rotate_left; (focus (intro w hSw; (try dsimp only at hSw); go_simp; (try with_reducible rfl))); (try simp only [Act.put, List.setIfInBounds_toArray, List.set_cons_zero, List.set_cons_succ, List.getElem_toArray, List.getElem_cons_zero, List.getElem_cons_succ]); refine wpAnyH_take (i := 9) (oi := _) (v := ?_) rfl (by kernel_rfl) (by kernel_rfl) (by kernel_rfl) (fun _ _ _ h => h) (Or.inl ⟨by rfl, ?_⟩) (by assumption) ?_; rotate_left; (focus (intro w hSw; (try dsimp only at hSw); go_simp; (try with_reducible rfl))); (try simp only [Act.put, List.setIfInBounds_toArray, List.set_cons_zero, List.set_cons_succ, List.getElem_toArray, List.getElem_cons_zero, List.getElem_cons_succ]); refine wpAnyH_ready (rs := [10]) (by kernel_rfl) (by simp) ?_; refine AllReadyH.cons (o := _) rfl (fun K hK => ?_) AllReadyH.nil; (try simp only [List.getElem_toArray, List.getElem_cons_zero, List.getElem_cons_succ]); go_simp; (go_at_call 29; refine (lspan_any _ _ _).mono ?_; rintro e wd ⟨rfl, gd⟩); (try (go_wp2_with fail)); refine hK.out _ _ ?_ (fun hHeld => ?_); (focus ((try dsimp only); refine (fun (hG : Grow w50 _) => ⟨hG, Grow.keeps hG (by assumption), Grow.keeps hG (by assumption)⟩) ?_; (try go_split_ands); first | assumption | exact Grow.trans (by assumption) (by assumption) | exact Below.trans (by assumption) (by assumption))); clear hK K; (try simp only [Act.put, List.setIfInBounds_toArray, List.set_cons_zero, List.set_cons_succ, List.getElem_toArray, List.getElem_cons_zero, List.getElem_cons_succ]); refine wpAnyH_take (i := 11) (oi := _) (v := ?_) rfl (by kernel_rfl) (by kernel_rfl) (by kernel_rfl) (fun _ _ _ h => h) (Or.inl ⟨by rfl, ?_⟩) (by assumption) ?_; rotate_left; (focus (intro w hSw; (try dsimp only at hSw); go_simp; (try with_reducible rfl))); (try simp only [Act.put, List.setIfInBounds_toArray, List.set_cons_zero, List.set_cons_succ, List.getElem_toArray, List.getElem_cons_zero, List.getElem_cons_succ]); refine wpAnyH_take (i := 12) (oi := _) (v := ?_) rfl (by kernel_rfl) (by kernel_rfl) (by kernel_rfl) (fun _ _ _ h => h) (Or.inl ⟨by rfl, ?_⟩) (by assumption) ?_; rotate_left; (focus (intro w hSw; (try dsimp only at hSw); go_simp; (try with_reducible rfl))); (try simp only [Act.put, List.setIfInBounds_toArray, List.set_cons_zero, List.set_cons_succ, List.getElem_toArray, List.getElem_cons_zero, List.getElem_cons_succ]); refine wpAnyH_take (i := 13) (oi := _) (v := ?_) rfl (by kernel_rfl) (by kernel_rfl) (by kernel_rfl) (fun _ _ _ h => h) (Or.inl ⟨by rfl, ?_⟩) (by assumption) ?_; rotate_left; (focus (intro w hSw; (try dsimp only at hSw); go_simp; (try with_reducible rfl))); (try simp only [Act.put, List.setIfInBounds_toArray, List.set_cons_zero, List.set_cons_succ, List.getElem_toArray, List.getElem_cons_zero, List.getElem_cons_succ]); refine wpAnyH_done (by kernel_rfl) ?_ _)
              go_wp2_with fail
              go_meet
              exact ⟨rfl, hHeld.1⟩
            · (refine wp_region_held_drew (S := fun Wx => Grow w50 Wx ∧ Wx.cell? ⟨BS, 0, none⟩ = some (.int .i64 lo) ∧ Wx.cell? ⟨BS, 1, none⟩ = some (.int .i64 hi)) (by kernel_rfl) ⟨(Below.refl _ _).drew, Grow.keeps (Below.refl _ _).drew (by assumption), Grow.keeps (Below.refl _ _).drew (by assumption)⟩ (fun hHeld => ?_); refine wpAnyH_take (i := 0) (oi := _) (v := ?_) rfl (by kernel_rfl) (by kernel_rfl) (by kernel_rfl) (fun _ _ _ h => h) (Or.inl ⟨by rfl, ?_⟩) (by assumption) ?_; rotate_left; (focus (intro w hSw; (try dsimp only at hSw); go_simp; (try with_reducible rfl))); (try simp only [Act.put, List.setIfInBounds_toArray, List.set_cons_zero, List.set_cons_succ, List.getElem_toArray, List.getElem_cons_zero]); refine wpAnyH_take (i := 1) (oi := _) (v := ?_) rfl (by kernel_rfl) (by kernel_rfl) (by kernel_rfl) (fun _ _ _ h => h) (Or.inl ⟨by rfl, ?_⟩) (by assumption) ?_; rotate_left; (focus (intro w hSw; (try dsimp only at hSw); go_simp; (try with_reducible rfl))); (try simp only [Act.put, List.setIfInBounds_toArray, List.set_cons_zero, List.set_cons_succ, List.getElem_toArray, List.getElem_cons_zero, List.getElem_cons_succ]); refine wpAnyH_take (i := 2) (oi := _) (v := ?_) rfl (by kernel_rfl) (by kernel_rfl) (by kernel_rfl) (fun _ _ _ h => h) (Or.inl ⟨by rfl, ?_⟩) (by assumption) ?_; rotate_left; (focus (intro w hSw; (try dsimp only at hSw); go_simp; (try with_reducible rfl))); (try simp only [Act.put, List.setIfInBounds_toArray, List.set_cons_zero, List.set_cons_succ, List.getElem_toArray, List.getElem_cons_zero, List.getElem_cons_succ]); refine wpAnyH_take (i := 3) (oi := _) (v := ?_) rfl (by kernel_rfl) (by kernel_rfl) (by kernel_rfl) (fun _ _ _ h => h) (Or.inl ⟨by rfl, ?_⟩) (by assumption) ?_; rotate_left; (focus (intro w hSw; (try dsimp only at hSw); go_simp; (try with_reducible rfl))); (try simp only [Act.put, List.setIfInBounds_toArray, List.set_cons_zero, List.set_cons_succ, List.getElem_toArray, List.getElem_cons_zero, List.getElem_cons_succ]); refine wpAnyH_take (i := 4) (oi := _) (v := ?_) rfl (by kernel_rfl) (by kernel_rfl) (by kernel_rfl) (fun _ _ _ h => h) (Or.inl ⟨by rfl, ?_⟩) (by assumption) ?_; rotate_left; (focus (intro w hSw; (try dsimp only at hSw); go_simp; (try with_reducible rfl))); (try simp only [Act.put, List.setIfInBounds_toArray, List.set_cons_zero, List.set_cons_succ, List.getElem_toArray, List.getElem_cons_zero, List.getElem_cons_succ]); refine wpAnyH_take (i := 5) (oi := _) (v := ?_) rfl (by kernel_rfl) (by kernel_rfl) (by kernel_rfl) (fun _ _ _ h => h) (Or.inl ⟨by rfl, ?_⟩) (by assumption) ?_; rotate_left; (focus (intro w hSw; (try dsimp only at hSw); go_simp; (try with_reducible rfl))); (try simp only [Act.put, List.setIfInBounds_toArray, List.set_cons_zero, List.set_cons_succ, List.getElem_toArray, List.getElem_cons_zero, List.getElem_cons_succ]); refine wpAnyH_take (i := 6) (oi := _) (v := ?_) rfl (by kernel_rfl) (by kernel_rfl) (by kernel_rfl) (fun _ _ _ h => h) (Or.inl ⟨by rfl, ?_⟩) (by assumption) ?_; rotate_left; (focus (intro w hSw; (try dsimp only at hSw); go_simp; (try with_reducible rfl))); (try simp only [Act.put, List.setIfInBounds_toArray, List.set_cons_zero, List.set_cons_succ, List.getElem_toArray, List.getElem_cons_zero, List.getElem_cons_succ]); refine wpAnyH_take (i := 7) (oi := _) (v := ?_) rfl (by kernel_rfl) (by kernel_rfl) (by kernel_rfl) (fun _ _ _ h => h) (Or.inl ⟨by rfl, ?_⟩) (by assumption) ?_; rotate_left; (focus (intro w hSw; (try dsimp only at hSw); go_simp; (try with_reducible rfl))); (try simp only [Act.put, List.setIfInBounds_toArray, List.set_cons_zero, List.set_cons_succ, List.getElem_toArray, List.getElem_cons_zero, List.getElem_cons_succ]); refine wpAnyH_take (i := 8) (oi := _) (v := ?_) rfl (by kernel_rfl) (by kernel_rfl) (by kernel_rfl) (fun _ _ _ h => h) (Or.inl ⟨by rfl, ?_⟩) (by assumption) ?_; rotate_left; (focus (intro w hSw; (try dsimp only at hSw); go_simp; (try with_reducible rfl))); (try simp only [Act.put, List.setIfInBounds_toArray, List.set_cons_zero, List.set_cons_succ, List.getElem_toArray, List.getElem_cons_zero, List.getElem_cons_succ]); refine wpAnyH_take (i := 9) (oi := _) (v := ?_) rfl (by kernel_rfl) (by kernel_rfl) (by kernel_rfl) (fun _ _ _ h => h) (Or.inl ⟨by rfl, ?_⟩) (by assumption) ?_; rotate_left; (focus (intro w hSw; (try dsimp only at hSw); go_simp; (try with_reducible rfl))); (try simp only [Act.put, List.setIfInBounds_toArray, List.set_cons_zero, List.set_cons_succ, List.getElem_toArray, List.getElem_cons_zero, List.getElem_cons_succ]); refine wpAnyH_ready (rs := [10]) (by kernel_rfl) (by simp) ?_; refine AllReadyH.cons (o := _) rfl (fun K hK => ?_) AllReadyH.nil; (try simp only [List.getElem_toArray, List.getElem_cons_zero, List.getElem_cons_succ]); go_simp; (go_at_call 29; refine (lspan_any _ _ _).mono ?_; rintro e wd ⟨rfl, gd⟩); (try (go_wp2_with fail)); refine hK.out _ _ ?_ (fun hHeld => ?_); (focus ((try dsimp only); refine (fun (hG : Grow w50 _) => ⟨hG, Grow.keeps hG (by assumption), Grow.keeps hG (by assumption)⟩) ?_; (try go_split_ands); first | assumption | exact Grow.trans (by assumption) (by assumption) | exact Below.trans (by assumption) (by assumption))); clear hK K; (try simp only [Act.put, List.setIfInBounds_toArray, List.set_cons_zero, List.set_cons_succ, List.getElem_toArray, List.getElem_cons_zero, List.getElem_cons_succ]); refine wpAnyH_take (i := 11) (oi := _) (v := ?_) rfl (by kernel_rfl) (by kernel_rfl) (by kernel_rfl) (fun _ _ _ h => h) (Or.inl ⟨by rfl, ?_⟩) (by assumption) ?_; rotate_left; (focus (intro w hSw; (try dsimp only at hSw); go_simp; (try with_reducible rfl))); (try simp only [Act.put, List.setIfInBounds_toArray, List.set_cons_zero, List.set_cons_succ, List.getElem_toArray, List.getElem_cons_zero, List.getElem_cons_succ]); refine wpAnyH_take (i := 12) (oi := _) (v := ?_) rfl (by kernel_rfl) (by kernel_rfl) (by kernel_rfl) (fun _ _ _ h => h) (Or.inl ⟨by rfl, ?_⟩) (by assumption) ?_; rotate_left; (focus (intro w hSw; (try dsimp only at hSw); go_simp; (try with_reducible rfl))); (try simp only [Act.put, List.setIfInBounds_toArray, List.set_cons_zero, List.set_cons_succ, List.getElem_toArray, List.getElem_cons_zero, List.getElem_cons_succ]); refine wpAnyH_take (i := 13) (oi := _) (v := ?_) rfl (by kernel_rfl) (by kernel_rfl) (by kernel_rfl) (fun _ _ _ h => h) (Or.inl ⟨by rfl, ?_⟩) (by assumption) ?_; rotate_left; (focus (intro w hSw; (try dsimp only at hSw); go_simp; (try with_reducible rfl))); (try simp only [Act.put, List.setIfInBounds_toArray, List.set_cons_zero, List.set_cons_succ, List.getElem_toArray, List.getElem_cons_zero, List.getElem_cons_succ]); refine wpAnyH_done (by kernel_rfl) ?_ _)
              go_wp2_with fail
              go_meet
              exact ⟨rfl, hHeld.1⟩
          case rest =>
            obtain ⟨rfl, hG12⟩ := hcut
            clear hsb E1 E2
            (try clear dl)
            (try clear lp)
            (try clear lq)
            (try clear ln)
            (try clear lsp)
            replace d0 := hG12.keeps d0
            replace d1 := hG12.keeps d1
            replace k0 := hG12.keeps k0
            replace q0 := hG12.keeps q0
            replace n0_ := hG12.keeps n0_
            replace s0_ := hG12.keeps s0_
            replace s1_ := hG12.keeps s1_
            replace gw := gw.trans hG12
            have dl := lt_of_cell d0
            have lp := lt_of_cell k0
            have lq := lt_of_cell q0
            have ln := lt_of_cell n0_
            have lsp := lt_of_cell s0_
            clear hG12
            have K1 : decide ((k : Int) < 0) = false := decide_eq_false (by omega)
            have K2 : decide ((12 : Int) ≤ (k : Int)) = false := decide_eq_false (by omega)
            have L2 : decide (12 ≤ k) = false := decide_eq_false (by omega)
            go_wp2_with fail
            obtain ⟨w51, hW⟩ : ∃ z, wc.alloc (.cells #[.slice za1 bs.length zc1, .slice za2 cs.length zc2] 56) = z := ⟨_, rfl⟩
            obtain ⟨BL, hB⟩ : ∃ z, wc.heap.size = z := ⟨_, rfl⟩
            have g51 : Grow wc w51 := by rw [← hW]; exact (Grow.refl _).alloc _
            have b0 : w51.cell? ⟨BL, 0, none⟩ = some (.slice za1 bs.length zc1) := by rw [← hW]; exact cell_new hB.symm rfl
            have b1 : w51.cell? ⟨BL, 1, none⟩ = some (.slice za2 cs.length zc2) := by rw [← hW]; exact cell_new hB.symm rfl
            rw [hW, hB]
            clear hW hB
            (try clear dl)
            (try clear lp)
            (try clear lq)
            (try clear ln)
            (try clear lsp)
            replace d0 := g51.keeps d0
            replace d1 := g51.keeps d1
            replace k0 := g51.keeps k0
            replace q0 := g51.keeps q0
            replace n0_ := g51.keeps n0_
            replace s0_ := g51.keeps s0_
            replace s1_ := g51.keeps s1_
            replace gw := gw.trans g51
            have dl := lt_of_cell d0
            have lp := lt_of_cell k0
            have lq := lt_of_cell q0
            have ln := lt_of_cell n0_
            have lsp := lt_of_cell s0_
            (try clear g51)
            clear K1 K2 L2 PS PT PL
            have Hcons := Lib.hid hcons
            clear hcons
            have gL : Grow w w51 := gw
            obtain ⟨i0, hi0, hi1, hi2, hi3⟩ := info_parts pinfo_int
            obtain ⟨j0, hj0, hj1, hj2, hj3⟩ := info_parts info_ints
            go_loopw [20, 155] (fun rv i wr => ∃ (m : Nat) (rr : Value) (vs : List Value) (ls : List (List Int)), rr = rv ∧ m ≤ 2 ∧ i = .int .i64 m ∧ ls.length = m ∧ Own wr w51.heap.size 25 rr vs ∧ Rows2 wr rr vs ls ∧ (∀ l ∈ ls, l ∈ (truthsR P.toNat ss).1) ∧ Grow w51 wr) (fun _ i _ => 2 - (intOf i).toNat)
            case atStart => exact ⟨0, _, [], [], rfl, by omega, rfl, rfl, Own.nil _ _ _, Rows2.nil _ _, by simp, Grow.refl _⟩
            case round =>
              obtain ⟨m, rr, vs, ls, rfl, hm, rfl, hls, hown, hrows, hmem, hg⟩ := hrel
              by_cases hlt : m < 2
              · skip
                have hz : ∃ (zb : Option Addr) (zs : List Int) (zc : Nat), wr.cell? ⟨BL, m, none⟩ = some (.slice zb zs.length zc) ∧ zs.length ≤ 9223372036854775807 ∧ RowAt w zb (zs.map (Value.int .u8)) ∧ ∀ x ∈ zs, (Lit.int .u8 x).wf = true := by
                  obtain rfl | rfl : m = 0 ∨ m = 1 := by omega
                  · exact ⟨za1, bs, zc1, hg.keeps b0, hbl, Hz1.out, Hw1.out⟩
                  · exact ⟨za2, cs, zc2, hg.keeps b1, hcl, Hz2.out, Hw2.out⟩
                obtain ⟨zb, zs, zc, hcz, hzl, hzr, hzw⟩ := hz
                have Hzr := Lib.hid hzr
                have Hzw := Lib.hid hzw
                have Hls := Lib.hid hls
                have Hmem := Lib.hid hmem
                have Hrows := Lib.hid hrows
                have Hown := Lib.hid hown
                clear hzr hzw hls hmem hrows hown
                have gR := gL.trans hg
                have dR := hg.keeps d0
                have dR1 := hg.keeps d1
                have hE : decide ((m : Int) < 2) = true := decide_eq_true (by omega)
                go_wp2_with fail
                (try rw [hE])
                clear hE
                obtain ⟨wO, hwO⟩ : ∃ z, z = wr := ⟨_, rfl⟩
                subst hwO
                go_loopw [23, 161] (fun u i wo => ∃ (k2 : Nat) (u2 : Value), u2 = u ∧ k2 ≤ zs.length ∧ i = .int .i64 k2 ∧ Own wo wO.heap.size 3 u2 ((ownTo P zs k2).map (Value.int .i64)) ∧ Grow wO wo) (fun _ i _ => zs.length - (intOf i).toNat)
                case atStart => exact ⟨0, _, rfl, Nat.zero_le _, rfl, Own.nil _ _ _, Grow.refl _⟩
                case round =>
                  obtain ⟨k2, u2, rfl, hk2, rfl, hown, hgo⟩ := hrel
                  have o0 := hgo.keeps dR
                  have o1 := hgo.keeps dR1
                  by_cases hlt2 : k2 < zs.length
                  · skip
                    obtain ⟨bb, bo, x, hx, rfl, hcx⟩ := Hzr.out.kind hlt2
                    have hcx := hgo.keeps (gR.keeps hcx)
                    have hxr := wf_u8 (Hzw.out x (List.mem_of_getElem? hx))
                    have hlen2 := ownTo_len P zs k2
                    have HX := Lib.hid hx
                    have hwx : wrap64 x = x := IntWalk.wrap64_in _ (by omega)
                    have hrn : 0 ≤ x.tmod P := Int.tmod_nonneg _ hxr.1
                    have hrl : x.tmod P < P := Int.tmod_lt_of_pos _ (by omega)
                    have hP0 : ¬ P = 0 := by omega
                    clear hx dR dR1 hcz hlt d0 d1 k0 q0 n0_ s0_ s1_ b0 b1 dl lp lq ln lsp hmf hj0 hj1 hj2 hj3
                    by_cases h12 : k2 < 12
                    · have HO := Lib.hid (ownTo_succ (P := P) HX.out h12)
                      obtain ⟨y, hy⟩ : ∃ y, x.tmod P = y := ⟨_, rfl⟩
                      have hwy : wrap64 y = y := IntWalk.wrap64_in _ (by omega)
                      have hbytes : (((ownTo P zs k2).map (Value.int .i64)).length + [Value.int .i64 y].length) * 8 ≤ 140737488355328 := by simp; omega
                      have hu : Try.prog.underlying 25 = some (.slice 3) := by kernel_rfl
                      rw [hy] at HO hrn hrl
                      go_wp2_with (at_builtin; refine wpl_app rfl _ _ 25 rfl wO.heap.size 3 i0 _ 8 hu hi0 hi1 hi2 hi3 rfl u2 ((ownTo P zs k2).map (Value.int .i64)) rfl (hown.alloc _) _ _ [.int .i64 y] 1 rfl rfl (fun h => nomatch h) (row_new1 _ _ _ (by simp)) (by simp [Value.oneCell']) hbytes (by omega) (by first | exact hgo.size | exact (hgo.alloc _).size) ?_; intro v' wz hown1 hgr1 hmv1)
                      have hgz : Grow wO wz := Below.trans hgo (Below.trans (((Grow.refl _).alloc _).mono hgo.size) (grownBy_below hgr1 (fun k h => hown.base k h) (by first | exact hgo.size | exact (hgo.alloc _).size)))
                      exact ⟨⟨k2 + 1, v', rfl, by omega, by go_num, by rw [HO.out, List.map_append]; exact hown1, hgz⟩, by simp [intOf]; omega⟩
                    · have HO := Lib.hid (ownTo_same (P := P) (bs := zs) (k := k2) (by omega))
                      go_wp2_with fail
                      exact ⟨⟨k2 + 1, _, rfl, by omega, by go_num, by rw [HO.out]; exact hown, hgo⟩, by simp [intOf]; omega⟩
                  · skip
                    obtain ⟨ow, how⟩ : ∃ ow, ownTo P zs k2 = ow := ⟨_, rfl⟩
                    have hor : raceB P ow = true := by rw [← how]; exact ownTo_race (by omega) (fun x hx => (wf_u8 (Hzw.out x hx)).1) _
                    have hol := ownTo_len P zs k2
                    rw [how] at hol hown
                    have gO := gR.trans hgo
                    have HI := Lib.hid (hown.ints (by omega))
                    have hap : ow = [] ∨ u2.ownBlock ≠ rr.ownBlock := by
                      by_cases he : ow = []
                      · exact .inl he
                      · exact .inr (Own.apart Hown.out (Nat.le_refl _) hown (by simpa using he))
                    have Hap := Lib.hid hap
                    obtain ⟨ua, uc, hua, _, _, _⟩ := hown.row
                    rw [List.length_map] at hua
                    subst hua
                    clear how hown hap
                    have hbE := isE_race Hval.out hor
                    obtain ⟨ib, hb⟩ : ∃ ib, isR P ss ow = ib := ⟨_, rfl⟩
                    have Hor := Lib.hid hor
                    have HbE := Lib.hid hbE
                    have Hb := Lib.hid hb
                    clear hor hbE hb
                    go_wp2_with fail
                    refine (pIs_any P _ _ ss ow _ hP1 hP2 (Hv.out.grow gO) HI.out).mono ?_
                    rw [HbE.out, Hb.out]
                    rintro e w8 ⟨rfl, g8⟩
                    have o0 := g8.keeps o0
                    have o1 := g8.keeps o1
                    have gg := hgo.trans g8
                    have g8' := gO.trans g8
                    have HI := Lib.hid (HI.out.grow g8)
                    have Hown := Lib.hid (Hown.out.grow gg)
                    have Hrows := Lib.hid (Hrows.out.grow gg)
                    clear gO hgo g8
                    cases ib
                    · skip
                      have lo0 := lt_of_cell o0
                      go_wp2_with fail
                      have QF := pFirst_own P _ ss _ (Hv.out.grow g8')
                      rw [errOf_ok Hval.out rfl hT] at QF
                      refine QF.mono ?_
                      rintro e w9 ⟨v9, rfl, g9, o9⟩
                      have hfm := first_mem hT
                      obtain ⟨fl, hfl⟩ : ∃ fl, (truthsR P.toNat ss).1.headD [] = fl := ⟨_, rfl⟩
                      rw [show (truthsE P ss 0).1.headD [] = fl from hfl] at o9
                      rw [hfl] at hfm
                      have hf12 := truths_12 Hval.out fl hfm
                      have hI9 := o9.ints (by omega)
                      have hap : fl = [] ∨ v9.ownBlock ≠ rr.ownBlock := by
                        by_cases he : fl = []
                        · exact .inl he
                        · exact .inr (Own.apart Hown.out (Nat.le_refl _) o9 (by simpa using he))
                      obtain ⟨fa, fc, hfa, _, _, _⟩ := o9.row
                      rw [List.length_map] at hfa
                      subst hfa
                      have Hfm := Lib.hid hfm
                      have hR := Hown.out.grow g9
                      have hRR := Hrows.out.grow g9
                      have hgT := hg.trans (gg.trans g9)
                      have Hap2 := Lib.hid hap
                      have HI9 := Lib.hid hI9
                      clear QF hfl o9 hfm hap hI9
                      have hbytes : (vs.length + [Value.slice fa fl.length fc].length) * 24 ≤ 140737488355328 := by have := hRR.1; have := Hls.out; simp; omega
                      have hu : Try.prog.underlying 22 = some (.slice 25) := by kernel_rfl
                      go_wp2_with (at_builtin; refine wpl_app rfl _ _ 22 rfl w51.heap.size 25 j0 _ 24 hu hj0 hj1 hj2 hj3 rfl rr vs rfl (hR.alloc _) _ _ [.slice fa fl.length fc] 1 rfl rfl (fun h => nomatch h) (row_new1 _ _ _ (by simp)) (by simp [Value.oneCell']) hbytes (by omega) (by first | exact hgT.size | exact (hgT.alloc _).size) ?_; intro v' wz hown1 hgr1 hmv1)
                      have hls1 : (ls ++ [fl]).length = m + 1 := by rw [List.length_append, Hls.out]; rfl
                      refine ⟨⟨m + 1, v', _, _, rfl, by omega, by go_num, hls1, hown1, rows_push hRR HI9.out Hap2.out (((Grow.refl _).alloc _).andBy hgr1) (hmv1.lower (by simp)), ?_, ?_⟩, by simp [intOf]; omega⟩
                      · intro z hz
                        rcases List.mem_append.1 hz with hz | hz
                        · exact Hmem.out z hz
                        · rw [List.mem_singleton.1 hz]; exact Hfm.out
                      · exact Below.trans hgT (Below.trans (((Grow.refl _).alloc _).mono hgT.size) (grownBy_below hgr1 (fun k h => hR.base k h) (by first | exact hgT.size | exact (hgT.alloc _).size)))
                    · skip
                      have Hfm := Lib.hid ((isR_mem Hval.out Hor.out).1 Hb.out)
                      have hR := Hown.out
                      have hRR := Hrows.out
                      have hgT := hg.trans gg
                      have hbytes : (vs.length + [Value.slice ua ow.length uc].length) * 24 ≤ 140737488355328 := by have := hRR.1; have := Hls.out; simp; omega
                      have hu : Try.prog.underlying 22 = some (.slice 25) := by kernel_rfl
                      go_wp2_with (at_builtin; refine wpl_app rfl _ _ 22 rfl w51.heap.size 25 j0 _ 24 hu hj0 hj1 hj2 hj3 rfl rr vs rfl (hR.alloc _) _ _ [.slice ua ow.length uc] 1 rfl rfl (fun h => nomatch h) (row_new1 _ _ _ (by simp)) (by simp [Value.oneCell']) hbytes (by omega) (by first | exact hgT.size | exact (hgT.alloc _).size) ?_; intro v' wz hown1 hgr1 hmv1)
                      have hls1 : (ls ++ [ow]).length = m + 1 := by rw [List.length_append, Hls.out]; rfl
                      refine ⟨⟨m + 1, v', _, _, rfl, by omega, by go_num, hls1, hown1, rows_push hRR HI.out Hap.out (((Grow.refl _).alloc _).andBy hgr1) (hmv1.lower (by simp)), ?_, ?_⟩, by simp [intOf]; omega⟩
                      · intro z hz
                        rcases List.mem_append.1 hz with hz | hz
                        · exact Hmem.out z hz
                        · rw [List.mem_singleton.1 hz]; exact Hfm.out
                      · exact Below.trans hgT (Below.trans (((Grow.refl _).alloc _).mono hgT.size) (grownBy_below hgr1 (fun k h => hR.base k h) (by first | exact hgT.size | exact (hgT.alloc _).size)))
              · skip
                obtain rfl : m = 2 := by omega
                obtain ⟨g, rc, l0, l1, a0, a1, c0, c1, rfl, rfl, hc0, hc1, hI0, hI1⟩ := rows_two hown hrows hls
                have RC := Hcons.out l0 (hmem l0 (by simp)) l1 (hmem l1 (by simp))
                have I0 := Lib.hid hI0
                have I1 := Lib.hid hI1
                have cp := Lib.hid (hg.keeps k0)
                have cq := Lib.hid (hg.keeps q0)
                have cn := Lib.hid (hg.keeps n0_)
                have RA : Hid (∀ V (x : Value) (z : Int), Grow wr V → ((x = .slice a0 l0.length c0 ∧ z = atOf k l0) ∨ (x = .slice a1 l1.length c1 ∧ z = atOf k l1)) → Calls Try.prog 37 #[x, .pointer (some ⟨BN, 0, none⟩)] V fun e w' => e = .returned (.int .i64 z) ∧ Grow V w') := by
                  rintro V x z hV (⟨rfl, rfl⟩ | ⟨rfl, rfl⟩)
                  · exact lsetAt _ l0 k BN V (I0.out.grow hV) (hV.keeps cn.out)
                  · exact lsetAt _ l1 k BN V (I1.out.grow hV) (hV.keeps cn.out)
                have RS : Hid (∀ V (x : Value) (z : Int), Grow wr V → ((x = .slice a0 l0.length c0 ∧ z = signL p q l0) ∨ (x = .slice a1 l1.length c1 ∧ z = signL p q l1)) → Calls Try.prog 38 #[x, .pointer (some ⟨BP, 0, none⟩), .pointer (some ⟨BQ, 0, none⟩)] V fun e w' => e = .returned (.int .i64 z) ∧ Grow V w') := by
                  rintro V x z hV (⟨rfl, rfl⟩ | ⟨rfl, rfl⟩)
                  · exact lsetSign _ l0 p q BP BQ V (I0.out.grow hV) (hV.keeps cp.out) (hV.keeps cq.out)
                  · exact lsetSign _ l1 p q BP BQ V (I1.out.grow hV) (hV.keeps cp.out) (hV.keeps cq.out)
                obtain ⟨x0, hx0⟩ : ∃ z, atOf k l0 = z := ⟨_, rfl⟩
                obtain ⟨x1, hx1⟩ : ∃ z, atOf k l1 = z := ⟨_, rfl⟩
                obtain ⟨y0, hy0⟩ : ∃ z, signL p q l0 = z := ⟨_, rfl⟩
                obtain ⟨y1, hy1⟩ : ∃ z, signL p q l1 = z := ⟨_, rfl⟩
                rw [hx0, hx1] at RA RC
                rw [hy0, hy1] at RS RC
                have RC2 := Lib.hid RC
                have gZ := gL.trans hg
                clear hx0 hx1 hy0 hy1 RC hI0 hI1 hown hrows hmem hls cp cq cn hm hlt I0 I1
                go_wp2_with fail
                by_cases hx : x0 = x1
                · subst hx
                  obtain rfl := RC2.out rfl
                  clear RC2
                  (refine wp_region_held_drew (S := fun Wx => Grow wr Wx ∧ Wx.cell? ⟨g, 0, none⟩ = some (.slice a0 l0.length c0) ∧ Wx.cell? ⟨g, 1, none⟩ = some (.slice a1 l1.length c1)) (by kernel_rfl) ⟨(Below.refl _ _).drew, Grow.keeps (Below.refl _ _).drew (by assumption), Grow.keeps (Below.refl _ _).drew (by assumption)⟩ (fun hHeld => ?_); refine wpAnyH_take (i := 0) (oi := _) (v := ?_) rfl (by kernel_rfl) (by kernel_rfl) (by kernel_rfl) (fun _ _ _ h => h) (Or.inl ⟨by rfl, ?_⟩) (by assumption) ?_; rotate_left; (focus (intro w hSw; (try dsimp only at hSw); go_simp; (try with_reducible rfl))); (try simp only [Act.put, List.setIfInBounds_toArray, List.set_cons_zero, List.set_cons_succ, List.getElem_toArray, List.getElem_cons_zero]); refine wpAnyH_take (i := 1) (oi := _) (v := ?_) rfl (by kernel_rfl) (by kernel_rfl) (by kernel_rfl) (fun _ _ _ h => h) (Or.inl ⟨by rfl, ?_⟩) (by assumption) ?_; rotate_left; (focus (intro w hSw; (try dsimp only at hSw); go_simp; (try with_reducible rfl))); (try simp only [Act.put, List.setIfInBounds_toArray, List.set_cons_zero, List.set_cons_succ, List.getElem_toArray, List.getElem_cons_zero, List.getElem_cons_succ]); refine wpAnyH_take (i := 2) (oi := _) (v := ?_) rfl (by kernel_rfl) (by kernel_rfl) (by kernel_rfl) (fun _ _ _ h => h) (Or.inl ⟨by rfl, ?_⟩) (by assumption) ?_; rotate_left; (focus (intro w hSw; (try dsimp only at hSw); go_simp; (try with_reducible rfl))); (try simp only [Act.put, List.setIfInBounds_toArray, List.set_cons_zero, List.set_cons_succ, List.getElem_toArray, List.getElem_cons_zero, List.getElem_cons_succ]); refine wpAnyH_take (i := 3) (oi := _) (v := ?_) rfl (by kernel_rfl) (by kernel_rfl) (by kernel_rfl) (fun _ _ _ h => h) (Or.inl ⟨by rfl, ?_⟩) (by assumption) ?_; rotate_left; (focus (intro w hSw; (try dsimp only at hSw); go_simp; (try with_reducible rfl))); (try simp only [Act.put, List.setIfInBounds_toArray, List.set_cons_zero, List.set_cons_succ, List.getElem_toArray, List.getElem_cons_zero, List.getElem_cons_succ]); refine wpAnyH_take (i := 5) (oi := _) (v := ?_) rfl (by kernel_rfl) (by kernel_rfl) (by kernel_rfl) (fun _ _ _ h => h) (Or.inl ⟨by rfl, ?_⟩) (by assumption) ?_; rotate_left; (focus (intro w hSw; (try dsimp only at hSw); go_simp; (try with_reducible rfl))); (try simp only [Act.put, List.setIfInBounds_toArray, List.set_cons_zero, List.set_cons_succ, List.getElem_toArray, List.getElem_cons_zero, List.getElem_cons_succ]); refine wpAnyH_take (i := 6) (oi := _) (v := ?_) rfl (by kernel_rfl) (by kernel_rfl) (by kernel_rfl) (fun _ _ _ h => h) (Or.inl ⟨by rfl, ?_⟩) (by assumption) ?_; rotate_left; (focus (intro w hSw; (try dsimp only at hSw); go_simp; (try with_reducible rfl))); (try simp only [Act.put, List.setIfInBounds_toArray, List.set_cons_zero, List.set_cons_succ, List.getElem_toArray, List.getElem_cons_zero, List.getElem_cons_succ]); refine wpAnyH_take (i := 7) (oi := _) (v := ?_) rfl (by kernel_rfl) (by kernel_rfl) (by kernel_rfl) (fun _ _ _ h => h) (Or.inl ⟨by rfl, ?_⟩) (by assumption) ?_; rotate_left; (focus (intro w hSw; (try dsimp only at hSw); go_simp; (try with_reducible rfl))); (try simp only [Act.put, List.setIfInBounds_toArray, List.set_cons_zero, List.set_cons_succ, List.getElem_toArray, List.getElem_cons_zero, List.getElem_cons_succ]); refine wpAnyH_take (i := 8) (oi := _) (v := ?_) rfl (by kernel_rfl) (by kernel_rfl) (by kernel_rfl) (fun _ _ _ h => h) (Or.inl ⟨by rfl, ?_⟩) (by assumption) ?_; rotate_left; (focus (intro w hSw; (try dsimp only at hSw); go_simp; (try with_reducible rfl))); (try simp only [Act.put, List.setIfInBounds_toArray, List.set_cons_zero, List.set_cons_succ, List.getElem_toArray, List.getElem_cons_zero, List.getElem_cons_succ]); refine wpAnyH_ready (rs := [4]) (by kernel_rfl) (by simp) ?_; refine AllReadyH.cons (o := _) rfl (fun K hK => ?_) AllReadyH.nil; (try simp only [List.getElem_toArray, List.getElem_cons_zero, List.getElem_cons_succ]); go_simp; (first | (go_at_call 37; refine (RA.out _ _ _ (by first | assumption | (go_split_ands; assumption) | exact (Grow.refl _).drew) (by first | exact .inl ⟨rfl, rfl⟩ | exact .inr ⟨rfl, rfl⟩)).mono ?_; rintro e w9 ⟨rfl, g9⟩) | (go_at_call 38; refine (RS.out _ _ _ (by first | assumption | (go_split_ands; assumption) | exact (Grow.refl _).drew) (by first | exact .inl ⟨rfl, rfl⟩ | exact .inr ⟨rfl, rfl⟩)).mono ?_; rintro e w9 ⟨rfl, g9⟩) | (go_at_call 12; refine (lalive_any _).mono ?_; rintro e w9 ⟨rfl, g9⟩)); (try (go_wp2_with fail)); refine hK.out _ _ ?_ (fun hHeld => ?_); (focus ((try dsimp only); refine (fun (hG : Grow wr _) => ⟨hG, Grow.keeps hG (by assumption), Grow.keeps hG (by assumption)⟩) ?_; (try go_split_ands); first | assumption | exact Grow.trans (by assumption) (by assumption) | exact Below.trans (by assumption) (by assumption))); clear hK K; (try simp only [Act.put, List.setIfInBounds_toArray, List.set_cons_zero, List.set_cons_succ, List.getElem_toArray, List.getElem_cons_zero, List.getElem_cons_succ]); refine wpAnyH_ready (rs := [9]) (by kernel_rfl) (by simp) ?_; refine AllReadyH.cons (o := _) rfl (fun K hK => ?_) AllReadyH.nil; (try simp only [List.getElem_toArray, List.getElem_cons_zero, List.getElem_cons_succ]); go_simp; (first | (go_at_call 37; refine (RA.out _ _ _ (by first | assumption | (go_split_ands; assumption) | exact (Grow.refl _).drew) (by first | exact .inl ⟨rfl, rfl⟩ | exact .inr ⟨rfl, rfl⟩)).mono ?_; rintro e w9 ⟨rfl, g9⟩) | (go_at_call 38; refine (RS.out _ _ _ (by first | assumption | (go_split_ands; assumption) | exact (Grow.refl _).drew) (by first | exact .inl ⟨rfl, rfl⟩ | exact .inr ⟨rfl, rfl⟩)).mono ?_; rintro e w9 ⟨rfl, g9⟩) | (go_at_call 12; refine (lalive_any _).mono ?_; rintro e w9 ⟨rfl, g9⟩)); (try (go_wp2_with fail)); refine hK.out _ _ ?_ (fun hHeld => ?_); (focus ((try dsimp only); refine (fun (hG : Grow wr _) => ⟨hG, Grow.keeps hG (by assumption), Grow.keeps hG (by assumption)⟩) ?_; (try go_split_ands); first | assumption | exact Grow.trans (by assumption) (by assumption) | exact Below.trans (by assumption) (by assumption))); clear hK K; (try simp only [Act.put, List.setIfInBounds_toArray, List.set_cons_zero, List.set_cons_succ, List.getElem_toArray, List.getElem_cons_zero, List.getElem_cons_succ]); refine wpAnyH_take (i := 10) (oi := _) (v := ?_) rfl (by kernel_rfl) (by kernel_rfl) (by kernel_rfl) (fun _ _ _ h => h) (Or.inl ⟨by rfl, ?_⟩) (by assumption) ?_; rotate_left; (focus (intro w hSw; (try dsimp only at hSw); go_simp; (try with_reducible rfl))); (try simp only [Act.put, List.setIfInBounds_toArray, List.set_cons_zero, List.set_cons_succ, List.getElem_toArray, List.getElem_cons_zero, List.getElem_cons_succ]); refine wpAnyH_take (i := 11) (oi := _) (v := ?_) rfl (by kernel_rfl) (by kernel_rfl) (by kernel_rfl) (fun _ _ _ h => h) (Or.inl ⟨by rfl, ?_⟩) (by assumption) ?_; rotate_left; (focus (intro w hSw; (try dsimp only at hSw); go_simp; (try with_reducible rfl))); (try simp only [Act.put, List.setIfInBounds_toArray, List.set_cons_zero, List.set_cons_succ, List.getElem_toArray, List.getElem_cons_zero, List.getElem_cons_succ]); refine wpAnyH_take (i := 12) (oi := _) (v := ?_) rfl (by kernel_rfl) (by kernel_rfl) (by kernel_rfl) (fun _ _ _ h => h) (Or.inl ⟨by rfl, ?_⟩) (by assumption) ?_; rotate_left; (focus (intro w hSw; (try dsimp only at hSw); go_simp; (try with_reducible rfl))); (try simp only [Act.put, List.setIfInBounds_toArray, List.set_cons_zero, List.set_cons_succ, List.getElem_toArray, List.getElem_cons_zero, List.getElem_cons_succ]); refine wpAnyH_take (i := 13) (oi := _) (v := ?_) rfl (by kernel_rfl) (by kernel_rfl) (by kernel_rfl) (fun _ _ _ h => h) (Or.inl ⟨by rfl, ?_⟩) (by assumption) ?_; rotate_left; (focus (intro w hSw; (try dsimp only at hSw); go_simp; (try with_reducible rfl))); (try simp only [Act.put, List.setIfInBounds_toArray, List.set_cons_zero, List.set_cons_succ, List.getElem_toArray, List.getElem_cons_zero, List.getElem_cons_succ]); refine wpAnyH_take (i := 14) (oi := _) (v := ?_) rfl (by kernel_rfl) (by kernel_rfl) (by kernel_rfl) (fun _ _ _ h => h) (Or.inl ⟨by rfl, ?_⟩) (by assumption) ?_; rotate_left; (focus (intro w hSw; (try dsimp only at hSw); go_simp; (try with_reducible rfl))); (try simp only [Act.put, List.setIfInBounds_toArray, List.set_cons_zero, List.set_cons_succ, List.getElem_toArray, List.getElem_cons_zero, List.getElem_cons_succ]); refine wpAnyH_take (i := 15) (oi := _) (v := ?_) rfl (by kernel_rfl) (by kernel_rfl) (by kernel_rfl) (fun _ _ _ h => h) (Or.inl ⟨by rfl, ?_⟩) (by assumption) ?_; rotate_left; (focus (intro w hSw; (try dsimp only at hSw); go_simp; (try with_reducible rfl))); (try simp only [Act.put, List.setIfInBounds_toArray, List.set_cons_zero, List.set_cons_succ, List.getElem_toArray, List.getElem_cons_zero, List.getElem_cons_succ]); refine wpAnyH_take (i := 17) (oi := _) (v := ?_) rfl (by kernel_rfl) (by kernel_rfl) (by kernel_rfl) (fun _ _ _ h => h) (Or.inl ⟨by rfl, ?_⟩) (by assumption) ?_; rotate_left; (focus (intro w hSw; (try dsimp only at hSw); go_simp; (try with_reducible rfl))); (try simp only [Act.put, List.setIfInBounds_toArray, List.set_cons_zero, List.set_cons_succ, List.getElem_toArray, List.getElem_cons_zero, List.getElem_cons_succ]); refine wpAnyH_take (i := 18) (oi := _) (v := ?_) rfl (by kernel_rfl) (by kernel_rfl) (by kernel_rfl) (fun _ _ _ h => h) (Or.inl ⟨by rfl, ?_⟩) (by assumption) ?_; rotate_left; (focus (intro w hSw; (try dsimp only at hSw); go_simp; (try with_reducible rfl))); (try simp only [Act.put, List.setIfInBounds_toArray, List.set_cons_zero, List.set_cons_succ, List.getElem_toArray, List.getElem_cons_zero, List.getElem_cons_succ]); refine wpAnyH_take (i := 19) (oi := _) (v := ?_) rfl (by kernel_rfl) (by kernel_rfl) (by kernel_rfl) (fun _ _ _ h => h) (Or.inl ⟨by rfl, ?_⟩) (by assumption) ?_; rotate_left; (focus (intro w hSw; (try dsimp only at hSw); go_simp; (try with_reducible rfl))); (try simp only [Act.put, List.setIfInBounds_toArray, List.set_cons_zero, List.set_cons_succ, List.getElem_toArray, List.getElem_cons_zero, List.getElem_cons_succ]); refine wpAnyH_take (i := 20) (oi := _) (v := ?_) rfl (by kernel_rfl) (by kernel_rfl) (by kernel_rfl) (fun _ _ _ h => h) (Or.inl ⟨by rfl, ?_⟩) (by assumption) ?_; rotate_left; (focus (intro w hSw; (try dsimp only at hSw); go_simp; (try with_reducible rfl))); (try simp only [Act.put, List.setIfInBounds_toArray, List.set_cons_zero, List.set_cons_succ, List.getElem_toArray, List.getElem_cons_zero, List.getElem_cons_succ]); refine wpAnyH_ready (rs := [16]) (by kernel_rfl) (by simp) ?_; refine AllReadyH.cons (o := _) rfl (fun K hK => ?_) AllReadyH.nil; (try simp only [List.getElem_toArray, List.getElem_cons_zero, List.getElem_cons_succ]); go_simp; (first | (go_at_call 37; refine (RA.out _ _ _ (by first | assumption | (go_split_ands; assumption) | exact (Grow.refl _).drew) (by first | exact .inl ⟨rfl, rfl⟩ | exact .inr ⟨rfl, rfl⟩)).mono ?_; rintro e w9 ⟨rfl, g9⟩) | (go_at_call 38; refine (RS.out _ _ _ (by first | assumption | (go_split_ands; assumption) | exact (Grow.refl _).drew) (by first | exact .inl ⟨rfl, rfl⟩ | exact .inr ⟨rfl, rfl⟩)).mono ?_; rintro e w9 ⟨rfl, g9⟩) | (go_at_call 12; refine (lalive_any _).mono ?_; rintro e w9 ⟨rfl, g9⟩)); (try (go_wp2_with fail)); refine hK.out _ _ ?_ (fun hHeld => ?_); (focus ((try dsimp only); refine (fun (hG : Grow wr _) => ⟨hG, Grow.keeps hG (by assumption), Grow.keeps hG (by assumption)⟩) ?_; (try go_split_ands); first | assumption | exact Grow.trans (by assumption) (by assumption) | exact Below.trans (by assumption) (by assumption))); clear hK K; (try simp only [Act.put, List.setIfInBounds_toArray, List.set_cons_zero, List.set_cons_succ, List.getElem_toArray, List.getElem_cons_zero, List.getElem_cons_succ]); refine wpAnyH_ready (rs := [21]) (by kernel_rfl) (by simp) ?_; refine AllReadyH.cons (o := _) rfl (fun K hK => ?_) AllReadyH.nil; (try simp only [List.getElem_toArray, List.getElem_cons_zero, List.getElem_cons_succ]); go_simp; (first | (go_at_call 37; refine (RA.out _ _ _ (by first | assumption | (go_split_ands; assumption) | exact (Grow.refl _).drew) (by first | exact .inl ⟨rfl, rfl⟩ | exact .inr ⟨rfl, rfl⟩)).mono ?_; rintro e w9 ⟨rfl, g9⟩) | (go_at_call 38; refine (RS.out _ _ _ (by first | assumption | (go_split_ands; assumption) | exact (Grow.refl _).drew) (by first | exact .inl ⟨rfl, rfl⟩ | exact .inr ⟨rfl, rfl⟩)).mono ?_; rintro e w9 ⟨rfl, g9⟩) | (go_at_call 12; refine (lalive_any _).mono ?_; rintro e w9 ⟨rfl, g9⟩)); (try (go_wp2_with fail)); refine hK.out _ _ ?_ (fun hHeld => ?_); (focus ((try dsimp only); refine (fun (hG : Grow wr _) => ⟨hG, Grow.keeps hG (by assumption), Grow.keeps hG (by assumption)⟩) ?_; (try go_split_ands); first | assumption | exact Grow.trans (by assumption) (by assumption) | exact Below.trans (by assumption) (by assumption))); clear hK K; (try simp only [Act.put, List.setIfInBounds_toArray, List.set_cons_zero, List.set_cons_succ, List.getElem_toArray, List.getElem_cons_zero, List.getElem_cons_succ]); refine wpAnyH_take (i := 22) (oi := _) (v := ?_) rfl (by kernel_rfl) (by kernel_rfl) (by kernel_rfl) (fun _ _ _ h => h) (Or.inl ⟨by rfl, ?_⟩) (by assumption) ?_; rotate_left; (focus (intro w hSw; (try dsimp only at hSw); go_simp; (try with_reducible rfl))); (try simp only [Act.put, List.setIfInBounds_toArray, List.set_cons_zero, List.set_cons_succ, List.getElem_toArray, List.getElem_cons_zero, List.getElem_cons_succ]); refine wpAnyH_take (i := 23) (oi := _) (v := ?_) rfl (by kernel_rfl) (by kernel_rfl) (by kernel_rfl) (fun _ _ _ h => h) (Or.inl ⟨by rfl, ?_⟩) (by assumption) ?_; rotate_left; (focus (intro w hSw; (try dsimp only at hSw); go_simp; (try with_reducible rfl))); (try simp only [Act.put, List.setIfInBounds_toArray, List.set_cons_zero, List.set_cons_succ, List.getElem_toArray, List.getElem_cons_zero, List.getElem_cons_succ]); refine wpAnyH_take (i := 24) (oi := _) (v := ?_) rfl (by kernel_rfl) (by kernel_rfl) (by kernel_rfl) (fun _ _ _ h => h) (Or.inl ⟨by rfl, ?_⟩) (by assumption) ?_; rotate_left; (focus (intro w hSw; (try dsimp only at hSw); go_simp; (try with_reducible rfl))); (try simp only [Act.put, List.setIfInBounds_toArray, List.set_cons_zero, List.set_cons_succ, List.getElem_toArray, List.getElem_cons_zero, List.getElem_cons_succ]); refine wpAnyH_ready (rs := [25]) (by kernel_rfl) (by simp) ?_; refine AllReadyH.cons (o := _) rfl (fun K hK => ?_) AllReadyH.nil; (try simp only [List.getElem_toArray, List.getElem_cons_zero, List.getElem_cons_succ]); go_simp; (first | (go_at_call 37; refine (RA.out _ _ _ (by first | assumption | (go_split_ands; assumption) | exact (Grow.refl _).drew) (by first | exact .inl ⟨rfl, rfl⟩ | exact .inr ⟨rfl, rfl⟩)).mono ?_; rintro e w9 ⟨rfl, g9⟩) | (go_at_call 38; refine (RS.out _ _ _ (by first | assumption | (go_split_ands; assumption) | exact (Grow.refl _).drew) (by first | exact .inl ⟨rfl, rfl⟩ | exact .inr ⟨rfl, rfl⟩)).mono ?_; rintro e w9 ⟨rfl, g9⟩) | (go_at_call 12; refine (lalive_any _).mono ?_; rintro e w9 ⟨rfl, g9⟩)); (try (go_wp2_with fail)); refine hK.out _ _ ?_ (fun hHeld => ?_); (focus ((try dsimp only); refine (fun (hG : Grow wr _) => ⟨hG, Grow.keeps hG (by assumption), Grow.keeps hG (by assumption)⟩) ?_; (try go_split_ands); first | assumption | exact Grow.trans (by assumption) (by assumption) | exact Below.trans (by assumption) (by assumption))); clear hK K; (try simp only [Act.put, List.setIfInBounds_toArray, List.set_cons_zero, List.set_cons_succ, List.getElem_toArray, List.getElem_cons_zero, List.getElem_cons_succ]); refine wpAnyH_take (i := 26) (oi := _) (v := ?_) rfl (by kernel_rfl) (by kernel_rfl) (by kernel_rfl) (fun _ _ _ h => h) (Or.inl ⟨by rfl, ?_⟩) (by assumption) ?_; rotate_left; (focus (intro w hSw; (try dsimp only at hSw); go_simp; (try with_reducible rfl))); (try simp only [Act.put, List.setIfInBounds_toArray, List.set_cons_zero, List.set_cons_succ, List.getElem_toArray, List.getElem_cons_zero, List.getElem_cons_succ]); refine wpAnyH_take (i := 27) (oi := _) (v := ?_) rfl (by kernel_rfl) (by kernel_rfl) (by kernel_rfl) (fun _ _ _ h => h) (Or.inl ⟨by rfl, ?_⟩) (by assumption) ?_; rotate_left; (focus (intro w hSw; (try dsimp only at hSw); go_simp; (try with_reducible rfl))); (try simp only [Act.put, List.setIfInBounds_toArray, List.set_cons_zero, List.set_cons_succ, List.getElem_toArray, List.getElem_cons_zero, List.getElem_cons_succ]); refine wpAnyH_done (by kernel_rfl) ?_ _)
                  go_wp2_with fail
                  go_ret
                  exact ⟨rfl, gZ.trans hHeld.1⟩
                · have E1 : (x0 == x1) = false := beq_eq_false_iff_ne.2 hx
                  have F1 : (x0 != x1) = true := by simp [hx]
                  clear RC2 hx
                  (refine wp_region_held_drew (S := fun Wx => Grow wr Wx ∧ Wx.cell? ⟨g, 0, none⟩ = some (.slice a0 l0.length c0) ∧ Wx.cell? ⟨g, 1, none⟩ = some (.slice a1 l1.length c1)) (by kernel_rfl) ⟨(Below.refl _ _).drew, Grow.keeps (Below.refl _ _).drew (by assumption), Grow.keeps (Below.refl _ _).drew (by assumption)⟩ (fun hHeld => ?_); refine wpAnyH_take (i := 0) (oi := _) (v := ?_) rfl (by kernel_rfl) (by kernel_rfl) (by kernel_rfl) (fun _ _ _ h => h) (Or.inl ⟨by rfl, ?_⟩) (by assumption) ?_; rotate_left; (focus (intro w hSw; (try dsimp only at hSw); go_simp; (try with_reducible rfl))); (try simp only [Act.put, List.setIfInBounds_toArray, List.set_cons_zero, List.set_cons_succ, List.getElem_toArray, List.getElem_cons_zero]); refine wpAnyH_take (i := 1) (oi := _) (v := ?_) rfl (by kernel_rfl) (by kernel_rfl) (by kernel_rfl) (fun _ _ _ h => h) (Or.inl ⟨by rfl, ?_⟩) (by assumption) ?_; rotate_left; (focus (intro w hSw; (try dsimp only at hSw); go_simp; (try with_reducible rfl))); (try simp only [Act.put, List.setIfInBounds_toArray, List.set_cons_zero, List.set_cons_succ, List.getElem_toArray, List.getElem_cons_zero, List.getElem_cons_succ]); refine wpAnyH_take (i := 2) (oi := _) (v := ?_) rfl (by kernel_rfl) (by kernel_rfl) (by kernel_rfl) (fun _ _ _ h => h) (Or.inl ⟨by rfl, ?_⟩) (by assumption) ?_; rotate_left; (focus (intro w hSw; (try dsimp only at hSw); go_simp; (try with_reducible rfl))); (try simp only [Act.put, List.setIfInBounds_toArray, List.set_cons_zero, List.set_cons_succ, List.getElem_toArray, List.getElem_cons_zero, List.getElem_cons_succ]); refine wpAnyH_take (i := 3) (oi := _) (v := ?_) rfl (by kernel_rfl) (by kernel_rfl) (by kernel_rfl) (fun _ _ _ h => h) (Or.inl ⟨by rfl, ?_⟩) (by assumption) ?_; rotate_left; (focus (intro w hSw; (try dsimp only at hSw); go_simp; (try with_reducible rfl))); (try simp only [Act.put, List.setIfInBounds_toArray, List.set_cons_zero, List.set_cons_succ, List.getElem_toArray, List.getElem_cons_zero, List.getElem_cons_succ]); refine wpAnyH_take (i := 5) (oi := _) (v := ?_) rfl (by kernel_rfl) (by kernel_rfl) (by kernel_rfl) (fun _ _ _ h => h) (Or.inl ⟨by rfl, ?_⟩) (by assumption) ?_; rotate_left; (focus (intro w hSw; (try dsimp only at hSw); go_simp; (try with_reducible rfl))); (try simp only [Act.put, List.setIfInBounds_toArray, List.set_cons_zero, List.set_cons_succ, List.getElem_toArray, List.getElem_cons_zero, List.getElem_cons_succ]); refine wpAnyH_take (i := 6) (oi := _) (v := ?_) rfl (by kernel_rfl) (by kernel_rfl) (by kernel_rfl) (fun _ _ _ h => h) (Or.inl ⟨by rfl, ?_⟩) (by assumption) ?_; rotate_left; (focus (intro w hSw; (try dsimp only at hSw); go_simp; (try with_reducible rfl))); (try simp only [Act.put, List.setIfInBounds_toArray, List.set_cons_zero, List.set_cons_succ, List.getElem_toArray, List.getElem_cons_zero, List.getElem_cons_succ]); refine wpAnyH_take (i := 7) (oi := _) (v := ?_) rfl (by kernel_rfl) (by kernel_rfl) (by kernel_rfl) (fun _ _ _ h => h) (Or.inl ⟨by rfl, ?_⟩) (by assumption) ?_; rotate_left; (focus (intro w hSw; (try dsimp only at hSw); go_simp; (try with_reducible rfl))); (try simp only [Act.put, List.setIfInBounds_toArray, List.set_cons_zero, List.set_cons_succ, List.getElem_toArray, List.getElem_cons_zero, List.getElem_cons_succ]); refine wpAnyH_take (i := 8) (oi := _) (v := ?_) rfl (by kernel_rfl) (by kernel_rfl) (by kernel_rfl) (fun _ _ _ h => h) (Or.inl ⟨by rfl, ?_⟩) (by assumption) ?_; rotate_left; (focus (intro w hSw; (try dsimp only at hSw); go_simp; (try with_reducible rfl))); (try simp only [Act.put, List.setIfInBounds_toArray, List.set_cons_zero, List.set_cons_succ, List.getElem_toArray, List.getElem_cons_zero, List.getElem_cons_succ]); refine wpAnyH_ready (rs := [4]) (by kernel_rfl) (by simp) ?_; refine AllReadyH.cons (o := _) rfl (fun K hK => ?_) AllReadyH.nil; (try simp only [List.getElem_toArray, List.getElem_cons_zero, List.getElem_cons_succ]); go_simp; (first | (go_at_call 37; refine (RA.out _ _ _ (by first | assumption | (go_split_ands; assumption) | exact (Grow.refl _).drew) (by first | exact .inl ⟨rfl, rfl⟩ | exact .inr ⟨rfl, rfl⟩)).mono ?_; rintro e w9 ⟨rfl, g9⟩) | (go_at_call 38; refine (RS.out _ _ _ (by first | assumption | (go_split_ands; assumption) | exact (Grow.refl _).drew) (by first | exact .inl ⟨rfl, rfl⟩ | exact .inr ⟨rfl, rfl⟩)).mono ?_; rintro e w9 ⟨rfl, g9⟩) | (go_at_call 12; refine (lalive_any _).mono ?_; rintro e w9 ⟨rfl, g9⟩)); (try (go_wp2_with fail)); refine hK.out _ _ ?_ (fun hHeld => ?_); (focus ((try dsimp only); refine (fun (hG : Grow wr _) => ⟨hG, Grow.keeps hG (by assumption), Grow.keeps hG (by assumption)⟩) ?_; (try go_split_ands); first | assumption | exact Grow.trans (by assumption) (by assumption) | exact Below.trans (by assumption) (by assumption))); clear hK K; (try simp only [Act.put, List.setIfInBounds_toArray, List.set_cons_zero, List.set_cons_succ, List.getElem_toArray, List.getElem_cons_zero, List.getElem_cons_succ]); refine wpAnyH_ready (rs := [9]) (by kernel_rfl) (by simp) ?_; refine AllReadyH.cons (o := _) rfl (fun K hK => ?_) AllReadyH.nil; (try simp only [List.getElem_toArray, List.getElem_cons_zero, List.getElem_cons_succ]); go_simp; (first | (go_at_call 37; refine (RA.out _ _ _ (by first | assumption | (go_split_ands; assumption) | exact (Grow.refl _).drew) (by first | exact .inl ⟨rfl, rfl⟩ | exact .inr ⟨rfl, rfl⟩)).mono ?_; rintro e w9 ⟨rfl, g9⟩) | (go_at_call 38; refine (RS.out _ _ _ (by first | assumption | (go_split_ands; assumption) | exact (Grow.refl _).drew) (by first | exact .inl ⟨rfl, rfl⟩ | exact .inr ⟨rfl, rfl⟩)).mono ?_; rintro e w9 ⟨rfl, g9⟩) | (go_at_call 12; refine (lalive_any _).mono ?_; rintro e w9 ⟨rfl, g9⟩)); (try (go_wp2_with fail)); refine hK.out _ _ ?_ (fun hHeld => ?_); (focus ((try dsimp only); refine (fun (hG : Grow wr _) => ⟨hG, Grow.keeps hG (by assumption), Grow.keeps hG (by assumption)⟩) ?_; (try go_split_ands); first | assumption | exact Grow.trans (by assumption) (by assumption) | exact Below.trans (by assumption) (by assumption))); clear hK K; (try simp only [Act.put, List.setIfInBounds_toArray, List.set_cons_zero, List.set_cons_succ, List.getElem_toArray, List.getElem_cons_zero, List.getElem_cons_succ]); refine wpAnyH_take (i := 10) (oi := _) (v := ?_) rfl (by kernel_rfl) (by kernel_rfl) (by kernel_rfl) (fun _ _ _ h => h) (Or.inl ⟨by rfl, ?_⟩) (by assumption) ?_; rotate_left; (focus (intro w hSw; (try dsimp only at hSw); go_simp; (try with_reducible rfl))); (try simp only [Act.put, List.setIfInBounds_toArray, List.set_cons_zero, List.set_cons_succ, List.getElem_toArray, List.getElem_cons_zero, List.getElem_cons_succ]); refine wpAnyH_take (i := 11) (oi := _) (v := ?_) rfl (by kernel_rfl) (by kernel_rfl) (by kernel_rfl) (fun _ _ _ h => h) (Or.inl ⟨by rfl, ?_⟩) (by assumption) ?_; rotate_left; (focus (intro w hSw; (try dsimp only at hSw); go_simp; (try with_reducible rfl))); (try simp only [Act.put, List.setIfInBounds_toArray, List.set_cons_zero, List.set_cons_succ, List.getElem_toArray, List.getElem_cons_zero, List.getElem_cons_succ]); refine wpAnyH_take (i := 12) (oi := _) (v := undef) rfl (by kernel_rfl) (by kernel_rfl) (by kernel_rfl) (fun _ _ _ h => h) (Or.inr ⟨by rfl, rfl⟩) (by assumption) ?_; (try simp only [Act.put, List.setIfInBounds_toArray, List.set_cons_zero, List.set_cons_succ, List.getElem_toArray, List.getElem_cons_zero, List.getElem_cons_succ]); refine wpAnyH_take (i := 13) (oi := _) (v := undef) rfl (by kernel_rfl) (by kernel_rfl) (by kernel_rfl) (fun _ _ _ h => h) (Or.inr ⟨by rfl, rfl⟩) (by assumption) ?_; (try simp only [Act.put, List.setIfInBounds_toArray, List.set_cons_zero, List.set_cons_succ, List.getElem_toArray, List.getElem_cons_zero, List.getElem_cons_succ]); refine wpAnyH_take (i := 14) (oi := _) (v := undef) rfl (by kernel_rfl) (by kernel_rfl) (by kernel_rfl) (fun _ _ _ h => h) (Or.inr ⟨by rfl, rfl⟩) (by assumption) ?_; (try simp only [Act.put, List.setIfInBounds_toArray, List.set_cons_zero, List.set_cons_succ, List.getElem_toArray, List.getElem_cons_zero, List.getElem_cons_succ]); refine wpAnyH_take (i := 15) (oi := _) (v := undef) rfl (by kernel_rfl) (by kernel_rfl) (by kernel_rfl) (fun _ _ _ h => h) (Or.inr ⟨by rfl, rfl⟩) (by assumption) ?_; (try simp only [Act.put, List.setIfInBounds_toArray, List.set_cons_zero, List.set_cons_succ, List.getElem_toArray, List.getElem_cons_zero, List.getElem_cons_succ]); refine wpAnyH_take (i := 16) (oi := _) (v := undef) rfl (by kernel_rfl) (by kernel_rfl) (by kernel_rfl) (fun _ _ _ h => h) (Or.inr ⟨by rfl, rfl⟩) (by assumption) ?_; (try simp only [Act.put, List.setIfInBounds_toArray, List.set_cons_zero, List.set_cons_succ, List.getElem_toArray, List.getElem_cons_zero, List.getElem_cons_succ]); refine wpAnyH_take (i := 17) (oi := _) (v := undef) rfl (by kernel_rfl) (by kernel_rfl) (by kernel_rfl) (fun _ _ _ h => h) (Or.inr ⟨by rfl, rfl⟩) (by assumption) ?_; (try simp only [Act.put, List.setIfInBounds_toArray, List.set_cons_zero, List.set_cons_succ, List.getElem_toArray, List.getElem_cons_zero, List.getElem_cons_succ]); refine wpAnyH_take (i := 18) (oi := _) (v := undef) rfl (by kernel_rfl) (by kernel_rfl) (by kernel_rfl) (fun _ _ _ h => h) (Or.inr ⟨by rfl, rfl⟩) (by assumption) ?_; (try simp only [Act.put, List.setIfInBounds_toArray, List.set_cons_zero, List.set_cons_succ, List.getElem_toArray, List.getElem_cons_zero, List.getElem_cons_succ]); refine wpAnyH_take (i := 19) (oi := _) (v := undef) rfl (by kernel_rfl) (by kernel_rfl) (by kernel_rfl) (fun _ _ _ h => h) (Or.inr ⟨by rfl, rfl⟩) (by assumption) ?_; (try simp only [Act.put, List.setIfInBounds_toArray, List.set_cons_zero, List.set_cons_succ, List.getElem_toArray, List.getElem_cons_zero, List.getElem_cons_succ]); refine wpAnyH_take (i := 20) (oi := _) (v := undef) rfl (by kernel_rfl) (by kernel_rfl) (by kernel_rfl) (fun _ _ _ h => h) (Or.inr ⟨by rfl, rfl⟩) (by assumption) ?_; (try simp only [Act.put, List.setIfInBounds_toArray, List.set_cons_zero, List.set_cons_succ, List.getElem_toArray, List.getElem_cons_zero, List.getElem_cons_succ]); refine wpAnyH_take (i := 21) (oi := _) (v := undef) rfl (by kernel_rfl) (by kernel_rfl) (by kernel_rfl) (fun _ _ _ h => h) (Or.inr ⟨by rfl, rfl⟩) (by assumption) ?_; (try simp only [Act.put, List.setIfInBounds_toArray, List.set_cons_zero, List.set_cons_succ, List.getElem_toArray, List.getElem_cons_zero, List.getElem_cons_succ]); refine wpAnyH_take (i := 22) (oi := _) (v := undef) rfl (by kernel_rfl) (by kernel_rfl) (by kernel_rfl) (fun _ _ _ h => h) (Or.inr ⟨by rfl, rfl⟩) (by assumption) ?_; (try simp only [Act.put, List.setIfInBounds_toArray, List.set_cons_zero, List.set_cons_succ, List.getElem_toArray, List.getElem_cons_zero, List.getElem_cons_succ]); refine wpAnyH_take (i := 23) (oi := _) (v := ?_) rfl (by kernel_rfl) (by kernel_rfl) (by kernel_rfl) (fun _ _ _ h => h) (Or.inl ⟨by rfl, ?_⟩) (by assumption) ?_; rotate_left; (focus (intro w hSw; (try dsimp only at hSw); go_simp; (try with_reducible rfl))); (try simp only [Act.put, List.setIfInBounds_toArray, List.set_cons_zero, List.set_cons_succ, List.getElem_toArray, List.getElem_cons_zero, List.getElem_cons_succ]); refine wpAnyH_take (i := 24) (oi := _) (v := ?_) rfl (by kernel_rfl) (by kernel_rfl) (by kernel_rfl) (fun _ _ _ h => h) (Or.inl ⟨by rfl, ?_⟩) (by assumption) ?_; rotate_left; (focus (intro w hSw; (try dsimp only at hSw); go_simp; (try with_reducible rfl))); (try simp only [Act.put, List.setIfInBounds_toArray, List.set_cons_zero, List.set_cons_succ, List.getElem_toArray, List.getElem_cons_zero, List.getElem_cons_succ]); refine wpAnyH_ready (rs := [25]) (by kernel_rfl) (by simp) ?_; refine AllReadyH.cons (o := _) rfl (fun K hK => ?_) AllReadyH.nil; (try simp only [List.getElem_toArray, List.getElem_cons_zero, List.getElem_cons_succ]); go_simp; (first | (go_at_call 37; refine (RA.out _ _ _ (by first | assumption | (go_split_ands; assumption) | exact (Grow.refl _).drew) (by first | exact .inl ⟨rfl, rfl⟩ | exact .inr ⟨rfl, rfl⟩)).mono ?_; rintro e w9 ⟨rfl, g9⟩) | (go_at_call 38; refine (RS.out _ _ _ (by first | assumption | (go_split_ands; assumption) | exact (Grow.refl _).drew) (by first | exact .inl ⟨rfl, rfl⟩ | exact .inr ⟨rfl, rfl⟩)).mono ?_; rintro e w9 ⟨rfl, g9⟩) | (go_at_call 12; refine (lalive_any _).mono ?_; rintro e w9 ⟨rfl, g9⟩)); (try (go_wp2_with fail)); refine hK.out _ _ ?_ (fun hHeld => ?_); (focus ((try dsimp only); refine (fun (hG : Grow wr _) => ⟨hG, Grow.keeps hG (by assumption), Grow.keeps hG (by assumption)⟩) ?_; (try go_split_ands); first | assumption | exact Grow.trans (by assumption) (by assumption) | exact Below.trans (by assumption) (by assumption))); clear hK K; (try simp only [Act.put, List.setIfInBounds_toArray, List.set_cons_zero, List.set_cons_succ, List.getElem_toArray, List.getElem_cons_zero, List.getElem_cons_succ]); refine wpAnyH_take (i := 26) (oi := _) (v := ?_) rfl (by kernel_rfl) (by kernel_rfl) (by kernel_rfl) (fun _ _ _ h => h) (Or.inl ⟨by rfl, ?_⟩) (by assumption) ?_; rotate_left; (focus (intro w hSw; (try dsimp only at hSw); go_simp; (try with_reducible rfl))); (try simp only [Act.put, List.setIfInBounds_toArray, List.set_cons_zero, List.set_cons_succ, List.getElem_toArray, List.getElem_cons_zero, List.getElem_cons_succ]); refine wpAnyH_take (i := 27) (oi := _) (v := ?_) rfl (by kernel_rfl) (by kernel_rfl) (by kernel_rfl) (fun _ _ _ h => h) (Or.inl ⟨by rfl, ?_⟩) (by assumption) ?_; rotate_left; (focus (intro w hSw; (try dsimp only at hSw); go_simp; (try with_reducible rfl))); (try simp only [Act.put, List.setIfInBounds_toArray, List.set_cons_zero, List.set_cons_succ, List.getElem_toArray, List.getElem_cons_zero, List.getElem_cons_succ]); refine wpAnyH_done (by kernel_rfl) ?_ _)
                  go_wp2_with fail
                  go_ret
                  exact ⟨rfl, gZ.trans hHeld.1⟩
  · go_wp2_with fail
    (try clear dl)
    refine (lalive_any _).mono ?_
    rintro e w52 ⟨rfl, g52⟩
    go_wp2_with fail
    go_ret
    exact ⟨rfl, gw.trans g52⟩
end Go.Proofs.Yteijilbdllpbcaa
