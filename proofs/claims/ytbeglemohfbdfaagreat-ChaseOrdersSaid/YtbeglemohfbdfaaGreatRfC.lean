/- The reference of layer 7: power, Has, every, times. Conditions: a chase that is valid. -/
import Derived.Test.YtbeglemohfbdfaaGreatRfB
import Derived.Test.YtbeglemohfbdfaaGreatCpK
import Derived.Test.YtbeglemohfbdfaaGreatLwC
namespace Go.Proofs.YtbeglemohfbdfaaGreat
open Go.RowKit

theorem rpower_any (n : Nat) (w : World) (hn : n ≤ 40) :
    Calls Tryz.prog 74 #[.int .i64 n] w fun e w' => e = .returned (.int .i64 ((2 ^ n : Nat) : Int)) ∧ w = w' := by
  obtain ⟨F, hF⟩ : ∃ F : Nat → Nat, F = fun k => 2 ^ k := ⟨_, rfl⟩
  have h0 : F 0 = 1 := by rw [hF]
  have hs : ∀ k, F (k + 1) = 2 * F k := fun k => by rw [hF]; show 2 ^ (k + 1) = 2 * 2 ^ k; rw [Nat.pow_succ]; omega
  have hle : ∀ k, k ≤ 40 → F k ≤ 2 ^ 40 := fun k hk => by rw [hF]; exact Nat.pow_le_pow_right (by omega) hk
  have hn2 : 2 ^ n = F n := by rw [hF]
  rw [hn2]
  clear hn2
  have Hs := Lib.hid hs
  have Hle := Lib.hid hle
  have H0 := Lib.hid h0
  clear hs hle hF h0
  go_enter Tryz.func74, Tryz.ntmps74
  go_wp2
  go_loop [3, 4] (fun o i => ∃ k : Nat, k ≤ n ∧ i = .int .i64 k ∧ o = .int .i64 (F k)) (fun _ i => n - (intOf i).toNat)
  case atStart => exact ⟨0, Nat.zero_le _, rfl, by rw [H0.out]; rfl⟩
  case round =>
    obtain ⟨k, hk, rfl, rfl⟩ := hrel
    by_cases hlt : k < n
    · have h2 := Lib.hid (Hs.out k)
      have h3 := Hle.out k (by omega)
      go_wp2
      go_round
      case rel => exact ⟨k + 1, by omega, by go_num, by rw [h2.out]; go_num⟩
      case measure => simp [intOf]; omega
    · obtain rfl : k = n := by omega
      go_wp2
      go_ret
      exact ⟨rfl, rfl⟩
theorem rHas_any (s n : Nat) (w : World) (hs : s < 8192) (hn : n ≤ 12) :
    Calls Tryz.prog 75 #[.int .i64 s, .int .i64 n] w fun e w' => e = .returned (.bool (s.testBit n)) ∧ w = w' := by
  rw [Nat.testBit_eq_decide_div_mod_eq]
  have hq : ((s : Int).tdiv ((2 ^ n : Nat) : Int)) = ((s / 2 ^ n : Nat) : Int) := rfl
  have hle : s / 2 ^ n ≤ s := Nat.div_le_self _ _
  have h0 : 0 < 2 ^ n := Nat.two_pow_pos n
  have hP := Lib.hid (rpower_any n w (by omega))
  obtain ⟨p, hp⟩ : ∃ p : Nat, 2 ^ n = p := ⟨_, rfl⟩
  rw [hp] at hq hle h0 hP ⊢
  clear hp
  obtain ⟨d, hd⟩ : ∃ d : Nat, s / p = d := ⟨_, rfl⟩
  rw [hd] at hq hle ⊢
  have hm : ((d : Int).tmod 2) = ((d % 2 : Nat) : Int) := rfl
  have hwd : wrap64 (d : Int) = d := IntWalk.wrap64_in _ (by omega)
  have hp0 : ¬ ((p : Int) = 0) := by omega
  go_enter Tryz.func75, Tryz.ntmps75
  go_wp2_with (go_at_call 74; refine hP.out.mono ?_; rintro e w' ⟨rfl, rfl⟩)
  go_ret
  refine ⟨congrArg (fun b => Ending.returned (.bool b)) ?_, rfl⟩
  show ((d : Int) % 2 == 1) = decide (d % 2 = 1)
  rw [Bool.eq_iff_iff, beq_iff_eq, decide_eq_true_eq]
  omega
theorem revery_any (E F : Int) (v : Value) (ss : List (List Int)) (p : Nat) (l : List Int) (w : World) (hv : IsSheets w v ss) (hl : ss[p]? = some l) (h3 : l.length ≤ 3) :
    Calls Tryz.prog 44 #[.agg #[.int .i64 E, .int .i64 F, v], .int .i64 p] w fun e w' => e = .returned (.int .i64 ((2 ^ l.length - 1 : Nat) : Int)) ∧ Grow w w' := by
  obtain ⟨a, cap, rfl, hcap, hlen, hrow⟩ := hv
  have hp := (List.getElem?_eq_some_iff.1 hl).1
  obtain ⟨b, o, s, ta, tc, hx, rfl, hc, hsc, hs8, hs⟩ := hrow.get hp
  rw [hl] at hx
  obtain rfl : l = s := Option.some.inj hx
  have hpI : (p : Int) < ss.length := by omega
  have hlb := lt_of_cell hc
  have P := Lib.hid (rpower_any l.length)
  have hpos : 0 < 2 ^ l.length := Nat.two_pow_pos _
  have hle : 2 ^ l.length ≤ 8 := Nat.le_trans (Nat.pow_le_pow_right (by decide) h3) (by decide)
  obtain ⟨q, hq⟩ : ∃ q : Nat, 2 ^ l.length = q := ⟨_, rfl⟩
  rw [hq] at P hpos hle ⊢
  have E1 : IntKind.i64.wrap ((q : Int) - 1) = ((q - 1 : Nat) : Int) := by rw [IntWalk.i64_in _ (by omega)]; omega
  clear hx hl hrow hs hq
  go_enter Tryz.func44, Tryz.ntmps44
  go_wp2_with (go_at_call 74; refine (P.out _ (by omega)).mono ?_; rintro e w' ⟨rfl, rfl⟩)
  go_ret
  refine ⟨ret_int ?_, (Grow.refl _).alloc _⟩
  omega
def rightTo (E : Int) (l : List Int) (s : Nat) (t : Int) (k : Nat) : Bool := (List.range k).all fun i => !(s.testBit i) || inB (l[i]?.getD 0 - t) (-E) E
theorem rightTo_succ (E : Int) (l : List Int) (s : Nat) (t : Int) (k : Nat) : rightTo E l s t (k + 1) = (rightTo E l s t k && (!(s.testBit k) || inB (l[k]?.getD 0 - t) (-E) E)) := by simp [rightTo, List.range_succ]
def TimesPost (w : World) (E : Int) (l : List Int) (s : Nat) (e : Ending) (w' : World) : Prop := ∃ ov, e = .returned ov ∧ Own w' w.heap.size 3 ov ((timesL E l s).map (Value.int .i64)) ∧ Grow w w'
set_option maxRecDepth 100000 in
set_option maxHeartbeats 2000000 in
theorem rtimes_any (E F : Int) (v : Value) (ss : List (List Int)) (p : Nat) (l : List Int) (s : Nat) (w : World) (hv : IsSheets w v ss) (hl : ss[p]? = some l) (h3 : l.length ≤ 3) (hE : 0 ≤ E ∧ E ≤ 3) (hb : ∀ x ∈ l, 0 ≤ x ∧ x ≤ 200) (hs : s < 8) :
    Calls Tryz.prog 46 #[.agg #[.int .i64 E, .int .i64 F, v], .int .i64 p, .int .i64 s] w (TimesPost w E l s) := by
  obtain ⟨a, cap, rfl, hcap, hlen, hrow⟩ := hv
  have hp := (List.getElem?_eq_some_iff.1 hl).1
  obtain ⟨b, o, sl, ta, tc, hx, rfl, hc, hsc, hs8, hsr⟩ := hrow.get hp
  rw [hl] at hx
  obtain rfl : l = sl := Option.some.inj hx
  have hpI : (p : Int) < ss.length := by omega
  have hlb := lt_of_cell hc
  obtain ⟨i0, hi0, hi1, hi2, hi3⟩ := info_parts pinfo_int7
  have hui : Tryz.prog.underlying 38 = some (.slice 3) := by kernel_rfl
  have Hb := Lib.hid hb
  have Hsr := Lib.hid hsr
  have EN : IntKind.i64.wrap (-E) = -E := IntWalk.i64_in _ (by omega)
  clear hx hl hrow hsr hb
  go_enter Tryz.func46, Tryz.ntmps46
  go_wp2_with fail
  have c0 : (w.alloc (.cells #[.int .i64 E, .int .i64 F, .slice (some ⟨b, o, none⟩) ss.length cap] 24)).cell? ⟨w.heap.size, 0, none⟩ = some (.int .i64 E) := cell_new rfl rfl
  have gW : Grow w (w.alloc (.cells #[.int .i64 E, .int .i64 F, .slice (some ⟨b, o, none⟩) ss.length cap] 24)) := (Grow.refl w).alloc _
  obtain ⟨W, hW⟩ : ∃ z, w.alloc (.cells #[.int .i64 E, .int .i64 F, .slice (some ⟨b, o, none⟩) ss.length cap] 24) = z := ⟨_, rfl⟩
  obtain ⟨B, hB⟩ : ∃ z, w.heap.size = z := ⟨_, rfl⟩
  rw [hW] at c0 gW
  rw [hB] at c0
  rw [hW, hB]
  have HB := Lib.hid hB
  clear hW hB hc
  go_loopw [7, 9] (fun u i wr => ∃ (t : Nat) (ov : Value), ov = u ∧ t ≤ 204 ∧ i = .int .i64 t ∧ Own wr W.heap.size 3 ov ((timesTo E l s t).map (Value.int .i64)) ∧ Grow W wr) (fun _ i _ => 204 - (intOf i).toNat)
  case atStart => exact ⟨0, _, rfl, Nat.zero_le _, rfl, Own.nil _ _ _, Grow.refl _⟩
  case round =>
    obtain ⟨t, ov, rfl, ht, rfl, hown, hg⟩ := hrel
    have Hown := Lib.hid hown
    clear hown
    by_cases hlt : t < 204
    · obtain ⟨wO, hO⟩ : ∃ z, z = wr := ⟨_, rfl⟩
      subst hO
      have gO := hg
      clear hg
      have hE2 : decide ((t : Int) ≤ 203) = true := decide_eq_true (by omega)
      go_wp2_with fail
      (try rw [hE2])
      clear hE2
      go_loopw [10, 11] (fun r i wr => ∃ (k : Nat) (q : Bool), k ≤ l.length ∧ i = .int .i64 k ∧ r = .bool q ∧ q = rightTo E l s t k ∧ Grow wO wr) (fun _ i _ => l.length - (intOf i).toNat)
      case atStart => exact ⟨0, true, Nat.zero_le _, rfl, rfl, rfl, Grow.refl _⟩
      case round =>
        obtain ⟨k, q, hk, rfl, rfl, hq, hg⟩ := hrel
        have Hq := Lib.hid hq
        clear hq
        by_cases hkl : k < l.length
        · obtain ⟨b2, o2, x, hx, rfl, hcx⟩ := Hsr.out.int hkl
          have hxb := Hb.out x (List.mem_of_getElem? hx)
          have hst := rightTo_succ E l s t k
          rw [hx, ← Hq.out] at hst
          simp only [Option.getD_some] at hst
          have hx' := ((gW.trans gO).trans hg).keeps hcx
          have e0 := (gO.trans hg).keeps c0
          have hkI : (k : Int) < l.length := by omega
          have E1 : IntKind.i64.wrap (x - (t : Int)) = x - (t : Int) := IntWalk.i64_in _ (by omega)
          clear hx hcx
          cases hbit : s.testBit k
          case false =>
            rw [hbit] at hst
            simp only [Bool.not_false, Bool.true_or, Bool.and_true] at hst
            have Hst := Lib.hid hst
            have Hbit := Lib.hid hbit
            clear hst hbit
            go_upto_region 10 with fail
            (refine wp_region_held_drew (S := fun Wx => Grow wr Wx ∧ Wx.cell? ⟨b2, o2 + k, none⟩ = some (.int .i64 x) ∧ Wx.cell? ⟨B, 0, none⟩ = some (.int .i64 E)) (by kernel_rfl) ⟨(Below.refl _ _).drew, Grow.keeps (Below.refl _ _).drew (by assumption), Grow.keeps (Below.refl _ _).drew (by assumption)⟩ (fun hHeld => ?_); refine wpAnyH_take (i := 0) (oi := _) (v := ?_) rfl (by kernel_rfl) (by kernel_rfl) (by kernel_rfl) (fun _ _ _ h => h) (Or.inl ⟨by rfl, ?_⟩) (by assumption) ?_; rotate_left; (focus (intro w hSw; (try dsimp only at hSw); go_simp; (try with_reducible rfl))); (try simp only [Act.put, List.setIfInBounds_toArray, List.set_cons_zero, List.set_cons_succ, List.getElem_toArray, List.getElem_cons_zero]); refine wpAnyH_take (i := 1) (oi := _) (v := ?_) rfl (by kernel_rfl) (by kernel_rfl) (by kernel_rfl) (fun _ _ _ h => h) (Or.inl ⟨by rfl, ?_⟩) (by assumption) ?_; rotate_left; (focus (intro w hSw; (try dsimp only at hSw); go_simp; (try with_reducible rfl))); (try simp only [Act.put, List.setIfInBounds_toArray, List.set_cons_zero, List.set_cons_succ, List.getElem_toArray, List.getElem_cons_zero, List.getElem_cons_succ]); refine wpAnyH_ready (rs := [2]) (by kernel_rfl) (by simp) ?_; refine AllReadyH.cons (o := _) rfl (fun K hK => ?_) AllReadyH.nil; (try simp only [List.getElem_toArray, List.getElem_cons_zero, List.getElem_cons_succ]); go_simp; (first | (go_at_call 75; refine (rHas_any s k _ (by omega) (by omega)).mono ?_; rw [Hbit.out]; rintro e w9 ⟨rfl, rfl⟩) | (go_at_call 70; refine (rin_any _ _ _ _).mono ?_; rintro e w8 ⟨rfl, rfl⟩)); (try (go_wp2_with fail)); refine hK.out _ _ ?_ (fun hHeld => ?_); (focus ((try dsimp only); refine (fun (hG : Grow wr _) => ⟨hG, Grow.keeps hG (by assumption), Grow.keeps hG (by assumption)⟩) ?_; (try go_split_ands); first | assumption | exact Grow.trans (by assumption) (by assumption) | exact Below.trans (by assumption) (by assumption))); clear hK K; (try simp only [Act.put, List.setIfInBounds_toArray, List.set_cons_zero, List.set_cons_succ, List.getElem_toArray, List.getElem_cons_zero, List.getElem_cons_succ]); refine wpAnyH_take (i := 3) (oi := _) (v := ?_) rfl (by kernel_rfl) (by kernel_rfl) (by kernel_rfl) (fun _ _ _ h => h) (Or.inl ⟨by rfl, ?_⟩) (by assumption) ?_; rotate_left; (focus (intro w hSw; (try dsimp only at hSw); go_simp; (try with_reducible rfl))); (try simp only [Act.put, List.setIfInBounds_toArray, List.set_cons_zero, List.set_cons_succ, List.getElem_toArray, List.getElem_cons_zero, List.getElem_cons_succ]); refine wpAnyH_take (i := 4) (oi := _) (v := undef) rfl (by kernel_rfl) (by kernel_rfl) (by kernel_rfl) (fun _ _ _ h => h) (Or.inr ⟨by rfl, rfl⟩) (by assumption) ?_; (try simp only [Act.put, List.setIfInBounds_toArray, List.set_cons_zero, List.set_cons_succ, List.getElem_toArray, List.getElem_cons_zero, List.getElem_cons_succ]); refine wpAnyH_take (i := 5) (oi := _) (v := undef) rfl (by kernel_rfl) (by kernel_rfl) (by kernel_rfl) (fun _ _ _ h => h) (Or.inr ⟨by rfl, rfl⟩) (by assumption) ?_; (try simp only [Act.put, List.setIfInBounds_toArray, List.set_cons_zero, List.set_cons_succ, List.getElem_toArray, List.getElem_cons_zero, List.getElem_cons_succ]); refine wpAnyH_take (i := 6) (oi := _) (v := undef) rfl (by kernel_rfl) (by kernel_rfl) (by kernel_rfl) (fun _ _ _ h => h) (Or.inr ⟨by rfl, rfl⟩) (by assumption) ?_; (try simp only [Act.put, List.setIfInBounds_toArray, List.set_cons_zero, List.set_cons_succ, List.getElem_toArray, List.getElem_cons_zero, List.getElem_cons_succ]); refine wpAnyH_take (i := 7) (oi := _) (v := undef) rfl (by kernel_rfl) (by kernel_rfl) (by kernel_rfl) (fun _ _ _ h => h) (Or.inr ⟨by rfl, rfl⟩) (by assumption) ?_; (try simp only [Act.put, List.setIfInBounds_toArray, List.set_cons_zero, List.set_cons_succ, List.getElem_toArray, List.getElem_cons_zero, List.getElem_cons_succ]); refine wpAnyH_take (i := 8) (oi := _) (v := undef) rfl (by kernel_rfl) (by kernel_rfl) (by kernel_rfl) (fun _ _ _ h => h) (Or.inr ⟨by rfl, rfl⟩) (by assumption) ?_; (try simp only [Act.put, List.setIfInBounds_toArray, List.set_cons_zero, List.set_cons_succ, List.getElem_toArray, List.getElem_cons_zero, List.getElem_cons_succ]); refine wpAnyH_take (i := 9) (oi := _) (v := undef) rfl (by kernel_rfl) (by kernel_rfl) (by kernel_rfl) (fun _ _ _ h => h) (Or.inr ⟨by rfl, rfl⟩) (by assumption) ?_; (try simp only [Act.put, List.setIfInBounds_toArray, List.set_cons_zero, List.set_cons_succ, List.getElem_toArray, List.getElem_cons_zero, List.getElem_cons_succ]); refine wpAnyH_take (i := 10) (oi := _) (v := undef) rfl (by kernel_rfl) (by kernel_rfl) (by kernel_rfl) (fun _ _ _ h => h) (Or.inr ⟨by rfl, rfl⟩) (by assumption) ?_; (try simp only [Act.put, List.setIfInBounds_toArray, List.set_cons_zero, List.set_cons_succ, List.getElem_toArray, List.getElem_cons_zero, List.getElem_cons_succ]); refine wpAnyH_take (i := 11) (oi := _) (v := undef) rfl (by kernel_rfl) (by kernel_rfl) (by kernel_rfl) (fun _ _ _ h => h) (Or.inr ⟨by rfl, rfl⟩) (by assumption) ?_; (try simp only [Act.put, List.setIfInBounds_toArray, List.set_cons_zero, List.set_cons_succ, List.getElem_toArray, List.getElem_cons_zero, List.getElem_cons_succ]); refine wpAnyH_take (i := 12) (oi := _) (v := undef) rfl (by kernel_rfl) (by kernel_rfl) (by kernel_rfl) (fun _ _ _ h => h) (Or.inr ⟨by rfl, rfl⟩) (by assumption) ?_; (try simp only [Act.put, List.setIfInBounds_toArray, List.set_cons_zero, List.set_cons_succ, List.getElem_toArray, List.getElem_cons_zero, List.getElem_cons_succ]); refine wpAnyH_take (i := 13) (oi := _) (v := undef) rfl (by kernel_rfl) (by kernel_rfl) (by kernel_rfl) (fun _ _ _ h => h) (Or.inr ⟨by rfl, rfl⟩) (by assumption) ?_; (try simp only [Act.put, List.setIfInBounds_toArray, List.set_cons_zero, List.set_cons_succ, List.getElem_toArray, List.getElem_cons_zero, List.getElem_cons_succ]); refine wpAnyH_take (i := 14) (oi := _) (v := undef) rfl (by kernel_rfl) (by kernel_rfl) (by kernel_rfl) (fun _ _ _ h => h) (Or.inr ⟨by rfl, rfl⟩) (by assumption) ?_; (try simp only [Act.put, List.setIfInBounds_toArray, List.set_cons_zero, List.set_cons_succ, List.getElem_toArray, List.getElem_cons_zero, List.getElem_cons_succ]); refine wpAnyH_take (i := 15) (oi := _) (v := undef) rfl (by kernel_rfl) (by kernel_rfl) (by kernel_rfl) (fun _ _ _ h => h) (Or.inr ⟨by rfl, rfl⟩) (by assumption) ?_; (try simp only [Act.put, List.setIfInBounds_toArray, List.set_cons_zero, List.set_cons_succ, List.getElem_toArray, List.getElem_cons_zero, List.getElem_cons_succ]); refine wpAnyH_take (i := 16) (oi := _) (v := undef) rfl (by kernel_rfl) (by kernel_rfl) (by kernel_rfl) (fun _ _ _ h => h) (Or.inr ⟨by rfl, rfl⟩) (by assumption) ?_; (try simp only [Act.put, List.setIfInBounds_toArray, List.set_cons_zero, List.set_cons_succ, List.getElem_toArray, List.getElem_cons_zero, List.getElem_cons_succ]); refine wpAnyH_take (i := 17) (oi := _) (v := ?_) rfl (by kernel_rfl) (by kernel_rfl) (by kernel_rfl) (fun _ _ _ h => h) (Or.inl ⟨by rfl, ?_⟩) (by assumption) ?_; rotate_left; (focus (intro w hSw; (try dsimp only at hSw); go_simp; (try with_reducible rfl))); (try simp only [Act.put, List.setIfInBounds_toArray, List.set_cons_zero, List.set_cons_succ, List.getElem_toArray, List.getElem_cons_zero, List.getElem_cons_succ]); refine wpAnyH_done (by kernel_rfl) ?_ _)
            have hG := hHeld.1
            go_wp2_with fail
            exact ⟨⟨k + 1, q, by omega, by go_num, rfl, Hst.out.symm, hg.trans hG⟩, by simp [intOf]; omega⟩
          case true =>
            rw [hbit] at hst
            simp only [Bool.not_true, Bool.false_or] at hst
            have Hbit := Lib.hid hbit
            clear hbit
            cases hin : inB (x - (t : Int)) (-E) E
            case' false =>
              rw [hin, Bool.and_false] at hst
            case' true =>
              rw [hin, Bool.and_true] at hst
            all_goals
              have Hst := Lib.hid hst
              have Hin := Lib.hid hin
              clear hst hin
              go_upto_region 10 with fail
              (refine wp_region_held_drew (S := fun Wx => Grow wr Wx ∧ Wx.cell? ⟨b2, o2 + k, none⟩ = some (.int .i64 x) ∧ Wx.cell? ⟨B, 0, none⟩ = some (.int .i64 E)) (by kernel_rfl) ⟨(Below.refl _ _).drew, Grow.keeps (Below.refl _ _).drew (by assumption), Grow.keeps (Below.refl _ _).drew (by assumption)⟩ (fun hHeld => ?_); refine wpAnyH_take (i := 0) (oi := _) (v := ?_) rfl (by kernel_rfl) (by kernel_rfl) (by kernel_rfl) (fun _ _ _ h => h) (Or.inl ⟨by rfl, ?_⟩) (by assumption) ?_; rotate_left; (focus (intro w hSw; (try dsimp only at hSw); go_simp; (try with_reducible rfl))); (try simp only [Act.put, List.setIfInBounds_toArray, List.set_cons_zero, List.set_cons_succ, List.getElem_toArray, List.getElem_cons_zero]); refine wpAnyH_take (i := 1) (oi := _) (v := ?_) rfl (by kernel_rfl) (by kernel_rfl) (by kernel_rfl) (fun _ _ _ h => h) (Or.inl ⟨by rfl, ?_⟩) (by assumption) ?_; rotate_left; (focus (intro w hSw; (try dsimp only at hSw); go_simp; (try with_reducible rfl))); (try simp only [Act.put, List.setIfInBounds_toArray, List.set_cons_zero, List.set_cons_succ, List.getElem_toArray, List.getElem_cons_zero, List.getElem_cons_succ]); refine wpAnyH_ready (rs := [2]) (by kernel_rfl) (by simp) ?_; refine AllReadyH.cons (o := _) rfl (fun K hK => ?_) AllReadyH.nil; (try simp only [List.getElem_toArray, List.getElem_cons_zero, List.getElem_cons_succ]); go_simp; (first | (go_at_call 75; refine (rHas_any s k _ (by omega) (by omega)).mono ?_; rw [Hbit.out]; rintro e w9 ⟨rfl, rfl⟩) | (go_at_call 70; refine (rin_any _ _ _ _).mono ?_; rw [Hin.out]; rintro e w8 ⟨rfl, rfl⟩)); (try (go_wp2_with fail)); refine hK.out _ _ ?_ (fun hHeld => ?_); (focus ((try dsimp only); refine (fun (hG : Grow wr _) => ⟨hG, Grow.keeps hG (by assumption), Grow.keeps hG (by assumption)⟩) ?_; (try go_split_ands); first | assumption | exact Grow.trans (by assumption) (by assumption) | exact Below.trans (by assumption) (by assumption))); clear hK K; (try simp only [Act.put, List.setIfInBounds_toArray, List.set_cons_zero, List.set_cons_succ, List.getElem_toArray, List.getElem_cons_zero, List.getElem_cons_succ]); refine wpAnyH_take (i := 3) (oi := _) (v := ?_) rfl (by kernel_rfl) (by kernel_rfl) (by kernel_rfl) (fun _ _ _ h => h) (Or.inl ⟨by rfl, ?_⟩) (by assumption) ?_; rotate_left; (focus (intro w hSw; (try dsimp only at hSw); go_simp; (try with_reducible rfl))); (try simp only [Act.put, List.setIfInBounds_toArray, List.set_cons_zero, List.set_cons_succ, List.getElem_toArray, List.getElem_cons_zero, List.getElem_cons_succ]); refine wpAnyH_take (i := 4) (oi := _) (v := ?_) rfl (by kernel_rfl) (by kernel_rfl) (by kernel_rfl) (fun _ _ _ h => h) (Or.inl ⟨by rfl, ?_⟩) (by assumption) ?_; rotate_left; (focus (intro w hSw; (try dsimp only at hSw); go_simp; (try with_reducible rfl))); (try simp only [Act.put, List.setIfInBounds_toArray, List.set_cons_zero, List.set_cons_succ, List.getElem_toArray, List.getElem_cons_zero, List.getElem_cons_succ]); refine wpAnyH_take (i := 5) (oi := _) (v := ?_) rfl (by kernel_rfl) (by kernel_rfl) (by kernel_rfl) (fun _ _ _ h => h) (Or.inl ⟨by rfl, ?_⟩) (by assumption) ?_; rotate_left; (focus (intro w hSw; (try dsimp only at hSw); go_simp; (try with_reducible rfl))); (try simp only [Act.put, List.setIfInBounds_toArray, List.set_cons_zero, List.set_cons_succ, List.getElem_toArray, List.getElem_cons_zero, List.getElem_cons_succ]); refine wpAnyH_take (i := 6) (oi := _) (v := ?_) rfl (by kernel_rfl) (by kernel_rfl) (by kernel_rfl) (fun _ _ _ h => h) (Or.inl ⟨by rfl, ?_⟩) (by assumption) ?_; rotate_left; (focus (intro w hSw; (try dsimp only at hSw); go_simp; (try with_reducible rfl))); (try simp only [Act.put, List.setIfInBounds_toArray, List.set_cons_zero, List.set_cons_succ, List.getElem_toArray, List.getElem_cons_zero, List.getElem_cons_succ]); refine wpAnyH_take (i := 7) (oi := _) (v := ?_) rfl (by kernel_rfl) (by kernel_rfl) (by kernel_rfl) (fun _ _ _ h => h) (Or.inl ⟨by rfl, ?_⟩) (by assumption) ?_; rotate_left; (focus (intro w hSw; (try dsimp only at hSw); go_simp; (try with_reducible rfl))); (try simp only [Act.put, List.setIfInBounds_toArray, List.set_cons_zero, List.set_cons_succ, List.getElem_toArray, List.getElem_cons_zero, List.getElem_cons_succ]); refine wpAnyH_take (i := 8) (oi := _) (v := ?_) rfl (by kernel_rfl) (by kernel_rfl) (by kernel_rfl) (fun _ _ _ h => h) (Or.inl ⟨by rfl, ?_⟩) (by assumption) ?_; rotate_left; (focus (intro w hSw; (try dsimp only at hSw); go_simp; (try with_reducible rfl))); (try simp only [Act.put, List.setIfInBounds_toArray, List.set_cons_zero, List.set_cons_succ, List.getElem_toArray, List.getElem_cons_zero, List.getElem_cons_succ]); refine wpAnyH_take (i := 9) (oi := _) (v := ?_) rfl (by kernel_rfl) (by kernel_rfl) (by kernel_rfl) (fun _ _ _ h => h) (Or.inl ⟨by rfl, ?_⟩) (by assumption) ?_; rotate_left; (focus (intro w hSw; (try dsimp only at hSw); go_simp; (try with_reducible rfl))); (try simp only [Act.put, List.setIfInBounds_toArray, List.set_cons_zero, List.set_cons_succ, List.getElem_toArray, List.getElem_cons_zero, List.getElem_cons_succ]); refine wpAnyH_take (i := 10) (oi := _) (v := ?_) rfl (by kernel_rfl) (by kernel_rfl) (by kernel_rfl) (fun _ _ _ h => h) (Or.inl ⟨by rfl, ?_⟩) (by assumption) ?_; rotate_left; (focus (intro w hSw; (try dsimp only at hSw); go_simp; (try with_reducible rfl))); (try simp only [Act.put, List.setIfInBounds_toArray, List.set_cons_zero, List.set_cons_succ, List.getElem_toArray, List.getElem_cons_zero, List.getElem_cons_succ]); refine wpAnyH_take (i := 11) (oi := _) (v := ?_) rfl (by kernel_rfl) (by kernel_rfl) (by kernel_rfl) (fun _ _ _ h => h) (Or.inl ⟨by rfl, ?_⟩) (by assumption) ?_; rotate_left; (focus (intro w hSw; (try dsimp only at hSw); go_simp; (try with_reducible rfl))); (try simp only [Act.put, List.setIfInBounds_toArray, List.set_cons_zero, List.set_cons_succ, List.getElem_toArray, List.getElem_cons_zero, List.getElem_cons_succ]); refine wpAnyH_take (i := 12) (oi := _) (v := ?_) rfl (by kernel_rfl) (by kernel_rfl) (by kernel_rfl) (fun _ _ _ h => h) (Or.inl ⟨by rfl, ?_⟩) (by assumption) ?_; rotate_left; (focus (intro w hSw; (try dsimp only at hSw); go_simp; (try with_reducible rfl))); (try simp only [Act.put, List.setIfInBounds_toArray, List.set_cons_zero, List.set_cons_succ, List.getElem_toArray, List.getElem_cons_zero, List.getElem_cons_succ]); refine wpAnyH_take (i := 13) (oi := _) (v := ?_) rfl (by kernel_rfl) (by kernel_rfl) (by kernel_rfl) (fun _ _ _ h => h) (Or.inl ⟨by rfl, ?_⟩) (by assumption) ?_; rotate_left; (focus (intro w hSw; (try dsimp only at hSw); go_simp; (try with_reducible rfl))); (try simp only [Act.put, List.setIfInBounds_toArray, List.set_cons_zero, List.set_cons_succ, List.getElem_toArray, List.getElem_cons_zero, List.getElem_cons_succ]); refine wpAnyH_take (i := 14) (oi := _) (v := ?_) rfl (by kernel_rfl) (by kernel_rfl) (by kernel_rfl) (fun _ _ _ h => h) (Or.inl ⟨by rfl, ?_⟩) (by assumption) ?_; rotate_left; (focus (intro w hSw; (try dsimp only at hSw); go_simp; (try with_reducible rfl))); (try simp only [Act.put, List.setIfInBounds_toArray, List.set_cons_zero, List.set_cons_succ, List.getElem_toArray, List.getElem_cons_zero, List.getElem_cons_succ]); refine wpAnyH_ready (rs := [15]) (by kernel_rfl) (by simp) ?_; refine AllReadyH.cons (o := _) rfl (fun K hK => ?_) AllReadyH.nil; (try simp only [List.getElem_toArray, List.getElem_cons_zero, List.getElem_cons_succ]); go_simp; (first | (go_at_call 75; refine (rHas_any s k _ (by omega) (by omega)).mono ?_; rw [Hbit.out]; rintro e w9 ⟨rfl, rfl⟩) | (go_at_call 70; refine (rin_any _ _ _ _).mono ?_; rw [Hin.out]; rintro e w8 ⟨rfl, rfl⟩)); (try (go_wp2_with fail)); refine hK.out _ _ ?_ (fun hHeld => ?_); (focus ((try dsimp only); refine (fun (hG : Grow wr _) => ⟨hG, Grow.keeps hG (by assumption), Grow.keeps hG (by assumption)⟩) ?_; (try go_split_ands); first | assumption | exact Grow.trans (by assumption) (by assumption) | exact Below.trans (by assumption) (by assumption))); clear hK K; (try simp only [Act.put, List.setIfInBounds_toArray, List.set_cons_zero, List.set_cons_succ, List.getElem_toArray, List.getElem_cons_zero, List.getElem_cons_succ]); refine wpAnyH_take (i := 16) (oi := _) (v := ?_) rfl (by kernel_rfl) (by kernel_rfl) (by kernel_rfl) (fun _ _ _ h => h) (Or.inl ⟨by rfl, ?_⟩) (by assumption) ?_; rotate_left; (focus (intro w hSw; (try dsimp only at hSw); go_simp; (try with_reducible rfl))); (try simp only [Act.put, List.setIfInBounds_toArray, List.set_cons_zero, List.set_cons_succ, List.getElem_toArray, List.getElem_cons_zero, List.getElem_cons_succ]); refine wpAnyH_take (i := 17) (oi := _) (v := ?_) rfl (by kernel_rfl) (by kernel_rfl) (by kernel_rfl) (fun _ _ _ h => h) (Or.inl ⟨by rfl, ?_⟩) (by assumption) ?_; rotate_left; (focus (intro w hSw; (try dsimp only at hSw); go_simp; (try with_reducible rfl))); (try simp only [Act.put, List.setIfInBounds_toArray, List.set_cons_zero, List.set_cons_succ, List.getElem_toArray, List.getElem_cons_zero, List.getElem_cons_succ]); refine wpAnyH_done (by kernel_rfl) ?_ _)
              have hG := hHeld.1
              go_wp2_with fail
              exact ⟨⟨k + 1, _, by omega, by go_num, rfl, Hst.out.symm, hg.trans hG⟩, by simp [intOf]; omega⟩
        · obtain rfl : k = l.length := by omega
          have hst := timesTo_succ E l s t
          rw [show rightT E l s (t : Int) = q from Hq.out.symm] at hst
          have HB2 := HB.out
          have hBw : W.heap.size ≤ wr.heap.size := (gO.trans hg).size
          have own2 := Hown.out.grow hg
          cases q
          · have Hst := Lib.hid hst
            clear hst
            go_wp2_with fail
            exact ⟨⟨t + 1, ov, rfl, by omega, by go_num, by rw [Hst.out]; simpa using own2, gO.trans hg⟩, by simp [intOf]; omega⟩
          · have Hst := Lib.hid hst
            have htl : (timesTo E l s t).length ≤ 204 := by
              unfold timesTo
              rw [List.length_map]
              exact Nat.le_trans (List.length_filter_le _ _) (by simp; omega)
            have hbytes : (((timesTo E l s t).map (Value.int .i64)).length + [Value.int .i64 (t : Int)].length) * 8 ≤ 140737488355328 := by simp; omega
            clear hst
            go_wp2_with (at_builtin; refine wpl_app rfl _ _ 38 rfl W.heap.size 3 i0 _ 8 hui hi0 hi1 hi2 hi3 rfl ov ((timesTo E l s t).map (Value.int .i64)) rfl (own2.alloc _) _ _ [.int .i64 (t : Int)] 1 rfl rfl (fun h => nomatch h) (row_new1 _ _ _ (by first | rfl | simp)) (by simp [Value.oneCell']) hbytes (by omega) (by simp; omega) ?_; intro v' wz hown1 hgr1 hmv1)
            have gz : Grow W wz := Below.trans ((gO.trans hg).alloc _) (grownBy_below hgr1 (fun k hk => own2.base k hk) (by simp; omega))
            exact ⟨⟨t + 1, v', rfl, by omega, by go_num, by rw [Hst.out]; simpa using hown1, gz⟩, by simp [intOf]; omega⟩
    · obtain rfl : t = 204 := by omega
      go_wp2_with fail
      go_ret
      exact ⟨_, rfl, Hown.out.lower gW.size, gW.trans hg⟩
end Go.Proofs.YtbeglemohfbdfaaGreat
