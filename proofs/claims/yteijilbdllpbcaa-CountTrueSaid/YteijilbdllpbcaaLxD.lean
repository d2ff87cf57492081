/- The law CountTrue: the walk. Conditions: sizes. -/
import Derived.Test.YteijilbdllpbcaaLwB
import Derived.Test.YteijilbdllpbcaaLxC
import Derived.Test.YteijilbdllpbcaaPlO
import Derived.Deep.DeepCutAuto
namespace Go.Proofs.Yteijilbdllpbcaa
open Go.RowKit

theorem take_one {α : Type} : ∀ {l : List α} {x : α}, l[0]? = some x → l.take 1 = [x]
  | y :: l, x, h => by simp at h; simp [h]
theorem take_two {α : Type} : ∀ {l : List α} {x y : α}, l[0]? = some x → l[1]? = some y → l.take 2 = [x, y]
  | a :: b :: l, x, y, h, k => by simp at h k; simp [h, k]
set_option maxRecDepth 100000 in
set_option maxHeartbeats 8000000 in
theorem lcountTrue (u : Value) (bs : List Int) (w : World) (hu : IsK .u16 w u bs) :
    Calls Try.prog 5 #[u] w fun e w' => e = .returned (.bool true) ∧ Grow w w' := by
  obtain ⟨za, zc, rfl, hzc, hzl, hzr, hzw⟩ := id hu
  have Hu := Lib.hid hu
  have Hzr := Lib.hid hzr
  clear hu hzr hzw hzl hzc
  go_enter Try.func5, Try.ntmps5
  go_wp2_with fail
  refine (ldraws_any za bs.length zc w).mono ?_
  rintro e w1 ⟨A, Y, rfl, g1, hA1, hA2, hne, hcA, hfA, hcY⟩
  have huA : bs = [] ∨ ∀ b, (Value.slice za bs.length zc).ownBlock = some b → b ≠ A := by
    by_cases hb : bs = []
    · exact .inl hb
    · refine .inr fun b hb' => ?_
      obtain ⟨b2, o2, x, _, rfl, hc⟩ := Hzr.out.kind (i := 0) (List.length_pos_iff.2 hb)
      have h1 : b2 = b := by simpa [Value.ownBlock] using hb'
      have h2 : b2 < w.heap.size := lt_of_cell hc
      omega
  have QM := lmade_any A Y _ bs w1 hcA hfA hcY hne (Hu.out.grow g1) huA
  have Hg1 := Lib.hid g1
  clear hcA hfA hcY hne huA hA2 g1 Hu Hzr
  go_wp2_with fail
  refine QM.mono ?_
  clear QM
  rintro e w2 ⟨P, rv, cv, ev, r, es, ss, rfl, hg2, hI, hS, hE, hP, hn, hr6, hrx, hel, hsh⟩
  have gw : Grow w w2 := Below.trans Hg1.out (grownBy_below hg2 (fun k hk => by injection hk with hk; omega) Hg1.out.size)
  have hP1 : -9223372036854775808 ≤ P := by omega
  have hP2 : P ≤ 9223372036854775807 := by omega
  have hval : validB P ss = true := valid_of hP hn fun s hs => hsh.1 s hs
  have hrc : raceB P r = true := raceB_all.2 hrx
  have Hval := Lib.hid hval
  have Hrc := Lib.hid hrc
  have Hsh := Lib.hid hsh
  have Hrx := Lib.hid hrx
  obtain ⟨ra, rc, rfl, _, _, _⟩ := id hI
  obtain ⟨ea, ec, rfl, _, he8, her⟩ := id hE
  obtain ⟨a, cap, rfl, hcap, hlen, hrow⟩ := id hS
  obtain ⟨b, o, s0, sa0, sc0, hx0, rfl, hb0, hsc0, hs80, hsr0⟩ := hrow.get (i := 0) (by omega)
  have Hx0 := Lib.hid hx0
  have Hrow := Lib.hid hrow
  have Her := Lib.hid her
  have I := Lib.hid hI
  have HS := Lib.hid hS
  clear hg2 hI hS hE hsh hrx hval hrc hrow her hx0 hsr0 Hg1 hA1 hb0 hsc0 hs80
  rw [hel]
  go_wp2_with fail
  have gb : Grow w2 w2 := Grow.refl _
  obtain ⟨w20, hW⟩ : ∃ z, w2.alloc (.cells #[.int .i64 P, .slice (some ⟨b, o, none⟩) ss.length cap] 24) = z := ⟨_, rfl⟩
  obtain ⟨B, hB⟩ : ∃ z, w2.heap.size = z := ⟨_, rfl⟩
  have g20 : Grow w2 w20 := by rw [← hW]; exact (Grow.refl _).alloc _
  have d0 : w20.cell? ⟨B, 0, none⟩ = some (.int .i64 P) := by rw [← hW]; exact cell_new hB.symm rfl
  have d1 : w20.cell? ⟨B, 1, none⟩ = some (.slice (some ⟨b, o, none⟩) ss.length cap) := by rw [← hW]; exact cell_new hB.symm rfl
  rw [hW, hB]
  clear hW hB
  replace gw := gw.trans g20
  replace gb := gb.trans g20
  replace I := Lib.hid (I.out.grow g20)
  have dl := lt_of_cell d0
  (try clear g20)
  go_loopw [39] (fun i wr => ∃ k : Nat, k ≤ ss.length ∧ i = .int .i64 k ∧ Grow w20 wr) (fun i _ => ss.length - (intOf i).toNat)
  case atStart => exact ⟨0, Nat.zero_le _, rfl, Grow.refl _⟩
  case round =>
    obtain ⟨k, hk, rfl, hg⟩ := hrel
    have gB := gb.trans hg
    by_cases hlt : k < ss.length
    · skip
      obtain ⟨b', o', sk, sa, sc, hx, hbo, hcs, hsc, hs8, hsr⟩ := Hrow.out.get hlt
      cases hbo
      have hck := gB.keeps hcs
      obtain ⟨n, hen, hn6, hal⟩ := Hsh.out.2 k sk hx
      have hle := hal.le (by omega)
      obtain ⟨eb, eo, hea, hce⟩ := Her.out k (.int .i64 (n : Int)) (by simp [hen])
      subst hea
      have hce := gB.keeps hce
      have hsI : Hid (IsInts wr (.slice sa sk.length sc) sk) := ⟨sa, sc, rfl, hsc, hs8, hsr.grow gB⟩
      have I2 := Lib.hid (I.out.grow hg)
      obtain ⟨q, hq⟩ : ∃ q, errs r sk = q := ⟨_, rfl⟩
      rw [hq] at hle
      have E1 : decide ((n : Int) < q) = false := decide_eq_false (by omega)
      have hkI : (k : Int) < ss.length := by omega
      have Hq := Lib.hid hq
      clear hx hcs hsc hs8 hsr hen hal hq
      go_wp2_with fail
      refine (rErrs_any r sk _ _ _ I2.out hsI.out).mono ?_
      rw [Hq.out]
      rintro e w9 ⟨rfl, g9⟩
      have hce := g9.keeps hce
      go_wp2_with fail
      exact ⟨⟨k + 1, by omega, by go_num, hg.trans g9⟩, by simp [intOf]; omega⟩
    · clear hk
      (try clear dl)
      replace d0 := hg.keeps d0
      replace d1 := hg.keeps d1
      replace gw := gw.trans hg
      replace gb := gb.trans hg
      replace I := Lib.hid (I.out.grow hg)
      have dl := lt_of_cell d0
      clear hg gB
      by_cases h1 : ss.length = 1
      · skip
        have htt : ss.take 1 = [s0] := take_one Hx0.out
        have hmin : min (2 : Int) (ss.length : Int) = 1 := by omega
        have H1 := Lib.hid h1
        clear h1
        go_wp2_with fail
        refine (lfirst_any P ss _ cap 1 _ (HS.out.grow gb) (by omega)).mono ?_
        rintro e w21 ⟨a2, c2, rfl, hT, g21⟩
        (try clear dl)
        replace d0 := g21.keeps d0
        replace d1 := g21.keeps d1
        replace gw := gw.trans g21
        replace gb := gb.trans g21
        replace I := Lib.hid (I.out.grow g21)
        have dl := lt_of_cell d0
        clear hmin
        have HT := Lib.hid hT
        clear hT
        (try clear g21)
        go_wp2_with fail
        rw [htt] at HT
        obtain ⟨a3, c3, he3, _, _, hr3⟩ := id HT.out
        cases he3
        obtain ⟨b2, o2, t0, ta0, tc0, hy0, rfl, y0, htc0, ht80, htr0⟩ := hr3.get (i := 0) (by simp)
        rw [Nat.add_zero] at y0
        cases hy0
        have J0 : Hid (IsInts w21 (.slice ta0 s0.length tc0) s0) := ⟨ta0, tc0, rfl, htc0, ht80, htr0⟩
        clear hr3 htc0 ht80 htr0
        obtain ⟨w22, hW⟩ : ∃ z, w21.alloc (.cells #[.int .i64 P, .slice (some ⟨b2, o2, none⟩) 1 c2] 24) = z := ⟨_, rfl⟩
        obtain ⟨B2, hB⟩ : ∃ z, w21.heap.size = z := ⟨_, rfl⟩
        have g22 : Grow w21 w22 := by rw [← hW]; exact (Grow.refl _).alloc _
        have x0 : w22.cell? ⟨B2, 0, none⟩ = some (.int .i64 P) := by rw [← hW]; exact cell_new hB.symm rfl
        have x1 : w22.cell? ⟨B2, 1, none⟩ = some (.slice (some ⟨b2, o2, none⟩) 1 c2) := by rw [← hW]; exact cell_new hB.symm rfl
        rw [hW, hB]
        clear hW hB
        (try clear dl)
        replace d0 := g22.keeps d0
        replace d1 := g22.keeps d1
        replace y0 := g22.keeps y0
        replace gw := gw.trans g22
        replace gb := gb.trans g22
        replace I := Lib.hid (I.out.grow g22)
        replace HT := Lib.hid (HT.out.grow g22)
        replace J0 := Lib.hid (J0.out.grow g22)
        have dl := lt_of_cell d0
        have dx := lt_of_cell x0
        (try clear g22)
        have hs0 := Hsh.out.1 s0 (List.mem_of_getElem? Hx0.out)
        have hvt : validB P [s0] = true := valid_of hP (by simp) fun s hs => by rw [List.mem_singleton.1 hs]; exact hs0
        have hr0 : raceB P s0 = true := raceB_all.2 hs0.2
        have he : errOf P [s0] true = 0 := errOf_ok hvt rfl (by simp [truthsR])
        have QF : Hid (∀ V z, IsSheets V z [s0] → Calls Try.prog 13 #[.agg #[.int .i64 P, z]] V fun e w' => e = .returned (.tuple #[.int .i64 0, .int .i64 0]) ∧ Grow V w') := fun V z hz => by
          have h := pFewest_any P z [s0] V hz
          rw [he] at h
          exact h
        have QC : Hid (∀ V z, IsSheets V z [s0] → Calls Try.prog 15 #[.agg #[.int .i64 P, z]] V fun e w' => e = .returned (.tuple #[.int .i64 1, .int .i64 0]) ∧ Grow V w') := fun V z hz => by
          have h := pCount_any P z [s0] V hz
          rw [show countR P [s0] = 1 by unfold countR; rw [if_pos hvt]; rfl, show validE P [s0] = 0 by unfold validE; rw [if_pos hvt]] at h
          exact h
        have QI : Hid (∀ V z y, IsSheets V z [s0] → IsInts V y s0 → Calls Try.prog 19 #[.agg #[.int .i64 P, z], y] V fun e w' => e = .returned (.tuple #[.bool true, .int .i64 0]) ∧ Grow V w') := fun V z y hz hy => by
          have h := pIs_any P z y [s0] s0 V hP1 hP2 hz hy
          rw [(isR_mem hvt hr0).2 (by simp [truthsR]), isE_race hvt hr0] at h
          exact h
        clear he
        refine (QF.out _ _ HT.out).mono ?_
        rintro e w23 ⟨rfl, g23⟩
        (try clear dl)
        (try clear dx)
        replace d0 := g23.keeps d0
        replace d1 := g23.keeps d1
        replace y0 := g23.keeps y0
        replace x0 := g23.keeps x0
        replace x1 := g23.keeps x1
        replace gw := gw.trans g23
        replace gb := gb.trans g23
        replace I := Lib.hid (I.out.grow g23)
        replace HT := Lib.hid (HT.out.grow g23)
        replace J0 := Lib.hid (J0.out.grow g23)
        have dl := lt_of_cell d0
        have dx := lt_of_cell x0
        (try clear g23)
        go_wp2_with fail
        (refine wp_region_held_drew (S := fun Wx => Grow w23 Wx ∧ Wx.cell? ⟨B2, 0, none⟩ = some (.int .i64 P) ∧ Wx.cell? ⟨B2, 1, none⟩ = some (.slice (some ⟨b2, o2, none⟩) 1 c2) ∧ Wx.cell? ⟨b2, o2, none⟩ = some (.slice ta0 s0.length tc0)) (by kernel_rfl) ⟨(Below.refl _ _).drew, Grow.keeps (Below.refl _ _).drew (by assumption), Grow.keeps (Below.refl _ _).drew (by assumption), Grow.keeps (Below.refl _ _).drew (by assumption)⟩ (fun hHeld => ?_); refine wpAnyH_take (i := 0) (oi := _) (v := ?_) rfl (by kernel_rfl) (by kernel_rfl) (by kernel_rfl) (fun _ _ _ h => h) (Or.inl ⟨by rfl, ?_⟩) (by assumption) ?_; rotate_left; (focus (intro w hSw; (try dsimp only at hSw); go_simp; (try with_reducible rfl))); (try simp only [Act.put, List.setIfInBounds_toArray, List.set_cons_zero, List.set_cons_succ, List.getElem_toArray, List.getElem_cons_zero]); refine wpAnyH_take (i := 1) (oi := _) (v := ?_) rfl (by kernel_rfl) (by kernel_rfl) (by kernel_rfl) (fun _ _ _ h => h) (Or.inl ⟨by rfl, ?_⟩) (by assumption) ?_; rotate_left; (focus (intro w hSw; (try dsimp only at hSw); go_simp; (try with_reducible rfl))); (try simp only [Act.put, List.setIfInBounds_toArray, List.set_cons_zero, List.set_cons_succ, List.getElem_toArray, List.getElem_cons_zero, List.getElem_cons_succ]); refine wpAnyH_take (i := 2) (oi := _) (v := ?_) rfl (by kernel_rfl) (by kernel_rfl) (by kernel_rfl) (fun _ _ _ h => h) (Or.inl ⟨by rfl, ?_⟩) (by assumption) ?_; rotate_left; (focus (intro w hSw; (try dsimp only at hSw); go_simp; (try with_reducible rfl))); (try simp only [Act.put, List.setIfInBounds_toArray, List.set_cons_zero, List.set_cons_succ, List.getElem_toArray, List.getElem_cons_zero, List.getElem_cons_succ]); refine wpAnyH_take (i := 3) (oi := _) (v := ?_) rfl (by kernel_rfl) (by kernel_rfl) (by kernel_rfl) (fun _ _ _ h => h) (Or.inl ⟨by rfl, ?_⟩) (by assumption) ?_; rotate_left; (focus (intro w hSw; (try dsimp only at hSw); go_simp; (try with_reducible rfl))); (try simp only [Act.put, List.setIfInBounds_toArray, List.set_cons_zero, List.set_cons_succ, List.getElem_toArray, List.getElem_cons_zero, List.getElem_cons_succ]); refine wpAnyH_take (i := 4) (oi := _) (v := ?_) rfl (by kernel_rfl) (by kernel_rfl) (by kernel_rfl) (fun _ _ _ h => h) (Or.inl ⟨by rfl, ?_⟩) (by assumption) ?_; rotate_left; (focus (intro w hSw; (try dsimp only at hSw); go_simp; (try with_reducible rfl))); (try simp only [Act.put, List.setIfInBounds_toArray, List.set_cons_zero, List.set_cons_succ, List.getElem_toArray, List.getElem_cons_zero, List.getElem_cons_succ]); refine wpAnyH_ready (rs := [5]) (by kernel_rfl) (by simp) ?_; refine AllReadyH.cons (o := _) rfl (fun K hK => ?_) AllReadyH.nil; (try simp only [List.getElem_toArray, List.getElem_cons_zero, List.getElem_cons_succ]); go_simp; (go_at_call 19; refine (QI.out _ _ _ (HT.out.grow (by first | assumption | (go_split_ands; assumption) | exact (Grow.refl _).drew)) (J0.out.grow (by first | assumption | (go_split_ands; assumption) | exact (Grow.refl _).drew))).mono ?_; rintro e w99 ⟨rfl, g99⟩); (try (go_wp2_with fail)); refine hK.out _ _ ?_ (fun hHeld => ?_); (focus ((try dsimp only); refine (fun (hG : Grow w23 _) => ⟨hG, Grow.keeps hG (by assumption), Grow.keeps hG (by assumption), Grow.keeps hG (by assumption)⟩) ?_; (try go_split_ands); first | assumption | exact Grow.trans (by assumption) (by assumption) | exact Below.trans (by assumption) (by assumption))); clear hK K; (try simp only [Act.put, List.setIfInBounds_toArray, List.set_cons_zero, List.set_cons_succ, List.getElem_toArray, List.getElem_cons_zero, List.getElem_cons_succ]); refine wpAnyH_take (i := 6) (oi := _) (v := ?_) rfl (by kernel_rfl) (by kernel_rfl) (by kernel_rfl) (fun _ _ _ h => h) (Or.inl ⟨by rfl, ?_⟩) (by assumption) ?_; rotate_left; (focus (intro w hSw; (try dsimp only at hSw); go_simp; (try with_reducible rfl))); (try simp only [Act.put, List.setIfInBounds_toArray, List.set_cons_zero, List.set_cons_succ, List.getElem_toArray, List.getElem_cons_zero, List.getElem_cons_succ]); refine wpAnyH_take (i := 7) (oi := _) (v := ?_) rfl (by kernel_rfl) (by kernel_rfl) (by kernel_rfl) (fun _ _ _ h => h) (Or.inl ⟨by rfl, ?_⟩) (by assumption) ?_; rotate_left; (focus (intro w hSw; (try dsimp only at hSw); go_simp; (try with_reducible rfl))); (try simp only [Act.put, List.setIfInBounds_toArray, List.set_cons_zero, List.set_cons_succ, List.getElem_toArray, List.getElem_cons_zero, List.getElem_cons_succ]); refine wpAnyH_take (i := 8) (oi := _) (v := ?_) rfl (by kernel_rfl) (by kernel_rfl) (by kernel_rfl) (fun _ _ _ h => h) (Or.inl ⟨by rfl, ?_⟩) (by assumption) ?_; rotate_left; (focus (intro w hSw; (try dsimp only at hSw); go_simp; (try with_reducible rfl))); (try simp only [Act.put, List.setIfInBounds_toArray, List.set_cons_zero, List.set_cons_succ, List.getElem_toArray, List.getElem_cons_zero, List.getElem_cons_succ]); refine wpAnyH_take (i := 9) (oi := _) (v := ?_) rfl (by kernel_rfl) (by kernel_rfl) (by kernel_rfl) (fun _ _ _ h => h) (Or.inl ⟨by rfl, ?_⟩) (by assumption) ?_; rotate_left; (focus (intro w hSw; (try dsimp only at hSw); go_simp; (try with_reducible rfl))); (try simp only [Act.put, List.setIfInBounds_toArray, List.set_cons_zero, List.set_cons_succ, List.getElem_toArray, List.getElem_cons_zero, List.getElem_cons_succ]); refine wpAnyH_take (i := 10) (oi := _) (v := ?_) rfl (by kernel_rfl) (by kernel_rfl) (by kernel_rfl) (fun _ _ _ h => h) (Or.inl ⟨by rfl, ?_⟩) (by assumption) ?_; rotate_left; (focus (intro w hSw; (try dsimp only at hSw); go_simp; (try with_reducible rfl))); (try simp only [Act.put, List.setIfInBounds_toArray, List.set_cons_zero, List.set_cons_succ, List.getElem_toArray, List.getElem_cons_zero, List.getElem_cons_succ]); refine wpAnyH_done (by kernel_rfl) ?_ _)
        (try clear dl)
        (try clear dx)
        replace d0 := hHeld.1.keeps d0
        replace d1 := hHeld.1.keeps d1
        replace y0 := hHeld.1.keeps y0
        replace x0 := hHeld.1.keeps x0
        replace x1 := hHeld.1.keeps x1
        replace gw := gw.trans hHeld.1
        replace gb := gb.trans hHeld.1
        replace I := Lib.hid (I.out.grow hHeld.1)
        replace HT := Lib.hid (HT.out.grow hHeld.1)
        replace J0 := Lib.hid (J0.out.grow hHeld.1)
        have dl := lt_of_cell d0
        have dx := lt_of_cell x0
        clear hHeld
        go_wp2_with fail
        refine (QC.out _ _ HT.out).mono ?_
        rintro e w24 ⟨rfl, g24⟩
        (try clear dl)
        (try clear dx)
        replace d0 := g24.keeps d0
        replace d1 := g24.keeps d1
        replace y0 := g24.keeps y0
        replace x0 := g24.keeps x0
        replace x1 := g24.keeps x1
        replace gw := gw.trans g24
        replace gb := gb.trans g24
        replace I := Lib.hid (I.out.grow g24)
        replace HT := Lib.hid (HT.out.grow g24)
        replace J0 := Lib.hid (J0.out.grow g24)
        have dl := lt_of_cell d0
        have dx := lt_of_cell x0
        (try clear g24)
        go_wp2_with fail
        (try clear dl)
        (try clear dx)
        refine (lalive_any _).mono ?_
        rintro e w25 ⟨rfl, g25⟩
        go_wp2_with fail
        go_ret
        exact ⟨rfl, gw.trans g25⟩
      · skip
        obtain ⟨_, _, s1, sa1, sc1, hx1, hbo, hb1, hsc1, hs81, hsr1⟩ := Hrow.out.get (i := 1) (by omega)
        cases hbo
        obtain ⟨_, _, s0b, sa0, sc0, hx0b, hbo, hb0, hsc0, hs80, hsr0⟩ := Hrow.out.get (i := 0) (by omega)
        cases hbo
        obtain rfl : s0 = s0b := by have := Hx0.out; rw [hx0b] at this; injection this with this; exact this.symm
        clear hx0b
        rw [Nat.add_zero] at hb0
        have hb0 := gb.keeps hb0
        have hb1 := gb.keeps hb1
        have Hs0 : Hid (IsInts w2 (.slice sa0 s0.length sc0) s0) := ⟨sa0, sc0, rfl, hsc0, hs80, hsr0⟩
        have Hs1 : Hid (IsInts w2 (.slice sa1 s1.length sc1) s1) := ⟨sa1, sc1, rfl, hsc1, hs81, hsr1⟩
        clear hsc1 hs81 hsr1 hsc0 hs80 hsr0
        have Y1 : 1 < ss.length := by omega
        have Y0 : 0 < ss.length := by omega
        have Z1 : (1 : Int) < ss.length := by omega
        have Z0 : (0 : Int) < ss.length := by omega
        have htt : ss.take 2 = [s0, s1] := take_two Hx0.out hx1
        obtain ⟨n0, hen0, hn06, hal0⟩ := Hsh.out.2 0 s0 Hx0.out
        obtain ⟨n1, hen1, hn16, hal1⟩ := Hsh.out.2 1 s1 hx1
        have hs0 := Hsh.out.1 s0 (List.mem_of_getElem? Hx0.out)
        have hs1 := Hsh.out.1 s1 (List.mem_of_getElem? hx1)
        have hq0 := hal0.le (by omega)
        have hq1 := hal1.le (by omega)
        obtain ⟨eb, eo, hea, hc0⟩ := Her.out 0 (.int .i64 (n0 : Int)) (by simp [hen0])
        subst hea
        obtain ⟨eb', eo', hea, hc1⟩ := Her.out 1 (.int .i64 (n1 : Int)) (by simp [hen1])
        cases hea
        rw [Nat.add_zero] at hc0
        have hc0 := gb.keeps hc0
        have hc1 := gb.keeps hc1
        clear hx1 hen0 hen1 hal0 hal1
        have hmin : min (2 : Int) (ss.length : Int) = 2 := by omega
        have H1 := Lib.hid h1
        clear h1
        go_wp2_with fail
        refine (lfirst_any P ss _ cap 2 _ (HS.out.grow gb) (by omega)).mono ?_
        rintro e w26 ⟨a2, c2, rfl, hT, g26⟩
        (try clear dl)
        replace d0 := g26.keeps d0
        replace d1 := g26.keeps d1
        replace hb0 := g26.keeps hb0
        replace hb1 := g26.keeps hb1
        replace hc0 := g26.keeps hc0
        replace hc1 := g26.keeps hc1
        replace gw := gw.trans g26
        replace gb := gb.trans g26
        replace I := Lib.hid (I.out.grow g26)
        have dl := lt_of_cell d0
        clear hmin
        have HT := Lib.hid hT
        clear hT
        (try clear g26)
        go_wp2_with fail
        rw [htt] at HT
        obtain ⟨a3, c3, he3, _, _, hr3⟩ := id HT.out
        cases he3
        obtain ⟨b2, o2, t0, ta0, tc0, hy0, rfl, y0, htc0, ht80, htr0⟩ := hr3.get (i := 0) (by simp)
        rw [Nat.add_zero] at y0
        cases hy0
        have J0 : Hid (IsInts w26 (.slice ta0 s0.length tc0) s0) := ⟨ta0, tc0, rfl, htc0, ht80, htr0⟩
        clear hr3 htc0 ht80 htr0
        obtain ⟨w27, hW⟩ : ∃ z, w26.alloc (.cells #[.int .i64 P, .slice (some ⟨b2, o2, none⟩) 2 c2] 24) = z := ⟨_, rfl⟩
        obtain ⟨B2, hB⟩ : ∃ z, w26.heap.size = z := ⟨_, rfl⟩
        have g27 : Grow w26 w27 := by rw [← hW]; exact (Grow.refl _).alloc _
        have x0 : w27.cell? ⟨B2, 0, none⟩ = some (.int .i64 P) := by rw [← hW]; exact cell_new hB.symm rfl
        have x1 : w27.cell? ⟨B2, 1, none⟩ = some (.slice (some ⟨b2, o2, none⟩) 2 c2) := by rw [← hW]; exact cell_new hB.symm rfl
        rw [hW, hB]
        clear hW hB
        (try clear dl)
        replace d0 := g27.keeps d0
        replace d1 := g27.keeps d1
        replace hb0 := g27.keeps hb0
        replace hb1 := g27.keeps hb1
        replace hc0 := g27.keeps hc0
        replace hc1 := g27.keeps hc1
        replace y0 := g27.keeps y0
        replace gw := gw.trans g27
        replace gb := gb.trans g27
        replace I := Lib.hid (I.out.grow g27)
        replace HT := Lib.hid (HT.out.grow g27)
        replace J0 := Lib.hid (J0.out.grow g27)
        have dl := lt_of_cell d0
        have dx := lt_of_cell x0
        (try clear g27)
        have hvt : validB P [s0, s1] = true := valid_of hP (by simp) fun s hs => by
          rcases List.mem_cons.1 hs with hs | hs
          · rw [hs]; exact hs0
          · rw [List.mem_singleton.1 hs]; exact hs1
        obtain ⟨hTn, hnle, his⟩ := two_facts hvt Hrc.out (by omega)
        have he : errOf P [s0, s1] true = 0 := errOf_ok hvt rfl hTn
        obtain ⟨n, hn2⟩ : ∃ n, (truthsR P.toNat [s0, s1]).2 = n := ⟨_, rfl⟩
        obtain ⟨ib, hib⟩ : ∃ ib, isR P [s0, s1] r = ib := ⟨_, rfl⟩
        obtain ⟨q0, hq0'⟩ : ∃ q, errs r s0 = q := ⟨_, rfl⟩
        obtain ⟨q1, hq1'⟩ : ∃ q, errs r s1 = q := ⟨_, rfl⟩
        rw [hn2, hq0', hq1'] at hnle
        rw [hn2, hq0', hq1', hib] at his
        rw [hq0'] at hq0
        rw [hq1'] at hq1
        have hz0 : 0 ≤ q0 := by rw [← hq0']; exact (errs_range r s0).1
        have hz1 : 0 ≤ q1 := by rw [← hq1']; exact (errs_range r s1).1
        have QF : Hid (∀ V z, IsSheets V z [s0, s1] → Calls Try.prog 13 #[.agg #[.int .i64 P, z]] V fun e w' => e = .returned (.tuple #[.int .i64 n, .int .i64 0]) ∧ Grow V w') := fun V z hz => by
          have h := pFewest_any P z [s0, s1] V hz
          rw [he, show (truthsE P [s0, s1] 0).2 = n from hn2] at h
          exact h
        have QI : Hid (∀ V z y, IsSheets V z [s0, s1] → IsInts V y r → Calls Try.prog 19 #[.agg #[.int .i64 P, z], y] V fun e w' => e = .returned (.tuple #[.bool ib, .int .i64 0]) ∧ Grow V w') := fun V z y hz hy => by
          have h := pIs_any P z y [s0, s1] r V hP1 hP2 hz hy
          rw [hib, isE_race hvt Hrc.out] at h
          exact h
        have RE : Hid (∀ V (y : Value) (q : Int), Grow w2 V → IsInts V (.slice ra r.length rc) r → ((y = .slice sa0 s0.length sc0 ∧ q = q0) ∨ (y = .slice sa1 s1.length sc1 ∧ q = q1)) → Calls Try.prog 32 #[.slice ra r.length rc, y] V fun e w' => e = .returned (.int .i64 q) ∧ Grow V w') := by
          rintro V y q hV hi (⟨rfl, rfl⟩ | ⟨rfl, rfl⟩)
          · have h := rErrs_any r s0 _ _ V hi (Hs0.out.grow hV)
            rw [hq0'] at h
            exact h
          · have h := rErrs_any r s1 _ _ V hi (Hs1.out.grow hV)
            rw [hq1'] at h
            exact h
        have Hib := Lib.hid hib
        have His := Lib.hid his
        have Hvt := Lib.hid hvt
        have Hq0 := Lib.hid hq0'
        have Hq1 := Lib.hid hq1'
        clear he hn2 hib hq0' hq1' his hvt hTn hs0 hs1
        refine (QF.out _ _ HT.out).mono ?_
        rintro e w28 ⟨rfl, g28⟩
        (try clear dl)
        (try clear dx)
        replace d0 := g28.keeps d0
        replace d1 := g28.keeps d1
        replace hb0 := g28.keeps hb0
        replace hb1 := g28.keeps hb1
        replace hc0 := g28.keeps hc0
        replace hc1 := g28.keeps hc1
        replace y0 := g28.keeps y0
        replace x0 := g28.keeps x0
        replace x1 := g28.keeps x1
        replace gw := gw.trans g28
        replace gb := gb.trans g28
        replace I := Lib.hid (I.out.grow g28)
        replace HT := Lib.hid (HT.out.grow g28)
        replace J0 := Lib.hid (J0.out.grow g28)
        have dl := lt_of_cell d0
        have dx := lt_of_cell x0
        (try clear g28)
        go_wp2_with fail
        have E1 : IntKind.i64.wrap ((n0 : Int) + (n1 : Int)) = (n0 : Int) + (n1 : Int) := IntWalk.i64_in _ (by omega)
        have E2 : decide ((n0 : Int) + (n1 : Int) < n) = false := decide_eq_false (by omega)
        (refine wp_region_held_drew (S := fun Wx => Grow w28 Wx ∧ Wx.cell? ⟨eb, eo, none⟩ = some (.int .i64 (n0 : Int)) ∧ Wx.cell? ⟨eb, eo + 1, none⟩ = some (.int .i64 (n1 : Int))) (by kernel_rfl) ⟨(Below.refl _ _).drew, Grow.keeps (Below.refl _ _).drew (by assumption), Grow.keeps (Below.refl _ _).drew (by assumption)⟩ (fun hHeld => ?_); refine wpAnyH_take (i := 0) (oi := _) (v := ?_) rfl (by kernel_rfl) (by kernel_rfl) (by kernel_rfl) (fun _ _ _ h => h) (Or.inl ⟨by rfl, ?_⟩) (by assumption) ?_; rotate_left; (focus (intro w hSw; (try dsimp only at hSw); go_simp; (try with_reducible rfl))); (try simp only [Act.put, List.setIfInBounds_toArray, List.set_cons_zero, List.set_cons_succ, List.getElem_toArray, List.getElem_cons_zero]); refine wpAnyH_take (i := 1) (oi := _) (v := ?_) rfl (by kernel_rfl) (by kernel_rfl) (by kernel_rfl) (fun _ _ _ h => h) (Or.inl ⟨by rfl, ?_⟩) (by assumption) ?_; rotate_left; (focus (intro w hSw; (try dsimp only at hSw); go_simp; (try with_reducible rfl))); (try simp only [Act.put, List.setIfInBounds_toArray, List.set_cons_zero, List.set_cons_succ, List.getElem_toArray, List.getElem_cons_zero, List.getElem_cons_succ]); refine wpAnyH_take (i := 2) (oi := _) (v := ?_) rfl (by kernel_rfl) (by kernel_rfl) (by kernel_rfl) (fun _ _ _ h => h) (Or.inl ⟨by rfl, ?_⟩) (by assumption) ?_; rotate_left; (focus (intro w hSw; (try dsimp only at hSw); go_simp; (try with_reducible rfl))); (try simp only [Act.put, List.setIfInBounds_toArray, List.set_cons_zero, List.set_cons_succ, List.getElem_toArray, List.getElem_cons_zero, List.getElem_cons_succ]); refine wpAnyH_take (i := 3) (oi := _) (v := ?_) rfl (by kernel_rfl) (by kernel_rfl) (by kernel_rfl) (fun _ _ _ h => h) (Or.inl ⟨by rfl, ?_⟩) (by assumption) ?_; rotate_left; (focus (intro w hSw; (try dsimp only at hSw); go_simp; (try with_reducible rfl))); (try simp only [Act.put, List.setIfInBounds_toArray, List.set_cons_zero, List.set_cons_succ, List.getElem_toArray, List.getElem_cons_zero, List.getElem_cons_succ]); refine wpAnyH_take (i := 4) (oi := _) (v := ?_) rfl (by kernel_rfl) (by kernel_rfl) (by kernel_rfl) (fun _ _ _ h => h) (Or.inl ⟨by rfl, ?_⟩) (by assumption) ?_; rotate_left; (focus (intro w hSw; (try dsimp only at hSw); go_simp; (try with_reducible rfl))); (try simp only [Act.put, List.setIfInBounds_toArray, List.set_cons_zero, List.set_cons_succ, List.getElem_toArray, List.getElem_cons_zero, List.getElem_cons_succ]); refine wpAnyH_take (i := 5) (oi := _) (v := ?_) rfl (by kernel_rfl) (by kernel_rfl) (by kernel_rfl) (fun _ _ _ h => h) (Or.inl ⟨by rfl, ?_⟩) (by assumption) ?_; rotate_left; (focus (intro w hSw; (try dsimp only at hSw); go_simp; (try with_reducible rfl))); (try simp only [Act.put, List.setIfInBounds_toArray, List.set_cons_zero, List.set_cons_succ, List.getElem_toArray, List.getElem_cons_zero, List.getElem_cons_succ]); refine wpAnyH_take (i := 6) (oi := _) (v := ?_) rfl (by kernel_rfl) (by kernel_rfl) (by kernel_rfl) (fun _ _ _ h => h) (Or.inl ⟨by rfl, ?_⟩) (by assumption) ?_; rotate_left; (focus (intro w hSw; (try dsimp only at hSw); go_simp; (try with_reducible rfl))); (try simp only [Act.put, List.setIfInBounds_toArray, List.set_cons_zero, List.set_cons_succ, List.getElem_toArray, List.getElem_cons_zero, List.getElem_cons_succ]); refine wpAnyH_take (i := 7) (oi := _) (v := ?_) rfl (by kernel_rfl) (by kernel_rfl) (by kernel_rfl) (fun _ _ _ h => h) (Or.inl ⟨by rfl, ?_⟩) (by assumption) ?_; rotate_left; (focus (intro w hSw; (try dsimp only at hSw); go_simp; (try with_reducible rfl))); (try simp only [Act.put, List.setIfInBounds_toArray, List.set_cons_zero, List.set_cons_succ, List.getElem_toArray, List.getElem_cons_zero, List.getElem_cons_succ]); refine wpAnyH_take (i := 8) (oi := _) (v := ?_) rfl (by kernel_rfl) (by kernel_rfl) (by kernel_rfl) (fun _ _ _ h => h) (Or.inl ⟨by rfl, ?_⟩) (by assumption) ?_; rotate_left; (focus (intro w hSw; (try dsimp only at hSw); go_simp; (try with_reducible rfl))); (try simp only [Act.put, List.setIfInBounds_toArray, List.set_cons_zero, List.set_cons_succ, List.getElem_toArray, List.getElem_cons_zero, List.getElem_cons_succ]); refine wpAnyH_done (by kernel_rfl) ?_ _)
        clear E1 E2
        (try clear dl)
        (try clear dx)
        replace d0 := hHeld.1.keeps d0
        replace d1 := hHeld.1.keeps d1
        replace hb0 := hHeld.1.keeps hb0
        replace hb1 := hHeld.1.keeps hb1
        replace hc0 := hHeld.1.keeps hc0
        replace hc1 := hHeld.1.keeps hc1
        replace y0 := hHeld.1.keeps y0
        replace x0 := hHeld.1.keeps x0
        replace x1 := hHeld.1.keeps x1
        replace gw := gw.trans hHeld.1
        replace gb := gb.trans hHeld.1
        replace I := Lib.hid (I.out.grow hHeld.1)
        replace HT := Lib.hid (HT.out.grow hHeld.1)
        replace J0 := Lib.hid (J0.out.grow hHeld.1)
        have dl := lt_of_cell d0
        have dx := lt_of_cell x0
        clear hHeld
        go_wp2_with fail
        refine (QI.out _ _ _ HT.out I.out).mono ?_
        rintro e w29 ⟨rfl, g29⟩
        (try clear dl)
        (try clear dx)
        replace d0 := g29.keeps d0
        replace d1 := g29.keeps d1
        replace hb0 := g29.keeps hb0
        replace hb1 := g29.keeps hb1
        replace hc0 := g29.keeps hc0
        replace hc1 := g29.keeps hc1
        replace y0 := g29.keeps y0
        replace x0 := g29.keeps x0
        replace x1 := g29.keeps x1
        replace gw := gw.trans g29
        replace gb := gb.trans g29
        replace I := Lib.hid (I.out.grow g29)
        replace HT := Lib.hid (HT.out.grow g29)
        replace J0 := Lib.hid (J0.out.grow g29)
        have dl := lt_of_cell d0
        have dx := lt_of_cell x0
        (try clear g29)
        go_wp2_with fail
        have E1 : IntKind.i64.wrap (q0 + q1) = q0 + q1 := IntWalk.i64_in _ (by omega)
        have hcut' : Hid (((q0 + q1) == n) = ib) := by
          show _ = _
          rw [His.out, Bool.eq_iff_iff, beq_iff_eq, decide_eq_true_iff]
        go_cut [140] (fun s140 V => s140 = .bool false ∧ Grow w29 V)
        case first =>
          cases ib
          case' false =>
            have E2 : (q0 + q1 == n) = false := hcut'.out
          case' true =>
            have E2 : (q0 + q1 == n) = true := hcut'.out
          all_goals
            (refine wp_region_held_drew (S := fun Wx => Grow w29 Wx ∧ Wx.cell? ⟨B, 1, none⟩ = some (.slice (some ⟨b, o, none⟩) ss.length cap) ∧ Wx.cell? ⟨b, o, none⟩ = some (.slice sa0 s0.length sc0) ∧ Wx.cell? ⟨b, o + 1, none⟩ = some (.slice sa1 s1.length sc1)) (by kernel_rfl) ⟨(Below.refl _ _).drew, Grow.keeps (Below.refl _ _).drew (by assumption), Grow.keeps (Below.refl _ _).drew (by assumption), Grow.keeps (Below.refl _ _).drew (by assumption)⟩ (fun hHeld => ?_); refine wpAnyH_take (i := 0) (oi := _) (v := ?_) rfl (by kernel_rfl) (by kernel_rfl) (by kernel_rfl) (fun _ _ _ h => h) (Or.inl ⟨by rfl, ?_⟩) (by assumption) ?_; rotate_left; (focus (intro w hSw; (try dsimp only at hSw); go_simp; (try with_reducible rfl))); (try simp only [Act.put, List.setIfInBounds_toArray, List.set_cons_zero, List.set_cons_succ, List.getElem_toArray, List.getElem_cons_zero]); refine wpAnyH_take (i := 1) (oi := _) (v := ?_) rfl (by kernel_rfl) (by kernel_rfl) (by kernel_rfl) (fun _ _ _ h => h) (Or.inl ⟨by rfl, ?_⟩) (by assumption) ?_; rotate_left; (focus (intro w hSw; (try dsimp only at hSw); go_simp; (try with_reducible rfl))); (try simp only [Act.put, List.setIfInBounds_toArray, List.set_cons_zero, List.set_cons_succ, List.getElem_toArray, List.getElem_cons_zero, List.getElem_cons_succ]); refine wpAnyH_take (i := 2) (oi := _) (v := ?_) rfl (by kernel_rfl) (by kernel_rfl) (by kernel_rfl) (fun _ _ _ h => h) (Or.inl ⟨by rfl, ?_⟩) (by assumption) ?_; rotate_left; (focus (intro w hSw; (try dsimp only at hSw); go_simp; (try with_reducible rfl))); (try simp only [Act.put, List.setIfInBounds_toArray, List.set_cons_zero, List.set_cons_succ, List.getElem_toArray, List.getElem_cons_zero, List.getElem_cons_succ]); refine wpAnyH_take (i := 3) (oi := _) (v := ?_) rfl (by kernel_rfl) (by kernel_rfl) (by kernel_rfl) (fun _ _ _ h => h) (Or.inl ⟨by rfl, ?_⟩) (by assumption) ?_; rotate_left; (focus (intro w hSw; (try dsimp only at hSw); go_simp; (try with_reducible rfl))); (try simp only [Act.put, List.setIfInBounds_toArray, List.set_cons_zero, List.set_cons_succ, List.getElem_toArray, List.getElem_cons_zero, List.getElem_cons_succ]); refine wpAnyH_take (i := 4) (oi := _) (v := ?_) rfl (by kernel_rfl) (by kernel_rfl) (by kernel_rfl) (fun _ _ _ h => h) (Or.inl ⟨by rfl, ?_⟩) (by assumption) ?_; rotate_left; (focus (intro w hSw; (try dsimp only at hSw); go_simp; (try with_reducible rfl))); (try simp only [Act.put, List.setIfInBounds_toArray, List.set_cons_zero, List.set_cons_succ, List.getElem_toArray, List.getElem_cons_zero, List.getElem_cons_succ]); refine wpAnyH_take (i := 5) (oi := _) (v := ?_) rfl (by kernel_rfl) (by kernel_rfl) (by kernel_rfl) (fun _ _ _ h => h) (Or.inl ⟨by rfl, ?_⟩) (by assumption) ?_; rotate_left; (focus (intro w hSw; (try dsimp only at hSw); go_simp; (try with_reducible rfl))); (try simp only [Act.put, List.setIfInBounds_toArray, List.set_cons_zero, List.set_cons_succ, List.getElem_toArray, List.getElem_cons_zero, List.getElem_cons_succ]); refine wpAnyH_take (i := 6) (oi := _) (v := ?_) rfl (by kernel_rfl) (by kernel_rfl) (by kernel_rfl) (fun _ _ _ h => h) (Or.inl ⟨by rfl, ?_⟩) (by assumption) ?_; rotate_left; (focus (intro w hSw; (try dsimp only at hSw); go_simp; (try with_reducible rfl))); (try simp only [Act.put, List.setIfInBounds_toArray, List.set_cons_zero, List.set_cons_succ, List.getElem_toArray, List.getElem_cons_zero, List.getElem_cons_succ]); refine wpAnyH_take (i := 7) (oi := _) (v := ?_) rfl (by kernel_rfl) (by kernel_rfl) (by kernel_rfl) (fun _ _ _ h => h) (Or.inl ⟨by rfl, ?_⟩) (by assumption) ?_; rotate_left; (focus (intro w hSw; (try dsimp only at hSw); go_simp; (try with_reducible rfl))); (try simp only [Act.put, List.setIfInBounds_toArray, List.set_cons_zero, List.set_cons_succ, List.getElem_toArray, List.getElem_cons_zero, List.getElem_cons_succ]); refine wpAnyH_take (i := 8) (oi := _) (v := ?_) rfl (by kernel_rfl) (by kernel_rfl) (by kernel_rfl) (fun _ _ _ h => h) (Or.inl ⟨by rfl, ?_⟩) (by assumption) ?_; rotate_left; (focus (intro w hSw; (try dsimp only at hSw); go_simp; (try with_reducible rfl))); (try simp only [Act.put, List.setIfInBounds_toArray, List.set_cons_zero, List.set_cons_succ, List.getElem_toArray, List.getElem_cons_zero, List.getElem_cons_succ]); refine wpAnyH_take (i := 10) (oi := _) (v := ?_) rfl (by kernel_rfl) (by kernel_rfl) (by kernel_rfl) (fun _ _ _ h => h) (Or.inl ⟨by rfl, ?_⟩) (by assumption) ?_; rotate_left; (focus (intro w hSw; (try dsimp only at hSw); go_simp; (try with_reducible rfl))); (try simp only [Act.put, List.setIfInBounds_toArray, List.set_cons_zero, List.set_cons_succ, List.getElem_toArray, List.getElem_cons_zero, List.getElem_cons_succ]); refine wpAnyH_take (i := 11) (oi := _) (v := ?_) rfl (by kernel_rfl) (by kernel_rfl) (by kernel_rfl) (fun _ _ _ h => h) (Or.inl ⟨by rfl, ?_⟩) (by assumption) ?_; rotate_left; (focus (intro w hSw; (try dsimp only at hSw); go_simp; (try with_reducible rfl))); (try simp only [Act.put, List.setIfInBounds_toArray, List.set_cons_zero, List.set_cons_succ, List.getElem_toArray, List.getElem_cons_zero, List.getElem_cons_succ]); refine wpAnyH_take (i := 12) (oi := _) (v := ?_) rfl (by kernel_rfl) (by kernel_rfl) (by kernel_rfl) (fun _ _ _ h => h) (Or.inl ⟨by rfl, ?_⟩) (by assumption) ?_; rotate_left; (focus (intro w hSw; (try dsimp only at hSw); go_simp; (try with_reducible rfl))); (try simp only [Act.put, List.setIfInBounds_toArray, List.set_cons_zero, List.set_cons_succ, List.getElem_toArray, List.getElem_cons_zero, List.getElem_cons_succ]); refine wpAnyH_take (i := 13) (oi := _) (v := ?_) rfl (by kernel_rfl) (by kernel_rfl) (by kernel_rfl) (fun _ _ _ h => h) (Or.inl ⟨by rfl, ?_⟩) (by assumption) ?_; rotate_left; (focus (intro w hSw; (try dsimp only at hSw); go_simp; (try with_reducible rfl))); (try simp only [Act.put, List.setIfInBounds_toArray, List.set_cons_zero, List.set_cons_succ, List.getElem_toArray, List.getElem_cons_zero, List.getElem_cons_succ]); refine wpAnyH_take (i := 14) (oi := _) (v := ?_) rfl (by kernel_rfl) (by kernel_rfl) (by kernel_rfl) (fun _ _ _ h => h) (Or.inl ⟨by rfl, ?_⟩) (by assumption) ?_; rotate_left; (focus (intro w hSw; (try dsimp only at hSw); go_simp; (try with_reducible rfl))); (try simp only [Act.put, List.setIfInBounds_toArray, List.set_cons_zero, List.set_cons_succ, List.getElem_toArray, List.getElem_cons_zero, List.getElem_cons_succ]); refine wpAnyH_take (i := 17) (oi := _) (v := ?_) rfl (by kernel_rfl) (by kernel_rfl) (by kernel_rfl) (fun _ _ _ h => h) (Or.inl ⟨by rfl, ?_⟩) (by assumption) ?_; rotate_left; (focus (intro w hSw; (try dsimp only at hSw); go_simp; (try with_reducible rfl))); (try simp only [Act.put, List.setIfInBounds_toArray, List.set_cons_zero, List.set_cons_succ, List.getElem_toArray, List.getElem_cons_zero, List.getElem_cons_succ]); refine wpAnyH_ready (rs := [9]) (by kernel_rfl) (by simp) ?_; refine AllReadyH.cons (o := _) rfl (fun K hK => ?_) AllReadyH.nil; (try simp only [List.getElem_toArray, List.getElem_cons_zero, List.getElem_cons_succ]); go_simp; (go_at_call 32; refine (RE.out _ _ _ (gb.trans (by first | assumption | (go_split_ands; assumption) | exact (Grow.refl _).drew)) (I.out.grow (by first | assumption | (go_split_ands; assumption) | exact (Grow.refl _).drew)) (by first | exact .inl ⟨rfl, rfl⟩ | exact .inr ⟨rfl, rfl⟩)).mono ?_; rintro e w99 ⟨rfl, g99⟩); (try (go_wp2_with fail)); refine hK.out _ _ ?_ (fun hHeld => ?_); (focus ((try dsimp only); refine (fun (hG : Grow w29 _) => ⟨hG, Grow.keeps hG (by assumption), Grow.keeps hG (by assumption), Grow.keeps hG (by assumption)⟩) ?_; (try go_split_ands); first | assumption | exact Grow.trans (by assumption) (by assumption) | exact Below.trans (by assumption) (by assumption))); clear hK K; (try simp only [Act.put, List.setIfInBounds_toArray, List.set_cons_zero, List.set_cons_succ, List.getElem_toArray, List.getElem_cons_zero, List.getElem_cons_succ]); refine wpAnyH_ready (rs := [15]) (by kernel_rfl) (by simp) ?_; refine AllReadyH.cons (o := _) rfl (fun K hK => ?_) AllReadyH.nil; (try simp only [List.getElem_toArray, List.getElem_cons_zero, List.getElem_cons_succ]); go_simp; (go_at_call 32; refine (RE.out _ _ _ (gb.trans (by first | assumption | (go_split_ands; assumption) | exact (Grow.refl _).drew)) (I.out.grow (by first | assumption | (go_split_ands; assumption) | exact (Grow.refl _).drew)) (by first | exact .inl ⟨rfl, rfl⟩ | exact .inr ⟨rfl, rfl⟩)).mono ?_; rintro e w99 ⟨rfl, g99⟩); (try (go_wp2_with fail)); refine hK.out _ _ ?_ (fun hHeld => ?_); (focus ((try dsimp only); refine (fun (hG : Grow w29 _) => ⟨hG, Grow.keeps hG (by assumption), Grow.keeps hG (by assumption), Grow.keeps hG (by assumption)⟩) ?_; (try go_split_ands); first | assumption | exact Grow.trans (by assumption) (by assumption) | exact Below.trans (by assumption) (by assumption))); clear hK K; (try simp only [Act.put, List.setIfInBounds_toArray, List.set_cons_zero, List.set_cons_succ, List.getElem_toArray, List.getElem_cons_zero, List.getElem_cons_succ]); refine wpAnyH_take (i := 16) (oi := _) (v := ?_) rfl (by kernel_rfl) (by kernel_rfl) (by kernel_rfl) (fun _ _ _ h => h) (Or.inl ⟨by rfl, ?_⟩) (by assumption) ?_; rotate_left; (focus (intro w hSw; (try dsimp only at hSw); go_simp; (try with_reducible rfl))); (try simp only [Act.put, List.setIfInBounds_toArray, List.set_cons_zero, List.set_cons_succ, List.getElem_toArray, List.getElem_cons_zero, List.getElem_cons_succ]); refine wpAnyH_take (i := 18) (oi := _) (v := ?_) rfl (by kernel_rfl) (by kernel_rfl) (by kernel_rfl) (fun _ _ _ h => h) (Or.inl ⟨by rfl, ?_⟩) (by assumption) ?_; rotate_left; (focus (intro w hSw; (try dsimp only at hSw); go_simp; (try with_reducible rfl))); (try simp only [Act.put, List.setIfInBounds_toArray, List.set_cons_zero, List.set_cons_succ, List.getElem_toArray, List.getElem_cons_zero, List.getElem_cons_succ]); refine wpAnyH_take (i := 19) (oi := _) (v := ?_) rfl (by kernel_rfl) (by kernel_rfl) (by kernel_rfl) (fun _ _ _ h => h) (Or.inl ⟨by rfl, ?_⟩) (by assumption) ?_; rotate_left; (focus (intro w hSw; (try dsimp only at hSw); go_simp; (try with_reducible rfl))); (try simp only [Act.put, List.setIfInBounds_toArray, List.set_cons_zero, List.set_cons_succ, List.getElem_toArray, List.getElem_cons_zero, List.getElem_cons_succ]); refine wpAnyH_take (i := 20) (oi := _) (v := ?_) rfl (by kernel_rfl) (by kernel_rfl) (by kernel_rfl) (fun _ _ _ h => h) (Or.inl ⟨by rfl, ?_⟩) (by assumption) ?_; rotate_left; (focus (intro w hSw; (try dsimp only at hSw); go_simp; (try with_reducible rfl))); (try simp only [Act.put, List.setIfInBounds_toArray, List.set_cons_zero, List.set_cons_succ, List.getElem_toArray, List.getElem_cons_zero, List.getElem_cons_succ]); refine wpAnyH_done (by kernel_rfl) ?_ _)
            go_wp2_with fail
            go_meet
            exact ⟨rfl, hHeld.1⟩
        case rest =>
          obtain ⟨rfl, hG12⟩ := hcut
          (try clear dl)
          (try clear dx)
          replace d0 := hG12.keeps d0
          replace d1 := hG12.keeps d1
          replace hb0 := hG12.keeps hb0
          replace hb1 := hG12.keeps hb1
          replace hc0 := hG12.keeps hc0
          replace hc1 := hG12.keeps hc1
          replace y0 := hG12.keeps y0
          replace x0 := hG12.keeps x0
          replace x1 := hG12.keeps x1
          replace gw := gw.trans hG12
          replace gb := gb.trans hG12
          replace I := Lib.hid (I.out.grow hG12)
          replace HT := Lib.hid (HT.out.grow hG12)
          replace J0 := Lib.hid (J0.out.grow hG12)
          have dl := lt_of_cell d0
          have dx := lt_of_cell x0
          clear hG12 E1 hcut'
          cases ib
          · go_wp2_with fail
            (try clear dl)
            (try clear dx)
            refine (lalive_any _).mono ?_
            rintro e w30 ⟨rfl, g30⟩
            go_wp2_with fail
            go_ret
            exact ⟨rfl, gw.trans g30⟩
          · have hmem : r ∈ (truthsR P.toNat [s0, s1]).1 := (isR_mem Hvt.out Hrc.out).1 Hib.out
            have Hmem := Lib.hid hmem
            have hcr : ∀ p : Int, r.count p ≤ 6 := fun p => Nat.le_trans List.count_le_length hr6
            have Hcr := Lib.hid hcr
            clear hmem hcr QF QI RE
            have gL : Grow wc wc := Grow.refl _
            have RL : Hid (∀ V (p : Int), Grow wc V → Calls Try.prog 34 #[.slice ra r.length rc, .int .i64 p] V fun e w' => e = .returned (.int .i64 (r.count p)) ∧ V = w') := fun V p hV => rLapsOf_any _ r p V (I.out.grow hV)
            have PL : Hid (∀ V (p : Int), Grow wc V → 0 ≤ p → p < P → ∃ S : Nat, S < 8192 ∧ S.testBit (r.count p) = true ∧ Calls Try.prog 26 #[.agg #[.int .i64 P, .slice (some ⟨b2, o2, none⟩) 2 c2], .int .i64 p] V fun e w' => e = .returned (.tuple #[.int .i64 S, .int .i64 0]) ∧ Grow V w') := fun V p hV h0 h1 => by
              obtain ⟨e2, S, hS, hS2, hbit⟩ := laps_bit Hvt.out Hmem.out ⟨h0, h1⟩
              have h := pLaps_any P p _ [s0, s1] V hP1 hP2 (HT.out.grow hV)
              rw [e2, hS] at h
              exact ⟨S, hS2, hbit, h⟩
            have PD : Hid (∀ V (p q : Int), Grow wc V → 0 ≤ p → p < P → 0 ≤ q → q < P → p ≠ q → ∃ lo hi : Int, lo ≤ (r.count p : Int) - (r.count q : Int) ∧ (r.count p : Int) - (r.count q : Int) ≤ hi ∧ Calls Try.prog 27 #[.agg #[.int .i64 P, .slice (some ⟨b2, o2, none⟩) 2 c2], .int .i64 p, .int .i64 q] V fun e w' => e = .returned (.tuple #[.agg #[.int .i64 lo, .int .i64 hi], .int .i64 0]) ∧ Grow V w') := fun V p q hV h0 h1 h2 h3 hne => by
              obtain ⟨e2, hlo, hhi⟩ := lead_in Hvt.out Hmem.out ⟨h0, h1⟩ ⟨h2, h3⟩ hne
              have h := pLead_any P p q _ [s0, s1] V hP1 hP2 (HT.out.grow hV)
              rw [e2] at h
              exact ⟨_, _, hlo, hhi, h⟩
            have PE : Hid (∀ V (i : Nat) (si : List Int), Grow wc V → [s0, s1][i]? = some si → ∃ lo hi : Int, lo ≤ errs r si ∧ errs r si ≤ hi ∧ Calls Try.prog 21 #[.agg #[.int .i64 P, .slice (some ⟨b2, o2, none⟩) 2 c2], .int .i64 (i : Int)] V fun e w' => e = .returned (.tuple #[.agg #[.int .i64 lo, .int .i64 hi], .int .i64 0]) ∧ Grow V w') := fun V i si hV hi => by
              obtain ⟨e2, hlo, hhi⟩ := errors_in Hvt.out Hmem.out hi
              have h := pErrors_any P i _ [s0, s1] V (HT.out.grow hV)
              rw [e2] at h
              exact ⟨_, _, hlo, hhi, h⟩
            go_wp2_with fail
            go_loopw [146] (fun i wr => ∃ p : Nat, (p : Int) ≤ P ∧ i = .int .i64 p ∧ Grow wc wr) (fun i _ => (P - intOf i).toNat)
            case atStart => exact ⟨0, by omega, rfl, Grow.refl _⟩
            case round =>
              obtain ⟨p, hp, rfl, hg⟩ := hrel
              (try clear dl)
              (try clear dx)
              replace d0 := hg.keeps d0
              replace d1 := hg.keeps d1
              replace x0 := hg.keeps x0
              replace x1 := hg.keeps x1
              replace gL := gL.trans hg
              have dl := lt_of_cell d0
              have dx := lt_of_cell x0
              by_cases hlt : (p : Int) < P
              · skip
                obtain ⟨S, hS2, hbit, QL⟩ := PL.out _ p gL (by omega) hlt
                obtain ⟨c, hc⟩ : ∃ c, r.count (p : Int) = c := ⟨_, rfl⟩
                have hc6 := Hcr.out p
                rw [hc] at hbit hc6
                have Hc := Lib.hid hc
                have hc12 : (c : Int) ≤ 12 := by omega
                have EB : bits .and .i64 ((S : Int) / 2 ^ c) 1 = 1 := by rw [bits_and S c hS2, hbit]; rfl
                clear hbit hc
                go_wp2_with fail
                refine (QL).mono ?_
                rintro e w98 ⟨rfl, g31⟩
                (try clear dl)
                (try clear dx)
                replace d0 := g31.keeps d0
                replace d1 := g31.keeps d1
                replace x0 := g31.keeps x0
                replace x1 := g31.keeps x1
                replace gL := gL.trans g31
                have dl := lt_of_cell d0
                have dx := lt_of_cell x0
                go_wp2_with fail
                have QR := RL.out _ p gL
                rw [Hc.out] at QR
                refine QR.mono ?_
                rintro e w97 ⟨rfl, rfl⟩
                rename_i w98
                go_wp2_with fail
                clear EB hc12 QR
                have hgP := hg.trans g31
                go_loopw [168] (fun i wr => ∃ q : Nat, (q : Int) ≤ P ∧ i = .int .i64 q ∧ Grow w98 wr) (fun i _ => (P - intOf i).toNat)
                case atStart => exact ⟨0, by omega, rfl, Grow.refl _⟩
                case round =>
                  obtain ⟨q, hq, rfl, hg2⟩ := hrel
                  (try clear dl)
                  (try clear dx)
                  replace d0 := hg2.keeps d0
                  replace d1 := hg2.keeps d1
                  replace x0 := hg2.keeps x0
                  replace x1 := hg2.keeps x1
                  replace gL := gL.trans hg2
                  have dl := lt_of_cell d0
                  have dx := lt_of_cell x0
                  by_cases hlq : (q : Int) < P
                  · by_cases hpq : p = q
                    · have E1 : ((p : Int) == q) = true := by simp [hpq]
                      have F1 : (p == q) = true := by simp [hpq]
                      clear hpq
                      go_wp2_with fail
                      exact ⟨⟨q + 1, by omega, by go_num, hg2⟩, by simp [intOf]; omega⟩
                    · skip
                      have E1 : ((p : Int) == q) = false := beq_eq_false_iff_ne.2 (by omega)
                      have F1 : (p == q) = false := beq_eq_false_iff_ne.2 hpq
                      obtain ⟨lo, hi, hlo, hhi, QD⟩ := PD.out _ p q gL (by omega) hlt (by omega) hlq (by omega)
                      have hd6 := Hcr.out q
                      obtain ⟨d, hd⟩ : ∃ d, r.count (q : Int) = d := ⟨_, rfl⟩
                      rw [Hc.out, hd] at hlo hhi
                      rw [hd] at hd6
                      have Hd := Lib.hid hd
                      have E2 : IntKind.i64.wrap ((c : Int) - d) = (c : Int) - d := IntWalk.i64_in _ (by omega)
                      have E3 : decide ((c : Int) - d < lo) = false := decide_eq_false (by omega)
                      have E4 : decide (hi < (c : Int) - d) = false := decide_eq_false (by omega)
                      clear hpq hd
                      go_wp2_with fail
                      refine (QD).mono ?_
                      rintro e w32 ⟨rfl, g32⟩
                      replace gL := gL.trans g32
                      replace hg2 := hg2.trans g32
                      clear E1 F1
                      (try clear g32)
                      go_wp2_with fail
                      obtain ⟨w33, hW⟩ : ∃ z, w32.alloc (.cells #[.int .i64 lo, .int .i64 hi] 36) = z := ⟨_, rfl⟩
                      obtain ⟨BS, hB⟩ : ∃ z, w32.heap.size = z := ⟨_, rfl⟩
                      have g33 : Grow w32 w33 := by rw [← hW]; exact (Grow.refl _).alloc _
                      have s0_ : w33.cell? ⟨BS, 0, none⟩ = some (.int .i64 lo) := by rw [← hW]; exact cell_new hB.symm rfl
                      have s1_ : w33.cell? ⟨BS, 1, none⟩ = some (.int .i64 hi) := by rw [← hW]; exact cell_new hB.symm rfl
                      rw [hW, hB]
                      clear hW hB
                      replace gL := gL.trans g33
                      replace hg2 := hg2.trans g33
                      have ls := lt_of_cell s0_
                      (try clear g33)
                      have QR := RL.out _ p gL
                      rw [Hc.out] at QR
                      refine QR.mono ?_
                      rintro e w97 ⟨rfl, rfl⟩
                      go_wp2_with fail
                      have QR := RL.out _ q gL
                      rw [Hd.out] at QR
                      refine QR.mono ?_
                      rintro e w97 ⟨rfl, rfl⟩
                      go_wp2_with fail
                      exact ⟨⟨q + 1, by omega, by go_num, hg2⟩, by simp [intOf]; omega⟩
                  · go_wp2_with fail
                    exact ⟨⟨p + 1, by omega, by go_num, hgP.trans hg2⟩, by simp [intOf]; omega⟩
              · obtain ⟨wM, hwM⟩ : ∃ z, z = wr := ⟨_, rfl⟩
                subst hwM
                go_wp2_with fail
                go_loopw [207] (fun i wx => ∃ k : Nat, k ≤ 2 ∧ i = .int .i64 k ∧ Grow wM wx) (fun i _ => 2 - (intOf i).toNat)
                case atStart => exact ⟨0, Nat.zero_le _, rfl, Grow.refl _⟩
                case round =>
                  obtain ⟨k, hk, rfl, hg3⟩ := hrel
                  (try clear dl)
                  (try clear dx)
                  have hb0 := (gL.trans hg3).keeps hb0
                  have hb1 := (gL.trans hg3).keeps hb1
                  replace d0 := hg3.keeps d0
                  replace d1 := hg3.keeps d1
                  replace x0 := hg3.keeps x0
                  replace x1 := hg3.keeps x1
                  replace gL := gL.trans hg3
                  have dl := lt_of_cell d0
                  have dx := lt_of_cell x0
                  by_cases hlk : k < 2
                  · skip
                    have hz : ∃ (si : List Int) (sa : Option Addr) (sc : Nat), [s0, s1][k]? = some si ∧ wr.cell? ⟨b, o + k, none⟩ = some (.slice sa si.length sc) ∧ Hid (IsInts w2 (.slice sa si.length sc) si) := by
                      obtain rfl | rfl : k = 0 ∨ k = 1 := by omega
                      · exact ⟨s0, sa0, sc0, rfl, hb0, Hs0⟩
                      · exact ⟨s1, sa1, sc1, rfl, hb1, Hs1⟩
                    obtain ⟨si, sa, sc, hsi, hbk, Hsi⟩ := hz
                    obtain ⟨lo, hi, hlo, hhi, QE⟩ := PE.out _ k si gL hsi
                    obtain ⟨q, hq⟩ : ∃ q, errs r si = q := ⟨_, rfl⟩
                    rw [hq] at hlo hhi
                    have Hq := Lib.hid hq
                    have E3 : decide (q < lo) = false := decide_eq_false (by omega)
                    have E4 : decide (hi < q) = false := decide_eq_false (by omega)
                    have hk1 : (k : Int) < ss.length := by omega
                    have hk2 : (k : Int) < 2 := by omega
                    have hE : decide ((k : Int) < 2) = true := decide_eq_true hk2
                    clear hsi hq hb0 hb1
                    go_wp2_with fail
                    (try rw [hE])
                    refine (QE).mono ?_
                    rintro e w34 ⟨rfl, g34⟩
                    (try clear dl)
                    (try clear lb)
                    replace d0 := g34.keeps d0
                    replace d1 := g34.keeps d1
                    replace hbk := g34.keeps hbk
                    replace gL := gL.trans g34
                    replace hg3 := hg3.trans g34
                    have dl := lt_of_cell d0
                    have lb := lt_of_cell hbk
                    (try clear g34)
                    go_wp2_with fail
                    obtain ⟨w35, hW⟩ : ∃ z, w34.alloc (.cells #[.int .i64 lo, .int .i64 hi] 36) = z := ⟨_, rfl⟩
                    obtain ⟨BS, hB⟩ : ∃ z, w34.heap.size = z := ⟨_, rfl⟩
                    have g35 : Grow w34 w35 := by rw [← hW]; exact (Grow.refl _).alloc _
                    have s0_ : w35.cell? ⟨BS, 0, none⟩ = some (.int .i64 lo) := by rw [← hW]; exact cell_new hB.symm rfl
                    have s1_ : w35.cell? ⟨BS, 1, none⟩ = some (.int .i64 hi) := by rw [← hW]; exact cell_new hB.symm rfl
                    rw [hW, hB]
                    clear hW hB
                    (try clear dl)
                    (try clear lb)
                    replace d0 := g35.keeps d0
                    replace d1 := g35.keeps d1
                    replace hbk := g35.keeps hbk
                    replace gL := gL.trans g35
                    replace hg3 := hg3.trans g35
                    have dl := lt_of_cell d0
                    have lb := lt_of_cell hbk
                    have ls := lt_of_cell s0_
                    (try clear g35)
                    have QR := rErrs_any r si _ _ _ (I.out.grow gL) (Hsi.out.grow (gb.trans gL))
                    rw [Hq.out] at QR
                    refine (QR).mono ?_
                    rintro e w36 ⟨rfl, g36⟩
                    (try clear dl)
                    (try clear lb)
                    (try clear ls)
                    replace d0 := g36.keeps d0
                    replace d1 := g36.keeps d1
                    replace hbk := g36.keeps hbk
                    replace s0_ := g36.keeps s0_
                    replace s1_ := g36.keeps s1_
                    replace gL := gL.trans g36
                    replace hg3 := hg3.trans g36
                    have dl := lt_of_cell d0
                    have lb := lt_of_cell hbk
                    have ls := lt_of_cell s0_
                    (try clear g36)
                    go_wp2_with fail
                    exact ⟨⟨k + 1, by omega, by go_num, hg3⟩, by simp [intOf]; omega⟩
                  · go_wp2_with fail
                    refine (lalive_any _).mono ?_
                    rintro e w37 ⟨rfl, g37⟩
                    go_wp2_with fail
                    go_ret
                    exact ⟨rfl, (gw.trans gL).trans g37⟩
end Go.Proofs.Yteijilbdllpbcaa
