/- CountTrue's own function made: the walk. Conditions: sizes. -/
import Derived.Test.YteijilbdllpbcaaLxB
namespace Go.Proofs.Yteijilbdllpbcaa
open Go.RowKit

set_option maxRecDepth 100000 in
set_option maxHeartbeats 4000000 in
theorem lmade_any (A Y : Nat) (u : Value) (l : List Int) (w : World) (hA : w.cell? ⟨A, 0, none⟩ = some (.int .i64 0)) (hAf : ∀ o, w.frozen? ⟨A, o, none⟩ = false) (hY : w.cell? ⟨Y, 0, none⟩ = some u) (hne : A ≠ Y) (hu : IsK .u16 w u l) (huA : l = [] ∨ ∀ b, u.ownBlock = some b → b ≠ A) :
    Calls Try.prog 30 #[.func (.func 75) #[] #[.pointer (some ⟨A, 0, none⟩), .pointer (some ⟨Y, 0, none⟩)]] w (MadePost w A) := by
  obtain ⟨i0, hi0, hi1, hi2, hi3⟩ := info_parts pinfo_int
  obtain ⟨j0, hj0, hj1, hj2, hj3⟩ := info_parts info_ints
  have hui : Try.prog.underlying 25 = some (.slice 3) := by kernel_rfl
  have hul : Try.prog.underlying 22 = some (.slice 25) := by kernel_rfl
  obtain ⟨C, hC⟩ : ∃ C, w.heap.size = C := ⟨_, rfl⟩
  have hCl : w.heap.size ≤ C := Nat.le_of_eq hC
  have hAC : A < C := by have := lt_of_cell hA; omega
  have PD : Hid (∀ (V : World) (k n P : Int) (cv : Value), MS w A C P k cv V → 0 ≤ k ∧ k ≤ 1000 → 1 ≤ n ∧ n ≤ 1000 → Calls Try.prog 75 #[.int .i64 n, .pointer (some ⟨A, 0, none⟩), .pointer (some ⟨Y, 0, none⟩)] V fun e w' => ∃ r k' : Int, e = .returned (.int .i64 r) ∧ 0 ≤ r ∧ r < n ∧ k' = k + 1 ∧ V.grownBy w' (some A) ∧ MS w A C P k' cv w') := fun V k n P cv hm hk hn => by
    have hY' : V.cell? ⟨Y, 0, none⟩ = some u := byCell1 hm.1 hY (by intro e; injection e with e; exact hne e)
    have hu' : IsK .u16 V u l := by
      obtain ⟨a, c, rfl, h2, h3, h4, h5⟩ := hu
      refine ⟨a, c, rfl, h2, h3, h4.kept hm.1 ?_, h5⟩
      rcases huA with huA | huA
      · exact .inl (by rw [huA]; rfl)
      · cases a with
        | none => exact .inr (by simp)
        | some p => exact .inr fun e => huA p.block rfl (by simpa using e)
    exact (ldraw_any A Y k n u l V hm.2.1 hm.2.2.1 hY' hne hu' huA hk hn).mono fun e w' ⟨r, h1, h2, h3, h4, h5, h6⟩ => ⟨r, _, h1, h2, h3, rfl, h4, hm.draw h4 h5 h6 hAC⟩
  have HA := Lib.hid hA
  have HAf := Lib.hid hAf
  clear hY hne hu huA hA hAf
  go_enter Try.func30, Try.ntmps30
  go_upto_region 1 with fail
  obtain ⟨W, hW⟩ : ∃ W, w.alloc (.cells #[.int .i64 0, .slice none 0 0] 24) = W := ⟨_, rfl⟩
  have gW : Grow w W := by rw [← hW]; exact (Grow.refl w).alloc _
  have m0 : MS w A C 0 0 (.slice none 0 0) W := ⟨gW.grownBy _, gW.keeps HA.out, fun o => (gW.marks _ _ (lt_of_cell HA.out)).trans (HAf.out o), by rw [← hW, ← hC]; exact cell_new rfl rfl, by rw [← hW, ← hC]; exact cell_new rfl rfl, fun o => by rw [← hW, ← hC]; exact hot_new rfl⟩
  rw [hW]
  (try rw [hC])
  clear hW gW
  go_wp2_with fail
  refine (PD.out W 0 4 0 _ m0 (by omega) (by omega)).mono ?_
  rintro e w2 ⟨r0, k2, rfl, hr0, hr1, hk2, -, m2⟩
  clear m0
  obtain ⟨P, hP⟩ : ∃ P, 1 + r0 = P := ⟨_, rfl⟩
  have E1 : IntKind.i64.wrap (1 + r0) = P := by rw [hP]; exact IntWalk.i64_in _ (by omega)
  have m3 := m2.store0 (P' := P) hCl hAC
  obtain ⟨_, _, _, c0, c1, cf⟩ := id m2
  clear m2
  go_wp2_with fail
  (try rw [hP])
  refine (PD.out _ k2 7 P _ m3 (by omega) (by omega)).mono ?_
  clear m3 c0 c1 cf E1
  rintro e w4 ⟨m, k4, rfl, hm0, hm1, hk4, -, m4⟩
  go_wp2_with fail
  go_loopw [2, 16] (fun rv i wr => ∃ (j : Nat) (r : List Int) (rr : Value) (k : Int), rr = rv ∧ (j : Int) ≤ m ∧ i = .int .i64 j ∧ r.length = j ∧ (∀ x ∈ r, 0 ≤ x ∧ x < P) ∧ Own wr (C + 1) 3 rr (r.map (Value.int .i64)) ∧ MS w A C P k (.slice none 0 0) wr ∧ 0 ≤ k ∧ k ≤ 2 + j) (fun _ i _ => (m - intOf i).toNat)
  case atStart => exact ⟨0, [], _, k4, rfl, by omega, rfl, rfl, by simp, Own.nil _ _ _, m4, by omega, by omega⟩
  case round =>
    obtain ⟨j, r, rr, k, rfl, hjm, rfl, hrl, hrx, hown, hms, hk0, hk1⟩ := hrel
    by_cases hlt : (j : Int) < m
    · skip
      obtain ⟨_, _, _, c0, c1, cf⟩ := id hms
      go_wp2_with fail
      refine (PD.out _ k P P _ hms (by omega) (by omega)).mono ?_
      rintro e w5 ⟨x, k5, rfl, hx0, hx1, hk5, g5, m5⟩
      have own5 := hown.kept g5 (.inr fun e => by have := hown.base _ e; omega)
      have hC5 : C + 1 ≤ w5.heap.size := lt_of_cell m5.2.2.2.1
      have hbytes : ((r.map (Value.int .i64)).length + [Value.int .i64 x].length) * 8 ≤ 140737488355328 := by simp; omega
      have Hrx := Lib.hid hrx
      have Hms := Lib.hid m5
      clear hms m5 c0 c1 cf hown m4 g5 hrx
      go_wp2_with (at_builtin; refine wpl_app rfl _ _ 25 rfl (C + 1) 3 i0 _ 8 hui hi0 hi1 hi2 hi3 rfl rr (r.map (Value.int .i64)) rfl (own5.alloc _) _ _ [.int .i64 x] 1 rfl rfl (fun h => nomatch h) (row_new1 _ _ _ (by simp)) (by simp [Value.oneCell']) hbytes (by omega) (by simp; omega) ?_; intro v' wz hown1 hgr1 hmv1)
      have m6 := (Hms.out.grow ((Grow.refl _).alloc _) hCl hAC).step hgr1 (fun b hb => own5.base b hb) hCl hAC
      exact ⟨⟨j + 1, r ++ [x], v', k5, rfl, by omega, by go_num, by simp; omega, fun z hz => by
        rcases List.mem_append.1 hz with hz | hz
        · exact Hrx.out z hz
        · rw [List.mem_singleton.1 hz]; exact ⟨hx0, hx1⟩, by rw [List.map_append]; exact hown1, m6, by omega, by omega⟩, by simp [intOf]; omega⟩
    · skip
      have hr6 : r.length ≤ 6 := by omega
      clear m4
      obtain ⟨ra, rc, rfl, _, _, _⟩ := hown.row
      have Hrx := Lib.hid hrx
      have mi := MInv.start hown (by omega)
      rw [List.length_map] at mi
      have Mi := Lib.hid mi
      have hk9 : k ≤ 9 := by omega
      clear mi hown hrx hrl
      rw [List.length_map]
      go_wp2_with fail
      clear hlt hjm hk1
      refine (PD.out _ k 4 P _ hms (by omega) (by omega)).mono ?_
      clear hms
      rintro e w6 ⟨n0, k6, rfl, hn0, hn1, hk6, g6, m6⟩
      have Mi := Lib.hid (Mi.out.old g6 (by omega))
      obtain ⟨N, hN⟩ : ∃ N, 1 + n0 = N := ⟨_, rfl⟩
      have E1 : IntKind.i64.wrap (1 + n0) = N := by rw [hN]; exact IntWalk.i64_in _ (by omega)
      go_wp2_with fail
      clear E1 g6
      have Ms6 := Lib.hid m6
      clear m6
      go_loopw [4, 29] (fun ev i wr => ∃ (j : Nat) (ss : List (List Int)) (vs : List Value) (cv ee : Value) (es : List Int) (k : Int), ee = ev ∧ (j : Int) ≤ N ∧ i = .int .i64 j ∧ ss.length = j ∧ es.length = j ∧ MInv wr (C + 1) (.slice ra r.length rc) r cv vs ss ee es ∧ MS w A C P k cv wr ∧ 0 ≤ k ∧ k ≤ 10 + 13 * j ∧ SH P r ss es) (fun _ i _ => (N - intOf i).toNat)
      case atStart => exact ⟨0, [], [], _, _, [], k6, rfl, by omega, rfl, rfl, rfl, Mi.out, Ms6.out, by omega, by omega, SH.nil _ _⟩
      case round =>
        obtain ⟨j, ss, vs, cv, ee, es, k, rfl, hjN, rfl, hsl, hel, hmi, hms, hk0, hk1, hsh⟩ := hrel
        obtain ⟨wS, hwS⟩ : ∃ z, z = wr := ⟨_, rfl⟩
        subst hwS
        have Hsh := Lib.hid hsh
        have Hmi := Lib.hid hmi
        have Hms := Lib.hid hms
        clear hsh hmi
        by_cases hlt : (j : Int) < N
        · skip
          have hE : decide ((j : Int) < N) = true := decide_eq_true hlt
          clear hms
          go_wp2_with fail
          (try rw [hE])
          clear hE
          obtain ⟨wT, hT⟩ : ∃ z, wS.alloc (.cells #[] 3) = z := ⟨_, rfl⟩
          have gT : Grow wS wT := by rw [← hT]; exact (Grow.refl _).alloc _
          obtain ⟨D, hD⟩ : ∃ z, wS.heap.size = z := ⟨_, rfl⟩
          have ownT : Own wT D 3 (.slice (some ⟨D, 0, none⟩) 0 0) (([] : List Int).map (Value.int .i64)) := by rw [← hT, ← hD]; exact Own.new0 (Nat.le_refl _) rfl
          (try rw [hT])
          (try rw [hD])
          have HD := Lib.hid hD
          have hCD : C + 1 ≤ D := by rw [← hD]; exact lt_of_cell Hms.out.2.2.2.1
          have gTb := Lib.hid (gT.grownBy (some A))
          have Ms0 := Lib.hid (Hms.out.grow gT hCl hAC)
          have OwnT := Lib.hid ownT
          have hjN1 : (j : Int) + 1 ≤ N := by omega
          clear hT gT hD ownT hlt
          go_loopw [5, 6, 34] (fun sv nv iv wr => ∃ (i n : Nat) (s : List Int) (k2 : Int) (s2 : Value), s2 = sv ∧ i ≤ r.length ∧ nv = .int .i64 n ∧ iv = .int .i64 i ∧ n ≤ i ∧ s.length ≤ i ∧ (∀ x ∈ s, 0 ≤ x ∧ x < P) ∧ AlI (r.take i) s n ∧ Own wr D 3 s2 (s.map (Value.int .i64)) ∧ wS.grownBy wr (some A) ∧ MS w A C P k2 cv wr ∧ 0 ≤ k2 ∧ k2 ≤ k + 2 * i) (fun _ _ i _ => r.length - (intOf i).toNat)
          case atStart => exact ⟨0, 0, [], k, _, rfl, by omega, rfl, rfl, by omega, by simp, by simp, AlI.nil, OwnT.out, gTb.out, Ms0.out, by omega, by omega⟩
          case round =>
            obtain ⟨i, n, s, k2, s2, rfl, hir, rfl, rfl, hni, hsi, hsx, hal, hown, hgS, hms, hk20, hk21⟩ := hrel
            have Hsx := Lib.hid hsx
            have Hal := Lib.hid hal
            have Hown := Lib.hid hown
            have HgS := Lib.hid hgS
            have Hms2 := Lib.hid hms
            clear hsx hal hown hgS
            have HI := Lib.hid (Hmi.out.old HgS.out (by omega)).1
            by_cases hil : i < r.length
            · skip
              obtain ⟨ra', rc', hra, _, _, hrow⟩ := id HI.out
              cases hra
              obtain ⟨bb, bo, x, hx, rfl, hcx⟩ := hrow.int hil
              have hxr := Hrx.out x (List.mem_of_getElem? hx)
              have Htk := Lib.hid (take_get hx)
              have hiN : (i : Int) < r.length := by omega
              have hE : decide ((i : Int) < r.length) = true := decide_eq_true hiN
              clear hrow hx hms
              go_wp2_with fail
              (try rw [hE])
              clear hE hcx
              refine (PD.out _ k2 9 P _ Hms2.out (by omega) (by omega)).mono ?_
              rintro e w7 ⟨d, k7, rfl, hd0, hd1, hk7, g7, m7⟩
              have HgS := Lib.hid (HgS.out.trans g7)
              have Hown := Lib.hid (Hown.out.kept g7 (.inr fun e => by have := Hown.out.base _ e; omega))
              have Hms7 := Lib.hid m7
              clear g7 Hms2
              by_cases h0 : d = 0
              · subst h0
                clear m7
                go_wp2_with fail
                refine ⟨⟨i + 1, n + 1, s, k7, _, rfl, by omega, by go_num, by go_num, by omega, by omega, Hsx.out, ?_, Hown.out, HgS.out, Hms7.out, by omega, by omega⟩, by simp [intOf]; omega⟩
                rw [Htk.out]
                exact Hal.out.miss (by omega)
              · by_cases h1 : d = 1
                · subst h1
                  obtain ⟨_, _, _, c0, c1, cf⟩ := id m7
                  clear m7 h0
                  go_wp2_with fail
                  refine (PD.out _ k7 P P _ Hms7.out (by omega) (by omega)).mono ?_
                  rintro e w8 ⟨q, k8, rfl, hq0, hq1, hk8, g8, m8⟩
                  have HgS := Lib.hid (HgS.out.trans g8)
                  have hown := Hown.out.kept g8 (.inr fun e => by have := Hown.out.base _ e; omega)
                  have Hms8 := Lib.hid m8
                  have hD8 : D ≤ w8.heap.size := by rw [← HD.out]; exact HgS.out.size
                  have hbytes : ((s.map (Value.int .i64)).length + [Value.int .i64 q].length) * 8 ≤ 140737488355328 := by simp; omega
                  clear g8 m8 Hms7 c0 c1 cf
                  by_cases hqx : q = x
                  case' pos =>
                    have Hput := Lib.hid (Hal.out.put (c := x) (x := q) (by omega) (by omega) 0 (by rw [if_pos hqx.symm]; exact Nat.le_refl _))
                    have Hn : Hid (n ≤ i + 1) := (by omega : n ≤ i + 1)
                    have E1 : (q != x) = false := by simp [hqx]
                    clear hqx
                  case' neg =>
                    have Hput := Lib.hid (Hal.out.put (c := x) (x := q) (by omega) (by omega) 1 (by split <;> omega))
                    have Hn : Hid (n + 1 ≤ i + 1) := (by omega : n + 1 ≤ i + 1)
                    have E1 : (q != x) = true := by simp [hqx]
                    clear hqx
                  all_goals
                    go_wp2_with (at_builtin; refine wpl_app rfl _ _ 25 rfl D 3 i0 _ 8 hui hi0 hi1 hi2 hi3 rfl s2 (s.map (Value.int .i64)) rfl (hown.alloc _) _ _ [.int .i64 q] 1 rfl rfl (fun h => nomatch h) (row_new1 _ _ _ (by simp)) (by simp [Value.oneCell']) hbytes (by omega) (by simp; omega) ?_; intro v' wz hown1 hgr1 hmv1)
                    have m9 := (Hms8.out.grow ((Grow.refl _).alloc _) hCl hAC).step hgr1 (fun b hb => by have := hown.base b hb; omega) hCl hAC
                    have g9 : wS.grownBy wz (some A) := (byAlloc HgS.out _).andThen hgr1 fun b hb => .inl (by rw [HD.out]; exact hown.base b hb)
                    refine ⟨⟨i + 1, _, s ++ [q], k8, v', rfl, by omega, by first | rfl | go_num, by go_num, Hn.out, by simp; omega, ?_, ?_, by rw [List.map_append]; exact hown1, g9, m9, by omega, by omega⟩, by simp [intOf]; omega⟩
                    · intro z hz
                      rcases List.mem_append.1 hz with hz | hz
                      · exact Hsx.out z hz
                      · rw [List.mem_singleton.1 hz]; exact ⟨hq0, hq1⟩
                    · rw [Htk.out]
                      exact Hput.out
                · skip
                  have E1 : (d == 0) = false := beq_eq_false_iff_ne.2 h0
                  have E2 : (d == 1) = false := beq_eq_false_iff_ne.2 h1
                  have hown := Hown.out
                  have hD8 : D ≤ w7.heap.size := by rw [← HD.out]; exact HgS.out.size
                  have hbytes : ((s.map (Value.int .i64)).length + [Value.int .i64 x].length) * 8 ≤ 140737488355328 := by simp; omega
                  have Hput := Lib.hid (Hal.out.put (c := x) (x := x) (by omega) (by omega) 0 (by rw [if_pos rfl]; exact Nat.le_refl _))
                  clear m7 h0 h1
                  go_wp2_with (at_builtin; refine wpl_app rfl _ _ 25 rfl D 3 i0 _ 8 hui hi0 hi1 hi2 hi3 rfl s2 (s.map (Value.int .i64)) rfl (hown.alloc _) _ _ [.int .i64 x] 1 rfl rfl (fun h => nomatch h) (row_new1 _ _ _ (by simp)) (by simp [Value.oneCell']) hbytes (by omega) (by simp; omega) ?_; intro v' wz hown1 hgr1 hmv1)
                  have m9 := (Hms7.out.grow ((Grow.refl _).alloc _) hCl hAC).step hgr1 (fun b hb => by have := hown.base b hb; omega) hCl hAC
                  have g9 : wS.grownBy wz (some A) := (byAlloc HgS.out _).andThen hgr1 fun b hb => .inl (by rw [HD.out]; exact hown.base b hb)
                  refine ⟨⟨i + 1, n, s ++ [x], k7, v', rfl, by omega, by first | rfl | go_num, by go_num, by omega, by simp; omega, ?_, ?_, by rw [List.map_append]; exact hown1, g9, m9, by omega, by omega⟩, by simp [intOf]; omega⟩
                  · intro z hz
                    rcases List.mem_append.1 hz with hz | hz
                    · exact Hsx.out z hz
                    · rw [List.mem_singleton.1 hz]; exact hxr
                  · rw [Htk.out]
                    exact Hput.out
            · skip
              have hir2 : i = r.length := by omega
              have Htk := Lib.hid (show r.take i = r by rw [hir2]; exact List.take_length)
              obtain ⟨_, _, _, c0, c1, cf⟩ := id hms
              clear hms
              have hown := Hown.out
              have hmi := Hmi.out.old HgS.out (by omega)
              have hcv := hmi.2.2.2.1
              have hvl := hmi.2.2.2.2.1.1
              have hI := hown.ints (by omega)
              have a1 : Apart (C + 1) wr s2 cv := apartOf hown hCD fun b hb => by have := (Hmi.out.2.2.2.1.lt b hb).2; have := HD.out; omega
              have a2 : Apart (C + 1) wr s2 ee := apartOf hown hCD fun b hb => by have := (Hmi.out.2.2.2.2.2.1.lt b hb).2; have := HD.out; omega
              obtain ⟨sa, sc, rfl, _, _, _⟩ := hown.row
              rw [List.length_map] at hI a1 a2 ⊢
              have hCr : C + 1 ≤ wr.heap.size := lt_of_cell c0
              have hb1 : (vs.length + [Value.slice sa s.length sc].length) * 24 ≤ 140737488355328 := by simp; omega
              have hb2 : ((es.map (Value.int .i64)).length + [Value.int .i64 (n : Int)].length) * 8 ≤ 140737488355328 := by simp; omega
              have HmiR := Lib.hid hmi
              have HI2 := Lib.hid hI
              have A1 := Lib.hid a1
              have A2 := Lib.hid a2
              have Hcv := Lib.hid hcv
              clear hown hmi hcv hI a1 a2 hvl
              go_wp2_with (at_builtin; first | (refine wpl_app rfl _ _ 22 rfl (C + 1) 25 j0 _ 24 hul hj0 hj1 hj2 hj3 rfl cv vs rfl (Hcv.out.alloc _) _ _ [.slice sa s.length sc] 1 rfl rfl (fun h => nomatch h) (row_new1 _ _ _ (by simp)) (by simp [Value.oneCell']) hb1 (by omega) (by simp; omega) ?_; intro v1 w1 hown1 hgr1 hmv1; obtain ⟨va, vc, hv1, _, _, _⟩ := hown1.row; rw [List.length_append, List.length_singleton] at hv1; subst hv1; have M1 := Lib.hid (MInv.push1 (HmiR.out.grow ((Grow.refl _).alloc _)) (HI2.out.grow ((Grow.refl _).alloc _)) (A1.out.size ((Grow.refl _).alloc _).size) (A2.out.size ((Grow.refl _).alloc _).size) hgr1 hmv1 hown1); have S1 := Lib.hid ((Hms2.out.grow ((Grow.refl _).alloc _) hCl hAC).step hgr1 (fun b hb => Hcv.out.base b hb) hCl hAC); have hC1 : C + 1 ≤ w1.heap.size := lt_of_cell S1.out.2.2.2.1; clear hown1 hgr1 hmv1 c0 c1 cf) | (refine wpl_app rfl _ _ 25 rfl (C + 1) 3 i0 _ 8 hui hi0 hi1 hi2 hi3 rfl ee (es.map (Value.int .i64)) rfl (M1.out.2.2.2.2.2.1.alloc _) _ _ [.int .i64 (n : Int)] 1 rfl rfl (fun h => nomatch h) (row_new1 _ _ _ (by simp)) (by simp [Value.oneCell']) hb2 (by omega) (by simp; omega) ?_; intro v2 w2 hown2 hgr2 hmv2; have M2 := Lib.hid (MInv.push2 (es' := es ++ [(n : Int)]) (M1.out.grow ((Grow.refl _).alloc _)) hgr2 hmv2 (by rw [List.map_append]; exact hown2)); have S2 := Lib.hid ((S1.out.grow ((Grow.refl _).alloc _) hCl hAC).step hgr2 (fun b hb => M1.out.2.2.2.2.2.1.base b hb) hCl hAC); clear hown2 hgr2 hmv2; obtain ⟨_, _, _, d0, d1, df⟩ := id S2.out))
              have M3 := M2.out.old (bySet w2 C 1 (.slice va (vs.length + 1) vc)) (by omega)
              have S3 := S2.out.store1 (cv' := .slice va (vs.length + 1) vc) hCl hAC
              have hE := Hsh.out.snoc (s := s) (n := n) (by omega) (by omega) Hsx.out (by omega) (by rw [← Htk.out]; exact Hal.out)
              exact ⟨⟨j + 1, ss ++ [s], _, _, v2, es ++ [(n : Int)], k2, rfl, by omega, by go_num, by simp; omega, by simp; omega, M3, S3, by omega, by omega, hE⟩, by simp [intOf]; omega⟩
        · skip
          obtain ⟨ca, cc, rfl, _, _, _⟩ := Hmi.out.2.2.2.1.row
          obtain ⟨_, _, _, c0, c1, cf⟩ := id hms
          clear hms
          go_wp2_with fail
          refine wp_region_held_drew (S := fun Wx => (MInv Wx (C + 1) (.slice ra r.length rc) r (.slice ca vs.length cc) vs ss ee es ∧ MS w A C P k (.slice ca vs.length cc) Wx) ∧ Wx.cell? ⟨C, 0, none⟩ = some (.int .i64 P) ∧ Wx.cell? ⟨C, 1, none⟩ = some (.slice ca vs.length cc)) (by kernel_rfl) ⟨⟨Hmi.out.grow (Grow.refl _).drew, Hms.out.grow (Grow.refl _).drew hCl hAC⟩, Grow.keeps (Below.refl _ _).drew (by assumption), Grow.keeps (Below.refl _ _).drew (by assumption)⟩ (fun hHeld => ?_)
          refine wpAnyH_take (i := 0) (oi := _) (v := ?_) rfl (by kernel_rfl) (by kernel_rfl) (by kernel_rfl) (fun _ _ _ h => h) (Or.inl ⟨by rfl, ?_⟩) (by assumption) ?_
          rotate_left
          (focus (intro w hSw; (try dsimp only at hSw); go_simp; (try with_reducible rfl)))
          (try simp only [Act.put, List.setIfInBounds_toArray, List.set_cons_zero, List.set_cons_succ, List.getElem_toArray, List.getElem_cons_zero])
          refine wpAnyH_take (i := 1) (oi := _) (v := ?_) rfl (by kernel_rfl) (by kernel_rfl) (by kernel_rfl) (fun _ _ _ h => h) (Or.inl ⟨by rfl, ?_⟩) (by assumption) ?_
          rotate_left
          (focus (intro w hSw; (try dsimp only at hSw); go_simp; (try with_reducible rfl)))
          (try simp only [Act.put, List.setIfInBounds_toArray, List.set_cons_zero, List.set_cons_succ, List.getElem_toArray, List.getElem_cons_zero, List.getElem_cons_succ])
          refine wpAnyH_take (i := 2) (oi := _) (v := ?_) rfl (by kernel_rfl) (by kernel_rfl) (by kernel_rfl) (fun _ _ _ h => h) (Or.inl ⟨by rfl, ?_⟩) (by assumption) ?_
          rotate_left
          (focus (intro w hSw; (try dsimp only at hSw); go_simp; (try with_reducible rfl)))
          (try simp only [Act.put, List.setIfInBounds_toArray, List.set_cons_zero, List.set_cons_succ, List.getElem_toArray, List.getElem_cons_zero, List.getElem_cons_succ])
          refine wpAnyH_take (i := 3) (oi := _) (v := ?_) rfl (by kernel_rfl) (by kernel_rfl) (by kernel_rfl) (fun _ _ _ h => h) (Or.inl ⟨by rfl, ?_⟩) (by assumption) ?_
          rotate_left
          (focus (intro w hSw; (try dsimp only at hSw); go_simp; (try with_reducible rfl)))
          (try simp only [Act.put, List.setIfInBounds_toArray, List.set_cons_zero, List.set_cons_succ, List.getElem_toArray, List.getElem_cons_zero, List.getElem_cons_succ])
          refine wpAnyH_ready (rs := [4]) (by kernel_rfl) (by simp) ?_
          refine AllReadyH.cons (o := _) rfl (fun K hK => ?_) AllReadyH.nil
          (try simp only [List.getElem_toArray, List.getElem_cons_zero, List.getElem_cons_succ])
          have hfr := hHeld.1.2.2.2.2.2.2
          have hq0 := hHeld.2.1
          have hq1 := hHeld.2.2
          (try go_simp)
          (try (go_wp2_with fail))
          refine hK.out _ _ ?_ (fun hHeld => ?_)
          · exact ⟨⟨(hHeld.1.1.old (bySet _ C 0 _) (by omega)).old (bySet _ C 1 _) (by omega), (hHeld.1.2.store0 hCl hAC).store1 hCl hAC⟩, ((hHeld.1.2.store0 hCl hAC).store1 hCl hAC).2.2.2.1, ((hHeld.1.2.store0 (P' := P) hCl hAC).store1 hCl hAC).2.2.2.2.1⟩
          clear hK K
          (try simp only [Act.put, List.setIfInBounds_toArray, List.set_cons_zero, List.set_cons_succ, List.getElem_toArray, List.getElem_cons_zero, List.getElem_cons_succ])
          refine wpAnyH_take (i := 5) (oi := _) (v := ?_) rfl (by kernel_rfl) (by kernel_rfl) (by kernel_rfl) (fun _ _ _ h => h) (Or.inl ⟨by rfl, ?_⟩) (by assumption) ?_
          rotate_left
          (focus (intro w hSw; (try dsimp only at hSw); go_simp; (try with_reducible rfl)))
          (try simp only [Act.put, List.setIfInBounds_toArray, List.set_cons_zero, List.set_cons_succ, List.getElem_toArray, List.getElem_cons_zero, List.getElem_cons_succ])
          refine wpAnyH_done (by kernel_rfl) ?_ _
          obtain ⟨⟨hM, hS⟩, hz0, hz1⟩ := hHeld
          generalize ((wS.setCell ⟨C, 0, none⟩ (.int .i64 P)).setCell ⟨C, 1, none⟩ (.slice ca vs.length cc)).drew = WF at *
          go_wp2_with fail
          exact bodyPost_ret (v := .tuple #[.slice ra r.length rc, .agg #[.int .i64 P, .slice ca vs.length cc], ee]) (by simp [results, Try.results30, go_sem, hz0, hz1]) rfl
            ⟨P, _, _, _, r, es, ss, rfl, hS.1, hM.1, hM.2.2.2.2.1.sheets hM.2.2.2.1 (by omega), hM.2.2.2.2.2.1.ints (by omega), by omega, by omega, hr6, Hrx.out, by omega, Hsh.out⟩
end Go.Proofs.Yteijilbdllpbcaa
