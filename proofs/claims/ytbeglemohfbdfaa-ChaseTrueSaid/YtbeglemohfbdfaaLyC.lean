/- ChaseTrue's own function made: the walk. Conditions: sizes. -/
import Derived.Test.YtbeglemohfbdfaaLyB
import Derived.Test.YtbeglemohfbdfaaLwP
import Derived.Deep.DeepCutAuto
namespace Go.Proofs.Ytbeglemohfbdfaa
open Go.RowKit

set_option maxRecDepth 100000 in
set_option maxHeartbeats 4000000 in
theorem lmade_any (A Y : Nat) (u : Value) (l : List Int) (w : World) (hA : w.cell? ⟨A, 0, none⟩ = some (.int .i64 0)) (hAf : ∀ o, w.frozen? ⟨A, o, none⟩ = false) (hY : w.cell? ⟨Y, 0, none⟩ = some u) (hne : A ≠ Y) (hu : IsK .u16 w u l) (huA : l = [] ∨ ∀ b, u.ownBlock = some b → b ≠ A) :
    Calls Try.prog 20 #[.func (.func 55) #[] #[.pointer (some ⟨A, 0, none⟩), .pointer (some ⟨Y, 0, none⟩)]] w (MadePost w A) := by
  obtain ⟨i0, hi0, hi1, hi2, hi3⟩ := info_parts pinfo_int7
  obtain ⟨j0, hj0, hj1, hj2, hj3⟩ := info_parts pinfo_ints7
  have hui : Try.prog.underlying 40 = some (.slice 3) := by kernel_rfl
  have hul : Try.prog.underlying 30 = some (.slice 40) := by kernel_rfl
  obtain ⟨C, hC⟩ : ∃ C, w.heap.size = C := ⟨_, rfl⟩
  have hCl : w.heap.size ≤ C := Nat.le_of_eq hC
  have hAC : A < C := by have := lt_of_cell hA; omega
  have PD : Hid (∀ (V : World) (k n E F : Int) (cv : Value), MS w A C E F k cv V → 0 ≤ k ∧ k ≤ 1000 → 1 ≤ n ∧ n ≤ 1000 → Calls Try.prog 55 #[.int .i64 n, .pointer (some ⟨A, 0, none⟩), .pointer (some ⟨Y, 0, none⟩)] V fun e w' => ∃ r k' : Int, e = .returned (.int .i64 r) ∧ 0 ≤ r ∧ r < n ∧ k' = k + 1 ∧ V.grownBy w' (some A) ∧ MS w A C E F k' cv w') := fun V k n E F cv hm hk hn => by
    have hY' : V.cell? ⟨Y, 0, none⟩ = some u := byCell1 hm.1 hY (by intro e; injection e with e; exact hne e)
    have hu' : IsK .u16 V u l := by
      obtain ⟨a, c, rfl, h2, h3, h4, h5⟩ := hu
      refine ⟨a, c, rfl, h2, h3, h4.kept hm.1 ?_, h5⟩
      rcases huA with huA | huA
      · exact .inl (by rw [huA]; rfl)
      · cases a with
        | none => exact .inr (by simp)
        | some p => exact .inr fun e => huA p.block rfl (by simpa using e)
    exact (ldraw_any A Y k n u l V hm.2.1 hm.2.2.1 hY' hne hu' huA hk hn).mono fun e w' ⟨r, h1, h2, h3, h4, h5, h6⟩ => ⟨r, _, h1, h2, h3, rfl, h4, hm.draw h4 h5 h6 hAC⟩
  have HA := Lib.hid hA
  have HAf := Lib.hid hAf
  clear hY hne hu huA hA hAf
  go_enter Try.func20, Try.ntmps20
  go_upto_region 1 with fail
  obtain ⟨W, hW⟩ : ∃ W, w.alloc (.cells #[.int .i64 0, .int .i64 0, .slice none 0 0] 32) = W := ⟨_, rfl⟩
  have gW : Grow w W := by rw [← hW]; exact (Grow.refl w).alloc _
  have m0 : MS w A C 0 0 0 (.slice none 0 0) W := ⟨gW.grownBy _, gW.keeps HA.out, fun o => (gW.marks _ _ (lt_of_cell HA.out)).trans (HAf.out o), by rw [← hW, ← hC]; exact cell_new rfl rfl, by rw [← hW, ← hC]; exact cell_new rfl rfl, by rw [← hW, ← hC]; exact cell_new rfl rfl, fun o => by rw [← hW, ← hC]; exact hot_new rfl⟩
  rw [hW]
  (try rw [hC])
  clear hW gW
  go_wp2_with fail
  refine (PD.out W 0 4 0 0 _ m0 (by omega) (by omega)).mono ?_
  rintro e w2 ⟨E, k2, rfl, hr0, hr1, hk2, -, m2⟩
  clear m0
  have m3 := m2.store0 (E' := E) hCl hAC
  obtain ⟨_, _, _, c0, c1, c2, cf⟩ := id m2
  clear m2
  go_wp2_with fail
  refine (PD.out _ k2 150 E 0 _ m3 (by omega) (by omega)).mono ?_
  clear m3 c0 c1 c2 cf
  rintro e w4 ⟨base, k4, rfl, hb0, hb1, hk4, -, m4⟩
  go_wp2_with fail
  refine (PD.out _ k4 6 E 0 _ m4 (by omega) (by omega)).mono ?_
  clear m4
  rintro e w5 ⟨n0, k5, rfl, hn0, hn1, hk5, -, m5⟩
  obtain ⟨N, hN⟩ : ∃ N, 1 + n0 = N := ⟨_, rfl⟩
  have E1 : IntKind.i64.wrap (1 + n0) = N := by rw [hN]; exact IntWalk.i64_in _ (by omega)
  go_wp2_with fail
  (try rw [hN])
  clear E1
  have Ms5 := Lib.hid m5
  clear m5
  have Mi : Hid (MInv w5 (C + 1) (.slice none 0 0) [] (.slice none 0 0) [] [] (.slice none 0 0) []) := MInv.start (Own.nil _ _ _) (by simp)
  go_loopw [3, 15] (fun tv i wr => ∃ (j : Nat) (ss : List (List Int)) (vs : List Value) (cv tt : Value) (ts : List Int) (k : Int), tt = tv ∧ (j : Int) ≤ N ∧ i = .int .i64 j ∧ ss.length = j ∧ ts.length = j ∧ MInv wr (C + 1) (.slice none 0 0) [] cv vs ss tt ts ∧ MS w A C E 0 k cv wr ∧ 0 ≤ k ∧ k ≤ 10 + 6 * j ∧ RT E ss ts) (fun _ i _ => (N - intOf i).toNat)
  case atStart => exact ⟨0, [], [], _, _, [], k5, rfl, by omega, rfl, rfl, rfl, Mi.out, Ms5.out, by omega, by omega, RT.nil _⟩
  case round =>
    obtain ⟨j, ss, vs, cv, tt, ts, k, rfl, hjN, rfl, hsl, hel, hmi, hms, hk0, hk1, hrt⟩ := hrel
    obtain ⟨wS, hwS⟩ : ∃ z, z = wr := ⟨_, rfl⟩
    subst hwS
    have Hrt := Lib.hid hrt
    have Hmi := Lib.hid hmi
    have Hms := Lib.hid hms
    clear hrt hmi
    by_cases hlt : (j : Int) < N
    · skip
      have hE : decide ((j : Int) < N) = true := decide_eq_true hlt
      clear hms
      go_wp2_with fail
      (try rw [hE])
      refine (PD.out _ k 12 E 0 _ Hms.out (by omega) (by omega)).mono ?_
      rintro e w6 ⟨d0, k6, rfl, hd0, hd1, hk6, g6, m6⟩
      obtain ⟨t, ht⟩ : ∃ t, base + d0 = t := ⟨_, rfl⟩
      have E1 : IntKind.i64.wrap (base + d0) = t := by rw [ht]; exact IntWalk.i64_in _ (by omega)
      have Hmi := Lib.hid (Hmi.out.old g6 (by omega))
      go_wp2_with fail
      (try rw [ht])
      refine (PD.out _ k6 3 E 0 _ m6 (by omega) (by omega)).mono ?_
      clear m6 E1
      rintro e w7 ⟨m0, k7, rfl, hm0, hm1, hk7, g7, m7⟩
      obtain ⟨M, hM⟩ : ∃ M, 1 + m0 = M := ⟨_, rfl⟩
      have E1 : IntKind.i64.wrap (1 + m0) = M := by rw [hM]; exact IntWalk.i64_in _ (by omega)
      have Hmi := Lib.hid (Hmi.out.old g7 (by omega))
      have Hms7 := Lib.hid m7
      have hjN1 : (j : Int) + 1 ≤ N := by omega
      clear g6 g7 m7
      go_wp2_with fail
      (try rw [hM])
      clear E1 hE hlt
      obtain ⟨D, hD⟩ : ∃ D, w7.heap.size = D := ⟨_, rfl⟩
      have hCD : C + 1 ≤ D := by rw [← hD]; exact lt_of_cell Hms7.out.2.2.2.1
      have HD := Lib.hid hD
      clear hD
      go_loopw [6, 24] (fun sv iv wr => ∃ (i : Nat) (l : List Int) (kk : Int) (s2 : Value), s2 = sv ∧ (i : Int) ≤ M ∧ iv = .int .i64 i ∧ l.length = i ∧ (∀ x ∈ l, (0 ≤ x ∧ x ≤ 200) ∧ x - E ≤ t ∧ t ≤ x + E) ∧ Own wr D 3 s2 (l.map (Value.int .i64)) ∧ w7.grownBy wr (some A) ∧ MS w A C E 0 kk cv wr ∧ 0 ≤ kk ∧ kk ≤ k7 + i) (fun _ i _ => (M - intOf i).toNat)
      case atStart => exact ⟨0, [], k7, _, rfl, by omega, rfl, rfl, by simp, Own.nil _ _ _, (Grow.refl w7).grownBy _, Hms7.out, by omega, by omega⟩
      case round =>
        obtain ⟨i, l, kk, s2, rfl, hiM, rfl, hll, hlx, hown, hg7, hms, hkk0, hkk1⟩ := hrel
        have Hlx := Lib.hid hlx
        have Hown := Lib.hid hown
        have Hg7 := Lib.hid hg7
        have Hms2 := Lib.hid hms
        have hl3' : (l.length : Int) = i ∧ l.length ≤ 3 := by omega
        have Hll := Lib.hid hll
        have Hl3 := Lib.hid hl3'
        clear hlx hown hg7 hll hl3'
        by_cases hil : (i : Int) < M
        · skip
          have hE : decide ((i : Int) < M) = true := decide_eq_true hil
          have c0 := hms.2.2.2.1
          clear hms
          go_upto_region 9 with fail
          (try rw [hE])
          clear hE
          have E1 : IntKind.i64.wrap (2 * E) = 2 * E := IntWalk.i64_in _ (by omega)
          have E2 : IntKind.i64.wrap (2 * E + 1) = 2 * E + 1 := IntWalk.i64_in _ (by omega)
          have hi3' : l.length ≤ 3 := Hl3.out.2
          have hD8 : D ≤ wr.heap.size := by rw [← HD.out]; exact Hg7.out.size
          (refine wp_region_held_drew (S := fun Vx => Vx.cell? ⟨C, 0, none⟩ = some (.int .i64 E)) (by kernel_rfl) (Grow.keeps (Grow.refl _).drew c0) (fun hHeld => ?_); refine wpAnyH_take (i := 0) (oi := _) (v := ?_) rfl (by kernel_rfl) (by kernel_rfl) (by kernel_rfl) (fun _ _ _ h => h) (Or.inl ⟨by rfl, ?_⟩) (by assumption) ?_; rotate_left; (focus (intro w hSw; (try dsimp only at hSw); go_simp; (try with_reducible rfl))); (try simp only [Act.put, List.setIfInBounds_toArray, List.set_cons_zero, List.set_cons_succ, List.getElem_toArray, List.getElem_cons_zero]); refine wpAnyH_take (i := 1) (oi := _) (v := ?_) rfl (by kernel_rfl) (by kernel_rfl) (by kernel_rfl) (fun _ _ _ h => h) (Or.inl ⟨by rfl, ?_⟩) (by assumption) ?_; rotate_left; (focus (intro w hSw; (try dsimp only at hSw); go_simp; (try with_reducible rfl))); (try simp only [Act.put, List.setIfInBounds_toArray, List.set_cons_zero, List.set_cons_succ, List.getElem_toArray, List.getElem_cons_zero, List.getElem_cons_succ]); refine wpAnyH_take (i := 2) (oi := _) (v := ?_) rfl (by kernel_rfl) (by kernel_rfl) (by kernel_rfl) (fun _ _ _ h => h) (Or.inl ⟨by rfl, ?_⟩) (by assumption) ?_; rotate_left; (focus (intro w hSw; (try dsimp only at hSw); go_simp; (try with_reducible rfl))); (try simp only [Act.put, List.setIfInBounds_toArray, List.set_cons_zero, List.set_cons_succ, List.getElem_toArray, List.getElem_cons_zero, List.getElem_cons_succ]); refine wpAnyH_take (i := 3) (oi := _) (v := ?_) rfl (by kernel_rfl) (by kernel_rfl) (by kernel_rfl) (fun _ _ _ h => h) (Or.inl ⟨by rfl, ?_⟩) (by assumption) ?_; rotate_left; (focus (intro w hSw; (try dsimp only at hSw); go_simp; (try with_reducible rfl))); (try simp only [Act.put, List.setIfInBounds_toArray, List.set_cons_zero, List.set_cons_succ, List.getElem_toArray, List.getElem_cons_zero, List.getElem_cons_succ]); refine wpAnyH_take (i := 4) (oi := _) (v := ?_) rfl (by kernel_rfl) (by kernel_rfl) (by kernel_rfl) (fun _ _ _ h => h) (Or.inl ⟨by rfl, ?_⟩) (by assumption) ?_; rotate_left; (focus (intro w hSw; (try dsimp only at hSw); go_simp; (try with_reducible rfl))); (try simp only [Act.put, List.setIfInBounds_toArray, List.set_cons_zero, List.set_cons_succ, List.getElem_toArray, List.getElem_cons_zero, List.getElem_cons_succ]); refine wpAnyH_take (i := 5) (oi := _) (v := ?_) rfl (by kernel_rfl) (by kernel_rfl) (by kernel_rfl) (fun _ _ _ h => h) (Or.inl ⟨by rfl, ?_⟩) (by assumption) ?_; rotate_left; (focus (intro w hSw; (try dsimp only at hSw); go_simp; (try with_reducible rfl))); (try simp only [Act.put, List.setIfInBounds_toArray, List.set_cons_zero, List.set_cons_succ, List.getElem_toArray, List.getElem_cons_zero, List.getElem_cons_succ]); refine wpAnyH_take (i := 6) (oi := _) (v := ?_) rfl (by kernel_rfl) (by kernel_rfl) (by kernel_rfl) (fun _ _ _ h => h) (Or.inl ⟨by rfl, ?_⟩) (by assumption) ?_; rotate_left; (focus (intro w hSw; (try dsimp only at hSw); go_simp; (try with_reducible rfl))); (try simp only [Act.put, List.setIfInBounds_toArray, List.set_cons_zero, List.set_cons_succ, List.getElem_toArray, List.getElem_cons_zero, List.getElem_cons_succ]); refine wpAnyH_take (i := 9) (oi := _) (v := ?_) rfl (by kernel_rfl) (by kernel_rfl) (by kernel_rfl) (fun _ _ _ h => h) (Or.inl ⟨by rfl, ?_⟩) (by assumption) ?_; rotate_left; (focus (intro w hSw; (try dsimp only at hSw); go_simp; (try with_reducible rfl))); (try simp only [Act.put, List.setIfInBounds_toArray, List.set_cons_zero, List.set_cons_succ, List.getElem_toArray, List.getElem_cons_zero, List.getElem_cons_succ]); refine wpAnyH_take (i := 10) (oi := _) (v := ?_) rfl (by kernel_rfl) (by kernel_rfl) (by kernel_rfl) (fun _ _ _ h => h) (Or.inl ⟨by rfl, ?_⟩) (by assumption) ?_; rotate_left; (focus (intro w hSw; (try dsimp only at hSw); go_simp; (try with_reducible rfl))); (try simp only [Act.put, List.setIfInBounds_toArray, List.set_cons_zero, List.set_cons_succ, List.getElem_toArray, List.getElem_cons_zero, List.getElem_cons_succ]); refine wpAnyH_ready (rs := [7]) (by kernel_rfl) (by simp) ?_; refine AllReadyH.cons (o := _) rfl (fun K hK => ?_) AllReadyH.nil; (try simp only [List.getElem_toArray, List.getElem_cons_zero, List.getElem_cons_succ]); (try go_simp); (first | (refine (PD.out _ kk (2 * E + 1) E 0 _ (Hms2.out.grow (Grow.refl _).drew hCl hAC) (by omega) (by omega)).mono ?_; rintro e w8 ⟨d, k8, rfl, hd0, hd1, hk8, g8, m8⟩; have E3 : IntKind.i64.wrap (t + d) = t + d := IntWalk.i64_in _ (by omega); have E4 : IntKind.i64.wrap (t + d - E) = t + d - E := IntWalk.i64_in _ (by omega); obtain ⟨x, hx⟩ : ∃ x, max (0 : Int) (t + d - E) = x := ⟨_, rfl⟩; have Hx : Hid (max (0 : Int) (t + d - E) = x) := hx; have own8 := (Hown.out.grow (Grow.refl _).drew).kept g8 (.inr fun e => by have := Hown.out.base _ e; omega)) | (refine (if_pos (by rfl)).mpr ?_; refine wp_app (.tmp 26) (.tmp 39) 40 rfl D 3 i0 _ 8 hui hi0 hi1 hi2 hi3 rfl s2 (l.map (Value.int .i64)) (by rfl) (own8.alloc _) (some ⟨w8.heap.size, 0, none⟩) 1 [.int .i64 x] 1 (by rfl) rfl (fun h => nomatch h) (row_new1 _ _ _ rfl) (by simp [Value.oneCell']) (by simp; omega) (by omega) (by have := g8.size; simp at this ⊢; omega) ?_; intro v9 w9 hown9 hgr9 hmv9; have m9 := (m8.grow ((Grow.refl _).alloc _) hCl hAC).step hgr9 (fun b hb => by have := Hown.out.base b hb; omega) hCl hAC)); (try (go_wp2_with fail)); refine hK.out _ _ ?_ (fun hHeld => ?_); (focus (first | exact m9.2.2.2.1 | exact Grow.keepA m8.2.2.2.1 _ | exact m8.2.2.2.1)); clear hK K; (try simp only [Act.put, List.setIfInBounds_toArray, List.set_cons_zero, List.set_cons_succ, List.getElem_toArray, List.getElem_cons_zero, List.getElem_cons_succ]); refine wpAnyH_take (i := 8) (oi := _) (v := ?_) rfl (by kernel_rfl) (by kernel_rfl) (by kernel_rfl) (fun _ _ _ h => h) (Or.inl ⟨by rfl, ?_⟩) (by assumption) ?_; rotate_left; (focus (intro w hSw; (try dsimp only at hSw); go_simp; (try with_reducible rfl))); (try simp only [Act.put, List.setIfInBounds_toArray, List.set_cons_zero, List.set_cons_succ, List.getElem_toArray, List.getElem_cons_zero, List.getElem_cons_succ]); refine wpAnyH_take (i := 11) (oi := _) (v := ?_) rfl (by kernel_rfl) (by kernel_rfl) (by kernel_rfl) (fun _ _ _ h => h) (Or.inl ⟨by rfl, ?_⟩) (by assumption) ?_; rotate_left; (focus (intro w hSw; (try dsimp only at hSw); go_simp; (try with_reducible rfl))); (try simp only [Act.put, List.setIfInBounds_toArray, List.set_cons_zero, List.set_cons_succ, List.getElem_toArray, List.getElem_cons_zero, List.getElem_cons_succ]); refine wpAnyH_take (i := 12) (oi := _) (v := ?_) rfl (by kernel_rfl) (by kernel_rfl) (by kernel_rfl) (fun _ _ _ h => h) (Or.inl ⟨by rfl, ?_⟩) (by assumption) ?_; rotate_left; (focus (intro w hSw; (try dsimp only at hSw); go_simp; (try with_reducible rfl))); (try simp only [Act.put, List.setIfInBounds_toArray, List.set_cons_zero, List.set_cons_succ, List.getElem_toArray, List.getElem_cons_zero, List.getElem_cons_succ]); refine wpAnyH_ready (rs := [13]) (by kernel_rfl) (by simp) ?_; refine AllReadyH.cons (o := _) rfl (fun K hK => ?_) AllReadyH.nil; (try simp only [List.getElem_toArray, List.getElem_cons_zero, List.getElem_cons_succ]); (try go_simp); (try (go_wp2_with fail)); refine hK.out _ _ ?_ (fun hHeld => ?_); (focus (first | exact m9.2.2.2.1 | exact Grow.keepA m8.2.2.2.1 _ | exact m8.2.2.2.1)); clear hK K; (try simp only [Act.put, List.setIfInBounds_toArray, List.set_cons_zero, List.set_cons_succ, List.getElem_toArray, List.getElem_cons_zero, List.getElem_cons_succ]); refine wpAnyH_ready (rs := [14]) (by kernel_rfl) (by simp) ?_; refine AllReadyH.cons (o := _) rfl (fun K hK => ?_) AllReadyH.nil; (try simp only [List.getElem_toArray, List.getElem_cons_zero, List.getElem_cons_succ]); (first | (refine (PD.out _ kk (2 * E + 1) E 0 _ (Hms2.out.grow (Grow.refl _).drew hCl hAC) (by omega) (by omega)).mono ?_; rintro e w8 ⟨d, k8, rfl, hd0, hd1, hk8, g8, m8⟩; have E3 : IntKind.i64.wrap (t + d) = t + d := IntWalk.i64_in _ (by omega); have E4 : IntKind.i64.wrap (t + d - E) = t + d - E := IntWalk.i64_in _ (by omega); obtain ⟨x, hx⟩ : ∃ x, max (0 : Int) (t + d - E) = x := ⟨_, rfl⟩; have Hx : Hid (max (0 : Int) (t + d - E) = x) := hx; have own8 := (Hown.out.grow (Grow.refl _).drew).kept g8 (.inr fun e => by have := Hown.out.base _ e; omega)) | (refine (if_pos (by rfl)).mpr ?_; refine wp_app (.tmp 26) (.tmp 39) 40 rfl D 3 i0 _ 8 hui hi0 hi1 hi2 hi3 rfl s2 (l.map (Value.int .i64)) (by rfl) (own8.alloc _) (some ⟨w8.heap.size, 0, none⟩) 1 [.int .i64 x] 1 (by rfl) rfl (fun h => nomatch h) (row_new1 _ _ _ rfl) (by simp [Value.oneCell']) (by simp; omega) (by omega) (by have := g8.size; simp at this ⊢; omega) ?_; intro v9 w9 hown9 hgr9 hmv9; have m9 := (m8.grow ((Grow.refl _).alloc _) hCl hAC).step hgr9 (fun b hb => by have := Hown.out.base b hb; omega) hCl hAC)); (try (go_wp2_with fail)); refine hK.out _ _ ?_ (fun hHeld => ?_); (focus (first | exact m9.2.2.2.1 | exact Grow.keepA m8.2.2.2.1 _ | exact m8.2.2.2.1)); clear hK K; (try simp only [Act.put, List.setIfInBounds_toArray, List.set_cons_zero, List.set_cons_succ, List.getElem_toArray, List.getElem_cons_zero, List.getElem_cons_succ]); refine wpAnyH_take (i := 15) (oi := _) (v := ?_) rfl (by kernel_rfl) (by kernel_rfl) (by kernel_rfl) (fun _ _ _ h => h) (Or.inl ⟨by rfl, ?_⟩) (by assumption) ?_; rotate_left; (focus (intro w hSw; (try dsimp only at hSw); go_simp; (try with_reducible rfl))); (try simp only [Act.put, List.setIfInBounds_toArray, List.set_cons_zero, List.set_cons_succ, List.getElem_toArray, List.getElem_cons_zero, List.getElem_cons_succ]); refine wpAnyH_done (by kernel_rfl) ?_ _)
          go_wp2_with fail
          have g9 : w7.grownBy w9 (some A) := (byAlloc ((Hg7.out.trans ((Grow.refl _).drew.grownBy _)).trans g8) _).andThen hgr9 fun b hb => .inl (by rw [HD.out]; exact Hown.out.base b hb)
          exact ⟨⟨i + 1, l ++ [x], k8, v9, rfl, by omega, by go_num, by have := Hll.out; simp; omega, fun z hz => by
            rcases List.mem_append.1 hz with hz | hz
            · exact Hlx.out z hz
            · rw [List.mem_singleton.1 hz]; have := Hx.out; omega, by rw [List.map_append]; exact hown9, g9, m9, by omega, by omega⟩, by simp [intOf]; omega⟩
        · skip
          obtain ⟨_, _, _, c0, c1, c2, cf⟩ := id hms
          clear hms
          have hown := Hown.out
          have hmi := Hmi.out.old Hg7.out (by omega)
          have hcv := hmi.2.2.2.1
          have hvl := hmi.2.2.2.2.1.1
          have hI := hown.ints (by have := Hl3.out; omega)
          have a1 : Aprt (C + 1) wr s2 cv := aprtOf hown hCD fun b hb => by have := (Hmi.out.2.2.2.1.lt b hb).2; have := HD.out; omega
          have a2 : Aprt (C + 1) wr s2 tt := aprtOf hown hCD fun b hb => by have := (Hmi.out.2.2.2.2.2.1.lt b hb).2; have := HD.out; omega
          obtain ⟨sa, sc, rfl, _, _, _⟩ := hown.row
          rw [List.length_map] at hI a1 a2 ⊢
          have hCr : C + 1 ≤ wr.heap.size := lt_of_cell c0
          have hb1' : (vs.length + [Value.slice sa l.length sc].length) * 24 ≤ 140737488355328 := by simp; omega
          have hb2' : ((ts.map (Value.int .i64)).length + [Value.int .i64 t].length) * 8 ≤ 140737488355328 := by simp; omega
          have HmiR := Lib.hid hmi
          have HI2 := Lib.hid hI
          have A1 := Lib.hid a1
          have A2 := Lib.hid a2
          have Hcv := Lib.hid hcv
          have hl13 : 1 ≤ l.length ∧ l.length ≤ 3 := by have := Hll.out; omega
          have ht170 : 0 ≤ t ∧ t ≤ 170 := by omega
          clear hown hmi hcv hI a1 a2 hvl
          go_wp2_with (at_builtin; first | (refine wpl_app rfl _ _ 30 rfl (C + 1) 40 j0 _ 24 hul hj0 hj1 hj2 hj3 rfl cv vs rfl (Hcv.out.alloc _) _ _ [.slice sa l.length sc] 1 rfl rfl (fun h => nomatch h) (row_new1 _ _ _ (by first | rfl | simp)) (by simp [Value.oneCell']) hb1' (by omega) (by first | omega | (simp; omega)) ?_; intro v1 w1 hown1 hgr1 hmv1; obtain ⟨va, vc, hv1, _, _, _⟩ := hown1.row; rw [List.length_append, List.length_singleton] at hv1; subst hv1; have M1 := Lib.hid (MInv.push1 (HmiR.out.grow ((Grow.refl _).alloc _)) (HI2.out.grow ((Grow.refl _).alloc _)) (A1.out.size ((Grow.refl _).alloc _).size) (A2.out.size ((Grow.refl _).alloc _).size) hgr1 hmv1 hown1); have S1 := Lib.hid ((Hms2.out.grow ((Grow.refl _).alloc _) hCl hAC).step hgr1 (fun b hb => Hcv.out.base b hb) hCl hAC); have hC1 : C + 1 ≤ w1.heap.size := lt_of_cell S1.out.2.2.2.1; clear hown1 hgr1 hmv1 c0 c1 c2 cf) | (refine wpl_app rfl _ _ 40 rfl (C + 1) 3 i0 _ 8 hui hi0 hi1 hi2 hi3 rfl tt (ts.map (Value.int .i64)) rfl (M1.out.2.2.2.2.2.1.alloc _) _ _ [.int .i64 t] 1 rfl rfl (fun h => nomatch h) (row_new1 _ _ _ (by first | rfl | simp)) (by simp [Value.oneCell']) hb2' (by omega) (by simp; omega) ?_; intro v2 w2 hown2 hgr2 hmv2; have M2 := Lib.hid (MInv.push2 (es' := ts ++ [t]) (M1.out.grow ((Grow.refl _).alloc _)) hgr2 hmv2 (by rw [List.map_append]; exact hown2)); have S2 := Lib.hid ((S1.out.grow ((Grow.refl _).alloc _) hCl hAC).step hgr2 (fun b hb => M1.out.2.2.2.2.2.1.base b hb) hCl hAC); clear hown2 hgr2 hmv2; obtain ⟨_, _, _, d0', d1', d2', df⟩ := id S2.out))
          have M3 := M2.out.old (bySet w2 C 2 (.slice va (vs.length + 1) vc)) (by omega)
          have S3 := S2.out.store2 (cv' := .slice va (vs.length + 1) vc) hCl hAC
          have hE := Hrt.out.snoc (l := l) (t := t) (by omega) hl13 ht170 Hlx.out
          exact ⟨⟨j + 1, ss ++ [l], _, _, v2, ts ++ [t], kk, rfl, by omega, by go_num, by simp; omega, by simp; omega, M3, S3, by omega, by omega, hE⟩, by simp [intOf]; omega⟩
    · skip
      have hvl := Hmi.out.2.2.2.2.1.1
      obtain ⟨ca, cc, rfl, _, _, _⟩ := Hmi.out.2.2.2.1.row
      obtain ⟨_, _, _, c0, c1, c2, cf⟩ := id hms
      clear hms
      have hvn : vs.length ≤ 6 := by omega
      have hv1 : 1 ≤ vs.length := by omega
      have Hvl := Lib.hid (show ss.length = vs.length ∧ ts.length = vs.length by omega)
      clear hvl hsl hel
      go_wp2_with fail
      refine (PD.out _ k (vs.length : Int) E 0 _ Hms.out (by omega) (by omega)).mono ?_
      clear c0 c1 c2 cf
      rintro e w6 ⟨f0, k6, rfl, hf0, hf1, hk6, g6, m6⟩
      have Hmi := Lib.hid (Hmi.out.old g6 (by omega))
      obtain ⟨F, hF⟩ : ∃ F, 1 + f0 = F := ⟨_, rfl⟩
      have E1 : IntKind.i64.wrap (1 + f0) = F := by rw [hF]; exact IntWalk.i64_in _ (by omega)
      obtain ⟨_, _, _, c0, c1, c2, cf⟩ := id m6
      have m7 := Lib.hid (m6.store1 (F' := F) hCl hAC)
      have M7 := Lib.hid (Hmi.out.old (bySet w6 C 1 (.int .i64 F)) (by omega))
      have R7 : Right7 E F ss ts := Hrt.out.right (by omega) (by have := Hvl.out; omega) (by have := Hvl.out; omega) (by have := Hvl.out; omega)
      have HR7 := Lib.hid R7
      clear R7 m6
      go_upto_region 14 with fail
      (try rw [hF])
      obtain ⟨W7, hW7⟩ : ∃ z, w6.setCell ⟨C, 1, none⟩ (.int .i64 F) = z := ⟨_, rfl⟩
      rw [hW7] at m7 M7
      rw [hW7]
      clear hW7 c0 c1 c2 cf E1
      obtain ⟨_, _, _, c0, c1, c2, cf⟩ := id m7.out
      have m8 := Lib.hid (((m7.out.store0 (E' := E) hCl hAC).store1 (F' := F) hCl hAC).store2 (cv' := .slice ca vs.length cc) hCl hAC)
      have M8 := Lib.hid (((M7.out.old (bySet _ C 0 (.int .i64 E)) (by omega)).old (bySet _ C 1 (.int .i64 F)) (by omega)).old (bySet _ C 2 (.slice ca vs.length cc)) (by omega))
      go_wp2_with fail
      obtain ⟨_, _, _, e0, e1, e2, ef⟩ := id m8.out
      exact bodyPost_ret (v := .tuple #[.agg #[.int .i64 E, .int .i64 F, .slice ca vs.length cc], tt]) (by simp [results, Try.results20, go_sem, e0, e1, e2]) rfl
        ⟨E, F, _, _, ss, ts, rfl, m8.out.1, M8.out.2.2.2.2.1.sheets M8.out.2.2.2.1 (by have := Hvl.out; omega), M8.out.2.2.2.2.2.1.ints (by have := Hvl.out; omega), HR7.out⟩
end Go.Proofs.Ytbeglemohfbdfaa
