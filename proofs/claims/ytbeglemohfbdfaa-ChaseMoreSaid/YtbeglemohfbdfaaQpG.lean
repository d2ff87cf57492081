/- The program of layer 7: places. Conditions: sizes. -/
import Derived.Test.YtbeglemohfbdfaaQpF
namespace Go.Proofs.Ytbeglemohfbdfaa
open Go.RowKit

def plHi (ks : List (Int × Int)) (p k : Nat) : Nat := (List.range k).countP fun i => decide (i ≠ p) && befB (lo ks i) i (hi ks p) p
def plLo (ks : List (Int × Int)) (p k : Nat) : Nat := (List.range k).countP fun i => decide (i ≠ p) && befB (hi ks i) i (lo ks p) p
theorem plHi_succ (ks : List (Int × Int)) (p k : Nat) : plHi ks p (k + 1) = plHi ks p k + if (decide (k ≠ p) && befB (lo ks k) k (hi ks p) p) = true then 1 else 0 := by
  unfold plHi
  rw [List.range_succ, List.countP_append, List.countP_singleton]
theorem plLo_succ (ks : List (Int × Int)) (p k : Nat) : plLo ks p (k + 1) = plLo ks p k + if (decide (k ≠ p) && befB (hi ks k) k (lo ks p) p) = true then 1 else 0 := by
  unfold plLo
  rw [List.range_succ, List.countP_append, List.countP_singleton]
theorem pl_le (ks : List (Int × Int)) (p k : Nat) : plHi ks p k ≤ k ∧ plLo ks p k ≤ k := by
  unfold plHi plLo
  have h1 := List.countP_le_length (p := fun i => decide (i ≠ p) && befB (lo ks i) i (hi ks p) p) (l := List.range k)
  have h2 := List.countP_le_length (p := fun i => decide (i ≠ p) && befB (hi ks i) i (lo ks p) p) (l := List.range k)
  simp only [List.length_range] at h1 h2
  exact ⟨h1, h2⟩
theorem bef_swap {a b : Int} {p i : Nat} (h : i ≠ p) : (!befB a p b i) = befB b i a p := by
  rw [Bool.eq_iff_iff, Bool.not_eq_true', Bool.eq_false_iff, ne_eq, befB_iff, befB_iff]
  omega
/-- What stands while places are counted. -/
def PlInv (w : World) (W0 W1 : Nat) (x y p n0 n1 : Int) (V : World) : Prop :=
  Grow w V ∧ V.cell? ⟨W0, 0, none⟩ = some (.int .i64 n0) ∧ V.cell? ⟨W0, 1, none⟩ = some (.int .i64 n1) ∧ (∀ o, V.frozen? ⟨W0, o, none⟩ = false) ∧ V.cell? ⟨W1, 0, none⟩ = some (.int .i64 x) ∧ V.cell? ⟨W1, 1, none⟩ = some (.int .i64 y) ∧ V.cell? ⟨W1, 2, none⟩ = some (.int .i64 p)
theorem PlInv.grow {w : World} {W0 W1 : Nat} {x y p n0 n1 : Int} {V V' : World} (h : PlInv w W0 W1 x y p n0 n1 V) (hg : Grow V V') : PlInv w W0 W1 x y p n0 n1 V' :=
  ⟨h.1.trans hg, hg.keeps h.2.1, hg.keeps h.2.2.1, fun o => (hg.marks _ _ (lt_of_cell h.2.1)).trans (h.2.2.2.1 o), hg.keeps h.2.2.2.2.1, hg.keeps h.2.2.2.2.2.1, hg.keeps h.2.2.2.2.2.2⟩
theorem PlInv.set {w : World} {W0 W1 : Nat} {x y p n0 n1 : Int} {V : World} (h : PlInv w W0 W1 x y p n0 n1 V) (hw : w.heap.size ≤ W0) (hne : W0 ≠ W1) (m : Int) :
    PlInv w W0 W1 x y p m n1 (V.setCell ⟨W0, 0, none⟩ (.int .i64 m)) ∧ PlInv w W0 W1 x y p n0 m (V.setCell ⟨W0, 1, none⟩ (.int .i64 m)) := by
  obtain ⟨h1, h2, h3, h4, h5, h6, h7⟩ := h
  have hn : some W0 ≠ some W1 := fun e => hne (by injection e)
  have key : ∀ o z, V.cell? ⟨W0, o, none⟩ ≠ none → (V.setCell ⟨W0, o, none⟩ z).cell? ⟨W0, o, none⟩ = some z := fun o z hz => World.cell?_setCell_same' _ _ _ (by cases hc : V.cell? ⟨W0, o, none⟩ with | none => exact absurd hc hz | some _ => rfl)
  refine ⟨⟨h1.setCell hw _, key 0 _ (by rw [h2]; simp), ?_, fun o => by rw [World.frozen?_setCell]; exact h4 o, byCell1 (bySet V W0 0 _) h5 hn, byCell1 (bySet V W0 0 _) h6 hn, byCell1 (bySet V W0 0 _) h7 hn⟩,
    ⟨h1.setCell hw _, ?_, key 1 _ (by rw [h3]; simp), fun o => by rw [World.frozen?_setCell]; exact h4 o, byCell1 (bySet V W0 1 _) h5 hn, byCell1 (bySet V W0 1 _) h6 hn, byCell1 (bySet V W0 1 _) h7 hn⟩⟩
  · rw [World.cell?_setCell_other _ _ _ _ (by simp)]; exact h3
  · rw [World.cell?_setCell_other _ _ _ _ (by simp)]; exact h2
set_option maxRecDepth 100000 in
set_option maxHeartbeats 1000000 in
theorem pplace_any (c p : Nat) (F : Int) (ks : List (Int × Int)) (w : World) (h : ChaseIs w c F ks) (hp : p < ks.length) (hl : ks.length ≤ 6) :
    Calls Try.prog 42 #[.pointer (some ⟨c, 0, none⟩), .int .i64 p] w fun e w' => e = .returned (.agg #[.int .i64 (placeLo ks p), .int .i64 (placeHi ks p)]) ∧ Grow w w' := by
  obtain ⟨E, sa, sn, sc, a, cap, h0, h1, h2, h3, h4, h5⟩ := h
  have hcl := lt_of_cell h3
  obtain ⟨b, o, rfl, m1, m2, m3⟩ := h5 p (lo ks p, hi ks p) (by simp [lo, hi, hp])
  have H5 := Lib.hid h5
  have hbl := lt_of_cell m1
  obtain ⟨x, hx⟩ : ∃ x, lo ks p = x := ⟨_, rfl⟩
  obtain ⟨y, hy⟩ : ∃ y, hi ks p = y := ⟨_, rfl⟩
  rw [hx] at m1
  rw [hy] at m2
  have Hx := Lib.hid hx
  have Hy := Lib.hid hy
  clear h5 hx hy
  go_enter Try.func42, Try.ntmps42
  go_wp2_with fail
  obtain ⟨W, hW⟩ : ∃ W, W = ((w.alloc (.cells #[.int .i64 0, .int .i64 0] 23)).alloc (.cells #[.int .i64 x, .int .i64 y, .int .i64 p] 65)) := ⟨_, rfl⟩
  have hgW : Grow w W := by rw [hW]; exact (((Grow.refl w).alloc _).alloc _)
  have hW00 : W.cell? ⟨w.heap.size, 0, none⟩ = some (.int .i64 0) := by rw [hW]; exact Grow.keepA (cell_new (by simp) rfl) _
  have hW01 : W.cell? ⟨w.heap.size, 1, none⟩ = some (.int .i64 0) := by rw [hW]; exact Grow.keepA (cell_new (by simp) rfl) _
  have hWf0 : ∀ o, W.frozen? ⟨w.heap.size, o, none⟩ = false := by intro o; rw [hW]; exact (((Grow.refl _).alloc _).marks _ _ (by simp <;> omega)).trans (hot_new (by simp))
  have hWl0 : w.heap.size < W.heap.size := by rw [hW]; simp; try omega
  have hW10 : W.cell? ⟨w.heap.size + 1, 0, none⟩ = some (.int .i64 x) := by rw [hW]; exact cell_new (by simp) rfl
  have hW11 : W.cell? ⟨w.heap.size + 1, 1, none⟩ = some (.int .i64 y) := by rw [hW]; exact cell_new (by simp) rfl
  have hW12 : W.cell? ⟨w.heap.size + 1, 2, none⟩ = some (.int .i64 p) := by rw [hW]; exact cell_new (by simp) rfl
  have hWf1 : ∀ o, W.frozen? ⟨w.heap.size + 1, o, none⟩ = false := by intro o; rw [hW]; exact hot_new (by simp)
  have hWl1 : w.heap.size + 1 < W.heap.size := by rw [hW]; simp; try omega
  rw [← hW]
  clear hW
  have hWd : ∀ n, (W.drewN n).heap.size = W.heap.size := fun _ => rfl
  have hWq : ∀ n o b j, b < W.heap.size → ((W.drewN n).alloc o).cell? ⟨b, j, none⟩ = W.cell? ⟨b, j, none⟩ := cell_drewN_alloc W
  have hWr : ∀ n o b j, b < W.heap.size → ((W.drewN n).alloc o).frozen? ⟨b, j, none⟩ = W.frozen? ⟨b, j, none⟩ := hot_drewN_alloc W
  have hWb0 : w.heap.size ≤ w.heap.size := by omega
  have hWb1 : w.heap.size ≤ w.heap.size + 1 := by omega
  have hWn01 : w.heap.size ≠ w.heap.size + 1 := by omega
  have hWn10 : w.heap.size + 1 ≠ w.heap.size := by omega
  obtain ⟨W1, hWe1⟩ : ∃ g, w.heap.size + 1 = g := ⟨_, rfl⟩
  rw [hWe1] at hW10 hW11 hW12 hWf1 hWl1 hWb1 hWn10 hWn01
  (try rw [hWe1])
  have hWk1 := Lib.hid hWe1
  clear hWe1
  obtain ⟨W0, hWe0⟩ : ∃ g, w.heap.size = g := ⟨_, rfl⟩
  have hWb0 : w.heap.size ≤ W0 := by omega
  rw [hWe0] at hW00 hW01 hWf0 hWl0 hWn01 hWn10
  (try rw [hWe0])
  have hWk0 := Lib.hid hWe0
  clear hWe0
  have hn01 : W0 ≠ W1 := hWn01
  go_loopw [8, 21] (fun _ i wr => ∃ k : Nat, k ≤ ks.length ∧ i = .int .i64 k ∧ PlInv w W0 W1 x y p (plLo ks p k) (plHi ks p k) wr) (fun _ i _ => ks.length - (intOf i).toNat)
  case atStart => exact ⟨0, Nat.zero_le _, rfl, hgW, hW00, hW01, hWf0, hW10, hW11, hW12⟩
  case round =>
    obtain ⟨k, hk, rfl, hI⟩ := hrel
    have hle := pl_le ks p k
    obtain ⟨n0, hn0⟩ : ∃ z, plLo ks p k = z := ⟨_, rfl⟩
    obtain ⟨n1, hn1⟩ : ∃ z, plHi ks p k = z := ⟨_, rfl⟩
    rw [hn0, hn1] at hI
    rw [hn0, hn1] at hle
    have Hn0 := Lib.hid hn0
    have Hn1 := Lib.hid hn1
    have HI := Lib.hid hI
    obtain ⟨hg, z0, z1, zf, y0, y1, y2⟩ := hI
    clear hn0 hn1
    by_cases hlt : k < ks.length
    · obtain ⟨b', o', hbo, c1, c2, c3⟩ := H5.out k (lo ks k, hi ks k) (by simp [lo, hi, hlt])
      cases hbo
      replace c1 := hg.keeps c1
      replace c2 := hg.keeps c2
      replace c3 := hg.keeps c3
      have hbk := lt_of_cell c1
      have s0 := Lib.hid (plLo_succ ks p k)
      have s1 := Lib.hid (plHi_succ ks p k)
      obtain ⟨u, hu⟩ : ∃ z, lo ks k = z := ⟨_, rfl⟩
      obtain ⟨v, hv⟩ : ∃ z, hi ks k = z := ⟨_, rfl⟩
      rw [hu] at c1
      rw [hv] at c2
      have Hu := Lib.hid hu
      have Hv := Lib.hid hv
      clear hu hv
      have hlw := lt_of_cell z0
      have hlw1 := lt_of_cell y0
      by_cases hkp : k = p
      · have e1 : ((k : Int) == (p : Int)) = true := by simp [hkp]
        have t0 : Hid (plLo ks p (k + 1) = n0) := by show _ = _; rw [s0.out, Hn0.out]; simp [hkp]
        have t1 : Hid (plHi ks p (k + 1) = n1) := by show _ = _; rw [s1.out, Hn1.out]; simp [hkp]
        clear hkp
        go_wp2_with fail
        exact ⟨⟨k + 1, by omega, by go_num, by rw [t0.out, t1.out]; exact HI.out.grow ((Grow.refl wr).alloc _)⟩, by simp [intOf]; omega⟩
      · have e1 : ((k : Int) == (p : Int)) = false := by simp; omega
        have t0 : Hid (plLo ks p (k + 1) = n0 + if befB x p v k = true then 0 else 1) := by
          show _ = _
          rw [s0.out, Hn0.out, Hx.out, Hv.out, decide_eq_true hkp, Bool.true_and, ← bef_swap hkp]
          cases befB x p v k <;> rfl
        have t1 : Hid (plHi ks p (k + 1) = n1 + if befB u k y p = true then 1 else 0) := by
          show _ = _
          rw [s1.out, Hn1.out, Hy.out, Hu.out, decide_eq_true hkp, Bool.true_and]
        obtain ⟨b1, hb1⟩ : ∃ z, befB u k y p = z := ⟨_, rfl⟩
        obtain ⟨b2, hb2⟩ : ∃ z, befB x p v k = z := ⟨_, rfl⟩
        have Hb1 := Lib.hid hb1
        have Hb2 := Lib.hid hb2
        clear hb1 hb2 hkp
        go_wp2_with fail
        refine (pcan_agg u v x y k p _).mono ?_
        rintro e w1 ⟨rfl, hg1⟩
        rw [Hb1.out]
        have hI1 := HI.out.grow (((Grow.refl wr).alloc (.cells #[.int .i64 u, .int .i64 v, .int .i64 k] 65)).trans hg1)
        have q1 : w1.cell? ⟨wr.heap.size, 0, none⟩ = some (.int .i64 u) := hg1.keeps (cell_new rfl rfl)
        have q2 : w1.cell? ⟨wr.heap.size, 1, none⟩ = some (.int .i64 v) := hg1.keeps (cell_new rfl rfl)
        have q3 : w1.cell? ⟨wr.heap.size, 2, none⟩ = some (.int .i64 k) := hg1.keeps (cell_new rfl rfl)
        have HI1 := Lib.hid hI1
        obtain ⟨_, r0, r1, rf, r2, r3, r4⟩ := hI1
        have hlr := lt_of_cell r0
        have hlr1 := lt_of_cell r2
        have hlq := lt_of_cell q1
        clear z0 z1 zf y0 y1 y2 hW00 hW01 hWf0 hW10 hW11 hW12
        cases b1
        · go_wp2_with fail
          refine (pcan_agg x y u v p k _).mono ?_
          rintro e w2 ⟨rfl, hg2⟩
          rw [Hb2.out]
          have HI2 := Lib.hid (HI1.out.grow hg2)
          cases b2
          · have u0 := hg2.keeps r0
            have uf : ∀ o, w2.frozen? ⟨W0, o, none⟩ = false := fun o => (hg2.marks _ _ hlr).trans (rf o)
            have hl2 := lt_of_cell u0
            go_wp2_with fail
            exact ⟨⟨k + 1, by omega, by go_num, by rw [t0.out, t1.out, Hb1.out, Hb2.out]; exact (HI2.out.set hWb0 hn01 _).1⟩, by simp [intOf]; omega⟩
          · go_wp2_with fail
            exact ⟨⟨k + 1, by omega, by go_num, by rw [t0.out, t1.out, Hb1.out, Hb2.out]; exact HI2.out⟩, by simp [intOf]; omega⟩
        · go_wp2_with fail
          refine (pcan_agg x y u v p k _).mono ?_
          rintro e w2 ⟨rfl, hg2⟩
          rw [Hb2.out]
          have HI2 := Lib.hid (((HI1.out.set hWb0 hn01 ((n1 : Int) + 1)).2).grow hg2)
          cases b2
          · obtain ⟨_, u0, u1, uf, _⟩ := HI2.out
            have hl2 := lt_of_cell u0
            go_wp2_with fail
            exact ⟨⟨k + 1, by omega, by go_num, by rw [t0.out, t1.out, Hb1.out, Hb2.out]; exact (HI2.out.set hWb0 hn01 _).1⟩, by simp [intOf]; omega⟩
          · go_wp2_with fail
            exact ⟨⟨k + 1, by omega, by go_num, by rw [t0.out, t1.out, Hb1.out, Hb2.out]; exact HI2.out⟩, by simp [intOf]; omega⟩
    · obtain rfl : k = ks.length := by omega
      go_wp2_with fail
      exact bodyPost_ret (v := .agg #[.int .i64 n0, .int .i64 n1]) (by simp [results, Try.results42, go_sem, z0, z1]) rfl ⟨by rw [← Hn0.out, ← Hn1.out]; rfl, (Below.setCell (p := ⟨W0, 0, none⟩) hg hWb0 _).setCell (p := ⟨W0, 1, none⟩) hWb0 _⟩
end Go.Proofs.Ytbeglemohfbdfaa
namespace Go.Proofs.Ytbeglemohfbdfaa
open Go.RowKit

/-- What Place comes to. -/
def placeV (E F : Int) (ss : List (List Int)) (p : Int) : Int × Int := if errOf E F ss (inB p 0 (ss.length - 1)) = 0 then (placeLo (clocksOf E ss) p.toNat, placeHi (clocksOf E ss) p.toNat) else (0, 0)
set_option maxRecDepth 100000 in
set_option maxHeartbeats 2000000 in
theorem pPlace_any (E F p : Int) (v : Value) (ss : List (List Int)) (w : World) (hv : IsSheets w v ss) :
    Calls Try.prog 13 #[.agg #[.int .i64 E, .int .i64 F, v], .int .i64 p] w fun e w' => e = .returned (.tuple #[.agg #[.int .i64 (placeV E F ss p).1, .int .i64 (placeV E F ss p).2], .int .i64 (errOf E F ss (inB p 0 (ss.length - 1)))]) ∧ Grow w w' := by
  have hmf : ∀ (fn : Fn) (first cap : Array Value) (w : World), (Instr.makeFunc fn first cap).run Try.prog w = .ok (.func fn first cap) w := fun _ _ _ _ => rfl
  obtain ⟨a, cap, rfl, hcap, hlen, hrow⟩ := id hv
  have Hv := Lib.hid hv
  obtain ⟨cd, hcd⟩ : ∃ cd, errOf E F ss (inB p 0 (ss.length - 1)) = cd := ⟨_, rfl⟩
  obtain ⟨tv, htv⟩ : ∃ tv, placeV E F ss p = tv := ⟨_, rfl⟩
  rw [hcd, htv]
  have Hcd := Lib.hid hcd
  have Htv := Lib.hid htv
  clear hcd htv hv hrow
  go_enter_defers Try.func13, Try.ntmps13
  go_wp2_with fail
  obtain ⟨W, hW⟩ : ∃ W, W = (((w.alloc (.cells #[.int .i64 E, .int .i64 F, .slice a ss.length cap] 32)).alloc (.cells #[.int .i64 0, .int .i64 0] 23)).alloc (.cells #[.int .i64 0] 27)) := ⟨_, rfl⟩
  have hgW : Grow w W := by rw [hW]; exact ((((Grow.refl w).alloc _).alloc _).alloc _)
  have hW00 : W.cell? ⟨w.heap.size, 0, none⟩ = some (.int .i64 E) := by rw [hW]; exact Grow.keepA (Grow.keepA (cell_new (by simp) rfl) _) _
  have hW01 : W.cell? ⟨w.heap.size, 1, none⟩ = some (.int .i64 F) := by rw [hW]; exact Grow.keepA (Grow.keepA (cell_new (by simp) rfl) _) _
  have hW02 : W.cell? ⟨w.heap.size, 2, none⟩ = some (.slice a ss.length cap) := by rw [hW]; exact Grow.keepA (Grow.keepA (cell_new (by simp) rfl) _) _
  have hWf0 : ∀ o, W.frozen? ⟨w.heap.size, o, none⟩ = false := by intro o; rw [hW]; exact (((Grow.refl _).alloc _).marks _ _ (by simp <;> omega)).trans ((((Grow.refl _).alloc _).marks _ _ (by simp <;> omega)).trans (hot_new (by simp)))
  have hWl0 : w.heap.size < W.heap.size := by rw [hW]; simp; try omega
  have hW10 : W.cell? ⟨w.heap.size + 1, 0, none⟩ = some (.int .i64 0) := by rw [hW]; exact Grow.keepA (cell_new (by simp) rfl) _
  have hW11 : W.cell? ⟨w.heap.size + 1, 1, none⟩ = some (.int .i64 0) := by rw [hW]; exact Grow.keepA (cell_new (by simp) rfl) _
  have hWf1 : ∀ o, W.frozen? ⟨w.heap.size + 1, o, none⟩ = false := by intro o; rw [hW]; exact (((Grow.refl _).alloc _).marks _ _ (by simp <;> omega)).trans (hot_new (by simp))
  have hWl1 : w.heap.size + 1 < W.heap.size := by rw [hW]; simp; try omega
  have hW20 : W.cell? ⟨w.heap.size + 1 + 1, 0, none⟩ = some (.int .i64 0) := by rw [hW]; exact cell_new (by simp) rfl
  have hWf2 : ∀ o, W.frozen? ⟨w.heap.size + 1 + 1, o, none⟩ = false := by intro o; rw [hW]; exact hot_new (by simp)
  have hWl2 : w.heap.size + 1 + 1 < W.heap.size := by rw [hW]; simp; try omega
  rw [← hW]
  clear hW
  have hWd : ∀ n, (W.drewN n).heap.size = W.heap.size := fun _ => rfl
  have hWq : ∀ n o b j, b < W.heap.size → ((W.drewN n).alloc o).cell? ⟨b, j, none⟩ = W.cell? ⟨b, j, none⟩ := cell_drewN_alloc W
  have hWr : ∀ n o b j, b < W.heap.size → ((W.drewN n).alloc o).frozen? ⟨b, j, none⟩ = W.frozen? ⟨b, j, none⟩ := hot_drewN_alloc W
  have hWb0 : w.heap.size ≤ w.heap.size := by omega
  have hWb1 : w.heap.size ≤ w.heap.size + 1 := by omega
  have hWn01 : w.heap.size ≠ w.heap.size + 1 := by omega
  have hWn10 : w.heap.size + 1 ≠ w.heap.size := by omega
  have hWb2 : w.heap.size ≤ w.heap.size + 1 + 1 := by omega
  have hWn02 : w.heap.size ≠ w.heap.size + 1 + 1 := by omega
  have hWn20 : w.heap.size + 1 + 1 ≠ w.heap.size := by omega
  have hWn12 : w.heap.size + 1 ≠ w.heap.size + 1 + 1 := by omega
  have hWn21 : w.heap.size + 1 + 1 ≠ w.heap.size + 1 := by omega
  obtain ⟨W2, hWe2⟩ : ∃ g, w.heap.size + 1 + 1 = g := ⟨_, rfl⟩
  rw [hWe2] at hW20 hWf2 hWl2 hWb2 hWn20 hWn21 hWn02 hWn12
  (try rw [hWe2])
  have hWk2 := Lib.hid hWe2
  clear hWe2
  obtain ⟨W1, hWe1⟩ : ∃ g, w.heap.size + 1 = g := ⟨_, rfl⟩
  rw [hWe1] at hW10 hW11 hWf1 hWl1 hWb1 hWn10 hWn12 hWn01 hWn21
  (try rw [hWe1])
  have hWk1 := Lib.hid hWe1
  clear hWe1
  obtain ⟨W0, hWe0⟩ : ∃ g, w.heap.size = g := ⟨_, rfl⟩
  have hWb0 : w.heap.size ≤ W0 := by omega
  rw [hWe0] at hW00 hW01 hW02 hWf0 hWl0 hWn01 hWn02 hWn10 hWn20
  (try rw [hWe0])
  have hWk0 := Lib.hid hWe0
  clear hWe0
  refine wp_panicAt 4 5 (.pointer (some ⟨W1, 0, none⟩)) (.pointer (some ⟨W2, 0, none⟩)) [{ target := .fn (.func 41) #[.pointer (some ⟨W2, 0, none⟩)], args := #[] }] ?_
  have hSX : SX w W0 E F (.slice a ss.length cap) W.drew := ⟨hgW.drew, (Grow.refl W).drew.keeps hW00, (Grow.refl W).drew.keeps hW01, (Grow.refl W).drew.keeps hW02⟩
  have hD : Grow W W.drew := (Grow.refl W).drew
  have dead : ∀ (V : World) (c : Int), Grow W V → errOf E F ss (inB p 0 (ss.length - 1)) = c → c ≠ 0 → ∀ T : Array Value, T[4]?.getD undef = .pointer (some ⟨W1, 0, none⟩) → T[5]?.getD undef = .pointer (some ⟨W2, 0, none⟩) →
      Leaves Try.prog Try.f13 T (fun e w' => e = .returned (.tuple #[.agg #[.int .i64 tv.1, .int .i64 tv.2], .int .i64 cd]) ∧ Grow w w') [{ target := .fn (.func 41) #[.pointer (some ⟨W2, 0, none⟩)], args := #[] }] (.panicking (refusal c)) V := by
    intro V c hg hce hc0 T h4 h5
    have hc1 := hg.keeps hW20
    have hf1 : ∀ o, V.frozen? ⟨W2, o, none⟩ = false := fun o => (hg.marks _ _ hWl2).trans (hWf2 o)
    have ht : tv = (0, 0) := by rw [← Htv.out]; unfold placeV; rw [if_neg (by rw [hce]; exact hc0)]
    have hcc : cd = c := by rw [← Hcd.out]; exact hce
    subst ht hcc
    unfold refusal
    refine leaves_cons (f := 41) (args := #[.pointer (some ⟨W2, 0, none⟩)]) (by simp) (by simp [go_sem]) ?_
    refine (pdefPlace_panic W2 cd [] V hc1 hf1).mono ?_
    rintro e u' w'' ⟨rfl, rfl, q1, q2⟩
    have hG : Grow w w'' := Below.trans (hgW.trans hg) (grownBy_below q2 (by intro k hk; injection hk with hk; omega) (hgW.trans hg).size)
    have q3 := byCell1 q2 (hg.keeps hW10) (by intro e; injection e with e; omega)
    have q4 := byCell1 q2 (hg.keeps hW11) (by intro e; injection e with e; omega)
    simp [Leaves, settle, results, Try.results13, go_sem, h4, h5, q1, q3, q4]
    exact hG
  (refine wp_region_held_drew (S := fun Vx => Grow w Vx ∧ Vx.cell? ⟨W0, 0, none⟩ = some (.int .i64 E) ∧ Vx.cell? ⟨W0, 1, none⟩ = some (.int .i64 F) ∧ Vx.cell? ⟨W0, 2, none⟩ = some (.slice a ss.length cap)) (by kernel_rfl) (hSX) (fun hHeld => ?_); refine wpAnyH_take (i := 0) (oi := _) (v := ?_) rfl (by kernel_rfl) (by kernel_rfl) (by kernel_rfl) (by intro _ _ _ h; exact PanicAt.put (by decide) (by decide) h) (Or.inl ⟨by rfl, ?_⟩) (by assumption) ?_; rotate_left; (focus (intro w hSw; (try dsimp only at hSw); go_simp; (try with_reducible rfl))); (try simp only [Act.put, List.setIfInBounds_toArray, List.set_cons_zero, List.set_cons_succ, List.getElem_toArray, List.getElem_cons_zero]); refine wpAnyH_take (i := 1) (oi := _) (v := ?_) rfl (by kernel_rfl) (by kernel_rfl) (by kernel_rfl) (by intro _ _ _ h; exact PanicAt.put (by decide) (by decide) h) (Or.inl ⟨by rfl, ?_⟩) (by assumption) ?_; rotate_left; (focus (intro w hSw; (try dsimp only at hSw); go_simp; (try with_reducible rfl))); (try simp only [Act.put, List.setIfInBounds_toArray, List.set_cons_zero, List.set_cons_succ, List.getElem_toArray, List.getElem_cons_zero, List.getElem_cons_succ]); refine wpAnyH_take (i := 2) (oi := _) (v := ?_) rfl (by kernel_rfl) (by kernel_rfl) (by kernel_rfl) (by intro _ _ _ h; exact PanicAt.put (by decide) (by decide) h) (Or.inl ⟨by rfl, ?_⟩) (by assumption) ?_; rotate_left; (focus (intro w hSw; (try dsimp only at hSw); go_simp; (try with_reducible rfl))); (try simp only [Act.put, List.setIfInBounds_toArray, List.set_cons_zero, List.set_cons_succ, List.getElem_toArray, List.getElem_cons_zero, List.getElem_cons_succ]); refine wpAnyH_take (i := 6) (oi := _) (v := ?_) rfl (by kernel_rfl) (by kernel_rfl) (by kernel_rfl) (by intro _ _ _ h; exact PanicAt.put (by decide) (by decide) h) (Or.inl ⟨by rfl, ?_⟩) (by assumption) ?_; rotate_left; (focus (intro w hSw; (try dsimp only at hSw); go_simp; (try with_reducible rfl))); (try simp only [Act.put, List.setIfInBounds_toArray, List.set_cons_zero, List.set_cons_succ, List.getElem_toArray, List.getElem_cons_zero, List.getElem_cons_succ]); refine wpAnyH_ready (rs := [3]) (by kernel_rfl) (by simp) ?_; refine AllReadyH.cons (o := _) rfl (fun K hK => ?_) AllReadyH.nil; (try simp only [List.getElem_toArray, List.getElem_cons_zero, List.getElem_cons_succ]); (try go_simp); (first | (go_at_call 39; refine (pisPair_any E F a _ cap p _ (by omega)).mono ?_; rintro e w1 ⟨rfl, hg1⟩) | (go_at_call 38; refine (popen E F _ ss (inB p 0 (ss.length - 1)) _ (Hv.out.grow hHeld.1)).mono ?_; rintro e w2 ⟨hg2, hbad, hok⟩; rcases Decidable.em (codeO E F ss (inB p 0 (ss.length - 1)) = 0) with hc | hc; (case inr => (have hbad := hbad hc; subst hbad; go_simp; exact ⟨rfl, rfl, rfl, fun T h4 h5 => dead w2 _ ((hD.trans hg1).trans hg2) (errOf_code hc) hc T h4 h5⟩)); (obtain ⟨c, rfl, hch, hcw, hcn⟩ := hok hc; have Hch := Lib.hid hch; have Hc := Lib.hid hc; clear hbad hok hch hc)) | (go_at_call 40; cases hfe : feasB (clocksOf E ss); (case false => (refine (ptold_no c F _ _ Hch.out hfe (by have := valid_len Hc.out; rw [clocks_len]; omega)).mono ?_; rintro e w3 ⟨rfl, hg3⟩; go_simp; exact ⟨rfl, rfl, rfl, fun T h4 h5 => dead w3 10 (((hD.trans hg1).trans hg2).trans hg3) (errOf_clash Hc.out hfe) (by decide) T h4 h5⟩)); (refine (ptold_yes c F _ _ Hch.out (feasB_iff.1 hfe) (by have := valid_len Hc.out; rw [clocks_len]; omega)).mono ?_; rintro e w3 ⟨rfl, hg3⟩; obtain ⟨k, rfl⟩ : ∃ k : Nat, p = k := ⟨p.toNat, by have := inB_true.1 (codeO_parts Hc.out).2; omega⟩; have hk : k < ss.length := (by have := inB_true.1 (codeO_parts Hc.out).2; omega); have hG3 : Grow W w3 := (((hD.trans hg1).trans hg2).trans hg3); have Hch3 := Lib.hid (Hch.out.grow hg3); have Hfe := Lib.hid hfe; clear hfe)) | (go_at_call 42; refine (pplace_any c k F _ _ Hch3.out (by rw [clocks_len]; exact hk) (by have := valid_len Hc.out; rw [clocks_len]; omega)).mono ?_; rintro e w4 ⟨rfl, hg4⟩; have hG4 : Grow W w4 := hG3.trans hg4; have y1 := hG4.keeps hW10; have y2 := hG4.keeps hW11; have y3 : ∀ o, w4.frozen? ⟨W1, o, none⟩ = false := (fun o => (hG4.marks _ _ hWl1).trans (hWf1 o)); have y4 := hG4.keeps hW20; have y5 : ∀ o, w4.frozen? ⟨W2, o, none⟩ = false := (fun o => (hG4.marks _ _ hWl2).trans (hWf2 o)); have hl1 := lt_of_cell y1; have hl2 := lt_of_cell y4)); (try (go_wp2_with fail)); refine hK.out _ _ ?_ (fun hHeld => ?_); (focus (first | assumption | exact SX.grow (by assumption) (by assumption) | exact SX.set (SX.set (by assumption) hWb1 hWn01 _) hWb1 hWn01 _ | exact SX.set (by assumption) hWb2 hWn02 _)); clear hK K; (try simp only [Act.put, List.setIfInBounds_toArray, List.set_cons_zero, List.set_cons_succ, List.getElem_toArray, List.getElem_cons_zero, List.getElem_cons_succ]); refine wpAnyH_ready (rs := [4]) (by kernel_rfl) (by simp) ?_; refine AllReadyH.cons (o := _) rfl (fun K hK => ?_) AllReadyH.nil; (try simp only [List.getElem_toArray, List.getElem_cons_zero, List.getElem_cons_succ]); (try go_simp); (first | (go_at_call 39; refine (pisPair_any E F a _ cap p _ (by omega)).mono ?_; rintro e w1 ⟨rfl, hg1⟩) | (go_at_call 38; refine (popen E F _ ss (inB p 0 (ss.length - 1)) _ (Hv.out.grow hHeld.1)).mono ?_; rintro e w2 ⟨hg2, hbad, hok⟩; rcases Decidable.em (codeO E F ss (inB p 0 (ss.length - 1)) = 0) with hc | hc; (case inr => (have hbad := hbad hc; subst hbad; go_simp; exact ⟨rfl, rfl, rfl, fun T h4 h5 => dead w2 _ ((hD.trans hg1).trans hg2) (errOf_code hc) hc T h4 h5⟩)); (obtain ⟨c, rfl, hch, hcw, hcn⟩ := hok hc; have Hch := Lib.hid hch; have Hc := Lib.hid hc; clear hbad hok hch hc)) | (go_at_call 40; cases hfe : feasB (clocksOf E ss); (case false => (refine (ptold_no c F _ _ Hch.out hfe (by have := valid_len Hc.out; rw [clocks_len]; omega)).mono ?_; rintro e w3 ⟨rfl, hg3⟩; go_simp; exact ⟨rfl, rfl, rfl, fun T h4 h5 => dead w3 10 (((hD.trans hg1).trans hg2).trans hg3) (errOf_clash Hc.out hfe) (by decide) T h4 h5⟩)); (refine (ptold_yes c F _ _ Hch.out (feasB_iff.1 hfe) (by have := valid_len Hc.out; rw [clocks_len]; omega)).mono ?_; rintro e w3 ⟨rfl, hg3⟩; obtain ⟨k, rfl⟩ : ∃ k : Nat, p = k := ⟨p.toNat, by have := inB_true.1 (codeO_parts Hc.out).2; omega⟩; have hk : k < ss.length := (by have := inB_true.1 (codeO_parts Hc.out).2; omega); have hG3 : Grow W w3 := (((hD.trans hg1).trans hg2).trans hg3); have Hch3 := Lib.hid (Hch.out.grow hg3); have Hfe := Lib.hid hfe; clear hfe)) | (go_at_call 42; refine (pplace_any c k F _ _ Hch3.out (by rw [clocks_len]; exact hk) (by have := valid_len Hc.out; rw [clocks_len]; omega)).mono ?_; rintro e w4 ⟨rfl, hg4⟩; have hG4 : Grow W w4 := hG3.trans hg4; have y1 := hG4.keeps hW10; have y2 := hG4.keeps hW11; have y3 : ∀ o, w4.frozen? ⟨W1, o, none⟩ = false := (fun o => (hG4.marks _ _ hWl1).trans (hWf1 o)); have y4 := hG4.keeps hW20; have y5 : ∀ o, w4.frozen? ⟨W2, o, none⟩ = false := (fun o => (hG4.marks _ _ hWl2).trans (hWf2 o)); have hl1 := lt_of_cell y1; have hl2 := lt_of_cell y4)); (try (go_wp2_with fail)); refine hK.out _ _ ?_ (fun hHeld => ?_); (focus (first | assumption | exact SX.grow (by assumption) (by assumption) | exact SX.set (SX.set (by assumption) hWb1 hWn01 _) hWb1 hWn01 _ | exact SX.set (by assumption) hWb2 hWn02 _)); clear hK K; (try simp only [Act.put, List.setIfInBounds_toArray, List.set_cons_zero, List.set_cons_succ, List.getElem_toArray, List.getElem_cons_zero, List.getElem_cons_succ]); refine wpAnyH_ready (rs := [5]) (by kernel_rfl) (by simp) ?_; refine AllReadyH.cons (o := _) rfl (fun K hK => ?_) AllReadyH.nil; (try simp only [List.getElem_toArray, List.getElem_cons_zero, List.getElem_cons_succ]); (try go_simp); (first | (go_at_call 39; refine (pisPair_any E F a _ cap p _ (by omega)).mono ?_; rintro e w1 ⟨rfl, hg1⟩) | (go_at_call 38; refine (popen E F _ ss (inB p 0 (ss.length - 1)) _ (Hv.out.grow hHeld.1)).mono ?_; rintro e w2 ⟨hg2, hbad, hok⟩; rcases Decidable.em (codeO E F ss (inB p 0 (ss.length - 1)) = 0) with hc | hc; (case inr => (have hbad := hbad hc; subst hbad; go_simp; exact ⟨rfl, rfl, rfl, fun T h4 h5 => dead w2 _ ((hD.trans hg1).trans hg2) (errOf_code hc) hc T h4 h5⟩)); (obtain ⟨c, rfl, hch, hcw, hcn⟩ := hok hc; have Hch := Lib.hid hch; have Hc := Lib.hid hc; clear hbad hok hch hc)) | (go_at_call 40; cases hfe : feasB (clocksOf E ss); (case false => (refine (ptold_no c F _ _ Hch.out hfe (by have := valid_len Hc.out; rw [clocks_len]; omega)).mono ?_; rintro e w3 ⟨rfl, hg3⟩; go_simp; exact ⟨rfl, rfl, rfl, fun T h4 h5 => dead w3 10 (((hD.trans hg1).trans hg2).trans hg3) (errOf_clash Hc.out hfe) (by decide) T h4 h5⟩)); (refine (ptold_yes c F _ _ Hch.out (feasB_iff.1 hfe) (by have := valid_len Hc.out; rw [clocks_len]; omega)).mono ?_; rintro e w3 ⟨rfl, hg3⟩; obtain ⟨k, rfl⟩ : ∃ k : Nat, p = k := ⟨p.toNat, by have := inB_true.1 (codeO_parts Hc.out).2; omega⟩; have hk : k < ss.length := (by have := inB_true.1 (codeO_parts Hc.out).2; omega); have hG3 : Grow W w3 := (((hD.trans hg1).trans hg2).trans hg3); have Hch3 := Lib.hid (Hch.out.grow hg3); have Hfe := Lib.hid hfe; clear hfe)) | (go_at_call 42; refine (pplace_any c k F _ _ Hch3.out (by rw [clocks_len]; exact hk) (by have := valid_len Hc.out; rw [clocks_len]; omega)).mono ?_; rintro e w4 ⟨rfl, hg4⟩; have hG4 : Grow W w4 := hG3.trans hg4; have y1 := hG4.keeps hW10; have y2 := hG4.keeps hW11; have y3 : ∀ o, w4.frozen? ⟨W1, o, none⟩ = false := (fun o => (hG4.marks _ _ hWl1).trans (hWf1 o)); have y4 := hG4.keeps hW20; have y5 : ∀ o, w4.frozen? ⟨W2, o, none⟩ = false := (fun o => (hG4.marks _ _ hWl2).trans (hWf2 o)); have hl1 := lt_of_cell y1; have hl2 := lt_of_cell y4)); (try (go_wp2_with fail)); refine hK.out _ _ ?_ (fun hHeld => ?_); (focus (first | assumption | exact SX.grow (by assumption) (by assumption) | exact SX.set (SX.set (by assumption) hWb1 hWn01 _) hWb1 hWn01 _ | exact SX.set (by assumption) hWb2 hWn02 _)); clear hK K; (try simp only [Act.put, List.setIfInBounds_toArray, List.set_cons_zero, List.set_cons_succ, List.getElem_toArray, List.getElem_cons_zero, List.getElem_cons_succ]); refine wpAnyH_ready (rs := [7]) (by kernel_rfl) (by simp) ?_; refine AllReadyH.cons (o := _) rfl (fun K hK => ?_) AllReadyH.nil; (try simp only [List.getElem_toArray, List.getElem_cons_zero, List.getElem_cons_succ]); (try go_simp); (first | (go_at_call 39; refine (pisPair_any E F a _ cap p _ (by omega)).mono ?_; rintro e w1 ⟨rfl, hg1⟩) | (go_at_call 38; refine (popen E F _ ss (inB p 0 (ss.length - 1)) _ (Hv.out.grow hHeld.1)).mono ?_; rintro e w2 ⟨hg2, hbad, hok⟩; rcases Decidable.em (codeO E F ss (inB p 0 (ss.length - 1)) = 0) with hc | hc; (case inr => (have hbad := hbad hc; subst hbad; go_simp; exact ⟨rfl, rfl, rfl, fun T h4 h5 => dead w2 _ ((hD.trans hg1).trans hg2) (errOf_code hc) hc T h4 h5⟩)); (obtain ⟨c, rfl, hch, hcw, hcn⟩ := hok hc; have Hch := Lib.hid hch; have Hc := Lib.hid hc; clear hbad hok hch hc)) | (go_at_call 40; cases hfe : feasB (clocksOf E ss); (case false => (refine (ptold_no c F _ _ Hch.out hfe (by have := valid_len Hc.out; rw [clocks_len]; omega)).mono ?_; rintro e w3 ⟨rfl, hg3⟩; go_simp; exact ⟨rfl, rfl, rfl, fun T h4 h5 => dead w3 10 (((hD.trans hg1).trans hg2).trans hg3) (errOf_clash Hc.out hfe) (by decide) T h4 h5⟩)); (refine (ptold_yes c F _ _ Hch.out (feasB_iff.1 hfe) (by have := valid_len Hc.out; rw [clocks_len]; omega)).mono ?_; rintro e w3 ⟨rfl, hg3⟩; obtain ⟨k, rfl⟩ : ∃ k : Nat, p = k := ⟨p.toNat, by have := inB_true.1 (codeO_parts Hc.out).2; omega⟩; have hk : k < ss.length := (by have := inB_true.1 (codeO_parts Hc.out).2; omega); have hG3 : Grow W w3 := (((hD.trans hg1).trans hg2).trans hg3); have Hch3 := Lib.hid (Hch.out.grow hg3); have Hfe := Lib.hid hfe; clear hfe)) | (go_at_call 42; refine (pplace_any c k F _ _ Hch3.out (by rw [clocks_len]; exact hk) (by have := valid_len Hc.out; rw [clocks_len]; omega)).mono ?_; rintro e w4 ⟨rfl, hg4⟩; have hG4 : Grow W w4 := hG3.trans hg4; have y1 := hG4.keeps hW10; have y2 := hG4.keeps hW11; have y3 : ∀ o, w4.frozen? ⟨W1, o, none⟩ = false := (fun o => (hG4.marks _ _ hWl1).trans (hWf1 o)); have y4 := hG4.keeps hW20; have y5 : ∀ o, w4.frozen? ⟨W2, o, none⟩ = false := (fun o => (hG4.marks _ _ hWl2).trans (hWf2 o)); have hl1 := lt_of_cell y1; have hl2 := lt_of_cell y4)); (try (go_wp2_with fail)); refine hK.out _ _ ?_ (fun hHeld => ?_); (focus (first | assumption | exact SX.grow (by assumption) (by assumption) | exact SX.set (SX.set (by assumption) hWb1 hWn01 _) hWb1 hWn01 _ | exact SX.set (by assumption) hWb2 hWn02 _)); clear hK K; (try simp only [Act.put, List.setIfInBounds_toArray, List.set_cons_zero, List.set_cons_succ, List.getElem_toArray, List.getElem_cons_zero, List.getElem_cons_succ]); refine wpAnyH_ready (rs := [8]) (by kernel_rfl) (by simp) ?_; refine AllReadyH.cons (o := _) rfl (fun K hK => ?_) AllReadyH.nil; (try simp only [List.getElem_toArray, List.getElem_cons_zero, List.getElem_cons_succ]); (try go_simp); (try (go_wp2_with fail)); refine hK.out _ _ ?_ (fun hHeld => ?_); (focus (first | assumption | exact SX.grow (by assumption) (by assumption) | exact SX.set (SX.set (by assumption) hWb1 hWn01 _) hWb1 hWn01 _ | exact SX.set (by assumption) hWb2 hWn02 _)); clear hK K; (try simp only [Act.put, List.setIfInBounds_toArray, List.set_cons_zero, List.set_cons_succ, List.getElem_toArray, List.getElem_cons_zero, List.getElem_cons_succ]); refine wpAnyH_ready (rs := [9]) (by kernel_rfl) (by simp) ?_; refine AllReadyH.cons (o := _) rfl (fun K hK => ?_) AllReadyH.nil; (try simp only [List.getElem_toArray, List.getElem_cons_zero, List.getElem_cons_succ]); (try go_simp); (try (go_wp2_with fail)); refine hK.out _ _ ?_ (fun hHeld => ?_); (focus (first | assumption | exact SX.grow (by assumption) (by assumption) | exact SX.set (SX.set (by assumption) hWb1 hWn01 _) hWb1 hWn01 _ | exact SX.set (by assumption) hWb2 hWn02 _)); clear hK K; (try simp only [Act.put, List.setIfInBounds_toArray, List.set_cons_zero, List.set_cons_succ, List.getElem_toArray, List.getElem_cons_zero, List.getElem_cons_succ]); refine wpAnyH_done (by kernel_rfl) ?_ _)
  simp only [PanicAt]
  have he : cd = 0 := by rw [← Hcd.out]; exact errOf_zero Hc.out Hfe.out
  have ht : tv = ((placeLo (clocksOf E ss) k : Int), (placeHi (clocksOf E ss) k : Int)) := by
    rw [← Htv.out]
    unfold placeV
    rw [if_pos (errOf_zero Hc.out Hfe.out)]
    simp
  subst he ht
  clear dead
  obtain ⟨x, hx⟩ : ∃ x : Int, (placeLo (clocksOf E ss) k : Int) = x := ⟨_, rfl⟩
  obtain ⟨y, hy⟩ : ∃ y : Int, (placeHi (clocksOf E ss) k : Int) = y := ⟨_, rfl⟩
  rw [hx, hy]
  have Hx := Lib.hid hx
  have Hy := Lib.hid hy
  clear hx hy
  obtain ⟨z0, z1, _, _⟩ := cells2 (x := .int .i64 x) (y := .int .i64 y) y1 y2
  have z2 : ((w4.setCell ⟨W1, 0, none⟩ (.int .i64 x)).setCell ⟨W1, 1, none⟩ (.int .i64 y)).cell? ⟨W2, 0, none⟩ = some (.int .i64 0) := byCell1 (bySet _ W1 1 _) (byCell1 (bySet _ W1 0 _) y4 (by intro e; injection e with e; omega)) (by intro e; injection e with e; omega)
  have z3 := byCell1 (bySet _ W2 0 (.int .i64 0)) z0 (by intro e; injection e with e; omega)
  have z4 := byCell1 (bySet _ W2 0 (.int .i64 0)) z1 (by intro e; injection e with e; omega)
  have z5 : (((w4.setCell ⟨W1, 0, none⟩ (.int .i64 x)).setCell ⟨W1, 1, none⟩ (.int .i64 y)).setCell ⟨W2, 0, none⟩ (.int .i64 0)).cell? ⟨W2, 0, none⟩ = some (.int .i64 0) := World.cell?_setCell_same' _ _ _ (by rw [z2]; rfl)
  have hG : Grow w (((w4.setCell ⟨W1, 0, none⟩ (.int .i64 x)).setCell ⟨W1, 1, none⟩ (.int .i64 y)).setCell ⟨W2, 0, none⟩ (.int .i64 0)) := ((Below.setCell (p := ⟨W1, 0, none⟩) (hgW.trans hG4) (by omega) _).setCell (p := ⟨W1, 1, none⟩) (by omega) _).setCell (p := ⟨W2, 0, none⟩) (by omega) _
  go_wp2
  show Leaves _ _ _ _ _ _ _
  refine leaves_cons (f := 41) (args := #[.pointer (some ⟨W2, 0, none⟩)]) (by simp) (by simp [go_sem]) ?_
  refine (pdefPlace_idle W2 _).mono ?_
  rintro e u' w'' ⟨rfl, rfl, rfl⟩
  simp [Leaves, settle, results, Try.results13, go_sem, z3, z4, z5]
  exact ⟨⟨Hx.out.symm, Hy.out.symm⟩, hG⟩
end Go.Proofs.Ytbeglemohfbdfaa
