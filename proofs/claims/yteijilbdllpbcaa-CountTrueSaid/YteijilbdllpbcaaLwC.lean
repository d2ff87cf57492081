/- The laws of layer 1: long, heavy: they answer. Conditions: sizes. -/
import Derived.Test.YteijilbdllpbcaaLwA
namespace Go.Proofs.Yteijilbdllpbcaa
open Go.RowKit

/-- Some answer; at most one array is turned. -/
def SomeB (r : Option Nat) (w : World) (e : Ending) (w' : World) : Prop := (∃ b, e = .returned (.bool b)) ∧ w.grownBy w' r
theorem SheetsAt.vals {w : World} {a : Option Addr} {ss : List (List Int)} (h : SheetsAt w a ss) : ∃ vs : List Value, vs.length = ss.length ∧ RowAt w a vs ∧ ∀ (i : Nat) (v : Value) (s : List Int), vs[i]? = some v → ss[i]? = some s → IsInts w v s := by
  cases ss with
  | nil => exact ⟨[], rfl, fun i x hx => by simp at hx, fun i v s hv => by simp at hv⟩
  | cons s0 ss =>
    obtain ⟨b, o, v0, ha, _, _⟩ := h 0 s0 rfl
    refine ⟨(List.range (s0 :: ss).length).map fun i => (w.cell? ⟨b, o + i, none⟩).getD undef, by simp, fun i x hx => ?_, fun i v s hv hs => ?_⟩
    · rw [List.getElem?_map] at hx
      obtain ⟨j, hj, rfl⟩ := Option.map_eq_some_iff.1 hx
      have hj2 := List.getElem?_eq_some_iff.1 hj
      obtain ⟨hj3, hj4⟩ := hj2
      simp at hj3 hj4
      subst hj4
      obtain ⟨b', o', v', ha', hc', _⟩ := h i (s0 :: ss)[i] (by simp; try omega)
      rw [ha] at ha'; cases ha'
      exact ⟨b, o, ha, by rw [hc']; rfl⟩
    · obtain ⟨b', o', v', ha', hc', hi'⟩ := h i s hs
      rw [ha] at ha'; cases ha'
      rw [List.getElem?_map] at hv
      obtain ⟨j, hj, rfl⟩ := Option.map_eq_some_iff.1 hv
      obtain ⟨hj3, hj4⟩ := List.getElem?_eq_some_iff.1 hj
      simp at hj3 hj4
      subst hj4
      rw [hc']; exact hi'
theorem ints_slice {w : World} {v : Value} {l : List Int} (h : IsInts w v l) : ∃ a cap, v = .slice a l.length cap := by
  obtain ⟨a, cap, h1, _⟩ := h
  exact ⟨a, cap, h1⟩
set_option maxRecDepth 100000 in
theorem llong_any (base : Nat) (P : Int) (v lv : Value) (ss : List (List Int)) (lvs : List Value) (w : World) (hv : IsSheets w v ss) (hs : ss.length * 24 ≤ 140737488351232) (hown : Own w base 25 lv lvs) (hb : base ≤ w.heap.size) (hl : lvs.length ≤ 3) (hlv : ∀ x ∈ lvs, ∃ a n cap, x = .slice a n cap ∧ n ≤ 140737488355328) (hnil : ∀ n cap, v = .slice none n cap → cap = 0) :
    Calls Try.prog 35 #[.agg #[.int .i64 P, v], lv] w (SomeB lv.ownBlock w) := by
  obtain ⟨i0, hi0, hi1, hi2, hi3⟩ := info_parts info_ints
  have hu : Try.prog.underlying 22 = some (.slice 25) := by kernel_rfl
  obtain ⟨a, cap, rfl, hcap, hlen, hrow⟩ := hv
  obtain ⟨vs, hvl, hvr, hvi⟩ := hrow.vals
  have hone : ∀ x ∈ vs, x.oneCell' = true := by
    intro x hx
    obtain ⟨i, hi, rfl⟩ := List.getElem_of_mem hx
    obtain ⟨a2, c2, h2⟩ := ints_slice (hvi i vs[i] (ss[i]'(by omega)) (by simp [hi]) (by simp; try omega))
    rw [h2]; rfl
  have hall : ∀ (i : Nat) (x : Value), (lvs ++ vs)[i]? = some x → ∃ a n cap, x = .slice a n cap ∧ n ≤ 140737488355328 := by
    intro i x hx
    rcases List.mem_append.1 (List.mem_of_getElem? hx) with h | h
    · exact hlv x h
    · obtain ⟨i, hi, rfl⟩ := List.getElem_of_mem h
      obtain ⟨a2, c2, h2, h3, h4, _⟩ := hvi i vs[i] (ss[i]'(by omega)) (by simp [hi]) (by simp; try omega)
      exact ⟨a2, _, c2, h2, by omega⟩
  have hcap0 : a = none → cap = 0 := fun h => hnil _ cap (by rw [h])
  have hbytes : (lvs.length + vs.length) * 24 ≤ 140737488355328 := by omega
  have Hvr := Lib.hid hvr
  have Hall := Lib.hid hall
  clear hvr hvi hrow hlv hall hnil
  go_enter Try.func35, Try.ntmps35
  go_wp2_with (at_builtin; go_loud (refine wpl_app rfl (.tmp 7) (.tmp 9) 22 rfl base 25 i0 _ 24 hu hi0 hi1 hi2 hi3 rfl lv lvs rfl (hown.alloc _) a cap vs ss.length rfl hvl hcap0 (Hvr.out.grow ((Grow.refl w).alloc _)) hone hbytes (by decide) (by simp; omega) ?_; intro v' w1 hown1 hg1 hm1; obtain ⟨a', cap', rfl, hc', hn', hr'⟩ := hown1.row; obtain ⟨n, hnn⟩ : ∃ n, (lvs ++ vs).length = n := ⟨_, rfl⟩; have hnle : n ≤ 5864062014809 := (by rw [← hnn]; simp; omega); have Hr := Lib.hid hr'; have Hnn := Lib.hid hnn; rw [hnn]; clear hr' hnn hn' hown1 hm1 hc'; have hc0 := byCell1 hg1 (cell_new (w := w) (o := 0) rfl rfl) (hown.ne (Nat.le_refl _)); have hc1 := byCell1 hg1 (cell_new (w := w) (o := 1) rfl rfl) (hown.ne (Nat.le_refl _))))
  have hB1 : w.grownBy w1 lv.ownBlock := ((Grow.refl w).alloc _).andBy hg1
  go_loop [12] (fun i => ∃ k : Nat, k ≤ n ∧ i = .int .i64 k) (fun i => n - (intOf i).toNat)
  case atStart => exact ⟨0, Nat.zero_le _, rfl⟩
  case round =>
    obtain ⟨k, hk, rfl⟩ := hrel
    by_cases hlt : k < n
    · obtain ⟨b, o, rfl, hx⟩ := Hr.out k _ (List.getElem?_eq_getElem (by rw [Hnn.out]; exact hlt))
      obtain ⟨a2, n2, c2, hx2, hn2⟩ := Hall.out k _ (List.getElem?_eq_getElem (by rw [Hnn.out]; exact hlt))
      rw [hx2] at hx
      clear hx2
      go_wp2_with fail
      · go_ret
        exact ⟨⟨true, rfl⟩, hB1⟩
      · exact ⟨⟨k + 1, by omega, by go_num⟩, by simp [intOf]; omega⟩
    · go_wp2_with fail
      go_ret
      exact ⟨⟨_, rfl⟩, hB1⟩
set_option maxRecDepth 100000 in
theorem lheavy_any (base : Nat) (P : Int) (v lv : Value) (ss : List (List Int)) (lvs : List Value) (w : World) (hP1 : -9223372036854775808 ≤ P) (hP2 : P ≤ 9223372036854775807) (hv : IsSheets w v ss) (hs : ss.length * 24 ≤ 140737488351232) (hown : Own w base 25 lv lvs) (hb : base ≤ w.heap.size) (hl : lvs.length ≤ 3) (hlv : ∀ x ∈ lvs, ∃ a n cap, x = .slice a n cap ∧ n ≤ 140737488355328) (hnil : ∀ n cap, v = .slice none n cap → cap = 0)
    (hapart : ∀ V, w.grownBy V lv.ownBlock → IsSheets V v ss) :
    Calls Try.prog 11 #[.agg #[.int .i64 P, v], lv] w (SomeB lv.ownBlock w) := by
  obtain ⟨a, cap, rfl, hcap, hlen, hrow⟩ := id hv
  have Hv := Lib.hid hv
  have Hap := Lib.hid hapart
  have Hown := Lib.hid hown
  clear hv hapart hown
  go_enter Try.func11, Try.ntmps11
  go_wp2_with fail
  refine (llong_any base P _ lv ss lvs _ (Hv.out.grow ((Grow.refl w).alloc _)) hs (Hown.out.alloc _) (by simp; omega) hl hlv hnil).mono ?_
  rintro e w1 ⟨⟨b, rfl⟩, hg1⟩
  have hB1 : w.grownBy w1 lv.ownBlock := ((Grow.refl w).alloc _).andBy hg1
  have hc0 : w1.cell? ⟨w.heap.size, 0, none⟩ = some (.int .i64 P) := byCell1 hg1 (cell_new rfl rfl) (Hown.out.ne (Nat.le_refl _))
  have hc1 : w1.cell? ⟨w.heap.size, 1, none⟩ = some (.slice a ss.length cap) := byCell1 hg1 (cell_new rfl rfl) (Hown.out.ne (Nat.le_refl _))
  have hv1 := Lib.hid (Hap.out w1 hB1)
  cases b
  · go_wp2_with fail
    refine (rValid_any P _ ss _ hP1 hP2 hv1.out).mono ?_
    rintro e w2 ⟨rfl, hg2⟩
    have hd0 := hg2.keeps hc0
    have hd1 := hg2.keeps hc1
    have hB2 := byThen hB1 hg2
    cases hval : validB P ss
    · have Hval := Lib.hid hval
      clear hval
      go_wp2_with fail
      go_ret
      exact ⟨⟨_, rfl⟩, hB2⟩
    · have hsh := (valid_sheets hval).2.2.2.2
      have Hval := Lib.hid hval
      clear hval
      by_cases h2 : ss.length < 2
      · have h2i : (ss.length : Int) < 2 := by omega
        go_wp2_with fail
        go_ret
        exact ⟨⟨_, rfl⟩, hB2⟩
      · have h2i : ¬ (ss.length : Int) < 2 := by omega
        have h0i : 0 < ss.length := by omega
        have h0d : decide (0 < ss.length) = true := by simp; omega
        have h1i : (1 : Int) < (ss.length : Int) := by omega
        obtain ⟨a2, cap2, ha2, _, _, hrow2⟩ := Hap.out w2 hB2
        cases ha2
        obtain ⟨b, o, s0, sa0, sc0, hs0, rfl, hc00, _, hl0, _⟩ := hrow2.get (i := 0) (by omega)
        obtain ⟨b', o', s1, sa1, sc1, hs1, hb', hc01, _, hl1, _⟩ := hrow2.get (i := 1) (by omega)
        cases hb'
        have hc00' : w2.cell? ⟨b, o, none⟩ = some (.slice sa0 s0.length sc0) := hc00
        have g0 : s0.length ≤ 6 := by
          have := hsh s0 (List.mem_of_getElem? hs0)
          unfold sheetB at this
          simp only [Bool.and_eq_true, decide_eq_true_eq] at this
          exact this.1
        have g1 : s1.length ≤ 6 := by
          have := hsh s1 (List.mem_of_getElem? hs1)
          unfold sheetB at this
          simp only [Bool.and_eq_true, decide_eq_true_eq] at this
          exact this.1
        have hadd : IntKind.i64.wrap ((s0.length : Int) + s1.length) = (s0.length : Int) + s1.length := IntWalk.i64_in _ (by omega)
        have Hs0 := Lib.hid hs0
        have Hs1 := Lib.hid hs1
        clear hs0 hs1 hsh
        go_wp2_with fail
        go_region_held3 (fun Wx => Grow w2 Wx ∧ Wx.cell? ⟨w.heap.size, 0, none⟩ = some (.int .i64 P) ∧ Wx.cell? ⟨w.heap.size, 1, none⟩ = some (.slice (some ⟨b, o, none⟩) ss.length cap) ∧ Wx.cell? ⟨b, o, none⟩ = some (.slice sa0 s0.length sc0) ∧ Wx.cell? ⟨b, o + 1, none⟩ = some (.slice sa1 s1.length sc1)) ((refine (fun (hG : Grow w2 _) => ⟨hG, Grow.keeps hG (by assumption), Grow.keeps hG (by assumption), Grow.keeps hG (by assumption), Grow.keeps hG (by assumption)⟩) ?_; (try go_split_ands); first | exact (Below.refl _ _).drew | exact ((Grow.refl _).alloc _).drew | exact Grow.alloc (by assumption) _ | exact Below.setCell (Below.setCell (by assumption) (by simp <;> omega) _) (by simp <;> omega) _ | exact Grow.trans (by assumption) (by assumption) | exact Below.trans (by assumption) (by assumption))) (fail)
        all_goals
          go_wp2_with fail
          have hB3 : w.grownBy w2.drew lv.ownBlock := byThen hB2 (Grow.refl w2).drew
          have hd0' : w2.drew.cell? ⟨w.heap.size, 0, none⟩ = some (.int .i64 P) := hd0
          obtain ⟨W, hW⟩ : ∃ W, w2.drew = W := ⟨_, rfl⟩
          rw [hW] at hB3 hd0' ⊢
          clear hW
          obtain ⟨t, ht⟩ : ∃ t : Nat, s0.length + s1.length = t := ⟨_, rfl⟩
          have htl : t ≤ 12 := by omega
          rw [show (s0.length : Int) + (s1.length : Int) = (t : Int) by omega]
          clear ht hadd
          go_loop [5, 29] (fun n i => ∃ (k : Nat) (m : Int), k ≤ t ∧ i = .int .i64 k ∧ n = .int .i64 m) (fun _ i => t - (intOf i).toNat)
          case atStart => exact ⟨0, 1, Nat.zero_le _, rfl, rfl⟩
          case round =>
            obtain ⟨k, m, hk, rfl, rfl⟩ := hrel
            by_cases hlt : k < t
            · go_wp2_with fail
              exact ⟨⟨k + 1, _, by omega, by go_num, rfl⟩, by simp [intOf]; omega⟩
            · go_wp2_with fail
              go_ret
              exact ⟨⟨_, rfl⟩, hB3⟩
  · go_wp2_with fail
    go_ret
    exact ⟨⟨_, rfl⟩, hB1⟩
end Go.Proofs.Yteijilbdllpbcaa
