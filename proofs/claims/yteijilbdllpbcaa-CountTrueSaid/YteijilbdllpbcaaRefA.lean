/- The reference of layer 1, its small functions: in, Pair, Race, Valid, LapsOf, Ints. Conditions: the sizes that a slice's reading gives. -/
import Derived.Test.YteijilbdllpbcaaLib
namespace Go.Proofs.Yteijilbdllpbcaa
open Go.RowKit

def inB (n lo hi : Int) : Bool := decide (lo ≤ n) && decide (n ≤ hi)
theorem inB_true {n lo hi : Int} : inB n lo hi = true ↔ lo ≤ n ∧ n ≤ hi := by simp [inB]
theorem inB_false {n lo hi : Int} : inB n lo hi = false ↔ n < lo ∨ hi < n := by
  unfold inB; rw [Bool.and_eq_false_iff]; simp

theorem rin_any (n lo hi : Int) (w : World) :
    Calls Try.prog 60 #[.int .i64 n, .int .i64 lo, .int .i64 hi] w fun e w' => e = .returned (.bool (inB n lo hi)) ∧ w = w' := by
  by_cases h1 : lo ≤ n
  · by_cases h2 : n ≤ hi
    · rw [show inB n lo hi = true from inB_true.2 ⟨h1, h2⟩]
      go_enter Try.func60, Try.ntmps60
      go_wp2
      go_ret
      exact ⟨rfl, rfl⟩
    · rw [show inB n lo hi = false from inB_false.2 (by omega)]
      go_enter Try.func60, Try.ntmps60
      go_wp2
      go_ret
      exact ⟨rfl, rfl⟩
  · rw [show inB n lo hi = false from inB_false.2 (by omega)]
    go_enter Try.func60, Try.ntmps60
    go_wp2
    go_ret
    exact ⟨rfl, rfl⟩

/-- A count, by value: how many pairs, and the sheets' slice. -/
theorem rPair_any (P : Int) (sa : Option Addr) (sn sc : Nat) (n : Int) (w : World) (h1 : -9223372036854775808 ≤ P) (h2 : P ≤ 9223372036854775807) (h3 : -9223372036854775808 < P) :
    Calls Try.prog 84 #[.agg #[.int .i64 P, .slice sa sn sc], .int .i64 n] w fun e w' => e = .returned (.bool (inB n 0 (P - 1))) ∧ Grow w w' := by
  go_enter Try.func84, Try.ntmps84
  go_wp2_with (go_at_call 60; refine (rin_any _ _ _ _).mono ?_; rintro e w' ⟨rfl, rfl⟩)
  go_ret
  exact ⟨rfl, (Grow.refl _).alloc _⟩

theorem rLapsOf_any (v : Value) (l : List Int) (p : Int) (w : World) (hv : IsInts w v l) :
    Calls Try.prog 34 #[v, .int .i64 p] w fun e w' => e = .returned (.int .i64 (l.count p)) ∧ w = w' := by
  obtain ⟨a, cap, rfl, hcap, hlen, hrow⟩ := hv
  go_enter Try.func34, Try.ntmps34
  go_wp2
  go_loop [5, 6] (fun n i => ∃ k : Nat, k ≤ l.length ∧ i = .int .i64 k ∧ n = .int .i64 ((l.take k).count p)) (fun _ i => l.length - (intOf i).toNat)
  case atStart => exact ⟨0, Nat.zero_le _, rfl, rfl⟩
  case round =>
    obtain ⟨k, hk, rfl, rfl⟩ := hrel
    by_cases hlt : k < l.length
    · obtain ⟨b, o, x, hx, rfl, hc⟩ := hrow.int hlt
      have hb : (l.take k).count p ≤ l.length := Nat.le_trans (List.count_le_length) (by simp; omega)
      have hs : Hid ((l.take (k + 1)).count p = (l.take k).count p + if x == p then 1 else 0) := by
        rw [take_get hx, List.count_append, List.count_singleton]; rfl
      clear hx
      go_wp2
      all_goals
        go_round
        case rel => exact ⟨k + 1, by omega, by go_num, by rw [hs.out]; simp [*]⟩
        case measure => simp [intOf]; omega
    · have h3 : Hid (l.take k = l) := take_len hlt
      go_wp2
      go_ret
      exact ⟨by rw [h3.out]; rfl, rfl⟩

/-- Do just pairs pass? -/
def raceB (P : Int) (l : List Int) : Bool := l.all fun n => inB n 0 (P - 1)
theorem raceB_snoc (P : Int) (l : List Int) (x : Int) : raceB P (l ++ [x]) = (raceB P l && inB x 0 (P - 1)) := by simp [raceB]
theorem raceB_no {P : Int} {l : List Int} {k : Nat} {x : Int} (hx : l[k]? = some x) (h : inB x 0 (P - 1) = false) : raceB P l = false := by
  unfold raceB
  rw [List.all_eq_false]
  exact ⟨x, List.mem_of_getElem? hx, by simp [h]⟩

theorem rRace_any (P : Int) (sa : Option Addr) (sn sc : Nat) (v : Value) (l : List Int) (w : World) (h1 : -9223372036854775808 ≤ P) (h2 : P ≤ 9223372036854775807) (h3 : -9223372036854775808 < P) (hv : IsInts w v l) :
    Calls Try.prog 54 #[.agg #[.int .i64 P, .slice sa sn sc], v] w fun e w' => e = .returned (.bool (raceB P l)) ∧ Grow w w' := by
  obtain ⟨a, cap, rfl, hcap, hlen, hrow⟩ := hv
  go_enter Try.func54, Try.ntmps54
  go_wp2
  go_loopw [5] (fun i wr => ∃ k : Nat, k ≤ l.length ∧ i = .int .i64 k ∧ (raceB P (l.take k) = true) ∧ Grow w wr ∧ wr.cell? ⟨w.heap.size, 0, none⟩ = some (.int .i64 P) ∧ wr.cell? ⟨w.heap.size, 1, none⟩ = some (.slice sa sn sc)) (fun i _ => l.length - (intOf i).toNat)
  case atStart => exact ⟨0, Nat.zero_le _, rfl, rfl, (Grow.refl _).alloc _, by simp, by simp⟩
  case round =>
    obtain ⟨k, hk, rfl, hr, hg, hc0, hc1⟩ := hrel
    by_cases hlt : k < l.length
    · obtain ⟨b, o, x, hx, rfl, hc⟩ := hrow.int hlt
      have hc' := hg.keeps hc
      have Hr : Hid (raceB P (l.take k) = true) := hr
      have Hx : Hid (l[k]? = some x) := hx
      clear hr hx
      go_wp2
      go_region_held3 (fun Wx => Grow wr Wx ∧ Wx.cell? ⟨w.heap.size, 0, none⟩ = some (.int .i64 P) ∧ Wx.cell? ⟨w.heap.size, 1, none⟩ = some (.slice sa sn sc) ∧ Wx.cell? ⟨b, o + k, none⟩ = some (.int .i64 x)) ((refine (fun (hG : Grow wr _) => ⟨hG, Grow.keeps hG (by assumption), Grow.keeps hG (by assumption), Grow.keeps hG (by assumption)⟩) ?_; (try go_split_ands); first | exact (Below.refl _ _).drew | exact ((Grow.refl _).alloc _).drew | exact Grow.alloc (by assumption) _ | exact Below.setCell (Below.setCell (by assumption) (by simp <;> omega) _) (by simp <;> omega) _ | exact Grow.trans (by assumption) (by assumption) | exact Below.trans (by assumption) (by assumption))) ((go_at_call 84; refine (rPair_any _ _ _ _ _ _ h1 h2 h3).mono ?_; rintro e w' ⟨rfl, hg'⟩))
      go_wp2
      · rename_i hH ht
        have ht' : inB x 0 (P - 1) = false := by simpa using ht
        go_ret
        exact ⟨by rw [raceB_no Hx.out ht']; rfl, hg.trans hH.1⟩
      · rename_i hH ht
        have ht' : inB x 0 (P - 1) = true := by simpa using ht
        exact ⟨⟨k + 1, by omega, by go_num, by rw [take_get Hx.out, raceB_snoc, Hr.out, ht']; rfl, hg.trans hH.1, hH.2.1, hH.2.2.1⟩, by simp [intOf]; omega⟩
    · have h3 : Hid (l.take k = l) := take_len hlt
      rw [h3.out] at hr
      go_wp2
      go_ret
      exact ⟨by rw [hr]; rfl, hg⟩

/-- Is a count valid? -/
def validB (P : Int) (ss : List (List Int)) : Bool :=
  inB P 1 4 && inB ss.length 1 4 && ss.all fun s => decide (s.length ≤ 6) && raceB P s
def sheetB (P : Int) (s : List Int) : Bool := decide (s.length ≤ 6) && raceB P s
theorem sheets_snoc (P : Int) (ss : List (List Int)) (s : List Int) : (ss ++ [s]).all (sheetB P) = (ss.all (sheetB P) && sheetB P s) := by simp
theorem sheets_no {P : Int} {ss : List (List Int)} {k : Nat} {s : List Int} (hx : ss[k]? = some s) (h : sheetB P s = false) : ss.all (sheetB P) = false := by
  rw [List.all_eq_false]
  exact ⟨s, List.mem_of_getElem? hx, by simp [h]⟩
theorem validB_eq (P : Int) (ss : List (List Int)) : validB P ss = (inB P 1 4 && inB ss.length 1 4 && ss.all (sheetB P)) := rfl

theorem rValid_any (P : Int) (v : Value) (ss : List (List Int)) (w : World) (h1 : -9223372036854775808 ≤ P) (h2 : P ≤ 9223372036854775807) (hv : IsSheets w v ss) :
    Calls Try.prog 36 #[.agg #[.int .i64 P, v]] w fun e w' => e = .returned (.bool (validB P ss)) ∧ Grow w w' := by
  obtain ⟨a, cap, rfl, hcap, hlen, hrow⟩ := hv
  rw [validB_eq]
  cases hP : inB P 1 4
  · go_enter Try.func36, Try.ntmps36
    go_wp2_with (go_at_call 60; refine (rin_any _ _ _ _).mono ?_; rintro e w' ⟨rfl, rfl⟩)
    go_ret
    exact ⟨rfl, (Grow.refl _).alloc _⟩
  cases hL : inB ss.length 1 4
  · go_enter Try.func36, Try.ntmps36
    go_wp2_with (go_at_call 60; refine (rin_any _ _ _ _).mono ?_; rintro e w' ⟨rfl, rfl⟩)
    go_ret
    exact ⟨rfl, (Grow.refl _).alloc _⟩
  have h3 : 1 ≤ P := (inB_true.1 hP).1
  go_enter Try.func36, Try.ntmps36
  go_wp2_with (go_at_call 60; refine (rin_any _ _ _ _).mono ?_; rintro e w' ⟨rfl, rfl⟩)
  go_loopw [3] (fun i wr => ∃ k : Nat, k ≤ ss.length ∧ i = .int .i64 k ∧ ((ss.take k).all (sheetB P) = true) ∧ Grow w wr ∧ wr.cell? ⟨w.heap.size, 0, none⟩ = some (.int .i64 P) ∧ wr.cell? ⟨w.heap.size, 1, none⟩ = some (.slice a ss.length cap)) (fun i _ => ss.length - (intOf i).toNat)
  case atStart => exact ⟨0, Nat.zero_le _, rfl, rfl, (Grow.refl _).alloc _, by simp, by simp⟩
  case round =>
    obtain ⟨k, hk, rfl, hr, hg, hc0, hc1⟩ := hrel
    by_cases hlt : k < ss.length
    · obtain ⟨b, o, s, ta, tc, hx, rfl, hc, hsc, hs8, hs⟩ := hrow.get hlt
      have hc' := hg.keeps hc
      have Hr : Hid ((ss.take k).all (sheetB P) = true) := hr
      have Hx : Hid (ss[k]? = some s) := hx
      clear hr hx
      by_cases h6 : s.length ≤ 6
      · have h6' : decide ((s.length : Int) > 6) = false := by simp; omega
        go_wp2
        go_region_held3 (fun Wx => Grow wr Wx ∧ Wx.cell? ⟨w.heap.size, 0, none⟩ = some (.int .i64 P) ∧ Wx.cell? ⟨w.heap.size, 1, none⟩ = some (.slice (some ⟨b, o, none⟩) ss.length cap) ∧ Wx.cell? ⟨b, o + k, none⟩ = some (.slice ta s.length tc)) ((refine (fun (hG : Grow wr _) => ⟨hG, Grow.keeps hG (by assumption), Grow.keeps hG (by assumption), Grow.keeps hG (by assumption)⟩) ?_; (try go_split_ands); first | exact (Below.refl _ _).drew | exact ((Grow.refl _).alloc _).drew | exact Grow.alloc (by assumption) _ | exact Below.setCell (Below.setCell (by assumption) (by simp <;> omega) _) (by simp <;> omega) _ | exact Grow.trans (by assumption) (by assumption) | exact Below.trans (by assumption) (by assumption))) ((go_at_call 54; refine (rRace_any _ _ _ _ _ _ _ h1 h2 (by omega) ⟨ta, tc, rfl, hsc, hs8, by first | exact hs.grow (by assumption) | exact (hs.grow hg).grow (by go_split_ands; assumption)⟩).mono ?_; rintro e w' ⟨rfl, hg'⟩))
        go_wp2
        · rename_i hH ht
          have ht' : sheetB P s = false := by have : raceB P s = false := by simpa using ht
                                              simp [sheetB, this]
          go_ret
          exact ⟨by rw [sheets_no Hx.out ht']; rfl, hg.trans hH.1⟩
        · rename_i hH ht
          have ht' : sheetB P s = true := by have : raceB P s = true := by simpa using ht
                                             simp [sheetB, this, h6]
          exact ⟨⟨k + 1, by omega, by go_num, by rw [take_get Hx.out, sheets_snoc, Hr.out, ht']; rfl, hg.trans hH.1, hH.2.1, hH.2.2.1⟩, by simp [intOf]; omega⟩
      · have h6' : decide ((s.length : Int) > 6) = true := by simp; omega
        have ht' : sheetB P s = false := by simp [sheetB, h6]
        go_wp2
        go_quiet (fail)
        go_wp2
        go_ret
        exact ⟨by rw [sheets_no Hx.out ht']; rfl, hg.drewN _⟩
    · have h3 : Hid (ss.take k = ss) := take_len hlt
      rw [h3.out] at hr
      go_wp2
      go_ret
      exact ⟨by rw [hr]; rfl, hg⟩

theorem rInts_any (v u : Value) (l m : List Int) (w : World) (hv : IsInts w v l) (hu : IsInts w u m) :
    Calls Try.prog 23 #[v, u] w fun e w' => e = .returned (.bool (l == m)) ∧ Grow w w' := by
  obtain ⟨a, cap, rfl, hcap, hlen, hrow⟩ := hv
  obtain ⟨a', cap', rfl, hcap', hlen', hrow'⟩ := hu
  by_cases hll : l.length = m.length
  · go_enter Try.func23, Try.ntmps23
    have hn : ((l.length : Int) != (m.length : Int)) = false := by simp [hll]
    have HL : Hid (l.length = m.length) := hll
    clear hll
    go_wp2
    go_loopw [5] (fun i wr => ∃ k : Nat, k ≤ l.length ∧ i = .int .i64 k ∧ (l.take k = m.take k) ∧ Grow w wr) (fun i _ => l.length - (intOf i).toNat)
    case atStart => exact ⟨0, Nat.zero_le _, rfl, rfl, Grow.refl _⟩
    case round =>
      obtain ⟨k, hk, rfl, hr, hg⟩ := hrel
      have Hr : Hid (l.take k = m.take k) := hr
      clear hr
      by_cases hlt : k < l.length
      · have hlt' : k < m.length := by rw [← HL.out]; exact hlt
        obtain ⟨b, o, x, hx, rfl, hc⟩ := hrow.int hlt
        obtain ⟨b', o', x', hx', rfl, hc'⟩ := hrow'.int hlt'
        have hc := hg.keeps hc
        have hc' := hg.keeps hc'
        have Hx : Hid (l[k]? = some x) := hx
        have Hx' : Hid (m[k]? = some x') := hx'
        clear hx hx'
        go_wp2
        go_region_held3 (fun Wx => Grow wr Wx ∧ Wx.cell? ⟨b, o + k, none⟩ = some (.int .i64 x) ∧ Wx.cell? ⟨b', o' + k, none⟩ = some (.int .i64 x')) ((refine (fun (hG : Grow wr _) => ⟨hG, Grow.keeps hG (by assumption), Grow.keeps hG (by assumption)⟩) ?_; (try go_split_ands); first | exact (Below.refl _ _).drew | exact ((Grow.refl _).alloc _).drew | exact Grow.alloc (by assumption) _ | exact Below.setCell (Below.setCell (by assumption) (by simp <;> omega) _) (by simp <;> omega) _ | exact Grow.trans (by assumption) (by assumption) | exact Below.trans (by assumption) (by assumption))) (fail)
        go_wp2
        · rename_i hH ht
          have hne : (l == m) = false := by
            rw [beq_eq_false_iff_ne]; rintro rfl
            have := Hx.out.symm.trans Hx'.out
            simp at this; subst this; simp at ht
          go_ret
          exact ⟨by rw [hne]; rfl, hg.trans hH.1⟩
        · rename_i hH ht
          have hxx : x = x' := by simpa using ht
          exact ⟨⟨k + 1, by omega, by go_num, by rw [take_get Hx.out, take_get Hx'.out, Hr.out, hxx], hg.trans hH.1⟩, by simp [intOf]; omega⟩
      · have h3 : Hid (l = m) := by
          have e1 := take_len hlt
          have e2 : m.take k = m := take_len (by rw [← HL.out]; exact hlt)
          exact (e1.symm.trans Hr.out).trans e2
        go_wp2
        go_ret
        exact ⟨by rw [h3.out]; simp, hg⟩
  · have hn : ((l.length : Int) != (m.length : Int)) = true := by simp; omega
    have hne : Hid ((l == m) = false) := beq_eq_false_iff_ne.2 (fun h => hll (by rw [h]))
    clear hll
    go_enter Try.func23, Try.ntmps23
    go_wp2
    go_ret
    exact ⟨by rw [hne.out]; rfl, Grow.refl _⟩
end Go.Proofs.Yteijilbdllpbcaa
namespace Go.Proofs.Yteijilbdllpbcaa
open Go.RowKit

/-- The errors of a sheet by a race. -/
def errs : List Int → List Int → Int
  | [], m => if 0 < m.length then 1000 else 0
  | _ :: l, [] => 1 + errs l []
  | x :: l, y :: m => if l.length < m.length then 1000 else min (min (1 + errs l (y :: m)) (errs l m + if x != y then 1 else 0)) 1000
theorem errs_range : ∀ (l m : List Int), 0 ≤ errs l m ∧ errs l m ≤ 1000 + l.length
  | [], m => by unfold errs; split <;> simp
  | _ :: l, [] => by have := errs_range l []; unfold errs; simp; omega
  | x :: l, y :: m => by
    have h1 := errs_range l (y :: m)
    have h2 := errs_range l m
    unfold errs
    simp only [List.length_cons]
    split
    · omega
    · split <;> omega

theorem rErrs_any : ∀ (l m : List Int) (v u : Value) (w : World), IsInts w v l → IsInts w u m →
    Calls Try.prog 32 #[v, u] w fun e w' => e = .returned (.int .i64 (errs l m)) ∧ Grow w w' := by
  intro l
  induction l with
  | nil =>
    intro m v u w hv hu
    obtain ⟨a, cap, rfl, hcap, hlen, hrow⟩ := hv
    obtain ⟨a', cap', rfl, hcap', hlen', hrow'⟩ := hu
    simp only [List.length_nil] at *
    by_cases h : 0 < m.length
    · have e0 : Hid (errs [] m = 1000) := by show errs [] m = 1000; unfold errs; rw [if_pos h]
      go_enter Try.func32, Try.ntmps32
      go_wp2_with fail
      go_ret
      exact ⟨by rw [e0.out]; rfl, Grow.refl _⟩
    · obtain rfl : m = [] := List.eq_nil_of_length_eq_zero (by omega)
      go_enter Try.func32, Try.ntmps32
      go_wp2_with fail
      go_ret
      exact ⟨rfl, Grow.refl _⟩
  | cons x l ih =>
    intro m v u w hv hu
    obtain ⟨a, cap, rfl, hcap, hlen, hrow⟩ := hv
    obtain ⟨a', cap', rfl, hcap', hlen', hrow'⟩ := hu
    simp only [List.length_cons] at *
    have Ih := Lib.hid ih
    clear ih
    obtain ⟨b, o, ha, hc⟩ := hrow 0 (.int .i64 x) rfl
    subst ha
    obtain ⟨a2, hr1, hr2⟩ := run_from (P := Try.prog) (t := 25) (by kernel_rfl) (fun _ => by kernel_rfl) (some ⟨b, o, none⟩) (l.length + 1) cap 1 l.length 1 rfl rfl
    have hv2 : IsInts w (.slice a2 l.length (cap - 1)) l := ⟨a2, cap - 1, rfl, by omega, by omega, hr2 w _ (by simp; omega) hrow⟩
    have hr := errs_range l
    cases m with
    | nil =>
      simp only [List.length_nil] at *
      have h0 := hr []
      clear hr
      have hu2 : IsInts w (.slice a' 0 cap') [] := ⟨a', cap', rfl, by omega, by simp, hrow'⟩
      go_enter Try.func32, Try.ntmps32
      go_wp2_with fail
      refine (Ih.out _ _ _ _ hv2 hu2).mono ?_
      rintro e w' ⟨rfl, hg⟩
      go_wp2
      go_ret
      exact ⟨rfl, hg⟩
    | cons y m =>
      simp only [List.length_cons] at *
      obtain ⟨b', o', ha', hc'⟩ := hrow' 0 (.int .i64 y) rfl
      subst ha'
      obtain ⟨a3, hs1, hs2⟩ := run_from (P := Try.prog) (t := 25) (by kernel_rfl) (fun _ => by kernel_rfl) (some ⟨b', o', none⟩) (m.length + 1) cap' 1 m.length 1 rfl rfl
      have hu2 : IsInts w (.slice a3 m.length (cap' - 1)) m := ⟨a3, cap' - 1, rfl, by omega, by omega, hs2 w _ (by simp; omega) hrow'⟩
      have hu1 : IsInts w (.slice (some ⟨b', o', none⟩) (m.length + 1) cap') (y :: m) := ⟨_, _, rfl, by simpa using hcap', by simpa using hlen', hrow'⟩
      have h0 := hr (y :: m)
      have h1 := hr m
      clear hr
      by_cases hlt : l.length < m.length
      · have e0 : Hid (errs (x :: l) (y :: m) = 1000) := by show errs _ _ = _; unfold errs; rw [if_pos hlt]
        go_enter Try.func32, Try.ntmps32
        go_wp2_with fail
        go_ret
        exact ⟨by rw [e0.out]; rfl, Grow.refl _⟩
      · have e0 : Hid (errs (x :: l) (y :: m) = min (min (1 + errs l (y :: m)) (errs l m + if x != y then 1 else 0)) 1000) := by
          show errs _ _ = _
          rw [errs, if_neg hlt]
        go_enter Try.func32, Try.ntmps32
        go_wp2_with fail
        refine (Ih.out _ _ _ _ hv2 hu1).mono ?_
        rintro e w1 ⟨rfl, hg⟩
        go_wp2_with fail
        go_region_held3 (fun Wx => Grow w1 Wx) ((refine (fun (hG : Grow w1 _) => hG) ?_; (try go_split_ands); first | exact (Below.refl _ _).drew | exact ((Grow.refl _).alloc _).drew | exact Grow.alloc (by assumption) _ | exact Below.setCell (Below.setCell (by assumption) (by simp <;> omega) _) (by simp <;> omega) _ | exact Grow.trans (by assumption) (by assumption) | exact Below.trans (by assumption) (by assumption))) ((go_at_call 32; refine (Ih.out _ _ _ _ (hv2.grow (hg.drew)) (hu2.grow (hg.drew))).mono ?_; rintro e w2 ⟨rfl, hg2⟩))
        rename_i hH
        have hc2 : w2.cell? ⟨b, o, none⟩ = some (.int .i64 x) := (hg.trans hH).keeps hc
        have hc3 : w2.cell? ⟨b', o', none⟩ = some (.int .i64 y) := (hg.trans hH).keeps hc'
        have hgg : Grow w w2 := hg.trans hH
        go_wp2_with fail
        go_region_held3 (fun Wx => Grow w2 Wx ∧ Wx.cell? ⟨b, o, none⟩ = some (.int .i64 x) ∧ Wx.cell? ⟨b', o', none⟩ = some (.int .i64 y)) ((refine (fun (hG : Grow w2 _) => ⟨hG, Grow.keeps hG (by assumption), Grow.keeps hG (by assumption)⟩) ?_; (try go_split_ands); first | exact (Below.refl _ _).drew | exact ((Grow.refl _).alloc _).drew | exact Grow.alloc (by assumption) _ | exact Below.setCell (Below.setCell (by assumption) (by simp <;> omega) _) (by simp <;> omega) _ | exact Grow.trans (by assumption) (by assumption) | exact Below.trans (by assumption) (by assumption))) (fail)
        have hd : Hid (∃ d : Int, d = if x != y then 1 else 0) := ⟨_, rfl⟩
        cases hne : x != y
        all_goals
          have Hne := Lib.hid hne
          go_wp2_with fail
          all_goals
            go_ret
            refine ⟨ret_int ?_, hgg.drew⟩
            rw [e0.out, Hne.out]
            simp only [Bool.false_eq_true, if_false, if_true]
            first | omega | (split <;> omega) | (split at * <;> omega)
end Go.Proofs.Yteijilbdllpbcaa
