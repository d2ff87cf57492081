/- The program of layer 1: Lead. Conditions: sizes. -/
import Derived.Test.YteijilbdllpbcaaPhI
import Derived.Test.YteijilbdllpbcaaPgH
namespace Go.Proofs.Yteijilbdllpbcaa
open Go.RowKit

/-- By how many laps a pair is ahead of another one in a race. -/
def leadOf (p q : Int) (t : List Int) : Int := (t.count p : Int) - (t.count q : Int)
def leadR (P : Int) (ss : List (List Int)) (p q : Int) : Int × Int := if errOf P ss (pairsB P p q) = 0 then spanOf (leadOf p q) (truthsR P.toNat ss).1 else (0, 0)
theorem leadB_of (r : ByteArray) (p q : Int) : leadB r p q = leadOf p q (intsB r) := by
  unfold leadB leadOf
  rw [← count_intsB, ← count_intsB, Int.toNat_of_nonneg (lapsB_range r p).1, Int.toNat_of_nonneg (lapsB_range r q).1]
set_option maxRecDepth 100000 in
theorem pLead_bad (P p q : Int) (v : Value) (ss : List (List Int)) (w : World) (hP1 : -9223372036854775808 ≤ P) (hP2 : P ≤ 9223372036854775807) (hv : IsSheets w v ss) (hc : errOf P ss (pairsB P p q) ≠ 0) :
    Calls Try.prog 27 #[.agg #[.int .i64 P, v], .int .i64 p, .int .i64 q] w fun e w' => e = .returned (.tuple #[.agg #[.int .i64 0, .int .i64 0], .int .i64 (errOf P ss (pairsB P p q))]) ∧ Grow w w' := by
  have hmf : ∀ (fn : Fn) (first cap : Array Value) (w : World), (Instr.makeFunc fn first cap).run Try.prog w = .ok (.func fn first cap) w := fun _ _ _ _ => rfl
  obtain ⟨a, cap, rfl, hcap, hlen, hrow⟩ := id hv
  have Hv := Lib.hid hv
  clear hv
  obtain ⟨cd, hcd⟩ : ∃ cd, cd = errOf P ss (pairsB P p q) := ⟨_, rfl⟩
  have Hcd := Lib.hid hcd
  rw [← hcd] at hc ⊢
  clear hcd
  go_enter_defers Try.func27, Try.ntmps27
  go_wp2_with (go_at_call 67; refine (popened_any P p q _ ss _ hP1 hP2 (Hv.out.grow ((((Grow.refl w).alloc _).alloc _).alloc _))).mono ?_; rintro e w1 ⟨hg1, hbad, _⟩; have hbad := hbad (by rw [← Hcd.out]; exact hc); rw [← Hcd.out] at hbad; subst hbad)
  have hs0 : w1.cell? ⟨w.heap.size + 1, 0, none⟩ = some (.int .i64 0) := hg1.keeps (Grow.keepA (cell_new (by simp) rfl) _)
  have hs1 : w1.cell? ⟨w.heap.size + 1, 1, none⟩ = some (.int .i64 0) := hg1.keeps (Grow.keepA (cell_new (by simp) rfl) _)
  have hc1 : w1.cell? ⟨w.heap.size + 1 + 1, 0, none⟩ = some (.int .i64 0) := hg1.keeps (cell_new (by simp) rfl)
  have hf1 : ∀ o, w1.frozen? ⟨w.heap.size + 1 + 1, o, none⟩ = false := fun o => (hg1.marks _ _ (by simp)).trans (hot_new (by simp))
  have hG1 : Grow w w1 := ((((Grow.refl w).alloc _).alloc _).alloc _).trans hg1
  unfold refusal
  refine leaves_cons (f := 66) (args := #[.pointer (some ⟨w.heap.size + 1 + 1, 0, none⟩)]) (by simp) (by simp [go_sem]) ?_
  refine (pdefLead_panic (w.heap.size + 1 + 1) cd [] w1 hc1 hf1).mono ?_
  rintro e u' w'' ⟨rfl, rfl, h1, h2⟩
  have hG : Grow w w'' := Below.trans hG1 (grownBy_below h2 (by intro k hk; injection hk with hk; omega) hG1.size)
  have q3 := byCell1 h2 hs0 (by intro e; injection e with e; omega)
  have q4 := byCell1 h2 hs1 (by intro e; injection e with e; omega)
  simp [Leaves, settle, results, Try.results27, go_sem, h1, q3, q4]
  exact hG
set_option maxRecDepth 100000 in
set_option maxHeartbeats 1000000 in
theorem pLead_ok (P p q : Int) (v : Value) (ss : List (List Int)) (w : World) (hP1 : -9223372036854775808 ≤ P) (hP2 : P ≤ 9223372036854775807) (hv : IsSheets w v ss) (hc : errOf P ss (pairsB P p q) = 0) (S : Int × Int) (hS : spanOf (leadOf p q) (truthsR P.toNat ss).1 = S) :
    Calls Try.prog 27 #[.agg #[.int .i64 P, v], .int .i64 p, .int .i64 q] w fun e w' => e = .returned (.tuple #[.agg #[.int .i64 S.1, .int .i64 S.2], .int .i64 0]) ∧ Grow w w' := by
  have hmf : ∀ (fn : Fn) (first cap : Array Value) (w : World), (Instr.makeFunc fn first cap).run Try.prog w = .ok (.func fn first cap) w := fun _ _ _ _ => rfl
  obtain ⟨hval, _, ht⟩ := errOf_zero hc
  have hlenT : ∀ (ts : List ByteArray), ts.map intsB = (truthsR P.toNat ss).1 → ts.length ≤ 13841287201 := by
    intro ts h
    have := truths2_len hval ss.length (Nat.le_refl _)
    unfold truths2 at this
    rw [List.take_length, ← h, List.length_map] at this
    omega
  obtain ⟨a, cap, rfl, hcap, hlen, hrow⟩ := id hv
  have Hv := Lib.hid hv
  have Hc := Lib.hid hc
  have Hlen := Lib.hid hlenT
  have HS := Lib.hid hS
  have Ht := Lib.hid ht
  clear hv hc hlenT hS hval ht
  go_enter_defers Try.func27, Try.ntmps27
  go_wp2_with fail
  refine (popened_any P p q _ ss _ hP1 hP2 (Hv.out.grow ((((Grow.refl w).alloc _).alloc _).alloc _))).mono ?_
  rintro e w1 ⟨hg1, _, hok⟩
  obtain ⟨c, sheets, ts, n, rfl, hcs, hsh, hts, hz⟩ := hok Hc.out
  obtain ⟨u1, u2, x2, x3, x8, ⟨ra, c2, rfl, x9, x10, x11, x12⟩, x13⟩ := hcs
  have X8 := Lib.hid x8
  have X12 := Lib.hid x12
  have Hts := Lib.hid hts
  have Hz := Lib.hid hz
  have hs0 : w1.cell? ⟨w.heap.size + 1, 0, none⟩ = some (.int .i64 0) := hg1.keeps (Grow.keepA (cell_new (by simp) rfl) _)
  have hs1 : w1.cell? ⟨w.heap.size + 1, 1, none⟩ = some (.int .i64 0) := hg1.keeps (Grow.keepA (cell_new (by simp) rfl) _)
  have hc1 : w1.cell? ⟨w.heap.size + 1 + 1, 0, none⟩ = some (.int .i64 0) := hg1.keeps (cell_new (by simp) rfl)
  have hsf : ∀ o, w1.frozen? ⟨w.heap.size + 1, o, none⟩ = false := fun o => (hg1.marks _ _ (by simp)).trans ((((Grow.refl _).alloc _).marks _ _ (by simp)).trans (hot_new (by simp)))
  have hf1 : ∀ o, w1.frozen? ⟨w.heap.size + 1 + 1, o, none⟩ = false := fun o => (hg1.marks _ _ (by simp)).trans (hot_new (by simp))
  have hG1 : Grow w w1 := ((((Grow.refl w).alloc _).alloc _).alloc _).trans hg1
  have hl1 : w.heap.size + 1 + 1 < w1.heap.size := lt_of_cell hc1
  have ht0 : ts ≠ [] := fun e => Ht.out (by rw [← hts, e]; rfl)
  have htl : ts.length ≤ 13841287201 := Hlen.out ts hts
  clear x2 x3 x8 x9 x10 x11 x12 x13 hts hz hsh hok hg1
  go_wp2_with fail
  obtain ⟨w2, hw2⟩ : ∃ w2, w1.alloc (.cells #[.int .i64 p, .int .i64 q] 92) = w2 := ⟨_, rfl⟩
  rw [hw2]
  have hg2 : Grow w1 w2 := by rw [← hw2]; exact (Grow.refl w1).alloc _
  clear hw2
  have hsp := pspan_any c 68 #[.agg #[.int .i64 p, .int .i64 q]] #[] (enters_of Try.func68 (by kernel_rfl) rfl) ra ts c2 (fun r => leadB r p q) w2 htl (fun r W1 hr hg => plead_any r p q W1 (by have := Hz.out r hr; omega)) (hg2.keeps X8.out) (X12.out.grow hg2) ht0
  refine hsp.mono ?_
  rintro e w3 ⟨rfl, hg3⟩
  have hS2 : (minL (ts.map fun r => leadB r p q), maxL (ts.map fun r => leadB r p q)) = S := by
    rw [← HS.out, spanOf_eq _ _ Ht.out, ← Hts.out, List.map_map]
    have : ts.map (fun r => leadB r p q) = ts.map (leadOf p q ∘ intsB) := List.map_congr_left fun r _ => leadB_of r p q
    rw [this]
  obtain ⟨lo, hlo⟩ : ∃ lo, lo = minL (ts.map fun r => leadB r p q) := ⟨_, rfl⟩
  obtain ⟨hi, hhi⟩ : ∃ hi, hi = maxL (ts.map fun r => leadB r p q) := ⟨_, rfl⟩
  rw [← hlo, ← hhi] at hS2 ⊢
  subst hS2
  have hg13 : Grow w1 w3 := hg2.trans hg3
  have y1 := hg13.keeps hs0
  have y2 := hg13.keeps hs1
  have y3 : ∀ o, w3.frozen? ⟨w.heap.size + 1, o, none⟩ = false := fun o => (hg13.marks _ _ (by omega)).trans (hsf o)
  have y4 := hg13.keeps hc1
  have y5 : ∀ o, w3.frozen? ⟨w.heap.size + 1 + 1, o, none⟩ = false := fun o => (hg13.marks _ _ (by omega)).trans (hf1 o)
  have hG3 : Grow w w3 := hG1.trans hg13
  clear hlo hhi hs0 hs1 hc1 hsf hf1 hsp
  go_wp2_with fail
  obtain ⟨z0, z1, _, _⟩ := cells2 (x := .int .i64 lo) (y := .int .i64 hi) y1 y2
  have z2 : ((w3.setCell ⟨w.heap.size + 1, 0, none⟩ (.int .i64 lo)).setCell ⟨w.heap.size + 1, 1, none⟩ (.int .i64 hi)).cell? ⟨w.heap.size + 1 + 1, 0, none⟩ = some (.int .i64 0) := byCell1 (bySet _ _ 1 _) (byCell1 (bySet _ _ 0 _) y4 (by intro e; injection e with e; omega)) (by intro e; injection e with e; omega)
  have z3 := byCell1 (bySet _ (w.heap.size + 1 + 1) 0 (.int .i64 0)) z0 (by intro e; injection e with e; omega)
  have z4 := byCell1 (bySet _ (w.heap.size + 1 + 1) 0 (.int .i64 0)) z1 (by intro e; injection e with e; omega)
  have z5 : (((w3.setCell ⟨w.heap.size + 1, 0, none⟩ (.int .i64 lo)).setCell ⟨w.heap.size + 1, 1, none⟩ (.int .i64 hi)).setCell ⟨w.heap.size + 1 + 1, 0, none⟩ (.int .i64 0)).cell? ⟨w.heap.size + 1 + 1, 0, none⟩ = some (.int .i64 0) := World.cell?_setCell_same' _ _ _ (by rw [z2]; rfl)
  have hG : Grow w (((w3.setCell ⟨w.heap.size + 1, 0, none⟩ (.int .i64 lo)).setCell ⟨w.heap.size + 1, 1, none⟩ (.int .i64 hi)).setCell ⟨w.heap.size + 1 + 1, 0, none⟩ (.int .i64 0)) := ((Below.setCell (p := ⟨w.heap.size + 1, 0, none⟩) hG3 (by simp) _).setCell (p := ⟨w.heap.size + 1, 1, none⟩) (by simp) _).setCell (p := ⟨w.heap.size + 1 + 1, 0, none⟩) (by simp; omega) _
  refine leaves_cons (f := 66) (args := #[.pointer (some ⟨w.heap.size + 1 + 1, 0, none⟩)]) (by simp) (by simp [go_sem]) ?_
  refine (pdefLead_idle (w.heap.size + 1 + 1) _).mono ?_
  rintro e u' w'' ⟨rfl, rfl, rfl⟩
  simp [Leaves, settle, results, Try.results27, go_sem, z3, z4, z5]
  exact hG
theorem pLead_any (P p q : Int) (v : Value) (ss : List (List Int)) (w : World) (hP1 : -9223372036854775808 ≤ P) (hP2 : P ≤ 9223372036854775807) (hv : IsSheets w v ss) :
    Calls Try.prog 27 #[.agg #[.int .i64 P, v], .int .i64 p, .int .i64 q] w fun e w' => e = .returned (.tuple #[.agg #[.int .i64 (leadR P ss p q).1, .int .i64 (leadR P ss p q).2], .int .i64 (errOf P ss (pairsB P p q))]) ∧ Grow w w' := by
  by_cases hc : errOf P ss (pairsB P p q) = 0
  · rw [hc]
    exact pLead_ok P p q v ss w hP1 hP2 hv hc _ (by unfold leadR; rw [if_pos hc])
  · rw [show leadR P ss p q = (0, 0) by unfold leadR; rw [if_neg hc]]
    exact pLead_bad P p q v ss w hP1 hP2 hv hc
end Go.Proofs.Yteijilbdllpbcaa
namespace Go.Proofs.Yteijilbdllpbcaa
open Go.RowKit

/-- Races of which the one number is the same are alike in the other one. -/
def Cons {α : Type} (f g : α → Int) (l : List α) : Prop := ∀ r ∈ l, ∀ s ∈ l, f r = f s → g r = g s
/-- What a map holds of some races. -/
def SignsOf {α : Type} (f g : α → Int) (l : List α) (m : List (Int × Value)) : Prop :=
  (∀ p ∈ m, ∃ r ∈ l, p = (f r, .int .i64 (g r))) ∧ (∀ r ∈ l, f r ∈ m.map (·.1)) ∧ Cons f g l
theorem SignsOf.nil {α : Type} (f g : α → Int) : SignsOf f g [] [] := ⟨by simp, by simp, fun r hr => by cases hr⟩
theorem SignsOf.new {α : Type} {f g : α → Int} {l : List α} {m : List (Int × Value)} {r : α} (h : SignsOf f g l m) (hn : lookKey m (f r) = none ∨ lookKey m (f r) = some (.int .i64 (g r))) : SignsOf f g (l ++ [r]) (putKey m (f r) (.int .i64 (g r))) := by
  obtain ⟨h1, h2, h3⟩ := h
  have hk : ∀ s ∈ l, f s = f r → g s = g r := by
    intro s hs he
    rcases hn with hn | hn
    · obtain ⟨p, hp, hpe⟩ := List.mem_map.1 (h2 s hs)
      exact absurd (hpe.trans he) (lookKey_none.1 hn p hp)
    · obtain ⟨t, ht, hte⟩ := h1 _ (lookKey_mem hn)
      injection hte with e1 e2
      injection e2 with _ e3
      rw [e3]
      exact h3 s hs t ht (he.trans e1)
  refine ⟨fun p hp => ?_, fun s hs => ?_, fun s hs t ht he => ?_⟩
  · rcases mem_put hp with hp | rfl
    · obtain ⟨s, hs, hse⟩ := h1 p hp
      exact ⟨s, by simp [hs], hse⟩
    · exact ⟨r, by simp, rfl⟩
  · rw [keys_put]
    rcases List.mem_append.1 hs with hs | hs
    · exact .inl (h2 s hs)
    · rw [List.mem_singleton.1 hs]; exact .inr rfl
  · rcases List.mem_append.1 hs with hs | hs <;> rcases List.mem_append.1 ht with ht | ht
    · exact h3 s hs t ht he
    · rw [List.mem_singleton.1 ht] at he ⊢; exact hk s hs he
    · rw [List.mem_singleton.1 hs] at he ⊢; exact (hk t ht he.symm).symm
    · rw [List.mem_singleton.1 hs, List.mem_singleton.1 ht]
theorem SignsOf.clash {α : Type} {f g : α → Int} {l L : List α} {m : List (Int × Value)} {r : α} {v : Int} (h : SignsOf f g l m) (hl : ∀ s ∈ l, s ∈ L) (hr : r ∈ L) (hn : lookKey m (f r) = some (.int .i64 v)) (hv : v ≠ g r) : ¬ Cons f g L := by
  obtain ⟨t, ht, hte⟩ := h.1 _ (lookKey_mem hn)
  injection hte with e1 e2
  injection e2 with _ e3
  intro hc
  exact hv (e3.trans (hc t (hl t ht) r hr e1.symm))
theorem SignsOf.int {α : Type} {f g : α → Int} {l : List α} {m : List (Int × Value)} (h : SignsOf f g l m) (x : Int) : lookKey m x = none ∨ ∃ v, lookKey m x = some (.int .i64 v) := by
  cases hk : lookKey m x with
  | none => exact .inl rfl
  | some v =>
    obtain ⟨t, _, hte⟩ := h.1 _ (lookKey_mem hk)
    injection hte with _ e2
    exact .inr ⟨_, by rw [e2]⟩
theorem und_signs : Try.prog.underlying 95 = some (.map 3 3) := by kernel_rfl
theorem und_int : Try.prog.underlying 3 = some (.int .i64) := by kernel_rfl
theorem zero_int (w : World) : (zeroValue 3).run Try.prog w = .ok (.int .i64 0) w := by kernel_rfl
def signOf (n : Int) : Int := max (-1) (min 1 n)
def SettledPost (w : World) (ts : List ByteArray) (f g : ByteArray → Int) (e : Ending) (w' : World) : Prop := (∃ b : Bool, e = .returned (.bool b) ∧ (b = true ↔ Cons f g ts)) ∧ Grow w w'
set_option maxRecDepth 100000 in
set_option maxHeartbeats 2000000 in
theorem psettled_any (gf : Nat) (fi ca : Array Value) (hE : ∀ args w, (callFunc gf args).run Try.prog w = .ok (.enter gf args) w) (x y c : Nat) (p q : Int) (a : Option Addr) (ts : List ByteArray) (cap : Nat) (f : ByteArray → Int) (w : World)
    (hts : ts.length ≤ 13841287201) (hz : ∀ r ∈ ts, r.size ≤ 12)
    (hof : ∀ r W1, r ∈ ts → Grow w W1 → Calls Try.prog gf (fi ++ #[.string r] ++ ca) W1 fun e W' => e = .returned (.int .i64 (f r)) ∧ Grow W1 W')
    (hx : w.cell? ⟨x, 0, none⟩ = some (.pointer (some ⟨c, 0, none⟩))) (hy0 : w.cell? ⟨y, 0, none⟩ = some (.int .i64 p)) (hy1 : w.cell? ⟨y, 1, none⟩ = some (.int .i64 q))
    (h3 : w.cell? ⟨c, 1, none⟩ = some (.slice a ts.length cap)) (hr : RowAt w a (ts.map Value.string)) :
    Calls Try.prog 70 #[.func (.func gf) fi ca, .pointer (some ⟨x, 0, none⟩), .pointer (some ⟨y, 0, none⟩)] w (SettledPost w ts f (fun r => signOf (leadB r p q))) := by
  have hmm := @run_makeMap Try.prog
  have hnew := MapIs.made w (Value.int .i64)
  have HF := Lib.hid hof
  have HR := Lib.hid hr
  have Hz := Lib.hid hz
  have HX := Lib.hid hx
  have HY0 := Lib.hid hy0
  have HY1 := Lib.hid hy1
  clear hof hr hz hy0 hy1
  have hlx := lt_of_cell hx
  have hlc := lt_of_cell h3
  go_enter Try.func70, Try.ntmps70
  go_wp2_with fail
  obtain ⟨W, hW⟩ : ∃ W, w.alloc (.map #[] 0) = W := ⟨_, rfl⟩
  have hgW : Grow w W := by rw [← hW]; exact (Grow.refl w).alloc _
  rw [hW] at hnew ⊢
  clear hW
  go_loopw [17] (fun i wr => ∃ (k : Nat) (m : List (Int × Value)), k ≤ ts.length ∧ i = .int .i64 k ∧ MapIs wr w.heap.size (Value.int .i64) m ∧ SignsOf f (fun r => signOf (leadB r p q)) (ts.take k) m ∧ Grow w wr) (fun i _ => ts.length - (intOf i).toNat)
  case atStart => exact ⟨0, [], Nat.zero_le _, rfl, hnew, SignsOf.nil _ _, hgW⟩
  case round =>
    obtain ⟨k, m, hk, rfl, hm, hs, hg⟩ := hrel
    have Hs := Lib.hid hs
    clear hs
    by_cases hlt : k < ts.length
    · obtain ⟨b, o, r, hrx, rfl, hcr⟩ := HR.out.str hlt
      have hcr' := hg.keeps hcr
      have hy0' := hg.keeps HY0.out
      have hy1' := hg.keeps HY1.out
      have hmem : r ∈ ts := List.mem_of_getElem? hrx
      have hr12 := Hz.out r hmem
      have Hrx := Lib.hid hrx
      clear hrx
      obtain ⟨fr, hfr⟩ : ∃ fr, fr = f r := ⟨_, rfl⟩
      obtain ⟨sg, hsg⟩ : ∃ sg, sg = signOf (leadB r p q) := ⟨_, rfl⟩
      have HC : Hid (∀ W1, Grow w W1 → Calls Try.prog gf (fi ++ #[.string r] ++ ca) W1 fun e W' => e = .returned (.int .i64 fr) ∧ Grow W1 W') := fun W1 h1 => by rw [hfr]; exact HF.out r W1 hmem h1
      have Hfr := Lib.hid hfr
      have Hsg := Lib.hid hsg
      have hlw := hm.lt
      rcases Hs.out.int fr with hn | ⟨v, hv⟩
      · have hnew2 := Lib.hid (Hs.out.new (r := r) (.inl (hfr ▸ hn)))
        have Hn := Lib.hid hn
        clear hfr hsg hn
        go_wp2_with fail
        refine (plead_any r p q _ (by omega)).mono ?_
        rintro e w1 ⟨rfl, hg1⟩
        go_wp2_with fail
        refine (psign_any _ _).mono ?_
        rintro e w1' ⟨rfl, rfl⟩
        rw [show max (-1) (min 1 (leadB r p q)) = sg from Hsg.out.symm]
        have hG1 := hg.trans hg1
        have hm1 := hm.grow hg1
        go_wp2_with fail
        refine (HC.out w1 hG1).mono ?_
        rintro e w2 ⟨rfl, hg2⟩
        have hG2 := hG1.trans hg2
        have hm2 := hm1.grow hg2
        go_wp2_with (at_lookup; refine wpl_look rfl (.tmp 26) (.tmp 29) 95 true rfl 3 (keyOk_int und_int) und_signs _ (zero_int _) w.heap.size m fr rfl rfl hm2 ?_; rw [Hn.out])
        refine (HC.out w2 hG2).mono ?_
        rintro e w3 ⟨rfl, hg3⟩
        have hG3 := hG2.trans hg3
        have hm3 := hm2.grow hg3
        go_wp2_with (at_mapUpdate; refine wpl_put rfl (.tmp 39) (.tmp 42) (.tmp 43) 95 (Or.inl rfl) 3 (keyOk_int und_int) und_signs w.heap.size m fr (.int .i64 sg) rfl rfl rfl hm3 ?_; intro w4 hm4 hg4 hz4)
        have e1 := Hfr.out
        have e2 := Hsg.out
        subst e1 e2
        exact ⟨⟨k + 1, _, by omega, by go_num, hm4, by rw [take_get Hrx.out]; exact hnew2.out, Below.trans hG3 (grownBy_below hg4 (by intro z hz; injection hz with hz; omega) hG3.size)⟩, by simp [intOf]; omega⟩
      · by_cases hvs : v = sg
        · subst hvs
          have hnew2 := Lib.hid (Hs.out.new (r := r) (.inr (hfr ▸ hsg ▸ hv)))
          have Hv := Lib.hid hv
          clear hfr hsg hv
          go_wp2_with fail
          refine (plead_any r p q _ (by omega)).mono ?_
          rintro e w1 ⟨rfl, hg1⟩
          go_wp2_with fail
          refine (psign_any _ _).mono ?_
          rintro e w1' ⟨rfl, rfl⟩
          rw [show max (-1) (min 1 (leadB r p q)) = v from Hsg.out.symm]
          have hG1 := hg.trans hg1
          have hm1 := hm.grow hg1
          go_wp2_with fail
          refine (HC.out w1 hG1).mono ?_
          rintro e w2 ⟨rfl, hg2⟩
          have hG2 := hG1.trans hg2
          have hm2 := hm1.grow hg2
          go_wp2_with (at_lookup; refine wpl_look rfl (.tmp 26) (.tmp 29) 95 true rfl 3 (keyOk_int und_int) und_signs _ (zero_int _) w.heap.size m fr rfl rfl hm2 ?_; rw [Hv.out])
          refine (HC.out w2 hG2).mono ?_
          rintro e w3 ⟨rfl, hg3⟩
          have hG3 := hG2.trans hg3
          have hm3 := hm2.grow hg3
          go_wp2_with (at_mapUpdate; refine wpl_put rfl (.tmp 39) (.tmp 42) (.tmp 43) 95 (Or.inl rfl) 3 (keyOk_int und_int) und_signs w.heap.size m fr (.int .i64 v) rfl rfl rfl hm3 ?_; intro w4 hm4 hg4 hz4)
          have e1 := Hfr.out
          have e2 := Hsg.out
          subst e1 e2
          exact ⟨⟨k + 1, _, by omega, by go_num, hm4, by rw [take_get Hrx.out]; exact hnew2.out, Below.trans hG3 (grownBy_below hg4 (by intro z hz; injection hz with hz; omega) hG3.size)⟩, by simp [intOf]; omega⟩
        · have hcl := Lib.hid (Hs.out.clash (L := ts) (r := r) (fun s hs => List.mem_of_mem_take hs) hmem (hfr ▸ hv) (hsg ▸ hvs))
          have hb : (v != sg) = true := by simpa using hvs
          have Hv := Lib.hid hv
          clear hfr hsg hv hvs
          go_wp2_with fail
          refine (plead_any r p q _ (by omega)).mono ?_
          rintro e w1 ⟨rfl, hg1⟩
          go_wp2_with fail
          refine (psign_any _ _).mono ?_
          rintro e w1' ⟨rfl, rfl⟩
          rw [show max (-1) (min 1 (leadB r p q)) = sg from Hsg.out.symm]
          have hG1 := hg.trans hg1
          have hm1 := hm.grow hg1
          go_wp2_with fail
          refine (HC.out w1 hG1).mono ?_
          rintro e w2 ⟨rfl, hg2⟩
          have hG2 := hG1.trans hg2
          have hm2 := hm1.grow hg2
          go_wp2_with (at_lookup; refine wpl_look rfl (.tmp 26) (.tmp 29) 95 true rfl 3 (keyOk_int und_int) und_signs _ (zero_int _) w.heap.size m fr rfl rfl hm2 ?_; rw [Hv.out])
          go_ret
          exact ⟨⟨false, rfl, by simp [hcl.out]⟩, hG2⟩
    · have hkk : k = ts.length := by omega
      go_wp2_with fail
      go_ret
      refine ⟨⟨true, rfl, ?_⟩, hg⟩
      have := Hs.out.2.2
      rw [take_len hlt] at this
      simp [this]
end Go.Proofs.Yteijilbdllpbcaa
namespace Go.Proofs.Yteijilbdllpbcaa
open Go.RowKit

theorem pconst_any (s : ByteArray) (w : World) : Calls Try.prog 73 #[.string s] w fun e w' => e = .returned (.int .i64 0) ∧ Grow w w' := by
  go_enter Try.func73, Try.ntmps73
  go_wp2_with fail
  go_ret
  exact ⟨rfl, Grow.refl _⟩
/-- Who has a passing. -/
def atOf (n : Nat) (t : List Int) : Int := t[n]?.getD (-1)
theorem pat_any (s : ByteArray) (n b : Nat) (w : World) (hb : w.cell? ⟨b, 0, none⟩ = some (.int .i64 n)) :
    Calls Try.prog 74 #[.string s, .pointer (some ⟨b, 0, none⟩)] w fun e w' => e = .returned (.int .i64 (atOf n (intsB s))) ∧ Grow w w' := by
  by_cases h : n < s.size
  · have he : atOf n (intsB s) = (s[n].toNat : Int) := by unfold atOf; rw [intsB_get s n h]; rfl
    rw [he]
    have h255 : (s[n].toNat : Int) ≤ 255 := by have := s[n].toNat_lt; omega
    have h0 : 0 ≤ (s[n].toNat : Int) := by omega
    go_enter Try.func74, Try.ntmps74
    go_wp2_with fail
    go_ret
    exact ⟨rfl, Grow.refl _⟩
  · have he : atOf n (intsB s) = -1 := by unfold atOf; rw [List.getElem?_eq_none (by rw [intsB_len]; omega)]; rfl
    rw [he]
    go_enter Try.func74, Try.ntmps74
    go_wp2_with fail
    go_ret
    exact ⟨rfl, Grow.refl _⟩
/-- Races of which the one number is the same are alike in the other one. -/
def consB {α : Type} (f g : α → Int) (l : List α) : Bool := l.all fun r => l.all fun s => !(f r == f s) || g r == g s
theorem consB_iff {α : Type} (f g : α → Int) (l : List α) : consB f g l = true ↔ Cons f g l := by
  unfold consB Cons
  simp only [List.all_eq_true, Bool.or_eq_true, Bool.not_eq_true', beq_eq_false_iff_ne, beq_iff_eq]
  exact ⟨fun h r hr s hs he => (h r hr s hs).resolve_left (fun k => k he), fun h r hr s hs => by by_cases he : f r = f s; exact .inr (h r hr s hs he); exact .inl he⟩
theorem cons_map {α β : Type} (i : α → β) (f g : β → Int) (l : List α) : Cons f g (l.map i) ↔ Cons (fun r => f (i r)) (fun r => g (i r)) l := by
  unfold Cons
  simp only [List.mem_map, forall_exists_index, and_imp, forall_apply_eq_imp_iff₂]
def signL (p q : Int) (t : List Int) : Int := signOf (leadOf p q t)
def settleGo (T : List (List Int)) (p q : Int) : Nat → Nat → Int × Int
  | 0, _ => (0, 4)
  | f + 1, n => if consB (atOf n) (signL p q) T = true then (n, 0) else settleGo T p q f (n + 1)
def settleZ (T : List (List Int)) (p q : Int) : Int × Int := if consB (fun _ => 0) (signL p q) T = true then (0, 11) else settleGo T p q 12 0
def settleR (P : Int) (ss : List (List Int)) (p q : Int) : Int × Int := if errOf P ss (pairsB P p q) = 0 then settleZ (truthsR P.toNat ss).1 p q else (0, errOf P ss (pairsB P p q))
set_option maxRecDepth 100000 in
theorem pSettle_bad (P p q : Int) (v : Value) (ss : List (List Int)) (w : World) (hP1 : -9223372036854775808 ≤ P) (hP2 : P ≤ 9223372036854775807) (hv : IsSheets w v ss) (hc : errOf P ss (pairsB P p q) ≠ 0) :
    Calls Try.prog 28 #[.agg #[.int .i64 P, v], .int .i64 p, .int .i64 q] w fun e w' => e = .returned (.tuple #[.int .i64 0, .int .i64 (errOf P ss (pairsB P p q))]) ∧ Grow w w' := by
  have hmf : ∀ (fn : Fn) (first cap : Array Value) (w : World), (Instr.makeFunc fn first cap).run Try.prog w = .ok (.func fn first cap) w := fun _ _ _ _ => rfl
  obtain ⟨a, cap, rfl, hcap, hlen, hrow⟩ := id hv
  have Hv := Lib.hid hv
  clear hv
  obtain ⟨cd, hcd⟩ : ∃ cd, cd = errOf P ss (pairsB P p q) := ⟨_, rfl⟩
  have Hcd := Lib.hid hcd
  rw [← hcd] at hc ⊢
  clear hcd
  go_enter_defers Try.func28, Try.ntmps28
  go_wp2_with (go_at_call 67; refine (popened_any P p q _ ss _ hP1 hP2 (Hv.out.grow (((Grow.refl w).alloc _).alloc _))).mono ?_; rintro e w1 ⟨hg1, hbad, _⟩; have hbad := hbad (by rw [← Hcd.out]; exact hc); rw [← Hcd.out] at hbad; subst hbad)
  have hc1 : w1.cell? ⟨w.heap.size + 1, 0, none⟩ = some (.int .i64 0) := hg1.keeps (cell_new (by simp) rfl)
  have hf1 : ∀ o, w1.frozen? ⟨w.heap.size + 1, o, none⟩ = false := fun o => (hg1.marks _ _ (by simp)).trans (hot_new (by simp))
  have hG1 : Grow w w1 := (((Grow.refl w).alloc _).alloc _).trans hg1
  unfold refusal
  refine leaves_cons (f := 69) (args := #[.pointer (some ⟨w.heap.size + 1, 0, none⟩)]) (by simp) (by simp [go_sem]) ?_
  refine (pdefSettle_panic (w.heap.size + 1) cd [] w1 hc1 hf1).mono ?_
  rintro e u' w'' ⟨rfl, rfl, h1, h2⟩
  have hG : Grow w w'' := Below.trans hG1 (grownBy_below h2 (by intro k hk; injection hk with hk; omega) hG1.size)
  simp [Leaves, settle, results, Try.results28, go_sem, h1]
  exact hG
set_option maxRecDepth 100000 in
set_option maxHeartbeats 1000000 in
theorem pSettle_ok (P p q : Int) (v : Value) (ss : List (List Int)) (w : World) (hP1 : -9223372036854775808 ≤ P) (hP2 : P ≤ 9223372036854775807) (hv : IsSheets w v ss) (hc : errOf P ss (pairsB P p q) = 0) (S : Int × Int) (hS : settleZ (truthsR P.toNat ss).1 p q = S) :
    Calls Try.prog 28 #[.agg #[.int .i64 P, v], .int .i64 p, .int .i64 q] w fun e w' => e = .returned (.tuple #[.int .i64 S.1, .int .i64 S.2]) ∧ Grow w w' := by
  have hmf : ∀ (fn : Fn) (first cap : Array Value) (w : World), (Instr.makeFunc fn first cap).run Try.prog w = .ok (.func fn first cap) w := fun _ _ _ _ => rfl
  obtain ⟨hval, _, ht⟩ := errOf_zero hc
  have hlenT : ∀ (ts : List ByteArray), ts.map intsB = (truthsR P.toNat ss).1 → ts.length ≤ 13841287201 := by
    intro ts h
    have := truths2_len hval ss.length (Nat.le_refl _)
    unfold truths2 at this
    rw [List.take_length, ← h, List.length_map] at this
    omega
  obtain ⟨a, cap, rfl, hcap, hlen, hrow⟩ := id hv
  have Hv := Lib.hid hv
  have Hc := Lib.hid hc
  have Hlen := Lib.hid hlenT
  have HS := Lib.hid hS
  clear hv hc hlenT hS hval ht
  go_enter_defers Try.func28, Try.ntmps28
  go_wp2_with fail
  refine (popened_any P p q _ ss _ hP1 hP2 (Hv.out.grow (((Grow.refl w).alloc _).alloc _))).mono ?_
  rintro e w1 ⟨hg1, _, hok⟩
  obtain ⟨c, sheets, ts, n, rfl, hcs, hsh, hts, hz⟩ := hok Hc.out
  obtain ⟨u1, u2, x2, x3, x8, ⟨ra, c2, rfl, x9, x10, x11, x12⟩, x13⟩ := hcs
  have X8 := Lib.hid x8
  have X12 := Lib.hid x12
  have Hts := Lib.hid hts
  have Hz := Lib.hid hz
  have hc1 : w1.cell? ⟨w.heap.size + 1, 0, none⟩ = some (.int .i64 0) := hg1.keeps (cell_new (by simp) rfl)
  have hf1 : ∀ o, w1.frozen? ⟨w.heap.size + 1, o, none⟩ = false := fun o => (hg1.marks _ _ (by simp)).trans (hot_new (by simp))
  have hG1 : Grow w w1 := (((Grow.refl w).alloc _).alloc _).trans hg1
  have htl : ts.length ≤ 13841287201 := Hlen.out ts hts
  clear x2 x3 x8 x9 x10 x11 x12 x13 hts hz hsh hok hg1
  go_wp2_with fail
  obtain ⟨g, hg⟩ : ∃ g, w1.heap.size = g := ⟨_, rfl⟩
  obtain ⟨w2, hw2⟩ : ∃ w2, (w1.alloc (.cells #[.pointer (some ⟨c, 0, none⟩)] 72)).alloc (.cells #[.int .i64 p, .int .i64 q] 92) = w2 := ⟨_, rfl⟩
  have hg2 : Grow w1 w2 := by rw [← hw2]; exact ((Grow.refl w1).alloc _).alloc _
  have e1 : w2.cell? ⟨g, 0, none⟩ = some (.pointer (some ⟨c, 0, none⟩)) := by rw [← hw2]; exact Grow.keepA (cell_new hg.symm rfl) _
  have e2 : w2.cell? ⟨g + 1, 0, none⟩ = some (.int .i64 p) := by rw [← hw2]; exact cell_new (by simp [hg]) rfl
  have e3 : w2.cell? ⟨g + 1, 1, none⟩ = some (.int .i64 q) := by rw [← hw2]; exact cell_new (by simp [hg]) rfl
  rw [hw2, hg]
  have hG2 := hG1.trans hg2
  have hc2 := hg2.keeps hc1
  have hf2 : ∀ o, w2.frozen? ⟨w.heap.size + 1, o, none⟩ = false := fun o => (hg2.marks _ _ (lt_of_cell hc1)).trans (hf1 o)
  have hset : ∀ (gf : Nat) (fi ca : Array Value) (f : List Int → Int) (V : World), (∀ args w, (callFunc gf args).run Try.prog w = .ok (.enter gf args) w) → Grow w2 V → (∀ r V2, r ∈ ts → Grow V V2 → Calls Try.prog gf (fi ++ #[.string r] ++ ca) V2 fun e W' => e = .returned (.int .i64 (f (intsB r))) ∧ Grow V2 W') →
      Calls Try.prog 70 #[.func (.func gf) fi ca, .pointer (some ⟨g, 0, none⟩), .pointer (some ⟨g + 1, 0, none⟩)] V fun e V' => e = .returned (.bool (consB f (signL p q) (truthsR P.toNat ss).1)) ∧ Grow V V' := by
    intro gf fi ca f V hE hV hof
    refine (psettled_any gf fi ca hE g (g + 1) c p q ra ts c2 (fun r => f (intsB r)) V htl Hz.out hof (hV.keeps e1) (hV.keeps e2) (hV.keeps e3) ((hg2.trans hV).keeps X8.out) (X12.out.grow (hg2.trans hV))).mono ?_
    rintro e V' ⟨⟨b, rfl, hb⟩, hgV⟩
    refine ⟨?_, hgV⟩
    have : (fun r => signOf (leadB r p q)) = fun r => signL p q (intsB r) := funext fun r => by rw [leadB_of]; rfl
    rw [this, ← cons_map intsB f (signL p q), Hts.out, ← consB_iff] at hb
    rw [Bool.eq_iff_iff.2 hb]
  have Hset := Lib.hid hset
  clear hset hw2 hg hc1 hf1 e1 e2 e3
  refine (Hset.out 73 #[] #[] (fun _ => 0) w2 (enters_of Try.func73 (by kernel_rfl) rfl) (Grow.refl _) (fun r V2 _ _ => pconst_any r V2)).mono ?_
  rintro e w3 ⟨rfl, hg3⟩
  have hG3 := hG2.trans hg3
  have hc3 := hg3.keeps hc2
  have hf3 : ∀ o, w3.frozen? ⟨w.heap.size + 1, o, none⟩ = false := fun o => (hg3.marks _ _ (lt_of_cell hc2)).trans (hf2 o)
  clear hc2 hf2
  cases hb0 : consB (fun _ => 0) (signL p q) (truthsR P.toNat ss).1
  · have Hb0 := Lib.hid hb0
    clear hb0
    go_wp2_with (go_at_call 72; refine (pwant_yes _ _).mono ?_; rintro e w' ⟨rfl, rfl⟩)
    go_loopw [26] (fun i wr => ∃ n : Nat, n ≤ 12 ∧ i = .int .i64 n ∧ settleGo (truthsR P.toNat ss).1 p q 12 0 = settleGo (truthsR P.toNat ss).1 p q (12 - n) n ∧ Grow w3 wr) (fun i _ => 12 - (intOf i).toNat)
    case atStart => exact ⟨0, by omega, rfl, rfl, Grow.refl _⟩
    case round =>
      obtain ⟨n, hn, rfl, hs, hgr⟩ := hrel
      have Hs := Lib.hid hs
      clear hs
      have hcr := hgr.keeps hc3
      have hfr : ∀ o, wr.frozen? ⟨w.heap.size + 1, o, none⟩ = false := fun o => (hgr.marks _ _ (lt_of_cell hc3)).trans (hf3 o)
      have hltr := lt_of_cell hcr
      have hGr := hG3.trans hgr
      by_cases hlt : n < 12
      · go_wp2_with fail
        obtain ⟨b, hb⟩ : ∃ b, wr.heap.size = b := ⟨_, rfl⟩
        obtain ⟨w4, hw4⟩ : ∃ w4, wr.alloc (.cells #[.int .i64 n] 3) = w4 := ⟨_, rfl⟩
        have hg4 : Grow wr w4 := by rw [← hw4]; exact (Grow.refl wr).alloc _
        have e4 : w4.cell? ⟨b, 0, none⟩ = some (.int .i64 n) := by rw [← hw4]; exact cell_new hb.symm rfl
        rw [hw4, hb]
        clear hw4
        refine (Hset.out 74 #[] #[.pointer (some ⟨b, 0, none⟩)] (atOf n) w4 (enters_of Try.func74 (by kernel_rfl) rfl) ((hg3.trans hgr).trans hg4) (fun r V2 hr hV => pat_any r n b V2 (hV.keeps e4))).mono ?_
        rintro e w5 ⟨rfl, hg5⟩
        have hg45 := hg4.trans hg5
        have hc5 := hg45.keeps hcr
        have hf5 : ∀ o, w5.frozen? ⟨w.heap.size + 1, o, none⟩ = false := fun o => (hg45.marks _ _ hltr).trans (hfr o)
        have hl5 := lt_of_cell hc5
        have hb5 := hg5.keeps e4
        have Hb := Lib.hid hb
        clear hb e4
        cases hbn : consB (atOf n) (signL p q) (truthsR P.toNat ss).1
        · have Hbn := Lib.hid hbn
          clear hbn
          go_wp2_with fail
          exact ⟨⟨n + 1, by omega, by go_num, by rw [Hs.out, show 12 - n = (12 - (n + 1)) + 1 by omega, settleGo, if_neg (by rw [Hbn.out]; decide)], (hgr.trans hg4).trans hg5⟩, by simp [intOf]; omega⟩
        · have hS0 : S = ((n : Int), 0) := by
            rw [← HS.out]
            unfold settleZ
            rw [if_neg (by rw [Hb0.out]; decide), Hs.out, show 12 - n = (12 - (n + 1)) + 1 by omega, settleGo, if_pos hbn]
          have Hbn := Lib.hid hbn
          clear hbn
          subst hS0
          go_wp2_with fail
          have hV0 : (w5.setCell ⟨w.heap.size + 1, 0, none⟩ (.int .i64 0)).cell? ⟨w.heap.size + 1, 0, none⟩ = some (.int .i64 0) := World.cell?_setCell_same' _ _ _ (by rw [hc5]; rfl)
          have hGe : Grow w (w5.setCell ⟨w.heap.size + 1, 0, none⟩ (.int .i64 0)) := (hGr.trans hg45).setCell (p := ⟨w.heap.size + 1, 0, none⟩) (by simp) _
          refine leaves_cons (f := 69) (args := #[.pointer (some ⟨w.heap.size + 1, 0, none⟩)]) (by simp) (by simp [go_sem]) ?_
          refine (pdefSettle_idle (w.heap.size + 1) _).mono ?_
          rintro e u' w'' ⟨rfl, rfl, rfl⟩
          simp [Leaves, settle, results, Try.results28, go_sem, hV0]
          exact hGe
      · obtain rfl : n = 12 := by omega
        have hS0 : S = (0, 4) := by
          rw [← HS.out]
          unfold settleZ
          rw [if_neg (by rw [Hb0.out]; decide), Hs.out]
          rfl
        subst hS0
        go_wp2_with fail
        have hV0 : (wr.setCell ⟨w.heap.size + 1, 0, none⟩ (.int .i64 4)).cell? ⟨w.heap.size + 1, 0, none⟩ = some (.int .i64 4) := World.cell?_setCell_same' _ _ _ (by rw [hcr]; rfl)
        have hGe : Grow w (wr.setCell ⟨w.heap.size + 1, 0, none⟩ (.int .i64 4)) := hGr.setCell (p := ⟨w.heap.size + 1, 0, none⟩) (by simp) _
        refine leaves_cons (f := 69) (args := #[.pointer (some ⟨w.heap.size + 1, 0, none⟩)]) (by simp) (by simp [go_sem]) ?_
        refine (pdefSettle_idle (w.heap.size + 1) _).mono ?_
        rintro e u' w'' ⟨rfl, rfl, rfl⟩
        simp [Leaves, settle, results, Try.results28, go_sem, hV0]
        exact hGe
  · have Hb0 := Lib.hid hb0
    clear hb0
    go_wp2_with (go_at_call 72; refine (pwant_no _ _).mono ?_; rintro e w' ⟨rfl, rfl⟩)
    unfold refusal
    refine leaves_cons (f := 69) (args := #[.pointer (some ⟨w.heap.size + 1, 0, none⟩)]) (by simp) (by simp [go_sem]) ?_
    refine (pdefSettle_panic (w.heap.size + 1) 11 [] w3 hc3 hf3).mono ?_
    rintro e u' w'' ⟨rfl, rfl, h1, h2⟩
    have hG : Grow w w'' := Below.trans hG3 (grownBy_below h2 (by intro k hk; injection hk with hk; omega) hG3.size)
    have hS0 : S = (0, 11) := by rw [← HS.out]; unfold settleZ; rw [if_pos Hb0.out]
    subst hS0
    simp [Leaves, settle, results, Try.results28, go_sem, h1]
    exact hG
theorem pSettle_any (P p q : Int) (v : Value) (ss : List (List Int)) (w : World) (hP1 : -9223372036854775808 ≤ P) (hP2 : P ≤ 9223372036854775807) (hv : IsSheets w v ss) :
    Calls Try.prog 28 #[.agg #[.int .i64 P, v], .int .i64 p, .int .i64 q] w fun e w' => e = .returned (.tuple #[.int .i64 (settleR P ss p q).1, .int .i64 (settleR P ss p q).2]) ∧ Grow w w' := by
  by_cases hc : errOf P ss (pairsB P p q) = 0
  · exact pSettle_ok P p q v ss w hP1 hP2 hv hc _ (by unfold settleR; rw [if_pos hc])
  · rw [show settleR P ss p q = (0, errOf P ss (pairsB P p q)) by unfold settleR; rw [if_neg hc]]
    exact pSettle_bad P p q v ss w hP1 hP2 hv hc
end Go.Proofs.Yteijilbdllpbcaa
