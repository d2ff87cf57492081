/- The program of layer 1: each, what it yields. Conditions: sizes. -/
import Derived.Test.YteijilbdllpbcaaPgV
import Derived.RangeFuncNested
import Derived.RangeFuncBound
import Derived.RangeFuncCalls
import Derived.RangeFuncLeaves
import Derived.RangeFuncBox
import Derived.Shelf.Abstract
import Derived.OwnWalkIn
import Derived.TacticsInMore
import Derived.LoopNIn
import Derived.LoopIn
namespace Go.Proofs.Yteijilbdllpbcaa
open Go.RowKit

attribute [local go_sem] Oper.semAt_some

set_option maxRecDepth 100000 in
set_option maxHeartbeats 2000000 in
theorem peach_in {α : Type} (val : α → Int) (l c g h gf : Nat) (fi ca : Array Value) (hE : ∀ args w, (callFunc gf args).run Try.prog w = .ok (.enter gf args) w) (Kp : World → World → Prop) (a : Option Addr) (ts : List ByteArray) (cap : Nat) (f : ByteArray → α) (J Jx : List α → World → Prop)
    (hts : ts.length ≤ 13841287201)
    (hJ : ∀ pre W W', J pre W → Grow W W' → J pre W')
    (hY : ∀ pre x W, J pre W → pre.length < ts.length → YieldAt Fence.wide 8 Try.prog l #[.int .i64 (val x)] W fun e W' =>
      (e = .returned (.bool true) ∧ J (pre ++ [x]) W' ∧ Kp W W') ∨ (e = .returned (.bool false) ∧ Jx (pre ++ [x]) W'))
    (W : World) (hKr : Kp W W) (hKt : ∀ A B C, Kp A B → Kp B C → Kp A C) (hKg : ∀ A B, Kp W A → Grow A B → Kp A B)
    (hof : ∀ r W1, r ∈ ts → Kp W W1 → Calls Try.prog gf (fi ++ #[.string r] ++ ca) W1 fun e W' => e = .returned (.int .i64 (val (f r))) ∧ Grow W1 W') (h1 : W.cell? ⟨g, 0, none⟩ = some (.pointer (some ⟨c, 0, none⟩)))
    (h3 : W.cell? ⟨c, 1, none⟩ = some (.slice a ts.length cap)) (hrd : ∀ A, Kp W A → A.cell? ⟨h, 0, none⟩ = some (.func (.func gf) fi ca) ∧ RowAt A a (ts.map Value.string)) (h0 : J [] W) :
    CallsIn Fence.wide 9 Try.prog 89 #[.func (.yield l) #[] #[], .pointer (some ⟨g, 0, none⟩), .pointer (some ⟨h, 0, none⟩)] W fun e W' => (∃ v, e = .returned v) ∧
      (J (ts.map f) W' ∨ (∃ k, k ≤ ts.length ∧ Jx ((ts.take k).map f) W')) := by
  refine callsIn_of_wp Try.func89 rfl trivial ?_ rfl
  simp only [Try.ntmps89, List.size_toArray, List.length_cons, List.length_nil, Nat.reduceAdd, Nat.reduceSub, Array.replicate_succ, Array.replicate_zero, List.push_toArray, List.append_toArray, List.nil_append, List.cons_append]
  gi_wp2
  have HK := Lib.hid hKg
  have HT := Lib.hid hKt
  have HR := Lib.hid hrd
  have HJ := Lib.hid hJ
  have HY := Lib.hid hY
  have HF := Lib.hid hof
  clear hJ hY hof hKg hKt hrd
  gi_loopw [11] (fun s11 wr => ∃ k : Nat, k ≤ ts.length ∧ s11 = .int .i64 k ∧ J ((ts.take k).map f) wr ∧ Kp W wr) (fun s11 _ => ts.length - (intOf s11).toNat)
  case atStart => exact ⟨0, Nat.zero_le _, rfl, h0, hKr⟩
  case round =>
    obtain ⟨k, hk, rfl, hJs, hnx⟩ := hrel
    by_cases hlt : k < ts.length
    · obtain ⟨b, o, r, hx, rfl, hcr⟩ := (HR.out wr hnx).2.str hlt
      have hch := (HR.out wr hnx).1
      have Hx := Lib.hid hx
      have hmem : r ∈ ts := List.mem_of_getElem? hx
      have hcall := Lib.hid (HF.out r wr hmem hnx)
      obtain ⟨fr, hfr⟩ : ∃ fr, fr = f r := ⟨_, rfl⟩
      rw [← hfr] at hcall
      have Hfr := Lib.hid hfr
      clear hx hfr
      gi_wp2_with fail
      refine ⟨trivial, (callsIn_wide.2 hcall.out).mono ?_⟩
      rintro e w2 ⟨rfl, hg2⟩
      obtain ⟨fn, tmps, assign, body, hy, hR⟩ := HY.out _ fr w2 (HJ.out _ _ _ hJs hg2) (by simp; omega)
      have hl : (ts.take (k + 1)).map f = (ts.take k).map f ++ [fr] := by rw [take_get Hx.out, List.map_append, Hfr.out]; rfl
      have Hl := Lib.hid hl
      have hb2 : Kp W w2 := HT.out _ _ _ hnx (HK.out _ _ hnx hg2)
      clear hl
      gi_wp2_with fail
      refine hR.mono ?_
      rintro e w3 (⟨rfl, hJ3, hk3⟩ | ⟨rfl, hJx3⟩)
      · gi_wp2
        go_roundw
        case rel => exact ⟨k + 1, by omega, by go_num, by rw [Hl.out]; exact hJ3, HT.out _ _ _ hb2 hk3⟩
        case measure => simp [intOf]; omega
      · gi_wp2
        refine bodyPost_ret (results_none rfl _ _ _) rfl ?_
        exact ⟨⟨_, rfl⟩, .inr ⟨k + 1, by omega, by rw [Hl.out]; exact hJx3⟩⟩
    · obtain rfl : k = ts.length := by omega
      gi_wp2
      go_end0
      rw [List.take_length] at hJs
      exact ⟨⟨_, rfl⟩, .inl hJs⟩
theorem peach_stops {α : Type} (val : α → Int) (c g h gf : Nat) (fi ca : Array Value) (hE : ∀ args w, (callFunc gf args).run Try.prog w = .ok (.enter gf args) w) (Kp : World → World → Prop) (a : Option Addr) (ts : List ByteArray) (cap : Nat) (f : ByteArray → α) (w : World)
    (hts : ts.length ≤ 13841287201)
    (hKr : ∀ W, Kp W W) (hKt : ∀ A B C, Kp A B → Kp B C → Kp A C) (hKg : ∀ W A B, Grow w W → Kp W A → Grow A B → Kp A B)
    (hof : ∀ r W W1, r ∈ ts → Grow w W → Kp W W1 → Calls Try.prog gf (fi ++ #[.string r] ++ ca) W1 fun e W' => e = .returned (.int .i64 (val (f r))) ∧ Grow W1 W')
    (h1 : w.cell? ⟨g, 0, none⟩ = some (.pointer (some ⟨c, 0, none⟩))) (h3 : w.cell? ⟨c, 1, none⟩ = some (.slice a ts.length cap))
    (hrd : ∀ W A, Grow w W → Kp W A → A.cell? ⟨h, 0, none⟩ = some (.func (.func gf) fi ca) ∧ RowAt A a (ts.map Value.string)) :
    SeqStopsK Fence.wide 9 Try.prog 89 #[.pointer (some ⟨g, 0, none⟩), .pointer (some ⟨h, 0, none⟩)] (fun x : α => #[Value.int .i64 (val x)]) Kp (fun ys => ys = ts.map f) (fun pre => ∃ k, k ≤ ts.length ∧ pre = (ts.take k).map f) ts.length w := by
  intro l J Jx W hW hJ hJx hY h0
  have hg : Grow w W := hW
  refine (peach_in val l c g h gf fi ca hE Kp a ts cap f J Jx hts (fun pre A B hA hAB => hJ pre A B none hA (hAB.grownBy none) (by simp)) hY W (hKr W) hKt (fun A B => hKg W A B hg) (fun r W1 hr' h' => hof r W W1 hr' hg h') (hg.keeps h1) (hg.keeps h3) (fun A hA => hrd W A hg hA) h0).mono ?_
  rintro e W' ⟨h5, h6 | ⟨k, hk, h7⟩⟩
  · exact ⟨h5, .inl ⟨_, rfl, h6⟩⟩
  · exact ⟨h5, .inr ⟨_, ⟨k, hk, rfl⟩, h7⟩⟩
/-- The iterator, where nothing below a block is turned. -/
theorem peach_below {α : Type} (val : α → Int) (c g h gf : Nat) (fi ca : Array Value) (hE : ∀ args w, (callFunc gf args).run Try.prog w = .ok (.enter gf args) w) (n0 : Nat) (a : Option Addr) (ts : List ByteArray) (cap : Nat) (f : ByteArray → α) (w : World)
    (hts : ts.length ≤ 13841287201) (hh0 : h < n0) (hnw : n0 ≤ w.heap.size)
    (hof : ∀ r W1, r ∈ ts → Below n0 w W1 → Calls Try.prog gf (fi ++ #[.string r] ++ ca) W1 fun e W' => e = .returned (.int .i64 (val (f r))) ∧ Grow W1 W')
    (h1 : w.cell? ⟨g, 0, none⟩ = some (.pointer (some ⟨c, 0, none⟩))) (h2 : w.cell? ⟨h, 0, none⟩ = some (.func (.func gf) fi ca))
    (h3 : w.cell? ⟨c, 1, none⟩ = some (.slice a ts.length cap)) (hr : RowAt w a (ts.map Value.string)) (hb : ∀ b o, a = some ⟨b, o, none⟩ → b < n0) :
    SeqStopsK Fence.wide 9 Try.prog 89 #[.pointer (some ⟨g, 0, none⟩), .pointer (some ⟨h, 0, none⟩)] (fun x : α => #[Value.int .i64 (val x)]) (Below n0) (fun ys => ys = ts.map f) (fun pre => ∃ k, k ≤ ts.length ∧ pre = (ts.take k).map f) ts.length w := by
  have hlow : ∀ W A, Grow w W → Below n0 W A → Below n0 w A := fun W A hg hk => Below.trans (hg.mono hnw) hk
  refine peach_stops val c g h gf fi ca hE (Below n0) a ts cap f w hts (Below.refl n0) (fun A B C h k => h.trans k) (fun W A B hg hk hab => hab.mono (Nat.le_trans hnw (Nat.le_trans hg.size hk.size))) (fun r W W1 hr' hg hk => hof r W1 hr' (hlow W W1 hg hk)) h1 h3 fun W A hg hk => ?_
  have hl := hlow W A hg hk
  refine ⟨(hl.cell (p := ⟨h, 0, none⟩) hh0).trans h2, fun i x hx => ?_⟩
  obtain ⟨b, o, ha, hc⟩ := hr i x hx
  exact ⟨b, o, ha, (hl.cell (p := ⟨b, o + i, none⟩) (hb b o ha)).trans hc⟩
end Go.Proofs.Yteijilbdllpbcaa
namespace Go.Proofs.Yteijilbdllpbcaa
open Go.RowKit

attribute [local go_sem] Oper.semAt_some

/-- What has been collected. -/
def ColI (w : World) (pre : List Int) (W : World) : Prop :=
  ∃ v, W.cell? ⟨w.heap.size, 0, none⟩ = some v ∧ (∀ o, W.frozen? ⟨w.heap.size, o, none⟩ = false) ∧ Own W (w.heap.size + 1) 3 v (pre.map (Value.int .i64)) ∧ Below w.heap.size w W

theorem byBelow' {w a b : World} {row : Option Nat} (h : Below w.heap.size w a) (hg : a.grownBy b row) (hr : ∀ k, row = some k → w.heap.size ≤ k) : Below w.heap.size w b :=
  Below.trans h (grownBy_below hg hr h.size)
set_option maxRecDepth 100000 in
set_option maxHeartbeats 2000000 in
theorem pappendSeq_in (lb : Array Value) (S Sp : List Int → Prop) (N : Nat) (hN : N ≤ 13841287201) (w : World)
    (hseq : SeqStopsK Fence.wide 9 Try.prog 89 lb (fun x : Int => #[Value.int .i64 x]) (Below w.heap.size) S Sp N w) :
    CallsIn Fence.wide 10 Try.prog 94 #[.slice none 0 0, .func (.func 89) #[] lb] w fun e w' => ∃ v xs, e = .returned v ∧ S xs ∧ Own w' w.heap.size 3 v (xs.map (Value.int .i64)) ∧ Grow w w' := by
  obtain ⟨i0, hi0, hi1, hi2, hi3⟩ := info_parts pinfo_int
  have Hseq := Lib.hid hseq
  clear hseq
  refine callsIn_of_wp_marks Try.func94 rfl trivial ?_ rfl
  simp only [Try.ntmps94, List.size_toArray, List.length_cons, List.length_nil, Nat.reduceAdd, Nat.reduceSub, Array.replicate_succ, Array.replicate_zero, List.push_toArray, List.append_toArray, List.nil_append, List.cons_append]
  gi_wp2
  have hE : ∀ args w, (callFunc 89 args).run Try.prog w = .ok (.enter 89 args) w := enters_of Try.func89 (by kernel_rfl) rfl
  have hW0 : (w.alloc (.cells #[.slice none 0 0] 25)).heap.size = w.heap.size + 1 := by simp
  refine wpIn_rangeFunc_ownF rfl (by omega) (gf := 89) (lb := lb) rfl trivial hE Hseq.out belowK_t (belowK_b (by simp)) ((Below.refl _ w).alloc (Nat.le_refl _) _) (fun _ => rfl) (ColI w) (fun _ _ _ => False) ?hI ?hIx ?h0 (fun x => { tmps := #[.slice none 0 0, .func (.func 89) #[] lb, .pointer (some ⟨w.heap.size, 0, none⟩), undef, .slice none 0 0, .int .i64 x, .func (.func 89) #[] lb, .int .i64 x, undef, undef, undef, undef, undef], defers := [] }) ?assign ?body ?done ?stop
  case hI =>
    rintro pre A B row ⟨v, h1, h2, h3, h4⟩ hg hr
    have hne : ∀ b o y, A.cell? ⟨b, o, none⟩ = some y → row ≠ some b := fun b o y hy e => by
      obtain ⟨ob, ho, hoc⟩ := (hr b e).2
      obtain ⟨o', ho', hc'⟩ := cells_of_cell hy
      rw [ho] at ho'
      cases ho'
      rw [hoc] at hc'
      cases hc'
    refine ⟨v, byCell1 hg h1 (hne _ _ _ h1), fun o => (byHot hg (lt_of_cell h1) (hne _ _ _ h1) o).trans (h2 o), h3.kept hg ?_, byBelow' h4 hg fun k hk => by have := (hr k hk).1; simp at this; omega⟩
    by_cases e0 : v.ownBlock = none
    · exact .inl e0
    · refine .inr fun e => ?_
      rcases h3.2 with ⟨rfl, _⟩ | ⟨g9, c9, cur9, rfl, _, hgg, _⟩
      · exact e0 rfl
      · obtain ⟨ob, ho, hoc⟩ := (hr g9 e.symm).2
        rw [hgg] at ho
        cases ho
        cases hoc
  case hIx => exact fun c s A B row hs hg hr => hs
  case h0 => exact ⟨.slice none 0 0, cell_new rfl rfl, fun o => hot_new rfl, Own.nil _ _ _, (Below.refl _ w).alloc (Nat.le_refl _) _⟩
  case assign => intro l x W K hK; gi_wp2; exact hK
  case body =>
    rintro l pre x W ⟨v, h1, h2, h3, h4⟩ hlen
    have hu : Try.prog.underlying 25 = some (.slice 3) := by kernel_rfl
    have hb8 : ((pre.map (Value.int .i64)).length + [Value.int .i64 x].length) * 8 ≤ 140737488355328 := by simp; omega
    have hlt := lt_of_cell h1
    have hvl : (pre.map (Value.int .i64)).length = pre.length := by simp
    gi_wp2_with (gi_at_builtin; refine wpListIn_append_own _ rfl _ _ 25 rfl (w.heap.size + 1) 3 i0 (.int .i64 0) 1 8 hu hi0 hi1 hi2 hi3 rfl (by decide) v _ _ rfl (h3.alloc _) ⟨W.heap.size, 0, none⟩ 1 1 [.int .i64 x] rfl rfl (cell_one_new _ _ _) (by simp [Value.oneCell']) (by simp [maxLen]; omega) (by simp; omega) (by simp; omega) ?_; intro v' w3 hown3 hg3 _; have hown4 : Own w3 (w.heap.size + 1) 3 v' ((pre ++ [x]).map (Value.int .i64)) := (by rw [List.map_append]; simpa [Own] using hown3); obtain ⟨g4, cap4, rfl, _⟩ := hown4.some (n := pre.length + 1) (by simp) (by omega); have hc3 := byCell1 hg3 (((Grow.refl W).alloc (.cells #[.int .i64 x] 3)).keeps h1) (fun e => by have := h3.base _ e; omega); have hf3 : ∀ o, w3.frozen? ⟨w.heap.size, o, none⟩ = false := (fun o => (byHot hg3 (by simp; omega) (fun e => by have := h3.base _ e; omega) o).trans ((((Grow.refl W).alloc _).marks _ _ hlt).trans (h2 o))); have hl3 := lt_of_cell hc3)
    have hbl : Below w.heap.size (W.alloc (.cells #[.int .i64 x] 3)) w3 := grownBy_below hg3 (fun k hk => by have := h3.base k hk; omega) (by simp; omega)
    have hW3 : Below w.heap.size W w3 := Below.trans ((Below.refl _ W).alloc (by omega) _) hbl
    have hko : KeepsOthers W w3 := (KeepsOthers.alloc W _).trans (KeepsOthers.of_grownBy hg3 fun j o hj ho => by
      rcases (h3.alloc (.cells #[.int .i64 x] 3)).2 with ⟨e, _⟩ | ⟨g9, c9, cur9, e, _, hgg, _⟩
      · rw [e] at hj; cases hj
      · rw [e] at hj; cases hj; rw [hgg] at ho; cases ho; rfl)
    refine ⟨hko.trans (KeepsOthers.setCell _ _ _), hW3.setCell (p := ⟨w.heap.size, 0, none⟩) (Nat.le_refl _) _, _, World.cell?_setCell_same' _ _ _ (by rw [hc3]; rfl), fun o => by rw [World.frozen?_setCell]; exact hf3 o, hown4.kept (bySet _ w.heap.size 0 _) (.inr fun e => by have := hown4.base _ e; omega), ?_⟩
    exact (Below.trans h4 hW3).setCell (p := ⟨w.heap.size, 0, none⟩) (Nat.le_refl _) _
  case done =>
    rintro D xs W hD hS ⟨v, h1, h2, h3, h4⟩ hK
    gi_wp2
    refine ⟨by simp, .inl ⟨_, _, rfl, run_takeDeferred hK, ?_⟩⟩
    exact ⟨_, results_tmp rfl _ _ _, v, xs, rfl, hS, Own.lower (ownsRow_putObj h3 _ hK rfl) (Nat.le_succ _), h4.trans (belowK_b (w := w) (Nat.le_refl _) W D _ _ (by simp at hD; omega) hK rfl rfl)⟩
  case stop => rintro D c pre W hD hSp hx; exact hx.elim
end Go.Proofs.Yteijilbdllpbcaa
namespace Go.Proofs.Yteijilbdllpbcaa
open Go.RowKit

def CollPost (w : World) (l : List Int) (e : Ending) (w' : World) : Prop := ∃ v, e = .returned v ∧ Own w' w.heap.size 3 v (l.map (Value.int .i64)) ∧ Grow w w'
theorem pCollect_any (c g h gf : Nat) (fi ca : Array Value) (hE : ∀ args w, (callFunc gf args).run Try.prog w = .ok (.enter gf args) w) (a : Option Addr) (ts : List ByteArray) (cap : Nat) (f : ByteArray → Int) (w : World)
    (hts : ts.length ≤ 13841287201)
    (hof : ∀ r W1, r ∈ ts → Grow w W1 → Calls Try.prog gf (fi ++ #[.string r] ++ ca) W1 fun e W' => e = .returned (.int .i64 (f r)) ∧ Grow W1 W')
    (h1 : w.cell? ⟨g, 0, none⟩ = some (.pointer (some ⟨c, 0, none⟩))) (h2 : w.cell? ⟨h, 0, none⟩ = some (.func (.func gf) fi ca))
    (h3 : w.cell? ⟨c, 1, none⟩ = some (.slice a ts.length cap)) (hr : RowAt w a (ts.map Value.string)) (hne : ts ≠ []) :
    Calls Try.prog 85 #[.func (.func 89) #[] #[.pointer (some ⟨g, 0, none⟩), .pointer (some ⟨h, 0, none⟩)]] w (CollPost w (ts.map f)) := by
  have hb : ∀ b o, a = some ⟨b, o, none⟩ → b < w.heap.size := by
    intro b o ha
    cases ts with
    | nil => exact absurd rfl hne
    | cons x l =>
      obtain ⟨b', o', ha', hc'⟩ := hr 0 (.string x) rfl
      rw [ha] at ha'; cases ha'
      exact lt_of_cell hc'
  have hc := callsIn_wide.1 (pappendSeq_in _ _ _ ts.length hts w (peach_below (fun x : Int => x) c g h gf fi ca hE w.heap.size a ts cap f w hts (lt_of_cell h2) (Nat.le_refl _) hof h1 h2 h3 hr hb))
  have Hc := Lib.hid hc
  clear hc hof h1 h2 h3 hr hb hE
  go_enter Try.func85, Try.ntmps85
  go_wp2_with (go_at_call 94; refine Hc.out.mono ?_; rintro e w1 ⟨v, xs, rfl, hxs, hv, hg⟩)
  go_ret
  exact ⟨v, rfl, by rw [← hxs]; exact hv, hg⟩
theorem pspan_any (c gf : Nat) (fi ca : Array Value) (hE : ∀ args w, (callFunc gf args).run Try.prog w = .ok (.enter gf args) w) (a : Option Addr) (ts : List ByteArray) (cap : Nat) (f : ByteArray → Int) (w : World)
    (hts : ts.length ≤ 13841287201)
    (hof : ∀ r W1, r ∈ ts → Grow w W1 → Calls Try.prog gf (fi ++ #[.string r] ++ ca) W1 fun e W' => e = .returned (.int .i64 (f r)) ∧ Grow W1 W')
    (h3 : w.cell? ⟨c, 1, none⟩ = some (.slice a ts.length cap)) (hr : RowAt w a (ts.map Value.string)) (hne : ts ≠ []) :
    Calls Try.prog 57 #[.pointer (some ⟨c, 0, none⟩), .func (.func gf) fi ca] w fun e w' => e = .returned (.agg #[.int .i64 (minL (ts.map f)), .int .i64 (maxL (ts.map f))]) ∧ Grow w w' := by
  have Hof := Lib.hid hof
  have Hr := Lib.hid hr
  have HE := Lib.hid hE
  have H3 := Lib.hid h3
  have Hne := Lib.hid hne
  have hlen : (ts.map f).length = ts.length := by simp
  have Hlen := Lib.hid hlen
  have hpos : Hid (0 < (ts.map f).length) := by show _ < _; cases ts with
    | nil => exact absurd rfl hne
    | cons x l => simp
  obtain ⟨L, hL⟩ : ∃ L, ts.map f = L := ⟨_, rfl⟩
  have HL := Lib.hid hL
  rw [hL] at hpos Hlen ⊢
  clear hof hr hE h3 hne hL hlen
  go_enter Try.func57, Try.ntmps57
  go_wp2_with first | (go_at_call 64; refine (peach_any c _ _ _ _).mono ?_; rintro e w1 ⟨g, h, rfl, hg1, hh1, hw1⟩; have hG1 : Grow w w1 := ((Grow.refl w).alloc _).trans hw1; have Hg1 := Lib.hid hg1; have Hh1 := Lib.hid hh1; clear hg1 hh1) | (go_at_call 85; refine (pCollect_any c g h gf fi ca HE.out a ts cap f w1 hts (fun r W1 hr1 hW1 => Hof.out r W1 hr1 (hG1.trans hW1)) Hg1.out Hh1.out (hG1.keeps H3.out) (Hr.out.grow hG1) Hne.out).mono ?_; rintro e w2 ⟨v, rfl, hv, hg2⟩; rw [HL.out] at hv; have hI := hv.ints (by rw [Hlen.out]; omega); have HI := Lib.hid hI; have Hv := Lib.hid hv; have hG2 := hG1.trans hg2; clear hv hI; have hR0 : w2.cell? ⟨w.heap.size, 0, none⟩ = some (.int .i64 0) := hg2.keeps (hw1.keeps (cell_new rfl rfl)); have hR1 : w2.cell? ⟨w.heap.size, 1, none⟩ = some (.int .i64 0) := hg2.keeps (hw1.keeps (cell_new rfl rfl)); have hRf : ∀ o, w2.frozen? ⟨w.heap.size, o, none⟩ = false := (fun o => (hg2.marks _ _ (lt_of_cell (hw1.keeps (cell_new (o := 0) rfl rfl)))).trans ((hw1.marks _ _ (by simp)).trans (hot_new rfl)))) | (go_at_call 86; refine (pMin_any v L _ HI.out hpos.out).mono ?_; rintro e w3 ⟨rfl, rfl⟩) | (go_at_call 87; refine (pMax_any v L _ HI.out hpos.out).mono ?_; rintro e w4 ⟨rfl, rfl⟩)
  obtain ⟨q0, q1, _, _⟩ := cells2 (x := .int .i64 (minL L)) (y := .int .i64 (maxL L)) hR0 hR1
  exact bodyPost_ret (v := .agg #[.int .i64 (minL L), .int .i64 (maxL L)]) (by simp [results, Try.results57, go_sem, q0, q1]) rfl ⟨rfl, (Below.setCell (p := ⟨w.heap.size, 0, none⟩) hG2 (by simp) _).setCell (p := ⟨w.heap.size, 1, none⟩) (by simp) _⟩
end Go.Proofs.Yteijilbdllpbcaa
