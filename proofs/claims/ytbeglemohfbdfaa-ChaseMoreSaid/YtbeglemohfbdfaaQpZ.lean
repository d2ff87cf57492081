/- The program of layer 7: Cut. Conditions: sizes. -/
import Derived.Test.YtbeglemohfbdfaaQpY
import Derived.Test.YtbeglemohfbdfaaLibR
import Derived.Deep.DeepCutAuto
namespace Go.Proofs.Ytbeglemohfbdfaa
open Go.RowKit Go.Instr

/-- Two lists that grow beside each other. -/
def XY (V : World) (D : Nat) (xv : Value) (xs : List Int) (yv : Value) (ys : List Int) : Prop :=
  Own V D 3 xv (xs.map (Value.int .i64)) ∧ Own V D 3 yv (ys.map (Value.int .i64)) ∧ ∀ b, xv.ownBlock = some b → yv.ownBlock ≠ some b
theorem XY.nil (V : World) (D : Nat) : XY V D (.slice none 0 0) [] (.slice none 0 0) [] := ⟨Own.nil _ _ _, Own.nil _ _ _, fun b h => by simp [Value.ownBlock] at h⟩
theorem XY.grow {V V' : World} {D : Nat} {xv yv : Value} {xs ys : List Int} (h : XY V D xv xs yv ys) (hg : Grow V V') : XY V' D xv xs yv ys := ⟨h.1.grow hg, h.2.1.grow hg, h.2.2⟩
theorem XY.pushX {V V' : World} {D : Nat} {xv xv' yv : Value} {xs ys xs' : List Int} (h : XY V D xv xs yv ys) (hg : V.grownBy V' xv.ownBlock) (hm : Moves V xv xv') (ho : Own V' D 3 xv' (xs'.map (Value.int .i64))) : XY V' D xv' xs' yv ys := by
  refine ⟨ho, h.2.1.kept hg ?_, fun b hb e => ?_⟩
  · cases hx : xv.ownBlock with
    | none => cases yv.ownBlock <;> simp
    | some b => exact .inr (h.2.2 b hx)
  · rcases hm with hm | hm
    · exact h.2.2 b (by rw [← hm]; exact hb) e
    · have k1 := hm b hb
      have k2 := (h.2.1.lt b e).2
      omega
theorem XY.pushY {V V' : World} {D : Nat} {xv yv yv' : Value} {xs ys ys' : List Int} (h : XY V D xv xs yv ys) (hg : V.grownBy V' yv.ownBlock) (hm : Moves V yv yv') (ho : Own V' D 3 yv' (ys'.map (Value.int .i64))) : XY V' D xv xs yv' ys' := by
  refine ⟨h.1.kept hg ?_, ho, fun b hb e => ?_⟩
  · cases hx : xv.ownBlock with
    | none => exact .inl rfl
    | some b => exact .inr fun e => h.2.2 b hx e.symm
  · rcases hm with hm | hm
    · exact h.2.2 b hb (by rw [← hm]; exact e)
    · have k1 := hm b e
      have k2 := (h.1.lt b hb).2
      omega
/-- A new array of one element beside both. -/
def EX (V : World) (xv yv : Value) (g : Nat) (x : Value) : Prop := V.cell? ⟨g, 0, none⟩ = some x ∧ xv.ownBlock ≠ some g ∧ yv.ownBlock ≠ some g
theorem EX.new {V : World} {D g : Nat} {xv yv x : Value} {xs ys : List Int} {e : TypeId} (hg : g = V.heap.size) (h : XY V D xv xs yv ys) : EX (V.alloc (.cells #[x] e)) xv yv g x :=
  ⟨cell_new hg rfl, h.1.ne (by omega), h.2.1.ne (by omega)⟩
theorem EX.grow {V V' : World} {g : Nat} {xv yv x : Value} (h : EX V xv yv g x) (hg : Grow V V') : EX V' xv yv g x := ⟨hg.keeps h.1, h.2⟩
theorem EX.pushX {V V' : World} {g : Nat} {xv xv' yv x : Value} (h : EX V xv yv g x) (hg : V.grownBy V' xv.ownBlock) (hm : Moves V xv xv') : EX V' xv' yv g x :=
  ⟨byCell1 hg h.1 h.2.1, fun e => by
    rcases hm with hm | hm
    · exact h.2.1 (by rw [← hm]; exact e)
    · have k1 := hm g e
      have k2 := lt_of_cell h.1
      omega, h.2.2⟩
theorem EX.row {V : World} {g : Nat} {xv yv x : Value} (h : EX V xv yv g x) : RowAt V (some ⟨g, 0, none⟩) [x] := fun i y hy => by
  cases i with
  | zero => simp at hy; subst hy; exact ⟨g, 0, rfl, h.1⟩
  | succ i => simp at hy

/-- What Cut comes to. -/
def cutV (ks : List (Int × Int)) (F : Int) : Int × Int := (kthV (ks.map (·.1)) (F - 1).toNat, kthV (ks.map (·.2)) (F - 1).toNat)
def cutE (E F : Int) (ss : List (List Int)) : Int × Int := if errOf E F ss true = 0 then cutV (clocksOf E ss) F else (0, 0)
theorem cutE_bad {E F c : Int} {ss : List (List Int)} (h : errOf E F ss true = c) (h0 : c ≠ 0) : cutE E F ss = (0, 0) := if_neg (by rw [h]; exact h0)
theorem cutE_ok {E F : Int} {ss : List (List Int)} (h : errOf E F ss true = 0) : cutE E F ss = cutV (clocksOf E ss) F := if_pos h
set_option maxRecDepth 100000 in
set_option maxHeartbeats 2000000 in
theorem pCut_any (E F : Int) (v : Value) (ss : List (List Int)) (w : World) (hv : IsSheets w v ss) :
    Calls Try.prog 23 #[.agg #[.int .i64 E, .int .i64 F, v]] w fun e w' => e = .returned (.tuple #[.agg #[.int .i64 (cutE E F ss).1, .int .i64 (cutE E F ss).2], .int .i64 (errOf E F ss true)]) ∧ Grow w w' := by
  have hmf : ∀ (fn : Fn) (first cap : Array Value) (w : World), (Instr.makeFunc fn first cap).run Try.prog w = .ok (.func fn first cap) w := fun _ _ _ _ => rfl
  obtain ⟨a, cap, rfl, hcap, hlen, hrow⟩ := id hv
  have Hv := Lib.hid hv
  obtain ⟨cd, hcd⟩ : ∃ cd, errOf E F ss true = cd := ⟨_, rfl⟩
  obtain ⟨tv, htv⟩ : ∃ tv, cutE E F ss = tv := ⟨_, rfl⟩
  rw [hcd, htv]
  have Hcd := Lib.hid hcd
  have Htv := Lib.hid htv
  clear hcd htv hv hrow
  have dead : ∀ (W V : World) (W1 W2 : Nat) (c : Int) (T : Array Value), Grow w W → w.heap.size ≤ W1 → w.heap.size ≤ W2 → W1 ≠ W2 → W.cell? ⟨W1, 0, none⟩ = some (.int .i64 0) → W.cell? ⟨W1, 1, none⟩ = some (.int .i64 0) → W.cell? ⟨W2, 0, none⟩ = some (.int .i64 0) → (∀ o, W.frozen? ⟨W2, o, none⟩ = false) → Grow W V → errOf E F ss true = c → c ≠ 0 → T[2]?.getD undef = .pointer (some ⟨W1, 0, none⟩) → T[3]?.getD undef = .pointer (some ⟨W2, 0, none⟩) →
      Leaves Try.prog Try.f23 T (fun e w' => e = .returned (.tuple #[.agg #[.int .i64 tv.1, .int .i64 tv.2], .int .i64 cd]) ∧ Grow w w') [{ target := .fn (.func 56) #[.pointer (some ⟨W2, 0, none⟩)], args := #[] }] (.panicking (refusal c)) V := by
    intro W V W1 W2 c T hgW hW1 hW2 hne hW10 hW11 hW20 hWf2 hg hce hc0 h4 h5
    have hc1 := hg.keeps hW20
    have hf1 : ∀ o, V.frozen? ⟨W2, o, none⟩ = false := fun o => (hg.marks _ _ (lt_of_cell hW20)).trans (hWf2 o)
    have ht : tv = (0, 0) := by rw [← Htv.out]; exact cutE_bad hce hc0
    have hcc : cd = c := by rw [← Hcd.out]; exact hce
    subst ht hcc
    unfold refusal
    refine leaves_cons (f := 56) (args := #[.pointer (some ⟨W2, 0, none⟩)]) (by simp) (by simp [go_sem]) ?_
    refine (pdefCut_panic W2 cd [] V hc1 hf1).mono ?_
    rintro e u' w'' ⟨rfl, rfl, q1, q2⟩
    have hG : Grow w w'' := Below.trans (hgW.trans hg) (grownBy_below q2 (by intro k hk; injection hk with hk; omega) (hgW.trans hg).size)
    have q3 := byCell1 q2 (hg.keeps hW10) (by intro e; injection e with e; omega)
    have q4 := byCell1 q2 (hg.keeps hW11) (by intro e; injection e with e; omega)
    simp [Leaves, settle, results, Try.results23, go_sem, h4, h5, q1, q3, q4]
    exact hG
  go_enter_defers Try.func23, Try.ntmps23
  go_wp2_with fail
  obtain ⟨W, hW⟩ : ∃ W, W = (((w.alloc (.cells #[.int .i64 E, .int .i64 F, .slice a ss.length cap] 32)).alloc (.cells #[.int .i64 0, .int .i64 0] 23)).alloc (.cells #[.int .i64 0] 27)) := ⟨_, rfl⟩
  have hgW : Grow w W := by rw [hW]; exact ((((Grow.refl w).alloc _).alloc _).alloc _)
  have hW00 : W.cell? ⟨w.heap.size, 0, none⟩ = some (.int .i64 E) := by rw [hW]; exact Grow.keepA (Grow.keepA (cell_new (by simp) rfl) _) _
  have hW01 : W.cell? ⟨w.heap.size, 1, none⟩ = some (.int .i64 F) := by rw [hW]; exact Grow.keepA (Grow.keepA (cell_new (by simp) rfl) _) _
  have hW02 : W.cell? ⟨w.heap.size, 2, none⟩ = some (.slice a ss.length cap) := by rw [hW]; exact Grow.keepA (Grow.keepA (cell_new (by simp) rfl) _) _
  have hWf0 : ∀ o, W.frozen? ⟨w.heap.size, o, none⟩ = false := by intro o; rw [hW]; exact (((Grow.refl _).alloc _).marks _ _ (by simp <;> omega)).trans ((((Grow.refl _).alloc _).marks _ _ (by simp <;> omega)).trans (hot_new (by simp)))
  have hWl0 : w.heap.size < W.heap.size := by rw [hW]; simp; try omega
  have hW10 : W.cell? ⟨w.heap.size + 1, 0, none⟩ = some (.int .i64 0) := by rw [hW]; exact Grow.keepA (cell_new (by simp) rfl) _
  have hW11 : W.cell? ⟨w.heap.size + 1, 1, none⟩ = some (.int .i64 0) := by rw [hW]; exact Grow.keepA (cell_new (by simp) rfl) _
  have hWf1 : ∀ o, W.frozen? ⟨w.heap.size + 1, o, none⟩ = false := by intro o; rw [hW]; exact (((Grow.refl _).alloc _).marks _ _ (by simp <;> omega)).trans (hot_new (by simp))
  have hWl1 : w.heap.size + 1 < W.heap.size := by rw [hW]; simp; try omega
  have hW20 : W.cell? ⟨w.heap.size + 1 + 1, 0, none⟩ = some (.int .i64 0) := by rw [hW]; exact cell_new (by simp) rfl
  have hWf2 : ∀ o, W.frozen? ⟨w.heap.size + 1 + 1, o, none⟩ = false := by intro o; rw [hW]; exact hot_new (by simp)
  have hWl2 : w.heap.size + 1 + 1 < W.heap.size := by rw [hW]; simp; try omega
  rw [← hW]
  clear hW
  have hWd : ∀ n, (W.drewN n).heap.size = W.heap.size := fun _ => rfl
  have hWq : ∀ n o b j, b < W.heap.size → ((W.drewN n).alloc o).cell? ⟨b, j, none⟩ = W.cell? ⟨b, j, none⟩ := cell_drewN_alloc W
  have hWr : ∀ n o b j, b < W.heap.size → ((W.drewN n).alloc o).frozen? ⟨b, j, none⟩ = W.frozen? ⟨b, j, none⟩ := hot_drewN_alloc W
  have hWb0 : w.heap.size ≤ w.heap.size := by omega
  have hWb1 : w.heap.size ≤ w.heap.size + 1 := by omega
  have hWn01 : w.heap.size ≠ w.heap.size + 1 := by omega
  have hWn10 : w.heap.size + 1 ≠ w.heap.size := by omega
  have hWb2 : w.heap.size ≤ w.heap.size + 1 + 1 := by omega
  have hWn02 : w.heap.size ≠ w.heap.size + 1 + 1 := by omega
  have hWn20 : w.heap.size + 1 + 1 ≠ w.heap.size := by omega
  have hWn12 : w.heap.size + 1 ≠ w.heap.size + 1 + 1 := by omega
  have hWn21 : w.heap.size + 1 + 1 ≠ w.heap.size + 1 := by omega
  obtain ⟨W2, hWe2⟩ : ∃ g, w.heap.size + 1 + 1 = g := ⟨_, rfl⟩
  rw [hWe2] at hW20 hWf2 hWl2 hWb2 hWn20 hWn21 hWn02 hWn12
  (try rw [hWe2])
  have hWk2 := Lib.hid hWe2
  clear hWe2
  obtain ⟨W1, hWe1⟩ : ∃ g, w.heap.size + 1 = g := ⟨_, rfl⟩
  rw [hWe1] at hW10 hW11 hWf1 hWl1 hWb1 hWn10 hWn12 hWn01 hWn21
  (try rw [hWe1])
  have hWk1 := Lib.hid hWe1
  clear hWe1
  obtain ⟨W0, hWe0⟩ : ∃ g, w.heap.size = g := ⟨_, rfl⟩
  have hWb0 : w.heap.size ≤ W0 := by omega
  rw [hWe0] at hW00 hW01 hW02 hWf0 hWl0 hWn01 hWn02 hWn10 hWn20
  (try rw [hWe0])
  have hWk0 := Lib.hid hWe0
  clear hWe0
  refine (popen E F _ ss true _ (Hv.out.grow hgW)).mono ?_
  rintro e w2 ⟨hg2, hbad, hok⟩
  rcases Decidable.em (codeO E F ss true = 0) with hc | hc
  · obtain ⟨c, rfl, hch, hcw, hcn⟩ := hok hc
    have Hc := Lib.hid hc
    have Hch := Lib.hid hch
    have hlen6 : (clocksOf E ss).length ≤ 6 := by rw [clocks_len]; exact valid_len hc
    clear hc hch hok hbad
    cases hfe : feasB (clocksOf E ss)
    · have Hfe := Lib.hid hfe
      clear hfe
      go_wp2_with (go_at_call 40; refine (ptold_no c F _ _ Hch.out Hfe.out (by omega)).mono ?_; rintro e w3 ⟨rfl, hg3⟩)
      show Leaves _ _ _ _ _ _ _
      exact dead W w3 W1 W2 10 _ hgW hWb1 hWb2 hWn12 hW10 hW11 hW20 hWf2 (hg2.trans hg3) (errOf_clash Hc.out Hfe.out) (by decide) rfl rfl
    · have Hfe := Lib.hid hfe
      have hbb := clocks_bounds (codeO_parts Hc.out).1
      have he : cd = 0 := by rw [← Hcd.out]; exact errOf_zero Hc.out hfe
      have hFb := (valid_parts (codeO_parts Hc.out).1).2.2.1
      have hcl0 := clocks_len E ss
      obtain ⟨ks, hks⟩ : ∃ ks, clocksOf E ss = ks := ⟨_, rfl⟩
      have hav : tv = cutV ks F := by rw [← Htv.out, cutE_ok (errOf_zero Hc.out hfe), hks]
      have Hav := Lib.hid hav
      rw [hks] at hbb hlen6 hcl0
      have Hbb := Lib.hid hbb
      have Hks := Lib.hid hks
      have hsl : ss.length = ks.length := hcl0.symm
      rw [hsl] at hFb
      subst he
      clear hfe hbb hks hav hcl0
      go_wp2_with (go_at_call 40; refine (ptold_yes c F _ _ Hch.out (feasB_iff.1 Hfe.out) (by rw [Hks.out]; omega)).mono ?_; rintro e w4 ⟨rfl, hg3⟩; have hch5 : ChaseIs w4 c F ks := (by have := Hch.out.grow hg3; rw [Hks.out] at this; exact this); have Hch5 := Lib.hid hch5; obtain ⟨E', sa', sn', sc', a', cap', k0, k1, k2, k3, k4, k5⟩ := hch5; have K5 := Lib.hid k5; clear k5; have hG4 : Grow W w4 := hg2.trans hg3; have hcl := lt_of_cell k3)
      go_loopw [5, 6, 18] (fun xv yv i wr => ∃ k : Nat, k ≤ ks.length ∧ i = .int .i64 k ∧ XY wr w4.heap.size xv ((ks.take k).map (·.1)) yv ((ks.take k).map (·.2)) ∧ Grow w4 wr) (fun _ _ i _ => ks.length - (intOf i).toNat)
      case atStart => exact ⟨0, Nat.zero_le _, rfl, XY.nil _ _, Grow.refl _⟩
      case round =>
        obtain ⟨k, hk, rfl, hxy, hg⟩ := hrel
        have Hxy := Lib.hid hxy
        clear hxy
        by_cases hlt : k < ks.length
        · obtain ⟨b, o, rfl, m1, m2, m3⟩ := K5.out k ks[k] (by simp [hlt])
          obtain ⟨x, hx⟩ : ∃ x, x = ks[k].1 := ⟨_, rfl⟩
          obtain ⟨y, hy⟩ : ∃ y, y = ks[k].2 := ⟨_, rfl⟩
          rw [← hx] at m1
          rw [← hy] at m2
          have hxx := Lib.hid hx
          have hyy := Lib.hid hy
          replace m1 := hg.keeps m1
          replace m2 := hg.keeps m2
          replace m3 := hg.keeps m3
          have hbl := lt_of_cell m1
          clear hx hy
          go_upto_region 7 with fail
          obtain ⟨xs, hxs⟩ : ∃ z, (ks.take k).map (·.1) = z := ⟨_, rfl⟩
          obtain ⟨ys, hys⟩ : ∃ z, (ks.take k).map (·.2) = z := ⟨_, rfl⟩
          have hxy := Hxy.out
          rw [hxs, hys] at hxy
          have hlx : xs.length ≤ 6 := by rw [← hxs]; simp; omega
          have hly : ys.length ≤ 6 := by rw [← hys]; simp; omega
          have e1 : Hid ((ks.take (k + 1)).map (·.1) = xs ++ [x]) := by rw [← hxs, take_get (List.getElem?_eq_getElem hlt), List.map_append, hxx.out]; rfl
          have e2 : Hid ((ks.take (k + 1)).map (·.2) = ys ++ [y]) := by rw [← hys, take_get (List.getElem?_eq_getElem hlt), List.map_append, hyy.out]; rfl
          clear hxs hys
          have hbx : ((xs.map (Value.int .i64)).length + [Value.int .i64 x].length) * 8 ≤ 140737488355328 := by simp; omega
          have hby : ((ys.map (Value.int .i64)).length + [Value.int .i64 y].length) * 8 ≤ 140737488355328 := by simp; omega
          obtain ⟨i0, hi0, hi1, hi2, hi3⟩ := info_parts pinfo_int7
          have hui : Try.prog.underlying 40 = some (.slice 3) := by kernel_rfl
          have hwr := hg.size
          refine named (K := Code.wp _ _ _) ?_
          intro V hV
          have gV : Grow wr V := by rw [hV]; exact (Grow.refl _).alloc _
          have v0 : V.cell? ⟨wr.heap.size, 0, none⟩ = some (.int .i64 x) := by rw [hV]; exact cell_new rfl rfl
          have v1 : V.cell? ⟨wr.heap.size, 1, none⟩ = some (.int .i64 y) := by rw [hV]; exact cell_new rfl rfl
          clear hV
          have hneX : (u5 : Value).ownBlock ≠ some wr.heap.size := hxy.1.ne (Nat.le_refl _)
          have hneY : (u6 : Value).ownBlock ≠ some wr.heap.size := hxy.2.1.ne (Nat.le_refl _)
          replace hxy := hxy.grow gV
          have hgV : Grow w4 V := hg.trans gV
          have hwV := gV.size
          refine wp_panicAt 2 3 (.pointer (some ⟨W1, 0, none⟩)) (.pointer (some ⟨W2, 0, none⟩)) [{ target := .fn (.func 56) #[.pointer (some ⟨W2, 0, none⟩)], args := #[] }] ?_
          refine Left.start (fun Wx => Wx.cell? ⟨wr.heap.size, 0, none⟩ = some (.int .i64 x) ∧ Wx.cell? ⟨wr.heap.size, 1, none⟩ = some (.int .i64 y)) (fun _ => true) (by kernel_rfl) ?_
          refine named (K := Left _ _ _ _ _ _ _ _) ?_
          intro U0 hU0
          have gS : Grow w4 U0 := by rw [hU0]; first | exact (Grow.refl _).drew | exact Grow.drew (by assumption)
          have xy : XY U0 w4.heap.size u5 xs u6 ys := by rw [hU0]; exact hxy.grow (Grow.refl _).drew
          replace v0 := (Grow.refl _).drew.keeps v0
          rw [← hU0] at v0
          replace v1 := (Grow.refl _).drew.keeps v1
          rw [← hU0] at v1
          clear hU0
          refine Left.take 5 (i := 0) (oi := _) (v := ?_) rfl (by kernel_rfl) (by kernel_rfl) (by kernel_rfl) (by kernel_rfl) (by intro _ _ _ h; exact PanicAt.put (by decide) (by decide) h) (Or.inl ⟨by rfl, ?_⟩) (⟨v0, v1⟩) (by kernel_rfl) ?_
          rotate_left
          (focus (intro w hSw; (try dsimp only at hSw); go_simp; (try with_reducible rfl)))
          (try simp only [Act.put, List.setIfInBounds_toArray, List.set_cons_zero, List.set_cons_succ, List.getElem_toArray, List.getElem_cons_zero])
          refine Left.take 5 (i := 1) (oi := _) (v := ?_) rfl (by kernel_rfl) (by kernel_rfl) (by kernel_rfl) (by kernel_rfl) (by intro _ _ _ h; exact PanicAt.put (by decide) (by decide) h) (Or.inl ⟨by rfl, ?_⟩) (⟨v0, v1⟩) (by kernel_rfl) ?_
          rotate_left
          (focus (intro w hSw; (try dsimp only at hSw); go_simp; (try with_reducible rfl)))
          (try simp only [Act.put, List.setIfInBounds_toArray, List.set_cons_zero, List.set_cons_succ, List.getElem_toArray, List.getElem_cons_zero, List.getElem_cons_succ])
          refine Left.take 5 (i := 2) (oi := _) (v := ?_) rfl (by kernel_rfl) (by kernel_rfl) (by kernel_rfl) (by kernel_rfl) (by intro _ _ _ h; exact PanicAt.put (by decide) (by decide) h) (Or.inl ⟨by rfl, ?_⟩) (⟨v0, v1⟩) (by kernel_rfl) ?_
          rotate_left
          (focus (intro w hSw; (try dsimp only at hSw); go_simp; (try with_reducible rfl)))
          (try simp only [Act.put, List.setIfInBounds_toArray, List.set_cons_zero, List.set_cons_succ, List.getElem_toArray, List.getElem_cons_zero, List.getElem_cons_succ])
          refine Left.take 5 (i := 3) (oi := _) (v := ?_) rfl (by kernel_rfl) (by kernel_rfl) (by kernel_rfl) (by kernel_rfl) (by intro _ _ _ h; exact PanicAt.put (by decide) (by decide) h) (Or.inl ⟨by rfl, ?_⟩) (⟨v0, v1⟩) (by kernel_rfl) ?_
          rotate_left
          (focus (intro w hSw; (try dsimp only at hSw); go_simp; (try with_reducible rfl)))
          (try simp only [Act.put, List.setIfInBounds_toArray, List.set_cons_zero, List.set_cons_succ, List.getElem_toArray, List.getElem_cons_zero, List.getElem_cons_succ])
          refine Left.take 5 (i := 6) (oi := _) (v := ?_) rfl (by kernel_rfl) (by kernel_rfl) (by kernel_rfl) (by kernel_rfl) (by intro _ _ _ h; exact PanicAt.put (by decide) (by decide) h) (Or.inl ⟨by rfl, ?_⟩) (⟨v0, v1⟩) (by kernel_rfl) ?_
          rotate_left
          (focus (intro w hSw; (try dsimp only at hSw); go_simp; (try with_reducible rfl)))
          (try simp only [Act.put, List.setIfInBounds_toArray, List.set_cons_zero, List.set_cons_succ, List.getElem_toArray, List.getElem_cons_zero, List.getElem_cons_succ])
          refine Left.take 5 (i := 7) (oi := _) (v := ?_) rfl (by kernel_rfl) (by kernel_rfl) (by kernel_rfl) (by kernel_rfl) (by intro _ _ _ h; exact PanicAt.put (by decide) (by decide) h) (Or.inl ⟨by rfl, ?_⟩) (⟨v0, v1⟩) (by kernel_rfl) ?_
          rotate_left
          (focus (intro w hSw; (try dsimp only at hSw); go_simp; (try with_reducible rfl)))
          (try simp only [Act.put, List.setIfInBounds_toArray, List.set_cons_zero, List.set_cons_succ, List.getElem_toArray, List.getElem_cons_zero, List.getElem_cons_succ])
          refine Left.take 5 (i := 8) (oi := _) (v := ?_) rfl (by kernel_rfl) (by kernel_rfl) (by kernel_rfl) (by kernel_rfl) (by intro _ _ _ h; exact PanicAt.put (by decide) (by decide) h) (Or.inl ⟨by rfl, ?_⟩) (⟨v0, v1⟩) (by kernel_rfl) ?_
          rotate_left
          (focus (intro w hSw; (try dsimp only at hSw); go_simp; (try with_reducible rfl)))
          (try simp only [Act.put, List.setIfInBounds_toArray, List.set_cons_zero, List.set_cons_succ, List.getElem_toArray, List.getElem_cons_zero, List.getElem_cons_succ])
          refine Left.take 5 (i := 9) (oi := _) (v := ?_) rfl (by kernel_rfl) (by kernel_rfl) (by kernel_rfl) (by kernel_rfl) (by intro _ _ _ h; exact PanicAt.put (by decide) (by decide) h) (Or.inl ⟨by rfl, ?_⟩) (⟨v0, v1⟩) (by kernel_rfl) ?_
          rotate_left
          (focus (intro w hSw; (try dsimp only at hSw); go_simp; (try with_reducible rfl)))
          (try simp only [Act.put, List.setIfInBounds_toArray, List.set_cons_zero, List.set_cons_succ, List.getElem_toArray, List.getElem_cons_zero, List.getElem_cons_succ])
          refine Left.ready (rs := [4, 10]) (by kernel_rfl) (by simp) ?_
          refine (LeftAll.cons (o := _) rfl (fun K hK => ?_) (LeftAll.cons (o := _) rfl (fun K hK => ?_) LeftAll.nil))
          · (try simp only [List.getElem_toArray, List.getElem_cons_zero, List.getElem_cons_succ])
            (try go_simp)
            (try (go_wp2_with fail))
            refine named ?_
            intro U1 hU
            have gU : Grow U0 U1 := by rw [hU]; exact (Grow.refl _).alloc _
            have ex : EX U1 u5 u6 U0.heap.size (.int .i64 x) := by rw [hU]; exact EX.new rfl xy
            replace xy := xy.grow gU
            replace gS := gS.trans gU
            clear hU
            replace v0 := gU.keeps v0
            replace v1 := gU.keeps v1
            refine hK.out _ _ (fun _ => ⟨v0, v1⟩) ?_
            clear hK K
            (try simp only [Act.put, List.setIfInBounds_toArray, List.set_cons_zero, List.set_cons_succ, List.getElem_toArray, List.getElem_cons_zero, List.getElem_cons_succ])
            refine Left.ready (rs := [5, 10]) (by kernel_rfl) (by simp) ?_
            refine (LeftAll.cons (o := _) rfl (fun K hK => ?_) (LeftAll.cons (o := _) rfl (fun K hK => ?_) LeftAll.nil))
            · (try simp only [List.getElem_toArray, List.getElem_cons_zero, List.getElem_cons_succ])
              have hDV : w4.heap.size ≤ U1.heap.size := by have := gS.size; omega
              refine (if_pos (by rfl)).mpr ?_
              refine wp_app (.tmp 22) (.tmp 26) 40 rfl w4.heap.size 3 i0 _ 8 hui hi0 hi1 hi2 hi3 rfl u5 (xs.map (Value.int .i64)) (by rfl) xy.1 (some ⟨U0.heap.size, 0, none⟩) 1 [.int .i64 x] 1 (by rfl) rfl (fun h => nomatch h) ex.row (by simp [Value.oneCell']) hbx (by omega) hDV ?_
              intro x3 U2 ho hgr hm
              replace gS : Grow w4 U2 := Below.trans gS (grownBy_below hgr (fun k hk => by have := xy.1.base k hk; omega) gS.size)
              replace v0 := byCell1 hgr v0 hneX
              replace v1 := byCell1 hgr v1 hneX
              replace xy := xy.pushX (xs' := xs ++ [x]) hgr hm (by rw [List.map_append]; exact ho)
              clear ho hgr hm hDV ex
              refine hK.out _ _ (fun _ => ⟨v0, v1⟩) ?_
              clear hK K
              (try simp only [Act.put, List.setIfInBounds_toArray, List.set_cons_zero, List.set_cons_succ])
              refine Left.ready (rs := [10]) (by kernel_rfl) (by simp) ?_
              refine (LeftAll.cons (o := _) rfl (fun K hK => ?_) LeftAll.nil)
              · (try simp only [List.getElem_toArray, List.getElem_cons_zero, List.getElem_cons_succ])
                (try go_simp)
                (try (go_wp2_with fail))
                refine named ?_
                intro U3 hU
                have gU : Grow U2 U3 := by rw [hU]; exact (Grow.refl _).alloc _
                have ey : EX U3 x3 u6 U2.heap.size (.int .i64 y) := by rw [hU]; exact EX.new rfl xy
                replace xy := xy.grow gU
                replace gS := gS.trans gU
                clear hU
                replace v0 := gU.keeps v0
                replace v1 := gU.keeps v1
                refine hK.out _ _ (fun _ => ⟨v0, v1⟩) ?_
                clear hK K
                (try simp only [Act.put, List.setIfInBounds_toArray, List.set_cons_zero, List.set_cons_succ, List.getElem_toArray, List.getElem_cons_zero, List.getElem_cons_succ])
                refine Left.ready (rs := [11]) (by kernel_rfl) (by simp) ?_
                refine (LeftAll.cons (o := _) rfl (fun K hK => ?_) LeftAll.nil)
                · (try simp only [List.getElem_toArray, List.getElem_cons_zero, List.getElem_cons_succ])
                  have hDV : w4.heap.size ≤ U3.heap.size := by have := gS.size; omega
                  refine (if_pos (by rfl)).mpr ?_
                  refine wp_app (.tmp 28) (.tmp 32) 40 rfl w4.heap.size 3 i0 _ 8 hui hi0 hi1 hi2 hi3 rfl u6 (ys.map (Value.int .i64)) (by rfl) xy.2.1 (some ⟨U2.heap.size, 0, none⟩) 1 [.int .i64 y] 1 (by rfl) rfl (fun h => nomatch h) ey.row (by simp [Value.oneCell']) hby (by omega) hDV ?_
                  intro y3 U4 ho hgr hm
                  replace gS : Grow w4 U4 := Below.trans gS (grownBy_below hgr (fun k hk => by have := xy.2.1.base k hk; omega) gS.size)
                  replace v0 := byCell1 hgr v0 hneY
                  replace v1 := byCell1 hgr v1 hneY
                  replace xy := xy.pushY (ys' := ys ++ [y]) hgr hm (by rw [List.map_append]; exact ho)
                  clear ho hgr hm hDV ey
                  refine hK.out _ _ (fun _ => ⟨v0, v1⟩) ?_
                  clear hK K
                  (try simp only [Act.put, List.setIfInBounds_toArray, List.set_cons_zero, List.set_cons_succ])
                  refine Left.take 5 (i := 12) (oi := _) (v := ?_) rfl (by kernel_rfl) (by kernel_rfl) (by kernel_rfl) (by kernel_rfl) (by intro _ _ _ h; exact PanicAt.put (by decide) (by decide) h) (Or.inl ⟨by rfl, ?_⟩) (⟨v0, v1⟩) (by kernel_rfl) ?_
                  rotate_left
                  (focus (intro w hSw; (try dsimp only at hSw); go_simp; (try with_reducible rfl)))
                  (try simp only [Act.put, List.setIfInBounds_toArray, List.set_cons_zero, List.set_cons_succ, List.getElem_toArray, List.getElem_cons_zero, List.getElem_cons_succ])
                  refine Left.take 5 (i := 13) (oi := _) (v := ?_) rfl (by kernel_rfl) (by kernel_rfl) (by kernel_rfl) (by kernel_rfl) (by intro _ _ _ h; exact PanicAt.put (by decide) (by decide) h) (Or.inl ⟨by rfl, ?_⟩) (⟨v0, v1⟩) (by kernel_rfl) ?_
                  rotate_left
                  (focus (intro w hSw; (try dsimp only at hSw); go_simp; (try with_reducible rfl)))
                  (try simp only [Act.put, List.setIfInBounds_toArray, List.set_cons_zero, List.set_cons_succ, List.getElem_toArray, List.getElem_cons_zero, List.getElem_cons_succ])
                  refine Left.done (by kernel_rfl) ?_ _
                  simp only [PanicAt]
                  go_wp2_with fail
                  exact ⟨⟨k + 1, by omega, by go_num, by rw [e1.out, e2.out]; exact xy, gS⟩, by simp [intOf]; omega⟩
            · (try simp only [List.getElem_toArray, List.getElem_cons_zero, List.getElem_cons_succ])
              (try go_simp)
              (try (go_wp2_with fail))
              refine named ?_
              intro U5 hU
              have gU : Grow U1 U5 := by rw [hU]; exact (Grow.refl _).alloc _
              have ey : EX U5 u5 u6 U1.heap.size (.int .i64 y) := by rw [hU]; exact EX.new rfl xy
              replace xy := xy.grow gU
              replace gS := gS.trans gU
              clear hU
              replace v0 := gU.keeps v0
              replace v1 := gU.keeps v1
              replace ex := ex.grow gU
              refine hK.out _ _ (fun _ => ⟨v0, v1⟩) ?_
              clear hK K
              (try simp only [Act.put, List.setIfInBounds_toArray, List.set_cons_zero, List.set_cons_succ, List.getElem_toArray, List.getElem_cons_zero, List.getElem_cons_succ])
              refine Left.ready (rs := [5]) (by kernel_rfl) (by simp) ?_
              refine (LeftAll.cons (o := _) rfl (fun K hK => ?_) LeftAll.nil)
              · (try simp only [List.getElem_toArray, List.getElem_cons_zero, List.getElem_cons_succ])
                have hDV : w4.heap.size ≤ U5.heap.size := by have := gS.size; omega
                refine (if_pos (by rfl)).mpr ?_
                refine wp_app (.tmp 22) (.tmp 26) 40 rfl w4.heap.size 3 i0 _ 8 hui hi0 hi1 hi2 hi3 rfl u5 (xs.map (Value.int .i64)) (by rfl) xy.1 (some ⟨U0.heap.size, 0, none⟩) 1 [.int .i64 x] 1 (by rfl) rfl (fun h => nomatch h) ex.row (by simp [Value.oneCell']) hbx (by omega) hDV ?_
                intro x3 U6 ho hgr hm
                replace gS : Grow w4 U6 := Below.trans gS (grownBy_below hgr (fun k hk => by have := xy.1.base k hk; omega) gS.size)
                replace ey := ey.pushX hgr hm
                replace v0 := byCell1 hgr v0 hneX
                replace v1 := byCell1 hgr v1 hneX
                replace xy := xy.pushX (xs' := xs ++ [x]) hgr hm (by rw [List.map_append]; exact ho)
                clear ho hgr hm hDV ex
                refine hK.out _ _ (fun _ => ⟨v0, v1⟩) ?_
                clear hK K
                (try simp only [Act.put, List.setIfInBounds_toArray, List.set_cons_zero, List.set_cons_succ])
                refine Left.ready (rs := [11]) (by kernel_rfl) (by simp) ?_
                refine (LeftAll.cons (o := _) rfl (fun K hK => ?_) LeftAll.nil)
                · (try simp only [List.getElem_toArray, List.getElem_cons_zero, List.getElem_cons_succ])
                  have hDV : w4.heap.size ≤ U6.heap.size := by have := gS.size; omega
                  refine (if_pos (by rfl)).mpr ?_
                  refine wp_app (.tmp 28) (.tmp 32) 40 rfl w4.heap.size 3 i0 _ 8 hui hi0 hi1 hi2 hi3 rfl u6 (ys.map (Value.int .i64)) (by rfl) xy.2.1 (some ⟨U1.heap.size, 0, none⟩) 1 [.int .i64 y] 1 (by rfl) rfl (fun h => nomatch h) ey.row (by simp [Value.oneCell']) hby (by omega) hDV ?_
                  intro y3 U7 ho hgr hm
                  replace gS : Grow w4 U7 := Below.trans gS (grownBy_below hgr (fun k hk => by have := xy.2.1.base k hk; omega) gS.size)
                  replace v0 := byCell1 hgr v0 hneY
                  replace v1 := byCell1 hgr v1 hneY
                  replace xy := xy.pushY (ys' := ys ++ [y]) hgr hm (by rw [List.map_append]; exact ho)
                  clear ho hgr hm hDV ey
                  refine hK.out _ _ (fun _ => ⟨v0, v1⟩) ?_
                  clear hK K
                  (try simp only [Act.put, List.setIfInBounds_toArray, List.set_cons_zero, List.set_cons_succ])
                  refine Left.take 5 (i := 12) (oi := _) (v := ?_) rfl (by kernel_rfl) (by kernel_rfl) (by kernel_rfl) (by kernel_rfl) (by intro _ _ _ h; exact PanicAt.put (by decide) (by decide) h) (Or.inl ⟨by rfl, ?_⟩) (⟨v0, v1⟩) (by kernel_rfl) ?_
                  rotate_left
                  (focus (intro w hSw; (try dsimp only at hSw); go_simp; (try with_reducible rfl)))
                  (try simp only [Act.put, List.setIfInBounds_toArray, List.set_cons_zero, List.set_cons_succ, List.getElem_toArray, List.getElem_cons_zero, List.getElem_cons_succ])
                  refine Left.take 5 (i := 13) (oi := _) (v := ?_) rfl (by kernel_rfl) (by kernel_rfl) (by kernel_rfl) (by kernel_rfl) (by intro _ _ _ h; exact PanicAt.put (by decide) (by decide) h) (Or.inl ⟨by rfl, ?_⟩) (⟨v0, v1⟩) (by kernel_rfl) ?_
                  rotate_left
                  (focus (intro w hSw; (try dsimp only at hSw); go_simp; (try with_reducible rfl)))
                  (try simp only [Act.put, List.setIfInBounds_toArray, List.set_cons_zero, List.set_cons_succ, List.getElem_toArray, List.getElem_cons_zero, List.getElem_cons_succ])
                  refine Left.done (by kernel_rfl) ?_ _
                  simp only [PanicAt]
                  go_wp2_with fail
                  exact ⟨⟨k + 1, by omega, by go_num, by rw [e1.out, e2.out]; exact xy, gS⟩, by simp [intOf]; omega⟩
          · (try simp only [List.getElem_toArray, List.getElem_cons_zero, List.getElem_cons_succ])
            (try go_simp)
            (try (go_wp2_with fail))
            refine named ?_
            intro U8 hU
            have gU : Grow U0 U8 := by rw [hU]; exact (Grow.refl _).alloc _
            have ey : EX U8 u5 u6 U0.heap.size (.int .i64 y) := by rw [hU]; exact EX.new rfl xy
            replace xy := xy.grow gU
            replace gS := gS.trans gU
            clear hU
            replace v0 := gU.keeps v0
            replace v1 := gU.keeps v1
            refine hK.out _ _ (fun _ => ⟨v0, v1⟩) ?_
            clear hK K
            (try simp only [Act.put, List.setIfInBounds_toArray, List.set_cons_zero, List.set_cons_succ, List.getElem_toArray, List.getElem_cons_zero, List.getElem_cons_succ])
            refine Left.ready (rs := [4]) (by kernel_rfl) (by simp) ?_
            refine (LeftAll.cons (o := _) rfl (fun K hK => ?_) LeftAll.nil)
            · (try simp only [List.getElem_toArray, List.getElem_cons_zero, List.getElem_cons_succ])
              (try go_simp)
              (try (go_wp2_with fail))
              refine named ?_
              intro U9 hU
              have gU : Grow U8 U9 := by rw [hU]; exact (Grow.refl _).alloc _
              have ex : EX U9 u5 u6 U8.heap.size (.int .i64 x) := by rw [hU]; exact EX.new rfl xy
              replace xy := xy.grow gU
              replace gS := gS.trans gU
              clear hU
              replace v0 := gU.keeps v0
              replace v1 := gU.keeps v1
              replace ey := ey.grow gU
              refine hK.out _ _ (fun _ => ⟨v0, v1⟩) ?_
              clear hK K
              (try simp only [Act.put, List.setIfInBounds_toArray, List.set_cons_zero, List.set_cons_succ, List.getElem_toArray, List.getElem_cons_zero, List.getElem_cons_succ])
              refine Left.ready (rs := [5]) (by kernel_rfl) (by simp) ?_
              refine (LeftAll.cons (o := _) rfl (fun K hK => ?_) LeftAll.nil)
              · (try simp only [List.getElem_toArray, List.getElem_cons_zero, List.getElem_cons_succ])
                have hDV : w4.heap.size ≤ U9.heap.size := by have := gS.size; omega
                refine (if_pos (by rfl)).mpr ?_
                refine wp_app (.tmp 22) (.tmp 26) 40 rfl w4.heap.size 3 i0 _ 8 hui hi0 hi1 hi2 hi3 rfl u5 (xs.map (Value.int .i64)) (by rfl) xy.1 (some ⟨U8.heap.size, 0, none⟩) 1 [.int .i64 x] 1 (by rfl) rfl (fun h => nomatch h) ex.row (by simp [Value.oneCell']) hbx (by omega) hDV ?_
                intro x3 U10 ho hgr hm
                replace gS : Grow w4 U10 := Below.trans gS (grownBy_below hgr (fun k hk => by have := xy.1.base k hk; omega) gS.size)
                replace ey := ey.pushX hgr hm
                replace v0 := byCell1 hgr v0 hneX
                replace v1 := byCell1 hgr v1 hneX
                replace xy := xy.pushX (xs' := xs ++ [x]) hgr hm (by rw [List.map_append]; exact ho)
                clear ho hgr hm hDV ex
                refine hK.out _ _ (fun _ => ⟨v0, v1⟩) ?_
                clear hK K
                (try simp only [Act.put, List.setIfInBounds_toArray, List.set_cons_zero, List.set_cons_succ])
                refine Left.ready (rs := [11]) (by kernel_rfl) (by simp) ?_
                refine (LeftAll.cons (o := _) rfl (fun K hK => ?_) LeftAll.nil)
                · (try simp only [List.getElem_toArray, List.getElem_cons_zero, List.getElem_cons_succ])
                  have hDV : w4.heap.size ≤ U10.heap.size := by have := gS.size; omega
                  refine (if_pos (by rfl)).mpr ?_
                  refine wp_app (.tmp 28) (.tmp 32) 40 rfl w4.heap.size 3 i0 _ 8 hui hi0 hi1 hi2 hi3 rfl u6 (ys.map (Value.int .i64)) (by rfl) xy.2.1 (some ⟨U0.heap.size, 0, none⟩) 1 [.int .i64 y] 1 (by rfl) rfl (fun h => nomatch h) ey.row (by simp [Value.oneCell']) hby (by omega) hDV ?_
                  intro y3 U11 ho hgr hm
                  replace gS : Grow w4 U11 := Below.trans gS (grownBy_below hgr (fun k hk => by have := xy.2.1.base k hk; omega) gS.size)
                  replace v0 := byCell1 hgr v0 hneY
                  replace v1 := byCell1 hgr v1 hneY
                  replace xy := xy.pushY (ys' := ys ++ [y]) hgr hm (by rw [List.map_append]; exact ho)
                  clear ho hgr hm hDV ey
                  refine hK.out _ _ (fun _ => ⟨v0, v1⟩) ?_
                  clear hK K
                  (try simp only [Act.put, List.setIfInBounds_toArray, List.set_cons_zero, List.set_cons_succ])
                  refine Left.take 5 (i := 12) (oi := _) (v := ?_) rfl (by kernel_rfl) (by kernel_rfl) (by kernel_rfl) (by kernel_rfl) (by intro _ _ _ h; exact PanicAt.put (by decide) (by decide) h) (Or.inl ⟨by rfl, ?_⟩) (⟨v0, v1⟩) (by kernel_rfl) ?_
                  rotate_left
                  (focus (intro w hSw; (try dsimp only at hSw); go_simp; (try with_reducible rfl)))
                  (try simp only [Act.put, List.setIfInBounds_toArray, List.set_cons_zero, List.set_cons_succ, List.getElem_toArray, List.getElem_cons_zero, List.getElem_cons_succ])
                  refine Left.take 5 (i := 13) (oi := _) (v := ?_) rfl (by kernel_rfl) (by kernel_rfl) (by kernel_rfl) (by kernel_rfl) (by intro _ _ _ h; exact PanicAt.put (by decide) (by decide) h) (Or.inl ⟨by rfl, ?_⟩) (⟨v0, v1⟩) (by kernel_rfl) ?_
                  rotate_left
                  (focus (intro w hSw; (try dsimp only at hSw); go_simp; (try with_reducible rfl)))
                  (try simp only [Act.put, List.setIfInBounds_toArray, List.set_cons_zero, List.set_cons_succ, List.getElem_toArray, List.getElem_cons_zero, List.getElem_cons_succ])
                  refine Left.done (by kernel_rfl) ?_ _
                  simp only [PanicAt]
                  go_wp2_with fail
                  exact ⟨⟨k + 1, by omega, by go_num, by rw [e1.out, e2.out]; exact xy, gS⟩, by simp [intOf]; omega⟩
        · obtain rfl : k = ks.length := by omega
          rw [List.take_length] at Hxy
          have hl1 : (ks.map (·.1)).length = ks.length := by simp
          have hl2 : (ks.map (·.2)).length = ks.length := by simp
          obtain ⟨f, rfl⟩ : ∃ f : Nat, F = (f : Int) + 1 := ⟨(F - 1).toNat, by omega⟩
          have hff : f < ks.length := by omega
          have hfw : IntKind.i64.wrap ((f : Int) + 1 - 1) = (f : Int) := by rw [show (f : Int) + 1 - 1 = (f : Int) by omega]; exact IntWalk.i64_in _ (by omega)
          have hav2 : cutV ks ((f : Int) + 1) = (kthV (ks.map (·.1)) f, kthV (ks.map (·.2)) f) := by unfold cutV; rw [show ((f : Int) + 1 - 1).toNat = f by omega]
          obtain ⟨xs, hxs⟩ : ∃ z, ks.map (·.1) = z := ⟨_, rfl⟩
          obtain ⟨ys, hys⟩ : ∃ z, ks.map (·.2) = z := ⟨_, rfl⟩
          rw [hxs, hys] at hav2
          rw [hxs, hys] at Hxy
          rw [hxs] at hl1
          rw [hys] at hl2
          obtain ⟨p, hp⟩ : ∃ z, kthV xs f = z := ⟨_, rfl⟩
          obtain ⟨q, hq⟩ : ∃ z, kthV ys f = z := ⟨_, rfl⟩
          have hxk := (kthV_sorted xs (k := f) (by omega)).1
          have hyk := (kthV_sorted ys (k := f) (by omega)).1
          rw [hp] at hxk hav2
          rw [hq] at hyk hav2
          have Hxk := Lib.hid hxk
          have Hyk := Lib.hid hyk
          have htv : tv = (p, q) := by rw [Hav.out]; exact hav2
          subst htv
          clear hxs hys hp hq hxk hyk hav2
          obtain ⟨ox, oy, hap⟩ := Hxy.out
          obtain ⟨gx, cx, rfl, hcx⟩ := ox.some (n := ks.length) (by rw [List.length_map]; exact hl1) (by omega)
          obtain ⟨gy, cy, rfl, hcy⟩ := oy.some (n := ks.length) (by rw [List.length_map]; exact hl2) (by omega)
          have hne : gx ≠ gy := fun e => hap gx rfl (by rw [e]; rfl)
          have hDx : w4.heap.size ≤ gx := ox.base gx rfl
          have hDy : w4.heap.size ≤ gy := oy.base gy rfl
          have Hox := Lib.hid ox
          have Hoy := Lib.hid oy
          clear ox oy hap Hxy
          go_upto_region 10 with (go_at_call 57; refine (psort_any (.slice (some ⟨gx, 0, none⟩) ks.length cx) xs w4.heap.size _ Hox.out (by omega) (by omega)).mono ?_; rintro e w5 ⟨rfl, ox5, hg5⟩; have Hox5 := Lib.hid ox5; have Hoy5 := Lib.hid (Hoy.out.kept hg5 (.inr (fun e => by injection e with e; exact hne e.symm))); clear ox5)
          go_upto_region 11 with (go_at_call 57; refine (psort_any (.slice (some ⟨gy, 0, none⟩) ks.length cy) ys w4.heap.size _ Hoy5.out (by omega) (by omega)).mono ?_; rintro e w6 ⟨rfl, oy6, hg6⟩; have Hoy6 := Lib.hid oy6; have Hox6 := Lib.hid (Hox5.out.kept hg6 (.inr (fun e => by injection e with e; exact hne e))); clear oy6)
          have hg5 : wr.grownBy w5 (some gx) := hg5
          have hg6 : w5.grownBy w6 (some gy) := hg6
          have hG5 : Grow w4 w5 := Below.trans hg (grownBy_below hg5 (by intro k hk; injection hk with hk; omega) hg.size)
          have hG6 : Grow w4 w6 := Below.trans hG5 (grownBy_below hg6 (by intro k hk; injection hk with hk; omega) hG5.size)
          have s1 := hG6.keeps k1
          have s2 : w6.cell? ⟨gx, f, none⟩ = some (.int .i64 p) := Hox6.out.at (by rw [List.length_map, sortZ_len, hl1]) (by rw [List.getElem?_map, Hxk.out]; rfl)
          have s3 : w6.cell? ⟨gy, f, none⟩ = some (.int .i64 q) := Hoy6.out.at (by rw [List.length_map, sortZ_len, hl2]) (by rw [List.getElem?_map, Hyk.out]; rfl)
          have hW4 := hG4.size
          have y1 := (hG4.trans hG6).keeps hW10
          have y2 := (hG4.trans hG6).keeps hW11
          have y3 : ∀ o, w6.frozen? ⟨W1, o, none⟩ = false := fun o => ((hG4.trans hG6).marks _ _ hWl1).trans (hWf1 o)
          have y4 := (hG4.trans hG6).keeps hW20
          have y5 : ∀ o, w6.frozen? ⟨W2, o, none⟩ = false := fun o => ((hG4.trans hG6).marks _ _ hWl2).trans (hWf2 o)
          have hlc := lt_of_cell s1
          have hfw2 : IntKind.i64.wrap (f : Int) = (f : Int) := IntWalk.i64_in _ (by omega)
          have hfi : (f : Int) < (ks.length : Int) := by omega
          have hfi0 : (0 : Int) ≤ (f : Int) := by omega
          have hlx := lt_of_cell s2
          have hly := lt_of_cell s3
          have hdrew : ∀ V : World, (V.cell? ⟨c, 1, none⟩ = some (.int .i64 ((f : Int) + 1)) ∧ V.cell? ⟨gx, f, none⟩ = some (.int .i64 p) ∧ V.cell? ⟨gy, f, none⟩ = some (.int .i64 q)) → (V.drew.cell? ⟨c, 1, none⟩ = some (.int .i64 ((f : Int) + 1)) ∧ V.drew.cell? ⟨gx, f, none⟩ = some (.int .i64 p) ∧ V.drew.cell? ⟨gy, f, none⟩ = some (.int .i64 q)) := fun V h => h
          have hset1 : ∀ (V : World) (o : Nat) (z : Value), (V.cell? ⟨c, 1, none⟩ = some (.int .i64 ((f : Int) + 1)) ∧ V.cell? ⟨gx, f, none⟩ = some (.int .i64 p) ∧ V.cell? ⟨gy, f, none⟩ = some (.int .i64 q)) → ((V.setCell ⟨W1, o, none⟩ z).cell? ⟨c, 1, none⟩ = some (.int .i64 ((f : Int) + 1)) ∧ (V.setCell ⟨W1, o, none⟩ z).cell? ⟨gx, f, none⟩ = some (.int .i64 p) ∧ (V.setCell ⟨W1, o, none⟩ z).cell? ⟨gy, f, none⟩ = some (.int .i64 q)) := fun V o z h => ⟨byCell1 (bySet V W1 o z) h.1 (fun e => by injection e with e; omega), byCell1 (bySet V W1 o z) h.2.1 (fun e => by injection e with e; omega), byCell1 (bySet V W1 o z) h.2.2 (fun e => by injection e with e; omega)⟩
          have hset2 : ∀ (V : World) (o : Nat) (z : Value), (V.cell? ⟨c, 1, none⟩ = some (.int .i64 ((f : Int) + 1)) ∧ V.cell? ⟨gx, f, none⟩ = some (.int .i64 p) ∧ V.cell? ⟨gy, f, none⟩ = some (.int .i64 q)) → ((V.setCell ⟨W2, o, none⟩ z).cell? ⟨c, 1, none⟩ = some (.int .i64 ((f : Int) + 1)) ∧ (V.setCell ⟨W2, o, none⟩ z).cell? ⟨gx, f, none⟩ = some (.int .i64 p) ∧ (V.setCell ⟨W2, o, none⟩ z).cell? ⟨gy, f, none⟩ = some (.int .i64 q)) := fun V o z h => ⟨byCell1 (bySet V W2 o z) h.1 (fun e => by injection e with e; omega), byCell1 (bySet V W2 o z) h.2.1 (fun e => by injection e with e; omega), byCell1 (bySet V W2 o z) h.2.2 (fun e => by injection e with e; omega)⟩
          have sD : w6.drew.cell? ⟨c, 1, none⟩ = some (.int .i64 ((f : Int) + 1)) ∧ w6.drew.cell? ⟨gx, f, none⟩ = some (.int .i64 p) ∧ w6.drew.cell? ⟨gy, f, none⟩ = some (.int .i64 q) := ⟨s1, s2, s3⟩
          refine wp_panicAt 2 3 (.pointer (some ⟨W1, 0, none⟩)) (.pointer (some ⟨W2, 0, none⟩)) [{ target := .fn (.func 56) #[.pointer (some ⟨W2, 0, none⟩)], args := #[] }] ?_
          have hl1' := lt_of_cell y1
          have hl2' := lt_of_cell y4
          clear Hox Hoy Hox5 Hoy5 Hox6 Hoy6 hg5 hg6
          (refine wp_region_held_drew (S := fun Vx => Vx.cell? ⟨c, 1, none⟩ = some (.int .i64 ((f : Int) + 1)) ∧ Vx.cell? ⟨gx, f, none⟩ = some (.int .i64 p) ∧ Vx.cell? ⟨gy, f, none⟩ = some (.int .i64 q)) (by kernel_rfl) (sD) (fun hHeld => ?_); refine wpAnyH_take (i := 0) (oi := _) (v := ?_) rfl (by kernel_rfl) (by kernel_rfl) (by kernel_rfl) (by intro _ _ _ h; exact PanicAt.put (by decide) (by decide) h) (Or.inl ⟨by rfl, ?_⟩) (by assumption) ?_; rotate_left; (focus (intro w hSw; (try dsimp only at hSw); go_simp; (try with_reducible rfl))); (try simp only [Act.put, List.setIfInBounds_toArray, List.set_cons_zero, List.set_cons_succ, List.getElem_toArray, List.getElem_cons_zero]); refine wpAnyH_take (i := 1) (oi := _) (v := ?_) rfl (by kernel_rfl) (by kernel_rfl) (by kernel_rfl) (by intro _ _ _ h; exact PanicAt.put (by decide) (by decide) h) (Or.inl ⟨by rfl, ?_⟩) (by assumption) ?_; rotate_left; (focus (intro w hSw; (try dsimp only at hSw); go_simp; (try with_reducible rfl))); (try simp only [Act.put, List.setIfInBounds_toArray, List.set_cons_zero, List.set_cons_succ, List.getElem_toArray, List.getElem_cons_zero, List.getElem_cons_succ]); refine wpAnyH_take (i := 2) (oi := _) (v := ?_) rfl (by kernel_rfl) (by kernel_rfl) (by kernel_rfl) (by intro _ _ _ h; exact PanicAt.put (by decide) (by decide) h) (Or.inl ⟨by rfl, ?_⟩) (by assumption) ?_; rotate_left; (focus (intro w hSw; (try dsimp only at hSw); go_simp; (try with_reducible rfl))); (try simp only [Act.put, List.setIfInBounds_toArray, List.set_cons_zero, List.set_cons_succ, List.getElem_toArray, List.getElem_cons_zero, List.getElem_cons_succ]); refine wpAnyH_take (i := 3) (oi := _) (v := ?_) rfl (by kernel_rfl) (by kernel_rfl) (by kernel_rfl) (by intro _ _ _ h; exact PanicAt.put (by decide) (by decide) h) (Or.inl ⟨by rfl, ?_⟩) (by assumption) ?_; rotate_left; (focus (intro w hSw; (try dsimp only at hSw); go_simp; (try with_reducible rfl))); (try simp only [Act.put, List.setIfInBounds_toArray, List.set_cons_zero, List.set_cons_succ, List.getElem_toArray, List.getElem_cons_zero, List.getElem_cons_succ]); refine wpAnyH_take (i := 4) (oi := _) (v := ?_) rfl (by kernel_rfl) (by kernel_rfl) (by kernel_rfl) (by intro _ _ _ h; exact PanicAt.put (by decide) (by decide) h) (Or.inl ⟨by rfl, ?_⟩) (by assumption) ?_; rotate_left; (focus (intro w hSw; (try dsimp only at hSw); go_simp; (try with_reducible rfl))); (try simp only [Act.put, List.setIfInBounds_toArray, List.set_cons_zero, List.set_cons_succ, List.getElem_toArray, List.getElem_cons_zero, List.getElem_cons_succ]); refine wpAnyH_take (i := 5) (oi := _) (v := ?_) rfl (by kernel_rfl) (by kernel_rfl) (by kernel_rfl) (by intro _ _ _ h; exact PanicAt.put (by decide) (by decide) h) (Or.inl ⟨by rfl, ?_⟩) (by assumption) ?_; rotate_left; (focus (intro w hSw; (try dsimp only at hSw); go_simp; (try with_reducible rfl))); (try simp only [Act.put, List.setIfInBounds_toArray, List.set_cons_zero, List.set_cons_succ, List.getElem_toArray, List.getElem_cons_zero, List.getElem_cons_succ]); refine wpAnyH_take (i := 6) (oi := _) (v := ?_) rfl (by kernel_rfl) (by kernel_rfl) (by kernel_rfl) (by intro _ _ _ h; exact PanicAt.put (by decide) (by decide) h) (Or.inl ⟨by rfl, ?_⟩) (by assumption) ?_; rotate_left; (focus (intro w hSw; (try dsimp only at hSw); go_simp; (try with_reducible rfl))); (try simp only [Act.put, List.setIfInBounds_toArray, List.set_cons_zero, List.set_cons_succ, List.getElem_toArray, List.getElem_cons_zero, List.getElem_cons_succ]); refine wpAnyH_take (i := 7) (oi := _) (v := ?_) rfl (by kernel_rfl) (by kernel_rfl) (by kernel_rfl) (by intro _ _ _ h; exact PanicAt.put (by decide) (by decide) h) (Or.inl ⟨by rfl, ?_⟩) (by assumption) ?_; rotate_left; (focus (intro w hSw; (try dsimp only at hSw); go_simp; (try with_reducible rfl))); (try simp only [Act.put, List.setIfInBounds_toArray, List.set_cons_zero, List.set_cons_succ, List.getElem_toArray, List.getElem_cons_zero, List.getElem_cons_succ]); refine wpAnyH_take (i := 8) (oi := _) (v := ?_) rfl (by kernel_rfl) (by kernel_rfl) (by kernel_rfl) (by intro _ _ _ h; exact PanicAt.put (by decide) (by decide) h) (Or.inl ⟨by rfl, ?_⟩) (by assumption) ?_; rotate_left; (focus (intro w hSw; (try dsimp only at hSw); go_simp; (try with_reducible rfl))); (try simp only [Act.put, List.setIfInBounds_toArray, List.set_cons_zero, List.set_cons_succ, List.getElem_toArray, List.getElem_cons_zero, List.getElem_cons_succ]); refine wpAnyH_take (i := 9) (oi := _) (v := ?_) rfl (by kernel_rfl) (by kernel_rfl) (by kernel_rfl) (by intro _ _ _ h; exact PanicAt.put (by decide) (by decide) h) (Or.inl ⟨by rfl, ?_⟩) (by assumption) ?_; rotate_left; (focus (intro w hSw; (try dsimp only at hSw); go_simp; (try with_reducible rfl))); (try simp only [Act.put, List.setIfInBounds_toArray, List.set_cons_zero, List.set_cons_succ, List.getElem_toArray, List.getElem_cons_zero, List.getElem_cons_succ]); refine wpAnyH_take (i := 10) (oi := _) (v := ?_) rfl (by kernel_rfl) (by kernel_rfl) (by kernel_rfl) (by intro _ _ _ h; exact PanicAt.put (by decide) (by decide) h) (Or.inl ⟨by rfl, ?_⟩) (by assumption) ?_; rotate_left; (focus (intro w hSw; (try dsimp only at hSw); go_simp; (try with_reducible rfl))); (try simp only [Act.put, List.setIfInBounds_toArray, List.set_cons_zero, List.set_cons_succ, List.getElem_toArray, List.getElem_cons_zero, List.getElem_cons_succ]); refine wpAnyH_take (i := 11) (oi := _) (v := ?_) rfl (by kernel_rfl) (by kernel_rfl) (by kernel_rfl) (by intro _ _ _ h; exact PanicAt.put (by decide) (by decide) h) (Or.inl ⟨by rfl, ?_⟩) (by assumption) ?_; rotate_left; (focus (intro w hSw; (try dsimp only at hSw); go_simp; (try with_reducible rfl))); (try simp only [Act.put, List.setIfInBounds_toArray, List.set_cons_zero, List.set_cons_succ, List.getElem_toArray, List.getElem_cons_zero, List.getElem_cons_succ]); refine wpAnyH_take (i := 12) (oi := _) (v := ?_) rfl (by kernel_rfl) (by kernel_rfl) (by kernel_rfl) (by intro _ _ _ h; exact PanicAt.put (by decide) (by decide) h) (Or.inl ⟨by rfl, ?_⟩) (by assumption) ?_; rotate_left; (focus (intro w hSw; (try dsimp only at hSw); go_simp; (try with_reducible rfl))); (try simp only [Act.put, List.setIfInBounds_toArray, List.set_cons_zero, List.set_cons_succ, List.getElem_toArray, List.getElem_cons_zero, List.getElem_cons_succ]); refine wpAnyH_take (i := 13) (oi := _) (v := ?_) rfl (by kernel_rfl) (by kernel_rfl) (by kernel_rfl) (by intro _ _ _ h; exact PanicAt.put (by decide) (by decide) h) (Or.inl ⟨by rfl, ?_⟩) (by assumption) ?_; rotate_left; (focus (intro w hSw; (try dsimp only at hSw); go_simp; (try with_reducible rfl))); (try simp only [Act.put, List.setIfInBounds_toArray, List.set_cons_zero, List.set_cons_succ, List.getElem_toArray, List.getElem_cons_zero, List.getElem_cons_succ]); refine wpAnyH_take (i := 14) (oi := _) (v := ?_) rfl (by kernel_rfl) (by kernel_rfl) (by kernel_rfl) (by intro _ _ _ h; exact PanicAt.put (by decide) (by decide) h) (Or.inl ⟨by rfl, ?_⟩) (by assumption) ?_; rotate_left; (focus (intro w hSw; (try dsimp only at hSw); go_simp; (try with_reducible rfl))); (try simp only [Act.put, List.setIfInBounds_toArray, List.set_cons_zero, List.set_cons_succ, List.getElem_toArray, List.getElem_cons_zero, List.getElem_cons_succ]); refine wpAnyH_take (i := 15) (oi := _) (v := ?_) rfl (by kernel_rfl) (by kernel_rfl) (by kernel_rfl) (by intro _ _ _ h; exact PanicAt.put (by decide) (by decide) h) (Or.inl ⟨by rfl, ?_⟩) (by assumption) ?_; rotate_left; (focus (intro w hSw; (try dsimp only at hSw); go_simp; (try with_reducible rfl))); (try simp only [Act.put, List.setIfInBounds_toArray, List.set_cons_zero, List.set_cons_succ, List.getElem_toArray, List.getElem_cons_zero, List.getElem_cons_succ]); refine wpAnyH_take (i := 16) (oi := _) (v := ?_) rfl (by kernel_rfl) (by kernel_rfl) (by kernel_rfl) (by intro _ _ _ h; exact PanicAt.put (by decide) (by decide) h) (Or.inl ⟨by rfl, ?_⟩) (by assumption) ?_; rotate_left; (focus (intro w hSw; (try dsimp only at hSw); go_simp; (try with_reducible rfl))); (try simp only [Act.put, List.setIfInBounds_toArray, List.set_cons_zero, List.set_cons_succ, List.getElem_toArray, List.getElem_cons_zero, List.getElem_cons_succ]); refine wpAnyH_take (i := 17) (oi := _) (v := ?_) rfl (by kernel_rfl) (by kernel_rfl) (by kernel_rfl) (by intro _ _ _ h; exact PanicAt.put (by decide) (by decide) h) (Or.inl ⟨by rfl, ?_⟩) (by assumption) ?_; rotate_left; (focus (intro w hSw; (try dsimp only at hSw); go_simp; (try with_reducible rfl))); (try simp only [Act.put, List.setIfInBounds_toArray, List.set_cons_zero, List.set_cons_succ, List.getElem_toArray, List.getElem_cons_zero, List.getElem_cons_succ]); refine wpAnyH_ready (rs := [18]) (by kernel_rfl) (by simp) ?_; refine AllReadyH.cons (o := _) rfl (fun K hK => ?_) AllReadyH.nil; (try simp only [List.getElem_toArray, List.getElem_cons_zero, List.getElem_cons_succ]); (try go_simp); (try (go_wp2_with fail)); refine hK.out _ _ ?_ (fun hHeld => ?_); (focus ((first | with_reducible refine hdrew _ ?_ | skip); (repeat (first | with_reducible refine hset1 _ _ _ ?_ | with_reducible refine hset2 _ _ _ ?_)); exact ⟨s1, s2, s3⟩)); clear hK K; (try simp only [Act.put, List.setIfInBounds_toArray, List.set_cons_zero, List.set_cons_succ, List.getElem_toArray, List.getElem_cons_zero, List.getElem_cons_succ]); refine wpAnyH_ready (rs := [19]) (by kernel_rfl) (by simp) ?_; refine AllReadyH.cons (o := _) rfl (fun K hK => ?_) AllReadyH.nil; (try simp only [List.getElem_toArray, List.getElem_cons_zero, List.getElem_cons_succ]); (try go_simp); (try (go_wp2_with fail)); refine hK.out _ _ ?_ (fun hHeld => ?_); (focus ((first | with_reducible refine hdrew _ ?_ | skip); (repeat (first | with_reducible refine hset1 _ _ _ ?_ | with_reducible refine hset2 _ _ _ ?_)); exact ⟨s1, s2, s3⟩)); clear hK K; (try simp only [Act.put, List.setIfInBounds_toArray, List.set_cons_zero, List.set_cons_succ, List.getElem_toArray, List.getElem_cons_zero, List.getElem_cons_succ]); refine wpAnyH_ready (rs := [20]) (by kernel_rfl) (by simp) ?_; refine AllReadyH.cons (o := _) rfl (fun K hK => ?_) AllReadyH.nil; (try simp only [List.getElem_toArray, List.getElem_cons_zero, List.getElem_cons_succ]); (try go_simp); (try (go_wp2_with fail)); refine hK.out _ _ ?_ (fun hHeld => ?_); (focus ((first | with_reducible refine hdrew _ ?_ | skip); (repeat (first | with_reducible refine hset1 _ _ _ ?_ | with_reducible refine hset2 _ _ _ ?_)); exact ⟨s1, s2, s3⟩)); clear hK K; (try simp only [Act.put, List.setIfInBounds_toArray, List.set_cons_zero, List.set_cons_succ, List.getElem_toArray, List.getElem_cons_zero, List.getElem_cons_succ]); refine wpAnyH_ready (rs := [21]) (by kernel_rfl) (by simp) ?_; refine AllReadyH.cons (o := _) rfl (fun K hK => ?_) AllReadyH.nil; (try simp only [List.getElem_toArray, List.getElem_cons_zero, List.getElem_cons_succ]); (try go_simp); (try (go_wp2_with fail)); refine hK.out _ _ ?_ (fun hHeld => ?_); (focus ((first | with_reducible refine hdrew _ ?_ | skip); (repeat (first | with_reducible refine hset1 _ _ _ ?_ | with_reducible refine hset2 _ _ _ ?_)); exact ⟨s1, s2, s3⟩)); clear hK K; (try simp only [Act.put, List.setIfInBounds_toArray, List.set_cons_zero, List.set_cons_succ, List.getElem_toArray, List.getElem_cons_zero, List.getElem_cons_succ]); refine wpAnyH_ready (rs := [22]) (by kernel_rfl) (by simp) ?_; refine AllReadyH.cons (o := _) rfl (fun K hK => ?_) AllReadyH.nil; (try simp only [List.getElem_toArray, List.getElem_cons_zero, List.getElem_cons_succ]); (try go_simp); (try (go_wp2_with fail)); refine hK.out _ _ ?_ (fun hHeld => ?_); (focus ((first | with_reducible refine hdrew _ ?_ | skip); (repeat (first | with_reducible refine hset1 _ _ _ ?_ | with_reducible refine hset2 _ _ _ ?_)); exact ⟨s1, s2, s3⟩)); clear hK K; (try simp only [Act.put, List.setIfInBounds_toArray, List.set_cons_zero, List.set_cons_succ, List.getElem_toArray, List.getElem_cons_zero, List.getElem_cons_succ]); refine wpAnyH_ready (rs := [23]) (by kernel_rfl) (by simp) ?_; refine AllReadyH.cons (o := _) rfl (fun K hK => ?_) AllReadyH.nil; (try simp only [List.getElem_toArray, List.getElem_cons_zero, List.getElem_cons_succ]); (try go_simp); (try (go_wp2_with fail)); refine hK.out _ _ ?_ (fun hHeld => ?_); (focus ((first | with_reducible refine hdrew _ ?_ | skip); (repeat (first | with_reducible refine hset1 _ _ _ ?_ | with_reducible refine hset2 _ _ _ ?_)); exact ⟨s1, s2, s3⟩)); clear hK K; (try simp only [Act.put, List.setIfInBounds_toArray, List.set_cons_zero, List.set_cons_succ, List.getElem_toArray, List.getElem_cons_zero, List.getElem_cons_succ]); refine wpAnyH_done (by kernel_rfl) ?_ _)
          simp only [PanicAt]
          have hX : ∃ V : World, V = (((((w6.setCell ⟨W1, 0, none⟩ (.int .i64 0)).setCell ⟨W1, 1, none⟩ (.int .i64 0)).setCell ⟨W1, 0, none⟩ (.int .i64 p)).setCell ⟨W1, 1, none⟩ (.int .i64 q)).setCell ⟨W2, 0, none⟩ (.int .i64 0)).drew := ⟨_, rfl⟩
          obtain ⟨V, hV⟩ := hX
          rw [← hV]
          obtain ⟨a0, a1, _, _⟩ := cells2 (x := .int .i64 0) (y := .int .i64 0) y1 y2
          obtain ⟨z0, z1, _, _⟩ := cells2 (x := .int .i64 p) (y := .int .i64 q) a0 a1
          have n12 : some W1 ≠ some W2 := fun e => by injection e with e; exact hWn12 e
          have n21 : some W2 ≠ some W1 := fun e => n12 e.symm
          have b1 := byCell1 (bySet _ W1 1 (.int .i64 0)) (byCell1 (bySet _ W1 0 (.int .i64 0)) y4 n12) n12
          have b2 := byCell1 (bySet _ W1 1 (.int .i64 q)) (byCell1 (bySet _ W1 0 (.int .i64 p)) b1 n12) n12
          have hdc : ∀ (V : World) (a : Addr), V.drew.cell? a = V.cell? a := fun _ _ => rfl
          have e0 := byCell1 (bySet _ W2 0 (.int .i64 0)) z0 n21
          have e1 := byCell1 (bySet _ W2 0 (.int .i64 0)) z1 n21
          have e2 : (((((w6.setCell ⟨W1, 0, none⟩ (.int .i64 0)).setCell ⟨W1, 1, none⟩ (.int .i64 0)).setCell ⟨W1, 0, none⟩ (.int .i64 p)).setCell ⟨W1, 1, none⟩ (.int .i64 q)).setCell ⟨W2, 0, none⟩ (.int .i64 0)).cell? ⟨W2, 0, none⟩ = some (.int .i64 0) := World.cell?_setCell_same' _ _ _ (by rw [b2]; rfl)
          have z3 : V.cell? ⟨W1, 0, none⟩ = some (.int .i64 p) := by rw [hV, hdc]; exact e0
          have z4 : V.cell? ⟨W1, 1, none⟩ = some (.int .i64 q) := by rw [hV, hdc]; exact e1
          have z5 : V.cell? ⟨W2, 0, none⟩ = some (.int .i64 0) := by rw [hV, hdc]; exact e2
          have hG : Grow w V := by rw [hV]; exact Grow.drew (((((Below.setCell (p := ⟨W1, 0, none⟩) (show Grow w w6 from hgW.trans (hG4.trans hG6)) (by omega) _).setCell (p := ⟨W1, 1, none⟩) (by omega) _).setCell (p := ⟨W1, 0, none⟩) (by omega) _).setCell (p := ⟨W1, 1, none⟩) (by omega) _).setCell (p := ⟨W2, 0, none⟩) (by omega) _)
          clear hV
          go_wp2
          show Leaves _ _ _ _ _ _ _
          refine leaves_cons (f := 56) (args := #[.pointer (some ⟨W2, 0, none⟩)]) (by simp) (by simp [go_sem]) ?_
          refine (pdefCut_idle W2 _).mono ?_
          rintro e u' w'' ⟨rfl, rfl, rfl⟩
          simp [Leaves, settle, results, Try.results23, go_sem, z3, z4, z5]
          exact hG
  · have hbad := hbad hc
    subst hbad
    go_wp2
    show Leaves _ _ _ _ _ _ _
    exact dead W w2 W1 W2 _ _ hgW hWb1 hWb2 hWn12 hW10 hW11 hW20 hWf2 hg2 (errOf_code hc) hc rfl rfl
end Go.Proofs.Ytbeglemohfbdfaa
