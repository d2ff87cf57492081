/- ChaseMore: for every input the law returns true, and its arguments read as before. Conditions: none. -/
import Derived.Test.YtbeglemohfbdfaaLzO
import Derived.Test.YtbeglemohfbdfaaCpFJ
import Derived.Test.YtbeglemohfbdfaaLwP
import Derived.Test.YtbeglemohfbdfaaLwO
import Derived.Deep.DeepCutAuto
import Derived.Deep.CutBlock
import Derived.Carry
namespace Go.Proofs.Ytbeglemohfbdfaa
open Go.RowKit

theorem clocks_at {E F : Int} {ss : List (List Int)} (hv : validB E F ss = true) {r : Nat} (hr : r < ss.length) : (0 ≤ lo (clocksOf E ss) r ∧ lo (clocksOf E ss) r ≤ 200) ∧ (0 ≤ hi (clocksOf E ss) r ∧ hi (clocksOf E ss) r ≤ 203) := by
  obtain ⟨hE, _, _, hl⟩ := valid_parts hv
  have h := clocks_get (E := E) (List.getElem?_eq_getElem hr)
  have h2 := (hl _ (List.getElem_mem hr)).2
  rw [h.1, h.2]
  exact ⟨loOf_range hE h2, hiOf_range hE h2⟩
theorem kthV_mem {l : List Int} {k : Nat} (hk : k < l.length) : kthV l k ∈ l := (sortZ_perm l).mem_iff.1 (List.mem_of_getElem? (kthV_sorted l hk).1)
theorem cut_bounds {E F : Int} {ss : List (List Int)} (hv : validB E F ss = true) : (-100000 ≤ (cutE E F ss).1 ∧ (cutE E F ss).1 ≤ 100000) ∧ (-100000 ≤ (cutE E F ss).2 ∧ (cutE E F ss).2 ≤ 100000) := by
  unfold cutE
  split
  · obtain ⟨_, hn, hF, _⟩ := valid_parts hv
    have hk : (F - 1).toNat < (clocksOf E ss).length := by rw [clocks_len]; omega
    have key : ∀ x ∈ clocksOf E ss, (0 ≤ x.1 ∧ x.1 ≤ 200) ∧ (0 ≤ x.2 ∧ x.2 ≤ 203) := fun x hx => by
      obtain ⟨i, hi0, rfl⟩ := List.getElem_of_mem hx
      have := clocks_at hv (r := i) (by rw [clocks_len] at hi0; exact hi0)
      simpa [lo, hi, hi0] using this
    obtain ⟨x, hx, e1⟩ := List.mem_map.1 (kthV_mem (l := (clocksOf E ss).map (·.1)) (k := (F - 1).toNat) (by simpa using hk))
    obtain ⟨y, hy, e2⟩ := List.mem_map.1 (kthV_mem (l := (clocksOf E ss).map (·.2)) (k := (F - 1).toNat) (by simpa using hk))
    unfold cutV
    dsimp only
    rw [← e1, ← e2]
    have h1 := key x hx
    have h2 := key y hy
    omega
  · decide
theorem wrong_told {E F : Int} {ss : List (List Int)} {k : Nat} (hv : validB E F ss = true) (hk : k < ss.length) : codeO E F ss (inB k 0 (ss.length - 1)) = 0 ∧ wrongE E F ss k = ((wrongV E (ss[k]?.getD []) : Nat) : Int) := by
  have hc : codeO E F ss (inB k 0 (ss.length - 1)) = 0 := by
    unfold codeO
    rw [hv, inB_true.2 (show (0 : Int) ≤ (k : Int) ∧ (k : Int) ≤ (ss.length : Int) - 1 by omega)]
    rfl
  refine ⟨hc, ?_⟩
  unfold wrongE
  rw [if_pos hc, Int.toNat_natCast]
theorem wrong_small {E F : Int} {ss : List (List Int)} {k : Nat} (hv : validB E F ss = true) (hk : k < ss.length) : wrongV E (ss[k]?.getD []) < 8 := by
  obtain ⟨_, _, _, hl⟩ := valid_parts hv
  rw [List.getElem?_eq_getElem hk]
  exact wrong_lt8 (hl _ (List.getElem_mem hk)).1.2
theorem more_one {w : World} {E F E2 d : Int} {v v2 : Value} {ss ss2 : List (List Int)} {p i : Nat} (h1 : IsSheets w v ss) (h2 : IsSheets w v2 ss2) (hv : validB E F ss = true) (hv2 : validB E2 F ss2 = true) (hQ : MoreQ E F ss p i E2 ss2 d) (hp : p < ss.length) (hd : 0 ≤ d ∧ d ≤ 20) :
    MoreOne w (.agg #[.int .i64 E, .int .i64 F, v]) (.agg #[.int .i64 E2, .int .i64 F, v2]) ss.length p i (errOf E F ss true) (ordersV E F ss) (cutE E F ss).1 (cutE E F ss).2 d := by
  have hp2 : p < ss2.length := by rw [hQ.len]; exact hp
  have w1 := wrong_told hv hp
  have w2 := wrong_told hv2 hp2
  refine ⟨errOf E2 F ss2 true, ordersV E2 F ss2, (cutE E2 F ss2).1, (cutE E2 F ss2).2, wrongV E (ss[p]?.getD []), wrongV E2 (ss2[p]?.getD []), ⟨wrong_small hv hp, wrong_small hv2 hp2, fun _ => hQ.less, hQ.same, fun h => Nat.le_antisymm hQ.less (hQ.more h)⟩,
    ⟨by rcases errOf_two hv2 with c | c <;> simp [c.1], fun h => more_err hQ hv hv2 h⟩, fun he => ?_, fun V hV => pCut_any _ _ _ _ _ (h2.grow hV), fun V hV => pOrders_any _ _ _ _ _ (h2.grow hV), fun V hV => (pWrong_any _ _ _ _ _ _ (h1.grow hV)).mono ?_, fun V hV => (pWrong_any _ _ _ _ _ _ (h2.grow hV)).mono ?_⟩
  · have T := more_told hQ hv hv2 he
    have cb := cut_bounds hv
    refine ⟨T.ok, ⟨cb.1, cb.2, hd.1, by omega⟩, ⟨T.orders.1, T.cut.1, T.cut.2⟩, fun h => ⟨T.orders.2 h, (T.cut2 h).1, (T.cut2 h).2⟩, fun r hr => ?_⟩
    have t1 := T.told r hr
    have t2 := T.told' r hr
    have hr2 : r < ss2.length := by rw [hQ.len]; exact hr
    have b1 := clocks_at hv hr
    have pl := T.place r hr
    have tm := T.time r hr
    have e2 : errOf E2 F ss2 (inB r 0 (ss2.length - 1)) = 0 := t2.err
    refine ⟨(placeLo (clocksOf E ss) r : Nat), (placeHi (clocksOf E ss) r : Nat), (placeLo (clocksOf E2 ss2) r : Nat), (placeHi (clocksOf E2 ss2) r : Nat), lo (clocksOf E ss) r, hi (clocksOf E ss) r, lo (clocksOf E2 ss2) r, hi (clocksOf E2 ss2) r, finalP (clocksOf E ss) F r, finalP (clocksOf E2 ss2) F r,
      ⟨by omega, by omega, hd.1, by omega⟩, ⟨by omega, by omega, tm.1, tm.2, fun h => T.final r hr h⟩, fun h => ?_, fun V hV => (pPlace_any _ _ _ _ _ _ (h1.grow hV)).mono ?_, fun V hV => (pPlace_any _ _ _ _ _ _ (h2.grow hV)).mono ?_, fun V hV => (pTime_any _ _ _ _ _ _ (h1.grow hV)).mono ?_, fun V hV => (pTime_any _ _ _ _ _ _ (h2.grow hV)).mono ?_, fun V hV => (pFinal_any _ _ _ _ _ _ (h1.grow hV)).mono ?_, fun V hV => (pFinal_any _ _ _ _ _ _ (h2.grow hV)).mono ?_⟩
    · have a := T.place2 h r hr
      have b := T.time2 h r hr
      exact ⟨by omega, by omega, b.1, b.2, T.final2 h r hr⟩
    · rw [t1.err, t1.place]; exact fun _ _ h => h
    · rw [e2, t2.place]; exact fun _ _ h => h
    · rw [t1.err, t1.time]; exact fun _ _ h => h
    · rw [e2, t2.time]; exact fun _ _ h => h
    · rw [t1.err, t1.final]; exact fun _ _ h => h
    · rw [e2, t2.final]; exact fun _ _ h => h
  · rw [w1.1, w1.2]; exact fun _ _ h => h
  · rw [w2.1, w2.2]; exact fun _ _ h => h
end Go.Proofs.Ytbeglemohfbdfaa
namespace Go.Proofs.Ytbeglemohfbdfaa
open Go.RowKit

section
variable {w V : World}
theorem cell_same {b o : Nat} {x : Value} (hb : V.heap[b]? = w.heap[b]?) (hc : w.cell? ⟨b, o, none⟩ = some x) : V.cell? ⟨b, o, none⟩ = some x := by
  unfold World.cell? at *
  dsimp only at *
  rw [hb]
  exact hc
theorem own_same {K : Nat} {E : TypeId} {v : Value} {vs : List Value} (ho : Own w K E v vs) (hb : ∀ b, v.ownBlock = Option.some b → V.heap[b]? = w.heap[b]?) : Own V K E v vs := by
  refine ⟨ho.1, ?_⟩
  rcases ho.2 with hn | ⟨g, cap, cur, rfl, hbg, hgg, rest⟩
  · exact .inl hn
  · exact .inr ⟨g, cap, cur, rfl, hbg, by rw [hb g rfl]; exact hgg, rest⟩
theorem IsInts.same {v : Value} {l : List Int} (hi : IsInts w v l) (hb : ∀ b, v.ownBlock = some b → V.heap[b]? = w.heap[b]?) : IsInts V v l := by
  obtain ⟨a, cap, rfl, h2, h3, h4⟩ := hi
  refine ⟨a, cap, rfl, h2, h3, fun i x hx => ?_⟩
  obtain ⟨b, o, rfl, hc⟩ := h4 i x hx
  exact ⟨b, o, rfl, cell_same (hb b rfl) hc⟩
/-- All but two blocks: what is owned, what reads as a list. -/
theorem OldBut.below {w0 : World} {D O3 O4 : Nat} (h : OldBut w0 D O3 O4 V) {u : World} (hg : Grow u w0) (hD : u.heap.size ≤ D) (h3 : u.heap.size ≤ O3) (h4 : u.heap.size ≤ O4) : Grow u V :=
  ⟨h.1.1.trans hg.os, h.1.2.1.trans hg.tape, h.1.2.2.1.trans hg.output, Nat.le_trans hg.size h.1.2.2.2, fun b hb => (h.2 b (by omega) (by omega) (by omega)).trans (hg.block b hb)⟩
theorem ListT.sheets {ow : Nat → Nat} {t u K : Nat} {E : TypeId} {v : Value} {vs : List Value} {ls : List (List Int)} (h : ListT V ow t u K E v vs ls) (hs : ls.length ≤ 1000) : IsSheets V v ls := own_sheets h.1.1 h.2.1 (fun i x l hx hl => (h.2.2 i x l hx hl).1) (by omega)
/-- Three variables' third parts are written. -/
theorem three_sets {O1 O3 O4 : Nat} {x y z : Value} (n13 : O1 ≠ O3) (n14 : O1 ≠ O4) (n34 : O3 ≠ O4) (h1 : (w.cell? ⟨O1, 2, none⟩).isSome = true) (h3 : (w.cell? ⟨O3, 2, none⟩).isSome = true) (h4 : (w.cell? ⟨O4, 2, none⟩).isSome = true)
    (hV : ((w.setCell ⟨O1, 2, none⟩ x).setCell ⟨O3, 2, none⟩ y).setCell ⟨O4, 2, none⟩ z = V) :
    (∀ b, b ≠ O1 → b ≠ O3 → b ≠ O4 → V.heap[b]? = w.heap[b]?) ∧ (∀ b o u, o ≠ 2 → w.cell? ⟨b, o, none⟩ = some u → V.cell? ⟨b, o, none⟩ = some u) ∧ (V.cell? ⟨O1, 2, none⟩ = some x ∧ V.cell? ⟨O3, 2, none⟩ = some y ∧ V.cell? ⟨O4, 2, none⟩ = some z) ∧ (∀ b o, V.frozen? ⟨b, o, none⟩ = w.frozen? ⟨b, o, none⟩) ∧
      ∀ u : World, Grow u w → u.heap.size ≤ O1 → u.heap.size ≤ O3 → u.heap.size ≤ O4 → Grow u V := by
  have ne : ∀ {b c o q : Nat}, (b ≠ c ∨ o ≠ q) → (⟨b, o, none⟩ : Addr) ≠ ⟨c, q, none⟩ := fun {b c o q} h e => by injection e with e1 e2; omega
  have kp : ∀ {W : World} {b c o q : Nat} {u t : Value}, (b ≠ c ∨ o ≠ q) → W.cell? ⟨b, o, none⟩ = some t → (W.setCell ⟨c, q, none⟩ u).cell? ⟨b, o, none⟩ = some t := fun {W b c o q u t} h hc => by
    rw [World.cell?_setCell_other _ _ _ _ (ne (h.imp Ne.symm Ne.symm))]; exact hc
  have g1 := bySet w O1 2 x
  have g2 := bySet (w.setCell ⟨O1, 2, none⟩ x) O3 2 y
  have g3 := bySet ((w.setCell ⟨O1, 2, none⟩ x).setCell ⟨O3, 2, none⟩ y) O4 2 z
  have s1 : (w.setCell ⟨O1, 2, none⟩ x).heap.size = w.heap.size := by simp
  have s2 : ((w.setCell ⟨O1, 2, none⟩ x).setCell ⟨O3, 2, none⟩ y).heap.size = w.heap.size := by simp
  obtain ⟨x1, hx1⟩ := Option.isSome_iff_exists.1 h1
  obtain ⟨x3, hx3⟩ := Option.isSome_iff_exists.1 h3
  obtain ⟨x4, hx4⟩ := Option.isSome_iff_exists.1 h4
  subst hV
  refine ⟨fun b b1 b3 b4 => ?_, fun b o u ho hc => kp (.inr ho) (kp (.inr ho) (kp (.inr ho) hc)), ⟨kp (.inl n14) (kp (.inl n13) (World.cell?_setCell_same' _ _ _ (by rw [hx1]; rfl))), kp (.inl n34) (World.cell?_setCell_same' _ _ _ (by rw [kp (.inl n13.symm) hx3]; rfl)), World.cell?_setCell_same' _ _ _ (by rw [kp (.inl n34.symm) (kp (.inl n14.symm) hx4)]; rfl)⟩,
    fun b o => by rw [World.frozen?_setCell, World.frozen?_setCell, World.frozen?_setCell], fun u hg u1 u3 u4 => ?_⟩
  · rw [Below.heap_setCell _ _ _ _ b4, Below.heap_setCell _ _ _ _ b3, Below.heap_setCell _ _ _ _ b1]
  · have k1 : Grow u (w.setCell ⟨O1, 2, none⟩ x) := Below.trans hg (grownBy_below g1 (fun k hk => by injection hk with hk; omega) hg.size)
    have k2 : Grow u ((w.setCell ⟨O1, 2, none⟩ x).setCell ⟨O3, 2, none⟩ y) := Below.trans k1 (grownBy_below g2 (fun k hk => by injection hk with hk; omega) k1.size)
    exact Below.trans k2 (grownBy_below g3 (fun k hk => by injection hk with hk; omega) k2.size)
end
end Go.Proofs.Ytbeglemohfbdfaa
namespace Go.Proofs.Ytbeglemohfbdfaa
open Go.RowKit Go.Instr

set_option maxRecDepth 100000 in
set_option maxHeartbeats 8000000 in
theorem lchaseMore (E F : Int) (v : Value) (ss : List (List Int)) (wi wj wk : Int) (w : World) (hv : IsSheets w v ss) (hwi : 0 ≤ wi ∧ wi < 256) (hwj : 0 ≤ wj ∧ wj < 256) (hwk : 0 ≤ wk ∧ wk < 256) :
    Calls Try.prog 9 #[.agg #[.int .i64 E, .int .i64 F, v], .int .u8 wi, .int .u8 wj, .int .u8 wk] w fun e w' => e = .returned (.bool true) ∧ Grow w w' := by
  have hmf : ∀ (fn : Fn) (first cap : Array Value) (w : World), (Instr.makeFunc fn first cap).run Try.prog w = .ok (.func fn first cap) w := fun _ _ _ _ => rfl
  obtain ⟨wn, rfl⟩ : ∃ n : Nat, wi = n := ⟨wi.toNat, by omega⟩
  obtain ⟨tn, rfl⟩ : ∃ n : Nat, wj = n := ⟨wj.toNat, by omega⟩
  obtain ⟨bn, rfl⟩ : ∃ n : Nat, wk = n := ⟨wk.toNat, by omega⟩
  have hwn : wn < 256 := by omega
  have htn : tn < 256 := by omega
  have hbn : bn < 256 := by omega
  clear hwi hwj hwk
  obtain ⟨a, cap, rfl, hcap, hlen, hrow⟩ := id hv
  have Hv := Lib.hid hv
  have Hrow := Lib.hid hrow
  clear hv hrow
  go_enter Try.func9, Try.ntmps9
  go_wp2_with fail
  have hgw : Grow w (w.alloc (.cells #[.int .i64 E, .int .i64 F, .slice a ss.length cap] 32)) := (Grow.refl w).alloc _
  have c0 : (w.alloc (.cells #[.int .i64 E, .int .i64 F, .slice a ss.length cap] 32)).cell? ⟨w.heap.size, 0, none⟩ = some (.int .i64 E) := cell_new rfl rfl
  have c1 : (w.alloc (.cells #[.int .i64 E, .int .i64 F, .slice a ss.length cap] 32)).cell? ⟨w.heap.size, 1, none⟩ = some (.int .i64 F) := cell_new rfl rfl
  have c2 : (w.alloc (.cells #[.int .i64 E, .int .i64 F, .slice a ss.length cap] 32)).cell? ⟨w.heap.size, 2, none⟩ = some (.slice a ss.length cap) := cell_new rfl rfl
  obtain ⟨W, hW⟩ : ∃ z, w.alloc (.cells #[.int .i64 E, .int .i64 F, .slice a ss.length cap] 32) = z := ⟨_, rfl⟩
  obtain ⟨B, hB⟩ : ∃ z, w.heap.size = z := ⟨_, rfl⟩
  rw [hW] at hgw c0 c1 c2
  rw [hB] at c0 c1 c2
  rw [hW, hB]
  have HB := Lib.hid hB
  clear hW hB
  refine (llong_any E F _ ss _ (Hv.out.grow hgw)).mono ?_
  rintro e w1 ⟨⟨b, rfl⟩, g1⟩
  have G1 := hgw.trans g1
  have d0 := g1.keeps c0
  have d1 := g1.keeps c1
  have d2 := g1.keeps c2
  clear c0 c1 c2 g1
  cases b
  case true =>
    go_wp2_with (go_at_call 19; refine (lalive_any _).mono ?_; rintro e w2 ⟨rfl, g2⟩)
    go_ret
    exact ⟨rfl, G1.trans g2⟩
  cases hval : validB E F ss
  case false =>
    have Hval := Lib.hid hval
    clear hval
    go_wp2_with first | (go_at_call 29; refine (rChase_any E F _ ss _ (Hv.out.grow G1)).mono ?_; rw [Hval.out]; rintro e w2 ⟨rfl, g2⟩) | (go_at_call 19; refine (lalive_any _).mono ?_; rintro e w3 ⟨rfl, g3⟩)
    go_ret
    exact ⟨rfl, (G1.trans g2).trans g3⟩
  have Hval := Lib.hid hval
  obtain ⟨hE, hn6, hF6, hll⟩ := valid_parts hval
  have Hll := Lib.hid hll
  clear hval hll
  have hnn : (ss.length : Int) ≤ 6 := by omega
  obtain ⟨p, hpd⟩ : ∃ p, wn % ss.length = p := ⟨_, rfl⟩
  have hp : p < ss.length := by rw [← hpd]; exact Nat.mod_lt _ (by omega)
  have hrem : (wn : Int).tmod (ss.length : Int) = (p : Int) := by rw [← hpd]; exact (Int.ofNat_tmod wn ss.length).symm
  have hcv : IntKind.i64.wrap (wn : Int) = (wn : Int) := IntWalk.i64_in _ (by omega)
  have hne0 : (ss.length : Int) ≠ 0 := by omega
  obtain ⟨ab, ao, s0, sa0, sc0, hx0, rfl, _⟩ := Hrow.out.get (i := 0) (by omega)
  obtain ⟨vs, hvl, hvr, hvi⟩ := Hrow.out.vals
  have hone : ∀ x ∈ vs, x.oneCell' = true := by
    intro x hx
    obtain ⟨i, hi, rfl⟩ := List.getElem_of_mem hx
    obtain ⟨a2, c2, h2, _⟩ := hvi i vs[i] (ss[i]'(by omega)) (by simp [hi]) (by simp; try omega)
    rw [h2]; rfl
  have Hvr := Lib.hid hvr
  have Hvi := Lib.hid hvi
  have Hone := Lib.hid hone
  clear hvr hvi hone hx0
  go_upto_region 4 with (go_at_call 29; refine (rChase_any E F _ ss _ (Hv.out.grow G1)).mono ?_; rintro e w2 ⟨rfl, g2⟩; rw [Hval.out]; have k0 := g2.keeps d0; have k1 := g2.keeps d1; have k2 := g2.keeps d2; have hlk := lt_of_cell k0)
  have G2 := G1.trans g2
  clear d0 d1 d2 g2 G1 hgw hpd hrem hcv
  refine wp_more4 E F (some ⟨ab, ao, none⟩) ss.length cap B w2 _ k0 k1 k2 ?_
  intro O1 O2 O3 O4 z68 z69 z70 z71 V gV hbx hne
  obtain ⟨n12, n13, n14, n23, n24, n34⟩ := hne
  obtain ⟨o1s, o10, o11, o12, o1f⟩ := hbx O1 (.inl rfl)
  obtain ⟨o2s, o20, o21, o22, o2f⟩ := hbx O2 (.inr (.inl rfl))
  obtain ⟨o3s, o30, o31, o32, o3f⟩ := hbx O3 (.inr (.inr (.inl rfl)))
  obtain ⟨o4s, o40, o41, o42, o4f⟩ := hbx O4 (.inr (.inr (.inr rfl)))
  obtain ⟨j0, hj0, hj1, hj2, hj3⟩ := info_parts pinfo_ints7
  have hul : Try.prog.underlying 30 = some (.slice 40) := by kernel_rfl
  have l1 := lt_of_cell o10
  have l2 := lt_of_cell o20
  have l3 := lt_of_cell o30
  have l4 := lt_of_cell o40
  have p0 := gV.keeps k0
  have p1 := gV.keeps k1
  have p2 := gV.keeps k2
  have lB := lt_of_cell p0
  have hX1 : Grow V (V.alloc (.cells #[] 40)) := (Grow.refl V).alloc _
  have hown0 : Own (V.alloc (.cells #[] 40)) V.heap.size 40 (.slice (some ⟨V.heap.size, 0, none⟩) 0 0) [] := Own.new0 (Nat.le_refl _) rfl
  have Hown0 := Lib.hid hown0
  have Hvr1 := Lib.hid (Hvr.out.grow ((G2.trans gV).trans hX1))
  have hbyt : (([] : List Value).length + vs.length) * 24 ≤ 140737488355328 := by simp; omega
  clear hbx hown0
  go_upto_region 6 with (at_builtin; refine wpl_app rfl _ _ 30 rfl V.heap.size 40 j0 _ 24 hul hj0 hj1 hj2 hj3 rfl (.slice (some ⟨V.heap.size, 0, none⟩) 0 0) [] (by rfl) Hown0.out (some ⟨ab, ao, none⟩) cap vs ss.length rfl hvl (fun h => nomatch h) Hvr1.out Hone.out hbyt (by omega) (by simp) ?_; intro v1 w5 hown1 hgr1 hmv1; rw [List.nil_append] at hown1; obtain ⟨xb, xc, hxv, _⟩ := hown1.some hvl (by omega); subst hxv; have gX : Grow V w5 := Below.trans hX1 (grownBy_below hgr1 (fun k hk => by have : V.heap.size = k := (by simpa [Value.ownBlock] using hk); omega) (by simp)); have r12 := gX.keeps o12; have r32 := gX.keeps o32; have r42 := gX.keeps o42; have y1 : ∀ o, w5.frozen? ⟨O1, o, none⟩ = false := (fun o => (gX.marks _ _ l1).trans (o1f o)); have y3 : ∀ o, w5.frozen? ⟨O3, o, none⟩ = false := (fun o => (gX.marks _ _ l3).trans (o3f o)); have y4 : ∀ o, w5.frozen? ⟨O4, o, none⟩ = false := (fun o => (gX.marks _ _ l4).trans (o4f o)); have Hown1 := Lib.hid hown1; clear hown1 hgr1 hmv1)
  obtain ⟨W5, hW5⟩ : ∃ z, ((w5.setCell ⟨O1, 2, none⟩ (.slice (some ⟨xb, 0, none⟩) ss.length xc)).setCell ⟨O3, 2, none⟩ (.slice none 0 0)).setCell ⟨O4, 2, none⟩ (.slice none 0 0) = z := ⟨_, rfl⟩
  obtain ⟨t1, t2, ⟨t3, t4, t5⟩, t6, t7⟩ := three_sets n13 n14 n34 (by rw [r12]; rfl) (by rw [r32]; rfl) (by rw [r42]; rfl) hW5
  rw [hW5]
  have hxbD : V.heap.size ≤ xb := Hown1.out.base xb rfl
  have g25 : Grow w2 W5 := t7 w2 (gV.trans gX) o1s o3s o4s
  have hown5 : Own W5 V.heap.size 40 (.slice (some ⟨xb, 0, none⟩) ss.length xc) vs := own_same Hown1.out fun b hb => t1 b (by have := Hown1.out.base b hb; omega) (by have := Hown1.out.base b hb; omega) (by have := Hown1.out.base b hb; omega)
  have a10 := t2 _ _ _ (by decide) (gX.keeps o10)
  have a11 := t2 _ _ _ (by decide) (gX.keeps o11)
  have a20 := t2 _ _ _ (by decide) (gX.keeps o20)
  have a21 := t2 _ _ _ (by decide) (gX.keeps o21)
  have a22 : W5.cell? ⟨O2, 2, none⟩ = some (.slice (some ⟨ab, ao, none⟩) ss.length cap) := cell_same (t1 O2 n12.symm n23 n24) (gX.keeps o22)
  have a30 := t2 _ _ _ (by decide) (gX.keeps o30)
  have a31 := t2 _ _ _ (by decide) (gX.keeps o31)
  have a40 := t2 _ _ _ (by decide) (gX.keeps o40)
  have a41 := t2 _ _ _ (by decide) (gX.keeps o41)
  have b0 := g25.keeps k0
  have b1 := g25.keeps k1
  have b2 := g25.keeps k2
  have f2 : ∀ o, W5.frozen? ⟨O2, o, none⟩ = false := fun o => (t6 O2 o).trans ((gX.marks _ _ l2).trans (o2f o))
  have f3 : ∀ o, W5.frozen? ⟨O3, o, none⟩ = false := fun o => (t6 O3 o).trans (y3 o)
  have f4 : ∀ o, W5.frozen? ⟨O4, o, none⟩ = false := fun o => (t6 O4 o).trans (y4 o)
  have hVw5 : V.heap.size ≤ W5.heap.size := by rw [← hW5]; simpa using gX.size
  clear t1 t2 t6 t7 hW5 r12 r32 r42 y1 y3 y4 o10 o11 o12 o1f o20 o21 o22 o2f o30 o31 o32 o3f o40 o41 o42 o4f Hown0 Hvr1 Hown1 gX hX1 p0 p1 p2 hbyt
  obtain ⟨b9, o9, l, la, lc, hl, hab, hcl, hlc, hl8, hlr⟩ := Hrow.out.get (i := p) hp
  injection hab with hab
  injection hab with hab1 hab2 _
  subst hab1
  subst hab2
  have hl13 := Hll.out l (List.mem_of_getElem? hl)
  obtain ⟨lb, lo, rfl⟩ : ∃ lb lo, la = some ⟨lb, lo, none⟩ := by
    obtain ⟨b, o, h, _⟩ := hlr 0 (.int .i64 l[0]) (by simp [List.getElem?_eq_getElem (show 0 < l.length by omega)])
    exact ⟨b, o, h⟩
  have hil : IsInts w (.slice (some ⟨lb, lo, none⟩) l.length lc) l := ⟨_, _, rfl, hlc, hl8, hlr⟩
  obtain ⟨lb2, hlbq, hlb⟩ := hil.lt (by intro e; subst e; simp at hl13)
  have hlbq : lb = lb2 := by simpa [Value.ownBlock] using hlbq
  subst hlbq
  have hab9 := lt_of_cell hcl
  have G25 := G2.trans g25
  have wsz := G2.size
  have vsz := gV.size
  have Hl := Lib.hid hl
  have Hil := Lib.hid (hil.grow G25)
  have ccl := G25.keeps hcl
  have Ht := Lib.hid (⟨_, rfl⟩ : ∃ t : Int, ((tn % 201 : Nat) : Int) = t)
  obtain ⟨t, ht⟩ := Ht.out
  refine wp_more6 W5 V.heap.size B O1 xb ss.length xc ab ao cap lb lo lc p tn t l vs _ hown5 hvl t3 b2 ccl Hil.out (by omega) hp ⟨l1, lB, by omega, by omega⟩ htn ht ?_
  intro z79 z80 z81 z82 z83 z84 z85 z86 z87 z88 z89 z90 z91 z92 z93 z94 V6 hG6 hown6 hin6 hba6
  have g26 : Grow w2 V6 := Below.trans g25 (grownBy_below hG6 (fun k hk => by injection hk with hk; omega) g25.size)
  have nx : ∀ b, b < V.heap.size → (some xb : Option Nat) ≠ some b := fun b hb e => by injection e with e; omega
  replace a10 := byCell1 hG6 a10 (nx _ l1)
  replace a11 := byCell1 hG6 a11 (nx _ l1)
  have a12 := byCell1 hG6 t3 (nx _ l1)
  replace a20 := byCell1 hG6 a20 (nx _ l2)
  replace a21 := byCell1 hG6 a21 (nx _ l2)
  replace a22 := byCell1 hG6 a22 (nx _ l2)
  replace a30 := byCell1 hG6 a30 (nx _ l3)
  replace a31 := byCell1 hG6 a31 (nx _ l3)
  have a32 := byCell1 hG6 t4 (nx _ l3)
  replace a40 := byCell1 hG6 a40 (nx _ l4)
  replace a41 := byCell1 hG6 a41 (nx _ l4)
  have a42 := byCell1 hG6 t5 (nx _ l4)
  replace b0 := g26.keeps k0
  replace b1 := g26.keeps k1
  replace b2 := g26.keeps k2
  have hot6 : ∀ b o, b < V.heap.size → V6.frozen? ⟨b, o, none⟩ = W5.frozen? ⟨b, o, none⟩ := fun b o hb => hG6.frozen_far ⟨b, o, none⟩ (Nat.lt_of_lt_of_le hb hVw5) fun e => nx b hb e.symm
  replace f2 : ∀ o, V6.frozen? ⟨O2, o, none⟩ = false := fun o => (hot6 O2 o l2).trans (f2 o)
  replace f3 : ∀ o, V6.frozen? ⟨O3, o, none⟩ = false := fun o => (hot6 O3 o l3).trans (f3 o)
  replace f4 : ∀ o, V6.frozen? ⟨O4, o, none⟩ = false := fun o => (hot6 O4 o l4).trans (f4 o)
  have l26 := lt_of_cell a20
  have lb6 := lt_of_cell b0
  have Hown6 := Lib.hid hown6
  have Hin6 := Lib.hid hin6
  have Hba6 := Lib.hid hba6
  have hW5V6 := hG6.size
  have E1 : wrap64 (E - 1) = E - 1 := IntWalk.wrap64_in _ (by omega)
  have E2 : IntKind.i64.wrap (bn : Int) = (bn : Int) := IntWalk.i64_in _ (by omega)
  obtain ⟨mn, hmn⟩ : ∃ m, bn % 20 = m := ⟨_, rfl⟩
  have E3 : (bn : Int).tmod 20 = (mn : Int) := by rw [← hmn]; exact (Int.ofNat_tmod bn 20).symm
  have hmn2 : mn < 20 := by rw [← hmn]; exact Nat.mod_lt _ (by decide)
  clear hown6 hin6 hba6 hG6 hot6 hown5 t3 t4 t5 hmn
  go_upto_block 0 with fail
  obtain ⟨W7, hW7⟩ : ∃ z, V6.setCell ⟨O2, 0, none⟩ (.int .i64 (max 0 (E - 1))) = z := ⟨_, rfl⟩
  rw [hW7]
  have hby := bySet V6 O2 0 (.int .i64 (max 0 (E - 1)))
  rw [hW7] at hby
  have g27 : Grow w2 W7 := Below.trans g26 (grownBy_below hby (fun k hk => by injection hk with hk; omega) g26.size)
  have ny : ∀ b, b ≠ O2 → (some O2 : Option Nat) ≠ some b := fun b hb e => by injection e with e; omega
  replace a10 := byCell1 hby a10 (ny _ n12)
  replace a11 := byCell1 hby a11 (ny _ n12)
  replace a12 := byCell1 hby a12 (ny _ n12)
  have c20 : W7.cell? ⟨O2, 0, none⟩ = some (.int .i64 (max 0 (E - 1))) := by rw [← hW7]; exact World.cell?_setCell_same' _ _ _ (by rw [a20]; rfl)
  have c21 : W7.cell? ⟨O2, 1, none⟩ = some (.int .i64 F) := by rw [← hW7, World.cell?_setCell_other _ _ _ _ (by simp)]; exact a21
  have c22 : W7.cell? ⟨O2, 2, none⟩ = some (.slice (some ⟨ab, ao, none⟩) ss.length cap) := by rw [← hW7, World.cell?_setCell_other _ _ _ _ (by simp)]; exact a22
  replace a30 := byCell1 hby a30 (ny _ n23.symm)
  replace a31 := byCell1 hby a31 (ny _ n23.symm)
  replace a32 := byCell1 hby a32 (ny _ n23.symm)
  replace a40 := byCell1 hby a40 (ny _ n24.symm)
  replace a41 := byCell1 hby a41 (ny _ n24.symm)
  replace a42 := byCell1 hby a42 (ny _ n24.symm)
  replace f3 : ∀ o, W7.frozen? ⟨O3, o, none⟩ = false := fun o => by rw [← hW7, World.frozen?_setCell]; exact f3 o
  replace f4 : ∀ o, W7.frozen? ⟨O4, o, none⟩ = false := fun o => by rw [← hW7, World.frozen?_setCell]; exact f4 o
  have hW7s : W7.heap.size = V6.heap.size := by rw [← hW7]; simp
  have h67 : ∀ b, b ≠ O2 → W7.heap[b]? = V6.heap[b]? := fun b hb => by rw [← hW7]; exact Below.heap_setCell _ _ _ _ hb
  clear hby hW7 a20 a21 a22 f2 E1 E2 E3
  have G27 := G2.trans g27
  have w7sz := g27.size
  have hsh : ∀ (i : Nat) (s : List Int), ss[i]? = some s → (1 ≤ s.length ∧ s.length ≤ 3) ∧ (∀ x ∈ s, 0 ≤ x ∧ x ≤ 200) ∧ ∃ lb lo lc, W7.cell? ⟨ab, ao + i, none⟩ = some (.slice (some ⟨lb, lo, none⟩) s.length lc) ∧ IsInts W7 (.slice (some ⟨lb, lo, none⟩) s.length lc) s ∧ lb < W7.heap.size ∧ lb ≠ O3 ∧ lb ≠ O4 := fun i s hs => by
    have hi := (List.getElem?_eq_some_iff.1 hs).1
    obtain ⟨b8, o8, s8, sa, sc, hs8, e8, hc8, h81, h82, h83⟩ := Hrow.out.get (i := i) hi
    rw [hs] at hs8
    cases hs8
    cases e8
    have h13 := Hll.out s (List.mem_of_getElem? hs)
    obtain ⟨l8, q8, rfl⟩ : ∃ lb lo, sa = some ⟨lb, lo, none⟩ := by
      obtain ⟨b, o, h, _⟩ := h83 0 (.int .i64 s[0]) (by simp [List.getElem?_eq_getElem (show 0 < s.length by omega)])
      exact ⟨b, o, h⟩
    have hi8 : IsInts w (.slice (some ⟨l8, q8, none⟩) s.length sc) s := ⟨_, _, rfl, h81, h82, h83⟩
    obtain ⟨l9, e9, h9⟩ := hi8.lt (by intro e; subst e; simp at h13)
    have e9 : l8 = l9 := by simpa [Value.ownBlock] using e9
    subst e9
    exact ⟨h13.1, h13.2, l8, q8, sc, G27.keeps hc8, hi8.grow G27, by omega, by omega, by omega⟩
  refine wp_moreB0 E F mn W7.heap.size O3 O4 ab ao cap ss W7 _ rfl ⟨by omega, by omega, by omega⟩ n34 hsh (by omega) ⟨by omega, by omega⟩ ⟨a30, a31, a32, f3⟩ ⟨a40, a41, a42, f4⟩ ?_
  intro z16 z18 z19 z20 z21 z22 z106 z107 z108 z109 z110 z111 z112 z113 z114 z115 z116 z117 z118 z119 z120 z121 z122 z123 z124 z125 z126 z127 z128 z129 z130 z131 z132 z133 z134 z135 z136 z137 z138 z139 z140 z141 z142 z143 z144 z145 z146 z147 z148 z149 z150 z151 z152 z153 z154 z155 z156 z157 z158 V8 hB0
  obtain ⟨ow, zv, tv, vz, vt, vk, ⟨L1, L2, L3⟩, ⟨⟨e30, e31, e32, _⟩, _⟩, ⟨⟨e40, e41, e42, _⟩, _⟩, hO⟩ := hB0
  rw [List.take_length] at L1 L2 L3
  have g28 : Grow w2 V8 := hO.below g27 w7sz o3s o4s
  have G28 := G2.trans g28
  have hz := L1.sheets (by simp; omega)
  have htv := L2.sheets (by simp; omega)
  have hkv := L3.sheets (by omega)
  have h78 : ∀ b, b < W7.heap.size → b ≠ O3 → b ≠ O4 → V8.heap[b]? = W7.heap[b]? := hO.2
  have d10 := hO.cell a10 (by omega) n13 n14
  have d11 := hO.cell a11 (by omega) n13 n14
  have d12 := hO.cell a12 (by omega) n13 n14
  have d20 := hO.cell c20 (by omega) n23 n24
  have d21 := hO.cell c21 (by omega) n23 n24
  have d22 := hO.cell c22 (by omega) n23 n24
  have h68 : ∀ b, b < W7.heap.size → b ≠ O2 → b ≠ O3 → b ≠ O4 → V8.heap[b]? = V6.heap[b]? := fun b hb h2 h3 h4 => (h78 b hb h3 h4).trans (h67 b h2)
  have hown8 := own_same Hown6.out (V := V8) fun b hb => by
    have k1 := Hown6.out.base b hb
    have k2 := (Hown6.out.lt b hb).2
    exact h68 b (by omega) (by omega) (by omega) (by omega)
  have hin8 := Hin6.out.same (V := V8) fun b hb => by
    have k1 := Hba6.out b hb
    obtain ⟨k, e, k2⟩ := Hin6.out.lt (by simp)
    rw [hb] at e
    injection e with e
    subst e
    exact h68 b (by omega) (by omega) (by omega) (by omega)
  have hxs : IsSheets V8 (.slice (some ⟨xb, 0, none⟩) ss.length xc) (ss.set p (l ++ [t])) := own_sheets hown8 (by rw [List.length_set, List.length_set, hvl]) (fun i x s hx hs => by
    by_cases e : p = i
    · subst e
      rw [List.getElem?_set_self (by omega)] at hx hs
      cases hx
      cases hs
      exact hin8
    · rw [List.getElem?_set_ne e] at hx hs
      exact (Hvi.out i x s hx hs).grow G28) (by rw [List.length_set]; omega)
  have Hz := Lib.hid hz
  have Htv := Lib.hid htv
  have Hkv := Lib.hid hkv
  have Hxs := Lib.hid hxs
  have Hcs := Lib.hid (Hv.out.grow G28)
  obtain ⟨zva, zvc, rfl, _⟩ := id hz
  obtain ⟨tva, tvc, rfl, _⟩ := id htv
  replace b0 := g28.keeps k0
  replace b1 := g28.keeps k1
  replace b2 := g28.keeps k2
  rw [List.length_map] at e32 e42
  have Ho := Lib.hid L3.1.1
  clear hz htv hkv hxs hown8 hin8 L1 L2 L3 hO h78 h67 h68 hsh a10 a11 a12 a30 a31 a32 a40 a41 a42 c20 c21 c22 Hown6 Hin6 Hba6 f3 f4
  obtain ⟨kva, kvc, rfl, _⟩ := id Hkv.out
  obtain ⟨e0, he0⟩ : ∃ z, errOf E F ss true = z := ⟨_, rfl⟩
  obtain ⟨N0, hN0⟩ : ∃ z, ordersV E F ss = z := ⟨_, rfl⟩
  obtain ⟨cl, hcl0⟩ : ∃ z, (cutE E F ss).1 = z := ⟨_, rfl⟩
  obtain ⟨ch, hch0⟩ : ∃ z, (cutE E F ss).2 = z := ⟨_, rfl⟩
  have QC : Hid (∀ V, Grow V8 V → Calls Try.prog 23 #[.agg #[.int .i64 E, .int .i64 F, .slice (some ⟨ab, ao, none⟩) ss.length cap]] V fun e V2 => e = .returned (.tuple #[.agg #[.int .i64 cl, .int .i64 ch], .int .i64 e0]) ∧ Grow V V2) := (fun V hV => by have := pCut_any E F _ ss V (Hcs.out.grow hV); rwa [he0, hcl0, hch0] at this : ∀ V, Grow V8 V → Calls Try.prog 23 #[.agg #[.int .i64 E, .int .i64 F, .slice (some ⟨ab, ao, none⟩) ss.length cap]] V fun e V2 => e = .returned (.tuple #[.agg #[.int .i64 cl, .int .i64 ch], .int .i64 e0]) ∧ Grow V V2)
  have QO : Hid (∀ V, Grow V8 V → Calls Try.prog 24 #[.agg #[.int .i64 E, .int .i64 F, .slice (some ⟨ab, ao, none⟩) ss.length cap]] V fun e V2 => e = .returned (.tuple #[.int .i64 N0, .int .i64 e0]) ∧ Grow V V2) := (fun V hV => by have := pOrders_any E F _ ss V (Hcs.out.grow hV); rwa [he0, hN0] at this : ∀ V, Grow V8 V → Calls Try.prog 24 #[.agg #[.int .i64 E, .int .i64 F, .slice (some ⟨ab, ao, none⟩) ss.length cap]] V fun e V2 => e = .returned (.tuple #[.int .i64 N0, .int .i64 e0]) ∧ Grow V V2)
  have He0 := Lib.hid he0
  have HN0 := Lib.hid hN0
  have Hcl0 := Lib.hid hcl0
  have Hch0 := Lib.hid hch0
  clear he0 hN0 hcl0 hch0
  have lB8 := lt_of_cell b0
  have lO1 := lt_of_cell d10
  have lO2 := lt_of_cell d20
  have lO3 := lt_of_cell e30
  have lO4 := lt_of_cell e40
  go_upto_region 23 with (go_at_call 23; refine (QC.out _ (Grow.refl _)).mono ?_; rintro e v2 ⟨rfl, g1⟩; dsimp only)
  obtain ⟨CC, hCC⟩ : ∃ z, v2.heap.size = z := ⟨_, rfl⟩
  obtain ⟨v3, hv3⟩ : ∃ z, v2.alloc (.cells #[.int .i64 cl, .int .i64 ch] 23) = z := ⟨_, rfl⟩
  have g2 : Grow v2 v3 := by rw [← hv3]; exact (Grow.refl _).alloc _
  have m0 : v3.cell? ⟨CC, 0, none⟩ = some (.int .i64 cl) := by rw [← hv3]; exact cell_new hCC.symm rfl
  have m1 : v3.cell? ⟨CC, 1, none⟩ = some (.int .i64 ch) := by rw [← hv3]; exact cell_new hCC.symm rfl
  rw [hv3, hCC]
  have GA := g1.trans g2
  replace b0 := GA.keeps b0
  replace b1 := GA.keeps b1
  replace b2 := GA.keeps b2
  replace d10 := GA.keeps d10
  replace d11 := GA.keeps d11
  replace d12 := GA.keeps d12
  replace d20 := GA.keeps d20
  replace d21 := GA.keeps d21
  replace d22 := GA.keeps d22
  replace e30 := GA.keeps e30
  replace e31 := GA.keeps e31
  replace e32 := GA.keeps e32
  replace e40 := GA.keeps e40
  replace e41 := GA.keeps e41
  replace e42 := GA.keeps e42
  clear lB8 lO1 lO2 lO3 lO4
  have lB8 := lt_of_cell b0
  have lO1 := lt_of_cell d10
  have lO2 := lt_of_cell d20
  have lO3 := lt_of_cell e30
  have lO4 := lt_of_cell e40
  clear hv3 hCC g1 g2
  go_upto_region 24 with (go_at_call 24; refine (QO.out _ GA).mono ?_; rintro e v4 ⟨rfl, g1⟩; dsimp only)
  have GB := GA.trans g1
  replace b0 := g1.keeps b0
  replace b1 := g1.keeps b1
  replace b2 := g1.keeps b2
  replace d10 := g1.keeps d10
  replace d11 := g1.keeps d11
  replace d12 := g1.keeps d12
  replace d20 := g1.keeps d20
  replace d21 := g1.keeps d21
  replace d22 := g1.keeps d22
  replace e30 := g1.keeps e30
  replace e31 := g1.keeps e31
  replace e32 := g1.keeps e32
  replace e40 := g1.keeps e40
  replace e41 := g1.keeps e41
  replace e42 := g1.keeps e42
  replace m0 := g1.keeps m0
  replace m1 := g1.keeps m1
  clear lB8 lO1 lO2 lO3 lO4
  have lB8 := lt_of_cell b0
  have lO1 := lt_of_cell d10
  have lO2 := lt_of_cell d20
  have lO3 := lt_of_cell e30
  have lO4 := lt_of_cell e40
  clear g1 GA QC QO
  go_upto_block 4 with fail
  obtain ⟨AR, hAR⟩ : ∃ z, v4.heap.size = z := ⟨_, rfl⟩
  obtain ⟨v5, hv5⟩ : ∃ z, v4.alloc (.cells #[.int .i64 E, .int .i64 F, .slice (some ⟨xb, 0, none⟩) ss.length xc, .int .i64 (max 0 (E - 1)), .int .i64 F, .slice (some ⟨ab, ao, none⟩) ss.length cap, .int .i64 E, .int .i64 F, .slice zva ss.length zvc, .int .i64 E, .int .i64 F, .slice tva ss.length tvc] 32) = z := ⟨_, rfl⟩
  have g5 : Grow v4 v5 := by rw [← hv5]; exact (Grow.refl _).alloc _
  have hcn : ∀ (i : Nat) (x : Value), (#[.int .i64 E, .int .i64 F, .slice (some ⟨xb, 0, none⟩) ss.length xc, .int .i64 (max 0 (E - 1)), .int .i64 F, .slice (some ⟨ab, ao, none⟩) ss.length cap, .int .i64 E, .int .i64 F, .slice zva ss.length zvc, .int .i64 E, .int .i64 F, .slice tva ss.length tvc] : Array Value)[i]? = some x → v5.cell? ⟨AR, i, none⟩ = some x := fun i x hx => by rw [← hv5]; exact cell_new hAR.symm hx
  rw [hv5, hAR]
  have GC := GB.trans g5
  have q0 := g5.keeps b0
  have q1 := g5.keeps b1
  have q2 := g5.keeps b2
  have r0 := g5.keeps m0
  have r1 := g5.keeps m1
  have G5 : Grow w v5 := (G2.trans g28).trans GC
  clear hv5 hAR b0 b1 b2 d10 d11 d12 d20 d21 d22 e30 e31 e32 e40 e41 e42 m0 m1 lB8 lO1 lO2 lO3 lO4 g5 GB
  have Hcn := Lib.hid hcn
  clear hcn
  have hmE : max 0 (E - 1) ≤ E := by omega
  have hHv := Hval.out
  refine wp_moreB4 E F mn e0 N0 cl ch (some ⟨ab, ao, none⟩) ss.length cap p B CC AR (edgeB ss) v5 _ ⟨q0, q1, q2⟩ ⟨r0, r1⟩ (by omega) ?_ ?_
  · intro i hi
    obtain rfl | rfl | rfl | rfl : i = 0 ∨ i = 1 ∨ i = 2 ∨ i = 3 := by omega
    · refine ⟨E, _, _, _, validB E F (ss.set p (l ++ [t])), ⟨Hcn.out 0 _ rfl, Hcn.out 1 _ rfl, Hcn.out 2 _ rfl⟩, fun V hV => by have := rChase_any E F _ (ss.set p (l ++ [t])) V (Hxs.out.grow (GC.trans hV)); exact this, fun hv2 _ => ?_⟩
      have h3 : (l ++ [t]).length ≤ 3 := ((valid_parts hv2).2.2.2 _ (List.mem_of_getElem? (List.getElem?_set_self hp))).1.2
      have h := more_one (Hcs.out.grow GC) (Hxs.out.grow GC) hHv hv2 (more_watch Hl.out h3) hp ⟨by omega, by omega⟩
      rw [He0.out, HN0.out, Hcl0.out, Hch0.out] at h
      exact h
    · refine ⟨max 0 (E - 1), _, _, _, validB (max 0 (E - 1)) F ss, ⟨Hcn.out 3 _ rfl, Hcn.out 4 _ rfl, Hcn.out 5 _ rfl⟩, fun V hV => rChase_any _ F _ ss V (Hcs.out.grow (GC.trans hV)), fun hv2 _ => ?_⟩
      have h := more_one (Hcs.out.grow GC) (Hcs.out.grow GC) hHv hv2 (more_error (F := F) hmE Hl.out hl13.1.2) hp ⟨by omega, by omega⟩
      rw [He0.out, HN0.out, Hcl0.out, Hch0.out] at h
      exact h
    · refine ⟨E, _, _, _, validB E F (ss.map fun l => l.map (· + (mn : Int))), ⟨Hcn.out 6 _ rfl, Hcn.out 7 _ rfl, Hcn.out 8 _ rfl⟩, fun V hV => by have := rChase_any E F _ _ V (Hz.out.grow (GC.trans hV)); rw [List.length_map] at this; exact this, fun hv2 hed => ?_⟩
      have hed := hed rfl
      have hz3 := Hz.out.grow GC
      have h := more_one (Hcs.out.grow GC) hz3 hHv hv2 (more_times (F := F) (p := p) hE (by omega) fun l hl => ⟨(Hll.out l hl).1.1, fun n hn => ?_⟩) hp ⟨by omega, by omega⟩
      · rw [He0.out, HN0.out, Hcl0.out, Hch0.out, List.length_map] at h
        exact h
      · have h1 := ((valid_parts hv2).2.2.2 _ (List.mem_map.2 ⟨l, hl, rfl⟩)).2 (n + mn) (List.mem_map.2 ⟨n, hn, rfl⟩)
        have h2 : ¬ n < 3 := fun h => by
          have : edgeB ss = true := List.any_eq_true.2 ⟨l, hl, List.any_eq_true.2 ⟨n, hn, by simpa using h⟩⟩
          rw [this] at hed
          cases hed
        omega
    · refine ⟨E, _, _, _, validB E F (ss.map List.reverse), ⟨Hcn.out 9 _ rfl, Hcn.out 10 _ rfl, Hcn.out 11 _ rfl⟩, fun V hV => by have := rChase_any E F _ _ V (Htv.out.grow (GC.trans hV)); rw [List.length_map] at this; exact this, fun hv2 _ => ?_⟩
      have h := more_one (Hcs.out.grow GC) (Htv.out.grow GC) hHv hv2 (more_turned (F := F) (p := p) fun l hl => (Hll.out l hl).1.2) hp ⟨by omega, by omega⟩
      rw [He0.out, HN0.out, Hcl0.out, Hch0.out, List.length_map] at h
      exact h
  intro w8 w28 w29 w30 w31 w32 w33 w34 w35 w36 w37 w38 w39 w40 w41 w42 w43 w44 w45 w46 w47 w48 w49 w50 w51 w178 w179 w180 w181 w182 w183 w184 w185 w186 w187 w188 w189 w190 w191 w192 w193 w194 w195 w196 w197 w198 w199 w200 w201 w202 w203 w204 w205 w206 w207 w208 w209 w210 w211 w212 w213 w214 w215 w216 w217 w218 w219 w220 w221 w222 w223 w224 w225 w226 w227 w228 w229 w230 w231 w232 w233 w234 w235 w236 w237 w238 w239 w240 w241 w242 w243 w244 w245 w246 w247 w248 w249 w250 w251 w252 w253 w254 w255 w256 w257 w258 w259 w260 w261 w262 w263 w264 w265 w266 w267 w268 w269 w270 w271 w272 w273 w274 w275 w276 w277 w278 w279 w280 w281 w282 w283 w284 w285 w286 w287 w288 w289 w290 w291 w292 w293 w294 w295 w296 w297 w298 w299 w300 w301 w302 w303 w304 w305 w306 w307 w308 w309 w310 w311 w312 w313 w314 w315 w316 w317 w318 w319 w320 w321 w322 w323 w324 w325 w326 w327 w328 w329 w330 w331 w332 w333 w334 w335 w336 w337 w338 w339 w340 w341 w342 w343 w344 w345 w346 w347 w348 w349 w350 w351 w352 w353 w354 w355 w356 w357 w358 w359 w360 w361 w362 w363 w364 w365 w366 w367 w368 w369 w370 w371 w372 w373 w374 w375 w376 w377 w378 w379 w380 w381 w382 w383 w384 w385 w386 w387 w388 w389 w390 w391 w392 w393 w394 w395 w396 w397 w398 w399 w400 w401 w402 w403 w404 w405 w406 w407 w408 w409 w410 w411 w412 w413 w414 w415 w416 w417 w418 w419 w420 w421 w422 w423 w424 w425 w426 w427 w428 w429 w430 w431 w432 w433 w434 w435 w436 w437 w438 w439 w440 w441 w442 w443 w444 w445 w446 w447 w448 w449 w450 w451 w452 w453 w454 w455 w456 w457 w458 w459 w460 w461 w462 w463 w464 w465 w466 w467 w468 w469 V9 g9
  have GD := GC.trans g9
  have G9 := G5.trans g9
  have s0 := g9.keeps q0
  have s1 := g9.keeps q1
  have s2 := g9.keeps q2
  clear q0 q1 q2 r0 r1 Hcn hHv GC G5 g9
  go_wp2_with fail
  go_loopw [472] (fun i wr => ∃ k : Nat, k ≤ ss.length ∧ i = .int .i64 k ∧ Grow V9 wr) (fun i _ => ss.length - (intOf i).toNat)
  case atStart => exact ⟨0, Nat.zero_le _, rfl, Grow.refl _⟩
  case round =>
    obtain ⟨k, hk, rfl, hg⟩ := hrel
    have y0 := hg.keeps s0
    have y1 := hg.keeps s1
    have y2 := hg.keeps s2
    have hly := lt_of_cell y0
    by_cases hkn : k < ss.length
    · obtain ⟨_, _, ek, _, _, hsk⟩ := Hkv.out
      injection ek with ek _ _
      subst ek
      obtain ⟨b1, o1, u1, ua, uc, hu1, rfl, hc1, h11, h12, h13⟩ := hsk.get (i := k) hkn
      obtain ⟨b2, o2, u2, va, vc, hu2, e2, hc2, h21, h22, h23⟩ := Hrow.out.get (i := k) hkn
      rw [hu1] at hu2
      cases hu2
      injection e2 with e2
      injection e2 with e2 e3 _
      subst e2
      subst e3
      have hi1 : IsInts V8 (.slice ua u1.length uc) u1 := ⟨_, _, rfl, h11, h12, h13⟩
      have hi2 : IsInts w (.slice va u1.length vc) u1 := ⟨_, _, rfl, h21, h22, h23⟩
      have Hi1 := Lib.hid (hi1.grow (GD.trans hg))
      have Hi2 := Lib.hid (hi2.grow (G9.trans hg))
      have t1 := (GD.trans hg).keeps hc1
      have t2 := (G9.trans hg).keeps hc2
      have hl1 := lt_of_cell t1
      have hl2 := lt_of_cell t2
      have hkI : (k : Int) < ss.length := by omega
      clear hc1 hc2 h11 h12 h13 h21 h22 h23 hi1 hi2 hu1 hsk
      go_wp2_with (go_at_call 35; refine (rInts_any _ _ u1 u1 _ Hi1.out Hi2.out).mono ?_; rw [beq_self_eq_true]; rintro e v6 ⟨rfl, g6⟩; dsimp only)
      exact ⟨⟨k + 1, by omega, by go_num, hg.trans g6⟩, by simp [intOf]; omega⟩
    · obtain rfl : k = ss.length := by omega
      go_wp2_with (go_at_call 19; refine (lalive_any _).mono ?_; rintro e v6 ⟨rfl, g6⟩; dsimp only)
      go_ret
      exact ⟨rfl, (G9.trans hg).trans g6⟩
end Go.Proofs.Ytbeglemohfbdfaa
namespace Go.Proofs.Ytbeglemohfbdfaa
open Go.ChangeShapes Go.WideShapes Go.ChangeAt Go.RowKit Go.Deep Go.Joins

set_option maxRecDepth 1000000 in
theorem chaseMore_lifted (os : Os) (started : os.Started) (H : Type) (enc : TypeId × Value → H) :
    ReturnsInHanded {} Try.checked os 9 .any (Rows.chaseMoreSpec.pre6 enc Try.prog Try.f9 Rows.chaseMoreRow.domain false) (Rows.chaseMoreSpec.post enc Try.prog Try.f9 false true false false) := by
  refine returnsInHanded_of_change_sized (C := Try.checked) law_own started (by kernel_rfl) Try.func9
    (ChangeSpec.witness6 (enc := enc) (C := Try.checked) false ⟨#[], #[.agg #[.int .i64 0, .int .i64 0, .slice none 0 0], .int .u8 0, .int .u8 0, .int .u8 0], []⟩ 8 (by kernel_rfl) (by kernel_rfl) (by kernel_rfl) (by kernel_rfl)) ?_
  intro W base args ds gs before hval hW _ hreach _
  have hW' := hW
  obtain ⟨p, q, hA0, hV, rfl, _, _⟩ := hW
  have hA : DataW.TrodAll enc Try.prog W 0 (fun _ => true) true Try.f9.params.toList args.toList ds p := hA0
  rw [Try.params9] at hA hval
  obtain ⟨v0, vs0, d0, ds0, p0, q0, hargs, rfl, rfl, h0, r0⟩ := trodAll_cons hA
  obtain ⟨v1, vs1, d1, ds1, p1, q1, rfl, rfl, rfl, h1, r1⟩ := trodAll_cons r0
  obtain ⟨v2, vs2, d2, ds2, p2, q2, rfl, rfl, rfl, h2, r2⟩ := trodAll_cons r1
  obtain ⟨v3, vs3, d3, ds3, p3, q3, rfl, rfl, rfl, h3, r3⟩ := trodAll_cons r2
  obtain ⟨rfl, rfl, rfl⟩ := trodAll_nil r3
  obtain rfl : args = #[v0, v1, v2, v3] := by cases args; simp_all
  obtain ⟨rfl, rfl⟩ := trodVars_none hV
  have hwt : ∀ (j : Nat) (t : TypeId) (d : DataW H), [32, 5, 5, 5][j]? = some t → [d0, d1, d2, d3][j]? = some d → ∀ n ∈ d.weights Try.prog t, n ≤ reachBytes := by
    intro j t d ht hd n hn
    have := List.all_eq_true.1 hreach n (DataW.weights_mem_each (j := j) (t := t) (d := d) (by
      rw [show (Try.checked.prog) = Try.prog from rfl, Try.params9]
      have hj := (List.getElem?_eq_some_iff.1 ht).1
      rw [List.getElem?_append_left (by simpa using hj)]; exact ht) (by
      have hj := (List.getElem?_eq_some_iff.1 hd).1
      rw [List.getElem?_append_left (by simpa using hj)]; exact hd) n hn)
    simpa using this
  obtain ⟨E, F, sv, ss, rfl, _, _, hs, _, _⟩ := open_chase (hval 0 32 v0 rfl rfl) h0 (hwt 0 _ _ rfl rfl)
  have h1' := h1
  obtain ⟨i1, rfl, rfl, rfl, wi1⟩ := open_int Try.underlying5 (hval 1 5 v1 rfl rfl) h1
  have hw1 : 0 ≤ i1 ∧ i1 < 256 := by have := wi1; simp [Lit.wf, IntKind.min, IntKind.max, IntKind.signed, IntKind.bits] at this; omega
  have h2' := h2
  obtain ⟨i2, rfl, rfl, rfl, wi2⟩ := open_int Try.underlying5 (hval 2 5 v2 rfl rfl) h2
  have hw2 : 0 ≤ i2 ∧ i2 < 256 := by have := wi2; simp [Lit.wf, IntKind.min, IntKind.max, IntKind.signed, IntKind.bits] at this; omega
  have h3' := h3
  obtain ⟨i3, rfl, rfl, rfl, wi3⟩ := open_int Try.underlying5 (hval 3 5 v3 rfl rfl) h3
  have hw3 : 0 ≤ i3 ∧ i3 < 256 := by have := wi3; simp [Lit.wf, IntKind.min, IntKind.max, IntKind.signed, IntKind.bits] at this; omega
  have hlt : ∀ x ∈ p0 ++ ([] ++ ([] ++ ([] ++ []))), x.block < W.heap.size := fun x hx => hW'.lt x (by simpa using hx)
  refine (lchaseMore E F sv ss i1 i2 i3 W hs hw1 hw2 hw3).mono fun e W' ⟨he, hG⟩ => ?_
  subst he
  refine ⟨_, rfl, _, _, _, [], p0 ++ ([] ++ ([] ++ ([] ++ []))), [], hW', ?_, ?_, ?_, Below.frame hG _, fun h => by cases h⟩
  · exact trodAll_cons_mk (shut_bool Try.underlying4 _) trodAll_mk0
  · exact trodAll_cons_mk (Below.trod law_laid (by kernel_rfl) (of_decide_eq_true (by kernel_rfl)) h0 hG fun x hx => hlt x (by simp [hx])) (trodAll_cons_mk (shut_int Try.underlying5 wi1) (trodAll_cons_mk (shut_int Try.underlying5 wi2) (trodAll_cons_mk (shut_int Try.underlying5 wi3) trodAll_mk0)))
  · rfl
theorem chaseMore_holds : Rows.ChaseMoreSaid :=
  OpenClaim.holds_of_wide 9 Try.f9 rfl rfl rfl rfl rfl rfl rfl ⟨rfl, rfl, rfl, rfl, rfl⟩ rfl rfl rfl rfl rfl (by kernel_rfl) Try.func9 (by kernel_rfl)
    (of_decide_eq_true (by kernel_rfl)) (by unfold Func.isWrapper; first | (rw [if_pos (by decide +kernel)]; kernel_rfl) | (rw [if_neg (by decide +kernel)]; exact ⟨rfl, rfl⟩))
    (fun os started H enc _ => chaseMore_lifted os started H enc)
#print axioms chaseMore_holds
end Go.Proofs.Ytbeglemohfbdfaa
