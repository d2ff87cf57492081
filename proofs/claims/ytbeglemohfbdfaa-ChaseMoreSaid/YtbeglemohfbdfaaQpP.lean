/- The program of layer 7: ask. Conditions: sizes. -/
import Derived.Test.YtbeglemohfbdfaaQpO
import Derived.Laws.EntriesVeiled
namespace Go.Proofs.Ytbeglemohfbdfaa
open Go.RowKit Go.Instr

attribute [local go_sem] Oper.semAt_some

/-- Where pairs come in an order, as the array of the program. -/
def posP (l : List Nat) (k p : Nat) : Int := if p ∈ l.take k then (l.idxOf p : Int) else 0
def posA (l : List Nat) : List Int := (List.range 6).map (posP l l.length)
theorem posA_len (l : List Nat) : (posA l).length = 6 := by simp [posA]
theorem posA_get (l : List Nat) {p : Nat} (hp : p < 6) : (posA l)[p]'(by rw [posA_len]; exact hp) = if p ∈ l then (l.idxOf p : Int) else 0 := by simp [posA, posP]
theorem posP_next {l : List Nat} (hn : l.Nodup) {k : Nat} (hk : k < l.length) (p : Nat) : posP l (k + 1) p = if p = l[k] then (k : Int) else posP l k p := by
  have hm : p ∈ l.take (k + 1) ↔ p ∈ l.take k ∨ p = l[k] := by rw [take_get (List.getElem?_eq_getElem hk), List.mem_append, List.mem_singleton]
  unfold posP
  by_cases h : p = l[k]
  · rw [if_pos h, if_pos (hm.2 (.inr h)), h, hn.idxOf_getElem]
  · rw [if_neg h]
    by_cases h2 : p ∈ l.take k
    · rw [if_pos (hm.2 (.inl h2)), if_pos h2]
    · rw [if_neg (fun k => h2 ((hm.1 k).resolve_right h)), if_neg h2]
/-- What holds between the rounds of ask. -/
def AskI (ks : List (Int × Int)) (g : List Nat → Bool) (w : World) (W0 W1 K t : Nat) (pay : Value) (pre : List (Od ks)) (Fo : Nat → Prop) (Wx : World) : Prop :=
  Grow w Wx ∧ K ≤ Wx.heap.size ∧ Wx.cell? ⟨W0, 0, none⟩ = some (.iface t pay) ∧ ∃ v, Wx.cell? ⟨W1, 0, none⟩ = some v ∧ (∀ o, Wx.frozen? ⟨W1, o, none⟩ = false) ∧ Own Wx K 4 v (pre.map fun x => .bool (g x.1.1)) ∧ ∀ b, v.ownBlock = some b → Fo b
theorem kf_own {B K E : Nat} {v : Value} {vs : List Value} {A C : World} (ho : Own A K E v vs) (hg : A.grownBy C v.ownBlock) : KeepsFrom B A C := ⟨hg.size, fun k o hb hk hc => by
  refine (hg.block k (Array.getElem?_eq_some_iff.1 hk).1 fun e => ?_).trans hk
  rcases ho.2 with ⟨h2, _⟩ | ⟨b, cap, cur, rfl, _, hh, _⟩
  · rw [h2] at e; cases e
  · have e : some k = some b := e
    cases e
    rw [hh] at hk
    cases hk
    cases hc⟩
theorem orders_parts {ks : List (Int × Int)} (h0 : ∀ p, p < ks.length → 0 ≤ lo ks p) {l : List Nat} (h : l ∈ ordersL ks) : l.length = ks.length ∧ (∀ x ∈ l, x < ks.length) ∧ l.Nodup := by
  obtain ⟨t, ht, hs⟩ := (mem_orders h0).1 h
  rw [← ht.1]
  exact ⟨hs.len, hs.lt, hs.nd⟩
theorem pinfo_bool7 : (Try.prog.info? 4).map (fun i => (i.zero, i.size, i.bytes)) = some (some (.bool false), 1, 1) := by kernel_rfl
def AskPost (ks : List (Int × Int)) (g : List Nat → Bool) (w : World) (e : Ending) (w' : World) : Prop := e = .returned (.int .i64 (soB ((ordersL ks).map g))) ∧ Grow w w'
set_option maxRecDepth 100000 in
set_option maxHeartbeats 1000000 in
theorem pask_any (t f : Nat) (pay : Value) (g : List Nat → Bool) (c : Nat) (F : Int) (ks : List (Int × Int)) (w : World) (hch : ChaseIs w c F ks) (hl : ks.length ≤ 6) (hk0 : 0 < ks.length) (hks : ∀ p, p < ks.length → 0 ≤ lo ks p ∧ lo ks p ≤ 1000 ∧ hi ks p ≤ 203)
    (hmeth : ∀ W, (Go.method 263 t pay "lapworks/chase.is").run Try.prog W = .ok (f, pay) W) (hent : ∀ args w, (callFunc f args).run Try.prog w = .ok (.enter f args) w)
    (hq : ∀ l, l ∈ ordersL ks → ∀ W, Calls Try.prog f #[pay, atV (posA l)] W fun e W' => e = .returned (.bool (g l)) ∧ Grow W W') :
    Calls Try.prog 44 #[.pointer (some ⟨c, 0, none⟩), .iface t pay] w (AskPost ks g w) := by
  have hmf : ∀ (fn : Fn) (first cap : Array Value) (w : World), (Instr.makeFunc fn first cap).run Try.prog w = .ok (.func fn first cap) w := fun _ _ _ _ => rfl
  have Hch := Lib.hid hch
  have Hq := Lib.hid hq
  have Hks := Lib.hid hks
  clear hch hq
  refine (callsIn_wide (n := 10)).1 (callsIn_of_wp_marks Try.func44 rfl trivial ?_ rfl)
  simp only [Try.ntmps44, List.size_toArray, List.length_cons, List.length_nil, Nat.reduceAdd, Nat.reduceSub, Array.replicate_succ, Array.replicate_zero, List.push_toArray, List.append_toArray, List.nil_append, List.cons_append]
  gi_wp2
  obtain ⟨W, hW⟩ : ∃ W, W = ((w.alloc (.cells #[.iface t pay] 100)).alloc (.cells #[.slice none 0 0] 101)) := ⟨_, rfl⟩
  have hgW : Grow w W := by rw [hW]; exact (((Grow.refl w).alloc _).alloc _)
  have hW00 : W.cell? ⟨w.heap.size, 0, none⟩ = some (.iface t pay) := by rw [hW]; exact Grow.keepA (cell_new (by simp) rfl) _
  have hWf0 : ∀ o, W.frozen? ⟨w.heap.size, o, none⟩ = false := by intro o; rw [hW]; exact (((Grow.refl _).alloc _).marks _ _ (by simp <;> omega)).trans (hot_new (by simp))
  have hWl0 : w.heap.size < W.heap.size := by rw [hW]; simp; try omega
  have hW10 : W.cell? ⟨w.heap.size + 1, 0, none⟩ = some (.slice none 0 0) := by rw [hW]; exact cell_new (by simp) rfl
  have hWf1 : ∀ o, W.frozen? ⟨w.heap.size + 1, o, none⟩ = false := by intro o; rw [hW]; exact hot_new (by simp)
  have hWl1 : w.heap.size + 1 < W.heap.size := by rw [hW]; simp; try omega
  rw [← hW]
  clear hW
  have hWd : ∀ n, (W.drewN n).heap.size = W.heap.size := fun _ => rfl
  have hWq : ∀ n o b j, b < W.heap.size → ((W.drewN n).alloc o).cell? ⟨b, j, none⟩ = W.cell? ⟨b, j, none⟩ := cell_drewN_alloc W
  have hWr : ∀ n o b j, b < W.heap.size → ((W.drewN n).alloc o).frozen? ⟨b, j, none⟩ = W.frozen? ⟨b, j, none⟩ := hot_drewN_alloc W
  have hWb0 : w.heap.size ≤ w.heap.size := by omega
  have hWb1 : w.heap.size ≤ w.heap.size + 1 := by omega
  have hWn01 : w.heap.size ≠ w.heap.size + 1 := by omega
  have hWn10 : w.heap.size + 1 ≠ w.heap.size := by omega
  obtain ⟨W1, hWe1⟩ : ∃ g, w.heap.size + 1 = g := ⟨_, rfl⟩
  rw [hWe1] at hW10 hWf1 hWl1 hWb1 hWn10 hWn01
  (try rw [hWe1])
  have hWk1 := Lib.hid hWe1
  clear hWe1
  obtain ⟨W0, hWe0⟩ : ∃ g, w.heap.size = g := ⟨_, rfl⟩
  have hWb0 : w.heap.size ≤ W0 := by omega
  rw [hWe0] at hW00 hWf0 hWl0 hWn01 hWn10
  (try rw [hWe0])
  have hWk0 := Lib.hid hWe0
  clear hWe0
  refine ⟨trivial, (callsIn_wide.2 (porders_any c _)).mono ?_⟩
  rintro e w4 ⟨C, rfl, hC, hCl, hg4⟩
  gi_wp2
  obtain ⟨E', sa, sn, sc, a', cap', h0, h1, h2, h3, h4, h5⟩ := Hch.out.grow (hgW.trans hg4)
  have r0 := hg4.keeps hW00
  have r1 := hg4.keeps hW10
  have rf1 : ∀ o, w4.frozen? ⟨W1, o, none⟩ = false := fun o => (hg4.marks _ _ hWl1).trans (hWf1 o)
  have hGw : Grow w w4 := hgW.trans hg4
  have hs4 := hg4.size
  have hsw := hgW.size
  have hcl := lt_of_cell h3
  have hseq := porders1_seq (fun b => b = W1) C c a' cap' ks hl Hks.out w4 hC h3 h5 (by rintro b rfl; omega) (by omega) (by have := lt_of_cell Hch.out.choose_spec.choose_spec.choose_spec.choose_spec.choose_spec.choose_spec.1; omega) (by
    rintro b o rfl rfl
    obtain ⟨_, _, _, _, a2, cap2, _, _, _, k3, _, k5⟩ := Hch.out
    have h6 := (hgW.trans hg4).keeps k3
    rw [h3] at h6
    injection h6 with h6
    injection h6 with h6
    subst h6
    obtain ⟨b', o', e', k6, _⟩ := k5 0 ks[0] (List.getElem?_eq_getElem hk0)
    cases e'
    have := lt_of_cell k6
    omega)
  refine wp_range (g := .tmp 12) (gf := 78) (lb := #[.pointer (some ⟨C, 0, none⟩)]) rfl (enters_of Try.func78 (by kernel_rfl) rfl) hseq (fun x _ X Y row h hg hr => OdX.keptN h hg fun r e => (hr r e).2) (fun {F X Y Z} h k => h.trans k) (fun F W l o o' hl hlo hoc => KpT.put o' hlo hoc) (Grow.refl _) (fun _ => rfl)
    (AskI ks g w W0 W1 w4.heap.size t pay)
    (fun _ _ _ _ => False)
    ?hI (fun c s F A B row hs hg hr => hs) ⟨hGw, Nat.le_refl _, r0, _, r1, rf1, Own.nil _ _ _, fun b h => by cases h⟩
    (fun x a'' Wx => a'' = { tmps := #[.pointer (some ⟨c, 0, none⟩), .iface t pay, undef, .pointer (some ⟨W0, 0, none⟩), .int .i64 0, .pointer (some ⟨W1, 0, none⟩), x.1.2, undef, undef, undef, undef, .pointer (some ⟨c, 0, none⟩), .func (.func 78) #[] #[.pointer (some ⟨C, 0, none⟩)], x.1.2, undef, undef, undef, undef, undef, undef, undef, undef, undef, undef, undef, undef, undef, undef, undef, undef, undef, undef, undef, undef, undef], defers := [] }) (fun _ _ _ _ _ _ h _ _ => h) ?assign ?body ?done ?stop
  case hI =>
    rintro pre Fo X Z row ⟨i1, i0, i2, v, i3, i4, i5, i6⟩ hg hr
    have hrow : ∀ r, row = some r → w4.heap.size ≤ r := fun r e => (hr r e).1
    refine ⟨Below.trans i1 (grownBy_below hg (fun r e => by have := hrow r e; omega) i1.size), Nat.le_trans i0 hg.size, byCell1 hg i2 (fun e => by have := hrow _ e; omega), v, byCell1 hg i3 (fun e => by have := hrow _ e; omega), fun o => (byHot hg (lt_of_cell i3) (fun e => by have := hrow _ e; omega) o).trans (i4 o), ?_, i6⟩
    by_cases hrb : v.ownBlock = row
    · cases hv : v.ownBlock with
      | none => exact i5.kept hg (.inl hv)
      | some r =>
        exfalso
        obtain ⟨ob, hob, hoc⟩ := (hr r (hrb.symm.trans hv)).2.resolve_right fun k => k (i6 r hv)
        rcases i5.2 with ⟨h2, _⟩ | ⟨b, cap, cur, rfl, _, hh, _⟩
        · rw [h2] at hv; cases hv
        · have e : some b = some r := hv
          cases e
          rw [hh] at hob
          cases hob
          cases hoc
    · exact i5.kept hg (.inr hrb)
  case assign =>
    rintro l pre Fo x Wx K9 hwl hi hFo hx hK
    gi_wp2
    exact hK _ _ (KeepsFrom.refl _ _) (KpT.refl _ _) hi hx rfl
  case body =>
    rintro l pre Fo x a'' Wx hwl ⟨i1, i0, i2, v, i3, i4, i5, i6⟩ hFo hx rfl hlen
    obtain ⟨⟨xl, xv⟩, hxm⟩ := x
    obtain ⟨xa, xc, hxe, hxc, hxs, hxr⟩ := id hx
    have hxe : xv = .slice xa (natL xl).length xc := hxe
    subst hxe
    dsimp only
    have hxn : (natL xl).length = xl.length := by rw [natL, List.length_map]
    have hsrt : xl.length = ks.length ∧ (∀ x ∈ xl, x < ks.length) ∧ xl.Nodup := orders_parts (fun p hp => (Hks.out p hp).1) hxm
    rw [hxn]
    have Hxr := Lib.hid hxr
    have Hsrt := Lib.hid hsrt
    have Hxm := Lib.hid hx
    clear hxr hsrt
    obtain ⟨W5, hW5⟩ : ∃ z, Wx.alloc (.cells #[.int .i64 0, .int .i64 0, .int .i64 0, .int .i64 0, .int .i64 0, .int .i64 0] 103) = z := ⟨_, rfl⟩
    have g5 : Grow Wx W5 := by rw [← hW5]; exact (Grow.refl _).alloc _
    have z5 : ∀ p, p < 6 → W5.cell? ⟨Wx.heap.size, p, none⟩ = some (.int .i64 0) := by
      intro p hp
      rw [← hW5]
      have : p = 0 ∨ p = 1 ∨ p = 2 ∨ p = 3 ∨ p = 4 ∨ p = 5 := by omega
      rcases this with rfl | rfl | rfl | rfl | rfl | rfl <;> exact cell_new rfl rfl
    have f5 : ∀ o, W5.frozen? ⟨Wx.heap.size, o, none⟩ = false := fun o => by rw [← hW5]; simp
    have hxl6 : xl.length ≤ 6 := by have := Hsrt.out.1; omega
    generalize hQ : postC _ _ _ _ _ _ _ = Q
    gi_wp2
    have Z5 := Lib.hid z5
    clear z5 hW5
    gi_loopw [16] (fun i wr => ∃ k : Nat, k ≤ xl.length ∧ i = .int .i64 k ∧ W5.grownBy wr (some Wx.heap.size) ∧ (∀ p, p < 6 → wr.cell? ⟨Wx.heap.size, p, none⟩ = some (.int .i64 (posP xl k p))) ∧ ∀ o, wr.frozen? ⟨Wx.heap.size, o, none⟩ = false) (fun i _ => xl.length - (intOf i).toNat)
    case atStart => exact ⟨0, Nat.zero_le _, rfl, ⟨rfl, rfl, rfl, Nat.le_refl _, fun _ _ _ => rfl⟩, fun p hp => by simpa [posP] using Z5.out p hp, f5⟩
    case round =>
      obtain ⟨k, hk, rfl, hg, hcs, hfr⟩ := hrel
      by_cases hlt : k < xl.length
      · have hx5 : xl[k] < 6 := by have := Hsrt.out.2.1 _ (List.getElem_mem hlt); omega
        obtain ⟨b, o, hxa, hcx⟩ := Hxr.out k (.int .i64 (xl[k] : Nat)) (by simp [natL, hlt])
        subst hxa
        have hbl := lt_of_cell hcx
        have hcx' := byCell1 hg (g5.keeps hcx) (by intro e; injection e with e; omega)
        have hst := hcs xl[k] hx5
        have hkl := lt_of_cell hst
        have Hcs := Lib.hid hcs
        obtain ⟨q, hq⟩ : ∃ q, xl[k] = q := ⟨_, rfl⟩
        rw [hq] at hcx' hst hx5
        have Hq := Lib.hid hq
        clear hcs hq hcx
        gi_wp2
        refine ⟨⟨k + 1, by omega, by go_num, byStore hg q _, fun p hp => ?_, fun o => by simpa using hfr o⟩, by simp [intOf]; omega⟩
        rw [posP_next Hsrt.out.2.2 hlt, Hq.out]
        by_cases hpq : p = q
        · subst hpq
          rw [if_pos rfl]
          exact World.cell?_setCell_same' _ _ _ (by rw [hst]; rfl)
        · rw [if_neg hpq, World.cell?_setCell_other _ _ _ _ (by intro e; injection e with e1 e2; exact hpq e2.symm)]
          exact Hcs.out p hp
      · obtain rfl : k = xl.length := by omega
        have k0 := hcs 0 (by omega)
        have k1 := hcs 1 (by omega)
        have k2 := hcs 2 (by omega)
        have k3 := hcs 3 (by omega)
        have k4 := hcs 4 (by omega)
        have k5 := hcs 5 (by omega)
        have hx1 := lt_of_cell k0
        have hAt : Value.func (.func 66) #[.agg #[.int .i64 (posP xl xl.length 0), .int .i64 (posP xl xl.length 1), .int .i64 (posP xl xl.length 2), .int .i64 (posP xl xl.length 3), .int .i64 (posP xl xl.length 4), .int .i64 (posP xl xl.length 5)]] #[] = atV (posA xl) := rfl
        have HAt := Lib.hid hAt
        clear hcs hAt
        have hgx : Grow Wx wr := Below.trans g5 (grownBy_below hg (fun r e => by cases e; exact Nat.le_refl _) g5.size)
        gi_wp2
        rw [HAt.out]
        have hS0 : wr.drew.cell? ⟨W1, 0, none⟩ = some v ∧ wr.drew.cell? ⟨W0, 0, none⟩ = some (.iface t pay) := ⟨hgx.keeps i3, hgx.keeps i2⟩
        rw [← hQ]
        have Hhg := Lib.hid hgx
        have I5 := Lib.hid i5
        obtain ⟨j0, hj0, hj1, hj2, hj3⟩ := info_parts pinfo_bool7
        have hui : Try.prog.underlying 101 = some (.slice 4) := by kernel_rfl
        have hW1x := lt_of_cell i3
        have hne1 : v.ownBlock ≠ some W1 := fun e => by have := (i5.lt W1 e).1; omega
        (refine wpIn_region_left l _ (fun Vx => Vx.cell? ⟨W1, 0, none⟩ = some v ∧ Vx.cell? ⟨W0, 0, none⟩ = some (.iface t pay)) (fun k => decide (k < 5)) (by kernel_rfl) (by kernel_rfl) (no_out_inBlock no_out_postC) ?_; refine Left.take 5 (i := 0) (oi := _) (v := ?_) rfl (by kernel_rfl) (by kernel_rfl) (by kernel_rfl) (by kernel_rfl) (fun _ _ _ h => h) (Or.inl ⟨by rfl, ?_⟩) (by assumption) (by kernel_rfl) ?_; rotate_left; (focus (intro w hSw; (try dsimp only at hSw); go_simp; (try with_reducible rfl))); (try simp only [Act.put, List.setIfInBounds_toArray, List.set_cons_zero, List.set_cons_succ, List.getElem_toArray, List.getElem_cons_zero]); refine Left.take 5 (i := 1) (oi := _) (v := ?_) rfl (by kernel_rfl) (by kernel_rfl) (by kernel_rfl) (by kernel_rfl) (fun _ _ _ h => h) (Or.inl ⟨by rfl, ?_⟩) (by assumption) (by kernel_rfl) ?_; rotate_left; (focus (intro w hSw; (try dsimp only at hSw); go_simp; (try with_reducible rfl))); (try simp only [Act.put, List.setIfInBounds_toArray, List.set_cons_zero, List.set_cons_succ, List.getElem_toArray, List.getElem_cons_zero, List.getElem_cons_succ]); refine Left.take 5 (i := 2) (oi := _) (v := ?_) rfl (by kernel_rfl) (by kernel_rfl) (by kernel_rfl) (by kernel_rfl) (fun _ _ _ h => h) (Or.inl ⟨by rfl, ?_⟩) (by assumption) (by kernel_rfl) ?_; rotate_left; (focus (intro w hSw; (try dsimp only at hSw); go_simp; (try with_reducible rfl))); (try simp only [Act.put, List.setIfInBounds_toArray, List.set_cons_zero, List.set_cons_succ, List.getElem_toArray, List.getElem_cons_zero, List.getElem_cons_succ]); refine Left.ready (rs := [3]) (by kernel_rfl) (by simp) ?_; refine LeftAll.cons (o := _) rfl (fun K hK => ?_) LeftAll.nil; (try simp only [List.getElem_toArray, List.getElem_cons_zero, List.getElem_cons_succ]); (try go_simp); (first | (refine (if_pos (by rfl)).mpr ?_; refine wp_app (.tmp 27) (.tmp 31) 101 rfl w4.heap.size 4 j0 _ 1 hui hj0 hj1 hj2 hj3 rfl v (pre.map fun x => .bool (g x.1.1)) (by rfl) ((I5.out.grow hG6).grow ((Grow.refl w6).alloc _)) (some ⟨w6.heap.size, 0, none⟩) 1 [.bool (g xl)] 1 (by rfl) rfl (fun h => nomatch h) (row_new1 _ _ _ rfl) (by simp [Value.oneCell']) (by simp; omega) (by omega) (by simp; omega) ?_; intro v7 W7 hown7 hg7 hm7; obtain ⟨a7, cp7, e7, _⟩ := hown7.row; subst e7; have x1 : W7.cell? ⟨W1, 0, none⟩ = some v := byCell1 hg7 (Grow.keepA hS6.1 _) hne1; have x2 : ∀ o, W7.frozen? ⟨W1, o, none⟩ = false := fun o => (byHot hg7 (by simp; omega) hne1 o).trans (((hG6.alloc _).marks _ _ hW1x).trans (i4 o))) | (refine (Hq.out xl hxm _).mono ?_; rintro e w6 ⟨rfl, hg6⟩; have hS6 : w6.cell? ⟨W1, 0, none⟩ = some v ∧ w6.cell? ⟨W0, 0, none⟩ = some (.iface t pay) := ⟨hg6.keeps hS0.1, hg6.keeps hS0.2⟩; have hG6 : Grow Wx w6 := Hhg.out.drew.trans hg6; have hs6 := hG6.size)); (try (go_wp2_with fail)); refine hK.out _ _ ?_ ?_; (focus (intro hJ; first | (exact absurd hJ (by decide)) | (first | assumption | exact ⟨Grow.keepA hS6.1 _, Grow.keepA hS6.2 _⟩))); clear hK K; (try simp only [Act.put, List.setIfInBounds_toArray, List.set_cons_zero, List.set_cons_succ, List.getElem_toArray, List.getElem_cons_zero, List.getElem_cons_succ]); refine Left.ready (rs := [4]) (by kernel_rfl) (by simp) ?_; refine LeftAll.cons (o := _) rfl (fun K hK => ?_) LeftAll.nil; (try simp only [List.getElem_toArray, List.getElem_cons_zero, List.getElem_cons_succ]); (try go_simp); (try (go_wp2_with fail)); refine hK.out _ _ ?_ ?_; (focus (intro hJ; first | (exact absurd hJ (by decide)) | (first | assumption | exact ⟨Grow.keepA hS6.1 _, Grow.keepA hS6.2 _⟩))); clear hK K; (try simp only [Act.put, List.setIfInBounds_toArray, List.set_cons_zero, List.set_cons_succ, List.getElem_toArray, List.getElem_cons_zero, List.getElem_cons_succ]); refine Left.ready (rs := [5]) (by kernel_rfl) (by simp) ?_; refine LeftAll.cons (o := _) rfl (fun K hK => ?_) LeftAll.nil; (try simp only [List.getElem_toArray, List.getElem_cons_zero, List.getElem_cons_succ]); (first | (refine (if_pos (by rfl)).mpr ?_; refine wp_app (.tmp 27) (.tmp 31) 101 rfl w4.heap.size 4 j0 _ 1 hui hj0 hj1 hj2 hj3 rfl v (pre.map fun x => .bool (g x.1.1)) (by rfl) ((I5.out.grow hG6).grow ((Grow.refl w6).alloc _)) (some ⟨w6.heap.size, 0, none⟩) 1 [.bool (g xl)] 1 (by rfl) rfl (fun h => nomatch h) (row_new1 _ _ _ rfl) (by simp [Value.oneCell']) (by simp; omega) (by omega) (by simp; omega) ?_; intro v7 W7 hown7 hg7 hm7; obtain ⟨a7, cp7, e7, _⟩ := hown7.row; subst e7; have x1 : W7.cell? ⟨W1, 0, none⟩ = some v := byCell1 hg7 (Grow.keepA hS6.1 _) hne1; have x2 : ∀ o, W7.frozen? ⟨W1, o, none⟩ = false := fun o => (byHot hg7 (by simp; omega) hne1 o).trans (((hG6.alloc _).marks _ _ hW1x).trans (i4 o))) | (refine (Hq.out xl hxm _).mono ?_; rintro e w6 ⟨rfl, hg6⟩; have hS6 : w6.cell? ⟨W1, 0, none⟩ = some v ∧ w6.cell? ⟨W0, 0, none⟩ = some (.iface t pay) := ⟨hg6.keeps hS0.1, hg6.keeps hS0.2⟩; have hG6 : Grow Wx w6 := Hhg.out.drew.trans hg6; have hs6 := hG6.size)); (try (go_wp2_with fail)); refine hK.out _ _ ?_ ?_; (focus (intro hJ; first | (exact absurd hJ (by decide)) | (first | assumption | exact ⟨Grow.keepA hS6.1 _, Grow.keepA hS6.2 _⟩))); clear hK K; (try simp only [Act.put, List.setIfInBounds_toArray, List.set_cons_zero, List.set_cons_succ, List.getElem_toArray, List.getElem_cons_zero, List.getElem_cons_succ]); refine Left.ready (rs := [6]) (by kernel_rfl) (by simp) ?_; refine LeftAll.cons (o := _) rfl (fun K hK => ?_) LeftAll.nil; (try simp only [List.getElem_toArray, List.getElem_cons_zero, List.getElem_cons_succ]); (try go_simp); (try (go_wp2_with fail)); refine hK.out _ _ ?_ ?_; (focus (intro hJ; first | (exact absurd hJ (by decide)) | (first | assumption | exact ⟨Grow.keepA hS6.1 _, Grow.keepA hS6.2 _⟩))); clear hK K; (try simp only [Act.put, List.setIfInBounds_toArray, List.set_cons_zero, List.set_cons_succ, List.getElem_toArray, List.getElem_cons_zero, List.getElem_cons_succ]); refine Left.done (by kernel_rfl) ?_ _)
        have hGA := hG6.alloc (.cells #[.bool (g xl)] 4)
        have own6 := I5.out.grow hGA
        refine ⟨((kf_grow hGA).trans (kf_own own6 hg7)).trans (kf_set _ _ _ _), ((KpT.grow hGA).trans (KpT.by' hg7 fun r e => .inl (.inr (i6 r e)))).trans (KpT.set (.inl rfl) _ _), fun b => (Value.slice a7 (List.map (fun x : Od ks => Value.bool (g x.1.1)) pre ++ [Value.bool (g xl)]).length cp7).ownBlock = some b, ⟨fun b hb => ?_, fun b hb => ?_⟩, ?_, ?_, ?_, _, ?_, ?_, ?_, fun b hb => hb⟩
        · rcases hm7 with h | h
          · exact .inl (i6 b (h.symm.trans hb))
          · have := h b hb; simp at this; exact .inr (by omega)
        · have := (hown7.lt b hb).2; simpa using this
        · exact Below.setCell (p := ⟨W1, 0, none⟩) (Below.trans (i1.trans hGA) (grownBy_below hg7 (fun r e => by have := (I5.out.lt r e).1; omega) (i1.trans hGA).size)) (by omega) _
        · have := hg7.size
          have := hGA.size
          simp only [World.size_setCell]
          omega
        · exact byCell1 (bySet _ W1 0 _) (byCell1 hg7 (Grow.keepA hS6.2 _) (fun e => by have := (I5.out.lt W0 e).1; omega)) (by intro e; injection e with e; omega)
        · simp only [List.length_append, List.length_map, List.length_singleton]
          exact World.cell?_setCell_same' _ _ _ (by rw [x1]; rfl)
        · intro o
          simpa using x2 o
        · have h7 := hown7.kept (bySet W7 W1 0 (.slice a7 (pre.length + 1) cp7)) (.inr fun e => by have := (hown7.lt W1 e).1; omega)
          rw [List.map_append, List.map_singleton]
          simpa using h7
  case done =>
    rintro D xs Fo W9 hD hxs ⟨i1, i0, i2, v, i3, i4, i5, i6⟩ hKd
    have hlen : (ordersL ks).length ≤ 46656 := Nat.le_trans (ordersF_len ks hl _ _) (Nat.le_trans (Nat.pow_le_pow_right (by decide) hl) (by decide))
    have hmap : xs.map (fun x => Value.bool (g x.1.1)) = ((ordersL ks).map g).map Value.bool := (show _ = ((xs.map (·.1.1)).map g).map Value.bool by rw [List.map_map, List.map_map]; rfl).trans (congrArg (fun l : List (List Nat) => (l.map g).map Value.bool) hxs)
    rw [hmap] at i5
    have hb : BoolsAt W9 v ((ordersL ks).map g) := by
      obtain ⟨a9, c9, e9, _, _, r9⟩ := i5.row
      exact ⟨a9, c9, by rw [e9]; simp, by simpa using Nat.le_trans hlen (by decide), r9⟩
    have Hb := Lib.hid hb
    clear hmap i5 hb hlen hxs
    gi_wp2
    refine ⟨trivial, (callsIn_wide.2 (pso_any v _ _ Hb.out)).mono ?_⟩
    rintro e w9 ⟨rfl, rfl⟩
    gi_wp2
    refine ⟨by simp, .inl ⟨_, _, rfl, run_takeDeferred hKd, ?_⟩⟩
    refine ⟨_, results_tmp rfl _ _ _, ?_⟩
    exact ⟨rfl, Below.trans i1 (grownBy_below (grownBy_putObj' _ D _) (fun r e => by cases e; omega) i1.size)⟩
  case stop => exact fun D c pre F W hD hSp hx => hx.elim
end Go.Proofs.Ytbeglemohfbdfaa
