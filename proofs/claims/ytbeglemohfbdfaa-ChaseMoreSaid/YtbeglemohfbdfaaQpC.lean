/- The program of layer 7: open. Conditions: sizes. -/
import Derived.Test.YtbeglemohfbdfaaQpB
import Derived.Deep.RegionLaw
import Derived.Deep.DeepCutAuto
namespace Go.Proofs.Ytbeglemohfbdfaa
open Go.RowKit

/-- append of one element of three cells, as a step of a region. -/
theorem step_app3 {P : Program} {w : World} {ops : Array Oper} {o : Oper} {ac : Act} {K : Act → World → Prop} {Q : Exit → Act → World → Prop} {E : Prop} (hgd : o.guard = none) (s x : Operand) (t : TypeId)
    (ho : o.op = .call { callee := .builtin .append, args := #[s, x], argTypes := #[t, t] })
    (base : Nat) (e : TypeId) (i : TypeInfo) (z : Value) (bytes : Nat) (ht : P.underlying t = some (.slice e)) (hi : P.info? e = some i) (hz : i.zero = some z)
    (hsize : i.size = 3) (hby : i.bytes = bytes) (hzs : z.cells.size = 3)
    (v : Value) (n : Nat) (xs : List Value) (hs : ac.eval s = v) (hown : w.ownsRow base e 3 v n xs) (g c : Nat) (x0 x1 x2 : Value) (hx : ac.eval x = .slice (some ⟨g, 0, none⟩) 1 c)
    (n0 : w.cell? ⟨g, 0, none⟩ = some x0) (n1 : w.cell? ⟨g, 1, none⟩ = some x1) (n2 : w.cell? ⟨g, 2, none⟩ = some x2) (h0 : x0.oneCell' = true) (h1 : x1.oneCell' = true) (h2 : x2.oneCell' = true)
    (hmax : n + 1 ≤ 1000) (hbytes : (n + 1) * bytes ≤ 140737488355328) (hbase : base ≤ w.heap.size)
    (h : ∀ g' cap w', w'.ownsRow base e 3 (.slice (some ⟨g', 0, none⟩) (n + 1) cap) (n + 1) (xs ++ [x0, x1, x2]) → w.grownBy w' v.ownBlock → (v.ownBlock = some g' ∨ g' = w.heap.size) → K (ac.put o.dst (.slice (some ⟨g', 0, none⟩) (n + 1) cap)) w') :
    if Region.wanted o (yielded ops ac.tmps) = true then Oper.wp P o ac w K Q else E := by
  have hw : Region.wanted o (yielded ops ac.tmps) = true := by simp [Region.wanted, hgd]
  rw [if_pos hw]
  have hnews : ∀ j u, [x0, x1, x2][j]? = some u → w.cell? ((⟨g, 0, none⟩ : Addr).add j) = some u := fun j u hu => by
    have e : (⟨g, 0, none⟩ : Addr).add j = ⟨g, j, none⟩ := by unfold Addr.add; split <;> simp_all
    rw [e]
    match j, hu with
    | 0, hu => simp at hu; subst hu; exact n0
    | 1, hu => simp at hu; subst hu; exact n1
    | 2, hu => simp at hu; subst hu; exact n2
    | j + 3, hu => simp at hu
  obtain ⟨v', w', hr, k2, k3, _, k5⟩ := run_append_own_at (P := P) (w := w) base t o.type e i z 3 bytes ht hi hz hsize hby hzs (by decide) v n xs hown ⟨g, 0, none⟩ 1 c [x0, x1, x2] rfl hnews
    (fun u hu => by simp at hu; rcases hu with rfl | rfl | rfl <;> assumption) (by simp only [maxLen]; omega) hbytes hbase
  unfold Oper.wp execOp
  simp only [ho, resolve, invoke, builtin, Sem.run_bind, Sem.run_pure, Result.andThen_ok, List.map_toArray, List.map_cons, List.map_nil, hs, hx, hr]
  have k2' := k2
  obtain ⟨_, ⟨_, hn0⟩ | ⟨g', cap, cur, rfl, _⟩⟩ := k2
  · omega
  · refine h g' cap w' k2' k3 ?_
    rcases k5 with k5 | k5
    · exact .inl k5.symm
    · exact .inr (by simpa [Value.ownBlock] using k5)
theorem pinfo_clock : (Try.prog.info? 65).map (fun i => (i.zero, i.size, i.bytes)) = some (some (.agg #[.int .i64 0, .int .i64 0, .int .i64 0]), 3, 24) := by kernel_rfl
/-- What stands before a pair is looked at. -/
def O1 (w : World) (E F : Int) (v : Value) (W0 W1 : Nat) (ks : List (Int × Int)) (V : World) : Prop :=
  Grow w V ∧ V.cell? ⟨W0, 0, none⟩ = some (.int .i64 E) ∧ V.cell? ⟨W0, 1, none⟩ = some (.int .i64 F) ∧ V.cell? ⟨W0, 2, none⟩ = some v ∧ V.cell? ⟨W1, 0, none⟩ = some (.int .i64 E) ∧ V.cell? ⟨W1, 1, none⟩ = some (.int .i64 F) ∧ V.cell? ⟨W1, 2, none⟩ = some v ∧
    (∃ u, V.cell? ⟨W1, 3, none⟩ = some u ∧ V.ownsRow (W1 + 1) 65 3 u ks.length (ckCells 0 ks) ∧ (∃ a cap, u = .slice a ks.length cap)) ∧ ∀ o, V.frozen? ⟨W1, o, none⟩ = false
theorem O1.next {w wo V w4 : World} {E F : Int} {v : Value} {W0 W1 g4 cap4 n : Nat} {ks : List (Int × Int)} {x y : Int} {ua : Option Addr} {uc : Nat} {xs : List Value} (h : O1 w E F v W0 W1 ks wo) (hW1 : w.heap.size ≤ W1) (h01 : W0 < W1) (hg : Grow wo V) (hn : ks.length = n)
    (hV : V.ownsRow (W1 + 1) 65 3 (.slice ua n uc) n xs) (hV3 : V.cell? ⟨W1, 3, none⟩ = some (.slice ua n uc)) (hgr : V.grownBy w4 (Value.slice ua n uc).ownBlock)
    (hown4 : w4.ownsRow (W1 + 1) 65 3 (.slice (some ⟨g4, 0, none⟩) (n + 1) cap4) (n + 1) (ckCells 0 ks ++ [.int .i64 x, .int .i64 y, .int .i64 n])) :
    O1 w E F v W0 W1 (ks ++ [(x, y)]) (w4.setCell ⟨W1, 3, none⟩ (.slice (some ⟨g4, 0, none⟩) (n + 1) cap4)) := by
  subst hn
  obtain ⟨h0, h1, h2, h3, h4, h5, h6, _, h8⟩ := h
  have hub : ∀ e, (Value.slice ua ks.length uc).ownBlock = some e → W1 + 1 ≤ e := fun e he => (hV.lt e he).1
  have hne : ∀ b, b ≤ W1 → (Value.slice ua ks.length uc).ownBlock ≠ some b := fun b hb e => by have := hub b e; omega
  have hs : ∀ {b o : Nat} {z : Value}, b ≤ W1 → (b ≠ W1 ∨ o ≠ 3) → wo.cell? ⟨b, o, none⟩ = some z → (w4.setCell ⟨W1, 3, none⟩ (.slice (some ⟨g4, 0, none⟩) (ks.length + 1) cap4)).cell? ⟨b, o, none⟩ = some z := fun {b o z} hb hne' hz => by
    rw [World.cell?_setCell_other _ _ _ _ (by intro e; injection e with e1 e2; omega)]
    exact byCell1 hgr (hg.keeps hz) (hne b hb)
  have hwo := lt_of_cell h4
  have hL := lt_of_cell hV3
  refine ⟨Below.setCell (Below.trans (h0.trans hg) (grownBy_below hgr (fun k hk => by have := hub k hk; omega) (by have := h0.size; have := hg.size; omega))) hW1 _, hs (by omega) (.inl (by omega)) h1, hs (by omega) (.inl (by omega)) h2, hs (by omega) (.inl (by omega)) h3,
    hs (Nat.le_refl _) (.inr (by omega)) h4, hs (Nat.le_refl _) (.inr (by omega)) h5, hs (Nat.le_refl _) (.inr (by omega)) h6, ⟨_, World.cell?_setCell_same' _ _ _ (by rw [byCell1 hgr hV3 (hne _ (Nat.le_refl _))]; rfl), ?_, some ⟨g4, 0, none⟩, cap4, by simp⟩, fun o => ?_⟩
  · have := World.ownsRow.kept hown4 (bySet w4 W1 3 (.slice (some ⟨g4, 0, none⟩) (ks.length + 1) cap4)) (.inr (by intro e; have := (hown4.lt _ e).1; omega))
    rw [ckCells_snoc]
    simpa using this
  · rw [World.frozen?_setCell]
    exact ((byHot hgr hL (hne _ (Nat.le_refl _)) o).trans (hg.marks _ _ hwo)).trans (h8 o)
/-- Three stores into the three cells of a variable. -/
theorem cells3 {w : World} {b : Nat} {x y z u v t : Value} (h0 : w.cell? ⟨b, 0, none⟩ = some u) (h1 : w.cell? ⟨b, 1, none⟩ = some v) (h2 : w.cell? ⟨b, 2, none⟩ = some t) :
    (((w.setCell ⟨b, 0, none⟩ x).setCell ⟨b, 1, none⟩ y).setCell ⟨b, 2, none⟩ z).cell? ⟨b, 0, none⟩ = some x ∧ (((w.setCell ⟨b, 0, none⟩ x).setCell ⟨b, 1, none⟩ y).setCell ⟨b, 2, none⟩ z).cell? ⟨b, 1, none⟩ = some y ∧
      (((w.setCell ⟨b, 0, none⟩ x).setCell ⟨b, 1, none⟩ y).setCell ⟨b, 2, none⟩ z).cell? ⟨b, 2, none⟩ = some z ∧ (∀ a, (((w.setCell ⟨b, 0, none⟩ x).setCell ⟨b, 1, none⟩ y).setCell ⟨b, 2, none⟩ z).frozen? a = w.frozen? a) ∧
      w.grownBy (((w.setCell ⟨b, 0, none⟩ x).setCell ⟨b, 1, none⟩ y).setCell ⟨b, 2, none⟩ z) (some b) := by
  have g0 := h0
  have g1 := h1
  have g2 := h2
  obtain ⟨a1, a2, a3, a4⟩ := cells2 (x := x) (y := y) h0 h1
  have a5 : ((w.setCell ⟨b, 0, none⟩ x).setCell ⟨b, 1, none⟩ y).cell? ⟨b, 2, none⟩ = some t := by
    rw [World.cell?_setCell_other _ _ _ _ (by simp), World.cell?_setCell_other _ _ _ _ (by simp)]
    exact h2
  refine ⟨?_, ?_, ?_, fun a => by rw [World.frozen?_setCell, a3], byStore (byStore (bySet w b 0 x) 1 y) 2 z⟩
  · rw [World.cell?_setCell_other _ _ _ _ (by simp)]; exact a1
  · rw [World.cell?_setCell_other _ _ _ _ (by simp)]; exact a2
  · exact World.cell?_setCell_same' _ _ _ (by rw [a5]; rfl)
set_option maxRecDepth 100000 in
set_option maxHeartbeats 2000000 in
theorem popen_tail (E F : Int) (v : Value) (ss : List (List Int)) (ok : Bool) (w : World) (hv : IsSheets w v ss) (h1 : inB E 0 3 = true) (h2 : inB ss.length 1 6 = true) (h3 : inB F 1 ss.length = true) :
    Calls Try.prog 38 #[.agg #[.int .i64 E, .int .i64 F, v], .bool ok] w (OpenPost w E F ss ok) := by
  obtain ⟨i0, hi0, hi1, hi2, hi3⟩ := info_parts pinfo_clock
  have hu : Try.prog.underlying 66 = some (.slice 65) := by kernel_rfl
  obtain ⟨a, cap, rfl, hcap, hlen, hrow⟩ := hv
  have hE := inB_true.1 h1
  have hl := inB_true.1 h2
  have H1 := Lib.hid h1
  have H2 := Lib.hid h2
  have H3 := Lib.hid h3
  have Hrow := Lib.hid hrow
  clear h1 h2 h3 hrow
  go_enter Try.func38, Try.ntmps38
  go_wp2_with first | (go_at_call 64; refine (pwithin_any _ _ _ _).mono ?_; rintro e w' ⟨rfl, rfl⟩; first | rw [H1.out] | rw [H2.out] | rw [H3.out]) | (go_at_call 51; refine (pwant_yes _ _).mono ?_; rintro e w' ⟨rfl, rfl⟩)
  obtain ⟨W, hW⟩ : ∃ W, W = ((w.alloc (.cells #[.int .i64 E, .int .i64 F, .slice a ss.length cap] 32)).alloc (.cells #[.int .i64 E, .int .i64 F, .slice a ss.length cap, .slice none 0 0] 68)) := ⟨_, rfl⟩
  have hgW : Grow w W := by rw [hW]; exact (((Grow.refl w).alloc _).alloc _)
  have hW00 : W.cell? ⟨w.heap.size, 0, none⟩ = some (.int .i64 E) := by rw [hW]; exact Grow.keepA (cell_new (by simp) rfl) _
  have hW01 : W.cell? ⟨w.heap.size, 1, none⟩ = some (.int .i64 F) := by rw [hW]; exact Grow.keepA (cell_new (by simp) rfl) _
  have hW02 : W.cell? ⟨w.heap.size, 2, none⟩ = some (.slice a ss.length cap) := by rw [hW]; exact Grow.keepA (cell_new (by simp) rfl) _
  have hWf0 : ∀ o, W.frozen? ⟨w.heap.size, o, none⟩ = false := by intro o; rw [hW]; exact (((Grow.refl _).alloc _).marks _ _ (by simp <;> omega)).trans (hot_new (by simp))
  have hWl0 : w.heap.size < W.heap.size := by rw [hW]; simp; try omega
  have hW10 : W.cell? ⟨w.heap.size + 1, 0, none⟩ = some (.int .i64 E) := by rw [hW]; exact cell_new (by simp) rfl
  have hW11 : W.cell? ⟨w.heap.size + 1, 1, none⟩ = some (.int .i64 F) := by rw [hW]; exact cell_new (by simp) rfl
  have hW12 : W.cell? ⟨w.heap.size + 1, 2, none⟩ = some (.slice a ss.length cap) := by rw [hW]; exact cell_new (by simp) rfl
  have hW13 : W.cell? ⟨w.heap.size + 1, 3, none⟩ = some (.slice none 0 0) := by rw [hW]; exact cell_new (by simp) rfl
  have hWf1 : ∀ o, W.frozen? ⟨w.heap.size + 1, o, none⟩ = false := by intro o; rw [hW]; exact hot_new (by simp)
  have hWl1 : w.heap.size + 1 < W.heap.size := by rw [hW]; simp; try omega
  rw [← hW]
  clear hW
  have hWd : ∀ n, (W.drewN n).heap.size = W.heap.size := fun _ => rfl
  have hWq : ∀ n o b j, b < W.heap.size → ((W.drewN n).alloc o).cell? ⟨b, j, none⟩ = W.cell? ⟨b, j, none⟩ := cell_drewN_alloc W
  have hWr : ∀ n o b j, b < W.heap.size → ((W.drewN n).alloc o).frozen? ⟨b, j, none⟩ = W.frozen? ⟨b, j, none⟩ := hot_drewN_alloc W
  have hWb0 : w.heap.size ≤ w.heap.size := by omega
  have hWb1 : w.heap.size ≤ w.heap.size + 1 := by omega
  have hWn01 : w.heap.size ≠ w.heap.size + 1 := by omega
  have hWn10 : w.heap.size + 1 ≠ w.heap.size := by omega
  obtain ⟨W1, hWe1⟩ : ∃ g, w.heap.size + 1 = g := ⟨_, rfl⟩
  rw [hWe1] at hW10 hW11 hW12 hW13 hWf1 hWl1 hWb1 hWn10 hWn01
  (try rw [hWe1])
  have hWk1 := Lib.hid hWe1
  clear hWe1
  obtain ⟨W0, hWe0⟩ : ∃ g, w.heap.size = g := ⟨_, rfl⟩
  have hWb0 : w.heap.size ≤ W0 := by omega
  rw [hWe0] at hW00 hW01 hW02 hWf0 hWl0 hWn01 hWn10
  (try rw [hWe0])
  have hWk0 := Lib.hid hWe0
  clear hWe0
  have hW01lt : W0 < W1 := by have := hWk0.out; have := hWk1.out; omega
  have hO : O1 w E F (.slice a ss.length cap) W0 W1 [] W := ⟨hgW, hW00, hW01, hW02, hW10, hW11, hW12, ⟨_, hW13, ⟨rfl, .inl ⟨rfl, rfl⟩⟩, none, 0, rfl⟩, hWf1⟩
  go_loopw [35] (fun i wr => ∃ k : Nat, k ≤ ss.length ∧ i = .int .i64 k ∧ (ss.take k).all listB = true ∧ O1 w E F (.slice a ss.length cap) W0 W1 (clocksOf E (ss.take k)) wr) (fun i _ => ss.length - (intOf i).toNat)
  case atStart => exact ⟨0, Nat.zero_le _, rfl, rfl, hO⟩
  case round =>
    obtain ⟨k, hk, rfl, hall, hOk⟩ := hrel
    have Hall := Lib.hid hall
    have HO := Lib.hid hOk
    obtain ⟨hg, hx0, hx1, hx2, hy0, hy1, hy2, ⟨u, hy3, hown, ua, uc, rfl⟩, hyf⟩ := hOk
    clear hall
    by_cases hlt : k < ss.length
    · obtain ⟨b, o, s, sa, sc, hs, rfl, hcs, hsc, hsl, hsr⟩ := Hrow.out.get hlt
      have hcs' := hg.keeps hcs
      have Hs := Lib.hid hs
      have Hsr := Lib.hid (hsr.grow hg)
      have Hown := Lib.hid hown
      clear hs hsr hown
      cases h3l : inB s.length 1 3 with
      | false =>
        have H3l := Lib.hid h3l
        clear h3l
        go_wp2_with first | (go_at_call 64; refine (pwithin_any _ _ _ _).mono ?_; rintro e w' ⟨rfl, rfl⟩; rw [H3l.out]) | (go_at_call 51; refine (pwant_no _ _).mono ?_; rintro e w' ⟨rfl, rfl⟩)
        exact ⟨rfl, OpenPost.bad (codeO_bad Hs.out (by unfold listB; rw [H3l.out]; rfl)) (by decide) rfl hg⟩
      | true =>
        have hl3 := inB_true.1 h3l
        have H3l := Lib.hid h3l
        clear h3l
        have hkl : (clocksOf E (ss.take k)).length = k := by rw [clocks_len, List.length_take]; omega
        go_wp2_with first | (go_at_call 64; refine (pwithin_any _ _ _ _).mono ?_; rintro e w' ⟨rfl, rfl⟩; rw [H3l.out]) | (go_at_call 51; refine (pwant_yes _ _).mono ?_; rintro e w' ⟨rfl, rfl⟩)
        obtain ⟨wo, hwo⟩ : ∃ z, z = wr := ⟨_, rfl⟩
        subst hwo
        have hlw := lt_of_cell hy0
        have Hkl := Lib.hid hkl
        clear hkl
        go_loopw [49] (fun i wr => ∃ j : Nat, j ≤ s.length ∧ i = .int .i64 j ∧ ((s.take j).all fun n => inB n 0 200) = true ∧ Grow wo wr ∧ wr.cell? ⟨wo.heap.size, 0, none⟩ = some (.int .i64 (loOf E (s.take j))) ∧ wr.cell? ⟨wo.heap.size, 1, none⟩ = some (.int .i64 (hiOf E (s.take j))) ∧ wr.cell? ⟨wo.heap.size, 2, none⟩ = some (.int .i64 k) ∧ ∀ o, wr.frozen? ⟨wo.heap.size, o, none⟩ = false) (fun i _ => s.length - (intOf i).toNat)
        case atStart => exact ⟨0, Nat.zero_le _, rfl, rfl, (Grow.refl _).alloc _, cell_new rfl rfl, cell_new rfl rfl, cell_new rfl rfl, fun o => hot_new rfl⟩
        case round =>
          obtain ⟨j, hj, rfl, halj, hgj, z0, z1, z2, zf⟩ := hrel
          have Hal := Lib.hid halj
          clear halj
          by_cases hjl : j < s.length
          · obtain ⟨sb, so, x, hx, rfl, hcx⟩ := Hsr.out.int hjl
            have hcx' := hgj.keeps hcx
            have Hx := Lib.hid hx
            clear hx
            cases hin : inB x 0 200 with
            | false =>
              have Hin := Lib.hid hin
              clear hin
              go_wp2_with first | (go_at_call 64; refine (pwithin_any _ _ _ _).mono ?_; rintro e w' ⟨rfl, rfl⟩; rw [Hin.out]) | (go_at_call 51; refine (pwant_no _ _).mono ?_; rintro e w' ⟨rfl, rfl⟩)
              refine ⟨rfl, OpenPost.bad (codeO_bad Hs.out ?_) (by decide) rfl (hg.trans hgj)⟩
              unfold listB
              rw [Bool.and_eq_false_iff]
              right
              rw [Bool.eq_false_iff, ne_eq, List.all_eq_true]
              intro ha
              have := ha x (List.mem_of_getElem? Hx.out)
              rw [Hin.out] at this
              cases this
            | true =>
              have hxr := inB_true.1 hin
              have Hin := Lib.hid hin
              have hq0 := hgj.keeps hx0
              have hlo : Hid (loOf E (s.take (j + 1)) = max (loOf E (s.take j)) (x - E)) := by show _ = _; rw [take_get Hx.out, loOf_snoc]
              have hhi : Hid (hiOf E (s.take (j + 1)) = min (hiOf E (s.take j)) (x + E)) := by show _ = _; rw [take_get Hx.out, hiOf_snoc]
              obtain ⟨ql, hql⟩ : ∃ z, loOf E (s.take j) = z := ⟨_, rfl⟩
              obtain ⟨qh, hqh⟩ : ∃ z, hiOf E (s.take j) = z := ⟨_, rfl⟩
              rw [hql] at z0 hlo
              rw [hqh] at z1 hhi
              clear hin hql hqh
              have hlz := lt_of_cell z0
              go_wp2_with first | (go_at_call 64; refine (pwithin_any _ _ _ _).mono ?_; rintro e w' ⟨rfl, rfl⟩; rw [Hin.out]) | (go_at_call 51; refine (pwant_yes _ _).mono ?_; rintro e w' ⟨rfl, rfl⟩) | (go_at_call 48; refine (pnarrowed_any ql qh k x E _ (by omega) (by omega)).mono ?_; unfold clockV; rintro e w1 ⟨rfl, hg1⟩; have z0' := hg1.keeps z0; have z1' := hg1.keeps z1; have z2' := hg1.keeps z2; have zf' : ∀ o, w1.frozen? ⟨wo.heap.size, o, none⟩ = false := (fun o => (hg1.marks _ _ hlz).trans (zf o)); have hlz' := lt_of_cell z0')
              obtain ⟨c0, c1, c2, c3, c4⟩ := cells3 (x := .int .i64 (max ql (x - E))) (y := .int .i64 (min qh (x + E))) (z := .int .i64 k) z0' z1' z2'
              refine ⟨⟨j + 1, by omega, by go_num, ?_, Below.trans (hgj.trans hg1) ?_, ?_, ?_, ?_, ?_⟩, by simp [intOf]; omega⟩
              · rw [take_get Hx.out, List.all_append, Hal.out]; simp [Hin.out]
              · exact grownBy_below c4 (by intro q hq; injection hq with hq; omega) (by have := hgj.size; have := hg1.size; omega)
              · rw [hlo.out]; exact c0
              · rw [hhi.out]; exact c1
              · exact c2
              · exact fun o => (c3 _).trans (zf' o)
          · obtain rfl : j = s.length := by omega
            rw [List.take_length] at z0 z1
            have hy3' := hgj.keeps hy3
            have hyf' : ∀ o, wr.frozen? ⟨W1, o, none⟩ = false := fun o => (hgj.marks _ _ hlw).trans (hyf o)
            have hownV : wr.ownsRow (W1 + 1) 65 3 (.slice ua k uc) k (ckCells 0 (clocksOf E (ss.take k))) := by
              have := World.ownsRow.kept Hown.out (hgj.grownBy none) (by cases ua <;> simp [Value.ownBlock])
              rwa [Hkl.out] at this
            rw [Hkl.out] at hy3'
            obtain ⟨ql, hql⟩ : ∃ z, loOf E s = z := ⟨_, rfl⟩
            obtain ⟨qh, hqh⟩ : ∃ z, hiOf E s = z := ⟨_, rfl⟩
            rw [hql] at z0
            rw [hqh] at z1
            have Hql := Lib.hid hql
            have Hqh := Lib.hid hqh
            have HownV := Lib.hid hownV
            clear hql hqh hownV
            have hlz := lt_of_cell z0
            go_upto_region 14 with fail
            have HA : Hid (∀ ob, (wr.drew.alloc ob).ownsRow (W1 + 1) 65 3 (.slice ua k uc) k (ckCells 0 (clocksOf E (ss.take k)))) := fun ob => World.ownsRow.kept HownV.out (((Grow.refl wr).drew.alloc ob).grownBy none) (by cases ua <;> simp [Value.ownBlock])
            have hub : ∀ e, (Value.slice ua k uc).ownBlock = some e → W1 + 1 ≤ e := fun e he => (HownV.out.lt e he).1
            have Hub := Lib.hid hub
            have hlW := lt_of_cell hy3'
            clear hub
            go_region_law ((refine step_app3 rfl (.tmp 66) (.tmp 68) 66 rfl (W1 + 1) 65 i0 _ 24 hu hi0 hi1 hi2 hi3 rfl (.slice ua k uc) k _ (by rfl) (HA.out _) wr.heap.size 1 (.int .i64 ql) (.int .i64 qh) (.int .i64 k) (by rfl) (cell_new (by simp) rfl) (cell_new (by simp) rfl) (cell_new (by simp) rfl) (by simp [Value.oneCell']) (by simp [Value.oneCell']) (by simp [Value.oneCell']) (by omega) (by omega) (by simp; omega) ?_; intro g4 cap4 w4 hown4 hgr4 hmv4; have hy34 := byCell1 hgr4 (((Grow.refl wr).drew.alloc (.cells #[.int .i64 ql, .int .i64 qh, .int .i64 k] 65)).keeps hy3') (fun e => by have := Hub.out _ e; omega); have hyf4 : ∀ o, w4.frozen? ⟨W1, o, none⟩ = false := (fun o => (byHot hgr4 (by simp; omega) (fun e => by have := Hub.out _ e; omega) o).trans ((((Grow.refl wr).drew.alloc _).marks _ _ hlW).trans (hyf' o))); have hl4 := lt_of_cell hy34))
            all_goals go_wp2_with fail
            all_goals
              refine ⟨⟨k + 1, by omega, by go_num, ?_, ?_⟩, by simp [intOf]; omega⟩
              · have h1 := Hal.out
                rw [List.take_length] at h1
                rw [take_get Hs.out, List.all_append, Hall.out]
                simp only [listB, List.all_cons, List.all_nil, H3l.out, h1, Bool.and_self]
              · have he : clocksOf E (ss.take (k + 1)) = clocksOf E (ss.take k) ++ [(ql, qh)] := by
                  rw [take_get Hs.out]
                  simp [clocksOf, Hql.out, Hqh.out]
                rw [he]
                exact HO.out.next hWb1 hW01lt (hgj.trans ((Grow.refl wr).drew.alloc _)) Hkl.out (HA.out _) (((Grow.refl wr).drew.alloc _).keeps hy3') hgr4 hown4
    · obtain rfl : k = ss.length := by omega
      have hval : validB E F ss = true := by
        have := Hall.out
        rw [List.take_length] at this
        unfold validB
        rw [H1.out, H2.out, H3.out, this]; rfl
      have Hval := Lib.hid hval
      have Hown := Lib.hid hown
      clear hval hown
      cases ok with
      | false =>
        go_wp2_with (go_at_call 51; refine (pwant_no _ _).mono ?_; rintro e w' ⟨rfl, rfl⟩)
        exact ⟨rfl, OpenPost.bad (by unfold codeO; rw [Hval.out]; rfl) (by decide) rfl hg⟩
      | true =>
        have hc : codeO E F ss true = 0 := by unfold codeO; rw [Hval.out]; rfl
        have Hc := Lib.hid hc
        clear hc
        go_wp2_with (go_at_call 51; refine (pwant_yes _ _).mono ?_; rintro e w' ⟨rfl, rfl⟩)
        go_ret
        refine ⟨hg, fun h => absurd Hc.out h, fun _ => ⟨W1, rfl, ?_⟩⟩
        have h2 := Hown.out
        rw [List.take_length] at h2 hy3
        have hne : ss ≠ [] := by intro e; subst e; simp at hl
        rcases h2.2 with ⟨_, h0⟩ | ⟨g, cap', cur, e, hgb, _, hcap', _⟩
        · rw [clocks_len] at h0
          exact absurd (List.eq_nil_of_length_eq_zero h0) hne
        · injection e with e1 e2 e3
          subst e1 e3
          exact ⟨⟨E, _, _, _, some ⟨g, 0, none⟩, uc, hy0, hy1, hy2, hy3, hcap', CksAt.of_row h2⟩, hWb1, fun b o n cp hq => by
            rw [hy3] at hq
            injection hq with hq
            injection hq with hq
            injection hq with hq
            injection hq with hq
            omega⟩
theorem popen (E F : Int) (v : Value) (ss : List (List Int)) (ok : Bool) (w : World) (hv : IsSheets w v ss) :
    Calls Try.prog 38 #[.agg #[.int .i64 E, .int .i64 F, v], .bool ok] w (OpenPost w E F ss ok) := by
  cases hh : (inB E 0 3 && inB ss.length 1 6 && inB F 1 ss.length) with
  | false => exact popen_head E F v ss ok w hv hh
  | true =>
    simp only [Bool.and_eq_true] at hh
    exact popen_tail E F v ss ok w hv hh.1.1 hh.1.2 hh.2
end Go.Proofs.Ytbeglemohfbdfaa
