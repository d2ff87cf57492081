/- The program of layer 7: all orders as an iterator, and the first one. Conditions: sizes. -/
import Derived.Test.YtbeglemohfbdfaaQpL
import Derived.Test.YtbeglemohfbdfaaQpJ
import Derived.Laws.EntriesVeiled
namespace Go.Proofs.Ytbeglemohfbdfaa
open Go.RowKit Go.Instr

attribute [local go_sem] Oper.semAt_some

theorem pon_any (T : Nat → Prop) (C Y On c l0 B N : Nat) (a : Option Addr) (cap : Nat) (ks : List (Int × Int)) (hl : ks.length ≤ 6) (hks : ∀ p, p < ks.length → 0 ≤ lo ks p ∧ lo ks p ≤ 1000 ∧ hi ks p ≤ 203) (hTB : ∀ b, T b → b < B) (J Jx : List (Od ks) → (Nat → Prop) → World → Prop) (hJ : OwnFp B J) (hJx : OwnFp B Jx)
    (hY : ∀ pre F x W1, J pre F W1 → (∀ b, F b → b < W1.heap.size) → OdX ks x W1 → pre.length < N → YieldAt Fence.wide 8 Try.prog l0 #[x.1.2] W1 fun e W' => KeepsFrom B W1 W' ∧ KpT (TF T F) W1 W' ∧ ((e = .returned (.bool true) ∧ ∃ F', Fp F F' W1 W' ∧ J (pre ++ [x]) F' W') ∨ (e = .returned (.bool false) ∧ ∃ F', Fp F F' W1 W' ∧ Jx (pre ++ [x]) F' W'))) :
    ∀ m, OnSaid T C Y On c l0 B N a cap ks J Jx m
  | 0 => by
    intro s ll lv pre F w hm hok hll hmem hN hlv henv _ hlf hB hF hj
    exact pon_zero T C Y On c l0 B N a cap ks hl hTB J Jx hJ hJx hY s ll lv pre F w (by omega) (by have := hmem [] (by simp [ordersF]); rwa [List.append_nil] at this) (by omega) hlv henv hlf hB hF hj
  | m + 1 => pon_succ T C Y On c l0 B N a cap ks hl hks hTB J Jx hJ hJx m (pon_any T C Y On c l0 B N a cap ks hl hks hTB J Jx hJ hJx hY m)
set_option maxRecDepth 100000 in
set_option maxHeartbeats 2000000 in
/-- All orders, as an iterator. -/
theorem porders1_seq (T : Nat → Prop) (C c : Nat) (a : Option Addr) (cap : Nat) (ks : List (Int × Int)) (hl : ks.length ≤ 6) (hks : ∀ p, p < ks.length → 0 ≤ lo ks p ∧ lo ks p ≤ 1000 ∧ hi ks p ≤ 203) (w : World)
    (h1 : w.cell? ⟨C, 0, none⟩ = some (.pointer (some ⟨c, 0, none⟩))) (h2 : w.cell? ⟨c, 3, none⟩ = some (.slice a ks.length cap)) (h3 : CksAt w a ks) (hTb : ∀ b, T b → b < w.heap.size) (hTC : ¬ T C) (hTc : ¬ T c) (hTa : ∀ b o, a = some ⟨b, o, none⟩ → ¬ T b) :
    SeqC Try.prog 78 #[.pointer (some ⟨C, 0, none⟩)] (fun x : Od ks => #[x.1.2]) (OdX ks) (fun F => KpT (TF T F)) (fun xs => xs.map (·.1.1) = ordersL ks) (fun xs => xs.map (·.1.1) <+: ordersL ks) 46656 w := by
  intro l J Jx W hW hJ hJx hY h0
  have HJ := Lib.hid hJ
  have HJx := Lib.hid hJx
  have HY := Lib.hid hY
  have Hks := Lib.hid hks
  have H3 := Lib.hid h3
  have H0 := Lib.hid h0
  clear hJ hJx hY h0 h3 hks
  refine callsIn_wide.2 ?_
  go_enter Try.func78, Try.ntmps78
  go_wp2
  obtain ⟨V1, hV1⟩ : ∃ z, W.alloc (.cells #[.func (.yield l) #[] #[]] 119) = z := ⟨_, rfl⟩
  obtain ⟨V2, hV2⟩ : ∃ z, V1.alloc (.cells #[.func (.func 79) #[] #[.pointer (some ⟨C, 0, none⟩), .pointer (some ⟨W.heap.size, 0, none⟩), .pointer (some ⟨W.heap.size + 1, 0, none⟩)]] 120) = z := ⟨_, rfl⟩
  rw [hV1, hV2]
  have z1 : V1.heap.size = W.heap.size + 1 := by rw [← hV1]; simp
  have g1 : Grow W V1 := by rw [← hV1]; exact (Grow.refl _).alloc _
  have g2 : Grow V1 V2 := by rw [← hV2]; exact (Grow.refl _).alloc _
  have gV : Grow W V2 := g1.trans g2
  have hws := hW.size
  have henv : OEnv C W.heap.size (W.heap.size + 1) c l a cap ks V2 := {
    chase := (hW.trans gV).keeps h1
    yields := g2.keeps (by rw [← hV1]; exact cell_new rfl rfl)
    self := by rw [← hV2]; exact cell_new z1.symm rfl
    clocks := (hW.trans gV).keeps h2
    at' := H3.out.grow (hW.trans gV) }
  have hTf : ∀ b, ¬ T b → ¬ TF T noF b := fun b h k => k.elim h (fun h => h.elim)
  have hAp : Apart (TF T noF) C W.heap.size (W.heap.size + 1) c a := ⟨hTf _ hTC, hTf _ fun h => by have := hTb _ h; omega, hTf _ fun h => by have := hTb _ h; omega, hTf _ hTc, fun b o e => hTf _ (hTa b o e)⟩
  have hTB : ∀ b, T b → b < W.heap.size := fun b hb => Nat.lt_of_lt_of_le (hTb b hb) hws
  have e4 := henv.self
  have Henv := Lib.hid henv
  have HAp := Lib.hid hAp
  have hTOn : ¬ TF T noF (W.heap.size + 1) := hTf _ fun h => by have := hTb _ h; omega
  have H02 : Hid (J [] noF V2) := HJ.out.grow H0.out gV
  have hSz : W.heap.size ≤ V2.heap.size := gV.size
  have hY1 := lt_of_cell henv.yields
  have h6 : 6 ^ ks.length ≤ 46656 := Nat.le_trans (Nat.pow_le_pow_right (by decide) hl) (by decide)
  have hlo : leftN ks .begin = ks.length := leftN_begin ks
  have H6 := Lib.hid h6
  have Hlo := Lib.hid hlo
  clear hV1 hV2 g1 g2 henv z1 h6 hlo hAp
  have hnil : ∀ V : World, Own V W.heap.size 3 (.slice none 0 0) ((natL []).map (Value.int .i64)) := fun V => by
    exact Own.nil V _ _
  (refine wp_region_held_drew (S := fun Vx => Vx.cell? ⟨W.heap.size + 1, 0, none⟩ = some (.func (.func 79) #[] #[.pointer (some ⟨C, 0, none⟩), .pointer (some ⟨W.heap.size, 0, none⟩), .pointer (some ⟨W.heap.size + 1, 0, none⟩)])) (by kernel_rfl) (e4) (fun hHeld => ?_); refine wpAnyH_take (i := 0) (oi := _) (v := ?_) rfl (by kernel_rfl) (by kernel_rfl) (by kernel_rfl) (fun _ _ _ h => h) (Or.inl ⟨by rfl, ?_⟩) (by assumption) ?_; rotate_left; (focus (intro w hSw; (try dsimp only at hSw); go_simp; (try with_reducible rfl))); (try simp only [Act.put, List.setIfInBounds_toArray, List.set_cons_zero, List.set_cons_succ, List.getElem_toArray, List.getElem_cons_zero]); refine wpAnyH_ready (rs := [1]) (by kernel_rfl) (by simp) ?_; refine AllReadyH.cons (o := _) rfl (fun K hK => ?_) AllReadyH.nil; (try simp only [List.getElem_toArray, List.getElem_cons_zero, List.getElem_cons_succ]); (try go_simp); (first | (go_at_call 77; refine (pbegin_any _).mono ?_; rintro e w1 ⟨rfl, hg1⟩; have hg1 : Grow V2 w1 := (Grow.refl V2).drew.trans hg1; have e41 := hg1.keeps e4) | (refine (pon_any T C W.heap.size (W.heap.size + 1) c l W.heap.size 46656 a cap ks hl Hks.out hTB J Jx HJ.out HJx.out HY.out ks.length .begin [] (.slice none 0 0) [] noF w1 Hlo.out (OkSt.begin ks) (by simp) (fun t ht => ht) (by simpa using H6.out) (hnil w1) (Henv.out.kp HAp.out (KpT.grow hg1)) HAp.out (fun b hb => by simp [Value.ownBlock] at hb) (Nat.le_trans hSz hg1.size) (fun _ h => h.elim) (HJ.out.grow H02.out hg1)).mono ?_; rintro e w2 ⟨k1, k2, F', k3, k4⟩; obtain ⟨bb, rfl, k4⟩ : ∃ bb : Bool, e = .returned (.bool bb) ∧ ((bb = true ∧ ∃ ys : List (Od ks), ys.map (·.1.1) = (ordersF ks ks.length .begin).map ([] ++ ·) ∧ J ([] ++ ys) F' w2) ∨ (bb = false ∧ ∃ ys : List (Od ks), ys.map (·.1.1) <+: (ordersF ks ks.length .begin).map ([] ++ ·) ∧ Jx ([] ++ ys) F' w2 ∧ LastOk ks (.slice none 0 0) w1.heap.size ys w2)) := (by rcases k4 with ⟨rfl, h⟩ | ⟨rfl, h⟩; exact ⟨true, rfl, .inl ⟨rfl, h⟩⟩; exact ⟨false, rfl, .inr ⟨rfl, h⟩⟩); have K4 := Lib.hid k4; clear k4; have e42 := k2.cell hTOn e41)); (try (go_wp2_with fail)); refine hK.out _ _ ?_ (fun hHeld => ?_); (focus (first | assumption | exact Grow.keeps (by assumption) (by assumption))); clear hK K; (try simp only [Act.put, List.setIfInBounds_toArray, List.set_cons_zero, List.set_cons_succ, List.getElem_toArray, List.getElem_cons_zero, List.getElem_cons_succ]); refine wpAnyH_ready (rs := [2]) (by kernel_rfl) (by simp) ?_; refine AllReadyH.cons (o := _) rfl (fun K hK => ?_) AllReadyH.nil; (try simp only [List.getElem_toArray, List.getElem_cons_zero, List.getElem_cons_succ]); (try go_simp); (first | (go_at_call 77; refine (pbegin_any _).mono ?_; rintro e w1 ⟨rfl, hg1⟩; have hg1 : Grow V2 w1 := (Grow.refl V2).drew.trans hg1; have e41 := hg1.keeps e4) | (refine (pon_any T C W.heap.size (W.heap.size + 1) c l W.heap.size 46656 a cap ks hl Hks.out hTB J Jx HJ.out HJx.out HY.out ks.length .begin [] (.slice none 0 0) [] noF w1 Hlo.out (OkSt.begin ks) (by simp) (fun t ht => ht) (by simpa using H6.out) (hnil w1) (Henv.out.kp HAp.out (KpT.grow hg1)) HAp.out (fun b hb => by simp [Value.ownBlock] at hb) (Nat.le_trans hSz hg1.size) (fun _ h => h.elim) (HJ.out.grow H02.out hg1)).mono ?_; rintro e w2 ⟨k1, k2, F', k3, k4⟩; obtain ⟨bb, rfl, k4⟩ : ∃ bb : Bool, e = .returned (.bool bb) ∧ ((bb = true ∧ ∃ ys : List (Od ks), ys.map (·.1.1) = (ordersF ks ks.length .begin).map ([] ++ ·) ∧ J ([] ++ ys) F' w2) ∨ (bb = false ∧ ∃ ys : List (Od ks), ys.map (·.1.1) <+: (ordersF ks ks.length .begin).map ([] ++ ·) ∧ Jx ([] ++ ys) F' w2 ∧ LastOk ks (.slice none 0 0) w1.heap.size ys w2)) := (by rcases k4 with ⟨rfl, h⟩ | ⟨rfl, h⟩; exact ⟨true, rfl, .inl ⟨rfl, h⟩⟩; exact ⟨false, rfl, .inr ⟨rfl, h⟩⟩); have K4 := Lib.hid k4; clear k4; have e42 := k2.cell hTOn e41)); (try (go_wp2_with fail)); refine hK.out _ _ ?_ (fun hHeld => ?_); (focus (first | assumption | exact Grow.keeps (by assumption) (by assumption))); clear hK K; (try simp only [Act.put, List.setIfInBounds_toArray, List.set_cons_zero, List.set_cons_succ, List.getElem_toArray, List.getElem_cons_zero, List.getElem_cons_succ]); refine wpAnyH_done (by kernel_rfl) ?_ _)
  go_wp2
  have hid : ∀ ts : List (List Nat), ts.map ([] ++ ·) = ts := fun ts => by simp
  go_end0
  refine ⟨⟨_, rfl⟩, ?_⟩
  rw [hid] at K4
  rcases K4.out with ⟨_, ys, h, hj⟩ | ⟨_, ys, h, hj, _, hq⟩
  · exact .inl ⟨ys, F', h, hj⟩
  · exact .inr ⟨ys, F', h, hj, fun x hx => (hq x hx).1⟩
/-- The iterator itself. -/
theorem porders_any (c : Nat) (w : World) : Calls Try.prog 61 #[.pointer (some ⟨c, 0, none⟩)] w fun e w' => ∃ C : Nat, e = .returned (.func (.func 78) #[] #[.pointer (some ⟨C, 0, none⟩)]) ∧ w'.cell? ⟨C, 0, none⟩ = some (.pointer (some ⟨c, 0, none⟩)) ∧ w.heap.size ≤ C ∧ Grow w w' := by
  go_enter Try.func61, Try.ntmps61
  go_wp2
  go_ret
  exact ⟨_, rfl, cell_new rfl rfl, Nat.le_refl _, (Grow.refl w).alloc _⟩
end Go.Proofs.Ytbeglemohfbdfaa
