/- The reference of layer 7: hull, Time, Place, Final, Meet, Cut. Conditions: sizes. -/
import Derived.Test.YtbeglemohfbdfaaGreatRfE
import Derived.Test.YtbeglemohfbdfaaGreatLwO
namespace Go.Proofs.YtbeglemohfbdfaaGreat
open Go.RowKit

def hullTo (l : List Int) (k : Nat) : Int × Int := (l.take k).foldl (fun a x => (min a.1 x, max a.2 x)) (l.headD 0, l.headD 0)
theorem hullTo_succ {l : List Int} {k : Nat} {x : Int} (h : l[k]? = some x) : hullTo l (k + 1) = (min (hullTo l k).1 x, max (hullTo l k).2 x) := by
  unfold hullTo
  rw [take_get h, List.foldl_append]
  rfl
theorem hullTo_all {l : List Int} : hullTo l l.length = hullL l := by
  unfold hullTo hullL
  rw [List.take_length]
set_option maxRecDepth 100000 in
set_option maxHeartbeats 1000000 in
theorem rhull_any (v : Value) (l : List Int) (w : World) (hv : IsInts w v l) (h0 : 0 < l.length) :
    Calls Tryz.prog 39 #[v] w fun e w' => e = .returned (.agg #[.int .i64 (hullL l).1, .int .i64 (hullL l).2]) ∧ Grow w w' := by
  obtain ⟨a, cap, rfl, _, _, hrow⟩ := hv
  obtain ⟨b, o, x0, hx0, rfl, hc0⟩ := hrow.int h0
  rw [Nat.add_zero] at hc0
  have hhd : l.headD 0 = x0 := by rw [List.headD_eq_head?_getD, List.head?_eq_getElem?, hx0]; rfl
  have Hrow := Lib.hid hrow
  have Hhd := Lib.hid hhd
  have hlb := lt_of_cell hc0
  have h0I : (0 : Int) < l.length := by omega
  clear hrow hhd hx0
  go_enter Tryz.func39, Tryz.ntmps39
  go_upto_region 1 with fail
  have t0 : (w.alloc (.cells #[.int .i64 0, .int .i64 0] 28)).cell? ⟨w.heap.size, 0, none⟩ = some (.int .i64 0) := cell_new rfl rfl
  have t1 : (w.alloc (.cells #[.int .i64 0, .int .i64 0] 28)).cell? ⟨w.heap.size, 1, none⟩ = some (.int .i64 0) := cell_new rfl rfl
  have tf : ∀ q, (w.alloc (.cells #[.int .i64 0, .int .i64 0] 28)).frozen? ⟨w.heap.size, q, none⟩ = false := fun q => hot_new rfl
  have gW : Grow w (w.alloc (.cells #[.int .i64 0, .int .i64 0] 28)) := (Grow.refl w).alloc _
  obtain ⟨W, hW⟩ : ∃ z, w.alloc (.cells #[.int .i64 0, .int .i64 0] 28) = z := ⟨_, rfl⟩
  obtain ⟨T2, hT2⟩ : ∃ z, w.heap.size = z := ⟨_, rfl⟩
  rw [hW] at t0 t1 tf gW
  rw [hT2] at t0 t1 tf
  rw [hW, hT2]
  have HT2 := Lib.hid hT2
  clear hW hT2
  have hh0 := gW.keeps hc0
  have hlW := lt_of_cell hh0
  (refine Left.start (fun Vx => Vx.cell? ⟨b, o, none⟩ = some (.int .i64 x0)) (fun k => k != 8) (by kernel_rfl) ?_; refine Left.take 5 (i := 0) (oi := _) (v := ?_) rfl (by kernel_rfl) (by kernel_rfl) (by kernel_rfl) (by kernel_rfl) (fun _ _ _ h => h) (Or.inl ⟨by rfl, ?_⟩) (Grow.keeps (Grow.refl _).drew hh0) (by kernel_rfl) ?_; rotate_left; (focus (intro w hSw; (try dsimp only at hSw); go_simp; (try with_reducible rfl))); (try simp only [Act.put, List.setIfInBounds_toArray, List.set_cons_zero, List.set_cons_succ, List.getElem_toArray, List.getElem_cons_zero]); refine Left.take 5 (i := 1) (oi := _) (v := ?_) rfl (by kernel_rfl) (by kernel_rfl) (by kernel_rfl) (by kernel_rfl) (fun _ _ _ h => h) (Or.inl ⟨by rfl, ?_⟩) (Grow.keeps (Grow.refl _).drew hh0) (by kernel_rfl) ?_; rotate_left; (focus (intro w hSw; (try dsimp only at hSw); go_simp; (try with_reducible rfl))); (try simp only [Act.put, List.setIfInBounds_toArray, List.set_cons_zero, List.set_cons_succ, List.getElem_toArray, List.getElem_cons_zero, List.getElem_cons_succ]); refine Left.take 5 (i := 2) (oi := _) (v := ?_) rfl (by kernel_rfl) (by kernel_rfl) (by kernel_rfl) (by kernel_rfl) (fun _ _ _ h => h) (Or.inl ⟨by rfl, ?_⟩) (Grow.keeps (Grow.refl _).drew hh0) (by kernel_rfl) ?_; rotate_left; (focus (intro w hSw; (try dsimp only at hSw); go_simp; (try with_reducible rfl))); (try simp only [Act.put, List.setIfInBounds_toArray, List.set_cons_zero, List.set_cons_succ, List.getElem_toArray, List.getElem_cons_zero, List.getElem_cons_succ]); refine Left.take 5 (i := 3) (oi := _) (v := ?_) rfl (by kernel_rfl) (by kernel_rfl) (by kernel_rfl) (by kernel_rfl) (fun _ _ _ h => h) (Or.inl ⟨by rfl, ?_⟩) (Grow.keeps (Grow.refl _).drew hh0) (by kernel_rfl) ?_; rotate_left; (focus (intro w hSw; (try dsimp only at hSw); go_simp; (try with_reducible rfl))); (try simp only [Act.put, List.setIfInBounds_toArray, List.set_cons_zero, List.set_cons_succ, List.getElem_toArray, List.getElem_cons_zero, List.getElem_cons_succ]); refine Left.take 5 (i := 4) (oi := _) (v := ?_) rfl (by kernel_rfl) (by kernel_rfl) (by kernel_rfl) (by kernel_rfl) (fun _ _ _ h => h) (Or.inl ⟨by rfl, ?_⟩) (Grow.keeps (Grow.refl _).drew hh0) (by kernel_rfl) ?_; rotate_left; (focus (intro w hSw; (try dsimp only at hSw); go_simp; (try with_reducible rfl))); (try simp only [Act.put, List.setIfInBounds_toArray, List.set_cons_zero, List.set_cons_succ, List.getElem_toArray, List.getElem_cons_zero, List.getElem_cons_succ]); refine Left.take 5 (i := 5) (oi := _) (v := ?_) rfl (by kernel_rfl) (by kernel_rfl) (by kernel_rfl) (by kernel_rfl) (fun _ _ _ h => h) (Or.inl ⟨by rfl, ?_⟩) (Grow.keeps (Grow.refl _).drew hh0) (by kernel_rfl) ?_; rotate_left; (focus (intro w hSw; (try dsimp only at hSw); go_simp; (try with_reducible rfl))); (try simp only [Act.put, List.setIfInBounds_toArray, List.set_cons_zero, List.set_cons_succ, List.getElem_toArray, List.getElem_cons_zero, List.getElem_cons_succ]); refine Left.take 5 (i := 6) (oi := _) (v := ?_) rfl (by kernel_rfl) (by kernel_rfl) (by kernel_rfl) (by kernel_rfl) (fun _ _ _ h => h) (Or.inl ⟨by rfl, ?_⟩) (Grow.keeps (Grow.refl _).drew hh0) (by kernel_rfl) ?_; rotate_left; (focus (intro w hSw; (try dsimp only at hSw); go_simp; (try with_reducible rfl))); (try simp only [Act.put, List.setIfInBounds_toArray, List.set_cons_zero, List.set_cons_succ, List.getElem_toArray, List.getElem_cons_zero, List.getElem_cons_succ]); refine Left.ready (rs := [7]) (by kernel_rfl) (by simp) ?_; refine LeftAll.cons (o := _) rfl (fun K hK => ?_) LeftAll.nil; (try simp only [List.getElem_toArray, List.getElem_cons_zero, List.getElem_cons_succ]); (try go_simp); (try (go_wp2_with fail)); refine hK.out _ _ ?_ ?_; (focus (intro hJ; first | (exact absurd hJ (by decide)) | (exact Grow.keepA (Grow.keeps (Grow.refl _).drew hh0) _))); clear hK K; (try simp only [Act.put, List.setIfInBounds_toArray, List.set_cons_zero, List.set_cons_succ, List.getElem_toArray, List.getElem_cons_zero, List.getElem_cons_succ]); refine Left.ready (rs := [8]) (by kernel_rfl) (by simp) ?_; refine LeftAll.cons (o := _) rfl (fun K hK => ?_) LeftAll.nil; (try simp only [List.getElem_toArray, List.getElem_cons_zero, List.getElem_cons_succ]); (try go_simp); (try (go_wp2_with fail)); refine hK.out _ _ ?_ ?_; (focus (intro hJ; first | (exact absurd hJ (by decide)) | (exact Grow.keepA (Grow.keeps (Grow.refl _).drew hh0) _))); clear hK K; (try simp only [Act.put, List.setIfInBounds_toArray, List.set_cons_zero, List.set_cons_succ, List.getElem_toArray, List.getElem_cons_zero, List.getElem_cons_succ]); refine Left.done (by kernel_rfl) ?_ _)
  go_wp2_with fail
  have d0 : (W.alloc (.cells #[.int .i64 x0, .int .i64 x0] 28)).drew.cell? ⟨W.heap.size, 0, none⟩ = some (.int .i64 x0) := cell_new rfl rfl
  have d1 : (W.alloc (.cells #[.int .i64 x0, .int .i64 x0] 28)).drew.cell? ⟨W.heap.size, 1, none⟩ = some (.int .i64 x0) := cell_new rfl rfl
  have df : ∀ q, (W.alloc (.cells #[.int .i64 x0, .int .i64 x0] 28)).drew.frozen? ⟨W.heap.size, q, none⟩ = false := fun q => hot_new rfl
  have gV : Grow W (W.alloc (.cells #[.int .i64 x0, .int .i64 x0] 28)).drew := ((Grow.refl W).alloc _).drew
  obtain ⟨V, hV⟩ : ∃ z, (W.alloc (.cells #[.int .i64 x0, .int .i64 x0] 28)).drew = z := ⟨_, rfl⟩
  obtain ⟨D, hD⟩ : ∃ z, W.heap.size = z := ⟨_, rfl⟩
  rw [hV] at d0 d1 df gV
  rw [hD] at d0 d1 df
  rw [hV, hD]
  have HD := Lib.hid hD
  clear hV hD
  go_loopw [4] (fun i wr => ∃ k : Nat, k ≤ l.length ∧ i = .int .i64 k ∧ wr.cell? ⟨D, 0, none⟩ = some (.int .i64 (hullTo l k).1) ∧ wr.cell? ⟨D, 1, none⟩ = some (.int .i64 (hullTo l k).2) ∧ (∀ q, wr.frozen? ⟨D, q, none⟩ = false) ∧ Grow W wr) (fun i _ => l.length - (intOf i).toNat)
  case atStart => exact ⟨0, Nat.zero_le _, rfl, by show _ = some (Value.int .i64 (l.headD 0)); rw [Hhd.out]; exact d0, by show _ = some (Value.int .i64 (l.headD 0)); rw [Hhd.out]; exact d1, df, gV⟩
  case round =>
    clear d0 d1 df gV
    obtain ⟨k, hk, rfl, d0, d1, df, hg⟩ := hrel
    have hlD := lt_of_cell d0
    by_cases hlt : k < l.length
    · obtain ⟨_, _, x, hx, he, hcx⟩ := Hrow.out.int hlt
      cases he
      have hs := hullTo_succ hx
      obtain ⟨lo, hlo⟩ : ∃ z, (hullTo l k).1 = z := ⟨_, rfl⟩
      obtain ⟨hi, hhi⟩ : ∃ z, (hullTo l k).2 = z := ⟨_, rfl⟩
      rw [hlo, hhi] at hs
      rw [hlo] at d0
      rw [hhi] at d1
      obtain ⟨m, hm⟩ : ∃ z, min lo x = z := ⟨_, rfl⟩
      obtain ⟨M, hM⟩ : ∃ z, max hi x = z := ⟨_, rfl⟩
      rw [hm, hM] at hs
      have Hs := Lib.hid hs
      have hcx' := (gW.trans hg).keeps hcx
      have hlx := lt_of_cell hcx'
      have hkI : (k : Int) < l.length := by omega
      clear hs hlo hhi hx hcx
      go_upto_region 5 with fail
      (refine Left.start (fun Vx => Vx.cell? ⟨D, 0, none⟩ = some (.int .i64 lo) ∧ Vx.cell? ⟨D, 1, none⟩ = some (.int .i64 hi) ∧ Vx.cell? ⟨b, o + k, none⟩ = some (.int .i64 x)) (fun k => k != 15) (by kernel_rfl) ?_; refine Left.take 5 (i := 0) (oi := _) (v := ?_) rfl (by kernel_rfl) (by kernel_rfl) (by kernel_rfl) (by kernel_rfl) (fun _ _ _ h => h) (Or.inl ⟨by rfl, ?_⟩) (⟨Grow.keeps (Grow.refl _).drew d0, Grow.keeps (Grow.refl _).drew d1, Grow.keeps (Grow.refl _).drew hcx'⟩) (by kernel_rfl) ?_; rotate_left; (focus (intro w hSw; (try dsimp only at hSw); go_simp; (try with_reducible rfl))); (try simp only [Act.put, List.setIfInBounds_toArray, List.set_cons_zero, List.set_cons_succ, List.getElem_toArray, List.getElem_cons_zero]); refine Left.take 5 (i := 1) (oi := _) (v := ?_) rfl (by kernel_rfl) (by kernel_rfl) (by kernel_rfl) (by kernel_rfl) (fun _ _ _ h => h) (Or.inl ⟨by rfl, ?_⟩) (⟨Grow.keeps (Grow.refl _).drew d0, Grow.keeps (Grow.refl _).drew d1, Grow.keeps (Grow.refl _).drew hcx'⟩) (by kernel_rfl) ?_; rotate_left; (focus (intro w hSw; (try dsimp only at hSw); go_simp; (try with_reducible rfl))); (try simp only [Act.put, List.setIfInBounds_toArray, List.set_cons_zero, List.set_cons_succ, List.getElem_toArray, List.getElem_cons_zero, List.getElem_cons_succ]); refine Left.take 5 (i := 2) (oi := _) (v := ?_) rfl (by kernel_rfl) (by kernel_rfl) (by kernel_rfl) (by kernel_rfl) (fun _ _ _ h => h) (Or.inl ⟨by rfl, ?_⟩) (⟨Grow.keeps (Grow.refl _).drew d0, Grow.keeps (Grow.refl _).drew d1, Grow.keeps (Grow.refl _).drew hcx'⟩) (by kernel_rfl) ?_; rotate_left; (focus (intro w hSw; (try dsimp only at hSw); go_simp; (try with_reducible rfl))); (try simp only [Act.put, List.setIfInBounds_toArray, List.set_cons_zero, List.set_cons_succ, List.getElem_toArray, List.getElem_cons_zero, List.getElem_cons_succ]); refine Left.take 5 (i := 3) (oi := _) (v := ?_) rfl (by kernel_rfl) (by kernel_rfl) (by kernel_rfl) (by kernel_rfl) (fun _ _ _ h => h) (Or.inl ⟨by rfl, ?_⟩) (⟨Grow.keeps (Grow.refl _).drew d0, Grow.keeps (Grow.refl _).drew d1, Grow.keeps (Grow.refl _).drew hcx'⟩) (by kernel_rfl) ?_; rotate_left; (focus (intro w hSw; (try dsimp only at hSw); go_simp; (try with_reducible rfl))); (try simp only [Act.put, List.setIfInBounds_toArray, List.set_cons_zero, List.set_cons_succ, List.getElem_toArray, List.getElem_cons_zero, List.getElem_cons_succ]); refine Left.take 5 (i := 4) (oi := _) (v := ?_) rfl (by kernel_rfl) (by kernel_rfl) (by kernel_rfl) (by kernel_rfl) (fun _ _ _ h => h) (Or.inl ⟨by rfl, ?_⟩) (⟨Grow.keeps (Grow.refl _).drew d0, Grow.keeps (Grow.refl _).drew d1, Grow.keeps (Grow.refl _).drew hcx'⟩) (by kernel_rfl) ?_; rotate_left; (focus (intro w hSw; (try dsimp only at hSw); go_simp; (try with_reducible rfl))); (try simp only [Act.put, List.setIfInBounds_toArray, List.set_cons_zero, List.set_cons_succ, List.getElem_toArray, List.getElem_cons_zero, List.getElem_cons_succ]); refine Left.take 5 (i := 5) (oi := _) (v := ?_) rfl (by kernel_rfl) (by kernel_rfl) (by kernel_rfl) (by kernel_rfl) (fun _ _ _ h => h) (Or.inl ⟨by rfl, ?_⟩) (⟨Grow.keeps (Grow.refl _).drew d0, Grow.keeps (Grow.refl _).drew d1, Grow.keeps (Grow.refl _).drew hcx'⟩) (by kernel_rfl) ?_; rotate_left; (focus (intro w hSw; (try dsimp only at hSw); go_simp; (try with_reducible rfl))); (try simp only [Act.put, List.setIfInBounds_toArray, List.set_cons_zero, List.set_cons_succ, List.getElem_toArray, List.getElem_cons_zero, List.getElem_cons_succ]); refine Left.take 5 (i := 6) (oi := _) (v := ?_) rfl (by kernel_rfl) (by kernel_rfl) (by kernel_rfl) (by kernel_rfl) (fun _ _ _ h => h) (Or.inl ⟨by rfl, ?_⟩) (⟨Grow.keeps (Grow.refl _).drew d0, Grow.keeps (Grow.refl _).drew d1, Grow.keeps (Grow.refl _).drew hcx'⟩) (by kernel_rfl) ?_; rotate_left; (focus (intro w hSw; (try dsimp only at hSw); go_simp; (try with_reducible rfl))); (try simp only [Act.put, List.setIfInBounds_toArray, List.set_cons_zero, List.set_cons_succ, List.getElem_toArray, List.getElem_cons_zero, List.getElem_cons_succ]); refine Left.take 5 (i := 7) (oi := _) (v := ?_) rfl (by kernel_rfl) (by kernel_rfl) (by kernel_rfl) (by kernel_rfl) (fun _ _ _ h => h) (Or.inl ⟨by rfl, ?_⟩) (⟨Grow.keeps (Grow.refl _).drew d0, Grow.keeps (Grow.refl _).drew d1, Grow.keeps (Grow.refl _).drew hcx'⟩) (by kernel_rfl) ?_; rotate_left; (focus (intro w hSw; (try dsimp only at hSw); go_simp; (try with_reducible rfl))); (try simp only [Act.put, List.setIfInBounds_toArray, List.set_cons_zero, List.set_cons_succ, List.getElem_toArray, List.getElem_cons_zero, List.getElem_cons_succ]); refine Left.take 5 (i := 8) (oi := _) (v := ?_) rfl (by kernel_rfl) (by kernel_rfl) (by kernel_rfl) (by kernel_rfl) (fun _ _ _ h => h) (Or.inl ⟨by rfl, ?_⟩) (⟨Grow.keeps (Grow.refl _).drew d0, Grow.keeps (Grow.refl _).drew d1, Grow.keeps (Grow.refl _).drew hcx'⟩) (by kernel_rfl) ?_; rotate_left; (focus (intro w hSw; (try dsimp only at hSw); go_simp; (try with_reducible rfl))); (try simp only [Act.put, List.setIfInBounds_toArray, List.set_cons_zero, List.set_cons_succ, List.getElem_toArray, List.getElem_cons_zero, List.getElem_cons_succ]); refine Left.take 5 (i := 9) (oi := _) (v := ?_) rfl (by kernel_rfl) (by kernel_rfl) (by kernel_rfl) (by kernel_rfl) (fun _ _ _ h => h) (Or.inl ⟨by rfl, ?_⟩) (⟨Grow.keeps (Grow.refl _).drew d0, Grow.keeps (Grow.refl _).drew d1, Grow.keeps (Grow.refl _).drew hcx'⟩) (by kernel_rfl) ?_; rotate_left; (focus (intro w hSw; (try dsimp only at hSw); go_simp; (try with_reducible rfl))); (try simp only [Act.put, List.setIfInBounds_toArray, List.set_cons_zero, List.set_cons_succ, List.getElem_toArray, List.getElem_cons_zero, List.getElem_cons_succ]); refine Left.take 5 (i := 10) (oi := _) (v := ?_) rfl (by kernel_rfl) (by kernel_rfl) (by kernel_rfl) (by kernel_rfl) (fun _ _ _ h => h) (Or.inl ⟨by rfl, ?_⟩) (⟨Grow.keeps (Grow.refl _).drew d0, Grow.keeps (Grow.refl _).drew d1, Grow.keeps (Grow.refl _).drew hcx'⟩) (by kernel_rfl) ?_; rotate_left; (focus (intro w hSw; (try dsimp only at hSw); go_simp; (try with_reducible rfl))); (try simp only [Act.put, List.setIfInBounds_toArray, List.set_cons_zero, List.set_cons_succ, List.getElem_toArray, List.getElem_cons_zero, List.getElem_cons_succ]); refine Left.take 5 (i := 11) (oi := _) (v := ?_) rfl (by kernel_rfl) (by kernel_rfl) (by kernel_rfl) (by kernel_rfl) (fun _ _ _ h => h) (Or.inl ⟨by rfl, ?_⟩) (⟨Grow.keeps (Grow.refl _).drew d0, Grow.keeps (Grow.refl _).drew d1, Grow.keeps (Grow.refl _).drew hcx'⟩) (by kernel_rfl) ?_; rotate_left; (focus (intro w hSw; (try dsimp only at hSw); go_simp; (try with_reducible rfl))); (try simp only [Act.put, List.setIfInBounds_toArray, List.set_cons_zero, List.set_cons_succ, List.getElem_toArray, List.getElem_cons_zero, List.getElem_cons_succ]); refine Left.take 5 (i := 12) (oi := _) (v := ?_) rfl (by kernel_rfl) (by kernel_rfl) (by kernel_rfl) (by kernel_rfl) (fun _ _ _ h => h) (Or.inl ⟨by rfl, ?_⟩) (⟨Grow.keeps (Grow.refl _).drew d0, Grow.keeps (Grow.refl _).drew d1, Grow.keeps (Grow.refl _).drew hcx'⟩) (by kernel_rfl) ?_; rotate_left; (focus (intro w hSw; (try dsimp only at hSw); go_simp; (try with_reducible rfl))); (try simp only [Act.put, List.setIfInBounds_toArray, List.set_cons_zero, List.set_cons_succ, List.getElem_toArray, List.getElem_cons_zero, List.getElem_cons_succ]); refine Left.take 5 (i := 13) (oi := _) (v := ?_) rfl (by kernel_rfl) (by kernel_rfl) (by kernel_rfl) (by kernel_rfl) (fun _ _ _ h => h) (Or.inl ⟨by rfl, ?_⟩) (⟨Grow.keeps (Grow.refl _).drew d0, Grow.keeps (Grow.refl _).drew d1, Grow.keeps (Grow.refl _).drew hcx'⟩) (by kernel_rfl) ?_; rotate_left; (focus (intro w hSw; (try dsimp only at hSw); go_simp; (try with_reducible rfl))); (try simp only [Act.put, List.setIfInBounds_toArray, List.set_cons_zero, List.set_cons_succ, List.getElem_toArray, List.getElem_cons_zero, List.getElem_cons_succ]); refine Left.take 5 (i := 14) (oi := _) (v := ?_) rfl (by kernel_rfl) (by kernel_rfl) (by kernel_rfl) (by kernel_rfl) (fun _ _ _ h => h) (Or.inl ⟨by rfl, ?_⟩) (⟨Grow.keeps (Grow.refl _).drew d0, Grow.keeps (Grow.refl _).drew d1, Grow.keeps (Grow.refl _).drew hcx'⟩) (by kernel_rfl) ?_; rotate_left; (focus (intro w hSw; (try dsimp only at hSw); go_simp; (try with_reducible rfl))); (try simp only [Act.put, List.setIfInBounds_toArray, List.set_cons_zero, List.set_cons_succ, List.getElem_toArray, List.getElem_cons_zero, List.getElem_cons_succ]); refine Left.ready (rs := [15]) (by kernel_rfl) (by simp) ?_; refine LeftAll.cons (o := _) rfl (fun K hK => ?_) LeftAll.nil; (try simp only [List.getElem_toArray, List.getElem_cons_zero, List.getElem_cons_succ]); (try go_simp); (try (go_wp2_with fail)); refine hK.out _ _ ?_ ?_; (focus (intro hJ; first | (exact absurd hJ (by decide)) | (fail))); clear hK K; (try simp only [Act.put, List.setIfInBounds_toArray, List.set_cons_zero, List.set_cons_succ, List.getElem_toArray, List.getElem_cons_zero, List.getElem_cons_succ]); refine Left.done (by kernel_rfl) ?_ _)
      obtain ⟨q0, q1, qf, _⟩ := cells2 (x := .int .i64 m) (y := .int .i64 M) d0 d1
      have gZ : Grow W ((wr.setCell ⟨D, 0, none⟩ (.int .i64 m)).setCell ⟨D, 1, none⟩ (.int .i64 M)) := Below.setCell (p := ⟨D, 1, none⟩) (Below.setCell (p := ⟨D, 0, none⟩) hg (Nat.le_of_eq HD.out) _) (Nat.le_of_eq HD.out) _
      go_wp2_with fail
      exact ⟨⟨k + 1, by omega, by go_num, by rw [Hs.out]; exact q0, by rw [Hs.out]; exact q1, fun q => (qf _).trans (df q), gZ.drew⟩, by simp [intOf]; omega⟩
    · obtain rfl : k = l.length := by omega
      rw [hullTo_all] at d0 d1
      obtain ⟨lo, hlo⟩ : ∃ z, (hullL l).1 = z := ⟨_, rfl⟩
      obtain ⟨hi, hhi⟩ : ∃ z, (hullL l).2 = z := ⟨_, rfl⟩
      rw [hlo] at d0
      rw [hhi] at d1
      have Hlo := Lib.hid hlo
      have Hhi := Lib.hid hhi
      have u0 := hg.keeps t0
      have u1 := hg.keeps t1
      have uf : ∀ q, wr.frozen? ⟨T2, q, none⟩ = false := fun q => (hg.marks _ _ (lt_of_cell t0)).trans (tf q)
      have hlT := lt_of_cell u0
      have hDT : T2 ≠ D := fun e => by have := HD.out; have := lt_of_cell t0; omega
      clear hlo hhi t0 t1 tf
      go_wp2_with fail
      obtain ⟨r0, r1, _, _⟩ := cells2 (x := .int .i64 lo) (y := .int .i64 hi) u0 u1
      exact bodyPost_ret (v := .agg #[.int .i64 lo, .int .i64 hi]) (by simp [results, Tryz.results39, go_sem, r0, r1]) rfl ⟨by rw [Hlo.out, Hhi.out], Below.setCell (p := ⟨T2, 1, none⟩) (Below.setCell (p := ⟨T2, 0, none⟩) (gW.trans hg) (Nat.le_of_eq HT2.out) _) (Nat.le_of_eq HT2.out) _⟩
end Go.Proofs.YtbeglemohfbdfaaGreat
