/- The program of layer 7: next, what can come next. Conditions: sizes. -/
import Derived.Test.YtbeglemohfbdfaaQpF
import Derived.Test.YtbeglemohfbdfaaLibR
import Derived.WalkMore
import Derived.Scope
namespace Go.Proofs.Ytbeglemohfbdfaa
open Go.RowKit

attribute [local go_sem] Oper.semAt_some

def stV (s : St) : Value := .agg #[.int .u64 s.placed, .int .i64 s.last, .int .i64 s.time]
/-- What an iterator of next reads. -/
def NextR (C Sb c : Nat) (a : Option Addr) (cap : Nat) (ks : List (Int × Int)) (s : St) (W : World) : Prop :=
  W.cell? ⟨C, 0, none⟩ = some (.pointer (some ⟨c, 0, none⟩)) ∧ W.cell? ⟨c, 3, none⟩ = some (.slice a ks.length cap) ∧ CksAt W a ks ∧
    W.cell? ⟨Sb, 0, none⟩ = some (.int .u64 s.placed) ∧ W.cell? ⟨Sb, 1, none⟩ = some (.int .i64 s.last) ∧ W.cell? ⟨Sb, 2, none⟩ = some (.int .i64 s.time)
theorem NextR.grow {C Sb c : Nat} {a : Option Addr} {cap : Nat} {ks : List (Int × Int)} {s : St} {W W' : World} (h : NextR C Sb c a cap ks s W) (hg : Grow W W') : NextR C Sb c a cap ks s W' :=
  ⟨hg.keeps h.1, hg.keeps h.2.1, h.2.2.1.grow hg, hg.keeps h.2.2.2.1, hg.keeps h.2.2.2.2.1, hg.keeps h.2.2.2.2.2⟩
theorem NextR.by0 {C Sb c N : Nat} {a : Option Addr} {cap : Nat} {ks : List (Int × Int)} {s : St} {W W' : World} (h : NextR C Sb c a cap ks s W) (k : ∀ b o v, b ≠ N → W.cell? ⟨b, o, none⟩ = some v → W'.cell? ⟨b, o, none⟩ = some v)
    (hC : C ≠ N) (hS : Sb ≠ N) (hc : c ≠ N) (ha : ∀ b o, a = some ⟨b, o, none⟩ → b ≠ N) : NextR C Sb c a cap ks s W' :=
  ⟨k _ _ _ hC h.1, k _ _ _ hc h.2.1, fun p x hx => by
    obtain ⟨b, o, h1, h2, h3, h4⟩ := h.2.2.1 p x hx
    exact ⟨b, o, h1, k _ _ _ (ha b o h1) h2, k _ _ _ (ha b o h1) h3, k _ _ _ (ha b o h1) h4⟩, k _ _ _ hS h.2.2.2.1, k _ _ _ hS h.2.2.2.2.1, k _ _ _ hS h.2.2.2.2.2⟩
/-- A block that is no cells is none of those that are read. -/
theorem NextR.put {C Sb c l : Nat} {a : Option Addr} {cap : Nat} {ks : List (Int × Int)} {s : St} {W : World} (h : NextR C Sb c a cap ks s W) {ob : Obj} (o' : Obj) (hl : W.heap[l]? = some ob) (ho : ob.isCells = false) : NextR C Sb c a cap ks s (W.putObj l o') := by
  have key : ∀ {b o v}, W.cell? ⟨b, o, none⟩ = some v → (W.putObj l o').cell? ⟨b, o, none⟩ = some v := fun hv => cell_kept hv (grownBy_putObj' W l o') fun r e => by cases e; exact ⟨ob, hl, ho⟩
  exact ⟨key h.1, key h.2.1, fun p x hx => by
    obtain ⟨b, o, h1, h2, h3, h4⟩ := h.2.2.1 p x hx
    exact ⟨b, o, h1, key h2, key h3, key h4⟩, key h.2.2.2.1, key h.2.2.2.2.1, key h.2.2.2.2.2⟩
theorem pbegin_any (w : World) : Calls Try.prog 77 #[] w fun e w' => e = .returned (stV .begin) ∧ Grow w w' := by
  go_enter Try.func77, Try.ntmps77
  go_wp2
  exact bodyPost_ret (v := stV .begin) (by simp [results, Try.results77, go_sem, stV, St.begin]) rfl ⟨rfl, (Grow.refl _).alloc _⟩
def NextPost (w : World) (c : Nat) (a : Option Addr) (cap : Nat) (ks : List (Int × Int)) (s : St) (e : Ending) (w' : World) : Prop :=
  ∃ C Sb : Nat, e = .returned (.func (.func 96) #[] #[.pointer (some ⟨C, 0, none⟩), .pointer (some ⟨Sb, 0, none⟩)]) ∧ NextR C Sb c a cap ks s w' ∧ w.heap.size ≤ C ∧ w.heap.size ≤ Sb ∧ Grow w w'
theorem pnext_any (c : Nat) (a : Option Addr) (cap : Nat) (ks : List (Int × Int)) (s : St) (w : World) (h : w.cell? ⟨c, 3, none⟩ = some (.slice a ks.length cap)) (hk : CksAt w a ks) :
    Calls Try.prog 76 #[.pointer (some ⟨c, 0, none⟩), stV s] w (NextPost w c a cap ks s) := by
  have hmf : ∀ (fn : Fn) (first cap : Array Value) (w : World), (Instr.makeFunc fn first cap).run Try.prog w = .ok (.func fn first cap) w := fun _ _ _ _ => rfl
  have Hk := Lib.hid hk
  have Hh := Lib.hid h
  clear hk h
  unfold stV
  go_enter Try.func76, Try.ntmps76
  go_wp2
  go_ret
  have hG : Grow w ((w.alloc (.cells #[.pointer (some ⟨c, 0, none⟩)] 69)).alloc (.cells #[.int .u64 s.placed, .int .i64 s.last, .int .i64 s.time] 113)) := ((Grow.refl w).alloc _).alloc _
  exact ⟨w.heap.size, w.heap.size + 1, rfl, ⟨Grow.keepA (cell_new rfl rfl) _, hG.keeps Hh.out, Hk.out.grow hG, cell_new (by simp) rfl, cell_new (by simp) rfl, cell_new (by simp) rfl⟩, Nat.le_refl _, Nat.le_succ _, hG⟩
/-- Those of the first pairs that can come next. -/
def nextsTo (ks : List (Int × Int)) (s : St) (k : Nat) : List St := ((List.range k).filter (okSt ks s)).map (stepSt ks s)
theorem nextsTo_yes {ks : List (Int × Int)} {s : St} {k : Nat} (h : okSt ks s k = true) : nextsTo ks s (k + 1) = nextsTo ks s k ++ [stepSt ks s k] := by
  unfold nextsTo; rw [List.range_succ, List.filter_append]; simp [h]
theorem nextsTo_no {ks : List (Int × Int)} {s : St} {k : Nat} (h : okSt ks s k = false) : nextsTo ks s (k + 1) = nextsTo ks s k := by
  unfold nextsTo; rw [List.range_succ, List.filter_append]; simp [h]
theorem nextsTo_len (ks : List (Int × Int)) (s : St) (k : Nat) : (nextsTo ks s k).length ≤ k := by
  unfold nextsTo
  rw [List.length_map]
  exact Nat.le_trans (List.length_filter_le _ _) (by simp)
/-- What can come next. -/
abbrev Nx (ks : List (Int × Int)) (s : St) : Type := { x : St // x ∈ nexts ks s }
theorem u64_nat {m : Nat} (h : m < 1024) : IntKind.u64.wrap (m : Int) = m := IntWalk.u64_in _ (by omega)
theorem bits_and1 (n k : Nat) (hn : n < 64) : bits .and .u64 ((n : Int) / 2 ^ k) 1 = if n.testBit k = true then 1 else 0 := by
  have hm : n / 2 ^ k < 64 := Nat.lt_of_le_of_lt (Nat.div_le_self _ _) hn
  have e0 : (n : Int) / 2 ^ k = ((n / 2 ^ k : Nat) : Int) := by simp
  have e : ∀ j : Nat, j < 1024 → (BitVec.ofInt IntKind.u64.bits (j : Int)).toNat = j := fun j hj => by
    rw [BitVec.ofInt_natCast, BitVec.toNat_ofNat]
    exact Nat.mod_eq_of_lt (Nat.lt_of_lt_of_le hj (by decide))
  rw [e0]
  show IntKind.u64.wrap (((BitVec.ofInt IntKind.u64.bits ((n / 2 ^ k : Nat) : Int)) &&& (BitVec.ofInt IntKind.u64.bits ((1 : Nat) : Int))).toNat : Int) = _
  rw [BitVec.toNat_and, e _ (by omega), e 1 (by omega), Nat.and_one_is_mod, u64_nat (by omega), Nat.testBit_eq_decide_div_mod_eq]
  split <;> rename_i h <;> simp at h <;> omega
theorem bits_or64 (m n : Nat) (hm : m < 64) (hn : n < 64) : bits .or .u64 (m : Int) (n : Int) = ((m ||| n : Nat) : Int) := by
  have h : m ||| n < 2 ^ 6 := Nat.or_lt_two_pow hm hn
  have e : ∀ j : Nat, j < 1024 → (BitVec.ofInt IntKind.u64.bits (j : Int)).toNat = j := fun j hj => by
    rw [BitVec.ofInt_natCast, BitVec.toNat_ofNat]
    exact Nat.mod_eq_of_lt (Nat.lt_of_lt_of_le hj (by decide))
  show IntKind.u64.wrap (((BitVec.ofInt IntKind.u64.bits (m : Int)) ||| (BitVec.ofInt IntKind.u64.bits (n : Int))).toNat : Int) = _
  rw [BitVec.toNat_or, e m (by omega), e n (by omega)]
  exact u64_nat (by omega)
set_option maxRecDepth 100000 in
set_option maxHeartbeats 2000000 in
theorem pnext1_stops (C Sb c : Nat) (a : Option Addr) (cap : Nat) (ks : List (Int × Int)) (s : St) (w : World) (hR : NextR C Sb c a cap ks s w) (hl : ks.length ≤ 6) (hs : s.placed < 64 ∧ -1 ≤ s.last ∧ s.last ≤ 6 ∧ 0 ≤ s.time ∧ s.time ≤ 1000) (hks : ∀ p, p < ks.length → 0 ≤ lo ks p ∧ lo ks p ≤ 1000) :
    SeqC Try.prog 96 #[.pointer (some ⟨C, 0, none⟩), .pointer (some ⟨Sb, 0, none⟩)] (fun x : Nx ks s => #[stV x.1]) (fun _ _ => True) (fun _ A B => NextR C Sb c a cap ks s A → NextR C Sb c a cap ks s B)
      (fun xs => xs.map (·.1) = nexts ks s) (fun pre => ∃ k, k ≤ ks.length ∧ pre.map (·.1) = nextsTo ks s k) 6 w := by
  intro l J Jx W hW hJ hJx hY h0
  have hRW := hR.grow hW
  have HJ := Lib.hid hJ
  have HY := Lib.hid hY
  have Hks := Lib.hid hks
  clear hJ hJx hY hR hks
  refine callsIn_of_wp Try.func96 rfl trivial ?_ rfl
  simp only [Try.ntmps96, List.size_toArray, List.length_cons, List.length_nil, Nat.reduceAdd, Nat.reduceSub, Array.replicate_succ, Array.replicate_zero, List.push_toArray, List.append_toArray, List.nil_append, List.cons_append]
  have HR := Lib.hid hRW
  obtain ⟨r1, r2, r3, r4, r5, r6⟩ := hRW
  have R3 := Lib.hid r3
  clear r3
  refine wpIn_wide.2 (wp_scope_straight ((wpIn_wide (n := 9)).1 ?_))
  refine wpIn_seq (wpIn_label ?_)
  gi_wp2
  gi_loopw [4, 5, 6, 12] (fun _ _ _ i wr => ∃ (k : Nat) (pre : List (Nx ks s)) (Fo : Nat → Prop), k ≤ ks.length ∧ i = .int .i64 k ∧ pre.map (·.1) = nextsTo ks s k ∧ J pre Fo wr ∧ (∀ b, Fo b → b < wr.heap.size) ∧ NextR C Sb c a cap ks s wr ∧ W.heap.size ≤ wr.heap.size) (fun _ _ _ i _ => ks.length - (intOf i).toNat)
  case atStart => exact ⟨0, [], noF, Nat.zero_le _, rfl, rfl, h0, fun _ h => h.elim, HR.out, Nat.le_refl _⟩
  case round =>
    obtain ⟨k, pre, Fo, hk, rfl, hpre, hJs, hFo, hRr, hwr⟩ := hrel
    have HFo := Lib.hid hFo
    have Hpre := Lib.hid hpre
    have HJs := Lib.hid hJs
    have HRr := Lib.hid hRr
    obtain ⟨q1, q2, q3, q4, q5, q6⟩ := hRr
    clear hpre hJs hFo
    by_cases hlt : k < ks.length
    · obtain ⟨b, o, rfl, m1, m2, m3⟩ := q3 k (lo ks k, hi ks k) (by simp [lo, hi, hlt])
      have hkk := Hks.out k hlt
      obtain ⟨x, hx⟩ : ∃ z, lo ks k = z := ⟨_, rfl⟩
      obtain ⟨y, hy⟩ : ∃ z, hi ks k = z := ⟨_, rfl⟩
      rw [hx] at m1 hkk
      rw [hy] at m2
      have Hx := Lib.hid hx
      have Hy := Lib.hid hy
      have hbl := lt_of_cell m1
      have hsl := lt_of_cell q4
      clear q3 hx hy
      gi_wp2
      refine ⟨trivial, (callsIn_wide.2 (pearliest_any x y k s.time s.last _ (by omega))).mono ?_⟩
      rintro e w1 ⟨rfl, hg1⟩
      have hE : max x (if (k : Int) < s.last then s.time + 1 else s.time) = early (lo ks k, hi ks k) k s := by unfold early; rw [Hx.out]
      have hEr : 0 ≤ early (lo ks k, hi ks k) k s ∧ early (lo ks k, hi ks k) k s ≤ 1001 := by rw [← hE]; split <;> omega
      rw [hE]
      obtain ⟨t, ht⟩ : ∃ z, early (lo ks k, hi ks k) k s = z := ⟨_, rfl⟩
      rw [ht] at hEr ⊢
      have Ht := Lib.hid ht
      clear hE ht
      have hG1 : Grow wr w1 := ((Grow.refl wr).alloc _).trans hg1
      have n1 := hG1.keeps q4
      have n2 : w1.cell? ⟨wr.heap.size, 1, none⟩ = some (.int .i64 y) := hg1.keeps (cell_new rfl rfl)
      have hba := bits_and1 s.placed k hs.1
      by_cases hbit : s.placed.testBit k = true
      · rw [if_pos hbit] at hba
        have ho : Hid (okSt ks s k = false) := by show _ = _; simp [okSt, hbit]
        gi_wp2
        exact ⟨⟨k + 1, pre, Fo, by omega, by go_num, by rw [nextsTo_no ho.out]; exact Hpre.out, HJ.out.grow HJs.out hG1, fun b hb => Nat.lt_of_lt_of_le (HFo.out b hb) hG1.size, HRr.out.grow hG1, Nat.le_trans hwr hG1.size⟩, by simp [intOf]; omega⟩
      · rw [if_neg hbit] at hba
        by_cases hty : y < t
        · have ho : Hid (okSt ks s k = false) := by show _ = _; unfold okSt; rw [Ht.out, Hy.out]; simp [hty]
          gi_wp2
          exact ⟨⟨k + 1, pre, Fo, by omega, by go_num, by rw [nextsTo_no ho.out]; exact Hpre.out, HJ.out.grow HJs.out hG1, fun b hb => Nat.lt_of_lt_of_le (HFo.out b hb) hG1.size, HRr.out.grow hG1, Nat.le_trans hwr hG1.size⟩, by simp [intOf]; omega⟩
        · have ho : Hid (okSt ks s k = true) := by show _ = _; unfold okSt; rw [Ht.out, Hy.out]; simp [hbit]; omega
          have hty' : t ≤ y := by omega
          gi_wp2
          have hmem : stepSt ks s k ∈ nexts ks s := List.mem_map.2 ⟨k, List.mem_filter.2 ⟨List.mem_range.2 hlt, ho.out⟩, rfl⟩
          have hJd : J pre Fo w1.drew := HJ.out.grow HJs.out hG1.drew
          obtain ⟨fn, tmps, assign, body, hyl, hRd⟩ := HY.out pre Fo ⟨stepSt ks s k, hmem⟩ w1.drew hJd (fun b hb => Nat.lt_of_lt_of_le (HFo.out b hb) hG1.size) trivial (by have h1 := congrArg List.length Hpre.out; have h2 := nextsTo_len ks s k; rw [List.length_map] at h1; omega)
          have hk6 : 2 ^ k < 64 := Nat.lt_of_lt_of_le (Nat.pow_lt_pow_right (by decide) (show k < 6 by omega)) (by decide)
          have hsh : IntKind.u64.wrap (2 ^ k) = ((2 ^ k : Nat) : Int) := by rw [show (2 : Int) ^ k = ((2 ^ k : Nat) : Int) by simp]; exact u64_nat (by omega)
          have hor : bits .or .u64 (s.placed : Int) (IntKind.u64.wrap (2 ^ k)) = ((s.placed ||| 2 ^ k : Nat) : Int) := by rw [hsh]; exact bits_or64 _ _ hs.1 hk6
          have hst : stV (stepSt ks s k) = .agg #[.int .u64 ((s.placed ||| 2 ^ k : Nat) : Int), .int .i64 k, .int .i64 t] := by unfold stV stepSt; rw [Ht.out]
          dsimp only at hyl
          rw [hst] at hyl
          clear hst hsh
          (refine wpIn_region_any (by kernel_rfl) ?_; (try (change wpAnyIn _ _ _ _ _ _ _ _ _ (World.drew _))); refine wpAnyIn_take (i := 0) (v := ?_) rfl rfl (by kernel_rfl) (by kernel_rfl) (by kernel_rfl) (fun _ _ _ h => h) ⟨Or.inl ⟨by rfl, ?_⟩, fun _ => rfl⟩ ?_; rotate_left; (focus (intro w; go_simp; (try with_reducible rfl))); (try simp only [Act.put, List.setIfInBounds_toArray, List.set_cons_zero, List.set_cons_succ, List.getElem_toArray, List.getElem_cons_zero]); refine wpAnyIn_take (i := 1) (v := ?_) rfl rfl (by kernel_rfl) (by kernel_rfl) (by kernel_rfl) (fun _ _ _ h => h) ⟨Or.inl ⟨by rfl, ?_⟩, fun _ => rfl⟩ ?_; rotate_left; (focus (intro w; go_simp; (try with_reducible rfl))); (try simp only [Act.put, List.setIfInBounds_toArray, List.set_cons_zero, List.set_cons_succ, List.getElem_toArray, List.getElem_cons_zero, List.getElem_cons_succ]); refine wpAnyIn_take (i := 3) (v := ?_) rfl rfl (by kernel_rfl) (by kernel_rfl) (by kernel_rfl) (fun _ _ _ h => h) ⟨Or.inl ⟨by rfl, ?_⟩, fun _ => rfl⟩ ?_; rotate_left; (focus (intro w; go_simp; (try with_reducible rfl))); (try simp only [Act.put, List.setIfInBounds_toArray, List.set_cons_zero, List.set_cons_succ, List.getElem_toArray, List.getElem_cons_zero, List.getElem_cons_succ]); refine wpAnyIn_take (i := 4) (v := ?_) rfl rfl (by kernel_rfl) (by kernel_rfl) (by kernel_rfl) (fun _ _ _ h => h) ⟨Or.inl ⟨by rfl, ?_⟩, fun _ => rfl⟩ ?_; rotate_left; (focus (intro w; go_simp; (try with_reducible rfl))); (try simp only [Act.put, List.setIfInBounds_toArray, List.set_cons_zero, List.set_cons_succ, List.getElem_toArray, List.getElem_cons_zero, List.getElem_cons_succ]); refine wpAnyIn_take (i := 6) (v := ?_) rfl rfl (by kernel_rfl) (by kernel_rfl) (by kernel_rfl) (fun _ _ _ h => h) ⟨Or.inl ⟨by rfl, ?_⟩, fun _ => rfl⟩ ?_; rotate_left; (focus (intro w; go_simp; (try with_reducible rfl))); (try simp only [Act.put, List.setIfInBounds_toArray, List.set_cons_zero, List.set_cons_succ, List.getElem_toArray, List.getElem_cons_zero, List.getElem_cons_succ]); refine wpAnyIn_take (i := 7) (v := ?_) rfl rfl (by kernel_rfl) (by kernel_rfl) (by kernel_rfl) (fun _ _ _ h => h) ⟨Or.inl ⟨by rfl, ?_⟩, fun _ => rfl⟩ ?_; rotate_left; (focus (intro w; go_simp; (try with_reducible rfl))); (try simp only [Act.put, List.setIfInBounds_toArray, List.set_cons_zero, List.set_cons_succ, List.getElem_toArray, List.getElem_cons_zero, List.getElem_cons_succ]); refine wpAnyIn_ready (rs := [2]) (by kernel_rfl) (by simp) ?_; refine AllReadyIn.cons rfl (fun K hK => ?_) AllReadyIn.nil; (try simp only [List.getElem_toArray, List.getElem_cons_zero, List.getElem_cons_succ]); (try go_simp); refine hK _ _ ?_; clear hK K; (try simp only [Act.put, List.setIfInBounds_toArray, List.set_cons_zero, List.set_cons_succ, List.getElem_toArray, List.getElem_cons_zero, List.getElem_cons_succ]); refine wpAnyIn_ready (rs := [5]) (by kernel_rfl) (by simp) ?_; refine AllReadyIn.cons rfl (fun K hK => ?_) AllReadyIn.nil; (try simp only [List.getElem_toArray, List.getElem_cons_zero, List.getElem_cons_succ]); (try go_simp); refine hK _ _ ?_; clear hK K; (try simp only [Act.put, List.setIfInBounds_toArray, List.set_cons_zero, List.set_cons_succ, List.getElem_toArray, List.getElem_cons_zero, List.getElem_cons_succ]); refine wpAnyIn_ready (rs := [8]) (by kernel_rfl) (by simp) ?_; refine AllReadyIn.cons rfl (fun K hK => ?_) AllReadyIn.nil; (try simp only [List.getElem_toArray, List.getElem_cons_zero, List.getElem_cons_succ]); (try go_simp); refine hK _ _ ?_; clear hK K; (try simp only [Act.put, List.setIfInBounds_toArray, List.set_cons_zero, List.set_cons_succ, List.getElem_toArray, List.getElem_cons_zero, List.getElem_cons_succ]); refine wpAnyIn_ready (rs := [9]) (by kernel_rfl) (by simp) ?_; refine AllReadyIn.cons rfl (fun K hK => ?_) AllReadyIn.nil; (try simp only [List.getElem_toArray, List.getElem_cons_zero, List.getElem_cons_succ]); (try go_simp); (refine hRd.mono ?_; rintro e w2 ⟨hkf, hkp, hd⟩; obtain ⟨bb, rfl, hd⟩ : ∃ bb : Bool, e = .returned (.bool bb) ∧ ((bb = true ∧ ∃ F', Fp Fo F' w1.drew w2 ∧ J (pre ++ [⟨stepSt ks s k, hmem⟩]) F' w2) ∨ (bb = false ∧ ∃ F', Fp Fo F' w1.drew w2 ∧ Jx (pre ++ [⟨stepSt ks s k, hmem⟩]) F' w2)) := (by rcases hd with ⟨rfl, h⟩ | ⟨rfl, h⟩; exact ⟨true, rfl, .inl ⟨rfl, h⟩⟩; exact ⟨false, rfl, .inr ⟨rfl, h⟩⟩); have Hd := Lib.hid hd; clear hd); refine hK _ _ ?_; clear hK K; (try simp only [Act.put, List.setIfInBounds_toArray, List.set_cons_zero, List.set_cons_succ, List.getElem_toArray, List.getElem_cons_zero, List.getElem_cons_succ]); refine wpAnyIn_ready (rs := [10]) (by kernel_rfl) (by simp) ?_; refine AllReadyIn.cons rfl (fun K hK => ?_) AllReadyIn.nil; (try simp only [List.getElem_toArray, List.getElem_cons_zero, List.getElem_cons_succ]); (try go_simp); refine hK _ _ ?_; clear hK K; (try simp only [Act.put, List.setIfInBounds_toArray, List.set_cons_zero, List.set_cons_succ, List.getElem_toArray, List.getElem_cons_zero, List.getElem_cons_succ]); refine wpAnyIn_done (by kernel_rfl) ?_ _)
          have hsnoc : Hid ((pre ++ [⟨stepSt ks s k, hmem⟩] : List (Nx ks s)).map (·.1) = nextsTo ks s (k + 1)) := by
            show _ = _
            rw [nextsTo_yes ho.out, ← Hpre.out]
            simp
          cases bb
          · obtain ⟨F', hF', hx⟩ : ∃ F', Fp Fo F' w1.drew w2 ∧ Jx (pre ++ [⟨stepSt ks s k, hmem⟩]) F' w2 := by
              rcases Hd.out with ⟨h, _⟩ | ⟨_, h⟩
              · cases h
              · exact h
            gi_wp2
            refine bodyPost_ret (results_none rfl _ _ _) rfl ?_
            exact ⟨⟨_, rfl⟩, .inr ⟨_, ⟨_, by omega, hsnoc.out⟩, F', hx⟩⟩
          · obtain ⟨F', hF', hx⟩ : ∃ F', Fp Fo F' w1.drew w2 ∧ J (pre ++ [⟨stepSt ks s k, hmem⟩]) F' w2 := by
              rcases Hd.out with ⟨_, h⟩ | ⟨h, _⟩
              · exact h
              · cases h
            gi_wp2
            exact ⟨⟨k + 1, _, F', by omega, by go_num, hsnoc.out, hx, hF'.2, hkp (HRr.out.grow hG1.drew), Nat.le_trans hwr (Nat.le_trans hG1.size hkf.size)⟩, by simp [intOf]; omega⟩
    · obtain rfl : k = ks.length := by omega
      gi_wp2
      rw [Exit.noGoto_normal]
      go_end0
      exact ⟨⟨_, rfl⟩, .inl ⟨pre, Fo, Hpre.out, HJs.out⟩⟩
end Go.Proofs.Ytbeglemohfbdfaa
