/- The program of layer 7: in how many ways pairs can come next. Conditions: sizes. -/
import Derived.Test.YtbeglemohfbdfaaQpH
import Derived.Laws.StructEq
import Derived.Deep.LoopGhost
namespace Go.Proofs.Ytbeglemohfbdfaa
open Go.RowKit Go.Instr

attribute [local go_sem] Oper.semAt_some

theorem st_fields : (Try.prog.fieldsOf 113).toList.map (fun f => (f.type, f.offset, f.name)) = [(77, 0, "placed"), (3, 1, "last"), (3, 2, "time")] := by kernel_rfl
theorem st_eql (x y : St) (w : World) : (Op.equal 113 (stV x) (stV y)).run Try.prog w = .ok (decide (x = y)) w := by
  have hf := st_fields
  rw [show Op.equal 113 (stV x) (stV y) = Op.equalIn (9999 + 1) 113 (.agg #[.int .u64 x.placed, .int .i64 x.last, .int .i64 x.time]) (.agg #[.int .u64 y.placed, .int .i64 y.last, .int .i64 y.time]) from rfl, run_equalIn_struct w 9999 113 _ _ (by kernel_rfl) (by kernel_rfl)]
  have h0 : ∀ (a b c : Int) (w : World), (part 77 #[.int .u64 a, .int .i64 b, .int .i64 c] 0).run Try.prog w = .ok (.int .u64 a) w := fun _ _ _ _ => by kernel_rfl
  have h1 : ∀ (a b c : Int) (w : World), (part 3 #[.int .u64 a, .int .i64 b, .int .i64 c] 1).run Try.prog w = .ok (.int .i64 b) w := fun _ _ _ _ => by kernel_rfl
  have h2 : ∀ (a b c : Int) (w : World), (part 3 #[.int .u64 a, .int .i64 b, .int .i64 c] 2).run Try.prog w = .ok (.int .i64 c) w := fun _ _ _ _ => by kernel_rfl
  have hu : Try.prog.underlying 3 = some (.int .i64) := by kernel_rfl
  have hv : Try.prog.underlying 77 = some (.int .u64) := by kernel_rfl
  obtain ⟨f, g, k, hl⟩ : ∃ f g k, (Try.prog.fieldsOf 113).toList = [f, g, k] := by
    generalize (Try.prog.fieldsOf 113).toList = L at hf
    rcases L with _ | ⟨f, _ | ⟨g, _ | ⟨k, _ | ⟨_, _⟩⟩⟩⟩
    · simp at hf
    · simp at hf
    · simp at hf
    · exact ⟨f, g, k, rfl⟩
    · simp at hf
  rw [hl] at hf ⊢
  simp only [List.map_cons, List.map_nil, List.cons.injEq, Prod.mk.injEq, and_true] at hf
  obtain ⟨⟨f1, f2, f3⟩, ⟨g1, g2, g3⟩, k1, k2, k3⟩ := hf
  simp only [Op.eqFields, f1, f2, f3, g1, g2, g3, k1, k2, k3, Sem.run_bind, Sem.run_ite, h0, h1, h2, Result.andThen, run_equalIn_int _ 9998 _ _ _ _ _ hu, run_equalIn_int _ 9998 _ _ _ _ _ hv]
  by_cases e1 : x.placed = y.placed
  · by_cases e2 : x.last = y.last
    · by_cases e3 : x.time = y.time
      · have e : x = y := St.ext' e1 e2 e3
        simp [e, Sem.run_pure]
      · have e4 : (x.time == y.time) = false := by rw [beq_eq_false_iff_ne]; exact e3
        have e : x ≠ y := fun h => e3 (by rw [h])
        simp [e, e1, e2, e4, Sem.run_pure]
    · have e4 : (x.last == y.last) = false := by rw [beq_eq_false_iff_ne]; exact e2
      have e : x ≠ y := fun h => e2 (by rw [h])
      simp [e, e1, e4, Sem.run_pure]
  · have e4 : ((x.placed : Int) == (y.placed : Int)) = false := by rw [beq_eq_false_iff_ne]; omega
    have e : x ≠ y := fun h => e1 (by rw [h])
    simp [e, e4, Sem.run_pure]
theorem keyOk_st : KeyOk Try.prog 113 stV where
  und := ⟨_, (by kernel_rfl : Try.prog.underlying 113 = some (.struct (Try.prog.fieldsOf 113)))⟩
  check := fun e x w => by cases e <;> kernel_rfl
  eql := st_eql
  now := fun d hd x y => by
    rw [(by kernel_rfl : Try.prog.underlying 113 = some (.struct (Try.prog.fieldsOf 113)))] at hd; cases hd; left; rfl
  bits := fun x => by unfold stV sameBits; simp [sameBits]
theorem und_known : Try.prog.underlying 110 = some (.map 113 3) := by kernel_rfl
theorem zero_int (w : World) : (zeroValue 3).run Try.prog w = .ok (.int .i64 0) w := by kernel_rfl
theorem mem_putKey {κ : Type} [DecidableEq κ] {l : List (κ × Value)} {x : κ} {u : Value} {p : κ × Value} (h : p ∈ putKey l x u) : p = (x, u) ∨ p ∈ l := by
  unfold putKey at h
  cases hl : lookIx x l 0 with
  | none => rw [hl] at h; simpa [or_comm] using h
  | some q =>
    obtain ⟨i, v⟩ := q
    rw [hl] at h
    obtain ⟨_, h2⟩ := lookIx_some hl
    obtain ⟨j, hj, rfl⟩ := List.getElem_of_mem h
    dsimp only at hj ⊢
    rw [List.getElem_modify]
    split
    · subst_vars
      left
      have h3 := (List.getElem?_eq_some_iff.1 h2).2
      simp only [Nat.sub_zero] at h3
      rw [h3]
    · right
      exact List.getElem_mem _
theorem row_ne {X : World} {row : Option Nat} {b o : Nat} {v : Value} (h : X.cell? ⟨b, o, none⟩ = some v) (hr : ∀ r, row = some r → ∃ ob : Obj, X.heap[r]? = some ob ∧ ob.isCells = false) : row ≠ some b := fun e => by
  obtain ⟨ob, ho, hoc⟩ := hr b e
  obtain ⟨o', ho', hc'⟩ := cells_of_cell h
  rw [ho] at ho'
  cases ho'
  rw [hoc] at hc'
  cases hc'
theorem gb_new {a b : World} {r : Option Nat} (h : a.grownBy b r) {N : Nat} (hN : a.heap.size ≤ N) (o : Nat) (v : Value) : a.grownBy (b.setCell ⟨N, o, none⟩ v) r :=
  ⟨h.os, h.tape, h.output, by simpa using h.size, fun k hk hne => ((bySet b N o v).block k (Nat.lt_of_lt_of_le hk h.size) (by intro e; injection e with e; omega)).trans (h.block k hk hne)⟩
theorem gb_put {a b : World} {r : Option Nat} (h : a.grownBy b r) {D : Nat} (hD : a.heap.size ≤ D) (o : Obj) : a.grownBy (b.putObj D o) r :=
  ⟨h.os, h.tape, h.output, by simpa using h.size, fun k hk hne => ((grownBy_putObj' b D o).block k (Nat.lt_of_lt_of_le hk h.size) (by intro e; injection e with e; omega)).trans (h.block k hk hne)⟩
/-- The map of what is known. -/
def Known (W : World) (M : Nat) (ks : List (Int × Int)) : Prop := ∃ l : List (St × Value), MapIs W M stV l ∧ ∀ p ∈ l, p.2 = .int .i64 (waysN ks p.1)
/-- What ways goes by. -/
structure WEnv (A K C On M c : Nat) (a : Option Addr) (cap : Nat) (ks : List (Int × Int)) (W : World) : Prop where
  all : W.cell? ⟨A, 0, none⟩ = some (.int .u64 ((2 ^ ks.length - 1 : Nat) : Int))
  known : W.cell? ⟨K, 0, none⟩ = some (.map (some M))
  chase : W.cell? ⟨C, 0, none⟩ = some (.pointer (some ⟨c, 0, none⟩))
  self : W.cell? ⟨On, 0, none⟩ = some (.func (.func 75) #[] #[.pointer (some ⟨A, 0, none⟩), .pointer (some ⟨K, 0, none⟩), .pointer (some ⟨C, 0, none⟩), .pointer (some ⟨On, 0, none⟩)])
  clocks : W.cell? ⟨c, 3, none⟩ = some (.slice a ks.length cap)
  at' : CksAt W a ks
/-- What holds of cells behind a step that leaves all blocks but one as they were, if this one is no cells. -/
theorem keptM {W W' : World} {M : Nat} {ke : St → Value} {l : List (St × Value)} (hm : MapIs W M ke l) (hg : W.grownBy W' (some M)) {b o : Nat} {v : Value} (h : W.cell? ⟨b, o, none⟩ = some v) : W'.cell? ⟨b, o, none⟩ = some v := by
  obtain ⟨es, cl, h1, _⟩ := hm
  exact cell_kept h hg (fun r e => by cases e; exact ⟨_, h1, rfl⟩)
theorem WEnv.kept {A K C On M c : Nat} {a : Option Addr} {cap : Nat} {ks : List (Int × Int)} {W W' : World} (h : WEnv A K C On M c a cap ks W) (k : ∀ b o v, b < W.heap.size → W.cell? ⟨b, o, none⟩ = some v → W'.cell? ⟨b, o, none⟩ = some v) : WEnv A K C On M c a cap ks W' :=
  ⟨k _ _ _ (lt_of_cell h.all) h.all, k _ _ _ (lt_of_cell h.known) h.known, k _ _ _ (lt_of_cell h.chase) h.chase, k _ _ _ (lt_of_cell h.self) h.self, k _ _ _ (lt_of_cell h.clocks) h.clocks, fun p x hx => by
    obtain ⟨b, o, h1, h2, h3, h4⟩ := h.at' p x hx
    exact ⟨b, o, h1, k _ _ _ (lt_of_cell h2) h2, k _ _ _ (lt_of_cell h3) h3, k _ _ _ (lt_of_cell h4) h4⟩⟩
def WaysPost (w : World) (M : Nat) (ks : List (Int × Int)) (s : St) (e : Ending) (w' : World) : Prop := e = .returned (.int .i64 (waysN ks s)) ∧ w.grownBy w' (some M) ∧ Known w' M ks
set_option maxRecDepth 100000 in
set_option maxHeartbeats 2000000 in
theorem pways1_any (A K C On M c : Nat) (a : Option Addr) (cap : Nat) (ks : List (Int × Int)) (hl : ks.length ≤ 6) (hks : ∀ p, p < ks.length → 0 ≤ lo ks p ∧ lo ks p ≤ 1000 ∧ hi ks p ≤ 203) :
    ∀ (m : Nat) (s : St) (w : World), leftN ks s = m → OkSt ks s → WEnv A K C On M c a cap ks w → Known w M ks →
      Calls Try.prog 75 #[stV s, .pointer (some ⟨A, 0, none⟩), .pointer (some ⟨K, 0, none⟩), .pointer (some ⟨C, 0, none⟩), .pointer (some ⟨On, 0, none⟩)] w (WaysPost w M ks s) := by
  intro m
  induction m with
  | zero =>
    intro s w hm hok henv hkn
    have hall := (all_left hok).2 hm
    have Hm := Lib.hid hm
    have HK := Lib.hid hkn
    obtain ⟨e1, e2, e3, e4, e5, e6⟩ := henv
    have he : ((s.placed : Int) == ((2 ^ ks.length - 1 : Nat) : Int)) = true := by rw [hall]; simp
    have hlA := lt_of_cell e1
    unfold stV
    clear hm hkn e6 hall
    go_enter Try.func75, Try.ntmps75
    go_wp2_with fail
    go_ret
    obtain ⟨l, h1, h2⟩ := HK.out
    refine ⟨by rw [waysN_zero Hm.out]; rfl, ((Grow.refl w).alloc _).grownBy _, l, h1.grow ((Grow.refl w).alloc _), h2⟩
  | succ m ih =>
    intro s w hm hok henv hkn
    have hall : s.placed ≠ 2 ^ ks.length - 1 := fun h => by have := (all_left hok).1 h; omega
    have he : ((s.placed : Int) == ((2 ^ ks.length - 1 : Nat) : Int)) = false := by rw [beq_eq_false_iff_ne]; omega
    have Hm := Lib.hid hm
    have Hih := Lib.hid ih
    have Henv := Lib.hid henv
    obtain ⟨e1, e2, e3, e4, e5, e6⟩ := henv
    obtain ⟨ml, hmap, hmv⟩ := hkn
    have Hmv := Lib.hid hmv
    have hlA := lt_of_cell e1
    have hlK := lt_of_cell e2
    have hlC := lt_of_cell e3
    have hlM := hmap.lt
    have hma := hmap.grow ((Grow.refl w).alloc (.cells #[.int .u64 s.placed, .int .i64 s.last, .int .i64 s.time] 113))
    have hst : stV s = .agg #[.int .u64 s.placed, .int .i64 s.last, .int .i64 s.time] := rfl
    rw [hst]
    clear hm ih e6 hall hmv hst
    refine (callsIn_wide (n := 10)).1 (callsIn_of_wp_marks Try.func75 rfl trivial (wpIn_wide.2 ?_) rfl)
    simp only [Try.ntmps75, List.size_toArray, List.length_cons, List.length_nil, Nat.reduceAdd, Nat.reduceSub, Array.replicate_succ, Array.replicate_zero, List.push_toArray, List.append_toArray, List.nil_append, List.cons_append]
    cases hlk : lookKey ml s with
    | some v =>
      have hv := Hmv.out _ (lookKey_mem hlk)
      dsimp only at hv
      subst hv
      have Hlk := Lib.hid hlk
      clear hlk
      go_wp2_with (at_lookup; refine wpl_look rfl (.tmp 16) (.tmp 17) 110 true rfl 3 keyOk_st und_known _ (zero_int _) M ml s rfl rfl hma ?_; rw [Hlk.out])
      refine ⟨_, results_tmp rfl _ _ _, rfl, ((Grow.refl w).alloc _).grownBy _, ml, hma, Hmv.out⟩
    | none =>
      have Hlk := Lib.hid hlk
      have Hat := Lib.hid Henv.out.at'
      clear hlk
      go_wp2_with (first | (at_lookup; refine wpl_look rfl (.tmp 16) (.tmp 17) 110 true rfl 3 keyOk_st und_known _ (zero_int _) M ml s rfl rfl hma ?_; rw [Hlk.out]) | (go_at_call 76; refine (pnext_any c a cap ks s _ ((((Grow.refl w).alloc _).alloc _).keeps e5) (Hat.out.grow (((Grow.refl w).alloc _).alloc _))).mono ?_; rintro e w1 ⟨C1, S1, rfl, hR1, hC1, hS1, hg1⟩))
      have hG1 : Grow w w1 := (((Grow.refl w).alloc _).alloc _).trans hg1
      have hN0 : w1.cell? ⟨w.heap.size + 1, 0, none⟩ = some (.int .i64 0) := hg1.keeps (cell_new (by simp) rfl)
      have hNf : ∀ o, w1.frozen? ⟨w.heap.size + 1, o, none⟩ = false := fun o => (hg1.marks _ _ (by simp)).trans (hot_new (by simp))
      have hN1 := lt_of_cell hN0
      have hSB : w1.cell? ⟨w.heap.size, 0, none⟩ = some (.int .u64 s.placed) ∧ w1.cell? ⟨w.heap.size, 1, none⟩ = some (.int .i64 s.last) ∧ w1.cell? ⟨w.heap.size, 2, none⟩ = some (.int .i64 s.time) := ⟨hg1.keeps (Grow.keepA (cell_new rfl rfl) _), hg1.keeps (Grow.keepA (cell_new rfl rfl) _), hg1.keeps (Grow.keepA (cell_new rfl rfl) _)⟩
      simp only [World.size_alloc] at hC1 hS1
      have hcl := lt_of_cell e5
      have hlO := lt_of_cell e4
      have HR1 := Lib.hid hR1
      have Hok := Lib.hid hok
      have hE : ∀ args w, (callFunc 96 args).run Try.prog w = .ok (.enter 96 args) w := enters_of Try.func96 (by kernel_rfl) rfl
      refine (wpIn_wide (n := 10)).1 ?_
      have hseq := pnext1_stops C1 S1 c a cap ks s w1 hR1 hl ⟨Nat.lt_of_lt_of_le hok.lt (Nat.pow_le_pow_right (by decide) hl), by have := hok.last; omega, by have := hok.last; omega, hok.time.1, by have := hok.time; omega⟩ (fun p hp => ⟨(hks p hp).1, (hks p hp).2.1⟩)
      refine wp_range (g := .tmp 25) (gf := 96) (lb := #[.pointer (some ⟨C1, 0, none⟩), .pointer (some ⟨S1, 0, none⟩)]) rfl hE hseq (fun _ _ _ _ _ _ _ _ => trivial) (fun {F X Y Z} h k hx => k (h hx)) ?hKb (Grow.refl _) (fun _ => rfl)
        (fun pre _ W => w.grownBy W (some M) ∧ W.cell? ⟨w.heap.size + 1, 0, none⟩ = some (.int .i64 (((pre.map (·.1)).map (waysN ks)).sum : Nat)) ∧ (∀ o, W.frozen? ⟨w.heap.size + 1, o, none⟩ = false) ∧ w1.heap.size ≤ W.heap.size ∧ (W.cell? ⟨w.heap.size, 0, none⟩ = some (.int .u64 s.placed) ∧ W.cell? ⟨w.heap.size, 1, none⟩ = some (.int .i64 s.last) ∧ W.cell? ⟨w.heap.size, 2, none⟩ = some (.int .i64 s.time)) ∧ Known W M ks)
        (fun _ _ _ _ => False) ?hI (fun c s F A B row hs hg hr => hs) ?h0
        (fun x a' W => ∃ Bx, w1.heap.size ≤ Bx ∧ W.cell? ⟨Bx, 0, none⟩ = some (.int .u64 x.1.placed) ∧ W.cell? ⟨Bx, 1, none⟩ = some (.int .i64 x.1.last) ∧ W.cell? ⟨Bx, 2, none⟩ = some (.int .i64 x.1.time) ∧ a' = { tmps := #[.agg #[.int .u64 s.placed, .int .i64 s.last, .int .i64 s.time], .pointer (some ⟨A, 0, none⟩), .pointer (some ⟨K, 0, none⟩), .pointer (some ⟨C, 0, none⟩), .pointer (some ⟨On, 0, none⟩), .pointer (some ⟨w.heap.size, 0, none⟩), .int .i64 0, .int .i64 0, .bool false, .pointer (some ⟨(w.heap.size + 1), 0, none⟩), .pointer (some ⟨Bx, 0, none⟩), .pointer (some ⟨w.heap.size, 0, none⟩), .int .u64 s.placed, .int .u64 ((2 ^ ks.length - 1 : Nat) : Int), .bool false, .tuple #[.int .i64 0, .bool false], .map (some M), .agg #[.int .u64 s.placed, .int .i64 s.last, .int .i64 s.time], .tuple #[.int .i64 0, .bool false], .int .i64 0, .bool false, .bool false, undef, .pointer (some ⟨c, 0, none⟩), .agg #[.int .u64 s.placed, .int .i64 s.last, .int .i64 s.time], .func (.func 96) #[] #[.pointer (some ⟨C1, 0, none⟩), .pointer (some ⟨S1, 0, none⟩)], stV x.1, undef, undef, undef, undef, undef, undef, undef, undef, undef], defers := [] }) ?hAx ?assign ?body ?done ?stop
      case hKb =>
        exact fun _ W l o o' hl hlo hoc h => h.put o' hlo hoc
      case hI =>
        rintro pre F X Y row ⟨i1, i2, i3, i5, i6, kl, kl1, kl2⟩ hg hr
        have hne : ∀ b, b < w1.heap.size → row ≠ some b := fun b hb e => by have := (hr b e).1; omega
        have hNn := hne _ hN1
        have hSn := hne w.heap.size (by omega)
        have hMn : some M ≠ row := fun e => hne M (by have := hG1.size; omega) e.symm
        refine ⟨?_, byCell1 hg i2 hNn, fun o => (byHot hg (lt_of_cell i2) hNn o).trans (i3 o), Nat.le_trans i5 hg.size, ⟨byCell1 hg i6.1 hSn, byCell1 hg i6.2.1 hSn, byCell1 hg i6.2.2 hSn⟩, kl, kl1.kept hg hMn, kl2⟩
        exact ⟨hg.os.trans i1.os, hg.tape.trans i1.tape, hg.output.trans i1.output, Nat.le_trans i1.size hg.size, fun k hk hn => (hg.block k (Nat.lt_of_lt_of_le hk i1.size) (fun e => by have := (hr k e.symm).1; have := hG1.size; omega)).trans (i1.block k hk hn)⟩
      case h0 => exact ⟨hG1.grownBy _, hN0, hNf, Nat.le_refl _, hSB, ml, hmap.grow hG1, Hmv.out⟩
      case hAx =>
        rintro x a' _ X Y row ⟨Bx, h1, h2, h3, h4, rfl⟩ hg hr
        exact ⟨Bx, h1, cell_kept h2 hg (fun r e => (hr r e).2), cell_kept h3 hg (fun r e => (hr r e).2), cell_kept h4 hg (fun r e => (hr r e).2), rfl⟩
      case assign =>
        rintro l pre F x W K9 hwl hi _ _ hK
        simp only [stV]
        obtain ⟨i1, i2, i3, i5, i6, i4⟩ := hi
        have hNl := lt_of_cell i2
        gi_wp2
        have hGW : Grow W (W.alloc (.cells #[.int .u64 x.1.placed, .int .i64 x.1.last, .int .i64 x.1.time] 113)) := (Grow.refl W).alloc _
        obtain ⟨kl, kl1, kl2⟩ := i4
        refine hK _ _ ((KeepsOthers.alloc _ _).from _) (fun h => h.grow hGW) ⟨byThen i1 hGW, hGW.keeps i2, fun o => (hGW.marks _ _ hNl).trans (i3 o), Nat.le_trans i5 hGW.size, ⟨hGW.keeps i6.1, hGW.keeps i6.2.1, hGW.keeps i6.2.2⟩, kl, kl1.grow hGW, kl2⟩ trivial ⟨W.heap.size, i5, cell_new rfl rfl, cell_new rfl rfl, cell_new rfl rfl, rfl⟩
      case body =>
        rintro l pre F x a' W hwl ⟨i1, i2, i3, i5, i6, kl, kl1, kl2⟩ _ _ ⟨Bx, hBx, b1, b2, b3, rfl⟩ hlen
        have hNl := lt_of_cell i2
        obtain ⟨y, hy⟩ := x
        dsimp only at b1 b2 b3
        have hsm := sum_le (waysN ks) 46656 (pre.map (·.1)) fun z _ => waysN_le hl z
        have hwy := waysN_le hl y
        rw [List.length_map] at hsm
        have Hs1 : Hid (((((pre ++ [⟨y, hy⟩] : List (Nx ks s)).map (·.1)).map (waysN ks)).sum = ((pre.map (·.1)).map (waysN ks)).sum + waysN ks y)) := by show _ = _; simp
        obtain ⟨sm, hsmE⟩ : ∃ z, ((pre.map (·.1)).map (waysN ks)).sum = z := ⟨_, rfl⟩
        obtain ⟨wy, hwyE⟩ : ∃ z, waysN ks y = z := ⟨_, rfl⟩
        rw [hsmE] at i2 Hs1 hsm
        rw [hwyE] at Hs1 hwy
        have Hwy := Lib.hid hwyE
        have hwr : IntKind.i64.wrap ((sm : Int) + wy) = (sm : Int) + wy := IntWalk.i64_in _ (by omega)
        have henvW : WEnv A K C On M c a cap ks W := Henv.out.kept fun b o v _ h => keptM hmap i1 h
        have e4W := henvW.self
        have hleft : leftN ks y = m := by have := leftN_next hy; rw [Hm.out] at this; omega
        have hoky : OkSt ks y := Hok.out.next (fun p hp => ⟨(hks p hp).1, (hks p hp).2.2⟩) hy
        have Hcall := Lib.hid (Hih.out y W.drew hleft hoky (henvW.kept fun b o v _ h => h) ⟨kl, kl1.grow (Grow.refl W).drew, kl2⟩)
        have Kl1 := Lib.hid kl1
        clear hsmE hwyE hleft hoky henvW kl1 kl2
        gi_wp2
        have hS0 : W.drew.cell? ⟨w.heap.size + 1, 0, none⟩ = some (.int .i64 sm) ∧ W.drew.cell? ⟨On, 0, none⟩ = some (.func (.func 75) #[] #[.pointer (some ⟨A, 0, none⟩), .pointer (some ⟨K, 0, none⟩), .pointer (some ⟨C, 0, none⟩), .pointer (some ⟨On, 0, none⟩)]) ∧ W.drew.cell? ⟨Bx, 0, none⟩ = some (.int .u64 y.placed) ∧ W.drew.cell? ⟨Bx, 1, none⟩ = some (.int .i64 y.last) ∧ W.drew.cell? ⟨Bx, 2, none⟩ = some (.int .i64 y.time) := ⟨i2, e4W, b1, b2, b3⟩
        (refine wpIn_region_left l _ (fun Vx => Vx.cell? ⟨w.heap.size + 1, 0, none⟩ = some (.int .i64 sm) ∧ Vx.cell? ⟨On, 0, none⟩ = some (.func (.func 75) #[] #[.pointer (some ⟨A, 0, none⟩), .pointer (some ⟨K, 0, none⟩), .pointer (some ⟨C, 0, none⟩), .pointer (some ⟨On, 0, none⟩)]) ∧ Vx.cell? ⟨Bx, 0, none⟩ = some (.int .u64 y.placed) ∧ Vx.cell? ⟨Bx, 1, none⟩ = some (.int .i64 y.last) ∧ Vx.cell? ⟨Bx, 2, none⟩ = some (.int .i64 y.time)) (fun k => decide (k < 5)) (by kernel_rfl) (by kernel_rfl) (no_out_inBlock no_out_postC) ?_; refine Left.take 5 (i := 0) (oi := _) (v := ?_) rfl (by kernel_rfl) (by kernel_rfl) (by kernel_rfl) (by kernel_rfl) (fun _ _ _ h => h) (Or.inl ⟨by rfl, ?_⟩) (by assumption) (by kernel_rfl) ?_; rotate_left; (focus (intro w hSw; (try dsimp only at hSw); go_simp; (try with_reducible rfl))); (try simp only [Act.put, List.setIfInBounds_toArray, List.set_cons_zero, List.set_cons_succ, List.getElem_toArray, List.getElem_cons_zero]); refine Left.take 5 (i := 1) (oi := _) (v := ?_) rfl (by kernel_rfl) (by kernel_rfl) (by kernel_rfl) (by kernel_rfl) (fun _ _ _ h => h) (Or.inl ⟨by rfl, ?_⟩) (by assumption) (by kernel_rfl) ?_; rotate_left; (focus (intro w hSw; (try dsimp only at hSw); go_simp; (try with_reducible rfl))); (try simp only [Act.put, List.setIfInBounds_toArray, List.set_cons_zero, List.set_cons_succ, List.getElem_toArray, List.getElem_cons_zero, List.getElem_cons_succ]); refine Left.take 5 (i := 2) (oi := _) (v := ?_) rfl (by kernel_rfl) (by kernel_rfl) (by kernel_rfl) (by kernel_rfl) (fun _ _ _ h => h) (Or.inl ⟨by rfl, ?_⟩) (by assumption) (by kernel_rfl) ?_; rotate_left; (focus (intro w hSw; (try dsimp only at hSw); go_simp; (try with_reducible rfl))); (try simp only [Act.put, List.setIfInBounds_toArray, List.set_cons_zero, List.set_cons_succ, List.getElem_toArray, List.getElem_cons_zero, List.getElem_cons_succ]); refine Left.ready (rs := [3]) (by kernel_rfl) (by simp) ?_; refine LeftAll.cons (o := _) rfl (fun K hK => ?_) LeftAll.nil; (try simp only [List.getElem_toArray, List.getElem_cons_zero, List.getElem_cons_succ]); (try go_simp); (refine Hcall.out.mono ?_; rintro e w3 ⟨rfl, hg3, hk3⟩; have hS3 := (⟨keptM (Kl1.out.grow (Grow.refl W).drew) hg3 hS0.1, keptM (Kl1.out.grow (Grow.refl W).drew) hg3 hS0.2.1, keptM (Kl1.out.grow (Grow.refl W).drew) hg3 hS0.2.2.1, keptM (Kl1.out.grow (Grow.refl W).drew) hg3 hS0.2.2.2.1, keptM (Kl1.out.grow (Grow.refl W).drew) hg3 hS0.2.2.2.2⟩ : _ ∧ _ ∧ _ ∧ _ ∧ _); have n3 := hS3.1; have n3f : ∀ o, w3.frozen? ⟨w.heap.size + 1, o, none⟩ = false := (fun o => (byHot hg3 hNl (by intro e; injection e with e; omega) o).trans (i3 o)); have hN3 := lt_of_cell n3; rw [Hwy.out]); (try (go_wp2_with fail)); refine hK.out _ _ ?_ ?_; (focus (intro hJ; first | (exact absurd hJ (by decide)) | (assumption))); clear hK K; (try simp only [Act.put, List.setIfInBounds_toArray, List.set_cons_zero, List.set_cons_succ, List.getElem_toArray, List.getElem_cons_zero, List.getElem_cons_succ]); refine Left.ready (rs := [4]) (by kernel_rfl) (by simp) ?_; refine LeftAll.cons (o := _) rfl (fun K hK => ?_) LeftAll.nil; (try simp only [List.getElem_toArray, List.getElem_cons_zero, List.getElem_cons_succ]); (try go_simp); (try (go_wp2_with fail)); refine hK.out _ _ ?_ ?_; (focus (intro hJ; first | (exact absurd hJ (by decide)) | (assumption))); clear hK K; (try simp only [Act.put, List.setIfInBounds_toArray, List.set_cons_zero, List.set_cons_succ, List.getElem_toArray, List.getElem_cons_zero, List.getElem_cons_succ]); refine Left.ready (rs := [5]) (by kernel_rfl) (by simp) ?_; refine LeftAll.cons (o := _) rfl (fun K hK => ?_) LeftAll.nil; (try simp only [List.getElem_toArray, List.getElem_cons_zero, List.getElem_cons_succ]); (try go_simp); (try (go_wp2_with fail)); refine hK.out _ _ ?_ ?_; (focus (intro hJ; first | (exact absurd hJ (by decide)) | (assumption))); clear hK K; (try simp only [Act.put, List.setIfInBounds_toArray, List.set_cons_zero, List.set_cons_succ, List.getElem_toArray, List.getElem_cons_zero, List.getElem_cons_succ]); refine Left.done (by kernel_rfl) ?_ _)
        obtain ⟨k3, k31, k32⟩ := hk3
        have hg3' : W.grownBy w3 (some M) := ⟨hg3.os, hg3.tape, hg3.output, hg3.size, hg3.block⟩
        have hMw : M < w1.heap.size := Nat.lt_of_lt_of_le hlM hG1.size
        have gS : w.grownBy (w3.setCell ⟨w.heap.size + 1, 0, none⟩ (.int .i64 ((sm : Int) + wy))) (some M) := gb_new (byBy i1 hg3') (by omega) _ _
        refine ⟨(KeepsFrom.of_grownBy hg3' (fun j e => by cases e; exact hMw)).trans ((KeepsOthers.setCell _ _ _).from _), fun h => ?_, noF, Fp.none _ _ _, gS, ?_, fun o => by rw [World.frozen?_setCell]; exact n3f o, by have := hg3'.size; simp; omega, ?_, k3, k31.kept (bySet _ _ _ _) (by intro e; injection e with e; omega), k32⟩
        · refine h.by0 (N := w.heap.size + 1) (fun b o v hb hv => ?_) (by omega) (by omega) (by omega) (fun b o e => ?_)
          · rw [World.cell?_setCell_other _ _ _ _ (by intro e; injection e with e1; omega)]
            exact keptM Kl1.out hg3' hv
          · intro e2
            subst e2
            obtain ⟨p, hp, _⟩ := mem_nexts hy
            obtain ⟨b', o', e3, c3, _⟩ := Henv.out.at' p (lo ks p, hi ks p) (by simp [lo, hi, hp])
            rw [e] at e3
            cases e3
            have := lt_of_cell c3
            omega
        · rw [Hs1.out, Int.natCast_add]
          exact World.cell?_setCell_same' _ _ _ (by rw [n3]; rfl)
        · have key : ∀ {o v}, W.cell? ⟨w.heap.size, o, none⟩ = some v → (w3.setCell ⟨w.heap.size + 1, 0, none⟩ (.int .i64 ((sm : Int) + wy))).cell? ⟨w.heap.size, o, none⟩ = some v := fun hv => by
            rw [World.cell?_setCell_other _ _ _ _ (by simp)]
            exact keptM Kl1.out hg3' hv
          exact ⟨key i6.1, key i6.2.1, key i6.2.2⟩
      case done =>
        rintro D xs F W hD hxs ⟨i1, i2, i3, i5, i6, kl, kl1, kl2⟩ hKd
        rw [hxs, ← waysN_sum (by rw [Hm.out]; omega)] at i2
        have henvW : WEnv A K C On M c a cap ks W := Henv.out.kept fun b o v _ h => keptM hmap i1 h
        have e2W := henvW.known
        obtain ⟨b0, b1, b2⟩ := i6
        have hNl := lt_of_cell i2
        have hSl := lt_of_cell b0
        have Kl1 := Lib.hid kl1
        obtain ⟨wy, hwyE⟩ : ∃ z, waysN ks s = z := ⟨_, rfl⟩
        rw [hwyE] at i2
        have Hwy := Lib.hid hwyE
        have hKl := (Array.getElem?_eq_some_iff.1 hKd).1
        clear henvW hwyE
        go_wp2_with (at_mapUpdate; refine wpl_put (ke := stV) rfl (.tmp 32) (.tmp 33) (.tmp 34) 110 (Or.inl rfl) 3 keyOk_st und_known M kl s (.int .i64 wy) rfl rfl rfl Kl1.out ?_; intro w4 hm4 hg4 hz4; have i24 := keptM Kl1.out hg4 i2)
        have hMD : some D ≠ some M := fun e => by injection e with e; have := hG1.size; omega
        have hKd4 : w4.heap[D]? = some (.deferred (some [])) := (hg4.block D hKl hMD).trans hKd
        refine ⟨by simp, .inl ⟨_, _, rfl, run_takeDeferred hKd4, ?_⟩⟩
        refine ⟨_, results_tmp rfl _ _ _, by rw [Hwy.out]; rfl, gb_put (byBy i1 hg4) (by have := hG1.size; omega) _, putKey kl s (.int .i64 wy), hm4.kept (grownBy_putObj' _ _ _) hMD.symm, fun q hq => ?_⟩
        rcases mem_putKey hq with rfl | hq
        · rw [Hwy.out]
        · exact kl2 q hq
      case stop => exact fun D c pre F W hD hSp hx => hx.elim
end Go.Proofs.Ytbeglemohfbdfaa
