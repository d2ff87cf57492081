/- The program of layer 1: open: the walk. Conditions: sizes. -/
import Derived.Test.YteijilbdllpbcaaPgO
import Derived.Deep.RegionLaw
namespace Go.Proofs.Yteijilbdllpbcaa
open Go.RowKit

/-- What the loop over all sheets keeps. -/
def O1 (w : World) (P : Int) (v : Value) (x c : Nat) (ls : List ByteArray) (wr : World) : Prop :=
  Grow w wr ∧ wr.cell? ⟨x, 0, none⟩ = some (.int .i64 P) ∧ wr.cell? ⟨x, 1, none⟩ = some v ∧ (∃ u, wr.cell? ⟨c, 0, none⟩ = some u ∧ Own wr (c + 1) 79 u (ls.map Value.string)) ∧ wr.cell? ⟨c, 1, none⟩ = some (.slice none 0 0) ∧ wr.cell? ⟨c, 2, none⟩ = some (.int .i64 0) ∧
    (∀ o, wr.frozen? ⟨c, o, none⟩ = false)
theorem O1.grow {w : World} {P : Int} {v : Value} {x c : Nat} {ls : List ByteArray} {wr V : World} (h : O1 w P v x c ls wr) (hg : Grow wr V) : O1 w P v x c ls V := by
  obtain ⟨h1, h2, h3, ⟨u, h4, h5⟩, h6, h7, h8⟩ := h
  exact ⟨h1.trans hg, hg.keeps h2, hg.keeps h3, ⟨u, hg.keeps h4, h5.grow hg⟩, hg.keeps h6, hg.keeps h7, fun o => (hg.marks _ _ (lt_of_cell h4)).trans (h8 o)⟩
theorem O1.app {w : World} {P : Int} {v : Value} {x c : Nat} {ls ls' : List ByteArray} {wr w2 w4 : World} {u v' : Value} {ob : Obj} (h : O1 w P v x c ls wr) (hwc : w.heap.size ≤ c) (hxc : x < c) (hg : Grow wr w2) (hc0 : wr.cell? ⟨c, 0, none⟩ = some u)
    (hgr : (w2.alloc ob).grownBy w4 u.ownBlock) (hown : Own w4 (c + 1) 79 v' (ls'.map Value.string)) : O1 w P v x c ls' (w4.setCell ⟨c, 0, none⟩ v') := by
  obtain ⟨h1, h2, h3, ⟨u', h4, h5⟩, h6, h7, h8⟩ := h
  rw [hc0] at h4
  cases h4
  have hub := h5.base
  have hub4 := hown.base
  have hga := hg.alloc ob
  have hk : ∀ b o y, b ≤ c → wr.cell? ⟨b, o, none⟩ = some y → w4.cell? ⟨b, o, none⟩ = some y := fun b o y hb hy => byCell1 hgr (hga.keeps hy) (fun e => by have := hub _ e; omega)
  have ho : ∀ b o y, (b ≠ c ∨ o ≠ 0) → w4.cell? ⟨b, o, none⟩ = some y → (w4.setCell ⟨c, 0, none⟩ v').cell? ⟨b, o, none⟩ = some y := fun b o y hb hy => by
    rw [World.cell?_setCell_other _ _ _ _ (by intro e; injection e with e1 e2; omega)]; exact hy
  refine ⟨?_, ho _ _ _ (.inl (by omega)) (hk _ _ _ (by omega) h2), ho _ _ _ (.inl (by omega)) (hk _ _ _ (by omega) h3), ⟨v', ?_, ?_⟩, ho _ _ _ (.inr (by omega)) (hk _ _ _ (Nat.le_refl _) h6), ho _ _ _ (.inr (by omega)) (hk _ _ _ (Nat.le_refl _) h7), fun o => ?_⟩
  · have hB : Below w.heap.size (w2.alloc ob) w4 := grownBy_below hgr (fun k hk => by have := hub k hk; omega) (h1.trans hga).size
    exact (Below.trans (h1.trans hga) hB).setCell (p := ⟨c, 0, none⟩) hwc _
  · exact World.cell?_setCell_same' _ _ _ (by rw [hk c 0 u (Nat.le_refl _) hc0]; rfl)
  · exact hown.kept (bySet _ c 0 _) (.inr fun e => by have := hub4 _ e; omega)
  · rw [World.frozen?_setCell, byHot hgr (Nat.lt_of_lt_of_le (lt_of_cell hc0) hga.size) (fun e => by have := hub _ e; omega), hga.marks _ _ (lt_of_cell hc0)]
    exact h8 o
theorem Own.some {w : World} {B E : Nat} {v : Value} {vs : List Value} (h : Own w B E v vs) {n : Nat} (hn : vs.length = n) (h0 : 0 < n) : ∃ g cap, v = .slice (some ⟨g, 0, none⟩) n cap ∧ n ≤ cap := by
  rcases h.parts with ⟨_, rfl⟩ | ⟨g, cap, rfl, _, _, h5, _⟩
  · simp at hn; omega
  · exact ⟨g, cap, by rw [hn], by omega⟩
abbrev toB (l : List Int) : ByteArray := strOfNums l

theorem ints_toB {P : Int} {s : List Int} (hP : P ≤ 4) (h : sheetB P s = true) : intsB (toB s) = s ∧ (toB s).size ≤ 6 ∧ (∀ c ∈ (toB s).data.toList, c.toNat < P.toNat) := by
  unfold sheetB at h
  simp only [Bool.and_eq_true, decide_eq_true_eq] at h
  have hx : ∀ x ∈ s, 0 ≤ x ∧ x < P := fun x hx => by have := inB_true.1 (List.all_eq_true.1 h.2 x hx); omega
  refine ⟨?_, by rw [strOfNums_size]; exact h.1, fun c hc => ?_⟩
  · rw [intsB_eq, intsL, strOfNums_data, List.map_map]
    refine (List.map_congr_left fun x hxm => ?_).trans (List.map_id' s)
    have := hx x hxm
    simp
    omega
  · rw [strOfNums_data] at hc
    obtain ⟨x, hxm, rfl⟩ := List.mem_map.1 hc
    have := hx x hxm
    simp
    omega
theorem valid_sheets {P : Int} {ss : List (List Int)} (h : validB P ss = true) : P ≤ 4 ∧ 1 ≤ P ∧ ss.length ≤ 4 ∧ 1 ≤ ss.length ∧ ∀ s ∈ ss, sheetB P s = true := by
  rw [validB_eq] at h
  simp only [Bool.and_eq_true] at h
  have h1 := inB_true.1 h.1.1
  have h2 := inB_true.1 h.1.2
  exact ⟨by omega, by omega, by omega, by omega, fun s hs => List.all_eq_true.1 h.2 s hs⟩
theorem sheets_toB {P : Int} {ss : List (List Int)} (h : validB P ss = true) : (ss.map toB).map intsB = ss := by
  obtain ⟨hP, _, _, _, hs⟩ := valid_sheets h
  rw [List.map_map]
  exact (List.map_congr_left fun s hsm => (ints_toB hP (hs s hsm)).1).trans (List.map_id' ss)
/-- At the end. -/
theorem OpenPost.good {w V : World} {P : Int} {ss : List (List Int)} {c : Nat} {ts : List ByteArray} {u1 u2 : Value} {n : Int} (hval : validB P ss = true) (hg : Grow w V) (hc : w.heap.size ≤ c)
    (h0 : V.cell? ⟨c, 0, none⟩ = some u1) (hr1 : IsRaces V u1 (ss.map toB)) (h1 : V.cell? ⟨c, 1, none⟩ = some u2) (hr2 : IsRaces V u2 ts) (h2 : V.cell? ⟨c, 2, none⟩ = some (.int .i64 n))
    (ht : ts.map intsB = (truthsR P.toNat ss).1) (hn : n = (truthsR P.toNat ss).2) (h12 : ∀ r ∈ ts, r.size ≤ 12) : OpenPost w P ss true (.returned (.pointer (some ⟨c, 0, none⟩))) V := by
  have h0' : codeO P ss true = 0 := by unfold codeO; rw [hval]; rfl
  exact ⟨hg, fun h => absurd h0' h, fun _ => ⟨c, ss.map toB, ts, n, rfl, ⟨u1, u2, h0, hr1, h1, hr2, h2⟩, hc, sheets_toB hval, ht, hn, h12⟩⟩
theorem open_one {w V : World} {P : Int} {ss : List (List Int)} {c g cap : Nat} (hval : validB P ss = true) (hg : Grow w V) (hc : w.heap.size ≤ c)
    (h0 : V.cell? ⟨c, 0, none⟩ = some (.slice (some ⟨g, 0, none⟩) ss.length cap)) (h1 : V.cell? ⟨c, 1, none⟩ = some (.slice (some ⟨g, 0, none⟩) 1 cap)) (h2 : V.cell? ⟨c, 2, none⟩ = some (.int .i64 0))
    (ho : Own V (c + 1) 79 (.slice (some ⟨g, 0, none⟩) ss.length cap) ((ss.map toB).map Value.string)) (hl : ss.length = 1) : OpenPost w P ss true (.returned (.pointer (some ⟨c, 0, none⟩))) V := by
  have hr := ho.races (by simp; omega)
  obtain ⟨hP, _, _, _, hs⟩ := valid_sheets hval
  refine OpenPost.good hval hg hc h0 hr h1 (by rw [← hl]; exact hr) h2 ?_ ?_ ?_
  · rw [sheets_toB hval]
    obtain ⟨s, rfl⟩ := List.length_eq_one_iff.1 hl
    rfl
  · obtain ⟨s, rfl⟩ := List.length_eq_one_iff.1 hl
    rfl
  · intro r hr
    obtain ⟨s, hsm, rfl⟩ := List.mem_map.1 hr
    have := (ints_toB hP (hs s hsm)).2.1
    omega
theorem TruthList.len {a b : ByteArray} {l : List ByteArray} (h : TruthList a.data.toList b.data.toList l) (ha : a.size ≤ 6) (hb : b.size ≤ 6) : l.length ≤ 13841287201 ∧ ∀ r ∈ l, r.size ≤ 12 := by
  obtain ⟨l0, hn, hm, rfl⟩ := h
  constructor
  · rw [sortB_len]
    have h2 : (l0.map (·.data.toList)).Nodup := List.Pairwise.map _ (fun x y hxy e => hxy (by cases x; cases y; simp only at e; rw [Array.toList_inj.1 e])) hn
    have h3 := isT_few (A := a.data.toList) (B := b.data.toList) (n := 12) (by rw [size_list, size_list]; omega) _ h2 (fun t ht => by
      obtain ⟨r, hr, rfl⟩ := List.mem_map.1 ht
      exact (hm r).1 hr)
    simpa using h3
  · intro r hr
    have := isT_len _ _ _ ((hm r).1 ((mem_sortB _ _).1 hr))
    rw [size_list, size_list, size_list] at this
    omega
/-- What the loop over the other sheets keeps. -/
def O2 (w : World) (P : Int) (ss : List (List Int)) (c g cap k : Nat) (V : World) : Prop :=
  Grow w V ∧ V.cell? ⟨c, 0, none⟩ = some (.slice (some ⟨g, 0, none⟩) ss.length cap) ∧ IsRaces V (.slice (some ⟨g, 0, none⟩) ss.length cap) (ss.map toB) ∧ (∀ o, V.frozen? ⟨c, o, none⟩ = false) ∧ g ≠ c ∧
    ∃ u2 ts n, V.cell? ⟨c, 1, none⟩ = some u2 ∧ IsRaces V u2 ts ∧ V.cell? ⟨c, 2, none⟩ = some (.int .i64 n) ∧ ts.map intsB = (truths2 P.toNat ss k).1 ∧ n = (truths2 P.toNat ss k).2 ∧ (∀ r ∈ ts, r.size ≤ 12) ∧ 0 ≤ n ∧ n ≤ 1000 * k ∧ ts.length ≤ 13841287201
theorem RowAt.set {w : World} {a : Option Addr} {vs : List Value} (h : RowAt w a vs) {c o : Nat} {x : Value} (hne : ∀ b o', a = some ⟨b, o', none⟩ → b ≠ c) : RowAt (w.setCell ⟨c, o, none⟩ x) a vs := fun i y hy => by
  obtain ⟨b, o', ha, hc⟩ := h i y hy
  have := hne b o' ha
  exact ⟨b, o', ha, by rw [World.cell?_setCell_other _ _ _ _ (by simp)]; exact hc⟩
theorem IsRaces.set {w : World} {v : Value} {rs : List ByteArray} (h : IsRaces w v rs) {c o : Nat} {x : Value} (hne : v.ownBlock ≠ some c) : IsRaces (w.setCell ⟨c, o, none⟩ x) v rs := by
  obtain ⟨a, cap, rfl, h2, h3, h4, h5⟩ := h
  exact ⟨a, cap, rfl, h2, h3, h4, h5.set fun b o' e hb => hne (by rw [e, hb]; rfl)⟩
theorem O2.put {w : World} {P : Int} {ss : List (List Int)} {c g cap k : Nat} {V : World} {u u2 : Value} {ts : List ByteArray} {n n0 : Int} (hg : Grow w V) (hwc : w.heap.size ≤ c) (h0 : V.cell? ⟨c, 0, none⟩ = some (.slice (some ⟨g, 0, none⟩) ss.length cap)) (hr : IsRaces V (.slice (some ⟨g, 0, none⟩) ss.length cap) (ss.map toB))
    (hf : ∀ o, V.frozen? ⟨c, o, none⟩ = false) (hgc : g ≠ c) (h1 : V.cell? ⟨c, 1, none⟩ = some u) (h2 : V.cell? ⟨c, 2, none⟩ = some (.int .i64 n0)) (hu : IsRaces V u2 ts) (huc : u2.ownBlock ≠ some c)
    (ht : ts.map intsB = (truths2 P.toNat ss k).1) (hn : n = (truths2 P.toNat ss k).2) (h12 : ∀ r ∈ ts, r.size ≤ 12) (hn0 : 0 ≤ n) (hnk : n ≤ 1000 * k) (hl : ts.length ≤ 13841287201) :
    O2 w P ss c g cap k ((V.setCell ⟨c, 1, none⟩ u2).setCell ⟨c, 2, none⟩ (.int .i64 n)) := by
  have hs : (Value.slice (some ⟨g, 0, none⟩) ss.length cap).ownBlock ≠ some c := by simpa [Value.ownBlock] using hgc
  refine ⟨((hg.setCell (p := ⟨c, 1, none⟩) hwc _).setCell (p := ⟨c, 2, none⟩) hwc _), ?_, (hr.set hs).set hs, fun o => by rw [World.frozen?_setCell, World.frozen?_setCell]; exact hf o, hgc, u2, ts, n, ?_, (hu.set huc).set huc, ?_, ht, hn, h12, hn0, hnk, hl⟩
  · rw [World.cell?_setCell_other _ _ _ _ (by simp), World.cell?_setCell_other _ _ _ _ (by simp)]; exact h0
  · rw [World.cell?_setCell_other _ _ _ _ (by simp)]
    exact World.cell?_setCell_same' _ _ _ (by rw [h1]; rfl)
  · exact World.cell?_setCell_same' _ _ _ (by rw [World.cell?_setCell_other _ _ _ _ (by simp), h2]; rfl)
theorem few_facts (s : ByteArray) (ts : List ByteArray) (h12 : ∀ r ∈ ts, r.size ≤ 12) (p : List ByteArray × Int) (hp : p = fewestB (fun r => errorsB r.data.toList s.data.toList) ts) :
    0 ≤ p.2 ∧ p.2 ≤ 1000 ∧ (∀ r ∈ p.1, r.size ≤ 12) ∧ p.1.length ≤ ts.length := by
  have hl := fewestB_lst (fun r => errorsB r.data.toList s.data.toList) ts
  rw [← hp] at hl
  obtain ⟨h1, h2, h3, h4⟩ := hl
  refine ⟨?_, h1, fun r hr => ?_, ?_⟩
  · rcases h4 with h4 | ⟨r, hr, h4⟩
    · omega
    · rw [← h4]
      show 0 ≤ errorsB _ _
      rw [errorsB_errs _ _ (by rw [size_list]; have := h12 r hr; omega)]
      exact (errs_range _ _).1
  · rw [h3] at hr
    exact h12 r (List.mem_filter.1 hr).1
  · rw [h3]; exact List.length_filter_le _ _
theorem few_next {P : Nat} {ss : List (List Int)} {k : Nat} {s : List Int} {sB : ByteArray} {ts : List ByteArray} {n : Int} {p : List ByteArray × Int} (hs : ss[k + 2]? = some s) (hsB : intsB sB = s) (h12 : ∀ r ∈ ts, r.size ≤ 12)
    (ht : ts.map intsB = (truths2 P ss (k + 2)).1) (hn : n = (truths2 P ss (k + 2)).2) (hp : p = fewestB (fun r => errorsB r.data.toList sB.data.toList) ts) :
    p.1.map intsB = (truths2 P ss (k + 1 + 2)).1 ∧ n + p.2 = (truths2 P ss (k + 1 + 2)).2 := by
  have e := few_leave ts sB (fun r hr => by have := h12 r hr; omega)
  rw [← hp, hsB, ht] at e
  rw [show k + 1 + 2 = k + 2 + 1 by omega, truths2_succ (by omega) hs]
  unfold leave
  rw [e, ← hn]
  exact ⟨rfl, rfl⟩
set_option maxHeartbeats 2000000 in
set_option maxRecDepth 100000 in
theorem popen_any (P : Int) (v : Value) (ss : List (List Int)) (ok : Bool) (w : World) (hv : IsSheets w v ss) (h1 : inB P 1 4 = true) (h2 : inB ss.length 1 4 = true) :
    Calls Try.prog 43 #[.agg #[.int .i64 P, v], .bool ok] w (OpenPost w P ss ok) := by
  obtain ⟨i0, hi0, hi1, hi2, hi3⟩ := info_parts pinfo_race
  have hu : Try.prog.underlying 69 = some (.slice 79) := by kernel_rfl
  have hv0 := Lib.hid hv
  obtain ⟨a, cap, rfl, hcap, hlen, hrow⟩ := hv
  have hp := inB_true.1 h1
  have hl := inB_true.1 h2
  have H1 := Lib.hid h1
  have H2 := Lib.hid h2
  clear h1 h2
  go_enter Try.func43, Try.ntmps43
  go_wp2_with first | (go_at_call 56; refine (pwithin_any _ _ _ _).mono ?_; rintro e w' ⟨rfl, rfl⟩; first | rw [H1.out] | rw [H2.out]) | (go_at_call 72; refine (pwant_yes _ _).mono ?_; rintro e w' ⟨rfl, rfl⟩)
  obtain ⟨W, hW⟩ : ∃ W, W = ((w.alloc (.cells #[.int .i64 P, .slice a ss.length cap] 24)).alloc (.cells #[.slice none 0 0, .slice none 0 0, .int .i64 0] 71)) := ⟨_, rfl⟩
  have hgW : Grow w W := by rw [hW]; exact (((Grow.refl w).alloc _).alloc _)
  have hW00 : W.cell? ⟨w.heap.size, 0, none⟩ = some (.int .i64 P) := by rw [hW]; exact Grow.keepA (cell_new (by simp) rfl) _
  have hW01 : W.cell? ⟨w.heap.size, 1, none⟩ = some (.slice a ss.length cap) := by rw [hW]; exact Grow.keepA (cell_new (by simp) rfl) _
  have hWf0 : ∀ o, W.frozen? ⟨w.heap.size, o, none⟩ = false := by intro o; rw [hW]; exact (((Grow.refl _).alloc _).marks _ _ (by simp <;> omega)).trans (hot_new (by simp))
  have hWl0 : w.heap.size < W.heap.size := by rw [hW]; simp; try omega
  have hW10 : W.cell? ⟨w.heap.size + 1, 0, none⟩ = some (.slice none 0 0) := by rw [hW]; exact cell_new (by simp) rfl
  have hW11 : W.cell? ⟨w.heap.size + 1, 1, none⟩ = some (.slice none 0 0) := by rw [hW]; exact cell_new (by simp) rfl
  have hW12 : W.cell? ⟨w.heap.size + 1, 2, none⟩ = some (.int .i64 0) := by rw [hW]; exact cell_new (by simp) rfl
  have hWf1 : ∀ o, W.frozen? ⟨w.heap.size + 1, o, none⟩ = false := by intro o; rw [hW]; exact hot_new (by simp)
  have hWl1 : w.heap.size + 1 < W.heap.size := by rw [hW]; simp; try omega
  rw [← hW]
  clear hW
  have hWd : ∀ n, (W.drewN n).heap.size = W.heap.size := fun _ => rfl
  have hWq : ∀ n o b j, b < W.heap.size → ((W.drewN n).alloc o).cell? ⟨b, j, none⟩ = W.cell? ⟨b, j, none⟩ := cell_drewN_alloc W
  have hWr : ∀ n o b j, b < W.heap.size → ((W.drewN n).alloc o).frozen? ⟨b, j, none⟩ = W.frozen? ⟨b, j, none⟩ := hot_drewN_alloc W
  have hWb0 : w.heap.size ≤ w.heap.size := by omega
  have hWb1 : w.heap.size ≤ w.heap.size + 1 := by omega
  have hWn01 : w.heap.size ≠ w.heap.size + 1 := by omega
  have hWn10 : w.heap.size + 1 ≠ w.heap.size := by omega
  obtain ⟨W1, hWe1⟩ : ∃ g, w.heap.size + 1 = g := ⟨_, rfl⟩
  rw [hWe1] at hW10 hW11 hW12 hWf1 hWl1 hWb1 hWn10 hWn01
  (try rw [hWe1])
  have hWk1 := Lib.hid hWe1
  clear hWe1
  obtain ⟨W0, hWe0⟩ : ∃ g, w.heap.size = g := ⟨_, rfl⟩
  have hWb0 : w.heap.size ≤ W0 := by omega
  rw [hWe0] at hW00 hW01 hWf0 hWl0 hWn01 hWn10
  (try rw [hWe0])
  have hWk0 := Lib.hid hWe0
  clear hWe0
  have hW01lt : W0 < W1 := by have := hWk0.out; have := hWk1.out; omega
  have hO : O1 w P (.slice a ss.length cap) W0 W1 [] W := ⟨hgW, hW00, hW01, ⟨_, hW10, Own.nil _ _ _⟩, hW11, hW12, hWf1⟩
  go_loopw [27] (fun i wr => ∃ k : Nat, k ≤ ss.length ∧ i = .int .i64 k ∧ (ss.take k).all (sheetB P) = true ∧ O1 w P (.slice a ss.length cap) W0 W1 ((ss.take k).map toB) wr) (fun i _ => ss.length - (intOf i).toNat)
  case atStart => exact ⟨0, Nat.zero_le _, rfl, rfl, hO⟩
  case round =>
    obtain ⟨k, hk, rfl, hall, hOk⟩ := hrel
    have Hall := Lib.hid hall
    have HO := Lib.hid hOk
    obtain ⟨hg, hx0, hx1, ⟨u, hc0, hown⟩, hc1, hc2, hcf⟩ := hOk
    clear hall
    by_cases hlt : k < ss.length
    · obtain ⟨b, o, s, sa, sc, hs, rfl, hcs, hsc, hsl, hsr⟩ := hrow.get hlt
      have hcs' := hg.keeps hcs
      have hsI : IsInts wr (.slice sa s.length sc) s := ⟨sa, sc, rfl, hsc, hsl, hsr.grow hg⟩
      have Hs := Lib.hid hs
      clear hs
      by_cases hl6 : s.length ≤ 6
      · cases hrb : raceB P s with
        | true =>
          have hd1 : decide ((s.length : Int) ≤ 6) = true := by simp; omega
          have hb255 : ∀ x ∈ s, 0 ≤ x ∧ x ≤ 255 := fun x hx => by
            have := inB_true.1 (List.all_eq_true.1 hrb x hx)
            omega
          have Hrb := Lib.hid hrb
          have Hb255 := Lib.hid hb255
          have hsz : ((ss.take k).map toB).length ≤ 4 := by simp; omega
          have hb16 : ((((ss.take k).map toB).map Value.string).length + [Value.string (toB s)].length) * 16 ≤ 140737488355328 := by simp; omega
          have hsB : Hid (sheetB P s = true) := (by show _ = _; unfold sheetB; rw [hrb]; simp [hl6])
          have hkl : (((ss.take k).map toB).map Value.string ++ [Value.string (toB s)]).length = k + 1 := by simp; omega
          clear hrb hb255
          have hub := hown.base
          go_upto_region 7 with first | (go_at_call 52; refine (pisRace_any P _ _ _ _ s _ (by omega) (by omega) (by omega) hsI).mono ?_; rintro e w' ⟨rfl, hg'⟩; rw [Hrb.out]) | (go_at_call 72; refine (pwant_yes _ _).mono ?_; rintro e w' ⟨rfl, rfl⟩)
          have hz0 := hg'.keeps hc0
          have hzf : ∀ o, w'.frozen? ⟨W1, o, none⟩ = false := fun o => (hg'.marks _ _ (lt_of_cell hc0)).trans (hcf o)
          have hownz := hown.grow hg'
          have hsz' := hsI.grow hg'
          go_region_law (first | (go_simp; go_at_call 53; refine (praceOf_any _ s _ (by first | exact hsz'.grow (Grow.refl w').drew) Hb255.out).mono ?_; rintro e w2 ⟨rfl, hg2⟩; have hg3 : Grow w' w2 := ((Grow.refl w').drew).trans hg2; have hz2 := hg3.keeps hz0; have hzf2 : ∀ o, w2.frozen? ⟨W1, o, none⟩ = false := fun o => (hg3.marks _ _ (lt_of_cell hz0)).trans (hzf o); have hown2 := hownz.grow hg3; have hlt2 := lt_of_cell hz2) | (refine step_app rfl (.tmp 44) (.tmp 47) 69 rfl (W1 + 1) 79 i0 _ 16 hu hi0 hi1 hi2 hi3 rfl u (((ss.take k).map toB).map Value.string) (by rfl) (hown2.alloc _) (some ⟨w2.heap.size, 0, none⟩) 1 [.string (toB s)] 1 (by rfl) rfl (fun h => nomatch h) (row_new1 _ _ _ (by simp)) (by simp [Value.oneCell']) hb16 (by omega) (by simp; omega) ?_; intro v' w4 hown4 hgr4 hmv4; obtain ⟨g4, cap4, rfl, _⟩ := hown4.some (n := k + 1) hkl (by omega); have hz4 := byCell1 hgr4 (((Grow.refl w2).alloc (.cells #[.string (toB s)] 79)).keeps hz2) (fun e => by have := hub _ e; omega); have hzf4 : ∀ o, w4.frozen? ⟨W1, o, none⟩ = false := fun o => (byHot hgr4 (by simp; omega) (fun e => by have := hub _ e; omega) o).trans ((((Grow.refl w2).alloc _).marks _ _ hlt2).trans (hzf2 o)); have hlt4 := lt_of_cell hz4))
          all_goals go_wp2_with fail
          all_goals
            exact ⟨⟨k + 1, by omega, by go_num, by rw [take_get Hs.out, sheets_snoc, Hall.out, hsB.out]; rfl, by rw [take_get Hs.out, List.map_append]; exact HO.out.app hWb1 (by omega) ((hg'.drew).trans hg2) hc0 hgr4 (by rw [List.map_append]; exact hown4)⟩, by simp [intOf]; omega⟩
        | false =>
          have hd1 : decide ((s.length : Int) ≤ 6) = true := by simp; omega
          have Hrb := Lib.hid hrb
          clear hrb
          go_wp2_with first | (go_at_call 52; refine (pisRace_any P _ _ _ _ s _ (by omega) (by omega) (by omega) hsI).mono ?_; rintro e w' ⟨rfl, hg'⟩; rw [Hrb.out]) | (go_at_call 72; refine (pwant_no _ _).mono ?_; rintro e w' ⟨rfl, rfl⟩)
          exact ⟨rfl, OpenPost.bad (codeO_bad Hs.out (by unfold sheetB; rw [Hrb.out]; simp)) (by decide) rfl (hg.trans hg')⟩
      · have hd1 : decide ((s.length : Int) ≤ 6) = false := by simp; omega
        go_wp2_with (go_at_call 72; refine (pwant_no _ _).mono ?_; rintro e w' ⟨rfl, rfl⟩)
        exact ⟨rfl, OpenPost.bad (codeO_bad Hs.out (by unfold sheetB; simp [hl6])) (by decide) rfl hg⟩
    · obtain rfl : k = ss.length := by omega
      have hval : validB P ss = true := by
        have := Hall.out
        rw [List.take_length] at this
        rw [validB_eq, H1.out, H2.out, this]; rfl
      rw [List.take_length] at hown
      have Hval := Lib.hid hval
      clear hval
      cases ok with
      | false =>
        go_wp2_with (go_at_call 72; refine (pwant_no _ _).mono ?_; rintro e w' ⟨rfl, rfl⟩)
        exact ⟨rfl, OpenPost.bad (by unfold codeO; rw [Hval.out]; rfl) (by decide) rfl hg⟩
      | true =>
        obtain ⟨g, cap2, rfl, hnc⟩ := hown.some (n := ss.length) (by simp) (by omega)
        have hlt := lt_of_cell hc0
        have hc1c : (1 : Int) ≤ (cap2 : Int) := by omega
        have hgW1 : g ≠ W1 := by have := hown.base g rfl; omega
        go_upto_region 11 with (go_at_call 72; refine (pwant_yes _ _).mono ?_; rintro e w' ⟨rfl, rfl⟩)
        obtain ⟨V, hV⟩ : ∃ V, V = wr.setCell ⟨W1, 1, none⟩ (.slice (some ⟨g, 0, none⟩) 1 cap2) := ⟨_, rfl⟩
        have hgV : Grow w V := by rw [hV]; exact hg.setCell (p := ⟨W1, 1, none⟩) hWb1 _
        have hV0 : V.cell? ⟨W1, 0, none⟩ = some (.slice (some ⟨g, 0, none⟩) ss.length cap2) := by rw [hV, World.cell?_setCell_other _ _ _ _ (by simp)]; exact hc0
        have hV1 : V.cell? ⟨W1, 1, none⟩ = some (.slice (some ⟨g, 0, none⟩) 1 cap2) := by rw [hV]; exact World.cell?_setCell_same' _ _ _ (by rw [hc1]; rfl)
        have hV2 : V.cell? ⟨W1, 2, none⟩ = some (.int .i64 0) := by rw [hV, World.cell?_setCell_other _ _ _ _ (by simp)]; exact hc2
        have hVf : ∀ o, V.frozen? ⟨W1, o, none⟩ = false := fun o => by rw [hV, World.frozen?_setCell]; exact hcf o
        have hVo : Own V (W1 + 1) 79 (.slice (some ⟨g, 0, none⟩) ss.length cap2) ((ss.map toB).map Value.string) := by rw [hV]; exact hown.kept (bySet _ W1 1 _) (.inr (by simp [Value.ownBlock, hgW1]))
        rw [← hV]
        clear hV hown hc0 hc1 hc2 hcf hx0 hx1 hg HO
        by_cases hone : ss.length = 1
        · have hd1 : decide ((1 : Int) < (ss.length : Int)) = false := by simp; omega
          have Hone := Lib.hid hone
          clear hone
          go_wp2_with fail
          go_ret
          exact open_one Hval.out hgV hWb1 hV0 hV1 hV2 hVo Hone.out
        · have hd1 : decide ((1 : Int) < (ss.length : Int)) = true := by simp; omega
          obtain ⟨s0, s1, rest, rfl⟩ : ∃ s0 s1 rest, ss = s0 :: s1 :: rest := by
            match ss, hl, hone with
            | [], hl, _ => simp at hl
            | [s], _, hone => simp at hone
            | s0 :: s1 :: rest, _, _ => exact ⟨s0, s1, rest, rfl⟩
          have hg0 : V.cell? ⟨g, 0, none⟩ = some (.string (toB s0)) := hVo.at (by simp) (by simp)
          have hg1 : V.cell? ⟨g, 1, none⟩ = some (.string (toB s1)) := hVo.at (by simp) (by simp)
          have hb0 := Lib.hid (ints_toB (valid_sheets Hval.out).1 ((valid_sheets Hval.out).2.2.2.2 s0 (by simp)))
          have hb1 := Lib.hid (ints_toB (valid_sheets Hval.out).1 ((valid_sheets Hval.out).2.2.2.2 s1 (by simp)))
          obtain ⟨A, hA⟩ : ∃ A, A = toB s0 := ⟨_, rfl⟩
          obtain ⟨B, hB⟩ : ∃ B, B = toB s1 := ⟨_, rfl⟩
          have HA := Lib.hid hA
          have HB := Lib.hid hB
          rw [← hA] at hg0
          rw [← hB] at hg1
          have hszA : A.size ≤ 6 := by rw [hA]; exact hb0.out.2.1
          have hszB : B.size ≤ 6 := by rw [hB]; exact hb1.out.2.1
          clear hA hB hone
          have q0 : (0 : Int) < (rest.length : Int) + 1 + 1 := by omega
          have q1 : (1 : Int) < (rest.length : Int) + 1 + 1 := by omega
          go_upto_region 12 with fail
          have hgW1' : g ≠ W1 := hgW1
          have hVr : IsRaces V (.slice (some ⟨g, 0, none⟩) (s0 :: s1 :: rest).length cap2) ((s0 :: s1 :: rest).map toB) := hVo.races (by simp at hl ⊢; omega)
          have HVr := Lib.hid hVr
          clear hVr
          have ht2 : ∀ l2, TruthList A.data.toList B.data.toList l2 → l2.map intsB = (truths2 P.toNat (s0 :: s1 :: rest) 2).1 ∧ ((dist A.data.toList B.data.toList : Nat) : Int) = (truths2 P.toNat (s0 :: s1 :: rest) 2).2 := fun l2 h => by
            have e := two_truths P.toNat A B l2 hszA hszB (by omega) (by rw [HA.out]; exact hb0.out.2.2) (by rw [HB.out]; exact hb1.out.2.2) h
            have e0 : intsB A = s0 := by rw [HA.out]; exact hb0.out.1
            have e1 : intsB B = s1 := by rw [HB.out]; exact hb1.out.1
            have e2 : A.size + B.size = s0.length + s1.length := by rw [← e0, ← e1, intsB_len, intsB_len]
            rw [e0, e1, e2] at e
            show _ = (leastR (alls P.toNat (s0.length + s1.length) []) [s0, s1]).1 ∧ _ = (leastR (alls P.toNat (s0.length + s1.length) []) [s0, s1]).2
            rw [e]
            exact ⟨rfl, rfl⟩
          have Ht2 := Lib.hid ht2
          clear ht2
          obtain ⟨n2, hn2⟩ : ∃ n2, n2 = (s0 :: s1 :: rest).length := ⟨_, rfl⟩
          have hn22 : 2 ≤ n2 := by rw [hn2]; simp
          rw [← hn2] at hV0 ⊢
          have Hn2 := Lib.hid hn2
          clear hn2 q0 q1 hd1
          have q0 : (0 : Int) < (n2 : Int) := by omega
          have q1 : (1 : Int) < (n2 : Int) := by omega
          have q2 : 0 < n2 := by omega
          have q3 : 1 < n2 := by omega
          go_cut [68] (fun _ V2 => O2 w P (s0 :: s1 :: rest) W1 g cap2 2 V2)
          case first =>
            go_region_held3 (fun Wx => Wx.cell? ⟨W1, 0, none⟩ = some (.slice (some ⟨g, 0, none⟩) n2 cap2) ∧ Wx.cell? ⟨g, 0, none⟩ = some (.string A) ∧ Wx.cell? ⟨g, 1, none⟩ = some (.string B))
              (((try go_split_ands); refine ⟨?_, ?_, ?_⟩ <;> (repeat (first | assumption | (rw [World.cell?_setCell_other _ _ _ _ (by first | (simp; done) | (intro e; injection e with e1 e2; omega))]) | refine Grow.keepA ?_ _ | refine Grow.keeps (Grow.drew (Grow.refl _)) ?_))))
              ((go_at_call 76; refine (praces_any A B hszA hszB _ _ ?_ ?_).mono ?_; exact (new2 _ _ _ _).1; exact (new2 _ _ _ _).2; rintro e w2 ⟨v2, l2, rfl, hv2, hg2, htl⟩; have hG2 : Grow V w2 := Grow.trans (by repeat (first | exact Grow.refl _ | refine Grow.drew ?_ | refine Grow.alloc ?_ _)) hg2; have hX0 := hG2.keeps hV0; have hXg0 := hG2.keeps hg0; have hXg1 := hG2.keeps hg1; have hX1 := hG2.keeps hV1; have hX2 := hG2.keeps hV2; have hXf : ∀ o, w2.frozen? ⟨W1, o, none⟩ = false := fun o => (hG2.marks _ _ (lt_of_cell hV0)).trans (hVf o); have hXl := lt_of_cell hX1; obtain ⟨a2, cp2, rfl, hcp2, hnil2, hrow2⟩ := hv2.row))
            all_goals go_wp2_with fail
            all_goals go_meet
            all_goals rw [List.length_map] at hv2
            all_goals rw [Hn2.out] at hX0
            all_goals
              exact O2.put (hgV.trans hG2) hWb1 hX0 (HVr.out.grow hG2) hXf hgW1 hX1 hX2 (hv2.races (by have := (htl.len hszA hszB).1; omega)) (fun e => by have h8 := hv2.base _ e; have h9 := lt_of_cell hV0; simp at h8; omega) (Ht2.out _ htl).1 (Ht2.out _ htl).2 (htl.len hszA hszB).2 (by omega) (by have := dist_le A.data.toList B.data.toList; rw [size_list, size_list] at this; omega) (htl.len hszA hszB).1
          case rest =>
            obtain ⟨V2, rfl⟩ : ∃ V2 : World, V2 = wc := ⟨_, rfl⟩
            have HO2 := Lib.hid hcut
            obtain ⟨hgO, hO0, hrO, hfO, _, u2, ts, n, hO1, hru2, hO2, htn, hnn, h12, hn0, hnk, hlen⟩ := hcut
            obtain ⟨fa, hfr, hfrow⟩ := run_from (P := Try.prog) (t := 69) (by kernel_rfl) (fun _ => by kernel_rfl) (some ⟨g, 0, none⟩) (s0 :: s1 :: rest).length cap2 2 rest.length 2 rfl (by simp)
            rw [← Hn2.out] at hO0 hfr
            have hc2c : (2 : Int) ≤ (n2 : Int) := by omega
            have HfR := Lib.hid hfrow
            have HrO := Lib.hid hrO
            have Hn9 := Lib.hid hnn
            have Htn9 := Lib.hid htn
            clear hfrow hrO hnn htn hV0 hV1 hV2 hVf hVo hg0 hg1
            have hmf : ∀ (fn : Fn) (first cap : Array Value) (w : World), (Instr.makeFunc fn first cap).run Try.prog w = .ok (.func fn first cap) w := fun _ _ _ _ => rfl
            go_wp2_with fail
            go_loopw [98] (fun c wr => ∃ k : Nat, k ≤ rest.length ∧ c = .int .i64 k ∧ O2 w P (s0 :: s1 :: rest) W1 g cap2 (k + 2) wr) (fun c _ => rest.length - (intOf c).toNat)
            case atStart => exact ⟨0, Nat.zero_le _, rfl, HO2.out⟩
            case round =>
              clear hgO hO0 hfO hO1 hru2 hO2 h12 hn0 hnk hlen
              obtain ⟨k, hk, rfl, hgR, hR0, hrR, hfR, _, u3, t3, n3, hR1, hru3, hR2, htn3, hnn3, h123, hn03, hnk3, hlen3⟩ := hrel
              have Htn3 := Lib.hid htn3
              have Hnn3 := Lib.hid hnn3
              have Hru3 := Lib.hid hru3
              have HrR := Lib.hid hrR
              by_cases hlt2 : k < rest.length
              · have hfa := HfR.out wr (((s0 :: s1 :: rest).map toB).map Value.string) (by simpa using hnc) (by obtain ⟨a', c', e, _, _, _, h⟩ := hrR; injection e with e1 e2 e3; rw [e1]; exact h)
                obtain ⟨b9, o9, hfa9, hce9⟩ := hfa k (.string (toB rest[k])) (by simp [hlt2])
                obtain ⟨a3, c3, rfl, hc3, hl3, hnil3, hrow3⟩ := hru3
                obtain ⟨S, hS⟩ : ∃ S, S = toB rest[k] := ⟨_, rfl⟩
                have hSs : S.size ≤ 6 ∧ intsB S = rest[k] := by
                  rw [hS]
                  have := ints_toB (valid_sheets Hval.out).1 ((valid_sheets Hval.out).2.2.2.2 rest[k] (by simp))
                  exact ⟨this.2.1, this.1⟩
                have hSs1 := hSs.1
                have HSs := Lib.hid hSs
                rw [← hS] at hce9
                have Hfew := Lib.hid (few_facts S t3 h123 _ rfl)
                obtain ⟨p, hp⟩ : ∃ p, p = fewestB (fun r => errorsB r.data.toList S.data.toList) t3 := ⟨_, rfl⟩
                have Hp := Lib.hid hp
                have hp1 := few_facts S t3 h123 p hp
                have hp0 := hp1.1
                have hp2 := hp1.2.1
                have Hp1 := Lib.hid hp1
                have H123 := Lib.hid h123
                clear htn3 hnn3 hrR hS hSs hp hp1 h123
                subst hfa9
                have hltW := lt_of_cell hR0
                have hrl : rest.length ≤ 2 := by have h9 := hl.2; simp at h9; omega
                have hn3b : n3 ≤ 100000 := by omega
                go_wp2_with (go_at_call 77; refine (pfewest_any _ t3 (fun r => errorsB r.data.toList S.data.toList) _ _ (Hru3.out.grow ((Grow.refl wr).alloc _)) (by omega) (fun r w1 hr hgw1 => popen1_any r S _ w1 (hgw1.keeps (by simp)) (by have := H123.out r hr; omega) (by omega))).mono ?_; rintro e w3 ⟨v3, rfl, hv3, hg3⟩; rw [← Hp.out] at hv3; rw [← Hp.out]; obtain ⟨a4, c4, rfl, hc4, hnil4, hrow4⟩ := hv3.row; have hG3 : Grow wr w3 := ((Grow.refl wr).alloc _).trans hg3; have hZ0 := hG3.keeps hR0; have hZ1 := hG3.keeps hR1; have hZ2 := hG3.keeps hR2; have hZf : ∀ o, w3.frozen? ⟨W1, o, none⟩ = false := fun o => (hG3.marks _ _ hltW).trans (hfR o); have hZl := lt_of_cell hZ0)
                rw [List.length_map] at hv3
                obtain ⟨hq1, hq2⟩ := few_next (P := P.toNat) (ss := s0 :: s1 :: rest) (k := k) (s := rest[k]) (by simp [hlt2]) HSs.out.2 H123.out Htn3.out Hnn3.out Hp.out
                exact ⟨⟨k + 1, by omega, by go_num, O2.put (hgR.trans hG3) hWb1 hZ0 (HrR.out.grow hG3) hZf hgW1 hZ1 hZ2 (hv3.races (by have := Hp1.out.2.2.2; omega)) (fun e => by have h8 := hv3.base _ e; simp at h8; omega) hq1 hq2 Hp1.out.2.2.1 (by omega) (by omega) (by have := Hp1.out.2.2.2; omega)⟩, by simp [intOf]; omega⟩
              · obtain rfl : k = rest.length := by omega
                go_wp2_with fail
                go_ret
                have e2 : truths2 P.toNat (s0 :: s1 :: rest) (rest.length + 2) = truthsR P.toNat (s0 :: s1 :: rest) := by unfold truths2; rw [List.take_of_length_le (by simp)]
                exact OpenPost.good Hval.out hgR hWb1 hR0 HrR.out hR1 Hru3.out hR2 (by rw [← e2]; exact Htn3.out) (by rw [← e2]; exact Hnn3.out) h123
end Go.Proofs.Yteijilbdllpbcaa
