/- The program of layer 1: all races with the fewest errors from some place on: the walk. Conditions: sizes. -/
import Derived.Test.YteijilbdllpbcaaPgJ
namespace Go.Proofs.Yteijilbdllpbcaa
open Go.RowKit Go.Instr

set_option maxHeartbeats 4000000 in
set_option maxRecDepth 100000 in
theorem praces1_any (a b : ByteArray) (hsa : a.size ≤ 100) (hsb : b.size ≤ 100) (cp cs co P m : Nat) : ∀ (N i j : Nat), i + j + N = a.size + b.size → i ≤ a.size → j ≤ b.size → ∀ (X : Nat → Prop) (w : World),
    w.cell? ⟨cp, 0, none⟩ = some (.pointer (some ⟨P, 0, none⟩)) → w.cell? ⟨cs, 0, none⟩ = some (.map (some m)) → w.cell? ⟨co, 0, none⟩ = some (.func (.func 90) #[] #[.pointer (some ⟨cp, 0, none⟩), .pointer (some ⟨cs, 0, none⟩), .pointer (some ⟨co, 0, none⟩)]) →
    w.cell? ⟨P, 0, none⟩ = some (.string a) → w.cell? ⟨P, 1, none⟩ = some (.string b) → SeenOk w m X a.data.toList b.data.toList → (∀ k, X k → k < w.heap.size) →
    Calls Try.prog 90 #[.agg #[.int .i64 i, .int .i64 j], .pointer (some ⟨cp, 0, none⟩), .pointer (some ⟨cs, 0, none⟩), .pointer (some ⟨co, 0, none⟩)] w (KnownPost w m X a.data.toList b.data.toList (a.data.toList.drop i) (b.data.toList.drop j)) := by
  intro N
  induction N using Nat.strongRecOn with
  | ind N ih =>
  intro i j hN hi hj X w hp hcs hco ha hb hs hX
  have IH := Lib.hid ih
  clear ih
  by_cases hend : i = a.size ∧ j = b.size
  · exact praces1_end a b i j cp cs co P m X w hp ha hb hs hX hend.1 hend.2
  have heq : ∀ w, (binOp .eql 121 (.agg #[.int .i64 i, .int .i64 j]) (.agg #[.int .i64 a.size, .int .i64 b.size])).run Try.prog w = .ok (.bool false) w := fun w => by
    have := rest_eql (i, j) (a.size, b.size) w
    rw [run_eql_struct, show Op.equalIn 10000 121 (.agg #[.int .i64 i, .int .i64 j]) (.agg #[.int .i64 a.size, .int .i64 b.size]) = Op.equal 121 (restV (i, j)) (restV (a.size, b.size)) from rfl, this]
    simp [hend, Result.andThen]
  have Hend := Lib.hid hend
  have HN := Lib.hid hN
  have HX := Lib.hid hX
  clear hend hN hX
  have hlt := lt_of_cell ha
  have hltp := lt_of_cell hp
  have hlts := lt_of_cell hcs
  have hlto := lt_of_cell hco
  have hm : m ≠ cp ∧ m ≠ cs ∧ m ≠ co ∧ m ≠ P := by
    obtain ⟨_, sl, h1, _⟩ := hs
    exact ⟨h1.apart hp, h1.apart hcs, h1.apart hco, h1.apart ha⟩
  have Hm := Lib.hid hm
  clear hm
  obtain ⟨hXm, sl, hsl, hsk⟩ := id hs
  have Hsk := Lib.hid hsk
  clear hsk
  have hz : ∀ w, (zeroValue 124).run Try.prog w = .ok (.agg #[.int .i64 0, .map none]) w := fun w => by kernel_rfl
  cases hlook : lookKey sl (i, j) with
  | some v =>
    have hmem := lookKey_mem hlook
    obtain ⟨_, _, hkv⟩ := Hsk.out _ hmem
    obtain ⟨k, hv, hXk, hset⟩ := id hkv
    obtain ⟨d, hd⟩ : ∃ d : Int, d = (dist (a.data.toList.drop i) (b.data.toList.drop j) : Nat) := ⟨_, rfl⟩
    have hv' : v = .agg #[.int .i64 d, .map (some k)] := by rw [hd]; exact hv
    have Hd := Lib.hid hd
    clear hd hv
    subst hv'
    have hlk : ∀ V : World, Grow w V → (lookup 118 (.map (some m)) (.agg #[.int .i64 i, .int .i64 j]) true).run Try.prog V = .ok (.tuple #[.agg #[.int .i64 d, .map (some k)], .bool true]) V := fun V hg => by
      have := run_look_ok keyOk_rest und_seen (hz V) (hsl.grow hg) (i, j) true
      rw [hlook] at this
      exact this
    have Hlk := Lib.hid hlk
    clear hlk hlook hz
    go_enter Try.func90, Try.ntmps90
    go_wp2_with fail
    obtain ⟨W, hW⟩ : ∃ W, W = ((w.alloc (.cells #[.int .i64 i, .int .i64 j] 121)).alloc (.cells #[.int .i64 0, .map none] 124)) := ⟨_, rfl⟩
    have hgW : Grow w W := by rw [hW]; exact (((Grow.refl w).alloc _).alloc _)
    have hW00 : W.cell? ⟨w.heap.size, 0, none⟩ = some (.int .i64 i) := by rw [hW]; exact Grow.keepA (cell_new (by simp) rfl) _
    have hW01 : W.cell? ⟨w.heap.size, 1, none⟩ = some (.int .i64 j) := by rw [hW]; exact Grow.keepA (cell_new (by simp) rfl) _
    have hWf0 : ∀ o, W.frozen? ⟨w.heap.size, o, none⟩ = false := by intro o; rw [hW]; exact (((Grow.refl _).alloc _).marks _ _ (by simp <;> omega)).trans (hot_new (by simp))
    have hWl0 : w.heap.size < W.heap.size := by rw [hW]; simp; try omega
    have hW10 : W.cell? ⟨w.heap.size + 1, 0, none⟩ = some (.int .i64 0) := by rw [hW]; exact cell_new (by simp) rfl
    have hW11 : W.cell? ⟨w.heap.size + 1, 1, none⟩ = some (.map none) := by rw [hW]; exact cell_new (by simp) rfl
    have hWf1 : ∀ o, W.frozen? ⟨w.heap.size + 1, o, none⟩ = false := by intro o; rw [hW]; exact hot_new (by simp)
    have hWl1 : w.heap.size + 1 < W.heap.size := by rw [hW]; simp; try omega
    rw [← hW]
    clear hW
    have hWd : ∀ n, (W.drewN n).heap.size = W.heap.size := fun _ => rfl
    have hWq : ∀ n o b j, b < W.heap.size → ((W.drewN n).alloc o).cell? ⟨b, j, none⟩ = W.cell? ⟨b, j, none⟩ := cell_drewN_alloc W
    have hWr : ∀ n o b j, b < W.heap.size → ((W.drewN n).alloc o).frozen? ⟨b, j, none⟩ = W.frozen? ⟨b, j, none⟩ := hot_drewN_alloc W
    have hWb0 : w.heap.size ≤ w.heap.size := by omega
    have hWb1 : w.heap.size ≤ w.heap.size + 1 := by omega
    have hWn01 : w.heap.size ≠ w.heap.size + 1 := by omega
    have hWn10 : w.heap.size + 1 ≠ w.heap.size := by omega
    obtain ⟨W1, hWe1⟩ : ∃ g, w.heap.size + 1 = g := ⟨_, rfl⟩
    rw [hWe1] at hW10 hW11 hWf1 hWl1 hWb1 hWn10 hWn01
    (try rw [hWe1])
    have hWk1 := Lib.hid hWe1
    clear hWe1
    obtain ⟨W0, hWe0⟩ : ∃ g, w.heap.size = g := ⟨_, rfl⟩
    have hWb0 : w.heap.size ≤ W0 := by omega
    rw [hWe0] at hW00 hW01 hWf0 hWl0 hWn01 hWn10
    (try rw [hWe0])
    have hWk0 := Lib.hid hWe0
    clear hWe0
    have hWa := hgW.keeps ha
    have hWb := hgW.keeps hb
    have hWp := hgW.keeps hp
    have hWcs := hgW.keeps hcs
    go_step3
    go_wp2_with fail
    go_quiet (fail)
    obtain ⟨V, hV⟩ : ∃ V, V = W.drewN nq := ⟨_, rfl⟩
    have hgV : Grow W V := by rw [hV]; exact (Grow.refl W).drewN _
    rw [← hV]
    clear hV
    have hV00 := hgV.keeps hW00
    have hV01 := hgV.keeps hW01
    have hV10 := hgV.keeps hW10
    have hV11 := hgV.keeps hW11
    have hVcs := hgV.keeps hWcs
    have hVf1 : ∀ o, V.frozen? ⟨W1, o, none⟩ = false := fun o => (hgV.marks _ _ hWl1).trans (hWf1 o)
    have hVl1 : W1 < V.heap.size := Nat.lt_of_lt_of_le hWl1 hgV.size
    have hlk := Hlk.out _ (hgW.trans hgV)
    go_wp2_with fail
    rw [Exit.noGoto_ret]
    have h2 := cells2 (x := .int .i64 d) (y := .map (some k)) hV10 hV11
    have hgF : Grow w ((V.setCell ⟨W1, 0, none⟩ (.int .i64 d)).setCell ⟨W1, 1, none⟩ (.map (some k))) := ((hgW.trans hgV).setCell (p := ⟨W1, 0, none⟩) hWb1 _).setCell (p := ⟨W1, 1, none⟩) hWb1 _
    refine bodyPost_ret (v := .agg #[.int .i64 d, .map (some k)]) ?_ rfl ⟨_, rfl, hkv.grow (hgF.alloc _), hs.grow (hgF.alloc _), (hgF.alloc _).grownBy _⟩
    have h0 := ((Grow.refl _).alloc (.cells #[.int .i64 d, .map (some k)] 124)).keeps h2.1
    have h1 := ((Grow.refl _).alloc (.cells #[.int .i64 d, .map (some k)] 124)).keeps h2.2.1
    simp [results, Try.results90, go_sem, h0, h1]
  | none =>
    have hlk : ∀ V : World, Grow w V → (lookup 118 (.map (some m)) (.agg #[.int .i64 i, .int .i64 j]) true).run Try.prog V = .ok (.tuple #[.agg #[.int .i64 0, .map none], .bool false]) V := fun V hg => by
      have := run_look_ok keyOk_rest und_seen (hz V) (hsl.grow hg) (i, j) true
      rw [hlook] at this
      exact this
    have Hlk := Lib.hid hlk
    clear hlk hlook hz
    go_enter Try.func90, Try.ntmps90
    go_wp2_with fail
    obtain ⟨W, hW⟩ : ∃ W, W = ((w.alloc (.cells #[.int .i64 i, .int .i64 j] 121)).alloc (.cells #[.int .i64 0, .map none] 124)) := ⟨_, rfl⟩
    have hgW : Grow w W := by rw [hW]; exact (((Grow.refl w).alloc _).alloc _)
    have hW00 : W.cell? ⟨w.heap.size, 0, none⟩ = some (.int .i64 i) := by rw [hW]; exact Grow.keepA (cell_new (by simp) rfl) _
    have hW01 : W.cell? ⟨w.heap.size, 1, none⟩ = some (.int .i64 j) := by rw [hW]; exact Grow.keepA (cell_new (by simp) rfl) _
    have hWf0 : ∀ o, W.frozen? ⟨w.heap.size, o, none⟩ = false := by intro o; rw [hW]; exact (((Grow.refl _).alloc _).marks _ _ (by simp <;> omega)).trans (hot_new (by simp))
    have hWl0 : w.heap.size < W.heap.size := by rw [hW]; simp; try omega
    have hW10 : W.cell? ⟨w.heap.size + 1, 0, none⟩ = some (.int .i64 0) := by rw [hW]; exact cell_new (by simp) rfl
    have hW11 : W.cell? ⟨w.heap.size + 1, 1, none⟩ = some (.map none) := by rw [hW]; exact cell_new (by simp) rfl
    have hWf1 : ∀ o, W.frozen? ⟨w.heap.size + 1, o, none⟩ = false := by intro o; rw [hW]; exact hot_new (by simp)
    have hWl1 : w.heap.size + 1 < W.heap.size := by rw [hW]; simp; try omega
    rw [← hW]
    clear hW
    have hWd : ∀ n, (W.drewN n).heap.size = W.heap.size := fun _ => rfl
    have hWq : ∀ n o b j, b < W.heap.size → ((W.drewN n).alloc o).cell? ⟨b, j, none⟩ = W.cell? ⟨b, j, none⟩ := cell_drewN_alloc W
    have hWr : ∀ n o b j, b < W.heap.size → ((W.drewN n).alloc o).frozen? ⟨b, j, none⟩ = W.frozen? ⟨b, j, none⟩ := hot_drewN_alloc W
    have hWb0 : w.heap.size ≤ w.heap.size := by omega
    have hWb1 : w.heap.size ≤ w.heap.size + 1 := by omega
    have hWn01 : w.heap.size ≠ w.heap.size + 1 := by omega
    have hWn10 : w.heap.size + 1 ≠ w.heap.size := by omega
    obtain ⟨W1, hWe1⟩ : ∃ g, w.heap.size + 1 = g := ⟨_, rfl⟩
    rw [hWe1] at hW10 hW11 hWf1 hWl1 hWb1 hWn10 hWn01
    (try rw [hWe1])
    have hWk1 := Lib.hid hWe1
    clear hWe1
    obtain ⟨W0, hWe0⟩ : ∃ g, w.heap.size = g := ⟨_, rfl⟩
    have hWb0 : w.heap.size ≤ W0 := by omega
    rw [hWe0] at hW00 hW01 hWf0 hWl0 hWn01 hWn10
    (try rw [hWe0])
    have hWk0 := Lib.hid hWe0
    clear hWe0
    have hWa := hgW.keeps ha
    have hWb := hgW.keeps hb
    have hWp := hgW.keeps hp
    have hWcs := hgW.keeps hcs
    go_step3
    go_wp2_with fail
    go_quiet (fail)
    obtain ⟨V, hV⟩ : ∃ V, V = W.drewN nq := ⟨_, rfl⟩
    have hgV : Grow W V := by rw [hV]; exact (Grow.refl W).drewN _
    rw [← hV]
    clear hV
    have hV00 := hgV.keeps hW00
    have hV01 := hgV.keeps hW01
    have hV10 := hgV.keeps hW10
    have hV11 := hgV.keeps hW11
    have hVcs := hgV.keeps hWcs
    have hVf1 : ∀ o, V.frozen? ⟨W1, o, none⟩ = false := fun o => (hgV.marks _ _ hWl1).trans (hWf1 o)
    have hVl1 : W1 < V.heap.size := Nat.lt_of_lt_of_le hWl1 hgV.size
    have hVa := hgV.keeps hWa
    have hVb := hgV.keeps hWb
    have hVp := hgV.keeps hWp
    have hVco := (hgW.trans hgV).keeps hco
    have hlk := Hlk.out _ (hgW.trans hgV)
    go_wp2_with fail
    obtain ⟨U, hU⟩ : ∃ U, U = ((V.alloc (.cells #[.int .i64 0, .map none] 124)).alloc (.cells #[.int .i64 1000, .map none] 124)) := ⟨_, rfl⟩
    have hgU : Grow V U := by rw [hU]; exact (((Grow.refl V).alloc _).alloc _)
    have hU00 : U.cell? ⟨V.heap.size, 0, none⟩ = some (.int .i64 0) := by rw [hU]; exact Grow.keepA (cell_new (by simp) rfl) _
    have hU01 : U.cell? ⟨V.heap.size, 1, none⟩ = some (.map none) := by rw [hU]; exact Grow.keepA (cell_new (by simp) rfl) _
    have hUf0 : ∀ o, U.frozen? ⟨V.heap.size, o, none⟩ = false := by intro o; rw [hU]; exact (((Grow.refl _).alloc _).marks _ _ (by simp <;> omega)).trans (hot_new (by simp))
    have hUl0 : V.heap.size < U.heap.size := by rw [hU]; simp; try omega
    have hU10 : U.cell? ⟨V.heap.size + 1, 0, none⟩ = some (.int .i64 1000) := by rw [hU]; exact cell_new (by simp) rfl
    have hU11 : U.cell? ⟨V.heap.size + 1, 1, none⟩ = some (.map none) := by rw [hU]; exact cell_new (by simp) rfl
    have hUf1 : ∀ o, U.frozen? ⟨V.heap.size + 1, o, none⟩ = false := by intro o; rw [hU]; exact hot_new (by simp)
    have hUl1 : V.heap.size + 1 < U.heap.size := by rw [hU]; simp; try omega
    rw [← hU]
    clear hU
    have hUd : ∀ n, (U.drewN n).heap.size = U.heap.size := fun _ => rfl
    have hUq : ∀ n o b j, b < U.heap.size → ((U.drewN n).alloc o).cell? ⟨b, j, none⟩ = U.cell? ⟨b, j, none⟩ := cell_drewN_alloc U
    have hUr : ∀ n o b j, b < U.heap.size → ((U.drewN n).alloc o).frozen? ⟨b, j, none⟩ = U.frozen? ⟨b, j, none⟩ := hot_drewN_alloc U
    have hUb0 : V.heap.size ≤ V.heap.size := by omega
    have hUb1 : V.heap.size ≤ V.heap.size + 1 := by omega
    have hUn01 : V.heap.size ≠ V.heap.size + 1 := by omega
    have hUn10 : V.heap.size + 1 ≠ V.heap.size := by omega
    obtain ⟨U1, hUe1⟩ : ∃ g, V.heap.size + 1 = g := ⟨_, rfl⟩
    rw [hUe1] at hU10 hU11 hUf1 hUl1 hUb1 hUn10 hUn01
    (try rw [hUe1])
    have hUk1 := Lib.hid hUe1
    clear hUe1
    obtain ⟨U0, hUe0⟩ : ∃ g, V.heap.size = g := ⟨_, rfl⟩
    have hUb0 : V.heap.size ≤ U0 := by omega
    rw [hUe0] at hU00 hU01 hUf0 hUl0 hUn01 hUn10
    (try rw [hUe0])
    have hUk0 := Lib.hid hUe0
    clear hUe0
    have hu00 := hgU.keeps hV00
    have hu01 := hgU.keeps hV01
    have hu10 := hgU.keeps hV10
    have hu11 := hgU.keeps hV11
    have huf1 : ∀ o, U.frozen? ⟨W1, o, none⟩ = false := fun o => (hgU.marks _ _ hVl1).trans (hVf1 o)
    have hR0 : ∀ w', Grow U w' → R1 w m X a.data.toList b.data.toList i j W0 W1 U1 0 w' := fun w' hg' => ⟨((hgW.trans (hgV.trans hgU)).trans hg').grownBy _, hg'.keeps hu00, hg'.keeps hu01, hg'.keeps hu10, hg'.keeps hu11, fun o => (hg'.marks _ _ (lt_of_cell hu10)).trans (huf1 o), fun o => (hg'.marks _ _ hUl1).trans (hUf1 o), hg'.keeps hU10, .inl ⟨hg'.keeps hU11, rfl, hs.grow ((hgW.trans (hgV.trans hgU)).trans hg')⟩⟩
    have HR0 := Lib.hid hR0
    clear hR0
    go_step3
    go_wp2_with (go_at_call 91; refine (ppasses_any _).mono ?_; rintro e w' ⟨rfl, hg'⟩)
    go_loopw [45] (fun c wr => ∃ q : Nat, q ≤ 3 ∧ c = .int .i64 q ∧ R1 w m X a.data.toList b.data.toList i j W0 W1 U1 q wr) (fun c _ => 3 - (intOf c).toNat)
    case atStart => exact ⟨0, by omega, rfl, HR0.out _ hg'⟩
    case round =>
      obtain ⟨q, hq, rfl, hR⟩ := hrel
      have HR := Lib.hid hR
      obtain ⟨hgw, h00, h01, h10, h11, hf1, hf2, h20, hbest⟩ := hR
      have Hbest := Lib.hid hbest
      clear hbest
      by_cases hlt3 : q < 3
      · have hidx : ∀ w, (index 128 passA (.int .i64 q)).run Try.prog w = .ok (passV q) w := fun w => by
          obtain rfl | rfl | rfl : q = 0 ∨ q = 1 ∨ q = 2 := by omega
          all_goals kernel_rfl
        unfold passA at hidx
        obtain ⟨i', j', who, n, is, hok, hcall⟩ := pmv a b i j q hlt3 (by omega) (by omega) hi hj
        have Hok := Lib.hid hok
        have Hcall := Lib.hid hcall
        clear hok hcall
        have hrp := hgw.cell hp (by simpa using Hm.out.1.symm)
        have hra := hgw.cell ha (by simpa using Hm.out.2.2.2.symm)
        have hrb := hgw.cell hb (by simpa using Hm.out.2.2.2.symm)
        go_upto_region 10 with fail
        go_cut [11, 12, 13, 14] (fun s11 s12 s13 s14 V => AfterOn wr s11 s12 s13 s14 i' j' who n is V)
        case first =>
          obtain rfl | rfl | rfl : q = 0 ∨ q = 1 ∨ q = 2 := by omega
          · rw [show passV 0 = .iface 136 (.agg #[]) from rfl]
            go_wp2_with fail
            rw [meth (t := 136) (k := 130)]
            rotate_left
            · kernel_rfl
            go_wp2_with (go_at_call 130; refine (Hcall.out _ _ hra hrb).mono ?_; rintro e w2 ⟨v, rfl, hv, hg2⟩)
            go_meet
            exact ⟨w2.heap.size, rfl, hg2.size, by simp, by simp, hv.grow ((Grow.refl _).alloc _), rfl, rfl, hg2.alloc _⟩
          · rw [show passV 1 = .iface 137 (.agg #[]) from rfl]
            go_wp2_with fail
            rw [meth (t := 137) (k := 132)]
            rotate_left
            · kernel_rfl
            go_wp2_with (go_at_call 132; refine (Hcall.out _ _ hra hrb).mono ?_; rintro e w2 ⟨v, rfl, hv, hg2⟩)
            go_meet
            exact ⟨w2.heap.size, rfl, hg2.size, by simp, by simp, hv.grow ((Grow.refl _).alloc _), rfl, rfl, hg2.alloc _⟩
          · rw [show passV 2 = .iface 139 (.agg #[]) from rfl]
            go_wp2_with fail
            rw [meth (t := 139) (k := 133)]
            rotate_left
            · kernel_rfl
            go_wp2_with (go_at_call 133; refine (Hcall.out _ _ hra hrb).mono ?_; rintro e w2 ⟨v, rfl, hv, hg2⟩)
            go_meet
            exact ⟨w2.heap.size, rfl, hg2.size, by simp, by simp, hv.grow ((Grow.refl _).alloc _), rfl, rfl, hg2.alloc _⟩
        case rest =>
          obtain ⟨g, rfl, hgb, hg0, hg1, hv, rfl, rfl, hG⟩ := hcut
          obtain ⟨V2, rfl⟩ : ∃ V2 : World, V2 = wc := ⟨_, rfl⟩
          have HR2 := Lib.hid (HR.out.grow hG)
          rcases Hok.out with ⟨rfl, hmv⟩ | ⟨rfl, i1, j1, w8, n1, rfl, rfl, rfl, rfl, hmv, hi1, hj1, hij, hn1⟩
          · have HR3 := Lib.hid (HR2.out.skip hmv)
            clear hmv
            go_wp2_with fail
            exact ⟨⟨q + 1, by omega, by go_num, HR3.out⟩, by simp [intOf]; omega⟩
          · have Hmv := Lib.hid hmv
            clear hmv
            obtain ⟨ua, ucap, rfl, hucap, hunil, hrow⟩ := hv.row
            have hown := hv
            have hUwr : U1 < wr.heap.size := lt_of_cell h20
            have hW0V : W0 < V.heap.size := lt_of_cell hV00
            rw [List.map_map] at hrow
            simp only [List.length_map]
            clear h00 h01 h10 h11 hf1 hf2 h20 Hbest hidx hrp hra hrb HR Hok Hcall
            obtain ⟨mv, X', hR0, hc20, hc21, hse, hX', hbst⟩ := HR2.out.best
            have hmW : m ≠ W0 ∧ m ≠ W1 ∧ m ≠ U1 := by
              obtain ⟨_, sl2, q1, _⟩ := hse
              exact ⟨q1.apart hR0.2.1, q1.apart hR0.2.2.2.1, q1.apart hc20⟩
            have HmW := Lib.hid hmW
            have HX' := Lib.hid hX'
            have Hbst := Lib.hid hbst
            have HR0 := Lib.hid hR0
            clear hmW hX' hbst
            have hcp := hR0.1.cell hp (by simpa using Hm.out.1.symm)
            have hccs := hR0.1.cell hcs (by simpa using Hm.out.2.1.symm)
            have hcco := hR0.1.cell hco (by simpa using Hm.out.2.2.1.symm)
            have hcPa := hR0.1.cell ha (by simpa using Hm.out.2.2.2.symm)
            have hcPb := hR0.1.cell hb (by simpa using Hm.out.2.2.2.symm)
            have hsz := hR0.1.size
            clear hR0
            have hcall := IH.out (a.size + b.size - i1 - j1) (by have := HN.out; have := size_list a; have := size_list b; omega) i1 j1 (by have := size_list a; have := size_list b; omega) (by have := size_list a; omega) (by have := size_list b; omega) X' V2 hcp hccs hcco hcPa hcPb hse (fun k hk => (HX'.out k hk).elim (fun h => Nat.lt_of_lt_of_le (HX.out k h) hsz) id)
            have Hcall := Lib.hid hcall
            have Hse := Lib.hid hse
            clear hcall hse
            obtain ⟨d, hd⟩ : ∃ d : Nat, d = dist (a.data.toList.drop i1) (b.data.toList.drop j1) := ⟨_, rfl⟩
            obtain ⟨e, he⟩ : ∃ e : Nat, e = bc (a.data.toList.drop i) (b.data.toList.drop j) q := ⟨_, rfl⟩
            have hd2 : d ≤ 200 := by
              have := dist_le (a.data.toList.drop i1) (b.data.toList.drop j1)
              simp only [List.length_drop] at this
              have := size_list a
              have := size_list b
              omega
            rw [← he] at hc20
            have Hd := Lib.hid hd
            have He := Lib.hid he
            clear hd he
            by_cases hcmp : e < n1 + d
            · have hb1 : decide ((e : Int) < (n1 : Int) + (d : Int)) = true := by simp; omega
              go_wp2_with (go_at_call 90; refine Hcall.out.mono ?_; rintro e' w3 ⟨v, rfl, ⟨kk, rfl, hkk, hset⟩, hse3, hg3⟩; rw [← Hd.out]; have hc30 : w3.cell? ⟨U1, 0, none⟩ = some (.int .i64 e) := byCell1 hg3 hc20 (by simpa using HmW.out.2.2); have hc31 : w3.cell? ⟨U1, 1, none⟩ = some (.map mv) := byCell1 hg3 hc21 (by simpa using HmW.out.2.2); have hl3 : U1 < w3.heap.size := lt_of_cell hc30)
              exact ⟨⟨q + 1, by omega, by go_num, ((R1.of (HR0.out.by hc20 hg3 HmW.out.1 HmW.out.2.1 HmW.out.2.2) (by rw [← He.out]; exact hc30) hc31 hse3 (Hbst.out.kept hg3 hXm)).grow ((Grow.refl w3).alloc _)).more Hmv.out (by show _ < n1 + dist _ _; rw [← He.out, ← Hd.out]; exact hcmp)⟩, by simp [intOf]; omega⟩
            · have hb1 : decide ((e : Int) < (n1 : Int) + (d : Int)) = false := by simp; omega
              go_upto_if 73 with (go_at_call 90; refine Hcall.out.mono ?_; rintro e' w3 ⟨v, rfl, ⟨kk, rfl, hkk, hset⟩, hse3, hg3⟩; rw [← Hd.out]; have hc30 : w3.cell? ⟨U1, 0, none⟩ = some (.int .i64 e) := byCell1 hg3 hc20 (by simpa using HmW.out.2.2); have hc31 : w3.cell? ⟨U1, 1, none⟩ = some (.map mv) := byCell1 hg3 hc21 (by simpa using HmW.out.2.2); have hl3 : U1 < w3.heap.size := lt_of_cell hc30)
              obtain ⟨V4, hV4⟩ : ∃ V4 : World, V4 = w3.alloc (.cells #[.int .i64 d, .map (some kk)] 124) := ⟨_, rfl⟩
              have hg34 : Grow w3 V4 := by rw [hV4]; exact (Grow.refl w3).alloc _
              have hK0 : V4.cell? ⟨w3.heap.size, 0, none⟩ = some (.int .i64 d) := by rw [hV4]; exact cell_new rfl rfl
              have hK1 : V4.cell? ⟨w3.heap.size, 1, none⟩ = some (.map (some kk)) := by rw [hV4]; exact cell_new rfl rfl
              rw [← hV4]
              clear hV4
              obtain ⟨K0, hKe⟩ : ∃ K0, K0 = w3.heap.size := ⟨_, rfl⟩
              rw [← hKe] at hK0 hK1 ⊢
              have hKn : K0 ≠ U1 := by omega
              have HKe := Lib.hid hKe
              clear hKe
              have h40 := hg34.keeps hc30
              have h41 := hg34.keeps hc31
              have hl4 : U1 < V4.heap.size := lt_of_cell h40
              have hf4 : ∀ o, V4.frozen? ⟨U1, o, none⟩ = false := fun o => (hg34.marks _ _ hl3).trans ((byHot hg3 (lt_of_cell hc20) (by simpa using HmW.out.2.2) o).trans (HR0.out.2.2.2.2.2.2 o))
              have HR4 := Lib.hid ((HR0.out.by hc20 hg3 HmW.out.1 HmW.out.2.1 HmW.out.2.2).grow hc30 hg34)
              have Hrow := Lib.hid ((hrow.byMap hg3 Hse.out.2.choose_spec.1).grow hg34)
              have HrW := Lib.hid (fun (b o : Nat) (e : ua = some ⟨b, o, none⟩) => (by have := hown.base b (by rw [e]; rfl); omega : b ≠ U1))
              have hset4 := Lib.hid (hset.grow hg34)
              have hse4 := Lib.hid (hse3.grow hg34)
              have hkk' := Lib.hid hkk
              have Hb4 := Lib.hid ((Hbst.out.kept hg3 hXm).grow hg34)
              clear hset hse3 hkk
              go_cut [13] (fun s13 V => s13 = .int .i64 ((n1 : Int) + (d : Int)) ∧ R2 w m X a.data.toList b.data.toList i j W0 W1 U1 q K0 kk (a.data.toList.drop i1, b.data.toList.drop j1) w8 ua V)
              case first =>
                by_cases hc2 : n1 + d < e
                · have hb2 : decide ((n1 : Int) + (d : Int) < (e : Int)) = true := by simp; omega
                  have hmm := @run_makeMap Try.prog
                  rw [hb2]
                  go_wp2_with fail
                  go_meet
                  exact ⟨rfl, R2.new HR4.out (by omega) (by omega) (by omega) h40 h41 (fun k hk => Nat.lt_of_lt_of_le (HX.out k hk) HR4.out.1.size) (hse4.out.less Hb4.out.sub hXm) Hmv.out (by show n1 + dist _ _ < _; rw [← He.out, ← Hd.out]; exact hc2) hset4.out hK1 hKn Hrow.out _ (by show _ = ((n1 + dist _ _ : Nat) : Int); rw [← Hd.out]; simp) (HrW.out)⟩
                · have hb2 : decide ((n1 : Int) + (d : Int) < (e : Int)) = false := by simp; omega
                  rw [hb2]
                  go_wp2_with fail
                  go_meet
                  exact ⟨rfl, R2.old HR4.out (by rw [← He.out]; exact h40) h41 hse4.out Hb4.out Hmv.out (by show n1 + dist _ _ = _; rw [← He.out, ← Hd.out]; omega) (by show n1 + dist _ _ < _; rw [← Hd.out]; omega) hkk'.out hset4.out hK1 Hrow.out⟩
              case rest =>
                obtain ⟨rfl, hR⟩ := hcut
                clear h40 h41 hl4 hf4 HR4 HrW hset4 hse4 hkk' Hb4 hK0 hK1 hg34 hg3 hc30 hc31 hl3 hg0 hg1 hown hrow hG
                obtain ⟨V5, rfl⟩ : ∃ V5 : World, V5 = wc := ⟨_, rfl⟩
                obtain ⟨kb, S0, hR5, h50, h51, ⟨hXkb, hBkb⟩, hs5, hsb5, hS0, hkkb, hsk5, hK5, hr5⟩ := hR
                obtain ⟨lk, hlk, hlkm⟩ := hsk5
                have HR5 := Lib.hid hR5
                have Hs5 := Lib.hid hs5
                have Hsb5 := Lib.hid hsb5
                have HS0 := Lib.hid hS0
                have Hlkm := Lib.hid hlkm
                clear hR5 hs5 hsb5 hS0 hlkm
                go_wp2_with (at_range; refine wpl_range (ke := Value.string) rfl (.tmp 78) 122 rfl und_set kk lk rfl hlk ?_; intro V6 hr6 hg6 hz6)
                obtain ⟨Rb, hRb⟩ : ∃ Rb, Rb = V5.heap.size := ⟨_, rfl⟩
                rw [← hRb] at hr6 ⊢
                have hwRb : w.heap.size ≤ Rb := by have := HR5.out.1.size; omega
                have hkbR : kb ≠ Rb := by have := Hsb5.out.lt; omega
                have hkkR : kk ≠ Rb := by have := hlk.lt; omega
                have hmkb : m ≠ kb := fun e => hXkb (e ▸ hXm)
                obtain ⟨n2, hn2⟩ : ∃ n2, n2 = bc (a.data.toList.drop i) (b.data.toList.drop j) (q + 1) := ⟨_, rfl⟩
                rw [← hn2] at h50
                have Hn2 := Lib.hid hn2
                have HRb := Lib.hid hRb
                have hlkn := hlk.nodup
                clear hRb hn2
                have hR30 : R3 w m X a.data.toList b.data.toList i j W0 W1 U1 n2 kb w8 ua (upSet S0 w8 lk lk) V6 := R3.grow (R3.iff ⟨HR5.out, h50, h51, Hs5.out, Hsb5.out, hr5⟩ fun t => (upSet_start _ _ _ t).symm) hg6
                clear h50 h51 hr5 hlk hg6 hz6
                (try go_frame)
                obtain ⟨wo, rfl⟩ : ∃ wo : World, wo = wr := ⟨_, rfl⟩
                go_loopg [16] lk.length (fun gk _ wr => ∃ (todo : List (ByteArray × Value)) (cur : Option (ByteArray × Value)), gk = todo.length ∧ RangeIs wr Rb kk Value.string todo cur ∧ (∀ r ∈ todo, r ∈ lk) ∧ (todo.map (·.1)).Nodup ∧ R3 w m X a.data.toList b.data.toList i j W0 W1 U1 n2 kb w8 ua (upSet S0 w8 lk todo) wr)
                case atStart => exact ⟨lk, none, rfl, hr6, fun _ h => h, hlkn, hR30⟩
                case round =>
                  obtain ⟨todo, cur, rfl, hrg, hsub, hnd, hR3⟩ := hrel
                  have HR3 := Lib.hid hR3
                  have Hsub := Lib.hid hsub
                  have Hnd := Lib.hid hnd
                  clear hR3 hsub hnd
                  go_wp2_with (at_next; refine wpl_step rfl (.tmp 79) rfl Rb kk todo cur rfl hrg ?_ ?_)
                  · intro htodo
                    subst htodo
                    have HR9 := Lib.hid (HR3.out.best Hn2.out hXkb hBkb fun t => (upSet_end Hlkm.out t).trans (HS0.out t).symm)
                    go_wp2_with fail
                    exact ⟨⟨q + 1, by omega, by go_num, HR9.out⟩, by simp [intOf]; omega⟩
                  · intro pre x vx post w1 htodo hr1 hg1 hz1 hent
                    have Htodo := Lib.hid htodo
                    have hR31 : R3 w m X a.data.toList b.data.toList i j W0 W1 U1 n2 kb w8 ua (upSet2 S0 w8 lk todo x 0) w1 := by
                      obtain ⟨es, c, s, sn, c0, hit, _⟩ := hrg
                      exact (HR3.out.iter hit hg1 hwRb).iff fun t => (upSet2_zero _ _ _ _ _ t).symm
                    have hxs : x.size ≤ 200 := by
                      have hmx : (x, vx) ∈ lk := Hsub.out _ (by rw [htodo]; simp)
                      have hT := (Hlkm.out x).1 (List.mem_map_of_mem hmx)
                      have h1 := isT_len _ _ _ hT
                      simp only [List.length_drop, size_list] at h1
                      omega
                    have hw2 : w8.length ≤ 2 := (mvs_len Hmv.out).2
                    clear htodo hg1 hz1
                    go_wp2_with fail
                    go_loopw [86] (fun c wq => ∃ k : Nat, k ≤ w8.length ∧ c = .int .i64 k ∧ R3 w m X a.data.toList b.data.toList i j W0 W1 U1 n2 kb w8 ua (upSet2 S0 w8 lk todo x k) wq ∧ RangeIs wq Rb kk Value.string (pre ++ post) (some (x, vx))) (fun c _ => w8.length - (intOf c).toNat)
                    case atStart => exact ⟨0, Nat.zero_le _, rfl, hR31, hr1⟩
                    case round =>
                      obtain ⟨k, hk, rfl, hR3k, hrk⟩ := hrel
                      by_cases hlt : k < w8.length
                      · obtain ⟨bb, oo, hua, hcell⟩ := hR3k.2.2.2.2.2 k (.int .u8 w8[k].toNat) (by simp [hlt])
                        have hc1 := hR3k.2.2.1
                        have hc0 := hR3k.2.1
                        have HR3k := Lib.hid hR3k
                        have Hrk := Lib.hid hrk
                        clear hR3k hrk
                        subst hua
                        obtain ⟨l, hl, hlm⟩ := HR3k.out.2.2.2.2.1
                        have Hlm := Lib.hid hlm
                        clear hlm
                        have hcv := conv1 (wr.alloc (.cells #[.int .u8 w8[k].toNat] 5)) w8[k] wr.heap.size (by simp)
                        have hl2 := hl.grow ((Grow.refl wr).alloc (.cells #[.int .u8 w8[k].toNat] 5))
                        go_wp2_with (at_mapUpdate; refine wpl_put (ke := Value.string) rfl (.tmp 91) (.tmp 96) (.const (.bool true)) 122 (Or.inl rfl) 4 keyOk_race und_set kb l ((⟨#[w8[k]]⟩ : ByteArray) ++ x) (.bool true) rfl rfl rfl hl2 ?_; intro w7 hp7 hg7 hz7)
                        have hgk : wr.grownBy w7 (some kb) := ((Grow.refl wr).alloc _).andBy hg7
                        refine ⟨⟨k + 1, by omega, by go_num, HR3k.out.put hl Hlm.out hp7 hgk hBkb hmkb (fun t => ?_), Hrk.out.kept hgk (by simpa using hkbR.symm) (by simpa using hkkb)⟩, by simp [intOf]; omega⟩
                        rw [eq_cat1]
                        exact upSet2_succ (by simp [hlt]) _
                      · have hk2 : Hid (k = w8.length) := (by show _ = _; omega)
                        have Hr := Lib.hid hR3k
                        have Hq := Lib.hid hrk
                        clear hR3k hrk
                        go_wp2_with fail
                        go_roundg (pre ++ post).length
                        case rel =>
                          refine ⟨pre ++ post, some (x, vx), rfl, Hq.out, fun r hr => Hsub.out r ?_, ?_, Hr.out.iff fun t => ?_⟩
                          · rw [Htodo.out]
                            rcases List.mem_append.1 hr with h | h
                            · simp [h]
                            · simp [h]
                          · have := Hnd.out
                            rw [Htodo.out] at this
                            refine List.Sublist.nodup (List.Sublist.map _ ?_) this
                            exact List.Sublist.append (List.Sublist.refl _) (List.sublist_cons_self _ _)
                          · have h1 := Hsub.out
                            have h2 := Hnd.out
                            rw [Htodo.out] at h1 h2 ⊢
                            rw [hk2.out]
                            exact (upSet_step h1 h2 t).symm
                        case measure => rw [Htodo.out]; simp
      · obtain rfl : q = 3 := by omega
        have hdd : dist (a.data.toList.drop i) (b.data.toList.drop j) ≤ 200 := by
          have := dist_le (a.data.toList.drop i) (b.data.toList.drop j)
          simp only [List.length_drop, size_list] at this
          omega
        have hlen : (a.data.toList.drop i).length + (b.data.toList.drop j).length ≤ 1000 := by
          simp only [List.length_drop, size_list]
          omega
        have hne : ¬ (a.data.toList.drop i = [] ∧ b.data.toList.drop j = []) := fun h => Hend.out (by
          have h1 := List.drop_eq_nil_iff.1 h.1
          have h2 := List.drop_eq_nil_iff.1 h.2
          rw [size_list] at h1 h2
          omega)
        obtain ⟨n2, hn2⟩ : ∃ n2, n2 = dist (a.data.toList.drop i) (b.data.toList.drop j) := ⟨_, rfl⟩
        have hbb : bc (a.data.toList.drop i) (b.data.toList.drop j) 3 = n2 := by rw [bc_dist hne hlen, hn2]
        rcases Hbest.out with ⟨_, hb0, _⟩ | ⟨kb, hc1, ⟨hXkb, hBkb⟩, hset, hse⟩
        · omega
        obtain ⟨_, sl2, hsl2, hsk2⟩ := hse
        have Hsk2 := Lib.hid hsk2
        have Hset := Lib.hid (hset.iff fun t => BS_all hne hlen t)
        rw [hbb] at h20
        have Hn2 := Lib.hid hn2
        have hcs3 := hgw.cell hcs (by simpa using Hm.out.2.1.symm)
        have hmW : m ≠ W1 ∧ m ≠ U1 := ⟨hsl2.apart h10, hsl2.apart h20⟩
        have hmkb : m ≠ kb := fun e => hXkb (e ▸ hXm)
        have HmW := Lib.hid hmW
        clear hsk2 hset hn2 hbb hne hlen hdd hmW
        go_wp2_with (at_mapUpdate; refine wpl_put (ke := restV) rfl (.tmp 99) (.tmp 100) (.tmp 101) 118 (Or.inl rfl) 124 keyOk_rest und_seen m sl2 (i, j) (.agg #[.int .i64 n2, .map (some kb)]) rfl rfl rfl hsl2 ?_; intro w9 hp9 hg9 hz9; have h9a : w9.cell? ⟨U1, 0, none⟩ = some (.int .i64 n2) := byCell1 hg9 h20 (by simpa using HmW.out.2); have h9b : w9.cell? ⟨U1, 1, none⟩ = some (.map (some kb)) := byCell1 hg9 hc1 (by simpa using HmW.out.2); have h9c : w9.cell? ⟨W1, 0, none⟩ = some (.int .i64 0) := byCell1 hg9 h10 (by simpa using HmW.out.1); have h9d : w9.cell? ⟨W1, 1, none⟩ = some (.map none) := byCell1 hg9 h11 (by simpa using HmW.out.1); have h9f : ∀ o, w9.frozen? ⟨W1, o, none⟩ = false := fun o => (byHot hg9 (lt_of_cell h10) (by simpa using HmW.out.1) o).trans (hf1 o))
        rw [Exit.noGoto_ret]
        have h2 := cells2 (x := .int .i64 n2) (y := .map (some kb)) h9c h9d
        have hkv : KnownV wr X (a.data.toList.drop i) (b.data.toList.drop j) (.agg #[.int .i64 n2, .map (some kb)]) := ⟨kb, by rw [Hn2.out], hXkb, Hset.out⟩
        have hse9 : SeenOk w9 m X a.data.toList b.data.toList := SeenOk.put hXm (fun p hp => ⟨(Hsk2.out p hp).1, (Hsk2.out p hp).2.1, (Hsk2.out p hp).2.2.less fun k hk => .inl hk⟩) hp9 hg9 (by rw [size_list]; exact hi) (by rw [size_list]; exact hj) hkv
        refine bodyPost_ret (v := .agg #[.int .i64 n2, .map (some kb)]) (by simp [results, Try.results90, go_sem, h2.1, h2.2.1]) rfl ⟨_, rfl, ((hkv.kept hg9 (.inl hXm)).setCell _ _).setCell _ _, (hse9.setCell _ _).setCell _ _, ?_⟩
        have hw1b : w.heap.size ≤ W1 := hWb1
        have hb9 : Below w.heap.size w9 ((w9.setCell ⟨W1, 0, none⟩ (.int .i64 n2)).setCell ⟨W1, 1, none⟩ (.map (some kb))) := ((Below.refl _ _).setCell (p := ⟨W1, 0, none⟩) hw1b _).setCell (p := ⟨W1, 1, none⟩) hw1b _
        exact byBelow (byBy hgw hg9) hb9
end Go.Proofs.Yteijilbdllpbcaa
