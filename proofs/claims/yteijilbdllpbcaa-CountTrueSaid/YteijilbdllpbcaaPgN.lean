/- The program of layer 1: all races with the fewest errors of two sheets. Conditions: sizes. -/
import Derived.Test.YteijilbdllpbcaaPgK
import Derived.Test.YteijilbdllpbcaaPgM
import Derived.Test.YteijilbdllpbcaaPlA
import Derived.Laws.EntriesVeiled
namespace Go.Proofs.Yteijilbdllpbcaa
open Go.RowKit Go.Instr

/-- The races with the fewest errors, sorted. -/
def TruthList (A B : List UInt8) (l : List ByteArray) : Prop := ∃ l0 : List ByteArray, l0.Nodup ∧ (∀ t : ByteArray, t ∈ l0 ↔ IsT t.data.toList A B) ∧ l = sortB l0
def TwoPost (w : World) (A B : List UInt8) (e : Ending) (w' : World) : Prop :=
  ∃ v l, e = .returned (.tuple #[v, .int .i64 (dist A B)]) ∧ Own w' w.heap.size 79 v (l.map Value.string) ∧ Grow w w' ∧ TruthList A B l

set_option maxHeartbeats 1000000 in
set_option maxRecDepth 100000 in
theorem praces_any (a b : ByteArray) (hsa : a.size ≤ 6) (hsb : b.size ≤ 6) (P : Nat) (w : World) (ha : w.cell? ⟨P, 0, none⟩ = some (.string a)) (hb : w.cell? ⟨P, 1, none⟩ = some (.string b)) :
    Calls Try.prog 76 #[.pointer (some ⟨P, 0, none⟩)] w (TwoPost w a.data.toList b.data.toList) := by
  obtain ⟨i0, hi0, hi1, hi2, hi3⟩ := info_parts pinfo_race
  have hmf : ∀ (fn : Fn) (first cap : Array Value) (w : World), (Instr.makeFunc fn first cap).run Try.prog w = .ok (.func fn first cap) w := fun _ _ _ _ => rfl
  have hmm := @run_makeMap Try.prog
  have hlt := lt_of_cell ha
  go_enter Try.func76, Try.ntmps76
  go_wp2_with fail
  obtain ⟨W, hW⟩ : ∃ W, W = ((((w.alloc (.cells #[.pointer (some ⟨P, 0, none⟩)] 104)).alloc (.map #[] 0)).alloc (.cells #[.map (some (w.heap.size + 1))] 118)).alloc (.cells #[.func (.func 90) #[] #[.pointer (some ⟨w.heap.size, 0, none⟩), .pointer (some ⟨w.heap.size + 1 + 1, 0, none⟩), .pointer (some ⟨w.heap.size + 1 + 1 + 1, 0, none⟩)]] 119)) := ⟨_, rfl⟩
  have hgW : Grow w W := by rw [hW]; exact ((((Grow.refl w).alloc _).alloc _).alloc _).alloc _
  have hcp : W.cell? ⟨w.heap.size, 0, none⟩ = some (.pointer (some ⟨P, 0, none⟩)) := by rw [hW]; exact Grow.keepA (Grow.keepA (Grow.keepA (cell_new rfl rfl) _) _) _
  have hcs : W.cell? ⟨w.heap.size + 1 + 1, 0, none⟩ = some (.map (some (w.heap.size + 1))) := by rw [hW]; exact Grow.keepA (cell_new (by simp) rfl) _
  have hco : W.cell? ⟨w.heap.size + 1 + 1 + 1, 0, none⟩ = some (.func (.func 90) #[] #[.pointer (some ⟨w.heap.size, 0, none⟩), .pointer (some ⟨w.heap.size + 1 + 1, 0, none⟩), .pointer (some ⟨w.heap.size + 1 + 1 + 1, 0, none⟩)]) := by rw [hW]; exact cell_new (by simp) rfl
  have hmm1 : MapIs W (w.heap.size + 1) restV [] := by
    rw [hW]
    have := MapIs.made (w.alloc (.cells #[.pointer (some ⟨P, 0, none⟩)] 104)) restV
    rw [show (w.alloc (.cells #[.pointer (some ⟨P, 0, none⟩)] 104)).heap.size = w.heap.size + 1 by simp] at this
    exact (this.grow ((Grow.refl _).alloc _)).grow ((Grow.refl _).alloc _)
  rw [← hW]
  clear hW
  have hse0 : SeenOk W (w.heap.size + 1) (fun k => k = w.heap.size + 1) a.data.toList b.data.toList := ⟨rfl, [], hmm1, by simp⟩
  have hcall := praces1_any a b (by omega) (by omega) w.heap.size (w.heap.size + 1 + 1) (w.heap.size + 1 + 1 + 1) P (w.heap.size + 1) (a.size + b.size) 0 0 (by omega) (by omega) (by omega) _ W hcp hcs hco (hgW.keeps ha) (hgW.keeps hb) hse0 (fun k hk => by rw [hk]; exact hmm1.lt)
  rw [show ((0 : Nat) : Int) = 0 from rfl, List.drop_zero, List.drop_zero] at hcall
  have Hcall := Lib.hid hcall
  obtain ⟨d, hd⟩ : ∃ d : Nat, d = dist a.data.toList b.data.toList := ⟨_, rfl⟩
  have Hd := Lib.hid hd
  clear hcall hse0 hmm1 hd
  have hgb : ∀ w3, W.grownBy w3 (some (w.heap.size + 1)) → Grow w w3 := fun w3 h => Below.trans hgW (grownBy_below h (by intro k hk; injection hk with hk; omega) hgW.size)
  have Hgb := Lib.hid hgb
  clear hgb
  go_upto_region 6 with (go_at_call 90; refine Hcall.out.mono ?_; rintro e w3 ⟨v, rfl, ⟨kk, rfl, hkk, hset⟩, hse, hg3⟩; rw [← Hd.out])
  obtain ⟨lk, hlk, hlkm⟩ := hset
  obtain ⟨V, hV⟩ : ∃ V : World, V = w3.alloc (.cells #[.int .i64 d, .map (some kk)] 124) := ⟨_, rfl⟩
  have hg3V : Grow w3 V := by rw [hV]; exact (Grow.refl w3).alloc _
  have hV0 : V.cell? ⟨w3.heap.size, 0, none⟩ = some (.int .i64 d) := by rw [hV]; exact cell_new rfl rfl
  have hV1 : V.cell? ⟨w3.heap.size, 1, none⟩ = some (.map (some kk)) := by rw [hV]; exact cell_new rfl rfl
  have hgwV : Grow w V := (Hgb.out _ hg3).trans hg3V
  have hlkV := hlk.grow hg3V
  rw [← hV]
  clear hV
  obtain ⟨K0, hK0⟩ : ∃ K0, K0 = w3.heap.size := ⟨_, rfl⟩
  have hwK : w.heap.size ≤ K0 := by have := (Hgb.out _ hg3).size; omega
  rw [← hK0] at hV0 hV1 ⊢
  have HK0 := Lib.hid hK0
  have Hlkm := Lib.hid hlkm
  clear hK0 hlkm hse hg3 hlk
  go_wp2_with (at_range; refine wpl_range (ke := Value.string) rfl (.tmp 15) 122 rfl und_set kk lk rfl hlkV ?_; intro V6 hr6 hg6 hz6)
  have h60 := hg6.keeps hV0
  have h61 := hg6.keeps hV1
  have hg0 := hgwV.trans hg6
  have hlkn := hlkV.nodup
  obtain ⟨Rb, hRb⟩ : ∃ Rb, Rb = V.heap.size := ⟨_, rfl⟩
  rw [← hRb] at hr6 ⊢
  have HRb := Lib.hid hRb
  have hKR : K0 < Rb := by rw [hRb]; exact lt_of_cell hV0
  have hkR : kk < Rb := by rw [hRb]; exact hlkV.lt
  have hlk16 : lk.length ≤ 13841287201 := by
    have h1 : (lk.map (·.1)).Nodup := hlkn
    have h2 : ((lk.map (·.1)).map (·.data.toList)).Nodup := List.Pairwise.map _ (fun x y hxy e => hxy (by cases x; cases y; simp only at e; rw [Array.toList_inj.1 e])) h1
    have h3 := isT_few (A := a.data.toList) (B := b.data.toList) (n := 12) (by rw [size_list, size_list]; omega) _ h2 (fun t ht => by
      obtain ⟨r, hr, rfl⟩ := List.mem_map.1 ht
      exact (Hlkm.out r).1 hr)
    simpa using h3
  clear hV0 hV1 hg6 hz6 hRb hlkV
  have hwR : w.heap.size ≤ Rb := by have := HRb.out; have := hgwV.size; omega
  go_loopg [7] lk.length (fun gk s7 wr => ∃ (todo : List (ByteArray × Value)) (cur : Option (ByteArray × Value)) (u : Value) (l : List ByteArray), u = s7 ∧ gk = todo.length ∧ RangeIs wr Rb kk Value.string todo cur ∧ (l ++ todo.map (·.1)).Perm (lk.map (·.1)) ∧ Own wr w.heap.size 79 u (l.map Value.string) ∧ Grow w wr ∧ wr.cell? ⟨K0, 0, none⟩ = some (.int .i64 d) ∧ u.ownBlock ≠ some K0 ∧ u.ownBlock ≠ some Rb ∧ u.ownBlock ≠ some kk)
  case atStart => exact ⟨lk, none, .slice none 0 0, [], rfl, rfl, hr6, by simp, Own.nil _ _ _, hg0, h60, by simp [Value.ownBlock], by simp [Value.ownBlock], by simp [Value.ownBlock]⟩
  case round =>
    obtain ⟨todo, cur, u, l, rfl, rfl, hrg, hperm, hown, hgr, hk0, hu1, hu2, hu3⟩ := hrel
    have Hperm := Lib.hid hperm
    clear hperm
    go_wp2_with (at_next; refine wpl_step rfl (.tmp 16) rfl Rb kk todo cur rfl hrg ?_ ?_)
    · intro htodo
      subst htodo
      have hp : l.Perm (lk.map (·.1)) := by simpa using Hperm.out
      have hll : l.length ≤ 13841287201 := by have := hp.length_eq; simp at this; omega
      have Hp := Lib.hid hp
      have hub := hown.base
      clear hp
      go_wp2_with (go_at_call 92; refine (psort_any u l w.heap.size _ hown (by omega)).mono ?_; rintro e w8 ⟨rfl, hown8, hg8⟩; have h80 : w8.cell? ⟨K0, 0, none⟩ = some (.int .i64 d) := byCell1 hg8 hk0 hu1)
      have hG8 : Grow w w8 := Below.trans hgr (grownBy_below hg8 (fun k hk => hub k hk) hgr.size)
      go_quiet (fail)
      go_wp2_with fail
      go_ret2
      exact ⟨u, sortB l, by rw [← Hd.out]; rfl, hown8.grow ((Grow.refl _).drewN _), hG8.drewN _, l, (Hp.out.nodup_iff).2 hlkn, fun t => (Hp.out.mem_iff).trans (Hlkm.out t), rfl⟩
    · intro pre x vx post w1 htodo hr1 hg1 hz1 hent
      have Htodo := Lib.hid htodo
      have hll : l.length ≤ 13841287201 := by have := Hperm.out.length_eq; simp at this; omega
      have hown1 := hown.kept hg1 (.inr hu2)
      have hk1 : w1.cell? ⟨K0, 0, none⟩ = some (.int .i64 d) := byCell1 hg1 hk0 (by intro e; injection e with e; omega)
      have hG1 : Grow w w1 := Below.trans hgr (grownBy_below hg1 (by intro k hk; injection hk with hk; omega) hgr.size)
      have hb16 : ((l.map Value.string).length + [Value.string x].length) * 16 ≤ 140737488355328 := by simp; omega
      have hu : Try.prog.underlying 69 = some (.slice 79) := by kernel_rfl
      clear htodo hg1 hz1 hk0 hgr
      go_wp2_with (at_builtin; refine wpl_app rfl _ _ 69 rfl w.heap.size 79 i0 _ 16 hu hi0 hi1 hi2 hi3 rfl u (l.map Value.string) rfl (hown1.alloc _) _ _ [.string x] 1 rfl rfl (fun h => nomatch h) (row_new1 _ _ _ (by simp)) (by simp [Value.oneCell']) hb16 (by omega) (by have := hG1.size; simp; omega) ?_; intro v' w2 hown2 hgr2 hmv2)
      have hub := hown1.base
      have hk2 := byCell1 hgr2 (((Grow.refl w1).alloc (.cells #[.string x] 79)).keeps hk1) hu1
      have hr2 := (hr1.grow ((Grow.refl w1).alloc (.cells #[.string x] 79))).kept hgr2 hu2.symm hu3.symm
      have hG2 : Grow w w2 := Below.trans (hG1.alloc _) (grownBy_below hgr2 (fun k hk => hub k hk) (hG1.alloc _).size)
      have hlt1 := hr1.ltB.1
      have hltK := lt_of_cell hk1
      have hltR := hr1.lt
      have hm : ∀ k, k < w1.heap.size → u.ownBlock ≠ some k → v'.ownBlock ≠ some k := fun k hk hne => by
        rcases hmv2 with h | h
        · rw [h]; exact hne
        · intro e; have := h k e; simp at this; omega
      go_roundg (pre ++ post).length
      case rel =>
        refine ⟨pre ++ post, some (x, vx), v', l ++ [x], rfl, rfl, hr2, ?_, by rw [List.map_append]; exact hown2, hG2, hk2, hm _ hltK hu1, hm _ hltR hu2, hm _ hlt1 hu3⟩
        refine List.Perm.trans ?_ Hperm.out
        rw [Htodo.out]
        simp only [List.map_append, List.map_cons, List.append_assoc, List.singleton_append]
        exact List.Perm.append_left l List.perm_middle.symm
      case measure => rw [Htodo.out]; simp
end Go.Proofs.Yteijilbdllpbcaa
