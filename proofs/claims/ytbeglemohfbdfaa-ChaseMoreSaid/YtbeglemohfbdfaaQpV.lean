/- The program of layer 7: a copy of the clocks. Conditions: sizes. -/
import Derived.Test.YtbeglemohfbdfaaQpU
namespace Go.Proofs.Ytbeglemohfbdfaa
open Go.RowKit Go.Instr

/-- append of elements of three cells. -/
theorem wp_app3 {P : Program} {w : World} {o : Oper} {ac : Act} {K : Act → World → Prop} {Q : Exit → Act → World → Prop} (s x : Operand) (t : TypeId)
    (ho : o.op = .call { callee := .builtin .append, args := #[s, x], argTypes := #[t, t] })
    (base : Nat) (e : TypeId) (i : TypeInfo) (z : Value) (bytes : Nat) (ht : P.underlying t = some (.slice e)) (hi : P.info? e = some i) (hz : i.zero = some z)
    (hsize : i.size = 3) (hby : i.bytes = bytes) (hzs : z.cells.size = 3)
    (v : Value) (n : Nat) (xs : List Value) (hs : ac.eval s = v) (hown : w.ownsRow base e 3 v n xs) (g o0 c m : Nat) (news : List Value) (hx : ac.eval x = .slice (some ⟨g, o0, none⟩) m c) (hlen : news.length = m * 3)
    (hn : ∀ j u, news[j]? = some u → w.cell? ⟨g, o0 + j, none⟩ = some u) (h1 : ∀ u ∈ news, u.oneCell' = true)
    (hmax : n + m ≤ 1000) (hbytes : (n + m) * bytes ≤ 140737488355328) (hbase : base ≤ w.heap.size)
    (h : ∀ v' w', w'.ownsRow base e 3 v' (n + m) (xs ++ news) → w.grownBy w' v.ownBlock → K (ac.put o.dst v') w') : o.wp P ac w K Q := by
  have hnews : ∀ j u, news[j]? = some u → w.cell? ((⟨g, o0, none⟩ : Addr).add j) = some u := fun j u hu => by
    have e : (⟨g, o0, none⟩ : Addr).add j = ⟨g, o0 + j, none⟩ := by unfold Addr.add; split <;> simp_all
    rw [e]
    exact hn j u hu
  obtain ⟨v', w', hr, k2, k3, _, k5⟩ := run_append_own_at (P := P) (w := w) base t o.type e i z 3 bytes ht hi hz hsize hby hzs (by decide) v n xs hown ⟨g, o0, none⟩ m c news hlen hnews
    h1 (by simp only [maxLen]; omega) hbytes hbase
  unfold Oper.wp execOp
  simp only [ho, resolve, invoke, builtin, Sem.run_bind, Sem.run_pure, Result.andThen_ok, List.map_toArray, List.map_cons, List.map_nil, hs, hx, hr]
  exact h v' w' k2 k3
theorem wpl_app3 {P : Program} {w : World} {ops : Array Oper} {rest : List Oper} {o : Oper} {ac : Act} {Q : Exit → Act → World → Prop} (hgd : o.guard = none) (s x : Operand) (t : TypeId)
    (ho : o.op = .call { callee := .builtin .append, args := #[s, x], argTypes := #[t, t] })
    (base : Nat) (e : TypeId) (i : TypeInfo) (z : Value) (bytes : Nat) (ht : P.underlying t = some (.slice e)) (hi : P.info? e = some i) (hz : i.zero = some z)
    (hsize : i.size = 3) (hby : i.bytes = bytes) (hzs : z.cells.size = 3)
    (v : Value) (n : Nat) (xs : List Value) (hs : ac.eval s = v) (hown : w.ownsRow base e 3 v n xs) (g o0 c m : Nat) (news : List Value) (hx : ac.eval x = .slice (some ⟨g, o0, none⟩) m c) (hlen : news.length = m * 3)
    (hn : ∀ j u, news[j]? = some u → w.cell? ⟨g, o0 + j, none⟩ = some u) (h1 : ∀ u ∈ news, u.oneCell' = true)
    (hmax : n + m ≤ 1000) (hbytes : (n + m) * bytes ≤ 140737488355328) (hbase : base ≤ w.heap.size)
    (h : ∀ v' w', w'.ownsRow base e 3 v' (n + m) (xs ++ news) → w.grownBy w' v.ownBlock → wpList P ops Q rest (ac.put o.dst v') w') : wpList P ops Q (o :: rest) ac w := by
  refine wpList_plain hgd fun K' hK' => ?_
  exact wp_app3 s x t ho base e i z bytes ht hi hz hsize hby hzs v n xs hs hown g o0 c m news hx hlen hn h1 hmax hbytes hbase fun v' w' a b => hK' _ _ (h v' w' a b)
theorem cks_cells {w : World} {b o : Nat} {ks : List (Int × Int)} (h : CksAt w (some ⟨b, o, none⟩) ks) : ∀ j u, (ckCells 0 ks)[j]? = some u → w.cell? ⟨b, o + j, none⟩ = some u := by
  intro j u hu
  have hlen : (ckCells 0 ks).length = ks.length * 3 := ckCells_len 0 ks
  have hj : j < ks.length * 3 := by rw [← hlen]; exact (List.getElem?_eq_some_iff.1 hu).1
  obtain ⟨p, r, hr, rfl⟩ : ∃ p r, r < 3 ∧ j = p * 3 + r := ⟨j / 3, j % 3, Nat.mod_lt _ (by decide), by omega⟩
  have hp : p < ks.length := by omega
  have hk : ks[p]? = some ks[p] := List.getElem?_eq_getElem hp
  obtain ⟨b', o', e, m1, m2, m3⟩ := h p _ hk
  cases e
  obtain ⟨c1, c2, c3⟩ := ckCells_get 0 ks p _ hk
  have h3 : r = 0 ∨ r = 1 ∨ r = 2 := by omega
  rcases h3 with rfl | rfl | rfl
  · rw [Nat.add_zero] at hu ⊢
    rw [c1] at hu; cases hu; exact m1
  · rw [c2] at hu; cases hu; rw [← Nat.add_assoc]; exact m2
  · rw [c3] at hu; cases hu; rw [← Nat.add_assoc]; simpa using m3
theorem ckCells_one : ∀ (p : Nat) (ks : List (Int × Int)), ∀ u ∈ ckCells p ks, u.oneCell' = true
  | _, [], u, h => by cases h
  | p, k :: r, u, h => by
    simp only [ckCells, List.mem_cons] at h
    rcases h with rfl | rfl | rfl | h
    · rfl
    · rfl
    · rfl
    · exact ckCells_one _ _ u h
set_option maxRecDepth 100000 in
theorem pclone_any (b o cap : Nat) (ks : List (Int × Int)) (w : World) (h : CksAt w (some ⟨b, o, none⟩) ks) (hl : ks.length ≤ 6) (h0 : 0 < ks.length) :
    Calls Try.prog 72 #[.slice (some ⟨b, o, none⟩) ks.length cap] w fun e w' => ∃ v, e = .returned v ∧ w'.ownsRow w.heap.size 65 3 v ks.length (ckCells 0 ks) ∧ Grow w w' := by
  have H := Lib.hid h
  obtain ⟨i0, hi0, hi1, hi2, hi3⟩ := info_parts pinfo_clock
  have hu : Try.prog.underlying 66 = some (.slice 65) := by kernel_rfl
  clear h
  have hq : ∀ (b o n cap : Nat) (w : World), (binOp .eql 66 (.slice (some ⟨b, o, none⟩) n cap) (.slice none 0 0)).run Try.prog w = .ok (.bool false) w := fun _ _ _ _ _ => by kernel_rfl
  go_enter Try.func72, Try.ntmps72
  go_wp2_with (refine wpl_app3 rfl (.tmp 5) (.tmp 6) 66 rfl w.heap.size 65 i0 _ 24 hu hi0 hi1 hi2 hi3 rfl (.slice (some ⟨w.heap.size, 0, none⟩) 0 0) 0 [] (by rfl) ⟨rfl, .inr ⟨w.heap.size, 0, #[], rfl, Nat.le_refl _, heap_alloc_new w _, Nat.le_refl _, by simp [maxLen], rfl, rfl⟩⟩ b o cap ks.length (ckCells 0 ks) (by rfl) (ckCells_len 0 ks) (fun j u hu => ((Grow.refl w).alloc _).keeps (cks_cells H.out j u hu)) (ckCells_one 0 ks) (by omega) (by omega) (by simp) ?_; intro v' w' hown hg)
  go_ret
  rw [Nat.zero_add, List.nil_append] at hown
  refine ⟨_, rfl, hown, Below.trans ((Grow.refl w).alloc _) (grownBy_below hg (fun r e => by cases e; exact Nat.le_refl _) (by simp))⟩
end Go.Proofs.Ytbeglemohfbdfaa
