/- The laws of layer 7: long; what the program's functions answer for a chase that is valid and has a truth; appending elements of some cells. Conditions: sizes. -/
import Derived.Test.YtbeglemohfbdfaaLwB
import Derived.Test.YtbeglemohfbdfaaCpE
namespace Go.Proofs.Ytbeglemohfbdfaa
open Go.RowKit

/-- append of elements of some cells. -/
theorem wp_appn {P : Program} {w : World} {o : Oper} {ac : Act} {K : Act → World → Prop} {Q : Exit → Act → World → Prop} (size : Nat) (s x : Operand) (t : TypeId)
    (ho : o.op = .call { callee := .builtin .append, args := #[s, x], argTypes := #[t, t] })
    (base : Nat) (e : TypeId) (i : TypeInfo) (z : Value) (bytes : Nat) (ht : P.underlying t = some (.slice e)) (hi : P.info? e = some i) (hz : i.zero = some z)
    (hsize : i.size = size) (hby : i.bytes = bytes) (hzs : z.cells.size = size) (h0 : 0 < size)
    (v : Value) (n : Nat) (xs : List Value) (hs : ac.eval s = v) (hown : w.ownsRow base e size v n xs) (g o0 c m : Nat) (news : List Value) (hx : ac.eval x = .slice (some ⟨g, o0, none⟩) m c) (hlen : news.length = m * size)
    (hn : ∀ j u, news[j]? = some u → w.cell? ⟨g, o0 + j, none⟩ = some u) (h1 : ∀ u ∈ news, u.oneCell' = true)
    (hmax : n + m ≤ 1000) (hbytes : (n + m) * bytes ≤ 140737488355328) (hbase : base ≤ w.heap.size)
    (h : ∀ v' w', w'.ownsRow base e size v' (n + m) (xs ++ news) → w.grownBy w' v.ownBlock → Moves w v v' → K (ac.put o.dst v') w') : o.wp P ac w K Q := by
  have hnews : ∀ j u, news[j]? = some u → w.cell? ((⟨g, o0, none⟩ : Addr).add j) = some u := fun j u hu => by
    have e : (⟨g, o0, none⟩ : Addr).add j = ⟨g, o0 + j, none⟩ := by unfold Addr.add; split <;> simp_all
    rw [e]
    exact hn j u hu
  obtain ⟨v', w', hr, k2, k3, _, k5⟩ := run_append_own_at (P := P) (w := w) base t o.type e i z size bytes ht hi hz hsize hby hzs h0 v n xs hown ⟨g, o0, none⟩ m c news hlen hnews
    h1 (by simp only [maxLen]; omega) hbytes hbase
  unfold Oper.wp execOp
  simp only [ho, resolve, invoke, builtin, Sem.run_bind, Sem.run_pure, Result.andThen_ok, List.map_toArray, List.map_cons, List.map_nil, hs, hx, hr]
  exact h v' w' k2 k3 (k5.imp id fun e k hk => by rw [e] at hk; injection hk with hk; omega)
theorem wpl_appn {P : Program} {w : World} {ops : Array Oper} {rest : List Oper} {o : Oper} {ac : Act} {Q : Exit → Act → World → Prop} (size : Nat) (hgd : o.guard = none) (s x : Operand) (t : TypeId)
    (ho : o.op = .call { callee := .builtin .append, args := #[s, x], argTypes := #[t, t] })
    (base : Nat) (e : TypeId) (i : TypeInfo) (z : Value) (bytes : Nat) (ht : P.underlying t = some (.slice e)) (hi : P.info? e = some i) (hz : i.zero = some z)
    (hsize : i.size = size) (hby : i.bytes = bytes) (hzs : z.cells.size = size) (h0 : 0 < size)
    (v : Value) (n : Nat) (xs : List Value) (hs : ac.eval s = v) (hown : w.ownsRow base e size v n xs) (g o0 c m : Nat) (news : List Value) (hx : ac.eval x = .slice (some ⟨g, o0, none⟩) m c) (hlen : news.length = m * size)
    (hn : ∀ j u, news[j]? = some u → w.cell? ⟨g, o0 + j, none⟩ = some u) (h1 : ∀ u ∈ news, u.oneCell' = true)
    (hmax : n + m ≤ 1000) (hbytes : (n + m) * bytes ≤ 140737488355328) (hbase : base ≤ w.heap.size)
    (h : ∀ v' w', w'.ownsRow base e size v' (n + m) (xs ++ news) → w.grownBy w' v.ownBlock → Moves w v v' → wpList P ops Q rest (ac.put o.dst v') w') : wpList P ops Q (o :: rest) ac w :=
  wpList_plain hgd fun _ hK => wp_appn size s x t ho base e i z bytes ht hi hz hsize hby hzs h0 v n xs hs hown g o0 c m news hx hlen hn h1 hmax hbytes hbase fun v' w' a b m => hK _ _ (h v' w' a b m)
/-- Some answer. -/
def SomeB (w : World) (e : Ending) (w' : World) : Prop := (∃ b, e = .returned (.bool b)) ∧ Grow w w'
set_option maxRecDepth 100000 in
theorem llong_any (E F : Int) (v : Value) (ss : List (List Int)) (w : World) (hv : IsSheets w v ss) :
    Calls Try.prog 28 #[.agg #[.int .i64 E, .int .i64 F, v]] w (SomeB w) := by
  obtain ⟨a, cap, rfl, hcap, hlen, hrow⟩ := hv
  have Hrow := Lib.hid hrow
  clear hrow
  go_enter Try.func28, Try.ntmps28
  go_wp2_with fail
  have hgw : Grow w (w.alloc (.cells #[.int .i64 E, .int .i64 F, .slice a ss.length cap] 32)) := (Grow.refl w).alloc _
  obtain ⟨W, hW⟩ : ∃ z, w.alloc (.cells #[.int .i64 E, .int .i64 F, .slice a ss.length cap] 32) = z := ⟨_, rfl⟩
  rw [hW] at hgw
  rw [hW]
  clear hW
  go_loop [3, 12] (fun m i => ∃ (k : Nat) (x : Int), k ≤ ss.length ∧ i = .int .i64 k ∧ m = .int .i64 x) (fun _ i => ss.length - (intOf i).toNat)
  case atStart => exact ⟨0, _, Nat.zero_le _, rfl, rfl⟩
  case round =>
    obtain ⟨k, x, hk, rfl, rfl⟩ := hrel
    by_cases hlt : k < ss.length
    · obtain ⟨b, o, s, ta, tc, _, rfl, hc, _, _, _⟩ := Hrow.out.get hlt
      have hc' := hgw.keeps hc
      clear hc
      go_wp2_with fail
      exact ⟨⟨k + 1, _, by omega, by go_num, rfl⟩, by simp [intOf]; omega⟩
    · go_wp2_with fail
      go_ret
      exact ⟨⟨_, rfl⟩, hgw⟩
/-- What is told of a chase that is valid and has a truth. -/
structure Told (E F : Int) (ss : List (List Int)) (k : Nat) : Prop where
  err : errOf E F ss (inB k 0 (ss.length - 1)) = 0
  time : timeV E F ss k = (lo (clocksOf E ss) k, hi (clocksOf E ss) k)
  place : placeV E F ss k = ((placeLo (clocksOf E ss) k : Int), (placeHi (clocksOf E ss) k : Int))
  final : finalE E F ss k = finalP (clocksOf E ss) F k
theorem errOf_ok {E F : Int} {ss : List (List Int)} {ok : Bool} (hv : validB E F ss = true) (hf : feasB (clocksOf E ss) = true) (ho : ok = true) : errOf E F ss ok = 0 := by
  unfold errOf
  rw [hv, ho, hf]
  rfl
theorem errOf_no {E F : Int} {ss : List (List Int)} {ok : Bool} (hv : validB E F ss = true) (hf : feasB (clocksOf E ss) = false) (ho : ok = true) : errOf E F ss ok = 10 := by
  unfold errOf
  rw [hv, ho, hf]
  rfl
theorem told_at {E F : Int} {ss : List (List Int)} {k : Nat} (hv : validB E F ss = true) (hf : feasB (clocksOf E ss) = true) (hk : k < ss.length) : Told E F ss k := by
  have he := errOf_ok hv hf (inB_true.2 (show (0 : Int) ≤ (k : Int) ∧ (k : Int) ≤ (ss.length : Int) - 1 by omega))
  refine ⟨he, ?_, ?_, ?_⟩
  · unfold timeV; rw [if_pos he, Int.toNat_natCast]
  · unfold placeV; rw [if_pos he, Int.toNat_natCast]
  · unfold finalE; rw [if_pos he, Int.toNat_natCast]
    exact finalV_eq (clocks_nonneg E ss) (feasB_iff.1 hf) (by rw [clocks_len]; exact hk)
theorem clash_at {E F : Int} {ss : List (List Int)} {k : Nat} (hv : validB E F ss = true) (hf : feasB (clocksOf E ss) = false) (hk : k < ss.length) : errOf E F ss (inB k 0 (ss.length - 1)) = 10 :=
  errOf_no hv hf (inB_true.2 (show (0 : Int) ≤ (k : Int) ∧ (k : Int) ≤ (ss.length : Int) - 1 by omega))
end Go.Proofs.Ytbeglemohfbdfaa
