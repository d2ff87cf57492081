/- The reference of layer 7: truths, Truths, told. Conditions: a chase that is valid. -/
import Derived.Test.YtbeglemohfbdfaaGreatRfC
import Derived.Test.YtbeglemohfbdfaaGreatLwP
namespace Go.Proofs.YtbeglemohfbdfaaGreat
open Go.RowKit

/-- A slice of slices has been appended to. -/
def Sheets2 (w : World) (B : Nat) (ov : Value) (ls : List (List Int)) (e : Ending) (w' : World) : Prop :=
  ∃ ov' vs', e = .returned ov' ∧ Own w' B 38 ov' vs' ∧ Rows2 w' ov' vs' ls ∧ w.grownBy w' ov.ownBlock ∧ Moves w ov ov'
/-- The truths that go on from some times. -/
def goOn (E : Int) (ss : List (List Int)) (b : List Int) : List (List Int) := (prodL ((allT E ss).drop b.length)).map (b ++ ·)
def goTo (E : Int) (ss : List (List Int)) (b T : List Int) (k : Nat) : List (List Int) := (T.take k).flatMap fun t => goOn E ss (b ++ [t])
theorem goOn_done {E : Int} {ss : List (List Int)} {b : List Int} (h : b.length = ss.length) : goOn E ss b = [b] := by
  unfold goOn
  rw [List.drop_of_length_le (by simp [allT]; omega)]
  simp [prodL]
theorem goOn_step {E : Int} {ss : List (List Int)} {b l : List Int} (h : ss[b.length]? = some l) : goOn E ss b = goTo E ss b (timesL E l (2 ^ l.length - 1)) (timesL E l (2 ^ l.length - 1)).length := by
  have hx : (allT E ss)[b.length]? = some (timesL E l (2 ^ l.length - 1)) := by unfold allT; rw [List.getElem?_map, h]; rfl
  have hlt := (List.getElem?_eq_some_iff.1 hx).1
  have hd : (allT E ss).drop b.length = timesL E l (2 ^ l.length - 1) :: (allT E ss).drop (b.length + 1) := by
    rw [List.drop_eq_getElem_cons hlt]
    congr 1
    exact (List.getElem?_eq_some_iff.1 hx).2
  unfold goOn goTo
  rw [hd, prodL, List.take_length, List.map_flatMap]
  congr 1
  funext t
  unfold goOn
  rw [List.map_map, List.length_append, List.length_singleton]
  congr 1
  funext r
  simp
theorem goTo_succ {E : Int} {ss : List (List Int)} {b T : List Int} {k : Nat} {t : Int} (h : T[k]? = some t) : goTo E ss b T (k + 1) = goTo E ss b T k ++ goOn E ss (b ++ [t]) := by
  unfold goTo
  rw [take_get h, List.flatMap_append]
  simp
theorem goTo_le (E : Int) (ss : List (List Int)) (b T : List Int) {k m : Nat} (h : k ≤ m) : (goTo E ss b T k).length ≤ (goTo E ss b T m).length := by
  unfold goTo
  rw [show T.take m = T.take k ++ (T.take m).drop k by rw [show T.take k = (T.take m).take k by rw [List.take_take]; congr 1; omega, List.take_append_drop], List.flatMap_append, List.length_append]
  omega
set_option maxRecDepth 100000 in
set_option maxHeartbeats 2000000 in
theorem rtruths_any (E F : Int) (v : Value) (ss : List (List Int)) (hE : 0 ≤ E ∧ E ≤ 3) (hll : ∀ l ∈ ss, (1 ≤ l.length ∧ l.length ≤ 3) ∧ ∀ x ∈ l, 0 ≤ x ∧ x ≤ 200) (hs1000 : ss.length ≤ 1000) :
    ∀ (n : Nat) (b : List Int) (bv ov : Value) (vs : List Value) (ls : List (List Int)) (B : Nat) (w : World),
    b.length + n = ss.length → (∀ V, Below B w V → IsSheets V v ss) → IsInts w bv b → (b = [] ∨ bv.ownBlock ≠ ov.ownBlock) → (bv.ownBlock = none → ∃ n, bv = .slice none n 0) → Own w B 38 ov vs → Rows2 w ov vs ls → B ≤ w.heap.size → (ls.length + (goOn E ss b).length) * 24 ≤ 140737488355328 →
    Calls Tryz.prog 91 #[.agg #[.int .i64 E, .int .i64 F, v], bv, ov] w (Sheets2 w B ov (ls ++ goOn E ss b)) := by
  obtain ⟨i0, hi0, hi1, hi2, hi3⟩ := info_parts pinfo_ints7
  obtain ⟨j0, hj0, hj1, hj2, hj3⟩ := info_parts pinfo_int7
  have hu : Tryz.prog.underlying 22 = some (.slice 38) := by kernel_rfl
  have hu3 : Tryz.prog.underlying 38 = some (.slice 3) := by kernel_rfl
  have Hll := Lib.hid hll
  clear hll
  intro n
  induction n with
  | zero =>
    intro b bv ov vs ls B w hbn hV hb hap hnil hown hrows hB hsz
    have hl := hrows.1
    obtain ⟨sa, scap, rfl, _, _, _⟩ := hV w (Below.refl _ _)
    obtain ⟨a, cap, rfl, hcap, hlen, hrow⟩ := hb
    have hgo : Hid (goOn E ss b = [b]) := goOn_done (by omega)
    rw [hgo.out] at hsz
    simp only [List.length_singleton] at hsz
    have hbl : b.length = ss.length := by omega
    rw [hbl]
    have hbytes : (vs.length + [Value.slice a ss.length cap].length) * 24 ≤ 140737488355328 := by simp; omega
    have Hl := Lib.hid hl
    have Hbl := Lib.hid hbl
    clear hl hbn hV hbl
    go_enter Tryz.func91, Tryz.ntmps91
    go_wp2_with (at_builtin; refine wpl_app rfl _ _ 22 rfl B 38 i0 _ 24 hu hi0 hi1 hi2 hi3 rfl ov vs rfl ((hown.alloc _).alloc _) _ _ [.slice a ss.length cap] 1 rfl rfl (fun h => nomatch h) (row_new1 _ _ _ (by simp)) (by simp [Value.oneCell']) hbytes (by omega) (by simp; omega) ?_; intro v' w1 hown1 hgr1 hmv1)
    go_ret
    have hgr : w.grownBy w1 ov.ownBlock := (((Grow.refl w).alloc _).alloc _).andBy hgr1
    have hmv : Moves w ov v' := hmv1.lower (by simp; omega)
    rw [← Hbl.out] at hown1
    have hrows1 : Rows2 w1 v' (vs ++ [.slice a b.length cap]) (ls ++ [b]) := (hrows.kept hgr hmv).snoc (IsInts.kept ⟨a, cap, rfl, hcap, hlen, hrow⟩ hgr hap) (by
      rcases hap with h | h
      · exact .inl h
      · by_cases he : b = []
        · exact .inl he
        · obtain ⟨k, hk, hlt⟩ := IsInts.lt (w := w) ⟨a, cap, rfl, hcap, hlen, hrow⟩ he
          rcases hmv with hm | hm
          · rw [hm]; exact .inr h
          · exact .inr fun e => by have := hm k (by rw [← e]; exact hk); omega)
    exact ⟨_, _, rfl, hown1, by rw [hgo.out]; exact hrows1, hgr, hmv⟩
  | succ n ih =>
    intro b bv ov vs ls B w hbn hV hb hap hnil hown hrows hB hsz
    have Ih := Lib.hid ih
    clear ih
    have HV := Lib.hid hV
    obtain ⟨sa, scap, rfl, _, _, _⟩ := hV w (Below.refl _ _)
    obtain ⟨a, cap, rfl, hcap, hlen, hrow⟩ := hb
    have ha : a = none → cap = 0 := fun h => by subst h; obtain ⟨n, e⟩ := hnil rfl; cases e; rfl
    have hbl : b.length < ss.length := by omega
    obtain ⟨l, hlx⟩ : ∃ l, ss[b.length]? = some l := ⟨_, List.getElem?_eq_getElem hbl⟩
    have hl := Hll.out l (List.mem_of_getElem? hlx)
    have hgo := goOn_step (E := E) hlx
    have hT7 := times_len hE hl.1.1
    obtain ⟨T, hT⟩ : ∃ T, timesL E l (2 ^ l.length - 1) = T := ⟨_, rfl⟩
    rw [hT] at hgo hT7
    have hm : ((b.length : Int) == (ss.length : Int)) = false := by simp; omega
    have hm2 : (b.length == ss.length) = false := by simp; omega
    have hpow : 2 ^ l.length - 1 < 8 := by have := Nat.pow_le_pow_right (n := 2) (by decide) hl.1.2; omega
    rw [hgo] at hsz
    have HT := Lib.hid hT
    have Hgo := Lib.hid hgo
    have Hlx := Lib.hid hlx
    have Hl := Lib.hid hl
    have Hown := Lib.hid hown
    have Hrows := Lib.hid hrows
    obtain ⟨q, hq⟩ : ∃ q, 2 ^ l.length - 1 = q := ⟨_, rfl⟩
    rw [hq] at hpow
    have Hq := Lib.hid hq
    have Hbn := Lib.hid hbn
    clear hT hgo hlx hl hV hown hrows hq hbn
    go_enter Tryz.func91, Tryz.ntmps91
    go_upto_region 3 with fail
    have c0 : (w.alloc (.cells #[.int .i64 E, .int .i64 F, .slice sa ss.length scap] 24)).cell? ⟨w.heap.size, 0, none⟩ = some (.int .i64 E) := cell_new rfl rfl
    have c1 : (w.alloc (.cells #[.int .i64 E, .int .i64 F, .slice sa ss.length scap] 24)).cell? ⟨w.heap.size, 1, none⟩ = some (.int .i64 F) := cell_new rfl rfl
    have c2 : (w.alloc (.cells #[.int .i64 E, .int .i64 F, .slice sa ss.length scap] 24)).cell? ⟨w.heap.size, 2, none⟩ = some (.slice sa ss.length scap) := cell_new rfl rfl
    have gW : Grow w (w.alloc (.cells #[.int .i64 E, .int .i64 F, .slice sa ss.length scap] 24)) := (Grow.refl w).alloc _
    have sW : w.heap.size < (w.alloc (.cells #[.int .i64 E, .int .i64 F, .slice sa ss.length scap] 24)).heap.size := lt_of_cell c0
    obtain ⟨W, hW⟩ : ∃ z, w.alloc (.cells #[.int .i64 E, .int .i64 F, .slice sa ss.length scap] 24) = z := ⟨_, rfl⟩
    rw [hW] at c0 c1 c2 gW sW
    rw [hW]
    clear hW
    have gB : Below B w W := gW.mono hB
    (refine wp_region_held_drew (S := fun Wx => Grow W Wx ∧ Wx.cell? ⟨w.heap.size, 0, none⟩ = some (.int .i64 E) ∧ Wx.cell? ⟨w.heap.size, 1, none⟩ = some (.int .i64 F) ∧ Wx.cell? ⟨w.heap.size, 2, none⟩ = some (.slice sa ss.length scap)) (by kernel_rfl) ⟨(Below.refl _ _).drew, Grow.keeps (Below.refl _ _).drew (by assumption), Grow.keeps (Below.refl _ _).drew (by assumption), Grow.keeps (Below.refl _ _).drew (by assumption)⟩ (fun hHeld => ?_); refine wpAnyH_take (i := 0) (oi := _) (v := ?_) rfl (by kernel_rfl) (by kernel_rfl) (by kernel_rfl) (fun _ _ _ h => h) (Or.inl ⟨by rfl, ?_⟩) (by assumption) ?_; rotate_left; (focus (intro w hSw; (try dsimp only at hSw); go_simp; (try with_reducible rfl))); (try simp only [Act.put, List.setIfInBounds_toArray, List.set_cons_zero, List.set_cons_succ, List.getElem_toArray, List.getElem_cons_zero]); refine wpAnyH_take (i := 1) (oi := _) (v := ?_) rfl (by kernel_rfl) (by kernel_rfl) (by kernel_rfl) (fun _ _ _ h => h) (Or.inl ⟨by rfl, ?_⟩) (by assumption) ?_; rotate_left; (focus (intro w hSw; (try dsimp only at hSw); go_simp; (try with_reducible rfl))); (try simp only [Act.put, List.setIfInBounds_toArray, List.set_cons_zero, List.set_cons_succ, List.getElem_toArray, List.getElem_cons_zero, List.getElem_cons_succ]); refine wpAnyH_take (i := 2) (oi := _) (v := ?_) rfl (by kernel_rfl) (by kernel_rfl) (by kernel_rfl) (fun _ _ _ h => h) (Or.inl ⟨by rfl, ?_⟩) (by assumption) ?_; rotate_left; (focus (intro w hSw; (try dsimp only at hSw); go_simp; (try with_reducible rfl))); (try simp only [Act.put, List.setIfInBounds_toArray, List.set_cons_zero, List.set_cons_succ, List.getElem_toArray, List.getElem_cons_zero, List.getElem_cons_succ]); refine wpAnyH_take (i := 3) (oi := _) (v := ?_) rfl (by kernel_rfl) (by kernel_rfl) (by kernel_rfl) (fun _ _ _ h => h) (Or.inl ⟨by rfl, ?_⟩) (by assumption) ?_; rotate_left; (focus (intro w hSw; (try dsimp only at hSw); go_simp; (try with_reducible rfl))); (try simp only [Act.put, List.setIfInBounds_toArray, List.set_cons_zero, List.set_cons_succ, List.getElem_toArray, List.getElem_cons_zero, List.getElem_cons_succ]); refine wpAnyH_take (i := 4) (oi := _) (v := ?_) rfl (by kernel_rfl) (by kernel_rfl) (by kernel_rfl) (fun _ _ _ h => h) (Or.inl ⟨by rfl, ?_⟩) (by assumption) ?_; rotate_left; (focus (intro w hSw; (try dsimp only at hSw); go_simp; (try with_reducible rfl))); (try simp only [Act.put, List.setIfInBounds_toArray, List.set_cons_zero, List.set_cons_succ, List.getElem_toArray, List.getElem_cons_zero, List.getElem_cons_succ]); refine wpAnyH_take (i := 5) (oi := _) (v := ?_) rfl (by kernel_rfl) (by kernel_rfl) (by kernel_rfl) (fun _ _ _ h => h) (Or.inl ⟨by rfl, ?_⟩) (by assumption) ?_; rotate_left; (focus (intro w hSw; (try dsimp only at hSw); go_simp; (try with_reducible rfl))); (try simp only [Act.put, List.setIfInBounds_toArray, List.set_cons_zero, List.set_cons_succ, List.getElem_toArray, List.getElem_cons_zero, List.getElem_cons_succ]); refine wpAnyH_ready (rs := [6]) (by kernel_rfl) (by simp) ?_; refine AllReadyH.cons (o := _) rfl (fun K hK => ?_) AllReadyH.nil; (try simp only [List.getElem_toArray, List.getElem_cons_zero, List.getElem_cons_succ]); go_simp; (first | (go_at_call 44; refine (revery_any E F _ ss b.length l _ (HV.out _ (gB.trans (Below.mono (by first | assumption | (go_split_ands; assumption) | exact (Grow.refl _).drew) (Nat.le_trans hB gW.size)))) Hlx.out Hl.out.1.2).mono ?_; rw [Hq.out]; rintro e w98 ⟨rfl, g98⟩) | (go_at_call 46; refine (rtimes_any E F _ ss b.length l q _ (HV.out _ (gB.trans (Below.mono (by first | assumption | (go_split_ands; assumption) | exact (Grow.refl _).drew) (Nat.le_trans hB gW.size)))) Hlx.out Hl.out.1.2 hE Hl.out.2 hpow).mono ?_; rintro e w99 ⟨tv, rfl, hto, g99⟩)); (try (go_wp2_with fail)); refine hK.out _ _ ?_ (fun hHeld => ?_); (focus ((try dsimp only); refine (fun (hG : Grow W _) => ⟨hG, Grow.keeps hG (by assumption), Grow.keeps hG (by assumption), Grow.keeps hG (by assumption)⟩) ?_; (try go_split_ands); first | assumption | exact Grow.trans (by assumption) (by assumption) | exact Below.trans (by assumption) (by assumption))); clear hK K; (try simp only [Act.put, List.setIfInBounds_toArray, List.set_cons_zero, List.set_cons_succ, List.getElem_toArray, List.getElem_cons_zero, List.getElem_cons_succ]); refine wpAnyH_ready (rs := [7]) (by kernel_rfl) (by simp) ?_; refine AllReadyH.cons (o := _) rfl (fun K hK => ?_) AllReadyH.nil; (try simp only [List.getElem_toArray, List.getElem_cons_zero, List.getElem_cons_succ]); go_simp; (first | (go_at_call 44; refine (revery_any E F _ ss b.length l _ (HV.out _ (gB.trans (Below.mono (by first | assumption | (go_split_ands; assumption) | exact (Grow.refl _).drew) (Nat.le_trans hB gW.size)))) Hlx.out Hl.out.1.2).mono ?_; rw [Hq.out]; rintro e w98 ⟨rfl, g98⟩) | (go_at_call 46; refine (rtimes_any E F _ ss b.length l q _ (HV.out _ (gB.trans (Below.mono (by first | assumption | (go_split_ands; assumption) | exact (Grow.refl _).drew) (Nat.le_trans hB gW.size)))) Hlx.out Hl.out.1.2 hE Hl.out.2 hpow).mono ?_; rintro e w99 ⟨tv, rfl, hto, g99⟩)); (try (go_wp2_with fail)); refine hK.out _ _ ?_ (fun hHeld => ?_); (focus ((try dsimp only); refine (fun (hG : Grow W _) => ⟨hG, Grow.keeps hG (by assumption), Grow.keeps hG (by assumption), Grow.keeps hG (by assumption)⟩) ?_; (try go_split_ands); first | assumption | exact Grow.trans (by assumption) (by assumption) | exact Below.trans (by assumption) (by assumption))); clear hK K; (try simp only [Act.put, List.setIfInBounds_toArray, List.set_cons_zero, List.set_cons_succ, List.getElem_toArray, List.getElem_cons_zero, List.getElem_cons_succ]); refine wpAnyH_take (i := 8) (oi := _) (v := ?_) rfl (by kernel_rfl) (by kernel_rfl) (by kernel_rfl) (fun _ _ _ h => h) (Or.inl ⟨by rfl, ?_⟩) (by assumption) ?_; rotate_left; (focus (intro w hSw; (try dsimp only at hSw); go_simp; (try with_reducible rfl))); (try simp only [Act.put, List.setIfInBounds_toArray, List.set_cons_zero, List.set_cons_succ, List.getElem_toArray, List.getElem_cons_zero, List.getElem_cons_succ]); refine wpAnyH_done (by kernel_rfl) ?_ _)
    have G3 : Grow W w99 := hHeld.1
    have d0 := hHeld.2.1
    have d1 := hHeld.2.2.1
    have d2 := hHeld.2.2.2
    rw [← Hq.out, HT.out] at hto
    have hti := hto.ints (by omega)
    have htb : ∀ k, tv.ownBlock = some k → w.heap.size < k := fun k hk => by have := hto.base k hk; have := hHeld.1.size; have := g98.size; simp at *; omega
    obtain ⟨ta, tc, rfl, _, _, _⟩ := id hti
    have hown1 := Hown.out.grow (gW.trans G3)
    have hrows1 := Hrows.out.grow (gW.trans G3)
    have hgr1 : w.grownBy w99 ov.ownBlock := (gW.trans G3).grownBy _
    have hovl : ∀ k, ov.ownBlock = some k → B ≤ k ∧ k < w.heap.size := fun k hk => Hown.out.lt k hk
    have Hto := Lib.hid hti
    have Htb := Lib.hid htb
    have Hovl := Lib.hid hovl
    have Hown1 := Lib.hid hown1
    have Hrows1 := Lib.hid hrows1
    have hl99 := lt_of_cell d0
    clear hto hti hHeld htb hovl hown1 hrows1 c0 c1 c2 gB
    go_wp2_with fail
    go_loopw [2, 8] (fun u i wr => ∃ (k : Nat) (vsk : List Value) (o : Value), o = u ∧ k ≤ T.length ∧ i = .int .i64 k ∧ Own wr B 38 o vsk ∧ Rows2 wr o vsk (ls ++ goTo E ss b T k) ∧ w.grownBy wr ov.ownBlock ∧ Moves w ov o ∧ o.ownBlock ≠ some w.heap.size ∧ (∀ j, (Value.slice ta T.length tc).ownBlock = some j → o.ownBlock ≠ some j) ∧ IsInts wr (.slice ta T.length tc) T ∧ wr.cell? ⟨w.heap.size, 0, none⟩ = some (.int .i64 E) ∧ wr.cell? ⟨w.heap.size, 1, none⟩ = some (.int .i64 F) ∧ wr.cell? ⟨w.heap.size, 2, none⟩ = some (.slice sa ss.length scap)) (fun _ i _ => T.length - (intOf i).toNat)
    case atStart =>
      refine ⟨0, vs, _, rfl, Nat.zero_le _, rfl, Hown1.out, by simpa [goTo] using Hrows1.out, hgr1, Moves.refl _ _, fun e => ?_, fun j hj e => ?_, Hto.out, d0, d1, d2⟩
      · have := (Hovl.out _ e).2
        omega
      · have := (Hovl.out _ e).2
        have := Htb.out _ hj
        omega
    case round =>
      obtain ⟨k, vsk, ok, rfl, hk, rfl, hownk, hrowsk, hgrk, hmvk, hnmk, hntk, hitk, e0, e1, e2⟩ := hrel
      have Hownk := Lib.hid hownk
      have Hrowsk := Lib.hid hrowsk
      have Hgrk := Lib.hid hgrk
      have Hmvk := Lib.hid hmvk
      have Hitk := Lib.hid hitk
      have Hntk := Lib.hid hntk
      have hBw : Below B w wr := grownBy_below hgrk (fun j hj => (Hovl.out j hj).1) hB
      have HBw := Lib.hid hBw
      have hnv : vsk.length = (ls ++ goTo E ss b T k).length := hrowsk.1
      have Hnv := Lib.hid hnv
      clear hownk hrowsk hgrk hmvk hitk hntk hnv
      by_cases hlt : k < T.length
      · obtain ⟨_, _, et, _, _, hrt⟩ := Hitk.out
        obtain ⟨tb, tq, x, hx, hta, hcx⟩ := hrt.int hlt
        cases et
        subst hta
        have hnt : ok.ownBlock ≠ some tb := Hntk.out tb rfl
        have hkI : (k : Int) < T.length := by omega
        have hbk : IsInts wr (.slice a b.length cap) b := IsInts.kept ⟨a, cap, rfl, hcap, hlen, hrow⟩ Hgrk.out hap
        have hrb : RowAt wr a (b.map (Value.int .i64)) := by obtain ⟨_, _, e, _, _, r⟩ := hbk; cases e; exact r
        have ha0 : a = none → cap = 0 := ha
        have hkb : (([] : List Value).length + (b.map (Value.int .i64)).length) * 8 ≤ 140737488355328 := by simp; omega
        have hkb2 : ((b.map (Value.int .i64)).length + [Value.int .i64 x].length) * 8 ≤ 140737488355328 := by simp; omega
        have hlen1 : Hid ((b ++ [x]).length + n = ss.length) := by show _ = _; have := Hbn.out; simp; omega
        have hlen2 : (b ++ [x]).length * 8 ≤ 140737488355328 := by simp; omega
        have hsucc := goTo_succ (E := E) (ss := ss) (b := b) hx
        have hle := goTo_le E ss b T (Nat.succ_le_of_lt hlt)
        rw [hsucc, List.length_append] at hle
        have hIs : Hid (((ls ++ goTo E ss b T k).length + (goOn E ss (b ++ [x])).length) * 24 ≤ 140737488355328) := by show _ ≤ _; simp; omega
        have hmap : Hid (b.map (Value.int .i64) ++ [Value.int .i64 x] = (b ++ [x]).map (Value.int .i64)) := by show _ = _; simp
        have hBk : Hid (B ≤ wr.heap.size) := Nat.le_trans hB Hgrk.out.size
        have Hsucc := Lib.hid hsucc
        have Hx := Lib.hid hx
        have Hrt := Lib.hid hrt
        have hlr := lt_of_cell e0
        clear hx hle hsucc hrt hbk
        go_upto_region 7 with fail
        go_region_held3 (fun Wx => wr.grownBy Wx ok.ownBlock ∧ Wx.cell? ⟨w.heap.size, 0, none⟩ = some (.int .i64 E) ∧ Wx.cell? ⟨w.heap.size, 1, none⟩ = some (.int .i64 F) ∧ Wx.cell? ⟨w.heap.size, 2, none⟩ = some (.slice sa ss.length scap) ∧ Wx.cell? ⟨tb, tq + k, none⟩ = some (.int .i64 x)) ((refine (fun (hG : wr.grownBy _ ok.ownBlock) => ⟨hG, byCell1 hG (by assumption) (by first | assumption | (intro e; injection e with e; omega)), byCell1 hG (by assumption) (by first | assumption | (intro e; injection e with e; omega)), byCell1 hG (by assumption) (by first | assumption | (intro e; injection e with e; omega)), byCell1 hG (by assumption) (by first | assumption | (intro e; injection e with e; omega))⟩) ?_; (try go_split_ands); first | exact byDrew _ _ | exact byAlloc (by assumption) _ | exact byBy (by assumption) (by assumption) | exact byThen (by assumption) (by assumption) | exact byBelow (by assumption) (by assumption) | ((repeat (first | assumption | refine byStore ?_ _ _ | refine byAlloc ?_ _)); done))) ((first | (rw [if_pos (by rfl)]; refine wp_app (.tmp 34) (.tmp 35) 38 rfl wr.heap.size 3 j0 _ 8 hu3 hj0 hj1 hj2 hj3 rfl (.slice (some ⟨_, 0, none⟩) 0 0) [] rfl (by first | exact (Own.new0 (by first | exact Nat.le_refl _ | (simp <;> omega)) (by simp)).drew | exact ((Own.new0 (by first | exact Nat.le_refl _ | (simp <;> omega)) (by simp)).alloc _).drew) a cap (b.map (Value.int .i64)) _ rfl (by simp) ha0 (by first | exact hrb.grow ((Grow.refl _).alloc _).drew | exact hrb.grow (((Grow.refl _).alloc _).alloc _).drew) (by simp [Value.oneCell']) hkb (by omega) (by simp <;> omega) ?_; intro v2 w2 hown2 hgr2 hmv2; have hbl2 := grownBy_below hgr2 (B := wr.heap.size) (by simp [Value.ownBlock]) (by simp <;> omega); have hG2 : Grow wr w2 := by first | exact Below.trans ((Grow.refl _).alloc _).drew hbl2 | exact Below.trans (((Grow.refl _).alloc _).alloc _).drew hbl2) | (rw [if_pos (by rfl)]; refine wp_app (.tmp 36) (.tmp 41) 38 rfl wr.heap.size 3 j0 _ 8 hu3 hj0 hj1 hj2 hj3 rfl v2 (b.map (Value.int .i64)) rfl (by first | exact hown2 | exact hown2.alloc _) _ 1 [.int .i64 x] _ rfl (by simp) (fun h => nomatch h) (by first | exact row_new1 _ _ _ (by simp) | exact ((row_new1 _ _ _ (by simp)).grow (Grow.refl _).drew).kept hgr2 (by simp [Value.ownBlock]) | exact ((row_new1 _ _ _ (by simp)).grow ((Grow.refl _).alloc _).drew).kept hgr2 (by simp [Value.ownBlock])) (by simp [Value.oneCell']) hkb2 (by omega) (by first | exact hG2.size | exact (hG2.alloc _).size) ?_; intro v3 w3 hown3 hgr3 hmv3; have hbl3 := grownBy_below hgr3 (B := wr.heap.size) (fun k h => hown2.base k h) (by first | exact hG2.size | exact (hG2.alloc _).size); have hG3 : Grow wr w3 := by first | exact Below.trans hG2 hbl3 | exact Below.trans (hG2.alloc _) hbl3) | (go_at_call 91; refine (Ih.out (b ++ [x]) v3 ok vsk (ls ++ goTo E ss b T k) B _ hlen1.out (fun V h => HV.out V ((HBw.out.trans (hG3.mono hBk.out)).trans h)) ((hmap.out ▸ hown3).ints hlen2) (Or.inr (Hownk.out.apart (Nat.le_refl _) hown3 (by simp))) (hown3.nilCap (by simp)) (Hownk.out.grow hG3) (Hrowsk.out.grow hG3) (Nat.le_trans hBk.out hG3.size) hIs.out).mono ?_; rintro e w4 ⟨ov4, vs4, rfl, hown4, hrows4, hgr4, hmv4⟩)))
        all_goals
          rename_i hH
          have hlt3 := lt_of_cell e0
          have hs3 := hG3.size
          have hin4 : IsInts w4 (.slice (some ⟨tb, tq, none⟩) T.length tc) T := Hitk.out.kept hH.1 (.inr fun e => hnt e.symm)
          have hn4 : ∀ j, j < wr.heap.size → ok.ownBlock ≠ some j → ov4.ownBlock ≠ some j := fun j hj hne e => by
            rcases hmv4 with h | h
            · exact hne (h.symm.trans e)
            · have := h _ e
              omega
          have hltb := lt_of_cell hcx
          have Hn4 := Lib.hid hn4
          have Hin4 := Lib.hid hin4
          clear hn4 hin4
          go_wp2_with fail
          refine ⟨⟨k + 1, vs4, ov4, rfl, by omega, by go_num, hown4, by rw [Hsucc.out, ← List.append_assoc]; exact hrows4, grownBy_trans Hgrk.out Hmvk.out hH.1, Hmvk.out.trans hmv4 (by have := Hgrk.out.size; omega), Hn4.out _ hlt3 hnmk, fun j hj => ?_, Hin4.out, hH.2.1, hH.2.2.1, hH.2.2.2.1⟩, by simp [intOf]; omega⟩
          have hj' : tb = j := by simpa [Value.ownBlock] using hj
          rw [← hj']
          exact Hn4.out _ hltb hnt
      · obtain rfl : k = T.length := by omega
        go_wp2_with fail
        go_ret
        exact ⟨_, _, rfl, Hownk.out, by rw [Hgo.out]; exact Hrowsk.out, Hgrk.out, Hmvk.out⟩
end Go.Proofs.YtbeglemohfbdfaaGreat
