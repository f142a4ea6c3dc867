/- A byte slice that is cut and appended to: append's law for it. -/
import Derived.Test.YthnbnckmeffkmaaGreatG06
import Derived.Deep.AppendSrc
import Derived.Deep.Upon
import Derived.Lib.SlFresh
import Derived.Test.YthnbnckmeffkmaaGreatG04
import Derived.OrdersHeld
import Derived.StillTail
import Derived.Deep.MidRow
namespace Go.Proofs.YthnbnckmeffkmaaGreat
open Go.RowKit Go.Lib
set_option linter.unusedVariables false
set_option linter.unusedSimpArgs false

/-- What is left: nil; or a piece of a block of the call's own. -/
def Lft (w : World) (base : Nat) (v : Value) (L : List Nat) : Prop :=
  (∀ x ∈ L, x < 256) ∧ ((v = .slice none 0 0 ∧ L = []) ∨ ∃ g off cap cur, v = .slice (some ⟨g, off, none⟩) L.length cap ∧ base ≤ g ∧ w.heap[g]? = some (.cells cur 5 (0, 0)) ∧ L.length ≤ cap ∧ cap ≤ maxLen ∧ off + cap ≤ cur.size ∧
    ∀ j, j < L.length → cur[off + j]? = some (.int .u8 (L.getD j 0 : Nat)))
theorem Lft.nil (w : World) (base : Nat) : Lft w base (.slice none 0 0) [] := ⟨(fun _ h => by cases h), .inl ⟨rfl, rfl⟩⟩
theorem Lft.byts {w : World} {base : Nat} {v : Value} {L : List Nat} (h : Lft w base v L) : Byts w v L := by
  refine ⟨h.1, ?_⟩
  rcases h.2 with h1 | ⟨g, off, cap, cur, rfl, h2, h3, h4, h5, h6, h7⟩
  · exact .inl h1
  · refine .inr ⟨_, cap, rfl, h4, h5, fun j hj => ?_⟩
    rw [Addr.add_lit, cell_of_row w g (off + j) cur _ _ h3]
    exact h7 j hj
theorem Lft.keep {w w' : World} {base : Nat} {v : Value} {L : List Nat} (h : Lft w base v L) (hk : ∀ g, base ≤ g → g < w.heap.size → w'.heap[g]? = w.heap[g]?) : Lft w' base v L := by
  refine ⟨h.1, h.2.imp id ?_⟩
  rintro ⟨g, off, cap, cur, h1, h2, h3, h4, h5, h6, h7⟩
  refine ⟨g, off, cap, cur, h1, h2, ?_, h4, h5, h6, h7⟩
  have hl : g < w.heap.size := by
    rcases Nat.lt_or_ge g w.heap.size with h | h
    · exact h
    · rw [Array.getElem?_eq_none h] at h3; simp at h3
  rw [hk g h2 hl]; exact h3
theorem Lft.setCell {w : World} {base : Nat} {v : Value} {L : List Nat} (h : Lft w base v L) {b o : Nat} (hb : b < base) (u : Value) : Lft (w.setCell ⟨b, o, none⟩ u) base v L :=
  h.keep fun g hg _ => heap_setCell_other w ⟨b, o, none⟩ g u (by show g ≠ b; omega)
theorem Lft.below {w w' : World} {base : Nat} {v : Value} {L : List Nat} (h : Lft w base v L) (hb : Below w.heap.size w w') : Lft w' base v L :=
  h.keep fun g _ hg => hb.block g hg
theorem Lft.drew {w : World} {base : Nat} {v : Value} {L : List Nat} (h : Lft w base v L) : Lft w.drew base v L := h.keep fun _ _ _ => rfl
/-- Cut from the front. -/
theorem Lft.cut {w : World} {base : Nat} {g off cap : Nat} {L : List Nat} {n : Nat} (h : Lft w base (.slice (some ⟨g, off, none⟩) L.length cap) L) (hn : n ≤ L.length) (h0 : 0 < n) :
    Lft w base (.slice (if cap = n then some ⟨g, off, none⟩ else some ⟨g, off + n, none⟩) (L.length - n) (cap - n)) (L.drop n) := by
  refine ⟨fun x hx => h.1 x (List.mem_of_mem_drop hx), .inr ?_⟩
  rcases h.2 with ⟨h1, _⟩ | ⟨g', off', cap', cur, h1, h2, h3, h4, h5, h6, h7⟩
  · cases h1
  · cases h1
    by_cases hc : cap = n
    · rw [if_pos hc]
      refine ⟨g, off, cap - n, cur, by rw [List.length_drop], h2, h3, by rw [List.length_drop]; omega, by omega, by omega, fun j hj => ?_⟩
      rw [List.length_drop] at hj; omega
    · rw [if_neg hc]
      refine ⟨g, off + n, cap - n, cur, by rw [List.length_drop], h2, h3, by rw [List.length_drop]; omega, by omega, by omega, fun j hj => ?_⟩
      rw [List.length_drop] at hj
      rw [Nat.add_assoc, h7 (n + j) (by omega)]
      simp [List.getD, List.getElem?_drop]

theorem Lft.form {w : World} {base : Nat} {v : Value} {L : List Nat} (h : Lft w base v L) : ∃ a c, v = .slice a L.length c := by
  rcases h.2 with ⟨rfl, rfl⟩ | ⟨g, off, cap, cur, rfl, _⟩
  · exact ⟨_, _, rfl⟩
  · exact ⟨_, _, rfl⟩
theorem news_len (L : List Nat) : (bys L).length = L.length * 1 := by rw [bys_len, Nat.mul_one]
theorem getD_app (X L : List Nat) (j : Nat) : (X ++ L).getD j 0 = if j < X.length then X.getD j 0 else L.getD (j - X.length) 0 := by
  split
  · rename_i h; simp [List.getD, List.getElem?_append_left h]
  · rename_i h; simp [List.getD, List.getElem?_append_right (Nat.le_of_not_lt h)]
/-- append(v, y...), v what is left. -/
theorem appL {ops : Array Oper} {rest : List Oper} {o : Oper} {a : Act} {Q : Exit → Act → World → Prop} {W : World} (base : Nat) (hgd : o.guard = none) (s x : Operand)
    (ho : o.op = .call { callee := .builtin .append, args := #[s, x], argTypes := #[157, 157] }) (v y : Value) (X L Z : List Nat) (hZ : X ++ L = Z) (hs : a.eval s = v) (hx : a.eval x = y)
    (HO : Lft W base v X) (HY : Byts W y L) (hbase : base ≤ W.heap.size) (hl : X.length + L.length ≤ 140737488355328)
    (h : ∀ v1 w1, Hid (Lft w1 base v1 Z) → Hid (∀ B w0, Below B w0 W → B ≤ base → Below B w0 w1) → wpList Tryz.prog ops Q rest (a.put o.dst v1) w1) :
    wpList Tryz.prog ops Q (o :: rest) a W := by
  subst hZ
  obtain ⟨i0, hi, hzz⟩ := Option.map_eq_some_iff.1 infoB
  simp only [Prod.mk.injEq] at hzz
  obtain ⟨hz0, hz1, hz2⟩ := hzz
  have hsrc : Src Tryz.prog i0.size 157 y L.length (bys L) W := by
    rw [hz1]
    rcases HY.2 with ⟨rfl, rfl⟩ | ⟨ad, c, rfl, _, _, hcell⟩
    · exact Src.ofNil W Tryz.underlying157 0
    · refine Src.ofSlice W Tryz.underlying157 ad L.length c (bys L) (news_len L) (fun j u hu => ?_) (bys_one L)
      have hj : j < L.length := by have := (List.getElem?_eq_some_iff.1 hu).1; rw [bys_len] at this; exact this
      rw [bys_get L j hj] at hu
      rw [hcell j hj, ← hu]
  have h256 : ∀ x ∈ X ++ L, x < 256 := fun x hx => (List.mem_append.1 hx).elim (HO.1 x) (HY.1 x)
  have fin : ∀ v1 w1, (Builtin.append_ #[157, 157] o.type #[v, y]).run Tryz.prog W = .ok v1 w1 → Lft w1 base v1 (X ++ L) → (∀ B w0, Below B w0 W → B ≤ base → Below B w0 w1) → wpList Tryz.prog ops Q (o :: rest) a W := by
    intro v1 w1 hr h1 h2
    exact Lib.wpList_append_run_sl W hgd s x 157 ho v y hs hx hr (h v1 w1 h1 h2)
  rcases HO.2 with ⟨rfl, rfl⟩ | ⟨g, off, cap, cur, rfl, h2, h3, h4, h5, h6, h7⟩
  · by_cases hL : L.length = 0
    · obtain rfl := List.eq_nil_of_length_eq_zero hL
      have hr := run_append_nothing W 157 157 o.type 5 i0 Tryz.underlying157 hi none 0 0 (Nat.le_refl _) y hsrc
      exact fin _ _ hr (by simpa using HO) (fun B w0 hB _ => hB)
    · have hr := run_append_grow_src W 157 157 o.type 5 i0 (.int .u8 0) Tryz.underlying157 hi hz0 none 0 0 [] (run_firstCells_none W.drew i0.size 0 0 0) y L.length (bys L) hsrc (by omega) (by omega) (by rw [hz2]; exact growslice_fits (by omega) (by omega))
      have hge := grownCap_ge W (0 + L.length) 0 5
      have hcm : grownCap W (0 + L.length) 0 5 ≤ maxLen := grownCap_le_maxLen W (0 + L.length) 0 5 (by unfold maxLen; omega)
      refine fin _ _ hr ⟨h256, .inr ⟨W.heap.size, 0, grownCap W (0 + L.length) 0 5, _, by simp, hbase, heap_alloc_last W.drew _, by simpa using hge, hcm, ?_, ?_⟩⟩ ?_
      · simp [Builtin.zeroCells, bys_len, Value.cells]; omega
      · intro j hj
        have hj' : j < L.length := by simpa using hj
        simp only [Nat.zero_add, List.nil_append]
        rw [Array.getElem?_append_left (by simpa [bys_len] using hj')]
        simpa using bys_get L j hj'
      · exact fun B w0 hB hb => hB.drew.alloc (by show B ≤ W.heap.size; omega) _
  · by_cases hroom : X.length + L.length ≤ cap
    · have hr := run_append_room_src W 157 157 o.type 5 i0 Tryz.underlying157 hi g off X.length cap y L.length (bys L) hsrc hroom
        (fun j hj => by
          rw [bys_len] at hj
          rw [cell_of_row W g _ cur _ _ h3, hz1, Nat.mul_one, Array.getElem?_eq_getElem (by omega)]; rfl)
        (fun j _ => frozen_of_row W g _ cur _ h3)
      rw [hz1, Nat.mul_one] at hr
      have ha : Arr (W.setCells g (off + X.length) (bys L)) g 5 (cur.toList.take (off + X.length) ++ bys L ++ cur.toList.drop (off + X.length + (bys L).length)) :=
        Arr.sets (bys L) (off + X.length) (show Arr W g 5 cur.toList from by show _ = _; simpa using h3) (by rw [bys_len]; simp only [Array.length_toList]; omega)
      refine fin _ _ hr ⟨h256, .inr ⟨g, off, cap, _, by rw [List.length_append], h2, ha, by rw [List.length_append]; exact hroom, h5, ?_, ?_⟩⟩ (fun B w0 hB hb => below_sets g (by omega) _ _ hB)
      · simp [bys_len]; omega
      · intro j hj
        rw [List.length_append] at hj
        rw [getD_app, List.getElem?_toArray]
        by_cases hx1 : j < X.length
        · rw [if_pos hx1, List.append_assoc, List.getElem?_append_left (by simp; omega), List.getElem?_take, if_pos (by omega), Array.getElem?_toList]
          exact h7 j hx1
        · rw [if_neg hx1, List.getElem?_append_left (by simp [bys_len]; omega), List.getElem?_append_right (by simp; omega)]
          rw [show off + j - (cur.toList.take (off + X.length)).length = j - X.length by simp; omega, bys_get L _ (by omega)]
    · have holds : (Builtin.firstCells i0.size X.length (.slice (some ⟨g, off, none⟩) X.length cap)).run Tryz.prog W.drew = .ok (bys X).toArray W.drew := by
        rw [hz1]
        refine run_firstCells_some W.drew 1 X.length ⟨g, off, none⟩ X.length cap (bys X) (news_len X) (fun j u hu => ?_)
        have hj : j < X.length := by have := (List.getElem?_eq_some_iff.1 hu).1; rw [bys_len] at this; exact this
        rw [bys_get X j hj] at hu
        have := (Lft.byts HO).2
        rw [Addr.add_lit]
        show W.cell? ⟨g, off + j, none⟩ = _
        rw [cell_of_row W g (off + j) cur _ _ h3, h7 j hj, ← hu]
      have hr := run_append_grow_src W 157 157 o.type 5 i0 (.int .u8 0) Tryz.underlying157 hi hz0 (some ⟨g, off, none⟩) X.length cap (bys X) holds y L.length (bys L) hsrc (by omega) (by omega)
        (by rw [hz2]; exact growslice_fits (by omega) (by omega))
      have hge := grownCap_ge W (X.length + L.length) cap 5
      have hcm : grownCap W (X.length + L.length) cap 5 ≤ maxLen := grownCap_le_maxLen W (X.length + L.length) cap 5 (by unfold maxLen; omega)
      refine fin _ _ hr ⟨h256, .inr ⟨W.heap.size, 0, grownCap W (X.length + L.length) cap 5, _, by rw [List.length_append], hbase, heap_alloc_last W.drew _, by rw [List.length_append]; exact hge, hcm, ?_, ?_⟩⟩
        (fun B w0 hB hb => hB.drew.alloc (by show B ≤ W.heap.size; omega) _)
      · simp [Builtin.zeroCells, bys_len, Value.cells]; omega
      · intro j hj
        rw [← bys_app, Nat.zero_add, Array.getElem?_append_left (by simpa [bys_len] using hj)]
        simpa using bys_get (X ++ L) j hj
end Go.Proofs.YthnbnckmeffkmaaGreat
/- A region that draws its order, whose last operation overwrites what the region reads: the condition on the world is asked behind every operation but that last one, for which all others are waited for. Nothing of the dump stands here. -/
namespace Go.Proofs.YthnbnckmeffkmaaGreat
open Go.RowKit Go.Lib
set_option linter.unusedVariables false

section
variable {P : Program} {ops : Array Oper} {Q : Exit → Act → World → Prop} {md : Region.Mode} {S : World → Prop} {t : Nat}

/-- Whatever order is picked from here on, and S holds behind every operation but number t. -/
def wpAnyT (P : Program) (md : Region.Mode) (ops : Array Oper) (Q : Exit → Act → World → Prop) (S : World → Prop) (t : Nat) : Nat → Array Bool → Act → World → Prop
  | 0, listed, a, w => Region.ready md ops listed = [] ∧ Q .normal a w
  | fuel + 1, listed, a, w =>
    (Region.ready md ops listed = [] → Q .normal a w) ∧
    ∀ i ∈ Region.ready md ops listed, wpOp P ops Q i (fun a' w' => (i ≠ t → S w') ∧ wpAnyT P md ops Q S t fuel (listed.setIfInBounds i true) a' w') a w

theorem wpAny_of_T : ∀ (fuel : Nat) (listed : Array Bool) (a : Act) (w : World), wpAnyT P md ops Q S t fuel listed a w → wpAny P md ops Q fuel listed a w
  | 0, _, _, _, h => h
  | fuel + 1, _, _, _, h => ⟨h.1, fun i hi => wpOp_mono (fun a' w' h' => wpAny_of_T fuel _ a' w' h'.2) (h.2 i hi)⟩

theorem wpAnyT_first {i : Nat} {oi : Oper} {v : Value} (hi : ops[i]? = some oi) (hsel : ∀ (j : Nat) (o : Oper) cs b, ops[j]? = some o → o.op ≠ .select cs b)
    (hQ : ∀ c a w, Q (.panic c) (a.put oi.dst v) w → Q (.panic c) a w) (ht : Region.waitsFor md ops t i = true) :
    ∀ (fuel : Nat) (listed : Array Bool) (a : Act) (w : World),
      (∀ j oj, ops[j]? = some oj → j ≠ i → listed.getD j true = false → (∀ e ∈ oj.after, Region.binds md e = true → e.on ≠ i) → oi.apart ops oj = true) →
      i ∈ Region.ready md ops listed → YieldsIf P ops S oi v a → S w →
      wpAnyT P md ops Q S t fuel (listed.setIfInBounds i true) (a.put oi.dst v) w → wpAnyT P md ops Q S t (fuel + 1) listed a w := by
  intro fuel
  induction fuel with
  | zero =>
    intro listed a w _ hr hy hS H
    refine ⟨fun h => (by rw [h] at hr; cases hr), fun j hj => ?_⟩
    by_cases hji : j = i
    · subst hji; exact hy.wpOp hi hS ⟨fun _ => hS, H⟩
    · have := ready_mono hj hji
      rw [H.1] at this
      cases this
  | succ fuel ih =>
    intro listed a w hfree hr hy hS H
    refine ⟨fun h => (by rw [h] at hr; cases hr), fun j hj => ?_⟩
    by_cases hji : j = i
    · subst hji; exact hy.wpOp hi hS ⟨fun _ => hS, H⟩
    · have h1 := H.2 j (ready_mono hj hji)
      obtain ⟨hjun, oj, hoj, hall⟩ := mem_ready.1 hj
      have hnot : ∀ e ∈ oj.after, Region.binds md e = true → e.on ≠ i := fun e he hb heq => by
        have h1 := hall e he hb
        have h0 := (mem_ready.1 hr).1
        rw [heq] at h1
        rcases Nat.lt_or_ge i listed.size with h' | h'
        · simp [h'] at h0 h1; rw [h0] at h1; cases h1
        · simp [Array.getElem?_eq_none h'] at h1
      have hjt : j ≠ t := by
        rintro rfl
        obtain ⟨o', ho', e, he, hb, hon⟩ := Region.waitsFor_spec ht
        have : o' = oj := Option.some.inj (ho'.symm.trans hoj)
        subst this
        exact hnot e he hb hon
      have h2 := wpOp_putIf hoj (hfree j oj hoj hji hjun hnot) (fun cs b => hsel i oi cs b hi) (fun cs b => hsel j oj cs b hoj) hQ hy h1
      have hfree' : ∀ k ok, ops[k]? = some ok → k ≠ i → (listed.setIfInBounds j true).getD k true = false →
          (∀ e ∈ ok.after, Region.binds md e = true → e.on ≠ i) → oi.apart ops ok = true := fun k ok hk hki hun hno => by
        refine hfree k ok hk hki ?_ hno
        by_cases hjk : j = k
        · subst hjk; exact hjun
        · rw [getD_set_ne true hjk] at hun; exact hun
      refine wpOp_mono (fun a' w' h3 => ⟨fun _ => h3.2.1 hjt, ih (listed.setIfInBounds j true) a' w' hfree' (ready_mono hr (Ne.symm hji)) h3.1 (h3.2.1 hjt) ?_⟩) h2
      rw [Array.setIfInBounds_comm _ _ hji]
      exact h3.2.2

theorem wpAnyT_take {i : Nat} {oi : Oper} {v : Value} {fuel : Nat} {listed : Array Bool} {a : Act} {w : World} (hi : ops[i]? = some oi)
    (hs : Region.noSelect ops = true) (hf : Region.free md ops listed i = true) (hr : (Region.ready md ops listed).contains i = true) (ht : Region.waitsFor md ops t i = true)
    (hQ : ∀ c a w, Q (.panic c) (a.put oi.dst v) w → Q (.panic c) a w) (hy : YieldsIf P ops S oi v a) (hS : S w)
    (h : wpAnyT P md ops Q S t fuel (listed.setIfInBounds i true) (a.put oi.dst v) w) : wpAnyT P md ops Q S t (fuel + 1) listed a w :=
  wpAnyT_first hi (Region.noSelect_spec hs) hQ ht fuel listed a w (Region.free_spec hi hf) (by simpa using hr) hy hS h

/-- One alone may come up. -/
theorem wpAnyT_one {i : Nat} {oi : Oper} {fuel : Nat} {listed : Array Bool} {a : Act} {w : World} (hr : Region.ready md ops listed = [i]) (hi : ops[i]? = some oi) (hg : oi.guard = none)
    (h : ∀ K : Act → World → Prop, (∀ a' w', (i ≠ t → S w') → wpAnyT P md ops Q S t fuel (listed.setIfInBounds i true) a' w' → K a' w') → oi.wp P a w K Q) : wpAnyT P md ops Q S t (fuel + 1) listed a w := by
  refine ⟨(fun h0 => by rw [hr] at h0; cases h0), fun j hj => ?_⟩
  rw [hr] at hj
  obtain rfl : j = i := by simpa using hj
  unfold wpOp
  simp only [hi]
  rw [if_pos (by simp [Region.wanted, hg])]
  exact .inl <| h (fun a' w' => (j ≠ t → S w') ∧ wpAnyT P md ops Q S t fuel (listed.setIfInBounds j true) a' w') (fun a' w' h1 h2 => ⟨h1, h2⟩)
theorem wpAnyT_done {listed : Array Bool} {a : Act} {w : World} (hr : Region.ready md ops listed = []) (h : Q .normal a w) : ∀ fuel, wpAnyT P md ops Q S t fuel listed a w
  | 0 => ⟨hr, h⟩
  | _ + 1 => ⟨fun _ => h, by rw [hr]; simp⟩
theorem wp_region_T (S : World → Prop) (t : Nat) {id : Nat} {a : Act} {w : World} (hm : P.follows .mixedOrders = true)
    (h : wpAnyT P .any ops Q S t ops.size (Array.replicate ops.size false) a w.drew) : (Code.region id ops true).wp P Q a w :=
  wp_region_any hm (wpAny_of_T _ _ _ _ h)
end
end Go.Proofs.YthnbnckmeffkmaaGreat
