/- wire.Writer.Count. -/
import Derived.Test.YthnbnckmeffkmaaGreatG14
import Derived.Lib.SliceRun
import Derived.Test.YthnbnckmeffkmaaGreatG12
namespace Go.Proofs.YthnbnckmeffkmaaGreat
open Go.RowKit Go.Lib
set_option linter.unusedVariables false
set_option linter.unusedSimpArgs false
attribute [local go_sem ↓] Go.wp_at_zero Go.wp_at_succ

set_option maxRecDepth 100000 in
set_option maxHeartbeats 1600000 in
theorem wcount_ok (g n : Nat) (L Z : List Nat) (hZ : L ++ (le8 n).take 2 = Z) (w : World) (hw : WrM w g L false) (hn : n ≤ 65535) (hl : L.length + 2 ≤ 140737488355328) :
    Calls Tryz.prog 125 #[.pointer (some ⟨g, 0, none⟩), .int .i64 (n : Int)] w fun e w' => e = .returned (.pointer (some ⟨g, 0, none⟩)) ∧ WrM w' g Z false ∧ Below g w w' := by
  have H := Lib.hid (wnum2_ok g n L Z hZ w hw hn hl)
  have h1 : ¬ ((n : Int) < 0) := by omega
  have h2 : ¬ ((n : Int) > 65535) := by omega
  have h3 : IntKind.u64.wrap (n : Int) = (n : Int) := by rw [IntKind.wrap_u64]; omega
  clear hZ hw hn hl
  go_enter Tryz.func125, Tryz.ntmps125
  go_wp2_with fail
  refine H.out.mono ?_
  rintro e w3 ⟨rfl, hw3, hb3⟩
  dsimp only
  have HW3 := Lib.hid hw3
  have HB3 := Lib.hid hb3
  clear hw3 hb3
  go_wp2
  go_ret
  exact ⟨rfl, HW3.out, HB3.out⟩
set_option maxRecDepth 100000 in
set_option maxHeartbeats 1600000 in
theorem wcount_bad (g : Nat) (n : Int) (L : List Nat) (bad : Bool) (w : World) (hw : WrM w g L bad) (hn : n < 0 ∨ 65535 < n) :
    Calls Tryz.prog 125 #[.pointer (some ⟨g, 0, none⟩), .int .i64 n] w fun e w' => e = .returned (.pointer (some ⟨g, 0, none⟩)) ∧ WrM w' g L true ∧ Below g w w' := by
  have H := Lib.hid (put_bad g L (.slice none 0 0) false bad w hw (by simp))
  clear hw
  go_enter Tryz.func125, Tryz.ntmps125
  by_cases h1 : n < 0
  · clear hn
    go_wp2_with fail
    refine H.out.mono ?_
    rintro e w3 ⟨rfl, hw3, hb3⟩
    dsimp only
    have HW3 := Lib.hid hw3
    have HB3 := Lib.hid hb3
    clear hw3 hb3
    go_wp2
    go_ret
    exact ⟨rfl, HW3.out, HB3.out⟩
  · have h2 : n > 65535 := by omega
    clear hn
    go_wp2_with fail
    refine H.out.mono ?_
    rintro e w3 ⟨rfl, hw3, hb3⟩
    dsimp only
    have HW3 := Lib.hid hw3
    have HB3 := Lib.hid hb3
    clear hw3 hb3
    go_wp2
    go_ret
    exact ⟨rfl, HW3.out, HB3.out⟩
end Go.Proofs.YthnbnckmeffkmaaGreat
/- slices.Clone of bytes. -/
namespace Go.Proofs.YthnbnckmeffkmaaGreat
open Go.RowKit Go.Lib
set_option linter.unusedVariables false
set_option linter.unusedSimpArgs false
attribute [local go_sem ↓] Go.wp_at_zero Go.wp_at_succ
theorem own_empty (w : World) (e : TypeId) : (w.alloc (.cells #[] e)).ownsRow w.heap.size e 1 (.slice (some ⟨w.heap.size, 0, none⟩) 0 0) ([] : List Nat).length (bys []) :=
  ⟨by simp [bys], .inr ⟨w.heap.size, 0, #[], rfl, Nat.le_refl _, alloc_top w _, Nat.le_refl _, by unfold maxLen; omega, by simp, by simp [bys]⟩⟩
set_option maxRecDepth 100000 in
set_option maxHeartbeats 1600000 in
theorem clone_any (ad : Addr) (c : Nat) (L : List Nat) (w : World) (hy : Byts w (.slice (some ad) L.length c) L) (hl : L.length ≤ 1000000000) :
    Calls Tryz.prog 186 #[.slice (some ad) L.length c] w fun e w' => ∃ v', e = .returned v' ∧ Byts w' v' L ∧ Low w' v' ∧ Below w.heap.size w w' := by
  have hq : ∀ w a l c, (binOp .eql 157 (.slice a l c) (.slice none 0 0)).run Tryz.prog w = .ok (.bool a.isNone) w := fun w a l c => run_eql_slice_nil w _ _ _ _ _ _ _ Tryz.underlying157
  have HY := Lib.hid hy
  have HL := Lib.hid hl
  clear hy hl
  go_enter Tryz.func186, Tryz.ntmps186
  go_upto_region 3 with fail
  go_step
  iterate 3 (first | go_values | go_skip | go_guarded | go_step | go_upon)
  clear hq
  have HO := Lib.hid (own_empty w 5)
  have hb := (Below.refl w.heap.size w).alloc (Nat.le_refl _) (.cells #[] 5)
  have HB1 := Lib.hid hb
  have HY1 := Lib.hid (HY.out.below hb)
  have HG := Lib.hid (show w.heap.size ≤ (w.alloc (.cells #[] 5)).heap.size from hb.size)
  have HLl := Lib.hid (show ([] : List Nat).length + L.length ≤ 140737488355328 by have := HL.out; simp; omega)
  have HX := Lib.hid (show ([] : List Nat) ++ L = L from rfl)
  generalize World.alloc _ _ = w1 at *
  clear hb
  go_wp2_with (at_builtin; refine appB w.heap.size rfl (.tmp 5) (.tmp 6) 157 5 rfl Tryz.underlying157 infoB _ _ [] L L HX.out rfl rfl HO.out HY1.out HG.out HLl.out ?_)
  intro v4 w4 ho4 hb4 hg4
  have HB4 := Lib.hid (hb4.out w.heap.size w HB1.out (Nat.le_refl _))
  have HBy := Lib.hid (own_byts ho4.out HY.out.1)
  have HLw := Lib.hid (show Low w4 v4 from fun a n k e => (ho4.out.lt a.block (by rw [e]; rfl)).2)
  clear ho4 hb4 hg4
  go_wp2
  go_ret
  exact ⟨_, rfl, HBy.out, HLw.out, HB4.out⟩
end Go.Proofs.YthnbnckmeffkmaaGreat
/- wire.Writer.End of a good writer that has something. -/
namespace Go.Proofs.YthnbnckmeffkmaaGreat
open Go.RowKit Go.Lib
set_option linter.unusedVariables false
set_option linter.unusedSimpArgs false
attribute [local go_sem ↓] Go.wp_at_zero Go.wp_at_succ

set_option maxRecDepth 100000 in
set_option maxHeartbeats 1600000 in
theorem end_ok (g : Nat) (L : List Nat) (w : World) (hw : WrM w g L false) (h0 : L ≠ []) (h256 : ∀ x ∈ L, x < 256) (hl : L.length ≤ 1000000000) :
    Calls Tryz.prog 128 #[.pointer (some ⟨g, 0, none⟩)] w fun e w' => ∃ v', e = .returned (.tuple #[v', .int .i64 0]) ∧ Byts w' v' L ∧ Low w' v' ∧ Below w.heap.size w w' := by
  obtain ⟨v, ha, ho⟩ := hw
  have hby := own_byts ho h256
  obtain ⟨ad, c, rfl⟩ : ∃ ad c, v = .slice (some ad) L.length c := by
    rcases hby.2 with ⟨_, h⟩ | ⟨ad, c, h, _⟩
    · exact absurd h h0
    · exact ⟨ad, c, h⟩
  have H := Lib.hid (clone_any ad c L w hby hl)
  have hc0 := ha.cell 0
  have hc1 := ha.cell 1
  dsimp only [List.getElem?_cons_zero, List.getElem?_cons_succ] at hc0 hc1
  clear ha ho hby h0 h256 hl
  go_enter Tryz.func128, Tryz.ntmps128
  go_wp2_with fail
  refine H.out.mono ?_
  rintro e w3 ⟨v3, rfl, hy3, hl3, hb3⟩
  dsimp only
  have H3 := Lib.hid (And.intro hy3 (And.intro hl3 hb3))
  clear hy3 hl3 hb3 hc0 hc1
  go_wp2
  refine bodyPost_ret (results_tmp2 rfl _ _ _) rfl ?_
  exact ⟨_, rfl, H3.out.1, H3.out.2.1, H3.out.2.2⟩
end Go.Proofs.YthnbnckmeffkmaaGreat
/- A region that draws its order, whose last operations make memory in any order: each one's result has a fact that more memory does not change. Nothing of the dump stands here. -/
namespace Go.Proofs.YthnbnckmeffkmaaGreat
open Go.RowKit Go.Lib
set_option linter.unusedVariables false

/-- The results of the listed operations put into their slots. -/
def putsT (L : List (Nat × Option Nat)) (X : Nat → Value) (ts : Array Value) : Array Value :=
  L.foldl (fun ts p => match p.2 with | some d => ts.setIfInBounds d (X p.1) | none => ts) ts
def putsA (L : List (Nat × Option Nat)) (X : Nat → Value) (a : Act) : Act := ⟨putsT L X a.tmps, a.defers⟩
theorem putsT_nil (X : Nat → Value) (ts : Array Value) : putsT [] X ts = ts := rfl
theorem putsT_some (i d : Nat) (L : List (Nat × Option Nat)) (X : Nat → Value) (ts : Array Value) : putsT ((i, some d) :: L) X ts = putsT L X (ts.setIfInBounds d (X i)) := rfl
theorem putsT_none (i : Nat) (L : List (Nat × Option Nat)) (X : Nat → Value) (ts : Array Value) : putsT ((i, none) :: L) X ts = putsT L X ts := rfl

theorem putsT_set (X : Nat → Value) (d : Nat) (v : Value) : ∀ (L : List (Nat × Option Nat)) (ts : Array Value), (∀ p ∈ L, p.2 ≠ some d) → (putsT L X ts).setIfInBounds d v = putsT L X (ts.setIfInBounds d v)
  | [], _, _ => rfl
  | (i, none) :: L, ts, h => by rw [putsT_none, putsT_none, putsT_set X d v L ts (fun p hp => h p (List.mem_cons_of_mem _ hp))]
  | (i, some d') :: L, ts, h => by
    have hne : d' ≠ d := fun e => h (i, some d') (List.mem_cons_self ..) (by rw [e])
    rw [putsT_some, putsT_some, putsT_set X d v L _ (fun p hp => h p (List.mem_cons_of_mem _ hp)), Array.setIfInBounds_comm _ _ hne]
theorem putsT_same (X X' : Nat → Value) : ∀ (L : List (Nat × Option Nat)) (ts : Array Value), (∀ p ∈ L, X p.1 = X' p.1) → putsT L X ts = putsT L X' ts
  | [], _, _ => rfl
  | (i, none) :: L, ts, h => by rw [putsT_none, putsT_none, putsT_same X X' L ts (fun p hp => h p (List.mem_cons_of_mem _ hp))]
  | (i, some d') :: L, ts, h => by
    rw [putsT_some, putsT_some, h (i, some d') (List.mem_cons_self ..), putsT_same X X' L _ (fun p hp => h p (List.mem_cons_of_mem _ hp))]
theorem putsT_put (X : Nat → Value) (i : Nat) (v : Value) (d : Nat) : ∀ (L : List (Nat × Option Nat)) (ts : Array Value), (L.map (·.1)).Nodup → (L.filterMap (·.2)).Nodup → (i, some d) ∈ L →
    (putsT L X ts).setIfInBounds d v = putsT L (fun j => if j = i then v else X j) ts
  | [], _, _, _, h => by cases h
  | (j, none) :: L, ts, h1, h2, h3 => by
    have h3 : (i, some d) ∈ L := by
      rcases List.mem_cons.1 h3 with h | h
      · cases h
      · exact h
    rw [putsT_none, putsT_none, putsT_put X i v d L ts (List.nodup_cons.1 h1).2 h2 h3]
  | (j, some d') :: L, ts, h1, h2, h3 => by
    obtain ⟨n1, h1'⟩ := List.nodup_cons.1 h1
    have h2 : (d' :: L.filterMap (·.2)).Nodup := h2
    obtain ⟨n2, h2'⟩ := List.nodup_cons.1 h2
    rw [putsT_some, putsT_some]
    rcases List.mem_cons.1 h3 with h | h
    · cases h
      rw [putsT_set X d v L _ (fun p hp e => n2 (List.mem_filterMap.2 ⟨p, hp, e⟩)), Array.setIfInBounds_setIfInBounds]
      rw [if_pos rfl]
      refine putsT_same _ _ L _ (fun p hp => ?_)
      have : p.1 ≠ i := fun e => n1 (List.mem_map.2 ⟨p, hp, e⟩)
      exact (if_neg this).symm
    · have hj : j ≠ i := fun e => n1 (List.mem_map.2 ⟨_, h, e.symm⟩)
      rw [putsT_put X i v d L _ h1' h2' h]
      rw [if_neg hj]
theorem putsT_self (X : Nat → Value) : ∀ (L : List (Nat × Option Nat)) (ts : Array Value), (∀ p ∈ L, ∀ d, p.2 = some d → X p.1 = ts.getD d undef) → putsT L X ts = ts
  | [], _, _ => rfl
  | (i, none) :: L, ts, h => by rw [putsT_none, putsT_self X L ts (fun p hp => h p (List.mem_cons_of_mem _ hp))]
  | (i, some d) :: L, ts, h => by
    have e : ts.setIfInBounds d (X i) = ts := by
      rw [h (i, some d) (List.mem_cons_self ..) d rfl]
      apply Array.ext_getElem?
      intro k
      rw [Array.getElem?_setIfInBounds]
      split
      · rename_i hk
        subst hk
        split
        · rename_i hl
          simp [Array.getElem?_eq_getElem hl]
        · rename_i hl
          simp [Array.getElem?_eq_none (Nat.le_of_not_lt hl)]
      · rfl
    rw [putsT_some, e, putsT_self X L ts (fun p hp => h p (List.mem_cons_of_mem _ hp))]

/-- How many are still to come. -/
def unl (listed : Array Bool) (L : List (Nat × Option Nat)) : Nat := (L.filter fun p => !(listed.getD p.1 true)).length
theorem unl_le (listed : Array Bool) (i : Nat) : ∀ L : List (Nat × Option Nat), unl (listed.setIfInBounds i true) L ≤ unl listed L
  | [] => Nat.le_refl _
  | p :: L => by
    have ih := unl_le listed i L
    unfold unl at ih ⊢
    rw [List.filter_cons, List.filter_cons]
    by_cases hp : i = p.1
    · have : (listed.setIfInBounds i true).getD p.1 true = true := by
        subst hp
        rcases Nat.lt_or_ge p.1 listed.size with h | h
        · simp [h]
        · simp
      rw [this]
      simp only [Bool.not_true, Bool.false_eq_true, if_false]
      split
      · rw [List.length_cons]; omega
      · exact ih
    · rw [getD_set_ne true hp]
      split
      · rw [List.length_cons, List.length_cons]; omega
      · exact ih
theorem unl_lt (listed : Array Bool) (i : Nat) (od : Option Nat) (hl : listed.getD i true = false) : ∀ L : List (Nat × Option Nat), (i, od) ∈ L → unl (listed.setIfInBounds i true) L < unl listed L
  | [], h => by cases h
  | p :: L, h => by
    have hle := unl_le listed i L
    have set1 : (listed.setIfInBounds i true).getD i true = true := by
      rcases Nat.lt_or_ge i listed.size with h | h
      · simp [h]
      · simp
    by_cases hp : i = p.1
    · unfold unl at hle ⊢
      rw [List.filter_cons, List.filter_cons, ← hp, set1, hl]
      simp only [Bool.not_true, Bool.false_eq_true, if_false, Bool.not_false, if_true, List.length_cons]
      omega
    · have hm : (i, od) ∈ L := by
        rcases List.mem_cons.1 h with h | h
        · exact absurd (by rw [← h]) hp
        · exact h
      have ih := unl_lt listed i od hl L hm
      unfold unl at ih ⊢
      rw [List.filter_cons, List.filter_cons, getD_set_ne true hp]
      split
      · rw [List.length_cons, List.length_cons]; omega
      · exact ih

def factsOk (md : Region.Mode) (ops : Array Oper) (listed : Array Bool) (L : List (Nat × Option Nat)) : Bool :=
  L.all (fun p => match ops[p.1]? with | some o => o.dst == p.2 | none => false) &&
  (List.range ops.size).all (fun j => listed.getD j true || L.any (·.1 == j)) &&
  (List.range ops.size).all (fun j => match ops[j]? with | some o => o.after.all (fun e => decide (e.on < j)) | none => true) &&
  decide (L.map (·.1)).Nodup && decide (L.filterMap (·.2)).Nodup && (listed.size == ops.size)

section
variable {P : Program} {ops : Array Oper} {Q : Exit → Act → World → Prop} {md : Region.Mode} {S : World → Prop} {t : Nat}

/-- Operation i, wherever the ones it waits for have their facts, gets its own. -/
def StepF (P : Program) (md : Region.Mode) (ops : Array Oper) (Q : Exit → Act → World → Prop) (L : List (Nat × Option Nat)) (a0 : Act) (w0 : World) (F : Nat → Value → World → Prop) (i : Nat) : Prop :=
  ∀ o, ops[i]? = some o → ∀ X w, Below w0.heap.size w0 w → (∀ p ∈ L, o.after.any (fun e => Region.binds md e && e.on == p.1) = true → F p.1 (X p.1) w) →
    ∀ K : Act → World → Prop, (∀ v w', F i v w' → Below w.heap.size w w' → K ((putsA L X a0).put o.dst v) w') →
      if Region.wanted o (yielded ops (putsA L X a0).tmps) = true then o.wp P (putsA L X a0) w K Q else K ((putsA L X a0).put o.dst undef) w
theorem stepF_of {L : List (Nat × Option Nat)} {a0 : Act} {w0 : World} {F : Nat → Value → World → Prop} {i : Nat} {oi : Oper} (hi : ops[i]? = some oi) (hg : oi.guard = none)
    (h : ∀ X w, Below w0.heap.size w0 w → (∀ p ∈ L, oi.after.any (fun e => Region.binds md e && e.on == p.1) = true → F p.1 (X p.1) w) →
      ∀ K : Act → World → Prop, (∀ v w', F i v w' → Below w.heap.size w w' → K ((putsA L X a0).put oi.dst v) w') → oi.wp P (putsA L X a0) w K Q) : StepF P md ops Q L a0 w0 F i := by
  intro o ho X w hB hd K hK
  obtain rfl : oi = o := Option.some.inj (hi.symm.trans ho)
  rw [if_pos (by simp [Region.wanted, hg])]
  exact h X w hB hd K hK
/-- One that has a guard. -/
theorem stepF_at {L : List (Nat × Option Nat)} {a0 : Act} {w0 : World} {F : Nat → Value → World → Prop} {i : Nat} {oi : Oper} (hi : ops[i]? = some oi)
    (h : ∀ X w, Below w0.heap.size w0 w → (∀ p ∈ L, oi.after.any (fun e => Region.binds md e && e.on == p.1) = true → F p.1 (X p.1) w) →
      ∀ K : Act → World → Prop, (∀ v w', F i v w' → Below w.heap.size w w' → K ((putsA L X a0).put oi.dst v) w') →
      if Region.wanted oi (yielded ops (putsA L X a0).tmps) = true then oi.wp P (putsA L X a0) w K Q else K ((putsA L X a0).put oi.dst undef) w) : StepF P md ops Q L a0 w0 F i := by
  intro o ho
  obtain rfl : oi = o := Option.some.inj (hi.symm.trans ho)
  exact h

/-- What an operation waits for, through others too. -/
def clos (md : Region.Mode) (ops : Array Oper) : Nat → List Nat → List Nat
  | 0, T => T
  | n + 1, T => clos md ops n (T ++ T.flatMap fun j => match ops[j]? with | some o => (o.after.toList.filter (Region.binds md)).map (·.on) | none => []).eraseDups
theorem clos_listed {listed : Array Bool} (hcl : ∀ j o, ops[j]? = some o → listed.getD j true = true → ∀ e ∈ o.after, Region.binds md e = true → listed.getD e.on false = true) : ∀ (n : Nat) (T : List Nat),
    (∀ j ∈ T, j < ops.size ∧ listed.getD j true = true) → (∀ (j : Nat) (o : Oper), ops[j]? = some o → ∀ e ∈ o.after, e.on < j) → ∀ k ∈ clos md ops n T, listed.getD k true = true
  | 0, T, h, _, k, hk => (h k hk).2
  | n + 1, T, h, h3, k, hk => by
    refine clos_listed hcl n _ (fun j hj => ?_) h3 k hk
    rcases List.mem_append.1 (List.mem_eraseDups.1 hj) with h' | h'
    · exact h j h'
    · obtain ⟨i, hi, hj⟩ := List.mem_flatMap.1 h'
      cases ho : ops[i]? with
      | none => rw [ho] at hj; cases hj
      | some o =>
        rw [ho] at hj
        obtain ⟨e, he, rfl⟩ := List.mem_map.1 hj
        obtain ⟨he, hb⟩ := List.mem_filter.1 he
        have he : e ∈ o.after := Array.mem_toList_iff.1 he
        have := hcl i o ho (h i hi).2 e he hb
        refine ⟨by have := h3 i o ho e he; have := (h i hi).1; omega, ?_⟩
        rcases Nat.lt_or_ge e.on listed.size with h | h
        · simp [h] at this ⊢; exact this
        · simp [Array.getElem?_eq_none h]

theorem putsA_put (L : List (Nat × Option Nat)) (X : Nat → Value) (a0 : Act) (c1 : ∀ p ∈ L, ∃ o, ops[p.1]? = some o ∧ o.dst = p.2) (c4 : (L.map (·.1)).Nodup) (c5 : (L.filterMap (·.2)).Nodup)
    {p : Nat × Option Nat} {i : Nat} {o : Oper} (hp : p ∈ L) (hpi : p.1 = i) (ho : ops[i]? = some o) (v : Value) : (putsA L X a0).put o.dst v = putsA L (fun j => if j = i then v else X j) a0 := by
  have hd : o.dst = p.2 := by
    obtain ⟨o', ho', hd⟩ := c1 p hp
    rw [hpi] at ho'
    obtain rfl : o = o' := Option.some.inj (ho.symm.trans ho')
    exact hd
  rw [hd]
  cases h2 : p.2 with
  | none =>
    show putsA L X a0 = _
    unfold putsA
    congr 1
    have key : ∀ (M : List (Nat × Option Nat)) (ts : Array Value), (∀ q ∈ M, q.1 = i → q.2 = none) → putsT M X ts = putsT M (fun j => if j = i then v else X j) ts := by
      intro M
      induction M with
      | nil => intro ts _; rfl
      | cons q M ihM =>
        intro ts hM
        obtain ⟨qi, qd⟩ := q
        cases qd with
        | none => rw [putsT_none, putsT_none]; exact ihM ts (fun q hq => hM q (List.mem_cons_of_mem _ hq))
        | some d =>
          have hne : qi ≠ i := fun e => by have := hM (qi, some d) (List.mem_cons_self ..) e; cases this
          rw [putsT_some, putsT_some, show (if qi = i then v else X qi) = X qi from if_neg hne]
          exact ihM _ (fun q hq => hM q (List.mem_cons_of_mem _ hq))
    refine key L _ (fun q hq hqi => ?_)
    obtain ⟨oq, hoq, hdq⟩ := c1 q hq
    rw [hqi] at hoq
    obtain rfl : o = oq := Option.some.inj (ho.symm.trans hoq)
    rw [← hdq, hd, h2]
  | some d =>
    have hm : (i, some d) ∈ L := by rw [← hpi, ← h2]; exact hp
    show Act.mk ((putsT L X a0.tmps).setIfInBounds d v) a0.defers = _
    rw [putsT_put X i v d L a0.tmps c4 c5 hm]; rfl

theorem facts_go (L : List (Nat × Option Nat)) (a0 : Act) (w0 : World) (F : Nat → Value → World → Prop)
    (hmono : ∀ i v w w', F i v w → Below w.heap.size w w' → F i v w') (hS : ∀ w, Below w0.heap.size w0 w → S w)
    (c1 : ∀ p ∈ L, ∃ o, ops[p.1]? = some o ∧ o.dst = p.2) (c3 : ∀ (j : Nat) (o : Oper), ops[j]? = some o → ∀ e ∈ o.after, e.on < j)
    (c4 : (L.map (·.1)).Nodup) (c5 : (L.filterMap (·.2)).Nodup) (hstep : ∀ p ∈ L, StepF P md ops Q L a0 w0 F p.1)
    (hend : ∀ X w, Below w0.heap.size w0 w → (∀ p ∈ L, F p.1 (X p.1) w) → Q .normal (putsA L X a0) w) :
    ∀ (fuel : Nat) (listed : Array Bool) (X : Nat → Value) (w : World), listed.size = ops.size → (∀ j, j < ops.size → listed.getD j true = false → ∃ p ∈ L, p.1 = j) → unl listed L ≤ fuel →
      Below w0.heap.size w0 w → (∀ p ∈ L, listed.getD p.1 true = true → F p.1 (X p.1) w) → wpAnyU P md ops Q S t fuel listed (putsA L X a0) w := by
  have hall : ∀ listed : Array Bool, listed.size = ops.size → Region.ready md ops listed = [] → ∀ j, j < ops.size → listed.getD j true = true := by
    intro listed hs hr j
    induction j using Nat.strongRecOn with
    | _ j ih =>
      intro hj
      cases hlj : listed.getD j true with
      | true => rfl
      | false =>
        have : j ∈ Region.ready md ops listed := by
          rw [mem_ready]
          refine ⟨hlj, ops[j], Array.getElem?_eq_getElem hj, fun e he _ => ?_⟩
          have hlt := c3 j _ (Array.getElem?_eq_getElem hj) e he
          have := ih e.on hlt (by omega)
          have hl : e.on < listed.size := by omega
          simp [hl] at this ⊢
          exact this
        rw [hr] at this
        cases this
  have hin : ∀ p ∈ L, p.1 < ops.size := fun p hp => by
    obtain ⟨o, ho, _⟩ := c1 p hp
    exact (Array.getElem?_eq_some_iff.1 ho).1
  intro fuel
  induction fuel with
  | zero =>
    intro listed X w hs hc hf hB hF
    have hr : Region.ready md ops listed = [] := by
      refine List.eq_nil_iff_forall_not_mem.2 (fun j hj => ?_)
      obtain ⟨hl, o, ho, _⟩ := mem_ready.1 hj
      obtain ⟨p, hp, rfl⟩ := hc j (Array.getElem?_eq_some_iff.1 ho).1 hl
      have := unl_lt listed p.1 p.2 hl L hp
      omega
    exact ⟨hr, hend X w hB (fun p hp => hF p hp (hall listed hs hr p.1 (hin p hp)))⟩
  | succ fuel ih =>
    intro listed X w hs hc hf hB hF
    refine ⟨fun hr => hend X w hB (fun p hp => hF p hp (hall listed hs hr p.1 (hin p hp))), fun i hi => ?_⟩
    obtain ⟨hl, o, ho, hw⟩ := mem_ready.1 hi
    obtain ⟨p, hp, hpi⟩ := hc i (Array.getElem?_eq_some_iff.1 ho).1 hl
    obtain ⟨o', ho', hd⟩ := c1 p hp
    rw [hpi] at ho'
    obtain rfl : o = o' := Option.some.inj (ho.symm.trans ho')
    unfold wpOp
    simp only [ho]
    have hst := hstep p hp
    rw [hpi] at hst
    have hst := hst o ho X w hB (fun q hq hqa => ?_) (fun a' w' => (i ≠ t → listed.getD t true = false → S w') ∧ wpAnyU P md ops Q S t fuel (listed.setIfInBounds i true) a' w') (fun v w' hv hb' => ?_)
    · split at hst
      · rename_i hw; rw [if_pos hw]; exact .inl hst
      · rename_i hw; rw [if_neg hw]; exact hst
    · obtain ⟨e, he, hb⟩ := Array.any_eq_true'.1 hqa
      simp only [Bool.and_eq_true, beq_iff_eq] at hb
      refine hF q hq ?_
      have := hw e he hb.1
      rw [hb.2] at this
      rcases Nat.lt_or_ge q.1 listed.size with h | h
      · simp [h] at this ⊢; exact this
      · simp [Array.getElem?_eq_none h]
    · have hB' : Below w0.heap.size w0 w' := hB.trans (hb'.mono hB.size)
      have hact : (putsA L X a0).put o.dst v = putsA L (fun j => if j = i then v else X j) a0 := putsA_put L X a0 c1 c4 c5 hp hpi ho v
      refine ⟨fun _ _ => hS w' hB', ?_⟩
      rw [hact]
      refine ih (listed.setIfInBounds i true) _ w' (by simpa using hs) (fun j hj hlj => ?_) ?_ hB' (fun q hq hlq => ?_)
      · refine hc j hj ?_
        by_cases hij : i = j
        · subst hij; exact hl
        · rw [getD_set_ne true hij] at hlj; exact hlj
      · have := unl_lt listed i p.2 hl L (by rw [← hpi]; exact hp)
        omega
      · show F q.1 (if q.1 = i then v else X q.1) w'
        by_cases hqi : q.1 = i
        · rw [if_pos hqi, hqi]; exact hv
        · rw [if_neg hqi]
          rw [getD_set_ne true (fun e => hqi e.symm)] at hlq
          exact hmono _ _ _ _ (hF q hq hlq) hb'

theorem wpAnyU_facts (L : List (Nat × Option Nat)) (F : Nat → Value → World → Prop) {listed0 : Array Bool} {a0 : Act} {w0 : World} {fuel : Nat}
    (hmono : ∀ i v w w', F i v w → Below w.heap.size w w' → F i v w') (hS : ∀ w, Below w0.heap.size w0 w → S w)
    (hck : factsOk md ops listed0 L = true) (hfuel : unl listed0 L ≤ fuel) (hno : L.all (fun p => !(listed0.getD p.1 true)) = true) (hstep : ∀ p ∈ L, StepF P md ops Q L a0 w0 F p.1)
    (hend : ∀ X w, Below w0.heap.size w0 w → (∀ p ∈ L, F p.1 (X p.1) w) → Q .normal (putsA L X a0) w) : wpAnyU P md ops Q S t fuel listed0 a0 w0 := by
  unfold factsOk at hck
  simp only [Bool.and_eq_true, decide_eq_true_eq, beq_iff_eq] at hck
  obtain ⟨⟨⟨⟨⟨k1, k2⟩, k3⟩, k4⟩, k5⟩, k6⟩ := hck
  have c1 : ∀ p ∈ L, ∃ o, ops[p.1]? = some o ∧ o.dst = p.2 := by
    intro p hp
    have := List.all_eq_true.1 k1 p hp
    cases ho : ops[p.1]? with
    | none => rw [ho] at this; cases this
    | some o =>
      rw [ho] at this
      simp only [beq_iff_eq] at this
      exact ⟨o, rfl, this⟩
  have c3 : ∀ (j : Nat) (o : Oper), ops[j]? = some o → ∀ e ∈ o.after, e.on < j := by
    intro j o ho e he
    have := List.all_eq_true.1 k3 j (List.mem_range.2 (Array.getElem?_eq_some_iff.1 ho).1)
    rw [ho] at this
    have := Array.all_eq_true'.1 this e he
    simpa using this
  have c2 : ∀ j, j < ops.size → listed0.getD j true = false → ∃ p ∈ L, p.1 = j := by
    intro j hj hl
    have := List.all_eq_true.1 k2 j (List.mem_range.2 hj)
    rw [hl] at this
    simp only [Bool.false_or, List.any_eq_true, beq_iff_eq] at this
    exact this
  have hself : putsA L (fun j => a0.tmps.getD (((ops[j]?).bind (·.dst)).getD 0) undef) a0 = a0 := by
    unfold putsA
    rw [putsT_self]
    intro p hp d hd
    obtain ⟨o, ho, hdo⟩ := c1 p hp
    simp only [ho, Option.bind_some, hdo, hd, Option.getD_some]
  have := facts_go (t := t) L a0 w0 F hmono hS c1 c3 k4 k5 hstep hend fuel listed0 (fun j => a0.tmps.getD (((ops[j]?).bind (·.dst)).getD 0) undef) w0 k6 c2 hfuel (Below.refl _ _) (fun p hp hl => by
    have := List.all_eq_true.1 hno p hp
    rw [hl] at this; cases this)
  rw [hself] at this
  exact this

/-- As facts_go, but for number t, which waits for all others and is left to the caller. -/
theorem facts_goT (L : List (Nat × Option Nat)) (a0 : Act) (w0 : World) (F : Nat → Value → World → Prop) {ot : Oper} (hot : ops[t]? = some ot) (hog : ot.guard = none)
    (hmono : ∀ i v w w', F i v w → Below w.heap.size w w' → F i v w') (hS : ∀ w, Below w0.heap.size w0 w → S w)
    (c1 : ∀ p ∈ L, ∃ o, ops[p.1]? = some o ∧ o.dst = p.2) (c3 : ∀ (j : Nat) (o : Oper), ops[j]? = some o → ∀ e ∈ o.after, e.on < j)
    (c4 : (L.map (·.1)).Nodup) (c5 : (L.filterMap (·.2)).Nodup) (c6 : ∀ p ∈ L, p.1 ≠ t) (N : Nat) (c7 : ∀ p ∈ L, p.1 ∈ clos md ops N ((ot.after.toList.filter (Region.binds md)).map (·.on))) (hstep : ∀ p ∈ L, StepF P md ops Q L a0 w0 F p.1)
    (hend : ∀ X w, Below w0.heap.size w0 w → (∀ p ∈ L, F p.1 (X p.1) w) → ∀ K : Act → World → Prop, (∀ a' w', Q .normal a' w' → K a' w') → ot.wp P (putsA L X a0) w K Q) :
    ∀ (fuel : Nat) (listed : Array Bool) (X : Nat → Value) (w : World), listed.size = ops.size → (∀ j, j < ops.size → listed.getD j true = false → j = t ∨ ∃ p ∈ L, p.1 = j) → listed.getD t true = false → unl listed L < fuel →
      (∀ j o, ops[j]? = some o → listed.getD j true = true → ∀ e ∈ o.after, Region.binds md e = true → listed.getD e.on false = true) →
      Below w0.heap.size w0 w → (∀ p ∈ L, listed.getD p.1 true = true → F p.1 (X p.1) w) → wpAnyU P md ops Q S t fuel listed (putsA L X a0) w := by
  have hready : ∀ listed : Array Bool, listed.size = ops.size → Region.ready md ops listed = [] → ∀ j, j < ops.size → listed.getD j true = true := by
    intro listed hs hr j
    induction j using Nat.strongRecOn with
    | _ j ih =>
      intro hj
      cases hlj : listed.getD j true with
      | true => rfl
      | false =>
        have : j ∈ Region.ready md ops listed := by
          rw [mem_ready]
          refine ⟨hlj, ops[j], Array.getElem?_eq_getElem hj, fun e he _ => ?_⟩
          have hlt := c3 j _ (Array.getElem?_eq_getElem hj) e he
          have := ih e.on hlt (by omega)
          have hl : e.on < listed.size := by omega
          simp [hl] at this ⊢
          exact this
        rw [hr] at this
        cases this
  have hts : t < ops.size := (Array.getElem?_eq_some_iff.1 hot).1
  intro fuel
  induction fuel with
  | zero => intro listed X w hs hc ht hf; omega
  | succ fuel ih =>
    intro listed X w hs hc ht hf hcl hB hF
    refine ⟨fun hr => ?_, fun i hi => ?_⟩
    · have := hready listed hs hr t hts
      rw [ht] at this; cases this
    obtain ⟨hl, o, ho, hw⟩ := mem_ready.1 hi
    by_cases hit : i = t
    · subst hit
      obtain rfl : o = ot := Option.some.inj (ho.symm.trans hot)
      have hall : ∀ p ∈ L, listed.getD p.1 true = true := fun p hp => clos_listed hcl N _ (fun j hj => by
        obtain ⟨e, he, rfl⟩ := List.mem_map.1 hj
        obtain ⟨he, hb⟩ := List.mem_filter.1 he
        have he : e ∈ o.after := Array.mem_toList_iff.1 he
        have h1 := hw e he hb
        have h2 := c3 i o ho e he
        refine ⟨by omega, ?_⟩
        have hl : e.on < listed.size := by omega
        simp [hl] at h1 ⊢
        exact h1) c3 p.1 (c7 p hp)
      unfold wpOp
      simp only [ho]
      rw [if_pos (by simp [Region.wanted, hog])]
      refine .inl (hend X w hB (fun p hp => hF p hp (hall p hp)) _ (fun a' w' hq => ⟨fun h => absurd rfl h, wpAnyU_done ?_ hq _⟩))
      refine List.eq_nil_iff_forall_not_mem.2 (fun j hj => ?_)
      obtain ⟨hlj, oj, hoj, _⟩ := mem_ready.1 hj
      by_cases hij : i = j
      · subst hij
        have hl2 : i < listed.size := by omega
        simp [hl2] at hlj
      · rw [getD_set_ne true hij] at hlj
        rcases hc j (Array.getElem?_eq_some_iff.1 hoj).1 hlj with h | ⟨p, hp, rfl⟩
        · exact hij h.symm
        · rw [hall p hp] at hlj; cases hlj
    obtain ⟨p, hp, hpi⟩ := (hc i (Array.getElem?_eq_some_iff.1 ho).1 hl).resolve_left hit
    obtain ⟨o', ho', hd⟩ := c1 p hp
    rw [hpi] at ho'
    obtain rfl : o = o' := Option.some.inj (ho.symm.trans ho')
    unfold wpOp
    simp only [ho]
    have hst := hstep p hp
    rw [hpi] at hst
    have hst := hst o ho X w hB (fun q hq hqa => ?_) (fun a' w' => (i ≠ t → listed.getD t true = false → S w') ∧ wpAnyU P md ops Q S t fuel (listed.setIfInBounds i true) a' w') (fun v w' hv hb' => ?_)
    · split at hst
      · rename_i hw; rw [if_pos hw]; exact .inl hst
      · rename_i hw; rw [if_neg hw]; exact hst
    · obtain ⟨e, he, hb⟩ := Array.any_eq_true'.1 hqa
      simp only [Bool.and_eq_true, beq_iff_eq] at hb
      refine hF q hq ?_
      have := hw e he hb.1
      rw [hb.2] at this
      rcases Nat.lt_or_ge q.1 listed.size with h | h
      · simp [h] at this ⊢; exact this
      · simp [Array.getElem?_eq_none h]
    · have hB' : Below w0.heap.size w0 w' := hB.trans (hb'.mono hB.size)
      have hact : (putsA L X a0).put o.dst v = putsA L (fun j => if j = i then v else X j) a0 := putsA_put L X a0 c1 c4 c5 hp hpi ho v
      refine ⟨fun _ _ => hS w' hB', ?_⟩
      rw [hact]
      refine ih (listed.setIfInBounds i true) _ w' (by simpa using hs) (fun j hj hlj => ?_) ?_ ?_ ?_ hB' (fun q hq hlq => ?_)
      · refine hc j hj ?_
        by_cases hij : i = j
        · subst hij; exact hl
        · rw [getD_set_ne true hij] at hlj; exact hlj
      · rw [getD_set_ne true hit]; exact ht
      · have := unl_lt listed i p.2 hl L (by rw [← hpi]; exact hp)
        omega
      · intro j oj hoj hlj e he hb
        refine getD_set_true ?_
        by_cases hij : i = j
        · subst hij
          obtain rfl : o = oj := Option.some.inj (ho.symm.trans hoj)
          exact hw e he hb
        · rw [getD_set_ne true hij] at hlj
          exact hcl j oj hoj hlj e he hb
      · show F q.1 (if q.1 = i then v else X q.1) w'
        by_cases hqi : q.1 = i
        · rw [if_pos hqi, hqi]; exact hv
        · rw [if_neg hqi]
          rw [getD_set_ne true (fun e => hqi e.symm)] at hlq
          exact hmono _ _ _ _ (hF q hq hlq) hb'

def factsOkT (md : Region.Mode) (ops : Array Oper) (listed : Array Bool) (L : List (Nat × Option Nat)) (t : Nat) : Bool :=
  L.all (fun p => match ops[p.1]? with | some o => o.dst == p.2 | none => false) &&
  (List.range ops.size).all (fun j => listed.getD j true || j == t || L.any (·.1 == j)) &&
  (List.range ops.size).all (fun j => match ops[j]? with | some o => o.after.all (fun e => decide (e.on < j)) | none => true) &&
  decide (L.map (·.1)).Nodup && decide (L.filterMap (·.2)).Nodup && (listed.size == ops.size) &&
  L.all (fun p => p.1 != t) && !(listed.getD t true) &&
  (match ops[t]? with | some o => L.all (fun p => (clos md ops ops.size ((o.after.toList.filter (Region.binds md)).map (·.on))).contains p.1) | none => false) &&
  (List.range ops.size).all (fun j => !(listed.getD j true) || match ops[j]? with | some o => o.after.all (fun e => !(Region.binds md e) || listed.getD e.on false) | none => true)
theorem wpAnyU_factsT (L : List (Nat × Option Nat)) (F : Nat → Value → World → Prop) {listed0 : Array Bool} {a0 : Act} {w0 : World} {fuel : Nat} {ot : Oper} (hot : ops[t]? = some ot) (hog : ot.guard = none)
    (hmono : ∀ i v w w', F i v w → Below w.heap.size w w' → F i v w') (hS : ∀ w, Below w0.heap.size w0 w → S w)
    (hck : factsOkT md ops listed0 L t = true) (hfuel : unl listed0 L < fuel) (hno : L.all (fun p => !(listed0.getD p.1 true)) = true) (hstep : ∀ p ∈ L, StepF P md ops Q L a0 w0 F p.1)
    (hend : ∀ X w, Below w0.heap.size w0 w → (∀ p ∈ L, F p.1 (X p.1) w) → ∀ K : Act → World → Prop, (∀ a' w', Q .normal a' w' → K a' w') → ot.wp P (putsA L X a0) w K Q) : wpAnyU P md ops Q S t fuel listed0 a0 w0 := by
  unfold factsOkT at hck
  simp only [Bool.and_eq_true, decide_eq_true_eq, beq_iff_eq] at hck
  obtain ⟨⟨⟨⟨⟨⟨⟨⟨⟨k1, k2⟩, k3⟩, k4⟩, k5⟩, k6⟩, k7⟩, k8⟩, k9⟩, k10⟩ := hck
  have c1 : ∀ p ∈ L, ∃ o, ops[p.1]? = some o ∧ o.dst = p.2 := by
    intro p hp
    have := List.all_eq_true.1 k1 p hp
    cases ho : ops[p.1]? with
    | none => rw [ho] at this; cases this
    | some o =>
      rw [ho] at this
      simp only [beq_iff_eq] at this
      exact ⟨o, rfl, this⟩
  have c3 : ∀ (j : Nat) (o : Oper), ops[j]? = some o → ∀ e ∈ o.after, e.on < j := by
    intro j o ho e he
    have := List.all_eq_true.1 k3 j (List.mem_range.2 (Array.getElem?_eq_some_iff.1 ho).1)
    rw [ho] at this
    have := Array.all_eq_true'.1 this e he
    simpa using this
  have c2 : ∀ j, j < ops.size → listed0.getD j true = false → j = t ∨ ∃ p ∈ L, p.1 = j := by
    intro j hj hl
    have := List.all_eq_true.1 k2 j (List.mem_range.2 hj)
    rw [hl] at this
    simp only [Bool.false_or, Bool.or_eq_true, List.any_eq_true, beq_iff_eq] at this
    exact this
  have c6 : ∀ p ∈ L, p.1 ≠ t := by
    intro p hp
    have := List.all_eq_true.1 k7 p hp
    simpa using this
  have c7 : ∀ p ∈ L, p.1 ∈ clos md ops ops.size ((ot.after.toList.filter (Region.binds md)).map (·.on)) := by
    intro p hp
    rw [hot] at k9
    have := List.all_eq_true.1 k9 p hp
    exact List.contains_iff_mem.1 this
  have c8 : ∀ j o, ops[j]? = some o → listed0.getD j true = true → ∀ e ∈ o.after, Region.binds md e = true → listed0.getD e.on false = true := by
    intro j o ho hl e he hb
    have := List.all_eq_true.1 k10 j (List.mem_range.2 (Array.getElem?_eq_some_iff.1 ho).1)
    rw [hl, ho] at this
    simp only [Bool.not_true, Bool.false_or] at this
    have := Array.all_eq_true'.1 this e he
    rw [hb] at this
    simpa using this
  have hself : putsA L (fun j => a0.tmps.getD (((ops[j]?).bind (·.dst)).getD 0) undef) a0 = a0 := by
    unfold putsA
    rw [putsT_self]
    intro p hp d hd
    obtain ⟨o, ho, hdo⟩ := c1 p hp
    simp only [ho, Option.bind_some, hdo, hd, Option.getD_some]
  have := facts_goT L a0 w0 F hot hog hmono hS c1 c3 k4 k5 c6 ops.size c7 hstep hend fuel listed0 (fun j => a0.tmps.getD (((ops[j]?).bind (·.dst)).getD 0) undef) w0 k6 c2 (by simpa using k8) hfuel c8 (Below.refl _ _) (fun p hp hl => by
    have := List.all_eq_true.1 hno p hp
    rw [hl] at this; cases this)
  rw [hself] at this
  exact this
end
end Go.Proofs.YthnbnckmeffkmaaGreat
