/- spec.chosen of the genesis. -/
import Derived.Test.YthnbnckmeffkmaaGreatG25
import Derived.Test.YthnbnckmeffkmaaGreatG15
namespace Go.Proofs.YthnbnckmeffkmaaGreat
open Go.RowKit Go.Lib
set_option linter.unusedVariables false
set_option linter.unusedSimpArgs false
attribute [local go_sem ↓] Go.wp_at_zero Go.wp_at_succ

structure ChS (G : GB) (V : List Value) (sv : Value) (pb ib : Nat) (w : World) : Prop where
  n : Gen G V sv w
  p : Arr w pb 30 [.pointer (some ⟨G.wd, 0, none⟩)]
  t : Arr w ib 24 (bys gI)
theorem ChS.below {G : GB} {V : List Value} {sv : Value} {pb ib : Nat} {w w' : World} (h : ChS G V sv pb ib w) (hb : Below w.heap.size w w') : ChS G V sv pb ib w' := ⟨h.n.below hb, h.p.below hb h.p.lt, h.t.below hb h.t.lt⟩
set_option maxRecDepth 100000 in
set_option maxHeartbeats 3200000 in
theorem chosen_one (G : GB) (V : List Value) (sv : Value) (w : World) (hG : Gen G V sv w) :
    Calls Tryz.prog 94 #[.pointer (some ⟨G.wd, 0, none⟩), .agg (bys gI).toArray] w fun e w' => ∃ g, e = .returned (.slice (some ⟨g, 0, none⟩) 1 1) ∧ w'.rangeAt g 0 (bys gI) ∧ Below w.heap.size w w' := by
  have hz := zero_h
  have HGn := Lib.hid hG
  clear hG
  have hmf : ∀ (fn : Fn) (first cap : Array Value) (w : World), (Instr.makeFunc fn first cap).run Tryz.prog w = .ok (.func fn first cap) w := fun _ _ _ _ => rfl
  go_enter Tryz.func94, Tryz.ntmps94
  go_upto_region 2 with fail
  have hpk := two_laid w [.pointer (some ⟨G.wd, 0, none⟩)] (bys gI) 30 24 _ rfl
  have HS := Lib.hid (show ChS G V sv w.heap.size (w.heap.size + 1) _ from ⟨HGn.out.below hpk.2.2, hpk.1, hpk.2.1⟩)
  have HB := Lib.hid hpk.2.2
  clear hpk HGn
  generalize World.alloc (World.alloc _ _) _ = w1 at *
  obtain ⟨B, hB⟩ : ∃ g, w.heap.size = g := ⟨_, rfl⟩
  rw [hB] at HS HB ⊢
  have HBe := Lib.hid hB
  clear hB
  obtain ⟨ib, hib⟩ : ∃ g, B + 1 = g := ⟨_, rfl⟩
  rw [hib] at HS ⊢
  clear hib
  have HZ := Lib.hid (show B ≤ w1.heap.size from Nat.le_of_lt HS.out.p.lt)
  have hc := HS.out.p.cell 0
  dsimp only [List.getElem?_cons_zero] at hc
  have HC := Lib.hid (tips_one G V sv w1 HS.out.n)
  go_wp2_with fail
  with_reducible refine HC.out.mono ?_
  rintro e w2 ⟨tg, tc, rfl, _, _, p3, hb9⟩
  dsimp only
  have HR := Lib.hid p3
  have HS2 := Lib.hid (HS.out.below hb9)
  have HB2 := Lib.hid (HB.out.trans (hb9.mono HZ.out))
  have HZ2 := Lib.hid (Nat.le_trans HZ.out hb9.size)
  clear p3 hb9 HC HS HB HZ hc
  go_wp2
  refine wp_loop_rounds 2 ?_
  rw [rounds_succ]
  go_upto_region 4 with fail
  go_step
  iterate 3 (first | go_values | go_skip | go_guarded | go_step | go_upon)
  refine wpList_load_mid (P := Tryz.prog) rfl 24 _ rfl (tg) (0) rfl _ _ (HR.out) Tryz.underlying24 rfl (size_h2 gI gI_h) ?_
  simp only [Act.put, List.setIfInBounds_toArray, List.set_cons_zero, List.set_cons_succ]
  iterate 3 (first | go_values | go_skip | go_guarded | go_step | go_upon)
  refine wpList_store_box (P := Tryz.prog) rfl 24 _ _ rfl w2 _ (bys gI) rfl rfl (by rw [List.size_toArray, bys_len, bys_len, zH_h.1, (gI_h).1]) (size_h2 gI gI_h) (bys_one gI) ?_
  intro w3 ha9 hb9
  have HA2 := Lib.hid ha9.out
  have HBq := Lib.hid hb9.out
  clear ha9 hb9
  have HS3 := Lib.hid (HS2.out.below HBq.out)
  have HB3 := Lib.hid (HB2.out.trans (HBq.out.mono HZ2.out))
  have HZ3 := Lib.hid (Nat.le_trans HZ2.out HBq.out.size)
  obtain ⟨t8, ht8⟩ : ∃ t8, w2.heap.size = t8 := ⟨_, rfl⟩
  rw [ht8] at HA2 ⊢
  clear HBq HB2 HS2 HZ2 ht8 HR
  have hns := eq_self w3
  go_upto_region 5 with fail
  go_step
  refine wpList_load_mid (P := Tryz.prog) rfl 24 _ rfl (t8) (0) rfl _ _ (HA2.out.range) Tryz.underlying24 rfl (size_h2 gI gI_h) ?_
  simp only [Act.put, List.setIfInBounds_toArray, List.set_cons_zero, List.set_cons_succ]
  refine wpList_load_mid (P := Tryz.prog) rfl 24 _ rfl (ib) (0) rfl _ _ (HS3.out.t.range) Tryz.underlying24 rfl (size_h2 gI gI_h) ?_
  simp only [Act.put, List.setIfInBounds_toArray, List.set_cons_zero, List.set_cons_succ]
  go_wp2
  rw [rounds_succ]
  go_upto_region 8 with fail
  clear hns
  have HC := Lib.hid (fun f => sortf_h0 f w3)
  go_wp2_with fail
  with_reducible refine (HC.out _).mono ?_
  rintro e w4 ⟨rfl, hb9⟩
  dsimp only
  have HS4 := Lib.hid (HS3.out.below hb9)
  have HB4 := Lib.hid (HB3.out.trans (hb9.mono HZ3.out))
  have HZ4 := Lib.hid (Nat.le_trans HZ3.out hb9.size)
  clear hb9 HC HA2 HS3 HB3 HZ3
  go_upto_region 9 with fail
  go_step
  refine wpList_load_mid (P := Tryz.prog) rfl 24 _ rfl (ib) (0) rfl _ _ (HS4.out.t.range) Tryz.underlying24 rfl (size_h2 gI gI_h) ?_
  simp only [Act.put, List.setIfInBounds_toArray, List.set_cons_zero, List.set_cons_succ]
  refine wpList_plain rfl (fun K9 hK9 => ?_)
  refine wp_bs_run (P := Tryz.prog) 39 1 _ rfl #[(0, .agg (bys gI).toArray)] (by simp only [List.map_toArray, List.map_cons, List.map_nil]; rfl) _ (hs_build w4) (hK9 _ _ ?_)
  simp only [Act.put, List.setIfInBounds_toArray, List.set_cons_zero, List.set_cons_succ]
  clear hK9
  have hb := (Below.refl w4.heap.size w4).alloc (Nat.le_refl _) (.cells (bys gI).toArray 24)
  have HA := Lib.hid (Arr.made w4 24 (bys gI))
  have HB5 := Lib.hid (HB4.out.trans (hb.mono HZ4.out))
  have HZ5 := Lib.hid (Nat.le_trans HZ4.out hb.size)
  obtain ⟨g, hg⟩ : ∃ g, w4.heap.size = g := ⟨_, rfl⟩
  rw [hg] at HA ⊢
  clear hb hg HS4 HB4 HZ4
  generalize World.alloc _ _ = w5 at *
  go_upto_region 17 with (refine wp_loop_rounds 1 ?_; rw [rounds_succ])
  have HC := Lib.hid (sortf_h1 (some ⟨g, 0, none⟩) 1 (.func (.func 52) #[] #[]) w5)
  go_wp2_with fail
  with_reducible refine HC.out.mono ?_
  rintro e w6 ⟨rfl, hb9⟩
  dsimp only
  have HF := Lib.hid (And.intro (range_keep HA.out.range gI_h hb9) (HB5.out.trans (hb9.mono HZ5.out)))
  clear hb9 HC HA HB5 HZ5
  go_wp2
  go_ret
  exact ⟨g, rfl, HF.out.1, by rw [HBe.out]; exact HF.out.2⟩
end Go.Proofs.YthnbnckmeffkmaaGreat
/- A region that draws its order: some of its operations make memory in any order, the others wait for all of these. Nothing of the dump stands here. -/
namespace Go.Proofs.YthnbnckmeffkmaaGreat
open Go.RowKit Go.Lib
set_option linter.unusedVariables false

def setL (L : List (Nat × Option Nat)) (a : Array Bool) : Array Bool := L.foldl (fun a p => a.setIfInBounds p.1 true) a
theorem setL_size : ∀ (L : List (Nat × Option Nat)) (a : Array Bool), (setL L a).size = a.size
  | [], _ => rfl
  | p :: L, a => by
    have := setL_size L (a.setIfInBounds p.1 true)
    rw [Array.size_setIfInBounds] at this
    exact this
theorem setL_keeps : ∀ (L : List (Nat × Option Nat)) (a : Array Bool) (j : Nat), a.getD j true = true → (setL L a).getD j true = true
  | [], _, _, h => h
  | p :: L, a, j, h => setL_keeps L (a.setIfInBounds p.1 true) j (by
    by_cases e : p.1 = j
    · subst e
      rcases Nat.lt_or_ge p.1 a.size with h1 | h1
      · simp [h1]
      · simp [Nat.not_lt.2 h1]
    · rw [getD_set_ne true e]; exact h)
theorem setL_mem : ∀ (L : List (Nat × Option Nat)) (a : Array Bool) (p : Nat × Option Nat), p ∈ L → (setL L a).getD p.1 true = true
  | q :: L, a, p, h => by
    rcases List.mem_cons.1 h with rfl | h
    · refine setL_keeps L (a.setIfInBounds p.1 true) p.1 ?_
      rcases Nat.lt_or_ge p.1 a.size with h1 | h1
      · simp [h1]
      · simp [Nat.not_lt.2 h1]
    · exact setL_mem L (a.setIfInBounds q.1 true) p h
theorem setL_other : ∀ (L : List (Nat × Option Nat)) (a : Array Bool) (j : Nat), (∀ p ∈ L, p.1 ≠ j) → (setL L a).getD j true = a.getD j true
  | [], _, _, _ => rfl
  | q :: L, a, j, h => (setL_other L (a.setIfInBounds q.1 true) j (fun p hp => h p (List.mem_cons_of_mem _ hp))).trans (getD_set_ne true (h q (List.mem_cons_self ..)))
theorem bools_ext {a b : Array Bool} (hs : a.size = b.size) (h : ∀ j, a.getD j true = b.getD j true) : a = b := by
  apply Array.ext hs
  intro i h1 h2
  have := h i
  simp [h1, h2] at this
  exact this
section
variable {P : Program} {md : Region.Mode} {ops : Array Oper} {Q : Exit → Act → World → Prop} {S : World → Prop} {t : Nat}
theorem wpAnyU_more : ∀ (fuel : Nat) (listed : Array Bool) (a : Act) (w : World), wpAnyU P md ops Q S t fuel listed a w → wpAnyU P md ops Q S t (fuel + 1) listed a w
  | 0, _, _, _, h => wpAnyU_done h.1 h.2 _
  | fuel + 1, _, _, _, h => ⟨h.1, fun i hi => wpOp_mono (fun a' w' h' => ⟨h'.1, wpAnyU_more fuel _ a' w' h'.2⟩) (h.2 i hi)⟩
theorem wpAnyU_le {m n : Nat} (hmn : m ≤ n) {listed : Array Bool} {a : Act} {w : World} (h : wpAnyU P md ops Q S t m listed a w) : wpAnyU P md ops Q S t n listed a w := by
  induction n with
  | zero => obtain rfl : m = 0 := by omega
            exact h
  | succ n ih =>
    rcases Nat.lt_or_ge n m with h1 | h1
    · obtain rfl : m = n + 1 := by omega
      exact h
    · exact wpAnyU_more n _ _ _ (ih h1)
theorem unl_zero {listed : Array Bool} : ∀ {L : List (Nat × Option Nat)}, unl listed L = 0 → ∀ p ∈ L, listed.getD p.1 true = true := by
  intro L h p hp
  cases hl : listed.getD p.1 true with
  | true => rfl
  | false =>
    unfold unl at h
    have := List.length_eq_zero_iff.1 h
    have h1 : p ∈ L.filter (fun p => !(listed.getD p.1 true)) := List.mem_filter.2 ⟨hp, by rw [hl]; rfl⟩
    rw [this] at h1
    cases h1
theorem facts_goC (L : List (Nat × Option Nat)) (a0 : Act) (w0 : World) (F : Nat → Value → World → Prop) (listed0 : Array Bool) (R : Nat)
    (hmono : ∀ i v w w', F i v w → Below w.heap.size w w' → F i v w') (hS : ∀ w, Below w0.heap.size w0 w → S w)
    (c1 : ∀ p ∈ L, ∃ o, ops[p.1]? = some o ∧ o.dst = p.2) (c3 : ∀ (j : Nat) (o : Oper), ops[j]? = some o → ∀ e ∈ o.after, e.on < j)
    (c4 : (L.map (·.1)).Nodup) (c5 : (L.filterMap (·.2)).Nodup)
    (c6 : ∀ (j : Nat) (o : Oper), ops[j]? = some o → listed0.getD j true = false → (∀ p ∈ L, p.1 ≠ j) → ∀ p ∈ L, p.1 ∈ clos md ops ops.size ((o.after.toList.filter (Region.binds md)).map (·.on)))
    (hs0 : listed0.size = ops.size) (hstep : ∀ p ∈ L, StepF P md ops Q L a0 w0 F p.1)
    (hend : ∀ X w, Below w0.heap.size w0 w → (∀ p ∈ L, F p.1 (X p.1) w) → wpAnyU P md ops Q S t R (setL L listed0) (putsA L X a0) w) :
    ∀ (fuel : Nat) (listed : Array Bool) (X : Nat → Value) (w : World), listed.size = ops.size → (∀ j, (∀ p ∈ L, p.1 ≠ j) → listed.getD j true = listed0.getD j true) → unl listed L + R ≤ fuel →
      (∀ j o, ops[j]? = some o → listed.getD j true = true → ∀ e ∈ o.after, Region.binds md e = true → listed.getD e.on false = true) →
      Below w0.heap.size w0 w → (∀ p ∈ L, listed.getD p.1 true = true → F p.1 (X p.1) w) → wpAnyU P md ops Q S t fuel listed (putsA L X a0) w := by
  have hready : ∀ listed : Array Bool, listed.size = ops.size → Region.ready md ops listed = [] → ∀ j, j < ops.size → listed.getD j true = true := by
    intro listed hs hr j
    induction j using Nat.strongRecOn with
    | _ j ih =>
      intro hj
      cases hlj : listed.getD j true with
      | true => rfl
      | false =>
        have : j ∈ Region.ready md ops listed := by
          rw [mem_ready]
          refine ⟨hlj, ops[j], Array.getElem?_eq_getElem hj, fun e he _ => ?_⟩
          have hlt := c3 j _ (Array.getElem?_eq_getElem hj) e he
          have := ih e.on hlt (by omega)
          have hl : e.on < listed.size := by omega
          simp [hl] at this ⊢
          exact this
        rw [hr] at this
        cases this
  have hfin : ∀ (fuel : Nat) (listed : Array Bool) (X : Nat → Value) (w : World), listed.size = ops.size → (∀ j, (∀ p ∈ L, p.1 ≠ j) → listed.getD j true = listed0.getD j true) → (∀ p ∈ L, listed.getD p.1 true = true) → R ≤ fuel →
      Below w0.heap.size w0 w → (∀ p ∈ L, listed.getD p.1 true = true → F p.1 (X p.1) w) → wpAnyU P md ops Q S t fuel listed (putsA L X a0) w := by
    intro fuel listed X w hs hc hall hf hB hF
    have e : listed = setL L listed0 := by
      refine bools_ext (by rw [hs, setL_size, hs0]) (fun j => ?_)
      by_cases h : ∀ p ∈ L, p.1 ≠ j
      · rw [hc j h, setL_other L listed0 j h]
      · have ⟨p, hp⟩ : ∃ p, p ∈ L ∧ p.1 = j := Classical.byContradiction fun hn => h fun p hp e => hn ⟨p, hp, e⟩
        obtain ⟨hp, rfl⟩ := hp
        rw [hall p hp, setL_mem L listed0 p hp]
    rw [e]
    exact wpAnyU_le hf (hend X w hB (fun p hp => hF p hp (hall p hp)))
  intro fuel
  induction fuel with
  | zero =>
    intro listed X w hs hc hf hcl hB hF
    exact hfin 0 listed X w hs hc (unl_zero (by omega)) (by omega) hB hF
  | succ fuel ih =>
    intro listed X w hs hc hf hcl hB hF
    by_cases hall : ∀ p ∈ L, listed.getD p.1 true = true
    · exact hfin (fuel + 1) listed X w hs hc hall (by omega) hB hF
    refine ⟨fun hr => ?_, fun i hi => ?_⟩
    · refine absurd (fun p hp => ?_) hall
      obtain ⟨o, ho, _⟩ := c1 p hp
      exact hready listed hs hr p.1 (Array.getElem?_eq_some_iff.1 ho).1
    obtain ⟨hl, o, ho, hw⟩ := mem_ready.1 hi
    have hmem : ∃ p, p ∈ L ∧ p.1 = i := Classical.byContradiction fun hn => by
      have hne : ∀ p ∈ L, p.1 ≠ i := fun p hp e => hn ⟨p, hp, e⟩
      refine hall fun p hp => clos_listed hcl ops.size _ (fun j hj => by
        obtain ⟨e, he, rfl⟩ := List.mem_map.1 hj
        obtain ⟨he, hb⟩ := List.mem_filter.1 he
        have he : e ∈ o.after := Array.mem_toList_iff.1 he
        have h1 := hw e he hb
        have h2 := c3 i o ho e he
        have h3 := (Array.getElem?_eq_some_iff.1 ho).1
        refine ⟨by omega, ?_⟩
        have hl : e.on < listed.size := by omega
        simp [hl] at h1 ⊢
        exact h1) c3 p.1 (c6 i o ho (by rw [← hc i hne]; exact hl) hne p hp)
    obtain ⟨p, hp, hpi⟩ := hmem
    obtain ⟨o', ho', hd⟩ := c1 p hp
    rw [hpi] at ho'
    obtain rfl : o = o' := Option.some.inj (ho.symm.trans ho')
    unfold wpOp
    simp only [ho]
    have hst := hstep p hp
    rw [hpi] at hst
    have hst := hst o ho X w hB (fun q hq hqa => ?_) (fun a' w' => (i ≠ t → listed.getD t true = false → S w') ∧ wpAnyU P md ops Q S t fuel (listed.setIfInBounds i true) a' w') (fun v w' hv hb' => ?_)
    · split at hst
      · rename_i hw; rw [if_pos hw]; exact .inl hst
      · rename_i hw; rw [if_neg hw]; exact hst
    · obtain ⟨e, he, hb⟩ := Array.any_eq_true'.1 hqa
      simp only [Bool.and_eq_true, beq_iff_eq] at hb
      refine hF q hq ?_
      have := hw e he hb.1
      rw [hb.2] at this
      rcases Nat.lt_or_ge q.1 listed.size with h | h
      · simp [h] at this ⊢; exact this
      · simp [Array.getElem?_eq_none h]
    · have hB' : Below w0.heap.size w0 w' := hB.trans (hb'.mono hB.size)
      have hact : (putsA L X a0).put o.dst v = putsA L (fun j => if j = i then v else X j) a0 := putsA_put L X a0 c1 c4 c5 hp hpi ho v
      refine ⟨fun _ _ => hS w' hB', ?_⟩
      rw [hact]
      refine ih (listed.setIfInBounds i true) _ w' (by simpa using hs) (fun j hj => ?_) ?_ ?_ hB' (fun q hq hlq => ?_)
      · rw [getD_set_ne true (fun e => hj p hp (hpi.trans e))]; exact hc j hj
      · have := unl_lt listed i p.2 hl L (by rw [← hpi]; exact hp)
        omega
      · intro j oj hoj hlj e he hb
        refine getD_set_true ?_
        by_cases hij : i = j
        · subst hij
          obtain rfl : o = oj := Option.some.inj (ho.symm.trans hoj)
          exact hw e he hb
        · rw [getD_set_ne true hij] at hlj
          exact hcl j oj hoj hlj e he hb
      · show F q.1 (if q.1 = i then v else X q.1) w'
        by_cases hqi : q.1 = i
        · rw [if_pos hqi, hqi]; exact hv
        · rw [if_neg hqi]
          rw [getD_set_ne true (fun e => hqi e.symm)] at hlq
          exact hmono _ _ _ _ (hF q hq hlq) hb'
def factsOkC (md : Region.Mode) (ops : Array Oper) (listed : Array Bool) (L : List (Nat × Option Nat)) : Bool :=
  L.all (fun p => match ops[p.1]? with | some o => o.dst == p.2 | none => false) &&
  (List.range ops.size).all (fun j => listed.getD j true || L.any (·.1 == j) || match ops[j]? with | some o => L.all (fun p => (clos md ops ops.size ((o.after.toList.filter (Region.binds md)).map (·.on))).contains p.1) | none => false) &&
  (List.range ops.size).all (fun j => match ops[j]? with | some o => o.after.all (fun e => decide (e.on < j)) | none => true) &&
  decide (L.map (·.1)).Nodup && decide (L.filterMap (·.2)).Nodup && (listed.size == ops.size) &&
  (List.range ops.size).all (fun j => !(listed.getD j true) || match ops[j]? with | some o => o.after.all (fun e => !(Region.binds md e) || listed.getD e.on false) | none => true)
/-- The listed operations in any order, each with its fact; then the others, which wait for all of these. -/
theorem wpAnyU_factsC (L : List (Nat × Option Nat)) (F : Nat → Value → World → Prop) (R : Nat) {listed0 : Array Bool} {a0 : Act} {w0 : World} {fuel : Nat}
    (hmono : ∀ i v w w', F i v w → Below w.heap.size w w' → F i v w') (hS : ∀ w, Below w0.heap.size w0 w → S w)
    (hck : factsOkC md ops listed0 L = true) (hfuel : unl listed0 L + R ≤ fuel) (hno : L.all (fun p => !(listed0.getD p.1 true)) = true) (hstep : ∀ p ∈ L, StepF P md ops Q L a0 w0 F p.1)
    (hend : ∀ X w, Below w0.heap.size w0 w → (∀ p ∈ L, F p.1 (X p.1) w) → wpAnyU P md ops Q S t R (setL L listed0) (putsA L X a0) w) : wpAnyU P md ops Q S t fuel listed0 a0 w0 := by
  unfold factsOkC at hck
  simp only [Bool.and_eq_true, decide_eq_true_eq, beq_iff_eq] at hck
  obtain ⟨⟨⟨⟨⟨⟨k1, k2⟩, k3⟩, k4⟩, k5⟩, k6⟩, k10⟩ := hck
  have c1 : ∀ p ∈ L, ∃ o, ops[p.1]? = some o ∧ o.dst = p.2 := by
    intro p hp
    have := List.all_eq_true.1 k1 p hp
    cases ho : ops[p.1]? with
    | none => rw [ho] at this; cases this
    | some o =>
      rw [ho] at this
      simp only [beq_iff_eq] at this
      exact ⟨o, rfl, this⟩
  have c3 : ∀ (j : Nat) (o : Oper), ops[j]? = some o → ∀ e ∈ o.after, e.on < j := by
    intro j o ho e he
    have := List.all_eq_true.1 k3 j (List.mem_range.2 (Array.getElem?_eq_some_iff.1 ho).1)
    rw [ho] at this
    have := Array.all_eq_true'.1 this e he
    simpa using this
  have c6 : ∀ (j : Nat) (o : Oper), ops[j]? = some o → listed0.getD j true = false → (∀ p ∈ L, p.1 ≠ j) → ∀ p ∈ L, p.1 ∈ clos md ops ops.size ((o.after.toList.filter (Region.binds md)).map (·.on)) := by
    intro j o ho hl hne p hp
    have := List.all_eq_true.1 k2 j (List.mem_range.2 (Array.getElem?_eq_some_iff.1 ho).1)
    rw [hl, ho] at this
    have hno : L.any (fun p => p.1 == j) = false := by
      rw [Bool.eq_false_iff]
      intro h
      obtain ⟨q, hq, e⟩ := List.any_eq_true.1 h
      exact hne q hq (by simpa using e)
    rw [hno] at this
    simp only [Bool.false_or] at this
    exact List.contains_iff_mem.1 (List.all_eq_true.1 this p hp)
  have c8 : ∀ j o, ops[j]? = some o → listed0.getD j true = true → ∀ e ∈ o.after, Region.binds md e = true → listed0.getD e.on false = true := by
    intro j o ho hl e he hb
    have := List.all_eq_true.1 k10 j (List.mem_range.2 (Array.getElem?_eq_some_iff.1 ho).1)
    rw [hl, ho] at this
    simp only [Bool.not_true, Bool.false_or] at this
    have := Array.all_eq_true'.1 this e he
    rw [hb] at this
    simpa using this
  have hself : putsA L (fun j => a0.tmps.getD (((ops[j]?).bind (·.dst)).getD 0) undef) a0 = a0 := by
    unfold putsA
    rw [putsT_self]
    intro p hp d hd
    obtain ⟨o, ho, hdo⟩ := c1 p hp
    simp only [ho, Option.bind_some, hdo, hd, Option.getD_some]
  have := facts_goC (t := t) L a0 w0 F listed0 R hmono hS c1 c3 k4 k5 c6 k6 hstep hend fuel listed0 (fun j => a0.tmps.getD (((ops[j]?).bind (·.dst)).getD 0) undef) w0 k6 (fun _ _ => rfl) hfuel c8 (Below.refl _ _) (fun p hp hl => by
    have := List.all_eq_true.1 hno p hp
    rw [hl] at this; cases this)
  rw [hself] at this
  exact this
end
end Go.Proofs.YthnbnckmeffkmaaGreat
