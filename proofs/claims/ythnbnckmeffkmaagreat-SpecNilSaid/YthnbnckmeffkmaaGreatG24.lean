/- accept.Of of one block without transactions. -/
import Derived.Test.YthnbnckmeffkmaaGreatG23
import Derived.Laws.EntriesVeiled
namespace Go.Proofs.YthnbnckmeffkmaaGreat
open Go.RowKit Go.Lib
set_option linter.unusedVariables false
set_option linter.unusedSimpArgs false
attribute [local go_sem ↓] Go.wp_at_zero Go.wp_at_succ

theorem arr_ne {w : World} {a b : Nat} {t u : TypeId} {xs ys : List Value} (ha : Arr w a t xs) (hb : Arr w b u ys) (hn : t ≠ u) : a ≠ b := fun e => by
  subst e
  unfold Arr at ha hb
  rw [ha] at hb
  injection hb with h
  injection h with h1 h2
  exact hn h2
theorem emp_ne {w : World} {a b : Nat} {u : TypeId} {ys : List Value} (ha : EmpM w a) (hb : Arr w b u ys) : a ≠ b := fun e => by
  subst e
  unfold Arr at hb
  unfold EmpM at ha
  rw [ha] at hb
  cases hb
theorem emps_set {w : World} {s g : Nat} {t : TypeId} {vs : List Value} (h : EmpS w s) (hr : Arr w g t vs) (hn : 194 ≠ t) (j : Nat) (v : Value) : EmpS (w.setCell ⟨g, j, none⟩ v) s := by
  obtain ⟨c, h1, h2⟩ := h
  exact ⟨c, arr_other h1 (arr_ne h1 hr hn) j v, (heap_setCell_other w ⟨g, j, none⟩ c v (emp_ne h2 hr)).trans h2⟩
structure OgS (gP g8 st mb mo : Nat) (w : World) : Prop where
  p : Arr w gP 26 pC
  e : Arr w g8 62 r0C
  m : w.rangeAt mb mo mgC
  s : EmpS w st
  l : mb < w.heap.size
theorem OgS.below {gP g8 st mb mo : Nat} {w w' : World} (h : OgS gP g8 st mb mo w) (hb : Below w.heap.size w w') : OgS gP g8 st mb mo w' :=
  ⟨h.p.below hb h.p.lt, h.e.below hb h.e.lt, rangeAt_below h.m hb h.l, h.s.below hb, Nat.lt_of_lt_of_le h.l hb.size⟩
set_option maxRecDepth 100000 in
set_option maxHeartbeats 6400000 in
theorem of_one (st mb mo cm : Nat) (w : World) (hm : w.rangeAt mb mo mgC) (hs : EmpS w st) :
    Calls Tryz.prog 150 #[.agg pC.toArray, .pointer (some ⟨st, 0, none⟩), .int .u64 1, .slice (some ⟨mb, mo, none⟩) 1 cm] w fun e w' => ∃ g cap, e = .returned (.tuple #[.agg (resC (.slice (some ⟨g, 0, none⟩) 1 cap)).toArray, .int .i64 0]) ∧ w'.rangeAt g 0 [Value.int .u64 0] ∧ Below w.heap.size w w' := by
  have hzr := zero_res
  have hzm := zero_mg
  have HM := Lib.hid hm
  have HSt := Lib.hid hs
  have hlt : mb < w.heap.size := World.block_lt_of_cell? _ _ (hm 65 _ mg_txs)
  have HMl := Lib.hid hlt
  have HMk := Lib.hid hlt
  clear hm hs hlt
  go_enter Tryz.func150, Tryz.ntmps150
  go_upto_region 1 with fail
  have hpk := two_laid w pC r0C 26 62 _ rfl
  have HS := Lib.hid (show OgS w.heap.size (w.heap.size + 1) st mb mo _ from ⟨hpk.1, hpk.2.1, rangeAt_below HM.out hpk.2.2 HMl.out, HSt.out.below hpk.2.2, Nat.lt_of_lt_of_le HMl.out hpk.2.2.size⟩)
  have HB := Lib.hid hpk.2.2
  clear hpk HM HSt HMl
  generalize World.alloc (World.alloc _ _) _ = w1 at *
  obtain ⟨gP, hg⟩ : ∃ g, w.heap.size = g := ⟨_, rfl⟩
  rw [hg] at HS HB HMk ⊢
  have HG := Lib.hid hg
  clear hg
  obtain ⟨g8, hg8⟩ : ∃ g, gP + 1 = g := ⟨_, rfl⟩
  rw [hg8] at HS ⊢
  have HLe := Lib.hid (show gP ≤ g8 by omega)
  clear hg8
  have HZ := Lib.hid HB.out.size
  have HZ0 := Lib.hid (show gP ≤ w1.heap.size from Nat.le_of_lt HS.out.p.lt)
  clear HZ
  have HZ := HZ0
  clear HZ0
  have HC := Lib.hid (copy_emp st w1 HS.out.s)
  go_wp2_with fail
  with_reducible refine (HC.out).mono ?_
  rintro e w2 ⟨s2, rfl, hs2, he2, hb9⟩
  dsimp only
  have HB2 := Lib.hid (HB.out.trans (hb9.mono HZ.out))
  have HZ2 := Lib.hid (Nat.le_trans HZ.out hb9.size)
  have HS9 := Lib.hid (HS.out.below hb9)
  clear HS
  have HS := HS9
  clear HS9
  have HN2 := Lib.hid he2
  clear hs2 he2
  clear hb9 HC HB HZ
  have HB := HB2
  have HZ := HZ2
  clear HB2 HZ2
  go_upto_region 4 with fail
  go_step
  refine wpList_load_mid (P := Tryz.prog) rfl 26 _ rfl (gP) (0) rfl _ _ (HS.out.p.range) Tryz.underlying26 rfl (by kernel_rfl) ?_
  simp only [Act.put, List.setIfInBounds_toArray, List.set_cons_zero, List.set_cons_succ]
  have HC := Lib.hid (may_g w2)
  go_wp2_with fail
  with_reducible refine (HC.out).mono ?_
  rintro e w3 ⟨rfl, hb9⟩
  dsimp only
  have HB2 := Lib.hid (HB.out.trans (hb9.mono HZ.out))
  have HZ2 := Lib.hid (Nat.le_trans HZ.out hb9.size)
  have HS9 := Lib.hid (HS.out.below hb9)
  clear HS
  have HS := HS9
  clear HS9
  have HN3 := Lib.hid (HN2.out.below hb9)
  clear HN2
  clear hb9 HC HB HZ
  have HB := HB2
  have HZ := HZ2
  clear HB2 HZ2
  go_upto_region 7 with fail
  have hb4 := (Below.refl w3.heap.size w3).alloc (Nat.le_refl _) (.cells r0C.toArray 62)
  have HR := Lib.hid (Arr.made w3 62 r0C)
  have HS4 := Lib.hid (HS.out.below hb4)
  have HN4 := Lib.hid (HN3.out.below hb4)
  have HB4 := Lib.hid (HB.out.trans (hb4.mono HZ.out))
  have HZ4 := Lib.hid (Nat.le_trans HZ.out hb4.size)
  have HLl := Lib.hid (And.intro HS.out.e.lt HZ.out)
  obtain ⟨g11, h11⟩ : ∃ g, w3.heap.size = g := ⟨_, rfl⟩
  rw [h11] at HR HLl ⊢
  clear h11 hb4 HS HN3 HB HZ
  generalize World.alloc _ _ = w4 at *
  go_upto_region 8 with fail
  refine wp_loop_rounds 2 ?_
  rw [rounds_succ]
  go_upto_region 9 with fail
  go_step
  iterate 6 (first | go_values | go_skip | go_guarded | go_step | go_upon)
  refine wpList_load_mid (P := Tryz.prog) rfl 200 _ rfl (mb) (mo) rfl _ _ (HS4.out.m) Tryz.underlying200 rfl (mg_size) ?_
  simp only [Act.put, List.setIfInBounds_toArray, List.set_cons_zero, List.set_cons_succ]
  iterate 6 (first | go_values | go_skip | go_guarded | go_step | go_upon)
  refine wpList_store_box (P := Tryz.prog) rfl 200 _ _ rfl w4 _ (mgC) rfl rfl (by rw [List.size_toArray, zM_len, mgC_len]) (mg_size) (mgC_one) ?_
  intro w5 ha9 hb9
  have HA2 := Lib.hid ha9.out
  have HB2 := Lib.hid hb9.out
  clear ha9 hb9
  have HS5 := Lib.hid (HS4.out.below HB2.out)
  have HN5 := Lib.hid (HN4.out.below HB2.out)
  have HR5 := Lib.hid (HR.out.below HB2.out HR.out.lt)
  have HB5 := Lib.hid (HB4.out.trans (HB2.out.mono HZ4.out))
  have HZ5 := Lib.hid (Nat.le_trans HZ4.out HB2.out.size)
  have HGl := Lib.hid (show g11 < w5.heap.size from HR5.out.lt)
  obtain ⟨g13, h13⟩ : ∃ g, w4.heap.size = g := ⟨_, rfl⟩
  rw [h13] at HA2 ⊢
  clear h13 HS4 HN4 HR HB4 HZ4 HB2
  have hct : w5.cell? ⟨g13, 65, none⟩ = some (.slice none 0 0) := by rw [HA2.out.cell]; exact mg_txs
  go_upto_region 12 with fail
  refine wp_loop_rounds 1 ?_
  rw [rounds_succ]
  have hc4 := HR5.out.cell 4
  have hf4 := HR5.out.frozen 4
  unfold r0C at hc4
  dsimp only [List.getElem?_cons_zero, List.getElem?_cons_succ] at hc4
  have HO := Lib.hid (show w5.ownsRow w5.heap.size 22 1 (.slice none 0 0) ([] : List Value).length [] from ⟨by simp, .inl ⟨rfl, rfl⟩⟩)
  go_upto_region 22 with fail
  go_step
  iterate 12 (first | go_values | go_skip | go_guarded | go_step | go_upon)
  refine app1 (P := Tryz.prog) w5.heap.size rfl (.tmp 88) (.tmp 90) 60 22 (.int .u64 0) 8 rfl Tryz.underlying60 (by kernel_rfl) rfl (by omega) (.slice none 0 0) [] (.int .u64 0) rfl rfl rfl HO.out (Nat.le_refl _) (by simp) ?_
  intro v6 w6 ho6 hb6 _ _
  obtain ⟨g, cap, rfl, h1, h2, h3, h4, h5⟩ := own_one ho6
  have hbb := hb6 w5.heap.size w5 (Below.refl _ _) (Nat.le_refl _)
  have HF6 := Lib.hid (show w6.rangeAt g 0 [Value.int .u64 0] from h5)
  have HS6 := Lib.hid (HS5.out.below hbb)
  have HN6 := Lib.hid (HN5.out.below hbb)
  have HR6 := Lib.hid (HR5.out.below hbb HR5.out.lt)
  have HB6 := Lib.hid (HB5.out.trans (hbb.mono HZ5.out))
  have HNe := Lib.hid (show g11 < g ∧ g < w6.heap.size from ⟨Nat.lt_of_lt_of_le HGl.out h3, h4⟩)
  clear ho6 hb6 h1 h2 h3 h4 h5 hbb HS5 HN5 HR5 HB5 HZ5 HO HGl hc4 hf4 hct
  have hc4 := HR6.out.cell 4
  have hf4 := HR6.out.frozen 4
  unfold r0C at hc4
  dsimp only [List.getElem?_cons_zero, List.getElem?_cons_succ] at hc4
  go_wp2
  have HR7 := Lib.hid (HR6.out.set 4 (.slice (some ⟨g, 0, none⟩) 1 cap))
  unfold r0C at HR7
  dsimp only [List.set_cons_zero, List.set_cons_succ] at HR7
  have hn1 : g ≠ g11 := by have := HNe.out; omega
  have hn2 : g8 ≠ g11 := by have := HLl.out; omega
  have HS7 := Lib.hid (show OfS gP g8 g11 st s2 mb mo g cap (w6.setCell ⟨g11, 4, none⟩ (.slice (some ⟨g, 0, none⟩) 1 cap)) from
    have hm := HMk.out
    have hl := HLl.out
    have hle := HLe.out
    have hsz : (w6.setCell ⟨g11, 4, none⟩ (.slice (some ⟨g, 0, none⟩) 1 cap)).heap.size = w6.heap.size := by simp
    ⟨arr_other HS6.out.p (by omega) 4 _, arr_other HS6.out.e hn2 4 _, HR7.out, range_other HF6.out g11 4 _ hn1, range_other HS6.out.m g11 4 _ (by omega), emps_set HS6.out.s HR6.out (by decide) 4 _, emps_set HN6.out HR6.out (by decide) 4 _, by rw [hsz]; exact HNe.out.2, by rw [hsz]; exact HS6.out.l⟩)
  have HB7 := Lib.hid (HB6.out.setCell (p := ⟨g11, 4, none⟩) (show gP ≤ g11 by have := HLl.out; have := HLe.out; omega) (.slice (some ⟨g, 0, none⟩) 1 cap))
  have HNn := Lib.hid (And.intro hn1 (And.intro (show g ≠ g8 by have := HNe.out; have := HLl.out; omega) hn2))
  clear hn1 hn2 HR7 HS6 HF6 HN6 HR6 HB6 HNe hc4 hf4
  generalize World.setCell _ _ _ = w7 at *
  rw [← HG.out] at HB7
  rw [rounds_succ]
  go_upto_if 38 with fail
  repeat (first | (exact of_t gP g8 g11 st s2 mb mo cm g cap w w7 HS7.out HB7.out (by rw [HG.out]; exact Nat.le_refl _) (by rw [HG.out]; exact HLe.out) (by rw [HG.out]; have := HLl.out; have := HLe.out; omega) HNn.out) | go_step)
end Go.Proofs.YthnbnckmeffkmaaGreat
/- spec.accepts of the genesis. -/
namespace Go.Proofs.YthnbnckmeffkmaaGreat
open Go.RowKit Go.Lib
set_option linter.unusedVariables false
set_option linter.unusedSimpArgs false
attribute [local go_sem ↓] Go.wp_at_zero Go.wp_at_succ

theorem mgs_build0 (H : List Nat) (hH : H.length = 32) (w : World) :
    (Instr.buildSlice 201 1 #[(0, .agg (bys H ++ (bys zH ++ [Value.bool true, .slice none 0 0])).toArray)]).run Tryz.prog w = .ok (.slice (some ⟨w.heap.size, 0, none⟩) 1 1) (w.alloc (.cells (bys H ++ (bys zH ++ [Value.bool true, .slice none 0 0])).toArray 200)) := by
  match H, hH with
  | [x0, x1, x2, x3, x4, x5, x6, x7, x8, x9, x10, x11, x12, x13, x14, x15, x16, x17, x18, x19, x20, x21, x22, x23, x24, x25, x26, x27, x28, x29, x30, x31], _ => show _ = _; kernel_rfl
theorem mgs_build (w : World) : (Instr.buildSlice 201 1 #[(0, .agg mgC.toArray)]).run Tryz.prog w = .ok (.slice (some ⟨w.heap.size, 0, none⟩) 1 1) (w.alloc (.cells mgC.toArray 200)) := mgs_build0 gI gI_h.1 w
theorem wp_bs_run {P : Program} {op : Oper} {a : Act} {w w' : World} {K : Act → World → Prop} {Q : Exit → Act → World → Prop} (t : TypeId) (n : Nat) (parts : Array (Nat × Operand)) (ho : op.op = .buildSlice t n parts)
    (vals : Array (Nat × Value)) (hv : parts.map (fun x => (x.1, a.eval x.2)) = vals) (v : Value) (hr : (Instr.buildSlice t n vals).run P w = .ok v w') (h : K (a.put op.dst v) w') : op.wp P a w K Q := by
  unfold Oper.wp execOp
  have hv' : parts.map (fun (i, x) => (i, a.eval x)) = vals := hv
  simp only [ho, hv']
  simp [hr, Result.andThen]
  exact h
structure AcS (G : GB) (V : List Value) (sv : Value) (g3 g4 : Nat) (w : World) : Prop where
  n : Gen G V sv w
  c : Arr w g3 46 colC
  z : ∃ cs, Arr w g4 62 cs ∧ cs.length = 6 ∧ cs[0]? = some (.slice none 0 0)
theorem AcS.below {G : GB} {V : List Value} {sv : Value} {g3 g4 : Nat} {w w' : World} (h : AcS G V sv g3 g4 w) (hb : Below w.heap.size w w') : AcS G V sv g3 g4 w' := by
  obtain ⟨cs, hz, hl⟩ := h.z
  exact ⟨h.n.below hb, h.c.below hb h.c.lt, cs, hz.below hb hz.lt, hl⟩
structure AcT (G : GB) (V : List Value) (sv : Value) (g3 g4 mb : Nat) (w : World) : Prop where
  a : AcS G V sv g3 g4 w
  m : Arr w mb 200 mgC
theorem AcT.below {G : GB} {V : List Value} {sv : Value} {g3 g4 mb : Nat} {w w' : World} (h : AcT G V sv g3 g4 mb w) (hb : Below w.heap.size w w') : AcT G V sv g3 g4 mb w' := ⟨h.a.below hb, h.m.below hb h.m.lt⟩
theorem gen_set {G : GB} {V : List Value} {sv : Value} {w : World} {g : Nat} {t : TypeId} {vs : List Value} (h : Gen G V sv w) (hr : Arr w g t vs) (h1 : 94 ≠ t) (h2 : 123 ≠ t) (h3 : 194 ≠ t) (us : List Value) (o : Nat) : Gen G V sv (w.setCells g o us) := by
  have hm : G.m ≠ g := fun e => by
    have h0 : w.heap[G.m]? = _ := h.m
    have h4 : w.heap[g]? = _ := hr
    rw [e, h4] at h0
    cases h0
  have hs : w.heap[G.m]? = _ := h.m
  exact ⟨arr_sets h.a (arr_ne h.a hr h1) us o _ h.a, (setCells_other us o w hm).trans h.m, arr_sets h.k (arr_ne h.k hr h2) us o _ h.k, (setCells_other us o w (emp_ne h.p hr)).trans h.p, (setCells_other us o w (emp_ne h.q hr)).trans h.q, ⟨arr_sets h.s.a (arr_ne h.s.a hr h3) us o _ h.s.a, (setCells_other us o w (emp_ne h.s.m hr)).trans h.s.m⟩⟩
theorem par_size : (Tryz.prog.info? 26).map (·.size) = some pC.length := by kernel_rfl
set_option maxRecDepth 100000 in
set_option maxHeartbeats 6400000 in
theorem accepts_one (G : GB) (V : List Value) (sv : Value) (w : World) (hG : Gen G V sv w) :
    Calls Tryz.prog 92 #[.pointer (some ⟨G.wd, 0, none⟩), .agg colC.toArray] w fun e w' => ∃ g cap, e = .returned (.tuple #[.agg (resC (.slice (some ⟨g, 0, none⟩) 1 cap)).toArray, .int .i64 0]) ∧ w'.rangeAt g 0 [Value.int .u64 0] ∧ Below w.heap.size w w' := by
  have hzr := zero_res
  have HGn := Lib.hid hG
  clear hG
  go_enter Tryz.func92, Tryz.ntmps92
  go_upto_region 1 with fail
  have hpk := two_laid w colC r0C 46 62 _ rfl
  have HS := Lib.hid (show AcS G V sv w.heap.size (w.heap.size + 1) _ from ⟨HGn.out.below hpk.2.2, hpk.1, r0C, hpk.2.1, rfl, rfl⟩)
  have HB1 := Lib.hid hpk.2.2
  clear hpk HGn
  generalize World.alloc (World.alloc _ _) _ = w1 at *
  obtain ⟨g3, hg⟩ : ∃ g, w.heap.size = g := ⟨_, rfl⟩
  rw [hg] at HS HB1 ⊢
  have HG := Lib.hid hg
  clear hg
  obtain ⟨g4, hg4⟩ : ∃ g, g3 + 1 = g := ⟨_, rfl⟩
  rw [hg4] at HS ⊢
  have HLe := Lib.hid (show g3 ≤ g4 by omega)
  clear hg4
  have HS0 := Lib.hid (show AcS G V sv g3 g4 w1.drew from HS.out.below (Below.refl _ _).drew)
  have HB2 := Lib.hid HB1.out.drew
  clear HS HB1
  refine wp_region_H (AcS G V sv g3 g4) (by kernel_rfl) ?_
  generalize World.drew _ = w2 at *
  simp only [List.size_toArray, List.length_cons, List.length_nil, Nat.reduceAdd, Array.replicate_succ, Array.replicate_zero, List.push_toArray, List.nil_append, List.cons_append]
  refine wpAnyH_take (i := 0) (oi := ⟨some 11, _, _, _, _, _⟩) (v := .pointer (some ⟨G.wd, 0, none⟩)) rfl (by kernel_rfl) (by kernel_rfl) (by kernel_rfl) (fun _ _ _ h => h) (Or.inl ⟨by rfl, ?_⟩) HS0.out ?_
  · intro w hSw
    go_simp <;> with_reducible rfl
  dsimp only [Act.put]
  simp only [List.setIfInBounds_toArray, List.set_cons_zero, List.set_cons_succ]
  refine wpAnyH_take (i := 1) (oi := ⟨some 12, _, _, _, _, _⟩) (v := .pointer (some ⟨G.wd, 0, none⟩)) rfl (by kernel_rfl) (by kernel_rfl) (by kernel_rfl) (fun _ _ _ h => h) (Or.inl ⟨by rfl, ?_⟩) HS0.out ?_
  · intro w hSw
    go_simp <;> with_reducible rfl
  dsimp only [Act.put]
  simp only [List.setIfInBounds_toArray, List.set_cons_zero, List.set_cons_succ]
  refine wpAnyH_take (i := 2) (oi := ⟨some 13, _, _, _, _, _⟩) (v := .pointer (some ⟨G.wd, 41, none⟩)) rfl (by kernel_rfl) (by kernel_rfl) (by kernel_rfl) (fun _ _ _ h => h) (Or.inl ⟨by rfl, ?_⟩) HS0.out ?_
  · intro w hSw
    go_simp <;> with_reducible rfl
  dsimp only [Act.put]
  simp only [List.setIfInBounds_toArray, List.set_cons_zero, List.set_cons_succ]
  refine wpAnyH_take (i := 3) (oi := ⟨some 14, _, _, _, _, _⟩) (v := .map (some G.m)) rfl (by kernel_rfl) (by kernel_rfl) (by kernel_rfl) (fun _ _ _ h => h) (Or.inl ⟨by rfl, ?_⟩) HS0.out ?_
  · intro w hSw
    have hq := hSw.n.all
    go_simp <;> with_reducible rfl
  dsimp only [Act.put]
  simp only [List.setIfInBounds_toArray, List.set_cons_zero, List.set_cons_succ]
  refine wpAnyH_take (i := 4) (oi := ⟨some 15, _, _, _, _, _⟩) (v := .pointer (some ⟨g3, 0, none⟩)) rfl (by kernel_rfl) (by kernel_rfl) (by kernel_rfl) (fun _ _ _ h => h) (Or.inl ⟨by rfl, ?_⟩) HS0.out ?_
  · intro w hSw
    go_simp <;> with_reducible rfl
  dsimp only [Act.put]
  simp only [List.setIfInBounds_toArray, List.set_cons_zero, List.set_cons_succ]
  refine wpAnyH_take (i := 5) (oi := ⟨some 16, _, _, _, _, _⟩) rfl (by kernel_rfl) (by kernel_rfl) (by kernel_rfl) (fun _ _ _ h => h) (yieldsIf_load_mid (by rfl) 24 (.tmp 15) rfl (g3) (0) rfl (bys gI) _ (fun w h => c_sel h.c) Tryz.underlying24 rfl (size_h2 gI gI_h)) HS0.out ?_
  dsimp only [Act.put]
  simp only [List.setIfInBounds_toArray, List.set_cons_zero, List.set_cons_succ]
  refine wpAnyH_take (i := 6) (oi := ⟨some 17, _, _, _, _, _⟩) (v := .pointer (some ⟨G.kb, 0, none⟩)) rfl (by kernel_rfl) (by kernel_rfl) (by kernel_rfl) (fun _ _ _ h => h) (Or.inl ⟨by rfl, ?_⟩) HS0.out ?_
  · intro w hSw
    have hq := hSw.n.lookH
    go_simp <;> with_reducible rfl
  dsimp only [Act.put]
  simp only [List.setIfInBounds_toArray, List.set_cons_zero, List.set_cons_succ]
  refine wpAnyH_take (i := 7) (oi := ⟨some 6, _, _, _, _, _⟩) (v := .pointer (some ⟨G.kb, 0, none⟩)) rfl (by kernel_rfl) (by kernel_rfl) (by kernel_rfl) (fun _ _ _ h => h) (Or.inl ⟨by rfl, ?_⟩) HS0.out ?_
  · intro w hSw
    go_simp <;> with_reducible rfl
  dsimp only [Act.put]
  simp only [List.setIfInBounds_toArray, List.set_cons_zero, List.set_cons_succ]
  refine wpAnyH_done (by kernel_rfl) ?_ _
  go_upto_region 2 with fail
  have HS1 := Lib.hid (show AcS G V sv g3 g4 w2.drew from HS0.out.below (Below.refl _ _).drew)
  have HB := Lib.hid HB2.out.drew
  clear HS0 HB2
  have HS0 := HS1
  clear HS1
  refine wp_region_H (AcS G V sv g3 g4) (by kernel_rfl) ?_
  generalize World.drew _ = w3 at *
  have HZ := Lib.hid (show g3 ≤ w3.heap.size from Nat.le_of_lt HS0.out.c.lt)
  simp only [List.size_toArray, List.length_cons, List.length_nil, Nat.reduceAdd, Array.replicate_succ, Array.replicate_zero, List.push_toArray, List.nil_append, List.cons_append]
  refine wpAnyH_take (i := 0) (oi := ⟨some 18, _, _, _, _, _⟩) (v := .pointer (some ⟨g3, 0, none⟩)) rfl (by kernel_rfl) (by kernel_rfl) (by kernel_rfl) (fun _ _ _ h => h) (Or.inl ⟨by rfl, ?_⟩) HS0.out ?_
  · intro w hSw
    go_simp <;> with_reducible rfl
  dsimp only [Act.put]
  simp only [List.setIfInBounds_toArray, List.set_cons_zero, List.set_cons_succ]
  refine wpAnyH_take (i := 1) (oi := ⟨some 19, _, _, _, _, _⟩) rfl (by kernel_rfl) (by kernel_rfl) (by kernel_rfl) (fun _ _ _ h => h) (yieldsIf_load_mid (by rfl) 24 (.tmp 18) rfl (g3) (0) rfl (bys gI) _ (fun w h => c_sel h.c) Tryz.underlying24 rfl (size_h2 gI gI_h)) HS0.out ?_
  dsimp only [Act.put]
  simp only [List.setIfInBounds_toArray, List.set_cons_zero, List.set_cons_succ]
  refine wpAnyH_take (i := 2) (oi := ⟨some 20, _, _, _, _, _⟩) (v := .pointer (some ⟨G.kb, 0, none⟩)) rfl (by kernel_rfl) (by kernel_rfl) (by kernel_rfl) (fun _ _ _ h => h) (Or.inl ⟨by rfl, ?_⟩) HS0.out ?_
  · intro w hSw
    go_simp <;> with_reducible rfl
  dsimp only [Act.put]
  simp only [List.setIfInBounds_toArray, List.set_cons_zero, List.set_cons_succ]
  refine wpAnyH_take (i := 3) (oi := ⟨some 21, _, _, _, _, _⟩) (v := .pointer (some ⟨G.kb, 0, none⟩)) rfl (by kernel_rfl) (by kernel_rfl) (by kernel_rfl) (fun _ _ _ h => h) (Or.inl ⟨by rfl, ?_⟩) HS0.out ?_
  · intro w hSw
    go_simp <;> with_reducible rfl
  dsimp only [Act.put]
  simp only [List.setIfInBounds_toArray, List.set_cons_zero, List.set_cons_succ]
  refine wpAnyH_take (i := 4) (oi := ⟨some 22, _, _, _, _, _⟩) (v := .pointer (some ⟨G.kb, 0, none⟩)) rfl (by kernel_rfl) (by kernel_rfl) (by kernel_rfl) (fun _ _ _ h => h) (Or.inl ⟨by rfl, ?_⟩) HS0.out ?_
  · intro w hSw
    go_simp <;> with_reducible rfl
  dsimp only [Act.put]
  simp only [List.setIfInBounds_toArray, List.set_cons_zero, List.set_cons_succ]
  refine wpAnyH_take (i := 5) (oi := ⟨some 23, _, _, _, _, _⟩) (v := .pointer (some ⟨G.kb, 0, none⟩)) rfl (by kernel_rfl) (by kernel_rfl) (by kernel_rfl) (fun _ _ _ h => h) (Or.inl ⟨by rfl, ?_⟩) HS0.out ?_
  · intro w hSw
    go_simp <;> with_reducible rfl
  dsimp only [Act.put]
  simp only [List.setIfInBounds_toArray, List.set_cons_zero, List.set_cons_succ]
  refine wpAnyH_take (i := 6) (oi := ⟨some 24, _, _, _, _, _⟩) (v := .pointer (some ⟨G.kb, 97, none⟩)) rfl (by kernel_rfl) (by kernel_rfl) (by kernel_rfl) (fun _ _ _ h => h) (Or.inl ⟨by rfl, ?_⟩) HS0.out ?_
  · intro w hSw
    go_simp <;> with_reducible rfl
  dsimp only [Act.put]
  simp only [List.setIfInBounds_toArray, List.set_cons_zero, List.set_cons_succ]
  refine wpAnyH_take (i := 7) (oi := ⟨some 25, _, _, _, _, _⟩) rfl (by kernel_rfl) (by kernel_rfl) (by kernel_rfl) (fun _ _ _ h => h) (yieldsIf_load_mid (by rfl) 24 (.tmp 24) rfl (G.kb) (97) rfl (bys zH) _ (fun w h => h.n.miner) Tryz.underlying24 rfl (size_h2 zH zH_h)) HS0.out ?_
  dsimp only [Act.put]
  simp only [List.setIfInBounds_toArray, List.set_cons_zero, List.set_cons_succ]
  refine wpAnyH_take (i := 8) (oi := ⟨some 26, _, _, _, _, _⟩) (v := .pointer (some ⟨G.kb, 0, none⟩)) rfl (by kernel_rfl) (by kernel_rfl) (by kernel_rfl) (fun _ _ _ h => h) (Or.inl ⟨by rfl, ?_⟩) HS0.out ?_
  · intro w hSw
    go_simp <;> with_reducible rfl
  dsimp only [Act.put]
  simp only [List.setIfInBounds_toArray, List.set_cons_zero, List.set_cons_succ]
  refine wpAnyH_take (i := 9) (oi := ⟨some 27, _, _, _, _, _⟩) (v := .pointer (some ⟨G.kb, 0, none⟩)) rfl (by kernel_rfl) (by kernel_rfl) (by kernel_rfl) (fun _ _ _ h => h) (Or.inl ⟨by rfl, ?_⟩) HS0.out ?_
  · intro w hSw
    go_simp <;> with_reducible rfl
  dsimp only [Act.put]
  simp only [List.setIfInBounds_toArray, List.set_cons_zero, List.set_cons_succ]
  refine wpAnyH_take (i := 10) (oi := ⟨some 28, _, _, _, _, _⟩) (v := .pointer (some ⟨G.kb, 0, none⟩)) rfl (by kernel_rfl) (by kernel_rfl) (by kernel_rfl) (fun _ _ _ h => h) (Or.inl ⟨by rfl, ?_⟩) HS0.out ?_
  · intro w hSw
    go_simp <;> with_reducible rfl
  dsimp only [Act.put]
  simp only [List.setIfInBounds_toArray, List.set_cons_zero, List.set_cons_succ]
  refine wpAnyH_take (i := 11) (oi := ⟨some 29, _, _, _, _, _⟩) (v := .pointer (some ⟨G.kb, 130, none⟩)) rfl (by kernel_rfl) (by kernel_rfl) (by kernel_rfl) (fun _ _ _ h => h) (Or.inl ⟨by rfl, ?_⟩) HS0.out ?_
  · intro w hSw
    go_simp <;> with_reducible rfl
  dsimp only [Act.put]
  simp only [List.setIfInBounds_toArray, List.set_cons_zero, List.set_cons_succ]
  refine wpAnyH_take (i := 12) (oi := ⟨some 30, _, _, _, _, _⟩) (v := .slice none 0 0) rfl (by kernel_rfl) (by kernel_rfl) (by kernel_rfl) (fun _ _ _ h => h) (Or.inl ⟨by rfl, ?_⟩) HS0.out ?_
  · intro w hSw
    have hq : w.cell? ⟨G.kb, 130, none⟩ = some (.slice none 0 0) := hSw.n.kc (k_txs _ _ _)
    go_simp <;> with_reducible rfl
  dsimp only [Act.put]
  simp only [List.setIfInBounds_toArray, List.set_cons_zero, List.set_cons_succ]
  refine wpAnyH_one (i := 13) (oi := ⟨some 31, _, _, _, _, _⟩) (by kernel_rfl) rfl (by rfl) (fun K9 hK9 => ?_)
  have HK9 := Lib.hid hK9
  clear hK9
  refine wp_build_run (P := Tryz.prog) 200 _ rfl #[(0, .agg (bys gI).toArray), (1, .agg (bys zH).toArray), (2, .bool true), (3, .slice none 0 0)] (by simp only [List.map_toArray, List.map_cons, List.map_nil]; rfl) _ (mg_build w3) ?_
  dsimp only [Act.put]
  refine HK9.out _ _ HS0.out ?_
  clear HK9
  simp only [List.setIfInBounds_toArray, List.set_cons_zero, List.set_cons_succ]
  refine wpAnyH_one (i := 14) (oi := ⟨some 32, _, _, _, _, _⟩) (by kernel_rfl) rfl (by rfl) (fun K9 hK9 => ?_)
  have HK9 := Lib.hid hK9
  clear hK9
  refine wp_bs_run (P := Tryz.prog) 201 1 _ rfl #[(0, .agg mgC.toArray)] (by simp only [List.map_toArray, List.map_cons, List.map_nil]; rfl) _ (mgs_build w3) ?_
  dsimp only [Act.put]
  have hb9 := (Below.refl w3.heap.size w3).alloc (Nat.le_refl _) (.cells mgC.toArray 200)
  have HS1 := Lib.hid (HS0.out.below hb9)
  have HM := Lib.hid (Arr.made w3 200 mgC)
  have HB1 := Lib.hid (HB.out.trans (hb9.mono HZ.out))
  have HZ1 := Lib.hid (Nat.le_trans HZ.out hb9.size)
  obtain ⟨mb, hmb⟩ : ∃ mb, w3.heap.size = mb := ⟨_, rfl⟩
  rw [hmb] at HM ⊢
  clear hmb hb9 HS0 HB HZ
  generalize World.alloc _ _ = w4 at *
  have HS0 := HS1
  have HB := HB1
  have HZ := HZ1
  clear HS1 HB1 HZ1
  refine HK9.out _ _ HS0.out ?_
  clear HK9
  simp only [List.setIfInBounds_toArray, List.set_cons_zero, List.set_cons_succ]
  refine wpAnyH_take (i := 15) (oi := ⟨some 7, _, _, _, _, _⟩) (v := .slice (some ⟨mb, 0, none⟩) 1 1) rfl (by kernel_rfl) (by kernel_rfl) (by kernel_rfl) (fun _ _ _ h => h) (Or.inl ⟨by rfl, ?_⟩) HS0.out ?_
  · intro w hSw
    go_simp <;> with_reducible rfl
  dsimp only [Act.put]
  simp only [List.setIfInBounds_toArray, List.set_cons_zero, List.set_cons_succ]
  refine wpAnyH_done (by kernel_rfl) ?_ _
  have hcm : w4.cell? ⟨g3, 33, none⟩ = some (.slice none 0 0) := by rw [HS0.out.c.cell]; exact c_merge
  go_upto_region 4 with fail
  refine wp_loop_rounds 1 ?_
  rw [rounds_succ]
  go_upto_region 9 with fail
  clear hcm
  have HS1 := Lib.hid (show AcT G V sv g3 g4 mb w4.drew from AcT.below ⟨HS0.out, HM.out⟩ (Below.refl _ _).drew)
  have HB1 := Lib.hid HB.out.drew
  have HZ1 := Lib.hid (show g3 ≤ w4.drew.heap.size from HZ.out)
  clear HS0 HB HM HZ
  have HS0 := HS1
  have HB := HB1
  have HZ := HZ1
  clear HS1 HB1 HZ1
  refine wp_region_H (AcT G V sv g3 g4 mb) (by kernel_rfl) ?_
  generalize World.drew _ = w5 at *
  simp only [List.size_toArray, List.length_cons, List.length_nil, Nat.reduceAdd, Array.replicate_succ, Array.replicate_zero, List.push_toArray, List.nil_append, List.cons_append]
  refine wpAnyH_take (i := 0) (oi := ⟨some 66, _, _, _, _, _⟩) (v := .pointer (some ⟨G.wd, 0, none⟩)) rfl (by kernel_rfl) (by kernel_rfl) (by kernel_rfl) (fun _ _ _ h => h) (Or.inl ⟨by rfl, ?_⟩) HS0.out ?_
  · intro w hSw
    go_simp <;> with_reducible rfl
  dsimp only [Act.put]
  simp only [List.setIfInBounds_toArray, List.set_cons_zero, List.set_cons_succ]
  refine wpAnyH_take (i := 1) (oi := ⟨some 67, _, _, _, _, _⟩) (v := .pointer (some ⟨G.wd, 0, none⟩)) rfl (by kernel_rfl) (by kernel_rfl) (by kernel_rfl) (fun _ _ _ h => h) (Or.inl ⟨by rfl, ?_⟩) HS0.out ?_
  · intro w hSw
    go_simp <;> with_reducible rfl
  dsimp only [Act.put]
  simp only [List.setIfInBounds_toArray, List.set_cons_zero, List.set_cons_succ]
  refine wpAnyH_take (i := 2) (oi := ⟨some 68, _, _, _, _, _⟩) (v := .pointer (some ⟨G.wd, 0, none⟩)) rfl (by kernel_rfl) (by kernel_rfl) (by kernel_rfl) (fun _ _ _ h => h) (Or.inl ⟨by rfl, ?_⟩) HS0.out ?_
  · intro w hSw
    go_simp <;> with_reducible rfl
  dsimp only [Act.put]
  simp only [List.setIfInBounds_toArray, List.set_cons_zero, List.set_cons_succ]
  refine wpAnyH_take (i := 3) (oi := ⟨some 69, _, _, _, _, _⟩) rfl (by kernel_rfl) (by kernel_rfl) (by kernel_rfl) (fun _ _ _ h => h) (yieldsIf_load_mid (by rfl) 26 (.tmp 68) rfl (G.wd) (0) rfl (pC) _ (fun w h => h.a.n.par) Tryz.underlying26 rfl par_size) HS0.out ?_
  dsimp only [Act.put]
  simp only [List.setIfInBounds_toArray, List.set_cons_zero, List.set_cons_succ]
  refine wpAnyH_take (i := 4) (oi := ⟨some 70, _, _, _, _, _⟩) (v := .pointer (some ⟨G.kb, 0, none⟩)) rfl (by kernel_rfl) (by kernel_rfl) (by kernel_rfl) (fun _ _ _ h => h) (Or.inl ⟨by rfl, ?_⟩) HS0.out ?_
  · intro w hSw
    go_simp <;> with_reducible rfl
  dsimp only [Act.put]
  simp only [List.setIfInBounds_toArray, List.set_cons_zero, List.set_cons_succ]
  refine wpAnyH_take (i := 5) (oi := ⟨some 71, _, _, _, _, _⟩) (v := .pointer (some ⟨G.kb, 0, none⟩)) rfl (by kernel_rfl) (by kernel_rfl) (by kernel_rfl) (fun _ _ _ h => h) (Or.inl ⟨by rfl, ?_⟩) HS0.out ?_
  · intro w hSw
    go_simp <;> with_reducible rfl
  dsimp only [Act.put]
  simp only [List.setIfInBounds_toArray, List.set_cons_zero, List.set_cons_succ]
  refine wpAnyH_take (i := 6) (oi := ⟨some 72, _, _, _, _, _⟩) (v := .pointer (some ⟨G.kb, 175, none⟩)) rfl (by kernel_rfl) (by kernel_rfl) (by kernel_rfl) (fun _ _ _ h => h) (Or.inl ⟨by rfl, ?_⟩) HS0.out ?_
  · intro w hSw
    go_simp <;> with_reducible rfl
  dsimp only [Act.put]
  simp only [List.setIfInBounds_toArray, List.set_cons_zero, List.set_cons_succ]
  refine wpAnyH_take (i := 7) (oi := ⟨some 73, _, _, _, _, _⟩) (v := .pointer (some ⟨G.st, 0, none⟩)) rfl (by kernel_rfl) (by kernel_rfl) (by kernel_rfl) (fun _ _ _ h => h) (Or.inl ⟨by rfl, ?_⟩) HS0.out ?_
  · intro w hSw
    have hq : w.cell? ⟨G.kb, 175, none⟩ = some (.pointer (some ⟨G.st, 0, none⟩)) := hSw.a.n.kc (k_set _ _ _)
    go_simp <;> with_reducible rfl
  dsimp only [Act.put]
  simp only [List.setIfInBounds_toArray, List.set_cons_zero, List.set_cons_succ]
  refine wpAnyH_take (i := 8) (oi := ⟨some 74, _, _, _, _, _⟩) (v := .pointer (some ⟨g3, 32, none⟩)) rfl (by kernel_rfl) (by kernel_rfl) (by kernel_rfl) (fun _ _ _ h => h) (Or.inl ⟨by rfl, ?_⟩) HS0.out ?_
  · intro w hSw
    go_simp <;> with_reducible rfl
  dsimp only [Act.put]
  simp only [List.setIfInBounds_toArray, List.set_cons_zero, List.set_cons_succ]
  refine wpAnyH_take (i := 9) (oi := ⟨some 75, _, _, _, _, _⟩) (v := .int .u64 1) rfl (by kernel_rfl) (by kernel_rfl) (by kernel_rfl) (fun _ _ _ h => h) (Or.inl ⟨by rfl, ?_⟩) HS0.out ?_
  · intro w hSw
    have hq : w.cell? ⟨g3, 32, none⟩ = some (.int .u64 1) := by rw [hSw.a.c.cell]; exact c_score
    go_simp <;> with_reducible rfl
  dsimp only [Act.put]
  simp only [List.setIfInBounds_toArray, List.set_cons_zero, List.set_cons_succ]
  refine wpAnyH_take (i := 10) (oi := ⟨some 76, _, _, _, _, _⟩) (v := .slice (some ⟨mb, 0, none⟩) 1 1) rfl (by kernel_rfl) (by kernel_rfl) (by kernel_rfl) (fun _ _ _ h => h) (Or.inl ⟨by rfl, ?_⟩) HS0.out ?_
  · intro w hSw
    go_simp <;> with_reducible rfl
  dsimp only [Act.put]
  simp only [List.setIfInBounds_toArray, List.set_cons_zero, List.set_cons_succ]
  refine wpAnyH_one (i := 11) (oi := ⟨some 77, _, _, _, _, _⟩) (by kernel_rfl) rfl (by rfl) (fun K9 hK9 => ?_)
  have HK9 := Lib.hid hK9
  clear hK9
  go_simp
  with_reducible refine (of_one G.st mb 0 1 _ HS0.out.m.range HS0.out.a.n.s.emp).mono ?_
  rintro e w6 ⟨g, cap, rfl, hf9, hb9⟩
  dsimp only
  have HS1 := Lib.hid (HS0.out.below hb9)
  have HB1 := Lib.hid (HB.out.trans (hb9.mono HZ.out))
  have HZ1 := Lib.hid (Nat.le_trans HZ.out hb9.size)
  have HF := Lib.hid hf9
  clear hf9
  clear HS0 HB HZ hb9
  have HS0 := HS1
  have HB := HB1
  have HZ := HZ1
  clear HS1 HB1 HZ1
  refine HK9.out _ _ HS0.out ?_
  clear HK9
  simp only [List.setIfInBounds_toArray, List.set_cons_zero, List.set_cons_succ]
  refine wpAnyH_take (i := 12) (oi := ⟨some 78, _, _, _, _, _⟩) (v := .agg (resC (.slice (some ⟨g, 0, none⟩) 1 cap)).toArray) rfl (by kernel_rfl) (by kernel_rfl) (by kernel_rfl) (fun _ _ _ h => h) (Or.inl ⟨by rfl, ?_⟩) HS0.out ?_
  · intro w hSw
    go_simp <;> with_reducible rfl
  dsimp only [Act.put]
  simp only [List.setIfInBounds_toArray, List.set_cons_zero, List.set_cons_succ]
  refine wpAnyH_take (i := 13) (oi := ⟨some 79, _, _, _, _, _⟩) (v := .int .i64 0) rfl (by kernel_rfl) (by kernel_rfl) (by kernel_rfl) (fun _ _ _ h => h) (Or.inl ⟨by rfl, ?_⟩) HS0.out ?_
  · intro w hSw
    go_simp <;> with_reducible rfl
  dsimp only [Act.put]
  simp only [List.setIfInBounds_toArray, List.set_cons_zero, List.set_cons_succ]
  refine wpAnyH_one (i := 14) (oi := ⟨none, _, _, _, _, _⟩) (by kernel_rfl) rfl (by rfl) (fun K9 hK9 => ?_)
  have HK9 := Lib.hid hK9
  clear hK9
  obtain ⟨cs, hcs, hcl, hc0⟩ := HS0.out.a.z
  have hne : g ≠ g4 := fun e => by
    have h1 := HF.out 0 _ rfl
    have h2 := hcs.cell 0
    rw [hc0, ← e] at h2
    rw [Nat.zero_add] at h1
    rw [h1] at h2
    cases h2
  have hrl : (resC (.slice (some ⟨g, 0, none⟩) 1 cap)).length = 6 := rfl
  refine wp_store_mid (P := Tryz.prog) 62 _ _ rfl g4 0 (resC (.slice (some ⟨g, 0, none⟩) 1 cap)).toArray rfl rfl (hcs.there _ (by rw [List.size_toArray, hrl, hcl])) (by kernel_rfl) (by kernel_rfl) ?_
  rw [show (resC (.slice (some ⟨g, 0, none⟩) 1 cap)).toArray.toList = resC (.slice (some ⟨g, 0, none⟩) 1 cap) from rfl]
  have HR7 := Lib.hid (hcs.setAll (resC (.slice (some ⟨g, 0, none⟩) 1 cap)) (by rw [hrl, hcl]))
  have HS1 := Lib.hid (show AcT G V sv g3 g4 mb (w6.setCells g4 0 (resC (.slice (some ⟨g, 0, none⟩) 1 cap))) from ⟨⟨gen_set HS0.out.a.n hcs (by decide) (by decide) (by decide) _ _, arr_sets HS0.out.a.c (arr_ne HS0.out.a.c hcs (by decide)) _ _ _ HS0.out.a.c, _, HR7.out, hrl, rfl⟩, arr_sets HS0.out.m (arr_ne HS0.out.m hcs (by decide)) _ _ _ HS0.out.m⟩)
  have HF7 := Lib.hid (range_sets hne (resC (.slice (some ⟨g, 0, none⟩) 1 cap)) 0 w6 HF.out)
  have HB7 := Lib.hid (below_sets g4 HLe.out (resC (.slice (some ⟨g, 0, none⟩) 1 cap)) 0 HB.out)
  clear hne hrl hcs hcl hc0 HS0 HF HB HZ
  have HS0 := HS1
  clear HS1
  generalize World.setCells _ _ _ _ = w7 at *
  dsimp only [Act.put]
  refine HK9.out _ _ HS0.out ?_
  clear HK9
  simp only [List.setIfInBounds_toArray, List.set_cons_zero, List.set_cons_succ]
  refine wpAnyH_take (i := 15) (oi := ⟨some 5, _, _, _, _, _⟩) (v := .int .i64 0) rfl (by kernel_rfl) (by kernel_rfl) (by kernel_rfl) (fun _ _ _ h => h) (Or.inl ⟨by rfl, ?_⟩) HS0.out ?_
  · intro w hSw
    go_simp <;> with_reducible rfl
  dsimp only [Act.put]
  simp only [List.setIfInBounds_toArray, List.set_cons_zero, List.set_cons_succ]
  refine wpAnyH_done (by kernel_rfl) ?_ _
  go_wp2
  refine bodyPost_ret (results_cell_row_tmp (P := Tryz.prog) rfl _ _ g4 62 _ (0, 0) _ rfl HR7.out Tryz.underlying62 rfl (by kernel_rfl)) rfl ?_
  exact ⟨g, cap, rfl, HF7.out, by rw [HG.out]; exact HB7.out⟩
end Go.Proofs.YthnbnckmeffkmaaGreat
/- maps.Keys of a map of one hash, as an iterator. -/
namespace Go.Proofs.YthnbnckmeffkmaaGreat
open Go.RowKit Go.Lib
set_option linter.unusedVariables false
set_option linter.unusedSimpArgs false
attribute [local go_sem] Oper.semAt_some
attribute [local go_sem ↓] Go.wp_at_zero Go.wp_at_succ

theorem iloadM {P : Program} {ops : Array Oper} {rest : List Oper} {op : Oper} {n : Nat} {a : Act} {w : World} {Q : Exit → Act → World → Prop} (hgd : op.guard = none) (ty : TypeId) (x : Operand) (ho : op.op = .load ty x)
    (b o : Nat) (hx : a.eval x = .pointer (some ⟨b, o, none⟩)) (cs : List Value) (d : TypeDesc) (hc : w.rangeAt b o cs)
    (hu : P.underlying ty = some d) (hd : d.isRow = true) (hi : (P.info? ty).map (·.size) = some cs.length)
    (h : wpListIn Fence.wide n P ops Q rest (a.put op.dst (.agg cs.toArray)) w) : wpListIn Fence.wide n P ops Q (op :: rest) a w :=
  listIn_of hgd fun _ hK => wp_load_mid ty x ho b o hx cs d hc hu hd hi (hK _ _ h)
theorem istoreB {P : Program} {ops : Array Oper} {rest : List Oper} {op : Oper} {n : Nat} {a : Act} {Q : Exit → Act → World → Prop} (hgd : op.guard = none) (ty : TypeId) (x y : Operand) (ho : op.op = .store ty x y)
    (wr : World) (zs : Array Value) (cs : List Value) (hx : a.eval x = .pointer (some ⟨wr.heap.size, 0, none⟩)) (hy : a.eval y = .agg cs.toArray) (hz : zs.size = cs.length) (hi : (P.info? ty).map (·.size) = some cs.length) (h1 : ∀ v ∈ cs, v.oneCell' = true)
    (h : ∀ w2, Hid (Arr w2 wr.heap.size ty cs) → Hid (Below wr.heap.size wr w2) → wpListIn Fence.wide n P ops Q rest (a.put op.dst undef) w2) : wpListIn Fence.wide n P ops Q (op :: rest) a (wr.alloc (.cells zs ty)) := by
  have hm : Arr (wr.alloc (.cells zs ty)) wr.heap.size ty zs.toList := Arr.made wr ty zs.toList
  have hl : zs.toList.length = cs.length := by rw [Array.length_toList]; exact hz
  refine listIn_of hgd (fun _ hK => wp_store_mid ty x y ho wr.heap.size 0 cs.toArray hx hy (hm.there _ (by rw [List.size_toArray, hl])) (by rw [List.size_toArray]; exact hi) (all_oneCell_toArray h1) (hK _ _ ?_))
  exact h _ (hm.setAll cs hl.symm) (below_sets wr.heap.size (Nat.le_refl _) cs 0 ((Below.refl wr.heap.size wr).alloc (Nat.le_refl _) (.cells zs ty)))
theorem grown_of_below {w w' : World} (h : Below w.heap.size w w') : w.grownBy w' none := ⟨h.os, h.tape, h.output, h.size, fun k hk _ => h.block k hk⟩
theorem abides_below {β : Type} {B : Nat} {J : β → World → Prop} (h : AbidesFrom B J) {s : β} {w w' : World} (hs : J s w) (hb : Below w.heap.size w w') : J s w' := h s w w' none hs (grown_of_below hb) (fun r e => by cases e)
set_option maxRecDepth 100000 in
set_option maxHeartbeats 3200000 in
theorem keys1_stops (n bm m : Nat) (v : Value) (w : World) (hb : Arr w bm 92 [.map (some m)]) (hm : OneM w m gI v) :
    SeqStopsK Fence.wide n Tryz.prog 106 #[.pointer (some ⟨bm, 0, none⟩)] (fun _ : Unit => #[.agg (bys gI).toArray]) KeepsWalks (fun xs => xs = [()]) (fun pre => pre = [()]) 1 w := fun l J Jx W hW hJ hJx hY h0 => by
  have hz := zero_h
  have HY := Lib.hid hY
  have HJ := Lib.hid hJ
  have HBm := Lib.hid (hb.below hW hb.lt)
  have HM := Lib.hid (hm.below hW)
  have H0 := Lib.hid h0
  clear hY hJ hJx hW h0 hb hm
  have hc := HBm.out.cell 0
  dsimp only [List.getElem?_cons_zero] at hc
  have hrg := range_one Tryz.underlying92 HM.out
  refine callsIn_of_wp Tryz.func106 rfl trivial ?_ rfl
  simp only [Tryz.ntmps106, List.size_toArray, List.length_cons, List.length_nil, Nat.reduceAdd, Nat.reduceSub, Array.replicate_succ, Array.replicate_zero, List.push_toArray, List.append_toArray, List.nil_append, List.cons_append]
  gi_wp2_with fail
  clear hrg hc
  have HI := Lib.hid (show ItM (W.alloc (.mapIter (some m) 1 #[] 1)) W.heap.size m #[] from heap_alloc_last W _)
  have hb1 := (Below.refl W.heap.size W).alloc (Nat.le_refl _) (.mapIter (some m) 1 #[] 1)
  have HM1 := Lib.hid (HM.out.below hb1)
  have HJ1 := Lib.hid (abides_below HJ.out H0.out hb1)
  obtain ⟨r, hr⟩ : ∃ r, W.heap.size = r := ⟨_, rfl⟩
  rw [hr] at HI HJ ⊢
  have HZ := Lib.hid (show r ≤ (W.alloc (.mapIter (some m) 1 #[] 1)).heap.size by rw [← hr]; exact hb1.size)
  clear hb1 HM HBm H0
  generalize World.alloc _ _ = w1 at *
  obtain ⟨w2, hnx, hi2, hg2⟩ := next_one HM1.out HI.out
  unfold hv at hnx
  have hmr : m ≠ r := fun e => by
    have h1 : w1.heap[m]? = _ := HM1.out
    have h2 : w1.heap[r]? = _ := HI.out
    rw [e, h2] at h1
    cases h1
  have HM2 := Lib.hid (show OneM w2 m gI v from kept_grown hg2 HM1.out (by intro e; exact hmr (Option.some.inj e)))
  have HI2 := Lib.hid hi2
  have HJ2 := Lib.hid (HJ.out [] w1 w2 (some r) HJ1.out hg2 (fun k e => by cases e; exact ⟨Nat.le_refl _, _, HI.out, rfl⟩))
  have hen := entry_one HM2.out hi2
  unfold hv at hen
  clear hi2 hg2 hmr HI HM1 HJ1
  refine wpIn_loop_rounds 2 ?_
  rw [roundsIn_succ]
  iterate 28 gi_step
  refine istoreB (P := Tryz.prog) rfl 24 _ _ rfl w2 _ (bys gI) rfl rfl (by rw [List.size_toArray, bys_len, bys_len, zH_h.1, gI_h.1]) (size_h2 gI gI_h) (bys_one gI) ?_
  intro w3 ha9 hb9
  have HA2 := Lib.hid ha9.out
  have HB2 := Lib.hid hb9.out
  clear ha9 hb9
  have HJ3 := Lib.hid (abides_below HJ.out HJ2.out (HB2.out.mono (Nat.le_refl _)))
  have HM3 := Lib.hid (HM2.out.below HB2.out)
  have HI3 := Lib.hid (HI2.out.below HB2.out)
  obtain ⟨g3, hg3⟩ : ∃ g3, w2.heap.size = g3 := ⟨_, rfl⟩
  rw [hg3] at HA2 ⊢
  clear HB2 HM2 HI2 HJ2 hnx hen hg3
  obtain ⟨fn, tmps, assign, body, hy, hR⟩ := HY.out [] () _ HJ3.out (by decide)
  have HRd := Lib.hid hR
  clear hR
  iterate 8 gi_step
  refine iloadM (P := Tryz.prog) rfl 24 _ rfl g3 0 rfl (bys gI) _ HA2.out.range Tryz.underlying24 rfl (size_h2 gI gI_h) ?_
  simp only [Act.put, List.setIfInBounds_toArray, List.set_cons_zero, List.set_cons_succ]
  gi_wp2
  refine ⟨(fun h => by cases h), ?_⟩
  refine HRd.out.mono ?_
  rintro e w5 (⟨rfl, hJ5, hk5⟩ | ⟨rfl, hJx5⟩)
  · dsimp only
    have HJ5 := Lib.hid (show J [()] w5 from hJ5)
    have hm5 : OneM w5 m gI v := hk5.same m _ HM3.out rfl
    have hi5 : ItM w5 r m #[0] := hk5.same r _ HI3.out rfl
    have hno := next_over hm5 hi5
    clear hk5 HRd hy hJ5 HM3 HI3
    gi_wp2
    rw [roundsIn_succ]
    gi_wp2
    go_end0
    exact ⟨⟨_, rfl⟩, .inl ⟨[()], rfl, HJ5.out⟩⟩
  · dsimp only
    have HX := Lib.hid (show Jx [()] w5 from hJx5)
    clear HRd hy hJx5
    gi_wp2
    refine bodyPost_ret (results_none rfl _ _ _) rfl ?_
    exact ⟨⟨_, rfl⟩, .inr ⟨[()], rfl, HX.out⟩⟩
end Go.Proofs.YthnbnckmeffkmaaGreat
