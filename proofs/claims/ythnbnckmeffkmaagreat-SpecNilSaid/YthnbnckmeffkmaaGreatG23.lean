/- spec.colour of the genesis. -/
import Derived.Test.YthnbnckmeffkmaaGreatG22
namespace Go.Proofs.YthnbnckmeffkmaaGreat
open Go.RowKit Go.Lib
set_option linter.unusedVariables false
set_option linter.unusedSimpArgs false
attribute [local go_sem ↓] Go.wp_at_zero Go.wp_at_succ

def zC : List Value := bys zH ++ [.int .u64 0, .slice none 0 0, .slice none 0 0]
def colC : List Value := bys gI ++ [.int .u64 1, .slice none 0 0, .slice none 0 0]
theorem zero_col : ∀ w, (zeroValue 46).run Tryz.prog w = .ok (.agg zC.toArray) w := fun w => by kernel_rfl
theorem zC_len : zC.length = 35 := by kernel_rfl
theorem colC_len : colC.length = 35 := by unfold colC; rw [List.length_append, bys_len, gI_h.1]; rfl
theorem c_merge : colC[33]? = some (.slice none 0 0) := by unfold colC; rw [List.getElem?_append_right (by rw [bys_len, gI_h.1]; omega), bys_len, gI_h.1]; rfl
theorem c_score : colC[32]? = some (.int .u64 1) := by unfold colC; rw [List.getElem?_append_right (by rw [bys_len, gI_h.1]; omega), bys_len, gI_h.1]; rfl
theorem c_blues : colC[34]? = some (.slice none 0 0) := by unfold colC; rw [List.getElem?_append_right (by rw [bys_len, gI_h.1]; omega), bys_len, gI_h.1]; rfl
theorem c_sel {w : World} {b : Nat} (h : Arr w b 46 colC) : w.rangeAt b 0 (bys gI) := fun j v hv => by rw [Nat.zero_add, h.cell]; unfold colC; rw [List.getElem?_append_left (List.getElem?_eq_some_iff.1 hv).1]; exact hv
theorem colC_one : ∀ v ∈ colC, v.oneCell' = true := by
  intro v hv
  unfold colC at hv
  rcases List.mem_append.1 hv with hv | hv
  · exact bys_one _ _ hv
  · simp only [List.mem_cons, List.not_mem_nil, or_false] at hv
    rcases hv with rfl | rfl | rfl <;> rfl
theorem col_size : (Tryz.prog.info? 46).map (·.size) = some colC.length := by rw [colC_len]; kernel_rfl
theorem col_build0 (H : List Nat) (hH : H.length = 32) (w : World) :
    (Instr.build 46 #[(0, .agg (bys H).toArray), (2, .slice none 0 0), (1, .int .u64 1)]).run Tryz.prog w = .ok (.agg (bys H ++ [Value.int .u64 1, .slice none 0 0, .slice none 0 0]).toArray) w := by
  match H, hH with
  | [x0, x1, x2, x3, x4, x5, x6, x7, x8, x9, x10, x11, x12, x13, x14, x15, x16, x17, x18, x19, x20, x21, x22, x23, x24, x25, x26, x27, x28, x29, x30, x31], _ => show _ = _; kernel_rfl
theorem col_build (w : World) : (Instr.build 46 #[(0, .agg (bys gI).toArray), (2, .slice none 0 0), (1, .int .u64 1)]).run Tryz.prog w = .ok (.agg colC.toArray) w := col_build0 gI gI_h.1 w
theorem seenB (w : World) : (Instr.build 222 #[(0, .bool true)]).run Tryz.prog w = .ok (.agg #[.bool true]) w := by kernel_rfl
structure CoS (G : GB) (V : List Value) (sv : Value) (g3 g4 g6 pm : Nat) (w : World) : Prop where
  n : Gen G V sv w
  p : Arr w g3 30 [.pointer (some ⟨G.wd, 0, none⟩)]
  t : Arr w g4 24 (bys gI)
  z : Arr w g6 46 zC
  m : OneM w pm gI (.agg #[.bool true])
theorem CoS.below {G : GB} {V : List Value} {sv : Value} {g3 g4 g6 pm : Nat} {w w' : World} (h : CoS G V sv g3 g4 g6 pm w) (hb : Below w.heap.size w w') : CoS G V sv g3 g4 g6 pm w' := ⟨h.n.below hb, h.p.below hb h.p.lt, h.t.below hb h.t.lt, h.z.below hb h.z.lt, h.m.below hb⟩
structure CoT (G : GB) (V : List Value) (sv : Value) (g3 g4 g6 pm g9 wn : Nat) (w : World) : Prop where
  c : CoS G V sv g3 g4 g6 pm w
  s : Arr w g9 121 [.map (some wn)]
  o : OneM w wn gI (.agg #[.bool true])
theorem CoT.below {G : GB} {V : List Value} {sv : Value} {g3 g4 g6 pm g9 wn : Nat} {w w' : World} (h : CoT G V sv g3 g4 g6 pm g9 wn w) (hb : Below w.heap.size w w') : CoT G V sv g3 g4 g6 pm g9 wn w' := ⟨h.c.below hb, h.s.below hb h.s.lt, h.o.below hb⟩
structure CoU (g6 t10 g9 wn : Nat) (w : World) : Prop where
  z : ∃ cs, Arr w g6 46 cs ∧ cs.length = 35
  c : Arr w t10 46 colC
  s : Arr w g9 121 [.map (some wn)]
theorem CoU.below {g6 t10 g9 wn : Nat} {w w' : World} (h : CoU g6 t10 g9 wn w) (hb : Below w.heap.size w w') : CoU g6 t10 g9 wn w' := by
  obtain ⟨cs, hz, hl⟩ := h.z
  exact ⟨⟨cs, hz.below hb hz.lt, hl⟩, h.c.below hb h.c.lt, h.s.below hb h.s.lt⟩
theorem setCells_other {g' j : Nat} : ∀ (us : List Value) (o : Nat) (w0 : World), j ≠ g' → (w0.setCells g' o us).heap[j]? = w0.heap[j]?
  | [], _, _, _ => rfl
  | u :: us, o, w0, h => (setCells_other us (o + 1) _ h).trans (heap_setCell_other w0 ⟨g', o, none⟩ j u h)
theorem arr_sets {w : World} {g g' : Nat} {t : TypeId} {vs : List Value} (h : Arr w g t vs) (hne : g ≠ g') : ∀ (us : List Value) (o : Nat) (w0 : World), Arr w0 g t vs → Arr (w0.setCells g' o us) g t vs
  | [], _, _, h0 => h0
  | u :: us, o, w0, h0 => arr_sets h hne us (o + 1) _ (arr_other h0 hne o u)
set_option maxRecDepth 100000 in
set_option maxHeartbeats 6400000 in
theorem colour_one (G : GB) (V : List Value) (sv : Value) (pm : Nat) (w : World) (hG : Gen G V sv w) (hm : OneM w pm gI (.agg #[.bool true])) :
    Calls Tryz.prog 91 #[.pointer (some ⟨G.wd, 0, none⟩), .agg (bys gI).toArray, .map (some pm)] w fun e w' => ∃ wn, e = .returned (.tuple #[.agg colC.toArray, .map (some wn)]) ∧ OneM w' wn gI (.agg #[.bool true]) ∧ Below w.heap.size w w' := by
  have hz := zero_h
  have hzc := zero_col
  have HGn := Lib.hid hG
  have HM := Lib.hid hm
  clear hG hm
  go_enter Tryz.func91, Tryz.ntmps91
  go_upto_region 1 with fail
  have hpk := three_laid w [.pointer (some ⟨G.wd, 0, none⟩)] (bys gI) zC 30 24 46 _ rfl
  have HS := Lib.hid (show CoS G V sv w.heap.size (w.heap.size + 1) (w.heap.size + 1 + 1) pm _ from ⟨HGn.out.below hpk.2.2.2, hpk.1, hpk.2.1, hpk.2.2.1, HM.out.below hpk.2.2.2⟩)
  have HB := Lib.hid hpk.2.2.2
  clear hpk HGn HM
  generalize World.alloc (World.alloc (World.alloc _ _) _) _ = w1 at *
  obtain ⟨g3, hg⟩ : ∃ g, w.heap.size = g := ⟨_, rfl⟩
  rw [hg] at HS HB ⊢
  have HG := Lib.hid hg
  clear hg
  obtain ⟨g4, hg4⟩ : ∃ g, g3 + 1 = g := ⟨_, rfl⟩
  rw [hg4] at HS ⊢
  obtain ⟨g6, hg6⟩ : ∃ g, g4 + 1 = g := ⟨_, rfl⟩
  rw [hg6] at HS ⊢
  have HLe := Lib.hid (show g3 ≤ g6 by omega)
  clear hg4 hg6
  have HS0 := Lib.hid (show CoS G V sv g3 g4 g6 pm w1.drew from HS.out.below (Below.refl _ _).drew)
  have HB1 := Lib.hid HB.out.drew
  clear HS HB
  refine wp_region_H (CoS G V sv g3 g4 g6 pm) (by kernel_rfl) ?_
  generalize World.drew _ = w2 at *
  simp only [List.size_toArray, List.length_cons, List.length_nil, Nat.reduceAdd, Array.replicate_succ, Array.replicate_zero, List.push_toArray, List.nil_append, List.cons_append]
  refine wpAnyH_take (i := 0) (oi := ⟨some 15, _, _, _, _, _⟩) (v := .pointer (some ⟨G.wd, 0, none⟩)) rfl (by kernel_rfl) (by kernel_rfl) (by kernel_rfl) (fun _ _ _ h => h) (Or.inl ⟨by rfl, ?_⟩) HS0.out ?_
  · intro w hSw
    have hq := hSw.p.cell 0
    dsimp only [List.getElem?_cons_zero] at hq
    go_simp <;> with_reducible rfl
  dsimp only [Act.put]
  simp only [List.setIfInBounds_toArray, List.set_cons_zero, List.set_cons_succ]
  refine wpAnyH_take (i := 1) (oi := ⟨some 16, _, _, _, _, _⟩) (v := .pointer (some ⟨G.wd, 0, none⟩)) rfl (by kernel_rfl) (by kernel_rfl) (by kernel_rfl) (fun _ _ _ h => h) (Or.inl ⟨by rfl, ?_⟩) HS0.out ?_
  · intro w hSw
    go_simp <;> with_reducible rfl
  dsimp only [Act.put]
  simp only [List.setIfInBounds_toArray, List.set_cons_zero, List.set_cons_succ]
  refine wpAnyH_take (i := 2) (oi := ⟨some 17, _, _, _, _, _⟩) (v := .pointer (some ⟨G.wd, 41, none⟩)) rfl (by kernel_rfl) (by kernel_rfl) (by kernel_rfl) (fun _ _ _ h => h) (Or.inl ⟨by rfl, ?_⟩) HS0.out ?_
  · intro w hSw
    go_simp <;> with_reducible rfl
  dsimp only [Act.put]
  simp only [List.setIfInBounds_toArray, List.set_cons_zero, List.set_cons_succ]
  refine wpAnyH_take (i := 3) (oi := ⟨some 18, _, _, _, _, _⟩) (v := .map (some G.m)) rfl (by kernel_rfl) (by kernel_rfl) (by kernel_rfl) (fun _ _ _ h => h) (Or.inl ⟨by rfl, ?_⟩) HS0.out ?_
  · intro w hSw
    have hq := hSw.n.all
    go_simp <;> with_reducible rfl
  dsimp only [Act.put]
  simp only [List.setIfInBounds_toArray, List.set_cons_zero, List.set_cons_succ]
  refine wpAnyH_take (i := 4) (oi := ⟨some 19, _, _, _, _, _⟩) rfl (by kernel_rfl) (by kernel_rfl) (by kernel_rfl) (fun _ _ _ h => h) (yieldsIf_load_mid (by rfl) 24 (.tmp 4) rfl (g4) (0) rfl (bys gI) _ (fun w h => h.t.range) Tryz.underlying24 rfl (size_h2 gI gI_h)) HS0.out ?_
  dsimp only [Act.put]
  simp only [List.setIfInBounds_toArray, List.set_cons_zero, List.set_cons_succ]
  refine wpAnyH_take (i := 5) (oi := ⟨some 20, _, _, _, _, _⟩) (v := .pointer (some ⟨G.kb, 0, none⟩)) rfl (by kernel_rfl) (by kernel_rfl) (by kernel_rfl) (fun _ _ _ h => h) (Or.inl ⟨by rfl, ?_⟩) HS0.out ?_
  · intro w hSw
    have hq := hSw.n.lookH
    go_simp <;> with_reducible rfl
  dsimp only [Act.put]
  simp only [List.setIfInBounds_toArray, List.set_cons_zero, List.set_cons_succ]
  refine wpAnyH_take (i := 6) (oi := ⟨some 8, _, _, _, _, _⟩) (v := .pointer (some ⟨G.kb, 0, none⟩)) rfl (by kernel_rfl) (by kernel_rfl) (by kernel_rfl) (fun _ _ _ h => h) (Or.inl ⟨by rfl, ?_⟩) HS0.out ?_
  · intro w hSw
    go_simp <;> with_reducible rfl
  dsimp only [Act.put]
  simp only [List.setIfInBounds_toArray, List.set_cons_zero, List.set_cons_succ]
  refine wpAnyH_done (by kernel_rfl) ?_ _
  have HZ2 := Lib.hid (show g3 ≤ w2.heap.size from Nat.le_of_lt HS0.out.p.lt)
  have hkw : w2.cell? ⟨G.kb, 167, none⟩ = some (.map (some G.wm)) := HS0.out.n.kc (k_world _ _ _)
  have HC := Lib.hid (mclone_set G.wm #[] 0 w2 HS0.out.n.q)
  go_wp2_with fail
  with_reducible refine HC.out.mono ?_
  rintro e w3 ⟨rfl, rfl⟩
  dsimp only
  clear HC
  have hb3 := (Below.refl w2.heap.size w2).alloc (Nat.le_refl _) (.map #[] 0)
  have HE3 := Lib.hid (show EmpM (w2.alloc (.map #[] 0)) w2.heap.size from heap_alloc_last w2 _)
  have HS3 := Lib.hid (HS0.out.below hb3)
  have HB3 := Lib.hid (HB1.out.trans (hb3.mono HZ2.out))
  have HZ3 := Lib.hid (Nat.le_trans HZ2.out hb3.size)
  obtain ⟨wn, hwn⟩ : ∃ wn, w2.heap.size = wn := ⟨_, rfl⟩
  have HWn := Lib.hid (show g3 ≤ wn by rw [← hwn]; exact HZ2.out)
  rw [hwn] at HE3 ⊢
  have HKeep := Lib.hid (show ∀ w', Below wn (w2.alloc (.map #[] 0)) w' → CoS G V sv g3 g4 g6 pm w' from fun w' h => HS0.out.below (hb3.trans (by rw [hwn]; exact h)))
  clear hwn hb3 HS0 HB1 HZ2 hkw
  generalize World.alloc _ _ = w3 at *
  go_upto_region 3 with fail
  have hm4 := Arr.made w3 121 [.map (some wn)]
  have hb4 := (Below.refl w3.heap.size w3).alloc (Nat.le_refl _) (.cells [Value.map (some wn)].toArray 121)
  have HE4 := Lib.hid (HE3.out.below hb4)
  have HKe4 := Lib.hid (show ∀ w', Below wn (w3.alloc (.cells [Value.map (some wn)].toArray 121)) w' → CoS G V sv g3 g4 g6 pm w' from fun w' h => HKeep.out w' ((hb4.mono (Nat.le_of_lt HE3.out.lt)).trans h))
  have HB4 := Lib.hid (HB3.out.trans (hb4.mono HZ3.out))
  have HWl := Lib.hid HE3.out.lt
  obtain ⟨g9, hg9⟩ : ∃ g9, w3.heap.size = g9 := ⟨_, rfl⟩
  rw [hg9] at hm4 HWl ⊢
  have H9 := Lib.hid hm4
  have hg9s := Lib.hid (show g6 < g9 by rw [← hg9]; exact HS3.out.z.lt)
  clear hm4 hb4 HE3 HKeep HB3 HZ3 HS3 hg9
  generalize World.alloc _ _ = w4 at *
  have HN0 := Lib.hid (show g6 < g9 from by
    have h1 := HKe4.out w4 (Below.refl _ _)
    exact hg9s.out)
  clear hg9s
  have hc9 := H9.out.cell 0
  dsimp only [List.getElem?_cons_zero] at hc9
  have HS4 := Lib.hid (HKe4.out w4 (Below.refl _ _))
  go_step
  iterate 3 (first | go_values | go_skip | go_guarded | go_step | go_upon)
  refine wpList_load_mid (P := Tryz.prog) rfl 24 _ rfl (g4) (0) rfl _ _ (HS4.out.t.range) Tryz.underlying24 rfl (size_h2 gI gI_h) ?_
  simp only [Act.put, List.setIfInBounds_toArray, List.set_cons_zero, List.set_cons_succ]
  obtain ⟨w5, hu, ho5, hg5⟩ := upd_emp Tryz.underlying121 gI_h HE4.out (.agg #[.bool true])
  unfold hv at hu
  have hsb := seenB
  have HT5 := Lib.hid (show CoT G V sv g3 g4 g6 pm g9 wn w5 from ⟨HKe4.out w5 ((Below.refl wn w4).grown hg5 (Nat.le_of_lt HE4.out.lt) (fun k hk => by cases hk; exact Nat.le_refl _)), kept_grown hg5 H9.out (by intro e; have h := Option.some.inj e; have := HWl.out; omega), ho5⟩)
  have HB5 := Lib.hid (HB4.out.grown hg5 (Nat.le_trans HWn.out (Nat.le_of_lt HE4.out.lt)) (fun k hk => by cases hk; exact HWn.out))
  clear ho5 hg5 HE4 HKe4 HB4 H9 HS4 
  go_upto_region 4 with fail
  clear hu hsb hc9
  have HS0 := Lib.hid (show CoT G V sv g3 g4 g6 pm g9 wn w5.drew from HT5.out.below (Below.refl _ _).drew)
  have HB := Lib.hid HB5.out.drew
  have HZ := Lib.hid (show g3 ≤ w5.drew.heap.size from Nat.le_of_lt HS0.out.c.p.lt)
  clear HT5 HB5
  refine wp_region_U (CoT G V sv g3 g4 g6 pm g9 wn) 13 (by kernel_rfl) ?_
  generalize World.drew _ = w4 at *
  simp only [List.size_toArray, List.length_cons, List.length_nil, Nat.reduceAdd, Array.replicate_succ, Array.replicate_zero, List.push_toArray, List.nil_append, List.cons_append]
  refine wpAnyU_take (i := 0) (oi := ⟨some 29, _, _, _, _, _⟩) rfl (by kernel_rfl) (by kernel_rfl) (by kernel_rfl) (by kernel_rfl) (by kernel_rfl) (fun _ _ _ h => h) (yieldsIf_load_mid (by rfl) 24 (.tmp 4) rfl (g4) (0) rfl (bys gI) _ (fun w h => h.c.t.range) Tryz.underlying24 rfl (size_h2 gI gI_h)) HS0.out ?_
  dsimp only [Act.put]
  simp only [List.setIfInBounds_toArray, List.set_cons_zero, List.set_cons_succ]
  refine wpAnyU_take (i := 1) (oi := ⟨some 30, _, _, _, _, _⟩) (v := .pointer (some ⟨G.wd, 0, none⟩)) rfl (by kernel_rfl) (by kernel_rfl) (by kernel_rfl) (by kernel_rfl) (by kernel_rfl) (fun _ _ _ h => h) (Or.inl ⟨by rfl, ?_⟩) HS0.out ?_
  · intro w hSw
    have hq := hSw.c.p.cell 0
    dsimp only [List.getElem?_cons_zero] at hq
    go_simp <;> with_reducible rfl
  dsimp only [Act.put]
  simp only [List.setIfInBounds_toArray, List.set_cons_zero, List.set_cons_succ]
  refine wpAnyU_take (i := 2) (oi := ⟨some 31, _, _, _, _, _⟩) rfl (by kernel_rfl) (by kernel_rfl) (by kernel_rfl) (by kernel_rfl) (by kernel_rfl) (fun _ _ _ h => h) (yieldsIf_load_mid (by rfl) 24 (.tmp 4) rfl (g4) (0) rfl (bys gI) _ (fun w h => h.c.t.range) Tryz.underlying24 rfl (size_h2 gI gI_h)) HS0.out ?_
  dsimp only [Act.put]
  simp only [List.setIfInBounds_toArray, List.set_cons_zero, List.set_cons_succ]
  refine wpAnyU_take (i := 3) (oi := ⟨some 32, _, _, _, _, _⟩) (v := .map (some pm)) rfl (by kernel_rfl) (by kernel_rfl) (by kernel_rfl) (by kernel_rfl) (by kernel_rfl) (fun _ _ _ h => h) (Or.inl ⟨by rfl, ?_⟩) HS0.out ?_
  · intro w hSw
    go_simp <;> with_reducible rfl
  dsimp only [Act.put]
  simp only [List.setIfInBounds_toArray, List.set_cons_zero, List.set_cons_succ]
  refine wpAnyU_take (i := 5) (oi := ⟨some 34, _, _, _, _, _⟩) (v := .pointer (some ⟨G.kb, 0, none⟩)) rfl (by kernel_rfl) (by kernel_rfl) (by kernel_rfl) (by kernel_rfl) (by kernel_rfl) (fun _ _ _ h => h) (Or.inl ⟨by rfl, ?_⟩) HS0.out ?_
  · intro w hSw
    go_simp <;> with_reducible rfl
  dsimp only [Act.put]
  simp only [List.setIfInBounds_toArray, List.set_cons_zero, List.set_cons_succ]
  refine wpAnyU_take (i := 6) (oi := ⟨some 35, _, _, _, _, _⟩) (v := .pointer (some ⟨G.kb, 0, none⟩)) rfl (by kernel_rfl) (by kernel_rfl) (by kernel_rfl) (by kernel_rfl) (by kernel_rfl) (fun _ _ _ h => h) (Or.inl ⟨by rfl, ?_⟩) HS0.out ?_
  · intro w hSw
    go_simp <;> with_reducible rfl
  dsimp only [Act.put]
  simp only [List.setIfInBounds_toArray, List.set_cons_zero, List.set_cons_succ]
  refine wpAnyU_take (i := 7) (oi := ⟨some 36, _, _, _, _, _⟩) (v := .pointer (some ⟨G.kb, 132, none⟩)) rfl (by kernel_rfl) (by kernel_rfl) (by kernel_rfl) (by kernel_rfl) (by kernel_rfl) (fun _ _ _ h => h) (Or.inl ⟨by rfl, ?_⟩) HS0.out ?_
  · intro w hSw
    go_simp <;> with_reducible rfl
  dsimp only [Act.put]
  simp only [List.setIfInBounds_toArray, List.set_cons_zero, List.set_cons_succ]
  refine wpAnyU_take (i := 8) (oi := ⟨some 37, _, _, _, _, _⟩) (v := .pointer (some ⟨G.kb, 164, none⟩)) rfl (by kernel_rfl) (by kernel_rfl) (by kernel_rfl) (by kernel_rfl) (by kernel_rfl) (fun _ _ _ h => h) (Or.inl ⟨by rfl, ?_⟩) HS0.out ?_
  · intro w hSw
    go_simp <;> with_reducible rfl
  dsimp only [Act.put]
  simp only [List.setIfInBounds_toArray, List.set_cons_zero, List.set_cons_succ]
  refine wpAnyU_take (i := 9) (oi := ⟨some 38, _, _, _, _, _⟩) (v := .int .u64 0) rfl (by kernel_rfl) (by kernel_rfl) (by kernel_rfl) (by kernel_rfl) (by kernel_rfl) (fun _ _ _ h => h) (Or.inl ⟨by rfl, ?_⟩) HS0.out ?_
  · intro w hSw
    have hq : w.cell? ⟨G.kb, 164, none⟩ = some (.int .u64 0) := hSw.c.n.kc (k_score _ _ _)
    go_simp <;> with_reducible rfl
  dsimp only [Act.put]
  simp only [List.setIfInBounds_toArray, List.set_cons_zero, List.set_cons_succ]
  refine wpAnyU_take (i := 10) (oi := ⟨some 39, _, _, _, _, _⟩) (v := .int .u64 1) rfl (by kernel_rfl) (by kernel_rfl) (by kernel_rfl) (by kernel_rfl) (by kernel_rfl) (fun _ _ _ h => h) (Or.inl ⟨by rfl, ?_⟩) HS0.out ?_
  · intro w hSw
    go_simp <;> first | with_reducible rfl | kernel_rfl
  dsimp only [Act.put]
  simp only [List.setIfInBounds_toArray, List.set_cons_zero, List.set_cons_succ]
  refine wpAnyU_factsT (ot := ⟨none, _, _, _, _, _⟩) [(4, some 33), (11, some 40), (12, some 10)] (fun i v z => match i with
      | 4 => v = .slice none 0 0
      | 11 => v = .agg colC.toArray
      | _ => ∃ b, v = .pointer (some ⟨b, 0, none⟩) ∧ Arr z b 46 zC ∧ w4.heap.size ≤ b) rfl rfl ?_ ?_ (by kernel_rfl) (by decide) (by kernel_rfl) ?_ ?_
  · intro i v z z' h hb
    match i, h with
    | 0, ⟨b, e, h, hg⟩ => exact ⟨b, e, h.below hb h.lt, hg⟩
    | 1, ⟨b, e, h, hg⟩ => exact ⟨b, e, h.below hb h.lt, hg⟩
    | 2, ⟨b, e, h, hg⟩ => exact ⟨b, e, h.below hb h.lt, hg⟩
    | 3, ⟨b, e, h, hg⟩ => exact ⟨b, e, h.below hb h.lt, hg⟩
    | 4, h => exact h
    | 5, ⟨b, e, h, hg⟩ => exact ⟨b, e, h.below hb h.lt, hg⟩
    | 6, ⟨b, e, h, hg⟩ => exact ⟨b, e, h.below hb h.lt, hg⟩
    | 7, ⟨b, e, h, hg⟩ => exact ⟨b, e, h.below hb h.lt, hg⟩
    | 8, ⟨b, e, h, hg⟩ => exact ⟨b, e, h.below hb h.lt, hg⟩
    | 9, ⟨b, e, h, hg⟩ => exact ⟨b, e, h.below hb h.lt, hg⟩
    | 10, ⟨b, e, h, hg⟩ => exact ⟨b, e, h.below hb h.lt, hg⟩
    | 11, h => exact h
    | _ + 12, ⟨b, e, h, hg⟩ => exact ⟨b, e, h.below hb h.lt, hg⟩
  · exact fun w' hb => HS0.out.below hb
  refine List.forall_mem_cons.2 ⟨?_, List.forall_mem_cons.2 ⟨?_, List.forall_mem_cons.2 ⟨?_, fun p hp => absurd hp List.not_mem_nil⟩⟩⟩
  · refine stepF_of (oi := ⟨some 33, _, _, _, _, _⟩) rfl rfl ?_
    intro X w5 hB5 hd K hK
    have HS5 := Lib.hid (HS0.out.below hB5)
    simp only [putsA, putsT_some, putsT_nil, Act.put, List.setIfInBounds_toArray, List.set_cons_zero, List.set_cons_succ] at hK ⊢
    have HK := Lib.hid hK
    clear hK hd
    go_simp
    with_reducible refine (merge_one G.wd pm w5 HS5.out.c.m).mono ?_
    rintro e w6 ⟨rfl, hb6⟩
    dsimp only
    exact HK.out _ _ rfl hb6
  · refine stepF_of (oi := ⟨some 40, _, _, _, _, _⟩) rfl rfl ?_
    intro X w5 hB5 hd K hK
    have h6 : X 4 = .slice none 0 0 := hd (4, some 33) (by decide) (by kernel_rfl)
    have H6 := Lib.hid h6
    clear h6
    simp only [putsA, putsT_some, putsT_nil, Act.put, List.setIfInBounds_toArray, List.set_cons_zero, List.set_cons_succ] at hK ⊢
    have HK := Lib.hid hK
    clear hK hd
    refine wp_build_run (P := Tryz.prog) 46 _ rfl #[(0, .agg (bys gI).toArray), (2, X 4), (1, .int .u64 1)] (by simp only [List.map_toArray, List.map_cons, List.map_nil]; rfl) _ ?_ (HK.out _ _ rfl (Below.refl _ _))
    rw [H6.out]
    exact col_build w5
  · refine stepF_of (oi := ⟨some 10, _, _, _, _, _⟩) rfl rfl ?_
    intro X w5 hB5 hd K hK
    simp only [putsA, putsT_some, putsT_nil, Act.put, List.setIfInBounds_toArray, List.set_cons_zero, List.set_cons_succ] at hK ⊢
    have HK := Lib.hid hK
    clear hK hd
    have hzp := zero_col
    have HAz := Lib.hid (Arr.made w5 46 zC)
    have HBz := Lib.hid (show Below w5.heap.size w5 (w5.alloc (.cells zC.toArray 46)) from (Below.refl _ _).alloc (Nat.le_refl _) _)
    go_simp
    exact HK.out _ _ ⟨_, rfl, HAz.out, hB5.size⟩ HBz.out
  intro X w5 hB5 hF K hK
  have h7 : X 11 = .agg colC.toArray := hF (11, some 40) (by decide)
  obtain ⟨b, h8, ha8, hg8⟩ : ∃ b, X 12 = .pointer (some ⟨b, 0, none⟩) ∧ Arr w5 b 46 zC ∧ w4.heap.size ≤ b := hF (12, some 10) (by decide)
  simp only [putsA, putsT_some, putsT_nil, Act.put, List.setIfInBounds_toArray, List.set_cons_zero, List.set_cons_succ]
  rw [h7, h8]
  clear hF h7 h8
  have HK := Lib.hid hK
  clear hK
  refine wp_store_mid (P := Tryz.prog) 46 (.tmp 10) (.tmp 40) rfl b 0 colC.toArray rfl rfl (ha8.there _ (by rw [List.size_toArray, colC_len, zC_len])) (by rw [List.size_toArray]; exact col_size) (all_oneCell_toArray colC_one) ?_
  rw [show colC.toArray.toList = colC from rfl]
  have hbs := below_sets b hg8 colC 0 hB5
  have HS6 := Lib.hid (show CoU g6 b g9 wn (w5.setCells b 0 colC) from ⟨⟨zC, HS0.out.c.z.below hbs HS0.out.c.z.lt, zC_len⟩, ha8.setAll colC (by rw [colC_len, zC_len]), HS0.out.s.below hbs HS0.out.s.lt⟩)
  have HO6 := Lib.hid (HS0.out.o.below hbs)
  have HB6 := Lib.hid (HB.out.trans (hbs.mono HZ.out))
  have HN2 := Lib.hid (show g6 < g9 from HN0.out)
  have HN := Lib.hid (show g6 < b from Nat.lt_of_lt_of_le HS0.out.c.z.lt hg8)
  refine HK.out _ _ ?_
  clear HK hbs ha8 hg8 HS0 HB HZ hB5
  generalize World.setCells _ _ _ _ = w6 at *
  dsimp only [Act.put]
  have hcm : w6.cell? ⟨b, 33, none⟩ = some (.slice none 0 0) := by rw [HS6.out.c.cell]; exact c_merge
  go_wp2_with fail
  refine wp_loop_rounds 1 ?_
  rw [rounds_succ]
  go_upto_region 15 with fail
  clear hcm
  have HS0 := Lib.hid (show CoU g6 b g9 wn w6.drew from HS6.out.below (Below.refl _ _).drew)
  have HB := Lib.hid HB6.out.drew
  have HO := Lib.hid (show OneM w6.drew wn gI (.agg #[.bool true]) from HO6.out)
  clear HS6 HB6 HO6
  refine wp_region_H (CoU g6 b g9 wn) (by kernel_rfl) ?_
  generalize World.drew _ = w7 at *
  simp only [List.size_toArray, List.length_cons, List.length_nil, Nat.reduceAdd, Array.replicate_succ, Array.replicate_zero, List.push_toArray, List.nil_append, List.cons_append]
  refine wpAnyH_take (i := 0) (oi := ⟨some 81, _, _, _, _, _⟩) rfl (by kernel_rfl) (by kernel_rfl) (by kernel_rfl) (fun _ _ _ h => h) (yieldsIf_load_mid (by rfl) 46 (.tmp 10) rfl (b) (0) rfl (colC) _ (fun w h => h.c.range) Tryz.underlying46 rfl col_size) HS0.out ?_
  dsimp only [Act.put]
  simp only [List.setIfInBounds_toArray, List.set_cons_zero, List.set_cons_succ]
  refine wpAnyH_take (i := 1) (oi := ⟨some 82, _, _, _, _, _⟩) (v := .map (some wn)) rfl (by kernel_rfl) (by kernel_rfl) (by kernel_rfl) (fun _ _ _ h => h) (Or.inl ⟨by rfl, ?_⟩) HS0.out ?_
  · intro w hSw
    have hq := hSw.s.cell 0
    dsimp only [List.getElem?_cons_zero] at hq
    go_simp <;> with_reducible rfl
  dsimp only [Act.put]
  simp only [List.setIfInBounds_toArray, List.set_cons_zero, List.set_cons_succ]
  refine wpAnyH_one (i := 2) (oi := ⟨none, _, _, _, _, _⟩) (by kernel_rfl) rfl (by rfl) (fun K9 hK9 => ?_)
  have HK9 := Lib.hid hK9
  clear hK9
  obtain ⟨cs, hcs, hcl⟩ := HS0.out.z
  refine wp_store_mid (P := Tryz.prog) 46 _ _ rfl g6 0 colC.toArray rfl rfl (hcs.there _ (by rw [List.size_toArray, colC_len, hcl])) (by rw [List.size_toArray]; exact col_size) (all_oneCell_toArray colC_one) ?_
  rw [show colC.toArray.toList = colC from rfl]
  have HF := Lib.hid (hcs.setAll colC (by rw [colC_len, hcl]))
  have HS1 := Lib.hid (show CoU g6 b g9 wn (w7.setCells g6 0 colC) from ⟨⟨colC, HF.out, colC_len⟩, arr_sets HS0.out.c (by have := HN.out; omega) _ _ _ HS0.out.c, arr_sets HS0.out.s (by have := HN2.out; omega) _ _ _ HS0.out.s⟩)
  have HB2 := Lib.hid (below_sets g6 HLe.out colC 0 HB.out)
  have HO2 := Lib.hid (show OneM (w7.setCells g6 0 colC) wn gI (.agg #[.bool true]) from by have hb := below_sets g6 (Nat.le_refl g6) colC 0 (Below.refl g6 w7); exact (setCells_other colC 0 w7 (by intro e; have h1 : w7.heap[wn]? = _ := HO.out; have h2 : w7.heap[g6]? = _ := hcs; rw [e, h2] at h1; cases h1)).trans HO.out)
  clear hcs hcl HS0 HB HO
  have HS0 := HS1
  clear HS1
  generalize World.setCells _ _ _ _ = w8 at *
  refine HK9.out _ _ HS0.out ?_
  clear HK9
  dsimp only [Act.put]
  refine wpAnyH_take (i := 3) (oi := ⟨some 7, _, _, _, _, _⟩) (v := .map (some wn)) rfl (by kernel_rfl) (by kernel_rfl) (by kernel_rfl) (fun _ _ _ h => h) (Or.inl ⟨by rfl, ?_⟩) HS0.out ?_
  · intro w hSw
    go_simp <;> with_reducible rfl
  dsimp only [Act.put]
  simp only [List.setIfInBounds_toArray, List.set_cons_zero, List.set_cons_succ]
  refine wpAnyH_done (by kernel_rfl) ?_ _
  go_wp2
  refine bodyPost_ret (results_cell_row_tmp (P := Tryz.prog) rfl _ _ g6 46 _ (0, 0) _ rfl HF.out Tryz.underlying46 rfl (by rw [List.size_toArray]; exact col_size)) rfl ?_
  exact ⟨wn, rfl, HO2.out, by rw [HG.out]; exact HB2.out⟩
end Go.Proofs.YthnbnckmeffkmaaGreat
/- accept.may; a merged block. -/
namespace Go.Proofs.YthnbnckmeffkmaaGreat
open Go.RowKit Go.Lib
set_option linter.unusedVariables false
set_option linter.unusedSimpArgs false
attribute [local go_sem ↓] Go.wp_at_zero Go.wp_at_succ

def mgC : List Value := bys gI ++ (bys zH ++ [.bool true, .slice none 0 0])
theorem mgC_len : mgC.length = 66 := by unfold mgC; rw [List.length_append, List.length_append, bys_len, bys_len, gI_h.1]; rfl
theorem mg_tail (j : Nat) (h : 32 ≤ j) : mgC[j]? = (bys zH ++ [.bool true, .slice none 0 0])[j - 32]? := by unfold mgC; rw [List.getElem?_append_right (by rw [bys_len, gI_h.1]; omega), bys_len, gI_h.1]
theorem mg_blue : mgC[64]? = some (.bool true) := by rw [mg_tail 64 (by omega)]; rfl
theorem mg_txs : mgC[65]? = some (.slice none 0 0) := by rw [mg_tail 65 (by omega)]; rfl
theorem mgC_one : ∀ v ∈ mgC, v.oneCell' = true := by
  intro v hv
  unfold mgC at hv
  rcases List.mem_append.1 hv with hv | hv
  · exact bys_one _ _ hv
  · rcases List.mem_append.1 hv with hv | hv
    · exact bys_one _ _ hv
    · simp only [List.mem_cons, List.not_mem_nil, or_false] at hv
      rcases hv with rfl | rfl <;> rfl
theorem mg_size : (Tryz.prog.info? 200).map (·.size) = some mgC.length := by rw [mgC_len]; kernel_rfl
def zM : List Value := bys zH ++ (bys zH ++ [.bool false, .slice none 0 0])
theorem zM_len : zM.length = 66 := by kernel_rfl
theorem zero_mg : ∀ w, (zeroValue 200).run Tryz.prog w = .ok (.agg zM.toArray) w := fun w => by kernel_rfl
theorem mg_build0 (H : List Nat) (hH : H.length = 32) (w : World) :
    (Instr.build 200 #[(0, .agg (bys H).toArray), (1, .agg (bys zH).toArray), (2, .bool true), (3, .slice none 0 0)]).run Tryz.prog w = .ok (.agg (bys H ++ (bys zH ++ [Value.bool true, .slice none 0 0])).toArray) w := by
  match H, hH with
  | [x0, x1, x2, x3, x4, x5, x6, x7, x8, x9, x10, x11, x12, x13, x14, x15, x16, x17, x18, x19, x20, x21, x22, x23, x24, x25, x26, x27, x28, x29, x30, x31], _ => show _ = _; kernel_rfl
theorem mg_build (w : World) : (Instr.build 200 #[(0, .agg (bys gI).toArray), (1, .agg (bys zH).toArray), (2, .bool true), (3, .slice none 0 0)]).run Tryz.prog w = .ok (.agg mgC.toArray) w := mg_build0 gI gI_h.1 w
theorem zero_res : ∀ w, (zeroValue 62).run Tryz.prog w = .ok (.agg r0C.toArray) w := fun w => by kernel_rfl
set_option maxRecDepth 100000 in
set_option maxHeartbeats 1600000 in
theorem may_g (w : World) : Calls Tryz.prog 196 #[.agg pC.toArray] w fun e w' => e = .returned (.bool true) ∧ Below w.heap.size w w' := by
  go_enter Tryz.func196, Tryz.ntmps196
  go_upto_region 1 with fail
  have HA := Lib.hid (Arr.made w 26 pC)
  have HB := Lib.hid ((Below.refl w.heap.size w).alloc (Nat.le_refl _) (.cells pC.toArray 26))
  generalize World.alloc _ _ = w1 at *
  have hc5 : w1.cell? ⟨w.heap.size, 5, none⟩ = some (.int .i64 0) := by rw [HA.out.cell]; rfl
  have hc6 : w1.cell? ⟨w.heap.size, 6, none⟩ = some (.int .u64 0) := by rw [HA.out.cell]; rfl
  go_wp2
  go_ret
  exact ⟨rfl, HB.out⟩
end Go.Proofs.YthnbnckmeffkmaaGreat
/- accept.Of of one block without transactions: from the makers on. -/
namespace Go.Proofs.YthnbnckmeffkmaaGreat
open Go.RowKit Go.Lib
set_option linter.unusedVariables false
set_option linter.unusedSimpArgs false
attribute [local go_sem ↓] Go.wp_at_zero Go.wp_at_succ

theorem range_sets {g' b off : Nat} {vs : List Value} (hne : b ≠ g') : ∀ (us : List Value) (o : Nat) (w : World), w.rangeAt b off vs → World.rangeAt (w.setCells g' o us) b off vs
  | [], _, _, h => h
  | u :: us, o, w, h => range_sets hne us (o + 1) _ (range_other h g' o u hne)
/-- What accept.Of has in memory. -/
structure OfS (gP g8 g11 st s2 mb mo g cap : Nat) (w : World) : Prop where
  p : Arr w gP 26 pC
  e : Arr w g8 62 r0C
  r : Arr w g11 62 (resC (.slice (some ⟨g, 0, none⟩) 1 cap))
  f : w.rangeAt g 0 [Value.int .u64 0]
  m : w.rangeAt mb mo mgC
  s : EmpS w st
  n : EmpS w s2
  l : g < w.heap.size ∧ mb < w.heap.size
theorem OfS.below {gP g8 g11 st s2 mb mo g cap : Nat} {w w' : World} (h : OfS gP g8 g11 st s2 mb mo g cap w) (hb : Below w.heap.size w w') : OfS gP g8 g11 st s2 mb mo g cap w' :=
  ⟨h.p.below hb h.p.lt, h.e.below hb h.e.lt, h.r.below hb h.r.lt, rangeAt_below h.f hb h.l.1, rangeAt_below h.m hb h.l.2, h.s.below hb, h.n.below hb, Nat.lt_of_lt_of_le h.l.1 hb.size, Nat.lt_of_lt_of_le h.l.2 hb.size⟩
structure OfT (gP g8 g11 st s2 mb mo g cap g20 : Nat) (w : World) : Prop where
  o : OfS gP g8 g11 st s2 mb mo g cap w
  b : Arr w g20 200 mgC
theorem OfT.below {gP g8 g11 st s2 mb mo g cap g20 : Nat} {w w' : World} (h : OfT gP g8 g11 st s2 mb mo g cap g20 w) (hb : Below w.heap.size w w') : OfT gP g8 g11 st s2 mb mo g cap g20 w' := ⟨h.o.below hb, h.b.below hb h.b.lt⟩
set_option maxRecDepth 100000 in
set_option maxHeartbeats 6400000 in
theorem of_t {u0 u2 u5 u6 u7 u9 u12 u13 u14 u15 u16 u17 u18 u19 u20 u21 u22 u23 u24 u25 u26 u27 u28 u29 u30 u31 u32 u33 u34 u35 u36 u37 u38 u39 u40 u41 u42 u43 u44 u45 u46 u47 u48 u49 u50 u51 u52 u53 u54 u55 u56 u57 u58 u59 u60 u61 u62 u63 u64 u65 u66 u67 u68 u69 u70 u71 u72 u73 u74 u75 u76 u77 u78 u79 u80 u81 u82 u83 u84 u85 u86 u87 u88 u89 u90 u91 u92 u93 u94 u95 u96 u97 u98 u99 u100 u101 u102 u103 u104 u105 u106 u107 u108 u109 u110 u111 u112 u113 u114 u115 u116 u117 u118 u119 u120 u121 u122 u123 u124 u125 u126 u127 u128 u129 u130 u131 u132 u133 u134 u135 u136 u137 u138 u139 u140 u141 u142 u143 u144 u145 u146 u147 u148 u149 u150 u151 u152 u153 u154 u155 u156 : Value} (gP g8 g11 st s2 mb mo cm g cap : Nat) (w wr : World) (hs : OfS gP g8 g11 st s2 mb mo g cap wr) (hb : Below w.heap.size w wr) (hp : w.heap.size ≤ gP) (h8 : w.heap.size ≤ g8) (h11 : w.heap.size ≤ g11) (hg : g ≠ g11 ∧ g ≠ g8 ∧ g8 ≠ g11) :
    Code.wp Tryz.prog (seqDrop 5 (bodyOf Tryz.f150)) (bodyPost Tryz.prog Tryz.f150 fun e w' => ∃ g cap, e = .returned (.tuple #[.agg (resC (.slice (some ⟨g, 0, none⟩) 1 cap)).toArray, .int .i64 0]) ∧ w'.rangeAt g 0 [Value.int .u64 0] ∧ Below w.heap.size w w')
      ⟨#[u0, .pointer (some ⟨st, 0, none⟩), u2, .slice (some ⟨mb, mo, none⟩) 1 cm, .pointer (some ⟨gP, 0, none⟩), u5, u6, u7, .pointer (some ⟨g8, 0, none⟩), u9, .pointer (some ⟨s2, 0, none⟩), .pointer (some ⟨g11, 0, none⟩), u12, u13, u14, u15, u16, u17, u18, u19, u20, u21, u22, u23, u24, u25, u26, u27, u28, u29, u30, u31, u32, u33, u34, u35, u36, u37, u38, u39, u40, u41, u42, u43, u44, u45, u46, u47, u48, u49, u50, u51, u52, u53, u54, u55, u56, u57, u58, u59, u60, u61, u62, u63, u64, u65, u66, u67, u68, u69, u70, u71, u72, u73, u74, u75, u76, u77, u78, u79, u80, u81, u82, u83, u84, u85, u86, u87, u88, u89, u90, u91, u92, u93, u94, u95, u96, u97, u98, u99, u100, u101, u102, u103, u104, u105, u106, u107, u108, u109, u110, u111, u112, u113, u114, u115, u116, u117, u118, u119, u120, u121, u122, u123, u124, u125, u126, u127, u128, u129, u130, u131, u132, u133, u134, u135, u136, u137, u138, u139, u140, u141, u142, u143, u144, u145, u146, u147, u148, u149, u150, u151, u152, u153, u154, u155, u156], []⟩ wr := by
  have HS := Lib.hid hs
  have HB := Lib.hid hb
  have HL := Lib.hid (And.intro hp (And.intro h8 h11))
  have HN := Lib.hid hg
  have hzm := zero_mg
  clear hs hb hp h8 h11 hg
  conv => arg 2; whnf
  dsimp only
  go_upto_region 25 with fail
  refine wp_loop_rounds 2 ?_
  rw [rounds_succ]
  go_upto_region 26 with fail
  go_step
  iterate 6 (first | go_values | go_skip | go_guarded | go_step | go_upon)
  refine wpList_load_mid (P := Tryz.prog) rfl 200 _ rfl (mb) (mo) rfl _ _ (HS.out.m) Tryz.underlying200 rfl (mg_size) ?_
  simp only [Act.put, List.setIfInBounds_toArray, List.set_cons_zero, List.set_cons_succ]
  iterate 6 (first | go_values | go_skip | go_guarded | go_step | go_upon)
  refine wpList_store_box (P := Tryz.prog) rfl 200 _ _ rfl wr _ (mgC) rfl rfl (by rw [List.size_toArray, zM_len, mgC_len]) (mg_size) (mgC_one) ?_
  intro w2 ha9 hb9
  have HA2 := Lib.hid ha9.out
  have HB2 := Lib.hid hb9.out
  clear ha9 hb9
  have HZ := Lib.hid HB.out.size
  have HT := Lib.hid (show OfT gP g8 g11 st s2 mb mo g cap wr.heap.size w2 from ⟨HS.out.below HB2.out, HA2.out⟩)
  have HB3 := Lib.hid (HB.out.trans (HB2.out.mono HZ.out))
  obtain ⟨g20, h20⟩ : ∃ g20, wr.heap.size = g20 := ⟨_, rfl⟩
  rw [h20] at HT ⊢
  clear HS HB HB2 HZ HA2 h20
  go_upto_region 27 with fail
  have HS0 := Lib.hid (show OfT gP g8 g11 st s2 mb mo g cap g20 w2.drew from HT.out.below (Below.refl _ _).drew)
  have HB := Lib.hid HB3.out.drew
  clear HT HB3
  refine wp_region_H (OfT gP g8 g11 st s2 mb mo g cap g20) (by kernel_rfl) ?_
  generalize World.drew _ = w3 at *
  simp only [List.size_toArray, List.length_cons, List.length_nil, Nat.reduceAdd, Array.replicate_succ, Array.replicate_zero, List.push_toArray, List.nil_append, List.cons_append]
  refine wpAnyH_take (i := 0) (oi := ⟨some 101, _, _, _, _, _⟩) (v := .pointer (some ⟨g20, 64, none⟩)) rfl (by kernel_rfl) (by kernel_rfl) (by kernel_rfl) (fun _ _ _ h => h) (Or.inl ⟨by rfl, ?_⟩) HS0.out ?_
  · intro w hSw
    go_simp <;> with_reducible rfl
  dsimp only [Act.put]
  simp only [List.setIfInBounds_toArray, List.set_cons_zero, List.set_cons_succ]
  refine wpAnyH_take (i := 1) (oi := ⟨some 102, _, _, _, _, _⟩) (v := .bool true) rfl (by kernel_rfl) (by kernel_rfl) (by kernel_rfl) (fun _ _ _ h => h) (Or.inl ⟨by rfl, ?_⟩) HS0.out ?_
  · intro w hSw
    have hq : w.cell? ⟨g20, 64, none⟩ = some (.bool true) := by rw [hSw.b.cell]; exact mg_blue
    go_simp <;> with_reducible rfl
  dsimp only [Act.put]
  simp only [List.setIfInBounds_toArray, List.set_cons_zero, List.set_cons_succ]
  refine wpAnyH_take (i := 2) (oi := ⟨some 103, _, _, _, _, _⟩) (v := .bool false) rfl (by kernel_rfl) (by kernel_rfl) (by kernel_rfl) (fun _ _ _ h => h) (Or.inl ⟨by rfl, ?_⟩) HS0.out ?_
  · intro w hSw
    go_simp <;> with_reducible rfl
  dsimp only [Act.put]
  simp only [List.setIfInBounds_toArray, List.set_cons_zero, List.set_cons_succ]
  refine wpAnyH_take (i := 3) (oi := ⟨some 104, _, _, _, _, _⟩) (v := .bool false) rfl (by kernel_rfl) (by kernel_rfl) (by kernel_rfl) (fun _ _ _ h => h) (Or.inl ⟨by rfl, ?_⟩) HS0.out ?_
  · intro w hSw
    go_simp <;> with_reducible rfl
  dsimp only [Act.put]
  simp only [List.setIfInBounds_toArray, List.set_cons_zero, List.set_cons_succ]
  refine wpAnyH_take (i := 4) (oi := ⟨some 105, _, _, _, _, _⟩) (v := .pointer (some ⟨gP, 6, none⟩)) rfl (by kernel_rfl) (by kernel_rfl) (by kernel_rfl) (fun _ _ _ h => h) (Or.inl ⟨by rfl, ?_⟩) HS0.out ?_
  · intro w hSw
    go_simp <;> with_reducible rfl
  dsimp only [Act.put]
  simp only [List.setIfInBounds_toArray, List.set_cons_zero, List.set_cons_succ]
  refine wpAnyH_take (i := 5) (oi := ⟨some 106, _, _, _, _, _⟩) (v := .int .u64 0) rfl (by kernel_rfl) (by kernel_rfl) (by kernel_rfl) (fun _ _ _ h => h) (Or.inl ⟨by rfl, ?_⟩) HS0.out ?_
  · intro w hSw
    have hq : w.cell? ⟨gP, 6, none⟩ = some (.int .u64 0) := by rw [hSw.o.p.cell]; rfl
    go_simp <;> with_reducible rfl
  dsimp only [Act.put]
  simp only [List.setIfInBounds_toArray, List.set_cons_zero, List.set_cons_succ]
  refine wpAnyH_take (i := 6) (oi := ⟨some 107, _, _, _, _, _⟩) (v := .pointer (some ⟨g11, 4, none⟩)) rfl (by kernel_rfl) (by kernel_rfl) (by kernel_rfl) (fun _ _ _ h => h) (Or.inl ⟨by rfl, ?_⟩) HS0.out ?_
  · intro w hSw
    go_simp <;> with_reducible rfl
  dsimp only [Act.put]
  simp only [List.setIfInBounds_toArray, List.set_cons_zero, List.set_cons_succ]
  refine wpAnyH_take (i := 7) (oi := ⟨some 108, _, _, _, _, _⟩) (v := .slice (some ⟨g, 0, none⟩) 1 cap) rfl (by kernel_rfl) (by kernel_rfl) (by kernel_rfl) (fun _ _ _ h => h) (Or.inl ⟨by rfl, ?_⟩) HS0.out ?_
  · intro w hSw
    have hq := hSw.o.r.cell 4
    unfold resC at hq
    dsimp only [List.getElem?_cons_zero, List.getElem?_cons_succ] at hq
    go_simp <;> with_reducible rfl
  dsimp only [Act.put]
  simp only [List.setIfInBounds_toArray, List.set_cons_zero, List.set_cons_succ]
  refine wpAnyH_take (i := 8) (oi := ⟨some 109, _, _, _, _, _⟩) (v := .int .i64 0) rfl (by kernel_rfl) (by kernel_rfl) (by kernel_rfl) (fun _ _ _ h => h) (Or.inl ⟨by rfl, ?_⟩) HS0.out ?_
  · intro w hSw
    go_simp <;> with_reducible rfl
  dsimp only [Act.put]
  simp only [List.setIfInBounds_toArray, List.set_cons_zero, List.set_cons_succ]
  refine wpAnyH_take (i := 9) (oi := ⟨some 110, _, _, _, _, _⟩) (v := .pointer (some ⟨g, 0, none⟩)) rfl (by kernel_rfl) (by kernel_rfl) (by kernel_rfl) (fun _ _ _ h => h) (Or.inl ⟨by rfl, ?_⟩) HS0.out ?_
  · intro w hSw
    go_simp <;> with_reducible rfl
  dsimp only [Act.put]
  simp only [List.setIfInBounds_toArray, List.set_cons_zero, List.set_cons_succ]
  refine wpAnyH_take (i := 10) (oi := ⟨some 111, _, _, _, _, _⟩) (v := .int .u64 0) rfl (by kernel_rfl) (by kernel_rfl) (by kernel_rfl) (fun _ _ _ h => h) (Or.inl ⟨by rfl, ?_⟩) HS0.out ?_
  · intro w hSw
    have hq : w.cell? ⟨g, 0, none⟩ = some (.int .u64 0) := hSw.o.f 0 _ rfl
    go_simp <;> with_reducible rfl
  dsimp only [Act.put]
  simp only [List.setIfInBounds_toArray, List.set_cons_zero, List.set_cons_succ]
  refine wpAnyH_take (i := 11) (oi := ⟨some 112, _, _, _, _, _⟩) (v := .int .u64 0) rfl (by kernel_rfl) (by kernel_rfl) (by kernel_rfl) (fun _ _ _ h => h) (Or.inl ⟨by rfl, ?_⟩) HS0.out ?_
  · intro w hSw
    go_simp <;> first | with_reducible rfl | kernel_rfl
  dsimp only [Act.put]
  simp only [List.setIfInBounds_toArray, List.set_cons_zero, List.set_cons_succ]
  refine wpAnyH_take (i := 12) (oi := ⟨some 113, _, _, _, _, _⟩) (v := .bool true) rfl (by kernel_rfl) (by kernel_rfl) (by kernel_rfl) (fun _ _ _ h => h) (Or.inl ⟨by rfl, ?_⟩) HS0.out ?_
  · intro w hSw
    go_simp <;> with_reducible rfl
  dsimp only [Act.put]
  simp only [List.setIfInBounds_toArray, List.set_cons_zero, List.set_cons_succ]
  refine wpAnyH_take (i := 13) (oi := ⟨some 114, _, _, _, _, _⟩) (v := .bool true) rfl (by kernel_rfl) (by kernel_rfl) (by kernel_rfl) (fun _ _ _ h => h) (Or.inl ⟨by rfl, ?_⟩) HS0.out ?_
  · intro w hSw
    go_simp <;> with_reducible rfl
  dsimp only [Act.put]
  simp only [List.setIfInBounds_toArray, List.set_cons_zero, List.set_cons_succ]
  refine wpAnyH_done (by kernel_rfl) ?_ _
  go_wp2
  rw [rounds_succ]
  go_upto_region 36 with fail
  have HZ := Lib.hid HB.out.size
  have HS := Lib.hid HS0.out.o
  clear HS0
  have HC := Lib.hid (between_emp st s2 w3 HS.out.s HS.out.n)
  go_wp2_with fail
  with_reducible refine (HC.out).mono ?_
  rintro e w4 ⟨rfl, hb9⟩
  dsimp only
  have HB2 := Lib.hid (HB.out.trans (hb9.mono HZ.out))
  have HZ2 := Lib.hid (Nat.le_trans HZ.out hb9.size)
  have HS4 := Lib.hid (HS.out.below hb9)
  clear HS
  clear hb9 HC HB HZ
  have HB := HB2
  have HZ := HZ2
  clear HB2 HZ2
  iterate 4 (first | go_values | go_skip | go_guarded | go_step | go_upon)
  refine wpList_store_mid (P := Tryz.prog) rfl 58 _ _ rfl g11 0 #[.slice none 0 0, .slice none 0 0] rfl rfl (fun j hj => HS4.out.r.there 6 rfl j (by simp at hj; omega)) (by kernel_rfl) (by kernel_rfl) ?_
  have HR5 := Lib.hid (HS4.out.r.sets [.slice none 0 0, .slice none 0 0] 0 (by unfold resC; simp))
  have HE5 := Lib.hid (arr_sets HS4.out.e HN.out.2.2 [.slice none 0 0, .slice none 0 0] 0 _ HS4.out.e)
  have HF5 := Lib.hid (show World.rangeAt (w4.setCells g11 0 [.slice none 0 0, .slice none 0 0]) g 0 [Value.int .u64 0] from range_sets HN.out.1 _ _ _ HS4.out.f)
  have HB5 := Lib.hid (below_sets g11 HL.out.2.2 [.slice none 0 0, .slice none 0 0] 0 HB.out)
  clear HS4 HB HZ
  dsimp only [Act.put]
  generalize World.setCells _ _ _ _ = w5 at *
  unfold resC at HR5
  dsimp only [List.take_zero, List.nil_append, List.cons_append, List.length_cons, List.length_nil, List.drop_succ_cons, List.drop_zero] at HR5
  go_upto_region 37 with fail
  go_step
  refine wpList_load_mid (P := Tryz.prog) rfl 62 _ rfl (g11) (0) rfl _ _ (HR5.out.range) Tryz.underlying62 rfl (by kernel_rfl) ?_
  simp only [Act.put, List.setIfInBounds_toArray, List.set_cons_zero, List.set_cons_succ]
  refine wpList_store_mid (P := Tryz.prog) rfl 62 _ _ rfl g8 0 _ rfl rfl (HE5.out.there _ rfl) (by kernel_rfl) (by kernel_rfl) ?_
  have HR6 := Lib.hid (HE5.out.setAll [.slice none 0 0, .slice none 0 0, .slice none 0 0, .slice none 0 0, .slice (some ⟨g, 0, none⟩) 1 cap, .int .i64 0] rfl)
  have HF6 := Lib.hid (range_sets HN.out.2.1 [.slice none 0 0, .slice none 0 0, .slice none 0 0, .slice none 0 0, .slice (some ⟨g, 0, none⟩) 1 cap, .int .i64 0] 0 _ HF5.out)
  have HB6 := Lib.hid (below_sets g8 HL.out.2.1 [.slice none 0 0, .slice none 0 0, .slice none 0 0, .slice none 0 0, .slice (some ⟨g, 0, none⟩) 1 cap, .int .i64 0] 0 HB5.out)
  clear HR5 HE5 HF5 HB5
  go_wp2
  generalize World.setCells _ _ _ _ = w6 at *
  refine bodyPost_ret (results_cell_row_tmp (P := Tryz.prog) rfl _ _ g8 62 _ (0, 0) _ rfl HR6.out Tryz.underlying62 rfl (by kernel_rfl)) rfl ?_
  exact ⟨g, cap, rfl, HF6.out, HB6.out⟩
end Go.Proofs.YthnbnckmeffkmaaGreat
