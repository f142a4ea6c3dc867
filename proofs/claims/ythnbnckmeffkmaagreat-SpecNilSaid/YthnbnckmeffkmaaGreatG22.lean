/- spec.pastOf of the genesis. -/
import Derived.Test.YthnbnckmeffkmaaGreatG21
import Derived.Laws.EntriesVeiled
namespace Go.Proofs.YthnbnckmeffkmaaGreat
open Go.RowKit Go.Lib
set_option linter.unusedVariables false
set_option linter.unusedSimpArgs false
attribute [local go_sem ↓] Go.wp_at_zero Go.wp_at_succ

theorem zeroS (w : World) : (zeroValue 222).run Tryz.prog w = .ok (.agg #[.bool false]) w := by kernel_rfl
theorem seenS_build (w : World) : (Instr.build 222 #[(0, .bool true)]).run Tryz.prog w = .ok (.agg #[.bool true]) w := by kernel_rfl
theorem fieldS (b : Bool) (w : World) : (Instr.field 222 (.agg #[.bool b]) 0).run Tryz.prog w = .ok (.bool b) w := by kernel_rfl
theorem Gen.lookH {G : GB} {V : List Value} {sv : Value} {w : World} (h : Gen G V sv w) : (Instr.lookup 92 (.map (some G.m)) (.agg (bys gI).toArray) false).run Tryz.prog w = .ok (.pointer (some ⟨G.kb, 0, none⟩)) w := h.look
structure WkS (G : GB) (V : List Value) (sv : Value) (g2 t4 : Nat) (w : World) : Prop where
  n : Gen G V sv w
  p : Arr w g2 30 [.pointer (some ⟨G.wd, 0, none⟩)]
  t : Arr w t4 24 (bys gI)
theorem WkS.below {G : GB} {V : List Value} {sv : Value} {g2 t4 : Nat} {w w' : World} (h : WkS G V sv g2 t4 w) (hb : Below w.heap.size w w') : WkS G V sv g2 t4 w' := ⟨h.n.below hb, h.p.below hb h.p.lt, h.t.below hb h.t.lt⟩
set_option maxRecDepth 100000 in
set_option maxHeartbeats 3200000 in
theorem walk_one (G : GB) (V : List Value) (sv : Value) (g5 g2 g6 pm : Nat) (w : World) (hG : ∀ w', Below pm w w' → Gen G V sv w') (h5 : Arr w g5 121 [.map (some pm)]) (h2 : Arr w g2 30 [.pointer (some ⟨G.wd, 0, none⟩)]) (hm : EmpM w pm) :
    Calls Tryz.prog 145 #[.agg (bys gI).toArray, .pointer (some ⟨g5, 0, none⟩), .pointer (some ⟨g2, 0, none⟩), .pointer (some ⟨g6, 0, none⟩)] w fun e w' => e = .returned (.tuple #[]) ∧ Below pm w w' ∧ OneM w' pm gI (.agg #[.bool true]) ∧ Arr w' g5 121 [.map (some pm)] := by
  have HGn := Lib.hid hG
  have hp2 : g2 ≠ pm := fun e => by
    have h1 : w.heap[g2]? = _ := h2
    have h0 : w.heap[pm]? = _ := hm
    rw [e, h0] at h1
    cases h1
  have hp5 : g5 ≠ pm := fun e => by
    have h1 : w.heap[g5]? = _ := h5
    have h0 : w.heap[pm]? = _ := hm
    rw [e, h0] at h1
    cases h1
  have HN := Lib.hid (And.intro hp2 hp5)
  have H5 := Lib.hid h5
  have H2 := Lib.hid h2
  have HM := Lib.hid hm
  clear hG h5 h2 hm hp2 hp5
  have HL := Lib.hid HM.out.lt
  go_enter Tryz.func145, Tryz.ntmps145
  go_upto_region 1 with fail
  have hb := (Below.refl w.heap.size w).alloc (Nat.le_refl _) (.cells (bys gI).toArray 24)
  have HT := Lib.hid (Arr.made w 24 (bys gI))
  have H51 := Lib.hid (H5.out.below hb H5.out.lt)
  have H21 := Lib.hid (H2.out.below hb H2.out.lt)
  have HM1 := Lib.hid (HM.out.below hb)
  have HB := Lib.hid (hb.mono (Nat.le_of_lt HL.out))
  have HG := Lib.hid (show ∃ g, w.heap.size = g from ⟨_, rfl⟩)
  obtain ⟨t4, ht4⟩ := HG.out
  rw [ht4] at HT ⊢
  have HT4 := Lib.hid (show pm < t4 by rw [← ht4]; exact HL.out)
  clear hb HG ht4 H5 H2 HM HL
  generalize World.alloc _ _ = w1 at *
  have hc5 := H51.out.cell 0
  dsimp only [List.getElem?_cons_zero] at hc5
  go_step
  iterate 3 (first | go_values | go_skip | go_guarded | go_step | go_upon)
  refine wpList_load_mid (P := Tryz.prog) rfl 24 _ rfl (t4) (0) rfl _ _ (HT.out.range) Tryz.underlying24 rfl (size_h2 gI gI_h) ?_
  simp only [Act.put, List.setIfInBounds_toArray, List.set_cons_zero, List.set_cons_succ]
  have hl := look_emp Tryz.underlying121 gI_h HM1.out (zeroS w1)
  unfold hv at hl
  have hfs := fieldS
  go_upto_region 2 with fail
  clear hl
  go_step
  iterate 3 (first | go_values | go_skip | go_guarded | go_step | go_upon)
  refine wpList_load_mid (P := Tryz.prog) rfl 24 _ rfl (t4) (0) rfl _ _ (HT.out.range) Tryz.underlying24 rfl (size_h2 gI gI_h) ?_
  simp only [Act.put, List.setIfInBounds_toArray, List.set_cons_zero, List.set_cons_succ]
  obtain ⟨w2, hu, ho2, hg2⟩ := upd_emp Tryz.underlying121 gI_h HM1.out (.agg #[.bool true])
  unfold hv at hu
  have hsb := seenS_build
  have HO2 := Lib.hid ho2
  have H52 := Lib.hid (show Arr w2 g5 _ _ from kept_grown hg2 H51.out (by intro e; have h := Option.some.inj e; exact HN.out.2 h))
  have HS := Lib.hid (show WkS G V sv g2 t4 w2 from ⟨HGn.out w2 (HB.out.grown hg2 (Nat.le_of_lt HM1.out.lt) (fun k hk => by cases hk; exact Nat.le_refl _)), kept_grown hg2 H21.out (by intro e; have h := Option.some.inj e; exact HN.out.1 h), kept_grown hg2 HT.out (by intro e; have h := Option.some.inj e; have := HT4.out; omega)⟩)
  have HB2 := Lib.hid (HB.out.grown hg2 (Nat.le_of_lt HM1.out.lt) (fun k hk => by cases hk; exact Nat.le_refl _))
  clear ho2 hg2 HB H51 H21 HM1 HT
  go_upto_region 3 with fail
  clear hu hsb hfs hc5
  have HS0 := Lib.hid (show WkS G V sv g2 t4 w2.drew from ⟨⟨HS.out.n.a, HS.out.n.m, HS.out.n.k, HS.out.n.p, HS.out.n.q, ⟨HS.out.n.s.a, HS.out.n.s.m⟩⟩, HS.out.p, HS.out.t⟩)
  have HO3 := Lib.hid (show OneM w2.drew pm gI (.agg #[.bool true]) from HO2.out)
  have H53 := Lib.hid (show Arr w2.drew g5 _ _ from H52.out)
  have HB3 := Lib.hid HB2.out.drew
  clear HS HO2 H52 HB2
  refine wp_region_H (WkS G V sv g2 t4) (by kernel_rfl) ?_
  generalize World.drew _ = w3 at *
  simp only [List.size_toArray, List.length_cons, List.length_nil, Nat.reduceAdd, Array.replicate_succ, Array.replicate_zero, List.push_toArray, List.nil_append, List.cons_append]
  refine wpAnyH_take (i := 0) (oi := ⟨some 15, _, _, _, _, _⟩) (v := .pointer (some ⟨G.wd, 0, none⟩)) rfl (by kernel_rfl) (by kernel_rfl) (by kernel_rfl) (fun _ _ _ h => h) (Or.inl ⟨by rfl, ?_⟩) HS0.out ?_
  · intro w hSw
    have hq := hSw.p.cell 0
    dsimp only [List.getElem?_cons_zero] at hq
    go_simp <;> with_reducible rfl
  dsimp only [Act.put]
  simp only [List.setIfInBounds_toArray, List.set_cons_zero, List.set_cons_succ]
  refine wpAnyH_take (i := 1) (oi := ⟨some 16, _, _, _, _, _⟩) (v := .pointer (some ⟨G.wd, 0, none⟩)) rfl (by kernel_rfl) (by kernel_rfl) (by kernel_rfl) (fun _ _ _ h => h) (Or.inl ⟨by rfl, ?_⟩) HS0.out ?_
  · intro w hSw
    go_simp <;> with_reducible rfl
  dsimp only [Act.put]
  simp only [List.setIfInBounds_toArray, List.set_cons_zero, List.set_cons_succ]
  refine wpAnyH_take (i := 2) (oi := ⟨some 17, _, _, _, _, _⟩) (v := .pointer (some ⟨G.wd, 41, none⟩)) rfl (by kernel_rfl) (by kernel_rfl) (by kernel_rfl) (fun _ _ _ h => h) (Or.inl ⟨by rfl, ?_⟩) HS0.out ?_
  · intro w hSw
    go_simp <;> with_reducible rfl
  dsimp only [Act.put]
  simp only [List.setIfInBounds_toArray, List.set_cons_zero, List.set_cons_succ]
  refine wpAnyH_take (i := 3) (oi := ⟨some 18, _, _, _, _, _⟩) (v := .map (some G.m)) rfl (by kernel_rfl) (by kernel_rfl) (by kernel_rfl) (fun _ _ _ h => h) (Or.inl ⟨by rfl, ?_⟩) HS0.out ?_
  · intro w hSw
    have hq := hSw.n.all
    go_simp <;> with_reducible rfl
  dsimp only [Act.put]
  simp only [List.setIfInBounds_toArray, List.set_cons_zero, List.set_cons_succ]
  refine wpAnyH_take (i := 4) (oi := ⟨some 19, _, _, _, _, _⟩) rfl (by kernel_rfl) (by kernel_rfl) (by kernel_rfl) (fun _ _ _ h => h) (yieldsIf_load_mid (by rfl) 24 (.tmp 4) rfl (t4) (0) rfl (bys gI) _ (fun w h => h.t.range) Tryz.underlying24 rfl (size_h2 gI gI_h)) HS0.out ?_
  dsimp only [Act.put]
  simp only [List.setIfInBounds_toArray, List.set_cons_zero, List.set_cons_succ]
  refine wpAnyH_take (i := 5) (oi := ⟨some 20, _, _, _, _, _⟩) (v := .pointer (some ⟨G.kb, 0, none⟩)) rfl (by kernel_rfl) (by kernel_rfl) (by kernel_rfl) (fun _ _ _ h => h) (Or.inl ⟨by rfl, ?_⟩) HS0.out ?_
  · intro w hSw
    have hq := hSw.n.lookH
    go_simp <;> with_reducible rfl
  dsimp only [Act.put]
  simp only [List.setIfInBounds_toArray, List.set_cons_zero, List.set_cons_succ]
  refine wpAnyH_take (i := 6) (oi := ⟨some 21, _, _, _, _, _⟩) (v := .pointer (some ⟨G.kb, 0, none⟩)) rfl (by kernel_rfl) (by kernel_rfl) (by kernel_rfl) (fun _ _ _ h => h) (Or.inl ⟨by rfl, ?_⟩) HS0.out ?_
  · intro w hSw
    go_simp <;> with_reducible rfl
  dsimp only [Act.put]
  simp only [List.setIfInBounds_toArray, List.set_cons_zero, List.set_cons_succ]
  refine wpAnyH_take (i := 7) (oi := ⟨some 22, _, _, _, _, _⟩) (v := .pointer (some ⟨G.kb, 0, none⟩)) rfl (by kernel_rfl) (by kernel_rfl) (by kernel_rfl) (fun _ _ _ h => h) (Or.inl ⟨by rfl, ?_⟩) HS0.out ?_
  · intro w hSw
    go_simp <;> with_reducible rfl
  dsimp only [Act.put]
  simp only [List.setIfInBounds_toArray, List.set_cons_zero, List.set_cons_succ]
  refine wpAnyH_take (i := 8) (oi := ⟨some 23, _, _, _, _, _⟩) (v := .pointer (some ⟨G.kb, 0, none⟩)) rfl (by kernel_rfl) (by kernel_rfl) (by kernel_rfl) (fun _ _ _ h => h) (Or.inl ⟨by rfl, ?_⟩) HS0.out ?_
  · intro w hSw
    go_simp <;> with_reducible rfl
  dsimp only [Act.put]
  simp only [List.setIfInBounds_toArray, List.set_cons_zero, List.set_cons_succ]
  refine wpAnyH_take (i := 9) (oi := ⟨some 24, _, _, _, _, _⟩) (v := .pointer (some ⟨G.kb, 0, none⟩)) rfl (by kernel_rfl) (by kernel_rfl) (by kernel_rfl) (fun _ _ _ h => h) (Or.inl ⟨by rfl, ?_⟩) HS0.out ?_
  · intro w hSw
    go_simp <;> with_reducible rfl
  dsimp only [Act.put]
  simp only [List.setIfInBounds_toArray, List.set_cons_zero, List.set_cons_succ]
  refine wpAnyH_take (i := 10) (oi := ⟨some 25, _, _, _, _, _⟩) (v := .slice none 0 0) rfl (by kernel_rfl) (by kernel_rfl) (by kernel_rfl) (fun _ _ _ h => h) (Or.inl ⟨by rfl, ?_⟩) HS0.out ?_
  · intro w hSw
    have hq : w.cell? ⟨G.kb, 0, none⟩ = some (.slice none 0 0) := hSw.n.kc (k_par _ _ _)
    go_simp <;> with_reducible rfl
  dsimp only [Act.put]
  simp only [List.setIfInBounds_toArray, List.set_cons_zero, List.set_cons_succ]
  refine wpAnyH_take (i := 11) (oi := ⟨some 26, _, _, _, _, _⟩) (v := .int .i64 0) rfl (by kernel_rfl) (by kernel_rfl) (by kernel_rfl) (fun _ _ _ h => h) (Or.inl ⟨by rfl, ?_⟩) HS0.out ?_
  · intro w hSw
    go_simp <;> with_reducible rfl
  dsimp only [Act.put]
  simp only [List.setIfInBounds_toArray, List.set_cons_zero, List.set_cons_succ]
  refine wpAnyH_take (i := 12) (oi := ⟨some 27, _, _, _, _, _⟩) (v := .int .i64 0) rfl (by kernel_rfl) (by kernel_rfl) (by kernel_rfl) (fun _ _ _ h => h) (Or.inl ⟨by rfl, ?_⟩) HS0.out ?_
  · intro w hSw
    go_simp <;> with_reducible rfl
  dsimp only [Act.put]
  simp only [List.setIfInBounds_toArray, List.set_cons_zero, List.set_cons_succ]
  refine wpAnyH_done (by kernel_rfl) ?_ _
  go_wp2
  refine wp_loop_rounds 1 ?_
  rw [rounds_succ]
  go_wp2
  go_end0
  exact ⟨rfl, HB3.out, HO3.out, H53.out⟩
end Go.Proofs.YthnbnckmeffkmaaGreat
/- spec.pastOf of the genesis: all of it. -/
namespace Go.Proofs.YthnbnckmeffkmaaGreat
open Go.RowKit Go.Lib
set_option linter.unusedVariables false
set_option linter.unusedSimpArgs false
attribute [local go_sem ↓] Go.wp_at_zero Go.wp_at_succ

structure PaS (G : GB) (V : List Value) (sv : Value) (B g2 g5 b off pm : Nat) (w : World) : Prop where
  n : ∀ w', Below B w w' → Gen G V sv w'
  p : Arr w g2 30 [.pointer (some ⟨G.wd, 0, none⟩)]
  s : Arr w g5 121 [.map (some pm)]
  r : ∀ w', Below B w w' → w'.rangeAt b off (bys gI)
  m : EmpM w pm
  l : B ≤ w.heap.size
theorem PaS.below {G : GB} {V : List Value} {sv : Value} {B g2 g5 b off pm : Nat} {w w' : World} (h : PaS G V sv B g2 g5 b off pm w) (hb : Below w.heap.size w w') : PaS G V sv B g2 g5 b off pm w' :=
  ⟨fun w2 h2 => h.n w2 ((hb.mono h.l).trans h2), h.p.below hb h.p.lt, h.s.below hb h.s.lt, fun w2 h2 => h.r w2 ((hb.mono h.l).trans h2), h.m.below hb, Nat.le_trans h.l hb.size⟩
set_option maxRecDepth 100000 in
set_option maxHeartbeats 3200000 in
theorem past_one (G : GB) (V : List Value) (sv : Value) (b off c : Nat) (w : World) (hG : Gen G V sv w) (hr : w.rangeAt b off (bys gI)) :
    Calls Tryz.prog 89 #[.pointer (some ⟨G.wd, 0, none⟩), .slice (some ⟨b, off, none⟩) 1 c] w fun e w' => ∃ pm, e = .returned (.map (some pm)) ∧ w.heap.size ≤ pm ∧ OneM w' pm gI (.agg #[.bool true]) ∧ Below w.heap.size w w' := by
  have hz := zero_h
  have hmm := @run_makeMap Tryz.prog
  have hmf : ∀ (fn : Fn) (first cap : Array Value) (w : World), (Instr.makeFunc fn first cap).run Tryz.prog w = .ok (.func fn first cap) w := fun _ _ _ _ => rfl
  have HGn := Lib.hid hG
  have HR := Lib.hid hr
  clear hG hr
  go_enter Tryz.func89, Tryz.ntmps89
  go_upto_region 4 with fail
  obtain ⟨B, hB⟩ : ∃ B, w.heap.size = B := ⟨_, rfl⟩
  have A1 := Arr.made w 30 [.pointer (some ⟨G.wd, 0, none⟩)]
  have b1 := (Below.refl w.heap.size w).alloc (Nat.le_refl _) (.cells [Value.pointer (some ⟨G.wd, 0, none⟩)].toArray 30)
  have e1 := World.size_alloc w (.cells [Value.pointer (some ⟨G.wd, 0, none⟩)].toArray 30)
  rw [hB] at A1 b1 e1 ⊢
  generalize w.alloc _ = w1 at A1 b1 e1 ⊢
  have A2 : EmpM (w1.alloc (.map #[] 0)) w1.heap.size := heap_alloc_last w1 _
  have b2 := (Below.refl w1.heap.size w1).alloc (Nat.le_refl _) (.map #[] 0)
  have e2 := World.size_alloc w1 (.map #[] 0)
  rw [e1] at A2 b2 e2
  generalize w1.alloc _ = w2 at A2 b2 e2 ⊢
  have A3 := Arr.made w2 121 [.map (some (B + 1))]
  have b3 := (Below.refl w2.heap.size w2).alloc (Nat.le_refl _) (.cells [Value.map (some (B + 1))].toArray 121)
  have e3 := World.size_alloc w2 (.cells [Value.map (some (B + 1))].toArray 121)
  rw [e2] at A3 b3 e3
  generalize w2.alloc _ = w3 at A3 b3 e3 ⊢
  have A4 := Arr.made w3 226 [.func (.func 145) #[] #[.pointer (some ⟨B + 1 + 1, 0, none⟩), .pointer (some ⟨B, 0, none⟩), .pointer (some ⟨B + 1 + 1 + 1, 0, none⟩)]]
  have b4 := (Below.refl w3.heap.size w3).alloc (Nat.le_refl _) (.cells [Value.func (.func 145) #[] #[.pointer (some ⟨B + 1 + 1, 0, none⟩), .pointer (some ⟨B, 0, none⟩), .pointer (some ⟨B + 1 + 1 + 1, 0, none⟩)]].toArray 226)
  rw [e3] at A4 b4
  generalize w3.alloc _ = w4 at A4 b4 ⊢
  have HS := Lib.hid (show PaS G V sv B B (B + 1 + 1) b off (B + 1) w4 from
    have hB4 : Below B w w4 := ((b1.trans (b2.mono (by omega))).trans (b3.mono (by omega))).trans (b4.mono (by omega))
    ⟨fun w' h => HGn.out.below (by rw [hB]; exact hB4.trans h), ((A1.below b2 (by omega)).below b3 (by omega)).below b4 (by omega), A3.below b4 (by omega),
     fun w' h => range_keep HR.out gI_h (by rw [hB]; exact hB4.trans h), (EmpM.below (EmpM.below A2 (by rw [e2]; exact b3)) (by rw [e3]; exact b4)), by have := b4.size; omega⟩)
  have HF := Lib.hid A4
  have HB := Lib.hid (show Below B w w4 from ((b1.trans (b2.mono (by omega))).trans (b3.mono (by omega))).trans (b4.mono (by omega)))
  have HBe := Lib.hid hB
  clear A1 A2 A3 A4 b1 b2 b3 b4 e1 e2 e3 hB HR HGn
  obtain ⟨g5, h5⟩ : ∃ g5, B + 1 + 1 = g5 := ⟨_, rfl⟩
  obtain ⟨g6, h6⟩ : ∃ g6, B + 1 + 1 + 1 = g6 := ⟨_, rfl⟩
  obtain ⟨pm, hp⟩ : ∃ pm, B + 1 = pm := ⟨_, rfl⟩
  have HPl := Lib.hid (show B ≤ pm by omega)
  rw [h6, h5] at HF
  rw [h5, hp] at HS
  rw [h6, h5, hp]
  clear h5 h6 hp
  go_upto_region 5 with fail
  refine wp_loop_rounds 2 ?_
  rw [rounds_succ]
  go_upto_region 6 with fail
  go_step
  iterate 3 (first | go_values | go_skip | go_guarded | go_step | go_upon)
  have HRr := Lib.hid (HS.out.r w4 (Below.refl B w4))
  refine wpList_load_mid (P := Tryz.prog) rfl 24 _ rfl (b) (off) rfl _ _ (HRr.out) Tryz.underlying24 rfl (size_h2 gI gI_h) ?_
  simp only [Act.put, List.setIfInBounds_toArray, List.set_cons_zero, List.set_cons_succ]
  iterate 3 (first | go_values | go_skip | go_guarded | go_step | go_upon)
  refine wpList_store_box (P := Tryz.prog) rfl 24 _ _ rfl w4 _ (bys gI) rfl rfl (by rw [List.size_toArray, bys_len, bys_len, zH_h.1, (gI_h).1]) (size_h2 gI gI_h) (bys_one gI) ?_
  intro w5 ha9 hb9
  have HA2 := Lib.hid ha9.out
  have HB2 := Lib.hid hb9.out
  clear ha9 hb9
  have HS5 := Lib.hid (HS.out.below HB2.out)
  have HF5 := Lib.hid (HF.out.below HB2.out HF.out.lt)
  have HB5 := Lib.hid (HB.out.trans (HB2.out.mono HS.out.l))
  obtain ⟨t8, ht8⟩ : ∃ t8, w4.heap.size = t8 := ⟨_, rfl⟩
  rw [ht8] at HA2 ⊢
  clear HS HF HB HB2 HRr ht8
  have hf6 := HF5.out.cell 0
  dsimp only [List.getElem?_cons_zero] at hf6
  go_upto_region 7 with fail
  go_step
  iterate 3 (first | go_values | go_skip | go_guarded | go_step | go_upon)
  refine wpList_load_mid (P := Tryz.prog) rfl 24 _ rfl (t8) (0) rfl _ _ (HA2.out.range) Tryz.underlying24 rfl (size_h2 gI gI_h) ?_
  simp only [Act.put, List.setIfInBounds_toArray, List.set_cons_zero, List.set_cons_succ]
  have HL := Lib.hid (show B ≤ pm ∧ pm ≤ w5.heap.size from ⟨HPl.out, Nat.le_of_lt HS5.out.m.lt⟩)
  have HC := Lib.hid (walk_one G V sv g5 B g6 pm w5 (fun w' h => HS5.out.n w' (h.mono HL.out.1)) HS5.out.s HS5.out.p HS5.out.m)
  go_wp2_with fail
  with_reducible refine HC.out.mono ?_
  rintro e w6 ⟨rfl, hb6, ho6, ha6⟩
  dsimp only
  have HB6 := Lib.hid (HB5.out.trans (hb6.mono HL.out.1))
  have HO6 := Lib.hid ho6
  have HA6 := Lib.hid ha6
  clear hb6 ho6 ha6 HC HB5 HS5 HF5 HA2 hf6
  have hc6 := HA6.out.cell 0
  dsimp only [List.getElem?_cons_zero] at hc6
  go_wp2
  rw [rounds_succ]
  go_wp2
  go_ret
  exact ⟨pm, rfl, by rw [HBe.out]; exact HPl.out, HO6.out, by rw [HBe.out]; exact HB6.out⟩
end Go.Proofs.YthnbnckmeffkmaaGreat
/- spec.merge of the genesis. -/
namespace Go.Proofs.YthnbnckmeffkmaaGreat
open Go.RowKit Go.Lib
set_option linter.unusedVariables false
set_option linter.unusedSimpArgs false
attribute [local go_sem ↓] Go.wp_at_zero Go.wp_at_succ

theorem eq_self (w : World) : (Op.equalIn 10000 24 (.agg (bys gI).toArray) (.agg (bys gI).toArray)).run Tryz.prog w = .ok true w := by
  rw [equal_hash w gI gI gI_h gI_h]
  simp
structure MeS (g4 r pm : Nat) (seen : Array Nat) (w : World) : Prop where
  t : Arr w g4 24 (bys gI)
  i : ItM w r pm seen
  m : OneM w pm gI (.agg #[.bool true])
theorem MeS.below {g4 r pm : Nat} {seen : Array Nat} {w w' : World} (h : MeS g4 r pm seen w) (hb : Below w.heap.size w w') : MeS g4 r pm seen w' := ⟨h.t.below hb h.t.lt, h.i.below hb, h.m.below hb⟩
set_option maxRecDepth 100000 in
set_option maxHeartbeats 3200000 in
theorem merge_one (wd pm : Nat) (w : World) (hm : OneM w pm gI (.agg #[.bool true])) :
    Calls Tryz.prog 87 #[.pointer (some ⟨wd, 0, none⟩), .agg (bys gI).toArray, .map (some pm)] w fun e w' => e = .returned (.slice none 0 0) ∧ Below w.heap.size w w' := by
  have hz := zero_h
  have hmf : ∀ (fn : Fn) (first cap : Array Value) (w : World), (Instr.makeFunc fn first cap).run Tryz.prog w = .ok (.func fn first cap) w := fun _ _ _ _ => rfl
  have HM := Lib.hid hm
  clear hm
  go_enter Tryz.func87, Tryz.ntmps87
  go_upto_region 1 with fail
  have hpk := two_laid w [.pointer (some ⟨wd, 0, none⟩)] (bys gI) 30 24 _ rfl
  have HA := Lib.hid hpk.2.1
  have HB := Lib.hid hpk.2.2
  have HM1 := Lib.hid (HM.out.below hpk.2.2)
  clear hpk HM
  generalize World.alloc (World.alloc _ _) _ = w1 at *
  have HZ := Lib.hid HB.out.size
  obtain ⟨g4, hg⟩ : ∃ g, w.heap.size + 1 = g := ⟨_, rfl⟩
  rw [hg] at HA ⊢
  clear hg
  have hrg := range_one Tryz.underlying121 HM1.out
  have HI := Lib.hid (show ItM (w1.alloc (.mapIter (some pm) 1 #[] 1)) w1.heap.size pm #[] from heap_alloc_last w1 _)
  have hb := (Below.refl w1.heap.size w1).alloc (Nat.le_refl _) (.mapIter (some pm) 1 #[] 1)
  have HS := Lib.hid (show MeS g4 w1.heap.size pm #[] (w1.alloc (.mapIter (some pm) 1 #[] 1)) from ⟨HA.out.below hb HA.out.lt, HI.out, HM1.out.below hb⟩)
  have HB2 := Lib.hid (HB.out.trans (hb.mono HZ.out))
  have HRl := Lib.hid HZ.out
  clear hb HI HA
  go_upto_region 3 with fail
  clear hrg
  obtain ⟨r, hr⟩ : ∃ r, w1.heap.size = r := ⟨_, rfl⟩
  rw [hr] at HS HRl ⊢
  clear hr HM1 HB HZ
  generalize World.alloc _ _ = w2 at *
  obtain ⟨w3, hnx, hi3, hg3⟩ := next_one HS.out.m HS.out.i
  have HB3 := Lib.hid (HB2.out.grown hg3 HB2.out.size (fun k hk => by cases hk; exact HRl.out))
  have HS3 := Lib.hid (show MeS g4 r pm #[0] w3 from ⟨kept_grown hg3 HS.out.t (by intro e; have h := Option.some.inj e; subst h; have h1 : w2.heap[g4]? = _ := HS.out.t; have h2 : w2.heap[g4]? = _ := HS.out.i; rw [h1] at h2; cases h2), hi3, kept_grown hg3 HS.out.m (by intro e; have h := Option.some.inj e; subst h; have h1 : w2.heap[pm]? = _ := HS.out.m; have h2 : w2.heap[pm]? = _ := HS.out.i; rw [h1] at h2; cases h2)⟩)
  unfold hv at hnx
  have hen := entry_one HS3.out.m HS3.out.i
  unfold hv at hen
  clear hi3 hg3 HS HB2
  refine wp_loop_rounds 2 ?_
  rw [rounds_succ]
  go_upto_region 4 with fail
  clear hnx
  go_step
  iterate 9 (first | go_values | go_skip | go_guarded | go_step | go_upon)
  refine wpList_store_box (P := Tryz.prog) rfl 24 _ _ rfl w3 _ (bys gI) rfl rfl (by rw [List.size_toArray, bys_len, bys_len, zH_h.1, (gI_h).1]) (size_h2 gI gI_h) (bys_one gI) ?_
  intro w4 ha9 hb9
  have HA2 := Lib.hid ha9.out
  have HB2 := Lib.hid hb9.out
  clear ha9 hb9
  have HZ3 := Lib.hid HB3.out.size
  have HS4 := Lib.hid (HS3.out.below HB2.out)
  have HB4 := Lib.hid (HB3.out.trans (HB2.out.mono HZ3.out))
  obtain ⟨t8, ht8⟩ : ∃ t8, w3.heap.size = t8 := ⟨_, rfl⟩
  rw [ht8] at HA2 ⊢
  clear HB2 HB3 HS3 HZ3 ht8 hen
  have hns := eq_self w4
  go_upto_region 5 with fail
  go_step
  refine wpList_load_mid (P := Tryz.prog) rfl 24 _ rfl (t8) (0) rfl _ _ (HA2.out.range) Tryz.underlying24 rfl (size_h2 gI gI_h) ?_
  simp only [Act.put, List.setIfInBounds_toArray, List.set_cons_zero, List.set_cons_succ]
  refine wpList_load_mid (P := Tryz.prog) rfl 24 _ rfl (g4) (0) rfl _ _ (HS4.out.t.range) Tryz.underlying24 rfl (size_h2 gI gI_h) ?_
  simp only [Act.put, List.setIfInBounds_toArray, List.set_cons_zero, List.set_cons_succ]
  have hno := next_over HS4.out.m HS4.out.i
  go_wp2
  rw [rounds_succ]
  go_upto_region 7 with fail
  clear hno hns
  have HZ := Lib.hid HB4.out.size
  have HB := Lib.hid HB4.out
  have HC := Lib.hid (fun f => sortf_h0 f w4)
  go_wp2_with fail
  with_reducible refine (HC.out _).mono ?_
  rintro e w5 ⟨rfl, hb9⟩
  dsimp only
  have HB2 := Lib.hid (HB.out.trans (hb9.mono HZ.out))
  have HZ2 := Lib.hid (Nat.le_trans HZ.out hb9.size)
  clear hb9 HC HB HZ
  have HB := HB2
  have HZ := HZ2
  clear HB2 HZ2
  go_wp2
  go_ret
  exact ⟨rfl, HB.out⟩
end Go.Proofs.YthnbnckmeffkmaaGreat
