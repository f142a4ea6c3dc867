/- spec.begin. -/
import Derived.Test.YthnbnckmeffkmaaGreatG20
namespace Go.Proofs.YthnbnckmeffkmaaGreat
open Go.RowKit Go.Lib
open Go.ChangeMaps
set_option linter.unusedVariables false
set_option linter.unusedSimpArgs false
attribute [local go_sem ↓] Go.wp_at_zero Go.wp_at_succ

theorem wpList_store_box {P : Program} {ops : Array Oper} {rest : List Oper} {op : Oper} {a : Act} {Q : Exit → Act → World → Prop} (hgd : op.guard = none) (ty : TypeId) (x y : Operand) (ho : op.op = .store ty x y)
    (wr : World) (zs : Array Value) (cs : List Value) (hx : a.eval x = .pointer (some ⟨wr.heap.size, 0, none⟩)) (hy : a.eval y = .agg cs.toArray) (hz : zs.size = cs.length) (hi : (P.info? ty).map (·.size) = some cs.length) (h1 : ∀ v ∈ cs, v.oneCell' = true)
    (h : ∀ w2, Hid (Arr w2 wr.heap.size ty cs) → Hid (Below wr.heap.size wr w2) → wpList P ops Q rest (a.put op.dst undef) w2) : wpList P ops Q (op :: rest) a (wr.alloc (.cells zs ty)) := by
  have hm : Arr (wr.alloc (.cells zs ty)) wr.heap.size ty zs.toList := Arr.made wr ty zs.toList
  have hl : zs.toList.length = cs.length := by rw [Array.length_toList]; exact hz
  refine wpList_store_mid hgd ty x y ho wr.heap.size 0 cs.toArray hx hy (hm.there _ (by rw [List.size_toArray, hl])) (by rw [List.size_toArray]; exact hi) (all_oneCell_toArray h1) ?_
  exact h _ (hm.setAll cs hl.symm) (below_sets wr.heap.size (Nat.le_refl _) cs 0 ((Below.refl wr.heap.size wr).alloc (Nat.le_refl _) (.cells zs ty)))
theorem kept_grown {w w' : World} {row : Option Nat} (hg : w.grownBy w' row) {b : Nat} {o : Obj} (h : w.heap[b]? = some o) (hne : some b ≠ row) : w'.heap[b]? = some o := (hg.block b (Array.getElem?_eq_some_iff.1 h).1 hne).trans h
theorem hs_nil {w : World} {L : List (List Nat)} (h : L = []) : HsIs w (.slice none 0 0) L := ⟨fun H hm => (by rw [h] at hm; cases hm), .inl ⟨rfl, h⟩⟩
def zB : List Value := hdC (.slice none 0 0) ⟨[], zH, zH, zH, zH, 0⟩ ++ [.slice none 0 0]
theorem zero_blk : ∀ w, (zeroValue 53).run Tryz.prog w = .ok (.agg zB.toArray) w := fun w => by kernel_rfl
theorem zB_len : zB.length = 131 := by kernel_rfl
theorem hdC_one {h : Hdr} (hk : h.ok) : ∀ v ∈ hdC (.slice none 0 0) h, v.oneCell' = true := by
  intro v hv
  unfold hdC at hv
  simp only [List.mem_cons, List.mem_append, List.not_mem_nil, or_false] at hv
  rcases hv with rfl | hv | hv | hv | hv | rfl
  · rfl
  all_goals first | rfl | exact bys_one _ _ hv
theorem blkC_one : ∀ v ∈ blkC, v.oneCell' = true := by
  intro v hv
  unfold blkC at hv
  rcases List.mem_append.1 hv with hv | hv
  · exact hdC_one gH_ok v hv
  · rw [List.mem_singleton.1 hv]; rfl
theorem blk_size : (Tryz.prog.info? 53).map (·.size) = some blkC.length := by rw [blkC_len]; kernel_rfl
theorem pC_miner {w : World} {g : Nat} (h : Arr w g 26 pC) : w.rangeAt g 9 (bys zH) := fun j v hv => by
  rw [h.cell]
  have hj : j < 32 := by have := (List.getElem?_eq_some_iff.1 hv).1; rwa [bys_len, zH_h.1] at this
  have e : pC = [.int .i64 0, .int .i64 1, .int .i64 1, .int .i64 0, .int .i64 0, .int .i64 0, .int .u64 0, .int .i64 0, .int .i64 0] ++ bys zH := by kernel_rfl
  rw [e, List.getElem?_append_right (by simp)]
  rw [← hv]
  congr 1
  simp
structure BegS (g n : Nat) (w : World) : Prop where
  p : Arr w g 26 pC
  n : Arr w n 24 (bys gR)
theorem BegS.below {g n : Nat} {w w' : World} (h : BegS g n w) (hb : Below w.heap.size w w') : BegS g n w' := ⟨h.p.below hb h.p.lt, h.n.below hb h.n.lt⟩
structure BegT (g m wd i b : Nat) (w : World) : Prop where
  a : Arr w wd 94 (worldC m gI v0C (.pointer none))
  m : EmpM w m
  i : Arr w i 24 (bys gI)
  b : Arr w b 53 blkC
theorem BegT.below {g m wd i b : Nat} {w w' : World} (h : BegT g m wd i b w) (hb : Below w.heap.size w w') : BegT g m wd i b w' := ⟨h.a.below hb h.a.lt, h.m.below hb, h.i.below hb h.i.lt, h.b.below hb h.b.lt⟩
set_option maxRecDepth 100000 in
set_option maxHeartbeats 6400000 in
theorem begin_t {u0 u2 u3 u5 u6 u7 u8 u9 u10 u11 u12 u13 u14 u15 u16 u17 u18 u19 u20 u21 u22 u23 u24 u25 u26 u27 u28 u29 u30 u31 u32 u33 u34 u35 : Value} (g b : Nat) (w wr : World) (hp : Arr wr g 26 pC) (ha : Arr wr b 53 blkC) (hb : Below g w wr) (hz : g ≤ wr.heap.size) (hg : w.heap.size = g) :
    Code.wp Tryz.prog (seqDrop 3 (bodyOf Tryz.f38)) (bodyPost Tryz.prog Tryz.f38 fun e w' => ∃ G, e = .returned (.pointer (some ⟨GB.wd G, 0, none⟩)) ∧ w.heap.size ≤ G.wd ∧ Gen G v0C (.pointer none) w' ∧ Below w.heap.size w w') ⟨#[u0, .pointer (some ⟨g, 0, none⟩), u2, u3, .pointer (some ⟨b, 0, none⟩), u5, u6, u7, u8, u9, u10, u11, u12, u13, u14, u15, u16, u17, u18, u19, u20, u21, u22, u23, u24, u25, u26, u27, u28, u29, u30, u31, u32, u33, u34, u35], []⟩ wr := by
  have HP := Lib.hid hp
  have HA := Lib.hid ha
  have HB := Lib.hid hb
  have HZ := Lib.hid hz
  rw [hg]
  have HG := Lib.hid hg
  clear hp ha hb hz hg
  have hmm := @run_makeMap Tryz.prog
  have hz32 := zero32
  have HR := Lib.hid (show wr.rangeAt b 0 (hdC (.slice none 0 0) gH) from fun j v hv => HA.out.range j v (by unfold blkC; rw [List.getElem?_append_left (List.getElem?_eq_some_iff.1 hv).1]; exact hv))
  have HSh := Lib.hid (size_hdr (.slice none 0 0) gH gH_ok)
  conv => arg 2; whnf
  dsimp only
  go_step
  iterate 5 (first | go_values | go_skip | go_guarded | go_step | go_upon)
  refine wpList_load_mid (P := Tryz.prog) rfl 50 _ rfl b 0 rfl _ _ HR.out Tryz.underlying50 rfl HSh.out ?_
  simp only [Act.put, List.setIfInBounds_toArray, List.set_cons_zero, List.set_cons_succ]
  have HC := Lib.hid (bid_any gH gH_ok (Nat.zero_le _) (.slice none 0 0) wr (hs_nil rfl))
  go_wp2_with fail
  with_reducible refine HC.out.mono ?_
  rintro e w2 ⟨rfl, hb9⟩
  dsimp only
  have HB2 := Lib.hid (HB.out.trans (hb9.mono HZ.out))
  have HZ2 := Lib.hid (Nat.le_trans HZ.out hb9.size)
  have HP2 := Lib.hid (HP.out.below hb9 HP.out.lt)
  have HA2 := Lib.hid (HA.out.below hb9 HA.out.lt)
  clear HP HA HR
  have HP := HP2
  have HA := HA2
  clear HP2 HA2
  clear hb9 HC HB HZ
  have HB := HB2
  have HZ := HZ2
  clear HB2 HZ2
  rw [show idF gH = gI from rfl]
  iterate 4 (first | go_values | go_skip | go_guarded | go_step | go_upon)
  refine wpList_store_box (P := Tryz.prog) rfl 24 _ _ rfl w2 _ (bys gI) rfl rfl (by rw [bys_len, gI_h.1]; rfl) (size_h2 gI gI_h) (bys_one gI) ?_
  intro w3 ha9 hb9
  have HI3 := Lib.hid ha9.out
  have HB3 := Lib.hid hb9.out
  clear ha9 hb9
  have HP3 := Lib.hid (HP.out.below HB3.out HP.out.lt)
  have HA3 := Lib.hid (HA.out.below HB3.out HA.out.lt)
  have HB4 := Lib.hid (HB.out.trans (HB3.out.mono HZ.out))
  have HZ4 := Lib.hid (Nat.le_trans HZ.out HB3.out.size)
  clear HP HA HB HB3
  obtain ⟨i, hi⟩ : ∃ i, w2.heap.size = i := ⟨_, rfl⟩
  rw [hi] at HI3 ⊢
  clear hi HZ
  simp only [Act.put, List.setIfInBounds_toArray, List.set_cons_zero, List.set_cons_succ]
  go_upto_region 4 with fail
  go_step
  refine wpList_load_mid (P := Tryz.prog) rfl 26 _ rfl g 0 rfl _ _ HP3.out.range Tryz.underlying26 rfl (by kernel_rfl) ?_
  simp only [Act.put, List.setIfInBounds_toArray, List.set_cons_zero, List.set_cons_succ]
  have HM := Lib.hid (show EmpM (w3.alloc (.map #[] 0)) w3.heap.size from heap_alloc_last w3 _)
  have hbm := (Below.refl w3.heap.size w3).alloc (Nat.le_refl _) (.map #[] 0)
  have HP5 := Lib.hid (HP3.out.below hbm HP3.out.lt)
  have HA5 := Lib.hid (HA3.out.below hbm HA3.out.lt)
  have HI5 := Lib.hid (HI3.out.below hbm HI3.out.lt)
  have HB5 := Lib.hid (HB4.out.trans (hbm.mono HZ4.out))
  have HZ5 := Lib.hid (Nat.le_trans HZ4.out hbm.size)
  clear hbm HP3 HA3 HI3 HB4
  iterate 3 (first | go_values | go_skip | go_guarded | go_step | go_upon)
  refine wpList_load_mid (P := Tryz.prog) rfl 24 _ rfl i 0 rfl _ _ HI5.out.range Tryz.underlying24 rfl (size_h2 gI gI_h) ?_
  simp only [Act.put, List.setIfInBounds_toArray, List.set_cons_zero, List.set_cons_succ]
  obtain ⟨m, hm⟩ : ∃ m, w3.heap.size = m := ⟨_, rfl⟩
  rw [hm] at HM HZ4 ⊢
  clear hm
  generalize World.alloc _ _ = w5 at *
  refine wpList_step (fun K9 hK9 => ?_)
  rw [if_pos (by kernel_rfl)]
  refine wp_build_run (P := Tryz.prog) 94 _ rfl #[(0, .agg pC.toArray), (1, .map (some m)), (2, .agg (bys gI).toArray)] (by simp only [List.map_toArray, List.map_cons, List.map_nil]; rfl) _ (world_build m w5) ?_
  refine hK9 _ _ ?_
  clear hK9 K9
  dsimp only [Act.put]
  simp only [List.setIfInBounds_toArray, List.set_cons_zero, List.set_cons_succ]
  go_upto_region 5 with fail
  have hm9 := Arr.made w5 94 (worldC m gI v0C (.pointer none))
  have hb9 := (Below.refl w5.heap.size w5).alloc (Nat.le_refl _) (.cells (worldC m gI v0C (.pointer none)).toArray 94)
  have HS0 := Lib.hid (show BegT g m w5.heap.size i b (World.drew (w5.alloc (.cells (worldC m gI v0C (.pointer none)).toArray 94))) from ⟨hm9, HM.out.below hb9.drew, HI5.out.below hb9.drew HI5.out.lt, HA5.out.below hb9.drew HA5.out.lt⟩)
  have HB := Lib.hid (HB5.out.trans (hb9.mono HZ5.out)).drew
  have HZ := Lib.hid (show g ≤ (World.drew (w5.alloc (.cells (worldC m gI v0C (.pointer none)).toArray 94))).heap.size from Nat.le_trans HZ5.out hb9.size)
  obtain ⟨wd, hwd⟩ : ∃ wd, w5.heap.size = wd := ⟨_, rfl⟩
  have HMl := Lib.hid (show g ≤ m ∧ m < wd ∧ g ≤ wd from ⟨HZ4.out, by rw [← hwd]; exact HM.out.lt, by rw [← hwd]; exact HZ5.out⟩)
  rw [hwd] at HS0 ⊢
  have HWd := Lib.hid (show m < (World.drew (w5.alloc (.cells (worldC m gI v0C (.pointer none)).toArray 94))).heap.size from HS0.out.m.lt)
  clear hwd hm9 hb9 HI5 HA5 HB5 HP5 HM HZ5 HZ4
  refine wp_region_U (BegT g m wd i b) 11 (by kernel_rfl) ?_
  generalize World.drew _ = w6 at *
  simp only [List.size_toArray, List.length_cons, List.length_nil, Nat.reduceAdd, Array.replicate_succ, Array.replicate_zero, List.push_toArray, List.nil_append, List.cons_append]
  refine wpAnyU_take (i := 0) (oi := ⟨some 24, _, _, _, _, _⟩) (v := .pointer (some ⟨wd, 0, none⟩)) rfl (by kernel_rfl) (by kernel_rfl) (by kernel_rfl) (by kernel_rfl) (by kernel_rfl) (fun _ _ _ h => h) (Or.inl ⟨by rfl, ?_⟩) HS0.out ?_
  · intro w hSw
    go_simp <;> with_reducible rfl
  dsimp only [Act.put]
  simp only [List.setIfInBounds_toArray, List.set_cons_zero, List.set_cons_succ]
  refine wpAnyU_take (i := 1) (oi := ⟨some 25, _, _, _, _, _⟩) (v := .pointer (some ⟨wd, 0, none⟩)) rfl (by kernel_rfl) (by kernel_rfl) (by kernel_rfl) (by kernel_rfl) (by kernel_rfl) (fun _ _ _ h => h) (Or.inl ⟨by rfl, ?_⟩) HS0.out ?_
  · intro w hSw
    go_simp <;> with_reducible rfl
  dsimp only [Act.put]
  simp only [List.setIfInBounds_toArray, List.set_cons_zero, List.set_cons_succ]
  refine wpAnyU_take (i := 2) (oi := ⟨some 26, _, _, _, _, _⟩) (v := .pointer (some ⟨wd, 41, none⟩)) rfl (by kernel_rfl) (by kernel_rfl) (by kernel_rfl) (by kernel_rfl) (by kernel_rfl) (fun _ _ _ h => h) (Or.inl ⟨by rfl, ?_⟩) HS0.out ?_
  · intro w hSw
    go_simp <;> with_reducible rfl
  dsimp only [Act.put]
  simp only [List.setIfInBounds_toArray, List.set_cons_zero, List.set_cons_succ]
  refine wpAnyU_take (i := 3) (oi := ⟨some 27, _, _, _, _, _⟩) (v := .map (some m)) rfl (by kernel_rfl) (by kernel_rfl) (by kernel_rfl) (by kernel_rfl) (by kernel_rfl) (fun _ _ _ h => h) (Or.inl ⟨by rfl, ?_⟩) HS0.out ?_
  · intro w hSw
    have hq : w.cell? ⟨wd, 41, none⟩ = some (.map (some m)) := by rw [hSw.a.cell]; exact w_all _ _ _ _
    go_simp <;> with_reducible rfl
  dsimp only [Act.put]
  simp only [List.setIfInBounds_toArray, List.set_cons_zero, List.set_cons_succ]
  refine wpAnyU_take (i := 4) (oi := ⟨some 28, _, _, _, _, _⟩) rfl (by kernel_rfl) (by kernel_rfl) (by kernel_rfl) (by kernel_rfl) (by kernel_rfl) (fun _ _ _ h => h) (yieldsIf_load_mid (by rfl) 24 (.tmp 5) rfl (i) (0) rfl (bys gI) _ (fun w h => h.i.range) Tryz.underlying24 rfl (size_h2 gI gI_h)) HS0.out ?_
  dsimp only [Act.put]
  simp only [List.setIfInBounds_toArray, List.set_cons_zero, List.set_cons_succ]
  refine wpAnyU_take (i := 5) (oi := ⟨some 29, _, _, _, _, _⟩) rfl (by kernel_rfl) (by kernel_rfl) (by kernel_rfl) (by kernel_rfl) (by kernel_rfl) (fun _ _ _ h => h) (yieldsIf_load_mid (by rfl) 53 (.tmp 4) rfl (b) (0) rfl (blkC) _ (fun w h => h.b.range) Tryz.underlying53 rfl (blk_size)) HS0.out ?_
  dsimp only [Act.put]
  simp only [List.setIfInBounds_toArray, List.set_cons_zero, List.set_cons_succ]
  refine wpAnyU_factsT (ot := ⟨none, _, _, _, _, _⟩) [(6, some 30), (7, some 31), (8, some 32), (9, some 33), (10, some 34)] (fun i v z => match i with
      | 6 => ∃ p, v = .map (some p) ∧ EmpM z p ∧ w6.heap.size ≤ p
      | 7 => ∃ p, v = .map (some p) ∧ EmpM z p ∧ w6.heap.size ≤ p
      | 8 => ∃ s c, v = .pointer (some ⟨s, 0, none⟩) ∧ SetE s c z ∧ w6.heap.size ≤ s ∧ w6.heap.size ≤ c
      | 9 => ∃ pm wm st sc, v = .agg (knownC pm wm st).toArray ∧ EmpM z pm ∧ EmpM z wm ∧ SetE st sc z ∧ w6.heap.size ≤ pm ∧ w6.heap.size ≤ wm ∧ w6.heap.size ≤ st ∧ w6.heap.size ≤ sc
      | _ => ∃ kb pm wm st sc, v = .pointer (some ⟨kb, 0, none⟩) ∧ Arr z kb 123 (knownC pm wm st) ∧ EmpM z pm ∧ EmpM z wm ∧ SetE st sc z ∧ w6.heap.size ≤ kb ∧ w6.heap.size ≤ pm ∧ w6.heap.size ≤ wm ∧ w6.heap.size ≤ st ∧ w6.heap.size ≤ sc) rfl rfl ?_ ?_ (by kernel_rfl) (by decide) (by kernel_rfl) ?_ ?_
  · intro i v z z' h hb
    match i, h with
    | 0, ⟨kb, pm, wm, st, sc, e, h1, h2, h3, h4, h5⟩ => exact ⟨kb, pm, wm, st, sc, e, h1.below hb h1.lt, h2.below hb, h3.below hb, h4.below hb, h5⟩
    | 1, ⟨kb, pm, wm, st, sc, e, h1, h2, h3, h4, h5⟩ => exact ⟨kb, pm, wm, st, sc, e, h1.below hb h1.lt, h2.below hb, h3.below hb, h4.below hb, h5⟩
    | 2, ⟨kb, pm, wm, st, sc, e, h1, h2, h3, h4, h5⟩ => exact ⟨kb, pm, wm, st, sc, e, h1.below hb h1.lt, h2.below hb, h3.below hb, h4.below hb, h5⟩
    | 3, ⟨kb, pm, wm, st, sc, e, h1, h2, h3, h4, h5⟩ => exact ⟨kb, pm, wm, st, sc, e, h1.below hb h1.lt, h2.below hb, h3.below hb, h4.below hb, h5⟩
    | 4, ⟨kb, pm, wm, st, sc, e, h1, h2, h3, h4, h5⟩ => exact ⟨kb, pm, wm, st, sc, e, h1.below hb h1.lt, h2.below hb, h3.below hb, h4.below hb, h5⟩
    | 5, ⟨kb, pm, wm, st, sc, e, h1, h2, h3, h4, h5⟩ => exact ⟨kb, pm, wm, st, sc, e, h1.below hb h1.lt, h2.below hb, h3.below hb, h4.below hb, h5⟩
    | 6, ⟨p, e, h, hg⟩ => exact ⟨p, e, h.below hb, hg⟩
    | 7, ⟨p, e, h, hg⟩ => exact ⟨p, e, h.below hb, hg⟩
    | 8, ⟨s, c, e, h, hg⟩ => exact ⟨s, c, e, h.below hb, hg⟩
    | 9, ⟨pm, wm, st, sc, e, h2, h3, h4, h5⟩ => exact ⟨pm, wm, st, sc, e, h2.below hb, h3.below hb, h4.below hb, h5⟩
    | _ + 10, ⟨kb, pm, wm, st, sc, e, h1, h2, h3, h4, h5⟩ => exact ⟨kb, pm, wm, st, sc, e, h1.below hb h1.lt, h2.below hb, h3.below hb, h4.below hb, h5⟩
  · exact fun w' hb => HS0.out.below hb
  refine List.forall_mem_cons.2 ⟨?_, List.forall_mem_cons.2 ⟨?_, List.forall_mem_cons.2 ⟨?_, List.forall_mem_cons.2 ⟨?_, List.forall_mem_cons.2 ⟨?_, fun p hp => absurd hp List.not_mem_nil⟩⟩⟩⟩⟩
  · refine stepF_of (oi := ⟨some 30, _, _, _, _, _⟩) rfl rfl ?_
    intro X w5 hB5 hd K hK
    simp only [putsA, putsT_some, putsT_nil, Act.put, List.setIfInBounds_toArray, List.set_cons_zero, List.set_cons_succ] at hK ⊢
    have HK := Lib.hid hK
    clear hK hd
    have hmm := @run_makeMap Tryz.prog
    have HEz := Lib.hid (show EmpM (w5.alloc (.map #[] 0)) w5.heap.size from heap_alloc_last w5 _)
    have HBz := Lib.hid ((Below.refl w5.heap.size w5).alloc (Nat.le_refl _) (.map #[] 0))
    go_simp
    exact HK.out _ _ ⟨_, rfl, HEz.out, hB5.size⟩ HBz.out
  · refine stepF_of (oi := ⟨some 31, _, _, _, _, _⟩) rfl rfl ?_
    intro X w5 hB5 hd K hK
    simp only [putsA, putsT_some, putsT_nil, Act.put, List.setIfInBounds_toArray, List.set_cons_zero, List.set_cons_succ] at hK ⊢
    have HK := Lib.hid hK
    clear hK hd
    have hmm := @run_makeMap Tryz.prog
    have HEz := Lib.hid (show EmpM (w5.alloc (.map #[] 0)) w5.heap.size from heap_alloc_last w5 _)
    have HBz := Lib.hid ((Below.refl w5.heap.size w5).alloc (Nat.le_refl _) (.map #[] 0))
    go_simp
    exact HK.out _ _ ⟨_, rfl, HEz.out, hB5.size⟩ HBz.out
  · refine stepF_of (oi := ⟨some 32, _, _, _, _, _⟩) rfl rfl ?_
    intro X w5 hB5 hd K hK
    simp only [putsA, putsT_some, putsT_nil, Act.put, List.setIfInBounds_toArray, List.set_cons_zero, List.set_cons_succ] at hK ⊢
    have HK := Lib.hid hK
    clear hK hd
    go_simp
    with_reducible refine (cnew_set w5).mono ?_
    rintro e w7 ⟨s, c, rfl, h1, h2, h3, hb6⟩
    dsimp only
    exact HK.out _ _ ⟨s, c, rfl, h3, Nat.le_trans hB5.size h1, Nat.le_trans hB5.size h2⟩ hb6
  · refine stepF_of (oi := ⟨some 33, _, _, _, _, _⟩) rfl rfl ?_
    intro X w5 hB5 hd K hK
    obtain ⟨pm, h6, hp1, hp2⟩ : ∃ p, X 6 = .map (some p) ∧ EmpM w5 p ∧ w6.heap.size ≤ p := hd (6, some 30) (by decide) (by kernel_rfl)
    obtain ⟨wm, h7, hw1, hw2⟩ : ∃ p, X 7 = .map (some p) ∧ EmpM w5 p ∧ w6.heap.size ≤ p := hd (7, some 31) (by decide) (by kernel_rfl)
    obtain ⟨st, sc, h8, hs1, hs2, hs3⟩ : ∃ s c, X 8 = .pointer (some ⟨s, 0, none⟩) ∧ SetE s c w5 ∧ w6.heap.size ≤ s ∧ w6.heap.size ≤ c := hd (8, some 32) (by decide) (by kernel_rfl)
    have H6 := Lib.hid h6
    have H7 := Lib.hid h7
    have H8 := Lib.hid h8
    clear h6 h7 h8
    simp only [putsA, putsT_some, putsT_nil, Act.put, List.setIfInBounds_toArray, List.set_cons_zero, List.set_cons_succ] at hK ⊢
    have HK := Lib.hid hK
    clear hK hd
    refine wp_build_run (P := Tryz.prog) 123 _ rfl #[(0, .agg blkC.toArray), (1, X 6), (3, X 7), (4, .int .i64 1), (6, X 8)] (by simp only [List.map_toArray, List.map_cons, List.map_nil]; rfl) _ ?_ (HK.out _ _ ⟨pm, wm, st, sc, rfl, hp1, hw1, hs1, hp2, hw2, hs2, hs3⟩ (Below.refl _ _))
    rw [H6.out, H7.out, H8.out]
    exact known_build pm wm st w5
  · refine stepF_of (oi := ⟨some 34, _, _, _, _, _⟩) rfl rfl ?_
    intro X w5 hB5 hd K hK
    obtain ⟨pm, wm, st, sc, h6, hp⟩ : ∃ pm wm st sc, X 9 = .agg (knownC pm wm st).toArray ∧ EmpM w5 pm ∧ EmpM w5 wm ∧ SetE st sc w5 ∧ w6.heap.size ≤ pm ∧ w6.heap.size ≤ wm ∧ w6.heap.size ≤ st ∧ w6.heap.size ≤ sc := hd (9, some 33) (by decide) (by kernel_rfl)
    have HP := Lib.hid hp
    clear hp
    simp only [putsA, putsT_some, putsT_nil, Act.put, List.setIfInBounds_toArray, List.set_cons_zero, List.set_cons_succ] at hK ⊢
    have HK := Lib.hid hK
    clear hK hd
    rw [h6] at HK ⊢
    have HAz := Lib.hid (Arr.made w5 123 (knownC pm wm st))
    have HBz := Lib.hid (show Below w5.heap.size w5 (w5.alloc (.cells (knownC pm wm st).toArray 123)) from (Below.refl _ _).alloc (Nat.le_refl _) _)
    go_simp
    exact HK.out _ _ ⟨_, pm, wm, st, sc, rfl, HAz.out, HP.out.1.below HBz.out, HP.out.2.1.below HBz.out, HP.out.2.2.1.below HBz.out, hB5.size, HP.out.2.2.2⟩ HBz.out
  intro X w7 hB7 hF K hK
  obtain ⟨kb, pm, wm, st, sc, h10, hk⟩ : ∃ kb pm wm st sc, X 10 = .pointer (some ⟨kb, 0, none⟩) ∧ Arr w7 kb 123 (knownC pm wm st) ∧ EmpM w7 pm ∧ EmpM w7 wm ∧ SetE st sc w7 ∧ w6.heap.size ≤ kb ∧ w6.heap.size ≤ pm ∧ w6.heap.size ≤ wm ∧ w6.heap.size ≤ st ∧ w6.heap.size ≤ sc := hF (10, some 34) (by decide)
  simp only [putsA, putsT_some, putsT_nil, Act.put, List.setIfInBounds_toArray, List.set_cons_zero, List.set_cons_succ]
  rw [h10]
  clear hF h10
  have HK := Lib.hid hK
  have HKn := Lib.hid hk
  have HB7 := Lib.hid (HB.out.trans (hB7.mono HZ.out))
  have HS7 := Lib.hid (HS0.out.below hB7)
  have HZ7 := Lib.hid (Nat.le_trans HZ.out hB7.size)
  clear hK hk hB7 HS0 HB HZ
  obtain ⟨w8, hrun, h1, hg8⟩ := upd_emp Tryz.underlying92 gI_h HS7.out.m (.pointer (some ⟨kb, 0, none⟩))
  have HB8 := Lib.hid (HB7.out.grown hg8 HZ7.out (fun k hk => by cases hk; exact HMl.out.1))
  have HGn := Lib.hid (show Gen ⟨wd, m, kb, pm, wm, st, sc⟩ v0C (.pointer none) w8 from
    have hl := HMl.out
    have hk := HKn.out
    have hm := HWd.out
    ⟨kept_grown hg8 HS7.out.a (by intro e; have h := Option.some.inj e; dsimp only at h; omega), h1, kept_grown hg8 hk.1 (by intro e; have h := Option.some.inj e; dsimp only at h; omega), kept_grown hg8 hk.2.1 (by intro e; have h := Option.some.inj e; dsimp only at h; omega), kept_grown hg8 hk.2.2.1 (by intro e; have h := Option.some.inj e; dsimp only at h; omega), ⟨kept_grown hg8 hk.2.2.2.1.a (by intro e; have h := Option.some.inj e; dsimp only at h; omega), kept_grown hg8 hk.2.2.2.1.m (by intro e; have h := Option.some.inj e; dsimp only at h; omega)⟩⟩)
  unfold hv at hrun
  clear h1 hg8 HS7 HB7 HKn HWd
  go_simp
  refine HK.out _ _ ?_
  clear HK hrun
  go_wp2
  go_ret
  exact ⟨⟨wd, m, kb, pm, wm, st, sc⟩, rfl, HMl.out.2.2, HGn.out, HB8.out⟩
end Go.Proofs.YthnbnckmeffkmaaGreat
/- spec.begin: all of it. -/
namespace Go.Proofs.YthnbnckmeffkmaaGreat
open Go.RowKit Go.Lib
open Go.ChangeMaps
set_option linter.unusedVariables false
set_option linter.unusedSimpArgs false
attribute [local go_sem ↓] Go.wp_at_zero Go.wp_at_succ

set_option maxRecDepth 100000 in
set_option maxHeartbeats 6400000 in
theorem begin_any (w : World) : Calls Tryz.prog 38 #[.agg pC.toArray] w fun e w' => ∃ G, e = .returned (.pointer (some ⟨GB.wd G, 0, none⟩)) ∧ w.heap.size ≤ G.wd ∧ Gen G v0C (.pointer none) w' ∧ Below w.heap.size w w' := by
  have hz := zero32
  go_enter Tryz.func38, Tryz.ntmps38
  go_upto_region 1 with fail
  have HP := Lib.hid (Arr.made w 26 pC)
  have HB := Lib.hid ((Below.refl w.heap.size w).alloc (Nat.le_refl _) (.cells pC.toArray 26))
  generalize World.alloc _ _ = w1 at *
  obtain ⟨g, hg⟩ : ∃ g, w.heap.size = g := ⟨_, rfl⟩
  rw [hg] at HP HB ⊢
  have HG := Lib.hid hg
  clear hg
  have HZ := Lib.hid (show g ≤ w1.heap.size from Nat.le_of_lt HP.out.lt)
  have HC := Lib.hid (mroot_any (.slice none 0 0) [] w1 (Nat.zero_le _) (hs_nil rfl))
  go_wp2_with fail
  with_reducible refine HC.out.mono ?_
  rintro e w2 ⟨rfl, hb9⟩
  dsimp only
  have HB2 := Lib.hid (HB.out.trans (hb9.mono HZ.out))
  have HZ2 := Lib.hid (Nat.le_trans HZ.out hb9.size)
  have HP2 := Lib.hid (HP.out.below hb9 HP.out.lt)
  clear HP
  have HP := HP2
  clear HP2
  clear hb9 HC HB HZ
  have HB := HB2
  have HZ := HZ2
  clear HB2 HZ2
  rw [show mrootF [] = gR from rfl]
  iterate 4 (first | go_values | go_skip | go_guarded | go_step | go_upon)
  refine wpList_store_box (P := Tryz.prog) rfl 24 _ _ rfl w2 _ (bys gR) rfl rfl (by rw [bys_len, gR_h.1]; rfl) (size_h2 gR gR_h) (bys_one gR) ?_
  intro w3 ha9 hb9
  have HA2 := Lib.hid ha9.out
  have HB2 := Lib.hid hb9.out
  clear ha9 hb9
  have HP3 := Lib.hid (HP.out.below HB2.out HP.out.lt)
  have HB3 := Lib.hid (HB.out.trans (HB2.out.mono HZ.out))
  have HZ3 := Lib.hid (Nat.le_trans HZ.out HB2.out.size)
  clear HP HB HB2
  obtain ⟨n, hn⟩ : ∃ n, w2.heap.size = n := ⟨_, rfl⟩
  rw [hn] at HA2 ⊢
  have HN := Lib.hid (show g ≤ n by rw [← hn]; exact HZ.out)
  clear hn HZ
  go_upto_region 2 with fail
  have HS0 := Lib.hid (show BegS g n w3.drew from ⟨HP3.out, HA2.out⟩)
  have HB := Lib.hid HB3.out.drew
  have HZ := Lib.hid (show g ≤ w3.drew.heap.size from HZ3.out)
  clear HP3 HA2 HB3 HZ3
  refine wp_region_U (BegS g n) 9 (by kernel_rfl) ?_
  generalize World.drew _ = w4 at *
  simp only [List.size_toArray, List.length_cons, List.length_nil, Nat.reduceAdd, Array.replicate_succ, Array.replicate_zero, List.push_toArray, List.nil_append, List.cons_append]
  refine wpAnyU_take (i := 0) (oi := ⟨some 8, _, _, _, _, _⟩) rfl (by kernel_rfl) (by kernel_rfl) (by kernel_rfl) (by kernel_rfl) (by kernel_rfl) (fun _ _ _ h => h) (yieldsIf_load_mid (by rfl) 24 (.tmp 3) rfl (n) (0) rfl (bys gR) _ (fun w h => h.n.range) Tryz.underlying24 rfl (size_h2 gR gR_h)) HS0.out ?_
  dsimp only [Act.put]
  simp only [List.setIfInBounds_toArray, List.set_cons_zero, List.set_cons_succ]
  refine wpAnyU_take (i := 1) (oi := ⟨some 9, _, _, _, _, _⟩) rfl (by kernel_rfl) (by kernel_rfl) (by kernel_rfl) (by kernel_rfl) (by kernel_rfl) (fun _ _ _ h => h) (yieldsIf_load_mid (by rfl) 24 (.tmp 3) rfl (n) (0) rfl (bys gR) _ (fun w h => h.n.range) Tryz.underlying24 rfl (size_h2 gR gR_h)) HS0.out ?_
  dsimp only [Act.put]
  simp only [List.setIfInBounds_toArray, List.set_cons_zero, List.set_cons_succ]
  refine wpAnyU_take (i := 4) (oi := ⟨some 12, _, _, _, _, _⟩) (v := .pointer (some ⟨g, 9, none⟩)) rfl (by kernel_rfl) (by kernel_rfl) (by kernel_rfl) (by kernel_rfl) (by kernel_rfl) (fun _ _ _ h => h) (Or.inl ⟨by rfl, ?_⟩) HS0.out ?_
  · intro w hSw
    go_simp <;> with_reducible rfl
  dsimp only [Act.put]
  simp only [List.setIfInBounds_toArray, List.set_cons_zero, List.set_cons_succ]
  refine wpAnyU_take (i := 5) (oi := ⟨some 13, _, _, _, _, _⟩) rfl (by kernel_rfl) (by kernel_rfl) (by kernel_rfl) (by kernel_rfl) (by kernel_rfl) (fun _ _ _ h => h) (yieldsIf_load_mid (by rfl) 24 (.tmp 12) rfl (g) (9) rfl (bys zH) _ (fun w h => pC_miner h.p) Tryz.underlying24 rfl (size_h2 zH zH_h)) HS0.out ?_
  dsimp only [Act.put]
  simp only [List.setIfInBounds_toArray, List.set_cons_zero, List.set_cons_succ]
  refine wpAnyU_factsT (ot := ⟨none, _, _, _, _, _⟩) [(2, some 10), (3, some 11), (6, some 14), (7, some 15), (8, some 4)] (fun i v z => match i with
      | 2 => ∃ s, v = .pointer (some ⟨s, 0, none⟩) ∧ EmpS z s
      | 3 => v = .agg (bys gC).toArray
      | 6 => v = .agg (hdC (.slice none 0 0) gH).toArray
      | 7 => v = .agg blkC.toArray
      | _ => ∃ b, v = .pointer (some ⟨b, 0, none⟩) ∧ Arr z b 53 zB ∧ w4.heap.size ≤ b) rfl rfl ?_ ?_ (by kernel_rfl) (by decide) (by kernel_rfl) ?_ ?_
  · intro i v z z' h hb
    match i, h with
    | 0, ⟨b, e, h, hg⟩ => exact ⟨b, e, h.below hb h.lt, hg⟩
    | 1, ⟨b, e, h, hg⟩ => exact ⟨b, e, h.below hb h.lt, hg⟩
    | 2, ⟨s, e, h⟩ => exact ⟨s, e, h.below hb⟩
    | 3, h => exact h
    | 4, ⟨b, e, h, hg⟩ => exact ⟨b, e, h.below hb h.lt, hg⟩
    | 5, ⟨b, e, h, hg⟩ => exact ⟨b, e, h.below hb h.lt, hg⟩
    | 6, h => exact h
    | 7, h => exact h
    | _ + 8, ⟨b, e, h, hg⟩ => exact ⟨b, e, h.below hb h.lt, hg⟩
  · exact fun w' hb => HS0.out.below hb
  refine List.forall_mem_cons.2 ⟨?_, List.forall_mem_cons.2 ⟨?_, List.forall_mem_cons.2 ⟨?_, List.forall_mem_cons.2 ⟨?_, List.forall_mem_cons.2 ⟨?_, fun p hp => absurd hp List.not_mem_nil⟩⟩⟩⟩⟩
  · refine stepF_of (oi := ⟨some 10, _, _, _, _, _⟩) rfl rfl ?_
    intro X w5 hB5 hd K hK
    simp only [putsA, putsT_some, putsT_nil, Act.put, List.setIfInBounds_toArray, List.set_cons_zero, List.set_cons_succ] at hK ⊢
    have HK := Lib.hid hK
    clear hK hd
    go_simp
    with_reducible refine (cnew_any w5).mono ?_
    rintro e w6 ⟨s, rfl, _, hs6, hb6⟩
    dsimp only
    exact HK.out _ _ ⟨s, rfl, hs6⟩ hb6
  · refine stepF_of (oi := ⟨some 11, _, _, _, _, _⟩) rfl rfl ?_
    intro X w5 hB5 hd K hK
    obtain ⟨s, h6, hs6⟩ : ∃ s, X 2 = .pointer (some ⟨s, 0, none⟩) ∧ EmpS w5 s := hd (2, some 10) (by decide) (by kernel_rfl)
    rw [show putsA _ X _ = putsA _ X _ from rfl] at hK
    have HS6 := Lib.hid hs6
    have H6 := Lib.hid h6
    clear hs6 h6
    simp only [putsA, putsT_some, putsT_nil, Act.put, List.setIfInBounds_toArray, List.set_cons_zero, List.set_cons_succ] at hK ⊢
    have HK := Lib.hid hK
    clear hK hd
    have HC6 := Lib.hid (cof_emp s w5 HS6.out)
    rw [← H6.out] at HC6
    go_simp
    with_reducible refine HC6.out.mono ?_
    rintro e w6 ⟨rfl, hb6⟩
    dsimp only
    exact HK.out _ _ rfl hb6
  · refine stepF_of (oi := ⟨some 14, _, _, _, _, _⟩) rfl rfl ?_
    intro X w5 hB5 hd K hK
    have h6 : X 3 = .agg (bys gC).toArray := hd (3, some 11) (by decide) (by kernel_rfl)
    have H6 := Lib.hid h6
    clear h6
    simp only [putsA, putsT_some, putsT_nil, Act.put, List.setIfInBounds_toArray, List.set_cons_zero, List.set_cons_succ] at hK ⊢
    have HK := Lib.hid hK
    clear hK hd
    refine wp_build_run (P := Tryz.prog) 50 _ rfl #[(1, .agg (bys gR).toArray), (2, .agg (bys gR).toArray), (3, X 3), (4, .agg (bys zH).toArray)] (by simp only [List.map_toArray, List.map_cons, List.map_nil]; rfl) _ ?_ (HK.out _ _ rfl (Below.refl _ _))
    rw [H6.out]
    exact hdr_build w5
  · refine stepF_of (oi := ⟨some 15, _, _, _, _, _⟩) rfl rfl ?_
    intro X w5 hB5 hd K hK
    have h6 : X 6 = .agg (hdC (.slice none 0 0) gH).toArray := hd (6, some 14) (by decide) (by kernel_rfl)
    have H6 := Lib.hid h6
    clear h6
    simp only [putsA, putsT_some, putsT_nil, Act.put, List.setIfInBounds_toArray, List.set_cons_zero, List.set_cons_succ] at hK ⊢
    have HK := Lib.hid hK
    clear hK hd
    refine wp_build_run (P := Tryz.prog) 53 _ rfl #[(0, X 6)] (by simp only [List.map_toArray, List.map_cons, List.map_nil]; rfl) _ ?_ (HK.out _ _ rfl (Below.refl _ _))
    rw [H6.out]
    exact blk_build w5
  · refine stepF_of (oi := ⟨some 4, _, _, _, _, _⟩) rfl rfl ?_
    intro X w5 hB5 hd K hK
    simp only [putsA, putsT_some, putsT_nil, Act.put, List.setIfInBounds_toArray, List.set_cons_zero, List.set_cons_succ] at hK ⊢
    have HK := Lib.hid hK
    clear hK hd
    have hzp := zero_blk
    have HAz := Lib.hid (Arr.made w5 53 zB)
    have HBz := Lib.hid (show Below w5.heap.size w5 (w5.alloc (.cells zB.toArray 53)) from (Below.refl _ _).alloc (Nat.le_refl _) _)
    go_simp
    exact HK.out _ _ ⟨_, rfl, HAz.out, hB5.size⟩ HBz.out
  intro X w5 hB5 hF K hK
  have h7 : X 7 = .agg blkC.toArray := hF (7, some 15) (by decide)
  obtain ⟨b, h8, ha8, hg8⟩ : ∃ b, X 8 = .pointer (some ⟨b, 0, none⟩) ∧ Arr w5 b 53 zB ∧ w4.heap.size ≤ b := hF (8, some 4) (by decide)
  simp only [putsA, putsT_some, putsT_nil, Act.put, List.setIfInBounds_toArray, List.set_cons_zero, List.set_cons_succ]
  rw [h7, h8]
  clear hF h7 h8
  have HK := Lib.hid hK
  clear hK
  refine wp_store_mid (P := Tryz.prog) 53 (.tmp 4) (.tmp 15) rfl b 0 blkC.toArray rfl rfl (ha8.there _ (by rw [List.size_toArray, blkC_len, zB_len])) (by rw [List.size_toArray]; exact blk_size) (all_oneCell_toArray blkC_one) ?_
  rw [show blkC.toArray.toList = blkC from rfl]
  have hbs := below_sets b hg8 blkC 0 hB5
  have HA6 := Lib.hid (ha8.setAll blkC (by rw [blkC_len, zB_len]))
  have HP6 := Lib.hid (HS0.out.p.below hbs HS0.out.p.lt)
  have HB6 := Lib.hid (HB.out.trans (hbs.mono HZ.out))
  have HZ6 := Lib.hid (Nat.le_trans HZ.out hbs.size)
  refine HK.out _ _ ?_
  clear HK hbs ha8 hg8 HS0 HB HZ hB5
  generalize World.setCells _ _ _ _ = w6 at *
  dsimp only [Act.put]
  repeat (first | (exact begin_t g b w w6 HP6.out HA6.out HB6.out HZ6.out HG.out) | go_step)
end Go.Proofs.YthnbnckmeffkmaaGreat
/- The best of one. -/
namespace Go.Proofs.YthnbnckmeffkmaaGreat
open Go.RowKit Go.Lib
set_option linter.unusedVariables false
set_option linter.unusedSimpArgs false
attribute [local go_sem ↓] Go.wp_at_zero Go.wp_at_succ

theorem zero_h : ∀ w, (zeroValue 24).run Tryz.prog w = .ok (.agg (bys zH).toArray) w := fun w => by kernel_rfl
theorem range_lt {w : World} {b off : Nat} {H : List Nat} (h : w.rangeAt b off (bys H)) (hH : IsH H) : b < w.heap.size := by
  have h1 : ∃ v, (bys H)[0]? = some v := ⟨_, List.getElem?_eq_getElem (by rw [bys_len, hH.1]; omega)⟩
  obtain ⟨v, hv⟩ := h1
  exact World.block_lt_of_cell? _ _ (h 0 v hv)
theorem range_keep {w w' : World} {b off : Nat} {H : List Nat} (h : w.rangeAt b off (bys H)) (hH : IsH H) (hb : Below w.heap.size w w') : w'.rangeAt b off (bys H) := rangeAt_below h hb (range_lt h hH)
set_option maxRecDepth 100000 in
set_option maxHeartbeats 1600000 in
theorem max_one (b off c : Nat) (H : List Nat) (hH : IsH H) (f : Value) (w : World) (hr : w.rangeAt b off (bys H)) : Calls Tryz.prog 142 #[.slice (some ⟨b, off, none⟩) 1 c, f] w fun e w' => e = .returned (.agg (bys H).toArray) ∧ Below w.heap.size w w' := by
  have hz := zero_h
  have HR := Lib.hid hr
  have HH := Lib.hid hH
  clear hr hH
  go_enter Tryz.func142, Tryz.ntmps142
  go_upto_region 3 with fail
  obtain ⟨g, hg⟩ : ∃ g, w.heap.size = g := ⟨_, rfl⟩
  have hb := (Below.refl w.heap.size w).alloc (Nat.le_refl _) (.cells (bys zH).toArray 24)
  have HA := Lib.hid (Arr.made w 24 (bys zH))
  have HR1 := Lib.hid (range_keep HR.out HH.out hb)
  have HB := Lib.hid hb
  rw [hg] at HA HB ⊢
  have HG := Lib.hid hg
  clear hb HR hg
  generalize World.alloc _ _ = w1 at *
  go_step
  iterate 6 (first | go_values | go_skip | go_guarded | go_step | go_upon)
  refine wpList_load_mid (P := Tryz.prog) rfl 24 _ rfl (b) (off) rfl _ _ (HR1.out) Tryz.underlying24 rfl (size_h2 H HH.out) ?_
  simp only [Act.put, List.setIfInBounds_toArray, List.set_cons_zero, List.set_cons_succ]
  iterate 3 (first | go_values | go_skip | go_guarded | go_step | go_upon)
  refine wpList_store_box (P := Tryz.prog) rfl 24 _ _ rfl w1 _ (bys H) rfl rfl (by rw [List.size_toArray, bys_len, bys_len, zH_h.1, (HH.out).1]) (size_h2 H HH.out) (bys_one H) ?_
  intro w2 ha9 hb9
  have HA2 := Lib.hid ha9.out
  have HB2 := Lib.hid hb9.out
  clear ha9 hb9
  obtain ⟨g2, hg2⟩ : ∃ g2, w1.heap.size = g2 := ⟨_, rfl⟩
  rw [hg2] at HA2 ⊢
  have HZ := Lib.hid (show g ≤ w1.heap.size from Nat.le_of_lt HA.out.lt)
  have HA3 := Lib.hid (HA.out.below HB2.out HA.out.lt)
  have HB3 := Lib.hid (HB.out.trans (HB2.out.mono HZ.out))
  clear HA HB HB2 hg2
  go_wp2
  refine wp_loop_rounds 1 ?_
  rw [rounds_succ]
  go_upto_region 9 with fail
  go_step
  refine wpList_load_mid (P := Tryz.prog) rfl 24 _ rfl (g2) (0) rfl _ _ (HA2.out.range) Tryz.underlying24 rfl (size_h2 H HH.out) ?_
  simp only [Act.put, List.setIfInBounds_toArray, List.set_cons_zero, List.set_cons_succ]
  refine wpList_store_mid (P := Tryz.prog) rfl 24 _ _ rfl g 0 _ rfl rfl (HA3.out.there _ (by rw [List.size_toArray, bys_len, bys_len, HH.out.1, zH_h.1])) (by rw [List.size_toArray]; exact size_h2 H HH.out) (all_oneCell_toArray (bys_one H)) ?_
  have HF := Lib.hid (HA3.out.setAll (bys H) (by rw [bys_len, bys_len, HH.out.1, zH_h.1]))
  have HB4 := Lib.hid (below_sets g (Nat.le_refl g) (bys H) 0 HB3.out)
  rw [show (bys H).toArray.toList = bys H from rfl]
  generalize World.setCells _ _ _ _ = w3 at *
  clear HA3 HB3
  go_wp2
  refine bodyPost_ret (results_cell_row (P := Tryz.prog) rfl _ _ g 24 _ (0, 0) _ rfl HF.out Tryz.underlying24 rfl (by rw [List.size_toArray]; exact size_h2 H HH.out)) rfl ?_
  exact ⟨rfl, by rw [HG.out]; exact HB4.out⟩
set_option maxRecDepth 100000 in
set_option maxHeartbeats 1600000 in
theorem best_one (b off c : Nat) (wd : Nat) (H : List Nat) (hH : IsH H) (w : World) (hr : w.rangeAt b off (bys H)) : Calls Tryz.prog 88 #[.pointer (some ⟨wd, 0, none⟩), .slice (some ⟨b, off, none⟩) 1 c] w fun e w' => e = .returned (.agg (bys H).toArray) ∧ Below w.heap.size w w' := by
  have hz := zero_h
  have hmf : ∀ (fn : Fn) (first cap : Array Value) (w : World), (Instr.makeFunc fn first cap).run Tryz.prog w = .ok (.func fn first cap) w := fun _ _ _ _ => rfl
  have HR := Lib.hid hr
  have HH := Lib.hid hH
  clear hr hH
  go_enter Tryz.func88, Tryz.ntmps88
  go_upto_region 1 with fail
  have hpk := two_laid w [.pointer (some ⟨wd, 0, none⟩)] (bys zH) 30 24 _ rfl
  have HA := Lib.hid hpk.2.1
  have HB := Lib.hid hpk.2.2
  have HR1 := Lib.hid (range_keep HR.out HH.out hpk.2.2)
  clear hpk HR
  obtain ⟨g, hg⟩ : ∃ g, w.heap.size + 1 = g := ⟨_, rfl⟩
  have HGl := Lib.hid (show w.heap.size ≤ g by omega)
  rw [hg] at HA ⊢
  clear hg
  generalize World.alloc (World.alloc _ _) _ = w1 at *
  have HZ := Lib.hid HB.out.size
  have HC := Lib.hid (fun f => max_one b off c H HH.out f w1 HR1.out)
  go_wp2_with fail
  with_reducible refine (HC.out _).mono ?_
  rintro e w2 ⟨rfl, hb9⟩
  dsimp only
  have HB2 := Lib.hid (HB.out.trans (hb9.mono HZ.out))
  have HZ2 := Lib.hid (Nat.le_trans HZ.out hb9.size)
  have HA2 := Lib.hid (HA.out.below hb9 HA.out.lt)
  clear HA HR1
  clear hb9 HC HB HZ
  have HB := HB2
  have HZ := HZ2
  clear HB2 HZ2
  iterate 1 (first | go_values | go_skip | go_guarded | go_step | go_upon)
  refine wpList_store_mid (P := Tryz.prog) rfl 24 _ _ rfl g 0 _ rfl rfl (HA2.out.there _ (by rw [List.size_toArray, bys_len, bys_len, HH.out.1, zH_h.1])) (by rw [List.size_toArray]; exact size_h2 H HH.out) (all_oneCell_toArray (bys_one H)) ?_
  have HF := Lib.hid (HA2.out.setAll (bys H) (by rw [bys_len, bys_len, HH.out.1, zH_h.1]))
  have HB4 := Lib.hid (below_sets g HGl.out (bys H) 0 HB.out)
  rw [show (bys H).toArray.toList = bys H from rfl]
  generalize World.setCells _ _ _ _ = w3 at *
  clear HA2 HB
  go_wp2
  refine bodyPost_ret (results_cell_row (P := Tryz.prog) rfl _ _ g 24 _ (0, 0) _ rfl HF.out Tryz.underlying24 rfl (by rw [List.size_toArray]; exact size_h2 H HH.out)) rfl ?_
  exact ⟨rfl, HB4.out⟩
end Go.Proofs.YthnbnckmeffkmaaGreat
