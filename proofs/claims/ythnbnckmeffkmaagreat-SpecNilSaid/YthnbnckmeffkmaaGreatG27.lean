/- spec.now of the genesis. -/
import Derived.Test.YthnbnckmeffkmaaGreatG26
namespace Go.Proofs.YthnbnckmeffkmaaGreat
open Go.RowKit Go.Lib
set_option linter.unusedVariables false
set_option linter.unusedSimpArgs false
attribute [local go_sem ↓] Go.wp_at_zero Go.wp_at_succ

def vC (pg : Nat) (fv : Value) : List Value := bys gI ++ ([.slice (some ⟨pg, 0, none⟩) 1 1, .int .u64 1, .slice none 0 0, .slice none 0 0] ++ resC fv)
theorem vC_len (pg : Nat) (fv : Value) : (vC pg fv).length = 42 := by unfold vC; rw [List.length_append, List.length_append, bys_len, gI_h.1]; rfl
theorem vC_one (pg : Nat) (g c : Nat) : ∀ v ∈ vC pg (.slice (some ⟨g, 0, none⟩) 1 c), v.oneCell' = true := by
  intro v hv
  rcases List.mem_append.1 hv with h | h
  · exact bys_one gI v h
  · simp [resC] at h
    rcases h with rfl | rfl | rfl | rfl | rfl | rfl | rfl | rfl | rfl <;> rfl
theorem v_build0 (H : List Nat) (hH : H.length = 32) (pg : Nat) (fv : Value) (hf : fv.oneCell' = true) (w : World) :
    (Instr.build 82 #[(0, .agg (bys H).toArray), (1, .slice (some ⟨pg, 0, none⟩) 1 1), (2, .int .u64 1), (3, .slice none 0 0), (4, .slice none 0 0), (5, .agg (resC fv).toArray)]).run Tryz.prog w = .ok (.agg (bys H ++ ([Value.slice (some ⟨pg, 0, none⟩) 1 1, .int .u64 1, .slice none 0 0, .slice none 0 0] ++ resC fv)).toArray) w := by
  match H, hH with
  | [x0, x1, x2, x3, x4, x5, x6, x7, x8, x9, x10, x11, x12, x13, x14, x15, x16, x17, x18, x19, x20, x21, x22, x23, x24, x25, x26, x27, x28, x29, x30, x31], _ => show _ = _; kernel_rfl
theorem v_build (pg : Nat) (fv : Value) (hf : fv.oneCell' = true) (w : World) :
    (Instr.build 82 #[(0, .agg (bys gI).toArray), (1, .slice (some ⟨pg, 0, none⟩) 1 1), (2, .int .u64 1), (3, .slice none 0 0), (4, .slice none 0 0), (5, .agg (resC fv).toArray)]).run Tryz.prog w = .ok (.agg (vC pg fv).toArray) w := v_build0 gI gI_h.1 pg fv hf w
theorem there_at {g : Nat} {t : TypeId} {w : World} {vs : List Value} (h : Arr w g t vs) (o n : Nat) (hn : o + n ≤ vs.length) : w.there g o n := by
  intro j hj
  exact ⟨by rw [h.cell]; simp; omega, h.frozen _⟩
theorem world_putV (m : Nat) (V V' : List Value) (hV : V.length = 42) (hV' : V'.length = 42) (sv : Value) :
    (worldC m gI V sv).take 74 ++ V' ++ (worldC m gI V sv).drop (74 + V'.length) = worldC m gI V' sv := by
  have e : ∀ X, worldC m gI X sv = (pC ++ ([.map (some m)] ++ bys gI)) ++ (X ++ [sv]) := fun X => by unfold worldC; simp only [List.append_assoc]
  have hl : (pC ++ ([Value.map (some m)] ++ bys gI)).length = 74 := by simp only [List.length_append, pC_len, bys_len, gI_h.1]; rfl
  rw [e V, e V']
  rw [List.take_append_of_le_length (by omega), List.take_of_length_le (by omega), List.drop_append, hl, hV', List.drop_of_length_le (by omega), List.nil_append, show 74 + 42 - 74 = 42 by omega, List.drop_append, hV, List.drop_of_length_le (by omega)]
  simp [List.append_assoc]
theorem world_putS (m : Nat) (V : List Value) (hV : V.length = 42) (sv sv' : Value) : (worldC m gI V sv).set 116 sv' = worldC m gI V sv' := by
  have e : ∀ X, worldC m gI V X = (pC ++ ([.map (some m)] ++ (bys gI ++ V))) ++ [X] := fun X => by unfold worldC; simp only [List.append_assoc]
  have hl : (pC ++ ([Value.map (some m)] ++ (bys gI ++ V))).length = 116 := by simp only [List.length_append, pC_len, bys_len, gI_h.1, hV]; rfl
  rw [e sv, e sv', List.set_append_right _ _ (by omega), hl]
  rfl
def NowP (G : GB) (w : World) : Prop := ∃ pg fg fc s, Gen G (vC pg (.slice (some ⟨fg, 0, none⟩) 1 fc)) (.pointer (some ⟨s, 0, none⟩)) w ∧ w.rangeAt pg 0 (bys gI) ∧ w.rangeAt fg 0 [Value.int .u64 0] ∧ EmpS w s
def TupC (v : Value) : Prop := ∃ wn, v = .tuple #[.agg colC.toArray, .map (some wn)]
structure NwS (G : GB) (pg t5 : Nat) (w : World) : Prop where
  n : Gen G v0C (.pointer none) w
  t : Arr w t5 24 (bys gI)
  p : w.rangeAt pg 0 (bys gI)
theorem NwS.below {G : GB} {pg t5 : Nat} {w w' : World} (h : NwS G pg t5 w) (hb : Below w.heap.size w w') : NwS G pg t5 w' := ⟨h.n.below hb, h.t.below hb h.t.lt, range_keep h.p gI_h hb⟩
structure NxS (G : GB) (V : List Value) (sv : Value) (t5 : Nat) (w : World) : Prop where
  n : Gen G V sv w
  t : Arr w t5 24 (bys gI)
theorem NxS.below {G : GB} {V : List Value} {sv : Value} {t5 : Nat} {w w' : World} (h : NxS G V sv t5 w) (hb : Below w.heap.size w w') : NxS G V sv t5 w' := ⟨h.n.below hb, h.t.below hb h.t.lt⟩
structure NyS (G : GB) (V : List Value) (s t9 fg fc : Nat) (w : World) : Prop where
  n : Gen G V (.pointer (some ⟨s, 0, none⟩)) w
  r : Arr w t9 62 (resC (.slice (some ⟨fg, 0, none⟩) 1 fc))
  s : EmpS w s
theorem NyS.below {G : GB} {V : List Value} {s t9 fg fc : Nat} {w w' : World} (h : NyS G V s t9 fg fc w) (hb : Below w.heap.size w w') : NyS G V s t9 fg fc w' := ⟨h.n.below hb, h.r.below hb h.r.lt, h.s.below hb⟩
theorem NyS.diff {G : GB} {V : List Value} {s t9 fg fc : Nat} {w : World} (h : NyS G V s t9 fg fc w) : w.rangeAt t9 0 [Value.slice none 0 0, .slice none 0 0] := fun j v hv => by
  rw [Nat.zero_add, h.r.cell]
  match j, hv with
  | 0, hv => exact hv
  | 1, hv => exact hv
theorem range_ne {w : World} {b g : Nat} {t : TypeId} {vs us : List Value} {x y : Value} (h : w.rangeAt b 0 vs) (ha : Arr w g t us) (hx : vs[0]? = some x) (hy : us[0]? = some y) (hne : x ≠ y) : b ≠ g := fun e => by
  subst e
  have h1 := h 0 x hx
  rw [Nat.zero_add, ha.cell, hy] at h1
  exact hne (Option.some.inj h1).symm
theorem gen_putV {G : GB} {V : List Value} {sv : Value} {w : World} (h : Gen G V sv w) (hV : V.length = 42) (us : List Value) (hu : us.length = 42) : Gen G us sv (w.setCells G.wd 74 us) := by
  have hw := h.a
  have hs := hw.sets us 74 (by rw [hu, worldC_len' G.m gI gI_h V hV]; omega)
  rw [world_putV G.m V us hV hu sv] at hs
  have hm : G.m ≠ G.wd := fun e => by
    have h0 : w.heap[G.m]? = _ := h.m
    have h4 : w.heap[G.wd]? = _ := hw
    rw [e, h4] at h0
    cases h0
  have hm0 : w.heap[G.m]? = _ := h.m
  exact ⟨hs, (setCells_other us 74 w hm).trans hm0, arr_sets h.k (arr_ne h.k hw (by decide)) us 74 w h.k, (setCells_other us 74 w (emp_ne h.p hw)).trans h.p, (setCells_other us 74 w (emp_ne h.q hw)).trans h.q, ⟨arr_sets h.s.a (arr_ne h.s.a hw (by decide)) us 74 w h.s.a, (setCells_other us 74 w (emp_ne h.s.m hw)).trans h.s.m⟩⟩
theorem gen_putS {G : GB} {V : List Value} {sv : Value} {w : World} (h : Gen G V sv w) (hV : V.length = 42) (sv' : Value) : Gen G V sv' (w.setCell ⟨G.wd, 116, none⟩ sv') := by
  have hw := h.a
  have hs := hw.set 116 sv'
  rw [world_putS G.m V hV sv sv'] at hs
  have hm : G.m ≠ G.wd := fun e => by
    have h0 : w.heap[G.m]? = _ := h.m
    have h4 : w.heap[G.wd]? = _ := hw
    rw [e, h4] at h0
    cases h0
  have hm0 : w.heap[G.m]? = _ := h.m
  have ho : ∀ j, j ≠ G.wd → (w.setCell ⟨G.wd, 116, none⟩ sv').heap[j]? = w.heap[j]? := fun j hj => heap_setCell_other w ⟨G.wd, 116, none⟩ j sv' (fun e => hj e)
  exact ⟨hs, (ho _ hm).trans hm0, (ho _ (arr_ne h.k hw (by decide))).trans h.k, (ho _ (emp_ne h.p hw)).trans h.p, (ho _ (emp_ne h.q hw)).trans h.q, ⟨(ho _ (arr_ne h.s.a hw (by decide))).trans h.s.a, (ho _ (emp_ne h.s.m hw)).trans h.s.m⟩⟩
theorem res_one (g c : Nat) : ∀ v ∈ resC (.slice (some ⟨g, 0, none⟩) 1 c), v.oneCell' = true := by
  intro v hv
  simp [resC] at hv
  rcases hv with rfl | rfl | rfl <;> rfl
theorem range_keep0 {w w' : World} {b : Nat} {v : Value} (h : w.rangeAt b 0 [v]) (hb : Below w.heap.size w w') : w'.rangeAt b 0 [v] := rangeAt_below h hb (World.block_lt_of_cell? _ _ (h 0 v rfl))
set_option maxRecDepth 100000 in
set_option maxHeartbeats 6400000 in
theorem now_one (G : GB) (n : Nat) (w : World) (hG : Gen G v0C (.pointer none) w) (hn : n ≤ G.wd) :
    Calls Tryz.prog 42 #[.pointer (some ⟨G.wd, 0, none⟩)] w fun e w' => e = .returned (.tuple #[]) ∧ NowP G w' ∧ Below n w w' := by
  have hz := zero_h
  have hzc := zero_col
  have hzr := zero_res
  have HGn := Lib.hid hG
  have HN := Lib.hid hn
  have HB := Lib.hid (Below.refl n w)
  have HZ := Lib.hid (show n ≤ w.heap.size from Nat.le_trans hn (Nat.le_of_lt hG.a.lt))
  clear hG hn
  have hc := HGn.out.all
  have hrg := range_one Tryz.underlying92 HGn.out.m
  go_enter Tryz.func42, Tryz.ntmps42
  go_wp2_with fail
  clear hrg hc
  have hb9 := (Below.refl w.heap.size w).alloc (Nat.le_refl _) (.mapIter (some G.m) 1 #[] 1)
  have HI := Lib.hid (show ItM (w.alloc (.mapIter (some G.m) 1 #[] 1)) w.heap.size G.m #[] from heap_alloc_last w _)
  have HG1 := Lib.hid (HGn.out.below hb9)
  have HB1 := Lib.hid (HB.out.trans (hb9.mono HZ.out))
  have HRl := Lib.hid HZ.out
  have HZ1 := Lib.hid (Nat.le_trans HZ.out hb9.size)
  obtain ⟨r, hr⟩ : ∃ r, w.heap.size = r := ⟨_, rfl⟩
  rw [hr] at HI HRl ⊢
  clear hb9 hr HGn HB HZ
  generalize World.alloc _ _ = w1 at *
  obtain ⟨w2, hnx, hi2, hg2⟩ := next_one HG1.out.m HI.out
  unfold hv at hnx
  have hrne : ∀ (j : Nat) (o : Obj), w1.heap[j]? = some o → (∀ a b c d, o ≠ .mapIter a b c d) → w2.heap[j]? = some o := fun j o h hne => kept_grown hg2 h (by
    intro e; have e := Option.some.inj e; subst e
    have h2 : w1.heap[j]? = _ := HI.out
    rw [h] at h2
    exact hne _ _ _ _ (Option.some.inj h2))
  have HG2 := Lib.hid (show Gen G v0C (.pointer none) w2 from ⟨hrne _ _ HG1.out.a (by intros; simp), hrne _ _ HG1.out.m (by intros; simp), hrne _ _ HG1.out.k (by intros; simp), hrne _ _ HG1.out.p (by intros; simp), hrne _ _ HG1.out.q (by intros; simp), ⟨hrne _ _ HG1.out.s.a (by intros; simp), hrne _ _ HG1.out.s.m (by intros; simp)⟩⟩)
  have HI2 := Lib.hid hi2
  have HB2 := Lib.hid (HB1.out.grown hg2 HZ1.out (fun k hk => by cases hk; exact HRl.out))
  have HZ2 := Lib.hid (show n ≤ w2.heap.size from Nat.le_trans HZ1.out hg2.size)
  have hen := entry_one HG2.out.m HI2.out
  unfold hv at hen
  clear hi2 hg2 hrne HG1 HI HB1 HZ1 HRl
  refine wp_loop_rounds 2 ?_
  rw [rounds_succ]
  go_upto_region 3 with fail
  clear hnx
  go_step
  iterate 12 (first | go_values | go_skip | go_guarded | go_step | go_upon)
  refine wpList_store_box (P := Tryz.prog) rfl 24 _ _ rfl w2 _ (bys gI) rfl rfl (by simp only [List.size_toArray, bys_len, zH_h.1, gI_h.1]) (size_h2 gI gI_h) (bys_one gI) ?_
  intro w3 ha9 hb9
  have HA2 := Lib.hid ha9.out
  have HBq := Lib.hid hb9.out
  clear ha9 hb9
  have HG3 := Lib.hid (HG2.out.below HBq.out)
  have HI3 := Lib.hid (HI2.out.below HBq.out)
  have HB3 := Lib.hid (HB2.out.trans (HBq.out.mono HZ2.out))
  have HZ3 := Lib.hid (Nat.le_trans HZ2.out HBq.out.size)
  obtain ⟨t3, ht3⟩ : ∃ t8, w2.heap.size = t8 := ⟨_, rfl⟩
  rw [ht3] at HA2 ⊢
  clear HBq HG2 HI2 HB2 HZ2 ht3 hen
  have hst : w3.cell? ⟨G.kb, 168, none⟩ = some (.int .i64 1) := HG3.out.kc (k_status _ _ _)
  go_upto_region 5 with fail
  clear hst
  have HM4 := Lib.hid HG3.out.m
  go_step
  iterate 3 (first | go_values | go_skip | go_guarded | go_step | go_upon)
  refine wpList_load_mid (P := Tryz.prog) rfl 24 _ rfl (t3) (0) rfl _ _ (HA2.out.range) Tryz.underlying24 rfl (size_h2 gI gI_h) ?_
  simp only [Act.put, List.setIfInBounds_toArray, List.set_cons_zero, List.set_cons_succ]
  refine wpList_plain rfl (fun K9 hK9 => ?_)
  refine wp_bs_run (P := Tryz.prog) 39 1 _ rfl #[(0, .agg (bys gI).toArray)] (by simp only [List.map_toArray, List.map_cons, List.map_nil]; rfl) _ (hs_build w3) (hK9 _ _ ?_)
  simp only [Act.put, List.setIfInBounds_toArray, List.set_cons_zero, List.set_cons_succ]
  clear hK9
  have hb9 := (Below.refl w3.heap.size w3).alloc (Nat.le_refl _) (.cells (bys gI).toArray 24)
  have HR5 := Lib.hid (Arr.made w3 24 (bys gI))
  have HG5 := Lib.hid (HG3.out.below hb9)
  have HB5 := Lib.hid (HB3.out.trans (hb9.mono HZ3.out))
  have HZ5 := Lib.hid (Nat.le_trans HZ3.out hb9.size)
  have HM5 := Lib.hid (HM4.out.below hb9)
  have HI5 := Lib.hid (HI3.out.below hb9)
  obtain ⟨r3, hr3⟩ : ∃ r3, w3.heap.size = r3 := ⟨_, rfl⟩
  rw [hr3] at HR5 ⊢
  clear hb9 hr3 HG3 HB3 HZ3 HM4 HI3
  generalize World.alloc _ _ = w5 at *
  have HO := Lib.hid (show w5.ownsRow w5.heap.size 24 32 (.slice none 0 0) 0 [] from ⟨by simp, .inl ⟨rfl, rfl⟩⟩)
  obtain ⟨i0, hi, hzz⟩ := Option.map_eq_some_iff.1 (show (Tryz.prog.info? 24).map (fun i => (i.zero, i.size, i.bytes)) = some (some (.agg (bys zH).toArray), 32, 32) by kernel_rfl)
  simp only [Prod.mk.injEq] at hzz
  obtain ⟨hz0, hz1, hz2⟩ := hzz
  have HI0 := Lib.hid (And.intro hi (And.intro hz0 (And.intro hz1 hz2)))
  clear hi hz0 hz1 hz2
  refine wpList_append_own w5 rfl (.tmp 26) (.tmp 28) 39 rfl w5.heap.size 24 i0 (.agg (bys zH).toArray) 32 32 Tryz.underlying39 HI0.out.1 HI0.out.2.1 HI0.out.2.2.1 HI0.out.2.2.2 (by kernel_rfl) (by omega) (.slice none 0 0) 0 [] rfl HO.out ⟨r3, 0, none⟩ 1 1 (bys gI) rfl (by rw [bys_len, gI_h.1]) (fun j u hu => by rw [add_nospot']; exact HR5.out.range j u hu) (bys_one gI) (by unfold maxLen; omega) (by omega) (Nat.le_refl _) ?_
  intro v6 w6 ho6 hg6 _
  obtain ⟨bg, bc, rfl, p1, p2, p3, p4, p5⟩ := own_one ho6
  have hbb : Below w5.heap.size w5 w6 := (Below.refl _ _).grown hg6 (Nat.le_refl _) (fun k hk => by cases hk)
  have HR6 := Lib.hid (show w6.rangeAt bg 0 (bys gI) from p5)
  have HG6 := Lib.hid (HG5.out.below hbb)
  have HB6 := Lib.hid (HB5.out.trans (hbb.mono HZ5.out))
  have HZ6 := Lib.hid (Nat.le_trans HZ5.out hbb.size)
  have HM6 := Lib.hid (HM5.out.below hbb)
  have HI6 := Lib.hid (HI5.out.below hbb)
  clear ho6 hg6 p1 p2 p3 p4 p5 hbb HG5 HB5 HZ5 HM5 HI5 HO HI0 HR5 HA2
  have hno := next_over HM6.out HI6.out
  go_wp2
  rw [rounds_succ]
  go_upto_region 6 with fail
  clear hno HM6 HI6
  have HC := Lib.hid (best_one bg 0 bc G.wd gI gI_h w6 HR6.out)
  go_wp2_with fail
  with_reducible refine HC.out.mono ?_
  rintro e w7 ⟨rfl, hb9⟩
  dsimp only
  have HG7 := Lib.hid (HG6.out.below hb9)
  have HB7 := Lib.hid (HB6.out.trans (hb9.mono HZ6.out))
  have HZ7 := Lib.hid (Nat.le_trans HZ6.out hb9.size)
  clear hb9 HC HR6 HG6 HB6 HZ6
  iterate 4 (first | go_values | go_skip | go_guarded | go_step | go_upon)
  refine wpList_store_box (P := Tryz.prog) rfl 24 _ _ rfl w7 _ (bys gI) rfl rfl (by simp only [List.size_toArray, bys_len, zH_h.1, gI_h.1]) (size_h2 gI gI_h) (bys_one gI) ?_
  intro w8 ha9 hb9
  have HA2 := Lib.hid ha9.out
  have HBq := Lib.hid hb9.out
  clear ha9 hb9
  have HG8 := Lib.hid (HG7.out.below HBq.out)
  have HB8 := Lib.hid (HB7.out.trans (HBq.out.mono HZ7.out))
  have HZ8 := Lib.hid (Nat.le_trans HZ7.out HBq.out.size)
  obtain ⟨t5, ht5⟩ : ∃ t8, w7.heap.size = t8 := ⟨_, rfl⟩
  rw [ht5] at HA2 ⊢
  clear HBq HG7 HB7 HZ7 ht5
  go_upto_region 7 with fail
  go_step
  iterate 3 (first | go_values | go_skip | go_guarded | go_step | go_upon)
  refine wpList_load_mid (P := Tryz.prog) rfl 24 _ rfl (t5) (0) rfl _ _ (HA2.out.range) Tryz.underlying24 rfl (size_h2 gI gI_h) ?_
  simp only [Act.put, List.setIfInBounds_toArray, List.set_cons_zero, List.set_cons_succ]
  have HC := Lib.hid (chosen_one G v0C (.pointer none) w8 HG8.out)
  go_wp2_with fail
  with_reducible refine HC.out.mono ?_
  rintro e w9 ⟨pg, rfl, hp9, hb9⟩
  dsimp only
  have HP9 := Lib.hid hp9
  have HG9 := Lib.hid (HG8.out.below hb9)
  have HA9 := Lib.hid (HA2.out.below hb9 HA2.out.lt)
  have HB9 := Lib.hid (HB8.out.trans (hb9.mono HZ8.out))
  have HZ9 := Lib.hid (Nat.le_trans HZ8.out hb9.size)
  clear hp9 hb9 HC HG8 HA2 HB8 HZ8
  go_upto_region 8 with fail
  have HS0 := Lib.hid (show NwS G pg t5 w9.drew from NwS.below ⟨HG9.out, HA9.out, HP9.out⟩ (Below.refl _ _).drew)
  have HB := Lib.hid HB9.out.drew
  have HZ := Lib.hid (show n ≤ w9.drew.heap.size from HZ9.out)
  clear HG9 HA9 HP9 HB9 HZ9
  refine wp_region_U (NwS G pg t5) 10 (by kernel_rfl) ?_
  generalize World.drew _ = w10 at *
  simp only [List.size_toArray, List.length_cons, List.length_nil, Nat.reduceAdd, Array.replicate_succ, Array.replicate_zero, List.push_toArray, List.nil_append, List.cons_append]
  refine wpAnyU_take (i := 0) (oi := ⟨some 37, _, _, _, _, _⟩) (v := .pointer (some ⟨G.wd, 0, none⟩)) rfl (by kernel_rfl) (by kernel_rfl) (by kernel_rfl) (by kernel_rfl) (by kernel_rfl) (fun _ _ _ h => h) (Or.inl ⟨by rfl, ?_⟩) HS0.out ?_
  · intro w hSw
    go_simp <;> with_reducible rfl
  dsimp only [Act.put]
  simp only [List.setIfInBounds_toArray, List.set_cons_zero, List.set_cons_succ]
  refine wpAnyU_take (i := 1) (oi := ⟨some 38, _, _, _, _, _⟩) rfl (by kernel_rfl) (by kernel_rfl) (by kernel_rfl) (by kernel_rfl) (by kernel_rfl) (fun _ _ _ h => h) (yieldsIf_load_mid (by rfl) 24 (.tmp 5) rfl (t5) (0) rfl (bys gI) _ (fun w h => h.t.range) Tryz.underlying24 rfl (size_h2 gI gI_h)) HS0.out ?_
  dsimp only [Act.put]
  simp only [List.setIfInBounds_toArray, List.set_cons_zero, List.set_cons_succ]
  refine wpAnyU_take (i := 2) (oi := ⟨some 39, _, _, _, _, _⟩) (v := .pointer (some ⟨G.wd, 0, none⟩)) rfl (by kernel_rfl) (by kernel_rfl) (by kernel_rfl) (by kernel_rfl) (by kernel_rfl) (fun _ _ _ h => h) (Or.inl ⟨by rfl, ?_⟩) HS0.out ?_
  · intro w hSw
    go_simp <;> with_reducible rfl
  dsimp only [Act.put]
  simp only [List.setIfInBounds_toArray, List.set_cons_zero, List.set_cons_succ]
  refine wpAnyU_take (i := 3) (oi := ⟨some 40, _, _, _, _, _⟩) (v := .slice (some ⟨pg, 0, none⟩) 1 1) rfl (by kernel_rfl) (by kernel_rfl) (by kernel_rfl) (by kernel_rfl) (by kernel_rfl) (fun _ _ _ h => h) (Or.inl ⟨by rfl, ?_⟩) HS0.out ?_
  · intro w hSw
    go_simp <;> with_reducible rfl
  dsimp only [Act.put]
  simp only [List.setIfInBounds_toArray, List.set_cons_zero, List.set_cons_succ]
  refine wpAnyU_two (i := 4) (oi := ⟨some 41, _, _, _, _, _⟩) (j := 9) (oj := ⟨some 7, _, _, _, _, _⟩) (by kernel_rfl) rfl rfl rfl rfl (fun K9 hK9 => ?_) (fun K9 hK9 => ?_)
  have HK9 := Lib.hid hK9
  clear hK9
  go_simp
  with_reducible refine (past_one G v0C (.pointer none) pg 0 1 w10 HS0.out.n HS0.out.p).mono ?_
  rintro e w11 ⟨pm, rfl, _, hm, hb9⟩
  dsimp only
  have HS1 := Lib.hid (HS0.out.below hb9)
  have HB1 := Lib.hid (HB.out.trans (hb9.mono HZ.out))
  have HZ1 := Lib.hid (Nat.le_trans HZ.out hb9.size)
  have HM := Lib.hid hm
  clear hm
  clear HS0 HB HZ hb9
  have HS0 := HS1
  have HB := HB1
  have HZ := HZ1
  clear HS1 HB1 HZ1
  refine HK9.out _ _ (fun _ _ => HS0.out) ?_
  clear HK9
  simp only [List.setIfInBounds_toArray, List.set_cons_zero, List.set_cons_succ]
  refine wpAnyU_two (i := 5) (oi := ⟨some 42, _, _, _, _, _⟩) (j := 9) (oj := ⟨some 7, _, _, _, _, _⟩) (by kernel_rfl) rfl rfl rfl rfl (fun K9 hK9 => ?_) (fun K9 hK9 => ?_)
  have HK9 := Lib.hid hK9
  clear hK9
  go_simp
  with_reducible refine (colour_one G v0C (.pointer none) pm w11 HS0.out.n HM.out).mono ?_
  rintro e w12 ⟨wn, rfl, _, hb9⟩
  dsimp only
  have HS1 := Lib.hid (HS0.out.below hb9)
  have HB1 := Lib.hid (HB.out.trans (hb9.mono HZ.out))
  have HZ1 := Lib.hid (Nat.le_trans HZ.out hb9.size)
  clear HM
  clear HS0 HB HZ hb9
  have HS0 := HS1
  have HB := HB1
  have HZ := HZ1
  clear HS1 HB1 HZ1
  refine HK9.out _ _ (fun _ _ => HS0.out) ?_
  clear HK9
  simp only [List.setIfInBounds_toArray, List.set_cons_zero, List.set_cons_succ]
  refine wpAnyU_take (i := 6) (oi := ⟨some 36, _, _, _, _, _⟩) (v := .tuple #[.agg colC.toArray, .map (some wn)]) rfl (by kernel_rfl) (by kernel_rfl) (by kernel_rfl) (by kernel_rfl) (by kernel_rfl) (fun _ _ _ h => h) (Or.inl ⟨by rfl, ?_⟩) HS0.out ?_
  · intro w hSw
    go_simp <;> with_reducible rfl
  dsimp only [Act.put]
  simp only [List.setIfInBounds_toArray, List.set_cons_zero, List.set_cons_succ]
  refine wpAnyU_take (i := 7) (oi := ⟨some 43, _, _, _, _, _⟩) (v := .agg colC.toArray) rfl (by kernel_rfl) (by kernel_rfl) (by kernel_rfl) (by kernel_rfl) (by kernel_rfl) (fun _ _ _ h => h) (Or.inl ⟨by rfl, ?_⟩) HS0.out ?_
  · intro w hSw
    go_simp <;> with_reducible rfl
  dsimp only [Act.put]
  simp only [List.setIfInBounds_toArray, List.set_cons_zero, List.set_cons_succ]
  refine wpAnyU_take0 (i := 8) (oi := ⟨some 44, _, _, _, _, _⟩) (v := .map (some wn)) rfl (by kernel_rfl) (by kernel_rfl) (by kernel_rfl) (by decide) (fun _ _ _ h => h) (Or.inl ⟨by rfl, ?_⟩) (fun _ => HS0.out) ?_
  · intro w hSw
    go_simp <;> with_reducible rfl
  dsimp only [Act.put]
  simp only [List.setIfInBounds_toArray, List.set_cons_zero, List.set_cons_succ]
  refine wpAnyU_one (i := 9) (oi := ⟨some 7, _, _, _, _, _⟩) (by kernel_rfl) rfl rfl (fun K9 hK9 => ?_)
  have HK9 := Lib.hid hK9
  clear hK9
  have hb9 := (Below.refl w12.heap.size w12).alloc (Nat.le_refl _) (.cells zC.toArray 46)
  have HA := Lib.hid (Arr.made w12 46 zC)
  have HTn := Lib.hid HZ.out
  have HPn := Lib.hid (show pg ≠ w12.heap.size from Nat.ne_of_lt (range_lt HS0.out.p gI_h))
  go_simp
  obtain ⟨t7, ht7⟩ : ∃ b, w12.heap.size = b := ⟨_, rfl⟩
  have HS1 := Lib.hid (HS0.out.below hb9)
  have HB1 := Lib.hid (HB.out.trans (hb9.mono HZ.out))
  have HZ1 := Lib.hid (Nat.le_trans HZ.out hb9.size)
  clear HS0 HB HZ hb9
  have HS0 := HS1
  have HB := HB1
  have HZ := HZ1
  clear HS1 HB1 HZ1
  rw [ht7] at HA HTn HPn ⊢
  clear ht7
  generalize World.alloc _ _ = w13 at *
  refine HK9.out _ _ (fun _ _ => HS0.out) ?_
  clear HK9
  simp only [List.setIfInBounds_toArray, List.set_cons_zero, List.set_cons_succ]
  rotate_left
  have HK9 := Lib.hid hK9
  clear hK9
  have hb9 := (Below.refl w11.heap.size w11).alloc (Nat.le_refl _) (.cells zC.toArray 46)
  have HA := Lib.hid (Arr.made w11 46 zC)
  have HTn := Lib.hid HZ.out
  have HPn := Lib.hid (show pg ≠ w11.heap.size from Nat.ne_of_lt (range_lt HS0.out.p gI_h))
  go_simp
  obtain ⟨t7, ht7⟩ : ∃ b, w11.heap.size = b := ⟨_, rfl⟩
  have HS1 := Lib.hid (HS0.out.below hb9)
  have HB1 := Lib.hid (HB.out.trans (hb9.mono HZ.out))
  have HZ1 := Lib.hid (Nat.le_trans HZ.out hb9.size)
  have HM1 := Lib.hid (HM.out.below hb9)
  clear HM
  have HM := HM1
  clear HM1
  clear HS0 HB HZ hb9
  have HS0 := HS1
  have HB := HB1
  have HZ := HZ1
  clear HS1 HB1 HZ1
  rw [ht7] at HA HTn HPn ⊢
  clear ht7
  generalize World.alloc _ _ = w12 at *
  refine HK9.out _ _ (fun _ _ => HS0.out) ?_
  clear HK9
  simp only [List.setIfInBounds_toArray, List.set_cons_zero, List.set_cons_succ]
  refine wpAnyU_one (i := 5) (oi := ⟨some 42, _, _, _, _, _⟩) (by kernel_rfl) rfl rfl (fun K9 hK9 => ?_)
  have HK9 := Lib.hid hK9
  clear hK9
  go_simp
  with_reducible refine (colour_one G v0C (.pointer none) pm w12 HS0.out.n HM.out).mono ?_
  rintro e w13 ⟨wn, rfl, _, hb9⟩
  dsimp only
  have HS1 := Lib.hid (HS0.out.below hb9)
  have HB1 := Lib.hid (HB.out.trans (hb9.mono HZ.out))
  have HZ1 := Lib.hid (Nat.le_trans HZ.out hb9.size)
  have HA1 := Lib.hid (HA.out.below hb9 HA.out.lt)
  clear HA
  have HA := HA1
  clear HA1
  clear HM
  clear HS0 HB HZ hb9
  have HS0 := HS1
  have HB := HB1
  have HZ := HZ1
  clear HS1 HB1 HZ1
  refine HK9.out _ _ (fun _ _ => HS0.out) ?_
  clear HK9
  simp only [List.setIfInBounds_toArray, List.set_cons_zero, List.set_cons_succ]
  refine wpAnyU_take (i := 6) (oi := ⟨some 36, _, _, _, _, _⟩) (v := .tuple #[.agg colC.toArray, .map (some wn)]) rfl (by kernel_rfl) (by kernel_rfl) (by kernel_rfl) (by kernel_rfl) (by kernel_rfl) (fun _ _ _ h => h) (Or.inl ⟨by rfl, ?_⟩) HS0.out ?_
  · intro w hSw
    go_simp <;> with_reducible rfl
  dsimp only [Act.put]
  simp only [List.setIfInBounds_toArray, List.set_cons_zero, List.set_cons_succ]
  refine wpAnyU_take (i := 7) (oi := ⟨some 43, _, _, _, _, _⟩) (v := .agg colC.toArray) rfl (by kernel_rfl) (by kernel_rfl) (by kernel_rfl) (by kernel_rfl) (by kernel_rfl) (fun _ _ _ h => h) (Or.inl ⟨by rfl, ?_⟩) HS0.out ?_
  · intro w hSw
    go_simp <;> with_reducible rfl
  dsimp only [Act.put]
  simp only [List.setIfInBounds_toArray, List.set_cons_zero, List.set_cons_succ]
  refine wpAnyU_take0 (i := 8) (oi := ⟨some 44, _, _, _, _, _⟩) (v := .map (some wn)) rfl (by kernel_rfl) (by kernel_rfl) (by kernel_rfl) (by decide) (fun _ _ _ h => h) (Or.inl ⟨by rfl, ?_⟩) (fun _ => HS0.out) ?_
  · intro w hSw
    go_simp <;> with_reducible rfl
  dsimp only [Act.put]
  simp only [List.setIfInBounds_toArray, List.set_cons_zero, List.set_cons_succ]
  rotate_left
  have HK9 := Lib.hid hK9
  clear hK9
  have hb9 := (Below.refl w10.heap.size w10).alloc (Nat.le_refl _) (.cells zC.toArray 46)
  have HA := Lib.hid (Arr.made w10 46 zC)
  have HTn := Lib.hid HZ.out
  have HPn := Lib.hid (show pg ≠ w10.heap.size from Nat.ne_of_lt (range_lt HS0.out.p gI_h))
  go_simp
  obtain ⟨t7, ht7⟩ : ∃ b, w10.heap.size = b := ⟨_, rfl⟩
  have HS1 := Lib.hid (HS0.out.below hb9)
  have HB1 := Lib.hid (HB.out.trans (hb9.mono HZ.out))
  have HZ1 := Lib.hid (Nat.le_trans HZ.out hb9.size)
  clear HS0 HB HZ hb9
  have HS0 := HS1
  have HB := HB1
  have HZ := HZ1
  clear HS1 HB1 HZ1
  rw [ht7] at HA HTn HPn ⊢
  clear ht7
  generalize World.alloc _ _ = w11 at *
  refine HK9.out _ _ (fun _ _ => HS0.out) ?_
  clear HK9
  simp only [List.setIfInBounds_toArray, List.set_cons_zero, List.set_cons_succ]
  refine wpAnyU_one (i := 4) (oi := ⟨some 41, _, _, _, _, _⟩) (by kernel_rfl) rfl rfl (fun K9 hK9 => ?_)
  have HK9 := Lib.hid hK9
  clear hK9
  go_simp
  with_reducible refine (past_one G v0C (.pointer none) pg 0 1 w11 HS0.out.n HS0.out.p).mono ?_
  rintro e w12 ⟨pm, rfl, _, hm, hb9⟩
  dsimp only
  have HS1 := Lib.hid (HS0.out.below hb9)
  have HB1 := Lib.hid (HB.out.trans (hb9.mono HZ.out))
  have HZ1 := Lib.hid (Nat.le_trans HZ.out hb9.size)
  have HM := Lib.hid hm
  clear hm
  have HA1 := Lib.hid (HA.out.below hb9 HA.out.lt)
  clear HA
  have HA := HA1
  clear HA1
  clear HS0 HB HZ hb9
  have HS0 := HS1
  have HB := HB1
  have HZ := HZ1
  clear HS1 HB1 HZ1
  refine HK9.out _ _ (fun _ _ => HS0.out) ?_
  clear HK9
  simp only [List.setIfInBounds_toArray, List.set_cons_zero, List.set_cons_succ]
  refine wpAnyU_one (i := 5) (oi := ⟨some 42, _, _, _, _, _⟩) (by kernel_rfl) rfl rfl (fun K9 hK9 => ?_)
  have HK9 := Lib.hid hK9
  clear hK9
  go_simp
  with_reducible refine (colour_one G v0C (.pointer none) pm w12 HS0.out.n HM.out).mono ?_
  rintro e w13 ⟨wn, rfl, _, hb9⟩
  dsimp only
  have HS1 := Lib.hid (HS0.out.below hb9)
  have HB1 := Lib.hid (HB.out.trans (hb9.mono HZ.out))
  have HZ1 := Lib.hid (Nat.le_trans HZ.out hb9.size)
  have HA1 := Lib.hid (HA.out.below hb9 HA.out.lt)
  clear HA
  have HA := HA1
  clear HA1
  clear HM
  clear HS0 HB HZ hb9
  have HS0 := HS1
  have HB := HB1
  have HZ := HZ1
  clear HS1 HB1 HZ1
  refine HK9.out _ _ (fun _ _ => HS0.out) ?_
  clear HK9
  simp only [List.setIfInBounds_toArray, List.set_cons_zero, List.set_cons_succ]
  refine wpAnyU_take (i := 6) (oi := ⟨some 36, _, _, _, _, _⟩) (v := .tuple #[.agg colC.toArray, .map (some wn)]) rfl (by kernel_rfl) (by kernel_rfl) (by kernel_rfl) (by kernel_rfl) (by kernel_rfl) (fun _ _ _ h => h) (Or.inl ⟨by rfl, ?_⟩) HS0.out ?_
  · intro w hSw
    go_simp <;> with_reducible rfl
  dsimp only [Act.put]
  simp only [List.setIfInBounds_toArray, List.set_cons_zero, List.set_cons_succ]
  refine wpAnyU_take (i := 7) (oi := ⟨some 43, _, _, _, _, _⟩) (v := .agg colC.toArray) rfl (by kernel_rfl) (by kernel_rfl) (by kernel_rfl) (by kernel_rfl) (by kernel_rfl) (fun _ _ _ h => h) (Or.inl ⟨by rfl, ?_⟩) HS0.out ?_
  · intro w hSw
    go_simp <;> with_reducible rfl
  dsimp only [Act.put]
  simp only [List.setIfInBounds_toArray, List.set_cons_zero, List.set_cons_succ]
  refine wpAnyU_take0 (i := 8) (oi := ⟨some 44, _, _, _, _, _⟩) (v := .map (some wn)) rfl (by kernel_rfl) (by kernel_rfl) (by kernel_rfl) (by decide) (fun _ _ _ h => h) (Or.inl ⟨by rfl, ?_⟩) (fun _ => HS0.out) ?_
  · intro w hSw
    go_simp <;> with_reducible rfl
  dsimp only [Act.put]
  simp only [List.setIfInBounds_toArray, List.set_cons_zero, List.set_cons_succ]
  all_goals
    have hbs := below_sets t7 HTn.out colC 0 HB.out
    have HS1 := Lib.hid (And.intro (gen_set HS0.out.n HA.out (by decide) (by decide) (by decide) colC 0) (And.intro (show Arr (w13.setCells t7 0 colC) t5 _ _ from arr_sets HS0.out.t (arr_ne HS0.out.t HA.out (by decide)) colC 0 w13 HS0.out.t) (show World.rangeAt (w13.setCells t7 0 colC) pg 0 (bys gI) from range_sets HPn.out colC 0 w13 HS0.out.p)))
    have HA1 := Lib.hid (HA.out.setAll colC (by rw [colC_len, zC_len]))
    have HB1 := Lib.hid hbs
    have HZ1 := Lib.hid (show n ≤ (w13.setCells t7 0 colC).heap.size from Nat.le_trans HTn.out (Nat.le_of_lt HA1.out.lt))
    have HT1 := Lib.hid (HA.out.there colC.toArray.size (by rw [List.size_toArray, colC_len, zC_len]))
    clear hbs HA HS0 HB HZ HPn
    refine wpAnyU_one (i := 10) (oi := ⟨none, _, _, _, _, _⟩) (by kernel_rfl) rfl rfl (fun K9 hK9 => ?_)
    have HK9 := Lib.hid hK9
    clear hK9
    refine wp_store_mid (P := Tryz.prog) 46 (.tmp 7) (.tmp 43) rfl t7 0 colC.toArray rfl rfl HT1.out (by rw [List.size_toArray]; exact col_size) (all_oneCell_toArray colC_one) ?_
    rw [show colC.toArray.toList = colC from rfl]
    generalize World.setCells _ _ _ _ = w14 at *
    dsimp only [Act.put]
    refine HK9.out _ _ (fun h _ => absurd rfl h) ?_
    clear HK9 HT1
    refine wpAnyU_take0 (i := 11) (oi := ⟨some 8, _, _, _, _, _⟩) (v := .map (some wn)) rfl (by kernel_rfl) (by kernel_rfl) (by kernel_rfl) (by decide) (fun _ _ _ h => h) (Or.inl ⟨by rfl, ?_⟩) (fun h => absurd h (by decide)) ?_
    · intro w hSw
      go_simp <;> with_reducible rfl
    dsimp only [Act.put]
    simp only [List.setIfInBounds_toArray, List.set_cons_zero, List.set_cons_succ]
    refine wpAnyU_done (by kernel_rfl) ?_ _
    go_upto_region 9 with fail
    go_step
    iterate 3 (first | go_values | go_skip | go_guarded | go_step | go_upon)
    refine wpList_load_mid (P := Tryz.prog) rfl 46 _ rfl (t7) (0) rfl _ _ (HA1.out.range) Tryz.underlying46 rfl (col_size) ?_
    simp only [Act.put, List.setIfInBounds_toArray, List.set_cons_zero, List.set_cons_succ]
    have HC := Lib.hid (accepts_one G v0C (.pointer none) w14 HS1.out.1)
    go_wp2_with fail
    with_reducible refine HC.out.mono ?_
    rintro e w15 ⟨fg, fc, rfl, hf, hb9⟩
    dsimp only
    have HF := Lib.hid hf
    have HS2 := Lib.hid (show NwS G pg t5 w15 from NwS.below ⟨HS1.out.1, HS1.out.2.1, HS1.out.2.2⟩ hb9)
    have HA2 := Lib.hid (HA1.out.below hb9 HA1.out.lt)
    have HB2 := Lib.hid (HB1.out.trans (hb9.mono HZ1.out))
    have HZ2 := Lib.hid (Nat.le_trans HZ1.out hb9.size)
    clear hf hb9 HC HS1 HA1 HB1 HZ1
    iterate 13 (first | go_values | go_skip | go_guarded | go_step | go_upon)
    refine wpList_store_box (P := Tryz.prog) rfl 62 _ _ rfl w15 _ (resC (.slice (some ⟨fg, 0, none⟩) 1 fc)) rfl rfl (rfl) (by kernel_rfl) (res_one fg fc) ?_
    intro w16 ha9 hb9
    have HR3 := Lib.hid ha9.out
    have HBq := Lib.hid hb9.out
    clear ha9 hb9
    have HF3 := Lib.hid (range_keep0 HF.out HBq.out)
    have HS3 := Lib.hid (HS2.out.below HBq.out)
    have HA3 := Lib.hid (HA2.out.below HBq.out HA2.out.lt)
    have HB3 := Lib.hid (HB2.out.trans (HBq.out.mono HZ2.out))
    have HZ3 := Lib.hid (Nat.le_trans HZ2.out HBq.out.size)
    obtain ⟨t9, ht9⟩ : ∃ b, w15.heap.size = b := ⟨_, rfl⟩
    rw [ht9] at HR3 ⊢
    clear HBq ht9 HF HS2 HA2 HB2 HZ2
    have hc1 : w16.cell? ⟨t7, 32, none⟩ = some (.int .u64 1) := by rw [HA3.out.cell]; exact c_score
    have hc2 : w16.cell? ⟨t7, 33, none⟩ = some (.slice none 0 0) := by rw [HA3.out.cell]; exact c_merge
    have hc3 : w16.cell? ⟨t7, 34, none⟩ = some (.slice none 0 0) := by rw [HA3.out.cell]; exact c_blues
    go_upto_region 14 with fail
    go_step
    iterate 3 (first | go_values | go_skip | go_guarded | go_step | go_upon)
    refine wpList_load_mid (P := Tryz.prog) rfl 24 _ rfl (t5) (0) rfl _ _ (HS3.out.t.range) Tryz.underlying24 rfl (size_h2 gI gI_h) ?_
    simp only [Act.put, List.setIfInBounds_toArray, List.set_cons_zero, List.set_cons_succ]
    iterate 21 (first | go_values | go_skip | go_guarded | go_step | go_upon)
    refine wpList_load_mid (P := Tryz.prog) rfl 62 _ rfl (t9) (0) rfl _ _ (HR3.out.range) Tryz.underlying62 rfl (by kernel_rfl) ?_
    simp only [Act.put, List.setIfInBounds_toArray, List.set_cons_zero, List.set_cons_succ]
    clear hc1 hc2 hc3
    refine wpList_plain rfl (fun K9 hK9 => ?_)
    refine wp_build_run (P := Tryz.prog) 82 _ rfl #[(0, .agg (bys gI).toArray), (1, .slice (some ⟨pg, 0, none⟩) 1 1), (2, .int .u64 1), (3, .slice none 0 0), (4, .slice none 0 0), (5, .agg (resC (.slice (some ⟨fg, 0, none⟩) 1 fc)).toArray)] (by simp only [List.map_toArray, List.map_cons, List.map_nil]; rfl) _ (v_build pg (.slice (some ⟨fg, 0, none⟩) 1 fc) rfl w16) (hK9 _ _ ?_)
    simp only [Act.put, List.setIfInBounds_toArray, List.set_cons_zero, List.set_cons_succ]
    clear hK9
    iterate 6 (first | go_values | go_skip | go_guarded | go_step | go_upon)
    have hv := vC_len pg (.slice (some ⟨fg, 0, none⟩) 1 fc)
    refine wpList_store_mid (P := Tryz.prog) rfl 82 _ _ rfl G.wd 74 (vC pg (.slice (some ⟨fg, 0, none⟩) 1 fc)).toArray rfl rfl (there_at HS3.out.n.a 74 _ (by rw [List.size_toArray, hv, worldC_len' G.m gI gI_h v0C v0C_len]; omega)) (by rw [List.size_toArray, hv]; kernel_rfl) (all_oneCell_toArray (vC_one pg fg fc)) ?_
    rw [show (vC pg (.slice (some ⟨fg, 0, none⟩) 1 fc)).toArray.toList = vC pg (.slice (some ⟨fg, 0, none⟩) 1 fc) from rfl]
    have hnp : pg ≠ G.wd := range_ne HS3.out.p HS3.out.n.a (by show (bys gI)[0]? = some (.int .u8 (gI[0]'(by rw [gI_h.1]; omega) : Nat)); simp [bys, gI_h.1]) (w_p _ _ _ _ 0 _ rfl) (by simp)
    have hnf : fg ≠ G.wd := range_ne HF3.out HS3.out.n.a rfl (w_p _ _ _ _ 0 _ rfl) (by simp)
    have HG4 := Lib.hid (gen_putV HS3.out.n v0C_len _ hv)
    have HT4 := Lib.hid (show Arr (w16.setCells G.wd 74 (vC pg (.slice (some ⟨fg, 0, none⟩) 1 fc))) t5 _ _ from arr_sets HS3.out.t (arr_ne HS3.out.t HS3.out.n.a (by decide)) _ 74 w16 HS3.out.t)
    have HP4 := Lib.hid (show World.rangeAt (w16.setCells G.wd 74 (vC pg (.slice (some ⟨fg, 0, none⟩) 1 fc))) pg 0 (bys gI) from range_sets hnp _ 74 w16 HS3.out.p)
    have HF4 := Lib.hid (show World.rangeAt (w16.setCells G.wd 74 (vC pg (.slice (some ⟨fg, 0, none⟩) 1 fc))) fg 0 [Value.int .u64 0] from range_sets hnf _ 74 w16 HF3.out)
    have HR4 := Lib.hid (show Arr (w16.setCells G.wd 74 (vC pg (.slice (some ⟨fg, 0, none⟩) 1 fc))) t9 _ _ from arr_sets HR3.out (arr_ne HR3.out HS3.out.n.a (by decide)) _ 74 w16 HR3.out)
    have HB4 := Lib.hid (below_sets G.wd HN.out (vC pg (.slice (some ⟨fg, 0, none⟩) 1 fc)) 74 HB3.out)
    have HZ4 := Lib.hid (show n ≤ (w16.setCells G.wd 74 (vC pg (.slice (some ⟨fg, 0, none⟩) 1 fc))).heap.size from Nat.le_trans HN.out (Nat.le_of_lt HG4.out.a.lt))
    clear hnp hnf HS3 HA3 HR3 HF3 HB3 HZ3
    have HV := Lib.hid hv
    clear hv
    generalize World.setCells _ _ _ _ = w17 at *
    obtain ⟨V, hV⟩ : ∃ V, vC pg (.slice (some ⟨fg, 0, none⟩) 1 fc) = V := ⟨_, rfl⟩
    rw [hV] at HG4 HV
    have HVe := Lib.hid hV
    clear hV
    go_upto_region 15 with fail
    have HS0 := Lib.hid (show NxS G V (.pointer none) t5 w17.drew from NxS.below ⟨HG4.out, HT4.out⟩ (Below.refl _ _).drew)
    have HP5 := Lib.hid (show World.rangeAt w17.drew pg 0 (bys gI) from HP4.out)
    have HF5 := Lib.hid (show World.rangeAt w17.drew fg 0 [Value.int .u64 0] from HF4.out)
    have HR5 := Lib.hid (show Arr w17.drew t9 _ _ from HR4.out)
    have HB := Lib.hid HB4.out.drew
    have HZ := Lib.hid (show n ≤ w17.drew.heap.size from HZ4.out)
    clear HG4 HT4 HP4 HF4 HR4 HB4 HZ4
    refine wp_region_U (NxS G V (.pointer none) t5) 13 (by kernel_rfl) ?_
    generalize World.drew _ = w18 at *
    simp only [List.size_toArray, List.length_cons, List.length_nil, Nat.reduceAdd, Array.replicate_succ, Array.replicate_zero, List.push_toArray, List.nil_append, List.cons_append]
    refine wpAnyU_take (i := 0) (oi := ⟨some 83, _, _, _, _, _⟩) (v := .pointer (some ⟨G.wd, 0, none⟩)) rfl (by kernel_rfl) (by kernel_rfl) (by kernel_rfl) (by kernel_rfl) (by kernel_rfl) (fun _ _ _ h => h) (Or.inl ⟨by rfl, ?_⟩) HS0.out ?_
    · intro w hSw
      go_simp <;> with_reducible rfl
    dsimp only [Act.put]
    simp only [List.setIfInBounds_toArray, List.set_cons_zero, List.set_cons_succ]
    refine wpAnyU_take (i := 1) (oi := ⟨some 84, _, _, _, _, _⟩) (v := .pointer (some ⟨G.wd, 0, none⟩)) rfl (by kernel_rfl) (by kernel_rfl) (by kernel_rfl) (by kernel_rfl) (by kernel_rfl) (fun _ _ _ h => h) (Or.inl ⟨by rfl, ?_⟩) HS0.out ?_
    · intro w hSw
      go_simp <;> with_reducible rfl
    dsimp only [Act.put]
    simp only [List.setIfInBounds_toArray, List.set_cons_zero, List.set_cons_succ]
    refine wpAnyU_take (i := 2) (oi := ⟨some 85, _, _, _, _, _⟩) (v := .pointer (some ⟨G.wd, 0, none⟩)) rfl (by kernel_rfl) (by kernel_rfl) (by kernel_rfl) (by kernel_rfl) (by kernel_rfl) (fun _ _ _ h => h) (Or.inl ⟨by rfl, ?_⟩) HS0.out ?_
    · intro w hSw
      go_simp <;> with_reducible rfl
    dsimp only [Act.put]
    simp only [List.setIfInBounds_toArray, List.set_cons_zero, List.set_cons_succ]
    refine wpAnyU_take (i := 3) (oi := ⟨some 86, _, _, _, _, _⟩) (v := .pointer (some ⟨G.wd, 41, none⟩)) rfl (by kernel_rfl) (by kernel_rfl) (by kernel_rfl) (by kernel_rfl) (by kernel_rfl) (fun _ _ _ h => h) (Or.inl ⟨by rfl, ?_⟩) HS0.out ?_
    · intro w hSw
      go_simp <;> with_reducible rfl
    dsimp only [Act.put]
    simp only [List.setIfInBounds_toArray, List.set_cons_zero, List.set_cons_succ]
    refine wpAnyU_take (i := 4) (oi := ⟨some 87, _, _, _, _, _⟩) (v := .map (some G.m)) rfl (by kernel_rfl) (by kernel_rfl) (by kernel_rfl) (by kernel_rfl) (by kernel_rfl) (fun _ _ _ h => h) (Or.inl ⟨by rfl, ?_⟩) HS0.out ?_
    · intro w hSw
      have hq := hSw.n.all
      go_simp <;> with_reducible rfl
    dsimp only [Act.put]
    simp only [List.setIfInBounds_toArray, List.set_cons_zero, List.set_cons_succ]
    refine wpAnyU_take (i := 5) (oi := ⟨some 88, _, _, _, _, _⟩) rfl (by kernel_rfl) (by kernel_rfl) (by kernel_rfl) (by kernel_rfl) (by kernel_rfl) (fun _ _ _ h => h) (yieldsIf_load_mid (by rfl) 24 (.tmp 5) rfl (t5) (0) rfl (bys gI) _ (fun w h => h.t.range) Tryz.underlying24 rfl (size_h2 gI gI_h)) HS0.out ?_
    dsimp only [Act.put]
    simp only [List.setIfInBounds_toArray, List.set_cons_zero, List.set_cons_succ]
    refine wpAnyU_take (i := 6) (oi := ⟨some 89, _, _, _, _, _⟩) (v := .pointer (some ⟨G.kb, 0, none⟩)) rfl (by kernel_rfl) (by kernel_rfl) (by kernel_rfl) (by kernel_rfl) (by kernel_rfl) (fun _ _ _ h => h) (Or.inl ⟨by rfl, ?_⟩) HS0.out ?_
    · intro w hSw
      have hq := hSw.n.lookH
      go_simp <;> with_reducible rfl
    dsimp only [Act.put]
    simp only [List.setIfInBounds_toArray, List.set_cons_zero, List.set_cons_succ]
    refine wpAnyU_take (i := 7) (oi := ⟨some 90, _, _, _, _, _⟩) (v := .pointer (some ⟨G.kb, 0, none⟩)) rfl (by kernel_rfl) (by kernel_rfl) (by kernel_rfl) (by kernel_rfl) (by kernel_rfl) (fun _ _ _ h => h) (Or.inl ⟨by rfl, ?_⟩) HS0.out ?_
    · intro w hSw
      go_simp <;> with_reducible rfl
    dsimp only [Act.put]
    simp only [List.setIfInBounds_toArray, List.set_cons_zero, List.set_cons_succ]
    refine wpAnyU_take (i := 8) (oi := ⟨some 91, _, _, _, _, _⟩) (v := .pointer (some ⟨G.kb, 175, none⟩)) rfl (by kernel_rfl) (by kernel_rfl) (by kernel_rfl) (by kernel_rfl) (by kernel_rfl) (fun _ _ _ h => h) (Or.inl ⟨by rfl, ?_⟩) HS0.out ?_
    · intro w hSw
      go_simp <;> with_reducible rfl
    dsimp only [Act.put]
    simp only [List.setIfInBounds_toArray, List.set_cons_zero, List.set_cons_succ]
    refine wpAnyU_take (i := 9) (oi := ⟨some 92, _, _, _, _, _⟩) (v := .pointer (some ⟨G.st, 0, none⟩)) rfl (by kernel_rfl) (by kernel_rfl) (by kernel_rfl) (by kernel_rfl) (by kernel_rfl) (fun _ _ _ h => h) (Or.inl ⟨by rfl, ?_⟩) HS0.out ?_
    · intro w hSw
      have hq : w.cell? ⟨G.kb, 175, none⟩ = some (.pointer (some ⟨G.st, 0, none⟩)) := hSw.n.kc (k_set _ _ _)
      go_simp <;> with_reducible rfl
    dsimp only [Act.put]
    simp only [List.setIfInBounds_toArray, List.set_cons_zero, List.set_cons_succ]
    refine wpAnyU_one (i := 10) (oi := ⟨some 93, _, _, _, _, _⟩) (by kernel_rfl) rfl rfl (fun K9 hK9 => ?_)
    have HK9 := Lib.hid hK9
    clear hK9
    go_simp
    with_reducible refine (copy_emp G.st _ HS0.out.n.s.emp).mono ?_
    rintro e w19 ⟨s, rfl, _, he, hb9⟩
    dsimp only
    have HS1 := Lib.hid (HS0.out.below hb9)
    have HB1 := Lib.hid (HB.out.trans (hb9.mono HZ.out))
    have HZ1 := Lib.hid (Nat.le_trans HZ.out hb9.size)
    have HP6 := Lib.hid (range_keep HP5.out gI_h hb9)
    have HF6 := Lib.hid (range_keep0 HF5.out hb9)
    have HR6 := Lib.hid (HR5.out.below hb9 HR5.out.lt)
    have HE6 := Lib.hid he
    clear he HP5 HF5 HR5
    clear HS0 HB HZ hb9
    have HS0 := HS1
    have HB := HB1
    have HZ := HZ1
    clear HS1 HB1 HZ1
    refine HK9.out _ _ (fun _ _ => HS0.out) ?_
    clear HK9
    simp only [List.setIfInBounds_toArray, List.set_cons_zero, List.set_cons_succ]
    refine wpAnyU_take0 (i := 11) (oi := ⟨some 94, _, _, _, _, _⟩) (v := .pointer (some ⟨G.wd, 0, none⟩)) rfl (by kernel_rfl) (by kernel_rfl) (by kernel_rfl) (by decide) (fun _ _ _ h => h) (Or.inl ⟨by rfl, ?_⟩) (fun _ => HS0.out) ?_
    · intro w hSw
      go_simp <;> with_reducible rfl
    dsimp only [Act.put]
    simp only [List.setIfInBounds_toArray, List.set_cons_zero, List.set_cons_succ]
    refine wpAnyU_take0 (i := 12) (oi := ⟨some 95, _, _, _, _, _⟩) (v := .pointer (some ⟨G.wd, 116, none⟩)) rfl (by kernel_rfl) (by kernel_rfl) (by kernel_rfl) (by decide) (fun _ _ _ h => h) (Or.inl ⟨by rfl, ?_⟩) (fun _ => HS0.out) ?_
    · intro w hSw
      go_simp <;> with_reducible rfl
    dsimp only [Act.put]
    simp only [List.setIfInBounds_toArray, List.set_cons_zero, List.set_cons_succ]
    refine wpAnyU_one (i := 13) (oi := ⟨none, _, _, _, _, _⟩) (by kernel_rfl) rfl rfl (fun K9 hK9 => ?_)
    have HK9 := Lib.hid hK9
    clear hK9
    have hc : w19.cell? ⟨G.wd, 116, none⟩ = some (.pointer none) := HS0.out.n.wc (w_set G.m gI gI_h V HV.out (.pointer none))
    have hf := HS0.out.n.a.frozen 116
    go_simp
    have hnp : pg ≠ G.wd := range_ne HP6.out HS0.out.n.a (by show (bys gI)[0]? = some (.int .u8 (gI[0]'(by rw [gI_h.1]; omega) : Nat)); simp [bys, gI_h.1]) (w_p _ _ _ _ 0 _ rfl) (by simp)
    have hnf : fg ≠ G.wd := range_ne HF6.out HS0.out.n.a rfl (w_p _ _ _ _ 0 _ rfl) (by simp)
    have HG7 := Lib.hid (gen_putS HS0.out.n HV.out (.pointer (some ⟨s, 0, none⟩)))
    have HP7 := Lib.hid (show World.rangeAt (w19.setCell ⟨G.wd, 116, none⟩ (.pointer (some ⟨s, 0, none⟩))) pg 0 (bys gI) from range_other HP6.out G.wd 116 _ hnp)
    have HF7 := Lib.hid (show World.rangeAt (w19.setCell ⟨G.wd, 116, none⟩ (.pointer (some ⟨s, 0, none⟩))) fg 0 [Value.int .u64 0] from range_other HF6.out G.wd 116 _ hnf)
    have HR7 := Lib.hid (arr_other HR6.out (arr_ne HR6.out HS0.out.n.a (by decide)) 116 (.pointer (some ⟨s, 0, none⟩)))
    have HE7 := Lib.hid (emps_set HE6.out HS0.out.n.a (by decide) 116 (.pointer (some ⟨s, 0, none⟩)))
    have HT7 := Lib.hid (arr_other HS0.out.t (arr_ne HS0.out.t HS0.out.n.a (by decide)) 116 (.pointer (some ⟨s, 0, none⟩)))
    have HB7 := Lib.hid (HB.out.setCell (p := ⟨G.wd, 116, none⟩) HN.out (.pointer (some ⟨s, 0, none⟩)))
    have HZ7 := Lib.hid (show n ≤ (w19.setCell ⟨G.wd, 116, none⟩ (.pointer (some ⟨s, 0, none⟩))).heap.size from Nat.le_trans HN.out (Nat.le_of_lt HG7.out.a.lt))
    refine HK9.out _ _ (fun h _ => absurd rfl h) ?_
    clear HK9 hc hf hnp hnf HS0 HP6 HF6 HR6 HE6 HB HZ
    generalize World.setCell _ _ _ = w20 at *
    refine wpAnyU_done (by kernel_rfl) ?_ _
    go_upto_region 16 with fail
    have HS0 := Lib.hid (show NyS G V s t9 fg fc w20.drew from NyS.below ⟨HG7.out, HR7.out, HE7.out⟩ (Below.refl _ _).drew)
    have HP8 := Lib.hid (show World.rangeAt w20.drew pg 0 (bys gI) from HP7.out)
    have HF8 := Lib.hid (show World.rangeAt w20.drew fg 0 [Value.int .u64 0] from HF7.out)
    have HB := Lib.hid HB7.out.drew
    have HZ := Lib.hid (show n ≤ w20.drew.heap.size from HZ7.out)
    clear HG7 HT7 HP7 HF7 HR7 HE7 HB7 HZ7
    refine wp_region_H (NyS G V s t9 fg fc) (by kernel_rfl) ?_
    generalize World.drew _ = w21 at *
    simp only [List.size_toArray, List.length_cons, List.length_nil, Nat.reduceAdd, Array.replicate_succ, Array.replicate_zero, List.push_toArray, List.nil_append, List.cons_append]
    refine wpAnyH_take (i := 0) (oi := ⟨some 96, _, _, _, _, _⟩) (v := .pointer (some ⟨G.wd, 0, none⟩)) rfl (by kernel_rfl) (by kernel_rfl) (by kernel_rfl) (fun _ _ _ h => h) (Or.inl ⟨by rfl, ?_⟩) HS0.out ?_
    · intro w hSw
      go_simp <;> with_reducible rfl
    dsimp only [Act.put]
    simp only [List.setIfInBounds_toArray, List.set_cons_zero, List.set_cons_succ]
    refine wpAnyH_take (i := 1) (oi := ⟨some 97, _, _, _, _, _⟩) (v := .pointer (some ⟨G.wd, 0, none⟩)) rfl (by kernel_rfl) (by kernel_rfl) (by kernel_rfl) (fun _ _ _ h => h) (Or.inl ⟨by rfl, ?_⟩) HS0.out ?_
    · intro w hSw
      go_simp <;> with_reducible rfl
    dsimp only [Act.put]
    simp only [List.setIfInBounds_toArray, List.set_cons_zero, List.set_cons_succ]
    refine wpAnyH_take (i := 2) (oi := ⟨some 98, _, _, _, _, _⟩) (v := .pointer (some ⟨G.wd, 116, none⟩)) rfl (by kernel_rfl) (by kernel_rfl) (by kernel_rfl) (fun _ _ _ h => h) (Or.inl ⟨by rfl, ?_⟩) HS0.out ?_
    · intro w hSw
      go_simp <;> with_reducible rfl
    dsimp only [Act.put]
    simp only [List.setIfInBounds_toArray, List.set_cons_zero, List.set_cons_succ]
    refine wpAnyH_take (i := 3) (oi := ⟨some 99, _, _, _, _, _⟩) (v := .pointer (some ⟨s, 0, none⟩)) rfl (by kernel_rfl) (by kernel_rfl) (by kernel_rfl) (fun _ _ _ h => h) (Or.inl ⟨by rfl, ?_⟩) HS0.out ?_
    · intro w hSw
      have hq : w.cell? ⟨G.wd, 116, none⟩ = some (.pointer (some ⟨s, 0, none⟩)) := hSw.n.wc (w_set G.m gI gI_h V HV.out _)
      go_simp <;> with_reducible rfl
    dsimp only [Act.put]
    simp only [List.setIfInBounds_toArray, List.set_cons_zero, List.set_cons_succ]
    refine wpAnyH_take (i := 4) (oi := ⟨some 100, _, _, _, _, _⟩) (v := .pointer (some ⟨t9, 0, none⟩)) rfl (by kernel_rfl) (by kernel_rfl) (by kernel_rfl) (fun _ _ _ h => h) (Or.inl ⟨by rfl, ?_⟩) HS0.out ?_
    · intro w hSw
      go_simp <;> with_reducible rfl
    dsimp only [Act.put]
    simp only [List.setIfInBounds_toArray, List.set_cons_zero, List.set_cons_succ]
    refine wpAnyH_take (i := 5) (oi := ⟨some 101, _, _, _, _, _⟩) rfl (by kernel_rfl) (by kernel_rfl) (by kernel_rfl) (fun _ _ _ h => h) (yieldsIf_load_mid (by rfl) 58 (.tmp 100) rfl (t9) (0) rfl ([Value.slice none 0 0, .slice none 0 0]) _ (fun w h => h.diff) Tryz.underlying58 rfl (by kernel_rfl)) HS0.out ?_
    dsimp only [Act.put]
    simp only [List.setIfInBounds_toArray, List.set_cons_zero, List.set_cons_succ]
    refine wpAnyH_one (i := 6) (oi := ⟨some 102, _, _, _, _, _⟩) (by kernel_rfl) rfl (by rfl) (fun K9 hK9 => ?_)
    have HK9 := Lib.hid hK9
    clear hK9
    go_simp
    with_reducible refine (apply0 s _ HS0.out.s).mono ?_
    rintro e w22 ⟨rfl, hb9⟩
    dsimp only
    have HS1 := Lib.hid (HS0.out.below hb9)
    have HB1 := Lib.hid (HB.out.trans (hb9.mono HZ.out))
    have HZ1 := Lib.hid (Nat.le_trans HZ.out hb9.size)
    have HP9 := Lib.hid (range_keep HP8.out gI_h hb9)
    have HF9 := Lib.hid (range_keep0 HF8.out hb9)
    clear HP8 HF8
    clear HS0 HB HZ hb9
    have HS0 := HS1
    have HB := HB1
    have HZ := HZ1
    clear HS1 HB1 HZ1
    refine HK9.out _ _ HS0.out ?_
    clear HK9
    simp only [List.setIfInBounds_toArray, List.set_cons_zero, List.set_cons_succ]
    refine wpAnyH_done (by kernel_rfl) ?_ _
    go_wp2
    go_end0
    exact ⟨rfl, ⟨pg, fg, fc, s, by rw [HVe.out]; exact HS0.out.n, HP9.out, HF9.out, HS0.out.s⟩, HB.out⟩
end Go.Proofs.YthnbnckmeffkmaaGreat
