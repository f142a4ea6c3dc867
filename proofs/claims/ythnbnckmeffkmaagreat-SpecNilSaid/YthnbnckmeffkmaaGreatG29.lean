/- the law SpecNil. -/
import Derived.Test.YthnbnckmeffkmaaGreatG28
import Derived.Test.YthnbnckmeffkmaaGreatG13
namespace Go.Proofs.YthnbnckmeffkmaaGreat
open Go.RowKit Go.Lib
set_option linter.unusedVariables false
set_option linter.unusedSimpArgs false
attribute [local go_sem ↓] Go.wp_at_zero Go.wp_at_succ

def pG : ParM := ⟨100, 20, 1000, 5, 1001, 2147483647, 1099511627776, 100000, 100000, zH⟩
def pB : ParM := ⟨100, 20, 1000, 5, 1000, 2147483647, 1099511627776, 100000, 100000, zH⟩
def pW : ParM := ⟨100, 20, 1000, 5, 1001, 2147483647, 1099511627777, 100000, 100000, zH⟩
theorem pG_ok : pG.ok := ⟨by show (1099511627776 : Nat) ≤ _; omega, zH_h⟩
theorem pB_ok : pB.ok := ⟨by show (1099511627776 : Nat) ≤ _; omega, zH_h⟩
theorem pW_ok : pW.ok := ⟨by show (1099511627777 : Nat) ≤ _; omega, zH_h⟩
theorem pG_in : pG.within := ⟨by decide, by decide, by decide, by decide, by decide, by decide, by decide, by decide⟩
theorem pB_in : pB.within := ⟨by decide, by decide, by decide, by decide, by decide, by decide, by decide, by decide⟩
theorem pW_in : pW.within := ⟨by decide, by decide, by decide, by decide, by decide, by decide, by decide, by decide⟩
theorem pG_one : ∀ v ∈ pG.cells, v.oneCell' = true := by
  intro v hv
  rcases List.mem_append.1 hv with h | h
  · simp at h
    rcases h with rfl | rfl | rfl | rfl | rfl | rfl | rfl | rfl | rfl <;> rfl
  · exact bys_one zH v h
theorem parG_size (p : ParM) (h : p.ok) : (Tryz.prog.info? 26).map (·.size) = some p.cells.length := by rw [par_len h]; exact size_par
theorem pB_set : pG.cells.set 4 (.int .i64 1000) = pB.cells := by kernel_rfl
theorem pW_set : pG.cells.set 6 (.int .u64 1099511627777) = pW.cells := by kernel_rfl
theorem zC_one : ∀ v ∈ zC, v.oneCell' = true := by
  intro v hv
  rcases List.mem_append.1 hv with h | h
  · exact bys_one zH v h
  · simp at h
    rcases h with rfl | rfl <;> rfl
theorem r0C_one : ∀ v ∈ r0C, v.oneCell' = true := by
  intro v hv
  simp [r0C] at hv
  rcases hv with rfl | rfl <;> rfl
theorem virt_v0 (v : Value) (w : World) (h : NoW w v) : Calls Tryz.prog 32 #[v] w fun e w' => e = .returned (.agg v0C.toArray) ∧ Below w.heap.size w w' := virt_no v w h
theorem vf0 : ∀ w, (Instr.field 82 (.agg v0C.toArray) 1).run Tryz.prog w = .ok (.slice none 0 0) w := fun w => by kernel_rfl
structure LnS (zb t14 t15 t16 : Nat) (w : World) : Prop where
  z : NoW w (.pointer (some ⟨zb, 0, none⟩))
  a : Arr w t14 26 pG.cells
  b : Arr w t15 26 pB.cells
  c : Arr w t16 26 pW.cells
theorem LnS.below {zb t14 t15 t16 : Nat} {w w' : World} (h : LnS zb t14 t15 t16 w) (hb : Below w.heap.size w w') : LnS zb t14 t15 t16 w' := ⟨h.z.below hb, h.a.below hb h.a.lt, h.b.below hb h.b.lt, h.c.below hb h.c.lt⟩
set_option maxRecDepth 100000 in
set_option maxHeartbeats 6400000 in
theorem nil_walk (w : World) : Calls Tryz.prog 5 #[] w fun e w' => e = .returned (.bool true) ∧ Below w.heap.size w w' := by
  have hzh := zero_h
  have hzc := zero_col
  have hzr := zero_res
  go_enter Tryz.func5, Tryz.ntmps5
  go_upto_region 3 with fail
  generalize hw1 : World.alloc w _ = w1
  have hx : Below w.heap.size w w1 ∧ NoW w1 (.pointer (some ⟨w.heap.size, 0, none⟩)) := by
    rw [← hw1]
    exact ⟨(Below.refl _ _).alloc (Nat.le_refl _) _, .inr ⟨_, rfl, by unfold World.cell?; dsimp only; rw [heap_alloc_last]; rfl⟩⟩
  have HB := Lib.hid hx.1
  have HN := Lib.hid hx.2
  have HZ := Lib.hid hx.1.size
  clear hx hw1
  obtain ⟨zb, hzb⟩ : ∃ g, w.heap.size = g := ⟨_, rfl⟩
  rw [hzb] at HB HN HZ ⊢
  have HG := Lib.hid hzb
  clear hzb
  have HC := Lib.hid (colour_no (.pointer none) zH zH_h w1 (.inl rfl))
  go_wp2_with fail
  refine HC.out.mono ?_
  rintro e w2 ⟨rfl, hb9⟩
  dsimp only
  have HS1 := Lib.hid (HN.out.below hb9)
  have HB1 := Lib.hid (HB.out.trans (hb9.mono HZ.out))
  have HZ1 := Lib.hid (Nat.le_trans HZ.out hb9.size)
  clear hb9 HC HN HB HZ
  have HN := HS1
  have HB := HB1
  have HZ := HZ1
  clear HS1 HB1 HZ1
  iterate 13 (first | go_values | go_skip | go_guarded | go_step | go_upon)
  refine wpList_store_box (P := Tryz.prog) rfl 46 _ _ rfl w2 _ (zC) rfl rfl (rfl) (by kernel_rfl) (zC_one) ?_
  intro w3 ha9 hb9
  have HAq := Lib.hid ha9.out
  have HBq := Lib.hid hb9.out
  clear ha9 hb9
  clear HAq
  have HS1 := Lib.hid (HN.out.below HBq.out)
  have HB1 := Lib.hid (HB.out.trans (HBq.out.mono HZ.out))
  have HZ1 := Lib.hid (Nat.le_trans HZ.out HBq.out.size)
  clear HBq HN HB HZ
  have HN := HS1
  have HB := HB1
  have HZ := HZ1
  clear HS1 HB1 HZ1
  have HC := Lib.hid (order_no (.pointer (some ⟨zb, 0, none⟩)) zH zH_h w3 HN.out)
  go_wp2_with fail
  refine HC.out.mono ?_
  rintro e w4 ⟨rfl, hb9⟩
  dsimp only
  have HS1 := Lib.hid (HN.out.below hb9)
  have HB1 := Lib.hid (HB.out.trans (hb9.mono HZ.out))
  have HZ1 := Lib.hid (Nat.le_trans HZ.out hb9.size)
  clear hb9 HC HN HB HZ
  have HN := HS1
  have HB := HB1
  have HZ := HZ1
  clear HS1 HB1 HZ1
  have HC := Lib.hid (at_no (.pointer none) zH zH_h w4 (.inl rfl))
  go_wp2_with fail
  refine HC.out.mono ?_
  rintro e w5 ⟨rfl, hb9⟩
  dsimp only
  have HS1 := Lib.hid (HN.out.below hb9)
  have HB1 := Lib.hid (HB.out.trans (hb9.mono HZ.out))
  have HZ1 := Lib.hid (Nat.le_trans HZ.out hb9.size)
  clear hb9 HC HN HB HZ
  have HN := HS1
  have HB := HB1
  have HZ := HZ1
  clear HS1 HB1 HZ1
  iterate 13 (first | go_values | go_skip | go_guarded | go_step | go_upon)
  refine wpList_store_box (P := Tryz.prog) rfl 62 _ _ rfl w5 _ (r0C) rfl rfl (rfl) (by kernel_rfl) (r0C_one) ?_
  intro w6 ha9 hb9
  have HAq := Lib.hid ha9.out
  have HBq := Lib.hid hb9.out
  clear ha9 hb9
  clear HAq
  have HS1 := Lib.hid (HN.out.below HBq.out)
  have HB1 := Lib.hid (HB.out.trans (HBq.out.mono HZ.out))
  have HZ1 := Lib.hid (Nat.le_trans HZ.out HBq.out.size)
  clear HBq HN HB HZ
  have HN := HS1
  have HB := HB1
  have HZ := HZ1
  clear HS1 HB1 HZ1
  have HC := Lib.hid (behind_no (.pointer (some ⟨zb, 0, none⟩)) zH zH_h w6 HN.out)
  go_wp2_with fail
  refine HC.out.mono ?_
  rintro e w7 ⟨rfl, hb9⟩
  dsimp only
  have HS1 := Lib.hid (HN.out.below hb9)
  have HB1 := Lib.hid (HB.out.trans (hb9.mono HZ.out))
  have HZ1 := Lib.hid (Nat.le_trans HZ.out hb9.size)
  clear hb9 HC HN HB HZ
  have HN := HS1
  have HB := HB1
  have HZ := HZ1
  clear HS1 HB1 HZ1
  have HC := Lib.hid (supply_no (.pointer none) w7 (.inl rfl))
  go_wp2_with fail
  refine HC.out.mono ?_
  rintro e w8 ⟨rfl, hb9⟩
  dsimp only
  have HS1 := Lib.hid (HN.out.below hb9)
  have HB1 := Lib.hid (HB.out.trans (hb9.mono HZ.out))
  have HZ1 := Lib.hid (Nat.le_trans HZ.out hb9.size)
  clear hb9 HC HN HB HZ
  have HN := HS1
  have HB := HB1
  have HZ := HZ1
  clear HS1 HB1 HZ1
  go_upto_region 8 with fail
  go_step
  iterate 6 (first | go_values | go_skip | go_guarded | go_step | go_upon)
  refine wpList_store_box (P := Tryz.prog) rfl 26 _ _ rfl w8 _ (pG.cells) rfl rfl (rfl) (parG_size pG pG_ok) (pG_one) ?_
  intro w9 ha9 hb9
  have HA1 := Lib.hid ha9.out
  have HQ := Lib.hid hb9.out
  clear ha9 hb9
  obtain ⟨t14, ht⟩ : ∃ t, w8.heap.size = t := ⟨_, rfl⟩
  have HZ8 := Lib.hid (show t14 ≤ w9.heap.size by rw [← ht]; exact HQ.out.size)
  rw [ht] at HA1 HQ ⊢
  have HT := Lib.hid ht
  clear ht
  go_upto_region 9 with fail
  go_step
  refine wpList_load_mid (P := Tryz.prog) rfl 26 _ rfl (t14) (0) rfl _ _ (HA1.out.range) Tryz.underlying26 rfl (parG_size pG pG_ok) ?_
  simp only [Act.put, List.setIfInBounds_toArray, List.set_cons_zero, List.set_cons_succ]
  iterate 3 (first | go_values | go_skip | go_guarded | go_step | go_upon)
  refine wpList_store_box (P := Tryz.prog) rfl 26 _ _ rfl w9 _ (pG.cells) rfl rfl (rfl) (parG_size pG pG_ok) (pG_one) ?_
  intro w10 ha9 hb9
  have HA2 := Lib.hid ha9.out
  have HBq := Lib.hid hb9.out
  clear ha9 hb9
  have HX := Lib.hid (HA1.out.below HBq.out HA1.out.lt)
  have HR := Lib.hid (HQ.out.trans (HBq.out.mono HZ8.out))
  have HY := Lib.hid (Nat.le_trans HZ8.out HBq.out.size)
  have HLt := Lib.hid (show t14 < w9.heap.size from HA1.out.lt)
  obtain ⟨t15, ht⟩ : ∃ t, w9.heap.size = t := ⟨_, rfl⟩
  rw [ht] at HA2 HLt ⊢
  clear ht HBq HA1 HQ HZ8
  have hc : w10.cell? ⟨t15, 4, none⟩ = some (.int .i64 1001) := by rw [HA2.out.cell]; rfl
  have hf := HA2.out.frozen 4
  go_upto_region 11 with fail
  have HA3 := Lib.hid (HA2.out.set 4 (.int .i64 1000))
  rw [pB_set] at HA3
  have HX1 := Lib.hid (arr_other HX.out (Nat.ne_of_lt HLt.out) 4 (.int .i64 1000))
  have HR1 := Lib.hid (HR.out.setCell (p := ⟨t15, 4, none⟩) (Nat.le_of_lt HLt.out) (.int .i64 1000))
  have HY1 := Lib.hid (show t14 ≤ (w10.setCell ⟨t15, 4, none⟩ (.int .i64 1000)).heap.size from Nat.le_of_lt HX1.out.lt)
  clear hc hf HA2 HX HR HY
  generalize World.setCell _ _ _ = w11 at *
  go_step
  refine wpList_load_mid (P := Tryz.prog) rfl 26 _ rfl (t14) (0) rfl _ _ (HX1.out.range) Tryz.underlying26 rfl (parG_size pG pG_ok) ?_
  simp only [Act.put, List.setIfInBounds_toArray, List.set_cons_zero, List.set_cons_succ]
  iterate 3 (first | go_values | go_skip | go_guarded | go_step | go_upon)
  refine wpList_store_box (P := Tryz.prog) rfl 26 _ _ rfl w11 _ (pG.cells) rfl rfl (rfl) (parG_size pG pG_ok) (pG_one) ?_
  intro w12 ha9 hb9
  have HA4 := Lib.hid ha9.out
  have HBq := Lib.hid hb9.out
  clear ha9 hb9
  have HX := Lib.hid (HX1.out.below HBq.out HX1.out.lt)
  have HB5 := Lib.hid (HA3.out.below HBq.out HA3.out.lt)
  have HR := Lib.hid (HR1.out.trans (HBq.out.mono HY1.out))
  have HLu := Lib.hid (show t14 < w11.heap.size ∧ t15 < w11.heap.size from ⟨HX1.out.lt, HA3.out.lt⟩)
  obtain ⟨t16, ht⟩ : ∃ t, w11.heap.size = t := ⟨_, rfl⟩
  rw [ht] at HA4 HLu ⊢
  clear ht HBq HX1 HA3 HR1 HY1
  have hc : w12.cell? ⟨t16, 6, none⟩ = some (.int .u64 1099511627776) := by rw [HA4.out.cell]; rfl
  have hf := HA4.out.frozen 6
  go_upto_region 13 with fail
  have HA5 := Lib.hid (HA4.out.set 6 (.int .u64 1099511627777))
  rw [pW_set] at HA5
  have HR1 := Lib.hid (HR.out.setCell (p := ⟨t16, 6, none⟩) (Nat.le_of_lt HLu.out.1) (.int .u64 1099511627777))
  have HB1 := Lib.hid (HB.out.trans (HR1.out.mono (by have := HZ.out; rw [HT.out] at this; exact this)))
  have HS := Lib.hid (show LnS zb t14 t15 t16 (w12.setCell ⟨t16, 6, none⟩ (.int .u64 1099511627777)) from ⟨HN.out.below (by rw [HT.out]; exact HR1.out), arr_other HX.out (Nat.ne_of_lt HLu.out.1) 6 _, arr_other HB5.out (Nat.ne_of_lt HLu.out.2) 6 _, HA5.out⟩)
  have HZ1 := Lib.hid (show zb ≤ (w12.setCell ⟨t16, 6, none⟩ (.int .u64 1099511627777)).heap.size from Nat.le_trans (by have := HZ.out; rw [HT.out] at this; exact this) (Nat.le_of_lt HS.out.a.lt))
  clear hc hf HA4 HX HB5 HR HR1 HA5 HLu HT HN HB HZ
  have HB := HB1
  have HZ := HZ1
  clear HB1 HZ1
  generalize World.setCell _ _ _ = v0 at *
  have HC := Lib.hid (lnum_any 1 v0)
  go_wp2_with fail
  with_reducible refine HC.out.mono ?_
  rintro e v1 ⟨rfl, hb9⟩
  dsimp only
  have HS1 := Lib.hid (HS.out.below hb9)
  have HB1 := Lib.hid (HB.out.trans (hb9.mono HZ.out))
  have HZ1 := Lib.hid (Nat.le_trans HZ.out hb9.size)
  clear hb9 HC HS HB HZ
  have HS := HS1
  have HB := HB1
  have HZ := HZ1
  clear HS1 HB1 HZ1
  have HC := Lib.hid (lnum_any 1 v1)
  go_wp2_with fail
  with_reducible refine HC.out.mono ?_
  rintro e v2 ⟨rfl, hb9⟩
  dsimp only
  have HS1 := Lib.hid (HS.out.below hb9)
  have HB1 := Lib.hid (HB.out.trans (hb9.mono HZ.out))
  have HZ1 := Lib.hid (Nat.le_trans HZ.out hb9.size)
  clear hb9 HC HS HB HZ
  have HS := HS1
  have HB := HB1
  have HZ := HZ1
  clear HS1 HB1 HZ1
  have HC := Lib.hid (lnum_any 1 v2)
  go_wp2_with fail
  with_reducible refine HC.out.mono ?_
  rintro e v3 ⟨rfl, hb9⟩
  dsimp only
  have HS1 := Lib.hid (HS.out.below hb9)
  have HB1 := Lib.hid (HB.out.trans (hb9.mono HZ.out))
  have HZ1 := Lib.hid (Nat.le_trans HZ.out hb9.size)
  clear hb9 HC HS HB HZ
  have HS := HS1
  have HB := HB1
  have HZ := HZ1
  clear HS1 HB1 HZ1
  have HC := Lib.hid (lnum_any 1 v3)
  go_wp2_with fail
  with_reducible refine HC.out.mono ?_
  rintro e v4 ⟨rfl, hb9⟩
  dsimp only
  have HS1 := Lib.hid (HS.out.below hb9)
  have HB1 := Lib.hid (HB.out.trans (hb9.mono HZ.out))
  have HZ1 := Lib.hid (Nat.le_trans HZ.out hb9.size)
  clear hb9 HC HS HB HZ
  have HS := HS1
  have HB := HB1
  have HZ := HZ1
  clear HS1 HB1 HZ1
  have HC := Lib.hid (all_no (.pointer none) v4 (.inl rfl))
  go_wp2_with fail
  with_reducible refine HC.out.mono ?_
  rintro e v5 ⟨rfl, hb9⟩
  dsimp only
  have HS1 := Lib.hid (HS.out.below hb9)
  have HB1 := Lib.hid (HB.out.trans (hb9.mono HZ.out))
  have HZ1 := Lib.hid (Nat.le_trans HZ.out hb9.size)
  clear hb9 HC HS HB HZ
  have HS := HS1
  have HB := HB1
  have HZ := HZ1
  clear HS1 HB1 HZ1
  have HC := Lib.hid (tips_no (.pointer (some ⟨zb, 0, none⟩)) v5 HS.out.z)
  go_wp2_with fail
  with_reducible refine HC.out.mono ?_
  rintro e v6 ⟨rfl, hb9⟩
  dsimp only
  have HS1 := Lib.hid (HS.out.below hb9)
  have HB1 := Lib.hid (HB.out.trans (hb9.mono HZ.out))
  have HZ1 := Lib.hid (Nat.le_trans HZ.out hb9.size)
  clear hb9 HC HS HB HZ
  have HS := HS1
  have HB := HB1
  have HZ := HZ1
  clear HS1 HB1 HZ1
  have HC := Lib.hid (status_no (.pointer (some ⟨zb, 0, none⟩)) zH zH_h v6 HS.out.z)
  go_wp2_with fail
  refine HC.out.mono ?_
  rintro e v7 ⟨rfl, hb9⟩
  dsimp only
  have HS1 := Lib.hid (HS.out.below hb9)
  have HB1 := Lib.hid (HB.out.trans (hb9.mono HZ.out))
  have HZ1 := Lib.hid (Nat.le_trans HZ.out hb9.size)
  clear hb9 HC HS HB HZ
  have HS := HS1
  have HB := HB1
  have HZ := HZ1
  clear HS1 HB1 HZ1
  have HC := Lib.hid (coins_no (.pointer none) v7 (.inl rfl))
  go_wp2_with fail
  with_reducible refine HC.out.mono ?_
  rintro e v8 ⟨rfl, hb9⟩
  dsimp only
  have HS1 := Lib.hid (HS.out.below hb9)
  have HB1 := Lib.hid (HB.out.trans (hb9.mono HZ.out))
  have HZ1 := Lib.hid (Nat.le_trans HZ.out hb9.size)
  clear hb9 HC HS HB HZ
  have HS := HS1
  have HB := HB1
  have HZ := HZ1
  clear HS1 HB1 HZ1
  have HC := Lib.hid (coins_no (.pointer (some ⟨zb, 0, none⟩)) v8 HS.out.z)
  go_wp2_with fail
  with_reducible refine HC.out.mono ?_
  rintro e v9 ⟨rfl, hb9⟩
  dsimp only
  have HS1 := Lib.hid (HS.out.below hb9)
  have HB1 := Lib.hid (HB.out.trans (hb9.mono HZ.out))
  have HZ1 := Lib.hid (Nat.le_trans HZ.out hb9.size)
  clear hb9 HC HS HB HZ
  have HS := HS1
  have HB := HB1
  have HZ := HZ1
  clear HS1 HB1 HZ1
  have HC := Lib.hid (seq_no (.pointer none) v9 (.inl rfl))
  go_wp2_with fail
  with_reducible refine HC.out.mono ?_
  rintro e v10 ⟨rfl, hb9⟩
  dsimp only
  have HS1 := Lib.hid (HS.out.below hb9)
  have HB1 := Lib.hid (HB.out.trans (hb9.mono HZ.out))
  have HZ1 := Lib.hid (Nat.le_trans HZ.out hb9.size)
  clear hb9 HC HS HB HZ
  have HS := HS1
  have HB := HB1
  have HZ := HZ1
  clear HS1 HB1 HZ1
  have HC := Lib.hid (virt_v0 (.pointer (some ⟨zb, 0, none⟩)) v10 HS.out.z)
  go_wp2_with fail
  with_reducible refine HC.out.mono ?_
  rintro e v11 ⟨rfl, hb9⟩
  dsimp only
  have HS1 := Lib.hid (HS.out.below hb9)
  have HB1 := Lib.hid (HB.out.trans (hb9.mono HZ.out))
  have HZ1 := Lib.hid (Nat.le_trans HZ.out hb9.size)
  clear hb9 HC HS HB HZ
  have HS := HS1
  have HB := HB1
  have HZ := HZ1
  clear HS1 HB1 HZ1
  have hvf := vf0
  iterate 13 (first | go_values | go_skip | go_guarded | go_step | go_upon)
  refine wpList_step (fun K9 hK9 => ?_)
  rw [if_pos (by kernel_rfl)]
  refine wp_load_mid (P := Tryz.prog) 26 _ rfl t14 0 rfl pG.cells _ HS.out.a.range Tryz.underlying26 rfl (parG_size pG pG_ok) (hK9 _ _ ?_)
  simp only [Act.put, List.setIfInBounds_toArray, List.set_cons_zero, List.set_cons_succ]
  clear hK9
  have HC := Lib.hid (params_in pG v11 pG_ok pG_in true ⟨fun _ => ⟨by decide, .inr ⟨by decide, by decide, by decide⟩⟩, fun _ => rfl⟩)
  go_wp2_with fail
  with_reducible refine HC.out.mono ?_
  rintro e v12 ⟨rfl, hb9⟩
  dsimp only
  have HS1 := Lib.hid (HS.out.below hb9)
  have HB1 := Lib.hid (HB.out.trans (hb9.mono HZ.out))
  have HZ1 := Lib.hid (Nat.le_trans HZ.out hb9.size)
  clear hb9 HC HS HB HZ
  have HS := HS1
  have HB := HB1
  have HZ := HZ1
  clear HS1 HB1 HZ1
  iterate 7 (first | go_values | go_skip | go_guarded | go_step | go_upon)
  refine wpList_step (fun K9 hK9 => ?_)
  rw [if_pos (by kernel_rfl)]
  refine wp_load_mid (P := Tryz.prog) 26 _ rfl t15 0 rfl pB.cells _ HS.out.b.range Tryz.underlying26 rfl (parG_size pB pB_ok) (hK9 _ _ ?_)
  simp only [Act.put, List.setIfInBounds_toArray, List.set_cons_zero, List.set_cons_succ]
  clear hK9
  have HC := Lib.hid (params_in pB v12 pB_ok pB_in false ⟨(fun h => by cases h), fun h => absurd h.2 (by decide)⟩)
  go_wp2_with fail
  with_reducible refine HC.out.mono ?_
  rintro e v13 ⟨rfl, hb9⟩
  dsimp only
  have HS1 := Lib.hid (HS.out.below hb9)
  have HB1 := Lib.hid (HB.out.trans (hb9.mono HZ.out))
  have HZ1 := Lib.hid (Nat.le_trans HZ.out hb9.size)
  clear hb9 HC HS HB HZ
  have HS := HS1
  have HB := HB1
  have HZ := HZ1
  clear HS1 HB1 HZ1
  iterate 9 (first | go_values | go_skip | go_guarded | go_step | go_upon)
  refine wpList_step (fun K9 hK9 => ?_)
  rw [if_pos (by kernel_rfl)]
  refine wp_load_mid (P := Tryz.prog) 26 _ rfl t16 0 rfl pW.cells _ HS.out.c.range Tryz.underlying26 rfl (parG_size pW pW_ok) (hK9 _ _ ?_)
  simp only [Act.put, List.setIfInBounds_toArray, List.set_cons_zero, List.set_cons_succ]
  clear hK9
  have HC := Lib.hid (params_in pW v13 pW_ok pW_in false ⟨(fun h => by cases h), fun h => absurd h.1 (by decide)⟩)
  go_wp2_with fail
  with_reducible refine HC.out.mono ?_
  rintro e v14 ⟨rfl, hb9⟩
  dsimp only
  have HS1 := Lib.hid (HS.out.below hb9)
  have HB1 := Lib.hid (HB.out.trans (hb9.mono HZ.out))
  have HZ1 := Lib.hid (Nat.le_trans HZ.out hb9.size)
  clear hb9 HC HS HB HZ
  have HS := HS1
  have HB := HB1
  have HZ := HZ1
  clear HS1 HB1 HZ1
  have HC := Lib.hid (known25 v14)
  go_wp2_with fail
  with_reducible refine HC.out.mono ?_
  rintro e v15 ⟨rfl, hb9⟩
  dsimp only
  have HS1 := Lib.hid (HS.out.below hb9)
  have HB1 := Lib.hid (HB.out.trans (hb9.mono HZ.out))
  have HZ1 := Lib.hid (Nat.le_trans HZ.out hb9.size)
  clear hb9 HC HS HB HZ
  have HS := HS1
  have HB := HB1
  have HZ := HZ1
  clear HS1 HB1 HZ1
  go_wp2
  go_ret
  exact ⟨rfl, by rw [HG.out]; exact HB.out⟩
end Go.Proofs.YthnbnckmeffkmaaGreat
