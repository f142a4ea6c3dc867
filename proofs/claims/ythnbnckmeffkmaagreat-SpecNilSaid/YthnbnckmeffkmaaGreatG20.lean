/- spec.result of what comes of nothing. -/
import Derived.Test.YthnbnckmeffkmaaGreatG19
import Derived.Maps.OwnSet
import Derived.Maps.Views
import Derived.DeepKeys4
namespace Go.Proofs.YthnbnckmeffkmaaGreat
open Go.RowKit Go.Lib
set_option linter.unusedVariables false
set_option linter.unusedSimpArgs false
attribute [local go_sem ↓] Go.wp_at_zero Go.wp_at_succ

theorem range_other {w : World} {b off : Nat} {cs : List Value} (h : w.rangeAt b off cs) (g j : Nat) (v : Value) (hne : b ≠ g) : World.rangeAt (w.setCell ⟨g, j, none⟩ v) b off cs := fun i u hu => by
  rw [World.cell?_of_block (w := w) (heap_setCell_other w ⟨g, j, none⟩ b v hne)]
  exact h i u hu
section
variable {P : Program} {ops : Array Oper} {Q : Exit → Act → World → Prop} {md : Region.Mode} {S : World → Prop} {t : Nat}
/-- Two may come next. -/
theorem wpAnyU_two {i j : Nat} {oi oj : Oper} {fuel : Nat} {listed : Array Bool} {a : Act} {w : World} (hr : Region.ready md ops listed = [i, j]) (hi : ops[i]? = some oi) (hj : ops[j]? = some oj) (hgi : oi.guard = none) (hgj : oj.guard = none)
    (h1 : ∀ K : Act → World → Prop, (∀ a' w', (i ≠ t → listed.getD t true = false → S w') → wpAnyU P md ops Q S t fuel (listed.setIfInBounds i true) a' w' → K a' w') → oi.wp P a w K Q)
    (h2 : ∀ K : Act → World → Prop, (∀ a' w', (j ≠ t → listed.getD t true = false → S w') → wpAnyU P md ops Q S t fuel (listed.setIfInBounds j true) a' w' → K a' w') → oj.wp P a w K Q) : wpAnyU P md ops Q S t (fuel + 1) listed a w := by
  refine ⟨(fun h0 => by rw [hr] at h0; cases h0), fun k hk => ?_⟩
  rw [hr] at hk
  rcases List.mem_cons.1 hk with rfl | hk
  · unfold wpOp
    simp only [hi]
    rw [if_pos (by simp [Region.wanted, hgi])]
    exact .inl <| h1 (fun a' w' => (k ≠ t → listed.getD t true = false → S w') ∧ wpAnyU P md ops Q S t fuel (listed.setIfInBounds k true) a' w') (fun a' w' h1 h2 => ⟨h1, h2⟩)
  · obtain rfl : k = j := by simpa using hk
    unfold wpOp
    simp only [hj]
    rw [if_pos (by simp [Region.wanted, hgj])]
    exact .inl <| h2 (fun a' w' => (k ≠ t → listed.getD t true = false → S w') ∧ wpAnyU P md ops Q S t fuel (listed.setIfInBounds k true) a' w') (fun a' w' h1 h2 => ⟨h1, h2⟩)
end
/-- What comes of a genesis: no change, nothing accepted, one fee of nothing. -/
def resC (fv : Value) : List Value := [.slice none 0 0, .slice none 0 0, .slice none 0 0, .slice none 0 0, fv, .int .i64 0]
structure ResS (g b off c : Nat) (w : World) : Prop where
  r : Arr w g 62 (resC (.slice (some ⟨b, off, none⟩) 1 c))
  z : Arr w (g + 1) 62 [.slice none 0 0, .slice none 0 0, .slice none 0 0, .slice none 0 0, .slice none 0 0, .int .i64 0]
  f : w.rangeAt b off [Value.int .u64 0]
  l : b < g
theorem ResS.below {g b off c : Nat} {w w' : World} (h : ResS g b off c w) (hb : Below w.heap.size w w') : ResS g b off c w' := ⟨h.r.below hb h.r.lt, h.z.below hb h.z.lt, fun j v hv => cellb hb (h.f j v hv), h.l⟩
set_option maxRecDepth 100000 in
set_option maxHeartbeats 3200000 in
theorem result_emp (b off c : Nat) (w : World) (hf : w.rangeAt b off [Value.int .u64 0]) :
    Calls Tryz.prog 64 #[.agg (resC (.slice (some ⟨b, off, none⟩) 1 c)).toArray] w fun e w' => ∃ g cap, e = .returned (.agg (resC (.slice (some ⟨g, 0, none⟩) 1 cap)).toArray) ∧ Below w.heap.size w w' := by
  have HF := Lib.hid hf
  clear hf
  unfold resC
  go_enter Tryz.func64, Tryz.ntmps64
  go_upto_region 1 with fail
  have hpk := two_laid w (resC (.slice (some ⟨b, off, none⟩) 1 c)) [.slice none 0 0, .slice none 0 0, .slice none 0 0, .slice none 0 0, .slice none 0 0, .int .i64 0] 62 62 _ rfl
  have HS0 := Lib.hid (show ResS w.heap.size b off c _ from ⟨hpk.1, hpk.2.1, fun j v hv => cellb hpk.2.2 (HF.out j v hv), World.block_lt_of_cell? _ _ (HF.out 0 _ rfl)⟩)
  have HB := Lib.hid hpk.2.2
  clear hpk HF
  unfold resC at HB HS0
  generalize World.alloc (World.alloc _ _) _ = w1 at *
  have HZ := Lib.hid HB.out.size
  obtain ⟨g, hg⟩ : ∃ g, w.heap.size = g := ⟨_, rfl⟩
  rw [hg] at HS0 HB HZ ⊢
  have HG := Lib.hid hg
  clear hg
  have hc0 := HS0.out.r.cell 0
  have hc1 := HS0.out.r.cell 1
  unfold resC at hc0 hc1
  dsimp only [List.getElem?_cons_zero, List.getElem?_cons_succ] at hc0 hc1
  have HC := Lib.hid (turn0 w1)
  go_wp2_with fail
  with_reducible refine HC.out.mono ?_
  rintro e w2 ⟨rfl, hb9⟩
  dsimp only
  have HB2 := Lib.hid (HB.out.trans (hb9.mono HZ.out))
  have HZ2 := Lib.hid (Nat.le_trans HZ.out hb9.size)
  have HS1 := Lib.hid (HS0.out.below hb9)
  clear HS0
  have HS0 := HS1
  clear HS1
  clear hc0 hc1
  clear hb9 HC HB HZ
  have HB := HB2
  have HZ := HZ2
  clear HB2 HZ2
  have HC := Lib.hid (turn0 w2)
  go_wp2_with fail
  with_reducible refine HC.out.mono ?_
  rintro e w3 ⟨rfl, hb9⟩
  dsimp only
  have HB2 := Lib.hid (HB.out.trans (hb9.mono HZ.out))
  have HZ2 := Lib.hid (Nat.le_trans HZ.out hb9.size)
  have HS1 := Lib.hid (HS0.out.below hb9)
  clear HS0
  have HS0 := HS1
  clear HS1
  clear hb9 HC HB HZ
  have HB := HB2
  have HZ := HZ2
  clear HB2 HZ2
  have hc0 := HS0.out.r.cell 0
  have hc1 := HS0.out.r.cell 1
  have hf0 := HS0.out.r.frozen 0
  have hf1 := HS0.out.r.frozen 1
  unfold resC at hc0 hc1
  dsimp only [List.getElem?_cons_zero, List.getElem?_cons_succ] at hc0 hc1
  go_upto_region 2 with fail
  have hr := (HS0.out.r.set 0 (.slice none 0 0)).set 1 (.slice none 0 0)
  have hz := arr_other (arr_other HS0.out.z (show g + 1 ≠ g by omega) 0 (.slice none 0 0)) (show g + 1 ≠ g by omega) 1 (.slice none 0 0)
  have hb2 := (HB.out.setCell (p := ⟨g, 0, none⟩) (Nat.le_refl g) (.slice none 0 0)).setCell (p := ⟨g, 1, none⟩) (Nat.le_refl g) (.slice none 0 0)
  have hf2 := range_other (range_other HS0.out.f g 0 (.slice none 0 0) (by have := HS0.out.l; omega)) g 1 (.slice none 0 0) (by have := HS0.out.l; omega)
  have HS1 := Lib.hid (show ResS g b off c (World.drew ((w3.setCell ⟨g, 0, none⟩ (.slice none 0 0)).setCell ⟨g, 1, none⟩ (.slice none 0 0))) from ⟨hr, hz, hf2, HS0.out.l⟩)
  have HB1 := Lib.hid hb2.drew
  clear hr hz hf2 hb2 HS0 HB hc0 hc1 hf0 hf1 HZ
  have HS0 := HS1
  have HB := HB1
  clear HS1 HB1
  have HZ := Lib.hid (show g ≤ _ from Nat.le_of_lt HS0.out.r.lt)
  refine wp_region_U (ResS g b off c) 14 (by kernel_rfl) ?_
  generalize World.drew _ = w8 at *
  simp only [List.size_toArray, List.length_cons, List.length_nil, Nat.reduceAdd, Array.replicate_succ, Array.replicate_zero, List.push_toArray, List.nil_append, List.cons_append]
  refine wpAnyU_take (i := 0) (oi := ⟨some 8, _, _, _, _, _⟩) (v := ?_) rfl (by kernel_rfl) (by kernel_rfl) (by kernel_rfl) (by kernel_rfl) (by kernel_rfl) (fun _ _ _ h => h) (Or.inl ⟨by rfl, ?_⟩) HS0.out ?_
  rotate_left
  · intro w hSw
    go_simp <;> with_reducible rfl
  dsimp only [Act.put]
  simp only [List.setIfInBounds_toArray, List.set_cons_zero, List.set_cons_succ]
  refine wpAnyU_take (i := 1) (oi := ⟨some 9, _, _, _, _, _⟩) (v := .slice none 0 0) rfl (by kernel_rfl) (by kernel_rfl) (by kernel_rfl) (by kernel_rfl) (by kernel_rfl) (fun _ _ _ h => h) (Or.inl ⟨by rfl, ?_⟩) HS0.out ?_
  · intro w hSw
    have hq := hSw.r.cell 2
    unfold resC at hq
    dsimp only [List.getElem?_cons_zero, List.getElem?_cons_succ] at hq
    go_simp <;> with_reducible rfl
  dsimp only [Act.put]
  simp only [List.setIfInBounds_toArray, List.set_cons_zero, List.set_cons_succ]
  refine wpAnyU_take (i := 3) (oi := ⟨some 11, _, _, _, _, _⟩) (v := ?_) rfl (by kernel_rfl) (by kernel_rfl) (by kernel_rfl) (by kernel_rfl) (by kernel_rfl) (fun _ _ _ h => h) (Or.inl ⟨by rfl, ?_⟩) HS0.out ?_
  rotate_left
  · intro w hSw
    go_simp <;> with_reducible rfl
  dsimp only [Act.put]
  simp only [List.setIfInBounds_toArray, List.set_cons_zero, List.set_cons_succ]
  refine wpAnyU_take (i := 4) (oi := ⟨some 12, _, _, _, _, _⟩) (v := .slice none 0 0) rfl (by kernel_rfl) (by kernel_rfl) (by kernel_rfl) (by kernel_rfl) (by kernel_rfl) (fun _ _ _ h => h) (Or.inl ⟨by rfl, ?_⟩) HS0.out ?_
  · intro w hSw
    have hq := hSw.r.cell 3
    unfold resC at hq
    dsimp only [List.getElem?_cons_zero, List.getElem?_cons_succ] at hq
    go_simp <;> with_reducible rfl
  dsimp only [Act.put]
  simp only [List.setIfInBounds_toArray, List.set_cons_zero, List.set_cons_succ]
  refine wpAnyU_take (i := 6) (oi := ⟨some 14, _, _, _, _, _⟩) (v := ?_) rfl (by kernel_rfl) (by kernel_rfl) (by kernel_rfl) (by kernel_rfl) (by kernel_rfl) (fun _ _ _ h => h) (Or.inl ⟨by rfl, ?_⟩) HS0.out ?_
  rotate_left
  · intro w hSw
    go_simp <;> with_reducible rfl
  dsimp only [Act.put]
  simp only [List.setIfInBounds_toArray, List.set_cons_zero, List.set_cons_succ]
  refine wpAnyU_take (i := 7) (oi := ⟨some 15, _, _, _, _, _⟩) (v := .slice (some ⟨b, off, none⟩) 1 c) rfl (by kernel_rfl) (by kernel_rfl) (by kernel_rfl) (by kernel_rfl) (by kernel_rfl) (fun _ _ _ h => h) (Or.inl ⟨by rfl, ?_⟩) HS0.out ?_
  · intro w hSw
    have hq := hSw.r.cell 4
    unfold resC at hq
    dsimp only [List.getElem?_cons_zero, List.getElem?_cons_succ] at hq
    go_simp <;> with_reducible rfl
  dsimp only [Act.put]
  simp only [List.setIfInBounds_toArray, List.set_cons_zero, List.set_cons_succ]
  refine wpAnyU_one (i := 2) (oi := ⟨some 10, _, _, _, _, _⟩) (by kernel_rfl) rfl rfl (fun K9 hK9 => ?_)
  have HK9 := Lib.hid hK9
  clear hK9
  go_simp
  with_reducible refine (clone_nil w8).mono ?_
  rintro e w9 ⟨rfl, hb9⟩
  dsimp only
  have HS1 := Lib.hid (HS0.out.below hb9)
  have HB1 := Lib.hid (HB.out.trans (hb9.mono HZ.out))
  have HZ1 := Lib.hid (Nat.le_trans HZ.out hb9.size)
  clear HS0 HB HZ hb9
  have HS0 := HS1
  have HB := HB1
  have HZ := HZ1
  clear HS1 HB1 HZ1
  refine HK9.out _ _ (fun _ _ => HS0.out) ?_
  clear HK9
  simp only [List.setIfInBounds_toArray, List.set_cons_zero, List.set_cons_succ]
  refine wpAnyU_take (i := 9) (oi := ⟨some 17, _, _, _, _, _⟩) (v := ?_) rfl (by kernel_rfl) (by kernel_rfl) (by kernel_rfl) (by kernel_rfl) (by kernel_rfl) (fun _ _ _ h => h) (Or.inl ⟨by rfl, ?_⟩) HS0.out ?_
  rotate_left
  · intro w hSw
    go_simp <;> with_reducible rfl
  dsimp only [Act.put]
  simp only [List.setIfInBounds_toArray, List.set_cons_zero, List.set_cons_succ]
  refine wpAnyU_one (i := 5) (oi := ⟨some 13, _, _, _, _, _⟩) (by kernel_rfl) rfl rfl (fun K9 hK9 => ?_)
  have HK9 := Lib.hid hK9
  clear hK9
  go_simp
  with_reducible refine (clone_r w9).mono ?_
  rintro e w10 ⟨rfl, hb9⟩
  dsimp only
  have HS1 := Lib.hid (HS0.out.below hb9)
  have HB1 := Lib.hid (HB.out.trans (hb9.mono HZ.out))
  have HZ1 := Lib.hid (Nat.le_trans HZ.out hb9.size)
  clear HS0 HB HZ hb9
  have HS0 := HS1
  have HB := HB1
  have HZ := HZ1
  clear HS1 HB1 HZ1
  refine HK9.out _ _ (fun _ _ => HS0.out) ?_
  clear HK9
  simp only [List.setIfInBounds_toArray, List.set_cons_zero, List.set_cons_succ]
  refine wpAnyU_one (i := 8) (oi := ⟨some 16, _, _, _, _, _⟩) (by kernel_rfl) rfl rfl (fun K9 hK9 => ?_)
  have HK9 := Lib.hid hK9
  clear hK9
  go_simp
  with_reducible refine (clone_u1 b off c _ w10 HS0.out.f).mono ?_
  rintro e w11 ⟨g3, cap, rfl, hc1, hc2, hg3, hr3, hb9⟩
  dsimp only
  have HS1 := Lib.hid (HS0.out.below hb9)
  have HB1 := Lib.hid (HB.out.trans (hb9.mono HZ.out))
  have HZ1 := Lib.hid (Nat.le_trans HZ.out hb9.size)
  have HR3 := Lib.hid hr3
  have HG3 := Lib.hid hg3
  clear hr3 hc1 hc2 hg3
  clear HS0 HB HZ hb9
  have HS0 := HS1
  have HB := HB1
  have HZ := HZ1
  clear HS1 HB1 HZ1
  refine HK9.out _ _ (fun _ _ => HS0.out) ?_
  clear HK9
  simp only [List.setIfInBounds_toArray, List.set_cons_zero, List.set_cons_succ]
  refine wpAnyU_one (i := 10) (oi := ⟨none, _, _, _, _, _⟩) (by kernel_rfl) rfl rfl (fun K9 hK9 => ?_)
  have HK9 := Lib.hid hK9
  clear hK9
  have hc := HS0.out.r.cell 2
  have hf := HS0.out.r.frozen 2
  unfold resC at hc
  dsimp only [List.getElem?_cons_zero, List.getElem?_cons_succ] at hc
  go_simp
  have hS8 : ResS g b off c _ := ⟨HS0.out.r.set 2 (.slice none 0 0), arr_other HS0.out.z (show g + 1 ≠ g by omega) 2 _, range_other HS0.out.f g 2 _ (by have := HS0.out.l; omega), HS0.out.l⟩
  have HS1 := Lib.hid hS8
  have HB1 := Lib.hid (HB.out.setCell (p := ⟨g, 2, none⟩) (Nat.le_refl g) (.slice none 0 0))
  have HZ1 := Lib.hid (show g ≤ _ from Nat.le_of_lt HS1.out.r.lt)
  clear hc hf hS8 HS0 HB HZ
  have HS0 := HS1
  have HB := HB1
  have HZ := HZ1
  clear HS1 HB1 HZ1
  refine HK9.out _ _ (fun _ _ => HS0.out) ?_
  clear HK9
  simp only [List.setIfInBounds_toArray, List.set_cons_zero, List.set_cons_succ]
  refine wpAnyU_take (i := 11) (oi := ⟨some 18, _, _, _, _, _⟩) (v := ?_) rfl (by kernel_rfl) (by kernel_rfl) (by kernel_rfl) (by kernel_rfl) (by kernel_rfl) (fun _ _ _ h => h) (Or.inl ⟨by rfl, ?_⟩) HS0.out ?_
  rotate_left
  · intro w hSw
    go_simp <;> with_reducible rfl
  dsimp only [Act.put]
  simp only [List.setIfInBounds_toArray, List.set_cons_zero, List.set_cons_succ]
  refine wpAnyU_one (i := 12) (oi := ⟨none, _, _, _, _, _⟩) (by kernel_rfl) rfl rfl (fun K9 hK9 => ?_)
  have HK9 := Lib.hid hK9
  clear hK9
  have hc := HS0.out.r.cell 3
  have hf := HS0.out.r.frozen 3
  unfold resC at hc
  dsimp only [List.getElem?_cons_zero, List.getElem?_cons_succ] at hc
  go_simp
  have hS8 : ResS g b off c _ := ⟨HS0.out.r.set 3 (.slice none 0 0), arr_other HS0.out.z (show g + 1 ≠ g by omega) 3 _, range_other HS0.out.f g 3 _ (by have := HS0.out.l; omega), HS0.out.l⟩
  have HS1 := Lib.hid hS8
  have HB1 := Lib.hid (HB.out.setCell (p := ⟨g, 3, none⟩) (Nat.le_refl g) (.slice none 0 0))
  have HZ1 := Lib.hid (show g ≤ _ from Nat.le_of_lt HS1.out.r.lt)
  clear hc hf hS8 HS0 HB HZ
  have HS0 := HS1
  have HB := HB1
  have HZ := HZ1
  clear HS1 HB1 HZ1
  refine HK9.out _ _ (fun _ _ => HS0.out) ?_
  clear HK9
  simp only [List.setIfInBounds_toArray, List.set_cons_zero, List.set_cons_succ]
  refine wpAnyU_take (i := 13) (oi := ⟨some 19, _, _, _, _, _⟩) (v := ?_) rfl (by kernel_rfl) (by kernel_rfl) (by kernel_rfl) (by kernel_rfl) (by kernel_rfl) (fun _ _ _ h => h) (Or.inl ⟨by rfl, ?_⟩) HS0.out ?_
  rotate_left
  · intro w hSw
    go_simp <;> with_reducible rfl
  dsimp only [Act.put]
  simp only [List.setIfInBounds_toArray, List.set_cons_zero, List.set_cons_succ]
  refine wpAnyU_one (i := 14) (oi := ⟨none, _, _, _, _, _⟩) (by kernel_rfl) rfl rfl (fun K9 hK9 => ?_)
  have HK9 := Lib.hid hK9
  clear hK9
  have hc := HS0.out.r.cell 4
  have hf := HS0.out.r.frozen 4
  unfold resC at hc
  dsimp only [List.getElem?_cons_zero, List.getElem?_cons_succ] at hc
  go_simp
  have HR4 := Lib.hid (HS0.out.r.set 4 (.slice (some ⟨g3, 0, none⟩) 1 cap))
  have HZ4 := Lib.hid (arr_other HS0.out.z (show g + 1 ≠ g by omega) 4 (.slice (some ⟨g3, 0, none⟩) 1 cap))
  have HB4 := Lib.hid (HB.out.setCell (p := ⟨g, 4, none⟩) (Nat.le_refl g) (.slice (some ⟨g3, 0, none⟩) 1 cap))
  clear hc hf HS0 HB HZ
  refine HK9.out _ _ (fun h _ => absurd rfl h) ?_
  clear HK9
  simp only [List.setIfInBounds_toArray, List.set_cons_zero, List.set_cons_succ]
  refine wpAnyU_done (by kernel_rfl) ?_ _
  generalize World.setCell _ _ _ = w12 at *
  unfold resC at HR4
  dsimp only [List.set_cons_zero, List.set_cons_succ] at HR4 HZ4
  go_upto_region 3 with fail
  go_step
  refine wpList_load_mid (P := Tryz.prog) rfl 62 _ rfl g 0 rfl _ _ HR4.out.range Tryz.underlying62 rfl (by kernel_rfl) ?_
  simp only [Act.put, List.setIfInBounds_toArray, List.set_cons_zero, List.set_cons_succ]
  refine wpList_store_mid (P := Tryz.prog) rfl 62 _ _ rfl (g + 1) 0 _ rfl rfl (HZ4.out.there _ rfl) (by kernel_rfl) (by kernel_rfl) ?_
  have HZ5 := Lib.hid (HZ4.out.setAll [.slice none 0 0, .slice none 0 0, .slice none 0 0, .slice none 0 0, .slice (some ⟨g3, 0, none⟩) 1 cap, .int .i64 0] rfl)
  have HB5 := Lib.hid (below_sets (g + 1) (show g ≤ g + 1 by omega) [.slice none 0 0, .slice none 0 0, .slice none 0 0, .slice none 0 0, .slice (some ⟨g3, 0, none⟩) 1 cap, .int .i64 0] 0 HB4.out)
  generalize World.setCells _ _ _ _ = w13 at *
  clear HZ4 HB4 HR4
  go_wp2
  refine bodyPost_ret (results_cell_row (P := Tryz.prog) rfl _ _ (g + 1) 62 _ (0, 0) _ rfl HZ5.out Tryz.underlying62 rfl (by kernel_rfl)) rfl ?_
  exact ⟨g3, cap, rfl, by rw [HG.out]; exact HB5.out⟩
end Go.Proofs.YthnbnckmeffkmaaGreat
/- Maps of one hash. -/
namespace Go.Proofs.YthnbnckmeffkmaaGreat
open Go.RowKit Go.Lib
open Go.Maps (Keyed)
open Go.ChangeMaps
set_option linter.unusedVariables false
set_option linter.unusedSimpArgs false

theorem mapM_ex {α β : Type} (f : α → Option β) : ∀ l : List α, (∀ x ∈ l, ∃ y, f x = some y) → ∃ ys, l.mapM f = some ys
  | [], _ => ⟨[], rfl⟩
  | x :: r, h => by
    obtain ⟨y, hy⟩ := h x (by simp)
    obtain ⟨ys, hys⟩ := mapM_ex f r (fun z hz => h z (by simp [hz]))
    exact ⟨y :: ys, by rw [List.mapM_cons, hy, hys]; rfl⟩
theorem hashKeyed : Keyed Tryz.prog 24 := Keyed.of_law (deep_law_laid (m := 10) (by kernel_rfl) (by omega) (of_decide_eq_true (by kernel_rfl)) (by kernel_rfl) (by kernel_rfl))
theorem wf8 {n : Nat} (h : n < 256) : (Lit.int .u8 (n : Int)).wf = true := by
  unfold Lit.wf
  rw [Bool.and_eq_true, decide_eq_true_eq, decide_eq_true_eq]
  have e1 : IntKind.u8.min = 0 := by decide
  have e2 : IntKind.u8.max = 255 := by decide
  omega
theorem lits_hash (L : List Nat) (hL : IsH L) (d : Nat) : ∃ ls, Tryz.prog.keyLits (d + 2) 24 (bys L) = some ls := by
  unfold Program.keyLits
  rw [Tryz.underlying24]
  dsimp only
  rw [if_pos (by rw [bys_len, hL.1]; kernel_rfl)]
  obtain ⟨ys, hys⟩ := mapM_ex (fun i => Tryz.prog.keyLits (d + 1) 5 (((bys L).drop (i * Tryz.prog.cellsOf 5)).take (Tryz.prog.cellsOf 5))) (List.range 32) (fun i hi => by
    have hi2 : i < 32 := List.mem_range.1 hi
    have hn : i < L.length := by rw [hL.1]; exact hi2
    have e1 : Tryz.prog.cellsOf 5 = 1 := by kernel_rfl
    refine ⟨[.int .u8 (L[i] : Nat)], ?_⟩
    rw [e1, Nat.mul_one]
    have e2 : ((bys L).drop i).take 1 = [.int .u8 (L[i] : Nat)] := by
      apply List.ext_getElem?
      intro j
      cases j with
      | zero => rw [List.getElem?_take_of_lt (by omega), List.getElem?_drop, Nat.add_zero]; simp [bys, List.getElem?_eq_getElem hn]
      | succ j => rw [List.getElem?_take_eq_none (by omega)]; rfl
    rw [e2]
    unfold Program.keyLits
    rw [Tryz.underlying5]
    dsimp only
    rw [if_pos ⟨rfl, wf8 (hL.2 _ (List.getElem_mem ..))⟩])
  exact ⟨ys.flatten, by rw [hys]; rfl⟩
/-- A hash as a value. -/
def hv (H : List Nat) : Value := .agg (bys H).toArray
theorem key_hash (H : List Nat) (hH : IsH H) : ∃ l, keyOf Tryz.prog 24 (hv H) = some l := by
  obtain ⟨ls, hls⟩ := lits_hash H hH (Tryz.prog.types.size - 1)
  have ed : Tryz.prog.types.size - 1 + 2 = Tryz.prog.types.size + 1 := by kernel_rfl
  rw [ed] at hls
  unfold hv keyOf
  rw [Tryz.underlying24]
  dsimp only
  have e1 : (Tryz.prog.keyType 24 && (Value.agg (bys H).toArray).formed Tryz.prog 24) = true := by
    rw [Bool.and_eq_true]
    refine ⟨by kernel_rfl, ?_⟩
    unfold Value.formed
    rw [Tryz.underlying24]
    show ((bys H).toArray.size == Tryz.prog.cellsOf 24) = true
    rw [List.size_toArray, bys_len, hH.1]
    kernel_rfl
  rw [if_pos e1]
  have hc : (Value.agg (bys H).toArray).cells.toList = bys H := by simp [Value.cells]
  rw [hc, hls]
  exact ⟨_, rfl⟩

/-- A block that is a map of one hash. -/
def OneM (w : World) (b : Nat) (H : List Nat) (v : Value) : Prop := w.heap[b]? = some (.map #[⟨hv H, v, 0⟩] 1)
theorem OneM.lt {w : World} {b : Nat} {H : List Nat} {v : Value} (h : OneM w b H v) : b < w.heap.size := (Array.getElem?_eq_some_iff.1 h).1
theorem OneM.below {w w' : World} {b : Nat} {H : List Nat} {v : Value} (h : OneM w b H v) (hb : Below w.heap.size w w') : OneM w' b H v := heap_below h hb
theorem find_same (w : World) (H : List Nat) (hH : IsH H) (v : Value) : (Instr.findKey 24 (hv H) [⟨hv H, v, 0⟩]).run Tryz.prog w = .ok (some (0, v)) w := by
  obtain ⟨l, hl⟩ := key_hash H hH
  rcases hashKeyed.find w hl [⟨hv H, v, 0⟩] (fun e he => by rw [List.mem_singleton.1 he]; exact ⟨l, hl⟩) with ⟨_, h2⟩ | ⟨j, e, h1, h2, h3⟩
  · exact absurd rfl (h2 _ (List.mem_singleton.2 rfl))
  · cases j with
    | zero =>
      simp at h2
      subst h2
      exact h1
    | succ j => simp at h2
theorem find_empty (w : World) (H : List Nat) (hH : IsH H) : (Instr.findKey 24 (hv H) []).run Tryz.prog w = .ok none w := by
  obtain ⟨l, hl⟩ := key_hash H hH
  rcases hashKeyed.find w hl [] (fun e he => by cases he) with ⟨h1, _⟩ | ⟨j, e, h1, h2, h3⟩
  · exact h1
  · cases h2
theorem look_same {t e : TypeId} (ht : Tryz.prog.underlying t = some (.map 24 e)) {w : World} {b : Nat} {H : List Nat} (hH : IsH H) {v : Value} (h : OneM w b H v) :
    (Instr.lookup t (.map (some b)) (hv H) false).run Tryz.prog w = .ok v w := by
  obtain ⟨l, hl⟩ := key_hash H hH
  simp [Instr.lookup, run_underlying ht, MapKept.run_getObj_map h, hashKeyed.check w _ hl, find_same w H hH v, Result.andThen]
theorem look_emp {t e : TypeId} (ht : Tryz.prog.underlying t = some (.map 24 e)) {w : World} {b : Nat} {H : List Nat} (hH : IsH H) (h : EmpM w b) {z : Value} (hz : (zeroValue e).run Tryz.prog w = .ok z w) :
    (Instr.lookup t (.map (some b)) (hv H) false).run Tryz.prog w = .ok z w := by
  obtain ⟨l, hl⟩ := key_hash H hH
  simp [Instr.lookup, run_underlying ht, MapKept.run_getObj_map h, hashKeyed.check w _ hl, find_empty w H hH, hz, Result.andThen]
theorem upd_emp {t e : TypeId} (ht : Tryz.prog.underlying t = some (.map 24 e)) {w : World} {b : Nat} {H : List Nat} (hH : IsH H) (h : EmpM w b) (v : Value) :
    ∃ w', (Instr.mapUpdate t (.map (some b)) (hv H) v).run Tryz.prog w = .ok () w' ∧ OneM w' b H v ∧ w.grownBy w' (some b) := by
  obtain ⟨l, hl⟩ := key_hash H hH
  refine ⟨setBlock w b (.map #[⟨hv H, v, 0⟩] 1), ?_, heap_setBlock_same h _, ⟨rfl, rfl, rfl, by simp [setBlock], fun i _ hi => heap_setBlock_other h _ (fun e => hi (by rw [e]))⟩⟩
  simp [Instr.mapUpdate, run_underlying ht, MapKept.run_getObj_map h, hashKeyed.check w _ hl, find_empty w H hH, MapKept.run_setObj_map _ h, Result.andThen, setBlock]

/-- An iterator over a map of one. -/
def ItM (w : World) (r b : Nat) (seen : Array Nat) : Prop := w.heap[r]? = some (.mapIter (some b) 1 seen 1)
theorem ItM.below {w w' : World} {r b : Nat} {seen : Array Nat} (h : ItM w r b seen) (hb : Below w.heap.size w w') : ItM w' r b seen := heap_below h hb
theorem ItM.lt {w : World} {r b : Nat} {seen : Array Nat} (h : ItM w r b seen) : r < w.heap.size := (Array.getElem?_eq_some_iff.1 h).1
theorem range_one {t e : TypeId} (ht : Tryz.prog.underlying t = some (.map 24 e)) {w : World} {b : Nat} {H : List Nat} {v : Value} (h : OneM w b H v) :
    (Instr.range t (.map (some b))).run Tryz.prog w = .ok (.pointer (some ⟨w.heap.size, 0, none⟩)) (w.alloc (.mapIter (some b) 1 #[] 1)) := run_range_map w t _ e b _ 1 ht h
theorem hset_same {w : World} {b : Nat} (hb : b < w.heap.size) (o : Obj) : (setBlock w b o).heap[b]? = some o := by simp [setBlock, hb]
theorem hset_other {w : World} {b i : Nat} (o : Obj) (h : i ≠ b) : (setBlock w b o).heap[i]? = w.heap[i]? := by unfold setBlock; exact Array.getElem?_setIfInBounds_ne (Ne.symm h)
theorem next_one {w : World} {r b : Nat} {H : List Nat} {v : Value} (h : OneM w b H v) (hi : ItM w r b #[]) :
    ∃ w', (∀ ty, (Instr.next (.pointer (some ⟨r, 0, none⟩)) false ty).run Tryz.prog w = .ok (.tuple #[.bool true, hv H, v]) w') ∧ ItM w' r b #[0] ∧ w.grownBy w' (some r) := by
  refine ⟨setBlock w r (.mapIter (some b) 1 #[0] 1), fun ty => ?_, hset_same hi.lt _, ⟨rfl, rfl, rfl, by simp [setBlock], fun i _ hi2 => hset_other _ (fun e => hi2 (by rw [e]))⟩⟩
  have h1 : w.heap[r]? = some (.mapIter (some b) 1 #[] 1) := hi
  have h2 : w.heap[b]? = some (.map #[⟨hv H, v, 0⟩] 1) := h
  simp [Instr.next, getObj, Sem.run, h1, h2, Result.andThen, choose, Question.forced, setObj, setBlock]
theorem next_over {w : World} {r b : Nat} {H : List Nat} {v : Value} (h : OneM w b H v) (hi : ItM w r b #[0]) (ty : TypeId) :
    (Instr.next (.pointer (some ⟨r, 0, none⟩)) false ty).run Tryz.prog w = .ok (.tuple #[.bool false]) w := by
  have h1 : w.heap[r]? = some (.mapIter (some b) 1 #[0] 1) := hi
  have h2 : w.heap[b]? = some (.map #[⟨hv H, v, 0⟩] 1) := h
  simp [Instr.next, getObj, Sem.run, h1, h2, Result.andThen, choose, Question.forced]
theorem entry_one {w : World} {r b : Nat} {H : List Nat} {v : Value} (h : OneM w b H v) (hi : ItM w r b #[0]) :
    (Instr.entry (.pointer (some ⟨r, 0, none⟩))).run Tryz.prog w = .ok (.tuple #[hv H, v]) w := by
  have h1 : w.heap[r]? = some (.mapIter (some b) 1 #[0] 1) := hi
  have h2 : w.heap[b]? = some (.map #[⟨hv H, v, 0⟩] 1) := h
  simp [Instr.entry, getObj, Sem.run, h1, h2, Result.andThen]
end Go.Proofs.YthnbnckmeffkmaaGreat
/- The world of a genesis alone, as data. -/
namespace Go.Proofs.YthnbnckmeffkmaaGreat
open Go.RowKit Go.Lib
open Go.ChangeMaps
set_option linter.unusedVariables false
set_option linter.unusedSimpArgs false
attribute [local go_sem ↓] Go.wp_at_zero Go.wp_at_succ

def zH : List Nat := List.replicate 32 0
theorem zH_h : IsH zH := ⟨rfl, fun x hx => by rw [List.eq_of_mem_replicate hx]; omega⟩
/-- The genesis' header, its id. -/
def gR : List Nat := mrootF []
def gC : List Nat := tagF nCoins (le8 0)
def gH : Hdr := ⟨[], gR, gR, gC, zH, 0⟩
def gI : List Nat := idF gH
theorem gR_h : IsH gR := mrootF_h _
theorem gC_h : IsH gC := tagF_h _ _
theorem gH_ok : gH.ok := ⟨gR_h, gR_h, gC_h, zH_h, by show (0:Nat) ≤ _; omega⟩
theorem gI_h : IsH gI := tagF_h _ _
/-- The parameters' cells. -/
def pC : List Value := [.int .i64 0, .int .i64 1, .int .i64 1, .int .i64 0, .int .i64 0, .int .i64 0, .int .u64 0, .int .i64 0, .int .i64 0, .int .u8 0, .int .u8 0, .int .u8 0, .int .u8 0, .int .u8 0, .int .u8 0, .int .u8 0, .int .u8 0, .int .u8 0, .int .u8 0, .int .u8 0, .int .u8 0, .int .u8 0, .int .u8 0, .int .u8 0, .int .u8 0, .int .u8 0, .int .u8 0, .int .u8 0, .int .u8 0, .int .u8 0, .int .u8 0, .int .u8 0, .int .u8 0, .int .u8 0, .int .u8 0, .int .u8 0, .int .u8 0, .int .u8 0, .int .u8 0, .int .u8 0, .int .u8 0]
/-- A result's cells, of nothing. -/
def r0C : List Value := [.slice none 0 0, .slice none 0 0, .slice none 0 0, .slice none 0 0, .slice none 0 0, .int .i64 0]
def blkC : List Value := hdC (.slice none 0 0) gH ++ [.slice none 0 0]
def knownC (pm wm st : Nat) : List Value := hdC (.slice none 0 0) gH ++ ([.slice none 0 0, .map (some pm)] ++ (bys zH ++ ([.int .u64 0, .slice none 0 0, .slice none 0 0, .map (some wm), .int .i64 1] ++ (r0C ++ [.pointer (some ⟨st, 0, none⟩)]))))
def worldC (m : Nat) (H : List Nat) (V : List Value) (sv : Value) : List Value := pC ++ ([.map (some m)] ++ (bys H ++ (V ++ [sv])))
def v0C : List Value := bys zH ++ ([.slice none 0 0, .int .u64 0, .slice none 0 0, .slice none 0 0] ++ r0C)
theorem v0C_len : v0C.length = 42 := by kernel_rfl
theorem hdC_g : (hdC (.slice none 0 0) gH).length = 130 := hdC_len _ _ gH_ok
theorem blkC_len : blkC.length = 131 := by unfold blkC; rw [List.length_append, hdC_g]; rfl
theorem knownC_len (pm wm st : Nat) : (knownC pm wm st).length = 176 := by unfold knownC; simp only [List.length_append, hdC_g]; kernel_rfl
theorem worldC_len (m : Nat) (H V : List Value) : True := trivial
theorem worldC_len' (m : Nat) (H : List Nat) (hH : IsH H) (V : List Value) (hV : V.length = 42) (sv : Value) : (worldC m H V sv).length = 117 := by unfold worldC; simp only [List.length_append, bys_len, hH.1, hV]; kernel_rfl

theorem hdr_build0 (R A C : List Nat) (hR : R.length = 32) (hA : A.length = 32) (hC : C.length = 32) (w : World) :
    (Instr.build 50 #[(1, .agg (bys R).toArray), (2, .agg (bys A).toArray), (3, .agg (bys C).toArray), (4, .agg (bys zH).toArray)]).run Tryz.prog w = .ok (.agg (hdC (.slice none 0 0) ⟨[], R, A, C, zH, 0⟩).toArray) w := by
  match R, hR, A, hA, C, hC with
  | [x0, x1, x2, x3, x4, x5, x6, x7, x8, x9, x10, x11, x12, x13, x14, x15, x16, x17, x18, x19, x20, x21, x22, x23, x24, x25, x26, x27, x28, x29, x30, x31], _, [y0, y1, y2, y3, y4, y5, y6, y7, y8, y9, y10, y11, y12, y13, y14, y15, y16, y17, y18, y19, y20, y21, y22, y23, y24, y25, y26, y27, y28, y29, y30, y31], _, [z0, z1, z2, z3, z4, z5, z6, z7, z8, z9, z10, z11, z12, z13, z14, z15, z16, z17, z18, z19, z20, z21, z22, z23, z24, z25, z26, z27, z28, z29, z30, z31], _ => show _ = _; kernel_rfl
theorem hdr_build (w : World) : (Instr.build 50 #[(1, .agg (bys gR).toArray), (2, .agg (bys gR).toArray), (3, .agg (bys gC).toArray), (4, .agg (bys zH).toArray)]).run Tryz.prog w = .ok (.agg (hdC (.slice none 0 0) gH).toArray) w :=
  hdr_build0 gR gR gC gR_h.1 gR_h.1 gC_h.1 w
theorem blk_build0 (R A C : List Nat) (hR : R.length = 32) (hA : A.length = 32) (hC : C.length = 32) (w : World) :
    (Instr.build 53 #[(0, .agg (hdC (.slice none 0 0) ⟨[], R, A, C, zH, 0⟩).toArray)]).run Tryz.prog w = .ok (.agg (hdC (.slice none 0 0) ⟨[], R, A, C, zH, 0⟩ ++ [Value.slice none 0 0]).toArray) w := by
  match R, hR, A, hA, C, hC with
  | [x0, x1, x2, x3, x4, x5, x6, x7, x8, x9, x10, x11, x12, x13, x14, x15, x16, x17, x18, x19, x20, x21, x22, x23, x24, x25, x26, x27, x28, x29, x30, x31], _, [y0, y1, y2, y3, y4, y5, y6, y7, y8, y9, y10, y11, y12, y13, y14, y15, y16, y17, y18, y19, y20, y21, y22, y23, y24, y25, y26, y27, y28, y29, y30, y31], _, [z0, z1, z2, z3, z4, z5, z6, z7, z8, z9, z10, z11, z12, z13, z14, z15, z16, z17, z18, z19, z20, z21, z22, z23, z24, z25, z26, z27, z28, z29, z30, z31], _ => show _ = _; kernel_rfl
theorem blk_build (w : World) : (Instr.build 53 #[(0, .agg (hdC (.slice none 0 0) gH).toArray)]).run Tryz.prog w = .ok (.agg blkC.toArray) w := blk_build0 gR gR gC gR_h.1 gR_h.1 gC_h.1 w
theorem known_build0 (R A C : List Nat) (hR : R.length = 32) (hA : A.length = 32) (hC : C.length = 32) (pm wm st : Nat) (w : World) :
    (Instr.build 123 #[(0, .agg (hdC (.slice none 0 0) ⟨[], R, A, C, zH, 0⟩ ++ [Value.slice none 0 0]).toArray), (1, .map (some pm)), (3, .map (some wm)), (4, .int .i64 1), (6, .pointer (some ⟨st, 0, none⟩))]).run Tryz.prog w = .ok (.agg (hdC (.slice none 0 0) ⟨[], R, A, C, zH, 0⟩ ++ ([Value.slice none 0 0, Value.map (some pm)] ++ (bys zH ++ ([Value.int .u64 0, .slice none 0 0, .slice none 0 0, .map (some wm), .int .i64 1] ++ (r0C ++ [Value.pointer (some ⟨st, 0, none⟩)]))))).toArray) w := by
  match R, hR, A, hA, C, hC with
  | [x0, x1, x2, x3, x4, x5, x6, x7, x8, x9, x10, x11, x12, x13, x14, x15, x16, x17, x18, x19, x20, x21, x22, x23, x24, x25, x26, x27, x28, x29, x30, x31], _, [y0, y1, y2, y3, y4, y5, y6, y7, y8, y9, y10, y11, y12, y13, y14, y15, y16, y17, y18, y19, y20, y21, y22, y23, y24, y25, y26, y27, y28, y29, y30, y31], _, [z0, z1, z2, z3, z4, z5, z6, z7, z8, z9, z10, z11, z12, z13, z14, z15, z16, z17, z18, z19, z20, z21, z22, z23, z24, z25, z26, z27, z28, z29, z30, z31], _ => show _ = _; kernel_rfl
theorem known_build (pm wm st : Nat) (w : World) : (Instr.build 123 #[(0, .agg blkC.toArray), (1, .map (some pm)), (3, .map (some wm)), (4, .int .i64 1), (6, .pointer (some ⟨st, 0, none⟩))]).run Tryz.prog w = .ok (.agg (knownC pm wm st).toArray) w := known_build0 gR gR gC gR_h.1 gR_h.1 gC_h.1 pm wm st w
theorem world_build0 (H : List Nat) (hH : H.length = 32) (m : Nat) (w : World) :
    (Instr.build 94 #[(0, .agg pC.toArray), (1, .map (some m)), (2, .agg (bys H).toArray)]).run Tryz.prog w = .ok (.agg (worldC m H v0C (.pointer none)).toArray) w := by
  match H, hH with
  | [x0, x1, x2, x3, x4, x5, x6, x7, x8, x9, x10, x11, x12, x13, x14, x15, x16, x17, x18, x19, x20, x21, x22, x23, x24, x25, x26, x27, x28, x29, x30, x31], _ => show _ = _; kernel_rfl
theorem world_build (m : Nat) (w : World) : (Instr.build 94 #[(0, .agg pC.toArray), (1, .map (some m)), (2, .agg (bys gI).toArray)]).run Tryz.prog w = .ok (.agg (worldC m gI v0C (.pointer none)).toArray) w := world_build0 gI gI_h.1 m w
theorem known_app (pm wm st : Nat) : ∃ Y, knownC pm wm st = hdC (.slice none 0 0) gH ++ Y := ⟨_, rfl⟩
theorem k_txs (pm wm st : Nat) : (knownC pm wm st)[130]? = some (.slice none 0 0) := by
  unfold knownC
  rw [List.getElem?_append_right (by rw [hdC_g]; omega), hdC_g]
  kernel_rfl
theorem k_past (pm wm st : Nat) : (knownC pm wm st)[131]? = some (.map (some pm)) := by
  unfold knownC
  rw [List.getElem?_append_right (by rw [hdC_g]; omega), hdC_g]
  kernel_rfl
theorem k_score (pm wm st : Nat) : (knownC pm wm st)[164]? = some (.int .u64 0) := by
  unfold knownC
  rw [List.getElem?_append_right (by rw [hdC_g]; omega), hdC_g]
  kernel_rfl
theorem k_merge (pm wm st : Nat) : (knownC pm wm st)[165]? = some (.slice none 0 0) := by
  unfold knownC
  rw [List.getElem?_append_right (by rw [hdC_g]; omega), hdC_g]
  kernel_rfl
theorem k_world (pm wm st : Nat) : (knownC pm wm st)[167]? = some (.map (some wm)) := by
  unfold knownC
  rw [List.getElem?_append_right (by rw [hdC_g]; omega), hdC_g]
  kernel_rfl
theorem k_status (pm wm st : Nat) : (knownC pm wm st)[168]? = some (.int .i64 1) := by
  unfold knownC
  rw [List.getElem?_append_right (by rw [hdC_g]; omega), hdC_g]
  kernel_rfl
theorem k_set (pm wm st : Nat) : (knownC pm wm st)[175]? = some (.pointer (some ⟨st, 0, none⟩)) := by
  unfold knownC
  rw [List.getElem?_append_right (by rw [hdC_g]; omega), hdC_g]
  kernel_rfl
theorem k_par (pm wm st : Nat) : (knownC pm wm st)[0]? = some (.slice none 0 0) := rfl
theorem k_miner (pm wm st j : Nat) (v : Value) (h : (bys zH)[j]? = some v) : (knownC pm wm st)[97 + j]? = some v := by
  have hj : j < 32 := by have := (List.getElem?_eq_some_iff.1 h).1; rwa [bys_len, zH_h.1] at this
  unfold knownC
  rw [List.getElem?_append_left (by rw [hdC_g]; omega)]
  unfold hdC
  rw [show 97 + j = (96 + j) + 1 by omega, List.getElem?_cons_succ, List.getElem?_append_right (by rw [bys_len, gH_ok.r.1]; omega), bys_len, gH_ok.r.1, List.getElem?_append_right (by rw [bys_len, gH_ok.a.1]; omega), bys_len, gH_ok.a.1, List.getElem?_append_right (by rw [bys_len, gH_ok.c.1]; omega), bys_len, gH_ok.c.1, List.getElem?_append_left (by rw [bys_len, gH_ok.m.1]; omega)]
  rw [show 96 + j - 32 - 32 - 32 = j by omega]
  exact h
theorem w_p (m : Nat) (H : List Nat) (V : List Value) (sv : Value) (j : Nat) (v : Value) (h : pC[j]? = some v) : (worldC m H V sv)[j]? = some v := by
  unfold worldC
  rw [List.getElem?_append_left (List.getElem?_eq_some_iff.1 h).1]
  exact h
theorem pC_len : pC.length = 41 := rfl
theorem w_all (m : Nat) (H : List Nat) (V : List Value) (sv : Value) : (worldC m H V sv)[41]? = some (.map (some m)) := by
  unfold worldC
  rw [List.getElem?_append_right (by rw [pC_len]; omega), pC_len]
  rfl
theorem w_v (m : Nat) (H : List Nat) (hH : IsH H) (V : List Value) (sv : Value) (j : Nat) (v : Value) (h : V[j]? = some v) : (worldC m H V sv)[74 + j]? = some v := by
  unfold worldC
  rw [List.getElem?_append_right (by rw [pC_len]; omega), pC_len, show 74 + j - 41 = (32 + j) + 1 by omega]
  show ([Value.map (some m)] ++ _)[_]? = _
  rw [List.singleton_append, List.getElem?_cons_succ, List.getElem?_append_right (by rw [bys_len, hH.1]; omega), bys_len, hH.1, show 32 + j - 32 = j by omega, List.getElem?_append_left (List.getElem?_eq_some_iff.1 h).1]
  exact h
theorem w_set (m : Nat) (H : List Nat) (hH : IsH H) (V : List Value) (hV : V.length = 42) (sv : Value) : (worldC m H V sv)[116]? = some sv := by
  unfold worldC
  rw [List.getElem?_append_right (by rw [pC_len]; omega), pC_len, show 116 - 41 = 74 + 1 by omega]
  rw [List.singleton_append, List.getElem?_cons_succ, List.getElem?_append_right (by rw [bys_len, hH.1]; omega), bys_len, hH.1, List.getElem?_append_right (by rw [hV]; omega), hV]
  rfl
/-- A set of coins without coins: its blocks. -/
structure SetE (s c : Nat) (w : World) : Prop where
  a : Arr w s 194 [.map (some c)]
  m : EmpM w c
theorem SetE.emp {s c : Nat} {w : World} (h : SetE s c w) : EmpS w s := ⟨c, h.a, h.m⟩
theorem SetE.below {s c : Nat} {w w' : World} (h : SetE s c w) (hb : Below w.heap.size w w') : SetE s c w' := ⟨h.a.below hb h.a.lt, h.m.below hb⟩
set_option maxRecDepth 100000 in
theorem cnew_set (w : World) : Calls Tryz.prog 79 #[] w fun e w' => ∃ s c, e = .returned (.pointer (some ⟨s, 0, none⟩)) ∧ w.heap.size ≤ s ∧ w.heap.size ≤ c ∧ SetE s c w' ∧ Below w.heap.size w w' := by
  have hmm := @run_makeMap Tryz.prog
  go_enter Tryz.func79, Tryz.ntmps79
  go_wp2
  go_ret
  have hs : (w.alloc (.map #[] 0)).heap.size = w.heap.size + 1 := World.size_alloc _ _
  have h1 := Arr.made (w.alloc (.map #[] 0)) 194 [.map (some w.heap.size)]
  rw [hs] at h1
  have hb := (Below.refl (w.alloc (.map #[] 0)).heap.size (w.alloc (.map #[] 0))).alloc (Nat.le_refl _) (.cells [Value.map (some w.heap.size)].toArray 194)
  have h2 : EmpM (w.alloc (.map #[] 0)) w.heap.size := heap_alloc_last w _
  exact ⟨w.heap.size + 1, w.heap.size, rfl, by omega, by omega, ⟨h1, h2.below hb⟩, ((Below.refl w.heap.size w).alloc (Nat.le_refl _) _).trans (hb.mono (by rw [hs]; omega))⟩
/-- The blocks of the genesis' world. -/
structure GB where
  wd : Nat
  m : Nat
  kb : Nat
  pm : Nat
  wm : Nat
  st : Nat
  sc : Nat
/-- The world of a genesis. -/
structure Gen (G : GB) (V : List Value) (sv : Value) (w : World) : Prop where
  a : Arr w G.wd 94 (worldC G.m gI V sv)
  m : OneM w G.m gI (.pointer (some ⟨G.kb, 0, none⟩))
  k : Arr w G.kb 123 (knownC G.pm G.wm G.st)
  p : EmpM w G.pm
  q : EmpM w G.wm
  s : SetE G.st G.sc w
theorem Gen.below {G : GB} {V : List Value} {sv : Value} {w w' : World} (h : Gen G V sv w) (hb : Below w.heap.size w w') : Gen G V sv w' := ⟨h.a.below hb h.a.lt, h.m.below hb, h.k.below hb h.k.lt, h.p.below hb, h.q.below hb, h.s.below hb⟩
theorem Gen.all {G : GB} {V : List Value} {sv : Value} {w : World} (h : Gen G V sv w) : w.cell? ⟨G.wd, 41, none⟩ = some (.map (some G.m)) := by rw [h.a.cell]; exact w_all _ _ _ _
theorem Gen.look {G : GB} {V : List Value} {sv : Value} {w : World} (h : Gen G V sv w) : (Instr.lookup 92 (.map (some G.m)) (hv gI) false).run Tryz.prog w = .ok (.pointer (some ⟨G.kb, 0, none⟩)) w := look_same Tryz.underlying92 gI_h h.m
theorem Gen.kc {G : GB} {V : List Value} {sv : Value} {w : World} (h : Gen G V sv w) {j : Nat} {v : Value} (hv : (knownC G.pm G.wm G.st)[j]? = some v) : w.cell? ⟨G.kb, j, none⟩ = some v := by rw [h.k.cell]; exact hv
theorem Gen.wc {G : GB} {V : List Value} {sv : Value} {w : World} (h : Gen G V sv w) {j : Nat} {v : Value} (hv : (worldC G.m gI V sv)[j]? = some v) : w.cell? ⟨G.wd, j, none⟩ = some v := by rw [h.a.cell]; exact hv
theorem Gen.miner {G : GB} {V : List Value} {sv : Value} {w : World} (h : Gen G V sv w) : w.rangeAt G.kb 97 (bys zH) := fun j v hv => h.kc (k_miner _ _ _ j v hv)
theorem Gen.par {G : GB} {V : List Value} {sv : Value} {w : World} (h : Gen G V sv w) : w.rangeAt G.wd 0 pC := fun j v hv => by rw [Nat.zero_add]; exact h.wc (w_p _ _ _ _ j v hv)
end Go.Proofs.YthnbnckmeffkmaaGreat
