/- plexusref03.left. -/
import Derived.Test.YthnbnckmeffkmaaGreatG16
import Derived.Test.YthnbnckmeffkmaaGreatG14
namespace Go.Proofs.YthnbnckmeffkmaaGreat
open Go.RowKit Go.Lib
set_option linter.unusedVariables false
set_option linter.unusedSimpArgs false
attribute [local go_sem ↓] Go.wp_at_zero Go.wp_at_succ

theorem add_nospot' (b o j : Nat) : (⟨b, o, none⟩ : Addr).add j = ⟨b, o + j, none⟩ := by
  unfold Addr.add
  split
  · rename_i h; subst h; rfl
  · rfl
theorem hs_take {w : World} {a : Option Addr} {c : Nat} {Is : List (List Nat)} (h : HsIs w (.slice a Is.length c) Is) (k : Nat) (hk : k ≤ Is.length) (h0 : 0 < k) : HsIs w (.slice a k c) (Is.take k) := by
  refine ⟨fun x hx => h.1 x (List.mem_of_mem_take hx), ?_⟩
  rcases h.2 with ⟨e, h9⟩ | ⟨b, off, c', e, q1, q2, q3⟩
  · rw [h9] at hk; simp at hk; omega
  · cases e
    have hl : (Is.take k).length = k := by rw [List.length_take]; omega
    refine .inr ⟨b, off, c, by rw [hl], by omega, q2, fun j hj => ?_⟩
    rw [hl] at hj
    have := q3 j (by omega)
    rw [show (Is.take k).getD j [] = Is.getD j [] by simp only [List.getD, List.getElem?_take_of_lt hj]]
    exact this

theorem hs_drop {w : World} {a : Option Addr} {c : Nat} {Is : List (List Nat)} (h : HsIs w (.slice a Is.length c) Is) (k : Nat) (hk : k < Is.length) :
    HsIs w (.slice (if c = k then a else Option.map (fun x => x.add (k * 32)) a) (Is.length - k) (c - k)) (Is.drop k) := by
  refine ⟨fun x hx => h.1 x (List.mem_of_mem_drop hx), ?_⟩
  rcases h.2 with ⟨e, h9⟩ | ⟨b, off, c', e, q1, q2, q3⟩
  · rw [h9] at hk; simp at hk
  · cases e
    have hl : (Is.drop k).length = Is.length - k := List.length_drop
    rw [if_neg (by omega)]
    refine .inr ⟨b, off + k * 32, c - k, by rw [hl, Option.map_some, add_nospot'], by omega, by omega, fun j hj => ?_⟩
    rw [hl] at hj
    have := q3 (k + j) (by omega)
    rw [show (Is.drop k).getD j [] = Is.getD (k + j) [] by simp only [List.getD, List.getElem?_drop], show off + k * 32 + j * 32 = off + (k + j) * 32 by omega]
    exact this
theorem leftR_isH (c : Nat) : ∀ l : List (List Nat), l.length = c → 1 ≤ c → IsH (leftR [] knotF (l.map leafF)) := by
  intro l hl h1
  by_cases h : c ≤ 1
  · obtain ⟨J, rfl⟩ : ∃ J, l = [J] := List.length_eq_one_iff.1 (by omega)
    rw [List.map_cons, List.map_nil, leftR_one _ _ _ (by simp)]
    exact leafF_h J
  · rw [leftR_more _ _ _ (by rw [List.length_map]; omega)]
    exact tagF_h _ _
theorem hs_cap {w : World} {a : Option Addr} {c : Nat} {Is : List (List Nat)} (h : HsIs w (.slice a Is.length c) Is) : Is.length ≤ c := by
  rcases h.2 with ⟨e, h9⟩ | ⟨b, off, c', e, q1, q2, q3⟩
  · rw [h9]; exact Nat.zero_le _
  · cases e; exact q1

set_option maxRecDepth 100000 in
set_option maxHeartbeats 3200000 in
theorem rleft_any (N : Nat) : ∀ (v : Value) (Is : List (List Nat)) (w : World), Is.length = N → 1 ≤ N → N ≤ 1000000 → HsIs w v Is →
    Calls Tryz.prog 96 #[v] w fun e w' => e = .returned (.agg (bys (leftR [] knotF (Is.map leafF))).toArray) ∧ Below w.heap.size w w' := by
  induction N using Nat.strongRecOn with
  | _ N ih =>
  intro v Is w hN h1 hl hv
  have hz := zero32
  obtain ⟨a0, c0, rfl⟩ := hv.form
  have HV := Lib.hid hv
  have HN := Lib.hid (And.intro hN (And.intro h1 hl))
  have HIh := Lib.hid ih
  clear hv hN h1 hl ih
  by_cases hone : Is.length = 1
  · have hq : (((Is.length : Nat) : Int) == 1) = true := by rw [hone]; rfl
    obtain ⟨H0, rfl⟩ : ∃ H0, Is = [H0] := List.length_eq_one_iff.1 hone
    obtain ⟨b, off, rfl⟩ : ∃ b off, a0 = some ⟨b, off, none⟩ := by
      rcases HV.out.2 with ⟨_, h0⟩ | ⟨b, off, c, e1, _⟩
      · cases h0
      · injection e1 with e1 _ _; exact ⟨b, off, e1⟩
    have hr0 := colS_at HV.out (show 0 < [H0].length by simp)
    rw [Nat.zero_mul, Nat.add_zero] at hr0
    have HH0 := Lib.hid (HV.out.1 H0 (by simp))
    have HR0 := Lib.hid (show w.rangeAt b off (bys H0) from hr0)
    have HSh0 := Lib.hid (size_hash H0 HH0.out.1)
    clear hone hr0
    rw [show [H0].length = 1 from rfl] at hq ⊢
    go_enter Tryz.func96, Tryz.ntmps96
    go_upto_region 1 with fail
    have hpk := And.intro (Arr.made w 24 (List.replicate 32 (.int .u8 0))) ((Below.refl w.heap.size w).alloc (Nat.le_refl _) (.cells (List.replicate 32 (.int .u8 0)).toArray 24))
    simp only [List.reduceReplicate] at hpk
    have HPk := Lib.hid hpk
    clear hpk hz
    generalize World.alloc _ _ = w1 at HPk ⊢
    have HR1 := Lib.hid (rangeAt_below HR0.out HPk.out.2 (World.block_lt_of_cell? w _ (HR0.out 0 _ (bys_get _ 0 (by rw [HH0.out.1]; omega)))))
    go_upto_region 2 with fail
    clear hq
    go_step
    iterate 6 (first | go_values | go_skip | go_guarded | go_step | go_upon)
    refine wpList_load_mid (P := Tryz.prog) rfl 24 _ rfl b off rfl _ _ HR1.out Tryz.underlying24 rfl HSh0.out ?_
    go_wp2_with fail
    refine (rleaf_any H0 HH0.out w1).mono ?_
    rintro e w2 ⟨rfl, hb2⟩
    dsimp only
    have HAx := Lib.hid (HPk.out.1.below hb2 HPk.out.1.lt)
    have HBx := Lib.hid (HPk.out.2.trans (hb2.mono HPk.out.2.size))
    clear hb2
    obtain ⟨R, hR⟩ : ∃ R, R = leafF H0 := ⟨_, rfl⟩
    rw [← hR]
    have HRe := Lib.hid hR
    have HRh := Lib.hid (show IsH R by rw [hR]; exact leafF_h _)
    have HSr := Lib.hid (size_hash R HRh.out.1)
    have HSr2 := Lib.hid (show (Tryz.prog.info? 24).map (·.size) = some (bys R).toArray.size by rw [List.size_toArray]; exact HSr.out)
    have O1 := Lib.hid (all_oneCell_toArray (bys_one R))
    clear hR
    go_step
    refine wpList_store_mid (P := Tryz.prog) rfl 24 _ _ rfl w.heap.size 0 (bys R).toArray rfl rfl (HAx.out.there _ (by simp [bys_len, HRh.out.1])) HSr2.out O1.out ?_
    rw [show (bys R).toArray.toList = bys R from rfl]
    have HA5 := Lib.hid (HAx.out.setAll (bys R) (by simp [bys_len, HRh.out.1]))
    have HB9 := Lib.hid (below_sets w.heap.size (by omega) (bys R) 0 HBx.out)
    generalize World.setCells _ _ _ _ = w9 at *
    go_wp2
    refine bodyPost_ret (results_cell_row (P := Tryz.prog) rfl _ _ w.heap.size 24 _ (0, 0) _ rfl HA5.out Tryz.underlying24 rfl (by rw [List.size_toArray]; exact HSr.out)) rfl ?_
    exact ⟨by rw [HRe.out, List.map_cons, List.map_nil, leftR_one _ _ _ (by simp)]; rfl, HB9.out⟩
  · have hq : (((Is.length : Nat) : Int) == 1) = false := beq_false_of_ne (by omega)
    have HTw := Lib.hid (show 2 ≤ Is.length by have := HN.out; omega)
    clear hone
    go_enter Tryz.func96, Tryz.ntmps96
    go_upto_region 1 with fail
    have hpk := And.intro (Arr.made w 24 (List.replicate 32 (.int .u8 0))) ((Below.refl w.heap.size w).alloc (Nat.le_refl _) (.cells (List.replicate 32 (.int .u8 0)).toArray 24))
    simp only [List.reduceReplicate] at hpk
    have HPk := Lib.hid hpk
    clear hpk hz
    generalize World.alloc _ _ = w1 at HPk ⊢
    go_upto_region 3 with fail
    clear hq
    go_wp2_with fail
    refine (half_any Is.length w1 (by have := HN.out; omega)).mono ?_
    rintro e w2 ⟨rfl, rfl⟩
    dsimp only
    have hb := half_bounds Is.length HTw.out
    obtain ⟨k, hk⟩ : ∃ k, half Is.length = k := ⟨_, rfl⟩
    have HKe := Lib.hid hk
    rw [hk] at hb ⊢
    have HKb := Lib.hid hb
    clear hb hk
    go_upto_region 4 with fail
    refine wp_region_U (fun w' => True) 9 (by kernel_rfl) ?_
    simp only [List.size_toArray, List.length_cons, List.length_nil, Nat.reduceAdd, Array.replicate_succ, Array.replicate_zero, List.push_toArray, List.nil_append, List.cons_append]
    have HS0 := Lib.hid True.intro
    have h0k : 0 ≤ (k : Int) := by omega
    have hkn : (k : Int) ≤ ((Is.length : Nat) : Int) := by have := HKb.out; omega
    have hkc : k ≤ c0 := by have := HKb.out; have := hs_cap HV.out; omega
    refine wpAnyU_take0 (i := 0) (oi := ⟨some 14, _, _, _, _, _⟩) (v := ?_) rfl (by kernel_rfl) (by kernel_rfl) (by kernel_rfl) (by decide) (fun _ _ _ h => h) (Or.inl ⟨by rfl, ?_⟩) (fun _ => HS0.out) ?_
    rotate_left
    · intro w hSw; go_simp <;> with_reducible rfl
    dsimp only [Act.put]
    simp only [List.setIfInBounds_toArray, List.set_cons_zero, List.set_cons_succ]
    refine wpAnyU_take0 (i := 1) (oi := ⟨some 15, _, _, _, _, _⟩) (v := ?_) rfl (by kernel_rfl) (by kernel_rfl) (by kernel_rfl) (by decide) (fun _ _ _ h => h) (Or.inl ⟨by rfl, ?_⟩) (fun _ => HS0.out) ?_
    rotate_left
    · intro w hSw; go_simp <;> with_reducible rfl
    dsimp only [Act.put]
    simp only [List.setIfInBounds_toArray, List.set_cons_zero, List.set_cons_succ]
    refine wpAnyU_take0 (i := 2) (oi := ⟨some 16, _, _, _, _, _⟩) (v := ?_) rfl (by kernel_rfl) (by kernel_rfl) (by kernel_rfl) (by decide) (fun _ _ _ h => h) (Or.inl ⟨by rfl, ?_⟩) (fun _ => HS0.out) ?_
    rotate_left
    · intro w hSw; go_simp <;> with_reducible rfl
    dsimp only [Act.put]
    simp only [List.setIfInBounds_toArray, List.set_cons_zero, List.set_cons_succ]
    refine wpAnyU_take0 (i := 4) (oi := ⟨some 18, _, _, _, _, _⟩) (v := ?_) rfl (by kernel_rfl) (by kernel_rfl) (by kernel_rfl) (by decide) (fun _ _ _ h => h) (Or.inl ⟨by rfl, ?_⟩) (fun _ => HS0.out) ?_
    rotate_left
    · intro w hSw; go_simp <;> with_reducible rfl
    dsimp only [Act.put]
    simp only [List.setIfInBounds_toArray, List.set_cons_zero, List.set_cons_succ]
    refine wpAnyU_take0 (i := 5) (oi := ⟨some 19, _, _, _, _, _⟩) (v := ?_) rfl (by kernel_rfl) (by kernel_rfl) (by kernel_rfl) (by decide) (fun _ _ _ h => h) (Or.inl ⟨by rfl, ?_⟩) (fun _ => HS0.out) ?_
    rotate_left
    · intro w hSw; go_simp <;> with_reducible rfl
    dsimp only [Act.put]
    simp only [List.setIfInBounds_toArray, List.set_cons_zero, List.set_cons_succ]
    refine wpAnyU_take0 (i := 6) (oi := ⟨some 20, _, _, _, _, _⟩) (v := ?_) rfl (by kernel_rfl) (by kernel_rfl) (by kernel_rfl) (by decide) (fun _ _ _ h => h) (Or.inl ⟨by rfl, ?_⟩) (fun _ => HS0.out) ?_
    rotate_left
    · intro w hSw; go_simp <;> with_reducible rfl
    dsimp only [Act.put]
    simp only [List.setIfInBounds_toArray, List.set_cons_zero, List.set_cons_succ]
    obtain ⟨V9, hV9⟩ : ∃ V9, V9 = Value.slice (if c0 = k then a0 else Option.map (fun x => x.add (k * 32)) a0) (Is.length - k) (c0 - k) := ⟨_, rfl⟩
    rw [← hV9]
    have HV9 := Lib.hid hV9
    clear hV9
    refine wpAnyU_one (i := 3) (oi := ⟨some 17, _, _, _, _, _⟩) (by kernel_rfl) rfl rfl (fun K9 hK9 => ?_)
    have HK9 := Lib.hid hK9
    clear hK9
    have HVd := Lib.hid (HV.out.below HPk.out.2).drew
    have HAd := Lib.hid (show Arr w2.drew w.heap.size 24 _ from HPk.out.1)
    have HBd := Lib.hid HPk.out.2.drew
    clear HPk HS0 h0k hkn hkc
    generalize w2.drew = w5 at *
    have HtL := Lib.hid (show (Is.take k).length = k by rw [List.length_take]; have := HKb.out; omega)
    have HdL := Lib.hid (show (Is.drop k).length = Is.length - k by rw [List.length_drop])
    go_simp
    refine (HIh.out k (by have := HKb.out; have := HN.out; omega) _ (Is.take k) w5 HtL.out (by have := HKb.out; omega) (by have := HKb.out; have := HN.out; omega) (hs_take HVd.out k (by have := HKb.out; omega) (by have := HKb.out; omega))).mono ?_
    rintro e w3 ⟨rfl, hb3⟩
    dsimp only
    have HV3 := Lib.hid (HVd.out.below hb3)
    have HA3 := Lib.hid (HAd.out.below hb3 HAd.out.lt)
    have HB3 := Lib.hid (HBd.out.trans (hb3.mono HBd.out.size))
    clear HVd HAd HBd hb3
    obtain ⟨A, hA⟩ : ∃ A, A = leftR [] knotF ((Is.take k).map leafF) := ⟨_, rfl⟩
    have HAe := Lib.hid hA
    have HAh := Lib.hid (show IsH A by rw [hA]; exact leftR_isH _ _ rfl (by have := HtL.out; have := HKb.out; omega))
    rw [← hA]
    clear hA
    refine HK9.out _ _ (fun _ _ => trivial) ?_
    clear HK9
    simp only [List.setIfInBounds_toArray, List.set_cons_zero, List.set_cons_succ]
    refine wpAnyU_one (i := 7) (oi := ⟨some 21, _, _, _, _, _⟩) (by kernel_rfl) rfl rfl (fun K9 hK9 => ?_)
    have HK9 := Lib.hid hK9
    clear hK9
    go_simp
    refine (HIh.out (Is.length - k) (by have := HKb.out; have := HN.out; omega) _ (Is.drop k) w3 HdL.out (by have := HKb.out; omega) (by have := HKb.out; have := HN.out; omega) (by rw [HV9.out]; exact hs_drop HV3.out k (by have := HKb.out; omega))).mono ?_
    rintro e w4 ⟨rfl, hb4⟩
    dsimp only
    have HA4 := Lib.hid (HA3.out.below hb4 HA3.out.lt)
    have HB4 := Lib.hid (HB3.out.trans (hb4.mono HB3.out.size))
    clear HV3 HA3 HB3 hb4
    obtain ⟨B, hB⟩ : ∃ B, B = leftR [] knotF ((Is.drop k).map leafF) := ⟨_, rfl⟩
    have HBe := Lib.hid hB
    have HBh := Lib.hid (show IsH B by rw [hB]; exact leftR_isH _ _ rfl (by have := HdL.out; have := HKb.out; omega))
    rw [← hB]
    clear hB
    refine HK9.out _ _ (fun _ _ => trivial) ?_
    clear HK9
    simp only [List.setIfInBounds_toArray, List.set_cons_zero, List.set_cons_succ]
    refine wpAnyU_one (i := 8) (oi := ⟨some 22, _, _, _, _, _⟩) (by kernel_rfl) rfl rfl (fun K9 hK9 => ?_)
    have HK9 := Lib.hid hK9
    clear hK9
    go_simp
    refine (rknot_any A B HAh.out HBh.out w4).mono ?_
    rintro e w6 ⟨rfl, hb6⟩
    dsimp only
    have HAx := Lib.hid (HA4.out.below hb6 HA4.out.lt)
    have HBx := Lib.hid (HB4.out.trans (hb6.mono HB4.out.size))
    clear HA4 HB4 hb6
    obtain ⟨R, hR⟩ : ∃ R, R = knotF A B := ⟨_, rfl⟩
    rw [← hR]
    have HRe := Lib.hid hR
    have HRh := Lib.hid (show IsH R by rw [hR]; exact tagF_h _ _)
    have HSr := Lib.hid (size_hash R HRh.out.1)
    have HSr2 := Lib.hid (show (Tryz.prog.info? 24).map (·.size) = some (bys R).toArray.size by rw [List.size_toArray]; exact HSr.out)
    have O1 := Lib.hid (all_oneCell_toArray (bys_one R))
    clear hR
    refine HK9.out _ _ (fun _ _ => trivial) ?_
    clear HK9
    simp only [List.setIfInBounds_toArray, List.set_cons_zero, List.set_cons_succ]
    refine wpAnyU_one (i := 9) (oi := ⟨none, _, _, _, _, _⟩) (by kernel_rfl) rfl rfl (fun K9 hK9 => ?_)
    have HK9 := Lib.hid hK9
    clear hK9
    refine wp_store_mid (P := Tryz.prog) 24 (.tmp 2) (.tmp 22) rfl (w.heap.size) 0 (bys R).toArray rfl rfl (HAx.out.there _ (by simp [bys_len, HRh.out.1])) HSr2.out O1.out ?_
    refine HK9.out _ _ (fun h => absurd rfl h) ?_
    clear HK9
    dsimp only [Act.put]
    refine wpAnyU_done (by kernel_rfl) ?_ _
    have HA5 := Lib.hid (HAx.out.setAll (bys R) (by simp [bys_len, HRh.out.1]))
    have HB9 := Lib.hid (below_sets (w.heap.size) (by omega) (bys R) 0 HBx.out)
    generalize World.setCells _ _ _ _ = w9 at *
    go_wp2
    refine bodyPost_ret (results_cell_row (P := Tryz.prog) rfl _ _ (w.heap.size) 24 _ (0, 0) _ rfl HA5.out Tryz.underlying24 rfl (by rw [List.size_toArray]; exact HSr.out)) rfl ?_
    exact ⟨by rw [HRe.out, HAe.out, HBe.out, leftR_more [] knotF (Is.map leafF) (by rw [List.length_map]; have := HTw.out; omega), List.length_map, HKe.out, List.map_take, List.map_drop], HB9.out⟩
end Go.Proofs.YthnbnckmeffkmaaGreat
/- plexusref03.Root. -/
namespace Go.Proofs.YthnbnckmeffkmaaGreat
open Go.RowKit Go.Lib
set_option linter.unusedVariables false
set_option linter.unusedSimpArgs false
attribute [local go_sem ↓] Go.wp_at_zero Go.wp_at_succ

set_option maxRecDepth 100000 in
set_option maxHeartbeats 1600000 in
theorem rroot_any (v : Value) (Is : List (List Nat)) (w : World) (hl : Is.length ≤ 1000000) (hv : HsIs w v Is) :
    Calls Tryz.prog 43 #[v] w fun e w' => e = .returned (.agg (bys (mrootF Is)).toArray) ∧ Below w.heap.size w w' := by
  have hz := zero32
  obtain ⟨a0, c0, rfl⟩ := hv.form
  have HV := Lib.hid hv
  have HL := Lib.hid hl
  clear hv hl
  by_cases h0 : Is.length = 0
  · have hq : (((Is.length : Nat) : Int) == 0) = true := by rw [h0]; rfl
    have HM := Lib.hid (show topF 0 [] = mrootF Is by
      obtain rfl := List.eq_nil_of_length_eq_zero h0
      unfold mrootF
      rw [List.map_nil, leftR_one _ _ _ (by simp)]; rfl)
    clear h0
    go_enter Tryz.func43, Tryz.ntmps43
    go_upto_region 1 with fail
    have hpk := And.intro (Arr.made w 24 (List.replicate 32 (.int .u8 0))) ((Below.refl w.heap.size w).alloc (Nat.le_refl _) (.cells (List.replicate 32 (.int .u8 0)).toArray 24))
    simp only [List.reduceReplicate] at hpk
    have HPk := Lib.hid hpk
    clear hpk hz
    generalize World.alloc _ _ = w1 at HPk ⊢
    go_wp2_with fail
    refine (rtop_any 0 _ [] w1 (by omega) (by simp) (Byts.nil _)).mono ?_
    rintro e w2 ⟨rfl, hb2⟩
    dsimp only
    have HAx := Lib.hid (HPk.out.1.below hb2 HPk.out.1.lt)
    have HBx := Lib.hid (HPk.out.2.trans (hb2.mono HPk.out.2.size))
    clear hb2 hq
    obtain ⟨R, hR⟩ : ∃ R, R = topF 0 [] := ⟨_, rfl⟩
    rw [← hR]
    have HRe := Lib.hid hR
    have HRh := Lib.hid (show IsH R by rw [hR]; exact tagF_h _ _)
    have HSr := Lib.hid (size_hash R HRh.out.1)
    have HSr2 := Lib.hid (show (Tryz.prog.info? 24).map (·.size) = some (bys R).toArray.size by rw [List.size_toArray]; exact HSr.out)
    have O1 := Lib.hid (all_oneCell_toArray (bys_one R))
    clear hR
    go_step
    refine wpList_store_mid (P := Tryz.prog) rfl 24 _ _ rfl w.heap.size 0 (bys R).toArray rfl rfl (HAx.out.there _ (by simp [bys_len, HRh.out.1])) HSr2.out O1.out ?_
    rw [show (bys R).toArray.toList = bys R from rfl]
    have HA5 := Lib.hid (HAx.out.setAll (bys R) (by simp [bys_len, HRh.out.1]))
    have HB9 := Lib.hid (below_sets w.heap.size (by omega) (bys R) 0 HBx.out)
    generalize World.setCells _ _ _ _ = w9 at *
    go_wp2
    refine bodyPost_ret (results_cell_row (P := Tryz.prog) rfl _ _ w.heap.size 24 _ (0, 0) _ rfl HA5.out Tryz.underlying24 rfl (by rw [List.size_toArray]; exact HSr.out)) rfl ?_
    exact ⟨by rw [HRe.out, HM.out], HB9.out⟩
  · have hq : (((Is.length : Nat) : Int) == 0) = false := beq_false_of_ne (by omega)
    have HL1 := Lib.hid (show 1 ≤ Is.length by omega)
    clear h0
    go_enter Tryz.func43, Tryz.ntmps43
    go_upto_region 1 with fail
    have hpk := And.intro (Arr.made w 24 (List.replicate 32 (.int .u8 0))) ((Below.refl w.heap.size w).alloc (Nat.le_refl _) (.cells (List.replicate 32 (.int .u8 0)).toArray 24))
    simp only [List.reduceReplicate] at hpk
    have HPk := Lib.hid hpk
    clear hpk hz
    generalize World.alloc _ _ = w1 at HPk ⊢
    go_wp2_with fail
    refine (rleft_any Is.length _ Is w1 rfl HL1.out HL.out (HV.out.below HPk.out.2)).mono ?_
    rintro e w3 ⟨rfl, hb3⟩
    dsimp only
    clear hq
    obtain ⟨L, hL⟩ : ∃ L, L = leftR [] knotF (Is.map leafF) := ⟨_, rfl⟩
    have HLe := Lib.hid hL
    have HLh := Lib.hid (show IsH L by rw [hL]; exact leftR_isH _ _ rfl HL1.out)
    rw [← hL]
    clear hL
    have HA3 := Lib.hid (HPk.out.1.below hb3 HPk.out.1.lt)
    have HB3 := Lib.hid (HPk.out.2.trans (hb3.mono HPk.out.2.size))
    clear hb3 HPk
    have hz := zero32
    have HSl := Lib.hid (show (Tryz.prog.info? 24).map (·.size) = some (bys L).toArray.size by rw [List.size_toArray]; exact size_hash L HLh.out.1)
    have OL := Lib.hid (all_oneCell_toArray (bys_one L))
    iterate 4 (first | go_values | go_skip | go_guarded | go_step | go_upon)
    have hm := Arr.made w3 24 (List.replicate 32 (.int .u8 0))
    have HPm := Lib.hid (And.intro (hm.there (bys L).toArray.size (by simp [bys_len, HLh.out.1])) (And.intro (hm.setAll (bys L) (by simp [bys_len, HLh.out.1])) (below_sets w3.heap.size (Nat.le_refl _) (bys L) 0 ((Below.refl w3.heap.size w3).alloc (Nat.le_refl _) (.cells (List.replicate 32 (.int .u8 0)).toArray 24)))))
    clear hm
    refine wpList_store_mid (P := Tryz.prog) rfl 24 _ _ rfl w3.heap.size 0 (bys L).toArray rfl rfl HPm.out.1 HSl.out OL.out ?_
    have hpm := HPm.out.2
    simp only [List.reduceReplicate] at hpm
    clear HPm hz
    rw [show (bys L).toArray.toList = bys L from rfl]
    have HPn := Lib.hid hpm
    clear hpm
    obtain ⟨g4, hg4⟩ : ∃ g4, w3.heap.size = g4 := ⟨_, rfl⟩
    have HG4 := Lib.hid hg4
    rw [hg4] at HPn ⊢
    clear hg4
    generalize World.setCells _ _ _ _ = w4 at *
    have HA4 := Lib.hid (HA3.out.below HPn.out.2 (by rw [← HG4.out]; exact HA3.out.lt))
    have HB4 := Lib.hid (HB3.out.trans (HPn.out.2.mono (by rw [← HG4.out]; exact HB3.out.size)))
    have HY4 := Lib.hid (HPn.out.1.byts HLh.out.2 32 HLh.out.1.symm (by unfold maxLen; omega))
    clear HA3 HB3 HPn
    go_wp2_with fail
    refine (rtop_any Is.length _ L w4 (by have := HL.out; omega) (by rw [HLh.out.1]; omega) HY4.out).mono ?_
    rintro e w5 ⟨rfl, hb5⟩
    dsimp only
    have HAx := Lib.hid (HA4.out.below hb5 HA4.out.lt)
    have HBx := Lib.hid (HB4.out.trans (hb5.mono HB4.out.size))
    clear hb5 HA4 HB4
    obtain ⟨R, hR⟩ : ∃ R, R = topF Is.length L := ⟨_, rfl⟩
    rw [← hR]
    have HRe := Lib.hid hR
    have HRh := Lib.hid (show IsH R by rw [hR]; exact tagF_h _ _)
    have HSr := Lib.hid (size_hash R HRh.out.1)
    have HSr2 := Lib.hid (show (Tryz.prog.info? 24).map (·.size) = some (bys R).toArray.size by rw [List.size_toArray]; exact HSr.out)
    have O1 := Lib.hid (all_oneCell_toArray (bys_one R))
    clear hR
    go_step
    refine wpList_store_mid (P := Tryz.prog) rfl 24 _ _ rfl w.heap.size 0 (bys R).toArray rfl rfl (HAx.out.there _ (by simp [bys_len, HRh.out.1])) HSr2.out O1.out ?_
    rw [show (bys R).toArray.toList = bys R from rfl]
    have HA5 := Lib.hid (HAx.out.setAll (bys R) (by simp [bys_len, HRh.out.1]))
    have HB9 := Lib.hid (below_sets w.heap.size (by omega) (bys R) 0 HBx.out)
    generalize World.setCells _ _ _ _ = w9 at *
    go_wp2
    refine bodyPost_ret (results_cell_row (P := Tryz.prog) rfl _ _ w.heap.size 24 _ (0, 0) _ rfl HA5.out Tryz.underlying24 rfl (by rw [List.size_toArray]; exact HSr.out)) rfl ?_
    exact ⟨by rw [HRe.out, HLe.out]; rfl, HB9.out⟩
end Go.Proofs.YthnbnckmeffkmaaGreat
/- plexusref03.lead. -/
namespace Go.Proofs.YthnbnckmeffkmaaGreat
open Go.RowKit Go.Lib
set_option linter.unusedVariables false
set_option linter.unusedSimpArgs false
attribute [local go_sem ↓] Go.wp_at_zero Go.wp_at_succ

theorem hs_init {w : World} {b off c : Nat} {Is : List (List Nat)} {m : Nat} (h : HsIs w (.slice (some ⟨b, off, none⟩) Is.length c) Is) (hm : Is.length = m + 1) :
    HsIs w (.slice (some ⟨b, off, none⟩) m c) Is.dropLast ∧ w.rangeAt b (off + m * 32) (bys (Is.getLastD [])) ∧ IsH (Is.getLastD []) := by
  have hgl : Is.getLastD [] = Is.getD m [] := by
    rw [List.getLastD_eq_getLast?, List.getLast?_eq_getElem?, hm, Nat.add_sub_cancel]
    simp only [List.getD]
  refine ⟨⟨fun x hx => h.1 x (List.dropLast_subset _ hx), ?_⟩, by rw [hgl]; exact colS_at h (by omega), by rw [hgl]; exact IsH.getD h.1 (by omega)⟩
  have hl : Is.dropLast.length = m := by rw [List.length_dropLast]; omega
  rcases h.2 with ⟨e, _⟩ | ⟨b', off', c', e, q1, q2, q3⟩
  · cases e
  · cases e
    refine .inr ⟨b, off, c, by rw [hl], by omega, q2, fun j hj => ?_⟩
    rw [hl] at hj
    have := q3 j (by omega)
    rw [show Is.dropLast.getD j [] = Is.getD j [] by rw [List.dropLast_eq_take]; simp only [List.getD, List.getElem?_take_of_lt (show j < Is.length - 1 by omega)]]
    exact this
theorem leadDown_isH (A : List Nat) (n c : Nat) (Hs : List (List Nat)) (h : IsH A) : IsH (leadDown [] knotF knotF A n c Hs) := by
  rw [leadDown]
  split
  · exact h
  · split <;> exact tagF_h _ _

end Go.Proofs.YthnbnckmeffkmaaGreat
/- plexusref03.Lead and Check. -/
namespace Go.Proofs.YthnbnckmeffkmaaGreat
open Go.RowKit Go.Lib
set_option linter.unusedVariables false
set_option linter.unusedSimpArgs false
attribute [local go_sem ↓] Go.wp_at_zero Go.wp_at_succ

end Go.Proofs.YthnbnckmeffkmaaGreat
