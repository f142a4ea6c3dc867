/- plexusref03.Root. -/
import Derived.Test.YtbaepjhbpmhmgaaG22
namespace Go.Proofs.Ytbaepjhbpmhmgaa
open Go.RowKit Go.Lib
set_option linter.unusedVariables false
set_option linter.unusedSimpArgs false
attribute [local go_sem ↓] Go.wp_at_zero Go.wp_at_succ

set_option maxRecDepth 100000 in
set_option maxHeartbeats 1600000 in
theorem rroot_any (v : Value) (Is : List (List Nat)) (w : World) (hl : Is.length ≤ 1000000) (hv : HsIs w v Is) :
    Calls Try.prog 9 #[v] w fun e w' => e = .returned (.agg (bys (mrootF Is)).toArray) ∧ Below w.heap.size w w' := by
  have hz := zero32
  obtain ⟨a0, c0, rfl⟩ := hv.form
  have HV := Lib.hid hv
  have HL := Lib.hid hl
  clear hv hl
  by_cases h0 : Is.length = 0
  · have hq : (((Is.length : Nat) : Int) == 0) = true := by rw [h0]; rfl
    have HM := Lib.hid (show topF 0 [] = mrootF Is by
      obtain rfl := List.eq_nil_of_length_eq_zero h0
      unfold mrootF
      rw [List.map_nil, leftR_one _ _ _ (by simp)]; rfl)
    clear h0
    go_enter Try.func9, Try.ntmps9
    go_upto_region 1 with fail
    have hpk := And.intro (Arr.made w 24 (List.replicate 32 (.int .u8 0))) ((Below.refl w.heap.size w).alloc (Nat.le_refl _) (.cells (List.replicate 32 (.int .u8 0)).toArray 24))
    simp only [List.reduceReplicate] at hpk
    have HPk := Lib.hid hpk
    clear hpk hz
    generalize World.alloc _ _ = w1 at HPk ⊢
    go_wp2_with fail
    refine (rtop_any 0 _ [] w1 (by omega) (by simp) (Byts.nil _)).mono ?_
    rintro e w2 ⟨rfl, hb2⟩
    dsimp only
    have HAx := Lib.hid (HPk.out.1.below hb2 HPk.out.1.lt)
    have HBx := Lib.hid (HPk.out.2.trans (hb2.mono HPk.out.2.size))
    clear hb2 hq
    obtain ⟨R, hR⟩ : ∃ R, R = topF 0 [] := ⟨_, rfl⟩
    rw [← hR]
    have HRe := Lib.hid hR
    have HRh := Lib.hid (show IsH R by rw [hR]; exact tagF_h _ _)
    have HSr := Lib.hid (size_hash R HRh.out.1)
    have HSr2 := Lib.hid (show (Try.prog.info? 24).map (·.size) = some (bys R).toArray.size by rw [List.size_toArray]; exact HSr.out)
    have O1 := Lib.hid (all_oneCell_toArray (bys_one R))
    clear hR
    go_step
    refine wpList_store_mid (P := Try.prog) rfl 24 _ _ rfl w.heap.size 0 (bys R).toArray rfl rfl (HAx.out.there _ (by simp [bys_len, HRh.out.1])) HSr2.out O1.out ?_
    rw [show (bys R).toArray.toList = bys R from rfl]
    have HA5 := Lib.hid (HAx.out.setAll (bys R) (by simp [bys_len, HRh.out.1]))
    have HB9 := Lib.hid (below_sets w.heap.size (by omega) (bys R) 0 HBx.out)
    generalize World.setCells _ _ _ _ = w9 at *
    go_wp2
    refine bodyPost_ret (results_cell_row (P := Try.prog) rfl _ _ w.heap.size 24 _ (0, 0) _ rfl HA5.out Try.underlying24 rfl (by rw [List.size_toArray]; exact HSr.out)) rfl ?_
    exact ⟨by rw [HRe.out, HM.out], HB9.out⟩
  · have hq : (((Is.length : Nat) : Int) == 0) = false := beq_false_of_ne (by omega)
    have HL1 := Lib.hid (show 1 ≤ Is.length by omega)
    clear h0
    go_enter Try.func9, Try.ntmps9
    go_upto_region 1 with fail
    have hpk := And.intro (Arr.made w 24 (List.replicate 32 (.int .u8 0))) ((Below.refl w.heap.size w).alloc (Nat.le_refl _) (.cells (List.replicate 32 (.int .u8 0)).toArray 24))
    simp only [List.reduceReplicate] at hpk
    have HPk := Lib.hid hpk
    clear hpk hz
    generalize World.alloc _ _ = w1 at HPk ⊢
    go_wp2_with fail
    refine (rleft_any Is.length _ Is w1 rfl HL1.out HL.out (HV.out.below HPk.out.2)).mono ?_
    rintro e w3 ⟨rfl, hb3⟩
    dsimp only
    clear hq
    obtain ⟨L, hL⟩ : ∃ L, L = leftR [] knotF (Is.map leafF) := ⟨_, rfl⟩
    have HLe := Lib.hid hL
    have HLh := Lib.hid (show IsH L by rw [hL]; exact leftR_isH _ _ rfl HL1.out)
    rw [← hL]
    clear hL
    have HA3 := Lib.hid (HPk.out.1.below hb3 HPk.out.1.lt)
    have HB3 := Lib.hid (HPk.out.2.trans (hb3.mono HPk.out.2.size))
    clear hb3 HPk
    have hz := zero32
    have HSl := Lib.hid (show (Try.prog.info? 24).map (·.size) = some (bys L).toArray.size by rw [List.size_toArray]; exact size_hash L HLh.out.1)
    have OL := Lib.hid (all_oneCell_toArray (bys_one L))
    iterate 4 (first | go_values | go_skip | go_guarded | go_step | go_upon)
    have hm := Arr.made w3 24 (List.replicate 32 (.int .u8 0))
    have HPm := Lib.hid (And.intro (hm.there (bys L).toArray.size (by simp [bys_len, HLh.out.1])) (And.intro (hm.setAll (bys L) (by simp [bys_len, HLh.out.1])) (below_sets w3.heap.size (Nat.le_refl _) (bys L) 0 ((Below.refl w3.heap.size w3).alloc (Nat.le_refl _) (.cells (List.replicate 32 (.int .u8 0)).toArray 24)))))
    clear hm
    refine wpList_store_mid (P := Try.prog) rfl 24 _ _ rfl w3.heap.size 0 (bys L).toArray rfl rfl HPm.out.1 HSl.out OL.out ?_
    have hpm := HPm.out.2
    simp only [List.reduceReplicate] at hpm
    clear HPm hz
    rw [show (bys L).toArray.toList = bys L from rfl]
    have HPn := Lib.hid hpm
    clear hpm
    obtain ⟨g4, hg4⟩ : ∃ g4, w3.heap.size = g4 := ⟨_, rfl⟩
    have HG4 := Lib.hid hg4
    rw [hg4] at HPn ⊢
    clear hg4
    generalize World.setCells _ _ _ _ = w4 at *
    have HA4 := Lib.hid (HA3.out.below HPn.out.2 (by rw [← HG4.out]; exact HA3.out.lt))
    have HB4 := Lib.hid (HB3.out.trans (HPn.out.2.mono (by rw [← HG4.out]; exact HB3.out.size)))
    have HY4 := Lib.hid (HPn.out.1.byts HLh.out.2 32 HLh.out.1.symm (by unfold maxLen; omega))
    clear HA3 HB3 HPn
    go_wp2_with fail
    refine (rtop_any Is.length _ L w4 (by have := HL.out; omega) (by rw [HLh.out.1]; omega) HY4.out).mono ?_
    rintro e w5 ⟨rfl, hb5⟩
    dsimp only
    have HAx := Lib.hid (HA4.out.below hb5 HA4.out.lt)
    have HBx := Lib.hid (HB4.out.trans (hb5.mono HB4.out.size))
    clear hb5 HA4 HB4
    obtain ⟨R, hR⟩ : ∃ R, R = topF Is.length L := ⟨_, rfl⟩
    rw [← hR]
    have HRe := Lib.hid hR
    have HRh := Lib.hid (show IsH R by rw [hR]; exact tagF_h _ _)
    have HSr := Lib.hid (size_hash R HRh.out.1)
    have HSr2 := Lib.hid (show (Try.prog.info? 24).map (·.size) = some (bys R).toArray.size by rw [List.size_toArray]; exact HSr.out)
    have O1 := Lib.hid (all_oneCell_toArray (bys_one R))
    clear hR
    go_step
    refine wpList_store_mid (P := Try.prog) rfl 24 _ _ rfl w.heap.size 0 (bys R).toArray rfl rfl (HAx.out.there _ (by simp [bys_len, HRh.out.1])) HSr2.out O1.out ?_
    rw [show (bys R).toArray.toList = bys R from rfl]
    have HA5 := Lib.hid (HAx.out.setAll (bys R) (by simp [bys_len, HRh.out.1]))
    have HB9 := Lib.hid (below_sets w.heap.size (by omega) (bys R) 0 HBx.out)
    generalize World.setCells _ _ _ _ = w9 at *
    go_wp2
    refine bodyPost_ret (results_cell_row (P := Try.prog) rfl _ _ w.heap.size 24 _ (0, 0) _ rfl HA5.out Try.underlying24 rfl (by rw [List.size_toArray]; exact HSr.out)) rfl ?_
    exact ⟨by rw [HRe.out, HLe.out]; rfl, HB9.out⟩
end Go.Proofs.Ytbaepjhbpmhmgaa
/- plexusref03.lead. -/
namespace Go.Proofs.Ytbaepjhbpmhmgaa
open Go.RowKit Go.Lib
set_option linter.unusedVariables false
set_option linter.unusedSimpArgs false
attribute [local go_sem ↓] Go.wp_at_zero Go.wp_at_succ

theorem hs_init {w : World} {b off c : Nat} {Is : List (List Nat)} {m : Nat} (h : HsIs w (.slice (some ⟨b, off, none⟩) Is.length c) Is) (hm : Is.length = m + 1) :
    HsIs w (.slice (some ⟨b, off, none⟩) m c) Is.dropLast ∧ w.rangeAt b (off + m * 32) (bys (Is.getLastD [])) ∧ IsH (Is.getLastD []) := by
  have hgl : Is.getLastD [] = Is.getD m [] := by
    rw [List.getLastD_eq_getLast?, List.getLast?_eq_getElem?, hm, Nat.add_sub_cancel]
    simp only [List.getD]
  refine ⟨⟨fun x hx => h.1 x (List.dropLast_subset _ hx), ?_⟩, by rw [hgl]; exact colS_at h (by omega), by rw [hgl]; exact IsH.getD h.1 (by omega)⟩
  have hl : Is.dropLast.length = m := by rw [List.length_dropLast]; omega
  rcases h.2 with ⟨e, _⟩ | ⟨b', off', c', e, q1, q2, q3⟩
  · cases e
  · cases e
    refine .inr ⟨b, off, c, by rw [hl], by omega, q2, fun j hj => ?_⟩
    rw [hl] at hj
    have := q3 j (by omega)
    rw [show Is.dropLast.getD j [] = Is.getD j [] by rw [List.dropLast_eq_take]; simp only [List.getD, List.getElem?_take_of_lt (show j < Is.length - 1 by omega)]]
    exact this
theorem leadDown_isH (A : List Nat) (n c : Nat) (Hs : List (List Nat)) (h : IsH A) : IsH (leadDown [] knotF knotF A n c Hs) := by
  rw [leadDown]
  split
  · exact h
  · split <;> exact tagF_h _ _

set_option maxRecDepth 100000 in
set_option maxHeartbeats 3200000 in
theorem rlead_any (I : List Nat) (hI : IsH I) (c : Nat) : ∀ (n : Nat) (v : Value) (Hs : List (List Nat)) (w : World), n < c → c ≤ 1048576 → Hs.length = sizeDown n c → HsIs w v Hs →
    Calls Try.prog 62 #[.agg (bys I).toArray, .int .i64 (n : Int), .int .i64 (c : Int), v] w fun e w' => e = .returned (.agg (bys (leadDown [] knotF knotF (leafF I) n c Hs)).toArray) ∧ Below w.heap.size w w' := by
  have HI := Lib.hid hI
  clear hI
  induction c using Nat.strongRecOn with
  | _ c ih =>
  intro n v Hs w hn hc hs hv
  have hz := zero32
  obtain ⟨a0, c0, rfl⟩ := hv.form
  have HV := Lib.hid hv
  have HN := Lib.hid (And.intro hn hc)
  have HSz := Lib.hid hs
  have HIh := Lib.hid ih
  have HSi := Lib.hid (size_hash I HI.out.1)
  clear hv hn hc hs ih
  go_enter Try.func62, Try.ntmps62
  go_upto_region 1 with fail
  have hpk := two w (.cells (bys I).toArray 24) (.cells (List.replicate 32 (.int .u8 0)).toArray 24)
  simp only [List.reduceReplicate] at hpk
  have HA1 := Lib.hid (show Arr _ w.heap.size 24 (bys I) from hpk.1)
  have HA2 := Lib.hid (show ∃ Z : List Value, Z.length = 32 ∧ Arr _ (w.heap.size + 1) 24 Z from ⟨_, rfl, hpk.2.1⟩)
  have HB1 := Lib.hid hpk.2.2.2
  clear hpk hz
  generalize World.alloc (World.alloc _ _) _ = w1 at *
  by_cases h1 : c ≤ 1
  · have hlt : (c : Int) ≤ 1 := by omega
    have HR0 := Lib.hid (show leadDown [] knotF knotF (leafF I) n c Hs = leafF I by rw [leadDown, if_pos h1])
    clear h1
    go_upto_region 2 with fail
    clear hlt
    go_step
    refine wpList_load_mid (P := Try.prog) rfl 24 _ rfl w.heap.size 0 rfl _ _ HA1.out.range Try.underlying24 rfl HSi.out ?_
    go_wp2_with fail
    refine (rleaf_any I HI.out w1).mono ?_
    rintro e w2 ⟨rfl, hb2⟩
    dsimp only
    obtain ⟨Zr, hZl, hZa⟩ := HA2.out
    have HZl := Lib.hid hZl
    have HAx := Lib.hid (hZa.below hb2 hZa.lt)
    have HBx := Lib.hid (HB1.out.trans (hb2.mono HB1.out.size))
    clear hb2 hZa hZl HA2
    obtain ⟨R, hR⟩ : ∃ R, R = leafF I := ⟨_, rfl⟩
    rw [← hR]
    have HRe := Lib.hid hR
    have HRh := Lib.hid (show IsH R by rw [hR]; exact leafF_h _)
    have HSr := Lib.hid (size_hash R HRh.out.1)
    have HSr2 := Lib.hid (show (Try.prog.info? 24).map (·.size) = some (bys R).toArray.size by rw [List.size_toArray]; exact HSr.out)
    have O1 := Lib.hid (all_oneCell_toArray (bys_one R))
    clear hR
    go_step
    refine wpList_store_mid (P := Try.prog) rfl 24 _ _ rfl (w.heap.size + 1) 0 (bys R).toArray rfl rfl (HAx.out.there _ (by rw [HZl.out]; simp [bys_len, HRh.out.1])) HSr2.out O1.out ?_
    rw [show (bys R).toArray.toList = bys R from rfl]
    have HA5 := Lib.hid (HAx.out.setAll (bys R) (by rw [HZl.out]; simp [bys_len, HRh.out.1]))
    have HB9 := Lib.hid (below_sets (w.heap.size + 1) (by omega) (bys R) 0 HBx.out)
    generalize World.setCells _ _ _ _ = w9 at *
    go_wp2
    refine bodyPost_ret (results_cell_row (P := Try.prog) rfl _ _ (w.heap.size + 1) 24 _ (0, 0) _ rfl HA5.out Try.underlying24 rfl (by rw [List.size_toArray]; exact HSr.out)) rfl ?_
    exact ⟨by rw [HRe.out, HR0.out], HB9.out⟩
  · have hlt : ¬ (c : Int) ≤ 1 := by omega
    have HC1 := Lib.hid h1
    have hb := half_bounds c (by omega)
    obtain ⟨k, hk⟩ : ∃ k, half c = k := ⟨_, rfl⟩
    have HKe := Lib.hid hk
    have hsz := HSz.out
    rw [sizeDown, if_neg h1, hk] at hsz
    rw [hk] at hb
    have HKb := Lib.hid hb
    obtain ⟨m, hm⟩ : ∃ m, Hs.length = m + 1 := ⟨Hs.length - 1, by split at hsz <;> omega⟩
    have HM := Lib.hid hm
    have HSd0 := Lib.hid (show Hs.dropLast.length = if n < k then sizeDown n k else sizeDown (n - k) (c - k) by rw [List.length_dropLast]; split at hsz <;> rename_i h <;> simp only [h, if_true, if_false] <;> omega)
    obtain ⟨b, off, rfl⟩ : ∃ b off, a0 = some ⟨b, off, none⟩ := by
      rcases HV.out.2 with ⟨_, h0⟩ | ⟨b, off, c, e1, _⟩
      · rw [h0] at hm; simp at hm
      · injection e1 with e1 _ _; exact ⟨b, off, e1⟩
    have hin := hs_init (HV.out.below HB1.out) hm
    obtain ⟨Hl, hHl⟩ : ∃ Hl, Hs.getLastD [] = Hl := ⟨_, rfl⟩
    rw [hHl] at hin
    have HGl := Lib.hid hHl
    have HHl := Lib.hid hin.2.2
    have HVm := Lib.hid hin.1
    have HSs := Lib.hid (And.intro HA1.out.range hin.2.1)
    have HSl9 := Lib.hid (size_hash Hl hin.2.2.1)
    have hkc : c ≤ 1048576 := HN.out.2
    have hmb : Hs.length ≤ 1048577 := by
      have h9 := sizeDown_le c n HN.out.1
      rw [HSz.out]; omega
    have hwm : IntKind.i64.wrap (((Hs.length : Nat) : Int) - 1) = (m : Int) := by rw [IntKind.wrap_i64]; omega
    clear h1 hb hk hsz hm hin hHl HA1
    go_upto_region 3 with fail
    clear hlt
    go_wp2_with fail
    refine (half_any c w1 hkc).mono ?_
    rintro e w2 ⟨rfl, rfl⟩
    dsimp only
    rw [HKe.out]
    have HB2 := HB1
    clear HB1
    by_cases hnk : n < k
    · have hnk2 : (n : Int) < (k : Int) := by omega
      have HNk := Lib.hid hnk
      have HSd := Lib.hid (show Hs.dropLast.length = sizeDown n k by rw [HSd0.out, if_pos hnk])
      have HRn := Lib.hid (show leadDown [] knotF knotF (leafF I) n c Hs = knotF (leadDown [] knotF knotF (leafF I) n k Hs.dropLast) Hl by
        conv => lhs; rw [leadDown]
        rw [if_neg HC1.out, HKe.out, if_pos hnk, HGl.out])
      clear hnk
      go_upto_region 6 with fail
      clear hnk2 hwm hkc hmb
      refine wp_region_U (fun w' => w'.rangeAt w.heap.size 0 (bys I) ∧ w'.rangeAt b (off + m * 32) (bys Hl)) 12 (by kernel_rfl) ?_
      have HSw := Lib.hid (show w2.drew.rangeAt w.heap.size 0 (bys I) ∧ w2.drew.rangeAt b (off + m * 32) (bys Hl) from HSs.out)
      have HS0 := HSw
      have HVd := Lib.hid (show HsIs w2.drew (.slice (some ⟨b, off, none⟩) m c0) Hs.dropLast from HVm.out)
      have HAd := Lib.hid (show ∃ Z : List Value, Z.length = 32 ∧ Arr w2.drew (w.heap.size + 1) 24 Z from HA2.out)
      have HBd := Lib.hid HB2.out.drew
      clear HSs HVm HA2 HB2
      generalize w2.drew = w5 at *
      have h0m : 0 ≤ (m : Int) := by omega
      have hmn : (m : Int) ≤ ((Hs.length : Nat) : Int) := by have := HM.out; omega
      have hmn2 : (m : Int) < ((Hs.length : Nat) : Int) := by have := HM.out; omega
      have hmc : m ≤ c0 := by have := HM.out; have := hs_cap HV.out; omega
      have HLt := Lib.hid (show w.heap.size < w5.heap.size ∧ b < w5.heap.size from ⟨World.block_lt_of_cell? w5 _ (HSw.out.1 0 _ (bys_get _ 0 (by rw [HI.out.1]; omega))), World.block_lt_of_cell? w5 _ (HSw.out.2 0 _ (bys_get _ 0 (by rw [HHl.out.1]; omega)))⟩)
      simp only [List.size_toArray, List.length_cons, List.length_nil, Nat.reduceAdd, Array.replicate_succ, Array.replicate_zero, List.push_toArray, List.nil_append, List.cons_append]
      refine wpAnyU_take (i := 0) (oi := ⟨some 23, _, _, _, _, _⟩) rfl (by kernel_rfl) (by kernel_rfl) (by kernel_rfl) (by kernel_rfl) (by kernel_rfl) (fun _ _ _ h => h) (yieldsIf_load_mid (by rfl) 24 (.tmp 4) rfl (w.heap.size) (0) rfl (bys I) _ (fun w h => h.1) Try.underlying24 rfl HSi.out) HS0.out ?_
      dsimp only [Act.put]
      simp only [List.setIfInBounds_toArray, List.set_cons_zero, List.set_cons_succ]
      refine wpAnyU_take0 (i := 1) (oi := ⟨some 24, _, _, _, _, _⟩) (v := ?_) rfl (by kernel_rfl) (by kernel_rfl) (by kernel_rfl) (by decide) (fun _ _ _ h => h) (Or.inl ⟨by rfl, ?_⟩) (fun _ => HS0.out) ?_
      rotate_left
      · intro w hSw; go_simp <;> with_reducible rfl
      dsimp only [Act.put]
      simp only [List.setIfInBounds_toArray, List.set_cons_zero, List.set_cons_succ]
      refine wpAnyU_take0 (i := 2) (oi := ⟨some 25, _, _, _, _, _⟩) (v := ?_) rfl (by kernel_rfl) (by kernel_rfl) (by kernel_rfl) (by decide) (fun _ _ _ h => h) (Or.inl ⟨by rfl, ?_⟩) (fun _ => HS0.out) ?_
      rotate_left
      · intro w hSw; go_simp <;> with_reducible rfl
      dsimp only [Act.put]
      simp only [List.setIfInBounds_toArray, List.set_cons_zero, List.set_cons_succ]
      refine wpAnyU_take0 (i := 3) (oi := ⟨some 26, _, _, _, _, _⟩) (v := ?_) rfl (by kernel_rfl) (by kernel_rfl) (by kernel_rfl) (by decide) (fun _ _ _ h => h) (Or.inl ⟨by rfl, ?_⟩) (fun _ => HS0.out) ?_
      rotate_left
      · intro w hSw; go_simp <;> with_reducible rfl
      dsimp only [Act.put]
      simp only [List.setIfInBounds_toArray, List.set_cons_zero, List.set_cons_succ]
      refine wpAnyU_take0 (i := 4) (oi := ⟨some 27, _, _, _, _, _⟩) (v := ?_) rfl (by kernel_rfl) (by kernel_rfl) (by kernel_rfl) (by decide) (fun _ _ _ h => h) (Or.inl ⟨by rfl, ?_⟩) (fun _ => HS0.out) ?_
      rotate_left
      · intro w hSw; go_simp <;> with_reducible rfl
      dsimp only [Act.put]
      simp only [List.setIfInBounds_toArray, List.set_cons_zero, List.set_cons_succ]
      refine wpAnyU_take0 (i := 5) (oi := ⟨some 28, _, _, _, _, _⟩) (v := ?_) rfl (by kernel_rfl) (by kernel_rfl) (by kernel_rfl) (by decide) (fun _ _ _ h => h) (Or.inl ⟨by rfl, ?_⟩) (fun _ => HS0.out) ?_
      rotate_left
      · intro w hSw; go_simp <;> with_reducible rfl
      dsimp only [Act.put]
      simp only [List.setIfInBounds_toArray, List.set_cons_zero, List.set_cons_succ]
      refine wpAnyU_take0 (i := 7) (oi := ⟨some 30, _, _, _, _, _⟩) (v := ?_) rfl (by kernel_rfl) (by kernel_rfl) (by kernel_rfl) (by decide) (fun _ _ _ h => h) (Or.inl ⟨by rfl, ?_⟩) (fun _ => HS0.out) ?_
      rotate_left
      · intro w hSw; go_simp <;> with_reducible rfl
      dsimp only [Act.put]
      simp only [List.setIfInBounds_toArray, List.set_cons_zero, List.set_cons_succ]
      refine wpAnyU_take0 (i := 8) (oi := ⟨some 31, _, _, _, _, _⟩) (v := ?_) rfl (by kernel_rfl) (by kernel_rfl) (by kernel_rfl) (by decide) (fun _ _ _ h => h) (Or.inl ⟨by rfl, ?_⟩) (fun _ => HS0.out) ?_
      rotate_left
      · intro w hSw; go_simp <;> with_reducible rfl
      dsimp only [Act.put]
      simp only [List.setIfInBounds_toArray, List.set_cons_zero, List.set_cons_succ]
      refine wpAnyU_take0 (i := 9) (oi := ⟨some 32, _, _, _, _, _⟩) (v := ?_) rfl (by kernel_rfl) (by kernel_rfl) (by kernel_rfl) (by decide) (fun _ _ _ h => h) (Or.inl ⟨by rfl, ?_⟩) (fun _ => HS0.out) ?_
      rotate_left
      · intro w hSw; go_simp <;> with_reducible rfl
      dsimp only [Act.put]
      simp only [List.setIfInBounds_toArray, List.set_cons_zero, List.set_cons_succ]
      refine wpAnyU_take (i := 10) (oi := ⟨some 33, _, _, _, _, _⟩) rfl (by kernel_rfl) (by kernel_rfl) (by kernel_rfl) (by kernel_rfl) (by kernel_rfl) (fun _ _ _ h => h) (yieldsIf_load_mid (by rfl) 24 (.tmp 32) rfl (b) (off + m * 32) rfl (bys Hl) _ (fun w h => h.2) Try.underlying24 rfl HSl9.out) HS0.out ?_
      dsimp only [Act.put]
      simp only [List.setIfInBounds_toArray, List.set_cons_zero, List.set_cons_succ]
      refine wpAnyU_one (i := 6) (oi := ⟨some 29, _, _, _, _, _⟩) (by kernel_rfl) rfl rfl (fun K9 hK9 => ?_)
      have HK9 := Lib.hid hK9
      clear hK9
      obtain ⟨Zr, hZl, hZa⟩ := HAd.out
      have HZl := Lib.hid hZl
      clear HAd
      have HAd := Lib.hid hZa
      clear hZa hZl
      go_simp
      refine (HIh.out (k) (by have := HKb.out; have := HN.out; omega) (n) (.slice (some ⟨b, off, none⟩) m c0) Hs.dropLast w5 (by have := HKb.out; have := HN.out; have := HNk.out; omega) (by have := HKb.out; have := HN.out; omega) HSd.out HVd.out).mono ?_
      rintro e w3 ⟨rfl, hb3⟩
      dsimp only
      have HS3 := Lib.hid (show w3.rangeAt w.heap.size 0 (bys I) ∧ w3.rangeAt b (off + m * 32) (bys Hl) from ⟨rangeAt_below HSw.out.1 hb3 HLt.out.1, rangeAt_below HSw.out.2 hb3 HLt.out.2⟩)
      have HA3 := Lib.hid (HAd.out.below hb3 HAd.out.lt)
      have HB3 := Lib.hid (HBd.out.trans (hb3.mono HBd.out.size))
      have HBs := Lib.hid (show w5.heap.size ≤ w3.heap.size from hb3.size)
      clear HVd HAd HBd hb3 HSw
      obtain ⟨A, hA⟩ : ∃ A, A = leadDown [] knotF knotF (leafF I) (n) (k) Hs.dropLast := ⟨_, rfl⟩
      have HAe := Lib.hid hA
      have HAh := Lib.hid (show IsH A by rw [hA]; exact leadDown_isH _ _ _ _ (leafF_h I))
      rw [← hA]
      clear hA
      refine HK9.out _ _ (fun _ _ => HS3.out) ?_
      clear HK9
      simp only [List.setIfInBounds_toArray, List.set_cons_zero, List.set_cons_succ]
      refine wpAnyU_one (i := 11) (oi := ⟨some 34, _, _, _, _, _⟩) (by kernel_rfl) rfl rfl (fun K9 hK9 => ?_)
      have HK9 := Lib.hid hK9
      clear hK9
      go_simp
      refine (rknot_any A Hl HAh.out HHl.out w3).mono ?_
      rintro e w6 ⟨rfl, hb6⟩
      dsimp only
      have HAx := Lib.hid (HA3.out.below hb6 HA3.out.lt)
      have HBx := Lib.hid (HB3.out.trans (hb6.mono HB3.out.size))
      have HB36 := Lib.hid hb6
      have HB35 := Lib.hid HBs.out
      clear HA3 HB3 hb6
      obtain ⟨R, hR⟩ : ∃ R, R = knotF A Hl := ⟨_, rfl⟩
      rw [← hR]
      have HRe := Lib.hid hR
      have HRh := Lib.hid (show IsH R by rw [hR]; exact tagF_h _ _)
      have HSr := Lib.hid (size_hash R HRh.out.1)
      have HSr2 := Lib.hid (show (Try.prog.info? 24).map (·.size) = some (bys R).toArray.size by rw [List.size_toArray]; exact HSr.out)
      have O1 := Lib.hid (all_oneCell_toArray (bys_one R))
      clear hR
      refine HK9.out _ _ (fun _ _ => ⟨rangeAt_below HS3.out.1 HB36.out (Nat.lt_of_lt_of_le HLt.out.1 HB35.out), rangeAt_below HS3.out.2 HB36.out (Nat.lt_of_lt_of_le HLt.out.2 HB35.out)⟩) ?_
      clear HK9
      simp only [List.setIfInBounds_toArray, List.set_cons_zero, List.set_cons_succ]
      refine wpAnyU_one (i := 12) (oi := ⟨none, _, _, _, _, _⟩) (by kernel_rfl) rfl rfl (fun K9 hK9 => ?_)
      have HK9 := Lib.hid hK9
      clear hK9
      refine wp_store_mid (P := Try.prog) 24 (.tmp 8) (.tmp 34) rfl (w.heap.size + 1) 0 (bys R).toArray rfl rfl (HAx.out.there _ (by rw [HZl.out]; simp [bys_len, HRh.out.1])) HSr2.out O1.out ?_
      refine HK9.out _ _ (fun h => absurd rfl h) ?_
      clear HK9
      dsimp only [Act.put]
      refine wpAnyU_done (by kernel_rfl) ?_ _
      have HA5 := Lib.hid (HAx.out.setAll (bys R) (by rw [HZl.out]; simp [bys_len, HRh.out.1]))
      have HB9 := Lib.hid (below_sets (w.heap.size + 1) (by omega) (bys R) 0 HBx.out)
      generalize World.setCells _ _ _ _ = w9 at *
      go_wp2
      refine bodyPost_ret (results_cell_row (P := Try.prog) rfl _ _ (w.heap.size + 1) 24 _ (0, 0) _ rfl HA5.out Try.underlying24 rfl (by rw [List.size_toArray]; exact HSr.out)) rfl ?_
      exact ⟨by rw [HRe.out, HAe.out, HRn.out], HB9.out⟩
    · have hnk2 : ¬ (n : Int) < (k : Int) := by omega
      have HNk := Lib.hid hnk
      have HSd := Lib.hid (show Hs.dropLast.length = sizeDown (n - k) (c - k) by rw [HSd0.out, if_neg hnk])
      have HRn := Lib.hid (show leadDown [] knotF knotF (leafF I) n c Hs = knotF Hl (leadDown [] knotF knotF (leafF I) (n - k) (c - k) Hs.dropLast) by
        conv => lhs; rw [leadDown]
        rw [if_neg HC1.out, HKe.out, if_neg hnk, HGl.out])
      clear hnk
      go_upto_region 7 with fail
      clear hnk2 hwm hmb
      refine wp_region_U (fun w' => w'.rangeAt w.heap.size 0 (bys I) ∧ w'.rangeAt b (off + m * 32) (bys Hl)) 16 (by kernel_rfl) ?_
      have HSw := Lib.hid (show w2.drew.rangeAt w.heap.size 0 (bys I) ∧ w2.drew.rangeAt b (off + m * 32) (bys Hl) from HSs.out)
      have HS0 := HSw
      have HVd := Lib.hid (show HsIs w2.drew (.slice (some ⟨b, off, none⟩) m c0) Hs.dropLast from HVm.out)
      have HAd := Lib.hid (show ∃ Z : List Value, Z.length = 32 ∧ Arr w2.drew (w.heap.size + 1) 24 Z from HA2.out)
      have HBd := Lib.hid HB2.out.drew
      clear HSs HVm HA2 HB2
      generalize w2.drew = w5 at *
      have h0m : 0 ≤ (m : Int) := by omega
      have hmn : (m : Int) ≤ ((Hs.length : Nat) : Int) := by have := HM.out; omega
      have hmn2 : (m : Int) < ((Hs.length : Nat) : Int) := by have := HM.out; omega
      have hmc : m ≤ c0 := by have := HM.out; have := hs_cap HV.out; omega
      have HLt := Lib.hid (show w.heap.size < w5.heap.size ∧ b < w5.heap.size from ⟨World.block_lt_of_cell? w5 _ (HSw.out.1 0 _ (bys_get _ 0 (by rw [HI.out.1]; omega))), World.block_lt_of_cell? w5 _ (HSw.out.2 0 _ (bys_get _ 0 (by rw [HHl.out.1]; omega)))⟩)
      have hs1 : IntKind.i64.wrap ((n : Int) - (k : Int)) = ((n - k : Nat) : Int) := by rw [IntKind.wrap_i64]; have := HNk.out; have := HN.out; omega
      have hs2 : IntKind.i64.wrap ((c : Int) - (k : Int)) = ((c - k : Nat) : Int) := by rw [IntKind.wrap_i64]; have := HKb.out; have := HN.out; omega
      simp only [List.size_toArray, List.length_cons, List.length_nil, Nat.reduceAdd, Array.replicate_succ, Array.replicate_zero, List.push_toArray, List.nil_append, List.cons_append]
      refine wpAnyU_take0 (i := 0) (oi := ⟨some 35, _, _, _, _, _⟩) (v := ?_) rfl (by kernel_rfl) (by kernel_rfl) (by kernel_rfl) (by decide) (fun _ _ _ h => h) (Or.inl ⟨by rfl, ?_⟩) (fun _ => HS0.out) ?_
      rotate_left
      · intro w hSw; go_simp <;> with_reducible rfl
      dsimp only [Act.put]
      simp only [List.setIfInBounds_toArray, List.set_cons_zero, List.set_cons_succ]
      refine wpAnyU_take0 (i := 1) (oi := ⟨some 36, _, _, _, _, _⟩) (v := ?_) rfl (by kernel_rfl) (by kernel_rfl) (by kernel_rfl) (by decide) (fun _ _ _ h => h) (Or.inl ⟨by rfl, ?_⟩) (fun _ => HS0.out) ?_
      rotate_left
      · intro w hSw; go_simp <;> with_reducible rfl
      dsimp only [Act.put]
      simp only [List.setIfInBounds_toArray, List.set_cons_zero, List.set_cons_succ]
      refine wpAnyU_take0 (i := 2) (oi := ⟨some 37, _, _, _, _, _⟩) (v := ?_) rfl (by kernel_rfl) (by kernel_rfl) (by kernel_rfl) (by decide) (fun _ _ _ h => h) (Or.inl ⟨by rfl, ?_⟩) (fun _ => HS0.out) ?_
      rotate_left
      · intro w hSw; go_simp <;> with_reducible rfl
      dsimp only [Act.put]
      simp only [List.setIfInBounds_toArray, List.set_cons_zero, List.set_cons_succ]
      refine wpAnyU_take (i := 3) (oi := ⟨some 38, _, _, _, _, _⟩) rfl (by kernel_rfl) (by kernel_rfl) (by kernel_rfl) (by kernel_rfl) (by kernel_rfl) (fun _ _ _ h => h) (yieldsIf_load_mid (by rfl) 24 (.tmp 37) rfl (b) (off + m * 32) rfl (bys Hl) _ (fun w h => h.2) Try.underlying24 rfl HSl9.out) HS0.out ?_
      dsimp only [Act.put]
      simp only [List.setIfInBounds_toArray, List.set_cons_zero, List.set_cons_succ]
      refine wpAnyU_take (i := 4) (oi := ⟨some 39, _, _, _, _, _⟩) rfl (by kernel_rfl) (by kernel_rfl) (by kernel_rfl) (by kernel_rfl) (by kernel_rfl) (fun _ _ _ h => h) (yieldsIf_load_mid (by rfl) 24 (.tmp 4) rfl (w.heap.size) (0) rfl (bys I) _ (fun w h => h.1) Try.underlying24 rfl HSi.out) HS0.out ?_
      dsimp only [Act.put]
      simp only [List.setIfInBounds_toArray, List.set_cons_zero, List.set_cons_succ]
      refine wpAnyU_take0 (i := 5) (oi := ⟨some 40, _, _, _, _, _⟩) (v := ?_) rfl (by kernel_rfl) (by kernel_rfl) (by kernel_rfl) (by decide) (fun _ _ _ h => h) (Or.inl ⟨by rfl, ?_⟩) (fun _ => HS0.out) ?_
      rotate_left
      · intro w hSw; go_simp <;> with_reducible rfl
      dsimp only [Act.put]
      simp only [List.setIfInBounds_toArray, List.set_cons_zero, List.set_cons_succ]
      refine wpAnyU_take0 (i := 6) (oi := ⟨some 41, _, _, _, _, _⟩) (v := ?_) rfl (by kernel_rfl) (by kernel_rfl) (by kernel_rfl) (by decide) (fun _ _ _ h => h) (Or.inl ⟨by rfl, ?_⟩) (fun _ => HS0.out) ?_
      rotate_left
      · intro w hSw; go_simp <;> with_reducible rfl
      dsimp only [Act.put]
      simp only [List.setIfInBounds_toArray, List.set_cons_zero, List.set_cons_succ]
      refine wpAnyU_take0 (i := 7) (oi := ⟨some 42, _, _, _, _, _⟩) (v := .int .i64 ((n - k : Nat) : Int)) rfl (by kernel_rfl) (by kernel_rfl) (by kernel_rfl) (by decide) (fun _ _ _ h => h) (Or.inl ⟨by rfl, ?_⟩) (fun _ => HS0.out) ?_
      · intro w hSw; go_simp <;> with_reducible rfl
      dsimp only [Act.put]
      simp only [List.setIfInBounds_toArray, List.set_cons_zero, List.set_cons_succ]
      refine wpAnyU_take0 (i := 8) (oi := ⟨some 43, _, _, _, _, _⟩) (v := ?_) rfl (by kernel_rfl) (by kernel_rfl) (by kernel_rfl) (by decide) (fun _ _ _ h => h) (Or.inl ⟨by rfl, ?_⟩) (fun _ => HS0.out) ?_
      rotate_left
      · intro w hSw; go_simp <;> with_reducible rfl
      dsimp only [Act.put]
      simp only [List.setIfInBounds_toArray, List.set_cons_zero, List.set_cons_succ]
      refine wpAnyU_take0 (i := 9) (oi := ⟨some 44, _, _, _, _, _⟩) (v := ?_) rfl (by kernel_rfl) (by kernel_rfl) (by kernel_rfl) (by decide) (fun _ _ _ h => h) (Or.inl ⟨by rfl, ?_⟩) (fun _ => HS0.out) ?_
      rotate_left
      · intro w hSw; go_simp <;> with_reducible rfl
      dsimp only [Act.put]
      simp only [List.setIfInBounds_toArray, List.set_cons_zero, List.set_cons_succ]
      refine wpAnyU_take0 (i := 10) (oi := ⟨some 45, _, _, _, _, _⟩) (v := .int .i64 ((c - k : Nat) : Int)) rfl (by kernel_rfl) (by kernel_rfl) (by kernel_rfl) (by decide) (fun _ _ _ h => h) (Or.inl ⟨by rfl, ?_⟩) (fun _ => HS0.out) ?_
      · intro w hSw; go_simp <;> with_reducible rfl
      dsimp only [Act.put]
      simp only [List.setIfInBounds_toArray, List.set_cons_zero, List.set_cons_succ]
      refine wpAnyU_take0 (i := 11) (oi := ⟨some 46, _, _, _, _, _⟩) (v := ?_) rfl (by kernel_rfl) (by kernel_rfl) (by kernel_rfl) (by decide) (fun _ _ _ h => h) (Or.inl ⟨by rfl, ?_⟩) (fun _ => HS0.out) ?_
      rotate_left
      · intro w hSw; go_simp <;> with_reducible rfl
      dsimp only [Act.put]
      simp only [List.setIfInBounds_toArray, List.set_cons_zero, List.set_cons_succ]
      refine wpAnyU_take0 (i := 12) (oi := ⟨some 47, _, _, _, _, _⟩) (v := ?_) rfl (by kernel_rfl) (by kernel_rfl) (by kernel_rfl) (by decide) (fun _ _ _ h => h) (Or.inl ⟨by rfl, ?_⟩) (fun _ => HS0.out) ?_
      rotate_left
      · intro w hSw; go_simp <;> with_reducible rfl
      dsimp only [Act.put]
      simp only [List.setIfInBounds_toArray, List.set_cons_zero, List.set_cons_succ]
      refine wpAnyU_take0 (i := 13) (oi := ⟨some 48, _, _, _, _, _⟩) (v := ?_) rfl (by kernel_rfl) (by kernel_rfl) (by kernel_rfl) (by decide) (fun _ _ _ h => h) (Or.inl ⟨by rfl, ?_⟩) (fun _ => HS0.out) ?_
      rotate_left
      · intro w hSw; go_simp <;> with_reducible rfl
      dsimp only [Act.put]
      simp only [List.setIfInBounds_toArray, List.set_cons_zero, List.set_cons_succ]
      refine wpAnyU_one (i := 14) (oi := ⟨some 49, _, _, _, _, _⟩) (by kernel_rfl) rfl rfl (fun K9 hK9 => ?_)
      have HK9 := Lib.hid hK9
      clear hK9
      clear hs1 hs2
      obtain ⟨Zr, hZl, hZa⟩ := HAd.out
      have HZl := Lib.hid hZl
      clear HAd
      have HAd := Lib.hid hZa
      clear hZa hZl
      go_simp
      refine (HIh.out (c - k) (by have := HKb.out; have := HN.out; omega) (n - k) (.slice (some ⟨b, off, none⟩) m c0) Hs.dropLast w5 (by have := HKb.out; have := HN.out; have := HNk.out; omega) (by have := HKb.out; have := HN.out; omega) HSd.out HVd.out).mono ?_
      rintro e w3 ⟨rfl, hb3⟩
      dsimp only
      have HS3 := Lib.hid (show w3.rangeAt w.heap.size 0 (bys I) ∧ w3.rangeAt b (off + m * 32) (bys Hl) from ⟨rangeAt_below HSw.out.1 hb3 HLt.out.1, rangeAt_below HSw.out.2 hb3 HLt.out.2⟩)
      have HA3 := Lib.hid (HAd.out.below hb3 HAd.out.lt)
      have HB3 := Lib.hid (HBd.out.trans (hb3.mono HBd.out.size))
      have HBs := Lib.hid (show w5.heap.size ≤ w3.heap.size from hb3.size)
      clear HVd HAd HBd hb3 HSw
      obtain ⟨A, hA⟩ : ∃ A, A = leadDown [] knotF knotF (leafF I) (n - k) (c - k) Hs.dropLast := ⟨_, rfl⟩
      have HAe := Lib.hid hA
      have HAh := Lib.hid (show IsH A by rw [hA]; exact leadDown_isH _ _ _ _ (leafF_h I))
      rw [← hA]
      clear hA
      refine HK9.out _ _ (fun _ _ => HS3.out) ?_
      clear HK9
      simp only [List.setIfInBounds_toArray, List.set_cons_zero, List.set_cons_succ]
      refine wpAnyU_one (i := 15) (oi := ⟨some 50, _, _, _, _, _⟩) (by kernel_rfl) rfl rfl (fun K9 hK9 => ?_)
      have HK9 := Lib.hid hK9
      clear hK9
      go_simp
      refine (rknot_any Hl A HHl.out HAh.out w3).mono ?_
      rintro e w6 ⟨rfl, hb6⟩
      dsimp only
      have HAx := Lib.hid (HA3.out.below hb6 HA3.out.lt)
      have HBx := Lib.hid (HB3.out.trans (hb6.mono HB3.out.size))
      have HB36 := Lib.hid hb6
      have HB35 := Lib.hid HBs.out
      clear HA3 HB3 hb6
      obtain ⟨R, hR⟩ : ∃ R, R = knotF Hl A := ⟨_, rfl⟩
      rw [← hR]
      have HRe := Lib.hid hR
      have HRh := Lib.hid (show IsH R by rw [hR]; exact tagF_h _ _)
      have HSr := Lib.hid (size_hash R HRh.out.1)
      have HSr2 := Lib.hid (show (Try.prog.info? 24).map (·.size) = some (bys R).toArray.size by rw [List.size_toArray]; exact HSr.out)
      have O1 := Lib.hid (all_oneCell_toArray (bys_one R))
      clear hR
      refine HK9.out _ _ (fun _ _ => ⟨rangeAt_below HS3.out.1 HB36.out (Nat.lt_of_lt_of_le HLt.out.1 HB35.out), rangeAt_below HS3.out.2 HB36.out (Nat.lt_of_lt_of_le HLt.out.2 HB35.out)⟩) ?_
      clear HK9
      simp only [List.setIfInBounds_toArray, List.set_cons_zero, List.set_cons_succ]
      refine wpAnyU_one (i := 16) (oi := ⟨none, _, _, _, _, _⟩) (by kernel_rfl) rfl rfl (fun K9 hK9 => ?_)
      have HK9 := Lib.hid hK9
      clear hK9
      refine wp_store_mid (P := Try.prog) 24 (.tmp 8) (.tmp 50) rfl (w.heap.size + 1) 0 (bys R).toArray rfl rfl (HAx.out.there _ (by rw [HZl.out]; simp [bys_len, HRh.out.1])) HSr2.out O1.out ?_
      refine HK9.out _ _ (fun h => absurd rfl h) ?_
      clear HK9
      dsimp only [Act.put]
      refine wpAnyU_done (by kernel_rfl) ?_ _
      have HA5 := Lib.hid (HAx.out.setAll (bys R) (by rw [HZl.out]; simp [bys_len, HRh.out.1]))
      have HB9 := Lib.hid (below_sets (w.heap.size + 1) (by omega) (bys R) 0 HBx.out)
      generalize World.setCells _ _ _ _ = w9 at *
      go_wp2
      refine bodyPost_ret (results_cell_row (P := Try.prog) rfl _ _ (w.heap.size + 1) 24 _ (0, 0) _ rfl HA5.out Try.underlying24 rfl (by rw [List.size_toArray]; exact HSr.out)) rfl ?_
      exact ⟨by rw [HRe.out, HAe.out, HRn.out], HB9.out⟩
end Go.Proofs.Ytbaepjhbpmhmgaa
