/- plexusref03.Lead and Check. -/
import Derived.Test.YtbaepjhbpmhmgaaG23
namespace Go.Proofs.Ytbaepjhbpmhmgaa
open Go.RowKit Go.Lib
set_option linter.unusedVariables false
set_option linter.unusedSimpArgs false
attribute [local go_sem ↓] Go.wp_at_zero Go.wp_at_succ

set_option maxRecDepth 100000 in
set_option maxHeartbeats 3200000 in
theorem rLead_any (I : List Nat) (hI : IsH I) (n c : Nat) (v : Value) (Hs : List (List Nat)) (w : World) (hn : n < c) (hc : c ≤ 1048576) (hs : Hs.length = sizeDown n c) (hv : HsIs w v Hs) :
    Calls Try.prog 42 #[.agg (bys I).toArray, .agg #[.int .i64 (n : Int), .int .i64 (c : Int), v]] w fun e w' => e = .returned (.agg (bys (topF c (leadDown [] knotF knotF (leafF I) n c Hs))).toArray) ∧ Below w.heap.size w w' := by
  have hz := zero32
  obtain ⟨a0, c0, rfl⟩ := hv.form
  have HV := Lib.hid hv
  have HI := Lib.hid hI
  have HN := Lib.hid (And.intro hn (And.intro hc hs))
  have HSi := Lib.hid (size_hash I HI.out.1)
  clear hv hn hc hs hI
  go_enter Try.func42, Try.ntmps42
  go_upto_region 1 with fail
  have hpk := three_laid w (bys I) [.int .i64 (n : Int), .int .i64 (c : Int), .slice a0 Hs.length c0] (List.replicate 32 (.int .u8 0)) 24 29 24 _ rfl
  simp only [List.reduceReplicate] at hpk
  have HA1 := Lib.hid hpk.1
  have HA2 := Lib.hid hpk.2.1
  have HA3 := Lib.hid (show ∃ Z : List Value, Z.length = 32 ∧ Arr _ (w.heap.size + 1 + 1) 24 Z from ⟨_, rfl, hpk.2.2.1⟩)
  have HB1 := Lib.hid hpk.2.2.2
  clear hpk hz
  generalize World.alloc (World.alloc (World.alloc _ _) _) _ = w1 at *
  have hc0 := HA2.out.cell 0
  have hc1 := HA2.out.cell 1
  have hc2 := HA2.out.cell 2
  dsimp only [List.getElem?_cons_zero, List.getElem?_cons_succ] at hc0 hc1 hc2
  go_step
  refine wpList_load_mid (P := Try.prog) rfl 24 _ rfl w.heap.size 0 rfl _ _ HA1.out.range Try.underlying24 rfl HSi.out ?_
  go_wp2_with fail
  refine (rlead_any I HI.out c n _ Hs w1 HN.out.1 HN.out.2.1 HN.out.2.2 (HV.out.below HB1.out)).mono ?_
  rintro e w3 ⟨rfl, hb3⟩
  dsimp only
  clear hc0 hc1 hc2
  obtain ⟨L, hL⟩ : ∃ L, L = leadDown [] knotF knotF (leafF I) n c Hs := ⟨_, rfl⟩
  have HLe := Lib.hid hL
  have HLh := Lib.hid (show IsH L by rw [hL]; exact leadDown_isH _ _ _ _ (leafF_h I))
  rw [← hL]
  clear hL
  have HA23 := Lib.hid (HA2.out.below hb3 HA2.out.lt)
  obtain ⟨Zr, hZl, hZa⟩ := HA3.out
  have HZl := Lib.hid hZl
  have HA33 := Lib.hid (hZa.below hb3 hZa.lt)
  have HB3 := Lib.hid (HB1.out.trans (hb3.mono HB1.out.size))
  clear hb3 HA1 HA2 HA3 HB1 hZl hZa
  have hz := zero32
  have HSl := Lib.hid (show (Try.prog.info? 24).map (·.size) = some (bys L).toArray.size by rw [List.size_toArray]; exact size_hash L HLh.out.1)
  have OL := Lib.hid (all_oneCell_toArray (bys_one L))
  iterate 4 (first | go_values | go_skip | go_guarded | go_step | go_upon)
  have hm := Arr.made w3 24 (List.replicate 32 (.int .u8 0))
  have HPm := Lib.hid (And.intro (hm.there (bys L).toArray.size (by simp [bys_len, HLh.out.1])) (And.intro (hm.setAll (bys L) (by simp [bys_len, HLh.out.1])) (below_sets w3.heap.size (Nat.le_refl _) (bys L) 0 ((Below.refl w3.heap.size w3).alloc (Nat.le_refl _) (.cells (List.replicate 32 (.int .u8 0)).toArray 24)))))
  clear hm
  refine wpList_store_mid (P := Try.prog) rfl 24 _ _ rfl w3.heap.size 0 (bys L).toArray rfl rfl HPm.out.1 HSl.out OL.out ?_
  have hpm := HPm.out.2
  simp only [List.reduceReplicate] at hpm
  clear HPm hz
  rw [show (bys L).toArray.toList = bys L from rfl]
  have HPn := Lib.hid hpm
  clear hpm
  obtain ⟨g4, hg4⟩ : ∃ g4, w3.heap.size = g4 := ⟨_, rfl⟩
  have HG4 := Lib.hid hg4
  rw [hg4] at HPn ⊢
  clear hg4
  generalize World.setCells _ _ _ _ = w4 at *
  have HA24 := Lib.hid (HA23.out.below HPn.out.2 (by rw [← HG4.out]; exact HA23.out.lt))
  have HA34 := Lib.hid (HA33.out.below HPn.out.2 (by rw [← HG4.out]; exact HA33.out.lt))
  have HB4 := Lib.hid (HB3.out.trans (HPn.out.2.mono (by rw [← HG4.out]; exact HB3.out.size)))
  have HA44 := Lib.hid HPn.out.1
  clear HA23 HA33 HB3 HPn
  go_upto_region 2 with fail
  have hp1 := HA24.out.cell 1
  dsimp only [List.getElem?_cons_zero, List.getElem?_cons_succ] at hp1
  have HS0 := Lib.hid (show w4.drew.cell? ⟨w.heap.size + 1, 1, none⟩ = some (.int .i64 (c : Int)) from hp1)
  clear hp1
  refine wp_region_U (fun w' => w'.cell? ⟨w.heap.size + 1, 1, none⟩ = some (.int .i64 (c : Int))) 4 (by kernel_rfl) ?_
  simp only [List.size_toArray, List.length_cons, List.length_nil, Nat.reduceAdd, Array.replicate_succ, Array.replicate_zero, List.push_toArray, List.nil_append, List.cons_append]
  refine wpAnyU_take0 (i := 0) (oi := ⟨some 14, _, _, _, _, _⟩) (v := ?_) rfl (by kernel_rfl) (by kernel_rfl) (by kernel_rfl) (by decide) (fun _ _ _ h => h) (Or.inl ⟨by rfl, ?_⟩) (fun _ => HS0.out) ?_
  rotate_left
  · intro w hSw; go_simp <;> with_reducible rfl
  dsimp only [Act.put]
  simp only [List.setIfInBounds_toArray, List.set_cons_zero, List.set_cons_succ]
  refine wpAnyU_take (i := 1) (oi := ⟨some 15, _, _, _, _, _⟩) (v := .int .i64 (c : Int)) rfl (by kernel_rfl) (by kernel_rfl) (by kernel_rfl) (by kernel_rfl) (by kernel_rfl) (fun _ _ _ h => h) (Or.inl ⟨by rfl, ?_⟩) HS0.out ?_
  · intro w hSw; go_simp <;> with_reducible rfl
  dsimp only [Act.put]
  simp only [List.setIfInBounds_toArray, List.set_cons_zero, List.set_cons_succ]
  refine wpAnyU_take0 (i := 2) (oi := ⟨some 16, _, _, _, _, _⟩) (v := ?_) rfl (by kernel_rfl) (by kernel_rfl) (by kernel_rfl) (by decide) (fun _ _ _ h => h) (Or.inl ⟨by rfl, ?_⟩) (fun _ => HS0.out) ?_
  rotate_left
  · intro w hSw; go_simp <;> with_reducible rfl
  dsimp only [Act.put]
  simp only [List.setIfInBounds_toArray, List.set_cons_zero, List.set_cons_succ]
  refine wpAnyU_one (i := 3) (oi := ⟨some 17, _, _, _, _, _⟩) (by kernel_rfl) rfl rfl (fun K9 hK9 => ?_)
  have HK9 := Lib.hid hK9
  clear hK9
  have HY4 := Lib.hid (show Byts w4.drew (.slice (some ⟨g4, 0, none⟩) 32 32) L from HA44.out.byts HLh.out.2 32 HLh.out.1.symm (by unfold maxLen; omega))
  go_simp
  refine (rtop_any c _ L w4.drew (by have := HN.out; omega) (by rw [HLh.out.1]; omega) HY4.out).mono ?_
  rintro e w5 ⟨rfl, hb5⟩
  dsimp only
  have hb45 : Below w4.heap.size w4 w5 := (Below.refl _ _).drew.trans hb5
  have HAx := Lib.hid (HA34.out.below hb45 HA34.out.lt)
  have HBx := Lib.hid (HB4.out.trans (hb45.mono HB4.out.size))
  have HS5 := Lib.hid (cellb hb45 (show w4.cell? ⟨w.heap.size + 1, 1, none⟩ = some (.int .i64 (c : Int)) from HS0.out))
  clear hb5 hb45
  obtain ⟨R, hR⟩ : ∃ R, R = topF c L := ⟨_, rfl⟩
  rw [← hR]
  have HRe := Lib.hid hR
  have HRh := Lib.hid (show IsH R by rw [hR]; exact tagF_h _ _)
  have HSr := Lib.hid (size_hash R HRh.out.1)
  have HSr2 := Lib.hid (show (Try.prog.info? 24).map (·.size) = some (bys R).toArray.size by rw [List.size_toArray]; exact HSr.out)
  have O1 := Lib.hid (all_oneCell_toArray (bys_one R))
  clear hR
  refine HK9.out _ _ (fun _ _ => HS5.out) ?_
  clear HK9
  simp only [List.setIfInBounds_toArray, List.set_cons_zero, List.set_cons_succ]
  refine wpAnyU_one (i := 4) (oi := ⟨none, _, _, _, _, _⟩) (by kernel_rfl) rfl rfl (fun K9 hK9 => ?_)
  have HK9 := Lib.hid hK9
  clear hK9
  refine wp_store_mid (P := Try.prog) 24 (.tmp 4) (.tmp 17) rfl (w.heap.size + 1 + 1) 0 (bys R).toArray rfl rfl (HAx.out.there _ (by rw [HZl.out]; simp [bys_len, HRh.out.1])) HSr2.out O1.out ?_
  refine HK9.out _ _ (fun h => absurd rfl h) ?_
  clear HK9
  dsimp only [Act.put]
  refine wpAnyU_done (by kernel_rfl) ?_ _
  have HA5 := Lib.hid (HAx.out.setAll (bys R) (by rw [HZl.out]; simp [bys_len, HRh.out.1]))
  have HB9 := Lib.hid (below_sets (w.heap.size + 1 + 1) (by omega) (bys R) 0 HBx.out)
  generalize World.setCells _ _ _ _ = w9 at *
  go_wp2
  refine bodyPost_ret (results_cell_row (P := Try.prog) rfl _ _ (w.heap.size + 1 + 1) 24 _ (0, 0) _ rfl HA5.out Try.underlying24 rfl (by rw [List.size_toArray]; exact HSr.out)) rfl ?_
  exact ⟨by rw [HRe.out, HLe.out], HB9.out⟩

def ChkS (g1 g2 g3 : Nat) (T I : List Nat) (pc : List Value) (v : Value) (Hs : List (List Nat)) (w' : World) : Prop := w'.rangeAt g1 0 (bys T) ∧ w'.rangeAt g2 0 (bys I) ∧ Arr w' g3 29 pc ∧ HsIs w' v Hs
theorem ChkS.below {g1 g2 g3 : Nat} {T I : List Nat} {pc : List Value} {v : Value} {Hs : List (List Nat)} {w w' : World} (h : ChkS g1 g2 g3 T I pc v Hs w) (h1 : g1 < g3) (h2 : g2 < g3) (hb : Below w.heap.size w w') : ChkS g1 g2 g3 T I pc v Hs w' :=
  ⟨rangeAt_below h.1 hb (Nat.lt_trans h1 h.2.2.1.lt), rangeAt_below h.2.1 hb (Nat.lt_trans h2 h.2.2.1.lt), h.2.2.1.below hb h.2.2.1.lt, h.2.2.2.below hb⟩
open Classical in
set_option maxRecDepth 100000 in
set_option maxHeartbeats 3200000 in
theorem rcheck_any (T I : List Nat) (hT : IsH T) (hI : IsH I) (n c : Int) (v : Value) (Hs : List (List Nat)) (w : World) (hv : HsIs w v Hs) :
    Calls Try.prog 20 #[.agg (bys T).toArray, .agg (bys I).toArray, .agg #[.int .i64 n, .int .i64 c, v]] w fun e w' => e = .returned (.int .i64 (if pathOk T I n c Hs then 0 else 21)) ∧ Below w.heap.size w w' := by
  obtain ⟨a0, c0, rfl⟩ := hv.form
  have HV := Lib.hid hv
  have HI := Lib.hid hI
  have HT := Lib.hid hT
  have HSi := Lib.hid (size_hash I HI.out.1)
  have HSt := Lib.hid (size_hash T HT.out.1)
  clear hv hI hT
  obtain ⟨E, hE⟩ : ∃ E : Int, E = if pathOk T I n c Hs then 0 else 21 := ⟨_, rfl⟩
  rw [← hE]
  have HE := Lib.hid hE
  clear hE
  go_enter Try.func20, Try.ntmps20
  go_upto_region 1 with fail
  have hpk := three_laid w (bys T) (bys I) [.int .i64 n, .int .i64 c, .slice a0 Hs.length c0] 24 24 29 _ rfl
  have HS1 := Lib.hid (show ChkS w.heap.size (w.heap.size + 1) (w.heap.size + 1 + 1) T I [.int .i64 n, .int .i64 c, .slice a0 Hs.length c0] (.slice a0 Hs.length c0) Hs _ from ⟨hpk.1.range, hpk.2.1.range, hpk.2.2.1, HV.out.below hpk.2.2.2⟩)
  have HB1 := Lib.hid hpk.2.2.2
  clear hpk
  generalize World.alloc (World.alloc (World.alloc _ _) _) _ = w1 at *
  have HS0 := Lib.hid (show ChkS w.heap.size (w.heap.size + 1) (w.heap.size + 1 + 1) T I [.int .i64 n, .int .i64 c, .slice a0 Hs.length c0] (.slice a0 Hs.length c0) Hs w1.drew from HS1.out)
  have HBd := Lib.hid HB1.out.drew
  clear HS1 HB1 HV
  refine wp_region_H (ChkS w.heap.size (w.heap.size + 1) (w.heap.size + 1 + 1) T I [.int .i64 n, .int .i64 c, .slice a0 Hs.length c0] (.slice a0 Hs.length c0) Hs) (by kernel_rfl) ?_
  generalize w1.drew = w2 at *
  simp only [List.size_toArray, List.length_cons, List.length_nil, Nat.reduceAdd, Array.replicate_succ, Array.replicate_zero, List.push_toArray, List.nil_append, List.cons_append]
  refine wpAnyH_take (i := 0) (oi := ⟨some 7, _, _, _, _, _⟩) rfl (by kernel_rfl) (by kernel_rfl) (by kernel_rfl) (fun _ _ _ h => h) (yieldsIf_load_mid (by rfl) 29 (.tmp 5) rfl (w.heap.size + 1 + 1) (0) rfl ([.int .i64 n, .int .i64 c, .slice a0 Hs.length c0]) _ (fun w h => h.2.2.1.range) Try.underlying29 rfl size_path) HS0.out ?_
  dsimp only [Act.put]
  simp only [List.setIfInBounds_toArray, List.set_cons_zero, List.set_cons_succ]
  refine wpAnyH_one (i := 1) (oi := ⟨some 8, _, _, _, _, _⟩) (by kernel_rfl) rfl (by rfl) (fun K9 hK9 => ?_)
  have HK9 := Lib.hid hK9
  clear hK9
  by_cases hb : n < 0 ∨ c ≤ n ∨ 1048576 < c
  · have HE21 := Lib.hid (show E = 21 by rw [HE.out, if_neg]; rintro ⟨n', c', rfl, rfl, h1, h2, _⟩; omega)
    go_simp
    refine (may_bad n c _ Hs w2 hb HS0.out.2.2.2).mono ?_
    rintro e w3 ⟨rfl, hb3⟩
    dsimp only
    have hS3 := HS0.out.below (by omega) (by omega) hb3
    have HB3 := Lib.hid (HBd.out.trans (hb3.mono HBd.out.size))
    clear HS0 HBd
    have HS0 := Lib.hid hS3
    clear hS3 hb3
    refine HK9.out _ _ HS0.out ?_
    clear HK9
    simp only [List.setIfInBounds_toArray, List.set_cons_zero, List.set_cons_succ]
    refine wpAnyH_take (i := 2) (oi := ⟨some 9, _, _, _, _, _⟩) (v := .bool true) rfl (by kernel_rfl) (by kernel_rfl) (by kernel_rfl) (fun _ _ _ h => h) (Or.inl ⟨by rfl, ?_⟩) HS0.out ?_
    · intro w hSw
      go_simp <;> with_reducible rfl
    dsimp only [Act.put]
    simp only [List.setIfInBounds_toArray, List.set_cons_zero, List.set_cons_succ]
    refine wpAnyH_take (i := 3) (oi := ⟨some 10, _, _, _, _, _⟩) (v := ?_) rfl (by kernel_rfl) (by kernel_rfl) (by kernel_rfl) (fun _ _ _ h => h) (Or.inl ⟨by rfl, ?_⟩) HS0.out ?_
    rotate_left
    · intro w hSw
      go_simp <;> with_reducible rfl
    dsimp only [Act.put]
    simp only [List.setIfInBounds_toArray, List.set_cons_zero, List.set_cons_succ]
    refine wpAnyH_take (i := 4) (oi := ⟨some 11, _, _, _, _, _⟩) (v := undef) rfl (by kernel_rfl) (by kernel_rfl) (by kernel_rfl) (fun _ _ _ h => h) (Or.inr ⟨by rfl, rfl⟩) HS0.out ?_
    dsimp only [Act.put]
    simp only [List.setIfInBounds_toArray, List.set_cons_zero, List.set_cons_succ]
    refine wpAnyH_take (i := 5) (oi := ⟨some 12, _, _, _, _, _⟩) (v := undef) rfl (by kernel_rfl) (by kernel_rfl) (by kernel_rfl) (fun _ _ _ h => h) (Or.inr ⟨by rfl, rfl⟩) HS0.out ?_
    dsimp only [Act.put]
    simp only [List.setIfInBounds_toArray, List.set_cons_zero, List.set_cons_succ]
    refine wpAnyH_take (i := 6) (oi := ⟨some 13, _, _, _, _, _⟩) (v := undef) rfl (by kernel_rfl) (by kernel_rfl) (by kernel_rfl) (fun _ _ _ h => h) (Or.inr ⟨by rfl, rfl⟩) HS0.out ?_
    dsimp only [Act.put]
    simp only [List.setIfInBounds_toArray, List.set_cons_zero, List.set_cons_succ]
    refine wpAnyH_take (i := 7) (oi := ⟨some 14, _, _, _, _, _⟩) (v := undef) rfl (by kernel_rfl) (by kernel_rfl) (by kernel_rfl) (fun _ _ _ h => h) (Or.inr ⟨by rfl, rfl⟩) HS0.out ?_
    dsimp only [Act.put]
    simp only [List.setIfInBounds_toArray, List.set_cons_zero, List.set_cons_succ]
    refine wpAnyH_take (i := 8) (oi := ⟨some 15, _, _, _, _, _⟩) (v := undef) rfl (by kernel_rfl) (by kernel_rfl) (by kernel_rfl) (fun _ _ _ h => h) (Or.inr ⟨by rfl, rfl⟩) HS0.out ?_
    dsimp only [Act.put]
    simp only [List.setIfInBounds_toArray, List.set_cons_zero, List.set_cons_succ]
    refine wpAnyH_take (i := 9) (oi := ⟨some 16, _, _, _, _, _⟩) (v := .bool true) rfl (by kernel_rfl) (by kernel_rfl) (by kernel_rfl) (fun _ _ _ h => h) (Or.inl ⟨by rfl, ?_⟩) HS0.out ?_
    · intro w hSw
      go_simp <;> with_reducible rfl
    dsimp only [Act.put]
    simp only [List.setIfInBounds_toArray, List.set_cons_zero, List.set_cons_succ]
    refine wpAnyH_done (by kernel_rfl) ?_ _
    go_wp2
    refine bodyPost_ret (results_tmp rfl _ _ _) rfl ?_
    exact ⟨by rw [HE21.out]; rfl, HB3.out⟩
  · obtain ⟨n', rfl⟩ := Int.eq_ofNat_of_zero_le (show 0 ≤ n by omega)
    obtain ⟨c', rfl⟩ := Int.eq_ofNat_of_zero_le (show 0 ≤ c by omega)
    have HN := Lib.hid (show n' < c' ∧ c' ≤ 1048576 by omega)
    by_cases hs : Hs.length = sizeDown n' c'
    · have HSz := Lib.hid hs
      have HE2 := Lib.hid (show E = if topF c' (leadDown [] knotF knotF (leafF I) n' c' Hs) = T then 0 else 21 by
        rw [HE.out]
        have hup : upF I n' c' Hs = leadDown [] knotF knotF (leafF I) n' c' Hs := lead_same [] knotF knotF c' (leafF I) n' Hs HN.out.1 hs
        by_cases ht : topF c' (leadDown [] knotF knotF (leafF I) n' c' Hs) = T
        · rw [if_pos ht, if_pos ⟨n', c', rfl, rfl, HN.out.1, HN.out.2, by rw [hs, size_same c' n' HN.out.1], by rw [hup]; exact ht⟩]
        · rw [if_neg ht, if_neg]
          rintro ⟨n2, c2, e1, e2, _, _, _, h9⟩
          obtain rfl : n' = n2 := by omega
          obtain rfl : c' = c2 := by omega
          rw [hup] at h9
          exact ht h9)
      clear hb hs
      go_simp
      refine (may_ok n' c' _ Hs w2 HN.out.1 HN.out.2 HS0.out.2.2.2).mono ?_
      rintro e w3 ⟨rfl, hb3⟩
      dsimp only
      rw [decide_eq_true HSz.out]
      have hS3 := HS0.out.below (by omega) (by omega) hb3
      have HB3 := Lib.hid (HBd.out.trans (hb3.mono HBd.out.size))
      clear HS0 HBd
      have HS0 := Lib.hid hS3
      clear hS3 hb3
      refine HK9.out _ _ HS0.out ?_
      clear HK9
      simp only [List.setIfInBounds_toArray, List.set_cons_zero, List.set_cons_succ]
      refine wpAnyH_take (i := 2) (oi := ⟨some 9, _, _, _, _, _⟩) (v := .bool false) rfl (by kernel_rfl) (by kernel_rfl) (by kernel_rfl) (fun _ _ _ h => h) (Or.inl ⟨by rfl, ?_⟩) HS0.out ?_
      · intro w hSw
        go_simp <;> with_reducible rfl
      dsimp only [Act.put]
      simp only [List.setIfInBounds_toArray, List.set_cons_zero, List.set_cons_succ]
      refine wpAnyH_take (i := 3) (oi := ⟨some 10, _, _, _, _, _⟩) (v := ?_) rfl (by kernel_rfl) (by kernel_rfl) (by kernel_rfl) (fun _ _ _ h => h) (Or.inl ⟨by rfl, ?_⟩) HS0.out ?_
      rotate_left
      · intro w hSw
        go_simp <;> with_reducible rfl
      dsimp only [Act.put]
      simp only [List.setIfInBounds_toArray, List.set_cons_zero, List.set_cons_succ]
      refine wpAnyH_take (i := 4) (oi := ⟨some 11, _, _, _, _, _⟩) rfl (by kernel_rfl) (by kernel_rfl) (by kernel_rfl) (fun _ _ _ h => h) (yieldsIf_load_mid (by rfl) 24 (.tmp 4) rfl (w.heap.size + 1) (0) rfl (bys I) _ (fun w h => h.2.1) Try.underlying24 rfl HSi.out) HS0.out ?_
      dsimp only [Act.put]
      simp only [List.setIfInBounds_toArray, List.set_cons_zero, List.set_cons_succ]
      refine wpAnyH_take (i := 5) (oi := ⟨some 12, _, _, _, _, _⟩) rfl (by kernel_rfl) (by kernel_rfl) (by kernel_rfl) (fun _ _ _ h => h) (yieldsIf_load_mid (by rfl) 29 (.tmp 5) rfl (w.heap.size + 1 + 1) (0) rfl ([.int .i64 (n' : Int), .int .i64 (c' : Int), .slice a0 Hs.length c0]) _ (fun w h => h.2.2.1.range) Try.underlying29 rfl size_path) HS0.out ?_
      dsimp only [Act.put]
      simp only [List.setIfInBounds_toArray, List.set_cons_zero, List.set_cons_succ]
      refine wpAnyH_take (i := 7) (oi := ⟨some 14, _, _, _, _, _⟩) rfl (by kernel_rfl) (by kernel_rfl) (by kernel_rfl) (fun _ _ _ h => h) (yieldsIf_load_mid (by rfl) 24 (.tmp 3) rfl (w.heap.size) (0) rfl (bys T) _ (fun w h => h.1) Try.underlying24 rfl HSt.out) HS0.out ?_
      dsimp only [Act.put]
      simp only [List.setIfInBounds_toArray, List.set_cons_zero, List.set_cons_succ]
      refine wpAnyH_one (i := 6) (oi := ⟨some 13, _, _, _, _, _⟩) (by kernel_rfl) rfl (by rfl) (fun K9 hK9 => ?_)
      have HK9 := Lib.hid hK9
      clear hK9
      go_simp
      refine (rLead_any I HI.out n' c' _ Hs w3 HN.out.1 HN.out.2 HSz.out HS0.out.2.2.2).mono ?_
      rintro e w4 ⟨rfl, hb4⟩
      dsimp only
      have hS4 := HS0.out.below (by omega) (by omega) hb4
      have HB4 := Lib.hid (HB3.out.trans (hb4.mono HB3.out.size))
      clear HS0 HB3
      have HS0 := Lib.hid hS4
      clear hS4 hb4
      refine HK9.out _ _ HS0.out ?_
      clear HK9
      simp only [List.setIfInBounds_toArray, List.set_cons_zero, List.set_cons_succ]
      obtain ⟨L, hL⟩ : ∃ L, L = topF c' (leadDown [] knotF knotF (leafF I) n' c' Hs) := ⟨_, rfl⟩
      have HLh := Lib.hid (show IsH L by rw [hL]; exact tagF_h _ _)
      rw [← hL]
      rw [← hL] at HE2
      clear hL
      by_cases heq : L = T
      · have HE0 := Lib.hid (show E = 0 by rw [HE2.out, if_pos heq])
        subst heq
        refine wpAnyH_take (i := 8) (oi := ⟨some 15, _, _, _, _, _⟩) (v := .bool false) rfl (by kernel_rfl) (by kernel_rfl) (by kernel_rfl) (fun _ _ _ h => h) (Or.inl ⟨by rfl, ?_⟩) HS0.out ?_
        · intro w hSw
          have hne := equal_hash w L L HLh.out HLh.out
          rw [show decide (L = L) = true from decide_eq_true rfl] at hne
          go_simp <;> with_reducible rfl
        dsimp only [Act.put]
        simp only [List.setIfInBounds_toArray, List.set_cons_zero, List.set_cons_succ]
        refine wpAnyH_take (i := 9) (oi := ⟨some 16, _, _, _, _, _⟩) (v := .bool false) rfl (by kernel_rfl) (by kernel_rfl) (by kernel_rfl) (fun _ _ _ h => h) (Or.inl ⟨by rfl, ?_⟩) HS0.out ?_
        · intro w hSw
          go_simp <;> with_reducible rfl
        dsimp only [Act.put]
        simp only [List.setIfInBounds_toArray, List.set_cons_zero, List.set_cons_succ]
        refine wpAnyH_done (by kernel_rfl) ?_ _
        go_wp2
        refine bodyPost_ret (results_tmp rfl _ _ _) rfl ?_
        exact ⟨by rw [HE0.out]; rfl, HB4.out⟩
      · have HE0 := Lib.hid (show E = 21 by rw [HE2.out, if_neg heq])
        refine wpAnyH_take (i := 8) (oi := ⟨some 15, _, _, _, _, _⟩) (v := .bool true) rfl (by kernel_rfl) (by kernel_rfl) (by kernel_rfl) (fun _ _ _ h => h) (Or.inl ⟨by rfl, ?_⟩) HS0.out ?_
        · intro w hSw
          have hne := equal_hash w L T HLh.out HT.out
          rw [decide_eq_false heq] at hne
          go_simp <;> with_reducible rfl
        dsimp only [Act.put]
        simp only [List.setIfInBounds_toArray, List.set_cons_zero, List.set_cons_succ]
        refine wpAnyH_take (i := 9) (oi := ⟨some 16, _, _, _, _, _⟩) (v := .bool true) rfl (by kernel_rfl) (by kernel_rfl) (by kernel_rfl) (fun _ _ _ h => h) (Or.inl ⟨by rfl, ?_⟩) HS0.out ?_
        · intro w hSw
          go_simp <;> with_reducible rfl
        dsimp only [Act.put]
        simp only [List.setIfInBounds_toArray, List.set_cons_zero, List.set_cons_succ]
        refine wpAnyH_done (by kernel_rfl) ?_ _
        go_wp2
        refine bodyPost_ret (results_tmp rfl _ _ _) rfl ?_
        exact ⟨by rw [HE0.out]; rfl, HB4.out⟩
    · have HE21 := Lib.hid (show E = 21 by
        rw [HE.out, if_neg]
        rintro ⟨n2, c2, e1, e2, h1, _, h9, _⟩
        obtain rfl : n' = n2 := by omega
        obtain rfl : c' = c2 := by omega
        exact hs (h9.trans (size_same _ _ h1)))
      have HSz := Lib.hid hs
      clear hb hs
      go_simp
      refine (may_ok n' c' _ Hs w2 HN.out.1 HN.out.2 HS0.out.2.2.2).mono ?_
      rintro e w3 ⟨rfl, hb3⟩
      dsimp only
      rw [decide_eq_false HSz.out]
      have hS3 := HS0.out.below (by omega) (by omega) hb3
      have HB3 := Lib.hid (HBd.out.trans (hb3.mono HBd.out.size))
      clear HS0 HBd
      have HS0 := Lib.hid hS3
      clear hS3 hb3
      refine HK9.out _ _ HS0.out ?_
      clear HK9
      simp only [List.setIfInBounds_toArray, List.set_cons_zero, List.set_cons_succ]
      refine wpAnyH_take (i := 2) (oi := ⟨some 9, _, _, _, _, _⟩) (v := .bool true) rfl (by kernel_rfl) (by kernel_rfl) (by kernel_rfl) (fun _ _ _ h => h) (Or.inl ⟨by rfl, ?_⟩) HS0.out ?_
      · intro w hSw
        go_simp <;> with_reducible rfl
      dsimp only [Act.put]
      simp only [List.setIfInBounds_toArray, List.set_cons_zero, List.set_cons_succ]
      refine wpAnyH_take (i := 3) (oi := ⟨some 10, _, _, _, _, _⟩) (v := ?_) rfl (by kernel_rfl) (by kernel_rfl) (by kernel_rfl) (fun _ _ _ h => h) (Or.inl ⟨by rfl, ?_⟩) HS0.out ?_
      rotate_left
      · intro w hSw
        go_simp <;> with_reducible rfl
      dsimp only [Act.put]
      simp only [List.setIfInBounds_toArray, List.set_cons_zero, List.set_cons_succ]
      refine wpAnyH_take (i := 4) (oi := ⟨some 11, _, _, _, _, _⟩) (v := undef) rfl (by kernel_rfl) (by kernel_rfl) (by kernel_rfl) (fun _ _ _ h => h) (Or.inr ⟨by rfl, rfl⟩) HS0.out ?_
      dsimp only [Act.put]
      simp only [List.setIfInBounds_toArray, List.set_cons_zero, List.set_cons_succ]
      refine wpAnyH_take (i := 5) (oi := ⟨some 12, _, _, _, _, _⟩) (v := undef) rfl (by kernel_rfl) (by kernel_rfl) (by kernel_rfl) (fun _ _ _ h => h) (Or.inr ⟨by rfl, rfl⟩) HS0.out ?_
      dsimp only [Act.put]
      simp only [List.setIfInBounds_toArray, List.set_cons_zero, List.set_cons_succ]
      refine wpAnyH_take (i := 6) (oi := ⟨some 13, _, _, _, _, _⟩) (v := undef) rfl (by kernel_rfl) (by kernel_rfl) (by kernel_rfl) (fun _ _ _ h => h) (Or.inr ⟨by rfl, rfl⟩) HS0.out ?_
      dsimp only [Act.put]
      simp only [List.setIfInBounds_toArray, List.set_cons_zero, List.set_cons_succ]
      refine wpAnyH_take (i := 7) (oi := ⟨some 14, _, _, _, _, _⟩) (v := undef) rfl (by kernel_rfl) (by kernel_rfl) (by kernel_rfl) (fun _ _ _ h => h) (Or.inr ⟨by rfl, rfl⟩) HS0.out ?_
      dsimp only [Act.put]
      simp only [List.setIfInBounds_toArray, List.set_cons_zero, List.set_cons_succ]
      refine wpAnyH_take (i := 8) (oi := ⟨some 15, _, _, _, _, _⟩) (v := undef) rfl (by kernel_rfl) (by kernel_rfl) (by kernel_rfl) (fun _ _ _ h => h) (Or.inr ⟨by rfl, rfl⟩) HS0.out ?_
      dsimp only [Act.put]
      simp only [List.setIfInBounds_toArray, List.set_cons_zero, List.set_cons_succ]
      refine wpAnyH_take (i := 9) (oi := ⟨some 16, _, _, _, _, _⟩) (v := .bool true) rfl (by kernel_rfl) (by kernel_rfl) (by kernel_rfl) (fun _ _ _ h => h) (Or.inl ⟨by rfl, ?_⟩) HS0.out ?_
      · intro w hSw
        go_simp <;> with_reducible rfl
      dsimp only [Act.put]
      simp only [List.setIfInBounds_toArray, List.set_cons_zero, List.set_cons_succ]
      refine wpAnyH_done (by kernel_rfl) ?_ _
      go_wp2
      refine bodyPost_ret (results_tmp rfl _ _ _) rfl ?_
      exact ⟨by rw [HE21.out]; rfl, HB3.out⟩
end Go.Proofs.Ytbaepjhbpmhmgaa
