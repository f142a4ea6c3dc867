/- merkle.Collide, where the path checks for what it is not of. -/
import Derived.Test.YtbaepjhbpmhmgaaG21
import Derived.Test.YtbaepjhbpmhmgaaG14
namespace Go.Proofs.Ytbaepjhbpmhmgaa
open Go.RowKit Go.Lib
set_option linter.unusedVariables false
set_option linter.unusedSimpArgs false
attribute [local go_sem ↓] Go.wp_at_zero Go.wp_at_succ

theorem fit_top (I : List Nat) (n c : Nat) (Hs Is : List (List Nat)) (hn : n < c) (hc : c ≤ 1048576) (hs : Hs.length = sizeUp n c) (hl : Is.length ≤ 1000000) (hne : ¬ (c = Is.length ∧ Is.getD n [] = I)) :
    Fit (.top c (leadUp [] Pa.kl Pa.kr (.leaf I) n c Hs)) (treeT Is) := by
  unfold treeT
  by_cases h0 : Is.length = 0
  · rw [if_pos h0]; exact .top0 _ _
  · rw [if_neg h0]
    by_cases hcl : c = Is.length
    · have hs2 : Hs.length = sizeDown n c := by rw [hs, size_same c n hn]
      rw [lead_same [] Pa.kl Pa.kr c (.leaf I) n Hs hn hs2]
      have hf := fit_of c n I Hs Is hn hcl.symm hs2 (fun e => hne ⟨hcl, e⟩)
      rw [← hcl]
      exact .top _ _ _ hf
    · exact .topNe _ _ _ _ hcl (by omega) (by omega)
theorem treeT_h (Is : List (List Nat)) : (treeT Is).h = mrootF Is := by
  unfold treeT mrootF
  by_cases h0 : Is.length = 0
  · rw [if_pos h0]
    obtain rfl := List.eq_nil_of_length_eq_zero h0
    rw [List.map_nil, leftR_one _ _ _ (by simp)]
    rfl
  · rw [if_neg h0]
    show topF Is.length (leftR .top0 Ta.knot (Is.map Ta.leaf)).h = _
    rw [leftR_h _ _ rfl (fun e => h0 (by have := congrArg List.length e; rw [List.length_map, List.length_nil] at this; exact this)), List.map_map]
    rfl
theorem top_h (I : List Nat) (n c : Nat) (Hs : List (List Nat)) : (Pa.top c (leadUp [] Pa.kl Pa.kr (.leaf I) n c Hs)).h = topF c (upF I n c Hs) := by
  show topF c (leadUp [] Pa.kl Pa.kr (.leaf I) n c Hs).h = _
  rw [leadUp_h]
  rfl
def ColS (gi gp : Nat) (I : List Nat) (pc : List Value) (vi v : Value) (Is Hs : List (List Nat)) (w' : World) : Prop := w'.rangeAt gi 0 (bys I) ∧ Arr w' gp 29 pc ∧ HsIs w' vi Is ∧ HsIs w' v Hs
theorem colS_below {gi gp : Nat} {I : List Nat} {pc : List Value} {vi v : Value} {Is Hs : List (List Nat)} {w w' : World} (h : w.rangeAt gi 0 (bys I) ∧ Arr w gp 29 pc ∧ HsIs w vi Is ∧ HsIs w v Hs) (hb : Below w.heap.size w w') (hg : gi < gp := by omega) :
    w'.rangeAt gi 0 (bys I) ∧ Arr w' gp 29 pc ∧ HsIs w' vi Is ∧ HsIs w' v Hs :=
  ⟨rangeAt_below h.1 hb (Nat.lt_trans hg h.2.1.lt), h.2.1.below hb h.2.1.lt, h.2.2.1.below hb, h.2.2.2.below hb⟩
theorem colS_at {w : World} {b off c : Nat} {Is : List (List Nat)} {n : Nat} (h : HsIs w (.slice (some ⟨b, off, none⟩) Is.length c) Is) (hn : n < Is.length) : w.rangeAt b (off + n * 32) (bys (Is.getD n [])) := by
  rcases h.2 with ⟨e, _⟩ | ⟨b', off', c', e, _, _, q⟩
  · cases e
  · cases e; exact q n hn
set_option maxRecDepth 100000 in
set_option maxHeartbeats 6400000 in
theorem collide_yes (I : List Nat) (hI : IsH I) (n c : Nat) (v vi : Value) (Hs Is : List (List Nat)) (w : World) (hn : n < c) (hc : c ≤ 1048576) (hs : Hs.length = sizeUp n c) (hv : HsIs w v Hs) (hvi : HsIs w vi Is) (hl : Is.length ≤ 1000000)
    (hroot : topF c (upF I n c Hs) = mrootF Is) (hne : ¬ (c = Is.length ∧ Is.getD n [] = I)) :
    Calls Try.prog 19 #[.agg (bys I).toArray, .agg #[.int .i64 (n : Int), .int .i64 (c : Int), v], vi] w fun e w' => ∃ a b, e = .returned (.tuple #[a, b, .bool true]) ∧ Coll w' a b ∧ Below w.heap.size w w' := by
  obtain ⟨a0, c0, rfl⟩ := hv.form
  obtain ⟨ai, ci, rfl⟩ := hvi.form
  have HI := Lib.hid hI
  have HN := Lib.hid (And.intro hn (And.intro hc hs))
  have HIl := Lib.hid (show Is.length ≤ 1048576 by omega)
  have HIl2 := Lib.hid hl
  have HFt := Lib.hid (fit_top I n c Hs Is hn hc hs hl hne)
  have HEq := Lib.hid (show (Pa.top c (leadUp [] Pa.kl Pa.kr (.leaf I) n c Hs)).h = (treeT Is).h by rw [top_h, treeT_h]; exact hroot)
  have HOk := Lib.hid (show pathOk (mrootF Is) I (n : Int) (c : Int) Hs from ⟨n, c, rfl, rfl, hn, hc, hs, hroot⟩)
  have HNr := Lib.hid hne
  have HV := Lib.hid hv
  have HVi := Lib.hid hvi
  clear hI hn hc hs hv hvi hl hroot hne
  go_enter Try.func19, Try.ntmps19
  go_upto_region 1 with fail
  have hpk := two w (.cells (bys I).toArray 24) (.cells #[.int .i64 (n : Int), .int .i64 (c : Int), .slice a0 Hs.length c0] 29)
  have HA1 := Lib.hid (show Arr _ w.heap.size 24 (bys I) from hpk.1)
  have HA2 := Lib.hid (show Arr _ (w.heap.size + 1) 29 [.int .i64 (n : Int), .int .i64 (c : Int), .slice a0 Hs.length c0] from hpk.2.1)
  have HB1 := Lib.hid hpk.2.2.2
  clear hpk
  generalize World.alloc (World.alloc _ _) _ = w1 at *
  have HSi := Lib.hid (size_hash I HI.out.1)
  have HS0 := Lib.hid (show w1.drew.rangeAt w.heap.size 0 (bys I) ∧ Arr w1.drew (w.heap.size + 1) 29 [.int .i64 (n : Int), .int .i64 (c : Int), .slice a0 Hs.length c0] ∧ HsIs w1.drew (.slice ai Is.length ci) Is ∧ HsIs w1.drew (.slice a0 Hs.length c0) Hs from
    ⟨HA1.out.range, HA2.out, (HVi.out.below HB1.out).drew, (HV.out.below HB1.out).drew⟩)
  clear HA1 HA2 HV HVi
  refine wp_region_H (fun w' => w'.rangeAt w.heap.size 0 (bys I) ∧ Arr w' (w.heap.size + 1) 29 [.int .i64 (n : Int), .int .i64 (c : Int), .slice a0 Hs.length c0] ∧ HsIs w' (.slice ai Is.length ci) Is ∧ HsIs w' (.slice a0 Hs.length c0) Hs) (by kernel_rfl) ?_
  simp only [List.size_toArray, List.length_cons, List.length_nil, Nat.reduceAdd, Array.replicate_succ, Array.replicate_zero, List.push_toArray, List.nil_append, List.cons_append]
  refine wpAnyH_take (i := 0) (oi := ⟨some 13, _, _, _, _, _⟩) (v := ?_) rfl (by kernel_rfl) (by kernel_rfl) (by kernel_rfl) (fun _ _ _ h => h) (Or.inl ⟨by rfl, ?_⟩) HS0.out ?_
  rotate_left
  · intro w hSw
    go_simp <;> with_reducible rfl
  dsimp only [Act.put]
  simp only [List.setIfInBounds_toArray, List.set_cons_zero, List.set_cons_succ]
  refine wpAnyH_take (i := 2) (oi := ⟨some 15, _, _, _, _, _⟩) rfl (by kernel_rfl) (by kernel_rfl) (by kernel_rfl) (fun _ _ _ h => h) (yieldsIf_load_mid (by rfl) 24 (.tmp 3) rfl w.heap.size (0) rfl (bys I) _ (fun w h => h.1) Try.underlying24 rfl HSi.out) HS0.out ?_
  dsimp only [Act.put]
  simp only [List.setIfInBounds_toArray, List.set_cons_zero, List.set_cons_succ]
  refine wpAnyH_take (i := 3) (oi := ⟨some 16, _, _, _, _, _⟩) rfl (by kernel_rfl) (by kernel_rfl) (by kernel_rfl) (fun _ _ _ h => h) (yieldsIf_load_mid (by rfl) 29 (.tmp 4) rfl (w.heap.size + 1) (0) rfl ([.int .i64 (n : Int), .int .i64 (c : Int), .slice a0 Hs.length c0]) _ (fun w h => h.2.1.range) Try.underlying29 rfl size_path) HS0.out ?_
  dsimp only [Act.put]
  simp only [List.setIfInBounds_toArray, List.set_cons_zero, List.set_cons_succ]
  refine wpAnyH_one (i := 1) (oi := ⟨some 14, _, _, _, _, _⟩) (by kernel_rfl) rfl (by rfl) (fun K9 hK9 => ?_)
  have HK9 := Lib.hid hK9
  clear hK9
  go_simp
  refine (mroot_any _ Is _ HIl.out HS0.out.2.2.1).mono ?_
  rintro e w2 ⟨rfl, hb2⟩
  dsimp only
  have hS2 := colS_below HS0.out hb2
  have HB2 := Lib.hid (HB1.out.trans (((Below.refl w1.heap.size w1).drew.trans hb2).mono HB1.out.size))
  clear HS0 HB1
  have HS0 := Lib.hid hS2
  clear hS2 hb2
  refine HK9.out _ _ HS0.out ?_
  clear HK9
  simp only [List.setIfInBounds_toArray, List.set_cons_zero, List.set_cons_succ]
  refine wpAnyH_one (i := 4) (oi := ⟨some 17, _, _, _, _, _⟩) (by kernel_rfl) rfl (by rfl) (fun K9 hK9 => ?_)
  have HK9 := Lib.hid hK9
  clear hK9
  have HIm := Lib.hid (mrootF_h Is)
  go_simp
  refine (check_any (mrootF Is) I HIm.out HI.out (n : Int) (c : Int) _ Hs _ HS0.out.2.2.2).mono ?_
  rintro e w3 ⟨rfl, hb3⟩
  dsimp only
  rw [if_pos HOk.out]
  have hS3 := colS_below HS0.out hb3
  have HB3 := Lib.hid (HB2.out.trans (hb3.mono HB2.out.size))
  clear HS0 HB2
  have HS0 := Lib.hid hS3
  clear hS3 hb3
  refine HK9.out _ _ HS0.out ?_
  clear HK9
  simp only [List.setIfInBounds_toArray, List.set_cons_zero, List.set_cons_succ]
  refine wpAnyH_take (i := 5) (oi := ⟨some 18, _, _, _, _, _⟩) (v := ?_) rfl (by kernel_rfl) (by kernel_rfl) (by kernel_rfl) (fun _ _ _ h => h) (Or.inl ⟨by rfl, ?_⟩) HS0.out ?_
  rotate_left
  · intro w hSw
    go_simp <;> with_reducible rfl
  dsimp only [Act.put]
  simp only [List.setIfInBounds_toArray, List.set_cons_zero, List.set_cons_succ]
  refine wpAnyH_take (i := 6) (oi := ⟨some 19, _, _, _, _, _⟩) (v := ?_) rfl (by kernel_rfl) (by kernel_rfl) (by kernel_rfl) (fun _ _ _ h => h) (Or.inl ⟨by rfl, ?_⟩) HS0.out ?_
  rotate_left
  · intro w hSw
    go_simp <;> with_reducible rfl
  dsimp only [Act.put]
  simp only [List.setIfInBounds_toArray, List.set_cons_zero, List.set_cons_succ]
  refine wpAnyH_take (i := 7) (oi := ⟨some 20, _, _, _, _, _⟩) (v := ?_) rfl (by kernel_rfl) (by kernel_rfl) (by kernel_rfl) (fun _ _ _ h => h) (Or.inl ⟨by rfl, ?_⟩) HS0.out ?_
  rotate_left
  · intro w hSw
    go_simp <;> with_reducible rfl
  dsimp only [Act.put]
  simp only [List.setIfInBounds_toArray, List.set_cons_zero, List.set_cons_succ]
  refine wpAnyH_take (i := 8) (oi := ⟨some 21, _, _, _, _, _⟩) (v := .int .i64 (c : Int)) rfl (by kernel_rfl) (by kernel_rfl) (by kernel_rfl) (fun _ _ _ h => h) (Or.inl ⟨by rfl, ?_⟩) HS0.out ?_
  · intro w hSw
    have hq0 := hSw.2.1.cell 0
    have hq1 := hSw.2.1.cell 1
    dsimp only [List.getElem?_cons_zero, List.getElem?_cons_succ] at hq0 hq1
    go_simp <;> with_reducible rfl
  dsimp only [Act.put]
  simp only [List.setIfInBounds_toArray, List.set_cons_zero, List.set_cons_succ]
  refine wpAnyH_take (i := 9) (oi := ⟨some 22, _, _, _, _, _⟩) (v := ?_) rfl (by kernel_rfl) (by kernel_rfl) (by kernel_rfl) (fun _ _ _ h => h) (Or.inl ⟨by rfl, ?_⟩) HS0.out ?_
  rotate_left
  · intro w hSw
    go_simp <;> with_reducible rfl
  dsimp only [Act.put]
  simp only [List.setIfInBounds_toArray, List.set_cons_zero, List.set_cons_succ]
  refine wpAnyH_take (i := 10) (oi := ⟨some 23, _, _, _, _, _⟩) (v := ?_) rfl (by kernel_rfl) (by kernel_rfl) (by kernel_rfl) (fun _ _ _ h => h) (Or.inl ⟨by rfl, ?_⟩) HS0.out ?_
  rotate_left
  · intro w hSw
    go_simp <;> with_reducible rfl
  dsimp only [Act.put]
  simp only [List.setIfInBounds_toArray, List.set_cons_zero, List.set_cons_succ]
  by_cases hcl : c = Is.length
  · have hce : ((c : Int) == ((Is.length : Nat) : Int)) = true := by rw [hcl]; exact beq_self_eq_true _
    have HNi := Lib.hid (show n < Is.length by rw [← hcl]; exact HN.out.1)
    obtain ⟨G, hG⟩ : ∃ G, Is.getD n [] = G := ⟨_, rfl⟩
    have HG := Lib.hid hG
    have HNe := Lib.hid (show ¬ (G = I) from fun e => HNr.out ⟨hcl, hG.trans e⟩)
    have HIn := Lib.hid (show IsH G by rw [← hG]; exact IsH.getD HS0.out.2.2.1.1 HNi.out)
    have HSn := Lib.hid (size_hash G HIn.out.1)
    clear hG
    have hni : (n : Int) < ((Is.length : Nat) : Int) := by have := HNi.out; omega
    obtain ⟨bi, oi, rfl⟩ : ∃ bi oi, ai = some ⟨bi, oi, none⟩ := by
      rcases HS0.out.2.2.1.2 with ⟨e, h⟩ | ⟨b, off, c9, e, _⟩
      · have := HNi.out; rw [h] at this; simp at this
      · injection e with e1 _ _; exact ⟨_, _, e1⟩
    clear hcl
    refine wpAnyH_take (i := 11) (oi := ⟨some 24, _, _, _, _, _⟩) (v := .bool true) rfl (by kernel_rfl) (by kernel_rfl) (by kernel_rfl) (fun _ _ _ h => h) (Or.inl ⟨by rfl, ?_⟩) HS0.out ?_
    · intro w hSw
      go_simp <;> with_reducible rfl
    dsimp only [Act.put]
    simp only [List.setIfInBounds_toArray, List.set_cons_zero, List.set_cons_succ]
    refine wpAnyH_take (i := 12) (oi := ⟨some 25, _, _, _, _, _⟩) (v := ?_) rfl (by kernel_rfl) (by kernel_rfl) (by kernel_rfl) (fun _ _ _ h => h) (Or.inl ⟨by rfl, ?_⟩) HS0.out ?_
    rotate_left
    · intro w hSw
      go_simp <;> with_reducible rfl
    dsimp only [Act.put]
    simp only [List.setIfInBounds_toArray, List.set_cons_zero, List.set_cons_succ]
    refine wpAnyH_take (i := 13) (oi := ⟨some 26, _, _, _, _, _⟩) (v := ?_) rfl (by kernel_rfl) (by kernel_rfl) (by kernel_rfl) (fun _ _ _ h => h) (Or.inl ⟨by rfl, ?_⟩) HS0.out ?_
    rotate_left
    · intro w hSw
      go_simp <;> with_reducible rfl
    dsimp only [Act.put]
    simp only [List.setIfInBounds_toArray, List.set_cons_zero, List.set_cons_succ]
    refine wpAnyH_take (i := 14) (oi := ⟨some 27, _, _, _, _, _⟩) (v := ?_) rfl (by kernel_rfl) (by kernel_rfl) (by kernel_rfl) (fun _ _ _ h => h) (Or.inl ⟨by rfl, ?_⟩) HS0.out ?_
    rotate_left
    · intro w hSw
      go_simp <;> with_reducible rfl
    dsimp only [Act.put]
    simp only [List.setIfInBounds_toArray, List.set_cons_zero, List.set_cons_succ]
    refine wpAnyH_take (i := 15) (oi := ⟨some 28, _, _, _, _, _⟩) (v := .int .i64 (n : Int)) rfl (by kernel_rfl) (by kernel_rfl) (by kernel_rfl) (fun _ _ _ h => h) (Or.inl ⟨by rfl, ?_⟩) HS0.out ?_
    · intro w hSw
      have hq0 := hSw.2.1.cell 0
      have hq1 := hSw.2.1.cell 1
      dsimp only [List.getElem?_cons_zero, List.getElem?_cons_succ] at hq0 hq1
      go_simp <;> with_reducible rfl
    dsimp only [Act.put]
    simp only [List.setIfInBounds_toArray, List.set_cons_zero, List.set_cons_succ]
    refine wpAnyH_take (i := 16) (oi := ⟨some 29, _, _, _, _, _⟩) (v := .pointer (some ⟨bi, oi + n * 32, none⟩)) rfl (by kernel_rfl) (by kernel_rfl) (by kernel_rfl) (fun _ _ _ h => h) (Or.inl ⟨by rfl, ?_⟩) HS0.out ?_
    · intro w hSw
      go_simp <;> with_reducible rfl
    dsimp only [Act.put]
    simp only [List.setIfInBounds_toArray, List.set_cons_zero, List.set_cons_succ]
    refine wpAnyH_take (i := 17) (oi := ⟨some 30, _, _, _, _, _⟩) rfl (by kernel_rfl) (by kernel_rfl) (by kernel_rfl) (fun _ _ _ h => h) (yieldsIf_load_mid (by rfl) 24 (.tmp 29) rfl bi (oi + n * 32) rfl (bys G) _ (fun w h => by rw [← HG.out]; exact colS_at h.2.2.1 HNi.out) Try.underlying24 rfl HSn.out) HS0.out ?_
    dsimp only [Act.put]
    simp only [List.setIfInBounds_toArray, List.set_cons_zero, List.set_cons_succ]
    refine wpAnyH_take (i := 18) (oi := ⟨some 31, _, _, _, _, _⟩) rfl (by kernel_rfl) (by kernel_rfl) (by kernel_rfl) (fun _ _ _ h => h) (yieldsIf_load_mid (by rfl) 24 (.tmp 3) rfl w.heap.size (0) rfl (bys I) _ (fun w h => h.1) Try.underlying24 rfl HSi.out) HS0.out ?_
    dsimp only [Act.put]
    simp only [List.setIfInBounds_toArray, List.set_cons_zero, List.set_cons_succ]
    refine wpAnyH_take (i := 19) (oi := ⟨some 32, _, _, _, _, _⟩) (v := .bool false) rfl (by kernel_rfl) (by kernel_rfl) (by kernel_rfl) (fun _ _ _ h => h) (Or.inl ⟨by rfl, ?_⟩) HS0.out ?_
    · intro w hSw
      have hqq := equal_hash w G I HIn.out HI.out
      rw [decide_eq_false HNe.out] at hqq
      go_simp <;> with_reducible rfl
    dsimp only [Act.put]
    simp only [List.setIfInBounds_toArray, List.set_cons_zero, List.set_cons_succ]
    refine wpAnyH_take (i := 20) (oi := ⟨some 33, _, _, _, _, _⟩) (v := .bool false) rfl (by kernel_rfl) (by kernel_rfl) (by kernel_rfl) (fun _ _ _ h => h) (Or.inl ⟨by rfl, ?_⟩) HS0.out ?_
    · intro w hSw
      go_simp <;> with_reducible rfl
    dsimp only [Act.put]
    simp only [List.setIfInBounds_toArray, List.set_cons_zero, List.set_cons_succ]
    refine wpAnyH_take (i := 21) (oi := ⟨some 34, _, _, _, _, _⟩) (v := .bool false) rfl (by kernel_rfl) (by kernel_rfl) (by kernel_rfl) (fun _ _ _ h => h) (Or.inl ⟨by rfl, ?_⟩) HS0.out ?_
    · intro w hSw
      go_simp <;> with_reducible rfl
    dsimp only [Act.put]
    simp only [List.setIfInBounds_toArray, List.set_cons_zero, List.set_cons_succ]
    refine wpAnyH_done (by kernel_rfl) ?_ _
    clear hce hni
    go_upto_region 3 with fail
    have HS4 := HS0
    go_step
    refine wpList_load_mid (P := Try.prog) rfl 24 _ rfl w.heap.size 0 rfl _ _ HS4.out.1 Try.underlying24 rfl HSi.out ?_
    refine wpList_load_mid (P := Try.prog) rfl 29 _ rfl (w.heap.size + 1) 0 rfl _ _ HS4.out.2.1.range Try.underlying29 rfl size_path ?_
    go_wp2_with fail
    refine (way_any I HI.out n c _ Hs w3 HN.out.1 HN.out.2.1 HN.out.2.2 HS4.out.2.2.2).mono ?_
    rintro e w4 ⟨v4, bs, rfl, hbl, hown, hpa, hb4⟩
    dsimp only
    have HOw := Lib.hid hown
    have HPa := Lib.hid hpa
    have HB4 := Lib.hid hb4
    have HBl := Lib.hid (show bs.reverse ≠ [] ∧ bs.reverse.length ≤ 1000000000 from ⟨fun e => by obtain ⟨b, r, ks, e2, _⟩ := hpa.nd; rw [e2] at e; simp at e, by rw [List.length_reverse]; omega⟩)
    clear hbl hown hpa hb4
    go_wp2_with fail
    refine (reverse_any w3.heap.size v4 bs.reverse w4 HOw.out HBl.out.1 HBl.out.2).mono ?_
    rintro e w5 ⟨rfl, hown, hkp, hb5⟩
    dsimp only
    rw [List.reverse_reverse] at hown
    have hb35 : Below w3.heap.size w3 w5 := HB4.out.trans hb5
    have HPa5 := Lib.hid ((HPa.out.kept hkp).imp (C' := fun _ => True) (fun _ _ _ => trivial))
    have HPt5 := Lib.hid (ptrs_of_own hown)
    have HS5 := Lib.hid (colS_below HS0.out hb35)
    have HB5 := Lib.hid (HB3.out.trans (hb35.mono HB3.out.size))
    have HBl5 := Lib.hid (show bs.length ≤ 1000000000 by have := HBl.out.2; rw [List.length_reverse] at this; exact this)
    clear hown hkp hb5 hb35 HOw HPa HB4 HBl HS0 HS4 HB3
    go_wp2_with fail
    refine (tree_any _ Is w5 HIl2.out HS5.out.2.2.1).mono ?_
    rintro e w6 ⟨o, rfl, hta, hb6⟩
    unfold ptr
    dsimp only
    have HTa := Lib.hid hta
    have HPa6 := Lib.hid (HPa5.out.below hb6)
    have HPt6 := Lib.hid (HPt5.out.below hb6)
    have HB6 := Lib.hid (HB5.out.trans (hb6.mono HB5.out.size))
    clear hta hb6
    repeat (first | (exact collide_t v4 bs o (.top c (leadUp [] Pa.kl Pa.kr (.leaf I) n c Hs)) (treeT Is) w _ HPt6.out HBl5.out HPa6.out HTa.out HFt.out HEq.out HB6.out) | go_step)
  · have hce : ((c : Int) == ((Is.length : Nat) : Int)) = false := beq_false_of_ne (by omega)
    clear hcl
    refine wpAnyH_take (i := 11) (oi := ⟨some 24, _, _, _, _, _⟩) (v := .bool false) rfl (by kernel_rfl) (by kernel_rfl) (by kernel_rfl) (fun _ _ _ h => h) (Or.inl ⟨by rfl, ?_⟩) HS0.out ?_
    · intro w hSw
      go_simp <;> with_reducible rfl
    dsimp only [Act.put]
    simp only [List.setIfInBounds_toArray, List.set_cons_zero, List.set_cons_succ]
    refine wpAnyH_take (i := 12) (oi := ⟨some 25, _, _, _, _, _⟩) (v := ?_) rfl (by kernel_rfl) (by kernel_rfl) (by kernel_rfl) (fun _ _ _ h => h) (Or.inl ⟨by rfl, ?_⟩) HS0.out ?_
    rotate_left
    · intro w hSw
      go_simp <;> with_reducible rfl
    dsimp only [Act.put]
    simp only [List.setIfInBounds_toArray, List.set_cons_zero, List.set_cons_succ]
    refine wpAnyH_take (i := 13) (oi := ⟨some 26, _, _, _, _, _⟩) (v := undef) rfl (by kernel_rfl) (by kernel_rfl) (by kernel_rfl) (fun _ _ _ h => h) (Or.inr ⟨by rfl, rfl⟩) HS0.out ?_
    dsimp only [Act.put]
    simp only [List.setIfInBounds_toArray, List.set_cons_zero, List.set_cons_succ]
    refine wpAnyH_take (i := 14) (oi := ⟨some 27, _, _, _, _, _⟩) (v := undef) rfl (by kernel_rfl) (by kernel_rfl) (by kernel_rfl) (fun _ _ _ h => h) (Or.inr ⟨by rfl, rfl⟩) HS0.out ?_
    dsimp only [Act.put]
    simp only [List.setIfInBounds_toArray, List.set_cons_zero, List.set_cons_succ]
    refine wpAnyH_take (i := 15) (oi := ⟨some 28, _, _, _, _, _⟩) (v := undef) rfl (by kernel_rfl) (by kernel_rfl) (by kernel_rfl) (fun _ _ _ h => h) (Or.inr ⟨by rfl, rfl⟩) HS0.out ?_
    dsimp only [Act.put]
    simp only [List.setIfInBounds_toArray, List.set_cons_zero, List.set_cons_succ]
    refine wpAnyH_take (i := 16) (oi := ⟨some 29, _, _, _, _, _⟩) (v := undef) rfl (by kernel_rfl) (by kernel_rfl) (by kernel_rfl) (fun _ _ _ h => h) (Or.inr ⟨by rfl, rfl⟩) HS0.out ?_
    dsimp only [Act.put]
    simp only [List.setIfInBounds_toArray, List.set_cons_zero, List.set_cons_succ]
    refine wpAnyH_take (i := 17) (oi := ⟨some 30, _, _, _, _, _⟩) (v := undef) rfl (by kernel_rfl) (by kernel_rfl) (by kernel_rfl) (fun _ _ _ h => h) (Or.inr ⟨by rfl, rfl⟩) HS0.out ?_
    dsimp only [Act.put]
    simp only [List.setIfInBounds_toArray, List.set_cons_zero, List.set_cons_succ]
    refine wpAnyH_take (i := 18) (oi := ⟨some 31, _, _, _, _, _⟩) (v := undef) rfl (by kernel_rfl) (by kernel_rfl) (by kernel_rfl) (fun _ _ _ h => h) (Or.inr ⟨by rfl, rfl⟩) HS0.out ?_
    dsimp only [Act.put]
    simp only [List.setIfInBounds_toArray, List.set_cons_zero, List.set_cons_succ]
    refine wpAnyH_take (i := 19) (oi := ⟨some 32, _, _, _, _, _⟩) (v := undef) rfl (by kernel_rfl) (by kernel_rfl) (by kernel_rfl) (fun _ _ _ h => h) (Or.inr ⟨by rfl, rfl⟩) HS0.out ?_
    dsimp only [Act.put]
    simp only [List.setIfInBounds_toArray, List.set_cons_zero, List.set_cons_succ]
    refine wpAnyH_take (i := 20) (oi := ⟨some 33, _, _, _, _, _⟩) (v := .bool false) rfl (by kernel_rfl) (by kernel_rfl) (by kernel_rfl) (fun _ _ _ h => h) (Or.inl ⟨by rfl, ?_⟩) HS0.out ?_
    · intro w hSw
      go_simp <;> with_reducible rfl
    dsimp only [Act.put]
    simp only [List.setIfInBounds_toArray, List.set_cons_zero, List.set_cons_succ]
    refine wpAnyH_take (i := 21) (oi := ⟨some 34, _, _, _, _, _⟩) (v := .bool false) rfl (by kernel_rfl) (by kernel_rfl) (by kernel_rfl) (fun _ _ _ h => h) (Or.inl ⟨by rfl, ?_⟩) HS0.out ?_
    · intro w hSw
      go_simp <;> with_reducible rfl
    dsimp only [Act.put]
    simp only [List.setIfInBounds_toArray, List.set_cons_zero, List.set_cons_succ]
    refine wpAnyH_done (by kernel_rfl) ?_ _
    clear hce
    go_upto_region 3 with fail
    have HS4 := HS0
    go_step
    refine wpList_load_mid (P := Try.prog) rfl 24 _ rfl w.heap.size 0 rfl _ _ HS4.out.1 Try.underlying24 rfl HSi.out ?_
    refine wpList_load_mid (P := Try.prog) rfl 29 _ rfl (w.heap.size + 1) 0 rfl _ _ HS4.out.2.1.range Try.underlying29 rfl size_path ?_
    go_wp2_with fail
    refine (way_any I HI.out n c _ Hs w3 HN.out.1 HN.out.2.1 HN.out.2.2 HS4.out.2.2.2).mono ?_
    rintro e w4 ⟨v4, bs, rfl, hbl, hown, hpa, hb4⟩
    dsimp only
    have HOw := Lib.hid hown
    have HPa := Lib.hid hpa
    have HB4 := Lib.hid hb4
    have HBl := Lib.hid (show bs.reverse ≠ [] ∧ bs.reverse.length ≤ 1000000000 from ⟨fun e => by obtain ⟨b, r, ks, e2, _⟩ := hpa.nd; rw [e2] at e; simp at e, by rw [List.length_reverse]; omega⟩)
    clear hbl hown hpa hb4
    go_wp2_with fail
    refine (reverse_any w3.heap.size v4 bs.reverse w4 HOw.out HBl.out.1 HBl.out.2).mono ?_
    rintro e w5 ⟨rfl, hown, hkp, hb5⟩
    dsimp only
    rw [List.reverse_reverse] at hown
    have hb35 : Below w3.heap.size w3 w5 := HB4.out.trans hb5
    have HPa5 := Lib.hid ((HPa.out.kept hkp).imp (C' := fun _ => True) (fun _ _ _ => trivial))
    have HPt5 := Lib.hid (ptrs_of_own hown)
    have HS5 := Lib.hid (colS_below HS0.out hb35)
    have HB5 := Lib.hid (HB3.out.trans (hb35.mono HB3.out.size))
    have HBl5 := Lib.hid (show bs.length ≤ 1000000000 by have := HBl.out.2; rw [List.length_reverse] at this; exact this)
    clear hown hkp hb5 hb35 HOw HPa HB4 HBl HS0 HS4 HB3
    go_wp2_with fail
    refine (tree_any _ Is w5 HIl2.out HS5.out.2.2.1).mono ?_
    rintro e w6 ⟨o, rfl, hta, hb6⟩
    unfold ptr
    dsimp only
    have HTa := Lib.hid hta
    have HPa6 := Lib.hid (HPa5.out.below hb6)
    have HPt6 := Lib.hid (HPt5.out.below hb6)
    have HB6 := Lib.hid (HB5.out.trans (hb6.mono HB5.out.size))
    clear hta hb6
    repeat (first | (exact collide_t v4 bs o (.top c (leadUp [] Pa.kl Pa.kr (.leaf I) n c Hs)) (treeT Is) w _ HPt6.out HBl5.out HPa6.out HTa.out HFt.out HEq.out HB6.out) | go_step)
end Go.Proofs.Ytbaepjhbpmhmgaa
/- plexusref03.left. -/
namespace Go.Proofs.Ytbaepjhbpmhmgaa
open Go.RowKit Go.Lib
set_option linter.unusedVariables false
set_option linter.unusedSimpArgs false
attribute [local go_sem ↓] Go.wp_at_zero Go.wp_at_succ

theorem add_nospot' (b o j : Nat) : (⟨b, o, none⟩ : Addr).add j = ⟨b, o + j, none⟩ := by
  unfold Addr.add
  split
  · rename_i h; subst h; rfl
  · rfl
theorem hs_take {w : World} {a : Option Addr} {c : Nat} {Is : List (List Nat)} (h : HsIs w (.slice a Is.length c) Is) (k : Nat) (hk : k ≤ Is.length) (h0 : 0 < k) : HsIs w (.slice a k c) (Is.take k) := by
  refine ⟨fun x hx => h.1 x (List.mem_of_mem_take hx), ?_⟩
  rcases h.2 with ⟨e, h9⟩ | ⟨b, off, c', e, q1, q2, q3⟩
  · rw [h9] at hk; simp at hk; omega
  · cases e
    have hl : (Is.take k).length = k := by rw [List.length_take]; omega
    refine .inr ⟨b, off, c, by rw [hl], by omega, q2, fun j hj => ?_⟩
    rw [hl] at hj
    have := q3 j (by omega)
    rw [show (Is.take k).getD j [] = Is.getD j [] by simp only [List.getD, List.getElem?_take_of_lt hj]]
    exact this

theorem hs_drop {w : World} {a : Option Addr} {c : Nat} {Is : List (List Nat)} (h : HsIs w (.slice a Is.length c) Is) (k : Nat) (hk : k < Is.length) :
    HsIs w (.slice (if c = k then a else Option.map (fun x => x.add (k * 32)) a) (Is.length - k) (c - k)) (Is.drop k) := by
  refine ⟨fun x hx => h.1 x (List.mem_of_mem_drop hx), ?_⟩
  rcases h.2 with ⟨e, h9⟩ | ⟨b, off, c', e, q1, q2, q3⟩
  · rw [h9] at hk; simp at hk
  · cases e
    have hl : (Is.drop k).length = Is.length - k := List.length_drop
    rw [if_neg (by omega)]
    refine .inr ⟨b, off + k * 32, c - k, by rw [hl, Option.map_some, add_nospot'], by omega, by omega, fun j hj => ?_⟩
    rw [hl] at hj
    have := q3 (k + j) (by omega)
    rw [show (Is.drop k).getD j [] = Is.getD (k + j) [] by simp only [List.getD, List.getElem?_drop], show off + k * 32 + j * 32 = off + (k + j) * 32 by omega]
    exact this
theorem leftR_isH (c : Nat) : ∀ l : List (List Nat), l.length = c → 1 ≤ c → IsH (leftR [] knotF (l.map leafF)) := by
  intro l hl h1
  by_cases h : c ≤ 1
  · obtain ⟨J, rfl⟩ : ∃ J, l = [J] := List.length_eq_one_iff.1 (by omega)
    rw [List.map_cons, List.map_nil, leftR_one _ _ _ (by simp)]
    exact leafF_h J
  · rw [leftR_more _ _ _ (by rw [List.length_map]; omega)]
    exact tagF_h _ _
theorem hs_cap {w : World} {a : Option Addr} {c : Nat} {Is : List (List Nat)} (h : HsIs w (.slice a Is.length c) Is) : Is.length ≤ c := by
  rcases h.2 with ⟨e, h9⟩ | ⟨b, off, c', e, q1, q2, q3⟩
  · rw [h9]; exact Nat.zero_le _
  · cases e; exact q1

set_option maxRecDepth 100000 in
set_option maxHeartbeats 3200000 in
theorem rleft_any (N : Nat) : ∀ (v : Value) (Is : List (List Nat)) (w : World), Is.length = N → 1 ≤ N → N ≤ 1000000 → HsIs w v Is →
    Calls Try.prog 24 #[v] w fun e w' => e = .returned (.agg (bys (leftR [] knotF (Is.map leafF))).toArray) ∧ Below w.heap.size w w' := by
  induction N using Nat.strongRecOn with
  | _ N ih =>
  intro v Is w hN h1 hl hv
  have hz := zero32
  obtain ⟨a0, c0, rfl⟩ := hv.form
  have HV := Lib.hid hv
  have HN := Lib.hid (And.intro hN (And.intro h1 hl))
  have HIh := Lib.hid ih
  clear hv hN h1 hl ih
  by_cases hone : Is.length = 1
  · have hq : (((Is.length : Nat) : Int) == 1) = true := by rw [hone]; rfl
    obtain ⟨H0, rfl⟩ : ∃ H0, Is = [H0] := List.length_eq_one_iff.1 hone
    obtain ⟨b, off, rfl⟩ : ∃ b off, a0 = some ⟨b, off, none⟩ := by
      rcases HV.out.2 with ⟨_, h0⟩ | ⟨b, off, c, e1, _⟩
      · cases h0
      · injection e1 with e1 _ _; exact ⟨b, off, e1⟩
    have hr0 := colS_at HV.out (show 0 < [H0].length by simp)
    rw [Nat.zero_mul, Nat.add_zero] at hr0
    have HH0 := Lib.hid (HV.out.1 H0 (by simp))
    have HR0 := Lib.hid (show w.rangeAt b off (bys H0) from hr0)
    have HSh0 := Lib.hid (size_hash H0 HH0.out.1)
    clear hone hr0
    rw [show [H0].length = 1 from rfl] at hq ⊢
    go_enter Try.func24, Try.ntmps24
    go_upto_region 1 with fail
    have hpk := And.intro (Arr.made w 24 (List.replicate 32 (.int .u8 0))) ((Below.refl w.heap.size w).alloc (Nat.le_refl _) (.cells (List.replicate 32 (.int .u8 0)).toArray 24))
    simp only [List.reduceReplicate] at hpk
    have HPk := Lib.hid hpk
    clear hpk hz
    generalize World.alloc _ _ = w1 at HPk ⊢
    have HR1 := Lib.hid (rangeAt_below HR0.out HPk.out.2 (World.block_lt_of_cell? w _ (HR0.out 0 _ (bys_get _ 0 (by rw [HH0.out.1]; omega)))))
    go_upto_region 2 with fail
    clear hq
    go_step
    iterate 6 (first | go_values | go_skip | go_guarded | go_step | go_upon)
    refine wpList_load_mid (P := Try.prog) rfl 24 _ rfl b off rfl _ _ HR1.out Try.underlying24 rfl HSh0.out ?_
    go_wp2_with fail
    refine (rleaf_any H0 HH0.out w1).mono ?_
    rintro e w2 ⟨rfl, hb2⟩
    dsimp only
    have HAx := Lib.hid (HPk.out.1.below hb2 HPk.out.1.lt)
    have HBx := Lib.hid (HPk.out.2.trans (hb2.mono HPk.out.2.size))
    clear hb2
    obtain ⟨R, hR⟩ : ∃ R, R = leafF H0 := ⟨_, rfl⟩
    rw [← hR]
    have HRe := Lib.hid hR
    have HRh := Lib.hid (show IsH R by rw [hR]; exact leafF_h _)
    have HSr := Lib.hid (size_hash R HRh.out.1)
    have HSr2 := Lib.hid (show (Try.prog.info? 24).map (·.size) = some (bys R).toArray.size by rw [List.size_toArray]; exact HSr.out)
    have O1 := Lib.hid (all_oneCell_toArray (bys_one R))
    clear hR
    go_step
    refine wpList_store_mid (P := Try.prog) rfl 24 _ _ rfl w.heap.size 0 (bys R).toArray rfl rfl (HAx.out.there _ (by simp [bys_len, HRh.out.1])) HSr2.out O1.out ?_
    rw [show (bys R).toArray.toList = bys R from rfl]
    have HA5 := Lib.hid (HAx.out.setAll (bys R) (by simp [bys_len, HRh.out.1]))
    have HB9 := Lib.hid (below_sets w.heap.size (by omega) (bys R) 0 HBx.out)
    generalize World.setCells _ _ _ _ = w9 at *
    go_wp2
    refine bodyPost_ret (results_cell_row (P := Try.prog) rfl _ _ w.heap.size 24 _ (0, 0) _ rfl HA5.out Try.underlying24 rfl (by rw [List.size_toArray]; exact HSr.out)) rfl ?_
    exact ⟨by rw [HRe.out, List.map_cons, List.map_nil, leftR_one _ _ _ (by simp)]; rfl, HB9.out⟩
  · have hq : (((Is.length : Nat) : Int) == 1) = false := beq_false_of_ne (by omega)
    have HTw := Lib.hid (show 2 ≤ Is.length by have := HN.out; omega)
    clear hone
    go_enter Try.func24, Try.ntmps24
    go_upto_region 1 with fail
    have hpk := And.intro (Arr.made w 24 (List.replicate 32 (.int .u8 0))) ((Below.refl w.heap.size w).alloc (Nat.le_refl _) (.cells (List.replicate 32 (.int .u8 0)).toArray 24))
    simp only [List.reduceReplicate] at hpk
    have HPk := Lib.hid hpk
    clear hpk hz
    generalize World.alloc _ _ = w1 at HPk ⊢
    go_upto_region 3 with fail
    clear hq
    go_wp2_with fail
    refine (half_any Is.length w1 (by have := HN.out; omega)).mono ?_
    rintro e w2 ⟨rfl, rfl⟩
    dsimp only
    have hb := half_bounds Is.length HTw.out
    obtain ⟨k, hk⟩ : ∃ k, half Is.length = k := ⟨_, rfl⟩
    have HKe := Lib.hid hk
    rw [hk] at hb ⊢
    have HKb := Lib.hid hb
    clear hb hk
    go_upto_region 4 with fail
    refine wp_region_U (fun w' => True) 9 (by kernel_rfl) ?_
    simp only [List.size_toArray, List.length_cons, List.length_nil, Nat.reduceAdd, Array.replicate_succ, Array.replicate_zero, List.push_toArray, List.nil_append, List.cons_append]
    have HS0 := Lib.hid True.intro
    have h0k : 0 ≤ (k : Int) := by omega
    have hkn : (k : Int) ≤ ((Is.length : Nat) : Int) := by have := HKb.out; omega
    have hkc : k ≤ c0 := by have := HKb.out; have := hs_cap HV.out; omega
    refine wpAnyU_take0 (i := 0) (oi := ⟨some 14, _, _, _, _, _⟩) (v := ?_) rfl (by kernel_rfl) (by kernel_rfl) (by kernel_rfl) (by decide) (fun _ _ _ h => h) (Or.inl ⟨by rfl, ?_⟩) (fun _ => HS0.out) ?_
    rotate_left
    · intro w hSw; go_simp <;> with_reducible rfl
    dsimp only [Act.put]
    simp only [List.setIfInBounds_toArray, List.set_cons_zero, List.set_cons_succ]
    refine wpAnyU_take0 (i := 1) (oi := ⟨some 15, _, _, _, _, _⟩) (v := ?_) rfl (by kernel_rfl) (by kernel_rfl) (by kernel_rfl) (by decide) (fun _ _ _ h => h) (Or.inl ⟨by rfl, ?_⟩) (fun _ => HS0.out) ?_
    rotate_left
    · intro w hSw; go_simp <;> with_reducible rfl
    dsimp only [Act.put]
    simp only [List.setIfInBounds_toArray, List.set_cons_zero, List.set_cons_succ]
    refine wpAnyU_take0 (i := 2) (oi := ⟨some 16, _, _, _, _, _⟩) (v := ?_) rfl (by kernel_rfl) (by kernel_rfl) (by kernel_rfl) (by decide) (fun _ _ _ h => h) (Or.inl ⟨by rfl, ?_⟩) (fun _ => HS0.out) ?_
    rotate_left
    · intro w hSw; go_simp <;> with_reducible rfl
    dsimp only [Act.put]
    simp only [List.setIfInBounds_toArray, List.set_cons_zero, List.set_cons_succ]
    refine wpAnyU_take0 (i := 4) (oi := ⟨some 18, _, _, _, _, _⟩) (v := ?_) rfl (by kernel_rfl) (by kernel_rfl) (by kernel_rfl) (by decide) (fun _ _ _ h => h) (Or.inl ⟨by rfl, ?_⟩) (fun _ => HS0.out) ?_
    rotate_left
    · intro w hSw; go_simp <;> with_reducible rfl
    dsimp only [Act.put]
    simp only [List.setIfInBounds_toArray, List.set_cons_zero, List.set_cons_succ]
    refine wpAnyU_take0 (i := 5) (oi := ⟨some 19, _, _, _, _, _⟩) (v := ?_) rfl (by kernel_rfl) (by kernel_rfl) (by kernel_rfl) (by decide) (fun _ _ _ h => h) (Or.inl ⟨by rfl, ?_⟩) (fun _ => HS0.out) ?_
    rotate_left
    · intro w hSw; go_simp <;> with_reducible rfl
    dsimp only [Act.put]
    simp only [List.setIfInBounds_toArray, List.set_cons_zero, List.set_cons_succ]
    refine wpAnyU_take0 (i := 6) (oi := ⟨some 20, _, _, _, _, _⟩) (v := ?_) rfl (by kernel_rfl) (by kernel_rfl) (by kernel_rfl) (by decide) (fun _ _ _ h => h) (Or.inl ⟨by rfl, ?_⟩) (fun _ => HS0.out) ?_
    rotate_left
    · intro w hSw; go_simp <;> with_reducible rfl
    dsimp only [Act.put]
    simp only [List.setIfInBounds_toArray, List.set_cons_zero, List.set_cons_succ]
    obtain ⟨V9, hV9⟩ : ∃ V9, V9 = Value.slice (if c0 = k then a0 else Option.map (fun x => x.add (k * 32)) a0) (Is.length - k) (c0 - k) := ⟨_, rfl⟩
    rw [← hV9]
    have HV9 := Lib.hid hV9
    clear hV9
    refine wpAnyU_one (i := 3) (oi := ⟨some 17, _, _, _, _, _⟩) (by kernel_rfl) rfl rfl (fun K9 hK9 => ?_)
    have HK9 := Lib.hid hK9
    clear hK9
    have HVd := Lib.hid (HV.out.below HPk.out.2).drew
    have HAd := Lib.hid (show Arr w2.drew w.heap.size 24 _ from HPk.out.1)
    have HBd := Lib.hid HPk.out.2.drew
    clear HPk HS0 h0k hkn hkc
    generalize w2.drew = w5 at *
    have HtL := Lib.hid (show (Is.take k).length = k by rw [List.length_take]; have := HKb.out; omega)
    have HdL := Lib.hid (show (Is.drop k).length = Is.length - k by rw [List.length_drop])
    go_simp
    refine (HIh.out k (by have := HKb.out; have := HN.out; omega) _ (Is.take k) w5 HtL.out (by have := HKb.out; omega) (by have := HKb.out; have := HN.out; omega) (hs_take HVd.out k (by have := HKb.out; omega) (by have := HKb.out; omega))).mono ?_
    rintro e w3 ⟨rfl, hb3⟩
    dsimp only
    have HV3 := Lib.hid (HVd.out.below hb3)
    have HA3 := Lib.hid (HAd.out.below hb3 HAd.out.lt)
    have HB3 := Lib.hid (HBd.out.trans (hb3.mono HBd.out.size))
    clear HVd HAd HBd hb3
    obtain ⟨A, hA⟩ : ∃ A, A = leftR [] knotF ((Is.take k).map leafF) := ⟨_, rfl⟩
    have HAe := Lib.hid hA
    have HAh := Lib.hid (show IsH A by rw [hA]; exact leftR_isH _ _ rfl (by have := HtL.out; have := HKb.out; omega))
    rw [← hA]
    clear hA
    refine HK9.out _ _ (fun _ _ => trivial) ?_
    clear HK9
    simp only [List.setIfInBounds_toArray, List.set_cons_zero, List.set_cons_succ]
    refine wpAnyU_one (i := 7) (oi := ⟨some 21, _, _, _, _, _⟩) (by kernel_rfl) rfl rfl (fun K9 hK9 => ?_)
    have HK9 := Lib.hid hK9
    clear hK9
    go_simp
    refine (HIh.out (Is.length - k) (by have := HKb.out; have := HN.out; omega) _ (Is.drop k) w3 HdL.out (by have := HKb.out; omega) (by have := HKb.out; have := HN.out; omega) (by rw [HV9.out]; exact hs_drop HV3.out k (by have := HKb.out; omega))).mono ?_
    rintro e w4 ⟨rfl, hb4⟩
    dsimp only
    have HA4 := Lib.hid (HA3.out.below hb4 HA3.out.lt)
    have HB4 := Lib.hid (HB3.out.trans (hb4.mono HB3.out.size))
    clear HV3 HA3 HB3 hb4
    obtain ⟨B, hB⟩ : ∃ B, B = leftR [] knotF ((Is.drop k).map leafF) := ⟨_, rfl⟩
    have HBe := Lib.hid hB
    have HBh := Lib.hid (show IsH B by rw [hB]; exact leftR_isH _ _ rfl (by have := HdL.out; have := HKb.out; omega))
    rw [← hB]
    clear hB
    refine HK9.out _ _ (fun _ _ => trivial) ?_
    clear HK9
    simp only [List.setIfInBounds_toArray, List.set_cons_zero, List.set_cons_succ]
    refine wpAnyU_one (i := 8) (oi := ⟨some 22, _, _, _, _, _⟩) (by kernel_rfl) rfl rfl (fun K9 hK9 => ?_)
    have HK9 := Lib.hid hK9
    clear hK9
    go_simp
    refine (rknot_any A B HAh.out HBh.out w4).mono ?_
    rintro e w6 ⟨rfl, hb6⟩
    dsimp only
    have HAx := Lib.hid (HA4.out.below hb6 HA4.out.lt)
    have HBx := Lib.hid (HB4.out.trans (hb6.mono HB4.out.size))
    clear HA4 HB4 hb6
    obtain ⟨R, hR⟩ : ∃ R, R = knotF A B := ⟨_, rfl⟩
    rw [← hR]
    have HRe := Lib.hid hR
    have HRh := Lib.hid (show IsH R by rw [hR]; exact tagF_h _ _)
    have HSr := Lib.hid (size_hash R HRh.out.1)
    have HSr2 := Lib.hid (show (Try.prog.info? 24).map (·.size) = some (bys R).toArray.size by rw [List.size_toArray]; exact HSr.out)
    have O1 := Lib.hid (all_oneCell_toArray (bys_one R))
    clear hR
    refine HK9.out _ _ (fun _ _ => trivial) ?_
    clear HK9
    simp only [List.setIfInBounds_toArray, List.set_cons_zero, List.set_cons_succ]
    refine wpAnyU_one (i := 9) (oi := ⟨none, _, _, _, _, _⟩) (by kernel_rfl) rfl rfl (fun K9 hK9 => ?_)
    have HK9 := Lib.hid hK9
    clear hK9
    refine wp_store_mid (P := Try.prog) 24 (.tmp 2) (.tmp 22) rfl (w.heap.size) 0 (bys R).toArray rfl rfl (HAx.out.there _ (by simp [bys_len, HRh.out.1])) HSr2.out O1.out ?_
    refine HK9.out _ _ (fun h => absurd rfl h) ?_
    clear HK9
    dsimp only [Act.put]
    refine wpAnyU_done (by kernel_rfl) ?_ _
    have HA5 := Lib.hid (HAx.out.setAll (bys R) (by simp [bys_len, HRh.out.1]))
    have HB9 := Lib.hid (below_sets (w.heap.size) (by omega) (bys R) 0 HBx.out)
    generalize World.setCells _ _ _ _ = w9 at *
    go_wp2
    refine bodyPost_ret (results_cell_row (P := Try.prog) rfl _ _ (w.heap.size) 24 _ (0, 0) _ rfl HA5.out Try.underlying24 rfl (by rw [List.size_toArray]; exact HSr.out)) rfl ?_
    exact ⟨by rw [HRe.out, HAe.out, HBe.out, leftR_more [] knotF (Is.map leafF) (by rw [List.length_map]; have := HTw.out; omega), List.length_map, HKe.out, List.map_take, List.map_drop], HB9.out⟩
end Go.Proofs.Ytbaepjhbpmhmgaa
