/- proof.Extract, where it tells two texts. -/
import Derived.Test.YtbaepjhbpmhmgaaG28
namespace Go.Proofs.Ytbaepjhbpmhmgaa
open Go.RowKit Go.Lib
set_option linter.unusedVariables false
set_option linter.unusedSimpArgs false
attribute [local go_sem ↓] Go.wp_at_zero Go.wp_at_succ

theorem textB (X : List Nat) : textF (nmB ⟨#[98, 108, 111, 99, 107]⟩) [X].flatten = textF nBlock X := by rw [List.flatten_cons, List.flatten_nil, List.append_nil]; rfl
theorem textB_len (X : List Nat) : (textF nBlock X).length = 6 + X.length := by simp [textF, nBlock]; omega
open Classical in
set_option maxRecDepth 100000 in
set_option maxHeartbeats 6400000 in
theorem extract_yes (pv v hv iv : Value) (p h : Hdr) (hp : p.ok) (hk : h.ok) (n c : Int) (Hs Is : List (List Nat)) (I : List Nat) (hI : IsH I) (w : World) (hv0 : HsIs w pv p.P) (hv1 : HsIs w v Hs) (hv2 : HsIs w hv h.P) (hv3 : HsIs w iv Is) (hl : Is.length ≤ 1000000) (hok : extOk p h n c Hs Is I) :
    Calls Try.prog 6 #[.agg (pfC pv p n c v).toArray, .agg (bys I).toArray, .agg (hdC hv h).toArray, iv] w fun e w' => ∃ a b, e = .returned (.tuple #[a, b, .bool true]) ∧ Coll w' a b ∧ Below w.heap.size w w' := by
  obtain ⟨a0, c0, rfl⟩ := hv0.form
  obtain ⟨a1, c1, rfl⟩ := hv1.form
  obtain ⟨a2, c2, rfl⟩ := hv2.form
  obtain ⟨a3, c3, rfl⟩ := hv3.form
  have HV := Lib.hid (And.intro hv0 (And.intro hv1 (And.intro hv2 hv3)))
  have HOp := Lib.hid hp
  have HOk := Lib.hid hk
  have HI := Lib.hid hI
  have HIl := Lib.hid hl
  have HSi := Lib.hid (size_hash I HI.out.1)
  have HSa := Lib.hid (size_hash h.a hk.a.1)
  have HSp := Lib.hid (size_hdr (.slice a0 p.P.length c0) p hp)
  have HSh := Lib.hid (size_hdr (.slice a2 h.P.length c2) h hk)
  have HSf := Lib.hid (size_pf (.slice a0 p.P.length c0) p hp n c (.slice a1 Hs.length c1))
  have HSq := Lib.hid (size_pa n c (.slice a1 Hs.length c1))
  clear hv0 hv1 hv2 hv3 hp hk hI hl
  have HIl2 := Lib.hid (show Is.length ≤ 1048576 by have := HIl.out; omega)
  have HPl := Lib.hid hok.1
  have HPr := Lib.hid hok.2.1
  have HRa := Lib.hid hok.2.2.1
  have HNr0 := Lib.hid hok.2.2.2
  clear hok
  go_enter Try.func6, Try.ntmps6
  go_upto_region 1 with fail
  have hpk := three_laid w (pfC (.slice a0 p.P.length c0) p n c (.slice a1 Hs.length c1)) (bys I) (hdC (.slice a2 h.P.length c2) h) 31 24 27 _ rfl
  have HS1 := Lib.hid (show ExS w.heap.size (w.heap.size + 1) (w.heap.size + 1 + 1) (.slice a0 p.P.length c0) (.slice a1 Hs.length c1) (.slice a2 h.P.length c2) (.slice a3 Is.length c3) p h n c Hs Is I _ from ⟨⟨hpk.1, HOp.out⟩, hpk.2.1.range, ⟨hpk.2.2.1, HOk.out⟩, HV.out.1.below hpk.2.2.2, HV.out.2.1.below hpk.2.2.2, HV.out.2.2.1.below hpk.2.2.2, HV.out.2.2.2.below hpk.2.2.2⟩)
  have HB1 := Lib.hid hpk.2.2.2
  clear hpk HV
  generalize World.alloc (World.alloc (World.alloc _ _) _) _ = w1 at *
  go_step
  refine wpList_load_mid (P := Try.prog) rfl 27 _ rfl (w.heap.size + 1 + 1) 0 rfl _ _ HS1.out.2.2.1.1.range Try.underlying27 rfl HSh.out ?_
  have hP := HPl.out
  have HCh := Lib.hid (header_ok h HOk.out hP (.slice a2 h.P.length c2) w1 HS1.out.2.2.2.2.2.1)
  go_wp2_with fail
  with_reducible refine HCh.out.mono ?_
  rintro e w2 ⟨v2, rfl, hy2, hlo2, hb2⟩
  dsimp only
  have HS2 := Lib.hid (HS1.out.below HI.out hb2)
  have HB2 := Lib.hid (HB1.out.trans (hb2.mono HB1.out.size))
  obtain ⟨OL, hOL⟩ : ∃ OL, OL = hdrF h := ⟨_, rfl⟩
  rw [← hOL] at hy2
  have HOL := Lib.hid hOL
  have HY2 := Lib.hid (And.intro hy2 hlo2)
  clear hy2 hlo2 hb2 HS1 HB1 HCh hOL
  go_upto_region 2 with fail
  have HS0 := Lib.hid (show ExS w.heap.size (w.heap.size + 1) (w.heap.size + 1 + 1) (.slice a0 p.P.length c0) (.slice a1 Hs.length c1) (.slice a2 h.P.length c2) (.slice a3 Is.length c3) p h n c Hs Is I w2.drew ∧ Byts w2.drew v2 OL ∧ Low w2.drew v2 from ⟨HS2.out, HY2.out⟩)
  have HBd := Lib.hid HB2.out.drew
  clear HS2 HB2 HY2
  refine wp_region_H (fun w' => ExS w.heap.size (w.heap.size + 1) (w.heap.size + 1 + 1) (.slice a0 p.P.length c0) (.slice a1 Hs.length c1) (.slice a2 h.P.length c2) (.slice a3 Is.length c3) p h n c Hs Is I w' ∧ Byts w' v2 OL ∧ Low w' v2) (by kernel_rfl) ?_
  generalize w2.drew = w3 at *
  clear hP
  simp only [List.size_toArray, List.length_cons, List.length_nil, Nat.reduceAdd, Array.replicate_succ, Array.replicate_zero, List.push_toArray, List.nil_append, List.cons_append]
  refine wpAnyH_take (i := 0) (oi := ⟨some 20, _, _, _, _, _⟩) (v := ?_) rfl (by kernel_rfl) (by kernel_rfl) (by kernel_rfl) (fun _ _ _ h => h) (Or.inl ⟨by rfl, ?_⟩) HS0.out ?_
  rotate_left
  · intro w hSw
    go_simp <;> with_reducible rfl
  dsimp only [Act.put]
  simp only [List.setIfInBounds_toArray, List.set_cons_zero, List.set_cons_succ]
  refine wpAnyH_take (i := 1) (oi := ⟨some 21, _, _, _, _, _⟩) (v := .bool false) rfl (by kernel_rfl) (by kernel_rfl) (by kernel_rfl) (fun _ _ _ h => h) (Or.inl ⟨by rfl, ?_⟩) HS0.out ?_
  · intro w hSw
    go_simp <;> with_reducible rfl
  dsimp only [Act.put]
  simp only [List.setIfInBounds_toArray, List.set_cons_zero, List.set_cons_succ]
  refine wpAnyH_take (i := 2) (oi := ⟨some 22, _, _, _, _, _⟩) (v := ?_) rfl (by kernel_rfl) (by kernel_rfl) (by kernel_rfl) (fun _ _ _ h => h) (Or.inl ⟨by rfl, ?_⟩) HS0.out ?_
  rotate_left
  · intro w hSw
    go_simp <;> with_reducible rfl
  dsimp only [Act.put]
  simp only [List.setIfInBounds_toArray, List.set_cons_zero, List.set_cons_succ]
  refine wpAnyH_take (i := 3) (oi := ⟨some 23, _, _, _, _, _⟩) rfl (by kernel_rfl) (by kernel_rfl) (by kernel_rfl) (fun _ _ _ h => h) (yieldsIf_load_mid (by rfl) 31 (.tmp 4) rfl (w.heap.size) (0) rfl (pfC (.slice a0 p.P.length c0) p n c (.slice a1 Hs.length c1)) _ (fun w h => h.1.1.1.range) Try.underlying31 rfl HSf.out) HS0.out ?_
  dsimp only [Act.put]
  simp only [List.setIfInBounds_toArray, List.set_cons_zero, List.set_cons_succ]
  refine wpAnyH_take (i := 4) (oi := ⟨some 24, _, _, _, _, _⟩) rfl (by kernel_rfl) (by kernel_rfl) (by kernel_rfl) (fun _ _ _ h => h) (yieldsIf_load_mid (by rfl) 24 (.tmp 5) rfl (w.heap.size + 1) (0) rfl (bys I) _ (fun w h => h.1.2.1) Try.underlying24 rfl HSi.out) HS0.out ?_
  dsimp only [Act.put]
  simp only [List.setIfInBounds_toArray, List.set_cons_zero, List.set_cons_succ]
  refine wpAnyH_take (i := 5) (oi := ⟨some 25, _, _, _, _, _⟩) rfl (by kernel_rfl) (by kernel_rfl) (by kernel_rfl) (fun _ _ _ h => h) (yieldsIf_load_mid (by rfl) 27 (.tmp 6) rfl (w.heap.size + 1 + 1) (0) rfl (hdC (.slice a2 h.P.length c2) h) _ (fun w h => h.1.2.2.1.1.range) Try.underlying27 rfl HSh.out) HS0.out ?_
  dsimp only [Act.put]
  simp only [List.setIfInBounds_toArray, List.set_cons_zero, List.set_cons_succ]
  refine wpAnyH_one (i := 6) (oi := ⟨some 26, _, _, _, _, _⟩) (by kernel_rfl) rfl (by rfl) (fun K9 hK9 => ?_)
  have HK9 := Lib.hid hK9
  clear hK9
  go_simp
  have HCi := Lib.hid (bid_any h HOk.out HPl.out (.slice a2 h.P.length c2) w3 HS0.out.1.2.2.2.2.2.1)
  with_reducible refine HCi.out.mono ?_
  rintro e w4 ⟨rfl, hb4⟩
  dsimp only
  have hS4 := exs_below HS0.out HI.out hb4
  have HB4 := Lib.hid (HBd.out.trans (hb4.mono HBd.out.size))
  clear HS0 HBd hb4 HCi
  have HS0 := Lib.hid hS4
  clear hS4
  refine HK9.out _ _ HS0.out ?_
  clear HK9
  simp only [List.setIfInBounds_toArray, List.set_cons_zero, List.set_cons_succ]
  refine wpAnyH_one (i := 7) (oi := ⟨some 27, _, _, _, _, _⟩) (by kernel_rfl) rfl (by rfl) (fun K9 hK9 => ?_)
  have HK9 := Lib.hid hK9
  clear hK9
  go_simp
  have HCi := Lib.hid (pcheck_any (.slice a0 p.P.length c0) (.slice a1 Hs.length c1) p HOp.out n c Hs I (idF h) HI.out (tagF_h _ _) w4 HS0.out.1.2.2.2.1 HS0.out.1.2.2.2.2.1)
  rw [if_pos HPr.out] at HCi
  with_reducible refine HCi.out.mono ?_
  rintro e w5 ⟨rfl, hb5⟩
  dsimp only
  have hS4 := exs_below HS0.out HI.out hb5
  have HB5 := Lib.hid (HB4.out.trans (hb5.mono HB4.out.size))
  clear HS0 HB4 hb5 HCi
  have HS0 := Lib.hid hS4
  clear hS4
  refine HK9.out _ _ HS0.out ?_
  clear HK9
  simp only [List.setIfInBounds_toArray, List.set_cons_zero, List.set_cons_succ]
  refine wpAnyH_take (i := 8) (oi := ⟨some 28, _, _, _, _, _⟩) (v := .bool false) rfl (by kernel_rfl) (by kernel_rfl) (by kernel_rfl) (fun _ _ _ h => h) (Or.inl ⟨by rfl, ?_⟩) HS0.out ?_
  · intro w hSw
    go_simp <;> with_reducible rfl
  dsimp only [Act.put]
  simp only [List.setIfInBounds_toArray, List.set_cons_zero, List.set_cons_succ]
  refine wpAnyH_take (i := 9) (oi := ⟨some 29, _, _, _, _, _⟩) (v := .bool false) rfl (by kernel_rfl) (by kernel_rfl) (by kernel_rfl) (fun _ _ _ h => h) (Or.inl ⟨by rfl, ?_⟩) HS0.out ?_
  · intro w hSw
    go_simp <;> with_reducible rfl
  dsimp only [Act.put]
  simp only [List.setIfInBounds_toArray, List.set_cons_zero, List.set_cons_succ]
  refine wpAnyH_take (i := 10) (oi := ⟨some 30, _, _, _, _, _⟩) (v := ?_) rfl (by kernel_rfl) (by kernel_rfl) (by kernel_rfl) (fun _ _ _ h => h) (Or.inl ⟨by rfl, ?_⟩) HS0.out ?_
  rotate_left
  · intro w hSw
    go_simp <;> with_reducible rfl
  dsimp only [Act.put]
  simp only [List.setIfInBounds_toArray, List.set_cons_zero, List.set_cons_succ]
  refine wpAnyH_take (i := 11) (oi := ⟨some 31, _, _, _, _, _⟩) (v := ?_) rfl (by kernel_rfl) (by kernel_rfl) (by kernel_rfl) (fun _ _ _ h => h) (Or.inl ⟨by rfl, ?_⟩) HS0.out ?_
  rotate_left
  · intro w hSw
    go_simp <;> with_reducible rfl
  dsimp only [Act.put]
  simp only [List.setIfInBounds_toArray, List.set_cons_zero, List.set_cons_succ]
  refine wpAnyH_take (i := 13) (oi := ⟨some 33, _, _, _, _, _⟩) (v := ?_) rfl (by kernel_rfl) (by kernel_rfl) (by kernel_rfl) (fun _ _ _ h => h) (Or.inl ⟨by rfl, ?_⟩) HS0.out ?_
  rotate_left
  · intro w hSw
    go_simp <;> with_reducible rfl
  dsimp only [Act.put]
  simp only [List.setIfInBounds_toArray, List.set_cons_zero, List.set_cons_succ]
  refine wpAnyH_take (i := 14) (oi := ⟨some 34, _, _, _, _, _⟩) rfl (by kernel_rfl) (by kernel_rfl) (by kernel_rfl) (fun _ _ _ h => h) (yieldsIf_load_mid (by rfl) 24 (.tmp 33) rfl (w.heap.size + 1 + 1) (33) rfl (bys h.a) _ (fun w h => h.1.2.2.1.ra) Try.underlying24 rfl HSa.out) HS0.out ?_
  dsimp only [Act.put]
  simp only [List.setIfInBounds_toArray, List.set_cons_zero, List.set_cons_succ]
  refine wpAnyH_one (i := 12) (oi := ⟨some 32, _, _, _, _, _⟩) (by kernel_rfl) rfl (by rfl) (fun K9 hK9 => ?_)
  have HK9 := Lib.hid hK9
  clear hK9
  go_simp
  have HCi := Lib.hid (mroot_any (.slice a3 Is.length c3) Is w5 HIl2.out HS0.out.1.2.2.2.2.2.2)
  with_reducible refine HCi.out.mono ?_
  rintro e w6 ⟨rfl, hb6⟩
  dsimp only
  have hS4 := exs_below HS0.out HI.out hb6
  have HB6 := Lib.hid (HB5.out.trans (hb6.mono HB5.out.size))
  clear HS0 HB5 hb6 HCi
  have HS0 := Lib.hid hS4
  clear hS4
  refine HK9.out _ _ HS0.out ?_
  clear HK9
  simp only [List.setIfInBounds_toArray, List.set_cons_zero, List.set_cons_succ]
  have HRh := Lib.hid HOk.out.a
  rw [HRa.out]
  refine wpAnyH_take (i := 15) (oi := ⟨some 35, _, _, _, _, _⟩) (v := .bool false) rfl (by kernel_rfl) (by kernel_rfl) (by kernel_rfl) (fun _ _ _ h => h) (Or.inl ⟨by rfl, ?_⟩) HS0.out ?_
  · intro w hSw
    have hne := equal_hash w h.a h.a HRh.out HRh.out
    rw [show decide (h.a = h.a) = true from decide_eq_true rfl] at hne
    go_simp <;> with_reducible rfl
  dsimp only [Act.put]
  simp only [List.setIfInBounds_toArray, List.set_cons_zero, List.set_cons_succ]
  refine wpAnyH_take (i := 16) (oi := ⟨some 36, _, _, _, _, _⟩) (v := .bool false) rfl (by kernel_rfl) (by kernel_rfl) (by kernel_rfl) (fun _ _ _ h => h) (Or.inl ⟨by rfl, ?_⟩) HS0.out ?_
  · intro w hSw
    go_simp <;> with_reducible rfl
  dsimp only [Act.put]
  simp only [List.setIfInBounds_toArray, List.set_cons_zero, List.set_cons_succ]
  refine wpAnyH_done (by kernel_rfl) ?_ _
  obtain ⟨n', c', rfl, rfl, hnc, hc2, hsz, hroot⟩ := HPr.out.2.2
  have HN := Lib.hid (And.intro hnc (And.intro hc2 hsz))
  have HRt := Lib.hid hroot
  clear hnc hc2 hsz hroot
  have HNr := Lib.hid (show ¬ (c' = Is.length ∧ Is.getD n' [] = I) from fun hx => HNr0.out ⟨by rw [hx.1], by simpa using hx.2⟩)
  by_cases hcl : c' = Is.length
  · have hce : ((c' : Int) == ((Is.length : Nat) : Int)) = true := by rw [hcl]; exact beq_self_eq_true _
    have HNi0 := Lib.hid (show n' < Is.length by have := HN.out.1; omega)
    have HNi := HNi0
    obtain ⟨G, hG⟩ : ∃ G, Is.getD n' [] = G := ⟨_, rfl⟩
    have HG := Lib.hid hG
    have HIn := Lib.hid (show IsH G by rw [← hG]; exact IsH.getD HS0.out.1.2.2.2.2.2.2.1 HNi.out)
    have HSn := Lib.hid (size_hash G HIn.out.1)
    have hni : (n' : Int) < ((Is.length : Nat) : Int) := by have := HNi.out; omega
    obtain ⟨bi, oi, rfl⟩ : ∃ bi oi, a3 = some ⟨bi, oi, none⟩ := by
      rcases HS0.out.1.2.2.2.2.2.2.2 with ⟨e, h9⟩ | ⟨b, off, c9, e, _⟩
      · have := HNi.out; rw [h9] at this; simp at this
      · injection e with e1 _ _; exact ⟨_, _, e1⟩
    have HGi := Lib.hid (show ¬ G = I from fun e => HNr.out ⟨hcl, by rw [hG]; exact e⟩)
    clear hcl hG
    go_upto_region 4 with fail
    have HS4 := HS0
    clear HS0
    have HS0 := Lib.hid (show ExS w.heap.size (w.heap.size + 1) (w.heap.size + 1 + 1) (.slice a0 p.P.length c0) (.slice a1 Hs.length c1) (.slice a2 h.P.length c2) (.slice (some ⟨bi, oi, none⟩) Is.length c3) p h (n' : Int) (c' : Int) Hs Is I w6.drew ∧ Byts w6.drew v2 OL ∧ Low w6.drew v2 from HS4.out)
    have HBd := Lib.hid HB6.out.drew
    clear HS4 HB6
    refine wp_region_H (fun w' => ExS w.heap.size (w.heap.size + 1) (w.heap.size + 1 + 1) (.slice a0 p.P.length c0) (.slice a1 Hs.length c1) (.slice a2 h.P.length c2) (.slice (some ⟨bi, oi, none⟩) Is.length c3) p h (n' : Int) (c' : Int) Hs Is I w' ∧ Byts w' v2 OL ∧ Low w' v2) (by kernel_rfl) ?_
    generalize w6.drew = w7 at *
    simp only [List.size_toArray, List.length_cons, List.length_nil, Nat.reduceAdd, Array.replicate_succ, Array.replicate_zero, List.push_toArray, List.nil_append, List.cons_append]
    refine wpAnyH_take (i := 0) (oi := ⟨some 37, _, _, _, _, _⟩) (v := ?_) rfl (by kernel_rfl) (by kernel_rfl) (by kernel_rfl) (fun _ _ _ h => h) (Or.inl ⟨by rfl, ?_⟩) HS0.out ?_
    rotate_left
    · intro w hSw
      go_simp <;> with_reducible rfl
    dsimp only [Act.put]
    simp only [List.setIfInBounds_toArray, List.set_cons_zero, List.set_cons_succ]
    refine wpAnyH_take (i := 1) (oi := ⟨some 38, _, _, _, _, _⟩) (v := ?_) rfl (by kernel_rfl) (by kernel_rfl) (by kernel_rfl) (fun _ _ _ h => h) (Or.inl ⟨by rfl, ?_⟩) HS0.out ?_
    rotate_left
    · intro w hSw
      go_simp <;> with_reducible rfl
    dsimp only [Act.put]
    simp only [List.setIfInBounds_toArray, List.set_cons_zero, List.set_cons_succ]
    refine wpAnyH_take (i := 2) (oi := ⟨some 39, _, _, _, _, _⟩) (v := .int .i64 (c' : Int)) rfl (by kernel_rfl) (by kernel_rfl) (by kernel_rfl) (fun _ _ _ h => h) (Or.inl ⟨by rfl, ?_⟩) HS0.out ?_
    · intro w hSw
      have hq0 := hSw.1.1.pc
      go_simp <;> with_reducible rfl
    dsimp only [Act.put]
    simp only [List.setIfInBounds_toArray, List.set_cons_zero, List.set_cons_succ]
    refine wpAnyH_take (i := 3) (oi := ⟨some 40, _, _, _, _, _⟩) (v := ?_) rfl (by kernel_rfl) (by kernel_rfl) (by kernel_rfl) (fun _ _ _ h => h) (Or.inl ⟨by rfl, ?_⟩) HS0.out ?_
    rotate_left
    · intro w hSw
      go_simp <;> with_reducible rfl
    dsimp only [Act.put]
    simp only [List.setIfInBounds_toArray, List.set_cons_zero, List.set_cons_succ]
    refine wpAnyH_take (i := 4) (oi := ⟨some 41, _, _, _, _, _⟩) (v := ?_) rfl (by kernel_rfl) (by kernel_rfl) (by kernel_rfl) (fun _ _ _ h => h) (Or.inl ⟨by rfl, ?_⟩) HS0.out ?_
    rotate_left
    · intro w hSw
      go_simp <;> with_reducible rfl
    dsimp only [Act.put]
    simp only [List.setIfInBounds_toArray, List.set_cons_zero, List.set_cons_succ]
    refine wpAnyH_take (i := 5) (oi := ⟨some 42, _, _, _, _, _⟩) (v := .bool true) rfl (by kernel_rfl) (by kernel_rfl) (by kernel_rfl) (fun _ _ _ h => h) (Or.inl ⟨by rfl, ?_⟩) HS0.out ?_
    · intro w hSw
      go_simp <;> with_reducible rfl
    dsimp only [Act.put]
    simp only [List.setIfInBounds_toArray, List.set_cons_zero, List.set_cons_succ]
    refine wpAnyH_take (i := 6) (oi := ⟨some 43, _, _, _, _, _⟩) (v := ?_) rfl (by kernel_rfl) (by kernel_rfl) (by kernel_rfl) (fun _ _ _ h => h) (Or.inl ⟨by rfl, ?_⟩) HS0.out ?_
    rotate_left
    · intro w hSw
      go_simp <;> with_reducible rfl
    dsimp only [Act.put]
    simp only [List.setIfInBounds_toArray, List.set_cons_zero, List.set_cons_succ]
    refine wpAnyH_take (i := 7) (oi := ⟨some 44, _, _, _, _, _⟩) (v := ?_) rfl (by kernel_rfl) (by kernel_rfl) (by kernel_rfl) (fun _ _ _ h => h) (Or.inl ⟨by rfl, ?_⟩) HS0.out ?_
    rotate_left
    · intro w hSw
      go_simp <;> with_reducible rfl
    dsimp only [Act.put]
    simp only [List.setIfInBounds_toArray, List.set_cons_zero, List.set_cons_succ]
    refine wpAnyH_take (i := 8) (oi := ⟨some 45, _, _, _, _, _⟩) (v := ?_) rfl (by kernel_rfl) (by kernel_rfl) (by kernel_rfl) (fun _ _ _ h => h) (Or.inl ⟨by rfl, ?_⟩) HS0.out ?_
    rotate_left
    · intro w hSw
      go_simp <;> with_reducible rfl
    dsimp only [Act.put]
    simp only [List.setIfInBounds_toArray, List.set_cons_zero, List.set_cons_succ]
    refine wpAnyH_take (i := 9) (oi := ⟨some 46, _, _, _, _, _⟩) (v := ?_) rfl (by kernel_rfl) (by kernel_rfl) (by kernel_rfl) (fun _ _ _ h => h) (Or.inl ⟨by rfl, ?_⟩) HS0.out ?_
    rotate_left
    · intro w hSw
      go_simp <;> with_reducible rfl
    dsimp only [Act.put]
    simp only [List.setIfInBounds_toArray, List.set_cons_zero, List.set_cons_succ]
    refine wpAnyH_take (i := 10) (oi := ⟨some 47, _, _, _, _, _⟩) (v := .int .i64 (n' : Int)) rfl (by kernel_rfl) (by kernel_rfl) (by kernel_rfl) (fun _ _ _ h => h) (Or.inl ⟨by rfl, ?_⟩) HS0.out ?_
    · intro w hSw
      have hq0 := hSw.1.1.pn
      go_simp <;> with_reducible rfl
    dsimp only [Act.put]
    simp only [List.setIfInBounds_toArray, List.set_cons_zero, List.set_cons_succ]
    refine wpAnyH_take (i := 11) (oi := ⟨some 48, _, _, _, _, _⟩) (v := .pointer (some ⟨bi, oi + n' * 32, none⟩)) rfl (by kernel_rfl) (by kernel_rfl) (by kernel_rfl) (fun _ _ _ h => h) (Or.inl ⟨by rfl, ?_⟩) HS0.out ?_
    · intro w hSw
      go_simp <;> with_reducible rfl
    dsimp only [Act.put]
    simp only [List.setIfInBounds_toArray, List.set_cons_zero, List.set_cons_succ]
    refine wpAnyH_take (i := 12) (oi := ⟨some 49, _, _, _, _, _⟩) rfl (by kernel_rfl) (by kernel_rfl) (by kernel_rfl) (fun _ _ _ h => h) (yieldsIf_load_mid (by rfl) 24 (.tmp 48) rfl (bi) (oi + n' * 32) rfl (bys G) _ (fun w h => by rw [← HG.out]; exact colS_at h.1.2.2.2.2.2.2 HNi.out) Try.underlying24 rfl HSn.out) HS0.out ?_
    dsimp only [Act.put]
    simp only [List.setIfInBounds_toArray, List.set_cons_zero, List.set_cons_succ]
    refine wpAnyH_take (i := 13) (oi := ⟨some 50, _, _, _, _, _⟩) rfl (by kernel_rfl) (by kernel_rfl) (by kernel_rfl) (fun _ _ _ h => h) (yieldsIf_load_mid (by rfl) 24 (.tmp 5) rfl (w.heap.size + 1) (0) rfl (bys I) _ (fun w h => h.1.2.1) Try.underlying24 rfl HSi.out) HS0.out ?_
    dsimp only [Act.put]
    simp only [List.setIfInBounds_toArray, List.set_cons_zero, List.set_cons_succ]
    have hgi := HGi.out
    refine wpAnyH_take (i := 14) (oi := ⟨some 51, _, _, _, _, _⟩) (v := .bool false) rfl (by kernel_rfl) (by kernel_rfl) (by kernel_rfl) (fun _ _ _ h => h) (Or.inl ⟨by rfl, ?_⟩) HS0.out ?_
    · intro w hSw
      have hne := equal_hash w G I HIn.out HI.out
      rw [decide_eq_false hgi] at hne
      go_simp <;> with_reducible rfl
    dsimp only [Act.put]
    simp only [List.setIfInBounds_toArray, List.set_cons_zero, List.set_cons_succ]
    refine wpAnyH_take (i := 15) (oi := ⟨some 52, _, _, _, _, _⟩) (v := .bool false) rfl (by kernel_rfl) (by kernel_rfl) (by kernel_rfl) (fun _ _ _ h => h) (Or.inl ⟨by rfl, ?_⟩) HS0.out ?_
    · intro w hSw
      go_simp <;> with_reducible rfl
    dsimp only [Act.put]
    simp only [List.setIfInBounds_toArray, List.set_cons_zero, List.set_cons_succ]
    refine wpAnyH_done (by kernel_rfl) ?_ _
    clear hni
    clear hce
    go_upto_region 6 with fail
    go_step
    iterate 3 (first | go_values | go_skip | go_guarded | go_step | go_upon)
    refine wpList_load_mid (P := Try.prog) rfl 27 _ rfl w.heap.size 0 rfl _ _ HS0.out.1.1.hr Try.underlying27 rfl HSp.out ?_
    have HCh := Lib.hid (header_ok p HOp.out HPr.out.1 (.slice a0 p.P.length c0) w7 HS0.out.1.2.2.2.1)
    have HPf := Lib.hid (show (hdrF p).length ≤ 10000 by rw [hdrF_len p HOp.out HS0.out.1.2.2.2.1.1]; have := HPr.out.1; omega)
    have HOf := Lib.hid (show OL.length ≤ 10000 by rw [HOL.out, hdrF_len h HOk.out HS0.out.1.2.2.2.2.2.1.1]; have := HPl.out; omega)
    have HAe := Lib.hid (show hdrF p = OL → p.a = h.a from fun e => hdrF_a p h HOp.out HOk.out HPr.out.1 HPl.out HS0.out.1.2.2.2.1.1 HS0.out.1.2.2.2.2.2.1.1 (by rw [e, HOL.out]))
    go_wp2_with fail
    with_reducible refine HCh.out.mono ?_
    rintro e w8 ⟨v3, rfl, hy3, hlo3, hb8⟩
    dsimp only
    obtain ⟨PL, hPL⟩ : ∃ PL, PL = hdrF p := ⟨_, rfl⟩
    rw [← hPL] at HPf HAe hy3
    have HPL := Lib.hid hPL
    have HS8 := Lib.hid (exs_below HS0.out HI.out hb8)
    have HB8 := Lib.hid (HBd.out.trans (hb8.mono HBd.out.size))
    have HY3 := Lib.hid (And.intro hy3 hlo3)
    clear hPL hy3 hlo3 hb8 HS0 HBd HCh
    go_wp2_with fail
    have HCe := Lib.hid (equal_any PL OL v3 v2 w8 HY3.out.1 HS8.out.2.1 (by have := HPf.out; omega))
    with_reducible refine HCe.out.mono ?_
    rintro e w9 ⟨rfl, hb9⟩
    dsimp only
    have HS9 := Lib.hid (exs_below HS8.out HI.out hb9)
    have HB9 := Lib.hid (HB8.out.trans (hb9.mono HB8.out.size))
    have HY9 := Lib.hid (And.intro (HY3.out.1.below hb9) (HY3.out.2.below hb9))
    clear hb9 HS8 HB8 HY3 HCe
    by_cases heq : PL = OL
    · rw [decide_eq_true heq]
      have HRq := Lib.hid (show topF c' (upF I n' c' Hs) = mrootF Is by rw [HRt.out, HAe.out heq, HRa.out])
      clear heq
      go_upto_region 9 with fail
      go_step
      refine wpList_load_mid (P := Try.prog) rfl 24 _ rfl (w.heap.size + 1) 0 rfl _ _ HS9.out.1.2.1 Try.underlying24 rfl HSi.out ?_
      iterate 3 (first | go_values | go_skip | go_guarded | go_step | go_upon)
      refine wpList_load_mid (P := Try.prog) rfl 29 _ rfl w.heap.size 130 rfl _ _ HS9.out.1.1.pa Try.underlying29 rfl HSq.out ?_
      rw [show (paC (n' : Int) (c' : Int) (.slice a1 Hs.length c1)).toArray = #[.int .i64 (n' : Int), .int .i64 (c' : Int), (.slice a1 Hs.length c1)] from rfl]
      have HCc := Lib.hid (collide_yes I HI.out n' c' (.slice a1 Hs.length c1) (.slice (some ⟨bi, oi, none⟩) Is.length c3) Hs Is w9 HN.out.1 HN.out.2.1 HN.out.2.2 HS9.out.1.2.2.2.2.1 HS9.out.1.2.2.2.2.2.2 HIl.out HRq.out HNr.out)
      go_wp2_with fail
      with_reducible refine HCc.out.mono ?_
      rintro e w10 ⟨va, vb, rfl, hcol, hb10⟩
      dsimp only
      have HCo := Lib.hid hcol
      have HBf := Lib.hid (HB9.out.trans (hb10.mono HB9.out.size))
      clear hcol hb10 HCc HS9 HB9 HY9
      go_wp2
      refine bodyPost_ret (results_tmp3 rfl _ _ _) rfl ?_
      exact ⟨va, vb, rfl, HCo.out, HBf.out⟩
    · rw [decide_eq_false heq]
      have HNq := Lib.hid heq
      clear heq
      have hy9 := HY9.out
      have hs9 := HS9.out
      obtain ⟨a6, c6, h6⟩ := hy9.1.form
      obtain ⟨a8, c8, h8⟩ := hs9.2.1.form
      obtain ⟨m6, hm6⟩ : ∃ m6, PL.length = m6 := ⟨_, rfl⟩
      obtain ⟨m8, hm8⟩ : ∃ m8, OL.length = m8 := ⟨_, rfl⟩
      rw [hm6] at h6
      rw [hm8] at h8
      subst h6 h8
      have HP1 := Lib.hid (parts1 34 hy9.1 hy9.2)
      have HBa := Lib.hid (show Below w9.heap.size w9 (w9.alloc (.cells #[.slice a6 m6 c6] 34)) from (Below.refl _ _).alloc (Nat.le_refl _) _)
      have HX6 := Lib.hid (show PL.length ≤ 10000 from HPf.out)
      have HY8 := Lib.hid (And.intro hs9.2.1 hs9.2.2)
      have HPl256 := Lib.hid hy9.1.1
      clear hy9 hs9 hm6 hm8 HS9 HY9
      go_upto_region 8 with fail
      go_wp2_with fail
      have HT1 := Lib.hid (ptext_any ⟨#[98, 108, 111, 99, 107]⟩ _ [PL] _ (by decide) (by rw [List.flatten_cons, List.flatten_nil, List.append_nil]; have := HPf.out; omega) HP1.out)
      with_reducible refine HT1.out.mono ?_
      rintro e w10 ⟨v10, rfl, hy10, hlo10, hhi10, hb10⟩
      rw [textB] at hy10
      dsimp only
      have hb910 := HBa.out.trans (hb10.mono HBa.out.size)
      have HY10 := Lib.hid hy10
      have hy8 := HY8.out.1.below hb910
      have hl8 := HY8.out.2.below hb910
      have HP2 := Lib.hid (parts1 34 hy8 hl8)
      have HBb := Lib.hid (show Below w10.heap.size w10 (w10.alloc (.cells #[.slice a8 m8 c8] 34)) from (Below.refl _ _).alloc (Nat.le_refl _) _)
      have HB10 := Lib.hid (HB9.out.trans (hb910.mono HB9.out.size))
      clear hy10 hlo10 hhi10 hb10 hb910 hy8 hl8 HB9 HBa HP1 HT1 HY8
      go_wp2_with fail
      have HT2 := Lib.hid (ptext_any ⟨#[98, 108, 111, 99, 107]⟩ _ [OL] _ (by decide) (by rw [List.flatten_cons, List.flatten_nil, List.append_nil]; have := HOf.out; omega) HP2.out)
      with_reducible refine HT2.out.mono ?_
      rintro e w11 ⟨v11, rfl, hy11, hlo11, hhi11, hb11⟩
      rw [textB] at hy11
      dsimp only
      have hbb := HBb.out.trans (hb11.mono HBb.out.size)
      have HCo := Lib.hid (show Coll w11 v10 v11 from ⟨textF nBlock PL, textF nBlock OL, HY10.out.below hbb, hy11, fun e => HNq.out (textF_inj _ _ _ e), by
        have h9 := HPr.out.2.1
        show tagF nBlock PL = tagF nBlock OL
        rw [HPL.out, HOL.out]; exact h9, by rw [textB_len]; have := HPf.out; omega, by rw [textB_len]; have := HOf.out; omega⟩)
      have HBf := Lib.hid (HB10.out.trans (hbb.mono HB10.out.size))
      clear hy11 hlo11 hhi11 hb11 hbb HB10 HBb HP2 HT2 HY10
      go_wp2
      refine bodyPost_ret (results_tmp3 rfl _ _ _) rfl ?_
      exact ⟨v10, v11, rfl, HCo.out, HBf.out⟩
  · have hce : ((c' : Int) == ((Is.length : Nat) : Int)) = false := beq_false_of_ne (by omega)
    clear hcl
    go_upto_region 4 with fail
    have HS4 := HS0
    clear HS0
    have HS0 := Lib.hid (show ExS w.heap.size (w.heap.size + 1) (w.heap.size + 1 + 1) (.slice a0 p.P.length c0) (.slice a1 Hs.length c1) (.slice a2 h.P.length c2) (.slice a3 Is.length c3) p h (n' : Int) (c' : Int) Hs Is I w6.drew ∧ Byts w6.drew v2 OL ∧ Low w6.drew v2 from HS4.out)
    have HBd := Lib.hid HB6.out.drew
    clear HS4 HB6
    refine wp_region_H (fun w' => ExS w.heap.size (w.heap.size + 1) (w.heap.size + 1 + 1) (.slice a0 p.P.length c0) (.slice a1 Hs.length c1) (.slice a2 h.P.length c2) (.slice a3 Is.length c3) p h (n' : Int) (c' : Int) Hs Is I w' ∧ Byts w' v2 OL ∧ Low w' v2) (by kernel_rfl) ?_
    generalize w6.drew = w7 at *
    simp only [List.size_toArray, List.length_cons, List.length_nil, Nat.reduceAdd, Array.replicate_succ, Array.replicate_zero, List.push_toArray, List.nil_append, List.cons_append]
    refine wpAnyH_take (i := 0) (oi := ⟨some 37, _, _, _, _, _⟩) (v := ?_) rfl (by kernel_rfl) (by kernel_rfl) (by kernel_rfl) (fun _ _ _ h => h) (Or.inl ⟨by rfl, ?_⟩) HS0.out ?_
    rotate_left
    · intro w hSw
      go_simp <;> with_reducible rfl
    dsimp only [Act.put]
    simp only [List.setIfInBounds_toArray, List.set_cons_zero, List.set_cons_succ]
    refine wpAnyH_take (i := 1) (oi := ⟨some 38, _, _, _, _, _⟩) (v := ?_) rfl (by kernel_rfl) (by kernel_rfl) (by kernel_rfl) (fun _ _ _ h => h) (Or.inl ⟨by rfl, ?_⟩) HS0.out ?_
    rotate_left
    · intro w hSw
      go_simp <;> with_reducible rfl
    dsimp only [Act.put]
    simp only [List.setIfInBounds_toArray, List.set_cons_zero, List.set_cons_succ]
    refine wpAnyH_take (i := 2) (oi := ⟨some 39, _, _, _, _, _⟩) (v := .int .i64 (c' : Int)) rfl (by kernel_rfl) (by kernel_rfl) (by kernel_rfl) (fun _ _ _ h => h) (Or.inl ⟨by rfl, ?_⟩) HS0.out ?_
    · intro w hSw
      have hq0 := hSw.1.1.pc
      go_simp <;> with_reducible rfl
    dsimp only [Act.put]
    simp only [List.setIfInBounds_toArray, List.set_cons_zero, List.set_cons_succ]
    refine wpAnyH_take (i := 3) (oi := ⟨some 40, _, _, _, _, _⟩) (v := ?_) rfl (by kernel_rfl) (by kernel_rfl) (by kernel_rfl) (fun _ _ _ h => h) (Or.inl ⟨by rfl, ?_⟩) HS0.out ?_
    rotate_left
    · intro w hSw
      go_simp <;> with_reducible rfl
    dsimp only [Act.put]
    simp only [List.setIfInBounds_toArray, List.set_cons_zero, List.set_cons_succ]
    refine wpAnyH_take (i := 4) (oi := ⟨some 41, _, _, _, _, _⟩) (v := ?_) rfl (by kernel_rfl) (by kernel_rfl) (by kernel_rfl) (fun _ _ _ h => h) (Or.inl ⟨by rfl, ?_⟩) HS0.out ?_
    rotate_left
    · intro w hSw
      go_simp <;> with_reducible rfl
    dsimp only [Act.put]
    simp only [List.setIfInBounds_toArray, List.set_cons_zero, List.set_cons_succ]
    refine wpAnyH_take (i := 5) (oi := ⟨some 42, _, _, _, _, _⟩) (v := .bool false) rfl (by kernel_rfl) (by kernel_rfl) (by kernel_rfl) (fun _ _ _ h => h) (Or.inl ⟨by rfl, ?_⟩) HS0.out ?_
    · intro w hSw
      go_simp <;> with_reducible rfl
    dsimp only [Act.put]
    simp only [List.setIfInBounds_toArray, List.set_cons_zero, List.set_cons_succ]
    refine wpAnyH_take (i := 6) (oi := ⟨some 43, _, _, _, _, _⟩) (v := ?_) rfl (by kernel_rfl) (by kernel_rfl) (by kernel_rfl) (fun _ _ _ h => h) (Or.inl ⟨by rfl, ?_⟩) HS0.out ?_
    rotate_left
    · intro w hSw
      go_simp <;> with_reducible rfl
    dsimp only [Act.put]
    simp only [List.setIfInBounds_toArray, List.set_cons_zero, List.set_cons_succ]
    refine wpAnyH_take (i := 7) (oi := ⟨some 44, _, _, _, _, _⟩) (v := undef) rfl (by kernel_rfl) (by kernel_rfl) (by kernel_rfl) (fun _ _ _ h => h) (Or.inr ⟨by rfl, rfl⟩) HS0.out ?_
    dsimp only [Act.put]
    simp only [List.setIfInBounds_toArray, List.set_cons_zero, List.set_cons_succ]
    refine wpAnyH_take (i := 8) (oi := ⟨some 45, _, _, _, _, _⟩) (v := undef) rfl (by kernel_rfl) (by kernel_rfl) (by kernel_rfl) (fun _ _ _ h => h) (Or.inr ⟨by rfl, rfl⟩) HS0.out ?_
    dsimp only [Act.put]
    simp only [List.setIfInBounds_toArray, List.set_cons_zero, List.set_cons_succ]
    refine wpAnyH_take (i := 9) (oi := ⟨some 46, _, _, _, _, _⟩) (v := undef) rfl (by kernel_rfl) (by kernel_rfl) (by kernel_rfl) (fun _ _ _ h => h) (Or.inr ⟨by rfl, rfl⟩) HS0.out ?_
    dsimp only [Act.put]
    simp only [List.setIfInBounds_toArray, List.set_cons_zero, List.set_cons_succ]
    refine wpAnyH_take (i := 10) (oi := ⟨some 47, _, _, _, _, _⟩) (v := undef) rfl (by kernel_rfl) (by kernel_rfl) (by kernel_rfl) (fun _ _ _ h => h) (Or.inr ⟨by rfl, rfl⟩) HS0.out ?_
    dsimp only [Act.put]
    simp only [List.setIfInBounds_toArray, List.set_cons_zero, List.set_cons_succ]
    refine wpAnyH_take (i := 11) (oi := ⟨some 48, _, _, _, _, _⟩) (v := undef) rfl (by kernel_rfl) (by kernel_rfl) (by kernel_rfl) (fun _ _ _ h => h) (Or.inr ⟨by rfl, rfl⟩) HS0.out ?_
    dsimp only [Act.put]
    simp only [List.setIfInBounds_toArray, List.set_cons_zero, List.set_cons_succ]
    refine wpAnyH_take (i := 12) (oi := ⟨some 49, _, _, _, _, _⟩) (v := undef) rfl (by kernel_rfl) (by kernel_rfl) (by kernel_rfl) (fun _ _ _ h => h) (Or.inr ⟨by rfl, rfl⟩) HS0.out ?_
    dsimp only [Act.put]
    simp only [List.setIfInBounds_toArray, List.set_cons_zero, List.set_cons_succ]
    refine wpAnyH_take (i := 13) (oi := ⟨some 50, _, _, _, _, _⟩) (v := undef) rfl (by kernel_rfl) (by kernel_rfl) (by kernel_rfl) (fun _ _ _ h => h) (Or.inr ⟨by rfl, rfl⟩) HS0.out ?_
    dsimp only [Act.put]
    simp only [List.setIfInBounds_toArray, List.set_cons_zero, List.set_cons_succ]
    refine wpAnyH_take (i := 14) (oi := ⟨some 51, _, _, _, _, _⟩) (v := undef) rfl (by kernel_rfl) (by kernel_rfl) (by kernel_rfl) (fun _ _ _ h => h) (Or.inr ⟨by rfl, rfl⟩) HS0.out ?_
    dsimp only [Act.put]
    simp only [List.setIfInBounds_toArray, List.set_cons_zero, List.set_cons_succ]
    refine wpAnyH_take (i := 15) (oi := ⟨some 52, _, _, _, _, _⟩) (v := .bool false) rfl (by kernel_rfl) (by kernel_rfl) (by kernel_rfl) (fun _ _ _ h => h) (Or.inl ⟨by rfl, ?_⟩) HS0.out ?_
    · intro w hSw
      go_simp <;> with_reducible rfl
    dsimp only [Act.put]
    simp only [List.setIfInBounds_toArray, List.set_cons_zero, List.set_cons_succ]
    refine wpAnyH_done (by kernel_rfl) ?_ _
    clear hce
    go_upto_region 6 with fail
    go_step
    iterate 3 (first | go_values | go_skip | go_guarded | go_step | go_upon)
    refine wpList_load_mid (P := Try.prog) rfl 27 _ rfl w.heap.size 0 rfl _ _ HS0.out.1.1.hr Try.underlying27 rfl HSp.out ?_
    have HCh := Lib.hid (header_ok p HOp.out HPr.out.1 (.slice a0 p.P.length c0) w7 HS0.out.1.2.2.2.1)
    have HPf := Lib.hid (show (hdrF p).length ≤ 10000 by rw [hdrF_len p HOp.out HS0.out.1.2.2.2.1.1]; have := HPr.out.1; omega)
    have HOf := Lib.hid (show OL.length ≤ 10000 by rw [HOL.out, hdrF_len h HOk.out HS0.out.1.2.2.2.2.2.1.1]; have := HPl.out; omega)
    have HAe := Lib.hid (show hdrF p = OL → p.a = h.a from fun e => hdrF_a p h HOp.out HOk.out HPr.out.1 HPl.out HS0.out.1.2.2.2.1.1 HS0.out.1.2.2.2.2.2.1.1 (by rw [e, HOL.out]))
    go_wp2_with fail
    with_reducible refine HCh.out.mono ?_
    rintro e w8 ⟨v3, rfl, hy3, hlo3, hb8⟩
    dsimp only
    obtain ⟨PL, hPL⟩ : ∃ PL, PL = hdrF p := ⟨_, rfl⟩
    rw [← hPL] at HPf HAe hy3
    have HPL := Lib.hid hPL
    have HS8 := Lib.hid (exs_below HS0.out HI.out hb8)
    have HB8 := Lib.hid (HBd.out.trans (hb8.mono HBd.out.size))
    have HY3 := Lib.hid (And.intro hy3 hlo3)
    clear hPL hy3 hlo3 hb8 HS0 HBd HCh
    go_wp2_with fail
    have HCe := Lib.hid (equal_any PL OL v3 v2 w8 HY3.out.1 HS8.out.2.1 (by have := HPf.out; omega))
    with_reducible refine HCe.out.mono ?_
    rintro e w9 ⟨rfl, hb9⟩
    dsimp only
    have HS9 := Lib.hid (exs_below HS8.out HI.out hb9)
    have HB9 := Lib.hid (HB8.out.trans (hb9.mono HB8.out.size))
    have HY9 := Lib.hid (And.intro (HY3.out.1.below hb9) (HY3.out.2.below hb9))
    clear hb9 HS8 HB8 HY3 HCe
    by_cases heq : PL = OL
    · rw [decide_eq_true heq]
      have HRq := Lib.hid (show topF c' (upF I n' c' Hs) = mrootF Is by rw [HRt.out, HAe.out heq, HRa.out])
      clear heq
      go_upto_region 9 with fail
      go_step
      refine wpList_load_mid (P := Try.prog) rfl 24 _ rfl (w.heap.size + 1) 0 rfl _ _ HS9.out.1.2.1 Try.underlying24 rfl HSi.out ?_
      iterate 3 (first | go_values | go_skip | go_guarded | go_step | go_upon)
      refine wpList_load_mid (P := Try.prog) rfl 29 _ rfl w.heap.size 130 rfl _ _ HS9.out.1.1.pa Try.underlying29 rfl HSq.out ?_
      rw [show (paC (n' : Int) (c' : Int) (.slice a1 Hs.length c1)).toArray = #[.int .i64 (n' : Int), .int .i64 (c' : Int), (.slice a1 Hs.length c1)] from rfl]
      have HCc := Lib.hid (collide_yes I HI.out n' c' (.slice a1 Hs.length c1) (.slice a3 Is.length c3) Hs Is w9 HN.out.1 HN.out.2.1 HN.out.2.2 HS9.out.1.2.2.2.2.1 HS9.out.1.2.2.2.2.2.2 HIl.out HRq.out HNr.out)
      go_wp2_with fail
      with_reducible refine HCc.out.mono ?_
      rintro e w10 ⟨va, vb, rfl, hcol, hb10⟩
      dsimp only
      have HCo := Lib.hid hcol
      have HBf := Lib.hid (HB9.out.trans (hb10.mono HB9.out.size))
      clear hcol hb10 HCc HS9 HB9 HY9
      go_wp2
      refine bodyPost_ret (results_tmp3 rfl _ _ _) rfl ?_
      exact ⟨va, vb, rfl, HCo.out, HBf.out⟩
    · rw [decide_eq_false heq]
      have HNq := Lib.hid heq
      clear heq
      have hy9 := HY9.out
      have hs9 := HS9.out
      obtain ⟨a6, c6, h6⟩ := hy9.1.form
      obtain ⟨a8, c8, h8⟩ := hs9.2.1.form
      obtain ⟨m6, hm6⟩ : ∃ m6, PL.length = m6 := ⟨_, rfl⟩
      obtain ⟨m8, hm8⟩ : ∃ m8, OL.length = m8 := ⟨_, rfl⟩
      rw [hm6] at h6
      rw [hm8] at h8
      subst h6 h8
      have HP1 := Lib.hid (parts1 34 hy9.1 hy9.2)
      have HBa := Lib.hid (show Below w9.heap.size w9 (w9.alloc (.cells #[.slice a6 m6 c6] 34)) from (Below.refl _ _).alloc (Nat.le_refl _) _)
      have HX6 := Lib.hid (show PL.length ≤ 10000 from HPf.out)
      have HY8 := Lib.hid (And.intro hs9.2.1 hs9.2.2)
      have HPl256 := Lib.hid hy9.1.1
      clear hy9 hs9 hm6 hm8 HS9 HY9
      go_upto_region 8 with fail
      go_wp2_with fail
      have HT1 := Lib.hid (ptext_any ⟨#[98, 108, 111, 99, 107]⟩ _ [PL] _ (by decide) (by rw [List.flatten_cons, List.flatten_nil, List.append_nil]; have := HPf.out; omega) HP1.out)
      with_reducible refine HT1.out.mono ?_
      rintro e w10 ⟨v10, rfl, hy10, hlo10, hhi10, hb10⟩
      rw [textB] at hy10
      dsimp only
      have hb910 := HBa.out.trans (hb10.mono HBa.out.size)
      have HY10 := Lib.hid hy10
      have hy8 := HY8.out.1.below hb910
      have hl8 := HY8.out.2.below hb910
      have HP2 := Lib.hid (parts1 34 hy8 hl8)
      have HBb := Lib.hid (show Below w10.heap.size w10 (w10.alloc (.cells #[.slice a8 m8 c8] 34)) from (Below.refl _ _).alloc (Nat.le_refl _) _)
      have HB10 := Lib.hid (HB9.out.trans (hb910.mono HB9.out.size))
      clear hy10 hlo10 hhi10 hb10 hb910 hy8 hl8 HB9 HBa HP1 HT1 HY8
      go_wp2_with fail
      have HT2 := Lib.hid (ptext_any ⟨#[98, 108, 111, 99, 107]⟩ _ [OL] _ (by decide) (by rw [List.flatten_cons, List.flatten_nil, List.append_nil]; have := HOf.out; omega) HP2.out)
      with_reducible refine HT2.out.mono ?_
      rintro e w11 ⟨v11, rfl, hy11, hlo11, hhi11, hb11⟩
      rw [textB] at hy11
      dsimp only
      have hbb := HBb.out.trans (hb11.mono HBb.out.size)
      have HCo := Lib.hid (show Coll w11 v10 v11 from ⟨textF nBlock PL, textF nBlock OL, HY10.out.below hbb, hy11, fun e => HNq.out (textF_inj _ _ _ e), by
        have h9 := HPr.out.2.1
        show tagF nBlock PL = tagF nBlock OL
        rw [HPL.out, HOL.out]; exact h9, by rw [textB_len]; have := HPf.out; omega, by rw [textB_len]; have := HOf.out; omega⟩)
      have HBf := Lib.hid (HB10.out.trans (hbb.mono HB10.out.size))
      clear hy11 hlo11 hhi11 hb11 hbb HB10 HBb HP2 HT2 HY10
      go_wp2
      refine bodyPost_ret (results_tmp3 rfl _ _ _) rfl ?_
      exact ⟨v10, v11, rfl, HCo.out, HBf.out⟩
end Go.Proofs.Ytbaepjhbpmhmgaa
/- The chapter's row: two roots are unlike. -/
namespace Go.Proofs.Ytbaepjhbpmhmgaa
def hash1 : List Nat := 1 :: List.replicate 31 0
def hash2 : List Nat := 2 :: List.replicate 31 0
theorem known_ne : topF 2 (knotF (leafF hash2) (leafF hash2)) ≠ topF 2 (knotF (leafF hash1) (leafF hash2)) := by decide +kernel
end Go.Proofs.Ytbaepjhbpmhmgaa
