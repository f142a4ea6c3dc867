/- proof.Extract. -/
import Derived.Test.YtbaepjhbpmhmgaaG27
namespace Go.Proofs.Ytbaepjhbpmhmgaa
open Go.RowKit Go.Lib
set_option linter.unusedVariables false
set_option linter.unusedSimpArgs false
attribute [local go_sem ↓] Go.wp_at_zero Go.wp_at_succ

/-- What lies through Extract. -/
def ExS (g4 g5 g6 : Nat) (pv v hv iv : Value) (p h : Hdr) (n c : Int) (Hs Is : List (List Nat)) (I : List Nat) (w' : World) : Prop :=
  PfAt w' g4 pv p n c v ∧ w'.rangeAt g5 0 (bys I) ∧ HdrAt w' g6 hv h ∧ HsIs w' pv p.P ∧ HsIs w' v Hs ∧ HsIs w' hv h.P ∧ HsIs w' iv Is
theorem ExS.below {g4 g5 g6 : Nat} {pv v hv iv : Value} {p h : Hdr} {n c : Int} {Hs Is : List (List Nat)} {I : List Nat} {w w' : World} (hs : ExS g4 g5 g6 pv v hv iv p h n c Hs Is I w) (hI : IsH I) (hb : Below w.heap.size w w') : ExS g4 g5 g6 pv v hv iv p h n c Hs Is I w' :=
  ⟨hs.1.below hb hs.1.1.lt, rangeAt_below hs.2.1 hb (World.block_lt_of_cell? w _ (hs.2.1 0 _ (bys_get _ 0 (by rw [hI.1]; omega)))), hs.2.2.1.below hb hs.2.2.1.1.lt, hs.2.2.2.1.below hb, hs.2.2.2.2.1.below hb, hs.2.2.2.2.2.1.below hb, hs.2.2.2.2.2.2.below hb⟩
theorem exs_below {g4 g5 g6 : Nat} {pv v hv iv : Value} {p h : Hdr} {n c : Int} {Hs Is : List (List Nat)} {I : List Nat} {w w' : World} {v2 : Value} {OL : List Nat} (hs : ExS g4 g5 g6 pv v hv iv p h n c Hs Is I w ∧ Byts w v2 OL ∧ Low w v2) (hI : IsH I) (hb : Below w.heap.size w w') :
    ExS g4 g5 g6 pv v hv iv p h n c Hs Is I w' ∧ Byts w' v2 OL ∧ Low w' v2 := ⟨hs.1.below hI hb, hs.2.1.below hb, hs.2.2.below hb⟩
/-- Whether a proof checks for what it is not of. -/
def extOk (p h : Hdr) (n c : Int) (Hs Is : List (List Nat)) (I : List Nat) : Prop :=
  h.P.length ≤ 255 ∧ prOk p n c Hs I (idF h) ∧ mrootF Is = h.a ∧ ¬ (c = (Is.length : Int) ∧ Is.getD n.toNat [] = I)
theorem hdrF_a (p h : Hdr) (hp : p.ok) (hk : h.ok) (hp2 : p.P.length ≤ 255) (hk2 : h.P.length ≤ 255) (h1 : ∀ H ∈ p.P, IsH H) (h2 : ∀ H ∈ h.P, IsH H) (he : hdrF p = hdrF h) : p.a = h.a := by
  unfold hdrF at he
  obtain ⟨e1, e2⟩ := List.append_inj he (by rw [le8t, le8t])
  have hl : p.P.length = h.P.length := by
    simp only [le8, List.take_succ_cons, List.take_zero, List.cons.injEq, and_true] at e1
    omega
  obtain ⟨_, e3⟩ := List.append_inj e2 (by rw [hdr_flat p h1, hdr_flat h h2, hl])
  obtain ⟨_, e4⟩ := List.append_inj e3 (by rw [hp.r.1, hk.r.1])
  exact (List.append_inj e4 (by rw [hp.a.1, hk.a.1])).1

open Classical in
set_option maxRecDepth 100000 in
set_option maxHeartbeats 6400000 in
theorem extract_no (pv v hv iv : Value) (p h : Hdr) (hp : p.ok) (hk : h.ok) (n c : Int) (Hs Is : List (List Nat)) (I : List Nat) (hI : IsH I) (w : World) (hv0 : HsIs w pv p.P) (hv1 : HsIs w v Hs) (hv2 : HsIs w hv h.P) (hv3 : HsIs w iv Is) (hl : Is.length ≤ 1000000) (hno : ¬ extOk p h n c Hs Is I) :
    Calls Try.prog 6 #[.agg (pfC pv p n c v).toArray, .agg (bys I).toArray, .agg (hdC hv h).toArray, iv] w fun e w' => e = .returned (.tuple #[.slice none 0 0, .slice none 0 0, .bool false]) ∧ Below w.heap.size w w' := by
  obtain ⟨a0, c0, rfl⟩ := hv0.form
  obtain ⟨a1, c1, rfl⟩ := hv1.form
  obtain ⟨a2, c2, rfl⟩ := hv2.form
  obtain ⟨a3, c3, rfl⟩ := hv3.form
  have HV := Lib.hid (And.intro hv0 (And.intro hv1 (And.intro hv2 hv3)))
  have HOp := Lib.hid hp
  have HOk := Lib.hid hk
  have HI := Lib.hid hI
  have HIl := Lib.hid hl
  have HSi := Lib.hid (size_hash I HI.out.1)
  have HSa := Lib.hid (size_hash h.a hk.a.1)
  have HSp := Lib.hid (size_hdr (.slice a0 p.P.length c0) p hp)
  have HSh := Lib.hid (size_hdr (.slice a2 h.P.length c2) h hk)
  have HSf := Lib.hid (size_pf (.slice a0 p.P.length c0) p hp n c (.slice a1 Hs.length c1))
  have HSq := Lib.hid (size_pa n c (.slice a1 Hs.length c1))
  clear hv0 hv1 hv2 hv3 hp hk hI hl
  have HIl2 := Lib.hid (show Is.length ≤ 1048576 by have := HIl.out; omega)
  have HNo := Lib.hid hno
  clear hno
  go_enter Try.func6, Try.ntmps6
  go_upto_region 1 with fail
  have hpk := three_laid w (pfC (.slice a0 p.P.length c0) p n c (.slice a1 Hs.length c1)) (bys I) (hdC (.slice a2 h.P.length c2) h) 31 24 27 _ rfl
  have HS1 := Lib.hid (show ExS w.heap.size (w.heap.size + 1) (w.heap.size + 1 + 1) (.slice a0 p.P.length c0) (.slice a1 Hs.length c1) (.slice a2 h.P.length c2) (.slice a3 Is.length c3) p h n c Hs Is I _ from ⟨⟨hpk.1, HOp.out⟩, hpk.2.1.range, ⟨hpk.2.2.1, HOk.out⟩, HV.out.1.below hpk.2.2.2, HV.out.2.1.below hpk.2.2.2, HV.out.2.2.1.below hpk.2.2.2, HV.out.2.2.2.below hpk.2.2.2⟩)
  have HB1 := Lib.hid hpk.2.2.2
  clear hpk HV
  generalize World.alloc (World.alloc (World.alloc _ _) _) _ = w1 at *
  go_step
  refine wpList_load_mid (P := Try.prog) rfl 27 _ rfl (w.heap.size + 1 + 1) 0 rfl _ _ HS1.out.2.2.1.1.range Try.underlying27 rfl HSh.out ?_
  by_cases hP : h.P.length ≤ 255
  · have HPl := Lib.hid hP
    have HCh := Lib.hid (header_ok h HOk.out hP (.slice a2 h.P.length c2) w1 HS1.out.2.2.2.2.2.1)
    go_wp2_with fail
    with_reducible refine HCh.out.mono ?_
    rintro e w2 ⟨v2, rfl, hy2, hlo2, hb2⟩
    dsimp only
    have HS2 := Lib.hid (HS1.out.below HI.out hb2)
    have HB2 := Lib.hid (HB1.out.trans (hb2.mono HB1.out.size))
    obtain ⟨OL, hOL⟩ : ∃ OL, OL = hdrF h := ⟨_, rfl⟩
    rw [← hOL] at hy2
    have HOL := Lib.hid hOL
    have HY2 := Lib.hid (And.intro hy2 hlo2)
    clear hy2 hlo2 hb2 HS1 HB1 HCh hOL
    go_upto_region 2 with fail
    have HS0 := Lib.hid (show ExS w.heap.size (w.heap.size + 1) (w.heap.size + 1 + 1) (.slice a0 p.P.length c0) (.slice a1 Hs.length c1) (.slice a2 h.P.length c2) (.slice a3 Is.length c3) p h n c Hs Is I w2.drew ∧ Byts w2.drew v2 OL ∧ Low w2.drew v2 from ⟨HS2.out, HY2.out⟩)
    have HBd := Lib.hid HB2.out.drew
    clear HS2 HB2 HY2
    refine wp_region_H (fun w' => ExS w.heap.size (w.heap.size + 1) (w.heap.size + 1 + 1) (.slice a0 p.P.length c0) (.slice a1 Hs.length c1) (.slice a2 h.P.length c2) (.slice a3 Is.length c3) p h n c Hs Is I w' ∧ Byts w' v2 OL ∧ Low w' v2) (by kernel_rfl) ?_
    generalize w2.drew = w3 at *
    clear hP
    simp only [List.size_toArray, List.length_cons, List.length_nil, Nat.reduceAdd, Array.replicate_succ, Array.replicate_zero, List.push_toArray, List.nil_append, List.cons_append]
    refine wpAnyH_take (i := 0) (oi := ⟨some 20, _, _, _, _, _⟩) (v := ?_) rfl (by kernel_rfl) (by kernel_rfl) (by kernel_rfl) (fun _ _ _ h => h) (Or.inl ⟨by rfl, ?_⟩) HS0.out ?_
    rotate_left
    · intro w hSw
      go_simp <;> with_reducible rfl
    dsimp only [Act.put]
    simp only [List.setIfInBounds_toArray, List.set_cons_zero, List.set_cons_succ]
    refine wpAnyH_take (i := 1) (oi := ⟨some 21, _, _, _, _, _⟩) (v := .bool false) rfl (by kernel_rfl) (by kernel_rfl) (by kernel_rfl) (fun _ _ _ h => h) (Or.inl ⟨by rfl, ?_⟩) HS0.out ?_
    · intro w hSw
      go_simp <;> with_reducible rfl
    dsimp only [Act.put]
    simp only [List.setIfInBounds_toArray, List.set_cons_zero, List.set_cons_succ]
    refine wpAnyH_take (i := 2) (oi := ⟨some 22, _, _, _, _, _⟩) (v := ?_) rfl (by kernel_rfl) (by kernel_rfl) (by kernel_rfl) (fun _ _ _ h => h) (Or.inl ⟨by rfl, ?_⟩) HS0.out ?_
    rotate_left
    · intro w hSw
      go_simp <;> with_reducible rfl
    dsimp only [Act.put]
    simp only [List.setIfInBounds_toArray, List.set_cons_zero, List.set_cons_succ]
    refine wpAnyH_take (i := 3) (oi := ⟨some 23, _, _, _, _, _⟩) rfl (by kernel_rfl) (by kernel_rfl) (by kernel_rfl) (fun _ _ _ h => h) (yieldsIf_load_mid (by rfl) 31 (.tmp 4) rfl (w.heap.size) (0) rfl (pfC (.slice a0 p.P.length c0) p n c (.slice a1 Hs.length c1)) _ (fun w h => h.1.1.1.range) Try.underlying31 rfl HSf.out) HS0.out ?_
    dsimp only [Act.put]
    simp only [List.setIfInBounds_toArray, List.set_cons_zero, List.set_cons_succ]
    refine wpAnyH_take (i := 4) (oi := ⟨some 24, _, _, _, _, _⟩) rfl (by kernel_rfl) (by kernel_rfl) (by kernel_rfl) (fun _ _ _ h => h) (yieldsIf_load_mid (by rfl) 24 (.tmp 5) rfl (w.heap.size + 1) (0) rfl (bys I) _ (fun w h => h.1.2.1) Try.underlying24 rfl HSi.out) HS0.out ?_
    dsimp only [Act.put]
    simp only [List.setIfInBounds_toArray, List.set_cons_zero, List.set_cons_succ]
    refine wpAnyH_take (i := 5) (oi := ⟨some 25, _, _, _, _, _⟩) rfl (by kernel_rfl) (by kernel_rfl) (by kernel_rfl) (fun _ _ _ h => h) (yieldsIf_load_mid (by rfl) 27 (.tmp 6) rfl (w.heap.size + 1 + 1) (0) rfl (hdC (.slice a2 h.P.length c2) h) _ (fun w h => h.1.2.2.1.1.range) Try.underlying27 rfl HSh.out) HS0.out ?_
    dsimp only [Act.put]
    simp only [List.setIfInBounds_toArray, List.set_cons_zero, List.set_cons_succ]
    refine wpAnyH_one (i := 6) (oi := ⟨some 26, _, _, _, _, _⟩) (by kernel_rfl) rfl (by rfl) (fun K9 hK9 => ?_)
    have HK9 := Lib.hid hK9
    clear hK9
    go_simp
    have HCi := Lib.hid (bid_any h HOk.out HPl.out (.slice a2 h.P.length c2) w3 HS0.out.1.2.2.2.2.2.1)
    with_reducible refine HCi.out.mono ?_
    rintro e w4 ⟨rfl, hb4⟩
    dsimp only
    have hS4 := exs_below HS0.out HI.out hb4
    have HB4 := Lib.hid (HBd.out.trans (hb4.mono HBd.out.size))
    clear HS0 HBd hb4 HCi
    have HS0 := Lib.hid hS4
    clear hS4
    refine HK9.out _ _ HS0.out ?_
    clear HK9
    simp only [List.setIfInBounds_toArray, List.set_cons_zero, List.set_cons_succ]
    refine wpAnyH_one (i := 7) (oi := ⟨some 27, _, _, _, _, _⟩) (by kernel_rfl) rfl (by rfl) (fun K9 hK9 => ?_)
    have HK9 := Lib.hid hK9
    clear hK9
    go_simp
    have HCi := Lib.hid (pcheck_any (.slice a0 p.P.length c0) (.slice a1 Hs.length c1) p HOp.out n c Hs I (idF h) HI.out (tagF_h _ _) w4 HS0.out.1.2.2.2.1 HS0.out.1.2.2.2.2.1)
    obtain ⟨E, hE⟩ : ∃ E : Int, E = if prOk p n c Hs I (idF h) then 0 else 21 := ⟨_, rfl⟩
    rw [← hE] at HCi
    have HE := Lib.hid hE
    clear hE
    with_reducible refine HCi.out.mono ?_
    rintro e w5 ⟨rfl, hb5⟩
    dsimp only
    have hS4 := exs_below HS0.out HI.out hb5
    have HB5 := Lib.hid (HB4.out.trans (hb5.mono HB4.out.size))
    clear HS0 HB4 hb5 HCi
    have HS0 := Lib.hid hS4
    clear hS4
    refine HK9.out _ _ HS0.out ?_
    clear HK9
    simp only [List.setIfInBounds_toArray, List.set_cons_zero, List.set_cons_succ]
    by_cases hpr : prOk p n c Hs I (idF h)
    · have HPr := Lib.hid hpr
      have he0 : E = 0 := by rw [HE.out, if_pos hpr]
      subst he0
      clear hpr
      refine wpAnyH_take (i := 8) (oi := ⟨some 28, _, _, _, _, _⟩) (v := .bool false) rfl (by kernel_rfl) (by kernel_rfl) (by kernel_rfl) (fun _ _ _ h => h) (Or.inl ⟨by rfl, ?_⟩) HS0.out ?_
      · intro w hSw
        go_simp <;> with_reducible rfl
      dsimp only [Act.put]
      simp only [List.setIfInBounds_toArray, List.set_cons_zero, List.set_cons_succ]
      refine wpAnyH_take (i := 9) (oi := ⟨some 29, _, _, _, _, _⟩) (v := .bool false) rfl (by kernel_rfl) (by kernel_rfl) (by kernel_rfl) (fun _ _ _ h => h) (Or.inl ⟨by rfl, ?_⟩) HS0.out ?_
      · intro w hSw
        go_simp <;> with_reducible rfl
      dsimp only [Act.put]
      simp only [List.setIfInBounds_toArray, List.set_cons_zero, List.set_cons_succ]
      refine wpAnyH_take (i := 10) (oi := ⟨some 30, _, _, _, _, _⟩) (v := ?_) rfl (by kernel_rfl) (by kernel_rfl) (by kernel_rfl) (fun _ _ _ h => h) (Or.inl ⟨by rfl, ?_⟩) HS0.out ?_
      rotate_left
      · intro w hSw
        go_simp <;> with_reducible rfl
      dsimp only [Act.put]
      simp only [List.setIfInBounds_toArray, List.set_cons_zero, List.set_cons_succ]
      refine wpAnyH_take (i := 11) (oi := ⟨some 31, _, _, _, _, _⟩) (v := ?_) rfl (by kernel_rfl) (by kernel_rfl) (by kernel_rfl) (fun _ _ _ h => h) (Or.inl ⟨by rfl, ?_⟩) HS0.out ?_
      rotate_left
      · intro w hSw
        go_simp <;> with_reducible rfl
      dsimp only [Act.put]
      simp only [List.setIfInBounds_toArray, List.set_cons_zero, List.set_cons_succ]
      refine wpAnyH_take (i := 13) (oi := ⟨some 33, _, _, _, _, _⟩) (v := ?_) rfl (by kernel_rfl) (by kernel_rfl) (by kernel_rfl) (fun _ _ _ h => h) (Or.inl ⟨by rfl, ?_⟩) HS0.out ?_
      rotate_left
      · intro w hSw
        go_simp <;> with_reducible rfl
      dsimp only [Act.put]
      simp only [List.setIfInBounds_toArray, List.set_cons_zero, List.set_cons_succ]
      refine wpAnyH_take (i := 14) (oi := ⟨some 34, _, _, _, _, _⟩) rfl (by kernel_rfl) (by kernel_rfl) (by kernel_rfl) (fun _ _ _ h => h) (yieldsIf_load_mid (by rfl) 24 (.tmp 33) rfl (w.heap.size + 1 + 1) (33) rfl (bys h.a) _ (fun w h => h.1.2.2.1.ra) Try.underlying24 rfl HSa.out) HS0.out ?_
      dsimp only [Act.put]
      simp only [List.setIfInBounds_toArray, List.set_cons_zero, List.set_cons_succ]
      refine wpAnyH_one (i := 12) (oi := ⟨some 32, _, _, _, _, _⟩) (by kernel_rfl) rfl (by rfl) (fun K9 hK9 => ?_)
      have HK9 := Lib.hid hK9
      clear hK9
      go_simp
      have HCi := Lib.hid (mroot_any (.slice a3 Is.length c3) Is w5 HIl2.out HS0.out.1.2.2.2.2.2.2)
      with_reducible refine HCi.out.mono ?_
      rintro e w6 ⟨rfl, hb6⟩
      dsimp only
      have hS4 := exs_below HS0.out HI.out hb6
      have HB6 := Lib.hid (HB5.out.trans (hb6.mono HB5.out.size))
      clear HS0 HB5 hb6 HCi
      have HS0 := Lib.hid hS4
      clear hS4
      refine HK9.out _ _ HS0.out ?_
      clear HK9
      simp only [List.setIfInBounds_toArray, List.set_cons_zero, List.set_cons_succ]
      obtain ⟨R, hR⟩ : ∃ R, R = mrootF Is := ⟨_, rfl⟩
      have HRh := Lib.hid (show IsH R by rw [hR]; exact mrootF_h _)
      rw [← hR]
      have HRe := Lib.hid hR
      clear hR
      by_cases hra : R = h.a
      · have HRa := Lib.hid (show mrootF Is = h.a by rw [← HRe.out]; exact hra)
        subst hra
        refine wpAnyH_take (i := 15) (oi := ⟨some 35, _, _, _, _, _⟩) (v := .bool false) rfl (by kernel_rfl) (by kernel_rfl) (by kernel_rfl) (fun _ _ _ h => h) (Or.inl ⟨by rfl, ?_⟩) HS0.out ?_
        · intro w hSw
          have hne := equal_hash w h.a h.a HRh.out HRh.out
          rw [show decide (h.a = h.a) = true from decide_eq_true rfl] at hne
          go_simp <;> with_reducible rfl
        dsimp only [Act.put]
        simp only [List.setIfInBounds_toArray, List.set_cons_zero, List.set_cons_succ]
        refine wpAnyH_take (i := 16) (oi := ⟨some 36, _, _, _, _, _⟩) (v := .bool false) rfl (by kernel_rfl) (by kernel_rfl) (by kernel_rfl) (fun _ _ _ h => h) (Or.inl ⟨by rfl, ?_⟩) HS0.out ?_
        · intro w hSw
          go_simp <;> with_reducible rfl
        dsimp only [Act.put]
        simp only [List.setIfInBounds_toArray, List.set_cons_zero, List.set_cons_succ]
        refine wpAnyH_done (by kernel_rfl) ?_ _
        obtain ⟨n', c', rfl, rfl, hnc, hc2, hsz, hroot⟩ := HPr.out.2.2
        have HN := Lib.hid (And.intro hnc (And.intro hc2 hsz))
        have HRt := Lib.hid hroot
        clear hnc hc2 hsz hroot
        have hri : (c' : Int) = ((Is.length : Nat) : Int) ∧ Is.getD (n' : Int).toNat [] = I := Classical.byContradiction (fun hx => HNo.out ⟨HPl.out, HPr.out, HRa.out, hx⟩)
        have hce : ((c' : Int) == ((Is.length : Nat) : Int)) = true := by rw [hri.1]; exact beq_self_eq_true _
        have HCl := Lib.hid (show c' = Is.length by have := hri.1; omega)
        have HNi0 := Lib.hid (show n' < Is.length by have := HN.out.1; have := HCl.out; omega)
        have HNi := HNi0
        obtain ⟨G, hG⟩ : ∃ G, Is.getD n' [] = G := ⟨_, rfl⟩
        have HG := Lib.hid hG
        have HIn := Lib.hid (show IsH G by rw [← hG]; exact IsH.getD HS0.out.1.2.2.2.2.2.2.1 HNi.out)
        have HSn := Lib.hid (size_hash G HIn.out.1)
        have hni : (n' : Int) < ((Is.length : Nat) : Int) := by have := HNi.out; omega
        obtain ⟨bi, oi, rfl⟩ : ∃ bi oi, a3 = some ⟨bi, oi, none⟩ := by
          rcases HS0.out.1.2.2.2.2.2.2.2 with ⟨e, h9⟩ | ⟨b, off, c9, e, _⟩
          · have := HNi.out; rw [h9] at this; simp at this
          · injection e with e1 _ _; exact ⟨_, _, e1⟩
        have HGi := Lib.hid (show G = I by rw [← hG]; have := hri.2; simpa using this)
        clear hri hG
        go_upto_region 4 with fail
        have HS4 := HS0
        clear HS0
        have HS0 := Lib.hid (show ExS w.heap.size (w.heap.size + 1) (w.heap.size + 1 + 1) (.slice a0 p.P.length c0) (.slice a1 Hs.length c1) (.slice a2 h.P.length c2) (.slice (some ⟨bi, oi, none⟩) Is.length c3) p h (n' : Int) (c' : Int) Hs Is I w6.drew ∧ Byts w6.drew v2 OL ∧ Low w6.drew v2 from HS4.out)
        have HBd := Lib.hid HB6.out.drew
        clear HS4 HB6
        refine wp_region_H (fun w' => ExS w.heap.size (w.heap.size + 1) (w.heap.size + 1 + 1) (.slice a0 p.P.length c0) (.slice a1 Hs.length c1) (.slice a2 h.P.length c2) (.slice (some ⟨bi, oi, none⟩) Is.length c3) p h (n' : Int) (c' : Int) Hs Is I w' ∧ Byts w' v2 OL ∧ Low w' v2) (by kernel_rfl) ?_
        generalize w6.drew = w7 at *
        simp only [List.size_toArray, List.length_cons, List.length_nil, Nat.reduceAdd, Array.replicate_succ, Array.replicate_zero, List.push_toArray, List.nil_append, List.cons_append]
        refine wpAnyH_take (i := 0) (oi := ⟨some 37, _, _, _, _, _⟩) (v := ?_) rfl (by kernel_rfl) (by kernel_rfl) (by kernel_rfl) (fun _ _ _ h => h) (Or.inl ⟨by rfl, ?_⟩) HS0.out ?_
        rotate_left
        · intro w hSw
          go_simp <;> with_reducible rfl
        dsimp only [Act.put]
        simp only [List.setIfInBounds_toArray, List.set_cons_zero, List.set_cons_succ]
        refine wpAnyH_take (i := 1) (oi := ⟨some 38, _, _, _, _, _⟩) (v := ?_) rfl (by kernel_rfl) (by kernel_rfl) (by kernel_rfl) (fun _ _ _ h => h) (Or.inl ⟨by rfl, ?_⟩) HS0.out ?_
        rotate_left
        · intro w hSw
          go_simp <;> with_reducible rfl
        dsimp only [Act.put]
        simp only [List.setIfInBounds_toArray, List.set_cons_zero, List.set_cons_succ]
        refine wpAnyH_take (i := 2) (oi := ⟨some 39, _, _, _, _, _⟩) (v := .int .i64 (c' : Int)) rfl (by kernel_rfl) (by kernel_rfl) (by kernel_rfl) (fun _ _ _ h => h) (Or.inl ⟨by rfl, ?_⟩) HS0.out ?_
        · intro w hSw
          have hq0 := hSw.1.1.pc
          go_simp <;> with_reducible rfl
        dsimp only [Act.put]
        simp only [List.setIfInBounds_toArray, List.set_cons_zero, List.set_cons_succ]
        refine wpAnyH_take (i := 3) (oi := ⟨some 40, _, _, _, _, _⟩) (v := ?_) rfl (by kernel_rfl) (by kernel_rfl) (by kernel_rfl) (fun _ _ _ h => h) (Or.inl ⟨by rfl, ?_⟩) HS0.out ?_
        rotate_left
        · intro w hSw
          go_simp <;> with_reducible rfl
        dsimp only [Act.put]
        simp only [List.setIfInBounds_toArray, List.set_cons_zero, List.set_cons_succ]
        refine wpAnyH_take (i := 4) (oi := ⟨some 41, _, _, _, _, _⟩) (v := ?_) rfl (by kernel_rfl) (by kernel_rfl) (by kernel_rfl) (fun _ _ _ h => h) (Or.inl ⟨by rfl, ?_⟩) HS0.out ?_
        rotate_left
        · intro w hSw
          go_simp <;> with_reducible rfl
        dsimp only [Act.put]
        simp only [List.setIfInBounds_toArray, List.set_cons_zero, List.set_cons_succ]
        refine wpAnyH_take (i := 5) (oi := ⟨some 42, _, _, _, _, _⟩) (v := .bool true) rfl (by kernel_rfl) (by kernel_rfl) (by kernel_rfl) (fun _ _ _ h => h) (Or.inl ⟨by rfl, ?_⟩) HS0.out ?_
        · intro w hSw
          go_simp <;> with_reducible rfl
        dsimp only [Act.put]
        simp only [List.setIfInBounds_toArray, List.set_cons_zero, List.set_cons_succ]
        refine wpAnyH_take (i := 6) (oi := ⟨some 43, _, _, _, _, _⟩) (v := ?_) rfl (by kernel_rfl) (by kernel_rfl) (by kernel_rfl) (fun _ _ _ h => h) (Or.inl ⟨by rfl, ?_⟩) HS0.out ?_
        rotate_left
        · intro w hSw
          go_simp <;> with_reducible rfl
        dsimp only [Act.put]
        simp only [List.setIfInBounds_toArray, List.set_cons_zero, List.set_cons_succ]
        refine wpAnyH_take (i := 7) (oi := ⟨some 44, _, _, _, _, _⟩) (v := ?_) rfl (by kernel_rfl) (by kernel_rfl) (by kernel_rfl) (fun _ _ _ h => h) (Or.inl ⟨by rfl, ?_⟩) HS0.out ?_
        rotate_left
        · intro w hSw
          go_simp <;> with_reducible rfl
        dsimp only [Act.put]
        simp only [List.setIfInBounds_toArray, List.set_cons_zero, List.set_cons_succ]
        refine wpAnyH_take (i := 8) (oi := ⟨some 45, _, _, _, _, _⟩) (v := ?_) rfl (by kernel_rfl) (by kernel_rfl) (by kernel_rfl) (fun _ _ _ h => h) (Or.inl ⟨by rfl, ?_⟩) HS0.out ?_
        rotate_left
        · intro w hSw
          go_simp <;> with_reducible rfl
        dsimp only [Act.put]
        simp only [List.setIfInBounds_toArray, List.set_cons_zero, List.set_cons_succ]
        refine wpAnyH_take (i := 9) (oi := ⟨some 46, _, _, _, _, _⟩) (v := ?_) rfl (by kernel_rfl) (by kernel_rfl) (by kernel_rfl) (fun _ _ _ h => h) (Or.inl ⟨by rfl, ?_⟩) HS0.out ?_
        rotate_left
        · intro w hSw
          go_simp <;> with_reducible rfl
        dsimp only [Act.put]
        simp only [List.setIfInBounds_toArray, List.set_cons_zero, List.set_cons_succ]
        refine wpAnyH_take (i := 10) (oi := ⟨some 47, _, _, _, _, _⟩) (v := .int .i64 (n' : Int)) rfl (by kernel_rfl) (by kernel_rfl) (by kernel_rfl) (fun _ _ _ h => h) (Or.inl ⟨by rfl, ?_⟩) HS0.out ?_
        · intro w hSw
          have hq0 := hSw.1.1.pn
          go_simp <;> with_reducible rfl
        dsimp only [Act.put]
        simp only [List.setIfInBounds_toArray, List.set_cons_zero, List.set_cons_succ]
        refine wpAnyH_take (i := 11) (oi := ⟨some 48, _, _, _, _, _⟩) (v := .pointer (some ⟨bi, oi + n' * 32, none⟩)) rfl (by kernel_rfl) (by kernel_rfl) (by kernel_rfl) (fun _ _ _ h => h) (Or.inl ⟨by rfl, ?_⟩) HS0.out ?_
        · intro w hSw
          go_simp <;> with_reducible rfl
        dsimp only [Act.put]
        simp only [List.setIfInBounds_toArray, List.set_cons_zero, List.set_cons_succ]
        refine wpAnyH_take (i := 12) (oi := ⟨some 49, _, _, _, _, _⟩) rfl (by kernel_rfl) (by kernel_rfl) (by kernel_rfl) (fun _ _ _ h => h) (yieldsIf_load_mid (by rfl) 24 (.tmp 48) rfl (bi) (oi + n' * 32) rfl (bys G) _ (fun w h => by rw [← HG.out]; exact colS_at h.1.2.2.2.2.2.2 HNi.out) Try.underlying24 rfl HSn.out) HS0.out ?_
        dsimp only [Act.put]
        simp only [List.setIfInBounds_toArray, List.set_cons_zero, List.set_cons_succ]
        refine wpAnyH_take (i := 13) (oi := ⟨some 50, _, _, _, _, _⟩) rfl (by kernel_rfl) (by kernel_rfl) (by kernel_rfl) (fun _ _ _ h => h) (yieldsIf_load_mid (by rfl) 24 (.tmp 5) rfl (w.heap.size + 1) (0) rfl (bys I) _ (fun w h => h.1.2.1) Try.underlying24 rfl HSi.out) HS0.out ?_
        dsimp only [Act.put]
        simp only [List.setIfInBounds_toArray, List.set_cons_zero, List.set_cons_succ]
        have hgi := HGi.out
        subst hgi
        refine wpAnyH_take (i := 14) (oi := ⟨some 51, _, _, _, _, _⟩) (v := .bool true) rfl (by kernel_rfl) (by kernel_rfl) (by kernel_rfl) (fun _ _ _ h => h) (Or.inl ⟨by rfl, ?_⟩) HS0.out ?_
        · intro w hSw
          have hne := equal_hash w G G HIn.out HIn.out
          rw [show decide (G = G) = true from decide_eq_true rfl] at hne
          go_simp <;> with_reducible rfl
        dsimp only [Act.put]
        simp only [List.setIfInBounds_toArray, List.set_cons_zero, List.set_cons_succ]
        refine wpAnyH_take (i := 15) (oi := ⟨some 52, _, _, _, _, _⟩) (v := .bool true) rfl (by kernel_rfl) (by kernel_rfl) (by kernel_rfl) (fun _ _ _ h => h) (Or.inl ⟨by rfl, ?_⟩) HS0.out ?_
        · intro w hSw
          go_simp <;> with_reducible rfl
        dsimp only [Act.put]
        simp only [List.setIfInBounds_toArray, List.set_cons_zero, List.set_cons_succ]
        refine wpAnyH_done (by kernel_rfl) ?_ _
        clear hce hni
        go_wp2
        refine bodyPost_ret (results_tmp3 rfl _ _ _) rfl ?_
        exact ⟨rfl, HBd.out⟩
      · clear HE
        refine wpAnyH_take (i := 15) (oi := ⟨some 35, _, _, _, _, _⟩) (v := .bool true) rfl (by kernel_rfl) (by kernel_rfl) (by kernel_rfl) (fun _ _ _ h => h) (Or.inl ⟨by rfl, ?_⟩) HS0.out ?_
        · intro w hSw
          have hne := equal_hash w R h.a HRh.out HOk.out.a
          rw [decide_eq_false hra] at hne
          go_simp <;> with_reducible rfl
        dsimp only [Act.put]
        simp only [List.setIfInBounds_toArray, List.set_cons_zero, List.set_cons_succ]
        refine wpAnyH_take (i := 16) (oi := ⟨some 36, _, _, _, _, _⟩) (v := .bool true) rfl (by kernel_rfl) (by kernel_rfl) (by kernel_rfl) (fun _ _ _ h => h) (Or.inl ⟨by rfl, ?_⟩) HS0.out ?_
        · intro w hSw
          go_simp <;> with_reducible rfl
        dsimp only [Act.put]
        simp only [List.setIfInBounds_toArray, List.set_cons_zero, List.set_cons_succ]
        refine wpAnyH_done (by kernel_rfl) ?_ _
        go_wp2
        refine bodyPost_ret (results_tmp3 rfl _ _ _) rfl ?_
        exact ⟨rfl, HB6.out⟩
    · have he0 : E = 21 := by rw [HE.out, if_neg hpr]
      subst he0
      clear hpr HE
      refine wpAnyH_take (i := 8) (oi := ⟨some 28, _, _, _, _, _⟩) (v := .bool true) rfl (by kernel_rfl) (by kernel_rfl) (by kernel_rfl) (fun _ _ _ h => h) (Or.inl ⟨by rfl, ?_⟩) HS0.out ?_
      · intro w hSw
        go_simp <;> with_reducible rfl
      dsimp only [Act.put]
      simp only [List.setIfInBounds_toArray, List.set_cons_zero, List.set_cons_succ]
      refine wpAnyH_take (i := 9) (oi := ⟨some 29, _, _, _, _, _⟩) (v := .bool true) rfl (by kernel_rfl) (by kernel_rfl) (by kernel_rfl) (fun _ _ _ h => h) (Or.inl ⟨by rfl, ?_⟩) HS0.out ?_
      · intro w hSw
        go_simp <;> with_reducible rfl
      dsimp only [Act.put]
      simp only [List.setIfInBounds_toArray, List.set_cons_zero, List.set_cons_succ]
      refine wpAnyH_take (i := 10) (oi := ⟨some 30, _, _, _, _, _⟩) (v := ?_) rfl (by kernel_rfl) (by kernel_rfl) (by kernel_rfl) (fun _ _ _ h => h) (Or.inl ⟨by rfl, ?_⟩) HS0.out ?_
      rotate_left
      · intro w hSw
        go_simp <;> with_reducible rfl
      dsimp only [Act.put]
      simp only [List.setIfInBounds_toArray, List.set_cons_zero, List.set_cons_succ]
      refine wpAnyH_take (i := 11) (oi := ⟨some 31, _, _, _, _, _⟩) (v := undef) rfl (by kernel_rfl) (by kernel_rfl) (by kernel_rfl) (fun _ _ _ h => h) (Or.inr ⟨by rfl, rfl⟩) HS0.out ?_
      dsimp only [Act.put]
      simp only [List.setIfInBounds_toArray, List.set_cons_zero, List.set_cons_succ]
      refine wpAnyH_take (i := 12) (oi := ⟨some 32, _, _, _, _, _⟩) (v := undef) rfl (by kernel_rfl) (by kernel_rfl) (by kernel_rfl) (fun _ _ _ h => h) (Or.inr ⟨by rfl, rfl⟩) HS0.out ?_
      dsimp only [Act.put]
      simp only [List.setIfInBounds_toArray, List.set_cons_zero, List.set_cons_succ]
      refine wpAnyH_take (i := 13) (oi := ⟨some 33, _, _, _, _, _⟩) (v := undef) rfl (by kernel_rfl) (by kernel_rfl) (by kernel_rfl) (fun _ _ _ h => h) (Or.inr ⟨by rfl, rfl⟩) HS0.out ?_
      dsimp only [Act.put]
      simp only [List.setIfInBounds_toArray, List.set_cons_zero, List.set_cons_succ]
      refine wpAnyH_take (i := 14) (oi := ⟨some 34, _, _, _, _, _⟩) (v := undef) rfl (by kernel_rfl) (by kernel_rfl) (by kernel_rfl) (fun _ _ _ h => h) (Or.inr ⟨by rfl, rfl⟩) HS0.out ?_
      dsimp only [Act.put]
      simp only [List.setIfInBounds_toArray, List.set_cons_zero, List.set_cons_succ]
      refine wpAnyH_take (i := 15) (oi := ⟨some 35, _, _, _, _, _⟩) (v := undef) rfl (by kernel_rfl) (by kernel_rfl) (by kernel_rfl) (fun _ _ _ h => h) (Or.inr ⟨by rfl, rfl⟩) HS0.out ?_
      dsimp only [Act.put]
      simp only [List.setIfInBounds_toArray, List.set_cons_zero, List.set_cons_succ]
      refine wpAnyH_take (i := 16) (oi := ⟨some 36, _, _, _, _, _⟩) (v := .bool true) rfl (by kernel_rfl) (by kernel_rfl) (by kernel_rfl) (fun _ _ _ h => h) (Or.inl ⟨by rfl, ?_⟩) HS0.out ?_
      · intro w hSw
        go_simp <;> with_reducible rfl
      dsimp only [Act.put]
      simp only [List.setIfInBounds_toArray, List.set_cons_zero, List.set_cons_succ]
      refine wpAnyH_done (by kernel_rfl) ?_ _
      go_wp2
      refine bodyPost_ret (results_tmp3 rfl _ _ _) rfl ?_
      exact ⟨rfl, HB5.out⟩
  · have HCh := Lib.hid (header_bad h HOk.out (by omega) (.slice a2 h.P.length c2) w1 HS1.out.2.2.2.2.2.1)
    go_wp2_with fail
    with_reducible refine HCh.out.mono ?_
    rintro e w2 ⟨rfl, hb2⟩
    dsimp only
    have HB2 := Lib.hid (HB1.out.trans (hb2.mono HB1.out.size))
    clear hb2 HS1 HB1 HCh
    go_upto_region 2 with fail
    have HS0 := Lib.hid True.intro
    have HBd := Lib.hid HB2.out.drew
    refine wp_region_H (fun w' => True) (by kernel_rfl) ?_
    generalize w2.drew = w3 at *
    simp only [List.size_toArray, List.length_cons, List.length_nil, Nat.reduceAdd, Array.replicate_succ, Array.replicate_zero, List.push_toArray, List.nil_append, List.cons_append]
    refine wpAnyH_take (i := 0) (oi := ⟨some 20, _, _, _, _, _⟩) (v := ?_) rfl (by kernel_rfl) (by kernel_rfl) (by kernel_rfl) (fun _ _ _ h => h) (Or.inl ⟨by rfl, ?_⟩) HS0.out ?_
    rotate_left
    · intro w hSw
      go_simp <;> with_reducible rfl
    dsimp only [Act.put]
    simp only [List.setIfInBounds_toArray, List.set_cons_zero, List.set_cons_succ]
    refine wpAnyH_take (i := 1) (oi := ⟨some 21, _, _, _, _, _⟩) (v := .bool true) rfl (by kernel_rfl) (by kernel_rfl) (by kernel_rfl) (fun _ _ _ h => h) (Or.inl ⟨by rfl, ?_⟩) HS0.out ?_
    · intro w hSw
      go_simp <;> with_reducible rfl
    dsimp only [Act.put]
    simp only [List.setIfInBounds_toArray, List.set_cons_zero, List.set_cons_succ]
    refine wpAnyH_take (i := 2) (oi := ⟨some 22, _, _, _, _, _⟩) (v := ?_) rfl (by kernel_rfl) (by kernel_rfl) (by kernel_rfl) (fun _ _ _ h => h) (Or.inl ⟨by rfl, ?_⟩) HS0.out ?_
    rotate_left
    · intro w hSw
      go_simp <;> with_reducible rfl
    dsimp only [Act.put]
    simp only [List.setIfInBounds_toArray, List.set_cons_zero, List.set_cons_succ]
    refine wpAnyH_take (i := 3) (oi := ⟨some 23, _, _, _, _, _⟩) (v := undef) rfl (by kernel_rfl) (by kernel_rfl) (by kernel_rfl) (fun _ _ _ h => h) (Or.inr ⟨by rfl, rfl⟩) HS0.out ?_
    dsimp only [Act.put]
    simp only [List.setIfInBounds_toArray, List.set_cons_zero, List.set_cons_succ]
    refine wpAnyH_take (i := 4) (oi := ⟨some 24, _, _, _, _, _⟩) (v := undef) rfl (by kernel_rfl) (by kernel_rfl) (by kernel_rfl) (fun _ _ _ h => h) (Or.inr ⟨by rfl, rfl⟩) HS0.out ?_
    dsimp only [Act.put]
    simp only [List.setIfInBounds_toArray, List.set_cons_zero, List.set_cons_succ]
    refine wpAnyH_take (i := 5) (oi := ⟨some 25, _, _, _, _, _⟩) (v := undef) rfl (by kernel_rfl) (by kernel_rfl) (by kernel_rfl) (fun _ _ _ h => h) (Or.inr ⟨by rfl, rfl⟩) HS0.out ?_
    dsimp only [Act.put]
    simp only [List.setIfInBounds_toArray, List.set_cons_zero, List.set_cons_succ]
    refine wpAnyH_take (i := 6) (oi := ⟨some 26, _, _, _, _, _⟩) (v := undef) rfl (by kernel_rfl) (by kernel_rfl) (by kernel_rfl) (fun _ _ _ h => h) (Or.inr ⟨by rfl, rfl⟩) HS0.out ?_
    dsimp only [Act.put]
    simp only [List.setIfInBounds_toArray, List.set_cons_zero, List.set_cons_succ]
    refine wpAnyH_take (i := 7) (oi := ⟨some 27, _, _, _, _, _⟩) (v := undef) rfl (by kernel_rfl) (by kernel_rfl) (by kernel_rfl) (fun _ _ _ h => h) (Or.inr ⟨by rfl, rfl⟩) HS0.out ?_
    dsimp only [Act.put]
    simp only [List.setIfInBounds_toArray, List.set_cons_zero, List.set_cons_succ]
    refine wpAnyH_take (i := 8) (oi := ⟨some 28, _, _, _, _, _⟩) (v := undef) rfl (by kernel_rfl) (by kernel_rfl) (by kernel_rfl) (fun _ _ _ h => h) (Or.inr ⟨by rfl, rfl⟩) HS0.out ?_
    dsimp only [Act.put]
    simp only [List.setIfInBounds_toArray, List.set_cons_zero, List.set_cons_succ]
    refine wpAnyH_take (i := 9) (oi := ⟨some 29, _, _, _, _, _⟩) (v := .bool true) rfl (by kernel_rfl) (by kernel_rfl) (by kernel_rfl) (fun _ _ _ h => h) (Or.inl ⟨by rfl, ?_⟩) HS0.out ?_
    · intro w hSw
      go_simp <;> with_reducible rfl
    dsimp only [Act.put]
    simp only [List.setIfInBounds_toArray, List.set_cons_zero, List.set_cons_succ]
    refine wpAnyH_take (i := 10) (oi := ⟨some 30, _, _, _, _, _⟩) (v := ?_) rfl (by kernel_rfl) (by kernel_rfl) (by kernel_rfl) (fun _ _ _ h => h) (Or.inl ⟨by rfl, ?_⟩) HS0.out ?_
    rotate_left
    · intro w hSw
      go_simp <;> with_reducible rfl
    dsimp only [Act.put]
    simp only [List.setIfInBounds_toArray, List.set_cons_zero, List.set_cons_succ]
    refine wpAnyH_take (i := 11) (oi := ⟨some 31, _, _, _, _, _⟩) (v := undef) rfl (by kernel_rfl) (by kernel_rfl) (by kernel_rfl) (fun _ _ _ h => h) (Or.inr ⟨by rfl, rfl⟩) HS0.out ?_
    dsimp only [Act.put]
    simp only [List.setIfInBounds_toArray, List.set_cons_zero, List.set_cons_succ]
    refine wpAnyH_take (i := 12) (oi := ⟨some 32, _, _, _, _, _⟩) (v := undef) rfl (by kernel_rfl) (by kernel_rfl) (by kernel_rfl) (fun _ _ _ h => h) (Or.inr ⟨by rfl, rfl⟩) HS0.out ?_
    dsimp only [Act.put]
    simp only [List.setIfInBounds_toArray, List.set_cons_zero, List.set_cons_succ]
    refine wpAnyH_take (i := 13) (oi := ⟨some 33, _, _, _, _, _⟩) (v := undef) rfl (by kernel_rfl) (by kernel_rfl) (by kernel_rfl) (fun _ _ _ h => h) (Or.inr ⟨by rfl, rfl⟩) HS0.out ?_
    dsimp only [Act.put]
    simp only [List.setIfInBounds_toArray, List.set_cons_zero, List.set_cons_succ]
    refine wpAnyH_take (i := 14) (oi := ⟨some 34, _, _, _, _, _⟩) (v := undef) rfl (by kernel_rfl) (by kernel_rfl) (by kernel_rfl) (fun _ _ _ h => h) (Or.inr ⟨by rfl, rfl⟩) HS0.out ?_
    dsimp only [Act.put]
    simp only [List.setIfInBounds_toArray, List.set_cons_zero, List.set_cons_succ]
    refine wpAnyH_take (i := 15) (oi := ⟨some 35, _, _, _, _, _⟩) (v := undef) rfl (by kernel_rfl) (by kernel_rfl) (by kernel_rfl) (fun _ _ _ h => h) (Or.inr ⟨by rfl, rfl⟩) HS0.out ?_
    dsimp only [Act.put]
    simp only [List.setIfInBounds_toArray, List.set_cons_zero, List.set_cons_succ]
    refine wpAnyH_take (i := 16) (oi := ⟨some 36, _, _, _, _, _⟩) (v := .bool true) rfl (by kernel_rfl) (by kernel_rfl) (by kernel_rfl) (fun _ _ _ h => h) (Or.inl ⟨by rfl, ?_⟩) HS0.out ?_
    · intro w hSw
      go_simp <;> with_reducible rfl
    dsimp only [Act.put]
    simp only [List.setIfInBounds_toArray, List.set_cons_zero, List.set_cons_succ]
    refine wpAnyH_done (by kernel_rfl) ?_ _
    go_wp2
    refine bodyPost_ret (results_tmp3 rfl _ _ _) rfl ?_
    exact ⟨rfl, HBd.out⟩
end Go.Proofs.Ytbaepjhbpmhmgaa
