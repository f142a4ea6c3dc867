/- Proofs; plexusref24.Much, Check; proof.Check. -/
import Derived.Test.YtbaepjhbpmhmgaaG26
namespace Go.Proofs.Ytbaepjhbpmhmgaa
open Go.RowKit Go.Lib
set_option linter.unusedVariables false
set_option linter.unusedSimpArgs false
attribute [local go_sem ↓] Go.wp_at_zero Go.wp_at_succ

/-- A path's cells. -/
def paC (n c : Int) (v : Value) : List Value := [.int .i64 n, .int .i64 c, v]
/-- A proof's cells. -/
def pfC (pv : Value) (h : Hdr) (n c : Int) (v : Value) : List Value := hdC pv h ++ paC n c v
theorem pfC_len (pv : Value) (h : Hdr) (hk : h.ok) (n c : Int) (v : Value) : (pfC pv h n c v).length = 133 := by rw [pfC, List.length_append, hdC_len pv h hk]; rfl
theorem size_pf (pv : Value) (h : Hdr) (hk : h.ok) (n c : Int) (v : Value) : (Try.prog.info? 31).map (·.size) = some (pfC pv h n c v).length := by
  rw [pfC_len pv h hk]; kernel_rfl
def PfAt (w : World) (g : Nat) (pv : Value) (h : Hdr) (n c : Int) (v : Value) : Prop := Arr w g 31 (pfC pv h n c v) ∧ h.ok
theorem PfAt.below {w w' : World} {g : Nat} {pv v : Value} {h : Hdr} {n c : Int} (hd : PfAt w g pv h n c v) {B : Nat} (hb : Below B w w') (hg : g < B) : PfAt w' g pv h n c v := ⟨hd.1.below hb hg, hd.2⟩
theorem PfAt.hr {w : World} {g : Nat} {pv v : Value} {h : Hdr} {n c : Int} (hd : PfAt w g pv h n c v) : w.rangeAt g 0 (hdC pv h) := range_app (X := []) hd.1 0 rfl
theorem PfAt.p {w : World} {g : Nat} {pv v : Value} {h : Hdr} {n c : Int} (hd : PfAt w g pv h n c v) : w.cell? ⟨g, 0, none⟩ = some pv := by
  have := hd.hr 0 pv rfl
  simpa using this
theorem PfAt.ra {w : World} {g : Nat} {pv v : Value} {h : Hdr} {n c : Int} (hd : PfAt w g pv h n c v) : w.rangeAt g 33 (bys h.a) := by
  refine range_app (X := [pv] ++ bys h.r) (Z := bys h.c ++ (bys h.m ++ ([.int .u64 (h.n : Nat)] ++ paC n c v))) (t := 31) ?_ 33 (by simp [bys_len, hd.2.r.1])
  have := hd.1
  simpa [pfC, hdC] using this
theorem PfAt.pa {w : World} {g : Nat} {pv v : Value} {h : Hdr} {n c : Int} (hd : PfAt w g pv h n c v) : w.rangeAt g 130 (paC n c v) := by
  have := range_app (X := hdC pv h) (Y := paC n c v) (Z := []) (w := w) (g := g) (t := 31) (by rw [List.append_nil]; exact hd.1) 130 (hdC_len pv h hd.2)
  exact this
theorem PfAt.pn {w : World} {g : Nat} {pv v : Value} {h : Hdr} {n c : Int} (hd : PfAt w g pv h n c v) : w.cell? ⟨g, 130, none⟩ = some (.int .i64 n) := hd.pa 0 _ rfl
theorem PfAt.pc {w : World} {g : Nat} {pv v : Value} {h : Hdr} {n c : Int} (hd : PfAt w g pv h n c v) : w.cell? ⟨g, 131, none⟩ = some (.int .i64 c) := hd.pa 1 _ rfl
theorem PfAt.ph {w : World} {g : Nat} {pv v : Value} {h : Hdr} {n c : Int} (hd : PfAt w g pv h n c v) : w.cell? ⟨g, 132, none⟩ = some v := hd.pa 2 _ rfl
theorem size_pa (n c : Int) (v : Value) : (Try.prog.info? 29).map (·.size) = some (paC n c v).length := by
  show _ = some 3; kernel_rfl

set_option maxRecDepth 100000 in
set_option maxHeartbeats 1600000 in
theorem much_any (pv v : Value) (h : Hdr) (hk : h.ok) (n c : Int) (Hs : List (List Nat)) (w : World) (hv : HsIs w pv h.P) (hv2 : HsIs w v Hs) :
    Calls Try.prog 4 #[.agg (pfC pv h n c v).toArray] w fun e w' => e = .returned (.bool (decide (600 < h.P.length ∨ 100 < Hs.length))) ∧ Below w.heap.size w w' := by
  obtain ⟨a0, c0, rfl⟩ := hv.form
  obtain ⟨a1, c1, rfl⟩ := hv2.form
  have HOk := Lib.hid hk
  clear hv hk hv2
  obtain ⟨M, hM⟩ : ∃ M : Bool, M = decide (600 < h.P.length ∨ 100 < Hs.length) := ⟨_, rfl⟩
  rw [← hM]
  have HM := Lib.hid hM
  clear hM
  go_enter Try.func4, Try.ntmps4
  go_upto_region 1 with fail
  have hm := Arr.made w 31 (pfC (.slice a0 h.P.length c0) h n c (.slice a1 Hs.length c1))
  have hb := (Below.refl w.heap.size w).alloc (Nat.le_refl _) (.cells (pfC (.slice a0 h.P.length c0) h n c (.slice a1 Hs.length c1)).toArray 31)
  have HP1 := Lib.hid (show PfAt _ w.heap.size (.slice a0 h.P.length c0) h n c (.slice a1 Hs.length c1) from ⟨hm, HOk.out⟩)
  have HB1 := Lib.hid hb
  clear hm hb
  generalize World.alloc _ _ = w1 at *
  have hc0 := HP1.out.p
  have hc1 := HP1.out.ph
  by_cases h1 : 600 < h.P.length
  · have hq : ((h.P.length : Nat) : Int) > 600 := by omega
    go_wp2
    go_ret
    exact ⟨by rw [HM.out, decide_eq_true (.inl h1)]; rfl, HB1.out⟩
  · have hq : ¬ ((h.P.length : Nat) : Int) > 600 := by omega
    by_cases h2 : 100 < Hs.length
    · have hq2 : ((Hs.length : Nat) : Int) > 100 := by omega
      go_wp2
      go_ret
      exact ⟨by rw [HM.out, decide_eq_true (.inr h2)]; rfl, HB1.out⟩
    · have hq2 : ¬ ((Hs.length : Nat) : Int) > 100 := by omega
      go_wp2
      go_ret
      exact ⟨by rw [HM.out, decide_eq_false (by omega)]; rfl, HB1.out⟩

/-- Whether a proof checks. -/
def prOk (h : Hdr) (n c : Int) (Hs : List (List Nat)) (I T : List Nat) : Prop := h.P.length ≤ 255 ∧ idF h = T ∧ pathOk h.a I n c Hs
/-- What lies through a check. -/
def PrS (g3 g4 g5 : Nat) (pv v : Value) (h : Hdr) (n c : Int) (Hs : List (List Nat)) (I T : List Nat) (w' : World) : Prop :=
  PfAt w' g3 pv h n c v ∧ w'.rangeAt g4 0 (bys I) ∧ w'.rangeAt g5 0 (bys T) ∧ HsIs w' pv h.P ∧ HsIs w' v Hs
theorem PrS.below {g3 g4 g5 : Nat} {pv v : Value} {h : Hdr} {n c : Int} {Hs : List (List Nat)} {I T : List Nat} {w w' : World} (hs : PrS g3 g4 g5 pv v h n c Hs I T w) (hI : IsH I) (hT : IsH T) (hb : Below w.heap.size w w') : PrS g3 g4 g5 pv v h n c Hs I T w' :=
  ⟨hs.1.below hb hs.1.1.lt, rangeAt_below hs.2.1 hb (World.block_lt_of_cell? w _ (hs.2.1 0 _ (bys_get _ 0 (by rw [hI.1]; omega)))), rangeAt_below hs.2.2.1 hb (World.block_lt_of_cell? w _ (hs.2.2.1 0 _ (bys_get _ 0 (by rw [hT.1]; omega)))), hs.2.2.2.1.below hb, hs.2.2.2.2.below hb⟩

open Classical in
set_option maxRecDepth 100000 in
set_option maxHeartbeats 3200000 in
theorem rpcheck_any (pv v : Value) (h : Hdr) (hk : h.ok) (n c : Int) (Hs : List (List Nat)) (I T : List Nat) (hI : IsH I) (hT : IsH T) (w : World) (hv : HsIs w pv h.P) (hv2 : HsIs w v Hs) :
    Calls Try.prog 7 #[.agg (pfC pv h n c v).toArray, .agg (bys I).toArray, .agg (bys T).toArray] w fun e w' => e = .returned (.int .i64 (if prOk h n c Hs I T then 0 else 21)) ∧ Below w.heap.size w w' := by
  obtain ⟨a0, c0, rfl⟩ := hv.form
  obtain ⟨a1, c1, rfl⟩ := hv2.form
  have HV := Lib.hid hv
  have HV2 := Lib.hid hv2
  have HOk := Lib.hid hk
  have HI := Lib.hid hI
  have HT := Lib.hid hT
  have HSi := Lib.hid (size_hash I HI.out.1)
  have HSt := Lib.hid (size_hash T HT.out.1)
  have HSa := Lib.hid (size_hash h.a hk.a.1)
  have HSp := Lib.hid (size_hdr (.slice a0 h.P.length c0) h hk)
  have HSq := Lib.hid (size_pa n c (.slice a1 Hs.length c1))
  clear hv hv2 hk hI hT
  obtain ⟨E, hE⟩ : ∃ E : Int, E = if prOk h n c Hs I T then 0 else 21 := ⟨_, rfl⟩
  rw [← hE]
  have HE := Lib.hid hE
  clear hE
  go_enter Try.func7, Try.ntmps7
  go_upto_region 1 with fail
  have hpk := three_laid w (pfC (.slice a0 h.P.length c0) h n c (.slice a1 Hs.length c1)) (bys I) (bys T) 31 24 24 _ rfl
  have HS1 := Lib.hid (show PrS w.heap.size (w.heap.size + 1) (w.heap.size + 1 + 1) (.slice a0 h.P.length c0) (.slice a1 Hs.length c1) h n c Hs I T _ from ⟨⟨hpk.1, HOk.out⟩, hpk.2.1.range, hpk.2.2.1.range, HV.out.below hpk.2.2.2, HV2.out.below hpk.2.2.2⟩)
  have HB1 := Lib.hid hpk.2.2.2
  clear hpk HV HV2
  generalize World.alloc (World.alloc (World.alloc _ _) _) _ = w1 at *
  have HS0 := Lib.hid (show PrS w.heap.size (w.heap.size + 1) (w.heap.size + 1 + 1) (.slice a0 h.P.length c0) (.slice a1 Hs.length c1) h n c Hs I T w1.drew from HS1.out)
  have HBd := Lib.hid HB1.out.drew
  clear HS1 HB1
  refine wp_region_H (PrS w.heap.size (w.heap.size + 1) (w.heap.size + 1 + 1) (.slice a0 h.P.length c0) (.slice a1 Hs.length c1) h n c Hs I T) (by kernel_rfl) ?_
  generalize w1.drew = w2 at *
  simp only [List.size_toArray, List.length_cons, List.length_nil, Nat.reduceAdd, Array.replicate_succ, Array.replicate_zero, List.push_toArray, List.nil_append, List.cons_append]
  refine wpAnyH_take (i := 0) (oi := ⟨some 7, _, _, _, _, _⟩) (v := ?_) rfl (by kernel_rfl) (by kernel_rfl) (by kernel_rfl) (fun _ _ _ h => h) (Or.inl ⟨by rfl, ?_⟩) HS0.out ?_
  rotate_left
  · intro w hSw
    go_simp <;> with_reducible rfl
  dsimp only [Act.put]
  simp only [List.setIfInBounds_toArray, List.set_cons_zero, List.set_cons_succ]
  refine wpAnyH_take (i := 1) (oi := ⟨some 8, _, _, _, _, _⟩) (v := ?_) rfl (by kernel_rfl) (by kernel_rfl) (by kernel_rfl) (fun _ _ _ h => h) (Or.inl ⟨by rfl, ?_⟩) HS0.out ?_
  rotate_left
  · intro w hSw
    go_simp <;> with_reducible rfl
  dsimp only [Act.put]
  simp only [List.setIfInBounds_toArray, List.set_cons_zero, List.set_cons_succ]
  refine wpAnyH_take (i := 2) (oi := ⟨some 9, _, _, _, _, _⟩) (v := .slice a0 h.P.length c0) rfl (by kernel_rfl) (by kernel_rfl) (by kernel_rfl) (fun _ _ _ h => h) (Or.inl ⟨by rfl, ?_⟩) HS0.out ?_
  · intro w hSw
    have hq0 := hSw.1.p
    go_simp <;> with_reducible rfl
  dsimp only [Act.put]
  simp only [List.setIfInBounds_toArray, List.set_cons_zero, List.set_cons_succ]
  refine wpAnyH_take (i := 3) (oi := ⟨some 10, _, _, _, _, _⟩) (v := ?_) rfl (by kernel_rfl) (by kernel_rfl) (by kernel_rfl) (fun _ _ _ h => h) (Or.inl ⟨by rfl, ?_⟩) HS0.out ?_
  rotate_left
  · intro w hSw
    go_simp <;> with_reducible rfl
  dsimp only [Act.put]
  simp only [List.setIfInBounds_toArray, List.set_cons_zero, List.set_cons_succ]
  by_cases hP : h.P.length ≤ 255
  · have hle : ¬ ((h.P.length : Nat) : Int) > 255 := by omega
    have HPl := Lib.hid hP
    refine wpAnyH_take (i := 4) (oi := ⟨some 11, _, _, _, _, _⟩) (v := .bool false) rfl (by kernel_rfl) (by kernel_rfl) (by kernel_rfl) (fun _ _ _ h => h) (Or.inl ⟨by rfl, ?_⟩) HS0.out ?_
    · intro w hSw
      go_simp <;> with_reducible rfl
    dsimp only [Act.put]
    simp only [List.setIfInBounds_toArray, List.set_cons_zero, List.set_cons_succ]
    refine wpAnyH_take (i := 5) (oi := ⟨some 12, _, _, _, _, _⟩) (v := ?_) rfl (by kernel_rfl) (by kernel_rfl) (by kernel_rfl) (fun _ _ _ h => h) (Or.inl ⟨by rfl, ?_⟩) HS0.out ?_
    rotate_left
    · intro w hSw
      go_simp <;> with_reducible rfl
    dsimp only [Act.put]
    simp only [List.setIfInBounds_toArray, List.set_cons_zero, List.set_cons_succ]
    refine wpAnyH_take (i := 6) (oi := ⟨some 13, _, _, _, _, _⟩) (v := ?_) rfl (by kernel_rfl) (by kernel_rfl) (by kernel_rfl) (fun _ _ _ h => h) (Or.inl ⟨by rfl, ?_⟩) HS0.out ?_
    rotate_left
    · intro w hSw
      go_simp <;> with_reducible rfl
    dsimp only [Act.put]
    simp only [List.setIfInBounds_toArray, List.set_cons_zero, List.set_cons_succ]
    refine wpAnyH_take (i := 7) (oi := ⟨some 14, _, _, _, _, _⟩) rfl (by kernel_rfl) (by kernel_rfl) (by kernel_rfl) (fun _ _ _ h => h) (yieldsIf_load_mid (by rfl) 27 (.tmp 13) rfl (w.heap.size) (0) rfl (hdC (.slice a0 h.P.length c0) h) _ (fun w h => h.1.hr) Try.underlying27 rfl HSp.out) HS0.out ?_
    dsimp only [Act.put]
    simp only [List.setIfInBounds_toArray, List.set_cons_zero, List.set_cons_succ]
    refine wpAnyH_take (i := 9) (oi := ⟨some 16, _, _, _, _, _⟩) rfl (by kernel_rfl) (by kernel_rfl) (by kernel_rfl) (fun _ _ _ h => h) (yieldsIf_load_mid (by rfl) 24 (.tmp 5) rfl (w.heap.size + 1 + 1) (0) rfl (bys T) _ (fun w h => h.2.2.1) Try.underlying24 rfl HSt.out) HS0.out ?_
    dsimp only [Act.put]
    simp only [List.setIfInBounds_toArray, List.set_cons_zero, List.set_cons_succ]
    refine wpAnyH_one (i := 8) (oi := ⟨some 15, _, _, _, _, _⟩) (by kernel_rfl) rfl (by rfl) (fun K9 hK9 => ?_)
    have HK9 := Lib.hid hK9
    clear hK9
    go_simp
    have HCi := Lib.hid (rid_any h HOk.out HPl.out (.slice a0 h.P.length c0) w2 HS0.out.2.2.2.1)
    with_reducible refine HCi.out.mono ?_
    rintro e w4 ⟨rfl, hb4⟩
    dsimp only
    have hS4 := HS0.out.below HI.out HT.out hb4
    have HB4 := Lib.hid (HBd.out.trans (hb4.mono HBd.out.size))
    clear HS0 HBd HCi
    have HS0 := Lib.hid hS4
    clear hS4 hb4
    refine HK9.out _ _ HS0.out ?_
    clear HK9
    simp only [List.setIfInBounds_toArray, List.set_cons_zero, List.set_cons_succ]
    obtain ⟨D, hD⟩ : ∃ D, D = idF h := ⟨_, rfl⟩
    have HDh := Lib.hid (show IsH D by rw [hD]; exact tagF_h _ _)
    rw [← hD]
    have HDe := Lib.hid hD
    clear hD
    by_cases hid : idF h = T
    · have HEk := Lib.hid (show E = if pathOk h.a I n c Hs then 0 else 21 by
        rw [HE.out]
        by_cases hp : pathOk h.a I n c Hs
        · rw [if_pos ⟨hP, hid, hp⟩, if_pos hp]
        · rw [if_neg (fun hx => hp hx.2.2), if_neg hp])
      clear hle hP
      have hid2 := hid
      rw [← HDe.out] at hid2
      subst hid2
      refine wpAnyH_take (i := 10) (oi := ⟨some 17, _, _, _, _, _⟩) (v := .bool false) rfl (by kernel_rfl) (by kernel_rfl) (by kernel_rfl) (fun _ _ _ h => h) (Or.inl ⟨by rfl, ?_⟩) HS0.out ?_
      · intro w hSw
        have hne := equal_hash w D D HDh.out HDh.out
        rw [show decide (D = D) = true from decide_eq_true rfl] at hne
        go_simp <;> with_reducible rfl
      dsimp only [Act.put]
      simp only [List.setIfInBounds_toArray, List.set_cons_zero, List.set_cons_succ]
      refine wpAnyH_take (i := 11) (oi := ⟨some 18, _, _, _, _, _⟩) (v := .bool false) rfl (by kernel_rfl) (by kernel_rfl) (by kernel_rfl) (fun _ _ _ h => h) (Or.inl ⟨by rfl, ?_⟩) HS0.out ?_
      · intro w hSw
        go_simp <;> with_reducible rfl
      dsimp only [Act.put]
      simp only [List.setIfInBounds_toArray, List.set_cons_zero, List.set_cons_succ]
      refine wpAnyH_done (by kernel_rfl) ?_ _
      go_upto_region 3 with fail
      have HS9 := HS0
      go_step
      iterate 6 (first | go_values | go_skip | go_guarded | go_step | go_upon)
      refine wpList_load_mid (P := Try.prog) rfl 24 _ rfl w.heap.size 33 rfl _ _ HS9.out.1.ra Try.underlying24 rfl HSa.out ?_
      refine wpList_load_mid (P := Try.prog) rfl 24 _ rfl (w.heap.size + 1) 0 rfl _ _ HS9.out.2.1 Try.underlying24 rfl HSi.out ?_
      iterate 3 (first | go_values | go_skip | go_guarded | go_step | go_upon)
      refine wpList_load_mid (P := Try.prog) rfl 29 _ rfl w.heap.size 130 rfl _ _ HS9.out.1.pa Try.underlying29 rfl HSq.out ?_
      rw [show (paC n c (.slice a1 Hs.length c1)).toArray = #[.int .i64 n, .int .i64 c, .slice a1 Hs.length c1] from rfl]
      have HCk := Lib.hid (rcheck_any h.a I HOk.out.a HI.out n c (.slice a1 Hs.length c1) Hs w4 HS9.out.2.2.2.2)
      rw [← HEk.out] at HCk
      go_wp2_with fail
      with_reducible refine HCk.out.mono ?_
      rintro e w6 ⟨rfl, hb6⟩
      dsimp only
      have HB6 := Lib.hid (HB4.out.trans (hb6.mono HB4.out.size))
      clear hb6 HS9 HCk HB4
      go_wp2
      refine bodyPost_ret (results_tmp rfl _ _ _) rfl ?_
      exact ⟨rfl, HB6.out⟩
    · have HE21 := Lib.hid (show E = 21 by rw [HE.out, if_neg (fun hx => hid hx.2.1)])
      clear hle hP
      have hid2 : ¬ D = T := by rw [HDe.out]; exact hid
      refine wpAnyH_take (i := 10) (oi := ⟨some 17, _, _, _, _, _⟩) (v := .bool true) rfl (by kernel_rfl) (by kernel_rfl) (by kernel_rfl) (fun _ _ _ h => h) (Or.inl ⟨by rfl, ?_⟩) HS0.out ?_
      · intro w hSw
        have hne := equal_hash w D T HDh.out HT.out
        rw [decide_eq_false hid2] at hne
        go_simp <;> with_reducible rfl
      dsimp only [Act.put]
      simp only [List.setIfInBounds_toArray, List.set_cons_zero, List.set_cons_succ]
      refine wpAnyH_take (i := 11) (oi := ⟨some 18, _, _, _, _, _⟩) (v := .bool true) rfl (by kernel_rfl) (by kernel_rfl) (by kernel_rfl) (fun _ _ _ h => h) (Or.inl ⟨by rfl, ?_⟩) HS0.out ?_
      · intro w hSw
        go_simp <;> with_reducible rfl
      dsimp only [Act.put]
      simp only [List.setIfInBounds_toArray, List.set_cons_zero, List.set_cons_succ]
      refine wpAnyH_done (by kernel_rfl) ?_ _
      go_wp2
      refine bodyPost_ret (results_tmp rfl _ _ _) rfl ?_
      exact ⟨by rw [HE21.out]; rfl, HB4.out⟩
  · have hle : ((h.P.length : Nat) : Int) > 255 := by omega
    have HE21 := Lib.hid (show E = 21 by rw [HE.out, if_neg (fun hx => hP hx.1)])
    refine wpAnyH_take (i := 4) (oi := ⟨some 11, _, _, _, _, _⟩) (v := .bool true) rfl (by kernel_rfl) (by kernel_rfl) (by kernel_rfl) (fun _ _ _ h => h) (Or.inl ⟨by rfl, ?_⟩) HS0.out ?_
    · intro w hSw
      go_simp <;> with_reducible rfl
    dsimp only [Act.put]
    simp only [List.setIfInBounds_toArray, List.set_cons_zero, List.set_cons_succ]
    refine wpAnyH_take (i := 5) (oi := ⟨some 12, _, _, _, _, _⟩) (v := ?_) rfl (by kernel_rfl) (by kernel_rfl) (by kernel_rfl) (fun _ _ _ h => h) (Or.inl ⟨by rfl, ?_⟩) HS0.out ?_
    rotate_left
    · intro w hSw
      go_simp <;> with_reducible rfl
    dsimp only [Act.put]
    simp only [List.setIfInBounds_toArray, List.set_cons_zero, List.set_cons_succ]
    refine wpAnyH_take (i := 6) (oi := ⟨some 13, _, _, _, _, _⟩) (v := undef) rfl (by kernel_rfl) (by kernel_rfl) (by kernel_rfl) (fun _ _ _ h => h) (Or.inr ⟨by rfl, rfl⟩) HS0.out ?_
    dsimp only [Act.put]
    simp only [List.setIfInBounds_toArray, List.set_cons_zero, List.set_cons_succ]
    refine wpAnyH_take (i := 7) (oi := ⟨some 14, _, _, _, _, _⟩) (v := undef) rfl (by kernel_rfl) (by kernel_rfl) (by kernel_rfl) (fun _ _ _ h => h) (Or.inr ⟨by rfl, rfl⟩) HS0.out ?_
    dsimp only [Act.put]
    simp only [List.setIfInBounds_toArray, List.set_cons_zero, List.set_cons_succ]
    refine wpAnyH_take (i := 8) (oi := ⟨some 15, _, _, _, _, _⟩) (v := undef) rfl (by kernel_rfl) (by kernel_rfl) (by kernel_rfl) (fun _ _ _ h => h) (Or.inr ⟨by rfl, rfl⟩) HS0.out ?_
    dsimp only [Act.put]
    simp only [List.setIfInBounds_toArray, List.set_cons_zero, List.set_cons_succ]
    refine wpAnyH_take (i := 9) (oi := ⟨some 16, _, _, _, _, _⟩) (v := undef) rfl (by kernel_rfl) (by kernel_rfl) (by kernel_rfl) (fun _ _ _ h => h) (Or.inr ⟨by rfl, rfl⟩) HS0.out ?_
    dsimp only [Act.put]
    simp only [List.setIfInBounds_toArray, List.set_cons_zero, List.set_cons_succ]
    refine wpAnyH_take (i := 10) (oi := ⟨some 17, _, _, _, _, _⟩) (v := undef) rfl (by kernel_rfl) (by kernel_rfl) (by kernel_rfl) (fun _ _ _ h => h) (Or.inr ⟨by rfl, rfl⟩) HS0.out ?_
    dsimp only [Act.put]
    simp only [List.setIfInBounds_toArray, List.set_cons_zero, List.set_cons_succ]
    refine wpAnyH_take (i := 11) (oi := ⟨some 18, _, _, _, _, _⟩) (v := .bool true) rfl (by kernel_rfl) (by kernel_rfl) (by kernel_rfl) (fun _ _ _ h => h) (Or.inl ⟨by rfl, ?_⟩) HS0.out ?_
    · intro w hSw
      go_simp <;> with_reducible rfl
    dsimp only [Act.put]
    simp only [List.setIfInBounds_toArray, List.set_cons_zero, List.set_cons_succ]
    refine wpAnyH_done (by kernel_rfl) ?_ _
    clear hle
    go_wp2
    refine bodyPost_ret (results_tmp rfl _ _ _) rfl ?_
    exact ⟨by rw [HE21.out]; rfl, HBd.out⟩
end Go.Proofs.Ytbaepjhbpmhmgaa
/- proof.Check. -/
namespace Go.Proofs.Ytbaepjhbpmhmgaa
open Go.RowKit Go.Lib
set_option linter.unusedVariables false
set_option linter.unusedSimpArgs false
attribute [local go_sem ↓] Go.wp_at_zero Go.wp_at_succ

open Classical in
set_option maxRecDepth 100000 in
set_option maxHeartbeats 3200000 in
theorem pcheck_any (pv v : Value) (h : Hdr) (hk : h.ok) (n c : Int) (Hs : List (List Nat)) (I T : List Nat) (hI : IsH I) (hT : IsH T) (w : World) (hv : HsIs w pv h.P) (hv2 : HsIs w v Hs) :
    Calls Try.prog 13 #[.agg (pfC pv h n c v).toArray, .agg (bys I).toArray, .agg (bys T).toArray] w fun e w' => e = .returned (.int .i64 (if prOk h n c Hs I T then 0 else 21)) ∧ Below w.heap.size w w' := by
  obtain ⟨a0, c0, rfl⟩ := hv.form
  obtain ⟨a1, c1, rfl⟩ := hv2.form
  have HV := Lib.hid hv
  have HV2 := Lib.hid hv2
  have HOk := Lib.hid hk
  have HI := Lib.hid hI
  have HT := Lib.hid hT
  have HSi := Lib.hid (size_hash I HI.out.1)
  have HSt := Lib.hid (size_hash T HT.out.1)
  have HSa := Lib.hid (size_hash h.a hk.a.1)
  have HSp := Lib.hid (size_hdr (.slice a0 h.P.length c0) h hk)
  have HSq := Lib.hid (size_pa n c (.slice a1 Hs.length c1))
  clear hv hv2 hk hI hT
  obtain ⟨E, hE⟩ : ∃ E : Int, E = if prOk h n c Hs I T then 0 else 21 := ⟨_, rfl⟩
  rw [← hE]
  have HE := Lib.hid hE
  clear hE
  go_enter Try.func13, Try.ntmps13
  go_upto_region 1 with fail
  have hpk := three_laid w (pfC (.slice a0 h.P.length c0) h n c (.slice a1 Hs.length c1)) (bys I) (bys T) 31 24 24 _ rfl
  have HS1 := Lib.hid (show PrS w.heap.size (w.heap.size + 1) (w.heap.size + 1 + 1) (.slice a0 h.P.length c0) (.slice a1 Hs.length c1) h n c Hs I T _ from ⟨⟨hpk.1, HOk.out⟩, hpk.2.1.range, hpk.2.2.1.range, HV.out.below hpk.2.2.2, HV2.out.below hpk.2.2.2⟩)
  have HB1 := Lib.hid hpk.2.2.2
  clear hpk HV HV2
  generalize World.alloc (World.alloc (World.alloc _ _) _) _ = w1 at *
  go_step
  iterate 3 (first | go_values | go_skip | go_guarded | go_step | go_upon)
  refine wpList_load_mid (P := Try.prog) rfl 27 _ rfl w.heap.size 0 rfl _ _ HS1.out.1.hr Try.underlying27 rfl HSp.out ?_
  by_cases hP : h.P.length ≤ 255
  · have HPl := Lib.hid hP
    have HCh := Lib.hid (header_ok h HOk.out hP (.slice a0 h.P.length c0) w1 HS1.out.2.2.2.1)
    go_wp2_with fail
    with_reducible refine HCh.out.mono ?_
    rintro e w2 ⟨v2, rfl, hy2, hlo2, hb2⟩
    dsimp only
    have HS2 := Lib.hid (HS1.out.below HI.out HT.out hb2)
    have HB2 := Lib.hid (HB1.out.trans (hb2.mono HB1.out.size))
    clear hy2 hlo2 hb2 HS1 HB1 HCh
    go_upto_region 2 with fail
    have HS0 := Lib.hid (show PrS w.heap.size (w.heap.size + 1) (w.heap.size + 1 + 1) (.slice a0 h.P.length c0) (.slice a1 Hs.length c1) h n c Hs I T w2.drew from HS2.out)
    have HBd := Lib.hid HB2.out.drew
    clear HS2 HB2
    refine wp_region_H (PrS w.heap.size (w.heap.size + 1) (w.heap.size + 1 + 1) (.slice a0 h.P.length c0) (.slice a1 Hs.length c1) h n c Hs I T) (by kernel_rfl) ?_
    generalize w2.drew = w3 at *
    simp only [List.size_toArray, List.length_cons, List.length_nil, Nat.reduceAdd, Array.replicate_succ, Array.replicate_zero, List.push_toArray, List.nil_append, List.cons_append]
    refine wpAnyH_take (i := 0) (oi := ⟨some 15, _, _, _, _, _⟩) (v := ?_) rfl (by kernel_rfl) (by kernel_rfl) (by kernel_rfl) (fun _ _ _ h => h) (Or.inl ⟨by rfl, ?_⟩) HS0.out ?_
    rotate_left
    · intro w hSw
      go_simp <;> with_reducible rfl
    dsimp only [Act.put]
    simp only [List.setIfInBounds_toArray, List.set_cons_zero, List.set_cons_succ]
    refine wpAnyH_take (i := 1) (oi := ⟨some 16, _, _, _, _, _⟩) (v := .bool false) rfl (by kernel_rfl) (by kernel_rfl) (by kernel_rfl) (fun _ _ _ h => h) (Or.inl ⟨by rfl, ?_⟩) HS0.out ?_
    · intro w hSw
      go_simp <;> with_reducible rfl
    dsimp only [Act.put]
    simp only [List.setIfInBounds_toArray, List.set_cons_zero, List.set_cons_succ]
    refine wpAnyH_take (i := 2) (oi := ⟨some 17, _, _, _, _, _⟩) (v := ?_) rfl (by kernel_rfl) (by kernel_rfl) (by kernel_rfl) (fun _ _ _ h => h) (Or.inl ⟨by rfl, ?_⟩) HS0.out ?_
    rotate_left
    · intro w hSw
      go_simp <;> with_reducible rfl
    dsimp only [Act.put]
    simp only [List.setIfInBounds_toArray, List.set_cons_zero, List.set_cons_succ]
    refine wpAnyH_take (i := 3) (oi := ⟨some 18, _, _, _, _, _⟩) (v := ?_) rfl (by kernel_rfl) (by kernel_rfl) (by kernel_rfl) (fun _ _ _ h => h) (Or.inl ⟨by rfl, ?_⟩) HS0.out ?_
    rotate_left
    · intro w hSw
      go_simp <;> with_reducible rfl
    dsimp only [Act.put]
    simp only [List.setIfInBounds_toArray, List.set_cons_zero, List.set_cons_succ]
    refine wpAnyH_take (i := 4) (oi := ⟨some 19, _, _, _, _, _⟩) rfl (by kernel_rfl) (by kernel_rfl) (by kernel_rfl) (fun _ _ _ h => h) (yieldsIf_load_mid (by rfl) 27 (.tmp 18) rfl (w.heap.size) (0) rfl (hdC (.slice a0 h.P.length c0) h) _ (fun w h => h.1.hr) Try.underlying27 rfl HSp.out) HS0.out ?_
    dsimp only [Act.put]
    simp only [List.setIfInBounds_toArray, List.set_cons_zero, List.set_cons_succ]
    refine wpAnyH_take (i := 6) (oi := ⟨some 21, _, _, _, _, _⟩) rfl (by kernel_rfl) (by kernel_rfl) (by kernel_rfl) (fun _ _ _ h => h) (yieldsIf_load_mid (by rfl) 24 (.tmp 5) rfl (w.heap.size + 1 + 1) (0) rfl (bys T) _ (fun w h => h.2.2.1) Try.underlying24 rfl HSt.out) HS0.out ?_
    dsimp only [Act.put]
    simp only [List.setIfInBounds_toArray, List.set_cons_zero, List.set_cons_succ]
    refine wpAnyH_one (i := 5) (oi := ⟨some 20, _, _, _, _, _⟩) (by kernel_rfl) rfl (by rfl) (fun K9 hK9 => ?_)
    have HK9 := Lib.hid hK9
    clear hK9
    go_simp
    have HCi := Lib.hid (bid_any h HOk.out HPl.out (.slice a0 h.P.length c0) w3 HS0.out.2.2.2.1)
    with_reducible refine HCi.out.mono ?_
    rintro e w4 ⟨rfl, hb4⟩
    dsimp only
    have hS4 := HS0.out.below HI.out HT.out hb4
    have HB4 := Lib.hid (HBd.out.trans (hb4.mono HBd.out.size))
    clear HS0 HBd HCi
    have HS0 := Lib.hid hS4
    clear hS4 hb4
    refine HK9.out _ _ HS0.out ?_
    clear HK9
    simp only [List.setIfInBounds_toArray, List.set_cons_zero, List.set_cons_succ]
    obtain ⟨D, hD⟩ : ∃ D, D = idF h := ⟨_, rfl⟩
    have HDh := Lib.hid (show IsH D by rw [hD]; exact tagF_h _ _)
    rw [← hD]
    have HDe := Lib.hid hD
    clear hD
    by_cases hid : idF h = T
    · have HEk := Lib.hid (show E = if pathOk h.a I n c Hs then 0 else 21 by
        rw [HE.out]
        by_cases hp : pathOk h.a I n c Hs
        · rw [if_pos ⟨hP, hid, hp⟩, if_pos hp]
        · rw [if_neg (fun hx => hp hx.2.2), if_neg hp])
      clear hP
      have hid2 := hid
      rw [← HDe.out] at hid2
      subst hid2
      refine wpAnyH_take (i := 7) (oi := ⟨some 22, _, _, _, _, _⟩) (v := .bool false) rfl (by kernel_rfl) (by kernel_rfl) (by kernel_rfl) (fun _ _ _ h => h) (Or.inl ⟨by rfl, ?_⟩) HS0.out ?_
      · intro w hSw
        have hne := equal_hash w D D HDh.out HDh.out
        rw [show decide (D = D) = true from decide_eq_true rfl] at hne
        go_simp <;> with_reducible rfl
      dsimp only [Act.put]
      simp only [List.setIfInBounds_toArray, List.set_cons_zero, List.set_cons_succ]
      refine wpAnyH_take (i := 8) (oi := ⟨some 23, _, _, _, _, _⟩) (v := .bool false) rfl (by kernel_rfl) (by kernel_rfl) (by kernel_rfl) (fun _ _ _ h => h) (Or.inl ⟨by rfl, ?_⟩) HS0.out ?_
      · intro w hSw
        go_simp <;> with_reducible rfl
      dsimp only [Act.put]
      simp only [List.setIfInBounds_toArray, List.set_cons_zero, List.set_cons_succ]
      refine wpAnyH_done (by kernel_rfl) ?_ _
      go_upto_region 4 with fail
      have HS9 := HS0
      go_step
      iterate 6 (first | go_values | go_skip | go_guarded | go_step | go_upon)
      refine wpList_load_mid (P := Try.prog) rfl 24 _ rfl w.heap.size 33 rfl _ _ HS9.out.1.ra Try.underlying24 rfl HSa.out ?_
      refine wpList_load_mid (P := Try.prog) rfl 24 _ rfl (w.heap.size + 1) 0 rfl _ _ HS9.out.2.1 Try.underlying24 rfl HSi.out ?_
      iterate 3 (first | go_values | go_skip | go_guarded | go_step | go_upon)
      refine wpList_load_mid (P := Try.prog) rfl 29 _ rfl w.heap.size 130 rfl _ _ HS9.out.1.pa Try.underlying29 rfl HSq.out ?_
      rw [show (paC n c (.slice a1 Hs.length c1)).toArray = #[.int .i64 n, .int .i64 c, .slice a1 Hs.length c1] from rfl]
      have HCk := Lib.hid (check_any h.a I HOk.out.a HI.out n c (.slice a1 Hs.length c1) Hs w4 HS9.out.2.2.2.2)
      rw [← HEk.out] at HCk
      go_wp2_with fail
      with_reducible refine HCk.out.mono ?_
      rintro e w6 ⟨rfl, hb6⟩
      dsimp only
      have HB6 := Lib.hid (HB4.out.trans (hb6.mono HB4.out.size))
      clear hb6 HS9 HCk HB4
      go_wp2
      refine bodyPost_ret (results_tmp rfl _ _ _) rfl ?_
      exact ⟨rfl, HB6.out⟩
    · have HE21 := Lib.hid (show E = 21 by rw [HE.out, if_neg (fun hx => hid hx.2.1)])
      clear hP
      have hid2 : ¬ D = T := by rw [HDe.out]; exact hid
      refine wpAnyH_take (i := 7) (oi := ⟨some 22, _, _, _, _, _⟩) (v := .bool true) rfl (by kernel_rfl) (by kernel_rfl) (by kernel_rfl) (fun _ _ _ h => h) (Or.inl ⟨by rfl, ?_⟩) HS0.out ?_
      · intro w hSw
        have hne := equal_hash w D T HDh.out HT.out
        rw [decide_eq_false hid2] at hne
        go_simp <;> with_reducible rfl
      dsimp only [Act.put]
      simp only [List.setIfInBounds_toArray, List.set_cons_zero, List.set_cons_succ]
      refine wpAnyH_take (i := 8) (oi := ⟨some 23, _, _, _, _, _⟩) (v := .bool true) rfl (by kernel_rfl) (by kernel_rfl) (by kernel_rfl) (fun _ _ _ h => h) (Or.inl ⟨by rfl, ?_⟩) HS0.out ?_
      · intro w hSw
        go_simp <;> with_reducible rfl
      dsimp only [Act.put]
      simp only [List.setIfInBounds_toArray, List.set_cons_zero, List.set_cons_succ]
      refine wpAnyH_done (by kernel_rfl) ?_ _
      go_wp2
      refine bodyPost_ret (results_tmp rfl _ _ _) rfl ?_
      exact ⟨by rw [HE21.out]; rfl, HB4.out⟩
  · have HE21 := Lib.hid (show E = 21 by rw [HE.out, if_neg (fun hx => hP hx.1)])
    have HCh := Lib.hid (header_bad h HOk.out (by omega) (.slice a0 h.P.length c0) w1 HS1.out.2.2.2.1)
    go_wp2_with fail
    with_reducible refine HCh.out.mono ?_
    rintro e w2 ⟨rfl, hb2⟩
    dsimp only
    have HS2 := Lib.hid (HS1.out.below HI.out HT.out hb2)
    have HB2 := Lib.hid (HB1.out.trans (hb2.mono HB1.out.size))
    clear hb2 HS1 HB1 HCh
    go_upto_region 2 with fail
    have HS0 := Lib.hid (show PrS w.heap.size (w.heap.size + 1) (w.heap.size + 1 + 1) (.slice a0 h.P.length c0) (.slice a1 Hs.length c1) h n c Hs I T w2.drew from HS2.out)
    have HBd := Lib.hid HB2.out.drew
    clear HS2 HB2
    refine wp_region_H (PrS w.heap.size (w.heap.size + 1) (w.heap.size + 1 + 1) (.slice a0 h.P.length c0) (.slice a1 Hs.length c1) h n c Hs I T) (by kernel_rfl) ?_
    generalize w2.drew = w3 at *
    simp only [List.size_toArray, List.length_cons, List.length_nil, Nat.reduceAdd, Array.replicate_succ, Array.replicate_zero, List.push_toArray, List.nil_append, List.cons_append]
    refine wpAnyH_take (i := 0) (oi := ⟨some 15, _, _, _, _, _⟩) (v := ?_) rfl (by kernel_rfl) (by kernel_rfl) (by kernel_rfl) (fun _ _ _ h => h) (Or.inl ⟨by rfl, ?_⟩) HS0.out ?_
    rotate_left
    · intro w hSw
      go_simp <;> with_reducible rfl
    dsimp only [Act.put]
    simp only [List.setIfInBounds_toArray, List.set_cons_zero, List.set_cons_succ]
    refine wpAnyH_take (i := 1) (oi := ⟨some 16, _, _, _, _, _⟩) (v := .bool true) rfl (by kernel_rfl) (by kernel_rfl) (by kernel_rfl) (fun _ _ _ h => h) (Or.inl ⟨by rfl, ?_⟩) HS0.out ?_
    · intro w hSw
      go_simp <;> with_reducible rfl
    dsimp only [Act.put]
    simp only [List.setIfInBounds_toArray, List.set_cons_zero, List.set_cons_succ]
    refine wpAnyH_take (i := 2) (oi := ⟨some 17, _, _, _, _, _⟩) (v := ?_) rfl (by kernel_rfl) (by kernel_rfl) (by kernel_rfl) (fun _ _ _ h => h) (Or.inl ⟨by rfl, ?_⟩) HS0.out ?_
    rotate_left
    · intro w hSw
      go_simp <;> with_reducible rfl
    dsimp only [Act.put]
    simp only [List.setIfInBounds_toArray, List.set_cons_zero, List.set_cons_succ]
    refine wpAnyH_take (i := 3) (oi := ⟨some 18, _, _, _, _, _⟩) (v := undef) rfl (by kernel_rfl) (by kernel_rfl) (by kernel_rfl) (fun _ _ _ h => h) (Or.inr ⟨by rfl, rfl⟩) HS0.out ?_
    dsimp only [Act.put]
    simp only [List.setIfInBounds_toArray, List.set_cons_zero, List.set_cons_succ]
    refine wpAnyH_take (i := 4) (oi := ⟨some 19, _, _, _, _, _⟩) (v := undef) rfl (by kernel_rfl) (by kernel_rfl) (by kernel_rfl) (fun _ _ _ h => h) (Or.inr ⟨by rfl, rfl⟩) HS0.out ?_
    dsimp only [Act.put]
    simp only [List.setIfInBounds_toArray, List.set_cons_zero, List.set_cons_succ]
    refine wpAnyH_take (i := 5) (oi := ⟨some 20, _, _, _, _, _⟩) (v := undef) rfl (by kernel_rfl) (by kernel_rfl) (by kernel_rfl) (fun _ _ _ h => h) (Or.inr ⟨by rfl, rfl⟩) HS0.out ?_
    dsimp only [Act.put]
    simp only [List.setIfInBounds_toArray, List.set_cons_zero, List.set_cons_succ]
    refine wpAnyH_take (i := 6) (oi := ⟨some 21, _, _, _, _, _⟩) (v := undef) rfl (by kernel_rfl) (by kernel_rfl) (by kernel_rfl) (fun _ _ _ h => h) (Or.inr ⟨by rfl, rfl⟩) HS0.out ?_
    dsimp only [Act.put]
    simp only [List.setIfInBounds_toArray, List.set_cons_zero, List.set_cons_succ]
    refine wpAnyH_take (i := 7) (oi := ⟨some 22, _, _, _, _, _⟩) (v := undef) rfl (by kernel_rfl) (by kernel_rfl) (by kernel_rfl) (fun _ _ _ h => h) (Or.inr ⟨by rfl, rfl⟩) HS0.out ?_
    dsimp only [Act.put]
    simp only [List.setIfInBounds_toArray, List.set_cons_zero, List.set_cons_succ]
    refine wpAnyH_take (i := 8) (oi := ⟨some 23, _, _, _, _, _⟩) (v := .bool true) rfl (by kernel_rfl) (by kernel_rfl) (by kernel_rfl) (fun _ _ _ h => h) (Or.inl ⟨by rfl, ?_⟩) HS0.out ?_
    · intro w hSw
      go_simp <;> with_reducible rfl
    dsimp only [Act.put]
    simp only [List.setIfInBounds_toArray, List.set_cons_zero, List.set_cons_succ]
    refine wpAnyH_done (by kernel_rfl) ?_ _
    go_wp2
    refine bodyPost_ret (results_tmp rfl _ _ _) rfl ?_
    exact ⟨by rw [HE21.out]; rfl, HBd.out⟩
end Go.Proofs.Ytbaepjhbpmhmgaa
