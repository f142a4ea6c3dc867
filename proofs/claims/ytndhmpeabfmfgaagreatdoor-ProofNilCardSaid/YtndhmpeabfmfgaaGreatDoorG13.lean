/- merkle.Lead. -/
import Derived.Test.YtndhmpeabfmfgaaGreatDoorG12
import Derived.WalkMore
import Derived.BigQuiet
namespace Go.Proofs.YtndhmpeabfmfgaaGreatDoor
open Go.RowKit Go.Lib
set_option linter.unusedVariables false
set_option linter.unusedSimpArgs false
attribute [local go_sem ↓] Go.wp_at_zero Go.wp_at_succ

theorem w64_half (n : Nat) (h : n ≤ 1048576) : wrap64 ((n : Int) / 2) = ((n / 2 : Nat) : Int) := by unfold wrap64; omega
theorem w64_up (c : Nat) (h : c ≤ 1048576) : wrap64 ((wrap64 ((c : Int) + 1)).tdiv 2) = (((c + 1) / 2 : Nat) : Int) := by
  rw [show wrap64 ((c : Int) + 1) = ((c + 1 : Nat) : Int) by unfold wrap64; omega, Int.tdiv_eq_ediv_of_nonneg (by omega)]
  unfold wrap64; omega
theorem and_one (n : Nat) (h : n < 9223372036854775807) : bits .and .i64 (n : Int) 1 = ((n % 2 : Nat) : Int) := by
  show IntKind.i64.wrap ((BitVec.ofInt 64 (n : Int) &&& BitVec.ofInt 64 (1 : Int)).toNat : Int) = _
  have e1 : (BitVec.ofInt 64 (n : Int)).toNat = n := by rw [BitVec.toNat_ofInt]; omega
  have e2 : (BitVec.ofInt 64 (1 : Int)).toNat = 1 := by decide
  rw [BitVec.toNat_and, e1, e2, Nat.and_one_is_mod, IntKind.wrap_i64]
  omega
theorem results_cell_row_tmp {P : Program} {fn : Func} {p u : Tmp} {ty : TypeId} (h : fn.results = #[.cell p ty, .tmp u]) (tmps : Array Value) (w : World) (g : Nat) (t : TypeId) (cs : Array Value) (fr : Nat × Nat) (d : TypeDesc)
    (hp : tmps.getD p undef = .pointer (some ⟨g, 0, none⟩)) (hg : w.heap[g]? = some (.cells cs t fr))
    (hu : P.underlying ty = some d) (hd : (match d with | .struct _ | .array _ _ => true | _ => false) = true) (hi : (P.info? ty).map (·.size) = some cs.size) :
    (results fn tmps).run P w = .ok (.tuple #[.agg cs, tmps.getD u undef]) w := by
  rw [results_cell_tmp h, hp]
  simp [asAddr, run_loadVar_row w g t ty cs fr d hg hu hd hi]
/-- What a path leads to, below the top. -/
def upF (I : List Nat) (n c : Nat) (Hs : List (List Nat)) : List Nat := leadUp [] knotF knotF (leafF I) n c Hs

/-- Three objects laid, one upon the other. -/
theorem three_laid (w : World) (L1 L2 L3 : List Value) (t1 t2 t3 : TypeId) (W : World) (hW : W = ((w.alloc (.cells L1.toArray t1)).alloc (.cells L2.toArray t2)).alloc (.cells L3.toArray t3)) :
    Arr W w.heap.size t1 L1 ∧ Arr W (w.heap.size + 1) t2 L2 ∧ Arr W (w.heap.size + 1 + 1) t3 L3 ∧ Below w.heap.size w W := by
  subst hW
  have h1 := Arr.made w t1 L1
  have e1 : (w.alloc (.cells L1.toArray t1)).heap.size = w.heap.size + 1 := by show (w.heap.push _).size = _; simp
  have h2 := Arr.made (w.alloc (.cells L1.toArray t1)) t2 L2
  rw [e1] at h2
  have e2 : ((w.alloc (.cells L1.toArray t1)).alloc (.cells L2.toArray t2)).heap.size = w.heap.size + 1 + 1 := by show (Array.push _ _).size = _; rw [Array.size_push, e1]
  have h3 := Arr.made ((w.alloc (.cells L1.toArray t1)).alloc (.cells L2.toArray t2)) t3 L3
  rw [e2] at h3
  have b1 : Below w.heap.size w (w.alloc (.cells L1.toArray t1)) := (Below.refl _ _).alloc (Nat.le_refl _) _
  have b2 := (Below.refl (w.alloc (.cells L1.toArray t1)).heap.size (w.alloc (.cells L1.toArray t1))).alloc (Nat.le_refl _) (.cells L2.toArray t2)
  have b3 := (Below.refl _ ((w.alloc (.cells L1.toArray t1)).alloc (.cells L2.toArray t2))).alloc (Nat.le_refl _) (.cells L3.toArray t3)
  have b23 := b2.trans (b3.mono b2.size)
  exact ⟨h1.below b23 h1.lt, h2.below b3 h2.lt, h3, b1.trans (b23.mono b1.size)⟩

theorem hs_tail {w : World} {b off c : Nat} {H : List Nat} {R : List (List Nat)} (h : HsIs w (.slice (some ⟨b, off, none⟩) (H :: R).length c) (H :: R)) :
    HsIs w (.slice (if c = 1 then some ⟨b, off, none⟩ else some ⟨b, off + 32, none⟩) R.length (c - 1)) R := by
  refine ⟨fun x hx => h.1 x (List.mem_cons_of_mem _ hx), ?_⟩
  rcases h.2 with ⟨_, h0⟩ | ⟨b', off', c', e1, q1, q2, q3⟩
  · cases h0
  cases e1
  rw [List.length_cons] at q1
  split
  · rename_i hc
    refine .inr ⟨b, off, c - 1, rfl, by omega, by omega, fun j hj => absurd hj (by omega)⟩
  · refine .inr ⟨b, off + 32, c - 1, rfl, by omega, by omega, fun j hj => ?_⟩
    have := q3 (j + 1) (by rw [List.length_cons]; omega)
    rw [show off + (j + 1) * 32 = off + 32 + j * 32 by omega] at this
    exact this

set_option maxRecDepth 100000 in
set_option maxHeartbeats 1600000 in
theorem lead_ok (I : List Nat) (hI : IsH I) (n c : Nat) (v : Value) (Hs : List (List Nat)) (w : World) (hn : n < c) (hc : c ≤ 1048576) (hs : Hs.length = sizeUp n c) (hv : HsIs w v Hs) :
    Calls Tryz.prog 64 #[.agg (bys I).toArray, .agg #[.int .i64 (n : Int), .int .i64 (c : Int), v]] w fun e w' => e = .returned (.tuple #[.agg (bys (topF c (upF I n c Hs))).toArray, .int .i64 0]) ∧ Below w.heap.size w w' := by
  have hz := zero32
  obtain ⟨a0, c0, rfl⟩ := hv.form
  have HV := Lib.hid hv
  have HI := Lib.hid hI
  have HN := Lib.hid (And.intro hn (And.intro hc hs))
  clear hv hn hc hI hs
  go_enter Tryz.func64, Tryz.ntmps64
  go_upto_region 1 with fail
  have hpk := three_laid w (bys I) [.int .i64 (n : Int), .int .i64 (c : Int), .slice a0 Hs.length c0] (List.replicate 32 (.int .u8 0)) 23 29 23 _ rfl
  simp only [List.reduceReplicate] at hpk
  have HA1 := Lib.hid hpk.1
  have HA2 := Lib.hid hpk.2.1
  have HA3 := Lib.hid (show ∃ Z : List Value, Z.length = 32 ∧ Arr _ (w.heap.size + 1 + 1) 23 Z from ⟨_, rfl, hpk.2.2.1⟩)
  have HB1 := Lib.hid hpk.2.2.2
  clear hpk hz
  generalize World.alloc (World.alloc (World.alloc _ _) _) _ = w1 at *
  have hc0 := HA2.out.cell 0
  have hc1 := HA2.out.cell 1
  have hc2 := HA2.out.cell 2
  dsimp only [List.getElem?_cons_zero, List.getElem?_cons_succ] at hc0 hc1 hc2
  go_wp2
  go_step3
  go_wp2_with fail
  refine (size_ok n c _ HN.out.1 HN.out.2.1).mono ?_
  rintro e w2 ⟨rfl, hb2⟩
  dsimp only
  rw [← HN.out.2.2]
  clear hc0 hc1 hc2
  have hA2 := HA2.out.below hb2 HA2.out.lt
  have HA12 := Lib.hid (HA1.out.below hb2 HA1.out.lt)
  have HA22 := Lib.hid hA2
  have HA32 := Lib.hid (show ∃ Z : List Value, Z.length = 32 ∧ Arr w2 (w.heap.size + 1 + 1) 23 Z by
    obtain ⟨Z, h1, h2⟩ := HA3.out
    exact ⟨Z, h1, h2.below hb2 h2.lt⟩)
  have HB2 := Lib.hid (HB1.out.trans (hb2.mono HB1.out.size))
  have hc0 := hA2.cell 0
  have hc1 := hA2.cell 1
  have hc2 := hA2.cell 2
  dsimp only [List.getElem?_cons_zero, List.getElem?_cons_succ] at hc0 hc1 hc2
  go_upto_region 4 with fail
  clear hc0 hc1 hc2 hA2 HA1 HA2 HA3 HB1 hb2
  have HSh := Lib.hid (size_hash I HI.out.1)
  go_step
  refine wpList_load_mid (P := Tryz.prog) rfl 23 _ rfl w.heap.size 0 rfl _ _ HA12.out.range Tryz.underlying23 rfl HSh.out ?_
  go_wp2_with fail
  refine (leaf_any I HI.out w2).mono ?_
  rintro e w4 ⟨rfl, hb4⟩
  dsimp only
  have HA14 := Lib.hid (HA12.out.below hb4 HA12.out.lt)
  have HA24 := Lib.hid (HA22.out.below hb4 HA22.out.lt)
  have HA34 := Lib.hid (show ∃ Z : List Value, Z.length = 32 ∧ Arr w4 (w.heap.size + 1 + 1) 23 Z by
    obtain ⟨Z, h1, h2⟩ := HA32.out
    exact ⟨Z, h1, h2.below hb4 h2.lt⟩)
  have HB4 := Lib.hid (HB2.out.trans (hb4.mono HB2.out.size))
  clear HA12 HA22 HA32 HB2 hb4
  obtain ⟨L, hL⟩ : ∃ L, L = leafF I := ⟨_, rfl⟩
  have HLh := Lib.hid (show IsH L by rw [hL]; exact leafF_h I)
  rw [← hL]
  have HLe := Lib.hid hL
  clear hL
  have hz := zero32
  have HSl := Lib.hid (show (Tryz.prog.info? 23).map (·.size) = some (bys L).toArray.size by rw [List.size_toArray]; exact size_hash L HLh.out.1)
  have O1 := Lib.hid (all_oneCell_toArray (bys_one L))
  iterate 4 (first | go_values | go_skip | go_guarded | go_step | go_upon)
  have hm := Arr.made w4 23 (List.replicate 32 (.int .u8 0))
  have HPk := Lib.hid (And.intro (hm.there (bys L).toArray.size (by simp [bys_len, HLh.out.1])) (And.intro (hm.setAll (bys L) (by simp [bys_len, HLh.out.1])) (below_sets w4.heap.size (Nat.le_refl _) (bys L) 0 ((Below.refl w4.heap.size w4).alloc (Nat.le_refl _) (.cells (List.replicate 32 (.int .u8 0)).toArray 23)))))
  clear hm
  refine wpList_store_mid (P := Tryz.prog) rfl 23 _ _ rfl w4.heap.size 0 (bys L).toArray rfl rfl HPk.out.1 HSl.out O1.out ?_
  have hpk := HPk.out.2
  simp only [List.reduceReplicate] at hpk
  clear HPk
  rw [show (bys L).toArray.toList = bys L from rfl]
  obtain ⟨g8, hg8⟩ : ∃ g8, w4.heap.size = g8 := ⟨_, rfl⟩
  have HG := Lib.hid (show w.heap.size + 1 + 1 < g8 by
    obtain ⟨Z, h1, h2⟩ := HA34.out
    rw [← hg8]; exact h2.lt)
  rw [hg8] at hpk ⊢
  generalize World.setCells _ _ _ _ = w5 at *
  have HA8 := Lib.hid hpk.1
  have HB8 := hpk.2
  rw [← hg8] at HB8
  have HA25 := Lib.hid (HA24.out.below HB8 HA24.out.lt)
  have HA35 := Lib.hid (show ∃ Z : List Value, Z.length = 32 ∧ Arr w5 (w.heap.size + 1 + 1) 23 Z by
    obtain ⟨Z, h1, h2⟩ := HA34.out
    exact ⟨Z, h1, h2.below HB8 h2.lt⟩)
  have HB5 := Lib.hid (HB4.out.trans (HB8.mono HB4.out.size))
  clear hpk HB8 hg8 HA14 HA24 HA34 HB4 hz
  have hc0 := HA25.out.cell 0
  have hc1 := HA25.out.cell 1
  have hc2 := HA25.out.cell 2
  dsimp only [List.getElem?_cons_zero, List.getElem?_cons_succ] at hc0 hc1 hc2
  go_wp2
  go_step3
  go_wp2
  go_quiet (fail)
  rename_i nq
  have HA59 := Lib.hid (show Arr (w5.drewN nq) (w.heap.size + 1) 29 [.int .i64 (n : Int), .int .i64 (c : Int), .slice a0 Hs.length c0] from HA25.out)
  have HA89 := Lib.hid (show Arr (w5.drewN nq) g8 23 (bys L) from HA8.out)
  have HA39 := Lib.hid (show ∃ Z : List Value, Z.length = 32 ∧ Arr (w5.drewN nq) (w.heap.size + 1 + 1) 23 Z from HA35.out)
  have HB9 := Lib.hid (show Below w.heap.size w (w5.drewN nq) from below_drewN HB5.out _)
  generalize World.drewN _ _ = w6 at HA59 HA89 HA39 HB9 ⊢
  clear HA8 HA25 HA35 HB5 hc0 hc1 hc2
  go_wp2
  go_loopg [9, 10, 11] c (fun g v9 v10 v11 wq => ∃ (n1 c1 : Nat) (R : List (List Nat)) (A : List Nat), Hid (HsIs w v9 R) ∧ v10 = .int .i64 (n1 : Int) ∧ v11 = .int .i64 (c1 : Int) ∧ c1 = g ∧ Hid (n1 < c1 ∧ c1 ≤ 1048576 ∧ R.length = sizeUp n1 c1) ∧ Hid (leadUp [] knotF knotF A n1 c1 R = upF I n c Hs) ∧ Hid (IsH A ∧ Arr wq g8 23 (bys A)) ∧ Hid (Arr wq (w.heap.size + 1) 29 [.int .i64 (n : Int), .int .i64 (c : Int), .slice a0 Hs.length c0]) ∧ Hid (∃ Z : List Value, Z.length = 32 ∧ Arr wq (w.heap.size + 1 + 1) 23 Z) ∧ Hid (Below w.heap.size w wq))
  case atStart => exact ⟨n, c, Hs, L, HV.out, rfl, rfl, rfl, HN.out, by show _ = _; rw [HLe.out]; rfl, ⟨HLh.out, HA89.out⟩, HA59.out, HA39.out, HB9.out⟩
  case round =>
    obtain ⟨n1, c1, R, A, h1, rfl, rfl, rfl, h2, h3, h4, h5, h6, h7⟩ := hrel
    have HVr := Lib.hid h1.out
    have HR := Lib.hid h2.out
    have HLd := Lib.hid h3.out
    have HA := Lib.hid h4.out
    have HP := Lib.hid h5.out
    have HZ := Lib.hid h6.out
    have HB := Lib.hid h7.out
    clear h1 h2 h3 h4 h5 h6 h7 HA59 HA89 HA39 HB9
    obtain ⟨a9, c9, rfl⟩ := HVr.out.form
    by_cases hc : c1 ≤ 1
    · have hlt : (c1 : Int) ≤ 1 := by omega
      go_upto_region 13 with fail
      have hl := HLd.out
      rw [leadUp, if_pos hc] at hl
      have HU := Lib.hid hl
      have hp1 := HP.out.cell 1
      dsimp only [List.getElem?_cons_zero, List.getElem?_cons_succ] at hp1
      have HS0 := Lib.hid hp1
      clear hl hp1 hc hlt
      refine wp_region_U (fun w' => w'.cell? ⟨w.heap.size + 1, 1, none⟩ = some (.int .i64 (c : Int))) 4 (by kernel_rfl) ?_
      simp only [List.size_toArray, List.length_cons, List.length_nil, Nat.reduceAdd, Array.replicate_succ, Array.replicate_zero, List.push_toArray, List.nil_append, List.cons_append]
      refine wpAnyU_take0 (i := 0) (oi := ⟨some 69, _, _, _, _, _⟩) (v := ?_) rfl (by kernel_rfl) (by kernel_rfl) (by kernel_rfl) (by decide) (fun _ _ _ h => h) (Or.inl ⟨by rfl, ?_⟩) (fun _ => HS0.out) ?_
      rotate_left
      · intro w hSw; go_simp <;> with_reducible rfl
      dsimp only [Act.put]
      simp only [List.setIfInBounds_toArray, List.set_cons_zero, List.set_cons_succ]
      refine wpAnyU_take (i := 1) (oi := ⟨some 70, _, _, _, _, _⟩) (v := .int .i64 (c : Int)) rfl (by kernel_rfl) (by kernel_rfl) (by kernel_rfl) (by kernel_rfl) (by kernel_rfl) (fun _ _ _ h => h) (Or.inl ⟨by rfl, ?_⟩) HS0.out ?_
      · intro w hSw; go_simp <;> with_reducible rfl
      dsimp only [Act.put]
      simp only [List.setIfInBounds_toArray, List.set_cons_zero, List.set_cons_succ]
      refine wpAnyU_take0 (i := 2) (oi := ⟨some 71, _, _, _, _, _⟩) (v := ?_) rfl (by kernel_rfl) (by kernel_rfl) (by kernel_rfl) (by decide) (fun _ _ _ h => h) (Or.inl ⟨by rfl, ?_⟩) (fun _ => HS0.out) ?_
      rotate_left
      · intro w hSw; go_simp <;> with_reducible rfl
      dsimp only [Act.put]
      simp only [List.setIfInBounds_toArray, List.set_cons_zero, List.set_cons_succ]
      refine wpAnyU_one (i := 3) (oi := ⟨some 72, _, _, _, _, _⟩) (by kernel_rfl) rfl rfl (fun K9 hK9 => ?_)
      have HK9 := Lib.hid hK9
      clear hK9
      have HY := Lib.hid (show Byts wr.drew (.slice (some ⟨g8, 0, none⟩) 32 32) A from HA.out.2.byts HA.out.1.2 32 HA.out.1.1.symm (by unfold maxLen; omega))
      have HLw := Lib.hid (show Low wr.drew (.slice (some ⟨g8, 0, none⟩) 32 32) from HA.out.2.low 32 32)
      have HNc := Lib.hid (And.intro (show c ≤ 1152921504606846976 by have := HN.out.2.1; omega) (show A.length ≤ 1000000 by rw [HA.out.1.1]; omega))
      go_simp
      refine (top_any c _ A wr.drew HNc.out.1 HNc.out.2 HY.out HLw.out).mono ?_
      rintro e w3 ⟨rfl, hb3⟩
      dsimp only
      have hbr : Below wr.heap.size wr w3 := (Below.refl _ _).drew.trans hb3
      have HP3 := Lib.hid (HP.out.below hbr HP.out.lt)
      obtain ⟨Zs, hZl, hZa⟩ := HZ.out
      have HA3 := Lib.hid (hZa.below hbr hZa.lt)
      have HB3 := Lib.hid (HB.out.trans (hbr.mono HB.out.size))
      have hp1 := HP3.out.cell 1
      dsimp only [List.getElem?_cons_zero, List.getElem?_cons_succ] at hp1
      have HS3 := Lib.hid hp1
      obtain ⟨R9, hR⟩ : ∃ R9, R9 = topF c A := ⟨_, rfl⟩
      have hRl : R9.length = 32 := by rw [hR]; exact (tagF_h _ _).1
      rw [← hR]
      have HRe := Lib.hid (show R9 = topF c (upF I n c Hs) by rw [hR, ← HU.out])
      have HRl := Lib.hid hRl
      have Hs9 := Lib.hid (show (Tryz.prog.info? 23).map (·.size) = some (bys R9).length by rw [bys_len, hRl]; exact size32)
      have Hs2 := Lib.hid (show (Tryz.prog.info? 23).map (·.size) = some (bys R9).toArray.size by rw [List.size_toArray, bys_len, hRl]; exact size32)
      have O9 := Lib.hid (all_oneCell_toArray (bys_one R9))
      have HT9 := Lib.hid (HA3.out.there (bys R9).toArray.size (by simp [bys_len, hRl, hZl]))
      have HA5 := Lib.hid (HA3.out.setAll (bys R9) (by simp [bys_len, hRl, hZl]))
      have HB5 := Lib.hid (below_sets (w.heap.size + 1 + 1) (by omega) (bys R9) 0 HB3.out)
      clear hR hRl hbr hb3 hp1 hZl hZa HA HP HZ HB HS0
      refine HK9.out _ _ (fun _ _ => HS3.out) ?_
      clear HK9
      simp only [List.setIfInBounds_toArray, List.set_cons_zero, List.set_cons_succ]
      refine wpAnyU_one (i := 4) (oi := ⟨none, _, _, _, _, _⟩) (by kernel_rfl) rfl rfl (fun K9 hK9 => ?_)
      have HK9 := Lib.hid hK9
      clear hK9
      refine wp_store_mid (P := Tryz.prog) 23 (.tmp 4) (.tmp 72) rfl (w.heap.size + 1 + 1) 0 (bys R9).toArray rfl rfl HT9.out Hs2.out O9.out ?_
      rw [show (bys R9).toArray.toList = bys R9 from rfl]
      generalize World.setCells _ _ _ _ = w9 at *
      refine HK9.out _ _ (fun h => absurd rfl h) ?_
      clear HK9
      dsimp only [Act.put]
      simp only [List.setIfInBounds_toArray, List.set_cons_zero, List.set_cons_succ]
      refine wpAnyU_one (i := 5) (oi := ⟨some 5, _, _, _, _, _⟩) (by kernel_rfl) rfl rfl (fun K9 hK9 => ?_)
      have HK9 := Lib.hid hK9
      clear hK9
      go_simp
      refine HK9.out _ _ (fun _ h => absurd h (by decide)) ?_
      clear HK9
      refine wpAnyU_done (by kernel_rfl) ?_ _
      go_wp2
      try rw [Exit.noGoto_ret]
      refine bodyPost_ret (results_cell_row_tmp (P := Tryz.prog) rfl _ _ (w.heap.size + 1 + 1) 23 _ (0, 0) _ rfl HA5.out Tryz.underlying23 rfl (by rw [List.size_toArray]; exact Hs9.out)) rfl ?_
      exact ⟨by rw [HRe.out]; rfl, HB5.out⟩
    · have hlt : ¬ ((c1 : Int) ≤ 1) := by omega
      have hx := xor_one n1 (by have := HR.out; omega)
      by_cases hs : c1 ≤ sib n1
      · have hs2 : (((sib n1 : Nat) : Int) ≥ (c1 : Int)) := by omega
        go_wp2
        go_roundg ((c1 + 1) / 2)
        case measure => omega
        case rel =>
          have h := HR.out
          have hu := h.2.2
          have hl := HLd.out
          rw [leadUp, if_neg (by omega), if_pos hs] at hl
          rw [sizeUp, if_neg (by omega), if_neg (by omega)] at hu
          exact ⟨n1 / 2, (c1 + 1) / 2, R, A, HVr.out, congrArg (Value.int .i64) (w64_half n1 (by omega)), congrArg (Value.int .i64) (w64_up c1 (by omega)), rfl, ⟨by omega, by omega, by omega⟩, hl, HA.out, HP.out, HZ.out, HB.out⟩
      · have hs2 : ¬ (((sib n1 : Nat) : Int) ≥ (c1 : Int)) := by omega
        have ha := and_one n1 (by have := HR.out; omega)
        by_cases ho : n1 % 2 = 1
        · rw [ho] at ha
          go_upto_region 12 with fail
          have h := HR.out
          have hu := h.2.2
          have hl := HLd.out
          rw [leadUp, if_neg (by omega), if_neg hs, if_pos ho] at hl
          rw [sizeUp, if_neg (by omega), if_pos (by omega)] at hu
          cases R with
          | nil => rw [List.length_nil] at hu; omega
          | cons H0 R0 =>
          have hv9 := HVr.out
          rcases hv9.2 with ⟨_, h0⟩ | ⟨b, off, c8, e1, q1, q2, q3⟩
          · cases h0
          cases e1
          have h0 := q3 0 (by simp)
          rw [show off + 0 * 32 = off by omega] at h0
          have hr0 : w.rangeAt b off (bys H0) := h0
          have hH0 := hv9.1 H0 (by simp)
          have hb0 := World.block_lt_of_cell? w _ (hr0 0 _ (bys_get _ 0 (by rw [hH0.1]; omega)))
          have HH0 := Lib.hid hH0
          have HS0 := Lib.hid (And.intro (rangeAt_below hr0 HB.out hb0) HA.out.2)
          have HSh0 := Lib.hid (size_hash H0 hH0.1)
          have HShA := Lib.hid (size_hash A HA.out.1.1)
          have Hu := Lib.hid (show R0.length = sizeUp (n1 / 2) ((c1 + 1) / 2) by rw [List.length_cons] at hu; omega)
          have Hl := Lib.hid hl
          have HQ := Lib.hid (And.intro hr0 hb0)
          have HV0 := Lib.hid (hs_tail hv9)
          have HC := Lib.hid q1
          clear h hu hl hv9 h0 hr0 hH0 hb0 q3 hx ha hs hs2 hlt
          refine wp_region_U (fun w' => w'.rangeAt b off (bys H0) ∧ Arr w' g8 23 (bys A)) 7 (by kernel_rfl) ?_
          simp only [List.size_toArray, List.length_cons, List.length_nil, Nat.reduceAdd, Array.replicate_succ, Array.replicate_zero, List.push_toArray, List.nil_append, List.cons_append]
          refine wpAnyU_take (i := 0) (oi := ⟨some 62, _, _, _, _, _⟩) (v := ?_) rfl (by kernel_rfl) (by kernel_rfl) (by kernel_rfl) (by kernel_rfl) (by kernel_rfl) (fun _ _ _ h => h) (Or.inl ⟨by rfl, ?_⟩) HS0.out ?_
          rotate_left
          · intro w hSw; go_simp <;> with_reducible rfl
          dsimp only [Act.put]
          simp only [List.setIfInBounds_toArray, List.set_cons_zero, List.set_cons_succ]
          refine wpAnyU_take (i := 1) (oi := ⟨some 63, _, _, _, _, _⟩) (v := ?_) rfl (by kernel_rfl) (by kernel_rfl) (by kernel_rfl) (by kernel_rfl) (by kernel_rfl) (fun _ _ _ h => h) (Or.inl ⟨by rfl, ?_⟩) HS0.out ?_
          rotate_left
          · intro w hSw; go_simp <;> with_reducible rfl
          dsimp only [Act.put]
          simp only [List.setIfInBounds_toArray, List.set_cons_zero, List.set_cons_succ]
          refine wpAnyU_take (i := 2) (oi := ⟨some 64, _, _, _, _, _⟩) rfl (by kernel_rfl) (by kernel_rfl) (by kernel_rfl) (by kernel_rfl) (by kernel_rfl) (fun _ _ _ h => h) (yieldsIf_load_mid (by rfl) 23 (.tmp 63) rfl b off rfl (bys H0) _ (fun w h => h.1) Tryz.underlying23 rfl HSh0.out) HS0.out ?_
          dsimp only [Act.put]
          simp only [List.setIfInBounds_toArray, List.set_cons_zero, List.set_cons_succ]
          refine wpAnyU_take (i := 3) (oi := ⟨some 65, _, _, _, _, _⟩) rfl (by kernel_rfl) (by kernel_rfl) (by kernel_rfl) (by kernel_rfl) (by kernel_rfl) (fun _ _ _ h => h) (yieldsIf_load_mid (by rfl) 23 (.tmp 8) rfl g8 0 rfl (bys A) _ (fun w h => h.2.range) Tryz.underlying23 rfl HShA.out) HS0.out ?_
          dsimp only [Act.put]
          simp only [List.setIfInBounds_toArray, List.set_cons_zero, List.set_cons_succ]
          refine wpAnyU_take0 (i := 5) (oi := ⟨some 67, _, _, _, _, _⟩) (v := ?_) rfl (by kernel_rfl) (by kernel_rfl) (by kernel_rfl) (by decide) (fun _ _ _ h => h) (Or.inl ⟨by rfl, ?_⟩) (fun _ => HS0.out) ?_
          rotate_left
          · intro w hSw; go_simp <;> with_reducible rfl
          dsimp only [Act.put]
          simp only [List.setIfInBounds_toArray, List.set_cons_zero, List.set_cons_succ]
          have hcap : R0.length + 1 ≤ c9 := HC.out
          refine wpAnyU_take0 (i := 6) (oi := ⟨some 68, _, _, _, _, _⟩) (v := .slice (if c9 = 1 then some ⟨b, off, none⟩ else some ⟨b, off + 32, none⟩) R0.length (c9 - 1)) rfl (by kernel_rfl) (by kernel_rfl) (by kernel_rfl) (by decide) (fun _ _ _ h => h) (Or.inl ⟨by rfl, ?_⟩) (fun _ => HS0.out) ?_
          · intro w hSw
            have hif : (1 : Int) ≤ (R0.length : Int) + 1 := by omega
            go_simp <;> with_reducible rfl
          obtain ⟨V9, hV9⟩ : ∃ V9, V9 = Value.slice (if c9 = 1 then some ⟨b, off, none⟩ else some ⟨b, off + 32, none⟩) R0.length (c9 - 1) := ⟨_, rfl⟩
          rw [← hV9]
          rw [← hV9] at HV0
          clear hV9 hcap
          dsimp only [Act.put]
          simp only [List.setIfInBounds_toArray, List.set_cons_zero, List.set_cons_succ]
          refine wpAnyU_one (i := 4) (oi := ⟨some 66, _, _, _, _, _⟩) (by kernel_rfl) rfl rfl (fun K9 hK9 => ?_)
          have HK9 := Lib.hid hK9
          clear hK9
          go_simp
          refine (knot_any H0 A HH0.out HA.out.1 _).mono ?_
          rintro e w3 ⟨rfl, hb3⟩
          dsimp only
          have hbr : Below wr.heap.size wr w3 := (Below.refl _ _).drew.trans hb3
          have HP3 := Lib.hid (HP.out.below hbr HP.out.lt)
          have HA3 := Lib.hid (HA.out.2.below hbr HA.out.2.lt)
          have HZ3 := Lib.hid (show ∃ Z : List Value, Z.length = 32 ∧ Arr w3 (w.heap.size + 1 + 1) 23 Z by
            obtain ⟨Z, h1, h2⟩ := HZ.out
            exact ⟨Z, h1, h2.below hbr h2.lt⟩)
          have HB3 := Lib.hid (HB.out.trans (hbr.mono HB.out.size))
          have HS3 := Lib.hid (And.intro (rangeAt_below HQ.out.1 HB3.out HQ.out.2) HA3.out)
          have hl := Hl.out
          rw [show List.headD (H0 :: R0) [] = H0 from rfl, show List.tail (H0 :: R0) = R0 from rfl] at hl
          obtain ⟨A2, hA2⟩ : ∃ A2, A2 = knotF H0 A := ⟨_, rfl⟩
          rw [← hA2] at hl ⊢
          have Hl2 := Lib.hid hl
          have HA2h := Lib.hid (show IsH A2 by rw [hA2]; exact tagF_h _ _)
          have HSl2 := Lib.hid (show (Tryz.prog.info? 23).map (·.size) = some (bys A2).toArray.size by rw [List.size_toArray]; exact size_hash A2 HA2h.out.1)
          have O2 := Lib.hid (all_oneCell_toArray (bys_one A2))
          have HT2 := Lib.hid (HA3.out.there (bys A2).toArray.size (by simp [bys_len, HA2h.out.1, HA.out.1.1]))
          have HA9 := Lib.hid (HA3.out.setAll (bys A2) (by simp [bys_len, HA2h.out.1, HA.out.1.1]))
          have hbs := below_sets g8 (Nat.le_refl _) (bys A2) 0 (Below.refl g8 w3)
          have HP9 := Lib.hid (HP3.out.below hbs (by have := HG.out; omega))
          have HZ9 := Lib.hid (show ∃ Z : List Value, Z.length = 32 ∧ Arr (w3.setCells g8 0 (bys A2)) (w.heap.size + 1 + 1) 23 Z by
            obtain ⟨Z, h1, h2⟩ := HZ3.out
            exact ⟨Z, h1, h2.below hbs HG.out⟩)
          have HB9 := Lib.hid (below_sets g8 (by have := HG.out; omega) (bys A2) 0 HB3.out)
          clear hbr hb3 hA2 hl hbs HP HA HZ HB HS0 HQ
          refine HK9.out _ _ (fun _ _ => HS3.out) ?_
          clear HK9
          simp only [List.setIfInBounds_toArray, List.set_cons_zero, List.set_cons_succ]
          refine wpAnyU_one (i := 7) (oi := ⟨none, _, _, _, _, _⟩) (by kernel_rfl) rfl rfl (fun K9 hK9 => ?_)
          have HK9 := Lib.hid hK9
          clear hK9
          refine wp_store_mid (P := Tryz.prog) 23 (.tmp 8) (.tmp 66) rfl g8 0 (bys A2).toArray rfl rfl HT2.out HSl2.out O2.out ?_
          rw [show (bys A2).toArray.toList = bys A2 from rfl]
          generalize World.setCells _ _ _ _ = w9 at *
          refine HK9.out _ _ (fun h => absurd rfl h) ?_
          clear HK9
          dsimp only [Act.put]
          simp only [List.setIfInBounds_toArray, List.set_cons_zero, List.set_cons_succ]
          refine wpAnyU_one (i := 8) (oi := ⟨some 9, _, _, _, _, _⟩) (by kernel_rfl) rfl rfl (fun K9 hK9 => ?_)
          have HK9 := Lib.hid hK9
          clear hK9
          go_simp
          refine HK9.out _ _ (fun _ h => absurd h (by decide)) ?_
          clear HK9
          refine wpAnyU_done (by kernel_rfl) ?_ _
          go_wp2
          go_roundg ((c1 + 1) / 2)
          case measure => omega
          case rel =>
            have h := HR.out
            exact ⟨n1 / 2, (c1 + 1) / 2, R0, A2, HV0.out, congrArg (Value.int .i64) (w64_half n1 (by omega)), congrArg (Value.int .i64) (w64_up c1 (by omega)), rfl, ⟨by omega, by omega, Hu.out⟩, Hl2.out, ⟨HA2h.out, HA9.out⟩, HP9.out, HZ9.out, HB9.out⟩
        · rw [show n1 % 2 = 0 by omega] at ha
          go_upto_region 8 with fail
          have h := HR.out
          have hu := h.2.2
          have hl := HLd.out
          rw [leadUp, if_neg (by omega), if_neg hs, if_neg ho] at hl
          rw [sizeUp, if_neg (by omega), if_pos (by omega)] at hu
          cases R with
          | nil => rw [List.length_nil] at hu; omega
          | cons H0 R0 =>
          have hv9 := HVr.out
          rcases hv9.2 with ⟨_, h0⟩ | ⟨b, off, c8, e1, q1, q2, q3⟩
          · cases h0
          cases e1
          have h0 := q3 0 (by simp)
          rw [show off + 0 * 32 = off by omega] at h0
          have hr0 : w.rangeAt b off (bys H0) := h0
          have hH0 := hv9.1 H0 (by simp)
          have hb0 := World.block_lt_of_cell? w _ (hr0 0 _ (bys_get _ 0 (by rw [hH0.1]; omega)))
          have HH0 := Lib.hid hH0
          have HS0 := Lib.hid (And.intro (rangeAt_below hr0 HB.out hb0) HA.out.2)
          have HSh0 := Lib.hid (size_hash H0 hH0.1)
          have HShA := Lib.hid (size_hash A HA.out.1.1)
          have Hu := Lib.hid (show R0.length = sizeUp (n1 / 2) ((c1 + 1) / 2) by rw [List.length_cons] at hu; omega)
          have Hl := Lib.hid hl
          have HQ := Lib.hid (And.intro hr0 hb0)
          have HV0 := Lib.hid (hs_tail hv9)
          have HC := Lib.hid q1
          clear h hu hl hv9 h0 hr0 hH0 hb0 q3 hx ha hs hs2 hlt
          refine wp_region_U (fun w' => w'.rangeAt b off (bys H0) ∧ Arr w' g8 23 (bys A)) 7 (by kernel_rfl) ?_
          simp only [List.size_toArray, List.length_cons, List.length_nil, Nat.reduceAdd, Array.replicate_succ, Array.replicate_zero, List.push_toArray, List.nil_append, List.cons_append]
          refine wpAnyU_take (i := 0) (oi := ⟨some 43, _, _, _, _, _⟩) rfl (by kernel_rfl) (by kernel_rfl) (by kernel_rfl) (by kernel_rfl) (by kernel_rfl) (fun _ _ _ h => h) (yieldsIf_load_mid (by rfl) 23 (.tmp 8) rfl g8 0 rfl (bys A) _ (fun w h => h.2.range) Tryz.underlying23 rfl HShA.out) HS0.out ?_
          dsimp only [Act.put]
          simp only [List.setIfInBounds_toArray, List.set_cons_zero, List.set_cons_succ]
          refine wpAnyU_take (i := 1) (oi := ⟨some 44, _, _, _, _, _⟩) (v := ?_) rfl (by kernel_rfl) (by kernel_rfl) (by kernel_rfl) (by kernel_rfl) (by kernel_rfl) (fun _ _ _ h => h) (Or.inl ⟨by rfl, ?_⟩) HS0.out ?_
          rotate_left
          · intro w hSw; go_simp <;> with_reducible rfl
          dsimp only [Act.put]
          simp only [List.setIfInBounds_toArray, List.set_cons_zero, List.set_cons_succ]
          refine wpAnyU_take (i := 2) (oi := ⟨some 45, _, _, _, _, _⟩) (v := ?_) rfl (by kernel_rfl) (by kernel_rfl) (by kernel_rfl) (by kernel_rfl) (by kernel_rfl) (fun _ _ _ h => h) (Or.inl ⟨by rfl, ?_⟩) HS0.out ?_
          rotate_left
          · intro w hSw; go_simp <;> with_reducible rfl
          dsimp only [Act.put]
          simp only [List.setIfInBounds_toArray, List.set_cons_zero, List.set_cons_succ]
          refine wpAnyU_take (i := 3) (oi := ⟨some 46, _, _, _, _, _⟩) rfl (by kernel_rfl) (by kernel_rfl) (by kernel_rfl) (by kernel_rfl) (by kernel_rfl) (fun _ _ _ h => h) (yieldsIf_load_mid (by rfl) 23 (.tmp 45) rfl b off rfl (bys H0) _ (fun w h => h.1) Tryz.underlying23 rfl HSh0.out) HS0.out ?_
          dsimp only [Act.put]
          simp only [List.setIfInBounds_toArray, List.set_cons_zero, List.set_cons_succ]
          refine wpAnyU_take0 (i := 5) (oi := ⟨some 48, _, _, _, _, _⟩) (v := ?_) rfl (by kernel_rfl) (by kernel_rfl) (by kernel_rfl) (by decide) (fun _ _ _ h => h) (Or.inl ⟨by rfl, ?_⟩) (fun _ => HS0.out) ?_
          rotate_left
          · intro w hSw; go_simp <;> with_reducible rfl
          dsimp only [Act.put]
          simp only [List.setIfInBounds_toArray, List.set_cons_zero, List.set_cons_succ]
          have hcap : R0.length + 1 ≤ c9 := HC.out
          refine wpAnyU_take0 (i := 6) (oi := ⟨some 49, _, _, _, _, _⟩) (v := .slice (if c9 = 1 then some ⟨b, off, none⟩ else some ⟨b, off + 32, none⟩) R0.length (c9 - 1)) rfl (by kernel_rfl) (by kernel_rfl) (by kernel_rfl) (by decide) (fun _ _ _ h => h) (Or.inl ⟨by rfl, ?_⟩) (fun _ => HS0.out) ?_
          · intro w hSw
            have hif : (1 : Int) ≤ (R0.length : Int) + 1 := by omega
            go_simp <;> with_reducible rfl
          obtain ⟨V9, hV9⟩ : ∃ V9, V9 = Value.slice (if c9 = 1 then some ⟨b, off, none⟩ else some ⟨b, off + 32, none⟩) R0.length (c9 - 1) := ⟨_, rfl⟩
          rw [← hV9]
          rw [← hV9] at HV0
          clear hV9 hcap
          dsimp only [Act.put]
          simp only [List.setIfInBounds_toArray, List.set_cons_zero, List.set_cons_succ]
          refine wpAnyU_one (i := 4) (oi := ⟨some 47, _, _, _, _, _⟩) (by kernel_rfl) rfl rfl (fun K9 hK9 => ?_)
          have HK9 := Lib.hid hK9
          clear hK9
          go_simp
          refine (knot_any A H0 HA.out.1 HH0.out _).mono ?_
          rintro e w3 ⟨rfl, hb3⟩
          dsimp only
          have hbr : Below wr.heap.size wr w3 := (Below.refl _ _).drew.trans hb3
          have HP3 := Lib.hid (HP.out.below hbr HP.out.lt)
          have HA3 := Lib.hid (HA.out.2.below hbr HA.out.2.lt)
          have HZ3 := Lib.hid (show ∃ Z : List Value, Z.length = 32 ∧ Arr w3 (w.heap.size + 1 + 1) 23 Z by
            obtain ⟨Z, h1, h2⟩ := HZ.out
            exact ⟨Z, h1, h2.below hbr h2.lt⟩)
          have HB3 := Lib.hid (HB.out.trans (hbr.mono HB.out.size))
          have HS3 := Lib.hid (And.intro (rangeAt_below HQ.out.1 HB3.out HQ.out.2) HA3.out)
          have hl := Hl.out
          rw [show List.headD (H0 :: R0) [] = H0 from rfl, show List.tail (H0 :: R0) = R0 from rfl] at hl
          obtain ⟨A2, hA2⟩ : ∃ A2, A2 = knotF A H0 := ⟨_, rfl⟩
          rw [← hA2] at hl ⊢
          have Hl2 := Lib.hid hl
          have HA2h := Lib.hid (show IsH A2 by rw [hA2]; exact tagF_h _ _)
          have HSl2 := Lib.hid (show (Tryz.prog.info? 23).map (·.size) = some (bys A2).toArray.size by rw [List.size_toArray]; exact size_hash A2 HA2h.out.1)
          have O2 := Lib.hid (all_oneCell_toArray (bys_one A2))
          have HT2 := Lib.hid (HA3.out.there (bys A2).toArray.size (by simp [bys_len, HA2h.out.1, HA.out.1.1]))
          have HA9 := Lib.hid (HA3.out.setAll (bys A2) (by simp [bys_len, HA2h.out.1, HA.out.1.1]))
          have hbs := below_sets g8 (Nat.le_refl _) (bys A2) 0 (Below.refl g8 w3)
          have HP9 := Lib.hid (HP3.out.below hbs (by have := HG.out; omega))
          have HZ9 := Lib.hid (show ∃ Z : List Value, Z.length = 32 ∧ Arr (w3.setCells g8 0 (bys A2)) (w.heap.size + 1 + 1) 23 Z by
            obtain ⟨Z, h1, h2⟩ := HZ3.out
            exact ⟨Z, h1, h2.below hbs HG.out⟩)
          have HB9 := Lib.hid (below_sets g8 (by have := HG.out; omega) (bys A2) 0 HB3.out)
          clear hbr hb3 hA2 hl hbs HP HA HZ HB HS0 HQ
          refine HK9.out _ _ (fun _ _ => HS3.out) ?_
          clear HK9
          simp only [List.setIfInBounds_toArray, List.set_cons_zero, List.set_cons_succ]
          refine wpAnyU_one (i := 7) (oi := ⟨none, _, _, _, _, _⟩) (by kernel_rfl) rfl rfl (fun K9 hK9 => ?_)
          have HK9 := Lib.hid hK9
          clear hK9
          refine wp_store_mid (P := Tryz.prog) 23 (.tmp 8) (.tmp 47) rfl g8 0 (bys A2).toArray rfl rfl HT2.out HSl2.out O2.out ?_
          rw [show (bys A2).toArray.toList = bys A2 from rfl]
          generalize World.setCells _ _ _ _ = w9 at *
          refine HK9.out _ _ (fun h => absurd rfl h) ?_
          clear HK9
          dsimp only [Act.put]
          simp only [List.setIfInBounds_toArray, List.set_cons_zero, List.set_cons_succ]
          refine wpAnyU_one (i := 8) (oi := ⟨some 9, _, _, _, _, _⟩) (by kernel_rfl) rfl rfl (fun K9 hK9 => ?_)
          have HK9 := Lib.hid hK9
          clear hK9
          go_simp
          refine HK9.out _ _ (fun _ h => absurd h (by decide)) ?_
          clear HK9
          refine wpAnyU_done (by kernel_rfl) ?_ _
          go_wp2
          go_roundg ((c1 + 1) / 2)
          case measure => omega
          case rel =>
            have h := HR.out
            exact ⟨n1 / 2, (c1 + 1) / 2, R0, A2, HV0.out, congrArg (Value.int .i64) (w64_half n1 (by omega)), congrArg (Value.int .i64) (w64_up c1 (by omega)), rfl, ⟨by omega, by omega, Hu.out⟩, Hl2.out, ⟨HA2h.out, HA9.out⟩, HP9.out, HZ9.out, HB9.out⟩
end Go.Proofs.YtndhmpeabfmfgaaGreatDoor
/- merkle.Lead of what is no path; merkle.Check. -/
namespace Go.Proofs.YtndhmpeabfmfgaaGreatDoor
open Go.RowKit Go.Lib
set_option linter.unusedVariables false
set_option linter.unusedSimpArgs false
attribute [local go_sem ↓] Go.wp_at_zero Go.wp_at_succ

def zeroH : List Nat := List.replicate 32 0
theorem bys_zeroH : bys zeroH = List.replicate 32 (.int .u8 0) := rfl

set_option maxRecDepth 100000 in
set_option maxHeartbeats 1600000 in
theorem lead_bad (I : List Nat) (n c : Int) (v : Value) (Hs : List (List Nat)) (w : World) (hN : n < 0 ∨ c ≤ n ∨ 1048576 < c) (hv : HsIs w v Hs) :
    Calls Tryz.prog 64 #[.agg (bys I).toArray, .agg #[.int .i64 n, .int .i64 c, v]] w fun e w' => e = .returned (.tuple #[.agg (bys zeroH).toArray, .int .i64 21]) ∧ Below w.heap.size w w' := by
  have hz := zero32
  obtain ⟨a0, c0, rfl⟩ := hv.form
  have HV := Lib.hid hv
  have HN := Lib.hid hN
  clear hv hN
  go_enter Tryz.func64, Tryz.ntmps64
  go_upto_region 1 with fail
  have hpk := three_laid w (bys I) [.int .i64 n, .int .i64 c, .slice a0 Hs.length c0] (List.replicate 32 (.int .u8 0)) 23 29 23 _ rfl
  simp only [List.reduceReplicate] at hpk
  have HA1 := Lib.hid hpk.1
  have HA2 := Lib.hid hpk.2.1
  have HA3 := Lib.hid (show ∃ Z : List Value, Z.length = 32 ∧ Arr _ (w.heap.size + 1 + 1) 23 Z from ⟨_, rfl, hpk.2.2.1⟩)
  have HB1 := Lib.hid hpk.2.2.2
  clear hpk hz
  generalize World.alloc (World.alloc (World.alloc _ _) _) _ = w1 at *
  have hc0 := HA2.out.cell 0
  have hc1 := HA2.out.cell 1
  have hc2 := HA2.out.cell 2
  dsimp only [List.getElem?_cons_zero, List.getElem?_cons_succ] at hc0 hc1 hc2
  go_wp2
  go_step3
  go_wp2_with fail
  refine (size_bad n c _ HN.out).mono ?_
  rintro e w2 ⟨rfl, hb2⟩
  dsimp only
  clear hc0 hc1 hc2
  have hA2 := HA2.out.below hb2 HA2.out.lt
  have hc2 := hA2.cell 2
  dsimp only [List.getElem?_cons_zero, List.getElem?_cons_succ] at hc2
  obtain ⟨Zs, hZl, hZa⟩ := HA3.out
  have HA32 := Lib.hid (hZa.below hb2 hZa.lt)
  have HZl := Lib.hid hZl
  have HB2 := Lib.hid (HB1.out.trans (hb2.mono HB1.out.size))
  clear hb2 hZl hZa hA2
  go_upto_region 3 with fail
  have hz := zero32
  have hs9 : (Tryz.prog.info? 23).map (·.size) = some (bys zeroH).toArray.size := by rw [List.size_toArray]; exact size_hash zeroH rfl
  have O9 := all_oneCell_toArray (bys_one zeroH)
  go_step
  iterate 3 (first | go_values | go_skip | go_guarded | go_step | go_upon)
  refine wpList_store_mid (P := Tryz.prog) rfl 23 _ _ rfl (w.heap.size + 1 + 1) 0 (bys zeroH).toArray rfl rfl (HA32.out.there _ (by simp [bys_len, HZl.out, zeroH])) hs9 O9 ?_
  rw [show (bys zeroH).toArray.toList = bys zeroH from rfl]
  have HA5 := Lib.hid (HA32.out.setAll (bys zeroH) (by simp [bys_len, HZl.out, zeroH]))
  have HB5 := Lib.hid (below_sets (w.heap.size + 1 + 1) (by omega) (bys zeroH) 0 HB2.out)
  generalize World.setCells _ _ _ _ = w9 at *
  have HS9 := Lib.hid hs9
  clear hs9 hz O9
  go_wp2
  try rw [Exit.noGoto_ret]
  refine bodyPost_ret (results_cell_row_tmp (P := Tryz.prog) rfl _ _ (w.heap.size + 1 + 1) 23 _ (0, 0) _ rfl HA5.out Tryz.underlying23 rfl HS9.out) rfl ?_
  exact ⟨rfl, HB5.out⟩

set_option maxRecDepth 100000 in
set_option maxHeartbeats 1600000 in
theorem lead_size (I : List Nat) (n c : Nat) (v : Value) (Hs : List (List Nat)) (w : World) (hN : n < c ∧ c ≤ 1048576 ∧ Hs.length ≠ sizeUp n c) (hv : HsIs w v Hs) :
    Calls Tryz.prog 64 #[.agg (bys I).toArray, .agg #[.int .i64 (n : Int), .int .i64 (c : Int), v]] w fun e w' => e = .returned (.tuple #[.agg (bys zeroH).toArray, .int .i64 21]) ∧ Below w.heap.size w w' := by
  have hz := zero32
  obtain ⟨a0, c0, rfl⟩ := hv.form
  have HV := Lib.hid hv
  have HN := Lib.hid hN
  clear hv hN
  go_enter Tryz.func64, Tryz.ntmps64
  go_upto_region 1 with fail
  have hpk := three_laid w (bys I) [.int .i64 (n : Int), .int .i64 (c : Int), .slice a0 Hs.length c0] (List.replicate 32 (.int .u8 0)) 23 29 23 _ rfl
  simp only [List.reduceReplicate] at hpk
  have HA1 := Lib.hid hpk.1
  have HA2 := Lib.hid hpk.2.1
  have HA3 := Lib.hid (show ∃ Z : List Value, Z.length = 32 ∧ Arr _ (w.heap.size + 1 + 1) 23 Z from ⟨_, rfl, hpk.2.2.1⟩)
  have HB1 := Lib.hid hpk.2.2.2
  clear hpk hz
  generalize World.alloc (World.alloc (World.alloc _ _) _) _ = w1 at *
  have hc0 := HA2.out.cell 0
  have hc1 := HA2.out.cell 1
  have hc2 := HA2.out.cell 2
  dsimp only [List.getElem?_cons_zero, List.getElem?_cons_succ] at hc0 hc1 hc2
  go_wp2
  go_step3
  go_wp2_with fail
  refine (size_ok n c _ HN.out.1 HN.out.2.1).mono ?_
  rintro e w2 ⟨rfl, hb2⟩
  dsimp only
  clear hc0 hc1 hc2
  have hA2 := HA2.out.below hb2 HA2.out.lt
  have hc2 := hA2.cell 2
  dsimp only [List.getElem?_cons_zero, List.getElem?_cons_succ] at hc2
  obtain ⟨Zs, hZl, hZa⟩ := HA3.out
  have HA32 := Lib.hid (hZa.below hb2 hZa.lt)
  have HZl := Lib.hid hZl
  have HB2 := Lib.hid (HB1.out.trans (hb2.mono HB1.out.size))
  clear hb2 hZl hZa hA2
  have hne : ((Hs.length : Int) ≠ ((sizeUp n c : Nat) : Int)) := by have := HN.out.2.2; omega
  go_upto_region 3 with fail
  have hz := zero32
  have hs9 : (Tryz.prog.info? 23).map (·.size) = some (bys zeroH).toArray.size := by rw [List.size_toArray]; exact size_hash zeroH rfl
  have O9 := all_oneCell_toArray (bys_one zeroH)
  go_step
  iterate 3 (first | go_values | go_skip | go_guarded | go_step | go_upon)
  refine wpList_store_mid (P := Tryz.prog) rfl 23 _ _ rfl (w.heap.size + 1 + 1) 0 (bys zeroH).toArray rfl rfl (HA32.out.there _ (by simp [bys_len, HZl.out, zeroH])) hs9 O9 ?_
  rw [show (bys zeroH).toArray.toList = bys zeroH from rfl]
  have HA5 := Lib.hid (HA32.out.setAll (bys zeroH) (by simp [bys_len, HZl.out, zeroH]))
  have HB5 := Lib.hid (below_sets (w.heap.size + 1 + 1) (by omega) (bys zeroH) 0 HB2.out)
  generalize World.setCells _ _ _ _ = w9 at *
  have HS9 := Lib.hid hs9
  clear hs9 hz O9
  go_wp2
  try rw [Exit.noGoto_ret]
  refine bodyPost_ret (results_cell_row_tmp (P := Tryz.prog) rfl _ _ (w.heap.size + 1 + 1) 23 _ (0, 0) _ rfl HA5.out Tryz.underlying23 rfl HS9.out) rfl ?_
  exact ⟨rfl, HB5.out⟩
end Go.Proofs.YtndhmpeabfmfgaaGreatDoor
