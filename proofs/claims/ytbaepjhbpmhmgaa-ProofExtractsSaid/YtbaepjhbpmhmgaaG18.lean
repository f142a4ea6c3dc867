/- merkle.knotNode. -/
import Derived.Test.YtbaepjhbpmhmgaaG17
namespace Go.Proofs.Ytbaepjhbpmhmgaa
open Go.RowKit Go.Lib
set_option linter.unusedVariables false
set_option linter.unusedSimpArgs false
attribute [local go_sem ↓] Go.wp_at_zero Go.wp_at_succ

set_option maxRecDepth 100000 in
set_option maxHeartbeats 3200000 in
theorem knotNode_any (Ha Hb : List Nat) (ba bb : Nat) (w : World) (ha : HdAt w ba Ha) (hb : HdAt w bb Hb) :
    Calls Try.prog 59 #[.pointer (some ⟨ba, 0, none⟩), .pointer (some ⟨bb, 0, none⟩)] w fun e w' => ∃ b, e = .returned (ptr b) ∧ Nd (w.heap.size ≤ ·) w' b (knotF Ha Hb) (textF nKnot (Ha ++ Hb)) [ba, bb] ∧ Below w.heap.size w w' := by
  have HA := Lib.hid ha
  have HB := Lib.hid hb
  clear ha hb
  obtain ⟨B0, hB0⟩ : ∃ B0, B0 = w.heap.size := ⟨_, rfl⟩
  have HB0 := Lib.hid hB0
  clear hB0
  go_enter Try.func59, Try.ntmps59
  go_upto_region 1 with fail
  have HSa := Lib.hid (size_hash Ha HA.out.2.1.1)
  have HSb := Lib.hid (size_hash Hb HB.out.2.1.1)
  refine wp_region_U (fun w' => HdAt w' ba Ha ∧ HdAt w' bb Hb) 24 (by kernel_rfl) ?_
  simp only [List.size_toArray, List.length_cons, List.length_nil, Nat.reduceAdd, Array.replicate_succ, Array.replicate_zero, List.push_toArray, List.nil_append, List.cons_append]
  have HS0 := Lib.hid (show HdAt w.drew ba Ha ∧ HdAt w.drew bb Hb from ⟨HA.out, HB.out⟩)
  refine wpAnyU_take0 (i := 0) (oi := ⟨some 5, _, _, _, _, _⟩) (v := ?_) rfl (by kernel_rfl) (by kernel_rfl) (by kernel_rfl) (by decide) (fun _ _ _ h => h) (Or.inl ⟨by rfl, ?_⟩) (fun _ => HS0.out) ?_
  rotate_left
  · intro w hSw; go_simp <;> with_reducible rfl
  dsimp only [Act.put]
  simp only [List.setIfInBounds_toArray, List.set_cons_zero, List.set_cons_succ]
  refine wpAnyU_take0 (i := 1) (oi := ⟨some 6, _, _, _, _, _⟩) (v := ?_) rfl (by kernel_rfl) (by kernel_rfl) (by kernel_rfl) (by decide) (fun _ _ _ h => h) (Or.inl ⟨by rfl, ?_⟩) (fun _ => HS0.out) ?_
  rotate_left
  · intro w hSw; go_simp <;> with_reducible rfl
  dsimp only [Act.put]
  simp only [List.setIfInBounds_toArray, List.set_cons_zero, List.set_cons_succ]
  refine wpAnyU_take0 (i := 2) (oi := ⟨some 7, _, _, _, _, _⟩) (v := ?_) rfl (by kernel_rfl) (by kernel_rfl) (by kernel_rfl) (by decide) (fun _ _ _ h => h) (Or.inl ⟨by rfl, ?_⟩) (fun _ => HS0.out) ?_
  rotate_left
  · intro w hSw; go_simp <;> with_reducible rfl
  dsimp only [Act.put]
  simp only [List.setIfInBounds_toArray, List.set_cons_zero, List.set_cons_succ]
  refine wpAnyU_take (i := 3) (oi := ⟨some 8, _, _, _, _, _⟩) rfl (by kernel_rfl) (by kernel_rfl) (by kernel_rfl) (by kernel_rfl) (by kernel_rfl) (fun _ _ _ h => h) (yieldsIf_load_mid (by rfl) 24 (.tmp 7) rfl ba 0 rfl (bys Ha) _ (fun w h => h.1.1) Try.underlying24 rfl HSa.out) HS0.out ?_
  dsimp only [Act.put]
  simp only [List.setIfInBounds_toArray, List.set_cons_zero, List.set_cons_succ]
  refine wpAnyU_take0 (i := 4) (oi := ⟨some 9, _, _, _, _, _⟩) (v := ?_) rfl (by kernel_rfl) (by kernel_rfl) (by kernel_rfl) (by decide) (fun _ _ _ h => h) (Or.inl ⟨by rfl, ?_⟩) (fun _ => HS0.out) ?_
  rotate_left
  · intro w hSw; go_simp <;> with_reducible rfl
  dsimp only [Act.put]
  simp only [List.setIfInBounds_toArray, List.set_cons_zero, List.set_cons_succ]
  refine wpAnyU_take0 (i := 5) (oi := ⟨some 10, _, _, _, _, _⟩) (v := ?_) rfl (by kernel_rfl) (by kernel_rfl) (by kernel_rfl) (by decide) (fun _ _ _ h => h) (Or.inl ⟨by rfl, ?_⟩) (fun _ => HS0.out) ?_
  rotate_left
  · intro w hSw; go_simp <;> with_reducible rfl
  dsimp only [Act.put]
  simp only [List.setIfInBounds_toArray, List.set_cons_zero, List.set_cons_succ]
  refine wpAnyU_take0 (i := 6) (oi := ⟨some 11, _, _, _, _, _⟩) (v := ?_) rfl (by kernel_rfl) (by kernel_rfl) (by kernel_rfl) (by decide) (fun _ _ _ h => h) (Or.inl ⟨by rfl, ?_⟩) (fun _ => HS0.out) ?_
  rotate_left
  · intro w hSw; go_simp <;> with_reducible rfl
  dsimp only [Act.put]
  simp only [List.setIfInBounds_toArray, List.set_cons_zero, List.set_cons_succ]
  refine wpAnyU_take (i := 7) (oi := ⟨some 12, _, _, _, _, _⟩) rfl (by kernel_rfl) (by kernel_rfl) (by kernel_rfl) (by kernel_rfl) (by kernel_rfl) (fun _ _ _ h => h) (yieldsIf_load_mid (by rfl) 24 (.tmp 11) rfl bb 0 rfl (bys Hb) _ (fun w h => h.2.1) Try.underlying24 rfl HSb.out) HS0.out ?_
  dsimp only [Act.put]
  simp only [List.setIfInBounds_toArray, List.set_cons_zero, List.set_cons_succ]
  refine wpAnyU_take0 (i := 9) (oi := ⟨some 14, _, _, _, _, _⟩) (v := ?_) rfl (by kernel_rfl) (by kernel_rfl) (by kernel_rfl) (by decide) (fun _ _ _ h => h) (Or.inl ⟨by rfl, ?_⟩) (fun _ => HS0.out) ?_
  rotate_left
  · intro w hSw; go_simp <;> with_reducible rfl
  dsimp only [Act.put]
  simp only [List.setIfInBounds_toArray, List.set_cons_zero, List.set_cons_succ]
  refine wpAnyU_take0 (i := 10) (oi := ⟨some 15, _, _, _, _, _⟩) (v := ?_) rfl (by kernel_rfl) (by kernel_rfl) (by kernel_rfl) (by decide) (fun _ _ _ h => h) (Or.inl ⟨by rfl, ?_⟩) (fun _ => HS0.out) ?_
  rotate_left
  · intro w hSw; go_simp <;> with_reducible rfl
  dsimp only [Act.put]
  simp only [List.setIfInBounds_toArray, List.set_cons_zero, List.set_cons_succ]
  refine wpAnyU_take0 (i := 11) (oi := ⟨some 16, _, _, _, _, _⟩) (v := ?_) rfl (by kernel_rfl) (by kernel_rfl) (by kernel_rfl) (by decide) (fun _ _ _ h => h) (Or.inl ⟨by rfl, ?_⟩) (fun _ => HS0.out) ?_
  rotate_left
  · intro w hSw; go_simp <;> with_reducible rfl
  dsimp only [Act.put]
  simp only [List.setIfInBounds_toArray, List.set_cons_zero, List.set_cons_succ]
  refine wpAnyU_take0 (i := 12) (oi := ⟨some 17, _, _, _, _, _⟩) (v := ?_) rfl (by kernel_rfl) (by kernel_rfl) (by kernel_rfl) (by decide) (fun _ _ _ h => h) (Or.inl ⟨by rfl, ?_⟩) (fun _ => HS0.out) ?_
  rotate_left
  · intro w hSw; go_simp <;> with_reducible rfl
  dsimp only [Act.put]
  simp only [List.setIfInBounds_toArray, List.set_cons_zero, List.set_cons_succ]
  refine wpAnyU_take0 (i := 13) (oi := ⟨some 18, _, _, _, _, _⟩) (v := ?_) rfl (by kernel_rfl) (by kernel_rfl) (by kernel_rfl) (by decide) (fun _ _ _ h => h) (Or.inl ⟨by rfl, ?_⟩) (fun _ => HS0.out) ?_
  rotate_left
  · intro w hSw; go_simp <;> with_reducible rfl
  dsimp only [Act.put]
  simp only [List.setIfInBounds_toArray, List.set_cons_zero, List.set_cons_succ]
  refine wpAnyU_take0 (i := 14) (oi := ⟨some 19, _, _, _, _, _⟩) (v := ?_) rfl (by kernel_rfl) (by kernel_rfl) (by kernel_rfl) (by decide) (fun _ _ _ h => h) (Or.inl ⟨by rfl, ?_⟩) (fun _ => HS0.out) ?_
  rotate_left
  · intro w hSw; go_simp <;> with_reducible rfl
  dsimp only [Act.put]
  simp only [List.setIfInBounds_toArray, List.set_cons_zero, List.set_cons_succ]
  refine wpAnyU_take0 (i := 15) (oi := ⟨some 20, _, _, _, _, _⟩) (v := ?_) rfl (by kernel_rfl) (by kernel_rfl) (by kernel_rfl) (by decide) (fun _ _ _ h => h) (Or.inl ⟨by rfl, ?_⟩) (fun _ => HS0.out) ?_
  rotate_left
  · intro w hSw; go_simp <;> with_reducible rfl
  dsimp only [Act.put]
  simp only [List.setIfInBounds_toArray, List.set_cons_zero, List.set_cons_succ]
  refine wpAnyU_take0 (i := 16) (oi := ⟨some 21, _, _, _, _, _⟩) (v := ?_) rfl (by kernel_rfl) (by kernel_rfl) (by kernel_rfl) (by decide) (fun _ _ _ h => h) (Or.inl ⟨by rfl, ?_⟩) (fun _ => HS0.out) ?_
  rotate_left
  · intro w hSw; go_simp <;> with_reducible rfl
  dsimp only [Act.put]
  simp only [List.setIfInBounds_toArray, List.set_cons_zero, List.set_cons_succ]
  refine wpAnyU_take0 (i := 19) (oi := ⟨some 24, _, _, _, _, _⟩) (v := ?_) rfl (by kernel_rfl) (by kernel_rfl) (by kernel_rfl) (by decide) (fun _ _ _ h => h) (Or.inl ⟨by rfl, ?_⟩) (fun _ => HS0.out) ?_
  rotate_left
  · intro w hSw; go_simp <;> with_reducible rfl
  dsimp only [Act.put]
  simp only [List.setIfInBounds_toArray, List.set_cons_zero, List.set_cons_succ]
  refine wpAnyU_take0 (i := 20) (oi := ⟨some 25, _, _, _, _, _⟩) (v := ?_) rfl (by kernel_rfl) (by kernel_rfl) (by kernel_rfl) (by decide) (fun _ _ _ h => h) (Or.inl ⟨by rfl, ?_⟩) (fun _ => HS0.out) ?_
  rotate_left
  · intro w hSw; go_simp <;> with_reducible rfl
  dsimp only [Act.put]
  simp only [List.setIfInBounds_toArray, List.set_cons_zero, List.set_cons_succ]
  refine wpAnyU_facts [(8, some 13), (17, some 22), (18, some 23), (21, some 26), (22, some 27), (23, some 28), (24, some 4)] (fun i v w => match i with
    | 8 => v = .agg (bys (knotF Ha Hb)).toArray
    | 17 => PartsIs w v [Ha, Hb]
    | 18 => Byts w v (textF nKnot (Ha ++ Hb)) ∧ Blk (B0 ≤ ·) w v
    | 21 => PtrsAt w v [ba, bb] ∧ Blk (B0 ≤ ·) w v
    | 22 => ∃ bv kv, v = .agg (bys (knotF Ha Hb) ++ [bv, kv]).toArray ∧ Byts w bv (textF nKnot (Ha ++ Hb)) ∧ Blk (B0 ≤ ·) w bv ∧ Blk (B0 ≤ ·) w kv ∧ PtrsAt w kv [ba, bb]
    | _ => ∃ b, v = ptr b ∧ Nd (B0 ≤ ·) w b (knotF Ha Hb) (textF nKnot (Ha ++ Hb)) [ba, bb]) ?_ ?_ (by kernel_rfl) (by decide) (by kernel_rfl) ?_ ?_
  · intro i v w w' h hb
    match i, h with
    | 0, ⟨b, e, h⟩ => exact ⟨b, e, h.below hb⟩
    | 1, ⟨b, e, h⟩ => exact ⟨b, e, h.below hb⟩
    | 2, ⟨b, e, h⟩ => exact ⟨b, e, h.below hb⟩
    | 3, ⟨b, e, h⟩ => exact ⟨b, e, h.below hb⟩
    | 4, ⟨b, e, h⟩ => exact ⟨b, e, h.below hb⟩
    | 5, ⟨b, e, h⟩ => exact ⟨b, e, h.below hb⟩
    | 6, ⟨b, e, h⟩ => exact ⟨b, e, h.below hb⟩
    | 7, ⟨b, e, h⟩ => exact ⟨b, e, h.below hb⟩
    | 8, h => exact h
    | 9, ⟨b, e, h⟩ => exact ⟨b, e, h.below hb⟩
    | 10, ⟨b, e, h⟩ => exact ⟨b, e, h.below hb⟩
    | 11, ⟨b, e, h⟩ => exact ⟨b, e, h.below hb⟩
    | 12, ⟨b, e, h⟩ => exact ⟨b, e, h.below hb⟩
    | 13, ⟨b, e, h⟩ => exact ⟨b, e, h.below hb⟩
    | 14, ⟨b, e, h⟩ => exact ⟨b, e, h.below hb⟩
    | 15, ⟨b, e, h⟩ => exact ⟨b, e, h.below hb⟩
    | 16, ⟨b, e, h⟩ => exact ⟨b, e, h.below hb⟩
    | 17, h => exact PartsIs.below h hb
    | 18, ⟨h, h2⟩ => exact ⟨Byts.below h hb, Blk.below h2 hb⟩
    | 19, ⟨b, e, h⟩ => exact ⟨b, e, h.below hb⟩
    | 20, ⟨b, e, h⟩ => exact ⟨b, e, h.below hb⟩
    | 21, ⟨h, h2⟩ => exact ⟨PtrsAt.below h hb, Blk.below h2 hb⟩
    | 22, ⟨b, k, e, h1, h2, h3, h4⟩ => exact ⟨b, k, e, h1.below hb, h2.below hb, h3.below hb, h4.below hb⟩
    | _ + 23, ⟨b, e, h⟩ => exact ⟨b, e, h.below hb⟩
  · exact fun w' hb => ⟨HS0.out.1.below hb, HS0.out.2.below hb⟩
  refine List.forall_mem_cons.2 ⟨?_, List.forall_mem_cons.2 ⟨?_, List.forall_mem_cons.2 ⟨?_, List.forall_mem_cons.2 ⟨?_, List.forall_mem_cons.2 ⟨?_, List.forall_mem_cons.2 ⟨?_, List.forall_mem_cons.2 ⟨?_, fun p hp => absurd hp List.not_mem_nil⟩⟩⟩⟩⟩⟩⟩
  · refine stepF_of (oi := ⟨some 13, _, _, _, _, _⟩) rfl rfl ?_
    intro X w5 hB5 hd K hK
    have hs5 : B0 ≤ w5.heap.size := by rw [HB0.out]; exact hB5.size
    simp only [putsA, putsT_some, putsT_nil, Act.put, List.setIfInBounds_toArray, List.set_cons_zero, List.set_cons_succ] at hK ⊢
    have HK := Lib.hid hK
    clear hK hd
    go_simp
    refine (knot_any Ha Hb HA.out.2.1 HB.out.2.1 _).mono ?_
    rintro e w6 ⟨rfl, hb6⟩
    dsimp only
    exact HK.out _ _ rfl hb6
  · refine stepF_of (oi := ⟨some 22, _, _, _, _, _⟩) rfl rfl ?_
    intro X w5 hB5 hd K hK
    have hs5 : B0 ≤ w5.heap.size := by rw [HB0.out]; exact hB5.size
    simp only [putsA, putsT_some, putsT_nil, Act.put, List.setIfInBounds_toArray, List.set_cons_zero, List.set_cons_succ] at hK ⊢
    have HK := Lib.hid hK
    clear hK hd
    have HA5 := Lib.hid ((HS0.out.1.below hB5).slice)
    have HA6 := Lib.hid ((HS0.out.2.below hB5).slice)
    have HP5 := Lib.hid (parts2 34 HA5.out.1 HA5.out.2 HA6.out.1 HA6.out.2)
    have HBa := Lib.hid (show Below w5.heap.size w5 (w5.alloc (.cells #[.slice (some ⟨ba, 0, none⟩) 32 32, .slice (some ⟨bb, 0, none⟩) 32 32] 34)) from (Below.refl _ _).alloc (Nat.le_refl _) _)
    go_simp
    exact HK.out _ _ HP5.out HBa.out
  · refine stepF_of (oi := ⟨some 23, _, _, _, _, _⟩) rfl rfl ?_
    intro X w5 hB5 hd K hK
    have hs5 : B0 ≤ w5.heap.size := by rw [HB0.out]; exact hB5.size
    have hp : PartsIs w5 (X 17) [Ha, Hb] := hd (17, some 22) (by decide) (by kernel_rfl)
    have HP := Lib.hid hp
    clear hp
    simp only [putsA, putsT_some, putsT_nil, Act.put, List.setIfInBounds_toArray, List.set_cons_zero, List.set_cons_succ] at hK ⊢
    have HK := Lib.hid hK
    clear hK hd
    go_simp
    refine (text_any ⟨#[107, 110, 111, 116]⟩ _ [Ha, Hb] _ (by decide) (by simp [HA.out.2.1.1, HB.out.2.1.1]) HP.out).mono ?_
    rintro e w6 ⟨v6, rfl, hy, hlo, hhi, hb6⟩
    rw [textK] at hy
    dsimp only
    exact HK.out _ _ ⟨hy, Blk.of (hhi.mono hs5) hlo⟩ hb6
  · refine stepF_of (oi := ⟨some 26, _, _, _, _, _⟩) rfl rfl ?_
    intro X w5 hB5 hd K hK
    have hs5 : B0 ≤ w5.heap.size := by rw [HB0.out]; exact hB5.size
    simp only [putsA, putsT_some, putsT_nil, Act.put, List.setIfInBounds_toArray, List.set_cons_zero, List.set_cons_succ] at hK ⊢
    have HK := Lib.hid hK
    clear hK hd
    have HP5 := Lib.hid (PtrsAt.made w5 [ba, bb] 77 (by unfold maxLen; simp))
    have HBa := Lib.hid (show Below w5.heap.size w5 (w5.alloc (.cells #[.pointer (some ⟨ba, 0, none⟩), .pointer (some ⟨bb, 0, none⟩)] 77)) from (Below.refl _ _).alloc (Nat.le_refl _) _)
    go_simp
    exact HK.out _ _ ⟨HP5.out, fun a n k e => by cases e; exact ⟨hs5, by simp⟩⟩ HBa.out
  · refine stepF_of (oi := ⟨some 27, _, _, _, _, _⟩) rfl rfl ?_
    intro X w5 hB5 hd K hK
    have hs5 : B0 ≤ w5.heap.size := by rw [HB0.out]; exact hB5.size
    have hh : X 8 = .agg (bys (knotF Ha Hb)).toArray := hd (8, some 13) (by decide) (by kernel_rfl)
    obtain ⟨hy, hyb⟩ : Byts w5 (X 18) (textF nKnot (Ha ++ Hb)) ∧ Blk (B0 ≤ ·) w5 (X 18) := hd (18, some 23) (by decide) (by kernel_rfl)
    obtain ⟨hk, hkb⟩ : PtrsAt w5 (X 21) [ba, bb] ∧ Blk (B0 ≤ ·) w5 (X 21) := hd (21, some 26) (by decide) (by kernel_rfl)
    obtain ⟨a9, c9, h9⟩ := hy.form
    obtain ⟨a8, c8, h8⟩ := hk.form
    have HY := Lib.hid hy
    have HKi := Lib.hid hk
    have HYb := Lib.hid hyb
    have HKb := Lib.hid hkb
    have H9 := Lib.hid h9
    have H8 := Lib.hid h8
    have HH := Lib.hid hh
    clear hy hyb hkb h9 hh hk h8
    simp only [putsA, putsT_some, putsT_nil, Act.put, List.setIfInBounds_toArray, List.set_cons_zero, List.set_cons_succ] at hK ⊢
    have HK := Lib.hid hK
    clear hK hd
    refine wp_build_run 80 _ rfl #[(0, X 8), (1, X 18), (2, X 21)] (by simp only [List.map_toArray, List.map_cons, List.map_nil]; rfl) _ ?_ (HK.out _ _ ⟨X 18, X 21, rfl, HY.out, HYb.out, HKb.out, HKi.out⟩ (Below.refl _ _))
    have := node_build3 (knotF Ha Hb) (tagF_h _ _).1 a9 a8 (textF nKnot (Ha ++ Hb)).length c9 2 c8 w5
    rw [← H9.out, ← HH.out, show Value.slice a8 2 c8 = X 21 from H8.out.symm] at this
    exact this
  · refine stepF_of (oi := ⟨some 28, _, _, _, _, _⟩) rfl rfl ?_
    intro X w5 hB5 hd K hK
    have hs5 : B0 ≤ w5.heap.size := by rw [HB0.out]; exact hB5.size
    obtain ⟨bv, kv, h5, hy, hyb, hkb, hk⟩ : ∃ bv kv, X 22 = .agg (bys (knotF Ha Hb) ++ [bv, kv]).toArray ∧ Byts w5 bv (textF nKnot (Ha ++ Hb)) ∧ Blk (B0 ≤ ·) w5 bv ∧ Blk (B0 ≤ ·) w5 kv ∧ PtrsAt w5 kv [ba, bb] := hd (22, some 27) (by decide) (by kernel_rfl)
    have HN := Lib.hid (Nd.made (C := (B0 ≤ ·)) w5 (knotF Ha Hb) _ _ bv kv (tagF_h _ _) hy hk hs5 hyb hkb (by simp [textF, nKnot, HA.out.2.1.1, HB.out.2.1.1]))
    have HBa := Lib.hid (show Below w5.heap.size w5 (w5.alloc (.cells (bys (knotF Ha Hb) ++ [bv, kv]).toArray 80)) from (Below.refl _ _).alloc (Nat.le_refl _) _)
    clear hy hk hyb hkb
    simp only [putsA, putsT_some, putsT_nil, Act.put, List.setIfInBounds_toArray, List.set_cons_zero, List.set_cons_succ] at hK ⊢
    rw [h5] at hK ⊢
    clear h5
    have HK := Lib.hid hK
    clear hK hd
    go_simp
    exact HK.out _ _ ⟨_, rfl, HN.out⟩ HBa.out
  · refine stepF_of (oi := ⟨some 4, _, _, _, _, _⟩) rfl rfl ?_
    intro X w5 hB5 hd K hK
    have hs5 : B0 ≤ w5.heap.size := by rw [HB0.out]; exact hB5.size
    have h6 : ∃ b, X 23 = ptr b ∧ Nd (B0 ≤ ·) w5 b (knotF Ha Hb) (textF nKnot (Ha ++ Hb)) [ba, bb] := hd (23, some 28) (by decide) (by kernel_rfl)
    have H6 := Lib.hid h6
    clear h6
    simp only [putsA, putsT_some, putsT_nil, Act.put, List.setIfInBounds_toArray, List.set_cons_zero, List.set_cons_succ] at hK ⊢
    have HK := Lib.hid hK
    clear hK hd
    go_simp
    exact HK.out _ _ H6.out (Below.refl _ _)
  · intro X w5 hB5 hF
    obtain ⟨b, h7, hn⟩ : ∃ b, X 24 = ptr b ∧ Nd (B0 ≤ ·) w5 b (knotF Ha Hb) (textF nKnot (Ha ++ Hb)) [ba, bb] := hF (24, some 4) (by decide)
    simp only [putsA, putsT_some, putsT_nil, Act.put, List.setIfInBounds_toArray, List.set_cons_zero, List.set_cons_succ]
    rw [HB0.out] at hn
    have HN := Lib.hid hn
    have HBe := Lib.hid ((Below.refl w.heap.size w).drew.trans hB5)
    clear hF hn hB5
    go_wp2
    go_ret
    exact ⟨b, congrArg Ending.returned h7, HN.out, HBe.out⟩
end Go.Proofs.Ytbaepjhbpmhmgaa
/- merkle.topNode. -/
namespace Go.Proofs.Ytbaepjhbpmhmgaa
open Go.RowKit Go.Lib
set_option linter.unusedVariables false
set_option linter.unusedSimpArgs false
attribute [local go_sem ↓] Go.wp_at_zero Go.wp_at_succ

set_option maxRecDepth 100000 in
set_option maxHeartbeats 3200000 in
theorem topNode_any (n : Nat) (H : List Nat) (b1 : Nat) (w : World) (hn : n ≤ 1152921504606846976) (hb : HdAt w b1 H) :
    Calls Try.prog 60 #[.int .i64 n, .pointer (some ⟨b1, 0, none⟩)] w fun e w' => ∃ b, e = .returned (ptr b) ∧ Nd (w.heap.size ≤ ·) w' b (topF n H) (textF nRoot (le8 n ++ H)) [b1] ∧ Below w.heap.size w w' := by
  have HB := Lib.hid hb
  have HNn := Lib.hid hn
  clear hb hn
  obtain ⟨B0, hB0⟩ : ∃ B0, B0 = w.heap.size := ⟨_, rfl⟩
  have HB0 := Lib.hid hB0
  clear hB0
  go_enter Try.func60, Try.ntmps60
  go_upto_region 3 with fail
  refine wp_region_U (fun w' => HdAt w' b1 H) 18 (by kernel_rfl) ?_
  simp only [List.size_toArray, List.length_cons, List.length_nil, Nat.reduceAdd, Array.replicate_succ, Array.replicate_zero, List.push_toArray, List.nil_append, List.cons_append]
  have HS0 := Lib.hid (show HdAt w.drew b1 H from HB.out)
  refine wpAnyU_take0 (i := 0) (oi := ⟨some 15, _, _, _, _, _⟩) (v := ?_) rfl (by kernel_rfl) (by kernel_rfl) (by kernel_rfl) (by decide) (fun _ _ _ h => h) (Or.inl ⟨by rfl, ?_⟩) (fun _ => HS0.out) ?_
  rotate_left
  · intro w hSw; go_simp <;> with_reducible rfl
  dsimp only [Act.put]
  simp only [List.setIfInBounds_toArray, List.set_cons_zero, List.set_cons_succ]
  refine wpAnyU_take0 (i := 1) (oi := ⟨some 16, _, _, _, _, _⟩) (v := ?_) rfl (by kernel_rfl) (by kernel_rfl) (by kernel_rfl) (by decide) (fun _ _ _ h => h) (Or.inl ⟨by rfl, ?_⟩) (fun _ => HS0.out) ?_
  rotate_left
  · intro w hSw; go_simp <;> with_reducible rfl
  dsimp only [Act.put]
  simp only [List.setIfInBounds_toArray, List.set_cons_zero, List.set_cons_succ]
  refine wpAnyU_take0 (i := 2) (oi := ⟨some 17, _, _, _, _, _⟩) (v := ?_) rfl (by kernel_rfl) (by kernel_rfl) (by kernel_rfl) (by decide) (fun _ _ _ h => h) (Or.inl ⟨by rfl, ?_⟩) (fun _ => HS0.out) ?_
  rotate_left
  · intro w hSw; go_simp <;> with_reducible rfl
  dsimp only [Act.put]
  simp only [List.setIfInBounds_toArray, List.set_cons_zero, List.set_cons_succ]
  refine wpAnyU_take0 (i := 3) (oi := ⟨some 18, _, _, _, _, _⟩) (v := ?_) rfl (by kernel_rfl) (by kernel_rfl) (by kernel_rfl) (by decide) (fun _ _ _ h => h) (Or.inl ⟨by rfl, ?_⟩) (fun _ => HS0.out) ?_
  rotate_left
  · intro w hSw; go_simp <;> with_reducible rfl
  dsimp only [Act.put]
  simp only [List.setIfInBounds_toArray, List.set_cons_zero, List.set_cons_succ]
  refine wpAnyU_take0 (i := 4) (oi := ⟨some 19, _, _, _, _, _⟩) (v := ?_) rfl (by kernel_rfl) (by kernel_rfl) (by kernel_rfl) (by decide) (fun _ _ _ h => h) (Or.inl ⟨by rfl, ?_⟩) (fun _ => HS0.out) ?_
  rotate_left
  · intro w hSw; go_simp <;> with_reducible rfl
  dsimp only [Act.put]
  simp only [List.setIfInBounds_toArray, List.set_cons_zero, List.set_cons_succ]
  refine wpAnyU_take0 (i := 6) (oi := ⟨some 21, _, _, _, _, _⟩) (v := ?_) rfl (by kernel_rfl) (by kernel_rfl) (by kernel_rfl) (by decide) (fun _ _ _ h => h) (Or.inl ⟨by rfl, ?_⟩) (fun _ => HS0.out) ?_
  rotate_left
  · intro w hSw; go_simp <;> with_reducible rfl
  dsimp only [Act.put]
  simp only [List.setIfInBounds_toArray, List.set_cons_zero, List.set_cons_succ]
  refine wpAnyU_take0 (i := 8) (oi := ⟨some 23, _, _, _, _, _⟩) (v := ?_) rfl (by kernel_rfl) (by kernel_rfl) (by kernel_rfl) (by decide) (fun _ _ _ h => h) (Or.inl ⟨by rfl, ?_⟩) (fun _ => HS0.out) ?_
  rotate_left
  · intro w hSw; go_simp <;> with_reducible rfl
  dsimp only [Act.put]
  simp only [List.setIfInBounds_toArray, List.set_cons_zero, List.set_cons_succ]
  refine wpAnyU_take0 (i := 9) (oi := ⟨some 24, _, _, _, _, _⟩) (v := ?_) rfl (by kernel_rfl) (by kernel_rfl) (by kernel_rfl) (by decide) (fun _ _ _ h => h) (Or.inl ⟨by rfl, ?_⟩) (fun _ => HS0.out) ?_
  rotate_left
  · intro w hSw; go_simp <;> with_reducible rfl
  dsimp only [Act.put]
  simp only [List.setIfInBounds_toArray, List.set_cons_zero, List.set_cons_succ]
  refine wpAnyU_take0 (i := 10) (oi := ⟨some 25, _, _, _, _, _⟩) (v := ?_) rfl (by kernel_rfl) (by kernel_rfl) (by kernel_rfl) (by decide) (fun _ _ _ h => h) (Or.inl ⟨by rfl, ?_⟩) (fun _ => HS0.out) ?_
  rotate_left
  · intro w hSw; go_simp <;> with_reducible rfl
  dsimp only [Act.put]
  simp only [List.setIfInBounds_toArray, List.set_cons_zero, List.set_cons_succ]
  refine wpAnyU_take0 (i := 11) (oi := ⟨some 26, _, _, _, _, _⟩) (v := ?_) rfl (by kernel_rfl) (by kernel_rfl) (by kernel_rfl) (by decide) (fun _ _ _ h => h) (Or.inl ⟨by rfl, ?_⟩) (fun _ => HS0.out) ?_
  rotate_left
  · intro w hSw; go_simp <;> with_reducible rfl
  dsimp only [Act.put]
  simp only [List.setIfInBounds_toArray, List.set_cons_zero, List.set_cons_succ]
  refine wpAnyU_take0 (i := 14) (oi := ⟨some 29, _, _, _, _, _⟩) (v := ?_) rfl (by kernel_rfl) (by kernel_rfl) (by kernel_rfl) (by decide) (fun _ _ _ h => h) (Or.inl ⟨by rfl, ?_⟩) (fun _ => HS0.out) ?_
  rotate_left
  · intro w hSw; go_simp <;> with_reducible rfl
  dsimp only [Act.put]
  simp only [List.setIfInBounds_toArray, List.set_cons_zero, List.set_cons_succ]
  refine wpAnyU_facts [(5, some 20), (7, some 22), (12, some 27), (13, some 28), (15, some 30), (16, some 31), (17, some 32), (18, some 4)] (fun i v w => match i with
    | 5 => v = .agg (bys (topF n H)).toArray
    | 7 => Byts w v (le8 n) ∧ Low w v
    | 12 => PartsIs w v [le8 n, H]
    | 13 => Byts w v (textF nRoot (le8 n ++ H)) ∧ Blk (B0 ≤ ·) w v
    | 15 => PtrsAt w v [b1] ∧ Blk (B0 ≤ ·) w v
    | 16 => ∃ bv kv, v = .agg (bys (topF n H) ++ [bv, kv]).toArray ∧ Byts w bv (textF nRoot (le8 n ++ H)) ∧ Blk (B0 ≤ ·) w bv ∧ Blk (B0 ≤ ·) w kv ∧ PtrsAt w kv [b1]
    | _ => ∃ b, v = ptr b ∧ Nd (B0 ≤ ·) w b (topF n H) (textF nRoot (le8 n ++ H)) [b1]) ?_ ?_ (by kernel_rfl) (by decide) (by kernel_rfl) ?_ ?_
  · intro i v w w' h hb
    match i, h with
    | 0, ⟨b, e, h⟩ => exact ⟨b, e, h.below hb⟩
    | 1, ⟨b, e, h⟩ => exact ⟨b, e, h.below hb⟩
    | 2, ⟨b, e, h⟩ => exact ⟨b, e, h.below hb⟩
    | 3, ⟨b, e, h⟩ => exact ⟨b, e, h.below hb⟩
    | 4, ⟨b, e, h⟩ => exact ⟨b, e, h.below hb⟩
    | 5, h => exact h
    | 6, ⟨b, e, h⟩ => exact ⟨b, e, h.below hb⟩
    | 7, ⟨h, h2⟩ => exact ⟨Byts.below h hb, Low.below h2 hb⟩
    | 8, ⟨b, e, h⟩ => exact ⟨b, e, h.below hb⟩
    | 9, ⟨b, e, h⟩ => exact ⟨b, e, h.below hb⟩
    | 10, ⟨b, e, h⟩ => exact ⟨b, e, h.below hb⟩
    | 11, ⟨b, e, h⟩ => exact ⟨b, e, h.below hb⟩
    | 12, h => exact PartsIs.below h hb
    | 13, ⟨h, h2⟩ => exact ⟨Byts.below h hb, Blk.below h2 hb⟩
    | 14, ⟨b, e, h⟩ => exact ⟨b, e, h.below hb⟩
    | 15, ⟨h, h2⟩ => exact ⟨PtrsAt.below h hb, Blk.below h2 hb⟩
    | 16, ⟨b, k, e, h1, h2, h3, h4⟩ => exact ⟨b, k, e, h1.below hb, h2.below hb, h3.below hb, h4.below hb⟩
    | _ + 17, ⟨b, e, h⟩ => exact ⟨b, e, h.below hb⟩
  · exact fun w' hb => HS0.out.below hb
  refine List.forall_mem_cons.2 ⟨?_, List.forall_mem_cons.2 ⟨?_, List.forall_mem_cons.2 ⟨?_, List.forall_mem_cons.2 ⟨?_, List.forall_mem_cons.2 ⟨?_, List.forall_mem_cons.2 ⟨?_, List.forall_mem_cons.2 ⟨?_, List.forall_mem_cons.2 ⟨?_, fun p hp => absurd hp List.not_mem_nil⟩⟩⟩⟩⟩⟩⟩⟩
  · refine stepF_of (oi := ⟨some 20, _, _, _, _, _⟩) rfl rfl ?_
    intro X w5 hB5 hd K hK
    have hs5 : B0 ≤ w5.heap.size := by rw [HB0.out]; exact hB5.size
    simp only [putsA, putsT_some, putsT_nil, Act.put, List.setIfInBounds_toArray, List.set_cons_zero, List.set_cons_succ] at hK ⊢
    have HK := Lib.hid hK
    clear hK hd
    have HA5 := Lib.hid ((HS0.out.below hB5).slice)
    go_simp
    refine (top_any n _ H _ HNn.out (by rw [HB.out.2.1.1]; omega) HA5.out.1 HA5.out.2).mono ?_
    rintro e w6 ⟨rfl, hb6⟩
    dsimp only
    exact HK.out _ _ rfl hb6
  · refine stepF_of (oi := ⟨some 22, _, _, _, _, _⟩) rfl rfl ?_
    intro X w5 hB5 hd K hK
    have hs5 : B0 ≤ w5.heap.size := by rw [HB0.out]; exact hB5.size
    simp only [putsA, putsT_some, putsT_nil, Act.put, List.setIfInBounds_toArray, List.set_cons_zero, List.set_cons_succ] at hK ⊢
    have HK := Lib.hid hK
    clear hK hd
    go_simp
    refine (number_any n _ HNn.out).mono ?_
    rintro e w6 ⟨v6, rfl, hy, hlo, hb6⟩
    dsimp only
    exact HK.out _ _ ⟨hy, hlo⟩ hb6
  · refine stepF_of (oi := ⟨some 27, _, _, _, _, _⟩) rfl rfl ?_
    intro X w5 hB5 hd K hK
    have hs5 : B0 ≤ w5.heap.size := by rw [HB0.out]; exact hB5.size
    obtain ⟨hy, hlo⟩ : Byts w5 (X 7) (le8 n) ∧ Low w5 (X 7) := hd (7, some 22) (by decide) (by kernel_rfl)
    obtain ⟨a9, c9, h9⟩ := hy.form
    rw [h9, show (le8 n).length = 8 from rfl] at hy hlo
    rw [show (le8 n).length = 8 from rfl] at h9
    have HA6 := Lib.hid ((HS0.out.below hB5).slice)
    have HP5 := Lib.hid (parts2 34 hy hlo HA6.out.1 HA6.out.2)
    have HBa := Lib.hid (show Below w5.heap.size w5 (w5.alloc (.cells #[.slice a9 8 c9, .slice (some ⟨b1, 0, none⟩) 32 32] 34)) from (Below.refl _ _).alloc (Nat.le_refl _) _)
    clear hy hlo
    simp only [putsA, putsT_some, putsT_nil, Act.put, List.setIfInBounds_toArray, List.set_cons_zero, List.set_cons_succ] at hK ⊢
    rw [h9] at hK ⊢
    clear h9
    have HK := Lib.hid hK
    clear hK hd
    go_simp
    exact HK.out _ _ HP5.out HBa.out
  · refine stepF_of (oi := ⟨some 28, _, _, _, _, _⟩) rfl rfl ?_
    intro X w5 hB5 hd K hK
    have hs5 : B0 ≤ w5.heap.size := by rw [HB0.out]; exact hB5.size
    have hp : PartsIs w5 (X 12) [le8 n, H] := hd (12, some 27) (by decide) (by kernel_rfl)
    have HP := Lib.hid hp
    clear hp
    simp only [putsA, putsT_some, putsT_nil, Act.put, List.setIfInBounds_toArray, List.set_cons_zero, List.set_cons_succ] at hK ⊢
    have HK := Lib.hid hK
    clear hK hd
    go_simp
    refine (text_any ⟨#[114, 111, 111, 116]⟩ _ [le8 n, H] _ (by decide) (by simp [HB.out.2.1.1, le8]) HP.out).mono ?_
    rintro e w6 ⟨v6, rfl, hy, hlo, hhi, hb6⟩
    rw [textR] at hy
    dsimp only
    exact HK.out _ _ ⟨hy, Blk.of (hhi.mono hs5) hlo⟩ hb6
  · refine stepF_of (oi := ⟨some 30, _, _, _, _, _⟩) rfl rfl ?_
    intro X w5 hB5 hd K hK
    have hs5 : B0 ≤ w5.heap.size := by rw [HB0.out]; exact hB5.size
    simp only [putsA, putsT_some, putsT_nil, Act.put, List.setIfInBounds_toArray, List.set_cons_zero, List.set_cons_succ] at hK ⊢
    have HK := Lib.hid hK
    clear hK hd
    have HP5 := Lib.hid (PtrsAt.made w5 [b1] 77 (by unfold maxLen; simp))
    have HBa := Lib.hid (show Below w5.heap.size w5 (w5.alloc (.cells #[.pointer (some ⟨b1, 0, none⟩)] 77)) from (Below.refl _ _).alloc (Nat.le_refl _) _)
    go_simp
    exact HK.out _ _ ⟨HP5.out, fun a n k e => by cases e; exact ⟨hs5, by simp⟩⟩ HBa.out
  · refine stepF_of (oi := ⟨some 31, _, _, _, _, _⟩) rfl rfl ?_
    intro X w5 hB5 hd K hK
    have hs5 : B0 ≤ w5.heap.size := by rw [HB0.out]; exact hB5.size
    have hh : X 5 = .agg (bys (topF n H)).toArray := hd (5, some 20) (by decide) (by kernel_rfl)
    obtain ⟨hy, hyb⟩ : Byts w5 (X 13) (textF nRoot (le8 n ++ H)) ∧ Blk (B0 ≤ ·) w5 (X 13) := hd (13, some 28) (by decide) (by kernel_rfl)
    obtain ⟨hk, hkb⟩ : PtrsAt w5 (X 15) [b1] ∧ Blk (B0 ≤ ·) w5 (X 15) := hd (15, some 30) (by decide) (by kernel_rfl)
    obtain ⟨a9, c9, h9⟩ := hy.form
    obtain ⟨a8, c8, h8⟩ := hk.form
    have HY := Lib.hid hy
    have HKi := Lib.hid hk
    have HYb := Lib.hid hyb
    have HKb := Lib.hid hkb
    have H9 := Lib.hid h9
    have H8 := Lib.hid h8
    have HH := Lib.hid hh
    clear hy hyb hkb h9 hh hk h8
    simp only [putsA, putsT_some, putsT_nil, Act.put, List.setIfInBounds_toArray, List.set_cons_zero, List.set_cons_succ] at hK ⊢
    have HK := Lib.hid hK
    clear hK hd
    refine wp_build_run 80 _ rfl #[(0, X 5), (1, X 13), (2, X 15)] (by simp only [List.map_toArray, List.map_cons, List.map_nil]; rfl) _ ?_ (HK.out _ _ ⟨X 13, X 15, rfl, HY.out, HYb.out, HKb.out, HKi.out⟩ (Below.refl _ _))
    have := node_build3 (topF n H) (tagF_h _ _).1 a9 a8 (textF nRoot (le8 n ++ H)).length c9 1 c8 w5
    rw [← H9.out, ← HH.out, show Value.slice a8 1 c8 = X 15 from H8.out.symm] at this
    exact this
  · refine stepF_of (oi := ⟨some 32, _, _, _, _, _⟩) rfl rfl ?_
    intro X w5 hB5 hd K hK
    have hs5 : B0 ≤ w5.heap.size := by rw [HB0.out]; exact hB5.size
    obtain ⟨bv, kv, h5, hy, hyb, hkb, hk⟩ : ∃ bv kv, X 16 = .agg (bys (topF n H) ++ [bv, kv]).toArray ∧ Byts w5 bv (textF nRoot (le8 n ++ H)) ∧ Blk (B0 ≤ ·) w5 bv ∧ Blk (B0 ≤ ·) w5 kv ∧ PtrsAt w5 kv [b1] := hd (16, some 31) (by decide) (by kernel_rfl)
    have HN := Lib.hid (Nd.made (C := (B0 ≤ ·)) w5 (topF n H) _ _ bv kv (tagF_h _ _) hy hk hs5 hyb hkb (by simp [textF, nRoot, le8, HB.out.2.1.1]))
    have HBa := Lib.hid (show Below w5.heap.size w5 (w5.alloc (.cells (bys (topF n H) ++ [bv, kv]).toArray 80)) from (Below.refl _ _).alloc (Nat.le_refl _) _)
    clear hy hk hyb hkb
    simp only [putsA, putsT_some, putsT_nil, Act.put, List.setIfInBounds_toArray, List.set_cons_zero, List.set_cons_succ] at hK ⊢
    rw [h5] at hK ⊢
    clear h5
    have HK := Lib.hid hK
    clear hK hd
    go_simp
    exact HK.out _ _ ⟨_, rfl, HN.out⟩ HBa.out
  · refine stepF_of (oi := ⟨some 4, _, _, _, _, _⟩) rfl rfl ?_
    intro X w5 hB5 hd K hK
    have hs5 : B0 ≤ w5.heap.size := by rw [HB0.out]; exact hB5.size
    have h6 : ∃ b, X 17 = ptr b ∧ Nd (B0 ≤ ·) w5 b (topF n H) (textF nRoot (le8 n ++ H)) [b1] := hd (17, some 32) (by decide) (by kernel_rfl)
    have H6 := Lib.hid h6
    clear h6
    simp only [putsA, putsT_some, putsT_nil, Act.put, List.setIfInBounds_toArray, List.set_cons_zero, List.set_cons_succ] at hK ⊢
    have HK := Lib.hid hK
    clear hK hd
    go_simp
    exact HK.out _ _ H6.out (Below.refl _ _)
  · intro X w5 hB5 hF
    obtain ⟨b, h7, hn⟩ : ∃ b, X 18 = ptr b ∧ Nd (B0 ≤ ·) w5 b (topF n H) (textF nRoot (le8 n ++ H)) [b1] := hF (18, some 4) (by decide)
    simp only [putsA, putsT_some, putsT_nil, Act.put, List.setIfInBounds_toArray, List.set_cons_zero, List.set_cons_succ]
    rw [HB0.out] at hn
    have HN := Lib.hid hn
    have HBe := Lib.hid ((Below.refl w.heap.size w).drew.trans hB5)
    clear hF hn hB5
    go_wp2
    go_ret
    exact ⟨b, congrArg Ending.returned h7, HN.out, HBe.out⟩

set_option maxRecDepth 100000 in
set_option maxHeartbeats 1600000 in
theorem topNode_nil (w : World) :
    Calls Try.prog 60 #[.int .i64 0, .pointer none] w fun e w' => ∃ b, e = .returned (ptr b) ∧ Nd (w.heap.size ≤ ·) w' b (topF 0 []) (textF nRoot (le8 0)) [] ∧ Below w.heap.size w w' := by
  go_enter Try.func60, Try.ntmps60
  go_upto_region 2 with fail
  go_wp2_with fail
  refine (top_any 0 _ [] w (by omega) (by simp) (Byts.nil w) (Low.nil w 0 0)).mono ?_
  rintro e w2 ⟨rfl, hb2⟩
  dsimp only
  have HB2 := Lib.hid hb2
  clear hb2
  obtain ⟨R, hR⟩ : ∃ R, R = topF 0 [] := ⟨_, rfl⟩
  have HRh := Lib.hid (show IsH R by rw [hR]; exact tagF_h _ _)
  rw [← hR]
  have HR := Lib.hid hR
  clear hR
  go_wp2_with fail
  refine (number_any 0 w2 (by omega)).mono ?_
  rintro e w3 ⟨v3, rfl, hy3, hl3, hb3⟩
  dsimp only
  obtain ⟨a3, c3, h9⟩ := hy3.form
  rw [show (le8 0).length = 8 from rfl] at h9
  subst h9
  have HB3 := Lib.hid (HB2.out.trans (hb3.mono HB2.out.size))
  have HP := Lib.hid (parts1 34 hy3 hl3)
  have HBa := Lib.hid (show Below w3.heap.size w3 (w3.alloc (.cells #[.slice a3 8 c3] 34)) from (Below.refl _ _).alloc (Nat.le_refl _) _)
  clear hy3 hl3 hb3 HB2
  go_wp2_with fail
  refine (text_any ⟨#[114, 111, 111, 116]⟩ _ [le8 0] _ (by decide) (by simp [le8]) HP.out).mono ?_
  rintro e w6 ⟨v6, rfl, hy, hlo, hhi, hb6⟩
  rw [textR0] at hy
  dsimp only
  obtain ⟨a6, c6, h9⟩ := hy.form
  rw [show (textF nRoot (le8 0)).length = 13 from rfl] at h9
  subst h9
  have HB6 := Lib.hid (HB3.out.trans ((HBa.out.trans (hb6.mono HBa.out.size)).mono HB3.out.size))
  have HN := Lib.hid (Nd.made (C := (w.heap.size ≤ ·)) w6 R _ _ (.slice a6 13 c6) (.slice none 0 0) HRh.out hy (PtrsAt.nil w6) HB6.out.size (Blk.of (hhi.mono (Nat.le_trans HB3.out.size HBa.out.size)) hlo) (Blk.nil _ _ _ _) (by simp [textF, nRoot, le8]))
  have HBx := Lib.hid (HB6.out.alloc HB6.out.size (.cells (bys R ++ [Value.slice a6 13 c6, Value.slice none 0 0]).toArray 80))
  have HBd := Lib.hid (node_build1 R HRh.out.1 a6 13 c6 w6)
  clear hy hlo hhi hb6 HB3 HBa HP HB6
  iterate 2 (first | go_values | go_skip | go_guarded | go_step | go_upon)
  refine wp_build_run (P := Try.prog) 80 _ rfl #[(0, .agg (bys R).toArray), (1, .slice a6 13 c6)] (by simp [Act.eval, Act.put]) _ HBd.out ?_
  obtain ⟨C, hC⟩ : ∃ C, C = bys R ++ [Value.slice a6 13 c6, Value.slice none 0 0] := ⟨_, rfl⟩
  rw [← hC] at HN HBx ⊢
  clear hC HBd
  go_wp2
  go_ret
  exact ⟨_, rfl, by rw [← HR.out]; exact HN.out, HBx.out⟩
end Go.Proofs.Ytbaepjhbpmhmgaa
