/- The law ScriptActs, walked. -/
import Derived.Test.YtnohfondkcbdnaaGreatDoorG13
import Derived.Test.YtnohfondkcbdnaaGreatDoorG25
import Derived.Test.YtnohfondkcbdnaaGreatDoorG26
namespace Go.Proofs.YtnohfondkcbdnaaGreatDoor
open Go.RowKit Go.Lib
set_option linter.unusedVariables false
set_option linter.unusedSimpArgs false
attribute [local go_sem ↓] Go.wp_at_zero Go.wp_at_succ

structure LwS (g : Nat) (a b : ActM) (w : World) : Prop where
  A : Arr w g 30 a.cells
  B : Arr w (g + 1) 30 b.cells
  a : a.ok w
  b : b.ok w
  t : TabO w
theorem LwS.below {g : Nat} {a b : ActM} {w w' : World} (h : LwS g a b w) (hb : Below w.heap.size w w') : LwS g a b w' := ⟨h.A.below hb h.A.lt, h.B.below hb h.B.lt, h.a.below hb, h.b.below hb, h.t.below hb⟩
theorem two_laid (w : World) (L1 L2 : List Value) (t1 t2 : TypeId) (W : World) (hW : W = (w.alloc (.cells L1.toArray t1)).alloc (.cells L2.toArray t2)) :
    Arr W w.heap.size t1 L1 ∧ Arr W (w.heap.size + 1) t2 L2 ∧ Below w.heap.size w W := by
  subst hW
  have h1 := Arr.made w t1 L1
  have h2 := Arr.made (w.alloc (.cells L1.toArray t1)) t2 L2
  have e1 : (w.alloc (.cells L1.toArray t1)).heap.size = w.heap.size + 1 := by show (w.heap.push _).size = _; simp
  have b1 : Below w.heap.size w (w.alloc (.cells L1.toArray t1)) := (Below.refl _ _).alloc (Nat.le_refl _) _
  have b2 := (Below.refl (w.alloc (.cells L1.toArray t1)).heap.size (w.alloc (.cells L1.toArray t1))).alloc (Nat.le_refl _) (.cells L2.toArray t2)
  refine ⟨h1.below b2 (by rw [e1]; omega), by rw [e1] at h2; exact h2, b1.trans (b2.mono b1.size)⟩
theorem actEq_self (a : ActM) : actEq a a = true := by rw [act_key]; exact ⟨rfl, rfl, rfl, rfl, rfl, rfl, rfl, rfl, rfl⟩
set_option maxRecDepth 100000 in
set_option maxHeartbeats 6400000 in
theorem acts_yes (a b : ActM) (m : Int) (w : World) (ha : a.ok w) (hb : b.ok w) (ht : TabO w) (hM : MayP a) :
    Calls Tryz.prog 3 #[.agg a.cells.toArray, .agg b.cells.toArray, .int .i64 m] w fun e w' => e = .returned (.bool true) ∧ Below w.heap.size w w' := by
  have HM := Lib.hid hM
  obtain ⟨K, hK⟩ := kind_of hM
  have HK := Lib.hid hK
  obtain ⟨RES, hRES⟩ : ∃ RES, actTF a (nmB K) (wsB K) = RES := ⟨_, rfl⟩
  have HRES := Lib.hid hRES
  clear hM hK hRES
  have HAz := Lib.hid (size_actx ha)
  have HBz := Lib.hid (size_actx hb)
  have HA0 := Lib.hid ha
  have HB0 := Lib.hid hb
  have HT0 := Lib.hid ht
  clear ha hb ht
  go_enter Tryz.func3, Tryz.ntmps3
  go_upto_region 1 with fail
  have hpk := two_laid w a.cells b.cells 30 30 _ rfl
  have HS0 := Lib.hid (show LwS w.heap.size a b _ from ⟨hpk.1, hpk.2.1, HA0.out.below hpk.2.2, HB0.out.below hpk.2.2, HT0.out.below hpk.2.2⟩)
  have HB8 := Lib.hid hpk.2.2
  clear hpk
  generalize World.alloc (World.alloc _ _) _ = w1 at *
  obtain ⟨g, hg⟩ : ∃ g, w.heap.size = g := ⟨_, rfl⟩
  have HB8z := Lib.hid (show g ≤ w1.heap.size by rw [← hg]; exact HB8.out.size)
  rw [hg] at HS0 HB8 ⊢
  have HG := Lib.hid hg
  clear hg HA0 HB0 HT0
  have HSAz := HAz
  have HSBz := HBz
  clear HAz HBz
  go_step
  refine wpList_load_mid (P := Tryz.prog) rfl 30 _ rfl g 0 rfl _ _ HS0.out.A.range Tryz.underlying30 rfl HSAz.out ?_
  have HC := Lib.hid (big_any a w1 HS0.out.a)
  go_wp2_with fail
  with_reducible refine HC.out.mono ?_
  rintro e w2 ⟨b1, rfl, hb9⟩
  dsimp only
  have HS1 := Lib.hid (HS0.out.below hb9)
  have HB1 := Lib.hid (HB8.out.trans (hb9.mono HB8z.out))
  have HZ1 := Lib.hid (Nat.le_trans HB8z.out hb9.size)
  clear HS0 HB8 HB8z hb9
  have HS0 := HS1
  have HB8 := HB1
  have HB8z := HZ1
  clear HS1 HB1 HZ1
  clear HC
  cases b1 with
  | true =>
    go_upto_region 2 with fail
    have HC := Lib.hid (known_any w2 HS0.out.t)
    go_wp2_with fail
    with_reducible refine (HC.out).mono ?_
    rintro e w9 ⟨rfl, hb9⟩
    dsimp only
    have HS1 := Lib.hid (HS0.out.below hb9)
    have HB1 := Lib.hid (HB8.out.trans (hb9.mono HB8z.out))
    have HZ1 := Lib.hid (Nat.le_trans HB8z.out hb9.size)
    clear HS0 HB8 HB8z hb9
    have HS0 := HS1
    have HB8 := HB1
    have HB8z := HZ1
    clear HS1 HB1 HZ1
    clear HC
    go_wp2
    go_ret
    exact ⟨rfl, by rw [HG.out]; exact HB8.out⟩
  | false =>
    iterate 4 (first | go_values | go_skip | go_guarded | go_step | go_upon)
    refine wpList_step (fun K9 hK9 => ?_)
    rw [if_pos (by kernel_rfl)]
    refine wp_load_mid (P := Tryz.prog) 30 _ rfl (g + 1) 0 rfl _ _ HS0.out.B.range Tryz.underlying30 rfl HSBz.out ?_
    refine hK9 _ _ ?_
    clear hK9 K9
    dsimp only [Act.put]
    simp only [List.setIfInBounds_toArray, List.set_cons_zero, List.set_cons_succ]
    have HC := Lib.hid (big_any b w2 HS0.out.b)
    go_wp2_with fail
    with_reducible refine HC.out.mono ?_
    rintro e w3 ⟨b2, rfl, hb9⟩
    dsimp only
    have HS1 := Lib.hid (HS0.out.below hb9)
    have HB1 := Lib.hid (HB8.out.trans (hb9.mono HB8z.out))
    have HZ1 := Lib.hid (Nat.le_trans HB8z.out hb9.size)
    clear HS0 HB8 HB8z hb9
    have HS0 := HS1
    have HB8 := HB1
    have HB8z := HZ1
    clear HS1 HB1 HZ1
    clear HC
    cases b2 with
    | true =>
      go_upto_region 2 with fail
      have HC := Lib.hid (known_any w3 HS0.out.t)
      go_wp2_with fail
      with_reducible refine (HC.out).mono ?_
      rintro e w9 ⟨rfl, hb9⟩
      dsimp only
      have HS1 := Lib.hid (HS0.out.below hb9)
      have HB1 := Lib.hid (HB8.out.trans (hb9.mono HB8z.out))
      have HZ1 := Lib.hid (Nat.le_trans HB8z.out hb9.size)
      clear HS0 HB8 HB8z hb9
      have HS0 := HS1
      have HB8 := HB1
      have HB8z := HZ1
      clear HS1 HB1 HZ1
      clear HC
      go_wp2
      go_ret
      exact ⟨rfl, by rw [HG.out]; exact HB8.out⟩
    | false =>
      go_upto_region 3 with fail
      go_step
      refine wpList_load_mid (P := Tryz.prog) rfl 30 _ rfl g 0 rfl _ _ HS0.out.A.range Tryz.underlying30 rfl HSAz.out ?_
      have HC := Lib.hid (stext_yes a w3 HS0.out.a HS0.out.t HM.out K HK.out.1 HK.out.2.1 HK.out.2.2)
      rw [HRES.out] at HC
      go_wp2_with fail
      with_reducible refine (HC.out).mono ?_
      rintro e w8 ⟨rfl, hb9⟩
      dsimp only
      have HS1 := Lib.hid (HS0.out.below hb9)
      have HB1 := Lib.hid (HB8.out.trans (hb9.mono HB8z.out))
      have HZ1 := Lib.hid (Nat.le_trans HB8z.out hb9.size)
      clear HS0 HB8 HB8z hb9
      have HS0 := HS1
      have HB8 := HB1
      have HB8z := HZ1
      clear HS1 HB1 HZ1
      clear HC
      go_upto_region 4 with fail
      have HS1 := Lib.hid (HS0.out.below (Below.refl _ _).drew)
      have HB1 := Lib.hid HB8.out.drew
      have HZ1 := Lib.hid (show g ≤ w8.drew.heap.size from HB8z.out)
      clear HS0 HB8 HB8z
      have HS0 := HS1
      have HB8 := HB1
      have HB8z := HZ1
      clear HS1 HB1 HZ1
      have HF1 := Lib.hid (fun w9 (h : a.ok w9) => smayact_any a w9 h true ⟨fun _ => HM.out, fun _ => rfl⟩)
      have HF2 := Lib.hid (fun w9 (h : a.ok w9) => rmayact_any a w9 h true ⟨fun _ => HM.out, fun _ => rfl⟩)
      obtain ⟨E, hE⟩ : ∃ E, actEq a b = E := ⟨_, rfl⟩
      have HQ1 := Lib.hid (fun w9 (h : a.ok w9) (h' : b.ok w9) => sact_any a b w9 h h')
      have HQ2 := Lib.hid (fun w9 (h : a.ok w9) (h' : b.ok w9) => rsact_any a b w9 h h')
      have HQ3 := Lib.hid (fun w9 (h : a.ok w9) => sact_any a a w9 h h)
      rw [actEq_self] at HQ3
      rw [hE] at HQ1 HQ2
      clear hE
      refine wp_region_H (LwS g a b) (by kernel_rfl) ?_
      generalize World.drew _ = w9 at *
      simp only [List.size_toArray, List.length_cons, List.length_nil, Nat.reduceAdd, Array.replicate_succ, Array.replicate_zero, List.push_toArray, List.nil_append, List.cons_append]
      refine wpAnyH_take (i := 0) (oi := ⟨some 21, _, _, _, _, _⟩) rfl (by kernel_rfl) (by kernel_rfl) (by kernel_rfl) (fun _ _ _ h => h) (yieldsIf_load_mid (by rfl) 30 (.tmp 3) rfl (g) (0) rfl (a.cells) _ (fun w h => h.A.range) Tryz.underlying30 rfl HSAz.out) HS0.out ?_
      dsimp only [Act.put]
      simp only [List.setIfInBounds_toArray, List.set_cons_zero, List.set_cons_succ]
      refine wpAnyH_take (i := 2) (oi := ⟨some 23, _, _, _, _, _⟩) rfl (by kernel_rfl) (by kernel_rfl) (by kernel_rfl) (fun _ _ _ h => h) (yieldsIf_load_mid (by rfl) 30 (.tmp 3) rfl (g) (0) rfl (a.cells) _ (fun w h => h.A.range) Tryz.underlying30 rfl HSAz.out) HS0.out ?_
      dsimp only [Act.put]
      simp only [List.setIfInBounds_toArray, List.set_cons_zero, List.set_cons_succ]
      refine wpAnyH_one (i := 1) (oi := ⟨some 22, _, _, _, _, _⟩) (by kernel_rfl) rfl (by rfl) (fun K9 hK9 => ?_)
      have HK9 := Lib.hid hK9
      clear hK9
      go_simp
      with_reducible refine (HF1.out w9 HS0.out.a).mono ?_
      rintro e w10 ⟨rfl, hb9⟩
      dsimp only
      have HS1 := Lib.hid (HS0.out.below hb9)
      have HB1 := Lib.hid (HB8.out.trans (hb9.mono HB8z.out))
      have HZ1 := Lib.hid (Nat.le_trans HB8z.out hb9.size)
      clear HS0 HB8 HB8z hb9
      have HS0 := HS1
      have HB8 := HB1
      have HB8z := HZ1
      clear HS1 HB1 HZ1
      refine HK9.out _ _ HS0.out ?_
      clear HK9
      simp only [List.setIfInBounds_toArray, List.set_cons_zero, List.set_cons_succ]
      refine wpAnyH_one (i := 3) (oi := ⟨some 24, _, _, _, _, _⟩) (by kernel_rfl) rfl (by rfl) (fun K9 hK9 => ?_)
      have HK9 := Lib.hid hK9
      clear hK9
      go_simp
      with_reducible refine (HF2.out w10 HS0.out.a).mono ?_
      rintro e w11 ⟨rfl, hb9⟩
      dsimp only
      have HS1 := Lib.hid (HS0.out.below hb9)
      have HB1 := Lib.hid (HB8.out.trans (hb9.mono HB8z.out))
      have HZ1 := Lib.hid (Nat.le_trans HB8z.out hb9.size)
      clear HS0 HB8 HB8z hb9
      have HS0 := HS1
      have HB8 := HB1
      have HB8z := HZ1
      clear HS1 HB1 HZ1
      refine HK9.out _ _ HS0.out ?_
      clear HK9
      simp only [List.setIfInBounds_toArray, List.set_cons_zero, List.set_cons_succ]
      refine wpAnyH_take (i := 4) (oi := ⟨some 25, _, _, _, _, _⟩) (v := .bool false) rfl (by kernel_rfl) (by kernel_rfl) (by kernel_rfl) (fun _ _ _ h => h) (Or.inl ⟨by rfl, ?_⟩) HS0.out ?_
      · intro w hSw
        go_simp <;> with_reducible rfl
      dsimp only [Act.put]
      simp only [List.setIfInBounds_toArray, List.set_cons_zero, List.set_cons_succ]
      refine wpAnyH_take (i := 5) (oi := ⟨some 26, _, _, _, _, _⟩) (v := .bool false) rfl (by kernel_rfl) (by kernel_rfl) (by kernel_rfl) (fun _ _ _ h => h) (Or.inl ⟨by rfl, ?_⟩) HS0.out ?_
      · intro w hSw
        go_simp <;> with_reducible rfl
      dsimp only [Act.put]
      simp only [List.setIfInBounds_toArray, List.set_cons_zero, List.set_cons_succ]
      refine wpAnyH_take (i := 6) (oi := ⟨some 27, _, _, _, _, _⟩) rfl (by kernel_rfl) (by kernel_rfl) (by kernel_rfl) (fun _ _ _ h => h) (yieldsIf_load_mid (by rfl) 30 (.tmp 3) rfl (g) (0) rfl (a.cells) _ (fun w h => h.A.range) Tryz.underlying30 rfl HSAz.out) HS0.out ?_
      dsimp only [Act.put]
      simp only [List.setIfInBounds_toArray, List.set_cons_zero, List.set_cons_succ]
      refine wpAnyH_take (i := 7) (oi := ⟨some 28, _, _, _, _, _⟩) rfl (by kernel_rfl) (by kernel_rfl) (by kernel_rfl) (fun _ _ _ h => h) (yieldsIf_load_mid (by rfl) 30 (.tmp 4) rfl ((g + 1)) (0) rfl (b.cells) _ (fun w h => h.B.range) Tryz.underlying30 rfl HSBz.out) HS0.out ?_
      dsimp only [Act.put]
      simp only [List.setIfInBounds_toArray, List.set_cons_zero, List.set_cons_succ]
      refine wpAnyH_take (i := 9) (oi := ⟨some 30, _, _, _, _, _⟩) rfl (by kernel_rfl) (by kernel_rfl) (by kernel_rfl) (fun _ _ _ h => h) (yieldsIf_load_mid (by rfl) 30 (.tmp 3) rfl (g) (0) rfl (a.cells) _ (fun w h => h.A.range) Tryz.underlying30 rfl HSAz.out) HS0.out ?_
      dsimp only [Act.put]
      simp only [List.setIfInBounds_toArray, List.set_cons_zero, List.set_cons_succ]
      refine wpAnyH_take (i := 10) (oi := ⟨some 31, _, _, _, _, _⟩) rfl (by kernel_rfl) (by kernel_rfl) (by kernel_rfl) (fun _ _ _ h => h) (yieldsIf_load_mid (by rfl) 30 (.tmp 4) rfl ((g + 1)) (0) rfl (b.cells) _ (fun w h => h.B.range) Tryz.underlying30 rfl HSBz.out) HS0.out ?_
      dsimp only [Act.put]
      simp only [List.setIfInBounds_toArray, List.set_cons_zero, List.set_cons_succ]
      refine wpAnyH_one (i := 8) (oi := ⟨some 29, _, _, _, _, _⟩) (by kernel_rfl) rfl (by rfl) (fun K9 hK9 => ?_)
      have HK9 := Lib.hid hK9
      clear hK9
      go_simp
      with_reducible refine (HQ1.out w11 HS0.out.a HS0.out.b).mono ?_
      rintro e w12 ⟨rfl, hb9⟩
      dsimp only
      have HS1 := Lib.hid (HS0.out.below hb9)
      have HB1 := Lib.hid (HB8.out.trans (hb9.mono HB8z.out))
      have HZ1 := Lib.hid (Nat.le_trans HB8z.out hb9.size)
      clear HS0 HB8 HB8z hb9
      have HS0 := HS1
      have HB8 := HB1
      have HB8z := HZ1
      clear HS1 HB1 HZ1
      refine HK9.out _ _ HS0.out ?_
      clear HK9
      simp only [List.setIfInBounds_toArray, List.set_cons_zero, List.set_cons_succ]
      refine wpAnyH_one (i := 11) (oi := ⟨some 32, _, _, _, _, _⟩) (by kernel_rfl) rfl (by rfl) (fun K9 hK9 => ?_)
      have HK9 := Lib.hid hK9
      clear hK9
      go_simp
      with_reducible refine (HQ2.out w12 HS0.out.a HS0.out.b).mono ?_
      rintro e w13 ⟨rfl, hb9⟩
      dsimp only
      have HS1 := Lib.hid (HS0.out.below hb9)
      have HB1 := Lib.hid (HB8.out.trans (hb9.mono HB8z.out))
      have HZ1 := Lib.hid (Nat.le_trans HB8z.out hb9.size)
      clear HS0 HB8 HB8z hb9
      have HS0 := HS1
      have HB8 := HB1
      have HB8z := HZ1
      clear HS1 HB1 HZ1
      refine HK9.out _ _ HS0.out ?_
      clear HK9
      simp only [List.setIfInBounds_toArray, List.set_cons_zero, List.set_cons_succ]
      refine wpAnyH_take (i := 12) (oi := ⟨some 33, _, _, _, _, _⟩) (v := .bool false) rfl (by kernel_rfl) (by kernel_rfl) (by kernel_rfl) (fun _ _ _ h => h) (Or.inl ⟨by rfl, ?_⟩) HS0.out ?_
      · intro w hSw
        go_simp <;> (first | with_reducible rfl | (cases E <;> rfl))
      dsimp only [Act.put]
      simp only [List.setIfInBounds_toArray, List.set_cons_zero, List.set_cons_succ]
      refine wpAnyH_take (i := 13) (oi := ⟨some 34, _, _, _, _, _⟩) (v := .bool false) rfl (by kernel_rfl) (by kernel_rfl) (by kernel_rfl) (fun _ _ _ h => h) (Or.inl ⟨by rfl, ?_⟩) HS0.out ?_
      · intro w hSw
        go_simp <;> with_reducible rfl
      dsimp only [Act.put]
      simp only [List.setIfInBounds_toArray, List.set_cons_zero, List.set_cons_succ]
      refine wpAnyH_take (i := 14) (oi := ⟨some 35, _, _, _, _, _⟩) (v := .bool false) rfl (by kernel_rfl) (by kernel_rfl) (by kernel_rfl) (fun _ _ _ h => h) (Or.inl ⟨by rfl, ?_⟩) HS0.out ?_
      · intro w hSw
        go_simp <;> with_reducible rfl
      dsimp only [Act.put]
      simp only [List.setIfInBounds_toArray, List.set_cons_zero, List.set_cons_succ]
      refine wpAnyH_take (i := 15) (oi := ⟨some 36, _, _, _, _, _⟩) rfl (by kernel_rfl) (by kernel_rfl) (by kernel_rfl) (fun _ _ _ h => h) (yieldsIf_load_mid (by rfl) 30 (.tmp 3) rfl (g) (0) rfl (a.cells) _ (fun w h => h.A.range) Tryz.underlying30 rfl HSAz.out) HS0.out ?_
      dsimp only [Act.put]
      simp only [List.setIfInBounds_toArray, List.set_cons_zero, List.set_cons_succ]
      refine wpAnyH_take (i := 16) (oi := ⟨some 37, _, _, _, _, _⟩) rfl (by kernel_rfl) (by kernel_rfl) (by kernel_rfl) (fun _ _ _ h => h) (yieldsIf_load_mid (by rfl) 30 (.tmp 3) rfl (g) (0) rfl (a.cells) _ (fun w h => h.A.range) Tryz.underlying30 rfl HSAz.out) HS0.out ?_
      dsimp only [Act.put]
      simp only [List.setIfInBounds_toArray, List.set_cons_zero, List.set_cons_succ]
      refine wpAnyH_one (i := 17) (oi := ⟨some 38, _, _, _, _, _⟩) (by kernel_rfl) rfl (by rfl) (fun K9 hK9 => ?_)
      have HK9 := Lib.hid hK9
      clear hK9
      go_simp
      with_reducible refine (HQ3.out w13 HS0.out.a).mono ?_
      rintro e w14 ⟨rfl, hb9⟩
      dsimp only
      have HS1 := Lib.hid (HS0.out.below hb9)
      have HB1 := Lib.hid (HB8.out.trans (hb9.mono HB8z.out))
      have HZ1 := Lib.hid (Nat.le_trans HB8z.out hb9.size)
      clear HS0 HB8 HB8z hb9
      have HS0 := HS1
      have HB8 := HB1
      have HB8z := HZ1
      clear HS1 HB1 HZ1
      refine HK9.out _ _ HS0.out ?_
      clear HK9
      simp only [List.setIfInBounds_toArray, List.set_cons_zero, List.set_cons_succ]
      refine wpAnyH_take (i := 18) (oi := ⟨some 39, _, _, _, _, _⟩) (v := .bool false) rfl (by kernel_rfl) (by kernel_rfl) (by kernel_rfl) (fun _ _ _ h => h) (Or.inl ⟨by rfl, ?_⟩) HS0.out ?_
      · intro w hSw
        go_simp <;> with_reducible rfl
      dsimp only [Act.put]
      simp only [List.setIfInBounds_toArray, List.set_cons_zero, List.set_cons_succ]
      refine wpAnyH_take (i := 19) (oi := ⟨some 40, _, _, _, _, _⟩) (v := .bool false) rfl (by kernel_rfl) (by kernel_rfl) (by kernel_rfl) (fun _ _ _ h => h) (Or.inl ⟨by rfl, ?_⟩) HS0.out ?_
      · intro w hSw
        go_simp <;> with_reducible rfl
      dsimp only [Act.put]
      simp only [List.setIfInBounds_toArray, List.set_cons_zero, List.set_cons_succ]
      refine wpAnyH_take (i := 20) (oi := ⟨some 41, _, _, _, _, _⟩) (v := .bool false) rfl (by kernel_rfl) (by kernel_rfl) (by kernel_rfl) (fun _ _ _ h => h) (Or.inl ⟨by rfl, ?_⟩) HS0.out ?_
      · intro w hSw
        go_simp <;> with_reducible rfl
      dsimp only [Act.put]
      simp only [List.setIfInBounds_toArray, List.set_cons_zero, List.set_cons_succ]
      refine wpAnyH_one (i := 21) (oi := ⟨some 42, _, _, _, _, _⟩) (by kernel_rfl) rfl (by rfl) (fun K9 hK9 => ?_)
      have HK9 := Lib.hid hK9
      clear hK9
      go_simp
      with_reducible refine (once_any 0 w14).mono ?_
      rintro e w15 ⟨rfl, hb9⟩
      dsimp only
      have HS1 := Lib.hid (HS0.out.below hb9)
      have HB1 := Lib.hid (HB8.out.trans (hb9.mono HB8z.out))
      have HZ1 := Lib.hid (Nat.le_trans HB8z.out hb9.size)
      clear HS0 HB8 HB8z hb9
      have HS0 := HS1
      have HB8 := HB1
      have HB8z := HZ1
      clear HS1 HB1 HZ1
      refine HK9.out _ _ HS0.out ?_
      clear HK9
      simp only [List.setIfInBounds_toArray, List.set_cons_zero, List.set_cons_succ]
      refine wpAnyH_take (i := 22) (oi := ⟨some 43, _, _, _, _, _⟩) (v := .bool false) rfl (by kernel_rfl) (by kernel_rfl) (by kernel_rfl) (fun _ _ _ h => h) (Or.inl ⟨by rfl, ?_⟩) HS0.out ?_
      · intro w hSw
        go_simp <;> with_reducible rfl
      dsimp only [Act.put]
      simp only [List.setIfInBounds_toArray, List.set_cons_zero, List.set_cons_succ]
      refine wpAnyH_take (i := 23) (oi := ⟨some 44, _, _, _, _, _⟩) (v := .bool false) rfl (by kernel_rfl) (by kernel_rfl) (by kernel_rfl) (fun _ _ _ h => h) (Or.inl ⟨by rfl, ?_⟩) HS0.out ?_
      · intro w hSw
        go_simp <;> with_reducible rfl
      dsimp only [Act.put]
      simp only [List.setIfInBounds_toArray, List.set_cons_zero, List.set_cons_succ]
      refine wpAnyH_take (i := 24) (oi := ⟨some 45, _, _, _, _, _⟩) (v := .bool false) rfl (by kernel_rfl) (by kernel_rfl) (by kernel_rfl) (fun _ _ _ h => h) (Or.inl ⟨by rfl, ?_⟩) HS0.out ?_
      · intro w hSw
        go_simp <;> with_reducible rfl
      dsimp only [Act.put]
      simp only [List.setIfInBounds_toArray, List.set_cons_zero, List.set_cons_succ]
      refine wpAnyH_take (i := 25) (oi := ⟨some 46, _, _, _, _, _⟩) (v := .int .i64 m) rfl (by kernel_rfl) (by kernel_rfl) (by kernel_rfl) (fun _ _ _ h => h) (Or.inl ⟨by rfl, ?_⟩) HS0.out ?_
      · intro w hSw
        go_simp <;> with_reducible rfl
      dsimp only [Act.put]
      simp only [List.setIfInBounds_toArray, List.set_cons_zero, List.set_cons_succ]
      refine wpAnyH_one (i := 26) (oi := ⟨some 47, _, _, _, _, _⟩) (by kernel_rfl) rfl (by rfl) (fun K9 hK9 => ?_)
      have HK9 := Lib.hid hK9
      clear hK9
      go_simp
      with_reducible refine (once_any m w15).mono ?_
      rintro e w16 ⟨rfl, hb9⟩
      dsimp only
      have HS1 := Lib.hid (HS0.out.below hb9)
      have HB1 := Lib.hid (HB8.out.trans (hb9.mono HB8z.out))
      have HZ1 := Lib.hid (Nat.le_trans HB8z.out hb9.size)
      clear HS0 HB8 HB8z hb9
      have HS0 := HS1
      have HB8 := HB1
      have HB8z := HZ1
      clear HS1 HB1 HZ1
      refine HK9.out _ _ HS0.out ?_
      clear HK9
      simp only [List.setIfInBounds_toArray, List.set_cons_zero, List.set_cons_succ]
      refine wpAnyH_take (i := 27) (oi := ⟨some 48, _, _, _, _, _⟩) (v := .bool false) rfl (by kernel_rfl) (by kernel_rfl) (by kernel_rfl) (fun _ _ _ h => h) (Or.inl ⟨by rfl, ?_⟩) HS0.out ?_
      · intro w hSw
        go_simp <;> with_reducible rfl
      dsimp only [Act.put]
      simp only [List.setIfInBounds_toArray, List.set_cons_zero, List.set_cons_succ]
      refine wpAnyH_take (i := 28) (oi := ⟨some 49, _, _, _, _, _⟩) (v := .bool false) rfl (by kernel_rfl) (by kernel_rfl) (by kernel_rfl) (fun _ _ _ h => h) (Or.inl ⟨by rfl, ?_⟩) HS0.out ?_
      · intro w hSw
        go_simp <;> with_reducible rfl
      dsimp only [Act.put]
      simp only [List.setIfInBounds_toArray, List.set_cons_zero, List.set_cons_succ]
      refine wpAnyH_done (by kernel_rfl) ?_ _
      go_upto_region 6 with fail
      go_step
      refine wpList_load_mid (P := Tryz.prog) rfl 30 _ rfl g 0 rfl _ _ HS0.out.A.range Tryz.underlying30 rfl HSAz.out ?_
      have HC := Lib.hid (HF2.out w16 HS0.out.a)
      go_wp2_with fail
      with_reducible refine (HC.out).mono ?_
      rintro e w17 ⟨rfl, hb9⟩
      dsimp only
      have HS1 := Lib.hid (HS0.out.below hb9)
      have HB1 := Lib.hid (HB8.out.trans (hb9.mono HB8z.out))
      have HZ1 := Lib.hid (Nat.le_trans HB8z.out hb9.size)
      clear HS0 HB8 HB8z hb9
      have HS0 := HS1
      have HB8 := HB1
      have HB8z := HZ1
      clear HS1 HB1 HZ1
      clear HC
      go_upto_region 8 with fail
      go_step
      iterate 3 (first | go_values | go_skip | go_guarded | go_step | go_upon)
      refine wpList_load_mid (P := Tryz.prog) rfl 30 _ rfl g 0 rfl _ _ HS0.out.A.range Tryz.underlying30 rfl HSAz.out ?_
      have HC := Lib.hid (ract_any a w17 HS0.out.a HS0.out.t HM.out K HK.out.1 HK.out.2.1 HK.out.2.2)
      rw [HRES.out] at HC
      go_wp2_with fail
      with_reducible refine (HC.out).mono ?_
      rintro e w18 ⟨rfl, hb9⟩
      dsimp only
      have HS1 := Lib.hid (HS0.out.below hb9)
      have HB1 := Lib.hid (HB8.out.trans (hb9.mono HB8z.out))
      have HZ1 := Lib.hid (Nat.le_trans HB8z.out hb9.size)
      clear HS0 HB8 HB8z hb9
      have HS0 := HS1
      have HB8 := HB1
      have HB8z := HZ1
      clear HS1 HB1 HZ1
      clear HC
      have HC := Lib.hid (lnum_any 0 w18)
      go_wp2_with fail
      with_reducible refine (HC.out).mono ?_
      rintro e w19 ⟨rfl, hb9⟩
      dsimp only
      have HS1 := Lib.hid (HS0.out.below hb9)
      have HB1 := Lib.hid (HB8.out.trans (hb9.mono HB8z.out))
      have HZ1 := Lib.hid (Nat.le_trans HB8z.out hb9.size)
      clear HS0 HB8 HB8z hb9
      have HS0 := HS1
      have HB8 := HB1
      have HB8z := HZ1
      clear HS1 HB1 HZ1
      clear HC
      have HC := Lib.hid (known_any w19 HS0.out.t)
      go_wp2_with fail
      with_reducible refine (HC.out).mono ?_
      rintro e w20 ⟨rfl, hb9⟩
      dsimp only
      have HS1 := Lib.hid (HS0.out.below hb9)
      have HB1 := Lib.hid (HB8.out.trans (hb9.mono HB8z.out))
      have HZ1 := Lib.hid (Nat.le_trans HB8z.out hb9.size)
      clear HS0 HB8 HB8z hb9
      have HS0 := HS1
      have HB8 := HB1
      have HB8z := HZ1
      clear HS1 HB1 HZ1
      clear HC
      go_wp2
      go_ret
      exact ⟨rfl, by rw [HG.out]; exact HB8.out⟩
set_option maxRecDepth 100000 in
set_option maxHeartbeats 6400000 in
theorem acts_no (a b : ActM) (m : Int) (w : World) (ha : a.ok w) (hb : b.ok w) (ht : TabO w) (hM : ¬ MayP a) :
    Calls Tryz.prog 3 #[.agg a.cells.toArray, .agg b.cells.toArray, .int .i64 m] w fun e w' => e = .returned (.bool true) ∧ Below w.heap.size w w' := by
  have HM := Lib.hid hM
  clear hM
  have HAz := Lib.hid (size_actx ha)
  have HBz := Lib.hid (size_actx hb)
  have HA0 := Lib.hid ha
  have HB0 := Lib.hid hb
  have HT0 := Lib.hid ht
  clear ha hb ht
  go_enter Tryz.func3, Tryz.ntmps3
  go_upto_region 1 with fail
  have hpk := two_laid w a.cells b.cells 30 30 _ rfl
  have HS0 := Lib.hid (show LwS w.heap.size a b _ from ⟨hpk.1, hpk.2.1, HA0.out.below hpk.2.2, HB0.out.below hpk.2.2, HT0.out.below hpk.2.2⟩)
  have HB8 := Lib.hid hpk.2.2
  clear hpk
  generalize World.alloc (World.alloc _ _) _ = w1 at *
  obtain ⟨g, hg⟩ : ∃ g, w.heap.size = g := ⟨_, rfl⟩
  have HB8z := Lib.hid (show g ≤ w1.heap.size by rw [← hg]; exact HB8.out.size)
  rw [hg] at HS0 HB8 ⊢
  have HG := Lib.hid hg
  clear hg HA0 HB0 HT0
  have HSAz := HAz
  have HSBz := HBz
  clear HAz HBz
  go_step
  refine wpList_load_mid (P := Tryz.prog) rfl 30 _ rfl g 0 rfl _ _ HS0.out.A.range Tryz.underlying30 rfl HSAz.out ?_
  have HC := Lib.hid (big_any a w1 HS0.out.a)
  go_wp2_with fail
  with_reducible refine HC.out.mono ?_
  rintro e w2 ⟨b1, rfl, hb9⟩
  dsimp only
  have HS1 := Lib.hid (HS0.out.below hb9)
  have HB1 := Lib.hid (HB8.out.trans (hb9.mono HB8z.out))
  have HZ1 := Lib.hid (Nat.le_trans HB8z.out hb9.size)
  clear HS0 HB8 HB8z hb9
  have HS0 := HS1
  have HB8 := HB1
  have HB8z := HZ1
  clear HS1 HB1 HZ1
  clear HC
  cases b1 with
  | true =>
    go_upto_region 2 with fail
    have HC := Lib.hid (known_any w2 HS0.out.t)
    go_wp2_with fail
    with_reducible refine (HC.out).mono ?_
    rintro e w9 ⟨rfl, hb9⟩
    dsimp only
    have HS1 := Lib.hid (HS0.out.below hb9)
    have HB1 := Lib.hid (HB8.out.trans (hb9.mono HB8z.out))
    have HZ1 := Lib.hid (Nat.le_trans HB8z.out hb9.size)
    clear HS0 HB8 HB8z hb9
    have HS0 := HS1
    have HB8 := HB1
    have HB8z := HZ1
    clear HS1 HB1 HZ1
    clear HC
    go_wp2
    go_ret
    exact ⟨rfl, by rw [HG.out]; exact HB8.out⟩
  | false =>
    iterate 4 (first | go_values | go_skip | go_guarded | go_step | go_upon)
    refine wpList_step (fun K9 hK9 => ?_)
    rw [if_pos (by kernel_rfl)]
    refine wp_load_mid (P := Tryz.prog) 30 _ rfl (g + 1) 0 rfl _ _ HS0.out.B.range Tryz.underlying30 rfl HSBz.out ?_
    refine hK9 _ _ ?_
    clear hK9 K9
    dsimp only [Act.put]
    simp only [List.setIfInBounds_toArray, List.set_cons_zero, List.set_cons_succ]
    have HC := Lib.hid (big_any b w2 HS0.out.b)
    go_wp2_with fail
    with_reducible refine HC.out.mono ?_
    rintro e w3 ⟨b2, rfl, hb9⟩
    dsimp only
    have HS1 := Lib.hid (HS0.out.below hb9)
    have HB1 := Lib.hid (HB8.out.trans (hb9.mono HB8z.out))
    have HZ1 := Lib.hid (Nat.le_trans HB8z.out hb9.size)
    clear HS0 HB8 HB8z hb9
    have HS0 := HS1
    have HB8 := HB1
    have HB8z := HZ1
    clear HS1 HB1 HZ1
    clear HC
    cases b2 with
    | true =>
      go_upto_region 2 with fail
      have HC := Lib.hid (known_any w3 HS0.out.t)
      go_wp2_with fail
      with_reducible refine (HC.out).mono ?_
      rintro e w9 ⟨rfl, hb9⟩
      dsimp only
      have HS1 := Lib.hid (HS0.out.below hb9)
      have HB1 := Lib.hid (HB8.out.trans (hb9.mono HB8z.out))
      have HZ1 := Lib.hid (Nat.le_trans HB8z.out hb9.size)
      clear HS0 HB8 HB8z hb9
      have HS0 := HS1
      have HB8 := HB1
      have HB8z := HZ1
      clear HS1 HB1 HZ1
      clear HC
      go_wp2
      go_ret
      exact ⟨rfl, by rw [HG.out]; exact HB8.out⟩
    | false =>
      go_upto_region 3 with fail
      go_step
      refine wpList_load_mid (P := Tryz.prog) rfl 30 _ rfl g 0 rfl _ _ HS0.out.A.range Tryz.underlying30 rfl HSAz.out ?_
      have HC := Lib.hid (stext_no a w3 HS0.out.a HM.out)
      go_wp2_with fail
      with_reducible refine (HC.out).mono ?_
      rintro e w8 ⟨rfl, hb9⟩
      dsimp only
      have HS1 := Lib.hid (HS0.out.below hb9)
      have HB1 := Lib.hid (HB8.out.trans (hb9.mono HB8z.out))
      have HZ1 := Lib.hid (Nat.le_trans HB8z.out hb9.size)
      clear HS0 HB8 HB8z hb9
      have HS0 := HS1
      have HB8 := HB1
      have HB8z := HZ1
      clear HS1 HB1 HZ1
      clear HC
      go_upto_region 4 with fail
      have HS1 := Lib.hid (HS0.out.below (Below.refl _ _).drew)
      have HB1 := Lib.hid HB8.out.drew
      have HZ1 := Lib.hid (show g ≤ w8.drew.heap.size from HB8z.out)
      clear HS0 HB8 HB8z
      have HS0 := HS1
      have HB8 := HB1
      have HB8z := HZ1
      clear HS1 HB1 HZ1
      have HF1 := Lib.hid (fun w9 (h : a.ok w9) => smayact_any a w9 h false ⟨(fun h => by cases h), fun h => (HM.out h).elim⟩)
      have HF2 := Lib.hid (fun w9 (h : a.ok w9) => rmayact_any a w9 h false ⟨(fun h => by cases h), fun h => (HM.out h).elim⟩)
      obtain ⟨E, hE⟩ : ∃ E, actEq a b = E := ⟨_, rfl⟩
      have HQ1 := Lib.hid (fun w9 (h : a.ok w9) (h' : b.ok w9) => sact_any a b w9 h h')
      have HQ2 := Lib.hid (fun w9 (h : a.ok w9) (h' : b.ok w9) => rsact_any a b w9 h h')
      have HQ3 := Lib.hid (fun w9 (h : a.ok w9) => sact_any a a w9 h h)
      rw [actEq_self] at HQ3
      rw [hE] at HQ1 HQ2
      clear hE
      refine wp_region_H (LwS g a b) (by kernel_rfl) ?_
      generalize World.drew _ = w9 at *
      simp only [List.size_toArray, List.length_cons, List.length_nil, Nat.reduceAdd, Array.replicate_succ, Array.replicate_zero, List.push_toArray, List.nil_append, List.cons_append]
      refine wpAnyH_take (i := 0) (oi := ⟨some 21, _, _, _, _, _⟩) rfl (by kernel_rfl) (by kernel_rfl) (by kernel_rfl) (fun _ _ _ h => h) (yieldsIf_load_mid (by rfl) 30 (.tmp 3) rfl (g) (0) rfl (a.cells) _ (fun w h => h.A.range) Tryz.underlying30 rfl HSAz.out) HS0.out ?_
      dsimp only [Act.put]
      simp only [List.setIfInBounds_toArray, List.set_cons_zero, List.set_cons_succ]
      refine wpAnyH_take (i := 2) (oi := ⟨some 23, _, _, _, _, _⟩) rfl (by kernel_rfl) (by kernel_rfl) (by kernel_rfl) (fun _ _ _ h => h) (yieldsIf_load_mid (by rfl) 30 (.tmp 3) rfl (g) (0) rfl (a.cells) _ (fun w h => h.A.range) Tryz.underlying30 rfl HSAz.out) HS0.out ?_
      dsimp only [Act.put]
      simp only [List.setIfInBounds_toArray, List.set_cons_zero, List.set_cons_succ]
      refine wpAnyH_one (i := 1) (oi := ⟨some 22, _, _, _, _, _⟩) (by kernel_rfl) rfl (by rfl) (fun K9 hK9 => ?_)
      have HK9 := Lib.hid hK9
      clear hK9
      go_simp
      with_reducible refine (HF1.out w9 HS0.out.a).mono ?_
      rintro e w10 ⟨rfl, hb9⟩
      dsimp only
      have HS1 := Lib.hid (HS0.out.below hb9)
      have HB1 := Lib.hid (HB8.out.trans (hb9.mono HB8z.out))
      have HZ1 := Lib.hid (Nat.le_trans HB8z.out hb9.size)
      clear HS0 HB8 HB8z hb9
      have HS0 := HS1
      have HB8 := HB1
      have HB8z := HZ1
      clear HS1 HB1 HZ1
      refine HK9.out _ _ HS0.out ?_
      clear HK9
      simp only [List.setIfInBounds_toArray, List.set_cons_zero, List.set_cons_succ]
      refine wpAnyH_one (i := 3) (oi := ⟨some 24, _, _, _, _, _⟩) (by kernel_rfl) rfl (by rfl) (fun K9 hK9 => ?_)
      have HK9 := Lib.hid hK9
      clear hK9
      go_simp
      with_reducible refine (HF2.out w10 HS0.out.a).mono ?_
      rintro e w11 ⟨rfl, hb9⟩
      dsimp only
      have HS1 := Lib.hid (HS0.out.below hb9)
      have HB1 := Lib.hid (HB8.out.trans (hb9.mono HB8z.out))
      have HZ1 := Lib.hid (Nat.le_trans HB8z.out hb9.size)
      clear HS0 HB8 HB8z hb9
      have HS0 := HS1
      have HB8 := HB1
      have HB8z := HZ1
      clear HS1 HB1 HZ1
      refine HK9.out _ _ HS0.out ?_
      clear HK9
      simp only [List.setIfInBounds_toArray, List.set_cons_zero, List.set_cons_succ]
      refine wpAnyH_take (i := 4) (oi := ⟨some 25, _, _, _, _, _⟩) (v := .bool false) rfl (by kernel_rfl) (by kernel_rfl) (by kernel_rfl) (fun _ _ _ h => h) (Or.inl ⟨by rfl, ?_⟩) HS0.out ?_
      · intro w hSw
        go_simp <;> with_reducible rfl
      dsimp only [Act.put]
      simp only [List.setIfInBounds_toArray, List.set_cons_zero, List.set_cons_succ]
      refine wpAnyH_take (i := 5) (oi := ⟨some 26, _, _, _, _, _⟩) (v := .bool false) rfl (by kernel_rfl) (by kernel_rfl) (by kernel_rfl) (fun _ _ _ h => h) (Or.inl ⟨by rfl, ?_⟩) HS0.out ?_
      · intro w hSw
        go_simp <;> with_reducible rfl
      dsimp only [Act.put]
      simp only [List.setIfInBounds_toArray, List.set_cons_zero, List.set_cons_succ]
      refine wpAnyH_take (i := 6) (oi := ⟨some 27, _, _, _, _, _⟩) rfl (by kernel_rfl) (by kernel_rfl) (by kernel_rfl) (fun _ _ _ h => h) (yieldsIf_load_mid (by rfl) 30 (.tmp 3) rfl (g) (0) rfl (a.cells) _ (fun w h => h.A.range) Tryz.underlying30 rfl HSAz.out) HS0.out ?_
      dsimp only [Act.put]
      simp only [List.setIfInBounds_toArray, List.set_cons_zero, List.set_cons_succ]
      refine wpAnyH_take (i := 7) (oi := ⟨some 28, _, _, _, _, _⟩) rfl (by kernel_rfl) (by kernel_rfl) (by kernel_rfl) (fun _ _ _ h => h) (yieldsIf_load_mid (by rfl) 30 (.tmp 4) rfl ((g + 1)) (0) rfl (b.cells) _ (fun w h => h.B.range) Tryz.underlying30 rfl HSBz.out) HS0.out ?_
      dsimp only [Act.put]
      simp only [List.setIfInBounds_toArray, List.set_cons_zero, List.set_cons_succ]
      refine wpAnyH_take (i := 9) (oi := ⟨some 30, _, _, _, _, _⟩) rfl (by kernel_rfl) (by kernel_rfl) (by kernel_rfl) (fun _ _ _ h => h) (yieldsIf_load_mid (by rfl) 30 (.tmp 3) rfl (g) (0) rfl (a.cells) _ (fun w h => h.A.range) Tryz.underlying30 rfl HSAz.out) HS0.out ?_
      dsimp only [Act.put]
      simp only [List.setIfInBounds_toArray, List.set_cons_zero, List.set_cons_succ]
      refine wpAnyH_take (i := 10) (oi := ⟨some 31, _, _, _, _, _⟩) rfl (by kernel_rfl) (by kernel_rfl) (by kernel_rfl) (fun _ _ _ h => h) (yieldsIf_load_mid (by rfl) 30 (.tmp 4) rfl ((g + 1)) (0) rfl (b.cells) _ (fun w h => h.B.range) Tryz.underlying30 rfl HSBz.out) HS0.out ?_
      dsimp only [Act.put]
      simp only [List.setIfInBounds_toArray, List.set_cons_zero, List.set_cons_succ]
      refine wpAnyH_one (i := 8) (oi := ⟨some 29, _, _, _, _, _⟩) (by kernel_rfl) rfl (by rfl) (fun K9 hK9 => ?_)
      have HK9 := Lib.hid hK9
      clear hK9
      go_simp
      with_reducible refine (HQ1.out w11 HS0.out.a HS0.out.b).mono ?_
      rintro e w12 ⟨rfl, hb9⟩
      dsimp only
      have HS1 := Lib.hid (HS0.out.below hb9)
      have HB1 := Lib.hid (HB8.out.trans (hb9.mono HB8z.out))
      have HZ1 := Lib.hid (Nat.le_trans HB8z.out hb9.size)
      clear HS0 HB8 HB8z hb9
      have HS0 := HS1
      have HB8 := HB1
      have HB8z := HZ1
      clear HS1 HB1 HZ1
      refine HK9.out _ _ HS0.out ?_
      clear HK9
      simp only [List.setIfInBounds_toArray, List.set_cons_zero, List.set_cons_succ]
      refine wpAnyH_one (i := 11) (oi := ⟨some 32, _, _, _, _, _⟩) (by kernel_rfl) rfl (by rfl) (fun K9 hK9 => ?_)
      have HK9 := Lib.hid hK9
      clear hK9
      go_simp
      with_reducible refine (HQ2.out w12 HS0.out.a HS0.out.b).mono ?_
      rintro e w13 ⟨rfl, hb9⟩
      dsimp only
      have HS1 := Lib.hid (HS0.out.below hb9)
      have HB1 := Lib.hid (HB8.out.trans (hb9.mono HB8z.out))
      have HZ1 := Lib.hid (Nat.le_trans HB8z.out hb9.size)
      clear HS0 HB8 HB8z hb9
      have HS0 := HS1
      have HB8 := HB1
      have HB8z := HZ1
      clear HS1 HB1 HZ1
      refine HK9.out _ _ HS0.out ?_
      clear HK9
      simp only [List.setIfInBounds_toArray, List.set_cons_zero, List.set_cons_succ]
      refine wpAnyH_take (i := 12) (oi := ⟨some 33, _, _, _, _, _⟩) (v := .bool false) rfl (by kernel_rfl) (by kernel_rfl) (by kernel_rfl) (fun _ _ _ h => h) (Or.inl ⟨by rfl, ?_⟩) HS0.out ?_
      · intro w hSw
        go_simp <;> (first | with_reducible rfl | (cases E <;> rfl))
      dsimp only [Act.put]
      simp only [List.setIfInBounds_toArray, List.set_cons_zero, List.set_cons_succ]
      refine wpAnyH_take (i := 13) (oi := ⟨some 34, _, _, _, _, _⟩) (v := .bool false) rfl (by kernel_rfl) (by kernel_rfl) (by kernel_rfl) (fun _ _ _ h => h) (Or.inl ⟨by rfl, ?_⟩) HS0.out ?_
      · intro w hSw
        go_simp <;> with_reducible rfl
      dsimp only [Act.put]
      simp only [List.setIfInBounds_toArray, List.set_cons_zero, List.set_cons_succ]
      refine wpAnyH_take (i := 14) (oi := ⟨some 35, _, _, _, _, _⟩) (v := .bool false) rfl (by kernel_rfl) (by kernel_rfl) (by kernel_rfl) (fun _ _ _ h => h) (Or.inl ⟨by rfl, ?_⟩) HS0.out ?_
      · intro w hSw
        go_simp <;> with_reducible rfl
      dsimp only [Act.put]
      simp only [List.setIfInBounds_toArray, List.set_cons_zero, List.set_cons_succ]
      refine wpAnyH_take (i := 15) (oi := ⟨some 36, _, _, _, _, _⟩) rfl (by kernel_rfl) (by kernel_rfl) (by kernel_rfl) (fun _ _ _ h => h) (yieldsIf_load_mid (by rfl) 30 (.tmp 3) rfl (g) (0) rfl (a.cells) _ (fun w h => h.A.range) Tryz.underlying30 rfl HSAz.out) HS0.out ?_
      dsimp only [Act.put]
      simp only [List.setIfInBounds_toArray, List.set_cons_zero, List.set_cons_succ]
      refine wpAnyH_take (i := 16) (oi := ⟨some 37, _, _, _, _, _⟩) rfl (by kernel_rfl) (by kernel_rfl) (by kernel_rfl) (fun _ _ _ h => h) (yieldsIf_load_mid (by rfl) 30 (.tmp 3) rfl (g) (0) rfl (a.cells) _ (fun w h => h.A.range) Tryz.underlying30 rfl HSAz.out) HS0.out ?_
      dsimp only [Act.put]
      simp only [List.setIfInBounds_toArray, List.set_cons_zero, List.set_cons_succ]
      refine wpAnyH_one (i := 17) (oi := ⟨some 38, _, _, _, _, _⟩) (by kernel_rfl) rfl (by rfl) (fun K9 hK9 => ?_)
      have HK9 := Lib.hid hK9
      clear hK9
      go_simp
      with_reducible refine (HQ3.out w13 HS0.out.a).mono ?_
      rintro e w14 ⟨rfl, hb9⟩
      dsimp only
      have HS1 := Lib.hid (HS0.out.below hb9)
      have HB1 := Lib.hid (HB8.out.trans (hb9.mono HB8z.out))
      have HZ1 := Lib.hid (Nat.le_trans HB8z.out hb9.size)
      clear HS0 HB8 HB8z hb9
      have HS0 := HS1
      have HB8 := HB1
      have HB8z := HZ1
      clear HS1 HB1 HZ1
      refine HK9.out _ _ HS0.out ?_
      clear HK9
      simp only [List.setIfInBounds_toArray, List.set_cons_zero, List.set_cons_succ]
      refine wpAnyH_take (i := 18) (oi := ⟨some 39, _, _, _, _, _⟩) (v := .bool false) rfl (by kernel_rfl) (by kernel_rfl) (by kernel_rfl) (fun _ _ _ h => h) (Or.inl ⟨by rfl, ?_⟩) HS0.out ?_
      · intro w hSw
        go_simp <;> with_reducible rfl
      dsimp only [Act.put]
      simp only [List.setIfInBounds_toArray, List.set_cons_zero, List.set_cons_succ]
      refine wpAnyH_take (i := 19) (oi := ⟨some 40, _, _, _, _, _⟩) (v := .bool false) rfl (by kernel_rfl) (by kernel_rfl) (by kernel_rfl) (fun _ _ _ h => h) (Or.inl ⟨by rfl, ?_⟩) HS0.out ?_
      · intro w hSw
        go_simp <;> with_reducible rfl
      dsimp only [Act.put]
      simp only [List.setIfInBounds_toArray, List.set_cons_zero, List.set_cons_succ]
      refine wpAnyH_take (i := 20) (oi := ⟨some 41, _, _, _, _, _⟩) (v := .bool false) rfl (by kernel_rfl) (by kernel_rfl) (by kernel_rfl) (fun _ _ _ h => h) (Or.inl ⟨by rfl, ?_⟩) HS0.out ?_
      · intro w hSw
        go_simp <;> with_reducible rfl
      dsimp only [Act.put]
      simp only [List.setIfInBounds_toArray, List.set_cons_zero, List.set_cons_succ]
      refine wpAnyH_one (i := 21) (oi := ⟨some 42, _, _, _, _, _⟩) (by kernel_rfl) rfl (by rfl) (fun K9 hK9 => ?_)
      have HK9 := Lib.hid hK9
      clear hK9
      go_simp
      with_reducible refine (once_any 0 w14).mono ?_
      rintro e w15 ⟨rfl, hb9⟩
      dsimp only
      have HS1 := Lib.hid (HS0.out.below hb9)
      have HB1 := Lib.hid (HB8.out.trans (hb9.mono HB8z.out))
      have HZ1 := Lib.hid (Nat.le_trans HB8z.out hb9.size)
      clear HS0 HB8 HB8z hb9
      have HS0 := HS1
      have HB8 := HB1
      have HB8z := HZ1
      clear HS1 HB1 HZ1
      refine HK9.out _ _ HS0.out ?_
      clear HK9
      simp only [List.setIfInBounds_toArray, List.set_cons_zero, List.set_cons_succ]
      refine wpAnyH_take (i := 22) (oi := ⟨some 43, _, _, _, _, _⟩) (v := .bool false) rfl (by kernel_rfl) (by kernel_rfl) (by kernel_rfl) (fun _ _ _ h => h) (Or.inl ⟨by rfl, ?_⟩) HS0.out ?_
      · intro w hSw
        go_simp <;> with_reducible rfl
      dsimp only [Act.put]
      simp only [List.setIfInBounds_toArray, List.set_cons_zero, List.set_cons_succ]
      refine wpAnyH_take (i := 23) (oi := ⟨some 44, _, _, _, _, _⟩) (v := .bool false) rfl (by kernel_rfl) (by kernel_rfl) (by kernel_rfl) (fun _ _ _ h => h) (Or.inl ⟨by rfl, ?_⟩) HS0.out ?_
      · intro w hSw
        go_simp <;> with_reducible rfl
      dsimp only [Act.put]
      simp only [List.setIfInBounds_toArray, List.set_cons_zero, List.set_cons_succ]
      refine wpAnyH_take (i := 24) (oi := ⟨some 45, _, _, _, _, _⟩) (v := .bool false) rfl (by kernel_rfl) (by kernel_rfl) (by kernel_rfl) (fun _ _ _ h => h) (Or.inl ⟨by rfl, ?_⟩) HS0.out ?_
      · intro w hSw
        go_simp <;> with_reducible rfl
      dsimp only [Act.put]
      simp only [List.setIfInBounds_toArray, List.set_cons_zero, List.set_cons_succ]
      refine wpAnyH_take (i := 25) (oi := ⟨some 46, _, _, _, _, _⟩) (v := .int .i64 m) rfl (by kernel_rfl) (by kernel_rfl) (by kernel_rfl) (fun _ _ _ h => h) (Or.inl ⟨by rfl, ?_⟩) HS0.out ?_
      · intro w hSw
        go_simp <;> with_reducible rfl
      dsimp only [Act.put]
      simp only [List.setIfInBounds_toArray, List.set_cons_zero, List.set_cons_succ]
      refine wpAnyH_one (i := 26) (oi := ⟨some 47, _, _, _, _, _⟩) (by kernel_rfl) rfl (by rfl) (fun K9 hK9 => ?_)
      have HK9 := Lib.hid hK9
      clear hK9
      go_simp
      with_reducible refine (once_any m w15).mono ?_
      rintro e w16 ⟨rfl, hb9⟩
      dsimp only
      have HS1 := Lib.hid (HS0.out.below hb9)
      have HB1 := Lib.hid (HB8.out.trans (hb9.mono HB8z.out))
      have HZ1 := Lib.hid (Nat.le_trans HB8z.out hb9.size)
      clear HS0 HB8 HB8z hb9
      have HS0 := HS1
      have HB8 := HB1
      have HB8z := HZ1
      clear HS1 HB1 HZ1
      refine HK9.out _ _ HS0.out ?_
      clear HK9
      simp only [List.setIfInBounds_toArray, List.set_cons_zero, List.set_cons_succ]
      refine wpAnyH_take (i := 27) (oi := ⟨some 48, _, _, _, _, _⟩) (v := .bool false) rfl (by kernel_rfl) (by kernel_rfl) (by kernel_rfl) (fun _ _ _ h => h) (Or.inl ⟨by rfl, ?_⟩) HS0.out ?_
      · intro w hSw
        go_simp <;> with_reducible rfl
      dsimp only [Act.put]
      simp only [List.setIfInBounds_toArray, List.set_cons_zero, List.set_cons_succ]
      refine wpAnyH_take (i := 28) (oi := ⟨some 49, _, _, _, _, _⟩) (v := .bool false) rfl (by kernel_rfl) (by kernel_rfl) (by kernel_rfl) (fun _ _ _ h => h) (Or.inl ⟨by rfl, ?_⟩) HS0.out ?_
      · intro w hSw
        go_simp <;> with_reducible rfl
      dsimp only [Act.put]
      simp only [List.setIfInBounds_toArray, List.set_cons_zero, List.set_cons_succ]
      refine wpAnyH_done (by kernel_rfl) ?_ _
      go_upto_region 6 with fail
      go_step
      refine wpList_load_mid (P := Tryz.prog) rfl 30 _ rfl g 0 rfl _ _ HS0.out.A.range Tryz.underlying30 rfl HSAz.out ?_
      have HC := Lib.hid (HF2.out w16 HS0.out.a)
      go_wp2_with fail
      with_reducible refine (HC.out).mono ?_
      rintro e w17 ⟨rfl, hb9⟩
      dsimp only
      have HS1 := Lib.hid (HS0.out.below hb9)
      have HB1 := Lib.hid (HB8.out.trans (hb9.mono HB8z.out))
      have HZ1 := Lib.hid (Nat.le_trans HB8z.out hb9.size)
      clear HS0 HB8 HB8z hb9
      have HS0 := HS1
      have HB8 := HB1
      have HB8z := HZ1
      clear HS1 HB1 HZ1
      clear HC
      go_upto_region 7 with fail
      have HC := Lib.hid (lnum_any 2 w17)
      go_wp2_with fail
      with_reducible refine (HC.out).mono ?_
      rintro e w18 ⟨rfl, hb9⟩
      dsimp only
      have HS1 := Lib.hid (HS0.out.below hb9)
      have HB1 := Lib.hid (HB8.out.trans (hb9.mono HB8z.out))
      have HZ1 := Lib.hid (Nat.le_trans HB8z.out hb9.size)
      clear HS0 HB8 HB8z hb9
      have HS0 := HS1
      have HB8 := HB1
      have HB8z := HZ1
      clear HS1 HB1 HZ1
      clear HC
      have HC := Lib.hid (known_any w18 HS0.out.t)
      go_wp2_with fail
      with_reducible refine (HC.out).mono ?_
      rintro e w19 ⟨rfl, hb9⟩
      dsimp only
      have HS1 := Lib.hid (HS0.out.below hb9)
      have HB1 := Lib.hid (HB8.out.trans (hb9.mono HB8z.out))
      have HZ1 := Lib.hid (Nat.le_trans HB8z.out hb9.size)
      clear HS0 HB8 HB8z hb9
      have HS0 := HS1
      have HB8 := HB1
      have HB8z := HZ1
      clear HS1 HB1 HZ1
      clear HC
      go_wp2
      go_ret
      exact ⟨rfl, by rw [HG.out]; exact HB8.out⟩
theorem acts_walk (a b : ActM) (m : Int) (w : World) (ha : a.ok w) (hb : b.ok w) (ht : TabO w) :
    Calls Tryz.prog 3 #[.agg a.cells.toArray, .agg b.cells.toArray, .int .i64 m] w fun e w' => e = .returned (.bool true) ∧ Below w.heap.size w w' := by
  by_cases hM : MayP a
  · exact acts_yes a b m w ha hb ht hM
  · exact acts_no a b m w ha hb ht hM
end Go.Proofs.YtnohfondkcbdnaaGreatDoor
