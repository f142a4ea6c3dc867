/- plexusref29.ActText. -/
import Derived.Test.YtnohfondkcbdnaaGreatDoorG21
import Derived.Test.YtnohfondkcbdnaaGreatDoorG11
namespace Go.Proofs.YtnohfondkcbdnaaGreatDoor
open Go.RowKit Go.Lib
set_option linter.unusedVariables false
set_option linter.unusedSimpArgs false
attribute [local go_sem ↓] Go.wp_at_zero Go.wp_at_succ

def RActS (g : Nat) (a : ActM) (w : World) : Prop := ActAt w g a ∧ a.ok w ∧ TabO w
theorem RActS.below {g : Nat} {a : ActM} {w w' : World} (h : RActS g a w) (hb : Below w.heap.size w w') : RActS g a w' := ⟨h.1.below hb h.1.lt, h.2.1.below hb, h.2.2.below hb⟩
theorem ActAt.kindIs {w : World} {g : Nat} {a : ActM} (h : ActAt w g a) (K : Int) (hK : a.kind = K) : w.cell? ⟨g, 0, none⟩ = some (.int .i64 K) := by rw [← hK]; exact h.kind
theorem ActAt.lockB {w : World} {g : Nat} {a : ActM} (h : ActAt w g a) : Byts w (.slice (some ⟨g, 2, none⟩) 32 32) a.lock := rangeAt.byts h.lock h.2
theorem name_cell {w : World} {g : Nat} (h : Arr w g 9 rnamesC) (K : Nat) (N : ByteArray) (hN : nmB K = N) (hc : rnamesC[K]? = some (.string (nmB K))) : w.cell? ⟨g, K, none⟩ = some (.string N) := by
  rw [h.cell, hc, hN]
set_option maxRecDepth 100000 in
set_option maxHeartbeats 6400000 in
theorem ract1_any (a : ActM) (w : World) (ha : a.ok w) (ht : TabO w) (hm : MayP a) (hK : a.kind = 1) :
    Calls Tryz.prog 13 #[.agg a.cells.toArray] w fun e w' => e = .returned (.string (actTF a (nmB 1) (wsB 1))) ∧ Below w.heap.size w w' := by
  have HM := Lib.hid hm
  have HKk := Lib.hid hK
  obtain ⟨aB, cB, hbv⟩ := ha.B.form
  obtain ⟨aP, cP, hpv⟩ := ha.P.2.form
  obtain ⟨aT, cT, htv⟩ := ha.T.2.form
  have HV := Lib.hid (And.intro hbv (And.intro hpv htv))
  have HA0 := Lib.hid ha
  have HT0 := Lib.hid ht
  obtain ⟨N, hN⟩ : ∃ N, nmB 1 = N := ⟨_, rfl⟩
  have HNm := Lib.hid hN
  have hsN : N.size ≤ 10 := by rw [← hN]; decide
  obtain ⟨RES, hRES⟩ : ∃ RES, actTF a (nmB 1) (wsB 1) = RES := ⟨_, rfl⟩
  have HRES := Lib.hid hRES
  rw [hRES]
  clear hm ha ht hbv hpv htv hN hRES hK
  go_enter Tryz.func13, Tryz.ntmps13
  go_upto_region 1 with fail
  have hm := Arr.made w 30 a.cells
  have hb := (Below.refl w.heap.size w).alloc (Nat.le_refl _) (.cells a.cells.toArray 30)
  have HS0 := Lib.hid (show RActS w.heap.size a (World.drew (World.alloc _ _)) from ⟨⟨hm, HA0.out.lock⟩, HA0.out.below hb.drew, HT0.out.below hb.drew⟩)
  have HB8 := Lib.hid hb.drew
  obtain ⟨g, hg⟩ : ∃ g, w.heap.size = g := ⟨_, rfl⟩
  have HB8z := Lib.hid (show g ≤ (World.drew (World.alloc w (.cells a.cells.toArray 30))).heap.size by rw [← hg]; exact HB8.out.size)
  rw [hg] at HS0 HB8 ⊢
  have HG := Lib.hid hg
  clear hg hm hb
  refine wp_region_H (RActS g a) (by kernel_rfl) ?_
  generalize World.drew _ = w8 at *
  simp only [List.size_toArray, List.length_cons, List.length_nil, Nat.reduceAdd, Array.replicate_succ, Array.replicate_zero, List.push_toArray, List.nil_append, List.cons_append]
  refine wpAnyH_take (i := 1) (oi := ⟨some 7, _, _, _, _, _⟩) (v := ?_) rfl (by kernel_rfl) (by kernel_rfl) (by kernel_rfl) (fun _ _ _ h => h) (Or.inl ⟨by rfl, ?_⟩) HS0.out ?_
  rotate_left
  · intro w hSw
    go_simp <;> with_reducible rfl
  dsimp only [Act.put]
  simp only [List.setIfInBounds_toArray, List.set_cons_zero, List.set_cons_succ]
  refine wpAnyH_take (i := 2) (oi := ⟨some 8, _, _, _, _, _⟩) (v := .int .i64 1) rfl (by kernel_rfl) (by kernel_rfl) (by kernel_rfl) (fun _ _ _ h => h) (Or.inl ⟨by rfl, ?_⟩) HS0.out ?_
  · intro w hSw
    have hq := hSw.1.kindIs 1 HKk.out
    go_simp <;> with_reducible rfl
  dsimp only [Act.put]
  simp only [List.setIfInBounds_toArray, List.set_cons_zero, List.set_cons_succ]
  refine wpAnyH_one (i := 0) (oi := ⟨some 6, _, _, _, _, _⟩) (by kernel_rfl) rfl (by rfl) (fun K9 hK9 => ?_)
  have HK9 := Lib.hid hK9
  clear hK9
  go_simp
  refine (rnames_any w8).mono ?_
  rintro e w2 ⟨gN, rfl, hge, harr, hb9⟩
  dsimp only
  have HcN := Lib.hid (name_cell harr 1 N HNm.out rfl)
  clear hge harr
  have HS1 := Lib.hid (HS0.out.below hb9)
  have HB1 := Lib.hid (HB8.out.trans (hb9.mono HB8z.out))
  have HZ1 := Lib.hid (Nat.le_trans HB8z.out hb9.size)
  clear HS0 HB8 HB8z hb9
  have HS0 := HS1
  have HB8 := HB1
  have HB8z := HZ1
  clear HS1 HB1 HZ1
  refine HK9.out _ _ HS0.out ?_
  clear HK9
  simp only [List.setIfInBounds_toArray, List.set_cons_zero, List.set_cons_succ]
  refine wpAnyH_one (i := 3) (oi := ⟨some 9, _, _, _, _, _⟩) (by kernel_rfl) rfl (by rfl) (fun K9 hK9 => ?_)
  have HK9 := Lib.hid hK9
  clear hK9
  go_simp
  refine HK9.out _ _ HS0.out ?_
  clear HK9
  simp only [List.setIfInBounds_toArray, List.set_cons_zero, List.set_cons_succ]
  refine wpAnyH_one (i := 4) (oi := ⟨some 10, _, _, _, _, _⟩) (by kernel_rfl) rfl (by rfl) (fun K9 hK9 => ?_)
  have HK9 := Lib.hid hK9
  clear hK9
  have hq := HcN.out
  go_simp
  refine HK9.out _ _ HS0.out ?_
  clear HK9
  simp only [List.setIfInBounds_toArray, List.set_cons_zero, List.set_cons_succ]
  refine wpAnyH_take (i := 5) (oi := ⟨some 3, _, _, _, _, _⟩) (v := .string N) rfl (by kernel_rfl) (by kernel_rfl) (by kernel_rfl) (fun _ _ _ h => h) (Or.inl ⟨by rfl, ?_⟩) HS0.out ?_
  · intro w hSw
    go_simp <;> with_reducible rfl
  dsimp only [Act.put]
  simp only [List.setIfInBounds_toArray, List.set_cons_zero, List.set_cons_succ]
  refine wpAnyH_done (by kernel_rfl) ?_ _
  have HD := Lib.hid (decB_size a.nonce HS0.out.2.1.nonce)
  obtain ⟨D, hD⟩ : ∃ D, decB a.nonce = D := ⟨_, rfl⟩
  have hn_ := HS0.out.1.nonce
  have HC := Lib.hid (fmt_any a.nonce HS0.out.2.1.nonce w2 HS0.out.2.2)
  rw [hD] at HC HD
  have HDe := Lib.hid hD
  clear hD
  go_wp2_with fail
  with_reducible refine (HC.out).mono ?_
  rintro e w3 ⟨rfl, hb9⟩
  dsimp only
  have HS1 := Lib.hid (HS0.out.below hb9)
  have HB1 := Lib.hid (HB8.out.trans (hb9.mono HB8z.out))
  have HZ1 := Lib.hid (Nat.le_trans HB8z.out hb9.size)
  clear HS0 HB8 HB8z hb9
  have HS0 := HS1
  have HB8 := HB1
  have HB8z := HZ1
  clear HS1 HB1 HZ1
  clear hn_ HC HcN
  have hk_ := HS0.out.1.kindIs 1 HKk.out
  have hsD := HD.out
  obtain ⟨E, hE⟩ : ∃ E, strL (digF a.B) = E := ⟨_, rfl⟩
  have hsE : E.size ≤ 3000000 := by rw [← hE]; rw [strL_size]; have h1 := digF_len a.B; have h2 := HM.out.2.2.1; omega
  have HEe := Lib.hid hE
  clear hE
  have hb_ := HS0.out.1.bv
  have HC := Lib.hid (rdigits_any a.bv a.B w3 HS0.out.2.1.B (Nat.le_trans HM.out.2.2.1 (by decide)))
  rw [HEe.out] at HC
  rw [HV.out.1] at hb_ HC
  go_wp2_with fail
  with_reducible refine (HC.out).mono ?_
  rintro e w4 ⟨rfl, hb9⟩
  dsimp only
  have HS1 := Lib.hid (HS0.out.below hb9)
  have HB1 := Lib.hid (HB8.out.trans (hb9.mono HB8z.out))
  have HZ1 := Lib.hid (Nat.le_trans HB8z.out hb9.size)
  clear HS0 HB8 HB8z hb9
  have HS0 := HS1
  have HB8 := HB1
  have HB8z := HZ1
  clear HS1 HB1 HZ1
  clear hb_ HC hk_
  go_wp2
  go_ret
  exact ⟨by rw [← HRES.out, sum1 a N HNm.out, HEe.out]; rfl, by rw [HG.out]; exact HB8.out⟩
set_option maxRecDepth 100000 in
set_option maxHeartbeats 6400000 in
theorem ract2_any (a : ActM) (w : World) (ha : a.ok w) (ht : TabO w) (hm : MayP a) (hK : a.kind = 2) :
    Calls Tryz.prog 13 #[.agg a.cells.toArray] w fun e w' => e = .returned (.string (actTF a (nmB 2) (wsB 2))) ∧ Below w.heap.size w w' := by
  have HM := Lib.hid hm
  have HKk := Lib.hid hK
  obtain ⟨aB, cB, hbv⟩ := ha.B.form
  obtain ⟨aP, cP, hpv⟩ := ha.P.2.form
  obtain ⟨aT, cT, htv⟩ := ha.T.2.form
  have HV := Lib.hid (And.intro hbv (And.intro hpv htv))
  have HA0 := Lib.hid ha
  have HT0 := Lib.hid ht
  obtain ⟨N, hN⟩ : ∃ N, nmB 2 = N := ⟨_, rfl⟩
  have HNm := Lib.hid hN
  have hsN : N.size ≤ 10 := by rw [← hN]; decide
  obtain ⟨RES, hRES⟩ : ∃ RES, actTF a (nmB 2) (wsB 2) = RES := ⟨_, rfl⟩
  have HRES := Lib.hid hRES
  rw [hRES]
  clear hm ha ht hbv hpv htv hN hRES hK
  go_enter Tryz.func13, Tryz.ntmps13
  go_upto_region 1 with fail
  have hm := Arr.made w 30 a.cells
  have hb := (Below.refl w.heap.size w).alloc (Nat.le_refl _) (.cells a.cells.toArray 30)
  have HS0 := Lib.hid (show RActS w.heap.size a (World.drew (World.alloc _ _)) from ⟨⟨hm, HA0.out.lock⟩, HA0.out.below hb.drew, HT0.out.below hb.drew⟩)
  have HB8 := Lib.hid hb.drew
  obtain ⟨g, hg⟩ : ∃ g, w.heap.size = g := ⟨_, rfl⟩
  have HB8z := Lib.hid (show g ≤ (World.drew (World.alloc w (.cells a.cells.toArray 30))).heap.size by rw [← hg]; exact HB8.out.size)
  rw [hg] at HS0 HB8 ⊢
  have HG := Lib.hid hg
  clear hg hm hb
  refine wp_region_H (RActS g a) (by kernel_rfl) ?_
  generalize World.drew _ = w8 at *
  simp only [List.size_toArray, List.length_cons, List.length_nil, Nat.reduceAdd, Array.replicate_succ, Array.replicate_zero, List.push_toArray, List.nil_append, List.cons_append]
  refine wpAnyH_take (i := 1) (oi := ⟨some 7, _, _, _, _, _⟩) (v := ?_) rfl (by kernel_rfl) (by kernel_rfl) (by kernel_rfl) (fun _ _ _ h => h) (Or.inl ⟨by rfl, ?_⟩) HS0.out ?_
  rotate_left
  · intro w hSw
    go_simp <;> with_reducible rfl
  dsimp only [Act.put]
  simp only [List.setIfInBounds_toArray, List.set_cons_zero, List.set_cons_succ]
  refine wpAnyH_take (i := 2) (oi := ⟨some 8, _, _, _, _, _⟩) (v := .int .i64 2) rfl (by kernel_rfl) (by kernel_rfl) (by kernel_rfl) (fun _ _ _ h => h) (Or.inl ⟨by rfl, ?_⟩) HS0.out ?_
  · intro w hSw
    have hq := hSw.1.kindIs 2 HKk.out
    go_simp <;> with_reducible rfl
  dsimp only [Act.put]
  simp only [List.setIfInBounds_toArray, List.set_cons_zero, List.set_cons_succ]
  refine wpAnyH_one (i := 0) (oi := ⟨some 6, _, _, _, _, _⟩) (by kernel_rfl) rfl (by rfl) (fun K9 hK9 => ?_)
  have HK9 := Lib.hid hK9
  clear hK9
  go_simp
  refine (rnames_any w8).mono ?_
  rintro e w2 ⟨gN, rfl, hge, harr, hb9⟩
  dsimp only
  have HcN := Lib.hid (name_cell harr 2 N HNm.out rfl)
  clear hge harr
  have HS1 := Lib.hid (HS0.out.below hb9)
  have HB1 := Lib.hid (HB8.out.trans (hb9.mono HB8z.out))
  have HZ1 := Lib.hid (Nat.le_trans HB8z.out hb9.size)
  clear HS0 HB8 HB8z hb9
  have HS0 := HS1
  have HB8 := HB1
  have HB8z := HZ1
  clear HS1 HB1 HZ1
  refine HK9.out _ _ HS0.out ?_
  clear HK9
  simp only [List.setIfInBounds_toArray, List.set_cons_zero, List.set_cons_succ]
  refine wpAnyH_one (i := 3) (oi := ⟨some 9, _, _, _, _, _⟩) (by kernel_rfl) rfl (by rfl) (fun K9 hK9 => ?_)
  have HK9 := Lib.hid hK9
  clear hK9
  go_simp
  refine HK9.out _ _ HS0.out ?_
  clear HK9
  simp only [List.setIfInBounds_toArray, List.set_cons_zero, List.set_cons_succ]
  refine wpAnyH_one (i := 4) (oi := ⟨some 10, _, _, _, _, _⟩) (by kernel_rfl) rfl (by rfl) (fun K9 hK9 => ?_)
  have HK9 := Lib.hid hK9
  clear hK9
  have hq := HcN.out
  go_simp
  refine HK9.out _ _ HS0.out ?_
  clear HK9
  simp only [List.setIfInBounds_toArray, List.set_cons_zero, List.set_cons_succ]
  refine wpAnyH_take (i := 5) (oi := ⟨some 3, _, _, _, _, _⟩) (v := .string N) rfl (by kernel_rfl) (by kernel_rfl) (by kernel_rfl) (fun _ _ _ h => h) (Or.inl ⟨by rfl, ?_⟩) HS0.out ?_
  · intro w hSw
    go_simp <;> with_reducible rfl
  dsimp only [Act.put]
  simp only [List.setIfInBounds_toArray, List.set_cons_zero, List.set_cons_succ]
  refine wpAnyH_done (by kernel_rfl) ?_ _
  have HD := Lib.hid (decB_size a.nonce HS0.out.2.1.nonce)
  obtain ⟨D, hD⟩ : ∃ D, decB a.nonce = D := ⟨_, rfl⟩
  have hn_ := HS0.out.1.nonce
  have HC := Lib.hid (fmt_any a.nonce HS0.out.2.1.nonce w2 HS0.out.2.2)
  rw [hD] at HC HD
  have HDe := Lib.hid hD
  clear hD
  go_wp2_with fail
  with_reducible refine (HC.out).mono ?_
  rintro e w3 ⟨rfl, hb9⟩
  dsimp only
  have HS1 := Lib.hid (HS0.out.below hb9)
  have HB1 := Lib.hid (HB8.out.trans (hb9.mono HB8z.out))
  have HZ1 := Lib.hid (Nat.le_trans HB8z.out hb9.size)
  clear HS0 HB8 HB8z hb9
  have HS0 := HS1
  have HB8 := HB1
  have HB8z := HZ1
  clear HS1 HB1 HZ1
  clear hn_ HC HcN
  have hk_ := HS0.out.1.kindIs 2 HKk.out
  have hsD := HD.out
  obtain ⟨E, hE⟩ : ∃ E, strL (digF a.B) = E := ⟨_, rfl⟩
  have hsE : E.size ≤ 3000000 := by rw [← hE]; rw [strL_size]; have h1 := digF_len a.B; have h2 := HM.out.2.2.1; omega
  have HEe := Lib.hid hE
  clear hE
  have hb_ := HS0.out.1.bv
  have HC := Lib.hid (rdigits_any a.bv a.B w3 HS0.out.2.1.B (Nat.le_trans HM.out.2.2.1 (by decide)))
  rw [HEe.out] at HC
  rw [HV.out.1] at hb_ HC
  go_wp2_with fail
  with_reducible refine (HC.out).mono ?_
  rintro e w4 ⟨rfl, hb9⟩
  dsimp only
  have HS1 := Lib.hid (HS0.out.below hb9)
  have HB1 := Lib.hid (HB8.out.trans (hb9.mono HB8z.out))
  have HZ1 := Lib.hid (Nat.le_trans HB8z.out hb9.size)
  clear HS0 HB8 HB8z hb9
  have HS0 := HS1
  have HB8 := HB1
  have HB8z := HZ1
  clear HS1 HB1 HZ1
  clear hb_ HC hk_
  go_wp2
  go_ret
  exact ⟨by rw [← HRES.out, sum2 a N HNm.out, HEe.out]; rfl, by rw [HG.out]; exact HB8.out⟩
set_option maxRecDepth 100000 in
set_option maxHeartbeats 6400000 in
theorem ract3_any (a : ActM) (w : World) (ha : a.ok w) (ht : TabO w) (hm : MayP a) (hK : a.kind = 3) :
    Calls Tryz.prog 13 #[.agg a.cells.toArray] w fun e w' => e = .returned (.string (actTF a (nmB 3) (wsB 3))) ∧ Below w.heap.size w w' := by
  have HM := Lib.hid hm
  have HKk := Lib.hid hK
  obtain ⟨aB, cB, hbv⟩ := ha.B.form
  obtain ⟨aP, cP, hpv⟩ := ha.P.2.form
  obtain ⟨aT, cT, htv⟩ := ha.T.2.form
  have HV := Lib.hid (And.intro hbv (And.intro hpv htv))
  have HA0 := Lib.hid ha
  have HT0 := Lib.hid ht
  obtain ⟨N, hN⟩ : ∃ N, nmB 3 = N := ⟨_, rfl⟩
  have HNm := Lib.hid hN
  have hsN : N.size ≤ 10 := by rw [← hN]; decide
  obtain ⟨RES, hRES⟩ : ∃ RES, actTF a (nmB 3) (wsB 3) = RES := ⟨_, rfl⟩
  have HRES := Lib.hid hRES
  rw [hRES]
  clear hm ha ht hbv hpv htv hN hRES hK
  go_enter Tryz.func13, Tryz.ntmps13
  go_upto_region 1 with fail
  have hm := Arr.made w 30 a.cells
  have hb := (Below.refl w.heap.size w).alloc (Nat.le_refl _) (.cells a.cells.toArray 30)
  have HS0 := Lib.hid (show RActS w.heap.size a (World.drew (World.alloc _ _)) from ⟨⟨hm, HA0.out.lock⟩, HA0.out.below hb.drew, HT0.out.below hb.drew⟩)
  have HB8 := Lib.hid hb.drew
  obtain ⟨g, hg⟩ : ∃ g, w.heap.size = g := ⟨_, rfl⟩
  have HB8z := Lib.hid (show g ≤ (World.drew (World.alloc w (.cells a.cells.toArray 30))).heap.size by rw [← hg]; exact HB8.out.size)
  rw [hg] at HS0 HB8 ⊢
  have HG := Lib.hid hg
  clear hg hm hb
  refine wp_region_H (RActS g a) (by kernel_rfl) ?_
  generalize World.drew _ = w8 at *
  simp only [List.size_toArray, List.length_cons, List.length_nil, Nat.reduceAdd, Array.replicate_succ, Array.replicate_zero, List.push_toArray, List.nil_append, List.cons_append]
  refine wpAnyH_take (i := 1) (oi := ⟨some 7, _, _, _, _, _⟩) (v := ?_) rfl (by kernel_rfl) (by kernel_rfl) (by kernel_rfl) (fun _ _ _ h => h) (Or.inl ⟨by rfl, ?_⟩) HS0.out ?_
  rotate_left
  · intro w hSw
    go_simp <;> with_reducible rfl
  dsimp only [Act.put]
  simp only [List.setIfInBounds_toArray, List.set_cons_zero, List.set_cons_succ]
  refine wpAnyH_take (i := 2) (oi := ⟨some 8, _, _, _, _, _⟩) (v := .int .i64 3) rfl (by kernel_rfl) (by kernel_rfl) (by kernel_rfl) (fun _ _ _ h => h) (Or.inl ⟨by rfl, ?_⟩) HS0.out ?_
  · intro w hSw
    have hq := hSw.1.kindIs 3 HKk.out
    go_simp <;> with_reducible rfl
  dsimp only [Act.put]
  simp only [List.setIfInBounds_toArray, List.set_cons_zero, List.set_cons_succ]
  refine wpAnyH_one (i := 0) (oi := ⟨some 6, _, _, _, _, _⟩) (by kernel_rfl) rfl (by rfl) (fun K9 hK9 => ?_)
  have HK9 := Lib.hid hK9
  clear hK9
  go_simp
  refine (rnames_any w8).mono ?_
  rintro e w2 ⟨gN, rfl, hge, harr, hb9⟩
  dsimp only
  have HcN := Lib.hid (name_cell harr 3 N HNm.out rfl)
  clear hge harr
  have HS1 := Lib.hid (HS0.out.below hb9)
  have HB1 := Lib.hid (HB8.out.trans (hb9.mono HB8z.out))
  have HZ1 := Lib.hid (Nat.le_trans HB8z.out hb9.size)
  clear HS0 HB8 HB8z hb9
  have HS0 := HS1
  have HB8 := HB1
  have HB8z := HZ1
  clear HS1 HB1 HZ1
  refine HK9.out _ _ HS0.out ?_
  clear HK9
  simp only [List.setIfInBounds_toArray, List.set_cons_zero, List.set_cons_succ]
  refine wpAnyH_one (i := 3) (oi := ⟨some 9, _, _, _, _, _⟩) (by kernel_rfl) rfl (by rfl) (fun K9 hK9 => ?_)
  have HK9 := Lib.hid hK9
  clear hK9
  go_simp
  refine HK9.out _ _ HS0.out ?_
  clear HK9
  simp only [List.setIfInBounds_toArray, List.set_cons_zero, List.set_cons_succ]
  refine wpAnyH_one (i := 4) (oi := ⟨some 10, _, _, _, _, _⟩) (by kernel_rfl) rfl (by rfl) (fun K9 hK9 => ?_)
  have HK9 := Lib.hid hK9
  clear hK9
  have hq := HcN.out
  go_simp
  refine HK9.out _ _ HS0.out ?_
  clear HK9
  simp only [List.setIfInBounds_toArray, List.set_cons_zero, List.set_cons_succ]
  refine wpAnyH_take (i := 5) (oi := ⟨some 3, _, _, _, _, _⟩) (v := .string N) rfl (by kernel_rfl) (by kernel_rfl) (by kernel_rfl) (fun _ _ _ h => h) (Or.inl ⟨by rfl, ?_⟩) HS0.out ?_
  · intro w hSw
    go_simp <;> with_reducible rfl
  dsimp only [Act.put]
  simp only [List.setIfInBounds_toArray, List.set_cons_zero, List.set_cons_succ]
  refine wpAnyH_done (by kernel_rfl) ?_ _
  have HD := Lib.hid (decB_size a.nonce HS0.out.2.1.nonce)
  obtain ⟨D, hD⟩ : ∃ D, decB a.nonce = D := ⟨_, rfl⟩
  have hn_ := HS0.out.1.nonce
  have HC := Lib.hid (fmt_any a.nonce HS0.out.2.1.nonce w2 HS0.out.2.2)
  rw [hD] at HC HD
  have HDe := Lib.hid hD
  clear hD
  go_wp2_with fail
  with_reducible refine (HC.out).mono ?_
  rintro e w3 ⟨rfl, hb9⟩
  dsimp only
  have HS1 := Lib.hid (HS0.out.below hb9)
  have HB1 := Lib.hid (HB8.out.trans (hb9.mono HB8z.out))
  have HZ1 := Lib.hid (Nat.le_trans HB8z.out hb9.size)
  clear HS0 HB8 HB8z hb9
  have HS0 := HS1
  have HB8 := HB1
  have HB8z := HZ1
  clear HS1 HB1 HZ1
  clear hn_ HC HcN
  have hk_ := HS0.out.1.kindIs 3 HKk.out
  have hsD := HD.out
  obtain ⟨E, hE⟩ : ∃ E, strL (hexF a.lock) = E := ⟨_, rfl⟩
  have hsE : E.size ≤ 100 := by rw [← hE]; rw [strL_size, hexF_len, HA0.out.lock.1]; omega
  have HEe := Lib.hid hE
  clear hE
  have HC := Lib.hid (rhex_any (.slice (some ⟨g, 2, none⟩) 32 32) a.lock w3 HS0.out.1.lockB (by rw [HA0.out.lock.1]; omega))
  rw [HEe.out] at HC
  go_wp2_with fail
  with_reducible refine (HC.out).mono ?_
  rintro e w4 ⟨rfl, hb9⟩
  dsimp only
  have HS1 := Lib.hid (HS0.out.below hb9)
  have HB1 := Lib.hid (HB8.out.trans (hb9.mono HB8z.out))
  have HZ1 := Lib.hid (Nat.le_trans HB8z.out hb9.size)
  clear HS0 HB8 HB8z hb9
  have HS0 := HS1
  have HB8 := HB1
  have HB8z := HZ1
  clear HS1 HB1 HZ1
  clear HC hk_
  go_wp2
  go_ret
  exact ⟨by rw [← HRES.out, sum3 a N HNm.out, HEe.out, HDe.out]; rfl, by rw [HG.out]; exact HB8.out⟩
set_option maxRecDepth 100000 in
set_option maxHeartbeats 6400000 in
theorem ract5_any (a : ActM) (w : World) (ha : a.ok w) (ht : TabO w) (hm : MayP a) (hK : a.kind = 5) :
    Calls Tryz.prog 13 #[.agg a.cells.toArray] w fun e w' => e = .returned (.string (actTF a (nmB 5) (wsB 5))) ∧ Below w.heap.size w w' := by
  have HM := Lib.hid hm
  have HKk := Lib.hid hK
  obtain ⟨aB, cB, hbv⟩ := ha.B.form
  obtain ⟨aP, cP, hpv⟩ := ha.P.2.form
  obtain ⟨aT, cT, htv⟩ := ha.T.2.form
  have HV := Lib.hid (And.intro hbv (And.intro hpv htv))
  have HA0 := Lib.hid ha
  have HT0 := Lib.hid ht
  obtain ⟨N, hN⟩ : ∃ N, nmB 5 = N := ⟨_, rfl⟩
  have HNm := Lib.hid hN
  have hsN : N.size ≤ 10 := by rw [← hN]; decide
  obtain ⟨RES, hRES⟩ : ∃ RES, actTF a (nmB 5) (wsB 5) = RES := ⟨_, rfl⟩
  have HRES := Lib.hid hRES
  rw [hRES]
  clear hm ha ht hbv hpv htv hN hRES hK
  go_enter Tryz.func13, Tryz.ntmps13
  go_upto_region 1 with fail
  have hm := Arr.made w 30 a.cells
  have hb := (Below.refl w.heap.size w).alloc (Nat.le_refl _) (.cells a.cells.toArray 30)
  have HS0 := Lib.hid (show RActS w.heap.size a (World.drew (World.alloc _ _)) from ⟨⟨hm, HA0.out.lock⟩, HA0.out.below hb.drew, HT0.out.below hb.drew⟩)
  have HB8 := Lib.hid hb.drew
  obtain ⟨g, hg⟩ : ∃ g, w.heap.size = g := ⟨_, rfl⟩
  have HB8z := Lib.hid (show g ≤ (World.drew (World.alloc w (.cells a.cells.toArray 30))).heap.size by rw [← hg]; exact HB8.out.size)
  rw [hg] at HS0 HB8 ⊢
  have HG := Lib.hid hg
  clear hg hm hb
  refine wp_region_H (RActS g a) (by kernel_rfl) ?_
  generalize World.drew _ = w8 at *
  simp only [List.size_toArray, List.length_cons, List.length_nil, Nat.reduceAdd, Array.replicate_succ, Array.replicate_zero, List.push_toArray, List.nil_append, List.cons_append]
  refine wpAnyH_take (i := 1) (oi := ⟨some 7, _, _, _, _, _⟩) (v := ?_) rfl (by kernel_rfl) (by kernel_rfl) (by kernel_rfl) (fun _ _ _ h => h) (Or.inl ⟨by rfl, ?_⟩) HS0.out ?_
  rotate_left
  · intro w hSw
    go_simp <;> with_reducible rfl
  dsimp only [Act.put]
  simp only [List.setIfInBounds_toArray, List.set_cons_zero, List.set_cons_succ]
  refine wpAnyH_take (i := 2) (oi := ⟨some 8, _, _, _, _, _⟩) (v := .int .i64 5) rfl (by kernel_rfl) (by kernel_rfl) (by kernel_rfl) (fun _ _ _ h => h) (Or.inl ⟨by rfl, ?_⟩) HS0.out ?_
  · intro w hSw
    have hq := hSw.1.kindIs 5 HKk.out
    go_simp <;> with_reducible rfl
  dsimp only [Act.put]
  simp only [List.setIfInBounds_toArray, List.set_cons_zero, List.set_cons_succ]
  refine wpAnyH_one (i := 0) (oi := ⟨some 6, _, _, _, _, _⟩) (by kernel_rfl) rfl (by rfl) (fun K9 hK9 => ?_)
  have HK9 := Lib.hid hK9
  clear hK9
  go_simp
  refine (rnames_any w8).mono ?_
  rintro e w2 ⟨gN, rfl, hge, harr, hb9⟩
  dsimp only
  have HcN := Lib.hid (name_cell harr 5 N HNm.out rfl)
  clear hge harr
  have HS1 := Lib.hid (HS0.out.below hb9)
  have HB1 := Lib.hid (HB8.out.trans (hb9.mono HB8z.out))
  have HZ1 := Lib.hid (Nat.le_trans HB8z.out hb9.size)
  clear HS0 HB8 HB8z hb9
  have HS0 := HS1
  have HB8 := HB1
  have HB8z := HZ1
  clear HS1 HB1 HZ1
  refine HK9.out _ _ HS0.out ?_
  clear HK9
  simp only [List.setIfInBounds_toArray, List.set_cons_zero, List.set_cons_succ]
  refine wpAnyH_one (i := 3) (oi := ⟨some 9, _, _, _, _, _⟩) (by kernel_rfl) rfl (by rfl) (fun K9 hK9 => ?_)
  have HK9 := Lib.hid hK9
  clear hK9
  go_simp
  refine HK9.out _ _ HS0.out ?_
  clear HK9
  simp only [List.setIfInBounds_toArray, List.set_cons_zero, List.set_cons_succ]
  refine wpAnyH_one (i := 4) (oi := ⟨some 10, _, _, _, _, _⟩) (by kernel_rfl) rfl (by rfl) (fun K9 hK9 => ?_)
  have HK9 := Lib.hid hK9
  clear hK9
  have hq := HcN.out
  go_simp
  refine HK9.out _ _ HS0.out ?_
  clear HK9
  simp only [List.setIfInBounds_toArray, List.set_cons_zero, List.set_cons_succ]
  refine wpAnyH_take (i := 5) (oi := ⟨some 3, _, _, _, _, _⟩) (v := .string N) rfl (by kernel_rfl) (by kernel_rfl) (by kernel_rfl) (fun _ _ _ h => h) (Or.inl ⟨by rfl, ?_⟩) HS0.out ?_
  · intro w hSw
    go_simp <;> with_reducible rfl
  dsimp only [Act.put]
  simp only [List.setIfInBounds_toArray, List.set_cons_zero, List.set_cons_succ]
  refine wpAnyH_done (by kernel_rfl) ?_ _
  have HD := Lib.hid (decB_size a.nonce HS0.out.2.1.nonce)
  obtain ⟨D, hD⟩ : ∃ D, decB a.nonce = D := ⟨_, rfl⟩
  have hn_ := HS0.out.1.nonce
  have HC := Lib.hid (fmt_any a.nonce HS0.out.2.1.nonce w2 HS0.out.2.2)
  rw [hD] at HC HD
  have HDe := Lib.hid hD
  clear hD
  go_wp2_with fail
  with_reducible refine (HC.out).mono ?_
  rintro e w3 ⟨rfl, hb9⟩
  dsimp only
  have HS1 := Lib.hid (HS0.out.below hb9)
  have HB1 := Lib.hid (HB8.out.trans (hb9.mono HB8z.out))
  have HZ1 := Lib.hid (Nat.le_trans HB8z.out hb9.size)
  clear HS0 HB8 HB8z hb9
  have HS0 := HS1
  have HB8 := HB1
  have HB8z := HZ1
  clear HS1 HB1 HZ1
  clear hn_ HC HcN
  have hk_ := HS0.out.1.kindIs 5 HKk.out
  have hsD := HD.out
  obtain ⟨E, hE⟩ : ∃ E, itoaB a.n = E := ⟨_, rfl⟩
  have hsE : E.size ≤ 21 := by rw [← hE]; exact itoaB_size a.n HA0.out.n
  have HEe := Lib.hid hE
  clear hE
  have hn_ := HS0.out.1.n
  have HC := Lib.hid (itoa_any a.n HA0.out.n w3 HS0.out.2.2)
  rw [HEe.out] at HC
  go_wp2_with fail
  with_reducible refine (HC.out).mono ?_
  rintro e w4 ⟨rfl, hb9⟩
  dsimp only
  have HS1 := Lib.hid (HS0.out.below hb9)
  have HB1 := Lib.hid (HB8.out.trans (hb9.mono HB8z.out))
  have HZ1 := Lib.hid (Nat.le_trans HB8z.out hb9.size)
  clear HS0 HB8 HB8z hb9
  have HS0 := HS1
  have HB8 := HB1
  have HB8z := HZ1
  clear HS1 HB1 HZ1
  clear HC hk_ hn_
  go_wp2
  go_ret
  exact ⟨by rw [← HRES.out, sum5 a N HNm.out, HEe.out]; rfl, by rw [HG.out]; exact HB8.out⟩
set_option maxRecDepth 100000 in
set_option maxHeartbeats 6400000 in
theorem ract6_any (a : ActM) (w : World) (ha : a.ok w) (ht : TabO w) (hm : MayP a) (hK : a.kind = 6) :
    Calls Tryz.prog 13 #[.agg a.cells.toArray] w fun e w' => e = .returned (.string (actTF a (nmB 6) (wsB 6))) ∧ Below w.heap.size w w' := by
  have HM := Lib.hid hm
  have HKk := Lib.hid hK
  obtain ⟨aB, cB, hbv⟩ := ha.B.form
  obtain ⟨aP, cP, hpv⟩ := ha.P.2.form
  obtain ⟨aT, cT, htv⟩ := ha.T.2.form
  have HV := Lib.hid (And.intro hbv (And.intro hpv htv))
  have HA0 := Lib.hid ha
  have HT0 := Lib.hid ht
  obtain ⟨N, hN⟩ : ∃ N, nmB 6 = N := ⟨_, rfl⟩
  have HNm := Lib.hid hN
  have hsN : N.size ≤ 10 := by rw [← hN]; decide
  obtain ⟨RES, hRES⟩ : ∃ RES, actTF a (nmB 6) (wsB 6) = RES := ⟨_, rfl⟩
  have HRES := Lib.hid hRES
  rw [hRES]
  clear hm ha ht hbv hpv htv hN hRES hK
  go_enter Tryz.func13, Tryz.ntmps13
  go_upto_region 1 with fail
  have hm := Arr.made w 30 a.cells
  have hb := (Below.refl w.heap.size w).alloc (Nat.le_refl _) (.cells a.cells.toArray 30)
  have HS0 := Lib.hid (show RActS w.heap.size a (World.drew (World.alloc _ _)) from ⟨⟨hm, HA0.out.lock⟩, HA0.out.below hb.drew, HT0.out.below hb.drew⟩)
  have HB8 := Lib.hid hb.drew
  obtain ⟨g, hg⟩ : ∃ g, w.heap.size = g := ⟨_, rfl⟩
  have HB8z := Lib.hid (show g ≤ (World.drew (World.alloc w (.cells a.cells.toArray 30))).heap.size by rw [← hg]; exact HB8.out.size)
  rw [hg] at HS0 HB8 ⊢
  have HG := Lib.hid hg
  clear hg hm hb
  refine wp_region_H (RActS g a) (by kernel_rfl) ?_
  generalize World.drew _ = w8 at *
  simp only [List.size_toArray, List.length_cons, List.length_nil, Nat.reduceAdd, Array.replicate_succ, Array.replicate_zero, List.push_toArray, List.nil_append, List.cons_append]
  refine wpAnyH_take (i := 1) (oi := ⟨some 7, _, _, _, _, _⟩) (v := ?_) rfl (by kernel_rfl) (by kernel_rfl) (by kernel_rfl) (fun _ _ _ h => h) (Or.inl ⟨by rfl, ?_⟩) HS0.out ?_
  rotate_left
  · intro w hSw
    go_simp <;> with_reducible rfl
  dsimp only [Act.put]
  simp only [List.setIfInBounds_toArray, List.set_cons_zero, List.set_cons_succ]
  refine wpAnyH_take (i := 2) (oi := ⟨some 8, _, _, _, _, _⟩) (v := .int .i64 6) rfl (by kernel_rfl) (by kernel_rfl) (by kernel_rfl) (fun _ _ _ h => h) (Or.inl ⟨by rfl, ?_⟩) HS0.out ?_
  · intro w hSw
    have hq := hSw.1.kindIs 6 HKk.out
    go_simp <;> with_reducible rfl
  dsimp only [Act.put]
  simp only [List.setIfInBounds_toArray, List.set_cons_zero, List.set_cons_succ]
  refine wpAnyH_one (i := 0) (oi := ⟨some 6, _, _, _, _, _⟩) (by kernel_rfl) rfl (by rfl) (fun K9 hK9 => ?_)
  have HK9 := Lib.hid hK9
  clear hK9
  go_simp
  refine (rnames_any w8).mono ?_
  rintro e w2 ⟨gN, rfl, hge, harr, hb9⟩
  dsimp only
  have HcN := Lib.hid (name_cell harr 6 N HNm.out rfl)
  clear hge harr
  have HS1 := Lib.hid (HS0.out.below hb9)
  have HB1 := Lib.hid (HB8.out.trans (hb9.mono HB8z.out))
  have HZ1 := Lib.hid (Nat.le_trans HB8z.out hb9.size)
  clear HS0 HB8 HB8z hb9
  have HS0 := HS1
  have HB8 := HB1
  have HB8z := HZ1
  clear HS1 HB1 HZ1
  refine HK9.out _ _ HS0.out ?_
  clear HK9
  simp only [List.setIfInBounds_toArray, List.set_cons_zero, List.set_cons_succ]
  refine wpAnyH_one (i := 3) (oi := ⟨some 9, _, _, _, _, _⟩) (by kernel_rfl) rfl (by rfl) (fun K9 hK9 => ?_)
  have HK9 := Lib.hid hK9
  clear hK9
  go_simp
  refine HK9.out _ _ HS0.out ?_
  clear HK9
  simp only [List.setIfInBounds_toArray, List.set_cons_zero, List.set_cons_succ]
  refine wpAnyH_one (i := 4) (oi := ⟨some 10, _, _, _, _, _⟩) (by kernel_rfl) rfl (by rfl) (fun K9 hK9 => ?_)
  have HK9 := Lib.hid hK9
  clear hK9
  have hq := HcN.out
  go_simp
  refine HK9.out _ _ HS0.out ?_
  clear HK9
  simp only [List.setIfInBounds_toArray, List.set_cons_zero, List.set_cons_succ]
  refine wpAnyH_take (i := 5) (oi := ⟨some 3, _, _, _, _, _⟩) (v := .string N) rfl (by kernel_rfl) (by kernel_rfl) (by kernel_rfl) (fun _ _ _ h => h) (Or.inl ⟨by rfl, ?_⟩) HS0.out ?_
  · intro w hSw
    go_simp <;> with_reducible rfl
  dsimp only [Act.put]
  simp only [List.setIfInBounds_toArray, List.set_cons_zero, List.set_cons_succ]
  refine wpAnyH_done (by kernel_rfl) ?_ _
  have HD := Lib.hid (decB_size a.nonce HS0.out.2.1.nonce)
  obtain ⟨D, hD⟩ : ∃ D, decB a.nonce = D := ⟨_, rfl⟩
  have hn_ := HS0.out.1.nonce
  have HC := Lib.hid (fmt_any a.nonce HS0.out.2.1.nonce w2 HS0.out.2.2)
  rw [hD] at HC HD
  have HDe := Lib.hid hD
  clear hD
  go_wp2_with fail
  with_reducible refine (HC.out).mono ?_
  rintro e w3 ⟨rfl, hb9⟩
  dsimp only
  have HS1 := Lib.hid (HS0.out.below hb9)
  have HB1 := Lib.hid (HB8.out.trans (hb9.mono HB8z.out))
  have HZ1 := Lib.hid (Nat.le_trans HB8z.out hb9.size)
  clear HS0 HB8 HB8z hb9
  have HS0 := HS1
  have HB8 := HB1
  have HB8z := HZ1
  clear HS1 HB1 HZ1
  clear hn_ HC HcN
  have hk_ := HS0.out.1.kindIs 6 HKk.out
  have hsD := HD.out
  obtain ⟨E, hE⟩ : ∃ E, itoaB a.n = E := ⟨_, rfl⟩
  have hsE : E.size ≤ 21 := by rw [← hE]; exact itoaB_size a.n HA0.out.n
  have HEe := Lib.hid hE
  clear hE
  have hn_ := HS0.out.1.n
  have HC := Lib.hid (itoa_any a.n HA0.out.n w3 HS0.out.2.2)
  rw [HEe.out] at HC
  go_wp2_with fail
  with_reducible refine (HC.out).mono ?_
  rintro e w4 ⟨rfl, hb9⟩
  dsimp only
  have HS1 := Lib.hid (HS0.out.below hb9)
  have HB1 := Lib.hid (HB8.out.trans (hb9.mono HB8z.out))
  have HZ1 := Lib.hid (Nat.le_trans HB8z.out hb9.size)
  clear HS0 HB8 HB8z hb9
  have HS0 := HS1
  have HB8 := HB1
  have HB8z := HZ1
  clear HS1 HB1 HZ1
  clear HC hk_ hn_
  go_wp2
  go_ret
  exact ⟨by rw [← HRES.out, sum6 a N HNm.out, HEe.out]; rfl, by rw [HG.out]; exact HB8.out⟩
set_option maxRecDepth 100000 in
set_option maxHeartbeats 6400000 in
theorem ract7_any (a : ActM) (w : World) (ha : a.ok w) (ht : TabO w) (hm : MayP a) (hK : a.kind = 7) :
    Calls Tryz.prog 13 #[.agg a.cells.toArray] w fun e w' => e = .returned (.string (actTF a (nmB 7) (wsB 7))) ∧ Below w.heap.size w w' := by
  have HM := Lib.hid hm
  have HKk := Lib.hid hK
  obtain ⟨aB, cB, hbv⟩ := ha.B.form
  obtain ⟨aP, cP, hpv⟩ := ha.P.2.form
  obtain ⟨aT, cT, htv⟩ := ha.T.2.form
  have HV := Lib.hid (And.intro hbv (And.intro hpv htv))
  have HA0 := Lib.hid ha
  have HT0 := Lib.hid ht
  obtain ⟨N, hN⟩ : ∃ N, nmB 7 = N := ⟨_, rfl⟩
  have HNm := Lib.hid hN
  have hsN : N.size ≤ 10 := by rw [← hN]; decide
  obtain ⟨RES, hRES⟩ : ∃ RES, actTF a (nmB 7) (wsB 7) = RES := ⟨_, rfl⟩
  have HRES := Lib.hid hRES
  rw [hRES]
  clear hm ha ht hbv hpv htv hN hRES hK
  go_enter Tryz.func13, Tryz.ntmps13
  go_upto_region 1 with fail
  have hm := Arr.made w 30 a.cells
  have hb := (Below.refl w.heap.size w).alloc (Nat.le_refl _) (.cells a.cells.toArray 30)
  have HS0 := Lib.hid (show RActS w.heap.size a (World.drew (World.alloc _ _)) from ⟨⟨hm, HA0.out.lock⟩, HA0.out.below hb.drew, HT0.out.below hb.drew⟩)
  have HB8 := Lib.hid hb.drew
  obtain ⟨g, hg⟩ : ∃ g, w.heap.size = g := ⟨_, rfl⟩
  have HB8z := Lib.hid (show g ≤ (World.drew (World.alloc w (.cells a.cells.toArray 30))).heap.size by rw [← hg]; exact HB8.out.size)
  rw [hg] at HS0 HB8 ⊢
  have HG := Lib.hid hg
  clear hg hm hb
  refine wp_region_H (RActS g a) (by kernel_rfl) ?_
  generalize World.drew _ = w8 at *
  simp only [List.size_toArray, List.length_cons, List.length_nil, Nat.reduceAdd, Array.replicate_succ, Array.replicate_zero, List.push_toArray, List.nil_append, List.cons_append]
  refine wpAnyH_take (i := 1) (oi := ⟨some 7, _, _, _, _, _⟩) (v := ?_) rfl (by kernel_rfl) (by kernel_rfl) (by kernel_rfl) (fun _ _ _ h => h) (Or.inl ⟨by rfl, ?_⟩) HS0.out ?_
  rotate_left
  · intro w hSw
    go_simp <;> with_reducible rfl
  dsimp only [Act.put]
  simp only [List.setIfInBounds_toArray, List.set_cons_zero, List.set_cons_succ]
  refine wpAnyH_take (i := 2) (oi := ⟨some 8, _, _, _, _, _⟩) (v := .int .i64 7) rfl (by kernel_rfl) (by kernel_rfl) (by kernel_rfl) (fun _ _ _ h => h) (Or.inl ⟨by rfl, ?_⟩) HS0.out ?_
  · intro w hSw
    have hq := hSw.1.kindIs 7 HKk.out
    go_simp <;> with_reducible rfl
  dsimp only [Act.put]
  simp only [List.setIfInBounds_toArray, List.set_cons_zero, List.set_cons_succ]
  refine wpAnyH_one (i := 0) (oi := ⟨some 6, _, _, _, _, _⟩) (by kernel_rfl) rfl (by rfl) (fun K9 hK9 => ?_)
  have HK9 := Lib.hid hK9
  clear hK9
  go_simp
  refine (rnames_any w8).mono ?_
  rintro e w2 ⟨gN, rfl, hge, harr, hb9⟩
  dsimp only
  have HcN := Lib.hid (name_cell harr 7 N HNm.out rfl)
  clear hge harr
  have HS1 := Lib.hid (HS0.out.below hb9)
  have HB1 := Lib.hid (HB8.out.trans (hb9.mono HB8z.out))
  have HZ1 := Lib.hid (Nat.le_trans HB8z.out hb9.size)
  clear HS0 HB8 HB8z hb9
  have HS0 := HS1
  have HB8 := HB1
  have HB8z := HZ1
  clear HS1 HB1 HZ1
  refine HK9.out _ _ HS0.out ?_
  clear HK9
  simp only [List.setIfInBounds_toArray, List.set_cons_zero, List.set_cons_succ]
  refine wpAnyH_one (i := 3) (oi := ⟨some 9, _, _, _, _, _⟩) (by kernel_rfl) rfl (by rfl) (fun K9 hK9 => ?_)
  have HK9 := Lib.hid hK9
  clear hK9
  go_simp
  refine HK9.out _ _ HS0.out ?_
  clear HK9
  simp only [List.setIfInBounds_toArray, List.set_cons_zero, List.set_cons_succ]
  refine wpAnyH_one (i := 4) (oi := ⟨some 10, _, _, _, _, _⟩) (by kernel_rfl) rfl (by rfl) (fun K9 hK9 => ?_)
  have HK9 := Lib.hid hK9
  clear hK9
  have hq := HcN.out
  go_simp
  refine HK9.out _ _ HS0.out ?_
  clear HK9
  simp only [List.setIfInBounds_toArray, List.set_cons_zero, List.set_cons_succ]
  refine wpAnyH_take (i := 5) (oi := ⟨some 3, _, _, _, _, _⟩) (v := .string N) rfl (by kernel_rfl) (by kernel_rfl) (by kernel_rfl) (fun _ _ _ h => h) (Or.inl ⟨by rfl, ?_⟩) HS0.out ?_
  · intro w hSw
    go_simp <;> with_reducible rfl
  dsimp only [Act.put]
  simp only [List.setIfInBounds_toArray, List.set_cons_zero, List.set_cons_succ]
  refine wpAnyH_done (by kernel_rfl) ?_ _
  have HD := Lib.hid (decB_size a.nonce HS0.out.2.1.nonce)
  obtain ⟨D, hD⟩ : ∃ D, decB a.nonce = D := ⟨_, rfl⟩
  have hn_ := HS0.out.1.nonce
  have HC := Lib.hid (fmt_any a.nonce HS0.out.2.1.nonce w2 HS0.out.2.2)
  rw [hD] at HC HD
  have HDe := Lib.hid hD
  clear hD
  go_wp2_with fail
  with_reducible refine (HC.out).mono ?_
  rintro e w3 ⟨rfl, hb9⟩
  dsimp only
  have HS1 := Lib.hid (HS0.out.below hb9)
  have HB1 := Lib.hid (HB8.out.trans (hb9.mono HB8z.out))
  have HZ1 := Lib.hid (Nat.le_trans HB8z.out hb9.size)
  clear HS0 HB8 HB8z hb9
  have HS0 := HS1
  have HB8 := HB1
  have HB8z := HZ1
  clear HS1 HB1 HZ1
  clear hn_ HC HcN
  have hk_ := HS0.out.1.kindIs 7 HKk.out
  have hsD := HD.out
  obtain ⟨E, hE⟩ : ∃ E, itoaB a.n = E := ⟨_, rfl⟩
  have hsE : E.size ≤ 21 := by rw [← hE]; exact itoaB_size a.n HA0.out.n
  have HEe := Lib.hid hE
  clear hE
  obtain ⟨F, hF⟩ : ∃ F, itoaB a.m = F := ⟨_, rfl⟩
  have hsF : F.size ≤ 21 := by rw [← hF]; exact itoaB_size a.m HA0.out.m
  have HFe := Lib.hid hF
  clear hF
  go_upto_region 23 with fail
  clear hk_
  have HS1 := Lib.hid (HS0.out.below (Below.refl _ _).drew)
  have HB1 := Lib.hid HB8.out.drew
  have HZ1 := Lib.hid (show g ≤ w3.drew.heap.size from HB8z.out)
  clear HS0 HB8 HB8z
  have HS0 := HS1
  have HB8 := HB1
  have HB8z := HZ1
  clear HS1 HB1 HZ1
  refine wp_region_H (RActS g a) (by kernel_rfl) ?_
  generalize World.drew _ = w8 at *
  simp only [List.size_toArray, List.length_cons, List.length_nil, Nat.reduceAdd, Array.replicate_succ, Array.replicate_zero, List.push_toArray, List.nil_append, List.cons_append]
  refine wpAnyH_take (i := 0) (oi := ⟨some 87, _, _, _, _, _⟩) (v := .string N) rfl (by kernel_rfl) (by kernel_rfl) (by kernel_rfl) (fun _ _ _ h => h) (Or.inl ⟨by rfl, ?_⟩) HS0.out ?_
  · intro w hSw
    go_simp <;> with_reducible rfl
  dsimp only [Act.put]
  simp only [List.setIfInBounds_toArray, List.set_cons_zero, List.set_cons_succ]
  refine wpAnyH_take (i := 1) (oi := ⟨some 88, _, _, _, _, _⟩) (v := ?_) rfl (by kernel_rfl) (by kernel_rfl) (by kernel_rfl) (fun _ _ _ h => h) (Or.inl ⟨by rfl, ?_⟩) HS0.out ?_
  rotate_left
  · intro w hSw
    go_simp <;> (first | with_reducible rfl | (rw [if_neg (by omega)]))
  dsimp only [Act.put]
  simp only [List.setIfInBounds_toArray, List.set_cons_zero, List.set_cons_succ]
  refine wpAnyH_take (i := 2) (oi := ⟨some 89, _, _, _, _, _⟩) (v := ?_) rfl (by kernel_rfl) (by kernel_rfl) (by kernel_rfl) (fun _ _ _ h => h) (Or.inl ⟨by rfl, ?_⟩) HS0.out ?_
  rotate_left
  · intro w hSw
    go_simp <;> with_reducible rfl
  dsimp only [Act.put]
  simp only [List.setIfInBounds_toArray, List.set_cons_zero, List.set_cons_succ]
  refine wpAnyH_take (i := 3) (oi := ⟨some 90, _, _, _, _, _⟩) (v := .int .i64 a.n) rfl (by kernel_rfl) (by kernel_rfl) (by kernel_rfl) (fun _ _ _ h => h) (Or.inl ⟨by rfl, ?_⟩) HS0.out ?_
  · intro w hSw
    have hq := hSw.1.n
    go_simp <;> with_reducible rfl
  dsimp only [Act.put]
  simp only [List.setIfInBounds_toArray, List.set_cons_zero, List.set_cons_succ]
  refine wpAnyH_take (i := 7) (oi := ⟨some 94, _, _, _, _, _⟩) (v := ?_) rfl (by kernel_rfl) (by kernel_rfl) (by kernel_rfl) (fun _ _ _ h => h) (Or.inl ⟨by rfl, ?_⟩) HS0.out ?_
  rotate_left
  · intro w hSw
    go_simp <;> with_reducible rfl
  dsimp only [Act.put]
  simp only [List.setIfInBounds_toArray, List.set_cons_zero, List.set_cons_succ]
  refine wpAnyH_take (i := 8) (oi := ⟨some 95, _, _, _, _, _⟩) (v := .int .i64 a.m) rfl (by kernel_rfl) (by kernel_rfl) (by kernel_rfl) (fun _ _ _ h => h) (Or.inl ⟨by rfl, ?_⟩) HS0.out ?_
  · intro w hSw
    have hq := hSw.1.m
    go_simp <;> with_reducible rfl
  dsimp only [Act.put]
  simp only [List.setIfInBounds_toArray, List.set_cons_zero, List.set_cons_succ]
  refine wpAnyH_one (i := 4) (oi := ⟨some 91, _, _, _, _, _⟩) (by kernel_rfl) rfl (by rfl) (fun K9 hK9 => ?_)
  have HK9 := Lib.hid hK9
  clear hK9
  go_simp
  have HC := itoa_any a.n HA0.out.n w8 HS0.out.2.2
  rw [HEe.out] at HC
  refine (HC).mono ?_
  rintro e w4 ⟨rfl, hb9⟩
  dsimp only
  clear HC
  have HS1 := Lib.hid (HS0.out.below hb9)
  have HB1 := Lib.hid (HB8.out.trans (hb9.mono HB8z.out))
  have HZ1 := Lib.hid (Nat.le_trans HB8z.out hb9.size)
  clear HS0 HB8 HB8z hb9
  have HS0 := HS1
  have HB8 := HB1
  have HB8z := HZ1
  clear HS1 HB1 HZ1
  refine HK9.out _ _ HS0.out ?_
  clear HK9
  simp only [List.setIfInBounds_toArray, List.set_cons_zero, List.set_cons_succ]
  refine wpAnyH_take (i := 5) (oi := ⟨some 92, _, _, _, _, _⟩) (v := ?_) rfl (by kernel_rfl) (by kernel_rfl) (by kernel_rfl) (fun _ _ _ h => h) (Or.inl ⟨by rfl, ?_⟩) HS0.out ?_
  rotate_left
  · intro w hSw
    go_simp <;> (first | with_reducible rfl | (rw [if_neg (by omega)]))
  dsimp only [Act.put]
  simp only [List.setIfInBounds_toArray, List.set_cons_zero, List.set_cons_succ]
  refine wpAnyH_take (i := 6) (oi := ⟨some 93, _, _, _, _, _⟩) (v := ?_) rfl (by kernel_rfl) (by kernel_rfl) (by kernel_rfl) (fun _ _ _ h => h) (Or.inl ⟨by rfl, ?_⟩) HS0.out ?_
  rotate_left
  · intro w hSw
    go_simp <;> (first | with_reducible rfl | (rw [if_neg (by omega)]))
  dsimp only [Act.put]
  simp only [List.setIfInBounds_toArray, List.set_cons_zero, List.set_cons_succ]
  refine wpAnyH_one (i := 9) (oi := ⟨some 96, _, _, _, _, _⟩) (by kernel_rfl) rfl (by rfl) (fun K9 hK9 => ?_)
  have HK9 := Lib.hid hK9
  clear hK9
  go_simp
  have HC := itoa_any a.m HA0.out.m w4 HS0.out.2.2
  rw [HFe.out] at HC
  refine (HC).mono ?_
  rintro e w5 ⟨rfl, hb9⟩
  dsimp only
  clear HC
  have HS1 := Lib.hid (HS0.out.below hb9)
  have HB1 := Lib.hid (HB8.out.trans (hb9.mono HB8z.out))
  have HZ1 := Lib.hid (Nat.le_trans HB8z.out hb9.size)
  clear HS0 HB8 HB8z hb9
  have HS0 := HS1
  have HB8 := HB1
  have HB8z := HZ1
  clear HS1 HB1 HZ1
  refine HK9.out _ _ HS0.out ?_
  clear HK9
  simp only [List.setIfInBounds_toArray, List.set_cons_zero, List.set_cons_succ]
  refine wpAnyH_take (i := 10) (oi := ⟨some 97, _, _, _, _, _⟩) (v := ?_) rfl (by kernel_rfl) (by kernel_rfl) (by kernel_rfl) (fun _ _ _ h => h) (Or.inl ⟨by rfl, ?_⟩) HS0.out ?_
  rotate_left
  · intro w hSw
    go_simp <;> (first | with_reducible rfl | (rw [if_neg (by omega)]))
  dsimp only [Act.put]
  simp only [List.setIfInBounds_toArray, List.set_cons_zero, List.set_cons_succ]
  refine wpAnyH_take (i := 11) (oi := ⟨some 3, _, _, _, _, _⟩) (v := ?_) rfl (by kernel_rfl) (by kernel_rfl) (by kernel_rfl) (fun _ _ _ h => h) (Or.inl ⟨by rfl, ?_⟩) HS0.out ?_
  rotate_left
  · intro w hSw
    go_simp <;> with_reducible rfl
  dsimp only [Act.put]
  simp only [List.setIfInBounds_toArray, List.set_cons_zero, List.set_cons_succ]
  refine wpAnyH_done (by kernel_rfl) ?_ _
  go_wp2
  go_ret
  exact ⟨by rw [← HRES.out, sum7 a N HNm.out, HEe.out, HFe.out]; rfl, by rw [HG.out]; exact HB8.out⟩
set_option maxRecDepth 100000 in
set_option maxHeartbeats 6400000 in
theorem ract9_any (a : ActM) (w : World) (ha : a.ok w) (ht : TabO w) (hm : MayP a) (hK : a.kind = 9) :
    Calls Tryz.prog 13 #[.agg a.cells.toArray] w fun e w' => e = .returned (.string (actTF a (nmB 9) (wsB 9))) ∧ Below w.heap.size w w' := by
  have HM := Lib.hid hm
  have HKk := Lib.hid hK
  obtain ⟨aB, cB, hbv⟩ := ha.B.form
  obtain ⟨aP, cP, hpv⟩ := ha.P.2.form
  obtain ⟨aT, cT, htv⟩ := ha.T.2.form
  have HV := Lib.hid (And.intro hbv (And.intro hpv htv))
  have HA0 := Lib.hid ha
  have HT0 := Lib.hid ht
  obtain ⟨N, hN⟩ : ∃ N, nmB 9 = N := ⟨_, rfl⟩
  have HNm := Lib.hid hN
  have hsN : N.size ≤ 10 := by rw [← hN]; decide
  obtain ⟨RES, hRES⟩ : ∃ RES, actTF a (nmB 9) (wsB 9) = RES := ⟨_, rfl⟩
  have HRES := Lib.hid hRES
  rw [hRES]
  clear hm ha ht hbv hpv htv hN hRES hK
  go_enter Tryz.func13, Tryz.ntmps13
  go_upto_region 1 with fail
  have hm := Arr.made w 30 a.cells
  have hb := (Below.refl w.heap.size w).alloc (Nat.le_refl _) (.cells a.cells.toArray 30)
  have HS0 := Lib.hid (show RActS w.heap.size a (World.drew (World.alloc _ _)) from ⟨⟨hm, HA0.out.lock⟩, HA0.out.below hb.drew, HT0.out.below hb.drew⟩)
  have HB8 := Lib.hid hb.drew
  obtain ⟨g, hg⟩ : ∃ g, w.heap.size = g := ⟨_, rfl⟩
  have HB8z := Lib.hid (show g ≤ (World.drew (World.alloc w (.cells a.cells.toArray 30))).heap.size by rw [← hg]; exact HB8.out.size)
  rw [hg] at HS0 HB8 ⊢
  have HG := Lib.hid hg
  clear hg hm hb
  refine wp_region_H (RActS g a) (by kernel_rfl) ?_
  generalize World.drew _ = w8 at *
  simp only [List.size_toArray, List.length_cons, List.length_nil, Nat.reduceAdd, Array.replicate_succ, Array.replicate_zero, List.push_toArray, List.nil_append, List.cons_append]
  refine wpAnyH_take (i := 1) (oi := ⟨some 7, _, _, _, _, _⟩) (v := ?_) rfl (by kernel_rfl) (by kernel_rfl) (by kernel_rfl) (fun _ _ _ h => h) (Or.inl ⟨by rfl, ?_⟩) HS0.out ?_
  rotate_left
  · intro w hSw
    go_simp <;> with_reducible rfl
  dsimp only [Act.put]
  simp only [List.setIfInBounds_toArray, List.set_cons_zero, List.set_cons_succ]
  refine wpAnyH_take (i := 2) (oi := ⟨some 8, _, _, _, _, _⟩) (v := .int .i64 9) rfl (by kernel_rfl) (by kernel_rfl) (by kernel_rfl) (fun _ _ _ h => h) (Or.inl ⟨by rfl, ?_⟩) HS0.out ?_
  · intro w hSw
    have hq := hSw.1.kindIs 9 HKk.out
    go_simp <;> with_reducible rfl
  dsimp only [Act.put]
  simp only [List.setIfInBounds_toArray, List.set_cons_zero, List.set_cons_succ]
  refine wpAnyH_one (i := 0) (oi := ⟨some 6, _, _, _, _, _⟩) (by kernel_rfl) rfl (by rfl) (fun K9 hK9 => ?_)
  have HK9 := Lib.hid hK9
  clear hK9
  go_simp
  refine (rnames_any w8).mono ?_
  rintro e w2 ⟨gN, rfl, hge, harr, hb9⟩
  dsimp only
  have HcN := Lib.hid (name_cell harr 9 N HNm.out rfl)
  clear hge harr
  have HS1 := Lib.hid (HS0.out.below hb9)
  have HB1 := Lib.hid (HB8.out.trans (hb9.mono HB8z.out))
  have HZ1 := Lib.hid (Nat.le_trans HB8z.out hb9.size)
  clear HS0 HB8 HB8z hb9
  have HS0 := HS1
  have HB8 := HB1
  have HB8z := HZ1
  clear HS1 HB1 HZ1
  refine HK9.out _ _ HS0.out ?_
  clear HK9
  simp only [List.setIfInBounds_toArray, List.set_cons_zero, List.set_cons_succ]
  refine wpAnyH_one (i := 3) (oi := ⟨some 9, _, _, _, _, _⟩) (by kernel_rfl) rfl (by rfl) (fun K9 hK9 => ?_)
  have HK9 := Lib.hid hK9
  clear hK9
  go_simp
  refine HK9.out _ _ HS0.out ?_
  clear HK9
  simp only [List.setIfInBounds_toArray, List.set_cons_zero, List.set_cons_succ]
  refine wpAnyH_one (i := 4) (oi := ⟨some 10, _, _, _, _, _⟩) (by kernel_rfl) rfl (by rfl) (fun K9 hK9 => ?_)
  have HK9 := Lib.hid hK9
  clear hK9
  have hq := HcN.out
  go_simp
  refine HK9.out _ _ HS0.out ?_
  clear HK9
  simp only [List.setIfInBounds_toArray, List.set_cons_zero, List.set_cons_succ]
  refine wpAnyH_take (i := 5) (oi := ⟨some 3, _, _, _, _, _⟩) (v := .string N) rfl (by kernel_rfl) (by kernel_rfl) (by kernel_rfl) (fun _ _ _ h => h) (Or.inl ⟨by rfl, ?_⟩) HS0.out ?_
  · intro w hSw
    go_simp <;> with_reducible rfl
  dsimp only [Act.put]
  simp only [List.setIfInBounds_toArray, List.set_cons_zero, List.set_cons_succ]
  refine wpAnyH_done (by kernel_rfl) ?_ _
  have HD := Lib.hid (decB_size a.nonce HS0.out.2.1.nonce)
  obtain ⟨D, hD⟩ : ∃ D, decB a.nonce = D := ⟨_, rfl⟩
  have hn_ := HS0.out.1.nonce
  have HC := Lib.hid (fmt_any a.nonce HS0.out.2.1.nonce w2 HS0.out.2.2)
  rw [hD] at HC HD
  have HDe := Lib.hid hD
  clear hD
  go_wp2_with fail
  with_reducible refine (HC.out).mono ?_
  rintro e w3 ⟨rfl, hb9⟩
  dsimp only
  have HS1 := Lib.hid (HS0.out.below hb9)
  have HB1 := Lib.hid (HB8.out.trans (hb9.mono HB8z.out))
  have HZ1 := Lib.hid (Nat.le_trans HB8z.out hb9.size)
  clear HS0 HB8 HB8z hb9
  have HS0 := HS1
  have HB8 := HB1
  have HB8z := HZ1
  clear HS1 HB1 HZ1
  clear hn_ HC HcN
  have hk_ := HS0.out.1.kindIs 9 HKk.out
  have hsD := HD.out
  obtain ⟨E, hE⟩ : ∃ E, itoaB a.n = E := ⟨_, rfl⟩
  have hsE : E.size ≤ 21 := by rw [← hE]; exact itoaB_size a.n HA0.out.n
  have HEe := Lib.hid hE
  clear hE
  obtain ⟨F, hF⟩ : ∃ F, itoaB a.m = F := ⟨_, rfl⟩
  have hsF : F.size ≤ 21 := by rw [← hF]; exact itoaB_size a.m HA0.out.m
  have HFe := Lib.hid hF
  clear hF
  go_upto_region 23 with fail
  clear hk_
  have HS1 := Lib.hid (HS0.out.below (Below.refl _ _).drew)
  have HB1 := Lib.hid HB8.out.drew
  have HZ1 := Lib.hid (show g ≤ w3.drew.heap.size from HB8z.out)
  clear HS0 HB8 HB8z
  have HS0 := HS1
  have HB8 := HB1
  have HB8z := HZ1
  clear HS1 HB1 HZ1
  refine wp_region_H (RActS g a) (by kernel_rfl) ?_
  generalize World.drew _ = w8 at *
  simp only [List.size_toArray, List.length_cons, List.length_nil, Nat.reduceAdd, Array.replicate_succ, Array.replicate_zero, List.push_toArray, List.nil_append, List.cons_append]
  refine wpAnyH_take (i := 0) (oi := ⟨some 87, _, _, _, _, _⟩) (v := .string N) rfl (by kernel_rfl) (by kernel_rfl) (by kernel_rfl) (fun _ _ _ h => h) (Or.inl ⟨by rfl, ?_⟩) HS0.out ?_
  · intro w hSw
    go_simp <;> with_reducible rfl
  dsimp only [Act.put]
  simp only [List.setIfInBounds_toArray, List.set_cons_zero, List.set_cons_succ]
  refine wpAnyH_take (i := 1) (oi := ⟨some 88, _, _, _, _, _⟩) (v := ?_) rfl (by kernel_rfl) (by kernel_rfl) (by kernel_rfl) (fun _ _ _ h => h) (Or.inl ⟨by rfl, ?_⟩) HS0.out ?_
  rotate_left
  · intro w hSw
    go_simp <;> (first | with_reducible rfl | (rw [if_neg (by omega)]))
  dsimp only [Act.put]
  simp only [List.setIfInBounds_toArray, List.set_cons_zero, List.set_cons_succ]
  refine wpAnyH_take (i := 2) (oi := ⟨some 89, _, _, _, _, _⟩) (v := ?_) rfl (by kernel_rfl) (by kernel_rfl) (by kernel_rfl) (fun _ _ _ h => h) (Or.inl ⟨by rfl, ?_⟩) HS0.out ?_
  rotate_left
  · intro w hSw
    go_simp <;> with_reducible rfl
  dsimp only [Act.put]
  simp only [List.setIfInBounds_toArray, List.set_cons_zero, List.set_cons_succ]
  refine wpAnyH_take (i := 3) (oi := ⟨some 90, _, _, _, _, _⟩) (v := .int .i64 a.n) rfl (by kernel_rfl) (by kernel_rfl) (by kernel_rfl) (fun _ _ _ h => h) (Or.inl ⟨by rfl, ?_⟩) HS0.out ?_
  · intro w hSw
    have hq := hSw.1.n
    go_simp <;> with_reducible rfl
  dsimp only [Act.put]
  simp only [List.setIfInBounds_toArray, List.set_cons_zero, List.set_cons_succ]
  refine wpAnyH_take (i := 7) (oi := ⟨some 94, _, _, _, _, _⟩) (v := ?_) rfl (by kernel_rfl) (by kernel_rfl) (by kernel_rfl) (fun _ _ _ h => h) (Or.inl ⟨by rfl, ?_⟩) HS0.out ?_
  rotate_left
  · intro w hSw
    go_simp <;> with_reducible rfl
  dsimp only [Act.put]
  simp only [List.setIfInBounds_toArray, List.set_cons_zero, List.set_cons_succ]
  refine wpAnyH_take (i := 8) (oi := ⟨some 95, _, _, _, _, _⟩) (v := .int .i64 a.m) rfl (by kernel_rfl) (by kernel_rfl) (by kernel_rfl) (fun _ _ _ h => h) (Or.inl ⟨by rfl, ?_⟩) HS0.out ?_
  · intro w hSw
    have hq := hSw.1.m
    go_simp <;> with_reducible rfl
  dsimp only [Act.put]
  simp only [List.setIfInBounds_toArray, List.set_cons_zero, List.set_cons_succ]
  refine wpAnyH_one (i := 4) (oi := ⟨some 91, _, _, _, _, _⟩) (by kernel_rfl) rfl (by rfl) (fun K9 hK9 => ?_)
  have HK9 := Lib.hid hK9
  clear hK9
  go_simp
  have HC := itoa_any a.n HA0.out.n w8 HS0.out.2.2
  rw [HEe.out] at HC
  refine (HC).mono ?_
  rintro e w4 ⟨rfl, hb9⟩
  dsimp only
  clear HC
  have HS1 := Lib.hid (HS0.out.below hb9)
  have HB1 := Lib.hid (HB8.out.trans (hb9.mono HB8z.out))
  have HZ1 := Lib.hid (Nat.le_trans HB8z.out hb9.size)
  clear HS0 HB8 HB8z hb9
  have HS0 := HS1
  have HB8 := HB1
  have HB8z := HZ1
  clear HS1 HB1 HZ1
  refine HK9.out _ _ HS0.out ?_
  clear HK9
  simp only [List.setIfInBounds_toArray, List.set_cons_zero, List.set_cons_succ]
  refine wpAnyH_take (i := 5) (oi := ⟨some 92, _, _, _, _, _⟩) (v := ?_) rfl (by kernel_rfl) (by kernel_rfl) (by kernel_rfl) (fun _ _ _ h => h) (Or.inl ⟨by rfl, ?_⟩) HS0.out ?_
  rotate_left
  · intro w hSw
    go_simp <;> (first | with_reducible rfl | (rw [if_neg (by omega)]))
  dsimp only [Act.put]
  simp only [List.setIfInBounds_toArray, List.set_cons_zero, List.set_cons_succ]
  refine wpAnyH_take (i := 6) (oi := ⟨some 93, _, _, _, _, _⟩) (v := ?_) rfl (by kernel_rfl) (by kernel_rfl) (by kernel_rfl) (fun _ _ _ h => h) (Or.inl ⟨by rfl, ?_⟩) HS0.out ?_
  rotate_left
  · intro w hSw
    go_simp <;> (first | with_reducible rfl | (rw [if_neg (by omega)]))
  dsimp only [Act.put]
  simp only [List.setIfInBounds_toArray, List.set_cons_zero, List.set_cons_succ]
  refine wpAnyH_one (i := 9) (oi := ⟨some 96, _, _, _, _, _⟩) (by kernel_rfl) rfl (by rfl) (fun K9 hK9 => ?_)
  have HK9 := Lib.hid hK9
  clear hK9
  go_simp
  have HC := itoa_any a.m HA0.out.m w4 HS0.out.2.2
  rw [HFe.out] at HC
  refine (HC).mono ?_
  rintro e w5 ⟨rfl, hb9⟩
  dsimp only
  clear HC
  have HS1 := Lib.hid (HS0.out.below hb9)
  have HB1 := Lib.hid (HB8.out.trans (hb9.mono HB8z.out))
  have HZ1 := Lib.hid (Nat.le_trans HB8z.out hb9.size)
  clear HS0 HB8 HB8z hb9
  have HS0 := HS1
  have HB8 := HB1
  have HB8z := HZ1
  clear HS1 HB1 HZ1
  refine HK9.out _ _ HS0.out ?_
  clear HK9
  simp only [List.setIfInBounds_toArray, List.set_cons_zero, List.set_cons_succ]
  refine wpAnyH_take (i := 10) (oi := ⟨some 97, _, _, _, _, _⟩) (v := ?_) rfl (by kernel_rfl) (by kernel_rfl) (by kernel_rfl) (fun _ _ _ h => h) (Or.inl ⟨by rfl, ?_⟩) HS0.out ?_
  rotate_left
  · intro w hSw
    go_simp <;> (first | with_reducible rfl | (rw [if_neg (by omega)]))
  dsimp only [Act.put]
  simp only [List.setIfInBounds_toArray, List.set_cons_zero, List.set_cons_succ]
  refine wpAnyH_take (i := 11) (oi := ⟨some 3, _, _, _, _, _⟩) (v := ?_) rfl (by kernel_rfl) (by kernel_rfl) (by kernel_rfl) (fun _ _ _ h => h) (Or.inl ⟨by rfl, ?_⟩) HS0.out ?_
  rotate_left
  · intro w hSw
    go_simp <;> with_reducible rfl
  dsimp only [Act.put]
  simp only [List.setIfInBounds_toArray, List.set_cons_zero, List.set_cons_succ]
  refine wpAnyH_done (by kernel_rfl) ?_ _
  go_wp2
  go_ret
  exact ⟨by rw [← HRES.out, sum9 a N HNm.out, HEe.out, HFe.out]; rfl, by rw [HG.out]; exact HB8.out⟩
set_option maxRecDepth 100000 in
set_option maxHeartbeats 6400000 in
theorem ract8_any (a : ActM) (w : World) (ha : a.ok w) (ht : TabO w) (hm : MayP a) (hK : a.kind = 8) :
    Calls Tryz.prog 13 #[.agg a.cells.toArray] w fun e w' => e = .returned (.string (actTF a (nmB 8) (wsB 8))) ∧ Below w.heap.size w w' := by
  have HM := Lib.hid hm
  have HKk := Lib.hid hK
  obtain ⟨aB, cB, hbv⟩ := ha.B.form
  obtain ⟨aP, cP, hpv⟩ := ha.P.2.form
  obtain ⟨aT, cT, htv⟩ := ha.T.2.form
  have HV := Lib.hid (And.intro hbv (And.intro hpv htv))
  have HA0 := Lib.hid ha
  have HT0 := Lib.hid ht
  obtain ⟨N, hN⟩ : ∃ N, nmB 8 = N := ⟨_, rfl⟩
  have HNm := Lib.hid hN
  have hsN : N.size ≤ 10 := by rw [← hN]; decide
  obtain ⟨RES, hRES⟩ : ∃ RES, actTF a (nmB 8) (wsB 8) = RES := ⟨_, rfl⟩
  have HRES := Lib.hid hRES
  rw [hRES]
  clear hm ha ht hbv hpv htv hN hRES hK
  go_enter Tryz.func13, Tryz.ntmps13
  go_upto_region 1 with fail
  have hm := Arr.made w 30 a.cells
  have hb := (Below.refl w.heap.size w).alloc (Nat.le_refl _) (.cells a.cells.toArray 30)
  have HS0 := Lib.hid (show RActS w.heap.size a (World.drew (World.alloc _ _)) from ⟨⟨hm, HA0.out.lock⟩, HA0.out.below hb.drew, HT0.out.below hb.drew⟩)
  have HB8 := Lib.hid hb.drew
  obtain ⟨g, hg⟩ : ∃ g, w.heap.size = g := ⟨_, rfl⟩
  have HB8z := Lib.hid (show g ≤ (World.drew (World.alloc w (.cells a.cells.toArray 30))).heap.size by rw [← hg]; exact HB8.out.size)
  rw [hg] at HS0 HB8 ⊢
  have HG := Lib.hid hg
  clear hg hm hb
  refine wp_region_H (RActS g a) (by kernel_rfl) ?_
  generalize World.drew _ = w8 at *
  simp only [List.size_toArray, List.length_cons, List.length_nil, Nat.reduceAdd, Array.replicate_succ, Array.replicate_zero, List.push_toArray, List.nil_append, List.cons_append]
  refine wpAnyH_take (i := 1) (oi := ⟨some 7, _, _, _, _, _⟩) (v := ?_) rfl (by kernel_rfl) (by kernel_rfl) (by kernel_rfl) (fun _ _ _ h => h) (Or.inl ⟨by rfl, ?_⟩) HS0.out ?_
  rotate_left
  · intro w hSw
    go_simp <;> with_reducible rfl
  dsimp only [Act.put]
  simp only [List.setIfInBounds_toArray, List.set_cons_zero, List.set_cons_succ]
  refine wpAnyH_take (i := 2) (oi := ⟨some 8, _, _, _, _, _⟩) (v := .int .i64 8) rfl (by kernel_rfl) (by kernel_rfl) (by kernel_rfl) (fun _ _ _ h => h) (Or.inl ⟨by rfl, ?_⟩) HS0.out ?_
  · intro w hSw
    have hq := hSw.1.kindIs 8 HKk.out
    go_simp <;> with_reducible rfl
  dsimp only [Act.put]
  simp only [List.setIfInBounds_toArray, List.set_cons_zero, List.set_cons_succ]
  refine wpAnyH_one (i := 0) (oi := ⟨some 6, _, _, _, _, _⟩) (by kernel_rfl) rfl (by rfl) (fun K9 hK9 => ?_)
  have HK9 := Lib.hid hK9
  clear hK9
  go_simp
  refine (rnames_any w8).mono ?_
  rintro e w2 ⟨gN, rfl, hge, harr, hb9⟩
  dsimp only
  have HcN := Lib.hid (name_cell harr 8 N HNm.out rfl)
  clear hge harr
  have HS1 := Lib.hid (HS0.out.below hb9)
  have HB1 := Lib.hid (HB8.out.trans (hb9.mono HB8z.out))
  have HZ1 := Lib.hid (Nat.le_trans HB8z.out hb9.size)
  clear HS0 HB8 HB8z hb9
  have HS0 := HS1
  have HB8 := HB1
  have HB8z := HZ1
  clear HS1 HB1 HZ1
  refine HK9.out _ _ HS0.out ?_
  clear HK9
  simp only [List.setIfInBounds_toArray, List.set_cons_zero, List.set_cons_succ]
  refine wpAnyH_one (i := 3) (oi := ⟨some 9, _, _, _, _, _⟩) (by kernel_rfl) rfl (by rfl) (fun K9 hK9 => ?_)
  have HK9 := Lib.hid hK9
  clear hK9
  go_simp
  refine HK9.out _ _ HS0.out ?_
  clear HK9
  simp only [List.setIfInBounds_toArray, List.set_cons_zero, List.set_cons_succ]
  refine wpAnyH_one (i := 4) (oi := ⟨some 10, _, _, _, _, _⟩) (by kernel_rfl) rfl (by rfl) (fun K9 hK9 => ?_)
  have HK9 := Lib.hid hK9
  clear hK9
  have hq := HcN.out
  go_simp
  refine HK9.out _ _ HS0.out ?_
  clear HK9
  simp only [List.setIfInBounds_toArray, List.set_cons_zero, List.set_cons_succ]
  refine wpAnyH_take (i := 5) (oi := ⟨some 3, _, _, _, _, _⟩) (v := .string N) rfl (by kernel_rfl) (by kernel_rfl) (by kernel_rfl) (fun _ _ _ h => h) (Or.inl ⟨by rfl, ?_⟩) HS0.out ?_
  · intro w hSw
    go_simp <;> with_reducible rfl
  dsimp only [Act.put]
  simp only [List.setIfInBounds_toArray, List.set_cons_zero, List.set_cons_succ]
  refine wpAnyH_done (by kernel_rfl) ?_ _
  have HD := Lib.hid (decB_size a.nonce HS0.out.2.1.nonce)
  obtain ⟨D, hD⟩ : ∃ D, decB a.nonce = D := ⟨_, rfl⟩
  have hn_ := HS0.out.1.nonce
  have HC := Lib.hid (fmt_any a.nonce HS0.out.2.1.nonce w2 HS0.out.2.2)
  rw [hD] at HC HD
  have HDe := Lib.hid hD
  clear hD
  go_wp2_with fail
  with_reducible refine (HC.out).mono ?_
  rintro e w3 ⟨rfl, hb9⟩
  dsimp only
  have HS1 := Lib.hid (HS0.out.below hb9)
  have HB1 := Lib.hid (HB8.out.trans (hb9.mono HB8z.out))
  have HZ1 := Lib.hid (Nat.le_trans HB8z.out hb9.size)
  clear HS0 HB8 HB8z hb9
  have HS0 := HS1
  have HB8 := HB1
  have HB8z := HZ1
  clear HS1 HB1 HZ1
  clear hn_ HC HcN
  have hk_ := HS0.out.1.kindIs 8 HKk.out
  have hsD := HD.out
  go_wp2
  go_ret
  exact ⟨by rw [← HRES.out, sum8 a N HNm.out]; rfl, by rw [HG.out]; exact HB8.out⟩
end Go.Proofs.YtnohfondkcbdnaaGreatDoor
