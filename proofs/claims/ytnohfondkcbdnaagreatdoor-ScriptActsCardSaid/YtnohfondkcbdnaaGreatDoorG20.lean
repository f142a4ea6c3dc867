/- script.parts' closures. -/
import Derived.Test.YtnohfondkcbdnaaGreatDoorG19
import Derived.Test.YtnohfondkcbdnaaGreatDoorG09
namespace Go.Proofs.YtnohfondkcbdnaaGreatDoor
open Go.RowKit Go.Lib
set_option linter.unusedVariables false
set_option linter.unusedSimpArgs false
attribute [local go_sem ↓] Go.wp_at_zero Go.wp_at_succ

/-- What a word's closure answers: a row of these texts. -/
def PartPost (X : List ByteArray) (w : World) (e : Ending) (w' : World) : Prop := ∃ v', e = .returned v' ∧ StrsIs w' v' X ∧ Below w.heap.size w w'
def oneV : Value := .func (.func 62) #[] #[]
theorem StrsIs.below {w w' : World} {v : Value} {X : List ByteArray} (h : StrsIs w v X) (hb : Below w.heap.size w w') : StrsIs w' v X := RowIs.below h hb
set_option maxRecDepth 100000 in
theorem part1_any (s : ByteArray) (w : World) : Calls Tryz.prog 62 #[.string s] w (PartPost [s] w) := by
  go_enter Tryz.func62, Tryz.ntmps62
  go_wp2
  go_ret
  exact ⟨_, rfl, strs_one w s, (Below.refl _ _).alloc (Nat.le_refl _) _⟩
def PartS (q g2 : Nat) (a : ActM) (w : World) : Prop := w.cell? ⟨q, 0, none⟩ = some oneV ∧ ActAt w g2 a ∧ a.ok w ∧ TabO w
theorem PartS.below {q g2 : Nat} {a : ActM} {w w' : World} (h : PartS q g2 a w) (hb : Below w.heap.size w w') : PartS q g2 a w' := ⟨cellb hb h.1, h.2.1.below hb h.2.1.lt, h.2.2.1.below hb, h.2.2.2.below hb⟩
set_option maxRecDepth 100000 in
set_option maxHeartbeats 1600000 in
theorem part2_any (q : Nat) (a : ActM) (w : World) (hq : w.cell? ⟨q, 0, none⟩ = some oneV) (ha : a.ok w) (ht : TabO w) (hl : a.B.length ≤ 4000000) :
    Calls Tryz.prog 63 #[.agg a.cells.toArray, .pointer (some ⟨q, 0, none⟩)] w (PartPost [strL (digF a.B)] w) := by
  obtain ⟨aB, cB, hbv⟩ := ha.B.form
  obtain ⟨aP, cP, hpv⟩ := ha.P.2.form
  have HV := Lib.hid (And.intro hbv hpv)
  have HQ := Lib.hid hq
  have HA := Lib.hid ha
  have HT := Lib.hid ht
  have HL := Lib.hid hl
  clear hl
  clear hq ha ht hbv hpv
  go_enter Tryz.func63, Tryz.ntmps63
  go_upto_region 1 with fail
  have hm := Arr.made w 30 a.cells
  have hb := (Below.refl w.heap.size w).alloc (Nat.le_refl _) (.cells a.cells.toArray 30)
  have HB8 := Lib.hid hb.drew
  have HS0 := Lib.hid (show PartS q w.heap.size a (World.drew (World.alloc _ _)) from ⟨cellb hb HQ.out, ⟨hm, HA.out.lock⟩, HA.out.below hb.drew, HT.out.below hb.drew⟩)
  obtain ⟨g2, hg⟩ : ∃ g, w.heap.size = g := ⟨_, rfl⟩
  rw [hg] at HS0 ⊢
  have HG := Lib.hid hg
  clear hm hb hg
  refine wp_region_H (PartS q g2 a) (by kernel_rfl) ?_
  generalize World.drew _ = w8 at *
  simp only [List.size_toArray, List.length_cons, List.length_nil, Nat.reduceAdd, Array.replicate_succ, Array.replicate_zero, List.push_toArray, List.nil_append, List.cons_append]
  refine wpAnyH_take (i := 0) (oi := ⟨some 4, _, _, _, _, _⟩) (v := oneV) rfl (by kernel_rfl) (by kernel_rfl) (by kernel_rfl) (fun _ _ _ h => h) (Or.inl ⟨by rfl, ?_⟩) HS0.out ?_
  · intro w hSw
    have hq := hSw.1
    unfold oneV at hq
    unfold oneV
    go_simp <;> with_reducible rfl
  dsimp only [Act.put]
  simp only [List.setIfInBounds_toArray, List.set_cons_zero, List.set_cons_succ]
  refine wpAnyH_take (i := 1) (oi := ⟨some 5, _, _, _, _, _⟩) (v := ?_) rfl (by kernel_rfl) (by kernel_rfl) (by kernel_rfl) (fun _ _ _ h => h) (Or.inl ⟨by rfl, ?_⟩) HS0.out ?_
  rotate_left
  · intro w hSw
    go_simp <;> with_reducible rfl
  dsimp only [Act.put]
  simp only [List.setIfInBounds_toArray, List.set_cons_zero, List.set_cons_succ]
  refine wpAnyH_take (i := 2) (oi := ⟨some 6, _, _, _, _, _⟩) (v := a.bv) rfl (by kernel_rfl) (by kernel_rfl) (by kernel_rfl) (fun _ _ _ h => h) (Or.inl ⟨by rfl, ?_⟩) HS0.out ?_
  · intro w hSw
    have hq := hSw.2.1.bv
    go_simp <;> with_reducible rfl
  dsimp only [Act.put]
  simp only [List.setIfInBounds_toArray, List.set_cons_zero, List.set_cons_succ]
  refine wpAnyH_one (i := 3) (oi := ⟨some 7, _, _, _, _, _⟩) (by kernel_rfl) rfl (by rfl) (fun K9 hK9 => ?_)
  have HK9 := Lib.hid hK9
  clear hK9
  go_simp
  refine (digits_any a.bv a.B w8 HS0.out.2.2.1.B HL.out).mono ?_
  rintro e w1 ⟨rfl, hb1⟩
  dsimp only
  have HS1 := Lib.hid (HS0.out.below hb1)
  have HB1 := Lib.hid (HB8.out.trans (hb1.mono HB8.out.size))
  clear hb1 HS0 HB8
  have HS0 := HS1
  have HB8 := HB1
  clear HS1 HB1
  refine HK9.out _ _ HS0.out ?_
  clear HK9
  simp only [List.setIfInBounds_toArray, List.set_cons_zero, List.set_cons_succ]
  refine wpAnyH_one (i := 4) (oi := ⟨some 8, _, _, _, _, _⟩) (by kernel_rfl) rfl (by rfl) (fun K9 hK9 => ?_)
  have HK9 := Lib.hid hK9
  clear hK9
  unfold oneV
  go_simp
  refine (part1_any _ w1).mono ?_
  rintro e w2 ⟨v2, rfl, hs2, hb2⟩
  dsimp only
  have HS1 := Lib.hid (HS0.out.below hb2)
  have HB1 := Lib.hid (HB8.out.trans (hb2.mono HB8.out.size))
  have HV2 := Lib.hid hs2
  clear hs2 hb2 HS0 HB8
  have HS0 := HS1
  have HB8 := HB1
  clear HS1 HB1
  refine HK9.out _ _ HS0.out ?_
  clear HK9
  simp only [List.setIfInBounds_toArray, List.set_cons_zero, List.set_cons_succ]
  refine wpAnyH_take (i := 5) (oi := ⟨some 3, _, _, _, _, _⟩) (v := v2) rfl (by kernel_rfl) (by kernel_rfl) (by kernel_rfl) (fun _ _ _ h => h) (Or.inl ⟨by rfl, ?_⟩) HS0.out ?_
  · intro w hSw
    go_simp <;> with_reducible rfl
  dsimp only [Act.put]
  simp only [List.setIfInBounds_toArray, List.set_cons_zero, List.set_cons_succ]
  refine wpAnyH_done (by kernel_rfl) ?_ _
  go_wp2
  go_ret
  rw [← HG.out]
  exact ⟨_, rfl, HV2.out, HB8.out⟩
set_option maxRecDepth 100000 in
set_option maxHeartbeats 1600000 in
theorem part3_any (q : Nat) (a : ActM) (w : World) (hq : w.cell? ⟨q, 0, none⟩ = some oneV) (ha : a.ok w) (ht : TabO w) :
    Calls Tryz.prog 65 #[.agg a.cells.toArray, .pointer (some ⟨q, 0, none⟩)] w (PartPost [strL (hexF a.lock)] w) := by
  obtain ⟨aB, cB, hbv⟩ := ha.B.form
  obtain ⟨aP, cP, hpv⟩ := ha.P.2.form
  have HV := Lib.hid (And.intro hbv hpv)
  have HQ := Lib.hid hq
  have HA := Lib.hid ha
  have HT := Lib.hid ht
  clear hq ha ht hbv hpv
  go_enter Tryz.func65, Tryz.ntmps65
  go_upto_region 1 with fail
  have hm := Arr.made w 30 a.cells
  have hb := (Below.refl w.heap.size w).alloc (Nat.le_refl _) (.cells a.cells.toArray 30)
  have HB8 := Lib.hid hb.drew
  have HS0 := Lib.hid (show PartS q w.heap.size a (World.drew (World.alloc _ _)) from ⟨cellb hb HQ.out, ⟨hm, HA.out.lock⟩, HA.out.below hb.drew, HT.out.below hb.drew⟩)
  obtain ⟨g2, hg⟩ : ∃ g, w.heap.size = g := ⟨_, rfl⟩
  rw [hg] at HS0 ⊢
  have HG := Lib.hid hg
  clear hm hb hg
  refine wp_region_H (PartS q g2 a) (by kernel_rfl) ?_
  generalize World.drew _ = w8 at *
  simp only [List.size_toArray, List.length_cons, List.length_nil, Nat.reduceAdd, Array.replicate_succ, Array.replicate_zero, List.push_toArray, List.nil_append, List.cons_append]
  refine wpAnyH_take (i := 0) (oi := ⟨some 4, _, _, _, _, _⟩) (v := oneV) rfl (by kernel_rfl) (by kernel_rfl) (by kernel_rfl) (fun _ _ _ h => h) (Or.inl ⟨by rfl, ?_⟩) HS0.out ?_
  · intro w hSw
    have hq := hSw.1
    unfold oneV at hq
    unfold oneV
    go_simp <;> with_reducible rfl
  dsimp only [Act.put]
  simp only [List.setIfInBounds_toArray, List.set_cons_zero, List.set_cons_succ]
  refine wpAnyH_take (i := 1) (oi := ⟨some 5, _, _, _, _, _⟩) (v := ?_) rfl (by kernel_rfl) (by kernel_rfl) (by kernel_rfl) (fun _ _ _ h => h) (Or.inl ⟨by rfl, ?_⟩) HS0.out ?_
  rotate_left
  · intro w hSw
    go_simp <;> with_reducible rfl
  dsimp only [Act.put]
  simp only [List.setIfInBounds_toArray, List.set_cons_zero, List.set_cons_succ]
  refine wpAnyH_take (i := 2) (oi := ⟨some 6, _, _, _, _, _⟩) rfl (by kernel_rfl) (by kernel_rfl) (by kernel_rfl) (fun _ _ _ h => h) (yieldsIf_load_mid (by rfl) 25 (.tmp 5) rfl (g2) (2) rfl (bys a.lock) _ (fun w h => h.2.1.lock) Tryz.underlying25 rfl (size_hash _ HA.out.lock.1)) HS0.out ?_
  dsimp only [Act.put]
  simp only [List.setIfInBounds_toArray, List.set_cons_zero, List.set_cons_succ]
  refine wpAnyH_one (i := 3) (oi := ⟨some 7, _, _, _, _, _⟩) (by kernel_rfl) rfl (by rfl) (fun K9 hK9 => ?_)
  have HK9 := Lib.hid hK9
  clear hK9
  go_simp
  refine (hashtext_any a.lock w8 HS0.out.2.2.1.lock).mono ?_
  rintro e w1 ⟨rfl, hb1⟩
  dsimp only
  have HS1 := Lib.hid (HS0.out.below hb1)
  have HB1 := Lib.hid (HB8.out.trans (hb1.mono HB8.out.size))
  clear hb1 HS0 HB8
  have HS0 := HS1
  have HB8 := HB1
  clear HS1 HB1
  refine HK9.out _ _ HS0.out ?_
  clear HK9
  simp only [List.setIfInBounds_toArray, List.set_cons_zero, List.set_cons_succ]
  refine wpAnyH_one (i := 4) (oi := ⟨some 8, _, _, _, _, _⟩) (by kernel_rfl) rfl (by rfl) (fun K9 hK9 => ?_)
  have HK9 := Lib.hid hK9
  clear hK9
  unfold oneV
  go_simp
  refine (part1_any _ w1).mono ?_
  rintro e w2 ⟨v2, rfl, hs2, hb2⟩
  dsimp only
  have HS1 := Lib.hid (HS0.out.below hb2)
  have HB1 := Lib.hid (HB8.out.trans (hb2.mono HB8.out.size))
  have HV2 := Lib.hid hs2
  clear hs2 hb2 HS0 HB8
  have HS0 := HS1
  have HB8 := HB1
  clear HS1 HB1
  refine HK9.out _ _ HS0.out ?_
  clear HK9
  simp only [List.setIfInBounds_toArray, List.set_cons_zero, List.set_cons_succ]
  refine wpAnyH_take (i := 5) (oi := ⟨some 3, _, _, _, _, _⟩) (v := v2) rfl (by kernel_rfl) (by kernel_rfl) (by kernel_rfl) (fun _ _ _ h => h) (Or.inl ⟨by rfl, ?_⟩) HS0.out ?_
  · intro w hSw
    go_simp <;> with_reducible rfl
  dsimp only [Act.put]
  simp only [List.setIfInBounds_toArray, List.set_cons_zero, List.set_cons_succ]
  refine wpAnyH_done (by kernel_rfl) ?_ _
  go_wp2
  go_ret
  rw [← HG.out]
  exact ⟨_, rfl, HV2.out, HB8.out⟩
set_option maxRecDepth 100000 in
set_option maxHeartbeats 1600000 in
theorem part4_any (q : Nat) (a : ActM) (w : World) (hq : w.cell? ⟨q, 0, none⟩ = some oneV) (ha : a.ok w) (ht : TabO w) :
    Calls Tryz.prog 67 #[.agg a.cells.toArray, .pointer (some ⟨q, 0, none⟩)] w (PartPost [decB a.nonce] w) := by
  obtain ⟨aB, cB, hbv⟩ := ha.B.form
  obtain ⟨aP, cP, hpv⟩ := ha.P.2.form
  have HV := Lib.hid (And.intro hbv hpv)
  have HQ := Lib.hid hq
  have HA := Lib.hid ha
  have HT := Lib.hid ht
  clear hq ha ht hbv hpv
  go_enter Tryz.func67, Tryz.ntmps67
  go_upto_region 1 with fail
  have hm := Arr.made w 30 a.cells
  have hb := (Below.refl w.heap.size w).alloc (Nat.le_refl _) (.cells a.cells.toArray 30)
  have HB8 := Lib.hid hb.drew
  have HS0 := Lib.hid (show PartS q w.heap.size a (World.drew (World.alloc _ _)) from ⟨cellb hb HQ.out, ⟨hm, HA.out.lock⟩, HA.out.below hb.drew, HT.out.below hb.drew⟩)
  obtain ⟨g2, hg⟩ : ∃ g, w.heap.size = g := ⟨_, rfl⟩
  rw [hg] at HS0 ⊢
  have HG := Lib.hid hg
  clear hm hb hg
  refine wp_region_H (PartS q g2 a) (by kernel_rfl) ?_
  generalize World.drew _ = w8 at *
  simp only [List.size_toArray, List.length_cons, List.length_nil, Nat.reduceAdd, Array.replicate_succ, Array.replicate_zero, List.push_toArray, List.nil_append, List.cons_append]
  refine wpAnyH_take (i := 0) (oi := ⟨some 4, _, _, _, _, _⟩) (v := oneV) rfl (by kernel_rfl) (by kernel_rfl) (by kernel_rfl) (fun _ _ _ h => h) (Or.inl ⟨by rfl, ?_⟩) HS0.out ?_
  · intro w hSw
    have hq := hSw.1
    unfold oneV at hq
    unfold oneV
    go_simp <;> with_reducible rfl
  dsimp only [Act.put]
  simp only [List.setIfInBounds_toArray, List.set_cons_zero, List.set_cons_succ]
  refine wpAnyH_take (i := 1) (oi := ⟨some 5, _, _, _, _, _⟩) (v := ?_) rfl (by kernel_rfl) (by kernel_rfl) (by kernel_rfl) (fun _ _ _ h => h) (Or.inl ⟨by rfl, ?_⟩) HS0.out ?_
  rotate_left
  · intro w hSw
    go_simp <;> with_reducible rfl
  dsimp only [Act.put]
  simp only [List.setIfInBounds_toArray, List.set_cons_zero, List.set_cons_succ]
  refine wpAnyH_take (i := 2) (oi := ⟨some 6, _, _, _, _, _⟩) (v := .int .u64 (a.nonce : Nat)) rfl (by kernel_rfl) (by kernel_rfl) (by kernel_rfl) (fun _ _ _ h => h) (Or.inl ⟨by rfl, ?_⟩) HS0.out ?_
  · intro w hSw
    have hq := hSw.2.1.nonce
    go_simp <;> with_reducible rfl
  dsimp only [Act.put]
  simp only [List.setIfInBounds_toArray, List.set_cons_zero, List.set_cons_succ]
  refine wpAnyH_one (i := 3) (oi := ⟨some 7, _, _, _, _, _⟩) (by kernel_rfl) rfl (by rfl) (fun K9 hK9 => ?_)
  have HK9 := Lib.hid hK9
  clear hK9
  go_simp
  refine (fmt_any a.nonce HS0.out.2.2.1.nonce w8 HS0.out.2.2.2).mono ?_
  rintro e w1 ⟨rfl, hb1⟩
  dsimp only
  have HS1 := Lib.hid (HS0.out.below hb1)
  have HB1 := Lib.hid (HB8.out.trans (hb1.mono HB8.out.size))
  clear hb1 HS0 HB8
  have HS0 := HS1
  have HB8 := HB1
  clear HS1 HB1
  refine HK9.out _ _ HS0.out ?_
  clear HK9
  simp only [List.setIfInBounds_toArray, List.set_cons_zero, List.set_cons_succ]
  refine wpAnyH_one (i := 4) (oi := ⟨some 8, _, _, _, _, _⟩) (by kernel_rfl) rfl (by rfl) (fun K9 hK9 => ?_)
  have HK9 := Lib.hid hK9
  clear hK9
  unfold oneV
  go_simp
  refine (part1_any _ w1).mono ?_
  rintro e w2 ⟨v2, rfl, hs2, hb2⟩
  dsimp only
  have HS1 := Lib.hid (HS0.out.below hb2)
  have HB1 := Lib.hid (HB8.out.trans (hb2.mono HB8.out.size))
  have HV2 := Lib.hid hs2
  clear hs2 hb2 HS0 HB8
  have HS0 := HS1
  have HB8 := HB1
  clear HS1 HB1
  refine HK9.out _ _ HS0.out ?_
  clear HK9
  simp only [List.setIfInBounds_toArray, List.set_cons_zero, List.set_cons_succ]
  refine wpAnyH_take (i := 5) (oi := ⟨some 3, _, _, _, _, _⟩) (v := v2) rfl (by kernel_rfl) (by kernel_rfl) (by kernel_rfl) (fun _ _ _ h => h) (Or.inl ⟨by rfl, ?_⟩) HS0.out ?_
  · intro w hSw
    go_simp <;> with_reducible rfl
  dsimp only [Act.put]
  simp only [List.setIfInBounds_toArray, List.set_cons_zero, List.set_cons_succ]
  refine wpAnyH_done (by kernel_rfl) ?_ _
  go_wp2
  go_ret
  rw [← HG.out]
  exact ⟨_, rfl, HV2.out, HB8.out⟩
set_option maxRecDepth 100000 in
set_option maxHeartbeats 1600000 in
theorem part5_any (q : Nat) (a : ActM) (w : World) (hq : w.cell? ⟨q, 0, none⟩ = some oneV) (ha : a.ok w) (ht : TabO w) (hl : a.P.length ≤ 100000) :
    Calls Tryz.prog 68 #[.agg a.cells.toArray, .pointer (some ⟨q, 0, none⟩)] w (PartPost [listB a.P] w) := by
  obtain ⟨aB, cB, hbv⟩ := ha.B.form
  obtain ⟨aP, cP, hpv⟩ := ha.P.2.form
  have HV := Lib.hid (And.intro hbv hpv)
  have HQ := Lib.hid hq
  have HA := Lib.hid ha
  have HT := Lib.hid ht
  have HL := Lib.hid hl
  clear hl
  clear hq ha ht hbv hpv
  go_enter Tryz.func68, Tryz.ntmps68
  go_upto_region 1 with fail
  have hm := Arr.made w 30 a.cells
  have hb := (Below.refl w.heap.size w).alloc (Nat.le_refl _) (.cells a.cells.toArray 30)
  have HB8 := Lib.hid hb.drew
  have HS0 := Lib.hid (show PartS q w.heap.size a (World.drew (World.alloc _ _)) from ⟨cellb hb HQ.out, ⟨hm, HA.out.lock⟩, HA.out.below hb.drew, HT.out.below hb.drew⟩)
  obtain ⟨g2, hg⟩ : ∃ g, w.heap.size = g := ⟨_, rfl⟩
  rw [hg] at HS0 ⊢
  have HG := Lib.hid hg
  clear hm hb hg
  refine wp_region_H (PartS q g2 a) (by kernel_rfl) ?_
  generalize World.drew _ = w8 at *
  simp only [List.size_toArray, List.length_cons, List.length_nil, Nat.reduceAdd, Array.replicate_succ, Array.replicate_zero, List.push_toArray, List.nil_append, List.cons_append]
  refine wpAnyH_take (i := 0) (oi := ⟨some 4, _, _, _, _, _⟩) (v := oneV) rfl (by kernel_rfl) (by kernel_rfl) (by kernel_rfl) (fun _ _ _ h => h) (Or.inl ⟨by rfl, ?_⟩) HS0.out ?_
  · intro w hSw
    have hq := hSw.1
    unfold oneV at hq
    unfold oneV
    go_simp <;> with_reducible rfl
  dsimp only [Act.put]
  simp only [List.setIfInBounds_toArray, List.set_cons_zero, List.set_cons_succ]
  refine wpAnyH_take (i := 1) (oi := ⟨some 5, _, _, _, _, _⟩) (v := ?_) rfl (by kernel_rfl) (by kernel_rfl) (by kernel_rfl) (fun _ _ _ h => h) (Or.inl ⟨by rfl, ?_⟩) HS0.out ?_
  rotate_left
  · intro w hSw
    go_simp <;> with_reducible rfl
  dsimp only [Act.put]
  simp only [List.setIfInBounds_toArray, List.set_cons_zero, List.set_cons_succ]
  refine wpAnyH_take (i := 2) (oi := ⟨some 6, _, _, _, _, _⟩) (v := a.pv) rfl (by kernel_rfl) (by kernel_rfl) (by kernel_rfl) (fun _ _ _ h => h) (Or.inl ⟨by rfl, ?_⟩) HS0.out ?_
  · intro w hSw
    have hq := hSw.2.1.pv
    go_simp <;> with_reducible rfl
  dsimp only [Act.put]
  simp only [List.setIfInBounds_toArray, List.set_cons_zero, List.set_cons_succ]
  refine wpAnyH_one (i := 3) (oi := ⟨some 7, _, _, _, _, _⟩) (by kernel_rfl) rfl (by rfl) (fun K9 hK9 => ?_)
  have HK9 := Lib.hid hK9
  clear hK9
  go_simp
  refine (list_any a.P a.pv w8 HS0.out.2.2.1.P HL.out HS0.out.2.2.2).mono ?_
  rintro e w1 ⟨rfl, hb1⟩
  dsimp only
  have HS1 := Lib.hid (HS0.out.below hb1)
  have HB1 := Lib.hid (HB8.out.trans (hb1.mono HB8.out.size))
  clear hb1 HS0 HB8
  have HS0 := HS1
  have HB8 := HB1
  clear HS1 HB1
  refine HK9.out _ _ HS0.out ?_
  clear HK9
  simp only [List.setIfInBounds_toArray, List.set_cons_zero, List.set_cons_succ]
  refine wpAnyH_one (i := 4) (oi := ⟨some 8, _, _, _, _, _⟩) (by kernel_rfl) rfl (by rfl) (fun K9 hK9 => ?_)
  have HK9 := Lib.hid hK9
  clear hK9
  unfold oneV
  go_simp
  refine (part1_any _ w1).mono ?_
  rintro e w2 ⟨v2, rfl, hs2, hb2⟩
  dsimp only
  have HS1 := Lib.hid (HS0.out.below hb2)
  have HB1 := Lib.hid (HB8.out.trans (hb2.mono HB8.out.size))
  have HV2 := Lib.hid hs2
  clear hs2 hb2 HS0 HB8
  have HS0 := HS1
  have HB8 := HB1
  clear HS1 HB1
  refine HK9.out _ _ HS0.out ?_
  clear HK9
  simp only [List.setIfInBounds_toArray, List.set_cons_zero, List.set_cons_succ]
  refine wpAnyH_take (i := 5) (oi := ⟨some 3, _, _, _, _, _⟩) (v := v2) rfl (by kernel_rfl) (by kernel_rfl) (by kernel_rfl) (fun _ _ _ h => h) (Or.inl ⟨by rfl, ?_⟩) HS0.out ?_
  · intro w hSw
    go_simp <;> with_reducible rfl
  dsimp only [Act.put]
  simp only [List.setIfInBounds_toArray, List.set_cons_zero, List.set_cons_succ]
  refine wpAnyH_done (by kernel_rfl) ?_ _
  go_wp2
  go_ret
  rw [← HG.out]
  exact ⟨_, rfl, HV2.out, HB8.out⟩
set_option maxRecDepth 100000 in
set_option maxHeartbeats 1600000 in
theorem part6_any (q : Nat) (a : ActM) (w : World) (hq : w.cell? ⟨q, 0, none⟩ = some oneV) (ha : a.ok w) (ht : TabO w) :
    Calls Tryz.prog 70 #[.agg a.cells.toArray, .pointer (some ⟨q, 0, none⟩)] w (PartPost [qualB a.bad] w) := by
  obtain ⟨aB, cB, hbv⟩ := ha.B.form
  obtain ⟨aP, cP, hpv⟩ := ha.P.2.form
  have HV := Lib.hid (And.intro hbv hpv)
  have HQ := Lib.hid hq
  have HA := Lib.hid ha
  have HT := Lib.hid ht
  clear hq ha ht hbv hpv
  go_enter Tryz.func70, Tryz.ntmps70
  go_upto_region 1 with fail
  have hm := Arr.made w 30 a.cells
  have hb := (Below.refl w.heap.size w).alloc (Nat.le_refl _) (.cells a.cells.toArray 30)
  have HB8 := Lib.hid hb.drew
  have HS0 := Lib.hid (show PartS q w.heap.size a (World.drew (World.alloc _ _)) from ⟨cellb hb HQ.out, ⟨hm, HA.out.lock⟩, HA.out.below hb.drew, HT.out.below hb.drew⟩)
  obtain ⟨g2, hg⟩ : ∃ g, w.heap.size = g := ⟨_, rfl⟩
  rw [hg] at HS0 ⊢
  have HG := Lib.hid hg
  clear hm hb hg
  refine wp_region_H (PartS q g2 a) (by kernel_rfl) ?_
  generalize World.drew _ = w8 at *
  simp only [List.size_toArray, List.length_cons, List.length_nil, Nat.reduceAdd, Array.replicate_succ, Array.replicate_zero, List.push_toArray, List.nil_append, List.cons_append]
  refine wpAnyH_take (i := 0) (oi := ⟨some 4, _, _, _, _, _⟩) (v := oneV) rfl (by kernel_rfl) (by kernel_rfl) (by kernel_rfl) (fun _ _ _ h => h) (Or.inl ⟨by rfl, ?_⟩) HS0.out ?_
  · intro w hSw
    have hq := hSw.1
    unfold oneV at hq
    unfold oneV
    go_simp <;> with_reducible rfl
  dsimp only [Act.put]
  simp only [List.setIfInBounds_toArray, List.set_cons_zero, List.set_cons_succ]
  refine wpAnyH_take (i := 1) (oi := ⟨some 5, _, _, _, _, _⟩) (v := ?_) rfl (by kernel_rfl) (by kernel_rfl) (by kernel_rfl) (fun _ _ _ h => h) (Or.inl ⟨by rfl, ?_⟩) HS0.out ?_
  rotate_left
  · intro w hSw
    go_simp <;> with_reducible rfl
  dsimp only [Act.put]
  simp only [List.setIfInBounds_toArray, List.set_cons_zero, List.set_cons_succ]
  refine wpAnyH_take (i := 2) (oi := ⟨some 6, _, _, _, _, _⟩) (v := .bool a.bad) rfl (by kernel_rfl) (by kernel_rfl) (by kernel_rfl) (fun _ _ _ h => h) (Or.inl ⟨by rfl, ?_⟩) HS0.out ?_
  · intro w hSw
    have hq := hSw.2.1.bad
    go_simp <;> with_reducible rfl
  dsimp only [Act.put]
  simp only [List.setIfInBounds_toArray, List.set_cons_zero, List.set_cons_succ]
  refine wpAnyH_one (i := 3) (oi := ⟨some 7, _, _, _, _, _⟩) (by kernel_rfl) rfl (by rfl) (fun K9 hK9 => ?_)
  have HK9 := Lib.hid hK9
  clear hK9
  go_simp
  refine (quality_any a.bad w8).mono ?_
  rintro e w1 ⟨rfl, hb1⟩
  dsimp only
  have HS1 := Lib.hid (HS0.out.below hb1)
  have HB1 := Lib.hid (HB8.out.trans (hb1.mono HB8.out.size))
  clear hb1 HS0 HB8
  have HS0 := HS1
  have HB8 := HB1
  clear HS1 HB1
  refine HK9.out _ _ HS0.out ?_
  clear HK9
  simp only [List.setIfInBounds_toArray, List.set_cons_zero, List.set_cons_succ]
  refine wpAnyH_one (i := 4) (oi := ⟨some 8, _, _, _, _, _⟩) (by kernel_rfl) rfl (by rfl) (fun K9 hK9 => ?_)
  have HK9 := Lib.hid hK9
  clear hK9
  unfold oneV
  go_simp
  refine (part1_any _ w1).mono ?_
  rintro e w2 ⟨v2, rfl, hs2, hb2⟩
  dsimp only
  have HS1 := Lib.hid (HS0.out.below hb2)
  have HB1 := Lib.hid (HB8.out.trans (hb2.mono HB8.out.size))
  have HV2 := Lib.hid hs2
  clear hs2 hb2 HS0 HB8
  have HS0 := HS1
  have HB8 := HB1
  clear HS1 HB1
  refine HK9.out _ _ HS0.out ?_
  clear HK9
  simp only [List.setIfInBounds_toArray, List.set_cons_zero, List.set_cons_succ]
  refine wpAnyH_take (i := 5) (oi := ⟨some 3, _, _, _, _, _⟩) (v := v2) rfl (by kernel_rfl) (by kernel_rfl) (by kernel_rfl) (fun _ _ _ h => h) (Or.inl ⟨by rfl, ?_⟩) HS0.out ?_
  · intro w hSw
    go_simp <;> with_reducible rfl
  dsimp only [Act.put]
  simp only [List.setIfInBounds_toArray, List.set_cons_zero, List.set_cons_succ]
  refine wpAnyH_done (by kernel_rfl) ?_ _
  go_wp2
  go_ret
  rw [← HG.out]
  exact ⟨_, rfl, HV2.out, HB8.out⟩
set_option maxRecDepth 100000 in
set_option maxHeartbeats 1600000 in
theorem part7_any (q : Nat) (a : ActM) (w : World) (hq : w.cell? ⟨q, 0, none⟩ = some oneV) (ha : a.ok w) (ht : TabO w) :
    Calls Tryz.prog 72 #[.agg a.cells.toArray, .pointer (some ⟨q, 0, none⟩)] w (PartPost [itoaB a.n] w) := by
  obtain ⟨aB, cB, hbv⟩ := ha.B.form
  obtain ⟨aP, cP, hpv⟩ := ha.P.2.form
  have HV := Lib.hid (And.intro hbv hpv)
  have HQ := Lib.hid hq
  have HA := Lib.hid ha
  have HT := Lib.hid ht
  clear hq ha ht hbv hpv
  go_enter Tryz.func72, Tryz.ntmps72
  go_upto_region 1 with fail
  have hm := Arr.made w 30 a.cells
  have hb := (Below.refl w.heap.size w).alloc (Nat.le_refl _) (.cells a.cells.toArray 30)
  have HB8 := Lib.hid hb.drew
  have HS0 := Lib.hid (show PartS q w.heap.size a (World.drew (World.alloc _ _)) from ⟨cellb hb HQ.out, ⟨hm, HA.out.lock⟩, HA.out.below hb.drew, HT.out.below hb.drew⟩)
  obtain ⟨g2, hg⟩ : ∃ g, w.heap.size = g := ⟨_, rfl⟩
  rw [hg] at HS0 ⊢
  have HG := Lib.hid hg
  clear hm hb hg
  refine wp_region_H (PartS q g2 a) (by kernel_rfl) ?_
  generalize World.drew _ = w8 at *
  simp only [List.size_toArray, List.length_cons, List.length_nil, Nat.reduceAdd, Array.replicate_succ, Array.replicate_zero, List.push_toArray, List.nil_append, List.cons_append]
  refine wpAnyH_take (i := 0) (oi := ⟨some 4, _, _, _, _, _⟩) (v := oneV) rfl (by kernel_rfl) (by kernel_rfl) (by kernel_rfl) (fun _ _ _ h => h) (Or.inl ⟨by rfl, ?_⟩) HS0.out ?_
  · intro w hSw
    have hq := hSw.1
    unfold oneV at hq
    unfold oneV
    go_simp <;> with_reducible rfl
  dsimp only [Act.put]
  simp only [List.setIfInBounds_toArray, List.set_cons_zero, List.set_cons_succ]
  refine wpAnyH_take (i := 1) (oi := ⟨some 5, _, _, _, _, _⟩) (v := ?_) rfl (by kernel_rfl) (by kernel_rfl) (by kernel_rfl) (fun _ _ _ h => h) (Or.inl ⟨by rfl, ?_⟩) HS0.out ?_
  rotate_left
  · intro w hSw
    go_simp <;> with_reducible rfl
  dsimp only [Act.put]
  simp only [List.setIfInBounds_toArray, List.set_cons_zero, List.set_cons_succ]
  refine wpAnyH_take (i := 2) (oi := ⟨some 6, _, _, _, _, _⟩) (v := .int .i64 a.n) rfl (by kernel_rfl) (by kernel_rfl) (by kernel_rfl) (fun _ _ _ h => h) (Or.inl ⟨by rfl, ?_⟩) HS0.out ?_
  · intro w hSw
    have hq := hSw.2.1.n
    go_simp <;> with_reducible rfl
  dsimp only [Act.put]
  simp only [List.setIfInBounds_toArray, List.set_cons_zero, List.set_cons_succ]
  refine wpAnyH_one (i := 3) (oi := ⟨some 7, _, _, _, _, _⟩) (by kernel_rfl) rfl (by rfl) (fun K9 hK9 => ?_)
  have HK9 := Lib.hid hK9
  clear hK9
  go_simp
  refine (itoa_any a.n HS0.out.2.2.1.n w8 HS0.out.2.2.2).mono ?_
  rintro e w1 ⟨rfl, hb1⟩
  dsimp only
  have HS1 := Lib.hid (HS0.out.below hb1)
  have HB1 := Lib.hid (HB8.out.trans (hb1.mono HB8.out.size))
  clear hb1 HS0 HB8
  have HS0 := HS1
  have HB8 := HB1
  clear HS1 HB1
  refine HK9.out _ _ HS0.out ?_
  clear HK9
  simp only [List.setIfInBounds_toArray, List.set_cons_zero, List.set_cons_succ]
  refine wpAnyH_one (i := 4) (oi := ⟨some 8, _, _, _, _, _⟩) (by kernel_rfl) rfl (by rfl) (fun K9 hK9 => ?_)
  have HK9 := Lib.hid hK9
  clear hK9
  unfold oneV
  go_simp
  refine (part1_any _ w1).mono ?_
  rintro e w2 ⟨v2, rfl, hs2, hb2⟩
  dsimp only
  have HS1 := Lib.hid (HS0.out.below hb2)
  have HB1 := Lib.hid (HB8.out.trans (hb2.mono HB8.out.size))
  have HV2 := Lib.hid hs2
  clear hs2 hb2 HS0 HB8
  have HS0 := HS1
  have HB8 := HB1
  clear HS1 HB1
  refine HK9.out _ _ HS0.out ?_
  clear HK9
  simp only [List.setIfInBounds_toArray, List.set_cons_zero, List.set_cons_succ]
  refine wpAnyH_take (i := 5) (oi := ⟨some 3, _, _, _, _, _⟩) (v := v2) rfl (by kernel_rfl) (by kernel_rfl) (by kernel_rfl) (fun _ _ _ h => h) (Or.inl ⟨by rfl, ?_⟩) HS0.out ?_
  · intro w hSw
    go_simp <;> with_reducible rfl
  dsimp only [Act.put]
  simp only [List.setIfInBounds_toArray, List.set_cons_zero, List.set_cons_succ]
  refine wpAnyH_done (by kernel_rfl) ?_ _
  go_wp2
  go_ret
  rw [← HG.out]
  exact ⟨_, rfl, HV2.out, HB8.out⟩
set_option maxRecDepth 100000 in
set_option maxHeartbeats 1600000 in
theorem part8_any (q : Nat) (a : ActM) (w : World) (hq : w.cell? ⟨q, 0, none⟩ = some oneV) (ha : a.ok w) (ht : TabO w) :
    Calls Tryz.prog 73 #[.agg a.cells.toArray, .pointer (some ⟨q, 0, none⟩)] w (PartPost [itoaB a.m] w) := by
  obtain ⟨aB, cB, hbv⟩ := ha.B.form
  obtain ⟨aP, cP, hpv⟩ := ha.P.2.form
  have HV := Lib.hid (And.intro hbv hpv)
  have HQ := Lib.hid hq
  have HA := Lib.hid ha
  have HT := Lib.hid ht
  clear hq ha ht hbv hpv
  go_enter Tryz.func73, Tryz.ntmps73
  go_upto_region 1 with fail
  have hm := Arr.made w 30 a.cells
  have hb := (Below.refl w.heap.size w).alloc (Nat.le_refl _) (.cells a.cells.toArray 30)
  have HB8 := Lib.hid hb.drew
  have HS0 := Lib.hid (show PartS q w.heap.size a (World.drew (World.alloc _ _)) from ⟨cellb hb HQ.out, ⟨hm, HA.out.lock⟩, HA.out.below hb.drew, HT.out.below hb.drew⟩)
  obtain ⟨g2, hg⟩ : ∃ g, w.heap.size = g := ⟨_, rfl⟩
  rw [hg] at HS0 ⊢
  have HG := Lib.hid hg
  clear hm hb hg
  refine wp_region_H (PartS q g2 a) (by kernel_rfl) ?_
  generalize World.drew _ = w8 at *
  simp only [List.size_toArray, List.length_cons, List.length_nil, Nat.reduceAdd, Array.replicate_succ, Array.replicate_zero, List.push_toArray, List.nil_append, List.cons_append]
  refine wpAnyH_take (i := 0) (oi := ⟨some 4, _, _, _, _, _⟩) (v := oneV) rfl (by kernel_rfl) (by kernel_rfl) (by kernel_rfl) (fun _ _ _ h => h) (Or.inl ⟨by rfl, ?_⟩) HS0.out ?_
  · intro w hSw
    have hq := hSw.1
    unfold oneV at hq
    unfold oneV
    go_simp <;> with_reducible rfl
  dsimp only [Act.put]
  simp only [List.setIfInBounds_toArray, List.set_cons_zero, List.set_cons_succ]
  refine wpAnyH_take (i := 1) (oi := ⟨some 5, _, _, _, _, _⟩) (v := ?_) rfl (by kernel_rfl) (by kernel_rfl) (by kernel_rfl) (fun _ _ _ h => h) (Or.inl ⟨by rfl, ?_⟩) HS0.out ?_
  rotate_left
  · intro w hSw
    go_simp <;> with_reducible rfl
  dsimp only [Act.put]
  simp only [List.setIfInBounds_toArray, List.set_cons_zero, List.set_cons_succ]
  refine wpAnyH_take (i := 2) (oi := ⟨some 6, _, _, _, _, _⟩) (v := .int .i64 a.m) rfl (by kernel_rfl) (by kernel_rfl) (by kernel_rfl) (fun _ _ _ h => h) (Or.inl ⟨by rfl, ?_⟩) HS0.out ?_
  · intro w hSw
    have hq := hSw.2.1.m
    go_simp <;> with_reducible rfl
  dsimp only [Act.put]
  simp only [List.setIfInBounds_toArray, List.set_cons_zero, List.set_cons_succ]
  refine wpAnyH_one (i := 3) (oi := ⟨some 7, _, _, _, _, _⟩) (by kernel_rfl) rfl (by rfl) (fun K9 hK9 => ?_)
  have HK9 := Lib.hid hK9
  clear hK9
  go_simp
  refine (itoa_any a.m HS0.out.2.2.1.m w8 HS0.out.2.2.2).mono ?_
  rintro e w1 ⟨rfl, hb1⟩
  dsimp only
  have HS1 := Lib.hid (HS0.out.below hb1)
  have HB1 := Lib.hid (HB8.out.trans (hb1.mono HB8.out.size))
  clear hb1 HS0 HB8
  have HS0 := HS1
  have HB8 := HB1
  clear HS1 HB1
  refine HK9.out _ _ HS0.out ?_
  clear HK9
  simp only [List.setIfInBounds_toArray, List.set_cons_zero, List.set_cons_succ]
  refine wpAnyH_one (i := 4) (oi := ⟨some 8, _, _, _, _, _⟩) (by kernel_rfl) rfl (by rfl) (fun K9 hK9 => ?_)
  have HK9 := Lib.hid hK9
  clear hK9
  unfold oneV
  go_simp
  refine (part1_any _ w1).mono ?_
  rintro e w2 ⟨v2, rfl, hs2, hb2⟩
  dsimp only
  have HS1 := Lib.hid (HS0.out.below hb2)
  have HB1 := Lib.hid (HB8.out.trans (hb2.mono HB8.out.size))
  have HV2 := Lib.hid hs2
  clear hs2 hb2 HS0 HB8
  have HS0 := HS1
  have HB8 := HB1
  clear HS1 HB1
  refine HK9.out _ _ HS0.out ?_
  clear HK9
  simp only [List.setIfInBounds_toArray, List.set_cons_zero, List.set_cons_succ]
  refine wpAnyH_take (i := 5) (oi := ⟨some 3, _, _, _, _, _⟩) (v := v2) rfl (by kernel_rfl) (by kernel_rfl) (by kernel_rfl) (fun _ _ _ h => h) (Or.inl ⟨by rfl, ?_⟩) HS0.out ?_
  · intro w hSw
    go_simp <;> with_reducible rfl
  dsimp only [Act.put]
  simp only [List.setIfInBounds_toArray, List.set_cons_zero, List.set_cons_succ]
  refine wpAnyH_done (by kernel_rfl) ?_ _
  go_wp2
  go_ret
  rw [← HG.out]
  exact ⟨_, rfl, HV2.out, HB8.out⟩
end Go.Proofs.YtnohfondkcbdnaaGreatDoor
/- tx.Bytes of a transaction that may be. -/
namespace Go.Proofs.YtnohfondkcbdnaaGreatDoor
open Go.RowKit Go.Lib
set_option linter.unusedVariables false
set_option linter.unusedSimpArgs false
attribute [local go_sem ↓] Go.wp_at_zero Go.wp_at_succ

theorem form_of {s : TxM} (h : checkF s = 0) : TxForm s := by
  classical
  by_cases hf : TxForm s
  · exact hf
  · rw [checkF_bad hf] at h; cases h
set_option maxRecDepth 100000 in
set_option maxHeartbeats 1600000 in
theorem txbytes_ok (s : TxM) (w : World) (hs : s.ok w) (h0 : checkF s = 0) :
    Calls Tryz.prog 75 #[.agg s.cells.toArray] w fun e w' => ∃ v', e = .returned (.tuple #[v', .int .i64 0]) ∧ Byts w' v' (packF s) ∧ Low w' v' ∧ Below w.heap.size w w' := by
  have HS := Lib.hid hs
  have H0 := Lib.hid h0
  clear hs h0
  go_enter Tryz.func75, Tryz.ntmps75
  go_upto_region 1 with fail
  have hm := Arr.made w 53 s.cells
  have hb := (Below.refl w.heap.size w).alloc (Nat.le_refl _) (.cells s.cells.toArray 53)
  have HA := Lib.hid hm
  have HB := Lib.hid hb
  have HS1 := Lib.hid (HS.out.below hb)
  have HSz := Lib.hid (show (Tryz.prog.info? 53).map (·.size) = some s.cells.length from size_tx)
  clear hm hb HS
  generalize World.alloc _ _ = w1 at *
  have HC := Lib.hid (check_any s w1 HS1.out)
  rw [H0.out] at HC
  go_step
  refine wpList_load_mid (P := Tryz.prog) rfl 53 _ rfl w.heap.size 0 rfl _ _ HA.out.range Tryz.underlying53 rfl HSz.out ?_
  go_wp2_with fail
  refine HC.out.mono ?_
  rintro e w2 ⟨rfl, hb⟩
  dsimp only
  have HB2 := Lib.hid (HB.out.trans (hb.mono HB.out.size))
  have HA2 := Lib.hid (HA.out.below hb HA.out.lt)
  have HP := Lib.hid (pack_any s w2 (HS1.out.below hb) (form_of H0.out))
  clear HC hb HB HA HS1
  go_upto_region 4 with fail
  go_step
  refine wpList_load_mid (P := Tryz.prog) rfl 53 _ rfl w.heap.size 0 rfl _ _ HA2.out.range Tryz.underlying53 rfl HSz.out ?_
  go_wp2_with fail
  refine HP.out.mono ?_
  rintro e w3 ⟨v3, rfl, hy, hlo, hb⟩
  dsimp only
  have HY := Lib.hid (And.intro hy hlo)
  have HB3 := Lib.hid (HB2.out.trans (hb.mono HB2.out.size))
  clear hy hlo hb HP HB2
  go_wp2
  refine bodyPost_ret (results_tmp2 rfl _ _ _) rfl ?_
  exact ⟨v3, rfl, HY.out.1, HY.out.2, HB3.out⟩
end Go.Proofs.YtnohfondkcbdnaaGreatDoor
/- script.parts$9: the transactions' texts. -/
namespace Go.Proofs.YtnohfondkcbdnaaGreatDoor
open Go.RowKit Go.Lib
set_option linter.unusedVariables false
set_option linter.unusedSimpArgs false
attribute [local go_sem ↓] Go.wp_at_zero Go.wp_at_succ

noncomputable def txB (x : TxM) : ByteArray := strL (hexF (packF x))
theorem check_form {x : TxM} (h : checkF x = 0) : TxForm x := by
  apply Classical.byContradiction
  intro hn
  unfold checkF at h
  rw [if_neg hn] at h
  cases h
theorem packF_len {w : World} {x : TxM} (hx : x.ok w) (hf : TxForm x) : (packF x).length ≤ 30000 := by
  have h1 := ins_len x.I (fun i hi => ⟨hx.I.1 i hi, good_len hf.2.2 i hi⟩)
  have h2 := outs_len x.O hx.O.1
  have h3 := hf.1.2
  have h4 := hf.2.1.2
  simp only [packF, List.length_append, le8t]
  have h5 : (le8 x.n).length = 8 := rfl
  omega
theorem txB_size {w : World} {x : TxM} (hx : x.ok w) (hf : TxForm x) : (txB x).size ≤ 60000 := by
  have h1 := packF_len hx hf
  show ((hexF (packF x)).map UInt8.ofNat).toArray.size ≤ 60000
  rw [List.size_toArray, List.length_map, hexF_len]
  omega
theorem txs_snoc (T : List TxM) (k : Nat) (z : TxM) (h : T[k]? = some z) : (T.take (k + 1)).map txB = (T.take k).map txB ++ [txB z] := by
  rw [List.take_add_one, h]; simp
set_option maxRecDepth 100000 in
set_option maxHeartbeats 3200000 in
theorem part9_any (a : ActM) (w : World) (ha : a.ok w) (hc : ∀ x ∈ a.T, checkF x = 0) (hl : a.T.length ≤ 100000) :
    Calls Tryz.prog 74 #[.agg a.cells.toArray] w (PartPost (a.T.map txB) w) := by
  obtain ⟨T, hT⟩ : ∃ T, a.T = T := ⟨_, rfl⟩
  obtain ⟨a1, c1, htv⟩ : ∃ x c, a.tv = .slice x T.length c := by rw [← hT]; exact ha.T.2.form
  have HTs := Lib.hid (show TxsIs w (.slice a1 T.length c1) T by rw [← htv, ← hT]; exact ha.T)
  have HV := Lib.hid htv
  have HCk := Lib.hid (show ∀ x ∈ T, checkF x = 0 by rw [← hT]; exact hc)
  have HL := Lib.hid (show T.length ≤ 100000 by rw [← hT]; exact hl)
  have hll : T.length ≤ 9223372036854775807 := HTs.out.2.len
  have HA := Lib.hid ha
  rw [hT]
  clear ha hc hl htv hT
  go_enter Tryz.func74, Tryz.ntmps74
  go_upto_region 1 with fail
  have hm := Arr.made w 30 a.cells
  have hb := (Below.refl w.heap.size w).alloc (Nat.le_refl _) (.cells a.cells.toArray 30)
  have hk5 : (w.alloc (.cells a.cells.toArray 30)).cell? ⟨w.heap.size, 36, none⟩ = some (.slice a1 T.length c1) := by
    rw [← HV.out]; exact ActAt.tv ⟨hm, HA.out.lock⟩
  have HB1 := Lib.hid hb
  have HTw := Lib.hid (HTs.out.below hb)
  clear hm hb HTs HA
  generalize World.alloc _ _ = w1 at *
  obtain ⟨B, hB⟩ : ∃ B, w1.heap.size = B := ⟨_, rfl⟩
  have HB := Lib.hid hB
  have HO0 := Lib.hid (show w1.ownsRow B 9 1 (.slice none 0 0) ([] : List ByteArray).length (strsC []) from own_nil _ _ _ _)
  clear hB
  go_upto_region 2 with fail
  clear hk5
  go_loopg [2, 10] T.length (fun g v2 v10 wq => ∃ k : Nat, Hid (g + k = T.length) ∧ v10 = .int .i64 (k : Int) ∧ Hid (wq.ownsRow B 9 1 v2 ((T.take k).map txB).length (strsC ((T.take k).map txB))) ∧ Hid (Below B w1 wq))
  case atStart => exact ⟨0, rfl, rfl, HO0.out, Below.refl _ _⟩
  case round =>
    obtain ⟨k, hk, rfl, ho, hb⟩ := hrel
    have HK := Lib.hid hk.out
    have HO := Lib.hid ho.out
    have HBq := Lib.hid hb.out
    clear hk ho hb HO0
    have HZq := Lib.hid (show B ≤ wr.heap.size by have := HBq.out.size; rw [HB.out] at this; exact this)
    have HBw := Lib.hid (show Below w1.heap.size w1 wr by rw [HB.out]; exact HBq.out)
    cases gk with
    | zero =>
      have hlt : ¬ ((k : Int) < ((T.length : Nat) : Int)) := by have := HK.out; omega
      have HS := Lib.hid (own_strs HO.out)
      rw [List.take_of_length_le (by have := HK.out; omega)] at HS
      clear HO
      go_wp2
      go_ret
      exact ⟨_, rfl, HS.out, HB1.out.trans (HBw.out.mono HB1.out.size)⟩
    | succ g =>
      have hkl : k < T.length := by have := HK.out; omega
      have hlt : ((k : Int) < ((T.length : Nat) : Int)) := by omega
      obtain ⟨x, hx⟩ : ∃ x, T[k]? = some x := ⟨_, List.getElem?_eq_getElem hkl⟩
      have hTq := HTw.out.below HBw.out
      have HX := Lib.hid (hTq.1 x (List.mem_of_getElem? hx))
      have HXc := Lib.hid (HCk.out x (List.mem_of_getElem? hx))
      obtain ⟨b1, off1, rfl, hl1, hr1⟩ := hTq.2.at hx
      have HR := Lib.hid hr1
      obtain ⟨X, hX⟩ : ∃ X, (T.take k).map txB = X := ⟨_, rfl⟩
      obtain ⟨Z, hZ⟩ : ∃ Z, X ++ [txB x] = Z := ⟨_, rfl⟩
      have HZs := Lib.hid (show (T.take (k + 1)).map txB = Z by rw [txs_snoc T k x hx, hX, hZ])
      have HXl := Lib.hid (show X.length ≤ 100000 by rw [← hX, List.length_map, List.length_take]; have := HL.out; omega)
      have HZ := Lib.hid hZ
      rw [hX] at HO
      have HSz := Lib.hid (show (Tryz.prog.info? 53).map (·.size) = some x.cells.length from size_tx)
      clear hTq hl1 hr1 hx hX hZ
      go_upto_region 3 with fail
      go_step
      iterate 3 (first | go_values | go_skip | go_guarded | go_step | go_upon)
      refine wpList_load_mid (P := Tryz.prog) rfl 53 _ rfl b1 (off1 + k * 3) rfl _ _ HR.out Tryz.underlying53 rfl HSz.out ?_
      iterate 3 (first | go_values | go_skip | go_guarded | go_step | go_upon)
      refine wpList_store_box (P := Tryz.prog) rfl 53 _ _ rfl wr _ x.cells rfl rfl rfl size_tx (tx_one HX.out) ?_
      intro w3 hn3 hb3
      have HN3 := Lib.hid hn3.out
      have HO3 := Lib.hid (own_below HO.out hb3.out)
      have HB3 := Lib.hid (HBq.out.trans (hb3.out.mono HZq.out))
      have HZ3 := Lib.hid (Nat.le_trans HZq.out hb3.out.size)
      have HX3 := Lib.hid (HX.out.below hb3.out)
      obtain ⟨g3, hg3⟩ : ∃ g, wr.heap.size = g := ⟨_, rfl⟩
      rw [hg3] at HN3 ⊢
      clear hn3 hb3 hg3 HO HBq HBw HR
      have HC := Lib.hid (txbytes_ok x w3 HX3.out HXc.out)
      go_upto_region 4 with fail
      go_step
      refine wpList_load_mid (P := Tryz.prog) rfl 53 _ rfl g3 0 rfl _ _ HN3.out.range Tryz.underlying53 rfl HSz.out ?_
      go_wp2_with fail
      with_reducible refine HC.out.mono ?_
      rintro e w4 ⟨v4, rfl, hy4, hlo4, hb4⟩
      dsimp only
      have HO4 := Lib.hid (own_below HO3.out hb4)
      have HB4 := Lib.hid (HB3.out.trans (hb4.mono HZ3.out))
      have HZ4 := Lib.hid (Nat.le_trans HZ3.out hb4.size)
      have HC5 := Lib.hid (whex_any v4 (packF x) w4 hy4 (by have := packF_len HX3.out (check_form HXc.out); omega))
      clear hy4 hlo4 hb4 HC HO3 HB3 HN3
      go_wp2_with fail
      with_reducible refine HC5.out.mono ?_
      rintro e w5 ⟨rfl, hb5⟩
      dsimp only
      have HO5 := Lib.hid (own_below HO4.out hb5)
      have HB5 := Lib.hid (HB4.out.trans (hb5.mono HZ4.out))
      have HZ5 := Lib.hid (Nat.le_trans HZ4.out hb5.size)
      clear hb5 HC5 HO4 HB4
      iterate 4 (first | go_values | go_skip | go_guarded | go_step | go_upon)
      have HY4 := Lib.hid (strs_one w5 (txB x))
      have hb4 := (Below.refl w5.heap.size w5).alloc (Nat.le_refl _) (.cells #[.string (txB x)] 9)
      have HO6 := Lib.hid (own_below HO5.out hb4)
      have HB6 := Lib.hid (HB5.out.trans (hb4.mono HZ5.out))
      have HZ6 := Lib.hid (Nat.le_trans HZ5.out hb4.size)
      clear hb4 HO5 HB5 HZ5
      unfold txB at HY4 HO6 HB6 HZ6
      generalize World.alloc _ _ = w6 at *
      refine appStr B rfl (.tmp 19) (.tmp 22) 65 9 rfl Tryz.underlying65 info_str _ _ X [txB x] Z HZ.out rfl rfl HO6.out HY4.out HZ6.out (by have := HXl.out; simp only [List.length_cons, List.length_nil]; omega) ?_
      intro v7 w7 ho7 hb7
      have HO7 := Lib.hid ho7.out
      have HB7 := Lib.hid (hb7.out B w1 HB6.out (Nat.le_refl _))
      clear ho7 hb7 HO6 HB6 HY4
      go_wp2
      go_roundg g
      case measure => omega
      case rel => exact ⟨k + 1, by show _ = _; have := HK.out; omega, by go_num, by show World.ownsRow _ _ _ _ _ _ _; rw [HZs.out]; exact HO7.out, HB7.out⟩
end Go.Proofs.YtnohfondkcbdnaaGreatDoor
