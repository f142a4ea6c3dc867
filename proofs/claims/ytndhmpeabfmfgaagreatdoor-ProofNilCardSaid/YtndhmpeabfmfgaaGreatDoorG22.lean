/- proof.Bytes, of a proof whose path has no hashes. -/
import Derived.Test.YtndhmpeabfmfgaaGreatDoorG15
import Derived.Test.YtndhmpeabfmfgaaGreatDoorG20
import Derived.Test.YtndhmpeabfmfgaaGreatDoorG21
namespace Go.Proofs.YtndhmpeabfmfgaaGreatDoor
open Go.RowKit Go.Lib
set_option linter.unusedVariables false
set_option linter.unusedSimpArgs false
attribute [local go_sem ↓] Go.wp_at_zero Go.wp_at_succ

theorem le8f (n : Nat) : ((le8 n).take 4).length = 4 := rfl
set_option maxRecDepth 100000 in
set_option maxHeartbeats 3200000 in
theorem pbytes_neg (h : Hdr) (hk : h.ok) (hP : h.P = []) (n : Int) (w : World) (hn : 0 ≤ n) :
    Calls Tryz.prog 5 #[.agg (pfC (.slice none 0 0) h n (-1) (.slice none 0 0)).toArray] w fun e w' => e = .returned (.tuple #[.slice none 0 0, .int .i64 2]) ∧ Below w.heap.size w w' := by
  have HOk := Lib.hid hk
  have HPl := Lib.hid (show h.P.length = 0 by rw [hP]; rfl)
  have HV := Lib.hid (show HsIs w (.slice none 0 0) h.P by rw [hP]; exact hs_nil rfl)
  have HFn := Lib.hid (hdrF_len h hk HV.out.1)
  have HFl := Lib.hid (hdrF_lt h hk HV.out.1)
  have hn0 : ¬ n < 0 := by omega
  clear hn
  clear hk hP
  go_enter Tryz.func5, Tryz.ntmps5
  go_upto_region 1 with fail
  have hm := Arr.made w 31 (pfC (.slice none 0 0) h n (-1) (.slice none 0 0))
  have hb := (Below.refl w.heap.size w).alloc (Nat.le_refl _) (.cells (pfC (.slice none 0 0) h n (-1) (.slice none 0 0)).toArray 31)
  have HS1 := Lib.hid (show PfAt _ w.heap.size (.slice none 0 0) h n (-1) (.slice none 0 0) from ⟨hm, HOk.out⟩)
  have HB1 := Lib.hid hb
  have HV1 := Lib.hid (HV.out.below hb)
  clear hm hb
  generalize World.alloc _ _ = w1 at *
  obtain ⟨g1, hg1⟩ : ∃ g, w.heap.size = g := ⟨_, rfl⟩
  have HGl := Lib.hid (show g1 < w1.heap.size by rw [← hg1]; exact HS1.out.1.lt)
  rw [hg1] at HS1 HB1 ⊢
  have HG := Lib.hid hg1
  clear hg1 HV
  go_step
  iterate 3 (first | go_values | go_skip | go_guarded | go_step | go_upon)
  refine wpList_load_mid (P := Tryz.prog) rfl 27 _ rfl g1 0 rfl _ _ HS1.out.hr Tryz.underlying27 rfl (size_hdr _ h HOk.out) ?_
  have HCh := Lib.hid (header_ok h HOk.out (by have := HPl.out; omega) (.slice none 0 0) w1 HV1.out)
  go_wp2_with fail
  with_reducible refine HCh.out.mono ?_
  rintro e w2 ⟨v2, rfl, hy2, hlo2, hb2⟩
  dsimp only
  have HY2 := Lib.hid (And.intro hy2 hlo2)
  have HS2 := Lib.hid (HS1.out.below hb2 HGl.out)
  have HB2 := Lib.hid (HB1.out.trans (hb2.mono (Nat.le_of_lt HGl.out)))
  have HGm := Lib.hid (Nat.lt_of_lt_of_le HGl.out hb2.size)
  clear hy2 hlo2 hb2 HCh HS1 HB1 HV1 HGl
  have hpn := HS2.out.pn
  have hpc := HS2.out.pc
  go_wp2
  refine bodyPost_ret (results_tmp2 rfl _ _ _) rfl ?_
  exact ⟨rfl, by rw [HG.out]; exact HB2.out⟩

set_option maxRecDepth 100000 in
set_option maxHeartbeats 6400000 in
theorem pbytes_good (h : Hdr) (hk : h.ok) (hP : h.P = []) (n c : Nat) (w : World) (hn : n ≤ 4294967295) (hc : c ≤ 4294967295) :
    Calls Tryz.prog 5 #[.agg (pfC (.slice none 0 0) h (n : Nat) (c : Nat) (.slice none 0 0)).toArray] w fun e w' => ∃ v', e = .returned (.tuple #[v', .int .i64 0]) ∧ Below w.heap.size w w' := by
  have HOk := Lib.hid hk
  have HPl := Lib.hid (show h.P.length = 0 by rw [hP]; rfl)
  have HV := Lib.hid (show HsIs w (.slice none 0 0) h.P by rw [hP]; exact hs_nil rfl)
  have HFn := Lib.hid (hdrF_len h hk HV.out.1)
  have HFl := Lib.hid (hdrF_lt h hk HV.out.1)
  have hn0 : ¬ ((n : Nat) : Int) < 0 := by omega
  have hc0 : ¬ ((c : Nat) : Int) < 0 := by omega
  have hnw : IntKind.u64.wrap ((n : Nat) : Int) = ((n : Nat) : Int) := by rw [IntKind.wrap_u64]; omega
  have hcw : IntKind.u64.wrap ((c : Nat) : Int) = ((c : Nat) : Int) := by rw [IntKind.wrap_u64]; omega
  have HN := Lib.hid (And.intro hn hc)
  clear hn hc
  clear hk hP
  go_enter Tryz.func5, Tryz.ntmps5
  go_upto_region 1 with fail
  have hm := Arr.made w 31 (pfC (.slice none 0 0) h ((n : Nat) : Int) ((c : Nat) : Int) (.slice none 0 0))
  have hb := (Below.refl w.heap.size w).alloc (Nat.le_refl _) (.cells (pfC (.slice none 0 0) h ((n : Nat) : Int) ((c : Nat) : Int) (.slice none 0 0)).toArray 31)
  have HS1 := Lib.hid (show PfAt _ w.heap.size (.slice none 0 0) h ((n : Nat) : Int) ((c : Nat) : Int) (.slice none 0 0) from ⟨hm, HOk.out⟩)
  have HB1 := Lib.hid hb
  have HV1 := Lib.hid (HV.out.below hb)
  clear hm hb
  generalize World.alloc _ _ = w1 at *
  obtain ⟨g1, hg1⟩ : ∃ g, w.heap.size = g := ⟨_, rfl⟩
  have HGl := Lib.hid (show g1 < w1.heap.size by rw [← hg1]; exact HS1.out.1.lt)
  rw [hg1] at HS1 HB1 ⊢
  have HG := Lib.hid hg1
  clear hg1 HV
  go_step
  iterate 3 (first | go_values | go_skip | go_guarded | go_step | go_upon)
  refine wpList_load_mid (P := Tryz.prog) rfl 27 _ rfl g1 0 rfl _ _ HS1.out.hr Tryz.underlying27 rfl (size_hdr _ h HOk.out) ?_
  have HCh := Lib.hid (header_ok h HOk.out (by have := HPl.out; omega) (.slice none 0 0) w1 HV1.out)
  go_wp2_with fail
  with_reducible refine HCh.out.mono ?_
  rintro e w2 ⟨v2, rfl, hy2, hlo2, hb2⟩
  dsimp only
  have HY2 := Lib.hid (And.intro hy2 hlo2)
  have HS2 := Lib.hid (HS1.out.below hb2 HGl.out)
  have HB2 := Lib.hid (HB1.out.trans (hb2.mono (Nat.le_of_lt HGl.out)))
  have HGm := Lib.hid (Nat.lt_of_lt_of_le HGl.out hb2.size)
  clear hy2 hlo2 hb2 HCh HS1 HB1 HV1 HGl
  have hpn := HS2.out.pn
  have hpc := HS2.out.pc
  obtain ⟨L1, hL1⟩ : ∃ L, [] ++ ((le8 (hdrF h).length).take 4 ++ hdrF h) = L := ⟨_, rfl⟩
  obtain ⟨L2, hL2⟩ : ∃ L, L1 ++ (le8 n).take 4 = L := ⟨_, rfl⟩
  obtain ⟨L3, hL3⟩ : ∃ L, L2 ++ (le8 c).take 4 = L := ⟨_, rfl⟩
  obtain ⟨L4, hL4⟩ : ∃ L, L3 ++ (le8 0).take 2 = L := ⟨_, rfl⟩
  have HLs := Lib.hid (show L1.length = 142 ∧ L2.length = 146 ∧ L3.length = 150 ∧ L4.length = 152 by
    rw [← hL4, ← hL3, ← hL2, ← hL1]
    simp only [List.length_append, List.length_nil, le8f, le8t, HFn.out, HPl.out]
    exact ⟨trivial, trivial, trivial, trivial⟩)
  have HLb := Lib.hid (show ∀ x ∈ L4, x < 256 by
    rw [← hL4, ← hL3, ← hL2, ← hL1]
    intro x hx
    simp only [List.mem_append, List.not_mem_nil, false_or] at hx
    rcases hx with (((hx | hx) | hx) | hx) | hx
    · exact le8_lt _ x (List.mem_of_mem_take hx)
    · exact HFl.out x hx
    · exact le8_lt _ x (List.mem_of_mem_take hx)
    · exact le8_lt _ x (List.mem_of_mem_take hx)
    · exact le8_lt _ x (List.mem_of_mem_take hx))
  have HL1 := Lib.hid hL1
  have HL2 := Lib.hid hL2
  have HL3 := Lib.hid hL3
  have HL4 := Lib.hid hL4
  clear hL1 hL2 hL3 hL4
  obtain ⟨a2, c2, rfl⟩ : ∃ a c, v2 = .slice a (hdrF h).length c := HY2.out.1.form
  go_upto_region 4 with fail
  have HS0 := Lib.hid (show PfAt w2.drew g1 (.slice none 0 0) h ((n : Nat) : Int) ((c : Nat) : Int) (.slice none 0 0) from HS2.out)
  have HBd := Lib.hid HB2.out.drew
  have HY4 := Lib.hid (show Byts w2.drew (.slice a2 (hdrF h).length c2) (hdrF h) ∧ Low w2.drew (.slice a2 (hdrF h).length c2) from HY2.out)
  have HGd := Lib.hid (show g1 < w2.drew.heap.size from HGm.out)
  clear HS2 HB2 HY2 HGm hpn hpc
  have HGm := HGd
  clear HGd
  refine wp_region_H (fun w' => PfAt w' g1 (.slice none 0 0) h ((n : Nat) : Int) ((c : Nat) : Int) (.slice none 0 0)) (by kernel_rfl) ?_
  generalize w2.drew = w4 at *
  simp only [List.size_toArray, List.length_cons, List.length_nil, Nat.reduceAdd, Array.replicate_succ, Array.replicate_zero, List.push_toArray, List.nil_append, List.cons_append]
  refine wpAnyH_take (i := 1) (oi := ⟨some 30, _, _, _, _, _⟩) (v := ?_) rfl (by kernel_rfl) (by kernel_rfl) (by kernel_rfl) (fun _ _ _ h => h) (Or.inl ⟨by rfl, ?_⟩) HS0.out ?_
  rotate_left
  · intro w hSw
    go_simp <;> with_reducible rfl
  dsimp only [Act.put]
  simp only [List.setIfInBounds_toArray, List.set_cons_zero, List.set_cons_succ]
  refine wpAnyH_take (i := 3) (oi := ⟨some 32, _, _, _, _, _⟩) (v := ?_) rfl (by kernel_rfl) (by kernel_rfl) (by kernel_rfl) (fun _ _ _ h => h) (Or.inl ⟨by rfl, ?_⟩) HS0.out ?_
  rotate_left
  · intro w hSw
    go_simp <;> with_reducible rfl
  dsimp only [Act.put]
  simp only [List.setIfInBounds_toArray, List.set_cons_zero, List.set_cons_succ]
  refine wpAnyH_take (i := 4) (oi := ⟨some 33, _, _, _, _, _⟩) (v := ?_) rfl (by kernel_rfl) (by kernel_rfl) (by kernel_rfl) (fun _ _ _ h => h) (Or.inl ⟨by rfl, ?_⟩) HS0.out ?_
  rotate_left
  · intro w hSw
    go_simp <;> with_reducible rfl
  dsimp only [Act.put]
  simp only [List.setIfInBounds_toArray, List.set_cons_zero, List.set_cons_succ]
  refine wpAnyH_take (i := 5) (oi := ⟨some 34, _, _, _, _, _⟩) (v := .int .i64 ((n : Nat) : Int)) rfl (by kernel_rfl) (by kernel_rfl) (by kernel_rfl) (fun _ _ _ h => h) (Or.inl ⟨by rfl, ?_⟩) HS0.out ?_
  · intro w hSw
    have hq := PfAt.pn hSw
    go_simp <;> with_reducible rfl
  dsimp only [Act.put]
  simp only [List.setIfInBounds_toArray, List.set_cons_zero, List.set_cons_succ]
  refine wpAnyH_take (i := 6) (oi := ⟨some 35, _, _, _, _, _⟩) (v := .int .u64 ((n : Nat) : Int)) rfl (by kernel_rfl) (by kernel_rfl) (by kernel_rfl) (fun _ _ _ h => h) (Or.inl ⟨by rfl, ?_⟩) HS0.out ?_
  · intro w hSw
    go_simp <;> with_reducible rfl
  dsimp only [Act.put]
  simp only [List.setIfInBounds_toArray, List.set_cons_zero, List.set_cons_succ]
  refine wpAnyH_take (i := 8) (oi := ⟨some 37, _, _, _, _, _⟩) (v := ?_) rfl (by kernel_rfl) (by kernel_rfl) (by kernel_rfl) (fun _ _ _ h => h) (Or.inl ⟨by rfl, ?_⟩) HS0.out ?_
  rotate_left
  · intro w hSw
    go_simp <;> with_reducible rfl
  dsimp only [Act.put]
  simp only [List.setIfInBounds_toArray, List.set_cons_zero, List.set_cons_succ]
  refine wpAnyH_take (i := 9) (oi := ⟨some 38, _, _, _, _, _⟩) (v := ?_) rfl (by kernel_rfl) (by kernel_rfl) (by kernel_rfl) (fun _ _ _ h => h) (Or.inl ⟨by rfl, ?_⟩) HS0.out ?_
  rotate_left
  · intro w hSw
    go_simp <;> with_reducible rfl
  dsimp only [Act.put]
  simp only [List.setIfInBounds_toArray, List.set_cons_zero, List.set_cons_succ]
  refine wpAnyH_take (i := 10) (oi := ⟨some 39, _, _, _, _, _⟩) (v := .int .i64 ((c : Nat) : Int)) rfl (by kernel_rfl) (by kernel_rfl) (by kernel_rfl) (fun _ _ _ h => h) (Or.inl ⟨by rfl, ?_⟩) HS0.out ?_
  · intro w hSw
    have hq := PfAt.pc hSw
    go_simp <;> with_reducible rfl
  dsimp only [Act.put]
  simp only [List.setIfInBounds_toArray, List.set_cons_zero, List.set_cons_succ]
  refine wpAnyH_take (i := 11) (oi := ⟨some 40, _, _, _, _, _⟩) (v := .int .u64 ((c : Nat) : Int)) rfl (by kernel_rfl) (by kernel_rfl) (by kernel_rfl) (fun _ _ _ h => h) (Or.inl ⟨by rfl, ?_⟩) HS0.out ?_
  · intro w hSw
    go_simp <;> with_reducible rfl
  dsimp only [Act.put]
  simp only [List.setIfInBounds_toArray, List.set_cons_zero, List.set_cons_succ]
  refine wpAnyH_take (i := 13) (oi := ⟨some 42, _, _, _, _, _⟩) (v := ?_) rfl (by kernel_rfl) (by kernel_rfl) (by kernel_rfl) (fun _ _ _ h => h) (Or.inl ⟨by rfl, ?_⟩) HS0.out ?_
  rotate_left
  · intro w hSw
    go_simp <;> with_reducible rfl
  dsimp only [Act.put]
  simp only [List.setIfInBounds_toArray, List.set_cons_zero, List.set_cons_succ]
  refine wpAnyH_take (i := 14) (oi := ⟨some 43, _, _, _, _, _⟩) (v := ?_) rfl (by kernel_rfl) (by kernel_rfl) (by kernel_rfl) (fun _ _ _ h => h) (Or.inl ⟨by rfl, ?_⟩) HS0.out ?_
  rotate_left
  · intro w hSw
    go_simp <;> with_reducible rfl
  dsimp only [Act.put]
  simp only [List.setIfInBounds_toArray, List.set_cons_zero, List.set_cons_succ]
  refine wpAnyH_take (i := 15) (oi := ⟨some 44, _, _, _, _, _⟩) (v := .slice none 0 0) rfl (by kernel_rfl) (by kernel_rfl) (by kernel_rfl) (fun _ _ _ h => h) (Or.inl ⟨by rfl, ?_⟩) HS0.out ?_
  · intro w hSw
    have hq := PfAt.ph hSw
    go_simp <;> with_reducible rfl
  dsimp only [Act.put]
  simp only [List.setIfInBounds_toArray, List.set_cons_zero, List.set_cons_succ]
  refine wpAnyH_take (i := 16) (oi := ⟨some 45, _, _, _, _, _⟩) (v := .int .i64 (0 : Nat)) rfl (by kernel_rfl) (by kernel_rfl) (by kernel_rfl) (fun _ _ _ h => h) (Or.inl ⟨by rfl, ?_⟩) HS0.out ?_
  · intro w hSw
    go_simp <;> with_reducible rfl
  dsimp only [Act.put]
  simp only [List.setIfInBounds_toArray, List.set_cons_zero, List.set_cons_succ]
  refine wpAnyH_one (i := 0) (oi := ⟨some 29, _, _, _, _, _⟩) (by kernel_rfl) rfl (by rfl) (fun K9 hK9 => ?_)
  have HK9 := Lib.hid hK9
  clear hK9
  go_simp
  have ha := Arr.made w4 70 [.slice none 0 0, .bool false]
  have hb := (Below.refl w4.heap.size w4).alloc (Nat.le_refl _) (.cells [Value.slice none 0 0, .bool false].toArray 70)
  have HW0 := Lib.hid (show WrM _ w4.heap.size [] false from ⟨_, ha, own_nil _ _ _ _⟩)
  have hS := HS0.out.below hb HGm.out
  have HB0 := Lib.hid (HBd.out.trans (hb.mono (Nat.le_of_lt HGm.out)))
  have HY0 := Lib.hid (HY4.out.1.below hb)
  have HGw := Lib.hid (show g1 ≤ w4.heap.size from Nat.le_of_lt HGm.out)
  have HGg := HGm
  have HYl := Lib.hid (show ∀ w', Below w4.heap.size (w4.alloc (.cells [Value.slice none 0 0, .bool false].toArray 70)) w' → Byts w' (.slice a2 (hdrF h).length c2) (hdrF h) from fun w' hb' => HY4.out.1.below (hb.trans hb'))
  have HNe := Lib.hid (show ∀ ad, a2 = some ad → ad.block ≠ w4.heap.size from fun ad e => Nat.ne_of_lt (HY4.out.2 ad (hdrF h).length c2 (by rw [e])))
  clear ha hb HS0
  have HS0 := Lib.hid hS
  clear hS
  refine HK9.out _ _ HS0.out ?_
  clear HK9
  simp only [List.setIfInBounds_toArray, List.set_cons_zero, List.set_cons_succ]
  generalize World.alloc _ _ = w5 at *
  obtain ⟨g2, hg2⟩ : ∃ g, w4.heap.size = g := ⟨_, rfl⟩
  rw [hg2] at HW0 HGw HGg HYl HNe ⊢
  clear hg2
  refine wpAnyH_one (i := 2) (oi := ⟨some 31, _, _, _, _, _⟩) (by kernel_rfl) rfl (by rfl) (fun K9 hK9 => ?_)
  have HK9 := Lib.hid hK9
  clear hK9
  go_simp
  refine (wblob_ok g2 [] (hdrF h) L1 HL1.out a2 c2 _ HW0.out HNe.out HYl.out (by have := HFn.out; have := HPl.out; omega) (by simp)).mono ?_
  rintro e w1 ⟨rfl, hw1, hb1⟩
  dsimp only
  have hS := HS0.out.below hb1 HGg.out
  have HW1 := Lib.hid hw1
  have HB1 := Lib.hid (HB0.out.trans (hb1.mono HGw.out))
  clear HS0 HW0 HB0 hw1 hb1
  have HS0 := Lib.hid hS
  clear hS
  refine HK9.out _ _ HS0.out ?_
  clear HK9
  simp only [List.setIfInBounds_toArray, List.set_cons_zero, List.set_cons_succ]
  refine wpAnyH_one (i := 7) (oi := ⟨some 36, _, _, _, _, _⟩) (by kernel_rfl) rfl (by rfl) (fun K9 hK9 => ?_)
  have HK9 := Lib.hid hK9
  clear hK9
  go_simp
  refine (wnum4_ok g2 n L1 L2 HL2.out _ HW1.out HN.out.1 (by have := HLs.out; omega)).mono ?_
  rintro e w2 ⟨rfl, hw2, hb2⟩
  dsimp only
  have hS := HS0.out.below hb2 HGg.out
  have HW2 := Lib.hid hw2
  have HB2 := Lib.hid (HB1.out.trans (hb2.mono HGw.out))
  clear HS0 HW1 HB1 hw2 hb2
  have HS0 := Lib.hid hS
  clear hS
  refine HK9.out _ _ HS0.out ?_
  clear HK9
  simp only [List.setIfInBounds_toArray, List.set_cons_zero, List.set_cons_succ]
  refine wpAnyH_one (i := 12) (oi := ⟨some 41, _, _, _, _, _⟩) (by kernel_rfl) rfl (by rfl) (fun K9 hK9 => ?_)
  have HK9 := Lib.hid hK9
  clear hK9
  go_simp
  refine (wnum4_ok g2 c L2 L3 HL3.out _ HW2.out HN.out.2 (by have := HLs.out; omega)).mono ?_
  rintro e w3 ⟨rfl, hw3, hb3⟩
  dsimp only
  have hS := HS0.out.below hb3 HGg.out
  have HW3 := Lib.hid hw3
  have HB3 := Lib.hid (HB2.out.trans (hb3.mono HGw.out))
  clear HS0 HW2 HB2 hw3 hb3
  have HS0 := Lib.hid hS
  clear hS
  refine HK9.out _ _ HS0.out ?_
  clear HK9
  simp only [List.setIfInBounds_toArray, List.set_cons_zero, List.set_cons_succ]
  refine wpAnyH_one (i := 17) (oi := ⟨some 46, _, _, _, _, _⟩) (by kernel_rfl) rfl (by rfl) (fun K9 hK9 => ?_)
  have HK9 := Lib.hid hK9
  clear hK9
  go_simp
  refine (wcount_ok g2 0 L3 L4 HL4.out _ HW3.out (by omega) (by have := HLs.out; omega)).mono ?_
  rintro e w4 ⟨rfl, hw4, hb4⟩
  dsimp only
  have hS := HS0.out.below hb4 HGg.out
  have HW4 := Lib.hid hw4
  have HB4 := Lib.hid (HB3.out.trans (hb4.mono HGw.out))
  clear HS0 HW3 HB3 hw4 hb4
  have HS0 := Lib.hid hS
  clear hS
  refine HK9.out _ _ HS0.out ?_
  clear HK9
  simp only [List.setIfInBounds_toArray, List.set_cons_zero, List.set_cons_succ]
  refine wpAnyH_take (i := 18) (oi := ⟨some 6, _, _, _, _, _⟩) (v := ?_) rfl (by kernel_rfl) (by kernel_rfl) (by kernel_rfl) (fun _ _ _ h => h) (Or.inl ⟨by rfl, ?_⟩) HS0.out ?_
  rotate_left
  · intro w hSw
    go_simp <;> with_reducible rfl
  dsimp only [Act.put]
  simp only [List.setIfInBounds_toArray, List.set_cons_zero, List.set_cons_succ]
  refine wpAnyH_done (by kernel_rfl) ?_ _
  have hph := HS0.out.ph
  go_wp2
  clear hph
  have HB9 := Lib.hid (HB4.out)
  go_loopg [51] 1 (fun g v51 wq => v51 = .int .i64 0 ∧ Hid (WrM wq g2 L4 false) ∧ Hid (Below g1 w wq))
  case atStart => exact ⟨rfl, HW4.out, HB9.out⟩
  case round =>
    obtain ⟨rfl, hwq, hbq⟩ := hrel
    have HWq := Lib.hid hwq.out
    have HBq := Lib.hid hbq.out
    clear hwq hbq HW4 HB4 HB9 HS0
    go_wp2_with fail
    refine (end_ok g2 L4 _ HWq.out (fun e => by have := HLs.out; rw [e] at this; simp at this) HLb.out (by have := HLs.out; omega)).mono ?_
    rintro e w9 ⟨v9, rfl, hy9, hlo9, hb9⟩
    dsimp only
    have HB9 := Lib.hid (HBq.out.trans (hb9.mono (Nat.le_trans HGw.out (Nat.le_of_lt HWq.out.lt))))
    clear hy9 hlo9 hb9 HBq HWq
    go_wp2
    refine bodyPost_ret (results_tmp2 rfl _ _ _) rfl ?_
    exact ⟨v9, rfl, by rw [HG.out]; exact HB9.out⟩

set_option maxRecDepth 100000 in
set_option maxHeartbeats 6400000 in
theorem pbytes_big (h : Hdr) (hk : h.ok) (hP : h.P = []) (w : World) :
    Calls Tryz.prog 5 #[.agg (pfC (.slice none 0 0) h 4294967296 0 (.slice none 0 0)).toArray] w fun e w' => e = .returned (.tuple #[.slice none 0 0, .int .i64 2]) ∧ Below w.heap.size w w' := by
  have HOk := Lib.hid hk
  have HPl := Lib.hid (show h.P.length = 0 by rw [hP]; rfl)
  have HV := Lib.hid (show HsIs w (.slice none 0 0) h.P by rw [hP]; exact hs_nil rfl)
  have HFn := Lib.hid (hdrF_len h hk HV.out.1)
  have HFl := Lib.hid (hdrF_lt h hk HV.out.1)
  have hnw : IntKind.u64.wrap 4294967296 = 4294967296 := by decide
  have hcw : IntKind.u64.wrap 0 = 0 := by decide
  clear hk hP
  go_enter Tryz.func5, Tryz.ntmps5
  go_upto_region 1 with fail
  have hm := Arr.made w 31 (pfC (.slice none 0 0) h 4294967296 0 (.slice none 0 0))
  have hb := (Below.refl w.heap.size w).alloc (Nat.le_refl _) (.cells (pfC (.slice none 0 0) h 4294967296 0 (.slice none 0 0)).toArray 31)
  have HS1 := Lib.hid (show PfAt _ w.heap.size (.slice none 0 0) h 4294967296 0 (.slice none 0 0) from ⟨hm, HOk.out⟩)
  have HB1 := Lib.hid hb
  have HV1 := Lib.hid (HV.out.below hb)
  clear hm hb
  generalize World.alloc _ _ = w1 at *
  obtain ⟨g1, hg1⟩ : ∃ g, w.heap.size = g := ⟨_, rfl⟩
  have HGl := Lib.hid (show g1 < w1.heap.size by rw [← hg1]; exact HS1.out.1.lt)
  rw [hg1] at HS1 HB1 ⊢
  have HG := Lib.hid hg1
  clear hg1 HV
  go_step
  iterate 3 (first | go_values | go_skip | go_guarded | go_step | go_upon)
  refine wpList_load_mid (P := Tryz.prog) rfl 27 _ rfl g1 0 rfl _ _ HS1.out.hr Tryz.underlying27 rfl (size_hdr _ h HOk.out) ?_
  have HCh := Lib.hid (header_ok h HOk.out (by have := HPl.out; omega) (.slice none 0 0) w1 HV1.out)
  go_wp2_with fail
  with_reducible refine HCh.out.mono ?_
  rintro e w2 ⟨v2, rfl, hy2, hlo2, hb2⟩
  dsimp only
  have HY2 := Lib.hid (And.intro hy2 hlo2)
  have HS2 := Lib.hid (HS1.out.below hb2 HGl.out)
  have HB2 := Lib.hid (HB1.out.trans (hb2.mono (Nat.le_of_lt HGl.out)))
  have HGm := Lib.hid (Nat.lt_of_lt_of_le HGl.out hb2.size)
  clear hy2 hlo2 hb2 HCh HS1 HB1 HV1 HGl
  have hpn := HS2.out.pn
  have hpc := HS2.out.pc
  obtain ⟨L1, hL1⟩ : ∃ L, [] ++ ((le8 (hdrF h).length).take 4 ++ hdrF h) = L := ⟨_, rfl⟩
  have HL1 := Lib.hid hL1
  clear hL1
  obtain ⟨a2, c2, rfl⟩ : ∃ a c, v2 = .slice a (hdrF h).length c := HY2.out.1.form
  go_upto_region 4 with fail
  have HS0 := Lib.hid (show PfAt w2.drew g1 (.slice none 0 0) h 4294967296 0 (.slice none 0 0) from HS2.out)
  have HBd := Lib.hid HB2.out.drew
  have HY4 := Lib.hid (show Byts w2.drew (.slice a2 (hdrF h).length c2) (hdrF h) ∧ Low w2.drew (.slice a2 (hdrF h).length c2) from HY2.out)
  have HGd := Lib.hid (show g1 < w2.drew.heap.size from HGm.out)
  clear HS2 HB2 HY2 HGm hpn hpc
  have HGm := HGd
  clear HGd
  refine wp_region_H (fun w' => PfAt w' g1 (.slice none 0 0) h 4294967296 0 (.slice none 0 0)) (by kernel_rfl) ?_
  generalize w2.drew = w4 at *
  simp only [List.size_toArray, List.length_cons, List.length_nil, Nat.reduceAdd, Array.replicate_succ, Array.replicate_zero, List.push_toArray, List.nil_append, List.cons_append]
  refine wpAnyH_take (i := 1) (oi := ⟨some 30, _, _, _, _, _⟩) (v := ?_) rfl (by kernel_rfl) (by kernel_rfl) (by kernel_rfl) (fun _ _ _ h => h) (Or.inl ⟨by rfl, ?_⟩) HS0.out ?_
  rotate_left
  · intro w hSw
    go_simp <;> with_reducible rfl
  dsimp only [Act.put]
  simp only [List.setIfInBounds_toArray, List.set_cons_zero, List.set_cons_succ]
  refine wpAnyH_take (i := 3) (oi := ⟨some 32, _, _, _, _, _⟩) (v := ?_) rfl (by kernel_rfl) (by kernel_rfl) (by kernel_rfl) (fun _ _ _ h => h) (Or.inl ⟨by rfl, ?_⟩) HS0.out ?_
  rotate_left
  · intro w hSw
    go_simp <;> with_reducible rfl
  dsimp only [Act.put]
  simp only [List.setIfInBounds_toArray, List.set_cons_zero, List.set_cons_succ]
  refine wpAnyH_take (i := 4) (oi := ⟨some 33, _, _, _, _, _⟩) (v := ?_) rfl (by kernel_rfl) (by kernel_rfl) (by kernel_rfl) (fun _ _ _ h => h) (Or.inl ⟨by rfl, ?_⟩) HS0.out ?_
  rotate_left
  · intro w hSw
    go_simp <;> with_reducible rfl
  dsimp only [Act.put]
  simp only [List.setIfInBounds_toArray, List.set_cons_zero, List.set_cons_succ]
  refine wpAnyH_take (i := 5) (oi := ⟨some 34, _, _, _, _, _⟩) (v := .int .i64 4294967296) rfl (by kernel_rfl) (by kernel_rfl) (by kernel_rfl) (fun _ _ _ h => h) (Or.inl ⟨by rfl, ?_⟩) HS0.out ?_
  · intro w hSw
    have hq := PfAt.pn hSw
    go_simp <;> with_reducible rfl
  dsimp only [Act.put]
  simp only [List.setIfInBounds_toArray, List.set_cons_zero, List.set_cons_succ]
  refine wpAnyH_take (i := 6) (oi := ⟨some 35, _, _, _, _, _⟩) (v := .int .u64 4294967296) rfl (by kernel_rfl) (by kernel_rfl) (by kernel_rfl) (fun _ _ _ h => h) (Or.inl ⟨by rfl, ?_⟩) HS0.out ?_
  · intro w hSw
    go_simp <;> with_reducible rfl
  dsimp only [Act.put]
  simp only [List.setIfInBounds_toArray, List.set_cons_zero, List.set_cons_succ]
  refine wpAnyH_take (i := 8) (oi := ⟨some 37, _, _, _, _, _⟩) (v := ?_) rfl (by kernel_rfl) (by kernel_rfl) (by kernel_rfl) (fun _ _ _ h => h) (Or.inl ⟨by rfl, ?_⟩) HS0.out ?_
  rotate_left
  · intro w hSw
    go_simp <;> with_reducible rfl
  dsimp only [Act.put]
  simp only [List.setIfInBounds_toArray, List.set_cons_zero, List.set_cons_succ]
  refine wpAnyH_take (i := 9) (oi := ⟨some 38, _, _, _, _, _⟩) (v := ?_) rfl (by kernel_rfl) (by kernel_rfl) (by kernel_rfl) (fun _ _ _ h => h) (Or.inl ⟨by rfl, ?_⟩) HS0.out ?_
  rotate_left
  · intro w hSw
    go_simp <;> with_reducible rfl
  dsimp only [Act.put]
  simp only [List.setIfInBounds_toArray, List.set_cons_zero, List.set_cons_succ]
  refine wpAnyH_take (i := 10) (oi := ⟨some 39, _, _, _, _, _⟩) (v := .int .i64 0) rfl (by kernel_rfl) (by kernel_rfl) (by kernel_rfl) (fun _ _ _ h => h) (Or.inl ⟨by rfl, ?_⟩) HS0.out ?_
  · intro w hSw
    have hq := PfAt.pc hSw
    go_simp <;> with_reducible rfl
  dsimp only [Act.put]
  simp only [List.setIfInBounds_toArray, List.set_cons_zero, List.set_cons_succ]
  refine wpAnyH_take (i := 11) (oi := ⟨some 40, _, _, _, _, _⟩) (v := .int .u64 0) rfl (by kernel_rfl) (by kernel_rfl) (by kernel_rfl) (fun _ _ _ h => h) (Or.inl ⟨by rfl, ?_⟩) HS0.out ?_
  · intro w hSw
    go_simp <;> with_reducible rfl
  dsimp only [Act.put]
  simp only [List.setIfInBounds_toArray, List.set_cons_zero, List.set_cons_succ]
  refine wpAnyH_take (i := 13) (oi := ⟨some 42, _, _, _, _, _⟩) (v := ?_) rfl (by kernel_rfl) (by kernel_rfl) (by kernel_rfl) (fun _ _ _ h => h) (Or.inl ⟨by rfl, ?_⟩) HS0.out ?_
  rotate_left
  · intro w hSw
    go_simp <;> with_reducible rfl
  dsimp only [Act.put]
  simp only [List.setIfInBounds_toArray, List.set_cons_zero, List.set_cons_succ]
  refine wpAnyH_take (i := 14) (oi := ⟨some 43, _, _, _, _, _⟩) (v := ?_) rfl (by kernel_rfl) (by kernel_rfl) (by kernel_rfl) (fun _ _ _ h => h) (Or.inl ⟨by rfl, ?_⟩) HS0.out ?_
  rotate_left
  · intro w hSw
    go_simp <;> with_reducible rfl
  dsimp only [Act.put]
  simp only [List.setIfInBounds_toArray, List.set_cons_zero, List.set_cons_succ]
  refine wpAnyH_take (i := 15) (oi := ⟨some 44, _, _, _, _, _⟩) (v := .slice none 0 0) rfl (by kernel_rfl) (by kernel_rfl) (by kernel_rfl) (fun _ _ _ h => h) (Or.inl ⟨by rfl, ?_⟩) HS0.out ?_
  · intro w hSw
    have hq := PfAt.ph hSw
    go_simp <;> with_reducible rfl
  dsimp only [Act.put]
  simp only [List.setIfInBounds_toArray, List.set_cons_zero, List.set_cons_succ]
  refine wpAnyH_take (i := 16) (oi := ⟨some 45, _, _, _, _, _⟩) (v := .int .i64 (0 : Nat)) rfl (by kernel_rfl) (by kernel_rfl) (by kernel_rfl) (fun _ _ _ h => h) (Or.inl ⟨by rfl, ?_⟩) HS0.out ?_
  · intro w hSw
    go_simp <;> with_reducible rfl
  dsimp only [Act.put]
  simp only [List.setIfInBounds_toArray, List.set_cons_zero, List.set_cons_succ]
  refine wpAnyH_one (i := 0) (oi := ⟨some 29, _, _, _, _, _⟩) (by kernel_rfl) rfl (by rfl) (fun K9 hK9 => ?_)
  have HK9 := Lib.hid hK9
  clear hK9
  go_simp
  have ha := Arr.made w4 70 [.slice none 0 0, .bool false]
  have hb := (Below.refl w4.heap.size w4).alloc (Nat.le_refl _) (.cells [Value.slice none 0 0, .bool false].toArray 70)
  have HW0 := Lib.hid (show WrM _ w4.heap.size [] false from ⟨_, ha, own_nil _ _ _ _⟩)
  have hS := HS0.out.below hb HGm.out
  have HB0 := Lib.hid (HBd.out.trans (hb.mono (Nat.le_of_lt HGm.out)))
  have HY0 := Lib.hid (HY4.out.1.below hb)
  have HGw := Lib.hid (show g1 ≤ w4.heap.size from Nat.le_of_lt HGm.out)
  have HGg := HGm
  have HYl := Lib.hid (show ∀ w', Below w4.heap.size (w4.alloc (.cells [Value.slice none 0 0, .bool false].toArray 70)) w' → Byts w' (.slice a2 (hdrF h).length c2) (hdrF h) from fun w' hb' => HY4.out.1.below (hb.trans hb'))
  have HNe := Lib.hid (show ∀ ad, a2 = some ad → ad.block ≠ w4.heap.size from fun ad e => Nat.ne_of_lt (HY4.out.2 ad (hdrF h).length c2 (by rw [e])))
  clear ha hb HS0
  have HS0 := Lib.hid hS
  clear hS
  refine HK9.out _ _ HS0.out ?_
  clear HK9
  simp only [List.setIfInBounds_toArray, List.set_cons_zero, List.set_cons_succ]
  generalize World.alloc _ _ = w5 at *
  obtain ⟨g2, hg2⟩ : ∃ g, w4.heap.size = g := ⟨_, rfl⟩
  rw [hg2] at HW0 HGw HGg HYl HNe ⊢
  clear hg2
  refine wpAnyH_one (i := 2) (oi := ⟨some 31, _, _, _, _, _⟩) (by kernel_rfl) rfl (by rfl) (fun K9 hK9 => ?_)
  have HK9 := Lib.hid hK9
  clear hK9
  go_simp
  refine (wblob_ok g2 [] (hdrF h) L1 HL1.out a2 c2 _ HW0.out HNe.out HYl.out (by have := HFn.out; have := HPl.out; omega) (by simp)).mono ?_
  rintro e w1 ⟨rfl, hw1, hb1⟩
  dsimp only
  have hS := HS0.out.below hb1 HGg.out
  have HW1 := Lib.hid hw1
  have HB1 := Lib.hid (HB0.out.trans (hb1.mono HGw.out))
  clear HS0 HW0 HB0 hw1 hb1
  have HS0 := Lib.hid hS
  clear hS
  refine HK9.out _ _ HS0.out ?_
  clear HK9
  simp only [List.setIfInBounds_toArray, List.set_cons_zero, List.set_cons_succ]
  refine wpAnyH_one (i := 7) (oi := ⟨some 36, _, _, _, _, _⟩) (by kernel_rfl) rfl (by rfl) (fun K9 hK9 => ?_)
  have HK9 := Lib.hid hK9
  clear hK9
  go_simp
  refine (wnum4_big g2 L1 _ HW1.out).mono ?_
  rintro e w2 ⟨rfl, hw2, hb2⟩
  dsimp only
  have hS := HS0.out.below hb2 HGg.out
  have HW2 := Lib.hid hw2
  have HB2 := Lib.hid (HB1.out.trans (hb2.mono HGw.out))
  clear HS0 HW1 HB1 hw2 hb2
  have HS0 := Lib.hid hS
  clear hS
  refine HK9.out _ _ HS0.out ?_
  clear HK9
  simp only [List.setIfInBounds_toArray, List.set_cons_zero, List.set_cons_succ]
  refine wpAnyH_one (i := 12) (oi := ⟨some 41, _, _, _, _, _⟩) (by kernel_rfl) rfl (by rfl) (fun K9 hK9 => ?_)
  have HK9 := Lib.hid hK9
  clear hK9
  go_simp
  refine (wnum4_on g2 0 L1 _ HW2.out (by omega)).mono ?_
  rintro e w3 ⟨rfl, hw3, hb3⟩
  dsimp only
  have hS := HS0.out.below hb3 HGg.out
  have HW3 := Lib.hid hw3
  have HB3 := Lib.hid (HB2.out.trans (hb3.mono HGw.out))
  clear HS0 HW2 HB2 hw3 hb3
  have HS0 := Lib.hid hS
  clear hS
  refine HK9.out _ _ HS0.out ?_
  clear HK9
  simp only [List.setIfInBounds_toArray, List.set_cons_zero, List.set_cons_succ]
  refine wpAnyH_one (i := 17) (oi := ⟨some 46, _, _, _, _, _⟩) (by kernel_rfl) rfl (by rfl) (fun K9 hK9 => ?_)
  have HK9 := Lib.hid hK9
  clear hK9
  go_simp
  refine (wcount_on g2 0 L1 _ HW3.out (by omega)).mono ?_
  rintro e w4 ⟨rfl, hw4, hb4⟩
  dsimp only
  have hS := HS0.out.below hb4 HGg.out
  have HW4 := Lib.hid hw4
  have HB4 := Lib.hid (HB3.out.trans (hb4.mono HGw.out))
  clear HS0 HW3 HB3 hw4 hb4
  have HS0 := Lib.hid hS
  clear hS
  refine HK9.out _ _ HS0.out ?_
  clear HK9
  simp only [List.setIfInBounds_toArray, List.set_cons_zero, List.set_cons_succ]
  refine wpAnyH_take (i := 18) (oi := ⟨some 6, _, _, _, _, _⟩) (v := ?_) rfl (by kernel_rfl) (by kernel_rfl) (by kernel_rfl) (fun _ _ _ h => h) (Or.inl ⟨by rfl, ?_⟩) HS0.out ?_
  rotate_left
  · intro w hSw
    go_simp <;> with_reducible rfl
  dsimp only [Act.put]
  simp only [List.setIfInBounds_toArray, List.set_cons_zero, List.set_cons_succ]
  refine wpAnyH_done (by kernel_rfl) ?_ _
  have hph := HS0.out.ph
  go_wp2
  clear hph
  have HB9 := Lib.hid (HB4.out)
  go_loopg [51] 1 (fun g v51 wq => v51 = .int .i64 0 ∧ Hid (WrM wq g2 L1 true) ∧ Hid (Below g1 w wq))
  case atStart => exact ⟨rfl, HW4.out, HB9.out⟩
  case round =>
    obtain ⟨rfl, hwq, hbq⟩ := hrel
    have HWq := Lib.hid hwq.out
    have HBq := Lib.hid hbq.out
    clear hwq hbq HW4 HB4 HB9 HS0
    go_wp2_with fail
    refine (end_bad g2 L1 _ HWq.out).mono ?_
    rintro e w9 ⟨rfl, rfl⟩
    dsimp only
    go_wp2
    refine bodyPost_ret (results_tmp2 rfl _ _ _) rfl ?_
    exact ⟨rfl, by rw [HG.out]; exact HBq.out⟩
end Go.Proofs.YtndhmpeabfmfgaaGreatDoor
/- The law ProofNil. -/
namespace Go.Proofs.YtndhmpeabfmfgaaGreatDoor
open Go.RowKit Go.Lib
set_option linter.unusedVariables false
set_option linter.unusedSimpArgs false
attribute [local go_sem ↓] Go.wp_at_zero Go.wp_at_succ

/-- The zero ledger's cells. -/
noncomputable def zl : List Value := Tryz.zeroCells43.toList
theorem zl_41 : zl[41]? = some (.pointer none) := by kernel_rfl
theorem build_zl (w : World) : (Instr.build 43 #[]).run Tryz.prog w = .ok (.agg zl.toArray) w := by kernel_rfl
theorem build_p1 (w : World) : (Instr.build 29 #[(0, .int .i64 4294967296)]).run Tryz.prog w = .ok (.agg (paC 4294967296 0 (.slice none 0 0)).toArray) w := by kernel_rfl
theorem build_p2 (w : World) : (Instr.build 29 #[(1, .int .i64 (-1))]).run Tryz.prog w = .ok (.agg (paC 0 (-1) (.slice none 0 0)).toArray) w := by kernel_rfl
theorem build_p3 (w : World) : (Instr.build 29 #[(0, .int .i64 4294967295), (1, .int .i64 4294967295)]).run Tryz.prog w = .ok (.agg (paC 4294967295 4294967295 (.slice none 0 0)).toArray) w := by kernel_rfl
theorem build_q (n c : Int) (w : World) : (Instr.build 31 #[(1, .agg (paC n c (.slice none 0 0)).toArray)]).run Tryz.prog w = .ok (.agg (pfC (.slice none 0 0) hz0 n c (.slice none 0 0)).toArray) w := by kernel_rfl
set_option maxRecDepth 100000 in
set_option maxHeartbeats 3200000 in
theorem nil_walk (w : World) : Calls Tryz.prog 3 #[] w fun e w' => e = .returned (.bool true) ∧ Below w.heap.size w w' := by
  have hb1 := build_zh
  have hb2 := build_zl
  have hp1 := build_p1
  have hp2 := build_p2
  have hp3 := build_p3
  have hq := build_q
  obtain ⟨g, hg⟩ : ∃ g, w.heap.size = g := ⟨_, rfl⟩
  rw [hg]
  have HG := Lib.hid hg
  go_enter Tryz.func3, Tryz.ntmps3
  have HC := Lib.hid (make_no none w (.inl rfl))
  clear hg
  go_wp2_with fail
  refine HC.out.mono ?_
  rintro e w1 ⟨rfl, hb⟩
  dsimp only
  have HZ1 := Lib.hid (show g ≤ w1.heap.size by rw [← HG.out]; exact hb.size)
  have HB1 := Lib.hid (show Below g w w1 by rw [← HG.out]; exact hb)
  clear HC hb
  iterate 19 (first | go_values | go_skip | go_guarded | go_step | go_upon)
  generalize hW : World.alloc (World.alloc _ _) _ = w1a
  have hpk := two w1 (.cells zh.toArray 23) (.cells zp.toArray 31)
  rw [show (w1.alloc (.cells zh.toArray 23)).alloc (.cells zp.toArray 31) = w1a by rw [← hW]; kernel_rfl] at hpk
  have HA1 := Lib.hid (show Arr w1a w1.heap.size 23 zh from hpk.1)
  have HA2 := Lib.hid (show Arr w1a (w1.heap.size + 1) 31 zp from hpk.2.1)
  have HB2 := Lib.hid (HB1.out.trans (hpk.2.2.2.mono HZ1.out))
  clear hpk hW HB1
  refine wpList_store_mid (P := Tryz.prog) rfl 23 _ _ rfl w1.heap.size 0 zh.toArray rfl rfl (HA1.out.there _ (by rw [List.size_toArray])) (by rw [List.size_toArray]; exact size_zh) (all_oneCell_toArray (bys_one zeroH)) ?_
  have HB3 := Lib.hid (below_sets w1.heap.size HZ1.out zh.toArray.toList 0 HB2.out)
  have HR2 := Lib.hid (HA2.out.setCells_ne (b := w1.heap.size) (by omega) zh.toArray.toList 0)
  generalize World.setCells _ _ _ _ = w1b at *
  clear HA1 HA2 HB2
  refine wpList_store_mid (P := Tryz.prog) rfl 31 _ _ rfl (w1.heap.size + 1) 0 zp.toArray rfl rfl (HR2.out.there _ (by rw [List.size_toArray])) (by rw [List.size_toArray]; exact size_zp) (all_oneCell_toArray zp_one) ?_
  have HB4 := Lib.hid (below_sets (w1.heap.size + 1) (Nat.le_succ_of_le HZ1.out) zp.toArray.toList 0 HB3.out)
  generalize World.setCells _ _ _ _ = w4 at *
  clear HR2 HB3 HZ1
  go_upto_region 2 with fail
  go_step
  iterate 6 (first | go_values | go_skip | go_guarded | go_step | go_upon)
  have hma := Arr.made w4 43 zl
  rw [show zl.toArray = Tryz.zeroCells43 from Array.toArray_toList] at hma
  have HN := Lib.hid (show NoLed _ (some ⟨w4.heap.size, 0, none⟩) from .inr ⟨w4.heap.size, rfl, (hma.cell 41).trans zl_41, hma.lt⟩)
  have HZ4 := Lib.hid (show g ≤ w4.heap.size by have := HB4.out.size; rw [HG.out] at this; exact this)
  have HB1 := Lib.hid (HB4.out.alloc HZ4.out (.cells Tryz.zeroCells43 43))
  clear hma HB4
  generalize World.alloc _ _ = w5 at *
  go_wp2_with fail
  refine (make_no (some ⟨w4.heap.size, 0, none⟩) w5 HN.out).mono ?_
  rintro e w6 ⟨rfl, hb⟩
  dsimp only
  have HZ5 := Lib.hid (show g ≤ w5.heap.size by have := HB1.out.size; rw [HG.out] at this; exact this)
  have HB6 := Lib.hid (HB1.out.trans (hb.mono HZ5.out))
  have HZ1 := Lib.hid (Nat.le_trans HZ5.out hb.size)
  clear hb HB1 HN HZ4 HZ5
  have HB1 := HB6
  clear HB6
  iterate 19 (first | go_values | go_skip | go_guarded | go_step | go_upon)
  generalize hW : World.alloc (World.alloc _ _) _ = w6a
  have hpk := two w6 (.cells zh.toArray 23) (.cells zp.toArray 31)
  rw [show (w6.alloc (.cells zh.toArray 23)).alloc (.cells zp.toArray 31) = w6a by rw [← hW]; kernel_rfl] at hpk
  have HA1 := Lib.hid (show Arr w6a w6.heap.size 23 zh from hpk.1)
  have HA2 := Lib.hid (show Arr w6a (w6.heap.size + 1) 31 zp from hpk.2.1)
  have HB2 := Lib.hid (HB1.out.trans (hpk.2.2.2.mono HZ1.out))
  clear hpk hW HB1
  refine wpList_store_mid (P := Tryz.prog) rfl 23 _ _ rfl w6.heap.size 0 zh.toArray rfl rfl (HA1.out.there _ (by rw [List.size_toArray])) (by rw [List.size_toArray]; exact size_zh) (all_oneCell_toArray (bys_one zeroH)) ?_
  have HB3 := Lib.hid (below_sets w6.heap.size HZ1.out zh.toArray.toList 0 HB2.out)
  have HR2 := Lib.hid (HA2.out.setCells_ne (b := w6.heap.size) (by omega) zh.toArray.toList 0)
  generalize World.setCells _ _ _ _ = w6b at *
  clear HA1 HA2 HB2
  refine wpList_store_mid (P := Tryz.prog) rfl 31 _ _ rfl (w6.heap.size + 1) 0 zp.toArray rfl rfl (HR2.out.there _ (by rw [List.size_toArray])) (by rw [List.size_toArray]; exact size_zp) (all_oneCell_toArray zp_one) ?_
  have HB4 := Lib.hid (below_sets (w6.heap.size + 1) (Nat.le_succ_of_le HZ1.out) zp.toArray.toList 0 HB3.out)
  generalize World.setCells _ _ _ _ = w7 at *
  clear HR2 HB3 HZ1
  have HZ7 := Lib.hid (show g ≤ w7.heap.size by have := HB4.out.size; rw [HG.out] at this; exact this)
  have HC := Lib.hid (pbytes_big hz0 hz0_ok rfl w7)
  go_wp2_with fail
  refine (HC.out).mono ?_
  rintro e w8 ⟨rfl, hb⟩
  dsimp only
  have HB8 := Lib.hid (HB4.out.trans (hb.mono HZ7.out))
  have HZ8 := Lib.hid (Nat.le_trans HZ7.out hb.size)
  clear hb HB4 HZ7 HC
  have HC := Lib.hid (pbytes_neg hz0 hz0_ok rfl 0 w8 (Int.le_refl 0))
  go_wp2_with fail
  refine (HC.out).mono ?_
  rintro e w9 ⟨rfl, hb⟩
  dsimp only
  have HB9 := Lib.hid (HB8.out.trans (hb.mono HZ8.out))
  have HZ9 := Lib.hid (Nat.le_trans HZ8.out hb.size)
  clear hb HB8 HZ8 HC
  have HC := Lib.hid (show Calls Tryz.prog 5 #[.agg (pfC (.slice none 0 0) hz0 4294967295 4294967295 (.slice none 0 0)).toArray] w9 fun e w' => ∃ v', e = .returned (.tuple #[v', .int .i64 0]) ∧ Below w9.heap.size w9 w' from pbytes_good hz0 hz0_ok rfl 4294967295 4294967295 w9 (Nat.le_refl _) (Nat.le_refl _))
  go_wp2_with fail
  refine (HC.out).mono ?_
  rintro e w10 ⟨v10, rfl, hb⟩
  dsimp only
  have HB10 := Lib.hid (HB9.out.trans (hb.mono HZ9.out))
  have HZ10 := Lib.hid (Nat.le_trans HZ9.out hb.size)
  clear hb HB9 HZ9 HC
  go_wp2_with fail
  refine (num_any' 1 w10).mono ?_
  rintro e w11 ⟨rfl, hb⟩
  dsimp only
  have HB11 := Lib.hid (HB10.out.trans (hb.mono HZ10.out))
  have HZ11 := Lib.hid (Nat.le_trans HZ10.out hb.size)
  clear hb HB10 HZ10
  go_wp2_with fail
  refine (num_any' 1 w11).mono ?_
  rintro e w12 ⟨rfl, hb⟩
  dsimp only
  have HB12 := Lib.hid (HB11.out.trans (hb.mono HZ11.out))
  have HZ12 := Lib.hid (Nat.le_trans HZ11.out hb.size)
  clear hb HB11 HZ11
  go_wp2_with fail
  refine (num_any' 2 w12).mono ?_
  rintro e w13 ⟨rfl, hb⟩
  dsimp only
  have HB13 := Lib.hid (HB12.out.trans (hb.mono HZ12.out))
  have HZ13 := Lib.hid (Nat.le_trans HZ12.out hb.size)
  clear hb HB12 HZ12
  go_wp2_with fail
  refine (num_any' 2 w13).mono ?_
  rintro e w14 ⟨rfl, hb⟩
  dsimp only
  have HB14 := Lib.hid (HB13.out.trans (hb.mono HZ13.out))
  have HZ14 := Lib.hid (Nat.le_trans HZ13.out hb.size)
  clear hb HB13 HZ13
  go_wp2_with fail
  refine (num_any' 0 w14).mono ?_
  rintro e w15 ⟨rfl, hb⟩
  dsimp only
  have HB15 := Lib.hid (HB14.out.trans (hb.mono HZ14.out))
  have HZ15 := Lib.hid (Nat.le_trans HZ14.out hb.size)
  clear hb HB14 HZ14
  go_wp2_with fail
  refine (known_any w15).mono ?_
  rintro e w16 ⟨rfl, hb⟩
  dsimp only
  have HB16 := Lib.hid (HB15.out.trans (hb.mono HZ15.out))
  clear hb HB15 HZ15
  go_wp2
  go_ret
  exact ⟨rfl, HB16.out⟩
end Go.Proofs.YtndhmpeabfmfgaaGreatDoor
