/- Headers; block.HeaderBytes. -/
import Derived.Test.YthnbnckmeffkmaaGreatG15
import Derived.Test.YthnbnckmeffkmaaGreatG17
import Derived.Test.YthnbnckmeffkmaaGreatG16
import Derived.RangeFuncNested
import Derived.RangeFuncBound
import Derived.RangeFuncCalls
import Derived.RangeFuncLeaves
import Derived.OrdersIn
import Derived.TacticsIn
namespace Go.Proofs.YthnbnckmeffkmaaGreat
open Go.RowKit Go.Lib
set_option linter.unusedVariables false
set_option linter.unusedSimpArgs false
attribute [local go_sem ↓] Go.wp_at_zero Go.wp_at_succ

/-- A header's hashes and its number. -/
structure Hdr where
  P : List (List Nat)
  r : List Nat
  a : List Nat
  c : List Nat
  m : List Nat
  n : Nat
structure Hdr.ok (h : Hdr) : Prop where
  r : IsH h.r
  a : IsH h.a
  c : IsH h.c
  m : IsH h.m
  n : h.n ≤ 18446744073709551615
def hdC (pv : Value) (h : Hdr) : List Value := pv :: (bys h.r ++ (bys h.a ++ (bys h.c ++ (bys h.m ++ [.int .u64 (h.n : Nat)]))))
/-- Its bytes. -/
def hdrF (h : Hdr) : List Nat := (le8 h.P.length).take 2 ++ (h.P.flatten ++ (h.r ++ (h.a ++ (h.c ++ (h.m ++ le8 h.n)))))
theorem hdC_len (pv : Value) (h : Hdr) (hk : h.ok) : (hdC pv h).length = 130 := by
  simp [hdC, bys_len, hk.r.1, hk.a.1, hk.c.1, hk.m.1]
theorem size_hdr (pv : Value) (h : Hdr) (hk : h.ok) : (Tryz.prog.info? 50).map (·.size) = some (hdC pv h).length := by
  rw [hdC_len pv h hk]; kernel_rfl
theorem range_app {w : World} {g : Nat} {t : TypeId} {X Y Z : List Value} (h : Arr w g t (X ++ (Y ++ Z))) (o : Nat) (ho : X.length = o) : w.rangeAt g o Y := by
  subst ho
  intro j u hu
  rw [h.cell, List.getElem?_append_right (by omega), show X.length + j - X.length = j by omega, List.getElem?_append_left (List.getElem?_eq_some_iff.1 hu).1]
  exact hu
def HdrAt (w : World) (g : Nat) (pv : Value) (h : Hdr) : Prop := Arr w g 50 (hdC pv h) ∧ h.ok
theorem HdrAt.below {w w' : World} {g : Nat} {pv : Value} {h : Hdr} (hd : HdrAt w g pv h) {B : Nat} (hb : Below B w w') (hg : g < B) : HdrAt w' g pv h := ⟨hd.1.below hb hg, hd.2⟩
theorem HdrAt.p {w : World} {g : Nat} {pv : Value} {h : Hdr} (hd : HdrAt w g pv h) : w.cell? ⟨g, 0, none⟩ = some pv := by rw [hd.1.cell]; rfl
theorem HdrAt.rr {w : World} {g : Nat} {pv : Value} {h : Hdr} (hd : HdrAt w g pv h) : w.rangeAt g 1 (bys h.r) := range_app (X := [pv]) hd.1 1 rfl
theorem HdrAt.ra {w : World} {g : Nat} {pv : Value} {h : Hdr} (hd : HdrAt w g pv h) : w.rangeAt g 33 (bys h.a) := by
  refine range_app (X := [pv] ++ bys h.r) (Z := bys h.c ++ (bys h.m ++ [.int .u64 (h.n : Nat)])) (t := 50) ?_ 33 (by simp [bys_len, hd.2.r.1])
  have := hd.1
  simpa [hdC] using this
theorem HdrAt.rc {w : World} {g : Nat} {pv : Value} {h : Hdr} (hd : HdrAt w g pv h) : w.rangeAt g 65 (bys h.c) := by
  refine range_app (X := [pv] ++ bys h.r ++ bys h.a) (Z := bys h.m ++ [.int .u64 (h.n : Nat)]) (t := 50) ?_ 65 (by simp [bys_len, hd.2.r.1, hd.2.a.1])
  have := hd.1
  simpa [hdC] using this
theorem HdrAt.rm {w : World} {g : Nat} {pv : Value} {h : Hdr} (hd : HdrAt w g pv h) : w.rangeAt g 97 (bys h.m) := by
  refine range_app (X := [pv] ++ bys h.r ++ bys h.a ++ bys h.c) (Z := [.int .u64 (h.n : Nat)]) (t := 50) ?_ 97 (by simp [bys_len, hd.2.r.1, hd.2.a.1, hd.2.c.1])
  have := hd.1
  simpa [hdC] using this
theorem HdrAt.n {w : World} {g : Nat} {pv : Value} {h : Hdr} (hd : HdrAt w g pv h) : w.cell? ⟨g, 129, none⟩ = some (.int .u64 (h.n : Nat)) := by
  have := range_app (X := [pv] ++ bys h.r ++ bys h.a ++ bys h.c ++ bys h.m) (Y := [.int .u64 (h.n : Nat)]) (Z := []) (w := w) (g := g) (t := 50) (by have := hd.1; simpa [hdC] using this) 129 (by simp [bys_len, hd.2.r.1, hd.2.a.1, hd.2.c.1, hd.2.m.1])
  exact this 0 _ rfl

theorem le8t (n : Nat) : ((le8 n).take 2).length = 2 := rfl
theorem hdr_flat (h : Hdr) (hH : ∀ H ∈ h.P, IsH H) : h.P.flatten.length = h.P.length * 32 := flat_len h.P hH
theorem hdrF_lt (h : Hdr) (hk : h.ok) (hH : ∀ H ∈ h.P, IsH H) : ∀ x ∈ hdrF h, x < 256 := by
  intro x hx
  simp only [hdrF, List.mem_append] at hx
  rcases hx with hx | hx | hx | hx | hx | hx | hx
  · exact le8_lt _ x (List.mem_of_mem_take hx)
  · obtain ⟨H, hm, hx⟩ := List.mem_flatten.1 hx; exact (hH H hm).2 x hx
  · exact hk.r.2 x hx
  · exact hk.a.2 x hx
  · exact hk.c.2 x hx
  · exact hk.m.2 x hx
  · exact le8_lt _ x hx
theorem hdrF_len (h : Hdr) (hk : h.ok) (hH : ∀ H ∈ h.P, IsH H) : (hdrF h).length = 138 + h.P.length * 32 := by
  simp only [hdrF, List.length_append, le8t, hdr_flat h hH, hk.r.1, hk.a.1, hk.c.1, hk.m.1]
  show 2 + (h.P.length * 32 + (32 + (32 + (32 + (32 + 8))))) = _
  omega

set_option maxRecDepth 100000 in
set_option maxHeartbeats 6400000 in
theorem header_ok (h : Hdr) (hk : h.ok) (hP : h.P.length ≤ 255) (pv : Value) (w : World) (hv : HsIs w pv h.P) :
    Calls Tryz.prog 80 #[.agg (hdC pv h).toArray] w fun e w' => ∃ v', e = .returned (.tuple #[v', .int .i64 0]) ∧ Byts w' v' (hdrF h) ∧ Low w' v' ∧ Below w.heap.size w w' := by
  have hz := zero32
  obtain ⟨a0, c0, rfl⟩ := hv.form
  have HV := Lib.hid hv
  have HOk := Lib.hid hk
  have HPl := Lib.hid hP
  have HFl := Lib.hid (hdrF_lt h hk hv.1)
  have HFn := Lib.hid (hdrF_len h hk hv.1)
  clear hv hk hP
  go_enter Tryz.func80, Tryz.ntmps80
  go_upto_region 1 with fail
  have hm := Arr.made w 50 (hdC (.slice a0 h.P.length c0) h)
  have hb := (Below.refl w.heap.size w).alloc (Nat.le_refl _) (.cells (hdC (.slice a0 h.P.length c0) h).toArray 50)
  have HH1 := Lib.hid (show HdrAt _ w.heap.size (.slice a0 h.P.length c0) h from ⟨hm, HOk.out⟩)
  have HB1 := Lib.hid hb
  clear hm hb
  generalize World.alloc _ _ = w1 at *
  have hc0 := HH1.out.p
  have hle : ¬ ((h.P.length : Nat) : Int) > 255 := by have := HPl.out; omega
  obtain ⟨g1, hg1⟩ : ∃ g1, w.heap.size = g1 := ⟨_, rfl⟩
  have HG1 := Lib.hid hg1
  have HGl := Lib.hid (show g1 < w1.heap.size by rw [← hg1]; exact HH1.out.1.lt)
  rw [hg1] at HH1 hc0 ⊢
  clear hg1
  go_upto_region 3 with fail
  have ha := Arr.made w1 209 [.slice none 0 0, .bool false]
  have hb := (Below.refl w1.heap.size w1).alloc (Nat.le_refl _) (.cells [Value.slice none 0 0, .bool false].toArray 209)
  have HW0 := Lib.hid (show WrM _ w1.heap.size [] false from ⟨_, ha, own_nil _ _ _ _⟩)
  have HH2 := Lib.hid (HH1.out.below hb HGl.out)
  have HB2 := Lib.hid (HB1.out.trans (hb.mono HB1.out.size))
  have hc2 : (w1.alloc (.cells [Value.slice none 0 0, .bool false].toArray 209)).cell? ⟨g1, 0, none⟩ = some (.slice a0 h.P.length c0) := cellb hb hc0
  clear ha hb hle
  obtain ⟨L0, hL0⟩ : ∃ L0, (le8 h.P.length).take 2 = L0 := ⟨_, rfl⟩
  have HL0 := Lib.hid hL0
  clear hL0
  have HGg := Lib.hid HGl.out
  obtain ⟨g2, hg2⟩ : ∃ g2, w1.heap.size = g2 := ⟨_, rfl⟩
  have HGw := Lib.hid (show w.heap.size ≤ g2 by rw [← hg2]; exact HB1.out.size)
  go_wp2_with fail
  clear hc2
  generalize World.alloc _ _ = w2 at *
  rw [hg2] at HW0 HGg
  clear hg2
  have HCn := Lib.hid (wcount_ok g2 h.P.length [] L0 HL0.out w2 HW0.out (by have := HPl.out; omega) (by simp))
  with_reducible refine HCn.out.mono ?_
  rintro e w3 ⟨rfl, hw3, hb3⟩
  dsimp only
  have HW3 := Lib.hid hw3
  have HH3 := Lib.hid (HH2.out.below hb3 HGg.out)
  have HB3 := Lib.hid (HB2.out.trans (hb3.mono HGw.out))
  clear hw3 hb3 HW0 HH2 HB2 HH1 HB1 hc0 HGl HCn
  have hc0 := HH3.out.p
  go_wp2
  clear hc0
  go_loopg [6, 19] h.P.length (fun g v6 v19 wq => ∃ k : Nat, Hid (g + k = h.P.length) ∧ v19 = .int .i64 (k : Int) ∧ Hid (WrM wq g2 (L0 ++ (h.P.take k).flatten) false) ∧ Hid (HdrAt wq g1 (.slice a0 h.P.length c0) h) ∧ Hid (Below w.heap.size w wq))
  case atStart => exact ⟨0, rfl, rfl, by show WrM _ _ _ _; simpa using HW3.out, HH3.out, HB3.out⟩
  case round =>
    obtain ⟨k, hk, rfl, hw, hh, hb⟩ := hrel
    have HK := Lib.hid hk.out
    have HWq := Lib.hid hw.out
    have HHq := Lib.hid hh.out
    have HB0 := Lib.hid hb.out
    clear hk hw hh hb HW3 HH3 HB3
    have hpl := HPl.out
    cases gk with
    | zero =>
      have hlt : ¬ ((k : Int) < ((h.P.length : Nat) : Int)) := by have := HK.out; omega
      have HW9 := Lib.hid (show WrM wr g2 (L0 ++ h.P.flatten) false by
        have hw := HWq.out
        rw [List.take_of_length_le (by have := HK.out; omega)] at hw
        exact hw)
      obtain ⟨LX, hLX⟩ : ∃ LX, L0 ++ h.P.flatten = LX := ⟨_, rfl⟩
      rw [hLX] at HW9
      have hlx : LX.length = 2 + h.P.length * 32 := by rw [← hLX, ← HL0.out, List.length_append, le8t, hdr_flat h HV.out.1]
      obtain ⟨L1, hL1⟩ : ∃ L1, LX ++ h.r = L1 := ⟨_, rfl⟩
      obtain ⟨L2, hL2⟩ : ∃ L2, L1 ++ h.a = L2 := ⟨_, rfl⟩
      obtain ⟨L3, hL3⟩ : ∃ L3, L2 ++ h.c = L3 := ⟨_, rfl⟩
      obtain ⟨L4, hL4⟩ : ∃ L4, L3 ++ h.m = L4 := ⟨_, rfl⟩
      obtain ⟨L5, hL5⟩ : ∃ L5, L4 ++ le8 h.n = L5 := ⟨_, rfl⟩
      have hL5e : L5 = hdrF h := by rw [← hL5, ← hL4, ← hL3, ← hL2, ← hL1, ← hLX, ← HL0.out]; simp only [hdrF, List.append_assoc]
      have HLs := Lib.hid (show LX.length ≤ 10000 ∧ L1.length ≤ 10000 ∧ L2.length ≤ 10000 ∧ L3.length ≤ 10000 ∧ L4.length ≤ 10000 ∧ L5.length ≤ 10000 by
        rw [← hL5, ← hL4, ← hL3, ← hL2, ← hL1]
        simp only [List.length_append, HOk.out.r.1, HOk.out.a.1, HOk.out.c.1, HOk.out.m.1, hlx, show (le8 h.n).length = 8 from rfl]
        omega)
      have HLz := Lib.hid (show L5 ≠ [] from fun e => by have h9 := HFn.out; rw [← hL5e, e] at h9; simp at h9; omega)
      have HLb := Lib.hid (show ∀ x ∈ L5, x < 256 by rw [hL5e]; exact HFl.out)
      have HLe := Lib.hid hL5e
      have HL1 := Lib.hid hL1
      have HL2 := Lib.hid hL2
      have HL3 := Lib.hid hL3
      have HL4 := Lib.hid hL4
      have HL5 := Lib.hid hL5
      have HLn := HPl
      clear hL1 hL2 hL3 hL4 hL5 hL5e hlx hLX HWq
      go_upto_region 9 with fail
      have HS0 := Lib.hid (show HdrAt wr.drew g1 (.slice a0 h.P.length c0) h from HHq.out)
      have HW0 := Lib.hid (show WrM wr.drew g2 LX false from HW9.out)
      have HBd := Lib.hid HB0.out.drew
      clear HHq HW9 HB0
      have HB0 := HBd
      clear HBd
      refine wp_region_H (fun w' => HdrAt w' g1 (.slice a0 h.P.length c0) h) (by kernel_rfl) ?_
      generalize wr.drew = w9 at *
      simp only [List.size_toArray, List.length_cons, List.length_nil, Nat.reduceAdd, Array.replicate_succ, Array.replicate_zero, List.push_toArray, List.nil_append, List.cons_append]
      refine wpAnyH_take (i := 0) (oi := ⟨some 27, _, _, _, _, _⟩) (v := ?_) rfl (by kernel_rfl) (by kernel_rfl) (by kernel_rfl) (fun _ _ _ h => h) (Or.inl ⟨by rfl, ?_⟩) HS0.out ?_
      rotate_left
      · intro w hSw
        go_simp <;> with_reducible rfl
      dsimp only [Act.put]
      simp only [List.setIfInBounds_toArray, List.set_cons_zero, List.set_cons_succ]
      refine wpAnyH_take (i := 1) (oi := ⟨some 28, _, _, _, _, _⟩) (v := ?_) rfl (by kernel_rfl) (by kernel_rfl) (by kernel_rfl) (fun _ _ _ h => h) (Or.inl ⟨by rfl, ?_⟩) HS0.out ?_
      rotate_left
      · intro w hSw
        go_simp <;> with_reducible rfl
      dsimp only [Act.put]
      simp only [List.setIfInBounds_toArray, List.set_cons_zero, List.set_cons_succ]
      refine wpAnyH_take (i := 2) (oi := ⟨some 29, _, _, _, _, _⟩) rfl (by kernel_rfl) (by kernel_rfl) (by kernel_rfl) (fun _ _ _ h => h) (yieldsIf_load_mid (by rfl) 24 (.tmp 28) rfl (g1) (1) rfl (bys h.r) _ (fun w h => h.rr) Tryz.underlying24 rfl (size_hash _ HOk.out.r.1)) HS0.out ?_
      dsimp only [Act.put]
      simp only [List.setIfInBounds_toArray, List.set_cons_zero, List.set_cons_succ]
      refine wpAnyH_take (i := 4) (oi := ⟨some 31, _, _, _, _, _⟩) (v := ?_) rfl (by kernel_rfl) (by kernel_rfl) (by kernel_rfl) (fun _ _ _ h => h) (Or.inl ⟨by rfl, ?_⟩) HS0.out ?_
      rotate_left
      · intro w hSw
        go_simp <;> with_reducible rfl
      dsimp only [Act.put]
      simp only [List.setIfInBounds_toArray, List.set_cons_zero, List.set_cons_succ]
      refine wpAnyH_take (i := 5) (oi := ⟨some 32, _, _, _, _, _⟩) rfl (by kernel_rfl) (by kernel_rfl) (by kernel_rfl) (fun _ _ _ h => h) (yieldsIf_load_mid (by rfl) 24 (.tmp 31) rfl (g1) (33) rfl (bys h.a) _ (fun w h => h.ra) Tryz.underlying24 rfl (size_hash _ HOk.out.a.1)) HS0.out ?_
      dsimp only [Act.put]
      simp only [List.setIfInBounds_toArray, List.set_cons_zero, List.set_cons_succ]
      refine wpAnyH_take (i := 7) (oi := ⟨some 34, _, _, _, _, _⟩) (v := ?_) rfl (by kernel_rfl) (by kernel_rfl) (by kernel_rfl) (fun _ _ _ h => h) (Or.inl ⟨by rfl, ?_⟩) HS0.out ?_
      rotate_left
      · intro w hSw
        go_simp <;> with_reducible rfl
      dsimp only [Act.put]
      simp only [List.setIfInBounds_toArray, List.set_cons_zero, List.set_cons_succ]
      refine wpAnyH_take (i := 8) (oi := ⟨some 35, _, _, _, _, _⟩) rfl (by kernel_rfl) (by kernel_rfl) (by kernel_rfl) (fun _ _ _ h => h) (yieldsIf_load_mid (by rfl) 24 (.tmp 34) rfl (g1) (65) rfl (bys h.c) _ (fun w h => h.rc) Tryz.underlying24 rfl (size_hash _ HOk.out.c.1)) HS0.out ?_
      dsimp only [Act.put]
      simp only [List.setIfInBounds_toArray, List.set_cons_zero, List.set_cons_succ]
      refine wpAnyH_take (i := 10) (oi := ⟨some 37, _, _, _, _, _⟩) (v := ?_) rfl (by kernel_rfl) (by kernel_rfl) (by kernel_rfl) (fun _ _ _ h => h) (Or.inl ⟨by rfl, ?_⟩) HS0.out ?_
      rotate_left
      · intro w hSw
        go_simp <;> with_reducible rfl
      dsimp only [Act.put]
      simp only [List.setIfInBounds_toArray, List.set_cons_zero, List.set_cons_succ]
      refine wpAnyH_take (i := 11) (oi := ⟨some 38, _, _, _, _, _⟩) rfl (by kernel_rfl) (by kernel_rfl) (by kernel_rfl) (fun _ _ _ h => h) (yieldsIf_load_mid (by rfl) 24 (.tmp 37) rfl (g1) (97) rfl (bys h.m) _ (fun w h => h.rm) Tryz.underlying24 rfl (size_hash _ HOk.out.m.1)) HS0.out ?_
      dsimp only [Act.put]
      simp only [List.setIfInBounds_toArray, List.set_cons_zero, List.set_cons_succ]
      refine wpAnyH_take (i := 13) (oi := ⟨some 40, _, _, _, _, _⟩) (v := ?_) rfl (by kernel_rfl) (by kernel_rfl) (by kernel_rfl) (fun _ _ _ h => h) (Or.inl ⟨by rfl, ?_⟩) HS0.out ?_
      rotate_left
      · intro w hSw
        go_simp <;> with_reducible rfl
      dsimp only [Act.put]
      simp only [List.setIfInBounds_toArray, List.set_cons_zero, List.set_cons_succ]
      refine wpAnyH_take (i := 14) (oi := ⟨some 41, _, _, _, _, _⟩) (v := .int .u64 (h.n : Nat)) rfl (by kernel_rfl) (by kernel_rfl) (by kernel_rfl) (fun _ _ _ h => h) (Or.inl ⟨by rfl, ?_⟩) HS0.out ?_
      · intro w hSw
        have hq := HdrAt.n hSw
        go_simp <;> with_reducible rfl
      dsimp only [Act.put]
      simp only [List.setIfInBounds_toArray, List.set_cons_zero, List.set_cons_succ]
      refine wpAnyH_one (i := 3) (oi := ⟨some 30, _, _, _, _, _⟩) (by kernel_rfl) rfl (by rfl) (fun K9 hK9 => ?_)
      have HK9 := Lib.hid hK9
      clear hK9
      go_simp
      refine (whash_ok g2 LX h.r L1 HL1.out HOk.out.r _ HW0.out (by have := HLn.out; have := HLs.out; omega)).mono ?_
      rintro e w1 ⟨rfl, hw1, hb1⟩
      dsimp only
      have hS := HS0.out.below hb1 HGg.out
      have HW1 := Lib.hid hw1
      have HB1 := Lib.hid (HB0.out.trans (hb1.mono HGw.out))
      clear HS0 HW0 HB0 hw1 hb1
      have HS0 := Lib.hid hS
      clear hS
      refine HK9.out _ _ HS0.out ?_
      clear HK9
      simp only [List.setIfInBounds_toArray, List.set_cons_zero, List.set_cons_succ]
      refine wpAnyH_one (i := 6) (oi := ⟨some 33, _, _, _, _, _⟩) (by kernel_rfl) rfl (by rfl) (fun K9 hK9 => ?_)
      have HK9 := Lib.hid hK9
      clear hK9
      go_simp
      refine (whash_ok g2 L1 h.a L2 HL2.out HOk.out.a _ HW1.out (by have := HLn.out; have := HLs.out; omega)).mono ?_
      rintro e w2 ⟨rfl, hw2, hb2⟩
      dsimp only
      have hS := HS0.out.below hb2 HGg.out
      have HW2 := Lib.hid hw2
      have HB2 := Lib.hid (HB1.out.trans (hb2.mono HGw.out))
      clear HS0 HW1 HB1 hw2 hb2
      have HS0 := Lib.hid hS
      clear hS
      refine HK9.out _ _ HS0.out ?_
      clear HK9
      simp only [List.setIfInBounds_toArray, List.set_cons_zero, List.set_cons_succ]
      refine wpAnyH_one (i := 9) (oi := ⟨some 36, _, _, _, _, _⟩) (by kernel_rfl) rfl (by rfl) (fun K9 hK9 => ?_)
      have HK9 := Lib.hid hK9
      clear hK9
      go_simp
      refine (whash_ok g2 L2 h.c L3 HL3.out HOk.out.c _ HW2.out (by have := HLn.out; have := HLs.out; omega)).mono ?_
      rintro e w3 ⟨rfl, hw3, hb3⟩
      dsimp only
      have hS := HS0.out.below hb3 HGg.out
      have HW3 := Lib.hid hw3
      have HB3 := Lib.hid (HB2.out.trans (hb3.mono HGw.out))
      clear HS0 HW2 HB2 hw3 hb3
      have HS0 := Lib.hid hS
      clear hS
      refine HK9.out _ _ HS0.out ?_
      clear HK9
      simp only [List.setIfInBounds_toArray, List.set_cons_zero, List.set_cons_succ]
      refine wpAnyH_one (i := 12) (oi := ⟨some 39, _, _, _, _, _⟩) (by kernel_rfl) rfl (by rfl) (fun K9 hK9 => ?_)
      have HK9 := Lib.hid hK9
      clear hK9
      go_simp
      refine (whash_ok g2 L3 h.m L4 HL4.out HOk.out.m _ HW3.out (by have := HLn.out; have := HLs.out; omega)).mono ?_
      rintro e w4 ⟨rfl, hw4, hb4⟩
      dsimp only
      have hS := HS0.out.below hb4 HGg.out
      have HW4 := Lib.hid hw4
      have HB4 := Lib.hid (HB3.out.trans (hb4.mono HGw.out))
      clear HS0 HW3 HB3 hw4 hb4
      have HS0 := Lib.hid hS
      clear hS
      refine HK9.out _ _ HS0.out ?_
      clear HK9
      simp only [List.setIfInBounds_toArray, List.set_cons_zero, List.set_cons_succ]
      refine wpAnyH_one (i := 15) (oi := ⟨some 42, _, _, _, _, _⟩) (by kernel_rfl) rfl (by rfl) (fun K9 hK9 => ?_)
      have HK9 := Lib.hid hK9
      clear hK9
      go_simp
      refine (wnum8_ok g2 h.n L4 L5 HL5.out _ HW4.out HOk.out.n (by have := HLn.out; have := HLs.out; omega)).mono ?_
      rintro e w5 ⟨rfl, hw5, hb5⟩
      dsimp only
      have hS := HS0.out.below hb5 HGg.out
      have HW5 := Lib.hid hw5
      have HB5 := Lib.hid (HB4.out.trans (hb5.mono HGw.out))
      clear HS0 HW4 HB4 hw5 hb5
      have HS0 := Lib.hid hS
      clear hS
      refine HK9.out _ _ HS0.out ?_
      clear HK9
      simp only [List.setIfInBounds_toArray, List.set_cons_zero, List.set_cons_succ]
      refine wpAnyH_one (i := 16) (oi := ⟨some 43, _, _, _, _, _⟩) (by kernel_rfl) rfl (by rfl) (fun K9 hK9 => ?_)
      have HK9 := Lib.hid hK9
      clear hK9
      go_simp
      refine (end_ok g2 L5 _ HW5.out HLz.out HLb.out (by have := HLs.out; omega)).mono ?_
      rintro e w6 ⟨v6, rfl, hy6, hlo6, hb6⟩
      dsimp only
      have hS := HS0.out.below hb6 HS0.out.1.lt
      have HY6 := Lib.hid (And.intro hy6 hlo6)
      have HB6 := Lib.hid (HB5.out.trans (hb6.mono HB5.out.size))
      clear HS0 HW5 HB5 hy6 hlo6 hb6
      have HS0 := Lib.hid hS
      clear hS
      refine HK9.out _ _ HS0.out ?_
      clear HK9
      simp only [List.setIfInBounds_toArray, List.set_cons_zero, List.set_cons_succ]
      refine wpAnyH_take (i := 17) (oi := ⟨some 44, _, _, _, _, _⟩) (v := v6) rfl (by kernel_rfl) (by kernel_rfl) (by kernel_rfl) (fun _ _ _ h => h) (Or.inl ⟨by rfl, ?_⟩) HS0.out ?_
      · intro w hSw
        go_simp <;> with_reducible rfl
      dsimp only [Act.put]
      simp only [List.setIfInBounds_toArray, List.set_cons_zero, List.set_cons_succ]
      refine wpAnyH_take (i := 18) (oi := ⟨some 45, _, _, _, _, _⟩) (v := .int .i64 0) rfl (by kernel_rfl) (by kernel_rfl) (by kernel_rfl) (fun _ _ _ h => h) (Or.inl ⟨by rfl, ?_⟩) HS0.out ?_
      · intro w hSw
        go_simp <;> with_reducible rfl
      dsimp only [Act.put]
      simp only [List.setIfInBounds_toArray, List.set_cons_zero, List.set_cons_succ]
      refine wpAnyH_take (i := 19) (oi := ⟨some 2, _, _, _, _, _⟩) (v := ?_) rfl (by kernel_rfl) (by kernel_rfl) (by kernel_rfl) (fun _ _ _ h => h) (Or.inl ⟨by rfl, ?_⟩) HS0.out ?_
      rotate_left
      · intro w hSw
        go_simp <;> with_reducible rfl
      dsimp only [Act.put]
      simp only [List.setIfInBounds_toArray, List.set_cons_zero, List.set_cons_succ]
      refine wpAnyH_take (i := 20) (oi := ⟨some 3, _, _, _, _, _⟩) (v := ?_) rfl (by kernel_rfl) (by kernel_rfl) (by kernel_rfl) (fun _ _ _ h => h) (Or.inl ⟨by rfl, ?_⟩) HS0.out ?_
      rotate_left
      · intro w hSw
        go_simp <;> with_reducible rfl
      dsimp only [Act.put]
      simp only [List.setIfInBounds_toArray, List.set_cons_zero, List.set_cons_succ]
      refine wpAnyH_done (by kernel_rfl) ?_ _
      rw [HLe.out] at HY6
      go_wp2
      refine bodyPost_ret (results_tmp2 rfl _ _ _) rfl ?_
      exact ⟨v6, rfl, HY6.out.1, HY6.out.2, HB6.out⟩
    | succ g =>
      have hkl : k < h.P.length := by have := HK.out; omega
      have hlt : ((k : Int) < ((h.P.length : Nat) : Int)) := by omega
      have hvq := HV.out.below HB0.out
      obtain ⟨b, off, rfl⟩ : ∃ b off, a0 = some ⟨b, off, none⟩ := by
        rcases HV.out.2 with ⟨_, h0⟩ | ⟨b, off, c, e1, _⟩
        · rw [h0] at hkl; simp at hkl
        · injection e1 with e1 _ _; exact ⟨b, off, e1⟩
      have hH := IsH.getD HV.out.1 hkl
      obtain ⟨H, hHe⟩ : ∃ H, h.P.getD k [] = H := ⟨_, rfl⟩
      have hrg := colS_at hvq hkl
      rw [hHe] at hH hrg
      have HH := Lib.hid hH
      have HRg := Lib.hid hrg
      have HSh := Lib.hid (size_hash H hH.1)
      have HSh2 := Lib.hid (show (Tryz.prog.info? 24).map (·.size) = some (bys H).toArray.size by rw [List.size_toArray]; exact size_hash H hH.1)
      have O1 := Lib.hid (all_oneCell_toArray (bys_one H))
      obtain ⟨LX, hLX⟩ : ∃ LX, L0 ++ (h.P.take k).flatten = LX := ⟨_, rfl⟩
      obtain ⟨LY, hLY⟩ : ∃ LY, L0 ++ (h.P.take (k + 1)).flatten = LY := ⟨_, rfl⟩
      have HLXY := Lib.hid (show LX ++ H = LY by
        rw [← hLX, ← hLY, List.take_succ_eq_append_getElem hkl, List.flatten_append, ← List.append_assoc, ← hHe]
        congr 1
        simp [List.getElem?_eq_getElem hkl])
      have HLl := Lib.hid (show LX.length + 32 ≤ 140737488355328 by
        rw [← hLX, ← HL0.out, List.length_append, le8t, flat_len _ (fun x hx => HV.out.1 x (List.mem_of_mem_take hx)), List.length_take]; omega)
      have HWx := Lib.hid (show WrM wr g2 LX false by rw [← hLX]; exact HWq.out)
      have HLY := Lib.hid hLY
      clear hvq hH hHe hrg hLX hLY HWq hkl
      have hz := zero32
      go_upto_region 6 with fail
      go_step
      iterate 3 (first | go_values | go_skip | go_guarded | go_step | go_upon)
      refine wpList_load_mid (P := Tryz.prog) rfl 24 _ rfl b (off + k * 32) rfl _ _ HRg.out Tryz.underlying24 rfl HSh.out ?_
      iterate 3 (first | go_values | go_skip | go_guarded | go_step | go_upon)
      have hm := Arr.made wr 24 (List.replicate 32 (.int .u8 0))
      have HPk := Lib.hid (And.intro (hm.there (bys H).toArray.size (by simp [bys_len, HH.out.1])) (And.intro (hm.setAll (bys H) (by simp [bys_len, HH.out.1])) (below_sets wr.heap.size (Nat.le_refl _) (bys H) 0 ((Below.refl wr.heap.size wr).alloc (Nat.le_refl _) (.cells (List.replicate 32 (.int .u8 0)).toArray 24)))))
      clear hm
      refine wpList_store_mid (P := Tryz.prog) rfl 24 _ _ rfl wr.heap.size 0 (bys H).toArray rfl rfl HPk.out.1 HSh2.out O1.out ?_
      have hpk := HPk.out.2
      simp only [List.reduceReplicate] at hpk
      have HPk2 := Lib.hid hpk
      clear HPk hpk hz
      obtain ⟨g5, hg5⟩ : ∃ g5, wr.heap.size = g5 := ⟨_, rfl⟩
      have HG5 := Lib.hid hg5
      rw [hg5] at HPk2 ⊢
      rw [show (bys H).toArray.toList = bys H from rfl]
      generalize World.setCells _ _ _ _ = w2 at *
      clear hg5
      have HWy := Lib.hid (HWx.out.below (by rw [HG5.out]; exact HPk2.out.2))
      have HHy := Lib.hid (HHq.out.below HPk2.out.2 (by rw [← HG5.out]; exact HHq.out.1.lt))
      have HBy := Lib.hid (HB0.out.trans (HPk2.out.2.mono (by rw [← HG5.out]; exact HB0.out.size)))
      have HRy := Lib.hid HPk2.out.1.range
      clear HWx HHq HB0 HPk2
      go_upto_region 7 with fail
      go_step
      iterate 3 (first | go_values | go_skip | go_guarded | go_step | go_upon)
      refine wpList_load_mid (P := Tryz.prog) rfl 24 _ rfl g5 0 rfl _ _ HRy.out Tryz.underlying24 rfl HSh.out ?_
      go_wp2_with fail
      refine (whash_ok g2 LX H LY HLXY.out HH.out w2 HWy.out HLl.out).mono ?_
      rintro e w3 ⟨rfl, hw3, hb3⟩
      dsimp only
      have HW3 := Lib.hid hw3
      have HH3 := Lib.hid (HHy.out.below hb3 HGg.out)
      have HB3 := Lib.hid (HBy.out.trans (hb3.mono HGw.out))
      clear hw3 hb3 HWy HHy HBy HRy
      go_wp2
      go_roundg g
      case measure => omega
      case rel => exact ⟨k + 1, by show _ = _; have := HK.out; omega, by go_num, by show WrM _ _ _ _; rw [HLY.out]; exact HW3.out, HH3.out, HB3.out⟩
end Go.Proofs.YthnbnckmeffkmaaGreat
/- block.HeaderBytes of too many; block.ID. -/
namespace Go.Proofs.YthnbnckmeffkmaaGreat
open Go.RowKit Go.Lib
set_option linter.unusedVariables false
set_option linter.unusedSimpArgs false
attribute [local go_sem ↓] Go.wp_at_zero Go.wp_at_succ

def nBlock : List Nat := [98, 108, 111, 99, 107]
/-- A header's id. -/
def idF (h : Hdr) : List Nat := tagF nBlock (hdrF h)
set_option maxRecDepth 100000 in
set_option maxHeartbeats 1600000 in
theorem header_bad (h : Hdr) (hk : h.ok) (hP : 255 < h.P.length) (pv : Value) (w : World) (hv : HsIs w pv h.P) :
    Calls Tryz.prog 80 #[.agg (hdC pv h).toArray] w fun e w' => e = .returned (.tuple #[.slice none 0 0, .int .i64 2]) ∧ Below w.heap.size w w' := by
  obtain ⟨a0, c0, rfl⟩ := hv.form
  have HOk := Lib.hid hk
  have HPl := Lib.hid hP
  clear hv hk hP
  go_enter Tryz.func80, Tryz.ntmps80
  go_upto_region 1 with fail
  have hm := Arr.made w 50 (hdC (.slice a0 h.P.length c0) h)
  have hb := (Below.refl w.heap.size w).alloc (Nat.le_refl _) (.cells (hdC (.slice a0 h.P.length c0) h).toArray 50)
  have HH1 := Lib.hid (show HdrAt _ w.heap.size (.slice a0 h.P.length c0) h from ⟨hm, HOk.out⟩)
  have HB1 := Lib.hid hb
  clear hm hb
  generalize World.alloc _ _ = w1 at *
  have hc0 := HH1.out.p
  have hle : ((h.P.length : Nat) : Int) > 255 := by have := HPl.out; omega
  go_wp2
  refine bodyPost_ret (results_tmp2 rfl _ _ _) rfl ?_
  exact ⟨rfl, HB1.out⟩

set_option maxRecDepth 100000 in
set_option maxHeartbeats 1600000 in
theorem bid_any (h : Hdr) (hk : h.ok) (hP : h.P.length ≤ 255) (pv : Value) (w : World) (hv : HsIs w pv h.P) :
    Calls Tryz.prog 39 #[.agg (hdC pv h).toArray] w fun e w' => e = .returned (.agg (bys (idF h)).toArray) ∧ Below w.heap.size w w' := by
  have hz := zero32
  have HV := Lib.hid hv
  have HOk := Lib.hid hk
  have HPl := Lib.hid hP
  have HFn := Lib.hid (hdrF_len h hk hv.1)
  have HSp := Lib.hid (size_hdr pv h hk)
  clear hv hk hP
  obtain ⟨C, hC⟩ : ∃ C, C = hdC pv h := ⟨_, rfl⟩
  have HC := Lib.hid hC
  rw [← hC] at HSp ⊢
  clear hC
  go_enter Tryz.func39, Tryz.ntmps39
  go_upto_region 1 with fail
  have hpk := two w (.cells C.toArray 50) (.cells (List.replicate 32 (.int .u8 0)).toArray 24)
  simp only [List.reduceReplicate] at hpk
  have HA1 := Lib.hid (show Arr _ w.heap.size 50 C from hpk.1)
  have HA2 := Lib.hid (show ∃ Z : List Value, Z.length = 32 ∧ Arr _ (w.heap.size + 1) 24 Z from ⟨_, rfl, hpk.2.1⟩)
  have HB1 := Lib.hid hpk.2.2.2
  clear hpk hz
  generalize World.alloc (World.alloc _ _) _ = w1 at *
  go_step
  refine wpList_load_mid (P := Tryz.prog) rfl 50 _ rfl w.heap.size 0 rfl _ _ HA1.out.range Tryz.underlying50 rfl HSp.out ?_
  have HCh := Lib.hid (header_ok h HOk.out HPl.out pv w1 (HV.out.below HB1.out))
  rw [← HC.out] at HCh
  go_wp2_with fail
  with_reducible refine HCh.out.mono ?_
  rintro e w2 ⟨v2, rfl, hy2, hlo2, hb2⟩
  dsimp only
  obtain ⟨a2, c2, rfl⟩ := hy2.form
  obtain ⟨n2, hn2⟩ : ∃ n2, (hdrF h).length = n2 := ⟨_, rfl⟩
  rw [hn2] at hy2 hlo2 ⊢
  have HY2 := Lib.hid hy2
  have HLo2 := Lib.hid hlo2
  obtain ⟨Zr, hZl, hZa⟩ := HA2.out
  have HZl := Lib.hid hZl
  have HA22 := Lib.hid (hZa.below hb2 hZa.lt)
  have HB2 := Lib.hid (HB1.out.trans (hb2.mono HB1.out.size))
  clear hy2 hlo2 hb2 hZl hZa HA1 HA2 HB1 HCh hn2
  have HP := Lib.hid (parts1 157 HY2.out HLo2.out)
  have HBa := Lib.hid (show Below w2.heap.size w2 (w2.alloc (.cells #[.slice a2 n2 c2] 157)) from (Below.refl _ _).alloc (Nat.le_refl _) _)
  go_wp2_with fail
  have HTg := Lib.hid (tag_any ⟨#[98, 108, 111, 99, 107]⟩ _ [hdrF h] _ (by decide) (by rw [List.flatten_cons, List.flatten_nil, List.append_nil, HFn.out]; have := HPl.out; omega) (by simp) HP.out)
  with_reducible refine HTg.out.mono ?_
  rintro e w4 ⟨rfl, hb4⟩
  rw [show tagF (nmB ⟨#[98, 108, 111, 99, 107]⟩) [hdrF h].flatten = idF h by rw [List.flatten_cons, List.flatten_nil, List.append_nil]; rfl]
  dsimp only
  have hb24 := HBa.out.trans (hb4.mono HBa.out.size)
  have HAx := Lib.hid (HA22.out.below hb24 HA22.out.lt)
  have HBx := Lib.hid (HB2.out.trans (hb24.mono HB2.out.size))
  clear hb4 hb24 HTg HP HBa HA22 HB2
  obtain ⟨R, hR⟩ : ∃ R, R = idF h := ⟨_, rfl⟩
  rw [← hR]
  have HRe := Lib.hid hR
  have HRh := Lib.hid (show IsH R by rw [hR]; exact tagF_h _ _)
  have HSr := Lib.hid (size_hash R HRh.out.1)
  have HSr2 := Lib.hid (show (Tryz.prog.info? 24).map (·.size) = some (bys R).toArray.size by rw [List.size_toArray]; exact HSr.out)
  have O1 := Lib.hid (all_oneCell_toArray (bys_one R))
  clear hR
  go_step
  refine wpList_store_mid (P := Tryz.prog) rfl 24 _ _ rfl (w.heap.size + 1) 0 (bys R).toArray rfl rfl (HAx.out.there _ (by rw [HZl.out]; simp [bys_len, HRh.out.1])) HSr2.out O1.out ?_
  rw [show (bys R).toArray.toList = bys R from rfl]
  have HA5 := Lib.hid (HAx.out.setAll (bys R) (by rw [HZl.out]; simp [bys_len, HRh.out.1]))
  have HB9 := Lib.hid (below_sets (w.heap.size + 1) (by omega) (bys R) 0 HBx.out)
  generalize World.setCells _ _ _ _ = w9 at *
  go_wp2
  refine bodyPost_ret (results_cell_row (P := Tryz.prog) rfl _ _ (w.heap.size + 1) 24 _ (0, 0) _ rfl HA5.out Tryz.underlying24 rfl (by rw [List.size_toArray]; exact HSr.out)) rfl ?_
  exact ⟨by rw [HRe.out], HB9.out⟩
end Go.Proofs.YthnbnckmeffkmaaGreat
/- plexusref01.Put and Num, of sizes 2 and 8. -/
namespace Go.Proofs.YthnbnckmeffkmaaGreat
open Go.RowKit Go.Lib
set_option linter.unusedVariables false
set_option linter.unusedSimpArgs false
attribute [local go_sem ↓] Go.wp_at_zero Go.wp_at_succ

theorem r1size_any (s : Nat) (hs : s = 2 ∨ s = 8) (w : World) : Calls Tryz.prog 241 #[.int .i64 (s : Int)] w fun e w' => e = .returned (.bool true) ∧ w' = w := by
  rcases hs with rfl | rfl
  · go_enter Tryz.func241, Tryz.ntmps241
    go_wp2
    go_ret
    exact ⟨rfl, rfl⟩
  · go_enter Tryz.func241, Tryz.ntmps241
    go_wp2
    go_ret
    exact ⟨rfl, rfl⟩

/-- What Put answers. -/
def PutR (B : Nat) (L : List Nat) (e : Ending) (w' : World) : Prop := ∃ v' b, e = .returned (.tuple #[v', .bool b]) ∧ w'.ownsRow B 5 1 v' L.length (bys L)
theorem le8_next (n k m : Nat) (hk : k < 8) (hm : m = n / 256 ^ k) : (le8 n).take k ++ [m % 256] = (le8 n).take (k + 1) := by
  rw [List.take_add_one, le8_at n k hk, hm, show (256 : Nat) = 2 ^ 8 by rfl, ← Nat.pow_mul]
  rfl
theorem byte_at (w : World) (m : Nat) (z : Int) (hz : (m : Int) = z) (hm : m < 256) : Byts (w.alloc (.cells #[.int .u8 z] 5)) (.slice (some ⟨w.heap.size, 0, none⟩) 1 1) [m] := by
  subst hz
  have ha := Arr.made w 5 [.int .u8 (m : Int)]
  refine ⟨fun x hx => by rw [List.mem_singleton] at hx; omega, .inr ⟨_, 1, rfl, Nat.le_refl _, by unfold maxLen; omega, fun j hj => ?_⟩⟩
  obtain rfl : j = 0 := by simpa using hj
  rw [add_nospot, ha.cell]; rfl

set_option maxRecDepth 100000 in
set_option maxHeartbeats 1600000 in
theorem put_any (s n : Nat) (hs : s = 2 ∨ s = 8) (hn : n ≤ 18446744073709551615) (w : World) :
    Calls Tryz.prog 203 #[.int .u64 (n : Int), .int .i64 (s : Int)] w fun e w' => PutR w.heap.size ((le8 n).take s) e w' ∧ Below w.heap.size w w' := by
  have HSz := Lib.hid hs
  have HN := Lib.hid hn
  have hsb : s ≤ 8 := by omega
  have HSb := Lib.hid hsb
  clear hs hn hsb
  go_enter Tryz.func203, Tryz.ntmps203
  go_wp2_with fail
  with_reducible refine (r1size_any s HSz.out w).mono ?_
  rintro e w2 ⟨rfl, rfl⟩
  dsimp only
  have HO0 := Lib.hid (show w2.ownsRow w2.heap.size 5 1 (.slice none 0 0) ([] : List Nat).length (bys []) from own_nil _ _ _ _)
  go_wp2
  go_loopg [0, 6, 7] s (fun g v0 v6 v7 wq => ∃ k m : Nat, Hid (g + k = s) ∧ v0 = .int .u64 (m : Int) ∧ Hid (m = n / 256 ^ k) ∧ v7 = .int .i64 (k : Int) ∧ Hid (wq.ownsRow w2.heap.size 5 1 v6 ((le8 n).take k).length (bys ((le8 n).take k))) ∧ Hid (Below w2.heap.size w2 wq))
  case atStart => exact ⟨0, n, rfl, rfl, by show _ = _; simp, rfl, HO0.out, Below.refl _ _⟩
  case round =>
    obtain ⟨k, m, hk, rfl, hm, rfl, ho, hb⟩ := hrel
    have HK := Lib.hid hk.out
    have HM := Lib.hid hm.out
    have HO := Lib.hid ho.out
    have HB := Lib.hid hb.out
    clear hk hm ho hb HO0
    cases gk with
    | zero =>
      have hlt : ¬ ((k : Int) < (s : Int)) := by have := HK.out; omega
      have HO9 := Lib.hid (show wr.ownsRow w2.heap.size 5 1 u6 ((le8 n).take s).length (bys ((le8 n).take s)) by
        have h := HO.out
        rw [show k = s by have := HK.out; omega] at h; exact h)
      go_wp2
      refine bodyPost_ret (results_tmp2 rfl _ _ _) rfl ?_
      exact ⟨⟨_, _, rfl, HO9.out⟩, HB.out⟩
    | succ g =>
      have hlt : ((k : Int) < (s : Int)) := by have := HK.out; omega
      have hmb : m ≤ 18446744073709551615 := by rw [HM.out]; exact Nat.le_trans (Nat.div_le_self _ _) HN.out
      obtain ⟨z, hz⟩ : ∃ z : Int, (m : Int) = z := ⟨_, rfl⟩
      have HZ := Lib.hid hz
      rw [hz]
      have z0 : 0 ≤ z := by omega
      have z1 : z < 18446744073709551616 := by omega
      have hkl : k < 8 := by have := HK.out; have := HSb.out; omega
      clear hz hmb
      have hr1 : IntKind.u64.wrap (z.tmod 256) = z % 256 := by rw [Int.tmod_eq_emod_of_nonneg z0, IntKind.wrap_u64]; omega
      have hr2 : IntKind.u8.wrap (z % 256) = z % 256 := by rw [IntKind.wrap_u8]; omega
      have hr3 : IntKind.u64.wrap (z.tdiv 256) = z / 256 := by rw [Int.tdiv_eq_ediv_of_nonneg z0, IntKind.wrap_u64]; omega
      obtain ⟨X, hX⟩ : ∃ X, X = (le8 n).take k := ⟨_, rfl⟩
      obtain ⟨Z, hZ⟩ : ∃ Z, Z = (le8 n).take (k + 1) := ⟨_, rfl⟩
      have HXZ := Lib.hid (show X ++ [m % 256] = Z by rw [hX, hZ]; exact le8_next n k m hkl HM.out)
      have HOx := Lib.hid (show wr.ownsRow w2.heap.size 5 1 u6 X.length (bys X) by rw [hX]; exact HO.out)
      have HXl := Lib.hid (show X.length + [m % 256].length ≤ 140737488355328 by rw [hX, List.length_take]; simp; omega)
      have HYb := Lib.hid (byte_at wr (m % 256) (z % 256) (by have := HZ.out; omega) (by omega))
      have HOa := Lib.hid (HOx.out.alloc (.cells #[.int .u8 (z % 256)] 5))
      have HBa := Lib.hid (show Below w2.heap.size w2 (wr.alloc (.cells #[.int .u8 (z % 256)] 5)) from HB.out.alloc HB.out.size _)
      have HZe := Lib.hid hZ
      clear hX hZ HO HOx hkl
      go_wp2_with (at_builtin; refine appB w2.heap.size rfl (.tmp 16) (.tmp 20) 157 5 rfl Tryz.underlying157 infoB u6 _ X [m % 256] Z HXZ.out rfl rfl HOa.out HYb.out HBa.out.size HXl.out ?_)
      intro v4 w4 ho4 hb4 hg4
      have HO4 := Lib.hid ho4.out
      have HB4 := Lib.hid (hb4.out w2.heap.size w2 HBa.out (Nat.le_refl _))
      clear ho4 hb4 hg4 HOa HYb HBa
      go_wp2
      go_roundg g
      case measure => omega
      case rel =>
        refine ⟨k + 1, m / 256, by show _ = _; have := HK.out; omega, congrArg (Value.int .u64) (by have := HZ.out; omega), ?_, congrArg (Value.int .i64) (by have h1 := HK.out; have h2 := HSb.out; unfold wrap64; omega), by rw [← HZe.out]; exact HO4.out, HB4.out⟩
        show _ = _
        rw [HM.out, Nat.div_div_eq_div_mul, Nat.pow_succ]

set_option maxRecDepth 100000 in
set_option maxHeartbeats 1600000 in
theorem num_any (s n : Nat) (hs : s = 2 ∨ s = 8) (hn : n ≤ 18446744073709551615) (w : World) :
    Calls Tryz.prog 159 #[.int .u64 (n : Int), .int .i64 (s : Int)] w fun e w' => ∃ v', e = .returned v' ∧ w'.ownsRow w.heap.size 5 1 v' ((le8 n).take s).length (bys ((le8 n).take s)) ∧ Below w.heap.size w w' := by
  have HP := Lib.hid (put_any s n hs hn w)
  clear hs hn
  go_enter Tryz.func159, Tryz.ntmps159
  go_wp2_with fail
  with_reducible refine HP.out.mono ?_
  rintro e w2 ⟨⟨v2, b2, rfl, ho2⟩, hb2⟩
  dsimp only
  have HO2 := Lib.hid ho2
  have HB2 := Lib.hid hb2
  clear HP ho2 hb2
  go_wp2
  go_ret
  exact ⟨v2, rfl, HO2.out, HB2.out⟩
end Go.Proofs.YthnbnckmeffkmaaGreat
/- A drawn region within a round: walked by the laws of the plain calculus. Nothing of the dump stands here. -/
namespace Go.Proofs.YthnbnckmeffkmaaGreat
open Go.RowKit Go.Lib
set_option linter.unusedVariables false
theorem rowsIn_wide {n : Nat} {P : Program} {row : String} {args : Array Value} {w : World} {R : Value → World → Prop} (h : Rows P row args w R) : RowsIn Fence.wide n P row args w R :=
  fun c cs _ => let ⟨v, w', r, s⟩ := h c cs; ⟨v, w', r, stepsIn_wide.2 s⟩
section
variable {P : Program} {ops : Array Oper} {Q : Exit → Act → World → Prop} {md : Region.Mode} {n l : Nat}
theorem operIn_of {o : Oper} {a : Act} {w : World} {K : Act → World → Prop} (hd : ∀ c, o.op ≠ .defer c) (h : o.wp P a w K Q) : o.wpIn (Fence.wide.inRound l) n P a w K Q := by
  refine ⟨fun _ _ => trivial, ?_⟩
  rw [show (Fence.wide.inRound l).round = some l from rfl, Oper.semAt_some l _ _ hd]
  unfold Oper.wp at h
  generalize (execOp a.eval o).run P w = r at h ⊢
  cases r with
  | ok x w' =>
    cases x
    case enter f args =>
      refine ⟨(fun h => by cases h), ?_⟩
      refine CallsIn.inRound (F := Fence.wide) l (callsIn_wide.2 (Calls.mono h ?_))
      intro e w'' he
      cases e <;> exact he
    case row row args => exact ⟨(fun h => by cases h), rowsIn_wide (Rows.mono h (fun _ _ he => he))⟩
    case round l f tmps assign body => exact h.elim
    all_goals exact h
  | halt x w' => cases x <;> exact h
theorem operInW {o : Oper} {a : Act} {w : World} {K : Act → World → Prop} (h : o.wp P a w K Q) : o.wpIn Fence.wide n P a w K Q := by
  refine ⟨fun _ _ => trivial, ?_⟩
  rw [show Fence.wide.round = none from rfl, Oper.semAt_none]
  unfold Oper.wp at h
  generalize (execOp a.eval o).run P w = r at h ⊢
  cases r with
  | ok x w' =>
    cases x
    case enter f args =>
      refine ⟨(fun h => by cases h), ?_⟩
      refine callsIn_wide.2 (Calls.mono h ?_)
      intro e w'' he
      cases e <;> exact he
    case row row args => exact ⟨(fun h => by cases h), rowsIn_wide (Rows.mono h (fun _ _ he => he))⟩
    case round l f tmps assign body => exact h.elim
    all_goals exact h
  | halt x w' => cases x <;> exact h
theorem listIn_of {rest : List Oper} {o : Oper} {a : Act} {w : World} (hg : o.guard = none) (h : ∀ K : Act → World → Prop, (∀ a w, wpListIn Fence.wide n P ops Q rest a w → K a w) → o.wp P a w K Q) : wpListIn Fence.wide n P ops Q (o :: rest) a w :=
  wpListIn_plain hg (fun K hK => operInW (h K hK))
theorem wpOpIn_of (hd : ∀ (i : Nat) (o : Oper), ops[i]? = some o → ∀ c, o.op ≠ .defer c) (hQ : ¬ LetsOut Q) {i : Nat} {a : Act} {w : World} {K : Act → World → Prop} (h : wpOp P ops Q i K a w) : wpOpIn (Fence.wide.inRound l) n P ops Q i K a w := by
  unfold wpOp at h
  unfold wpOpIn
  cases ho : ops[i]? with
  | none => simpa [ho] using h
  | some o =>
    simp only [ho] at h ⊢
    by_cases hw : Region.wanted o (yielded ops a.tmps) = true
    · rw [if_pos hw] at h ⊢
      rcases h with h | h
      · exact operIn_of (hd i o ho) h
      · exact absurd h.2 hQ
    · rw [if_neg hw] at h ⊢
      exact ⟨fun _ _ => trivial, h⟩
theorem wpAnyIn_of (hd : ∀ (i : Nat) (o : Oper), ops[i]? = some o → ∀ c, o.op ≠ .defer c) (hQ : ¬ LetsOut Q) : ∀ (fuel : Nat) (listed : Array Bool) (a : Act) (w : World), wpAny P md ops Q fuel listed a w → wpAnyIn (Fence.wide.inRound l) n P md ops Q fuel listed a w
  | 0, _, _, _, h => h
  | fuel + 1, _, _, _, h => ⟨h.1, fun i hi => wpOpIn_of hd hQ (wpOp_mono (fun a' w' h' => wpAnyIn_of hd hQ fuel _ a' w' h') (h.2 i hi))⟩
/-- A drawn region in a round. -/
theorem wpInR_region_H (S : World → Prop) {id : Nat} {a : Act} {w : World} {Q' : Exit → Act → World → Prop} (hm : P.follows .mixedOrders = true) (hd : ∀ (i : Nat) (o : Oper), ops[i]? = some o → ∀ c, o.op ≠ .defer c)
    (hQ : ∀ e a w, Q e a w → Q' e a w) (hL : ¬ LetsOut Q)
    (h : wpAnyH P .any ops Q S ops.size (Array.replicate ops.size false) a w.drew) : (Code.region id ops true).wpIn (Fence.wide.inRound l) n P Q' a w :=
  wpIn_mono (wpIn_region_any hm (wpAnyIn_of hd hL _ _ _ _ (wpAny_of_held _ _ _ _ h))) hQ
end
end Go.Proofs.YthnbnckmeffkmaaGreat
