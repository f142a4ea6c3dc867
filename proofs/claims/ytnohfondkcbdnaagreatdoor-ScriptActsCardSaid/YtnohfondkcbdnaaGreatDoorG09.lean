/- tx.pack. -/
import Derived.Test.YtnohfondkcbdnaaGreatDoorG02
import Derived.Test.YtnohfondkcbdnaaGreatDoorG08
import Derived.Test.YtnohfondkcbdnaaGreatDoorG04
namespace Go.Proofs.YtnohfondkcbdnaaGreatDoor
open Go.RowKit Go.Lib
set_option linter.unusedVariables false
set_option linter.unusedSimpArgs false
attribute [local go_sem ↓] Go.wp_at_zero Go.wp_at_succ

/-- An input's bytes, an output's, a transaction's. -/
def inF (i : InM) : List Nat := i.id ++ ((le8 i.k).take 4 ++ ((le8 i.W.length).take 4 ++ i.W))
def outF (o : OutM) : List Nat := le8 o.a ++ o.l
def packF (s : TxM) : List Nat := (le8 s.I.length).take 2 ++ ((s.I.map inF).flatten ++ ((le8 s.O.length).take 2 ++ ((s.O.map outF).flatten ++ le8 s.n)))
theorem le8f (n : Nat) : ((le8 n).take 4).length = 4 := rfl
theorem le8t (n : Nat) : ((le8 n).take 2).length = 2 := rfl
theorem inF_len {w : World} {i : InM} (h : i.ok w) : (inF i).length = 40 + i.W.length := by
  simp only [inF, List.length_append, le8f, h.id.1]; omega
theorem outF_len {o : OutM} (h : o.ok) : (outF o).length = 40 := by
  simp only [outF, List.length_append, h.l.1]; rfl
theorem ins_len {w : World} : ∀ (I : List InM), (∀ i ∈ I, i.ok w ∧ i.W.length ≤ 256) → (I.map inF).flatten.length ≤ 296 * I.length
  | [], _ => by simp
  | i :: r, h => by
    have h1 := inF_len (h i (by simp)).1
    have h2 := (h i (by simp)).2
    have h3 := ins_len r (fun j hj => h j (by simp [hj]))
    simp only [List.map_cons, List.flatten_cons, List.length_append, List.length_cons]
    omega
theorem outs_len : ∀ (O : List OutM), (∀ o ∈ O, o.ok) → (O.map outF).flatten.length = 40 * O.length
  | [], _ => by simp
  | i :: r, h => by
    have h1 := outF_len (h i (by simp))
    have h3 := outs_len r (fun j hj => h j (by simp [hj]))
    simp only [List.map_cons, List.flatten_cons, List.length_append, List.length_cons]
    omega
theorem inF_lt {w : World} {i : InM} (h : i.ok w) : ∀ x ∈ inF i, x < 256 := by
  intro x hx
  simp only [inF, List.mem_append] at hx
  rcases hx with hx | hx | hx | hx
  · exact h.id.2 x hx
  · exact le8_lt _ x (List.mem_of_mem_take hx)
  · exact le8_lt _ x (List.mem_of_mem_take hx)
  · exact h.W.1 x hx
theorem outF_lt {o : OutM} (h : o.ok) : ∀ x ∈ outF o, x < 256 := by
  intro x hx
  simp only [outF, List.mem_append] at hx
  rcases hx with hx | hx
  · exact le8_lt _ x hx
  · exact h.l.2 x hx
theorem packF_lt {w : World} {s : TxM} (h : s.ok w) : ∀ x ∈ packF s, x < 256 := by
  intro x hx
  simp only [packF, List.mem_append] at hx
  rcases hx with hx | hx | hx | hx | hx
  · exact le8_lt _ x (List.mem_of_mem_take hx)
  · obtain ⟨l, hl, hx⟩ := List.mem_flatten.1 hx
    obtain ⟨i, hi, rfl⟩ := List.mem_map.1 hl
    exact inF_lt (h.I.1 i hi) x hx
  · exact le8_lt _ x (List.mem_of_mem_take hx)
  · obtain ⟨l, hl, hx⟩ := List.mem_flatten.1 hx
    obtain ⟨i, hi, rfl⟩ := List.mem_map.1 hl
    exact outF_lt (h.O.1 i hi) x hx
  · exact le8_lt _ x hx
theorem good_len {I : List InM} (h : GoodTo I I.length) : ∀ i ∈ I, i.W.length ≤ 256 := by
  intro i hi
  obtain ⟨j, hj⟩ := List.getElem?_of_mem hi
  exact (h j i (List.getElem?_eq_some_iff.1 hj).1 hj).1
theorem flat_snoc {α : Type} (f : α → List Nat) (l : List α) (k : Nat) (x : α) (h : l[k]? = some x) : ((l.take (k + 1)).map f).flatten = ((l.take k).map f).flatten ++ f x := by
  rw [List.take_add_one, h]; simp
theorem in_id {w : World} {b : Nat} (i : InM) (h : w.rangeAt b 0 i.cells) : w.rangeAt b 0 (bys i.id) := fun j v hv => by
  refine h j v ?_
  unfold InM.cells
  rw [List.getElem?_append_left (List.getElem?_eq_some_iff.1 hv).1]
  exact hv
theorem out_lock {w : World} {b : Nat} {t : TypeId} (o : OutM) (h : Arr w b t o.cells) : w.rangeAt b 1 (bys o.l) := fun j v hv => by
  rw [h.cell]
  unfold OutM.cells
  rw [List.getElem?_append_right (by simp), List.append_nil]
  simpa using hv
theorem size_hash (H : List Nat) (h : H.length = 32) : (Tryz.prog.info? 25).map (·.size) = some (bys H).length := by rw [bys_len, h]; kernel_rfl
theorem Arr.same {w w' : World} {g : Nat} {t : TypeId} {vs : List Value} (h : Arr w g t vs) (e : w'.heap[g]? = w.heap[g]?) : Arr w' g t vs := by
  unfold Arr at *; rw [e]; exact h

set_option maxRecDepth 100000 in
set_option maxHeartbeats 6400000 in
theorem pack_any (s : TxM) (w : World) (hs : s.ok w) (hf : TxForm s) :
    Calls Tryz.prog 93 #[.agg s.cells.toArray] w fun e w' => ∃ v', e = .returned v' ∧ Byts w' v' (packF s) ∧ Low w' v' ∧ Below w.heap.size w w' := by
  obtain ⟨I, hI⟩ : ∃ I, I = s.I := ⟨_, rfl⟩
  obtain ⟨O, hO⟩ : ∃ O, O = s.O := ⟨_, rfl⟩
  obtain ⟨a1, c1, hiv⟩ : ∃ a c, s.iv = .slice a I.length c := by rw [hI]; exact hs.I.2.form
  obtain ⟨a3, c3, hov⟩ : ∃ a c, s.ov = .slice a O.length c := by rw [hO]; exact hs.O.2.form
  have HIs := Lib.hid (show InsIs w (.slice a1 I.length c1) I by rw [← hiv, hI]; exact hs.I)
  have HOs := Lib.hid (show OutsIs w (.slice a3 O.length c3) O by rw [← hov, hO]; exact hs.O)
  have HV := Lib.hid (And.intro hiv (And.intro hov (And.intro hI hO)))
  have HSn := Lib.hid hs.n
  have HLi := Lib.hid (show I.length ≤ 64 ∧ O.length ≤ 64 by rw [hI, hO]; exact ⟨hf.1.2, hf.2.1.2⟩)
  have HWl := Lib.hid (show ∀ i ∈ I, i.W.length ≤ 256 by rw [hI]; exact good_len hf.2.2)
  have HPe := Lib.hid (show packF s = (le8 I.length).take 2 ++ ((I.map inF).flatten ++ ((le8 O.length).take 2 ++ ((O.map outF).flatten ++ le8 s.n))) by rw [hI, hO]; rfl)
  have HPl := Lib.hid (packF_lt hs)
  have hlI : I.length ≤ 9223372036854775807 := HIs.out.2.len
  have hlO : O.length ≤ 9223372036854775807 := HOs.out.2.len
  clear hs hI hO hiv hov hf
  go_enter Tryz.func93, Tryz.ntmps93
  go_upto_region 1 with fail
  have hm := Arr.made w 53 s.cells
  have hb := (Below.refl w.heap.size w).alloc (Nat.le_refl _) (.cells s.cells.toArray 53)
  have HA := Lib.hid hm
  have HB := Lib.hid hb
  clear hm hb
  generalize World.alloc _ _ = w1 at *
  obtain ⟨g1, hg⟩ : ∃ g, w.heap.size = g := ⟨_, rfl⟩
  have HIw := Lib.hid (HIs.out.below HB.out)
  have HOw := Lib.hid (HOs.out.below HB.out)
  have HG1 := Lib.hid hg
  have HGl := Lib.hid (show g1 < w1.heap.size by rw [← hg]; exact HA.out.lt)
  rw [hg] at HA HB ⊢
  clear hg HIs HOs
  have ha := Arr.made w1 137 [.slice none 0 0, .bool false]
  have hb := (Below.refl w1.heap.size w1).alloc (Nat.le_refl _) (.cells [Value.slice none 0 0, .bool false].toArray 137)
  have HW0 := Lib.hid (show WrM _ w1.heap.size [] false from ⟨_, ha, own_nil _ _ _ _⟩)
  have x0 := (HA.out.below hb HGl.out).cell 0
  replace x0 : (w1.alloc (.cells [Value.slice none 0 0, .bool false].toArray 137)).cell? ⟨g1, 0, none⟩ = some s.iv := x0
  rw [HV.out.1] at x0
  have HBa := Lib.hid hb
  obtain ⟨g2, hg2⟩ : ∃ g, w1.heap.size = g := ⟨_, rfl⟩
  have HG2 := Lib.hid hg2
  have HGw := Lib.hid (show g1 < g2 by rw [← hg2]; exact HGl.out)
  obtain ⟨L0, hL0⟩ : ∃ L0, (le8 I.length).take 2 = L0 := ⟨_, rfl⟩
  have HL0 := Lib.hid hL0
  clear ha hb hL0
  go_wp2_with fail
  clear x0
  generalize World.alloc _ _ = w2 at *
  rw [hg2] at HW0 HBa
  clear hg2
  have HCn := Lib.hid (wcount_ok g2 I.length [] L0 HL0.out w2 HW0.out (by have := HLi.out; omega) (by simp))
  with_reducible refine HCn.out.mono ?_
  rintro e w3 ⟨rfl, hw3, hb3⟩
  dsimp only
  have HW3 := Lib.hid hw3
  have HB3 := Lib.hid (HBa.out.trans hb3)
  clear hw3 hb3 HW0 HBa HCn
  have x0 := (HA.out.below HB3.out HGw.out).cell 0
  replace x0 : w3.cell? ⟨g1, 0, none⟩ = some s.iv := x0
  rw [HV.out.1] at x0
  go_wp2
  clear x0
  go_loopg [18] I.length (fun gg v18 wq => ∃ k : Nat, Hid (gg + k = I.length) ∧ v18 = .int .i64 (k : Int) ∧ Hid (WrM wq g2 (L0 ++ ((I.take k).map inF).flatten) false) ∧ Hid (Below g2 w1 wq))
  case atStart => exact ⟨0, rfl, rfl, by show WrM _ _ _ _; simpa using HW3.out, HB3.out⟩
  case round =>
    obtain ⟨k, hk, rfl, hw, hb⟩ := hrel
    have HK := Lib.hid hk.out
    have HWq := Lib.hid hw.out
    have HBq := Lib.hid hb.out
    clear hk hw hb HW3 HB3
    cases gk with
    | zero =>
      have hlt : ¬ ((k : Int) < ((I.length : Nat) : Int)) := by have := HK.out; omega
      have HW9 := Lib.hid (show WrM wr g2 (L0 ++ (I.map inF).flatten) false by
        have hw := HWq.out
        rw [List.take_of_length_le (by have := HK.out; omega)] at hw
        exact hw)
      obtain ⟨LI, hLI⟩ : ∃ L, L0 ++ (I.map inF).flatten = L := ⟨_, rfl⟩
      rw [hLI] at HW9
      obtain ⟨L5, hL5⟩ : ∃ L, LI ++ (le8 O.length).take 2 = L := ⟨_, rfl⟩
      have HLi5 := Lib.hid (show LI.length ≤ 19000 ∧ L5.length ≤ 19002 by
        have h9 := ins_len I (fun i hi => ⟨HIw.out.1 i hi, HWl.out i hi⟩)
        have h8 := HLi.out
        rw [← hL5, ← hLI, ← HL0.out]
        simp only [List.length_append, le8t]
        omega)
      have HL5 := Lib.hid hL5
      have HLI := Lib.hid hLI
      have x1 := (HA.out.below HBq.out HGw.out).cell 1
      replace x1 : wr.cell? ⟨g1, 1, none⟩ = some s.ov := x1
      rw [HV.out.2.1] at x1
      have HCn := Lib.hid (wcount_ok g2 O.length LI L5 HL5.out wr HW9.out (by have := HLi.out; omega) (by have := HLi5.out; omega))
      clear HWq hL5 hLI
      go_wp2_with fail
      with_reducible refine HCn.out.mono ?_
      rintro e w4 ⟨rfl, hw4, hb4⟩
      dsimp only
      have HW4 := Lib.hid hw4
      have HB4 := Lib.hid (HBq.out.trans hb4)
      clear hw4 hb4 HW9 HBq HCn x1
      have x1 := (HA.out.below HB4.out HGw.out).cell 1
      replace x1 : w4.cell? ⟨g1, 1, none⟩ = some s.ov := x1
      rw [HV.out.2.1] at x1
      go_wp2
      clear x1
      go_loopg [44] O.length (fun gg v44 wq => ∃ k : Nat, Hid (gg + k = O.length) ∧ v44 = .int .i64 (k : Int) ∧ Hid (WrM wq g2 (L5 ++ ((O.take k).map outF).flatten) false) ∧ Hid (Below g2 w1 wq))
      case atStart => exact ⟨0, rfl, rfl, by show WrM _ _ _ _; simpa using HW4.out, HB4.out⟩
      case round =>
        obtain ⟨k, hk, rfl, hw, hb⟩ := hrel
        have HK := Lib.hid hk.out
        have HWq := Lib.hid hw.out
        have HBq := Lib.hid hb.out
        clear hk hw hb HW4 HB4
        cases gk with
        | zero =>
          have hlt : ¬ ((k : Int) < ((O.length : Nat) : Int)) := by have := HK.out; omega
          have HW9 := Lib.hid (show WrM wr g2 (L5 ++ (O.map outF).flatten) false by
            have hw := HWq.out
            rw [List.take_of_length_le (by have := HK.out; omega)] at hw
            exact hw)
          obtain ⟨LO, hLO⟩ : ∃ L, L5 ++ (O.map outF).flatten = L := ⟨_, rfl⟩
          rw [hLO] at HW9
          obtain ⟨L6, hL6⟩ : ∃ L, LO ++ le8 s.n = L := ⟨_, rfl⟩
          have HPe2 := Lib.hid (show L6 = packF s by
            rw [HPe.out, ← hL6, ← hLO, ← HL5.out, ← HLI.out, ← HL0.out]
            simp only [List.append_assoc])
          have HLo := Lib.hid (show LO.length ≤ 22000 ∧ L6.length ≤ 22008 ∧ 8 ≤ L6.length by
            have h9 := outs_len O HOw.out.1
            have h8 := HLi.out
            have h7 := HLi5.out
            rw [← hL6, ← hLO]
            simp only [List.length_append, h9, show (le8 s.n).length = 8 from rfl]
            omega)
          have HL6 := Lib.hid hL6
          have x2 := (HA.out.below HBq.out HGw.out).cell 2
          replace x2 : wr.cell? ⟨g1, 2, none⟩ = some (.int .u64 (s.n : Nat)) := x2
          have HCn := Lib.hid (wnum8_ok g2 s.n LO L6 HL6.out wr HW9.out HSn.out (by have := HLo.out; omega))
          clear HWq hL6 hLO
          go_wp2_with fail
          with_reducible refine HCn.out.mono ?_
          rintro e w5 ⟨rfl, hw5, hb5⟩
          dsimp only
          have HB5 := Lib.hid (HBq.out.trans hb5)
          have HEn := Lib.hid (end_ok g2 L6 w5 hw5 (fun e => by have := HLo.out; rw [e] at this; simp at this) (by rw [HPe2.out]; exact HPl.out) (by have := HLo.out; omega))
          have HSz := Lib.hid (show g2 ≤ w5.heap.size from Nat.le_of_lt hw5.lt)
          clear hw5 hb5 HW9 HBq HCn x2
          go_wp2_with fail
          refine HEn.out.mono ?_
          rintro e w6 ⟨v6, rfl, hy6, hlo6, hb6⟩
          dsimp only
          rw [HPe2.out] at hy6
          have HY6 := Lib.hid (And.intro hy6 hlo6)
          have HB6 := Lib.hid (HB.out.trans ((HB5.out.trans (hb6.mono HSz.out)).mono (Nat.le_of_lt HGw.out)))
          clear hy6 hlo6 hb6 HEn HB5
          go_wp2
          go_ret
          exact ⟨v6, rfl, HY6.out.1, HY6.out.2, by rw [HG1.out]; exact HB6.out⟩
        | succ gg =>
          have hkl : k < O.length := by have := HK.out; omega
          have hlt : ((k : Int) < ((O.length : Nat) : Int)) := by omega
          obtain ⟨x, hx⟩ : ∃ x, O[k]? = some x := ⟨_, List.getElem?_eq_getElem hkl⟩
          have hIq := HOw.out.below (w' := wr) (by rw [HG2.out]; exact HBq.out)
          obtain ⟨b1, off1, hab, hl1, hr1⟩ := hIq.2.at hx
          have hox := hIq.1 x (List.mem_of_getElem? hx)
          have HX := Lib.hid hx
          have HOX := Lib.hid hox
          have HRx := Lib.hid hr1
          have HSz := Lib.hid (size_outc x hox)
          have HOne := Lib.hid (out_one hox)
          have HLen := Lib.hid (OutM.cells_len hox)
          obtain ⟨LX, hLX⟩ : ∃ L, L5 ++ ((O.take k).map outF).flatten = L := ⟨_, rfl⟩
          obtain ⟨LA, hLA⟩ : ∃ L, LX ++ le8 x.a = L := ⟨_, rfl⟩
          obtain ⟨LB, hLB⟩ : ∃ L, LA ++ x.l = L := ⟨_, rfl⟩
          have HLe := Lib.hid (show L5 ++ ((O.take (k + 1)).map outF).flatten = LB by
            rw [flat_snoc outF O k x hx, ← hLB, ← hLA, ← hLX]
            simp only [outF, List.append_assoc])
          have HLs := Lib.hid (show LX.length ≤ 22000 ∧ LA.length ≤ 22008 by
            have h9 := outs_len (O.take k) (fun o ho => HOw.out.1 o (List.mem_of_mem_take ho))
            rw [List.length_take] at h9
            have h8 := HLi.out
            have h7 := HLi5.out
            rw [← hLA, ← hLX]
            simp only [List.length_append, h9, show (le8 x.a).length = 8 from rfl]
            omega)
          have HWx := Lib.hid (show WrM wr g2 LX false by rw [← hLX]; exact HWq.out)
          have HL1 := Lib.hid hLA
          have HL2 := Lib.hid hLB
          clear hIq hl1 hr1 hox hx hLX hLA hLB HWq
          subst hab
          go_upto_region 10 with fail
          go_step
          iterate 3 (first | go_values | go_skip | go_guarded | go_step | go_upon)
          refine wpList_load_mid (P := Tryz.prog) rfl 88 _ rfl b1 (off1 + k * 33) rfl _ _ HRx.out Tryz.underlying88 rfl HSz.out ?_
          iterate 3 (first | go_values | go_skip | go_guarded | go_step | go_upon)
          refine wpList_store_box (P := Tryz.prog) rfl 88 _ _ rfl wr _ x.cells rfl rfl (by rw [HLen.out]; rfl) HSz.out HOne.out ?_
          intro w7 ha7 hb7
          have HA7 := Lib.hid ha7.out
          have HW7 := Lib.hid (HWx.out.at (q := wr.heap.size) (Nat.le_refl _) hb7.out ha7.out.lt)
          have HB7 := Lib.hid (HBq.out.trans (hb7.out.mono (Nat.le_of_lt HWx.out.lt)))
          clear ha7 hb7 HWx HBq HRx
          obtain ⟨q, hq⟩ : ∃ q, wr.heap.size = q := ⟨_, rfl⟩
          rw [hq] at HA7 HW7 ⊢
          clear hq
          go_upto_region 11 with fail
          have HS0 := Lib.hid (show Arr w7.drew q 88 x.cells from HA7.out)
          have HW8 := Lib.hid (show WrQ w7.drew g2 q LX false from HW7.out)
          have HB8 := Lib.hid HB7.out.drew
          clear HA7 HW7 HB7
          refine wp_region_H (fun w' => Arr w' q 88 x.cells) (by kernel_rfl) ?_
          generalize w7.drew = w8 at *
          simp only [List.size_toArray, List.length_cons, List.length_nil, Nat.reduceAdd, Array.replicate_succ, Array.replicate_zero, List.push_toArray, List.nil_append, List.cons_append]
          refine wpAnyH_take (i := 0) (oi := ⟨some 48, _, _, _, _, _⟩) (v := ?_) rfl (by kernel_rfl) (by kernel_rfl) (by kernel_rfl) (fun _ _ _ h => h) (Or.inl ⟨by rfl, ?_⟩) HS0.out ?_
          rotate_left
          · intro w hSw
            go_simp <;> with_reducible rfl
          dsimp only [Act.put]
          simp only [List.setIfInBounds_toArray, List.set_cons_zero, List.set_cons_succ]
          refine wpAnyH_take (i := 1) (oi := ⟨some 49, _, _, _, _, _⟩) (v := ?_) rfl (by kernel_rfl) (by kernel_rfl) (by kernel_rfl) (fun _ _ _ h => h) (Or.inl ⟨by rfl, ?_⟩) HS0.out ?_
          rotate_left
          · intro w hSw
            go_simp <;> with_reducible rfl
          dsimp only [Act.put]
          simp only [List.setIfInBounds_toArray, List.set_cons_zero, List.set_cons_succ]
          refine wpAnyH_take (i := 2) (oi := ⟨some 50, _, _, _, _, _⟩) (v := .int .u64 (x.a : Nat)) rfl (by kernel_rfl) (by kernel_rfl) (by kernel_rfl) (fun _ _ _ h => h) (Or.inl ⟨by rfl, ?_⟩) HS0.out ?_
          · intro w hSw
            have hq : w.cell? ⟨q, 0, none⟩ = some (.int .u64 (x.a : Nat)) := hSw.cell 0
            go_simp <;> with_reducible rfl
          dsimp only [Act.put]
          simp only [List.setIfInBounds_toArray, List.set_cons_zero, List.set_cons_succ]
          refine wpAnyH_take (i := 4) (oi := ⟨some 52, _, _, _, _, _⟩) (v := ?_) rfl (by kernel_rfl) (by kernel_rfl) (by kernel_rfl) (fun _ _ _ h => h) (Or.inl ⟨by rfl, ?_⟩) HS0.out ?_
          rotate_left
          · intro w hSw
            go_simp <;> with_reducible rfl
          dsimp only [Act.put]
          simp only [List.setIfInBounds_toArray, List.set_cons_zero, List.set_cons_succ]
          refine wpAnyH_take (i := 5) (oi := ⟨some 53, _, _, _, _, _⟩) rfl (by kernel_rfl) (by kernel_rfl) (by kernel_rfl) (fun _ _ _ h => h) (yieldsIf_load_mid (by rfl) 25 (.tmp 52) rfl (q) (1) rfl (bys x.l) _ (fun w h => (out_lock x h)) Tryz.underlying25 rfl (size_hash _ HOX.out.l.1)) HS0.out ?_
          dsimp only [Act.put]
          simp only [List.setIfInBounds_toArray, List.set_cons_zero, List.set_cons_succ]
          refine wpAnyH_one (i := 3) (oi := ⟨some 51, _, _, _, _, _⟩) (by kernel_rfl) rfl (by rfl) (fun K9 hK9 => ?_)
          have HK9 := Lib.hid hK9
          clear hK9
          go_simp
          refine (wnumq8_ok g2 q x.a LX LA HL1.out w8 HW8.out HOX.out.a (by have := HLs.out; omega)).mono ?_
          rintro e w1 ⟨rfl, hk1⟩
          dsimp only
          have HS0n := Lib.hid (HS0.out.same hk1.2.2)
          have HK1 := Lib.hid (show KeptQ g2 q LA w8 w1 from hk1)
          clear HS0 hk1
          have HS0 := HS0n
          clear HS0n
          refine HK9.out _ _ HS0.out ?_
          clear HK9
          simp only [List.setIfInBounds_toArray, List.set_cons_zero, List.set_cons_succ]
          refine wpAnyH_one (i := 6) (oi := ⟨some 54, _, _, _, _, _⟩) (by kernel_rfl) rfl (by rfl) (fun K9 hK9 => ?_)
          have HK9 := Lib.hid hK9
          clear hK9
          go_simp
          refine (whashq_ok g2 q LA x.l LB HL2.out HOX.out.l w1 HK1.out.1 (by have := HLs.out; omega)).mono ?_
          rintro e w2 ⟨rfl, hk2⟩
          dsimp only
          have HS0n := Lib.hid (HS0.out.same hk2.2.2)
          have HK2 := Lib.hid (show KeptQ g2 q LB w8 w2 from HK1.out.next hk2)
          clear HS0 hk2
          have HS0 := HS0n
          clear HS0n
          refine HK9.out _ _ HS0.out ?_
          clear HK9
          simp only [List.setIfInBounds_toArray, List.set_cons_zero, List.set_cons_succ]
          refine wpAnyH_done (by kernel_rfl) ?_ _
          have HB9 := Lib.hid (HB8.out.trans HK2.out.2.1)
          have HW9 := Lib.hid HK2.out.1.wr
          clear HK1 HK2 HS0 HW8 HB8
          go_wp2
          go_roundg gg
          case measure => omega
          case rel => exact ⟨k + 1, by show _ = _; have := HK.out; omega, by go_num, by show WrM _ _ _ _; rw [HLe.out]; exact HW9.out, HB9.out⟩
    | succ gg =>
      have hkl : k < I.length := by have := HK.out; omega
      have hlt : ((k : Int) < ((I.length : Nat) : Int)) := by omega
      obtain ⟨x, hx⟩ : ∃ x, I[k]? = some x := ⟨_, List.getElem?_eq_getElem hkl⟩
      have hIq := HIw.out.below (w' := wr) (by rw [HG2.out]; exact HBq.out)
      obtain ⟨b1, off1, hab, hl1, hr1⟩ := hIq.2.at hx
      have hox := hIq.1 x (List.mem_of_getElem? hx)
      obtain ⟨a4, c4, hwv⟩ : ∃ a c, x.wv = .slice a x.W.length c := hox.W.form
      have hW1 : Byts w1 (.slice a4 x.W.length c4) x.W := by rw [← hwv]; exact (HIw.out.1 x (List.mem_of_getElem? hx)).W
      have HX := Lib.hid hx
      have HOX := Lib.hid hox
      have HWv := Lib.hid hwv
      have HRx := Lib.hid hr1
      have HSz := Lib.hid (show (Tryz.prog.info? 75).map (·.size) = some x.cells.length by rw [InM.cells_len hox]; exact size_in)
      have HOne := Lib.hid (in_one hox)
      have HLen := Lib.hid (InM.cells_len hox)
      have HWk := Lib.hid (show IntKind.u64.wrap ((x.k : Nat) : Int) = ((x.k : Nat) : Int) by rw [IntKind.wrap_u64]; have := hox.k; omega)
      have HSep0 := Lib.hid (show ∀ w', Below g2 w1 w' → Byts w' (.slice a4 x.W.length c4) x.W from fun w' hb' => hW1.below (by rw [HG2.out]; exact hb'))
      have HWl1 := Lib.hid (HWl.out x (List.mem_of_getElem? hx))
      have HLow := Lib.hid (show x.W ≠ [] → ∀ ad, a4 = some ad → ad.block ≠ g2 from byts_off hW1 (by rw [HG2.out]; exact Nat.le_refl _))
      obtain ⟨LX, hLX⟩ : ∃ L, L0 ++ ((I.take k).map inF).flatten = L := ⟨_, rfl⟩
      obtain ⟨LA, hLA⟩ : ∃ L, LX ++ x.id = L := ⟨_, rfl⟩
      obtain ⟨LB, hLB⟩ : ∃ L, LA ++ (le8 x.k).take 4 = L := ⟨_, rfl⟩
      obtain ⟨LC, hLC⟩ : ∃ L, LB ++ ((le8 x.W.length).take 4 ++ x.W) = L := ⟨_, rfl⟩
      have HLe := Lib.hid (show L0 ++ ((I.take (k + 1)).map inF).flatten = LC by
        rw [flat_snoc inF I k x hx, ← hLC, ← hLB, ← hLA, ← hLX]
        simp only [inF, List.append_assoc])
      have HLs := Lib.hid (show LX.length ≤ 19000 ∧ LA.length ≤ 19032 ∧ LB.length ≤ 19036 ∧ x.W.length ≤ 256 by
        have h9 := ins_len (I.take k) (fun o ho => ⟨HIw.out.1 o (List.mem_of_mem_take ho), HWl.out o (List.mem_of_mem_take ho)⟩)
        rw [List.length_take] at h9
        have h8 := HLi.out
        have h6 := HWl1.out
        rw [← hLB, ← hLA, ← hLX, ← HL0.out]
        simp only [List.length_append, le8f, le8t, HOX.out.id.1]
        omega)
      have HWx := Lib.hid (show WrM wr g2 LX false by rw [← hLX]; exact HWq.out)
      have HL1 := Lib.hid hLA
      have HL2 := Lib.hid hLB
      have HL3 := Lib.hid hLC
      clear hIq hl1 hr1 hox hx hLX hLA hLB hLC HWq hwv hW1
      subst hab
      go_upto_region 4 with fail
      go_step
      iterate 3 (first | go_values | go_skip | go_guarded | go_step | go_upon)
      refine wpList_load_mid (P := Tryz.prog) rfl 75 _ rfl b1 (off1 + k * 34) rfl _ _ HRx.out Tryz.underlying75 rfl HSz.out ?_
      iterate 3 (first | go_values | go_skip | go_guarded | go_step | go_upon)
      refine wpList_store_box (P := Tryz.prog) rfl 75 _ _ rfl wr _ x.cells rfl rfl (by rw [HLen.out]; rfl) HSz.out HOne.out ?_
      intro w7 ha7 hb7
      have HA7 := Lib.hid ha7.out
      have HW7 := Lib.hid (HWx.out.at (q := wr.heap.size) (Nat.le_refl _) hb7.out ha7.out.lt)
      have HB7 := Lib.hid (HBq.out.trans (hb7.out.mono (Nat.le_of_lt HWx.out.lt)))
      clear ha7 hb7 HWx HBq HRx
      obtain ⟨q, hq⟩ : ∃ q, wr.heap.size = q := ⟨_, rfl⟩
      rw [hq] at HA7 HW7 ⊢
      clear hq
      go_upto_region 5 with fail
      have HS0 := Lib.hid (show Arr w7.drew q 75 x.cells from HA7.out)
      have HW8 := Lib.hid (show WrQ w7.drew g2 q LX false from HW7.out)
      have HB8 := Lib.hid HB7.out.drew
      clear HA7 HW7 HB7
      refine wp_region_H (fun w' => Arr w' q 75 x.cells) (by kernel_rfl) ?_
      generalize w7.drew = w8 at *
      have HSep := Lib.hid (show ∀ w', Below g2 w8 w' → Byts w' (.slice a4 x.W.length c4) x.W from fun w' hb' => HSep0.out w' (HB8.out.trans hb'))
      simp only [List.size_toArray, List.length_cons, List.length_nil, Nat.reduceAdd, Array.replicate_succ, Array.replicate_zero, List.push_toArray, List.nil_append, List.cons_append]
      refine wpAnyH_take (i := 0) (oi := ⟨some 22, _, _, _, _, _⟩) (v := ?_) rfl (by kernel_rfl) (by kernel_rfl) (by kernel_rfl) (fun _ _ _ h => h) (Or.inl ⟨by rfl, ?_⟩) HS0.out ?_
      rotate_left
      · intro w hSw
        go_simp <;> with_reducible rfl
      dsimp only [Act.put]
      simp only [List.setIfInBounds_toArray, List.set_cons_zero, List.set_cons_succ]
      refine wpAnyH_take (i := 1) (oi := ⟨some 23, _, _, _, _, _⟩) (v := ?_) rfl (by kernel_rfl) (by kernel_rfl) (by kernel_rfl) (fun _ _ _ h => h) (Or.inl ⟨by rfl, ?_⟩) HS0.out ?_
      rotate_left
      · intro w hSw
        go_simp <;> with_reducible rfl
      dsimp only [Act.put]
      simp only [List.setIfInBounds_toArray, List.set_cons_zero, List.set_cons_succ]
      refine wpAnyH_take (i := 2) (oi := ⟨some 24, _, _, _, _, _⟩) (v := ?_) rfl (by kernel_rfl) (by kernel_rfl) (by kernel_rfl) (fun _ _ _ h => h) (Or.inl ⟨by rfl, ?_⟩) HS0.out ?_
      rotate_left
      · intro w hSw
        go_simp <;> with_reducible rfl
      dsimp only [Act.put]
      simp only [List.setIfInBounds_toArray, List.set_cons_zero, List.set_cons_succ]
      refine wpAnyH_take (i := 3) (oi := ⟨some 25, _, _, _, _, _⟩) rfl (by kernel_rfl) (by kernel_rfl) (by kernel_rfl) (fun _ _ _ h => h) (yieldsIf_load_mid (by rfl) 25 (.tmp 24) rfl (q) (0) rfl (bys x.id) _ (fun w h => (in_id x h.range)) Tryz.underlying25 rfl (size_hash _ HOX.out.id.1)) HS0.out ?_
      dsimp only [Act.put]
      simp only [List.setIfInBounds_toArray, List.set_cons_zero, List.set_cons_succ]
      refine wpAnyH_take (i := 5) (oi := ⟨some 27, _, _, _, _, _⟩) (v := ?_) rfl (by kernel_rfl) (by kernel_rfl) (by kernel_rfl) (fun _ _ _ h => h) (Or.inl ⟨by rfl, ?_⟩) HS0.out ?_
      rotate_left
      · intro w hSw
        go_simp <;> with_reducible rfl
      dsimp only [Act.put]
      simp only [List.setIfInBounds_toArray, List.set_cons_zero, List.set_cons_succ]
      refine wpAnyH_take (i := 6) (oi := ⟨some 28, _, _, _, _, _⟩) (v := ?_) rfl (by kernel_rfl) (by kernel_rfl) (by kernel_rfl) (fun _ _ _ h => h) (Or.inl ⟨by rfl, ?_⟩) HS0.out ?_
      rotate_left
      · intro w hSw
        go_simp <;> with_reducible rfl
      dsimp only [Act.put]
      simp only [List.setIfInBounds_toArray, List.set_cons_zero, List.set_cons_succ]
      refine wpAnyH_take (i := 7) (oi := ⟨some 29, _, _, _, _, _⟩) (v := .int .u32 (x.k : Nat)) rfl (by kernel_rfl) (by kernel_rfl) (by kernel_rfl) (fun _ _ _ h => h) (Or.inl ⟨by rfl, ?_⟩) HS0.out ?_
      · intro w hSw
        have hq := in_num x HOX.out.id hSw.range
        rw [Nat.zero_add] at hq
        go_simp <;> with_reducible rfl
      dsimp only [Act.put]
      simp only [List.setIfInBounds_toArray, List.set_cons_zero, List.set_cons_succ]
      refine wpAnyH_take (i := 8) (oi := ⟨some 30, _, _, _, _, _⟩) (v := .int .u64 (x.k : Nat)) rfl (by kernel_rfl) (by kernel_rfl) (by kernel_rfl) (fun _ _ _ h => h) (Or.inl ⟨by rfl, ?_⟩) HS0.out ?_
      · intro w hSw
        have hq := HWk.out
        go_simp <;> with_reducible rfl
      dsimp only [Act.put]
      simp only [List.setIfInBounds_toArray, List.set_cons_zero, List.set_cons_succ]
      refine wpAnyH_take (i := 10) (oi := ⟨some 32, _, _, _, _, _⟩) (v := ?_) rfl (by kernel_rfl) (by kernel_rfl) (by kernel_rfl) (fun _ _ _ h => h) (Or.inl ⟨by rfl, ?_⟩) HS0.out ?_
      rotate_left
      · intro w hSw
        go_simp <;> with_reducible rfl
      dsimp only [Act.put]
      simp only [List.setIfInBounds_toArray, List.set_cons_zero, List.set_cons_succ]
      refine wpAnyH_take (i := 11) (oi := ⟨some 33, _, _, _, _, _⟩) (v := .slice a4 x.W.length c4) rfl (by kernel_rfl) (by kernel_rfl) (by kernel_rfl) (fun _ _ _ h => h) (Or.inl ⟨by rfl, ?_⟩) HS0.out ?_
      · intro w hSw
        have hq := in_wit x HOX.out.id hSw.range
        rw [Nat.zero_add, HWv.out] at hq
        go_simp <;> with_reducible rfl
      dsimp only [Act.put]
      simp only [List.setIfInBounds_toArray, List.set_cons_zero, List.set_cons_succ]
      refine wpAnyH_one (i := 4) (oi := ⟨some 26, _, _, _, _, _⟩) (by kernel_rfl) rfl (by rfl) (fun K9 hK9 => ?_)
      have HK9 := Lib.hid hK9
      clear hK9
      go_simp
      refine (whashq_ok g2 q LX x.id LA HL1.out HOX.out.id w8 HW8.out (by have := HLs.out; omega)).mono ?_
      rintro e w1 ⟨rfl, hk1⟩
      dsimp only
      have HS0n := Lib.hid (HS0.out.same hk1.2.2)
      have HK1 := Lib.hid (show KeptQ g2 q LA w8 w1 from hk1)
      clear HS0 hk1
      have HS0 := HS0n
      clear HS0n
      refine HK9.out _ _ HS0.out ?_
      clear HK9
      simp only [List.setIfInBounds_toArray, List.set_cons_zero, List.set_cons_succ]
      refine wpAnyH_one (i := 9) (oi := ⟨some 31, _, _, _, _, _⟩) (by kernel_rfl) rfl (by rfl) (fun K9 hK9 => ?_)
      have HK9 := Lib.hid hK9
      clear hK9
      go_simp
      refine (wnumq4_ok g2 q x.k LA LB HL2.out w1 HK1.out.1 HOX.out.k (by have := HLs.out; omega)).mono ?_
      rintro e w2 ⟨rfl, hk2⟩
      dsimp only
      have HS0n := Lib.hid (HS0.out.same hk2.2.2)
      have HK2 := Lib.hid (show KeptQ g2 q LB w8 w2 from HK1.out.next hk2)
      clear HS0 hk2
      have HS0 := HS0n
      clear HS0n
      refine HK9.out _ _ HS0.out ?_
      clear HK9
      simp only [List.setIfInBounds_toArray, List.set_cons_zero, List.set_cons_succ]
      refine wpAnyH_one (i := 12) (oi := ⟨some 34, _, _, _, _, _⟩) (by kernel_rfl) rfl (by rfl) (fun K9 hK9 => ?_)
      have HK9 := Lib.hid hK9
      clear hK9
      go_simp
      refine (wblobq_ok g2 q LB x.W LC HL3.out a4 c4 w2 HK2.out.1 HLow.out (fun w' hb' => HSep.out w' (HK2.out.2.1.trans hb')) (by have := HLs.out; omega) (by have := HLs.out; omega)).mono ?_
      rintro e w3 ⟨rfl, hk3⟩
      dsimp only
      have HS0n := Lib.hid (HS0.out.same hk3.2.2)
      have HK3 := Lib.hid (show KeptQ g2 q LC w8 w3 from HK2.out.next hk3)
      clear HS0 hk3
      have HS0 := HS0n
      clear HS0n
      refine HK9.out _ _ HS0.out ?_
      clear HK9
      simp only [List.setIfInBounds_toArray, List.set_cons_zero, List.set_cons_succ]
      refine wpAnyH_done (by kernel_rfl) ?_ _
      have HB9 := Lib.hid (HB8.out.trans HK3.out.2.1)
      have HW9 := Lib.hid HK3.out.1.wr
      clear HK1 HK2 HK3 HS0 HW8 HB8 HSep
      go_wp2
      go_roundg gg
      case measure => omega
      case rel => exact ⟨k + 1, by show _ = _; have := HK.out; omega, by go_num, by show WrM _ _ _ _; rw [HLe.out]; exact HW9.out, HB9.out⟩
end Go.Proofs.YtnohfondkcbdnaaGreatDoor
/- plexusref01.Put and Num, of size 4. -/
namespace Go.Proofs.YtnohfondkcbdnaaGreatDoor
open Go.RowKit Go.Lib
set_option linter.unusedVariables false
set_option linter.unusedSimpArgs false
attribute [local go_sem ↓] Go.wp_at_zero Go.wp_at_succ

theorem r1size4 (s : Nat) (hs : s = 4) (w : World) : Calls Tryz.prog 103 #[.int .i64 (s : Int)] w fun e w' => e = .returned (.bool true) ∧ w' = w := by
  subst hs
  go_enter Tryz.func103, Tryz.ntmps103
  go_wp2
  go_ret
  exact ⟨rfl, rfl⟩
set_option maxRecDepth 100000 in
set_option maxHeartbeats 1600000 in
theorem put4s (s n : Nat) (hs : s = 4) (hn : n ≤ 18446744073709551615) (w : World) :
    Calls Tryz.prog 91 #[.int .u64 (n : Int), .int .i64 (s : Int)] w fun e w' => PutR w.heap.size ((le8 n).take s) e w' ∧ Below w.heap.size w w' := by
  have HSz := Lib.hid hs
  have HN := Lib.hid hn
  have hsb : s ≤ 8 := by omega
  have HSb := Lib.hid hsb
  clear hs hn hsb
  go_enter Tryz.func91, Tryz.ntmps91
  go_wp2_with fail
  with_reducible refine (r1size4 s HSz.out w).mono ?_
  rintro e w2 ⟨rfl, rfl⟩
  dsimp only
  have HO0 := Lib.hid (show w2.ownsRow w2.heap.size 5 1 (.slice none 0 0) ([] : List Nat).length (bys []) from own_nil _ _ _ _)
  go_wp2
  go_loopg [0, 6, 7] s (fun g v0 v6 v7 wq => ∃ k m : Nat, Hid (g + k = s) ∧ v0 = .int .u64 (m : Int) ∧ Hid (m = n / 256 ^ k) ∧ v7 = .int .i64 (k : Int) ∧ Hid (wq.ownsRow w2.heap.size 5 1 v6 ((le8 n).take k).length (bys ((le8 n).take k))) ∧ Hid (Below w2.heap.size w2 wq))
  case atStart => exact ⟨0, n, rfl, rfl, by show _ = _; simp, rfl, HO0.out, Below.refl _ _⟩
  case round =>
    obtain ⟨k, m, hk, rfl, hm, rfl, ho, hb⟩ := hrel
    have HK := Lib.hid hk.out
    have HM := Lib.hid hm.out
    have HO := Lib.hid ho.out
    have HB := Lib.hid hb.out
    clear hk hm ho hb HO0
    cases gk with
    | zero =>
      have hlt : ¬ ((k : Int) < (s : Int)) := by have := HK.out; omega
      have HO9 := Lib.hid (show wr.ownsRow w2.heap.size 5 1 u6 ((le8 n).take s).length (bys ((le8 n).take s)) by
        have h := HO.out
        rw [show k = s by have := HK.out; omega] at h; exact h)
      go_wp2
      refine bodyPost_ret (results_tmp2 rfl _ _ _) rfl ?_
      exact ⟨⟨_, _, rfl, HO9.out⟩, HB.out⟩
    | succ g =>
      have hlt : ((k : Int) < (s : Int)) := by have := HK.out; omega
      have hmb : m ≤ 18446744073709551615 := by rw [HM.out]; exact Nat.le_trans (Nat.div_le_self _ _) HN.out
      obtain ⟨z, hz⟩ : ∃ z : Int, (m : Int) = z := ⟨_, rfl⟩
      have HZ := Lib.hid hz
      rw [hz]
      have z0 : 0 ≤ z := by omega
      have z1 : z < 18446744073709551616 := by omega
      have hkl : k < 8 := by have := HK.out; have := HSb.out; omega
      clear hz hmb
      have hr1 : IntKind.u64.wrap (z.tmod 256) = z % 256 := by rw [Int.tmod_eq_emod_of_nonneg z0, IntKind.wrap_u64]; omega
      have hr2 : IntKind.u8.wrap (z % 256) = z % 256 := by rw [IntKind.wrap_u8]; omega
      have hr3 : IntKind.u64.wrap (z.tdiv 256) = z / 256 := by rw [Int.tdiv_eq_ediv_of_nonneg z0, IntKind.wrap_u64]; omega
      obtain ⟨X, hX⟩ : ∃ X, X = (le8 n).take k := ⟨_, rfl⟩
      obtain ⟨Z, hZ⟩ : ∃ Z, Z = (le8 n).take (k + 1) := ⟨_, rfl⟩
      have HXZ := Lib.hid (show X ++ [m % 256] = Z by rw [hX, hZ]; exact le8_next n k m hkl HM.out)
      have HOx := Lib.hid (show wr.ownsRow w2.heap.size 5 1 u6 X.length (bys X) by rw [hX]; exact HO.out)
      have HXl := Lib.hid (show X.length + [m % 256].length ≤ 140737488355328 by rw [hX, List.length_take]; simp; omega)
      have HYb := Lib.hid (byte_at wr (m % 256) (z % 256) (by have := HZ.out; omega) (by omega))
      have HOa := Lib.hid (HOx.out.alloc (.cells #[.int .u8 (z % 256)] 5))
      have HBa := Lib.hid (show Below w2.heap.size w2 (wr.alloc (.cells #[.int .u8 (z % 256)] 5)) from HB.out.alloc HB.out.size _)
      have HZe := Lib.hid hZ
      clear hX hZ HO HOx hkl
      go_wp2_with (at_builtin; refine appB w2.heap.size rfl (.tmp 16) (.tmp 20) 23 5 rfl Tryz.underlying23 infoB u6 _ X [m % 256] Z HXZ.out rfl rfl HOa.out HYb.out HBa.out.size HXl.out ?_)
      intro v4 w4 ho4 hb4 hg4
      have HO4 := Lib.hid ho4.out
      have HB4 := Lib.hid (hb4.out w2.heap.size w2 HBa.out (Nat.le_refl _))
      clear ho4 hb4 hg4 HOa HYb HBa
      go_wp2
      go_roundg g
      case measure => omega
      case rel =>
        refine ⟨k + 1, m / 256, by show _ = _; have := HK.out; omega, congrArg (Value.int .u64) (by have := HZ.out; omega), ?_, congrArg (Value.int .i64) (by have h1 := HK.out; have h2 := HSb.out; unfold wrap64; omega), by rw [← HZe.out]; exact HO4.out, HB4.out⟩
        show _ = _
        rw [HM.out, Nat.div_div_eq_div_mul, Nat.pow_succ]

set_option maxRecDepth 100000 in
set_option maxHeartbeats 1600000 in
theorem num4s (s n : Nat) (hs : s = 4) (hn : n ≤ 18446744073709551615) (w : World) :
    Calls Tryz.prog 59 #[.int .u64 (n : Int), .int .i64 (s : Int)] w fun e w' => ∃ v', e = .returned v' ∧ w'.ownsRow w.heap.size 5 1 v' ((le8 n).take s).length (bys ((le8 n).take s)) ∧ Below w.heap.size w w' := by
  have HP := Lib.hid (put4s s n hs hn w)
  clear hs hn
  go_enter Tryz.func59, Tryz.ntmps59
  go_wp2_with fail
  with_reducible refine HP.out.mono ?_
  rintro e w2 ⟨⟨v2, b2, rfl, ho2⟩, hb2⟩
  dsimp only
  have HO2 := Lib.hid ho2
  have HB2 := Lib.hid hb2
  clear HP ho2 hb2
  go_wp2
  go_ret
  exact ⟨v2, rfl, HO2.out, HB2.out⟩
end Go.Proofs.YtnohfondkcbdnaaGreatDoor
