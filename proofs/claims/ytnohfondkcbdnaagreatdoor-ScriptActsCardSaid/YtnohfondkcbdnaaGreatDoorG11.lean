/- plexusref05.Pack. -/
import Derived.Test.YtnohfondkcbdnaaGreatDoorG10
import Derived.Test.YtnohfondkcbdnaaGreatDoorShelf
namespace Go.Proofs.YtnohfondkcbdnaaGreatDoor
open Go.RowKit Go.Lib
set_option linter.unusedVariables false
set_option linter.unusedSimpArgs false
attribute [local go_sem ↓] Go.wp_at_zero Go.wp_at_succ

theorem below_cell {B : Nat} {w w' : World} (h : Below B w w') {a : Addr} {v : Value} (ha : a.block < B) (hc : w.cell? a = some v) : w'.cell? a = some v := (h.cell ha).trans hc
theorem own_ne {w : World} {B b : Nat} {e : TypeId} {v : Value} {n : Nat} {xs : List Value} (h : w.ownsRow B e 1 v n xs) (hb : w.heap.size ≤ b) : v.ownBlock ≠ some b := fun e => by
  have := (h.lt b e).2
  omega
theorem own_far {w0 w : World} {e : TypeId} {v : Value} {n : Nat} {xs : List Value} {r : Option Nat} (h : w.ownsRow w0.heap.size e 1 v n xs) (hr : ∀ k, r = some k → k < w0.heap.size) : ∀ ad m c, v = .slice (some ad) m c → some ad.block ≠ r := fun ad m c hv e => by
  have h1 := (h.lt ad.block (by rw [hv]; rfl)).1
  have h2 := hr ad.block e.symm
  omega

theorem own_low {w : World} {B : Nat} {e : TypeId} {v : Value} {n : Nat} {xs : List Value} (h : w.ownsRow B e 1 v n xs) : Low w v := fun a m c hv => (h.lt a.block (by rw [hv]; rfl)).2

set_option maxRecDepth 100000 in
set_option maxHeartbeats 12800000 in
theorem rpack_any (s : TxM) (w : World) (hs : s.ok w) (hf : TxForm s) :
    Calls Tryz.prog 37 #[.agg s.cells.toArray] w fun e w' => ∃ v', e = .returned v' ∧ Byts w' v' (packF s) ∧ Low w' v' ∧ Below w.heap.size w w' := by
  obtain ⟨I, hI⟩ : ∃ I, I = s.I := ⟨_, rfl⟩
  obtain ⟨O, hO⟩ : ∃ O, O = s.O := ⟨_, rfl⟩
  obtain ⟨a1, c1, hiv⟩ : ∃ a c, s.iv = .slice a I.length c := by rw [hI]; exact hs.I.2.form
  obtain ⟨a3, c3, hov⟩ : ∃ a c, s.ov = .slice a O.length c := by rw [hO]; exact hs.O.2.form
  have HIs := Lib.hid (show InsIs w (.slice a1 I.length c1) I by rw [← hiv, hI]; exact hs.I)
  have HOs := Lib.hid (show OutsIs w (.slice a3 O.length c3) O by rw [← hov, hO]; exact hs.O)
  have HV := Lib.hid (And.intro hiv (And.intro hov (And.intro hI hO)))
  have HSn := Lib.hid hs.n
  have HLi := Lib.hid (show I.length ≤ 64 ∧ O.length ≤ 64 by rw [hI, hO]; exact ⟨hf.1.2, hf.2.1.2⟩)
  have HWl := Lib.hid (show ∀ i ∈ I, i.W.length ≤ 256 by rw [hI]; exact good_len hf.2.2)
  have HPe := Lib.hid (show packF s = (le8 I.length).take 2 ++ ((I.map inF).flatten ++ ((le8 O.length).take 2 ++ ((O.map outF).flatten ++ le8 s.n))) by rw [hI, hO]; rfl)
  have HPl := Lib.hid (packF_lt hs)
  have hwI : IntKind.u64.wrap (I.length : Int) = (I.length : Int) := by rw [IntKind.wrap_u64]; have := HLi.out; omega
  have hlI : I.length ≤ 9223372036854775807 := HIs.out.2.len
  have hlO : O.length ≤ 9223372036854775807 := HOs.out.2.len
  clear hs hI hO hiv hov hf
  go_enter Tryz.func37, Tryz.ntmps37
  go_upto_region 1 with fail
  have hm := Arr.made w 53 s.cells
  have hb := (Below.refl w.heap.size w).alloc (Nat.le_refl _) (.cells s.cells.toArray 53)
  have HA := Lib.hid hm
  have HB := Lib.hid hb
  clear hm hb
  generalize World.alloc _ _ = w1 at *
  obtain ⟨g1, hg⟩ : ∃ g, w.heap.size = g := ⟨_, rfl⟩
  have HIw := Lib.hid (HIs.out.below HB.out)
  have HOw := Lib.hid (HOs.out.below HB.out)
  have HG1 := Lib.hid hg
  obtain ⟨B, hBe⟩ : ∃ B, w1.heap.size = B := ⟨_, rfl⟩
  have HBe := Lib.hid hBe
  have HGl := Lib.hid (show g1 < B by rw [← hg, ← hBe]; exact HA.out.lt)
  rw [hg] at HA HB ⊢
  clear hg HIs HOs
  have x0 := HA.out.cell 0
  replace x0 : w1.cell? ⟨g1, 0, none⟩ = some s.iv := x0
  rw [HV.out.1] at x0
  obtain ⟨L0, hL0⟩ : ∃ L0, (le8 I.length).take 2 = L0 := ⟨_, rfl⟩
  have HNm := Lib.hid (num2r I.length (by have := HLi.out; omega) w1)
  rw [hL0, hBe] at HNm
  have HL0 := Lib.hid hL0
  clear hL0 hBe
  go_wp2_with fail
  refine HNm.out.mono ?_
  rintro e w3 ⟨v3, rfl, ho3, hb3⟩
  dsimp only
  have HO3 := Lib.hid ho3
  have HB3 := Lib.hid hb3
  clear ho3 hb3 HNm x0 hwI
  go_wp2
  go_loopg [3, 4] I.length (fun gg v3 v4 wq => ∃ k : Nat, Hid (gg + k = I.length) ∧ v4 = .int .i64 (k : Int) ∧ Hid (wq.ownsRow B 5 1 v3 (L0 ++ ((I.take k).map inF).flatten).length (bys (L0 ++ ((I.take k).map inF).flatten))) ∧ Hid (Below B w1 wq))
  case atStart => exact ⟨0, rfl, rfl, by show World.ownsRow _ _ _ _ _ _ _; simpa using HO3.out, HB3.out⟩
  case round =>
    obtain ⟨k, hk, rfl, ho, hb⟩ := hrel
    have HK := Lib.hid hk.out
    have HOq := Lib.hid ho.out
    have HBq := Lib.hid hb.out
    clear hk ho hb HO3 HB3
    have HZq := Lib.hid (show B ≤ wr.heap.size by have := HBq.out.size; rw [HBe.out] at this; exact this)
    cases gk with
    | zero =>
      have hlt : ¬ ((k : Int) < ((I.length : Nat) : Int)) := by have := HK.out; omega
      obtain ⟨LI, hLI⟩ : ∃ L, L0 ++ (I.map inF).flatten = L := ⟨_, rfl⟩
      have HO9 := Lib.hid (show wr.ownsRow B 5 1 u3 LI.length (bys LI) by
        have h := HOq.out
        rw [List.take_of_length_le (by have := HK.out; omega), hLI] at h
        exact h)
      obtain ⟨L5, hL5⟩ : ∃ L, LI ++ (le8 O.length).take 2 = L := ⟨_, rfl⟩
      have HLi5 := Lib.hid (show LI.length ≤ 19000 ∧ L5.length ≤ 19002 by
        have h9 := ins_len I (fun i hi => ⟨HIw.out.1 i hi, HWl.out i hi⟩)
        have h8 := HLi.out
        rw [← hL5, ← hLI, ← HL0.out]
        simp only [List.length_append, le8t]
        omega)
      have HL5 := Lib.hid hL5
      have HLI := Lib.hid hLI
      have z0 := (HA.out.below HBq.out HGl.out).cell 0
      replace z0 : wr.cell? ⟨g1, 0, none⟩ = some s.iv := z0
      rw [HV.out.1] at z0
      have x1 := (HA.out.below HBq.out HGl.out).cell 1
      replace x1 : wr.cell? ⟨g1, 1, none⟩ = some s.ov := x1
      rw [HV.out.2.1] at x1
      have hwO : IntKind.u64.wrap (O.length : Int) = (O.length : Int) := by rw [IntKind.wrap_u64]; have := HLi.out; omega
      have HCn := Lib.hid (num2r O.length (by have := HLi.out; omega) wr)
      clear HOq hL5 hLI
      go_wp2_with fail
      refine HCn.out.mono ?_
      rintro e w4 ⟨v4, rfl, ho4, hb4⟩
      dsimp only
      have HY4 := Lib.hid (own_byts ho4 (le8_b _ _))
      have HO4 := Lib.hid (own_below HO9.out hb4)
      have HB4 := Lib.hid (HBq.out.trans (hb4.mono HZq.out))
      have HZ4 := Lib.hid (Nat.le_trans HZq.out hb4.size)
      clear ho4 hb4 HO9 HBq HCn x1 z0 hwO
      go_wp2_with (at_builtin; refine appBq B rfl (.tmp 40) (.tmp 45) 23 5 rfl Tryz.underlying23 infoB u3 v4 LI ((le8 O.length).take 2) L5 HL5.out rfl rfl HO4.out HY4.out HZ4.out (by have := HLi5.out; rw [le8t]; omega) ?_)
      intro v5 w5 ho5 hb5 hg5 hat5
      have HO5 := Lib.hid ho5.out
      have HB5 := Lib.hid (hb5.out B w1 HB4.out (Nat.le_refl _))
      clear ho5 hb5 hg5 hat5 HO4 HY4 HB4 HZ4
      go_wp2
      go_loopg [3, 6] O.length (fun gg v3 v6 wq => ∃ k : Nat, Hid (gg + k = O.length) ∧ v6 = .int .i64 (k : Int) ∧ Hid (wq.ownsRow B 5 1 v3 (L5 ++ ((O.take k).map outF).flatten).length (bys (L5 ++ ((O.take k).map outF).flatten))) ∧ Hid (Below B w1 wq))
      case atStart => exact ⟨0, rfl, rfl, by show World.ownsRow _ _ _ _ _ _ _; simpa using HO5.out, HB5.out⟩
      case round =>
        obtain ⟨k, hk, rfl, ho, hb⟩ := hrel
        have HK := Lib.hid hk.out
        have HOq := Lib.hid ho.out
        have HBq := Lib.hid hb.out
        clear hk ho hb HO5 HB5
        have HZq := Lib.hid (show B ≤ wr.heap.size by have := HBq.out.size; rw [HBe.out] at this; exact this)
        have x1 := (HA.out.below HBq.out HGl.out).cell 1
        replace x1 : wr.cell? ⟨g1, 1, none⟩ = some s.ov := x1
        rw [HV.out.2.1] at x1
        cases gk with
        | zero =>
          have hlt : ¬ ((k : Int) < ((O.length : Nat) : Int)) := by have := HK.out; omega
          obtain ⟨LO, hLO⟩ : ∃ L, L5 ++ (O.map outF).flatten = L := ⟨_, rfl⟩
          have HO9 := Lib.hid (show wr.ownsRow B 5 1 u3 LO.length (bys LO) by
            have h := HOq.out
            rw [List.take_of_length_le (by have := HK.out; omega), hLO] at h
            exact h)
          obtain ⟨L6, hL6⟩ : ∃ L, LO ++ le8 s.n = L := ⟨_, rfl⟩
          have HPe2 := Lib.hid (show L6 = packF s by
            rw [HPe.out, ← hL6, ← hLO, ← HL5.out, ← HLI.out, ← HL0.out]
            simp only [List.append_assoc])
          have HLo := Lib.hid (show LO.length ≤ 22000 by
            have h9 := outs_len O HOw.out.1
            have h8 := HLi.out
            have h7 := HLi5.out
            rw [← hLO]
            simp only [List.length_append, h9]
            omega)
          have HL6 := Lib.hid hL6
          have x2 := (HA.out.below HBq.out HGl.out).cell 2
          replace x2 : wr.cell? ⟨g1, 2, none⟩ = some (.int .u64 (s.n : Nat)) := x2
          have HCn := Lib.hid (num8r s.n HSn.out wr)
          clear HOq hL6 hLO
          go_wp2_with fail
          refine HCn.out.mono ?_
          rintro e w5 ⟨v5, rfl, ho5, hb5⟩
          dsimp only
          have HY5 := Lib.hid (own_byts ho5 (le8_lt _))
          have HO5 := Lib.hid (own_below HO9.out hb5)
          have HB5 := Lib.hid (HBq.out.trans (hb5.mono HZq.out))
          have HZ5 := Lib.hid (Nat.le_trans HZq.out hb5.size)
          clear ho5 hb5 HO9 HBq HCn x1 x2
          go_wp2_with (at_builtin; refine appBq B rfl (.tmp 70) (.tmp 73) 23 5 rfl Tryz.underlying23 infoB u3 v5 LO (le8 s.n) L6 HL6.out rfl rfl HO5.out HY5.out HZ5.out (by have := HLo.out; rw [show (le8 s.n).length = 8 from rfl]; omega) ?_)
          intro v6 w6 ho6 hb6 hg6 hat6
          have ho7 := ho6.out
          rw [HPe2.out] at ho7
          have HY6 := Lib.hid (own_byts ho7 HPl.out)
          have HL9 := Lib.hid (own_low ho7)
          have HB6 := Lib.hid (HB.out.trans ((hb6.out B w1 HB5.out (Nat.le_refl _)).mono (Nat.le_of_lt HGl.out)))
          clear ho6 hb6 hg6 hat6 HO5 HY5 HB5 ho7
          go_wp2
          go_ret
          exact ⟨v6, rfl, HY6.out, HL9.out, by rw [HG1.out]; exact HB6.out⟩
        | succ gg =>
          have hkl : k < O.length := by have := HK.out; omega
          have hlt : ((k : Int) < ((O.length : Nat) : Int)) := by omega
          obtain ⟨x, hx⟩ : ∃ x, O[k]? = some x := ⟨_, List.getElem?_eq_getElem hkl⟩
          obtain ⟨b1, off1, hab, hl1, hr1⟩ := HOw.out.2.at hx
          have hox := HOw.out.1 x (List.mem_of_getElem? hx)
          have HX := Lib.hid hx
          have HOX := Lib.hid hox
          have hc0 : w1.cell? ⟨b1, off1 + k * 33, none⟩ = some (.int .u64 (x.a : Nat)) := hr1 0 _ rfl
          have HBl := Lib.hid (show b1 < B by rw [← HBe.out]; exact World.block_lt_of_cell? w1 _ hc0)
          have HCx1 := Lib.hid hc0
          have HCl1 := Lib.hid (show w1.rangeAt b1 (off1 + k * 33 + 1) (bys x.l) from fun j v hv => by
            have := hr1 (1 + j) v (by
              unfold OutM.cells
              rw [List.getElem?_append_right (by simp), List.append_nil]
              simpa using hv)
            rw [← Nat.add_assoc] at this
            exact this)
          obtain ⟨LX, hLX⟩ : ∃ L, L5 ++ ((O.take k).map outF).flatten = L := ⟨_, rfl⟩
          obtain ⟨LA, hLA⟩ : ∃ L, LX ++ le8 x.a = L := ⟨_, rfl⟩
          obtain ⟨LB, hLB⟩ : ∃ L, LA ++ x.l = L := ⟨_, rfl⟩
          have HLe := Lib.hid (show L5 ++ ((O.take (k + 1)).map outF).flatten = LB by
            rw [flat_snoc outF O k x hx, ← hLB, ← hLA, ← hLX]
            simp only [outF, List.append_assoc])
          have HLs := Lib.hid (show LX.length ≤ 22000 ∧ LA.length ≤ 22008 by
            have h9 := outs_len (O.take k) (fun o ho => HOw.out.1 o (List.mem_of_mem_take ho))
            rw [List.length_take] at h9
            have h8 := HLi.out
            have h7 := HLi5.out
            rw [← hLA, ← hLX]
            simp only [List.length_append, h9, show (le8 x.a).length = 8 from rfl]
            omega)
          have HLid := Lib.hid hox.l.1
          have HNe := Lib.hid (show x.l ≠ [] from fun e => by have := HLid.out; rw [e] at this; cases this)
          have HOx := Lib.hid (show wr.ownsRow B 5 1 u3 LX.length (bys LX) by rw [← hLX]; exact HOq.out)
          have HL1 := Lib.hid hLA
          have HL2 := Lib.hid hLB
          have HKl := Lib.hid hkl
          clear hl1 hr1 hox hx hLX hLA hLB HOq hc0
          subst hab
          go_upto_region 12 with fail
          have HO8 := Lib.hid (show wr.drew.ownsRow B 5 1 u3 LX.length (bys LX) from HOx.out)
          have HB8 := Lib.hid HBq.out.drew
          have HZ8 := Lib.hid (show B ≤ wr.drew.heap.size from HZq.out)
          have HZ1 := Lib.hid (show wr.drew.cell? ⟨g1, 1, none⟩ = some (.slice (some ⟨b1, off1, none⟩) O.length c3) from x1)
          have HCx := Lib.hid (below_cell HB8.out HBl.out HCx1.out)
          have HCl := Lib.hid (show wr.drew.rangeAt b1 (off1 + k * 33 + 1) (bys x.l) from fun j v hv => below_cell HB8.out HBl.out (HCl1.out j v hv))
          clear x1 HOx HBq HZq HCx1 HCl1
          have HS0 := Lib.hid (Below.refl B wr.drew)
          refine wp_region_H (fun w' => Below B wr.drew w') (by kernel_rfl) ?_
          generalize wr.drew = w8 at *
          simp only [List.size_toArray, List.length_cons, List.length_nil, Nat.reduceAdd, Array.replicate_succ, Array.replicate_zero, List.push_toArray, List.nil_append, List.cons_append]
          refine wpAnyH_take (i := 0) (oi := ⟨some 54, _, _, _, _, _⟩) (v := u3) rfl (by kernel_rfl) (by kernel_rfl) (by kernel_rfl) (fun _ _ _ h => h) (Or.inl ⟨by rfl, ?_⟩) HS0.out ?_
          · intro w hSw
            go_simp <;> with_reducible rfl
          dsimp only [Act.put]
          simp only [List.setIfInBounds_toArray, List.set_cons_zero, List.set_cons_succ]
          refine wpAnyH_take (i := 1) (oi := ⟨some 55, _, _, _, _, _⟩) (v := ?_) rfl (by kernel_rfl) (by kernel_rfl) (by kernel_rfl) (fun _ _ _ h => h) (Or.inl ⟨by rfl, ?_⟩) HS0.out ?_
          rotate_left
          · intro w hSw
            go_simp <;> with_reducible rfl
          dsimp only [Act.put]
          simp only [List.setIfInBounds_toArray, List.set_cons_zero, List.set_cons_succ]
          refine wpAnyH_take (i := 2) (oi := ⟨some 56, _, _, _, _, _⟩) (v := .slice (some ⟨b1, off1, none⟩) O.length c3) rfl (by kernel_rfl) (by kernel_rfl) (by kernel_rfl) (fun _ _ _ h => h) (Or.inl ⟨by rfl, ?_⟩) HS0.out ?_
          · intro w hSw
            have hq := below_cell hSw (a := ⟨g1, 1, none⟩) HGl.out HZ1.out
            go_simp <;> with_reducible rfl
          dsimp only [Act.put]
          simp only [List.setIfInBounds_toArray, List.set_cons_zero, List.set_cons_succ]
          refine wpAnyH_take (i := 3) (oi := ⟨some 57, _, _, _, _, _⟩) (v := ?_) rfl (by kernel_rfl) (by kernel_rfl) (by kernel_rfl) (fun _ _ _ h => h) (Or.inl ⟨by rfl, ?_⟩) HS0.out ?_
          rotate_left
          · intro w hSw
            go_simp <;> with_reducible rfl
          dsimp only [Act.put]
          simp only [List.setIfInBounds_toArray, List.set_cons_zero, List.set_cons_succ]
          refine wpAnyH_take (i := 4) (oi := ⟨some 58, _, _, _, _, _⟩) (v := .pointer (some ⟨b1, off1 + k * 33, none⟩)) rfl (by kernel_rfl) (by kernel_rfl) (by kernel_rfl) (fun _ _ _ h => h) (Or.inl ⟨by rfl, ?_⟩) HS0.out ?_
          · intro w hSw
            have hkk := HKl.out
            go_simp <;> with_reducible rfl
          dsimp only [Act.put]
          simp only [List.setIfInBounds_toArray, List.set_cons_zero, List.set_cons_succ]
          refine wpAnyH_take (i := 5) (oi := ⟨some 59, _, _, _, _, _⟩) (v := ?_) rfl (by kernel_rfl) (by kernel_rfl) (by kernel_rfl) (fun _ _ _ h => h) (Or.inl ⟨by rfl, ?_⟩) HS0.out ?_
          rotate_left
          · intro w hSw
            go_simp <;> with_reducible rfl
          dsimp only [Act.put]
          simp only [List.setIfInBounds_toArray, List.set_cons_zero, List.set_cons_succ]
          refine wpAnyH_take (i := 6) (oi := ⟨some 60, _, _, _, _, _⟩) (v := .int .u64 (x.a : Nat)) rfl (by kernel_rfl) (by kernel_rfl) (by kernel_rfl) (fun _ _ _ h => h) (Or.inl ⟨by rfl, ?_⟩) HS0.out ?_
          · intro w hSw
            have hq := below_cell hSw (a := ⟨b1, off1 + k * 33, none⟩) HBl.out HCx.out
            go_simp <;> with_reducible rfl
          dsimp only [Act.put]
          simp only [List.setIfInBounds_toArray, List.set_cons_zero, List.set_cons_succ]
          refine wpAnyH_take (i := 9) (oi := ⟨some 63, _, _, _, _, _⟩) (v := ?_) rfl (by kernel_rfl) (by kernel_rfl) (by kernel_rfl) (fun _ _ _ h => h) (Or.inl ⟨by rfl, ?_⟩) HS0.out ?_
          rotate_left
          · intro w hSw
            go_simp <;> with_reducible rfl
          dsimp only [Act.put]
          simp only [List.setIfInBounds_toArray, List.set_cons_zero, List.set_cons_succ]
          refine wpAnyH_take (i := 10) (oi := ⟨some 64, _, _, _, _, _⟩) (v := .slice (some ⟨b1, off1, none⟩) O.length c3) rfl (by kernel_rfl) (by kernel_rfl) (by kernel_rfl) (fun _ _ _ h => h) (Or.inl ⟨by rfl, ?_⟩) HS0.out ?_
          · intro w hSw
            have hq := below_cell hSw (a := ⟨g1, 1, none⟩) HGl.out HZ1.out
            go_simp <;> with_reducible rfl
          dsimp only [Act.put]
          simp only [List.setIfInBounds_toArray, List.set_cons_zero, List.set_cons_succ]
          refine wpAnyH_take (i := 11) (oi := ⟨some 65, _, _, _, _, _⟩) (v := ?_) rfl (by kernel_rfl) (by kernel_rfl) (by kernel_rfl) (fun _ _ _ h => h) (Or.inl ⟨by rfl, ?_⟩) HS0.out ?_
          rotate_left
          · intro w hSw
            go_simp <;> with_reducible rfl
          dsimp only [Act.put]
          simp only [List.setIfInBounds_toArray, List.set_cons_zero, List.set_cons_succ]
          refine wpAnyH_take (i := 12) (oi := ⟨some 66, _, _, _, _, _⟩) (v := .pointer (some ⟨b1, off1 + k * 33, none⟩)) rfl (by kernel_rfl) (by kernel_rfl) (by kernel_rfl) (fun _ _ _ h => h) (Or.inl ⟨by rfl, ?_⟩) HS0.out ?_
          · intro w hSw
            have hkk := HKl.out
            go_simp <;> with_reducible rfl
          dsimp only [Act.put]
          simp only [List.setIfInBounds_toArray, List.set_cons_zero, List.set_cons_succ]
          refine wpAnyH_take (i := 13) (oi := ⟨some 67, _, _, _, _, _⟩) (v := ?_) rfl (by kernel_rfl) (by kernel_rfl) (by kernel_rfl) (fun _ _ _ h => h) (Or.inl ⟨by rfl, ?_⟩) HS0.out ?_
          rotate_left
          · intro w hSw
            go_simp <;> with_reducible rfl
          dsimp only [Act.put]
          simp only [List.setIfInBounds_toArray, List.set_cons_zero, List.set_cons_succ]
          refine wpAnyH_take (i := 14) (oi := ⟨some 68, _, _, _, _, _⟩) (v := .slice (some ⟨b1, off1 + k * 33 + 1, none⟩) 32 32) rfl (by kernel_rfl) (by kernel_rfl) (by kernel_rfl) (fun _ _ _ h => h) (Or.inl ⟨by rfl, ?_⟩) HS0.out ?_
          · intro w hSw
            go_simp <;> with_reducible rfl
          dsimp only [Act.put]
          simp only [List.setIfInBounds_toArray, List.set_cons_zero, List.set_cons_succ]
          refine wpAnyH_one (i := 7) (oi := ⟨some 61, _, _, _, _, _⟩) (by kernel_rfl) rfl (by rfl) (fun K9 hK9 => ?_)
          have HK9 := Lib.hid hK9
          clear hK9
          go_simp
          refine (num8r x.a HOX.out.a w8).mono ?_
          rintro e wn ⟨vn, rfl, ho, hb⟩
          dsimp only
          have HNn := Lib.hid ho
          have HBn := Lib.hid hb
          clear ho hb
          have HS1 := Lib.hid (show Below B w8 wn from HBn.out.mono HZ8.out)
          have HO9 := Lib.hid (own_below HO8.out HBn.out)
          have HYn := Lib.hid (own_byts HNn.out (le8_lt _))
          refine HK9.out _ _ HS1.out ?_
          clear HK9
          simp only [List.setIfInBounds_toArray, List.set_cons_zero, List.set_cons_succ]
          refine wpAnyH_one (i := 8) (oi := ⟨some 62, _, _, _, _, _⟩) (by kernel_rfl) rfl (by rfl) (fun K9 hK9 => ?_)
          have HK9 := Lib.hid hK9
          clear hK9
          refine wp_appBq B (.tmp 54) (.tmp 61) 23 5 rfl Tryz.underlying23 infoB u3 vn LX (le8 x.a) LA HL1.out rfl rfl (by intro e; have := congrArg List.length e; simp [le8] at this) HO9.out HYn.out (Nat.le_trans HZ8.out HS1.out.size) (by have := HLs.out; rw [show (le8 x.a).length = 8 from rfl]; omega) ?_
          intro va wa ho hb hg hat
          have HOa := Lib.hid ho.out
          have HCa := Lib.hid hb.out
          have HGa := Lib.hid hg.out
          have HTa := Lib.hid hat.out
          clear ho hb hg hat
          have HS2 := Lib.hid (HCa.out B w8 HS1.out (Nat.le_refl _))
          refine HK9.out _ _ HS2.out ?_
          clear HK9
          simp only [List.setIfInBounds_toArray, List.set_cons_zero, List.set_cons_succ]
          refine wpAnyH_one (i := 15) (oi := ⟨some 69, _, _, _, _, _⟩) (by kernel_rfl) rfl (by rfl) (fun K9 hK9 => ?_)
          have HK9 := Lib.hid hK9
          clear hK9
          refine wp_appBq B (.tmp 62) (.tmp 68) 23 5 rfl Tryz.underlying23 infoB va (.slice (some ⟨b1, off1 + k * 33 + 1, none⟩) 32 32) LA x.l LB HL2.out rfl rfl HNe.out HOa.out (rangeAt.byts (fun j v hv => below_cell HS2.out HBl.out (HCl.out j v hv)) HOX.out.l) (Nat.le_trans HZ8.out HS2.out.size) (by have := HLs.out; have := HLid.out; omega) ?_
          intro vc wc ho hb hg hat
          have HOc := Lib.hid ho.out
          have HCc := Lib.hid hb.out
          have HGc := Lib.hid hg.out
          have HTc := Lib.hid hat.out
          clear ho hb hg hat
          have HS3 := Lib.hid (HCc.out B w8 HS2.out (Nat.le_refl _))
          refine HK9.out _ _ HS3.out ?_
          clear HK9
          simp only [List.setIfInBounds_toArray, List.set_cons_zero, List.set_cons_succ]
          refine wpAnyH_take (i := 16) (oi := ⟨some 3, _, _, _, _, _⟩) (v := vc) rfl (by kernel_rfl) (by kernel_rfl) (by kernel_rfl) (fun _ _ _ h => h) (Or.inl ⟨by rfl, ?_⟩) HS3.out ?_
          · intro w hSw
            go_simp <;> with_reducible rfl
          dsimp only [Act.put]
          simp only [List.setIfInBounds_toArray, List.set_cons_zero, List.set_cons_succ]
          refine wpAnyH_done (by kernel_rfl) ?_ _
          have HB9 := Lib.hid (HB8.out.trans HS3.out)
          clear HS0 HS1 HS2 HS3 HO8 HZ1 HCx HCl
          go_wp2
          go_roundg gg
          case measure => omega
          case rel => exact ⟨k + 1, by show _ = _; have := HK.out; omega, by go_num, by show World.ownsRow _ _ _ _ _ _ _; rw [HLe.out]; exact HOc.out, HB9.out⟩
    | succ gg =>
      have hkl : k < I.length := by have := HK.out; omega
      have hlt : ((k : Int) < ((I.length : Nat) : Int)) := by omega
      obtain ⟨x, hx⟩ : ∃ x, I[k]? = some x := ⟨_, List.getElem?_eq_getElem hkl⟩
      have z0 := (HA.out.below HBq.out HGl.out).cell 0
      replace z0 : wr.cell? ⟨g1, 0, none⟩ = some s.iv := z0
      rw [HV.out.1] at z0
      have hIq := HIw.out.below (w' := wr) (by rw [HBe.out]; exact HBq.out)
      obtain ⟨b1, off1, hab, hl1, hr1⟩ := hIq.2.at hx
      have hox := hIq.1 x (List.mem_of_getElem? hx)
      obtain ⟨a4, c4, hwv⟩ : ∃ a c, x.wv = .slice a x.W.length c := hox.W.form
      have hW1 : Byts w1 (.slice a4 x.W.length c4) x.W := by rw [← hwv]; exact (HIw.out.1 x (List.mem_of_getElem? hx)).W
      have HX := Lib.hid hx
      have HOX := Lib.hid hox
      have HWv := Lib.hid hwv
      have HRx := Lib.hid hr1
      have HSz := Lib.hid (show (Tryz.prog.info? 75).map (·.size) = some x.cells.length by rw [InM.cells_len hox]; exact size_in)
      have HOne := Lib.hid (in_one hox)
      have HLen := Lib.hid (InM.cells_len hox)
      have HWk := Lib.hid (show IntKind.u64.wrap ((x.k : Nat) : Int) = ((x.k : Nat) : Int) by rw [IntKind.wrap_u64]; have := hox.k; omega)
      have HSep := Lib.hid (show ∀ w', Below B w1 w' → Byts w' (.slice a4 x.W.length c4) x.W from fun w' hb' => hW1.below (by rw [HBe.out]; exact hb'))
      have HWl1 := Lib.hid (HWl.out x (List.mem_of_getElem? hx))
      obtain ⟨LX, hLX⟩ : ∃ L, L0 ++ ((I.take k).map inF).flatten = L := ⟨_, rfl⟩
      obtain ⟨LA, hLA⟩ : ∃ L, LX ++ x.id = L := ⟨_, rfl⟩
      obtain ⟨LB, hLB⟩ : ∃ L, LA ++ (le8 x.k).take 4 = L := ⟨_, rfl⟩
      obtain ⟨LC, hLC⟩ : ∃ L, LB ++ ((le8 x.W.length).take 4 ++ x.W) = L := ⟨_, rfl⟩
      have HLe := Lib.hid (show L0 ++ ((I.take (k + 1)).map inF).flatten = LC by
        rw [flat_snoc inF I k x hx, ← hLC, ← hLB, ← hLA, ← hLX]
        simp only [inF, List.append_assoc])
      have HLs := Lib.hid (show LX.length ≤ 19000 ∧ LA.length ≤ 19032 ∧ LB.length ≤ 19036 ∧ x.W.length ≤ 256 by
        have h9 := ins_len (I.take k) (fun o ho => ⟨HIw.out.1 o (List.mem_of_mem_take ho), HWl.out o (List.mem_of_mem_take ho)⟩)
        rw [List.length_take] at h9
        have h8 := HLi.out
        have h6 := HWl1.out
        rw [← hLB, ← hLA, ← hLX, ← HL0.out]
        simp only [List.length_append, le8f, le8t, HOX.out.id.1]
        omega)
      have HLid := Lib.hid hox.id.1
      have HNe := Lib.hid (show x.id ≠ [] from fun e => by have := HLid.out; rw [e] at this; cases this)
      have HOx := Lib.hid (show wr.ownsRow B 5 1 u3 LX.length (bys LX) by rw [← hLX]; exact HOq.out)
      have HL1 := Lib.hid hLA
      have HL2 := Lib.hid hLB
      have HL3 := Lib.hid hLC
      clear hIq hl1 hr1 hox hx hLX hLA hLB hLC HOq hwv hW1
      subst hab
      go_upto_region 5 with fail
      go_step
      iterate 12 (first | go_values | go_skip | go_guarded | go_step | go_upon)
      refine wpList_load_mid (P := Tryz.prog) rfl 75 _ rfl b1 (off1 + k * 34) rfl _ _ HRx.out Tryz.underlying75 rfl HSz.out ?_
      iterate 3 (first | go_values | go_skip | go_guarded | go_step | go_upon)
      refine wpList_store_box (P := Tryz.prog) rfl 75 _ _ rfl wr _ x.cells rfl rfl (by rw [HLen.out]; rfl) HSz.out HOne.out ?_
      intro w7 ha7 hb7
      have HA7 := Lib.hid ha7.out
      have HQv := Lib.hid (own_ne HOx.out (Nat.le_refl _))
      have HO7 := Lib.hid (own_below HOx.out hb7.out)
      have HB7 := Lib.hid (HBq.out.trans (hb7.out.mono HZq.out))
      have HZ7 := Lib.hid (Nat.le_trans HZq.out hb7.out.size)
      clear ha7 hb7 HOx HBq HRx z0 HZq
      obtain ⟨q, hq⟩ : ∃ q, wr.heap.size = q := ⟨_, rfl⟩
      rw [hq] at HA7 HQv ⊢
      clear hq
      go_upto_region 6 with fail
      have HS0 := Lib.hid (show Arr w7.drew q 75 x.cells from HA7.out)
      have HO8 := Lib.hid (show w7.drew.ownsRow B 5 1 u3 LX.length (bys LX) from HO7.out)
      have HB8 := Lib.hid HB7.out.drew
      have HZ8 := Lib.hid (show B ≤ w7.drew.heap.size from HZ7.out)
      clear HA7 HO7 HB7 HZ7
      refine wp_region_H (fun w' => Arr w' q 75 x.cells) (by kernel_rfl) ?_
      generalize w7.drew = w8 at *
      simp only [List.size_toArray, List.length_cons, List.length_nil, Nat.reduceAdd, Array.replicate_succ, Array.replicate_zero, List.push_toArray, List.nil_append, List.cons_append]
      refine wpAnyH_take (i := 0) (oi := ⟨some 24, _, _, _, _, _⟩) (v := u3) rfl (by kernel_rfl) (by kernel_rfl) (by kernel_rfl) (fun _ _ _ h => h) (Or.inl ⟨by rfl, ?_⟩) HS0.out ?_
      · intro w hSw
        go_simp <;> with_reducible rfl
      dsimp only [Act.put]
      simp only [List.setIfInBounds_toArray, List.set_cons_zero, List.set_cons_succ]
      refine wpAnyH_take (i := 1) (oi := ⟨some 25, _, _, _, _, _⟩) (v := ?_) rfl (by kernel_rfl) (by kernel_rfl) (by kernel_rfl) (fun _ _ _ h => h) (Or.inl ⟨by rfl, ?_⟩) HS0.out ?_
      rotate_left
      · intro w hSw
        go_simp <;> with_reducible rfl
      dsimp only [Act.put]
      simp only [List.setIfInBounds_toArray, List.set_cons_zero, List.set_cons_succ]
      refine wpAnyH_take (i := 2) (oi := ⟨some 26, _, _, _, _, _⟩) (v := ?_) rfl (by kernel_rfl) (by kernel_rfl) (by kernel_rfl) (fun _ _ _ h => h) (Or.inl ⟨by rfl, ?_⟩) HS0.out ?_
      rotate_left
      · intro w hSw
        go_simp <;> with_reducible rfl
      dsimp only [Act.put]
      simp only [List.setIfInBounds_toArray, List.set_cons_zero, List.set_cons_succ]
      refine wpAnyH_take (i := 3) (oi := ⟨some 27, _, _, _, _, _⟩) (v := .slice (some ⟨q, 0, none⟩) 32 32) rfl (by kernel_rfl) (by kernel_rfl) (by kernel_rfl) (fun _ _ _ h => h) (Or.inl ⟨by rfl, ?_⟩) HS0.out ?_
      · intro w hSw
        go_simp <;> with_reducible rfl
      dsimp only [Act.put]
      simp only [List.setIfInBounds_toArray, List.set_cons_zero, List.set_cons_succ]
      refine wpAnyH_take (i := 5) (oi := ⟨some 29, _, _, _, _, _⟩) (v := ?_) rfl (by kernel_rfl) (by kernel_rfl) (by kernel_rfl) (fun _ _ _ h => h) (Or.inl ⟨by rfl, ?_⟩) HS0.out ?_
      rotate_left
      · intro w hSw
        go_simp <;> with_reducible rfl
      dsimp only [Act.put]
      simp only [List.setIfInBounds_toArray, List.set_cons_zero, List.set_cons_succ]
      refine wpAnyH_take (i := 6) (oi := ⟨some 30, _, _, _, _, _⟩) (v := ?_) rfl (by kernel_rfl) (by kernel_rfl) (by kernel_rfl) (fun _ _ _ h => h) (Or.inl ⟨by rfl, ?_⟩) HS0.out ?_
      rotate_left
      · intro w hSw
        go_simp <;> with_reducible rfl
      dsimp only [Act.put]
      simp only [List.setIfInBounds_toArray, List.set_cons_zero, List.set_cons_succ]
      refine wpAnyH_take (i := 7) (oi := ⟨some 31, _, _, _, _, _⟩) (v := .int .u32 (x.k : Nat)) rfl (by kernel_rfl) (by kernel_rfl) (by kernel_rfl) (fun _ _ _ h => h) (Or.inl ⟨by rfl, ?_⟩) HS0.out ?_
      · intro w hSw
        have hq := in_num x HOX.out.id hSw.range
        rw [Nat.zero_add] at hq
        go_simp <;> with_reducible rfl
      dsimp only [Act.put]
      simp only [List.setIfInBounds_toArray, List.set_cons_zero, List.set_cons_succ]
      refine wpAnyH_take (i := 8) (oi := ⟨some 32, _, _, _, _, _⟩) (v := .int .u64 (x.k : Nat)) rfl (by kernel_rfl) (by kernel_rfl) (by kernel_rfl) (fun _ _ _ h => h) (Or.inl ⟨by rfl, ?_⟩) HS0.out ?_
      · intro w hSw
        have hq := HWk.out
        go_simp <;> with_reducible rfl
      dsimp only [Act.put]
      simp only [List.setIfInBounds_toArray, List.set_cons_zero, List.set_cons_succ]
      refine wpAnyH_one (i := 4) (oi := ⟨some 28, _, _, _, _, _⟩) (by kernel_rfl) rfl (by rfl) (fun K9 hK9 => ?_)
      have HK9 := Lib.hid hK9
      clear hK9
      refine wp_appBq B (.tmp 24) (.tmp 27) 23 5 rfl Tryz.underlying23 infoB u3 (.slice (some ⟨q, 0, none⟩) 32 32) LX x.id LA HL1.out rfl rfl HNe.out HO8.out (rangeAt.byts (in_id x HS0.out.range) HOX.out.id) HZ8.out (by have := HLs.out; have := HLid.out; omega) ?_
      intro va wa ho hb hg hat
      have HOa := Lib.hid ho.out
      have HCa := Lib.hid hb.out
      have HGa := Lib.hid hg.out
      have HTa := Lib.hid hat.out
      clear ho hb hg hat
      have HS1 := Lib.hid (HS0.out.same (HGa.out.block q HS0.out.lt (fun e => HQv.out e.symm)))
      refine HK9.out _ _ HS1.out ?_
      clear HK9
      simp only [List.setIfInBounds_toArray, List.set_cons_zero, List.set_cons_succ]
      refine wpAnyH_one (i := 9) (oi := ⟨some 33, _, _, _, _, _⟩) (by kernel_rfl) rfl (by rfl) (fun K9 hK9 => ?_)
      have HK9 := Lib.hid hK9
      clear hK9
      go_simp
      refine (num4r x.k (by have := HOX.out.k; omega) wa).mono ?_
      rintro e wn ⟨vn, rfl, ho, hb⟩
      dsimp only
      have HNn := Lib.hid ho
      have HBn := Lib.hid hb
      clear ho hb
      have HS2 := Lib.hid (HS1.out.below HBn.out HS1.out.lt)
      have HOb := Lib.hid (own_below HOa.out HBn.out)
      have HYn := Lib.hid (own_byts HNn.out (le8_b _ _))
      have HDn := Lib.hid ((HCa.out B w8 (Below.refl _ _) (Nat.le_refl _)).trans (HBn.out.mono (by have := (HCa.out B w8 (Below.refl _ _) (Nat.le_refl _)).size; have := HZ8.out; omega)))
      have HQn := Lib.hid (show va.ownBlock ≠ some q by
        intro e
        rcases HTa.out with h | h
        · rw [e] at h; exact HQv.out h.symm
        · rw [e] at h; have := Option.some.inj h; have := HS0.out.lt; omega)
      refine HK9.out _ _ HS2.out ?_
      clear HK9
      simp only [List.setIfInBounds_toArray, List.set_cons_zero, List.set_cons_succ]
      refine wpAnyH_one (i := 10) (oi := ⟨some 34, _, _, _, _, _⟩) (by kernel_rfl) rfl (by rfl) (fun K9 hK9 => ?_)
      have HK9 := Lib.hid hK9
      clear hK9
      refine wp_appBq B (.tmp 28) (.tmp 33) 23 5 rfl Tryz.underlying23 infoB va vn LA ((le8 x.k).take 4) LB HL2.out rfl rfl (by intro e; have := congrArg List.length e; simp [le8] at this) HOb.out HYn.out (Nat.le_trans HZ8.out HDn.out.size) (by have := HLs.out; simp only [le8f]; omega) ?_
      intro vc wc ho hb hg hat
      have HOc := Lib.hid ho.out
      have HCc := Lib.hid hb.out
      have HGc := Lib.hid hg.out
      have HTc := Lib.hid hat.out
      clear ho hb hg hat
      have HS3 := Lib.hid (HS2.out.same (HGc.out.block q HS2.out.lt (fun e => HQn.out e.symm)))
      have HDc := Lib.hid (HCc.out B w8 HDn.out (Nat.le_refl _))
      refine HK9.out _ _ HS3.out ?_
      clear HK9
      simp only [List.setIfInBounds_toArray, List.set_cons_zero, List.set_cons_succ]
      refine wpAnyH_take (i := 11) (oi := ⟨some 3, _, _, _, _, _⟩) (v := vc) rfl (by kernel_rfl) (by kernel_rfl) (by kernel_rfl) (fun _ _ _ h => h) (Or.inl ⟨by rfl, ?_⟩) HS3.out ?_
      · intro w hSw
        go_simp <;> with_reducible rfl
      dsimp only [Act.put]
      simp only [List.setIfInBounds_toArray, List.set_cons_zero, List.set_cons_succ]
      refine wpAnyH_done (by kernel_rfl) ?_ _
      have HZc := Lib.hid (Nat.le_trans HZ8.out HDc.out.size)
      have HYw := Lib.hid (HSep.out wc (HB8.out.trans HDc.out))
      have HRb := Lib.hid (rblob_any a4 c4 x.W wc HYw.out (by have := HLs.out; omega))
      have hcw := in_wit x HOX.out.id HS3.out.range
      rw [Nat.zero_add, HWv.out] at hcw
      go_wp2_with fail
      refine HRb.out.mono ?_
      rintro e wd ⟨vd, rfl, hod, hbd⟩
      dsimp only
      have HOd := Lib.hid (own_below HOc.out hbd)
      have HYd := Lib.hid (own_byts hod (by
        intro z hz
        rcases List.mem_append.1 hz with hz | hz
        · exact le8_b _ _ z hz
        · exact HOX.out.W.1 z hz))
      have HDd := Lib.hid (HDc.out.trans (hbd.mono HZc.out))
      have HZd := Lib.hid (Nat.le_trans HZc.out hbd.size)
      clear hod hbd HRb hcw HOc
      go_wp2_with (at_builtin; refine appBq B rfl (.tmp 35) (.tmp 38) 23 5 rfl Tryz.underlying23 infoB vc vd LB ((le8 x.W.length).take 4 ++ x.W) LC HL3.out rfl rfl HOd.out HYd.out HZd.out (by have := HLs.out; rw [List.length_append, le8f]; omega) ?_)
      intro v9 w9 ho9 hb9 hg9 hat9
      have HO9 := Lib.hid ho9.out
      have HB9 := Lib.hid (HB8.out.trans (hb9.out B w8 HDd.out (Nat.le_refl _)))
      clear ho9 hb9 hg9 hat9 HOd HYd HDd
      go_wp2
      go_roundg gg
      case measure => omega
      case rel => exact ⟨k + 1, by show _ = _; have := HK.out; omega, by go_num, by show World.ownsRow _ _ _ _ _ _ _; rw [HLe.out]; exact HO9.out, HB9.out⟩
end Go.Proofs.YtnohfondkcbdnaaGreatDoor
/- Acts as data; slices.Equal of numbers. -/
namespace Go.Proofs.YtnohfondkcbdnaaGreatDoor
open Go.RowKit Go.Lib
set_option linter.unusedVariables false
set_option linter.unusedSimpArgs false
attribute [local go_sem ↓] Go.wp_at_zero Go.wp_at_succ

/-- An act: its slices' values, and what they hold. -/
structure ActM where
  kind : Int
  bv : Value
  B : List Nat
  lock : List Nat
  nonce : Nat
  pv : Value
  P : List Int
  tv : Value
  T : List TxM
  n : Int
  m : Int
  bad : Bool
def ActM.cells (a : ActM) : List Value := .int .i64 a.kind :: a.bv :: (bys a.lock ++ [.int .u64 (a.nonce : Nat), a.pv, a.tv, .int .i64 a.n, .int .i64 a.m, .bool a.bad])
def numC (z : Int) : List Value := [.int .i64 z]
def NumsIs (w : World) (v : Value) (P : List Int) : Prop := (∀ z ∈ P, -9223372036854775808 ≤ z ∧ z ≤ 9223372036854775807) ∧ RowIs 1 numC w v P
theorem NumsIs.below {w w' : World} {v : Value} {P : List Int} (h : NumsIs w v P) (hb : Below w.heap.size w w') : NumsIs w' v P := ⟨h.1, h.2.below hb⟩
structure ActM.ok (w : World) (a : ActM) : Prop where
  kind : -9223372036854775808 ≤ a.kind ∧ a.kind ≤ 9223372036854775807
  B : Byts w a.bv a.B
  lock : IsH a.lock
  nonce : a.nonce ≤ 18446744073709551615
  P : NumsIs w a.pv a.P
  T : TxsIs w a.tv a.T
  n : -9223372036854775808 ≤ a.n ∧ a.n ≤ 9223372036854775807
  m : -9223372036854775808 ≤ a.m ∧ a.m ≤ 9223372036854775807
theorem ActM.ok.below {w w' : World} {a : ActM} (h : a.ok w) (hb : Below w.heap.size w w') : a.ok w' := ⟨h.kind, h.B.below hb, h.lock, h.nonce, h.P.below hb, h.T.below hb, h.n, h.m⟩
theorem ActM.cells_len {w : World} {a : ActM} (h : a.ok w) : a.cells.length = 40 := by
  unfold ActM.cells; simp [bys_len, h.lock.1]
theorem size_act : (Tryz.prog.info? 30).map (·.size) = some 40 := by kernel_rfl
/-- Two acts are the same. -/
def actEq (a b : ActM) : Bool := decide (a.kind = b.kind) && (decide (a.B = b.B) && (decide (a.lock = b.lock) && (decide (a.nonce = b.nonce) && (decide (a.P = b.P) && (decide (a.T.map TxM.key = b.T.map TxM.key) && (decide (a.n = b.n) && (decide (a.m = b.m) && decide (a.bad = b.bad))))))))
theorem act_key (a b : ActM) : actEq a b = true ↔ (a.kind = b.kind ∧ a.B = b.B ∧ a.lock = b.lock ∧ a.nonce = b.nonce ∧ a.P = b.P ∧ a.T.map TxM.key = b.T.map TxM.key ∧ a.n = b.n ∧ a.m = b.m ∧ a.bad = b.bad) := by
  simp only [actEq, Bool.and_eq_true, decide_eq_true_iff]
theorem bad_false {R : Bool} {p : Prop} (h : R = true ↔ p) (hp : ¬ p) : R = false := by
  cases hr : R with
  | false => rfl
  | true => exact absurd (h.1 hr) hp
/-- An act that lies at block g. -/
def ActAt (w : World) (g : Nat) (a : ActM) : Prop := Arr w g 30 a.cells ∧ IsH a.lock
theorem ActAt.lt {w : World} {g : Nat} {a : ActM} (h : ActAt w g a) : g < w.heap.size := h.1.lt
theorem ActAt.below {w w' : World} {g B : Nat} {a : ActM} (h : ActAt w g a) (hb : Below B w w') (hg : g < B) : ActAt w' g a := ⟨h.1.below hb hg, h.2⟩
theorem ActAt.kind {w : World} {g : Nat} {a : ActM} (h : ActAt w g a) : w.cell? ⟨g, 0, none⟩ = some (.int .i64 a.kind) := h.1.cell 0
theorem ActAt.bv {w : World} {g : Nat} {a : ActM} (h : ActAt w g a) : w.cell? ⟨g, 1, none⟩ = some a.bv := h.1.cell 1
theorem ActAt.lock {w : World} {g : Nat} {a : ActM} (h : ActAt w g a) : w.rangeAt g 2 (bys a.lock) := fun j v hv => by
  rw [h.1.cell]
  unfold ActM.cells
  rw [show 2 + j = j + 1 + 1 by omega, List.getElem?_cons_succ, List.getElem?_cons_succ, List.getElem?_append_left (List.getElem?_eq_some_iff.1 hv).1]
  exact hv
theorem ActAt.end_ {w : World} {g : Nat} {a : ActM} (h : ActAt w g a) (j : Nat) : w.cell? ⟨g, 34 + j, none⟩ = [.int .u64 (a.nonce : Nat), a.pv, a.tv, .int .i64 a.n, .int .i64 a.m, .bool a.bad][j]? := by
  rw [h.1.cell]
  unfold ActM.cells
  rw [show 34 + j = (32 + j) + 1 + 1 by omega, List.getElem?_cons_succ, List.getElem?_cons_succ, List.getElem?_append_right (by rw [bys_len, h.2.1]; omega), bys_len, h.2.1, show 32 + j - 32 = j by omega]
theorem ActAt.nonce {w : World} {g : Nat} {a : ActM} (h : ActAt w g a) : w.cell? ⟨g, 34, none⟩ = some (.int .u64 (a.nonce : Nat)) := h.end_ 0
theorem ActAt.pv {w : World} {g : Nat} {a : ActM} (h : ActAt w g a) : w.cell? ⟨g, 35, none⟩ = some a.pv := h.end_ 1
theorem ActAt.tv {w : World} {g : Nat} {a : ActM} (h : ActAt w g a) : w.cell? ⟨g, 36, none⟩ = some a.tv := h.end_ 2
theorem ActAt.n {w : World} {g : Nat} {a : ActM} (h : ActAt w g a) : w.cell? ⟨g, 37, none⟩ = some (.int .i64 a.n) := h.end_ 3
theorem ActAt.m {w : World} {g : Nat} {a : ActM} (h : ActAt w g a) : w.cell? ⟨g, 38, none⟩ = some (.int .i64 a.m) := h.end_ 4
theorem ActAt.bad {w : World} {g : Nat} {a : ActM} (h : ActAt w g a) : w.cell? ⟨g, 39, none⟩ = some (.bool a.bad) := h.end_ 5
theorem below_drawn (w : World) (q : Nat) : Below w.heap.size w (w.drewN q) := by
  induction q with
  | zero => exact Below.refl _ _
  | succ q ih => exact ih.drew
theorem eqNums_any (P Q : List Int) (v1 v2 : Value) (w : World) (h1 : NumsIs w v1 P) (h2 : NumsIs w v2 Q) :
    Calls Tryz.prog 28 #[v1, v2] w fun e w' => e = .returned (.bool (decide (P = Q))) ∧ Below w.heap.size w w' := by
  have hl1 : P.length ≤ 9223372036854775807 := h1.2.len
  have hl2 : Q.length ≤ 9223372036854775807 := h2.2.len
  rcases h1.2 with ⟨rfl, rfl⟩ | ⟨b1, o1, c, rfl, _, _, r1⟩
  · obtain ⟨a2, c2, rfl⟩ := h2.2.form
    refine (Tryz.slices_Equal_int_empty none a2 0 Q.length c2 w hl2).mono ?_
    rintro e w' ⟨rfl, rfl⟩
    refine ⟨?_, Below.refl _ _⟩
    congr 2
    cases Q <;> simp
  · rcases h2.2 with ⟨rfl, rfl⟩ | ⟨b2, o2, d, rfl, _, _, r2⟩
    · by_cases hp : P.length = 0
      · rw [hp]
        refine (Tryz.slices_Equal_int_empty (some ⟨b1, o1, none⟩) none c 0 0 w (by omega)).mono ?_
        rintro e w' ⟨rfl, rfl⟩
        refine ⟨?_, Below.refl _ _⟩
        rw [List.length_eq_zero_iff.1 hp]; rfl
      · refine (Tryz.slices_Equal_int_lens (some ⟨b1, o1, none⟩) none P.length c 0 0 w hp).mono ?_
        rintro e w' ⟨rfl, rfl⟩
        refine ⟨?_, Below.refl _ _⟩
        rw [decide_eq_false (fun e => hp (by rw [e]; rfl))]
    · refine (Tryz.slices_Equal_int b1 o1 P.length c b2 o2 Q.length d P Q w (Nat.le_refl _) (Nat.le_refl _) hl1 hl2
        (fun j hj => by
          have := r1 j P[j] (List.getElem?_eq_getElem hj) 0 _ rfl
          rw [Nat.mul_one, Nat.add_zero] at this
          rw [this]; simp [List.getD, hj])
        (fun j hj => by
          have := r2 j Q[j] (List.getElem?_eq_getElem hj) 0 _ rfl
          rw [Nat.mul_one, Nat.add_zero] at this
          rw [this]; simp [List.getD, hj])).mono ?_
      rintro e w' ⟨rfl, q, rfl⟩
      refine ⟨?_, below_drawn w q⟩
      rw [List.take_length, List.take_length, show (P == Q) = decide (P = Q) by rw [Bool.eq_iff_iff, beq_iff_eq, decide_eq_true_iff]]
end Go.Proofs.YtnohfondkcbdnaaGreatDoor
