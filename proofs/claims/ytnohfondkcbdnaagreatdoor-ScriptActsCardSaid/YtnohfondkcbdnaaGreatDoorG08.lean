/- plexusref05.Check and May. -/
import Derived.Test.YtnohfondkcbdnaaGreatDoorG07
namespace Go.Proofs.YtnohfondkcbdnaaGreatDoor
open Go.RowKit Go.Lib
set_option linter.unusedVariables false
set_option linter.unusedSimpArgs false
attribute [local go_sem ↓] Go.wp_at_zero Go.wp_at_succ

theorem checkF_bad {s : TxM} (h : ¬ TxForm s) : checkF s = 2 := by
  classical
  unfold checkF
  rw [if_neg h]
set_option maxRecDepth 100000 in
set_option maxHeartbeats 6400000 in
open Classical in
theorem rcheck_any (s : TxM) (w : World) (hs : s.ok w) :
    Calls Tryz.prog 53 #[.agg s.cells.toArray] w fun e w' => e = .returned (.int .i64 (checkF s)) ∧ Below w.heap.size w w' := by
  obtain ⟨Z, hZ⟩ : ∃ Z, Z = checkF s := ⟨_, rfl⟩
  rw [← hZ]
  have HZ := Lib.hid hZ
  have HS := Lib.hid hs
  obtain ⟨I, hI⟩ : ∃ I, I = s.I := ⟨_, rfl⟩
  obtain ⟨O, hO⟩ : ∃ O, O = s.O := ⟨_, rfl⟩
  obtain ⟨a1, c1, hiv⟩ : ∃ a c, s.iv = .slice a I.length c := by rw [hI]; exact hs.I.2.form
  obtain ⟨a3, c3, hov⟩ : ∃ a c, s.ov = .slice a O.length c := by rw [hO]; exact hs.O.2.form
  have HIs := Lib.hid (show InsIs w (.slice a1 I.length c1) I by rw [← hiv, hI]; exact hs.I)
  have HOs := Lib.hid (show OutsIs w (.slice a3 O.length c3) O by rw [← hov, hO]; exact hs.O)
  have HFo := Lib.hid (show TxForm s ↔ (1 ≤ I.length ∧ I.length ≤ 64) ∧ (1 ≤ O.length ∧ O.length ≤ 64) ∧ GoodTo I I.length by rw [hI, hO]; rfl)
  have HV := Lib.hid (And.intro hiv (And.intro hov (And.intro hI hO)))
  have hlI : I.length ≤ 9223372036854775807 := HIs.out.2.len
  have hlO : O.length ≤ 9223372036854775807 := HOs.out.2.len
  clear hZ hs hI hO hiv hov
  go_enter Tryz.func53, Tryz.ntmps53
  go_upto_region 1 with fail
  have hm := Arr.made w 53 s.cells
  have hb := (Below.refl w.heap.size w).alloc (Nat.le_refl _) (.cells s.cells.toArray 53)
  have HA := Lib.hid hm
  have HB := Lib.hid hb
  clear hm hb
  generalize World.alloc _ _ = w1 at *
  obtain ⟨g0, hg⟩ : ∃ g, w.heap.size = g := ⟨_, rfl⟩
  rw [hg] at HA HB ⊢
  have HG := Lib.hid hg
  have HZs := Lib.hid (show g0 ≤ w1.heap.size from Nat.le_of_lt HA.out.lt)
  have HIw := Lib.hid (HIs.out.below (w' := w1) (by rw [hg]; exact HB.out))
  have HOw := Lib.hid (HOs.out.below (w' := w1) (by rw [hg]; exact HB.out))
  clear hg HIs HOs
  have x0 := HA.out.cell 0
  have x1 := HA.out.cell 1
  replace x0 : w1.cell? ⟨g0, 0, none⟩ = some s.iv := x0
  replace x1 : w1.cell? ⟨g0, 1, none⟩ = some s.ov := x1
  rw [HV.out.1] at x0
  rw [HV.out.2.1] at x1
  by_cases i1 : 1 ≤ I.length
  · have a1' : ¬ (((I.length : Nat) : Int) < 1) := by omega
    by_cases i2 : I.length ≤ 64
    · have a2' : ¬ (((I.length : Nat) : Int) > 64) := by omega
      by_cases o1 : 1 ≤ O.length
      · have a3' : ¬ (((O.length : Nat) : Int) < 1) := by omega
        by_cases o2 : O.length ≤ 64
        · have a4' : ¬ (((O.length : Nat) : Int) > 64) := by omega
          have HF := Lib.hid (And.intro (And.intro i1 i2) (And.intro o1 o2))
          clear i1 i2 o1 o2
          go_wp2
          clear x0 x1 a1' a2' a3' a4'
          go_loopg [3] I.length (fun gg v3 wq => ∃ k : Nat, Hid (gg + k = I.length) ∧ v3 = .int .i64 (k : Int) ∧ Hid (GoodTo I k) ∧ Hid (Below w1.heap.size w1 wq))
          case atStart => exact ⟨0, rfl, rfl, GoodTo.zero I, Below.refl _ _⟩
          case round =>
            obtain ⟨k, hk, rfl, hgd, hb⟩ := hrel
            have HK := Lib.hid hk.out
            have HGd := Lib.hid hgd.out
            have HBq := Lib.hid hb.out
            clear hk hgd hb
            have z0 := (HA.out.below HBq.out HA.out.lt).cell 0
            replace z0 : wr.cell? ⟨g0, 0, none⟩ = some s.iv := z0
            rw [HV.out.1] at z0
            cases gk with
            | zero =>
              have hlt : ¬ ((k : Int) < ((I.length : Nat) : Int)) := by have := HK.out; omega
              have z1 := (HA.out.below HBq.out HA.out.lt).cell 1
              replace z1 : wr.cell? ⟨g0, 1, none⟩ = some s.ov := z1
              rw [HV.out.2.1] at z1
              have HTf := Lib.hid (show TxForm s from HFo.out.2 ⟨HF.out.1, HF.out.2, HGd.out.mono (by have := HK.out; omega)⟩)
              have HZ2 := Lib.hid (show Z = if ∃ o ∈ O, o.a = 0 then 5 else (sumGo (amts O) 0).2 by
                rw [HZ.out, HV.out.2.2.2]; unfold checkF
                rw [if_pos HTf.out])
              clear HZ HGd
              obtain ⟨B, hB⟩ : ∃ B, wr.heap.size = B := ⟨_, rfl⟩
              have HBe := Lib.hid hB
              have HOr := Lib.hid (HOw.out.below HBq.out)
              have HBs := Lib.hid (show g0 ≤ B by rw [← hB]; exact Nat.le_trans HZs.out HBq.out.size)
              have HB9 := Lib.hid (HB.out.trans (HBq.out.mono HZs.out))
              have HA9 := Lib.hid (HA.out.below HBq.out HA.out.lt)
              clear hB HOw HIw HBq
              go_wp2
              clear z0 z1
              obtain ⟨wx, hwx⟩ : ∃ wx, wr = wx := ⟨_, rfl⟩
              rw [hwx] at HBe HOr HB9 HA9 ⊢
              clear hwx
              go_loopg [5, 6] O.length (fun gg v5 v6 wq => ∃ k : Nat, Hid (gg + k = O.length) ∧ v6 = .int .i64 (k : Int) ∧ Hid (∀ j o, j < k → O[j]? = some o → o.a ≠ 0) ∧ Hid (wq.ownsRow B 26 1 v5 (nums64 (amts (O.take k))).length (nums64 (amts (O.take k)))) ∧ Hid (Below wx.heap.size wx wq))
              case atStart => exact ⟨0, rfl, rfl, fun j o hj => absurd hj (Nat.not_lt_zero j), own_nil _ _ _ _, Below.refl _ _⟩
              case round =>
                obtain ⟨k, hk, rfl, hj, ho, hb⟩ := hrel
                have HK := Lib.hid hk.out
                have HJ := Lib.hid hj.out
                have HO := Lib.hid ho.out
                have HBq := Lib.hid hb.out
                clear hk hj ho hb
                have z1 := (HA9.out.below HBq.out HA9.out.lt).cell 1
                replace z1 : wr.cell? ⟨g0, 1, none⟩ = some s.ov := z1
                rw [HV.out.2.1] at z1
                cases gk with
                | zero =>
                  have hlt : ¬ ((k : Int) < ((O.length : Nat) : Int)) := by have := HK.out; omega
                  have HNo := Lib.hid (show Z = (sumGo (amts O) 0).2 by
                    rw [HZ2.out, if_neg]
                    rintro ⟨o, ho, e⟩
                    obtain ⟨j, hj⟩ := List.getElem?_of_mem ho
                    exact HJ.out j o (by have := HK.out; have := (List.getElem?_eq_some_iff.1 hj).1; omega) hj e)
                  have hall := HO.out
                  rw [List.take_of_length_le (show O.length ≤ k by have := HK.out; omega)] at hall
                  obtain ⟨A, c, rfl, hcc⟩ := own_rdu hall (amts_ok HOr.out.1)
                  have HC := Lib.hid (refsum_any A c (amts O) wr (by rw [amts, List.length_map]; exact hlO) (amts_ok HOr.out.1) hcc)
                  clear hall hcc HO HJ
                  go_wp2_with fail
                  refine HC.out.mono ?_
                  rintro e w3 ⟨rfl, rfl⟩
                  dsimp only
                  go_wp2
                  go_ret
                  exact ⟨by rw [HNo.out]; rfl, by rw [HG.out]; exact HB9.out.trans (HBq.out.mono (by rw [HBe.out]; exact HBs.out))⟩
                | succ gg =>
                  have hkl : k < O.length := by have := HK.out; omega
                  have hlt : ((k : Int) < ((O.length : Nat) : Int)) := by omega
                  obtain ⟨x, hx⟩ : ∃ x, O[k]? = some x := ⟨_, List.getElem?_eq_getElem hkl⟩
                  have hO := HOr.out.2.below HBq.out
                  obtain ⟨b1, off1, hab, hl1, hr1⟩ := hO.at hx
                  rw [hab] at z1
                  have hcx : wr.cell? ⟨b1, off1 + k * 33, none⟩ = some (.int .u64 (x.a : Nat)) := hr1 0 _ rfl
                  have HX := Lib.hid hx
                  clear hO hl1 hr1 hx hab
                  by_cases hz : x.a = 0
                  · have hq : (((x.a : Nat) : Int) == 0) = true := by rw [hz]; rfl
                    have HF5 := Lib.hid (show Z = 5 by rw [HZ2.out, if_pos ⟨x, List.mem_of_getElem? HX.out, hz⟩])
                    clear hz
                    go_wp2
                    go_ret
                    exact ⟨by rw [HF5.out]; rfl, by rw [HG.out]; exact HB9.out.trans (HBq.out.mono (by rw [HBe.out]; exact HBs.out))⟩
                  · have hq : (((x.a : Nat) : Int) == 0) = false := beq_false_of_ne (by omega)
                    have HNz := Lib.hid hz
                    have HLa := Lib.hid (show (nums64 (amts (O.take k))).length ≤ 64 by rw [nums64, amts, List.length_map, List.length_map, List.length_take]; have := HF.out.2.2; omega)
                    have HZ3 := Lib.hid (show B ≤ wr.heap.size by rw [← HBe.out]; exact HBq.out.size)
                    clear hz
                    go_upto_region 19 with fail
                    go_step
                    iterate 24 (first | go_values | go_skip | go_guarded | go_step | go_upon)
                    refine app1 B rfl _ _ 113 26 (.int .u64 0) 8 rfl Tryz.underlying113 info_u64 rfl (by decide) u5 (nums64 (amts (O.take k))) (.int .u64 (x.a : Nat)) rfl rfl rfl HO.out HZ3.out (by have := HLa.out; omega) ?_
                    intro v4 w4 hown hbel hgr hsz
                    rw [← amts_snoc O k x HX.out] at hown
                    have HO4 := Lib.hid hown
                    have HB4 := Lib.hid (hbel _ _ HBq.out (by rw [HBe.out]; exact Nat.le_refl _))
                    have HJ4 := Lib.hid (show ∀ j o, j < k + 1 → O[j]? = some o → o.a ≠ 0 by
                      intro j o hj ho
                      rcases Nat.lt_or_ge j k with h | h
                      · exact HJ.out j o h ho
                      · obtain rfl : j = k := by omega
                        rw [HX.out] at ho
                        obtain rfl := Option.some.inj ho
                        exact HNz.out)
                    clear hown hbel hgr hsz HO HBq hcx z1
                    go_wp2
                    go_roundg gg
                    case measure => omega
                    case rel => exact ⟨k + 1, by show _ = _; have := HK.out; omega, by go_num, HJ4.out, HO4.out, HB4.out⟩
            | succ gg =>
              have hkl : k < I.length := by have := HK.out; omega
              have hlt : ((k : Int) < ((I.length : Nat) : Int)) := by omega
              obtain ⟨x, hx⟩ : ∃ x, I[k]? = some x := ⟨_, List.getElem?_eq_getElem hkl⟩
              have hIq := HIw.out.below HBq.out
              obtain ⟨b1, off1, hab, hl1, hr1⟩ := hIq.2.at hx
              rw [hab] at z0
              have hox := hIq.1 x (List.mem_of_getElem? hx)
              obtain ⟨a2, c2, hwv⟩ : ∃ a c, x.wv = .slice a x.W.length c := hox.W.form
              have hcw := in_wit x hox.id hr1
              rw [hwv] at hcw
              have HX := Lib.hid hx
              have HOX := Lib.hid hox
              have HAb := Lib.hid hab
              have HRx := Lib.hid hr1
              clear hIq hl1 hr1 hox hx hwv hab
              by_cases hw : x.W.length ≤ 256
              · have hw2 : ¬ ((x.W.length : Nat) : Int) > 256 := by omega
                have HW := Lib.hid hw
                clear hw
                go_wp2
                clear hw2 hcw z0
                obtain ⟨wx, hwx⟩ : ∃ wx, wr = wx := ⟨_, rfl⟩
                rw [hwx] at HBq HRx ⊢
                have HOY := Lib.hid (HIw.out.below HBq.out)
                clear hwx
                go_loopg [4] k (fun gg v4 wq => ∃ m : Nat, Hid (gg + m = k) ∧ v4 = .int .i64 (m : Int) ∧ Hid (∀ i y, i < m → I[i]? = some y → ¬ y.like x) ∧ Hid (Below wx.heap.size wx wq))
                case atStart => exact ⟨0, rfl, rfl, fun i y hi => absurd hi (Nat.not_lt_zero i), Below.refl _ _⟩
                case round =>
                  obtain ⟨m, hm, rfl, hno, hb⟩ := hrel
                  have HM := Lib.hid hm.out
                  have HNo := Lib.hid hno.out
                  have HB2 := Lib.hid hb.out
                  clear hm hno hb
                  cases gk with
                  | zero =>
                    have hlt2 : ¬ ((m : Int) < (k : Int)) := by have := HM.out; omega
                    have HG2 := Lib.hid (show GoodTo I (k + 1) by
                      refine HGd.out.next HX.out HW.out ?_
                      rintro ⟨z, hz, e⟩
                      obtain ⟨i, hi⟩ := List.getElem?_of_mem hz
                      have hik : i < k := by
                        have := (List.getElem?_eq_some_iff.1 hi).1
                        rw [List.length_take] at this; omega
                      rw [List.getElem?_take_of_lt hik] at hi
                      exact HNo.out i z (by have := HM.out; omega) hi e)
                    have HB4 := Lib.hid (HBq.out.trans (HB2.out.mono HBq.out.size))
                    go_wp2
                    go_roundg gg
                    case measure => omega
                    case rel => exact ⟨k + 1, by show _ = _; have := HK.out; omega, by go_num, HG2.out, HB4.out⟩
                  | succ g4 =>
                    have hml : m < k := by have := HM.out; omega
                    have hlt2 : ((m : Int) < (k : Int)) := by omega
                    have hmI : m < I.length := by omega
                    obtain ⟨y, hy⟩ : ∃ y, I[m]? = some y := ⟨_, List.getElem?_eq_getElem hmI⟩
                    have hIq := HOY.out.below HB2.out
                    obtain ⟨b3, off3, hab3, hl3, hr3⟩ := hIq.2.at hy
                    obtain ⟨rfl, rfl⟩ : b3 = b1 ∧ off3 = off1 := by
                      have := hab3.symm.trans HAb.out
                      simpa using this
                    have hoy := hIq.1 y (List.mem_of_getElem? hy)
                    have z0 := ((HA.out.below HBq.out HA.out.lt).below HB2.out (Nat.lt_of_lt_of_le HA.out.lt HBq.out.size)).cell 0
                    replace z0 : wr.cell? ⟨g0, 0, none⟩ = some s.iv := z0
                    rw [HV.out.1, hab3] at z0
                    have HY := Lib.hid (And.intro hy hoy)
                    have hrx := range_below HRx.out HB2.out
                    have HS9 := Lib.hid (And.intro (size_outv y hoy.id) (size_outv x HOX.out.id))
                    have HW1 := Lib.hid (show ∀ p : Beh wr, p.x.rangeAt b3 (off3 + m * 34) y.out from fun p => in_outAt y (range_below hr3 p.h))
                    have HW2 := Lib.hid (show ∀ p : Beh wr, p.x.rangeAt b3 (off3 + k * 34) x.out from fun p => in_outAt x (range_below hrx p.h))
                    clear hIq hl3 hr3 hoy hy hab3 hrx
                    go_upto_region 11 with fail
                    have f0 : ∀ p : Beh wr, p.x.cell? ⟨g0, 0, none⟩ = some (.slice (some ⟨b3, off3, none⟩) I.length c1) := fun p => cellb p.h z0
                    clear z0
                    by_cases hd : y.id = x.id ∧ y.k = x.k
                    · have heq : ∀ w9, (Op.equalIn 10000 73 (.agg y.out.toArray) (.agg x.out.toArray)).run Tryz.prog w9 = .ok true w9 := fun w9 => neOp w9 y x HY.out.2.id HOX.out.id _ (by rw [← Bool.decide_and]; exact decide_eq_true hd)
                      have HF2 := Lib.hid (show Z = 2 by rw [HZ.out]; exact checkF_bad (fun h => ((HFo.out.1 h).2.2 k x (by have := HK.out; omega) HX.out).2 m y (by have := HM.out; omega) HY.out.1 hd))
                      clear hd
                      refine wp_region_Q _ rfl (by kernel_rfl) (by kernel_rfl) ?_
                      iterate 5
                        (refine wpQuiet_step (fun K hK => ?_)
                         go_simp
                         first
                           | (refine hK _ ?_; clear hK K)
                           | (apply Exists.intro
                              refine ⟨fun _ => ?_, hK _ ?_⟩
                              (with_reducible rfl)
                              clear hK K))
                      refine wpQ_load (by rfl) 73 (.tmp 55) rfl (b3) (off3 + m * 34) rfl (y.out) _ (fun w hw => by obtain ⟨p, rfl⟩ := hw; exact (HW1.out p)) Tryz.underlying73 rfl HS9.out.1 ?_
                      dsimp only [Act.put]
                      simp only [List.setIfInBounds_toArray, List.set_cons_zero, List.set_cons_succ]
                      iterate 5
                        (refine wpQuiet_step (fun K hK => ?_)
                         go_simp
                         first
                           | (refine hK _ ?_; clear hK K)
                           | (apply Exists.intro
                              refine ⟨fun _ => ?_, hK _ ?_⟩
                              (with_reducible rfl)
                              clear hK K))
                      refine wpQ_load (by rfl) 73 (.tmp 61) rfl (b3) (off3 + k * 34) rfl (x.out) _ (fun w hw => by obtain ⟨p, rfl⟩ := hw; exact (HW2.out p)) Tryz.underlying73 rfl HS9.out.2 ?_
                      dsimp only [Act.put]
                      simp only [List.setIfInBounds_toArray, List.set_cons_zero, List.set_cons_succ]
                      iterate 1
                        (refine wpQuiet_step (fun K hK => ?_)
                         go_simp
                         first
                           | (refine hK _ ?_; clear hK K)
                           | (apply Exists.intro
                              refine ⟨fun _ => ?_, hK _ ?_⟩
                              (with_reducible rfl)
                              clear hK K))
                      refine wpQuiet_nil ?_
                      rintro w9 ⟨⟨w9, hb9⟩, rfl⟩
                      have HB8 := Lib.hid (HBq.out.trans ((HB2.out.trans (hb9.mono HB2.out.size)).mono HBq.out.size))
                      clear hb9 heq HW1 HW2 f0 HB2
                      go_wp2
                      go_ret
                      exact ⟨by rw [HF2.out]; rfl, by rw [HG.out]; exact HB.out.trans (HB8.out.mono HZs.out)⟩
                    · have heq : ∀ w9, (Op.equalIn 10000 73 (.agg y.out.toArray) (.agg x.out.toArray)).run Tryz.prog w9 = .ok false w9 := fun w9 => neOp w9 y x HY.out.2.id HOX.out.id _ (by rw [← Bool.decide_and]; exact decide_eq_false hd)
                      have HN2 := Lib.hid (show ∀ i z, i < m + 1 → I[i]? = some z → ¬ z.like x by
                        intro i z hi hz
                        rcases Nat.lt_or_ge i m with h | h
                        · exact HNo.out i z h hz
                        · obtain rfl : i = m := by omega
                          rw [HY.out.1] at hz
                          obtain rfl := Option.some.inj hz
                          exact hd)
                      clear hd
                      refine wp_region_Q _ rfl (by kernel_rfl) (by kernel_rfl) ?_
                      iterate 5
                        (refine wpQuiet_step (fun K hK => ?_)
                         go_simp
                         first
                           | (refine hK _ ?_; clear hK K)
                           | (apply Exists.intro
                              refine ⟨fun _ => ?_, hK _ ?_⟩
                              (with_reducible rfl)
                              clear hK K))
                      refine wpQ_load (by rfl) 73 (.tmp 55) rfl (b3) (off3 + m * 34) rfl (y.out) _ (fun w hw => by obtain ⟨p, rfl⟩ := hw; exact (HW1.out p)) Tryz.underlying73 rfl HS9.out.1 ?_
                      dsimp only [Act.put]
                      simp only [List.setIfInBounds_toArray, List.set_cons_zero, List.set_cons_succ]
                      iterate 5
                        (refine wpQuiet_step (fun K hK => ?_)
                         go_simp
                         first
                           | (refine hK _ ?_; clear hK K)
                           | (apply Exists.intro
                              refine ⟨fun _ => ?_, hK _ ?_⟩
                              (with_reducible rfl)
                              clear hK K))
                      refine wpQ_load (by rfl) 73 (.tmp 61) rfl (b3) (off3 + k * 34) rfl (x.out) _ (fun w hw => by obtain ⟨p, rfl⟩ := hw; exact (HW2.out p)) Tryz.underlying73 rfl HS9.out.2 ?_
                      dsimp only [Act.put]
                      simp only [List.setIfInBounds_toArray, List.set_cons_zero, List.set_cons_succ]
                      iterate 1
                        (refine wpQuiet_step (fun K hK => ?_)
                         go_simp
                         first
                           | (refine hK _ ?_; clear hK K)
                           | (apply Exists.intro
                              refine ⟨fun _ => ?_, hK _ ?_⟩
                              (with_reducible rfl)
                              clear hK K))
                      refine wpQuiet_nil ?_
                      rintro w9 ⟨⟨w9, hb9⟩, rfl⟩
                      have HB8 := Lib.hid (HB2.out.trans (hb9.mono HB2.out.size))
                      clear hb9 heq HW1 HW2 f0 HB2
                      go_wp2
                      go_roundg g4
                      case measure => omega
                      case rel => exact ⟨m + 1, by show _ = _; have := HM.out; omega, by go_num, HN2.out, HB8.out⟩
              · have hw2 : ((x.W.length : Nat) : Int) > 256 := by omega
                have HF2 := Lib.hid (show Z = 2 by rw [HZ.out]; exact checkF_bad (fun h => hw ((HFo.out.1 h).2.2 k x (by have := HK.out; omega) HX.out).1))
                clear hw
                go_wp2
                go_ret
                exact ⟨by rw [HF2.out]; rfl, by rw [HG.out]; exact HB.out.trans (HBq.out.mono HZs.out)⟩
        · have a4' : (((O.length : Nat) : Int) > 64) := by omega
          have HF := Lib.hid (show Z = 2 by rw [HZ.out]; exact checkF_bad (fun h => o2 (HFo.out.1 h).2.1.2))
          clear i1 i2 o1 o2
          go_wp2
          go_ret
          exact ⟨by rw [HF.out]; rfl, by rw [HG.out]; exact HB.out⟩
      · have a3' : (((O.length : Nat) : Int) < 1) := by omega
        have HF := Lib.hid (show Z = 2 by rw [HZ.out]; exact checkF_bad (fun h => o1 (HFo.out.1 h).2.1.1))
        clear i1 i2 o1
        go_wp2
        go_ret
        exact ⟨by rw [HF.out]; rfl, by rw [HG.out]; exact HB.out⟩
    · have a2' : (((I.length : Nat) : Int) > 64) := by omega
      have HF := Lib.hid (show Z = 2 by rw [HZ.out]; exact checkF_bad (fun h => i2 (HFo.out.1 h).1.2))
      clear i1 i2
      go_wp2
      go_ret
      exact ⟨by rw [HF.out]; rfl, by rw [HG.out]; exact HB.out⟩
  · have a1' : (((I.length : Nat) : Int) < 1) := by omega
    have HF := Lib.hid (show Z = 2 by rw [HZ.out]; exact checkF_bad (fun h => i1 (HFo.out.1 h).1.1))
    clear i1
    go_wp2
    go_ret
    exact ⟨by rw [HF.out]; rfl, by rw [HG.out]; exact HB.out⟩
set_option maxRecDepth 100000 in
theorem rtxmay_any (s : TxM) (w : World) (hs : s.ok w) :
    Calls Tryz.prog 26 #[.agg s.cells.toArray] w fun e w' => e = .returned (.bool (decide (checkF s = 0))) ∧ Below w.heap.size w w' := by
  have HS := Lib.hid hs
  obtain ⟨Z, hZ⟩ : ∃ Z, checkF s = Z := ⟨_, rfl⟩
  rw [hZ]
  have HZ := Lib.hid hZ
  clear hs hZ
  go_enter Tryz.func26, Tryz.ntmps26
  go_upto_region 1 with fail
  have hm := Arr.made w 53 s.cells
  have hb := (Below.refl w.heap.size w).alloc (Nat.le_refl _) (.cells s.cells.toArray 53)
  have HA := Lib.hid hm
  have HB := Lib.hid hb
  have HS1 := Lib.hid (HS.out.below hb)
  have HSz := Lib.hid (show (Tryz.prog.info? 53).map (·.size) = some s.cells.length from size_tx)
  clear hm hb HS
  generalize World.alloc _ _ = w1 at *
  have HC := Lib.hid (rcheck_any s w1 HS1.out)
  rw [HZ.out] at HC
  go_step
  refine wpList_load_mid (P := Tryz.prog) rfl 53 _ rfl w.heap.size 0 rfl _ _ HA.out.range Tryz.underlying53 rfl HSz.out ?_
  go_wp2_with fail
  refine HC.out.mono ?_
  rintro e w2 ⟨rfl, hb⟩
  dsimp only
  have HB2 := Lib.hid (HB.out.trans (hb.mono HB.out.size))
  clear HC hb HB HA HS1
  by_cases hz : Z = 0
  · have hq : (Z == 0) = true := by rw [hz]; rfl
    have HD := Lib.hid (decide_eq_true hz)
    clear hz
    go_wp2
    go_ret
    exact ⟨by rw [HD.out]; rfl, HB2.out⟩
  · have hq : (Z == 0) = false := beq_false_of_ne hz
    have HD := Lib.hid (decide_eq_false hz)
    clear hz
    go_wp2
    go_ret
    exact ⟨by rw [HD.out]; rfl, HB2.out⟩
end Go.Proofs.YtnohfondkcbdnaaGreatDoor
