/- plexusref05.Same. -/
import Derived.Test.YtnohfondkcbdnaaGreatDoorG05
import Derived.Maps.OwnSet
import Derived.Maps.Views
import Derived.DeepKeys4
namespace Go.Proofs.YtnohfondkcbdnaaGreatDoor
open Go.RowKit Go.Lib
set_option linter.unusedVariables false
set_option linter.unusedSimpArgs false
attribute [local go_sem ↓] Go.wp_at_zero Go.wp_at_succ

theorem key_parts {s t : TxM} (h1 : s.n = t.n) (h2 : s.I.map InM.key = t.I.map InM.key) (h3 : s.O = t.O) : s.key = t.key := by
  unfold TxM.key; rw [h1, h2, h3]
theorem key_at {I J : List InM} {k : Nat} {x y : InM} (hx : I[k]? = some x) (hy : J[k]? = some y) (h : I.map InM.key = J.map InM.key) : x.key = y.key := by
  have h9 := congrArg (fun l => l[k]?) h
  simp only [List.getElem?_map, hx, hy, Option.map_some] at h9
  exact Option.some.inj h9
theorem in_outAt {w : World} {b off : Nat} (i : InM) (h : w.rangeAt b off i.cells) : w.rangeAt b off i.out := fun j v hv => by
  refine h j v ?_
  unfold InM.out at hv
  unfold InM.cells
  rw [← List.append_assoc, List.getElem?_append_left (List.getElem?_eq_some_iff.1 hv).1]
  exact hv
theorem neOp (w : World) (i j : InM) (hi : IsH i.id) (hj : IsH j.id) (R : Bool) (h : (decide (i.id = j.id) && decide (i.k = j.k)) = R) : (Op.equalIn 10000 73 (.agg i.out.toArray) (.agg j.out.toArray)).run Tryz.prog w = .ok R w :=
  (eqOp w 9997 i j hi hj).trans (by rw [h])
set_option maxRecDepth 100000 in
set_option maxHeartbeats 3200000 in
theorem rsame_any (s t : TxM) (w : World) (hs : s.ok w) (ht : t.ok w) :
    Calls Tryz.prog 31 #[.agg s.cells.toArray, .agg t.cells.toArray] w fun e w' => e = .returned (.bool (decide (s.key = t.key))) ∧ Below w.heap.size w w' := by
  obtain ⟨R, hR⟩ : ∃ R : Bool, R = decide (s.key = t.key) := ⟨_, rfl⟩
  rw [← hR]
  have HR := Lib.hid hR
  clear hR
  obtain ⟨iv, ov, I, O, n⟩ := s
  obtain ⟨jv, qv, J, Q, m⟩ := t
  obtain ⟨a1, c1, rfl⟩ : ∃ a c, iv = .slice a I.length c := hs.I.2.form
  obtain ⟨a2, c2, rfl⟩ : ∃ a c, jv = .slice a J.length c := ht.I.2.form
  obtain ⟨a3, c3, rfl⟩ : ∃ a c, ov = .slice a O.length c := hs.O.2.form
  obtain ⟨a4, c4, rfl⟩ : ∃ a c, qv = .slice a Q.length c := ht.O.2.form
  have HS := Lib.hid hs
  have HT := Lib.hid ht
  have hll : I.length ≤ 9223372036854775807 := hs.I.2.len
  have hlo : O.length ≤ 9223372036854775807 := hs.O.2.len
  clear hs ht
  show Calls Tryz.prog 31 #[.agg #[.slice a1 I.length c1, .slice a3 O.length c3, .int .u64 (n : Nat)], .agg #[.slice a2 J.length c2, .slice a4 Q.length c4, .int .u64 (m : Nat)]] w _
  go_enter Tryz.func31, Tryz.ntmps31
  go_upto_region 1 with fail
  have hpk := two w (.cells #[.slice a1 I.length c1, .slice a3 O.length c3, .int .u64 (n : Nat)] 53) (.cells #[.slice a2 J.length c2, .slice a4 Q.length c4, .int .u64 (m : Nat)] 53)
  have HA1 := Lib.hid (show Arr _ w.heap.size 53 [.slice a1 I.length c1, .slice a3 O.length c3, .int .u64 (n : Nat)] from hpk.1)
  have HA2 := Lib.hid (show Arr _ (w.heap.size + 1) 53 [.slice a2 J.length c2, .slice a4 Q.length c4, .int .u64 (m : Nat)] from hpk.2.1)
  have HB1 := Lib.hid hpk.2.2.2
  clear hpk
  generalize World.alloc (World.alloc _ _) _ = w1 at *
  have HS1 := Lib.hid (HS.out.below HB1.out)
  have HT1 := Lib.hid (HT.out.below HB1.out)
  obtain ⟨g0, hg⟩ : ∃ g, w.heap.size = g := ⟨_, rfl⟩
  rw [hg] at HA1 HA2 ⊢
  have HG := Lib.hid hg
  have HB := Lib.hid (show Below g0 w w1 by rw [← hg]; exact HB1.out)
  have HZ := Lib.hid (show g0 ≤ w1.heap.size by rw [← hg]; exact HB1.out.size)
  clear hg HB1 HS HT
  have x0 := HA1.out.cell 0
  have x1 := HA1.out.cell 1
  have x2 := HA1.out.cell 2
  have y0 := HA2.out.cell 0
  have y1 := HA2.out.cell 1
  have y2 := HA2.out.cell 2
  dsimp only [List.getElem?_cons_zero, List.getElem?_cons_succ] at x0 x1 x2 y0 y1 y2
  by_cases hc : n = m ∧ I.length = J.length ∧ O.length = Q.length
  · obtain ⟨hn, hI, hO⟩ := hc
    have HC := Lib.hid (And.intro hn (And.intro hI hO))
    have q1 : (((n : Nat) : Int) != ((m : Nat) : Int)) = false := by rw [bne_eq_false_iff_eq, hn]
    have q2 : (((I.length : Nat) : Int) != ((J.length : Nat) : Int)) = false := by rw [bne_eq_false_iff_eq, hI]
    have q3 : (((O.length : Nat) : Int) != ((Q.length : Nat) : Int)) = false := by rw [bne_eq_false_iff_eq, hO]
    have r1 : (((n : Nat) : Int) == ((m : Nat) : Int)) = true := by rw [beq_iff_eq, hn]
    have r2 : (((I.length : Nat) : Int) == ((J.length : Nat) : Int)) = true := by rw [beq_iff_eq, hI]
    have r3 : (((O.length : Nat) : Int) == ((Q.length : Nat) : Int)) = true := by rw [beq_iff_eq, hO]
    clear hn hI hO
    go_wp2
    clear q1 q2 q3 r1 r2 r3 x0 x1 x2 y0 y1 y2
    go_loopg [5] I.length (fun g v5 wq => ∃ k : Nat, Hid (g + k = I.length) ∧ v5 = .int .i64 (k : Int) ∧ Hid (∀ j, j < k → (I.map InM.key)[j]? = (J.map InM.key)[j]?) ∧ Hid (Below w1.heap.size w1 wq))
    case atStart => exact ⟨0, rfl, rfl, fun j hj => absurd hj (Nat.not_lt_zero j), Below.refl _ _⟩
    case round =>
      obtain ⟨k, hk, rfl, hj, hb⟩ := hrel
      have HK := Lib.hid hk.out
      have HJq := Lib.hid hj.out
      have HBq := Lib.hid hb.out
      clear hk hj hb
      have z0 := (HA1.out.below HBq.out HA1.out.lt).cell 0
      have z1 := (HA2.out.below HBq.out HA2.out.lt).cell 0
      dsimp only [List.getElem?_cons_zero, List.getElem?_cons_succ] at z0 z1
      cases gk with
      | zero =>
        have hlt : ¬ ((k : Int) < ((I.length : Nat) : Int)) := by have := HK.out; omega
        have HEq := Lib.hid (show I.map InM.key = J.map InM.key by
          apply List.ext_getElem?
          intro j
          rcases Nat.lt_or_ge j I.length with hj | hj
          · exact HJq.out j (by have := HK.out; omega)
          · rw [List.getElem?_eq_none (by rw [List.length_map]; exact hj), List.getElem?_eq_none (by rw [List.length_map, ← HC.out.2.1]; exact hj)])
        clear HJq
        go_wp2
        clear z0 z1 hlt
        have HB9 := Lib.hid HBq.out
        clear HBq
        go_loopg [6] O.length (fun g v6 wq => ∃ k : Nat, Hid (g + k = O.length) ∧ v6 = .int .i64 (k : Int) ∧ Hid (∀ j, j < k → O[j]? = Q[j]?) ∧ Hid (Below w1.heap.size w1 wq))
        case atStart => exact ⟨0, rfl, rfl, fun j hj => absurd hj (Nat.not_lt_zero j), HB9.out⟩
        case round =>
          obtain ⟨k2, hk, rfl, hj, hb⟩ := hrel
          have HK := Lib.hid hk.out
          have HJq := Lib.hid hj.out
          have HBq := Lib.hid hb.out
          clear hk hj hb HB9
          have z0 := (HA1.out.below HBq.out HA1.out.lt).cell 1
          have z1 := (HA2.out.below HBq.out HA2.out.lt).cell 1
          dsimp only [List.getElem?_cons_zero, List.getElem?_cons_succ] at z0 z1
          cases gk with
          | zero =>
            have hlt : ¬ ((k2 : Int) < ((O.length : Nat) : Int)) := by have := HK.out; omega
            have HRo := Lib.hid (show R = true by
              rw [HR.out]
              refine decide_eq_true (key_parts HC.out.1 HEq.out ?_)
              apply List.ext_getElem?
              intro j
              rcases Nat.lt_or_ge j O.length with hj | hj
              · exact HJq.out j (by have := HK.out; omega)
              · rw [List.getElem?_eq_none hj, List.getElem?_eq_none (by rw [← HC.out.2.2]; exact hj)])
            go_wp2
            go_ret
            exact ⟨by rw [HRo.out]; rfl, by rw [HG.out]; exact HB.out.trans (HBq.out.mono HZ.out)⟩
          | succ g =>
            have hkl : k2 < O.length := by have := HK.out; omega
            have hkb : k2 < Q.length := by rw [← HC.out.2.2]; exact hkl
            have hlt : ((k2 : Int) < ((O.length : Nat) : Int)) := by omega
            obtain ⟨x, hx⟩ : ∃ x, O[k2]? = some x := ⟨_, List.getElem?_eq_getElem hkl⟩
            obtain ⟨y, hy⟩ : ∃ y, Q[k2]? = some y := ⟨_, List.getElem?_eq_getElem hkb⟩
            obtain ⟨b1, off1, rfl, hl1, hr1⟩ := (HS1.out.O.2.below HBq.out).at hx
            obtain ⟨b2, off2, rfl, hl2, hr2⟩ := (HT1.out.O.2.below HBq.out).at hy
            have hox := HS1.out.O.1 x (List.mem_of_getElem? hx)
            have hoy := HT1.out.O.1 y (List.mem_of_getElem? hy)
            have HXe := Lib.hid (And.intro hx hy)
            have HKl := Lib.hid (And.intro hkl hkb)
            have HX := Lib.hid (And.intro hox hoy)
            have HS9 := Lib.hid (And.intro (size_outc x hox) (size_outc y hoy))
            have HW1 := Lib.hid (show ∀ p : Beh wr, p.x.rangeAt b1 (off1 + k2 * 33) x.cells from fun p => range_below hr1 p.h)
            have HW2 := Lib.hid (show ∀ p : Beh wr, p.x.rangeAt b2 (off2 + k2 * 33) y.cells from fun p => range_below hr2 p.h)
            clear hr1 hr2 hl1 hl2 hox hoy hx hy
            go_upto_region 11 with fail
            have f0 : ∀ p : Beh wr, p.x.cell? ⟨g0, 1, none⟩ = some (.slice (some ⟨b1, off1, none⟩) O.length c3) := fun p => cellb p.h z0
            have f1 : ∀ p : Beh wr, p.x.cell? ⟨g0 + 1, 1, none⟩ = some (.slice (some ⟨b2, off2, none⟩) Q.length c4) := fun p => cellb p.h z1
            clear z0 z1
            by_cases hd : x = y
            · have HD := Lib.hid hd
              have heq : ∀ w9, (Op.equalIn 10000 88 (.agg x.cells.toArray) (.agg y.cells.toArray)).run Tryz.prog w9 = .ok true w9 := fun w9 => (eqOut w9 9997 x y HX.out.1 HX.out.2).trans (by rw [decide_eq_true hd])
              clear hd
              refine wp_region_Q _ rfl (by kernel_rfl) (by kernel_rfl) ?_
              iterate 4
                (refine wpQuiet_step (fun K hK => ?_)
                 go_simp
                 first
                   | (refine hK _ ?_; clear hK K)
                   | (apply Exists.intro
                      refine ⟨fun _ => ?_, hK _ ?_⟩
                      (with_reducible rfl)
                      clear hK K))
              refine wpQ_load (by rfl) 88 (.tmp 77) rfl (b1) (off1 + k2 * 33) rfl (x.cells) _ (fun w hw => by obtain ⟨p, rfl⟩ := hw; exact (HW1.out p)) Tryz.underlying88 rfl HS9.out.1 ?_
              dsimp only [Act.put]
              simp only [List.setIfInBounds_toArray, List.set_cons_zero, List.set_cons_succ]
              iterate 4
                (refine wpQuiet_step (fun K hK => ?_)
                 go_simp
                 first
                   | (refine hK _ ?_; clear hK K)
                   | (apply Exists.intro
                      refine ⟨fun _ => ?_, hK _ ?_⟩
                      (with_reducible rfl)
                      clear hK K))
              refine wpQ_load (by rfl) 88 (.tmp 82) rfl (b2) (off2 + k2 * 33) rfl (y.cells) _ (fun w hw => by obtain ⟨p, rfl⟩ := hw; exact (HW2.out p)) Tryz.underlying88 rfl HS9.out.2 ?_
              dsimp only [Act.put]
              simp only [List.setIfInBounds_toArray, List.set_cons_zero, List.set_cons_succ]
              iterate 1
                (refine wpQuiet_step (fun K hK => ?_)
                 go_simp
                 first
                   | (refine hK _ ?_; clear hK K)
                   | (apply Exists.intro
                      refine ⟨fun _ => ?_, hK _ ?_⟩
                      (with_reducible rfl)
                      clear hK K))
              refine wpQuiet_nil ?_
              rintro w9 ⟨⟨w9, hb9⟩, rfl⟩
              have HB8 := Lib.hid (HBq.out.trans (hb9.mono HBq.out.size))
              have HJ2 := Lib.hid (show ∀ j, j < k2 + 1 → O[j]? = Q[j]? by
                intro j hj
                rcases Nat.lt_or_ge j k2 with h | h
                · exact HJq.out j h
                · obtain rfl : j = k2 := by omega
                  rw [HXe.out.1, HXe.out.2, HD.out])
              clear hb9 heq HW1 HW2 HJq HBq f0 f1
              go_wp2
              go_roundg g
              case measure => omega
              case rel => exact ⟨k2 + 1, by show _ = _; have := HK.out; omega, by go_num, HJ2.out, HB8.out⟩
            · have HRo := Lib.hid (show R = false by
                rw [HR.out]
                refine decide_eq_false (fun e => hd ?_)
                have h : O = Q := congrArg (fun k => k.2.1) e
                have h := congrArg (fun l => l[k2]?) h
                simp only [HXe.out.1, HXe.out.2] at h
                exact Option.some.inj h)
              have heq : ∀ w9, (Op.equalIn 10000 88 (.agg x.cells.toArray) (.agg y.cells.toArray)).run Tryz.prog w9 = .ok false w9 := fun w9 => (eqOut w9 9997 x y HX.out.1 HX.out.2).trans (by rw [decide_eq_false hd])
              clear hd
              refine wp_region_Q _ rfl (by kernel_rfl) (by kernel_rfl) ?_
              iterate 4
                (refine wpQuiet_step (fun K hK => ?_)
                 go_simp
                 first
                   | (refine hK _ ?_; clear hK K)
                   | (apply Exists.intro
                      refine ⟨fun _ => ?_, hK _ ?_⟩
                      (with_reducible rfl)
                      clear hK K))
              refine wpQ_load (by rfl) 88 (.tmp 77) rfl (b1) (off1 + k2 * 33) rfl (x.cells) _ (fun w hw => by obtain ⟨p, rfl⟩ := hw; exact (HW1.out p)) Tryz.underlying88 rfl HS9.out.1 ?_
              dsimp only [Act.put]
              simp only [List.setIfInBounds_toArray, List.set_cons_zero, List.set_cons_succ]
              iterate 4
                (refine wpQuiet_step (fun K hK => ?_)
                 go_simp
                 first
                   | (refine hK _ ?_; clear hK K)
                   | (apply Exists.intro
                      refine ⟨fun _ => ?_, hK _ ?_⟩
                      (with_reducible rfl)
                      clear hK K))
              refine wpQ_load (by rfl) 88 (.tmp 82) rfl (b2) (off2 + k2 * 33) rfl (y.cells) _ (fun w hw => by obtain ⟨p, rfl⟩ := hw; exact (HW2.out p)) Tryz.underlying88 rfl HS9.out.2 ?_
              dsimp only [Act.put]
              simp only [List.setIfInBounds_toArray, List.set_cons_zero, List.set_cons_succ]
              iterate 1
                (refine wpQuiet_step (fun K hK => ?_)
                 go_simp
                 first
                   | (refine hK _ ?_; clear hK K)
                   | (apply Exists.intro
                      refine ⟨fun _ => ?_, hK _ ?_⟩
                      (with_reducible rfl)
                      clear hK K))
              refine wpQuiet_nil ?_
              rintro w9 ⟨⟨w9, hb9⟩, rfl⟩
              have HB8 := Lib.hid (HBq.out.trans (hb9.mono HBq.out.size))
              clear hb9 heq HW1 HW2 HJq HBq f0 f1
              go_wp2
              go_ret
              exact ⟨by rw [HRo.out]; rfl, by rw [HG.out]; exact HB.out.trans (HB8.out.mono HZ.out)⟩
      | succ g =>
        have hkl : k < I.length := by have := HK.out; omega
        have hkb : k < J.length := by rw [← HC.out.2.1]; exact hkl
        have hlt : ((k : Int) < ((I.length : Nat) : Int)) := by omega
        obtain ⟨x, hx⟩ : ∃ x, I[k]? = some x := ⟨_, List.getElem?_eq_getElem hkl⟩
        obtain ⟨y, hy⟩ : ∃ y, J[k]? = some y := ⟨_, List.getElem?_eq_getElem hkb⟩
        obtain ⟨b1, off1, rfl, hl1, hr1⟩ := (HS1.out.I.2.below HBq.out).at hx
        obtain ⟨b2, off2, rfl, hl2, hr2⟩ := (HT1.out.I.2.below HBq.out).at hy
        have hox := (HS1.out.I.1 x (List.mem_of_getElem? hx)).below HBq.out
        have hoy := (HT1.out.I.1 y (List.mem_of_getElem? hy)).below HBq.out
        have HXe := Lib.hid (And.intro hx hy)
        have HKl := Lib.hid (And.intro hkl hkb)
        have HX := Lib.hid (And.intro hox hoy)
        have HS9 := Lib.hid (And.intro (size_outv x hox.id) (size_outv y hoy.id))
        have HW1 := Lib.hid (show ∀ p : Beh wr, p.x.rangeAt b1 (off1 + k * 34) x.out from fun p => in_outAt x (range_below hr1 p.h))
        have HW2 := Lib.hid (show ∀ p : Beh wr, p.x.rangeAt b2 (off2 + k * 34) y.out from fun p => in_outAt y (range_below hr2 p.h))
        have f2 : ∀ p : Beh wr, p.x.cell? ⟨b1, off1 + k * 34 + 33, none⟩ = some x.wv := fun p => in_wit x hox.id (range_below hr1 p.h)
        have f3 : ∀ p : Beh wr, p.x.cell? ⟨b2, off2 + k * 34 + 33, none⟩ = some y.wv := fun p => in_wit y hoy.id (range_below hr2 p.h)
        have f4 : ∀ p : Beh wr, (convert 23 9 x.wv).run Tryz.prog p.x = .ok (.string (strL x.W)) p.x := fun p => conv_byts (hox.W.below p.h) _ _ 5 Tryz.underlying23 Tryz.underlying5 Tryz.underlying9
        have f5 : ∀ p : Beh wr, (convert 23 9 y.wv).run Tryz.prog p.x = .ok (.string (strL y.W)) p.x := fun p => conv_byts (hoy.W.below p.h) _ _ 5 Tryz.underlying23 Tryz.underlying5 Tryz.underlying9
        clear hr1 hr2 hl1 hl2 hox hoy hx hy
        go_upto_region 6 with fail
        have f0 : ∀ p : Beh wr, p.x.cell? ⟨g0, 0, none⟩ = some (.slice (some ⟨b1, off1, none⟩) I.length c1) := fun p => cellb p.h z0
        have f1 : ∀ p : Beh wr, p.x.cell? ⟨g0 + 1, 0, none⟩ = some (.slice (some ⟨b2, off2, none⟩) J.length c2) := fun p => cellb p.h z1
        clear z0 z1
        by_cases hd : x.id = y.id ∧ x.k = y.k
        · have heq : ∀ w9, (Op.equalIn 10000 73 (.agg x.out.toArray) (.agg y.out.toArray)).run Tryz.prog w9 = .ok true w9 := fun w9 => neOp w9 x y HX.out.1.id HX.out.2.id _ (by rw [← Bool.decide_and]; exact decide_eq_true hd)
          have HD := Lib.hid hd
          clear hd
          by_cases hw : x.W = y.W
          · have hsq : ((strL x.W).toList == (strL y.W).toList) = true := by rw [strL_beq _ _ HX.out.1.W.1 HX.out.2.W.1]; exact decide_eq_true hw
            have hsn : ((strL x.W).toList != (strL y.W).toList) = false := by rw [bne, hsq]; rfl
            have HW9 := Lib.hid hw
            clear hw
            refine wp_region_Q _ rfl (by kernel_rfl) (by kernel_rfl) ?_
            iterate 5
              (refine wpQuiet_step (fun K hK => ?_)
               go_simp
               first
                 | (refine hK _ ?_; clear hK K)
                 | (apply Exists.intro
                    refine ⟨fun _ => ?_, hK _ ?_⟩
                    (with_reducible rfl)
                    clear hK K))
            refine wpQ_load (by rfl) 73 (.tmp 41) rfl (b1) (off1 + k * 34) rfl (x.out) _ (fun w hw => by obtain ⟨p, rfl⟩ := hw; exact (HW1.out p)) Tryz.underlying73 rfl HS9.out.1 ?_
            dsimp only [Act.put]
            simp only [List.setIfInBounds_toArray, List.set_cons_zero, List.set_cons_succ]
            iterate 5
              (refine wpQuiet_step (fun K hK => ?_)
               go_simp
               first
                 | (refine hK _ ?_; clear hK K)
                 | (apply Exists.intro
                    refine ⟨fun _ => ?_, hK _ ?_⟩
                    (with_reducible rfl)
                    clear hK K))
            refine wpQ_load (by rfl) 73 (.tmp 47) rfl (b2) (off2 + k * 34) rfl (y.out) _ (fun w hw => by obtain ⟨p, rfl⟩ := hw; exact (HW2.out p)) Tryz.underlying73 rfl HS9.out.2 ?_
            dsimp only [Act.put]
            simp only [List.setIfInBounds_toArray, List.set_cons_zero, List.set_cons_succ]
            iterate 18
              (refine wpQuiet_step (fun K hK => ?_)
               go_simp
               first
                 | (refine hK _ ?_; clear hK K)
                 | (apply Exists.intro
                    refine ⟨fun _ => ?_, hK _ ?_⟩
                    (with_reducible rfl)
                    clear hK K))
            refine wpQuiet_nil ?_
            rintro w9 ⟨⟨w9, hb9⟩, rfl⟩
            have HB8 := Lib.hid (HBq.out.trans (hb9.mono HBq.out.size))
            have HJ2 := Lib.hid (show ∀ j, j < k + 1 → (I.map InM.key)[j]? = (J.map InM.key)[j]? by
              intro j hj
              rcases Nat.lt_or_ge j k with h | h
              · exact HJq.out j h
              · obtain rfl : j = k := by omega
                rw [List.getElem?_map, List.getElem?_map, HXe.out.1, HXe.out.2]
                show some x.key = some y.key
                unfold InM.key
                rw [HD.out.1, HD.out.2, HW9.out])
            clear hb9 heq HW1 HW2 HJq HBq f0 f1 f2 f3 f4 f5 hsq hsn
            go_wp2
            go_roundg g
            case measure => omega
            case rel => exact ⟨k + 1, by show _ = _; have := HK.out; omega, by go_num, HJ2.out, HB8.out⟩
          · have hsq : ((strL x.W).toList == (strL y.W).toList) = false := by rw [strL_beq _ _ HX.out.1.W.1 HX.out.2.W.1]; exact decide_eq_false hw
            have hsn : ((strL x.W).toList != (strL y.W).toList) = true := by rw [bne, hsq]; rfl
            have HRo := Lib.hid (show R = false by
              rw [HR.out]
              refine decide_eq_false (fun e => hw ?_)
              have h : x.key = y.key := key_at HXe.out.1 HXe.out.2 (congrArg (fun k => k.1) e)
              exact congrArg (fun k => k.2.2) h)
            clear hw
            refine wp_region_Q _ rfl (by kernel_rfl) (by kernel_rfl) ?_
            iterate 5
              (refine wpQuiet_step (fun K hK => ?_)
               go_simp
               first
                 | (refine hK _ ?_; clear hK K)
                 | (apply Exists.intro
                    refine ⟨fun _ => ?_, hK _ ?_⟩
                    (with_reducible rfl)
                    clear hK K))
            refine wpQ_load (by rfl) 73 (.tmp 41) rfl (b1) (off1 + k * 34) rfl (x.out) _ (fun w hw => by obtain ⟨p, rfl⟩ := hw; exact (HW1.out p)) Tryz.underlying73 rfl HS9.out.1 ?_
            dsimp only [Act.put]
            simp only [List.setIfInBounds_toArray, List.set_cons_zero, List.set_cons_succ]
            iterate 5
              (refine wpQuiet_step (fun K hK => ?_)
               go_simp
               first
                 | (refine hK _ ?_; clear hK K)
                 | (apply Exists.intro
                    refine ⟨fun _ => ?_, hK _ ?_⟩
                    (with_reducible rfl)
                    clear hK K))
            refine wpQ_load (by rfl) 73 (.tmp 47) rfl (b2) (off2 + k * 34) rfl (y.out) _ (fun w hw => by obtain ⟨p, rfl⟩ := hw; exact (HW2.out p)) Tryz.underlying73 rfl HS9.out.2 ?_
            dsimp only [Act.put]
            simp only [List.setIfInBounds_toArray, List.set_cons_zero, List.set_cons_succ]
            iterate 18
              (refine wpQuiet_step (fun K hK => ?_)
               go_simp
               first
                 | (refine hK _ ?_; clear hK K)
                 | (apply Exists.intro
                    refine ⟨fun _ => ?_, hK _ ?_⟩
                    (with_reducible rfl)
                    clear hK K))
            refine wpQuiet_nil ?_
            rintro w9 ⟨⟨w9, hb9⟩, rfl⟩
            have HB8 := Lib.hid (HBq.out.trans (hb9.mono HBq.out.size))
            clear hb9 heq HW1 HW2 HJq HBq f0 f1 f2 f3 f4 f5 hsq hsn
            go_wp2
            go_ret
            exact ⟨by rw [HRo.out]; rfl, by rw [HG.out]; exact HB.out.trans (HB8.out.mono HZ.out)⟩
        · have heq : ∀ w9, (Op.equalIn 10000 73 (.agg x.out.toArray) (.agg y.out.toArray)).run Tryz.prog w9 = .ok false w9 := fun w9 => neOp w9 x y HX.out.1.id HX.out.2.id _ (by rw [← Bool.decide_and]; exact decide_eq_false hd)
          have HRo := Lib.hid (show R = false by
            rw [HR.out]
            refine decide_eq_false (fun e => hd ?_)
            have h : x.key = y.key := key_at HXe.out.1 HXe.out.2 (congrArg (fun k => k.1) e)
            exact ⟨congrArg (fun k => k.1) h, congrArg (fun k => k.2.1) h⟩)
          clear hd
          refine wp_region_Q _ rfl (by kernel_rfl) (by kernel_rfl) ?_
          iterate 5
            (refine wpQuiet_step (fun K hK => ?_)
             go_simp
             first
               | (refine hK _ ?_; clear hK K)
               | (apply Exists.intro
                  refine ⟨fun _ => ?_, hK _ ?_⟩
                  (with_reducible rfl)
                  clear hK K))
          refine wpQ_load (by rfl) 73 (.tmp 41) rfl (b1) (off1 + k * 34) rfl (x.out) _ (fun w hw => by obtain ⟨p, rfl⟩ := hw; exact (HW1.out p)) Tryz.underlying73 rfl HS9.out.1 ?_
          dsimp only [Act.put]
          simp only [List.setIfInBounds_toArray, List.set_cons_zero, List.set_cons_succ]
          iterate 5
            (refine wpQuiet_step (fun K hK => ?_)
             go_simp
             first
               | (refine hK _ ?_; clear hK K)
               | (apply Exists.intro
                  refine ⟨fun _ => ?_, hK _ ?_⟩
                  (with_reducible rfl)
                  clear hK K))
          refine wpQ_load (by rfl) 73 (.tmp 47) rfl (b2) (off2 + k * 34) rfl (y.out) _ (fun w hw => by obtain ⟨p, rfl⟩ := hw; exact (HW2.out p)) Tryz.underlying73 rfl HS9.out.2 ?_
          dsimp only [Act.put]
          simp only [List.setIfInBounds_toArray, List.set_cons_zero, List.set_cons_succ]
          iterate 1
            (refine wpQuiet_step (fun K hK => ?_)
             go_simp
             first
               | (refine hK _ ?_; clear hK K)
               | (apply Exists.intro
                  refine ⟨fun _ => ?_, hK _ ?_⟩
                  (with_reducible rfl)
                  clear hK K))
          refine wpQ_take (.bool true) (by rfl) (fun w hC => by go_simp) ?_
          dsimp only [Act.put]
          simp only [List.setIfInBounds_toArray, List.set_cons_zero, List.set_cons_succ]
          iterate 15
            (with_reducible refine wpQ_skip (by kernel_rfl) ?_
             dsimp only [Act.put]
             simp only [List.setIfInBounds_toArray, List.set_cons_zero, List.set_cons_succ])
          iterate 1
            (refine wpQuiet_step (fun K hK => ?_)
             go_simp
             first
               | (refine hK _ ?_; clear hK K)
               | (apply Exists.intro
                  refine ⟨fun _ => ?_, hK _ ?_⟩
                  (with_reducible rfl)
                  clear hK K))
          refine wpQuiet_nil ?_
          rintro w9 ⟨⟨w9, hb9⟩, rfl⟩
          have HB8 := Lib.hid (HBq.out.trans (hb9.mono HBq.out.size))
          clear hb9 heq HW1 HW2 HJq HBq f0 f1 f2 f3 f4 f5
          go_wp2
          go_ret
          exact ⟨by rw [HRo.out]; rfl, by rw [HG.out]; exact HB.out.trans (HB8.out.mono HZ.out)⟩
  · have HRo := Lib.hid (show R = false by
      rw [HR.out]
      refine decide_eq_false (fun e => hc ?_)
      have h1 : I.map InM.key = J.map InM.key := congrArg (fun k => k.1) e
      have h2 : O = Q := congrArg (fun k => k.2.1) e
      have h3 : n = m := congrArg (fun k => k.2.2) e
      exact ⟨h3, by have := congrArg List.length h1; rwa [List.length_map, List.length_map] at this, congrArg List.length h2⟩)
    by_cases hn : n = m
    · have q1 : (((n : Nat) : Int) != ((m : Nat) : Int)) = false := by rw [bne_eq_false_iff_eq, hn]
      have r1 : (((n : Nat) : Int) == ((m : Nat) : Int)) = true := by rw [beq_iff_eq, hn]
      by_cases hi : I.length = J.length
      · have q2 : (((I.length : Nat) : Int) != ((J.length : Nat) : Int)) = false := by rw [bne_eq_false_iff_eq, hi]
        have r2 : (((I.length : Nat) : Int) == ((J.length : Nat) : Int)) = true := by rw [beq_iff_eq, hi]
        have ho : ¬ O.length = Q.length := fun h => hc ⟨hn, hi, h⟩
        have q3 : (((O.length : Nat) : Int) != ((Q.length : Nat) : Int)) = true := by rw [bne_iff_ne]; omega
        have r3 : (((O.length : Nat) : Int) == ((Q.length : Nat) : Int)) = false := beq_false_of_ne (by omega)
        clear hn hi ho hc
        go_wp2
        go_ret
        exact ⟨by rw [HRo.out]; rfl, by rw [HG.out]; exact HB.out⟩
      · have q2 : (((I.length : Nat) : Int) != ((J.length : Nat) : Int)) = true := by rw [bne_iff_ne]; omega
        have r2 : (((I.length : Nat) : Int) == ((J.length : Nat) : Int)) = false := beq_false_of_ne (by omega)
        clear hn hi hc
        go_wp2
        go_ret
        exact ⟨by rw [HRo.out]; rfl, by rw [HG.out]; exact HB.out⟩
    · have q1 : (((n : Nat) : Int) != ((m : Nat) : Int)) = true := by rw [bne_iff_ne]; omega
      have r1 : (((n : Nat) : Int) == ((m : Nat) : Int)) = false := beq_false_of_ne (by omega)
      clear hn hc
      go_wp2
      go_ret
      exact ⟨by rw [HRo.out]; rfl, by rw [HG.out]; exact HB.out⟩
end Go.Proofs.YtnohfondkcbdnaaGreatDoor
/- tx.Check$1, $2: how many inputs and outputs there are. -/
namespace Go.Proofs.YtnohfondkcbdnaaGreatDoor
open Go.RowKit Go.Lib
set_option linter.unusedVariables false
set_option linter.unusedSimpArgs false
attribute [local go_sem ↓] Go.wp_at_zero Go.wp_at_succ

set_option maxRecDepth 100000 in
theorem ck1_any (g : Nat) (s : TxM) (R : Bool) (w : World) (ha : Arr w g 53 s.cells) (hs : s.ok w) (hR : R = true ↔ (1 ≤ s.I.length ∧ s.I.length ≤ 64)) :
    Calls Tryz.prog 80 #[.pointer (some ⟨g, 0, none⟩)] w fun e w' => e = .returned (.bool R) ∧ Below w.heap.size w w' := by
  obtain ⟨iv, ov, I, O, n⟩ := s
  obtain ⟨a1, c1, rfl⟩ : ∃ a c, iv = .slice a I.length c := hs.I.2.form
  have hc := ha.cell 0
  replace hc : w.cell? ⟨g, 0, none⟩ = some (.slice a1 I.length c1) := hc
  have HR := Lib.hid (show R = true ↔ (1 ≤ I.length ∧ I.length ≤ 64) from hR)
  clear ha hs hR
  go_enter Tryz.func80, Tryz.ntmps80
  by_cases h1 : 1 ≤ I.length
  · have h1' : ((I.length : Nat) : Int) ≥ 1 := by omega
    by_cases h2 : I.length ≤ 64
    · have h2' : ((I.length : Nat) : Int) ≤ 64 := by omega
      have HF := Lib.hid (show R = true from HR.out.2 ⟨h1, h2⟩)
      clear h1 h2
      go_wp2
      go_ret
      exact ⟨by rw [HF.out]; rfl, Below.refl _ _⟩
    · have h2' : ¬ ((I.length : Nat) : Int) ≤ 64 := by omega
      have HF := Lib.hid (show R = false by cases h : R with | false => rfl | true => exact absurd (HR.out.1 h).2 h2)
      clear h1 h2
      go_wp2
      go_ret
      exact ⟨by rw [HF.out]; rfl, Below.refl _ _⟩
  · have h1' : ¬ ((I.length : Nat) : Int) ≥ 1 := by omega
    have HF := Lib.hid (show R = false by cases h : R with | false => rfl | true => exact absurd (HR.out.1 h).1 h1)
    clear h1
    go_wp2
    go_ret
    exact ⟨by rw [HF.out]; rfl, Below.refl _ _⟩
set_option maxRecDepth 100000 in
theorem ck2_any (g : Nat) (s : TxM) (R : Bool) (w : World) (ha : Arr w g 53 s.cells) (hs : s.ok w) (hR : R = true ↔ (1 ≤ s.O.length ∧ s.O.length ≤ 64)) :
    Calls Tryz.prog 81 #[.pointer (some ⟨g, 0, none⟩)] w fun e w' => e = .returned (.bool R) ∧ Below w.heap.size w w' := by
  obtain ⟨iv, ov, I, O, n⟩ := s
  obtain ⟨a1, c1, rfl⟩ : ∃ a c, ov = .slice a O.length c := hs.O.2.form
  have hc := ha.cell 1
  replace hc : w.cell? ⟨g, 1, none⟩ = some (.slice a1 O.length c1) := hc
  have HR := Lib.hid (show R = true ↔ (1 ≤ O.length ∧ O.length ≤ 64) from hR)
  clear ha hs hR
  go_enter Tryz.func81, Tryz.ntmps81
  by_cases h1 : 1 ≤ O.length
  · have h1' : ((O.length : Nat) : Int) ≥ 1 := by omega
    by_cases h2 : O.length ≤ 64
    · have h2' : ((O.length : Nat) : Int) ≤ 64 := by omega
      have HF := Lib.hid (show R = true from HR.out.2 ⟨h1, h2⟩)
      clear h1 h2
      go_wp2
      go_ret
      exact ⟨by rw [HF.out]; rfl, Below.refl _ _⟩
    · have h2' : ¬ ((O.length : Nat) : Int) ≤ 64 := by omega
      have HF := Lib.hid (show R = false by cases h : R with | false => rfl | true => exact absurd (HR.out.1 h).2 h2)
      clear h1 h2
      go_wp2
      go_ret
      exact ⟨by rw [HF.out]; rfl, Below.refl _ _⟩
  · have h1' : ¬ ((O.length : Nat) : Int) ≥ 1 := by omega
    have HF := Lib.hid (show R = false by cases h : R with | false => rfl | true => exact absurd (HR.out.1 h).1 h1)
    clear h1
    go_wp2
    go_ret
    exact ⟨by rw [HF.out]; rfl, Below.refl _ _⟩
end Go.Proofs.YtnohfondkcbdnaaGreatDoor
/- Outpoints as keys of a map. -/
namespace Go.Proofs.YtnohfondkcbdnaaGreatDoor
open Go.RowKit Go.Lib
open Go.Maps (Keyed)
set_option linter.unusedVariables false
set_option linter.unusedSimpArgs false

theorem mapM_ex {α β : Type} (f : α → Option β) : ∀ l : List α, (∀ x ∈ l, ∃ y, f x = some y) → ∃ ys, l.mapM f = some ys
  | [], _ => ⟨[], rfl⟩
  | x :: r, h => by
    obtain ⟨y, hy⟩ := h x (by simp)
    obtain ⟨ys, hys⟩ := mapM_ex f r (fun z hz => h z (by simp [hz]))
    exact ⟨y :: ys, by rw [List.mapM_cons, hy, hys]; rfl⟩
theorem outKeyed : Keyed Tryz.prog 73 := Keyed.of_law (deep_law_laid (m := 10) (by kernel_rfl) (by omega) (of_decide_eq_true (by kernel_rfl)) (by kernel_rfl) (by kernel_rfl))
theorem wf8 {n : Nat} (h : n < 256) : (Lit.int .u8 (n : Int)).wf = true := by
  unfold Lit.wf
  rw [Bool.and_eq_true, decide_eq_true_eq, decide_eq_true_eq]
  have e1 : IntKind.u8.min = 0 := by decide
  have e2 : IntKind.u8.max = 255 := by decide
  omega
theorem wf32 {n : Nat} (h : n ≤ 4294967295) : (Lit.int .u32 (n : Int)).wf = true := by
  unfold Lit.wf
  rw [Bool.and_eq_true, decide_eq_true_eq, decide_eq_true_eq]
  have e1 : IntKind.u32.min = 0 := by decide
  have e2 : IntKind.u32.max = 4294967295 := by decide
  omega
theorem lits_hash (L : List Nat) (hL : IsH L) (d : Nat) : ∃ ls, Tryz.prog.keyLits (d + 2) 25 (bys L) = some ls := by
  unfold Program.keyLits
  rw [Tryz.underlying25]
  dsimp only
  rw [if_pos (by rw [bys_len, hL.1]; kernel_rfl)]
  obtain ⟨ys, hys⟩ := mapM_ex (fun i => Tryz.prog.keyLits (d + 1) 5 (((bys L).drop (i * Tryz.prog.cellsOf 5)).take (Tryz.prog.cellsOf 5))) (List.range 32) (fun i hi => by
    have hi2 : i < 32 := List.mem_range.1 hi
    have hn : i < L.length := by rw [hL.1]; exact hi2
    have e1 : Tryz.prog.cellsOf 5 = 1 := by kernel_rfl
    refine ⟨[.int .u8 (L[i] : Nat)], ?_⟩
    rw [e1, Nat.mul_one]
    have e2 : ((bys L).drop i).take 1 = [.int .u8 (L[i] : Nat)] := by
      apply List.ext_getElem?
      intro j
      cases j with
      | zero => rw [List.getElem?_take_of_lt (by omega), List.getElem?_drop, Nat.add_zero]; simp [bys, List.getElem?_eq_getElem hn]
      | succ j => rw [List.getElem?_take_eq_none (by omega)]; rfl
    rw [e2]
    unfold Program.keyLits
    rw [Tryz.underlying5]
    dsimp only
    rw [if_pos ⟨rfl, wf8 (hL.2 _ (List.getElem_mem ..))⟩])
  exact ⟨ys.flatten, by rw [hys]; rfl⟩
theorem out_hash (i : InM) (hi : IsH i.id) : ((i.out.drop 0).take 32) = bys i.id := by
  rw [List.drop_zero]; unfold InM.out
  rw [List.take_append_of_le_length (by rw [bys_len, hi.1]; exact Nat.le_refl _), List.take_of_length_le (by rw [bys_len, hi.1]; exact Nat.le_refl _)]
theorem out_num (i : InM) (hi : IsH i.id) : ((i.out.drop 32).take 1) = [.int .u32 (i.k : Nat)] := by
  unfold InM.out
  rw [List.drop_append_of_le_length (by rw [bys_len, hi.1]; exact Nat.le_refl _), List.drop_of_length_le (by rw [bys_len, hi.1]; exact Nat.le_refl _)]
  rfl
theorem out_len (i : InM) (hi : IsH i.id) : i.out.length = 33 := by unfold InM.out; rw [List.length_append, bys_len, hi.1]; rfl
theorem key_out (i : InM) (hi : IsH i.id) (hk : i.k ≤ 4294967295) : ∃ l, keyOf Tryz.prog 73 (.agg i.out.toArray) = some l := by
  obtain ⟨ls, hls⟩ := lits_hash i.id hi (Tryz.prog.types.size - 2)
  have ed : Tryz.prog.types.size - 2 + 2 = Tryz.prog.types.size := by kernel_rfl
  rw [ed] at hls
  unfold keyOf
  rw [Tryz.underlying73]
  dsimp only
  have e1 : (Tryz.prog.keyType 73 && (Value.agg i.out.toArray).formed Tryz.prog 73) = true := by
    rw [Bool.and_eq_true]
    refine ⟨by kernel_rfl, ?_⟩
    unfold Value.formed
    rw [Tryz.underlying73]
    show (i.out.toArray.size == Tryz.prog.cellsOf 73) = true
    rw [List.size_toArray, out_len i hi]
    kernel_rfl
  rw [if_pos e1]
  unfold Program.keyLits
  rw [Tryz.underlying73]
  dsimp only
  have hc : (Value.agg i.out.toArray).cells.toList = i.out := by simp [Value.cells]
  rw [hc, if_pos ⟨by rw [out_len i hi]; kernel_rfl, by kernel_rfl⟩, List.mapM_cons, List.mapM_cons, List.mapM_nil]
  dsimp only
  rw [show Tryz.prog.cellsOf 25 = 32 by kernel_rfl, show Tryz.prog.cellsOf 71 = 1 by kernel_rfl, out_hash i hi, out_num i hi, hls]
  have h2 : Tryz.prog.keyLits Tryz.prog.types.size 71 [.int .u32 (i.k : Nat)] = some [.int .u32 (i.k : Nat)] := by
    rw [← ed]
    unfold Program.keyLits
    rw [Tryz.underlying71]
    dsimp only
    rw [if_pos ⟨rfl, wf32 hk⟩]
  rw [h2]
  exact ⟨_, rfl⟩

/-- How a set's element reads. -/
def seenElem (v : Value) : Option (DataW Unit × List MemPlace) := match v with
  | .agg cs => match cs.toList with
    | [.bool b] => some (.agg [.lit (.bool b)], [])
    | _ => none
  | _ => none
theorem seenElem_mk (b : Bool) : seenElem (.agg #[.bool b]) = some (.agg [.lit (.bool b)], []) := rfl
theorem seenElem_inv {v : Value} {b : Bool} {ps : List MemPlace} (h : seenElem v = some (.agg [.lit (.bool b)], ps)) : v = .agg #[.bool b] := by
  unfold seenElem at h
  split at h
  · rename_i cs
    split at h
    · rename_i b' hb
      have e : b' = b := by
        have := congrArg Prod.fst (Option.some.inj h)
        simpa using this
      subst e
      congr 1
      apply Array.ext'
      rw [hb]
    · cases h
  · cases h
theorem bys_inj2 {A B : List Nat} (h : bys A = bys B) : A = B := by
  unfold bys at h
  refine (List.map_inj_right (fun x y e => ?_)).1 h
  simp only [Value.int.injEq, true_and] at e
  omega
/-- These two are one outpoint. -/
def InM.like (i j : InM) : Prop := i.id = j.id ∧ i.k = j.k
theorem out_like {i j : InM} (hi : IsH i.id) (hj : IsH j.id) (h : i.out = j.out) : i.like j := by
  have h1 := out_hash i hi
  have h2 := out_num i hi
  rw [h, out_hash j hj] at h1
  rw [h, out_num j hj] at h2
  refine ⟨(bys_inj2 h1).symm, ?_⟩
  simp only [List.cons.injEq, Value.int.injEq, true_and, and_true] at h2
  omega
theorem like_out {i j : InM} (h : i.like j) : i.out = j.out := by unfold InM.out; rw [h.1, h.2]
open Classical in
/-- The map holds just the outpoints of these. -/
def SeenD (D : DataW Unit) (L : List InM) : Prop := Maps.IsMap D ∧ ∀ (j : InM) (l : Lit), IsH j.id → keyOf Tryz.prog 73 (.agg j.out.toArray) = some l → D.atKey l (.agg [.lit (.bool false)]) = .agg [.lit (.bool (decide (∃ i ∈ L, i.like j)))]
theorem seen_nil : SeenD (.map []) [] := ⟨Maps.isMap_empty, fun j l _ _ => by simp [DataW.atKey]⟩
open Classical in
theorem seen_snoc {D : DataW Unit} {L : List InM} (h : SeenD D L) (hL : ∀ i ∈ L, IsH i.id) {i : InM} (hi : IsH i.id) {l : Lit} (hl : keyOf Tryz.prog 73 (.agg i.out.toArray) = some l) : SeenD (D.put l (.agg [.lit (.bool true)])) (L ++ [i]) := by
  refine ⟨h.1.put _ _, fun j m hj hm => ?_⟩
  by_cases e : i.like j
  · have e2 : l = m := by
      have := hl
      rw [like_out e, hm] at this
      exact (Option.some.inj this).symm
    subst e2
    rw [Maps.atKey_put_same h.1 (outKeyed.key hl)]
    rw [decide_eq_true ⟨i, by simp, e⟩]
  · have e2 : m ≠ l := fun e3 => e (out_like hi hj (by
      subst e3
      have := outKeyed.inj hl hm
      simpa using this))
    rw [Maps.atKey_put_other e2, h.2 j m hj hm]
    refine congrArg (fun b => DataW.agg [.lit (.bool b)]) (decide_eq_decide.2 ?_)
    constructor
    · rintro ⟨x, hx, hl⟩; exact ⟨x, by simp [hx], hl⟩
    · rintro ⟨x, hx, hl⟩
      rcases List.mem_append.1 hx with hx | hx
      · exact ⟨x, hx, hl⟩
      · rw [List.mem_singleton.1 hx] at hl; exact absurd hl e
end Go.Proofs.YtnohfondkcbdnaaGreatDoor
