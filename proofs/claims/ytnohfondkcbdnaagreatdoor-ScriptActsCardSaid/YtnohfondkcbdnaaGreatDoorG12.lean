/- script.SameAct. -/
import Derived.Test.YtnohfondkcbdnaaGreatDoorG11
namespace Go.Proofs.YtnohfondkcbdnaaGreatDoor
open Go.RowKit Go.Lib
set_option linter.unusedVariables false
set_option linter.unusedSimpArgs false
attribute [local go_sem ↓] Go.wp_at_zero Go.wp_at_succ

set_option maxRecDepth 100000 in
set_option maxHeartbeats 3200000 in
theorem sact_any (a b : ActM) (w : World) (ha : a.ok w) (hb : b.ok w) :
    Calls Tryz.prog 9 #[.agg a.cells.toArray, .agg b.cells.toArray] w fun e w' => e = .returned (.bool (actEq a b)) ∧ Below w.heap.size w w' := by
  obtain ⟨R, hR⟩ : ∃ R : Bool, R = actEq a b := ⟨_, rfl⟩
  rw [← hR]
  have hk := act_key a b
  rw [← hR] at hk
  have HR := Lib.hid hk
  have HA := Lib.hid ha
  have HB := Lib.hid hb
  clear hR ha hb hk
  go_enter Tryz.func9, Tryz.ntmps9
  go_upto_region 1 with fail
  have hpk := two w (.cells a.cells.toArray 30) (.cells b.cells.toArray 30)
  have HX := Lib.hid (show ActAt _ w.heap.size a from ⟨hpk.1, HA.out.lock⟩)
  have HY := Lib.hid (show ActAt _ (w.heap.size + 1) b from ⟨hpk.2.1, HB.out.lock⟩)
  have HW := Lib.hid hpk.2.2.2
  have HA1 := Lib.hid (HA.out.below hpk.2.2.2)
  have HB1 := Lib.hid (HB.out.below hpk.2.2.2)
  clear hpk HA HB
  generalize World.alloc (World.alloc _ _) _ = w1 at *
  obtain ⟨g, hg⟩ : ∃ g, w.heap.size = g := ⟨_, rfl⟩
  rw [hg] at HX HY HW ⊢
  have HG := Lib.hid hg
  have HZ1 := Lib.hid (show g ≤ w1.heap.size from Nat.le_of_lt HX.out.lt)
  clear hg
  have kx_ := HX.out.kind
  have ky_ := HY.out.kind
  have bx_ := HX.out.bv
  have by_ := HY.out.bv
  by_cases h0 : a.kind = b.kind
  · have hq : (a.kind == b.kind) = true := by rw [h0]; exact beq_self_eq_true _
    have H0 := Lib.hid h0
    clear h0
    have HC := Lib.hid (equal_any a.B b.B a.bv b.bv w1 HA1.out.B HB1.out.B (by have := HA1.out.B.len; exact this))
    by_cases h1 : a.B = b.B
    · rw [decide_eq_true h1] at HC
      go_wp2_with fail
      with_reducible refine HC.out.mono ?_
      rintro e w2 ⟨rfl, hb⟩
      dsimp only
      have HX2 := Lib.hid (HX.out.below hb HX.out.lt)
      have HY2 := Lib.hid (HY.out.below hb HY.out.lt)
      have HW2 := Lib.hid (HW.out.trans (hb.mono HZ1.out))
      have HA2 := Lib.hid (HA1.out.below hb)
      have HB2 := Lib.hid (HB1.out.below hb)
      have HZ2 := Lib.hid (Nat.le_trans HZ1.out hb.size)
      clear hb HC HX HY HW HA1 HB1 HZ1 kx_ ky_ bx_ by_
      have HX := HX2
      have HY := HY2
      have HW := HW2
      clear HX2 HY2 HW2
      have H1 := Lib.hid h1
      clear h1 hq
      have HSa := Lib.hid (size_hash a.lock HA2.out.lock.1)
      have HSb := Lib.hid (size_hash b.lock HB2.out.lock.1)
      iterate 10 (first | go_values | go_skip | go_guarded | go_step | go_upon)
      go_guarded
      refine wp_load_mid (P := Tryz.prog) 25 _ rfl g 2 rfl _ _ HX.out.lock Tryz.underlying25 rfl HSa.out ?_
      iterate 1 (first | go_values | go_skip | go_guarded | go_step | go_upon)
      dsimp only [Act.put]
      simp only [List.setIfInBounds_toArray, List.set_cons_zero, List.set_cons_succ]
      iterate 3 (first | go_values | go_skip | go_guarded | go_step | go_upon)
      go_guarded
      refine wp_load_mid (P := Tryz.prog) 25 _ rfl (g + 1) 2 rfl _ _ HY.out.lock Tryz.underlying25 rfl HSb.out ?_
      iterate 1 (first | go_values | go_skip | go_guarded | go_step | go_upon)
      dsimp only [Act.put]
      simp only [List.setIfInBounds_toArray, List.set_cons_zero, List.set_cons_succ]
      by_cases h2 : a.lock = b.lock
      · have heq : ∀ w9, (Op.equalIn 10000 25 (.agg (bys a.lock).toArray) (.agg (bys b.lock).toArray)).run Tryz.prog w9 = .ok true w9 := fun w9 => (eqH w9 9998 a.lock b.lock HA2.out.lock HB2.out.lock).trans (by rw [decide_eq_true h2])
        have H2 := Lib.hid h2
        clear h2
        have nx_ := HX.out.nonce
        have ny_ := HY.out.nonce
        have px_ := HX.out.pv
        have py_ := HY.out.pv
        by_cases h3 : a.nonce = b.nonce
        · have hq : (((a.nonce : Nat) : Int) == ((b.nonce : Nat) : Int)) = true := by rw [h3]; exact beq_self_eq_true _
          have H3 := Lib.hid h3
          clear h3
          have HC := Lib.hid (eqNums_any a.P b.P a.pv b.pv w2 HA2.out.P HB2.out.P)
          by_cases h4 : a.P = b.P
          · rw [decide_eq_true h4] at HC
            go_wp2_with fail
            with_reducible refine HC.out.mono ?_
            rintro e w3 ⟨rfl, hb⟩
            dsimp only
            have HX2 := Lib.hid (HX.out.below hb HX.out.lt)
            have HY2 := Lib.hid (HY.out.below hb HY.out.lt)
            have HW2 := Lib.hid (HW.out.trans (hb.mono HZ2.out))
            have HA3 := Lib.hid (HA2.out.below hb)
            have HB3 := Lib.hid (HB2.out.below hb)
            have HZ3 := Lib.hid (Nat.le_trans HZ2.out hb.size)
            clear hb HC HX HY HW HA2 HB2 HZ2 nx_ ny_ px_ py_
            have HX := HX2
            have HY := HY2
            have HW := HW2
            clear HX2 HY2 HW2
            have H4 := Lib.hid h4
            clear h4 hq
            have tx_ := HX.out.tv
            have ty_ := HY.out.tv
            have HC := Lib.hid (eqTxs_any a.T b.T a.tv b.tv w3 HA3.out.T HB3.out.T)
            by_cases h5 : a.T.map TxM.key = b.T.map TxM.key
            · rw [decide_eq_true h5] at HC
              go_wp2_with fail
              with_reducible refine HC.out.mono ?_
              rintro e w4 ⟨rfl, hb⟩
              dsimp only
              have HX2 := Lib.hid (HX.out.below hb HX.out.lt)
              have HY2 := Lib.hid (HY.out.below hb HY.out.lt)
              have HW2 := Lib.hid (HW.out.trans (hb.mono HZ3.out))
              have HA4 := Lib.hid (HA3.out.below hb)
              have HB4 := Lib.hid (HB3.out.below hb)
              have HZ4 := Lib.hid (Nat.le_trans HZ3.out hb.size)
              clear hb HC HX HY HW HA3 HB3 HZ3 tx_ ty_
              have HX := HX2
              have HY := HY2
              have HW := HW2
              clear HX2 HY2 HW2
              have H5 := Lib.hid h5
              clear h5
              have nx_ := HX.out.n
              have ny_ := HY.out.n
              have mx_ := HX.out.m
              have my_ := HY.out.m
              have qx_ := HX.out.bad
              have qy_ := HY.out.bad
              by_cases h6 : a.n = b.n
              · have hq6 : (a.n == b.n) = true := by rw [h6]; exact beq_self_eq_true _
                have H6 := Lib.hid h6
                clear h6
                by_cases h7 : a.m = b.m
                · have hq7 : (a.m == b.m) = true := by rw [h7]; exact beq_self_eq_true _
                  have H7 := Lib.hid h7
                  clear h7
                  by_cases h8 : a.bad = b.bad
                  · have hq8 : (a.bad == b.bad) = true := by rw [h8]; exact beq_self_eq_true _
                    have HF := Lib.hid (show R = true from HR.out.2 ⟨H0.out, H1.out, H2.out, H3.out, H4.out, H5.out, H6.out, H7.out, h8⟩)
                    clear h8
                    go_wp2
                    go_ret
                    exact ⟨by rw [HF.out]; rfl, by rw [HG.out]; exact HW.out⟩
                  · have hq8 : (a.bad == b.bad) = false := beq_false_of_ne h8
                    have HF := Lib.hid (bad_false HR.out (fun h => h8 h.2.2.2.2.2.2.2.2))
                    clear h8
                    go_wp2
                    go_ret
                    exact ⟨by rw [HF.out]; rfl, by rw [HG.out]; exact HW.out⟩
                · have hq7 : (a.m == b.m) = false := beq_false_of_ne h7
                  have HF := Lib.hid (bad_false HR.out (fun h => h7 h.2.2.2.2.2.2.2.1))
                  clear h7
                  go_wp2
                  go_ret
                  exact ⟨by rw [HF.out]; rfl, by rw [HG.out]; exact HW.out⟩
              · have hq6 : (a.n == b.n) = false := beq_false_of_ne h6
                have HF := Lib.hid (bad_false HR.out (fun h => h6 h.2.2.2.2.2.2.1))
                clear h6
                go_wp2
                go_ret
                exact ⟨by rw [HF.out]; rfl, by rw [HG.out]; exact HW.out⟩
            · rw [decide_eq_false h5] at HC
              go_wp2_with fail
              with_reducible refine HC.out.mono ?_
              rintro e w4 ⟨rfl, hb⟩
              dsimp only
              have HX2 := Lib.hid (HX.out.below hb HX.out.lt)
              have HY2 := Lib.hid (HY.out.below hb HY.out.lt)
              have HW2 := Lib.hid (HW.out.trans (hb.mono HZ3.out))
              have HA4 := Lib.hid (HA3.out.below hb)
              have HB4 := Lib.hid (HB3.out.below hb)
              have HZ4 := Lib.hid (Nat.le_trans HZ3.out hb.size)
              clear hb HC HX HY HW HA3 HB3 HZ3 tx_ ty_
              have HX := HX2
              have HY := HY2
              have HW := HW2
              clear HX2 HY2 HW2
              have HF := Lib.hid (bad_false HR.out (fun h => h5 h.2.2.2.2.2.1))
              clear h5
              go_wp2
              go_ret
              exact ⟨by rw [HF.out]; rfl, by rw [HG.out]; exact HW.out⟩
          · rw [decide_eq_false h4] at HC
            go_wp2_with fail
            with_reducible refine HC.out.mono ?_
            rintro e w3 ⟨rfl, hb⟩
            dsimp only
            have HX2 := Lib.hid (HX.out.below hb HX.out.lt)
            have HY2 := Lib.hid (HY.out.below hb HY.out.lt)
            have HW2 := Lib.hid (HW.out.trans (hb.mono HZ2.out))
            have HA3 := Lib.hid (HA2.out.below hb)
            have HB3 := Lib.hid (HB2.out.below hb)
            have HZ3 := Lib.hid (Nat.le_trans HZ2.out hb.size)
            clear hb HC HX HY HW HA2 HB2 HZ2 nx_ ny_ px_ py_
            have HX := HX2
            have HY := HY2
            have HW := HW2
            clear HX2 HY2 HW2
            have HF := Lib.hid (bad_false HR.out (fun h => h4 h.2.2.2.2.1))
            clear h4
            go_wp2
            go_ret
            exact ⟨by rw [HF.out]; rfl, by rw [HG.out]; exact HW.out⟩
        · have hq : (((a.nonce : Nat) : Int) == ((b.nonce : Nat) : Int)) = false := beq_false_of_ne (by omega)
          have HF := Lib.hid (bad_false HR.out (fun h => h3 h.2.2.2.1))
          clear h3
          go_wp2
          go_ret
          exact ⟨by rw [HF.out]; rfl, by rw [HG.out]; exact HW.out⟩
      · have heq : ∀ w9, (Op.equalIn 10000 25 (.agg (bys a.lock).toArray) (.agg (bys b.lock).toArray)).run Tryz.prog w9 = .ok false w9 := fun w9 => (eqH w9 9998 a.lock b.lock HA2.out.lock HB2.out.lock).trans (by rw [decide_eq_false h2])
        have HF := Lib.hid (bad_false HR.out (fun h => h2 h.2.2.1))
        clear h2
        go_wp2
        go_ret
        exact ⟨by rw [HF.out]; rfl, by rw [HG.out]; exact HW.out⟩
    · rw [decide_eq_false h1] at HC
      go_wp2_with fail
      with_reducible refine HC.out.mono ?_
      rintro e w2 ⟨rfl, hb⟩
      dsimp only
      have HX2 := Lib.hid (HX.out.below hb HX.out.lt)
      have HY2 := Lib.hid (HY.out.below hb HY.out.lt)
      have HW2 := Lib.hid (HW.out.trans (hb.mono HZ1.out))
      have HA2 := Lib.hid (HA1.out.below hb)
      have HB2 := Lib.hid (HB1.out.below hb)
      have HZ2 := Lib.hid (Nat.le_trans HZ1.out hb.size)
      clear hb HC HX HY HW HA1 HB1 HZ1 kx_ ky_ bx_ by_
      have HX := HX2
      have HY := HY2
      have HW := HW2
      clear HX2 HY2 HW2
      have HF := Lib.hid (bad_false HR.out (fun h => h1 h.2.1))
      clear h1
      go_wp2
      go_ret
      exact ⟨by rw [HF.out]; rfl, by rw [HG.out]; exact HW.out⟩
  · have hq : (a.kind == b.kind) = false := beq_false_of_ne h0
    have HF := Lib.hid (bad_false HR.out (fun h => h0 h.1))
    clear h0 
    go_wp2
    go_ret
    exact ⟨by rw [HF.out]; rfl, by rw [HG.out]; exact HW.out⟩
end Go.Proofs.YtnohfondkcbdnaaGreatDoor
/- plexusref29.SameAct. -/
namespace Go.Proofs.YtnohfondkcbdnaaGreatDoor
open Go.RowKit Go.Lib
set_option linter.unusedVariables false
set_option linter.unusedSimpArgs false
attribute [local go_sem ↓] Go.wp_at_zero Go.wp_at_succ

theorem bneI {a b : Int} : (a != b) = !(a == b) := rfl
set_option maxRecDepth 100000 in
set_option maxHeartbeats 6400000 in
theorem rsact_any (a b : ActM) (w : World) (ha : a.ok w) (hb : b.ok w) :
    Calls Tryz.prog 10 #[.agg a.cells.toArray, .agg b.cells.toArray] w fun e w' => e = .returned (.bool (actEq a b)) ∧ Below w.heap.size w w' := by
  obtain ⟨R, hR⟩ : ∃ R : Bool, R = actEq a b := ⟨_, rfl⟩
  rw [← hR]
  have hk := act_key a b
  rw [← hR] at hk
  have HR := Lib.hid hk
  have HA := Lib.hid ha
  have HB := Lib.hid hb
  obtain ⟨aP, cP, hpa⟩ := ha.P.2.form
  obtain ⟨bP, dP, hpb⟩ := hb.P.2.form
  obtain ⟨aT, cT, hta⟩ := ha.T.2.form
  obtain ⟨bT, dT, htb⟩ := hb.T.2.form
  have HV := Lib.hid (And.intro (And.intro hpa hpb) (And.intro hta htb))
  have hlp : a.P.length ≤ 9223372036854775807 := ha.P.2.len
  have hlt_ : a.T.length ≤ 9223372036854775807 := ha.T.2.len
  clear hR ha hb hk hpa hpb hta htb
  go_enter Tryz.func10, Tryz.ntmps10
  go_upto_region 1 with fail
  have hpk := two w (.cells a.cells.toArray 30) (.cells b.cells.toArray 30)
  have HX := Lib.hid (show ActAt _ w.heap.size a from ⟨hpk.1, HA.out.lock⟩)
  have HY := Lib.hid (show ActAt _ (w.heap.size + 1) b from ⟨hpk.2.1, HB.out.lock⟩)
  have HW := Lib.hid hpk.2.2.2
  have HA1 := Lib.hid (HA.out.below hpk.2.2.2)
  have HB1 := Lib.hid (HB.out.below hpk.2.2.2)
  clear hpk HA HB
  generalize World.alloc (World.alloc _ _) _ = w1 at *
  obtain ⟨g, hg⟩ : ∃ g, w.heap.size = g := ⟨_, rfl⟩
  rw [hg] at HX HY HW ⊢
  have HG := Lib.hid hg
  have HZ1 := Lib.hid (show g ≤ w1.heap.size from Nat.le_of_lt HX.out.lt)
  have HSa := Lib.hid (size_hash a.lock HA1.out.lock.1)
  have HSb := Lib.hid (size_hash b.lock HB1.out.lock.1)
  clear hg
  have kx_ := HX.out.kind
  have ky_ := HY.out.kind
  have bx_ := HX.out.bv
  have by_ := HY.out.bv
  have nx_ := HX.out.nonce
  have ny_ := HY.out.nonce
  have px_ := HX.out.pv
  have py_ := HY.out.pv
  have tx_ := HX.out.tv
  have ty_ := HY.out.tv
  have ux_ := HX.out.n
  have uy_ := HY.out.n
  have mx_ := HX.out.m
  have my_ := HY.out.m
  have qx_ := HX.out.bad
  have qy_ := HY.out.bad
  rw [HV.out.1.1] at px_
  rw [HV.out.1.2] at py_
  rw [HV.out.2.1] at tx_
  rw [HV.out.2.2] at ty_
  have f4 : (convert 23 9 a.bv).run Tryz.prog w1 = .ok (.string (strL a.B)) w1 := conv_byts HA1.out.B _ _ 5 Tryz.underlying23 Tryz.underlying5 Tryz.underlying9
  have f5 : (convert 23 9 b.bv).run Tryz.prog w1 = .ok (.string (strL b.B)) w1 := conv_byts HB1.out.B _ _ 5 Tryz.underlying23 Tryz.underlying5 Tryz.underlying9
  by_cases h0 : a.kind = b.kind
  · have q0a : (a.kind == b.kind) = true := by rw [h0]; exact beq_self_eq_true _
    have q0b : (a.kind != b.kind) = false := by rw [bne, q0a]; rfl
    have H0 := Lib.hid h0
    clear h0
    by_cases h1 : a.B = b.B
    · have hsq : ((strL a.B).toList == (strL b.B).toList) = true := by rw [strL_beq _ _ HA1.out.B.1 HB1.out.B.1]; exact decide_eq_true h1
      have hsn : ((strL a.B).toList != (strL b.B).toList) = false := by rw [bne, hsq]; rfl
      have H1 := Lib.hid h1
      clear h1
      go_step
      iterate 32 (first | go_values | go_skip | go_guarded | go_step | go_upon)
      change wpList _ _ _ (_ :: _) _ _
      refine wpList_step (fun K9 hK9 => ?_)
      rw [if_pos (by kernel_rfl)]
      refine wp_load_mid (P := Tryz.prog) 25 _ rfl g 2 rfl _ _ HX.out.lock Tryz.underlying25 rfl HSa.out ?_
      refine hK9 _ _ ?_
      clear hK9 K9
      dsimp only [Act.put]
      simp only [List.setIfInBounds_toArray, List.set_cons_zero, List.set_cons_succ]
      iterate 2 (first | go_values | go_skip | go_guarded | go_step | go_upon)
      change wpList _ _ _ (_ :: _) _ _
      refine wpList_step (fun K9 hK9 => ?_)
      rw [if_pos (by kernel_rfl)]
      refine wp_load_mid (P := Tryz.prog) 25 _ rfl (g + 1) 2 rfl _ _ HY.out.lock Tryz.underlying25 rfl HSb.out ?_
      refine hK9 _ _ ?_
      clear hK9 K9
      dsimp only [Act.put]
      simp only [List.setIfInBounds_toArray, List.set_cons_zero, List.set_cons_succ]
      by_cases h2 : a.lock = b.lock
      · have heq : ∀ w9, (Op.equalIn 10000 25 (.agg (bys a.lock).toArray) (.agg (bys b.lock).toArray)).run Tryz.prog w9 = .ok true w9 := fun w9 => (eqH w9 9998 a.lock b.lock HA1.out.lock HB1.out.lock).trans (by rw [decide_eq_true h2])
        have H2 := Lib.hid h2
        clear h2
        by_cases h3 : a.nonce = b.nonce
        · have q3a : (((a.nonce : Nat) : Int) == ((b.nonce : Nat) : Int)) = true := by rw [h3]; exact beq_self_eq_true _
          have q3b : (((a.nonce : Nat) : Int) != ((b.nonce : Nat) : Int)) = false := by rw [bne, q3a]; rfl
          have H3 := Lib.hid h3
          clear h3
          by_cases h4 : a.P.length = b.P.length
          · have q4a : (((a.P.length : Nat) : Int) == ((b.P.length : Nat) : Int)) = true := by rw [h4]; exact beq_self_eq_true _
            have q4b : (((a.P.length : Nat) : Int) != ((b.P.length : Nat) : Int)) = false := by rw [bne, q4a]; rfl
            have H4 := Lib.hid h4
            clear h4
            by_cases h5 : a.T.length = b.T.length
            · have q5a : (((a.T.length : Nat) : Int) == ((b.T.length : Nat) : Int)) = true := by rw [h5]; exact beq_self_eq_true _
              have q5b : (((a.T.length : Nat) : Int) != ((b.T.length : Nat) : Int)) = false := by rw [bne, q5a]; rfl
              have H5 := Lib.hid h5
              clear h5
              by_cases h6 : a.n = b.n
              · have q6a : (a.n == b.n) = true := by rw [h6]; exact beq_self_eq_true _
                have q6b : (a.n != b.n) = false := by rw [bne, q6a]; rfl
                have H6 := Lib.hid h6
                clear h6
                by_cases h7 : a.m = b.m
                · have q7a : (a.m == b.m) = true := by rw [h7]; exact beq_self_eq_true _
                  have q7b : (a.m != b.m) = false := by rw [bne, q7a]; rfl
                  have H7 := Lib.hid h7
                  clear h7
                  by_cases h8 : a.bad = b.bad
                  · have q8a : (a.bad == b.bad) = true := by rw [h8]; exact beq_self_eq_true _
                    have q8b : (a.bad != b.bad) = false := by rw [bne, q8a]; rfl
                    have H8 := Lib.hid h8
                    clear h8
                    go_wp2
                    clear q0a q0b hsq hsn heq q3a q3b q4a q4b q5a q5b q6a q6b q7a q7b q8a q8b kx_ ky_ bx_ by_ nx_ ny_ px_ py_ tx_ ty_ ux_ uy_ mx_ my_ qx_ qy_ f4 f5
                    go_loopg [5] a.P.length (fun gg v5 wq => ∃ k : Nat, Hid (gg + k = a.P.length) ∧ v5 = .int .i64 (k : Int) ∧ Hid (∀ j, j < k → a.P[j]? = b.P[j]?) ∧ Hid (Below w1.heap.size w1 wq))
                    case atStart => exact ⟨0, rfl, rfl, fun j hj => absurd hj (Nat.not_lt_zero j), Below.refl _ _⟩
                    case round =>
                      obtain ⟨k, hk, rfl, hj, hb⟩ := hrel
                      have HK := Lib.hid hk.out
                      have HJ := Lib.hid hj.out
                      have HBq := Lib.hid hb.out
                      clear hk hj hb
                      have z0 := (HX.out.below HBq.out HX.out.lt).pv
                      have z1 := (HY.out.below HBq.out HY.out.lt).pv
                      rw [HV.out.1.1] at z0
                      rw [HV.out.1.2] at z1
                      cases gk with
                      | zero =>
                        have hlt : ¬ ((k : Int) < ((a.P.length : Nat) : Int)) := by have := HK.out; omega
                        have HP := Lib.hid (show a.P = b.P by
                          apply List.ext_getElem?
                          intro j
                          rcases Nat.lt_or_ge j a.P.length with hj | hj
                          · exact HJ.out j (by have := HK.out; omega)
                          · rw [List.getElem?_eq_none hj, List.getElem?_eq_none (by rw [← H4.out]; exact hj)])
                        clear HJ
                        go_wp2
                        clear z0 z1 hlt
                        have HB9 := Lib.hid HBq.out
                        clear HBq
                        go_loopg [6] a.T.length (fun gg v6 wq => ∃ k : Nat, Hid (gg + k = a.T.length) ∧ v6 = .int .i64 (k : Int) ∧ Hid (∀ j, j < k → (a.T.map TxM.key)[j]? = (b.T.map TxM.key)[j]?) ∧ Hid (Below w1.heap.size w1 wq))
                        case atStart => exact ⟨0, rfl, rfl, fun j hj => absurd hj (Nat.not_lt_zero j), HB9.out⟩
                        case round =>
                          obtain ⟨k2, hk, rfl, hj, hb⟩ := hrel
                          have HK := Lib.hid hk.out
                          have HJ := Lib.hid hj.out
                          have HBq := Lib.hid hb.out
                          clear hk hj hb HB9
                          have z0 := (HX.out.below HBq.out HX.out.lt).tv
                          have z1 := (HY.out.below HBq.out HY.out.lt).tv
                          rw [HV.out.2.1] at z0
                          rw [HV.out.2.2] at z1
                          cases gk with
                          | zero =>
                            have hlt : ¬ ((k2 : Int) < ((a.T.length : Nat) : Int)) := by have := HK.out; omega
                            have HF := Lib.hid (show R = true from HR.out.2 ⟨H0.out, H1.out, H2.out, H3.out, HP.out, by
                              apply List.ext_getElem?
                              intro j
                              rcases Nat.lt_or_ge j a.T.length with hj | hj
                              · exact HJ.out j (by have := HK.out; omega)
                              · rw [List.getElem?_eq_none (by rw [List.length_map]; exact hj), List.getElem?_eq_none (by rw [List.length_map, ← H5.out]; exact hj)], H6.out, H7.out, H8.out⟩)
                            go_wp2
                            go_ret
                            exact ⟨by rw [HF.out]; rfl, by rw [HG.out]; exact HW.out.trans (HBq.out.mono HZ1.out)⟩
                          | succ gg =>
                            have hkl : k2 < a.T.length := by have := HK.out; omega
                            have hkb : k2 < b.T.length := by rw [← H5.out]; exact hkl
                            have hlt : ((k2 : Int) < ((a.T.length : Nat) : Int)) := by omega
                            obtain ⟨x, hx⟩ : ∃ x, a.T[k2]? = some x := ⟨_, List.getElem?_eq_getElem hkl⟩
                            obtain ⟨y, hy⟩ : ∃ y, b.T[k2]? = some y := ⟨_, List.getElem?_eq_getElem hkb⟩
                            have hta := HA1.out.T.below HBq.out
                            have htb := HB1.out.T.below HBq.out
                            rw [HV.out.2.1] at hta
                            rw [HV.out.2.2] at htb
                            obtain ⟨b1, off1, hab1, hl1, hr1⟩ := hta.2.at hx
                            obtain ⟨b2, off2, hab2, hl2, hr2⟩ := htb.2.at hy
                            rw [hab1] at z0
                            rw [hab2] at z1
                            have HX9 := Lib.hid (And.intro hx hy)
                            have HTX := Lib.hid (hta.1 x (List.mem_of_getElem? hx))
                            have HTY := Lib.hid (htb.1 y (List.mem_of_getElem? hy))
                            have HW1 := Lib.hid (show ∀ p : Beh wr, p.x.rangeAt b1 (off1 + k2 * 3) x.cells from fun p => range_below hr1 p.h)
                            have HW2 := Lib.hid (show ∀ p : Beh wr, p.x.rangeAt b2 (off2 + k2 * 3) y.cells from fun p => range_below hr2 p.h)
                            clear hta htb hl1 hl2 hr1 hr2 hx hy hab1 hab2
                            obtain ⟨D, hD⟩ : ∃ D : Bool, decide (x.key = y.key) = D := ⟨_, rfl⟩
                            have HD := Lib.hid hD
                            clear hD
                            go_upto_region 11 with fail
                            have f0 : ∀ p : Beh wr, p.x.cell? ⟨g, 36, none⟩ = some (.slice (some ⟨b1, off1, none⟩) a.T.length cT) := fun p => cellb p.h z0
                            have f1 : ∀ p : Beh wr, p.x.cell? ⟨g + 1, 36, none⟩ = some (.slice (some ⟨b2, off2, none⟩) b.T.length dT) := fun p => cellb p.h z1
                            clear z0 z1
                            cases D with
                            | true =>
                              refine wp_region_Q _ rfl (by kernel_rfl) (by kernel_rfl) ?_
                              iterate 4
                                (refine wpQuiet_step (fun K hK => ?_)
                                 go_simp
                                 first
                                   | (refine hK _ ?_; clear hK K)
                                   | (apply Exists.intro
                                      refine ⟨fun _ => ?_, hK _ ?_⟩
                                      (with_reducible rfl)
                                      clear hK K))
                              refine wpQ_load (by rfl) 53 (.tmp 102) rfl (b1) (off1 + k2 * 3) rfl (x.cells) _ (fun w hw => by obtain ⟨p, rfl⟩ := hw; exact (HW1.out p)) Tryz.underlying53 rfl size_tx ?_
                              dsimp only [Act.put]
                              simp only [List.setIfInBounds_toArray, List.set_cons_zero, List.set_cons_succ]
                              iterate 4
                                (refine wpQuiet_step (fun K hK => ?_)
                                 go_simp
                                 first
                                   | (refine hK _ ?_; clear hK K)
                                   | (apply Exists.intro
                                      refine ⟨fun _ => ?_, hK _ ?_⟩
                                      (with_reducible rfl)
                                      clear hK K))
                              refine wpQ_load (by rfl) 53 (.tmp 107) rfl (b2) (off2 + k2 * 3) rfl (y.cells) _ (fun w hw => by obtain ⟨p, rfl⟩ := hw; exact (HW2.out p)) Tryz.underlying53 rfl size_tx ?_
                              dsimp only [Act.put]
                              simp only [List.setIfInBounds_toArray, List.set_cons_zero, List.set_cons_succ]
                              iterate 1
                                (refine wpQuiet_step (fun K hK => ?_)
                                 go_simp
                                 first
                                   | (refine hK _ ?_; clear hK K)
                                   | (apply Exists.intro
                                      refine ⟨fun _ => ?_, hK _ ?_⟩
                                      (first | with_reducible rfl | (refine calls_beh (v := .bool true) ((rsame_any x y _ (HTX.out.below (Beh.h _)) (HTY.out.below (Beh.h _))).mono ?_); rintro e w9 ⟨rfl, hb9⟩; exact ⟨by rw [HD.out], hb9⟩))
                                      clear hK K))
                              iterate 1
                                (refine wpQuiet_step (fun K hK => ?_)
                                 go_simp
                                 first
                                   | (refine hK _ ?_; clear hK K)
                                   | (apply Exists.intro
                                      refine ⟨fun _ => ?_, hK _ ?_⟩
                                      (with_reducible rfl)
                                      clear hK K))
                              refine wpQuiet_nil ?_
                              rintro w9 ⟨⟨w9, hb9⟩, rfl⟩
                              have HB8 := Lib.hid (HBq.out.trans (hb9.mono HBq.out.size))
                              have HJ2 := Lib.hid (show ∀ j, j < k2 + 1 → (a.T.map TxM.key)[j]? = (b.T.map TxM.key)[j]? by
                                intro j hj
                                rcases Nat.lt_or_ge j k2 with h | h
                                · exact HJ.out j h
                                · obtain rfl : j = k2 := by omega
                                  rw [List.getElem?_map, List.getElem?_map, HX9.out.1, HX9.out.2]
                                  exact congrArg some (of_decide_eq_true HD.out))
                              clear hb9 HW1 HW2 HJ HBq f0 f1
                              go_wp2
                              go_roundg gg
                              case measure => omega
                              case rel => exact ⟨k2 + 1, by show _ = _; have := HK.out; omega, by go_num, HJ2.out, HB8.out⟩
                            | false =>
                              have HF := Lib.hid (bad_false HR.out (fun h => by
                                have h9 := congrArg (fun l => l[k2]?) h.2.2.2.2.2.1
                                simp only [List.getElem?_map, HX9.out.1, HX9.out.2, Option.map_some, Option.some.injEq] at h9
                                exact of_decide_eq_false HD.out h9))
                              refine wp_region_Q _ rfl (by kernel_rfl) (by kernel_rfl) ?_
                              iterate 4
                                (refine wpQuiet_step (fun K hK => ?_)
                                 go_simp
                                 first
                                   | (refine hK _ ?_; clear hK K)
                                   | (apply Exists.intro
                                      refine ⟨fun _ => ?_, hK _ ?_⟩
                                      (with_reducible rfl)
                                      clear hK K))
                              refine wpQ_load (by rfl) 53 (.tmp 102) rfl (b1) (off1 + k2 * 3) rfl (x.cells) _ (fun w hw => by obtain ⟨p, rfl⟩ := hw; exact (HW1.out p)) Tryz.underlying53 rfl size_tx ?_
                              dsimp only [Act.put]
                              simp only [List.setIfInBounds_toArray, List.set_cons_zero, List.set_cons_succ]
                              iterate 4
                                (refine wpQuiet_step (fun K hK => ?_)
                                 go_simp
                                 first
                                   | (refine hK _ ?_; clear hK K)
                                   | (apply Exists.intro
                                      refine ⟨fun _ => ?_, hK _ ?_⟩
                                      (with_reducible rfl)
                                      clear hK K))
                              refine wpQ_load (by rfl) 53 (.tmp 107) rfl (b2) (off2 + k2 * 3) rfl (y.cells) _ (fun w hw => by obtain ⟨p, rfl⟩ := hw; exact (HW2.out p)) Tryz.underlying53 rfl size_tx ?_
                              dsimp only [Act.put]
                              simp only [List.setIfInBounds_toArray, List.set_cons_zero, List.set_cons_succ]
                              iterate 1
                                (refine wpQuiet_step (fun K hK => ?_)
                                 go_simp
                                 first
                                   | (refine hK _ ?_; clear hK K)
                                   | (apply Exists.intro
                                      refine ⟨fun _ => ?_, hK _ ?_⟩
                                      (first | with_reducible rfl | (refine calls_beh (v := .bool false) ((rsame_any x y _ (HTX.out.below (Beh.h _)) (HTY.out.below (Beh.h _))).mono ?_); rintro e w9 ⟨rfl, hb9⟩; exact ⟨by rw [HD.out], hb9⟩))
                                      clear hK K))
                              iterate 1
                                (refine wpQuiet_step (fun K hK => ?_)
                                 go_simp
                                 first
                                   | (refine hK _ ?_; clear hK K)
                                   | (apply Exists.intro
                                      refine ⟨fun _ => ?_, hK _ ?_⟩
                                      (with_reducible rfl)
                                      clear hK K))
                              refine wpQuiet_nil ?_
                              rintro w9 ⟨⟨w9, hb9⟩, rfl⟩
                              have HB8 := Lib.hid (HBq.out.trans (hb9.mono HBq.out.size))
                              clear hb9 HW1 HW2 HJ HBq f0 f1
                              go_wp2
                              go_ret
                              exact ⟨by rw [HF.out]; rfl, by rw [HG.out]; exact HW.out.trans (HB8.out.mono HZ1.out)⟩
                      | succ gg =>
                        have hkl : k < a.P.length := by have := HK.out; omega
                        have hkb : k < b.P.length := by rw [← H4.out]; exact hkl
                        have hlt : ((k : Int) < ((a.P.length : Nat) : Int)) := by omega
                        obtain ⟨x, hx⟩ : ∃ x, a.P[k]? = some x := ⟨_, List.getElem?_eq_getElem hkl⟩
                        obtain ⟨y, hy⟩ : ∃ y, b.P[k]? = some y := ⟨_, List.getElem?_eq_getElem hkb⟩
                        have hta := HA1.out.P.below HBq.out
                        have htb := HB1.out.P.below HBq.out
                        rw [HV.out.1.1] at hta
                        rw [HV.out.1.2] at htb
                        obtain ⟨b1, off1, hab1, hl1, hr1⟩ := hta.2.at hx
                        obtain ⟨b2, off2, hab2, hl2, hr2⟩ := htb.2.at hy
                        rw [hab1] at z0
                        rw [hab2] at z1
                        have HX9 := Lib.hid (And.intro hx hy)
                        have f2 : ∀ p : Beh wr, p.x.cell? ⟨b1, off1 + k, none⟩ = some (.int .i64 x) := fun p => cellb p.h (by have := hr1 0 _ rfl; rwa [Nat.mul_one, Nat.add_zero] at this)
                        have f3 : ∀ p : Beh wr, p.x.cell? ⟨b2, off2 + k, none⟩ = some (.int .i64 y) := fun p => cellb p.h (by have := hr2 0 _ rfl; rwa [Nat.mul_one, Nat.add_zero] at this)
                        clear hta htb hl1 hl2 hr1 hr2 hx hy hab1 hab2
                        go_upto_region 6 with fail
                        have f0 : ∀ p : Beh wr, p.x.cell? ⟨g, 35, none⟩ = some (.slice (some ⟨b1, off1, none⟩) a.P.length cP) := fun p => cellb p.h z0
                        have f1 : ∀ p : Beh wr, p.x.cell? ⟨g + 1, 35, none⟩ = some (.slice (some ⟨b2, off2, none⟩) b.P.length dP) := fun p => cellb p.h z1
                        clear z0 z1
                        by_cases hd : x = y
                        · have hqa : (x == y) = true := by rw [hd]; exact beq_self_eq_true _
                          have hqb : (x != y) = false := by rw [bne, hqa]; rfl
                          have HD := Lib.hid hd
                          clear hd
                          refine wp_region_Q _ rfl (by kernel_rfl) (by kernel_rfl) ?_
                          iterate 11
                            (refine wpQuiet_step (fun K hK => ?_)
                             go_simp
                             first
                               | (refine hK _ ?_; clear hK K)
                               | (apply Exists.intro
                                  refine ⟨fun _ => ?_, hK _ ?_⟩
                                  (with_reducible rfl)
                                  clear hK K))
                          refine wpQuiet_nil ?_
                          rintro w9 ⟨⟨w9, hb9⟩, rfl⟩
                          have HB8 := Lib.hid (HBq.out.trans (hb9.mono HBq.out.size))
                          have HJ2 := Lib.hid (show ∀ j, j < k + 1 → a.P[j]? = b.P[j]? by
                            intro j hj
                            rcases Nat.lt_or_ge j k with h | h
                            · exact HJ.out j h
                            · obtain rfl : j = k := by omega
                              rw [HX9.out.1, HX9.out.2, HD.out])
                          clear hb9 HJ HBq f0 f1 f2 f3 hqa hqb
                          go_wp2
                          go_roundg gg
                          case measure => omega
                          case rel => exact ⟨k + 1, by show _ = _; have := HK.out; omega, by go_num, HJ2.out, HB8.out⟩
                        · have hqa : (x == y) = false := beq_false_of_ne hd
                          have hqb : (x != y) = true := by rw [bne, hqa]; rfl
                          have HF := Lib.hid (bad_false HR.out (fun h => hd (by
                            have h9 := congrArg (fun l => l[k]?) h.2.2.2.2.1
                            simp only [HX9.out.1, HX9.out.2, Option.some.injEq] at h9
                            exact h9)))
                          clear hd
                          refine wp_region_Q _ rfl (by kernel_rfl) (by kernel_rfl) ?_
                          iterate 11
                            (refine wpQuiet_step (fun K hK => ?_)
                             go_simp
                             first
                               | (refine hK _ ?_; clear hK K)
                               | (apply Exists.intro
                                  refine ⟨fun _ => ?_, hK _ ?_⟩
                                  (with_reducible rfl)
                                  clear hK K))
                          refine wpQuiet_nil ?_
                          rintro w9 ⟨⟨w9, hb9⟩, rfl⟩
                          have HB8 := Lib.hid (HBq.out.trans (hb9.mono HBq.out.size))
                          clear hb9 HJ HBq f0 f1 f2 f3 hqa hqb
                          go_wp2
                          go_ret
                          exact ⟨by rw [HF.out]; rfl, by rw [HG.out]; exact HW.out.trans (HB8.out.mono HZ1.out)⟩
                  · have q8a : (a.bad == b.bad) = false := beq_false_of_ne h8
                    have q8b : (a.bad != b.bad) = true := by rw [bne, q8a]; rfl
                    have HF := Lib.hid (bad_false HR.out (fun h => h8 h.2.2.2.2.2.2.2.2))
                    clear h8
                    go_wp2
                    go_ret
                    exact ⟨by rw [HF.out]; rfl, by rw [HG.out]; exact HW.out⟩
                · have q7a : (a.m == b.m) = false := beq_false_of_ne h7
                  have q7b : (a.m != b.m) = true := by rw [bne, q7a]; rfl
                  have HF := Lib.hid (bad_false HR.out (fun h => h7 h.2.2.2.2.2.2.2.1))
                  clear h7
                  go_wp2
                  go_ret
                  exact ⟨by rw [HF.out]; rfl, by rw [HG.out]; exact HW.out⟩
              · have q6a : (a.n == b.n) = false := beq_false_of_ne h6
                have q6b : (a.n != b.n) = true := by rw [bne, q6a]; rfl
                have HF := Lib.hid (bad_false HR.out (fun h => h6 h.2.2.2.2.2.2.1))
                clear h6
                go_wp2
                go_ret
                exact ⟨by rw [HF.out]; rfl, by rw [HG.out]; exact HW.out⟩
            · have q5a : (((a.T.length : Nat) : Int) == ((b.T.length : Nat) : Int)) = false := beq_false_of_ne (by omega)
              have q5b : (((a.T.length : Nat) : Int) != ((b.T.length : Nat) : Int)) = true := by rw [bne, q5a]; rfl
              have HF := Lib.hid (bad_false HR.out (fun h => h5 (by have := congrArg List.length h.2.2.2.2.2.1; rwa [List.length_map, List.length_map] at this)))
              clear h5
              go_wp2
              go_ret
              exact ⟨by rw [HF.out]; rfl, by rw [HG.out]; exact HW.out⟩
          · have q4a : (((a.P.length : Nat) : Int) == ((b.P.length : Nat) : Int)) = false := beq_false_of_ne (by omega)
            have q4b : (((a.P.length : Nat) : Int) != ((b.P.length : Nat) : Int)) = true := by rw [bne, q4a]; rfl
            have HF := Lib.hid (bad_false HR.out (fun h => h4 (by rw [h.2.2.2.2.1])))
            clear h4
            go_wp2
            go_ret
            exact ⟨by rw [HF.out]; rfl, by rw [HG.out]; exact HW.out⟩
        · have q3a : (((a.nonce : Nat) : Int) == ((b.nonce : Nat) : Int)) = false := beq_false_of_ne (by omega)
          have q3b : (((a.nonce : Nat) : Int) != ((b.nonce : Nat) : Int)) = true := by rw [bne, q3a]; rfl
          have HF := Lib.hid (bad_false HR.out (fun h => h3 h.2.2.2.1))
          clear h3
          go_wp2
          go_ret
          exact ⟨by rw [HF.out]; rfl, by rw [HG.out]; exact HW.out⟩
      · have heq : ∀ w9, (Op.equalIn 10000 25 (.agg (bys a.lock).toArray) (.agg (bys b.lock).toArray)).run Tryz.prog w9 = .ok false w9 := fun w9 => (eqH w9 9998 a.lock b.lock HA1.out.lock HB1.out.lock).trans (by rw [decide_eq_false h2])
        have HF := Lib.hid (bad_false HR.out (fun h => h2 h.2.2.1))
        clear h2
        go_wp2
        go_ret
        exact ⟨by rw [HF.out]; rfl, by rw [HG.out]; exact HW.out⟩
    · have hsq : ((strL a.B).toList == (strL b.B).toList) = false := by rw [strL_beq _ _ HA1.out.B.1 HB1.out.B.1]; exact decide_eq_false h1
      have hsn : ((strL a.B).toList != (strL b.B).toList) = true := by rw [bne, hsq]; rfl
      have HF := Lib.hid (bad_false HR.out (fun h => h1 h.2.1))
      clear h1
      go_wp2
      go_ret
      exact ⟨by rw [HF.out]; rfl, by rw [HG.out]; exact HW.out⟩
  · have q0a : (a.kind == b.kind) = false := beq_false_of_ne h0
    have q0b : (a.kind != b.kind) = true := by rw [bne, q0a]; rfl
    have HF := Lib.hid (bad_false HR.out (fun h => h0 h.1))
    clear h0
    go_wp2
    go_ret
    exact ⟨by rw [HF.out]; rfl, by rw [HG.out]; exact HW.out⟩
end Go.Proofs.YtnohfondkcbdnaaGreatDoor
