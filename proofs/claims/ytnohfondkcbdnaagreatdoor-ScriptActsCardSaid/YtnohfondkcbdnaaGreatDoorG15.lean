/- plexusref29.MayAct. -/
import Derived.Test.YtnohfondkcbdnaaGreatDoorG12
import Derived.Test.YtnohfondkcbdnaaGreatDoorG14
namespace Go.Proofs.YtnohfondkcbdnaaGreatDoor
open Go.RowKit Go.Lib
set_option linter.unusedVariables false
set_option linter.unusedSimpArgs false
attribute [local go_sem ↓] Go.wp_at_zero Go.wp_at_succ

/-- Which acts may be told. -/
def MayP (a : ActM) : Prop := (1 ≤ a.kind ∧ a.kind ≤ 9) ∧ actEq a (bareF a) = true ∧ a.B.length ≤ 1048576 ∧ a.P.length ≤ 20 ∧ a.T.length ≤ 20 ∧ (∀ z ∈ [a.n, a.m] ++ a.P, inN z = true) ∧ ∀ x ∈ a.T, txOk x = true
theorem info_int : (Tryz.prog.info? 3).map (fun i => (i.zero, i.size, i.bytes)) = some (some (.int .i64 0), 1, 8) := by kernel_rfl
def numsC (P : List Int) : List Value := P.map (.int .i64)
theorem numsC_app (P Q : List Int) : numsC (P ++ Q) = numsC P ++ numsC Q := by simp [numsC]
theorem numsC_at (P : List Int) (j : Nat) (z : Int) (h : P[j]? = some z) : (numsC P)[j]? = some (.int .i64 z) := by simp [numsC, h]
theorem nums_cell {w : World} {b off : Nat} {P : List Int} (h : ∀ j x, P[j]? = some x → w.rangeAt b (off + j * 1) (numC x)) (j : Nat) (u : Value) (hu : (numsC P)[j]? = some u) : w.cell? ((⟨b, off, none⟩ : Addr).add j) = some u := by
  have hj : j < P.length := by have := (List.getElem?_eq_some_iff.1 hu).1; simpa [numsC] using this
  have h1 := h j P[j] (List.getElem?_eq_getElem hj) 0 _ rfl
  rw [Nat.mul_one, Nat.add_zero] at h1
  rw [show (⟨b, off, none⟩ : Addr).add j = ⟨b, off + j, none⟩ by unfold Addr.add; split <;> simp_all]
  rw [h1, ← hu]
  exact (numsC_at P j _ (List.getElem?_eq_getElem hj)).symm
/-- append of a row of numbers. -/
theorem appI {P : Program} {ops : Array Oper} {rest : List Oper} {o : Oper} {a : Act} {Q : Exit → Act → World → Prop} {W : World} (base : Nat) (hgd : o.guard = none) (s x : Operand) (t e : TypeId)
    (ho : o.op = .call { callee := .builtin .append, args := #[s, x], argTypes := #[t, t] })
    (ht : P.underlying t = some (.slice e)) (hinfo : (P.info? e).map (fun i => (i.zero, i.size, i.bytes)) = some (some (.int .i64 0), 1, 8))
    (v y : Value) (X L Z : List Int) (hZ : X ++ L = Z) (hs : a.eval s = v) (hx : a.eval x = y)
    (HO : W.ownsRow base e 1 v X.length (numsC X)) (HY : RowIs 1 numC W y L) (hbase : base ≤ W.heap.size) (hl : X.length + L.length ≤ 1000000)
    (h : ∀ v1 w1, Hid (w1.ownsRow base e 1 v1 Z.length (numsC Z)) → Hid (∀ B w0, Below B w0 W → B ≤ base → Below B w0 w1) → wpList P ops Q rest (a.put o.dst v1) w1) :
    wpList P ops Q (o :: rest) a W := by
  subst hZ
  obtain ⟨i0, hi, hzz⟩ := Option.map_eq_some_iff.1 hinfo
  simp only [Prod.mk.injEq] at hzz
  obtain ⟨hz0, hz1, hz2⟩ := hzz
  rcases HY with ⟨rfl, rfl⟩ | ⟨b, off, c, rfl, _, _, hcell⟩
  · refine wpList_append_own_none hgd s x t ho base e i0 1 ht hi v X.length (numsC X) hs HO hx ?_
    exact h v W (by show World.ownsRow _ _ _ _ _ _ _; simpa using HO) (fun B w0 hB _ => hB)
  · refine wpList_append_own W hgd s x t ho base e i0 (.int .i64 0) 1 8 ht hi hz0 hz1 hz2 rfl (by omega) v X.length (numsC X) hs HO ⟨b, off, none⟩ L.length c (numsC L) hx (by simp [numsC])
      (nums_cell hcell) (fun u hu => by obtain ⟨z, _, rfl⟩ := List.mem_map.1 hu; rfl) (by unfold maxLen; omega) (by omega) hbase ?_
    intro v1 w1 hown hg _
    refine h v1 w1 (by show World.ownsRow _ _ _ _ _ _ _; rw [numsC_app, List.length_append]; exact hown) (fun B w0 hB hbb => hB.grown hg (by omega) (fun k hk => Nat.le_trans hbb (HO.lt k hk).1))
theorem own_two (w : World) (n m : Int) : (w.alloc (.cells #[.int .i64 n, .int .i64 m] 3)).ownsRow w.heap.size 3 1 (.slice (some ⟨w.heap.size, 0, none⟩) 2 2) [n, m].length (numsC [n, m]) :=
  ⟨rfl, .inr ⟨w.heap.size, 2, _, rfl, Nat.le_refl _, alloc_top w _, Nat.le_refl _, by unfold maxLen; omega, rfl, rfl⟩⟩
set_option maxRecDepth 100000 in
set_option maxHeartbeats 12800000 in
theorem rmayact_any (a : ActM) (w : World) (ha : a.ok w) (R : Bool) (hR : R = true ↔ MayP a) :
    Calls Tryz.prog 8 #[.agg a.cells.toArray] w fun e w' => e = .returned (.bool R) ∧ Below w.heap.size w w' := by
  have HR := Lib.hid hR
  have HA := Lib.hid ha
  obtain ⟨aB, cB, hbv⟩ := ha.B.form
  obtain ⟨aP, cP, hpv⟩ := ha.P.2.form
  obtain ⟨aT, cT, htv⟩ := ha.T.2.form
  have HV := Lib.hid (And.intro hbv (And.intro hpv htv))
  have hlT : a.T.length ≤ 9223372036854775807 := ha.T.2.len
  clear hR ha hbv hpv htv
  go_enter Tryz.func8, Tryz.ntmps8
  go_upto_region 1 with fail
  have hm := Arr.made w 30 a.cells
  have hb := (Below.refl w.heap.size w).alloc (Nat.le_refl _) (.cells a.cells.toArray 30)
  have HX := Lib.hid (show ActAt _ w.heap.size a from ⟨hm, HA.out.lock⟩)
  have HW := Lib.hid hb
  have HA1 := Lib.hid (HA.out.below hb)
  clear hm hb HA
  generalize World.alloc _ _ = w1 at *
  obtain ⟨g, hg⟩ : ∃ g, w.heap.size = g := ⟨_, rfl⟩
  rw [hg] at HX HW ⊢
  have HG := Lib.hid hg
  have HZ1 := Lib.hid (show g ≤ w1.heap.size from Nat.le_of_lt HX.out.lt)
  have HSz := Lib.hid (show (Tryz.prog.info? 30).map (·.size) = some a.cells.length by rw [ActM.cells_len HA1.out]; exact size_act)
  have HRg := Lib.hid (show ∀ p : Beh w1, p.x.rangeAt g 0 a.cells from fun p => range_below HX.out.1.range p.h)
  clear hg
  have f0 : ∀ p : Beh w1, p.x.cell? ⟨g, 0, none⟩ = some (.int .i64 a.kind) := fun p => cellb p.h HX.out.kind
  have f1 : ∀ p : Beh w1, p.x.cell? ⟨g, 1, none⟩ = some (.slice aB a.B.length cB) := fun p => cellb p.h (by rw [← HV.out.1]; exact HX.out.bv)
  have f2 : ∀ p : Beh w1, p.x.cell? ⟨g, 35, none⟩ = some (.slice aP a.P.length cP) := fun p => cellb p.h (by rw [← HV.out.2.1]; exact HX.out.pv)
  have f3 : ∀ p : Beh w1, p.x.cell? ⟨g, 36, none⟩ = some (.slice aT a.T.length cT) := fun p => cellb p.h (by rw [← HV.out.2.2]; exact HX.out.tv)
  obtain ⟨S, hS⟩ : ∃ S, actEq a (bareF a) = S := ⟨_, rfl⟩
  have HS := Lib.hid hS
  clear hS
  by_cases h0 : 1 ≤ a.kind
  · have q0 : ¬ (a.kind < 1) := by omega
    by_cases h1 : a.kind ≤ 9
    · have q1 : ¬ (a.kind > 9) := by omega
      have H1 := Lib.hid (And.intro h0 h1)
      clear h0 h1
      cases S
      rotate_left
      · have HDs := HS
        by_cases h3 : a.B.length ≤ 1048576
        · have q3 : ¬ (((a.B.length : Nat) : Int) > 1048576) := by omega
          have H3 := Lib.hid h3
          clear h3
          by_cases h4 : a.P.length ≤ 20
          · have q4 : ¬ (((a.P.length : Nat) : Int) > 20) := by omega
            have H4 := Lib.hid h4
            clear h4
            by_cases h5 : a.T.length ≤ 20
            · have q5 : ¬ (((a.T.length : Nat) : Int) > 20) := by omega
              have H5 := Lib.hid h5
              clear h5
              refine wp_region_Q _ rfl (by kernel_rfl) (by kernel_rfl) ?_
              iterate 4
                (refine wpQuiet_step (fun K hK => ?_)
                 go_simp
                 first
                   | (refine hK _ ?_; clear hK K)
                   | (apply Exists.intro
                      refine ⟨fun _ => ?_, hK _ ?_⟩
                      (with_reducible rfl)
                      clear hK K))
              iterate 3
                (refine wpQuiet_step (fun K hK => ?_)
                 go_simp
                 first
                   | (refine hK _ ?_; clear hK K)
                   | (apply Exists.intro
                      refine ⟨fun _ => ?_, hK _ ?_⟩
                      (with_reducible rfl)
                      clear hK K))
              iterate 2
                (refine wpQuiet_step (fun K hK => ?_)
                 go_simp
                 first
                   | (refine hK _ ?_; clear hK K)
                   | (apply Exists.intro
                      refine ⟨fun _ => ?_, hK _ ?_⟩
                      (with_reducible rfl)
                      clear hK K))
              refine wpQ_load (by rfl) 30 (.tmp 1) rfl (g) (0) rfl (a.cells) _ (fun w hw => by obtain ⟨p, rfl⟩ := hw; exact (HRg.out p)) Tryz.underlying30 rfl HSz.out ?_
              dsimp only [Act.put]
              simp only [List.setIfInBounds_toArray, List.set_cons_zero, List.set_cons_succ]
              refine wpQ_load (by rfl) 30 (.tmp 1) rfl (g) (0) rfl (a.cells) _ (fun w hw => by obtain ⟨p, rfl⟩ := hw; exact (HRg.out p)) Tryz.underlying30 rfl HSz.out ?_
              dsimp only [Act.put]
              simp only [List.setIfInBounds_toArray, List.set_cons_zero, List.set_cons_succ]
              iterate 1
                (refine wpQuiet_step (fun K hK => ?_)
                 go_simp
                 first
                   | (refine hK _ ?_; clear hK K)
                   | (apply Exists.intro
                      refine ⟨fun _ => ?_, hK _ ?_⟩
                      (first | with_reducible rfl | (refine calls_beh (v := .agg (bareF a).cells.toArray) (bare_any a _ (HA1.out.below (Beh.h _)))))
                      clear hK K))
              iterate 1
                (refine wpQuiet_step (fun K hK => ?_)
                 go_simp
                 first
                   | (refine hK _ ?_; clear hK K)
                   | (apply Exists.intro
                      refine ⟨fun _ => ?_, hK _ ?_⟩
                      (first | with_reducible rfl | (refine calls_beh (v := .bool true) ((rsact_any a (bareF a) _ (HA1.out.below (Beh.h _)) (bareF_ok (HA1.out.below (Beh.h _)))).mono ?_); rintro e w9 ⟨rfl, hb9⟩; exact ⟨by rw [HS.out], hb9⟩))
                      clear hK K))
              iterate 1
                (refine wpQuiet_step (fun K hK => ?_)
                 go_simp
                 first
                   | (refine hK _ ?_; clear hK K)
                   | (apply Exists.intro
                      refine ⟨fun _ => ?_, hK _ ?_⟩
                      (with_reducible rfl)
                      clear hK K))
              iterate 2
                (refine wpQuiet_step (fun K hK => ?_)
                 go_simp
                 first
                   | (refine hK _ ?_; clear hK K)
                   | (apply Exists.intro
                      refine ⟨fun _ => ?_, hK _ ?_⟩
                      (with_reducible rfl)
                      clear hK K))
              iterate 4
                (refine wpQuiet_step (fun K hK => ?_)
                 go_simp
                 first
                   | (refine hK _ ?_; clear hK K)
                   | (apply Exists.intro
                      refine ⟨fun _ => ?_, hK _ ?_⟩
                      (with_reducible rfl)
                      clear hK K))
              iterate 2
                (refine wpQuiet_step (fun K hK => ?_)
                 go_simp
                 first
                   | (refine hK _ ?_; clear hK K)
                   | (apply Exists.intro
                      refine ⟨fun _ => ?_, hK _ ?_⟩
                      (with_reducible rfl)
                      clear hK K))
              iterate 4
                (refine wpQuiet_step (fun K hK => ?_)
                 go_simp
                 first
                   | (refine hK _ ?_; clear hK K)
                   | (apply Exists.intro
                      refine ⟨fun _ => ?_, hK _ ?_⟩
                      (with_reducible rfl)
                      clear hK K))
              iterate 2
                (refine wpQuiet_step (fun K hK => ?_)
                 go_simp
                 first
                   | (refine hK _ ?_; clear hK K)
                   | (apply Exists.intro
                      refine ⟨fun _ => ?_, hK _ ?_⟩
                      (with_reducible rfl)
                      clear hK K))
              iterate 4
                (refine wpQuiet_step (fun K hK => ?_)
                 go_simp
                 first
                   | (refine hK _ ?_; clear hK K)
                   | (apply Exists.intro
                      refine ⟨fun _ => ?_, hK _ ?_⟩
                      (with_reducible rfl)
                      clear hK K))
              iterate 1
                (refine wpQuiet_step (fun K hK => ?_)
                 go_simp
                 first
                   | (refine hK _ ?_; clear hK K)
                   | (apply Exists.intro
                      refine ⟨fun _ => ?_, hK _ ?_⟩
                      (with_reducible rfl)
                      clear hK K))
              refine wpQuiet_nil ?_
              rintro w9 ⟨⟨w9, hb9⟩, rfl⟩
              have HW9 := Lib.hid (HW.out.trans (hb9.mono HZ1.out))
              have HX9 := Lib.hid (HX.out.below hb9 HX.out.lt)
              have HA9 := Lib.hid (HA1.out.below hb9)
              have HZ9 := Lib.hid (Nat.le_trans HZ1.out hb9.size)
              clear hb9 HRg f0 f1 f2 f3 q0 q1 q3 q4 q5 HW HX HA1 HZ1
              have kn_ := HX9.out.n
              have km_ := HX9.out.m
              have kp_ := HX9.out.pv
              go_upto_region 3 with fail
              go_step
              iterate 12 (first | go_values | go_skip | go_guarded | go_step | go_upon)
              have HB0 := Lib.hid (own_two w9 a.n a.m)
              have hba := (Below.refl w9.heap.size w9).alloc (Nat.le_refl _) (.cells #[.int .i64 a.n, .int .i64 a.m] 3)
              have HBa := Lib.hid hba
              have kq_ := cellb hba kp_
              iterate 3 (first | go_values | go_skip | go_guarded | go_step | go_upon)
              clear hba kp_ kn_ km_
              generalize World.alloc _ _ = wA at *
              rw [HV.out.2.1] at kq_
              obtain ⟨B, hB⟩ : ∃ B, w9.heap.size = B := ⟨_, rfl⟩
              rw [hB] at HB0 HBa ⊢
              have HBe := Lib.hid hB
              have HZB := Lib.hid (show g ≤ B by rw [← hB]; exact HZ9.out)
              have HXB := Lib.hid (show g < B by rw [← hB]; exact HX9.out.lt)
              have HXA := Lib.hid (HX9.out.below HBa.out HXB.out)
              have HAA := Lib.hid (HA9.out.below (w' := wA) (by rw [hB]; exact HBa.out))
              have HZA := Lib.hid (show B ≤ wA.heap.size by have := HBa.out.size; rw [hB] at this; exact this)
              have HPA := Lib.hid (show RowIs 1 numC wA (.slice aP a.P.length cP) a.P by rw [← HV.out.2.1]; exact HAA.out.P.2)
              obtain ⟨Z, hZ⟩ : ∃ Z, [a.n, a.m] ++ a.P = Z := ⟨_, rfl⟩
              have HZe := Lib.hid hZ
              have HX0 := HX9
              have HA0 := HA9
              clear hB hZ HX9 HA9
              iterate 6 (first | go_values | go_skip | go_guarded | go_step | go_upon)
              refine appI B rfl _ _ 27 3 rfl Tryz.underlying27 info_int (.slice (some ⟨B, 0, none⟩) 2 2) (.slice aP a.P.length cP) [a.n, a.m] a.P Z HZe.out rfl rfl HB0.out HPA.out HZA.out (by have := H4.out; simp only [List.length_cons, List.length_nil]; omega) ?_
              intro v3 wB ho3 hb3
              have HL3 := Lib.hid (show Z.length = a.P.length + 2 by rw [← HZe.out]; simp)
              obtain ⟨g3, c3, rfl⟩ : ∃ g3 c3, v3 = .slice (some ⟨g3, 0, none⟩) Z.length c3 := by
                rcases ho3.out.2 with ⟨_, h⟩ | ⟨g3, c3, _, h, _⟩
                · have := HL3.out; omega
                · exact ⟨g3, c3, h⟩
              have HO3 := Lib.hid ho3.out
              have HB3 := Lib.hid (hb3.out B w9 HBa.out (Nat.le_refl _))
              have hlz : Z.length ≤ 9223372036854775807 := by have := HL3.out; have := H4.out; omega
              clear ho3 hb3 HB0 HBa HPA kq_ HXA HAA HZA
              go_wp2
              go_loopg [4] Z.length (fun gg v4 wq => ∃ k : Nat, Hid (gg + k = Z.length) ∧ v4 = .int .i64 (k : Int) ∧ Hid (∀ j z, j < k → Z[j]? = some z → inN z = true) ∧ Hid (Below wB.heap.size wB wq))
              case atStart => exact ⟨0, rfl, rfl, fun j z hj => absurd hj (Nat.not_lt_zero j), Below.refl _ _⟩
              case round =>
                obtain ⟨k, hk, rfl, hj, hb⟩ := hrel
                have HK := Lib.hid hk.out
                have HJ := Lib.hid hj.out
                have HBq := Lib.hid hb.out
                clear hk hj hb
                cases gk with
                | zero =>
                  have hlt : ¬ ((k : Int) < ((Z.length : Nat) : Int)) := by have := HK.out; omega
                  have HAll := Lib.hid (show ∀ z ∈ [a.n, a.m] ++ a.P, inN z = true by
                    rw [HZe.out]
                    intro z hz
                    obtain ⟨j, hj⟩ := List.getElem?_of_mem hz
                    exact HJ.out j z (by have := HK.out; have := (List.getElem?_eq_some_iff.1 hj).1; omega) hj)
                  have HBw := Lib.hid (HB3.out.trans (HBq.out.mono (by have := HB3.out.size; rw [HBe.out] at this; exact this)))
                  clear HJ HBq
                  go_wp2
                  go_loopg [5] a.T.length (fun gg v5 wq => ∃ k : Nat, Hid (gg + k = a.T.length) ∧ v5 = .int .i64 (k : Int) ∧ Hid (∀ j z, j < k → a.T[j]? = some z → txOk z = true) ∧ Hid (Below B w9 wq))
                  case atStart => exact ⟨0, rfl, rfl, fun j z hj => absurd hj (Nat.not_lt_zero j), HBw.out⟩
                  case round =>
                    obtain ⟨k, hk, rfl, hj, hb⟩ := hrel
                    have HK := Lib.hid hk.out
                    have HJ := Lib.hid hj.out
                    have HBq := Lib.hid hb.out
                    clear hk hj hb HBw
                    have z0 := (HX0.out.below HBq.out HXB.out).tv
                    rw [HV.out.2.2] at z0
                    cases gk with
                    | zero =>
                      have hlt : ¬ ((k : Int) < ((a.T.length : Nat) : Int)) := by have := HK.out; omega
                      have HF := Lib.hid (show R = true from HR.out.2 ⟨H1.out, HS.out, H3.out, H4.out, H5.out, HAll.out, fun x hx => by
                        obtain ⟨j, hj⟩ := List.getElem?_of_mem hx
                        exact HJ.out j x (by have := HK.out; have := (List.getElem?_eq_some_iff.1 hj).1; omega) hj⟩)
                      go_wp2
                      go_ret
                      exact ⟨by rw [HF.out]; rfl, by rw [HG.out]; exact HW9.out.trans (HBq.out.mono HZB.out)⟩
                    | succ gg =>
                      have hkl : k < a.T.length := by have := HK.out; omega
                      have hlt : ((k : Int) < ((a.T.length : Nat) : Int)) := by omega
                      obtain ⟨x, hx⟩ : ∃ x, a.T[k]? = some x := ⟨_, List.getElem?_eq_getElem hkl⟩
                      have hT := HA0.out.T.below (w' := wr) (by rw [HBe.out]; exact HBq.out)
                      rw [HV.out.2.2] at hT
                      obtain ⟨b1, off1, hab, hl1, hr1⟩ := hT.2.at hx
                      rw [hab] at z0
                      have hC := rtxmay_any x wr (hT.1 x (List.mem_of_getElem? hx))
                      rw [show decide (checkF x = 0) = txOk x from rfl] at hC
                      have HRx := Lib.hid hr1
                      have HTx := Lib.hid hx
                      obtain ⟨D, hD⟩ : ∃ D, txOk x = D := ⟨_, rfl⟩
                      rw [hD] at hC
                      have HC := Lib.hid hC
                      have HD := Lib.hid hD
                      clear hT hl1 hr1 hx hC hD hab
                      go_upto_region 12 with fail
                      go_step
                      iterate 12 (first | go_values | go_skip | go_guarded | go_step | go_upon)
                      refine wpList_load_mid (P := Tryz.prog) rfl 53 _ rfl b1 (off1 + k * 3) rfl _ _ HRx.out Tryz.underlying53 rfl size_tx ?_
                      cases D with
                      | true =>
                        go_wp2_with fail
                        with_reducible refine HC.out.mono ?_
                        rintro e w3 ⟨rfl, hb⟩
                        dsimp only
                        have HB4 := Lib.hid (HBq.out.trans (hb.mono (by have := HBq.out.size; rw [HBe.out] at this; exact this)))
                        have HJ4 := Lib.hid (show ∀ j z, j < k + 1 → a.T[j]? = some z → txOk z = true by
                          intro j z hj hz
                          rcases Nat.lt_or_ge j k with h | h
                          · exact HJ.out j z h hz
                          · obtain rfl : j = k := by omega
                            rw [HTx.out] at hz
                            obtain rfl := Option.some.inj hz
                            exact HD.out)
                        clear hb HC HBq HJ z0
                        go_wp2
                        go_roundg gg
                        case measure => omega
                        case rel => exact ⟨k + 1, by show _ = _; have := HK.out; omega, by go_num, HJ4.out, HB4.out⟩
                      | false =>
                        go_wp2_with fail
                        with_reducible refine HC.out.mono ?_
                        rintro e w3 ⟨rfl, hb⟩
                        dsimp only
                        have HB4 := Lib.hid (HBq.out.trans (hb.mono (by have := HBq.out.size; rw [HBe.out] at this; exact this)))
                        have HF := Lib.hid (bad_false HR.out (fun h => by
                          have := h.2.2.2.2.2.2 x (List.mem_of_getElem? HTx.out)
                          rw [HD.out] at this; cases this))
                        clear hb HC HBq HJ z0
                        go_wp2
                        go_ret
                        exact ⟨by rw [HF.out]; rfl, by rw [HG.out]; exact HW9.out.trans (HB4.out.mono HZB.out)⟩
                | succ gg =>
                  have hkl : k < Z.length := by have := HK.out; omega
                  have hlt : ((k : Int) < ((Z.length : Nat) : Int)) := by omega
                  obtain ⟨x, hx⟩ : ∃ x, Z[k]? = some x := ⟨_, List.getElem?_eq_getElem hkl⟩
                  have hcx : wr.cell? ⟨g3, k, none⟩ = some (.int .i64 x) := cellb HBq.out (by rw [World.ownsRow.cellAt HO3.out k (by omega)]; exact numsC_at Z k x hx)
                  have HXx := Lib.hid hx
                  have HBw := Lib.hid (HB3.out.trans (HBq.out.mono (by have := HB3.out.size; rw [HBe.out] at this; exact this)))
                  clear hx
                  by_cases h6 : 0 ≤ x
                  · have q6 : ¬ (x < 0) := by omega
                    by_cases h7 : x ≤ 1000000
                    · have q7 : ¬ (x > 1000000) := by omega
                      have HJ4 := Lib.hid (show ∀ j z, j < k + 1 → Z[j]? = some z → inN z = true by
                        intro j z hj hz
                        rcases Nat.lt_or_ge j k with h | h
                        · exact HJ.out j z h hz
                        · obtain rfl : j = k := by omega
                          rw [HXx.out] at hz
                          obtain rfl := Option.some.inj hz
                          exact decide_eq_true ⟨h6, h7⟩)
                      clear h6 h7
                      go_wp2
                      go_roundg gg
                      case measure => omega
                      case rel => exact ⟨k + 1, by show _ = _; have := HK.out; omega, by go_num, HJ4.out, HBq.out⟩
                    · have q7 : x > 1000000 := by omega
                      have HF := Lib.hid (bad_false HR.out (fun h => by
                        have := of_decide_eq_true (h.2.2.2.2.2.1 x (by rw [HZe.out]; exact List.mem_of_getElem? HXx.out))
                        omega))
                      clear h6 h7
                      go_wp2
                      go_ret
                      exact ⟨by rw [HF.out]; rfl, by rw [HG.out]; exact HW9.out.trans (HBw.out.mono HZB.out)⟩
                  · have q6 : x < 0 := by omega
                    have HF := Lib.hid (bad_false HR.out (fun h => by
                      have := of_decide_eq_true (h.2.2.2.2.2.1 x (by rw [HZe.out]; exact List.mem_of_getElem? HXx.out))
                      omega))
                    clear h6
                    go_wp2
                    go_ret
                    exact ⟨by rw [HF.out]; rfl, by rw [HG.out]; exact HW9.out.trans (HBw.out.mono HZB.out)⟩
            · have q5 : (((a.T.length : Nat) : Int) > 20) := by omega
              have HF := Lib.hid (bad_false HR.out (fun h => h5 h.2.2.2.2.1))
              clear h5
              refine wp_region_Q _ rfl (by kernel_rfl) (by kernel_rfl) ?_
              iterate 4
                (refine wpQuiet_step (fun K hK => ?_)
                 go_simp
                 first
                   | (refine hK _ ?_; clear hK K)
                   | (apply Exists.intro
                      refine ⟨fun _ => ?_, hK _ ?_⟩
                      (with_reducible rfl)
                      clear hK K))
              iterate 3
                (refine wpQuiet_step (fun K hK => ?_)
                 go_simp
                 first
                   | (refine hK _ ?_; clear hK K)
                   | (apply Exists.intro
                      refine ⟨fun _ => ?_, hK _ ?_⟩
                      (with_reducible rfl)
                      clear hK K))
              iterate 2
                (refine wpQuiet_step (fun K hK => ?_)
                 go_simp
                 first
                   | (refine hK _ ?_; clear hK K)
                   | (apply Exists.intro
                      refine ⟨fun _ => ?_, hK _ ?_⟩
                      (with_reducible rfl)
                      clear hK K))
              refine wpQ_load (by rfl) 30 (.tmp 1) rfl (g) (0) rfl (a.cells) _ (fun w hw => by obtain ⟨p, rfl⟩ := hw; exact (HRg.out p)) Tryz.underlying30 rfl HSz.out ?_
              dsimp only [Act.put]
              simp only [List.setIfInBounds_toArray, List.set_cons_zero, List.set_cons_succ]
              refine wpQ_load (by rfl) 30 (.tmp 1) rfl (g) (0) rfl (a.cells) _ (fun w hw => by obtain ⟨p, rfl⟩ := hw; exact (HRg.out p)) Tryz.underlying30 rfl HSz.out ?_
              dsimp only [Act.put]
              simp only [List.setIfInBounds_toArray, List.set_cons_zero, List.set_cons_succ]
              iterate 1
                (refine wpQuiet_step (fun K hK => ?_)
                 go_simp
                 first
                   | (refine hK _ ?_; clear hK K)
                   | (apply Exists.intro
                      refine ⟨fun _ => ?_, hK _ ?_⟩
                      (first | with_reducible rfl | (refine calls_beh (v := .agg (bareF a).cells.toArray) (bare_any a _ (HA1.out.below (Beh.h _)))))
                      clear hK K))
              iterate 1
                (refine wpQuiet_step (fun K hK => ?_)
                 go_simp
                 first
                   | (refine hK _ ?_; clear hK K)
                   | (apply Exists.intro
                      refine ⟨fun _ => ?_, hK _ ?_⟩
                      (first | with_reducible rfl | (refine calls_beh (v := .bool true) ((rsact_any a (bareF a) _ (HA1.out.below (Beh.h _)) (bareF_ok (HA1.out.below (Beh.h _)))).mono ?_); rintro e w9 ⟨rfl, hb9⟩; exact ⟨by rw [HS.out], hb9⟩))
                      clear hK K))
              iterate 1
                (refine wpQuiet_step (fun K hK => ?_)
                 go_simp
                 first
                   | (refine hK _ ?_; clear hK K)
                   | (apply Exists.intro
                      refine ⟨fun _ => ?_, hK _ ?_⟩
                      (with_reducible rfl)
                      clear hK K))
              iterate 2
                (refine wpQuiet_step (fun K hK => ?_)
                 go_simp
                 first
                   | (refine hK _ ?_; clear hK K)
                   | (apply Exists.intro
                      refine ⟨fun _ => ?_, hK _ ?_⟩
                      (with_reducible rfl)
                      clear hK K))
              iterate 4
                (refine wpQuiet_step (fun K hK => ?_)
                 go_simp
                 first
                   | (refine hK _ ?_; clear hK K)
                   | (apply Exists.intro
                      refine ⟨fun _ => ?_, hK _ ?_⟩
                      (with_reducible rfl)
                      clear hK K))
              iterate 2
                (refine wpQuiet_step (fun K hK => ?_)
                 go_simp
                 first
                   | (refine hK _ ?_; clear hK K)
                   | (apply Exists.intro
                      refine ⟨fun _ => ?_, hK _ ?_⟩
                      (with_reducible rfl)
                      clear hK K))
              iterate 4
                (refine wpQuiet_step (fun K hK => ?_)
                 go_simp
                 first
                   | (refine hK _ ?_; clear hK K)
                   | (apply Exists.intro
                      refine ⟨fun _ => ?_, hK _ ?_⟩
                      (with_reducible rfl)
                      clear hK K))
              iterate 2
                (refine wpQuiet_step (fun K hK => ?_)
                 go_simp
                 first
                   | (refine hK _ ?_; clear hK K)
                   | (apply Exists.intro
                      refine ⟨fun _ => ?_, hK _ ?_⟩
                      (with_reducible rfl)
                      clear hK K))
              iterate 4
                (refine wpQuiet_step (fun K hK => ?_)
                 go_simp
                 first
                   | (refine hK _ ?_; clear hK K)
                   | (apply Exists.intro
                      refine ⟨fun _ => ?_, hK _ ?_⟩
                      (with_reducible rfl)
                      clear hK K))
              iterate 1
                (refine wpQuiet_step (fun K hK => ?_)
                 go_simp
                 first
                   | (refine hK _ ?_; clear hK K)
                   | (apply Exists.intro
                      refine ⟨fun _ => ?_, hK _ ?_⟩
                      (with_reducible rfl)
                      clear hK K))
              refine wpQuiet_nil ?_
              rintro w9 ⟨⟨w9, hb9⟩, rfl⟩
              have HB8 := Lib.hid (HW.out.trans (hb9.mono HZ1.out))
              clear hb9 HRg f0 f1 f2 f3
              go_wp2
              go_ret
              exact ⟨by rw [HF.out]; rfl, by rw [HG.out]; exact HB8.out⟩
          · have q4 : (((a.P.length : Nat) : Int) > 20) := by omega
            have HF := Lib.hid (bad_false HR.out (fun h => h4 h.2.2.2.1))
            clear h4
            refine wp_region_Q _ rfl (by kernel_rfl) (by kernel_rfl) ?_
            iterate 4
              (refine wpQuiet_step (fun K hK => ?_)
               go_simp
               first
                 | (refine hK _ ?_; clear hK K)
                 | (apply Exists.intro
                    refine ⟨fun _ => ?_, hK _ ?_⟩
                    (with_reducible rfl)
                    clear hK K))
            iterate 3
              (refine wpQuiet_step (fun K hK => ?_)
               go_simp
               first
                 | (refine hK _ ?_; clear hK K)
                 | (apply Exists.intro
                    refine ⟨fun _ => ?_, hK _ ?_⟩
                    (with_reducible rfl)
                    clear hK K))
            iterate 2
              (refine wpQuiet_step (fun K hK => ?_)
               go_simp
               first
                 | (refine hK _ ?_; clear hK K)
                 | (apply Exists.intro
                    refine ⟨fun _ => ?_, hK _ ?_⟩
                    (with_reducible rfl)
                    clear hK K))
            refine wpQ_load (by rfl) 30 (.tmp 1) rfl (g) (0) rfl (a.cells) _ (fun w hw => by obtain ⟨p, rfl⟩ := hw; exact (HRg.out p)) Tryz.underlying30 rfl HSz.out ?_
            dsimp only [Act.put]
            simp only [List.setIfInBounds_toArray, List.set_cons_zero, List.set_cons_succ]
            refine wpQ_load (by rfl) 30 (.tmp 1) rfl (g) (0) rfl (a.cells) _ (fun w hw => by obtain ⟨p, rfl⟩ := hw; exact (HRg.out p)) Tryz.underlying30 rfl HSz.out ?_
            dsimp only [Act.put]
            simp only [List.setIfInBounds_toArray, List.set_cons_zero, List.set_cons_succ]
            iterate 1
              (refine wpQuiet_step (fun K hK => ?_)
               go_simp
               first
                 | (refine hK _ ?_; clear hK K)
                 | (apply Exists.intro
                    refine ⟨fun _ => ?_, hK _ ?_⟩
                    (first | with_reducible rfl | (refine calls_beh (v := .agg (bareF a).cells.toArray) (bare_any a _ (HA1.out.below (Beh.h _)))))
                    clear hK K))
            iterate 1
              (refine wpQuiet_step (fun K hK => ?_)
               go_simp
               first
                 | (refine hK _ ?_; clear hK K)
                 | (apply Exists.intro
                    refine ⟨fun _ => ?_, hK _ ?_⟩
                    (first | with_reducible rfl | (refine calls_beh (v := .bool true) ((rsact_any a (bareF a) _ (HA1.out.below (Beh.h _)) (bareF_ok (HA1.out.below (Beh.h _)))).mono ?_); rintro e w9 ⟨rfl, hb9⟩; exact ⟨by rw [HS.out], hb9⟩))
                    clear hK K))
            iterate 1
              (refine wpQuiet_step (fun K hK => ?_)
               go_simp
               first
                 | (refine hK _ ?_; clear hK K)
                 | (apply Exists.intro
                    refine ⟨fun _ => ?_, hK _ ?_⟩
                    (with_reducible rfl)
                    clear hK K))
            iterate 2
              (refine wpQuiet_step (fun K hK => ?_)
               go_simp
               first
                 | (refine hK _ ?_; clear hK K)
                 | (apply Exists.intro
                    refine ⟨fun _ => ?_, hK _ ?_⟩
                    (with_reducible rfl)
                    clear hK K))
            iterate 4
              (refine wpQuiet_step (fun K hK => ?_)
               go_simp
               first
                 | (refine hK _ ?_; clear hK K)
                 | (apply Exists.intro
                    refine ⟨fun _ => ?_, hK _ ?_⟩
                    (with_reducible rfl)
                    clear hK K))
            iterate 2
              (refine wpQuiet_step (fun K hK => ?_)
               go_simp
               first
                 | (refine hK _ ?_; clear hK K)
                 | (apply Exists.intro
                    refine ⟨fun _ => ?_, hK _ ?_⟩
                    (with_reducible rfl)
                    clear hK K))
            iterate 4
              (refine wpQuiet_step (fun K hK => ?_)
               go_simp
               first
                 | (refine hK _ ?_; clear hK K)
                 | (apply Exists.intro
                    refine ⟨fun _ => ?_, hK _ ?_⟩
                    (with_reducible rfl)
                    clear hK K))
            iterate 2
              (refine wpQuiet_step (fun K hK => ?_)
               go_simp
               first
                 | (refine hK _ ?_; clear hK K)
                 | (apply Exists.intro
                    refine ⟨fun _ => ?_, hK _ ?_⟩
                    (with_reducible rfl)
                    clear hK K))
            iterate 4
              (with_reducible refine wpQ_skip (by kernel_rfl) ?_
               dsimp only [Act.put]
               simp only [List.setIfInBounds_toArray, List.set_cons_zero, List.set_cons_succ])
            iterate 1
              (refine wpQuiet_step (fun K hK => ?_)
               go_simp
               first
                 | (refine hK _ ?_; clear hK K)
                 | (apply Exists.intro
                    refine ⟨fun _ => ?_, hK _ ?_⟩
                    (with_reducible rfl)
                    clear hK K))
            refine wpQuiet_nil ?_
            rintro w9 ⟨⟨w9, hb9⟩, rfl⟩
            have HB8 := Lib.hid (HW.out.trans (hb9.mono HZ1.out))
            clear hb9 HRg f0 f1 f2 f3
            go_wp2
            go_ret
            exact ⟨by rw [HF.out]; rfl, by rw [HG.out]; exact HB8.out⟩
        · have q3 : (((a.B.length : Nat) : Int) > 1048576) := by omega
          have HF := Lib.hid (bad_false HR.out (fun h => h3 h.2.2.1))
          clear h3
          refine wp_region_Q _ rfl (by kernel_rfl) (by kernel_rfl) ?_
          iterate 4
            (refine wpQuiet_step (fun K hK => ?_)
             go_simp
             first
               | (refine hK _ ?_; clear hK K)
               | (apply Exists.intro
                  refine ⟨fun _ => ?_, hK _ ?_⟩
                  (with_reducible rfl)
                  clear hK K))
          iterate 3
            (refine wpQuiet_step (fun K hK => ?_)
             go_simp
             first
               | (refine hK _ ?_; clear hK K)
               | (apply Exists.intro
                  refine ⟨fun _ => ?_, hK _ ?_⟩
                  (with_reducible rfl)
                  clear hK K))
          iterate 2
            (refine wpQuiet_step (fun K hK => ?_)
             go_simp
             first
               | (refine hK _ ?_; clear hK K)
               | (apply Exists.intro
                  refine ⟨fun _ => ?_, hK _ ?_⟩
                  (with_reducible rfl)
                  clear hK K))
          refine wpQ_load (by rfl) 30 (.tmp 1) rfl (g) (0) rfl (a.cells) _ (fun w hw => by obtain ⟨p, rfl⟩ := hw; exact (HRg.out p)) Tryz.underlying30 rfl HSz.out ?_
          dsimp only [Act.put]
          simp only [List.setIfInBounds_toArray, List.set_cons_zero, List.set_cons_succ]
          refine wpQ_load (by rfl) 30 (.tmp 1) rfl (g) (0) rfl (a.cells) _ (fun w hw => by obtain ⟨p, rfl⟩ := hw; exact (HRg.out p)) Tryz.underlying30 rfl HSz.out ?_
          dsimp only [Act.put]
          simp only [List.setIfInBounds_toArray, List.set_cons_zero, List.set_cons_succ]
          iterate 1
            (refine wpQuiet_step (fun K hK => ?_)
             go_simp
             first
               | (refine hK _ ?_; clear hK K)
               | (apply Exists.intro
                  refine ⟨fun _ => ?_, hK _ ?_⟩
                  (first | with_reducible rfl | (refine calls_beh (v := .agg (bareF a).cells.toArray) (bare_any a _ (HA1.out.below (Beh.h _)))))
                  clear hK K))
          iterate 1
            (refine wpQuiet_step (fun K hK => ?_)
             go_simp
             first
               | (refine hK _ ?_; clear hK K)
               | (apply Exists.intro
                  refine ⟨fun _ => ?_, hK _ ?_⟩
                  (first | with_reducible rfl | (refine calls_beh (v := .bool true) ((rsact_any a (bareF a) _ (HA1.out.below (Beh.h _)) (bareF_ok (HA1.out.below (Beh.h _)))).mono ?_); rintro e w9 ⟨rfl, hb9⟩; exact ⟨by rw [HS.out], hb9⟩))
                  clear hK K))
          iterate 1
            (refine wpQuiet_step (fun K hK => ?_)
             go_simp
             first
               | (refine hK _ ?_; clear hK K)
               | (apply Exists.intro
                  refine ⟨fun _ => ?_, hK _ ?_⟩
                  (with_reducible rfl)
                  clear hK K))
          iterate 2
            (refine wpQuiet_step (fun K hK => ?_)
             go_simp
             first
               | (refine hK _ ?_; clear hK K)
               | (apply Exists.intro
                  refine ⟨fun _ => ?_, hK _ ?_⟩
                  (with_reducible rfl)
                  clear hK K))
          iterate 4
            (refine wpQuiet_step (fun K hK => ?_)
             go_simp
             first
               | (refine hK _ ?_; clear hK K)
               | (apply Exists.intro
                  refine ⟨fun _ => ?_, hK _ ?_⟩
                  (with_reducible rfl)
                  clear hK K))
          iterate 2
            (refine wpQuiet_step (fun K hK => ?_)
             go_simp
             first
               | (refine hK _ ?_; clear hK K)
               | (apply Exists.intro
                  refine ⟨fun _ => ?_, hK _ ?_⟩
                  (with_reducible rfl)
                  clear hK K))
          iterate 4
            (with_reducible refine wpQ_skip (by kernel_rfl) ?_
             dsimp only [Act.put]
             simp only [List.setIfInBounds_toArray, List.set_cons_zero, List.set_cons_succ])
          iterate 2
            (refine wpQuiet_step (fun K hK => ?_)
             go_simp
             first
               | (refine hK _ ?_; clear hK K)
               | (apply Exists.intro
                  refine ⟨fun _ => ?_, hK _ ?_⟩
                  (with_reducible rfl)
                  clear hK K))
          iterate 4
            (with_reducible refine wpQ_skip (by kernel_rfl) ?_
             dsimp only [Act.put]
             simp only [List.setIfInBounds_toArray, List.set_cons_zero, List.set_cons_succ])
          iterate 1
            (refine wpQuiet_step (fun K hK => ?_)
             go_simp
             first
               | (refine hK _ ?_; clear hK K)
               | (apply Exists.intro
                  refine ⟨fun _ => ?_, hK _ ?_⟩
                  (with_reducible rfl)
                  clear hK K))
          refine wpQuiet_nil ?_
          rintro w9 ⟨⟨w9, hb9⟩, rfl⟩
          have HB8 := Lib.hid (HW.out.trans (hb9.mono HZ1.out))
          clear hb9 HRg f0 f1 f2 f3
          go_wp2
          go_ret
          exact ⟨by rw [HF.out]; rfl, by rw [HG.out]; exact HB8.out⟩
      · have HF := Lib.hid (bad_false HR.out (fun h => (by have := h.2.1; rw [HS.out] at this; cases this)))
        refine wp_region_Q _ rfl (by kernel_rfl) (by kernel_rfl) ?_
        iterate 4
          (refine wpQuiet_step (fun K hK => ?_)
           go_simp
           first
             | (refine hK _ ?_; clear hK K)
             | (apply Exists.intro
                refine ⟨fun _ => ?_, hK _ ?_⟩
                (with_reducible rfl)
                clear hK K))
        iterate 3
          (refine wpQuiet_step (fun K hK => ?_)
           go_simp
           first
             | (refine hK _ ?_; clear hK K)
             | (apply Exists.intro
                refine ⟨fun _ => ?_, hK _ ?_⟩
                (with_reducible rfl)
                clear hK K))
        iterate 2
          (refine wpQuiet_step (fun K hK => ?_)
           go_simp
           first
             | (refine hK _ ?_; clear hK K)
             | (apply Exists.intro
                refine ⟨fun _ => ?_, hK _ ?_⟩
                (with_reducible rfl)
                clear hK K))
        refine wpQ_load (by rfl) 30 (.tmp 1) rfl (g) (0) rfl (a.cells) _ (fun w hw => by obtain ⟨p, rfl⟩ := hw; exact (HRg.out p)) Tryz.underlying30 rfl HSz.out ?_
        dsimp only [Act.put]
        simp only [List.setIfInBounds_toArray, List.set_cons_zero, List.set_cons_succ]
        refine wpQ_load (by rfl) 30 (.tmp 1) rfl (g) (0) rfl (a.cells) _ (fun w hw => by obtain ⟨p, rfl⟩ := hw; exact (HRg.out p)) Tryz.underlying30 rfl HSz.out ?_
        dsimp only [Act.put]
        simp only [List.setIfInBounds_toArray, List.set_cons_zero, List.set_cons_succ]
        iterate 1
          (refine wpQuiet_step (fun K hK => ?_)
           go_simp
           first
             | (refine hK _ ?_; clear hK K)
             | (apply Exists.intro
                refine ⟨fun _ => ?_, hK _ ?_⟩
                (first | with_reducible rfl | (refine calls_beh (v := .agg (bareF a).cells.toArray) (bare_any a _ (HA1.out.below (Beh.h _)))))
                clear hK K))
        iterate 1
          (refine wpQuiet_step (fun K hK => ?_)
           go_simp
           first
             | (refine hK _ ?_; clear hK K)
             | (apply Exists.intro
                refine ⟨fun _ => ?_, hK _ ?_⟩
                (first | with_reducible rfl | (refine calls_beh (v := .bool false) ((rsact_any a (bareF a) _ (HA1.out.below (Beh.h _)) (bareF_ok (HA1.out.below (Beh.h _)))).mono ?_); rintro e w9 ⟨rfl, hb9⟩; exact ⟨by rw [HS.out], hb9⟩))
                clear hK K))
        iterate 1
          (refine wpQuiet_step (fun K hK => ?_)
           go_simp
           first
             | (refine hK _ ?_; clear hK K)
             | (apply Exists.intro
                refine ⟨fun _ => ?_, hK _ ?_⟩
                (with_reducible rfl)
                clear hK K))
        iterate 2
          (refine wpQuiet_step (fun K hK => ?_)
           go_simp
           first
             | (refine hK _ ?_; clear hK K)
             | (apply Exists.intro
                refine ⟨fun _ => ?_, hK _ ?_⟩
                (with_reducible rfl)
                clear hK K))
        iterate 4
          (with_reducible refine wpQ_skip (by kernel_rfl) ?_
           dsimp only [Act.put]
           simp only [List.setIfInBounds_toArray, List.set_cons_zero, List.set_cons_succ])
        iterate 2
          (refine wpQuiet_step (fun K hK => ?_)
           go_simp
           first
             | (refine hK _ ?_; clear hK K)
             | (apply Exists.intro
                refine ⟨fun _ => ?_, hK _ ?_⟩
                (with_reducible rfl)
                clear hK K))
        iterate 4
          (with_reducible refine wpQ_skip (by kernel_rfl) ?_
           dsimp only [Act.put]
           simp only [List.setIfInBounds_toArray, List.set_cons_zero, List.set_cons_succ])
        iterate 2
          (refine wpQuiet_step (fun K hK => ?_)
           go_simp
           first
             | (refine hK _ ?_; clear hK K)
             | (apply Exists.intro
                refine ⟨fun _ => ?_, hK _ ?_⟩
                (with_reducible rfl)
                clear hK K))
        iterate 4
          (with_reducible refine wpQ_skip (by kernel_rfl) ?_
           dsimp only [Act.put]
           simp only [List.setIfInBounds_toArray, List.set_cons_zero, List.set_cons_succ])
        iterate 1
          (refine wpQuiet_step (fun K hK => ?_)
           go_simp
           first
             | (refine hK _ ?_; clear hK K)
             | (apply Exists.intro
                refine ⟨fun _ => ?_, hK _ ?_⟩
                (with_reducible rfl)
                clear hK K))
        refine wpQuiet_nil ?_
        rintro w9 ⟨⟨w9, hb9⟩, rfl⟩
        have HB8 := Lib.hid (HW.out.trans (hb9.mono HZ1.out))
        clear hb9 HRg f0 f1 f2 f3
        go_wp2
        go_ret
        exact ⟨by rw [HF.out]; rfl, by rw [HG.out]; exact HB8.out⟩
    · have q1 : a.kind > 9 := by omega
      have HF := Lib.hid (bad_false HR.out (fun h => h1 h.1.2))
      clear h0 h1
      refine wp_region_Q _ rfl (by kernel_rfl) (by kernel_rfl) ?_
      iterate 4
        (refine wpQuiet_step (fun K hK => ?_)
         go_simp
         first
           | (refine hK _ ?_; clear hK K)
           | (apply Exists.intro
              refine ⟨fun _ => ?_, hK _ ?_⟩
              (with_reducible rfl)
              clear hK K))
      iterate 3
        (refine wpQuiet_step (fun K hK => ?_)
         go_simp
         first
           | (refine hK _ ?_; clear hK K)
           | (apply Exists.intro
              refine ⟨fun _ => ?_, hK _ ?_⟩
              (with_reducible rfl)
              clear hK K))
      iterate 2
        (refine wpQuiet_step (fun K hK => ?_)
         go_simp
         first
           | (refine hK _ ?_; clear hK K)
           | (apply Exists.intro
              refine ⟨fun _ => ?_, hK _ ?_⟩
              (with_reducible rfl)
              clear hK K))
      iterate 5
        (with_reducible refine wpQ_skip (by kernel_rfl) ?_
         dsimp only [Act.put]
         simp only [List.setIfInBounds_toArray, List.set_cons_zero, List.set_cons_succ])
      iterate 2
        (refine wpQuiet_step (fun K hK => ?_)
         go_simp
         first
           | (refine hK _ ?_; clear hK K)
           | (apply Exists.intro
              refine ⟨fun _ => ?_, hK _ ?_⟩
              (with_reducible rfl)
              clear hK K))
      iterate 4
        (with_reducible refine wpQ_skip (by kernel_rfl) ?_
         dsimp only [Act.put]
         simp only [List.setIfInBounds_toArray, List.set_cons_zero, List.set_cons_succ])
      iterate 2
        (refine wpQuiet_step (fun K hK => ?_)
         go_simp
         first
           | (refine hK _ ?_; clear hK K)
           | (apply Exists.intro
              refine ⟨fun _ => ?_, hK _ ?_⟩
              (with_reducible rfl)
              clear hK K))
      iterate 4
        (with_reducible refine wpQ_skip (by kernel_rfl) ?_
         dsimp only [Act.put]
         simp only [List.setIfInBounds_toArray, List.set_cons_zero, List.set_cons_succ])
      iterate 2
        (refine wpQuiet_step (fun K hK => ?_)
         go_simp
         first
           | (refine hK _ ?_; clear hK K)
           | (apply Exists.intro
              refine ⟨fun _ => ?_, hK _ ?_⟩
              (with_reducible rfl)
              clear hK K))
      iterate 4
        (with_reducible refine wpQ_skip (by kernel_rfl) ?_
         dsimp only [Act.put]
         simp only [List.setIfInBounds_toArray, List.set_cons_zero, List.set_cons_succ])
      iterate 1
        (refine wpQuiet_step (fun K hK => ?_)
         go_simp
         first
           | (refine hK _ ?_; clear hK K)
           | (apply Exists.intro
              refine ⟨fun _ => ?_, hK _ ?_⟩
              (with_reducible rfl)
              clear hK K))
      refine wpQuiet_nil ?_
      rintro w9 ⟨⟨w9, hb9⟩, rfl⟩
      have HB8 := Lib.hid (HW.out.trans (hb9.mono HZ1.out))
      clear hb9 HRg f0 f1 f2 f3
      go_wp2
      go_ret
      exact ⟨by rw [HF.out]; rfl, by rw [HG.out]; exact HB8.out⟩
  · have q0 : a.kind < 1 := by omega
    have HF := Lib.hid (bad_false HR.out (fun h => h0 h.1.1))
    clear h0
    refine wp_region_Q _ rfl (by kernel_rfl) (by kernel_rfl) ?_
    iterate 4
      (refine wpQuiet_step (fun K hK => ?_)
       go_simp
       first
         | (refine hK _ ?_; clear hK K)
         | (apply Exists.intro
            refine ⟨fun _ => ?_, hK _ ?_⟩
            (with_reducible rfl)
            clear hK K))
    iterate 3
      (with_reducible refine wpQ_skip (by kernel_rfl) ?_
       dsimp only [Act.put]
       simp only [List.setIfInBounds_toArray, List.set_cons_zero, List.set_cons_succ])
    iterate 2
      (refine wpQuiet_step (fun K hK => ?_)
       go_simp
       first
         | (refine hK _ ?_; clear hK K)
         | (apply Exists.intro
            refine ⟨fun _ => ?_, hK _ ?_⟩
            (with_reducible rfl)
            clear hK K))
    iterate 5
      (with_reducible refine wpQ_skip (by kernel_rfl) ?_
       dsimp only [Act.put]
       simp only [List.setIfInBounds_toArray, List.set_cons_zero, List.set_cons_succ])
    iterate 2
      (refine wpQuiet_step (fun K hK => ?_)
       go_simp
       first
         | (refine hK _ ?_; clear hK K)
         | (apply Exists.intro
            refine ⟨fun _ => ?_, hK _ ?_⟩
            (with_reducible rfl)
            clear hK K))
    iterate 4
      (with_reducible refine wpQ_skip (by kernel_rfl) ?_
       dsimp only [Act.put]
       simp only [List.setIfInBounds_toArray, List.set_cons_zero, List.set_cons_succ])
    iterate 2
      (refine wpQuiet_step (fun K hK => ?_)
       go_simp
       first
         | (refine hK _ ?_; clear hK K)
         | (apply Exists.intro
            refine ⟨fun _ => ?_, hK _ ?_⟩
            (with_reducible rfl)
            clear hK K))
    iterate 4
      (with_reducible refine wpQ_skip (by kernel_rfl) ?_
       dsimp only [Act.put]
       simp only [List.setIfInBounds_toArray, List.set_cons_zero, List.set_cons_succ])
    iterate 2
      (refine wpQuiet_step (fun K hK => ?_)
       go_simp
       first
         | (refine hK _ ?_; clear hK K)
         | (apply Exists.intro
            refine ⟨fun _ => ?_, hK _ ?_⟩
            (with_reducible rfl)
            clear hK K))
    iterate 4
      (with_reducible refine wpQ_skip (by kernel_rfl) ?_
       dsimp only [Act.put]
       simp only [List.setIfInBounds_toArray, List.set_cons_zero, List.set_cons_succ])
    iterate 1
      (refine wpQuiet_step (fun K hK => ?_)
       go_simp
       first
         | (refine hK _ ?_; clear hK K)
         | (apply Exists.intro
            refine ⟨fun _ => ?_, hK _ ?_⟩
            (with_reducible rfl)
            clear hK K))
    refine wpQuiet_nil ?_
    rintro w9 ⟨⟨w9, hb9⟩, rfl⟩
    have HB8 := Lib.hid (HW.out.trans (hb9.mono HZ1.out))
    clear hb9 HRg f0 f1 f2 f3
    go_wp2
    go_ret
    exact ⟨by rw [HF.out]; rfl, by rw [HG.out]; exact HB8.out⟩
end Go.Proofs.YtnohfondkcbdnaaGreatDoor
