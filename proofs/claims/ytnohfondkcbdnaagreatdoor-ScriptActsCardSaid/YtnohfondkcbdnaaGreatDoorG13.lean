/- plexusref05.Much, plexusref29.Big: some answer, whatever it is. -/
import Derived.Test.YtnohfondkcbdnaaGreatDoorG12
import Derived.BigQuiet
namespace Go.Proofs.YtnohfondkcbdnaaGreatDoor
open Go.RowKit Go.Lib
set_option linter.unusedVariables false
set_option linter.unusedSimpArgs false
attribute [local go_sem ↓] Go.wp_at_zero Go.wp_at_succ

def SomeB (w : World) (e : Ending) (w' : World) : Prop := ∃ b : Bool, e = .returned (.bool b) ∧ Below w.heap.size w w'
theorem tx_cells {w : World} {T : List TxM} {b off c k : Nat} {x : TxM} (h : TxsIs w (.slice (some ⟨b, off, none⟩) T.length c) T) (hx : T[k]? = some x) :
    w.cell? ⟨b, off + k * 3, none⟩ = some x.iv ∧ w.cell? ⟨b, off + k * 3 + 1, none⟩ = some x.ov := by
  obtain ⟨b', off', he, hl, hr⟩ := h.2.at hx
  cases he
  exact ⟨hr 0 _ rfl, hr 1 _ rfl⟩
theorem in_cell {w : World} {I : List InM} {b off c k : Nat} {i : InM} (h : InsIs w (.slice (some ⟨b, off, none⟩) I.length c) I) (hi : I[k]? = some i) :
    w.cell? ⟨b, off + k * 34 + 33, none⟩ = some i.wv := by
  obtain ⟨b', off', he, hl, hr⟩ := h.2.at hi
  cases he
  refine hr 33 _ ?_
  have hl := (h.1 i (List.mem_of_getElem? hi)).id.1
  show (bys i.id ++ ([_] ++ [i.wv]))[33]? = _
  rw [List.getElem?_append_right (by rw [bys_len, hl]; omega), bys_len, hl]; rfl
set_option maxRecDepth 100000 in
set_option maxHeartbeats 6400000 in
theorem much_any (v : Value) (T : List TxM) (w : World) (hT : TxsIs w v T) : Calls Tryz.prog 14 #[v, .int .i64 30] w (SomeB w) := by
  obtain ⟨a1, c1, rfl⟩ := hT.2.form
  have HT := Lib.hid hT
  have hll : T.length ≤ 9223372036854775807 := hT.2.len
  clear hT
  go_enter Tryz.func14, Tryz.ntmps14
  go_upto_region 3 with fail
  go_loopg [5, 6] T.length (fun q v5 v6 wq => ∃ (k : Nat) (c : Int), Hid (q + k = T.length) ∧ v5 = .int .i64 c ∧ v6 = .int .i64 (k : Int) ∧ Hid (Below w.heap.size w wq))
  case atStart => exact ⟨0, 0, rfl, rfl, rfl, Below.refl _ _⟩
  case round =>
    obtain ⟨k, c, hk, rfl, rfl, hb⟩ := hrel
    have HK := Lib.hid hk.out
    have HB := Lib.hid hb.out
    clear hk hb
    cases gk with
    | zero =>
      have hlt : ¬ ((k : Int) < ((T.length : Nat) : Int)) := by have := HK.out; omega
      go_wp2
      go_ret
      exact ⟨_, rfl, HB.out⟩
    | succ q =>
      have hkl : k < T.length := by have := HK.out; omega
      have hlt : ((k : Int) < ((T.length : Nat) : Int)) := by omega
      by_cases h30 : (k : Int) ≤ 30
      · obtain ⟨x, hx⟩ : ∃ x, T[k]? = some x := ⟨_, List.getElem?_eq_getElem hkl⟩
        have hTq := HT.out.below HB.out
        have HX := Lib.hid (hTq.1 x (List.mem_of_getElem? hx))
        obtain ⟨b1, off1, rfl, hl1, hr1⟩ := hTq.2.at hx
        obtain ⟨aI, cI, hI⟩ := HX.out.I.2.form
        obtain ⟨aO, cO, hO⟩ := HX.out.O.2.form
        obtain ⟨hc0, hc1⟩ := tx_cells hTq hx
        rw [hI] at hc0
        rw [hO] at hc1
        have HI := Lib.hid hI
        have HXx := Lib.hid hx
        clear hTq hl1 hr1 hI hO hx HX
        go_upto_region 5 with fail
        go_quiet (fail)
        have HB5 := Lib.hid (below_drewN HB.out nq)
        clear hc0 hc1 HB
        generalize World.drewN _ _ = w5 at *
        go_upto_region 7 with fail
        go_loopg [5, 7] x.I.length (fun q v5 v7 wq => ∃ (j : Nat) (c : Int), Hid (q + j = x.I.length) ∧ v5 = .int .i64 c ∧ v7 = .int .i64 (j : Int) ∧ Hid (Below w.heap.size w wq))
        case atStart => exact ⟨0, _, rfl, rfl, rfl, HB5.out⟩
        case round =>
          obtain ⟨j, c5, hj, rfl, rfl, hb⟩ := hrel
          have HJ := Lib.hid hj.out
          have HBq := Lib.hid hb.out
          clear hj hb HB5
          obtain ⟨hc0, hc1⟩ := tx_cells (HT.out.below HBq.out) HXx.out
          rw [HI.out] at hc0
          cases gk with
          | zero =>
            have hjl : ¬ ((j : Int) < ((x.I.length : Nat) : Int)) := by have := HJ.out; omega
            by_cases h6 : c5 > 600
            · go_wp2
              go_ret
              exact ⟨_, rfl, HBq.out⟩
            · go_wp2
              go_roundg q
              case measure => omega
              case rel => exact ⟨k + 1, c5, by show _ = _; have := HK.out; omega, rfl, by go_num, HBq.out⟩
          | succ r =>
            have hjn : j < x.I.length := by have := HJ.out; omega
            have hjl : ((j : Int) < ((x.I.length : Nat) : Int)) := by omega
            by_cases h3 : (j : Int) ≤ 300
            · obtain ⟨i, hi⟩ : ∃ i, x.I[j]? = some i := ⟨_, List.getElem?_eq_getElem hjn⟩
              have hIq := ((HT.out.below HBq.out).1 x (List.mem_of_getElem? HXx.out)).I
              rw [HI.out] at hIq
              obtain ⟨b2, off2, rfl, hl2, hr2⟩ := hIq.2.at hi
              have hc3 := in_cell hIq hi
              obtain ⟨aW, cW, hW⟩ := (hIq.1 i (List.mem_of_getElem? hi)).W.form
              rw [hW] at hc3
              clear hIq hl2 hr2 hi hW
              go_wp2
              go_roundg r
              case measure => omega
              case rel => exact ⟨j + 1, _, by show _ = _; have := HJ.out; omega, rfl, by go_num, HBq.out⟩
            · skip
              by_cases h6 : c5 > 600
              · go_wp2
                go_ret
                exact ⟨_, rfl, HBq.out⟩
              · go_wp2
                go_roundg q
                case measure => omega
                case rel => exact ⟨k + 1, c5, by show _ = _; have := HK.out; omega, rfl, by go_num, HBq.out⟩
      · go_wp2
        go_ret
        exact ⟨_, rfl, HB.out⟩
theorem some_b {w : World} {b : Bool} {w' : World} (h : Below w.heap.size w w') : SomeB w (.returned (.bool b)) w' := ⟨b, rfl, h⟩
set_option maxRecDepth 100000 in
set_option maxHeartbeats 3200000 in
theorem big_any (a : ActM) (w : World) (ha : a.ok w) : Calls Tryz.prog 4 #[.agg a.cells.toArray] w (SomeB w) := by
  obtain ⟨aB, cB, hbv⟩ := ha.B.form
  obtain ⟨aP, cP, hpv⟩ := ha.P.2.form
  obtain ⟨aT, cT, htv⟩ := ha.T.2.form
  have HV := Lib.hid (And.intro hbv (And.intro hpv htv))
  have HA0 := Lib.hid ha
  clear ha hbv hpv htv
  go_enter Tryz.func4, Tryz.ntmps4
  go_upto_region 1 with fail
  have hm := Arr.made w 30 a.cells
  have hb := (Below.refl w.heap.size w).alloc (Nat.le_refl _) (.cells a.cells.toArray 30)
  have HS := Lib.hid (show ActAt _ w.heap.size a from ⟨hm, HA0.out.lock⟩)
  have HB := Lib.hid hb
  clear hm hb
  generalize World.alloc _ _ = w1 at *
  obtain ⟨g, hg⟩ : ∃ g, w.heap.size = g := ⟨_, rfl⟩
  rw [hg] at HS HB ⊢
  have HG := Lib.hid hg
  have HA1 := Lib.hid (HA0.out.below (by rw [hg]; exact HB.out : Below w.heap.size w w1))
  have hZ : w.heap.size ≤ w1.heap.size := by rw [hg]; exact Nat.le_of_lt HS.out.lt
  have HZ := Lib.hid hZ
  clear hg hZ
  have hk1 := HS.out.bv
  have hk2 := HS.out.pv
  have hk3 := HS.out.tv
  rw [HV.out.1] at hk1
  rw [HV.out.2.1] at hk2
  rw [HV.out.2.2] at hk3
  have HC := Lib.hid (much_any (.slice aT a.T.length cT) a.T w1 (by rw [← HV.out.2.2]; exact HA1.out.T))
  by_cases h1 : (a.B.length : Int) > 20000
  · go_wp2
    go_ret
    exact some_b (by rw [HG.out]; exact HB.out)
  by_cases h2 : (a.P.length : Int) > 60
  · go_wp2
    go_ret
    exact some_b (by rw [HG.out]; exact HB.out)
  · go_wp2_with fail
    with_reducible refine HC.out.mono ?_
    rintro e w2 ⟨b, rfl, hb2⟩
    dsimp only
    have HB2 := Lib.hid (HB.out.trans (hb2.mono (by rw [← HG.out]; exact HZ.out)))
    clear hb2 HC
    go_wp2
    go_ret
    exact some_b (by rw [HG.out]; exact HB2.out)
end Go.Proofs.YtnohfondkcbdnaaGreatDoor
/- script.within; ContainsFunc over numbers and transactions with MayAct's closures. -/
namespace Go.Proofs.YtnohfondkcbdnaaGreatDoor
open Go.RowKit Go.Lib
set_option linter.unusedVariables false
set_option linter.unusedSimpArgs false
attribute [local go_sem ↓] Go.wp_at_zero Go.wp_at_succ

def inN (z : Int) : Bool := decide (0 ≤ z ∧ z ≤ 1000000)
set_option maxRecDepth 100000 in
theorem within_any (z : Int) (w : World) : Calls Tryz.prog 22 #[.int .i64 z] w fun e w' => e = .returned (.bool (inN z)) ∧ Below w.heap.size w w' := by
  obtain ⟨R, hR⟩ : ∃ R, R = inN z := ⟨_, rfl⟩
  rw [← hR]
  have HR := Lib.hid (show R = true ↔ (0 ≤ z ∧ z ≤ 1000000) by rw [hR]; exact decide_eq_true_iff)
  clear hR
  go_enter Tryz.func22, Tryz.ntmps22
  by_cases h1 : z ≥ 0
  · by_cases h2 : z ≤ 1000000
    · have HF := Lib.hid (show R = true from HR.out.2 ⟨h1, h2⟩)
      go_wp2
      go_ret
      exact ⟨by rw [HF.out]; rfl, Below.refl _ _⟩
    · have HF := Lib.hid (bad_false HR.out (fun h => h2 h.2))
      go_wp2
      go_ret
      exact ⟨by rw [HF.out]; rfl, Below.refl _ _⟩
  · have HF := Lib.hid (bad_false HR.out (fun h => h1 h.1))
    go_wp2
    go_ret
    exact ⟨by rw [HF.out]; rfl, Below.refl _ _⟩
set_option maxRecDepth 100000 in
theorem odd_any (z : Int) (w : World) : Calls Tryz.prog 21 #[.int .i64 z] w fun e w' => e = .returned (.bool (!inN z)) ∧ Below w.heap.size w w' := by
  have HC := Lib.hid (within_any z w)
  obtain ⟨R, hR⟩ : ∃ R, inN z = R := ⟨_, rfl⟩
  rw [hR] at HC ⊢
  clear hR
  cases R <;>
  · go_enter Tryz.func21, Tryz.ntmps21
    go_wp2_with fail
    with_reducible refine HC.out.mono ?_
    rintro e w2 ⟨rfl, hb2⟩
    dsimp only
    have HB := Lib.hid hb2
    clear hb2
    go_wp2
    go_ret
    exact ⟨rfl, HB.out⟩
/-- A transaction may be. -/
noncomputable def txOk (x : TxM) : Bool := decide (checkF x = 0)
set_option maxRecDepth 100000 in
theorem badtx_any (x : TxM) (w : World) (hx : x.ok w) : Calls Tryz.prog 19 #[.agg x.cells.toArray] w fun e w' => e = .returned (.bool (!txOk x)) ∧ Below w.heap.size w w' := by
  have HX := Lib.hid hx
  obtain ⟨R, hR⟩ : ∃ R, txOk x = R := ⟨_, rfl⟩
  rw [hR]
  have HR := Lib.hid hR
  clear hx hR
  go_enter Tryz.func19, Tryz.ntmps19
  go_upto_region 1 with fail
  have hm := Arr.made w 53 x.cells
  have hb := (Below.refl w.heap.size w).alloc (Nat.le_refl _) (.cells x.cells.toArray 53)
  have HA := Lib.hid hm
  have HB := Lib.hid hb
  have HS1 := Lib.hid (HX.out.below hb)
  have HSz := Lib.hid (show (Tryz.prog.info? 53).map (·.size) = some x.cells.length from size_tx)
  clear hm hb HX
  generalize World.alloc _ _ = w1 at *
  have HC := Lib.hid (txmay_any x w1 HS1.out)
  rw [show decide (checkF x = 0) = R from HR.out] at HC
  go_step
  refine wpList_load_mid (P := Tryz.prog) rfl 53 _ rfl w.heap.size 0 rfl _ _ HA.out.range Tryz.underlying53 rfl HSz.out ?_
  clear HR
  cases R <;>
  · go_wp2_with fail
    with_reducible refine HC.out.mono ?_
    rintro e w2 ⟨rfl, hb⟩
    dsimp only
    have HB2 := Lib.hid (HB.out.trans (hb.mono HB.out.size))
    clear hb
    go_wp2
    go_ret
    exact ⟨rfl, HB2.out⟩
set_option maxRecDepth 100000 in
set_option maxHeartbeats 1600000 in
theorem odd_index (P : List Int) (v : Value) (w : World) (hP : NumsIs w v P) (R : Bool) (hR : R = true ↔ ∀ z ∈ P, inN z = true) :
    Calls Tryz.prog 51 #[v, .func (.func 21) #[] #[]] w (IxPost R w) := by
  obtain ⟨a1, c1, rfl⟩ := hP.2.form
  have HP := Lib.hid hP
  have HR := Lib.hid hR
  have hll : P.length ≤ 9223372036854775807 := hP.2.len
  clear hP hR
  go_enter Tryz.func51, Tryz.ntmps51
  go_wp2
  go_loopg [8] P.length (fun g v8 wq => ∃ k : Nat, Hid (g + k = P.length) ∧ v8 = .int .i64 (k : Int) ∧ Hid (∀ j z, j < k → P[j]? = some z → inN z = true) ∧ Hid (Below w.heap.size w wq))
  case atStart => exact ⟨0, rfl, rfl, fun j z hj => absurd hj (Nat.not_lt_zero j), Below.refl _ _⟩
  case round =>
    obtain ⟨k, hk, rfl, hj, hb⟩ := hrel
    have HK := Lib.hid hk.out
    have HJ := Lib.hid hj.out
    have HBq := Lib.hid hb.out
    clear hk hj hb
    cases gk with
    | zero =>
      have hlt : ¬ ((k : Int) < ((P.length : Nat) : Int)) := by have := HK.out; omega
      have HF := Lib.hid (show R = true from HR.out.2 (fun z hz => by
        obtain ⟨j, hj⟩ := List.getElem?_of_mem hz
        exact HJ.out j z (by have := HK.out; have := (List.getElem?_eq_some_iff.1 hj).1; omega) hj))
      go_wp2
      go_ret
      exact ⟨⟨_, rfl, by rw [if_pos HF.out]⟩, HBq.out⟩
    | succ g =>
      have hkl : k < P.length := by have := HK.out; omega
      have hlt : ((k : Int) < ((P.length : Nat) : Int)) := by omega
      obtain ⟨x, hx⟩ : ∃ x, P[k]? = some x := ⟨_, List.getElem?_eq_getElem hkl⟩
      have hPq := HP.out.below HBq.out
      obtain ⟨b1, off1, rfl, hl1, hr1⟩ := hPq.2.at hx
      have hcx : wr.cell? ⟨b1, off1 + k, none⟩ = some (.int .i64 x) := by have := hr1 0 _ rfl; rwa [Nat.mul_one, Nat.add_zero] at this
      have HC := Lib.hid (odd_any x wr)
      have HX := Lib.hid hx
      clear hPq hl1 hr1 hx
      obtain ⟨G, hG⟩ : ∃ G, inN x = G := ⟨_, rfl⟩
      have HG := Lib.hid hG
      rw [hG] at HC
      clear hG
      cases G with
      | true =>
        go_wp2_with fail
        with_reducible refine HC.out.mono ?_
        rintro e w3 ⟨rfl, hb⟩
        dsimp only
        have HB3 := Lib.hid (HBq.out.trans (hb.mono HBq.out.size))
        have HJ3 := Lib.hid (show ∀ j z, j < k + 1 → P[j]? = some z → inN z = true by
          intro j z hj hz
          rcases Nat.lt_or_ge j k with h | h
          · exact HJ.out j z h hz
          · obtain rfl : j = k := by omega
            rw [HX.out] at hz
            obtain rfl := Option.some.inj hz
            exact HG.out)
        clear hb HC HBq HJ
        go_wp2
        go_roundg g
        case measure => omega
        case rel => exact ⟨k + 1, by show _ = _; have := HK.out; omega, by go_num, HJ3.out, HB3.out⟩
      | false =>
        go_wp2_with fail
        with_reducible refine HC.out.mono ?_
        rintro e w3 ⟨rfl, hb⟩
        dsimp only
        have HB3 := Lib.hid (HBq.out.trans (hb.mono HBq.out.size))
        have HF := Lib.hid (bad_false HR.out (fun h => by
          have := h x (List.mem_of_getElem? HX.out)
          rw [HG.out] at this; cases this))
        clear hb HC HBq HJ
        go_wp2
        go_ret
        exact ⟨⟨_, rfl, by rw [if_neg (by rw [HF.out]; exact Bool.false_ne_true)]; exact Int.natCast_nonneg k⟩, HB3.out⟩
set_option maxRecDepth 100000 in
theorem odd_has (P : List Int) (v : Value) (w : World) (hP : NumsIs w v P) (R : Bool) (hR : R = true ↔ ∀ z ∈ P, inN z = true) :
    Calls Tryz.prog 23 #[v, .func (.func 21) #[] #[]] w fun e w' => e = .returned (.bool (!R)) ∧ Below w.heap.size w w' := by
  have H := Lib.hid (odd_index P v w hP R hR)
  clear hP hR
  go_enter Tryz.func23, Tryz.ntmps23
  go_wp2_with fail
  refine H.out.mono ?_
  rintro e w1 ⟨⟨z, rfl, hz⟩, hb⟩
  dsimp only
  have HB := Lib.hid hb
  clear hb H
  cases R with
  | true =>
    rw [if_pos rfl] at hz
    subst hz
    go_wp2
    go_ret
    exact ⟨rfl, HB.out⟩
  | false =>
    rw [if_neg (by simp)] at hz
    have hz2 : z ≥ 0 := hz
    clear hz
    go_wp2
    go_ret
    exact ⟨rfl, HB.out⟩
set_option maxRecDepth 100000 in
set_option maxHeartbeats 1600000 in
theorem badtx_index (P : List TxM) (v : Value) (w : World) (hP : TxsIs w v P) (R : Bool) (hR : R = true ↔ ∀ z ∈ P, txOk z = true) :
    Calls Tryz.prog 52 #[v, .func (.func 19) #[] #[]] w (IxPost R w) := by
  obtain ⟨a1, c1, rfl⟩ := hP.2.form
  have HP := Lib.hid hP
  have HR := Lib.hid hR
  have hll : P.length ≤ 9223372036854775807 := hP.2.len
  clear hP hR
  go_enter Tryz.func52, Tryz.ntmps52
  go_wp2
  go_loopg [8] P.length (fun g v8 wq => ∃ k : Nat, Hid (g + k = P.length) ∧ v8 = .int .i64 (k : Int) ∧ Hid (∀ j z, j < k → P[j]? = some z → txOk z = true) ∧ Hid (Below w.heap.size w wq))
  case atStart => exact ⟨0, rfl, rfl, fun j z hj => absurd hj (Nat.not_lt_zero j), Below.refl _ _⟩
  case round =>
    obtain ⟨k, hk, rfl, hj, hb⟩ := hrel
    have HK := Lib.hid hk.out
    have HJ := Lib.hid hj.out
    have HBq := Lib.hid hb.out
    clear hk hj hb
    cases gk with
    | zero =>
      have hlt : ¬ ((k : Int) < ((P.length : Nat) : Int)) := by have := HK.out; omega
      have HF := Lib.hid (show R = true from HR.out.2 (fun z hz => by
        obtain ⟨j, hj⟩ := List.getElem?_of_mem hz
        exact HJ.out j z (by have := HK.out; have := (List.getElem?_eq_some_iff.1 hj).1; omega) hj))
      go_wp2
      go_ret
      exact ⟨⟨_, rfl, by rw [if_pos HF.out]⟩, HBq.out⟩
    | succ g =>
      have hkl : k < P.length := by have := HK.out; omega
      have hlt : ((k : Int) < ((P.length : Nat) : Int)) := by omega
      obtain ⟨x, hx⟩ : ∃ x, P[k]? = some x := ⟨_, List.getElem?_eq_getElem hkl⟩
      have hPq := HP.out.below HBq.out
      obtain ⟨b1, off1, rfl, hl1, hr1⟩ := hPq.2.at hx
      have HC := Lib.hid (badtx_any x wr (hPq.1 x (List.mem_of_getElem? hx)))
      have HRx := Lib.hid hr1
      have HX := Lib.hid hx
      clear hPq hl1 hr1 hx
      obtain ⟨G, hG⟩ : ∃ G, txOk x = G := ⟨_, rfl⟩
      have HG := Lib.hid hG
      rw [hG] at HC
      clear hG
      cases G with
      | true =>
        go_upto_region 4 with fail
        go_step
        iterate 12 (first | go_values | go_skip | go_guarded | go_step | go_upon)
        refine wpList_load_mid (P := Tryz.prog) rfl 53 _ rfl b1 (off1 + k * 3) rfl _ _ HRx.out Tryz.underlying53 rfl size_tx ?_
        go_wp2_with fail
        with_reducible refine HC.out.mono ?_
        rintro e w3 ⟨rfl, hb⟩
        dsimp only
        have HB3 := Lib.hid (HBq.out.trans (hb.mono HBq.out.size))
        have HJ3 := Lib.hid (show ∀ j z, j < k + 1 → P[j]? = some z → txOk z = true by
          intro j z hj hz
          rcases Nat.lt_or_ge j k with h | h
          · exact HJ.out j z h hz
          · obtain rfl : j = k := by omega
            rw [HX.out] at hz
            obtain rfl := Option.some.inj hz
            exact HG.out)
        clear hb HC HBq HJ
        go_wp2
        go_roundg g
        case measure => omega
        case rel => exact ⟨k + 1, by show _ = _; have := HK.out; omega, by go_num, HJ3.out, HB3.out⟩
      | false =>
        go_upto_region 4 with fail
        go_step
        iterate 12 (first | go_values | go_skip | go_guarded | go_step | go_upon)
        refine wpList_load_mid (P := Tryz.prog) rfl 53 _ rfl b1 (off1 + k * 3) rfl _ _ HRx.out Tryz.underlying53 rfl size_tx ?_
        go_wp2_with fail
        with_reducible refine HC.out.mono ?_
        rintro e w3 ⟨rfl, hb⟩
        dsimp only
        have HB3 := Lib.hid (HBq.out.trans (hb.mono HBq.out.size))
        have HF := Lib.hid (bad_false HR.out (fun h => by
          have := h x (List.mem_of_getElem? HX.out)
          rw [HG.out] at this; cases this))
        clear hb HC HBq HJ
        go_wp2
        go_ret
        exact ⟨⟨_, rfl, by rw [if_neg (by rw [HF.out]; exact Bool.false_ne_true)]; exact Int.natCast_nonneg k⟩, HB3.out⟩
set_option maxRecDepth 100000 in
theorem badtx_has (P : List TxM) (v : Value) (w : World) (hP : TxsIs w v P) (R : Bool) (hR : R = true ↔ ∀ z ∈ P, txOk z = true) :
    Calls Tryz.prog 24 #[v, .func (.func 19) #[] #[]] w fun e w' => e = .returned (.bool (!R)) ∧ Below w.heap.size w w' := by
  have H := Lib.hid (badtx_index P v w hP R hR)
  clear hP hR
  go_enter Tryz.func24, Tryz.ntmps24
  go_wp2_with fail
  refine H.out.mono ?_
  rintro e w1 ⟨⟨z, rfl, hz⟩, hb⟩
  dsimp only
  have HB := Lib.hid hb
  clear hb H
  cases R with
  | true =>
    rw [if_pos rfl] at hz
    subst hz
    go_wp2
    go_ret
    exact ⟨rfl, HB.out⟩
  | false =>
    rw [if_neg (by simp)] at hz
    have hz2 : z ≥ 0 := hz
    clear hz
    go_wp2
    go_ret
    exact ⟨rfl, HB.out⟩
end Go.Proofs.YtnohfondkcbdnaaGreatDoor
