/- tx.Check$3: no witness is too long, no outpoint stands twice. -/
import Derived.Test.YtnohfondkcbdnaaGreatDoorG06
import Derived.LoopN
import Derived.Test.YtnohfondkcbdnaaGreatDoorProg
import Derived.WalkKit
import Derived.Below
import Derived.KernelRfl
import Derived.RowKit3
import Derived.Outline
import Derived.Lib.Hide
import Derived.Deep.LoopGhost
import Derived.Deep.DeepCutAuto
import Derived.Deep.CutBlock
import Derived.OwnWalk
namespace Go.Proofs.YtnohfondkcbdnaaGreatDoor
open Go.RowKit Go.Lib
open Go.Maps (Keyed)
set_option linter.unusedVariables false
set_option linter.unusedSimpArgs false
attribute [local go_sem ↓] Go.wp_at_zero Go.wp_at_succ

/-- The first k inputs are good. -/
def GoodTo (I : List InM) (k : Nat) : Prop := ∀ j x, j < k → I[j]? = some x → x.W.length ≤ 256 ∧ ∀ i y, i < j → I[i]? = some y → ¬ y.like x
theorem GoodTo.zero (I : List InM) : GoodTo I 0 := fun j x h => absurd h (Nat.not_lt_zero j)
theorem GoodTo.mono {I : List InM} {k m : Nat} (h : GoodTo I k) (hm : m ≤ k) : GoodTo I m := fun j x hj => h j x (Nat.lt_of_lt_of_le hj hm)
theorem GoodTo.next {I : List InM} {k : Nat} {x : InM} (h : GoodTo I k) (hx : I[k]? = some x) (h1 : x.W.length ≤ 256) (h2 : ¬ ∃ i ∈ I.take k, i.like x) : GoodTo I (k + 1) := by
  intro j y hj hy
  rcases Nat.lt_or_ge j k with hl | hl
  · exact h j y hl hy
  · obtain rfl : j = k := by omega
    rw [hx] at hy
    obtain rfl := Option.some.inj hy
    refine ⟨h1, fun i z hi hz e => h2 ⟨z, ?_, e⟩⟩
    have := List.mem_of_getElem? (l := I.take j) (i := i) (a := z) (by rw [List.getElem?_take_of_lt hi]; exact hz)
    exact this
theorem GoodTo.seen {I : List InM} {k : Nat} {x : InM} (h : GoodTo I (k + 1)) (hx : I[k]? = some x) : ¬ ∃ i ∈ I.take k, i.like x := by
  rintro ⟨z, hz, e⟩
  obtain ⟨i, hi⟩ := List.getElem?_of_mem hz
  have hik : i < k := by
    have := (List.getElem?_eq_some_iff.1 hi).1
    rw [List.length_take] at this; omega
  rw [List.getElem?_take_of_lt hik] at hi
  exact (h k x (Nat.lt_succ_self k) hx).2 i z hik hi e
theorem zeroS (w : World) : (zeroValue 109).run Tryz.prog w = .ok (.agg #[.bool false]) w := by kernel_rfl
theorem seenS_build (w : World) : (Instr.build 109 #[(0, .bool true)]).run Tryz.prog w = .ok (.agg #[.bool true]) w := by kernel_rfl
theorem fieldS (b : Bool) (w : World) : (Instr.field 109 (.agg #[.bool b]) 0).run Tryz.prog w = .ok (.bool b) w := by kernel_rfl
theorem ownsMap_below {H : Type} {P : Program} {t : TypeId} {R : Value → Option (DataW H × List MemPlace)} {b n B : Nat} {D : DataW H} {w w' : World} (h : w.ownsMap P t R b n D) (hb : Below B w w') (hl : b < B) : w'.ownsMap P t R b n D := by
  obtain ⟨es, clock, hh, F, hs, hD⟩ := h
  exact ⟨es, clock, (hb.block b hl).trans hh, F, hs, hD⟩
set_option maxRecDepth 100000 in
set_option maxHeartbeats 3200000 in
open Classical in
theorem ck3_any (g : Nat) (s : TxM) (R : Bool) (w : World) (ha : Arr w g 53 s.cells) (hs : s.ok w) (hl : s.I.length ≤ 64) (hR : R = true ↔ GoodTo s.I s.I.length) :
    Calls Tryz.prog 82 #[.pointer (some ⟨g, 0, none⟩)] w fun e w' => e = .returned (.bool R) ∧ Below w.heap.size w w' := by
  obtain ⟨iv, ov, I, O, n⟩ := s
  obtain ⟨a1, c1, rfl⟩ : ∃ a c, iv = .slice a I.length c := hs.I.2.form
  have hc := ha.cell 0
  replace hc : w.cell? ⟨g, 0, none⟩ = some (.slice a1 I.length c1) := hc
  have HR := Lib.hid (show R = true ↔ GoodTo I I.length from hR)
  have HI := Lib.hid (show InsIs w (.slice a1 I.length c1) I from hs.I)
  have HL := Lib.hid (show I.length ≤ 64 from hl)
  have hmm := @run_makeMap Tryz.prog
  have hll : I.length ≤ 9223372036854775807 := by have := HL.out; omega
  have HA := Lib.hid ha
  clear ha hs hR hl
  go_enter Tryz.func82, Tryz.ntmps82
  go_upto_region 2 with fail
  obtain ⟨B, hB⟩ : ∃ B, w.heap.size = B := ⟨_, rfl⟩
  have ho := World.ownsMap_made (H := Unit) w Tryz.prog 73 seenElem
  have hb := (Below.refl w.heap.size w).alloc (Nat.le_refl _) (.map #[] 0)
  have hc1 : (w.alloc (.map #[] 0)).cell? ⟨g, 0, none⟩ = some (.slice a1 I.length c1) := cellb hb hc
  rw [hB] at ho hb ⊢
  have HO := Lib.hid ho
  have HB := Lib.hid hb
  have HBe := Lib.hid hB
  have HAl := Lib.hid (show g < B by rw [← hB]; exact HA.out.lt)
  clear ho hb hB hc HA hmm
  generalize World.alloc _ _ = w1 at *
  go_wp2
  clear hc1
  go_loopg [9] I.length (fun g v9 wq => ∃ (k : Nat) (D : DataW Unit), Hid (g + k = I.length) ∧ v9 = .int .i64 (k : Int) ∧ Hid (GoodTo I k) ∧ Hid (wq.ownsMap Tryz.prog 73 seenElem B k D) ∧ Hid (SeenD D (I.take k)) ∧ Hid (Below B w wq))
  case atStart => exact ⟨0, _, rfl, rfl, GoodTo.zero I, HO.out, seen_nil, HB.out⟩
  case round =>
    obtain ⟨k, D, hk, rfl, hgd, ho, hsn, hb⟩ := hrel
    have HK := Lib.hid hk.out
    have HG := Lib.hid hgd.out
    have HOq := Lib.hid ho.out
    have HSn := Lib.hid hsn.out
    have HBq := Lib.hid hb.out
    clear hk hgd ho hsn hb HO HB
    cases gk with
    | zero =>
      have hlt : ¬ ((k : Int) < ((I.length : Nat) : Int)) := by have := HK.out; omega
      have HF := Lib.hid (show R = true from HR.out.2 (HG.out.mono (by have := HK.out; omega)))
      go_wp2
      go_ret
      exact ⟨by rw [HF.out]; rfl, by rw [HBe.out]; exact HBq.out⟩
    | succ g =>
      have hkl : k < I.length := by have := HK.out; omega
      have hlt : ((k : Int) < ((I.length : Nat) : Int)) := by omega
      obtain ⟨x, hx⟩ : ∃ x, I[k]? = some x := ⟨_, List.getElem?_eq_getElem hkl⟩
      have hIq := HI.out.below (w' := wr) (by rw [HBe.out]; exact HBq.out)
      obtain ⟨b1, off1, rfl, hl1, hr1⟩ := hIq.2.at hx
      have hox := hIq.1 x (List.mem_of_getElem? hx)
      obtain ⟨a2, c2, hwv⟩ : ∃ a c, x.wv = .slice a x.W.length c := hox.W.form
      obtain ⟨l, hkey⟩ := key_out x hox.id hox.k
      have HX := Lib.hid hx
      have HOX := Lib.hid hox
      have HR1 := Lib.hid hr1
      have HWv := Lib.hid hwv
      have HKey := Lib.hid hkey
      have HSz := Lib.hid (show (Tryz.prog.info? 75).map (·.size) = some x.cells.length by rw [InM.cells_len hox]; exact size_in)
      have HSo := Lib.hid (size_outv x hox.id)
      have HOne := Lib.hid (in_one hox)
      have HLen := Lib.hid (InM.cells_len hox)
      clear hIq hl1 hr1 hox hx hwv hkey
      go_upto_region 4 with fail
      go_step
      iterate 3 (first | go_values | go_skip | go_guarded | go_step | go_upon)
      refine wpList_load_mid (P := Tryz.prog) rfl 75 _ rfl b1 (off1 + k * 34) rfl _ _ HR1.out Tryz.underlying75 rfl HSz.out ?_
      iterate 3 (first | go_values | go_skip | go_guarded | go_step | go_upon)
      refine wpList_store_box (P := Tryz.prog) rfl 75 _ _ rfl wr _ x.cells rfl rfl (by rw [HLen.out]; rfl) HSz.out HOne.out ?_
      intro w2 ha2 hb2
      have HA2 := Lib.hid ha2.out
      have HO2 := Lib.hid (ownsMap_below HOq.out hb2.out HOq.out.lt)
      have HB2 := Lib.hid (HBq.out.trans (hb2.out.mono (by have := HBq.out.size; rw [HBe.out] at this; exact this)))
      clear ha2 hb2 HOq HBq HR1
      obtain ⟨g5, hg5⟩ : ∃ g5, wr.heap.size = g5 := ⟨_, rfl⟩
      rw [hg5] at HA2 ⊢
      clear hg5
      have hc5 := in_wit x HOX.out.id HA2.out.range
      rw [Nat.zero_add, HWv.out] at hc5
      have HZ := Lib.hid (show B ≤ w2.heap.size by have := HB2.out.size; rw [HBe.out] at this; exact this)
      go_upto_region 5 with fail
      by_cases hw : x.W.length ≤ 256
      · have hw2 : ¬ ((x.W.length : Nat) : Int) > 256 := by omega
        go_step
        iterate 21 (first | go_values | go_skip | go_guarded | go_step | go_upon)
        go_guarded
        refine wp_load_mid (P := Tryz.prog) 73 _ rfl g5 0 rfl _ _ (in_out x HA2.out.range) Tryz.underlying73 rfl HSo.out ?_
        iterate 1 (first | go_values | go_skip | go_guarded | go_step | go_upon)
        dsimp only [Act.put]
        simp only [List.setIfInBounds_toArray, List.set_cons_zero, List.set_cons_succ]
        obtain ⟨v, ps, hrun, hv⟩ := HO2.out.lookup outKeyed Tryz.underlying108 (zeroS w2) (seenElem_mk false) HKey.out
        rw [HSn.out.2 x l HOX.out.id HKey.out] at hv
        obtain rfl := seenElem_inv hv
        have hfd := fieldS
        have HW2 := Lib.hid hw
        clear hv hw hc5
        by_cases hq : ∃ i ∈ I.take k, i.like x
        · rw [decide_eq_true hq] at hrun
          have HF := Lib.hid (show R = false by
            cases h : R with
            | false => rfl
            | true => exact absurd hq (GoodTo.seen ((HR.out.1 h).mono (by have := HK.out; omega)) HX.out))
          clear hq
          go_wp2
          go_ret
          exact ⟨by rw [HF.out]; rfl, by rw [HBe.out]; exact HB2.out⟩
        · rw [decide_eq_false hq] at hrun
          have HQ := Lib.hid (HG.out.next HX.out HW2.out hq)
          have HM := Lib.hid (show k < maxLen by have := HK.out; have := HL.out; unfold maxLen; omega)
          have hbu := seenS_build
          clear hq
          go_upto_region 7 with fail
          clear hrun
          go_step
          iterate 6 (first | go_values | go_skip | go_guarded | go_step | go_upon)
          refine wpList_load_mid (P := Tryz.prog) rfl 73 _ rfl g5 0 rfl _ _ (in_out x HA2.out.range) Tryz.underlying73 rfl HSo.out ?_
          iterate 3 (first | go_values | go_skip | go_guarded | go_step | go_upon)
          refine wpList_mapUpdate_own _ rfl _ _ _ 108 rfl 73 109 outKeyed Tryz.underlying108 seenElem B k D rfl HO2.out HM.out _ _ _ rfl rfl HKey.out _ [] (seenElem_mk true) ?_
          intro w3 ho3 hg3
          have HO3 := Lib.hid ho3
          have HB3 := Lib.hid (HB2.out.grown hg3 HZ.out (fun j hj => by cases hj; exact Nat.le_refl _))
          have HS3 := Lib.hid (show SeenD (D.put l (.agg [.lit (.bool true)])) (I.take (k + 1)) by
            have h := seen_snoc HSn.out (fun i hi => (HI.out.1 i (List.mem_of_mem_take hi)).id) HOX.out.id HKey.out
            rw [List.take_add_one, HX.out]
            exact h)
          clear ho3 hg3 HO2 HB2 hbu
          go_wp2
          go_roundg g
          case measure => omega
          case rel => exact ⟨k + 1, _, by show _ = _; have := HK.out; omega, by go_num, HQ.out, HO3.out, HS3.out, HB3.out⟩
      · have hw2 : ((x.W.length : Nat) : Int) > 256 := by omega
        have HF := Lib.hid (show R = false by
          cases h : R with
          | false => rfl
          | true => exact absurd ((HR.out.1 h) k x (by have := HK.out; omega) HX.out).1 hw)
        clear hw
        go_wp2
        go_ret
        exact ⟨by rw [HF.out]; rfl, by rw [HBe.out]; exact HB2.out⟩
end Go.Proofs.YtnohfondkcbdnaaGreatDoor
/- tx.Check's three questions, asked in a row. -/
namespace Go.Proofs.YtnohfondkcbdnaaGreatDoor
open Go.RowKit Go.Lib
set_option linter.unusedVariables false
set_option linter.unusedSimpArgs false
attribute [local go_sem ↓] Go.wp_at_zero Go.wp_at_succ

/-- A closure over block g. -/
def clo (f g : Nat) : Value := .func (.func f) #[] #[.pointer (some ⟨g, 0, none⟩)]
set_option maxRecDepth 100000 in
theorem nf1 (g : Nat) (R : Bool) (w : World) (h : Calls Tryz.prog 80 #[.pointer (some ⟨g, 0, none⟩)] w fun e w' => e = .returned (.bool R) ∧ Below w.heap.size w w') :
    Calls Tryz.prog 84 #[clo 80 g] w fun e w' => e = .returned (.bool (!R)) ∧ Below w.heap.size w w' := by
  have H := Lib.hid h
  clear h
  unfold clo
  cases R with
  | true =>
    go_enter Tryz.func84, Tryz.ntmps84
    go_wp2_with fail
    with_reducible refine H.out.mono ?_
    rintro e w2 ⟨rfl, hb2⟩
    dsimp only
    have HB := Lib.hid hb2
    clear hb2
    go_wp2
    go_ret
    exact ⟨rfl, HB.out⟩
  | false =>
    go_enter Tryz.func84, Tryz.ntmps84
    go_wp2_with fail
    with_reducible refine H.out.mono ?_
    rintro e w2 ⟨rfl, hb2⟩
    dsimp only
    have HB := Lib.hid hb2
    clear hb2
    go_wp2
    go_ret
    exact ⟨rfl, HB.out⟩
set_option maxRecDepth 100000 in
theorem nf2 (g : Nat) (R : Bool) (w : World) (h : Calls Tryz.prog 81 #[.pointer (some ⟨g, 0, none⟩)] w fun e w' => e = .returned (.bool R) ∧ Below w.heap.size w w') :
    Calls Tryz.prog 84 #[clo 81 g] w fun e w' => e = .returned (.bool (!R)) ∧ Below w.heap.size w w' := by
  have H := Lib.hid h
  clear h
  unfold clo
  cases R with
  | true =>
    go_enter Tryz.func84, Tryz.ntmps84
    go_wp2_with fail
    with_reducible refine H.out.mono ?_
    rintro e w2 ⟨rfl, hb2⟩
    dsimp only
    have HB := Lib.hid hb2
    clear hb2
    go_wp2
    go_ret
    exact ⟨rfl, HB.out⟩
  | false =>
    go_enter Tryz.func84, Tryz.ntmps84
    go_wp2_with fail
    with_reducible refine H.out.mono ?_
    rintro e w2 ⟨rfl, hb2⟩
    dsimp only
    have HB := Lib.hid hb2
    clear hb2
    go_wp2
    go_ret
    exact ⟨rfl, HB.out⟩
set_option maxRecDepth 100000 in
theorem nf3 (g : Nat) (R : Bool) (w : World) (h : Calls Tryz.prog 82 #[.pointer (some ⟨g, 0, none⟩)] w fun e w' => e = .returned (.bool R) ∧ Below w.heap.size w w') :
    Calls Tryz.prog 84 #[clo 82 g] w fun e w' => e = .returned (.bool (!R)) ∧ Below w.heap.size w w' := by
  have H := Lib.hid h
  clear h
  unfold clo
  cases R with
  | true =>
    go_enter Tryz.func84, Tryz.ntmps84
    go_wp2_with fail
    with_reducible refine H.out.mono ?_
    rintro e w2 ⟨rfl, hb2⟩
    dsimp only
    have HB := Lib.hid hb2
    clear hb2
    go_wp2
    go_ret
    exact ⟨rfl, HB.out⟩
  | false =>
    go_enter Tryz.func84, Tryz.ntmps84
    go_wp2_with fail
    with_reducible refine H.out.mono ?_
    rintro e w2 ⟨rfl, hb2⟩
    dsimp only
    have HB := Lib.hid hb2
    clear hb2
    go_wp2
    go_ret
    exact ⟨rfl, HB.out⟩
/-- What IndexFunc answers: -1 just if R. -/
def IxPost (R : Bool) (w : World) (e : Ending) (w' : World) : Prop := (∃ z : Int, e = .returned (.int .i64 z) ∧ (if R = true then z = -1 else 0 ≤ z)) ∧ Below w.heap.size w w'
set_option maxRecDepth 100000 in
set_option maxHeartbeats 1600000 in
theorem asked_index (g b : Nat) (s : TxM) (R1 R2 R3 : Bool) (w : World) (ha : Arr w g 53 s.cells) (hs : s.ok w) (hb : Arr w b 32 [clo 80 g, clo 81 g, clo 82 g])
    (h1 : R1 = true ↔ (1 ≤ s.I.length ∧ s.I.length ≤ 64)) (h2 : R2 = true ↔ (1 ≤ s.O.length ∧ s.O.length ≤ 64)) (h3 : R3 = true ↔ GoodTo s.I s.I.length) :
    Calls Tryz.prog 96 #[.slice (some ⟨b, 0, none⟩) 3 3, .func (.func 84) #[] #[]] w (IxPost (R1 && R2 && R3) w) := by
  have HA := Lib.hid ha
  have HS := Lib.hid hs
  have HB := Lib.hid hb
  have H1 := Lib.hid h1
  have H2 := Lib.hid h2
  have H3 := Lib.hid h3
  clear ha hs hb h1 h2 h3
  have HAw := HA
  have HSw := HS
  have HFw := HB
  clear HA HS HB
  go_enter Tryz.func96, Tryz.ntmps96
  go_wp2
  refine wp_loop_rounds 4 ?_
  rw [rounds_succ]
  have hc := HFw.out.cell 0
  unfold clo at hc
  dsimp only [List.getElem?_cons_zero, List.getElem?_cons_succ] at hc
  cases R1 with
  | false =>
    have HN := Lib.hid (nf1 g false w (ck1_any g s false w HAw.out HSw.out H1.out))
    unfold clo at HN
    go_wp2_with fail
    with_reducible refine HN.out.mono ?_
    rintro e w1 ⟨rfl, hb⟩
    dsimp only
    have HAw1 := Lib.hid (HAw.out.below hb HAw.out.lt)
    have HSw1 := Lib.hid (HSw.out.below hb)
    have HFw1 := Lib.hid (HFw.out.below hb HFw.out.lt)
    have HBw1 := Lib.hid (hb)
    clear hb HN HAw HSw HFw 
    clear hc
    go_wp2
    go_ret
    exact ⟨⟨_, rfl, by simp⟩, HBw1.out⟩
  | true =>
    have HN := Lib.hid (nf1 g true w (ck1_any g s true w HAw.out HSw.out H1.out))
    unfold clo at HN
    go_wp2_with fail
    with_reducible refine HN.out.mono ?_
    rintro e w1 ⟨rfl, hb⟩
    dsimp only
    have HAw1 := Lib.hid (HAw.out.below hb HAw.out.lt)
    have HSw1 := Lib.hid (HSw.out.below hb)
    have HFw1 := Lib.hid (HFw.out.below hb HFw.out.lt)
    have HBw1 := Lib.hid (hb)
    clear hb HN HAw HSw HFw 
    clear hc
    go_wp2
    rw [rounds_succ]
    have hc := HFw1.out.cell 1
    unfold clo at hc
    dsimp only [List.getElem?_cons_zero, List.getElem?_cons_succ] at hc
    cases R2 with
    | false =>
      have HN := Lib.hid (nf2 g false w1 (ck2_any g s false w1 HAw1.out HSw1.out H2.out))
      unfold clo at HN
      go_wp2_with fail
      with_reducible refine HN.out.mono ?_
      rintro e w2 ⟨rfl, hb⟩
      dsimp only
      have HAw2 := Lib.hid (HAw1.out.below hb HAw1.out.lt)
      have HSw2 := Lib.hid (HSw1.out.below hb)
      have HFw2 := Lib.hid (HFw1.out.below hb HFw1.out.lt)
      have HBw2 := Lib.hid (HBw1.out.trans (hb.mono HBw1.out.size))
      clear hb HN HAw1 HSw1 HFw1 HBw1
      clear hc
      go_wp2
      go_ret
      exact ⟨⟨_, rfl, by simp⟩, HBw2.out⟩
    | true =>
      have HN := Lib.hid (nf2 g true w1 (ck2_any g s true w1 HAw1.out HSw1.out H2.out))
      unfold clo at HN
      go_wp2_with fail
      with_reducible refine HN.out.mono ?_
      rintro e w2 ⟨rfl, hb⟩
      dsimp only
      have HAw2 := Lib.hid (HAw1.out.below hb HAw1.out.lt)
      have HSw2 := Lib.hid (HSw1.out.below hb)
      have HFw2 := Lib.hid (HFw1.out.below hb HFw1.out.lt)
      have HBw2 := Lib.hid (HBw1.out.trans (hb.mono HBw1.out.size))
      clear hb HN HAw1 HSw1 HFw1 HBw1
      clear hc
      go_wp2
      rw [rounds_succ]
      have hc := HFw2.out.cell 2
      unfold clo at hc
      dsimp only [List.getElem?_cons_zero, List.getElem?_cons_succ] at hc
      cases R3 with
      | false =>
        have HN := Lib.hid (nf3 g false w2 (ck3_any g s false w2 HAw2.out HSw2.out ((by simpa using H1.out : 1 ≤ s.I.length ∧ s.I.length ≤ 64)).2 H3.out))
        unfold clo at HN
        go_wp2_with fail
        with_reducible refine HN.out.mono ?_
        rintro e w3 ⟨rfl, hb⟩
        dsimp only
        have HAw3 := Lib.hid (HAw2.out.below hb HAw2.out.lt)
        have HSw3 := Lib.hid (HSw2.out.below hb)
        have HFw3 := Lib.hid (HFw2.out.below hb HFw2.out.lt)
        have HBw3 := Lib.hid (HBw2.out.trans (hb.mono HBw2.out.size))
        clear hb HN HAw2 HSw2 HFw2 HBw2
        clear hc
        go_wp2
        go_ret
        exact ⟨⟨_, rfl, by simp⟩, HBw3.out⟩
      | true =>
        have HN := Lib.hid (nf3 g true w2 (ck3_any g s true w2 HAw2.out HSw2.out ((by simpa using H1.out : 1 ≤ s.I.length ∧ s.I.length ≤ 64)).2 H3.out))
        unfold clo at HN
        go_wp2_with fail
        with_reducible refine HN.out.mono ?_
        rintro e w3 ⟨rfl, hb⟩
        dsimp only
        have HAw3 := Lib.hid (HAw2.out.below hb HAw2.out.lt)
        have HSw3 := Lib.hid (HSw2.out.below hb)
        have HFw3 := Lib.hid (HFw2.out.below hb HFw2.out.lt)
        have HBw3 := Lib.hid (HBw2.out.trans (hb.mono HBw2.out.size))
        clear hb HN HAw2 HSw2 HFw2 HBw2
        clear hc
        go_wp2
        rw [rounds_succ]
        go_wp2
        go_ret
        exact ⟨⟨_, rfl, by simp⟩, HBw3.out⟩
set_option maxRecDepth 100000 in
theorem asked_any (g b : Nat) (s : TxM) (R1 R2 R3 : Bool) (w : World) (ha : Arr w g 53 s.cells) (hs : s.ok w) (hb : Arr w b 32 [clo 80 g, clo 81 g, clo 82 g])
    (h1 : R1 = true ↔ (1 ≤ s.I.length ∧ s.I.length ≤ 64)) (h2 : R2 = true ↔ (1 ≤ s.O.length ∧ s.O.length ≤ 64)) (h3 : R3 = true ↔ GoodTo s.I s.I.length) :
    Calls Tryz.prog 83 #[.slice (some ⟨b, 0, none⟩) 3 3, .func (.func 84) #[] #[]] w fun e w' => e = .returned (.bool (!(R1 && R2 && R3))) ∧ Below w.heap.size w w' := by
  have H := Lib.hid (asked_index g b s R1 R2 R3 w ha hs hb h1 h2 h3)
  clear ha hs hb h1 h2 h3
  obtain ⟨R, hR⟩ : ∃ R, R = (R1 && R2 && R3) := ⟨_, rfl⟩
  rw [← hR] at H ⊢
  clear hR
  go_enter Tryz.func83, Tryz.ntmps83
  go_wp2_with fail
  refine H.out.mono ?_
  rintro e w1 ⟨⟨z, rfl, hz⟩, hb⟩
  dsimp only
  have HB := Lib.hid hb
  clear hb H
  cases R with
  | true =>
    rw [if_pos rfl] at hz
    subst hz
    go_wp2
    go_ret
    exact ⟨rfl, HB.out⟩
  | false =>
    rw [if_neg (by simp)] at hz
    have hz2 : z ≥ 0 := hz
    clear hz
    go_wp2
    go_ret
    exact ⟨rfl, HB.out⟩
end Go.Proofs.YtnohfondkcbdnaaGreatDoor
namespace Go.Proofs.YtnohfondkcbdnaaGreatDoor
open Go.RowKit
set_option linter.unusedVariables false
set_option linter.unusedSimpArgs false

theorem may_any (a : Int) (w : World) : Calls Tryz.prog 97 #[.int .u64 a] w fun e w' => e = .returned (.bool (decide (a ≤ 1125899906842624))) ∧ w = w' := by
  go_enter Tryz.func97, Tryz.ntmps97
  go_wp2
  go_ret
  exact ⟨rfl, rfl⟩

theorem may_yes (a : Int) (w : World) (h : a ≤ 1125899906842624) : Calls Tryz.prog 97 #[.int .u64 a] w fun e w' => e = .returned (.bool true) ∧ w = w' :=
  (may_any a w).mono fun _ _ ⟨h1, h2⟩ => ⟨by rw [h1, decide_eq_true h], h2⟩
theorem may_no (a : Int) (w : World) (h : 1125899906842624 < a) : Calls Tryz.prog 97 #[.int .u64 a] w fun e w' => e = .returned (.bool false) ∧ w = w' :=
  (may_any a w).mono fun _ _ ⟨h1, h2⟩ => ⟨by rw [h1, decide_eq_false (by omega)], h2⟩

theorem lawnum_any (a : Int) (w : World) : Calls Tryz.prog 12 #[.int .i64 a] w fun e w' => e = .returned (.int .i64 a) ∧ w = w' := by
  go_enter Tryz.func12, Tryz.ntmps12
  go_wp2
  go_ret
  exact ⟨rfl, rfl⟩

def cap50 : Int := 1125899906842624
def sumGo : List Int → Int → Int × Int
  | [], n => (n, 0)
  | a :: r, n => if 1125899906842624 < a then (0, 5) else if 1125899906842624 < n + a then (0, 5) else sumGo r (n + a)

theorem wrap_u64 (n : Int) (h0 : 0 ≤ n) (h : n < 18446744073709551616) : IntKind.u64.wrap n = n := by
  exact IntWalk.u64_in n (by omega)

theorem sumGo_nil (n : Int) : sumGo [] n = (n, 0) := rfl
theorem sumGo_cons (a : Int) (r : List Int) (n : Int) : sumGo (a :: r) n = if 1125899906842624 < a then (0, 5) else if 1125899906842624 < n + a then (0, 5) else sumGo r (n + a) := rfl
theorem drop_at (xs : List Int) (k : Nat) (h : k < xs.length) : xs.drop k = xs.getD k 0 :: xs.drop (k + 1) := by
  rw [List.drop_eq_getElem_cons h]; simp [List.getD, h]

def Res (xs : List Int) (n : Int) (m : Int) : Prop := if 1125899906842624 < m then sumGo xs n = (0, 5) else sumGo xs n = (m, 0)


theorem res_add (xs : List Int) (n a : Int) (r : List Int) (h : sumGo xs 0 = sumGo (a :: r) n) (ha : ¬ 1125899906842624 < a) (hn : ¬ 1125899906842624 < n + a) : sumGo xs 0 = sumGo r (n + a) := by
  rw [h, sumGo_cons, if_neg ha, if_neg hn]

theorem sum_any (A : Option Addr) (c : Nat) (xs : List Int) (w : World) (hl : xs.length ≤ 9223372036854775807) (hp : ∀ x ∈ xs, 0 ≤ x ∧ x ≤ 18446744073709551615)
    (hc : 0 < xs.length → ∃ ad, A = some ad ∧ ∀ j, j < xs.length → w.cell? (ad.add j) = some (.int .u64 (xs.getD j 0))) :
    Calls Tryz.prog 85 #[.slice A xs.length c] w fun e w' => e = .returned (.tuple #[.int .u64 (sumGo xs 0).1, .int .i64 (sumGo xs 0).2]) ∧ w = w' := by
  go_enter Tryz.func85, Tryz.ntmps85
  go_wp2
  go_step3
  go_wp2
  go_step3
  go_upto_block 0 with (fail)
  go_cut [4] (fun m wx => ∃ n : Int, m = .int .u64 n ∧ 0 ≤ n ∧ Hid (Res xs 0 n) ∧ w = wx)
  case first =>
    go_wp2
    go_loopg [9, 4] xs.length (fun g i m wr => ∃ (k : Nat) (n : Int), g + k = xs.length ∧ i = .int .i64 k ∧ m = .int .u64 n ∧ 0 ≤ n ∧ n ≤ 1125899906842624 ∧ Hid (sumGo xs 0 = sumGo (xs.drop k) n) ∧ w = wr)
    case atStart => exact ⟨0, 0, by omega, rfl, rfl, by omega, by omega, rfl, rfl⟩
    case round => 
      obtain ⟨k, n, hk, rfl, rfl, h0, h1, hs, rfl⟩ := hrel
      by_cases hlt : k < xs.length
      · obtain ⟨ad, rfl, hcc⟩ := hc (by omega)
        have hcell := hcc k hlt
        have hx0 : 0 ≤ xs.getD k 0 ∧ xs.getD k 0 ≤ 18446744073709551615 := by
          have := hp (xs[k]) (List.getElem_mem ..); simpa [List.getD, hlt] using this
        have HD := Lib.hid (drop_at xs k hlt)
        generalize xs.getD k 0 = a at *
        obtain ⟨ha0, ha1⟩ := hx0
        clear hc hcc hp
        by_cases ha : 1125899906842624 < a
        · go_wp2_with (go_at_call 97; (first | refine (may_yes _ _ (by omega)).mono ?_ | refine (may_no _ _ (by omega)).mono ?_); rintro e w' ⟨rfl, rfl⟩)
          go_meet
          case rel => exact ⟨_, rfl, by omega, by
            show Res xs 0 _
            unfold Res; rw [if_pos (by omega), hs.out, HD.out, sumGo_cons, if_pos (by omega)], rfl⟩
        · by_cases hb : 1125899906842624 < n + a
          · go_wp2_with (go_at_call 97; (first | refine (may_yes _ _ (by omega)).mono ?_ | refine (may_no _ _ (by omega)).mono ?_); rintro e w' ⟨rfl, rfl⟩)
            go_meet
            case rel => exact ⟨_, rfl, by omega, by
              show Res xs 0 _
              unfold Res; rw [if_pos (by omega), hs.out, HD.out, sumGo_cons, if_neg (by omega), if_pos (by omega)], rfl⟩
          · go_wp2_with (go_at_call 97; (first | refine (may_yes _ _ (by omega)).mono ?_ | refine (may_no _ _ (by omega)).mono ?_); rintro e w' ⟨rfl, rfl⟩)
            go_roundg (gk - 1)
            case measure => omega
            case rel => exact ⟨k + 1, n + a, by omega, by go_num, rfl, by omega, by omega, by
              show _ = _
              rw [hs.out, HD.out, sumGo_cons, if_neg (by omega), if_neg (by omega)], rfl⟩
      · obtain rfl : k = xs.length := by omega
        go_wp2
        go_meet
        case rel => exact ⟨_, rfl, by omega, by
          show Res xs 0 _
          unfold Res; rw [if_neg (by omega), hs.out]; simp [sumGo_nil], rfl⟩
  case rest =>
    obtain ⟨n, rfl, h0, hr, rfl⟩ := hcut
    have hr : Hid (Res xs 0 n) := hr
    by_cases hn : 1125899906842624 < n
    · go_wp2_with (go_at_call 97; (first | refine (may_yes _ _ (by omega)).mono ?_ | refine (may_no _ _ (by omega)).mono ?_); rintro e w' ⟨rfl, rfl⟩)
      try rw [Exit.noGoto_ret]
      go_ret2
      have := hr.out; unfold Res at this; rw [if_pos (by omega)] at this
      exact ⟨by simp [this], rfl⟩
    · go_wp2_with (go_at_call 97; (first | refine (may_yes _ _ (by omega)).mono ?_ | refine (may_no _ _ (by omega)).mono ?_); rintro e w' ⟨rfl, rfl⟩)
      try rw [Exit.noGoto_ret]
      go_ret2
      have := hr.out; unfold Res at this; rw [if_neg (by omega)] at this
      exact ⟨by simp [this], rfl⟩
theorem refsum_any (A : Option Addr) (c : Nat) (xs : List Int) (w : World) (hl : xs.length ≤ 9223372036854775807) (hp : ∀ x ∈ xs, 0 ≤ x ∧ x ≤ 18446744073709551615)
    (hc : 0 < xs.length → ∃ ad, A = some ad ∧ ∀ j, j < xs.length → w.cell? (ad.add j) = some (.int .u64 (xs.getD j 0))) :
    Calls Tryz.prog 86 #[.slice A xs.length c] w fun e w' => e = .returned (.tuple #[.int .u64 (sumGo xs 0).1, .int .i64 (sumGo xs 0).2]) ∧ w = w' := by
  go_enter Tryz.func86, Tryz.ntmps86
  go_wp2
  go_loopg [5, 4] xs.length (fun g i m wr => ∃ (k : Nat) (n : Int), g + k = xs.length ∧ i = .int .i64 k ∧ m = .int .u64 n ∧ 0 ≤ n ∧ n ≤ 1125899906842624 ∧ Hid (sumGo xs 0 = sumGo (xs.drop k) n) ∧ w = wr)
  case atStart => exact ⟨0, 0, by omega, rfl, rfl, by omega, by omega, rfl, rfl⟩
  case round =>
    obtain ⟨k, n, hk, rfl, rfl, h0, h1, hs, rfl⟩ := hrel
    by_cases hlt : k < xs.length
    · obtain ⟨ad, rfl, hcc⟩ := hc (by omega)
      have hcell := hcc k hlt
      have hx0 : 0 ≤ xs.getD k 0 ∧ xs.getD k 0 ≤ 18446744073709551615 := by
        have := hp (xs[k]) (List.getElem_mem ..); simpa [List.getD, hlt] using this
      have HD := Lib.hid (drop_at xs k hlt)
      generalize xs.getD k 0 = a at *
      obtain ⟨ha0, ha1⟩ := hx0
      clear hc hcc hp
      by_cases ha : 1125899906842624 < a
      · go_wp2
        go_ret2
        exact ⟨by have h := hs.out; rw [HD.out, sumGo_cons, if_pos (by omega)] at h; simp [h], rfl⟩
      · by_cases hb : 1125899906842624 < n + a
        · go_wp2
          go_ret2
          exact ⟨by have h := hs.out; rw [HD.out, sumGo_cons, if_neg (by omega), if_pos (by omega)] at h; simp [h], rfl⟩
        · go_wp2
          go_roundg (gk - 1)
          case measure => omega
          case rel => exact ⟨k + 1, n + a, by omega, by go_num, rfl, by omega, by omega, by
            show _ = _
            rw [hs.out, HD.out, sumGo_cons, if_neg (by omega), if_neg (by omega)], rfl⟩
    · obtain rfl : k = xs.length := by omega
      go_wp2
      go_ret2
      have := hs.out
      rw [List.drop_length, sumGo_nil] at this
      exact ⟨by simp [this], rfl⟩
end Go.Proofs.YtnohfondkcbdnaaGreatDoor
/- tx.Check and tx.May. -/
namespace Go.Proofs.YtnohfondkcbdnaaGreatDoor
open Go.RowKit Go.Lib
set_option linter.unusedVariables false
set_option linter.unusedSimpArgs false
attribute [local go_sem ↓] Go.wp_at_zero Go.wp_at_succ

def nums64 (xs : List Int) : List Value := xs.map (Value.int .u64)
theorem info_u64 : (Tryz.prog.info? 26).map (fun i => (i.zero, i.size, i.bytes)) = some (some (.int .u64 0), 1, 8) := by kernel_rfl
theorem own_rdu {w : World} {base n : Nat} {e : TypeId} {v : Value} {xs : List Int} (h : w.ownsRow base e 1 v n (nums64 xs)) (hp : ∀ x ∈ xs, 0 ≤ x ∧ x ≤ 18446744073709551615) :
    ∃ A c, v = .slice A xs.length c ∧ (0 < xs.length → ∃ ad, A = some ad ∧ ∀ j, j < xs.length → w.cell? (ad.add j) = some (.int .u64 (xs.getD j 0))) := by
  have hl : xs.length = n := by have := h.1; simpa [nums64] using this
  rcases h.2 with ⟨rfl, h0⟩ | ⟨g, cap, cur, rfl, hb, hg, hn, hc, hcur, htk⟩
  · exact ⟨none, 0, by rw [hl, h0], fun h => by omega⟩
  · refine ⟨some ⟨g, 0, none⟩, cap, by rw [hl], fun _ => ⟨_, rfl, fun j hj => ?_⟩⟩
    rw [show (⟨g, 0, none⟩ : Addr).add j = ⟨g, j, none⟩ by unfold Addr.add; split <;> simp_all]
    rw [cell_of_row w g j cur e (0, 0) hg]
    have e2 : cur.toList[j]? = (nums64 xs)[j]? := by rw [← htk, Nat.mul_one, List.getElem?_take_of_lt (by omega)]
    rw [Array.getElem?_toList] at e2
    rw [e2]
    simp [nums64, hj, List.getD]
/-- The outputs' amounts. -/
def amts (O : List OutM) : List Int := O.map fun o => (o.a : Int)
/-- A transaction has its form. -/
def TxForm (s : TxM) : Prop := (1 ≤ s.I.length ∧ s.I.length ≤ 64) ∧ (1 ≤ s.O.length ∧ s.O.length ≤ 64) ∧ GoodTo s.I s.I.length
open Classical in
/-- What Check answers. -/
noncomputable def checkF (s : TxM) : Int := if TxForm s then (if ∃ o ∈ s.O, o.a = 0 then 5 else (sumGo (amts s.O) 0).2) else 2
theorem amts_ok {O : List OutM} (h : ∀ o ∈ O, o.ok) : ∀ x ∈ amts O, 0 ≤ x ∧ x ≤ 18446744073709551615 := by
  intro x hx
  obtain ⟨o, ho, rfl⟩ := List.mem_map.1 hx
  have := (h o ho).a
  omega
theorem amts_snoc (O : List OutM) (k : Nat) (o : OutM) (h : O[k]? = some o) : nums64 (amts (O.take (k + 1))) = nums64 (amts (O.take k)) ++ [.int .u64 (o.a : Nat)] := by
  rw [List.take_add_one, h]; simp [amts, nums64]
theorem mkFun (fn : Fn) (first cap : Array Value) (w : World) : (Instr.makeFunc fn first cap).run Tryz.prog w = .ok (.func fn first cap) w := rfl
set_option maxRecDepth 100000 in
set_option maxHeartbeats 3200000 in
open Classical in
theorem check_any (s : TxM) (w : World) (hs : s.ok w) :
    Calls Tryz.prog 50 #[.agg s.cells.toArray] w fun e w' => e = .returned (.int .i64 (checkF s)) ∧ Below w.heap.size w w' := by
  obtain ⟨Z, hZ⟩ : ∃ Z, Z = checkF s := ⟨_, rfl⟩
  rw [← hZ]
  have HZ := Lib.hid hZ
  have HS := Lib.hid hs
  clear hZ hs
  have hmf := mkFun
  obtain ⟨R1, h1⟩ : ∃ R : Bool, R = true ↔ (1 ≤ s.I.length ∧ s.I.length ≤ 64) := ⟨decide _, decide_eq_true_iff⟩
  obtain ⟨R2, h2⟩ : ∃ R : Bool, R = true ↔ (1 ≤ s.O.length ∧ s.O.length ≤ 64) := ⟨decide _, decide_eq_true_iff⟩
  obtain ⟨R3, h3⟩ : ∃ R : Bool, R = true ↔ GoodTo s.I s.I.length := ⟨decide _, decide_eq_true_iff⟩
  obtain ⟨a3, c3, hov⟩ : ∃ a c, s.ov = .slice a s.O.length c := HS.out.O.2.form
  have HOv := Lib.hid hov
  have H1 := Lib.hid h1
  have H2 := Lib.hid h2
  have H3 := Lib.hid h3
  have hll : s.O.length ≤ 9223372036854775807 := HS.out.O.2.len
  clear hov h1 h2 h3
  go_enter Tryz.func50, Tryz.ntmps50
  go_upto_region 2 with fail
  have hpk := two w (.cells s.cells.toArray 53) (.cells #[clo 80 w.heap.size, clo 81 w.heap.size, clo 82 w.heap.size] 32)
  unfold clo at hpk
  have HA := Lib.hid (show Arr _ w.heap.size 53 s.cells from hpk.1)
  have HF := Lib.hid (show Arr _ (w.heap.size + 1) 32 [clo 80 w.heap.size, clo 81 w.heap.size, clo 82 w.heap.size] from hpk.2.1)
  have HB := Lib.hid hpk.2.2.2
  have HS1 := Lib.hid (HS.out.below hpk.2.2.2)
  clear hpk hmf
  generalize World.alloc (World.alloc _ _) _ = w1 at *
  obtain ⟨g, hg⟩ : ∃ g, w.heap.size = g := ⟨_, rfl⟩
  rw [hg] at HA HF HB ⊢
  have HG := Lib.hid hg
  have HC := Lib.hid (asked_any g (g + 1) s R1 R2 R3 w1 HA.out HS1.out HF.out H1.out H2.out H3.out)
  clear hg HF
  obtain ⟨R, hR⟩ : ∃ R, R = (R1 && R2 && R3) := ⟨_, rfl⟩
  rw [← hR] at HC
  have HR := Lib.hid (show R = true ↔ TxForm s by
    rw [hR, Bool.and_eq_true, Bool.and_eq_true, H1.out, H2.out, H3.out]
    unfold TxForm
    exact and_assoc)
  clear hR H1 H2 H3
  have HGl := Lib.hid HA.out.lt
  cases R with
  | false =>
    have HF := Lib.hid (show Z = 2 by
      rw [HZ.out]; unfold checkF
      rw [if_neg (fun h => by have := HR.out.2 h; cases this)])
    clear HZ HR
    go_wp2_with fail
    refine HC.out.mono ?_
    rintro e w2 ⟨rfl, hb⟩
    dsimp only
    have HB2 := Lib.hid (HB.out.trans (hb.mono (Nat.le_of_lt HGl.out)))
    clear HC HB hb HA HS1 HGl
    go_wp2
    go_ret
    exact ⟨by rw [HF.out]; rfl, by rw [HG.out]; exact HB2.out⟩
  | true =>
    have HZ2 := Lib.hid (show Z = if ∃ o ∈ s.O, o.a = 0 then 5 else (sumGo (amts s.O) 0).2 by
      rw [HZ.out]; unfold checkF
      rw [if_pos (HR.out.1 rfl)])
    have HO6 := Lib.hid (show s.O.length ≤ 64 from (HR.out.1 rfl).2.1.2)
    clear HZ HR
    go_wp2_with fail
    refine HC.out.mono ?_
    rintro e w2 ⟨rfl, hb⟩
    dsimp only
    have HB2 := Lib.hid (HB.out.trans (hb.mono (Nat.le_of_lt HGl.out)))
    have HA2 := Lib.hid (HA.out.below hb HA.out.lt)
    have HS2 := Lib.hid (HS1.out.below hb)
    have HG2 := Lib.hid (Nat.lt_of_lt_of_le HGl.out hb.size)
    clear HC HB hb HA HS1 HGl
    have hc1 := HA2.out.cell 1
    replace hc1 : w2.cell? ⟨g, 1, none⟩ = some s.ov := hc1
    rw [HOv.out] at hc1
    go_wp2
    clear hc1
    go_loopg [4, 18] s.O.length (fun gg v4 v18 wq => ∃ k : Nat, Hid (gg + k = s.O.length) ∧ v18 = .int .i64 (k : Int) ∧ Hid (∀ j o, j < k → s.O[j]? = some o → o.a ≠ 0) ∧ Hid (wq.ownsRow w2.heap.size 26 1 v4 (nums64 (amts (s.O.take k))).length (nums64 (amts (s.O.take k)))) ∧ Hid (Below w2.heap.size w2 wq))
    case atStart => exact ⟨0, rfl, rfl, fun j o hj => absurd hj (Nat.not_lt_zero j), own_nil _ _ _ _, Below.refl _ _⟩
    case round =>
      obtain ⟨k, hk, rfl, hj, ho, hb⟩ := hrel
      have HK := Lib.hid hk.out
      have HJ := Lib.hid hj.out
      have HO := Lib.hid ho.out
      have HBq := Lib.hid hb.out
      clear hk hj ho hb
      cases gk with
      | zero =>
        have hlt : ¬ ((k : Int) < ((s.O.length : Nat) : Int)) := by have := HK.out; omega
        have HNo := Lib.hid (show Z = (sumGo (amts s.O) 0).2 by
          rw [HZ2.out, if_neg]
          rintro ⟨o, ho, e⟩
          obtain ⟨j, hj⟩ := List.getElem?_of_mem ho
          exact HJ.out j o (by have := HK.out; have := (List.getElem?_eq_some_iff.1 hj).1; omega) hj e)
        have hall := HO.out
        rw [List.take_of_length_le (show s.O.length ≤ k by have := HK.out; omega)] at hall
        obtain ⟨A, c, rfl, hcc⟩ := own_rdu hall (amts_ok HS2.out.O.1)
        have HC := Lib.hid (sum_any A c (amts s.O) wr (by rw [amts, List.length_map]; exact hll) (amts_ok HS2.out.O.1) hcc)
        clear hall hcc HO HJ
        go_wp2_with fail
        refine HC.out.mono ?_
        rintro e w3 ⟨rfl, rfl⟩
        dsimp only
        go_wp2
        go_ret
        exact ⟨by rw [HNo.out]; rfl, by rw [HG.out]; exact HB2.out.trans (HBq.out.mono (Nat.le_of_lt HG2.out))⟩
      | succ gg =>
        have hkl : k < s.O.length := by have := HK.out; omega
        have hlt : ((k : Int) < ((s.O.length : Nat) : Int)) := by omega
        obtain ⟨x, hx⟩ : ∃ x, s.O[k]? = some x := ⟨_, List.getElem?_eq_getElem hkl⟩
        have hO := HS2.out.O.2.below HBq.out
        rw [HOv.out] at hO
        obtain ⟨b1, off1, rfl, hl1, hr1⟩ := hO.at hx
        have hox := HS2.out.O.1 x (List.mem_of_getElem? hx)
        have HX := Lib.hid hx
        have HOX := Lib.hid hox
        have HR1 := Lib.hid hr1
        have HSz := Lib.hid (size_outc x hox)
        have HOne := Lib.hid (out_one hox)
        have HLen := Lib.hid (OutM.cells_len hox)
        clear hO hl1 hr1 hox hx
        go_upto_region 7 with fail
        go_step
        iterate 3 (first | go_values | go_skip | go_guarded | go_step | go_upon)
        refine wpList_load_mid (P := Tryz.prog) rfl 88 _ rfl b1 (off1 + k * 33) rfl _ _ HR1.out Tryz.underlying88 rfl HSz.out ?_
        iterate 3 (first | go_values | go_skip | go_guarded | go_step | go_upon)
        refine wpList_store_box (P := Tryz.prog) rfl 88 _ _ rfl wr _ x.cells rfl rfl (by rw [HLen.out]; rfl) HSz.out HOne.out ?_
        intro w3 ha3 hb3
        have HA3 := Lib.hid ha3.out
        have HO3 := Lib.hid (own_below HO.out hb3.out)
        have HB3 := Lib.hid (HBq.out.trans (hb3.out.mono HBq.out.size))
        have HZ3 := Lib.hid (Nat.le_trans HBq.out.size hb3.out.size)
        clear ha3 hb3 HO HBq HR1
        obtain ⟨g6, hg6⟩ : ∃ g6, wr.heap.size = g6 := ⟨_, rfl⟩
        rw [hg6] at HA3 ⊢
        clear hg6
        have hc6 := HA3.out.cell 0
        replace hc6 : w3.cell? ⟨g6, 0, none⟩ = some (.int .u64 (x.a : Nat)) := hc6
        by_cases hz : x.a = 0
        · have hq : (((x.a : Nat) : Int) == 0) = true := by rw [hz]; rfl
          have HF := Lib.hid (show Z = 5 by rw [HZ2.out, if_pos ⟨x, List.mem_of_getElem? HX.out, hz⟩])
          clear hz
          go_wp2
          go_ret
          exact ⟨by rw [HF.out]; rfl, by rw [HG.out]; exact HB2.out.trans (HB3.out.mono (Nat.le_of_lt HG2.out))⟩
        · have hq : (((x.a : Nat) : Int) == 0) = false := beq_false_of_ne (by omega)
          have HNz := Lib.hid hz
          have HLa := Lib.hid (show (nums64 (amts (s.O.take k))).length ≤ 64 by rw [nums64, amts, List.length_map, List.length_map, List.length_take]; have := HO6.out; omega)
          clear hz
          go_upto_region 10 with fail
          go_step
          iterate 12 (first | go_values | go_skip | go_guarded | go_step | go_upon)
          refine app1 w2.heap.size rfl _ _ 113 26 (.int .u64 0) 8 rfl Tryz.underlying113 info_u64 rfl (by decide) u4 (nums64 (amts (s.O.take k))) (.int .u64 (x.a : Nat)) rfl rfl rfl HO3.out HZ3.out (by have := HLa.out; omega) ?_
          intro v4 w4 hown hbel hgr hsz
          rw [← amts_snoc s.O k x HX.out] at hown
          have HO4 := Lib.hid hown
          have HB4 := Lib.hid (hbel _ _ HB3.out (Nat.le_refl _))
          have HJ4 := Lib.hid (show ∀ j o, j < k + 1 → s.O[j]? = some o → o.a ≠ 0 by
            intro j o hj ho
            rcases Nat.lt_or_ge j k with h | h
            · exact HJ.out j o h ho
            · obtain rfl : j = k := by omega
              rw [HX.out] at ho
              obtain rfl := Option.some.inj ho
              exact HNz.out)
          clear hown hbel hgr hsz HO3 HB3
          go_wp2
          go_roundg gg
          case measure => omega
          case rel => exact ⟨k + 1, by show _ = _; have := HK.out; omega, by go_num, HJ4.out, HO4.out, HB4.out⟩
set_option maxRecDepth 100000 in
theorem txmay_any (s : TxM) (w : World) (hs : s.ok w) :
    Calls Tryz.prog 20 #[.agg s.cells.toArray] w fun e w' => e = .returned (.bool (decide (checkF s = 0))) ∧ Below w.heap.size w w' := by
  have HS := Lib.hid hs
  obtain ⟨Z, hZ⟩ : ∃ Z, checkF s = Z := ⟨_, rfl⟩
  rw [hZ]
  have HZ := Lib.hid hZ
  clear hs hZ
  go_enter Tryz.func20, Tryz.ntmps20
  go_upto_region 1 with fail
  have hm := Arr.made w 53 s.cells
  have hb := (Below.refl w.heap.size w).alloc (Nat.le_refl _) (.cells s.cells.toArray 53)
  have HA := Lib.hid hm
  have HB := Lib.hid hb
  have HS1 := Lib.hid (HS.out.below hb)
  have HSz := Lib.hid (show (Tryz.prog.info? 53).map (·.size) = some s.cells.length from size_tx)
  clear hm hb HS
  generalize World.alloc _ _ = w1 at *
  have HC := Lib.hid (check_any s w1 HS1.out)
  rw [HZ.out] at HC
  go_step
  refine wpList_load_mid (P := Tryz.prog) rfl 53 _ rfl w.heap.size 0 rfl _ _ HA.out.range Tryz.underlying53 rfl HSz.out ?_
  go_wp2_with fail
  refine HC.out.mono ?_
  rintro e w2 ⟨rfl, hb⟩
  dsimp only
  have HB2 := Lib.hid (HB.out.trans (hb.mono HB.out.size))
  clear HC hb HB HA HS1
  by_cases hz : Z = 0
  · have hq : (Z == 0) = true := by rw [hz]; rfl
    have HD := Lib.hid (decide_eq_true hz)
    clear hz
    go_wp2
    go_ret
    exact ⟨by rw [HD.out]; rfl, HB2.out⟩
  · have hq : (Z == 0) = false := beq_false_of_ne hz
    have HD := Lib.hid (decide_eq_false hz)
    clear hz
    go_wp2
    go_ret
    exact ⟨by rw [HD.out]; rfl, HB2.out⟩
end Go.Proofs.YtnohfondkcbdnaaGreatDoor
