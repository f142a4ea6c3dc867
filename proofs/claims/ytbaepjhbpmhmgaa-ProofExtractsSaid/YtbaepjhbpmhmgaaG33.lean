/- The law ProofExtracts walked whole. -/
import Derived.Test.YtbaepjhbpmhmgaaG32
import Derived.WalkKit
import Derived.ProofKit
import Derived.LaidMore
import Derived.OpenShut
import Derived.ShutString
import Derived.ChangeOld
import Derived.Below
import Derived.Deep.Slices
import Derived.WideShapes
namespace Go.Proofs.Ytbaepjhbpmhmgaa
open Go.RowKit Go.Lib
set_option linter.unusedVariables false
set_option linter.unusedSimpArgs false
attribute [local go_sem ↓] Go.wp_at_zero Go.wp_at_succ

set_option maxRecDepth 100000 in
set_option maxHeartbeats 3200000 in
theorem extracts_walk (pv v hv iv : Value) (p h : Hdr) (hp : p.ok) (hk : h.ok) (n c : Int) (Hs Is : List (List Nat)) (I : List Nat) (hI : IsH I) (w : World) (hv0 : HsIs w pv p.P) (hv1 : HsIs w v Hs) (hv2 : HsIs w hv h.P) (hv3 : HsIs w iv Is) :
    Calls Try.prog 3 #[.agg (pfC pv p n c v).toArray, .agg (bys I).toArray, .agg (hdC hv h).toArray, iv] w fun e w' => e = .returned (.bool true) ∧ Below w.heap.size w w' := by
  obtain ⟨a0, c0, rfl⟩ := hv0.form
  obtain ⟨a1, c1, rfl⟩ := hv1.form
  obtain ⟨a2, c2, rfl⟩ := hv2.form
  obtain ⟨a3, c3, rfl⟩ := hv3.form
  have HV := Lib.hid (And.intro hv0 (And.intro hv1 (And.intro hv2 hv3)))
  have HOp := Lib.hid hp
  have HOk := Lib.hid hk
  have HI := Lib.hid hI
  have HSi := Lib.hid (size_hash I HI.out.1)
  have HSh := Lib.hid (size_hdr (.slice a2 h.P.length c2) h hk)
  have HSf := Lib.hid (size_pf (.slice a0 p.P.length c0) p hp n c (.slice a1 Hs.length c1))
  clear hv0 hv1 hv2 hv3 hp hk hI
  go_enter Try.func3, Try.ntmps3
  go_upto_region 1 with fail
  have hpk := three_laid w (pfC (.slice a0 p.P.length c0) p n c (.slice a1 Hs.length c1)) (bys I) (hdC (.slice a2 h.P.length c2) h) 31 24 27 _ rfl
  have HS1 := Lib.hid (show ExS w.heap.size (w.heap.size + 1) (w.heap.size + 1 + 1) (.slice a0 p.P.length c0) (.slice a1 Hs.length c1) (.slice a2 h.P.length c2) (.slice a3 Is.length c3) p h n c Hs Is I _ from ⟨⟨hpk.1, HOp.out⟩, hpk.2.1.range, ⟨hpk.2.2.1, HOk.out⟩, HV.out.1.below hpk.2.2.2, HV.out.2.1.below hpk.2.2.2, HV.out.2.2.1.below hpk.2.2.2, HV.out.2.2.2.below hpk.2.2.2⟩)
  have HB1 := Lib.hid hpk.2.2.2
  clear hpk HV
  generalize World.alloc (World.alloc (World.alloc _ _) _) _ = w1 at *
  go_step
  refine wpList_load_mid (P := Try.prog) rfl 31 _ rfl w.heap.size 0 rfl _ _ HS1.out.1.1.range Try.underlying31 rfl HSf.out ?_
  have HCm := Lib.hid (much_any (.slice a0 p.P.length c0) (.slice a1 Hs.length c1) p HOp.out n c Hs w1 HS1.out.2.2.2.1 HS1.out.2.2.2.2.1)
  go_wp2_with fail
  with_reducible refine HCm.out.mono ?_
  rintro e w2 ⟨rfl, hb2⟩
  dsimp only
  have HS2 := Lib.hid (HS1.out.below HI.out hb2)
  have HB2 := Lib.hid (HB1.out.trans (hb2.mono HB1.out.size))
  clear hb2 HS1 HB1 HCm
  by_cases hm : 600 < p.P.length ∨ 100 < Hs.length
  · rw [decide_eq_true hm]
    clear hm
    go_wp2_with fail
    have HCk := Lib.hid (known_any w2)
    with_reducible refine HCk.out.mono ?_
    rintro e w9 ⟨rfl, hb9⟩
    dsimp only
    have HB9 := Lib.hid (HB2.out.trans (hb9.mono HB2.out.size))
    clear hb9 HB2 HCk
    go_wp2
    refine bodyPost_ret (results_tmp rfl _ _ _) rfl ?_
    exact ⟨rfl, HB9.out⟩
  · rw [decide_eq_false hm]
    clear hm
    have hc0 := HS2.out.2.2.1.p
    by_cases hh : 600 < h.P.length
    · have hq : ((h.P.length : Nat) : Int) > 600 := by omega
      clear hh
      go_wp2_with fail
      have HCk := Lib.hid (known_any w2)
      with_reducible refine HCk.out.mono ?_
      rintro e w9 ⟨rfl, hb9⟩
      dsimp only
      have HB9 := Lib.hid (HB2.out.trans (hb9.mono HB2.out.size))
      clear hb9 HB2 HCk
      go_wp2
      refine bodyPost_ret (results_tmp rfl _ _ _) rfl ?_
      exact ⟨rfl, HB9.out⟩
    · have hq : ¬ ((h.P.length : Nat) : Int) > 600 := by omega
      clear hh
      by_cases hi : 40 < Is.length
      · have hq2 : ((Is.length : Nat) : Int) > 40 := by omega
        clear hi
        go_wp2_with fail
        have HCk := Lib.hid (known_any w2)
        with_reducible refine HCk.out.mono ?_
        rintro e w9 ⟨rfl, hb9⟩
        dsimp only
        have HB9 := Lib.hid (HB2.out.trans (hb9.mono HB2.out.size))
        clear hb9 HB2 HCk
        go_wp2
        refine bodyPost_ret (results_tmp rfl _ _ _) rfl ?_
        exact ⟨rfl, HB9.out⟩
      · have hq2 : ¬ ((Is.length : Nat) : Int) > 40 := by omega
        have HIl := Lib.hid (show Is.length ≤ 40 by omega)
        clear hi
        go_upto_region 3 with fail
        clear hq hq2 hc0
        go_step
        refine wpList_load_mid (P := Try.prog) rfl 31 _ rfl w.heap.size 0 rfl _ _ HS2.out.1.1.range Try.underlying31 rfl HSf.out ?_
        refine wpList_load_mid (P := Try.prog) rfl 24 _ rfl (w.heap.size + 1) 0 rfl _ _ HS2.out.2.1 Try.underlying24 rfl HSi.out ?_
        refine wpList_load_mid (P := Try.prog) rfl 27 _ rfl (w.heap.size + 1 + 1) 0 rfl _ _ HS2.out.2.2.1.1.range Try.underlying27 rfl HSh.out ?_
        by_cases hok : extOk p h n c Hs Is I
        · have HOx := Lib.hid hok
          have HCe := Lib.hid (extract_yes (.slice a0 p.P.length c0) (.slice a1 Hs.length c1) (.slice a2 h.P.length c2) (.slice a3 Is.length c3) p h HOp.out HOk.out n c Hs Is I HI.out w2 HS2.out.2.2.2.1 HS2.out.2.2.2.2.1 HS2.out.2.2.2.2.2.1 HS2.out.2.2.2.2.2.2 (by have := HIl.out; omega) hok)
          clear hok
          go_wp2_with fail
          with_reducible refine HCe.out.mono ?_
          rintro e w3 ⟨va, vb, rfl, hcol, hb3⟩
          dsimp only
          have HS3 := Lib.hid (HS2.out.below HI.out hb3)
          have HB3 := Lib.hid (HB2.out.trans (hb3.mono HB2.out.size))
          have HCo := Lib.hid hcol
          clear hb3 hcol HS2 HB2 HCe
          have hcn := HS3.out.1.pn
          repeat (first | (exact law_t5y va vb w.heap.size (w.heap.size + 1) (w.heap.size + 1 + 1) a0 a1 a2 a3 c0 c1 c2 c3 p h n c Hs Is I HI.out HIl.out w w3 HS3.out HB3.out HOx.out HCo.out) | go_step | go_values | go_skip | go_guarded | go_upon)
        · have HOx := Lib.hid hok
          have HCe := Lib.hid (extract_no (.slice a0 p.P.length c0) (.slice a1 Hs.length c1) (.slice a2 h.P.length c2) (.slice a3 Is.length c3) p h HOp.out HOk.out n c Hs Is I HI.out w2 HS2.out.2.2.2.1 HS2.out.2.2.2.2.1 HS2.out.2.2.2.2.2.1 HS2.out.2.2.2.2.2.2 (by have := HIl.out; omega) hok)
          clear hok
          go_wp2_with fail
          with_reducible refine HCe.out.mono ?_
          rintro e w3 ⟨rfl, hb3⟩
          dsimp only
          have HS3 := Lib.hid (HS2.out.below HI.out hb3)
          have HB3 := Lib.hid (HB2.out.trans (hb3.mono HB2.out.size))
          clear hb3 HS2 HB2 HCe
          have hcn := HS3.out.1.pn
          repeat (first | (exact law_t5n w.heap.size (w.heap.size + 1) (w.heap.size + 1 + 1) a0 a1 a2 a3 c0 c1 c2 c3 p h n c Hs Is I HI.out HIl.out w w3 HS3.out HB3.out HOx.out) | go_step | go_values | go_skip | go_guarded | go_upon)
end Go.Proofs.Ytbaepjhbpmhmgaa
/- How hashes, headers and proofs read as arguments. -/
namespace Go.Proofs.Ytbaepjhbpmhmgaa
open Go.RowKit Go.Lib
open Go.ChangeShapes Go.WideShapes Go.ChangeAt Go.WideMaps Go.WideElems
set_option linter.unusedVariables false
set_option linter.unusedSimpArgs false

section
variable {H : Type} {enc : TypeId × Value → H} {w : World} {base : Nat} {sp : Nat → Bool} {held : Bool}
theorem cells_24 : Try.prog.cellsOf 24 = 32 := by kernel_rfl
theorem cells_22 : Try.prog.cellsOf 22 = 1 := by kernel_rfl
theorem cells_27 : Try.prog.cellsOf 27 = 130 := by kernel_rfl
theorem cells_29 : Try.prog.cellsOf 29 = 3 := by kernel_rfl
theorem cells_31 : Try.prog.cellsOf 31 = 133 := by kernel_rfl
theorem cells_25 : Try.prog.cellsOf 25 = 1 := by kernel_rfl
theorem cells_3 : Try.prog.cellsOf 3 = 1 := by kernel_rfl
theorem take_one {cs : List Value} {i : Nat} {v : Value} (h : (cs.drop i).take 1 = [v]) : cs[i]? = some v := by
  have h9 : ((cs.drop i).take 1)[0]? = some v := by rw [h]; rfl
  rw [List.getElem?_take_of_lt (by omega), List.getElem?_drop, Nat.add_zero] at h9
  exact h9
theorem bounds8 {n : Int} (h : (Lit.int .u8 n).wf = true) : 0 ≤ n ∧ n ≤ 255 := by
  unfold Lit.wf at h
  rw [Bool.and_eq_true, decide_eq_true_eq, decide_eq_true_eq] at h
  have e1 : IntKind.u8.min = 0 := by decide
  have e2 : IntKind.u8.max = 255 := by decide
  rw [e1, e2] at h
  exact h
theorem bounds64 {n : Int} (h : (Lit.int .u64 n).wf = true) : 0 ≤ n ∧ n ≤ 18446744073709551615 := by
  unfold Lit.wf at h
  rw [Bool.and_eq_true, decide_eq_true_eq, decide_eq_true_eq] at h
  have e1 : IntKind.u64.min = 0 := by decide
  have e2 : IntKind.u64.max = 18446744073709551615 := by decide
  rw [e1, e2] at h
  exact h
theorem hash_of {fuel : Nat} {cs : List Value} {x : DataW H × List MemPlace} (h : DataW.trod enc Try.prog w base sp held fuel 24 cs = some x) : ∃ L, IsH L ∧ cs = bys L := by
  obtain ⟨xs, m, _, _, hl, hlx, hf⟩ := DataW.trod_array Try.underlying24 h
  rw [cells_24] at hl
  have hc : ∀ i, i < 32 → ∃ n : Int, cs[i]? = some (.int .u8 n) ∧ 0 ≤ n ∧ n ≤ 255 := by
    intro i hi
    have h1 := hf i hi
    rw [cells_u8, Nat.mul_one, List.getElem?_eq_getElem (by omega)] at h1
    obtain ⟨n, e, _, hw⟩ := DataW.trod_int Try.underlying5 h1
    refine ⟨n, take_one e, ?_⟩
    exact bounds8 hw
  refine ⟨cs.map (fun v => match v with | .int _ n => n.toNat | _ => 0), ⟨by rw [List.length_map, hl], fun y hy => ?_⟩, ?_⟩
  · obtain ⟨v, hv, rfl⟩ := List.mem_map.1 hy
    obtain ⟨i, hi⟩ := List.mem_iff_getElem?.1 hv
    have hil := (List.getElem?_eq_some_iff.1 hi).1
    obtain ⟨n, e, h0, h1⟩ := hc i (by omega)
    rw [hi] at e
    cases e
    show n.toNat < 256
    omega
  · apply List.ext_getElem?
    intro i
    rcases Nat.lt_or_ge i 32 with hi | hi
    · obtain ⟨n, e, h0, h1⟩ := hc i hi
      unfold bys
      rw [List.getElem?_map, List.getElem?_map, e]
      show some _ = some (Value.int .u8 ((n.toNat : Nat) : Int))
      rw [Int.toNat_of_nonneg h0]
    · rw [List.getElem?_eq_none (by omega), List.getElem?_eq_none (by unfold bys; rw [List.length_map, List.length_map]; omega)]
theorem slice_of {fuel : Nat} {v : Value} {x : DataW H × List MemPlace} (h : DataW.trod enc Try.prog w base sp held fuel 22 [v] = some x) (hsp : ∀ a n k, v = .slice (some a) n k → a.spot = none) : ∃ Hs, HsIs w v Hs := by
  rcases Go.Deep.open_slice Try.underlying22 h with ⟨e, _⟩ | ⟨a, len, cap, m, n, D, Pl, e, hb, hl, hm, hmm, _, hx⟩
  · cases e
    exact ⟨[], hs_nil rfl⟩
  · cases e
    have h0 := hsp a len cap rfl
    obtain ⟨b, off, spot⟩ := a
    simp only at h0
    subst h0
    have hlm : len ≤ m := by rw [hmm]; split <;> omega
    obtain ⟨F, hF⟩ := Go.Deep.choose_lt (α := List Nat) (p := fun i L => IsH L ∧ w.rangeAt b (off + i * 32) (bys L)) (n := len) (fun i hi => by
      obtain ⟨cs', h1, h2⟩ := hx i (by omega)
      obtain ⟨L, hL, rfl⟩ := hash_of h2
      refine ⟨L, hL, fun j u hu => ?_⟩
      obtain ⟨_, hlen, hcell⟩ := World.cells?_some h1
      have hj := (List.getElem?_eq_some_iff.1 hu).1
      have := hcell j (by rw [← hlen]; exact hj)
      rw [hu, cells_24, add_nospot', add_nospot'] at this
      exact this)
    refine ⟨(List.range len).map F, fun L hL => ?_, .inr ⟨b, off, cap, by simp, by simpa using hl, hm, fun j hj => ?_⟩⟩
    · obtain ⟨i, hi, rfl⟩ := List.mem_map.1 hL
      exact (hF i (List.mem_range.1 hi)).1
    · rw [List.length_map, List.length_range] at hj
      have : ((List.range len).map F).getD j [] = F j := by simp [List.getD, hj]
      rw [this]
      exact (hF j hj).2
theorem first_one {cs : List Value} {v : Value} (h : cs[0]? = some v) : (cs.drop 0).take 1 = [v] := by
  cases cs with
  | nil => cases h
  | cons c r =>
    rw [List.getElem?_cons_zero] at h
    cases h
    rfl
theorem three_of {cs : List Value} (h : cs.length = 3) : ∃ x y z, cs = [x, y, z] := by
  match cs, h with
  | [x, y, z], _ => exact ⟨x, y, z, rfl⟩
theorem split_at (cs : List Value) (o n : Nat) : cs.drop o = (cs.drop o).take n ++ cs.drop (o + n) := by
  conv => lhs; rw [← List.take_append_drop n (cs.drop o)]
  rw [List.drop_drop]
set_option maxRecDepth 100000 in
theorem header_of {fuel : Nat} {cs : List Value} {x : DataW H × List MemPlace} (h : DataW.trod enc Try.prog w base sp held fuel 27 cs = some x) (hsp : ∀ (i : Nat) (a : Addr) (n k : Nat), cs[i]? = some (Value.slice (some a) n k) → a.spot = none) :
    ∃ pv hd, cs = hdC pv hd ∧ hd.ok ∧ HsIs w pv hd.P := by
  obtain ⟨xs, m, _, _, hl, hlx, hf⟩ := DataW.trod_struct Try.underlying27 h
  rw [cells_27] at hl
  have hlx : xs.length = 6 := hlx
  have g (i : Nat) (hi : i < 6) : ∃ y, xs[i]? = some y := ⟨_, List.getElem?_eq_getElem (by omega)⟩
  have f0 : DataW.trod enc Try.prog w base sp held m 22 ((cs.drop 0).take (Try.prog.cellsOf 22)) = xs[0]? := hf 0 _ rfl
  have f1 : DataW.trod enc Try.prog w base sp held m 24 ((cs.drop 1).take (Try.prog.cellsOf 24)) = xs[1]? := hf 1 _ rfl
  have f2 : DataW.trod enc Try.prog w base sp held m 24 ((cs.drop 33).take (Try.prog.cellsOf 24)) = xs[2]? := hf 2 _ rfl
  have f3 : DataW.trod enc Try.prog w base sp held m 24 ((cs.drop 65).take (Try.prog.cellsOf 24)) = xs[3]? := hf 3 _ rfl
  have f4 : DataW.trod enc Try.prog w base sp held m 24 ((cs.drop 97).take (Try.prog.cellsOf 24)) = xs[4]? := hf 4 _ rfl
  have f5 : DataW.trod enc Try.prog w base sp held m 25 ((cs.drop 129).take (Try.prog.cellsOf 25)) = xs[5]? := hf 5 _ rfl
  obtain ⟨y0, e0⟩ := g 0 (by omega)
  obtain ⟨y1, e1⟩ := g 1 (by omega)
  obtain ⟨y2, e2⟩ := g 2 (by omega)
  obtain ⟨y3, e3⟩ := g 3 (by omega)
  obtain ⟨y4, e4⟩ := g 4 (by omega)
  obtain ⟨y5, e5⟩ := g 5 (by omega)
  rw [e0] at f0
  rw [e1] at f1
  rw [e2] at f2
  rw [e3] at f3
  rw [e4] at f4
  rw [e5] at f5
  rw [cells_22] at f0
  rw [cells_24] at f1 f2 f3 f4
  rw [cells_25] at f5
  have hc0 : ∃ pv, cs[0]? = some pv := ⟨_, List.getElem?_eq_getElem (by omega)⟩
  obtain ⟨pv, hpv⟩ := hc0
  have h0 : (cs.drop 0).take 1 = [pv] := first_one hpv
  rw [h0] at f0
  obtain ⟨Hs, hHs⟩ := slice_of f0 (fun a n k e => hsp 0 a n k (by rw [hpv, e]))
  obtain ⟨r, hr, q1⟩ := hash_of f1
  obtain ⟨a, ha, q2⟩ := hash_of f2
  obtain ⟨c, hc, q3⟩ := hash_of f3
  obtain ⟨mm, hm, q4⟩ := hash_of f4
  obtain ⟨n, q5, _, hw⟩ := DataW.trod_int Try.underlying25 f5
  have hb := bounds64 hw
  refine ⟨pv, ⟨Hs, r, a, c, mm, n.toNat⟩, ?_, ⟨hr, ha, hc, hm, by show n.toNat ≤ _; omega⟩, hHs⟩
  have s0 := split_at cs 0 1
  have s1 := split_at cs 1 32
  have s2 := split_at cs 33 32
  have s3 := split_at cs 65 32
  have s4 := split_at cs 97 32
  have s5 := split_at cs 129 1
  rw [h0, List.drop_zero] at s0
  rw [q1] at s1
  rw [q2] at s2
  rw [q3] at s3
  rw [q4] at s4
  rw [q5, List.drop_eq_nil_of_le (show cs.length ≤ 129 + 1 by omega), List.append_nil] at s5
  rw [s0, show 0 + 1 = 1 from rfl, s1, show 1 + 32 = 33 from rfl, s2, show 33 + 32 = 65 from rfl, s3, show 65 + 32 = 97 from rfl, s4, show 97 + 32 = 129 from rfl, s5]
  show _ = pv :: (bys r ++ (bys a ++ (bys c ++ (bys mm ++ [.int .u64 ((n.toNat : Nat) : Int)]))))
  rw [Int.toNat_of_nonneg hb.1]
  rfl
set_option maxRecDepth 100000 in
theorem path_of {fuel : Nat} {cs : List Value} {x : DataW H × List MemPlace} (h : DataW.trod enc Try.prog w base sp held fuel 29 cs = some x) (hsp : ∀ (i : Nat) (a : Addr) (n k : Nat), cs[i]? = some (Value.slice (some a) n k) → a.spot = none) :
    ∃ n c v Hs, cs = paC n c v ∧ HsIs w v Hs := by
  obtain ⟨xs, m, _, _, hl, hlx, hf⟩ := DataW.trod_struct Try.underlying29 h
  rw [cells_29] at hl
  have hlx : xs.length = 3 := hlx
  have g (i : Nat) (hi : i < 3) : ∃ y, xs[i]? = some y := ⟨_, List.getElem?_eq_getElem (by omega)⟩
  have f0 : DataW.trod enc Try.prog w base sp held m 3 ((cs.drop 0).take (Try.prog.cellsOf 3)) = xs[0]? := hf 0 _ rfl
  have f1 : DataW.trod enc Try.prog w base sp held m 3 ((cs.drop 1).take (Try.prog.cellsOf 3)) = xs[1]? := hf 1 _ rfl
  have f2 : DataW.trod enc Try.prog w base sp held m 22 ((cs.drop 2).take (Try.prog.cellsOf 22)) = xs[2]? := hf 2 _ rfl
  obtain ⟨y0, e0⟩ := g 0 (by omega)
  obtain ⟨y1, e1⟩ := g 1 (by omega)
  obtain ⟨y2, e2⟩ := g 2 (by omega)
  rw [e0] at f0
  rw [e1] at f1
  rw [e2] at f2
  rw [cells_3] at f0 f1
  rw [cells_22] at f2
  obtain ⟨n, q0, _, _⟩ := DataW.trod_int Try.underlying3 f0
  obtain ⟨c, q1, _, _⟩ := DataW.trod_int Try.underlying3 f1
  obtain ⟨c0, c1, c2, rfl⟩ := three_of hl
  simp only [List.drop_zero, List.take_succ_cons, List.take_zero, List.drop_succ_cons, List.cons.injEq, and_true] at q0 q1 f2
  subst q0 q1
  obtain ⟨Hs, hHs⟩ := slice_of f2 (fun a n k e => hsp 2 a n k (by rw [e]; rfl))
  exact ⟨n, c, c2, Hs, rfl, hHs⟩
set_option maxRecDepth 100000 in
theorem proof_of {fuel : Nat} {cs : List Value} {x : DataW H × List MemPlace} (h : DataW.trod enc Try.prog w base sp held fuel 31 cs = some x) (hsp : ∀ (i : Nat) (a : Addr) (n k : Nat), cs[i]? = some (Value.slice (some a) n k) → a.spot = none) :
    ∃ pv hd n c v Hs, cs = pfC pv hd n c v ∧ hd.ok ∧ HsIs w pv hd.P ∧ HsIs w v Hs := by
  obtain ⟨xs, m, _, _, hl, hlx, hf⟩ := DataW.trod_struct Try.underlying31 h
  rw [cells_31] at hl
  have hlx : xs.length = 2 := hlx
  have f0 : DataW.trod enc Try.prog w base sp held m 27 ((cs.drop 0).take (Try.prog.cellsOf 27)) = xs[0]? := hf 0 _ rfl
  have f1 : DataW.trod enc Try.prog w base sp held m 29 ((cs.drop 130).take (Try.prog.cellsOf 29)) = xs[1]? := hf 1 _ rfl
  rw [List.getElem?_eq_getElem (by omega)] at f0 f1
  rw [cells_27] at f0
  rw [cells_29] at f1
  obtain ⟨pv, hd, q0, hok, hP⟩ := header_of f0 (fun i a n k e => by
    rw [List.drop_zero] at e
    have hi : i < 130 := by have := (List.getElem?_eq_some_iff.1 e).1; rw [List.length_take] at this; omega
    rw [List.getElem?_take_of_lt hi] at e
    exact hsp i a n k e)
  obtain ⟨n, c, v, Hs, q1, hH⟩ := path_of f1 (fun i a n k e => by
    have hi : i < 3 := by have := (List.getElem?_eq_some_iff.1 e).1; rw [List.length_take] at this; omega
    rw [List.getElem?_take_of_lt hi, List.getElem?_drop] at e
    exact hsp _ a n k e)
  refine ⟨pv, hd, n, c, v, Hs, ?_, hok, hP, hH⟩
  have s0 := split_at cs 0 130
  have s1 := split_at cs 130 3
  rw [List.drop_zero] at s0
  rw [List.drop_zero] at q0
  rw [q0] at s0
  rw [q1, List.drop_eq_nil_of_le (show cs.length ≤ 130 + 3 by omega), List.append_nil] at s1
  rw [s0, show 0 + 130 = 130 from rfl, s1]
  rfl
/-- No address in a row of cells is within a cell. -/
theorem spot_cell {P : Program} {r : Reach} {b0 : Nat} {u : TypeId} {a : Addr} {n k : Nat} (h : Cell.okWide P w r b0 u (.slice (some a) n k)) : a.spot = none := by
  have h1 : Cell.ok P w r b0 u (.slice (some a) n k) := by
    unfold Cell.okWide at h
    split at h
    all_goals first | exact h | (rename_i hh; cases hh)
  unfold Cell.ok at h1
  split at h1
  all_goals first | (rename_i hh; cases hh; exact h1.2.2.2.1) | (rename_i hh; cases hh) | exact absurd h1 id
end
end Go.Proofs.Ytbaepjhbpmhmgaa
/- The law ProofExtracts of any arguments. -/
namespace Go.Proofs.Ytbaepjhbpmhmgaa
open Go.RowKit Go.Lib
open Go.ChangeShapes Go.WideShapes Go.ChangeAt Go.WideMaps Go.WideElems
set_option linter.unusedVariables false
set_option linter.unusedSimpArgs false

/-- A value of cells: each of its slices' addresses is no cell within a cell. -/
theorem agg_of {P : Program} {w : World} {r : Reach} {b0 : Nat} {t : TypeId} {v : Value} (hu : (∃ fs, P.underlying t = some (.struct fs)) ∨ (∃ n e, P.underlying t = some (.array n e))) (h : Value.okWide P w r b0 t v) :
    ∃ cs : Array Value, v = .agg cs ∧ ∀ (i : Nat) (a : Addr) (n k : Nat), cs.toList[i]? = some (Value.slice (some a) n k) → a.spot = none := by
  have h1 : ∃ cs : Array Value, v = .agg cs ∧ cs.size = P.cellsOf t ∧ Row.okWide P w r b0 t cs := by
    unfold Value.okWide at h
    rcases hu with ⟨fs, hu⟩ | ⟨n, e, hu⟩
    · rw [hu] at h; exact h
    · rw [hu] at h; exact h
  obtain ⟨cs, rfl, _, ts, _, _, hc⟩ := h1
  refine ⟨cs, rfl, fun i a n k e => ?_⟩
  rw [Array.getElem?_toList] at e
  obtain ⟨u, _, hk⟩ := hc i _ e
  exact spot_cell hk
set_option maxRecDepth 100000 in
theorem extracts_any {H : Type} (enc : TypeId × Value → H) {W : World} {b0 : Nat} {sp : Nat → Bool} {held : Bool}
    (v0 : Value) (d0 : DataW H) (p0 : List MemPlace) (o0 : Value.okWide Try.prog W .any b0 31 v0) (h0 : DataW.Trod enc Try.prog W 0 sp held 31 v0 d0 p0)
    (v1 : Value) (d1 : DataW H) (p1 : List MemPlace) (o1 : Value.okWide Try.prog W .any b0 24 v1) (h1 : DataW.Trod enc Try.prog W 0 sp held 24 v1 d1 p1)
    (v2 : Value) (d2 : DataW H) (p2 : List MemPlace) (o2 : Value.okWide Try.prog W .any b0 27 v2) (h2 : DataW.Trod enc Try.prog W 0 sp held 27 v2 d2 p2)
    (v3 : Value) (d3 : DataW H) (p3 : List MemPlace) (o3 : Value.okWide Try.prog W .any b0 22 v3) (h3 : DataW.Trod enc Try.prog W 0 sp held 22 v3 d3 p3) :
    Calls Try.prog 3 #[v0, v1, v2, v3] W fun e w' => e = .returned (.bool true) ∧ Below W.heap.size W w' := by
  obtain ⟨c0, rfl, s0⟩ := agg_of (.inl ⟨_, Try.underlying31⟩) o0
  obtain ⟨c1, rfl, s1⟩ := agg_of (.inr ⟨_, _, Try.underlying24⟩) o1
  obtain ⟨c2, rfl, s2⟩ := agg_of (.inl ⟨_, Try.underlying27⟩) o2
  have o4 : Cell.okWide Try.prog W .any b0 22 v3 := by
    unfold Value.okWide at o3
    rw [Try.underlying22] at o3
    exact o3
  obtain ⟨n0, t0⟩ := h0
  obtain ⟨n1, t1⟩ := h1
  obtain ⟨n2, t2⟩ := h2
  obtain ⟨n3, t3⟩ := h3
  obtain ⟨pv, hd, n, c, v, Hs, e0, hok, hP, hH⟩ := proof_of t0 s0
  obtain ⟨I, hI, e1⟩ := hash_of t1
  obtain ⟨hv, h, e2, hk, hK⟩ := header_of t2 s2
  have t4 : DataW.trod enc Try.prog W 0 sp held n3 22 [v3] = some (d3, p3) := by
    obtain ⟨a, len, cap, rfl⟩ := okWide_slice Try.underlying22 o3
    exact t3
  obtain ⟨Is, hIs⟩ := slice_of t4 (fun a n k e => spot_cell (by rw [e] at o4; exact o4))
  have a0 : c0 = (pfC pv hd n c v).toArray := by rw [← e0]; rfl
  have a1 : c1 = (bys I).toArray := by rw [← e1]; rfl
  have a2 : c2 = (hdC hv h).toArray := by rw [← e2]; rfl
  rw [a0, a1, a2]
  exact extracts_walk pv v hv v3 hd h hok hk n c Hs Is I hI W hP hH hK hIs
end Go.Proofs.Ytbaepjhbpmhmgaa
