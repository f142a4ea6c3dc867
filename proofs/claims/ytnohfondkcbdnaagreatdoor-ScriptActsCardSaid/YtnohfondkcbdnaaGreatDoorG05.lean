/- slices.EqualFunc and tx.Same. -/
import Derived.Test.YtnohfondkcbdnaaGreatDoorG03
import Derived.Test.YtnohfondkcbdnaaGreatDoorG04
import Derived.Test.YtnohfondkcbdnaaGreatDoorG01
import Derived.Laws.IdiomStrings
import Derived.Laws.BytesArg
import Derived.Laws.StructEq
namespace Go.Proofs.YtnohfondkcbdnaaGreatDoor
open Go.RowKit Go.Lib
set_option linter.unusedVariables false
set_option linter.unusedSimpArgs false
attribute [local go_sem ↓] Go.wp_at_zero Go.wp_at_succ

theorem in_len (i : InM) (h : IsH i.id) : i.cells.length = 34 := by
  unfold InM.cells; rw [List.length_append, bys_len, h.1]; rfl
theorem Byts.len {w : World} {v : Value} {L : List Nat} (h : Byts w v L) : L.length ≤ 9223372036854775807 := by
  rcases h.2 with ⟨_, h⟩ | ⟨ad, c, _, h1, h2, _⟩
  · rw [h]; exact Nat.zero_le _
  · unfold maxLen at h2; omega
theorem in_out {w : World} {b : Nat} (i : InM) (h : w.rangeAt b 0 i.cells) : w.rangeAt b 0 i.out := fun j v hv => by
  refine h j v ?_
  unfold InM.out at hv
  unfold InM.cells
  rw [← List.append_assoc, List.getElem?_append_left (List.getElem?_eq_some_iff.1 hv).1]
  exact hv
theorem in_wit {w : World} {b off : Nat} (i : InM) (hi : IsH i.id) (h : w.rangeAt b off i.cells) : w.cell? ⟨b, off + 33, none⟩ = some i.wv := h 33 _ (by
  unfold InM.cells
  rw [List.getElem?_append_right (by rw [bys_len, hi.1]; omega), bys_len, hi.1]; rfl)
theorem in_num {w : World} {b off : Nat} (i : InM) (hi : IsH i.id) (h : w.rangeAt b off i.cells) : w.cell? ⟨b, off + 32, none⟩ = some (.int .u32 (i.k : Nat)) := h 32 _ (by
  unfold InM.cells
  rw [List.getElem?_append_right (by rw [bys_len, hi.1]; omega), bys_len, hi.1]; rfl)
theorem size_outv (i : InM) (hi : IsH i.id) : (Tryz.prog.info? 73).map (·.size) = some i.out.length := by
  rw [size_outp]; unfold InM.out; rw [List.length_append, bys_len, hi.1]; rfl
theorem in_one {i : InM} {w : World} (h : i.ok w) : ∀ v ∈ i.cells, v.oneCell' = true := by
  intro v hv
  unfold InM.cells at hv
  simp only [List.mem_append, List.mem_singleton] at hv
  rcases hv with hv | rfl | rfl
  · exact bys_one _ v hv
  · rfl
  · obtain ⟨a, c, e⟩ := h.W.form
    rw [e]; rfl
set_option maxRecDepth 100000 in
set_option maxHeartbeats 1600000 in
theorem sameIn_any (i j : InM) (w : World) (hi : i.ok w) (hj : j.ok w) :
    Calls Tryz.prog 56 #[.agg i.cells.toArray, .agg j.cells.toArray] w fun e w' => e = .returned (.bool (decide (i.key = j.key))) ∧ Below w.heap.size w w' := by
  have HI := Lib.hid hi
  have HJ := Lib.hid hj
  clear hi hj
  go_enter Tryz.func56, Tryz.ntmps56
  go_upto_region 1 with fail
  have hpk := two w (.cells i.cells.toArray 75) (.cells j.cells.toArray 75)
  have HA1 := Lib.hid (show Arr _ w.heap.size 75 i.cells from hpk.1)
  have HA2 := Lib.hid (show Arr _ (w.heap.size + 1) 75 j.cells from hpk.2.1)
  have HB1 := Lib.hid hpk.2.2.2
  clear hpk
  generalize World.alloc (World.alloc _ _) _ = w1 at *
  have hr1 : w1.rangeAt w.heap.size 0 i.cells := HA1.out.range
  have hr2 : w1.rangeAt (w.heap.size + 1) 0 j.cells := HA2.out.range
  have h33 : w1.cell? ⟨w.heap.size, 33, none⟩ = some i.wv := by have := in_wit i HI.out.id hr1; rwa [Nat.zero_add] at this
  have k33 : w1.cell? ⟨w.heap.size + 1, 33, none⟩ = some j.wv := by have := in_wit j HJ.out.id hr2; rwa [Nat.zero_add] at this
  have HR1 := Lib.hid (in_out i hr1)
  have HR2 := Lib.hid (in_out j hr2)
  have HC := Lib.hid (equal_any i.W j.W i.wv j.wv w1 (HI.out.W.below HB1.out) (HJ.out.W.below HB1.out) HI.out.W.len)
  obtain ⟨g, hg⟩ : ∃ g, w.heap.size = g := ⟨_, rfl⟩
  have HG := Lib.hid hg
  clear hr1 hr2
  rw [hg] at h33 k33 HR1 HR2 ⊢
  have HSz := Lib.hid (And.intro (size_outv i HI.out.id) (size_outv j HJ.out.id))
  by_cases hd : i.id = j.id ∧ i.k = j.k
  · have heq : ∀ w9, (Op.equalIn 10000 73 (.agg i.out.toArray) (.agg j.out.toArray)).run Tryz.prog w9 = .ok true w9 := fun w9 => (eqOp w9 9997 i j HI.out.id HJ.out.id).trans (by rw [show (decide (i.id = j.id) && decide (i.k = j.k)) = true by rw [← Bool.decide_and]; exact decide_eq_true hd])
    have HD := Lib.hid hd
    clear hd hg
    go_wp2_with (first | (refine wpList_load_mid (P := Tryz.prog) rfl 73 _ rfl g 0 rfl _ _ HR1.out Tryz.underlying73 rfl HSz.out.1 ?_) | (refine wpList_load_mid (P := Tryz.prog) rfl 73 _ rfl (g + 1) 0 rfl _ _ HR2.out Tryz.underlying73 rfl HSz.out.2 ?_))
    with_reducible refine HC.out.mono ?_
    rintro e w2 ⟨rfl, hb2⟩
    dsimp only
    have HB2 := Lib.hid hb2
    clear hb2 HC h33 k33 heq
    go_wp2
    go_ret
    refine ⟨?_, HB1.out.trans (HB2.out.mono HB1.out.size)⟩
    have e : decide (i.key = j.key) = decide (i.W = j.W) := by
      unfold InM.key
      rw [HD.out.1, HD.out.2]
      simp
    rw [e]
    rfl
  · have heq : ∀ w9, (Op.equalIn 10000 73 (.agg i.out.toArray) (.agg j.out.toArray)).run Tryz.prog w9 = .ok false w9 := fun w9 => (eqOp w9 9997 i j HI.out.id HJ.out.id).trans (by rw [show (decide (i.id = j.id) && decide (i.k = j.k)) = false by rw [← Bool.decide_and]; exact decide_eq_false hd])
    have HD := Lib.hid hd
    clear hd hg
    go_wp2_with (first | (refine wpList_load_mid (P := Tryz.prog) rfl 73 _ rfl g 0 rfl _ _ HR1.out Tryz.underlying73 rfl HSz.out.1 ?_) | (refine wpList_load_mid (P := Tryz.prog) rfl 73 _ rfl (g + 1) 0 rfl _ _ HR2.out Tryz.underlying73 rfl HSz.out.2 ?_))
    go_ret
    refine ⟨?_, HB1.out⟩
    rw [decide_eq_false (fun e : i.key = j.key => HD.out (by unfold InM.key at e; simp only [Prod.mk.injEq] at e; exact ⟨e.1, e.2.1⟩))]
    rfl
theorem size_inv {w : World} (i : InM) (h : i.ok w) : (Tryz.prog.info? 75).map (·.size) = some i.cells.length := by rw [InM.cells_len h]; exact size_in
theorem size_txv {w : World} (t : TxM) (h : t.ok w) : (Tryz.prog.info? 53).map (·.size) = some t.cells.length := size_tx
theorem size_outc (o : OutM) (h : o.ok) : (Tryz.prog.info? 88).map (·.size) = some o.cells.length := by rw [OutM.cells_len h]; exact size_out
theorem tx_one {t : TxM} {w : World} (h : t.ok w) : ∀ v ∈ t.cells, v.oneCell' = true := by
  intro v hv
  unfold TxM.cells at hv
  simp only [List.mem_cons, List.not_mem_nil, or_false] at hv
  rcases hv with rfl | rfl | rfl
  · obtain ⟨a, c, e⟩ := h.I.2.form
    rw [e]; rfl
  · obtain ⟨a, c, e⟩ := h.O.2.form
    rw [e]; rfl
  · rfl
theorem out_one {o : OutM} (h : o.ok) : ∀ v ∈ o.cells, v.oneCell' = true := by
  intro v hv
  unfold OutM.cells at hv
  simp only [List.mem_append, List.mem_singleton, List.not_mem_nil, or_false] at hv
  rcases hv with rfl | hv
  · rfl
  · exact bys_one _ v hv
theorem tx_len {w : World} {t : TxM} (h : t.ok w) : t.cells.length = 3 := rfl
/-- A row of cells stored into a variable that has just been laid. -/
theorem wpList_store_box {P : Program} {ops : Array Oper} {rest : List Oper} {op : Oper} {a : Act} {Q : Exit → Act → World → Prop} (hgd : op.guard = none) (ty : TypeId) (x y : Operand) (ho : op.op = .store ty x y)
    (wr : World) (zs : Array Value) (cs : List Value) (hx : a.eval x = .pointer (some ⟨wr.heap.size, 0, none⟩)) (hy : a.eval y = .agg cs.toArray) (hz : zs.size = cs.length) (hi : (P.info? ty).map (·.size) = some cs.length) (h1 : ∀ v ∈ cs, v.oneCell' = true)
    (h : ∀ w2, Hid (Arr w2 wr.heap.size ty cs) → Hid (Below wr.heap.size wr w2) → wpList P ops Q rest (a.put op.dst undef) w2) : wpList P ops Q (op :: rest) a (wr.alloc (.cells zs ty)) := by
  have hm : Arr (wr.alloc (.cells zs ty)) wr.heap.size ty zs.toList := Arr.made wr ty zs.toList
  have hl : zs.toList.length = cs.length := by rw [Array.length_toList]; exact hz
  refine wpList_store_mid hgd ty x y ho wr.heap.size 0 cs.toArray hx hy (hm.there _ (by rw [List.size_toArray, hl])) (by rw [List.size_toArray]; exact hi) (all_oneCell_toArray h1) ?_
  exact h _ (hm.setAll cs hl.symm) (below_sets wr.heap.size (Nat.le_refl _) cs 0 ((Below.refl wr.heap.size wr).alloc (Nat.le_refl _) (.cells zs ty)))
end Go.Proofs.YtnohfondkcbdnaaGreatDoor
/- slices.EqualFunc of api.Input. -/
namespace Go.Proofs.YtnohfondkcbdnaaGreatDoor
open Go.RowKit Go.Lib
set_option linter.unusedVariables false
set_option linter.unusedSimpArgs false
attribute [local go_sem ↓] Go.wp_at_zero Go.wp_at_succ

set_option maxRecDepth 100000 in
set_option maxHeartbeats 1600000 in
theorem eqIns_any (I J : List InM) (v1 v2 : Value) (w : World) (hI : InsIs w v1 I) (hJ : InsIs w v2 J) :
    Calls Tryz.prog 55 #[v1, v2, .func (.func 56) #[] #[]] w fun e w' => e = .returned (.bool (decide (I.map InM.key = J.map InM.key))) ∧ Below w.heap.size w w' := by
  obtain ⟨a1, c1, rfl⟩ := hI.2.form
  obtain ⟨a2, c2, rfl⟩ := hJ.2.form
  have HI := Lib.hid hI
  have HJ := Lib.hid hJ
  have hll : I.length ≤ 9223372036854775807 := hI.2.len
  clear hI hJ
  by_cases hne : I.length = J.length
  · have HE := Lib.hid hne
    rw [← hne]
    clear hne
    go_enter Tryz.func55, Tryz.ntmps55
    have hq0 : ((((I.length : Nat) : Int) == ((I.length : Nat) : Int))) = true := beq_self_eq_true _
    go_wp2
    clear hq0
    go_loopg [7, 8, 9, 17] I.length (fun g v7 v8 v9 v17 wq => ∃ k : Nat, Hid (g + k = I.length) ∧ v17 = .int .i64 (k : Int) ∧ Hid (∀ j, j < k → (I.map InM.key)[j]? = (J.map InM.key)[j]?) ∧ Hid (Below w.heap.size w wq))
    case atStart => exact ⟨0, rfl, rfl, fun j hj => absurd hj (Nat.not_lt_zero j), Below.refl _ _⟩
    case round =>
      obtain ⟨k, hk, rfl, hj, hb⟩ := hrel
      have HK := Lib.hid hk.out
      have HJq := Lib.hid hj.out
      have HBq := Lib.hid hb.out
      clear hk hj hb
      cases gk with
      | zero =>
        have hlt : ¬ ((k : Int) < ((I.length : Nat) : Int)) := by have := HK.out; omega
        have HEq := Lib.hid (show I.map InM.key = J.map InM.key by
          apply List.ext_getElem?
          intro j
          rcases Nat.lt_or_ge j I.length with hj | hj
          · exact HJq.out j (by have := HK.out; omega)
          · rw [List.getElem?_eq_none (by rw [List.length_map]; exact hj), List.getElem?_eq_none (by rw [List.length_map, ← HE.out]; exact hj)])
        go_wp2
        go_ret
        exact ⟨by rw [decide_eq_true HEq.out]; rfl, HBq.out⟩
      | succ g =>
        have hkl : k < I.length := by have := HK.out; omega
        have hkb : k < J.length := by rw [← HE.out]; exact hkl
        have hlt : ((k : Int) < ((I.length : Nat) : Int)) := by omega
        obtain ⟨x, hx⟩ : ∃ x, I[k]? = some x := ⟨_, List.getElem?_eq_getElem hkl⟩
        obtain ⟨y, hy⟩ : ∃ y, J[k]? = some y := ⟨_, List.getElem?_eq_getElem hkb⟩
        obtain ⟨b1, off1, rfl, _, hr1⟩ := (HI.out.2.below HBq.out).at hx
        obtain ⟨b2, off2, rfl, _, hr2⟩ := (HJ.out.2.below HBq.out).at hy
        have hox := (HI.out.1 x (List.mem_of_getElem? hx)).below HBq.out
        have hoy := (HJ.out.1 y (List.mem_of_getElem? hy)).below HBq.out
        have HR1 := Lib.hid hr1
        have HR2 := Lib.hid hr2
        have HX := Lib.hid hox
        have HY := Lib.hid hoy
        have HXe := Lib.hid (And.intro hx hy)
        have HKl := Lib.hid (And.intro hkl hkb)
        have HS1 := Lib.hid (size_inv x hox)
        have HS2 := Lib.hid (size_inv y hoy)
        have HO1 := Lib.hid (in_one hox)
        have HO2 := Lib.hid (in_one hoy)
        have HL1 := Lib.hid (InM.cells_len hox)
        have HL2 := Lib.hid (InM.cells_len hoy)
        clear hr1 hr2 hox hoy hx hy hkl hkb
        go_upto_region 5 with fail
        go_step
        iterate 6 (first | go_values | go_skip | go_guarded | go_step | go_upon)
        refine wpList_load_mid (P := Tryz.prog) rfl 75 _ rfl b1 (off1 + k * 34) rfl _ _ HR1.out Tryz.underlying75 rfl HS1.out ?_
        iterate 6 (first | go_values | go_skip | go_guarded | go_step | go_upon)
        refine wpList_store_box (P := Tryz.prog) rfl 75 _ _ rfl wr _ x.cells rfl rfl (by rw [HL1.out]; rfl) HS1.out HO1.out ?_
        intro w2 ha2 hb2
        have HR22 := Lib.hid (range_below HR2.out hb2.out)
        have HB2 := Lib.hid (HBq.out.trans (hb2.out.mono HBq.out.size))
        have HX2 := Lib.hid (HX.out.below hb2.out)
        have HY2 := Lib.hid (HY.out.below hb2.out)
        obtain ⟨g5, hg5⟩ : ∃ g5, wr.heap.size = g5 := ⟨_, rfl⟩
        rw [hg5] at ha2
        have HA2 := Lib.hid ha2.out
        rw [hg5]
        clear ha2 hb2 hg5 HBq HR1 HR2 HX HY
        go_upto_region 6 with fail
        go_step
        iterate 9 (first | go_values | go_skip | go_guarded | go_step | go_upon)
        refine wpList_load_mid (P := Tryz.prog) rfl 75 _ rfl b2 (off2 + k * 34) rfl _ _ HR22.out Tryz.underlying75 rfl HS2.out ?_
        iterate 3 (first | go_values | go_skip | go_guarded | go_step | go_upon)
        refine wpList_store_box (P := Tryz.prog) rfl 75 _ _ rfl w2 _ y.cells rfl rfl (by rw [HL2.out]; rfl) HS2.out HO2.out ?_
        intro w3 ha3 hb3
        have HX3 := Lib.hid (HX2.out.below hb3.out)
        have HY3 := Lib.hid (HY2.out.below hb3.out)
        have HB3 := Lib.hid (HB2.out.trans (hb3.out.mono HB2.out.size))
        have HA23 := Lib.hid (HA2.out.below hb3.out HA2.out.lt)
        obtain ⟨g6, hg6⟩ : ∃ g6, w2.heap.size = g6 := ⟨_, rfl⟩
        rw [hg6] at ha3
        have HA3 := Lib.hid ha3.out
        rw [hg6]
        clear ha3 hb3 hg6 HB2 HX2 HY2 HA2 HR22
        go_upto_region 7 with fail
        go_step
        iterate 3 (first | go_values | go_skip | go_guarded | go_step | go_upon)
        refine wpList_load_mid (P := Tryz.prog) rfl 75 _ rfl g5 0 rfl _ _ HA23.out.range Tryz.underlying75 rfl HS1.out ?_
        refine wpList_load_mid (P := Tryz.prog) rfl 75 _ rfl g6 0 rfl _ _ HA3.out.range Tryz.underlying75 rfl HS2.out ?_
        have HC := Lib.hid (sameIn_any x y w3 HX3.out HY3.out)
        by_cases hd : x.key = y.key
        · have HD := Lib.hid hd
          rw [decide_eq_true hd] at HC
          clear hd
          go_wp2_with fail
          with_reducible refine HC.out.mono ?_
          rintro e w4 ⟨rfl, hb4⟩
          dsimp only
          have HB4 := Lib.hid (HB3.out.trans (hb4.mono HB3.out.size))
          have HJ2 := Lib.hid (show ∀ j, j < k + 1 → (I.map InM.key)[j]? = (J.map InM.key)[j]? by
            intro j hj
            rcases Nat.lt_or_ge j k with h | h
            · exact HJq.out j h
            · obtain rfl : j = k := by omega
              rw [List.getElem?_map, List.getElem?_map, HXe.out.1, HXe.out.2]
              exact congrArg some HD.out)
          clear hb4 HC HB3 HA23 HA3 HX3 HY3 HJq
          go_wp2
          go_roundg g
          case measure => omega
          case rel => exact ⟨k + 1, by show _ = _; have := HK.out; omega, by go_num, HJ2.out, HB4.out⟩
        · have HD := Lib.hid (show ¬ I.map InM.key = J.map InM.key from fun e => hd (by
            have h := congrArg (fun l => l[k]?) e
            simp only [List.getElem?_map, HXe.out.1, HXe.out.2, Option.map_some] at h
            exact Option.some.inj h))
          rw [decide_eq_false hd] at HC
          clear hd
          go_wp2_with fail
          with_reducible refine HC.out.mono ?_
          rintro e w4 ⟨rfl, hb4⟩
          dsimp only
          have HB4 := Lib.hid (HB3.out.trans (hb4.mono HB3.out.size))
          clear hb4 HC HB3 HA23 HA3 HX3 HY3 HJq
          go_wp2
          go_ret
          exact ⟨by rw [decide_eq_false HD.out]; rfl, HB4.out⟩
  · have hq0 : ((((I.length : Nat) : Int) == ((J.length : Nat) : Int))) = false := beq_false_of_ne (by omega)
    go_enter Tryz.func55, Tryz.ntmps55
    go_wp2
    go_ret
    exact ⟨by rw [decide_eq_false (fun e => hne (by have := congrArg List.length e; rwa [List.length_map, List.length_map] at this))]; rfl, Below.refl _ _⟩
end Go.Proofs.YtnohfondkcbdnaaGreatDoor
/- slices.Equal of api.Output. -/
namespace Go.Proofs.YtnohfondkcbdnaaGreatDoor
open Go.RowKit Go.Lib
set_option linter.unusedVariables false
set_option linter.unusedSimpArgs false
attribute [local go_sem ↓] Go.wp_at_zero Go.wp_at_succ

set_option maxRecDepth 100000 in
set_option maxHeartbeats 1600000 in
theorem eqOuts_any (I J : List OutM) (v1 v2 : Value) (w : World) (hI : OutsIs w v1 I) (hJ : OutsIs w v2 J) :
    Calls Tryz.prog 54 #[v1, v2] w fun e w' => e = .returned (.bool (decide (I = J))) ∧ Below w.heap.size w w' := by
  obtain ⟨a1, c1, rfl⟩ := hI.2.form
  obtain ⟨a2, c2, rfl⟩ := hJ.2.form
  have HI := Lib.hid hI
  have HJ := Lib.hid hJ
  have hll : I.length ≤ 9223372036854775807 := hI.2.len
  clear hI hJ
  by_cases hne : I.length = J.length
  · have HE := Lib.hid hne
    rw [← hne]
    clear hne
    go_enter Tryz.func54, Tryz.ntmps54
    have hq0 : ((((I.length : Nat) : Int) == ((I.length : Nat) : Int))) = true := beq_self_eq_true _
    go_wp2
    clear hq0
    go_loopg [5, 13] I.length (fun g v5 v13 wq => ∃ k : Nat, Hid (g + k = I.length) ∧ v13 = .int .i64 (k : Int) ∧ Hid (∀ j, j < k → I[j]? = J[j]?) ∧ Hid (Below w.heap.size w wq))
    case atStart => exact ⟨0, rfl, rfl, fun j hj => absurd hj (Nat.not_lt_zero j), Below.refl _ _⟩
    case round =>
      obtain ⟨k, hk, rfl, hj, hb⟩ := hrel
      have HK := Lib.hid hk.out
      have HJq := Lib.hid hj.out
      have HBq := Lib.hid hb.out
      clear hk hj hb
      cases gk with
      | zero =>
        have hlt : ¬ ((k : Int) < ((I.length : Nat) : Int)) := by have := HK.out; omega
        have HEq := Lib.hid (show I = J by
          apply List.ext_getElem?
          intro j
          rcases Nat.lt_or_ge j I.length with hj | hj
          · exact HJq.out j (by have := HK.out; omega)
          · rw [List.getElem?_eq_none hj, List.getElem?_eq_none (by rw [← HE.out]; exact hj)])
        go_wp2
        go_ret
        exact ⟨by rw [decide_eq_true HEq.out]; rfl, HBq.out⟩
      | succ g =>
        have hkl : k < I.length := by have := HK.out; omega
        have hkb : k < J.length := by rw [← HE.out]; exact hkl
        have hlt : ((k : Int) < ((I.length : Nat) : Int)) := by omega
        obtain ⟨x, hx⟩ : ∃ x, I[k]? = some x := ⟨_, List.getElem?_eq_getElem hkl⟩
        obtain ⟨y, hy⟩ : ∃ y, J[k]? = some y := ⟨_, List.getElem?_eq_getElem hkb⟩
        obtain ⟨b1, off1, rfl, _, hr1⟩ := (HI.out.2.below HBq.out).at hx
        obtain ⟨b2, off2, rfl, _, hr2⟩ := (HJ.out.2.below HBq.out).at hy
        have hox := HI.out.1 x (List.mem_of_getElem? hx)
        have hoy := HJ.out.1 y (List.mem_of_getElem? hy)
        have HR1 := Lib.hid hr1
        have HR2 := Lib.hid hr2
        have HX := Lib.hid hox
        have HY := Lib.hid hoy
        have HXe := Lib.hid (And.intro hx hy)
        have HKl := Lib.hid (And.intro hkl hkb)
        have HS1 := Lib.hid (size_outc x hox)
        have HS2 := Lib.hid (size_outc y hoy)
        have HO1 := Lib.hid (out_one hox)
        have HO2 := Lib.hid (out_one hoy)
        have HL1 := Lib.hid (OutM.cells_len hox)
        have HL2 := Lib.hid (OutM.cells_len hoy)
        clear hr1 hr2 hox hoy hx hy hkl hkb
        go_upto_region 6 with fail
        have hrow1 : ∀ p : Beh wr, p.x.rangeAt b1 (off1 + k * 33) x.cells := fun p => range_below HR1.out p.h
        have hrow2 : ∀ p : Beh wr, p.x.rangeAt b2 (off2 + k * 33) y.cells := fun p => range_below HR2.out p.h
        have HW1 := Lib.hid hrow1
        have HW2 := Lib.hid hrow2
        clear hrow1 hrow2 HR1 HR2
        by_cases hd : x = y
        · have HD := Lib.hid hd
          have heq : ∀ w9, (Op.equalIn 10000 88 (.agg x.cells.toArray) (.agg y.cells.toArray)).run Tryz.prog w9 = .ok true w9 := fun w9 => (eqOut w9 9997 x y HX.out HY.out).trans (by rw [decide_eq_true hd])
          clear hd
          refine wp_region_Q _ rfl (by kernel_rfl) (by kernel_rfl) ?_
          iterate 3
            (refine wpQuiet_step (fun K hK => ?_)
             go_simp
             first
               | (refine hK _ ?_; clear hK K)
               | (apply Exists.intro
                  refine ⟨fun _ => ?_, hK _ ?_⟩
                  (with_reducible rfl)
                  clear hK K))
          refine wpQ_load (by rfl) 88 (.tmp 18) rfl (b1) (off1 + k * 33) rfl (x.cells) _ (fun w hw => by obtain ⟨p, rfl⟩ := hw; exact (HW1.out p)) Tryz.underlying88 rfl HS1.out ?_
          dsimp only [Act.put]
          simp only [List.setIfInBounds_toArray, List.set_cons_zero, List.set_cons_succ]
          iterate 3
            (refine wpQuiet_step (fun K hK => ?_)
             go_simp
             first
               | (refine hK _ ?_; clear hK K)
               | (apply Exists.intro
                  refine ⟨fun _ => ?_, hK _ ?_⟩
                  (with_reducible rfl)
                  clear hK K))
          refine wpQ_load (by rfl) 88 (.tmp 22) rfl (b2) (off2 + k * 33) rfl (y.cells) _ (fun w hw => by obtain ⟨p, rfl⟩ := hw; exact (HW2.out p)) Tryz.underlying88 rfl HS2.out ?_
          dsimp only [Act.put]
          simp only [List.setIfInBounds_toArray, List.set_cons_zero, List.set_cons_succ]
          iterate 1
            (refine wpQuiet_step (fun K hK => ?_)
             go_simp
             first
               | (refine hK _ ?_; clear hK K)
               | (apply Exists.intro
                  refine ⟨fun _ => ?_, hK _ ?_⟩
                  (with_reducible rfl)
                  clear hK K))
          refine wpQuiet_nil ?_
          rintro w9 ⟨⟨w9, hb9⟩, rfl⟩
          have HB9 := Lib.hid (HBq.out.trans (hb9.mono HBq.out.size))
          have HJ2 := Lib.hid (show ∀ j, j < k + 1 → I[j]? = J[j]? by
            intro j hj
            rcases Nat.lt_or_ge j k with h | h
            · exact HJq.out j h
            · obtain rfl : j = k := by omega
              rw [HXe.out.1, HXe.out.2, HD.out])
          clear hb9 heq HW1 HW2 HJq HBq
          go_wp2
          go_roundg g
          case measure => omega
          case rel => exact ⟨k + 1, by show _ = _; have := HK.out; omega, by go_num, HJ2.out, HB9.out⟩
        · have HD := Lib.hid (show ¬ I = J from fun e => hd (by
            have h := congrArg (fun l => l[k]?) e
            simp only [HXe.out.1, HXe.out.2] at h
            exact Option.some.inj h))
          have heq : ∀ w9, (Op.equalIn 10000 88 (.agg x.cells.toArray) (.agg y.cells.toArray)).run Tryz.prog w9 = .ok false w9 := fun w9 => (eqOut w9 9997 x y HX.out HY.out).trans (by rw [decide_eq_false hd])
          clear hd
          refine wp_region_Q _ rfl (by kernel_rfl) (by kernel_rfl) ?_
          iterate 3
            (refine wpQuiet_step (fun K hK => ?_)
             go_simp
             first
               | (refine hK _ ?_; clear hK K)
               | (apply Exists.intro
                  refine ⟨fun _ => ?_, hK _ ?_⟩
                  (with_reducible rfl)
                  clear hK K))
          refine wpQ_load (by rfl) 88 (.tmp 18) rfl (b1) (off1 + k * 33) rfl (x.cells) _ (fun w hw => by obtain ⟨p, rfl⟩ := hw; exact (HW1.out p)) Tryz.underlying88 rfl HS1.out ?_
          dsimp only [Act.put]
          simp only [List.setIfInBounds_toArray, List.set_cons_zero, List.set_cons_succ]
          iterate 3
            (refine wpQuiet_step (fun K hK => ?_)
             go_simp
             first
               | (refine hK _ ?_; clear hK K)
               | (apply Exists.intro
                  refine ⟨fun _ => ?_, hK _ ?_⟩
                  (with_reducible rfl)
                  clear hK K))
          refine wpQ_load (by rfl) 88 (.tmp 22) rfl (b2) (off2 + k * 33) rfl (y.cells) _ (fun w hw => by obtain ⟨p, rfl⟩ := hw; exact (HW2.out p)) Tryz.underlying88 rfl HS2.out ?_
          dsimp only [Act.put]
          simp only [List.setIfInBounds_toArray, List.set_cons_zero, List.set_cons_succ]
          iterate 1
            (refine wpQuiet_step (fun K hK => ?_)
             go_simp
             first
               | (refine hK _ ?_; clear hK K)
               | (apply Exists.intro
                  refine ⟨fun _ => ?_, hK _ ?_⟩
                  (with_reducible rfl)
                  clear hK K))
          refine wpQuiet_nil ?_
          rintro w9 ⟨⟨w9, hb9⟩, rfl⟩
          have HB9 := Lib.hid (HBq.out.trans (hb9.mono HBq.out.size))
          clear hb9 heq HW1 HW2 HJq HBq
          go_wp2
          go_ret
          exact ⟨by rw [decide_eq_false HD.out]; rfl, HB9.out⟩
  · have hq0 : ((((I.length : Nat) : Int) == ((J.length : Nat) : Int))) = false := beq_false_of_ne (by omega)
    go_enter Tryz.func54, Tryz.ntmps54
    go_wp2
    go_ret
    exact ⟨by rw [decide_eq_false (fun e => hne (congrArg List.length e))]; rfl, Below.refl _ _⟩
end Go.Proofs.YtnohfondkcbdnaaGreatDoor
/- tx.Same. -/
namespace Go.Proofs.YtnohfondkcbdnaaGreatDoor
open Go.RowKit Go.Lib
set_option linter.unusedVariables false
set_option linter.unusedSimpArgs false
attribute [local go_sem ↓] Go.wp_at_zero Go.wp_at_succ

theorem key_eq (s t : TxM) : decide (s.key = t.key) = (decide (s.n = t.n) && (decide (s.O = t.O) && decide (s.I.map InM.key = t.I.map InM.key))) := by
  rw [Bool.eq_iff_iff]
  simp only [Bool.and_eq_true, decide_eq_true_iff, TxM.key, Prod.mk.injEq]
  constructor
  · rintro ⟨h1, h2, h3⟩; exact ⟨h3, h2, h1⟩
  · rintro ⟨h3, h2, h1⟩; exact ⟨h1, h2, h3⟩
set_option maxRecDepth 100000 in
set_option maxHeartbeats 1600000 in
theorem same_any (s t : TxM) (w : World) (hs : s.ok w) (ht : t.ok w) :
    Calls Tryz.prog 30 #[.agg s.cells.toArray, .agg t.cells.toArray] w fun e w' => e = .returned (.bool (decide (s.key = t.key))) ∧ Below w.heap.size w w' := by
  have HS := Lib.hid hs
  have HT := Lib.hid ht
  obtain ⟨iv, ov, I, O, n⟩ := s
  obtain ⟨jv, qv, J, Q, m⟩ := t
  rw [key_eq]
  clear hs ht
  dsimp only at HS HT ⊢
  obtain ⟨R, hR⟩ : ∃ R : Bool, R = (decide (n = m) && (decide (O = Q) && decide (I.map InM.key = J.map InM.key))) := ⟨_, rfl⟩
  rw [← hR]
  have HR := Lib.hid hR
  clear hR
  show Calls Tryz.prog 30 #[.agg #[iv, ov, .int .u64 (n : Nat)], .agg #[jv, qv, .int .u64 (m : Nat)]] w _
  go_enter Tryz.func30, Tryz.ntmps30
  go_upto_region 1 with fail
  have hpk := two w (.cells #[iv, ov, .int .u64 (n : Nat)] 53) (.cells #[jv, qv, .int .u64 (m : Nat)] 53)
  have HA1 := Lib.hid (show Arr _ w.heap.size 53 [iv, ov, .int .u64 (n : Nat)] from hpk.1)
  have HA2 := Lib.hid (show Arr _ (w.heap.size + 1) 53 [jv, qv, .int .u64 (m : Nat)] from hpk.2.1)
  have HB1 := Lib.hid hpk.2.2.2
  clear hpk
  generalize World.alloc (World.alloc _ _) _ = w1 at *
  have HS1 := Lib.hid (HS.out.below HB1.out)
  have HT1 := Lib.hid (HT.out.below HB1.out)
  obtain ⟨g, hg⟩ : ∃ g, w.heap.size = g := ⟨_, rfl⟩
  rw [hg] at HA1 HA2 ⊢
  have HG := Lib.hid hg
  have HB := Lib.hid (show Below g w w1 by rw [← hg]; exact HB1.out)
  have hsz : g ≤ w1.heap.size := by rw [← hg]; exact HB1.out.size
  have HZ := Lib.hid hsz
  clear hg HB1 HS HT hsz
  have a0 := HA1.out.cell 0
  have a1 := HA1.out.cell 1
  have a2 := HA1.out.cell 2
  have b0 := HA2.out.cell 0
  have b1 := HA2.out.cell 1
  have b2 := HA2.out.cell 2
  dsimp only [List.getElem?_cons_zero, List.getElem?_cons_succ] at a0 a1 a2 b0 b1 b2
  by_cases hn : n = m
  · have hq : (((n : Nat) : Int) == ((m : Nat) : Int)) = true := by rw [beq_iff_eq, hn]
    have HC := Lib.hid (eqOuts_any O Q ov qv w1 HS1.out.O HT1.out.O)
    have HRn := Lib.hid (show R = (decide (O = Q) && decide (I.map InM.key = J.map InM.key)) by rw [HR.out, decide_eq_true hn, Bool.true_and])
    clear hn HR
    by_cases ho : O = Q
    · rw [decide_eq_true ho] at HC
      have HRo := Lib.hid (show R = decide (I.map InM.key = J.map InM.key) by rw [HRn.out, decide_eq_true ho, Bool.true_and])
      clear ho HRn
      go_wp2_with fail
      with_reducible refine HC.out.mono ?_
      rintro e w2 ⟨rfl, hb2⟩
      dsimp only
      have a3 := ((HA1.out.below hb2 HA1.out.lt).cell 0)
      have b3 := ((HA2.out.below hb2 HA2.out.lt).cell 0)
      dsimp only [List.getElem?_cons_zero, List.getElem?_cons_succ] at a3 b3
      have HS2 := Lib.hid (HS1.out.below hb2)
      have HT2 := Lib.hid (HT1.out.below hb2)
      have HB2 := Lib.hid (HB.out.trans (hb2.mono HZ.out))
      have HZ2 := Lib.hid (Nat.le_trans HZ.out hb2.size)
      clear hb2 HC a0 a1 a2 b0 b1 b2 hq HS1 HT1 HB HA1 HA2
      have HC := Lib.hid (eqIns_any I J iv jv w2 HS2.out.I HT2.out.I)
      go_wp2_with fail
      with_reducible refine HC.out.mono ?_
      rintro e w3 ⟨rfl, hb3⟩
      dsimp only
      have HB3 := Lib.hid (HB2.out.trans (hb3.mono HZ2.out))
      clear hb3 HC HB2 a3 b3
      go_wp2
      go_ret
      exact ⟨by rw [HRo.out]; rfl, by rw [HG.out]; exact HB3.out⟩
    · rw [decide_eq_false ho] at HC
      have HRo := Lib.hid (show R = false by rw [HRn.out, decide_eq_false ho, Bool.false_and])
      clear ho HRn
      go_wp2_with fail
      with_reducible refine HC.out.mono ?_
      rintro e w2 ⟨rfl, hb2⟩
      dsimp only
      have HB2 := Lib.hid (HB.out.trans (hb2.mono HZ.out))
      clear hb2 HC
      go_wp2
      go_ret
      exact ⟨by rw [HRo.out]; rfl, by rw [HG.out]; exact HB2.out⟩
  · have hq : (((n : Nat) : Int) == ((m : Nat) : Int)) = false := beq_false_of_ne (by omega)
    have HRo := Lib.hid (show R = false by rw [HR.out, decide_eq_false hn, Bool.false_and])
    clear hn HR
    go_wp2
    go_ret
    exact ⟨by rw [HRo.out]; rfl, by rw [HG.out]; exact HB.out⟩
end Go.Proofs.YtnohfondkcbdnaaGreatDoor
/- slices.EqualFunc of api.Tx. -/
namespace Go.Proofs.YtnohfondkcbdnaaGreatDoor
open Go.RowKit Go.Lib
set_option linter.unusedVariables false
set_option linter.unusedSimpArgs false
attribute [local go_sem ↓] Go.wp_at_zero Go.wp_at_succ

set_option maxRecDepth 100000 in
set_option maxHeartbeats 1600000 in
theorem eqTxs_any (I J : List TxM) (v1 v2 : Value) (w : World) (hI : TxsIs w v1 I) (hJ : TxsIs w v2 J) :
    Calls Tryz.prog 29 #[v1, v2, .func (.func 30) #[] #[]] w fun e w' => e = .returned (.bool (decide (I.map TxM.key = J.map TxM.key))) ∧ Below w.heap.size w w' := by
  obtain ⟨a1, c1, rfl⟩ := hI.2.form
  obtain ⟨a2, c2, rfl⟩ := hJ.2.form
  have HI := Lib.hid hI
  have HJ := Lib.hid hJ
  have hll : I.length ≤ 9223372036854775807 := hI.2.len
  clear hI hJ
  by_cases hne : I.length = J.length
  · have HE := Lib.hid hne
    rw [← hne]
    clear hne
    go_enter Tryz.func29, Tryz.ntmps29
    have hq0 : ((((I.length : Nat) : Int) == ((I.length : Nat) : Int))) = true := beq_self_eq_true _
    go_wp2
    clear hq0
    go_loopg [7, 8, 9, 17] I.length (fun g v7 v8 v9 v17 wq => ∃ k : Nat, Hid (g + k = I.length) ∧ v17 = .int .i64 (k : Int) ∧ Hid (∀ j, j < k → (I.map TxM.key)[j]? = (J.map TxM.key)[j]?) ∧ Hid (Below w.heap.size w wq))
    case atStart => exact ⟨0, rfl, rfl, fun j hj => absurd hj (Nat.not_lt_zero j), Below.refl _ _⟩
    case round =>
      obtain ⟨k, hk, rfl, hj, hb⟩ := hrel
      have HK := Lib.hid hk.out
      have HJq := Lib.hid hj.out
      have HBq := Lib.hid hb.out
      clear hk hj hb
      cases gk with
      | zero =>
        have hlt : ¬ ((k : Int) < ((I.length : Nat) : Int)) := by have := HK.out; omega
        have HEq := Lib.hid (show I.map TxM.key = J.map TxM.key by
          apply List.ext_getElem?
          intro j
          rcases Nat.lt_or_ge j I.length with hj | hj
          · exact HJq.out j (by have := HK.out; omega)
          · rw [List.getElem?_eq_none (by rw [List.length_map]; exact hj), List.getElem?_eq_none (by rw [List.length_map, ← HE.out]; exact hj)])
        go_wp2
        go_ret
        exact ⟨by rw [decide_eq_true HEq.out]; rfl, HBq.out⟩
      | succ g =>
        have hkl : k < I.length := by have := HK.out; omega
        have hkb : k < J.length := by rw [← HE.out]; exact hkl
        have hlt : ((k : Int) < ((I.length : Nat) : Int)) := by omega
        obtain ⟨x, hx⟩ : ∃ x, I[k]? = some x := ⟨_, List.getElem?_eq_getElem hkl⟩
        obtain ⟨y, hy⟩ : ∃ y, J[k]? = some y := ⟨_, List.getElem?_eq_getElem hkb⟩
        obtain ⟨b1, off1, rfl, _, hr1⟩ := (HI.out.2.below HBq.out).at hx
        obtain ⟨b2, off2, rfl, _, hr2⟩ := (HJ.out.2.below HBq.out).at hy
        have hox := (HI.out.1 x (List.mem_of_getElem? hx)).below HBq.out
        have hoy := (HJ.out.1 y (List.mem_of_getElem? hy)).below HBq.out
        have HR1 := Lib.hid hr1
        have HR2 := Lib.hid hr2
        have HX := Lib.hid hox
        have HY := Lib.hid hoy
        have HXe := Lib.hid (And.intro hx hy)
        have HKl := Lib.hid (And.intro hkl hkb)
        have HS1 := Lib.hid (size_txv x hox)
        have HS2 := Lib.hid (size_txv y hoy)
        have HO1 := Lib.hid (tx_one hox)
        have HO2 := Lib.hid (tx_one hoy)
        have HL1 := Lib.hid (tx_len hox)
        have HL2 := Lib.hid (tx_len hoy)
        clear hr1 hr2 hox hoy hx hy hkl hkb
        go_upto_region 5 with fail
        go_step
        iterate 6 (first | go_values | go_skip | go_guarded | go_step | go_upon)
        refine wpList_load_mid (P := Tryz.prog) rfl 53 _ rfl b1 (off1 + k * 3) rfl _ _ HR1.out Tryz.underlying53 rfl HS1.out ?_
        iterate 6 (first | go_values | go_skip | go_guarded | go_step | go_upon)
        refine wpList_store_box (P := Tryz.prog) rfl 53 _ _ rfl wr _ x.cells rfl rfl (by rw [HL1.out]; rfl) HS1.out HO1.out ?_
        intro w2 ha2 hb2
        have HR22 := Lib.hid (range_below HR2.out hb2.out)
        have HB2 := Lib.hid (HBq.out.trans (hb2.out.mono HBq.out.size))
        have HX2 := Lib.hid (HX.out.below hb2.out)
        have HY2 := Lib.hid (HY.out.below hb2.out)
        obtain ⟨g5, hg5⟩ : ∃ g5, wr.heap.size = g5 := ⟨_, rfl⟩
        rw [hg5] at ha2
        have HA2 := Lib.hid ha2.out
        rw [hg5]
        clear ha2 hb2 hg5 HBq HR1 HR2 HX HY
        go_upto_region 6 with fail
        go_step
        iterate 9 (first | go_values | go_skip | go_guarded | go_step | go_upon)
        refine wpList_load_mid (P := Tryz.prog) rfl 53 _ rfl b2 (off2 + k * 3) rfl _ _ HR22.out Tryz.underlying53 rfl HS2.out ?_
        iterate 3 (first | go_values | go_skip | go_guarded | go_step | go_upon)
        refine wpList_store_box (P := Tryz.prog) rfl 53 _ _ rfl w2 _ y.cells rfl rfl (by rw [HL2.out]; rfl) HS2.out HO2.out ?_
        intro w3 ha3 hb3
        have HX3 := Lib.hid (HX2.out.below hb3.out)
        have HY3 := Lib.hid (HY2.out.below hb3.out)
        have HB3 := Lib.hid (HB2.out.trans (hb3.out.mono HB2.out.size))
        have HA23 := Lib.hid (HA2.out.below hb3.out HA2.out.lt)
        obtain ⟨g6, hg6⟩ : ∃ g6, w2.heap.size = g6 := ⟨_, rfl⟩
        rw [hg6] at ha3
        have HA3 := Lib.hid ha3.out
        rw [hg6]
        clear ha3 hb3 hg6 HB2 HX2 HY2 HA2 HR22
        go_upto_region 7 with fail
        go_step
        iterate 3 (first | go_values | go_skip | go_guarded | go_step | go_upon)
        refine wpList_load_mid (P := Tryz.prog) rfl 53 _ rfl g5 0 rfl _ _ HA23.out.range Tryz.underlying53 rfl HS1.out ?_
        refine wpList_load_mid (P := Tryz.prog) rfl 53 _ rfl g6 0 rfl _ _ HA3.out.range Tryz.underlying53 rfl HS2.out ?_
        have HC := Lib.hid (same_any x y w3 HX3.out HY3.out)
        by_cases hd : x.key = y.key
        · have HD := Lib.hid hd
          rw [decide_eq_true hd] at HC
          clear hd
          go_wp2_with fail
          with_reducible refine HC.out.mono ?_
          rintro e w4 ⟨rfl, hb4⟩
          dsimp only
          have HB4 := Lib.hid (HB3.out.trans (hb4.mono HB3.out.size))
          have HJ2 := Lib.hid (show ∀ j, j < k + 1 → (I.map TxM.key)[j]? = (J.map TxM.key)[j]? by
            intro j hj
            rcases Nat.lt_or_ge j k with h | h
            · exact HJq.out j h
            · obtain rfl : j = k := by omega
              rw [List.getElem?_map, List.getElem?_map, HXe.out.1, HXe.out.2]
              exact congrArg some HD.out)
          clear hb4 HC HB3 HA23 HA3 HX3 HY3 HJq
          go_wp2
          go_roundg g
          case measure => omega
          case rel => exact ⟨k + 1, by show _ = _; have := HK.out; omega, by go_num, HJ2.out, HB4.out⟩
        · have HD := Lib.hid (show ¬ I.map TxM.key = J.map TxM.key from fun e => hd (by
            have h := congrArg (fun l => l[k]?) e
            simp only [List.getElem?_map, HXe.out.1, HXe.out.2, Option.map_some] at h
            exact Option.some.inj h))
          rw [decide_eq_false hd] at HC
          clear hd
          go_wp2_with fail
          with_reducible refine HC.out.mono ?_
          rintro e w4 ⟨rfl, hb4⟩
          dsimp only
          have HB4 := Lib.hid (HB3.out.trans (hb4.mono HB3.out.size))
          clear hb4 HC HB3 HA23 HA3 HX3 HY3 HJq
          go_wp2
          go_ret
          exact ⟨by rw [decide_eq_false HD.out]; rfl, HB4.out⟩
  · have hq0 : ((((I.length : Nat) : Int) == ((J.length : Nat) : Int))) = false := beq_false_of_ne (by omega)
    go_enter Tryz.func29, Tryz.ntmps29
    go_wp2
    go_ret
    exact ⟨by rw [decide_eq_false (fun e => hne (by have := congrArg List.length e; rwa [List.length_map, List.length_map] at this))]; rfl, Below.refl _ _⟩
end Go.Proofs.YtnohfondkcbdnaaGreatDoor
/- string(b) of bytes, and how such are compared. Nothing of the dump stands here. -/
namespace Go.Proofs.YtnohfondkcbdnaaGreatDoor
open Go.RowKit Go.Lib
set_option linter.unusedVariables false

/-- The string of these bytes. -/
def strL (L : List Nat) : ByteArray := ⟨(L.map UInt8.ofNat).toArray⟩
theorem strL_data (L : List Nat) : (strL L).data.toList = L.map UInt8.ofNat := rfl
theorem ofNat_inj : ∀ (A B : List Nat), (∀ x ∈ A, x < 256) → (∀ x ∈ B, x < 256) → A.map UInt8.ofNat = B.map UInt8.ofNat → A = B
  | [], [], _, _, _ => rfl
  | [], _ :: _, _, _, h => by simp at h
  | _ :: _, [], _, _, h => by simp at h
  | a :: A, b :: B, hA, hB, h => by
    simp only [List.map_cons, List.cons.injEq] at h
    have ha := hA a (List.mem_cons_self ..)
    have hb := hB b (List.mem_cons_self ..)
    have e : a = b := by
      have := congrArg UInt8.toNat h.1
      simp only [UInt8.toNat_ofNat'] at this
      omega
    rw [e, ofNat_inj A B (fun x hx => hA x (List.mem_cons_of_mem _ hx)) (fun x hx => hB x (List.mem_cons_of_mem _ hx)) h.2]
theorem strL_inj {A B : List Nat} (hA : ∀ x ∈ A, x < 256) (hB : ∀ x ∈ B, x < 256) (h : strL A = strL B) : A = B :=
  ofNat_inj A B hA hB (by rw [← strL_data, ← strL_data, h])
theorem strL_beq (A B : List Nat) (hA : ∀ x ∈ A, x < 256) (hB : ∀ x ∈ B, x < 256) : ((strL A).toList == (strL B).toList) = decide (A = B) := by
  rw [ByteArray.toList_eq, ByteArray.toList_eq, strL_data, strL_data]
  by_cases h : A = B
  · subst h
    simp
  · rw [decide_eq_false h, beq_eq_false_iff_ne]
    exact fun e => h (ofNat_inj A B hA hB e)
theorem conv_byts {P : Program} {w : World} {v : Value} {L : List Nat} (h : Byts w v L) (src dst e : TypeId) (hs : P.underlying src = some (.slice e)) (he : P.underlying e = some (.int .u8)) (hd : P.underlying dst = some .string) :
    (convert src dst v).run P w = .ok (.string (strL L)) w := by
  rcases h.2 with ⟨rfl, rfl⟩ | ⟨ad, c, rfl, _, _, hc⟩
  · rw [run_convert_bytes_nil w src e hs he 0 0 dst hd]; rfl
  · have := run_convert_bytes_back (P := P) w src dst e ad c (L.map UInt8.ofNat) hs he hd (fun j hj => by
      rw [List.length_map] at hj
      rw [hc j hj, List.getElem_map]
      have hx := h.1 (L[j]) (List.getElem_mem hj)
      have e1 : L.getD j 0 = L[j] := by simp only [List.getD, List.getElem?_eq_getElem hj, Option.getD_some]
      rw [e1]
      congr 2
      rw [UInt8.toNat_ofNat']
      omega)
    rw [List.length_map] at this
    exact this
end Go.Proofs.YtnohfondkcbdnaaGreatDoor
