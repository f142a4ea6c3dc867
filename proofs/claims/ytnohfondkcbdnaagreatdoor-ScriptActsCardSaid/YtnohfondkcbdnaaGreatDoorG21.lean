/- script.parts: the map of its closures. -/
import Derived.Test.YtnohfondkcbdnaaGreatDoorG20
import Derived.Laws.EntriesVeiled
namespace Go.Proofs.YtnohfondkcbdnaaGreatDoor
open Go.RowKit Go.Lib
open Go.Maps (Keyed)
set_option linter.unusedVariables false
set_option linter.unusedSimpArgs false
attribute [local go_sem ↓] Go.wp_at_zero Go.wp_at_succ

open Classical in
/-- How a closure reads that captures the box at p, or nothing. -/
noncomputable def funElemP (p : Nat) (v : Value) : Option (DataW Unit × List MemPlace) := match v with
  | .func (.func n) f c => if f = #[] ∧ c = #[] then some (.lit (.int .i64 (-(n : Int))), []) else if f = #[] ∧ c = #[.pointer (some ⟨p, 0, none⟩)] then some (.lit (.int .i64 (n : Int)), []) else none
  | _ => some (.nil, [])
theorem funElemP_mk0 (p n : Nat) : funElemP p (.func (.func n) #[] #[]) = some (.lit (.int .i64 (-(n : Int))), []) := by
  unfold funElemP; simp
theorem funElemP_mk1 (p n : Nat) : funElemP p (.func (.func n) #[] #[.pointer (some ⟨p, 0, none⟩)]) = some (.lit (.int .i64 (n : Int)), []) := by
  unfold funElemP; simp
theorem funElemP_inv1 {p : Nat} {v : Value} {n : Nat} {ps : List MemPlace} (hn : 0 < n) (h : funElemP p v = some (.lit (.int .i64 (n : Int)), ps)) : v = .func (.func n) #[] #[.pointer (some ⟨p, 0, none⟩)] := by
  unfold funElemP at h
  split at h
  · rename_i m f c
    split at h
    · have e := congrArg Prod.fst (Option.some.inj h)
      simp only [DataW.lit.injEq, Lit.int.injEq, true_and] at e
      omega
    · split at h
      · rename_i hc
        have e := congrArg Prod.fst (Option.some.inj h)
        simp only [DataW.lit.injEq, Lit.int.injEq, true_and] at e
        have e2 : m = n := by exact_mod_cast e
        rw [e2, hc.1, hc.2]
      · cases h
  · have e := congrArg Prod.fst (Option.some.inj h)
    cases e
theorem funElemP_inv0 {p : Nat} {v : Value} {n : Nat} {ps : List MemPlace} (hn : 0 < n) (h : funElemP p v = some (.lit (.int .i64 (-(n : Int))), ps)) : v = .func (.func n) #[] #[] := by
  unfold funElemP at h
  split at h
  · rename_i m f c
    split at h
    · rename_i hc
      have e := congrArg Prod.fst (Option.some.inj h)
      simp only [DataW.lit.injEq, Lit.int.injEq, true_and] at e
      have e3 := Int.neg_inj.1 e; have e2 : m = n := by exact_mod_cast e3
      rw [e2, hc.1, hc.2]
    · split at h
      · have e := congrArg Prod.fst (Option.some.inj h)
        simp only [DataW.lit.injEq, Lit.int.injEq, true_and] at e
        omega
      · cases h
  · have e := congrArg Prod.fst (Option.some.inj h)
    cases e
def partsD : DataW Unit := (((((((((.map [] : DataW Unit).put (runeL 98) (.lit (.int .i64 (63 : Nat)))).put (runeL 104) (.lit (.int .i64 (65 : Nat)))).put (runeL 111) (.lit (.int .i64 (67 : Nat)))).put (runeL 112) (.lit (.int .i64 (68 : Nat)))).put (runeL 103) (.lit (.int .i64 (70 : Nat)))).put (runeL 110) (.lit (.int .i64 (72 : Nat)))).put (runeL 109) (.lit (.int .i64 (73 : Nat)))).put (runeL 116) (.lit (.int .i64 (-(74 : Nat)))))
set_option maxRecDepth 100000 in
set_option maxHeartbeats 1600000 in
theorem parts_any (w : World) : Calls Tryz.prog 39 #[] w fun e w' => e = .returned (.map (some (w.heap.size + 1))) ∧ w'.ownsMap Tryz.prog 21 (funElemP w.heap.size) (w.heap.size + 1) 8 partsD ∧ w'.cell? ⟨w.heap.size, 0, none⟩ = some oneV ∧ Below w.heap.size w w' := by
  have hmm := @run_makeMap Tryz.prog
  have hmk := mkFun
  go_enter Tryz.func39, Tryz.ntmps39
  go_upto_region 1 with fail
  go_upto_region 1 with fail
  go_step
  iterate 3 (first | go_values | go_skip | go_guarded | go_step | go_upon)
  have hm := Arr.made w 94 [.nilFunc]
  have hb := (Below.refl w.heap.size w).alloc (Nat.le_refl _) (.cells #[.nilFunc] 94)
  have hs := Below.heap_alloc w (.cells #[.nilFunc] 94)
  have hsz : (w.alloc (.cells #[.nilFunc] 94)).heap.size = w.heap.size + 1 := World.size_alloc _ _
  have HM := Lib.hid (show Arr (w.alloc (.cells #[.nilFunc] 94)) w.heap.size 94 [.nilFunc] from hm)
  have HB := Lib.hid hb
  have HS := Lib.hid hsz
  clear hm hb hs hsz
  generalize World.alloc _ _ = w0 at *
  have hf := HM.out.frozen 0
  have hc := HM.out.cell 0
  dsimp only [List.getElem?_cons_zero] at hc
  go_upto_region 2 with fail
  clear hf hc
  have HX := Lib.hid (show (w0.setCell ⟨w.heap.size, 0, none⟩ (.func (.func 62) #[] #[])).cell? ⟨w.heap.size, 0, none⟩ = some oneV from (HM.out.set 0 (.func (.func 62) #[] #[])).cell 0)
  have HB1 := Lib.hid (HB.out.setCell (p := ⟨w.heap.size, 0, none⟩) (Nat.le_refl _) (.func (.func 62) #[] #[]))
  have HS1 := Lib.hid (show (w0.setCell ⟨w.heap.size, 0, none⟩ (.func (.func 62) #[] #[])).heap.size = w.heap.size + 1 by rw [← HS.out]; exact World.size_setCell _ _ _)
  clear HM HB HS
  generalize World.setCell _ _ _ = w1 at *
  have HO0 := Lib.hid (World.ownsMap_made (H := Unit) w1 Tryz.prog 21 (funElemP w.heap.size))
  have HB0 := Lib.hid ((Below.refl w1.heap.size w1).alloc (Nat.le_refl _) (.map #[] 0))
  obtain ⟨q, hq⟩ : ∃ q, w.heap.size = q := ⟨_, rfl⟩
  have HQ := Lib.hid hq
  obtain ⟨g, hg⟩ : ∃ g, w1.heap.size = g := ⟨_, rfl⟩
  have HZ0 := Lib.hid (show g ≤ (w1.alloc (.map #[] 0)).heap.size by rw [← hg]; exact HB0.out.size)
  rw [hq, hg] at HO0
  rw [hg] at HS1 HB0
  rw [hq] at HS1 HX
  have HG := Lib.hid hg
  go_step
  iterate 3 (first | go_values | go_skip | go_guarded | go_step | go_upon)
  clear hmm hg
  generalize World.alloc _ _ = w2 at *
  rw [hq]
  clear hq
  have HO := HO0
  have HB := HB0
  have HZ := HZ0
  clear HO0 HB0 HZ0
  iterate 3 (first | go_values | go_skip | go_guarded | go_step | go_upon)
  refine wpList_insert_own _ rfl _ _ _ 77 rfl 21 76 runeKeyed Tryz.underlying77 (funElemP q) g 0 _ rfl HO.out (by unfold maxLen; omega) _ _ _ rfl rfl (key_rune 98 (by decide)) _ [] (funElemP_mk1 q 63) ?_
  intro w3 ho hg
  have HO1 := Lib.hid ho
  have HB2 := Lib.hid (HB.out.grown hg HZ.out (fun k hk => by cases hk; exact Nat.le_refl _))
  have HZ1 := Lib.hid (Nat.le_trans HZ.out hg.size)
  clear ho hg HO HB HZ
  have HO := HO1
  have HB := HB2
  have HZ := HZ1
  clear HO1 HB2 HZ1
  iterate 3 (first | go_values | go_skip | go_guarded | go_step | go_upon)
  refine wpList_insert_own _ rfl _ _ _ 77 rfl 21 76 runeKeyed Tryz.underlying77 (funElemP q) g 1 _ rfl HO.out (by unfold maxLen; omega) _ _ _ rfl rfl (key_rune 104 (by decide)) _ [] (funElemP_mk1 q 65) ?_
  intro w3 ho hg
  have HO1 := Lib.hid ho
  have HB2 := Lib.hid (HB.out.grown hg HZ.out (fun k hk => by cases hk; exact Nat.le_refl _))
  have HZ1 := Lib.hid (Nat.le_trans HZ.out hg.size)
  clear ho hg HO HB HZ
  have HO := HO1
  have HB := HB2
  have HZ := HZ1
  clear HO1 HB2 HZ1
  iterate 3 (first | go_values | go_skip | go_guarded | go_step | go_upon)
  refine wpList_insert_own _ rfl _ _ _ 77 rfl 21 76 runeKeyed Tryz.underlying77 (funElemP q) g 2 _ rfl HO.out (by unfold maxLen; omega) _ _ _ rfl rfl (key_rune 111 (by decide)) _ [] (funElemP_mk1 q 67) ?_
  intro w3 ho hg
  have HO1 := Lib.hid ho
  have HB2 := Lib.hid (HB.out.grown hg HZ.out (fun k hk => by cases hk; exact Nat.le_refl _))
  have HZ1 := Lib.hid (Nat.le_trans HZ.out hg.size)
  clear ho hg HO HB HZ
  have HO := HO1
  have HB := HB2
  have HZ := HZ1
  clear HO1 HB2 HZ1
  iterate 3 (first | go_values | go_skip | go_guarded | go_step | go_upon)
  refine wpList_insert_own _ rfl _ _ _ 77 rfl 21 76 runeKeyed Tryz.underlying77 (funElemP q) g 3 _ rfl HO.out (by unfold maxLen; omega) _ _ _ rfl rfl (key_rune 112 (by decide)) _ [] (funElemP_mk1 q 68) ?_
  intro w3 ho hg
  have HO1 := Lib.hid ho
  have HB2 := Lib.hid (HB.out.grown hg HZ.out (fun k hk => by cases hk; exact Nat.le_refl _))
  have HZ1 := Lib.hid (Nat.le_trans HZ.out hg.size)
  clear ho hg HO HB HZ
  have HO := HO1
  have HB := HB2
  have HZ := HZ1
  clear HO1 HB2 HZ1
  iterate 3 (first | go_values | go_skip | go_guarded | go_step | go_upon)
  refine wpList_insert_own _ rfl _ _ _ 77 rfl 21 76 runeKeyed Tryz.underlying77 (funElemP q) g 4 _ rfl HO.out (by unfold maxLen; omega) _ _ _ rfl rfl (key_rune 103 (by decide)) _ [] (funElemP_mk1 q 70) ?_
  intro w3 ho hg
  have HO1 := Lib.hid ho
  have HB2 := Lib.hid (HB.out.grown hg HZ.out (fun k hk => by cases hk; exact Nat.le_refl _))
  have HZ1 := Lib.hid (Nat.le_trans HZ.out hg.size)
  clear ho hg HO HB HZ
  have HO := HO1
  have HB := HB2
  have HZ := HZ1
  clear HO1 HB2 HZ1
  iterate 3 (first | go_values | go_skip | go_guarded | go_step | go_upon)
  refine wpList_insert_own _ rfl _ _ _ 77 rfl 21 76 runeKeyed Tryz.underlying77 (funElemP q) g 5 _ rfl HO.out (by unfold maxLen; omega) _ _ _ rfl rfl (key_rune 110 (by decide)) _ [] (funElemP_mk1 q 72) ?_
  intro w3 ho hg
  have HO1 := Lib.hid ho
  have HB2 := Lib.hid (HB.out.grown hg HZ.out (fun k hk => by cases hk; exact Nat.le_refl _))
  have HZ1 := Lib.hid (Nat.le_trans HZ.out hg.size)
  clear ho hg HO HB HZ
  have HO := HO1
  have HB := HB2
  have HZ := HZ1
  clear HO1 HB2 HZ1
  iterate 3 (first | go_values | go_skip | go_guarded | go_step | go_upon)
  refine wpList_insert_own _ rfl _ _ _ 77 rfl 21 76 runeKeyed Tryz.underlying77 (funElemP q) g 6 _ rfl HO.out (by unfold maxLen; omega) _ _ _ rfl rfl (key_rune 109 (by decide)) _ [] (funElemP_mk1 q 73) ?_
  intro w3 ho hg
  have HO1 := Lib.hid ho
  have HB2 := Lib.hid (HB.out.grown hg HZ.out (fun k hk => by cases hk; exact Nat.le_refl _))
  have HZ1 := Lib.hid (Nat.le_trans HZ.out hg.size)
  clear ho hg HO HB HZ
  have HO := HO1
  have HB := HB2
  have HZ := HZ1
  clear HO1 HB2 HZ1
  refine wpList_insert_own _ rfl _ _ _ 77 rfl 21 76 runeKeyed Tryz.underlying77 (funElemP q) g 7 _ rfl HO.out (by unfold maxLen; omega) _ _ _ rfl rfl (key_rune 116 (by decide)) _ [] (funElemP_mk0 q 74) ?_
  intro w3 ho hg
  have HO1 := Lib.hid ho
  have HB2 := Lib.hid (HB.out.grown hg HZ.out (fun k hk => by cases hk; exact Nat.le_refl _))
  have HZ1 := Lib.hid (Nat.le_trans HZ.out hg.size)
  clear ho hg HO HB HZ
  have HO := HO1
  have HB := HB2
  have HZ := HZ1
  clear HO1 HB2 HZ1
  clear hmk
  go_wp2
  go_ret
  rw [HQ.out]
  refine ⟨?_, ?_, ?_, ?_⟩
  · rw [← HS1.out, ← HG.out]; rfl
  · rw [← HS1.out]; exact HO.out
  · rw [← HX.out]; exact HB.out.cell (by show q < g; rw [HS1.out]; exact Nat.lt_succ_self q)
  · have h1 := HB1.out
    rw [HQ.out] at h1
    exact h1.trans (HB.out.mono (by rw [HS1.out]; exact Nat.le_succ q))
theorem parts_at_b {w : World} {q g : Nat} (h : w.ownsMap Tryz.prog 21 (funElemP q) g 8 partsD) : (Instr.lookup 77 (.map (some g)) (.int .i32 98) false).run Tryz.prog w = .ok (.func (.func 63) #[] #[.pointer (some ⟨q, 0, none⟩)]) w := by
  obtain ⟨v, ps, hr, hv⟩ := h.lookup runeKeyed Tryz.underlying77 (Tryz.zeroValue76 w) (zd := .nil) (zp := []) rfl (key_rune 98 (by decide))
  rw [show partsD.atKey (runeL 98) .nil = (.lit (.int .i64 (63 : Nat))) by rfl] at hv
  rw [funElemP_inv1 (by decide) hv] at hr
  exact hr
theorem parts_at_h {w : World} {q g : Nat} (h : w.ownsMap Tryz.prog 21 (funElemP q) g 8 partsD) : (Instr.lookup 77 (.map (some g)) (.int .i32 104) false).run Tryz.prog w = .ok (.func (.func 65) #[] #[.pointer (some ⟨q, 0, none⟩)]) w := by
  obtain ⟨v, ps, hr, hv⟩ := h.lookup runeKeyed Tryz.underlying77 (Tryz.zeroValue76 w) (zd := .nil) (zp := []) rfl (key_rune 104 (by decide))
  rw [show partsD.atKey (runeL 104) .nil = (.lit (.int .i64 (65 : Nat))) by rfl] at hv
  rw [funElemP_inv1 (by decide) hv] at hr
  exact hr
theorem parts_at_o {w : World} {q g : Nat} (h : w.ownsMap Tryz.prog 21 (funElemP q) g 8 partsD) : (Instr.lookup 77 (.map (some g)) (.int .i32 111) false).run Tryz.prog w = .ok (.func (.func 67) #[] #[.pointer (some ⟨q, 0, none⟩)]) w := by
  obtain ⟨v, ps, hr, hv⟩ := h.lookup runeKeyed Tryz.underlying77 (Tryz.zeroValue76 w) (zd := .nil) (zp := []) rfl (key_rune 111 (by decide))
  rw [show partsD.atKey (runeL 111) .nil = (.lit (.int .i64 (67 : Nat))) by rfl] at hv
  rw [funElemP_inv1 (by decide) hv] at hr
  exact hr
theorem parts_at_p {w : World} {q g : Nat} (h : w.ownsMap Tryz.prog 21 (funElemP q) g 8 partsD) : (Instr.lookup 77 (.map (some g)) (.int .i32 112) false).run Tryz.prog w = .ok (.func (.func 68) #[] #[.pointer (some ⟨q, 0, none⟩)]) w := by
  obtain ⟨v, ps, hr, hv⟩ := h.lookup runeKeyed Tryz.underlying77 (Tryz.zeroValue76 w) (zd := .nil) (zp := []) rfl (key_rune 112 (by decide))
  rw [show partsD.atKey (runeL 112) .nil = (.lit (.int .i64 (68 : Nat))) by rfl] at hv
  rw [funElemP_inv1 (by decide) hv] at hr
  exact hr
theorem parts_at_g {w : World} {q g : Nat} (h : w.ownsMap Tryz.prog 21 (funElemP q) g 8 partsD) : (Instr.lookup 77 (.map (some g)) (.int .i32 103) false).run Tryz.prog w = .ok (.func (.func 70) #[] #[.pointer (some ⟨q, 0, none⟩)]) w := by
  obtain ⟨v, ps, hr, hv⟩ := h.lookup runeKeyed Tryz.underlying77 (Tryz.zeroValue76 w) (zd := .nil) (zp := []) rfl (key_rune 103 (by decide))
  rw [show partsD.atKey (runeL 103) .nil = (.lit (.int .i64 (70 : Nat))) by rfl] at hv
  rw [funElemP_inv1 (by decide) hv] at hr
  exact hr
theorem parts_at_n {w : World} {q g : Nat} (h : w.ownsMap Tryz.prog 21 (funElemP q) g 8 partsD) : (Instr.lookup 77 (.map (some g)) (.int .i32 110) false).run Tryz.prog w = .ok (.func (.func 72) #[] #[.pointer (some ⟨q, 0, none⟩)]) w := by
  obtain ⟨v, ps, hr, hv⟩ := h.lookup runeKeyed Tryz.underlying77 (Tryz.zeroValue76 w) (zd := .nil) (zp := []) rfl (key_rune 110 (by decide))
  rw [show partsD.atKey (runeL 110) .nil = (.lit (.int .i64 (72 : Nat))) by rfl] at hv
  rw [funElemP_inv1 (by decide) hv] at hr
  exact hr
theorem parts_at_m {w : World} {q g : Nat} (h : w.ownsMap Tryz.prog 21 (funElemP q) g 8 partsD) : (Instr.lookup 77 (.map (some g)) (.int .i32 109) false).run Tryz.prog w = .ok (.func (.func 73) #[] #[.pointer (some ⟨q, 0, none⟩)]) w := by
  obtain ⟨v, ps, hr, hv⟩ := h.lookup runeKeyed Tryz.underlying77 (Tryz.zeroValue76 w) (zd := .nil) (zp := []) rfl (key_rune 109 (by decide))
  rw [show partsD.atKey (runeL 109) .nil = (.lit (.int .i64 (73 : Nat))) by rfl] at hv
  rw [funElemP_inv1 (by decide) hv] at hr
  exact hr
theorem parts_at_t {w : World} {q g : Nat} (h : w.ownsMap Tryz.prog 21 (funElemP q) g 8 partsD) : (Instr.lookup 77 (.map (some g)) (.int .i32 116) false).run Tryz.prog w = .ok (.func (.func 74) #[] #[]) w := by
  obtain ⟨v, ps, hr, hv⟩ := h.lookup runeKeyed Tryz.underlying77 (Tryz.zeroValue76 w) (zd := .nil) (zp := []) rfl (key_rune 116 (by decide))
  rw [show partsD.atKey (runeL 116) .nil = (.lit (.int .i64 (-(74 : Nat)))) by rfl] at hv
  rw [funElemP_inv0 (by decide) hv] at hr
  exact hr
end Go.Proofs.YtnohfondkcbdnaaGreatDoor
/- An act's text: laws for script.actText. -/
namespace Go.Proofs.YtnohfondkcbdnaaGreatDoor
open Go.RowKit Go.Lib
set_option linter.unusedVariables false
set_option linter.unusedSimpArgs false

/-- append of a row of strings, as one operation of a drawn region. -/
theorem wp_appStrq {P : Program} {o : Oper} {a : Act} {K : Act → World → Prop} {Q : Exit → Act → World → Prop} {W : World} (base : Nat) (s x : Operand) (t e : TypeId)
    (ho : o.op = .call { callee := .builtin .append, args := #[s, x], argTypes := #[t, t] })
    (ht : P.underlying t = some (.slice e)) (hinfo : (P.info? e).map (fun i => (i.zero, i.size, i.bytes)) = some (some (.string ⟨#[]⟩), 1, 16))
    (v y : Value) (X L Z : List ByteArray) (hZ : X ++ L = Z) (hs : a.eval s = v) (hx : a.eval x = y)
    (HO : W.ownsRow base e 1 v X.length (strsC X)) (HY : StrsIs W y L) (hbase : base ≤ W.heap.size) (hl : X.length + L.length ≤ 2000000)
    (h : ∀ v1 w1, Hid (w1.ownsRow base e 1 v1 Z.length (strsC Z)) → Hid (∀ B w0, Below B w0 W → B ≤ base → Below B w0 w1) → Hid (W.grownBy w1 v.ownBlock) → K (a.put o.dst v1) w1) :
    o.wp P a W K Q := by
  subst hZ
  obtain ⟨i0, hi, hzz⟩ := Option.map_eq_some_iff.1 hinfo
  simp only [Prod.mk.injEq] at hzz
  obtain ⟨hz0, hz1, hz2⟩ := hzz
  rcases HY with ⟨rfl, rfl⟩ | ⟨b, off, c, rfl, _, _, hcell⟩
  · have hrun := run_append_owned_none (P := P) (w := W) base t o.type e i0 1 ht hi v X.length (strsC X) HO
    unfold Oper.wp
    simp [execOp, ho, resolve, invoke, builtin, hs, hx, hrun, Result.andThen]
    exact h v W (by show World.ownsRow _ _ _ _ _ _ _; simpa using HO) (fun B w0 hB _ => hB) ⟨rfl, rfl, rfl, Nat.le_refl _, fun _ _ _ => rfl⟩
  · obtain ⟨v', w', hr, h2, h3, h4, h5⟩ := run_append_own_at (P := P) W base t o.type e i0 (.string ⟨#[]⟩) 1 16 ht hi hz0 hz1 hz2 rfl (by omega) v X.length (strsC X) HO ⟨b, off, none⟩ L.length c (strsC L) (by simp [strsC])
      (strs_cell hcell) (fun u hu => by obtain ⟨z, _, rfl⟩ := List.mem_map.1 hu; rfl) (by unfold maxLen; omega) (by omega) hbase
    unfold Oper.wp execOp
    simp only [ho, resolve, invoke, builtin, Sem.run_bind, Sem.run_pure, Result.andThen_ok, List.map_toArray, List.map_cons, List.map_nil, hs, hx, hr]
    exact h v' w' (by show World.ownsRow _ _ _ _ _ _ _; rw [strsC_app, List.length_append]; exact h2) (fun B w0 hB hbb => hB.grown h3 (by omega) (fun k hk => Nat.le_trans hbb (HO.lt k hk).1)) h3
theorem next_all {P : Program} (w : World) (r : Nat) (s : ByteArray) (pos c : Nat) (ty : TypeId) (h : w.heap[r]? = some (.stringIter s pos)) (hc : (runesOf s)[pos]? = some c) (ha : c < 128) :
    ∃ w', (Instr.next (.pointer (some ⟨r, 0, none⟩)) true ty).run P w = .ok (.tuple #[.bool true, .int .i64 pos, .int .i32 (c : Int)]) w' ∧ w'.heap[r]? = some (.stringIter s (pos + 1)) ∧ Below r w w' ∧ (∀ k, k ≠ r → w'.heap[k]? = w.heap[k]?) ∧ w'.heap.size = w.heap.size := by
  have hp : pos < s.size := by
    have := (List.getElem?_eq_some_iff.1 hc).1
    simpa [runesOf] using this
  have hcc : (s[pos]'hp).toNat = c := by
    have h2 := (List.getElem?_eq_some_iff.1 hc).2
    simp only [runesOf, List.getElem_map] at h2
    rw [← h2]; rfl
  have hr := (Array.getElem?_eq_some_iff.1 h).1
  refine ⟨{ w with heap := w.heap.setIfInBounds r (.stringIter s (pos + 1)) }, ?_, ?_, ?_, ?_, ?_⟩
  · simp only [Instr.next, getObj, setObj, Sem.run_bind, Sem.run, h, Result.andThen, hp, if_true, decode_ascii s pos hp (by rw [hcc]; exact ha)]
    simp [goInt, Sem.run, h, hcc]
  · simp [hr]
  · exact ⟨rfl, rfl, rfl, by simp, fun j hj => by simp [Array.getElem?_setIfInBounds, show r ≠ j by omega]⟩
  · exact fun k hk => by simp [Array.getElem?_setIfInBounds, show r ≠ k from fun e => hk e.symm]
  · simp
theorem own_not_iter {w : World} {base : Nat} {e : TypeId} {size n r : Nat} {v : Value} {xs : List Value} {s : ByteArray} {k : Nat} (h : w.ownsRow base e size v n xs) (hr : w.heap[r]? = some (.stringIter s k)) : v.ownBlock ≠ some r := by
  rcases h.2 with ⟨rfl, _⟩ | ⟨g, cap, cur, rfl, _, hg, _⟩
  · simp [Value.ownBlock]
  · intro e
    simp only [Value.ownBlock, Option.some.injEq] at e
    rw [e, hr] at hg
    cases hg
theorem own_same {w w' : World} {base : Nat} {e : TypeId} {size n : Nat} {v : Value} {xs : List Value} (h : w.ownsRow base e size v n xs) (hs : ∀ k, v.ownBlock = some k → w'.heap[k]? = w.heap[k]?) : w'.ownsRow base e size v n xs := by
  refine ⟨h.1, h.2.imp id ?_⟩
  rintro ⟨g, cap, cur, rfl, h2, h3, h4⟩
  exact ⟨g, cap, cur, rfl, h2, by rw [hs g rfl]; exact h3, h4⟩
/-- The texts of a word. -/
noncomputable def partF (a : ActM) (c : Nat) : List ByteArray := match c with
  | 98 => [strL (digF a.B)]
  | 104 => [strL (hexF a.lock)]
  | 111 => [decB a.nonce]
  | 112 => [listB a.P]
  | 103 => [qualB a.bad]
  | 110 => [itoaB a.n]
  | 109 => [itoaB a.m]
  | 116 => a.T.map txB
  | _ => []
theorem strL_size (L : List Nat) : (strL L).size = L.length := by
  show (L.map UInt8.ofNat).toArray.size = _
  rw [List.size_toArray, List.length_map]
theorem decB_size (u : Nat) (h : u ≤ 18446744073709551615) : (decB u).size ≤ 20 := by
  show (Lib.decDigits u).toArray.size ≤ 20
  rw [List.size_toArray, Lib.decDigits_length]
  exact Lib.nDigits_le20 u (by omega)
theorem listB_size (P : List Int) (h : ∀ z ∈ P, -9223372036854775808 ≤ z ∧ z ≤ 9223372036854775807) : (listB P).size ≤ P.length * 21 + P.length + 1 := by
  unfold listB
  split
  · show 1 ≤ _; omega
  · have := joinT_size (P.map itoaB) ⟨#[44]⟩ rfl 21 (fun y hy => by
      obtain ⟨z, hz, rfl⟩ := List.mem_map.1 hy
      exact itoaB_size z (h z hz))
    rw [List.length_map] at this
    omega
theorem part_sizes {w : World} {a : ActM} (ha : a.ok w) (hm : MayP a) (c : Nat) : (partF a c).length ≤ 20 ∧ ∀ x ∈ partF a c, x.size ≤ 3000000 := by
  have one : ∀ x : ByteArray, x.size ≤ 3000000 → ([x] : List ByteArray).length ≤ 20 ∧ ∀ y ∈ ([x] : List ByteArray), y.size ≤ 3000000 := fun x hx => ⟨by simp, fun y hy => by
    obtain rfl := List.mem_singleton.1 hy
    exact hx⟩
  unfold partF
  split
  · exact one _ (by rw [strL_size]; have h1 := digF_len a.B; have h2 := hm.2.2.1; omega)
  · exact one _ (by rw [strL_size, hexF_len, ha.lock.1]; omega)
  · exact one _ (by have := decB_size a.nonce ha.nonce; omega)
  · exact one _ (by have := listB_size a.P ha.P.1; have := hm.2.2.2.1; omega)
  · exact one _ (by unfold qualB; split <;> decide)
  · exact one _ (by have := itoaB_size a.n ha.n; omega)
  · exact one _ (by have := itoaB_size a.m ha.m; omega)
  · refine ⟨by rw [List.length_map]; exact hm.2.2.2.2.1, fun x hx => ?_⟩
    obtain ⟨t, ht, rfl⟩ := List.mem_map.1 hx
    have h1 := hm.2.2.2.2.2.2 t ht
    have h2 := txB_size (ha.T.1 t ht) (check_form (of_decide_eq_true h1))
    omega
  · exact ⟨by simp, fun x hx => by cases hx⟩
noncomputable def wordsF (a : ActM) (s : ByteArray) (k : Nat) : List ByteArray := ((runesOf s).take k).flatMap (partF a)
theorem words_snoc (a : ActM) (s : ByteArray) (k c : Nat) (h : (runesOf s)[k]? = some c) : wordsF a s (k + 1) = wordsF a s k ++ partF a c := by
  unfold wordsF
  rw [List.take_add_one, h]; simp
theorem words_sizes {w : World} {a : ActM} (ha : a.ok w) (hm : MayP a) (s : ByteArray) (k : Nat) : (wordsF a s k).length ≤ k * 20 ∧ ∀ x ∈ wordsF a s k, x.size ≤ 3000000 := by
  refine ⟨?_, fun x hx => ?_⟩
  · unfold wordsF
    have h1 : ∀ l : List Nat, (l.flatMap (partF a)).length ≤ l.length * 20 := by
      intro l
      induction l with
      | nil => simp
      | cons c r ih =>
        have := (part_sizes ha hm c).1
        simp only [List.flatMap_cons, List.length_append, List.length_cons]
        omega
    have h2 := h1 ((runesOf s).take k)
    have h3 : ((runesOf s).take k).length ≤ k := by rw [List.length_take]; omega
    omega
  · unfold wordsF at hx
    obtain ⟨c, _, hx⟩ := List.mem_flatMap.1 hx
    exact (part_sizes ha hm c).2 x hx
/-- The text of an act of this name and these words. -/
noncomputable def actTF (a : ActM) (nm s : ByteArray) : ByteArray := joinT (nm :: wordsF a s s.size) ⟨#[32]⟩
/-- What a kind's name and words are. -/
def NamedT (a : ActM) (nm s : ByteArray) : Prop :=
  (∀ w, Calls Tryz.prog 17 #[.int .i64 a.kind] w fun e w' => e = .returned (.agg [Value.string nm, .string s].toArray) ∧ Below w.heap.size w w') ∧ (∀ c ∈ runesOf s, c ∈ wordR) ∧ s.size ≤ 10 ∧ nm.size ≤ 10
theorem namedT (a : ActM) (K : Nat) (hK : a.kind = (K : Int)) (h1 : 1 ≤ K) (h2 : K < 10) : NamedT a (nmB K) (wsB K) := by
  refine ⟨fun w => by rw [hK]; exact named_any K h1 h2 w, ?_⟩
  match K, h1, h2 with
  | 1, _, _ => exact ⟨by decide, by decide, by decide⟩
  | 2, _, _ => exact ⟨by decide, by decide, by decide⟩
  | 3, _, _ => exact ⟨by decide, by decide, by decide⟩
  | 4, _, _ => exact ⟨by decide, by decide, by decide⟩
  | 5, _, _ => exact ⟨by decide, by decide, by decide⟩
  | 6, _, _ => exact ⟨by decide, by decide, by decide⟩
  | 7, _, _ => exact ⟨by decide, by decide, by decide⟩
  | 8, _, _ => exact ⟨by decide, by decide, by decide⟩
  | 9, _, _ => exact ⟨by decide, by decide, by decide⟩
end Go.Proofs.YtnohfondkcbdnaaGreatDoor
/- plexusref29.Names; joined texts as sums. -/
namespace Go.Proofs.YtnohfondkcbdnaaGreatDoor
open Go.RowKit Go.Lib
set_option linter.unusedVariables false
set_option linter.unusedSimpArgs false
attribute [local go_sem ↓] Go.wp_at_zero Go.wp_at_succ

def SP : ByteArray := ⟨#[32]⟩
theorem joinT_fold (sep : ByteArray) : ∀ (r : List ByteArray) (x : ByteArray), joinT (x :: r) sep = r.foldl (fun s y => s ++ sep ++ y) x := by
  intro r
  induction r with
  | nil =>
    intro x
    refine ba_ext ?_
    rw [joinT_data]
    show Lib.join [_] _ = _
    rw [Lib.join_one]; rfl
  | cons y r ih =>
    intro x
    rw [List.foldl_cons, ← ih]
    refine ba_ext ?_
    rw [joinT_data, joinT_data, List.map_cons, List.map_cons, List.map_cons, Lib.join_cons, Lib.join_cons, ba_app, ba_app]
    simp [Lib.joinTail]
theorem txs_fold (T : List TxM) (S : ByteArray) : (T.map txB).foldl (fun s y => s ++ SP ++ y) S = T.foldl (fun s t => s ++ SP ++ txB t) S := by
  rw [List.foldl_map]
theorem words1 (a : ActM) : wordsF a (wsB 1) (wsB 1).size = [strL (digF a.B)] := by rfl
theorem sum1 (a : ActM) (N : ByteArray) (hN : nmB 1 = N) : actTF a (nmB 1) (wsB 1) = N ++ SP ++ strL (digF a.B) := by
  unfold actTF
  rw [words1, hN, joinT_fold]
  rfl
theorem words2 (a : ActM) : wordsF a (wsB 2) (wsB 2).size = [strL (digF a.B)] := by rfl
theorem sum2 (a : ActM) (N : ByteArray) (hN : nmB 2 = N) : actTF a (nmB 2) (wsB 2) = N ++ SP ++ strL (digF a.B) := by
  unfold actTF
  rw [words2, hN, joinT_fold]
  rfl
theorem words3 (a : ActM) : wordsF a (wsB 3) (wsB 3).size = [strL (hexF a.lock), decB a.nonce] := by rfl
theorem sum3 (a : ActM) (N : ByteArray) (hN : nmB 3 = N) : actTF a (nmB 3) (wsB 3) = N ++ SP ++ strL (hexF a.lock) ++ SP ++ decB a.nonce := by
  unfold actTF
  rw [words3, hN, joinT_fold]
  rfl
theorem words4 (a : ActM) : wordsF a (wsB 4) (wsB 4).size = ([listB a.P, strL (hexF a.lock), decB a.nonce, qualB a.bad] ++ a.T.map txB) := by
  show ([112, 104, 111, 103, 116] : List Nat).flatMap (partF a) = _
  show [listB a.P] ++ ([strL (hexF a.lock)] ++ ([decB a.nonce] ++ ([qualB a.bad] ++ (a.T.map txB ++ [])))) = _
  rw [List.append_nil]; rfl
theorem sum4 (a : ActM) (N : ByteArray) (hN : nmB 4 = N) : actTF a (nmB 4) (wsB 4) = a.T.foldl (fun s t => s ++ SP ++ txB t) (N ++ SP ++ listB a.P ++ SP ++ strL (hexF a.lock) ++ SP ++ decB a.nonce ++ SP ++ qualB a.bad) := by
  unfold actTF
  rw [words4, hN, joinT_fold]
  rw [List.foldl_append]
  exact txs_fold _ _
theorem words5 (a : ActM) : wordsF a (wsB 5) (wsB 5).size = [itoaB a.n] := by rfl
theorem sum5 (a : ActM) (N : ByteArray) (hN : nmB 5 = N) : actTF a (nmB 5) (wsB 5) = N ++ SP ++ itoaB a.n := by
  unfold actTF
  rw [words5, hN, joinT_fold]
  rfl
theorem words6 (a : ActM) : wordsF a (wsB 6) (wsB 6).size = [itoaB a.n] := by rfl
theorem sum6 (a : ActM) (N : ByteArray) (hN : nmB 6 = N) : actTF a (nmB 6) (wsB 6) = N ++ SP ++ itoaB a.n := by
  unfold actTF
  rw [words6, hN, joinT_fold]
  rfl
theorem words7 (a : ActM) : wordsF a (wsB 7) (wsB 7).size = [itoaB a.n, itoaB a.m] := by rfl
theorem sum7 (a : ActM) (N : ByteArray) (hN : nmB 7 = N) : actTF a (nmB 7) (wsB 7) = N ++ SP ++ itoaB a.n ++ SP ++ itoaB a.m := by
  unfold actTF
  rw [words7, hN, joinT_fold]
  rfl
theorem words8 (a : ActM) : wordsF a (wsB 8) (wsB 8).size = [] := by rfl
theorem sum8 (a : ActM) (N : ByteArray) (hN : nmB 8 = N) : actTF a (nmB 8) (wsB 8) = N := by
  unfold actTF
  rw [words8, hN, joinT_fold]
  rfl
theorem words9 (a : ActM) : wordsF a (wsB 9) (wsB 9).size = [itoaB a.n, itoaB a.m] := by rfl
theorem sum9 (a : ActM) (N : ByteArray) (hN : nmB 9 = N) : actTF a (nmB 9) (wsB 9) = N ++ SP ++ itoaB a.n ++ SP ++ itoaB a.m := by
  unfold actTF
  rw [words9, hN, joinT_fold]
  rfl
def rnamesC : List Value := [.string (nmB 0), .string (nmB 1), .string (nmB 2), .string (nmB 3), .string (nmB 4), .string (nmB 5), .string (nmB 6), .string (nmB 7), .string (nmB 8), .string (nmB 9)]
set_option maxRecDepth 100000 in
theorem rnames_any (w : World) : Calls Tryz.prog 33 #[] w fun e w' => ∃ g, e = .returned (.slice (some ⟨g, 0, none⟩) 10 10) ∧ w.heap.size ≤ g ∧ Arr w' g 9 rnamesC ∧ Below w.heap.size w w' := by
  go_enter Tryz.func33, Tryz.ntmps33
  go_wp2
  go_ret
  exact ⟨w.heap.size, rfl, Nat.le_refl _, Arr.made w 9 rnamesC, (Below.refl _ _).alloc (Nat.le_refl _) _⟩
end Go.Proofs.YtnohfondkcbdnaaGreatDoor
