/- script.names and script.named. -/
import Derived.Test.YtnohfondkcbdnaaGreatDoorG15
import Derived.Maps.OwnSet
namespace Go.Proofs.YtnohfondkcbdnaaGreatDoor
open Go.RowKit Go.Lib
set_option linter.unusedVariables false
set_option linter.unusedSimpArgs false
attribute [local go_sem ↓] Go.wp_at_zero Go.wp_at_succ

/-- The names, and which words each has. -/
def nmB : Nat → ByteArray
  | 1 => ⟨#[98, 108, 111, 99, 107]⟩
  | 2 => ⟨#[116, 120]⟩
  | 3 => ⟨#[110, 101, 120, 116]⟩
  | 4 => ⟨#[109, 97, 107, 101]⟩
  | 5 => ⟨#[103, 105, 118, 101]⟩
  | 6 => ⟨#[102, 117, 115, 101]⟩
  | 7 => ⟨#[99, 114, 97, 115, 104]⟩
  | 8 => ⟨#[116, 117, 114, 110]⟩
  | 9 => ⟨#[101, 100, 105, 116]⟩
  | _ => ⟨#[]⟩
def wsB : Nat → ByteArray
  | 1 => ⟨#[98]⟩
  | 2 => ⟨#[98]⟩
  | 3 => ⟨#[104, 111]⟩
  | 4 => ⟨#[112, 104, 111, 103, 116]⟩
  | 5 => ⟨#[110]⟩
  | 6 => ⟨#[110]⟩
  | 7 => ⟨#[110, 109]⟩
  | 8 => ⟨#[]⟩
  | 9 => ⟨#[110, 109]⟩
  | _ => ⟨#[]⟩
def nameC (k : Nat) : List Value := [.string (nmB k), .string (wsB k)]
def namesC : List Value := [.string ⟨#[]⟩, .string ⟨#[]⟩, .string ⟨#[98, 108, 111, 99, 107]⟩, .string ⟨#[98]⟩, .string ⟨#[116, 120]⟩, .string ⟨#[98]⟩, .string ⟨#[110, 101, 120, 116]⟩, .string ⟨#[104, 111]⟩, .string ⟨#[109, 97, 107, 101]⟩, .string ⟨#[112, 104, 111, 103, 116]⟩, .string ⟨#[103, 105, 118, 101]⟩, .string ⟨#[110]⟩, .string ⟨#[102, 117, 115, 101]⟩, .string ⟨#[110]⟩, .string ⟨#[99, 114, 97, 115, 104]⟩, .string ⟨#[110, 109]⟩, .string ⟨#[116, 117, 114, 110]⟩, .string ⟨#[]⟩, .string ⟨#[101, 100, 105, 116]⟩, .string ⟨#[110, 109]⟩]
theorem names_at (w : World) (g : Nat) (h : Arr w g 44 namesC) (k : Nat) (hk : k < 10) : w.rangeAt g (k * 2) (nameC k) := by
  intro j v hv
  rw [h.cell]
  match k, hk with
  | 0, _ =>
    match j, hv with
    | 0, hv => exact hv
    | 1, hv => exact hv
    | j + 2, hv => cases hv
  | 1, _ =>
    match j, hv with
    | 0, hv => exact hv
    | 1, hv => exact hv
    | j + 2, hv => cases hv
  | 2, _ =>
    match j, hv with
    | 0, hv => exact hv
    | 1, hv => exact hv
    | j + 2, hv => cases hv
  | 3, _ =>
    match j, hv with
    | 0, hv => exact hv
    | 1, hv => exact hv
    | j + 2, hv => cases hv
  | 4, _ =>
    match j, hv with
    | 0, hv => exact hv
    | 1, hv => exact hv
    | j + 2, hv => cases hv
  | 5, _ =>
    match j, hv with
    | 0, hv => exact hv
    | 1, hv => exact hv
    | j + 2, hv => cases hv
  | 6, _ =>
    match j, hv with
    | 0, hv => exact hv
    | 1, hv => exact hv
    | j + 2, hv => cases hv
  | 7, _ =>
    match j, hv with
    | 0, hv => exact hv
    | 1, hv => exact hv
    | j + 2, hv => cases hv
  | 8, _ =>
    match j, hv with
    | 0, hv => exact hv
    | 1, hv => exact hv
    | j + 2, hv => cases hv
  | 9, _ =>
    match j, hv with
    | 0, hv => exact hv
    | 1, hv => exact hv
    | j + 2, hv => cases hv
theorem size_nm : (Tryz.prog.info? 44).map (·.size) = some 2 := by kernel_rfl
set_option maxRecDepth 100000 in
theorem names_any (w : World) : Calls Tryz.prog 41 #[] w fun e w' => ∃ g, e = .returned (.slice (some ⟨g, 0, none⟩) 10 10) ∧ w.heap.size ≤ g ∧ Arr w' g 44 namesC ∧ Below w.heap.size w w' := by
  go_enter Tryz.func41, Tryz.ntmps41
  go_wp2
  go_ret
  exact ⟨w.heap.size, rfl, Nat.le_refl _, Arr.made w 44 namesC, (Below.refl _ _).alloc (Nat.le_refl _) _⟩
set_option maxRecDepth 100000 in
set_option maxHeartbeats 1600000 in
theorem named_any (k : Nat) (h1 : 1 ≤ k) (h2 : k < 10) (w : World) : Calls Tryz.prog 17 #[.int .i64 (k : Int)] w fun e w' => e = .returned (.agg (nameC k).toArray) ∧ Below w.heap.size w w' := by
  have H2 := Lib.hid h2
  have q1 : ¬ ((k : Int) < 1) := by omega
  have q2 : ¬ ((k : Int) ≥ 10) := by omega
  have HC := Lib.hid (fun w => names_any w)
  clear h1
  go_enter Tryz.func17, Tryz.ntmps17
  go_upto_region 1 with fail
  have hm := Arr.made w 44 [.string ⟨#[]⟩, .string ⟨#[]⟩]
  have hb := (Below.refl w.heap.size w).alloc (Nat.le_refl _) (.cells [Value.string ⟨#[]⟩, .string ⟨#[]⟩].toArray 44)
  have HA := Lib.hid hm
  have HB := Lib.hid hb
  clear hm hb
  generalize World.alloc _ _ = w1 at *
  obtain ⟨g, hg⟩ : ∃ g, w.heap.size = g := ⟨_, rfl⟩
  rw [hg] at HA HB ⊢
  have HG := Lib.hid hg
  clear hg
  go_wp2_with fail
  refine (HC.out w1).mono ?_
  rintro e w2 ⟨g3, rfl, hg3, ha3, hb3⟩
  dsimp only
  have HN := Lib.hid ha3
  have HA2 := Lib.hid (HA.out.below hb3 HA.out.lt)
  have HB2 := Lib.hid (HB.out.trans (hb3.mono (Nat.le_of_lt HA.out.lt)))
  have HR := Lib.hid (names_at w2 g3 ha3 k h2)
  clear hg3 ha3 hb3 HA HB HC
  go_upto_region 4 with fail
  go_step
  iterate 9 (first | go_values | go_skip | go_guarded | go_step | go_upon)
  refine wpList_load_mid (P := Tryz.prog) rfl 44 _ rfl g3 (k * 2) rfl _ _ HR.out Tryz.underlying44 rfl size_nm ?_
  refine wpList_store_mid (P := Tryz.prog) rfl 44 _ _ rfl g 0 (nameC k).toArray rfl rfl (HA2.out.there 2 rfl) size_nm (by simp [nameC, Value.oneCell']) ?_
  have HF1 := Lib.hid (HA2.out.setAll (nameC k).toArray.toList rfl)
  have HF2 := Lib.hid (below_sets g (Nat.le_refl g) (nameC k).toArray.toList 0 HB2.out)
  generalize World.setCells _ _ _ _ = w4 at *
  clear HA2 HB2
  go_wp2
  refine bodyPost_ret (results_cell_row rfl _ _ g _ (nameC k).toArray _ _ rfl HF1.out Tryz.underlying44 rfl size_nm) rfl ?_
  exact ⟨rfl, by rw [HG.out]; exact HF2.out⟩
set_option maxRecDepth 100000 in
set_option maxHeartbeats 1600000 in
theorem named_none (k : Int) (h : k < 1 ∨ 10 ≤ k) (w : World) : Calls Tryz.prog 17 #[.int .i64 k] w fun e w' => e = .returned (.agg (nameC 0).toArray) ∧ Below w.heap.size w w' := by
  have HC := Lib.hid (fun w => names_any w)
  go_enter Tryz.func17, Tryz.ntmps17
  go_upto_region 1 with fail
  have hm := Arr.made w 44 [.string ⟨#[]⟩, .string ⟨#[]⟩]
  have hb := (Below.refl w.heap.size w).alloc (Nat.le_refl _) (.cells [Value.string ⟨#[]⟩, .string ⟨#[]⟩].toArray 44)
  have HA := Lib.hid hm
  have HB := Lib.hid hb
  clear hm hb
  generalize World.alloc _ _ = w1 at *
  obtain ⟨g, hg⟩ : ∃ g, w.heap.size = g := ⟨_, rfl⟩
  rw [hg] at HA HB ⊢
  have HG := Lib.hid hg
  clear hg
  go_wp2_with fail
  refine (HC.out w1).mono ?_
  rintro e w2 ⟨g3, rfl, hg3, ha3, hb3⟩
  dsimp only
  have HA2 := Lib.hid (HA.out.below hb3 HA.out.lt)
  have HB2 := Lib.hid (HB.out.trans (hb3.mono (Nat.le_of_lt HA.out.lt)))
  have hbu : ∀ w9, (Instr.build 44 #[]).run Tryz.prog w9 = .ok (.agg (nameC 0).toArray) w9 := fun w9 => by kernel_rfl
  clear hg3 ha3 hb3 HA HB HC
  by_cases h1 : k < 1
  · clear h
    go_upto_region 3 with fail
    go_step
    refine wpList_step (fun K9 hK9 => ?_)
    rw [if_pos (by kernel_rfl)]
    refine wp_build_run (P := Tryz.prog) 44 _ rfl #[] (by simp [Act.eval, Act.put]) _ (hbu _) ?_
    refine hK9 _ _ ?_
    clear hK9 K9
    dsimp only [Act.put]
    simp only [List.setIfInBounds_toArray, List.set_cons_zero, List.set_cons_succ]
    refine wpList_store_mid (P := Tryz.prog) rfl 44 _ _ rfl g 0 (nameC 0).toArray rfl rfl (HA2.out.there 2 rfl) size_nm (by simp [nameC, Value.oneCell']) ?_
    have HF1 := Lib.hid (HA2.out.setAll (nameC 0).toArray.toList rfl)
    have HF2 := Lib.hid (below_sets g (Nat.le_refl g) (nameC 0).toArray.toList 0 HB2.out)
    generalize World.setCells _ _ _ _ = w4 at *
    clear HA2 HB2
    go_wp2
    refine bodyPost_ret (results_cell_row rfl _ _ g _ (nameC 0).toArray _ _ rfl HF1.out Tryz.underlying44 rfl size_nm) rfl ?_
    exact ⟨rfl, by rw [HG.out]; exact HF2.out⟩
  · have h2 : k ≥ 10 := by omega
    clear h
    go_upto_region 3 with fail
    go_step
    refine wpList_step (fun K9 hK9 => ?_)
    rw [if_pos (by kernel_rfl)]
    refine wp_build_run (P := Tryz.prog) 44 _ rfl #[] (by simp [Act.eval, Act.put]) _ (hbu _) ?_
    refine hK9 _ _ ?_
    clear hK9 K9
    dsimp only [Act.put]
    simp only [List.setIfInBounds_toArray, List.set_cons_zero, List.set_cons_succ]
    refine wpList_store_mid (P := Tryz.prog) rfl 44 _ _ rfl g 0 (nameC 0).toArray rfl rfl (HA2.out.there 2 rfl) size_nm (by simp [nameC, Value.oneCell']) ?_
    have HF1 := Lib.hid (HA2.out.setAll (nameC 0).toArray.toList rfl)
    have HF2 := Lib.hid (below_sets g (Nat.le_refl g) (nameC 0).toArray.toList 0 HB2.out)
    generalize World.setCells _ _ _ _ = w4 at *
    clear HA2 HB2
    go_wp2
    refine bodyPost_ret (results_cell_row rfl _ _ g _ (nameC 0).toArray _ _ rfl HF1.out Tryz.underlying44 rfl size_nm) rfl ?_
    exact ⟨rfl, by rw [HG.out]; exact HF2.out⟩
end Go.Proofs.YtnohfondkcbdnaaGreatDoor
/- script.keep: the map of its closures. -/
namespace Go.Proofs.YtnohfondkcbdnaaGreatDoor
open Go.RowKit Go.Lib
open Go.Maps (Keyed)
set_option linter.unusedVariables false
set_option linter.unusedSimpArgs false
attribute [local go_sem ↓] Go.wp_at_zero Go.wp_at_succ

theorem wpList_insert_own {H : Type} {P : Program} (w : World) {ops : Array Oper} {rest : List Oper} {o : Oper} {a : Act} {Q : Exit → Act → World → Prop}
    (hg : o.guard = none) (m x v : Operand) (t : TypeId) (hop : o.op = Op.insert t m x v)
    (k e : TypeId) (K : Keyed P k) (ht : P.underlying t = some (.map k e)) (R : Value → Option (DataW H × List MemPlace)) (b n : Nat) (D : DataW H)
    (hm : a.eval m = .map (some b)) (hown : w.ownsMap P k R b n D) (hn : n < maxLen) (key val : Value) (kl : Lit) (hx : a.eval x = key) (hv : a.eval v = val) (hkey : keyOf P k key = some kl)
    (d : DataW H) (ps : List MemPlace) (hval : R val = some (d, ps))
    (hK : ∀ w', w'.ownsMap P k R b (n + 1) (D.put kl d) → w.grownBy w' (some b) → wpList P ops Q rest (a.put o.dst undef) w') :
    wpList P ops Q (o :: rest) a w := by
  refine wpList_plain hg fun K' hK' => ?_
  obtain ⟨w', hrun, r1, r2⟩ := hown.update K ht hn hkey hval
  unfold Oper.wp execOp
  simp [hop, hm, hx, hv, hrun, Result.andThen]
  exact hK' _ _ (hK w' r1 r2)
/-- How a closure without captures reads. -/
def funElem (v : Value) : Option (DataW Unit × List MemPlace) := match v with
  | .func (.func n) f c => if f = #[] ∧ c = #[] then some (.lit (.int .i64 (n : Int)), []) else none
  | _ => some (.nil, [])
theorem funElem_mk (n : Nat) : funElem (.func (.func n) #[] #[]) = some (.lit (.int .i64 (n : Int)), []) := rfl
theorem funElem_inv {v : Value} {n : Nat} {ps : List MemPlace} (h : funElem v = some (.lit (.int .i64 (n : Int)), ps)) : v = .func (.func n) #[] #[] := by
  unfold funElem at h
  split at h
  · rename_i m f c
    split at h
    · rename_i hc
      have e := congrArg Prod.fst (Option.some.inj h)
      simp only [DataW.lit.injEq, Lit.int.injEq, true_and] at e
      have e2 : m = n := by exact_mod_cast e
      rw [e2, hc.1, hc.2]
    · cases h
  · have e := congrArg Prod.fst (Option.some.inj h)
    cases e
theorem runeKeyed : Keyed Tryz.prog 21 := Maps.int_keyed Tryz.underlying21
def runeL (c : Int) : Lit := .int .i32 c
theorem key_rune (c : Int) (h : (Lit.int .i32 c).wf = true) : keyOf Tryz.prog 21 (.int .i32 c) = some (runeL c) := Maps.keyOf_int_mk Tryz.underlying21 h
def keepD : DataW Unit := (((((((((.map [] : DataW Unit).put (runeL 98) (.lit (.int .i64 (42 : Nat)))).put (runeL 104) (.lit (.int .i64 (43 : Nat)))).put (runeL 111) (.lit (.int .i64 (44 : Nat)))).put (runeL 112) (.lit (.int .i64 (45 : Nat)))).put (runeL 103) (.lit (.int .i64 (46 : Nat)))).put (runeL 110) (.lit (.int .i64 (47 : Nat)))).put (runeL 109) (.lit (.int .i64 (48 : Nat)))).put (runeL 116) (.lit (.int .i64 (49 : Nat))))
set_option maxRecDepth 100000 in
set_option maxHeartbeats 1600000 in
theorem keep_any (w : World) : Calls Tryz.prog 18 #[] w fun e w' => e = .returned (.map (some w.heap.size)) ∧ w'.ownsMap Tryz.prog 21 funElem w.heap.size 8 keepD ∧ Below w.heap.size w w' := by
  have hmm := @run_makeMap Tryz.prog
  go_enter Tryz.func18, Tryz.ntmps18
  go_upto_region 1 with fail
  have HO0 := Lib.hid (World.ownsMap_made (H := Unit) w Tryz.prog 21 funElem)
  have HB0 := Lib.hid ((Below.refl w.heap.size w).alloc (Nat.le_refl _) (.map #[] 0))
  obtain ⟨g, hg⟩ : ∃ g, w.heap.size = g := ⟨_, rfl⟩
  have HZ0 := Lib.hid (show g ≤ (w.alloc (.map #[] 0)).heap.size by rw [← hg]; exact HB0.out.size)
  rw [hg] at HO0
  have HG := Lib.hid hg
  go_step
  iterate 3 (first | go_values | go_skip | go_guarded | go_step | go_upon)
  clear hmm hg
  generalize World.alloc _ _ = w0 at *
  refine wpList_insert_own _ rfl _ _ _ 47 rfl 21 46 runeKeyed Tryz.underlying47 funElem g 0 _ rfl HO0.out (by unfold maxLen; omega) _ _ _ rfl rfl (key_rune 98 (by decide)) _ [] (funElem_mk 42) ?_
  intro w1 ho1 hg1
  have HO1 := Lib.hid ho1
  have HB1 := Lib.hid (HB0.out.grown hg1 (by rw [HG.out]; exact HZ0.out) (fun k hk => by cases hk; rw [HG.out]; exact Nat.le_refl _))
  have HZ1 := Lib.hid (Nat.le_trans HZ0.out hg1.size)
  clear ho1 hg1 HO0 HB0 HZ0
  refine wpList_insert_own _ rfl _ _ _ 47 rfl 21 46 runeKeyed Tryz.underlying47 funElem g 1 _ rfl HO1.out (by unfold maxLen; omega) _ _ _ rfl rfl (key_rune 104 (by decide)) _ [] (funElem_mk 43) ?_
  intro w2 ho2 hg2
  have HO2 := Lib.hid ho2
  have HB2 := Lib.hid (HB1.out.grown hg2 (by rw [HG.out]; exact HZ1.out) (fun k hk => by cases hk; rw [HG.out]; exact Nat.le_refl _))
  have HZ2 := Lib.hid (Nat.le_trans HZ1.out hg2.size)
  clear ho2 hg2 HO1 HB1 HZ1
  refine wpList_insert_own _ rfl _ _ _ 47 rfl 21 46 runeKeyed Tryz.underlying47 funElem g 2 _ rfl HO2.out (by unfold maxLen; omega) _ _ _ rfl rfl (key_rune 111 (by decide)) _ [] (funElem_mk 44) ?_
  intro w3 ho3 hg3
  have HO3 := Lib.hid ho3
  have HB3 := Lib.hid (HB2.out.grown hg3 (by rw [HG.out]; exact HZ2.out) (fun k hk => by cases hk; rw [HG.out]; exact Nat.le_refl _))
  have HZ3 := Lib.hid (Nat.le_trans HZ2.out hg3.size)
  clear ho3 hg3 HO2 HB2 HZ2
  refine wpList_insert_own _ rfl _ _ _ 47 rfl 21 46 runeKeyed Tryz.underlying47 funElem g 3 _ rfl HO3.out (by unfold maxLen; omega) _ _ _ rfl rfl (key_rune 112 (by decide)) _ [] (funElem_mk 45) ?_
  intro w4 ho4 hg4
  have HO4 := Lib.hid ho4
  have HB4 := Lib.hid (HB3.out.grown hg4 (by rw [HG.out]; exact HZ3.out) (fun k hk => by cases hk; rw [HG.out]; exact Nat.le_refl _))
  have HZ4 := Lib.hid (Nat.le_trans HZ3.out hg4.size)
  clear ho4 hg4 HO3 HB3 HZ3
  refine wpList_insert_own _ rfl _ _ _ 47 rfl 21 46 runeKeyed Tryz.underlying47 funElem g 4 _ rfl HO4.out (by unfold maxLen; omega) _ _ _ rfl rfl (key_rune 103 (by decide)) _ [] (funElem_mk 46) ?_
  intro w5 ho5 hg5
  have HO5 := Lib.hid ho5
  have HB5 := Lib.hid (HB4.out.grown hg5 (by rw [HG.out]; exact HZ4.out) (fun k hk => by cases hk; rw [HG.out]; exact Nat.le_refl _))
  have HZ5 := Lib.hid (Nat.le_trans HZ4.out hg5.size)
  clear ho5 hg5 HO4 HB4 HZ4
  refine wpList_insert_own _ rfl _ _ _ 47 rfl 21 46 runeKeyed Tryz.underlying47 funElem g 5 _ rfl HO5.out (by unfold maxLen; omega) _ _ _ rfl rfl (key_rune 110 (by decide)) _ [] (funElem_mk 47) ?_
  intro w6 ho6 hg6
  have HO6 := Lib.hid ho6
  have HB6 := Lib.hid (HB5.out.grown hg6 (by rw [HG.out]; exact HZ5.out) (fun k hk => by cases hk; rw [HG.out]; exact Nat.le_refl _))
  have HZ6 := Lib.hid (Nat.le_trans HZ5.out hg6.size)
  clear ho6 hg6 HO5 HB5 HZ5
  refine wpList_insert_own _ rfl _ _ _ 47 rfl 21 46 runeKeyed Tryz.underlying47 funElem g 6 _ rfl HO6.out (by unfold maxLen; omega) _ _ _ rfl rfl (key_rune 109 (by decide)) _ [] (funElem_mk 48) ?_
  intro w7 ho7 hg7
  have HO7 := Lib.hid ho7
  have HB7 := Lib.hid (HB6.out.grown hg7 (by rw [HG.out]; exact HZ6.out) (fun k hk => by cases hk; rw [HG.out]; exact Nat.le_refl _))
  have HZ7 := Lib.hid (Nat.le_trans HZ6.out hg7.size)
  clear ho7 hg7 HO6 HB6 HZ6
  refine wpList_insert_own _ rfl _ _ _ 47 rfl 21 46 runeKeyed Tryz.underlying47 funElem g 7 _ rfl HO7.out (by unfold maxLen; omega) _ _ _ rfl rfl (key_rune 116 (by decide)) _ [] (funElem_mk 49) ?_
  intro w8 ho8 hg8
  have HO8 := Lib.hid ho8
  have HB8 := Lib.hid (HB7.out.grown hg8 (by rw [HG.out]; exact HZ7.out) (fun k hk => by cases hk; rw [HG.out]; exact Nat.le_refl _))
  have HZ8 := Lib.hid (Nat.le_trans HZ7.out hg8.size)
  clear ho8 hg8 HO7 HB7 HZ7
  go_wp2
  go_ret
  refine ⟨?_, ?_, HB8.out⟩
  · rw [HG.out]; rfl
  · rw [HG.out]; exact HO8.out
theorem keep_at_b {w : World} {g : Nat} (h : w.ownsMap Tryz.prog 21 funElem g 8 keepD) : (Instr.lookup 47 (.map (some g)) (.int .i32 98) false).run Tryz.prog w = .ok (.func (.func 42) #[] #[]) w := by
  obtain ⟨v, ps, hr, hv⟩ := h.lookup runeKeyed Tryz.underlying47 (Tryz.zeroValue46 w) (zd := .nil) (zp := []) rfl (key_rune 98 (by decide))
  rw [show keepD.atKey (runeL 98) .nil = .lit (.int .i64 (42 : Nat)) by rfl] at hv
  rw [funElem_inv hv] at hr
  exact hr
theorem keep_at_h {w : World} {g : Nat} (h : w.ownsMap Tryz.prog 21 funElem g 8 keepD) : (Instr.lookup 47 (.map (some g)) (.int .i32 104) false).run Tryz.prog w = .ok (.func (.func 43) #[] #[]) w := by
  obtain ⟨v, ps, hr, hv⟩ := h.lookup runeKeyed Tryz.underlying47 (Tryz.zeroValue46 w) (zd := .nil) (zp := []) rfl (key_rune 104 (by decide))
  rw [show keepD.atKey (runeL 104) .nil = .lit (.int .i64 (43 : Nat)) by rfl] at hv
  rw [funElem_inv hv] at hr
  exact hr
theorem keep_at_o {w : World} {g : Nat} (h : w.ownsMap Tryz.prog 21 funElem g 8 keepD) : (Instr.lookup 47 (.map (some g)) (.int .i32 111) false).run Tryz.prog w = .ok (.func (.func 44) #[] #[]) w := by
  obtain ⟨v, ps, hr, hv⟩ := h.lookup runeKeyed Tryz.underlying47 (Tryz.zeroValue46 w) (zd := .nil) (zp := []) rfl (key_rune 111 (by decide))
  rw [show keepD.atKey (runeL 111) .nil = .lit (.int .i64 (44 : Nat)) by rfl] at hv
  rw [funElem_inv hv] at hr
  exact hr
theorem keep_at_p {w : World} {g : Nat} (h : w.ownsMap Tryz.prog 21 funElem g 8 keepD) : (Instr.lookup 47 (.map (some g)) (.int .i32 112) false).run Tryz.prog w = .ok (.func (.func 45) #[] #[]) w := by
  obtain ⟨v, ps, hr, hv⟩ := h.lookup runeKeyed Tryz.underlying47 (Tryz.zeroValue46 w) (zd := .nil) (zp := []) rfl (key_rune 112 (by decide))
  rw [show keepD.atKey (runeL 112) .nil = .lit (.int .i64 (45 : Nat)) by rfl] at hv
  rw [funElem_inv hv] at hr
  exact hr
theorem keep_at_g {w : World} {g : Nat} (h : w.ownsMap Tryz.prog 21 funElem g 8 keepD) : (Instr.lookup 47 (.map (some g)) (.int .i32 103) false).run Tryz.prog w = .ok (.func (.func 46) #[] #[]) w := by
  obtain ⟨v, ps, hr, hv⟩ := h.lookup runeKeyed Tryz.underlying47 (Tryz.zeroValue46 w) (zd := .nil) (zp := []) rfl (key_rune 103 (by decide))
  rw [show keepD.atKey (runeL 103) .nil = .lit (.int .i64 (46 : Nat)) by rfl] at hv
  rw [funElem_inv hv] at hr
  exact hr
theorem keep_at_n {w : World} {g : Nat} (h : w.ownsMap Tryz.prog 21 funElem g 8 keepD) : (Instr.lookup 47 (.map (some g)) (.int .i32 110) false).run Tryz.prog w = .ok (.func (.func 47) #[] #[]) w := by
  obtain ⟨v, ps, hr, hv⟩ := h.lookup runeKeyed Tryz.underlying47 (Tryz.zeroValue46 w) (zd := .nil) (zp := []) rfl (key_rune 110 (by decide))
  rw [show keepD.atKey (runeL 110) .nil = .lit (.int .i64 (47 : Nat)) by rfl] at hv
  rw [funElem_inv hv] at hr
  exact hr
theorem keep_at_m {w : World} {g : Nat} (h : w.ownsMap Tryz.prog 21 funElem g 8 keepD) : (Instr.lookup 47 (.map (some g)) (.int .i32 109) false).run Tryz.prog w = .ok (.func (.func 48) #[] #[]) w := by
  obtain ⟨v, ps, hr, hv⟩ := h.lookup runeKeyed Tryz.underlying47 (Tryz.zeroValue46 w) (zd := .nil) (zp := []) rfl (key_rune 109 (by decide))
  rw [show keepD.atKey (runeL 109) .nil = .lit (.int .i64 (48 : Nat)) by rfl] at hv
  rw [funElem_inv hv] at hr
  exact hr
theorem keep_at_t {w : World} {g : Nat} (h : w.ownsMap Tryz.prog 21 funElem g 8 keepD) : (Instr.lookup 47 (.map (some g)) (.int .i32 116) false).run Tryz.prog w = .ok (.func (.func 49) #[] #[]) w := by
  obtain ⟨v, ps, hr, hv⟩ := h.lookup runeKeyed Tryz.underlying47 (Tryz.zeroValue46 w) (zd := .nil) (zp := []) rfl (key_rune 116 (by decide))
  rw [show keepD.atKey (runeL 116) .nil = .lit (.int .i64 (49 : Nat)) by rfl] at hv
  rw [funElem_inv hv] at hr
  exact hr
end Go.Proofs.YtnohfondkcbdnaaGreatDoor
/- script.keep's closures. -/
namespace Go.Proofs.YtnohfondkcbdnaaGreatDoor
open Go.RowKit Go.Lib
set_option linter.unusedVariables false
set_option linter.unusedSimpArgs false
attribute [local go_sem ↓] Go.wp_at_zero Go.wp_at_succ

theorem set_end (a b : Value) (L : List Value) (hL : L.length = 32) (E : List Value) (j : Nat) (v : Value) : (a :: b :: (L ++ E)).set (34 + j) v = a :: b :: (L ++ E.set j v) := by
  rw [show 34 + j = (32 + j) + 1 + 1 by omega, List.set_cons_succ, List.set_cons_succ, List.set_append_right _ _ (by omega), hL, show 32 + j - 32 = j by omega]
theorem sets_other (b : Nat) : ∀ (us : List Value) (o : Nat) (w : World) (k : Nat), k ≠ b → (w.setCells b o us).heap[k]? = w.heap[k]?
  | [], _, _, _, _ => rfl
  | u :: us, o, w, k, h => by
    rw [World.setCells, sets_other b us (o + 1) _ k h]
    exact heap_setCell_other w ⟨b, o, none⟩ k u h
/-- What such a closure leaves: the act at g2 is b now. -/
def KeptA (g2 : Nat) (b : ActM) (w : World) (e : Ending) (w' : World) : Prop := e = .returned (.tuple #[]) ∧ ActAt w' g2 b ∧ Below g2 w w' ∧ ∀ k, k ≠ g2 → w'.heap[k]? = w.heap[k]?
set_option maxRecDepth 100000 in
theorem keep1_any (g1 g2 : Nat) (a b : ActM) (w : World) (ha : ActAt w g1 a) (hb : ActAt w g2 b) (x : Option Addr) (n c : Nat) (hv : a.bv = .slice x n c) : Calls Tryz.prog 42 #[.pointer (some ⟨g1, 0, none⟩), .pointer (some ⟨g2, 0, none⟩)] w (KeptA g2 (⟨b.kind, a.bv, a.B, b.lock, b.nonce, b.pv, b.P, b.tv, b.T, b.n, b.m, b.bad⟩ : ActM) w) := by
  have hx := ha.bv
  rw [hv] at hx
  have hf := hb.1.frozen 1
  have hd : w.cell? ⟨g2, 1, none⟩ = some _ := hb.bv
  have HB := Lib.hid hb
  have HV := Lib.hid hv
  clear hv
  clear ha hb
  go_enter Tryz.func42, Tryz.ntmps42
  go_wp2
  refine bodyPost_ret (results_none rfl _ _ _) rfl ?_
  refine ⟨rfl, ⟨?_, HB.out.2⟩, (Below.refl g2 w).setCell (Nat.le_refl _) _, fun k hk => heap_setCell_other w ⟨g2, 1, none⟩ k _ hk⟩
  rw [← HV.out]
  have h := HB.out.1.set 1 a.bv
  exact h
set_option maxRecDepth 100000 in
theorem keep3_any (g1 g2 : Nat) (a b : ActM) (w : World) (ha : ActAt w g1 a) (hb : ActAt w g2 b) : Calls Tryz.prog 44 #[.pointer (some ⟨g1, 0, none⟩), .pointer (some ⟨g2, 0, none⟩)] w (KeptA g2 (⟨b.kind, b.bv, b.B, b.lock, a.nonce, b.pv, b.P, b.tv, b.T, b.n, b.m, b.bad⟩ : ActM) w) := by
  have hx := ha.nonce
  have hf := hb.1.frozen 34
  have hd : w.cell? ⟨g2, 34, none⟩ = some _ := hb.nonce
  have HB := Lib.hid hb
  clear ha hb
  go_enter Tryz.func44, Tryz.ntmps44
  go_wp2
  refine bodyPost_ret (results_none rfl _ _ _) rfl ?_
  refine ⟨rfl, ⟨?_, HB.out.2⟩, (Below.refl g2 w).setCell (Nat.le_refl _) _, fun k hk => heap_setCell_other w ⟨g2, 34, none⟩ k _ hk⟩
  have h := HB.out.1.set 34 (.int .u64 (a.nonce : Nat))
  rw [show b.cells.set 34 (.int .u64 (a.nonce : Nat)) = (⟨b.kind, b.bv, b.B, b.lock, a.nonce, b.pv, b.P, b.tv, b.T, b.n, b.m, b.bad⟩ : ActM).cells from set_end _ _ _ (by rw [bys_len, HB.out.2.1]) _ 0 _] at h
  exact h
set_option maxRecDepth 100000 in
theorem keep4_any (g1 g2 : Nat) (a b : ActM) (w : World) (ha : ActAt w g1 a) (hb : ActAt w g2 b) (x : Option Addr) (n c : Nat) (hv : a.pv = .slice x n c) : Calls Tryz.prog 45 #[.pointer (some ⟨g1, 0, none⟩), .pointer (some ⟨g2, 0, none⟩)] w (KeptA g2 (⟨b.kind, b.bv, b.B, b.lock, b.nonce, a.pv, a.P, b.tv, b.T, b.n, b.m, b.bad⟩ : ActM) w) := by
  have hx := ha.pv
  rw [hv] at hx
  have hf := hb.1.frozen 35
  have hd : w.cell? ⟨g2, 35, none⟩ = some _ := hb.pv
  have HB := Lib.hid hb
  have HV := Lib.hid hv
  clear hv
  clear ha hb
  go_enter Tryz.func45, Tryz.ntmps45
  go_wp2
  refine bodyPost_ret (results_none rfl _ _ _) rfl ?_
  refine ⟨rfl, ⟨?_, HB.out.2⟩, (Below.refl g2 w).setCell (Nat.le_refl _) _, fun k hk => heap_setCell_other w ⟨g2, 35, none⟩ k _ hk⟩
  rw [← HV.out]
  have h := HB.out.1.set 35 a.pv
  rw [show b.cells.set 35 a.pv = (⟨b.kind, b.bv, b.B, b.lock, b.nonce, a.pv, a.P, b.tv, b.T, b.n, b.m, b.bad⟩ : ActM).cells from set_end _ _ _ (by rw [bys_len, HB.out.2.1]) _ 1 _] at h
  exact h
set_option maxRecDepth 100000 in
theorem keep5_any (g1 g2 : Nat) (a b : ActM) (w : World) (ha : ActAt w g1 a) (hb : ActAt w g2 b) : Calls Tryz.prog 46 #[.pointer (some ⟨g1, 0, none⟩), .pointer (some ⟨g2, 0, none⟩)] w (KeptA g2 (⟨b.kind, b.bv, b.B, b.lock, b.nonce, b.pv, b.P, b.tv, b.T, b.n, b.m, a.bad⟩ : ActM) w) := by
  have hx := ha.bad
  have hf := hb.1.frozen 39
  have hd : w.cell? ⟨g2, 39, none⟩ = some _ := hb.bad
  have HB := Lib.hid hb
  clear ha hb
  go_enter Tryz.func46, Tryz.ntmps46
  go_wp2
  refine bodyPost_ret (results_none rfl _ _ _) rfl ?_
  refine ⟨rfl, ⟨?_, HB.out.2⟩, (Below.refl g2 w).setCell (Nat.le_refl _) _, fun k hk => heap_setCell_other w ⟨g2, 39, none⟩ k _ hk⟩
  have h := HB.out.1.set 39 (.bool a.bad)
  rw [show b.cells.set 39 (.bool a.bad) = (⟨b.kind, b.bv, b.B, b.lock, b.nonce, b.pv, b.P, b.tv, b.T, b.n, b.m, a.bad⟩ : ActM).cells from set_end _ _ _ (by rw [bys_len, HB.out.2.1]) _ 5 _] at h
  exact h
set_option maxRecDepth 100000 in
theorem keep6_any (g1 g2 : Nat) (a b : ActM) (w : World) (ha : ActAt w g1 a) (hb : ActAt w g2 b) : Calls Tryz.prog 47 #[.pointer (some ⟨g1, 0, none⟩), .pointer (some ⟨g2, 0, none⟩)] w (KeptA g2 (⟨b.kind, b.bv, b.B, b.lock, b.nonce, b.pv, b.P, b.tv, b.T, a.n, b.m, b.bad⟩ : ActM) w) := by
  have hx := ha.n
  have hf := hb.1.frozen 37
  have hd : w.cell? ⟨g2, 37, none⟩ = some _ := hb.n
  have HB := Lib.hid hb
  clear ha hb
  go_enter Tryz.func47, Tryz.ntmps47
  go_wp2
  refine bodyPost_ret (results_none rfl _ _ _) rfl ?_
  refine ⟨rfl, ⟨?_, HB.out.2⟩, (Below.refl g2 w).setCell (Nat.le_refl _) _, fun k hk => heap_setCell_other w ⟨g2, 37, none⟩ k _ hk⟩
  have h := HB.out.1.set 37 (.int .i64 a.n)
  rw [show b.cells.set 37 (.int .i64 a.n) = (⟨b.kind, b.bv, b.B, b.lock, b.nonce, b.pv, b.P, b.tv, b.T, a.n, b.m, b.bad⟩ : ActM).cells from set_end _ _ _ (by rw [bys_len, HB.out.2.1]) _ 3 _] at h
  exact h
set_option maxRecDepth 100000 in
theorem keep7_any (g1 g2 : Nat) (a b : ActM) (w : World) (ha : ActAt w g1 a) (hb : ActAt w g2 b) : Calls Tryz.prog 48 #[.pointer (some ⟨g1, 0, none⟩), .pointer (some ⟨g2, 0, none⟩)] w (KeptA g2 (⟨b.kind, b.bv, b.B, b.lock, b.nonce, b.pv, b.P, b.tv, b.T, b.n, a.m, b.bad⟩ : ActM) w) := by
  have hx := ha.m
  have hf := hb.1.frozen 38
  have hd : w.cell? ⟨g2, 38, none⟩ = some _ := hb.m
  have HB := Lib.hid hb
  clear ha hb
  go_enter Tryz.func48, Tryz.ntmps48
  go_wp2
  refine bodyPost_ret (results_none rfl _ _ _) rfl ?_
  refine ⟨rfl, ⟨?_, HB.out.2⟩, (Below.refl g2 w).setCell (Nat.le_refl _) _, fun k hk => heap_setCell_other w ⟨g2, 38, none⟩ k _ hk⟩
  have h := HB.out.1.set 38 (.int .i64 a.m)
  rw [show b.cells.set 38 (.int .i64 a.m) = (⟨b.kind, b.bv, b.B, b.lock, b.nonce, b.pv, b.P, b.tv, b.T, b.n, a.m, b.bad⟩ : ActM).cells from set_end _ _ _ (by rw [bys_len, HB.out.2.1]) _ 4 _] at h
  exact h
set_option maxRecDepth 100000 in
theorem keep8_any (g1 g2 : Nat) (a b : ActM) (w : World) (ha : ActAt w g1 a) (hb : ActAt w g2 b) (x : Option Addr) (n c : Nat) (hv : a.tv = .slice x n c) : Calls Tryz.prog 49 #[.pointer (some ⟨g1, 0, none⟩), .pointer (some ⟨g2, 0, none⟩)] w (KeptA g2 (⟨b.kind, b.bv, b.B, b.lock, b.nonce, b.pv, b.P, a.tv, a.T, b.n, b.m, b.bad⟩ : ActM) w) := by
  have hx := ha.tv
  rw [hv] at hx
  have hf := hb.1.frozen 36
  have hd : w.cell? ⟨g2, 36, none⟩ = some _ := hb.tv
  have HB := Lib.hid hb
  have HV := Lib.hid hv
  clear hv
  clear ha hb
  go_enter Tryz.func49, Tryz.ntmps49
  go_wp2
  refine bodyPost_ret (results_none rfl _ _ _) rfl ?_
  refine ⟨rfl, ⟨?_, HB.out.2⟩, (Below.refl g2 w).setCell (Nat.le_refl _) _, fun k hk => heap_setCell_other w ⟨g2, 36, none⟩ k _ hk⟩
  rw [← HV.out]
  have h := HB.out.1.set 36 a.tv
  rw [show b.cells.set 36 a.tv = (⟨b.kind, b.bv, b.B, b.lock, b.nonce, b.pv, b.P, a.tv, a.T, b.n, b.m, b.bad⟩ : ActM).cells from set_end _ _ _ (by rw [bys_len, HB.out.2.1]) _ 2 _] at h
  exact h
set_option maxRecDepth 100000 in
theorem keep2_any (g1 g2 : Nat) (a b : ActM) (w : World) (ha : ActAt w g1 a) (hb : ActAt w g2 b) : Calls Tryz.prog 43 #[.pointer (some ⟨g1, 0, none⟩), .pointer (some ⟨g2, 0, none⟩)] w (KeptA g2 (⟨b.kind, b.bv, b.B, a.lock, b.nonce, b.pv, b.P, b.tv, b.T, b.n, b.m, b.bad⟩ : ActM) w) := by
  have HA := Lib.hid ha
  have HB := Lib.hid hb
  have HS := Lib.hid (size_hash a.lock ha.2.1)
  have HT := Lib.hid (show w.there g2 2 (bys a.lock).toArray.size from fun j hj => by
    rw [List.size_toArray, bys_len, ha.2.1] at hj
    refine ⟨?_, hb.1.frozen (2 + j)⟩
    rw [hb.1.cell, List.getElem?_eq_getElem (by unfold ActM.cells; simp [bys_len, hb.2.1]; omega)]
    rfl)
  clear ha hb
  go_enter Tryz.func43, Tryz.ntmps43
  go_upto_region 0 with fail
  go_step
  iterate 12 (first | go_values | go_skip | go_guarded | go_step | go_upon)
  refine wpList_load_mid (P := Tryz.prog) rfl 25 _ rfl g1 2 rfl _ _ HA.out.lock Tryz.underlying25 rfl HS.out ?_
  iterate 6 (first | go_values | go_skip | go_guarded | go_step | go_upon)
  refine wpList_store_mid (P := Tryz.prog) rfl 25 _ _ rfl g2 2 (bys a.lock).toArray rfl rfl HT.out (by rw [List.size_toArray]; exact HS.out) (all_oneCell_toArray (bys_one a.lock)) ?_
  have HF := Lib.hid (HB.out.1.sets (bys a.lock) 2 (by unfold ActM.cells; simp [bys_len, HB.out.2.1, HA.out.2.1]))
  have HW := Lib.hid (below_sets g2 (Nat.le_refl g2) (bys a.lock) 2 (Below.refl g2 w))
  have HQ := Lib.hid (show ∀ k, k ≠ g2 → (w.setCells g2 2 (bys a.lock)).heap[k]? = w.heap[k]? from fun k hk => sets_other g2 (bys a.lock) 2 w k hk)
  rw [show (bys a.lock).toArray.toList = bys a.lock from rfl]
  generalize World.setCells _ _ _ _ = w4 at *
  go_wp2
  refine bodyPost_ret (results_none rfl _ _ _) rfl ?_
  refine ⟨rfl, ⟨?_, HA.out.2⟩, HW.out, HQ.out⟩
  have h := HF.out
  rw [show b.cells.take 2 ++ bys a.lock ++ b.cells.drop (2 + (bys a.lock).length) = (⟨b.kind, b.bv, b.B, a.lock, b.nonce, b.pv, b.P, b.tv, b.T, b.n, b.m, b.bad⟩ : ActM).cells by
    unfold ActM.cells
    rw [bys_len, HA.out.2.1, show 2 + 32 = 32 + 1 + 1 by omega, List.drop_succ_cons, List.drop_succ_cons, List.drop_append_of_le_length (by rw [bys_len, HB.out.2.1]; exact Nat.le_refl _), List.drop_of_length_le (by rw [bys_len, HB.out.2.1]; exact Nat.le_refl _)]
    rfl] at h
  exact h
end Go.Proofs.YtnohfondkcbdnaaGreatDoor
/- script.MayAct: the loop over an act's words. -/
namespace Go.Proofs.YtnohfondkcbdnaaGreatDoor
open Go.RowKit Go.Lib
set_option linter.unusedVariables false
set_option linter.unusedSimpArgs false
attribute [local go_sem ↓] Go.wp_at_zero Go.wp_at_succ

/-- What one word lets stand. -/
def keepF (a : ActM) (b : ActM) (c : Nat) : ActM := match c with
  | 98 => ⟨b.kind, a.bv, a.B, b.lock, b.nonce, b.pv, b.P, b.tv, b.T, b.n, b.m, b.bad⟩
  | 104 => ⟨b.kind, b.bv, b.B, a.lock, b.nonce, b.pv, b.P, b.tv, b.T, b.n, b.m, b.bad⟩
  | 111 => ⟨b.kind, b.bv, b.B, b.lock, a.nonce, b.pv, b.P, b.tv, b.T, b.n, b.m, b.bad⟩
  | 112 => ⟨b.kind, b.bv, b.B, b.lock, b.nonce, a.pv, a.P, b.tv, b.T, b.n, b.m, b.bad⟩
  | 103 => ⟨b.kind, b.bv, b.B, b.lock, b.nonce, b.pv, b.P, b.tv, b.T, b.n, b.m, a.bad⟩
  | 110 => ⟨b.kind, b.bv, b.B, b.lock, b.nonce, b.pv, b.P, b.tv, b.T, a.n, b.m, b.bad⟩
  | 109 => ⟨b.kind, b.bv, b.B, b.lock, b.nonce, b.pv, b.P, b.tv, b.T, b.n, a.m, b.bad⟩
  | 116 => ⟨b.kind, b.bv, b.B, b.lock, b.nonce, b.pv, b.P, a.tv, a.T, b.n, b.m, b.bad⟩
  | _ => b
def runesOf (s : ByteArray) : List Nat := s.data.toList.map (·.toNat)
def wordR : List Nat := [98, 104, 111, 112, 103, 110, 109, 116]
theorem next_at {P : Program} (w : World) (r : Nat) (s : ByteArray) (pos c : Nat) (ty : TypeId) (h : w.heap[r]? = some (.stringIter s pos)) (hc : (runesOf s)[pos]? = some c) (ha : c < 128) :
    ∃ w', (Instr.next (.pointer (some ⟨r, 0, none⟩)) true ty).run P w = .ok (.tuple #[.bool true, .int .i64 pos, .int .i32 (c : Int)]) w' ∧ w'.heap[r]? = some (.stringIter s (pos + 1)) ∧ Below r w w' := by
  have hp : pos < s.size := by
    have := (List.getElem?_eq_some_iff.1 hc).1
    simpa [runesOf] using this
  have hcc : (s[pos]'hp).toNat = c := by
    have h2 := (List.getElem?_eq_some_iff.1 hc).2
    simp only [runesOf, List.getElem_map] at h2
    rw [← h2]; rfl
  have hr := (Array.getElem?_eq_some_iff.1 h).1
  refine ⟨{ w with heap := w.heap.setIfInBounds r (.stringIter s (pos + 1)) }, ?_, ?_, ?_⟩
  · simp only [Instr.next, getObj, setObj, Sem.run_bind, Sem.run, h, Result.andThen, hp, if_true, decode_ascii s pos hp (by rw [hcc]; exact ha)]
    simp [goInt, Sem.run, h, hcc]
  · simp [hr]
  · exact ⟨rfl, rfl, rfl, by simp, fun j hj => by simp [Array.getElem?_setIfInBounds, show r ≠ j by omega]⟩
theorem next_over {P : Program} (w : World) (r : Nat) (s : ByteArray) (pos : Nat) (ty : TypeId) (h : w.heap[r]? = some (.stringIter s pos)) (hp : ¬ pos < s.size) :
    (Instr.next (.pointer (some ⟨r, 0, none⟩)) true ty).run P w = .ok (.tuple #[.bool false]) w := by
  simp [Instr.next, getObj, Sem.run, h, hp]
end Go.Proofs.YtnohfondkcbdnaaGreatDoor
