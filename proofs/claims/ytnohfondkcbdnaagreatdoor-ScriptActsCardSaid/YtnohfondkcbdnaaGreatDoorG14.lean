/- plexusref29.bare. -/
import Derived.Test.YtnohfondkcbdnaaGreatDoorG13
namespace Go.Proofs.YtnohfondkcbdnaaGreatDoor
open Go.RowKit Go.Lib
set_option linter.unusedVariables false
set_option linter.unusedSimpArgs false
attribute [local go_sem ↓] Go.wp_at_zero Go.wp_at_succ

def zeroH : List Nat := List.replicate 32 0
theorem zeroH_h : IsH zeroH := ⟨rfl, fun x hx => by rw [List.eq_of_mem_replicate hx]; omega⟩
theorem bareB_b (a : ActM) (hl : a.lock.length = 32) (b1 p1 t1 : Option Addr) (b2 b3 p2 p3 t2 t3 : Nat) (w : World) : (Instr.build 30 #[(0, .int .i64 a.kind), (1, .slice b1 b2 b3)]).run Tryz.prog w = .ok (.agg ((⟨a.kind, .slice b1 b2 b3, a.B, zeroH, 0, .slice none 0 0, [], .slice none 0 0, [], 0, 0, false⟩) : ActM).cells.toArray) w := by
  kernel_rfl
theorem bareN_b (a : ActM) (hl : a.lock.length = 32) (b1 p1 t1 : Option Addr) (b2 b3 p2 p3 t2 t3 : Nat) (w : World) : (Instr.build 30 #[(0, .int .i64 a.kind), (2, .agg (bys a.lock).toArray), (3, .int .u64 (a.nonce : Nat))]).run Tryz.prog w = .ok (.agg ((⟨a.kind, .slice none 0 0, [], a.lock, a.nonce, .slice none 0 0, [], .slice none 0 0, [], 0, 0, false⟩) : ActM).cells.toArray) w := by
  obtain ⟨kind, bv, B, lock, nonce, pv, P, tv, T, n, m, bad⟩ := a
  dsimp only at hl ⊢
  match lock, hl with
  | [x0, x1, x2, x3, x4, x5, x6, x7, x8, x9, x10, x11, x12, x13, x14, x15, x16, x17, x18, x19, x20, x21, x22, x23, x24, x25, x26, x27, x28, x29, x30, x31], _ => show _ = _; kernel_rfl
theorem bareM_b (a : ActM) (hl : a.lock.length = 32) (b1 p1 t1 : Option Addr) (b2 b3 p2 p3 t2 t3 : Nat) (w : World) : (Instr.build 30 #[(0, .int .i64 a.kind), (4, .slice p1 p2 p3), (2, .agg (bys a.lock).toArray), (3, .int .u64 (a.nonce : Nat)), (5, .slice t1 t2 t3), (8, .bool a.bad)]).run Tryz.prog w = .ok (.agg ((⟨a.kind, .slice none 0 0, [], a.lock, a.nonce, .slice p1 p2 p3, a.P, .slice t1 t2 t3, a.T, 0, 0, a.bad⟩) : ActM).cells.toArray) w := by
  obtain ⟨kind, bv, B, lock, nonce, pv, P, tv, T, n, m, bad⟩ := a
  dsimp only at hl ⊢
  match lock, hl with
  | [x0, x1, x2, x3, x4, x5, x6, x7, x8, x9, x10, x11, x12, x13, x14, x15, x16, x17, x18, x19, x20, x21, x22, x23, x24, x25, x26, x27, x28, x29, x30, x31], _ => show _ = _; kernel_rfl
theorem bareG_b (a : ActM) (hl : a.lock.length = 32) (b1 p1 t1 : Option Addr) (b2 b3 p2 p3 t2 t3 : Nat) (w : World) : (Instr.build 30 #[(0, .int .i64 a.kind), (6, .int .i64 a.n)]).run Tryz.prog w = .ok (.agg ((⟨a.kind, .slice none 0 0, [], zeroH, 0, .slice none 0 0, [], .slice none 0 0, [], a.n, 0, false⟩) : ActM).cells.toArray) w := by
  kernel_rfl
theorem bareC_b (a : ActM) (hl : a.lock.length = 32) (b1 p1 t1 : Option Addr) (b2 b3 p2 p3 t2 t3 : Nat) (w : World) : (Instr.build 30 #[(0, .int .i64 a.kind), (6, .int .i64 a.n), (7, .int .i64 a.m)]).run Tryz.prog w = .ok (.agg ((⟨a.kind, .slice none 0 0, [], zeroH, 0, .slice none 0 0, [], .slice none 0 0, [], a.n, a.m, false⟩) : ActM).cells.toArray) w := by
  kernel_rfl
theorem bareO_b (a : ActM) (hl : a.lock.length = 32) (b1 p1 t1 : Option Addr) (b2 b3 p2 p3 t2 t3 : Nat) (w : World) : (Instr.build 30 #[(0, .int .i64 a.kind)]).run Tryz.prog w = .ok (.agg ((⟨a.kind, .slice none 0 0, [], zeroH, 0, .slice none 0 0, [], .slice none 0 0, [], 0, 0, false⟩) : ActM).cells.toArray) w := by
  kernel_rfl
/-- An act with what its kind names alone. -/
def bareF (a : ActM) : ActM := if a.kind = 1 ∨ a.kind = 2 then ⟨a.kind, a.bv, a.B, zeroH, 0, .slice none 0 0, [], .slice none 0 0, [], 0, 0, false⟩ else if a.kind = 3 then ⟨a.kind, .slice none 0 0, [], a.lock, a.nonce, .slice none 0 0, [], .slice none 0 0, [], 0, 0, false⟩ else if a.kind = 4 then ⟨a.kind, .slice none 0 0, [], a.lock, a.nonce, a.pv, a.P, a.tv, a.T, 0, 0, a.bad⟩ else if a.kind = 5 ∨ a.kind = 6 then ⟨a.kind, .slice none 0 0, [], zeroH, 0, .slice none 0 0, [], .slice none 0 0, [], a.n, 0, false⟩ else if a.kind = 7 ∨ a.kind = 9 then ⟨a.kind, .slice none 0 0, [], zeroH, 0, .slice none 0 0, [], .slice none 0 0, [], a.n, a.m, false⟩ else ⟨a.kind, .slice none 0 0, [], zeroH, 0, .slice none 0 0, [], .slice none 0 0, [], 0, 0, false⟩
def zeroA : ActM := ⟨0, .slice none 0 0, [], zeroH, 0, .slice none 0 0, [], .slice none 0 0, [], 0, 0, false⟩
theorem wp_build_run {P : Program} {op : Oper} {a : Act} {w : World} {K : Act → World → Prop} {Q : Exit → Act → World → Prop} (t : TypeId) (parts : Array (Nat × Operand)) (ho : op.op = .build t parts)
    (vals : Array (Nat × Value)) (hv : parts.map (fun x => (x.1, a.eval x.2)) = vals) (v : Value) (hr : (Instr.build t vals).run P w = .ok v w) (h : K (a.put op.dst v) w) : op.wp P a w K Q := by
  unfold Oper.wp execOp
  have hv' : parts.map (fun (i, x) => (i, a.eval x)) = vals := hv
  simp only [ho, hv']
  simp [hr, Result.andThen]
  exact h
theorem nums_nil (w : World) : NumsIs w (.slice none 0 0) [] := ⟨(fun z hz => by cases hz), RowIs.nil w⟩
theorem txs_nil (w : World) : TxsIs w (.slice none 0 0) [] := ⟨(fun z hz => by cases hz), RowIs.nil w⟩
theorem byts_nil (w : World) : Byts w (.slice none 0 0) [] := ⟨(fun x hx => by cases hx), .inl ⟨rfl, rfl⟩⟩
theorem bareF_ok {w : World} {a : ActM} (h : a.ok w) : (bareF a).ok w := by
  have z1 : -9223372036854775808 ≤ (0 : Int) ∧ (0 : Int) ≤ 9223372036854775807 := by omega
  have z2 : 0 ≤ 18446744073709551615 := by omega
  unfold bareF
  split
  · exact ⟨h.kind, h.B, zeroH_h, z2, nums_nil w, txs_nil w, z1, z1⟩
  · split
    · exact ⟨h.kind, byts_nil w, h.lock, h.nonce, nums_nil w, txs_nil w, z1, z1⟩
    · split
      · exact ⟨h.kind, byts_nil w, h.lock, h.nonce, h.P, h.T, z1, z1⟩
      · split
        · exact ⟨h.kind, byts_nil w, zeroH_h, z2, nums_nil w, txs_nil w, h.n, z1⟩
        · split
          · exact ⟨h.kind, byts_nil w, zeroH_h, z2, nums_nil w, txs_nil w, h.n, h.m⟩
          · exact ⟨h.kind, byts_nil w, zeroH_h, z2, nums_nil w, txs_nil w, z1, z1⟩
theorem act_one {w : World} {a : ActM} (h : a.ok w) : ∀ v ∈ a.cells, v.oneCell' = true := by
  intro v hv
  obtain ⟨_, _, h1⟩ := h.P.2.form
  obtain ⟨_, _, h2⟩ := h.T.2.form
  obtain ⟨_, _, h3⟩ := h.B.form
  unfold ActM.cells at hv
  simp only [List.mem_cons, List.mem_append, List.not_mem_nil, or_false] at hv
  rcases hv with rfl | rfl | hv | rfl | rfl | rfl | rfl | rfl | rfl
  · rfl
  · rw [h3]; rfl
  · exact bys_one _ _ hv
  · rfl
  · rw [h1]; rfl
  · rw [h2]; rfl
  · rfl
  · rfl
  · rfl
set_option maxRecDepth 100000 in
set_option maxHeartbeats 6400000 in
theorem bare_any (a : ActM) (w : World) (ha : a.ok w) :
    Calls Tryz.prog 25 #[.agg a.cells.toArray] w fun e w' => e = .returned (.agg (bareF a).cells.toArray) ∧ Below w.heap.size w w' := by
  obtain ⟨Z, hZ⟩ : ∃ Z, Z = bareF a := ⟨_, rfl⟩
  rw [← hZ]
  have HZ := Lib.hid hZ
  have HA := Lib.hid ha
  have HOk := Lib.hid (show Z.ok w by rw [hZ]; exact bareF_ok ha)
  have HSl := Lib.hid (size_hash a.lock ha.lock.1)
  obtain ⟨b1, b3, hbv⟩ : ∃ x c, a.bv = .slice x a.B.length c := ha.B.form
  obtain ⟨p1, p3, hpv⟩ : ∃ x c, a.pv = .slice x a.P.length c := ha.P.2.form
  obtain ⟨t1, t3, htv⟩ : ∃ x c, a.tv = .slice x a.T.length c := ha.T.2.form
  have HV := Lib.hid (And.intro hbv (And.intro hpv htv))
  clear hZ ha hbv hpv htv
  go_enter Tryz.func25, Tryz.ntmps25
  go_upto_region 1 with fail
  generalize hW : World.alloc (World.alloc _ _) _ = w1
  have hpk := two w (.cells a.cells.toArray 30) (.cells zeroA.cells.toArray 30)
  rw [show (w.alloc (.cells a.cells.toArray 30)).alloc (.cells zeroA.cells.toArray 30) = w1 by rw [← hW]; kernel_rfl] at hpk
  have HX := Lib.hid (show ActAt _ w.heap.size a from ⟨hpk.1, HA.out.lock⟩)
  have HY := Lib.hid (show Arr _ (w.heap.size + 1) 30 zeroA.cells from hpk.2.1)
  have HW := Lib.hid hpk.2.2.2
  clear hpk hW
  obtain ⟨g, hg⟩ : ∃ g, w.heap.size = g := ⟨_, rfl⟩
  rw [hg] at HX HY HW ⊢
  have HG := Lib.hid hg
  have HSz := Lib.hid (show (Tryz.prog.info? 30).map (·.size) = some Z.cells.toArray.size by rw [List.size_toArray, ActM.cells_len HOk.out]; exact size_act)
  have HTh := Lib.hid (HY.out.there Z.cells.toArray.size (by rw [List.size_toArray, ActM.cells_len HOk.out]; rfl))
  have HOne := Lib.hid (all_oneCell_toArray (act_one HOk.out))
  have HF1 := Lib.hid (HY.out.setAll Z.cells.toArray.toList (by show Z.cells.length = _; rw [ActM.cells_len HOk.out]; rfl))
  have HF2 := Lib.hid (below_sets (g + 1) (Nat.le_succ g) Z.cells.toArray.toList 0 HW.out)
  clear hg
  have kx_ := HX.out.kind
  by_cases h1 : a.kind = 1
  · have q1 : (a.kind == 1) = true := by rw [h1]; rfl
    have hz : Z = (⟨a.kind, .slice b1 a.B.length b3, a.B, zeroH, 0, .slice none 0 0, [], .slice none 0 0, [], 0, 0, false⟩ : ActM) := by
      rw [HZ.out]; unfold bareF
      simp [h1, HV.out.1, HV.out.2.1, HV.out.2.2]
    have hbu : ∀ w9, (Instr.build 30 #[(0, .int .i64 a.kind), (1, .slice b1 a.B.length b3)]).run Tryz.prog w9 = .ok (.agg Z.cells.toArray) w9 := fun w9 => by rw [hz]; exact bareB_b a HA.out.lock.1 b1 p1 t1 a.B.length b3 a.P.length p3 a.T.length t3 w9
    clear hz h1
    have fbv_ := HX.out.bv
    rw [HV.out.1] at fbv_
    go_upto_region 4 with fail
    go_step
    iterate 12 (first | go_values | go_skip | go_guarded | go_step | go_upon)
    refine wpList_step (fun K9 hK9 => ?_)
    rw [if_pos (by kernel_rfl)]
    refine wp_build_run (P := Tryz.prog) 30 _ rfl #[(0, .int .i64 a.kind), (1, .slice b1 a.B.length b3)] (by simp [Act.eval, Act.put]) _ (hbu _) ?_
    refine hK9 _ _ ?_
    clear hK9 K9
    dsimp only [Act.put]
    simp only [List.setIfInBounds_toArray, List.set_cons_zero, List.set_cons_succ]
    refine wpList_store_mid (P := Tryz.prog) rfl 30 _ _ rfl (g + 1) 0 Z.cells.toArray rfl rfl HTh.out HSz.out HOne.out ?_
    generalize World.setCells _ _ _ _ = w4 at *
    go_wp2
    refine bodyPost_ret (results_cell_row rfl _ _ (g + 1) _ Z.cells.toArray _ _ rfl HF1.out Tryz.underlying30 rfl HSz.out) rfl ?_
    exact ⟨rfl, by rw [HG.out]; exact HF2.out⟩
  · have q1 : (a.kind == 1) = false := beq_false_of_ne h1
    by_cases h2 : a.kind = 2
    · have q2 : (a.kind == 2) = true := by rw [h2]; rfl
      have hz : Z = (⟨a.kind, .slice b1 a.B.length b3, a.B, zeroH, 0, .slice none 0 0, [], .slice none 0 0, [], 0, 0, false⟩ : ActM) := by
        rw [HZ.out]; unfold bareF
        simp [h2, HV.out.1, HV.out.2.1, HV.out.2.2]
      have hbu : ∀ w9, (Instr.build 30 #[(0, .int .i64 a.kind), (1, .slice b1 a.B.length b3)]).run Tryz.prog w9 = .ok (.agg Z.cells.toArray) w9 := fun w9 => by rw [hz]; exact bareB_b a HA.out.lock.1 b1 p1 t1 a.B.length b3 a.P.length p3 a.T.length t3 w9
      clear hz h1 h2
      have fbv_ := HX.out.bv
      rw [HV.out.1] at fbv_
      go_upto_region 4 with fail
      go_step
      iterate 12 (first | go_values | go_skip | go_guarded | go_step | go_upon)
      refine wpList_step (fun K9 hK9 => ?_)
      rw [if_pos (by kernel_rfl)]
      refine wp_build_run (P := Tryz.prog) 30 _ rfl #[(0, .int .i64 a.kind), (1, .slice b1 a.B.length b3)] (by simp [Act.eval, Act.put]) _ (hbu _) ?_
      refine hK9 _ _ ?_
      clear hK9 K9
      dsimp only [Act.put]
      simp only [List.setIfInBounds_toArray, List.set_cons_zero, List.set_cons_succ]
      refine wpList_store_mid (P := Tryz.prog) rfl 30 _ _ rfl (g + 1) 0 Z.cells.toArray rfl rfl HTh.out HSz.out HOne.out ?_
      generalize World.setCells _ _ _ _ = w4 at *
      go_wp2
      refine bodyPost_ret (results_cell_row rfl _ _ (g + 1) _ Z.cells.toArray _ _ rfl HF1.out Tryz.underlying30 rfl HSz.out) rfl ?_
      exact ⟨rfl, by rw [HG.out]; exact HF2.out⟩
    · have q2 : (a.kind == 2) = false := beq_false_of_ne h2
      by_cases h3 : a.kind = 3
      · have q3 : (a.kind == 3) = true := by rw [h3]; rfl
        have hz : Z = (⟨a.kind, .slice none 0 0, [], a.lock, a.nonce, .slice none 0 0, [], .slice none 0 0, [], 0, 0, false⟩ : ActM) := by
          rw [HZ.out]; unfold bareF
          simp [h3, HV.out.1, HV.out.2.1, HV.out.2.2]
        have hbu : ∀ w9, (Instr.build 30 #[(0, .int .i64 a.kind), (2, .agg (bys a.lock).toArray), (3, .int .u64 (a.nonce : Nat))]).run Tryz.prog w9 = .ok (.agg Z.cells.toArray) w9 := fun w9 => by rw [hz]; exact bareN_b a HA.out.lock.1 b1 p1 t1 a.B.length b3 a.P.length p3 a.T.length t3 w9
        clear hz h1 h2 h3
        have fnonce_ := HX.out.nonce
        go_upto_region 6 with fail
        go_step
        iterate 9 (first | go_values | go_skip | go_guarded | go_step | go_upon)
        refine wpList_load_mid (P := Tryz.prog) rfl 25 _ rfl g 2 rfl _ _ HX.out.lock Tryz.underlying25 rfl HSl.out ?_
        iterate 6 (first | go_values | go_skip | go_guarded | go_step | go_upon)
        refine wpList_step (fun K9 hK9 => ?_)
        rw [if_pos (by kernel_rfl)]
        refine wp_build_run (P := Tryz.prog) 30 _ rfl #[(0, .int .i64 a.kind), (2, .agg (bys a.lock).toArray), (3, .int .u64 (a.nonce : Nat))] (by simp [Act.eval, Act.put]) _ (hbu _) ?_
        refine hK9 _ _ ?_
        clear hK9 K9
        dsimp only [Act.put]
        simp only [List.setIfInBounds_toArray, List.set_cons_zero, List.set_cons_succ]
        refine wpList_store_mid (P := Tryz.prog) rfl 30 _ _ rfl (g + 1) 0 Z.cells.toArray rfl rfl HTh.out HSz.out HOne.out ?_
        generalize World.setCells _ _ _ _ = w4 at *
        go_wp2
        refine bodyPost_ret (results_cell_row rfl _ _ (g + 1) _ Z.cells.toArray _ _ rfl HF1.out Tryz.underlying30 rfl HSz.out) rfl ?_
        exact ⟨rfl, by rw [HG.out]; exact HF2.out⟩
      · have q3 : (a.kind == 3) = false := beq_false_of_ne h3
        by_cases h4 : a.kind = 4
        · have q4 : (a.kind == 4) = true := by rw [h4]; rfl
          have hz : Z = (⟨a.kind, .slice none 0 0, [], a.lock, a.nonce, .slice p1 a.P.length p3, a.P, .slice t1 a.T.length t3, a.T, 0, 0, a.bad⟩ : ActM) := by
            rw [HZ.out]; unfold bareF
            simp [h4, HV.out.1, HV.out.2.1, HV.out.2.2]
          have hbu : ∀ w9, (Instr.build 30 #[(0, .int .i64 a.kind), (4, .slice p1 a.P.length p3), (2, .agg (bys a.lock).toArray), (3, .int .u64 (a.nonce : Nat)), (5, .slice t1 a.T.length t3), (8, .bool a.bad)]).run Tryz.prog w9 = .ok (.agg Z.cells.toArray) w9 := fun w9 => by rw [hz]; exact bareM_b a HA.out.lock.1 b1 p1 t1 a.B.length b3 a.P.length p3 a.T.length t3 w9
          clear hz h1 h2 h3 h4
          have fnonce_ := HX.out.nonce
          have fpv_ := HX.out.pv
          rw [HV.out.2.1] at fpv_
          have ftv_ := HX.out.tv
          rw [HV.out.2.2] at ftv_
          have fbad_ := HX.out.bad
          go_upto_region 8 with fail
          go_step
          iterate 15 (first | go_values | go_skip | go_guarded | go_step | go_upon)
          refine wpList_load_mid (P := Tryz.prog) rfl 25 _ rfl g 2 rfl _ _ HX.out.lock Tryz.underlying25 rfl HSl.out ?_
          iterate 18 (first | go_values | go_skip | go_guarded | go_step | go_upon)
          refine wpList_step (fun K9 hK9 => ?_)
          rw [if_pos (by kernel_rfl)]
          refine wp_build_run (P := Tryz.prog) 30 _ rfl #[(0, .int .i64 a.kind), (4, .slice p1 a.P.length p3), (2, .agg (bys a.lock).toArray), (3, .int .u64 (a.nonce : Nat)), (5, .slice t1 a.T.length t3), (8, .bool a.bad)] (by simp [Act.eval, Act.put]) _ (hbu _) ?_
          refine hK9 _ _ ?_
          clear hK9 K9
          dsimp only [Act.put]
          simp only [List.setIfInBounds_toArray, List.set_cons_zero, List.set_cons_succ]
          refine wpList_store_mid (P := Tryz.prog) rfl 30 _ _ rfl (g + 1) 0 Z.cells.toArray rfl rfl HTh.out HSz.out HOne.out ?_
          generalize World.setCells _ _ _ _ = w4 at *
          go_wp2
          refine bodyPost_ret (results_cell_row rfl _ _ (g + 1) _ Z.cells.toArray _ _ rfl HF1.out Tryz.underlying30 rfl HSz.out) rfl ?_
          exact ⟨rfl, by rw [HG.out]; exact HF2.out⟩
        · have q4 : (a.kind == 4) = false := beq_false_of_ne h4
          by_cases h5 : a.kind = 5
          · have q5 : (a.kind == 5) = true := by rw [h5]; rfl
            have hz : Z = (⟨a.kind, .slice none 0 0, [], zeroH, 0, .slice none 0 0, [], .slice none 0 0, [], a.n, 0, false⟩ : ActM) := by
              rw [HZ.out]; unfold bareF
              simp [h5, HV.out.1, HV.out.2.1, HV.out.2.2]
            have hbu : ∀ w9, (Instr.build 30 #[(0, .int .i64 a.kind), (6, .int .i64 a.n)]).run Tryz.prog w9 = .ok (.agg Z.cells.toArray) w9 := fun w9 => by rw [hz]; exact bareG_b a HA.out.lock.1 b1 p1 t1 a.B.length b3 a.P.length p3 a.T.length t3 w9
            clear hz h1 h2 h3 h4 h5
            have fn_ := HX.out.n
            go_upto_region 11 with fail
            go_step
            iterate 12 (first | go_values | go_skip | go_guarded | go_step | go_upon)
            refine wpList_step (fun K9 hK9 => ?_)
            rw [if_pos (by kernel_rfl)]
            refine wp_build_run (P := Tryz.prog) 30 _ rfl #[(0, .int .i64 a.kind), (6, .int .i64 a.n)] (by simp [Act.eval, Act.put]) _ (hbu _) ?_
            refine hK9 _ _ ?_
            clear hK9 K9
            dsimp only [Act.put]
            simp only [List.setIfInBounds_toArray, List.set_cons_zero, List.set_cons_succ]
            refine wpList_store_mid (P := Tryz.prog) rfl 30 _ _ rfl (g + 1) 0 Z.cells.toArray rfl rfl HTh.out HSz.out HOne.out ?_
            generalize World.setCells _ _ _ _ = w4 at *
            go_wp2
            refine bodyPost_ret (results_cell_row rfl _ _ (g + 1) _ Z.cells.toArray _ _ rfl HF1.out Tryz.underlying30 rfl HSz.out) rfl ?_
            exact ⟨rfl, by rw [HG.out]; exact HF2.out⟩
          · have q5 : (a.kind == 5) = false := beq_false_of_ne h5
            by_cases h6 : a.kind = 6
            · have q6 : (a.kind == 6) = true := by rw [h6]; rfl
              have hz : Z = (⟨a.kind, .slice none 0 0, [], zeroH, 0, .slice none 0 0, [], .slice none 0 0, [], a.n, 0, false⟩ : ActM) := by
                rw [HZ.out]; unfold bareF
                simp [h6, HV.out.1, HV.out.2.1, HV.out.2.2]
              have hbu : ∀ w9, (Instr.build 30 #[(0, .int .i64 a.kind), (6, .int .i64 a.n)]).run Tryz.prog w9 = .ok (.agg Z.cells.toArray) w9 := fun w9 => by rw [hz]; exact bareG_b a HA.out.lock.1 b1 p1 t1 a.B.length b3 a.P.length p3 a.T.length t3 w9
              clear hz h1 h2 h3 h4 h5 h6
              have fn_ := HX.out.n
              go_upto_region 11 with fail
              go_step
              iterate 12 (first | go_values | go_skip | go_guarded | go_step | go_upon)
              refine wpList_step (fun K9 hK9 => ?_)
              rw [if_pos (by kernel_rfl)]
              refine wp_build_run (P := Tryz.prog) 30 _ rfl #[(0, .int .i64 a.kind), (6, .int .i64 a.n)] (by simp [Act.eval, Act.put]) _ (hbu _) ?_
              refine hK9 _ _ ?_
              clear hK9 K9
              dsimp only [Act.put]
              simp only [List.setIfInBounds_toArray, List.set_cons_zero, List.set_cons_succ]
              refine wpList_store_mid (P := Tryz.prog) rfl 30 _ _ rfl (g + 1) 0 Z.cells.toArray rfl rfl HTh.out HSz.out HOne.out ?_
              generalize World.setCells _ _ _ _ = w4 at *
              go_wp2
              refine bodyPost_ret (results_cell_row rfl _ _ (g + 1) _ Z.cells.toArray _ _ rfl HF1.out Tryz.underlying30 rfl HSz.out) rfl ?_
              exact ⟨rfl, by rw [HG.out]; exact HF2.out⟩
            · have q6 : (a.kind == 6) = false := beq_false_of_ne h6
              by_cases h7 : a.kind = 7
              · have q7 : (a.kind == 7) = true := by rw [h7]; rfl
                have hz : Z = (⟨a.kind, .slice none 0 0, [], zeroH, 0, .slice none 0 0, [], .slice none 0 0, [], a.n, a.m, false⟩ : ActM) := by
                  rw [HZ.out]; unfold bareF
                  simp [h7, HV.out.1, HV.out.2.1, HV.out.2.2]
                have hbu : ∀ w9, (Instr.build 30 #[(0, .int .i64 a.kind), (6, .int .i64 a.n), (7, .int .i64 a.m)]).run Tryz.prog w9 = .ok (.agg Z.cells.toArray) w9 := fun w9 => by rw [hz]; exact bareC_b a HA.out.lock.1 b1 p1 t1 a.B.length b3 a.P.length p3 a.T.length t3 w9
                clear hz h1 h2 h3 h4 h5 h6 h7
                have fn_ := HX.out.n
                have fm_ := HX.out.m
                go_upto_region 14 with fail
                go_step
                iterate 18 (first | go_values | go_skip | go_guarded | go_step | go_upon)
                refine wpList_step (fun K9 hK9 => ?_)
                rw [if_pos (by kernel_rfl)]
                refine wp_build_run (P := Tryz.prog) 30 _ rfl #[(0, .int .i64 a.kind), (6, .int .i64 a.n), (7, .int .i64 a.m)] (by simp [Act.eval, Act.put]) _ (hbu _) ?_
                refine hK9 _ _ ?_
                clear hK9 K9
                dsimp only [Act.put]
                simp only [List.setIfInBounds_toArray, List.set_cons_zero, List.set_cons_succ]
                refine wpList_store_mid (P := Tryz.prog) rfl 30 _ _ rfl (g + 1) 0 Z.cells.toArray rfl rfl HTh.out HSz.out HOne.out ?_
                generalize World.setCells _ _ _ _ = w4 at *
                go_wp2
                refine bodyPost_ret (results_cell_row rfl _ _ (g + 1) _ Z.cells.toArray _ _ rfl HF1.out Tryz.underlying30 rfl HSz.out) rfl ?_
                exact ⟨rfl, by rw [HG.out]; exact HF2.out⟩
              · have q7 : (a.kind == 7) = false := beq_false_of_ne h7
                by_cases h9 : a.kind = 9
                · have q9 : (a.kind == 9) = true := by rw [h9]; rfl
                  have hz : Z = (⟨a.kind, .slice none 0 0, [], zeroH, 0, .slice none 0 0, [], .slice none 0 0, [], a.n, a.m, false⟩ : ActM) := by
                    rw [HZ.out]; unfold bareF
                    simp [h9, HV.out.1, HV.out.2.1, HV.out.2.2]
                  have hbu : ∀ w9, (Instr.build 30 #[(0, .int .i64 a.kind), (6, .int .i64 a.n), (7, .int .i64 a.m)]).run Tryz.prog w9 = .ok (.agg Z.cells.toArray) w9 := fun w9 => by rw [hz]; exact bareC_b a HA.out.lock.1 b1 p1 t1 a.B.length b3 a.P.length p3 a.T.length t3 w9
                  clear hz h1 h2 h3 h4 h5 h6 h7 h9
                  have fn_ := HX.out.n
                  have fm_ := HX.out.m
                  go_upto_region 14 with fail
                  go_step
                  iterate 18 (first | go_values | go_skip | go_guarded | go_step | go_upon)
                  refine wpList_step (fun K9 hK9 => ?_)
                  rw [if_pos (by kernel_rfl)]
                  refine wp_build_run (P := Tryz.prog) 30 _ rfl #[(0, .int .i64 a.kind), (6, .int .i64 a.n), (7, .int .i64 a.m)] (by simp [Act.eval, Act.put]) _ (hbu _) ?_
                  refine hK9 _ _ ?_
                  clear hK9 K9
                  dsimp only [Act.put]
                  simp only [List.setIfInBounds_toArray, List.set_cons_zero, List.set_cons_succ]
                  refine wpList_store_mid (P := Tryz.prog) rfl 30 _ _ rfl (g + 1) 0 Z.cells.toArray rfl rfl HTh.out HSz.out HOne.out ?_
                  generalize World.setCells _ _ _ _ = w4 at *
                  go_wp2
                  refine bodyPost_ret (results_cell_row rfl _ _ (g + 1) _ Z.cells.toArray _ _ rfl HF1.out Tryz.underlying30 rfl HSz.out) rfl ?_
                  exact ⟨rfl, by rw [HG.out]; exact HF2.out⟩
                · have q9 : (a.kind == 9) = false := beq_false_of_ne h9
                  have hz : Z = (⟨a.kind, .slice none 0 0, [], zeroH, 0, .slice none 0 0, [], .slice none 0 0, [], 0, 0, false⟩ : ActM) := by
                    rw [HZ.out]; unfold bareF
                    simp [h1, h2, h3, h4, h5, h6, h7, h9, HV.out.1, HV.out.2.1, HV.out.2.2]
                  have hbu : ∀ w9, (Instr.build 30 #[(0, .int .i64 a.kind)]).run Tryz.prog w9 = .ok (.agg Z.cells.toArray) w9 := fun w9 => by rw [hz]; exact bareO_b a HA.out.lock.1 b1 p1 t1 a.B.length b3 a.P.length p3 a.T.length t3 w9
                  clear hz h1 h2 h3 h4 h5 h6 h7 h9
                  go_upto_region 15 with fail
                  go_step
                  iterate 6 (first | go_values | go_skip | go_guarded | go_step | go_upon)
                  refine wpList_step (fun K9 hK9 => ?_)
                  rw [if_pos (by kernel_rfl)]
                  refine wp_build_run (P := Tryz.prog) 30 _ rfl #[(0, .int .i64 a.kind)] (by simp [Act.eval, Act.put]) _ (hbu _) ?_
                  refine hK9 _ _ ?_
                  clear hK9 K9
                  dsimp only [Act.put]
                  simp only [List.setIfInBounds_toArray, List.set_cons_zero, List.set_cons_succ]
                  refine wpList_store_mid (P := Tryz.prog) rfl 30 _ _ rfl (g + 1) 0 Z.cells.toArray rfl rfl HTh.out HSz.out HOne.out ?_
                  generalize World.setCells _ _ _ _ = w4 at *
                  go_wp2
                  refine bodyPost_ret (results_cell_row rfl _ _ (g + 1) _ Z.cells.toArray _ _ rfl HF1.out Tryz.underlying30 rfl HSz.out) rfl ?_
                  exact ⟨rfl, by rw [HG.out]; exact HF2.out⟩
end Go.Proofs.YtnohfondkcbdnaaGreatDoor
