/- proof.Make of ledgers that are not there. -/
import Derived.Test.YtndhmpeabfmfgaaGreatDoorG15
import Derived.Test.YtndhmpeabfmfgaaGreatDoorG20
namespace Go.Proofs.YtndhmpeabfmfgaaGreatDoor
open Go.RowKit Go.Lib
set_option linter.unusedVariables false
set_option linter.unusedSimpArgs false
attribute [local go_sem ↓] Go.wp_at_zero Go.wp_at_succ

theorem results_row3 {P : Program} {fn : Func} {p q r : Tmp} {t1 t2 t3 : TypeId} (h : fn.results = #[.cell p t1, .cell q t2, .cell r t3]) (tmps : Array Value) (w : World) (a b c : Addr) (v1 v2 v3 : Value)
    (hp : tmps.getD p undef = .pointer (some a)) (hq : tmps.getD q undef = .pointer (some b)) (hr : tmps.getD r undef = .pointer (some c))
    (h1 : (loadVar t1 a).run P w = .ok v1 w) (h2 : (loadVar t2 b).run P w = .ok v2 w) (h3 : (loadVar t3 c).run P w = .ok v3 w) :
    (results fn tmps).run P w = .ok (.tuple #[v1, v2, v3]) w := by
  have hp' : tmps[p]?.getD undef = .pointer (some a) := by simpa using hp
  have hq' : tmps[q]?.getD undef = .pointer (some b) := by simpa using hq
  have hr' : tmps[r]?.getD undef = .pointer (some c) := by simpa using hr
  simp [results, h, hp', hq', hr', asAddr, h1, h2, h3, Sem.run_bind, Result.andThen]
theorem results_rows2 {P : Program} {fn : Func} {p q r : Tmp} {t1 t2 : TypeId} (h : fn.results = #[.cell p t1, .cell q t2, .tmp r]) (tmps : Array Value) (w : World) (a b : Addr) (v1 v2 : Value)
    (hp : tmps.getD p undef = .pointer (some a)) (hq : tmps.getD q undef = .pointer (some b))
    (h1 : (loadVar t1 a).run P w = .ok v1 w) (h2 : (loadVar t2 b).run P w = .ok v2 w) :
    (results fn tmps).run P w = .ok (.tuple #[v1, v2, tmps.getD r undef]) w := by
  have hp' : tmps[p]?.getD undef = .pointer (some a) := by simpa using hp
  have hq' : tmps[q]?.getD undef = .pointer (some b) := by simpa using hq
  simp [results, h, hp', hq', asAddr, h1, h2, Sem.run_bind, Result.andThen]

/-- A ledger that is not there. -/
def NoLed (w : World) (p : Option Addr) : Prop := p = none ∨ ∃ g, p = some ⟨g, 0, none⟩ ∧ w.cell? ⟨g, 41, none⟩ = some (.pointer none) ∧ g < w.heap.size
theorem NoLed.below {w w' : World} {p : Option Addr} (h : NoLed w p) (hb : Below w.heap.size w w') : NoLed w' p := by
  rcases h with h | ⟨g, h1, h2, h3⟩
  · exact .inl h
  · exact .inr ⟨g, h1, cellb hb h2, Nat.lt_of_lt_of_le h3 hb.size⟩
set_option maxRecDepth 100000 in
theorem there_no (p : Option Addr) (w : World) (h : NoLed w p) :
    Calls Tryz.prog 22 #[.pointer p] w fun e w' => e = .returned (.bool false) ∧ w' = w := by
  rcases h with rfl | ⟨g, rfl, h2, _⟩
  · go_enter Tryz.func22, Tryz.ntmps22
    go_wp2
    go_ret
    exact ⟨rfl, rfl⟩
  · go_enter Tryz.func22, Tryz.ntmps22
    go_wp2
    go_ret
    exact ⟨rfl, rfl⟩
theorem run_loadVar_one {P : Program} {t : TypeId} {a : Addr} {v : Value} {w : World} (hna : ∀ w, (isAgg t).run P w = .ok false w) (hc : w.cell? a = some v) : (loadVar t a).run P w = .ok v w := by
  simp [loadVar, Sem.run_bind, hna, run_load, hc, Result.andThen]
theorem five_laid (w : World) (L1 L2 L3 L4 L5 : List Value) (t1 t2 t3 t4 t5 : TypeId) (W : World) (hW : W = ((((w.alloc (.cells L1.toArray t1)).alloc (.cells L2.toArray t2)).alloc (.cells L3.toArray t3)).alloc (.cells L4.toArray t4)).alloc (.cells L5.toArray t5)) :
    Arr W w.heap.size t1 L1 ∧ Arr W (w.heap.size + 1) t2 L2 ∧ Arr W (w.heap.size + 1 + 1) t3 L3 ∧ Arr W (w.heap.size + 1 + 1 + 1) t4 L4 ∧ Arr W (w.heap.size + 1 + 1 + 1 + 1) t5 L5 ∧ Below w.heap.size w W := by
  subst hW
  have h3 := three_laid w L1 L2 L3 t1 t2 t3 _ rfl
  generalize he : ((w.alloc (.cells L1.toArray t1)).alloc (.cells L2.toArray t2)).alloc (.cells L3.toArray t3) = w3 at h3 ⊢
  have e3 : w3.heap.size = w.heap.size + 1 + 1 + 1 := by
    rw [← he]
    show (Array.push _ _).size = _
    rw [Array.size_push]
    show (Array.push _ _).size + 1 = _
    rw [Array.size_push]
    show (Array.push _ _).size + 1 + 1 = _
    rw [Array.size_push]
  have h2 := two w3 (.cells L4.toArray t4) (.cells L5.toArray t5)
  have m4 := Arr.made w3 t4 L4
  have e4 : (w3.alloc (.cells L4.toArray t4)).heap.size = w3.heap.size + 1 := by show (Array.push _ _).size = _; rw [Array.size_push]
  have m5 := Arr.made (w3.alloc (.cells L4.toArray t4)) t5 L5
  have b4 : Below w3.heap.size w3 (w3.alloc (.cells L4.toArray t4)) := (Below.refl _ _).alloc (Nat.le_refl _) _
  have b5 := (Below.refl _ (w3.alloc (.cells L4.toArray t4))).alloc (Nat.le_refl _) (.cells L5.toArray t5)
  have b := b4.trans (b5.mono b4.size)
  rw [e4, e3] at m5
  have m4' := m4.below b5 m4.lt
  rw [e3] at m4'
  exact ⟨h3.1.below b h3.1.lt, h3.2.1.below b h3.2.1.lt, h3.2.2.1.below b h3.2.2.1.lt, m4', m5, h3.2.2.2.trans (b.mono h3.2.2.2.size)⟩
/-- The zero hash. -/
def zh : List Value := bys zeroH
theorem zh_len : zh.length = 32 := by simp [zh, bys_len, zeroH]
theorem Arr.setCell_ne {w : World} {g : Nat} {t : TypeId} {vs : List Value} (h : Arr w g t vs) {a : Addr} (hb : g ≠ a.block) (u : Value) : Arr (w.setCell a u) g t vs := by
  unfold Arr at *
  rw [← h]
  exact heap_setCell_other w a g u hb
theorem Arr.setCells_ne {g : Nat} {t : TypeId} {vs : List Value} {b : Nat} (hb : g ≠ b) : ∀ (us : List Value) (o : Nat) {w : World}, Arr w g t vs → Arr (w.setCells b o us) g t vs
  | [], _, _, h => h
  | u :: us, o, w, h => by
    rw [World.setCells]
    exact Arr.setCells_ne hb us (o + 1) (h.setCell_ne hb u)
set_option maxRecDepth 100000 in
set_option maxHeartbeats 3200000 in
theorem accepted_no (p : Option Addr) (H : List Nat) (hH : IsH H) (w : World) (h : NoLed w p) :
    Calls Tryz.prog 8 #[.pointer p, .agg (bys H).toArray] w fun e w' => e = .returned (.tuple #[.agg zh.toArray, .int .i64 0, .int .i64 1]) ∧ Below w.heap.size w w' := by
  have HL := Lib.hid h
  have hz := zero32
  have hlen : zh.length = 32 := zh_len
  have hone : ∀ v ∈ zh, v.oneCell' = true := bys_one zeroH
  clear h hH
  go_enter Tryz.func8, Tryz.ntmps8
  go_upto_region 1 with fail
  have hpk := five_laid w [.pointer p] (bys H) zh [.int .i64 0] [.int .i64 0] 35 23 23 3 32 _ rfl
  rw [show zh.toArray = #[Value.int IntKind.u8 0, Value.int IntKind.u8 0, Value.int IntKind.u8 0, Value.int IntKind.u8 0, Value.int IntKind.u8 0, Value.int IntKind.u8 0, Value.int IntKind.u8 0, Value.int IntKind.u8 0, Value.int IntKind.u8 0, Value.int IntKind.u8 0, Value.int IntKind.u8 0, Value.int IntKind.u8 0, Value.int IntKind.u8 0, Value.int IntKind.u8 0, Value.int IntKind.u8 0, Value.int IntKind.u8 0, Value.int IntKind.u8 0, Value.int IntKind.u8 0, Value.int IntKind.u8 0, Value.int IntKind.u8 0, Value.int IntKind.u8 0, Value.int IntKind.u8 0, Value.int IntKind.u8 0, Value.int IntKind.u8 0, Value.int IntKind.u8 0, Value.int IntKind.u8 0, Value.int IntKind.u8 0, Value.int IntKind.u8 0, Value.int IntKind.u8 0, Value.int IntKind.u8 0, Value.int IntKind.u8 0, Value.int IntKind.u8 0] from rfl] at hpk
  have HP := Lib.hid hpk
  clear hpk
  generalize World.alloc (World.alloc (World.alloc (World.alloc (World.alloc _ _) _) _) _) _ = w1 at *
  have HB := Lib.hid HP.out.2.2.2.2.2
  have HL1 := Lib.hid (HL.out.below HB.out)
  have hc0 := HP.out.1.cell 0
  dsimp only [List.getElem?_cons_zero] at hc0
  obtain ⟨g, hg⟩ : ∃ g, w.heap.size = g := ⟨_, rfl⟩
  rw [hg] at HP HB hc0 ⊢
  have HG := Lib.hid hg
  clear hg HL
  go_wp2_with fail
  with_reducible refine (there_no p w1 HL1.out).mono ?_
  rintro e w2 ⟨rfl, rfl⟩
  dsimp only
  clear hc0 HL1
  go_upto_region 2 with fail
  have HA3 := Lib.hid HP.out.2.2.1
  have HA4 := Lib.hid HP.out.2.2.2.1
  have HA5 := Lib.hid HP.out.2.2.2.2.1
  clear HP
  have HSz := Lib.hid (show (Tryz.prog.info? 23).map (·.size) = some zh.length by rw [hlen]; kernel_rfl)
  have HO := Lib.hid hone
  clear hone hlen
  go_step
  refine wpList_load_mid (P := Tryz.prog) rfl 23 _ rfl (g + 1 + 1) 0 rfl _ _ HA3.out.range Tryz.underlying23 rfl HSz.out ?_
  refine wpList_store_mid (P := Tryz.prog) rfl 23 _ _ rfl (g + 1 + 1) 0 zh.toArray rfl rfl (HA3.out.there _ (by rw [List.size_toArray])) (by rw [List.size_toArray]; exact HSz.out) (all_oneCell_toArray HO.out) ?_
  have HB2 := Lib.hid (below_sets (g + 1 + 1) (by omega) zh.toArray.toList 0 HB.out)
  have HR3 := Lib.hid (HA3.out.setAll zh.toArray.toList rfl)
  have HR4 := Lib.hid (HA4.out.setCells_ne (b := g + 1 + 1) (by omega) zh.toArray.toList 0)
  have HR5 := Lib.hid (HA5.out.setCells_ne (b := g + 1 + 1) (by omega) zh.toArray.toList 0)
  generalize World.setCells _ _ _ _ = w3 at *
  clear HA3 HA4 HA5 HB
  have hf4 := HR4.out.frozen 0
  have hf5 := (HR5.out.setCell_ne (a := ⟨g + 1 + 1 + 1, 0, none⟩) (by show g + 1 + 1 + 1 + 1 ≠ g + 1 + 1 + 1; omega) (.int .i64 0)).frozen 0
  have hd4 := HR4.out.cell 0
  have hd5 := (HR5.out.setCell_ne (a := ⟨g + 1 + 1 + 1, 0, none⟩) (by show g + 1 + 1 + 1 + 1 ≠ g + 1 + 1 + 1; omega) (.int .i64 0)).cell 0
  dsimp only [List.getElem?_cons_zero] at hd4 hd5
  go_wp2
  clear hf4 hf5 hd4 hd5
  have n34 : g + 1 + 1 ≠ g + 1 + 1 + 1 := by omega
  have n35 : g + 1 + 1 ≠ g + 1 + 1 + 1 + 1 := by omega
  have n45 : g + 1 + 1 + 1 ≠ g + 1 + 1 + 1 + 1 := by omega
  have q3 := (HR3.out.setCell_ne (a := ⟨g + 1 + 1 + 1, 0, none⟩) n34 (.int .i64 0)).setCell_ne (a := ⟨g + 1 + 1 + 1 + 1, 0, none⟩) n35 (.int .i64 1)
  have q4 := (HR4.out.set 0 (.int .i64 0)).setCell_ne (a := ⟨g + 1 + 1 + 1 + 1, 0, none⟩) n45 (.int .i64 1)
  have q5 := (HR5.out.setCell_ne (a := ⟨g + 1 + 1 + 1, 0, none⟩) (fun e => n45 e.symm) (.int .i64 0)).set 0 (.int .i64 1)
  have hb := ((HB2.out.setCell (p := ⟨g + 1 + 1 + 1, 0, none⟩) (by show g ≤ g + 1 + 1 + 1; omega) (.int .i64 0)).setCell (p := ⟨g + 1 + 1 + 1 + 1, 0, none⟩) (by show g ≤ g + 1 + 1 + 1 + 1; omega) (.int .i64 1))
  refine bodyPost_ret (results_row3 rfl _ _ ⟨g + 1 + 1, 0, none⟩ ⟨g + 1 + 1 + 1, 0, none⟩ ⟨g + 1 + 1 + 1 + 1, 0, none⟩ (.agg zh.toArray) (.int .i64 0) (.int .i64 1) rfl rfl rfl (run_loadVar_mid _ _ _ _ zh _ q3.range Tryz.underlying23 rfl HSz.out) (run_loadVar_one Tryz.isAgg3 (q4.cell 0)) (run_loadVar_one Tryz.isAgg32 (q5.cell 0))) rfl ?_
  exact ⟨rfl, by rw [HG.out]; exact hb⟩

/-- The zero proof. -/
def hz0 : Hdr := ⟨[], zeroH, zeroH, zeroH, zeroH, 0⟩
def zp : List Value := pfC (.slice none 0 0) hz0 0 0 (.slice none 0 0)
theorem hz0_ok : hz0.ok := ⟨zeroH_h, zeroH_h, zeroH_h, zeroH_h, by show 0 ≤ _; omega⟩
theorem zp_len : zp.length = 133 := pfC_len _ hz0 hz0_ok 0 0 _
theorem zp_one : ∀ v ∈ zp, v.oneCell' = true := by
  intro v hv
  simp only [zp, pfC, hdC, paC, List.mem_append, List.mem_cons, List.not_mem_nil, or_false] at hv
  rcases hv with (rfl | h | h | h | h | rfl) | rfl | rfl | rfl
  all_goals first | rfl | exact bys_one _ _ ‹_›
theorem build_zh (w : World) : (Instr.build 23 #[]).run Tryz.prog w = .ok (.agg zh.toArray) w := by kernel_rfl
theorem build_zp (w : World) : (Instr.build 31 #[]).run Tryz.prog w = .ok (.agg zp.toArray) w := by kernel_rfl
theorem size_zp : (Tryz.prog.info? 31).map (·.size) = some zp.length := size_pf _ hz0 hz0_ok 0 0 _
theorem size_zh : (Tryz.prog.info? 23).map (·.size) = some zh.length := by rw [zh_len]; kernel_rfl
theorem wpList_store_box {P : Program} {ops : Array Oper} {rest : List Oper} {op : Oper} {a : Act} {Q : Exit → Act → World → Prop} (hgd : op.guard = none) (ty : TypeId) (x y : Operand) (ho : op.op = .store ty x y)
    (wr : World) (zs : Array Value) (cs : List Value) (hx : a.eval x = .pointer (some ⟨wr.heap.size, 0, none⟩)) (hy : a.eval y = .agg cs.toArray) (hz : zs.size = cs.length) (hi : (P.info? ty).map (·.size) = some cs.length) (h1 : ∀ v ∈ cs, v.oneCell' = true)
    (h : ∀ w2, Hid (Arr w2 wr.heap.size ty cs) → Hid (Below wr.heap.size wr w2) → wpList P ops Q rest (a.put op.dst undef) w2) : wpList P ops Q (op :: rest) a (wr.alloc (.cells zs ty)) := by
  have hm : Arr (wr.alloc (.cells zs ty)) wr.heap.size ty zs.toList := Arr.made wr ty zs.toList
  have hl : zs.toList.length = cs.length := by rw [Array.length_toList]; exact hz
  refine wpList_store_mid hgd ty x y ho wr.heap.size 0 cs.toArray hx hy (hm.there _ (by rw [List.size_toArray, hl])) (by rw [List.size_toArray]; exact hi) (all_oneCell_toArray h1) ?_
  exact h _ (hm.setAll cs hl.symm) (below_sets wr.heap.size (Nat.le_refl _) cs 0 ((Below.refl wr.heap.size wr).alloc (Nat.le_refl _) (.cells zs ty)))
set_option maxRecDepth 100000 in
set_option maxHeartbeats 3200000 in
theorem make_no (p : Option Addr) (w : World) (h : NoLed w p) :
    Calls Tryz.prog 4 #[.pointer p, .agg zh.toArray] w fun e w' => e = .returned (.tuple #[.agg zh.toArray, .agg zp.toArray, .int .i64 1]) ∧ Below w.heap.size w w' := by
  have HL := Lib.hid h
  have hz := zero32
  have hb1 := build_zh
  have hb2 := build_zp
  clear h
  go_enter Tryz.func4, Tryz.ntmps4
  go_upto_region 1 with fail
  generalize hW : World.alloc (World.alloc (World.alloc _ _) _) _ = w1
  have hpk := three_laid w zh zh zp 23 23 31 w1 (by rw [← hW]; kernel_rfl)
  have HP := Lib.hid hpk
  have HB := Lib.hid hpk.2.2.2
  have HL1 := Lib.hid (HL.out.below hpk.2.2.2)
  clear hpk hW HL
  obtain ⟨g, hg⟩ : ∃ g, w.heap.size = g := ⟨_, rfl⟩
  rw [hg] at HP HB ⊢
  have HG := Lib.hid hg
  clear hg
  have HC := Lib.hid (accepted_no p zeroH zeroH_h w1 HL1.out)
  rw [show (bys zeroH) = zh from rfl] at HC
  go_step
  iterate 3 (first | go_values | go_skip | go_guarded | go_step | go_upon)
  refine wpList_load_mid (P := Tryz.prog) rfl 23 _ rfl g 0 rfl _ _ HP.out.1.range Tryz.underlying23 rfl size_zh ?_
  go_wp2_with fail
  with_reducible refine HC.out.mono ?_
  rintro e w2 ⟨rfl, hb2⟩
  dsimp only
  have HA4 := Lib.hid (HP.out.2.1.below hb2 HP.out.2.1.lt)
  have HA5 := Lib.hid (HP.out.2.2.1.below hb2 HP.out.2.2.1.lt)
  have HZ := Lib.hid (show g ≤ w1.heap.size from Nat.le_of_lt HP.out.1.lt)
  have HB2 := Lib.hid (HB.out.trans (hb2.mono HZ.out))
  have HZ2 := Lib.hid (Nat.le_trans HZ.out hb2.size)
  clear HP HB HL1 HC hb2 HZ
  iterate 16 (first | go_values | go_skip | go_guarded | go_step | go_upon)
  refine wpList_store_box (P := Tryz.prog) rfl 23 _ _ rfl w2 _ zh rfl rfl (by rw [zh_len]; rfl) size_zh (bys_one zeroH) ?_
  intro w3 hA7 hB3
  have HA4n := Lib.hid (HA4.out.below hB3.out HA4.out.lt)
  have HA5n := Lib.hid (HA5.out.below hB3.out HA5.out.lt)
  have HB3 := Lib.hid (HB2.out.trans (hB3.out.mono HZ2.out))
  have HA7 := hA7
  clear HA4 HA5 HB2 hB3 hA7
  have n45 : g + 1 ≠ g + 1 + 1 := by omega
  go_upto_region 5 with fail
  go_step
  iterate 9 (first | go_values | go_skip | go_guarded | go_step | go_upon)
  refine wpList_store_mid (P := Tryz.prog) rfl 23 _ _ rfl (g + 1) 0 zh.toArray rfl rfl (HA4n.out.there _ (by rw [List.size_toArray])) (by rw [List.size_toArray]; exact size_zh) (all_oneCell_toArray (bys_one zeroH)) ?_
  have HB4 := Lib.hid (below_sets (g + 1) (by omega) zh.toArray.toList 0 HB3.out)
  have HR4 := Lib.hid (HA4n.out.setAll zh.toArray.toList rfl)
  have HR5 := Lib.hid (HA5n.out.setCells_ne (b := g + 1) (by omega) zh.toArray.toList 0)
  generalize World.setCells _ _ _ _ = w4 at *
  clear HA4n HA5n HB3
  refine wpList_store_mid (P := Tryz.prog) rfl 31 _ _ rfl (g + 1 + 1) 0 zp.toArray rfl rfl (HR5.out.there _ (by rw [List.size_toArray])) (by rw [List.size_toArray]; exact size_zp) (all_oneCell_toArray zp_one) ?_
  have HB5 := Lib.hid (below_sets (g + 1 + 1) (by omega) zp.toArray.toList 0 HB4.out)
  have HQ4 := Lib.hid (HR4.out.setCells_ne (b := g + 1 + 1) (by omega) zp.toArray.toList 0)
  have HQ5 := Lib.hid (HR5.out.setAll zp.toArray.toList rfl)
  generalize World.setCells _ _ _ _ = w5 at *
  clear HR4 HR5 HB4
  go_wp2
  refine bodyPost_ret (results_rows2 rfl _ _ ⟨g + 1, 0, none⟩ ⟨g + 1 + 1, 0, none⟩ (.agg zh.toArray) (.agg zp.toArray) rfl rfl (run_loadVar_mid _ _ _ _ zh _ HQ4.out.range Tryz.underlying23 rfl size_zh) (run_loadVar_mid _ _ _ _ zp _ HQ5.out.range Tryz.underlying31 rfl size_zp)) rfl ?_
  exact ⟨rfl, by rw [HG.out]; exact HB5.out⟩
end Go.Proofs.YtndhmpeabfmfgaaGreatDoor
