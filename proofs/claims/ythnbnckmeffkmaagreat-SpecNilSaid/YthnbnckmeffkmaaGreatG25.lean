/- slices.AppendSeq of one hash. -/
import Derived.Test.YthnbnckmeffkmaaGreatG24
namespace Go.Proofs.YthnbnckmeffkmaaGreat
open Go.RowKit Go.Lib
set_option linter.unusedVariables false
set_option linter.unusedSimpArgs false
attribute [local go_sem] Oper.semAt_some
attribute [local go_sem ↓] Go.wp_at_zero Go.wp_at_succ

theorem listR_of {P : Program} {ops : Array Oper} {Q : Exit → Go.Act → World → Prop} {n l : Nat} {rest : List Oper} {o : Oper} {a : Go.Act} {w : World} (hg : o.guard = none) (hd : ∀ c, o.op ≠ .defer c) (h : ∀ K : Go.Act → World → Prop, (∀ a w, wpListIn (Fence.wide.inRound l) n P ops Q rest a w → K a w) → o.wp P a w K Q) : wpListIn (Fence.wide.inRound l) n P ops Q (o :: rest) a w :=
  wpListIn_plain hg (fun K hK => operIn_of hd (h K hK))
theorem iloadR {P : Program} {ops : Array Oper} {rest : List Oper} {op : Oper} {n l : Nat} {a : Go.Act} {w : World} {Q : Exit → Go.Act → World → Prop} (hgd : op.guard = none) (ty : TypeId) (x : Operand) (ho : op.op = .load ty x)
    (b o : Nat) (hx : a.eval x = .pointer (some ⟨b, o, none⟩)) (cs : List Value) (d : TypeDesc) (hc : w.rangeAt b o cs)
    (hu : P.underlying ty = some d) (hd : d.isRow = true) (hi : (P.info? ty).map (·.size) = some cs.length)
    (h : wpListIn (Fence.wide.inRound l) n P ops Q rest (a.put op.dst (.agg cs.toArray)) w) : wpListIn (Fence.wide.inRound l) n P ops Q (op :: rest) a w :=
  listR_of hgd (fun c e => by rw [ho] at e; cases e) fun _ hK => wp_load_mid ty x ho b o hx cs d hc hu hd hi (hK _ _ h)
theorem istoreR {P : Program} {ops : Array Oper} {rest : List Oper} {op : Oper} {n l : Nat} {a : Go.Act} {Q : Exit → Go.Act → World → Prop} (hgd : op.guard = none) (ty : TypeId) (x y : Operand) (ho : op.op = .store ty x y)
    (wr : World) (zs : Array Value) (cs : List Value) (hx : a.eval x = .pointer (some ⟨wr.heap.size, 0, none⟩)) (hy : a.eval y = .agg cs.toArray) (hz : zs.size = cs.length) (hi : (P.info? ty).map (·.size) = some cs.length) (h1 : ∀ v ∈ cs, v.oneCell' = true)
    (h : ∀ w2, Hid (Arr w2 wr.heap.size ty cs) → Hid (Below wr.heap.size wr w2) → wpListIn (Fence.wide.inRound l) n P ops Q rest (a.put op.dst undef) w2) : wpListIn (Fence.wide.inRound l) n P ops Q (op :: rest) a (wr.alloc (.cells zs ty)) := by
  have hm : Arr (wr.alloc (.cells zs ty)) wr.heap.size ty zs.toList := Arr.made wr ty zs.toList
  have hl : zs.toList.length = cs.length := by rw [Array.length_toList]; exact hz
  refine listR_of hgd (fun c e => by rw [ho] at e; cases e) (fun _ hK => wp_store_mid ty x y ho wr.heap.size 0 cs.toArray hx hy (hm.there _ (by rw [List.size_toArray, hl])) (by rw [List.size_toArray]; exact hi) (all_oneCell_toArray h1) (hK _ _ ?_))
  exact h _ (hm.setAll cs hl.symm) (below_sets wr.heap.size (Nat.le_refl _) cs 0 ((Below.refl wr.heap.size wr).alloc (Nat.le_refl _) (.cells zs ty)))
theorem hs_build0 (H : List Nat) (hH : H.length = 32) (w : World) :
    (Instr.buildSlice 39 1 #[(0, .agg (bys H).toArray)]).run Tryz.prog w = .ok (.slice (some ⟨w.heap.size, 0, none⟩) 1 1) (w.alloc (.cells (bys H).toArray 24)) := by
  match H, hH with
  | [x0, x1, x2, x3, x4, x5, x6, x7, x8, x9, x10, x11, x12, x13, x14, x15, x16, x17, x18, x19, x20, x21, x22, x23, x24, x25, x26, x27, x28, x29, x30, x31], _ => show _ = _; kernel_rfl
theorem hs_build (w : World) : (Instr.buildSlice 39 1 #[(0, .agg (bys gI).toArray)]).run Tryz.prog w = .ok (.slice (some ⟨w.heap.size, 0, none⟩) 1 1) (w.alloc (.cells (bys gI).toArray 24)) := hs_build0 gI gI_h.1 w
theorem arr_kept {A B : World} {row : Option Nat} {g : Nat} {t : TypeId} {vs : List Value} (h : Arr A g t vs) (hg : A.grownBy B row) (hr : ∀ r, row = some r → ∃ o : Obj, A.heap[r]? = some o ∧ o.isCells = false) : Arr B g t vs := by
  unfold Arr at *
  rw [hg.block g (Arr.lt h) (fun e => by
    obtain ⟨o, ho, hc⟩ := hr g e.symm
    rw [h] at ho; cases ho; cases hc)]
  exact h
/-- Between two rounds: the row so far. -/
def ApI (w : World) (B : Nat) (pre : List Unit) (W : World) : Prop :=
  ((pre = [] ∧ Arr W B 39 [.slice none 0 0]) ∨ (pre = [()] ∧ ∃ g cap, B < g ∧ 1 ≤ cap ∧ cap ≤ maxLen ∧ Arr W B 39 [.slice (some ⟨g, 0, none⟩) 1 cap] ∧ W.rangeAt g 0 (bys gI))) ∧ Below B w W
theorem apI_own (w : World) (B B' : Nat) (hB : B ≤ w.heap.size) (hB' : B ≤ B') : OwnFrom B' (ApI w B) :=
  OwnFrom.and (Own.from (fun s A C row hs hg hr => by
    rcases hs with ⟨h1, h2⟩ | ⟨h1, g, cap, h3, h4, h5, h6, h7⟩
    · exact .inl ⟨h1, arr_kept h2 hg hr⟩
    · exact .inr ⟨h1, g, cap, h3, h4, h5, arr_kept h6 hg hr, fun j v hv => cell_kept (h7 j v hv) hg hr⟩) _) (ownFrom_below hB hB')
theorem ApI.below {w : World} {B : Nat} {pre : List Unit} {W W' : World} (h : ApI w B pre W) (hz : B ≤ W.heap.size) (hb : Below W.heap.size W W') : ApI w B pre W' := by
  refine ⟨?_, h.2.trans (hb.mono hz)⟩
  rcases h.1 with ⟨h1, h2⟩ | ⟨h1, g, cap, h3, h4, h5, h6, h7⟩
  · exact .inl ⟨h1, h2.below hb h2.lt⟩
  · exact .inr ⟨h1, g, cap, h3, h4, h5, h6.below hb h6.lt, range_keep h7 gI_h hb⟩
theorem keepsW_below {W W' : World} (h : Below W.heap.size W W') : KeepsWalks W W' := ⟨h.size, fun k o hk _ => (h.block k (Array.getElem?_eq_some_iff.1 hk).1).trans hk⟩
theorem keepsF_below {B : Nat} {W W' : World} (h : Below W.heap.size W W') : KeepsFrom B W W' := ⟨h.size, fun k o _ hk _ => (h.block k (Array.getElem?_eq_some_iff.1 hk).1).trans hk⟩
theorem keepsW_set {W : World} {b : Nat} {v : Value} {cs : List Value} {t : TypeId} (hb : Arr W b t cs) : KeepsWalks W (W.setCell ⟨b, 0, none⟩ v) := by
  refine ⟨by simp, fun k o hk ho => ?_⟩
  rw [← hk]
  refine heap_setCell_other W ⟨b, 0, none⟩ k v (fun e => ?_)
  have e : k = b := e
  subst e
  unfold Arr at hb
  rw [hb] at hk
  cases hk
  cases ho
theorem keepsF_set {W : World} {b B : Nat} {v : Value} {cs : List Value} {t : TypeId} (hb : Arr W b t cs) : KeepsFrom B W (W.setCell ⟨b, 0, none⟩ v) := by
  refine ⟨by simp, fun k o _ hk ho => ?_⟩
  rw [← hk]
  refine heap_setCell_other W ⟨b, 0, none⟩ k v (fun e => ?_)
  have e : k = b := e
  subst e
  unfold Arr at hb
  rw [hb] at hk
  cases hk
  cases ho
def ApA (bm B : Nat) (a' : Go.Act) (W : World) : Prop := ∃ t5, a' = ({ tmps := #[.slice none 0 0, .func (.func 106) #[] #[.pointer (some ⟨bm, 0, none⟩)], .pointer (some ⟨B, 0, none⟩), undef, .slice none 0 0, .pointer (some ⟨t5, 0, none⟩), .func (.func 106) #[] #[.pointer (some ⟨bm, 0, none⟩)], .agg (bys gI).toArray, undef, undef, undef, undef, undef], defers := [] } : Go.Act) ∧ Arr W t5 24 (bys gI)
theorem apA_own (bm B B' : Nat) (a' : Go.Act) : OwnFrom B' (fun (_ : Unit) W => ApA bm B a' W) := Own.from (fun s A C row hs hg hr => by
  obtain ⟨t5, h1, h2⟩ := hs
  exact ⟨t5, h1, arr_kept h2 hg hr⟩) _
set_option maxRecDepth 100000 in
set_option maxHeartbeats 3200000 in
theorem apseq_in (n : Nat) (hn : 2 ≤ n) (bm m : Nat) (v : Value) (w : World) (hb : Arr w bm 92 [.map (some m)]) (hm : OneM w m gI v) :
    CallsIn Fence.wide n Tryz.prog 164 #[.slice none 0 0, .func (.func 106) #[] #[.pointer (some ⟨bm, 0, none⟩)]] w fun e w' => ∃ g cap, e = .returned (.slice (some ⟨g, 0, none⟩) 1 cap) ∧ 1 ≤ cap ∧ cap ≤ maxLen ∧ w'.rangeAt g 0 (bys gI) ∧ Below w.heap.size w w' := by
  have h1 : 1 ≤ n := by omega
  have hz := zero_h
  have HBm := Lib.hid hb
  have HM := Lib.hid hm
  clear hb hm
  refine callsIn_of_wp_marks Tryz.func164 rfl trivial ?_ rfl
  simp only [Tryz.ntmps164, List.size_toArray, List.length_cons, List.length_nil, Nat.reduceAdd, Nat.reduceSub, Array.replicate_succ, Array.replicate_zero, List.push_toArray, List.append_toArray, List.nil_append, List.cons_append]
  have hnil : ∀ w9, (binOp .eql 114 (.func (.func 106) #[] #[.pointer (some ⟨bm, 0, none⟩)]) Value.nilFunc).run Tryz.prog w9 = .ok (.bool false) w9 := fun w9 => by kernel_rfl
  gi_wp2_with fail
  clear hnil
  have hm1 := Arr.made w 39 [.slice none 0 0]
  have hb1 := (Below.refl w.heap.size w).alloc (Nat.le_refl _) (.cells [Value.slice none 0 0].toArray 39)
  have HB1 := Lib.hid (HBm.out.below hb1 HBm.out.lt)
  have HM1 := Lib.hid (HM.out.below hb1)
  have HA := Lib.hid hm1
  have HB := Lib.hid hb1
  have HS1 := Lib.hid (World.size_alloc w (.cells [Value.slice none 0 0].toArray 39))
  clear hm1 hb1 HBm HM
  generalize World.alloc _ _ = w1 at *
  obtain ⟨B, hB⟩ : ∃ B, w.heap.size = B := ⟨_, rfl⟩
  rw [hB] at HA HB HS1 ⊢
  have HBe := Lib.hid hB
  refine wpIn_rangeFunc_ownH rfl h1 (gf := 106) (lb := #[.pointer (some ⟨bm, 0, none⟩)]) rfl trivial (enters_of Tryz.func106 (by kernel_rfl) rfl)
    (keys1_stops (n - 1) bm m v w1 HB1.out HM1.out) (fun h k => h.trans k)
    (fun W l o o' hl h ho hw => ⟨(grownBy_putObj' W l o').size, fun k x hk hx => by
      by_cases e : k = l
      · subst e; rw [h] at hk; cases hk; rw [hw] at hx; cases hx
      · exact (World.putObj_heap_other e).trans hk⟩) (Below.refl _ _) (fun _ => rfl)
    (ApI w B) (fun _ _ _ => False) (apI_own w B _ (by omega) (by have := HS1.out; omega)) (fun _ _ _ _ _ hs _ _ => hs) ⟨.inl ⟨rfl, HA.out⟩, HB.out⟩
    (fun _ a' W => ApA bm B a' W) (fun _ a' => apA_own bm B _ a') ?assign ?body ?done ?stop
  case assign =>
    rintro l pre x W K hI hK
    have HI := Lib.hid hI
    have HZI := Lib.hid (show B ≤ W.heap.size from Nat.le_trans (Nat.le_of_eq hB.symm) hI.2.size)
    have HK := Lib.hid hK
    clear hI hK
    rw [show (Array.foldl (fun (t : Array Value) (x : Nat × Value) => match x with | (p, v) => t.setIfInBounds p v) #[.slice none 0 0, .func (.func 106) #[] #[.pointer (some ⟨bm, 0, none⟩)], .pointer (some ⟨B, 0, none⟩), undef, .slice none 0 0, undef, .func (.func 106) #[] #[.pointer (some ⟨bm, 0, none⟩)], undef, undef, undef, undef, undef, undef] ((#[7] : Array Nat).zip #[Value.agg (bys gI).toArray])) = #[.slice none 0 0, .func (.func 106) #[] #[.pointer (some ⟨bm, 0, none⟩)], .pointer (some ⟨B, 0, none⟩), undef, .slice none 0 0, undef, .func (.func 106) #[] #[.pointer (some ⟨bm, 0, none⟩)], .agg (bys gI).toArray, undef, undef, undef, undef, undef] by simp]
    iterate 5 gi_step
    refine istoreR (P := Tryz.prog) rfl 24 _ _ rfl W _ (bys gI) rfl rfl (by rw [List.size_toArray, bys_len, bys_len, zH_h.1, gI_h.1]) (size_h2 gI gI_h) (bys_one gI) ?_
    intro W2 ha2 hb2
    have HI2 := Lib.hid (HI.out.below HZI.out hb2.out)
    gi_wp2
    exact HK.out _ W2 (keepsF_below hb2.out) (keepsW_below hb2.out) HI2.out ⟨W.heap.size, rfl, ha2.out⟩
  case body =>
    rintro l pre x a' W hl hr hI ⟨t5, rfl, h5⟩ hlen
    obtain ⟨rfl, hA⟩ : pre = [] ∧ Arr W B 39 [.slice none 0 0] := by
      rcases hI.1 with h | ⟨h, _⟩
      · exact h
      · rw [h] at hlen; exact absurd hlen (by decide)
    have HT := Lib.hid h5
    have HAw := Lib.hid hA
    have HBw := Lib.hid hI.2
    clear h5 hA hI hlen hl hr
    have hc := HAw.out.cell 0
    dsimp only [List.getElem?_cons_zero] at hc
    iterate 6 gi_step
    refine iloadR (P := Tryz.prog) rfl 24 _ rfl t5 0 rfl (bys gI) _ HT.out.range Tryz.underlying24 rfl (size_h2 gI gI_h) ?_
    simp only [Act.put, List.setIfInBounds_toArray, List.set_cons_zero, List.set_cons_succ]
    refine listR_of rfl (fun c e => by cases e) (fun K hK => ?_)
    refine wp_bs_run (P := Tryz.prog) 39 1 _ rfl #[(0, .agg (bys gI).toArray)] (by simp only [List.map_toArray, List.map_cons, List.map_nil]; rfl) _ (hs_build W) (hK _ _ ?_)
    simp only [Act.put, List.setIfInBounds_toArray, List.set_cons_zero, List.set_cons_succ]
    have hb3 := (Below.refl W.heap.size W).alloc (Nat.le_refl _) (.cells (bys gI).toArray 24)
    have HR3 := Lib.hid (Arr.made W 24 (bys gI))
    have HA3 := Lib.hid (HAw.out.below hb3 HAw.out.lt)
    have HZw := Lib.hid (show B < W.heap.size from HAw.out.lt)
    have HZ3 := Lib.hid hb3.size
    have HB3 := Lib.hid hb3
    obtain ⟨r3, hr3⟩ : ∃ r3, W.heap.size = r3 := ⟨_, rfl⟩
    rw [hr3] at HR3 HZw HZ3 ⊢
    clear hb3 hr3 hK
    generalize World.alloc _ _ = W3 at *
    have HO := Lib.hid (show W3.ownsRow W3.heap.size 24 32 (.slice none 0 0) 0 [] from ⟨by simp, .inl ⟨rfl, rfl⟩⟩)
    obtain ⟨i0, hi, hzz⟩ := Option.map_eq_some_iff.1 (show (Tryz.prog.info? 24).map (fun i => (i.zero, i.size, i.bytes)) = some (some (.agg (bys zH).toArray), 32, 32) by kernel_rfl)
    simp only [Prod.mk.injEq] at hzz
    obtain ⟨hz0, hz1, hz2⟩ := hzz
    have HI0 := Lib.hid (And.intro hi (And.intro hz0 (And.intro hz1 hz2)))
    clear hi hz0 hz1 hz2
    refine wpListIn_append_own W3 rfl (.tmp 8) (.tmp 10) 39 rfl W3.heap.size 24 i0 (.agg (bys zH).toArray) 32 32 Tryz.underlying39 HI0.out.1 HI0.out.2.1 HI0.out.2.2.1 HI0.out.2.2.2 (by kernel_rfl) (by omega) (.slice none 0 0) 0 [] rfl HO.out ⟨r3, 0, none⟩ 1 1 (bys gI) rfl (by rw [bys_len, gI_h.1]) (fun j u hu => by rw [add_nospot']; exact HR3.out.range j u hu) (bys_one gI) (by unfold maxLen; omega) (by omega) (Nat.le_refl _) ?_
    intro v4 w4 ho4 hg4 _
    obtain ⟨g, cap, rfl, p1, p2, p3, p4, p5⟩ := own_one ho4
    have hbb : Below W3.heap.size W3 w4 := (Below.refl _ _).grown hg4 (Nat.le_refl _) (fun k hk => by cases hk)
    have HA4 := Lib.hid (HA3.out.below hbb HA3.out.lt)
    have HK4 := Lib.hid (And.intro ((keepsF_below (B := w1.heap.size) HB3.out).trans (keepsF_below (B := w1.heap.size) hbb)) ((keepsW_below HB3.out).trans (keepsW_below hbb)))
    have HB4 := Lib.hid (show Below B w w4 from (HBw.out.trans (HB3.out.mono (Nat.le_of_lt HAw.out.lt))).trans (hbb.mono (Nat.le_of_lt HA3.out.lt)))
    have HP := Lib.hid (And.intro p1 (And.intro p2 (And.intro (show B < g by have := HZw.out; have := HZ3.out; omega) (show w4.rangeAt g 0 (bys gI) from p5))))
    clear ho4 hg4 p1 p2 p3 p4 p5 hbb HA3 HB3 HR3 HO HI0 hc HT HAw HBw
    have hc4 := HA4.out.cell 0
    have hf4 := HA4.out.frozen 0
    dsimp only [List.getElem?_cons_zero] at hc4
    gi_wp2
    have HA5 := HA4.out.set 0 (.slice (some ⟨g, 0, none⟩) 1 cap)
    dsimp only [List.set_cons_zero] at HA5
    refine ⟨HK4.out.1.trans (keepsF_set HA4.out), HK4.out.2.trans (keepsW_set HA4.out), .inr ⟨rfl, g, cap, HP.out.2.2.1, HP.out.1, HP.out.2.1, HA5, range_other HP.out.2.2.2 B 0 _ (by have := HP.out.2.2.1; omega)⟩, HB4.out.setCell (p := ⟨B, 0, none⟩) (Nat.le_refl B) _⟩
  case done =>
    rintro D ys W hD rfl hI hK
    obtain ⟨g, cap, q1, q2, q3, hA, hR⟩ : ∃ g cap, B < g ∧ 1 ≤ cap ∧ cap ≤ maxLen ∧ Arr W B 39 [.slice (some ⟨g, 0, none⟩) 1 cap] ∧ W.rangeAt g 0 (bys gI) := by
      rcases hI.1 with ⟨h, _⟩ | ⟨_, h⟩
      · cases h
      · exact h
    have HQ := Lib.hid (And.intro q2 (And.intro q3 hR))
    have HAw := Lib.hid hA
    have HBw := Lib.hid hI.2
    have HDl := Lib.hid hD
    have HK := Lib.hid hK
    clear hI hD hK hA q1 q2 q3 hR
    have hc := HAw.out.cell 0
    dsimp only [List.getElem?_cons_zero] at hc
    gi_wp2
    refine ⟨by simp, .inl ⟨_, _, rfl, run_takeDeferred HK.out, ?_⟩⟩
    refine ⟨_, results_tmp rfl _ _ _, g, cap, rfl, HQ.out.1, HQ.out.2.1, fun j v hv => cell_kept (HQ.out.2.2 j v hv) (grownBy_putObj' W D (.deferred none)) (fun r e => by cases e; exact ⟨_, HK.out, rfl⟩), ?_⟩
    rw [HBe.out]
    exact HBw.out.trans (belowK_b (w := w1) (by have := HS1.out; omega) W D (.deferred (some [])) (.deferred none) HDl.out HK.out rfl rfl)
  case stop =>
    rintro D c pre W _ _ h _
    exact h.elim
end Go.Proofs.YthnbnckmeffkmaaGreat
/- spec.All of the genesis. -/
namespace Go.Proofs.YthnbnckmeffkmaaGreat
open Go.RowKit Go.Lib
set_option linter.unusedVariables false
set_option linter.unusedSimpArgs false
attribute [local go_sem ↓] Go.wp_at_zero Go.wp_at_succ

set_option maxRecDepth 100000 in
set_option maxHeartbeats 1600000 in
theorem collect_one (bm m : Nat) (v : Value) (w : World) (hb : Arr w bm 92 [.map (some m)]) (hm : OneM w m gI v) :
    Calls Tryz.prog 104 #[.func (.func 106) #[] #[.pointer (some ⟨bm, 0, none⟩)]] w fun e w' => ∃ g cap, e = .returned (.slice (some ⟨g, 0, none⟩) 1 cap) ∧ 1 ≤ cap ∧ cap ≤ maxLen ∧ w'.rangeAt g 0 (bys gI) ∧ Below w.heap.size w w' := by
  have HC := Lib.hid (callsIn_wide.1 (apseq_in 2 (Nat.le_refl _) bm m v w hb hm))
  clear hb hm
  go_enter Tryz.func104, Tryz.ntmps104
  go_wp2_with fail
  with_reducible refine HC.out.mono ?_
  rintro e w2 ⟨g, cap, rfl, p1, p2, p3, hb9⟩
  dsimp only
  have HQ := Lib.hid (And.intro p1 (And.intro p2 (And.intro p3 hb9)))
  clear p1 p2 p3 hb9 HC
  go_wp2
  go_ret
  exact ⟨g, cap, rfl, HQ.out⟩
set_option maxRecDepth 100000 in
set_option maxHeartbeats 1600000 in
theorem sortedf_one (bm m : Nat) (v : Value) (w : World) (hb : Arr w bm 92 [.map (some m)]) (hm : OneM w m gI v) (f : Value) :
    Calls Tryz.prog 50 #[.func (.func 106) #[] #[.pointer (some ⟨bm, 0, none⟩)], f] w fun e w' => ∃ g cap, e = .returned (.slice (some ⟨g, 0, none⟩) 1 cap) ∧ 1 ≤ cap ∧ cap ≤ maxLen ∧ w'.rangeAt g 0 (bys gI) ∧ Below w.heap.size w w' := by
  have HC := Lib.hid (collect_one bm m v w hb hm)
  clear hb hm
  go_enter Tryz.func50, Tryz.ntmps50
  go_wp2_with fail
  with_reducible refine HC.out.mono ?_
  rintro e w2 ⟨g, cap, rfl, p1, p2, p3, hb9⟩
  dsimp only
  have HQ := Lib.hid (And.intro p1 (And.intro p2 (And.intro p3 hb9)))
  clear p1 p2 p3 hb9 HC
  have HC := Lib.hid (sortf_h1 (some ⟨g, 0, none⟩) cap f w2)
  go_wp2_with fail
  with_reducible refine HC.out.mono ?_
  rintro e w3 ⟨rfl, hb9⟩
  dsimp only
  have HQ2 := Lib.hid (And.intro HQ.out.1 (And.intro HQ.out.2.1 (And.intro (range_keep HQ.out.2.2.1 gI_h hb9) (HQ.out.2.2.2.trans (hb9.mono HQ.out.2.2.2.size)))))
  clear hb9 HC HQ
  go_wp2
  go_ret
  exact ⟨g, cap, rfl, HQ2.out⟩
set_option maxRecDepth 100000 in
set_option maxHeartbeats 1600000 in
theorem keys_one (m : Nat) (w : World) : Calls Tryz.prog 51 #[.map (some m)] w fun e w' => ∃ bm, e = .returned (.func (.func 106) #[] #[.pointer (some ⟨bm, 0, none⟩)]) ∧ Arr w' bm 92 [.map (some m)] ∧ Below w.heap.size w w' := by
  go_enter Tryz.func51, Tryz.ntmps51
  go_wp2
  go_ret
  exact ⟨_, rfl, Arr.made w 92 [.map (some m)], (Below.refl _ _).alloc (Nat.le_refl _) _⟩
set_option maxRecDepth 100000 in
set_option maxHeartbeats 1600000 in
theorem there_one (G : GB) (V : List Value) (sv : Value) (w : World) (hG : Gen G V sv w) : Calls Tryz.prog 49 #[.pointer (some ⟨G.wd, 0, none⟩)] w fun e w' => e = .returned (.bool true) ∧ Below w.heap.size w w' := by
  have hn : ∀ w9, (binOp .neq 92 (.map (some G.m)) (.map none)).run Tryz.prog w9 = .ok (.bool true) w9 := fun w9 => by kernel_rfl
  have hc := hG.all
  clear hG
  go_enter Tryz.func49, Tryz.ntmps49
  go_wp2
  go_ret
  exact ⟨rfl, Below.refl _ _⟩
set_option maxRecDepth 100000 in
set_option maxHeartbeats 1600000 in
theorem all_one (G : GB) (V : List Value) (sv : Value) (w : World) (hG : Gen G V sv w) :
    Calls Tryz.prog 14 #[.pointer (some ⟨G.wd, 0, none⟩)] w fun e w' => ∃ g cap, e = .returned (.slice (some ⟨g, 0, none⟩) 1 cap) ∧ 1 ≤ cap ∧ cap ≤ maxLen ∧ w'.rangeAt g 0 (bys gI) ∧ Below w.heap.size w w' := by
  have HC := Lib.hid (there_one G V sv w hG)
  have HG := Lib.hid hG
  clear hG
  go_enter Tryz.func14, Tryz.ntmps14
  go_wp2_with fail
  with_reducible refine HC.out.mono ?_
  rintro e w2 ⟨rfl, hb9⟩
  dsimp only
  have HB := Lib.hid hb9
  have HG2 := Lib.hid (HG.out.below hb9)
  clear hb9 HC HG
  have hc := HG2.out.all
  have HC := Lib.hid (keys_one G.m w2)
  go_wp2_with fail
  with_reducible refine HC.out.mono ?_
  rintro e w3 ⟨bm, rfl, ha, hb9⟩
  dsimp only
  have HC := Lib.hid (sortedf_one bm G.m _ w3 ha (HG2.out.m.below hb9) (.func (.func 52) #[] #[]))
  have HB2 := Lib.hid (HB.out.trans (hb9.mono HB.out.size))
  clear ha hb9 HG2 HB hc
  go_wp2_with fail
  with_reducible refine HC.out.mono ?_
  rintro e w4 ⟨g, cap, rfl, p1, p2, p3, hb9⟩
  dsimp only
  have HQ := Lib.hid (And.intro p1 (And.intro p2 (And.intro p3 hb9)))
  clear p1 p2 p3 hb9 HC
  go_wp2
  go_ret
  exact ⟨g, cap, rfl, HQ.out.1, HQ.out.2.1, HQ.out.2.2.1, HB2.out.trans (HQ.out.2.2.2.mono HB2.out.size)⟩
end Go.Proofs.YthnbnckmeffkmaaGreat
/- spec.Tips of the genesis. -/
namespace Go.Proofs.YthnbnckmeffkmaaGreat
open Go.RowKit Go.Lib
set_option linter.unusedVariables false
set_option linter.unusedSimpArgs false
attribute [local go_sem ↓] Go.wp_at_zero Go.wp_at_succ

set_option maxRecDepth 100000 in
set_option maxHeartbeats 1600000 in
theorem index_nil (w : World) : Calls Tryz.prog 109 #[.slice none 0 0, .agg (bys gI).toArray] w fun e w' => e = .returned (.int .i64 (-1)) ∧ Below w.heap.size w w' := by
  go_enter Tryz.func109, Tryz.ntmps109
  go_upto_region 1 with fail
  have hb := (Below.refl w.heap.size w).alloc (Nat.le_refl _) (.cells (bys gI).toArray 24)
  have HB := Lib.hid hb
  clear hb
  generalize World.alloc _ _ = w1 at *
  go_wp2
  refine wp_loop_rounds 1 ?_
  rw [rounds_succ]
  go_wp2
  go_ret
  exact ⟨rfl, HB.out⟩
set_option maxRecDepth 100000 in
set_option maxHeartbeats 1600000 in
theorem contains_nil (w : World) : Calls Tryz.prog 59 #[.slice none 0 0, .agg (bys gI).toArray] w fun e w' => e = .returned (.bool false) ∧ Below w.heap.size w w' := by
  go_enter Tryz.func59, Tryz.ntmps59
  go_upto_region 1 with fail
  have hb := (Below.refl w.heap.size w).alloc (Nat.le_refl _) (.cells (bys gI).toArray 24)
  have HB := Lib.hid hb
  have HT := Lib.hid (Arr.made w 24 (bys gI))
  obtain ⟨g, hg⟩ : ∃ g, w.heap.size = g := ⟨_, rfl⟩
  rw [hg] at HT HB ⊢
  have HG := Lib.hid hg
  clear hb hg
  generalize World.alloc _ _ = w1 at *
  go_step
  iterate 3 (first | go_values | go_skip | go_guarded | go_step | go_upon)
  refine wpList_load_mid (P := Tryz.prog) rfl 24 _ rfl (g) (0) rfl _ _ (HT.out.range) Tryz.underlying24 rfl (size_h2 gI gI_h) ?_
  simp only [Act.put, List.setIfInBounds_toArray, List.set_cons_zero, List.set_cons_succ]
  have HC := Lib.hid (index_nil w1)
  go_wp2_with fail
  with_reducible refine HC.out.mono ?_
  rintro e w2 ⟨rfl, hb9⟩
  dsimp only
  have HB2 := Lib.hid (HB.out.trans (hb9.mono (Nat.le_of_lt HT.out.lt)))
  clear hb9 HC HB HT
  go_wp2
  go_ret
  exact ⟨rfl, by rw [HG.out]; exact HB2.out⟩
set_option maxRecDepth 100000 in
set_option maxHeartbeats 1600000 in
theorem indexf_t1 (b off c p q : Nat) (w : World) (hr : w.rangeAt b off (bys gI)) (hK : ∀ w', Below w.heap.size w w' → Calls Tryz.prog 56 #[.agg (bys gI).toArray, .pointer (some ⟨p, 0, none⟩), .pointer (some ⟨q, 0, none⟩)] w' fun e w'' => e = .returned (.bool false) ∧ Below w'.heap.size w' w'') :
    Calls Tryz.prog 108 #[.slice (some ⟨b, off, none⟩) 1 c, .func (.func 56) #[] #[.pointer (some ⟨p, 0, none⟩), .pointer (some ⟨q, 0, none⟩)]] w fun e w' => e = .returned (.int .i64 (-1)) ∧ Below w.heap.size w w' := by
  have HR := Lib.hid hr
  have HC := Lib.hid (hK w (Below.refl _ _))
  clear hr hK
  go_enter Tryz.func108, Tryz.ntmps108
  go_wp2
  refine wp_loop_rounds 2 ?_
  rw [rounds_succ]
  go_upto_region 4 with fail
  go_step
  iterate 12 (first | go_values | go_skip | go_guarded | go_step | go_upon)
  refine wpList_load_mid (P := Tryz.prog) rfl 24 _ rfl (b) (off) rfl _ _ (HR.out) Tryz.underlying24 rfl (size_h2 gI gI_h) ?_
  simp only [Act.put, List.setIfInBounds_toArray, List.set_cons_zero, List.set_cons_succ]
  go_wp2_with fail
  with_reducible refine HC.out.mono ?_
  rintro e w2 ⟨rfl, hb9⟩
  dsimp only
  have HB := Lib.hid hb9
  clear hb9 HC HR
  go_wp2
  rw [rounds_succ]
  go_wp2
  go_ret
  exact ⟨rfl, HB.out⟩
set_option maxRecDepth 100000 in
set_option maxHeartbeats 1600000 in
theorem indexf_t2 (b off c p q : Nat) (w : World) (hr : w.rangeAt b off (bys gI)) (hK : ∀ w', Below w.heap.size w w' → Calls Tryz.prog 58 #[.agg (bys gI).toArray, .pointer (some ⟨p, 0, none⟩), .pointer (some ⟨q, 0, none⟩)] w' fun e w'' => e = .returned (.bool false) ∧ Below w'.heap.size w' w'') :
    Calls Tryz.prog 108 #[.slice (some ⟨b, off, none⟩) 1 c, .func (.func 58) #[] #[.pointer (some ⟨p, 0, none⟩), .pointer (some ⟨q, 0, none⟩)]] w fun e w' => e = .returned (.int .i64 (-1)) ∧ Below w.heap.size w w' := by
  have HR := Lib.hid hr
  have HC := Lib.hid (hK w (Below.refl _ _))
  clear hr hK
  go_enter Tryz.func108, Tryz.ntmps108
  go_wp2
  refine wp_loop_rounds 2 ?_
  rw [rounds_succ]
  go_upto_region 4 with fail
  go_step
  iterate 12 (first | go_values | go_skip | go_guarded | go_step | go_upon)
  refine wpList_load_mid (P := Tryz.prog) rfl 24 _ rfl (b) (off) rfl _ _ (HR.out) Tryz.underlying24 rfl (size_h2 gI gI_h) ?_
  simp only [Act.put, List.setIfInBounds_toArray, List.set_cons_zero, List.set_cons_succ]
  go_wp2_with fail
  with_reducible refine HC.out.mono ?_
  rintro e w2 ⟨rfl, hb9⟩
  dsimp only
  have HB := Lib.hid hb9
  clear hb9 HC HR
  go_wp2
  rw [rounds_succ]
  go_wp2
  go_ret
  exact ⟨rfl, HB.out⟩
structure TiS (G : GB) (V : List Value) (sv : Value) (pb ib : Nat) (w : World) : Prop where
  n : Gen G V sv w
  p : Arr w pb 30 [.pointer (some ⟨G.wd, 0, none⟩)]
  t : Arr w ib 24 (bys gI)
theorem TiS.below {G : GB} {V : List Value} {sv : Value} {pb ib : Nat} {w w' : World} (h : TiS G V sv pb ib w) (hb : Below w.heap.size w w') : TiS G V sv pb ib w' := ⟨h.n.below hb, h.p.below hb h.p.lt, h.t.below hb h.t.lt⟩
structure TjS (G : GB) (V : List Value) (sv : Value) (pb ib tb : Nat) (w : World) : Prop where
  s : TiS G V sv pb ib w
  u : Arr w tb 24 (bys gI)
theorem TjS.below {G : GB} {V : List Value} {sv : Value} {pb ib tb : Nat} {w w' : World} (h : TjS G V sv pb ib tb w) (hb : Below w.heap.size w w') : TjS G V sv pb ib tb w' := ⟨h.s.below hb, h.u.below hb h.u.lt⟩
set_option maxRecDepth 100000 in
set_option maxHeartbeats 3200000 in
theorem tips2 (G : GB) (V : List Value) (sv : Value) (pb ib : Nat) (w : World) (hS : TiS G V sv pb ib w) :
    Calls Tryz.prog 58 #[.agg (bys gI).toArray, .pointer (some ⟨pb, 0, none⟩), .pointer (some ⟨ib, 0, none⟩)] w fun e w' => e = .returned (.bool false) ∧ Below w.heap.size w w' := by
  have HS := Lib.hid hS
  clear hS
  go_enter Tryz.func58, Tryz.ntmps58
  go_upto_region 1 with fail
  have hb := (Below.refl w.heap.size w).alloc (Nat.le_refl _) (.cells (bys gI).toArray 24)
  have HB := Lib.hid hb.drew
  have HT := Lib.hid (show TjS G V sv pb ib w.heap.size (World.drew (w.alloc (.cells (bys gI).toArray 24))) from TjS.below ⟨HS.out.below hb, Arr.made w 24 (bys gI)⟩ (Below.refl _ _).drew)
  obtain ⟨tb, hg⟩ : ∃ g, w.heap.size = g := ⟨_, rfl⟩
  rw [hg] at HT HB ⊢
  have HG := Lib.hid hg
  clear hb hg HS
  have HS0 := HT
  clear HT
  refine wp_region_H (TjS G V sv pb ib tb) (by kernel_rfl) ?_
  generalize World.drew _ = w1 at *
  have HZ := Lib.hid (show tb ≤ w1.heap.size from Nat.le_of_lt HS0.out.u.lt)
  simp only [List.size_toArray, List.length_cons, List.length_nil, Nat.reduceAdd, Array.replicate_succ, Array.replicate_zero, List.push_toArray, List.nil_append, List.cons_append]
  refine wpAnyH_take (i := 0) (oi := ⟨some 5, _, _, _, _, _⟩) (v := .pointer (some ⟨G.wd, 0, none⟩)) rfl (by kernel_rfl) (by kernel_rfl) (by kernel_rfl) (fun _ _ _ h => h) (Or.inl ⟨by rfl, ?_⟩) HS0.out ?_
  · intro w hSw
    have hq := hSw.s.p.cell 0
    dsimp only [List.getElem?_cons_zero] at hq
    go_simp <;> with_reducible rfl
  dsimp only [Act.put]
  simp only [List.setIfInBounds_toArray, List.set_cons_zero, List.set_cons_succ]
  refine wpAnyH_take (i := 1) (oi := ⟨some 6, _, _, _, _, _⟩) (v := .pointer (some ⟨G.wd, 0, none⟩)) rfl (by kernel_rfl) (by kernel_rfl) (by kernel_rfl) (fun _ _ _ h => h) (Or.inl ⟨by rfl, ?_⟩) HS0.out ?_
  · intro w hSw
    go_simp <;> with_reducible rfl
  dsimp only [Act.put]
  simp only [List.setIfInBounds_toArray, List.set_cons_zero, List.set_cons_succ]
  refine wpAnyH_take (i := 2) (oi := ⟨some 7, _, _, _, _, _⟩) (v := .pointer (some ⟨G.wd, 41, none⟩)) rfl (by kernel_rfl) (by kernel_rfl) (by kernel_rfl) (fun _ _ _ h => h) (Or.inl ⟨by rfl, ?_⟩) HS0.out ?_
  · intro w hSw
    go_simp <;> with_reducible rfl
  dsimp only [Act.put]
  simp only [List.setIfInBounds_toArray, List.set_cons_zero, List.set_cons_succ]
  refine wpAnyH_take (i := 3) (oi := ⟨some 8, _, _, _, _, _⟩) (v := .map (some G.m)) rfl (by kernel_rfl) (by kernel_rfl) (by kernel_rfl) (fun _ _ _ h => h) (Or.inl ⟨by rfl, ?_⟩) HS0.out ?_
  · intro w hSw
    have hq := hSw.s.n.all
    go_simp <;> with_reducible rfl
  dsimp only [Act.put]
  simp only [List.setIfInBounds_toArray, List.set_cons_zero, List.set_cons_succ]
  refine wpAnyH_take (i := 4) (oi := ⟨some 9, _, _, _, _, _⟩) rfl (by kernel_rfl) (by kernel_rfl) (by kernel_rfl) (fun _ _ _ h => h) (yieldsIf_load_mid (by rfl) 24 (.tmp 3) rfl (tb) (0) rfl (bys gI) _ (fun w h => h.u.range) Tryz.underlying24 rfl (size_h2 gI gI_h)) HS0.out ?_
  dsimp only [Act.put]
  simp only [List.setIfInBounds_toArray, List.set_cons_zero, List.set_cons_succ]
  refine wpAnyH_take (i := 5) (oi := ⟨some 10, _, _, _, _, _⟩) (v := .pointer (some ⟨G.kb, 0, none⟩)) rfl (by kernel_rfl) (by kernel_rfl) (by kernel_rfl) (fun _ _ _ h => h) (Or.inl ⟨by rfl, ?_⟩) HS0.out ?_
  · intro w hSw
    have hq := hSw.s.n.lookH
    go_simp <;> with_reducible rfl
  dsimp only [Act.put]
  simp only [List.setIfInBounds_toArray, List.set_cons_zero, List.set_cons_succ]
  refine wpAnyH_take (i := 6) (oi := ⟨some 11, _, _, _, _, _⟩) (v := .pointer (some ⟨G.kb, 0, none⟩)) rfl (by kernel_rfl) (by kernel_rfl) (by kernel_rfl) (fun _ _ _ h => h) (Or.inl ⟨by rfl, ?_⟩) HS0.out ?_
  · intro w hSw
    go_simp <;> with_reducible rfl
  dsimp only [Act.put]
  simp only [List.setIfInBounds_toArray, List.set_cons_zero, List.set_cons_succ]
  refine wpAnyH_take (i := 7) (oi := ⟨some 12, _, _, _, _, _⟩) (v := .pointer (some ⟨G.kb, 0, none⟩)) rfl (by kernel_rfl) (by kernel_rfl) (by kernel_rfl) (fun _ _ _ h => h) (Or.inl ⟨by rfl, ?_⟩) HS0.out ?_
  · intro w hSw
    go_simp <;> with_reducible rfl
  dsimp only [Act.put]
  simp only [List.setIfInBounds_toArray, List.set_cons_zero, List.set_cons_succ]
  refine wpAnyH_take (i := 8) (oi := ⟨some 13, _, _, _, _, _⟩) (v := .pointer (some ⟨G.kb, 0, none⟩)) rfl (by kernel_rfl) (by kernel_rfl) (by kernel_rfl) (fun _ _ _ h => h) (Or.inl ⟨by rfl, ?_⟩) HS0.out ?_
  · intro w hSw
    go_simp <;> with_reducible rfl
  dsimp only [Act.put]
  simp only [List.setIfInBounds_toArray, List.set_cons_zero, List.set_cons_succ]
  refine wpAnyH_take (i := 9) (oi := ⟨some 14, _, _, _, _, _⟩) (v := .pointer (some ⟨G.kb, 0, none⟩)) rfl (by kernel_rfl) (by kernel_rfl) (by kernel_rfl) (fun _ _ _ h => h) (Or.inl ⟨by rfl, ?_⟩) HS0.out ?_
  · intro w hSw
    go_simp <;> with_reducible rfl
  dsimp only [Act.put]
  simp only [List.setIfInBounds_toArray, List.set_cons_zero, List.set_cons_succ]
  refine wpAnyH_take (i := 10) (oi := ⟨some 15, _, _, _, _, _⟩) (v := .slice none 0 0) rfl (by kernel_rfl) (by kernel_rfl) (by kernel_rfl) (fun _ _ _ h => h) (Or.inl ⟨by rfl, ?_⟩) HS0.out ?_
  · intro w hSw
    have hq : w.cell? ⟨G.kb, 0, none⟩ = some (.slice none 0 0) := hSw.s.n.kc (k_par _ _ _)
    go_simp <;> with_reducible rfl
  dsimp only [Act.put]
  simp only [List.setIfInBounds_toArray, List.set_cons_zero, List.set_cons_succ]
  refine wpAnyH_take (i := 11) (oi := ⟨some 16, _, _, _, _, _⟩) rfl (by kernel_rfl) (by kernel_rfl) (by kernel_rfl) (fun _ _ _ h => h) (yieldsIf_load_mid (by rfl) 24 (.tmp 2) rfl (ib) (0) rfl (bys gI) _ (fun w h => h.s.t.range) Tryz.underlying24 rfl (size_h2 gI gI_h)) HS0.out ?_
  dsimp only [Act.put]
  simp only [List.setIfInBounds_toArray, List.set_cons_zero, List.set_cons_succ]
  refine wpAnyH_one (i := 12) (oi := ⟨some 17, _, _, _, _, _⟩) (by kernel_rfl) rfl (by rfl) (fun K9 hK9 => ?_)
  have HK9 := Lib.hid hK9
  clear hK9
  go_simp
  with_reducible refine (contains_nil _).mono ?_
  rintro e w6 ⟨rfl, hb9⟩
  dsimp only
  have HS1 := Lib.hid (HS0.out.below hb9)
  have HB1 := Lib.hid (HB.out.trans (hb9.mono HZ.out))
  have HZ1 := Lib.hid (Nat.le_trans HZ.out hb9.size)
  clear HS0 HB HZ hb9
  have HS0 := HS1
  have HB := HB1
  have HZ := HZ1
  clear HS1 HB1 HZ1
  refine HK9.out _ _ HS0.out ?_
  clear HK9
  simp only [List.setIfInBounds_toArray, List.set_cons_zero, List.set_cons_succ]
  refine wpAnyH_take (i := 13) (oi := ⟨some 4, _, _, _, _, _⟩) (v := .bool false) rfl (by kernel_rfl) (by kernel_rfl) (by kernel_rfl) (fun _ _ _ h => h) (Or.inl ⟨by rfl, ?_⟩) HS0.out ?_
  · intro w hSw
    go_simp <;> with_reducible rfl
  dsimp only [Act.put]
  simp only [List.setIfInBounds_toArray, List.set_cons_zero, List.set_cons_succ]
  refine wpAnyH_done (by kernel_rfl) ?_ _
  go_wp2
  go_ret
  exact ⟨rfl, by rw [HG.out]; exact HB.out⟩
structure TkS (G : GB) (V : List Value) (sv : Value) (pb ab b off c : Nat) (w : World) : Prop where
  n : Gen G V sv w
  p : Arr w pb 30 [.pointer (some ⟨G.wd, 0, none⟩)]
  a : Arr w ab 39 [.slice (some ⟨b, off, none⟩) 1 c]
  r : w.rangeAt b off (bys gI)
theorem TkS.below {G : GB} {V : List Value} {sv : Value} {pb ab b off c : Nat} {w w' : World} (h : TkS G V sv pb ab b off c w) (hb : Below w.heap.size w w') : TkS G V sv pb ab b off c w' := ⟨h.n.below hb, h.p.below hb h.p.lt, h.a.below hb h.a.lt, range_keep h.r gI_h hb⟩
set_option maxRecDepth 100000 in
set_option maxHeartbeats 1600000 in
theorem containsf_t2 (b off c p q : Nat) (w : World) (hr : w.rangeAt b off (bys gI)) (hK : ∀ w', Below w.heap.size w w' → Calls Tryz.prog 58 #[.agg (bys gI).toArray, .pointer (some ⟨p, 0, none⟩), .pointer (some ⟨q, 0, none⟩)] w' fun e w'' => e = .returned (.bool false) ∧ Below w'.heap.size w' w'') :
    Calls Tryz.prog 57 #[.slice (some ⟨b, off, none⟩) 1 c, .func (.func 58) #[] #[.pointer (some ⟨p, 0, none⟩), .pointer (some ⟨q, 0, none⟩)]] w fun e w' => e = .returned (.bool false) ∧ Below w.heap.size w w' := by
  have HC := Lib.hid (indexf_t2 b off c p q w hr hK)
  clear hr hK
  go_enter Tryz.func57, Tryz.ntmps57
  go_wp2_with fail
  with_reducible refine HC.out.mono ?_
  rintro e w2 ⟨rfl, hb9⟩
  dsimp only
  have HB := Lib.hid hb9
  clear hb9 HC
  go_wp2
  go_ret
  exact ⟨rfl, HB.out⟩
set_option maxRecDepth 100000 in
set_option maxHeartbeats 1600000 in
theorem tips1 (G : GB) (V : List Value) (sv : Value) (pb ab b off c : Nat) (w : World) (hS : TkS G V sv pb ab b off c w) :
    Calls Tryz.prog 56 #[.agg (bys gI).toArray, .pointer (some ⟨ab, 0, none⟩), .pointer (some ⟨pb, 0, none⟩)] w fun e w' => e = .returned (.bool false) ∧ Below w.heap.size w w' := by
  have HS := Lib.hid hS
  clear hS
  have hmf : ∀ (fn : Fn) (first cap : Array Value) (w : World), (Instr.makeFunc fn first cap).run Tryz.prog w = .ok (.func fn first cap) w := fun _ _ _ _ => rfl
  go_enter Tryz.func56, Tryz.ntmps56
  go_upto_region 1 with fail
  have hb := (Below.refl w.heap.size w).alloc (Nat.le_refl _) (.cells (bys gI).toArray 24)
  have HB := Lib.hid hb
  have HT := Lib.hid (Arr.made w 24 (bys gI))
  have HS1 := Lib.hid (HS.out.below hb)
  obtain ⟨g, hg⟩ : ∃ g, w.heap.size = g := ⟨_, rfl⟩
  rw [hg] at HT HB ⊢
  have HG := Lib.hid hg
  clear hb hg HS
  generalize World.alloc _ _ = w1 at *
  have hc := HS1.out.a.cell 0
  dsimp only [List.getElem?_cons_zero] at hc
  have HC := Lib.hid (containsf_t2 b off c pb g w1 HS1.out.r (fun w' h => tips2 G V sv pb g w' (TiS.below ⟨HS1.out.n, HS1.out.p, HT.out⟩ h)))
  go_wp2_with fail
  with_reducible refine HC.out.mono ?_
  rintro e w2 ⟨rfl, hb9⟩
  dsimp only
  have HB2 := Lib.hid (HB.out.trans (hb9.mono (Nat.le_of_lt HT.out.lt)))
  clear hb9 HC HB HT
  go_wp2
  go_ret
  exact ⟨rfl, by rw [HG.out]; exact HB2.out⟩
set_option maxRecDepth 100000 in
set_option maxHeartbeats 1600000 in
theorem delf_one (b off c p q : Nat) (w : World) (hr : w.rangeAt b off (bys gI)) (hK : ∀ w', Below w.heap.size w w' → Calls Tryz.prog 56 #[.agg (bys gI).toArray, .pointer (some ⟨p, 0, none⟩), .pointer (some ⟨q, 0, none⟩)] w' fun e w'' => e = .returned (.bool false) ∧ Below w'.heap.size w' w'') :
    Calls Tryz.prog 54 #[.slice (some ⟨b, off, none⟩) 1 c, .func (.func 56) #[] #[.pointer (some ⟨p, 0, none⟩), .pointer (some ⟨q, 0, none⟩)]] w fun e w' => e = .returned (.slice (some ⟨b, off, none⟩) 1 c) ∧ Below w.heap.size w w' := by
  have HC := Lib.hid (indexf_t1 b off c p q w hr hK)
  clear hr hK
  go_enter Tryz.func54, Tryz.ntmps54
  go_wp2_with fail
  with_reducible refine HC.out.mono ?_
  rintro e w2 ⟨rfl, hb9⟩
  dsimp only
  have HB := Lib.hid hb9
  clear hb9 HC
  go_wp2
  go_ret
  exact ⟨rfl, HB.out⟩
set_option maxRecDepth 100000 in
set_option maxHeartbeats 1600000 in
theorem tips_one (G : GB) (V : List Value) (sv : Value) (w : World) (hG : Gen G V sv w) :
    Calls Tryz.prog 16 #[.pointer (some ⟨G.wd, 0, none⟩)] w fun e w' => ∃ g cap, e = .returned (.slice (some ⟨g, 0, none⟩) 1 cap) ∧ 1 ≤ cap ∧ cap ≤ maxLen ∧ w'.rangeAt g 0 (bys gI) ∧ Below w.heap.size w w' := by
  have HGn := Lib.hid hG
  clear hG
  have hmf : ∀ (fn : Fn) (first cap : Array Value) (w : World), (Instr.makeFunc fn first cap).run Tryz.prog w = .ok (.func fn first cap) w := fun _ _ _ _ => rfl
  go_enter Tryz.func16, Tryz.ntmps16
  go_upto_region 1 with fail
  have hb := (Below.refl w.heap.size w).alloc (Nat.le_refl _) (.cells [Value.pointer (some ⟨G.wd, 0, none⟩)].toArray 30)
  have HB := Lib.hid hb
  have HT := Lib.hid (Arr.made w 30 [.pointer (some ⟨G.wd, 0, none⟩)])
  have HS1 := Lib.hid (HGn.out.below hb)
  obtain ⟨g, hg⟩ : ∃ g, w.heap.size = g := ⟨_, rfl⟩
  rw [hg] at HT HB ⊢
  have HG := Lib.hid hg
  clear hb hg HGn
  generalize World.alloc _ _ = w1 at *
  have hc := HT.out.cell 0
  dsimp only [List.getElem?_cons_zero] at hc
  have HC := Lib.hid (all_one G V sv w1 HS1.out)
  go_wp2_with fail
  with_reducible refine HC.out.mono ?_
  rintro e w2 ⟨b, c, rfl, p1, p2, p3, hb9⟩
  dsimp only
  have HR2 := Lib.hid p3
  have HT2 := Lib.hid (HT.out.below hb9 HT.out.lt)
  have HS2 := Lib.hid (HS1.out.below hb9)
  have HB2 := Lib.hid (HB.out.trans (hb9.mono (Nat.le_of_lt HT.out.lt)))
  clear p1 p2 p3 hb9 HC HB HT HS1 hc
  go_upto_region 2 with fail
  have hb := (Below.refl w2.heap.size w2).alloc (Nat.le_refl _) (.cells [Value.slice (some ⟨b, 0, none⟩) 1 c].toArray 39)
  have HA := Lib.hid (Arr.made w2 39 [.slice (some ⟨b, 0, none⟩) 1 c])
  have HR3 := Lib.hid (range_keep HR2.out gI_h hb)
  have HT3 := Lib.hid (HT2.out.below hb HT2.out.lt)
  have HS3 := Lib.hid (HS2.out.below hb)
  have HB3 := Lib.hid (HB2.out.trans (hb.mono (Nat.le_of_lt HT2.out.lt)))
  obtain ⟨ab, hab⟩ : ∃ g, w2.heap.size = g := ⟨_, rfl⟩
  rw [hab] at HA ⊢
  clear hb hab HR2 HT2 HS2 HB2
  generalize World.alloc _ _ = w3 at *
  have hc := HA.out.cell 0
  dsimp only [List.getElem?_cons_zero] at hc
  have HC := Lib.hid (clone_h1 b 0 c gI gI_h w3 HR3.out)
  go_wp2_with fail
  with_reducible refine HC.out.mono ?_
  rintro e w4 ⟨x, cx, rfl, p1, p2, _, p3, hb9⟩
  dsimp only
  have HP := Lib.hid (And.intro p1 p2)
  have HX := Lib.hid p3
  have HS4 := Lib.hid (show TkS G V sv g ab b 0 c w4 from ⟨HS3.out.below hb9, HT3.out.below hb9 HT3.out.lt, HA.out.below hb9 HA.out.lt, range_keep HR3.out gI_h hb9⟩)
  have HB4 := Lib.hid (HB3.out.trans (hb9.mono (Nat.le_of_lt HT3.out.lt)))
  have HZ4 := Lib.hid (show g ≤ w4.heap.size from Nat.le_trans (Nat.le_of_lt HT3.out.lt) hb9.size)
  clear p1 p2 p3 hb9 HC HS3 HT3 HA HR3 HB3 hc
  have HC := Lib.hid (delf_one x 0 cx ab g w4 HX.out (fun w' h => tips1 G V sv g ab b 0 c w' (HS4.out.below h)))
  go_wp2_with fail
  with_reducible refine HC.out.mono ?_
  rintro e w5 ⟨rfl, hb9⟩
  dsimp only
  have HF := Lib.hid (And.intro HP.out.1 (And.intro HP.out.2 (And.intro (range_keep HX.out gI_h hb9) (HB4.out.trans (hb9.mono HZ4.out)))))
  clear hb9 HC HX HS4 HB4 HP
  go_wp2
  go_ret
  exact ⟨x, cx, rfl, HF.out.1, HF.out.2.1, HF.out.2.2.1, by rw [HG.out]; exact HF.out.2.2.2⟩
end Go.Proofs.YthnbnckmeffkmaaGreat
