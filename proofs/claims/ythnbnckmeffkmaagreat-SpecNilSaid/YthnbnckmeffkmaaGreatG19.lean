/- Sets of coins that are empty: their lists, copies and hash. -/
import Derived.Test.YthnbnckmeffkmaaGreatG14
import Derived.Test.YthnbnckmeffkmaaGreatG18
import Derived.Laws.IdiomRangeMap
import Derived.RangeFuncFrom
import Derived.Shelf.Abstract
import Derived.WalkKit
import Derived.OwnWalkIn
import Derived.TacticsInMore
import Derived.LoopNIn
import Derived.LoopIn
import Derived.Defers
namespace Go.Proofs.YthnbnckmeffkmaaGreat
open Go.RowKit Go.Lib
set_option linter.unusedVariables false
set_option linter.unusedSimpArgs false
attribute [local go_sem ↓] Go.wp_at_zero Go.wp_at_succ

theorem next_emp (w : World) (ty : TypeId) (c : Nat) (h : EmpM w c) : (Instr.next (.pointer (some ⟨w.heap.size, 0, none⟩)) false ty).run Tryz.prog (w.alloc (.mapIter (some c) 0 #[] 0)) = .ok (.tuple #[.bool false]) (w.alloc (.mapIter (some c) 0 #[] 0)) := by
  rcases run_next_map (P := Tryz.prog) w ty c 0 0 #[] #[] 0 h (fun x hx => by simp at hx) (Nat.le_refl _) with h1 | ⟨e, he, _⟩
  · exact h1.2
  · simp [leftOf] at he
set_option maxRecDepth 100000 in
theorem sorted_nil (w : World) : Calls Tryz.prog 170 #[.slice none 0 0] w fun e w' => e = .returned (.slice none 0 0) ∧ Below w.heap.size w w' := by
  have HB := Lib.hid (Below.refl w.heap.size w)
  have HZ := Lib.hid (Nat.le_refl w.heap.size)
  go_enter Tryz.func170, Tryz.ntmps170
  have HC := Lib.hid (sortf_e0 (.func (.func 218) #[] #[]) w)
  go_wp2_with fail
  with_reducible refine HC.out.mono ?_
  rintro e w2 ⟨rfl, hb9⟩
  dsimp only
  have HB2 := Lib.hid (HB.out.trans (hb9.mono HZ.out))
  have HZ2 := Lib.hid (Nat.le_trans HZ.out hb9.size)
  clear hb9 HC HB HZ
  have HB := HB2
  have HZ := HZ2
  clear HB2 HZ2
  go_wp2
  go_ret
  exact ⟨rfl, HB.out⟩
set_option maxRecDepth 100000 in
theorem list_emp (s : Nat) (w : World) (h : EmpS w s) : Calls Tryz.prog 115 #[.pointer (some ⟨s, 0, none⟩)] w fun e w' => e = .returned (.slice none 0 0) ∧ Below w.heap.size w w' := by
  obtain ⟨c, h1, h2⟩ := h
  have hc := h1.cell 0
  dsimp only [List.getElem?_cons_zero] at hc
  have hr := run_range_map (P := Tryz.prog) w 191 _ _ c #[] 0 Tryz.underlying191 h2
  have hnx := fun ty => next_emp w ty c h2
  go_enter Tryz.func115, Tryz.ntmps115
  go_wp2
  refine wp_loop_rounds 1 ?_
  rw [rounds_succ]
  go_wp2_with fail
  have HB := Lib.hid ((Below.refl w.heap.size w).alloc (Nat.le_refl _) (.mapIter (some c) 0 #[] 0))
  have HC := Lib.hid (sorted_nil (w.alloc (.mapIter (some c) 0 #[] 0)))
  with_reducible refine HC.out.mono ?_
  rintro e w2 ⟨rfl, hb9⟩
  dsimp only
  have HB2 := Lib.hid (HB.out.trans (hb9.mono HB.out.size))
  clear hb9 HC HB hr hnx
  go_wp2
  go_ret
  exact ⟨rfl, HB2.out⟩
set_option maxRecDepth 100000 in
theorem all_emp (s : Nat) (w : World) (h : EmpS w s) : Calls Tryz.prog 67 #[.pointer (some ⟨s, 0, none⟩)] w fun e w' => ∃ b, e = .returned (.func (.func 116) #[] #[.pointer (some ⟨b, 0, none⟩)]) ∧ Arr w' b 56 [.slice none 0 0] ∧ Below w.heap.size w w' := by
  have HC := Lib.hid (list_emp s w h)
  go_enter Tryz.func67, Tryz.ntmps67
  go_wp2_with fail
  with_reducible refine HC.out.mono ?_
  rintro e w2 ⟨rfl, hb9⟩
  dsimp only
  have HB := Lib.hid hb9
  clear hb9 HC
  go_wp2
  go_ret
  exact ⟨_, rfl, Arr.made w2 56 [.slice none 0 0], HB.out.alloc HB.out.size (.cells [Value.slice none 0 0].toArray 56)⟩
theorem byts_kept {A B : World} {row : Option Nat} {v : Value} {L : List Nat} (h : Byts A v L) (hg : A.grownBy B row) (hr : ∀ r, row = some r → ∃ o : Obj, A.heap[r]? = some o ∧ o.isCells = false) : Byts B v L := by
  refine ⟨h.1, ?_⟩
  rcases h.2 with h1 | ⟨ad, c, h1, h2, h3, h4⟩
  · exact .inl h1
  · exact .inr ⟨ad, c, h1, h2, h3, fun j hj => cell_kept (h4 j hj) hg hr⟩
/-- No entry comes. -/
theorem all1_stops (n b : Nat) (w : World) (h : Arr w b 56 [.slice none 0 0]) : SeqStopsK Fence.wide n Tryz.prog 116 #[.pointer (some ⟨b, 0, none⟩)] (fun x : Empty => x.elim) (fun _ _ => True) (fun xs => xs = []) (fun _ => False) 0 w := fun l J Jx W hW hJ hJx hY h0 => by
  have h1 := h.below hW h.lt
  have hc := h1.cell 0
  dsimp only [List.getElem?_cons_zero] at hc
  refine callsIn_of_wp Tryz.func116 rfl trivial ?_ rfl
  simp only [Tryz.ntmps116, List.size_toArray, List.length_cons, List.length_nil, Nat.reduceAdd, Nat.reduceSub, Array.replicate_succ, Array.replicate_zero, List.push_toArray, List.append_toArray, List.nil_append, List.cons_append]
  gi_wp2_with fail
  refine wpIn_loop_once ?_
  gi_wp2_with fail
  go_end0
  exact ⟨⟨_, rfl⟩, .inl ⟨[], rfl, h0⟩⟩
set_option maxRecDepth 100000 in
set_option maxHeartbeats 3200000 in
theorem pack_in (n : Nat) (hn : 3 ≤ n) (s : Nat) (w : World) (h : EmpS w s) : CallsIn Fence.wide n Tryz.prog 124 #[.pointer (some ⟨s, 0, none⟩)] w fun e w' => ∃ v', e = .returned v' ∧ Byts w' v' (le8 0) ∧ Low w' v' ∧ Below w.heap.size w w' := by
  have h1 : 1 ≤ n := by omega
  have HS := Lib.hid h
  clear h
  refine callsIn_of_wp_marks Tryz.func124 rfl trivial ?_ rfl
  simp only [Tryz.ntmps124, List.size_toArray, List.length_cons, List.length_nil, Nat.reduceAdd, Nat.reduceSub, Array.replicate_succ, Array.replicate_zero, List.push_toArray, List.append_toArray, List.nil_append, List.cons_append]
  gi_wp2_with fail
  have hm := Arr.made w 209 [.slice none 0 0, .bool false]
  have hb := (Below.refl w.heap.size w).alloc (Nat.le_refl _) (.cells [Value.slice none 0 0, .bool false].toArray 209)
  have HW := Lib.hid (show WrM _ w.heap.size [] false from ⟨_, hm, own_nil _ _ _ _⟩)
  have HB := Lib.hid hb
  have HS1 := Lib.hid (HS.out.below hb)
  clear hm hb
  generalize World.alloc _ _ = w1 at *
  obtain ⟨g, hg⟩ : ∃ g, w.heap.size = g := ⟨_, rfl⟩
  rw [hg] at HW HB ⊢
  have HG := Lib.hid hg
  have HZ := Lib.hid (show g ≤ w1.heap.size from Nat.le_of_lt HW.out.lt)
  clear hg
  refine ⟨trivial, ?_⟩
  refine (callsIn_wide.2 (clen_emp s w1 HS1.out)).mono ?_
  rintro e w2 ⟨rfl, hb2⟩
  dsimp only
  have HW2 := Lib.hid (HW.out.below hb2)
  have HS2 := Lib.hid (HS1.out.below hb2)
  have HB2 := Lib.hid (HB.out.trans (hb2.mono HZ.out))
  clear hb2 HW HS1 HB HZ
  gi_wp2_with fail
  refine ⟨trivial, ?_⟩
  refine (callsIn_wide.2 (wnum8_ok g 0 [] (le8 0) rfl w2 HW2.out (by omega) (by simp))).mono ?_
  rintro e w3 ⟨rfl, hw3, hb3⟩
  dsimp only
  have HW3 := Lib.hid hw3
  have HB3 := Lib.hid (HB2.out.trans hb3)
  have HZ3 := Lib.hid (show g ≤ w3.heap.size from Nat.le_of_lt hw3.lt)
  clear hw3 hb3 HW2 HS2 HB2
  gi_wp2_with fail
  have hm := Arr.made w3 207 [.pointer (some ⟨g, 0, none⟩)]
  have hb := (Below.refl w3.heap.size w3).alloc (Nat.le_refl _) (.cells [Value.pointer (some ⟨g, 0, none⟩)].toArray 207)
  have HP := Lib.hid hm
  have HW4 := Lib.hid (HW3.out.below hb)
  have HB4 := Lib.hid (HB3.out.trans (hb.mono HZ3.out))
  clear hm hb HW3 HB3
  generalize World.alloc _ _ = w4 at *
  obtain ⟨q, hq⟩ : ∃ q, w3.heap.size = q := ⟨_, rfl⟩
  rw [hq] at HP ⊢
  have HQ := Lib.hid hq
  have HZ4 := Lib.hid (show g ≤ w4.heap.size from Nat.le_of_lt HW4.out.lt)
  clear hq
  refine ⟨trivial, ?_⟩
  refine (callsIn_wide.2 (all_emp s w4 (HS.out.below (by rw [HG.out]; exact HB4.out)))).mono ?_
  rintro e w5 ⟨b, rfl, harr, hb5⟩
  dsimp only
  have HA5 := Lib.hid harr
  have HP5 := Lib.hid (HP.out.below hb5 HP.out.lt)
  have HW5 := Lib.hid (HW4.out.below hb5)
  have HB5 := Lib.hid (HB4.out.trans (hb5.mono HZ4.out))
  clear harr hb5 HP HW4 HB4 HZ4 HZ3
  have HZ5 := Lib.hid (show g ≤ w5.heap.size from Nat.le_of_lt HW5.out.lt)
  gi_wp2_with fail
  refine wpIn_rangeFunc_ownF rfl h1 (gf := 116) (lb := #[.pointer (some ⟨b, 0, none⟩)]) rfl trivial (enters_of Tryz.func116 (by kernel_rfl) rfl)
    (all1_stops (n - 1) b w5 HA5.out) (fun _ _ => trivial) (fun _ _ _ _ _ _ _ _ => trivial) (Below.refl _ _) (fun x => x.elim)
    (fun _ W => Below w5.heap.size w5 W) (fun _ _ _ => False)
    (ownFrom_below (Nat.le_refl _) (Nat.le_refl _)) (fun _ _ _ _ _ hs _ _ => hs)
    (Below.refl _ _)
    (fun x => x.elim) (fun _ x => x.elim) (fun _ _ x => x.elim) ?done ?stop
  case done =>
    rintro D ys W hD rfl hB hK
    dsimp only
    have HP6 := Lib.hid (HP5.out.below hB HP5.out.lt)
    have HW6 := Lib.hid (HW5.out.below hB)
    have HB6 := Lib.hid (HB5.out.trans (hB.mono HZ5.out))
    have HD := Lib.hid hD
    have HK := Lib.hid hK
    clear hB hD hK
    have hc := HP6.out.cell 0
    dsimp only [List.getElem?_cons_zero] at hc
    gi_wp2_with fail
    refine ⟨trivial, ?_⟩
    refine (callsIn_wide.2 (end_ok g (le8 0) W HW6.out (by simp [le8]) (by decide) (by decide))).mono ?_
    rintro e w7 ⟨v7, rfl, hy7, hlo7, hb7⟩
    dsimp only
    have HY7 := Lib.hid hy7
    have HLo7 := Lib.hid hlo7
    have HB7 := Lib.hid (HB6.out.trans (hb7.mono (show g ≤ W.heap.size from Nat.le_of_lt HW6.out.lt)))
    have HK7 := Lib.hid (show w7.heap[D]? = some (.deferred (some [])) from (hb7.block D (Array.getElem?_eq_some_iff.1 HK.out).1).trans HK.out)
    clear hy7 hlo7 hb7 hc HP6 HW6 HB6
    gi_wp2
    refine ⟨by simp, .inl ⟨_, _, rfl, run_takeDeferred HK7.out, ?_⟩⟩
    refine ⟨_, results_tmp rfl _ _ _, v7, rfl, byts_kept HY7.out (grownBy_putObj' w7 D (.deferred none)) (fun r e => by cases e; exact ⟨_, HK7.out, rfl⟩), (fun a n k e => Nat.lt_of_lt_of_le (HLo7.out a n k e) (grownBy_putObj' w7 D (.deferred none)).size), ?_⟩
    rw [HG.out]
    exact HB7.out.trans (belowK_b (w := w5) HZ5.out w7 D (.deferred (some [])) (.deferred none) HD.out HK7.out rfl rfl)
  case stop =>
    rintro D c pre W _ _ h _
    exact h.elim
theorem pack_emp (s : Nat) (w : World) (h : EmpS w s) : Calls Tryz.prog 124 #[.pointer (some ⟨s, 0, none⟩)] w fun e w' => ∃ v', e = .returned v' ∧ Byts w' v' (le8 0) ∧ Low w' v' ∧ Below w.heap.size w w' := callsIn_wide.1 (pack_in 3 (Nat.le_refl _) s w h)
def nCoins : List Nat := [99, 111, 105, 110, 115]
set_option maxRecDepth 100000 in
set_option maxHeartbeats 1600000 in
theorem cof_emp (s : Nat) (w : World) (h : EmpS w s) : Calls Tryz.prog 78 #[.pointer (some ⟨s, 0, none⟩)] w fun e w' => e = .returned (.agg (bys (tagF nCoins (le8 0))).toArray) ∧ Below w.heap.size w w' := by
  have HS := Lib.hid h
  obtain ⟨R, hR⟩ : ∃ R, tagF nCoins (le8 0) = R := ⟨_, rfl⟩
  have HRh := Lib.hid (show IsH R by rw [← hR]; exact tagF_h _ _)
  rw [hR]
  have HRe := Lib.hid hR
  clear hR
  go_enter Tryz.func78, Tryz.ntmps78
  go_upto_region 1 with fail
  have hm := Arr.made w 24 (List.replicate 32 (.int .u8 0))
  have hb := (Below.refl w.heap.size w).alloc (Nat.le_refl _) (.cells (List.replicate 32 (.int .u8 0)).toArray 24)
  simp only [List.reduceReplicate] at hm hb
  have HA1 := Lib.hid (show ∃ Z : List Value, Z.length = 32 ∧ Arr _ w.heap.size 24 Z from ⟨_, rfl, hm⟩)
  have HB1 := Lib.hid hb
  have HS1 := Lib.hid (HS.out.below hb)
  clear hm hb HS
  generalize World.alloc _ _ = w1 at *
  obtain ⟨g, hg⟩ : ∃ g, w.heap.size = g := ⟨_, rfl⟩
  rw [hg] at HA1 HB1 ⊢
  have HG := Lib.hid hg
  have HZ1 := Lib.hid (show g ≤ w1.heap.size by have := HB1.out.size; rw [hg] at this; exact this)
  clear hg
  have HC := Lib.hid (pack_emp s w1 HS1.out)
  go_wp2_with fail
  with_reducible refine HC.out.mono ?_
  rintro e w2 ⟨v2, rfl, hy2, hlo2, hb2⟩
  dsimp only
  obtain ⟨a2, c2, rfl⟩ := hy2.form
  obtain ⟨n2, hn2⟩ : ∃ n2, (le8 0).length = n2 := ⟨_, rfl⟩
  rw [hn2] at hy2 hlo2 ⊢
  have HY2 := Lib.hid hy2
  have HLo2 := Lib.hid hlo2
  obtain ⟨Zr, hZl, hZa⟩ := HA1.out
  have HZl := Lib.hid hZl
  have HA22 := Lib.hid (hZa.below hb2 hZa.lt)
  have HB2 := Lib.hid (HB1.out.trans (hb2.mono HZ1.out))
  have HZ2 := Lib.hid (Nat.le_trans HZ1.out hb2.size)
  clear hy2 hlo2 hb2 hZl hZa HA1 HB1 HC hn2
  have HP := Lib.hid (parts1 157 HY2.out HLo2.out)
  have HBa := Lib.hid (show Below w2.heap.size w2 (w2.alloc (.cells #[.slice a2 n2 c2] 157)) from (Below.refl _ _).alloc (Nat.le_refl _) _)
  have HTg := Lib.hid (tag_any ⟨#[99, 111, 105, 110, 115]⟩ _ [le8 0] _ (by decide) (by decide) (by simp) HP.out)
  rw [show tagF (nmB ⟨#[99, 111, 105, 110, 115]⟩) [le8 0].flatten = tagF nCoins (le8 0) by rfl] at HTg
  rw [HRe.out] at HTg
  go_wp2_with fail
  with_reducible refine HTg.out.mono ?_
  rintro e w4 ⟨rfl, hb4⟩
  dsimp only
  have hb24 := HBa.out.trans (hb4.mono HBa.out.size)
  have HAx := Lib.hid (HA22.out.below hb24 HA22.out.lt)
  have HBx := Lib.hid (HB2.out.trans (hb24.mono HZ2.out))
  clear hb4 hb24 HTg HP HBa HA22 HB2
  have HSr := Lib.hid (size_hash R HRh.out.1)
  have HSr2 := Lib.hid (show (Tryz.prog.info? 24).map (·.size) = some (bys R).toArray.size by rw [List.size_toArray]; exact HSr.out)
  have O1 := Lib.hid (all_oneCell_toArray (bys_one R))
  go_step
  refine wpList_store_mid (P := Tryz.prog) rfl 24 _ _ rfl g 0 (bys R).toArray rfl rfl (HAx.out.there _ (by rw [HZl.out]; simp [bys_len, HRh.out.1])) HSr2.out O1.out ?_
  rw [show (bys R).toArray.toList = bys R from rfl]
  have HA5 := Lib.hid (HAx.out.setAll (bys R) (by rw [HZl.out]; simp [bys_len, HRh.out.1]))
  have HB9 := Lib.hid (below_sets g (Nat.le_refl g) (bys R) 0 HBx.out)
  generalize World.setCells _ _ _ _ = w9 at *
  go_wp2
  refine bodyPost_ret (results_cell_row (P := Tryz.prog) rfl _ _ g 24 _ (0, 0) _ rfl HA5.out Tryz.underlying24 rfl (by rw [List.size_toArray]; exact HSr.out)) rfl ?_
  exact ⟨rfl, by rw [HG.out]; exact HB9.out⟩
end Go.Proofs.YthnbnckmeffkmaaGreat
/- Sets of coins that are empty: copies, changes. -/
namespace Go.Proofs.YthnbnckmeffkmaaGreat
open Go.RowKit Go.Lib
set_option linter.unusedVariables false
set_option linter.unusedSimpArgs false
attribute [local go_sem ↓] Go.wp_at_zero Go.wp_at_succ

set_option maxRecDepth 100000 in
theorem copy_emp (s : Nat) (w : World) (h : EmpS w s) : Calls Tryz.prog 65 #[.pointer (some ⟨s, 0, none⟩)] w fun e w' => ∃ s', e = .returned (.pointer (some ⟨s', 0, none⟩)) ∧ w.heap.size ≤ s' ∧ EmpS w' s' ∧ Below w.heap.size w w' := by
  have HS := Lib.hid h
  have HC := Lib.hid (cthere_emp s w h)
  clear h
  go_enter Tryz.func65, Tryz.ntmps65
  go_wp2_with fail
  with_reducible refine HC.out.mono ?_
  rintro e w2 ⟨rfl, hb2⟩
  dsimp only
  have HB2 := Lib.hid hb2
  have HS2 := Lib.hid (HS.out.below hb2)
  clear hb2 HC
  obtain ⟨c, h1, h2⟩ := HS2.out
  have hc := h1.cell 0
  dsimp only [List.getElem?_cons_zero] at hc
  have HC := Lib.hid (mclone_coins c #[] 0 w2 h2)
  go_wp2_with fail
  with_reducible refine HC.out.mono ?_
  rintro e w3 ⟨rfl, rfl⟩
  dsimp only
  go_wp2
  go_ret
  have hs : (w2.alloc (.map #[] 0)).heap.size = w2.heap.size + 1 := World.size_alloc _ _
  have h3 := Arr.made (w2.alloc (.map #[] 0)) 194 [.map (some w2.heap.size)]
  rw [hs] at h3
  have hb := (Below.refl (w2.alloc (.map #[] 0)).heap.size (w2.alloc (.map #[] 0))).alloc (Nat.le_refl _) (.cells [Value.map (some w2.heap.size)].toArray 194)
  have h4 : EmpM (w2.alloc (.map #[] 0)) w2.heap.size := heap_alloc_last w2 _
  have hz := HB2.out.size
  exact ⟨w2.heap.size + 1, rfl, by omega, ⟨w2.heap.size, h3, h4.below hb⟩, (HB2.out.alloc hz _).trans (hb.mono (by rw [hs]; omega))⟩
set_option maxRecDepth 100000 in
theorem clone_e (w : World) : Calls Tryz.prog 168 #[.slice none 0 0] w fun e w' => e = .returned (.slice none 0 0) ∧ Below w.heap.size w w' := by
  have hn : ∀ w9, (binOp .eql 56 (.slice none 0 0) (.slice none 0 0)).run Tryz.prog w9 = .ok (.bool true) w9 := fun w9 => by kernel_rfl
  go_enter Tryz.func168, Tryz.ntmps168
  go_wp2
  go_ret
  exact ⟨rfl, Below.refl _ _⟩
set_option maxRecDepth 100000 in
theorem clone_b (w : World) : Calls Tryz.prog 62 #[.slice none 0 0] w fun e w' => e = .returned (.slice none 0 0) ∧ Below w.heap.size w w' := by
  have hn : ∀ w9, (binOp .eql 44 (.slice none 0 0) (.slice none 0 0)).run Tryz.prog w9 = .ok (.bool true) w9 := fun w9 => by kernel_rfl
  go_enter Tryz.func62, Tryz.ntmps62
  go_wp2
  go_ret
  exact ⟨rfl, Below.refl _ _⟩
set_option maxRecDepth 100000 in
theorem clone_r (w : World) : Calls Tryz.prog 111 #[.slice none 0 0] w fun e w' => e = .returned (.slice none 0 0) ∧ Below w.heap.size w w' := by
  have hn : ∀ w9, (binOp .eql 59 (.slice none 0 0) (.slice none 0 0)).run Tryz.prog w9 = .ok (.bool true) w9 := fun w9 => by kernel_rfl
  go_enter Tryz.func111, Tryz.ntmps111
  go_wp2
  go_ret
  exact ⟨rfl, Below.refl _ _⟩
set_option maxRecDepth 100000 in
theorem may0 (w : World) : Calls Tryz.prog 200 #[.slice none 0 0] w fun e w' => e = .returned (.bool true) ∧ Below w.heap.size w w' := by
  go_enter Tryz.func200, Tryz.ntmps200
  go_wp2
  refine wp_loop_rounds 1 ?_
  rw [rounds_succ]
  go_wp2
  go_ret
  exact ⟨rfl, Below.refl _ _⟩
set_option maxRecDepth 100000 in
theorem cmay0 (w : World) : Calls Tryz.prog 151 #[.agg #[.slice none 0 0, .slice none 0 0]] w fun e w' => e = .returned (.bool true) ∧ Below w.heap.size w w' := by
  go_enter Tryz.func151, Tryz.ntmps151
  go_upto_region 1 with fail
  have hm := Arr.made w 58 [.slice none 0 0, .slice none 0 0]
  have HM := Lib.hid hm
  have HB := Lib.hid ((Below.refl w.heap.size w).alloc (Nat.le_refl _) (.cells [Value.slice none 0 0, .slice none 0 0].toArray 58))
  have hc0 := hm.cell 0
  have hc1 := hm.cell 1
  dsimp only [List.getElem?_cons_zero, List.getElem?_cons_succ] at hc0 hc1
  clear hm
  generalize World.alloc _ _ = w1 at *
  have HZ := Lib.hid HB.out.size
  have HC := Lib.hid (may0 w1)
  go_wp2_with fail
  with_reducible refine HC.out.mono ?_
  rintro e w2 ⟨rfl, hb9⟩
  dsimp only
  have HB2 := Lib.hid (HB.out.trans (hb9.mono HZ.out))
  have HZ2 := Lib.hid (Nat.le_trans HZ.out hb9.size)
  have hd1 := (HM.out.below hb9 HM.out.lt).cell 1
  dsimp only [List.getElem?_cons_zero, List.getElem?_cons_succ] at hd1
  clear hc0 hc1
  clear hb9 HC HB HZ
  have HB := HB2
  have HZ := HZ2
  clear HB2 HZ2
  have HC := Lib.hid (may0 w2)
  go_wp2_with fail
  with_reducible refine HC.out.mono ?_
  rintro e w3 ⟨rfl, hb9⟩
  dsimp only
  have HB2 := Lib.hid (HB.out.trans (hb9.mono HZ.out))
  have HZ2 := Lib.hid (Nat.le_trans HZ.out hb9.size)
  clear hd1
  clear hb9 HC HB HZ
  have HB := HB2
  have HZ := HZ2
  clear HB2 HZ2
  go_wp2
  go_ret
  exact ⟨rfl, HB.out⟩
def TurnS (g : Nat) (w : World) : Prop := Arr w g 58 [.slice none 0 0, .slice none 0 0] ∧ Arr w (g + 1) 58 [.slice none 0 0, .slice none 0 0]
theorem TurnS.below {g : Nat} {w w' : World} (h : TurnS g w) (hb : Below w.heap.size w w') : TurnS g w' := ⟨h.1.below hb h.1.lt, h.2.below hb h.2.lt⟩
set_option maxRecDepth 100000 in
set_option maxHeartbeats 1600000 in
theorem turn0 (w : World) : Calls Tryz.prog 110 #[.agg #[.slice none 0 0, .slice none 0 0]] w fun e w' => e = .returned (.agg #[.slice none 0 0, .slice none 0 0]) ∧ Below w.heap.size w w' := by
  go_enter Tryz.func110, Tryz.ntmps110
  go_upto_region 1 with fail
  have hpk := two_laid w [.slice none 0 0, .slice none 0 0] [.slice none 0 0, .slice none 0 0] 58 58 _ rfl
  have HS0 := Lib.hid (show TurnS w.heap.size (World.drew (World.alloc (World.alloc _ _) _)) from ⟨hpk.1, hpk.2.1⟩)
  have HB := Lib.hid hpk.2.2.drew
  clear hpk
  have HZ := Lib.hid HB.out.size
  obtain ⟨g, hg⟩ : ∃ g, w.heap.size = g := ⟨_, rfl⟩
  rw [hg] at HS0 HB HZ ⊢
  have HG := Lib.hid hg
  clear hg
  refine wp_region_H (TurnS g) (by kernel_rfl) ?_
  generalize World.drew _ = w8 at *
  simp only [List.size_toArray, List.length_cons, List.length_nil, Nat.reduceAdd, Array.replicate_succ, Array.replicate_zero, List.push_toArray, List.nil_append, List.cons_append]
  refine wpAnyH_take (i := 0) (oi := ⟨some 3, _, _, _, _, _⟩) (v := ?_) rfl (by kernel_rfl) (by kernel_rfl) (by kernel_rfl) (fun _ _ _ h => h) (Or.inl ⟨by rfl, ?_⟩) HS0.out ?_
  rotate_left
  · intro w hSw
    go_simp <;> with_reducible rfl
  dsimp only [Act.put]
  simp only [List.setIfInBounds_toArray, List.set_cons_zero, List.set_cons_succ]
  refine wpAnyH_take (i := 1) (oi := ⟨some 4, _, _, _, _, _⟩) (v := .slice none 0 0) rfl (by kernel_rfl) (by kernel_rfl) (by kernel_rfl) (fun _ _ _ h => h) (Or.inl ⟨by rfl, ?_⟩) HS0.out ?_
  · intro w hSw
    have hq := hSw.1.cell 1
    dsimp only [List.getElem?_cons_zero, List.getElem?_cons_succ] at hq
    go_simp <;> with_reducible rfl
  dsimp only [Act.put]
  simp only [List.setIfInBounds_toArray, List.set_cons_zero, List.set_cons_succ]
  refine wpAnyH_take (i := 3) (oi := ⟨some 6, _, _, _, _, _⟩) (v := ?_) rfl (by kernel_rfl) (by kernel_rfl) (by kernel_rfl) (fun _ _ _ h => h) (Or.inl ⟨by rfl, ?_⟩) HS0.out ?_
  rotate_left
  · intro w hSw
    go_simp <;> with_reducible rfl
  dsimp only [Act.put]
  simp only [List.setIfInBounds_toArray, List.set_cons_zero, List.set_cons_succ]
  refine wpAnyH_take (i := 4) (oi := ⟨some 7, _, _, _, _, _⟩) (v := .slice none 0 0) rfl (by kernel_rfl) (by kernel_rfl) (by kernel_rfl) (fun _ _ _ h => h) (Or.inl ⟨by rfl, ?_⟩) HS0.out ?_
  · intro w hSw
    have hq := hSw.1.cell 0
    dsimp only [List.getElem?_cons_zero, List.getElem?_cons_succ] at hq
    go_simp <;> with_reducible rfl
  dsimp only [Act.put]
  simp only [List.setIfInBounds_toArray, List.set_cons_zero, List.set_cons_succ]
  refine wpAnyH_one (i := 2) (oi := ⟨some 5, _, _, _, _, _⟩) (by kernel_rfl) rfl (by rfl) (fun K9 hK9 => ?_)
  have HK9 := Lib.hid hK9
  clear hK9
  go_simp
  with_reducible refine (clone_e w8).mono ?_
  rintro e w9 ⟨rfl, hb9⟩
  dsimp only
  have HS1 := Lib.hid (HS0.out.below hb9)
  have HB1 := Lib.hid (HB.out.trans (hb9.mono HZ.out))
  have HZ1 := Lib.hid (Nat.le_trans HZ.out hb9.size)
  clear HS0 HB HZ hb9
  have HS0 := HS1
  have HB := HB1
  have HZ := HZ1
  clear HS1 HB1 HZ1
  refine HK9.out _ _ HS0.out ?_
  clear HK9
  simp only [List.setIfInBounds_toArray, List.set_cons_zero, List.set_cons_succ]
  refine wpAnyH_one (i := 5) (oi := ⟨some 8, _, _, _, _, _⟩) (by kernel_rfl) rfl (by rfl) (fun K9 hK9 => ?_)
  have HK9 := Lib.hid hK9
  clear hK9
  go_simp
  with_reducible refine (clone_e w9).mono ?_
  rintro e w10 ⟨rfl, hb9⟩
  dsimp only
  have HS1 := Lib.hid (HS0.out.below hb9)
  have HB1 := Lib.hid (HB.out.trans (hb9.mono HZ.out))
  have HZ1 := Lib.hid (Nat.le_trans HZ.out hb9.size)
  clear HS0 HB HZ hb9
  have HS0 := HS1
  have HB := HB1
  have HZ := HZ1
  clear HS1 HB1 HZ1
  refine HK9.out _ _ HS0.out ?_
  clear HK9
  simp only [List.setIfInBounds_toArray, List.set_cons_zero, List.set_cons_succ]
  refine wpAnyH_take (i := 6) (oi := ⟨some 9, _, _, _, _, _⟩) (v := .agg #[.slice none 0 0, .slice none 0 0]) rfl (by kernel_rfl) (by kernel_rfl) (by kernel_rfl) (fun _ _ _ h => h) (Or.inl ⟨by rfl, ?_⟩) HS0.out ?_
  · intro w hSw
    go_simp <;> with_reducible rfl
  dsimp only [Act.put]
  simp only [List.setIfInBounds_toArray, List.set_cons_zero, List.set_cons_succ]
  refine wpAnyH_one (i := 7) (oi := ⟨none, _, _, _, _, _⟩) (by kernel_rfl) rfl (by rfl) (fun K9 hK9 => ?_)
  have HK9 := Lib.hid hK9
  clear hK9
  refine wp_store_mid (P := Tryz.prog) 58 _ _ rfl (g + 1) 0 #[.slice none 0 0, .slice none 0 0] rfl rfl ((HS0.out.2).there _ rfl) (by kernel_rfl) (by kernel_rfl) ?_
  have HR := Lib.hid (HS0.out.2.setAll [.slice none 0 0, .slice none 0 0] rfl)
  have HA := Lib.hid (HS0.out.1.below (below_sets (g + 1) (Nat.le_refl _) [.slice none 0 0, .slice none 0 0] 0 (Below.refl _ _)) (by omega))
  have HB2 := Lib.hid (below_sets (g + 1) (show g ≤ g + 1 by omega) [.slice none 0 0, .slice none 0 0] 0 HB.out)
  refine HK9.out _ _ ⟨HA.out, HR.out⟩ ?_
  clear HK9 HS0 HB
  generalize World.setCells _ _ _ _ = w11 at *
  simp only [List.setIfInBounds_toArray, List.set_cons_zero, List.set_cons_succ]
  refine wpAnyH_done (by kernel_rfl) ?_ _
  go_wp2
  refine bodyPost_ret (results_cell_row (P := Tryz.prog) rfl _ _ (g + 1) 58 _ (0, 0) _ rfl HR.out Tryz.underlying58 rfl (by kernel_rfl)) rfl ?_
  exact ⟨rfl, by rw [HG.out]; exact HB2.out⟩
end Go.Proofs.YthnbnckmeffkmaaGreat
/- Clones of one element; changes of nothing. -/
namespace Go.Proofs.YthnbnckmeffkmaaGreat
open Go.RowKit Go.Lib
set_option linter.unusedVariables false
set_option linter.unusedSimpArgs false
attribute [local go_sem ↓] Go.wp_at_zero Go.wp_at_succ

theorem own_emp (w : World) (e : TypeId) (size : Nat) : (w.alloc (.cells #[] e)).ownsRow w.heap.size e size (.slice (some ⟨w.heap.size, 0, none⟩) 0 0) 0 [] :=
  ⟨by simp, .inr ⟨w.heap.size, 0, #[], rfl, Nat.le_refl _, alloc_top w _, Nat.le_refl _, by unfold maxLen; omega, by simp, by simp⟩⟩
/-- One element of a row of the call's own. -/
theorem own_one {w : World} {base : Nat} {e : TypeId} {size : Nat} {v : Value} {xs : List Value} (h : w.ownsRow base e size v 1 xs) : ∃ g cap, v = .slice (some ⟨g, 0, none⟩) 1 cap ∧ 1 ≤ cap ∧ cap ≤ maxLen ∧ base ≤ g ∧ g < w.heap.size ∧ w.rangeAt g 0 xs := by
  have hx := h
  rcases h.2 with ⟨_, h0⟩ | ⟨g, cap, cur, rfl, hb, hg, hn, hc, hcur, hxs⟩
  · cases h0
  · refine ⟨g, cap, rfl, hn, hc, hb, (Array.getElem?_eq_some_iff.1 hg).1, fun j u hu => ?_⟩
    rw [Nat.zero_add, cell_of_row w g j cur e (0, 0) hg]
    have hj := (List.getElem?_eq_some_iff.1 hu).1
    rw [← hxs] at hu hj
    rw [List.getElem?_take_of_lt (by rw [List.length_take] at hj; omega)] at hu
    simpa using hu
set_option maxRecDepth 100000 in
set_option maxHeartbeats 1600000 in
theorem clone_h1 (b off c : Nat) (H : List Nat) (hH : IsH H) (w : World) (hr : w.rangeAt b off (bys H)) :
    Calls Tryz.prog 55 #[.slice (some ⟨b, off, none⟩) 1 c] w fun e w' => ∃ g cap, e = .returned (.slice (some ⟨g, 0, none⟩) 1 cap) ∧ 1 ≤ cap ∧ cap ≤ maxLen ∧ w.heap.size ≤ g ∧ w'.rangeAt g 0 (bys H) ∧ Below w.heap.size w w' := by
  have hq : ∀ w a l c, (binOp .eql 39 (.slice a l c) (.slice none 0 0)).run Tryz.prog w = .ok (.bool a.isNone) w := fun w a l c => run_eql_slice_nil w _ _ _ _ _ _ _ Tryz.underlying39
  have HR := Lib.hid hr
  clear hr
  go_enter Tryz.func55, Tryz.ntmps55
  go_upto_region 3 with fail
  go_step
  iterate 3 (first | go_values | go_skip | go_guarded | go_step | go_upon)
  clear hq
  have HO := Lib.hid (own_emp w 24 32)
  have hb := (Below.refl w.heap.size w).alloc (Nat.le_refl _) (.cells #[] 24)
  have HB := Lib.hid hb
  have HR1 := Lib.hid (show World.rangeAt (w.alloc (.cells #[] 24)) b off (bys H) from fun j v hv => cellb hb (HR.out j v hv))
  have HG := Lib.hid (show w.heap.size ≤ (w.alloc (.cells #[] 24)).heap.size from hb.size)
  generalize World.alloc _ _ = w1 at *
  clear hb HR
  obtain ⟨i0, hi, hzz⟩ := Option.map_eq_some_iff.1 (show (Tryz.prog.info? 24).map (fun i => (i.zero, i.size, i.bytes)) = some (some (.agg (List.replicate 32 (.int .u8 0)).toArray), 32, 32) by kernel_rfl)
  simp only [Prod.mk.injEq] at hzz
  obtain ⟨hz0, hz1, hz2⟩ := hzz
  have HI := Lib.hid (And.intro hi (And.intro hz0 (And.intro hz1 hz2)))
  clear hi hz0 hz1 hz2
  have HN := Lib.hid (show ∀ j u, (bys H)[j]? = some u → w1.cell? ((⟨b, off, none⟩ : Addr).add j) = some u from fun j u hu => by rw [add_nospot']; exact HR1.out j u hu)
  have HLe := Lib.hid (show (bys H).length = 1 * 32 by rw [bys_len, hH.1])
  go_wp2_with (at_builtin; refine wpList_append_own w1 rfl (.tmp 5) (.tmp 6) 39 rfl w.heap.size 24 i0 (.agg (List.replicate 32 (.int .u8 0)).toArray) 32 32 Tryz.underlying39 HI.out.1 HI.out.2.1 HI.out.2.2.1 HI.out.2.2.2 (by kernel_rfl) (by omega) _ 0 [] rfl HO.out ⟨b, off, none⟩ 1 c (bys H) rfl HLe.out HN.out (bys_one H) (by unfold maxLen; omega) (by omega) HG.out ?_)
  intro v4 w4 ho4 hg4 _
  have HB4 := Lib.hid (HB.out.grown hg4 HG.out (fun k hk => (HO.out.lt k hk).1))
  obtain ⟨g, cap, rfl, h1, h2, h3, h4, h5⟩ := own_one ho4
  have HF := Lib.hid (And.intro h1 (And.intro h2 (And.intro h3 h5)))
  clear ho4 hg4 h1 h2 h3 h4 h5
  go_wp2
  go_ret
  exact ⟨g, cap, rfl, HF.out.1, HF.out.2.1, HF.out.2.2.1, HF.out.2.2.2, HB4.out⟩
set_option maxRecDepth 100000 in
set_option maxHeartbeats 1600000 in
theorem clone_u1 (b off c : Nat) (x : Int) (w : World) (hr : w.rangeAt b off ([Value.int .u64 x])) :
    Calls Tryz.prog 112 #[.slice (some ⟨b, off, none⟩) 1 c] w fun e w' => ∃ g cap, e = .returned (.slice (some ⟨g, 0, none⟩) 1 cap) ∧ 1 ≤ cap ∧ cap ≤ maxLen ∧ w.heap.size ≤ g ∧ w'.rangeAt g 0 ([Value.int .u64 x]) ∧ Below w.heap.size w w' := by
  have hq : ∀ w a l c, (binOp .eql 60 (.slice a l c) (.slice none 0 0)).run Tryz.prog w = .ok (.bool a.isNone) w := fun w a l c => run_eql_slice_nil w _ _ _ _ _ _ _ Tryz.underlying60
  have HR := Lib.hid hr
  clear hr
  go_enter Tryz.func112, Tryz.ntmps112
  go_upto_region 3 with fail
  go_step
  iterate 3 (first | go_values | go_skip | go_guarded | go_step | go_upon)
  clear hq
  have HO := Lib.hid (own_emp w 22 1)
  have hb := (Below.refl w.heap.size w).alloc (Nat.le_refl _) (.cells #[] 22)
  have HB := Lib.hid hb
  have HR1 := Lib.hid (show World.rangeAt (w.alloc (.cells #[] 22)) b off ([Value.int .u64 x]) from fun j v hv => cellb hb (HR.out j v hv))
  have HG := Lib.hid (show w.heap.size ≤ (w.alloc (.cells #[] 22)).heap.size from hb.size)
  generalize World.alloc _ _ = w1 at *
  clear hb HR
  obtain ⟨i0, hi, hzz⟩ := Option.map_eq_some_iff.1 (show (Tryz.prog.info? 22).map (fun i => (i.zero, i.size, i.bytes)) = some (some (.int .u64 0), 1, 8) by kernel_rfl)
  simp only [Prod.mk.injEq] at hzz
  obtain ⟨hz0, hz1, hz2⟩ := hzz
  have HI := Lib.hid (And.intro hi (And.intro hz0 (And.intro hz1 hz2)))
  clear hi hz0 hz1 hz2
  have HN := Lib.hid (show ∀ j u, ([Value.int .u64 x])[j]? = some u → w1.cell? ((⟨b, off, none⟩ : Addr).add j) = some u from fun j u hu => by rw [add_nospot']; exact HR1.out j u hu)
  have HLe := Lib.hid (show ([Value.int .u64 x]).length = 1 * 1 by rfl)
  go_wp2_with (at_builtin; refine wpList_append_own w1 rfl (.tmp 5) (.tmp 6) 60 rfl w.heap.size 22 i0 (.int .u64 0) 1 8 Tryz.underlying60 HI.out.1 HI.out.2.1 HI.out.2.2.1 HI.out.2.2.2 (by kernel_rfl) (by omega) _ 0 [] rfl HO.out ⟨b, off, none⟩ 1 c ([Value.int .u64 x]) rfl HLe.out HN.out ((by intro u hu; cases hu with | head => rfl | tail _ h => cases h)) (by unfold maxLen; omega) (by omega) HG.out ?_)
  intro v4 w4 ho4 hg4 _
  have HB4 := Lib.hid (HB.out.grown hg4 HG.out (fun k hk => (HO.out.lt k hk).1))
  obtain ⟨g, cap, rfl, h1, h2, h3, h4, h5⟩ := own_one ho4
  have HF := Lib.hid (And.intro h1 (And.intro h2 (And.intro h3 h5)))
  clear ho4 hg4 h1 h2 h3 h4 h5
  go_wp2
  go_ret
  exact ⟨g, cap, rfl, HF.out.1, HF.out.2.1, HF.out.2.2.1, HF.out.2.2.2, HB4.out⟩
set_option maxRecDepth 100000 in
set_option maxHeartbeats 1600000 in
theorem between_emp (s1 s2 : Nat) (w : World) (h1 : EmpS w s1) (h2 : EmpS w s2) : Calls Tryz.prog 199 #[.pointer (some ⟨s1, 0, none⟩), .pointer (some ⟨s2, 0, none⟩)] w fun e w' => e = .returned (.agg #[.slice none 0 0, .slice none 0 0]) ∧ Below w.heap.size w w' := by
  have H1 := Lib.hid h1
  have H2 := Lib.hid h2
  clear h1 h2
  go_enter Tryz.func199, Tryz.ntmps199
  go_upto_region 1 with fail
  have hb := (Below.refl w.heap.size w).alloc (Nat.le_refl _) (.cells [Value.slice none 0 0, .slice none 0 0].toArray 58)
  have HR := Lib.hid (Arr.made w 58 [.slice none 0 0, .slice none 0 0])
  have HB := Lib.hid hb
  clear hb
  generalize World.alloc _ _ = w1 at *
  have HZ := Lib.hid HB.out.size
  have H11 := Lib.hid (H1.out.below HB.out)
  obtain ⟨g, hg⟩ : ∃ g, w.heap.size = g := ⟨_, rfl⟩
  rw [hg] at HR HB HZ ⊢
  have HG := Lib.hid hg
  clear hg
  have HC := Lib.hid (list_emp s1 w1 H11.out)
  go_wp2_with fail
  with_reducible refine HC.out.mono ?_
  rintro e w2 ⟨rfl, hb9⟩
  dsimp only
  have HB2 := Lib.hid (HB.out.trans (hb9.mono HZ.out))
  have HZ2 := Lib.hid (Nat.le_trans HZ.out hb9.size)
  have HR2 := Lib.hid (HR.out.below hb9 HR.out.lt)
  clear HR
  have HR := HR2
  clear HR2
  clear hb9 HC HB HZ
  have HB := HB2
  have HZ := HZ2
  clear HB2 HZ2
  go_wp2
  refine wp_loop_rounds 1 ?_
  rw [rounds_succ]
  have H22 := Lib.hid (H2.out.below (by rw [HG.out]; exact HB.out))
  have HC := Lib.hid (list_emp s2 w2 H22.out)
  go_wp2_with fail
  with_reducible refine HC.out.mono ?_
  rintro e w3 ⟨rfl, hb9⟩
  dsimp only
  have HB2 := Lib.hid (HB.out.trans (hb9.mono HZ.out))
  have HZ2 := Lib.hid (Nat.le_trans HZ.out hb9.size)
  have HR2 := Lib.hid (HR.out.below hb9 HR.out.lt)
  clear HR
  have HR := HR2
  clear HR2
  clear hb9 HC HB HZ
  have HB := HB2
  have HZ := HZ2
  clear HB2 HZ2
  have hc0 := HR.out.cell 0
  have hc1 := HR.out.cell 1
  have hf0 := HR.out.frozen 0
  have hf1 := HR.out.frozen 1
  dsimp only [List.getElem?_cons_zero, List.getElem?_cons_succ] at hc0 hc1
  go_wp2
  refine wp_loop_rounds 1 ?_
  rw [rounds_succ]
  go_wp2
  have HR2 := Lib.hid ((HR.out.set 0 (.slice none 0 0)).set 1 (.slice none 0 0))
  dsimp only [List.set_cons_zero, List.set_cons_succ] at HR2
  refine bodyPost_ret (results_cell_row rfl _ _ g 58 _ (0, 0) _ rfl HR2.out Tryz.underlying58 rfl (by kernel_rfl)) rfl ?_
  exact ⟨rfl, by rw [HG.out]; exact (HB.out.setCell (p := ⟨g, 0, none⟩) (Nat.le_refl g) _).setCell (p := ⟨g, 1, none⟩) (Nat.le_refl g) _⟩
/-- The boxes of Apply. -/
structure ApS (g s : Nat) (w : World) : Prop where
  p : Arr w g 75 [.pointer (some ⟨s, 0, none⟩)]
  d : Arr w (g + 1) 58 [.slice none 0 0, .slice none 0 0]
  e : Arr w (g + 1 + 1) 31 [.int .i64 0]
  s : EmpS w s
theorem ApS.below {g s : Nat} {w w' : World} (h : ApS g s w) (hb : Below w.heap.size w w') : ApS g s w' := ⟨h.p.below hb h.p.lt, h.d.below hb h.d.lt, h.e.below hb h.e.lt, h.s.below hb⟩
set_option maxRecDepth 100000 in
theorem applyD (a1 a2 a3 : Nat) (u : FrameMode) (w : World) (h : w.cell? ⟨a1, 0, none⟩ = some (.int .i64 0)) :
    CallsD Tryz.prog 152 #[.pointer (some ⟨a1, 0, none⟩), .pointer (some ⟨a2, 0, none⟩), .pointer (some ⟨a3, 0, none⟩)] u w fun e u' w' => u' = u ∧ (e = .returned (.tuple #[]) ∧ w' = w) := by
  go_enter_d Tryz.func152, Tryz.ntmps152
  go_wp2
  go_end0
  exact ⟨rfl, rfl⟩
set_option maxRecDepth 100000 in
set_option maxHeartbeats 3200000 in
theorem apply0 (s : Nat) (w : World) (h : EmpS w s) : Calls Tryz.prog 93 #[.pointer (some ⟨s, 0, none⟩), .agg #[.slice none 0 0, .slice none 0 0]] w fun e w' => e = .returned (.int .i64 0) ∧ Below w.heap.size w w' := by
  have H1 := Lib.hid h
  have hmf : ∀ (fn : Fn) (first cap : Array Value) (w : World), (Instr.makeFunc fn first cap).run Tryz.prog w = .ok (.func fn first cap) w := fun _ _ _ _ => rfl
  clear h
  go_enter_defers Tryz.func93, Tryz.ntmps93
  go_upto_region 1 with fail
  have hpk := three_laid w [.pointer (some ⟨s, 0, none⟩)] [.slice none 0 0, .slice none 0 0] [.int .i64 0] 75 58 31 _ rfl
  have HL := Lib.hid (show ApS w.heap.size s (World.alloc (World.alloc (World.alloc _ _) _) _) from ⟨hpk.1, hpk.2.1, hpk.2.2.1, H1.out.below hpk.2.2.2⟩)
  have HB := Lib.hid hpk.2.2.2
  clear hpk H1
  generalize World.alloc (World.alloc (World.alloc _ _) _) _ = w1 at *
  have HZ := Lib.hid HB.out.size
  obtain ⟨g, hg⟩ : ∃ g, w.heap.size = g := ⟨_, rfl⟩
  rw [hg] at HL HB HZ ⊢
  have HG := Lib.hid hg
  clear hg
  have hp := HL.out.p.cell 0
  dsimp only [List.getElem?_cons_zero, List.getElem?_cons_succ] at hp
  have HC := Lib.hid (cthere_emp s w1 HL.out.s)
  go_wp2_with fail
  with_reducible refine HC.out.mono ?_
  rintro e w2 ⟨rfl, hb9⟩
  dsimp only
  have HB2 := Lib.hid (HB.out.trans (hb9.mono HZ.out))
  have HZ2 := Lib.hid (Nat.le_trans HZ.out hb9.size)
  have HL2 := Lib.hid (ApS.below HL.out hb9)
  clear HL
  have HL := HL2
  clear HL2
  clear hp
  clear hb9 HC HB HZ
  have HB := HB2
  have HZ := HZ2
  clear HB2 HZ2
  go_upto_region 3 with fail
  have hd0 := HL.out.d.cell 0
  have hd1 := HL.out.d.cell 1
  dsimp only [List.getElem?_cons_zero, List.getElem?_cons_succ] at hd0 hd1
  have HC := Lib.hid (cmay0 w2)
  go_wp2_with fail
  with_reducible refine HC.out.mono ?_
  rintro e w3 ⟨rfl, hb9⟩
  dsimp only
  have HB2 := Lib.hid (HB.out.trans (hb9.mono HZ.out))
  have HZ2 := Lib.hid (Nat.le_trans HZ.out hb9.size)
  have HL2 := Lib.hid (ApS.below HL.out hb9)
  clear HL
  have HL := HL2
  clear HL2
  clear hd0 hd1
  clear hb9 HC HB HZ
  have HB := HB2
  have HZ := HZ2
  clear HB2 HZ2
  go_upto_region 5 with fail
  have hp := HL.out.p.cell 0
  obtain ⟨c, hc1, hc2⟩ := HL.out.s
  have hq := hc1.cell 0
  dsimp only [List.getElem?_cons_zero, List.getElem?_cons_succ] at hp hq
  have HC := Lib.hid (mclone_coins c #[] 0 w3 hc2)
  go_wp2_with fail
  with_reducible refine HC.out.mono ?_
  rintro e w4 ⟨rfl, rfl⟩
  dsimp only
  clear hp hq hc1 hc2 HC
  have hb9 := (Below.refl w3.heap.size w3).alloc (Nat.le_refl _) (.map #[] 0)
  have HL4 := Lib.hid (HL.out.below hb9)
  have HB4 := Lib.hid (HB.out.trans (hb9.mono HZ.out))
  have HZ4 := Lib.hid (Nat.le_trans HZ.out hb9.size)
  clear hb9 HL HB HZ
  obtain ⟨mv, hmv⟩ : ∃ mv, w3.heap.size = mv := ⟨_, rfl⟩
  rw [hmv]
  generalize World.alloc _ _ = w4 at *
  clear hmv
  go_upto_region 6 with fail
  have hb9 := (Below.refl w4.heap.size w4).alloc (Nat.le_refl _) (.cells #[Value.map (some mv)] 191)
  have HL5 := Lib.hid (HL4.out.below hb9)
  have HB5 := Lib.hid (HB4.out.trans (hb9.mono HZ4.out))
  clear hb9 HL4 HB4 HZ4
  obtain ⟨mw, hmw⟩ : ∃ mw, w4.heap.size = mw := ⟨_, rfl⟩
  rw [hmw]
  generalize World.alloc _ _ = w5 at *
  clear hmw
  have hd0 := HL5.out.d.cell 0
  have hd1 := HL5.out.d.cell 1
  have he := HL5.out.e.cell 0
  have hf := HL5.out.e.frozen 0
  dsimp only [List.getElem?_cons_zero, List.getElem?_cons_succ] at hd0 hd1 he
  go_wp2
  refine wp_loop_rounds 1 ?_
  rw [rounds_succ]
  go_wp2
  refine wp_loop_rounds 1 ?_
  rw [rounds_succ]
  go_wp2
  have HE := Lib.hid (HL5.out.e.set 0 (.int .i64 0))
  dsimp only [List.set_cons_zero] at HE
  refine leaves_cons (f := 152) (args := #[.pointer (some ⟨g + 1 + 1, 0, none⟩), .pointer (some ⟨mw, 0, none⟩), .pointer (some ⟨g, 0, none⟩)]) (by simp) (by simp [go_sem]) ?_
  refine (applyD (g + 1 + 1) mw g .returning _ (by have := HE.out.cell 0; exact this)).mono ?_
  rintro e u' w'' ⟨rfl, rfl, rfl⟩
  have hx := HE.out.cell 0
  dsimp only [List.getElem?_cons_zero] at hx
  refine ⟨.int .i64 0, ?_, rfl, by rw [HG.out]; exact HB5.out.setCell (p := ⟨g + 1 + 1, 0, none⟩) (show g ≤ g + 1 + 1 by omega) _⟩
  simp [results, Tryz.f93, go_sem, hx]
end Go.Proofs.YthnbnckmeffkmaaGreat
