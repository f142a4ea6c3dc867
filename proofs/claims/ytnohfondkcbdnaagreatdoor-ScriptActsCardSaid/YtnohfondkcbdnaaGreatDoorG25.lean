/- plexusref29.ActText of any act that may be told; script.ActText; plexuslaw29.num. -/
import Derived.Test.YtnohfondkcbdnaaGreatDoorG23
import Derived.Test.YtnohfondkcbdnaaGreatDoorG24
import Derived.Test.YtnohfondkcbdnaaGreatDoorG04
import Derived.RangeFuncNested
import Derived.RangeFuncBound
import Derived.RangeFuncCalls
import Derived.RangeFuncLeaves
import Derived.OrdersIn
import Derived.TacticsIn
import Derived.Test.YtnohfondkcbdnaaGreatDoorG16
import Derived.RangeFuncFrom
import Derived.Shelf.Abstract
import Derived.WalkKit
import Derived.OwnWalkIn
import Derived.TacticsInMore
import Derived.LoopNIn
import Derived.LoopIn
namespace Go.Proofs.YtnohfondkcbdnaaGreatDoor
open Go.RowKit Go.Lib
set_option linter.unusedVariables false
set_option linter.unusedSimpArgs false
attribute [local go_sem ↓] Go.wp_at_zero Go.wp_at_succ

theorem kind_of {a : ActM} (hm : MayP a) : ∃ K : Nat, a.kind = (K : Int) ∧ 1 ≤ K ∧ K < 10 := ⟨a.kind.toNat, by have := hm.1; omega, by have := hm.1; omega, by have := hm.1; omega⟩
theorem ract_any (a : ActM) (w : World) (ha : a.ok w) (ht : TabO w) (hm : MayP a) (K : Nat) (hK : a.kind = (K : Int)) (h1 : 1 ≤ K) (h2 : K < 10) :
    Calls Tryz.prog 13 #[.agg a.cells.toArray] w fun e w' => e = .returned (.string (actTF a (nmB K) (wsB K))) ∧ Below w.heap.size w w' := by
  match K, h1, h2, hK with
  | 1, _, _, hK => exact ract1_any a w ha ht hm hK
  | 2, _, _, hK => exact ract2_any a w ha ht hm hK
  | 3, _, _, hK => exact ract3_any a w ha ht hm hK
  | 4, _, _, hK => exact ract4_any a w ha ht hm hK
  | 5, _, _, hK => exact ract5_any a w ha ht hm hK
  | 6, _, _, hK => exact ract6_any a w ha ht hm hK
  | 7, _, _, hK => exact ract7_any a w ha ht hm hK
  | 8, _, _, hK => exact ract8_any a w ha ht hm hK
  | 9, _, _, hK => exact ract9_any a w ha ht hm hK
theorem size_actx {w : World} {a : ActM} (h : a.ok w) : (Tryz.prog.info? 30).map (·.size) = some a.cells.length := by
  rw [a.cells_len h]; exact size_act
set_option maxRecDepth 100000 in
theorem lnum_any (z : Int) (w : World) : Calls Tryz.prog 12 #[.int .i64 z] w fun e w' => e = .returned (.int .i64 z) ∧ Below w.heap.size w w' := by
  go_enter Tryz.func12, Tryz.ntmps12
  go_wp2
  go_ret
  exact ⟨rfl, Below.refl _ _⟩
set_option maxRecDepth 100000 in
set_option maxHeartbeats 1600000 in
theorem stext_no (a : ActM) (w : World) (ha : a.ok w) (hm : ¬ MayP a) :
    Calls Tryz.prog 6 #[.agg a.cells.toArray] w fun e w' => e = .returned (.tuple #[.string ⟨#[]⟩, .int .i64 2]) ∧ Below w.heap.size w w' := by
  have HA0 := Lib.hid ha
  have HSz := Lib.hid (size_actx ha)
  have HM := Lib.hid hm
  clear ha hm
  go_enter Tryz.func6, Tryz.ntmps6
  go_upto_region 1 with fail
  have hm := Arr.made w 30 a.cells
  have hb := (Below.refl w.heap.size w).alloc (Nat.le_refl _) (.cells a.cells.toArray 30)
  have HN := Lib.hid hm
  have HB := Lib.hid hb
  clear hm hb
  generalize World.alloc _ _ = w1 at *
  obtain ⟨g, hg⟩ : ∃ g, w.heap.size = g := ⟨_, rfl⟩
  rw [hg] at HN HB ⊢
  have HG := Lib.hid hg
  have HZ := Lib.hid (show w.heap.size ≤ w1.heap.size by rw [hg]; exact Nat.le_of_lt HN.out.lt)
  have HA1 := Lib.hid (HA0.out.below (by rw [hg]; exact HB.out : Below w.heap.size w w1))
  clear hg
  go_step
  refine wpList_load_mid (P := Tryz.prog) rfl 30 _ rfl g 0 rfl _ _ HN.out.range Tryz.underlying30 rfl HSz.out ?_
  have HC := Lib.hid (smayact_any a w1 HA1.out false ⟨(fun h => by cases h), fun h => (HM.out h).elim⟩)
  go_wp2_with fail
  with_reducible refine HC.out.mono ?_
  rintro e w2 ⟨rfl, hb2⟩
  dsimp only
  have HB2 := Lib.hid (HB.out.trans (hb2.mono (by rw [← HG.out]; exact HZ.out)))
  clear hb2 HC
  go_wp2
  go_ret2
  exact ⟨rfl, by rw [HG.out]; exact HB2.out⟩
set_option maxRecDepth 100000 in
set_option maxHeartbeats 1600000 in
theorem stext_yes (a : ActM) (w : World) (ha : a.ok w) (ht : TabO w) (hm : MayP a) (K : Nat) (hK : a.kind = (K : Int)) (h1 : 1 ≤ K) (h2 : K < 10) :
    Calls Tryz.prog 6 #[.agg a.cells.toArray] w fun e w' => e = .returned (.tuple #[.string (actTF a (nmB K) (wsB K)), .int .i64 0]) ∧ Below w.heap.size w w' := by
  have HA0 := Lib.hid ha
  have HSz := Lib.hid (size_actx ha)
  have HM := Lib.hid hm
  have HT := Lib.hid ht
  have HNm := Lib.hid (namedT a K hK h1 h2)
  obtain ⟨RES, hRES⟩ : ∃ RES, actTF a (nmB K) (wsB K) = RES := ⟨_, rfl⟩
  have HRES := Lib.hid hRES
  rw [hRES]
  clear ha hm ht hK h1 h2 hRES
  go_enter Tryz.func6, Tryz.ntmps6
  go_upto_region 1 with fail
  have hm := Arr.made w 30 a.cells
  have hb := (Below.refl w.heap.size w).alloc (Nat.le_refl _) (.cells a.cells.toArray 30)
  have HN := Lib.hid hm
  have HB := Lib.hid hb
  clear hm hb
  generalize World.alloc _ _ = w1 at *
  obtain ⟨g, hg⟩ : ∃ g, w.heap.size = g := ⟨_, rfl⟩
  rw [hg] at HN HB ⊢
  have HG := Lib.hid hg
  have HZ := Lib.hid (show w.heap.size ≤ w1.heap.size by rw [hg]; exact Nat.le_of_lt HN.out.lt)
  have HA1 := Lib.hid (HA0.out.below (by rw [hg]; exact HB.out : Below w.heap.size w w1))
  have HT1 := Lib.hid (HT.out.below (by rw [hg]; exact HB.out : Below w.heap.size w w1))
  clear hg
  go_step
  refine wpList_load_mid (P := Tryz.prog) rfl 30 _ rfl g 0 rfl _ _ HN.out.range Tryz.underlying30 rfl HSz.out ?_
  have HC := Lib.hid (smayact_any a w1 HA1.out true ⟨fun _ => HM.out, fun _ => rfl⟩)
  go_wp2_with fail
  with_reducible refine HC.out.mono ?_
  rintro e w2 ⟨rfl, hb2⟩
  dsimp only
  have HB2 := Lib.hid (HB.out.trans (hb2.mono (by rw [← HG.out]; exact HZ.out)))
  have HN2 := Lib.hid (HN.out.below hb2 HN.out.lt)
  have HZ2 := Lib.hid (show g ≤ w2.heap.size from Nat.le_of_lt HN2.out.lt)
  have HA2 := Lib.hid (HA1.out.below hb2)
  have HT2 := Lib.hid (HT1.out.below hb2)
  clear hb2 HC HN
  go_upto_region 3 with fail
  go_step
  refine wpList_load_mid (P := Tryz.prog) rfl 30 _ rfl g 0 rfl _ _ HN2.out.range Tryz.underlying30 rfl HSz.out ?_
  have HC := Lib.hid (actText_any a _ _ HNm.out w2 HA2.out HT2.out HM.out)
  rw [HRES.out] at HC
  go_wp2_with fail
  with_reducible refine HC.out.mono ?_
  rintro e w3 ⟨rfl, hb3⟩
  dsimp only
  have HB3 := Lib.hid (HB2.out.trans (hb3.mono HZ2.out))
  clear hb3 HC
  go_wp2
  go_ret2
  exact ⟨rfl, by rw [HG.out]; exact HB3.out⟩
end Go.Proofs.YtnohfondkcbdnaaGreatDoor
/- plexuslaw29.known. -/
namespace Go.Proofs.YtnohfondkcbdnaaGreatDoor
open Go.RowKit Go.Lib
set_option linter.unusedVariables false
set_option linter.unusedSimpArgs false
attribute [local go_sem ↓] Go.wp_at_zero Go.wp_at_succ

def act5 : ActM := ⟨5, .slice none 0 0, [], zeroH, 0, .slice none 0 0, [], .slice none 0 0, [], 3, 0, false⟩
def act4 (g : Nat) : ActM := ⟨4, .slice none 0 0, [], zeroH, 0, .slice (some ⟨g, 0, none⟩) 2 2, [0, 2], .slice none 0 0, [], 0, 0, false⟩
theorem act5_ok (w : World) : act5.ok w := ⟨by decide, byts_nil w, zeroH_h, by decide, nums_nil w, txs_nil w, by decide, by decide⟩
theorem act5_may : MayP act5 := ⟨by decide, by decide, by decide, by decide, by decide, by decide, fun x hx => by cases hx⟩
theorem act4_may (g : Nat) : MayP (act4 g) := ⟨⟨by show (1 : Int) ≤ 4; decide, by show (4 : Int) ≤ 9; decide⟩, by show actEq (act4 g) (bareF (act4 g)) = true; rw [act_key]; exact ⟨rfl, rfl, rfl, rfl, rfl, rfl, rfl, rfl, rfl⟩, by show 0 ≤ _; decide, by show 2 ≤ 20; decide, by show 0 ≤ _; decide, by intro z hz; revert z; show ∀ z ∈ [(0 : Int), 0] ++ [0, 2], inN z = true; decide, fun x hx => by cases hx⟩
theorem act4_ok (w : World) (g : Nat) (h : Arr w g 3 [.int .i64 0, .int .i64 2]) : (act4 g).ok w := by
  refine ⟨by show (-9223372036854775808 : Int) ≤ 4 ∧ (4 : Int) ≤ 9223372036854775807; decide, byts_nil w, zeroH_h, by show 0 ≤ _; decide, ⟨?_, .inr ⟨g, 0, 2, rfl, by show 2 ≤ 2; decide, by decide, ?_⟩⟩, txs_nil w, by show (-9223372036854775808 : Int) ≤ 0 ∧ (0 : Int) ≤ 9223372036854775807; decide, by show (-9223372036854775808 : Int) ≤ 0 ∧ (0 : Int) ≤ 9223372036854775807; decide⟩
  · show ∀ z ∈ [(0 : Int), 2], _
    decide
  · intro j x hx
    match j, hx with
    | 0, hx =>
      obtain rfl : (0 : Int) = x := by simpa [act4] using hx
      intro k v hv
      rw [h.cell]
      match k, hv with
      | 0, hv => exact hv
      | k + 1, hv => cases hv
    | 1, hx =>
      obtain rfl : (2 : Int) = x := by simpa [act4] using hx
      intro k v hv
      rw [h.cell]
      match k, hv with
      | 0, hv => exact hv
      | k + 1, hv => cases hv
    | j + 2, hx => cases hx
theorem itoa3 : itoaB 3 = ⟨#[51]⟩ := by
  show bsT (Lib.decDigits 3) = _
  rw [Lib.decDigits_one (by omega)]; rfl
theorem itoa2 : itoaB 2 = ⟨#[50]⟩ := by
  show bsT (Lib.decDigits 2) = _
  rw [Lib.decDigits_one (by omega)]; rfl
theorem itoa0 : itoaB 0 = ⟨#[48]⟩ := by
  show bsT (Lib.decDigits 0) = _
  rw [Lib.decDigits_one (by omega)]; rfl
theorem dec0 : decB 0 = ⟨#[48]⟩ := by
  show bsT (Lib.decDigits 0) = _
  rw [Lib.decDigits_one (by omega)]; rfl
theorem list02 : listB [0, 2] = ⟨#[48, 44, 50]⟩ := by
  unfold listB
  rw [if_neg (by decide), List.map_cons, List.map_cons, List.map_nil, itoa0, itoa2]
  decide
theorem text5 : actTF act5 (nmB 5) (wsB 5) = ⟨#[103, 105, 118, 101, 32, 51]⟩ := by
  rw [sum5 act5 (nmB 5) rfl, show act5.n = 3 from rfl, itoa3]
  decide
theorem text4 (g : Nat) : actTF (act4 g) (nmB 4) (wsB 4) = (⟨#[109, 97, 107, 101, 32, 48, 44, 50, 32]⟩ : ByteArray) ++ strL (hexF zeroH) ++ ⟨#[32, 48, 32, 103, 111, 111, 100]⟩ := by
  rw [sum4 (act4 g) (nmB 4) rfl]
  show (nmB 4 ++ SP ++ listB [0, 2] ++ SP ++ strL (hexF zeroH) ++ SP ++ decB 0 ++ SP ++ qualB false) = _
  have h1 : nmB 4 ++ SP ++ listB [0, 2] ++ SP = (⟨#[109, 97, 107, 101, 32, 48, 44, 50, 32]⟩ : ByteArray) := by rw [list02]; decide
  have h2 : SP ++ decB 0 ++ SP ++ qualB false = (⟨#[32, 48, 32, 103, 111, 111, 100]⟩ : ByteArray) := by rw [dec0]; decide
  rw [h1, ← h2]
  simp only [ByteArray.append_assoc]
theorem act5_b (w : World) : (Instr.build 30 #[(0, .int .i64 5), (6, .int .i64 3)]).run Tryz.prog w = .ok (.agg act5.cells.toArray) w := by kernel_rfl
theorem act4_b (g : Nat) (w : World) : (Instr.build 30 #[(0, .int .i64 4), (4, .slice (some ⟨g, 0, none⟩) 2 2)]).run Tryz.prog w = .ok (.agg (act4 g).cells.toArray) w := by kernel_rfl
theorem mk32 (w : World) : (Instr.makeSlice 23 (.int .i64 32) (.int .i64 32)).run Tryz.prog w = .ok (.slice (some ⟨w.heap.size, 0, none⟩) 32 32) (w.alloc (.cells (bys zeroH).toArray 5)) := by kernel_rfl
set_option maxRecDepth 100000 in
set_option maxHeartbeats 1600000 in
theorem known_any (w : World) (ht : TabO w) : Calls Tryz.prog 5 #[] w fun e w' => e = .returned (.bool true) ∧ Below w.heap.size w w' := by
  have HT := Lib.hid ht
  have HC5 := Lib.hid (stext_yes act5 w (act5_ok w) ht act5_may 5 rfl (by omega) (by omega))
  rw [text5] at HC5
  clear ht
  have hbu := act5_b
  go_enter Tryz.func5, Tryz.ntmps5
  go_upto_region 1 with fail
  go_step
  iterate 1 (first | go_values | go_skip | go_guarded | go_step | go_upon)
  refine wp_build_run (P := Tryz.prog) 30 _ rfl #[(0, .int .i64 5), (6, .int .i64 3)] (by simp [Act.eval, Act.put]) _ (hbu _) ?_
  dsimp only [Act.put]
  simp only [List.setIfInBounds_toArray, List.set_cons_zero, List.set_cons_succ]
  go_wp2_with fail
  with_reducible refine HC5.out.mono ?_
  rintro e w2 ⟨rfl, hb2⟩
  dsimp only
  have HB2 := Lib.hid hb2
  have HT2 := Lib.hid (HT.out.below hb2)
  clear hb2 HC5 hbu
  go_upto_region 2 with fail
  have hbu := act4_b w2.heap.size
  go_step
  iterate 3 (first | go_values | go_skip | go_guarded | go_step | go_upon)
  refine wpList_step (fun K9 hK9 => ?_)
  rw [if_pos (by kernel_rfl)]
  refine wp_build_run (P := Tryz.prog) 30 _ rfl #[(0, .int .i64 4), (4, .slice (some ⟨w2.heap.size, 0, none⟩) 2 2)] (by simp [Act.eval, Act.put]) _ (hbu _) ?_
  refine hK9 _ _ ?_
  clear hK9 K9
  dsimp only [Act.put]
  simp only [List.setIfInBounds_toArray, List.set_cons_zero, List.set_cons_succ]
  have hm := Arr.made w2 3 [.int .i64 0, .int .i64 2]
  have hb := (Below.refl w2.heap.size w2).alloc (Nat.le_refl _) (.cells [Value.int .i64 0, .int .i64 2].toArray 3)
  have HM := Lib.hid hm
  have HZ2 := Lib.hid HB2.out.size
  have HB3 := Lib.hid (HB2.out.trans (hb.mono HZ2.out))
  have HT3 := Lib.hid (HT2.out.below hb)
  clear hm hb hbu HB2
  generalize World.alloc _ _ = w3 at *
  have HZ3 := Lib.hid HB3.out.size
  have HC4 := Lib.hid (stext_yes (act4 w2.heap.size) w3 (act4_ok w3 _ HM.out) HT3.out (act4_may _) 4 rfl (by omega) (by omega))
  rw [text4] at HC4
  generalize w2.heap.size = g2 at *
  obtain ⟨H, hH⟩ : ∃ H, strL (hexF zeroH) = H := ⟨_, rfl⟩
  have hsH : H.size ≤ 100 := by rw [← hH, strL_size, hexF_len]; decide
  have HH := Lib.hid hH
  rw [hH] at HC4
  clear hH
  go_wp2_with fail
  with_reducible refine HC4.out.mono ?_
  rintro e w4 ⟨rfl, hb4⟩
  dsimp only
  have HB4 := Lib.hid (HB3.out.trans (hb4.mono HZ3.out))
  have HT4 := Lib.hid (HT3.out.below hb4)
  have HZ4 := Lib.hid HB4.out.size
  clear hb4 HC4 HM HT3
  have hmk := mk32 w4
  go_upto_region 3 with fail
  go_step
  iterate 3 (first | go_values | go_skip | go_guarded | go_step | go_upon)
  have hm := Arr.made w4 5 (bys zeroH)
  have hb := (Below.refl w4.heap.size w4).alloc (Nat.le_refl _) (.cells (bys zeroH).toArray 5)
  have HM := Lib.hid hm
  have HB5 := Lib.hid (HB4.out.trans (hb.mono HZ4.out))
  clear hm hb hmk HB4 HT4
  generalize World.alloc _ _ = w5 at *
  have HZ5 := Lib.hid HB5.out.size
  have HC6 := Lib.hid (rhex_any (.slice (some ⟨w4.heap.size, 0, none⟩) 32 32) zeroH w5 (rangeAt.byts HM.out.range zeroH_h) (by decide))
  rw [HH.out] at HC6
  generalize w4.heap.size = g4 at *
  go_wp2_with fail
  with_reducible refine HC6.out.mono ?_
  rintro e w6 ⟨rfl, hb6⟩
  dsimp only
  have HB6 := Lib.hid (HB5.out.trans (hb6.mono HZ5.out))
  have HZ6 := Lib.hid HB6.out.size
  clear hb6 HC6 HM HB5
  have HC7 := Lib.hid (lnum_any 0 w6)
  go_wp2_with fail
  with_reducible refine HC7.out.mono ?_
  rintro e w7 ⟨rfl, hb7⟩
  dsimp only
  have HB7 := Lib.hid (HB6.out.trans (hb7.mono HZ6.out))
  have HZ7 := Lib.hid HB7.out.size
  clear hb7 HC7 HB6
  have HC8 := Lib.hid (lnum_any 0 w7)
  go_wp2_with fail
  with_reducible refine HC8.out.mono ?_
  rintro e w8 ⟨rfl, hb8⟩
  dsimp only
  have HB8 := Lib.hid (HB7.out.trans (hb8.mono HZ7.out))
  clear hb8 HC8 HB7
  go_wp2
  go_ret
  exact ⟨rfl, HB8.out⟩
end Go.Proofs.YtnohfondkcbdnaaGreatDoor
/- A drawn region within a round: walked by the laws of the plain calculus. Nothing of the dump stands here. -/
namespace Go.Proofs.YtnohfondkcbdnaaGreatDoor
open Go.RowKit Go.Lib
set_option linter.unusedVariables false
theorem rowsIn_wide {n : Nat} {P : Program} {row : String} {args : Array Value} {w : World} {R : Value → World → Prop} (h : Rows P row args w R) : RowsIn Fence.wide n P row args w R :=
  fun c cs _ => let ⟨v, w', r, s⟩ := h c cs; ⟨v, w', r, stepsIn_wide.2 s⟩
section
variable {P : Program} {ops : Array Oper} {Q : Exit → Act → World → Prop} {md : Region.Mode} {n l : Nat}
theorem operIn_of {o : Oper} {a : Act} {w : World} {K : Act → World → Prop} (hd : ∀ c, o.op ≠ .defer c) (h : o.wp P a w K Q) : o.wpIn (Fence.wide.inRound l) n P a w K Q := by
  refine ⟨fun _ _ => trivial, ?_⟩
  rw [show (Fence.wide.inRound l).round = some l from rfl, Oper.semAt_some l _ _ hd]
  unfold Oper.wp at h
  generalize (execOp a.eval o).run P w = r at h ⊢
  cases r with
  | ok x w' =>
    cases x
    case enter f args =>
      refine ⟨(fun h => by cases h), ?_⟩
      refine CallsIn.inRound (F := Fence.wide) l (callsIn_wide.2 (Calls.mono h ?_))
      intro e w'' he
      cases e <;> exact he
    case row row args => exact ⟨(fun h => by cases h), rowsIn_wide (Rows.mono h (fun _ _ he => he))⟩
    case round l f tmps assign body => exact h.elim
    all_goals exact h
  | halt x w' => cases x <;> exact h
theorem operInW {o : Oper} {a : Act} {w : World} {K : Act → World → Prop} (h : o.wp P a w K Q) : o.wpIn Fence.wide n P a w K Q := by
  refine ⟨fun _ _ => trivial, ?_⟩
  rw [show Fence.wide.round = none from rfl, Oper.semAt_none]
  unfold Oper.wp at h
  generalize (execOp a.eval o).run P w = r at h ⊢
  cases r with
  | ok x w' =>
    cases x
    case enter f args =>
      refine ⟨(fun h => by cases h), ?_⟩
      refine callsIn_wide.2 (Calls.mono h ?_)
      intro e w'' he
      cases e <;> exact he
    case row row args => exact ⟨(fun h => by cases h), rowsIn_wide (Rows.mono h (fun _ _ he => he))⟩
    case round l f tmps assign body => exact h.elim
    all_goals exact h
  | halt x w' => cases x <;> exact h
theorem listIn_of {rest : List Oper} {o : Oper} {a : Act} {w : World} (hg : o.guard = none) (h : ∀ K : Act → World → Prop, (∀ a w, wpListIn Fence.wide n P ops Q rest a w → K a w) → o.wp P a w K Q) : wpListIn Fence.wide n P ops Q (o :: rest) a w :=
  wpListIn_plain hg (fun K hK => operInW (h K hK))
theorem wpOpIn_of (hd : ∀ (i : Nat) (o : Oper), ops[i]? = some o → ∀ c, o.op ≠ .defer c) (hQ : ¬ LetsOut Q) {i : Nat} {a : Act} {w : World} {K : Act → World → Prop} (h : wpOp P ops Q i K a w) : wpOpIn (Fence.wide.inRound l) n P ops Q i K a w := by
  unfold wpOp at h
  unfold wpOpIn
  cases ho : ops[i]? with
  | none => simpa [ho] using h
  | some o =>
    simp only [ho] at h ⊢
    by_cases hw : Region.wanted o (yielded ops a.tmps) = true
    · rw [if_pos hw] at h ⊢
      rcases h with h | h
      · exact operIn_of (hd i o ho) h
      · exact absurd h.2 hQ
    · rw [if_neg hw] at h ⊢
      exact ⟨fun _ _ => trivial, h⟩
theorem wpAnyIn_of (hd : ∀ (i : Nat) (o : Oper), ops[i]? = some o → ∀ c, o.op ≠ .defer c) (hQ : ¬ LetsOut Q) : ∀ (fuel : Nat) (listed : Array Bool) (a : Act) (w : World), wpAny P md ops Q fuel listed a w → wpAnyIn (Fence.wide.inRound l) n P md ops Q fuel listed a w
  | 0, _, _, _, h => h
  | fuel + 1, _, _, _, h => ⟨h.1, fun i hi => wpOpIn_of hd hQ (wpOp_mono (fun a' w' h' => wpAnyIn_of hd hQ fuel _ a' w' h') (h.2 i hi))⟩
/-- A drawn region in a round. -/
theorem wpInR_region_H (S : World → Prop) {id : Nat} {a : Act} {w : World} {Q' : Exit → Act → World → Prop} (hm : P.follows .mixedOrders = true) (hd : ∀ (i : Nat) (o : Oper), ops[i]? = some o → ∀ c, o.op ≠ .defer c)
    (hQ : ∀ e a w, Q e a w → Q' e a w) (hL : ¬ LetsOut Q)
    (h : wpAnyH P .any ops Q S ops.size (Array.replicate ops.size false) a w.drew) : (Code.region id ops true).wpIn (Fence.wide.inRound l) n P Q' a w :=
  wpIn_mono (wpIn_region_any hm (wpAnyIn_of hd hL _ _ _ _ (wpAny_of_held _ _ _ _ h))) hQ
end
end Go.Proofs.YtnohfondkcbdnaaGreatDoor
/- script.Names as an iterator: its contract. -/
namespace Go.Proofs.YtnohfondkcbdnaaGreatDoor
open Go.RowKit Go.Lib
set_option linter.unusedVariables false
set_option linter.unusedSimpArgs false
attribute [local go_sem ↓] Go.wp_at_zero Go.wp_at_succ
attribute [local go_sem] Oper.semAt_some

/-- What a round keeps: cells from D on. -/
def KpC (D : Nat) (W W' : World) : Prop := W.heap.size ≤ W'.heap.size ∧ ∀ (k : Nat) (o : Obj), D ≤ k → W.heap[k]? = some o → o.isCells = true → W'.heap[k]? = some o
theorem kpC_t {D : Nat} {A B C : World} (h : KpC D A B) (k : KpC D B C) : KpC D A C := ⟨Nat.le_trans h.1 k.1, fun i o hi ho hc => k.2 i o hi (h.2 i o hi ho hc) hc⟩
theorem kpC_b {D : Nat} (W : World) (l : Nat) (o o' : Obj) (h : W.heap[l]? = some o) (ho : o.isCells = false) : KpC D W (W.putObj l o') := by
  refine ⟨(grownBy_putObj' W l o').size, fun k x hk hx hc => ?_⟩
  by_cases e : k = l
  · subst e; rw [h] at hx; cases hx; rw [ho] at hc; cases hc
  · exact (World.putObj_heap_other (by omega)).trans hx
theorem kpC_below {D B : Nat} {W W' : World} (h : Below B W W') (hB : W.heap.size ≤ B) : KpC D W W' := ⟨h.size, fun k o _ ho _ => (h.block k (by have := (Array.getElem?_eq_some_iff.1 ho).1; omega)).trans ho⟩
def encN (k : Nat) : Array Value := #[.int .i64 (k : Int), .string (nmB k)]
def L9 : List Nat := [1, 2, 3, 4, 5, 6, 7, 8, 9]
theorem L9_at (k : Nat) (h : k < 9) : L9[k]? = some (k + 1) := by
  match k, h with
  | 0, _ => rfl
  | 1, _ => rfl
  | 2, _ => rfl
  | 3, _ => rfl
  | 4, _ => rfl
  | 5, _ => rfl
  | 6, _ => rfl
  | 7, _ => rfl
  | 8, _ => rfl
theorem L9_snoc (k : Nat) (h : k < 9) : L9.take k ++ [k + 1] = L9.take (k + 1) := by rw [List.take_add_one, L9_at k h]; rfl
theorem L9_snoc' (k : Nat) (h0 : ¬ k = 0) (h : k < 10) : L9.take (k - 1) ++ [k] = L9.take (k + 1 - 1) := by
  have := L9_snoc (k - 1) (by omega)
  rwa [show k - 1 + 1 = k by omega] at this
theorem grown_of_below {w w' : World} (h : Below w.heap.size w w') : w.grownBy w' none := ⟨h.os, h.tape, h.output, h.size, fun k hk _ => h.block k hk⟩
theorem abides_below {β : Type} {B : Nat} {J : β → World → Prop} (h : AbidesFrom B J) {s : β} {w w' : World} (hs : J s w) (hb : Below w.heap.size w w') : J s w' := h s w w' none hs (grown_of_below hb) (fun r e => by cases e)
theorem KpC.arr {D : Nat} {W W' : World} {g : Nat} {t : TypeId} {vs : List Value} (h : KpC D W W') (hg : D ≤ g) (ha : Arr W g t vs) : Arr W' g t vs := h.2 g _ hg ha rfl
theorem zero_nm : ∀ w, (zeroValue 44).run Tryz.prog w = .ok (.agg #[.string ⟨#[]⟩, .string ⟨#[]⟩]) w := by
  have := zero_of_info (P := Tryz.prog) (t := 44) (v := .agg #[.string ⟨#[]⟩, .string ⟨#[]⟩]) (n := 2) (by kernel_rfl)
  exact this.1
set_option maxRecDepth 100000 in
set_option maxHeartbeats 1600000 in
theorem names1_stops (n D : Nat) (w : World) (hD : D ≤ w.heap.size) :
    SeqStopsK Fence.wide n Tryz.prog 57 #[] encN (KpC D) (fun xs => xs = L9) (fun pre => pre <+: L9) 9 w := fun l J Jx W hW hJ hJx hY h0 => by
  refine callsIn_of_wp Tryz.func57 rfl trivial ?_ rfl
  simp only [Tryz.ntmps57, List.size_toArray, List.length_cons, List.length_nil, Nat.reduceAdd, Nat.reduceSub, Array.replicate_succ, Array.replicate_zero, List.push_toArray, List.append_toArray, List.nil_append, List.cons_append]
  have HY := Lib.hid hY
  have HJ := Lib.hid hJ
  have HDw := Lib.hid (Nat.le_trans hD hW.size)
  have HC := Lib.hid (fun w => names_any w)
  have H0 := Lib.hid h0
  clear hY hJ hJx hW h0
  gi_wp2_with fail
  refine ⟨trivial, (fun h => by cases h), ?_⟩
  refine (callsIn_wide.2 (HC.out W)).mono ?_
  rintro e w2 ⟨g3, rfl, hg3, ha3, hb3⟩
  dsimp only
  have HN := Lib.hid (show Arr w2 g3 44 namesC from ha3)
  have HJ2 := Lib.hid (abides_below HJ.out H0.out (hb3.mono (Nat.le_refl _)))
  have HG := Lib.hid (Nat.le_trans HDw.out hg3)
  have HZ := Lib.hid hb3.size
  clear hg3 ha3 hb3 H0 HC
  gi_wp2
  gi_loopw [6] (fun i wr => ∃ k : Nat, Hid (k ≤ 10) ∧ i = .int .i64 (k : Int) ∧ Hid (J (L9.take (k - 1)) wr) ∧ Hid (Arr wr g3 44 namesC) ∧ Hid (W.heap.size ≤ wr.heap.size))
    (fun i wr => 10 - (RowKit.intOf i).toNat)
  case atStart => exact ⟨0, (by omega : (0 : Nat) ≤ 10), rfl, HJ2.out, HN.out, HZ.out⟩
  case round =>
    obtain ⟨k, hk, rfl, hj, hn, hz⟩ := hrel
    have HK := Lib.hid hk.out
    have HJk := Lib.hid hj.out
    have HNk := Lib.hid hn.out
    have HZk := Lib.hid hz.out
    clear hk hj hn hz HJ2 HN HZ
    have hk10 := HK.out
    by_cases hlt : (k : Int) < 10
    · have HR := Lib.hid (names_at wr g3 HNk.out k (by omega))
      by_cases h0 : k = 0
      · subst h0
        have hc0 : wr.cell? ⟨g3, 0, none⟩ = some (.string ⟨#[]⟩) := HR.out 0 _ rfl
        have hc1 : wr.cell? ⟨g3, 1, none⟩ = some (.string ⟨#[]⟩) := HR.out 1 _ rfl
        gi_wp2_with fail
        refine ⟨(fun _ h => by cases h), ?_⟩
        have hb := (Below.refl wr.heap.size wr).alloc (Nat.le_refl _) (.cells #[Value.string ⟨#[]⟩, .string ⟨#[]⟩] 44)
        have HB := Lib.hid hb
        clear hb hc0 hc1 HR
        generalize World.alloc _ _ = w4 at *
        gi_wp2
        go_roundw
        case rel => exact ⟨1, (by omega : 1 ≤ 10), rfl, abides_below HJ.out HJk.out HB.out, HNk.out.below HB.out HNk.out.lt, Nat.le_trans HZk.out HB.out.size⟩
        case measure => show 10 - (RowKit.intOf (.int .i64 1)).toNat < 10 - (RowKit.intOf (.int .i64 0)).toNat; decide
      · have hgt : ((0 : Int) < (k : Int)) := by omega
        have hc0 : wr.cell? ⟨g3, k * 2, none⟩ = some (.string (nmB k)) := HR.out 0 _ rfl
        have hc1 : wr.cell? ⟨g3, k * 2 + 1, none⟩ = some (.string (wsB k)) := HR.out 1 _ rfl
        have hJw := abides_below HJ.out HJk.out ((Below.refl wr.heap.size wr).alloc (Nat.le_refl _) (.cells #[.string (nmB k), .string (wsB k)] 44))
        obtain ⟨fn, tmps, assign, body, hy, hR⟩ := HY.out (L9.take (k - 1)) k _ hJw (by rw [List.length_take]; show min (k - 1) 9 < 9; omega)
        dsimp only [encN] at hy
        have HRd := Lib.hid hR
        clear hJw hR
        gi_wp2
        refine ⟨(fun h => by cases h), ?_⟩
        refine HRd.out.mono ?_
        rintro e w5 (⟨rfl, hJ5, hk5⟩ | ⟨rfl, hJx5⟩)
        · dsimp only
          have HJ5 := Lib.hid hJ5
          rw [L9_snoc' k h0 (by omega)] at HJ5
          have HN5 := Lib.hid (hk5.arr HG.out (HNk.out.below ((Below.refl wr.heap.size wr).alloc (Nat.le_refl _) (.cells #[.string (nmB k), .string (wsB k)] 44)) HNk.out.lt))
          have HZ5 := Lib.hid (Nat.le_trans HZk.out (Nat.le_trans ((Below.refl wr.heap.size wr).alloc (Nat.le_refl _) (.cells #[.string (nmB k), .string (wsB k)] 44)).size hk5.1))
          clear hJ5 hk5 HRd hy hc0 hc1 HR
          gi_wp2
          go_roundw
          case rel => exact ⟨k + 1, by show k + 1 ≤ 10; omega, rfl, HJ5.out, HN5.out, HZ5.out⟩
          case measure => show 10 - ((k : Int) + 1).toNat < 10 - (k : Int).toNat; omega
        · dsimp only
          have HJ5 := Lib.hid hJx5
          rw [L9_snoc' k h0 (by omega)] at HJ5
          clear hJx5 HRd hy hc0 hc1 HR
          gi_wp2
          refine bodyPost_ret (results_none rfl _ _ _) rfl ?_
          exact ⟨⟨_, rfl⟩, .inr ⟨L9.take (k + 1 - 1), List.take_prefix _ _, HJ5.out⟩⟩
    · have hlt := hlt
      have HF := Lib.hid (show L9.take (k - 1) = L9 by rw [show k = 10 by omega]; rfl)
      gi_wp2
      go_end0
      exact ⟨⟨_, rfl⟩, .inl (by have := HJk.out; rw [HF.out] at this; exact this)⟩
end Go.Proofs.YtnohfondkcbdnaaGreatDoor
