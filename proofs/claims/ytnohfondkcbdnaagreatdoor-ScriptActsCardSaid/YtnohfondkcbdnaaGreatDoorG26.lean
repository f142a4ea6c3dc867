/- plexuslaw29.once: the names are the names. -/
import Derived.Test.YtnohfondkcbdnaaGreatDoorG25
import Derived.Test.YtnohfondkcbdnaaGreatDoorG21
namespace Go.Proofs.YtnohfondkcbdnaaGreatDoor
open Go.RowKit Go.Lib
set_option linter.unusedVariables false
set_option linter.unusedSimpArgs false
attribute [local go_sem ↓] Go.wp_at_zero Go.wp_at_succ
attribute [local go_sem] Oper.semAt_some

def NormQ (K : Go.Act → World → Prop) : Exit → Go.Act → World → Prop
  | .normal, a, w => K a w
  | _, _, _ => False
def noDef (ops : Array Oper) : Bool := ops.toList.all fun o => match o.op with
  | .defer _ => false
  | _ => true
theorem noDef_spec {ops : Array Oper} (h : noDef ops = true) (i : Nat) (o : Oper) (ho : ops[i]? = some o) (c : Call) : o.op ≠ .defer c := by
  intro e
  have h1 := List.all_eq_true.1 h o (by
    have := Array.mem_of_getElem? ho
    exact Array.mem_toList_iff.2 this)
  rw [e] at h1
  cases h1
theorem wpInR_H {P : Program} {ops : Array Oper} {n l : Nat} (S : World → Prop) {id : Nat} {a : Go.Act} {w : World} {K : Go.Act → World → Prop} {Q0 : Exit → Go.Act → World → Prop} (hm : P.follows .mixedOrders = true) (hd : noDef ops = true)
    (h : wpAnyH P .any ops (NormQ K) S ops.size (Array.replicate ops.size false) a w.drew) : (Code.region id ops true).wpIn (Fence.wide.inRound l) n P (Exit.then K Q0) a w :=
  wpInR_region_H S hm (noDef_spec hd) (fun e a w h => by cases e <;> first | exact h | exact h.elim) (fun ⟨_, _, h⟩ => h) h
theorem arr_kept {A B : World} {row : Option Nat} {g : Nat} {t : TypeId} {vs : List Value} (h : Arr A g t vs) (hg : A.grownBy B row) (hr : ∀ r, row = some r → ∃ o : Obj, A.heap[r]? = some o ∧ o.isCells = false) : Arr B g t vs := by
  unfold Arr at *
  rw [hg.block g (Arr.lt h) (fun e => by
    obtain ⟨o, ho, hc⟩ := hr g e.symm
    rw [h] at ho; cases ho; cases hc)]
  exact h
theorem keeps_below {W W' : World} (h : Below W.heap.size W W') : KeepsOthers W W' := ⟨h.size, fun k o hk _ => (h.block k (Array.getElem?_eq_some_iff.1 hk).1).trans hk⟩
theorem kpC_set {D : Nat} (W : World) (b : Nat) (hb : b < D) (j : Nat) (v : Value) : KpC D W (W.setCell ⟨b, j, none⟩ v) := by
  have h := (Below.refl b W).setCell (p := ⟨b, j, none⟩) (Nat.le_refl _) v
  refine ⟨h.size, fun k o hk ho hc => ?_⟩
  rw [← ho]
  exact heap_setCell_other W ⟨b, j, none⟩ k v (by show k ≠ b; omega)
theorem snames_any (w : World) : Calls Tryz.prog 32 #[] w fun e w' => e = .returned (.func (.func 57) #[] #[]) ∧ w' = w := by
  go_enter Tryz.func32, Tryz.ntmps32
  go_wp2
  go_ret
  exact ⟨rfl, rfl⟩
theorem rname_cell {w : World} {g : Nat} (h : Arr w g 9 rnamesC) (k : Nat) (hk : k < 9) : w.cell? ⟨g, k + 1, none⟩ = some (.string (nmB (k + 1))) := by
  rw [h.cell]
  match k, hk with
  | 0, _ => rfl
  | 1, _ => rfl
  | 2, _ => rfl
  | 3, _ => rfl
  | 4, _ => rfl
  | 5, _ => rfl
  | 6, _ => rfl
  | 7, _ => rfl
  | 8, _ => rfl
def OnS (W : World) (g : Nat) (k : Int) (w' : World) : Prop := w'.cell? ⟨g + 1 + 1, 0, none⟩ = some (.int .i64 k) ∧ Below W.heap.size W w'
theorem OnS.below {W w' w2 : World} {g : Nat} {k : Int} (h : OnS W g k w') (hb : Below w'.heap.size w' w2) : OnS W g k w2 := ⟨(hb.cell (World.block_lt_of_cell? _ _ h.1)).trans h.1, h.2.trans (hb.mono h.2.size)⟩
theorem arr_other {w : World} {g g' : Nat} {t : TypeId} {vs : List Value} (h : Arr w g t vs) (hne : g ≠ g') (j : Nat) (v : Value) : Arr (w.setCell ⟨g', j, none⟩ v) g t vs := by
  unfold Arr at *
  rw [heap_setCell_other w ⟨g', j, none⟩ g v hne]
  exact h
theorem not_pre {pre : List Nat} {x : Nat} (hl : pre.length < 9) (hx : x ≠ pre.length + 1) : ¬ pre ++ [x] <+: L9 := by
  rintro ⟨t, ht⟩
  have h1 : (pre ++ [x] ++ t)[pre.length]? = some x := by simp
  rw [ht, L9_at _ hl] at h1
  exact hx (Option.some.inj h1).symm
/-- Between two rounds. -/
def OnI (w : World) (g : Nat) (m : Int) (pre : List Nat) (W : World) : Prop :=
  (pre = L9.take pre.length ∧ Arr W g 3 [.int .i64 m] ∧ (∃ b : Bool, Arr W (g + 1) 4 [.bool b]) ∧ Arr W (g + 1 + 1) 3 [.int .i64 (pre.length : Int)]) ∧ Below g w W
def OnX (w : World) (g : Nat) (c : Code) (pre : List Nat) (W : World) : Prop :=
  (c = .ret ∧ ∃ b : Bool, Arr W (g + 1) 4 [.bool b] ∧ (pre <+: L9 → b = true)) ∧ Below g w W
theorem onI_own (w : World) (g B : Nat) (m : Int) (hg : g ≤ w.heap.size) (hB : g ≤ B) : OwnFrom B (OnI w g m) :=
  OwnFrom.and (Own.from (fun s A B row hs hg hr => ⟨hs.1, arr_kept hs.2.1 hg hr, ⟨_, arr_kept hs.2.2.1.choose_spec hg hr⟩, arr_kept hs.2.2.2 hg hr⟩) _) (ownFrom_below hg hB)
theorem onX_own (w : World) (g B : Nat) (hg : g ≤ w.heap.size) (hB : g ≤ B) (c : Code) : OwnFrom B (OnX w g c) :=
  OwnFrom.and (Own.from (fun s A B row hs hg hr => ⟨hs.1, hs.2.choose, arr_kept hs.2.choose_spec.1 hg hr, hs.2.choose_spec.2⟩) _) (ownFrom_below hg hB)
set_option maxRecDepth 100000 in
set_option maxHeartbeats 3200000 in
theorem once_in (n : Nat) (hn : 3 ≤ n) (m : Int) (w : World) : CallsIn Fence.wide n Tryz.prog 11 #[.int .i64 m] w fun e w' => e = .returned (.bool true) ∧ Below w.heap.size w w' := by
  have h1 : 1 ≤ n := by omega
  refine callsIn_of_wp_marks Tryz.func11 rfl trivial ?_ rfl
  simp only [Tryz.ntmps11, List.size_toArray, List.length_cons, List.length_nil, Nat.reduceAdd, Nat.reduceSub, Array.replicate_succ, Array.replicate_zero, List.push_toArray, List.append_toArray, List.nil_append, List.cons_append]
  gi_wp2_with fail
  refine ⟨trivial, ?_⟩
  refine (callsIn_wide.2 (snames_any _)).mono ?_
  rintro e w2 ⟨rfl, rfl⟩
  dsimp only
  have hpk := three_laid w [.int .i64 m] [.bool false] [.int .i64 0] 3 4 3 _ rfl
  have HL := Lib.hid hpk
  clear hpk
  have hnil : ∀ w9, (binOp .eql 63 (.func (.func 57) #[] #[]) Value.nilFunc).run Tryz.prog w9 = .ok (.bool false) w9 := fun w9 => by kernel_rfl
  gi_wp2_with fail
  clear hnil
  obtain ⟨W0, hW0⟩ : ∃ W0, ((w.alloc (.cells #[.int .i64 m] 3)).alloc (.cells #[.bool false] 4)).alloc (.cells #[.int .i64 0] 3) = W0 := ⟨_, rfl⟩
  have hz0 : W0.heap.size = w.heap.size + 1 + 1 + 1 := by rw [← hW0, World.size_alloc, World.size_alloc, World.size_alloc]
  have HL1 := Lib.hid (show Arr W0 w.heap.size 3 [.int .i64 m] ∧ Arr W0 (w.heap.size + 1) 4 [.bool false] ∧ Arr W0 (w.heap.size + 1 + 1) 3 [.int .i64 0] ∧ Below w.heap.size w W0 by rw [← hW0]; exact HL.out)
  rw [hW0]
  clear hW0 HL
  obtain ⟨g, hg⟩ : ∃ g, w.heap.size = g := ⟨_, rfl⟩
  rw [hg] at hz0 HL1 ⊢
  have HG := Lib.hid hg
  refine wpIn_rangeFunc_ownF rfl h1 (gf := 57) (lb := #[]) rfl trivial (enters_of Tryz.func57 (by kernel_rfl) rfl)
    (names1_stops (n - 1) (g + 1 + 1 + 1) W0 (by omega)) kpC_t (fun W l o o' hl h ho _ => kpC_b W l o o' h ho) (Below.refl _ _) (fun _ => rfl)
    (OnI w g m) (OnX w g)
    (onI_own w g _ m (by omega) (by omega)) (onX_own w g _ (by omega) (by omega))
    ⟨⟨rfl, HL1.out.1, ⟨_, HL1.out.2.1⟩, HL1.out.2.2.1⟩, HL1.out.2.2.2⟩
    (fun x => { tmps := #[.int .i64 m, .pointer (some ⟨g, 0, none⟩), .pointer (some ⟨g + 1, 0, none⟩), .pointer (some ⟨g + 1 + 1, 0, none⟩), .func (.func 57) #[] #[], .int .i64 (x : Int), .string (nmB x), .func (.func 57) #[] #[], .func (.func 57) #[] #[], .bool false, .func (.func 57) #[] #[], .int .i64 (x : Int), .string (nmB x), undef, undef, undef, undef, undef, undef, undef, undef, undef, undef, undef, undef, undef, undef, undef, undef, undef, undef, undef, undef, undef, undef, undef, undef], defers := [] }) ?assign ?body ?done ?stop
  case assign =>
    intro l x W K hK
    dsimp only [encN]
    gi_wp2
    exact hK
  case body =>
    rintro l pre x W ⟨⟨hp, h1, ⟨b, h2⟩, h3⟩, hB⟩ hlen
    dsimp only
    have HP := Lib.hid hp
    have HA1 := Lib.hid h1
    have HA2 := Lib.hid h2
    have HA3 := Lib.hid h3
    have HB := Lib.hid hB
    have HLn := Lib.hid hlen
    obtain ⟨k, hk⟩ : ∃ k, pre.length = k := ⟨_, rfl⟩
    have HKe := Lib.hid hk
    rw [hk] at hlen HA3
    have HS1 := Lib.hid (show OnS W g k W.drew from ⟨HA3.out.cell 0, (Below.refl _ _).drew⟩)
    clear hp h1 h2 h3 hB hk HL1 HG hg hz0
    gi_wp2_with fail
    have hk9 : ¬ ((k : Int) ≥ 9) := by omega
    have hwr : IntKind.i64.wrap ((k : Int) + 1) = (k : Int) + 1 := IntWalk.i64_in _ (by omega)
    refine wpInR_H (OnS W g k) (by kernel_rfl) (by kernel_rfl) ?_
    have HS0 := HS1
    clear HS1
    generalize hw8 : W.drew = w8 at *
    by_cases hx : (x : Int) = (k : Int) + 1
    · skip
      simp only [List.size_toArray, List.length_cons, List.length_nil, Nat.reduceAdd, Array.replicate_succ, Array.replicate_zero, List.push_toArray, List.nil_append, List.cons_append]
      refine wpAnyH_take (i := 0) (oi := ⟨some 13, _, _, _, _, _⟩) (v := .int .i64 (k : Int)) rfl (by kernel_rfl) (by kernel_rfl) (by kernel_rfl) (fun _ _ _ h => h) (Or.inl ⟨by rfl, ?_⟩) HS0.out ?_
      · intro w hSw
        have hq := hSw.1
        go_simp <;> first | with_reducible rfl | (rw [hwr])
      dsimp only [Act.put]
      simp only [List.setIfInBounds_toArray, List.set_cons_zero, List.set_cons_succ]
      refine wpAnyH_take (i := 1) (oi := ⟨some 14, _, _, _, _, _⟩) (v := .bool false) rfl (by kernel_rfl) (by kernel_rfl) (by kernel_rfl) (fun _ _ _ h => h) (Or.inl ⟨by rfl, ?_⟩) HS0.out ?_
      · intro w hSw
        go_simp <;> first | with_reducible rfl | (rw [hwr])
      dsimp only [Act.put]
      simp only [List.setIfInBounds_toArray, List.set_cons_zero, List.set_cons_succ]
      refine wpAnyH_take (i := 2) (oi := ⟨some 15, _, _, _, _, _⟩) (v := .bool false) rfl (by kernel_rfl) (by kernel_rfl) (by kernel_rfl) (fun _ _ _ h => h) (Or.inl ⟨by rfl, ?_⟩) HS0.out ?_
      · intro w hSw
        go_simp <;> first | with_reducible rfl | (rw [hwr])
      dsimp only [Act.put]
      simp only [List.setIfInBounds_toArray, List.set_cons_zero, List.set_cons_succ]
      refine wpAnyH_take (i := 3) (oi := ⟨some 16, _, _, _, _, _⟩) (v := .int .i64 (x : Int)) rfl (by kernel_rfl) (by kernel_rfl) (by kernel_rfl) (fun _ _ _ h => h) (Or.inl ⟨by rfl, ?_⟩) HS0.out ?_
      · intro w hSw
        go_simp <;> first | with_reducible rfl | (rw [hwr])
      dsimp only [Act.put]
      simp only [List.setIfInBounds_toArray, List.set_cons_zero, List.set_cons_succ]
      refine wpAnyH_take (i := 4) (oi := ⟨some 17, _, _, _, _, _⟩) (v := .int .i64 (k : Int)) rfl (by kernel_rfl) (by kernel_rfl) (by kernel_rfl) (fun _ _ _ h => h) (Or.inl ⟨by rfl, ?_⟩) HS0.out ?_
      · intro w hSw
        have hq := hSw.1
        go_simp <;> first | with_reducible rfl | (rw [hwr])
      dsimp only [Act.put]
      simp only [List.setIfInBounds_toArray, List.set_cons_zero, List.set_cons_succ]
      refine wpAnyH_take (i := 5) (oi := ⟨some 18, _, _, _, _, _⟩) (v := .int .i64 ((k : Int) + 1)) rfl (by kernel_rfl) (by kernel_rfl) (by kernel_rfl) (fun _ _ _ h => h) (Or.inl ⟨by rfl, ?_⟩) HS0.out ?_
      · intro w hSw
        go_simp <;> first | with_reducible rfl | (rw [hwr])
      dsimp only [Act.put]
      simp only [List.setIfInBounds_toArray, List.set_cons_zero, List.set_cons_succ]
      refine wpAnyH_take (i := 6) (oi := ⟨some 19, _, _, _, _, _⟩) (v := .bool false) rfl (by kernel_rfl) (by kernel_rfl) (by kernel_rfl) (fun _ _ _ h => h) (Or.inl ⟨by rfl, ?_⟩) HS0.out ?_
      · intro w hSw
        go_simp <;> first | with_reducible rfl | (rw [hwr])
      dsimp only [Act.put]
      simp only [List.setIfInBounds_toArray, List.set_cons_zero, List.set_cons_succ]
      refine wpAnyH_take (i := 7) (oi := ⟨some 20, _, _, _, _, _⟩) (v := .bool false) rfl (by kernel_rfl) (by kernel_rfl) (by kernel_rfl) (fun _ _ _ h => h) (Or.inl ⟨by rfl, ?_⟩) HS0.out ?_
      · intro w hSw
        go_simp <;> first | with_reducible rfl | (rw [hwr])
      dsimp only [Act.put]
      simp only [List.setIfInBounds_toArray, List.set_cons_zero, List.set_cons_succ]
      refine wpAnyH_take (i := 8) (oi := ⟨some 21, _, _, _, _, _⟩) (v := .bool false) rfl (by kernel_rfl) (by kernel_rfl) (by kernel_rfl) (fun _ _ _ h => h) (Or.inl ⟨by rfl, ?_⟩) HS0.out ?_
      · intro w hSw
        go_simp <;> first | with_reducible rfl | (rw [hwr])
      dsimp only [Act.put]
      simp only [List.setIfInBounds_toArray, List.set_cons_zero, List.set_cons_succ]
      refine wpAnyH_take (i := 9) (oi := ⟨some 22, _, _, _, _, _⟩) (v := .string (nmB x)) rfl (by kernel_rfl) (by kernel_rfl) (by kernel_rfl) (fun _ _ _ h => h) (Or.inl ⟨by rfl, ?_⟩) HS0.out ?_
      · intro w hSw
        go_simp <;> first | with_reducible rfl | (rw [hwr])
      dsimp only [Act.put]
      simp only [List.setIfInBounds_toArray, List.set_cons_zero, List.set_cons_succ]
      refine wpAnyH_take (i := 11) (oi := ⟨some 24, _, _, _, _, _⟩) (v := .int .i64 (k : Int)) rfl (by kernel_rfl) (by kernel_rfl) (by kernel_rfl) (fun _ _ _ h => h) (Or.inl ⟨by rfl, ?_⟩) HS0.out ?_
      · intro w hSw
        have hq := hSw.1
        go_simp <;> first | with_reducible rfl | (rw [hwr])
      dsimp only [Act.put]
      simp only [List.setIfInBounds_toArray, List.set_cons_zero, List.set_cons_succ]
      refine wpAnyH_take (i := 12) (oi := ⟨some 25, _, _, _, _, _⟩) (v := .int .i64 ((k : Int) + 1)) rfl (by kernel_rfl) (by kernel_rfl) (by kernel_rfl) (fun _ _ _ h => h) (Or.inl ⟨by rfl, ?_⟩) HS0.out ?_
      · intro w hSw
        go_simp <;> first | with_reducible rfl | (rw [hwr])
      dsimp only [Act.put]
      simp only [List.setIfInBounds_toArray, List.set_cons_zero, List.set_cons_succ]
      refine wpAnyH_one (i := 10) (oi := ⟨some 23, _, _, _, _, _⟩) (by kernel_rfl) rfl (by rfl) (fun K9 hK9 => ?_)
      have HK9 := Lib.hid hK9
      clear hK9
      go_simp
      refine (rnames_any w8).mono ?_
      rintro e w2 ⟨gN, rfl, hge, harr, hb9⟩
      dsimp only
      have HcN := Lib.hid (show w2.cell? ⟨gN, k + 1, none⟩ = some (.string (nmB x)) by rw [show x = k + 1 by omega]; exact rname_cell harr k (by omega))
      have HS1 := Lib.hid (HS0.out.below hb9)
      clear HS0 hge harr hb9
      have HS0 := HS1
      clear HS1
      refine HK9.out _ _ HS0.out ?_
      clear HK9
      simp only [List.setIfInBounds_toArray, List.set_cons_zero, List.set_cons_succ]
      refine wpAnyH_one (i := 13) (oi := ⟨some 26, _, _, _, _, _⟩) (by kernel_rfl) rfl (by rfl) (fun K9 hK9 => ?_)
      have HK9 := Lib.hid hK9
      clear hK9
      go_simp
      rw [if_pos (⟨by omega, by omega⟩ : 0 ≤ (k : Int) + 1 ∧ (k : Int) + 1 < 10)]
      go_simp
      refine HK9.out _ _ HS0.out ?_
      clear HK9
      simp only [List.setIfInBounds_toArray, List.set_cons_zero, List.set_cons_succ]
      refine wpAnyH_one (i := 14) (oi := ⟨some 27, _, _, _, _, _⟩) (by kernel_rfl) rfl (by rfl) (fun K9 hK9 => ?_)
      have HK9 := Lib.hid hK9
      clear hK9
      have hq := HcN.out
      go_simp
      refine HK9.out _ _ HS0.out ?_
      clear HK9
      simp only [List.setIfInBounds_toArray, List.set_cons_zero, List.set_cons_succ]
      refine wpAnyH_one (i := 15) (oi := ⟨some 28, _, _, _, _, _⟩) (by kernel_rfl) rfl (by rfl) (fun K9 hK9 => ?_)
      have HK9 := Lib.hid hK9
      clear hK9
      go_simp
      refine HK9.out _ _ HS0.out ?_
      clear HK9
      simp only [List.setIfInBounds_toArray, List.set_cons_zero, List.set_cons_succ]
      refine wpAnyH_take (i := 16) (oi := ⟨some 29, _, _, _, _, _⟩) (v := .bool false) rfl (by kernel_rfl) (by kernel_rfl) (by kernel_rfl) (fun _ _ _ h => h) (Or.inl ⟨by rfl, ?_⟩) HS0.out ?_
      · intro w hSw
        go_simp <;> first | with_reducible rfl | (rw [hwr])
      dsimp only [Act.put]
      simp only [List.setIfInBounds_toArray, List.set_cons_zero, List.set_cons_succ]
      refine wpAnyH_done (by kernel_rfl) ?_ _
      unfold NormQ
      dsimp only
      have hbw := HS0.out.2
      have HA1w := Lib.hid (HA1.out.below hbw HA1.out.lt)
      have HA2w := Lib.hid (HA2.out.below hbw HA2.out.lt)
      have HA3w := Lib.hid (HA3.out.below hbw HA3.out.lt)
      have HKo := Lib.hid (keeps_below hbw)
      have HKp := Lib.hid (kpC_below (D := g + 1 + 1 + 1) hbw (Nat.le_refl _))
      have HBw := Lib.hid (HB.out.trans (hbw.mono (Nat.le_of_lt HA1.out.lt)))
      have hc1 := HA1w.out.cell 0
      have hc2 := HA2w.out.cell 0
      have hc3 := HA3w.out.cell 0
      have hf2 := HA2w.out.frozen 0
      have hf3 := HA3w.out.frozen 0
      dsimp only [List.getElem?_cons_zero] at hc1 hc2 hc3
      clear hbw HS0 HA1 HA2 HA3
      have HPn := Lib.hid (show pre ++ [x] = L9.take (k + 1) by rw [HP.out, HKe.out, show x = k + 1 by omega]; exact L9_snoc k hlen)
      have hln : (pre ++ [x]).length = k + 1 := by rw [List.length_append, HKe.out]; rfl
      have HLe := Lib.hid hln
      clear hln
      by_cases hm : (k : Int) + 1 = m
      · gi_wp2
        exact ⟨(HKo.out.trans (.setCell _ _ _)).trans (.setCell _ _ _), ⟨rfl, true, (arr_other HA2w.out (by omega) 0 _).set 0 _, fun _ => rfl⟩, (HBw.out.setCell (p := ⟨g + 1 + 1, 0, none⟩) (by show g ≤ g + 1 + 1; omega) _).setCell (p := ⟨g + 1, 0, none⟩) (by show g ≤ g + 1; omega) _⟩
      · gi_wp2
        exact ⟨HKo.out.trans (.setCell _ _ _), kpC_t HKp.out (kpC_set _ (g + 1 + 1) (by omega) 0 _), ⟨by rw [HLe.out]; exact HPn.out, arr_other HA1w.out (by omega) 0 _, ⟨_, arr_other HA2w.out (by omega) 0 _⟩, by rw [HLe.out]; exact HA3w.out.set 0 _⟩, HBw.out.setCell (p := ⟨g + 1 + 1, 0, none⟩) (by show g ≤ g + 1 + 1; omega) _⟩
    · skip
      simp only [List.size_toArray, List.length_cons, List.length_nil, Nat.reduceAdd, Array.replicate_succ, Array.replicate_zero, List.push_toArray, List.nil_append, List.cons_append]
      refine wpAnyH_take (i := 0) (oi := ⟨some 13, _, _, _, _, _⟩) (v := .int .i64 (k : Int)) rfl (by kernel_rfl) (by kernel_rfl) (by kernel_rfl) (fun _ _ _ h => h) (Or.inl ⟨by rfl, ?_⟩) HS0.out ?_
      · intro w hSw
        have hq := hSw.1
        go_simp <;> first | with_reducible rfl | (rw [hwr])
      dsimp only [Act.put]
      simp only [List.setIfInBounds_toArray, List.set_cons_zero, List.set_cons_succ]
      refine wpAnyH_take (i := 1) (oi := ⟨some 14, _, _, _, _, _⟩) (v := .bool false) rfl (by kernel_rfl) (by kernel_rfl) (by kernel_rfl) (fun _ _ _ h => h) (Or.inl ⟨by rfl, ?_⟩) HS0.out ?_
      · intro w hSw
        go_simp <;> first | with_reducible rfl | (rw [hwr])
      dsimp only [Act.put]
      simp only [List.setIfInBounds_toArray, List.set_cons_zero, List.set_cons_succ]
      refine wpAnyH_take (i := 2) (oi := ⟨some 15, _, _, _, _, _⟩) (v := .bool false) rfl (by kernel_rfl) (by kernel_rfl) (by kernel_rfl) (fun _ _ _ h => h) (Or.inl ⟨by rfl, ?_⟩) HS0.out ?_
      · intro w hSw
        go_simp <;> first | with_reducible rfl | (rw [hwr])
      dsimp only [Act.put]
      simp only [List.setIfInBounds_toArray, List.set_cons_zero, List.set_cons_succ]
      refine wpAnyH_take (i := 3) (oi := ⟨some 16, _, _, _, _, _⟩) (v := .int .i64 (x : Int)) rfl (by kernel_rfl) (by kernel_rfl) (by kernel_rfl) (fun _ _ _ h => h) (Or.inl ⟨by rfl, ?_⟩) HS0.out ?_
      · intro w hSw
        go_simp <;> first | with_reducible rfl | (rw [hwr])
      dsimp only [Act.put]
      simp only [List.setIfInBounds_toArray, List.set_cons_zero, List.set_cons_succ]
      refine wpAnyH_take (i := 4) (oi := ⟨some 17, _, _, _, _, _⟩) (v := .int .i64 (k : Int)) rfl (by kernel_rfl) (by kernel_rfl) (by kernel_rfl) (fun _ _ _ h => h) (Or.inl ⟨by rfl, ?_⟩) HS0.out ?_
      · intro w hSw
        have hq := hSw.1
        go_simp <;> first | with_reducible rfl | (rw [hwr])
      dsimp only [Act.put]
      simp only [List.setIfInBounds_toArray, List.set_cons_zero, List.set_cons_succ]
      refine wpAnyH_take (i := 5) (oi := ⟨some 18, _, _, _, _, _⟩) (v := .int .i64 ((k : Int) + 1)) rfl (by kernel_rfl) (by kernel_rfl) (by kernel_rfl) (fun _ _ _ h => h) (Or.inl ⟨by rfl, ?_⟩) HS0.out ?_
      · intro w hSw
        go_simp <;> first | with_reducible rfl | (rw [hwr])
      dsimp only [Act.put]
      simp only [List.setIfInBounds_toArray, List.set_cons_zero, List.set_cons_succ]
      refine wpAnyH_take (i := 6) (oi := ⟨some 19, _, _, _, _, _⟩) (v := .bool true) rfl (by kernel_rfl) (by kernel_rfl) (by kernel_rfl) (fun _ _ _ h => h) (Or.inl ⟨by rfl, ?_⟩) HS0.out ?_
      · intro w hSw
        go_simp <;> first | with_reducible rfl | (rw [hwr])
      dsimp only [Act.put]
      simp only [List.setIfInBounds_toArray, List.set_cons_zero, List.set_cons_succ]
      refine wpAnyH_take (i := 7) (oi := ⟨some 20, _, _, _, _, _⟩) (v := .bool true) rfl (by kernel_rfl) (by kernel_rfl) (by kernel_rfl) (fun _ _ _ h => h) (Or.inl ⟨by rfl, ?_⟩) HS0.out ?_
      · intro w hSw
        go_simp <;> first | with_reducible rfl | (rw [hwr])
      dsimp only [Act.put]
      simp only [List.setIfInBounds_toArray, List.set_cons_zero, List.set_cons_succ]
      refine wpAnyH_take (i := 8) (oi := ⟨some 21, _, _, _, _, _⟩) (v := .bool true) rfl (by kernel_rfl) (by kernel_rfl) (by kernel_rfl) (fun _ _ _ h => h) (Or.inl ⟨by rfl, ?_⟩) HS0.out ?_
      · intro w hSw
        go_simp <;> first | with_reducible rfl | (rw [hwr])
      dsimp only [Act.put]
      simp only [List.setIfInBounds_toArray, List.set_cons_zero, List.set_cons_succ]
      refine wpAnyH_take (i := 9) (oi := ⟨some 22, _, _, _, _, _⟩) (v := undef) rfl (by kernel_rfl) (by kernel_rfl) (by kernel_rfl) (fun _ _ _ h => h) (Or.inr ⟨by rfl, rfl⟩) HS0.out ?_
      dsimp only [Act.put]
      simp only [List.setIfInBounds_toArray, List.set_cons_zero, List.set_cons_succ]
      refine wpAnyH_take (i := 10) (oi := ⟨some 23, _, _, _, _, _⟩) (v := undef) rfl (by kernel_rfl) (by kernel_rfl) (by kernel_rfl) (fun _ _ _ h => h) (Or.inr ⟨by rfl, rfl⟩) HS0.out ?_
      dsimp only [Act.put]
      simp only [List.setIfInBounds_toArray, List.set_cons_zero, List.set_cons_succ]
      refine wpAnyH_take (i := 11) (oi := ⟨some 24, _, _, _, _, _⟩) (v := undef) rfl (by kernel_rfl) (by kernel_rfl) (by kernel_rfl) (fun _ _ _ h => h) (Or.inr ⟨by rfl, rfl⟩) HS0.out ?_
      dsimp only [Act.put]
      simp only [List.setIfInBounds_toArray, List.set_cons_zero, List.set_cons_succ]
      refine wpAnyH_take (i := 12) (oi := ⟨some 25, _, _, _, _, _⟩) (v := undef) rfl (by kernel_rfl) (by kernel_rfl) (by kernel_rfl) (fun _ _ _ h => h) (Or.inr ⟨by rfl, rfl⟩) HS0.out ?_
      dsimp only [Act.put]
      simp only [List.setIfInBounds_toArray, List.set_cons_zero, List.set_cons_succ]
      refine wpAnyH_take (i := 13) (oi := ⟨some 26, _, _, _, _, _⟩) (v := undef) rfl (by kernel_rfl) (by kernel_rfl) (by kernel_rfl) (fun _ _ _ h => h) (Or.inr ⟨by rfl, rfl⟩) HS0.out ?_
      dsimp only [Act.put]
      simp only [List.setIfInBounds_toArray, List.set_cons_zero, List.set_cons_succ]
      refine wpAnyH_take (i := 14) (oi := ⟨some 27, _, _, _, _, _⟩) (v := undef) rfl (by kernel_rfl) (by kernel_rfl) (by kernel_rfl) (fun _ _ _ h => h) (Or.inr ⟨by rfl, rfl⟩) HS0.out ?_
      dsimp only [Act.put]
      simp only [List.setIfInBounds_toArray, List.set_cons_zero, List.set_cons_succ]
      refine wpAnyH_take (i := 15) (oi := ⟨some 28, _, _, _, _, _⟩) (v := undef) rfl (by kernel_rfl) (by kernel_rfl) (by kernel_rfl) (fun _ _ _ h => h) (Or.inr ⟨by rfl, rfl⟩) HS0.out ?_
      dsimp only [Act.put]
      simp only [List.setIfInBounds_toArray, List.set_cons_zero, List.set_cons_succ]
      refine wpAnyH_take (i := 16) (oi := ⟨some 29, _, _, _, _, _⟩) (v := .bool true) rfl (by kernel_rfl) (by kernel_rfl) (by kernel_rfl) (fun _ _ _ h => h) (Or.inl ⟨by rfl, ?_⟩) HS0.out ?_
      · intro w hSw
        go_simp <;> first | with_reducible rfl | (rw [hwr])
      dsimp only [Act.put]
      simp only [List.setIfInBounds_toArray, List.set_cons_zero, List.set_cons_succ]
      refine wpAnyH_done (by kernel_rfl) ?_ _
      unfold NormQ
      dsimp only
      have hbw := HS0.out.2
      have HA1w := Lib.hid (HA1.out.below hbw HA1.out.lt)
      have HA2w := Lib.hid (HA2.out.below hbw HA2.out.lt)
      have HA3w := Lib.hid (HA3.out.below hbw HA3.out.lt)
      have HKo := Lib.hid (keeps_below hbw)
      have HKp := Lib.hid (kpC_below (D := g + 1 + 1 + 1) hbw (Nat.le_refl _))
      have HBw := Lib.hid (HB.out.trans (hbw.mono (Nat.le_of_lt HA1.out.lt)))
      have hc1 := HA1w.out.cell 0
      have hc2 := HA2w.out.cell 0
      have hc3 := HA3w.out.cell 0
      have hf2 := HA2w.out.frozen 0
      have hf3 := HA3w.out.frozen 0
      dsimp only [List.getElem?_cons_zero] at hc1 hc2 hc3
      clear hbw HS0 HA1 HA2 HA3
      have HNp := Lib.hid (not_pre (pre := pre) (x := x) HLn.out (by rw [HKe.out]; omega))
      gi_wp2
      exact ⟨HKo.out.trans (.setCell _ _ _), ⟨rfl, false, HA2w.out.set 0 _, fun h => absurd h HNp.out⟩, HBw.out.setCell (p := ⟨g + 1, 0, none⟩) (by show g ≤ g + 1; omega) _⟩
  case done =>
    rintro D ys W hD rfl ⟨⟨hp, h1, ⟨b, h2⟩, h3⟩, hB⟩ hK
    dsimp only
    have h3 : Arr W (g + 1 + 1) 3 [.int .i64 9] := h3
    have hc3 := h3.cell 0
    have hc2 := h2.cell 0
    have hf2 := h2.frozen 0
    dsimp only [List.getElem?_cons_zero] at hc2 hc3
    have HH2 := Lib.hid h2
    have HBw := Lib.hid hB
    have HDz := Lib.hid hD
    have HGz := Lib.hid hz0
    clear hp h1 h2 h3 hB HL1 hD hz0 hg
    gi_wp2
    have hK' := (KeepsOthers.setCell W ⟨g + 1, 0, none⟩ (.bool true)).same D _ hK rfl
    refine ⟨by simp, .inl ⟨_, _, rfl, run_takeDeferred hK', ?_⟩⟩
    have hA := arr_kept (HH2.out.set 0 (.bool true)) (grownBy_putObj' _ D (.deferred none)) (fun r e => by cases e; exact ⟨_, hK', rfl⟩)
    have hc5 := hA.cell 0
    dsimp only [List.set_cons_zero, List.getElem?_cons_zero] at hc5
    refine ⟨.bool true, ?_, rfl, ?_⟩
    · simp [results, Tryz.f11, go_sem, hc5]
    · have hb1 := HBw.out.setCell (p := ⟨g + 1, 0, none⟩) (by show g ≤ g + 1; omega) (.bool true)
      rw [HG.out]
      exact hb1.trans (belowK_b (w := w) (Nat.le_of_eq HG.out.symm) _ D _ _ (by have := HDz.out; have := HGz.out; rw [HG.out]; omega) hK' rfl rfl)
  case stop =>
    rintro D c pre W hD hpre ⟨⟨rfl, b, h2, hb⟩, hB⟩ hK
    dsimp only
    obtain rfl := hb hpre
    have HH2 := Lib.hid h2
    have HBw := Lib.hid hB
    have HDz := Lib.hid hD
    have HGz := Lib.hid hz0
    clear h2 hb hB HL1 hD hz0 hg
    gi_wp2
    refine ⟨by simp, .inl ⟨_, _, rfl, run_takeDeferred hK, ?_⟩⟩
    have hA := arr_kept HH2.out (grownBy_putObj' _ D (.deferred none)) (fun r e => by cases e; exact ⟨_, hK, rfl⟩)
    have hc5 := hA.cell 0
    dsimp only [List.getElem?_cons_zero] at hc5
    refine ⟨.bool true, ?_, rfl, ?_⟩
    · simp [results, Tryz.f11, go_sem, hc5]
    · rw [HG.out]
      exact HBw.out.trans (belowK_b (w := w) (Nat.le_of_eq HG.out.symm) _ D _ _ (by have := HDz.out; have := HGz.out; rw [HG.out]; omega) hK rfl rfl)
theorem once_any (m : Int) (w : World) : Calls Tryz.prog 11 #[.int .i64 m] w fun e w' => e = .returned (.bool true) ∧ Below w.heap.size w w' := callsIn_wide.1 (once_in 3 (Nat.le_refl _) m w)
end Go.Proofs.YtnohfondkcbdnaaGreatDoor
