/- merkle.Lead of what is no path; merkle.Check. -/
import Derived.Test.YthnbnckmeffkmaaGreatG12
import Derived.ChangeKeysEq
namespace Go.Proofs.YthnbnckmeffkmaaGreat
open Go.RowKit Go.Lib
set_option linter.unusedVariables false
set_option linter.unusedSimpArgs false
attribute [local go_sem ↓] Go.wp_at_zero Go.wp_at_succ

def zeroH : List Nat := List.replicate 32 0
theorem bys_zeroH : bys zeroH = List.replicate 32 (.int .u8 0) := rfl

end Go.Proofs.YthnbnckmeffkmaaGreat
/- Two hashes, compared. -/
namespace Go.Proofs.YthnbnckmeffkmaaGreat
open Go.RowKit Go.Lib
set_option linter.unusedVariables false
set_option linter.unusedSimpArgs false

theorem run_eqItems_bys {P : Program} {e : TypeId} (w : World) (he : P.plainKey e = true) (hu : P.underlying e = some (.int .u8)) (d : Nat) (A B : List Nat) : ∀ is : List Nat, (∀ i ∈ is, i < A.length ∧ i < B.length) →
    (Op.eqItems (d + 1) e 1 (bys A).toArray (bys B).toArray is).run P w = .ok (is.all fun i => A.getD i 0 == B.getD i 0) w
  | [], _ => by simp [Op.eqItems]
  | i :: is, h => by
    have h1 := h i (List.mem_cons_self ..)
    have ha : (bys A).toArray[i * 1]? = some (.int .u8 (A.getD i 0 : Nat)) := by rw [Nat.mul_one, List.getElem?_toArray]; exact bys_get A i h1.1
    have hb : (bys B).toArray[i * 1]? = some (.int .u8 (B.getD i 0 : Nat)) := by rw [Nat.mul_one, List.getElem?_toArray]; exact bys_get B i h1.2
    simp only [Op.eqItems, Sem.run_bind, run_part_plain w he ha, run_part_plain w he hb, Result.andThen_ok, run_equalIn_int w d e .u8 .u8 _ _ hu]
    have ih := run_eqItems_bys w he hu d A B is (fun j hj => h j (List.mem_cons_of_mem _ hj))
    by_cases hc : A.getD i 0 = B.getD i 0
    · rw [List.all_cons, hc]
      simpa using ih
    · have hc2 : (((A.getD i 0 : Nat) : Int) == ((B.getD i 0 : Nat) : Int)) = false := by
        rw [beq_eq_false_iff_ne]; omega
      rw [List.all_cons, hc2, show (A.getD i 0 == B.getD i 0) = false from by rw [beq_eq_false_iff_ne]; exact hc]
      simp
theorem all_eq (A B : List Nat) (h : A.length = B.length) : ((List.range A.length).all fun i => A.getD i 0 == B.getD i 0) = decide (A = B) := by
  rw [Bool.eq_iff_iff, List.all_eq_true, decide_eq_true_iff]
  constructor
  · intro hh
    refine List.ext_getElem h fun i h1 h2 => ?_
    have := hh i (List.mem_range.2 h1)
    simpa [List.getD, List.getElem?_eq_getElem h1, List.getElem?_eq_getElem h2] using this
  · rintro rfl i _
    simp
theorem cells_u8 : Tryz.prog.cellsOf 5 = 1 := by kernel_rfl
theorem plain_u8 : Tryz.prog.plainKey 5 = true := by kernel_rfl
theorem neq_hash (w : World) (A B : List Nat) (hA : IsH A) (hB : IsH B) : (binOp .neq 24 (.agg (bys A).toArray) (.agg (bys B).toArray)).run Tryz.prog w = .ok (.bool (!decide (A = B))) w := by
  obtain ⟨i, hi⟩ : ∃ i, Tryz.prog.info? 5 = some i := Option.isSome_iff_exists.1 (by kernel_rfl)
  rw [run_neq_struct, show (10000 : Nat) = 9998 + 1 + 1 from rfl, run_equalIn_array w (9998 + 1) _ _ Tryz.underlying24 hi, cells_u8, run_eqItems_bys w plain_u8 Tryz.underlying5 9998 A B _ (fun i hi => ⟨by rw [hA.1]; exact List.mem_range.1 hi, by rw [hB.1]; exact List.mem_range.1 hi⟩)]
  have := all_eq A B (by rw [hA.1, hB.1])
  rw [hA.1] at this
  rw [this]
  rfl
theorem equal_hash (w : World) (A B : List Nat) (hA : IsH A) (hB : IsH B) : (Op.equalIn 10000 24 (.agg (bys A).toArray) (.agg (bys B).toArray)).run Tryz.prog w = .ok (decide (A = B)) w := by
  obtain ⟨i, hi⟩ : ∃ i, Tryz.prog.info? 5 = some i := Option.isSome_iff_exists.1 (by kernel_rfl)
  rw [show (10000 : Nat) = 9998 + 1 + 1 from rfl, run_equalIn_array w (9998 + 1) _ _ Tryz.underlying24 hi, cells_u8, run_eqItems_bys w plain_u8 Tryz.underlying5 9998 A B _ (fun i hi => ⟨by rw [hA.1]; exact List.mem_range.1 hi, by rw [hB.1]; exact List.mem_range.1 hi⟩)]
  have := all_eq A B (by rw [hA.1, hB.1])
  rw [hA.1] at this
  rw [this]
end Go.Proofs.YthnbnckmeffkmaaGreat
/- merkle.Check. -/
namespace Go.Proofs.YthnbnckmeffkmaaGreat
open Go.RowKit Go.Lib
set_option linter.unusedVariables false
set_option linter.unusedSimpArgs false
attribute [local go_sem ↓] Go.wp_at_zero Go.wp_at_succ

/-- Whether a path checks. -/
def pathOk (T I : List Nat) (n c : Int) (Hs : List (List Nat)) : Prop :=
  ∃ n' c' : Nat, n = (n' : Int) ∧ c = (c' : Int) ∧ n' < c' ∧ c' ≤ 1048576 ∧ Hs.length = sizeUp n' c' ∧ topF c' (upF I n' c' Hs) = T
end Go.Proofs.YthnbnckmeffkmaaGreat
/- Specifications that are not there: there, find, All, Coins, Status, Order, Behind, Sequence, Tips. -/
namespace Go.Proofs.YthnbnckmeffkmaaGreat
open Go.RowKit Go.Lib
set_option linter.unusedVariables false
set_option linter.unusedSimpArgs false
attribute [local go_sem ↓] Go.wp_at_zero Go.wp_at_succ

theorem two_laid (w : World) (L1 L2 : List Value) (t1 t2 : TypeId) (W : World) (hW : W = (w.alloc (.cells L1.toArray t1)).alloc (.cells L2.toArray t2)) :
    Arr W w.heap.size t1 L1 ∧ Arr W (w.heap.size + 1) t2 L2 ∧ Below w.heap.size w W := by
  subst hW
  have h1 := Arr.made w t1 L1
  have h2 := Arr.made (w.alloc (.cells L1.toArray t1)) t2 L2
  have e1 : (w.alloc (.cells L1.toArray t1)).heap.size = w.heap.size + 1 := by show (w.heap.push _).size = _; simp
  have b1 : Below w.heap.size w (w.alloc (.cells L1.toArray t1)) := (Below.refl _ _).alloc (Nat.le_refl _) _
  have b2 := (Below.refl (w.alloc (.cells L1.toArray t1)).heap.size (w.alloc (.cells L1.toArray t1))).alloc (Nat.le_refl _) (.cells L2.toArray t2)
  refine ⟨h1.below b2 (by rw [e1]; omega), by rw [e1] at h2; exact h2, b1.trans (b2.mono b1.size)⟩
theorem arr_other {w : World} {g g' : Nat} {t : TypeId} {vs : List Value} (h : Arr w g t vs) (hne : g ≠ g') (j : Nat) (v : Value) : Arr (w.setCell ⟨g', j, none⟩ v) g t vs := by
  unfold Arr at *
  rw [heap_setCell_other w ⟨g', j, none⟩ g v hne]
  exact h
/-- A specification that is not there: nil, or a zero one. -/
def NoW (w : World) (v : Value) : Prop := v = .pointer none ∨ ∃ b, v = .pointer (some ⟨b, 0, none⟩) ∧ w.cell? ⟨b, 41, none⟩ = some (.map none)
theorem NoW.below {w w' : World} {v : Value} (h : NoW w v) (hb : Below w.heap.size w w') : NoW w' v := by
  rcases h with h | ⟨b, h1, h2⟩
  · exact .inl h
  · exact .inr ⟨b, h1, (hb.cell (World.block_lt_of_cell? _ _ h2)).trans h2⟩
theorem size_h2 (L : List Nat) (hL : IsH L) : (Tryz.prog.info? 24).map (·.size) = some (bys L).length := by rw [bys_len, hL.1]; kernel_rfl
theorem nilmap_nil : ∀ w, (binOp .neq 92 (.map none) (.map none)).run Tryz.prog w = .ok (.bool false) w := fun w => by kernel_rfl
set_option maxRecDepth 100000 in
theorem there_no (v : Value) (w : World) (h : NoW w v) : Calls Tryz.prog 49 #[v] w fun e w' => e = .returned (.bool false) ∧ Below w.heap.size w w' := by
  rcases h with rfl | ⟨b, rfl, hc⟩
  · go_enter Tryz.func49, Tryz.ntmps49
    go_wp2
    go_ret
    exact ⟨rfl, Below.refl _ _⟩
  · have hn := nilmap_nil
    go_enter Tryz.func49, Tryz.ntmps49
    go_wp2
    go_ret
    exact ⟨rfl, Below.refl _ _⟩
set_option maxRecDepth 100000 in
theorem find_no (v : Value) (L : List Nat) (hL : IsH L) (b : Bool) (w : World) (h : NoW w v) :
    Calls Tryz.prog 61 #[v, .agg (bys L).toArray, .bool b] w fun e w' => e = .returned (.tuple #[.pointer none, .int .i64 1]) ∧ Below w.heap.size w w' := by
  have HN := Lib.hid h
  clear h
  go_enter Tryz.func61, Tryz.ntmps61
  go_upto_region 1 with fail
  have hb := (Below.refl w.heap.size w).alloc (Nat.le_refl _) (.cells (bys L).toArray 24)
  have HB := Lib.hid hb
  have HN1 := Lib.hid (HN.out.below hb)
  clear hb
  generalize World.alloc _ _ = w1 at *
  have HC := Lib.hid (there_no v w1 HN1.out)
  go_wp2_with fail
  with_reducible refine HC.out.mono ?_
  rintro e w2 ⟨rfl, hb2⟩
  dsimp only
  have HB2 := Lib.hid (HB.out.trans (hb2.mono HB.out.size))
  clear hb2 HC
  go_wp2
  go_ret2
  exact ⟨rfl, HB2.out⟩
end Go.Proofs.YthnbnckmeffkmaaGreat
/- Specifications that are not there: their methods. -/
namespace Go.Proofs.YthnbnckmeffkmaaGreat
open Go.RowKit Go.Lib
set_option linter.unusedVariables false
set_option linter.unusedSimpArgs false
attribute [local go_sem ↓] Go.wp_at_zero Go.wp_at_succ

set_option maxRecDepth 100000 in
theorem all_no (v : Value) (w : World) (h : NoW w v) : Calls Tryz.prog 14 #[v] w fun e w' => e = .returned (.slice none 0 0) ∧ Below w.heap.size w w' := by
  have HC := Lib.hid (there_no v w h)
  go_enter Tryz.func14, Tryz.ntmps14
  go_wp2_with fail
  with_reducible refine HC.out.mono ?_
  rintro e w2 ⟨rfl, hb2⟩
  dsimp only
  have HB2 := Lib.hid hb2
  clear hb2 HC
  go_wp2
  go_ret
  exact ⟨rfl, HB2.out⟩
set_option maxRecDepth 100000 in
theorem coins_no (v : Value) (w : World) (h : NoW w v) : Calls Tryz.prog 33 #[v] w fun e w' => e = .returned (.pointer none) ∧ Below w.heap.size w w' := by
  have HC := Lib.hid (there_no v w h)
  go_enter Tryz.func33, Tryz.ntmps33
  go_wp2_with fail
  with_reducible refine HC.out.mono ?_
  rintro e w2 ⟨rfl, hb2⟩
  dsimp only
  have HB2 := Lib.hid hb2
  clear hb2 HC
  go_wp2
  go_ret
  exact ⟨rfl, HB2.out⟩
set_option maxRecDepth 100000 in
theorem seq_no (v : Value) (w : World) (h : NoW w v) : Calls Tryz.prog 34 #[v] w fun e w' => e = .returned (.slice none 0 0) ∧ Below w.heap.size w w' := by
  have HC := Lib.hid (there_no v w h)
  go_enter Tryz.func34, Tryz.ntmps34
  go_wp2_with fail
  with_reducible refine HC.out.mono ?_
  rintro e w2 ⟨rfl, hb2⟩
  dsimp only
  have HB2 := Lib.hid hb2
  clear hb2 HC
  go_wp2
  go_ret
  exact ⟨rfl, HB2.out⟩
set_option maxRecDepth 100000 in
theorem status_no (v : Value) (L : List Nat) (hL : IsH L) (w : World) (h : NoW w v) : Calls Tryz.prog 22 #[v, .agg (bys L).toArray] w fun e w' => e = .returned (.int .i64 0) ∧ Below w.heap.size w w' := by
  have HN := Lib.hid h
  have HSz := Lib.hid (size_h2 L hL)
  clear h
  go_enter Tryz.func22, Tryz.ntmps22
  go_upto_region 1 with fail
  have hm := Arr.made w 24 (bys L)
  have hb := (Below.refl w.heap.size w).alloc (Nat.le_refl _) (.cells (bys L).toArray 24)
  have HM := Lib.hid hm
  have HB := Lib.hid hb
  have HN1 := Lib.hid (HN.out.below hb)
  clear hb hm HN
  generalize World.alloc _ _ = w1 at *
  have HZ := Lib.hid HB.out.size
  obtain ⟨g, hg⟩ : ∃ g, w.heap.size = g := ⟨_, rfl⟩
  have HG := Lib.hid hg
  rw [hg] at HM HB HZ ⊢
  clear hg
  go_step
  iterate 3 (first | go_values | go_skip | go_guarded | go_step | go_upon)
  refine wpList_load_mid (P := Tryz.prog) rfl 24 _ rfl g 0 rfl _ _ HM.out.range Tryz.underlying24 rfl HSz.out ?_
  have HC := Lib.hid (find_no v L hL false w1 HN1.out)
  go_wp2_with fail
  with_reducible refine HC.out.mono ?_
  rintro e w2 ⟨rfl, hb2⟩
  dsimp only
  have HB2 := Lib.hid (HB.out.trans (hb2.mono HZ.out))
  clear hb2 HC
  go_wp2
  go_ret
  exact ⟨rfl, by rw [HG.out]; exact HB2.out⟩
set_option maxRecDepth 100000 in
theorem order_no (v : Value) (L : List Nat) (hL : IsH L) (w : World) (h : NoW w v) : Calls Tryz.prog 19 #[v, .agg (bys L).toArray] w fun e w' => e = .returned (.tuple #[.slice none 0 0, .int .i64 1]) ∧ Below w.heap.size w w' := by
  have HN := Lib.hid h
  have HSz := Lib.hid (size_h2 L hL)
  clear h
  go_enter Tryz.func19, Tryz.ntmps19
  go_upto_region 1 with fail
  have hm := Arr.made w 24 (bys L)
  have hb := (Below.refl w.heap.size w).alloc (Nat.le_refl _) (.cells (bys L).toArray 24)
  have HM := Lib.hid hm
  have HB := Lib.hid hb
  have HN1 := Lib.hid (HN.out.below hb)
  clear hb hm HN
  generalize World.alloc _ _ = w1 at *
  have HZ := Lib.hid HB.out.size
  obtain ⟨g, hg⟩ : ∃ g, w.heap.size = g := ⟨_, rfl⟩
  have HG := Lib.hid hg
  rw [hg] at HM HB HZ ⊢
  clear hg
  go_step
  iterate 3 (first | go_values | go_skip | go_guarded | go_step | go_upon)
  refine wpList_load_mid (P := Tryz.prog) rfl 24 _ rfl g 0 rfl _ _ HM.out.range Tryz.underlying24 rfl HSz.out ?_
  have HC := Lib.hid (find_no v L hL false w1 HN1.out)
  go_wp2_with fail
  with_reducible refine HC.out.mono ?_
  rintro e w2 ⟨rfl, hb2⟩
  dsimp only
  have HB2 := Lib.hid (HB.out.trans (hb2.mono HZ.out))
  clear hb2 HC
  go_wp2
  go_ret2
  exact ⟨rfl, by rw [HG.out]; exact HB2.out⟩
set_option maxRecDepth 100000 in
theorem behind_no (v : Value) (L : List Nat) (hL : IsH L) (w : World) (h : NoW w v) : Calls Tryz.prog 25 #[v, .agg (bys L).toArray] w fun e w' => e = .returned (.tuple #[.pointer none, .int .i64 1]) ∧ Below w.heap.size w w' := by
  have HN := Lib.hid h
  have HSz := Lib.hid (size_h2 L hL)
  clear h
  go_enter Tryz.func25, Tryz.ntmps25
  go_upto_region 1 with fail
  have hm := Arr.made w 24 (bys L)
  have hb := (Below.refl w.heap.size w).alloc (Nat.le_refl _) (.cells (bys L).toArray 24)
  have HM := Lib.hid hm
  have HB := Lib.hid hb
  have HN1 := Lib.hid (HN.out.below hb)
  clear hb hm HN
  generalize World.alloc _ _ = w1 at *
  have HZ := Lib.hid HB.out.size
  obtain ⟨g, hg⟩ : ∃ g, w.heap.size = g := ⟨_, rfl⟩
  have HG := Lib.hid hg
  rw [hg] at HM HB HZ ⊢
  clear hg
  go_step
  iterate 3 (first | go_values | go_skip | go_guarded | go_step | go_upon)
  refine wpList_load_mid (P := Tryz.prog) rfl 24 _ rfl g 0 rfl _ _ HM.out.range Tryz.underlying24 rfl HSz.out ?_
  have HC := Lib.hid (find_no v L hL true w1 HN1.out)
  go_wp2_with fail
  with_reducible refine HC.out.mono ?_
  rintro e w2 ⟨rfl, hb2⟩
  dsimp only
  have HB2 := Lib.hid (HB.out.trans (hb2.mono HZ.out))
  clear hb2 HC
  go_wp2
  go_ret2
  exact ⟨rfl, by rw [HG.out]; exact HB2.out⟩
set_option maxRecDepth 100000 in
set_option maxHeartbeats 1600000 in
theorem colour_no (v : Value) (L : List Nat) (hL : IsH L) (w : World) (h : NoW w v) : Calls Tryz.prog 18 #[v, .agg (bys L).toArray] w fun e w' => e = .returned (.tuple #[.agg #[.int .u8 0, .int .u8 0, .int .u8 0, .int .u8 0, .int .u8 0, .int .u8 0, .int .u8 0, .int .u8 0, .int .u8 0, .int .u8 0, .int .u8 0, .int .u8 0, .int .u8 0, .int .u8 0, .int .u8 0, .int .u8 0, .int .u8 0, .int .u8 0, .int .u8 0, .int .u8 0, .int .u8 0, .int .u8 0, .int .u8 0, .int .u8 0, .int .u8 0, .int .u8 0, .int .u8 0, .int .u8 0, .int .u8 0, .int .u8 0, .int .u8 0, .int .u8 0, .int .u64 0, .slice none 0 0, .slice none 0 0], .int .i64 1]) ∧ Below w.heap.size w w' := by
  have HN := Lib.hid h
  have HSz := Lib.hid (size_h2 L hL)
  clear h
  go_enter Tryz.func18, Tryz.ntmps18
  go_upto_region 1 with fail
  have hpk := two_laid w (bys L) [.int .u8 0, .int .u8 0, .int .u8 0, .int .u8 0, .int .u8 0, .int .u8 0, .int .u8 0, .int .u8 0, .int .u8 0, .int .u8 0, .int .u8 0, .int .u8 0, .int .u8 0, .int .u8 0, .int .u8 0, .int .u8 0, .int .u8 0, .int .u8 0, .int .u8 0, .int .u8 0, .int .u8 0, .int .u8 0, .int .u8 0, .int .u8 0, .int .u8 0, .int .u8 0, .int .u8 0, .int .u8 0, .int .u8 0, .int .u8 0, .int .u8 0, .int .u8 0, .int .u64 0, .slice none 0 0, .slice none 0 0] 24 46 _ rfl
  have HM := Lib.hid hpk.1
  have HR := Lib.hid hpk.2.1
  have HB := Lib.hid hpk.2.2
  have HN1 := Lib.hid (HN.out.below hpk.2.2)
  clear hpk HN
  generalize World.alloc (World.alloc _ _) _ = w1 at *
  have HZ := Lib.hid HB.out.size
  obtain ⟨g, hg⟩ : ∃ g, w.heap.size = g := ⟨_, rfl⟩
  have HG := Lib.hid hg
  rw [hg] at HM HR HB HZ ⊢
  clear hg
  go_step
  iterate 3 (first | go_values | go_skip | go_guarded | go_step | go_upon)
  refine wpList_load_mid (P := Tryz.prog) rfl 24 _ rfl g 0 rfl _ _ HM.out.range Tryz.underlying24 rfl HSz.out ?_
  have HC := Lib.hid (find_no v L hL false w1 HN1.out)
  go_wp2_with fail
  with_reducible refine HC.out.mono ?_
  rintro e w2 ⟨rfl, hb2⟩
  dsimp only
  have HB2 := Lib.hid (HB.out.trans (hb2.mono HZ.out))
  have HR2 := Lib.hid (HR.out.below hb2 HR.out.lt)
  have hb2z := Lib.hid hb2.size
  clear hb2 HC HM HR
  have hbu : ∀ w9, (Instr.build 46 #[]).run Tryz.prog w9 = .ok (.agg #[.int .u8 0, .int .u8 0, .int .u8 0, .int .u8 0, .int .u8 0, .int .u8 0, .int .u8 0, .int .u8 0, .int .u8 0, .int .u8 0, .int .u8 0, .int .u8 0, .int .u8 0, .int .u8 0, .int .u8 0, .int .u8 0, .int .u8 0, .int .u8 0, .int .u8 0, .int .u8 0, .int .u8 0, .int .u8 0, .int .u8 0, .int .u8 0, .int .u8 0, .int .u8 0, .int .u8 0, .int .u8 0, .int .u8 0, .int .u8 0, .int .u8 0, .int .u8 0, .int .u64 0, .slice none 0 0, .slice none 0 0]) w9 := fun w9 => by kernel_rfl
  go_upto_region 3 with fail
  go_step
  iterate 6 (first | go_values | go_skip | go_guarded | go_step | go_upon)
  refine wpList_store_mid (P := Tryz.prog) rfl 46 _ _ rfl (g + 1) 0 #[.int .u8 0, .int .u8 0, .int .u8 0, .int .u8 0, .int .u8 0, .int .u8 0, .int .u8 0, .int .u8 0, .int .u8 0, .int .u8 0, .int .u8 0, .int .u8 0, .int .u8 0, .int .u8 0, .int .u8 0, .int .u8 0, .int .u8 0, .int .u8 0, .int .u8 0, .int .u8 0, .int .u8 0, .int .u8 0, .int .u8 0, .int .u8 0, .int .u8 0, .int .u8 0, .int .u8 0, .int .u8 0, .int .u8 0, .int .u8 0, .int .u8 0, .int .u8 0, .int .u64 0, .slice none 0 0, .slice none 0 0] rfl rfl (HR2.out.there _ rfl) (by kernel_rfl) (by kernel_rfl) ?_
  have HR3 := Lib.hid (HR2.out.setAll [.int .u8 0, .int .u8 0, .int .u8 0, .int .u8 0, .int .u8 0, .int .u8 0, .int .u8 0, .int .u8 0, .int .u8 0, .int .u8 0, .int .u8 0, .int .u8 0, .int .u8 0, .int .u8 0, .int .u8 0, .int .u8 0, .int .u8 0, .int .u8 0, .int .u8 0, .int .u8 0, .int .u8 0, .int .u8 0, .int .u8 0, .int .u8 0, .int .u8 0, .int .u8 0, .int .u8 0, .int .u8 0, .int .u8 0, .int .u8 0, .int .u8 0, .int .u8 0, .int .u64 0, .slice none 0 0, .slice none 0 0] rfl)
  have HB3 := Lib.hid (below_sets (g + 1) (show g ≤ g + 1 by omega) [.int .u8 0, .int .u8 0, .int .u8 0, .int .u8 0, .int .u8 0, .int .u8 0, .int .u8 0, .int .u8 0, .int .u8 0, .int .u8 0, .int .u8 0, .int .u8 0, .int .u8 0, .int .u8 0, .int .u8 0, .int .u8 0, .int .u8 0, .int .u8 0, .int .u8 0, .int .u8 0, .int .u8 0, .int .u8 0, .int .u8 0, .int .u8 0, .int .u8 0, .int .u8 0, .int .u8 0, .int .u8 0, .int .u8 0, .int .u8 0, .int .u8 0, .int .u8 0, .int .u64 0, .slice none 0 0, .slice none 0 0] 0 HB2.out)
  generalize World.setCells _ _ _ _ = w3 at *
  clear HR2 HB2 hbu
  go_wp2
  refine bodyPost_ret (results_cell_row_tmp (P := Tryz.prog) rfl _ _ (g + 1) 46 _ (0, 0) _ rfl HR3.out Tryz.underlying46 rfl (by kernel_rfl)) rfl ?_
  exact ⟨rfl, by rw [HG.out]; exact HB3.out⟩
set_option maxRecDepth 100000 in
set_option maxHeartbeats 1600000 in
theorem at_no (v : Value) (L : List Nat) (hL : IsH L) (w : World) (h : NoW w v) : Calls Tryz.prog 24 #[v, .agg (bys L).toArray] w fun e w' => e = .returned (.tuple #[.agg #[.slice none 0 0, .slice none 0 0, .slice none 0 0, .slice none 0 0, .slice none 0 0, .int .i64 0], .int .i64 1]) ∧ Below w.heap.size w w' := by
  have HN := Lib.hid h
  have HSz := Lib.hid (size_h2 L hL)
  clear h
  go_enter Tryz.func24, Tryz.ntmps24
  go_upto_region 1 with fail
  have hpk := two_laid w (bys L) [.slice none 0 0, .slice none 0 0, .slice none 0 0, .slice none 0 0, .slice none 0 0, .int .i64 0] 24 62 _ rfl
  have HM := Lib.hid hpk.1
  have HR := Lib.hid hpk.2.1
  have HB := Lib.hid hpk.2.2
  have HN1 := Lib.hid (HN.out.below hpk.2.2)
  clear hpk HN
  generalize World.alloc (World.alloc _ _) _ = w1 at *
  have HZ := Lib.hid HB.out.size
  obtain ⟨g, hg⟩ : ∃ g, w.heap.size = g := ⟨_, rfl⟩
  have HG := Lib.hid hg
  rw [hg] at HM HR HB HZ ⊢
  clear hg
  go_step
  iterate 3 (first | go_values | go_skip | go_guarded | go_step | go_upon)
  refine wpList_load_mid (P := Tryz.prog) rfl 24 _ rfl g 0 rfl _ _ HM.out.range Tryz.underlying24 rfl HSz.out ?_
  have HC := Lib.hid (find_no v L hL true w1 HN1.out)
  go_wp2_with fail
  with_reducible refine HC.out.mono ?_
  rintro e w2 ⟨rfl, hb2⟩
  dsimp only
  have HB2 := Lib.hid (HB.out.trans (hb2.mono HZ.out))
  have HR2 := Lib.hid (HR.out.below hb2 HR.out.lt)
  have hb2z := Lib.hid hb2.size
  clear hb2 HC HM HR
  have hbu : ∀ w9, (Instr.build 62 #[]).run Tryz.prog w9 = .ok (.agg #[.slice none 0 0, .slice none 0 0, .slice none 0 0, .slice none 0 0, .slice none 0 0, .int .i64 0]) w9 := fun w9 => by kernel_rfl
  go_upto_region 2 with fail
  go_quiet (fail)
  have hq := below_drewN (Below.refl w2.heap.size w2) nq
  have HB2n := Lib.hid (HB2.out.trans (hq.mono (Nat.le_trans HZ.out (by
    have := HR2.out.lt
    have := hb2z.out
    exact this))))
  have HR2n := Lib.hid (HR2.out.below hq HR2.out.lt)
  clear hq HB2 HR2
  have HB2 := HB2n
  have HR2 := HR2n
  clear HB2n HR2n
  generalize World.drewN _ _ = w2 at *
  go_upto_region 5 with fail
  go_step
  iterate 6 (first | go_values | go_skip | go_guarded | go_step | go_upon)
  refine wpList_store_mid (P := Tryz.prog) rfl 62 _ _ rfl (g + 1) 0 #[.slice none 0 0, .slice none 0 0, .slice none 0 0, .slice none 0 0, .slice none 0 0, .int .i64 0] rfl rfl (HR2.out.there _ rfl) (by kernel_rfl) (by kernel_rfl) ?_
  have HR3 := Lib.hid (HR2.out.setAll [.slice none 0 0, .slice none 0 0, .slice none 0 0, .slice none 0 0, .slice none 0 0, .int .i64 0] rfl)
  have HB3 := Lib.hid (below_sets (g + 1) (show g ≤ g + 1 by omega) [.slice none 0 0, .slice none 0 0, .slice none 0 0, .slice none 0 0, .slice none 0 0, .int .i64 0] 0 HB2.out)
  generalize World.setCells _ _ _ _ = w3 at *
  clear HR2 HB2 hbu
  go_wp2
  refine bodyPost_ret (results_cell_row_tmp (P := Tryz.prog) rfl _ _ (g + 1) 62 _ (0, 0) _ rfl HR3.out Tryz.underlying62 rfl (by kernel_rfl)) rfl ?_
  exact ⟨rfl, by rw [HG.out]; exact HB3.out⟩
set_option maxRecDepth 100000 in
set_option maxHeartbeats 1600000 in
theorem virt_no (v : Value) (w : World) (h : NoW w v) : Calls Tryz.prog 32 #[v] w fun e w' => e = .returned (.agg #[.int .u8 0, .int .u8 0, .int .u8 0, .int .u8 0, .int .u8 0, .int .u8 0, .int .u8 0, .int .u8 0, .int .u8 0, .int .u8 0, .int .u8 0, .int .u8 0, .int .u8 0, .int .u8 0, .int .u8 0, .int .u8 0, .int .u8 0, .int .u8 0, .int .u8 0, .int .u8 0, .int .u8 0, .int .u8 0, .int .u8 0, .int .u8 0, .int .u8 0, .int .u8 0, .int .u8 0, .int .u8 0, .int .u8 0, .int .u8 0, .int .u8 0, .int .u8 0, .slice none 0 0, .int .u64 0, .slice none 0 0, .slice none 0 0, .slice none 0 0, .slice none 0 0, .slice none 0 0, .slice none 0 0, .slice none 0 0, .int .i64 0]) ∧ Below w.heap.size w w' := by
  have HN := Lib.hid h
  clear h
  go_enter Tryz.func32, Tryz.ntmps32
  go_upto_region 1 with fail
  have hm := Arr.made w 82 [.int .u8 0, .int .u8 0, .int .u8 0, .int .u8 0, .int .u8 0, .int .u8 0, .int .u8 0, .int .u8 0, .int .u8 0, .int .u8 0, .int .u8 0, .int .u8 0, .int .u8 0, .int .u8 0, .int .u8 0, .int .u8 0, .int .u8 0, .int .u8 0, .int .u8 0, .int .u8 0, .int .u8 0, .int .u8 0, .int .u8 0, .int .u8 0, .int .u8 0, .int .u8 0, .int .u8 0, .int .u8 0, .int .u8 0, .int .u8 0, .int .u8 0, .int .u8 0, .slice none 0 0, .int .u64 0, .slice none 0 0, .slice none 0 0, .slice none 0 0, .slice none 0 0, .slice none 0 0, .slice none 0 0, .slice none 0 0, .int .i64 0]
  have hb := (Below.refl w.heap.size w).alloc (Nat.le_refl _) (.cells [.int .u8 0, .int .u8 0, .int .u8 0, .int .u8 0, .int .u8 0, .int .u8 0, .int .u8 0, .int .u8 0, .int .u8 0, .int .u8 0, .int .u8 0, .int .u8 0, .int .u8 0, .int .u8 0, .int .u8 0, .int .u8 0, .int .u8 0, .int .u8 0, .int .u8 0, .int .u8 0, .int .u8 0, .int .u8 0, .int .u8 0, .int .u8 0, .int .u8 0, .int .u8 0, .int .u8 0, .int .u8 0, .int .u8 0, .int .u8 0, .int .u8 0, .int .u8 0, .slice none 0 0, .int .u64 0, .slice none 0 0, .slice none 0 0, .slice none 0 0, .slice none 0 0, .slice none 0 0, .slice none 0 0, .slice none 0 0, .int .i64 0].toArray 82)
  have HR := Lib.hid hm
  have HB := Lib.hid hb
  have HN1 := Lib.hid (HN.out.below hb)
  clear hm hb HN
  generalize World.alloc _ _ = w1 at *
  have HZ := Lib.hid HB.out.size
  obtain ⟨g, hg⟩ : ∃ g, w.heap.size = g := ⟨_, rfl⟩
  have HG := Lib.hid hg
  rw [hg] at HR HB HZ ⊢
  clear hg
  have HC := Lib.hid (there_no v w1 HN1.out)
  go_wp2_with fail
  with_reducible refine HC.out.mono ?_
  rintro e w2 ⟨rfl, hb2⟩
  dsimp only
  have HB2 := Lib.hid (HB.out.trans (hb2.mono HZ.out))
  have HR2 := Lib.hid (HR.out.below hb2 HR.out.lt)
  clear hb2 HC HR
  have hbu : ∀ w9, (Instr.build 82 #[]).run Tryz.prog w9 = .ok (.agg #[.int .u8 0, .int .u8 0, .int .u8 0, .int .u8 0, .int .u8 0, .int .u8 0, .int .u8 0, .int .u8 0, .int .u8 0, .int .u8 0, .int .u8 0, .int .u8 0, .int .u8 0, .int .u8 0, .int .u8 0, .int .u8 0, .int .u8 0, .int .u8 0, .int .u8 0, .int .u8 0, .int .u8 0, .int .u8 0, .int .u8 0, .int .u8 0, .int .u8 0, .int .u8 0, .int .u8 0, .int .u8 0, .int .u8 0, .int .u8 0, .int .u8 0, .int .u8 0, .slice none 0 0, .int .u64 0, .slice none 0 0, .slice none 0 0, .slice none 0 0, .slice none 0 0, .slice none 0 0, .slice none 0 0, .slice none 0 0, .int .i64 0]) w9 := fun w9 => by kernel_rfl
  go_upto_region 2 with fail
  go_step
  iterate 3 (first | go_values | go_skip | go_guarded | go_step | go_upon)
  refine wpList_store_mid (P := Tryz.prog) rfl 82 _ _ rfl g 0 #[.int .u8 0, .int .u8 0, .int .u8 0, .int .u8 0, .int .u8 0, .int .u8 0, .int .u8 0, .int .u8 0, .int .u8 0, .int .u8 0, .int .u8 0, .int .u8 0, .int .u8 0, .int .u8 0, .int .u8 0, .int .u8 0, .int .u8 0, .int .u8 0, .int .u8 0, .int .u8 0, .int .u8 0, .int .u8 0, .int .u8 0, .int .u8 0, .int .u8 0, .int .u8 0, .int .u8 0, .int .u8 0, .int .u8 0, .int .u8 0, .int .u8 0, .int .u8 0, .slice none 0 0, .int .u64 0, .slice none 0 0, .slice none 0 0, .slice none 0 0, .slice none 0 0, .slice none 0 0, .slice none 0 0, .slice none 0 0, .int .i64 0] rfl rfl (HR2.out.there _ rfl) (by kernel_rfl) (by kernel_rfl) ?_
  have HR3 := Lib.hid (HR2.out.setAll [.int .u8 0, .int .u8 0, .int .u8 0, .int .u8 0, .int .u8 0, .int .u8 0, .int .u8 0, .int .u8 0, .int .u8 0, .int .u8 0, .int .u8 0, .int .u8 0, .int .u8 0, .int .u8 0, .int .u8 0, .int .u8 0, .int .u8 0, .int .u8 0, .int .u8 0, .int .u8 0, .int .u8 0, .int .u8 0, .int .u8 0, .int .u8 0, .int .u8 0, .int .u8 0, .int .u8 0, .int .u8 0, .int .u8 0, .int .u8 0, .int .u8 0, .int .u8 0, .slice none 0 0, .int .u64 0, .slice none 0 0, .slice none 0 0, .slice none 0 0, .slice none 0 0, .slice none 0 0, .slice none 0 0, .slice none 0 0, .int .i64 0] rfl)
  have HB3 := Lib.hid (below_sets g (Nat.le_refl g) [.int .u8 0, .int .u8 0, .int .u8 0, .int .u8 0, .int .u8 0, .int .u8 0, .int .u8 0, .int .u8 0, .int .u8 0, .int .u8 0, .int .u8 0, .int .u8 0, .int .u8 0, .int .u8 0, .int .u8 0, .int .u8 0, .int .u8 0, .int .u8 0, .int .u8 0, .int .u8 0, .int .u8 0, .int .u8 0, .int .u8 0, .int .u8 0, .int .u8 0, .int .u8 0, .int .u8 0, .int .u8 0, .int .u8 0, .int .u8 0, .int .u8 0, .int .u8 0, .slice none 0 0, .int .u64 0, .slice none 0 0, .slice none 0 0, .slice none 0 0, .slice none 0 0, .slice none 0 0, .slice none 0 0, .slice none 0 0, .int .i64 0] 0 HB2.out)
  generalize World.setCells _ _ _ _ = w3 at *
  clear HR2 HB2 hbu
  go_wp2
  refine bodyPost_ret (results_cell_row rfl _ _ g 82 _ (0, 0) _ rfl HR3.out Tryz.underlying82 rfl (by kernel_rfl)) rfl ?_
  exact ⟨rfl, by rw [HG.out]; exact HB3.out⟩
set_option maxRecDepth 100000 in
set_option maxHeartbeats 1600000 in
theorem supply_no (v : Value) (w : World) (h : NoW w v) : Calls Tryz.prog 30 #[v] w fun e w' => e = .returned (.tuple #[.int .u64 0, .int .u64 0, .int .u64 0]) ∧ Below w.heap.size w w' := by
  have HN := Lib.hid h
  clear h
  go_enter Tryz.func30, Tryz.ntmps30
  go_upto_region 1 with fail
  have hpk := three_laid w [.int .u64 0] [.int .u64 0] [.int .u64 0] 22 22 22 _ rfl
  have HL := Lib.hid hpk
  have HN1 := Lib.hid (HN.out.below hpk.2.2.2)
  clear hpk HN
  generalize World.alloc (World.alloc (World.alloc _ _) _) _ = w1 at *
  have HZ := Lib.hid HL.out.2.2.2.size
  obtain ⟨g, hg⟩ : ∃ g, w.heap.size = g := ⟨_, rfl⟩
  have HG := Lib.hid hg
  rw [hg] at HL HZ ⊢
  clear hg
  have HC := Lib.hid (there_no v w1 HN1.out)
  go_wp2_with fail
  with_reducible refine HC.out.mono ?_
  rintro e w2 ⟨rfl, hb2⟩
  dsimp only
  have HB2 := Lib.hid (HL.out.2.2.2.trans (hb2.mono HZ.out))
  have H1 := Lib.hid (HL.out.1.below hb2 HL.out.1.lt)
  have H2 := Lib.hid (HL.out.2.1.below hb2 HL.out.2.1.lt)
  have H3 := Lib.hid (HL.out.2.2.1.below hb2 HL.out.2.2.1.lt)
  clear hb2 HC HL
  have hc1 := H1.out.cell 0
  have hc2 := H2.out.cell 0
  have hc3 := H3.out.cell 0
  have hf1 := H1.out.frozen 0
  have hf2 := H2.out.frozen 0
  have hf3 := H3.out.frozen 0
  dsimp only [List.getElem?_cons_zero] at hc1 hc2 hc3
  go_wp2
  have h1 := arr_other (arr_other (H1.out.set 0 (.int .u64 0)) (show g ≠ g + 1 by omega) 0 (.int .u64 0)) (show g ≠ g + 1 + 1 by omega) 0 (.int .u64 0)
  have h2 := arr_other ((arr_other H2.out (show g + 1 ≠ g by omega) 0 (.int .u64 0)).set 0 (.int .u64 0)) (show g + 1 ≠ g + 1 + 1 by omega) 0 (.int .u64 0)
  have h3 := (arr_other (arr_other H3.out (show g + 1 + 1 ≠ g by omega) 0 (.int .u64 0)) (show g + 1 + 1 ≠ g + 1 by omega) 0 (.int .u64 0)).set 0 (.int .u64 0)
  have e1 := h1.cell 0
  have e2 := h2.cell 0
  have e3 := h3.cell 0
  dsimp only [List.set_cons_zero, List.getElem?_cons_zero] at e1 e2 e3
  refine bodyPost_ret (v := .tuple #[.int .u64 0, .int .u64 0, .int .u64 0]) ?_ rfl ?_
  · simp [results, Tryz.f30, go_sem, e1, e2, e3]
  · exact ⟨rfl, by rw [HG.out]; exact ((HB2.out.setCell (p := ⟨g, 0, none⟩) (Nat.le_refl g) _).setCell (p := ⟨g + 1, 0, none⟩) (show g ≤ g + 1 by omega) _).setCell (p := ⟨g + 1 + 1, 0, none⟩) (show g ≤ g + 1 + 1 by omega) _⟩
set_option maxRecDepth 100000 in
theorem clone_nil (w : World) : Calls Tryz.prog 55 #[.slice none 0 0] w fun e w' => e = .returned (.slice none 0 0) ∧ Below w.heap.size w w' := by
  have hn : ∀ w9, (binOp .eql 39 (.slice none 0 0) (.slice none 0 0)).run Tryz.prog w9 = .ok (.bool true) w9 := fun w9 => by kernel_rfl
  go_enter Tryz.func55, Tryz.ntmps55
  go_wp2
  go_ret
  exact ⟨rfl, Below.refl _ _⟩
set_option maxRecDepth 100000 in
theorem indexf_nil (f : Value) (w : World) : Calls Tryz.prog 108 #[.slice none 0 0, f] w fun e w' => e = .returned (.int .i64 (-1)) ∧ Below w.heap.size w w' := by
  go_enter Tryz.func108, Tryz.ntmps108
  go_wp2
  refine wp_loop_rounds 1 ?_
  rw [rounds_succ]
  go_wp2
  go_ret
  exact ⟨rfl, Below.refl _ _⟩
set_option maxRecDepth 100000 in
theorem delf_nil (f : Value) (w : World) : Calls Tryz.prog 54 #[.slice none 0 0, f] w fun e w' => e = .returned (.slice none 0 0) ∧ Below w.heap.size w w' := by
  have HC := Lib.hid (indexf_nil f w)
  go_enter Tryz.func54, Tryz.ntmps54
  go_wp2_with fail
  with_reducible refine HC.out.mono ?_
  rintro e w2 ⟨rfl, hb2⟩
  dsimp only
  have HB2 := Lib.hid hb2
  clear hb2 HC
  go_wp2
  go_ret
  exact ⟨rfl, HB2.out⟩
set_option maxRecDepth 100000 in
set_option maxHeartbeats 1600000 in
theorem tips_no (v : Value) (w : World) (h : NoW w v) : Calls Tryz.prog 16 #[v] w fun e w' => e = .returned (.slice none 0 0) ∧ Below w.heap.size w w' := by
  obtain ⟨pa, rfl⟩ : ∃ pa, v = .pointer pa := by
    rcases h with h | ⟨b, h, _⟩
    · exact ⟨_, h⟩
    · exact ⟨_, h⟩
  have HN := Lib.hid h
  clear h
  go_enter Tryz.func16, Tryz.ntmps16
  go_upto_region 1 with fail
  have hm := Arr.made w 30 [.pointer pa]
  have hb := (Below.refl w.heap.size w).alloc (Nat.le_refl _) (.cells [Value.pointer pa].toArray 30)
  have HM := Lib.hid hm
  have HB := Lib.hid hb
  have HN1 := Lib.hid (HN.out.below hb)
  clear hb hm HN
  generalize World.alloc _ _ = w1 at *
  have HZ := Lib.hid HB.out.size
  obtain ⟨g, hg⟩ : ∃ g, w.heap.size = g := ⟨_, rfl⟩
  have HG := Lib.hid hg
  rw [hg] at HM HB HZ ⊢
  clear hg
  have hc0 := HM.out.cell 0
  dsimp only [List.getElem?_cons_zero] at hc0
  have HC := Lib.hid (all_no (.pointer pa) w1 HN1.out)
  go_wp2_with fail
  with_reducible refine HC.out.mono ?_
  rintro e w2 ⟨rfl, hb2⟩
  dsimp only
  have HB2 := Lib.hid (HB.out.trans (hb2.mono HZ.out))
  clear hb2 HC hc0 HM
  have HZ2 := Lib.hid HB2.out.size
  go_upto_region 2 with fail
  have hc3 := Arr.made w2 39 [.slice none 0 0]
  have HB3 := Lib.hid (HB2.out.alloc (show g ≤ w2.heap.size by have := HZ2.out; rw [HG.out] at this; exact this) (.cells [Value.slice none 0 0].toArray 39))
  have hc0 := hc3.cell 0
  dsimp only [List.getElem?_cons_zero] at hc0
  clear hc3
  generalize World.alloc _ _ = w3 at *
  have HZ3 := Lib.hid (show g ≤ w3.heap.size by have := HB3.out.size; rw [HG.out] at this; exact this)
  have HC := Lib.hid (clone_nil w3)
  go_wp2_with fail
  with_reducible refine HC.out.mono ?_
  rintro e w4 ⟨rfl, hb4⟩
  dsimp only
  have HB4 := Lib.hid (HB3.out.trans (hb4.mono HZ3.out))
  have HZ4 := Lib.hid (show g ≤ w4.heap.size by have := HB4.out.size; rw [HG.out] at this; exact this)
  clear hb4 HC hc0
  have HC := Lib.hid (fun f => delf_nil f w4)
  go_wp2_with fail
  with_reducible refine (HC.out _).mono ?_
  rintro e w5 ⟨rfl, hb5⟩
  dsimp only
  have HB5 := Lib.hid (HB4.out.trans (hb5.mono HZ4.out))
  clear hb5 HC
  go_wp2
  go_ret
  exact ⟨rfl, by rw [HG.out]; exact HB5.out⟩
end Go.Proofs.YthnbnckmeffkmaaGreat
