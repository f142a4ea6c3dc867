/- Two hashes, compared. -/
import Derived.Test.YtndhmpeabfmfgaaGreatDoorG13
import Derived.ChangeKeysEq
namespace Go.Proofs.YtndhmpeabfmfgaaGreatDoor
open Go.RowKit Go.Lib
set_option linter.unusedVariables false
set_option linter.unusedSimpArgs false

theorem run_eqItems_bys {P : Program} {e : TypeId} (w : World) (he : P.plainKey e = true) (hu : P.underlying e = some (.int .u8)) (d : Nat) (A B : List Nat) : ∀ is : List Nat, (∀ i ∈ is, i < A.length ∧ i < B.length) →
    (Op.eqItems (d + 1) e 1 (bys A).toArray (bys B).toArray is).run P w = .ok (is.all fun i => A.getD i 0 == B.getD i 0) w
  | [], _ => by simp [Op.eqItems]
  | i :: is, h => by
    have h1 := h i (List.mem_cons_self ..)
    have ha : (bys A).toArray[i * 1]? = some (.int .u8 (A.getD i 0 : Nat)) := by rw [Nat.mul_one, List.getElem?_toArray]; exact bys_get A i h1.1
    have hb : (bys B).toArray[i * 1]? = some (.int .u8 (B.getD i 0 : Nat)) := by rw [Nat.mul_one, List.getElem?_toArray]; exact bys_get B i h1.2
    simp only [Op.eqItems, Sem.run_bind, run_part_plain w he ha, run_part_plain w he hb, Result.andThen_ok, run_equalIn_int w d e .u8 .u8 _ _ hu]
    have ih := run_eqItems_bys w he hu d A B is (fun j hj => h j (List.mem_cons_of_mem _ hj))
    by_cases hc : A.getD i 0 = B.getD i 0
    · rw [List.all_cons, hc]
      simpa using ih
    · have hc2 : (((A.getD i 0 : Nat) : Int) == ((B.getD i 0 : Nat) : Int)) = false := by
        rw [beq_eq_false_iff_ne]; omega
      rw [List.all_cons, hc2, show (A.getD i 0 == B.getD i 0) = false from by rw [beq_eq_false_iff_ne]; exact hc]
      simp
theorem all_eq (A B : List Nat) (h : A.length = B.length) : ((List.range A.length).all fun i => A.getD i 0 == B.getD i 0) = decide (A = B) := by
  rw [Bool.eq_iff_iff, List.all_eq_true, decide_eq_true_iff]
  constructor
  · intro hh
    refine List.ext_getElem h fun i h1 h2 => ?_
    have := hh i (List.mem_range.2 h1)
    simpa [List.getD, List.getElem?_eq_getElem h1, List.getElem?_eq_getElem h2] using this
  · rintro rfl i _
    simp
theorem cells_u8 : Tryz.prog.cellsOf 5 = 1 := by kernel_rfl
theorem plain_u8 : Tryz.prog.plainKey 5 = true := by kernel_rfl
theorem neq_hash (w : World) (A B : List Nat) (hA : IsH A) (hB : IsH B) : (binOp .neq 23 (.agg (bys A).toArray) (.agg (bys B).toArray)).run Tryz.prog w = .ok (.bool (!decide (A = B))) w := by
  obtain ⟨i, hi⟩ : ∃ i, Tryz.prog.info? 5 = some i := Option.isSome_iff_exists.1 (by kernel_rfl)
  rw [run_neq_struct, show (10000 : Nat) = 9998 + 1 + 1 from rfl, run_equalIn_array w (9998 + 1) _ _ Tryz.underlying23 hi, cells_u8, run_eqItems_bys w plain_u8 Tryz.underlying5 9998 A B _ (fun i hi => ⟨by rw [hA.1]; exact List.mem_range.1 hi, by rw [hB.1]; exact List.mem_range.1 hi⟩)]
  have := all_eq A B (by rw [hA.1, hB.1])
  rw [hA.1] at this
  rw [this]
  rfl
theorem equal_hash (w : World) (A B : List Nat) (hA : IsH A) (hB : IsH B) : (Op.equalIn 10000 23 (.agg (bys A).toArray) (.agg (bys B).toArray)).run Tryz.prog w = .ok (decide (A = B)) w := by
  obtain ⟨i, hi⟩ : ∃ i, Tryz.prog.info? 5 = some i := Option.isSome_iff_exists.1 (by kernel_rfl)
  rw [show (10000 : Nat) = 9998 + 1 + 1 from rfl, run_equalIn_array w (9998 + 1) _ _ Tryz.underlying23 hi, cells_u8, run_eqItems_bys w plain_u8 Tryz.underlying5 9998 A B _ (fun i hi => ⟨by rw [hA.1]; exact List.mem_range.1 hi, by rw [hB.1]; exact List.mem_range.1 hi⟩)]
  have := all_eq A B (by rw [hA.1, hB.1])
  rw [hA.1] at this
  rw [this]
end Go.Proofs.YtndhmpeabfmfgaaGreatDoor
/- merkle.Check. -/
namespace Go.Proofs.YtndhmpeabfmfgaaGreatDoor
open Go.RowKit Go.Lib
set_option linter.unusedVariables false
set_option linter.unusedSimpArgs false
attribute [local go_sem ↓] Go.wp_at_zero Go.wp_at_succ

theorem size_path : (Tryz.prog.info? 29).map (·.size) = some 3 := by kernel_rfl

set_option maxRecDepth 100000 in
set_option maxHeartbeats 1600000 in
theorem check_of (T I : List Nat) (hT : IsH T) (hI : IsH I) (n c : Int) (v : Value) (Hs : List (List Nat)) (w : World) (hv : HsIs w v Hs) (Lh : List Nat) (hLh : IsH Lh) (er : Int) (he : er = 0 ∨ er = 21)
    (hL : ∀ w, HsIs w v Hs → Calls Tryz.prog 64 #[.agg (bys I).toArray, .agg #[.int .i64 n, .int .i64 c, v]] w fun e w' => e = .returned (.tuple #[.agg (bys Lh).toArray, .int .i64 er]) ∧ Below w.heap.size w w') :
    Calls Tryz.prog 43 #[.agg (bys T).toArray, .agg (bys I).toArray, .agg #[.int .i64 n, .int .i64 c, v]] w fun e w' => e = .returned (.int .i64 (if er = 0 ∧ Lh = T then 0 else 21)) ∧ Below w.heap.size w w' := by
  have hz := zero32
  have HV := Lib.hid hv
  have HI := Lib.hid hI
  have HT := Lib.hid hT
  have HLh := Lib.hid hLh
  have HL := Lib.hid hL
  have HE := Lib.hid he
  clear hv hI hT hLh hL he
  go_enter Tryz.func43, Tryz.ntmps43
  go_upto_region 1 with fail
  have hpk := three_laid w (bys T) (bys I) [.int .i64 n, .int .i64 c, v] 23 23 29 _ rfl
  have HA1 := Lib.hid hpk.1
  have HA2 := Lib.hid hpk.2.1
  have HA3 := Lib.hid hpk.2.2.1
  have HB1 := Lib.hid hpk.2.2.2
  have HVb := Lib.hid (HV.out.below hpk.2.2.2)
  clear hpk
  generalize World.alloc (World.alloc (World.alloc _ _) _) _ = w1 at *
  have HSi := Lib.hid (size_hash I HI.out.1)
  go_step
  refine wpList_load_mid (P := Tryz.prog) rfl 23 _ rfl (w.heap.size + 1) 0 rfl _ _ HA2.out.range Tryz.underlying23 rfl HSi.out ?_
  refine wpList_load_mid (P := Tryz.prog) rfl 29 _ rfl (w.heap.size + 1 + 1) 0 rfl _ _ HA3.out.range Tryz.underlying29 rfl size_path ?_
  go_wp2_with fail
  refine (HL.out w1 HVb.out).mono ?_
  rintro e w2 ⟨rfl, hb2⟩
  dsimp only
  have HA12 := Lib.hid (HA1.out.below hb2 HA1.out.lt)
  have HB2 := Lib.hid (HB1.out.trans (hb2.mono HB1.out.size))
  clear HA1 HA2 HA3 HB1 HVb HL hb2
  have hm := Arr.made w2 23 (List.replicate 32 (.int .u8 0))
  have HPk := Lib.hid (And.intro (hm.there (bys Lh).toArray.size (by simp [bys_len, HLh.out.1])) (And.intro (hm.setAll (bys Lh) (by simp [bys_len, HLh.out.1])) (below_sets w2.heap.size (Nat.le_refl _) (bys Lh) 0 ((Below.refl w2.heap.size w2).alloc (Nat.le_refl _) (.cells (List.replicate 32 (.int .u8 0)).toArray 23)))))
  clear hm
  have HSl := Lib.hid (show (Tryz.prog.info? 23).map (·.size) = some (bys Lh).toArray.size by rw [List.size_toArray]; exact size_hash Lh HLh.out.1)
  have O1 := Lib.hid (all_oneCell_toArray (bys_one Lh))
  iterate 13 (first | go_values | go_skip | go_guarded | go_step | go_upon)
  refine wpList_store_mid (P := Tryz.prog) rfl 23 _ _ rfl w2.heap.size 0 (bys Lh).toArray rfl rfl HPk.out.1 HSl.out O1.out ?_
  have hpk := HPk.out.2
  simp only [List.reduceReplicate] at hpk
  clear HPk hz
  rw [show (bys Lh).toArray.toList = bys Lh from rfl]
  have HB5 := Lib.hid (HB2.out.trans (hpk.2.mono HB2.out.size))
  have HT5 := Lib.hid (HA12.out.below hpk.2 HA12.out.lt)
  have HL5 := Lib.hid hpk.1
  clear hpk
  generalize World.setCells _ _ _ _ = w5 at *
  generalize w2.heap.size = g8 at *
  rcases HE.out with rfl | rfl
  · go_upto_region 2 with fail
    have HSt := Lib.hid (size_hash T HT.out.1)
    have HSl2 := Lib.hid (size_hash Lh HLh.out.1)
    go_step
    iterate 9 (first | go_values | go_skip | go_guarded | go_step | go_upon)
    go_guarded
    refine wp_load_mid (P := Tryz.prog) 23 _ rfl g8 0 rfl _ _ HL5.out.range Tryz.underlying23 rfl HSl2.out ?_
    iterate 1 (first | go_values | go_skip | go_guarded | go_step | go_upon)
    dsimp only [Act.put]
    simp only [List.setIfInBounds_toArray, List.set_cons_zero, List.set_cons_succ]
    go_guarded
    refine wp_load_mid (P := Tryz.prog) 23 _ rfl w.heap.size 0 rfl _ _ HT5.out.range Tryz.underlying23 rfl HSt.out ?_
    iterate 1 (first | go_values | go_skip | go_guarded | go_step | go_upon)
    dsimp only [Act.put]
    simp only [List.setIfInBounds_toArray, List.set_cons_zero, List.set_cons_succ]
    go_guarded
    by_cases heq : Lh = T
    · subst heq
      have hne := equal_hash w5 Lh Lh HLh.out HLh.out
      rw [show decide (Lh = Lh) = true from decide_eq_true rfl] at hne
      go_simp
      clear hne
      go_wp2
      refine bodyPost_ret (results_tmp rfl _ _ _) rfl ?_
      exact ⟨rfl, HB5.out⟩
    · have hne := equal_hash w5 Lh T HLh.out HT.out
      rw [show decide (Lh = T) = false from decide_eq_false heq] at hne
      go_simp
      clear hne
      go_wp2
      refine bodyPost_ret (results_tmp rfl _ _ _) rfl ?_
      exact ⟨rfl, HB5.out⟩
  · go_wp2
    refine bodyPost_ret (results_tmp rfl _ _ _) rfl ?_
    exact ⟨rfl, HB5.out⟩

/-- Whether a path checks. -/
def pathOk (T I : List Nat) (n c : Int) (Hs : List (List Nat)) : Prop :=
  ∃ n' c' : Nat, n = (n' : Int) ∧ c = (c' : Int) ∧ n' < c' ∧ c' ≤ 1048576 ∧ Hs.length = sizeUp n' c' ∧ topF c' (upF I n' c' Hs) = T
open Classical in
theorem check_any (T I : List Nat) (hT : IsH T) (hI : IsH I) (n c : Int) (v : Value) (Hs : List (List Nat)) (w : World) (hv : HsIs w v Hs) :
    Calls Tryz.prog 43 #[.agg (bys T).toArray, .agg (bys I).toArray, .agg #[.int .i64 n, .int .i64 c, v]] w fun e w' => e = .returned (.int .i64 (if pathOk T I n c Hs then 0 else 21)) ∧ Below w.heap.size w w' := by
  have hzH : IsH zeroH := ⟨rfl, fun x hx => by rw [List.eq_of_mem_replicate hx]; omega⟩
  by_cases hb : n < 0 ∨ c ≤ n ∨ 1048576 < c
  · rw [if_neg (by rintro ⟨n', c', rfl, rfl, h1, h2, _⟩; omega)]
    exact check_of T I hT hI n c v Hs w hv zeroH hzH 21 (.inr rfl) (fun w hw => lead_bad I n c v Hs w hb hw)
  · obtain ⟨n', rfl⟩ := Int.eq_ofNat_of_zero_le (show 0 ≤ n by omega)
    obtain ⟨c', rfl⟩ := Int.eq_ofNat_of_zero_le (show 0 ≤ c by omega)
    by_cases hs : Hs.length = sizeUp n' c'
    · have := check_of T I hT hI n' c' v Hs w hv (topF c' (upF I n' c' Hs)) (tagF_h _ _) 0 (.inl rfl) (fun w hw => lead_ok I hI n' c' v Hs w (by omega) (by omega) hs hw)
      have e : (if (0 : Int) = 0 ∧ topF c' (upF I n' c' Hs) = T then (0 : Int) else 21) = (if pathOk T I n' c' Hs then 0 else 21) := by
        by_cases ht : topF c' (upF I n' c' Hs) = T
        · rw [if_pos ⟨rfl, ht⟩, if_pos ⟨n', c', rfl, rfl, by omega, by omega, hs, ht⟩]
        · rw [if_neg (fun h => ht h.2), if_neg]
          rintro ⟨n2, c2, e1, e2, _, _, _, h9⟩
          obtain rfl : n' = n2 := by omega
          obtain rfl : c' = c2 := by omega
          exact ht h9
      rw [← e]; exact this
    · rw [if_neg]
      · exact check_of T I hT hI n' c' v Hs w hv zeroH hzH 21 (.inr rfl) (fun w hw => lead_size I n' c' v Hs w ⟨by omega, by omega, hs⟩ hw)
      · rintro ⟨n2, c2, e1, e2, _, _, h9, _⟩
        obtain rfl : n' = n2 := by omega
        obtain rfl : c' = c2 := by omega
        exact hs h9
end Go.Proofs.YtndhmpeabfmfgaaGreatDoor
/- merkle.text. -/
namespace Go.Proofs.YtndhmpeabfmfgaaGreatDoor
open Go.RowKit Go.Lib
set_option linter.unusedVariables false
set_option linter.unusedSimpArgs false
attribute [local go_sem ↓] Go.wp_at_zero Go.wp_at_succ

/-- A slice whose object is none of the first ones. -/
def High (B : Nat) (v : Value) : Prop := ∀ a n k, v = .slice (some a) n k → B ≤ a.block
theorem High.mono {B B' : Nat} {v : Value} (h : High B v) (hb : B' ≤ B) : High B' v := fun a n k e => Nat.le_trans hb (h a n k e)

end Go.Proofs.YtndhmpeabfmfgaaGreatDoor
/- plexusref03.half, Size. -/
namespace Go.Proofs.YtndhmpeabfmfgaaGreatDoor
open Go.RowKit Go.Lib
set_option linter.unusedVariables false
set_option linter.unusedSimpArgs false
attribute [local go_sem ↓] Go.wp_at_zero Go.wp_at_succ

set_option maxRecDepth 100000 in
set_option maxHeartbeats 1600000 in
theorem half_any (n : Nat) (w : World) (hn : n ≤ 1048576) :
    Calls Tryz.prog 41 #[.int .i64 (n : Int)] w fun e w' => e = .returned (.int .i64 (half n : Nat)) ∧ w' = w := by
  go_enter Tryz.func41, Tryz.ntmps41
  go_wp2
  go_loopg [3] (n + 1) (fun g v3 wq => ∃ j k : Nat, v3 = .int .i64 (k : Int) ∧ Hid (k = 2 ^ j ∧ (k < n ∨ k = 1) ∧ g + k = n + 2) ∧ wq = w)
  case atStart => exact ⟨0, 1, rfl, ⟨rfl, .inr rfl, by omega⟩, rfl⟩
  case round =>
    obtain ⟨j, k, rfl, hr, rfl⟩ := hrel
    have HR := Lib.hid hr.out
    clear hr
    have hk : k ≤ 1048577 := by have := HR.out.2.1; omega
    have hw : IntKind.i64.wrap (2 * (k : Int)) = ((2 * k : Nat) : Int) := by rw [IntKind.wrap_i64]; omega
    by_cases hc : 2 * k < n
    · have hlt : 2 * (k : Int) < (n : Int) := by omega
      go_wp2
      go_roundg (n + 2 - 2 * k)
      case measure => have h := HR.out; have : 1 ≤ 2 ^ j := Nat.one_le_two_pow; omega
      case rel =>
        have h := HR.out
        exact ⟨j + 1, 2 * k, congrArg (Value.int .i64) (by omega), ⟨by rw [h.1, Nat.pow_succ]; omega, .inl hc, by omega⟩, rfl⟩
    · have hlt : ¬ 2 * (k : Int) < (n : Int) := by omega
      have he : half n = k := by
        have h := HR.out
        rcases h.2.1 with h1 | h1
        · rw [h.1] at h1 hc ⊢
          exact half_pow j n h1 (by omega)
        · subst h1; exact half_two n (by omega)
      have HE := Lib.hid he
      clear he
      go_wp2
      go_ret
      exact ⟨by rw [HE.out]; rfl, rfl⟩

theorem sizeDown_le (c : Nat) : ∀ n, n < c → sizeDown n c ≤ c := fun n h => by
  rw [← size_same c n h]; exact sizeUp_le c n
theorem path_below {w w1 : World} {g : Nat} {t : TypeId} {vs : List Value} (h : Arr w1 g t vs) (nq : Nat) : Arr (w1.drewN nq) g t vs := h
end Go.Proofs.YtndhmpeabfmfgaaGreatDoor
/- wire.Writer.put. -/
namespace Go.Proofs.YtndhmpeabfmfgaaGreatDoor
open Go.RowKit Go.Lib
set_option linter.unusedVariables false
set_option linter.unusedSimpArgs false
attribute [local go_sem ↓] Go.wp_at_zero Go.wp_at_succ

/-- A writer at block g: what it has written, and whether it is bad. -/
def WrM (w : World) (g : Nat) (L : List Nat) (bad : Bool) : Prop :=
  ∃ v, Arr w g 70 [v, .bool bad] ∧ w.ownsRow (g + 1) 5 1 v L.length (bys L)
set_option maxRecDepth 100000 in
set_option maxHeartbeats 1600000 in
theorem put_ok (g : Nat) (L M Z : List Nat) (hZ : L ++ M = Z) (u : Value) (w : World) (hw : WrM w g L false) (hy : Byts w u M) (hne : ∀ ad n c, u = .slice (some ad) n c → ad.block ≠ g) (hl : L.length + M.length ≤ 140737488355328) :
    Calls Tryz.prog 34 #[.pointer (some ⟨g, 0, none⟩), u, .bool true] w fun e w' => e = .returned (.pointer (some ⟨g, 0, none⟩)) ∧ WrM w' g Z false ∧ Below g w w' := by
  obtain ⟨v, ha, ho⟩ := hw
  have HZ := Lib.hid hZ
  have HA := Lib.hid ha
  have HO := Lib.hid ho
  have HY := Lib.hid hy
  have HL := Lib.hid hl
  have HG := Lib.hid (show g + 1 ≤ w.heap.size from ha.lt)
  clear hZ ho hy hl
  have hc0 := ha.cell 0
  have hc1 := ha.cell 1
  dsimp only [List.getElem?_cons_zero, List.getElem?_cons_succ] at hc0 hc1
  have hf1 := ha.frozen 1
  clear ha
  go_enter Tryz.func34, Tryz.ntmps34
  go_upto_region 5 with fail
  have HA2 := Lib.hid (show Arr (w.setCell ⟨g, 1, none⟩ (.bool false)) g 70 [v, .bool false] from HA.out.set 1 _)
  have HO2 := Lib.hid (ownsRow_setCell_below HO.out (a := ⟨g, 1, none⟩) (Nat.lt_succ_self g) (.bool false))
  have HY2 := Lib.hid (HY.out.setCell hne 1 (.bool false))
  have HB2 := Lib.hid (show Below g w (w.setCell ⟨g, 1, none⟩ (.bool false)) from (Below.refl g w).setCell (Nat.le_refl _) _)
  generalize World.setCell _ _ _ = w2 at *
  have hb0 := HA2.out.cell 0
  have hb1 := HA2.out.cell 1
  dsimp only [List.getElem?_cons_zero, List.getElem?_cons_succ] at hb0 hb1
  have HG2 := Lib.hid (show g + 1 ≤ w2.heap.size from HA2.out.lt)
  clear hc0 hc1 hf1 hne HA HO HY HG
  go_wp2_with (at_builtin; refine appB (g + 1) rfl (.tmp 29) (.tmp 30) 44 5 rfl Tryz.underlying44 infoB v u L M Z HZ.out rfl rfl HO2.out HY2.out HG2.out HL.out ?_)
  intro v4 w4 ho4 hb4 hg4
  obtain ⟨a4, n4, c4, rfl⟩ : ∃ a4 n4 c4, v4 = .slice a4 n4 c4 := by
    rcases ho4.out.2 with ⟨h, _⟩ | ⟨g', cap, cur, h, _⟩
    · exact ⟨_, _, _, h⟩
    · exact ⟨_, _, _, h⟩
  have hbb := hb4.out (g + 1) w2 (Below.refl _ _) (Nat.le_refl _)
  have HA4 := Lib.hid (HA2.out.below hbb (Nat.lt_succ_self g))
  have HO4 := Lib.hid ho4.out
  have HB4 := Lib.hid (hb4.out g w HB2.out (Nat.le_succ g))
  have hd0 := HA4.out.cell 0
  have hd1 := HA4.out.cell 1
  have hdf := HA4.out.frozen 0
  dsimp only [List.getElem?_cons_zero, List.getElem?_cons_succ] at hd0 hd1
  clear hb0 hb1 HA2 HO2 HY2 HB2 HG2 hbb ho4 hb4 hg4
  go_wp2
  go_ret
  refine ⟨rfl, ⟨_, HA4.out.set 0 _, ownsRow_setCell_below HO4.out (a := ⟨g, 0, none⟩) (Nat.lt_succ_self g) _⟩, HB4.out.setCell (Nat.le_refl _) _⟩
end Go.Proofs.YtndhmpeabfmfgaaGreatDoor
/- wire.Writer.Hash. -/
namespace Go.Proofs.YtndhmpeabfmfgaaGreatDoor
open Go.RowKit Go.Lib
set_option linter.unusedVariables false
set_option linter.unusedSimpArgs false
attribute [local go_sem ↓] Go.wp_at_zero Go.wp_at_succ

theorem WrM.lt {w : World} {g : Nat} {L : List Nat} {bad : Bool} (h : WrM w g L bad) : g < w.heap.size := by
  obtain ⟨v, ha, _⟩ := h
  exact ha.lt
theorem WrM.below {w w' : World} {g : Nat} {L : List Nat} {bad : Bool} (h : WrM w g L bad) (hb : Below w.heap.size w w') : WrM w' g L bad := by
  obtain ⟨v, ha, ho⟩ := h
  exact ⟨v, ha.below hb ha.lt, own_below ho hb⟩
set_option maxRecDepth 100000 in
set_option maxHeartbeats 1600000 in
theorem whash_ok (g : Nat) (L H Z : List Nat) (hZ : L ++ H = Z) (hH : IsH H) (w : World) (hw : WrM w g L false) (hl : L.length + 32 ≤ 140737488355328) :
    Calls Tryz.prog 16 #[.pointer (some ⟨g, 0, none⟩), .agg (bys H).toArray] w fun e w' => e = .returned (.pointer (some ⟨g, 0, none⟩)) ∧ WrM w' g Z false ∧ Below g w w' := by
  have HZ := Lib.hid hZ
  have HH := Lib.hid hH
  have HW := Lib.hid hw
  have HL := Lib.hid hl
  clear hZ hH hw hl
  go_enter Tryz.func16, Tryz.ntmps16
  go_upto_region 1 with fail
  have hb : Below w.heap.size w (w.alloc (.cells (bys H).toArray 23)) := (Below.refl _ _).alloc (Nat.le_refl _) _
  have ha := Arr.made w 23 (bys H)
  have HW1 := Lib.hid (HW.out.below hb)
  have HB1 := Lib.hid (hb.mono (Nat.le_of_lt HW.out.lt))
  have HY1 := Lib.hid (ha.byts HH.out.2 32 HH.out.1.symm (by unfold maxLen; omega))
  have HG := Lib.hid HW.out.lt
  generalize World.alloc _ _ = w1 at *
  clear hb ha HW
  go_wp2_with fail
  refine (put_ok g L H Z HZ.out _ w1 HW1.out HY1.out (fun ad n c e => by cases e; have := HG.out; show w.heap.size ≠ g; omega) (by rw [HH.out.1]; exact HL.out)).mono ?_
  rintro e w3 ⟨rfl, hw3, hb3⟩
  dsimp only
  have HW3 := Lib.hid hw3
  have HB3 := Lib.hid (HB1.out.trans hb3)
  clear hw3 hb3
  go_wp2
  go_ret
  exact ⟨rfl, HW3.out, HB3.out⟩
end Go.Proofs.YtndhmpeabfmfgaaGreatDoor
/- wire.Writer.put, where the writer is bad or turns bad. -/
namespace Go.Proofs.YtndhmpeabfmfgaaGreatDoor
open Go.RowKit Go.Lib
set_option linter.unusedVariables false
set_option linter.unusedSimpArgs false
attribute [local go_sem ↓] Go.wp_at_zero Go.wp_at_succ

set_option maxRecDepth 100000 in
set_option maxHeartbeats 1600000 in
theorem put_bad (g : Nat) (L : List Nat) (u : Value) (good bad : Bool) (w : World) (hw : WrM w g L bad) (hb : (bad || !good) = true) :
    Calls Tryz.prog 34 #[.pointer (some ⟨g, 0, none⟩), u, .bool good] w fun e w' => e = .returned (.pointer (some ⟨g, 0, none⟩)) ∧ WrM w' g L true ∧ Below g w w' := by
  obtain ⟨v, ha, ho⟩ := hw
  have HA := Lib.hid ha
  have HO := Lib.hid ho
  clear ho
  have hc1 := ha.cell 1
  dsimp only [List.getElem?_cons_zero, List.getElem?_cons_succ] at hc1
  have hf1 := ha.frozen 1
  clear ha
  have hfin : WrM (w.setCell ⟨g, 1, none⟩ (.bool true)) g L true := ⟨v, HA.out.set 1 _, ownsRow_setCell_below HO.out (a := ⟨g, 1, none⟩) (Nat.lt_succ_self g) _⟩
  have HF := Lib.hid hfin
  have HB := Lib.hid (show Below g w (w.setCell ⟨g, 1, none⟩ (.bool true)) from (Below.refl g w).setCell (Nat.le_refl _) _)
  have hd1 : (w.setCell ⟨g, 1, none⟩ (.bool true)).cell? ⟨g, 1, none⟩ = some (.bool true) := (HA.out.set 1 (.bool true)).cell 1
  clear hfin HA HO
  go_enter Tryz.func34, Tryz.ntmps34
  cases bad
  · cases good
    · go_wp2
      go_ret
      exact ⟨rfl, HF.out, HB.out⟩
    · cases hb
  · clear hb
    go_wp2
    go_ret
    exact ⟨rfl, HF.out, HB.out⟩
end Go.Proofs.YtndhmpeabfmfgaaGreatDoor
/- wire.whole. -/
namespace Go.Proofs.YtndhmpeabfmfgaaGreatDoor
open Go.RowKit Go.Lib
set_option linter.unusedVariables false
set_option linter.unusedSimpArgs false
attribute [local go_sem ↓] Go.wp_at_zero Go.wp_at_succ

set_option maxRecDepth 100000 in
set_option maxHeartbeats 1600000 in
theorem whole_any (n : Int) (w : World) (h : n = 1 ∨ n = 2 ∨ n = 4 ∨ n = 8) :
    Calls Tryz.prog 36 #[.int .i64 n] w fun e w' => e = .returned (.bool true) ∧ w' = w := by
  rcases h with rfl | rfl | rfl | rfl
  · go_enter Tryz.func36, Tryz.ntmps36
    go_wp2
    go_ret
    exact ⟨rfl, rfl⟩
  · go_enter Tryz.func36, Tryz.ntmps36
    go_wp2
    go_ret
    exact ⟨rfl, rfl⟩
  · go_enter Tryz.func36, Tryz.ntmps36
    go_wp2
    go_ret
    exact ⟨rfl, rfl⟩
  · go_enter Tryz.func36, Tryz.ntmps36
    go_wp2
    go_ret
    exact ⟨rfl, rfl⟩
end Go.Proofs.YtndhmpeabfmfgaaGreatDoor
/- wire.number. -/
namespace Go.Proofs.YtndhmpeabfmfgaaGreatDoor
open Go.RowKit Go.Lib
set_option linter.unusedVariables false
set_option linter.unusedSimpArgs false
attribute [local go_sem ↓] Go.wp_at_zero Go.wp_at_succ

theorem bys_next_le (L : List Nat) (i n : Nat) (hL : n ≤ L.length) (hn : i < n) (v : Value) : (bys (L.take i) ++ List.replicate (n - i) v)[i]? = some v := by
  have e1 : (bys (L.take i)).length = i := by simp [bys]; omega
  rw [List.getElem?_append_right (by omega), e1, Nat.sub_self, List.getElem?_replicate, if_pos (by omega)]

set_option maxRecDepth 100000 in
set_option maxHeartbeats 1600000 in
theorem wnumber8_any (n : Nat) (w : World) (hn : n ≤ 18446744073709551615) :
    Calls Tryz.prog 37 #[.int .u64 n, .int .i64 8] w fun e w' => ∃ v', e = .returned v' ∧ Byts w' v' (le8 n) ∧ Low w' v' ∧ (∀ ad n c, v' = .slice (some ad) n c → w.heap.size ≤ ad.block) ∧ Below w.heap.size w w' := by
  have HN := Lib.hid hn
  have hmk : ∀ w, (Instr.makeSlice 44 (.int .i64 8) (.int .i64 8)).run Tryz.prog w = .ok (.slice (some ⟨w.heap.size, 0, none⟩) 8 8) (w.alloc (.cells #[.int .u8 0, .int .u8 0, .int .u8 0, .int .u8 0, .int .u8 0, .int .u8 0, .int .u8 0, .int .u8 0] 5)) := fun _ => by kernel_rfl
  clear hn
  go_enter Tryz.func37, Tryz.ntmps37
  go_upto_region 2 with fail
  have ha : Arr (w.alloc (.cells #[.int .u8 0, .int .u8 0, .int .u8 0, .int .u8 0, .int .u8 0, .int .u8 0, .int .u8 0, .int .u8 0] 5)) w.heap.size 5 (bys ((le8 n).take 0) ++ List.replicate (8 - 0) (.int .u8 0)) := Arr.made w _ _
  have hb : Below w.heap.size w (w.alloc (.cells #[.int .u8 0, .int .u8 0, .int .u8 0, .int .u8 0, .int .u8 0, .int .u8 0, .int .u8 0, .int .u8 0] 5)) := (Below.refl _ _).alloc (Nat.le_refl _) _
  have HA := Lib.hid ha
  have HB := Lib.hid hb
  clear ha hb hmk
  generalize World.alloc _ _ = w1 at *
  go_wp2
  obtain ⟨nz, hnz⟩ : ∃ nz : Int, (n : Int) = nz := ⟨_, rfl⟩
  have HNz := Lib.hid hnz
  have hn0 : 0 ≤ nz := by omega
  have hn1 : nz ≤ 18446744073709551615 := by have := HN.out; omega
  rw [hnz]
  clear hnz
  go_loopg [6, 11] 8 (fun g vi vn wq => ∃ k : Nat, Hid (g + k = 8) ∧ vn = .int .i64 (k : Int) ∧ Hid (Arr wq w.heap.size 5 (bys ((le8 n).take k) ++ List.replicate (8 - k) (.int .u8 0))) ∧ Hid (Below w.heap.size w wq))
  case atStart => exact ⟨0, rfl, rfl, HA.out, HB.out⟩
  case round =>
    obtain ⟨k, hk, rfl, ha, hb⟩ := hrel
    have HK := Lib.hid hk.out
    have HAq := Lib.hid ha.out
    have HBq := Lib.hid hb.out
    clear hk ha hb HA HB
    cases gk with
    | zero =>
      have hlt : ¬ ((k : Int) < 8) := by have := HK.out; omega
      have hA := HAq.out
      rw [show k = 8 by have := HK.out; omega, Nat.sub_self, List.replicate_zero, List.append_nil, show (le8 n).take 8 = le8 n from rfl] at hA
      have HA8 := Lib.hid hA
      clear hA
      go_wp2
      go_ret
      exact ⟨_, rfl, HA8.out.byts (le8_lt n) 8 rfl (by unfold maxLen; omega), HA8.out.low 8 8, fun ad n c e => by cases e; exact Nat.le_refl _, HBq.out⟩
    | succ g =>
      have hk8 : k < 8 := by have := HK.out; omega
      obtain ⟨z, hz⟩ : ∃ z : Int, (k : Int) = z := ⟨_, rfl⟩
      have hcl := (HAq.out.cell k).trans (bys_next (le8 n) k 8 rfl hk8 _)
      have hfr := HAq.out.frozen k
      have hlt : z < 8 := by omega
      have iz : 0 ≤ z := by omega
      have hkz : k = z.toNat := by omega
      rw [hkz] at hcl hfr
      have HZ := Lib.hid hz
      have HKz := Lib.hid hkz
      rw [hz]
      clear hz hkz hk8
      go_wp2
      rw [show nz / 2 ^ (8 * z).toNat % 256 = ((n / 2 ^ (8 * k) % 256 : Nat) : Int) by rw [show (8 * z).toNat = 8 * k by have := HZ.out; omega, ← HNz.out]; simp]
      go_roundg g
      case measure => omega
      case rel =>
        refine ⟨k + 1, by show _ = _; have := HK.out; omega, by have := HZ.out; congr 1; omega, ?_, HBq.out.setCell (Nat.le_refl _) _⟩
        show Arr _ _ _ _
        rw [← HKz.out, ← bys_step (le8 n) k 8 _ (le8_at n k (by have := HK.out; omega)) (by have := HK.out; omega)]
        exact HAq.out.set _ _

set_option maxRecDepth 100000 in
set_option maxHeartbeats 1600000 in
theorem wnumber4_any (n : Nat) (w : World) (hn : n ≤ 18446744073709551615) :
    Calls Tryz.prog 37 #[.int .u64 n, .int .i64 4] w fun e w' => ∃ v', e = .returned v' ∧ Byts w' v' ((le8 n).take 4) ∧ Low w' v' ∧ (∀ ad n c, v' = .slice (some ad) n c → w.heap.size ≤ ad.block) ∧ Below w.heap.size w w' := by
  have HN := Lib.hid hn
  have hmk : ∀ w, (Instr.makeSlice 44 (.int .i64 4) (.int .i64 4)).run Tryz.prog w = .ok (.slice (some ⟨w.heap.size, 0, none⟩) 4 4) (w.alloc (.cells #[.int .u8 0, .int .u8 0, .int .u8 0, .int .u8 0] 5)) := fun _ => by kernel_rfl
  clear hn
  go_enter Tryz.func37, Tryz.ntmps37
  go_upto_region 2 with fail
  have ha : Arr (w.alloc (.cells #[.int .u8 0, .int .u8 0, .int .u8 0, .int .u8 0] 5)) w.heap.size 5 (bys ((le8 n).take 0) ++ List.replicate (4 - 0) (.int .u8 0)) := Arr.made w _ _
  have hb : Below w.heap.size w (w.alloc (.cells #[.int .u8 0, .int .u8 0, .int .u8 0, .int .u8 0] 5)) := (Below.refl _ _).alloc (Nat.le_refl _) _
  have HA := Lib.hid ha
  have HB := Lib.hid hb
  clear ha hb hmk
  generalize World.alloc _ _ = w1 at *
  go_wp2
  obtain ⟨nz, hnz⟩ : ∃ nz : Int, (n : Int) = nz := ⟨_, rfl⟩
  have HNz := Lib.hid hnz
  have hn0 : 0 ≤ nz := by omega
  have hn1 : nz ≤ 18446744073709551615 := by have := HN.out; omega
  rw [hnz]
  clear hnz
  go_loopg [6, 11] 4 (fun g vi vn wq => ∃ k : Nat, Hid (g + k = 4) ∧ vn = .int .i64 (k : Int) ∧ Hid (Arr wq w.heap.size 5 (bys ((le8 n).take k) ++ List.replicate (4 - k) (.int .u8 0))) ∧ Hid (Below w.heap.size w wq))
  case atStart => exact ⟨0, rfl, rfl, HA.out, HB.out⟩
  case round =>
    obtain ⟨k, hk, rfl, ha, hb⟩ := hrel
    have HK := Lib.hid hk.out
    have HAq := Lib.hid ha.out
    have HBq := Lib.hid hb.out
    clear hk ha hb HA HB
    cases gk with
    | zero =>
      have hlt : ¬ ((k : Int) < 4) := by have := HK.out; omega
      have hA := HAq.out
      rw [show k = 4 by have := HK.out; omega, Nat.sub_self, List.replicate_zero, List.append_nil] at hA
      have HA8 := Lib.hid hA
      clear hA
      go_wp2
      go_ret
      exact ⟨_, rfl, HA8.out.byts (fun x hx => le8_lt n x (List.mem_of_mem_take hx)) 4 rfl (by unfold maxLen; omega), HA8.out.low 4 4, fun ad n c e => by cases e; exact Nat.le_refl _, HBq.out⟩
    | succ g =>
      have hk8 : k < 4 := by have := HK.out; omega
      obtain ⟨z, hz⟩ : ∃ z : Int, (k : Int) = z := ⟨_, rfl⟩
      have hcl := (HAq.out.cell k).trans (bys_next_le (le8 n) k 4 (by simp [le8]) hk8 _)
      have hfr := HAq.out.frozen k
      have hlt : z < 4 := by omega
      have iz : 0 ≤ z := by omega
      have hkz : k = z.toNat := by omega
      rw [hkz] at hcl hfr
      have HZ := Lib.hid hz
      have HKz := Lib.hid hkz
      rw [hz]
      clear hz hkz hk8
      go_wp2
      rw [show nz / 2 ^ (8 * z).toNat % 256 = ((n / 2 ^ (8 * k) % 256 : Nat) : Int) by rw [show (8 * z).toNat = 8 * k by have := HZ.out; omega, ← HNz.out]; simp]
      go_roundg g
      case measure => omega
      case rel =>
        refine ⟨k + 1, by show _ = _; have := HK.out; omega, by have := HZ.out; congr 1; omega, ?_, HBq.out.setCell (Nat.le_refl _) _⟩
        show Arr _ _ _ _
        rw [← HKz.out, ← bys_step (le8 n) k 4 _ (le8_at n k (by have := HK.out; omega)) (by have := HK.out; omega)]
        exact HAq.out.set _ _

set_option maxRecDepth 100000 in
set_option maxHeartbeats 1600000 in
theorem wnumber2_any (n : Nat) (w : World) (hn : n ≤ 18446744073709551615) :
    Calls Tryz.prog 37 #[.int .u64 n, .int .i64 2] w fun e w' => ∃ v', e = .returned v' ∧ Byts w' v' ((le8 n).take 2) ∧ Low w' v' ∧ (∀ ad n c, v' = .slice (some ad) n c → w.heap.size ≤ ad.block) ∧ Below w.heap.size w w' := by
  have HN := Lib.hid hn
  have hmk : ∀ w, (Instr.makeSlice 44 (.int .i64 2) (.int .i64 2)).run Tryz.prog w = .ok (.slice (some ⟨w.heap.size, 0, none⟩) 2 2) (w.alloc (.cells #[.int .u8 0, .int .u8 0] 5)) := fun _ => by kernel_rfl
  clear hn
  go_enter Tryz.func37, Tryz.ntmps37
  go_upto_region 2 with fail
  have ha : Arr (w.alloc (.cells #[.int .u8 0, .int .u8 0] 5)) w.heap.size 5 (bys ((le8 n).take 0) ++ List.replicate (2 - 0) (.int .u8 0)) := Arr.made w _ _
  have hb : Below w.heap.size w (w.alloc (.cells #[.int .u8 0, .int .u8 0] 5)) := (Below.refl _ _).alloc (Nat.le_refl _) _
  have HA := Lib.hid ha
  have HB := Lib.hid hb
  clear ha hb hmk
  generalize World.alloc _ _ = w1 at *
  go_wp2
  obtain ⟨nz, hnz⟩ : ∃ nz : Int, (n : Int) = nz := ⟨_, rfl⟩
  have HNz := Lib.hid hnz
  have hn0 : 0 ≤ nz := by omega
  have hn1 : nz ≤ 18446744073709551615 := by have := HN.out; omega
  rw [hnz]
  clear hnz
  go_loopg [6, 11] 2 (fun g vi vn wq => ∃ k : Nat, Hid (g + k = 2) ∧ vn = .int .i64 (k : Int) ∧ Hid (Arr wq w.heap.size 5 (bys ((le8 n).take k) ++ List.replicate (2 - k) (.int .u8 0))) ∧ Hid (Below w.heap.size w wq))
  case atStart => exact ⟨0, rfl, rfl, HA.out, HB.out⟩
  case round =>
    obtain ⟨k, hk, rfl, ha, hb⟩ := hrel
    have HK := Lib.hid hk.out
    have HAq := Lib.hid ha.out
    have HBq := Lib.hid hb.out
    clear hk ha hb HA HB
    cases gk with
    | zero =>
      have hlt : ¬ ((k : Int) < 2) := by have := HK.out; omega
      have hA := HAq.out
      rw [show k = 2 by have := HK.out; omega, Nat.sub_self, List.replicate_zero, List.append_nil] at hA
      have HA8 := Lib.hid hA
      clear hA
      go_wp2
      go_ret
      exact ⟨_, rfl, HA8.out.byts (fun x hx => le8_lt n x (List.mem_of_mem_take hx)) 2 rfl (by unfold maxLen; omega), HA8.out.low 2 2, fun ad n c e => by cases e; exact Nat.le_refl _, HBq.out⟩
    | succ g =>
      have hk8 : k < 2 := by have := HK.out; omega
      obtain ⟨z, hz⟩ : ∃ z : Int, (k : Int) = z := ⟨_, rfl⟩
      have hcl := (HAq.out.cell k).trans (bys_next_le (le8 n) k 2 (by simp [le8]) hk8 _)
      have hfr := HAq.out.frozen k
      have hlt : z < 2 := by omega
      have iz : 0 ≤ z := by omega
      have hkz : k = z.toNat := by omega
      rw [hkz] at hcl hfr
      have HZ := Lib.hid hz
      have HKz := Lib.hid hkz
      rw [hz]
      clear hz hkz hk8
      go_wp2
      rw [show nz / 2 ^ (8 * z).toNat % 256 = ((n / 2 ^ (8 * k) % 256 : Nat) : Int) by rw [show (8 * z).toNat = 8 * k by have := HZ.out; omega, ← HNz.out]; simp]
      go_roundg g
      case measure => omega
      case rel =>
        refine ⟨k + 1, by show _ = _; have := HK.out; omega, by have := HZ.out; congr 1; omega, ?_, HBq.out.setCell (Nat.le_refl _) _⟩
        show Arr _ _ _ _
        rw [← HKz.out, ← bys_step (le8 n) k 2 _ (le8_at n k (by have := HK.out; omega)) (by have := HK.out; omega)]
        exact HAq.out.set _ _

end Go.Proofs.YtndhmpeabfmfgaaGreatDoor
/- wire.Writer.Number. -/
namespace Go.Proofs.YtndhmpeabfmfgaaGreatDoor
open Go.RowKit Go.Lib
set_option linter.unusedVariables false
set_option linter.unusedSimpArgs false
attribute [local go_sem ↓] Go.wp_at_zero Go.wp_at_succ

set_option maxRecDepth 100000 in
set_option maxHeartbeats 1600000 in
theorem wnum8_ok (g n : Nat) (L Z : List Nat) (hZ : L ++ le8 n = Z) (w : World) (hw : WrM w g L false) (hn : n ≤ 18446744073709551615) (hl : L.length + 8 ≤ 140737488355328) :
    Calls Tryz.prog 14 #[.pointer (some ⟨g, 0, none⟩), .int .u64 n, .int .i64 8] w fun e w' => e = .returned (.pointer (some ⟨g, 0, none⟩)) ∧ WrM w' g Z false ∧ Below g w w' := by
  have HZ := Lib.hid hZ
  have HW := Lib.hid hw
  have HL := Lib.hid hl
  have HN := Lib.hid (show n ≤ 18446744073709551615 by omega)
  clear hZ hw hl hn
  go_enter Tryz.func14, Tryz.ntmps14
  go_wp2_with fail
  refine (whole_any 8 w (by omega)).mono ?_
  rintro e w1 ⟨rfl, rfl⟩
  dsimp only
  go_wp2_with fail
  refine (wnumber8_any n w1 HN.out).mono ?_
  rintro e w2 ⟨v2, rfl, hy2, hl2, hq2, hb2⟩
  dsimp only
  have HW2 := Lib.hid (HW.out.below hb2)
  have HY2 := Lib.hid hy2
  have HB2 := Lib.hid (hb2.mono (Nat.le_of_lt HW.out.lt))
  have HQ2 := Lib.hid (show ∀ ad n c, v2 = .slice (some ad) n c → ad.block ≠ g from fun ad n c e => by have := hq2 ad n c e; have := HW.out.lt; omega)
  have HLz := Lib.hid (show L.length + (le8 n).length ≤ 140737488355328 by have := HL.out; simp [le8]; omega)
  clear hy2 hl2 hb2 hq2
  go_wp2_with fail
  refine (put_ok g L (le8 n) Z HZ.out v2 w2 HW2.out HY2.out HQ2.out HLz.out).mono ?_
  rintro e w3 ⟨rfl, hw3, hb3⟩
  dsimp only
  have HW3 := Lib.hid hw3
  have HB3 := Lib.hid (HB2.out.trans hb3)
  clear hw3 hb3
  go_wp2
  go_ret
  exact ⟨rfl, HW3.out, HB3.out⟩

set_option maxRecDepth 100000 in
set_option maxHeartbeats 1600000 in
theorem wnum4_ok (g n : Nat) (L Z : List Nat) (hZ : L ++ (le8 n).take 4 = Z) (w : World) (hw : WrM w g L false) (hn : n ≤ 4294967295) (hl : L.length + 4 ≤ 140737488355328) :
    Calls Tryz.prog 14 #[.pointer (some ⟨g, 0, none⟩), .int .u64 n, .int .i64 4] w fun e w' => e = .returned (.pointer (some ⟨g, 0, none⟩)) ∧ WrM w' g Z false ∧ Below g w w' := by
  have HZ := Lib.hid hZ
  have HW := Lib.hid hw
  have HL := Lib.hid hl
  have HN := Lib.hid (show n ≤ 18446744073709551615 by omega)
  have hsh : (n : Int) / 4294967296 = 0 := by omega
  clear hZ hw hl hn
  go_enter Tryz.func14, Tryz.ntmps14
  go_wp2_with fail
  refine (whole_any 4 w (by omega)).mono ?_
  rintro e w1 ⟨rfl, rfl⟩
  dsimp only
  go_wp2_with fail
  refine (wnumber4_any n w1 HN.out).mono ?_
  rintro e w2 ⟨v2, rfl, hy2, hl2, hq2, hb2⟩
  dsimp only
  have HW2 := Lib.hid (HW.out.below hb2)
  have HY2 := Lib.hid hy2
  have HB2 := Lib.hid (hb2.mono (Nat.le_of_lt HW.out.lt))
  have HQ2 := Lib.hid (show ∀ ad n c, v2 = .slice (some ad) n c → ad.block ≠ g from fun ad n c e => by have := hq2 ad n c e; have := HW.out.lt; omega)
  have HLz := Lib.hid (show L.length + ((le8 n).take 4).length ≤ 140737488355328 by have := HL.out; simp [le8]; omega)
  clear hy2 hl2 hb2 hq2
  go_wp2_with fail
  refine (put_ok g L ((le8 n).take 4) Z HZ.out v2 w2 HW2.out HY2.out HQ2.out HLz.out).mono ?_
  rintro e w3 ⟨rfl, hw3, hb3⟩
  dsimp only
  have HW3 := Lib.hid hw3
  have HB3 := Lib.hid (HB2.out.trans hb3)
  clear hw3 hb3
  go_wp2
  go_ret
  exact ⟨rfl, HW3.out, HB3.out⟩

set_option maxRecDepth 100000 in
set_option maxHeartbeats 1600000 in
theorem wnum2_ok (g n : Nat) (L Z : List Nat) (hZ : L ++ (le8 n).take 2 = Z) (w : World) (hw : WrM w g L false) (hn : n ≤ 65535) (hl : L.length + 2 ≤ 140737488355328) :
    Calls Tryz.prog 14 #[.pointer (some ⟨g, 0, none⟩), .int .u64 n, .int .i64 2] w fun e w' => e = .returned (.pointer (some ⟨g, 0, none⟩)) ∧ WrM w' g Z false ∧ Below g w w' := by
  have HZ := Lib.hid hZ
  have HW := Lib.hid hw
  have HL := Lib.hid hl
  have HN := Lib.hid (show n ≤ 18446744073709551615 by omega)
  have hsh : (n : Int) / 65536 = 0 := by omega
  clear hZ hw hl hn
  go_enter Tryz.func14, Tryz.ntmps14
  go_wp2_with fail
  refine (whole_any 2 w (by omega)).mono ?_
  rintro e w1 ⟨rfl, rfl⟩
  dsimp only
  go_wp2_with fail
  refine (wnumber2_any n w1 HN.out).mono ?_
  rintro e w2 ⟨v2, rfl, hy2, hl2, hq2, hb2⟩
  dsimp only
  have HW2 := Lib.hid (HW.out.below hb2)
  have HY2 := Lib.hid hy2
  have HB2 := Lib.hid (hb2.mono (Nat.le_of_lt HW.out.lt))
  have HQ2 := Lib.hid (show ∀ ad n c, v2 = .slice (some ad) n c → ad.block ≠ g from fun ad n c e => by have := hq2 ad n c e; have := HW.out.lt; omega)
  have HLz := Lib.hid (show L.length + ((le8 n).take 2).length ≤ 140737488355328 by have := HL.out; simp [le8]; omega)
  clear hy2 hl2 hb2 hq2
  go_wp2_with fail
  refine (put_ok g L ((le8 n).take 2) Z HZ.out v2 w2 HW2.out HY2.out HQ2.out HLz.out).mono ?_
  rintro e w3 ⟨rfl, hw3, hb3⟩
  dsimp only
  have HW3 := Lib.hid hw3
  have HB3 := Lib.hid (HB2.out.trans hb3)
  clear hw3 hb3
  go_wp2
  go_ret
  exact ⟨rfl, HW3.out, HB3.out⟩
end Go.Proofs.YtndhmpeabfmfgaaGreatDoor
/- wire.Writer.Count. -/
namespace Go.Proofs.YtndhmpeabfmfgaaGreatDoor
open Go.RowKit Go.Lib
set_option linter.unusedVariables false
set_option linter.unusedSimpArgs false
attribute [local go_sem ↓] Go.wp_at_zero Go.wp_at_succ

set_option maxRecDepth 100000 in
set_option maxHeartbeats 1600000 in
theorem wcount_ok (g n : Nat) (L Z : List Nat) (hZ : L ++ (le8 n).take 2 = Z) (w : World) (hw : WrM w g L false) (hn : n ≤ 65535) (hl : L.length + 2 ≤ 140737488355328) :
    Calls Tryz.prog 15 #[.pointer (some ⟨g, 0, none⟩), .int .i64 (n : Int)] w fun e w' => e = .returned (.pointer (some ⟨g, 0, none⟩)) ∧ WrM w' g Z false ∧ Below g w w' := by
  have H := Lib.hid (wnum2_ok g n L Z hZ w hw hn hl)
  have h1 : ¬ ((n : Int) < 0) := by omega
  have h2 : ¬ ((n : Int) > 65535) := by omega
  have h3 : IntKind.u64.wrap (n : Int) = (n : Int) := by rw [IntKind.wrap_u64]; omega
  clear hZ hw hn hl
  go_enter Tryz.func15, Tryz.ntmps15
  go_wp2_with fail
  refine H.out.mono ?_
  rintro e w3 ⟨rfl, hw3, hb3⟩
  dsimp only
  have HW3 := Lib.hid hw3
  have HB3 := Lib.hid hb3
  clear hw3 hb3
  go_wp2
  go_ret
  exact ⟨rfl, HW3.out, HB3.out⟩
set_option maxRecDepth 100000 in
set_option maxHeartbeats 1600000 in
theorem wcount_bad (g : Nat) (n : Int) (L : List Nat) (bad : Bool) (w : World) (hw : WrM w g L bad) (hn : n < 0 ∨ 65535 < n) :
    Calls Tryz.prog 15 #[.pointer (some ⟨g, 0, none⟩), .int .i64 n] w fun e w' => e = .returned (.pointer (some ⟨g, 0, none⟩)) ∧ WrM w' g L true ∧ Below g w w' := by
  have H := Lib.hid (put_bad g L (.slice none 0 0) false bad w hw (by simp))
  clear hw
  go_enter Tryz.func15, Tryz.ntmps15
  by_cases h1 : n < 0
  · clear hn
    go_wp2_with fail
    refine H.out.mono ?_
    rintro e w3 ⟨rfl, hw3, hb3⟩
    dsimp only
    have HW3 := Lib.hid hw3
    have HB3 := Lib.hid hb3
    clear hw3 hb3
    go_wp2
    go_ret
    exact ⟨rfl, HW3.out, HB3.out⟩
  · have h2 : n > 65535 := by omega
    clear hn
    go_wp2_with fail
    refine H.out.mono ?_
    rintro e w3 ⟨rfl, hw3, hb3⟩
    dsimp only
    have HW3 := Lib.hid hw3
    have HB3 := Lib.hid hb3
    clear hw3 hb3
    go_wp2
    go_ret
    exact ⟨rfl, HW3.out, HB3.out⟩
end Go.Proofs.YtndhmpeabfmfgaaGreatDoor
