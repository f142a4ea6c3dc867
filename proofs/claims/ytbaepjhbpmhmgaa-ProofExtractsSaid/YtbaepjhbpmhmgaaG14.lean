/- Two hashes, compared. -/
import Derived.Test.YtbaepjhbpmhmgaaG13
import Derived.ChangeKeysEq
namespace Go.Proofs.Ytbaepjhbpmhmgaa
open Go.RowKit Go.Lib
set_option linter.unusedVariables false
set_option linter.unusedSimpArgs false

theorem run_eqItems_bys {P : Program} {e : TypeId} (w : World) (he : P.plainKey e = true) (hu : P.underlying e = some (.int .u8)) (d : Nat) (A B : List Nat) : ∀ is : List Nat, (∀ i ∈ is, i < A.length ∧ i < B.length) →
    (Op.eqItems (d + 1) e 1 (bys A).toArray (bys B).toArray is).run P w = .ok (is.all fun i => A.getD i 0 == B.getD i 0) w
  | [], _ => by simp [Op.eqItems]
  | i :: is, h => by
    have h1 := h i (List.mem_cons_self ..)
    have ha : (bys A).toArray[i * 1]? = some (.int .u8 (A.getD i 0 : Nat)) := by rw [Nat.mul_one, List.getElem?_toArray]; exact bys_get A i h1.1
    have hb : (bys B).toArray[i * 1]? = some (.int .u8 (B.getD i 0 : Nat)) := by rw [Nat.mul_one, List.getElem?_toArray]; exact bys_get B i h1.2
    simp only [Op.eqItems, Sem.run_bind, run_part_plain w he ha, run_part_plain w he hb, Result.andThen_ok, run_equalIn_int w d e .u8 .u8 _ _ hu]
    have ih := run_eqItems_bys w he hu d A B is (fun j hj => h j (List.mem_cons_of_mem _ hj))
    by_cases hc : A.getD i 0 = B.getD i 0
    · rw [List.all_cons, hc]
      simpa using ih
    · have hc2 : (((A.getD i 0 : Nat) : Int) == ((B.getD i 0 : Nat) : Int)) = false := by
        rw [beq_eq_false_iff_ne]; omega
      rw [List.all_cons, hc2, show (A.getD i 0 == B.getD i 0) = false from by rw [beq_eq_false_iff_ne]; exact hc]
      simp
theorem all_eq (A B : List Nat) (h : A.length = B.length) : ((List.range A.length).all fun i => A.getD i 0 == B.getD i 0) = decide (A = B) := by
  rw [Bool.eq_iff_iff, List.all_eq_true, decide_eq_true_iff]
  constructor
  · intro hh
    refine List.ext_getElem h fun i h1 h2 => ?_
    have := hh i (List.mem_range.2 h1)
    simpa [List.getD, List.getElem?_eq_getElem h1, List.getElem?_eq_getElem h2] using this
  · rintro rfl i _
    simp
theorem cells_u8 : Try.prog.cellsOf 5 = 1 := by kernel_rfl
theorem plain_u8 : Try.prog.plainKey 5 = true := by kernel_rfl
theorem neq_hash (w : World) (A B : List Nat) (hA : IsH A) (hB : IsH B) : (binOp .neq 24 (.agg (bys A).toArray) (.agg (bys B).toArray)).run Try.prog w = .ok (.bool (!decide (A = B))) w := by
  obtain ⟨i, hi⟩ : ∃ i, Try.prog.info? 5 = some i := Option.isSome_iff_exists.1 (by kernel_rfl)
  rw [run_neq_struct, show (10000 : Nat) = 9998 + 1 + 1 from rfl, run_equalIn_array w (9998 + 1) _ _ Try.underlying24 hi, cells_u8, run_eqItems_bys w plain_u8 Try.underlying5 9998 A B _ (fun i hi => ⟨by rw [hA.1]; exact List.mem_range.1 hi, by rw [hB.1]; exact List.mem_range.1 hi⟩)]
  have := all_eq A B (by rw [hA.1, hB.1])
  rw [hA.1] at this
  rw [this]
  rfl
theorem equal_hash (w : World) (A B : List Nat) (hA : IsH A) (hB : IsH B) : (Op.equalIn 10000 24 (.agg (bys A).toArray) (.agg (bys B).toArray)).run Try.prog w = .ok (decide (A = B)) w := by
  obtain ⟨i, hi⟩ : ∃ i, Try.prog.info? 5 = some i := Option.isSome_iff_exists.1 (by kernel_rfl)
  rw [show (10000 : Nat) = 9998 + 1 + 1 from rfl, run_equalIn_array w (9998 + 1) _ _ Try.underlying24 hi, cells_u8, run_eqItems_bys w plain_u8 Try.underlying5 9998 A B _ (fun i hi => ⟨by rw [hA.1]; exact List.mem_range.1 hi, by rw [hB.1]; exact List.mem_range.1 hi⟩)]
  have := all_eq A B (by rw [hA.1, hB.1])
  rw [hA.1] at this
  rw [this]
end Go.Proofs.Ytbaepjhbpmhmgaa
/- merkle.Check. -/
namespace Go.Proofs.Ytbaepjhbpmhmgaa
open Go.RowKit Go.Lib
set_option linter.unusedVariables false
set_option linter.unusedSimpArgs false
attribute [local go_sem ↓] Go.wp_at_zero Go.wp_at_succ

theorem size_path : (Try.prog.info? 29).map (·.size) = some 3 := by kernel_rfl

set_option maxRecDepth 100000 in
set_option maxHeartbeats 1600000 in
theorem check_of (T I : List Nat) (hT : IsH T) (hI : IsH I) (n c : Int) (v : Value) (Hs : List (List Nat)) (w : World) (hv : HsIs w v Hs) (Lh : List Nat) (hLh : IsH Lh) (er : Int) (he : er = 0 ∨ er = 21)
    (hL : ∀ w, HsIs w v Hs → Calls Try.prog 49 #[.agg (bys I).toArray, .agg #[.int .i64 n, .int .i64 c, v]] w fun e w' => e = .returned (.tuple #[.agg (bys Lh).toArray, .int .i64 er]) ∧ Below w.heap.size w w') :
    Calls Try.prog 28 #[.agg (bys T).toArray, .agg (bys I).toArray, .agg #[.int .i64 n, .int .i64 c, v]] w fun e w' => e = .returned (.int .i64 (if er = 0 ∧ Lh = T then 0 else 21)) ∧ Below w.heap.size w w' := by
  have hz := zero32
  have HV := Lib.hid hv
  have HI := Lib.hid hI
  have HT := Lib.hid hT
  have HLh := Lib.hid hLh
  have HL := Lib.hid hL
  have HE := Lib.hid he
  clear hv hI hT hLh hL he
  go_enter Try.func28, Try.ntmps28
  go_upto_region 1 with fail
  have hpk := three_laid w (bys T) (bys I) [.int .i64 n, .int .i64 c, v] 24 24 29 _ rfl
  have HA1 := Lib.hid hpk.1
  have HA2 := Lib.hid hpk.2.1
  have HA3 := Lib.hid hpk.2.2.1
  have HB1 := Lib.hid hpk.2.2.2
  have HVb := Lib.hid (HV.out.below hpk.2.2.2)
  clear hpk
  generalize World.alloc (World.alloc (World.alloc _ _) _) _ = w1 at *
  have HSi := Lib.hid (size_hash I HI.out.1)
  go_step
  refine wpList_load_mid (P := Try.prog) rfl 24 _ rfl (w.heap.size + 1) 0 rfl _ _ HA2.out.range Try.underlying24 rfl HSi.out ?_
  refine wpList_load_mid (P := Try.prog) rfl 29 _ rfl (w.heap.size + 1 + 1) 0 rfl _ _ HA3.out.range Try.underlying29 rfl size_path ?_
  go_wp2_with fail
  refine (HL.out w1 HVb.out).mono ?_
  rintro e w2 ⟨rfl, hb2⟩
  dsimp only
  have HA12 := Lib.hid (HA1.out.below hb2 HA1.out.lt)
  have HB2 := Lib.hid (HB1.out.trans (hb2.mono HB1.out.size))
  clear HA1 HA2 HA3 HB1 HVb HL hb2
  have hm := Arr.made w2 24 (List.replicate 32 (.int .u8 0))
  have HPk := Lib.hid (And.intro (hm.there (bys Lh).toArray.size (by simp [bys_len, HLh.out.1])) (And.intro (hm.setAll (bys Lh) (by simp [bys_len, HLh.out.1])) (below_sets w2.heap.size (Nat.le_refl _) (bys Lh) 0 ((Below.refl w2.heap.size w2).alloc (Nat.le_refl _) (.cells (List.replicate 32 (.int .u8 0)).toArray 24)))))
  clear hm
  have HSl := Lib.hid (show (Try.prog.info? 24).map (·.size) = some (bys Lh).toArray.size by rw [List.size_toArray]; exact size_hash Lh HLh.out.1)
  have O1 := Lib.hid (all_oneCell_toArray (bys_one Lh))
  iterate 13 (first | go_values | go_skip | go_guarded | go_step | go_upon)
  refine wpList_store_mid (P := Try.prog) rfl 24 _ _ rfl w2.heap.size 0 (bys Lh).toArray rfl rfl HPk.out.1 HSl.out O1.out ?_
  have hpk := HPk.out.2
  simp only [List.reduceReplicate] at hpk
  clear HPk hz
  rw [show (bys Lh).toArray.toList = bys Lh from rfl]
  have HB5 := Lib.hid (HB2.out.trans (hpk.2.mono HB2.out.size))
  have HT5 := Lib.hid (HA12.out.below hpk.2 HA12.out.lt)
  have HL5 := Lib.hid hpk.1
  clear hpk
  generalize World.setCells _ _ _ _ = w5 at *
  generalize w2.heap.size = g8 at *
  rcases HE.out with rfl | rfl
  · go_upto_region 2 with fail
    have HSt := Lib.hid (size_hash T HT.out.1)
    have HSl2 := Lib.hid (size_hash Lh HLh.out.1)
    go_step
    iterate 9 (first | go_values | go_skip | go_guarded | go_step | go_upon)
    go_guarded
    refine wp_load_mid (P := Try.prog) 24 _ rfl g8 0 rfl _ _ HL5.out.range Try.underlying24 rfl HSl2.out ?_
    iterate 1 (first | go_values | go_skip | go_guarded | go_step | go_upon)
    dsimp only [Act.put]
    simp only [List.setIfInBounds_toArray, List.set_cons_zero, List.set_cons_succ]
    go_guarded
    refine wp_load_mid (P := Try.prog) 24 _ rfl w.heap.size 0 rfl _ _ HT5.out.range Try.underlying24 rfl HSt.out ?_
    iterate 1 (first | go_values | go_skip | go_guarded | go_step | go_upon)
    dsimp only [Act.put]
    simp only [List.setIfInBounds_toArray, List.set_cons_zero, List.set_cons_succ]
    go_guarded
    by_cases heq : Lh = T
    · subst heq
      have hne := equal_hash w5 Lh Lh HLh.out HLh.out
      rw [show decide (Lh = Lh) = true from decide_eq_true rfl] at hne
      go_simp
      clear hne
      go_wp2
      refine bodyPost_ret (results_tmp rfl _ _ _) rfl ?_
      exact ⟨rfl, HB5.out⟩
    · have hne := equal_hash w5 Lh T HLh.out HT.out
      rw [show decide (Lh = T) = false from decide_eq_false heq] at hne
      go_simp
      clear hne
      go_wp2
      refine bodyPost_ret (results_tmp rfl _ _ _) rfl ?_
      exact ⟨rfl, HB5.out⟩
  · go_wp2
    refine bodyPost_ret (results_tmp rfl _ _ _) rfl ?_
    exact ⟨rfl, HB5.out⟩

/-- Whether a path checks. -/
def pathOk (T I : List Nat) (n c : Int) (Hs : List (List Nat)) : Prop :=
  ∃ n' c' : Nat, n = (n' : Int) ∧ c = (c' : Int) ∧ n' < c' ∧ c' ≤ 1048576 ∧ Hs.length = sizeUp n' c' ∧ topF c' (upF I n' c' Hs) = T
open Classical in
theorem check_any (T I : List Nat) (hT : IsH T) (hI : IsH I) (n c : Int) (v : Value) (Hs : List (List Nat)) (w : World) (hv : HsIs w v Hs) :
    Calls Try.prog 28 #[.agg (bys T).toArray, .agg (bys I).toArray, .agg #[.int .i64 n, .int .i64 c, v]] w fun e w' => e = .returned (.int .i64 (if pathOk T I n c Hs then 0 else 21)) ∧ Below w.heap.size w w' := by
  have hzH : IsH zeroH := ⟨rfl, fun x hx => by rw [List.eq_of_mem_replicate hx]; omega⟩
  by_cases hb : n < 0 ∨ c ≤ n ∨ 1048576 < c
  · rw [if_neg (by rintro ⟨n', c', rfl, rfl, h1, h2, _⟩; omega)]
    exact check_of T I hT hI n c v Hs w hv zeroH hzH 21 (.inr rfl) (fun w hw => lead_bad I n c v Hs w hb hw)
  · obtain ⟨n', rfl⟩ := Int.eq_ofNat_of_zero_le (show 0 ≤ n by omega)
    obtain ⟨c', rfl⟩ := Int.eq_ofNat_of_zero_le (show 0 ≤ c by omega)
    by_cases hs : Hs.length = sizeUp n' c'
    · have := check_of T I hT hI n' c' v Hs w hv (topF c' (upF I n' c' Hs)) (tagF_h _ _) 0 (.inl rfl) (fun w hw => lead_ok I hI n' c' v Hs w (by omega) (by omega) hs hw)
      have e : (if (0 : Int) = 0 ∧ topF c' (upF I n' c' Hs) = T then (0 : Int) else 21) = (if pathOk T I n' c' Hs then 0 else 21) := by
        by_cases ht : topF c' (upF I n' c' Hs) = T
        · rw [if_pos ⟨rfl, ht⟩, if_pos ⟨n', c', rfl, rfl, by omega, by omega, hs, ht⟩]
        · rw [if_neg (fun h => ht h.2), if_neg]
          rintro ⟨n2, c2, e1, e2, _, _, _, h9⟩
          obtain rfl : n' = n2 := by omega
          obtain rfl : c' = c2 := by omega
          exact ht h9
      rw [← e]; exact this
    · rw [if_neg]
      · exact check_of T I hT hI n' c' v Hs w hv zeroH hzH 21 (.inr rfl) (fun w hw => lead_size I n' c' v Hs w ⟨by omega, by omega, hs⟩ hw)
      · rintro ⟨n2, c2, e1, e2, _, _, h9, _⟩
        obtain rfl : n' = n2 := by omega
        obtain rfl : c' = c2 := by omega
        exact hs h9
end Go.Proofs.Ytbaepjhbpmhmgaa
/- merkle.text. -/
namespace Go.Proofs.Ytbaepjhbpmhmgaa
open Go.RowKit Go.Lib
set_option linter.unusedVariables false
set_option linter.unusedSimpArgs false
attribute [local go_sem ↓] Go.wp_at_zero Go.wp_at_succ

/-- A slice whose object is none of the first ones. -/
def High (B : Nat) (v : Value) : Prop := ∀ a n k, v = .slice (some a) n k → B ≤ a.block
theorem High.mono {B B' : Nat} {v : Value} (h : High B v) (hb : B' ≤ B) : High B' v := fun a n k e => Nat.le_trans hb (h a n k e)

set_option maxRecDepth 100000 in
set_option maxHeartbeats 1600000 in
theorem text_any (s : ByteArray) (v : Value) (Ps : List (List Nat)) (w : World) (hs : s.size ≤ 255) (hl : Ps.flatten.length ≤ 999999999000) (hv : PartsIs w v Ps) :
    Calls Try.prog 68 #[.string s, v] w fun e w' => ∃ v', e = .returned v' ∧ Byts w' v' (textF (nmB s) Ps.flatten) ∧ Low w' v' ∧ High w.heap.size v' ∧ Below w.heap.size w w' := by
  obtain ⟨a0, c0, rfl⟩ : ∃ a0 c0, v = .slice a0 Ps.length c0 := by
    rcases hv with ⟨rfl, rfl⟩ | ⟨ad, c, rfl, _⟩
    · exact ⟨_, _, rfl⟩
    · exact ⟨_, _, rfl⟩
  have hsz : (s.size : Int) ≤ 255 := by omega
  have hwr : IntKind.u8.wrap (s.size : Int) = (s.size : Int) := by rw [IntKind.wrap_u8]; omega
  have HV := Lib.hid hv
  have HLn := Lib.hid hl
  have HS := Lib.hid hs
  have HPl := Lib.hid (show Ps.length ≤ maxLen by
    rcases hv with ⟨_, h⟩ | ⟨ad, c, _, h1, h2, _⟩
    · rw [h]; unfold maxLen; simp
    · exact Nat.le_trans h1 h2)
  have H256 := Lib.hid (show ∀ j, j < Ps.length → ∀ x ∈ Ps.getD j [], x < 256 by
    intro j hj
    rcases hv with ⟨_, h⟩ | ⟨ad, c, _, _, _, h3⟩
    · rw [h] at hj; simp at hj
    · obtain ⟨u, _, hy, _⟩ := h3 j hj
      exact hy.1)
  clear hv hl hs
  go_enter Try.func68, Try.ntmps68
  have HO := Lib.hid (own_lit w 5 s.size)
  have HL := Lib.hid (show [s.size].length + s.size ≤ 140737488355328 by have := HS.out; simp; omega)
  have Hbs := Lib.hid (show w.heap.size ≤ (w.alloc (.cells #[.int .u8 (s.size : Nat)] 5)).heap.size by simp)
  obtain ⟨X1, hX1⟩ : ∃ X1, [s.size] ++ nmB s = X1 := ⟨_, rfl⟩
  have HX1 := Lib.hid hX1
  clear hX1
  go_wp2_with (at_builtin; refine appS w.heap.size rfl (.tmp 11) (.tmp 12) 34 9 5 rfl Try.underlying34 Try.underlying9 infoB _ [s.size] X1 s HX1.out rfl rfl HO.out Hbs.out HL.out ?_)
  intro v2 w2 ho2 hb2 hg2
  have hb12 : Below w.heap.size w w2 := hb2.out w.heap.size w ((Below.refl _ _).alloc (Nat.le_refl _) _) (Nat.le_refl _)
  have HB2 := Lib.hid hb12
  have HO2 := Lib.hid ho2.out
  clear hb12 ho2 hb2 hg2 HO HL Hbs hsz hwr
  go_wp2
  go_loopg [5, 7, 16] Ps.length (fun g v5 v7 vn wq => ∃ k : Nat, Hid (g + k = Ps.length) ∧ vn = .int .i64 (k : Int) ∧ Hid (wq.ownsRow w.heap.size 5 1 v5 (X1 ++ (Ps.take k).flatten).length (bys (X1 ++ (Ps.take k).flatten))) ∧ Hid (Below w.heap.size w wq))
  case atStart => exact ⟨0, rfl, rfl, by show World.ownsRow _ _ _ _ _ _ _; simpa using HO2.out, HB2.out⟩
  case round =>
    obtain ⟨k, hk, rfl, ho, hbq⟩ := hrel
    have HKk := Lib.hid hk.out
    have HO := Lib.hid ho.out
    have HB := Lib.hid hbq.out
    have hpl := HPl.out
    unfold maxLen at hpl
    clear hk ho hbq HO2 HB2
    have hx1 : X1.length = s.size + 1 := by rw [← HX1.out, List.length_append, nmB_len]; simp; omega
    cases gk with
    | zero =>
      have hlt : ¬ ((k : Int) < (Ps.length : Int)) := by have := HKk.out; omega
      have ho := HO.out
      rw [List.take_of_length_le (by have := HKk.out; omega)] at ho
      have h256 : ∀ x ∈ X1 ++ Ps.flatten, x < 256 := by
        intro x hx
        rcases List.mem_append.1 hx with h | h
        · rw [← HX1.out] at h
          rcases List.mem_append.1 h with h | h
          · simp at h; have := HS.out; omega
          · exact nmB_lt s x h
        · obtain ⟨P, hP, hx⟩ := List.mem_flatten.1 h
          obtain ⟨j, hj⟩ := List.mem_iff_getElem?.1 hP
          have hjl := (List.getElem?_eq_some_iff.1 hj).1
          exact H256.out j hjl x (by rw [show Ps.getD j [] = P by simp only [List.getD, hj, Option.getD_some]]; exact hx)
      have hby := own_byts ho h256
      rw [show X1 ++ Ps.flatten = textF (nmB s) Ps.flatten by rw [← HX1.out]; unfold textF; rw [nmB_len]; rfl] at hby
      have HBy := Lib.hid hby
      have HLw := Lib.hid (show Low wr u5 from fun a n k e => (ho.lt a.block (by rw [e]; rfl)).2)
      have HHi := Lib.hid (show High w.heap.size u5 from fun a n k e => (ho.lt a.block (by rw [e]; rfl)).1)
      clear hx1 ho h256 hby
      go_wp2
      go_ret
      exact ⟨_, rfl, HBy.out, HLw.out, HHi.out, HB.out⟩
    | succ g =>
      have hkl : k < Ps.length := by have := HKk.out; omega
      have hlt : ((k : Int) < (Ps.length : Int)) := by omega
      rcases HV.out with ⟨_, h0⟩ | ⟨ad, c, e1, q1, q2, q3⟩
      · rw [h0] at hkl; simp at hkl
      cases e1
      obtain ⟨u, hu, hy, hub⟩ := q3 k hkl
      have hcu := cellb HB.out hu
      have HY := Lib.hid (hy.below HB.out)
      have hfl : (Ps.take (k + 1)).flatten = (Ps.take k).flatten ++ Ps.getD k [] := by
        rw [List.take_succ_eq_append_getElem hkl, List.flatten_append]; simp [hkl]
      have hln : (Ps.take k).flatten.length + (Ps.getD k []).length ≤ Ps.flatten.length := by
        rw [← List.length_append, ← hfl]
        have : Ps.flatten.length = (Ps.take (k + 1)).flatten.length + (Ps.drop (k + 1)).flatten.length := by
          rw [← List.length_append, ← List.flatten_append, List.take_append_drop]
        omega
      obtain ⟨X, hX⟩ : ∃ X, X1 ++ (Ps.take k).flatten = X := ⟨_, rfl⟩
      obtain ⟨Z, hZ⟩ : ∃ Z, X1 ++ (Ps.take (k + 1)).flatten = Z := ⟨_, rfl⟩
      obtain ⟨L, hL⟩ : ∃ L, Ps.getD k [] = L := ⟨_, rfl⟩
      have HXZ := Lib.hid (show X ++ L = Z by rw [← hX, ← hZ, hfl, hL, List.append_assoc])
      have HLe := Lib.hid (show X.length + L.length ≤ 140737488355328 by
        rw [← hX, ← hL, List.length_append]; have := HLn.out; have := HS.out; omega)
      have HOx := Lib.hid (show wr.ownsRow w.heap.size 5 1 u5 X.length (bys X) by rw [← hX]; exact HO.out)
      have HYl := Lib.hid (show Byts wr u L by rw [← hL]; exact HY.out)
      have HZ := Lib.hid hZ
      clear hu hy hub hfl hln q1 q2 q3 hx1 hX hZ hL HO HY
      go_wp2_with (at_builtin; refine appB w.heap.size rfl (.tmp 20) (.tmp 21) 34 5 rfl Try.underlying34 infoB u5 u X L Z HXZ.out rfl rfl HOx.out HYl.out HB.out.size HLe.out ?_)
      intro v4 w4 ho4 hb4 hg4
      have HO4 := Lib.hid (show w4.ownsRow w.heap.size 5 1 v4 (X1 ++ (Ps.take (k + 1)).flatten).length (bys (X1 ++ (Ps.take (k + 1)).flatten)) by rw [HZ.out]; exact ho4.out)
      have HB4 := Lib.hid (hb4.out w.heap.size w HB.out (Nat.le_refl _))
      clear ho4 hb4 hg4 hcu
      go_wp2
      go_roundg g
      case measure => omega
      case rel =>
        exact ⟨k + 1, by show _ = _; have := HKk.out; omega, congrArg (Value.int .i64) (by omega), HO4.out, HB4.out⟩
end Go.Proofs.Ytbaepjhbpmhmgaa
/- plexusref03.half, Size. -/
namespace Go.Proofs.Ytbaepjhbpmhmgaa
open Go.RowKit Go.Lib
set_option linter.unusedVariables false
set_option linter.unusedSimpArgs false
attribute [local go_sem ↓] Go.wp_at_zero Go.wp_at_succ

set_option maxRecDepth 100000 in
set_option maxHeartbeats 1600000 in
theorem half_any (n : Nat) (w : World) (hn : n ≤ 1048576) :
    Calls Try.prog 27 #[.int .i64 (n : Int)] w fun e w' => e = .returned (.int .i64 (half n : Nat)) ∧ w' = w := by
  go_enter Try.func27, Try.ntmps27
  go_wp2
  go_loopg [3] (n + 1) (fun g v3 wq => ∃ j k : Nat, v3 = .int .i64 (k : Int) ∧ Hid (k = 2 ^ j ∧ (k < n ∨ k = 1) ∧ g + k = n + 2) ∧ wq = w)
  case atStart => exact ⟨0, 1, rfl, ⟨rfl, .inr rfl, by omega⟩, rfl⟩
  case round =>
    obtain ⟨j, k, rfl, hr, rfl⟩ := hrel
    have HR := Lib.hid hr.out
    clear hr
    have hk : k ≤ 1048577 := by have := HR.out.2.1; omega
    have hw : IntKind.i64.wrap (2 * (k : Int)) = ((2 * k : Nat) : Int) := by rw [IntKind.wrap_i64]; omega
    by_cases hc : 2 * k < n
    · have hlt : 2 * (k : Int) < (n : Int) := by omega
      go_wp2
      go_roundg (n + 2 - 2 * k)
      case measure => have h := HR.out; have : 1 ≤ 2 ^ j := Nat.one_le_two_pow; omega
      case rel =>
        have h := HR.out
        exact ⟨j + 1, 2 * k, congrArg (Value.int .i64) (by omega), ⟨by rw [h.1, Nat.pow_succ]; omega, .inl hc, by omega⟩, rfl⟩
    · have hlt : ¬ 2 * (k : Int) < (n : Int) := by omega
      have he : half n = k := by
        have h := HR.out
        rcases h.2.1 with h1 | h1
        · rw [h.1] at h1 hc ⊢
          exact half_pow j n h1 (by omega)
        · subst h1; exact half_two n (by omega)
      have HE := Lib.hid he
      clear he
      go_wp2
      go_ret
      exact ⟨by rw [HE.out]; rfl, rfl⟩

theorem sizeDown_le (c : Nat) : ∀ n, n < c → sizeDown n c ≤ c := fun n h => by
  rw [← size_same c n h]; exact sizeUp_le c n
set_option maxRecDepth 100000 in
set_option maxHeartbeats 1600000 in
theorem rsize_any (c : Nat) : ∀ (n : Nat) (w : World), n < c → c ≤ 1048576 →
    Calls Try.prog 61 #[.int .i64 (n : Int), .int .i64 (c : Int)] w fun e w' => e = .returned (.int .i64 (sizeDown n c : Nat)) ∧ w' = w := by
  induction c using Nat.strongRecOn with
  | _ c ih =>
    intro n w hn hc
    have IH := Lib.hid ih
    have HN := Lib.hid (And.intro hn hc)
    have hle := sizeDown_le c n hn
    clear ih
    go_enter Try.func61, Try.ntmps61
    by_cases h1 : c ≤ 1
    · have hlt : (c : Int) ≤ 1 := by omega
      have he := show sizeDown n c = 0 by rw [sizeDown, if_pos h1]
      rw [he]
      go_wp2
      go_ret
      exact ⟨rfl, rfl⟩
    · have hlt : ¬ (c : Int) ≤ 1 := by omega
      have hbd := half_bounds c (by omega)
      have he := show sizeDown n c = (if n < half c then 1 + sizeDown n (half c) else 1 + sizeDown (n - half c) (c - half c)) by rw [sizeDown, if_neg h1]
      go_wp2_with fail
      refine (half_any c w HN.out.2).mono ?_
      rintro e w2 ⟨rfl, rfl⟩
      dsimp only
      obtain ⟨k, hk⟩ : ∃ k, half c = k := ⟨_, rfl⟩
      rw [hk] at hbd he ⊢
      by_cases h2 : n < k
      · have hlt2 : (n : Int) < (k : Int) := by omega
        rw [if_pos h2] at he
        have hle2 := sizeDown_le k n h2
        have HE := Lib.hid he
        clear he
        go_wp2_with fail
        refine (IH.out k (by omega) n _ h2 (by omega)).mono ?_
        rintro e w3 ⟨rfl, rfl⟩
        dsimp only
        have hw : IntKind.i64.wrap (1 + ((sizeDown n k : Nat) : Int)) = ((sizeDown n c : Nat) : Int) := by rw [IntKind.wrap_i64, HE.out]; omega
        go_wp2
        go_ret
        exact ⟨by rw [HE.out]; exact congrArg (fun x => Ending.returned (Value.int .i64 x)) (by omega), rfl⟩
      · have hlt2 : ¬ (n : Int) < (k : Int) := by omega
        rw [if_neg h2] at he
        have hle2 := sizeDown_le (c - k) (n - k) (by omega)
        have hw1 : IntKind.i64.wrap ((n : Int) - (k : Int)) = ((n - k : Nat) : Int) := by rw [IntKind.wrap_i64]; omega
        have hw2 : IntKind.i64.wrap ((c : Int) - (k : Int)) = ((c - k : Nat) : Int) := by rw [IntKind.wrap_i64]; omega
        have HE := Lib.hid he
        clear he
        have e1 : (n : Int) - (k : Int) = ((n - k : Nat) : Int) := by omega
        have e2 : (c : Int) - (k : Int) = ((c - k : Nat) : Int) := by omega
        have HE1 := Lib.hid e1
        have HE2 := Lib.hid e2
        clear e1 e2 hw1 hw2
        go_wp2_with fail
        rw [HE1.out, HE2.out]
        refine (IH.out (c - k) (by omega) (n - k) _ (by omega) (by omega)).mono ?_
        rintro e w3 ⟨rfl, rfl⟩
        dsimp only
        go_wp2
        go_ret
        exact ⟨by rw [HE.out]; exact congrArg (fun x => Ending.returned (Value.int .i64 x)) (by omega), rfl⟩

theorem path_below {w w1 : World} {g : Nat} {t : TypeId} {vs : List Value} (h : Arr w1 g t vs) (nq : Nat) : Arr (w1.drewN nq) g t vs := h
set_option maxRecDepth 100000 in
set_option maxHeartbeats 3200000 in
theorem may_ok (n c : Nat) (v : Value) (Hs : List (List Nat)) (w : World) (hn : n < c) (hc : c ≤ 1048576) (hv : HsIs w v Hs) :
    Calls Try.prog 41 #[.agg #[.int .i64 (n : Int), .int .i64 (c : Int), v]] w fun e w' => e = .returned (.bool (decide (Hs.length = sizeDown n c))) ∧ Below w.heap.size w w' := by
  obtain ⟨a0, c0, rfl⟩ := hv.form
  have T := Lib.hid (fun w => rsize_any c n w hn hc)
  have g1 : (n : Int) ≥ 0 := by omega
  have g2 : (n : Int) < (c : Int) := by omega
  have g3 : (c : Int) ≤ 1048576 := by omega
  clear hv hn hc
  go_enter Try.func41, Try.ntmps41
  have hm := Arr.made w 29 [.int .i64 (n : Int), .int .i64 (c : Int), .slice a0 Hs.length c0]
  have HB := Lib.hid ((Below.refl w.heap.size w).alloc (Nat.le_refl _) (.cells [.int .i64 (n : Int), .int .i64 (c : Int), .slice a0 Hs.length c0].toArray 29))
  go_upto_region 1 with fail
  have hc0 := hm.cell 0
  have hc1 := hm.cell 1
  have hc2 := hm.cell 2
  dsimp only [List.getElem?_cons_zero, List.getElem?_cons_succ] at hc0 hc1 hc2
  generalize World.alloc _ _ = w1 at *
  clear hm
  by_cases hs : Hs.length = sizeDown n c
  · have h4 : (Hs.length : Int) = ((sizeDown n c : Nat) : Int) := by omega
    go_quiet ((go_at_call 61; exact (T.out _).mono fun _ _ h => ⟨h.1, _, h.2⟩))
    go_wp2
    go_ret
    exact ⟨by rw [decide_eq_true hs]; rfl, below_drewN HB.out _⟩
  · have h4 : ¬ (Hs.length : Int) = ((sizeDown n c : Nat) : Int) := by omega
    go_quiet ((go_at_call 61; exact (T.out _).mono fun _ _ h => ⟨h.1, _, h.2⟩))
    go_wp2
    go_ret
    exact ⟨by rw [decide_eq_false hs]; exact congrArg (fun x => Ending.returned (Value.bool x)) (by rw [beq_eq_false_iff_ne]; exact h4), below_drewN HB.out _⟩

set_option maxRecDepth 100000 in
set_option maxHeartbeats 3200000 in
theorem may_bad (n c : Int) (v : Value) (Hs : List (List Nat)) (w : World) (hb : n < 0 ∨ c ≤ n ∨ 1048576 < c) (hv : HsIs w v Hs) :
    Calls Try.prog 41 #[.agg #[.int .i64 n, .int .i64 c, v]] w fun e w' => e = .returned (.bool false) ∧ Below w.heap.size w w' := by
  obtain ⟨a0, c0, rfl⟩ := hv.form
  have HBd := Lib.hid hb
  clear hv hb
  go_enter Try.func41, Try.ntmps41
  have hm := Arr.made w 29 [.int .i64 n, .int .i64 c, .slice a0 Hs.length c0]
  have HB := Lib.hid ((Below.refl w.heap.size w).alloc (Nat.le_refl _) (.cells [.int .i64 n, .int .i64 c, .slice a0 Hs.length c0].toArray 29))
  go_upto_region 1 with fail
  have hc0 := hm.cell 0
  have hc1 := hm.cell 1
  have hc2 := hm.cell 2
  dsimp only [List.getElem?_cons_zero, List.getElem?_cons_succ] at hc0 hc1 hc2
  generalize World.alloc _ _ = w1 at *
  clear hm
  by_cases h1 : n < 0
  · have g1 : ¬ (n ≥ 0) := by omega
    go_quiet (fail)
    go_wp2
    go_ret
    exact ⟨rfl, below_drewN HB.out _⟩
  by_cases h2 : c ≤ n
  · have g1 : n ≥ 0 := by omega
    have g2 : ¬ (n < c) := by omega
    go_quiet (fail)
    go_wp2
    go_ret
    exact ⟨rfl, below_drewN HB.out _⟩
  · have g1 : n ≥ 0 := by omega
    have g2 : n < c := by omega
    have g3 : ¬ (c ≤ 1048576) := by have := HBd.out; omega
    go_quiet (fail)
    go_wp2
    go_ret
    exact ⟨rfl, below_drewN HB.out _⟩
end Go.Proofs.Ytbaepjhbpmhmgaa
/- wire.Writer.put. -/
namespace Go.Proofs.Ytbaepjhbpmhmgaa
open Go.RowKit Go.Lib
set_option linter.unusedVariables false
set_option linter.unusedSimpArgs false
attribute [local go_sem ↓] Go.wp_at_zero Go.wp_at_succ

/-- A writer at block g: what it has written, and whether it is bad. -/
def WrM (w : World) (g : Nat) (L : List Nat) (bad : Bool) : Prop :=
  ∃ v, Arr w g 66 [v, .bool bad] ∧ w.ownsRow (g + 1) 5 1 v L.length (bys L)
set_option maxRecDepth 100000 in
set_option maxHeartbeats 1600000 in
theorem put_ok (g : Nat) (L M Z : List Nat) (hZ : L ++ M = Z) (u : Value) (w : World) (hw : WrM w g L false) (hy : Byts w u M) (hne : ∀ ad n c, u = .slice (some ad) n c → ad.block ≠ g) (hl : L.length + M.length ≤ 140737488355328) :
    Calls Try.prog 50 #[.pointer (some ⟨g, 0, none⟩), u, .bool true] w fun e w' => e = .returned (.pointer (some ⟨g, 0, none⟩)) ∧ WrM w' g Z false ∧ Below g w w' := by
  obtain ⟨v, ha, ho⟩ := hw
  have HZ := Lib.hid hZ
  have HA := Lib.hid ha
  have HO := Lib.hid ho
  have HY := Lib.hid hy
  have HL := Lib.hid hl
  have HG := Lib.hid (show g + 1 ≤ w.heap.size from ha.lt)
  clear hZ ho hy hl
  have hc0 := ha.cell 0
  have hc1 := ha.cell 1
  dsimp only [List.getElem?_cons_zero, List.getElem?_cons_succ] at hc0 hc1
  have hf1 := ha.frozen 1
  clear ha
  go_enter Try.func50, Try.ntmps50
  go_upto_region 5 with fail
  have HA2 := Lib.hid (show Arr (w.setCell ⟨g, 1, none⟩ (.bool false)) g 66 [v, .bool false] from HA.out.set 1 _)
  have HO2 := Lib.hid (ownsRow_setCell_below HO.out (a := ⟨g, 1, none⟩) (Nat.lt_succ_self g) (.bool false))
  have HY2 := Lib.hid (HY.out.setCell hne 1 (.bool false))
  have HB2 := Lib.hid (show Below g w (w.setCell ⟨g, 1, none⟩ (.bool false)) from (Below.refl g w).setCell (Nat.le_refl _) _)
  generalize World.setCell _ _ _ = w2 at *
  have hb0 := HA2.out.cell 0
  have hb1 := HA2.out.cell 1
  dsimp only [List.getElem?_cons_zero, List.getElem?_cons_succ] at hb0 hb1
  have HG2 := Lib.hid (show g + 1 ≤ w2.heap.size from HA2.out.lt)
  clear hc0 hc1 hf1 hne HA HO HY HG
  go_wp2_with (at_builtin; refine appB (g + 1) rfl (.tmp 29) (.tmp 30) 34 5 rfl Try.underlying34 infoB v u L M Z HZ.out rfl rfl HO2.out HY2.out HG2.out HL.out ?_)
  intro v4 w4 ho4 hb4 hg4
  obtain ⟨a4, n4, c4, rfl⟩ : ∃ a4 n4 c4, v4 = .slice a4 n4 c4 := by
    rcases ho4.out.2 with ⟨h, _⟩ | ⟨g', cap, cur, h, _⟩
    · exact ⟨_, _, _, h⟩
    · exact ⟨_, _, _, h⟩
  have hbb := hb4.out (g + 1) w2 (Below.refl _ _) (Nat.le_refl _)
  have HA4 := Lib.hid (HA2.out.below hbb (Nat.lt_succ_self g))
  have HO4 := Lib.hid ho4.out
  have HB4 := Lib.hid (hb4.out g w HB2.out (Nat.le_succ g))
  have hd0 := HA4.out.cell 0
  have hd1 := HA4.out.cell 1
  have hdf := HA4.out.frozen 0
  dsimp only [List.getElem?_cons_zero, List.getElem?_cons_succ] at hd0 hd1
  clear hb0 hb1 HA2 HO2 HY2 HB2 HG2 hbb ho4 hb4 hg4
  go_wp2
  go_ret
  refine ⟨rfl, ⟨_, HA4.out.set 0 _, ownsRow_setCell_below HO4.out (a := ⟨g, 0, none⟩) (Nat.lt_succ_self g) _⟩, HB4.out.setCell (Nat.le_refl _) _⟩
end Go.Proofs.Ytbaepjhbpmhmgaa
/- wire.Writer.Hash. -/
namespace Go.Proofs.Ytbaepjhbpmhmgaa
open Go.RowKit Go.Lib
set_option linter.unusedVariables false
set_option linter.unusedSimpArgs false
attribute [local go_sem ↓] Go.wp_at_zero Go.wp_at_succ

theorem WrM.lt {w : World} {g : Nat} {L : List Nat} {bad : Bool} (h : WrM w g L bad) : g < w.heap.size := by
  obtain ⟨v, ha, _⟩ := h
  exact ha.lt
theorem WrM.below {w w' : World} {g : Nat} {L : List Nat} {bad : Bool} (h : WrM w g L bad) (hb : Below w.heap.size w w') : WrM w' g L bad := by
  obtain ⟨v, ha, ho⟩ := h
  exact ⟨v, ha.below hb ha.lt, own_below ho hb⟩
set_option maxRecDepth 100000 in
set_option maxHeartbeats 1600000 in
theorem whash_ok (g : Nat) (L H Z : List Nat) (hZ : L ++ H = Z) (hH : IsH H) (w : World) (hw : WrM w g L false) (hl : L.length + 32 ≤ 140737488355328) :
    Calls Try.prog 30 #[.pointer (some ⟨g, 0, none⟩), .agg (bys H).toArray] w fun e w' => e = .returned (.pointer (some ⟨g, 0, none⟩)) ∧ WrM w' g Z false ∧ Below g w w' := by
  have HZ := Lib.hid hZ
  have HH := Lib.hid hH
  have HW := Lib.hid hw
  have HL := Lib.hid hl
  clear hZ hH hw hl
  go_enter Try.func30, Try.ntmps30
  go_upto_region 1 with fail
  have hb : Below w.heap.size w (w.alloc (.cells (bys H).toArray 24)) := (Below.refl _ _).alloc (Nat.le_refl _) _
  have ha := Arr.made w 24 (bys H)
  have HW1 := Lib.hid (HW.out.below hb)
  have HB1 := Lib.hid (hb.mono (Nat.le_of_lt HW.out.lt))
  have HY1 := Lib.hid (ha.byts HH.out.2 32 HH.out.1.symm (by unfold maxLen; omega))
  have HG := Lib.hid HW.out.lt
  generalize World.alloc _ _ = w1 at *
  clear hb ha HW
  go_wp2_with fail
  refine (put_ok g L H Z HZ.out _ w1 HW1.out HY1.out (fun ad n c e => by cases e; have := HG.out; show w.heap.size ≠ g; omega) (by rw [HH.out.1]; exact HL.out)).mono ?_
  rintro e w3 ⟨rfl, hw3, hb3⟩
  dsimp only
  have HW3 := Lib.hid hw3
  have HB3 := Lib.hid (HB1.out.trans hb3)
  clear hw3 hb3
  go_wp2
  go_ret
  exact ⟨rfl, HW3.out, HB3.out⟩
end Go.Proofs.Ytbaepjhbpmhmgaa
/- wire.Writer.put, where the writer is bad or turns bad. -/
namespace Go.Proofs.Ytbaepjhbpmhmgaa
open Go.RowKit Go.Lib
set_option linter.unusedVariables false
set_option linter.unusedSimpArgs false
attribute [local go_sem ↓] Go.wp_at_zero Go.wp_at_succ

set_option maxRecDepth 100000 in
set_option maxHeartbeats 1600000 in
theorem put_bad (g : Nat) (L : List Nat) (u : Value) (good bad : Bool) (w : World) (hw : WrM w g L bad) (hb : (bad || !good) = true) :
    Calls Try.prog 50 #[.pointer (some ⟨g, 0, none⟩), u, .bool good] w fun e w' => e = .returned (.pointer (some ⟨g, 0, none⟩)) ∧ WrM w' g L true ∧ Below g w w' := by
  obtain ⟨v, ha, ho⟩ := hw
  have HA := Lib.hid ha
  have HO := Lib.hid ho
  clear ho
  have hc1 := ha.cell 1
  dsimp only [List.getElem?_cons_zero, List.getElem?_cons_succ] at hc1
  have hf1 := ha.frozen 1
  clear ha
  have hfin : WrM (w.setCell ⟨g, 1, none⟩ (.bool true)) g L true := ⟨v, HA.out.set 1 _, ownsRow_setCell_below HO.out (a := ⟨g, 1, none⟩) (Nat.lt_succ_self g) _⟩
  have HF := Lib.hid hfin
  have HB := Lib.hid (show Below g w (w.setCell ⟨g, 1, none⟩ (.bool true)) from (Below.refl g w).setCell (Nat.le_refl _) _)
  have hd1 : (w.setCell ⟨g, 1, none⟩ (.bool true)).cell? ⟨g, 1, none⟩ = some (.bool true) := (HA.out.set 1 (.bool true)).cell 1
  clear hfin HA HO
  go_enter Try.func50, Try.ntmps50
  cases bad
  · cases good
    · go_wp2
      go_ret
      exact ⟨rfl, HF.out, HB.out⟩
    · cases hb
  · clear hb
    go_wp2
    go_ret
    exact ⟨rfl, HF.out, HB.out⟩
end Go.Proofs.Ytbaepjhbpmhmgaa
/- wire.whole. -/
namespace Go.Proofs.Ytbaepjhbpmhmgaa
open Go.RowKit Go.Lib
set_option linter.unusedVariables false
set_option linter.unusedSimpArgs false
attribute [local go_sem ↓] Go.wp_at_zero Go.wp_at_succ

set_option maxRecDepth 100000 in
set_option maxHeartbeats 1600000 in
theorem whole_any (n : Int) (w : World) (h : n = 1 ∨ n = 2 ∨ n = 4 ∨ n = 8) :
    Calls Try.prog 51 #[.int .i64 n] w fun e w' => e = .returned (.bool true) ∧ w' = w := by
  rcases h with rfl | rfl | rfl | rfl
  · go_enter Try.func51, Try.ntmps51
    go_wp2
    go_ret
    exact ⟨rfl, rfl⟩
  · go_enter Try.func51, Try.ntmps51
    go_wp2
    go_ret
    exact ⟨rfl, rfl⟩
  · go_enter Try.func51, Try.ntmps51
    go_wp2
    go_ret
    exact ⟨rfl, rfl⟩
  · go_enter Try.func51, Try.ntmps51
    go_wp2
    go_ret
    exact ⟨rfl, rfl⟩
end Go.Proofs.Ytbaepjhbpmhmgaa
