/- The chapter's row: two roots are unlike. -/
import Derived.Test.YtndhmpeabfmfgaaGreatDoorG19
namespace Go.Proofs.YtndhmpeabfmfgaaGreatDoor
def hash1 : List Nat := 1 :: List.replicate 31 0
def hash2 : List Nat := 2 :: List.replicate 31 0
theorem known_ne : topF 2 (knotF (leafF hash2) (leafF hash2)) ≠ topF 2 (knotF (leafF hash1) (leafF hash2)) := by decide +kernel
end Go.Proofs.YtndhmpeabfmfgaaGreatDoor
/- plexusref03.Path of one and of two; the law's known. -/
namespace Go.Proofs.YtndhmpeabfmfgaaGreatDoor
open Go.RowKit Go.Lib
set_option linter.unusedVariables false
set_option linter.unusedSimpArgs false
attribute [local go_sem ↓] Go.wp_at_zero Go.wp_at_succ

set_option maxRecDepth 100000 in
set_option maxHeartbeats 1600000 in
theorem path_one (n : Int) (a : Option Addr) (c : Nat) (w : World) :
    Calls Tryz.prog 19 #[.int .i64 n, .slice a 1 c] w fun e w' => e = .returned (.slice none 0 0) ∧ w' = w := by
  go_enter Tryz.func19, Tryz.ntmps19
  go_wp2
  go_ret
  exact ⟨rfl, rfl⟩

/-- An address in a row of hashes. -/
def TypH (w : World) (a : Option Addr) : Prop := ∃ b off cs, a = some ⟨b, off, none⟩ ∧ w.heap[b]? = some (.cells cs 23 (0, 0))
theorem TypH.below {w w' : World} {a : Option Addr} (h : TypH w a) (hb : Below w.heap.size w w') : TypH w' a := by
  obtain ⟨b, off, cs, e, h⟩ := h
  exact ⟨b, off, cs, e, by rw [hb.block b (Array.getElem?_eq_some_iff.1 h).1]; exact h⟩
theorem half_2 (w : World) : Calls Tryz.prog 41 #[.int .i64 2] w fun e w' => e = .returned (.int .i64 1) ∧ w' = w := by
  have h := half_any 2 w (by omega)
  rw [show half 2 = 1 from half_two 2 (Nat.le_refl _)] at h
  exact h
set_option maxRecDepth 100000 in
set_option maxHeartbeats 1600000 in
theorem path_two (A B : List Nat) (b off c0 : Nat) (w : World) (hv : HsIs w (.slice (some ⟨b, off, none⟩) 2 c0) [A, B]) :
    Calls Tryz.prog 19 #[.int .i64 0, .slice (some ⟨b, off, none⟩) 2 c0] w fun e w' => ∃ a c, e = .returned (.slice a 1 c) ∧ HsIs w' (.slice a 1 c) [leafF B] ∧ TypH w' a ∧ Below w.heap.size w w' := by
  have HV := Lib.hid hv
  have hcap : 2 ≤ c0 := hs_cap (Is := [A, B]) hv
  have HC := Lib.hid hcap
  have HVt := Lib.hid (hs_tail (H := A) (R := [B]) hv)
  clear hv
  go_enter Tryz.func19, Tryz.ntmps19
  go_wp2_with fail
  with_reducible refine (half_2 w).mono ?_
  rintro e w2 ⟨rfl, rfl⟩
  dsimp only
  go_upto_region 5 with fail
  have HS0 := Lib.hid True.intro
  refine wp_region_H (fun w' => True) (by kernel_rfl) ?_
  have HVd := Lib.hid (show HsIs w2.drew _ _ from HVt.out)
  have HBd := Lib.hid (show Below w2.heap.size w2 w2.drew from (Below.refl _ _).drew)
  have hc1 : ¬ c0 = 1 := by omega
  have hc2 : 1 ≤ c0 := by omega
  generalize w2.drew = w3 at *
  rw [if_neg hc1] at HVd
  simp only [List.size_toArray, List.length_cons, List.length_nil, Nat.reduceAdd, Array.replicate_succ, Array.replicate_zero, List.push_toArray, List.nil_append, List.cons_append]
  refine wpAnyH_take (i := 0) (oi := ⟨some 15, _, _, _, _, _⟩) (v := ?_) rfl (by kernel_rfl) (by kernel_rfl) (by kernel_rfl) (fun _ _ _ h => h) (Or.inl ⟨by rfl, ?_⟩) HS0.out ?_
  rotate_left
  · intro w hSw
    go_simp <;> first | with_reducible rfl | omega
  dsimp only [Act.put]
  simp only [List.setIfInBounds_toArray, List.set_cons_zero, List.set_cons_succ]
  refine wpAnyH_take (i := 1) (oi := ⟨some 16, _, _, _, _, _⟩) (v := ?_) rfl (by kernel_rfl) (by kernel_rfl) (by kernel_rfl) (fun _ _ _ h => h) (Or.inl ⟨by rfl, ?_⟩) HS0.out ?_
  rotate_left
  · intro w hSw
    go_simp <;> first | with_reducible rfl | omega
  dsimp only [Act.put]
  simp only [List.setIfInBounds_toArray, List.set_cons_zero, List.set_cons_succ]
  refine wpAnyH_take (i := 2) (oi := ⟨some 17, _, _, _, _, _⟩) (v := ?_) rfl (by kernel_rfl) (by kernel_rfl) (by kernel_rfl) (fun _ _ _ h => h) (Or.inl ⟨by rfl, ?_⟩) HS0.out ?_
  rotate_left
  · intro w hSw
    go_simp <;> first | with_reducible rfl | omega
  dsimp only [Act.put]
  simp only [List.setIfInBounds_toArray, List.set_cons_zero, List.set_cons_succ]
  refine wpAnyH_take (i := 3) (oi := ⟨some 18, _, _, _, _, _⟩) (v := .slice (some ⟨b, off, none⟩) 1 c0) rfl (by kernel_rfl) (by kernel_rfl) (by kernel_rfl) (fun _ _ _ h => h) (Or.inl ⟨by rfl, ?_⟩) HS0.out ?_
  · intro w hSw
    go_simp <;> first | with_reducible rfl | omega
  dsimp only [Act.put]
  simp only [List.setIfInBounds_toArray, List.set_cons_zero, List.set_cons_succ]
  refine wpAnyH_take (i := 5) (oi := ⟨some 20, _, _, _, _, _⟩) (v := ?_) rfl (by kernel_rfl) (by kernel_rfl) (by kernel_rfl) (fun _ _ _ h => h) (Or.inl ⟨by rfl, ?_⟩) HS0.out ?_
  rotate_left
  · intro w hSw
    go_simp <;> first | with_reducible rfl | omega
  dsimp only [Act.put]
  simp only [List.setIfInBounds_toArray, List.set_cons_zero, List.set_cons_succ]
  refine wpAnyH_take (i := 6) (oi := ⟨some 21, _, _, _, _, _⟩) (v := ?_) rfl (by kernel_rfl) (by kernel_rfl) (by kernel_rfl) (fun _ _ _ h => h) (Or.inl ⟨by rfl, ?_⟩) HS0.out ?_
  rotate_left
  · intro w hSw
    go_simp <;> first | with_reducible rfl | omega
  dsimp only [Act.put]
  simp only [List.setIfInBounds_toArray, List.set_cons_zero, List.set_cons_succ]
  refine wpAnyH_take (i := 7) (oi := ⟨some 22, _, _, _, _, _⟩) (v := .slice (some ⟨b, off + 32, none⟩) 1 (c0 - 1)) rfl (by kernel_rfl) (by kernel_rfl) (by kernel_rfl) (fun _ _ _ h => h) (Or.inl ⟨by rfl, ?_⟩) HS0.out ?_
  · intro w hSw
    go_simp <;> first | with_reducible rfl | omega
  dsimp only [Act.put]
  simp only [List.setIfInBounds_toArray, List.set_cons_zero, List.set_cons_succ]
  refine wpAnyH_one (i := 4) (oi := ⟨some 19, _, _, _, _, _⟩) (by kernel_rfl) rfl (by rfl) (fun K9 hK9 => ?_)
  have HK9 := Lib.hid hK9
  clear hK9
  go_simp
  refine (path_one 0 _ _ w3).mono ?_
  rintro e w4 ⟨rfl, rfl⟩
  dsimp only
  refine HK9.out _ _ trivial ?_
  clear HK9
  simp only [List.setIfInBounds_toArray, List.set_cons_zero, List.set_cons_succ]
  refine wpAnyH_one (i := 8) (oi := ⟨some 23, _, _, _, _, _⟩) (by kernel_rfl) rfl (by rfl) (fun K9 hK9 => ?_)
  have HK9 := Lib.hid hK9
  clear hK9
  go_simp
  have HLc := Lib.hid (rleft_any 1 (.slice (some ⟨b, off + 32, none⟩) 1 (c0 - 1)) [B] w4 rfl (by omega) (by omega) HVd.out)
  with_reducible refine HLc.out.mono ?_
  rintro e w5 ⟨rfl, hb5⟩
  dsimp only
  rw [show leftR [] knotF ([B].map leafF) = leafF B from leftR_one _ _ _ (by simp)]
  have HB5 := Lib.hid (HBd.out.trans (hb5.mono HBd.out.size))
  clear hb5 HLc
  obtain ⟨R, hR⟩ : ∃ R, R = leafF B := ⟨_, rfl⟩
  rw [← hR]
  have HRe := Lib.hid hR
  have HRh := Lib.hid (show IsH R by rw [hR]; exact leafF_h B)
  clear hR
  refine HK9.out _ _ trivial ?_
  clear HK9
  simp only [List.setIfInBounds_toArray, List.set_cons_zero, List.set_cons_succ]
  refine wpAnyH_one (i := 9) (oi := ⟨some 24, _, _, _, _, _⟩) (by kernel_rfl) rfl (by rfl) (fun K9 hK9 => ?_)
  have HK9 := Lib.hid hK9
  clear hK9
  have hbl : (bys R).length = 32 := by rw [bys_len]; exact HRh.out.1
  go_simp
  clear hbl
  rw [fold_cells _ _ (by simp [bys_len, HRh.out.1])]
  refine HK9.out _ _ trivial ?_
  clear HK9
  simp only [List.setIfInBounds_toArray, List.set_cons_zero, List.set_cons_succ]
  refine wpAnyH_one (i := 10) (oi := ⟨some 25, _, _, _, _, _⟩) (by kernel_rfl) rfl (by rfl) (fun K9 hK9 => ?_)
  have HK9 := Lib.hid hK9
  clear hK9
  refine wp_appH w5.heap.size (.tmp 19) (.tmp 24) rfl (.slice none 0 0) [] [R] R _ rfl rfl HRh.out (fun h hm => by cases hm) rfl rfl (own_nil _ _ _ _) (Nat.le_refl _) (by simp) ?_
  intro v6 w6 ho6 hb6
  have HH6 := Lib.hid (own_hs ho6.out (fun H hm => by rw [List.mem_singleton] at hm; subst hm; exact HRh.out))
  have HB6 := Lib.hid (hb6.out w2.heap.size w2 HB5.out HB5.out.size)
  have HTy := Lib.hid (show ∀ a n c, v6 = .slice a n c → n = 1 → TypH w6 a by
    rintro a n c rfl rfl
    rcases ho6.out.2 with ⟨e, h9⟩ | ⟨g, cap, cur, e, _, hg, _⟩
    · cases h9
    · injection e with e1 _ _; exact ⟨g, 0, cur, e1, hg⟩)
  clear ho6 hb6 HB5
  refine HK9.out _ _ trivial ?_
  clear HK9
  dsimp only [Act.put]
  simp only [List.setIfInBounds_toArray, List.set_cons_zero, List.set_cons_succ]
  refine wpAnyH_take (i := 11) (oi := ⟨some 4, _, _, _, _, _⟩) (v := ?_) rfl (by kernel_rfl) (by kernel_rfl) (by kernel_rfl) (fun _ _ _ h => h) (Or.inl ⟨by rfl, ?_⟩) HS0.out ?_
  rotate_left
  · intro w hSw
    go_simp <;> with_reducible rfl
  dsimp only [Act.put]
  simp only [List.setIfInBounds_toArray, List.set_cons_zero, List.set_cons_succ]
  refine wpAnyH_done (by kernel_rfl) ?_ _
  obtain ⟨a6, c6, h6⟩ := HH6.out.form
  rw [show [R].length = 1 from rfl] at h6
  subst h6
  go_wp2
  go_ret
  exact ⟨a6, c6, rfl, by rw [← HRe.out]; exact HH6.out, HTy.out _ _ _ rfl rfl, HB6.out⟩
end Go.Proofs.YtndhmpeabfmfgaaGreatDoor
/- The law's num and known. -/
namespace Go.Proofs.YtndhmpeabfmfgaaGreatDoor
open Go.RowKit Go.Lib
set_option linter.unusedVariables false
set_option linter.unusedSimpArgs false
attribute [local go_sem ↓] Go.wp_at_zero Go.wp_at_succ

theorem hash1_h : IsH hash1 := ⟨rfl, by decide⟩
theorem hash2_h : IsH hash2 := ⟨rfl, by decide⟩
set_option maxRecDepth 100000 in
theorem num_any' (n : Int) (w : World) : Calls Tryz.prog 6 #[.int .i64 n] w fun e w' => e = .returned (.int .i64 n) ∧ Below w.heap.size w w' := by
  go_enter Tryz.func6, Tryz.ntmps6
  go_wp2
  go_ret
  exact ⟨rfl, Below.refl _ _⟩
/-- The header of the chapter's row. -/
def hdK (R : List Nat) : Hdr := ⟨[], zeroH, R, zeroH, zeroH, 0⟩
theorem zeroH_h : IsH zeroH := ⟨rfl, fun x hx => by rw [List.eq_of_mem_replicate hx]; omega⟩
theorem hdK_ok (R : List Nat) (h : IsH R) : (hdK R).ok := ⟨zeroH_h, h, zeroH_h, zeroH_h, by show 0 ≤ _; omega⟩
theorem build_hd (R : List Nat) (hR : R.length = 32) (w : World) : (Instr.build 27 #[(2, .agg (bys R).toArray)]).run Tryz.prog w = .ok (.agg (hdC (.slice none 0 0) (hdK R)).toArray) w := by
  match R, hR with
  | [x0, x1, x2, x3, x4, x5, x6, x7, x8, x9, x10, x11, x12, x13, x14, x15, x16, x17, x18, x19, x20, x21, x22, x23, x24, x25, x26, x27, x28, x29, x30, x31], _ => show _ = _; kernel_rfl
theorem build_pa (a : Option Addr) (c : Nat) (w : World) : (Instr.build 29 #[(0, .int .i64 0), (1, .int .i64 2), (2, .slice a 1 c)]).run Tryz.prog w = .ok (.agg (paC 0 2 (.slice a 1 c)).toArray) w := by kernel_rfl
theorem build_pf (R : List Nat) (hR : R.length = 32) (a : Option Addr) (c : Nat) (w : World) : (Instr.build 31 #[(0, .agg (hdC (.slice none 0 0) (hdK R)).toArray), (1, .agg (paC 0 2 (.slice a 1 c)).toArray)]).run Tryz.prog w = .ok (.agg (pfC (.slice none 0 0) (hdK R) 0 2 (.slice a 1 c)).toArray) w := by
  match R, hR with
  | [x0, x1, x2, x3, x4, x5, x6, x7, x8, x9, x10, x11, x12, x13, x14, x15, x16, x17, x18, x19, x20, x21, x22, x23, x24, x25, x26, x27, x28, x29, x30, x31], _ => show _ = _; kernel_rfl
theorem two_build (w : World) : (Instr.buildSlice 24 2 #[(0, .agg (bys hash1).toArray), (1, .agg (bys hash2).toArray)]).run Tryz.prog w = .ok (.slice (some ⟨w.heap.size, 0, none⟩) 2 2) (w.alloc (.cells (bys (hash1 ++ hash2)).toArray 23)) := by kernel_rfl
theorem h1_build (w : World) : (Instr.build 23 #[(0, .int .u8 1)]).run Tryz.prog w = .ok (.agg (bys hash1).toArray) w := by kernel_rfl
theorem h2_build (w : World) : (Instr.build 23 #[(0, .int .u8 2)]).run Tryz.prog w = .ok (.agg (bys hash2).toArray) w := by kernel_rfl
theorem mroot_two (A B : List Nat) : mrootF [A, B] = topF 2 (knotF (leafF A) (leafF B)) := by
  unfold mrootF
  rw [List.map_cons, List.map_cons, List.map_nil, leftR_more [] knotF [leafF A, leafF B] (by simp)]
  show topF 2 (knotF (leftR [] knotF ([leafF A, leafF B].take (half 2))) (leftR [] knotF ([leafF A, leafF B].drop (half 2)))) = _
  rw [half_two 2 (Nat.le_refl _)]
  show topF 2 (knotF (leftR [] knotF [leafF A]) (leftR [] knotF [leafF B])) = _
  rw [leftR_one _ _ _ (by simp), leftR_one _ _ _ (by simp)]
  rfl
theorem up_two (I X : List Nat) : upF I 0 2 [X] = knotF (leafF I) X := by
  unfold upF
  rw [leadUp, if_neg (by omega), if_neg (by simp [sib]), if_neg (by omega), leadUp, if_pos (by omega)]
  rfl
theorem sizeUp_two : sizeUp 0 2 = 1 := by
  rw [sizeUp, if_neg (by omega), if_pos (by simp [sib]), sizeUp, if_pos (by omega)]
theorem ok_one : prOk (hdK (mrootF [hash1, hash2])) 0 2 [leafF hash2] hash1 (idF (hdK (mrootF [hash1, hash2]))) :=
  ⟨Nat.zero_le _, rfl, 0, 2, rfl, rfl, by omega, by omega, by rw [sizeUp_two]; rfl, by rw [up_two]; exact (mroot_two hash1 hash2).symm⟩
theorem ok_two : ¬ prOk (hdK (mrootF [hash1, hash2])) 0 2 [leafF hash2] hash2 (idF (hdK (mrootF [hash1, hash2]))) := by
  rintro ⟨_, _, n', c', e1, e2, _, _, _, h⟩
  obtain rfl : n' = 0 := by omega
  obtain rfl : c' = 2 := by omega
  rw [up_two] at h
  have h : topF 2 (knotF (leafF hash2) (leafF hash2)) = mrootF [hash1, hash2] := h
  rw [mroot_two] at h
  exact known_ne h
/-- What lies through known. -/
def KnS (g1 g2 g3 : Nat) (a3 : Option Addr) (c3 : Nat) (h0 : Hdr) (w : World) : Prop :=
  PfAt w g3 (.slice none 0 0) h0 0 2 (.slice a3 1 c3) ∧ HdrAt w g2 (.slice none 0 0) h0 ∧ HsIs w (.slice (some ⟨g1, 0, none⟩) [hash1, hash2].length 2) [hash1, hash2] ∧ HsIs w (.slice none 0 0) h0.P ∧ HsIs w (.slice a3 1 c3) [leafF hash2]
theorem KnS.below {g1 g2 g3 : Nat} {a3 : Option Addr} {c3 : Nat} {h0 : Hdr} {w w' : World} (hs : KnS g1 g2 g3 a3 c3 h0 w) (hb : Below w.heap.size w w') : KnS g1 g2 g3 a3 c3 h0 w' :=
  ⟨hs.1.below hb hs.1.1.lt, hs.2.1.below hb hs.2.1.1.lt, hs.2.2.1.below hb, hs.2.2.2.1.below hb, hs.2.2.2.2.below hb⟩
def zhd : List Value := hdC (.slice none 0 0) (hdK zeroH)
theorem zhd_len : zhd.length = 130 := hdC_len _ _ (hdK_ok zeroH zeroH_h)
theorem zero_hd : ∀ w, (zeroValue 27).run Tryz.prog w = .ok (.agg zhd.toArray) w := fun _ => by kernel_rfl
def zpf : List Value := pfC (.slice none 0 0) (hdK zeroH) 0 0 (.slice none 0 0)
theorem zpf_len : zpf.length = 133 := pfC_len _ _ (hdK_ok zeroH zeroH_h) _ _ _
theorem zero_pf : ∀ w, (zeroValue 31).run Tryz.prog w = .ok (.agg zpf.toArray) w := fun _ => by kernel_rfl
theorem hdC_one (pv : Value) (h : Hdr) (hp : pv.oneCell' = true) : (hdC pv h).toArray.all (·.oneCell') = true := by
  refine all_oneCell_toArray (fun v hv => ?_)
  simp only [hdC, List.mem_cons, List.mem_append, List.not_mem_nil, or_false] at hv
  rcases hv with rfl | hv | hv | hv | hv | rfl
  · exact hp
  · exact bys_one _ v hv
  · exact bys_one _ v hv
  · exact bys_one _ v hv
  · exact bys_one _ v hv
  · rfl
theorem pfC_one (pv v : Value) (h : Hdr) (n c : Int) (hp : pv.oneCell' = true) (hv : v.oneCell' = true) : (pfC pv h n c v).toArray.all (·.oneCell') = true := by
  refine all_oneCell_toArray (fun u hu => ?_)
  simp only [pfC, paC, hdC, List.mem_cons, List.mem_append, List.not_mem_nil, or_false] at hu
  rcases hu with (rfl | hu | hu | hu | hu | rfl) | rfl | rfl | rfl
  · exact hp
  · exact bys_one _ u hu
  · exact bys_one _ u hu
  · exact bys_one _ u hu
  · exact bys_one _ u hu
  · rfl
  · rfl
  · rfl
  · exact hv
theorem hs_nil {w : World} {L : List (List Nat)} (h : L = []) : HsIs w (.slice none 0 0) L := ⟨fun H hm => (by rw [h] at hm; cases hm), .inl ⟨rfl, h⟩⟩
theorem hs_other {w : World} {a : Option Addr} {n c : Nat} {L : List (List Nat)} {g : Nat} {Z us : List Value} {o : Nat} (h : HsIs w (.slice a n c) L) (ht : TypH w a) (ha : Arr w g 31 Z) : HsIs (w.setCells g o us) (.slice a n c) L := by
  obtain ⟨b, off, cs, rfl, hb⟩ := ht
  have hne : b ≠ g := fun e => by
    subst e
    have ha' : w.heap[b]? = some (.cells Z.toArray 31 (0, 0)) := ha
    rw [hb] at ha'
    simp at ha'
  refine ⟨h.1, ?_⟩
  rcases h.2 with ⟨e, h9⟩ | ⟨b', off', c', e, q1, q2, q3⟩
  · cases e
  · injection e with e1 e2 e3
    injection e1 with e1
    cases e1
    subst e2 e3
    refine .inr ⟨b, off, c, rfl, q1, q2, fun j hj i u hu => ?_⟩
    have hk : (w.setCells g o us).heap[b]? = w.heap[b]? := by
      have harr : Arr w b 23 cs.toList := by unfold Arr; simpa using hb
      have := Arr.otherC hne us o harr
      unfold Arr at this harr
      rw [this, harr]
    rw [World.cell?_of_block (a := ⟨b, off + j * 32 + i, none⟩) hk]
    exact q3 j hj i u hu
theorem two_hs (w : World) : HsIs (w.alloc (.cells (bys (hash1 ++ hash2)).toArray 23)) (.slice (some ⟨w.heap.size, 0, none⟩) [hash1, hash2].length 2) [hash1, hash2] := by
  have ha := Arr.made w 23 (bys (hash1 ++ hash2))
  have hH : ∀ H ∈ [hash1, hash2], IsH H := by
    intro H hm
    simp only [List.mem_cons, List.not_mem_nil, or_false] at hm
    rcases hm with rfl | rfl
    · exact hash1_h
    · exact hash2_h
  refine ⟨hH, .inr ⟨w.heap.size, 0, 2, rfl, by simp, by unfold maxLen; omega, fun j hj => ?_⟩⟩
  rw [Nat.zero_add]
  exact range_flat [hash1, hash2] hH (t := 23) (by rw [show [hash1, hash2].flatten = hash1 ++ hash2 by simp]; exact ha) j hj

set_option maxRecDepth 100000 in
set_option maxHeartbeats 3200000 in
theorem known_any (w : World) : Calls Tryz.prog 7 #[] w fun e w' => e = .returned (.bool true) ∧ Below w.heap.size w w' := by
  obtain ⟨R, hR⟩ : ∃ R, R = mrootF [hash1, hash2] := ⟨_, rfl⟩
  have HRh := Lib.hid (show IsH R by rw [hR]; exact mrootF_h _)
  have HOk1 := Lib.hid ok_one
  have HOk2 := Lib.hid ok_two
  rw [← hR] at HOk1 HOk2
  obtain ⟨h0, hh0⟩ : ∃ h0, h0 = hdK R := ⟨_, rfl⟩
  rw [← hh0] at HOk1 HOk2
  have HOk := Lib.hid (show h0.ok by rw [hh0]; exact hdK_ok R HRh.out)
  have HP0 := Lib.hid (show h0.P.length = 0 by rw [hh0]; rfl)
  have HPn := Lib.hid (show h0.P = [] by rw [hh0]; rfl)
  have HRe := Lib.hid hR
  have HH0 := Lib.hid hh0
  clear hR hh0
  have HSh := Lib.hid (size_hdr (.slice none 0 0) h0 HOk.out)
  have HSh2 := Lib.hid (show (Tryz.prog.info? 27).map (·.size) = some (hdC (.slice none 0 0) h0).toArray.size by rw [List.size_toArray]; exact HSh.out)
  go_enter Tryz.func7, Tryz.ntmps7
  go_upto_region 1 with fail
  go_step
  iterate 1 (first | go_values | go_skip | go_guarded | go_step | go_upon)
  refine wp_build_run (P := Tryz.prog) 23 _ rfl #[(0, .int .u8 1)] (by simp [Act.eval, Act.put]) _ (h1_build w) ?_
  iterate 2 (first | go_values | go_skip | go_guarded | go_step | go_upon)
  refine wp_build_run (P := Tryz.prog) 23 _ rfl #[(0, .int .u8 2)] (by simp [Act.eval, Act.put]) _ (h2_build w) ?_
  iterate 2 (first | go_values | go_skip | go_guarded | go_step | go_upon)
  refine wp_buildSlice_run (P := Tryz.prog) 24 2 _ rfl #[(0, .agg (bys hash1).toArray), (1, .agg (bys hash2).toArray)] (by simp [Act.eval, Act.put]) _ (two_build w) ?_
  have hv := two_hs w
  have hb : Below w.heap.size w (w.alloc (.cells (bys (hash1 ++ hash2)).toArray 23)) := (Below.refl _ _).alloc (Nat.le_refl _) _
  have HV1 := Lib.hid hv
  have HB1 := Lib.hid hb
  clear hv hb
  obtain ⟨K1, hK1⟩ : ∃ K1, K1 = (bys hash1).toArray := ⟨_, rfl⟩
  obtain ⟨K2, hK2⟩ : ∃ K2, K2 = (bys hash2).toArray := ⟨_, rfl⟩
  rw [← hK1, ← hK2]
  clear hK1 hK2
  obtain ⟨g1, hg1⟩ : ∃ g1, w.heap.size = g1 := ⟨_, rfl⟩
  have HG1 := Lib.hid hg1
  rw [hg1] at HV1 ⊢
  clear hg1
  generalize World.alloc _ _ = w1 at *
  go_wp2_with fail
  have HCr := Lib.hid (rroot_any (.slice (some ⟨g1, 0, none⟩) [hash1, hash2].length 2) [hash1, hash2] w1 (by simp) HV1.out)
  rw [show [hash1, hash2].length = 2 from rfl] at HCr
  with_reducible refine HCr.out.mono ?_
  rintro e w2 ⟨rfl, hb2⟩
  rw [← HRe.out]
  dsimp only
  have HV2 := Lib.hid (HV1.out.below hb2)
  have HB2 := Lib.hid (HB1.out.trans (hb2.mono HB1.out.size))
  clear hb2 HV1 HB1 HCr
  have HBh := Lib.hid (build_hd R HRh.out.1 w2)
  rw [← HH0.out] at HBh
  iterate 2 (first | go_values | go_skip | go_guarded | go_step | go_upon)
  refine wp_build_run (P := Tryz.prog) 27 _ rfl #[(2, .agg (bys R).toArray)] (by simp [Act.eval, Act.put]) _ HBh.out ?_
  have hzh := zero_hd
  iterate 4 (first | go_values | go_skip | go_guarded | go_step | go_upon)
  have hm := Arr.made w2 27 zhd
  have hpm := And.intro (hm.setAll (hdC (.slice none 0 0) h0) (by rw [hdC_len _ _ HOk.out, zhd_len])) (below_sets w2.heap.size (Nat.le_refl _) (hdC (.slice none 0 0) h0) 0 ((Below.refl w2.heap.size w2).alloc (Nat.le_refl _) (.cells zhd.toArray 27)))
  have HTh := Lib.hid (hm.there (hdC (.slice none 0 0) h0).toArray.size (by rw [List.size_toArray, hdC_len _ _ HOk.out, zhd_len]))
  have HPm := Lib.hid hpm
  clear hm hpm hzh
  refine wpList_store_mid (P := Tryz.prog) rfl 27 _ _ rfl w2.heap.size 0 (hdC (.slice none 0 0) h0).toArray rfl rfl HTh.out HSh2.out (hdC_one _ _ rfl) ?_
  rw [show (hdC (.slice none 0 0) h0).toArray.toList = hdC (.slice none 0 0) h0 from rfl]
  have HV3 := Lib.hid (HV2.out.below HPm.out.2)
  have HB3 := Lib.hid (HB2.out.trans (HPm.out.2.mono HB2.out.size))
  have HD3 := Lib.hid (show HdrAt _ w2.heap.size (.slice none 0 0) h0 from ⟨HPm.out.1, HOk.out⟩)
  clear HV2 HB2 HPm HTh
  obtain ⟨g2, hg2⟩ : ∃ g2, w2.heap.size = g2 := ⟨_, rfl⟩
  rw [hg2] at HD3 HV3 HB3 ⊢
  clear hg2
  generalize World.setCells _ _ _ _ = w3 at *
  go_upto_region 3 with fail
  have HDd := Lib.hid (show HdrAt w3.drew g2 (.slice none 0 0) h0 from HD3.out)
  have HVd := Lib.hid (show HsIs w3.drew (.slice (some ⟨g1, 0, none⟩) [hash1, hash2].length 2) [hash1, hash2] from HV3.out)
  have HBd := Lib.hid HB3.out.drew
  have HS0 := HDd
  clear HD3 HV3 HB3
  refine wp_region_U (fun w' => HdrAt w' g2 (.slice none 0 0) h0) 6 (by kernel_rfl) ?_
  generalize w3.drew = w4 at *
  simp only [List.size_toArray, List.length_cons, List.length_nil, Nat.reduceAdd, Array.replicate_succ, Array.replicate_zero, List.push_toArray, List.nil_append, List.cons_append]
  refine wpAnyU_take (i := 0) (oi := ⟨some 10, _, _, _, _, _⟩) rfl (by kernel_rfl) (by kernel_rfl) (by kernel_rfl) (by kernel_rfl) (by kernel_rfl) (fun _ _ _ h => h) (yieldsIf_load_mid (by rfl) 27 (.tmp 2) rfl (g2) (0) rfl (hdC (.slice none 0 0) h0) _ (fun w h => h.1.range) Tryz.underlying27 rfl HSh.out) HS0.out ?_
  dsimp only [Act.put]
  simp only [List.setIfInBounds_toArray, List.set_cons_zero, List.set_cons_succ]
  refine wpAnyU_take0 (i := 1) (oi := ⟨some 11, _, _, _, _, _⟩) (v := ?_) rfl (by kernel_rfl) (by kernel_rfl) (by kernel_rfl) (by decide) (fun _ _ _ h => h) (Or.inl ⟨by rfl, ?_⟩) (fun _ => HS0.out) ?_
  rotate_left
  · intro w hSw; go_simp <;> with_reducible rfl
  dsimp only [Act.put]
  simp only [List.setIfInBounds_toArray, List.set_cons_zero, List.set_cons_succ]
  refine wpAnyU_factsT (ot := ⟨none, _, _, _, _, _⟩) [(2, some 12), (3, some 13), (4, some 14), (5, some 3)] (fun i v z => match i with
    | 2 => ∃ a c, v = .slice a 1 c ∧ HsIs z (.slice a 1 c) [leafF hash2] ∧ TypH z a
    | 3 => ∃ a c, v = .agg (paC 0 2 (.slice a 1 c)).toArray ∧ HsIs z (.slice a 1 c) [leafF hash2] ∧ TypH z a
    | 4 => ∃ a c, v = .agg (pfC (.slice none 0 0) h0 0 2 (.slice a 1 c)).toArray ∧ HsIs z (.slice a 1 c) [leafF hash2] ∧ TypH z a
    | _ => ∃ g3, v = .pointer (some ⟨g3, 0, none⟩) ∧ Arr z g3 31 zpf ∧ w4.heap.size ≤ g3) rfl rfl ?_ ?_ (by kernel_rfl) (by decide) (by kernel_rfl) ?_ ?_
  · intro i v z z' h hb
    match i, h with
    | 0, ⟨g, e, h, hg⟩ => exact ⟨g, e, h.below hb h.lt, hg⟩
    | 1, ⟨g, e, h, hg⟩ => exact ⟨g, e, h.below hb h.lt, hg⟩
    | 2, ⟨a, c, e, h, ht⟩ => exact ⟨a, c, e, h.below hb, ht.below hb⟩
    | 3, ⟨a, c, e, h, ht⟩ => exact ⟨a, c, e, h.below hb, ht.below hb⟩
    | 4, ⟨a, c, e, h, ht⟩ => exact ⟨a, c, e, h.below hb, ht.below hb⟩
    | _ + 5, ⟨g, e, h, hg⟩ => exact ⟨g, e, h.below hb h.lt, hg⟩
  · exact fun w' hb => HDd.out.below hb HDd.out.1.lt
  refine List.forall_mem_cons.2 ⟨?_, List.forall_mem_cons.2 ⟨?_, List.forall_mem_cons.2 ⟨?_, List.forall_mem_cons.2 ⟨?_, fun p hp => absurd hp List.not_mem_nil⟩⟩⟩⟩
  · refine stepF_of (oi := ⟨some 12, _, _, _, _, _⟩) rfl rfl ?_
    intro X w5 hB5 hd K hK
    simp only [putsA, putsT_some, putsT_nil, Act.put, List.setIfInBounds_toArray, List.set_cons_zero, List.set_cons_succ] at hK ⊢
    have HK := Lib.hid hK
    clear hK hd
    have HCp := Lib.hid (path_two hash1 hash2 g1 0 2 w5 (HVd.out.below hB5))
    go_simp
    with_reducible refine HCp.out.mono ?_
    rintro e w6 ⟨a6, c6, rfl, hv6, ht6, hb6⟩
    dsimp only
    exact HK.out _ _ ⟨a6, c6, rfl, hv6, ht6⟩ hb6
  · refine stepF_of (oi := ⟨some 13, _, _, _, _, _⟩) rfl rfl ?_
    intro X w5 hB5 hd K hK
    obtain ⟨a6, c6, h6, hv6, ht6⟩ : ∃ a c, X 2 = .slice a 1 c ∧ HsIs w5 (.slice a 1 c) [leafF hash2] ∧ TypH w5 a := hd (2, some 12) (by decide) (by kernel_rfl)
    have HV6 := Lib.hid (And.intro hv6 ht6)
    clear hv6 ht6
    have H6 := Lib.hid h6
    clear h6
    simp only [putsA, putsT_some, putsT_nil, Act.put, List.setIfInBounds_toArray, List.set_cons_zero, List.set_cons_succ] at hK ⊢
    have HK := Lib.hid hK
    clear hK hd
    refine wp_build_run (P := Tryz.prog) 29 _ rfl #[(0, .int .i64 0), (1, .int .i64 2), (2, X 2)] (by simp only [List.map_toArray, List.map_cons, List.map_nil]; rfl) _ ?_ (HK.out _ _ ⟨a6, c6, rfl, HV6.out.1, HV6.out.2⟩ (Below.refl _ _))
    rw [H6.out]
    exact build_pa a6 c6 w5
  · refine stepF_of (oi := ⟨some 14, _, _, _, _, _⟩) rfl rfl ?_
    intro X w5 hB5 hd K hK
    obtain ⟨a6, c6, h6, hv6, ht6⟩ : ∃ a c, X 3 = .agg (paC 0 2 (.slice a 1 c)).toArray ∧ HsIs w5 (.slice a 1 c) [leafF hash2] ∧ TypH w5 a := hd (3, some 13) (by decide) (by kernel_rfl)
    have HV6 := Lib.hid (And.intro hv6 ht6)
    have H6 := Lib.hid h6
    clear h6 hv6 ht6
    simp only [putsA, putsT_some, putsT_nil, Act.put, List.setIfInBounds_toArray, List.set_cons_zero, List.set_cons_succ] at hK ⊢
    have HK := Lib.hid hK
    clear hK hd
    refine wp_build_run (P := Tryz.prog) 31 _ rfl #[(0, .agg (hdC (.slice none 0 0) h0).toArray), (1, X 3)] (by simp only [List.map_toArray, List.map_cons, List.map_nil]; rfl) _ ?_ (HK.out _ _ ⟨a6, c6, rfl, HV6.out.1, HV6.out.2⟩ (Below.refl _ _))
    rw [H6.out, HH0.out]
    exact build_pf R HRh.out.1 a6 c6 w5
  · refine stepF_of (oi := ⟨some 3, _, _, _, _, _⟩) rfl rfl ?_
    intro X w5 hB5 hd K hK
    simp only [putsA, putsT_some, putsT_nil, Act.put, List.setIfInBounds_toArray, List.set_cons_zero, List.set_cons_succ] at hK ⊢
    have HK := Lib.hid hK
    clear hK hd
    have hzp := zero_pf
    have HAz := Lib.hid (Arr.made w5 31 zpf)
    have HBz := Lib.hid (show Below w5.heap.size w5 (w5.alloc (.cells zpf.toArray 31)) from (Below.refl _ _).alloc (Nat.le_refl _) _)
    go_simp
    exact HK.out _ _ ⟨_, rfl, HAz.out, hB5.size⟩ HBz.out
  intro X w5 hB5 hF K hK
  obtain ⟨a3, c3, h4, hv4, ht4⟩ : ∃ a c, X 4 = .agg (pfC (.slice none 0 0) h0 0 2 (.slice a 1 c)).toArray ∧ HsIs w5 (.slice a 1 c) [leafF hash2] ∧ TypH w5 a := hF (4, some 14) (by decide)
  obtain ⟨g3, h5, ha5, hg5⟩ : ∃ g3, X 5 = .pointer (some ⟨g3, 0, none⟩) ∧ Arr w5 g3 31 zpf ∧ w4.heap.size ≤ g3 := hF (5, some 3) (by decide)
  simp only [putsA, putsT_some, putsT_nil, Act.put, List.setIfInBounds_toArray, List.set_cons_zero, List.set_cons_succ]
  rw [h4, h5]
  clear hF h4 h5
  have HK := Lib.hid hK
  clear hK
  have HSf := Lib.hid (size_pf (.slice none 0 0) h0 HOk.out 0 2 (.slice a3 1 c3))
  have HSf2 := Lib.hid (show (Tryz.prog.info? 31).map (·.size) = some (pfC (.slice none 0 0) h0 0 2 (.slice a3 1 c3)).toArray.size by rw [List.size_toArray]; exact HSf.out)
  have HTp := Lib.hid (ha5.there (pfC (.slice none 0 0) h0 0 2 (.slice a3 1 c3)).toArray.size (by rw [List.size_toArray, pfC_len _ _ HOk.out, zpf_len]))
  refine wp_store_mid (P := Tryz.prog) 31 (.tmp 3) (.tmp 14) rfl g3 0 (pfC (.slice none 0 0) h0 0 2 (.slice a3 1 c3)).toArray rfl rfl HTp.out HSf2.out (pfC_one _ _ _ _ _ rfl rfl) ?_
  rw [show (pfC (.slice none 0 0) h0 0 2 (.slice a3 1 c3)).toArray.toList = pfC (.slice none 0 0) h0 0 2 (.slice a3 1 c3) from rfl]
  have hbs := below_sets g3 (Nat.le_refl _) (pfC (.slice none 0 0) h0 0 2 (.slice a3 1 c3)) 0 (Below.refl g3 w5)
  have hb4 := below_sets g3 hg5 (pfC (.slice none 0 0) h0 0 2 (.slice a3 1 c3)) 0 hB5
  have HP6 := Lib.hid (show KnS g1 g2 g3 a3 c3 h0 (w5.setCells g3 0 (pfC (.slice none 0 0) h0 0 2 (.slice a3 1 c3))) from ⟨⟨ha5.setAll _ (by rw [pfC_len _ _ HOk.out, zpf_len]), HOk.out⟩, HDd.out.below hb4 HDd.out.1.lt, HVd.out.below hb4, hs_nil HPn.out, hs_other hv4 ht4 ha5⟩)
  have HB6 := Lib.hid (HBd.out.trans (hb4.mono HBd.out.size))
  refine HK.out _ _ ?_
  clear HK hbs hb4 ha5 hg5 hv4 ht4 HVd HDd HBd HS0 hB5 HTp
  generalize World.setCells _ _ _ _ = w6 at *
  go_upto_region 4 with fail
  have HS0 := Lib.hid (show KnS g1 g2 g3 a3 c3 h0 w6.drew from HP6.out)
  have HB4 := Lib.hid HB6.out.drew
  clear HP6 HB6
  refine wp_region_H (KnS g1 g2 g3 a3 c3 h0) (by kernel_rfl) ?_
  generalize w6.drew = w4' at *
  simp only [List.size_toArray, List.length_cons, List.length_nil, Nat.reduceAdd, Array.replicate_succ, Array.replicate_zero, List.push_toArray, List.nil_append, List.cons_append]
  refine wpAnyH_take (i := 0) (oi := ⟨some 15, _, _, _, _, _⟩) rfl (by kernel_rfl) (by kernel_rfl) (by kernel_rfl) (fun _ _ _ h => h) (yieldsIf_load_mid (by rfl) 31 (.tmp 3) rfl (g3) (0) rfl (pfC (.slice none 0 0) h0 0 2 (.slice a3 1 c3)) _ (fun w h => h.1.1.range) Tryz.underlying31 rfl HSf.out) HS0.out ?_
  dsimp only [Act.put]
  simp only [List.setIfInBounds_toArray, List.set_cons_zero, List.set_cons_succ]
  refine wpAnyH_take (i := 1) (oi := ⟨some 16, _, _, _, _, _⟩) (v := ?_) rfl (by kernel_rfl) (by kernel_rfl) (by kernel_rfl) (fun _ _ _ h => h) (Or.inl ⟨by rfl, ?_⟩) HS0.out ?_
  rotate_left
  · intro w hSw
    go_simp <;> with_reducible rfl
  dsimp only [Act.put]
  simp only [List.setIfInBounds_toArray, List.set_cons_zero, List.set_cons_succ]
  refine wpAnyH_take (i := 2) (oi := ⟨some 17, _, _, _, _, _⟩) (v := .pointer (some ⟨g1, 0, none⟩)) rfl (by kernel_rfl) (by kernel_rfl) (by kernel_rfl) (fun _ _ _ h => h) (Or.inl ⟨by rfl, ?_⟩) HS0.out ?_
  · intro w hSw
    go_simp <;> with_reducible rfl
  dsimp only [Act.put]
  simp only [List.setIfInBounds_toArray, List.set_cons_zero, List.set_cons_succ]
  refine wpAnyH_take (i := 3) (oi := ⟨some 18, _, _, _, _, _⟩) rfl (by kernel_rfl) (by kernel_rfl) (by kernel_rfl) (fun _ _ _ h => h) (yieldsIf_load_mid (by rfl) 23 (.tmp 17) rfl (g1) (0) rfl (bys hash1) _ (fun w h => (by have := colS_at h.2.2.1 (show 0 < [hash1, hash2].length by simp); simpa using this)) Tryz.underlying23 rfl (size_hash hash1 rfl)) HS0.out ?_
  dsimp only [Act.put]
  simp only [List.setIfInBounds_toArray, List.set_cons_zero, List.set_cons_succ]
  refine wpAnyH_take (i := 4) (oi := ⟨some 19, _, _, _, _, _⟩) rfl (by kernel_rfl) (by kernel_rfl) (by kernel_rfl) (fun _ _ _ h => h) (yieldsIf_load_mid (by rfl) 27 (.tmp 2) rfl (g2) (0) rfl (hdC (.slice none 0 0) h0) _ (fun w h => h.2.1.1.range) Tryz.underlying27 rfl HSh.out) HS0.out ?_
  dsimp only [Act.put]
  simp only [List.setIfInBounds_toArray, List.set_cons_zero, List.set_cons_succ]
  refine wpAnyH_one (i := 5) (oi := ⟨some 20, _, _, _, _, _⟩) (by kernel_rfl) rfl (by rfl) (fun K9 hK9 => ?_)
  have HK9 := Lib.hid hK9
  clear hK9
  go_simp
  have HCi := Lib.hid (rid_any h0 HOk.out (by rw [HP0.out]; exact Nat.zero_le _) (.slice none 0 0) w4' HS0.out.2.2.2.1)
  with_reducible refine HCi.out.mono ?_
  rintro e w5 ⟨rfl, hb5⟩
  dsimp only
  have hS4 := HS0.out.below hb5
  have HB5 := Lib.hid (HB4.out.trans (hb5.mono HB4.out.size))
  clear HS0 HB4 hb5 HCi
  have HS0 := Lib.hid hS4
  clear hS4
  refine HK9.out _ _ HS0.out ?_
  clear HK9
  simp only [List.setIfInBounds_toArray, List.set_cons_zero, List.set_cons_succ]
  refine wpAnyH_one (i := 6) (oi := ⟨some 21, _, _, _, _, _⟩) (by kernel_rfl) rfl (by rfl) (fun K9 hK9 => ?_)
  have HK9 := Lib.hid hK9
  clear hK9
  go_simp
  have HCi := Lib.hid (pcheck_any (.slice none 0 0) (.slice a3 1 c3) h0 HOk.out 0 2 [leafF hash2] hash1 (idF h0) hash1_h (tagF_h _ _) w5 HS0.out.2.2.2.1 HS0.out.2.2.2.2)
  rw [if_pos HOk1.out] at HCi
  with_reducible refine HCi.out.mono ?_
  rintro e w6 ⟨rfl, hb6⟩
  dsimp only
  have hS4 := HS0.out.below hb6
  have HB6 := Lib.hid (HB5.out.trans (hb6.mono HB5.out.size))
  clear HS0 HB5 hb6 HCi
  have HS0 := Lib.hid hS4
  clear hS4
  refine HK9.out _ _ HS0.out ?_
  clear HK9
  simp only [List.setIfInBounds_toArray, List.set_cons_zero, List.set_cons_succ]
  refine wpAnyH_one (i := 7) (oi := ⟨some 22, _, _, _, _, _⟩) (by kernel_rfl) rfl (by rfl) (fun K9 hK9 => ?_)
  have HK9 := Lib.hid hK9
  clear hK9
  go_simp
  have HCi := Lib.hid (num_any' 0 w6)
  with_reducible refine HCi.out.mono ?_
  rintro e w7 ⟨rfl, hb7⟩
  dsimp only
  have hS4 := HS0.out.below hb7
  have HB7 := Lib.hid (HB6.out.trans (hb7.mono HB6.out.size))
  clear HS0 HB6 hb7 HCi
  have HS0 := Lib.hid hS4
  clear hS4
  refine HK9.out _ _ HS0.out ?_
  clear HK9
  simp only [List.setIfInBounds_toArray, List.set_cons_zero, List.set_cons_succ]
  refine wpAnyH_take (i := 8) (oi := ⟨some 23, _, _, _, _, _⟩) (v := .bool true) rfl (by kernel_rfl) (by kernel_rfl) (by kernel_rfl) (fun _ _ _ h => h) (Or.inl ⟨by rfl, ?_⟩) HS0.out ?_
  · intro w hSw
    go_simp <;> with_reducible rfl
  dsimp only [Act.put]
  simp only [List.setIfInBounds_toArray, List.set_cons_zero, List.set_cons_succ]
  refine wpAnyH_take (i := 9) (oi := ⟨some 24, _, _, _, _, _⟩) (v := ?_) rfl (by kernel_rfl) (by kernel_rfl) (by kernel_rfl) (fun _ _ _ h => h) (Or.inl ⟨by rfl, ?_⟩) HS0.out ?_
  rotate_left
  · intro w hSw
    go_simp <;> with_reducible rfl
  dsimp only [Act.put]
  simp only [List.setIfInBounds_toArray, List.set_cons_zero, List.set_cons_succ]
  refine wpAnyH_take (i := 10) (oi := ⟨some 25, _, _, _, _, _⟩) rfl (by kernel_rfl) (by kernel_rfl) (by kernel_rfl) (fun _ _ _ h => h) (yieldsIf_load_mid (by rfl) 31 (.tmp 3) rfl (g3) (0) rfl (pfC (.slice none 0 0) h0 0 2 (.slice a3 1 c3)) _ (fun w h => h.1.1.range) Tryz.underlying31 rfl HSf.out) HS0.out ?_
  dsimp only [Act.put]
  simp only [List.setIfInBounds_toArray, List.set_cons_zero, List.set_cons_succ]
  refine wpAnyH_take (i := 11) (oi := ⟨some 26, _, _, _, _, _⟩) (v := ?_) rfl (by kernel_rfl) (by kernel_rfl) (by kernel_rfl) (fun _ _ _ h => h) (Or.inl ⟨by rfl, ?_⟩) HS0.out ?_
  rotate_left
  · intro w hSw
    go_simp <;> with_reducible rfl
  dsimp only [Act.put]
  simp only [List.setIfInBounds_toArray, List.set_cons_zero, List.set_cons_succ]
  refine wpAnyH_take (i := 12) (oi := ⟨some 27, _, _, _, _, _⟩) (v := .pointer (some ⟨g1, 32, none⟩)) rfl (by kernel_rfl) (by kernel_rfl) (by kernel_rfl) (fun _ _ _ h => h) (Or.inl ⟨by rfl, ?_⟩) HS0.out ?_
  · intro w hSw
    go_simp <;> with_reducible rfl
  dsimp only [Act.put]
  simp only [List.setIfInBounds_toArray, List.set_cons_zero, List.set_cons_succ]
  refine wpAnyH_take (i := 13) (oi := ⟨some 28, _, _, _, _, _⟩) rfl (by kernel_rfl) (by kernel_rfl) (by kernel_rfl) (fun _ _ _ h => h) (yieldsIf_load_mid (by rfl) 23 (.tmp 27) rfl (g1) (32) rfl (bys hash2) _ (fun w h => (by have := colS_at h.2.2.1 (show 1 < [hash1, hash2].length by simp); simpa using this)) Tryz.underlying23 rfl (size_hash hash2 rfl)) HS0.out ?_
  dsimp only [Act.put]
  simp only [List.setIfInBounds_toArray, List.set_cons_zero, List.set_cons_succ]
  refine wpAnyH_take (i := 14) (oi := ⟨some 29, _, _, _, _, _⟩) rfl (by kernel_rfl) (by kernel_rfl) (by kernel_rfl) (fun _ _ _ h => h) (yieldsIf_load_mid (by rfl) 27 (.tmp 2) rfl (g2) (0) rfl (hdC (.slice none 0 0) h0) _ (fun w h => h.2.1.1.range) Tryz.underlying27 rfl HSh.out) HS0.out ?_
  dsimp only [Act.put]
  simp only [List.setIfInBounds_toArray, List.set_cons_zero, List.set_cons_succ]
  refine wpAnyH_one (i := 15) (oi := ⟨some 30, _, _, _, _, _⟩) (by kernel_rfl) rfl (by rfl) (fun K9 hK9 => ?_)
  have HK9 := Lib.hid hK9
  clear hK9
  go_simp
  have HCi := Lib.hid (rid_any h0 HOk.out (by rw [HP0.out]; exact Nat.zero_le _) (.slice none 0 0) w7 HS0.out.2.2.2.1)
  with_reducible refine HCi.out.mono ?_
  rintro e w8 ⟨rfl, hb8⟩
  dsimp only
  have hS4 := HS0.out.below hb8
  have HB8 := Lib.hid (HB7.out.trans (hb8.mono HB7.out.size))
  clear HS0 HB7 hb8 HCi
  have HS0 := Lib.hid hS4
  clear hS4
  refine HK9.out _ _ HS0.out ?_
  clear HK9
  simp only [List.setIfInBounds_toArray, List.set_cons_zero, List.set_cons_succ]
  refine wpAnyH_one (i := 16) (oi := ⟨some 31, _, _, _, _, _⟩) (by kernel_rfl) rfl (by rfl) (fun K9 hK9 => ?_)
  have HK9 := Lib.hid hK9
  clear hK9
  go_simp
  have HCi := Lib.hid (pcheck_any (.slice none 0 0) (.slice a3 1 c3) h0 HOk.out 0 2 [leafF hash2] hash2 (idF h0) hash2_h (tagF_h _ _) w8 HS0.out.2.2.2.1 HS0.out.2.2.2.2)
  rw [if_neg HOk2.out] at HCi
  with_reducible refine HCi.out.mono ?_
  rintro e w9 ⟨rfl, hb9⟩
  dsimp only
  have hS4 := HS0.out.below hb9
  have HB9 := Lib.hid (HB8.out.trans (hb9.mono HB8.out.size))
  clear HS0 HB8 hb9 HCi
  have HS0 := Lib.hid hS4
  clear hS4
  refine HK9.out _ _ HS0.out ?_
  clear HK9
  simp only [List.setIfInBounds_toArray, List.set_cons_zero, List.set_cons_succ]
  refine wpAnyH_one (i := 17) (oi := ⟨some 32, _, _, _, _, _⟩) (by kernel_rfl) rfl (by rfl) (fun K9 hK9 => ?_)
  have HK9 := Lib.hid hK9
  clear hK9
  go_simp
  have HCi := Lib.hid (num_any' 21 w9)
  with_reducible refine HCi.out.mono ?_
  rintro e w10 ⟨rfl, hb10⟩
  dsimp only
  have hS4 := HS0.out.below hb10
  have HB10 := Lib.hid (HB9.out.trans (hb10.mono HB9.out.size))
  clear HS0 HB9 hb10 HCi
  have HS0 := Lib.hid hS4
  clear hS4
  refine HK9.out _ _ HS0.out ?_
  clear HK9
  simp only [List.setIfInBounds_toArray, List.set_cons_zero, List.set_cons_succ]
  refine wpAnyH_take (i := 18) (oi := ⟨some 33, _, _, _, _, _⟩) (v := .bool true) rfl (by kernel_rfl) (by kernel_rfl) (by kernel_rfl) (fun _ _ _ h => h) (Or.inl ⟨by rfl, ?_⟩) HS0.out ?_
  · intro w hSw
    go_simp <;> with_reducible rfl
  dsimp only [Act.put]
  simp only [List.setIfInBounds_toArray, List.set_cons_zero, List.set_cons_succ]
  refine wpAnyH_take (i := 19) (oi := ⟨some 34, _, _, _, _, _⟩) (v := .bool true) rfl (by kernel_rfl) (by kernel_rfl) (by kernel_rfl) (fun _ _ _ h => h) (Or.inl ⟨by rfl, ?_⟩) HS0.out ?_
  · intro w hSw
    go_simp <;> with_reducible rfl
  dsimp only [Act.put]
  simp only [List.setIfInBounds_toArray, List.set_cons_zero, List.set_cons_succ]
  refine wpAnyH_take (i := 20) (oi := ⟨some 0, _, _, _, _, _⟩) (v := ?_) rfl (by kernel_rfl) (by kernel_rfl) (by kernel_rfl) (fun _ _ _ h => h) (Or.inl ⟨by rfl, ?_⟩) HS0.out ?_
  rotate_left
  · intro w hSw
    go_simp <;> with_reducible rfl
  dsimp only [Act.put]
  simp only [List.setIfInBounds_toArray, List.set_cons_zero, List.set_cons_succ]
  refine wpAnyH_done (by kernel_rfl) ?_ _
  go_wp2
  go_ret
  exact ⟨rfl, HB10.out⟩
end Go.Proofs.YtndhmpeabfmfgaaGreatDoor
