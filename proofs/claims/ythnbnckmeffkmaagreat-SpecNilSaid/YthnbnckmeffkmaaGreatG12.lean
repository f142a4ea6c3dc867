/- merkle.above. -/
import Derived.Test.YthnbnckmeffkmaaGreatG11
import Derived.Test.YthnbnckmeffkmaaGreatG07
import Derived.WalkMore
import Derived.BigQuiet
namespace Go.Proofs.YthnbnckmeffkmaaGreat
open Go.RowKit Go.Lib
set_option linter.unusedVariables false
set_option linter.unusedSimpArgs false
attribute [local go_sem ↓] Go.wp_at_zero Go.wp_at_succ

theorem above_get (kn : List Nat → List Nat → List Nat) : ∀ (l : List (List Nat)) (k : Nat), 2 * k < l.length → (above kn l)[k]? = some (if 2 * k + 1 < l.length then kn (l.getD (2 * k) []) (l.getD (2 * k + 1) []) else l.getD (2 * k) [])
  | [], k, h => by simp at h
  | [a], k, h => by
    obtain rfl : k = 0 := by simp at h; omega
    simp [above]
  | a :: b :: r, k, h => by
    cases k with
    | zero => simp [above]
    | succ k =>
      rw [above, List.getElem?_cons_succ, above_get kn r k (by simp at h; omega)]
      have e1 : (a :: b :: r).getD (2 * (k + 1)) [] = r.getD (2 * k) [] := by rw [show 2 * (k + 1) = 2 * k + 1 + 1 by omega]; simp [List.getD]
      have e2 : (a :: b :: r).getD (2 * (k + 1) + 1) [] = r.getD (2 * k + 1) [] := by rw [show 2 * (k + 1) + 1 = 2 * k + 1 + 1 + 1 by omega]; simp [List.getD]
      rw [e1, e2]
      congr 1
      by_cases hc : 2 * k + 1 < r.length
      · rw [if_pos hc, if_pos (by simp; omega)]
      · rw [if_neg hc, if_neg (by simp; omega)]
theorem above_h (l : List (List Nat)) (h : ∀ x ∈ l, IsH x) : ∀ x ∈ above knotF l, IsH x := by
  intro x hx
  obtain ⟨k, hk⟩ := List.mem_iff_getElem?.1 hx
  have hlt : k < (above knotF l).length := (List.getElem?_eq_some_iff.1 hk).1
  rw [above_len] at hlt
  rw [above_get knotF l k (by omega)] at hk
  cases hk
  split
  · exact tagF_h _ _
  · exact IsH.getD h (by omega)

/-- append(v, h) as one operation. -/
theorem wp_appH {o : Oper} {a : Act} {K : Act → World → Prop} {Q : Exit → Act → World → Prop} {W : World} (base : Nat) (s x : Operand)
    (ho : o.op = .call { callee := .builtin .append, args := #[s, x], argTypes := #[39, 39] }) (v : Value) (X Z : List (List Nat)) (H : List Nat) (cs : Array Value) (hcs : cs = (bys H).toArray) (hZ : X ++ [H] = Z) (hH : IsH H) (hX : ∀ h ∈ X, IsH h) (hs : a.eval s = v)
    (hx : a.eval x = .slice (some ⟨W.heap.size, 0, none⟩) 1 1) (HO : W.ownsRow base 24 32 v X.length (bys X.flatten)) (hbase : base ≤ W.heap.size) (hl : (X.length + 1) * 32 ≤ 140737488355328)
    (h : ∀ v1 w1, Hid (w1.ownsRow base 24 32 v1 Z.length (bys Z.flatten)) → Hid (∀ B w0, Below B w0 W → B ≤ base → Below B w0 w1) → K (a.put o.dst v1) w1) :
    o.wp Tryz.prog a (W.alloc (.cells cs 24)) K Q := by
  subst hZ hcs
  obtain ⟨i0, hi, hzz⟩ := Option.map_eq_some_iff.1 infoH
  simp only [Prod.mk.injEq] at hzz
  obtain ⟨hz0, hz1, hz2⟩ := hzz
  have ha := Arr.made W 24 (bys H)
  have hg0 : W.grownBy (W.alloc (.cells (bys H).toArray 24)) v.ownBlock := World.grownBy_alloc W _ _
  refine wp_append_own (W.alloc (.cells (bys H).toArray 24)) s x 39 ho base 24 i0 (.agg (List.replicate 32 (.int .u8 0)).toArray) 32 32 Tryz.underlying39 hi hz0 hz1 hz2 (by rfl) (by omega) v X.length (bys X.flatten) hs (HO.alloc _)
    ⟨W.heap.size, 0, none⟩ 1 1 (bys H) hx (by rw [bys_len, hH.1]) (fun j u hu => by rw [add_nospot, ha.cell]; exact hu) (bys_one H) (by unfold maxLen; omega) hl (by simp; omega) ?_
  intro v1 w1 hown hg _
  have hg2 := World.grownBy.trans hg0 hg
  refine h v1 w1 ?_ (fun B w0 hB hb => hB.grown hg2 (by omega) (fun k hk => Nat.le_trans hb (HO.lt k hk).1))
  show World.ownsRow _ _ _ _ _ _ _
  rw [← bys_app] at hown
  simpa using hown

set_option maxRecDepth 100000 in
set_option maxHeartbeats 3200000 in
theorem above_any (v : Value) (Hs : List (List Nat)) (w : World) (hl : Hs.length ≤ 1048576) (hv : HsIs w v Hs) :
    Calls Tryz.prog 122 #[v] w fun e w' => ∃ v', e = .returned v' ∧ HsIs w' v' (above knotF Hs) ∧ Below w.heap.size w w' := by
  obtain ⟨a0, c0, rfl⟩ := hv.form
  have HV := Lib.hid hv
  have HLl := Lib.hid hl
  have HAl := Lib.hid (above_len knotF Hs)
  have HAh := Lib.hid (above_h Hs hv.1)
  clear hv hl
  go_enter Tryz.func122, Tryz.ntmps122
  have HO0 := Lib.hid (show w.ownsRow w.heap.size 24 32 (.slice none 0 0) (((above knotF Hs).take 0)).length (bys ((above knotF Hs).take 0).flatten) from own_nil _ _ _ _)
  go_wp2
  go_loopg [3, 4] ((Hs.length + 1) / 2) (fun g vv vn wq => ∃ k : Nat, Hid (g + k = (Hs.length + 1) / 2) ∧ vn = .int .i64 ((2 * k : Nat) : Int) ∧ Hid (wq.ownsRow w.heap.size 24 32 vv ((above knotF Hs).take k).length (bys ((above knotF Hs).take k).flatten)) ∧ Hid (Below w.heap.size w wq))
  case atStart => exact ⟨0, rfl, rfl, HO0.out, Below.refl _ _⟩
  case round =>
    obtain ⟨k, hk, rfl, ho, hb⟩ := hrel
    have HK := Lib.hid hk.out
    have HO := Lib.hid ho.out
    have HB := Lib.hid hb.out
    clear hk ho hb HO0
    have hll := HLl.out
    obtain ⟨z, hz⟩ : ∃ z : Int, ((2 * k : Nat) : Int) = z := ⟨_, rfl⟩
    rw [hz]
    cases gk with
    | zero =>
      have hlt : ¬ (z < (Hs.length : Int)) := by have := HK.out; omega
      have hO := HO.out
      rw [List.take_of_length_le (by rw [HAl.out]; have := HK.out; omega)] at hO
      have HHs := Lib.hid (own_hs hO HAh.out)
      clear hO HO hz
      go_wp2
      go_ret
      exact ⟨_, rfl, HHs.out, HB.out⟩
    | succ g =>
      have hkl : 2 * k < Hs.length := by have := HK.out; omega
      have hlt : (z < (Hs.length : Int)) := by omega
      have hget := above_get knotF Hs k hkl
      rcases HV.out.2 with ⟨_, h0⟩ | ⟨b, off, c, e1, q1, q2, q3⟩
      · rw [h0] at hkl; simp at hkl
      cases e1
      have hr := ((HV.out.below HB.out).2)
      have hrg : ∀ j, j < Hs.length → wr.rangeAt b (off + j * 32) (bys (Hs.getD j [])) := by
        rcases hr with ⟨h, _⟩ | ⟨b', off', c', e2, _, _, q⟩
        · cases h
        · cases e2; exact q
      have hb0 := World.block_lt_of_cell? w _ (q3 (2 * k) hkl 0 _ (bys_get _ 0 (by rw [(IsH.getD HV.out.1 hkl).1]; omega)))
      have Hb0 := Lib.hid hb0
      have iz : 0 ≤ z := by omega
      obtain ⟨z1, hz1⟩ : ∃ z1 : Int, z + 1 = z1 := ⟨_, rfl⟩
      have vz : IntKind.i64.wrap (z + 1) = z1 := by rw [IntKind.wrap_i64]; omega
      obtain ⟨H, hHe⟩ : ∃ H, Hs.getD (2 * k) [] = H := ⟨_, rfl⟩
      have hH : IsH H := by rw [← hHe]; exact IsH.getD HV.out.1 hkl
      have h1 := hrg (2 * k) hkl
      rw [hHe, show 2 * k = z.toNat by omega] at h1
      rw [hHe] at hget
      obtain ⟨X1, hX1⟩ : ∃ X1, X1 = (above knotF Hs).take k := ⟨_, rfl⟩
      obtain ⟨X2, hX2⟩ : ∃ X2, X2 = (above knotF Hs).take (k + 1) := ⟨_, rfl⟩
      have hX1h : ∀ h ∈ X1, IsH h := fun h hm => by rw [hX1] at hm; exact HAh.out h (List.mem_of_mem_take hm)
      have hO := HO.out
      rw [← hX1] at hO
      have HLx := Lib.hid (show (X1.length + 1) * 32 ≤ 140737488355328 by rw [hX1, List.length_take, HAl.out]; omega)
      have hX2e : X2 = X1 ++ (above knotF Hs)[k]?.toList := by rw [hX2, hX1, List.take_add_one]
      have HH := Lib.hid hH
      have HR1 := Lib.hid h1
      have HO1 := Lib.hid hO
      have HX1h := Lib.hid hX1h
      have HX2 := Lib.hid hX2
      have HZ := Lib.hid hz
      have HZ1 := Lib.hid hz1
      have HSh := Lib.hid (size_hash H hH.1)
      by_cases hc : 2 * k + 1 < Hs.length
      · have hlt1 : z1 < (Hs.length : Int) := by omega
        obtain ⟨J, hJe⟩ : ∃ J, Hs.getD (2 * k + 1) [] = J := ⟨_, rfl⟩
        have hJ : IsH J := by rw [← hJe]; exact IsH.getD HV.out.1 hc
        have h2 := hrg (2 * k + 1) hc
        rw [hJe, show 2 * k + 1 = z1.toNat by omega] at h2
        rw [if_pos hc, hJe] at hget
        rw [hget] at hX2e
        have H12 := Lib.hid (show X1 ++ [knotF H J] = X2 by rw [hX2e]; rfl)
        have HJ := Lib.hid hJ
        have HSh2 := Lib.hid (size_hash J hJ.1)
        have HS0 := Lib.hid (And.intro h1 h2)
        have iz1 : 0 ≤ z1 := by omega
        clear hb0 hr hrg hHe hH hJe hJ h1 h2 hget hX1 hX2 hX1h hO hX2e hz hz1 hc q1 q2 q3 hkl HR1
        go_upto_region 6 with fail
        refine wp_region_T (fun w' => w'.rangeAt b (off + z.toNat * 32) (bys H) ∧ w'.rangeAt b (off + z1.toNat * 32) (bys J)) 13 (by kernel_rfl) ?_
        simp only [List.size_toArray, List.length_cons, List.length_nil, Nat.reduceAdd, Array.replicate_succ, Array.replicate_zero, List.push_toArray, List.nil_append, List.cons_append]
        refine wpAnyT_take (i := 0) (oi := ⟨some 16, _, _, _, _, _⟩) (v := ?_) rfl (by kernel_rfl) (by kernel_rfl) (by kernel_rfl) (by kernel_rfl) (fun _ _ _ h => h) (Or.inl ⟨by rfl, ?_⟩) HS0.out ?_
        rotate_left
        · intro w hSw; go_simp <;> with_reducible rfl
        dsimp only [Act.put]
        simp only [List.setIfInBounds_toArray, List.set_cons_zero, List.set_cons_succ]
        refine wpAnyT_take (i := 1) (oi := ⟨some 17, _, _, _, _, _⟩) (v := ?_) rfl (by kernel_rfl) (by kernel_rfl) (by kernel_rfl) (by kernel_rfl) (fun _ _ _ h => h) (Or.inl ⟨by rfl, ?_⟩) HS0.out ?_
        rotate_left
        · intro w hSw; go_simp <;> with_reducible rfl
        dsimp only [Act.put]
        simp only [List.setIfInBounds_toArray, List.set_cons_zero, List.set_cons_succ]
        refine wpAnyT_take (i := 2) (oi := ⟨some 18, _, _, _, _, _⟩) (v := ?_) rfl (by kernel_rfl) (by kernel_rfl) (by kernel_rfl) (by kernel_rfl) (fun _ _ _ h => h) (Or.inl ⟨by rfl, ?_⟩) HS0.out ?_
        rotate_left
        · intro w hSw; go_simp <;> with_reducible rfl
        dsimp only [Act.put]
        simp only [List.setIfInBounds_toArray, List.set_cons_zero, List.set_cons_succ]
        refine wpAnyT_take (i := 3) (oi := ⟨some 19, _, _, _, _, _⟩) (v := ?_) rfl (by kernel_rfl) (by kernel_rfl) (by kernel_rfl) (by kernel_rfl) (fun _ _ _ h => h) (Or.inl ⟨by rfl, ?_⟩) HS0.out ?_
        rotate_left
        · intro w hSw; go_simp <;> with_reducible rfl
        dsimp only [Act.put]
        simp only [List.setIfInBounds_toArray, List.set_cons_zero, List.set_cons_succ]
        refine wpAnyT_take (i := 4) (oi := ⟨some 20, _, _, _, _, _⟩) rfl (by kernel_rfl) (by kernel_rfl) (by kernel_rfl) (by kernel_rfl) (fun _ _ _ h => h) (yieldsIf_load_mid (by rfl) 24 (.tmp 19) rfl b (off + z.toNat * 32) rfl (bys H) _ (fun w h => h.1) Tryz.underlying24 rfl HSh.out) HS0.out ?_
        dsimp only [Act.put]
        simp only [List.setIfInBounds_toArray, List.set_cons_zero, List.set_cons_succ]
        refine wpAnyT_take (i := 5) (oi := ⟨some 21, _, _, _, _, _⟩) (v := ?_) rfl (by kernel_rfl) (by kernel_rfl) (by kernel_rfl) (by kernel_rfl) (fun _ _ _ h => h) (Or.inl ⟨by rfl, ?_⟩) HS0.out ?_
        rotate_left
        · intro w hSw; go_simp <;> with_reducible rfl
        dsimp only [Act.put]
        simp only [List.setIfInBounds_toArray, List.set_cons_zero, List.set_cons_succ]
        refine wpAnyT_take (i := 6) (oi := ⟨some 22, _, _, _, _, _⟩) (v := ?_) rfl (by kernel_rfl) (by kernel_rfl) (by kernel_rfl) (by kernel_rfl) (fun _ _ _ h => h) (Or.inl ⟨by rfl, ?_⟩) HS0.out ?_
        rotate_left
        · intro w hSw; go_simp <;> with_reducible rfl
        dsimp only [Act.put]
        simp only [List.setIfInBounds_toArray, List.set_cons_zero, List.set_cons_succ]
        refine wpAnyT_take (i := 7) (oi := ⟨some 23, _, _, _, _, _⟩) (v := ?_) rfl (by kernel_rfl) (by kernel_rfl) (by kernel_rfl) (by kernel_rfl) (fun _ _ _ h => h) (Or.inl ⟨by rfl, ?_⟩) HS0.out ?_
        rotate_left
        · intro w hSw; go_simp <;> with_reducible rfl
        dsimp only [Act.put]
        simp only [List.setIfInBounds_toArray, List.set_cons_zero, List.set_cons_succ]
        refine wpAnyT_take (i := 8) (oi := ⟨some 24, _, _, _, _, _⟩) (v := ?_) rfl (by kernel_rfl) (by kernel_rfl) (by kernel_rfl) (by kernel_rfl) (fun _ _ _ h => h) (Or.inl ⟨by rfl, ?_⟩) HS0.out ?_
        rotate_left
        · intro w hSw; go_simp <;> with_reducible rfl
        dsimp only [Act.put]
        simp only [List.setIfInBounds_toArray, List.set_cons_zero, List.set_cons_succ]
        refine wpAnyT_take (i := 9) (oi := ⟨some 25, _, _, _, _, _⟩) rfl (by kernel_rfl) (by kernel_rfl) (by kernel_rfl) (by kernel_rfl) (fun _ _ _ h => h) (yieldsIf_load_mid (by rfl) 24 (.tmp 24) rfl b (off + z1.toNat * 32) rfl (bys J) _ (fun w h => h.2) Tryz.underlying24 rfl HSh2.out) HS0.out ?_
        dsimp only [Act.put]
        simp only [List.setIfInBounds_toArray, List.set_cons_zero, List.set_cons_succ]
        refine wpAnyT_one (i := 10) (oi := ⟨some 26, _, _, _, _, _⟩) (by kernel_rfl) rfl rfl (fun K9 hK9 => ?_)
        have HK9 := Lib.hid hK9
        clear hK9
        go_simp
        refine (knot_any H J HH.out HJ.out _).mono ?_
        rintro e w3 ⟨rfl, hb3⟩
        dsimp only
        have hbr : Below wr.heap.size wr w3 := (Below.refl _ _).drew.trans hb3
        have hlb : b < wr.heap.size := World.block_lt_of_cell? wr _ (HS0.out.1 0 _ (bys_get _ 0 (by rw [HH.out.1]; omega)))
        have HS3 := Lib.hid (And.intro (rangeAt_below HS0.out.1 hbr hlb) (rangeAt_below HS0.out.2 hbr hlb))
        have HBw := Lib.hid (HB.out.trans (hbr.mono HB.out.size))
        have HO3 := Lib.hid (own_below HO1.out hbr)
        have Hlb := Lib.hid (Nat.lt_of_lt_of_le hlb hbr.size)
        obtain ⟨R, hR⟩ : ∃ R, R = knotF H J := ⟨_, rfl⟩
        rw [← hR] at H12 ⊢
        have HRh := Lib.hid (show IsH R by rw [hR]; exact tagF_h _ _)
        clear hbr hlb hb3 hR
        refine HK9.out _ _ (fun _ => HS3.out) ?_
        clear HK9
        simp only [List.setIfInBounds_toArray, List.set_cons_zero, List.set_cons_succ]
        refine wpAnyT_one (i := 11) (oi := ⟨some 27, _, _, _, _, _⟩) (by kernel_rfl) rfl rfl (fun K9 hK9 => ?_)
        have HK9 := Lib.hid hK9
        clear hK9
        have hbl : (bys R).length = 32 := by rw [bys_len]; exact HRh.out.1
        go_simp
        clear hbl
        rw [fold_cells _ _ (by simp [bys_len, HRh.out.1])]
        have HBa := Lib.hid (show Below w3.heap.size w3 (w3.alloc (.cells (bys R).toArray 24)) from (Below.refl _ _).alloc (Nat.le_refl _) _)
        refine HK9.out _ _ (fun _ => ⟨rangeAt_below HS3.out.1 HBa.out Hlb.out, rangeAt_below HS3.out.2 HBa.out Hlb.out⟩) ?_
        clear HK9
        simp only [List.setIfInBounds_toArray, List.set_cons_zero, List.set_cons_succ]
        refine wpAnyT_one (i := 12) (oi := ⟨some 28, _, _, _, _, _⟩) (by kernel_rfl) rfl rfl (fun K9 hK9 => ?_)
        have HK9 := Lib.hid hK9
        clear hK9
        refine wp_appH w.heap.size (.tmp 16) (.tmp 27) rfl u3 X1 X2 R _ rfl H12.out HRh.out HX1h.out rfl rfl HO3.out HBw.out.size HLx.out ?_
        intro v4 w4 ho4 hb4
        have hO4 := ho4.out
        rw [HX2.out] at hO4
        have HO4 := Lib.hid hO4
        have HB4 := Lib.hid (hb4.out w.heap.size w HBw.out (Nat.le_refl _))
        have hb34 := hb4.out w.heap.size w3 (Below.refl _ _) (Nat.le_refl _)
        have HS4 := Lib.hid (And.intro (rangeAt_below HS3.out.1 hb34 Hb0.out) (rangeAt_below HS3.out.2 hb34 Hb0.out))
        clear ho4 hb4 hO4 hb34
        refine HK9.out _ _ (fun _ => HS4.out) ?_
        clear HK9
        dsimp only [Act.put]
        simp only [List.setIfInBounds_toArray, List.set_cons_zero, List.set_cons_succ]
        refine wpAnyT_one (i := 13) (oi := ⟨some 3, _, _, _, _, _⟩) (by kernel_rfl) rfl rfl (fun K9 hK9 => ?_)
        have HK9 := Lib.hid hK9
        clear hK9
        go_simp
        refine HK9.out _ _ (fun h => absurd rfl h) ?_
        clear HK9
        refine wpAnyT_done (by kernel_rfl) ?_ _
        go_wp2
        go_roundg g
        case measure => omega
        case rel =>
          exact ⟨k + 1, by show _ = _; have := HK.out; omega, by have := HZ.out; congr 1; omega, HO4.out, HB4.out⟩
      · have hlt1 : ¬ (z1 < (Hs.length : Int)) := by omega
        rw [if_neg hc] at hget
        rw [hget] at hX2e
        have H12 := Lib.hid (show X1 ++ [H] = X2 by rw [hX2e]; rfl)
        clear hb0 hr hrg hHe hH h1 hget hX1 hX2 hX1h hO hX2e hz hz1 hc q1 q2 q3 hkl
        go_upto_region 7 with fail
        go_step
        iterate 12 (first | go_values | go_skip | go_guarded | go_step | go_upon)
        refine wpList_load_mid (P := Tryz.prog) rfl 24 _ rfl b (off + z.toNat * 32) rfl _ _ HR1.out Tryz.underlying24 rfl HSh.out ?_
        have hbl : (bys H).length = 32 := by rw [bys_len]; exact HH.out.1
        go_wp2_with (at_builtin; refine appH w.heap.size rfl (.tmp 29) (.tmp 34) rfl u3 X1 X2 H _ (fold_cells _ _ (by simp [bys_len, HH.out.1])) H12.out HH.out HX1h.out rfl rfl HO1.out HB.out.size HLx.out ?_)
        clear hbl
        intro v4 w4 ho4 hb4
        have hO4 := ho4.out
        rw [HX2.out] at hO4
        have HO4 := Lib.hid hO4
        have HB4 := Lib.hid (hb4.out w.heap.size w HB.out (Nat.le_refl _))
        clear ho4 hb4 hO4
        go_wp2
        go_roundg g
        case measure => omega
        case rel =>
          exact ⟨k + 1, by show _ = _; have := HK.out; omega, by have := HZ.out; congr 1; omega, HO4.out, HB4.out⟩
end Go.Proofs.YthnbnckmeffkmaaGreat
/- merkle.Root. -/
namespace Go.Proofs.YthnbnckmeffkmaaGreat
open Go.RowKit Go.Lib
set_option linter.unusedVariables false
set_option linter.unusedSimpArgs false
attribute [local go_sem ↓] Go.wp_at_zero Go.wp_at_succ

/-- The root of hashes. -/
def mrootF (Hs : List (List Nat)) : List Nat := topF Hs.length (leftR [] knotF (Hs.map leafF))
theorem mrootF_h (Hs : List (List Nat)) : IsH (mrootF Hs) := tagF_h _ _
theorem Low.nil (w : World) (n k : Nat) : Low w (.slice none n k) := fun a n k e => by cases e
theorem rangeAt.byts {w : World} {b off : Nat} {H : List Nat} (h : w.rangeAt b off (bys H)) (hH : IsH H) : Byts w (.slice (some ⟨b, off, none⟩) 32 32) H := by
  refine ⟨hH.2, .inr ⟨⟨b, off, none⟩, 32, by rw [hH.1], by rw [hH.1]; exact Nat.le_refl _, by unfold maxLen; omega, fun j hj => ?_⟩⟩
  rw [show (⟨b, off, none⟩ : Addr).add j = ⟨b, off + j, none⟩ by unfold Addr.add; split <;> simp_all]
  exact h j _ (bys_get _ _ hj)
theorem rangeAt.low {w : World} {b off : Nat} {H : List Nat} (h : w.rangeAt b off (bys H)) (hH : IsH H) (n k : Nat) : Low w (.slice (some ⟨b, off, none⟩) n k) := fun a n k e => by
  cases e
  exact World.block_lt_of_cell? w _ (h 0 _ (bys_get _ 0 (by rw [hH.1]; omega)))

set_option maxRecDepth 100000 in
set_option maxHeartbeats 1600000 in
theorem mroot_any (v : Value) (Hs : List (List Nat)) (w : World) (hl : Hs.length ≤ 1048576) (hv : HsIs w v Hs) :
    Calls Tryz.prog 77 #[v] w fun e w' => e = .returned (.agg (bys (mrootF Hs)).toArray) ∧ Below w.heap.size w w' := by
  have hz := zero32
  obtain ⟨a0, c0, rfl⟩ := hv.form
  have HV := Lib.hid hv
  have HLl := Lib.hid hl
  clear hv hl
  go_enter Tryz.func77, Tryz.ntmps77
  go_upto_region 1 with fail
  have hpk := And.intro (Arr.made w 24 (List.replicate 32 (.int .u8 0))) ((Below.refl w.heap.size w).alloc (Nat.le_refl _) (.cells (List.replicate 32 (.int .u8 0)).toArray 24))
  simp only [List.reduceReplicate] at hpk
  have HPk := Lib.hid hpk
  clear hpk hz
  generalize World.alloc _ _ = w1 at HPk ⊢
  go_wp2_with fail
  refine (leaves_any _ Hs w1 HLl.out (HV.out.below HPk.out.2)).mono ?_
  rintro e w2 ⟨v2, rfl, hv2, hb2⟩
  dsimp only
  have HA2 := Lib.hid (show ∃ Z : List Value, Z.length = 32 ∧ Arr w2 w.heap.size 24 Z from ⟨_, rfl, HPk.out.1.below hb2 HPk.out.1.lt⟩)
  have HB2 := Lib.hid (HPk.out.2.trans (hb2.mono HPk.out.2.size))
  have HV2 := Lib.hid hv2
  clear hv2 hb2 HPk
  go_wp2
  go_loopg [3] Hs.length (fun g vv wq => ∃ R : List (List Nat), Hid (HsIs wq vv R) ∧ R.length = g ∧ Hid (R.length ≤ Hs.length ∧ (R.length = 0 → Hs.length = 0)) ∧ Hid (leftR [] knotF R = leftR [] knotF (Hs.map leafF)) ∧ Hid (∃ Z : List Value, Z.length = 32 ∧ Arr wq w.heap.size 24 Z) ∧ Hid (Below w.heap.size w wq))
  case atStart => exact ⟨_, HV2.out, by rw [List.length_map], ⟨by rw [List.length_map]; exact Nat.le_refl _, by rw [List.length_map]; exact id⟩, rfl, HA2.out, HB2.out⟩
  case round =>
    obtain ⟨R, hv, rfl, hr, hle, ha, hb⟩ := hrel
    have HVr := Lib.hid hv.out
    have HR := Lib.hid hr.out
    have HLe := Lib.hid hle.out
    have HA := Lib.hid ha.out
    have HB := Lib.hid hb.out
    clear hv hr hle ha hb HA2 HB2 HV2
    obtain ⟨a3, c3, rfl⟩ := HVr.out.form
    by_cases hc : 1 < R.length
    · have hlt : (1 : Int) < (R.length : Int) := by omega
      have HC := Lib.hid hc
      clear hc
      go_wp2_with fail
      refine (above_any _ R wr (Nat.le_trans HR.out.1 HLl.out) HVr.out).mono ?_
      rintro e w3 ⟨v3, rfl, hv3, hb3⟩
      dsimp only
      have HV3 := Lib.hid hv3
      have HB3 := Lib.hid (HB.out.trans (hb3.mono HB.out.size))
      have HA3 := Lib.hid (show ∃ Z : List Value, Z.length = 32 ∧ Arr w3 w.heap.size 24 Z by
        obtain ⟨Z, h1, h2⟩ := HA.out
        exact ⟨Z, h1, h2.below hb3 h2.lt⟩)
      clear hv3 hb3
      go_wp2
      go_roundg (above knotF R).length
      case measure => rw [above_len]; have := HC.out; omega
      case rel =>
        refine ⟨_, HV3.out, rfl, ?_, ?_, HA3.out, HB3.out⟩
        · have := HR.out; have := HC.out
          refine ⟨by rw [above_len]; omega, fun h => ?_⟩
          rw [above_len] at h; omega
        · show _ = _
          rw [← HLe.out, leftR_above [] knotF _ R rfl HC.out]
    · have hlt : ¬ ((1 : Int) < (R.length : Int)) := by omega
      have HC := Lib.hid hc
      clear hc
      match R, HVr, HR, HLe, HC, hlt with
      | [], HVr, HR, HLe, HC, hlt =>
        have hn : Hs = [] := List.eq_nil_of_length_eq_zero (HR.out.2 rfl)
        have HT := Lib.hid (show topF 0 [] = mrootF Hs by rw [hn]; unfold mrootF; rw [List.map_nil, leftR_one _ _ _ (by simp)]; rfl)
        clear hn
        go_wp2_with fail
        refine (top_any 0 _ [] wr (by omega) (by simp) (Byts.nil _) (Low.nil _ _ _)).mono ?_
        rintro e w4 ⟨rfl, hb4⟩
        dsimp only
        have HB9 := Lib.hid (HB.out.trans (hb4.mono HB.out.size))
        obtain ⟨Zs, hZl, hZa⟩ := HA.out
        have HZl := Lib.hid hZl
        have HA9 := Lib.hid (hZa.below hb4 hZa.lt)
        clear hb4 hZl hZa
        obtain ⟨R9, hR⟩ : ∃ R9, R9 = topF 0 [] := ⟨_, rfl⟩
        have hRl : R9.length = 32 := by rw [hR]; exact (tagF_h _ _).1
        rw [← hR]
        have HRe := Lib.hid hR
        have HRl := Lib.hid hRl
        have Hs9 := Lib.hid (show (Tryz.prog.info? 24).map (·.size) = some (bys R9).length by rw [bys_len, hRl]; exact size32)
        have Hs2 := Lib.hid (show (Tryz.prog.info? 24).map (·.size) = some (bys R9).toArray.size by rw [List.size_toArray, bys_len, hRl]; exact size32)
        have O1 := Lib.hid (all_oneCell_toArray (bys_one R9))
        clear hR hRl
        go_step
        refine wpList_store_mid (P := Tryz.prog) rfl 24 _ _ rfl (w.heap.size) 0 _ rfl rfl (HA9.out.there _ (by simp [bys_len, HRl.out, HZl.out])) Hs2.out O1.out ?_
        go_wp2
        have HA5 := Lib.hid (HA9.out.setAll (bys R9) (by simp [bys_len, HRl.out, HZl.out]))
        refine bodyPost_ret (results_cell_row (P := Tryz.prog) rfl _ _ (w.heap.size) 24 _ (0, 0) _ rfl HA5.out Tryz.underlying24 rfl (by rw [List.size_toArray]; exact Hs9.out)) rfl ?_
        exact ⟨by rw [HRe.out, HT.out], below_sets _ (by omega) _ _ HB9.out⟩
      | [R0], HVr, HR, HLe, HC, hlt =>
        have HT := Lib.hid (show topF Hs.length R0 = mrootF Hs by unfold mrootF; rw [← HLe.out, leftR_one _ _ _ (by simp)]; rfl)
        have hR0 := HVr.out.1 R0 (by simp)
        have hv1 := HVr.out.2
        rcases hv1 with ⟨_, h0⟩ | ⟨b, off, c, e1, q1, q2, q3⟩
        · cases h0
        cases e1
        have h1 := q3 0 (by simp)
        rw [show off + 0 * 32 = off by omega] at h1
        have hy1 : wr.rangeAt b off (bys R0) := h1
        have HY := Lib.hid (rangeAt.byts hy1 hR0)
        have HLw := Lib.hid (rangeAt.low hy1 hR0 32 32)
        have HR0 := Lib.hid hR0
        clear hR0 q1 q2 q3 h1 hy1
        go_wp2_with fail
        refine (top_any Hs.length _ R0 wr (by have := HLl.out; omega) (by rw [HR0.out.1]; omega) HY.out HLw.out).mono ?_
        rintro e w4 ⟨rfl, hb4⟩
        dsimp only
        have HB9 := Lib.hid (HB.out.trans (hb4.mono HB.out.size))
        obtain ⟨Zs, hZl, hZa⟩ := HA.out
        have HZl := Lib.hid hZl
        have HA9 := Lib.hid (hZa.below hb4 hZa.lt)
        clear hb4 hZl hZa
        obtain ⟨R9, hR⟩ : ∃ R9, R9 = topF Hs.length R0 := ⟨_, rfl⟩
        have hRl : R9.length = 32 := by rw [hR]; exact (tagF_h _ _).1
        rw [← hR]
        have HRe := Lib.hid hR
        have HRl := Lib.hid hRl
        have Hs9 := Lib.hid (show (Tryz.prog.info? 24).map (·.size) = some (bys R9).length by rw [bys_len, hRl]; exact size32)
        have Hs2 := Lib.hid (show (Tryz.prog.info? 24).map (·.size) = some (bys R9).toArray.size by rw [List.size_toArray, bys_len, hRl]; exact size32)
        have O1 := Lib.hid (all_oneCell_toArray (bys_one R9))
        clear hR hRl
        go_step
        refine wpList_store_mid (P := Tryz.prog) rfl 24 _ _ rfl (w.heap.size) 0 _ rfl rfl (HA9.out.there _ (by simp [bys_len, HRl.out, HZl.out])) Hs2.out O1.out ?_
        go_wp2
        have HA5 := Lib.hid (HA9.out.setAll (bys R9) (by simp [bys_len, HRl.out, HZl.out]))
        refine bodyPost_ret (results_cell_row (P := Tryz.prog) rfl _ _ (w.heap.size) 24 _ (0, 0) _ rfl HA5.out Tryz.underlying24 rfl (by rw [List.size_toArray]; exact Hs9.out)) rfl ?_
        exact ⟨by rw [HRe.out, HT.out], below_sets _ (by omega) _ _ HB9.out⟩
      | _ :: _ :: _, HVr, HR, HLe, HC, hlt => exact absurd HC.out (by simp)
end Go.Proofs.YthnbnckmeffkmaaGreat
/- merkle.Size. -/
namespace Go.Proofs.YthnbnckmeffkmaaGreat
open Go.RowKit Go.Lib
set_option linter.unusedVariables false
set_option linter.unusedSimpArgs false
attribute [local go_sem ↓] Go.wp_at_zero Go.wp_at_succ

theorem xor_one (n : Nat) (h : n < 9223372036854775807) : bits .xor .i64 (n : Int) 1 = ((sib n : Nat) : Int) := by
  have hx : n ^^^ 1 = sib n := by
    unfold sib
    have h1 : (n ^^^ 1) % 2 = (n + 1) % 2 := by
      rw [show (n ^^^ 1) % 2 = (n % 2) ^^^ (1 % 2) from Nat.xor_mod_two_pow (n := 1)]
      rcases Nat.mod_two_eq_zero_or_one n with h | h
      · rw [h, show (0 ^^^ (1 % 2) : Nat) = 1 from by decide]; omega
      · rw [h, show (1 ^^^ (1 % 2) : Nat) = 0 from by decide]; omega
    have h2 : (n ^^^ 1) / 2 = n / 2 := by rw [Nat.xor_div_two]; simp
    split <;> omega
  show IntKind.i64.wrap ((BitVec.ofInt 64 (n : Int) ^^^ BitVec.ofInt 64 (1 : Int)).toNat : Int) = _
  have e1 : (BitVec.ofInt 64 (n : Int)).toNat = n := by rw [BitVec.toNat_ofInt]; omega
  have e2 : (BitVec.ofInt 64 (1 : Int)).toNat = 1 := by decide
  rw [BitVec.toNat_xor, e1, e2, hx, IntKind.wrap_i64]
  unfold sib
  split <;> omega
theorem sizeUp_le (c : Nat) : ∀ n, sizeUp n c ≤ c := by
  induction c using Nat.strongRecOn with
  | _ c ih =>
    intro n
    rw [sizeUp]
    split
    · omega
    · have := ih ((c + 1) / 2) (by omega) (n / 2)
      split <;> omega

end Go.Proofs.YthnbnckmeffkmaaGreat
/- As XReg, but S is asked only while number t has not come; an operation that reads no memory may come behind it. -/
namespace Go.Proofs.YthnbnckmeffkmaaGreat
open Go.RowKit Go.Lib
set_option linter.unusedVariables false

section
variable {P : Program} {ops : Array Oper} {Q : Exit → Act → World → Prop} {md : Region.Mode} {S : World → Prop} {t : Nat}

/-- Whatever order is picked from here on, and S holds behind every operation but number t. -/
def wpAnyU (P : Program) (md : Region.Mode) (ops : Array Oper) (Q : Exit → Act → World → Prop) (S : World → Prop) (t : Nat) : Nat → Array Bool → Act → World → Prop
  | 0, listed, a, w => Region.ready md ops listed = [] ∧ Q .normal a w
  | fuel + 1, listed, a, w =>
    (Region.ready md ops listed = [] → Q .normal a w) ∧
    ∀ i ∈ Region.ready md ops listed, wpOp P ops Q i (fun a' w' => (i ≠ t → listed.getD t true = false → S w') ∧ wpAnyU P md ops Q S t fuel (listed.setIfInBounds i true) a' w') a w

theorem wpAny_of_U : ∀ (fuel : Nat) (listed : Array Bool) (a : Act) (w : World), wpAnyU P md ops Q S t fuel listed a w → wpAny P md ops Q fuel listed a w
  | 0, _, _, _, h => h
  | fuel + 1, _, _, _, h => ⟨h.1, fun i hi => wpOp_mono (fun a' w' h' => wpAny_of_U fuel _ a' w' h'.2) (h.2 i hi)⟩

theorem wpAnyU_first {i : Nat} {oi : Oper} {v : Value} (hi : ops[i]? = some oi) (hsel : ∀ (j : Nat) (o : Oper) cs b, ops[j]? = some o → o.op ≠ .select cs b)
    (hQ : ∀ c a w, Q (.panic c) (a.put oi.dst v) w → Q (.panic c) a w) (ht : Region.waitsFor md ops t i = true) :
    ∀ (fuel : Nat) (listed : Array Bool) (a : Act) (w : World),
      (∀ j oj, ops[j]? = some oj → j ≠ i → listed.getD j true = false → (∀ e ∈ oj.after, Region.binds md e = true → e.on ≠ i) → oi.apart ops oj = true) →
      listed.getD t true = false → i ∈ Region.ready md ops listed → YieldsIf P ops S oi v a → S w →
      wpAnyU P md ops Q S t fuel (listed.setIfInBounds i true) (a.put oi.dst v) w → wpAnyU P md ops Q S t (fuel + 1) listed a w := by
  intro fuel
  induction fuel with
  | zero =>
    intro listed a w _ hl hr hy hS H
    refine ⟨fun h => (by rw [h] at hr; cases hr), fun j hj => ?_⟩
    by_cases hji : j = i
    · subst hji; exact hy.wpOp hi hS ⟨fun _ _ => hS, H⟩
    · have := ready_mono hj hji
      rw [H.1] at this
      cases this
  | succ fuel ih =>
    intro listed a w hfree hl hr hy hS H
    refine ⟨fun h => (by rw [h] at hr; cases hr), fun j hj => ?_⟩
    by_cases hji : j = i
    · subst hji; exact hy.wpOp hi hS ⟨fun _ _ => hS, H⟩
    · have h1 := H.2 j (ready_mono hj hji)
      obtain ⟨hjun, oj, hoj, hall⟩ := mem_ready.1 hj
      have hnot : ∀ e ∈ oj.after, Region.binds md e = true → e.on ≠ i := fun e he hb heq => by
        have h1 := hall e he hb
        have h0 := (mem_ready.1 hr).1
        rw [heq] at h1
        rcases Nat.lt_or_ge i listed.size with h' | h'
        · simp [h'] at h0 h1; rw [h0] at h1; cases h1
        · simp [Array.getElem?_eq_none h'] at h1
      have hjt : j ≠ t := by
        rintro rfl
        obtain ⟨o', ho', e, he, hb, hon⟩ := Region.waitsFor_spec ht
        have : o' = oj := Option.some.inj (ho'.symm.trans hoj)
        subst this
        exact hnot e he hb hon
      have h2 := wpOp_putIf hoj (hfree j oj hoj hji hjun hnot) (fun cs b => hsel i oi cs b hi) (fun cs b => hsel j oj cs b hoj) hQ hy h1
      have hfree' : ∀ k ok, ops[k]? = some ok → k ≠ i → (listed.setIfInBounds j true).getD k true = false →
          (∀ e ∈ ok.after, Region.binds md e = true → e.on ≠ i) → oi.apart ops ok = true := fun k ok hk hki hun hno => by
        refine hfree k ok hk hki ?_ hno
        by_cases hjk : j = k
        · subst hjk; exact hjun
        · rw [getD_set_ne true hjk] at hun; exact hun
      have hit : i ≠ t := by
        rintro rfl
        obtain ⟨o', ho', e, he, hb, hon⟩ := Region.waitsFor_spec ht
        have h9 := (mem_ready.1 hr)
        obtain ⟨hu, o9, ho9, hall9⟩ := h9
        have : o' = o9 := Option.some.inj (ho'.symm.trans ho9)
        subst this
        have := hall9 e he hb
        rw [hon] at this
        rcases Nat.lt_or_ge i listed.size with h' | h'
        · simp [h'] at hl this; rw [hl] at this; cases this
        · simp [Array.getElem?_eq_none h'] at hl
      have hlj : (listed.setIfInBounds j true).getD t true = false := by rw [getD_set_ne true hjt]; exact hl
      have hli : (listed.setIfInBounds i true).getD t true = false := by rw [getD_set_ne true hit]; exact hl
      refine wpOp_mono (fun a' w' h3 => ⟨fun _ _ => h3.2.1 hjt hli, ih (listed.setIfInBounds j true) a' w' hfree' hlj (ready_mono hr (Ne.symm hji)) h3.1 (h3.2.1 hjt hli) ?_⟩) h2
      rw [Array.setIfInBounds_comm _ _ hji]
      exact h3.2.2

theorem wpAnyU_take {i : Nat} {oi : Oper} {v : Value} {fuel : Nat} {listed : Array Bool} {a : Act} {w : World} (hi : ops[i]? = some oi)
    (hs : Region.noSelect ops = true) (hf : Region.free md ops listed i = true) (hr : (Region.ready md ops listed).contains i = true) (ht : Region.waitsFor md ops t i = true)
    (hl : listed.getD t true = false) (hQ : ∀ c a w, Q (.panic c) (a.put oi.dst v) w → Q (.panic c) a w) (hy : YieldsIf P ops S oi v a) (hS : S w)
    (h : wpAnyU P md ops Q S t fuel (listed.setIfInBounds i true) (a.put oi.dst v) w) : wpAnyU P md ops Q S t (fuel + 1) listed a w :=
  wpAnyU_first hi (Region.noSelect_spec hs) hQ ht fuel listed a w (Region.free_spec hi hf) hl (by simpa using hr) hy hS h

theorem wpAnyU_first0 {i : Nat} {oi : Oper} {v : Value} (hi : ops[i]? = some oi) (hsel : ∀ (j : Nat) (o : Oper) cs b, ops[j]? = some o → o.op ≠ .select cs b)
    (hQ : ∀ c a w, Q (.panic c) (a.put oi.dst v) w → Q (.panic c) a w) (hit : i ≠ t) :
    ∀ (fuel : Nat) (listed : Array Bool) (a : Act) (w : World),
      (∀ j oj, ops[j]? = some oj → j ≠ i → listed.getD j true = false → (∀ e ∈ oj.after, Region.binds md e = true → e.on ≠ i) → oi.apart ops oj = true) →
      i ∈ Region.ready md ops listed → YieldsIf P ops (fun _ => True) oi v a → (listed.getD t true = false → S w) →
      wpAnyU P md ops Q S t fuel (listed.setIfInBounds i true) (a.put oi.dst v) w → wpAnyU P md ops Q S t (fuel + 1) listed a w := by
  intro fuel
  induction fuel with
  | zero =>
    intro listed a w _ hr hy hS H
    refine ⟨fun h => (by rw [h] at hr; cases hr), fun j hj => ?_⟩
    by_cases hji : j = i
    · subst hji; exact hy.wpOp hi True.intro ⟨fun _ hl => hS hl, H⟩
    · have := ready_mono hj hji
      rw [H.1] at this
      cases this
  | succ fuel ih =>
    intro listed a w hfree hr hy hS H
    refine ⟨fun h => (by rw [h] at hr; cases hr), fun j hj => ?_⟩
    by_cases hji : j = i
    · subst hji; exact hy.wpOp hi True.intro ⟨fun _ hl => hS hl, H⟩
    · have h1 := H.2 j (ready_mono hj hji)
      obtain ⟨hjun, oj, hoj, hall⟩ := mem_ready.1 hj
      have hnot : ∀ e ∈ oj.after, Region.binds md e = true → e.on ≠ i := fun e he hb heq => by
        have h1 := hall e he hb
        have h0 := (mem_ready.1 hr).1
        rw [heq] at h1
        rcases Nat.lt_or_ge i listed.size with h' | h'
        · simp [h'] at h0 h1; rw [h0] at h1; cases h1
        · simp [Array.getElem?_eq_none h'] at h1
      have h2 := wpOp_putIf hoj (hfree j oj hoj hji hjun hnot) (fun cs b => hsel i oi cs b hi) (fun cs b => hsel j oj cs b hoj) hQ hy h1
      have hfree' : ∀ k ok, ops[k]? = some ok → k ≠ i → (listed.setIfInBounds j true).getD k true = false →
          (∀ e ∈ ok.after, Region.binds md e = true → e.on ≠ i) → oi.apart ops ok = true := fun k ok hk hki hun hno => by
        refine hfree k ok hk hki ?_ hno
        by_cases hjk : j = k
        · subst hjk; exact hjun
        · rw [getD_set_ne true hjk] at hun; exact hun
      have e1 : (listed.setIfInBounds i true).getD t true = listed.getD t true := getD_set_ne true hit
      refine wpOp_mono (fun a' w' h3 => ⟨fun hjt hl => h3.2.1 hjt (e1.trans hl), ih (listed.setIfInBounds j true) a' w' hfree' (ready_mono hr (Ne.symm hji)) h3.1 (fun hl => ?_) ?_⟩) h2
      · rcases Nat.decEq j t with hjt | hjt
        · exact h3.2.1 hjt (e1.trans (by rw [getD_set_ne true hjt] at hl; exact hl))
        · subst hjt
          rcases Nat.lt_or_ge j listed.size with h' | h'
          · simp [h'] at hl
          · simp at hl
      rw [Array.setIfInBounds_comm _ _ hji]
      exact h3.2.2

theorem wpAnyU_take0 {i : Nat} {oi : Oper} {v : Value} {fuel : Nat} {listed : Array Bool} {a : Act} {w : World} (hi : ops[i]? = some oi)
    (hs : Region.noSelect ops = true) (hf : Region.free md ops listed i = true) (hr : (Region.ready md ops listed).contains i = true) (hit : i ≠ t)
    (hQ : ∀ c a w, Q (.panic c) (a.put oi.dst v) w → Q (.panic c) a w) (hy : YieldsIf P ops (fun _ => True) oi v a) (hS : listed.getD t true = false → S w)
    (h : wpAnyU P md ops Q S t fuel (listed.setIfInBounds i true) (a.put oi.dst v) w) : wpAnyU P md ops Q S t (fuel + 1) listed a w :=
  wpAnyU_first0 hi (Region.noSelect_spec hs) hQ hit fuel listed a w (Region.free_spec hi hf) (by simpa using hr) hy hS h

/-- One alone may come up. -/
theorem wpAnyU_one {i : Nat} {oi : Oper} {fuel : Nat} {listed : Array Bool} {a : Act} {w : World} (hr : Region.ready md ops listed = [i]) (hi : ops[i]? = some oi) (hg : oi.guard = none)
    (h : ∀ K : Act → World → Prop, (∀ a' w', (i ≠ t → listed.getD t true = false → S w') → wpAnyU P md ops Q S t fuel (listed.setIfInBounds i true) a' w' → K a' w') → oi.wp P a w K Q) : wpAnyU P md ops Q S t (fuel + 1) listed a w := by
  refine ⟨(fun h0 => by rw [hr] at h0; cases h0), fun j hj => ?_⟩
  rw [hr] at hj
  obtain rfl : j = i := by simpa using hj
  unfold wpOp
  simp only [hi]
  rw [if_pos (by simp [Region.wanted, hg])]
  exact .inl <| h (fun a' w' => (j ≠ t → listed.getD t true = false → S w') ∧ wpAnyU P md ops Q S t fuel (listed.setIfInBounds j true) a' w') (fun a' w' h1 h2 => ⟨h1, h2⟩)
theorem wpAnyU_done {listed : Array Bool} {a : Act} {w : World} (hr : Region.ready md ops listed = []) (h : Q .normal a w) : ∀ fuel, wpAnyU P md ops Q S t fuel listed a w
  | 0 => ⟨hr, h⟩
  | _ + 1 => ⟨fun _ => h, by rw [hr]; simp⟩
theorem wp_region_U (S : World → Prop) (t : Nat) {id : Nat} {a : Act} {w : World} (hm : P.follows .mixedOrders = true)
    (h : wpAnyU P .any ops Q S t ops.size (Array.replicate ops.size false) a w.drew) : (Code.region id ops true).wp P Q a w :=
  wp_region_any hm (wpAny_of_U _ _ _ _ h)
end
end Go.Proofs.YthnbnckmeffkmaaGreat
/- merkle.Lead. -/
namespace Go.Proofs.YthnbnckmeffkmaaGreat
open Go.RowKit Go.Lib
set_option linter.unusedVariables false
set_option linter.unusedSimpArgs false
attribute [local go_sem ↓] Go.wp_at_zero Go.wp_at_succ

theorem w64_half (n : Nat) (h : n ≤ 1048576) : wrap64 ((n : Int) / 2) = ((n / 2 : Nat) : Int) := by unfold wrap64; omega
theorem w64_up (c : Nat) (h : c ≤ 1048576) : wrap64 ((wrap64 ((c : Int) + 1)).tdiv 2) = (((c + 1) / 2 : Nat) : Int) := by
  rw [show wrap64 ((c : Int) + 1) = ((c + 1 : Nat) : Int) by unfold wrap64; omega, Int.tdiv_eq_ediv_of_nonneg (by omega)]
  unfold wrap64; omega
theorem and_one (n : Nat) (h : n < 9223372036854775807) : bits .and .i64 (n : Int) 1 = ((n % 2 : Nat) : Int) := by
  show IntKind.i64.wrap ((BitVec.ofInt 64 (n : Int) &&& BitVec.ofInt 64 (1 : Int)).toNat : Int) = _
  have e1 : (BitVec.ofInt 64 (n : Int)).toNat = n := by rw [BitVec.toNat_ofInt]; omega
  have e2 : (BitVec.ofInt 64 (1 : Int)).toNat = 1 := by decide
  rw [BitVec.toNat_and, e1, e2, Nat.and_one_is_mod, IntKind.wrap_i64]
  omega
theorem results_cell_row_tmp {P : Program} {fn : Func} {p u : Tmp} {ty : TypeId} (h : fn.results = #[.cell p ty, .tmp u]) (tmps : Array Value) (w : World) (g : Nat) (t : TypeId) (cs : Array Value) (fr : Nat × Nat) (d : TypeDesc)
    (hp : tmps.getD p undef = .pointer (some ⟨g, 0, none⟩)) (hg : w.heap[g]? = some (.cells cs t fr))
    (hu : P.underlying ty = some d) (hd : (match d with | .struct _ | .array _ _ => true | _ => false) = true) (hi : (P.info? ty).map (·.size) = some cs.size) :
    (results fn tmps).run P w = .ok (.tuple #[.agg cs, tmps.getD u undef]) w := by
  rw [results_cell_tmp h, hp]
  simp [asAddr, run_loadVar_row w g t ty cs fr d hg hu hd hi]
/-- What a path leads to, below the top. -/
def upF (I : List Nat) (n c : Nat) (Hs : List (List Nat)) : List Nat := leadUp [] knotF knotF (leafF I) n c Hs

/-- Three objects laid, one upon the other. -/
theorem three_laid (w : World) (L1 L2 L3 : List Value) (t1 t2 t3 : TypeId) (W : World) (hW : W = ((w.alloc (.cells L1.toArray t1)).alloc (.cells L2.toArray t2)).alloc (.cells L3.toArray t3)) :
    Arr W w.heap.size t1 L1 ∧ Arr W (w.heap.size + 1) t2 L2 ∧ Arr W (w.heap.size + 1 + 1) t3 L3 ∧ Below w.heap.size w W := by
  subst hW
  have h1 := Arr.made w t1 L1
  have e1 : (w.alloc (.cells L1.toArray t1)).heap.size = w.heap.size + 1 := by show (w.heap.push _).size = _; simp
  have h2 := Arr.made (w.alloc (.cells L1.toArray t1)) t2 L2
  rw [e1] at h2
  have e2 : ((w.alloc (.cells L1.toArray t1)).alloc (.cells L2.toArray t2)).heap.size = w.heap.size + 1 + 1 := by show (Array.push _ _).size = _; rw [Array.size_push, e1]
  have h3 := Arr.made ((w.alloc (.cells L1.toArray t1)).alloc (.cells L2.toArray t2)) t3 L3
  rw [e2] at h3
  have b1 : Below w.heap.size w (w.alloc (.cells L1.toArray t1)) := (Below.refl _ _).alloc (Nat.le_refl _) _
  have b2 := (Below.refl (w.alloc (.cells L1.toArray t1)).heap.size (w.alloc (.cells L1.toArray t1))).alloc (Nat.le_refl _) (.cells L2.toArray t2)
  have b3 := (Below.refl _ ((w.alloc (.cells L1.toArray t1)).alloc (.cells L2.toArray t2))).alloc (Nat.le_refl _) (.cells L3.toArray t3)
  have b23 := b2.trans (b3.mono b2.size)
  exact ⟨h1.below b23 h1.lt, h2.below b3 h2.lt, h3, b1.trans (b23.mono b1.size)⟩

theorem hs_tail {w : World} {b off c : Nat} {H : List Nat} {R : List (List Nat)} (h : HsIs w (.slice (some ⟨b, off, none⟩) (H :: R).length c) (H :: R)) :
    HsIs w (.slice (if c = 1 then some ⟨b, off, none⟩ else some ⟨b, off + 32, none⟩) R.length (c - 1)) R := by
  refine ⟨fun x hx => h.1 x (List.mem_cons_of_mem _ hx), ?_⟩
  rcases h.2 with ⟨_, h0⟩ | ⟨b', off', c', e1, q1, q2, q3⟩
  · cases h0
  cases e1
  rw [List.length_cons] at q1
  split
  · rename_i hc
    refine .inr ⟨b, off, c - 1, rfl, by omega, by omega, fun j hj => absurd hj (by omega)⟩
  · refine .inr ⟨b, off + 32, c - 1, rfl, by omega, by omega, fun j hj => ?_⟩
    have := q3 (j + 1) (by rw [List.length_cons]; omega)
    rw [show off + (j + 1) * 32 = off + 32 + j * 32 by omega] at this
    exact this

end Go.Proofs.YthnbnckmeffkmaaGreat
