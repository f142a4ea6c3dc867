/- merkle.number and top. -/
import Derived.Test.YthnbnckmeffkmaaGreatG10
namespace Go.Proofs.YthnbnckmeffkmaaGreat
open Go.RowKit Go.Lib
set_option linter.unusedVariables false
set_option linter.unusedSimpArgs false
attribute [local go_sem ↓] Go.wp_at_zero Go.wp_at_succ

theorem le8_at (n k : Nat) (hk : k < 8) : (le8 n)[k]? = some (n / 2 ^ (8 * k) % 256) := by
  match k, hk with
  | 0, _ => simp [le8]
  | 1, _ => simp [le8]
  | 2, _ => simp [le8]
  | 3, _ => simp [le8]
  | 4, _ => simp [le8]
  | 5, _ => simp [le8]
  | 6, _ => simp [le8]
  | 7, _ => simp [le8]

set_option maxRecDepth 100000 in
set_option maxHeartbeats 1600000 in
theorem number_any (n : Nat) (w : World) (hn : n ≤ 1152921504606846976) :
    Calls Tryz.prog 180 #[.int .i64 n] w fun e w' => ∃ v', e = .returned v' ∧ Byts w' v' (le8 n) ∧ Low w' v' ∧ Below w.heap.size w w' := by
  have HN := Lib.hid hn
  have hmk : ∀ w, (Instr.makeSlice 157 (.int .i64 8) (.int .i64 8)).run Tryz.prog w = .ok (.slice (some ⟨w.heap.size, 0, none⟩) 8 8) (w.alloc (.cells #[.int .u8 0, .int .u8 0, .int .u8 0, .int .u8 0, .int .u8 0, .int .u8 0, .int .u8 0, .int .u8 0] 5)) := fun _ => by kernel_rfl
  clear hn
  go_enter Tryz.func180, Tryz.ntmps180
  go_upto_region 2 with fail
  have ha : Arr (w.alloc (.cells #[.int .u8 0, .int .u8 0, .int .u8 0, .int .u8 0, .int .u8 0, .int .u8 0, .int .u8 0, .int .u8 0] 5)) w.heap.size 5 (bys ((le8 n).take 0) ++ List.replicate (8 - 0) (.int .u8 0)) := Arr.made w _ _
  have hb : Below w.heap.size w (w.alloc (.cells #[.int .u8 0, .int .u8 0, .int .u8 0, .int .u8 0, .int .u8 0, .int .u8 0, .int .u8 0, .int .u8 0] 5)) := (Below.refl _ _).alloc (Nat.le_refl _) _
  have HA := Lib.hid ha
  have HB := Lib.hid hb
  clear ha hb hmk
  generalize World.alloc _ _ = w1 at *
  go_wp2
  obtain ⟨nz, hnz⟩ : ∃ nz : Int, (n : Int) = nz := ⟨_, rfl⟩
  have HNz := Lib.hid hnz
  have hn0 : 0 ≤ nz := by omega
  have hn1 : nz ≤ 1152921504606846976 := by have := HN.out; omega
  rw [hnz]
  clear hnz
  go_loopg [4, 8] 8 (fun g vi vn wq => ∃ k : Nat, Hid (g + k = 8) ∧ vn = .int .i64 (k : Int) ∧ Hid (Arr wq w.heap.size 5 (bys ((le8 n).take k) ++ List.replicate (8 - k) (.int .u8 0))) ∧ Hid (Below w.heap.size w wq))
  case atStart => exact ⟨0, rfl, rfl, HA.out, HB.out⟩
  case round =>
    obtain ⟨k, hk, rfl, ha, hb⟩ := hrel
    have HK := Lib.hid hk.out
    have HAq := Lib.hid ha.out
    have HBq := Lib.hid hb.out
    clear hk ha hb HA HB
    cases gk with
    | zero =>
      have hlt : ¬ ((k : Int) < 8) := by have := HK.out; omega
      have hA := HAq.out
      rw [show k = 8 by have := HK.out; omega, Nat.sub_self, List.replicate_zero, List.append_nil, show (le8 n).take 8 = le8 n from rfl] at hA
      have HA8 := Lib.hid hA
      clear hA
      go_wp2
      go_ret
      exact ⟨_, rfl, HA8.out.byts (le8_lt n) 8 rfl (by unfold maxLen; omega), HA8.out.low 8 8, HBq.out⟩
    | succ g =>
      have hk8 : k < 8 := by have := HK.out; omega
      obtain ⟨z, hz⟩ : ∃ z : Int, (k : Int) = z := ⟨_, rfl⟩
      have hcl := (HAq.out.cell k).trans (bys_next (le8 n) k 8 rfl hk8 _)
      have hfr := HAq.out.frozen k
      have hlt : z < 8 := by omega
      have iz : 0 ≤ z := by omega
      have hkz : k = z.toNat := by omega
      rw [hkz] at hcl hfr
      have HZ := Lib.hid hz
      have HKz := Lib.hid hkz
      rw [hz]
      clear hz hkz hk8
      go_wp2
      rw [show nz / 2 ^ (8 * z).toNat % 256 = ((n / 2 ^ (8 * k) % 256 : Nat) : Int) by rw [show (8 * z).toNat = 8 * k by have := HZ.out; omega, ← HNz.out]; simp]
      go_roundg g
      case measure => omega
      case rel =>
        refine ⟨k + 1, by show _ = _; have := HK.out; omega, by have := HZ.out; congr 1; omega, ?_, HBq.out.setCell (Nat.le_refl _) _⟩
        show Arr _ _ _ _
        rw [← HKz.out, ← bys_step (le8 n) k 8 _ (le8_at n k (by have := HK.out; omega)) (by have := HK.out; omega)]
        exact HAq.out.set _ _

set_option maxRecDepth 100000 in
set_option maxHeartbeats 1600000 in
theorem top_any (n : Nat) (u : Value) (L : List Nat) (w : World) (hn : n ≤ 1152921504606846976) (hL : L.length ≤ 1000000) (hy : Byts w u L) (hlow : Low w u) :
    Calls Tryz.prog 123 #[.int .i64 n, u] w fun e w' => e = .returned (.agg (bys (topF n L)).toArray) ∧ Below w.heap.size w w' := by
  have hz := zero32
  obtain ⟨a0, c0, rfl⟩ : ∃ a0 c0, u = .slice a0 L.length c0 := by
    rcases hy.2 with ⟨rfl, rfl⟩ | ⟨ad, c, rfl, _⟩
    · exact ⟨_, _, rfl⟩
    · exact ⟨_, _, rfl⟩
  have HY := Lib.hid hy
  have HLow := Lib.hid hlow
  have HN := Lib.hid hn
  have HLl := Lib.hid hL
  clear hy hlow hn hL
  go_enter Tryz.func123, Tryz.ntmps123
  go_upto_region 1 with fail
  have hpk := And.intro (Arr.made w 24 (List.replicate 32 (.int .u8 0))) ((Below.refl w.heap.size w).alloc (Nat.le_refl _) (.cells (List.replicate 32 (.int .u8 0)).toArray 24))
  simp only [List.reduceReplicate] at hpk
  have HPk := Lib.hid hpk
  clear hpk hz
  generalize World.alloc _ _ = w1 at HPk ⊢
  go_wp2_with fail
  refine (number_any n w1 HN.out).mono ?_
  rintro e w2 ⟨v2, rfl, hy2, hl2, hb2⟩
  dsimp only
  obtain ⟨a2, c2, rfl⟩ : ∃ a2 c2, v2 = .slice a2 8 c2 := by
    rcases hy2.2 with ⟨_, h⟩ | ⟨ad, c, rfl, _⟩
    · cases h
    · exact ⟨_, _, rfl⟩
  have HA2 := Lib.hid (HPk.out.1.below hb2 HPk.out.1.lt)
  have HB2 := Lib.hid (HPk.out.2.trans (hb2.mono HPk.out.2.size))
  have HYu := Lib.hid ((HY.out.below HPk.out.2).below hb2)
  have HLu := Lib.hid ((HLow.out.below HPk.out.2).below hb2)
  have HP := Lib.hid (parts2 157 hy2 hl2 HYu.out HLu.out)
  have HBa := Lib.hid (show Below w2.heap.size w2 (w2.alloc (.cells #[.slice a2 8 c2, .slice a0 L.length c0] 157)) from (Below.refl _ _).alloc (Nat.le_refl _) _)
  clear hy2 hl2 hb2 HPk
  go_wp2_with fail
  refine (tag_any ⟨#[114, 111, 111, 116]⟩ _ [le8 n, L] _ (by decide) (by simp [le8]; have := HLl.out; omega) (by simp) HP.out).mono ?_
  rintro e w4 ⟨rfl, hb4⟩
  rw [show tagF (nmB ⟨#[114, 111, 111, 116]⟩) [le8 n, L].flatten = topF n L by rw [List.flatten_cons, List.flatten_cons, List.flatten_nil, List.append_nil]; rfl]
  dsimp only
  have hb14 := HBa.out.trans (hb4.mono HBa.out.size)
  have HA9 := Lib.hid (HA2.out.below hb14 HA2.out.lt)
  have HB9 := Lib.hid (HB2.out.trans (hb14.mono HB2.out.size))
  clear hb4 hb14
  obtain ⟨R, hR⟩ : ∃ R, R = topF n L := ⟨_, rfl⟩
  have hRl : R.length = 32 := by rw [hR]; exact (tagF_h _ _).1
  rw [← hR]
  have HRe := Lib.hid hR
  have HRl := Lib.hid hRl
  have Hs := Lib.hid (show (Tryz.prog.info? 24).map (·.size) = some (bys R).length by rw [bys_len, hRl]; exact size32)
  have Hs2 := Lib.hid (show (Tryz.prog.info? 24).map (·.size) = some (bys R).toArray.size by rw [List.size_toArray, bys_len, hRl]; exact size32)
  have O1 := Lib.hid (all_oneCell_toArray (bys_one R))
  clear hR hRl
  go_step
  refine wpList_store_mid (P := Tryz.prog) rfl 24 _ _ rfl (w.heap.size) 0 _ rfl rfl (HA9.out.there _ (by simp [bys_len, HRl.out])) Hs2.out O1.out ?_
  go_wp2
  have HA5 := Lib.hid (HA9.out.setAll (bys R) (by simp [bys_len, HRl.out]))
  refine bodyPost_ret (results_cell_row (P := Tryz.prog) rfl _ _ (w.heap.size) 24 _ (0, 0) _ rfl HA5.out Tryz.underlying24 rfl (by rw [List.size_toArray]; exact Hs.out)) rfl ?_
  exact ⟨by rw [HRe.out], below_sets _ (by omega) _ _ HB9.out⟩

set_option maxRecDepth 100000 in
set_option maxHeartbeats 1600000 in
theorem rtop_any (n : Nat) (u : Value) (L : List Nat) (w : World) (hn : n ≤ 1152921504606846976) (hL : L.length ≤ 1000000) (hy : Byts w u L) :
    Calls Tryz.prog 95 #[.int .i64 n, u] w fun e w' => e = .returned (.agg (bys (topF n L)).toArray) ∧ Below w.heap.size w w' := by
  have hz := zero32
  have HY := Lib.hid hy
  have HN := Lib.hid hn
  have HLl := Lib.hid hL
  clear hy hn hL
  go_enter Tryz.func95, Tryz.ntmps95
  go_upto_region 1 with fail
  have hpk := And.intro (Arr.made w 24 (List.replicate 32 (.int .u8 0))) ((Below.refl w.heap.size w).alloc (Nat.le_refl _) (.cells (List.replicate 32 (.int .u8 0)).toArray 24))
  simp only [List.reduceReplicate] at hpk
  have HPk := Lib.hid hpk
  clear hpk hz
  generalize World.alloc _ _ = w1 at HPk ⊢
  have HO0 := Lib.hid (show w1.ownsRow (w.heap.size + 1) 5 1 (.slice none 0 0) ((le8 n).take 0).length (bys ((le8 n).take 0)) from own_nil _ _ _ _)
  obtain ⟨nz, hnz⟩ : ∃ nz : Int, (n : Int) = nz := ⟨_, rfl⟩
  have HNz := Lib.hid hnz
  have hn0 : 0 ≤ nz := by omega
  have hn1 : nz ≤ 1152921504606846976 := by have := HN.out; omega
  rw [hnz]
  clear hnz
  go_wp2
  go_loopg [5, 6] 8 (fun g vv vn wq => ∃ k : Nat, Hid (g + k = 8) ∧ vn = .int .i64 (k : Int) ∧ Hid (wq.ownsRow (w.heap.size + 1) 5 1 vv ((le8 n).take k).length (bys ((le8 n).take k))) ∧ Hid (Arr wq w.heap.size 24 (List.replicate 32 (.int .u8 0))) ∧ Hid (Below w.heap.size w wq))
  case atStart => exact ⟨0, rfl, rfl, HO0.out, HPk.out.1, HPk.out.2⟩
  case round =>
    obtain ⟨k, hk, rfl, ho, ha, hb⟩ := hrel
    have HK := Lib.hid hk.out
    have HO := Lib.hid ho.out
    have HA := Lib.hid ha.out
    have HB := Lib.hid hb.out
    clear hk ho ha hb HO0 HPk
    cases gk with
    | zero =>
      have hlt : ¬ ((k : Int) < 8) := by have := HK.out; omega
      have hO := HO.out
      rw [show k = 8 by have := HK.out; omega, show (le8 n).take 8 = le8 n from rfl] at hO
      have HO8 := Lib.hid hO
      have HYq := Lib.hid (HY.out.below HB.out)
      have HL1 := Lib.hid (show (le8 n).length + L.length ≤ 140737488355328 by have := HLl.out; simp [le8]; omega)
      have HL2 := Lib.hid (show w.heap.size + 1 ≤ wr.heap.size from HA.out.lt)
      obtain ⟨X9, hX9⟩ : ∃ X9, le8 n ++ L = X9 := ⟨_, rfl⟩
      have HX9 := Lib.hid hX9
      clear hO HO hX9
      go_wp2_with (at_builtin; refine appB (w.heap.size + 1) rfl (.tmp 20) (.tmp 21) 157 5 rfl Tryz.underlying157 infoB _ u (le8 n) L X9 HX9.out rfl rfl HO8.out HYq.out HL2.out HL1.out ?_)
      intro v3 w3 ho3 hb3 hg3
      have HY3 := Lib.hid (own_byts ho3.out (by rw [← HX9.out]; exact fun x hx => (List.mem_append.1 hx).elim (le8_lt n x) (HY.out.1 x)))
      have HB3 := Lib.hid (hb3.out _ _ HB.out (Nat.le_succ _))
      have HA3 := Lib.hid (HA.out.below (hb3.out (w.heap.size + 1) _ (Below.refl _ _) (Nat.le_refl _)) (Nat.lt_succ_self _))
      clear ho3 hb3 hg3
      go_wp2_with fail
      refine (rtag_any ⟨#[114, 111, 111, 116]⟩ v3 X9 w3 (by decide) (by rw [← HX9.out, List.length_append]; have := HLl.out; simp [le8]; omega) HY3.out).mono ?_
      rintro e w4 ⟨rfl, hb4⟩
      rw [show tagF (nmB ⟨#[114, 111, 111, 116]⟩) X9 = topF n L by rw [← HX9.out]; rfl]
      dsimp only
      have HA9 := Lib.hid (HA3.out.below hb4 HA3.out.lt)
      have HB9 := Lib.hid (HB3.out.trans (hb4.mono HB3.out.size))
      clear hb4
      obtain ⟨R, hR⟩ : ∃ R, R = topF n L := ⟨_, rfl⟩
      have hRl : R.length = 32 := by rw [hR]; exact (tagF_h _ _).1
      rw [← hR]
      have HRe := Lib.hid hR
      have HRl := Lib.hid hRl
      have Hs := Lib.hid (show (Tryz.prog.info? 24).map (·.size) = some (bys R).length by rw [bys_len, hRl]; exact size32)
      have Hs2 := Lib.hid (show (Tryz.prog.info? 24).map (·.size) = some (bys R).toArray.size by rw [List.size_toArray, bys_len, hRl]; exact size32)
      have O1 := Lib.hid (all_oneCell_toArray (bys_one R))
      clear hR hRl
      go_step
      refine wpList_store_mid (P := Tryz.prog) rfl 24 _ _ rfl (w.heap.size) 0 _ rfl rfl (HA9.out.there _ (by simp [bys_len, HRl.out])) Hs2.out O1.out ?_
      go_wp2
      have HA5 := Lib.hid (HA9.out.setAll (bys R) (by simp [bys_len, HRl.out]))
      refine bodyPost_ret (results_cell_row (P := Tryz.prog) rfl _ _ (w.heap.size) 24 _ (0, 0) _ rfl HA5.out Tryz.underlying24 rfl (by rw [List.size_toArray]; exact Hs.out)) rfl ?_
      exact ⟨by rw [HRe.out], below_sets _ (by omega) _ _ HB9.out⟩
    | succ g =>
      have hk8 : k < 8 := by have := HK.out; omega
      obtain ⟨z, hz⟩ : ∃ z : Int, (k : Int) = z := ⟨_, rfl⟩
      have hlt : z < 8 := by omega
      have iz : 0 ≤ z := by omega
      have HZ := Lib.hid hz
      have hv : nz / 2 ^ (8 * z).toNat % 256 = ((n / 2 ^ (8 * k) % 256 : Nat) : Int) := by rw [show (8 * z).toNat = 8 * k by omega, ← HNz.out]; simp
      have HV := Lib.hid hv
      obtain ⟨X1, hX1⟩ : ∃ X1, X1 = (le8 n).take k := ⟨_, rfl⟩
      obtain ⟨X2, hX2⟩ : ∃ X2, X2 = (le8 n).take (k + 1) := ⟨_, rfl⟩
      have h12 : X1 ++ [n / 2 ^ (8 * k) % 256] = X2 := by
        rw [hX1, hX2, List.take_add_one, le8_at n k hk8]; rfl
      have hO := HO.out
      rw [← hX1] at hO
      have HO1 := Lib.hid hO
      have H12 := Lib.hid h12
      have HX2 := Lib.hid hX2
      have HL2 := Lib.hid (show w.heap.size + 1 ≤ wr.heap.size from HA.out.lt)
      have HL3 := Lib.hid (show X1.length + 1 ≤ 140737488355328 by rw [hX1, List.length_take]; omega)
      rw [hz]
      clear hz hv hX1 hX2 h12 hO hk8 HO
      go_wp2_with (at_builtin; refine app1b (w.heap.size + 1) rfl (.tmp 11) (.tmp 18) rfl _ X1 X2 (n / 2 ^ (8 * k) % 256) _ H12.out HV.out rfl rfl HO1.out HL2.out HL3.out ?_)
      intro v1 w1 ho1 hb1 hgr1
      have ho2 := ho1.out
      rw [HX2.out] at ho2
      have HO2 := Lib.hid ho2
      have HB1 := Lib.hid (hb1.out _ _ HB.out (by omega))
      have HA1 := Lib.hid (HA.out.below (hb1.out (w.heap.size + 1) _ (Below.refl _ _) (Nat.le_refl _)) (Nat.lt_succ_self _))
      clear ho1 hb1 hgr1 ho2
      go_wp2
      go_roundg g
      case measure => omega
      case rel =>
        exact ⟨k + 1, by show _ = _; have := HK.out; omega, by have := HZ.out; congr 1; omega, HO2.out, HA1.out, HB1.out⟩
end Go.Proofs.YthnbnckmeffkmaaGreat
/- Slices of hashes: what one reads as; append of one hash. -/
namespace Go.Proofs.YthnbnckmeffkmaaGreat
open Go.RowKit Go.Lib
set_option linter.unusedVariables false
set_option linter.unusedSimpArgs false

/-- A slice value that reads as these hashes. -/
def HsIs (w : World) (v : Value) (Hs : List (List Nat)) : Prop :=
  (∀ H ∈ Hs, IsH H) ∧ ((v = .slice none 0 0 ∧ Hs = []) ∨ ∃ b off c, v = .slice (some ⟨b, off, none⟩) Hs.length c ∧ Hs.length ≤ c ∧ c ≤ maxLen ∧ ∀ j, j < Hs.length → w.rangeAt b (off + j * 32) (bys (Hs.getD j [])))
theorem HsIs.form {w : World} {v : Value} {Hs : List (List Nat)} (h : HsIs w v Hs) : ∃ a c, v = .slice a Hs.length c := by
  rcases h.2 with ⟨rfl, rfl⟩ | ⟨b, off, c, rfl, _⟩
  · exact ⟨_, _, rfl⟩
  · exact ⟨_, _, rfl⟩
theorem IsH.getD {Hs : List (List Nat)} (h : ∀ H ∈ Hs, IsH H) {j : Nat} (hj : j < Hs.length) : IsH (Hs.getD j []) := by
  rw [show Hs.getD j [] = Hs[j] by simp only [List.getD, List.getElem?_eq_getElem hj, Option.getD_some]]
  exact h _ (List.getElem_mem hj)
theorem HsIs.below {w w' : World} {v : Value} {Hs : List (List Nat)} (h : HsIs w v Hs) (hb : Below w.heap.size w w') : HsIs w' v Hs := by
  refine ⟨h.1, h.2.imp id ?_⟩
  rintro ⟨b, off, c, h1, h2, h3, h4⟩
  refine ⟨b, off, c, h1, h2, h3, fun j hj => ?_⟩
  have hr := h4 j hj
  have h32 := (IsH.getD h.1 hj).1
  have hc : ∃ u, w.cell? ⟨b, off + j * 32, none⟩ = some u := ⟨_, hr 0 _ (bys_get _ 0 (by omega))⟩
  obtain ⟨u, hu⟩ := hc
  exact rangeAt_below hr hb (World.block_lt_of_cell? w _ hu)
theorem HsIs.drew {w : World} {v : Value} {Hs : List (List Nat)} (h : HsIs w v Hs) : HsIs w.drew v Hs := h
theorem flat_len : ∀ (Hs : List (List Nat)), (∀ H ∈ Hs, IsH H) → Hs.flatten.length = Hs.length * 32
  | [], _ => rfl
  | H :: Hs, h => by
    rw [List.flatten_cons, List.length_append, flat_len Hs (fun x hx => h x (List.mem_cons_of_mem _ hx)), (h H (List.mem_cons_self ..)).1, List.length_cons]; omega
theorem flat_get : ∀ (Hs : List (List Nat)), (∀ H ∈ Hs, IsH H) → ∀ j i, j < Hs.length → i < 32 → Hs.flatten[j * 32 + i]? = (Hs.getD j [])[i]?
  | [], _, j, i, hj, _ => by simp at hj
  | H :: Hs, h, j, i, hj, hi => by
    have h32 := (h H (List.mem_cons_self ..)).1
    rw [List.flatten_cons]
    cases j with
    | zero => rw [List.getElem?_append_left (by omega)]; simp
    | succ j =>
      rw [List.getElem?_append_right (by omega), h32, show (j + 1) * 32 + i - 32 = j * 32 + i by omega, flat_get Hs (fun x hx => h x (List.mem_cons_of_mem _ hx)) j i (by simpa using hj) hi]
      simp [List.getD]
theorem own_hs {w : World} {base : Nat} {e : TypeId} {v : Value} {Hs : List (List Nat)} (h : w.ownsRow base e 32 v Hs.length (bys Hs.flatten)) (hH : ∀ H ∈ Hs, IsH H) : HsIs w v Hs := by
  refine ⟨hH, ?_⟩
  rcases h.2 with ⟨rfl, h0⟩ | ⟨g, cap, cur, rfl, hb, hg, hn, hc, hcur⟩
  · exact .inl ⟨rfl, List.eq_nil_of_length_eq_zero h0⟩
  · refine .inr ⟨g, 0, cap, rfl, hn, hc, fun j hj i u hu => ?_⟩
    have hi : i < 32 := by
      have := (List.getElem?_eq_some_iff.1 hu).1
      rw [bys_len, (IsH.getD hH hj).1] at this; exact this
    rw [Nat.zero_add, World.ownsRow.cellAt h (j * 32 + i) (by omega)]
    unfold bys at hu ⊢
    rw [List.getElem?_map] at hu ⊢
    rw [flat_get Hs hH j i hj hi]; exact hu
theorem infoH : (Tryz.prog.info? 24).map (fun i => (i.zero, i.size, i.bytes)) = some (some (.agg (List.replicate 32 (.int .u8 0)).toArray), 32, 32) := by kernel_rfl
/-- append(v, h), the hash's box just laid. -/
theorem appH {ops : Array Oper} {rest : List Oper} {o : Oper} {a : Act} {Q : Exit → Act → World → Prop} {W : World} (base : Nat) (hgd : o.guard = none) (s x : Operand)
    (ho : o.op = .call { callee := .builtin .append, args := #[s, x], argTypes := #[39, 39] }) (v : Value) (X Z : List (List Nat)) (H : List Nat) (cs : Array Value) (hcs : cs = (bys H).toArray) (hZ : X ++ [H] = Z) (hH : IsH H) (hX : ∀ h ∈ X, IsH h) (hs : a.eval s = v)
    (hx : a.eval x = .slice (some ⟨W.heap.size, 0, none⟩) 1 1) (HO : W.ownsRow base 24 32 v X.length (bys X.flatten)) (hbase : base ≤ W.heap.size) (hl : (X.length + 1) * 32 ≤ 140737488355328)
    (h : ∀ v1 w1, Hid (w1.ownsRow base 24 32 v1 Z.length (bys Z.flatten)) → Hid (∀ B w0, Below B w0 W → B ≤ base → Below B w0 w1) → wpList Tryz.prog ops Q rest (a.put o.dst v1) w1) :
    wpList Tryz.prog ops Q (o :: rest) a (W.alloc (.cells cs 24)) := by
  subst hZ hcs
  obtain ⟨i0, hi, hzz⟩ := Option.map_eq_some_iff.1 infoH
  simp only [Prod.mk.injEq] at hzz
  obtain ⟨hz0, hz1, hz2⟩ := hzz
  have ha := Arr.made W 24 (bys H)
  have hg0 : W.grownBy (W.alloc (.cells (bys H).toArray 24)) v.ownBlock := World.grownBy_alloc W _ _
  refine wpList_append_own (W.alloc (.cells (bys H).toArray 24)) hgd s x 39 ho base 24 i0 (.agg (List.replicate 32 (.int .u8 0)).toArray) 32 32 Tryz.underlying39 hi hz0 hz1 hz2 (by rfl) (by omega) v X.length (bys X.flatten) hs (HO.alloc _)
    ⟨W.heap.size, 0, none⟩ 1 1 (bys H) hx (by rw [bys_len, hH.1]) (fun j u hu => by rw [add_nospot, ha.cell]; exact hu) (bys_one H) (by unfold maxLen; omega) hl (by simp; omega) ?_
  intro v1 w1 hown hg _
  have hg2 := World.grownBy.trans hg0 hg
  refine h v1 w1 ?_ (fun B w0 hB hb => hB.grown hg2 (by omega) (fun k hk => Nat.le_trans hb (HO.lt k hk).1))
  show World.ownsRow _ _ _ _ _ _ _
  rw [← bys_app] at hown
  simpa using hown
end Go.Proofs.YthnbnckmeffkmaaGreat
/- merkle.leaves. -/
namespace Go.Proofs.YthnbnckmeffkmaaGreat
open Go.RowKit Go.Lib
set_option linter.unusedVariables false
set_option linter.unusedSimpArgs false
attribute [local go_sem ↓] Go.wp_at_zero Go.wp_at_succ

theorem fold_cells_at : ∀ (L : List Value) (n : Nat) (zs : Array Value), zs.size = n + L.length → List.foldl (fun (cs : Array Value) (x : Value × Nat) => cs.setIfInBounds x.snd x.fst) zs (L.zipIdx n) = (zs.toList.take n ++ L).toArray
  | [], n, zs, h => by
    simp only [List.zipIdx_nil, List.foldl_nil, List.append_nil]
    rw [List.take_of_length_le (by simp at h; rw [Array.length_toList]; omega)]
  | x :: L, n, zs, h => by
    rw [List.zipIdx_cons, List.foldl_cons, fold_cells_at L (n + 1) _ (by rw [Array.size_setIfInBounds, h, List.length_cons]; omega)]
    congr 1
    rw [Array.toList_setIfInBounds, List.take_add_one, List.take_set_of_le (Nat.le_refl _), List.getElem?_set_self (by rw [Array.length_toList, h, List.length_cons]; omega)]
    simp
theorem fold_cells (L : List Value) (zs : Array Value) (h : zs.size = L.length) : List.foldl (fun (cs : Array Value) (x : Value × Nat) => cs.setIfInBounds x.snd x.fst) zs L.zipIdx = L.toArray := by
  rw [fold_cells_at L 0 zs (by omega)]; simp
theorem own_below {w w' : World} {base : Nat} {e : TypeId} {size : Nat} {v : Value} {n : Nat} {xs : List Value} (h : w.ownsRow base e size v n xs) (hb : Below w.heap.size w w') : w'.ownsRow base e size v n xs := by
  refine ⟨h.1, h.2.imp id ?_⟩
  rintro ⟨g, cap, cur, h1, h2, h3, h4⟩
  refine ⟨g, cap, cur, h1, h2, ?_, h4⟩
  have hl : g < w.heap.size := by
    rcases Nat.lt_or_ge g w.heap.size with h | h
    · exact h
    · rw [Array.getElem?_eq_none h] at h3; simp at h3
  rw [hb.block g hl]; exact h3
theorem leafF_h (I : List Nat) : IsH (leafF I) := tagF_h _ _
theorem size_hash (H : List Nat) (h : H.length = 32) : (Tryz.prog.info? 24).map (·.size) = some (bys H).length := by rw [bys_len, h]; exact size32

set_option maxRecDepth 100000 in
set_option maxHeartbeats 1600000 in
theorem leaves_any (v : Value) (Hs : List (List Nat)) (w : World) (hl : Hs.length ≤ 1048576) (hv : HsIs w v Hs) :
    Calls Tryz.prog 121 #[v] w fun e w' => ∃ v', e = .returned v' ∧ HsIs w' v' (Hs.map leafF) ∧ Below w.heap.size w w' := by
  have hz := zero32
  obtain ⟨a0, c0, rfl⟩ := hv.form
  have HV := Lib.hid hv
  have HLl := Lib.hid hl
  clear hv hl
  go_enter Tryz.func121, Tryz.ntmps121
  have HO0 := Lib.hid (show w.ownsRow w.heap.size 24 32 (.slice none 0 0) (((Hs.map leafF).take 0)).length (bys ((Hs.map leafF).take 0).flatten) from own_nil _ _ _ _)
  go_wp2
  go_loopg [3, 5, 8] Hs.length (fun g vv v5 vn wq => ∃ k : Nat, Hid (g + k = Hs.length) ∧ vn = .int .i64 (k : Int) ∧ Hid (wq.ownsRow w.heap.size 24 32 vv ((Hs.map leafF).take k).length (bys ((Hs.map leafF).take k).flatten)) ∧ Hid (Below w.heap.size w wq))
  case atStart => exact ⟨0, rfl, rfl, HO0.out, Below.refl _ _⟩
  case round =>
    obtain ⟨k, hk, rfl, ho, hb⟩ := hrel
    have HK := Lib.hid hk.out
    have HO := Lib.hid ho.out
    have HB := Lib.hid hb.out
    clear hk ho hb HO0
    have hll := HLl.out
    cases gk with
    | zero =>
      have hlt : ¬ ((k : Int) < (Hs.length : Int)) := by have := HK.out; omega
      have hO := HO.out
      rw [List.take_of_length_le (by rw [List.length_map]; have := HK.out; omega)] at hO
      have HHs := Lib.hid (own_hs hO (fun H hH => by obtain ⟨I, _, rfl⟩ := List.mem_map.1 hH; exact leafF_h I))
      clear hO HO
      go_wp2
      go_ret
      exact ⟨_, rfl, HHs.out, HB.out⟩
    | succ g =>
      have hkl : k < Hs.length := by have := HK.out; omega
      have hlt : ((k : Int) < (Hs.length : Int)) := by omega
      rcases HV.out.2 with ⟨_, h0⟩ | ⟨b, off, c, e1, q1, q2, q3⟩
      · rw [h0] at hkl; simp at hkl
      cases e1
      have hH := IsH.getD HV.out.1 hkl
      have hr := ((HV.out.below HB.out).2)
      obtain ⟨H, hHe⟩ : ∃ H, Hs.getD k [] = H := ⟨_, rfl⟩
      have hrg : wr.rangeAt b (off + k * 32) (bys H) := by
        rw [← hHe]
        rcases hr with ⟨h, _⟩ | ⟨b', off', c', e2, _, _, q⟩
        · cases h
        · cases e2; exact q k hkl
      rw [hHe] at hH
      have HH := Lib.hid hH
      have HHe := Lib.hid hHe
      have HRg := Lib.hid hrg
      have HSh := Lib.hid (size_hash H hH.1)
      have HSh2 := Lib.hid (show (Tryz.prog.info? 24).map (·.size) = some (bys H).toArray.size by rw [List.size_toArray]; exact size_hash H hH.1)
      have O1 := Lib.hid (all_oneCell_toArray (bys_one H))
      have HKl := Lib.hid hkl
      clear hr hrg hHe hH q1 q2 q3 hkl
      go_upto_region 4 with fail
      go_step
      iterate 3 (first | go_values | go_skip | go_guarded | go_step | go_upon)
      refine wpList_load_mid (P := Tryz.prog) rfl 24 _ rfl b (off + k * 32) rfl _ _ HRg.out Tryz.underlying24 rfl HSh.out ?_
      iterate 3 (first | go_values | go_skip | go_guarded | go_step | go_upon)
      have hm := Arr.made wr 24 (List.replicate 32 (.int .u8 0))
      have hpk := And.intro (hm.there (bys H).toArray.size (by simp [bys_len, HH.out.1])) (And.intro (hm.setAll (bys H) (by simp [bys_len, HH.out.1])) (below_sets wr.heap.size (Nat.le_refl _) (bys H) 0 ((Below.refl wr.heap.size wr).alloc (Nat.le_refl _) (.cells (List.replicate 32 (.int .u8 0)).toArray 24))))
      have HPk := Lib.hid hpk
      clear hm hpk
      refine wpList_store_mid (P := Tryz.prog) rfl 24 _ _ rfl wr.heap.size 0 (bys H).toArray rfl rfl HPk.out.1 HSh2.out O1.out ?_
      have hpk := HPk.out.2
      simp only [List.reduceReplicate] at hpk
      have HPk2 := Lib.hid hpk
      have hB2 := HB.out.trans (hpk.2.mono HB.out.size)
      have HB2 := Lib.hid hB2
      clear HPk hpk hB2
      obtain ⟨g5, hg5⟩ : ∃ g5, wr.heap.size = g5 := ⟨_, rfl⟩
      have HG5 := Lib.hid hg5
      rw [hg5] at HPk2 HB2 ⊢
      rw [show (bys H).toArray.toList = bys H from rfl]
      generalize World.setCells _ _ _ _ = w2 at *
      clear hg5
      go_upto_region 5 with fail
      go_step
      iterate 3 (first | go_values | go_skip | go_guarded | go_step | go_upon)
      refine wpList_load_mid (P := Tryz.prog) rfl 24 _ rfl g5 0 rfl _ _ HPk2.out.1.range Tryz.underlying24 rfl HSh.out ?_
      go_wp2_with fail
      refine (leaf_any H HH.out w2).mono ?_
      rintro e w3 ⟨rfl, hb3⟩
      dsimp only
      have hbw : Below w.heap.size w w3 := HB2.out.trans (hb3.mono HB2.out.size)
      have hown3 : w3.ownsRow w.heap.size 24 32 u3 ((Hs.map leafF).take k).length (bys ((Hs.map leafF).take k).flatten) := by
        have hb13 : Below wr.heap.size wr w3 := by rw [HG5.out]; exact HPk2.out.2.trans (hb3.mono (by rw [← HG5.out]; exact HPk2.out.2.size))
        exact own_below HO.out hb13
      obtain ⟨X1, hX1⟩ : ∃ X1, X1 = (Hs.map leafF).take k := ⟨_, rfl⟩
      obtain ⟨X2, hX2⟩ : ∃ X2, X2 = (Hs.map leafF).take (k + 1) := ⟨_, rfl⟩
      have h12 : X1 ++ [leafF H] = X2 := by
        rw [hX1, hX2, List.take_succ_eq_append_getElem (by rw [List.length_map]; exact HKl.out), List.getElem_map, ← HHe.out]
        congr 3
        simp only [List.getD, List.getElem?_eq_getElem HKl.out, Option.getD_some]
      have hX1h : ∀ h ∈ X1, IsH h := fun h hm => by
        rw [hX1] at hm
        obtain ⟨I, _, rfl⟩ := List.mem_map.1 (List.mem_of_mem_take hm)
        exact leafF_h I
      rw [← hX1] at hown3
      have HO3 := Lib.hid hown3
      have H12 := Lib.hid h12
      have HX1h := Lib.hid hX1h
      have HX2 := Lib.hid hX2
      have HBw := Lib.hid hbw
      have HLx := Lib.hid (show (X1.length + 1) * 32 ≤ 140737488355328 by rw [hX1, List.length_take, List.length_map]; omega)
      obtain ⟨R, hR⟩ : ∃ R, R = leafF H := ⟨_, rfl⟩
      rw [← hR] at H12 ⊢
      have HRh := Lib.hid (show IsH R by rw [hR]; exact leafF_h H)
      clear hX1 hX2 h12 hX1h hown3 hbw hb3 hR HO HB2 HPk2 HRg
      have hbl : (bys R).length = 32 := by rw [bys_len]; exact HRh.out.1
      go_wp2_with (at_builtin; refine appH w.heap.size rfl (.tmp 12) (.tmp 15) rfl u3 X1 X2 R _ (fold_cells _ _ (by simp [bys_len, HRh.out.1])) H12.out HRh.out HX1h.out rfl rfl HO3.out HBw.out.size HLx.out ?_)
      clear hbl
      intro v4 w4 ho4 hb4
      have hO4 := ho4.out
      rw [HX2.out] at hO4
      have HO4 := Lib.hid hO4
      have HB4 := Lib.hid (hb4.out w.heap.size w HBw.out (Nat.le_refl _))
      clear ho4 hb4 hO4
      go_wp2
      go_roundg g
      case measure => omega
      case rel =>
        exact ⟨k + 1, by show _ = _; have := HK.out; omega, by go_num, HO4.out, HB4.out⟩
end Go.Proofs.YthnbnckmeffkmaaGreat
