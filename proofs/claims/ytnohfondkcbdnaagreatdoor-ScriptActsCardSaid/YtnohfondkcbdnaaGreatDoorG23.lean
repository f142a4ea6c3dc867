/- plexusref29.ActText, kind 4. -/
import Derived.Test.YtnohfondkcbdnaaGreatDoorG22
import Derived.Test.YtnohfondkcbdnaaGreatDoorG11
namespace Go.Proofs.YtnohfondkcbdnaaGreatDoor
open Go.RowKit Go.Lib
set_option linter.unusedVariables false
set_option linter.unusedSimpArgs false
attribute [local go_sem ↓] Go.wp_at_zero Go.wp_at_succ

noncomputable def foldT (Z : ByteArray) (T : List TxM) : ByteArray := T.foldl (fun s t => s ++ SP ++ txB t) Z
theorem foldT_snoc (Z : ByteArray) (T : List TxM) (k : Nat) (x : TxM) (h : T[k]? = some x) : foldT Z (T.take (k + 1)) = foldT Z (T.take k) ++ SP ++ txB x := by
  unfold foldT
  rw [List.take_add_one, h, List.foldl_append]; rfl
theorem ba_size (a b : ByteArray) : (a ++ b).size = a.size + b.size := ByteArray.size_append
theorem foldT_size (Z : ByteArray) (T : List TxM) (h : ∀ x ∈ T, (txB x).size ≤ 60000) : (foldT Z T).size ≤ Z.size + T.length * 60001 := by
  induction T generalizing Z with
  | nil => show Z.size ≤ _; omega
  | cons x r ih =>
    have h1 := ih (Z ++ SP ++ txB x) (fun y hy => h y (List.mem_cons_of_mem _ hy))
    have h2 := h x List.mem_cons_self
    have h3 : (Z ++ SP ++ txB x).size = Z.size + 1 + (txB x).size := by rw [ba_size, ba_size]; rfl
    show (foldT (Z ++ SP ++ txB x) r).size ≤ _
    rw [List.length_cons]
    omega
theorem qual_sp (S : ByteArray) (b : Bool) (q : ByteArray) (h : SP ++ qualB b = q) : S ++ q = S ++ SP ++ qualB b := by
  rw [← h, ByteArray.append_assoc]
set_option maxRecDepth 100000 in
set_option maxHeartbeats 6400000 in
theorem ract4_any (a : ActM) (w : World) (ha : a.ok w) (ht : TabO w) (hm : MayP a) (hK : a.kind = 4) :
    Calls Tryz.prog 13 #[.agg a.cells.toArray] w fun e w' => e = .returned (.string (actTF a (nmB 4) (wsB 4))) ∧ Below w.heap.size w w' := by
  have HM := Lib.hid hm
  have HKk := Lib.hid hK
  obtain ⟨aB, cB, hbv⟩ := ha.B.form
  obtain ⟨aP, cP, hpv⟩ := ha.P.2.form
  obtain ⟨aT, cT, htv⟩ := ha.T.2.form
  have HV := Lib.hid (And.intro hbv (And.intro hpv htv))
  have HA0 := Lib.hid ha
  have HT0 := Lib.hid ht
  obtain ⟨N, hN⟩ : ∃ N, nmB 4 = N := ⟨_, rfl⟩
  have HNm := Lib.hid hN
  have hsN : N.size ≤ 10 := by rw [← hN]; decide
  obtain ⟨RES, hRES⟩ : ∃ RES, actTF a (nmB 4) (wsB 4) = RES := ⟨_, rfl⟩
  have HRES := Lib.hid hRES
  rw [hRES]
  clear hm ha ht hbv hpv htv hN hRES hK
  go_enter Tryz.func13, Tryz.ntmps13
  go_upto_region 1 with fail
  have hm := Arr.made w 30 a.cells
  have hb := (Below.refl w.heap.size w).alloc (Nat.le_refl _) (.cells a.cells.toArray 30)
  have HS0 := Lib.hid (show RActS w.heap.size a (World.drew (World.alloc _ _)) from ⟨⟨hm, HA0.out.lock⟩, HA0.out.below hb.drew, HT0.out.below hb.drew⟩)
  have HB8 := Lib.hid hb.drew
  obtain ⟨g, hg⟩ : ∃ g, w.heap.size = g := ⟨_, rfl⟩
  have HB8z := Lib.hid (show g ≤ (World.drew (World.alloc w (.cells a.cells.toArray 30))).heap.size by rw [← hg]; exact HB8.out.size)
  rw [hg] at HS0 HB8 ⊢
  have HG := Lib.hid hg
  clear hg hm hb
  refine wp_region_H (RActS g a) (by kernel_rfl) ?_
  generalize World.drew _ = w8 at *
  simp only [List.size_toArray, List.length_cons, List.length_nil, Nat.reduceAdd, Array.replicate_succ, Array.replicate_zero, List.push_toArray, List.nil_append, List.cons_append]
  refine wpAnyH_take (i := 1) (oi := ⟨some 7, _, _, _, _, _⟩) (v := ?_) rfl (by kernel_rfl) (by kernel_rfl) (by kernel_rfl) (fun _ _ _ h => h) (Or.inl ⟨by rfl, ?_⟩) HS0.out ?_
  rotate_left
  · intro w hSw
    go_simp <;> with_reducible rfl
  dsimp only [Act.put]
  simp only [List.setIfInBounds_toArray, List.set_cons_zero, List.set_cons_succ]
  refine wpAnyH_take (i := 2) (oi := ⟨some 8, _, _, _, _, _⟩) (v := .int .i64 4) rfl (by kernel_rfl) (by kernel_rfl) (by kernel_rfl) (fun _ _ _ h => h) (Or.inl ⟨by rfl, ?_⟩) HS0.out ?_
  · intro w hSw
    have hq := hSw.1.kindIs 4 HKk.out
    go_simp <;> with_reducible rfl
  dsimp only [Act.put]
  simp only [List.setIfInBounds_toArray, List.set_cons_zero, List.set_cons_succ]
  refine wpAnyH_one (i := 0) (oi := ⟨some 6, _, _, _, _, _⟩) (by kernel_rfl) rfl (by rfl) (fun K9 hK9 => ?_)
  have HK9 := Lib.hid hK9
  clear hK9
  go_simp
  refine (rnames_any w8).mono ?_
  rintro e w2 ⟨gN, rfl, hge, harr, hb9⟩
  dsimp only
  have HcN := Lib.hid (name_cell harr 4 N HNm.out rfl)
  clear hge harr
  have HS1 := Lib.hid (HS0.out.below hb9)
  have HB1 := Lib.hid (HB8.out.trans (hb9.mono HB8z.out))
  have HZ1 := Lib.hid (Nat.le_trans HB8z.out hb9.size)
  clear HS0 HB8 HB8z hb9
  have HS0 := HS1
  have HB8 := HB1
  have HB8z := HZ1
  clear HS1 HB1 HZ1
  refine HK9.out _ _ HS0.out ?_
  clear HK9
  simp only [List.setIfInBounds_toArray, List.set_cons_zero, List.set_cons_succ]
  refine wpAnyH_one (i := 3) (oi := ⟨some 9, _, _, _, _, _⟩) (by kernel_rfl) rfl (by rfl) (fun K9 hK9 => ?_)
  have HK9 := Lib.hid hK9
  clear hK9
  go_simp
  refine HK9.out _ _ HS0.out ?_
  clear HK9
  simp only [List.setIfInBounds_toArray, List.set_cons_zero, List.set_cons_succ]
  refine wpAnyH_one (i := 4) (oi := ⟨some 10, _, _, _, _, _⟩) (by kernel_rfl) rfl (by rfl) (fun K9 hK9 => ?_)
  have HK9 := Lib.hid hK9
  clear hK9
  have hq := HcN.out
  go_simp
  refine HK9.out _ _ HS0.out ?_
  clear HK9
  simp only [List.setIfInBounds_toArray, List.set_cons_zero, List.set_cons_succ]
  refine wpAnyH_take (i := 5) (oi := ⟨some 3, _, _, _, _, _⟩) (v := .string N) rfl (by kernel_rfl) (by kernel_rfl) (by kernel_rfl) (fun _ _ _ h => h) (Or.inl ⟨by rfl, ?_⟩) HS0.out ?_
  · intro w hSw
    go_simp <;> with_reducible rfl
  dsimp only [Act.put]
  simp only [List.setIfInBounds_toArray, List.set_cons_zero, List.set_cons_succ]
  refine wpAnyH_done (by kernel_rfl) ?_ _
  have HD := Lib.hid (decB_size a.nonce HS0.out.2.1.nonce)
  obtain ⟨D, hD⟩ : ∃ D, decB a.nonce = D := ⟨_, rfl⟩
  have hn_ := HS0.out.1.nonce
  have HC := Lib.hid (fmt_any a.nonce HS0.out.2.1.nonce w2 HS0.out.2.2)
  rw [hD] at HC HD
  have HDe := Lib.hid hD
  clear hD
  go_wp2_with fail
  with_reducible refine (HC.out).mono ?_
  rintro e w3 ⟨rfl, hb9⟩
  dsimp only
  have HS1 := Lib.hid (HS0.out.below hb9)
  have HB1 := Lib.hid (HB8.out.trans (hb9.mono HB8z.out))
  have HZ1 := Lib.hid (Nat.le_trans HB8z.out hb9.size)
  clear HS0 HB8 HB8z hb9
  have HS0 := HS1
  have HB8 := HB1
  have HB8z := HZ1
  clear HS1 HB1 HZ1
  clear hn_ HC HcN
  have hk_ := HS0.out.1.kindIs 4 HKk.out
  have hsD := HD.out
  obtain ⟨E, hE⟩ : ∃ E, listB a.P = E := ⟨_, rfl⟩
  have hsE : E.size ≤ 600 := by rw [← hE]; have h1 := listB_size a.P HA0.out.P.1; have h2 := HM.out.2.2.2.1; omega
  have HEe := Lib.hid hE
  clear hE
  obtain ⟨F, hF⟩ : ∃ F, strL (hexF a.lock) = F := ⟨_, rfl⟩
  have hsF : F.size ≤ 100 := by rw [← hF]; rw [strL_size, hexF_len, HA0.out.lock.1]; omega
  have HFe := Lib.hid hF
  clear hF
  go_upto_region 10 with fail
  clear hk_
  have HS1 := Lib.hid (HS0.out.below (Below.refl _ _).drew)
  have HB1 := Lib.hid HB8.out.drew
  have HZ1 := Lib.hid (show g ≤ w3.drew.heap.size from HB8z.out)
  clear HS0 HB8 HB8z
  have HS0 := HS1
  have HB8 := HB1
  have HB8z := HZ1
  clear HS1 HB1 HZ1
  refine wp_region_H (RActS g a) (by kernel_rfl) ?_
  generalize World.drew _ = w8 at *
  simp only [List.size_toArray, List.length_cons, List.length_nil, Nat.reduceAdd, Array.replicate_succ, Array.replicate_zero, List.push_toArray, List.nil_append, List.cons_append]
  refine wpAnyH_take (i := 0) (oi := ⟨some 38, _, _, _, _, _⟩) (v := .string N) rfl (by kernel_rfl) (by kernel_rfl) (by kernel_rfl) (fun _ _ _ h => h) (Or.inl ⟨by rfl, ?_⟩) HS0.out ?_
  · intro w hSw
    go_simp <;> with_reducible rfl
  dsimp only [Act.put]
  simp only [List.setIfInBounds_toArray, List.set_cons_zero, List.set_cons_succ]
  refine wpAnyH_take (i := 1) (oi := ⟨some 39, _, _, _, _, _⟩) (v := ?_) rfl (by kernel_rfl) (by kernel_rfl) (by kernel_rfl) (fun _ _ _ h => h) (Or.inl ⟨by rfl, ?_⟩) HS0.out ?_
  rotate_left
  · intro w hSw
    go_simp <;> (first | with_reducible rfl | (rw [if_neg (by omega)]))
  dsimp only [Act.put]
  simp only [List.setIfInBounds_toArray, List.set_cons_zero, List.set_cons_succ]
  refine wpAnyH_take (i := 2) (oi := ⟨some 40, _, _, _, _, _⟩) (v := ?_) rfl (by kernel_rfl) (by kernel_rfl) (by kernel_rfl) (fun _ _ _ h => h) (Or.inl ⟨by rfl, ?_⟩) HS0.out ?_
  rotate_left
  · intro w hSw
    go_simp <;> with_reducible rfl
  dsimp only [Act.put]
  simp only [List.setIfInBounds_toArray, List.set_cons_zero, List.set_cons_succ]
  refine wpAnyH_take (i := 3) (oi := ⟨some 41, _, _, _, _, _⟩) (v := .slice aP a.P.length cP) rfl (by kernel_rfl) (by kernel_rfl) (by kernel_rfl) (fun _ _ _ h => h) (Or.inl ⟨by rfl, ?_⟩) HS0.out ?_
  · intro w hSw
    have hq := hSw.1.pv
    rw [HV.out.2.1] at hq
    go_simp <;> with_reducible rfl
  dsimp only [Act.put]
  simp only [List.setIfInBounds_toArray, List.set_cons_zero, List.set_cons_succ]
  refine wpAnyH_take (i := 7) (oi := ⟨some 45, _, _, _, _, _⟩) (v := ?_) rfl (by kernel_rfl) (by kernel_rfl) (by kernel_rfl) (fun _ _ _ h => h) (Or.inl ⟨by rfl, ?_⟩) HS0.out ?_
  rotate_left
  · intro w hSw
    go_simp <;> with_reducible rfl
  dsimp only [Act.put]
  simp only [List.setIfInBounds_toArray, List.set_cons_zero, List.set_cons_succ]
  refine wpAnyH_take (i := 8) (oi := ⟨some 46, _, _, _, _, _⟩) (v := .slice (some ⟨g, 2, none⟩) 32 32) rfl (by kernel_rfl) (by kernel_rfl) (by kernel_rfl) (fun _ _ _ h => h) (Or.inl ⟨by rfl, ?_⟩) HS0.out ?_
  · intro w hSw
    go_simp <;> with_reducible rfl
  dsimp only [Act.put]
  simp only [List.setIfInBounds_toArray, List.set_cons_zero, List.set_cons_succ]
  refine wpAnyH_take (i := 12) (oi := ⟨some 50, _, _, _, _, _⟩) (v := .string D) rfl (by kernel_rfl) (by kernel_rfl) (by kernel_rfl) (fun _ _ _ h => h) (Or.inl ⟨by rfl, ?_⟩) HS0.out ?_
  · intro w hSw
    go_simp <;> with_reducible rfl
  dsimp only [Act.put]
  simp only [List.setIfInBounds_toArray, List.set_cons_zero, List.set_cons_succ]
  refine wpAnyH_one (i := 4) (oi := ⟨some 42, _, _, _, _, _⟩) (by kernel_rfl) rfl (by rfl) (fun K9 hK9 => ?_)
  have HK9 := Lib.hid hK9
  clear hK9
  go_simp
  have HC := Lib.hid (parents_any a.P (.slice aP a.P.length cP) w8 (by rw [← HV.out.2.1]; exact HS0.out.2.1.P) (Nat.le_trans HM.out.2.2.2.1 (by decide)) HS0.out.2.2)
  rw [HEe.out] at HC
  with_reducible refine (HC.out).mono ?_
  rintro e w4 ⟨rfl, hb9⟩
  dsimp only
  clear HC
  have HS1 := Lib.hid (HS0.out.below hb9)
  have HB1 := Lib.hid (HB8.out.trans (hb9.mono HB8z.out))
  have HZ1 := Lib.hid (Nat.le_trans HB8z.out hb9.size)
  clear HS0 HB8 HB8z hb9
  have HS0 := HS1
  have HB8 := HB1
  have HB8z := HZ1
  clear HS1 HB1 HZ1
  refine HK9.out _ _ HS0.out ?_
  clear HK9
  simp only [List.setIfInBounds_toArray, List.set_cons_zero, List.set_cons_succ]
  refine wpAnyH_take (i := 5) (oi := ⟨some 43, _, _, _, _, _⟩) (v := ?_) rfl (by kernel_rfl) (by kernel_rfl) (by kernel_rfl) (fun _ _ _ h => h) (Or.inl ⟨by rfl, ?_⟩) HS0.out ?_
  rotate_left
  · intro w hSw
    go_simp <;> (first | with_reducible rfl | (rw [if_neg (by omega)]))
  dsimp only [Act.put]
  simp only [List.setIfInBounds_toArray, List.set_cons_zero, List.set_cons_succ]
  refine wpAnyH_take (i := 6) (oi := ⟨some 44, _, _, _, _, _⟩) (v := ?_) rfl (by kernel_rfl) (by kernel_rfl) (by kernel_rfl) (fun _ _ _ h => h) (Or.inl ⟨by rfl, ?_⟩) HS0.out ?_
  rotate_left
  · intro w hSw
    go_simp <;> (first | with_reducible rfl | (rw [if_neg (by omega)]))
  dsimp only [Act.put]
  simp only [List.setIfInBounds_toArray, List.set_cons_zero, List.set_cons_succ]
  refine wpAnyH_one (i := 9) (oi := ⟨some 47, _, _, _, _, _⟩) (by kernel_rfl) rfl (by rfl) (fun K9 hK9 => ?_)
  have HK9 := Lib.hid hK9
  clear hK9
  go_simp
  have HC := Lib.hid (rhex_any (.slice (some ⟨g, 2, none⟩) 32 32) a.lock w4 HS0.out.1.lockB (by rw [HA0.out.lock.1]; omega))
  rw [HFe.out] at HC
  with_reducible refine (HC.out).mono ?_
  rintro e w5 ⟨rfl, hb9⟩
  dsimp only
  clear HC
  have HS1 := Lib.hid (HS0.out.below hb9)
  have HB1 := Lib.hid (HB8.out.trans (hb9.mono HB8z.out))
  have HZ1 := Lib.hid (Nat.le_trans HB8z.out hb9.size)
  clear HS0 HB8 HB8z hb9
  have HS0 := HS1
  have HB8 := HB1
  have HB8z := HZ1
  clear HS1 HB1 HZ1
  refine HK9.out _ _ HS0.out ?_
  clear HK9
  simp only [List.setIfInBounds_toArray, List.set_cons_zero, List.set_cons_succ]
  refine wpAnyH_take (i := 10) (oi := ⟨some 48, _, _, _, _, _⟩) (v := ?_) rfl (by kernel_rfl) (by kernel_rfl) (by kernel_rfl) (fun _ _ _ h => h) (Or.inl ⟨by rfl, ?_⟩) HS0.out ?_
  rotate_left
  · intro w hSw
    go_simp <;> (first | with_reducible rfl | (rw [if_neg (by omega)]))
  dsimp only [Act.put]
  simp only [List.setIfInBounds_toArray, List.set_cons_zero, List.set_cons_succ]
  refine wpAnyH_take (i := 11) (oi := ⟨some 49, _, _, _, _, _⟩) (v := ?_) rfl (by kernel_rfl) (by kernel_rfl) (by kernel_rfl) (fun _ _ _ h => h) (Or.inl ⟨by rfl, ?_⟩) HS0.out ?_
  rotate_left
  · intro w hSw
    go_simp <;> (first | with_reducible rfl | (rw [if_neg (by omega)]))
  dsimp only [Act.put]
  simp only [List.setIfInBounds_toArray, List.set_cons_zero, List.set_cons_succ]
  refine wpAnyH_take (i := 13) (oi := ⟨some 51, _, _, _, _, _⟩) (v := ?_) rfl (by kernel_rfl) (by kernel_rfl) (by kernel_rfl) (fun _ _ _ h => h) (Or.inl ⟨by rfl, ?_⟩) HS0.out ?_
  rotate_left
  · intro w hSw
    go_simp <;> (first | with_reducible rfl | (rw [if_neg (by omega)]))
  dsimp only [Act.put]
  simp only [List.setIfInBounds_toArray, List.set_cons_zero, List.set_cons_succ]
  refine wpAnyH_take (i := 14) (oi := ⟨some 3, _, _, _, _, _⟩) (v := ?_) rfl (by kernel_rfl) (by kernel_rfl) (by kernel_rfl) (fun _ _ _ h => h) (Or.inl ⟨by rfl, ?_⟩) HS0.out ?_
  rotate_left
  · intro w hSw
    go_simp <;> with_reducible rfl
  dsimp only [Act.put]
  simp only [List.setIfInBounds_toArray, List.set_cons_zero, List.set_cons_succ]
  refine wpAnyH_done (by kernel_rfl) ?_ _
  obtain ⟨S, hS⟩ : ∃ S, N ++ ({ data := #[32] } : ByteArray) ++ E ++ ({ data := #[32] } : ByteArray) ++ F ++ ({ data := #[32] } : ByteArray) ++ D = S := ⟨_, rfl⟩
  have hsS : S.size ≤ 1000 := by
    rw [← hS, ba_size, ba_size, ba_size, ba_size, ba_size, ba_size]
    have : (({ data := #[32] } : ByteArray)).size = 1 := rfl
    omega
  rw [hS]
  obtain ⟨Z, hZ⟩ : ∃ Z, S ++ SP ++ qualB a.bad = Z := ⟨_, rfl⟩
  have HRz := Lib.hid (show foldT Z a.T = RES by rw [← HRES.out, sum4 a N HNm.out, HEe.out, HFe.out, HDe.out, ← hZ, ← hS]; rfl)
  have hsZ : Z.size ≤ 2000 := by
    rw [← hZ, ba_size, ba_size]
    have h1 : SP.size = 1 := rfl
    have h2 : (qualB a.bad).size ≤ 4 := by cases a.bad <;> decide
    omega
  have HTf := Lib.hid (show ∀ x ∈ a.T, TxForm x from fun x hx => check_form (of_decide_eq_true (HM.out.2.2.2.2.2.2 x hx)))
  have HTl := Lib.hid (show ∀ x ∈ a.T, (txB x).size ≤ 60000 from fun x hx => txB_size (HA0.out.T.1 x hx) (HTf.out x hx))
  clear hS hsE hsF hsD HRES HDe HEe HFe HNm hsN
  obtain ⟨bd, hbd⟩ : ∃ bd, a.bad = bd := ⟨_, rfl⟩
  have HBd := Lib.hid hbd
  rw [hbd] at hZ
  have HZz := Lib.hid hZ
  clear hZ hbd
  cases bd with
  | true =>
    have hk_ := HS0.out.1.bad
    rw [HBd.out] at hk_
    go_upto_region 14 with fail
    rw [show S ++ ({ data := #[32, 98, 97, 100] } : ByteArray) = Z by rw [qual_sp S true _ (show SP ++ qualB true = _ by decide), HZz.out]]
    clear hk_ hsS
    go_upto_region 15 with fail
    go_loopg [3, 5] a.T.length (fun q v3 v5 wq => ∃ k : Nat, Hid (q + k = a.T.length) ∧ v3 = .string (foldT Z (a.T.take k)) ∧ v5 = .int .i64 (k : Int) ∧ Hid (RActS g a wq) ∧ Hid (Below g w wq))
    case atStart => exact ⟨0, rfl, rfl, rfl, HS0.out, HB8.out⟩
    case round =>
      obtain ⟨k, hk, rfl, rfl, hs, hb⟩ := hrel
      have HK := Lib.hid hk.out
      have HSq := Lib.hid hs.out
      have HBq := Lib.hid hb.out
      clear hk hs hb HS0 HB8
      have HZq := Lib.hid (show g ≤ wr.heap.size from Nat.le_of_lt HSq.out.1.lt)
      have hk_ := HSq.out.1.tv
      rw [HV.out.2.2] at hk_
      obtain ⟨Y, hY⟩ : ∃ Y, foldT Z (a.T.take k) = Y := ⟨_, rfl⟩
      have hsY : Y.size ≤ 1300000 := by
        rw [← hY]
        have h1 := foldT_size Z (a.T.take k) (fun x hx => HTl.out x (List.mem_of_mem_take hx))
        have h2 : (a.T.take k).length ≤ 20 := by rw [List.length_take]; have := HM.out.2.2.2.2.1; omega
        omega
      have HYe := Lib.hid hY
      rw [hY]
      clear hY
      cases gk with
      | zero =>
        have hlt : ¬ ((k : Int) < ((a.T.length : Nat) : Int)) := by have := HK.out; omega
        have HF := Lib.hid (show Y = RES by rw [← HYe.out, List.take_of_length_le (by have := HK.out; omega)]; exact HRz.out)
        clear HYe
        go_wp2
        go_ret
        exact ⟨by rw [HF.out]; rfl, by rw [HG.out]; exact HBq.out⟩
      | succ q =>
        have hll := HM.out.2.2.2.2.1
        have hkl : k < a.T.length := by have := HK.out; omega
        have hlt : ((k : Int) < ((a.T.length : Nat) : Int)) := by omega
        obtain ⟨x, hx⟩ : ∃ x, a.T[k]? = some x := ⟨_, List.getElem?_eq_getElem hkl⟩
        have HX := Lib.hid (HSq.out.2.1.T.1 x (List.mem_of_getElem? hx))
        have HXf := Lib.hid (HTf.out x (List.mem_of_getElem? hx))
        have hsx := HTl.out x (List.mem_of_getElem? hx)
        have hTq := HSq.out.2.1.T.2
        rw [HV.out.2.2] at hTq
        obtain ⟨b1, off1, he1, hl1, hr1⟩ := hTq.at hx
        have HE1 := Lib.hid he1
        have HR := Lib.hid hr1
        obtain ⟨U, hU⟩ : ∃ U, txB x = U := ⟨_, rfl⟩
        have HUe := Lib.hid hU
        rw [hU] at hsx
        have HSn := Lib.hid (show foldT Z (a.T.take (k + 1)) = Y ++ SP ++ U by rw [foldT_snoc Z a.T k x hx, HYe.out, hU])
        have HSz := Lib.hid (show (Tryz.prog.info? 53).map (·.size) = some x.cells.length from size_tx)
        clear hTq hl1 hr1 he1 hx hU HYe
        rw [HE1.out] at hk_
        go_upto_region 17 with fail
        go_step
        iterate 18 (first | go_values | go_skip | go_guarded | go_step | go_upon)
        refine wpList_load_mid (P := Tryz.prog) rfl 53 _ rfl b1 (off1 + k * 3) rfl _ _ HR.out Tryz.underlying53 rfl HSz.out ?_
        have HC := Lib.hid (rpack_any x wr HX.out HXf.out)
        go_wp2_with fail
        with_reducible refine HC.out.mono ?_
        rintro e w4 ⟨v4, rfl, hy4, hlo4, hb4⟩
        dsimp only
        have HS4 := Lib.hid (HSq.out.below hb4)
        have HB4 := Lib.hid (HBq.out.trans (hb4.mono HZq.out))
        have HZ4 := Lib.hid (Nat.le_trans HZq.out hb4.size)
        have HC5 := Lib.hid (rhex_any v4 (packF x) w4 hy4 (by have := packF_len HX.out HXf.out; omega))
        rw [show strL (hexF (packF x)) = U from HUe.out] at HC5
        clear hy4 hlo4 hb4 HC HSq HBq HR
        go_wp2_with fail
        with_reducible refine HC5.out.mono ?_
        rintro e w5 ⟨rfl, hb5⟩
        dsimp only
        have HS5 := Lib.hid (HS4.out.below hb5)
        have HB5 := Lib.hid (HB4.out.trans (hb5.mono HZ4.out))
        clear hb5 HC5 HS4 HB4
        go_wp2
        go_roundg q
        case measure => omega
        case rel => exact ⟨k + 1, by show _ = _; have := HK.out; omega, by rw [HSn.out]; rfl, by go_num, HS5.out, HB5.out⟩
  | false =>
    have hk_ := HS0.out.1.bad
    rw [HBd.out] at hk_
    go_upto_region 14 with fail
    rw [show S ++ ({ data := #[32, 103, 111, 111, 100] } : ByteArray) = Z by rw [qual_sp S false _ (show SP ++ qualB false = _ by decide), HZz.out]]
    clear hk_ hsS
    go_upto_region 15 with fail
    go_loopg [3, 5] a.T.length (fun q v3 v5 wq => ∃ k : Nat, Hid (q + k = a.T.length) ∧ v3 = .string (foldT Z (a.T.take k)) ∧ v5 = .int .i64 (k : Int) ∧ Hid (RActS g a wq) ∧ Hid (Below g w wq))
    case atStart => exact ⟨0, rfl, rfl, rfl, HS0.out, HB8.out⟩
    case round =>
      obtain ⟨k, hk, rfl, rfl, hs, hb⟩ := hrel
      have HK := Lib.hid hk.out
      have HSq := Lib.hid hs.out
      have HBq := Lib.hid hb.out
      clear hk hs hb HS0 HB8
      have HZq := Lib.hid (show g ≤ wr.heap.size from Nat.le_of_lt HSq.out.1.lt)
      have hk_ := HSq.out.1.tv
      rw [HV.out.2.2] at hk_
      obtain ⟨Y, hY⟩ : ∃ Y, foldT Z (a.T.take k) = Y := ⟨_, rfl⟩
      have hsY : Y.size ≤ 1300000 := by
        rw [← hY]
        have h1 := foldT_size Z (a.T.take k) (fun x hx => HTl.out x (List.mem_of_mem_take hx))
        have h2 : (a.T.take k).length ≤ 20 := by rw [List.length_take]; have := HM.out.2.2.2.2.1; omega
        omega
      have HYe := Lib.hid hY
      rw [hY]
      clear hY
      cases gk with
      | zero =>
        have hlt : ¬ ((k : Int) < ((a.T.length : Nat) : Int)) := by have := HK.out; omega
        have HF := Lib.hid (show Y = RES by rw [← HYe.out, List.take_of_length_le (by have := HK.out; omega)]; exact HRz.out)
        clear HYe
        go_wp2
        go_ret
        exact ⟨by rw [HF.out]; rfl, by rw [HG.out]; exact HBq.out⟩
      | succ q =>
        have hll := HM.out.2.2.2.2.1
        have hkl : k < a.T.length := by have := HK.out; omega
        have hlt : ((k : Int) < ((a.T.length : Nat) : Int)) := by omega
        obtain ⟨x, hx⟩ : ∃ x, a.T[k]? = some x := ⟨_, List.getElem?_eq_getElem hkl⟩
        have HX := Lib.hid (HSq.out.2.1.T.1 x (List.mem_of_getElem? hx))
        have HXf := Lib.hid (HTf.out x (List.mem_of_getElem? hx))
        have hsx := HTl.out x (List.mem_of_getElem? hx)
        have hTq := HSq.out.2.1.T.2
        rw [HV.out.2.2] at hTq
        obtain ⟨b1, off1, he1, hl1, hr1⟩ := hTq.at hx
        have HE1 := Lib.hid he1
        have HR := Lib.hid hr1
        obtain ⟨U, hU⟩ : ∃ U, txB x = U := ⟨_, rfl⟩
        have HUe := Lib.hid hU
        rw [hU] at hsx
        have HSn := Lib.hid (show foldT Z (a.T.take (k + 1)) = Y ++ SP ++ U by rw [foldT_snoc Z a.T k x hx, HYe.out, hU])
        have HSz := Lib.hid (show (Tryz.prog.info? 53).map (·.size) = some x.cells.length from size_tx)
        clear hTq hl1 hr1 he1 hx hU HYe
        rw [HE1.out] at hk_
        go_upto_region 17 with fail
        go_step
        iterate 18 (first | go_values | go_skip | go_guarded | go_step | go_upon)
        refine wpList_load_mid (P := Tryz.prog) rfl 53 _ rfl b1 (off1 + k * 3) rfl _ _ HR.out Tryz.underlying53 rfl HSz.out ?_
        have HC := Lib.hid (rpack_any x wr HX.out HXf.out)
        go_wp2_with fail
        with_reducible refine HC.out.mono ?_
        rintro e w4 ⟨v4, rfl, hy4, hlo4, hb4⟩
        dsimp only
        have HS4 := Lib.hid (HSq.out.below hb4)
        have HB4 := Lib.hid (HBq.out.trans (hb4.mono HZq.out))
        have HZ4 := Lib.hid (Nat.le_trans HZq.out hb4.size)
        have HC5 := Lib.hid (rhex_any v4 (packF x) w4 hy4 (by have := packF_len HX.out HXf.out; omega))
        rw [show strL (hexF (packF x)) = U from HUe.out] at HC5
        clear hy4 hlo4 hb4 HC HSq HBq HR
        go_wp2_with fail
        with_reducible refine HC5.out.mono ?_
        rintro e w5 ⟨rfl, hb5⟩
        dsimp only
        have HS5 := Lib.hid (HS4.out.below hb5)
        have HB5 := Lib.hid (HB4.out.trans (hb5.mono HZ4.out))
        clear hb5 HC5 HS4 HB4
        go_wp2
        go_roundg q
        case measure => omega
        case rel => exact ⟨k + 1, by show _ = _; have := HK.out; omega, by rw [HSn.out]; rfl, by go_num, HS5.out, HB5.out⟩
end Go.Proofs.YtnohfondkcbdnaaGreatDoor
