/- wire.Hex and plexusref01.Hex. -/
import Derived.Test.YtnohfondkcbdnaaGreatDoorG17
import Derived.Test.YtnohfondkcbdnaaGreatDoorG07
import Derived.Test.YtnohfondkcbdnaaGreatDoorShelf
import Derived.BigCall
import Derived.BigGuard
import Derived.Lib.ItoaMem
import Derived.Lib.Walk
import Derived.Lib.AppendIntMem
import Derived.Lib.ItoaLen
import Derived.Lib.Join
namespace Go.Proofs.YtnohfondkcbdnaaGreatDoor
open Go.RowKit Go.Lib
set_option linter.unusedVariables false
set_option linter.unusedSimpArgs false
attribute [local go_sem ↓] Go.wp_at_zero Go.wp_at_succ

/-- A digit's letter; bytes' digits. -/
def hexD (c : Nat) : Nat := if c < 10 then 48 + c else 87 + c
def hexF (L : List Nat) : List Nat := L.flatMap fun b => [hexD (b / 16), hexD (b % 16)]
theorem hexD_lt (c : Nat) (h : c < 16) : hexD c < 256 := by unfold hexD; split <;> omega
theorem hexF_lt (L : List Nat) (h : ∀ x ∈ L, x < 256) : ∀ x ∈ hexF L, x < 256 := by
  intro x hx
  obtain ⟨b, hb, hx⟩ := List.mem_flatMap.1 hx
  have := h b hb
  simp only [List.mem_cons, List.not_mem_nil, or_false] at hx
  rcases hx with rfl | rfl
  · exact hexD_lt _ (by omega)
  · exact hexD_lt _ (Nat.mod_lt _ (by omega))
theorem hexF_len (L : List Nat) : (hexF L).length = 2 * L.length := by
  induction L with
  | nil => rfl
  | cons b r ih =>
    show ([hexD (b / 16), hexD (b % 16)] ++ hexF r).length = _
    rw [List.length_append, ih]
    simp only [List.length_cons, List.length_nil]; omega
theorem hexF_snoc (L : List Nat) (k c : Nat) (h : L[k]? = some c) : hexF (L.take (k + 1)) = hexF (L.take k) ++ [hexD (c / 16), hexD (c % 16)] := by
  rw [List.take_add_one, h]; simp [hexF]
theorem and15 : ∀ c, c < 256 → bits .and .u8 ((c : Nat) : Int) 15 = ((c % 16 : Nat) : Int) := by decide +kernel
theorem digit_at (c : Nat) (h : c < 16) (w : World) : (Instr.index 9 (.string ⟨#[48, 49, 50, 51, 52, 53, 54, 55, 56, 57, 97, 98, 99, 100, 101, 102]⟩) (.int .u8 (c : Nat))).run Tryz.prog w = .ok (.int .u8 (hexD c : Nat)) w := by
  match c, h with
  | 0, _ => show _ = _; kernel_rfl
  | 1, _ => show _ = _; kernel_rfl
  | 2, _ => show _ = _; kernel_rfl
  | 3, _ => show _ = _; kernel_rfl
  | 4, _ => show _ = _; kernel_rfl
  | 5, _ => show _ = _; kernel_rfl
  | 6, _ => show _ = _; kernel_rfl
  | 7, _ => show _ = _; kernel_rfl
  | 8, _ => show _ = _; kernel_rfl
  | 9, _ => show _ = _; kernel_rfl
  | 10, _ => show _ = _; kernel_rfl
  | 11, _ => show _ = _; kernel_rfl
  | 12, _ => show _ = _; kernel_rfl
  | 13, _ => show _ = _; kernel_rfl
  | 14, _ => show _ = _; kernel_rfl
  | 15, _ => show _ = _; kernel_rfl
  | n + 16, h => omega
theorem byts_two (w : World) (x y : Int) (X Y : Nat) (hx : x = (X : Int)) (hy : y = (Y : Int)) (h1 : X < 256) (h2 : Y < 256) : Byts (w.alloc (.cells #[.int .u8 x, .int .u8 y] 5)) (.slice (some ⟨w.heap.size, 0, none⟩) 2 2) [X, Y] := by
  subst hx hy
  have ha := Arr.made w 5 (bys [X, Y])
  exact ha.byts (fun z hz => by simp only [List.mem_cons, List.not_mem_nil, or_false] at hz; rcases hz with rfl | rfl <;> assumption) 2 rfl (by unfold maxLen; omega)
set_option maxRecDepth 100000 in
set_option maxHeartbeats 3200000 in
theorem whex_any (v : Value) (L : List Nat) (w : World) (hy : Byts w v L) (hl : L.length ≤ 4000000) :
    Calls Tryz.prog 76 #[v] w fun e w' => e = .returned (.string (strL (hexF L))) ∧ Below w.heap.size w w' := by
  obtain ⟨a, c0, rfl⟩ := hy.form
  have HY := Lib.hid hy
  have HL := Lib.hid hl
  have hll : L.length ≤ 9223372036854775807 := by omega
  have hw2 : IntKind.i64.wrap (2 * ((L.length : Nat) : Int)) = 2 * ((L.length : Nat) : Int) := by rw [IntKind.wrap_i64]; omega
  obtain ⟨i0, hi, hzz⟩ := Option.map_eq_some_iff.1 infoB
  simp only [Prod.mk.injEq] at hzz
  obtain ⟨B, hB⟩ : ∃ B, w.heap.size = B := ⟨_, rfl⟩
  have HB := Lib.hid hB
  have HIn := Lib.hid (And.intro hi hzz)
  clear hy hl hi hzz
  go_enter Tryz.func76, Tryz.ntmps76
  clear hB
  go_upto_region 1 with fail
  go_step
  iterate 9 (first | go_values | go_skip | go_guarded | go_step | go_upon)
  refine wpList_make_own w rfl _ _ 23 rfl B 5 i0 (.int .u8 0) 1 Tryz.underlying23 HIn.out.1 HIn.out.2.1 HIn.out.2.2.1 .i64 .i64 _ (2 * L.length) rfl rfl (by omega) (by rw [HIn.out.2.2.2]; have := HL.out; omega) (by unfold maxLen; have := HL.out; omega) (by rw [HB.out]; exact Nat.le_refl _) ?_
  intro w1 ho1 hg1
  have HO1 := Lib.hid ho1
  have HB1 := Lib.hid (show Below B w w1 from (Below.refl B w).grown hg1 (by rw [HB.out]; exact Nat.le_refl _) (fun k hk => by cases hk))
  clear ho1 hg1 hw2
  go_wp2
  go_loopg [3, 12] L.length (fun g v3 v12 wq => ∃ k : Nat, Hid (g + k = L.length) ∧ v12 = .int .i64 (k : Int) ∧ Hid (wq.ownsRow B 5 1 v3 (hexF (L.take k)).length (bys (hexF (L.take k)))) ∧ Hid (Below B w wq))
  case atStart => exact ⟨0, rfl, rfl, HO1.out, HB1.out⟩
  case round =>
    obtain ⟨k, hk, rfl, ho, hb⟩ := hrel
    have HK := Lib.hid hk.out
    have HOq := Lib.hid ho.out
    have HBq := Lib.hid hb.out
    clear hk ho hb HO1 HB1
    have HZq := Lib.hid (show B ≤ wr.heap.size by have := HBq.out.size; rw [HB.out] at this; exact this)
    cases gk with
    | zero =>
      have hlt : ¬ ((k : Int) < ((L.length : Nat) : Int)) := by have := HK.out; omega
      have hall := HOq.out
      rw [List.take_of_length_le (by have := HK.out; omega)] at hall
      have f4 : (convert 23 9 u3).run Tryz.prog wr = .ok (.string (strL (hexF L))) wr := conv_byts (own_byts hall (hexF_lt L HY.out.1)) _ _ 5 Tryz.underlying23 Tryz.underlying5 Tryz.underlying9
      clear hall HOq
      go_wp2
      go_ret
      exact ⟨rfl, by rw [HB.out]; exact HBq.out⟩
    | succ g =>
      have hkl : k < L.length := by have := HK.out; omega
      have hlt : ((k : Int) < ((L.length : Nat) : Int)) := by omega
      obtain ⟨c, hc⟩ : ∃ c, L[k]? = some c := ⟨_, List.getElem?_eq_getElem hkl⟩
      have hc256 : c < 256 := HY.out.1 c (List.mem_of_getElem? hc)
      have hyq := HY.out.below (w' := wr) (by rw [HB.out]; exact HBq.out)
      obtain ⟨ad, rfl, hcx⟩ : ∃ ad, a = some ad ∧ wr.cell? (ad.add k) = some (.int .u8 (c : Nat)) := by
        rcases hyq.2 with ⟨_, h⟩ | ⟨ad, c', h1, _, _, h4⟩
        · rw [h] at hkl; simp at hkl
        · cases h1
          refine ⟨ad, rfl, ?_⟩
          rw [h4 k hkl]
          simp [List.getD, hc]
      obtain ⟨p, hp⟩ : ∃ p : Int, ((c / 16 : Nat) : Int) = p := ⟨_, rfl⟩
      obtain ⟨q, hq⟩ : ∃ q : Int, ((c % 16 : Nat) : Int) = q := ⟨_, rfl⟩
      obtain ⟨x, hx⟩ : ∃ x : Int, ((hexD (c / 16) : Nat) : Int) = x := ⟨_, rfl⟩
      obtain ⟨y, hy⟩ : ∃ y : Int, ((hexD (c % 16) : Nat) : Int) = y := ⟨_, rfl⟩
      have hi1 := digit_at (c / 16) (by omega)
      have hi2 := digit_at (c % 16) (Nat.mod_lt _ (by omega))
      rw [hp, hx] at hi1
      rw [hq, hy] at hi2
      have HI1 := Lib.hid hi1
      have HI2 := Lib.hid hi2
      have HAn := Lib.hid (show bits .and .u8 ((c : Nat) : Int) 15 = q by rw [and15 c hc256, hq])
      have HDv := Lib.hid (show ((c : Nat) : Int) / 16 = p by rw [← hp]; omega)
      have HQu := Lib.hid (show IntKind.u8.wrap (((c : Nat) : Int) / 16) = p by rw [← hp, IntKind.wrap_u8]; omega)
      have HRm := Lib.hid (show (((c : Nat) : Int)).tmod 16 = q by rw [← hq]; exact (Int.ofNat_tmod c 16).symm)
      have HXx := Lib.hid hx
      have HYy := Lib.hid hy
      have HTw := Lib.hid (fun w9 => byts_two w9 x y (hexD (c / 16)) (hexD (c % 16)) hx.symm hy.symm (hexD_lt _ (by omega)) (hexD_lt _ (Nat.mod_lt _ (by omega))))
      clear hp hq hx hy hi1 hi2
      obtain ⟨LX, hLX⟩ : ∃ l, hexF (L.take k) = l := ⟨_, rfl⟩
      obtain ⟨LY, hLY⟩ : ∃ l, LX ++ [hexD (c / 16), hexD (c % 16)] = l := ⟨_, rfl⟩
      have HLe := Lib.hid (show hexF (L.take (k + 1)) = LY by rw [hexF_snoc L k c hc, hLX, hLY])
      have HLs := Lib.hid (show LX.length ≤ 8000000 by rw [← hLX, hexF_len, List.length_take]; have := HL.out; omega)
      have HLY := Lib.hid hLY
      have HOx := Lib.hid (show wr.ownsRow B 5 1 u3 LX.length (bys LX) by rw [← hLX]; exact HOq.out)
      clear hyq hc hLX hLY HOq
      go_upto_region 5 with fail
      have HO8 := Lib.hid (show wr.drew.ownsRow B 5 1 u3 LX.length (bys LX) from HOx.out)
      have HB8 := Lib.hid HBq.out.drew
      have HZ8 := Lib.hid (show B ≤ wr.drew.heap.size from HZq.out)
      clear HOx HBq HZq hcx
      refine wp_region_H (fun _ => True) (by kernel_rfl) ?_
      generalize wr.drew = w8 at *
      simp only [List.size_toArray, List.length_cons, List.length_nil, Nat.reduceAdd, Array.replicate_succ, Array.replicate_zero, List.push_toArray, List.nil_append, List.cons_append]
      refine wpAnyH_take (i := 0) (oi := ⟨some 16, _, _, _, _, _⟩) (v := u3) rfl (by kernel_rfl) (by kernel_rfl) (by kernel_rfl) (fun _ _ _ h => h) (Or.inl ⟨by rfl, ?_⟩) trivial ?_
      · intro w hSw
        go_simp <;> with_reducible rfl
      dsimp only [Act.put]
      simp only [List.setIfInBounds_toArray, List.set_cons_zero, List.set_cons_succ]
      refine wpAnyH_take (i := 1) (oi := ⟨some 17, _, _, _, _, _⟩) (v := .int .u8 (c : Nat)) rfl (by kernel_rfl) (by kernel_rfl) (by kernel_rfl) (fun _ _ _ h => h) (Or.inl ⟨by rfl, ?_⟩) trivial ?_
      · intro w hSw
        go_simp <;> with_reducible rfl
      dsimp only [Act.put]
      simp only [List.setIfInBounds_toArray, List.set_cons_zero, List.set_cons_succ]
      refine wpAnyH_take (i := 2) (oi := ⟨some 18, _, _, _, _, _⟩) (v := .int .u8 p) rfl (by kernel_rfl) (by kernel_rfl) (by kernel_rfl) (fun _ _ _ h => h) (Or.inl ⟨by rfl, ?_⟩) trivial ?_
      · intro w hSw
        have hq := HDv.out
        go_simp <;> with_reducible rfl
      dsimp only [Act.put]
      simp only [List.setIfInBounds_toArray, List.set_cons_zero, List.set_cons_succ]
      refine wpAnyH_take (i := 3) (oi := ⟨some 19, _, _, _, _, _⟩) (v := .int .u8 x) rfl (by kernel_rfl) (by kernel_rfl) (by kernel_rfl) (fun _ _ _ h => h) (Or.inl ⟨by rfl, ?_⟩) trivial ?_
      · intro w hSw
        have hq := HI1.out
        go_simp <;> with_reducible rfl
      dsimp only [Act.put]
      simp only [List.setIfInBounds_toArray, List.set_cons_zero, List.set_cons_succ]
      refine wpAnyH_take (i := 4) (oi := ⟨some 20, _, _, _, _, _⟩) (v := .int .u8 (c : Nat)) rfl (by kernel_rfl) (by kernel_rfl) (by kernel_rfl) (fun _ _ _ h => h) (Or.inl ⟨by rfl, ?_⟩) trivial ?_
      · intro w hSw
        go_simp <;> with_reducible rfl
      dsimp only [Act.put]
      simp only [List.setIfInBounds_toArray, List.set_cons_zero, List.set_cons_succ]
      refine wpAnyH_take (i := 5) (oi := ⟨some 21, _, _, _, _, _⟩) (v := .int .u8 q) rfl (by kernel_rfl) (by kernel_rfl) (by kernel_rfl) (fun _ _ _ h => h) (Or.inl ⟨by rfl, ?_⟩) trivial ?_
      · intro w hSw
        have hq := HAn.out
        go_simp <;> with_reducible rfl
      dsimp only [Act.put]
      simp only [List.setIfInBounds_toArray, List.set_cons_zero, List.set_cons_succ]
      refine wpAnyH_take (i := 6) (oi := ⟨some 22, _, _, _, _, _⟩) (v := .int .u8 y) rfl (by kernel_rfl) (by kernel_rfl) (by kernel_rfl) (fun _ _ _ h => h) (Or.inl ⟨by rfl, ?_⟩) trivial ?_
      · intro w hSw
        have hq := HI2.out
        go_simp <;> with_reducible rfl
      dsimp only [Act.put]
      simp only [List.setIfInBounds_toArray, List.set_cons_zero, List.set_cons_succ]
      refine wpAnyH_one (i := 7) (oi := ⟨some 23, _, _, _, _, _⟩) (by kernel_rfl) rfl (by rfl) (fun K9 hK9 => ?_)
      have HK9 := Lib.hid hK9
      clear hK9
      go_simp
      have HY9 := Lib.hid (HTw.out w8)
      have HBa := Lib.hid ((Below.refl w8.heap.size w8).alloc (Nat.le_refl _) (.cells #[.int .u8 x, .int .u8 y] 5))
      have HO9 := Lib.hid (own_below HO8.out HBa.out)
      refine HK9.out _ _ trivial ?_
      clear HK9
      simp only [List.setIfInBounds_toArray, List.set_cons_zero, List.set_cons_succ]
      generalize World.alloc _ _ = wa at *
      refine wpAnyH_one (i := 8) (oi := ⟨some 24, _, _, _, _, _⟩) (by kernel_rfl) rfl (by rfl) (fun K9 hK9 => ?_)
      have HK9 := Lib.hid hK9
      clear hK9
      refine wp_appBq B (.tmp 16) (.tmp 23) 23 5 rfl Tryz.underlying23 infoB u3 _ LX [hexD (c / 16), hexD (c % 16)] LY HLY.out rfl rfl (by simp) HO9.out HY9.out (Nat.le_trans HZ8.out HBa.out.size) (by have := HLs.out; simp only [List.length_cons, List.length_nil]; omega) ?_
      intro vc wc ho hb hg hat
      have HOc := Lib.hid ho.out
      have HDc := Lib.hid (hb.out B w8 (HBa.out.mono HZ8.out) (Nat.le_refl _))
      clear ho hb hg hat
      refine HK9.out _ _ trivial ?_
      clear HK9
      simp only [List.setIfInBounds_toArray, List.set_cons_zero, List.set_cons_succ]
      refine wpAnyH_take (i := 9) (oi := ⟨some 3, _, _, _, _, _⟩) (v := vc) rfl (by kernel_rfl) (by kernel_rfl) (by kernel_rfl) (fun _ _ _ h => h) (Or.inl ⟨by rfl, ?_⟩) trivial ?_
      · intro w hSw
        go_simp <;> with_reducible rfl
      dsimp only [Act.put]
      simp only [List.setIfInBounds_toArray, List.set_cons_zero, List.set_cons_succ]
      refine wpAnyH_done (by kernel_rfl) ?_ _
      have HB9 := Lib.hid (HB8.out.trans HDc.out)
      go_wp2
      go_roundg g
      case measure => omega
      case rel => exact ⟨k + 1, by show _ = _; have := HK.out; omega, by go_num, by show World.ownsRow _ _ _ _ _ _ _; rw [HLe.out]; exact HOc.out, HB9.out⟩
theorem byts_cell {w : World} {ad : Addr} {n c0 : Nat} {L : List Nat} {k c : Nat} (h : Byts w (.slice (some ad) n c0) L) (hc : L[k]? = some c) : w.cell? (ad.add k) = some (.int .u8 (c : Nat)) := by
  have hk := (List.getElem?_eq_some_iff.1 hc).1
  rcases h.2 with ⟨h, _⟩ | ⟨ad', c', h1, _, _, h4⟩
  · cases h
  · cases h1
    rw [h4 k hk]
    simp [List.getD, hc]
set_option maxRecDepth 100000 in
set_option maxHeartbeats 3200000 in
theorem rhex_any (v : Value) (L : List Nat) (w : World) (hy : Byts w v L) (hl : L.length ≤ 4000000) :
    Calls Tryz.prog 15 #[v] w fun e w' => e = .returned (.string (strL (hexF L))) ∧ Below w.heap.size w w' := by
  obtain ⟨a, c0, rfl⟩ := hy.form
  have HY := Lib.hid hy
  have HL := Lib.hid hl
  have hll : L.length ≤ 9223372036854775807 := by omega
  obtain ⟨B, hB⟩ : ∃ B, w.heap.size = B := ⟨_, rfl⟩
  have HB := Lib.hid hB
  clear hy hl
  have HO1 := Lib.hid (show w.ownsRow B 5 1 (.slice none 0 0) ([] : List Nat).length (bys []) from own_nil _ _ _ _)
  have HB1 := Lib.hid (Below.refl B w)
  clear hB
  go_enter Tryz.func15, Tryz.ntmps15
  go_wp2
  go_loopg [4, 5] L.length (fun g v4 v5 wq => ∃ k : Nat, Hid (g + k = L.length) ∧ v5 = .int .i64 (k : Int) ∧ Hid (wq.ownsRow B 5 1 v4 (hexF (L.take k)).length (bys (hexF (L.take k)))) ∧ Hid (Below B w wq))
  case atStart => exact ⟨0, rfl, rfl, HO1.out, HB1.out⟩
  case round =>
    obtain ⟨k, hk, rfl, ho, hb⟩ := hrel
    have HK := Lib.hid hk.out
    have HOq := Lib.hid ho.out
    have HBq := Lib.hid hb.out
    clear hk ho hb HO1 HB1
    have HZq := Lib.hid (show B ≤ wr.heap.size by have := HBq.out.size; rw [HB.out] at this; exact this)
    cases gk with
    | zero =>
      have hlt : ¬ ((k : Int) < ((L.length : Nat) : Int)) := by have := HK.out; omega
      have hall := HOq.out
      rw [List.take_of_length_le (by have := HK.out; omega)] at hall
      have f4 : (convert 23 9 u4).run Tryz.prog wr = .ok (.string (strL (hexF L))) wr := conv_byts (own_byts hall (hexF_lt L HY.out.1)) _ _ 5 Tryz.underlying23 Tryz.underlying5 Tryz.underlying9
      clear hall HOq
      go_wp2
      go_ret
      exact ⟨rfl, by rw [HB.out]; exact HBq.out⟩
    | succ g =>
      have hkl : k < L.length := by have := HK.out; omega
      have hlt : ((k : Int) < ((L.length : Nat) : Int)) := by omega
      have HKl := Lib.hid hlt
      obtain ⟨c, hc⟩ : ∃ c, L[k]? = some c := ⟨_, List.getElem?_eq_getElem hkl⟩
      have HCk := Lib.hid hc
      have hc256 : c < 256 := HY.out.1 c (List.mem_of_getElem? hc)
      have hyq := HY.out.below (w' := wr) (by rw [HB.out]; exact HBq.out)
      obtain ⟨ad, rfl⟩ : ∃ ad, a = some ad := by
        rcases hyq.2 with ⟨_, h⟩ | ⟨ad, c', h1, _, _, h4⟩
        · rw [h] at hkl; simp at hkl
        · cases h1
          exact ⟨_, rfl⟩
      have HS0 := Lib.hid (byts_cell hyq hc)
      obtain ⟨p, hp⟩ : ∃ p : Int, ((c / 16 : Nat) : Int) = p := ⟨_, rfl⟩
      obtain ⟨q, hq⟩ : ∃ q : Int, ((c % 16 : Nat) : Int) = q := ⟨_, rfl⟩
      obtain ⟨x, hx⟩ : ∃ x : Int, ((hexD (c / 16) : Nat) : Int) = x := ⟨_, rfl⟩
      obtain ⟨y, hy⟩ : ∃ y : Int, ((hexD (c % 16) : Nat) : Int) = y := ⟨_, rfl⟩
      have hi1 := digit_at (c / 16) (by omega)
      have hi2 := digit_at (c % 16) (Nat.mod_lt _ (by omega))
      rw [hp, hx] at hi1
      rw [hq, hy] at hi2
      have HI1 := Lib.hid hi1
      have HI2 := Lib.hid hi2
      have HAn := Lib.hid (show bits .and .u8 ((c : Nat) : Int) 15 = q by rw [and15 c hc256, hq])
      have HDv := Lib.hid (show ((c : Nat) : Int) / 16 = p by rw [← hp]; omega)
      have HQu := Lib.hid (show IntKind.u8.wrap (((c : Nat) : Int) / 16) = p by rw [← hp, IntKind.wrap_u8]; omega)
      have HRm := Lib.hid (show (((c : Nat) : Int)).tmod 16 = q by rw [← hq]; exact (Int.ofNat_tmod c 16).symm)
      have HXx := Lib.hid hx
      have HYy := Lib.hid hy
      have HTw := Lib.hid (fun w9 => byts_two w9 x y (hexD (c / 16)) (hexD (c % 16)) hx.symm hy.symm (hexD_lt _ (by omega)) (hexD_lt _ (Nat.mod_lt _ (by omega))))
      clear hp hq hx hy hi1 hi2
      obtain ⟨LX, hLX⟩ : ∃ l, hexF (L.take k) = l := ⟨_, rfl⟩
      obtain ⟨LY, hLY⟩ : ∃ l, LX ++ [hexD (c / 16), hexD (c % 16)] = l := ⟨_, rfl⟩
      have HLe := Lib.hid (show hexF (L.take (k + 1)) = LY by rw [hexF_snoc L k c hc, hLX, hLY])
      have HLs := Lib.hid (show LX.length ≤ 8000000 by rw [← hLX, hexF_len, List.length_take]; have := HL.out; omega)
      have HLY := Lib.hid hLY
      have HOx := Lib.hid (show wr.ownsRow B 5 1 u4 LX.length (bys LX) by rw [← hLX]; exact HOq.out)
      clear hyq hc hLX hLY HOq
      go_upto_region 6 with fail
      have HO8 := Lib.hid (show wr.drew.ownsRow B 5 1 u4 LX.length (bys LX) from HOx.out)
      have HB8 := Lib.hid HBq.out.drew
      have HZ8 := Lib.hid (show B ≤ wr.drew.heap.size from HZq.out)
      have HS1 := Lib.hid (show wr.drew.cell? (ad.add k) = some (.int .u8 (c : Nat)) from HS0.out)
      clear HOx HBq HZq HS0
      have HS0 := HS1
      clear HS1
      refine wp_region_H (fun w => w.cell? (ad.add k) = some (.int .u8 (c : Nat))) (by kernel_rfl) ?_
      generalize wr.drew = w8 at *
      simp only [List.size_toArray, List.length_cons, List.length_nil, Nat.reduceAdd, Array.replicate_succ, Array.replicate_zero, List.push_toArray, List.nil_append, List.cons_append]
      refine wpAnyH_take (i := 0) (oi := ⟨some 12, _, _, _, _, _⟩) (v := u4) rfl (by kernel_rfl) (by kernel_rfl) (by kernel_rfl) (fun _ _ _ h => h) (Or.inl ⟨by rfl, ?_⟩) HS0.out ?_
      · intro w hSw
        go_simp <;> with_reducible rfl
      dsimp only [Act.put]
      simp only [List.setIfInBounds_toArray, List.set_cons_zero, List.set_cons_succ]
      refine wpAnyH_take (i := 1) (oi := ⟨some 13, _, _, _, _, _⟩) (v := ?_) rfl (by kernel_rfl) (by kernel_rfl) (by kernel_rfl) (fun _ _ _ h => h) (Or.inl ⟨by rfl, ?_⟩) HS0.out ?_
      rotate_left
      · intro w hSw
        go_simp <;> with_reducible rfl
      dsimp only [Act.put]
      simp only [List.setIfInBounds_toArray, List.set_cons_zero, List.set_cons_succ]
      refine wpAnyH_take (i := 2) (oi := ⟨some 14, _, _, _, _, _⟩) (v := ?_) rfl (by kernel_rfl) (by kernel_rfl) (by kernel_rfl) (fun _ _ _ h => h) (Or.inl ⟨by rfl, ?_⟩) HS0.out ?_
      rotate_left
      · intro w hSw
        go_simp <;> with_reducible rfl
      dsimp only [Act.put]
      simp only [List.setIfInBounds_toArray, List.set_cons_zero, List.set_cons_succ]
      refine wpAnyH_take (i := 3) (oi := ⟨some 15, _, _, _, _, _⟩) (v := ?_) rfl (by kernel_rfl) (by kernel_rfl) (by kernel_rfl) (fun _ _ _ h => h) (Or.inl ⟨by rfl, ?_⟩) HS0.out ?_
      rotate_left
      · intro w hSw
        go_simp <;> with_reducible rfl
      dsimp only [Act.put]
      simp only [List.setIfInBounds_toArray, List.set_cons_zero, List.set_cons_succ]
      refine wpAnyH_take (i := 4) (oi := ⟨some 16, _, _, _, _, _⟩) (v := .pointer (some (ad.add k))) rfl (by kernel_rfl) (by kernel_rfl) (by kernel_rfl) (fun _ _ _ h => h) (Or.inl ⟨by rfl, ?_⟩) HS0.out ?_
      · intro w hSw
        have hk9 := HKl.out
        go_simp <;> with_reducible rfl
      dsimp only [Act.put]
      simp only [List.setIfInBounds_toArray, List.set_cons_zero, List.set_cons_succ]
      refine wpAnyH_take (i := 5) (oi := ⟨some 17, _, _, _, _, _⟩) (v := .int .u8 (c : Nat)) rfl (by kernel_rfl) (by kernel_rfl) (by kernel_rfl) (fun _ _ _ h => h) (Or.inl ⟨by rfl, ?_⟩) HS0.out ?_
      · intro w hSw
        have hq : w.cell? (ad.add k) = some (.int .u8 (c : Nat)) := hSw
        go_simp <;> with_reducible rfl
      dsimp only [Act.put]
      simp only [List.setIfInBounds_toArray, List.set_cons_zero, List.set_cons_succ]
      refine wpAnyH_take (i := 6) (oi := ⟨some 18, _, _, _, _, _⟩) (v := .int .u8 p) rfl (by kernel_rfl) (by kernel_rfl) (by kernel_rfl) (fun _ _ _ h => h) (Or.inl ⟨by rfl, ?_⟩) HS0.out ?_
      · intro w hSw
        have hq := HQu.out
        go_simp <;> with_reducible rfl
      dsimp only [Act.put]
      simp only [List.setIfInBounds_toArray, List.set_cons_zero, List.set_cons_succ]
      refine wpAnyH_take (i := 7) (oi := ⟨some 19, _, _, _, _, _⟩) (v := .int .u8 x) rfl (by kernel_rfl) (by kernel_rfl) (by kernel_rfl) (fun _ _ _ h => h) (Or.inl ⟨by rfl, ?_⟩) HS0.out ?_
      · intro w hSw
        have hq := HI1.out
        go_simp <;> with_reducible rfl
      dsimp only [Act.put]
      simp only [List.setIfInBounds_toArray, List.set_cons_zero, List.set_cons_succ]
      refine wpAnyH_take (i := 8) (oi := ⟨some 20, _, _, _, _, _⟩) (v := ?_) rfl (by kernel_rfl) (by kernel_rfl) (by kernel_rfl) (fun _ _ _ h => h) (Or.inl ⟨by rfl, ?_⟩) HS0.out ?_
      rotate_left
      · intro w hSw
        go_simp <;> with_reducible rfl
      dsimp only [Act.put]
      simp only [List.setIfInBounds_toArray, List.set_cons_zero, List.set_cons_succ]
      refine wpAnyH_take (i := 9) (oi := ⟨some 21, _, _, _, _, _⟩) (v := ?_) rfl (by kernel_rfl) (by kernel_rfl) (by kernel_rfl) (fun _ _ _ h => h) (Or.inl ⟨by rfl, ?_⟩) HS0.out ?_
      rotate_left
      · intro w hSw
        go_simp <;> with_reducible rfl
      dsimp only [Act.put]
      simp only [List.setIfInBounds_toArray, List.set_cons_zero, List.set_cons_succ]
      refine wpAnyH_take (i := 10) (oi := ⟨some 22, _, _, _, _, _⟩) (v := ?_) rfl (by kernel_rfl) (by kernel_rfl) (by kernel_rfl) (fun _ _ _ h => h) (Or.inl ⟨by rfl, ?_⟩) HS0.out ?_
      rotate_left
      · intro w hSw
        go_simp <;> with_reducible rfl
      dsimp only [Act.put]
      simp only [List.setIfInBounds_toArray, List.set_cons_zero, List.set_cons_succ]
      refine wpAnyH_take (i := 11) (oi := ⟨some 23, _, _, _, _, _⟩) (v := .pointer (some (ad.add k))) rfl (by kernel_rfl) (by kernel_rfl) (by kernel_rfl) (fun _ _ _ h => h) (Or.inl ⟨by rfl, ?_⟩) HS0.out ?_
      · intro w hSw
        have hk9 := HKl.out
        go_simp <;> with_reducible rfl
      dsimp only [Act.put]
      simp only [List.setIfInBounds_toArray, List.set_cons_zero, List.set_cons_succ]
      refine wpAnyH_take (i := 12) (oi := ⟨some 24, _, _, _, _, _⟩) (v := .int .u8 (c : Nat)) rfl (by kernel_rfl) (by kernel_rfl) (by kernel_rfl) (fun _ _ _ h => h) (Or.inl ⟨by rfl, ?_⟩) HS0.out ?_
      · intro w hSw
        have hq : w.cell? (ad.add k) = some (.int .u8 (c : Nat)) := hSw
        go_simp <;> with_reducible rfl
      dsimp only [Act.put]
      simp only [List.setIfInBounds_toArray, List.set_cons_zero, List.set_cons_succ]
      refine wpAnyH_take (i := 13) (oi := ⟨some 25, _, _, _, _, _⟩) (v := .int .u8 q) rfl (by kernel_rfl) (by kernel_rfl) (by kernel_rfl) (fun _ _ _ h => h) (Or.inl ⟨by rfl, ?_⟩) HS0.out ?_
      · intro w hSw
        have hq := HRm.out
        go_simp <;> with_reducible rfl
      dsimp only [Act.put]
      simp only [List.setIfInBounds_toArray, List.set_cons_zero, List.set_cons_succ]
      refine wpAnyH_take (i := 14) (oi := ⟨some 26, _, _, _, _, _⟩) (v := .int .u8 y) rfl (by kernel_rfl) (by kernel_rfl) (by kernel_rfl) (fun _ _ _ h => h) (Or.inl ⟨by rfl, ?_⟩) HS0.out ?_
      · intro w hSw
        have hq := HI2.out
        go_simp <;> with_reducible rfl
      dsimp only [Act.put]
      simp only [List.setIfInBounds_toArray, List.set_cons_zero, List.set_cons_succ]
      refine wpAnyH_one (i := 15) (oi := ⟨some 27, _, _, _, _, _⟩) (by kernel_rfl) rfl (by rfl) (fun K9 hK9 => ?_)
      have HK9 := Lib.hid hK9
      clear hK9
      go_simp
      have HY9 := Lib.hid (HTw.out w8)
      have HBa := Lib.hid ((Below.refl w8.heap.size w8).alloc (Nat.le_refl _) (.cells #[.int .u8 x, .int .u8 y] 5))
      have HO9 := Lib.hid (own_below HO8.out HBa.out)
      have HS1 := Lib.hid (byts_cell (HY.out.below (w' := _) (by rw [HB.out]; exact HB8.out.trans (HBa.out.mono HZ8.out))) HCk.out)
      clear HS0
      have HS0 := HS1
      clear HS1
      refine HK9.out _ _ HS0.out ?_
      clear HK9
      simp only [List.setIfInBounds_toArray, List.set_cons_zero, List.set_cons_succ]
      generalize World.alloc _ _ = wa at *
      refine wpAnyH_one (i := 16) (oi := ⟨some 28, _, _, _, _, _⟩) (by kernel_rfl) rfl (by rfl) (fun K9 hK9 => ?_)
      have HK9 := Lib.hid hK9
      clear hK9
      refine wp_appBq B (.tmp 12) (.tmp 27) 23 5 rfl Tryz.underlying23 infoB u4 _ LX [hexD (c / 16), hexD (c % 16)] LY HLY.out rfl rfl (by simp) HO9.out HY9.out (Nat.le_trans HZ8.out HBa.out.size) (by have := HLs.out; simp only [List.length_cons, List.length_nil]; omega) ?_
      intro vc wc ho hb hg hat
      have HOc := Lib.hid ho.out
      have HDc := Lib.hid (hb.out B w8 (HBa.out.mono HZ8.out) (Nat.le_refl _))
      clear ho hb hg hat
      have HS1 := Lib.hid (byts_cell (HY.out.below (w' := _) (by rw [HB.out]; exact HB8.out.trans HDc.out)) HCk.out)
      clear HS0
      have HS0 := HS1
      clear HS1
      refine HK9.out _ _ HS0.out ?_
      clear HK9
      simp only [List.setIfInBounds_toArray, List.set_cons_zero, List.set_cons_succ]
      refine wpAnyH_take (i := 17) (oi := ⟨some 4, _, _, _, _, _⟩) (v := vc) rfl (by kernel_rfl) (by kernel_rfl) (by kernel_rfl) (fun _ _ _ h => h) (Or.inl ⟨by rfl, ?_⟩) HS0.out ?_
      · intro w hSw
        go_simp <;> with_reducible rfl
      dsimp only [Act.put]
      simp only [List.setIfInBounds_toArray, List.set_cons_zero, List.set_cons_succ]
      refine wpAnyH_done (by kernel_rfl) ?_ _
      have HB9 := Lib.hid (HB8.out.trans HDc.out)
      go_wp2
      go_roundg g
      case measure => omega
      case rel => exact ⟨k + 1, by show _ = _; have := HK.out; omega, by go_num, by show World.ownsRow _ _ _ _ _ _ _; rw [HLe.out]; exact HOc.out, HB9.out⟩
end Go.Proofs.YtnohfondkcbdnaaGreatDoor
namespace Go.Proofs.YtnohfondkcbdnaaGreatDoor
open Go.Shelf Go.RowKit Go.Sort Go.Lib
set_option linter.unusedVariables false
set_option linter.unusedSimpArgs false

theorem below_grow (w : World) (k : Nat) (os : Array Obj) : Below w.heap.size w (grow (w.drewN k) os) := by
  refine ⟨rfl, rfl, rfl, ?_, ?_⟩
  · simp [grow]
  · intro i hi
    simp [grow, Array.getElem?_append, hi]

theorem holds_zero0 (w : World) (T : TypeId) (nd : Nat) (hs : nd ≤ 24) : Holds (fun (b : UInt8) => Value.int .u8 (b.toNat : Int)) (w.alloc (.cells zeros24 T)) w.heap.size 0 (Array.replicate nd (0 : UInt8)) := fun j hj => by
  have hj' : j < nd := by simpa using hj
  refine ⟨?_, World.frozen?_alloc_new _ _ _ _⟩
  rw [World.cell?_alloc_new, zeros24_at _ (by omega), getElem!_pos _ j hj]
  simp

theorem fin_pos0 (w : World) (o : Obj) (dk : Array UInt8) (k : Nat) : ∃ os, (putRow (fun (b : UInt8) => Value.int .u8 (b.toNat : Int)) (w.alloc o) w.heap.size 0 dk).drewN k = grow (w.drewN k) os := by
  rw [alloc_eq_grow]
  obtain ⟨os', _, e⟩ := putRow_grow_new (fun (b : UInt8) => Value.int .u8 (b.toNat : Int)) w #[o] w.heap.size 0 dk (Nat.le_refl _)
  exact ⟨os', by rw [e]; rfl⟩

set_option maxHeartbeats 6400000 in
set_option maxRecDepth 100000 in
theorem fmtuint26 (u : Nat) (hu64 : u < 18446744073709551616) (w : World) (htab : Lib.TabIs Tryz.prog w "internal/strconv.uint64pow10" .u64 Lib.pow10Tab) :
    Calls Tryz.prog 58 #[.int .u64 u, .int .i64 10] w fun e w' => e = .returned (.string ⟨(Lib.decDigits u).toArray⟩) ∧ Below w.heap.size w w' := by
  by_cases hs : u < 100
  · go_enter Tryz.func58, Tryz.ntmps58
    go_wp2_with (go_at_call 87; refine (Tryz.internal_strconv_small u hs _).mono ?_; rintro e w' ⟨rfl, rfl⟩)
    go_ret
    exact ⟨rfl, Below.refl _ _⟩
  · have hu1 : 1 ≤ u := by omega
    have hnd20 : Lib.nDigits u ≤ 20 := by have := Lib.numDigits_eq u hu1 hu64; split at this <;> omega
    have hb3 : Lib.nDigits u ≤ 24 := by omega
    have hal : Tryz.prog.arrayLen 118 = 24 := by simp [Program.arrayLen, Tryz.underlying118]
    have hsl1 : ∀ W, (Instr.sliceAt 118 (.pointer (some ⟨w.heap.size, 0, none⟩)) none (some (.int .i64 (Lib.nDigits u : Int))) none).run Tryz.prog W = .ok (.slice (some ⟨w.heap.size, 0, none⟩) (Lib.nDigits u) 24) W := fun W => by
      rw [run_sliceAt_array_h W 118 ⟨w.heap.size, 0, none⟩ (by simp [Program.arrayLen, Program.elem, Tryz.underlying118]) .i64 (Lib.nDigits u : Int) (by omega) (by rw [hal]; omega)]
      go_simp
    have hH0 := holds_zero0 w 118 (Lib.nDigits u) (by omega)
    have hfmt := Tryz.internal_strconv_formatBase10 w.heap.size 0 24 u (Array.replicate (Lib.nDigits u) 0) (w.alloc (.cells Lib.zeros24 118)) hH0 (by rw [Array.size_replicate]; exact Lib.lt_pow_nDigits u) hu64 (by rw [Array.size_replicate]; omega)
    rw [Array.size_replicate] at hfmt
    have HH0 := Lib.hid hH0
    clear hH0 hal
    go_enter Tryz.func58, Tryz.ntmps58
    go_wp2_with (first
      | (go_at_call 88; refine (Tryz.internal_strconv_numDigits u hu1 hu64 _ (Lib.tabIs_alloc htab _)).mono ?_; rintro e w' ⟨rfl, rfl⟩))
    go_at_call 89
    refine hfmt.mono ?_
    rintro e w' ⟨rfl, k, v', dk, rfl, hF⟩
    have hcv : (convert 23 9 (.slice (some ⟨w.heap.size, 0, none⟩) (Lib.nDigits u) 24)).run Tryz.prog ((putRow (fun (b : UInt8) => Value.int .u8 (b.toNat : Int)) (w.alloc (.cells Lib.zeros24 118)) w.heap.size 0 dk).drewN k) = .ok (.string ⟨(Lib.decDigits u).toArray⟩) ((putRow (fun (b : UInt8) => Value.int .u8 (b.toNat : Int)) (w.alloc (.cells Lib.zeros24 118)) w.heap.size 0 dk).drewN k) := by
      have h := run_convert_bytes_back (P := Tryz.prog) ((putRow (fun (b : UInt8) => Value.int .u8 (b.toNat : Int)) (w.alloc (.cells Lib.zeros24 118)) w.heap.size 0 dk).drewN k) 23 9 5 ⟨w.heap.size, 0, none⟩ 24 (Lib.decDigits u) Tryz.underlying23 Tryz.underlying5 Tryz.underlying9 (fun j hj => by
        rw [Lib.row_is_numeral hF j hj, Lib.add_plain, World.cell?_drewN]
        exact cell?_putRow (fun (b : UInt8) => Value.int .u8 (b.toNat : Int)) _ w.heap.size 0 _ dk HH0.out (by rw [hF.size, Array.size_replicate]) j (by rw [hF.size]; rw [Lib.decDigits_length] at hj; exact hj))
      rw [Lib.decDigits_length] at h
      exact h
    go_wp2
    go_ret
    obtain ⟨os, eo⟩ := fin_pos0 w (.cells Lib.zeros24 118) dk k
    refine ⟨rfl, ?_⟩
    rw [eo]
    exact below_grow w k os

theorem fmtuint (u : Nat) (hu64 : u < 18446744073709551616) (w : World) (htab : Lib.TabIs Tryz.prog w "internal/strconv.uint64pow10" .u64 Lib.pow10Tab) :
    Calls Tryz.prog 34 #[.int .u64 u, .int .i64 10] w fun e w' => e = .returned (.string ⟨(Lib.decDigits u).toArray⟩) ∧ Below w.heap.size w w' := by
  go_enter Tryz.func34, Tryz.ntmps34
  go_wp2_with (go_at_call 58; refine (fmtuint26 u hu64 _ htab).mono ?_; rintro e w' ⟨rfl, hb⟩)
  go_ret
  exact ⟨rfl, hb⟩
end Go.Proofs.YtnohfondkcbdnaaGreatDoor
/- The words' texts: digits, HashText, quality. -/
namespace Go.Proofs.YtnohfondkcbdnaaGreatDoor
open Go.RowKit Go.Lib
set_option linter.unusedVariables false
set_option linter.unusedSimpArgs false
attribute [local go_sem ↓] Go.wp_at_zero Go.wp_at_succ

/-- The text of these bytes. -/
def bsT (l : List UInt8) : ByteArray := ⟨l.toArray⟩
def digF (L : List Nat) : List Nat := if L.length = 0 then [45] else hexF L
theorem digF_len (L : List Nat) : (digF L).length ≤ 2 * L.length + 1 := by
  unfold digF; split
  · simp
  · rw [hexF_len]; omega
set_option maxRecDepth 100000 in
theorem digits_any (v : Value) (L : List Nat) (w : World) (hy : Byts w v L) (hl : L.length ≤ 4000000) :
    Calls Tryz.prog 64 #[v] w fun e w' => e = .returned (.string (strL (digF L))) ∧ Below w.heap.size w w' := by
  obtain ⟨a, c0, rfl⟩ := hy.form
  have HC := Lib.hid (whex_any _ L w hy hl)
  have hll : L.length ≤ 9223372036854775807 := by omega
  clear hy hl
  by_cases h : L.length = 0
  · have HS := Lib.hid (show strL (digF L) = strL [45] by unfold digF; rw [if_pos h])
    have hq : ((L.length : Nat) : Int) = 0 := by omega
    clear h HC
    go_enter Tryz.func64, Tryz.ntmps64
    go_wp2
    go_ret
    exact ⟨by rw [HS.out]; rfl, Below.refl _ _⟩
  · have HS := Lib.hid (show strL (digF L) = strL (hexF L) by unfold digF; rw [if_neg h])
    have hq : ¬ ((L.length : Nat) : Int) = 0 := by omega
    clear h
    go_enter Tryz.func64, Tryz.ntmps64
    go_wp2_with fail
    with_reducible refine HC.out.mono ?_
    rintro e w2 ⟨rfl, hb2⟩
    dsimp only
    have HB := Lib.hid hb2
    clear hb2 hq
    go_wp2
    go_ret
    exact ⟨by rw [HS.out]; rfl, HB.out⟩
set_option maxRecDepth 100000 in
theorem rdigits_any (v : Value) (L : List Nat) (w : World) (hy : Byts w v L) (hl : L.length ≤ 4000000) :
    Calls Tryz.prog 35 #[v] w fun e w' => e = .returned (.string (strL (digF L))) ∧ Below w.heap.size w w' := by
  obtain ⟨a, c0, rfl⟩ := hy.form
  have HC := Lib.hid (rhex_any _ L w hy hl)
  have hll : L.length ≤ 9223372036854775807 := by omega
  clear hy hl
  by_cases h : L.length = 0
  · have HS := Lib.hid (show strL (digF L) = strL [45] by unfold digF; rw [if_pos h])
    have hq : ((L.length : Nat) : Int) = 0 := by omega
    clear h HC
    go_enter Tryz.func35, Tryz.ntmps35
    go_wp2
    go_ret
    exact ⟨by rw [HS.out]; rfl, Below.refl _ _⟩
  · have HS := Lib.hid (show strL (digF L) = strL (hexF L) by unfold digF; rw [if_neg h])
    have hq : ¬ ((L.length : Nat) : Int) = 0 := by omega
    clear h
    go_enter Tryz.func35, Tryz.ntmps35
    go_wp2_with fail
    with_reducible refine HC.out.mono ?_
    rintro e w2 ⟨rfl, hb2⟩
    dsimp only
    have HB := Lib.hid hb2
    clear hb2 hq
    go_wp2
    go_ret
    exact ⟨by rw [HS.out]; rfl, HB.out⟩
set_option maxRecDepth 100000 in
theorem hashtext_any (H : List Nat) (w : World) (hH : IsH H) :
    Calls Tryz.prog 66 #[.agg (bys H).toArray] w fun e w' => e = .returned (.string (strL (hexF H))) ∧ Below w.heap.size w w' := by
  have HH := Lib.hid hH
  clear hH
  go_enter Tryz.func66, Tryz.ntmps66
  go_upto_region 1 with fail
  have hm := Arr.made w 25 (bys H)
  have hb := (Below.refl w.heap.size w).alloc (Nat.le_refl _) (.cells (bys H).toArray 25)
  have HA := Lib.hid hm
  have HB := Lib.hid hb
  clear hm hb
  generalize World.alloc _ _ = w1 at *
  obtain ⟨g, hg⟩ : ∃ g, w.heap.size = g := ⟨_, rfl⟩
  rw [hg] at HA HB ⊢
  have HG := Lib.hid hg
  clear hg
  have HC := Lib.hid (whex_any (.slice (some ⟨g, 0, none⟩) 32 32) H w1 (rangeAt.byts HA.out.range HH.out) (by rw [HH.out.1]; omega))
  have HZ := Lib.hid (Nat.le_of_lt HA.out.lt)
  go_wp2_with fail
  with_reducible refine HC.out.mono ?_
  rintro e w2 ⟨rfl, hb2⟩
  dsimp only
  have HB2 := Lib.hid (HB.out.trans (hb2.mono HZ.out))
  clear hb2
  go_wp2
  go_ret
  exact ⟨rfl, by rw [HG.out]; exact HB2.out⟩
def qualB (b : Bool) : ByteArray := if b then ⟨#[98, 97, 100]⟩ else ⟨#[103, 111, 111, 100]⟩
set_option maxRecDepth 100000 in
theorem quality_any (b : Bool) (w : World) :
    Calls Tryz.prog 71 #[.bool b] w fun e w' => e = .returned (.string (qualB b)) ∧ Below w.heap.size w w' := by
  cases b <;>
  · go_enter Tryz.func71, Tryz.ntmps71
    go_wp2
    go_ret
    exact ⟨rfl, Below.refl _ _⟩
/-- The numbers' table is laid. -/
def TabO (w : World) : Prop := Lib.TabIs Tryz.prog w "internal/strconv.uint64pow10" .u64 Lib.pow10Tab
theorem TabO.below {w w' : World} (h : TabO w) (hb : Below w.heap.size w w') : TabO w' := Lib.tabBelow_of_tabIs h w' hb
def itoaB (z : Int) : ByteArray := bsT (Lib.itoa z)
def decB (u : Nat) : ByteArray := bsT (Lib.decDigits u)
theorem itoa_any (z : Int) (h : -9223372036854775808 ≤ z ∧ z ≤ 9223372036854775807) (w : World) (ht : TabO w) :
    Calls Tryz.prog 38 #[.int .i64 z] w fun e w' => e = .returned (.string (itoaB z)) ∧ Below w.heap.size w w' := by
  refine (Tryz.strconv_Itoa z h.1 h.2 w ht).mono ?_
  rintro e w' ⟨rfl, k, os, rfl⟩
  exact ⟨rfl, below_grow w k os⟩
theorem fmt_any (u : Nat) (h : u ≤ 18446744073709551615) (w : World) (ht : TabO w) :
    Calls Tryz.prog 34 #[.int .u64 u, .int .i64 10] w fun e w' => e = .returned (.string (decB u)) ∧ Below w.heap.size w w' := fmtuint u (by omega) w ht
end Go.Proofs.YtnohfondkcbdnaaGreatDoor
