/- script.actText. -/
import Derived.Test.YtnohfondkcbdnaaGreatDoorG21
namespace Go.Proofs.YtnohfondkcbdnaaGreatDoor
open Go.RowKit Go.Lib
set_option linter.unusedVariables false
set_option linter.unusedSimpArgs false
attribute [local go_sem ↓] Go.wp_at_zero Go.wp_at_succ

def ActS (g : Nat) (a : ActM) (w : World) : Prop := ActAt w g a ∧ a.ok w ∧ TabO w
theorem ActS.below {g : Nat} {a : ActM} {w w' : World} (h : ActS g a w) (hb : Below w.heap.size w w') : ActS g a w' := ⟨h.1.below hb h.1.lt, h.2.1.below hb, h.2.2.below hb⟩
set_option maxRecDepth 100000 in
set_option maxHeartbeats 12800000 in
theorem actText_any (a : ActM) (nm s : ByteArray) (hN : NamedT a nm s) (w : World) (ha : a.ok w) (ht : TabO w) (hm : MayP a) :
    Calls Tryz.prog 16 #[.agg a.cells.toArray] w fun e w' => e = .returned (.string (actTF a nm s)) ∧ Below w.heap.size w w' := by
  have HN := Lib.hid hN
  have HM := Lib.hid hm
  have HA0 := Lib.hid ha
  have HT0 := Lib.hid ht
  clear hN hm ha ht
  go_enter Tryz.func16, Tryz.ntmps16
  go_upto_region 1 with fail
  have hm := Arr.made w 30 a.cells
  have hb := (Below.refl w.heap.size w).alloc (Nat.le_refl _) (.cells a.cells.toArray 30)
  have HX := Lib.hid (show ActAt _ w.heap.size a from ⟨hm, HA0.out.lock⟩)
  have HW := Lib.hid hb
  clear hm hb
  generalize World.alloc _ _ = w1 at *
  obtain ⟨g, hg⟩ : ∃ g, w.heap.size = g := ⟨_, rfl⟩
  rw [hg] at HX HW ⊢
  have HG := Lib.hid hg
  have HZ1 := Lib.hid (show g ≤ w1.heap.size from Nat.le_of_lt HX.out.lt)
  clear hg
  have kx_ := HX.out.kind
  have HC := Lib.hid (HN.out.1 w1)
  go_wp2_with fail
  refine HC.out.mono ?_
  rintro e w2 ⟨rfl, hb⟩
  dsimp only
  have HX2 := Lib.hid (HX.out.below hb HX.out.lt)
  have HW2 := Lib.hid (HW.out.trans (hb.mono HZ1.out))
  have HZ2 := Lib.hid (Nat.le_trans HZ1.out hb.size)
  have HL2 := Lib.hid (show g < w2.heap.size from HX2.out.lt)
  clear hb HC HX HW HZ1 kx_
  iterate 4 (first | go_values | go_skip | go_guarded | go_step | go_upon)
  refine wpList_store_box (P := Tryz.prog) rfl 44 _ _ rfl w2 _ [.string nm, .string s] rfl rfl rfl size_nm (by simp [Value.oneCell']) ?_
  intro w3 hn3 hb3
  have HX3 := Lib.hid (HX2.out.below hb3.out HX2.out.lt)
  have HW3 := Lib.hid (HW2.out.trans (hb3.out.mono HZ2.out))
  have HZ3 := Lib.hid (Nat.le_trans HZ2.out hb3.out.size)
  have hc0 := hn3.out.cell 0
  dsimp only [List.getElem?_cons_zero] at hc0
  have HN3 := Lib.hid hn3.out
  obtain ⟨g3, hg3⟩ : ∃ g, w2.heap.size = g := ⟨_, rfl⟩
  rw [hg3] at HN3 HL2 hc0 ⊢
  clear hn3 hb3 HX2 HW2 HZ2 hg3
  have ho4 := strs_one w3 nm
  have hr4 : (w3.alloc (.cells #[.string nm] 9)).ownsRow w3.heap.size 9 1 (.slice (some ⟨w3.heap.size, 0, none⟩) 1 1) [nm].length (strsC [nm]) :=
    ⟨rfl, .inr ⟨w3.heap.size, 1, _, rfl, Nat.le_refl _, alloc_top w3 _, Nat.le_refl _, by unfold maxLen; omega, rfl, rfl⟩⟩
  have hb4 := (Below.refl w3.heap.size w3).alloc (Nat.le_refl _) (.cells #[.string nm] 9)
  have HX4 := Lib.hid (HX3.out.below hb4 HX3.out.lt)
  have HW4 := Lib.hid (HW3.out.trans (hb4.mono HZ3.out))
  have HO4 := Lib.hid hr4
  have HZ4 := Lib.hid (Nat.le_trans HZ3.out hb4.size)
  have ks_ := (HN3.out.below hb4 HN3.out.lt).cell 1
  dsimp only [List.getElem?_cons_zero, List.getElem?_cons_succ] at ks_
  have HL3 := Lib.hid (show g3 < w3.heap.size from HN3.out.lt)
  have HXg := Lib.hid (Nat.lt_trans HL2.out HL3.out)
  have HL4 := Lib.hid (show w3.heap.size < (w3.alloc (.cells #[.string nm] 9)).heap.size by rw [World.size_alloc]; exact Nat.lt_succ_self _)
  clear ho4 hr4 hb4 HX3 HW3 HZ3
  go_upto_region 3 with fail
  clear hc0
  obtain ⟨g4, hg4⟩ : ∃ g, w3.heap.size = g := ⟨_, rfl⟩
  rw [hg4] at HO4 HXg HL4 HL3 ⊢
  generalize World.alloc _ _ = w4 at *
  go_wp2
  clear ks_
  have hit : (w4.iter s 0).heap[w4.heap.size]? = some (.stringIter s 0) := World.iter_heap w4 s 0
  have hbi : Below w4.heap.size w4 (w4.iter s 0) := (Below.refl _ _).alloc (Nat.le_refl _) _
  have HX5 := Lib.hid (HX4.out.below hbi HX4.out.lt)
  have HW5 := Lib.hid (HW4.out.trans (hbi.mono HZ4.out))
  have HI5 := Lib.hid hit
  have HO5 := Lib.hid (own_below HO4.out hbi)
  generalize w4.iter s 0 = w5 at *
  obtain ⟨r, hr⟩ : ∃ r, w4.heap.size = r := ⟨_, rfl⟩
  rw [hr] at HI5 HL4 ⊢
  clear hit hbi hr HX4 HW4 HZ4 HO4 hg4 HN3 HL3 HL2
  go_loopg [4] s.size (fun gg v4 wq => ∃ k : Nat, Hid (gg + k = s.size) ∧ Hid (wq.heap[r]? = some (.stringIter s k)) ∧ Hid (wq.ownsRow g4 9 1 v4 (nm :: wordsF a s k).length (strsC (nm :: wordsF a s k))) ∧ Hid (Below g4 w5 wq))
  case atStart => exact ⟨0, rfl, HI5.out, HO5.out, Below.refl _ _⟩
  case round =>
    obtain ⟨k, hk, hi, ho, hb⟩ := hrel
    have HK := Lib.hid hk.out
    have HI := Lib.hid hi.out
    have HO := Lib.hid ho.out
    have HBq := Lib.hid hb.out
    clear hk hi ho hb HI5 HO5
    have hrl : (runesOf s).length = s.size := by simp [runesOf]
    cases gk with
    | zero =>
      have hn := next_over (P := Tryz.prog) wr r s k 0 HI.out (by have := HK.out; omega)
      have HBw := Lib.hid (show Below w.heap.size w wr by rw [HG.out]; exact HW5.out.trans (HBq.out.mono (Nat.le_of_lt HXg.out)))
      have HAw := Lib.hid (HA0.out.below HBw.out)
      have hws := words_sizes HA0.out HM.out s s.size
      have hs := own_strs HO.out
      rw [show k = s.size by have := HK.out; omega] at hs
      obtain ⟨LF, hLF⟩ : ∃ l, nm :: wordsF a s s.size = l := ⟨_, rfl⟩
      have hJ := join_any (nm :: wordsF a s s.size) ⟨#[32]⟩ rfl 3000000 (by omega) (by rw [List.length_cons]; have := hws.1; have := HN.out.2.2.1; omega) (fun x hx => by
        rcases List.mem_cons.1 hx with rfl | hx
        · have := HN.out.2.2.2; omega
        · exact hws.2 x hx) u4 wr hs
      rw [hLF] at hs hJ
      obtain ⟨a4, c4, hv4⟩ := hs.form
      have HF := Lib.hid (show actTF a nm s = joinT LF ⟨#[32]⟩ by unfold actTF; rw [hLF])
      have HC := Lib.hid hJ
      clear hs HO hrl hws HBq HI hJ hLF
      subst hv4
      go_wp2_with fail
      with_reducible refine HC.out.mono ?_
      rintro e w6 ⟨rfl, hb⟩
      dsimp only
      have HB6 := Lib.hid (HBw.out.trans (hb.mono HBw.out.size))
      clear hb HC hn
      go_wp2
      go_ret
      exact ⟨by rw [HF.out]; rfl, HG.out ▸ HB6.out⟩
    | succ gg =>
      obtain ⟨c, hc⟩ : ∃ c, (runesOf s)[k]? = some c := ⟨_, List.getElem?_eq_getElem (by have := HK.out; omega)⟩
      have hcw : c ∈ wordR := HN.out.2.1 c (List.mem_of_getElem? hc)
      obtain ⟨LX, hLX⟩ : ∃ l, nm :: wordsF a s k = l := ⟨_, rfl⟩
      obtain ⟨LY, hLY⟩ : ∃ l, LX ++ partF a c = l := ⟨_, rfl⟩
      have HLY := Lib.hid hLY
      have HLe := Lib.hid (show nm :: wordsF a s (k + 1) = LY by rw [words_snoc a s k c hc, ← hLY, ← hLX]; rfl)
      have HLs := Lib.hid (show LX.length ≤ 1000 by
        rw [← hLX, List.length_cons]
        have h1 := (words_sizes HA0.out HM.out s k).1
        have := HN.out.2.2.1
        have := HK.out
        omega)
      rw [hLX] at HO
      clear hLX hLY hrl
      have HRl := Lib.hid (show r < wr.heap.size from (Array.getElem?_eq_some_iff.1 HI.out).1)
      simp only [wordR, List.mem_cons, List.not_mem_nil, or_false] at hcw
      rcases hcw with rfl | rfl | rfl | rfl | rfl | rfl | rfl | rfl
      · obtain ⟨w6, hn, hi6, hb6, hq6, hz6⟩ := next_all (P := Tryz.prog) wr r s k 98 0 HI.out hc (by omega)
        have HI6 := Lib.hid hi6
        have HO6 := Lib.hid (own_same HO.out (fun j hj => hq6 j (fun e => own_not_iter HO.out HI.out (by rw [hj, e]))))
        have HD6 := Lib.hid (HBq.out.trans (hb6.mono (Nat.le_of_lt HL4.out)))
        have HR6 := Lib.hid (show r < w6.heap.size by rw [hz6]; exact HRl.out)
        clear hc hi6 hb6 hq6 hz6 HI HO HBq HRl
        have HS6 := Lib.hid (show ActS g a w6 from ⟨HX5.out.below HD6.out HXg.out, HA0.out.below (w' := w6) (by rw [HG.out]; exact HW5.out.trans (HD6.out.mono (Nat.le_of_lt HXg.out))), HT0.out.below (w' := w6) (by rw [HG.out]; exact HW5.out.trans (HD6.out.mono (Nat.le_of_lt HXg.out)))⟩)
        go_upto_region 6 with fail
        clear hn
        have HS0 := Lib.hid (show ActS g a w6.drew from HS6.out.below ((Below.refl _ _).drew))
        have HO8 := Lib.hid (show w6.drew.ownsRow g4 9 1 u4 LX.length (strsC LX) from HO6.out)
        have HI8 := Lib.hid (show w6.drew.heap[r]? = some (.stringIter s (k + 1)) from HI6.out)
        have HD8 := Lib.hid HD6.out.drew
        have HR8 := Lib.hid (show r < w6.drew.heap.size from HR6.out)
        have HZ8 := Lib.hid (show g4 ≤ w6.drew.heap.size from Nat.le_of_lt (Nat.lt_trans HL4.out HR6.out))
        clear HS6 HO6 HI6 HD6 HR6
        refine wp_region_H (ActS g a) (by kernel_rfl) ?_
        generalize World.drew _ = w8 at *
        simp only [List.size_toArray, List.length_cons, List.length_nil, Nat.reduceAdd, Array.replicate_succ, Array.replicate_zero, List.push_toArray, List.nil_append, List.cons_append]
        refine wpAnyH_take (i := 0) (oi := ⟨some 19, _, _, _, _, _⟩) (v := ?_) rfl (by kernel_rfl) (by kernel_rfl) (by kernel_rfl) (fun _ _ _ h => h) (Or.inl ⟨by rfl, ?_⟩) HS0.out ?_
        rotate_left
        · intro w hSw
          go_simp <;> with_reducible rfl
        dsimp only [Act.put]
        simp only [List.setIfInBounds_toArray, List.set_cons_zero, List.set_cons_succ]
        refine wpAnyH_take (i := 2) (oi := ⟨some 21, _, _, _, _, _⟩) (v := ?_) rfl (by kernel_rfl) (by kernel_rfl) (by kernel_rfl) (fun _ _ _ h => h) (Or.inl ⟨by rfl, ?_⟩) HS0.out ?_
        rotate_left
        · intro w hSw
          go_simp <;> with_reducible rfl
        dsimp only [Act.put]
        simp only [List.setIfInBounds_toArray, List.set_cons_zero, List.set_cons_succ]
        refine wpAnyH_take (i := 4) (oi := ⟨some 23, _, _, _, _, _⟩) rfl (by kernel_rfl) (by kernel_rfl) (by kernel_rfl) (fun _ _ _ h => h) (yieldsIf_load_mid (by rfl) 30 (.tmp 1) rfl (g) (0) rfl (a.cells) _ (fun w h => h.1.1.range) Tryz.underlying30 rfl (by rw [ActM.cells_len HA0.out]; exact size_act)) HS0.out ?_
        dsimp only [Act.put]
        simp only [List.setIfInBounds_toArray, List.set_cons_zero, List.set_cons_succ]
        refine wpAnyH_one (i := 1) (oi := ⟨some 20, _, _, _, _, _⟩) (by kernel_rfl) rfl (by rfl) (fun K9 hK9 => ?_)
        have HK9 := Lib.hid hK9
        clear hK9
        go_simp
        refine (parts_any w8).mono ?_
        rintro e w1 ⟨rfl, hm1, hc1, hb1⟩
        have HMp := Lib.hid (parts_at_b hm1)
        have HCq := Lib.hid hc1
        clear hm1 hc1
        dsimp only
        have HS1 := Lib.hid (HS0.out.below hb1)
        have HO1 := Lib.hid (own_below HO8.out hb1)
        have HI1 := Lib.hid ((hb1.block r HR8.out).trans HI8.out)
        have HD1 := Lib.hid (HD8.out.trans (hb1.mono HZ8.out))
        have HR1 := Lib.hid (Nat.lt_of_lt_of_le HR8.out hb1.size)
        have HZ1 := Lib.hid (Nat.le_trans HZ8.out hb1.size)
        clear HS0 HO8 HI8 HD8 HR8 HZ8 hb1
        have HS0 := HS1
        have HO8 := HO1
        have HI8 := HI1
        have HD8 := HD1
        have HR8 := HR1
        have HZ8 := HZ1
        clear HS1 HO1 HI1 HD1 HR1 HZ1
        refine HK9.out _ _ HS0.out ?_
        clear HK9
        simp only [List.setIfInBounds_toArray, List.set_cons_zero, List.set_cons_succ]
        refine wpAnyH_one (i := 3) (oi := ⟨some 22, _, _, _, _, _⟩) (by kernel_rfl) rfl (by rfl) (fun K9 hK9 => ?_)
        have HK9 := Lib.hid hK9
        clear hK9
        have hl9 := HMp.out
        go_simp
        refine HK9.out _ _ HS0.out ?_
        clear HK9 hl9
        simp only [List.setIfInBounds_toArray, List.set_cons_zero, List.set_cons_succ]
        refine wpAnyH_one (i := 5) (oi := ⟨some 24, _, _, _, _, _⟩) (by kernel_rfl) rfl (by rfl) (fun K9 hK9 => ?_)
        have HK9 := Lib.hid hK9
        clear hK9
        go_simp
        refine (part2_any w8.heap.size a w1 HCq.out HS0.out.2.1 HS0.out.2.2 (Nat.le_trans HM.out.2.2.1 (by decide))).mono ?_
        rintro e w2 ⟨v2, rfl, hs2, hb2⟩
        have HY2 := Lib.hid hs2
        clear hs2 HCq HMp
        dsimp only
        have HS1 := Lib.hid (HS0.out.below hb2)
        have HO1 := Lib.hid (own_below HO8.out hb2)
        have HI1 := Lib.hid ((hb2.block r HR8.out).trans HI8.out)
        have HD1 := Lib.hid (HD8.out.trans (hb2.mono HZ8.out))
        have HR1 := Lib.hid (Nat.lt_of_lt_of_le HR8.out hb2.size)
        have HZ1 := Lib.hid (Nat.le_trans HZ8.out hb2.size)
        clear HS0 HO8 HI8 HD8 HR8 HZ8 hb2
        have HS0 := HS1
        have HO8 := HO1
        have HI8 := HI1
        have HD8 := HD1
        have HR8 := HR1
        have HZ8 := HZ1
        clear HS1 HO1 HI1 HD1 HR1 HZ1
        refine HK9.out _ _ HS0.out ?_
        clear HK9
        simp only [List.setIfInBounds_toArray, List.set_cons_zero, List.set_cons_succ]
        refine wpAnyH_one (i := 6) (oi := ⟨some 25, _, _, _, _, _⟩) (by kernel_rfl) rfl (by rfl) (fun K9 hK9 => ?_)
        have HK9 := Lib.hid hK9
        clear hK9
        refine wp_appStrq g4 (.tmp 19) (.tmp 24) 65 9 rfl Tryz.underlying65 info_str u4 v2 LX _ LY HLY.out rfl rfl HO8.out HY2.out HZ8.out (by have := HLs.out; have := (part_sizes HS0.out.2.1 HM.out 98).1; omega) ?_
        intro vc wc ho hb hg
        have HO9 := Lib.hid ho.out
        have HD9 := Lib.hid (hb.out g4 w5 HD8.out (Nat.le_refl _))
        have HS9 := Lib.hid (show ActS g a wc from ⟨HS0.out.1.below (hb.out g4 w2 (Below.refl _ _) (Nat.le_refl _)) HXg.out, HA0.out.below (w' := wc) (by rw [HG.out]; exact HW5.out.trans (HD9.out.mono (Nat.le_of_lt HXg.out))), HT0.out.below (w' := wc) (by rw [HG.out]; exact HW5.out.trans (HD9.out.mono (Nat.le_of_lt HXg.out)))⟩)
        have HI9 := Lib.hid ((hg.out.block r HR8.out (own_not_iter HO8.out HI8.out).symm).trans HI8.out)
        clear ho hb hg HO8 HD8 HI8 HY2
        refine HK9.out _ _ HS9.out ?_
        clear HK9
        simp only [List.setIfInBounds_toArray, List.set_cons_zero, List.set_cons_succ]
        refine wpAnyH_take (i := 7) (oi := ⟨some 4, _, _, _, _, _⟩) (v := vc) rfl (by kernel_rfl) (by kernel_rfl) (by kernel_rfl) (fun _ _ _ h => h) (Or.inl ⟨by rfl, ?_⟩) HS9.out ?_
        · intro w hSw
          go_simp <;> with_reducible rfl
        dsimp only [Act.put]
        simp only [List.setIfInBounds_toArray, List.set_cons_zero, List.set_cons_succ]
        refine wpAnyH_done (by kernel_rfl) ?_ _
        go_wp2
        go_roundg gg
        case measure => omega
        case rel => exact ⟨k + 1, by show _ = _; have := HK.out; omega, HI9.out, by show World.ownsRow _ _ _ _ _ _ _; rw [HLe.out]; exact HO9.out, HD9.out⟩
      · obtain ⟨w6, hn, hi6, hb6, hq6, hz6⟩ := next_all (P := Tryz.prog) wr r s k 104 0 HI.out hc (by omega)
        have HI6 := Lib.hid hi6
        have HO6 := Lib.hid (own_same HO.out (fun j hj => hq6 j (fun e => own_not_iter HO.out HI.out (by rw [hj, e]))))
        have HD6 := Lib.hid (HBq.out.trans (hb6.mono (Nat.le_of_lt HL4.out)))
        have HR6 := Lib.hid (show r < w6.heap.size by rw [hz6]; exact HRl.out)
        clear hc hi6 hb6 hq6 hz6 HI HO HBq HRl
        have HS6 := Lib.hid (show ActS g a w6 from ⟨HX5.out.below HD6.out HXg.out, HA0.out.below (w' := w6) (by rw [HG.out]; exact HW5.out.trans (HD6.out.mono (Nat.le_of_lt HXg.out))), HT0.out.below (w' := w6) (by rw [HG.out]; exact HW5.out.trans (HD6.out.mono (Nat.le_of_lt HXg.out)))⟩)
        go_upto_region 6 with fail
        clear hn
        have HS0 := Lib.hid (show ActS g a w6.drew from HS6.out.below ((Below.refl _ _).drew))
        have HO8 := Lib.hid (show w6.drew.ownsRow g4 9 1 u4 LX.length (strsC LX) from HO6.out)
        have HI8 := Lib.hid (show w6.drew.heap[r]? = some (.stringIter s (k + 1)) from HI6.out)
        have HD8 := Lib.hid HD6.out.drew
        have HR8 := Lib.hid (show r < w6.drew.heap.size from HR6.out)
        have HZ8 := Lib.hid (show g4 ≤ w6.drew.heap.size from Nat.le_of_lt (Nat.lt_trans HL4.out HR6.out))
        clear HS6 HO6 HI6 HD6 HR6
        refine wp_region_H (ActS g a) (by kernel_rfl) ?_
        generalize World.drew _ = w8 at *
        simp only [List.size_toArray, List.length_cons, List.length_nil, Nat.reduceAdd, Array.replicate_succ, Array.replicate_zero, List.push_toArray, List.nil_append, List.cons_append]
        refine wpAnyH_take (i := 0) (oi := ⟨some 19, _, _, _, _, _⟩) (v := ?_) rfl (by kernel_rfl) (by kernel_rfl) (by kernel_rfl) (fun _ _ _ h => h) (Or.inl ⟨by rfl, ?_⟩) HS0.out ?_
        rotate_left
        · intro w hSw
          go_simp <;> with_reducible rfl
        dsimp only [Act.put]
        simp only [List.setIfInBounds_toArray, List.set_cons_zero, List.set_cons_succ]
        refine wpAnyH_take (i := 2) (oi := ⟨some 21, _, _, _, _, _⟩) (v := ?_) rfl (by kernel_rfl) (by kernel_rfl) (by kernel_rfl) (fun _ _ _ h => h) (Or.inl ⟨by rfl, ?_⟩) HS0.out ?_
        rotate_left
        · intro w hSw
          go_simp <;> with_reducible rfl
        dsimp only [Act.put]
        simp only [List.setIfInBounds_toArray, List.set_cons_zero, List.set_cons_succ]
        refine wpAnyH_take (i := 4) (oi := ⟨some 23, _, _, _, _, _⟩) rfl (by kernel_rfl) (by kernel_rfl) (by kernel_rfl) (fun _ _ _ h => h) (yieldsIf_load_mid (by rfl) 30 (.tmp 1) rfl (g) (0) rfl (a.cells) _ (fun w h => h.1.1.range) Tryz.underlying30 rfl (by rw [ActM.cells_len HA0.out]; exact size_act)) HS0.out ?_
        dsimp only [Act.put]
        simp only [List.setIfInBounds_toArray, List.set_cons_zero, List.set_cons_succ]
        refine wpAnyH_one (i := 1) (oi := ⟨some 20, _, _, _, _, _⟩) (by kernel_rfl) rfl (by rfl) (fun K9 hK9 => ?_)
        have HK9 := Lib.hid hK9
        clear hK9
        go_simp
        refine (parts_any w8).mono ?_
        rintro e w1 ⟨rfl, hm1, hc1, hb1⟩
        have HMp := Lib.hid (parts_at_h hm1)
        have HCq := Lib.hid hc1
        clear hm1 hc1
        dsimp only
        have HS1 := Lib.hid (HS0.out.below hb1)
        have HO1 := Lib.hid (own_below HO8.out hb1)
        have HI1 := Lib.hid ((hb1.block r HR8.out).trans HI8.out)
        have HD1 := Lib.hid (HD8.out.trans (hb1.mono HZ8.out))
        have HR1 := Lib.hid (Nat.lt_of_lt_of_le HR8.out hb1.size)
        have HZ1 := Lib.hid (Nat.le_trans HZ8.out hb1.size)
        clear HS0 HO8 HI8 HD8 HR8 HZ8 hb1
        have HS0 := HS1
        have HO8 := HO1
        have HI8 := HI1
        have HD8 := HD1
        have HR8 := HR1
        have HZ8 := HZ1
        clear HS1 HO1 HI1 HD1 HR1 HZ1
        refine HK9.out _ _ HS0.out ?_
        clear HK9
        simp only [List.setIfInBounds_toArray, List.set_cons_zero, List.set_cons_succ]
        refine wpAnyH_one (i := 3) (oi := ⟨some 22, _, _, _, _, _⟩) (by kernel_rfl) rfl (by rfl) (fun K9 hK9 => ?_)
        have HK9 := Lib.hid hK9
        clear hK9
        have hl9 := HMp.out
        go_simp
        refine HK9.out _ _ HS0.out ?_
        clear HK9 hl9
        simp only [List.setIfInBounds_toArray, List.set_cons_zero, List.set_cons_succ]
        refine wpAnyH_one (i := 5) (oi := ⟨some 24, _, _, _, _, _⟩) (by kernel_rfl) rfl (by rfl) (fun K9 hK9 => ?_)
        have HK9 := Lib.hid hK9
        clear hK9
        go_simp
        refine (part3_any w8.heap.size a w1 HCq.out HS0.out.2.1 HS0.out.2.2).mono ?_
        rintro e w2 ⟨v2, rfl, hs2, hb2⟩
        have HY2 := Lib.hid hs2
        clear hs2 HCq HMp
        dsimp only
        have HS1 := Lib.hid (HS0.out.below hb2)
        have HO1 := Lib.hid (own_below HO8.out hb2)
        have HI1 := Lib.hid ((hb2.block r HR8.out).trans HI8.out)
        have HD1 := Lib.hid (HD8.out.trans (hb2.mono HZ8.out))
        have HR1 := Lib.hid (Nat.lt_of_lt_of_le HR8.out hb2.size)
        have HZ1 := Lib.hid (Nat.le_trans HZ8.out hb2.size)
        clear HS0 HO8 HI8 HD8 HR8 HZ8 hb2
        have HS0 := HS1
        have HO8 := HO1
        have HI8 := HI1
        have HD8 := HD1
        have HR8 := HR1
        have HZ8 := HZ1
        clear HS1 HO1 HI1 HD1 HR1 HZ1
        refine HK9.out _ _ HS0.out ?_
        clear HK9
        simp only [List.setIfInBounds_toArray, List.set_cons_zero, List.set_cons_succ]
        refine wpAnyH_one (i := 6) (oi := ⟨some 25, _, _, _, _, _⟩) (by kernel_rfl) rfl (by rfl) (fun K9 hK9 => ?_)
        have HK9 := Lib.hid hK9
        clear hK9
        refine wp_appStrq g4 (.tmp 19) (.tmp 24) 65 9 rfl Tryz.underlying65 info_str u4 v2 LX _ LY HLY.out rfl rfl HO8.out HY2.out HZ8.out (by have := HLs.out; have := (part_sizes HS0.out.2.1 HM.out 104).1; omega) ?_
        intro vc wc ho hb hg
        have HO9 := Lib.hid ho.out
        have HD9 := Lib.hid (hb.out g4 w5 HD8.out (Nat.le_refl _))
        have HS9 := Lib.hid (show ActS g a wc from ⟨HS0.out.1.below (hb.out g4 w2 (Below.refl _ _) (Nat.le_refl _)) HXg.out, HA0.out.below (w' := wc) (by rw [HG.out]; exact HW5.out.trans (HD9.out.mono (Nat.le_of_lt HXg.out))), HT0.out.below (w' := wc) (by rw [HG.out]; exact HW5.out.trans (HD9.out.mono (Nat.le_of_lt HXg.out)))⟩)
        have HI9 := Lib.hid ((hg.out.block r HR8.out (own_not_iter HO8.out HI8.out).symm).trans HI8.out)
        clear ho hb hg HO8 HD8 HI8 HY2
        refine HK9.out _ _ HS9.out ?_
        clear HK9
        simp only [List.setIfInBounds_toArray, List.set_cons_zero, List.set_cons_succ]
        refine wpAnyH_take (i := 7) (oi := ⟨some 4, _, _, _, _, _⟩) (v := vc) rfl (by kernel_rfl) (by kernel_rfl) (by kernel_rfl) (fun _ _ _ h => h) (Or.inl ⟨by rfl, ?_⟩) HS9.out ?_
        · intro w hSw
          go_simp <;> with_reducible rfl
        dsimp only [Act.put]
        simp only [List.setIfInBounds_toArray, List.set_cons_zero, List.set_cons_succ]
        refine wpAnyH_done (by kernel_rfl) ?_ _
        go_wp2
        go_roundg gg
        case measure => omega
        case rel => exact ⟨k + 1, by show _ = _; have := HK.out; omega, HI9.out, by show World.ownsRow _ _ _ _ _ _ _; rw [HLe.out]; exact HO9.out, HD9.out⟩
      · obtain ⟨w6, hn, hi6, hb6, hq6, hz6⟩ := next_all (P := Tryz.prog) wr r s k 111 0 HI.out hc (by omega)
        have HI6 := Lib.hid hi6
        have HO6 := Lib.hid (own_same HO.out (fun j hj => hq6 j (fun e => own_not_iter HO.out HI.out (by rw [hj, e]))))
        have HD6 := Lib.hid (HBq.out.trans (hb6.mono (Nat.le_of_lt HL4.out)))
        have HR6 := Lib.hid (show r < w6.heap.size by rw [hz6]; exact HRl.out)
        clear hc hi6 hb6 hq6 hz6 HI HO HBq HRl
        have HS6 := Lib.hid (show ActS g a w6 from ⟨HX5.out.below HD6.out HXg.out, HA0.out.below (w' := w6) (by rw [HG.out]; exact HW5.out.trans (HD6.out.mono (Nat.le_of_lt HXg.out))), HT0.out.below (w' := w6) (by rw [HG.out]; exact HW5.out.trans (HD6.out.mono (Nat.le_of_lt HXg.out)))⟩)
        go_upto_region 6 with fail
        clear hn
        have HS0 := Lib.hid (show ActS g a w6.drew from HS6.out.below ((Below.refl _ _).drew))
        have HO8 := Lib.hid (show w6.drew.ownsRow g4 9 1 u4 LX.length (strsC LX) from HO6.out)
        have HI8 := Lib.hid (show w6.drew.heap[r]? = some (.stringIter s (k + 1)) from HI6.out)
        have HD8 := Lib.hid HD6.out.drew
        have HR8 := Lib.hid (show r < w6.drew.heap.size from HR6.out)
        have HZ8 := Lib.hid (show g4 ≤ w6.drew.heap.size from Nat.le_of_lt (Nat.lt_trans HL4.out HR6.out))
        clear HS6 HO6 HI6 HD6 HR6
        refine wp_region_H (ActS g a) (by kernel_rfl) ?_
        generalize World.drew _ = w8 at *
        simp only [List.size_toArray, List.length_cons, List.length_nil, Nat.reduceAdd, Array.replicate_succ, Array.replicate_zero, List.push_toArray, List.nil_append, List.cons_append]
        refine wpAnyH_take (i := 0) (oi := ⟨some 19, _, _, _, _, _⟩) (v := ?_) rfl (by kernel_rfl) (by kernel_rfl) (by kernel_rfl) (fun _ _ _ h => h) (Or.inl ⟨by rfl, ?_⟩) HS0.out ?_
        rotate_left
        · intro w hSw
          go_simp <;> with_reducible rfl
        dsimp only [Act.put]
        simp only [List.setIfInBounds_toArray, List.set_cons_zero, List.set_cons_succ]
        refine wpAnyH_take (i := 2) (oi := ⟨some 21, _, _, _, _, _⟩) (v := ?_) rfl (by kernel_rfl) (by kernel_rfl) (by kernel_rfl) (fun _ _ _ h => h) (Or.inl ⟨by rfl, ?_⟩) HS0.out ?_
        rotate_left
        · intro w hSw
          go_simp <;> with_reducible rfl
        dsimp only [Act.put]
        simp only [List.setIfInBounds_toArray, List.set_cons_zero, List.set_cons_succ]
        refine wpAnyH_take (i := 4) (oi := ⟨some 23, _, _, _, _, _⟩) rfl (by kernel_rfl) (by kernel_rfl) (by kernel_rfl) (fun _ _ _ h => h) (yieldsIf_load_mid (by rfl) 30 (.tmp 1) rfl (g) (0) rfl (a.cells) _ (fun w h => h.1.1.range) Tryz.underlying30 rfl (by rw [ActM.cells_len HA0.out]; exact size_act)) HS0.out ?_
        dsimp only [Act.put]
        simp only [List.setIfInBounds_toArray, List.set_cons_zero, List.set_cons_succ]
        refine wpAnyH_one (i := 1) (oi := ⟨some 20, _, _, _, _, _⟩) (by kernel_rfl) rfl (by rfl) (fun K9 hK9 => ?_)
        have HK9 := Lib.hid hK9
        clear hK9
        go_simp
        refine (parts_any w8).mono ?_
        rintro e w1 ⟨rfl, hm1, hc1, hb1⟩
        have HMp := Lib.hid (parts_at_o hm1)
        have HCq := Lib.hid hc1
        clear hm1 hc1
        dsimp only
        have HS1 := Lib.hid (HS0.out.below hb1)
        have HO1 := Lib.hid (own_below HO8.out hb1)
        have HI1 := Lib.hid ((hb1.block r HR8.out).trans HI8.out)
        have HD1 := Lib.hid (HD8.out.trans (hb1.mono HZ8.out))
        have HR1 := Lib.hid (Nat.lt_of_lt_of_le HR8.out hb1.size)
        have HZ1 := Lib.hid (Nat.le_trans HZ8.out hb1.size)
        clear HS0 HO8 HI8 HD8 HR8 HZ8 hb1
        have HS0 := HS1
        have HO8 := HO1
        have HI8 := HI1
        have HD8 := HD1
        have HR8 := HR1
        have HZ8 := HZ1
        clear HS1 HO1 HI1 HD1 HR1 HZ1
        refine HK9.out _ _ HS0.out ?_
        clear HK9
        simp only [List.setIfInBounds_toArray, List.set_cons_zero, List.set_cons_succ]
        refine wpAnyH_one (i := 3) (oi := ⟨some 22, _, _, _, _, _⟩) (by kernel_rfl) rfl (by rfl) (fun K9 hK9 => ?_)
        have HK9 := Lib.hid hK9
        clear hK9
        have hl9 := HMp.out
        go_simp
        refine HK9.out _ _ HS0.out ?_
        clear HK9 hl9
        simp only [List.setIfInBounds_toArray, List.set_cons_zero, List.set_cons_succ]
        refine wpAnyH_one (i := 5) (oi := ⟨some 24, _, _, _, _, _⟩) (by kernel_rfl) rfl (by rfl) (fun K9 hK9 => ?_)
        have HK9 := Lib.hid hK9
        clear hK9
        go_simp
        refine (part4_any w8.heap.size a w1 HCq.out HS0.out.2.1 HS0.out.2.2).mono ?_
        rintro e w2 ⟨v2, rfl, hs2, hb2⟩
        have HY2 := Lib.hid hs2
        clear hs2 HCq HMp
        dsimp only
        have HS1 := Lib.hid (HS0.out.below hb2)
        have HO1 := Lib.hid (own_below HO8.out hb2)
        have HI1 := Lib.hid ((hb2.block r HR8.out).trans HI8.out)
        have HD1 := Lib.hid (HD8.out.trans (hb2.mono HZ8.out))
        have HR1 := Lib.hid (Nat.lt_of_lt_of_le HR8.out hb2.size)
        have HZ1 := Lib.hid (Nat.le_trans HZ8.out hb2.size)
        clear HS0 HO8 HI8 HD8 HR8 HZ8 hb2
        have HS0 := HS1
        have HO8 := HO1
        have HI8 := HI1
        have HD8 := HD1
        have HR8 := HR1
        have HZ8 := HZ1
        clear HS1 HO1 HI1 HD1 HR1 HZ1
        refine HK9.out _ _ HS0.out ?_
        clear HK9
        simp only [List.setIfInBounds_toArray, List.set_cons_zero, List.set_cons_succ]
        refine wpAnyH_one (i := 6) (oi := ⟨some 25, _, _, _, _, _⟩) (by kernel_rfl) rfl (by rfl) (fun K9 hK9 => ?_)
        have HK9 := Lib.hid hK9
        clear hK9
        refine wp_appStrq g4 (.tmp 19) (.tmp 24) 65 9 rfl Tryz.underlying65 info_str u4 v2 LX _ LY HLY.out rfl rfl HO8.out HY2.out HZ8.out (by have := HLs.out; have := (part_sizes HS0.out.2.1 HM.out 111).1; omega) ?_
        intro vc wc ho hb hg
        have HO9 := Lib.hid ho.out
        have HD9 := Lib.hid (hb.out g4 w5 HD8.out (Nat.le_refl _))
        have HS9 := Lib.hid (show ActS g a wc from ⟨HS0.out.1.below (hb.out g4 w2 (Below.refl _ _) (Nat.le_refl _)) HXg.out, HA0.out.below (w' := wc) (by rw [HG.out]; exact HW5.out.trans (HD9.out.mono (Nat.le_of_lt HXg.out))), HT0.out.below (w' := wc) (by rw [HG.out]; exact HW5.out.trans (HD9.out.mono (Nat.le_of_lt HXg.out)))⟩)
        have HI9 := Lib.hid ((hg.out.block r HR8.out (own_not_iter HO8.out HI8.out).symm).trans HI8.out)
        clear ho hb hg HO8 HD8 HI8 HY2
        refine HK9.out _ _ HS9.out ?_
        clear HK9
        simp only [List.setIfInBounds_toArray, List.set_cons_zero, List.set_cons_succ]
        refine wpAnyH_take (i := 7) (oi := ⟨some 4, _, _, _, _, _⟩) (v := vc) rfl (by kernel_rfl) (by kernel_rfl) (by kernel_rfl) (fun _ _ _ h => h) (Or.inl ⟨by rfl, ?_⟩) HS9.out ?_
        · intro w hSw
          go_simp <;> with_reducible rfl
        dsimp only [Act.put]
        simp only [List.setIfInBounds_toArray, List.set_cons_zero, List.set_cons_succ]
        refine wpAnyH_done (by kernel_rfl) ?_ _
        go_wp2
        go_roundg gg
        case measure => omega
        case rel => exact ⟨k + 1, by show _ = _; have := HK.out; omega, HI9.out, by show World.ownsRow _ _ _ _ _ _ _; rw [HLe.out]; exact HO9.out, HD9.out⟩
      · obtain ⟨w6, hn, hi6, hb6, hq6, hz6⟩ := next_all (P := Tryz.prog) wr r s k 112 0 HI.out hc (by omega)
        have HI6 := Lib.hid hi6
        have HO6 := Lib.hid (own_same HO.out (fun j hj => hq6 j (fun e => own_not_iter HO.out HI.out (by rw [hj, e]))))
        have HD6 := Lib.hid (HBq.out.trans (hb6.mono (Nat.le_of_lt HL4.out)))
        have HR6 := Lib.hid (show r < w6.heap.size by rw [hz6]; exact HRl.out)
        clear hc hi6 hb6 hq6 hz6 HI HO HBq HRl
        have HS6 := Lib.hid (show ActS g a w6 from ⟨HX5.out.below HD6.out HXg.out, HA0.out.below (w' := w6) (by rw [HG.out]; exact HW5.out.trans (HD6.out.mono (Nat.le_of_lt HXg.out))), HT0.out.below (w' := w6) (by rw [HG.out]; exact HW5.out.trans (HD6.out.mono (Nat.le_of_lt HXg.out)))⟩)
        go_upto_region 6 with fail
        clear hn
        have HS0 := Lib.hid (show ActS g a w6.drew from HS6.out.below ((Below.refl _ _).drew))
        have HO8 := Lib.hid (show w6.drew.ownsRow g4 9 1 u4 LX.length (strsC LX) from HO6.out)
        have HI8 := Lib.hid (show w6.drew.heap[r]? = some (.stringIter s (k + 1)) from HI6.out)
        have HD8 := Lib.hid HD6.out.drew
        have HR8 := Lib.hid (show r < w6.drew.heap.size from HR6.out)
        have HZ8 := Lib.hid (show g4 ≤ w6.drew.heap.size from Nat.le_of_lt (Nat.lt_trans HL4.out HR6.out))
        clear HS6 HO6 HI6 HD6 HR6
        refine wp_region_H (ActS g a) (by kernel_rfl) ?_
        generalize World.drew _ = w8 at *
        simp only [List.size_toArray, List.length_cons, List.length_nil, Nat.reduceAdd, Array.replicate_succ, Array.replicate_zero, List.push_toArray, List.nil_append, List.cons_append]
        refine wpAnyH_take (i := 0) (oi := ⟨some 19, _, _, _, _, _⟩) (v := ?_) rfl (by kernel_rfl) (by kernel_rfl) (by kernel_rfl) (fun _ _ _ h => h) (Or.inl ⟨by rfl, ?_⟩) HS0.out ?_
        rotate_left
        · intro w hSw
          go_simp <;> with_reducible rfl
        dsimp only [Act.put]
        simp only [List.setIfInBounds_toArray, List.set_cons_zero, List.set_cons_succ]
        refine wpAnyH_take (i := 2) (oi := ⟨some 21, _, _, _, _, _⟩) (v := ?_) rfl (by kernel_rfl) (by kernel_rfl) (by kernel_rfl) (fun _ _ _ h => h) (Or.inl ⟨by rfl, ?_⟩) HS0.out ?_
        rotate_left
        · intro w hSw
          go_simp <;> with_reducible rfl
        dsimp only [Act.put]
        simp only [List.setIfInBounds_toArray, List.set_cons_zero, List.set_cons_succ]
        refine wpAnyH_take (i := 4) (oi := ⟨some 23, _, _, _, _, _⟩) rfl (by kernel_rfl) (by kernel_rfl) (by kernel_rfl) (fun _ _ _ h => h) (yieldsIf_load_mid (by rfl) 30 (.tmp 1) rfl (g) (0) rfl (a.cells) _ (fun w h => h.1.1.range) Tryz.underlying30 rfl (by rw [ActM.cells_len HA0.out]; exact size_act)) HS0.out ?_
        dsimp only [Act.put]
        simp only [List.setIfInBounds_toArray, List.set_cons_zero, List.set_cons_succ]
        refine wpAnyH_one (i := 1) (oi := ⟨some 20, _, _, _, _, _⟩) (by kernel_rfl) rfl (by rfl) (fun K9 hK9 => ?_)
        have HK9 := Lib.hid hK9
        clear hK9
        go_simp
        refine (parts_any w8).mono ?_
        rintro e w1 ⟨rfl, hm1, hc1, hb1⟩
        have HMp := Lib.hid (parts_at_p hm1)
        have HCq := Lib.hid hc1
        clear hm1 hc1
        dsimp only
        have HS1 := Lib.hid (HS0.out.below hb1)
        have HO1 := Lib.hid (own_below HO8.out hb1)
        have HI1 := Lib.hid ((hb1.block r HR8.out).trans HI8.out)
        have HD1 := Lib.hid (HD8.out.trans (hb1.mono HZ8.out))
        have HR1 := Lib.hid (Nat.lt_of_lt_of_le HR8.out hb1.size)
        have HZ1 := Lib.hid (Nat.le_trans HZ8.out hb1.size)
        clear HS0 HO8 HI8 HD8 HR8 HZ8 hb1
        have HS0 := HS1
        have HO8 := HO1
        have HI8 := HI1
        have HD8 := HD1
        have HR8 := HR1
        have HZ8 := HZ1
        clear HS1 HO1 HI1 HD1 HR1 HZ1
        refine HK9.out _ _ HS0.out ?_
        clear HK9
        simp only [List.setIfInBounds_toArray, List.set_cons_zero, List.set_cons_succ]
        refine wpAnyH_one (i := 3) (oi := ⟨some 22, _, _, _, _, _⟩) (by kernel_rfl) rfl (by rfl) (fun K9 hK9 => ?_)
        have HK9 := Lib.hid hK9
        clear hK9
        have hl9 := HMp.out
        go_simp
        refine HK9.out _ _ HS0.out ?_
        clear HK9 hl9
        simp only [List.setIfInBounds_toArray, List.set_cons_zero, List.set_cons_succ]
        refine wpAnyH_one (i := 5) (oi := ⟨some 24, _, _, _, _, _⟩) (by kernel_rfl) rfl (by rfl) (fun K9 hK9 => ?_)
        have HK9 := Lib.hid hK9
        clear hK9
        go_simp
        refine (part5_any w8.heap.size a w1 HCq.out HS0.out.2.1 HS0.out.2.2 (Nat.le_trans HM.out.2.2.2.1 (by decide))).mono ?_
        rintro e w2 ⟨v2, rfl, hs2, hb2⟩
        have HY2 := Lib.hid hs2
        clear hs2 HCq HMp
        dsimp only
        have HS1 := Lib.hid (HS0.out.below hb2)
        have HO1 := Lib.hid (own_below HO8.out hb2)
        have HI1 := Lib.hid ((hb2.block r HR8.out).trans HI8.out)
        have HD1 := Lib.hid (HD8.out.trans (hb2.mono HZ8.out))
        have HR1 := Lib.hid (Nat.lt_of_lt_of_le HR8.out hb2.size)
        have HZ1 := Lib.hid (Nat.le_trans HZ8.out hb2.size)
        clear HS0 HO8 HI8 HD8 HR8 HZ8 hb2
        have HS0 := HS1
        have HO8 := HO1
        have HI8 := HI1
        have HD8 := HD1
        have HR8 := HR1
        have HZ8 := HZ1
        clear HS1 HO1 HI1 HD1 HR1 HZ1
        refine HK9.out _ _ HS0.out ?_
        clear HK9
        simp only [List.setIfInBounds_toArray, List.set_cons_zero, List.set_cons_succ]
        refine wpAnyH_one (i := 6) (oi := ⟨some 25, _, _, _, _, _⟩) (by kernel_rfl) rfl (by rfl) (fun K9 hK9 => ?_)
        have HK9 := Lib.hid hK9
        clear hK9
        refine wp_appStrq g4 (.tmp 19) (.tmp 24) 65 9 rfl Tryz.underlying65 info_str u4 v2 LX _ LY HLY.out rfl rfl HO8.out HY2.out HZ8.out (by have := HLs.out; have := (part_sizes HS0.out.2.1 HM.out 112).1; omega) ?_
        intro vc wc ho hb hg
        have HO9 := Lib.hid ho.out
        have HD9 := Lib.hid (hb.out g4 w5 HD8.out (Nat.le_refl _))
        have HS9 := Lib.hid (show ActS g a wc from ⟨HS0.out.1.below (hb.out g4 w2 (Below.refl _ _) (Nat.le_refl _)) HXg.out, HA0.out.below (w' := wc) (by rw [HG.out]; exact HW5.out.trans (HD9.out.mono (Nat.le_of_lt HXg.out))), HT0.out.below (w' := wc) (by rw [HG.out]; exact HW5.out.trans (HD9.out.mono (Nat.le_of_lt HXg.out)))⟩)
        have HI9 := Lib.hid ((hg.out.block r HR8.out (own_not_iter HO8.out HI8.out).symm).trans HI8.out)
        clear ho hb hg HO8 HD8 HI8 HY2
        refine HK9.out _ _ HS9.out ?_
        clear HK9
        simp only [List.setIfInBounds_toArray, List.set_cons_zero, List.set_cons_succ]
        refine wpAnyH_take (i := 7) (oi := ⟨some 4, _, _, _, _, _⟩) (v := vc) rfl (by kernel_rfl) (by kernel_rfl) (by kernel_rfl) (fun _ _ _ h => h) (Or.inl ⟨by rfl, ?_⟩) HS9.out ?_
        · intro w hSw
          go_simp <;> with_reducible rfl
        dsimp only [Act.put]
        simp only [List.setIfInBounds_toArray, List.set_cons_zero, List.set_cons_succ]
        refine wpAnyH_done (by kernel_rfl) ?_ _
        go_wp2
        go_roundg gg
        case measure => omega
        case rel => exact ⟨k + 1, by show _ = _; have := HK.out; omega, HI9.out, by show World.ownsRow _ _ _ _ _ _ _; rw [HLe.out]; exact HO9.out, HD9.out⟩
      · obtain ⟨w6, hn, hi6, hb6, hq6, hz6⟩ := next_all (P := Tryz.prog) wr r s k 103 0 HI.out hc (by omega)
        have HI6 := Lib.hid hi6
        have HO6 := Lib.hid (own_same HO.out (fun j hj => hq6 j (fun e => own_not_iter HO.out HI.out (by rw [hj, e]))))
        have HD6 := Lib.hid (HBq.out.trans (hb6.mono (Nat.le_of_lt HL4.out)))
        have HR6 := Lib.hid (show r < w6.heap.size by rw [hz6]; exact HRl.out)
        clear hc hi6 hb6 hq6 hz6 HI HO HBq HRl
        have HS6 := Lib.hid (show ActS g a w6 from ⟨HX5.out.below HD6.out HXg.out, HA0.out.below (w' := w6) (by rw [HG.out]; exact HW5.out.trans (HD6.out.mono (Nat.le_of_lt HXg.out))), HT0.out.below (w' := w6) (by rw [HG.out]; exact HW5.out.trans (HD6.out.mono (Nat.le_of_lt HXg.out)))⟩)
        go_upto_region 6 with fail
        clear hn
        have HS0 := Lib.hid (show ActS g a w6.drew from HS6.out.below ((Below.refl _ _).drew))
        have HO8 := Lib.hid (show w6.drew.ownsRow g4 9 1 u4 LX.length (strsC LX) from HO6.out)
        have HI8 := Lib.hid (show w6.drew.heap[r]? = some (.stringIter s (k + 1)) from HI6.out)
        have HD8 := Lib.hid HD6.out.drew
        have HR8 := Lib.hid (show r < w6.drew.heap.size from HR6.out)
        have HZ8 := Lib.hid (show g4 ≤ w6.drew.heap.size from Nat.le_of_lt (Nat.lt_trans HL4.out HR6.out))
        clear HS6 HO6 HI6 HD6 HR6
        refine wp_region_H (ActS g a) (by kernel_rfl) ?_
        generalize World.drew _ = w8 at *
        simp only [List.size_toArray, List.length_cons, List.length_nil, Nat.reduceAdd, Array.replicate_succ, Array.replicate_zero, List.push_toArray, List.nil_append, List.cons_append]
        refine wpAnyH_take (i := 0) (oi := ⟨some 19, _, _, _, _, _⟩) (v := ?_) rfl (by kernel_rfl) (by kernel_rfl) (by kernel_rfl) (fun _ _ _ h => h) (Or.inl ⟨by rfl, ?_⟩) HS0.out ?_
        rotate_left
        · intro w hSw
          go_simp <;> with_reducible rfl
        dsimp only [Act.put]
        simp only [List.setIfInBounds_toArray, List.set_cons_zero, List.set_cons_succ]
        refine wpAnyH_take (i := 2) (oi := ⟨some 21, _, _, _, _, _⟩) (v := ?_) rfl (by kernel_rfl) (by kernel_rfl) (by kernel_rfl) (fun _ _ _ h => h) (Or.inl ⟨by rfl, ?_⟩) HS0.out ?_
        rotate_left
        · intro w hSw
          go_simp <;> with_reducible rfl
        dsimp only [Act.put]
        simp only [List.setIfInBounds_toArray, List.set_cons_zero, List.set_cons_succ]
        refine wpAnyH_take (i := 4) (oi := ⟨some 23, _, _, _, _, _⟩) rfl (by kernel_rfl) (by kernel_rfl) (by kernel_rfl) (fun _ _ _ h => h) (yieldsIf_load_mid (by rfl) 30 (.tmp 1) rfl (g) (0) rfl (a.cells) _ (fun w h => h.1.1.range) Tryz.underlying30 rfl (by rw [ActM.cells_len HA0.out]; exact size_act)) HS0.out ?_
        dsimp only [Act.put]
        simp only [List.setIfInBounds_toArray, List.set_cons_zero, List.set_cons_succ]
        refine wpAnyH_one (i := 1) (oi := ⟨some 20, _, _, _, _, _⟩) (by kernel_rfl) rfl (by rfl) (fun K9 hK9 => ?_)
        have HK9 := Lib.hid hK9
        clear hK9
        go_simp
        refine (parts_any w8).mono ?_
        rintro e w1 ⟨rfl, hm1, hc1, hb1⟩
        have HMp := Lib.hid (parts_at_g hm1)
        have HCq := Lib.hid hc1
        clear hm1 hc1
        dsimp only
        have HS1 := Lib.hid (HS0.out.below hb1)
        have HO1 := Lib.hid (own_below HO8.out hb1)
        have HI1 := Lib.hid ((hb1.block r HR8.out).trans HI8.out)
        have HD1 := Lib.hid (HD8.out.trans (hb1.mono HZ8.out))
        have HR1 := Lib.hid (Nat.lt_of_lt_of_le HR8.out hb1.size)
        have HZ1 := Lib.hid (Nat.le_trans HZ8.out hb1.size)
        clear HS0 HO8 HI8 HD8 HR8 HZ8 hb1
        have HS0 := HS1
        have HO8 := HO1
        have HI8 := HI1
        have HD8 := HD1
        have HR8 := HR1
        have HZ8 := HZ1
        clear HS1 HO1 HI1 HD1 HR1 HZ1
        refine HK9.out _ _ HS0.out ?_
        clear HK9
        simp only [List.setIfInBounds_toArray, List.set_cons_zero, List.set_cons_succ]
        refine wpAnyH_one (i := 3) (oi := ⟨some 22, _, _, _, _, _⟩) (by kernel_rfl) rfl (by rfl) (fun K9 hK9 => ?_)
        have HK9 := Lib.hid hK9
        clear hK9
        have hl9 := HMp.out
        go_simp
        refine HK9.out _ _ HS0.out ?_
        clear HK9 hl9
        simp only [List.setIfInBounds_toArray, List.set_cons_zero, List.set_cons_succ]
        refine wpAnyH_one (i := 5) (oi := ⟨some 24, _, _, _, _, _⟩) (by kernel_rfl) rfl (by rfl) (fun K9 hK9 => ?_)
        have HK9 := Lib.hid hK9
        clear hK9
        go_simp
        refine (part6_any w8.heap.size a w1 HCq.out HS0.out.2.1 HS0.out.2.2).mono ?_
        rintro e w2 ⟨v2, rfl, hs2, hb2⟩
        have HY2 := Lib.hid hs2
        clear hs2 HCq HMp
        dsimp only
        have HS1 := Lib.hid (HS0.out.below hb2)
        have HO1 := Lib.hid (own_below HO8.out hb2)
        have HI1 := Lib.hid ((hb2.block r HR8.out).trans HI8.out)
        have HD1 := Lib.hid (HD8.out.trans (hb2.mono HZ8.out))
        have HR1 := Lib.hid (Nat.lt_of_lt_of_le HR8.out hb2.size)
        have HZ1 := Lib.hid (Nat.le_trans HZ8.out hb2.size)
        clear HS0 HO8 HI8 HD8 HR8 HZ8 hb2
        have HS0 := HS1
        have HO8 := HO1
        have HI8 := HI1
        have HD8 := HD1
        have HR8 := HR1
        have HZ8 := HZ1
        clear HS1 HO1 HI1 HD1 HR1 HZ1
        refine HK9.out _ _ HS0.out ?_
        clear HK9
        simp only [List.setIfInBounds_toArray, List.set_cons_zero, List.set_cons_succ]
        refine wpAnyH_one (i := 6) (oi := ⟨some 25, _, _, _, _, _⟩) (by kernel_rfl) rfl (by rfl) (fun K9 hK9 => ?_)
        have HK9 := Lib.hid hK9
        clear hK9
        refine wp_appStrq g4 (.tmp 19) (.tmp 24) 65 9 rfl Tryz.underlying65 info_str u4 v2 LX _ LY HLY.out rfl rfl HO8.out HY2.out HZ8.out (by have := HLs.out; have := (part_sizes HS0.out.2.1 HM.out 103).1; omega) ?_
        intro vc wc ho hb hg
        have HO9 := Lib.hid ho.out
        have HD9 := Lib.hid (hb.out g4 w5 HD8.out (Nat.le_refl _))
        have HS9 := Lib.hid (show ActS g a wc from ⟨HS0.out.1.below (hb.out g4 w2 (Below.refl _ _) (Nat.le_refl _)) HXg.out, HA0.out.below (w' := wc) (by rw [HG.out]; exact HW5.out.trans (HD9.out.mono (Nat.le_of_lt HXg.out))), HT0.out.below (w' := wc) (by rw [HG.out]; exact HW5.out.trans (HD9.out.mono (Nat.le_of_lt HXg.out)))⟩)
        have HI9 := Lib.hid ((hg.out.block r HR8.out (own_not_iter HO8.out HI8.out).symm).trans HI8.out)
        clear ho hb hg HO8 HD8 HI8 HY2
        refine HK9.out _ _ HS9.out ?_
        clear HK9
        simp only [List.setIfInBounds_toArray, List.set_cons_zero, List.set_cons_succ]
        refine wpAnyH_take (i := 7) (oi := ⟨some 4, _, _, _, _, _⟩) (v := vc) rfl (by kernel_rfl) (by kernel_rfl) (by kernel_rfl) (fun _ _ _ h => h) (Or.inl ⟨by rfl, ?_⟩) HS9.out ?_
        · intro w hSw
          go_simp <;> with_reducible rfl
        dsimp only [Act.put]
        simp only [List.setIfInBounds_toArray, List.set_cons_zero, List.set_cons_succ]
        refine wpAnyH_done (by kernel_rfl) ?_ _
        go_wp2
        go_roundg gg
        case measure => omega
        case rel => exact ⟨k + 1, by show _ = _; have := HK.out; omega, HI9.out, by show World.ownsRow _ _ _ _ _ _ _; rw [HLe.out]; exact HO9.out, HD9.out⟩
      · obtain ⟨w6, hn, hi6, hb6, hq6, hz6⟩ := next_all (P := Tryz.prog) wr r s k 110 0 HI.out hc (by omega)
        have HI6 := Lib.hid hi6
        have HO6 := Lib.hid (own_same HO.out (fun j hj => hq6 j (fun e => own_not_iter HO.out HI.out (by rw [hj, e]))))
        have HD6 := Lib.hid (HBq.out.trans (hb6.mono (Nat.le_of_lt HL4.out)))
        have HR6 := Lib.hid (show r < w6.heap.size by rw [hz6]; exact HRl.out)
        clear hc hi6 hb6 hq6 hz6 HI HO HBq HRl
        have HS6 := Lib.hid (show ActS g a w6 from ⟨HX5.out.below HD6.out HXg.out, HA0.out.below (w' := w6) (by rw [HG.out]; exact HW5.out.trans (HD6.out.mono (Nat.le_of_lt HXg.out))), HT0.out.below (w' := w6) (by rw [HG.out]; exact HW5.out.trans (HD6.out.mono (Nat.le_of_lt HXg.out)))⟩)
        go_upto_region 6 with fail
        clear hn
        have HS0 := Lib.hid (show ActS g a w6.drew from HS6.out.below ((Below.refl _ _).drew))
        have HO8 := Lib.hid (show w6.drew.ownsRow g4 9 1 u4 LX.length (strsC LX) from HO6.out)
        have HI8 := Lib.hid (show w6.drew.heap[r]? = some (.stringIter s (k + 1)) from HI6.out)
        have HD8 := Lib.hid HD6.out.drew
        have HR8 := Lib.hid (show r < w6.drew.heap.size from HR6.out)
        have HZ8 := Lib.hid (show g4 ≤ w6.drew.heap.size from Nat.le_of_lt (Nat.lt_trans HL4.out HR6.out))
        clear HS6 HO6 HI6 HD6 HR6
        refine wp_region_H (ActS g a) (by kernel_rfl) ?_
        generalize World.drew _ = w8 at *
        simp only [List.size_toArray, List.length_cons, List.length_nil, Nat.reduceAdd, Array.replicate_succ, Array.replicate_zero, List.push_toArray, List.nil_append, List.cons_append]
        refine wpAnyH_take (i := 0) (oi := ⟨some 19, _, _, _, _, _⟩) (v := ?_) rfl (by kernel_rfl) (by kernel_rfl) (by kernel_rfl) (fun _ _ _ h => h) (Or.inl ⟨by rfl, ?_⟩) HS0.out ?_
        rotate_left
        · intro w hSw
          go_simp <;> with_reducible rfl
        dsimp only [Act.put]
        simp only [List.setIfInBounds_toArray, List.set_cons_zero, List.set_cons_succ]
        refine wpAnyH_take (i := 2) (oi := ⟨some 21, _, _, _, _, _⟩) (v := ?_) rfl (by kernel_rfl) (by kernel_rfl) (by kernel_rfl) (fun _ _ _ h => h) (Or.inl ⟨by rfl, ?_⟩) HS0.out ?_
        rotate_left
        · intro w hSw
          go_simp <;> with_reducible rfl
        dsimp only [Act.put]
        simp only [List.setIfInBounds_toArray, List.set_cons_zero, List.set_cons_succ]
        refine wpAnyH_take (i := 4) (oi := ⟨some 23, _, _, _, _, _⟩) rfl (by kernel_rfl) (by kernel_rfl) (by kernel_rfl) (fun _ _ _ h => h) (yieldsIf_load_mid (by rfl) 30 (.tmp 1) rfl (g) (0) rfl (a.cells) _ (fun w h => h.1.1.range) Tryz.underlying30 rfl (by rw [ActM.cells_len HA0.out]; exact size_act)) HS0.out ?_
        dsimp only [Act.put]
        simp only [List.setIfInBounds_toArray, List.set_cons_zero, List.set_cons_succ]
        refine wpAnyH_one (i := 1) (oi := ⟨some 20, _, _, _, _, _⟩) (by kernel_rfl) rfl (by rfl) (fun K9 hK9 => ?_)
        have HK9 := Lib.hid hK9
        clear hK9
        go_simp
        refine (parts_any w8).mono ?_
        rintro e w1 ⟨rfl, hm1, hc1, hb1⟩
        have HMp := Lib.hid (parts_at_n hm1)
        have HCq := Lib.hid hc1
        clear hm1 hc1
        dsimp only
        have HS1 := Lib.hid (HS0.out.below hb1)
        have HO1 := Lib.hid (own_below HO8.out hb1)
        have HI1 := Lib.hid ((hb1.block r HR8.out).trans HI8.out)
        have HD1 := Lib.hid (HD8.out.trans (hb1.mono HZ8.out))
        have HR1 := Lib.hid (Nat.lt_of_lt_of_le HR8.out hb1.size)
        have HZ1 := Lib.hid (Nat.le_trans HZ8.out hb1.size)
        clear HS0 HO8 HI8 HD8 HR8 HZ8 hb1
        have HS0 := HS1
        have HO8 := HO1
        have HI8 := HI1
        have HD8 := HD1
        have HR8 := HR1
        have HZ8 := HZ1
        clear HS1 HO1 HI1 HD1 HR1 HZ1
        refine HK9.out _ _ HS0.out ?_
        clear HK9
        simp only [List.setIfInBounds_toArray, List.set_cons_zero, List.set_cons_succ]
        refine wpAnyH_one (i := 3) (oi := ⟨some 22, _, _, _, _, _⟩) (by kernel_rfl) rfl (by rfl) (fun K9 hK9 => ?_)
        have HK9 := Lib.hid hK9
        clear hK9
        have hl9 := HMp.out
        go_simp
        refine HK9.out _ _ HS0.out ?_
        clear HK9 hl9
        simp only [List.setIfInBounds_toArray, List.set_cons_zero, List.set_cons_succ]
        refine wpAnyH_one (i := 5) (oi := ⟨some 24, _, _, _, _, _⟩) (by kernel_rfl) rfl (by rfl) (fun K9 hK9 => ?_)
        have HK9 := Lib.hid hK9
        clear hK9
        go_simp
        refine (part7_any w8.heap.size a w1 HCq.out HS0.out.2.1 HS0.out.2.2).mono ?_
        rintro e w2 ⟨v2, rfl, hs2, hb2⟩
        have HY2 := Lib.hid hs2
        clear hs2 HCq HMp
        dsimp only
        have HS1 := Lib.hid (HS0.out.below hb2)
        have HO1 := Lib.hid (own_below HO8.out hb2)
        have HI1 := Lib.hid ((hb2.block r HR8.out).trans HI8.out)
        have HD1 := Lib.hid (HD8.out.trans (hb2.mono HZ8.out))
        have HR1 := Lib.hid (Nat.lt_of_lt_of_le HR8.out hb2.size)
        have HZ1 := Lib.hid (Nat.le_trans HZ8.out hb2.size)
        clear HS0 HO8 HI8 HD8 HR8 HZ8 hb2
        have HS0 := HS1
        have HO8 := HO1
        have HI8 := HI1
        have HD8 := HD1
        have HR8 := HR1
        have HZ8 := HZ1
        clear HS1 HO1 HI1 HD1 HR1 HZ1
        refine HK9.out _ _ HS0.out ?_
        clear HK9
        simp only [List.setIfInBounds_toArray, List.set_cons_zero, List.set_cons_succ]
        refine wpAnyH_one (i := 6) (oi := ⟨some 25, _, _, _, _, _⟩) (by kernel_rfl) rfl (by rfl) (fun K9 hK9 => ?_)
        have HK9 := Lib.hid hK9
        clear hK9
        refine wp_appStrq g4 (.tmp 19) (.tmp 24) 65 9 rfl Tryz.underlying65 info_str u4 v2 LX _ LY HLY.out rfl rfl HO8.out HY2.out HZ8.out (by have := HLs.out; have := (part_sizes HS0.out.2.1 HM.out 110).1; omega) ?_
        intro vc wc ho hb hg
        have HO9 := Lib.hid ho.out
        have HD9 := Lib.hid (hb.out g4 w5 HD8.out (Nat.le_refl _))
        have HS9 := Lib.hid (show ActS g a wc from ⟨HS0.out.1.below (hb.out g4 w2 (Below.refl _ _) (Nat.le_refl _)) HXg.out, HA0.out.below (w' := wc) (by rw [HG.out]; exact HW5.out.trans (HD9.out.mono (Nat.le_of_lt HXg.out))), HT0.out.below (w' := wc) (by rw [HG.out]; exact HW5.out.trans (HD9.out.mono (Nat.le_of_lt HXg.out)))⟩)
        have HI9 := Lib.hid ((hg.out.block r HR8.out (own_not_iter HO8.out HI8.out).symm).trans HI8.out)
        clear ho hb hg HO8 HD8 HI8 HY2
        refine HK9.out _ _ HS9.out ?_
        clear HK9
        simp only [List.setIfInBounds_toArray, List.set_cons_zero, List.set_cons_succ]
        refine wpAnyH_take (i := 7) (oi := ⟨some 4, _, _, _, _, _⟩) (v := vc) rfl (by kernel_rfl) (by kernel_rfl) (by kernel_rfl) (fun _ _ _ h => h) (Or.inl ⟨by rfl, ?_⟩) HS9.out ?_
        · intro w hSw
          go_simp <;> with_reducible rfl
        dsimp only [Act.put]
        simp only [List.setIfInBounds_toArray, List.set_cons_zero, List.set_cons_succ]
        refine wpAnyH_done (by kernel_rfl) ?_ _
        go_wp2
        go_roundg gg
        case measure => omega
        case rel => exact ⟨k + 1, by show _ = _; have := HK.out; omega, HI9.out, by show World.ownsRow _ _ _ _ _ _ _; rw [HLe.out]; exact HO9.out, HD9.out⟩
      · obtain ⟨w6, hn, hi6, hb6, hq6, hz6⟩ := next_all (P := Tryz.prog) wr r s k 109 0 HI.out hc (by omega)
        have HI6 := Lib.hid hi6
        have HO6 := Lib.hid (own_same HO.out (fun j hj => hq6 j (fun e => own_not_iter HO.out HI.out (by rw [hj, e]))))
        have HD6 := Lib.hid (HBq.out.trans (hb6.mono (Nat.le_of_lt HL4.out)))
        have HR6 := Lib.hid (show r < w6.heap.size by rw [hz6]; exact HRl.out)
        clear hc hi6 hb6 hq6 hz6 HI HO HBq HRl
        have HS6 := Lib.hid (show ActS g a w6 from ⟨HX5.out.below HD6.out HXg.out, HA0.out.below (w' := w6) (by rw [HG.out]; exact HW5.out.trans (HD6.out.mono (Nat.le_of_lt HXg.out))), HT0.out.below (w' := w6) (by rw [HG.out]; exact HW5.out.trans (HD6.out.mono (Nat.le_of_lt HXg.out)))⟩)
        go_upto_region 6 with fail
        clear hn
        have HS0 := Lib.hid (show ActS g a w6.drew from HS6.out.below ((Below.refl _ _).drew))
        have HO8 := Lib.hid (show w6.drew.ownsRow g4 9 1 u4 LX.length (strsC LX) from HO6.out)
        have HI8 := Lib.hid (show w6.drew.heap[r]? = some (.stringIter s (k + 1)) from HI6.out)
        have HD8 := Lib.hid HD6.out.drew
        have HR8 := Lib.hid (show r < w6.drew.heap.size from HR6.out)
        have HZ8 := Lib.hid (show g4 ≤ w6.drew.heap.size from Nat.le_of_lt (Nat.lt_trans HL4.out HR6.out))
        clear HS6 HO6 HI6 HD6 HR6
        refine wp_region_H (ActS g a) (by kernel_rfl) ?_
        generalize World.drew _ = w8 at *
        simp only [List.size_toArray, List.length_cons, List.length_nil, Nat.reduceAdd, Array.replicate_succ, Array.replicate_zero, List.push_toArray, List.nil_append, List.cons_append]
        refine wpAnyH_take (i := 0) (oi := ⟨some 19, _, _, _, _, _⟩) (v := ?_) rfl (by kernel_rfl) (by kernel_rfl) (by kernel_rfl) (fun _ _ _ h => h) (Or.inl ⟨by rfl, ?_⟩) HS0.out ?_
        rotate_left
        · intro w hSw
          go_simp <;> with_reducible rfl
        dsimp only [Act.put]
        simp only [List.setIfInBounds_toArray, List.set_cons_zero, List.set_cons_succ]
        refine wpAnyH_take (i := 2) (oi := ⟨some 21, _, _, _, _, _⟩) (v := ?_) rfl (by kernel_rfl) (by kernel_rfl) (by kernel_rfl) (fun _ _ _ h => h) (Or.inl ⟨by rfl, ?_⟩) HS0.out ?_
        rotate_left
        · intro w hSw
          go_simp <;> with_reducible rfl
        dsimp only [Act.put]
        simp only [List.setIfInBounds_toArray, List.set_cons_zero, List.set_cons_succ]
        refine wpAnyH_take (i := 4) (oi := ⟨some 23, _, _, _, _, _⟩) rfl (by kernel_rfl) (by kernel_rfl) (by kernel_rfl) (fun _ _ _ h => h) (yieldsIf_load_mid (by rfl) 30 (.tmp 1) rfl (g) (0) rfl (a.cells) _ (fun w h => h.1.1.range) Tryz.underlying30 rfl (by rw [ActM.cells_len HA0.out]; exact size_act)) HS0.out ?_
        dsimp only [Act.put]
        simp only [List.setIfInBounds_toArray, List.set_cons_zero, List.set_cons_succ]
        refine wpAnyH_one (i := 1) (oi := ⟨some 20, _, _, _, _, _⟩) (by kernel_rfl) rfl (by rfl) (fun K9 hK9 => ?_)
        have HK9 := Lib.hid hK9
        clear hK9
        go_simp
        refine (parts_any w8).mono ?_
        rintro e w1 ⟨rfl, hm1, hc1, hb1⟩
        have HMp := Lib.hid (parts_at_m hm1)
        have HCq := Lib.hid hc1
        clear hm1 hc1
        dsimp only
        have HS1 := Lib.hid (HS0.out.below hb1)
        have HO1 := Lib.hid (own_below HO8.out hb1)
        have HI1 := Lib.hid ((hb1.block r HR8.out).trans HI8.out)
        have HD1 := Lib.hid (HD8.out.trans (hb1.mono HZ8.out))
        have HR1 := Lib.hid (Nat.lt_of_lt_of_le HR8.out hb1.size)
        have HZ1 := Lib.hid (Nat.le_trans HZ8.out hb1.size)
        clear HS0 HO8 HI8 HD8 HR8 HZ8 hb1
        have HS0 := HS1
        have HO8 := HO1
        have HI8 := HI1
        have HD8 := HD1
        have HR8 := HR1
        have HZ8 := HZ1
        clear HS1 HO1 HI1 HD1 HR1 HZ1
        refine HK9.out _ _ HS0.out ?_
        clear HK9
        simp only [List.setIfInBounds_toArray, List.set_cons_zero, List.set_cons_succ]
        refine wpAnyH_one (i := 3) (oi := ⟨some 22, _, _, _, _, _⟩) (by kernel_rfl) rfl (by rfl) (fun K9 hK9 => ?_)
        have HK9 := Lib.hid hK9
        clear hK9
        have hl9 := HMp.out
        go_simp
        refine HK9.out _ _ HS0.out ?_
        clear HK9 hl9
        simp only [List.setIfInBounds_toArray, List.set_cons_zero, List.set_cons_succ]
        refine wpAnyH_one (i := 5) (oi := ⟨some 24, _, _, _, _, _⟩) (by kernel_rfl) rfl (by rfl) (fun K9 hK9 => ?_)
        have HK9 := Lib.hid hK9
        clear hK9
        go_simp
        refine (part8_any w8.heap.size a w1 HCq.out HS0.out.2.1 HS0.out.2.2).mono ?_
        rintro e w2 ⟨v2, rfl, hs2, hb2⟩
        have HY2 := Lib.hid hs2
        clear hs2 HCq HMp
        dsimp only
        have HS1 := Lib.hid (HS0.out.below hb2)
        have HO1 := Lib.hid (own_below HO8.out hb2)
        have HI1 := Lib.hid ((hb2.block r HR8.out).trans HI8.out)
        have HD1 := Lib.hid (HD8.out.trans (hb2.mono HZ8.out))
        have HR1 := Lib.hid (Nat.lt_of_lt_of_le HR8.out hb2.size)
        have HZ1 := Lib.hid (Nat.le_trans HZ8.out hb2.size)
        clear HS0 HO8 HI8 HD8 HR8 HZ8 hb2
        have HS0 := HS1
        have HO8 := HO1
        have HI8 := HI1
        have HD8 := HD1
        have HR8 := HR1
        have HZ8 := HZ1
        clear HS1 HO1 HI1 HD1 HR1 HZ1
        refine HK9.out _ _ HS0.out ?_
        clear HK9
        simp only [List.setIfInBounds_toArray, List.set_cons_zero, List.set_cons_succ]
        refine wpAnyH_one (i := 6) (oi := ⟨some 25, _, _, _, _, _⟩) (by kernel_rfl) rfl (by rfl) (fun K9 hK9 => ?_)
        have HK9 := Lib.hid hK9
        clear hK9
        refine wp_appStrq g4 (.tmp 19) (.tmp 24) 65 9 rfl Tryz.underlying65 info_str u4 v2 LX _ LY HLY.out rfl rfl HO8.out HY2.out HZ8.out (by have := HLs.out; have := (part_sizes HS0.out.2.1 HM.out 109).1; omega) ?_
        intro vc wc ho hb hg
        have HO9 := Lib.hid ho.out
        have HD9 := Lib.hid (hb.out g4 w5 HD8.out (Nat.le_refl _))
        have HS9 := Lib.hid (show ActS g a wc from ⟨HS0.out.1.below (hb.out g4 w2 (Below.refl _ _) (Nat.le_refl _)) HXg.out, HA0.out.below (w' := wc) (by rw [HG.out]; exact HW5.out.trans (HD9.out.mono (Nat.le_of_lt HXg.out))), HT0.out.below (w' := wc) (by rw [HG.out]; exact HW5.out.trans (HD9.out.mono (Nat.le_of_lt HXg.out)))⟩)
        have HI9 := Lib.hid ((hg.out.block r HR8.out (own_not_iter HO8.out HI8.out).symm).trans HI8.out)
        clear ho hb hg HO8 HD8 HI8 HY2
        refine HK9.out _ _ HS9.out ?_
        clear HK9
        simp only [List.setIfInBounds_toArray, List.set_cons_zero, List.set_cons_succ]
        refine wpAnyH_take (i := 7) (oi := ⟨some 4, _, _, _, _, _⟩) (v := vc) rfl (by kernel_rfl) (by kernel_rfl) (by kernel_rfl) (fun _ _ _ h => h) (Or.inl ⟨by rfl, ?_⟩) HS9.out ?_
        · intro w hSw
          go_simp <;> with_reducible rfl
        dsimp only [Act.put]
        simp only [List.setIfInBounds_toArray, List.set_cons_zero, List.set_cons_succ]
        refine wpAnyH_done (by kernel_rfl) ?_ _
        go_wp2
        go_roundg gg
        case measure => omega
        case rel => exact ⟨k + 1, by show _ = _; have := HK.out; omega, HI9.out, by show World.ownsRow _ _ _ _ _ _ _; rw [HLe.out]; exact HO9.out, HD9.out⟩
      · obtain ⟨w6, hn, hi6, hb6, hq6, hz6⟩ := next_all (P := Tryz.prog) wr r s k 116 0 HI.out hc (by omega)
        have HI6 := Lib.hid hi6
        have HO6 := Lib.hid (own_same HO.out (fun j hj => hq6 j (fun e => own_not_iter HO.out HI.out (by rw [hj, e]))))
        have HD6 := Lib.hid (HBq.out.trans (hb6.mono (Nat.le_of_lt HL4.out)))
        have HR6 := Lib.hid (show r < w6.heap.size by rw [hz6]; exact HRl.out)
        clear hc hi6 hb6 hq6 hz6 HI HO HBq HRl
        have HS6 := Lib.hid (show ActS g a w6 from ⟨HX5.out.below HD6.out HXg.out, HA0.out.below (w' := w6) (by rw [HG.out]; exact HW5.out.trans (HD6.out.mono (Nat.le_of_lt HXg.out))), HT0.out.below (w' := w6) (by rw [HG.out]; exact HW5.out.trans (HD6.out.mono (Nat.le_of_lt HXg.out)))⟩)
        go_upto_region 6 with fail
        clear hn
        have HS0 := Lib.hid (show ActS g a w6.drew from HS6.out.below ((Below.refl _ _).drew))
        have HO8 := Lib.hid (show w6.drew.ownsRow g4 9 1 u4 LX.length (strsC LX) from HO6.out)
        have HI8 := Lib.hid (show w6.drew.heap[r]? = some (.stringIter s (k + 1)) from HI6.out)
        have HD8 := Lib.hid HD6.out.drew
        have HR8 := Lib.hid (show r < w6.drew.heap.size from HR6.out)
        have HZ8 := Lib.hid (show g4 ≤ w6.drew.heap.size from Nat.le_of_lt (Nat.lt_trans HL4.out HR6.out))
        clear HS6 HO6 HI6 HD6 HR6
        refine wp_region_H (ActS g a) (by kernel_rfl) ?_
        generalize World.drew _ = w8 at *
        simp only [List.size_toArray, List.length_cons, List.length_nil, Nat.reduceAdd, Array.replicate_succ, Array.replicate_zero, List.push_toArray, List.nil_append, List.cons_append]
        refine wpAnyH_take (i := 0) (oi := ⟨some 19, _, _, _, _, _⟩) (v := ?_) rfl (by kernel_rfl) (by kernel_rfl) (by kernel_rfl) (fun _ _ _ h => h) (Or.inl ⟨by rfl, ?_⟩) HS0.out ?_
        rotate_left
        · intro w hSw
          go_simp <;> with_reducible rfl
        dsimp only [Act.put]
        simp only [List.setIfInBounds_toArray, List.set_cons_zero, List.set_cons_succ]
        refine wpAnyH_take (i := 2) (oi := ⟨some 21, _, _, _, _, _⟩) (v := ?_) rfl (by kernel_rfl) (by kernel_rfl) (by kernel_rfl) (fun _ _ _ h => h) (Or.inl ⟨by rfl, ?_⟩) HS0.out ?_
        rotate_left
        · intro w hSw
          go_simp <;> with_reducible rfl
        dsimp only [Act.put]
        simp only [List.setIfInBounds_toArray, List.set_cons_zero, List.set_cons_succ]
        refine wpAnyH_take (i := 4) (oi := ⟨some 23, _, _, _, _, _⟩) rfl (by kernel_rfl) (by kernel_rfl) (by kernel_rfl) (fun _ _ _ h => h) (yieldsIf_load_mid (by rfl) 30 (.tmp 1) rfl (g) (0) rfl (a.cells) _ (fun w h => h.1.1.range) Tryz.underlying30 rfl (by rw [ActM.cells_len HA0.out]; exact size_act)) HS0.out ?_
        dsimp only [Act.put]
        simp only [List.setIfInBounds_toArray, List.set_cons_zero, List.set_cons_succ]
        refine wpAnyH_one (i := 1) (oi := ⟨some 20, _, _, _, _, _⟩) (by kernel_rfl) rfl (by rfl) (fun K9 hK9 => ?_)
        have HK9 := Lib.hid hK9
        clear hK9
        go_simp
        refine (parts_any w8).mono ?_
        rintro e w1 ⟨rfl, hm1, hc1, hb1⟩
        have HMp := Lib.hid (parts_at_t hm1)
        have HCq := Lib.hid hc1
        clear hm1 hc1
        dsimp only
        have HS1 := Lib.hid (HS0.out.below hb1)
        have HO1 := Lib.hid (own_below HO8.out hb1)
        have HI1 := Lib.hid ((hb1.block r HR8.out).trans HI8.out)
        have HD1 := Lib.hid (HD8.out.trans (hb1.mono HZ8.out))
        have HR1 := Lib.hid (Nat.lt_of_lt_of_le HR8.out hb1.size)
        have HZ1 := Lib.hid (Nat.le_trans HZ8.out hb1.size)
        clear HS0 HO8 HI8 HD8 HR8 HZ8 hb1
        have HS0 := HS1
        have HO8 := HO1
        have HI8 := HI1
        have HD8 := HD1
        have HR8 := HR1
        have HZ8 := HZ1
        clear HS1 HO1 HI1 HD1 HR1 HZ1
        refine HK9.out _ _ HS0.out ?_
        clear HK9
        simp only [List.setIfInBounds_toArray, List.set_cons_zero, List.set_cons_succ]
        refine wpAnyH_one (i := 3) (oi := ⟨some 22, _, _, _, _, _⟩) (by kernel_rfl) rfl (by rfl) (fun K9 hK9 => ?_)
        have HK9 := Lib.hid hK9
        clear hK9
        have hl9 := HMp.out
        go_simp
        refine HK9.out _ _ HS0.out ?_
        clear HK9 hl9
        simp only [List.setIfInBounds_toArray, List.set_cons_zero, List.set_cons_succ]
        refine wpAnyH_one (i := 5) (oi := ⟨some 24, _, _, _, _, _⟩) (by kernel_rfl) rfl (by rfl) (fun K9 hK9 => ?_)
        have HK9 := Lib.hid hK9
        clear hK9
        go_simp
        refine (part9_any a w1 HS0.out.2.1 (fun x hx => of_decide_eq_true (HM.out.2.2.2.2.2.2 x hx)) (Nat.le_trans HM.out.2.2.2.2.1 (by decide))).mono ?_
        rintro e w2 ⟨v2, rfl, hs2, hb2⟩
        have HY2 := Lib.hid hs2
        clear hs2 HCq HMp
        dsimp only
        have HS1 := Lib.hid (HS0.out.below hb2)
        have HO1 := Lib.hid (own_below HO8.out hb2)
        have HI1 := Lib.hid ((hb2.block r HR8.out).trans HI8.out)
        have HD1 := Lib.hid (HD8.out.trans (hb2.mono HZ8.out))
        have HR1 := Lib.hid (Nat.lt_of_lt_of_le HR8.out hb2.size)
        have HZ1 := Lib.hid (Nat.le_trans HZ8.out hb2.size)
        clear HS0 HO8 HI8 HD8 HR8 HZ8 hb2
        have HS0 := HS1
        have HO8 := HO1
        have HI8 := HI1
        have HD8 := HD1
        have HR8 := HR1
        have HZ8 := HZ1
        clear HS1 HO1 HI1 HD1 HR1 HZ1
        refine HK9.out _ _ HS0.out ?_
        clear HK9
        simp only [List.setIfInBounds_toArray, List.set_cons_zero, List.set_cons_succ]
        refine wpAnyH_one (i := 6) (oi := ⟨some 25, _, _, _, _, _⟩) (by kernel_rfl) rfl (by rfl) (fun K9 hK9 => ?_)
        have HK9 := Lib.hid hK9
        clear hK9
        refine wp_appStrq g4 (.tmp 19) (.tmp 24) 65 9 rfl Tryz.underlying65 info_str u4 v2 LX _ LY HLY.out rfl rfl HO8.out HY2.out HZ8.out (by have := HLs.out; have := (part_sizes HS0.out.2.1 HM.out 116).1; omega) ?_
        intro vc wc ho hb hg
        have HO9 := Lib.hid ho.out
        have HD9 := Lib.hid (hb.out g4 w5 HD8.out (Nat.le_refl _))
        have HS9 := Lib.hid (show ActS g a wc from ⟨HS0.out.1.below (hb.out g4 w2 (Below.refl _ _) (Nat.le_refl _)) HXg.out, HA0.out.below (w' := wc) (by rw [HG.out]; exact HW5.out.trans (HD9.out.mono (Nat.le_of_lt HXg.out))), HT0.out.below (w' := wc) (by rw [HG.out]; exact HW5.out.trans (HD9.out.mono (Nat.le_of_lt HXg.out)))⟩)
        have HI9 := Lib.hid ((hg.out.block r HR8.out (own_not_iter HO8.out HI8.out).symm).trans HI8.out)
        clear ho hb hg HO8 HD8 HI8 HY2
        refine HK9.out _ _ HS9.out ?_
        clear HK9
        simp only [List.setIfInBounds_toArray, List.set_cons_zero, List.set_cons_succ]
        refine wpAnyH_take (i := 7) (oi := ⟨some 4, _, _, _, _, _⟩) (v := vc) rfl (by kernel_rfl) (by kernel_rfl) (by kernel_rfl) (fun _ _ _ h => h) (Or.inl ⟨by rfl, ?_⟩) HS9.out ?_
        · intro w hSw
          go_simp <;> with_reducible rfl
        dsimp only [Act.put]
        simp only [List.setIfInBounds_toArray, List.set_cons_zero, List.set_cons_succ]
        refine wpAnyH_done (by kernel_rfl) ?_ _
        go_wp2
        go_roundg gg
        case measure => omega
        case rel => exact ⟨k + 1, by show _ = _; have := HK.out; omega, HI9.out, by show World.ownsRow _ _ _ _ _ _ _; rw [HLe.out]; exact HO9.out, HD9.out⟩
end Go.Proofs.YtnohfondkcbdnaaGreatDoor
