/- merkle.way. -/
import Derived.Test.YtbaepjhbpmhmgaaG19
import Derived.WalkMore
import Derived.BigQuiet
import Derived.LaidEqlPtr
import Derived.Test.YtbaepjhbpmhmgaaG04
import Derived.Laws.IdiomStrings
import Derived.Laws.BytesArg
import Derived.Laws.StructEq
import Derived.Test.YtbaepjhbpmhmgaaG16
namespace Go.Proofs.Ytbaepjhbpmhmgaa
open Go.RowKit Go.Lib
set_option linter.unusedVariables false
set_option linter.unusedSimpArgs false
attribute [local go_sem ↓] Go.wp_at_zero Go.wp_at_succ

theorem PaAt.push {v6 v7 : Value} {w3 w4 : World} (hk : Kept (Off v6) w3 w4) (hoff : ∀ k, k < w3.heap.size → Off v6 k → Off v7 k) {p : Pa} {bs : List Nat} (h : PaAt (Off v6) w3 p bs) : PaAt (Off v7) w4 p bs :=
  PaAt.imp (C := fun k => k < w3.heap.size ∧ Off v6 k) (fun k _ hC => hoff k hC.1 hC.2) (PaAt.kept (Kept.lt (v7 := v7) hk) (PaAt.imp (fun k hk hC => ⟨hk, hC⟩) h))
/-- A way, the places that lie, and the row of them, from below. -/
structure InW (w1 wq : World) (gp : Nat) (pc : List Value) (v6 : Value) (bs : List Nat) (p : Pa) : Prop where
  own : wq.ownsRow w1.heap.size 77 1 v6 bs.reverse.length (bs.reverse.map ptr)
  pa : PaAt (Off v6) wq p bs
  path : Arr wq gp 29 pc
  pl : gp < w1.heap.size
  below : Below w1.heap.size w1 wq
theorem InW.next {w1 wr w3 w4 : World} {gp : Nat} {pc : List Value} {v6 v7 : Value} {bs Z : List Nat} {p p' : Pa} {b : Nat} (h : InW w1 wr gp pc v6 bs p) (h3 : Below wr.heap.size wr w3) (hpa : PaAt (Off v6) w3 p' (b :: bs))
    (hZ : bs.reverse ++ [b] = Z) (hown : w4.ownsRow w1.heap.size 77 1 v7 Z.length (Z.map ptr)) (hb : ∀ B w9, Below B w9 w3 → B ≤ w1.heap.size → Below B w9 w4) (hk : Kept (Off v6) w3 w4) (hoff : ∀ k, k < w3.heap.size → Off v6 k → Off v7 k) :
    InW w1 w4 gp pc v7 (b :: bs) p' := by
  have hb3 : Below w1.heap.size w1 w3 := h.below.trans (h3.mono h.below.size)
  have hb4 := hb _ _ hb3 (Nat.le_refl _)
  have hp4 : Below w1.heap.size wr w4 := hb w1.heap.size wr (h3.mono h.below.size) (Nat.le_refl _)
  refine ⟨by rw [List.reverse_cons, hZ]; exact hown, PaAt.push hk hoff hpa, h.path.below hp4 h.pl, h.pl, hb4⟩
theorem InW.keep {w1 wr w3 : World} {gp : Nat} {pc : List Value} {v6 : Value} {bs : List Nat} {p : Pa} (h : InW w1 wr gp pc v6 bs p) (h3 : Below wr.heap.size wr w3) : InW w1 w3 gp pc v6 bs p :=
  ⟨own_below h.own h3, h.pa.below h3, h.path.below h3 h.path.lt, h.pl, h.below.trans (h3.mono h.below.size)⟩
theorem own_less {w : World} {base base' : Nat} {e : TypeId} {size n : Nat} {v : Value} {xs : List Value} (h : w.ownsRow base e size v n xs) (hb : base' ≤ base) : w.ownsRow base' e size v n xs := by
  refine ⟨h.1, h.2.imp id ?_⟩
  rintro ⟨g, cap, cur, h1, h2, h3⟩
  exact ⟨g, cap, cur, h1, Nat.le_trans hb h2, h3⟩
/-- The block of a way's upper end. -/
theorem PaAt.hd {C : Nat → Prop} {w : World} {p : Pa} {b : Nat} {r : List Nat} (h : PaAt C w p (b :: r)) : HdAt w b p.h := by
  obtain ⟨b', r', ks, e, hn⟩ := h.nd
  cases e
  exact hn.hd
theorem beside_made (w : World) (H : List Nat) (hH : IsH H) (x y : Value) : HdAt (w.alloc (.cells (bys H ++ [x, y]).toArray 80)) w.heap.size H := by
  have ha := Arr.made w 80 (bys H ++ [x, y])
  refine ⟨fun j u hu => ?_, hH, ha.lt⟩
  rw [Nat.zero_add, ha.cell, List.getElem?_append_left (List.getElem?_eq_some_iff.1 hu).1]; exact hu

set_option maxRecDepth 100000 in
set_option maxHeartbeats 3200000 in
theorem way_any (I : List Nat) (hI : IsH I) (n c : Nat) (v : Value) (Hs : List (List Nat)) (w : World) (hn : n < c) (hc : c ≤ 1048576) (hs : Hs.length = sizeUp n c) (hv : HsIs w v Hs) :
    Calls Try.prog 37 #[.agg (bys I).toArray, .agg #[.int .i64 (n : Int), .int .i64 (c : Int), v]] w fun e w' =>
      ∃ v' bs, e = .returned v' ∧ bs.length ≤ 1048600 ∧ w'.ownsRow w.heap.size 77 1 v' bs.reverse.length (bs.reverse.map ptr) ∧ PaAt (Off v') w' (.top c (leadUp [] Pa.kl Pa.kr (.leaf I) n c Hs)) bs ∧ Below w.heap.size w w' := by
  obtain ⟨a0, c0, rfl⟩ := hv.form
  have HV := Lib.hid hv
  have HI := Lib.hid hI
  have HN := Lib.hid (And.intro hn (And.intro hc hs))
  clear hv hn hc hI hs
  go_enter Try.func37, Try.ntmps37
  go_upto_region 1 with fail
  have hpk := two w (.cells (bys I).toArray 24) (.cells #[.int .i64 (n : Int), .int .i64 (c : Int), .slice a0 Hs.length c0] 29)
  have HA1 := Lib.hid (show Arr _ w.heap.size 24 (bys I) from hpk.1)
  have HA2 := Lib.hid (show Arr _ (w.heap.size + 1) 29 [.int .i64 (n : Int), .int .i64 (c : Int), .slice a0 Hs.length c0] from hpk.2.1)
  have HSz := Lib.hid hpk.2.2.1
  have HB1 := Lib.hid hpk.2.2.2
  clear hpk
  generalize World.alloc (World.alloc _ _) _ = w1 at *
  have HSh := Lib.hid (size_hash I HI.out.1)
  go_step
  refine wpList_load_mid (P := Try.prog) rfl 24 _ rfl w.heap.size 0 rfl _ _ HA1.out.range Try.underlying24 rfl HSh.out ?_
  go_wp2_with fail
  refine (leafNode_any I HI.out w1).mono ?_
  rintro e w2 ⟨b0, rfl, hnd, hb2⟩
  unfold ptr
  dsimp only
  have hal := Arr.made w2 77 [.pointer (some ⟨b0, 0, none⟩)]
  have hba : Below w2.heap.size w2 (w2.alloc (.cells [Value.pointer (some ⟨b0, 0, none⟩)].toArray 77)) := (Below.refl _ _).alloc (Nat.le_refl _) _
  have hin : InW w1 (w2.alloc (.cells [Value.pointer (some ⟨b0, 0, none⟩)].toArray 77)) (w.heap.size + 1) [.int .i64 (n : Int), .int .i64 (c : Int), .slice a0 Hs.length c0] (.slice (some ⟨w2.heap.size, 0, none⟩) 1 1) [b0] (.leaf I) := by
    have h12 := hb2.trans (hba.mono hb2.size)
    refine ⟨⟨rfl, .inr ⟨_, 1, _, rfl, hb2.size, hal, Nat.le_refl _, by unfold maxLen; omega, rfl, rfl⟩⟩, ⟨b0, rfl, (hnd.imp (C' := Off (.slice (some ⟨w2.heap.size, 0, none⟩) 1 1)) (fun k hk _ => ?_)).below hba⟩, HA2.out.below h12 HA2.out.lt, HA2.out.lt, h12⟩
    intro e
    simp only [Value.ownBlock, Option.some.injEq] at e
    omega
  have HIn := Lib.hid hin
  clear hal hba hin hnd hb2
  go_upto_region 3 with fail
  generalize w2.heap.size = g6 at *
  generalize World.alloc _ _ = w3 at *
  have hc0 := HIn.out.path.cell 0
  have hc1 := HIn.out.path.cell 1
  have hc2 := HIn.out.path.cell 2
  dsimp only [List.getElem?_cons_zero, List.getElem?_cons_succ] at hc0 hc1 hc2
  go_upto_region 4 with fail
  go_quiet (fail)
  rename_i nq
  have HIq := Lib.hid (HIn.out.keep (below_drewN (Below.refl _ _) nq))
  clear hc0 hc1 hc2 HIn
  generalize World.drewN _ _ = w4 at HIq ⊢
  go_wp2
  go_loopg [5, 6, 7, 8, 9] c (fun g v5 v6 v7 v8 v9 wq => ∃ (n1 c1 : Nat) (R : List (List Nat)) (p : Pa) (b : Nat) (r : List Nat), v5 = .pointer (some ⟨b, 0, none⟩) ∧ Hid (HsIs w v7 R) ∧ v8 = .int .i64 (n1 : Int) ∧ v9 = .int .i64 (c1 : Int) ∧ c1 = g ∧ Hid (n1 < c1 ∧ c1 ≤ 1048576 ∧ R.length = sizeUp n1 c1) ∧ Hid (leadUp [] Pa.kl Pa.kr p n1 c1 R = leadUp [] Pa.kl Pa.kr (.leaf I) n c Hs) ∧ Hid (r.length + c1 ≤ c + 1) ∧ Hid (InW w1 wq (w.heap.size + 1) [.int .i64 (n : Int), .int .i64 (c : Int), .slice a0 Hs.length c0] v6 (b :: r) p))
  case atStart => exact ⟨n, c, Hs, .leaf I, b0, [], rfl, HV.out, rfl, rfl, rfl, HN.out, rfl, by show _ ≤ _; simp, HIq.out⟩
  case round =>
    obtain ⟨n1, c1, R, p, b, r, rfl, h1, rfl, rfl, rfl, h2, h3, h4, h5⟩ := hrel
    have HVr := Lib.hid h1.out
    have HR := Lib.hid h2.out
    have HLd := Lib.hid h3.out
    have HLen := Lib.hid h4.out
    have HIw := Lib.hid h5.out
    clear h1 h2 h3 h4 h5 HIq HA1 HA2
    obtain ⟨a9, c9, rfl⟩ := HVr.out.form
    by_cases hc : c1 ≤ 1
    · have hlt : ¬ (1 : Int) < (c1 : Int) := by omega
      have hl := HLd.out
      rw [leadUp, if_pos hc] at hl
      have HU := Lib.hid hl
      have hc1 := HIw.out.path.cell 1
      dsimp only [List.getElem?_cons_zero, List.getElem?_cons_succ] at hc1
      have HHd := Lib.hid HIw.out.pa.hd
      have HNc := Lib.hid (show c ≤ 1152921504606846976 by have := HN.out; omega)
      clear hl hc
      go_wp2_with fail
      refine (topNode_any c p.h b wr HNc.out HHd.out).mono ?_
      rintro e w5 ⟨b9, rfl, hnd, hb3⟩
      unfold ptr
      dsimp only
      have hal := Arr.made w5 77 [.pointer (some ⟨b9, 0, none⟩)]
      have hba : Below w5.heap.size w5 (w5.alloc (.cells [Value.pointer (some ⟨b9, 0, none⟩)].toArray 77)) := (Below.refl _ _).alloc (Nat.le_refl _) _
      have hbr := hb3.trans (hba.mono hb3.size)
      have hpa : PaAt (Off u6) w5 (.top c p) (b9 :: b :: r) := ⟨b9, b, r, rfl, hnd.imp (fun k _ hk => off_new HIw.out.own k hk), HIw.out.pa.below hb3⟩
      obtain ⟨Z, hZ⟩ : ∃ Z, (b :: r).reverse ++ [b9] = Z := ⟨_, rfl⟩
      have HZZ := Lib.hid hZ
      have HAl3 := Lib.hid (hal.cell 0)
      have HPa := Lib.hid (hpa.below hba)
      have HBr := Lib.hid hbr
      have HO5 := Lib.hid (own_below HIw.out.own hbr)
      have HSz5 := Lib.hid (Nat.le_trans HIw.out.below.size hbr.size)
      have HX6 := Lib.hid (show (b :: r).reverse.length + 1 ≤ 1000000000000 by rw [List.length_reverse, List.length_cons]; have := HLen.out; have := HN.out; omega)
      clear hal hba hbr hpa hZ hnd hb3 hc1 HHd
      go_wp2_with (at_builtin; refine appN w1.heap.size rfl (.tmp 52) (.tmp 57) rfl u6 (b :: r).reverse Z b9 HZZ.out rfl w5.heap.size rfl HAl3.out HO5.out HSz5.out HX6.out ?_)
      intro v7 w6 ho4 hb4 hk4 hf4
      have HI7 := Lib.hid (HIw.out.next HBr.out HPa.out HZZ.out ho4.out hb4.out hk4.out (fun k hk => hf4.out k (by simpa using hk)))
      clear ho4 hb4 hk4 hf4 HO5 HBr HPa HIw
      go_wp2
      go_ret
      refine ⟨v7, b9 :: b :: r, rfl, by rw [List.length_cons, List.length_cons]; have := HLen.out; have := HN.out; omega, own_less HI7.out.own HB1.out.size, ?_, HB1.out.trans (HI7.out.below.mono HB1.out.size)⟩
      rw [← HU.out]
      exact HI7.out.pa
    · have hlt : (1 : Int) < (c1 : Int) := by omega
      have hx := xor_one n1 (by have := HR.out; omega)
      by_cases hs : c1 ≤ sib n1
      · have hs2 : ((c1 : Int) ≤ (sib n1 : Int)) := by omega
        have hl := HLd.out
        rw [leadUp, if_neg hc, if_pos hs] at hl
        have hu := HR.out.2.2
        rw [sizeUp, if_neg hc, if_neg (by omega)] at hu
        have Hl := Lib.hid hl
        have Hu := Lib.hid (show R.length = sizeUp (n1 / 2) ((c1 + 1) / 2) by omega)
        clear hl hu
        go_wp2
        go_roundg ((c1 + 1) / 2)
        case measure => omega
        case rel =>
          have h := HR.out
          exact ⟨n1 / 2, (c1 + 1) / 2, R, p, b, r, rfl, HVr.out, congrArg (Value.int .i64) (w64_half n1 (by omega)), congrArg (Value.int .i64) (w64_up c1 (by omega)), rfl, ⟨by omega, by omega, Hu.out⟩, Hl.out, by show _ ≤ _; have := HLen.out; omega, HIw.out⟩
      · have hs2 : ¬ ((c1 : Int) ≤ (sib n1 : Int)) := by omega
        have ha := and_one n1 (by have := HR.out; omega)
        have hu := HR.out.2.2
        rw [sizeUp, if_neg hc, if_pos (by omega)] at hu
        cases R with
        | nil => rw [List.length_nil] at hu; omega
        | cons H0 R0 =>
        have hH0 := HVr.out.1 H0 (by simp)
        have hV0 := HVr.out
        rcases HVr.out.2 with ⟨_, h0⟩ | ⟨b8, off, c8, e1, q1, q2, q3⟩
        · cases h0
        cases e1
        have h0 := q3 0 (by simp)
        rw [show off + 0 * 32 = off by omega] at h0
        have hr0 : w.rangeAt b8 off (bys H0) := h0
        have hbw : Below w.heap.size w wr := HB1.out.trans (HIw.out.below.mono HB1.out.size)
        have hb8 : b8 < w.heap.size := World.block_lt_of_cell? w _ (hr0 0 _ (bys_get _ 0 (by rw [hH0.1]; omega)))
        have HRw := Lib.hid (rangeAt_below hr0 hbw hb8)
        have HSh0 := Lib.hid (size_hash H0 hH0.1)
        have HH0 := Lib.hid hH0
        have Hu := Lib.hid (show R0.length = sizeUp (n1 / 2) ((c1 + 1) / 2) by rw [List.length_cons] at hu; omega)
        have HV0 := Lib.hid (hs_tail hV0)
        obtain ⟨C, hC⟩ : ∃ C, C = bys H0 ++ [Value.slice none 0 0, Value.slice none 0 0] := ⟨_, rfl⟩
        have hbd := node_build0 H0 hH0.1 wr
        have hbm := beside_made wr H0 hH0 (.slice none 0 0) (.slice none 0 0)
        rw [← hC] at hbd hbm
        have HBd := Lib.hid hbd
        have HBm := Lib.hid hbm
        have HBa := Lib.hid (show Below wr.heap.size wr (wr.alloc (.cells C.toArray 80)) from (Below.refl _ _).alloc (Nat.le_refl _) _)
        clear hC hbd hbm hr0 hbw hb8 hH0 h0 q2 q3 hu hV0
        go_upto_region 8 with fail
        go_step
        iterate 6 (first | go_values | go_skip | go_guarded | go_step | go_upon)
        refine wpList_load_mid (P := Try.prog) rfl 24 _ rfl b8 off rfl _ _ HRw.out Try.underlying24 rfl HSh0.out ?_
        iterate 1 (first | go_values | go_skip | go_guarded | go_step | go_upon)
        refine wp_build_run (P := Try.prog) 80 _ rfl #[(0, .agg (bys H0).toArray)] (by simp [Act.eval, Act.put]) _ HBd.out ?_
        go_upto_region 9 with fail
        have HHd := Lib.hid (HIw.out.keep HBa.out).pa.hd
        have HIw7 := Lib.hid (HIw.out.keep HBa.out)
        have HGb := Lib.hid (show wr.heap.size ≠ b by have := HIw.out.pa.hd.2.2; omega)
        have HBe := Lib.hid HBm.out
        have HLv := Lib.hid (show Lv (Off u6) (wr.alloc (.cells C.toArray 80)) wr.heap.size from ⟨off_new HIw.out.own _ (Nat.le_refl _), _, _, heap_alloc_last wr _⟩)
        clear HBd HBm HRw HIw
        obtain ⟨g7, hg7⟩ : ∃ g7, wr.heap.size = g7 := ⟨_, rfl⟩
        rw [hg7] at HGb HBe HLv ⊢
        clear HBa hg7
        generalize World.alloc _ _ = w7 at *
        have hif : (1 : Int) ≤ (R0.length : Int) + 1 := by omega
        have hcap : R0.length + 1 ≤ c9 := q1
        go_upto_region 10 with fail
        clear hif hcap
        obtain ⟨V9, hV9⟩ : ∃ V9, V9 = Value.slice (if c9 = 1 then some ⟨b8, off, none⟩ else some ⟨b8, off + 32, none⟩) R0.length (c9 - 1) := ⟨_, rfl⟩
        rw [← hV9] at HV0 ⊢
        clear hV9
        by_cases ho : n1 % 2 = 1
        · rw [ho] at ha
          have hl := HLd.out
          rw [leadUp, if_neg hc, if_neg hs, if_pos ho, show List.headD (H0 :: R0) [] = H0 from rfl, show List.tail (H0 :: R0) = R0 from rfl] at hl
          have Hl := Lib.hid hl
          clear hl hx hc hs ho
          go_wp2_with fail
          refine (knotNode_any H0 p.h g7 b w7 HBe.out HHd.out).mono ?_
          rintro e w5 ⟨b9, rfl, hnd, hb3⟩
          unfold ptr
          dsimp only
          have hal := Arr.made w5 77 [.pointer (some ⟨b9, 0, none⟩)]
          have hba : Below w5.heap.size w5 (w5.alloc (.cells [Value.pointer (some ⟨b9, 0, none⟩)].toArray 77)) := (Below.refl _ _).alloc (Nat.le_refl _) _
          have hbr := hb3.trans (hba.mono hb3.size)
          have hpa : PaAt (Off u6) w5 (.kr H0 p) (b9 :: b :: r) := ⟨b9, b, r, g7, rfl, hnd.imp (fun k _ hk => off_new HIw7.out.own k hk), ⟨HGb.out, HLv.out.below hb3⟩, HIw7.out.pa.below hb3⟩
          obtain ⟨Z, hZ⟩ : ∃ Z, (b :: r).reverse ++ [b9] = Z := ⟨_, rfl⟩
          have HZZ := Lib.hid hZ
          have HAl3 := Lib.hid (hal.cell 0)
          have HPa := Lib.hid (hpa.below hba)
          have HBr := Lib.hid hbr
          have HO5 := Lib.hid (own_below HIw7.out.own hbr)
          have HSz5 := Lib.hid (Nat.le_trans HIw7.out.below.size hbr.size)
          have HX6 := Lib.hid (show (b :: r).reverse.length + 1 ≤ 1000000000000 by rw [List.length_reverse, List.length_cons]; have := HLen.out; have := HN.out; omega)
          clear hal hba hbr hpa hZ hnd hb3 HHd HBe HGb
          go_wp2_with (at_builtin; refine appN w1.heap.size rfl (.tmp 48) (.tmp 50) rfl u6 (b :: r).reverse Z b9 HZZ.out rfl w5.heap.size rfl HAl3.out HO5.out HSz5.out HX6.out ?_)
          intro v7 w6 ho4 hb4 hk4 hf4
          have HI7 := Lib.hid (HIw7.out.next HBr.out HPa.out HZZ.out ho4.out hb4.out hk4.out (fun k hk => hf4.out k (by simpa using hk)))
          clear ho4 hb4 hk4 hf4 HO5 HBr HPa HIw7
          go_wp2
          go_roundg ((c1 + 1) / 2)
          case measure => omega
          case rel =>
            have h := HR.out
            exact ⟨n1 / 2, (c1 + 1) / 2, R0, .kr H0 p, b9, b :: r, rfl, HV0.out, congrArg (Value.int .i64) (w64_half n1 (by omega)), congrArg (Value.int .i64) (w64_up c1 (by omega)), rfl, ⟨by omega, by omega, Hu.out⟩, Hl.out, by show _ ≤ _; rw [List.length_cons]; have := HLen.out; omega, HI7.out⟩
        · rw [show n1 % 2 = 0 by omega] at ha
          have hl := HLd.out
          rw [leadUp, if_neg hc, if_neg hs, if_neg ho, show List.headD (H0 :: R0) [] = H0 from rfl, show List.tail (H0 :: R0) = R0 from rfl] at hl
          have Hl := Lib.hid hl
          clear hl hx hc hs ho
          go_wp2_with fail
          refine (knotNode_any p.h H0 b g7 w7 HHd.out HBe.out).mono ?_
          rintro e w5 ⟨b9, rfl, hnd, hb3⟩
          unfold ptr
          dsimp only
          have hal := Arr.made w5 77 [.pointer (some ⟨b9, 0, none⟩)]
          have hba : Below w5.heap.size w5 (w5.alloc (.cells [Value.pointer (some ⟨b9, 0, none⟩)].toArray 77)) := (Below.refl _ _).alloc (Nat.le_refl _) _
          have hbr := hb3.trans (hba.mono hb3.size)
          have hpa : PaAt (Off u6) w5 (.kl p H0) (b9 :: b :: r) := ⟨b9, b, r, g7, rfl, hnd.imp (fun k _ hk => off_new HIw7.out.own k hk), HGb.out, HIw7.out.pa.below hb3⟩
          obtain ⟨Z, hZ⟩ : ∃ Z, (b :: r).reverse ++ [b9] = Z := ⟨_, rfl⟩
          have HZZ := Lib.hid hZ
          have HAl3 := Lib.hid (hal.cell 0)
          have HPa := Lib.hid (hpa.below hba)
          have HBr := Lib.hid hbr
          have HO5 := Lib.hid (own_below HIw7.out.own hbr)
          have HSz5 := Lib.hid (Nat.le_trans HIw7.out.below.size hbr.size)
          have HX6 := Lib.hid (show (b :: r).reverse.length + 1 ≤ 1000000000000 by rw [List.length_reverse, List.length_cons]; have := HLen.out; have := HN.out; omega)
          clear hal hba hbr hpa hZ hnd hb3 HHd HBe HGb
          go_wp2_with (at_builtin; refine appN w1.heap.size rfl (.tmp 48) (.tmp 50) rfl u6 (b :: r).reverse Z b9 HZZ.out rfl w5.heap.size rfl HAl3.out HO5.out HSz5.out HX6.out ?_)
          intro v7 w6 ho4 hb4 hk4 hf4
          have HI7 := Lib.hid (HIw7.out.next HBr.out HPa.out HZZ.out ho4.out hb4.out hk4.out (fun k hk => hf4.out k (by simpa using hk)))
          clear ho4 hb4 hk4 hf4 HO5 HBr HPa HIw7
          go_wp2
          go_roundg ((c1 + 1) / 2)
          case measure => omega
          case rel =>
            have h := HR.out
            exact ⟨n1 / 2, (c1 + 1) / 2, R0, .kl p H0, b9, b :: r, rfl, HV0.out, congrArg (Value.int .i64) (w64_half n1 (by omega)), congrArg (Value.int .i64) (w64_up c1 (by omega)), rfl, ⟨by omega, by omega, Hu.out⟩, Hl.out, by show _ ≤ _; rw [List.length_cons]; have := HLen.out; omega, HI7.out⟩
end Go.Proofs.Ytbaepjhbpmhmgaa
/- slices.Reverse of a row of nodes. -/
namespace Go.Proofs.Ytbaepjhbpmhmgaa
open Go.RowKit Go.Lib
set_option linter.unusedVariables false
set_option linter.unusedSimpArgs false
attribute [local go_sem ↓] Go.wp_at_zero Go.wp_at_succ

theorem kept_set (w : World) (g j : Nat) (u : Value) {n c : Nat} : Kept (Off (.slice (some ⟨g, 0, none⟩) n c)) w (w.setCell ⟨g, j, none⟩ u) := by
  refine ⟨((Below.refl 0 w).setCell (p := ⟨g, j, none⟩) (Nat.zero_le _) u).size, fun k _ hk => heap_setCell_other w ⟨g, j, none⟩ k u (fun e => hk (by rw [e]; rfl))⟩

set_option maxRecDepth 100000 in
set_option maxHeartbeats 1600000 in
theorem reverse_any (base : Nat) (v : Value) (bs : List Nat) (w : World) (ho : w.ownsRow base 77 1 v bs.length (bs.map ptr)) (hne : bs ≠ []) (hl : bs.length ≤ 1000000000) :
    Calls Try.prog 38 #[v] w fun e w' => e = .returned (.tuple #[]) ∧ w'.ownsRow base 77 1 v bs.reverse.length (bs.reverse.map ptr) ∧ Kept (Off v) w w' ∧ Below base w w' := by
  obtain ⟨g0, cap, cur, rfl, hgb, hga, hnc, hcm, hcs, htk⟩ := ho.2.resolve_left (fun h => hne (List.eq_nil_of_length_eq_zero h.2))
  have hlen := ho.1
  have ha : Arr w g0 77 cur.toList := by unfold Arr; rw [hga]
  rw [Nat.mul_one] at htk hcs
  have HGb := Lib.hid hgb
  have HLl := Lib.hid hl
  have HNe := Lib.hid hne
  have HCap := Lib.hid (And.intro hnc hcm)
  have HA0 := Lib.hid (show Arr w g0 77 cur.toList ∧ cur.toList.length = cap from ⟨ha, by rw [Array.length_toList]; exact hcs⟩)
  have HC0 := Lib.hid (show ∀ j, j < bs.length → cur.toList[j]? = some (ptr (if j < 0 ∨ bs.length ≤ j + 0 then bs.getD (bs.length - 1 - j) 0 else bs.getD j 0)) from fun j hj => by
    rw [if_neg (by omega)]
    have h9 : (cur.toList.take bs.length)[j]? = (bs.map ptr)[j]? := by rw [htk]
    rw [List.getElem?_take_of_lt hj, List.getElem?_map] at h9
    rw [h9]
    simp [List.getElem?_eq_getElem hj])
  clear ho hne hgb hga hnc hcm hcs htk hl hlen ha
  obtain ⟨m, hm⟩ : ∃ m : Int, ((bs.length : Nat) : Int) - 1 = m := ⟨_, rfl⟩
  have hwm : IntKind.i64.wrap ((bs.length : Nat) - 1 : Int) = m := by rw [IntKind.wrap_i64]; have := HLl.out; omega
  have HM := Lib.hid hm
  clear hm
  go_enter Try.func38, Try.ntmps38
  go_wp2
  clear hwm
  go_loopg [2, 3] bs.length (fun g v2 v3 wq => ∃ (k : Nat) (L : List Value), Hid (g + k = bs.length) ∧ v2 = .int .i64 (k : Int) ∧ v3 = .int .i64 (m - (k : Int)) ∧ Hid (Arr wq g0 77 L ∧ L.length = cap) ∧ Hid (∀ j, j < bs.length → L[j]? = some (ptr (if j < k ∨ bs.length ≤ j + k then bs.getD (bs.length - 1 - j) 0 else bs.getD j 0))) ∧ Hid (Below base w wq) ∧ Hid (Kept (Off (.slice (some ⟨g0, 0, none⟩) bs.length cap)) w wq))
  case atStart => exact ⟨0, _, rfl, rfl, congrArg (Value.int .i64) (by omega), HA0.out, HC0.out, Below.refl _ _, ⟨Nat.le_refl _, fun _ _ _ => rfl⟩⟩
  case round =>
    obtain ⟨k, L, hk, rfl, rfl, ha, hc, hb, hkp⟩ := hrel
    have HK := Lib.hid hk.out
    have HAq := Lib.hid ha.out.1
    have HLc := Lib.hid ha.out.2
    have HC := Lib.hid hc.out
    have HB := Lib.hid hb.out
    have HKp := Lib.hid hkp.out
    clear hk ha hc hb hkp HA0 HC0
    obtain ⟨z, hz⟩ : ∃ z : Int, (k : Int) = z := ⟨_, rfl⟩
    rw [hz]
    obtain ⟨zz, hzz⟩ : ∃ zz : Int, m - z = zz := ⟨_, rfl⟩
    rw [hzz]
    have hm := HM.out
    have hll := HLl.out
    by_cases hcd : z < zz
    · have h1 := HC.out k (by omega)
      rw [if_neg (by omega), show k = z.toNat by omega] at h1
      have h2 := HC.out zz.toNat (by omega)
      rw [if_neg (by omega)] at h2
      obtain ⟨b1, hb1⟩ : ∃ b1, bs.getD z.toNat 0 = b1 := ⟨_, rfl⟩
      obtain ⟨b2, hb2⟩ : ∃ b2, bs.getD zz.toNat 0 = b2 := ⟨_, rfl⟩
      rw [hb1] at h1
      rw [hb2] at h2
      unfold ptr at h1 h2
      have HS0 := Lib.hid (show wr.drew.cell? ⟨g0, z.toNat, none⟩ = some (.pointer (some ⟨b1, 0, none⟩)) ∧ wr.drew.cell? ⟨g0, zz.toNat, none⟩ = some (.pointer (some ⟨b2, 0, none⟩)) from ⟨(HAq.out.cell z.toNat).trans h1, (HAq.out.cell zz.toNat).trans h2⟩)
      have HF := Lib.hid (show wr.drew.frozen? ⟨g0, z.toNat, none⟩ = false ∧ wr.drew.frozen? ⟨g0, zz.toNat, none⟩ = false from ⟨HAq.out.frozen z.toNat, HAq.out.frozen zz.toNat⟩)
      have HLn := Lib.hid (show zz.toNat < L.length from (List.getElem?_eq_some_iff.1 h2).1)
      have iz : 0 ≤ z := by omega
      have izz : 0 ≤ zz := by omega
      have lz : z < (bs.length : Int) := by omega
      have lzz : zz < (bs.length : Int) := by omega
      have HBb1 := Lib.hid hb1
      have HBb2 := Lib.hid hb2
      have HZ := Lib.hid hz
      have HZZ := Lib.hid hzz
      clear h1 h2 hb1 hb2 hz hzz
      go_upto_region 3 with fail
      refine wp_region_U (fun w' => w'.cell? ⟨g0, z.toNat, none⟩ = some (.pointer (some ⟨b1, 0, none⟩)) ∧ w'.cell? ⟨g0, zz.toNat, none⟩ = some (.pointer (some ⟨b2, 0, none⟩))) 13 (by kernel_rfl) ?_
      have HAd := Lib.hid (show Arr wr.drew g0 77 L from HAq.out)
      have HBd := Lib.hid HB.out.drew
      have HKd := Lib.hid (show Kept (Off (.slice (some ⟨g0, 0, none⟩) bs.length cap)) w wr.drew from HKp.out)
      clear HAq HB HKp
      generalize wr.drew = wd at *
      simp only [List.size_toArray, List.length_cons, List.length_nil, Nat.reduceAdd, Array.replicate_succ, Array.replicate_zero, List.push_toArray, List.nil_append, List.cons_append]
      refine wpAnyU_take0 (i := 0) (oi := ⟨some 14, _, _, _, _, _⟩) (v := ?_) rfl (by kernel_rfl) (by kernel_rfl) (by kernel_rfl) (by decide) (fun _ _ _ h => h) (Or.inl ⟨by rfl, ?_⟩) (fun _ => HS0.out) ?_
      rotate_left
      · intro w hSw; go_simp <;> with_reducible rfl
      dsimp only [Act.put]
      simp only [List.setIfInBounds_toArray, List.set_cons_zero, List.set_cons_succ]
      refine wpAnyU_take0 (i := 1) (oi := ⟨some 15, _, _, _, _, _⟩) (v := ?_) rfl (by kernel_rfl) (by kernel_rfl) (by kernel_rfl) (by decide) (fun _ _ _ h => h) (Or.inl ⟨by rfl, ?_⟩) (fun _ => HS0.out) ?_
      rotate_left
      · intro w hSw; go_simp <;> with_reducible rfl
      dsimp only [Act.put]
      simp only [List.setIfInBounds_toArray, List.set_cons_zero, List.set_cons_succ]
      refine wpAnyU_take0 (i := 2) (oi := ⟨some 16, _, _, _, _, _⟩) (v := ?_) rfl (by kernel_rfl) (by kernel_rfl) (by kernel_rfl) (by decide) (fun _ _ _ h => h) (Or.inl ⟨by rfl, ?_⟩) (fun _ => HS0.out) ?_
      rotate_left
      · intro w hSw; go_simp <;> with_reducible rfl
      dsimp only [Act.put]
      simp only [List.setIfInBounds_toArray, List.set_cons_zero, List.set_cons_succ]
      refine wpAnyU_take0 (i := 3) (oi := ⟨some 17, _, _, _, _, _⟩) (v := ?_) rfl (by kernel_rfl) (by kernel_rfl) (by kernel_rfl) (by decide) (fun _ _ _ h => h) (Or.inl ⟨by rfl, ?_⟩) (fun _ => HS0.out) ?_
      rotate_left
      · intro w hSw; go_simp <;> with_reducible rfl
      dsimp only [Act.put]
      simp only [List.setIfInBounds_toArray, List.set_cons_zero, List.set_cons_succ]
      refine wpAnyU_take0 (i := 4) (oi := ⟨some 18, _, _, _, _, _⟩) (v := ?_) rfl (by kernel_rfl) (by kernel_rfl) (by kernel_rfl) (by decide) (fun _ _ _ h => h) (Or.inl ⟨by rfl, ?_⟩) (fun _ => HS0.out) ?_
      rotate_left
      · intro w hSw; go_simp <;> with_reducible rfl
      dsimp only [Act.put]
      simp only [List.setIfInBounds_toArray, List.set_cons_zero, List.set_cons_succ]
      refine wpAnyU_take0 (i := 5) (oi := ⟨some 19, _, _, _, _, _⟩) (v := ?_) rfl (by kernel_rfl) (by kernel_rfl) (by kernel_rfl) (by decide) (fun _ _ _ h => h) (Or.inl ⟨by rfl, ?_⟩) (fun _ => HS0.out) ?_
      rotate_left
      · intro w hSw; go_simp <;> with_reducible rfl
      dsimp only [Act.put]
      simp only [List.setIfInBounds_toArray, List.set_cons_zero, List.set_cons_succ]
      refine wpAnyU_take0 (i := 6) (oi := ⟨some 20, _, _, _, _, _⟩) (v := ?_) rfl (by kernel_rfl) (by kernel_rfl) (by kernel_rfl) (by decide) (fun _ _ _ h => h) (Or.inl ⟨by rfl, ?_⟩) (fun _ => HS0.out) ?_
      rotate_left
      · intro w hSw; go_simp <;> with_reducible rfl
      dsimp only [Act.put]
      simp only [List.setIfInBounds_toArray, List.set_cons_zero, List.set_cons_succ]
      refine wpAnyU_take (i := 7) (oi := ⟨some 21, _, _, _, _, _⟩) (v := .pointer (some ⟨b2, 0, none⟩)) rfl (by kernel_rfl) (by kernel_rfl) (by kernel_rfl) (by kernel_rfl) (by kernel_rfl) (fun _ _ _ h => h) (Or.inl ⟨by rfl, ?_⟩) HS0.out ?_
      · intro w hSw
        obtain ⟨hq1, hq2⟩ := hSw
        go_simp <;> with_reducible rfl
      dsimp only [Act.put]
      simp only [List.setIfInBounds_toArray, List.set_cons_zero, List.set_cons_succ]
      refine wpAnyU_take0 (i := 8) (oi := ⟨some 22, _, _, _, _, _⟩) (v := ?_) rfl (by kernel_rfl) (by kernel_rfl) (by kernel_rfl) (by decide) (fun _ _ _ h => h) (Or.inl ⟨by rfl, ?_⟩) (fun _ => HS0.out) ?_
      rotate_left
      · intro w hSw; go_simp <;> with_reducible rfl
      dsimp only [Act.put]
      simp only [List.setIfInBounds_toArray, List.set_cons_zero, List.set_cons_succ]
      refine wpAnyU_take0 (i := 9) (oi := ⟨some 23, _, _, _, _, _⟩) (v := ?_) rfl (by kernel_rfl) (by kernel_rfl) (by kernel_rfl) (by decide) (fun _ _ _ h => h) (Or.inl ⟨by rfl, ?_⟩) (fun _ => HS0.out) ?_
      rotate_left
      · intro w hSw; go_simp <;> with_reducible rfl
      dsimp only [Act.put]
      simp only [List.setIfInBounds_toArray, List.set_cons_zero, List.set_cons_succ]
      refine wpAnyU_take0 (i := 10) (oi := ⟨some 24, _, _, _, _, _⟩) (v := ?_) rfl (by kernel_rfl) (by kernel_rfl) (by kernel_rfl) (by decide) (fun _ _ _ h => h) (Or.inl ⟨by rfl, ?_⟩) (fun _ => HS0.out) ?_
      rotate_left
      · intro w hSw; go_simp <;> with_reducible rfl
      dsimp only [Act.put]
      simp only [List.setIfInBounds_toArray, List.set_cons_zero, List.set_cons_succ]
      refine wpAnyU_take (i := 11) (oi := ⟨some 25, _, _, _, _, _⟩) (v := .pointer (some ⟨b1, 0, none⟩)) rfl (by kernel_rfl) (by kernel_rfl) (by kernel_rfl) (by kernel_rfl) (by kernel_rfl) (fun _ _ _ h => h) (Or.inl ⟨by rfl, ?_⟩) HS0.out ?_
      · intro w hSw
        obtain ⟨hq1, hq2⟩ := hSw
        go_simp <;> with_reducible rfl
      dsimp only [Act.put]
      simp only [List.setIfInBounds_toArray, List.set_cons_zero, List.set_cons_succ]
      refine wpAnyU_take0 (i := 12) (oi := ⟨some 26, _, _, _, _, _⟩) (v := ?_) rfl (by kernel_rfl) (by kernel_rfl) (by kernel_rfl) (by decide) (fun _ _ _ h => h) (Or.inl ⟨by rfl, ?_⟩) (fun _ => HS0.out) ?_
      rotate_left
      · intro w hSw; go_simp <;> with_reducible rfl
      dsimp only [Act.put]
      simp only [List.setIfInBounds_toArray, List.set_cons_zero, List.set_cons_succ]
      refine wpAnyU_one (i := 13) (oi := ⟨none, _, _, _, _, _⟩) (by kernel_rfl) rfl rfl (fun K9 hK9 => ?_)
      have HK9 := Lib.hid hK9
      clear hK9
      obtain ⟨hq1, hq2⟩ := HS0.out
      have hf1 := HF.out.1
      have hf2 := HF.out.2
      go_simp
      clear hq1 hq2 hf1 hf2
      have ha1 := HAd.out.set z.toNat (.pointer (some ⟨b2, 0, none⟩))
      have HA1 := Lib.hid ha1
      have hc9 : ∃ u, (wd.setCell ⟨g0, z.toNat, none⟩ (.pointer (some ⟨b2, 0, none⟩))).cell? ⟨g0, zz.toNat, none⟩ = some u := by
        rw [ha1.cell]
        exact ⟨_, List.getElem?_eq_getElem (by rw [List.length_set]; exact HLn.out)⟩
      have HC9 := Lib.hid hc9
      have HF9 := Lib.hid (ha1.frozen zz.toNat)
      have HB9 := Lib.hid (HBd.out.setCell (p := ⟨g0, z.toNat, none⟩) HGb.out (.pointer (some ⟨b2, 0, none⟩)))
      have HK5 := Lib.hid (show Kept (Off (.slice (some ⟨g0, 0, none⟩) bs.length cap)) w (wd.setCell ⟨g0, z.toNat, none⟩ (.pointer (some ⟨b2, 0, none⟩))) from HKd.out.trans (kept_set _ _ _ _))
      clear ha1 hc9
      refine HK9.out _ _ (fun h => absurd rfl h) ?_
      clear HK9
      simp only [List.setIfInBounds_toArray, List.set_cons_zero, List.set_cons_succ]
      generalize World.setCell _ _ _ = w3 at *
      refine wpAnyU_one (i := 14) (oi := ⟨some 27, _, _, _, _, _⟩) (by kernel_rfl) rfl rfl (fun K9 hK9 => ?_)
      have HK9 := Lib.hid hK9
      clear hK9
      go_simp
      refine HK9.out _ _ (fun _ h => absurd h (by decide)) ?_
      clear HK9
      simp only [List.setIfInBounds_toArray, List.set_cons_zero, List.set_cons_succ]
      refine wpAnyU_one (i := 15) (oi := ⟨none, _, _, _, _, _⟩) (by kernel_rfl) rfl rfl (fun K9 hK9 => ?_)
      have HK9 := Lib.hid hK9
      clear hK9
      obtain ⟨u9, hc9⟩ := HC9.out
      have hf9 := HF9.out
      go_simp
      clear hc9 hf9
      have HA2 := Lib.hid (HA1.out.set zz.toNat (.pointer (some ⟨b1, 0, none⟩)))
      have HB2 := Lib.hid (HB9.out.setCell (p := ⟨g0, zz.toNat, none⟩) HGb.out (.pointer (some ⟨b1, 0, none⟩)))
      have HK2 := Lib.hid (show Kept (Off (.slice (some ⟨g0, 0, none⟩) bs.length cap)) w (w3.setCell ⟨g0, zz.toNat, none⟩ (.pointer (some ⟨b1, 0, none⟩))) from HK5.out.trans (kept_set _ _ _ _))
      refine HK9.out _ _ (fun _ h => absurd h (by decide)) ?_
      clear HK9 HA1 HB9 HK5 HC9 HF9 HAd HBd HKd
      generalize World.setCell _ _ _ = w4 at *
      refine wpAnyU_done (by kernel_rfl) ?_ _
      go_wp2
      go_roundg (bs.length - (k + 1))
      case measure => have := HK.out; have := HZ.out; have := HZZ.out; have := HM.out; omega
      case rel =>
        have hk := HK.out
        have hkl : k + 1 ≤ bs.length := by have := HZ.out; have := HZZ.out; have := HM.out; omega
        refine ⟨k + 1, _, by show _ = _; omega, congrArg (Value.int .i64) (by have := HZ.out; omega), congrArg (Value.int .i64) (by have := HZ.out; have := HZZ.out; omega), ⟨HA2.out, by rw [List.length_set, List.length_set]; exact HLc.out⟩, ?_, HB2.out, HK2.out⟩
        intro j hj
        have hz := HZ.out
        have hzz := HZZ.out
        have h9 := HC.out j hj
        have hLn := HLn.out
        have hlen := (List.getElem?_eq_some_iff.1 h9).1
        rw [List.getElem?_set]
        by_cases hj1 : zz.toNat = j
        · rw [if_pos hj1, if_pos (by rw [List.length_set]; omega), if_pos (by omega), show bs.length - 1 - j = z.toNat by omega, HBb1.out]; rfl
        · rw [if_neg hj1, List.getElem?_set]
          by_cases hj2 : z.toNat = j
          · rw [if_pos hj2, if_pos (by omega), if_pos (by omega), show bs.length - 1 - j = zz.toNat by omega, HBb2.out]; rfl
          · rw [if_neg hj2, h9]
            have : (j < k ∨ bs.length ≤ j + k) ↔ (j < k + 1 ∨ bs.length ≤ j + (k + 1)) := by omega
            simp only [this]
    · have hno : ¬ (z < zz) := hcd
      have hfin : wr.ownsRow base 77 1 (.slice (some ⟨g0, 0, none⟩) bs.length cap) bs.reverse.length (bs.reverse.map ptr) := by
        rw [List.length_reverse]
        refine ⟨by rw [List.length_map, List.length_reverse, Nat.mul_one], .inr ⟨g0, cap, L.toArray, rfl, HGb.out, HAq.out, HCap.out.1, HCap.out.2, by rw [List.size_toArray, HLc.out, Nat.mul_one], ?_⟩⟩
        rw [Nat.mul_one]
        apply List.ext_getElem?
        intro j
        rcases Nat.lt_or_ge j bs.length with hj | hj
        · rw [List.getElem?_take_of_lt hj, HC.out j hj, List.getElem?_map, List.getElem?_reverse hj, List.getElem?_eq_getElem (show bs.length - 1 - j < bs.length by omega), Option.map_some]
          congr 2
          split
          · simp only [List.getD, List.getElem?_eq_getElem (show bs.length - 1 - j < bs.length by omega), Option.getD_some]
          · rename_i h
            have : bs.length - 1 - j = j := by omega
            simp only [List.getD, this, List.getElem?_eq_getElem hj, Option.getD_some]
        · rw [List.getElem?_eq_none (by rw [List.length_take]; omega), List.getElem?_eq_none (by rw [List.length_map, List.length_reverse]; omega)]
      have HFin := Lib.hid hfin
      clear hfin hcd hz hzz
      go_wp2
      go_end0
      exact ⟨rfl, by have h := HFin.out; rw [List.length_reverse, List.map_reverse] at h; exact h, HKp.out, HB.out⟩
end Go.Proofs.Ytbaepjhbpmhmgaa
/- slices.Index of a row of nodes. -/
namespace Go.Proofs.Ytbaepjhbpmhmgaa
open Go.RowKit Go.Lib
set_option linter.unusedVariables false
set_option linter.unusedSimpArgs false
attribute [local go_sem ↓] Go.wp_at_zero Go.wp_at_succ

set_option maxRecDepth 100000 in
set_option maxHeartbeats 1600000 in
theorem index_any (v : Value) (bs : List Nat) (b i : Nat) (w : World) (hv : PtrsAt w v bs) (hi : i < bs.length) (hb : bs.getD i 0 = b) (hne : ∀ j, j < i → bs.getD j 0 ≠ b) (hl : bs.length ≤ 1000000) (hlv : ∀ j, j ≤ i → ∃ cs t, w.heap[bs.getD j 0]? = some (.cells cs t (0, 0))) :
    Calls Try.prog 40 #[v, .pointer (some ⟨b, 0, none⟩)] w fun e w' => e = .returned (.int .i64 (i : Int)) ∧ w' = w := by
  rcases hv with ⟨rfl, rfl⟩ | ⟨g0, off, c, rfl, q1, q2, q3⟩
  · simp at hi
  have HI := Lib.hid (And.intro hi hl)
  have HBi := Lib.hid hb
  have HNe := Lib.hid hne
  have HLv := Lib.hid hlv
  have HC := Lib.hid q3
  clear hlv hi hb hne q1 q2 q3 hl
  obtain ⟨jn, hjn, hjs⟩ : ∃ j : TypeInfo, Try.prog.info? 80 = some j ∧ j.size = 34 := by
    have h : (Try.prog.info? 80).map (·.size) = some 34 := by kernel_rfl
    exact Option.map_eq_some_iff.1 h
  have HJ := Lib.hid (And.intro hjn hjs)
  clear hjn hjs
  go_enter Try.func40, Try.ntmps40
  go_wp2
  go_loopg [5, 8] (i + 1) (fun g v5 v8 wq => ∃ k : Nat, Hid (g + k = i + 1 ∧ k ≤ i) ∧ v8 = .int .i64 (k : Int) ∧ wq = w)
  case atStart => exact ⟨0, ⟨by omega, by omega⟩, rfl, rfl⟩
  case round =>
    obtain ⟨k, hk, rfl, rfl⟩ := hrel
    have HK := Lib.hid hk.out
    clear hk
    cases gk with
    | zero => have := HK.out; omega
    | succ g =>
      have hi := HI.out
      have hk := HK.out
      have hlt : (k : Int) < (bs.length : Int) := by omega
      have hc := HC.out k (by omega)
      obtain ⟨bk, hbk⟩ : ∃ bk, bs.getD k 0 = bk := ⟨_, rfl⟩
      rw [hbk] at hc
      unfold ptr at hc
      by_cases he : k = i
      · have : bk = b := by rw [← hbk, he]; exact HBi.out
        subst this
        subst he
        clear hk hbk hi
        have hq := run_eql_ptr_same (P := Try.prog) wr (tp := 77) ⟨bk, 0, none⟩ Try.underlying77 HJ.out.1
        go_wp2
        go_ret
        exact ⟨rfl, rfl⟩
      · have hne := HNe.out k (by omega)
        have HKi := Lib.hid (show k + 1 ≤ i by omega)
        rw [hbk] at hne
        obtain ⟨c1, t1, hl1⟩ := HLv.out i (Nat.le_refl _)
        obtain ⟨c2, t2, hl2⟩ := HLv.out k (by omega)
        rw [HBi.out] at hl1
        rw [hbk] at hl2
        have hq := run_eql_ptr_other (P := Try.prog) wr (tp := 77) (a := ⟨b, 0, none⟩) (b := ⟨bk, 0, none⟩) Try.underlying77 HJ.out.1 (by rw [HJ.out.2]; omega) (fun e => hne (by cases e; rfl)) hl1 hl2
        clear hl1 hl2 hne
        clear hk hbk hi
        go_wp2
        go_roundg g
        case measure => omega
        case rel => exact ⟨k + 1, by show _ ∧ _; have := HK.out; have := HKi.out; omega, congrArg (Value.int .i64) (by have h1 := HKi.out; have h2 := HI.out.1; have h3 := HI.out.2; unfold wrap64; omega), rfl⟩
end Go.Proofs.Ytbaepjhbpmhmgaa
/- string(b) of bytes, and how such are compared. Nothing of the dump stands here. -/
namespace Go.Proofs.Ytbaepjhbpmhmgaa
open Go.RowKit Go.Lib
set_option linter.unusedVariables false

/-- The string of these bytes. -/
def strL (L : List Nat) : ByteArray := ⟨(L.map UInt8.ofNat).toArray⟩
theorem strL_data (L : List Nat) : (strL L).data.toList = L.map UInt8.ofNat := rfl
theorem ofNat_inj : ∀ (A B : List Nat), (∀ x ∈ A, x < 256) → (∀ x ∈ B, x < 256) → A.map UInt8.ofNat = B.map UInt8.ofNat → A = B
  | [], [], _, _, _ => rfl
  | [], _ :: _, _, _, h => by simp at h
  | _ :: _, [], _, _, h => by simp at h
  | a :: A, b :: B, hA, hB, h => by
    simp only [List.map_cons, List.cons.injEq] at h
    have ha := hA a (List.mem_cons_self ..)
    have hb := hB b (List.mem_cons_self ..)
    have e : a = b := by
      have := congrArg UInt8.toNat h.1
      simp only [UInt8.toNat_ofNat'] at this
      omega
    rw [e, ofNat_inj A B (fun x hx => hA x (List.mem_cons_of_mem _ hx)) (fun x hx => hB x (List.mem_cons_of_mem _ hx)) h.2]
theorem strL_inj {A B : List Nat} (hA : ∀ x ∈ A, x < 256) (hB : ∀ x ∈ B, x < 256) (h : strL A = strL B) : A = B :=
  ofNat_inj A B hA hB (by rw [← strL_data, ← strL_data, h])
theorem strL_beq (A B : List Nat) (hA : ∀ x ∈ A, x < 256) (hB : ∀ x ∈ B, x < 256) : ((strL A).toList == (strL B).toList) = decide (A = B) := by
  rw [ByteArray.toList_eq, ByteArray.toList_eq, strL_data, strL_data]
  by_cases h : A = B
  · subst h
    simp
  · rw [decide_eq_false h, beq_eq_false_iff_ne]
    exact fun e => h (ofNat_inj A B hA hB e)
theorem conv_byts {P : Program} {w : World} {v : Value} {L : List Nat} (h : Byts w v L) (src dst e : TypeId) (hs : P.underlying src = some (.slice e)) (he : P.underlying e = some (.int .u8)) (hd : P.underlying dst = some .string) :
    (convert src dst v).run P w = .ok (.string (strL L)) w := by
  rcases h.2 with ⟨rfl, rfl⟩ | ⟨ad, c, rfl, _, _, hc⟩
  · rw [run_convert_bytes_nil w src e hs he 0 0 dst hd]; rfl
  · have := run_convert_bytes_back (P := P) w src dst e ad c (L.map UInt8.ofNat) hs he hd (fun j hj => by
      rw [List.length_map] at hj
      rw [hc j hj, List.getElem_map]
      have hx := h.1 (L[j]) (List.getElem_mem hj)
      have e1 : L.getD j 0 = L[j] := by simp only [List.getD, List.getElem?_eq_getElem hj, Option.getD_some]
      rw [e1]
      congr 2
      rw [UInt8.toNat_ofNat']
      omega)
    rw [List.length_map] at this
    exact this
end Go.Proofs.Ytbaepjhbpmhmgaa
/- Drawn regions in which a condition on the world holds throughout: one operation that alone may come up. Nothing of the dump stands here. -/
namespace Go.Proofs.Ytbaepjhbpmhmgaa
open Go.RowKit Go.Lib
set_option linter.unusedVariables false
section
variable {P : Program} {ops : Array Oper} {Q : Exit → Act → World → Prop} {md : Region.Mode} {S : World → Prop}
theorem wpAnyH_one {i : Nat} {oi : Oper} {fuel : Nat} {listed : Array Bool} {a : Act} {w : World} (hr : Region.ready md ops listed = [i]) (hi : ops[i]? = some oi) (hg : Region.wanted oi (yielded ops a.tmps) = true)
    (h : ∀ K : Act → World → Prop, (∀ a' w', S w' → wpAnyH P md ops Q S fuel (listed.setIfInBounds i true) a' w' → K a' w') → oi.wp P a w K Q) : wpAnyH P md ops Q S (fuel + 1) listed a w := by
  refine wpAnyH_all hr (by simp) (fun j hj => ?_)
  obtain rfl : j = i := by simpa using hj
  unfold wpOp
  simp only [hi]
  rw [if_pos hg]
  exact .inl (h _ (fun a' w' h1 h2 => ⟨h1, h2⟩))
theorem wp_region_H (S : World → Prop) {id : Nat} {a : Act} {w : World} (hm : P.follows .mixedOrders = true)
    (h : wpAnyH P .any ops Q S ops.size (Array.replicate ops.size false) a w.drew) : (Code.region id ops true).wp P Q a w := wp_region_held hm h
end
end Go.Proofs.Ytbaepjhbpmhmgaa
