/- spec.Params, of parameters within their bounds. -/
import Derived.Test.YthnbnckmeffkmaaGreatG13
import Derived.Test.YthnbnckmeffkmaaGreatG27
import Derived.WalkMore
namespace Go.Proofs.YthnbnckmeffkmaaGreat
open Go.RowKit Go.Lib
set_option linter.unusedVariables false
set_option linter.unusedSimpArgs false
attribute [local go_sem ↓] Go.wp_at_zero Go.wp_at_succ

/-- Parameters. -/
structure ParM where
  K : Int
  MP : Int
  MM : Int
  F : Int
  R : Int
  M : Int
  S : Nat
  O : Int
  L : Int
  G : List Nat
def ParM.cells (p : ParM) : List Value := [.int .i64 p.K, .int .i64 p.MP, .int .i64 p.MM, .int .i64 p.F, .int .i64 p.R, .int .i64 p.M, .int .u64 (p.S : Nat), .int .i64 p.O, .int .i64 p.L] ++ bys p.G
structure ParM.ok (p : ParM) : Prop where
  S : p.S ≤ 18446744073709551615
  G : IsH p.G
structure ParM.within (p : ParM) : Prop where
  K : 0 ≤ p.K ∧ p.K ≤ 100
  MP : 1 ≤ p.MP ∧ p.MP ≤ 20
  MM : 1 ≤ p.MM ∧ p.MM ≤ 1000
  F : 0 ≤ p.F ∧ p.F ≤ 2147483647
  R : 0 ≤ p.R ∧ p.R ≤ 2147483647
  M : 0 ≤ p.M ∧ p.M ≤ 2147483647
  O : 0 ≤ p.O ∧ p.O ≤ 100000
  L : 0 ≤ p.L ∧ p.L ≤ 100000
/-- Whether they may be, being within their bounds. -/
def ParM.fin (p : ParM) : Prop := p.S ≤ 1099511627776 ∧ (p.R = 0 ∨ (p.F > 0 ∧ p.R > p.F ∧ p.R > p.MM))
def bnd (p : ParM) (k : Nat) : Int × Int × Int := match k with
  | 0 => (0, p.K, 100)
  | 1 => (1, p.MP, 20)
  | 2 => (1, p.MM, 1000)
  | 3 => (0, p.F, 2147483647)
  | 4 => (0, p.R, 2147483647)
  | 5 => (0, p.M, 2147483647)
  | 6 => (0, p.O, 100000)
  | _ => (0, p.L, 100000)
theorem bnd_ok {p : ParM} (h : p.within) (k : Nat) : (bnd p k).1 ≤ (bnd p k).2.1 ∧ (bnd p k).2.1 ≤ (bnd p k).2.2 := by
  unfold bnd
  split
  · exact h.K
  · exact h.MP
  · exact h.MM
  · exact h.F
  · exact h.R
  · exact h.M
  · exact h.O
  · exact h.L
theorem par_len {p : ParM} (h : p.ok) : p.cells.length = 41 := by unfold ParM.cells; rw [List.length_append, bys_len, h.G.1]; rfl
theorem size_par : (Tryz.prog.info? 26).map (·.size) = some 41 := by kernel_rfl
def bndC (p : ParM) : List Value := [.int .i64 0, .int .i64 p.K, .int .i64 100, .int .i64 1, .int .i64 p.MP, .int .i64 20, .int .i64 1, .int .i64 p.MM, .int .i64 1000, .int .i64 0, .int .i64 p.F, .int .i64 2147483647, .int .i64 0, .int .i64 p.R, .int .i64 2147483647, .int .i64 0, .int .i64 p.M, .int .i64 2147483647, .int .i64 0, .int .i64 p.O, .int .i64 100000, .int .i64 0, .int .i64 p.L, .int .i64 100000]
theorem bnd_at (p : ParM) (k : Nat) (h : k < 8) : (bndC p)[k * 3]? = some (.int .i64 (bnd p k).1) ∧ (bndC p)[k * 3 + 1]? = some (.int .i64 (bnd p k).2.1) ∧ (bndC p)[k * 3 + 2]? = some (.int .i64 (bnd p k).2.2) := by
  match k, h with
  | 0, _ => exact ⟨rfl, rfl, rfl⟩
  | 1, _ => exact ⟨rfl, rfl, rfl⟩
  | 2, _ => exact ⟨rfl, rfl, rfl⟩
  | 3, _ => exact ⟨rfl, rfl, rfl⟩
  | 4, _ => exact ⟨rfl, rfl, rfl⟩
  | 5, _ => exact ⟨rfl, rfl, rfl⟩
  | 6, _ => exact ⟨rfl, rfl, rfl⟩
  | 7, _ => exact ⟨rfl, rfl, rfl⟩
set_option maxRecDepth 100000 in
set_option maxHeartbeats 3200000 in
theorem params_in (p : ParM) (w : World) (hp : p.ok) (hw : p.within) (R : Bool) (hR : R = true ↔ p.fin) :
    Calls Tryz.prog 9 #[.agg p.cells.toArray] w fun e w' => e = .returned (.bool R) ∧ Below w.heap.size w w' := by
  have HP := Lib.hid hp
  have HW := Lib.hid hw
  have HR := Lib.hid hR
  clear hp hw hR
  go_enter Tryz.func9, Tryz.ntmps9
  go_upto_region 1 with fail
  have hm := Arr.made w 26 p.cells
  have hb := (Below.refl w.heap.size w).alloc (Nat.le_refl _) (.cells p.cells.toArray 26)
  have HM := Lib.hid hm
  have HB := Lib.hid hb
  clear hm hb
  generalize World.alloc _ _ = w1 at *
  have HZ := Lib.hid HB.out.size
  obtain ⟨g, hg⟩ : ∃ g, w.heap.size = g := ⟨_, rfl⟩
  have HG := Lib.hid hg
  rw [hg] at HM HB HZ ⊢
  clear hg
  have hc0 := HM.out.cell 0
  have hc1 := HM.out.cell 1
  have hc2 := HM.out.cell 2
  have hc3 := HM.out.cell 3
  have hc4 := HM.out.cell 4
  have hc5 := HM.out.cell 5
  have hc7 := HM.out.cell 7
  have hc8 := HM.out.cell 8
  unfold ParM.cells at hc0 hc1 hc2 hc3 hc4 hc5 hc7 hc8
  simp only [List.cons_append, List.getElem?_cons_zero, List.getElem?_cons_succ] at hc0 hc1 hc2 hc3 hc4 hc5 hc7 hc8
  go_upto_region 2 with fail
  clear hc0 hc1 hc2 hc3 hc4 hc5 hc7 hc8
  have hm := Arr.made w1 102 (bndC p)
  have hb := (Below.refl w1.heap.size w1).alloc (Nat.le_refl _) (.cells (bndC p).toArray 102)
  have HD := Lib.hid hm
  have HM2 := Lib.hid (HM.out.below hb HM.out.lt)
  have HB2 := Lib.hid (HB.out.trans (hb.mono HZ.out))
  clear hm hb HM HB
  unfold bndC at HD HM2 HB2
  obtain ⟨gb, hgb⟩ : ∃ gb, w1.heap.size = gb := ⟨_, rfl⟩
  rw [hgb] at HD ⊢
  generalize World.alloc _ _ = w2 at *
  clear hgb HZ
  go_loopg [31] 8 (fun q v31 wq => ∃ k : Nat, Hid (q + k = 8) ∧ v31 = .int .i64 (k : Int) ∧ Hid (Arr wq g 26 p.cells) ∧ Hid (Arr wq gb 102 (bndC p)) ∧ Hid (Below g w wq))
  case atStart => exact ⟨0, rfl, rfl, HM2.out, HD.out, HB2.out⟩
  case round =>
    obtain ⟨k, hk, rfl, ha, hd, hb⟩ := hrel
    have HK := Lib.hid hk.out
    have HAq := Lib.hid ha.out
    have HDq := Lib.hid hd.out
    have HBq := Lib.hid hb.out
    clear hk ha hd hb HM2 HD HB2
    cases gk with
    | zero =>
      have hlt : ¬ ((k : Int) < 8) := by have := HK.out; omega
      have hc0 := HAq.out.cell 2
      have hc1 := HAq.out.cell 3
      have hc2 := HAq.out.cell 4
      have hc3 := HAq.out.cell 6
      unfold ParM.cells at hc0 hc1 hc2 hc3
      simp only [List.cons_append, List.getElem?_cons_zero, List.getElem?_cons_succ] at hc0 hc1 hc2 hc3
      have hfin := HR.out
      unfold ParM.fin at hfin
      by_cases q1 : ((p.S : Nat) : Int) ≤ 1099511627776
      · by_cases q2 : p.R = 0
        · have q2b : (p.R == 0) = true := by rw [q2]; rfl
          have hR : R = true := hfin.2 ⟨by omega, .inl q2⟩
          have HF := Lib.hid hR
          clear hfin hR
          go_wp2
          go_ret
          exact ⟨by (first | (rw [HF.out]; done) | (rw [HF.out]; rfl)), by rw [HG.out]; exact HBq.out⟩
        · have q2b : (p.R == 0) = false := beq_false_of_ne q2
          by_cases q3 : p.F > 0
          · by_cases q4 : p.R > p.F
            · by_cases q5 : p.R > p.MM
              · have hR : R = true := hfin.2 ⟨by omega, .inr ⟨q3, q4, q5⟩⟩
                have HF := Lib.hid hR
                clear hfin hR
                go_wp2
                go_ret
                exact ⟨by (first | (rw [HF.out]; done) | (rw [HF.out]; rfl)), by rw [HG.out]; exact HBq.out⟩
              · have hR : R = false := by cases R with
                  | false => rfl
                  | true => exact absurd (hfin.1 rfl) (by omega)
                have HF := Lib.hid hR
                clear hfin hR
                go_wp2
                go_ret
                exact ⟨by (first | (rw [HF.out]; done) | (rw [HF.out]; rfl)), by rw [HG.out]; exact HBq.out⟩
            · have hR : R = false := by cases R with
                | false => rfl
                | true => exact absurd (hfin.1 rfl) (by omega)
              have HF := Lib.hid hR
              clear hfin hR
              go_wp2
              go_ret
              exact ⟨by (first | (rw [HF.out]; done) | (rw [HF.out]; rfl)), by rw [HG.out]; exact HBq.out⟩
          · have hR : R = false := by cases R with
              | false => rfl
              | true => exact absurd (hfin.1 rfl) (by omega)
            have HF := Lib.hid hR
            clear hfin hR
            go_wp2
            go_ret
            exact ⟨by (first | (rw [HF.out]; done) | (rw [HF.out]; rfl)), by rw [HG.out]; exact HBq.out⟩
      · have hR : R = false := by cases R with
          | false => rfl
          | true => exact absurd (hfin.1 rfl) (by omega)
        have HF := Lib.hid hR
        clear hfin hR
        go_wp2
        go_ret
        exact ⟨by (first | (rw [HF.out]; done) | (rw [HF.out]; rfl)), by rw [HG.out]; exact HBq.out⟩
    | succ q =>
      have hkl : k < 8 := by have := HK.out; omega
      have hlt : ((k : Int) < 8) := by omega
      obtain ⟨e0, e1, e2⟩ := bnd_at p k hkl
      obtain ⟨n0, n1⟩ := bnd_ok HW.out k
      have hd0 : wr.cell? ⟨gb, k * 3, none⟩ = some (.int .i64 (bnd p k).1) := by rw [HDq.out.cell]; exact e0
      have hd1 : wr.cell? ⟨gb, k * 3 + 1, none⟩ = some (.int .i64 (bnd p k).2.1) := by rw [HDq.out.cell]; exact e1
      have hd2 : wr.cell? ⟨gb, k * 3 + 2, none⟩ = some (.int .i64 (bnd p k).2.2) := by rw [HDq.out.cell]; exact e2
      clear e0 e1 e2
      generalize (bnd p k).1 = lo at *
      generalize (bnd p k).2.1 = nn at *
      generalize (bnd p k).2.2 = hi at *
      have g1 : ¬ nn < lo := by omega
      have g2 : ¬ nn > hi := by omega
      go_upto_region 4 with fail
      have hb := (Below.refl wr.heap.size wr).alloc (Nat.le_refl _) (.cells #[.int .i64 lo, .int .i64 nn, .int .i64 hi] 102)
      have hm := Arr.made wr 102 [.int .i64 lo, .int .i64 nn, .int .i64 hi]
      have hx0 := hm.cell 0
      have hx1 := hm.cell 1
      have hx2 := hm.cell 2
      dsimp only [List.getElem?_cons_zero, List.getElem?_cons_succ] at hx0 hx1 hx2
      have HA3 := Lib.hid (HAq.out.below hb HAq.out.lt)
      have HD3 := Lib.hid (HDq.out.below hb HDq.out.lt)
      have HB3 := Lib.hid (HBq.out.trans (hb.mono (Nat.le_of_lt HAq.out.lt)))
      clear hb hm hd0 hd1 hd2 HAq HDq HBq
      generalize World.alloc _ _ = w5 at *
      go_wp2
      go_roundg q
      case measure => omega
      case rel => exact ⟨k + 1, by show _ = _; have := HK.out; omega, by go_num, HA3.out, HD3.out, HB3.out⟩
end Go.Proofs.YthnbnckmeffkmaaGreat
/- spec.Of of no blocks. -/
namespace Go.Proofs.YthnbnckmeffkmaaGreat
open Go.RowKit Go.Lib
set_option linter.unusedVariables false
set_option linter.unusedSimpArgs false
attribute [local go_sem ↓] Go.wp_at_zero Go.wp_at_succ

def pP : ParM := ⟨0, 1, 1, 0, 0, 0, 0, 0, 0, zH⟩
theorem pP_cells : pP.cells = pC := by kernel_rfl
set_option maxRecDepth 100000 in
set_option maxHeartbeats 3200000 in
theorem spec_of (w : World) :
    Calls Tryz.prog 8 #[.agg pC.toArray, .slice none 0 0] w fun e w' => ∃ G : GB, e = .returned (.tuple #[.pointer (some ⟨G.wd, 0, none⟩), .int .i64 0]) ∧ NowP G w' ∧ Below w.heap.size w w' := by
  go_enter Tryz.func8, Tryz.ntmps8
  go_upto_region 1 with fail
  have hb := (Below.refl w.heap.size w).alloc (Nat.le_refl _) (.cells pC.toArray 26)
  have HB := Lib.hid hb
  have HA := Lib.hid (Arr.made w 26 pC)
  have HZ := Lib.hid hb.size
  obtain ⟨g, hg⟩ : ∃ g, w.heap.size = g := ⟨_, rfl⟩
  rw [hg] at HA HB HZ ⊢
  have HG := Lib.hid hg
  clear hb hg
  generalize World.alloc _ _ = w1 at *
  go_step3
  refine wp_seq_k (fun K1 hK1 => ?_)
  go_step
  go_step
  refine wpList_load_mid (P := Tryz.prog) rfl 26 _ rfl (g) (0) rfl _ _ (HA.out.range) Tryz.underlying26 rfl (par_size) ?_
  simp only [Act.put, List.setIfInBounds_toArray, List.set_cons_zero, List.set_cons_succ]
  have HC := Lib.hid (params_in pP w1 ⟨by show (0:Nat) ≤ _; omega, zH_h⟩ ⟨by decide, by decide, by decide, by decide, by decide, by decide, by decide, by decide⟩ true ⟨fun _ => ⟨by decide, .inl rfl⟩, fun _ => rfl⟩)
  rw [pP_cells] at HC
  go_wp2_with fail
  with_reducible refine HC.out.mono ?_
  rintro e w2 ⟨rfl, hb9⟩
  dsimp only
  have HA2 := Lib.hid (HA.out.below hb9 HA.out.lt)
  have HB2 := Lib.hid (HB.out.trans (hb9.mono HZ.out))
  have HZ2 := Lib.hid (Nat.le_trans HZ.out hb9.size)
  clear hb9 HC HA HB HZ
  go_upto_region 3 with fail
  go_step
  refine wpList_load_mid (P := Tryz.prog) rfl 26 _ rfl (g) (0) rfl _ _ (HA2.out.range) Tryz.underlying26 rfl (par_size) ?_
  simp only [Act.put, List.setIfInBounds_toArray, List.set_cons_zero, List.set_cons_succ]
  have HC := Lib.hid (begin_any w2)
  go_wp2_with fail
  with_reducible refine HC.out.mono ?_
  rintro e w3 ⟨G, rfl, hgw, hgen, hb9⟩
  dsimp only
  have HGn := Lib.hid hgen
  have HB3 := Lib.hid (HB2.out.trans (hb9.mono HZ2.out))
  have HN := Lib.hid (show g ≤ GB.wd G from Nat.le_trans HZ2.out hgw)
  clear hgw hgen hb9 HC HA2 HB2
  go_wp2
  go_step3
  go_wp2
  refine wp_loop_rounds 1 ?_
  rw [rounds_succ]
  go_wp2
  refine wp_loop_rounds 1 ?_
  rw [rounds_succ]
  go_upto_region 13 with fail
  have HC := Lib.hid (now_one G g w3 HGn.out HN.out)
  go_wp2_with fail
  with_reducible refine HC.out.mono ?_
  rintro e w4 ⟨rfl, hn, hb9⟩
  dsimp only
  have HF := Lib.hid (And.intro hn (HB3.out.trans hb9))
  clear hn hb9 HC HGn HB3
  go_wp2
  try rw [Exit.noGoto_ret]
  go_ret2
  exact ⟨G, rfl, HF.out.1, by rw [HG.out]; exact HF.out.2⟩
set_option maxRecDepth 100000 in
set_option maxHeartbeats 1600000 in
theorem lnum_any (k : Int) (w : World) : Calls Tryz.prog 11 #[.int .i64 k] w fun e w' => e = .returned (.int .i64 k) ∧ Below w.heap.size w w' := by
  go_enter Tryz.func11, Tryz.ntmps11
  go_wp2
  go_ret
  exact ⟨rfl, Below.refl _ _⟩
end Go.Proofs.YthnbnckmeffkmaaGreat
/- spec.Virtual of the genesis. -/
namespace Go.Proofs.YthnbnckmeffkmaaGreat
open Go.RowKit Go.Lib
set_option linter.unusedVariables false
set_option linter.unusedSimpArgs false
attribute [local go_sem ↓] Go.wp_at_zero Go.wp_at_succ

def vD (pv fv : Value) : List Value := bys gI ++ ([pv, .int .u64 1, .slice none 0 0, .slice none 0 0] ++ resC fv)
theorem vD_len (pv fv : Value) : (vD pv fv).length = 42 := by unfold vD; rw [List.length_append, List.length_append, bys_len, gI_h.1]; rfl
theorem vC_vD (pg : Nat) (fv : Value) : vC pg fv = vD (.slice (some ⟨pg, 0, none⟩) 1 1) fv := rfl
theorem vD_at (pv fv : Value) (j : Nat) : (vD pv fv)[32 + j]? = ([pv, .int .u64 1, .slice none 0 0, .slice none 0 0] ++ resC fv)[j]? := by
  unfold vD; rw [List.getElem?_append_right (by rw [bys_len, gI_h.1]; omega), bys_len, gI_h.1, show 32 + j - 32 = j by omega]
theorem vD_set (pv fv : Value) (j : Nat) (x : Value) : (vD pv fv).set (32 + j) x = bys gI ++ (([pv, .int .u64 1, .slice none 0 0, .slice none 0 0] ++ resC fv).set j x) := by
  unfold vD; rw [List.set_append_right _ _ (by rw [bys_len, gI_h.1]; omega), bys_len, gI_h.1, show 32 + j - 32 = j by omega]
theorem vD_0 (pv fv x : Value) : (vD pv fv).set 32 x = vD x fv := vD_set pv fv 0 x
theorem vD_2 (pv fv : Value) : (vD pv fv).set 34 (.slice none 0 0) = vD pv fv := vD_set pv fv 2 _
theorem vD_3 (pv fv : Value) : (vD pv fv).set 35 (.slice none 0 0) = vD pv fv := vD_set pv fv 3 _
theorem vD_5 (pv fv fv' : Value) : (vD pv fv).take 36 ++ resC fv' ++ (vD pv fv).drop (36 + (resC fv').length) = vD pv fv' := by
  have e : ∀ x, vD pv x = (bys gI ++ [pv, .int .u64 1, .slice none 0 0, .slice none 0 0]) ++ resC x := fun x => by unfold vD; rw [List.append_assoc]
  have hl : (bys gI ++ [pv, .int .u64 1, .slice none 0 0, .slice none 0 0]).length = 36 := by rw [List.length_append, bys_len, gI_h.1]; rfl
  have h6 : ∀ x, (resC x).length = 6 := fun _ => rfl
  rw [e fv, e fv', List.take_append_of_le_length (by omega), List.take_of_length_le (by omega), List.drop_of_length_le (by rw [List.length_append, hl, h6, h6]; omega), List.append_nil]
theorem vD_one (pv fv : Value) (hp : pv.oneCell' = true) (hf : fv.oneCell' = true) : ∀ v ∈ vD pv fv, v.oneCell' = true := by
  intro v hv
  rcases List.mem_append.1 hv with h | h
  · exact bys_one gI v h
  · simp [resC] at h
    rcases h with rfl | rfl | rfl | rfl | rfl | rfl | rfl | rfl | rfl | rfl <;> first | rfl | assumption
theorem zero_vir : ∀ w, (zeroValue 82).run Tryz.prog w = .ok (.agg v0C.toArray) w := fun w => by kernel_rfl
theorem vir_size (pv fv : Value) : (Tryz.prog.info? 82).map (·.size) = some (vD pv fv).length := by rw [vD_len]; kernel_rfl
theorem gen_vir {G : GB} {V : List Value} {sv : Value} {w : World} (h : Gen G V sv w) : w.rangeAt G.wd 74 V := fun j v hv => h.wc (w_v _ _ gI_h _ _ j v hv)
structure ViS (pg fg fc t3 : Nat) (w : World) : Prop where
  r : Arr w t3 82 (vD (.slice (some ⟨pg, 0, none⟩) 1 1) (.slice (some ⟨fg, 0, none⟩) 1 fc))
  p : w.rangeAt pg 0 (bys gI)
  f : w.rangeAt fg 0 [Value.int .u64 0]
theorem ViS.below {pg fg fc t3 : Nat} {w w' : World} (h : ViS pg fg fc t3 w) (hb : Below w.heap.size w w') : ViS pg fg fc t3 w' := ⟨h.r.below hb h.r.lt, range_keep h.p gI_h hb, range_keep0 h.f hb⟩
theorem ViS.res {pg fg fc t3 : Nat} {w : World} (h : ViS pg fg fc t3 w) : w.rangeAt t3 36 (resC (.slice (some ⟨fg, 0, none⟩) 1 fc)) := fun j v hv => by
  rw [h.r.cell, show 36 + j = 32 + (4 + j) by omega, vD_at, show 4 + j = [Value.slice (some ⟨pg, 0, none⟩) 1 1, .int .u64 1, .slice none 0 0, .slice none 0 0].length + j from rfl, List.getElem?_append_right (by omega), Nat.add_sub_cancel_left]
  exact hv
set_option maxRecDepth 100000 in
set_option maxHeartbeats 6400000 in
theorem virt_one (G : GB) (pg fg fc : Nat) (sv : Value) (w : World) (hG : Gen G (vC pg (.slice (some ⟨fg, 0, none⟩) 1 fc)) sv w) (hp : w.rangeAt pg 0 (bys gI)) (hf : w.rangeAt fg 0 [Value.int .u64 0]) :
    Calls Tryz.prog 32 #[.pointer (some ⟨G.wd, 0, none⟩)] w fun e w' => ∃ pv fv, e = .returned (.agg (vD pv fv).toArray) ∧ Below w.heap.size w w' := by
  have hzv := zero_vir
  have HGn := Lib.hid hG
  have HP := Lib.hid hp
  have HF := Lib.hid hf
  clear hG hp hf
  go_enter Tryz.func32, Tryz.ntmps32
  go_upto_region 1 with fail
  have hb := (Below.refl w.heap.size w).alloc (Nat.le_refl _) (.cells v0C.toArray 82)
  have HY := Lib.hid (Arr.made w 82 v0C)
  have HG1 := Lib.hid (HGn.out.below hb)
  have HP1 := Lib.hid (range_keep HP.out gI_h hb)
  have HF1 := Lib.hid (range_keep0 HF.out hb)
  have HB := Lib.hid hb
  have HZ := Lib.hid hb.size
  obtain ⟨g, hg⟩ : ∃ g, w.heap.size = g := ⟨_, rfl⟩
  rw [hg] at HY HB HZ ⊢
  have HG := Lib.hid hg
  clear hb hg HGn HP HF
  generalize World.alloc _ _ = w1 at *
  have HC := Lib.hid (there_one G _ sv w1 HG1.out)
  go_wp2_with fail
  with_reducible refine HC.out.mono ?_
  rintro e w2 ⟨rfl, hb9⟩
  dsimp only
  have HG2 := Lib.hid (HG1.out.below hb9)
  have HP2 := Lib.hid (range_keep HP1.out gI_h hb9)
  have HF2 := Lib.hid (range_keep0 HF1.out hb9)
  have HY2 := Lib.hid (HY.out.below hb9 HY.out.lt)
  have HB2 := Lib.hid (HB.out.trans (hb9.mono HZ.out))
  have HZ2 := Lib.hid (Nat.le_trans HZ.out hb9.size)
  clear hb9 HC HG1 HP1 HF1 HY HB HZ
  go_upto_region 3 with fail
  go_step
  iterate 9 (first | go_values | go_skip | go_guarded | go_step | go_upon)
  refine wpList_load_mid (P := Tryz.prog) rfl 82 _ rfl (G.wd) (74) rfl _ _ (gen_vir HG2.out) Tryz.underlying82 rfl (by rw [vC_vD]; exact vir_size _ _) ?_
  simp only [Act.put, List.setIfInBounds_toArray, List.set_cons_zero, List.set_cons_succ]
  rw [vC_vD]
  iterate 3 (first | go_values | go_skip | go_guarded | go_step | go_upon)
  refine wpList_store_box (P := Tryz.prog) rfl 82 _ _ rfl w2 _ (vD (.slice (some ⟨pg, 0, none⟩) 1 1) (.slice (some ⟨fg, 0, none⟩) 1 fc)) rfl rfl (by rw [List.size_toArray, vD_len, v0C_len]) (vir_size _ _) (vD_one _ _ rfl rfl) ?_
  intro w3 ha9 hb9
  have HA3 := Lib.hid ha9.out
  have HBq := Lib.hid hb9.out
  clear ha9 hb9
  have HS3 := Lib.hid (show ViS pg fg fc w2.heap.size w3 from ⟨HA3.out, range_keep HP2.out gI_h HBq.out, range_keep0 HF2.out HBq.out⟩)
  have HY := Lib.hid (show Arr w3.drew g _ _ from HY2.out.below HBq.out.drew HY2.out.lt)
  have HB := Lib.hid (HB2.out.trans (HBq.out.mono HZ2.out)).drew
  have HZ := Lib.hid (show g ≤ w3.drew.heap.size from Nat.le_trans HZ2.out HBq.out.size)
  have HT3 := Lib.hid HZ2.out
  have HT23 := Lib.hid (show g ≠ w2.heap.size from Nat.ne_of_lt HY2.out.lt)
  obtain ⟨t3, ht3⟩ : ∃ b, w2.heap.size = b := ⟨_, rfl⟩
  rw [ht3] at HS3 HT3 HT23 ⊢
  clear ht3 HA3 HBq HG2 HP2 HF2 HY2 HB2 HZ2
  go_upto_region 4 with fail
  have HS0 := Lib.hid (show ViS pg fg fc t3 w3.drew from HS3.out.below (Below.refl _ _).drew)
  clear HS3
  refine wp_region_U (ViS pg fg fc t3) 13 (by kernel_rfl) ?_
  generalize World.drew _ = w3 at *
  simp only [List.size_toArray, List.length_cons, List.length_nil, Nat.reduceAdd, Array.replicate_succ, Array.replicate_zero, List.push_toArray, List.nil_append, List.cons_append]
  refine wpAnyU_take (i := 0) (oi := ⟨some 12, _, _, _, _, _⟩) (v := .pointer (some ⟨t3, 32, none⟩)) rfl (by kernel_rfl) (by kernel_rfl) (by kernel_rfl) (by kernel_rfl) (by kernel_rfl) (fun _ _ _ h => h) (Or.inl ⟨by rfl, ?_⟩) HS0.out ?_
  · intro w hSw
    go_simp <;> with_reducible rfl
  dsimp only [Act.put]
  simp only [List.setIfInBounds_toArray, List.set_cons_zero, List.set_cons_succ]
  refine wpAnyU_take (i := 1) (oi := ⟨some 13, _, _, _, _, _⟩) (v := .slice (some ⟨pg, 0, none⟩) 1 1) rfl (by kernel_rfl) (by kernel_rfl) (by kernel_rfl) (by kernel_rfl) (by kernel_rfl) (fun _ _ _ h => h) (Or.inl ⟨by rfl, ?_⟩) HS0.out ?_
  · intro w hSw
    have hq : w.cell? ⟨t3, 32, none⟩ = some (.slice (some ⟨pg, 0, none⟩) 1 1) := by rw [hSw.r.cell]; exact vD_at _ _ 0
    go_simp <;> with_reducible rfl
  dsimp only [Act.put]
  simp only [List.setIfInBounds_toArray, List.set_cons_zero, List.set_cons_succ]
  refine wpAnyU_take (i := 3) (oi := ⟨some 15, _, _, _, _, _⟩) (v := .pointer (some ⟨t3, 34, none⟩)) rfl (by kernel_rfl) (by kernel_rfl) (by kernel_rfl) (by kernel_rfl) (by kernel_rfl) (fun _ _ _ h => h) (Or.inl ⟨by rfl, ?_⟩) HS0.out ?_
  · intro w hSw
    go_simp <;> with_reducible rfl
  dsimp only [Act.put]
  simp only [List.setIfInBounds_toArray, List.set_cons_zero, List.set_cons_succ]
  refine wpAnyU_take (i := 4) (oi := ⟨some 16, _, _, _, _, _⟩) (v := .slice none 0 0) rfl (by kernel_rfl) (by kernel_rfl) (by kernel_rfl) (by kernel_rfl) (by kernel_rfl) (fun _ _ _ h => h) (Or.inl ⟨by rfl, ?_⟩) HS0.out ?_
  · intro w hSw
    have hq : w.cell? ⟨t3, 34, none⟩ = some (.slice none 0 0) := by rw [hSw.r.cell]; exact vD_at _ _ 2
    go_simp <;> with_reducible rfl
  dsimp only [Act.put]
  simp only [List.setIfInBounds_toArray, List.set_cons_zero, List.set_cons_succ]
  refine wpAnyU_take (i := 6) (oi := ⟨some 18, _, _, _, _, _⟩) (v := .pointer (some ⟨t3, 35, none⟩)) rfl (by kernel_rfl) (by kernel_rfl) (by kernel_rfl) (by kernel_rfl) (by kernel_rfl) (fun _ _ _ h => h) (Or.inl ⟨by rfl, ?_⟩) HS0.out ?_
  · intro w hSw
    go_simp <;> with_reducible rfl
  dsimp only [Act.put]
  simp only [List.setIfInBounds_toArray, List.set_cons_zero, List.set_cons_succ]
  refine wpAnyU_take (i := 7) (oi := ⟨some 19, _, _, _, _, _⟩) (v := .slice none 0 0) rfl (by kernel_rfl) (by kernel_rfl) (by kernel_rfl) (by kernel_rfl) (by kernel_rfl) (fun _ _ _ h => h) (Or.inl ⟨by rfl, ?_⟩) HS0.out ?_
  · intro w hSw
    have hq : w.cell? ⟨t3, 35, none⟩ = some (.slice none 0 0) := by rw [hSw.r.cell]; exact vD_at _ _ 3
    go_simp <;> with_reducible rfl
  dsimp only [Act.put]
  simp only [List.setIfInBounds_toArray, List.set_cons_zero, List.set_cons_succ]
  refine wpAnyU_take (i := 9) (oi := ⟨some 21, _, _, _, _, _⟩) (v := .pointer (some ⟨t3, 36, none⟩)) rfl (by kernel_rfl) (by kernel_rfl) (by kernel_rfl) (by kernel_rfl) (by kernel_rfl) (fun _ _ _ h => h) (Or.inl ⟨by rfl, ?_⟩) HS0.out ?_
  · intro w hSw
    go_simp <;> with_reducible rfl
  dsimp only [Act.put]
  simp only [List.setIfInBounds_toArray, List.set_cons_zero, List.set_cons_succ]
  refine wpAnyU_take (i := 10) (oi := ⟨some 22, _, _, _, _, _⟩) rfl (by kernel_rfl) (by kernel_rfl) (by kernel_rfl) (by kernel_rfl) (by kernel_rfl) (fun _ _ _ h => h) (yieldsIf_load_mid (by rfl) 62 (.tmp 21) rfl (t3) (36) rfl (resC (.slice (some ⟨fg, 0, none⟩) 1 fc)) _ (fun w h => h.res) Tryz.underlying62 rfl ((by kernel_rfl))) HS0.out ?_
  dsimp only [Act.put]
  simp only [List.setIfInBounds_toArray, List.set_cons_zero, List.set_cons_succ]
  refine wpAnyU_one (i := 2) (oi := ⟨some 14, _, _, _, _, _⟩) (by kernel_rfl) rfl rfl (fun K9 hK9 => ?_)
  have HK9 := Lib.hid hK9
  clear hK9
  go_simp
  with_reducible refine (clone_h1 pg 0 1 gI gI_h _ HS0.out.p).mono ?_
  rintro e w4 ⟨xg, xc, rfl, _, _, _, _, hb9⟩
  dsimp only
  have HS1 := Lib.hid (HS0.out.below hb9)
  have HB1 := Lib.hid (HB.out.trans (hb9.mono HZ.out))
  have HZ1 := Lib.hid (Nat.le_trans HZ.out hb9.size)
  have HY1 := Lib.hid (HY.out.below hb9 HY.out.lt)
  clear HY
  have HY := HY1
  clear HY1
  clear HS0 HB HZ hb9
  have HS0 := HS1
  have HB := HB1
  have HZ := HZ1
  clear HS1 HB1 HZ1
  refine HK9.out _ _ (fun _ _ => HS0.out) ?_
  clear HK9
  simp only [List.setIfInBounds_toArray, List.set_cons_zero, List.set_cons_succ]
  refine wpAnyU_take0 (i := 12) (oi := ⟨some 24, _, _, _, _, _⟩) (v := .pointer (some ⟨t3, 32, none⟩)) rfl (by kernel_rfl) (by kernel_rfl) (by kernel_rfl) (by decide) (fun _ _ _ h => h) (Or.inl ⟨by rfl, ?_⟩) (fun _ => HS0.out) ?_
  · intro w hSw
    go_simp <;> with_reducible rfl
  dsimp only [Act.put]
  simp only [List.setIfInBounds_toArray, List.set_cons_zero, List.set_cons_succ]
  refine wpAnyU_one (i := 5) (oi := ⟨some 17, _, _, _, _, _⟩) (by kernel_rfl) rfl rfl (fun K9 hK9 => ?_)
  have HK9 := Lib.hid hK9
  clear hK9
  go_simp
  with_reducible refine (clone_nil _).mono ?_
  rintro e w5 ⟨rfl, hb9⟩
  dsimp only
  have HS1 := Lib.hid (HS0.out.below hb9)
  have HB1 := Lib.hid (HB.out.trans (hb9.mono HZ.out))
  have HZ1 := Lib.hid (Nat.le_trans HZ.out hb9.size)
  have HY1 := Lib.hid (HY.out.below hb9 HY.out.lt)
  clear HY
  have HY := HY1
  clear HY1
  clear HS0 HB HZ hb9
  have HS0 := HS1
  have HB := HB1
  have HZ := HZ1
  clear HS1 HB1 HZ1
  refine HK9.out _ _ (fun _ _ => HS0.out) ?_
  clear HK9
  simp only [List.setIfInBounds_toArray, List.set_cons_zero, List.set_cons_succ]
  refine wpAnyU_one (i := 8) (oi := ⟨some 20, _, _, _, _, _⟩) (by kernel_rfl) rfl rfl (fun K9 hK9 => ?_)
  have HK9 := Lib.hid hK9
  clear hK9
  go_simp
  with_reducible refine (clone_b _).mono ?_
  rintro e w6 ⟨rfl, hb9⟩
  dsimp only
  have HS1 := Lib.hid (HS0.out.below hb9)
  have HB1 := Lib.hid (HB.out.trans (hb9.mono HZ.out))
  have HZ1 := Lib.hid (Nat.le_trans HZ.out hb9.size)
  have HY1 := Lib.hid (HY.out.below hb9 HY.out.lt)
  clear HY
  have HY := HY1
  clear HY1
  clear HS0 HB HZ hb9
  have HS0 := HS1
  have HB := HB1
  have HZ := HZ1
  clear HS1 HB1 HZ1
  refine HK9.out _ _ (fun _ _ => HS0.out) ?_
  clear HK9
  simp only [List.setIfInBounds_toArray, List.set_cons_zero, List.set_cons_succ]
  refine wpAnyU_one (i := 11) (oi := ⟨some 23, _, _, _, _, _⟩) (by kernel_rfl) rfl rfl (fun K9 hK9 => ?_)
  have HK9 := Lib.hid hK9
  clear hK9
  go_simp
  with_reducible refine (result_emp fg 0 fc _ HS0.out.f).mono ?_
  rintro e w7 ⟨rg, rc, rfl, hb9⟩
  dsimp only
  have HS1 := Lib.hid (HS0.out.below hb9)
  have HB1 := Lib.hid (HB.out.trans (hb9.mono HZ.out))
  have HZ1 := Lib.hid (Nat.le_trans HZ.out hb9.size)
  have HY1 := Lib.hid (HY.out.below hb9 HY.out.lt)
  clear HY
  have HY := HY1
  clear HY1
  clear HS0 HB HZ hb9
  have HS0 := HS1
  have HB := HB1
  have HZ := HZ1
  clear HS1 HB1 HZ1
  refine HK9.out _ _ (fun _ _ => HS0.out) ?_
  clear HK9
  simp only [List.setIfInBounds_toArray, List.set_cons_zero, List.set_cons_succ]
  have HR := Lib.hid HS0.out.r
  have HLr := Lib.hid HZ.out
  clear HS0
  refine wpAnyU_one (i := 13) (oi := ⟨none, _, _, _, _, _⟩) (by kernel_rfl) rfl rfl (fun K9 hK9 => ?_)
  have HK9 := Lib.hid hK9
  clear hK9
  have hc : _ = _ := HR.out.cell 32
  rw [show (32 : Nat) = 32 + 0 from rfl, vD_at] at hc
  dsimp only [List.getElem?_cons_zero, List.getElem?_cons_succ, List.cons_append] at hc
  have hf := HR.out.frozen 32
  go_simp
  have HR1 := Lib.hid (HR.out.set 32 (.slice (some ⟨xg, 0, none⟩) 1 xc))
  have HY1 := Lib.hid (arr_other HY.out HT23.out 32 (.slice (some ⟨xg, 0, none⟩) 1 xc))
  rw [vD_0] at HR1
  have HB1 := Lib.hid (HB.out.setCell (p := ⟨t3, 32, none⟩) HT3.out (.slice (some ⟨xg, 0, none⟩) 1 xc))
  clear hc hf HR HY HB HZ
  have HR := HR1
  have HY := HY1
  have HB := HB1
  clear HR1 HY1 HB1
  have HZ := Lib.hid (show g ≤ _ from Nat.le_trans HT3.out (Nat.le_of_lt HR.out.lt))
  refine HK9.out _ _ (fun h h0 => by first | exact absurd rfl h | exact absurd h0 (by decide)) ?_
  clear HK9
  generalize World.setCell _ _ _ = w8 at *
  simp only [List.setIfInBounds_toArray, List.set_cons_zero, List.set_cons_succ]
  refine wpAnyU_take0 (i := 14) (oi := ⟨some 25, _, _, _, _, _⟩) (v := .pointer (some ⟨t3, 34, none⟩)) rfl (by kernel_rfl) (by kernel_rfl) (by kernel_rfl) (by decide) (fun _ _ _ h => h) (Or.inl ⟨by rfl, ?_⟩) (fun h => absurd h (by decide)) ?_
  · intro w hSw
    go_simp <;> with_reducible rfl
  dsimp only [Act.put]
  simp only [List.setIfInBounds_toArray, List.set_cons_zero, List.set_cons_succ]
  refine wpAnyU_one (i := 15) (oi := ⟨none, _, _, _, _, _⟩) (by kernel_rfl) rfl rfl (fun K9 hK9 => ?_)
  have HK9 := Lib.hid hK9
  clear hK9
  have hc : _ = _ := HR.out.cell 34
  rw [show (34 : Nat) = 32 + 2 from rfl, vD_at] at hc
  dsimp only [List.getElem?_cons_zero, List.getElem?_cons_succ, List.cons_append] at hc
  have hf := HR.out.frozen 34
  go_simp
  have HR1 := Lib.hid (HR.out.set 34 (.slice none 0 0))
  have HY1 := Lib.hid (arr_other HY.out HT23.out 34 (.slice none 0 0))
  rw [vD_2] at HR1
  have HB1 := Lib.hid (HB.out.setCell (p := ⟨t3, 34, none⟩) HT3.out (.slice none 0 0))
  clear hc hf HR HY HB HZ
  have HR := HR1
  have HY := HY1
  have HB := HB1
  clear HR1 HY1 HB1
  have HZ := Lib.hid (show g ≤ _ from Nat.le_trans HT3.out (Nat.le_of_lt HR.out.lt))
  refine HK9.out _ _ (fun h h0 => by first | exact absurd rfl h | exact absurd h0 (by decide)) ?_
  clear HK9
  generalize World.setCell _ _ _ = w9 at *
  simp only [List.setIfInBounds_toArray, List.set_cons_zero, List.set_cons_succ]
  refine wpAnyU_take0 (i := 16) (oi := ⟨some 26, _, _, _, _, _⟩) (v := .pointer (some ⟨t3, 35, none⟩)) rfl (by kernel_rfl) (by kernel_rfl) (by kernel_rfl) (by decide) (fun _ _ _ h => h) (Or.inl ⟨by rfl, ?_⟩) (fun h => absurd h (by decide)) ?_
  · intro w hSw
    go_simp <;> with_reducible rfl
  dsimp only [Act.put]
  simp only [List.setIfInBounds_toArray, List.set_cons_zero, List.set_cons_succ]
  refine wpAnyU_one (i := 17) (oi := ⟨none, _, _, _, _, _⟩) (by kernel_rfl) rfl rfl (fun K9 hK9 => ?_)
  have HK9 := Lib.hid hK9
  clear hK9
  have hc : _ = _ := HR.out.cell 35
  rw [show (35 : Nat) = 32 + 3 from rfl, vD_at] at hc
  dsimp only [List.getElem?_cons_zero, List.getElem?_cons_succ, List.cons_append] at hc
  have hf := HR.out.frozen 35
  go_simp
  have HR1 := Lib.hid (HR.out.set 35 (.slice none 0 0))
  have HY1 := Lib.hid (arr_other HY.out HT23.out 35 (.slice none 0 0))
  rw [vD_3] at HR1
  have HB1 := Lib.hid (HB.out.setCell (p := ⟨t3, 35, none⟩) HT3.out (.slice none 0 0))
  clear hc hf HR HY HB HZ
  have HR := HR1
  have HY := HY1
  have HB := HB1
  clear HR1 HY1 HB1
  have HZ := Lib.hid (show g ≤ _ from Nat.le_trans HT3.out (Nat.le_of_lt HR.out.lt))
  refine HK9.out _ _ (fun h h0 => by first | exact absurd rfl h | exact absurd h0 (by decide)) ?_
  clear HK9
  generalize World.setCell _ _ _ = w10 at *
  simp only [List.setIfInBounds_toArray, List.set_cons_zero, List.set_cons_succ]
  refine wpAnyU_take0 (i := 18) (oi := ⟨some 27, _, _, _, _, _⟩) (v := .pointer (some ⟨t3, 36, none⟩)) rfl (by kernel_rfl) (by kernel_rfl) (by kernel_rfl) (by decide) (fun _ _ _ h => h) (Or.inl ⟨by rfl, ?_⟩) (fun h => absurd h (by decide)) ?_
  · intro w hSw
    go_simp <;> with_reducible rfl
  dsimp only [Act.put]
  simp only [List.setIfInBounds_toArray, List.set_cons_zero, List.set_cons_succ]
  refine wpAnyU_one (i := 19) (oi := ⟨none, _, _, _, _, _⟩) (by kernel_rfl) rfl rfl (fun K9 hK9 => ?_)
  have HK9 := Lib.hid hK9
  clear hK9
  refine wp_store_mid (P := Tryz.prog) 62 _ _ rfl t3 36 (resC (.slice (some ⟨rg, 0, none⟩) 1 rc)).toArray rfl rfl (there_at HR.out 36 _ (by rw [List.size_toArray, vD_len]; exact Nat.le_refl _)) (by kernel_rfl) (by kernel_rfl) ?_
  rw [show (resC (.slice (some ⟨rg, 0, none⟩) 1 rc)).toArray.toList = resC (.slice (some ⟨rg, 0, none⟩) 1 rc) from rfl]
  have HR1 := Lib.hid (HR.out.sets (resC (.slice (some ⟨rg, 0, none⟩) 1 rc)) 36 (by rw [vD_len]; exact Nat.le_refl _))
  rw [vD_5] at HR1
  have HY1 := Lib.hid (arr_sets HY.out HT23.out (resC (.slice (some ⟨rg, 0, none⟩) 1 rc)) 36 _ HY.out)
  have HB1 := Lib.hid (below_sets t3 HT3.out (resC (.slice (some ⟨rg, 0, none⟩) 1 rc)) 36 HB.out)
  clear HR HY HB HZ
  generalize World.setCells _ _ _ _ = w11 at *
  dsimp only [Act.put]
  refine HK9.out _ _ (fun h h0 => by first | exact absurd rfl h | exact absurd h0 (by decide)) ?_
  clear HK9
  simp only [List.setIfInBounds_toArray, List.set_cons_zero, List.set_cons_succ]
  refine wpAnyU_done (by kernel_rfl) ?_ _
  go_upto_region 5 with fail
  go_step
  refine wpList_load_mid (P := Tryz.prog) rfl 82 _ rfl (t3) (0) rfl _ _ (HR1.out.range) Tryz.underlying82 rfl (vir_size _ _) ?_
  simp only [Act.put, List.setIfInBounds_toArray, List.set_cons_zero, List.set_cons_succ]
  refine wpList_store_mid (P := Tryz.prog) rfl 82 _ _ rfl g 0 _ rfl rfl (HY1.out.there _ (by rw [List.size_toArray, vD_len, v0C_len])) (by rw [List.size_toArray]; exact vir_size _ _) (all_oneCell_toArray (vD_one _ _ rfl rfl)) ?_
  have HF := Lib.hid (HY1.out.setAll (vD (.slice (some ⟨xg, 0, none⟩) 1 xc) (.slice (some ⟨rg, 0, none⟩) 1 rc)) (by rw [vD_len, v0C_len]))
  have HB4 := Lib.hid (below_sets g (Nat.le_refl g) (vD (.slice (some ⟨xg, 0, none⟩) 1 xc) (.slice (some ⟨rg, 0, none⟩) 1 rc)) 0 HB1.out)
  rw [show (vD (.slice (some ⟨xg, 0, none⟩) 1 xc) (.slice (some ⟨rg, 0, none⟩) 1 rc)).toArray.toList = vD (.slice (some ⟨xg, 0, none⟩) 1 xc) (.slice (some ⟨rg, 0, none⟩) 1 rc) from rfl]
  generalize World.setCells _ _ _ _ = w12 at *
  clear HR1 HY1 HB1
  go_wp2
  refine bodyPost_ret (results_cell_row (P := Tryz.prog) rfl _ _ g 82 _ (0, 0) _ rfl HF.out Tryz.underlying82 rfl (by rw [List.size_toArray]; exact vir_size _ _)) rfl ?_
  exact ⟨_, _, rfl, by rw [HG.out]; exact HB4.out⟩
end Go.Proofs.YthnbnckmeffkmaaGreat
/- the chapter's row. -/
namespace Go.Proofs.YthnbnckmeffkmaaGreat
open Go.RowKit Go.Lib
set_option linter.unusedVariables false
set_option linter.unusedSimpArgs false
attribute [local go_sem ↓] Go.wp_at_zero Go.wp_at_succ

theorem par_build (w : World) : (Instr.build 26 #[(1, .int .i64 1), (2, .int .i64 1)]).run Tryz.prog w = .ok (.agg pC.toArray) w := by kernel_rfl
theorem vfield0_0 (H : List Nat) (hH : H.length = 32) (pv fv : Value) (w : World) : (Instr.field 82 (.agg (bys H ++ ([pv, .int .u64 1, .slice none 0 0, .slice none 0 0] ++ resC fv)).toArray) 0).run Tryz.prog w = .ok (.agg (bys H).toArray) w := by
  match H, hH with
  | [x0, x1, x2, x3, x4, x5, x6, x7, x8, x9, x10, x11, x12, x13, x14, x15, x16, x17, x18, x19, x20, x21, x22, x23, x24, x25, x26, x27, x28, x29, x30, x31], _ => show _ = _; kernel_rfl
theorem vfield0 (pv fv : Value) (w : World) : (Instr.field 82 (.agg (vD pv fv).toArray) 0).run Tryz.prog w = .ok (.agg (bys gI).toArray) w := vfield0_0 gI gI_h.1 pv fv w
theorem vfield2_0 (H : List Nat) (hH : H.length = 32) (pv fv : Value) (w : World) : (Instr.field 82 (.agg (bys H ++ ([pv, .int .u64 1, .slice none 0 0, .slice none 0 0] ++ resC fv)).toArray) 2).run Tryz.prog w = .ok (.int .u64 1) w := by
  match H, hH with
  | [x0, x1, x2, x3, x4, x5, x6, x7, x8, x9, x10, x11, x12, x13, x14, x15, x16, x17, x18, x19, x20, x21, x22, x23, x24, x25, x26, x27, x28, x29, x30, x31], _ => show _ = _; kernel_rfl
theorem vfield2 (pv fv : Value) (w : World) : (Instr.field 82 (.agg (vD pv fv).toArray) 2).run Tryz.prog w = .ok (.int .u64 1) w := vfield2_0 gI gI_h.1 pv fv w
structure KnS (G : GB) (pg fg fc : Nat) (sv : Value) (w : World) : Prop where
  n : Gen G (vC pg (.slice (some ⟨fg, 0, none⟩) 1 fc)) sv w
  p : w.rangeAt pg 0 (bys gI)
  f : w.rangeAt fg 0 [Value.int .u64 0]
theorem KnS.below {G : GB} {pg fg fc : Nat} {sv : Value} {w w' : World} (h : KnS G pg fg fc sv w) (hb : Below w.heap.size w w') : KnS G pg fg fc sv w' := ⟨h.n.below hb, range_keep h.p gI_h hb, range_keep0 h.f hb⟩
set_option maxRecDepth 100000 in
set_option maxHeartbeats 3200000 in
theorem known25 (w : World) : Calls Tryz.prog 7 #[] w fun e w' => e = .returned (.bool true) ∧ Below w.heap.size w w' := by
  have hpb := par_build
  go_enter Tryz.func7, Tryz.ntmps7
  have HC := Lib.hid (spec_of w)
  go_wp2_with fail
  refine HC.out.mono ?_
  rintro e w2 ⟨G, rfl, ⟨pg, fg, fc, s, h1, h2, h3, _⟩, hb9⟩
  dsimp only
  have HS := Lib.hid (show KnS G pg fg fc _ w2 from ⟨h1, h2, h3⟩)
  have HB := Lib.hid hb9
  have HZ := Lib.hid hb9.size
  clear hpb h1 h2 h3 hb9 HC
  have HC := Lib.hid (lnum_any 0 w2)
  go_wp2_with fail
  with_reducible refine HC.out.mono ?_
  rintro e w3 ⟨rfl, hb9⟩
  dsimp only
  have HS1 := Lib.hid (HS.out.below hb9)
  have HB1 := Lib.hid (HB.out.trans (hb9.mono HZ.out))
  have HZ1 := Lib.hid (Nat.le_trans HZ.out hb9.size)
  clear hb9 HC HS HB HZ
  have HS := HS1
  have HB := HB1
  have HZ := HZ1
  clear HS1 HB1 HZ1
  have HC := Lib.hid (all_one G _ _ w3 HS.out.n)
  go_wp2_with fail
  with_reducible refine HC.out.mono ?_
  rintro e w4 ⟨ag, ac, rfl, _, _, _, hb9⟩
  dsimp only
  have HS1 := Lib.hid (HS.out.below hb9)
  have HB1 := Lib.hid (HB.out.trans (hb9.mono HZ.out))
  have HZ1 := Lib.hid (Nat.le_trans HZ.out hb9.size)
  clear hb9 HC HS HB HZ
  have HS := HS1
  have HB := HB1
  have HZ := HZ1
  clear HS1 HB1 HZ1
  have HC := Lib.hid (virt_one G pg fg fc _ w4 HS.out.n HS.out.p HS.out.f)
  go_wp2_with fail
  with_reducible refine HC.out.mono ?_
  rintro e w5 ⟨pv, fv, rfl, hb9⟩
  dsimp only
  have HS1 := Lib.hid (HS.out.below hb9)
  have HB1 := Lib.hid (HB.out.trans (hb9.mono HZ.out))
  have HZ1 := Lib.hid (Nat.le_trans HZ.out hb9.size)
  clear hb9 HC HS HB HZ
  have HS := HS1
  have HB := HB1
  have HZ := HZ1
  clear HS1 HB1 HZ1
  have hv0 := vfield0 pv fv
  have HC := Lib.hid (all_one G _ _ w5 HS.out.n)
  go_wp2_with fail
  with_reducible refine HC.out.mono ?_
  rintro e w6 ⟨bg, bc, rfl, hc1, hc2, hr, hb9⟩
  dsimp only
  have HS1 := Lib.hid (HS.out.below hb9)
  have HB1 := Lib.hid (HB.out.trans (hb9.mono HZ.out))
  have HZ1 := Lib.hid (Nat.le_trans HZ.out hb9.size)
  have HR := Lib.hid hr
  clear hb9 HC HS HB HZ
  have HS := HS1
  have HB := HB1
  have HZ := HZ1
  clear HS1 HB1 HZ1
  clear hv0
  iterate 4 (first | go_values | go_skip | go_guarded | go_step | go_upon)
  refine wpList_step (fun K9 hK9 => ?_)
  rw [if_pos (by kernel_rfl)]
  refine wp_load_mid (P := Tryz.prog) 24 _ rfl bg 0 rfl (bys gI) _ HR.out Tryz.underlying24 rfl (size_h2 gI gI_h) (hK9 _ _ ?_)
  simp only [Act.put, List.setIfInBounds_toArray, List.set_cons_zero, List.set_cons_succ]
  clear hK9
  have hns := eq_self w6
  have HC := Lib.hid (virt_one G pg fg fc _ w6 HS.out.n HS.out.p HS.out.f)
  go_wp2_with fail
  with_reducible refine HC.out.mono ?_
  rintro e w7 ⟨pv2, fv2, rfl, hb9⟩
  dsimp only
  have HS1 := Lib.hid (HS.out.below hb9)
  have HB1 := Lib.hid (HB.out.trans (hb9.mono HZ.out))
  have HZ1 := Lib.hid (Nat.le_trans HZ.out hb9.size)
  clear hb9 HC HS HB HZ
  have HS := HS1
  have HB := HB1
  have HZ := HZ1
  clear HS1 HB1 HZ1
  clear hns
  have hv2 := vfield2 pv2 fv2
  go_wp2
  go_ret
  exact ⟨rfl, HB.out⟩
end Go.Proofs.YthnbnckmeffkmaaGreat
