/- sha.hasher.add. -/
import Derived.Test.YthnbnckmeffkmaaGreatG07
import Derived.StillTailTactics
import Derived.Deep.RegionHeld3
import Derived.Deep.DrawnRows
import Derived.Deep.RegionLaw
namespace Go.Proofs.YthnbnckmeffkmaaGreat
open Go.RowKit Go.Lib
set_option linter.unusedVariables false
set_option linter.unusedSimpArgs false
attribute [local go_sem ↓] Go.wp_at_zero Go.wp_at_succ

/-- The hasher's block. -/
def HsC (K S : List Nat) (v : Value) (n : Nat) : List Value := words K ++ words S ++ [v, .int .u64 (n : Nat)]
def HsA (w : World) (b : Nat) (K S : List Nat) (v : Value) (n : Nat) : Prop := Arr w b 271 (HsC K S v n) ∧ K.length = 64 ∧ S.length = 8
theorem HsC_len (K S : List Nat) (v : Value) (n : Nat) (hK : K.length = 64) (hS : S.length = 8) : (HsC K S v n).length = 74 := by simp [HsC, words_len, hK, hS]
theorem HsA.n73 {w : World} {b : Nat} {K S : List Nat} {v : Value} {n : Nat} (h : HsA w b K S v n) : w.cell? ⟨b, 73, none⟩ = some (.int .u64 (n : Nat)) := by
  rw [h.1.cell]; unfold HsC; rw [List.getElem?_append_right (by simp [words_len, h.2.1, h.2.2])]; simp [words_len, h.2.1, h.2.2]
theorem HsA.l72 {w : World} {b : Nat} {K S : List Nat} {v : Value} {n : Nat} (h : HsA w b K S v n) : w.cell? ⟨b, 72, none⟩ = some v := by
  rw [h.1.cell]; unfold HsC; rw [List.getElem?_append_right (by simp [words_len, h.2.1, h.2.2])]; simp [words_len, h.2.1, h.2.2]
theorem HsA.kR {w : World} {b : Nat} {K S : List Nat} {v : Value} {n : Nat} (h : HsA w b K S v n) : w.rangeAt b 0 (words K) := by
  intro j u hu
  rw [Nat.zero_add, h.1.cell]; unfold HsC
  have hj : j < (words K).length := (List.getElem?_eq_some_iff.1 hu).1
  rw [List.append_assoc, List.getElem?_append_left hj]; exact hu
theorem HsA.sR {w : World} {b : Nat} {K S : List Nat} {v : Value} {n : Nat} (h : HsA w b K S v n) : w.rangeAt b 64 (words S) := by
  intro j u hu
  rw [h.1.cell]; unfold HsC
  have hj : j < (words S).length := (List.getElem?_eq_some_iff.1 hu).1
  have hk := h.2.1
  rw [List.append_assoc, List.getElem?_append_right (by rw [words_len]; omega), words_len, show 64 + j - K.length = j by omega, List.getElem?_append_left hj]; exact hu
theorem HsA.setN {w : World} {b : Nat} {K S : List Nat} {v : Value} {n : Nat} (h : HsA w b K S v n) (m : Nat) : HsA (w.setCell ⟨b, 73, none⟩ (.int .u64 (m : Nat))) b K S v m := by
  refine ⟨?_, h.2⟩
  have := h.1.set 73 (.int .u64 (m : Nat))
  have e : (HsC K S v n).set 73 (.int .u64 (m : Nat)) = HsC K S v m := by
    unfold HsC; rw [List.set_append_right _ _ (by simp [words_len, h.2.1, h.2.2])]; simp [words_len, h.2.1, h.2.2]
  rw [e] at this; exact this
theorem HsA.setV {w : World} {b : Nat} {K S : List Nat} {v : Value} {n : Nat} (h : HsA w b K S v n) (u : Value) : HsA (w.setCell ⟨b, 72, none⟩ u) b K S u n := by
  refine ⟨?_, h.2⟩
  have := h.1.set 72 u
  have e : (HsC K S v n).set 72 u = HsC K S u n := by
    unfold HsC; rw [List.set_append_right _ _ (by simp [words_len, h.2.1, h.2.2])]; simp [words_len, h.2.1, h.2.2]
  rw [e] at this; exact this
theorem HsA.setS {w : World} {b : Nat} {K S : List Nat} {v : Value} {n : Nat} (h : HsA w b K S v n) (S' : List Nat) (hS : S'.length = 8) : HsA (w.setCells b 64 (words S')) b K S' v n := by
  refine ⟨?_, h.2.1, hS⟩
  have := h.1.sets (words S') 64 (by rw [HsC_len _ _ _ _ h.2.1 h.2.2, words_len, hS]; omega)
  have e : (HsC K S v n).take 64 ++ words S' ++ (HsC K S v n).drop (64 + (words S').length) = HsC K S' v n := by
    unfold HsC
    rw [words_len, hS, List.append_assoc (words K), List.take_left' (by rw [words_len, h.2.1]), show 64 + 8 = (words K).length + (words S).length by rw [words_len, words_len, h.2.1, h.2.2], ← List.append_assoc, ← List.length_append, List.drop_left]
  rw [e] at this; exact this
theorem HsA.below {B : Nat} {w w' : World} {b : Nat} {K S : List Nat} {v : Value} {n : Nat} (h : HsA w b K S v n) (hb : Below B w w') (hB : b < B) : HsA w' b K S v n := ⟨h.1.below hb hB, h.2⟩
/-- What the hasher holds when the bytes M have come. -/
def HsM (w : World) (b : Nat) (M : List Nat) : Prop := ∃ v, HsA w b kTab (foldB kTab (M.length / 64) hTab M) v M.length ∧ Lft w (b + 1) v (M.drop (64 * (M.length / 64)))

theorem rangeAt_below {B : Nat} {w w' : World} {b o : Nat} {vs : List Value} (h : w.rangeAt b o vs) (hb : Below B w w') (hB : b < B) : w'.rangeAt b o vs :=
  fun j u hu => (hb.cell (p := ⟨b, o + j, none⟩) hB).trans (h j u hu)
theorem step_load_mid {P : Program} {ops : Array Oper} {o : Oper} {a : Act} {w : World} {K : Act → World → Prop} {Q : Exit → Act → World → Prop} {E : Prop} (hgd : o.guard = none) (ty : TypeId) (x : Operand) (ho : o.op = .load ty x)
    (b o' : Nat) (hx : a.eval x = .pointer (some ⟨b, o', none⟩)) (cs : List Value) (d : TypeDesc) (hc : w.rangeAt b o' cs) (hu : P.underlying ty = some d) (hd : d.isRow = true) (hi : (P.info? ty).map (·.size) = some cs.length)
    (h : K (a.put o.dst (.agg cs.toArray)) w) : if Region.wanted o (yielded ops a.tmps) = true then Oper.wp P o a w K Q else E := by
  rw [if_pos (by simp [Region.wanted, hgd])]
  exact wp_load_mid ty x ho b o' hx cs d hc hu hd hi h
theorem step_store_mid {P : Program} {ops : Array Oper} {o : Oper} {a : Act} {w : World} {K : Act → World → Prop} {Q : Exit → Act → World → Prop} {E : Prop} (hgd : o.guard = none) (ty : TypeId) (x y : Operand) (ho : o.op = .store ty x y)
    (b o' : Nat) (cells : Array Value) (hx : a.eval x = .pointer (some ⟨b, o', none⟩)) (hy : a.eval y = .agg cells) (ht : w.there b o' cells.size) (hi : (P.info? ty).map (·.size) = some cells.size) (h1 : cells.all (·.oneCell') = true)
    (h : K (a.put o.dst undef) (w.setCells b o' cells.toList)) : if Region.wanted o (yielded ops a.tmps) = true then Oper.wp P o a w K Q else E := by
  rw [if_pos (by simp [Region.wanted, hgd])]
  exact wp_store_mid ty x y ho b o' cells hx hy ht hi h1 h
theorem HsA.thereS {w : World} {b : Nat} {K S : List Nat} {v : Value} {n : Nat} (h : HsA w b K S v n) : w.there b 64 8 := by
  intro j hj
  refine ⟨?_, h.1.frozen _⟩
  rw [h.1.cell, List.getElem?_eq_getElem (by rw [HsC_len _ _ _ _ h.2.1 h.2.2]; omega)]; rfl
theorem HsA.drew {w : World} {b : Nat} {K S : List Nat} {v : Value} {n : Nat} (h : HsA w b K S v n) : HsA w.drew b K S v n := h
theorem Byts.setCell {w : World} {v : Value} {L : List Nat} {b : Nat} (h : Byts w v L) (hne : ∀ ad n c, v = .slice (some ad) n c → ad.block ≠ b) (o : Nat) (u : Value) : Byts (w.setCell ⟨b, o, none⟩ u) v L := by
  refine ⟨h.1, h.2.imp id ?_⟩
  rintro ⟨ad, c, h1, h2, h3, h4⟩
  refine ⟨ad, c, h1, h2, h3, fun j hj => ?_⟩
  rw [cell_far _ _ _ _ _ (by rw [addr_block]; exact hne ad _ c h1)]
  exact h4 j hj

set_option maxRecDepth 100000 in
set_option maxHeartbeats 3200000 in
theorem add_any (B b : Nat) (M Y : List Nat) (y : Value) (w : World) (hB : B ≤ b) (hM : HsM w b M) (hY : Byts w y Y) (hne : ∀ ad n c, y = .slice (some ad) n c → ad.block ≠ b) (hl : M.length + Y.length ≤ 1099511627776) :
    Calls Tryz.prog 189 #[.pointer (some ⟨b, 0, none⟩), y] w fun e w' => e = .returned (.tuple #[]) ∧ HsM w' b (M ++ Y) ∧ Below B w w' := by
  obtain ⟨v, hA, hL⟩ := hM
  obtain ⟨ya, yc, rfl⟩ : ∃ a0 c0, y = .slice a0 Y.length c0 := by
    rcases hY.2 with ⟨rfl, rfl⟩ | ⟨ad, c, rfl, _⟩
    · exact ⟨_, _, rfl⟩
    · exact ⟨_, _, rfl⟩
  have hlt : b < w.heap.size := hA.1.lt
  have c73 := hA.n73
  have f73 := hA.1.frozen 73
  have hn : (M.length : Int) + (Y.length : Int) < 18446744073709551616 := by omega
  obtain ⟨n0, hn0⟩ : ∃ n0 : Int, ((M.length : Nat) : Int) = n0 := ⟨_, rfl⟩
  rw [hn0] at c73
  have HN0 := Lib.hid hn0
  have HA := Lib.hid hA
  have HL := Lib.hid hL
  have HY := Lib.hid hY
  have HLn := Lib.hid hl
  have HLt := Lib.hid hlt
  have HBb := Lib.hid hB
  clear hA hL hY hl hlt hn hn0 hB
  go_enter Tryz.func189, Tryz.ntmps189
  go_upto_region 1 with fail
  rw [show IntKind.u64.wrap (n0 + IntKind.u64.wrap (Y.length : Int)) = ((M.length + Y.length : Nat) : Int) by
    have := HLn.out; have := HN0.out
    rw [show IntKind.u64.wrap (Y.length : Int) = (Y.length : Int) by rw [IntKind.wrap_u64]; omega, IntKind.wrap_u64]; omega]
  obtain ⟨K, hK⟩ : ∃ K, K = kTab := ⟨_, rfl⟩
  have hA1 := HA.out.setN (M.length + Y.length)
  have hL1 := HL.out.setCell (Nat.lt_succ_self b) (o := 73) (.int .u64 ((M.length + Y.length : Nat) : Int))
  have hY1 := HY.out.setCell hne 73 (.int .u64 ((M.length + Y.length : Nat) : Int))
  have hB1 : Below B w (w.setCell ⟨b, 73, none⟩ (.int .u64 ((M.length + Y.length : Nat) : Int))) := (Below.refl _ _).setCell HBb.out _
  have hs1 : (w.setCell ⟨b, 73, none⟩ (.int .u64 ((M.length + Y.length : Nat) : Int))).heap.size = w.heap.size := by simp
  rw [← hK] at hA1
  have HA1 := Lib.hid hA1
  have HL1 := Lib.hid hL1
  have HY1 := Lib.hid hY1
  have HB1 := Lib.hid hB1
  have HS1 := Lib.hid hs1
  have HK := Lib.hid hK
  clear hA1 hL1 hY1 hB1 hs1 c73 f73 HA HL HY hne hK
  generalize World.setCell _ _ _ = w1 at *
  have c72 := HA1.out.l72
  obtain ⟨L0, hL0⟩ : ∃ L0, L0 = M.drop (64 * (M.length / 64)) := ⟨_, rfl⟩
  have hL1 := HL1.out
  rw [← hL0] at hL1
  have HL2 := Lib.hid hL1
  have HL0 := Lib.hid hL0
  have HLl := Lib.hid (show L0.length + Y.length ≤ 140737488355328 by have := HLn.out; rw [hL0, List.length_drop]; omega)
  have Hbs := Lib.hid (show b + 1 ≤ w1.heap.size from HA1.out.1.lt)
  obtain ⟨S0, hS0⟩ : ∃ S0, S0 = foldB K (M.length / 64) hTab M := ⟨_, rfl⟩
  have hA1 := HA1.out
  rw [← hS0] at hA1
  have HA2 := Lib.hid hA1
  have HS0 := Lib.hid hS0
  clear hL0 hL1 hA1 HA1 HL1 hS0
  obtain ⟨LY, hLY⟩ : ∃ LY, L0 ++ Y = LY := ⟨_, rfl⟩
  have HLY := Lib.hid hLY
  clear hLY
  go_wp2_with (at_builtin; refine appL (b + 1) rfl (.tmp 18) (.tmp 19) rfl v (.slice ya Y.length yc) L0 Y LY HLY.out rfl rfl HL2.out HY1.out Hbs.out HLl.out ?_)
  intro v2 w2 hv2 hb2
  obtain ⟨a2, c2, rfl⟩ := hv2.out.form
  have hA3 := HA2.out.below (hb2.out (b + 1) _ (Below.refl _ _) (Nat.le_refl _)) (Nat.lt_succ_self _)
  have HA3 := Lib.hid hA3
  have HB2 := Lib.hid (hb2.out B _ HB1.out (by have := HBb.out; omega))
  have d72 := hA3.l72
  have f72 := hA3.1.frozen 72
  clear hA3 hb2 c72
  go_upto_region 2 with fail
  have hA4 := HA3.out.setV (.slice a2 LY.length c2)
  have hL4 := hv2.out.setCell (Nat.lt_succ_self b) (o := 72) (.slice a2 LY.length c2)
  have hB4 : Below B w (w2.setCell ⟨b, 72, none⟩ (.slice a2 LY.length c2)) := HB2.out.setCell HBb.out _
  obtain ⟨MM, hMM⟩ : ∃ MM, MM = M ++ Y := ⟨_, rfl⟩
  have hMl : MM.length = M.length + Y.length := by rw [hMM, List.length_append]
  have hq : M.length / 64 ≤ MM.length / 64 := by omega
  have hqs : MM.length / 64 - (MM.length / 64 - M.length / 64) = M.length / 64 := by omega
  rw [← hMl] at hA4
  have hS4 : S0 = foldB K (MM.length / 64 - (MM.length / 64 - M.length / 64)) hTab MM := by
    rw [hqs, hMM, foldB_app K _ _ _ _ (by omega), HS0.out]
  have hD4 : LY = MM.drop (64 * (MM.length / 64 - (MM.length / 64 - M.length / 64))) := by
    rw [hqs, hMM, ← HLY.out, List.drop_append_of_le_length (by omega), HL0.out]
  rw [hS4] at hA4
  have hL5 : Lft (w2.setCell ⟨b, 72, none⟩ (.slice a2 LY.length c2)) (b + 1) (.slice a2 LY.length c2) (MM.drop (64 * (MM.length / 64 - (MM.length / 64 - M.length / 64)))) := by rw [← hD4]; exact hL4
  have HA4 := Lib.hid hA4
  have HL4 := Lib.hid hL5
  have HB4 := Lib.hid hB4
  have HMM := Lib.hid hMM
  have HMl := Lib.hid hMl
  clear hA4 hL4 hL5 hB4 hMM hMl hq hqs hS4 hD4 d72 f72 HA3 HB2 HA2 HL2 HY1 HB1 HS1 Hbs hv2 HS0 HL0
  generalize World.setCell _ _ _ = w4 at *
  go_wp2
  go_loopg [] (MM.length / 64 - M.length / 64) (fun g wq => Hid (g ≤ MM.length / 64 - M.length / 64) ∧ ∃ vv, Hid (HsA wq b K (foldB K (MM.length / 64 - g) hTab MM) vv MM.length) ∧ Hid (Lft wq (b + 1) vv (MM.drop (64 * (MM.length / 64 - g)))) ∧ Hid (Below B w wq))
  case atStart => exact ⟨Nat.le_refl _, _, HA4.out, HL4.out, HB4.out⟩
  case round =>
    obtain ⟨hg, vv, hA, hL, hBl⟩ := hrel
    have HG := Lib.hid hg.out
    have HA := Lib.hid hA.out
    have HB := Lib.hid hBl.out
    have hl1 := hL.out
    have hll : (MM.drop (64 * (MM.length / 64 - gk))).length = MM.length - 64 * (MM.length / 64 - gk) := List.length_drop
    obtain ⟨L1, hL1⟩ : ∃ L1, L1 = MM.drop (64 * (MM.length / 64 - gk)) := ⟨_, rfl⟩
    rw [← hL1] at hl1 hll
    have HL1 := Lib.hid hl1
    have HLd := Lib.hid hL1
    have c72 := HA.out.l72
    clear hg hA hL hBl HA4 HL4 HB4 hL1
    cases gk with
    | zero =>
      obtain ⟨a1, c1, rfl⟩ := hl1.form
      have hlt : ¬ (64 ≤ (L1.length : Int)) := by omega
      have HD := Lib.hid hll
      clear hll hl1
      go_wp2
      go_end0
      refine ⟨rfl, ?_, HB.out⟩
      rw [← HMM.out]
      refine ⟨_, by rw [← HK.out]; exact HA.out, ?_⟩
      have h := HL1.out
      have e : L1 = MM.drop (64 * (MM.length / 64)) := HLd.out
      rw [← e]
      exact h
    | succ g =>
      rcases hl1.2 with ⟨_, h0⟩ | ⟨gg, off, cap, cur, rfl, p1, p2, p3, p4, p5, p6⟩
      · rw [h0] at hll; simp at hll; have := HG.out; omega
      · have hL64 : 64 ≤ L1.length := by have := HG.out; omega
        have h64 : (64 : Int) ≤ (L1.length : Int) := by omega
        have h64c : (64 : Int) ≤ (cap : Int) := by omega
        have hcap : (L1.length : Int) ≤ (cap : Int) := by omega
        have hcm : (cap : Int) ≤ 9223372036854775807 := by unfold maxLen at p4; omega
        have HP := Lib.hid (And.intro p1 (And.intro p2 (And.intro p3 (And.intro p4 (And.intro p5 p6)))))
        have H64 := Lib.hid hL64
        obtain ⟨S1, hS1⟩ : ∃ S1, S1 = foldB K (MM.length / 64 - (g + 1)) hTab MM := ⟨_, rfl⟩
        rw [← hS1] at HA
        have HS1 := Lib.hid hS1
        clear hS1
        have HI1 := Lib.hid (show (Tryz.prog.info? 266).map (·.size) = some (words K).length by rw [words_len, HA.out.2.1]; exact size64)
        have HI2 := Lib.hid (show (Tryz.prog.info? 268).map (·.size) = some (words S1).length by rw [words_len, HA.out.2.2]; exact size8)
        have HAd := Lib.hid HA.out.drew
        have hlen : K.length = 64 := HA.out.2.1
        have HKl := Lib.hid hlen
        obtain ⟨blk, hblk⟩ : ∃ blk, blk = L1.take 64 := ⟨_, rfl⟩
        have hbk : IsBlk wr ⟨gg, off, none⟩ blk := by
          refine ⟨by rw [hblk, List.length_take]; omega, fun j hj => ?_⟩
          have hg : blk.getD j 0 = L1.getD j 0 := by rw [hblk]; simp [List.getD, List.getElem?_take, hj]
          have hm : L1.getD j 0 ∈ L1 := by
            have hl : j < L1.length := by omega
            rw [show L1.getD j 0 = L1[j] by simp only [List.getD, List.getElem?_eq_getElem hl, Option.getD_some]]
            exact List.getElem_mem hl
          rw [hg]
          refine ⟨hl1.1 _ hm, ?_⟩
          rw [Addr.add_lit, cell_of_row wr gg (off + j) cur _ _ p2]
          exact p6 j (by omega)
        have HBk := Lib.hid (show IsBlk wr.drew ⟨gg, off, none⟩ blk from hbk)
        have HBlk := Lib.hid hblk
        have hS32 : ∀ x ∈ S1, x < 4294967296 := by rw [HS1.out]; exact foldB_lt _ _ _ _ hTab_lt
        obtain ⟨YY, hYY⟩ : ∃ YY, YY = pressF K S1 blk := ⟨_, rfl⟩
        have hYl : YY.length = 8 := by rw [hYY]; exact pressF_len _ _ _ HA.out.2.2
        have hbl : b < wr.drew.heap.size := HA.out.1.lt
        have hP2 : Calls Tryz.prog 225 #[.agg (words K).toArray, .agg (words S1).toArray, .slice (some ⟨gg, off, none⟩) 64 cap] wr.drew fun e w' => e = .returned (.agg (words YY).toArray) ∧ Hid (HsA w' b K S1 (.slice (some ⟨gg, off, none⟩) L1.length cap) MM.length ∧ Below wr.drew.heap.size wr.drew w') := by
          refine (press_any K S1 blk HKl.out HA.out.2.2 hS32 ⟨gg, off, none⟩ cap _ HBk.out).mono ?_
          rintro e w5 ⟨he, hb5⟩
          exact ⟨by rw [hYY]; exact he, HAd.out.below hb5 hbl, hb5⟩
        have HP2 := Lib.hid hP2
        have HYY := Lib.hid hYY
        have HYl := Lib.hid hYl
        have HI3 := Lib.hid (show (Tryz.prog.info? 268).map (·.size) = some (words YY).toArray.size by rw [List.size_toArray, words_len, hYl]; exact size8)
        have HO3 := Lib.hid (all_oneCell_toArray (words_one YY))
        clear p1 p2 p3 p4 p5 p6 hL64 hll hl1 hlen hblk hbk hS32 hYY hYl hP2 HBk hbl
        go_upto_region 3 with fail
        refine wp_region_T (fun w' => HsA w' b K S1 (.slice (some ⟨gg, off, none⟩) L1.length cap) MM.length) 17 (by kernel_rfl) ?_
        simp only [Act.put, List.setIfInBounds_toArray, List.set_cons_zero, List.set_cons_succ, List.size_toArray, List.length_cons, List.length_nil, Nat.reduceAdd, Array.replicate_succ, Array.replicate_zero, List.push_toArray, List.nil_append, List.cons_append]
        refine wpAnyT_take (i := 0) (oi := ⟨some 29, _, _, _, _, _⟩) (v := ?_) rfl (by kernel_rfl) (by kernel_rfl) (by kernel_rfl) (by kernel_rfl) (fun _ _ _ h => h) (Or.inl ⟨by rfl, ?_⟩) HAd.out ?_
        rotate_left
        · intro w hSw; go_simp; with_reducible rfl
        dsimp only [Act.put]
        simp only [List.setIfInBounds_toArray, List.set_cons_zero, List.set_cons_succ]
        refine wpAnyT_take (i := 1) (oi := ⟨some 30, _, _, _, _, _⟩) (v := ?_) rfl (by kernel_rfl) (by kernel_rfl) (by kernel_rfl) (by kernel_rfl) (fun _ _ _ h => h) (Or.inl ⟨by rfl, ?_⟩) HAd.out ?_
        rotate_left
        · intro w hSw; go_simp; with_reducible rfl
        dsimp only [Act.put]
        simp only [List.setIfInBounds_toArray, List.set_cons_zero, List.set_cons_succ]
        refine wpAnyT_take (i := 2) (oi := ⟨some 31, _, _, _, _, _⟩) (v := ?_) rfl (by kernel_rfl) (by kernel_rfl) (by kernel_rfl) (by kernel_rfl) (fun _ _ _ h => h) (Or.inl ⟨by rfl, ?_⟩) HAd.out ?_
        rotate_left
        · intro w hSw; go_simp; with_reducible rfl
        dsimp only [Act.put]
        simp only [List.setIfInBounds_toArray, List.set_cons_zero, List.set_cons_succ]
        refine wpAnyT_take (i := 3) (oi := ⟨some 32, _, _, _, _, _⟩) (v := ?_) rfl (by kernel_rfl) (by kernel_rfl) (by kernel_rfl) (by kernel_rfl) (fun _ _ _ h => h) (Or.inl ⟨by rfl, ?_⟩) HAd.out ?_
        rotate_left
        · intro w hSw; go_simp; with_reducible rfl
        dsimp only [Act.put]
        simp only [List.setIfInBounds_toArray, List.set_cons_zero, List.set_cons_succ]
        refine wpAnyT_take (i := 4) (oi := ⟨some 33, _, _, _, _, _⟩) rfl (by kernel_rfl) (by kernel_rfl) (by kernel_rfl) (by kernel_rfl) (fun _ _ _ h => h) (yieldsIf_load_mid (by rfl) 266 (.tmp 32) rfl b 0 rfl (words K) _ (fun w h => HsA.kR h) Tryz.underlying266 rfl HI1.out) HAd.out ?_
        dsimp only [Act.put]
        simp only [List.setIfInBounds_toArray, List.set_cons_zero, List.set_cons_succ]
        refine wpAnyT_take (i := 5) (oi := ⟨some 34, _, _, _, _, _⟩) (v := ?_) rfl (by kernel_rfl) (by kernel_rfl) (by kernel_rfl) (by kernel_rfl) (fun _ _ _ h => h) (Or.inl ⟨by rfl, ?_⟩) HAd.out ?_
        rotate_left
        · intro w hSw; go_simp; with_reducible rfl
        dsimp only [Act.put]
        simp only [List.setIfInBounds_toArray, List.set_cons_zero, List.set_cons_succ]
        refine wpAnyT_take (i := 6) (oi := ⟨some 35, _, _, _, _, _⟩) (v := ?_) rfl (by kernel_rfl) (by kernel_rfl) (by kernel_rfl) (by kernel_rfl) (fun _ _ _ h => h) (Or.inl ⟨by rfl, ?_⟩) HAd.out ?_
        rotate_left
        · intro w hSw; go_simp; with_reducible rfl
        dsimp only [Act.put]
        simp only [List.setIfInBounds_toArray, List.set_cons_zero, List.set_cons_succ]
        refine wpAnyT_take (i := 7) (oi := ⟨some 36, _, _, _, _, _⟩) (v := ?_) rfl (by kernel_rfl) (by kernel_rfl) (by kernel_rfl) (by kernel_rfl) (fun _ _ _ h => h) (Or.inl ⟨by rfl, ?_⟩) HAd.out ?_
        rotate_left
        · intro w hSw; go_simp; with_reducible rfl
        dsimp only [Act.put]
        simp only [List.setIfInBounds_toArray, List.set_cons_zero, List.set_cons_succ]
        refine wpAnyT_take (i := 8) (oi := ⟨some 37, _, _, _, _, _⟩) rfl (by kernel_rfl) (by kernel_rfl) (by kernel_rfl) (by kernel_rfl) (fun _ _ _ h => h) (yieldsIf_load_mid (by rfl) 268 (.tmp 36) rfl b 64 rfl (words S1) _ (fun w h => HsA.sR h) Tryz.underlying268 rfl HI2.out) HAd.out ?_
        dsimp only [Act.put]
        simp only [List.setIfInBounds_toArray, List.set_cons_zero, List.set_cons_succ]
        refine wpAnyT_take (i := 9) (oi := ⟨some 38, _, _, _, _, _⟩) (v := ?_) rfl (by kernel_rfl) (by kernel_rfl) (by kernel_rfl) (by kernel_rfl) (fun _ _ _ h => h) (Or.inl ⟨by rfl, ?_⟩) HAd.out ?_
        rotate_left
        · intro w hSw; go_simp; with_reducible rfl
        dsimp only [Act.put]
        simp only [List.setIfInBounds_toArray, List.set_cons_zero, List.set_cons_succ]
        refine wpAnyT_take (i := 10) (oi := ⟨some 39, _, _, _, _, _⟩) (v := ?_) rfl (by kernel_rfl) (by kernel_rfl) (by kernel_rfl) (by kernel_rfl) (fun _ _ _ h => h) (Or.inl ⟨by rfl, ?_⟩) HAd.out ?_
        rotate_left
        · intro w hSw; go_simp; with_reducible rfl
        dsimp only [Act.put]
        simp only [List.setIfInBounds_toArray, List.set_cons_zero, List.set_cons_succ]
        refine wpAnyT_take (i := 11) (oi := ⟨some 40, _, _, _, _, _⟩) (v := ?_) rfl (by kernel_rfl) (by kernel_rfl) (by kernel_rfl) (by kernel_rfl) (fun _ _ _ h => h) (Or.inl ⟨by rfl, ?_⟩) HAd.out ?_
        rotate_left
        · intro w hSw; go_simp; with_reducible rfl
        dsimp only [Act.put]
        simp only [List.setIfInBounds_toArray, List.set_cons_zero, List.set_cons_succ]
        refine wpAnyT_take (i := 12) (oi := ⟨some 41, _, _, _, _, _⟩) (v := ?_) rfl (by kernel_rfl) (by kernel_rfl) (by kernel_rfl) (by kernel_rfl) (fun _ _ _ h => h) (Or.inl ⟨by rfl, ?_⟩) HAd.out ?_
        rotate_left
        · intro w hSw; have c := HsA.l72 hSw; go_simp; with_reducible rfl
        dsimp only [Act.put]
        simp only [List.setIfInBounds_toArray, List.set_cons_zero, List.set_cons_succ]
        refine wpAnyT_take (i := 13) (oi := ⟨some 42, _, _, _, _, _⟩) (v := ?_) rfl (by kernel_rfl) (by kernel_rfl) (by kernel_rfl) (by kernel_rfl) (fun _ _ _ h => h) (Or.inl ⟨by rfl, ?_⟩) HAd.out ?_
        rotate_left
        · intro w hSw; go_simp; with_reducible rfl
        dsimp only [Act.put]
        simp only [List.setIfInBounds_toArray, List.set_cons_zero, List.set_cons_succ]
        refine wpAnyT_one (i := 14) (oi := ⟨some 43, _, _, _, _, _⟩) (by kernel_rfl) rfl rfl (fun K9 hK9 => ?_)
        have HKc := Lib.hid hK9
        clear hK9
        go_simp
        refine HP2.out.mono ?_
        rintro e w5 ⟨rfl, h5⟩
        dsimp only
        refine HKc.out _ _ (fun _ => h5.out.1) ?_
        clear HKc
        simp only [List.setIfInBounds_toArray, List.set_cons_zero, List.set_cons_succ]
        refine wpAnyT_one (i := 15) (oi := ⟨some 44, _, _, _, _, _⟩) (by kernel_rfl) rfl rfl (fun K9 hK9 => ?_)
        have HKc := Lib.hid hK9
        clear hK9
        go_simp
        refine HKc.out _ _ (fun _ => h5.out.1) ?_
        clear HKc
        simp only [List.setIfInBounds_toArray, List.set_cons_zero, List.set_cons_succ]
        refine wpAnyT_one (i := 16) (oi := ⟨some 45, _, _, _, _, _⟩) (by kernel_rfl) rfl rfl (fun K9 hK9 => ?_)
        have HKc := Lib.hid hK9
        clear hK9
        go_simp
        refine HKc.out _ _ (fun _ => h5.out.1) ?_
        clear HKc
        simp only [List.setIfInBounds_toArray, List.set_cons_zero, List.set_cons_succ]
        refine wpAnyT_one (i := 17) (oi := ⟨none, _, _, _, _, _⟩) (by kernel_rfl) rfl rfl (fun K9 hK9 => ?_)
        refine wp_store_mid (P := Tryz.prog) 268 (.tmp 45) (.tmp 43) rfl b 64 (words YY).toArray rfl rfl (by have t := h5.out.1.thereS; rw [List.size_toArray, words_len, HYl.out]; exact t) HI3.out HO3.out ?_
        refine hK9 _ _ (fun h => absurd rfl h) ?_
        clear hK9
        refine wpAnyT_done (by kernel_rfl) ?_ _
        dsimp only [Act.put]
        have HA6 := Lib.hid (h5.out.1.setS YY HYl.out)
        have hwB : Below B w wr.drew := HB.out.drew
        have HB6 := Lib.hid (below_sets b HBb.out (words YY) 64 (hwB.trans (h5.out.2.mono (Nat.le_trans (by have := HBb.out; have := HLt.out; omega) hwB.size))))
        have hl5 : Lft w5 (b + 1) (.slice (some ⟨gg, off, none⟩) L1.length cap) L1 := (HL1.out.drew).below h5.out.2
        have hl6 : Lft (w5.setCells b 64 (words YY)) (b + 1) (.slice (some ⟨gg, off, none⟩) L1.length cap) L1 := hl5.keep fun g' hg' hg2 => World.heap_setCells_other w5 b 64 (words YY) hg2 (by omega)
        have hl7 := hl6.cut H64.out (by omega)
        have hdr : L1.drop 64 = MM.drop (64 * (MM.length / 64 - g)) := by
          rw [HLd.out, List.drop_drop]; congr 1; have := HG.out; omega
        have hfo : YY = foldB K (MM.length / 64 - g) hTab MM := by
          rw [HYY.out, HS1.out, HBlk.out, HLd.out, show MM.length / 64 - g = (MM.length / 64 - (g + 1)) + 1 by have := HG.out; omega, foldB_next]
        rw [hdr] at hl7
        have HL7 := Lib.hid hl7
        have HFo := Lib.hid hfo
        have c72' := HA6.out.l72
        have f72' := HA6.out.1.frozen 72
        have hne64 : (64 : Int) ≤ (L1.length : Int) := by have := H64.out; omega
        clear hwB hl5 hl6 hl7 hdr hfo h5 c72 HAd HP2 HI1 HI2 HI3 HO3 HL1 HP
        generalize World.setCells _ _ _ _ = w6 at *
        by_cases hc : cap = 64
        · have HL8 := HL7.out
          rw [if_pos hc] at HL8
          have HL9 := Lib.hid HL8
          clear HL8
          have HC := Lib.hid hc
          go_wp2
          go_roundg g
          case measure => omega
          case rel => exact ⟨by show _ ≤ _; have := HG.out; omega, _, by show HsA _ _ _ _ _ _; rw [← HFo.out]; exact HA6.out.setV _, by show Lft _ _ _ _; first | exact HL9.out.setCell (Nat.lt_succ_self b) _ | (have h := HL9.out.setCell (Nat.lt_succ_self b) (o := 72) (.slice (some ⟨gg, off, none⟩) (L1.length - 64) (cap - 64)); rw [HC.out] at h; exact h), HB6.out.setCell HBb.out _⟩
        · have HL8 := HL7.out
          rw [if_neg hc] at HL8
          have HL9 := Lib.hid HL8
          clear HL8
          go_wp2
          go_roundg g
          case measure => omega
          case rel => exact ⟨by show _ ≤ _; have := HG.out; omega, _, by show HsA _ _ _ _ _ _; rw [← HFo.out]; exact HA6.out.setV _, HL9.out.setCell (Nat.lt_succ_self b) _, HB6.out.setCell HBb.out _⟩
end Go.Proofs.YthnbnckmeffkmaaGreat
/- sha.Sum: the hash is laid, and the end. -/
namespace Go.Proofs.YthnbnckmeffkmaaGreat
open Go.RowKit Go.Lib
set_option linter.unusedVariables false
set_option linter.unusedSimpArgs false
attribute [local go_sem ↓] Go.wp_at_zero Go.wp_at_succ

/-- What lies there while the bytes are laid. -/
def OpInv (w wr : World) (S : List Nat) (j : Nat) : Prop := Arr wr w.heap.size 24 (bys ((outF S).take j) ++ List.replicate (32 - j) (.int .u8 0)) ∧ Below w.heap.size w wr
theorem OpInv.next {w wr : World} {S : List Nat} {k p : Nat} (h : OpInv w wr S k) (hk : k < 32) (hp : (outF S)[k]? = some p) : OpInv w (wr.setCell ⟨w.heap.size, k, none⟩ (.int .u8 (p : Nat))) S (k + 1) := by
  refine ⟨?_, h.2.setCell (Nat.le_refl _) _⟩
  have := h.1.set k (.int .u8 (p : Nat))
  rw [bys_step _ k 32 p hp hk] at this
  exact this
theorem OpInv.cellAt {w wr : World} {S : List Nat} {k : Nat} (h : OpInv w wr S k) (hS : S.length = 8) (j : Nat) (hkj : k ≤ j) (hj : j < 32) : wr.cell? ⟨w.heap.size, j, none⟩ = some (.int .u8 0) := by
  have hl : (bys ((outF S).take k)).length = k := by rw [bys_len, List.length_take, outF_len, hS]; omega
  rw [h.1.cell, List.getElem?_append_right (by omega), hl, List.getElem?_replicate, if_pos (by omega)]

theorem run_index_words (S : List Nat) (k x : Nat) (z : Int) (hz : (k : Int) = z) (hS : S.length = 8) (hk : k < 8) (hx : S.getD k 0 = x) (w : World) :
    (Instr.index 268 (.agg (words S).toArray) (.int .i64 z)).run Tryz.prog w = .ok (.int .u32 (x : Nat)) w := by
  subst hz
  have h := Tryz.underlying268
  have hn : ((k : Int) < 8) := by omega
  have hg : (words S)[k]? = some (.int .u32 (x : Nat)) := by
    rw [words_getN S k (S.getD k 0) (by simp [hS, hk]), hx]
  have hz : Tryz.prog.cellsOf 134 = 1 := by kernel_rfl
  simp [Instr.index, run_underlying h, asIntOf, hn, go_sem, hg, hz]
  intro h8; omega

set_option maxRecDepth 100000 in
set_option maxHeartbeats 3200000 in
theorem sum_t4 {u0 u1 u4 u5 u6 u7 u8 u9 u10 u11 u12 u13 u14 u15 u16 u17 u18 u19 u20 u21 u22 u23 u24 u25 u26 u27 u28 u29 u30 u31 u32 u33 u34 u35 u36 u37 u38 u39 u40 u41 u42 u43 u44 u45 u46 u47 u48 u49 u50 u51 u52 u53 u54 u55 u56 u57 u58 u59 u60 u61 u62 u63 u64 u65 u66 u67 u68 u69 u70 u71 u72 u73 u74 u75 u76 u77 u78 u79 u80 u81 u82 u83 u84 u85 u86 u87 u88 u89 u90 u91 u92 u93 u94 u95 : Value} (K S R : List Nat) (b n : Nat) (v : Value) (w wr : World) (hR : R = outF S) (h32 : ∀ x ∈ S, x < 4294967296) (hA : HsA wr b K S v n)
    (h1 : Arr wr w.heap.size 24 (List.replicate 32 (.int .u8 0))) (hb : Below w.heap.size w wr) :
    Code.wp Tryz.prog (seqDrop 8 (bodyOf Tryz.f129)) (bodyPost Tryz.prog Tryz.f129 fun e w' => e = .returned (.agg (bys R).toArray) ∧ Below w.heap.size w w')
      ⟨#[u0, u1, .pointer (some ⟨w.heap.size, 0, none⟩), .pointer (some ⟨b, 0, none⟩), u4, u5, u6, u7, u8, u9, u10, u11, u12, u13, u14, u15, u16, u17, u18, u19, u20, u21, u22, u23, u24, u25, u26, u27, u28, u29, u30, u31, u32, u33, u34, u35, u36, u37, u38, u39, u40, u41, u42, u43, u44, u45, u46, u47, u48, u49, u50, u51, u52, u53, u54, u55, u56, u57, u58, u59, u60, u61, u62, u63, u64, u65, u66, u67, u68, u69, u70, u71, u72, u73, u74, u75, u76, u77, u78, u79, u80, u81, u82, u83, u84, u85, u86, u87, u88, u89, u90, u91, u92, u93, u94, u95], []⟩ wr := by
  have hS : S.length = 8 := hA.2.2
  have HI2 := Lib.hid (show (Tryz.prog.info? 268).map (·.size) = some (words S).length by rw [words_len, hS]; exact size8)
  have HA := Lib.hid hA
  have HS := Lib.hid hS
  have HR := Lib.hid hR
  have H32 := Lib.hid h32
  have HO0 := Lib.hid (show OpInv w wr S 0 from ⟨by simpa [bys] using h1, hb⟩)
  have hc0 : ∃ u, wr.cell? ⟨b, 0, none⟩ = some u := by
    rw [hA.1.cell, List.getElem?_eq_getElem (by rw [HsC_len _ _ _ _ hA.2.1 hS]; omega)]; exact ⟨_, rfl⟩
  clear hS hA hR h1 hb h32
  conv => arg 2; whnf
  go_upto_region 16 with fail
  go_step
  iterate 9 (first | go_values | go_skip | go_guarded | go_step | go_upon)
  refine wpList_load_mid (P := Tryz.prog) rfl 268 _ rfl b 64 rfl _ _ HA.out.sR Tryz.underlying268 rfl HI2.out ?_
  go_wp2
  clear hc0
  go_loopg [9, 10, 64] 8 (fun g vi vx vn wq => ∃ k : Nat, Hid (g + k = 8) ∧ vn = .int .i64 (k : Int) ∧ Hid (OpInv w wq S (4 * k)))
  case atStart => exact ⟨0, rfl, rfl, HO0.out⟩
  case round =>
    obtain ⟨k, hk, rfl, hi⟩ := hrel
    have HK := Lib.hid hk.out
    have HI := Lib.hid hi.out
    clear hk hi HO0
    cases gk with
    | zero =>
      have hlt : ¬ ((k : Int) < 8) := by have := HK.out; omega
      have hI := HI.out
      have hl : (outF S).length = 32 := by rw [outF_len, HS.out]
      rw [show 4 * k = 32 by have := HK.out; omega] at hI
      obtain ⟨h3, hb⟩ := hI
      rw [Nat.sub_self, List.replicate_zero, List.append_nil, ← hl, List.take_length, ← HR.out] at h3
      rw [← HR.out] at hl
      have HA3 := Lib.hid h3
      have HB := Lib.hid hb
      have HL := Lib.hid hl
      have Hs := Lib.hid (show (Tryz.prog.info? 24).map (·.size) = some (bys R).length by rw [bys_len, hl]; exact size32)
      have Hs2 := Lib.hid (show (Tryz.prog.info? 24).map (·.size) = some (bys R).toArray.size by rw [List.size_toArray, bys_len, hl]; exact size32)
      have O1 := Lib.hid (all_oneCell_toArray (bys_one R))
      clear h3 hb hl HI
      go_upto_region 21 with fail
      go_step
      refine wpList_load_mid (P := Tryz.prog) rfl 24 _ rfl w.heap.size 0 rfl _ _ HA3.out.range Tryz.underlying24 rfl Hs.out ?_
      refine wpList_store_mid (P := Tryz.prog) rfl 24 _ _ rfl w.heap.size 0 _ rfl rfl (HA3.out.there _ (by simp [bys_len, HL.out])) Hs2.out O1.out ?_
      go_wp2
      have HA5 := Lib.hid (HA3.out.setAll (bys R) rfl)
      refine bodyPost_ret (results_cell_row (P := Tryz.prog) rfl _ _ w.heap.size 24 _ (0, 0) _ rfl HA5.out Tryz.underlying24 rfl (by rw [List.size_toArray]; exact Hs.out)) rfl ?_
      exact ⟨rfl, below_sets _ (Nat.le_refl _) _ _ HB.out⟩
    | succ g =>
      have hk8 : k < 8 := by have := HK.out; omega
      obtain ⟨x, hx⟩ : ∃ x, S.getD k 0 = x := ⟨_, rfl⟩
      obtain ⟨z, hz⟩ : ∃ z : Int, (k : Int) = z := ⟨_, rfl⟩
      have hix := run_index_words S k x z hz HS.out hk8 hx
      have hlt : z < 8 := by omega
      have iz : 0 ≤ z := by omega
      have p0 := outF_get S k 0 (by rw [HS.out]; exact hk8) (by omega)
      have p1 := outF_get S k 1 (by rw [HS.out]; exact hk8) (by omega)
      have p2 := outF_get S k 2 (by rw [HS.out]; exact hk8) (by omega)
      have p3 := outF_get S k 3 (by rw [HS.out]; exact hk8) (by omega)
      rw [hx] at p0 p1 p2 p3
      have HP := Lib.hid (And.intro p0 (And.intro p1 (And.intro p2 p3)))
      have c0 := HI.out.cellAt HS.out (4 * k) (by omega) (by omega)
      have c1 := HI.out.cellAt HS.out (4 * k + 1) (by omega) (by omega)
      have c2 := HI.out.cellAt HS.out (4 * k + 2) (by omega) (by omega)
      have c3 := HI.out.cellAt HS.out (4 * k + 3) (by omega) (by omega)
      have f0 := HI.out.1.frozen (4 * k)
      have f1 := HI.out.1.frozen (4 * k + 1)
      have f2 := HI.out.1.frozen (4 * k + 2)
      have f3 := HI.out.1.frozen (4 * k + 3)
      have e0 : 4 * k = (4 * z).toNat := by omega
      have e1 : 4 * k + 1 = (4 * z + 1).toNat := by omega
      have e2 : 4 * k + 2 = (4 * z + 2).toNat := by omega
      have e3 : 4 * k + 3 = (4 * z + 3).toNat := by omega
      have HE := Lib.hid (And.intro e0 (And.intro e1 (And.intro e2 e3)))
      have HZ := Lib.hid hz
      rw [e1] at c1 f1
      rw [e2] at c2 f2
      rw [e3] at c3 f3
      rw [e0] at c0 f0
      rw [hz]
      clear e0 e1 e2 e3 p0 p1 p2 p3 hx hz hk8
      go_wp2
      rw [show (x : Int) / 16777216 % 256 = ((x / 16777216 % 256 : Nat) : Int) by omega, show (x : Int) / 65536 % 256 = ((x / 65536 % 256 : Nat) : Int) by omega,
        show (x : Int) / 256 % 256 = ((x / 256 % 256 : Nat) : Int) by omega, show (x : Int) % 256 = ((x % 256 : Nat) : Int) by omega]
      go_roundg g
      case measure => omega
      case rel =>
        refine ⟨k + 1, by show _ = _; have := HK.out; omega, by have := HZ.out; congr 1; omega, ?_⟩
        show OpInv _ _ _ _
        rw [← HE.out.1, ← HE.out.2.1, ← HE.out.2.2.1, ← HE.out.2.2.2, show 4 * (k + 1) = 4 * k + 1 + 1 + 1 + 1 by omega]
        have hk8 : k < 8 := by have := HK.out; omega
        exact (((HI.out.next (by omega) HP.out.1).next (by omega) HP.out.2.1).next (by omega) HP.out.2.2.1).next (by omega) HP.out.2.2.2
end Go.Proofs.YthnbnckmeffkmaaGreat
