/- sha.Sum: the padding, and what follows. -/
import Derived.Test.YthnbnckmeffkmaaGreatG08
namespace Go.Proofs.YthnbnckmeffkmaaGreat
open Go.RowKit Go.Lib
set_option linter.unusedVariables false
set_option linter.unusedSimpArgs false
attribute [local go_sem ↓] Go.wp_at_zero Go.wp_at_succ

/-- The padding, its last i bytes laid. -/
def padAt (z L i : Nat) : List Nat := 128 :: (List.replicate z 0 ++ (List.replicate (8 - i) 0 ++ (be8 L).drop (8 - i)))
theorem padAt_len (z L i : Nat) (hi : i ≤ 8) : (padAt z L i).length = z + 9 := by
  have : (be8 L).length = 8 := rfl
  simp [padAt, this]
  try omega
theorem be8_at (L i : Nat) (hi : i < 8) : (be8 L).drop (7 - i) = L / 2 ^ (8 * i) % 256 :: (be8 L).drop (8 - i) := by
  match i, hi with
  | 0, _ => simp [be8]
  | 1, _ => simp [be8]
  | 2, _ => simp [be8]
  | 3, _ => simp [be8]
  | 4, _ => simp [be8]
  | 5, _ => simp [be8]
  | 6, _ => simp [be8]
  | 7, _ => simp [be8]
theorem padAt_set (z L i : Nat) (hi : i < 8) : (bys (padAt z L i)).set (z + 9 - 1 - i) (.int .u8 (L / 2 ^ (8 * i) % 256 : Nat)) = bys (padAt z L (i + 1)) := by
  have e : (padAt z L i).set (z + 9 - 1 - i) (L / 2 ^ (8 * i) % 256) = padAt z L (i + 1) := by
    unfold padAt
    rw [show z + 9 - 1 - i = (z + (7 - i)) + 1 by omega, List.set_cons_succ, List.set_append_right _ _ (by simp), List.length_replicate, show z + (7 - i) - z = 7 - i by omega,
      show 8 - i = (7 - i) + 1 by omega, List.replicate_succ', List.append_assoc, List.set_append_right _ _ (by simp), List.length_replicate, Nat.sub_self, List.singleton_append, List.set_cons_zero,
      show 8 - (i + 1) = 7 - i by omega, be8_at L i hi, show (7 - i) + 1 = 8 - i by omega]
  rw [← e]; simp [bys, List.map_set]
theorem padAt_zero (z L : Nat) : padAt z L 0 = 128 :: List.replicate (z + 8) 0 := by
  unfold padAt; rw [Nat.sub_zero, show (be8 L).drop 8 = [] from rfl, List.append_nil, List.replicate_append_replicate]
theorem padAt_eight (n : Nat) : padAt (padZ n) (8 * n) 8 = padT n := by
  unfold padAt padT; rfl
theorem padAt_lt (z L i : Nat) : ∀ x ∈ padAt z L i, x < 256 := by
  intro x hx
  rcases List.mem_cons.1 hx with rfl | hx
  · omega
  · rcases List.mem_append.1 hx with h | h
    · rw [List.eq_of_mem_replicate h]; omega
    · rcases List.mem_append.1 h with h | h
      · rw [List.eq_of_mem_replicate h]; omega
      · exact be8_lt L x (List.mem_of_mem_drop h)
theorem made_bys (n : Nat) : (madeCells #[Value.int .u8 0] n).toList = bys (List.replicate n 0) := by
  have h : (madeCells #[Value.int .u8 0] n).toList.length = (bys (List.replicate n 0)).length := by rw [Array.length_toList, size_madeCells, bys_len, List.length_replicate]
  refine List.ext_getElem h ?_
  intro i h1 h2
  simp [madeCells, bys, Value.cells, Nat.mod_one]

set_option maxRecDepth 100000 in
set_option maxHeartbeats 3200000 in
theorem sum_t3 {u0 u1 u4 u5 u6 u7 u8 u9 u10 u11 u12 u13 u14 u15 u16 u17 u18 u19 u20 u21 u22 u23 u24 u25 u26 u27 u28 u29 u30 u31 u32 u33 u34 u35 u36 u37 u38 u39 u40 u41 u42 u43 u44 u45 u46 u47 u48 u49 u50 u51 u52 u53 u54 u55 u56 u57 u58 u59 u60 u61 u62 u63 u64 u65 u66 u67 u68 u69 u70 u71 u72 u73 u74 u75 u76 u77 u78 u79 u80 u81 u82 u83 u84 u85 u86 u87 u88 u89 u90 u91 u92 u93 u94 u95 : Value} (M R : List Nat) (b : Nat) (w wr : World) (hR : R = shaF M) (hl : M.length ≤ 1000000000000) (hA : HsM wr b M) (hhb : w.heap.size < b)
    (h1 : Arr wr w.heap.size 24 (List.replicate 32 (.int .u8 0))) (hb : Below w.heap.size w wr) :
    Code.wp Tryz.prog (seqDrop 3 (bodyOf Tryz.f129)) (bodyPost Tryz.prog Tryz.f129 fun e w' => e = .returned (.agg (bys R).toArray) ∧ Below w.heap.size w w')
      ⟨#[u0, u1, .pointer (some ⟨w.heap.size, 0, none⟩), .pointer (some ⟨b, 0, none⟩), u4, u5, u6, u7, u8, u9, u10, u11, u12, u13, u14, u15, u16, u17, u18, u19, u20, u21, u22, u23, u24, u25, u26, u27, u28, u29, u30, u31, u32, u33, u34, u35, u36, u37, u38, u39, u40, u41, u42, u43, u44, u45, u46, u47, u48, u49, u50, u51, u52, u53, u54, u55, u56, u57, u58, u59, u60, u61, u62, u63, u64, u65, u66, u67, u68, u69, u70, u71, u72, u73, u74, u75, u76, u77, u78, u79, u80, u81, u82, u83, u84, u85, u86, u87, u88, u89, u90, u91, u92, u93, u94, u95], []⟩ wr := by
  obtain ⟨v, hA1, hL⟩ := hA
  have c73 := hA1.n73
  obtain ⟨n, hn⟩ : ∃ n : Int, ((M.length : Nat) : Int) = n := ⟨_, rfl⟩
  rw [hn] at c73
  have HN := Lib.hid hn
  have HA := Lib.hid hA1
  have HL := Lib.hid hL
  have HR := Lib.hid hR
  have HLn := Lib.hid hl
  have H1 := Lib.hid h1
  have HB := Lib.hid hb
  have Hhb := Lib.hid hhb
  clear hA1 hL hR hl h1 hb hhb hn
  conv => arg 2; whnf
  have hn0 : 0 ≤ n := by have := HN.out; omega
  have hn1 : n ≤ 1000000000000 := by have := HN.out; have := HLn.out; omega
  obtain ⟨i0, hi0, hzz⟩ := Option.map_eq_some_iff.1 infoB
  simp only [Prod.mk.injEq] at hzz
  obtain ⟨hz0, hz1, hz2⟩ := hzz
  have HI := Lib.hid (And.intro hi0 (And.intro hz0 (And.intro hz1 hz2)))
  have HP9 := Lib.hid (show padZ M.length + 9 ≤ 72 by unfold padZ; omega)
  clear hi0 hz0 hz1 hz2
  go_upto_region 9 with (at_make; refine wpList_make_full wr rfl (.tmp 37) (.tmp 37) 157 rfl wr.heap.size 5 i0 (.int .u8 0) 1 Tryz.underlying157 HI.out.1 HI.out.2.1 HI.out.2.2.1 .u64 .u64 _ _ (padZ M.length + 9) rfl rfl ?hL ?hC (by rw [HI.out.2.2.2]; have := HP9.out; omega) (by have := HP9.out; unfold maxLen; omega) (Nat.le_refl _) ?hK)
  case hL => have := HN.out; unfold padZ; omega
  case hC => have := HN.out; unfold padZ; omega
  case hK =>
    intro w2 ho hg
    have hAr : Arr w2 wr.heap.size 5 (bys (List.replicate (padZ M.length + 9) 0)) := by
      rcases ho.2 with ⟨h, _⟩ | ⟨g, cap, cur, h, _, hgc, _, _, hsz, htk⟩
      · cases h
      · cases h
        rw [made_bys] at htk
        rw [List.take_of_length_le (by rw [Array.length_toList]; omega)] at htk
        unfold Arr; rw [hgc, ← htk]
    have hBw : Below wr.heap.size wr w2 := (Below.refl _ _).grown hg (Nat.le_refl _) (fun k h => by cases h)
    have hbl : b < wr.heap.size := HA.out.1.lt
    have hnn : n * 8 = ((8 * M.length : Nat) : Int) := by have := HN.out; omega
    rw [hnn]
    obtain ⟨NN, hNN⟩ : ∃ NN, NN = padZ M.length + 9 := ⟨_, rfl⟩
    have hN9 : 9 ≤ NN := by omega
    have hN72 : NN ≤ 72 := by rw [hNN]; exact HP9.out
    rw [← hNN] at hAr ⊢
    obtain ⟨LL, hLL⟩ : ∃ LL, LL = 8 * M.length := ⟨_, rfl⟩
    rw [← hLL]
    obtain ⟨G, hG⟩ : ∃ G, wr.heap.size = G := ⟨_, rfl⟩
    rw [hG] at hAr hBw hbl ⊢
    have c0 : w2.cell? ⟨G, 0, none⟩ = some (.int .u8 0) := by
      rw [hAr.cell, show bys (List.replicate NN 0) = List.replicate NN (.int .u8 0) by simp [bys], List.getElem?_replicate, if_pos (by omega)]
    have f0 := hAr.frozen 0
    have HAr := Lib.hid hAr
    have HBw := Lib.hid hBw
    have Hbl := Lib.hid hbl
    have HG := Lib.hid hG
    have HNN := Lib.hid hNN
    have HLL := Lib.hid hLL
    clear hAr hBw hbl hG hNN hLL hnn ho hg HI c73
    go_wp2
    have hA0 := HAr.out.set 0 (.int .u8 128)
    have e0 : (bys (List.replicate NN 0)).set 0 (.int .u8 128) = bys (padAt (padZ M.length) LL 0) := by
      rw [padAt_zero, HNN.out, List.replicate_succ]; rfl
    rw [e0] at hA0
    have HA0 := Lib.hid hA0
    have HB0 := Lib.hid (HBw.out.setCell (p := ⟨G, 0, none⟩) (Nat.le_refl _) (.int .u8 128))
    clear hA0 e0 c0 f0 HAr HBw
    generalize World.setCell _ _ _ = w3 at *
    go_loopg [8, 41] 8 (fun g vi vn wq => ∃ k : Nat, Hid (g + k = 8) ∧ vn = .int .i64 (k : Int) ∧ Hid (Arr wq G 5 (bys (padAt (padZ M.length) LL k))) ∧ Hid (Below G wr wq))
    case atStart => exact ⟨0, rfl, rfl, HA0.out, HB0.out⟩
    case round =>
      obtain ⟨k, hk, rfl, ha, hbq⟩ := hrel
      have HK := Lib.hid hk.out
      have HAq := Lib.hid ha.out
      have HBq := Lib.hid hbq.out
      clear hk ha hbq HA0 HB0
      cases gk with
      | zero =>
        have hlt : ¬ ((k : Int) < 8) := by have := HK.out; omega
        have hpad : padAt (padZ M.length) LL k = padT M.length := by rw [show k = 8 by have := HK.out; omega, HLL.out, padAt_eight]
        have hA := HAq.out
        rw [hpad] at hA
        have hpl : (padT M.length).length = NN := by rw [← padAt_eight, padAt_len _ _ _ (Nat.le_refl _), HNN.out]
        have hY : Byts wr (.slice (some ⟨G, 0, none⟩) NN NN) (padT M.length) := by
          refine ⟨by rw [← padAt_eight]; exact padAt_lt _ _ _, .inr ⟨⟨G, 0, none⟩, NN, by rw [hpl], by rw [hpl]; exact Nat.le_refl _, by unfold maxLen; omega, fun j hj => ?_⟩⟩
          rw [add_nospot, hA.cell, bys_get _ j hj]
        have hMq : HsM wr b M := ⟨v, HA.out.below HBq.out Hbl.out, HL.out.below (by rw [HG.out]; exact HBq.out)⟩
        have HY := Lib.hid hY
        have HMq := Lib.hid hMq
        have H1q := Lib.hid (H1.out.below HBq.out (by have := Hbl.out; have := Hhb.out; omega))
        have HBb := Lib.hid (HB.out.trans (HBq.out.mono (by have := Hbl.out; have := Hhb.out; omega)))
        have HPl := Lib.hid hpl
        clear hpad hA hpl hY hMq
        go_wp2_with fail
        refine (add_any (w.heap.size + 1) b M (padT M.length) _ _ Hhb.out HMq.out HY.out (fun ad n c h => by cases h; have := Hbl.out; show G ≠ b; omega) (by rw [HPl.out]; have := HLn.out; omega)).mono ?_
        rintro e w6 ⟨rfl, hM6, hb6⟩
        dsimp only
        obtain ⟨v6, hA6, _⟩ := hM6
        have HA6 := Lib.hid hA6
        have HR6 := Lib.hid (show R = outF (foldB kTab ((M ++ padT M.length).length / 64) hTab (M ++ padT M.length)) by rw [HR.out]; rfl)
        have H16 := Lib.hid (H1q.out.below hb6 (Nat.lt_succ_self _))
        have HB6 := Lib.hid (HBb.out.trans (hb6.mono (Nat.le_succ _)))
        clear hA6 hb6
        repeat (first | (exact sum_t4 kTab _ R b _ v6 w _ HR6.out (foldB_lt _ _ _ _ hTab_lt) HA6.out H16.out HB6.out) | go_step)
      | succ g =>
        have hk8 : k < 8 := by have := HK.out; omega
        have hlt : ((k : Int) < 8) := by omega
        obtain ⟨z, hz⟩ : ∃ z : Int, (k : Int) = z := ⟨_, rfl⟩
        have iz : 0 ≤ z := by omega
        have jz : z < 8 := by omega
        have hix : NN - 1 - k = ((NN : Int) - 1 - z).toNat := by omega
        have hcl : wr.cell? ⟨G, NN - 1 - k, none⟩ = some (.int .u8 ((padAt (padZ M.length) LL k).getD (NN - 1 - k) 0 : Nat)) := by
          rw [HAq.out.cell, bys_get _ _ (by rw [padAt_len _ _ _ (by omega)]; have := HNN.out; omega)]
        have hfr := HAq.out.frozen (NN - 1 - k)
        rw [hix] at hcl hfr
        have HIx := Lib.hid hix
        have HZ := Lib.hid hz
        rw [hz] at hlt ⊢
        generalize (padAt (padZ M.length) LL k).getD (NN - 1 - k) 0 = old at hcl
        clear hix hz hk8
        go_wp2
        rw [show (LL : Int) / 2 ^ (8 * z).toNat % 256 = ((LL / 2 ^ (8 * k) % 256 : Nat) : Int) by rw [show (8 * z).toNat = 8 * k by have := HZ.out; omega]; simp]
        go_roundg g
        case measure => omega
        case rel =>
          refine ⟨k + 1, by show _ = _; have := HK.out; omega, by have := HZ.out; congr 1; omega, ?_, HBq.out.setCell (Nat.le_refl _) _⟩
          show Arr _ _ _ _
          rw [← HIx.out, ← padAt_set (padZ M.length) LL k (by have := HK.out; omega), HNN.out]
          exact HAq.out.set _ _
end Go.Proofs.YthnbnckmeffkmaaGreat
/- sha.Sum, whole. -/
namespace Go.Proofs.YthnbnckmeffkmaaGreat
open Go.RowKit Go.Lib
set_option linter.unusedVariables false
set_option linter.unusedSimpArgs false
attribute [local go_sem ↓] Go.wp_at_zero Go.wp_at_succ

/-- A slice of byte slices. -/
def PartsIs (w : World) (v : Value) (Ps : List (List Nat)) : Prop :=
  (v = .slice none 0 0 ∧ Ps = []) ∨ ∃ ad c, v = .slice (some ad) Ps.length c ∧ Ps.length ≤ c ∧ c ≤ maxLen ∧ ∀ j, j < Ps.length → ∃ u, w.cell? (ad.add j) = some u ∧ Byts w u (Ps.getD j []) ∧ ∀ a n k, u = .slice (some a) n k → a.block < w.heap.size
theorem PartsIs.below {w w' : World} {v : Value} {Ps : List (List Nat)} (h : PartsIs w v Ps) (hb : Below w.heap.size w w') : PartsIs w' v Ps := by
  refine h.imp id ?_
  rintro ⟨ad, c, h1, h2, h3, h4⟩
  refine ⟨ad, c, h1, h2, h3, fun j hj => ?_⟩
  obtain ⟨u, hu, hy, hl⟩ := h4 j hj
  exact ⟨u, cellb hb hu, hy.below hb, fun a n k e => Nat.lt_of_lt_of_le (hl a n k e) hb.size⟩

theorem wp_build_run {P : Program} {op : Oper} {a : Act} {w : World} {K : Act → World → Prop} {Q : Exit → Act → World → Prop} (t : TypeId) (parts : Array (Nat × Operand)) (ho : op.op = .build t parts)
    (vals : Array (Nat × Value)) (hv : parts.map (fun x => (x.1, a.eval x.2)) = vals) (v : Value) (hr : (Instr.build t vals).run P w = .ok v w) (h : K (a.put op.dst v) w) : op.wp P a w K Q := by
  unfold Oper.wp execOp
  have hv' : parts.map (fun (i, x) => (i, a.eval x)) = vals := hv
  simp only [ho, hv']
  simp [hr, Result.andThen]
  exact h
theorem hasher_build : ∀ w, (Instr.build 271 #[(0, .agg (words kTab).toArray), (1, .agg (words hTab).toArray)]).run Tryz.prog w = .ok (.agg (HsC kTab hTab (.slice none 0 0) 0).toArray) w := fun _ => by kernel_rfl

set_option maxRecDepth 100000 in
set_option maxHeartbeats 1600000 in
theorem sum_any (v : Value) (Ps : List (List Nat)) (w : World) (hl : Ps.flatten.length ≤ 1000000000000) (hv : PartsIs w v Ps) :
    Calls Tryz.prog 129 #[v] w fun e w' => e = .returned (.agg (bys (shaF Ps.flatten)).toArray) ∧ Below w.heap.size w w' := by
  have hz := zero32
  obtain ⟨a0, c0, rfl⟩ : ∃ a0 c0, v = .slice a0 Ps.length c0 := by
    rcases hv with ⟨rfl, rfl⟩ | ⟨ad, c, rfl, _⟩
    · exact ⟨_, _, rfl⟩
    · exact ⟨_, _, rfl⟩
  have HV := Lib.hid hv
  have HLn := Lib.hid hl
  have HPl := Lib.hid (show Ps.length ≤ maxLen by
    rcases hv with ⟨_, h⟩ | ⟨ad, c, _, h1, h2, _⟩
    · rw [h]; unfold maxLen; simp
    · exact Nat.le_trans h1 h2)
  clear hv hl
  go_enter Tryz.func129, Tryz.ntmps129
  go_upto_region 1 with fail
  have hpk := And.intro (Arr.made w 24 (List.replicate 32 (.int .u8 0))) ((Below.refl w.heap.size w).alloc (Nat.le_refl _) (.cells (List.replicate 32 (.int .u8 0)).toArray 24))
  simp only [List.reduceReplicate] at hpk
  have HPk := Lib.hid hpk
  clear hpk hz
  generalize World.alloc _ _ = w1 at HPk ⊢
  go_wp2_with fail
  refine (constants_any w1).mono ?_
  rintro e w2 ⟨rfl, hb2⟩
  dsimp only
  rw [kTab_eq]
  obtain ⟨K, hK⟩ : ∃ K, K = kTab := ⟨_, rfl⟩
  rw [← hK]
  have HK := Lib.hid hK
  have HB2 := Lib.hid (HPk.out.2.trans (hb2.mono HPk.out.2.size))
  have HA2 := Lib.hid (HPk.out.1.below hb2 HPk.out.1.lt)
  clear hK hb2
  go_wp2_with fail
  refine (start_any w2).mono ?_
  rintro e w3 ⟨rfl, hb3⟩
  dsimp only
  rw [hTab_eq]
  obtain ⟨H, hH⟩ : ∃ H, H = hTab := ⟨_, rfl⟩
  rw [← hH]
  have HH := Lib.hid hH
  have HB3 := Lib.hid (HB2.out.trans (hb3.mono HB2.out.size))
  have HA3 := Lib.hid (HA2.out.below hb3 HA2.out.lt)
  clear hH hb3 HPk HB2 HA2
  have hbd := hasher_build w3
  rw [← HK.out, ← HH.out] at hbd
  have HBd := Lib.hid hbd
  obtain ⟨C, hC⟩ : ∃ C, C = HsC K H (.slice none 0 0) 0 := ⟨_, rfl⟩
  rw [← hC] at HBd
  have HC := Lib.hid hC
  clear hbd hC
  iterate 2 (first | go_values | go_skip | go_guarded | go_step | go_upon)
  refine wp_build_run (P := Tryz.prog) 271 _ rfl #[(0, .agg (words K).toArray), (1, .agg (words H).toArray)] (by simp [Act.eval, Act.put]) _ HBd.out ?_
  go_upto_region 2 with fail
  have hb0 : w.heap.size + 1 ≤ w3.heap.size := HA3.out.lt
  have hal : Below w3.heap.size w3 (w3.alloc (.cells C.toArray 271)) := (Below.refl _ _).alloc (Nat.le_refl _) _
  have hM0 : HsM (w3.alloc (.cells C.toArray 271)) w3.heap.size ([] : List Nat) := by
    refine ⟨.slice none 0 0, ⟨?_, rfl, by rw [foldB_len _ _ _ _ (by rfl)]⟩, ?_⟩
    · have := Arr.made w3 271 C
      rw [HC.out, HK.out, HH.out] at this
      rw [HC.out, HK.out, HH.out]
      exact this
    · exact Lft.nil _ _
  have HM0 := Lib.hid hM0
  have HA4 := Lib.hid (HA3.out.below hal HA3.out.lt)
  have HB4 := Lib.hid (HB3.out.trans (hal.mono HB3.out.size))
  have Hb0 := Lib.hid hb0
  obtain ⟨b, hb⟩ : ∃ b, w3.heap.size = b := ⟨_, rfl⟩
  rw [hb] at HM0 Hb0 ⊢
  generalize World.alloc _ _ = w4 at *
  clear hM0 hal hb0 hb HA3 HB3 HBd HC
  go_wp2
  go_loopg [5, 17] Ps.length (fun g v5 vn wq => ∃ k : Nat, Hid (g + k = Ps.length) ∧ vn = .int .i64 (k : Int) ∧ Hid (HsM wq b (Ps.take k).flatten) ∧ Hid (Arr wq w.heap.size 24 (List.replicate 32 (.int .u8 0))) ∧ Hid (Below w.heap.size w wq))
  case atStart => exact ⟨0, rfl, rfl, HM0.out, HA4.out, HB4.out⟩
  case round =>
    obtain ⟨k, hk, rfl, hm, ha, hbq⟩ := hrel
    have HKk := Lib.hid hk.out
    have HM := Lib.hid hm.out
    have HA := Lib.hid ha.out
    have HB := Lib.hid hbq.out
    have hpl := HPl.out
    unfold maxLen at hpl
    clear hk hm ha hbq HM0 HA4 HB4
    cases gk with
    | zero =>
      have hlt : ¬ ((k : Int) < (Ps.length : Int)) := by have := HKk.out; omega
      have hm := HM.out
      rw [List.take_of_length_le (by have := HKk.out; omega)] at hm
      have HM1 := Lib.hid hm
      clear hm
      go_upto_if 18 with fail
      repeat (first | (exact sum_t3 Ps.flatten _ b w _ rfl HLn.out HM1.out Hb0.out HA.out HB.out) | go_step)
    | succ g =>
      have hkl : k < Ps.length := by have := HKk.out; omega
      have hlt : ((k : Int) < (Ps.length : Int)) := by omega
      rcases HV.out with ⟨_, h0⟩ | ⟨ad, c, e1, q1, q2, q3⟩
      · rw [h0] at hkl; simp at hkl
      cases e1
      obtain ⟨u, hu, hy, hub⟩ := q3 k hkl
      have hcu := cellb HB.out hu
      have HY := Lib.hid (hy.below HB.out)
      have HU := Lib.hid hub
      have hfl : (Ps.take (k + 1)).flatten = (Ps.take k).flatten ++ Ps.getD k [] := by
        rw [List.take_succ_eq_append_getElem hkl, List.flatten_append]; simp [hkl]
      have hln : (Ps.take k).flatten.length + (Ps.getD k []).length ≤ Ps.flatten.length := by
        rw [← List.length_append, ← hfl]
        have : Ps.flatten.length = (Ps.take (k + 1)).flatten.length + (Ps.drop (k + 1)).flatten.length := by
          rw [← List.length_append, ← List.flatten_append, List.take_append_drop]
        omega
      have HFl := Lib.hid hfl
      have HLe := Lib.hid hln
      have HKl := Lib.hid hkl
      clear hu hy hub hfl hln q1 q2 q3
      go_wp2_with fail
      refine (add_any (w.heap.size + 1) b (Ps.take k).flatten (Ps.getD k []) u _ Hb0.out HM.out HY.out (fun ad n c h => by have := HU.out ad n c h; have := Hb0.out; omega) (by have := HLe.out; have := HLn.out; omega)).mono ?_
      rintro e w6 ⟨rfl, hM6, hb6⟩
      dsimp only
      have HM6 := Lib.hid hM6
      have HA6 := Lib.hid (HA.out.below hb6 (Nat.lt_succ_self _))
      have HB6 := Lib.hid (HB.out.trans (hb6.mono (Nat.le_succ _)))
      clear hM6 hb6 hcu HY HU
      go_wp2
      go_roundg g
      case measure => omega
      case rel =>
        exact ⟨k + 1, by show _ = _; have := HKk.out; omega, by go_num, by show HsM _ _ _; rw [HFl.out]; exact HM6.out, HA6.out, HB6.out⟩
end Go.Proofs.YthnbnckmeffkmaaGreat
/- sha.Tag. -/
namespace Go.Proofs.YthnbnckmeffkmaaGreat
open Go.RowKit Go.Lib
set_option linter.unusedVariables false
set_option linter.unusedSimpArgs false
attribute [local go_sem ↓] Go.wp_at_zero Go.wp_at_succ

theorem list_of_all {P : Nat → Value → Prop} : ∀ n : Nat, (∀ j, j < n → ∃ u, P j u) → ∃ us : List Value, us.length = n ∧ ∀ j u, us[j]? = some u → P j u
  | 0, _ => ⟨[], rfl, fun j u h => by simp at h⟩
  | n + 1, h => by
    obtain ⟨us, hl, hu⟩ := list_of_all n (fun j hj => h j (by omega))
    obtain ⟨u, hp⟩ := h n (by omega)
    refine ⟨us ++ [u], by simp [hl], fun j v hv => ?_⟩
    by_cases hj : j < us.length
    · rw [List.getElem?_append_left hj] at hv; exact hu j v hv
    · rw [List.getElem?_append_right (by omega)] at hv
      obtain rfl : j = n := by
        have := (List.getElem?_eq_some_iff.1 hv).1; simp at this; omega
      rw [hl, Nat.sub_self] at hv
      cases hv
      exact hp
/-- Where a byte slice lies. -/
def Low (w : World) (u : Value) : Prop := ∀ a n k, u = .slice (some a) n k → a.block < w.heap.size
theorem Byts.one {w : World} {u : Value} {L : List Nat} (h : Byts w u L) : u.oneCell' = true := by
  rcases h.2 with ⟨rfl, _⟩ | ⟨ad, c, rfl, _⟩ <;> rfl
theorem parts_of_own {w : World} {base : Nat} {e : TypeId} {v : Value} {us : List Value} {Ps : List (List Nat)} (h : w.ownsRow base e 1 v Ps.length us) (hP : ∀ j u, us[j]? = some u → Byts w u (Ps.getD j []) ∧ Low w u) : PartsIs w v Ps := by
  have hl : us.length = Ps.length := by have := h.1; omega
  rcases h.2 with ⟨rfl, h0⟩ | ⟨g, cap, cur, rfl, hb, hg, hn, hc, hcur⟩
  · exact .inl ⟨rfl, List.eq_nil_of_length_eq_zero h0⟩
  · refine .inr ⟨_, cap, rfl, hn, hc, fun j hj => ?_⟩
    obtain ⟨u, hu⟩ : ∃ u, us[j]? = some u := ⟨us[j]'(by omega), by simp⟩
    refine ⟨u, ?_, (hP j u hu).1, (hP j u hu).2⟩
    rw [add_nospot, World.ownsRow.cellAt h j (by omega), hu]
theorem infoS : (Tryz.prog.info? 157).map (fun i => (i.zero, i.size, i.bytes)) = some (some (.slice none 0 0), 1, 24) := by kernel_rfl

/-- append(v, y...), parts onto a slice of the call's own. -/
theorem appP {ops : Array Oper} {rest : List Oper} {o : Oper} {a : Act} {Q : Exit → Act → World → Prop} {W W0 : World} (base : Nat) (hgd : o.guard = none) (s x : Operand)
    (ho : o.op = .call { callee := .builtin .append, args := #[s, x], argTypes := #[214, 214] }) (v y : Value) (us0 : List Value) (Ps : List (List Nat)) (hs : a.eval s = v) (hx : a.eval x = y)
    (HO : W.ownsRow base 157 1 v us0.length us0) (HY : PartsIs W0 y Ps) (hW : Below W0.heap.size W0 W) (hbase : base ≤ W.heap.size) (hl : (us0.length + Ps.length) * 24 ≤ 140737488355328)
    (h : ∀ v1 w1 us, Hid (w1.ownsRow base 157 1 v1 (us0 ++ us).length (us0 ++ us)) → Hid (us.length = Ps.length ∧ ∀ j u, us[j]? = some u → Byts W0 u (Ps.getD j []) ∧ Low W0 u) → Hid (∀ B w0, Below B w0 W → B ≤ base → Below B w0 w1) → wpList Tryz.prog ops Q rest (a.put o.dst v1) w1) :
    wpList Tryz.prog ops Q (o :: rest) a W := by
  obtain ⟨i0, hi, hzz⟩ := Option.map_eq_some_iff.1 infoS
  simp only [Prod.mk.injEq] at hzz
  obtain ⟨hz0, hz1, hz2⟩ := hzz
  rcases HY with ⟨rfl, rfl⟩ | ⟨ad, c, rfl, _, _, hcell⟩
  · refine wpList_append_own_none hgd s x 214 ho base 157 i0 1 Tryz.underlying214 hi v us0.length us0 hs HO hx ?_
    exact h v W [] (by show World.ownsRow _ _ _ _ _ _ _; simpa using HO) ⟨rfl, fun j u hu => by simp at hu⟩ (fun B w0 hB _ => hB)
  · obtain ⟨us, hul, hu⟩ := list_of_all Ps.length hcell
    refine wpList_append_own W hgd s x 214 ho base 157 i0 (.slice none 0 0) 1 24 Tryz.underlying214 hi hz0 hz1 hz2 rfl (by omega) v us0.length us0 hs HO ad Ps.length c us hx (by omega)
      (fun j u huj => cellb hW (hu j u huj).1) (fun u hm => ?_) (by unfold maxLen; omega) hl hbase ?_
    · obtain ⟨j, hj⟩ := List.mem_iff_getElem?.1 hm
      exact (hu j u hj).2.1.one
    · intro v1 w1 hown hg _
      refine h v1 w1 us (by show World.ownsRow _ _ _ _ _ _ _; rw [List.length_append, hul]; exact hown) ⟨hul, fun j u huj => (hu j u huj).2⟩ (fun B w0 hB hb => hB.grown hg (by omega) (fun k hk => Nat.le_trans hb (HO.lt k hk).1))
theorem own_litS (w : World) (e : TypeId) (u : Value) : (w.alloc (.cells #[u] e)).ownsRow w.heap.size e 1 (.slice (some ⟨w.heap.size, 0, none⟩) 1 1) [u].length [u] :=
  ⟨by simp, .inr ⟨w.heap.size, 1, #[u], rfl, Nat.le_refl _, alloc_top w _, Nat.le_refl _, by unfold maxLen; omega, by simp, by simp⟩⟩

set_option maxRecDepth 100000 in
set_option maxHeartbeats 1600000 in
theorem tag_any (s : ByteArray) (v : Value) (Ps : List (List Nat)) (w : World) (hs : s.size ≤ 255) (hl : Ps.flatten.length ≤ 999999999000) (hn : Ps.length ≤ 1000000) (hv : PartsIs w v Ps) :
    Calls Tryz.prog 81 #[.string s, v] w fun e w' => e = .returned (.agg (bys (tagF (nmB s) Ps.flatten)).toArray) ∧ Below w.heap.size w w' := by
  have hz := zero32
  obtain ⟨a0, c0, rfl⟩ : ∃ a0 c0, v = .slice a0 Ps.length c0 := by
    rcases hv with ⟨rfl, rfl⟩ | ⟨ad, c, rfl, _⟩
    · exact ⟨_, _, rfl⟩
    · exact ⟨_, _, rfl⟩
  have hsz : (s.size : Int) ≤ 255 := by omega
  have hmin : min (s.size : Int) 255 = (s.size : Int) := by omega
  have hmin2 : min s.size 255 = s.size := by omega
  have hwr : IntKind.u8.wrap (s.size : Int) = (s.size : Int) := by rw [IntKind.wrap_u8]; omega
  have hex : s.extract 0 s.size = s := by simp
  have HV := Lib.hid hv
  have HLn := Lib.hid hl
  have HN := Lib.hid hn
  have HS := Lib.hid hs
  clear hv hl hn hs
  go_enter Tryz.func81, Tryz.ntmps81
  go_upto_region 1 with fail
  have hpk := And.intro (Arr.made w 24 (List.replicate 32 (.int .u8 0))) ((Below.refl w.heap.size w).alloc (Nat.le_refl _) (.cells (List.replicate 32 (.int .u8 0)).toArray 24))
  simp only [List.reduceReplicate] at hpk
  have HPk := Lib.hid hpk
  clear hpk hz
  generalize World.alloc _ _ = w1 at HPk ⊢
  go_upto_region 2 with fail
  clear hmin hmin2 hex
  have HV1 := Lib.hid (HV.out.below HPk.out.2)
  have HO := Lib.hid (own_lit w1 5 s.size)
  have HL := Lib.hid (show [s.size].length + s.size ≤ 140737488355328 by have := HS.out; simp; omega)
  have Hbs := Lib.hid (show w1.heap.size ≤ (w1.alloc (.cells #[.int .u8 (s.size : Nat)] 5)).heap.size by simp)
  obtain ⟨X1, hX1⟩ : ∃ X1, [s.size] ++ nmB s = X1 := ⟨_, rfl⟩
  have HX1 := Lib.hid hX1
  clear hX1
  go_wp2_with (at_builtin; refine appS w1.heap.size rfl (.tmp 13) (.tmp 14) 157 9 5 rfl Tryz.underlying157 Tryz.underlying9 infoB _ [s.size] X1 s HX1.out rfl rfl HO.out Hbs.out HL.out ?_)
  intro v2 w2 ho2 hb2 hg2
  have h256 : ∀ x ∈ X1, x < 256 := by
    intro x hx
    rw [← HX1.out] at hx
    rcases List.mem_append.1 hx with h | h
    · simp at h; have := HS.out; omega
    · exact nmB_lt s x h
  have hby := own_byts ho2.out h256
  have hb12 : Below w1.heap.size w1 w2 := hb2.out w1.heap.size w1 ((Below.refl _ _).alloc (Nat.le_refl _) _) (Nat.le_refl _)
  have hlow : Low w2 v2 := by
    intro a n k e
    exact (ho2.out.lt a.block (by rw [e]; rfl)).2
  obtain ⟨a2, c2, hv2⟩ : ∃ a2 c2, v2 = .slice a2 X1.length c2 := by
    rcases hby.2 with ⟨h, h0⟩ | ⟨ad, c, h, _⟩
    · exact ⟨_, _, by rw [h, h0]; rfl⟩
    · exact ⟨_, _, h⟩
  subst hv2
  have HBy := Lib.hid hby
  have HLow := Lib.hid hlow
  have HV2 := Lib.hid (HV1.out.below hb12)
  have HB2 := Lib.hid (HPk.out.2.trans (hb12.mono HPk.out.2.size))
  have HA2 := Lib.hid (HPk.out.1.below hb12 HPk.out.1.lt)
  have HO3 := Lib.hid (own_litS w2 157 (.slice a2 X1.length c2))
  have HW3 := Lib.hid (show Below w2.heap.size w2 (w2.alloc (.cells #[.slice a2 X1.length c2] 157)) from (Below.refl _ _).alloc (Nat.le_refl _) _)
  have HL3 := Lib.hid (show ([Value.slice a2 X1.length c2].length + Ps.length) * 24 ≤ 140737488355328 by have := HN.out; simp; omega)
  clear h256 hby hb12 hlow ho2 hb2 hg2 HO HL Hbs HPk HV HV1 hsz hwr
  go_wp2_with (at_builtin; refine appP w2.heap.size rfl (.tmp 16) (.tmp 17) rfl _ (.slice a0 Ps.length c0) [.slice a2 X1.length c2] Ps rfl rfl HO3.out HV2.out HW3.out HW3.out.size HL3.out ?_)
  intro v3 w3 us ho3 hu3 hb3
  have hb23 : Below w2.heap.size w2 w3 := hb3.out w2.heap.size w2 HW3.out (Nat.le_refl _)
  have hP : PartsIs w3 v3 (X1 :: Ps) := by
    refine parts_of_own (us := [.slice a2 X1.length c2] ++ us) (by have h := ho3.out; rw [hu3.out.1] at h; exact h) ?_
    intro j u hj
    cases j with
    | zero =>
      simp at hj; subst hj
      exact ⟨HBy.out.below hb23, fun a n k e => Nat.lt_of_lt_of_le (HLow.out a n k e) hb23.size⟩
    | succ j =>
      simp at hj
      have h := hu3.out.2 j u hj
      exact ⟨by simpa using h.1.below hb23, fun a n k e => Nat.lt_of_lt_of_le (h.2 a n k e) hb23.size⟩
  have HP := Lib.hid hP
  have HB3 := Lib.hid (HB2.out.trans (hb23.mono HB2.out.size))
  have HA3 := Lib.hid (HA2.out.below hb23 HA2.out.lt)
  clear hP hb23 ho3 hu3 hb3 HB2 HA2
  go_wp2_with fail
  have hxl : X1.length = s.size + 1 := by rw [← HX1.out, List.length_append, nmB_len]; simp; omega
  refine (sum_any v3 (X1 :: Ps) w3 (by rw [List.flatten_cons, List.length_append, hxl]; have := HS.out; have := HLn.out; omega) HP.out).mono ?_
  rintro e w4 ⟨rfl, hb4⟩
  dsimp only
  have HA4 := Lib.hid (HA3.out.below hb4 HA3.out.lt)
  have HB4 := Lib.hid (HB3.out.trans (hb4.mono HB3.out.size))
  obtain ⟨R, hR⟩ : ∃ R, R = shaF (X1 :: Ps).flatten := ⟨_, rfl⟩
  have hRl : R.length = 32 := by rw [hR]; exact shaF_len _
  have hRe : R = tagF (nmB s) Ps.flatten := by
    rw [hR]; unfold tagF textF; rw [List.flatten_cons, ← HX1.out, nmB_len]; rfl
  rw [← hR]
  have HRe := Lib.hid hRe
  have HRl := Lib.hid hRl
  have Hs := Lib.hid (show (Tryz.prog.info? 24).map (·.size) = some (bys R).length by rw [bys_len, hRl]; exact size32)
  have Hs2 := Lib.hid (show (Tryz.prog.info? 24).map (·.size) = some (bys R).toArray.size by rw [List.size_toArray, bys_len, hRl]; exact size32)
  have O1 := Lib.hid (all_oneCell_toArray (bys_one R))
  clear hR hRl hRe hb4 hxl
  go_step
  refine wpList_store_mid (P := Tryz.prog) rfl 24 _ _ rfl w.heap.size 0 _ rfl rfl (HA4.out.there _ (by simp [bys_len, HRl.out])) Hs2.out O1.out ?_
  go_wp2
  have HA5 := Lib.hid (HA4.out.setAll (bys R) (by simp [bys_len, HRl.out]))
  refine bodyPost_ret (results_cell_row (P := Tryz.prog) rfl _ _ w.heap.size 24 _ (0, 0) _ rfl HA5.out Tryz.underlying24 rfl (by rw [List.size_toArray]; exact Hs.out)) rfl ?_
  exact ⟨by rw [HRe.out], below_sets _ (Nat.le_refl _) _ _ HB4.out⟩
end Go.Proofs.YthnbnckmeffkmaaGreat
