/- plexusref02.Sum: the blocks are pressed, and what follows. -/
import Derived.Test.YthnbnckmeffkmaaGreatG05
import Derived.Laws.CopyOwn
import Derived.StillTailTactics
namespace Go.Proofs.YthnbnckmeffkmaaGreat
open Go.RowKit Go.Lib
set_option linter.unusedVariables false
set_option linter.unusedSimpArgs false
attribute [local go_sem ↓] Go.wp_at_zero Go.wp_at_succ

/-- What lies there while the blocks are pressed. -/
def BlInv (wr wq : World) (M : List Nat) (G6 k : Nat) : Prop :=
  Arr wq G6 268 (words (foldB kTab k hTab M)) ∧ wr.heap.size ≤ G6 ∧ Below wr.heap.size wr wq
theorem BlInv.zero {wr wq : World} {M T : List Nat} {G6 : Nat} (hT : T = hTab) (h : Arr wq G6 268 (words T)) (h2 : wr.heap.size ≤ G6) (h3 : Below wr.heap.size wr wq) : BlInv wr wq M G6 0 := by
  subst hT; unfold BlInv; rw [foldB]; exact ⟨h, h2, h3⟩
theorem zero64b : ∀ w, (zeroValue 283).run Tryz.prog w = .ok (.agg (List.replicate 64 (.int .u8 0)).toArray) w := by
  have := zero_of_info (P := Tryz.prog) (t := 283) (v := .agg (List.replicate 64 (.int .u8 0)).toArray) (n := 64) (by kernel_rfl)
  exact this.1
theorem size64b : (Tryz.prog.info? 283).map (·.size) = some 64 := by kernel_rfl
theorem size1b : (Tryz.prog.info? 5).map (·.size) = some 1 := by kernel_rfl
theorem hTab_lt : ∀ x ∈ hTab, x < 4294967296 := by decide

set_option maxRecDepth 100000 in
set_option maxHeartbeats 3200000 in
theorem rsum_t3 {u0 u1 u4 u5 u6 u7 u8 u9 u10 u11 u12 u13 u14 u15 u16 u17 u18 u19 u20 u21 u22 u23 u24 u25 u26 u27 u28 u29 u30 u31 u32 u33 u34 u35 u36 u37 u38 u39 u40 u41 u42 u43 u44 u45 u46 u47 u48 u49 u50 u51 u52 u53 u54 u55 u56 u57 u58 u59 u60 u61 u62 u63 u64 u65 u66 u67 u68 u69 u70 u71 u72 u73 : Value} (M R : List Nat) (nb c : Nat) (ad : Addr) (w wr : World) (hM : M.length = 64 * nb) (hc1 : M.length ≤ c) (hc2 : c ≤ maxLen) (hby : Byts wr (.slice (some ad) M.length c) M) (hR : R = outF (foldB kTab nb hTab M))
    (h1 : Arr wr w.heap.size 24 (List.replicate 32 (.int .u8 0))) (hb : Below w.heap.size w wr) :
    Code.wp Tryz.prog (seqDrop 5 (bodyOf Tryz.f157)) (bodyPost Tryz.prog Tryz.f157 fun e w' => e = .returned (.agg (bys R).toArray) ∧ Below w.heap.size w w')
      ⟨#[u0, u1, .pointer (some ⟨w.heap.size, 0, none⟩), .slice (some ad) M.length c, u4, u5, u6, u7, u8, u9, u10, u11, u12, u13, u14, u15, u16, u17, u18, u19, u20, u21, u22, u23, u24, u25, u26, u27, u28, u29, u30, u31, u32, u33, u34, u35, u36, u37, u38, u39, u40, u41, u42, u43, u44, u45, u46, u47, u48, u49, u50, u51, u52, u53, u54, u55, u56, u57, u58, u59, u60, u61, u62, u63, u64, u65, u66, u67, u68, u69, u70, u71, u72, u73], []⟩ wr := by
  have hz := zero8
  have hz64 := zero64b
  have HM := Lib.hid hM
  have HC1 := Lib.hid hc1
  have HC2 := Lib.hid hc2
  have HBy := Lib.hid hby
  have HR := Lib.hid hR
  have H1 := Lib.hid h1
  have HB := Lib.hid hb
  clear hM hc1 hc2 hby hR h1 hb
  conv => arg 2; whnf
  go_wp2_with fail
  refine (starts_any _).mono ?_
  rintro e w2 ⟨rfl, hb2⟩
  dsimp only
  obtain ⟨T, hT⟩ : ∃ T, T = hTab := ⟨_, rfl⟩
  have hTl : T.length = 8 := by rw [hT]; rfl
  rw [← hT]
  have hm8 := Arr.made w2 268 (List.replicate 8 (.int .u32 0))
  have M8 := Lib.hid (hm8.there (words T).toArray.size (by simp [words_len, hTl]))
  have S8 := Lib.hid (hm8.setAll (words T) (by simp [words_len, hTl]))
  have s8 := Lib.hid (show (Tryz.prog.info? 268).map (·.size) = some (words T).toArray.size by rw [List.size_toArray, words_len, hTl]; exact size8)
  have o8 := Lib.hid (all_oneCell_toArray (words_one T))
  have B3 := Lib.hid (below_sets w2.heap.size hb2.size (words T) 0 (hb2.alloc hb2.size (.cells (List.replicate 8 (.int .u32 0)).toArray 268)))
  have hs2 := Lib.hid hb2.size
  have HT := Lib.hid hT
  clear hm8 hb2 hT hTl
  iterate 4 (first | go_values | go_skip | go_guarded | go_step | go_upon)
  refine wpList_store_mid (P := Tryz.prog) rfl 268 _ _ rfl w2.heap.size 0 (words T).toArray rfl rfl M8.out s8.out o8.out ?_
  have hbl := BlInv.zero (M := M) HT.out S8.out hs2.out B3.out
  simp only [List.reduceReplicate] at hbl
  have HBl := Lib.hid hbl
  clear hbl
  obtain ⟨G6, hG⟩ : ∃ G, w2.heap.size = G := ⟨_, rfl⟩
  rw [hG] at HBl ⊢
  generalize World.setCells _ _ _ _ = w3 at HBl ⊢
  clear hG S8 B3 hs2 M8 s8 o8 hz
  go_wp2
  go_loopg [7, 8] nb (fun g vi vb wq => ∃ k : Nat, Hid (g + k = nb) ∧ vi = .int .i64 ((64 * k : Nat) : Int) ∧ Hid (BlInv wr wq M G6 k))
  case atStart => exact ⟨0, rfl, rfl, HBl.out⟩
  case round =>
    obtain ⟨k, hk, rfl, hi⟩ := hrel
    have HK := Lib.hid hk.out
    have HI := Lib.hid hi.out
    clear hk hi HBl
    cases gk with
    | zero =>
      have ek : k = nb := by have := HK.out; omega
      obtain ⟨h1, h2, h3⟩ := HI.out
      have HA := Lib.hid (H1.out.below h3 H1.out.lt)
      have HBel := Lib.hid (HB.out.trans (h3.mono HB.out.size))
      rw [ek] at h1
      have HA6 := Lib.hid h1
      have hn6 : w.heap.size < G6 := by have := H1.out.lt; omega
      have HN6 := Lib.hid hn6
      obtain ⟨z, hz⟩ : ∃ z : Int, ((64 * k : Nat) : Int) = z := ⟨_, rfl⟩
      obtain ⟨n, hn⟩ : ∃ n : Int, ((M.length : Nat) : Int) = n := ⟨_, rfl⟩
      have hlt : ¬ (z < n) := by have := HM.out; omega
      have hlt2 : ¬ (z < (M.length : Int)) := by omega
      rw [hz]
      have F8 := Lib.hid (foldB_len kTab nb hTab M rfl)
      have FL := Lib.hid (foldB_lt kTab nb hTab M hTab_lt)
      clear h1 h2 h3 hn6 hz ek
      go_upto_if 43 with fail
      repeat (first | (exact rsum_t4 _ R G6 w _ F8.out HR.out FL.out HA.out HA6.out HN6.out HBel.out) | go_step)
    | succ g =>
      have hkn : k < nb := by have := HK.out; omega
      obtain ⟨h1, h2, h3⟩ := HI.out
      have hby := HBy.out.below h3
      obtain ⟨h256, hno | ⟨ad', c', e1, _, _, hcell⟩⟩ := hby
      · cases hno.1
      · cases e1
        obtain ⟨z, hz⟩ : ∃ z : Int, ((64 * k : Nat) : Int) = z := ⟨_, rfl⟩
        obtain ⟨z2, hz2⟩ : ∃ z2 : Int, z + 64 = z2 := ⟨_, rfl⟩
        have hm := HM.out
        have hc1 := HC1.out
        have hc2 := HC2.out
        unfold maxLen at hc2
        have iz : 0 ≤ z := by omega
        have jz : z < (M.length : Int) := by omega
        have kz : z2 ≤ (M.length : Int) := by omega
        have lz : z2 ≤ (c : Int) := by omega
        have mz : z ≤ z2 := by omega
        have nz : 0 ≤ z2 := by omega
        have oz : (M.length : Int) ≤ 9223372036854775807 := by omega
        have vz : IntKind.i64.wrap (z + 64) = z2 := by rw [IntKind.wrap_i64]; omega
        have HZ := Lib.hid hz
        have HZ2 := Lib.hid hz2
        have HCell := Lib.hid hcell
        have H256 := Lib.hid h256
        have HA1 := Lib.hid h1
        have HG6 := Lib.hid h2
        have HB3 := Lib.hid h3
        have HKN := Lib.hid hkn
        rw [hz]
        clear h1 h2 h3 hm hc1 hc2 hz hz2 hkn hcell h256 HI
        go_upto_region 14 with fail
        have hm6 := Arr.made wr 283 (List.replicate 64 (.int .u8 0))
        have hb8 : Below wr.heap.size wr (wr.alloc (.cells (List.replicate 64 (.int .u8 0)).toArray 283)) := (Below.refl _ _).alloc (Nat.le_refl _) _
        have hg8 : wr.heap.size < (wr.alloc (.cells (List.replicate 64 (.int .u8 0)).toArray 283)).heap.size := hm6.lt
        have hpk := And.intro hm6 (And.intro hb8 hg8)
        simp only [List.reduceReplicate] at hpk
        have HPk := Lib.hid hpk
        clear hm6 hb8 hg8 hpk hz64
        obtain ⟨g8, hg⟩ : ∃ g8, wr.heap.size = g8 := ⟨_, rfl⟩
        have HG8 := Lib.hid hg
        rw [hg] at HPk ⊢
        generalize World.alloc _ _ = w8 at HPk ⊢
        clear hg
        go_still_tail 6, (by kernel_rfl)
        change wpList _ _ _ _ _ w8.drew
        have HA9 := Lib.hid (show Arr w8.drew g8 283 (List.replicate 64 (.int .u8 0)) from HPk.out.1)
        have HB9 := Lib.hid (show Below g8 wr w8.drew from HPk.out.2.1.drew)
        have HS9 := Lib.hid (show g8 < w8.drew.heap.size from HPk.out.2.2)
        have HI9 := Lib.hid ((HB3.out.trans (HPk.out.2.1.mono (by rw [← HG8.out]; exact HB3.out.size))).drew)
        clear HPk
        generalize w8.drew = w9 at *
        obtain ⟨blk, hblk⟩ : ∃ blk, blk = (M.drop (64 * k)).take 64 := ⟨_, rfl⟩
        have hbl64 : blk.length = 64 := by rw [hblk]; simp only [List.length_take, List.length_drop]; have := HM.out; have := HKN.out; omega
        refine wpList_copy_splice (P := Tryz.prog) rfl (.tmp 46) (.tmp 51) 157 157 rfl 5 Tryz.underlying157 size1b _ _ _ _ _ _ rfl rfl g8 0 (List.replicate 64 (.int .u8 0)) 283 HA9.out (bys blk) ?q1 ?q2 ?q3 (bys_one _) g8 w9 (Below.refl _ _) (Nat.le_refl _) ?q4
        case q1 => rw [bys_len, hbl64, show z2.toNat - z.toNat = 64 by have := HZ2.out; omega]; rfl
        case q2 =>
          intro _
          refine ⟨rfl, ad.add z.toNat, by rw [if_neg (by omega)], ?_⟩
          intro j v hj
          have hj64 : j < 64 := by have := (List.getElem?_eq_some_iff.1 hj).1; rw [bys_len, hbl64] at this; exact this
          rw [bys_get blk j (by omega)] at hj
          rw [Addr.add_add, show z.toNat + j = 64 * k + j by have := HZ.out; omega, cellb (by rw [HG8.out]; exact HB9.out) (HCell.out (64 * k + j) (by have := HM.out; have := HKN.out; omega)), ← hj, hblk]
          congr 3
          have h1 : 64 * k + j < M.length := by have := HM.out; have := HKN.out; omega
          simp [List.getD, List.getElem?_take, hj64, List.getElem?_drop]
        case q3 => simp [bys_len, hbl64]
        case q4 =>
          intro w10 hrow hb10
          have hr := hrow.out
          have hsp : splice (List.replicate 64 (Value.int .u8 0)) 0 (bys blk) = bys blk := by
            unfold splice; rw [List.take_zero, List.nil_append, bys_len, hbl64, List.drop_eq_nil_of_le (by simp), List.append_nil]
          rw [hsp] at hr
          have A8 := Lib.hid (show Arr w10 g8 283 (bys blk) from hr)
          have hG6 : G6 < g8 := by rw [← HG8.out]; exact HA1.out.lt
          have A6 := Lib.hid ((HA1.out.below (B := g8) HB9.out hG6).below hb10 hG6)
          have hI10 : Below _ _ w10 := HI9.out.trans (hb10.mono (by rw [← HG8.out]; exact HB3.out.size))
          have HI10 := Lib.hid hI10
          have HGl := Lib.hid hG6
          have hsz : g8 < w10.heap.size := Nat.lt_of_lt_of_le HS9.out hb10.size
          have HSz := Lib.hid hsz
          have HBk := Lib.hid hblk
          have HBl64 := Lib.hid hbl64
          have F8 := Lib.hid (foldB_len kTab k hTab M rfl)
          have FL := Lib.hid (foldB_lt kTab k hTab M hTab_lt)
          have FN := Lib.hid (foldB_next kTab k hTab M)
          obtain ⟨X, hX⟩ : ∃ X, X = foldB kTab k hTab M := ⟨_, rfl⟩
          rw [← hX] at A6 F8 FL FN
          have HX := Lib.hid hX
          have s6 := Lib.hid (show (Tryz.prog.info? 268).map (·.size) = some (words X).length by rw [words_len, F8.out]; exact size8)
          have s8 := Lib.hid (show (Tryz.prog.info? 283).map (·.size) = some (bys blk).length by rw [bys_len, hbl64]; exact size64b)
          clear hrow hr hsp hb10 hI10 hG6 hblk hX hbl64 hsz HA1 HB3 HCell HI9 HA9 HB9 HS9
          go_upto_region 15 with fail
          go_step
          refine wpList_load_mid (P := Tryz.prog) rfl 268 _ rfl G6 0 rfl _ _ A6.out.range Tryz.underlying268 rfl s6.out ?_
          refine wpList_load_mid (P := Tryz.prog) rfl 283 _ rfl g8 0 rfl _ _ A8.out.range Tryz.underlying283 rfl s8.out ?_
          go_wp2_with fail
          have hblt : ∀ j, j < 64 → blk.getD j 0 < 256 := by
            intro j hj
            have : blk.getD j 0 ∈ M := by
              rw [HBk.out]
              have hl : j < ((M.drop (64 * k)).take 64).length := by rw [← HBk.out, HBl64.out]; exact hj
              rw [show ((M.drop (64 * k)).take 64).getD j 0 = ((M.drop (64 * k)).take 64)[j] by simp only [List.getD, List.getElem?_eq_getElem hl, Option.getD_some]]
              exact List.mem_of_mem_drop (List.mem_of_mem_take (List.getElem_mem hl))
            exact H256.out _ this
          refine (rpress_any X blk F8.out FL.out HBl64.out hblt _).mono ?_
          rintro e w11 ⟨rfl, hb11⟩
          dsimp only
          have A7 := Lib.hid (A6.out.below hb11 A6.out.lt)
          have hI11 := HI10.out.trans (hb11.mono HI10.out.size)
          have HI11 := Lib.hid hI11
          obtain ⟨Y, hY⟩ : ∃ Y, Y = pressF kTab X blk := ⟨_, rfl⟩
          have hYl : Y.length = 8 := by rw [hY]; exact pressF_len _ _ _ F8.out
          rw [← hY]
          have HY := Lib.hid hY
          have o6 := Lib.hid (all_oneCell_toArray (words_one Y))
          have s7 := Lib.hid (show (Tryz.prog.info? 268).map (·.size) = some (words Y).toArray.size by rw [List.size_toArray, words_len, hYl]; exact size8)
          have HYl := Lib.hid hYl
          clear hblt hb11 hI11 hY hYl A6 A8 HI10
          go_step
          refine wpList_store_mid (P := Tryz.prog) rfl 268 _ _ rfl G6 0 (words Y).toArray rfl rfl (A7.out.there _ (by simp [words_len, HYl.out, F8.out])) s7.out o6.out ?_
          have A9 := Lib.hid (A7.out.setAll (words Y) (by simp [words_len, HYl.out, F8.out]))
          have B9 := Lib.hid (below_sets G6 HG6.out (words Y) 0 HI11.out)
          generalize World.setCells _ _ _ _ = w12 at *
          go_wp2
          go_roundg g
          case measure => omega
          case rel =>
            refine ⟨k + 1, by show _ = _; have := HK.out; omega, by have := HZ.out; have := HZ2.out; congr 1; omega, ?_⟩
            show BlInv _ _ _ _ _
            refine ⟨?_, HG6.out, B9.out⟩
            rw [FN.out, ← HBk.out, ← HY.out]
            exact A9.out
end Go.Proofs.YthnbnckmeffkmaaGreat
/- plexusref02.Sum: the length is laid, and what follows. -/
namespace Go.Proofs.YthnbnckmeffkmaaGreat
open Go.RowKit Go.Lib
set_option linter.unusedVariables false
set_option linter.unusedSimpArgs false
attribute [local go_sem ↓] Go.wp_at_zero Go.wp_at_succ

theorem infoB : (Tryz.prog.info? 5).map (fun i => (i.zero, i.size, i.bytes)) = some (some (.int .u8 0), 1, 1) := by kernel_rfl
theorem be8_next (n g : Nat) (hg : g < 8) : (be8 n).take (8 - (g + 1)) ++ [n / 2 ^ (8 * g) % 256] = (be8 n).take (8 - g) := by
  match g, hg with
  | 0, _ => simp [be8]
  | 1, _ => simp [be8]
  | 2, _ => simp [be8]
  | 3, _ => simp [be8]
  | 4, _ => simp [be8]
  | 5, _ => simp [be8]
  | 6, _ => simp [be8]
  | 7, _ => simp [be8]
theorem be8_lt (n : Nat) : ∀ x ∈ be8 n, x < 256 := by
  intro x hx
  simp only [be8, List.mem_cons, List.not_mem_nil, or_false] at hx
  rcases hx with rfl | rfl | rfl | rfl | rfl | rfl | rfl | rfl <;> exact Nat.mod_lt _ (by omega)
theorem app1b {ops : Array Oper} {rest : List Oper} {o : Oper} {a : Act} {Q : Exit → Act → World → Prop} {W : World} (base : Nat) (hgd : o.guard = none) (s x : Operand)
    (ho : o.op = .call { callee := .builtin .append, args := #[s, x], argTypes := #[157, 157] }) (v : Value) (X Z : List Nat) (y : Nat) (z : Int) (hZ : X ++ [y] = Z) (hz : z = (y : Int)) (hs : a.eval s = v)
    (hx : a.eval x = .slice (some ⟨W.heap.size, 0, none⟩) 1 1) (HO : W.ownsRow base 5 1 v X.length (bys X)) (hbase : base ≤ W.heap.size) (hl : X.length + 1 ≤ 140737488355328)
    (h : ∀ v1 w1, Hid (w1.ownsRow base 5 1 v1 Z.length (bys Z)) → Hid (∀ B w0, Below B w0 W → B ≤ base → Below B w0 w1) → Hid (W.grownBy w1 v.ownBlock) → wpList Tryz.prog ops Q rest (a.put o.dst v1) w1) :
    wpList Tryz.prog ops Q (o :: rest) a (W.alloc (.cells #[.int .u8 z] 5)) := by
  subst hz hZ
  refine app1 base hgd s x 157 5 (.int .u8 0) 1 ho Tryz.underlying157 infoB rfl (by omega) v (bys X) (.int .u8 (y : Nat)) hs hx rfl (by rw [bys_len]; exact HO) hbase (by rw [bys_len]; omega) ?_
  intro v1 w1 ho hb hg _
  have e : bys X ++ [Value.int .u8 (y : Nat)] = bys (X ++ [y]) := by rw [bys_app]; rfl
  rw [e, bys_len] at ho
  exact h v1 w1 ho hb hg

set_option maxRecDepth 100000 in
set_option maxHeartbeats 3200000 in
theorem rsum_t2 {u1 u4 u5 u6 u7 u8 u9 u10 u11 u12 u13 u14 u15 u16 u17 u18 u19 u20 u21 u22 u23 u24 u25 u26 u27 u28 u29 u30 u31 u32 u33 u34 u35 u36 u37 u38 u39 u40 u41 u42 u43 u44 u45 u46 u47 u48 u49 u50 u51 u52 u53 u54 u55 u56 u57 u58 u59 u60 u61 u62 u63 u64 u65 u66 u67 u68 u69 u70 u71 u72 u73 : Value} (m X R : List Nat) (nb c0 : Nat) (a0 : Option Addr) (v : Value) (w wr : World) (hm : m.length ≤ 1099511627776) (hX : X.length + 8 = 64 * nb) (h256 : ∀ x ∈ X, x < 256) (hXl : X.length ≤ 2199023255552)
    (hR : R = outF (foldB kTab nb hTab (X ++ be8 (8 * m.length)))) (ho : wr.ownsRow (w.heap.size + 1) 5 1 v X.length (bys X))
    (h1 : Arr wr w.heap.size 24 (List.replicate 32 (.int .u8 0))) (hb : Below w.heap.size w wr) :
    Code.wp Tryz.prog (seqDrop 3 (bodyOf Tryz.f157)) (bodyPost Tryz.prog Tryz.f157 fun e w' => e = .returned (.agg (bys R).toArray) ∧ Below w.heap.size w w')
      ⟨#[.slice a0 m.length c0, u1, .pointer (some ⟨w.heap.size, 0, none⟩), v, u4, u5, u6, u7, u8, u9, u10, u11, u12, u13, u14, u15, u16, u17, u18, u19, u20, u21, u22, u23, u24, u25, u26, u27, u28, u29, u30, u31, u32, u33, u34, u35, u36, u37, u38, u39, u40, u41, u42, u43, u44, u45, u46, u47, u48, u49, u50, u51, u52, u53, u54, u55, u56, u57, u58, u59, u60, u61, u62, u63, u64, u65, u66, u67, u68, u69, u70, u71, u72, u73], []⟩ wr := by
  have hn8 : (m.length : Int) * 8 < 18446744073709551616 := by omega
  obtain ⟨N, hN⟩ : ∃ N, N = 8 * m.length := ⟨_, rfl⟩
  rw [← hN] at hR
  have HN := Lib.hid hN
  have HXl := Lib.hid hXl
  have HX := Lib.hid hX
  have H256 := Lib.hid h256
  have HR := Lib.hid hR
  have HO := Lib.hid ho
  have H1 := Lib.hid h1
  have HB := Lib.hid hb
  have HMl := Lib.hid hm
  clear hX h256 hR ho h1 hb hN hXl hn8 hm
  conv => arg 2; whnf
  go_wp2
  rw [show IntKind.u64.wrap (IntKind.u64.wrap (m.length : Int) * 8) = (N : Int) by
    have := HMl.out; have := HN.out
    rw [show IntKind.u64.wrap (m.length : Int) = (m.length : Int) by rw [IntKind.wrap_u64]; omega, IntKind.wrap_u64]; omega]
  have hown0 : wr.ownsRow (w.heap.size + 1) 5 1 v (X ++ (be8 N).take (8 - 8)).length (bys (X ++ (be8 N).take (8 - 8))) := by simpa using HO.out
  have HO0 := Lib.hid hown0
  clear hown0 HO
  go_loopg [3, 5] 8 (fun g vv vi wq => Hid (g ≤ 8) ∧ vi = .int .i64 ((g : Int) - 1) ∧ Hid (wq.ownsRow (w.heap.size + 1) 5 1 vv (X ++ (be8 N).take (8 - g)).length (bys (X ++ (be8 N).take (8 - g)))) ∧ Hid (Arr wq w.heap.size 24 (List.replicate 32 (.int .u8 0))) ∧ Hid (Below w.heap.size w wq))
  case atStart => exact ⟨Nat.le_refl _, rfl, HO0.out, H1.out, HB.out⟩
  case round =>
    obtain ⟨hg, rfl, ho, ha, hb⟩ := hrel
    have HG := Lib.hid hg.out
    have HOw := Lib.hid ho.out
    have HA := Lib.hid ha.out
    have HBe := Lib.hid hb.out
    clear hg ho ha hb HO0 H1 HB
    cases gk with
    | zero =>
      obtain ⟨iz, hiz⟩ : ∃ iz : Int, ((0 : Nat) : Int) - 1 = iz := ⟨_, rfl⟩
      have hlt : ¬ (0 ≤ iz) := by omega
      rw [hiz]
      clear hiz
      have hown := HOw.out
      rw [show (be8 N).take (8 - 0) = be8 N from rfl] at hown
      obtain ⟨M, hM⟩ : ∃ M, M = X ++ be8 N := ⟨_, rfl⟩
      rw [← hM] at hown
      have hMl : M.length = 64 * nb := by rw [hM, List.length_append, ← HX.out]; rfl
      have hM256 : ∀ x ∈ M, x < 256 := by
        intro x hx; rw [hM] at hx
        rcases List.mem_append.1 hx with h | h
        · exact H256.out x h
        · exact be8_lt N x h
      have hby := own_byts hown hM256
      have HRR := Lib.hid (show R = outF (foldB kTab nb hTab M) by rw [hM]; exact HR.out)
      rcases hown.2 with ⟨_, h0⟩ | ⟨g, cap, cur, rfl, _, _, hn, hc, _⟩
      · have := HX.out; omega
      · have HMl2 := Lib.hid hMl
        have HBy := Lib.hid hby
        have HN1 := Lib.hid hn
        have HN2 := Lib.hid hc
        clear hown hMl hM256 hby hn hc hM
        go_upto_if 27 with fail
        repeat (first | (exact rsum_t3 M R nb cap _ w _ HMl2.out HN1.out HN2.out HBy.out HRR.out HA.out HBe.out) | go_step)
    | succ g =>
      have hg7 : g < 8 := by have := HG.out; omega
      obtain ⟨iz, hiz⟩ : ∃ iz : Int, ((g + 1 : Nat) : Int) - 1 = iz := ⟨_, rfl⟩
      have hge : 0 ≤ iz := by omega
      have hle : iz ≤ 7 := by omega
      have hig : iz.toNat = g := by omega
      have HIz := Lib.hid (show iz = (g : Int) by omega)
      have HG7 := Lib.hid hg7
      rw [hiz]
      clear hiz hg7
      have hv : (N : Int) / 2 ^ (8 * iz).toNat % 256 = ((N / 2 ^ (8 * g) % 256 : Nat) : Int) := by
        rw [show (8 * iz).toNat = 8 * g by have := HIz.out; omega]; simp
      have HV := Lib.hid hv
      have HL1 := Lib.hid (show w.heap.size + 1 ≤ wr.heap.size from HA.out.lt)
      have HL2 := Lib.hid (show (X ++ (be8 N).take (8 - (g + 1))).length + 1 ≤ 140737488355328 by
        have := HXl.out; rw [List.length_append, List.length_take]; omega)
      have h12 := be8_next N g HG7.out
      obtain ⟨X2, hX2⟩ : ∃ X2, X2 = X ++ (be8 N).take (8 - g) := ⟨_, rfl⟩
      have h3 : (X ++ (be8 N).take (8 - (g + 1))) ++ [N / 2 ^ (8 * g) % 256] = X2 := by rw [List.append_assoc, h12, hX2]
      have hOw := HOw.out
      have hL2 := HL2.out
      generalize X ++ (be8 N).take (8 - (g + 1)) = X1 at hOw hL2 h3
      have HOw2 := Lib.hid hOw
      have HL3 := Lib.hid hL2
      have H3 := Lib.hid h3
      have HX2 := Lib.hid hX2
      clear hv h12 hX2 h3 hOw hL2 HOw HL2
      go_wp2_with (at_builtin; refine app1b (w.heap.size + 1) rfl (.tmp 30) (.tmp 37) rfl u3 X1 X2 (N / 2 ^ (8 * g) % 256) _ H3.out HV.out rfl rfl HOw2.out HL1.out HL3.out ?_)
      intro v1 w1 ho1 hb1 hgr1
      have ho2 := ho1.out
      rw [HX2.out] at ho2
      have HO1 := Lib.hid ho2
      have HB1 := Lib.hid (hb1.out _ _ HBe.out (by omega))
      have HA1 := Lib.hid (HA.out.below (hb1.out (w.heap.size + 1) _ (Below.refl _ _) (Nat.le_refl _)) (Nat.lt_succ_self _))
      clear ho1 hb1 hgr1 ho2
      go_wp2
      go_roundg g
      case measure => omega
      case rel =>
        refine ⟨by show _ ≤ _; have := HG7.out; omega, by have := HIz.out; congr 1; omega, HO1.out, HA1.out, HB1.out⟩
end Go.Proofs.YthnbnckmeffkmaaGreat
/- plexusref02.Sum, whole. -/
namespace Go.Proofs.YthnbnckmeffkmaaGreat
open Go.RowKit Go.Lib
set_option linter.unusedVariables false
set_option linter.unusedSimpArgs false
attribute [local go_sem ↓] Go.wp_at_zero Go.wp_at_succ

theorem padZ_eq (n : Nat) : (n + 1 + padZ n) % 64 = 56 ∧ padZ n < 64 ∧ ∀ k, k < padZ n → (n + 1 + k) % 64 ≠ 56 := by
  unfold padZ
  refine ⟨by omega, by omega, fun k hk => by omega⟩

set_option maxRecDepth 100000 in
set_option maxHeartbeats 3200000 in
theorem rsum_any (v : Value) (m : List Nat) (w : World) (hm : m.length ≤ 1099511627776) (hv : Byts w v m) :
    Calls Tryz.prog 157 #[v] w fun e w' => e = .returned (.agg (bys (shaF m)).toArray) ∧ Below w.heap.size w w' := by
  have hz := zero32
  obtain ⟨a0, c0, rfl⟩ : ∃ a0 c0, v = .slice a0 m.length c0 := by
    rcases hv.2 with ⟨rfl, rfl⟩ | ⟨ad, c, rfl, _⟩
    · exact ⟨_, _, rfl⟩
    · exact ⟨_, _, rfl⟩
  have HV := Lib.hid hv
  have HMl := Lib.hid hm
  clear hv hm
  go_enter Tryz.func157, Tryz.ntmps157
  go_upto_region 1 with fail
  have hpk := And.intro (Arr.made w 24 (List.replicate 32 (.int .u8 0))) (And.intro ((Below.refl w.heap.size w).alloc (Nat.le_refl _) (.cells (List.replicate 32 (.int .u8 0)).toArray 24))
    (show (w.alloc (.cells (List.replicate 32 (.int .u8 0)).toArray 24)).heap.size = w.heap.size + 1 by show (w.heap.push _).size = _; simp))
  simp only [List.reduceReplicate] at hpk
  have HPk := Lib.hid hpk
  clear hpk hz
  generalize World.alloc _ _ = w1 at HPk ⊢
  have HV1 := Lib.hid (HV.out.below HPk.out.2.1)
  have HL0 := Lib.hid (show w.heap.size + 1 ≤ w1.heap.size by rw [HPk.out.2.2]; exact Nat.le_refl _)
  have HL1 := Lib.hid (show ([] : List Nat).length + m.length ≤ 140737488355328 by have := HMl.out; simp; omega)
  go_wp2_with (at_builtin; refine appB (w.heap.size + 1) rfl (.const (.slice none 0 0)) (.tmp 11) 157 5 rfl Tryz.underlying157 infoB (.slice none 0 0) (.slice a0 m.length c0) [] m m rfl rfl rfl (own_nil _ _ _ _) HV1.out HL0.out HL1.out ?_)
  intro v2 w2 ho2 hb2 hg2
  have HB2 := Lib.hid (hb2.out _ _ HPk.out.2.1 (by omega))
  have HA2 := Lib.hid (HPk.out.1.below (hb2.out (w.heap.size + 1) _ (Below.refl _ _) (Nat.le_refl _)) (Nat.lt_succ_self _))
  have HL2 := Lib.hid (show w.heap.size + 1 ≤ w2.heap.size from HA2.out.lt)
  have HL3 := Lib.hid (show m.length + 1 ≤ 140737488355328 by have := HMl.out; omega)
  obtain ⟨X0, hX0⟩ : ∃ X0, m ++ [128] = X0 := ⟨_, rfl⟩
  have HX0 := Lib.hid hX0
  clear hX0 hb2 hg2
  go_wp2_with (at_builtin; refine app1b (w.heap.size + 1) rfl (.tmp 12) (.tmp 13) rfl v2 m X0 128 128 HX0.out rfl rfl rfl ho2.out HL2.out HL3.out ?_)
  intro v3 w3 ho3 hb3 hg3
  have HB3 := Lib.hid (hb3.out _ _ HB2.out (by omega))
  have HA3 := Lib.hid (HA2.out.below (hb3.out (w.heap.size + 1) _ (Below.refl _ _) (Nat.le_refl _)) (Nat.lt_succ_self _))
  have hz64 := padZ_eq m.length
  obtain ⟨Z, hZ⟩ : ∃ Z, Z = padZ m.length := ⟨_, rfl⟩
  rw [← hZ] at hz64
  have HZ64 := Lib.hid hz64
  have HZ := Lib.hid hZ
  have hown : w3.ownsRow (w.heap.size + 1) 5 1 v3 (X0 ++ List.replicate (Z - Z) 0).length (bys (X0 ++ List.replicate (Z - Z) 0)) := by rw [Nat.sub_self]; simpa using ho3.out
  have HO3 := Lib.hid hown
  clear hb3 hg3 hz64 hZ hown ho2 ho3 HPk HV1 HL0 HL1 HB2 HA2 HL2 HL3
  go_wp2
  go_loopg [3] Z (fun g vv wq => Hid (g ≤ Z) ∧ Hid (wq.ownsRow (w.heap.size + 1) 5 1 vv (X0 ++ List.replicate (Z - g) 0).length (bys (X0 ++ List.replicate (Z - g) 0))) ∧ Hid (Arr wq w.heap.size 24 (List.replicate 32 (.int .u8 0))) ∧ Hid (Below w.heap.size w wq))
  case atStart => exact ⟨Nat.le_refl _, HO3.out, HA3.out, HB3.out⟩
  case round =>
    obtain ⟨hg, ho, ha, hb⟩ := hrel
    have HG := Lib.hid hg.out
    have HOw := Lib.hid ho.out
    have HA := Lib.hid ha.out
    have HBe := Lib.hid hb.out
    clear hg ho ha hb HO3 HA3 HB3
    obtain ⟨X1, hX1⟩ : ∃ X1, X1 = X0 ++ List.replicate (Z - gk) 0 := ⟨_, rfl⟩
    have hl1 : X1.length = m.length + 1 + (Z - gk) := by rw [hX1, ← HX0.out]; simp; omega
    have how := HOw.out
    rw [← hX1] at how
    have hgZ := HG.out
    have hmm := HMl.out
    have hzz := HZ64.out
    have HX1 := Lib.hid hX1
    have HL1 := Lib.hid hl1
    rcases how.2 with ⟨_, h0⟩ | ⟨b, cap, cur, rfl, q1, q2, q3, q4, q5⟩
    · omega
    have HOw2 := Lib.hid how
    cases gk with
    | zero =>
      have hmod : (X1.length : Int) % 64 = 56 := by have := hzz.1; rw [Nat.sub_zero] at hl1; omega
      have hX8 : X1.length + 8 = 64 * ((X1.length + 8) / 64) := by omega
      have h256 : ∀ x ∈ X1, x < 256 := by
        intro x hx
        rw [hX1, ← HX0.out] at hx
        rcases List.mem_append.1 hx with h | h
        · rcases List.mem_append.1 h with h | h
          · exact HV.out.1 x h
          · simp at h; omega
        · rw [List.eq_of_mem_replicate h]; omega
      have hxl : X1.length ≤ 2199023255552 := by omega
      have hR : shaF m = outF (foldB kTab ((X1.length + 8) / 64) hTab (X1 ++ be8 (8 * m.length))) := by
        have e : X1 ++ be8 (8 * m.length) = m ++ padT m.length := by
          rw [hX1, ← HX0.out, Nat.sub_zero, HZ.out]; unfold padT; simp
        unfold shaF
        rw [← e, List.length_append]; rfl
      have HX8 := Lib.hid hX8
      have H256 := Lib.hid h256
      have HXl := Lib.hid hxl
      have HR := Lib.hid hR
      clear how q1 q2 q3 q4 q5 hl1 hgZ hmm hzz hX1 hX8 h256 hxl hR
      go_upto_if 18 with fail
      repeat (first | (exact rsum_t2 m X1 (shaF m) _ c0 a0 _ w _ HMl.out HX8.out H256.out HXl.out HR.out HOw2.out HA.out HBe.out) | go_step)
    | succ g =>
      have hne : ¬ ((X1.length : Int) % 64 = 56) := by have := hzz.2.2 (Z - (g + 1)) (by omega); omega
      have hne1 : (((X1.length : Int) % 64) == 56) = false := by simpa using hne
      have hne2 : (((X1.length : Int) % 64) != 56) = true := by simpa using hne
      have HL2 := Lib.hid (show w.heap.size + 1 ≤ wr.heap.size from HA.out.lt)
      have HL3 := Lib.hid (show X1.length + 1 ≤ 140737488355328 by have := hzz.2.1; omega)
      obtain ⟨X2, hX2⟩ : ∃ X2, X2 = X0 ++ List.replicate (Z - g) 0 := ⟨_, rfl⟩
      have h12 : X1 ++ [0] = X2 := by
        rw [hX1, hX2, show Z - g = (Z - (g + 1)) + 1 by omega, List.replicate_succ', List.append_assoc]
      have H12 := Lib.hid h12
      have HX2 := Lib.hid hX2
      clear how q1 q2 q3 q4 q5 hl1 hgZ hmm hzz hX1 hX2 h12
      go_wp2_with (at_builtin; refine app1b (w.heap.size + 1) rfl (.tmp 19) (.tmp 20) rfl _ X1 X2 0 0 H12.out rfl rfl rfl HOw2.out HL2.out HL3.out ?_)
      intro v4 w4 ho4 hb4 hg4
      have ho5 := ho4.out
      rw [HX2.out] at ho5
      have HO5 := Lib.hid ho5
      have HB4 := Lib.hid (hb4.out _ _ HBe.out (by omega))
      have HA4 := Lib.hid (HA.out.below (hb4.out (w.heap.size + 1) _ (Below.refl _ _) (Nat.le_refl _)) (Nat.lt_succ_self _))
      clear ho4 hb4 hg4 ho5
      go_wp2
      go_roundg g
      case measure => omega
      case rel => exact ⟨by show _ ≤ _; have := HG.out; omega, HO5.out, HA4.out, HB4.out⟩
end Go.Proofs.YthnbnckmeffkmaaGreat
/- plexusref02.Text and Tag. -/
namespace Go.Proofs.YthnbnckmeffkmaaGreat
open Go.RowKit Go.Lib
set_option linter.unusedVariables false
set_option linter.unusedSimpArgs false

/-- A string's bytes. -/
def nmB (s : ByteArray) : List Nat := s.data.toList.map (·.toNat)
theorem nmB_len (s : ByteArray) : (nmB s).length = s.size := by unfold nmB; rw [List.length_map, Array.length_toList]; rfl
theorem nmB_lt (s : ByteArray) : ∀ x ∈ nmB s, x < 256 := by
  intro x hx
  obtain ⟨b, _, rfl⟩ := List.mem_map.1 hx
  exact b.toNat_lt
/-- What is hashed under a name. -/
def textF (n m : List Nat) : List Nat := n.length :: (n ++ m)
def tagF (n m : List Nat) : List Nat := shaF (textF n m)
theorem shaF_len (m : List Nat) : (shaF m).length = 32 := by unfold shaF; rw [outF_len, foldB_len _ _ _ _ (by rfl)]
theorem shaF_lt (m : List Nat) : ∀ x ∈ shaF m, x < 256 := outF_lt _
theorem textF_lt (s : ByteArray) (m : List Nat) (h : s.size ≤ 255) (hm : ∀ x ∈ m, x < 256) : ∀ x ∈ textF (nmB s) m, x < 256 := by
  intro x hx
  rcases List.mem_cons.1 hx with rfl | hx
  · rw [nmB_len]; omega
  · rcases List.mem_append.1 hx with h | h
    · exact nmB_lt s x h
    · exact hm x h
/-- A slice literal of one byte. -/
theorem own_lit (w : World) (e : TypeId) (y : Nat) : (w.alloc (.cells #[.int .u8 (y : Nat)] e)).ownsRow w.heap.size e 1 (.slice (some ⟨w.heap.size, 0, none⟩) 1 1) [y].length (bys [y]) :=
  ⟨by simp [bys], .inr ⟨w.heap.size, 1, #[.int .u8 (y : Nat)], rfl, Nat.le_refl _, alloc_top w _, Nat.le_refl _, by unfold maxLen; omega, by simp, by simp [bys]⟩⟩

set_option maxHeartbeats 1600000 in
theorem rtext_any (s : ByteArray) (v : Value) (m : List Nat) (w : World) (hs : s.size ≤ 255) (hm : m.length ≤ 1099511627000) (hv : Byts w v m) :
    Calls Tryz.prog 158 #[.string s, v] w fun e w' => ∃ v', e = .returned v' ∧ Byts w' v' (textF (nmB s) m) ∧ Below w.heap.size w w' := by
  have hsz : (s.size : Int) ≤ 255 := by omega
  have hwr : IntKind.u8.wrap (s.size : Int) = (s.size : Int) := by rw [IntKind.wrap_u8]; omega
  have HV := Lib.hid hv
  have HMl := Lib.hid hm
  have HS := Lib.hid hs
  clear hv hm hs
  go_enter Tryz.func158, Tryz.ntmps158
  have HO := Lib.hid (own_lit w 5 s.size)
  have HL := Lib.hid (show [s.size].length + s.size ≤ 140737488355328 by have := HS.out; simp; omega)
  obtain ⟨X1, hX1⟩ : ∃ X1, [s.size] ++ nmB s = X1 := ⟨_, rfl⟩
  have HX1 := Lib.hid hX1
  clear hX1
  go_wp2_with (at_builtin; refine appS w.heap.size rfl (.tmp 13) (.tmp 14) 157 9 5 rfl Tryz.underlying157 Tryz.underlying9 infoB _ [s.size] X1 s HX1.out rfl rfl HO.out (by simp) HL.out ?_)
  intro v1 w1 ho1 hb1 hg1
  have HB1 := Lib.hid (hb1.out w.heap.size w ((Below.refl _ _).alloc (Nat.le_refl _) _) (Nat.le_refl _))
  have HV1 := Lib.hid (HV.out.below HB1.out)
  have hx1 : X1.length = s.size + 1 := by rw [← HX1.out, List.length_append, nmB_len]; simp; omega
  have HL1 := Lib.hid (show X1.length + m.length ≤ 140737488355328 by have := HS.out; have := HMl.out; omega)
  have HL2 := Lib.hid HB1.out.size
  obtain ⟨X2, hX2⟩ : ∃ X2, X1 ++ m = X2 := ⟨_, rfl⟩
  have HX2 := Lib.hid hX2
  have hT : X2 = textF (nmB s) m := by rw [← hX2, ← HX1.out]; unfold textF; rw [nmB_len]; simp
  have HT := Lib.hid hT
  clear hb1 hg1 hX2 hx1 hT
  go_wp2_with (at_builtin; refine appB w.heap.size rfl (.tmp 15) (.tmp 16) 157 5 rfl Tryz.underlying157 infoB v1 v X1 m X2 HX2.out rfl rfl ho1.out HV1.out HL2.out HL1.out ?_)
  intro v2 w2 ho2 hb2 hg2
  have hby : Byts w2 v2 (textF (nmB s) m) := by
    have h := own_byts ho2.out (by rw [HT.out]; exact textF_lt s m HS.out HV.out.1)
    rw [HT.out] at h; exact h
  have HBy := Lib.hid hby
  have HB2 := Lib.hid (hb2.out w.heap.size w HB1.out (Nat.le_refl _))
  clear hby hb2 hg2
  go_wp2
  go_ret
  exact ⟨v2, rfl, HBy.out, HB2.out⟩

set_option maxHeartbeats 1600000 in
theorem rtag_any (s : ByteArray) (v : Value) (m : List Nat) (w : World) (hs : s.size ≤ 255) (hm : m.length ≤ 1099511627000) (hv : Byts w v m) :
    Calls Tryz.prog 97 #[.string s, v] w fun e w' => e = .returned (.agg (bys (tagF (nmB s) m)).toArray) ∧ Below w.heap.size w w' := by
  have hz := zero32
  have HV := Lib.hid hv
  have HMl := Lib.hid hm
  have HS := Lib.hid hs
  clear hv hm hs
  go_enter Tryz.func97, Tryz.ntmps97
  go_upto_region 1 with fail
  have hpk := And.intro (Arr.made w 24 (List.replicate 32 (.int .u8 0))) ((Below.refl w.heap.size w).alloc (Nat.le_refl _) (.cells (List.replicate 32 (.int .u8 0)).toArray 24))
  simp only [List.reduceReplicate] at hpk
  have HPk := Lib.hid hpk
  clear hpk hz
  generalize World.alloc _ _ = w1 at HPk ⊢
  go_wp2_with fail
  refine (rtext_any s v m w1 HS.out HMl.out (HV.out.below HPk.out.2)).mono ?_
  rintro e w2 ⟨v2, rfl, hb2, hbel2⟩
  have HB2 := Lib.hid hb2
  have HA2 := Lib.hid (HPk.out.1.below hbel2 HPk.out.1.lt)
  have HBel2 := Lib.hid (HPk.out.2.trans (hbel2.mono HPk.out.2.size))
  clear hb2 hbel2 HPk HV
  dsimp only
  go_wp2_with fail
  refine (rsum_any v2 _ w2 (by unfold textF; rw [List.length_cons, List.length_append, nmB_len]; have := HS.out; have := HMl.out; omega) HB2.out).mono ?_
  rintro e w3 ⟨rfl, hbel3⟩
  have HA3 := Lib.hid (HA2.out.below hbel3 HA2.out.lt)
  have HBel3 := Lib.hid (HBel2.out.trans (hbel3.mono HBel2.out.size))
  clear hbel3 HA2 HBel2 HB2
  dsimp only
  obtain ⟨R, hR⟩ : ∃ R, R = shaF (textF (nmB s) m) := ⟨_, rfl⟩
  have hRl : R.length = 32 := by rw [hR]; exact shaF_len _
  rw [← hR]
  have HR := Lib.hid hR
  have HRl := Lib.hid hRl
  have Hs := Lib.hid (show (Tryz.prog.info? 24).map (·.size) = some (bys R).length by rw [bys_len, hRl]; exact size32)
  have Hs2 := Lib.hid (show (Tryz.prog.info? 24).map (·.size) = some (bys R).toArray.size by rw [List.size_toArray, bys_len, hRl]; exact size32)
  have O1 := Lib.hid (all_oneCell_toArray (bys_one R))
  clear hR hRl
  go_step
  refine wpList_store_mid (P := Tryz.prog) rfl 24 _ _ rfl w.heap.size 0 _ rfl rfl (HA3.out.there _ (by simp [bys_len, HRl.out])) Hs2.out O1.out ?_
  go_wp2
  have HA5 := Lib.hid (HA3.out.setAll (bys R) (by simp [bys_len, HRl.out]))
  refine bodyPost_ret (results_cell_row (P := Tryz.prog) rfl _ _ w.heap.size 24 _ (0, 0) _ rfl HA5.out Tryz.underlying24 rfl (by rw [List.size_toArray]; exact Hs.out)) rfl ?_
  exact ⟨by rw [HR.out]; rfl, below_sets _ (Nat.le_refl _) _ _ HBel3.out⟩
end Go.Proofs.YthnbnckmeffkmaaGreat
