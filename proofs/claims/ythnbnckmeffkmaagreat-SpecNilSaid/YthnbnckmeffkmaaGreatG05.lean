/- plexusref02.Press, whole. -/
import Derived.Test.YthnbnckmeffkmaaGreatG04
namespace Go.Proofs.YthnbnckmeffkmaaGreat
open Go.RowKit Go.Lib
set_option linter.unusedVariables false
set_option linter.unusedSimpArgs false
attribute [local go_sem ↓] Go.wp_at_zero Go.wp_at_succ

theorem mul4 (a b c d : Nat) (ha : a < 256) (hb : b < 256) (hc : c < 256) (hd : d < 256) :
    ((a : Int) % 4294967296 * 16777216 + (b : Int) % 4294967296 * 65536 + (c : Int) % 4294967296 * 256 + (d : Int)) % 4294967296 = ((a * 16777216 + b * 65536 + c * 256 + d : Nat) : Int) := by omega
theorem nx4R (a x b y : Nat) (hx : x < 4294967296) (hy : y < 4294967296) :
    IntKind.u32.wrap (IntKind.u32.wrap (IntKind.u32.wrap ((a : Int) + bits BinOp.xor IntKind.u32 (bits BinOp.xor IntKind.u32 (rotr 7 x : Nat) (rotr 18 x : Nat)) (IntKind.u32.wrap ((x : Int) / 8))) + (b : Int))
      + bits BinOp.xor IntKind.u32 (bits BinOp.xor IntKind.u32 (rotr 17 y : Nat) (rotr 19 y : Nat)) (IntKind.u32.wrap ((y : Int) / 1024))) = (((a + sg0 x + b + sg1 y) % 4294967296 : Nat) : Int) := by
  rw [show IntKind.u32.wrap ((x : Int) / 8) = (x : Int) / 8 by rw [IntKind.wrap_u32]; omega, show IntKind.u32.wrap ((y : Int) / 1024) = (y : Int) / 1024 by rw [IntKind.wrap_u32]; omega]
  exact nx4 a x b y hx hy
/-- What lies there while the schedule is made. -/
def ScInv (w wr : World) (K H b : List Nat) (ws : List Value) (G5 G6 : Nat) : Prop :=
  Arr wr w.heap.size 268 (words H) ∧ Arr wr (w.heap.size + 1) 283 (bys b) ∧ Arr wr (w.heap.size + 1 + 1) 268 (List.replicate 8 (.int .u32 0)) ∧ Arr wr G5 266 (words K) ∧ Arr wr G6 266 ws ∧
  w.heap.size + 1 + 1 < G5 ∧ G5 < G6 ∧ Below w.heap.size w wr
theorem ScInv.drew {w wr : World} {K H b : List Nat} {ws : List Value} {G5 G6 : Nat} (h : ScInv w wr K H b ws G5 G6) : ScInv w wr.drew K H b ws G5 G6 :=
  ⟨h.1, h.2.1, h.2.2.1, h.2.2.2.1, h.2.2.2.2.1, h.2.2.2.2.2.1, h.2.2.2.2.2.2.1, h.2.2.2.2.2.2.2.drew⟩
theorem ScInv.drewN {w wr : World} {K H b : List Nat} {ws : List Value} {G5 G6 : Nat} (h : ScInv w wr K H b ws G5 G6) (n : Nat) : ScInv w (wr.drewN n) K H b ws G5 G6 :=
  ⟨h.1, h.2.1, h.2.2.1, h.2.2.2.1, h.2.2.2.2.1, h.2.2.2.2.2.1, h.2.2.2.2.2.2.1, ⟨h.2.2.2.2.2.2.2.os, h.2.2.2.2.2.2.2.tape, h.2.2.2.2.2.2.2.output, h.2.2.2.2.2.2.2.size, h.2.2.2.2.2.2.2.block⟩⟩
theorem ScInv.set {w wr : World} {K H b : List Nat} {ws : List Value} {G5 G6 : Nat} (h : ScInv w wr K H b ws G5 G6) (j : Nat) (u : Value) : ScInv w (wr.setCell ⟨G6, j, none⟩ u) K H b (ws.set j u) G5 G6 := by
  obtain ⟨h1, h2, h3, h4, h5, n1, n2, hb⟩ := h
  exact ⟨h1.other (by omega) _ _, h2.other (by omega) _ _, h3.other (by omega) _ _, h4.other (by omega) _ _, h5.set _ _, n1, n2, hb.setCell (by show _ ≤ G6; omega) _⟩

set_option maxRecDepth 100000 in
set_option maxHeartbeats 6400000 in
theorem rpress_t1 {u0 u1 u7 u8 u9 u10 u11 u12 u13 u14 u15 u16 u17 u18 u19 u20 u21 u22 u23 u24 u25 u26 u27 u28 u29 u30 u31 u32 u33 u34 u35 u36 u37 u38 u39 u40 u41 u42 u43 u44 u45 u46 u47 u48 u49 u50 u51 u52 u53 u54 u55 u56 u57 u58 u59 u60 u61 u62 u63 u64 u65 u66 u67 u68 u69 u70 u71 u72 u73 u74 u75 u76 u77 u78 u79 u80 u81 u82 u83 u84 u85 u86 u87 u88 u89 u90 u91 u92 u93 u94 u95 u96 u97 u98 u99 u100 u101 u102 u103 u104 u105 u106 u107 u108 u109 u110 u111 u112 u113 u114 u115 u116 u117 u118 u119 u120 u121 u122 u123 u124 u125 u126 u127 u128 u129 u130 u131 u132 u133 u134 u135 u136 u137 u138 u139 u140 u141 u142 u143 u144 u145 u146 u147 u148 u149 u150 u151 u152 u153 u154 u155 u156 u157 u158 u159 u160 u161 u162 u163 u164 u165 u166 u167 u168 u169 u170 u171 u172 u173 u174 u175 u176 u177 u178 u179 u180 u181 u182 u183 u184 u185 u186 u187 u188 : Value} (K H b : List Nat) (G5 G6 : Nat) (w wr : World) (hK : K.length = 64) (hH : H.length = 8) (hh32 : ∀ x ∈ H, x < 4294967296) (hbl : b.length = 64) (hbb : ∀ j, j < 64 → b.getD j 0 < 256)
    (hi : ScInv w wr K H b (words (sched b 0) ++ List.replicate (64 - 0) (.int .u32 0)) G5 G6) :
    Code.wp Tryz.prog (seqDrop 3 (bodyOf Tryz.f202)) (bodyPost Tryz.prog Tryz.f202 fun e w' => e = .returned (.agg (words (pressF K H b)).toArray) ∧ Below w.heap.size w w')
      ⟨#[u0, u1, .pointer (some ⟨w.heap.size, 0, none⟩), .pointer (some ⟨w.heap.size + 1, 0, none⟩), .pointer (some ⟨w.heap.size + 1 + 1, 0, none⟩), .pointer (some ⟨G5, 0, none⟩), .pointer (some ⟨G6, 0, none⟩), u7, u8, u9, u10, u11, u12, u13, u14, u15, u16, u17, u18, u19, u20, u21, u22, u23, u24, u25, u26, u27, u28, u29, u30, u31, u32, u33, u34, u35, u36, u37, u38, u39, u40, u41, u42, u43, u44, u45, u46, u47, u48, u49, u50, u51, u52, u53, u54, u55, u56, u57, u58, u59, u60, u61, u62, u63, u64, u65, u66, u67, u68, u69, u70, u71, u72, u73, u74, u75, u76, u77, u78, u79, u80, u81, u82, u83, u84, u85, u86, u87, u88, u89, u90, u91, u92, u93, u94, u95, u96, u97, u98, u99, u100, u101, u102, u103, u104, u105, u106, u107, u108, u109, u110, u111, u112, u113, u114, u115, u116, u117, u118, u119, u120, u121, u122, u123, u124, u125, u126, u127, u128, u129, u130, u131, u132, u133, u134, u135, u136, u137, u138, u139, u140, u141, u142, u143, u144, u145, u146, u147, u148, u149, u150, u151, u152, u153, u154, u155, u156, u157, u158, u159, u160, u161, u162, u163, u164, u165, u166, u167, u168, u169, u170, u171, u172, u173, u174, u175, u176, u177, u178, u179, u180, u181, u182, u183, u184, u185, u186, u187, u188], []⟩ wr := by
  have HI := Lib.hid hi
  have HBl := Lib.hid hbb
  have HBL := Lib.hid hbl
  have HHl := Lib.hid hH
  have HH32 := Lib.hid hh32
  have HKl := Lib.hid hK
  clear hi hbb hbl hH hh32 hK
  conv => arg 2; whnf
  go_wp2
  go_loopg [7, 8, 9] 64 (fun g i x y wq => ∃ k : Nat, Hid (g + k = 64) ∧ i = .int .i64 (k : Int) ∧ Hid (ScInv w wq K H b (words (sched b k) ++ List.replicate (64 - k) (.int .u32 0)) G5 G6))
  case atStart => exact ⟨0, rfl, rfl, HI.out⟩
  case round =>
    clear HI
    obtain ⟨k, hk, rfl, hi⟩ := hrel
    have HK := Lib.hid hk.out
    have HI := Lib.hid hi.out
    clear hk hi
    cases gk with
    | zero =>
      have ek : k = 64 := by have := HK.out; omega
      have hlt : ¬ ((k : Int) < 64) := by omega
      have hi := HI.out
      rw [ek, Nat.sub_self, List.replicate_zero, List.append_nil] at hi
      have HI3 := Lib.hid hi
      clear hi ek HI
      go_upto_if 19 with fail
      repeat (first | (exact rpress_t2 K H b (sched b 64) G5 G6 w _ HKl.out HHl.out HH32.out rfl (sched_len b 64) HI3.out.1 HI3.out.2.2.1 HI3.out.2.2.2.1 HI3.out.2.2.2.2.1 HI3.out.2.2.2.2.2.1 HI3.out.2.2.2.2.2.2.1 HI3.out.2.2.2.2.2.2.2) | go_step)
    | succ g =>
      obtain ⟨hA1, hA2, hA3, hA5, hA6, n1, n2, hBel⟩ := HI.out
      by_cases h16 : k < 16
      · have hlt : ((k : Int) < 64) := by have := HK.out; omega
        have hlt16 : ((k : Int) < 16) := by omega
        have c0 := (hA2.cell (4 * k)).trans (bys_get b (4 * k) (by rw [HBL.out]; omega))
        have c1 := (hA2.cell (4 * k + 1)).trans (bys_get b (4 * k + 1) (by rw [HBL.out]; omega))
        have c2 := (hA2.cell (4 * k + 2)).trans (bys_get b (4 * k + 2) (by rw [HBL.out]; omega))
        have c3 := (hA2.cell (4 * k + 3)).trans (bys_get b (4 * k + 3) (by rw [HBL.out]; omega))
        have l0 := HBl.out (4 * k) (by omega)
        have l1 := HBl.out (4 * k + 1) (by omega)
        have l2 := HBl.out (4 * k + 2) (by omega)
        have l3 := HBl.out (4 * k + 3) (by omega)
        have hbe : beW b k = b.getD (4 * k) 0 * 16777216 + b.getD (4 * k + 1) 0 * 65536 + b.getD (4 * k + 2) 0 * 256 + b.getD (4 * k + 3) 0 := by unfold beW; rfl
        have hcl : wr.cell? ⟨G6, k, none⟩ = some (.int .u32 0) := by
          rw [hA6.cell, words_at _ k 64 (sched_len b k) (by omega)]
        have hfr := hA6.frozen k
        clear hA1 hA2 hA3 hA5 hA6 n1 n2 hBel
        generalize b.getD (4 * k) 0 = b0 at *
        generalize b.getD (4 * k + 1) 0 = b1 at *
        generalize b.getD (4 * k + 2) 0 = b2 at *
        generalize b.getD (4 * k + 3) 0 = b3 at *
        obtain ⟨m0, hm0⟩ : ∃ m : Int, 4 * (k : Int) = m := ⟨_, rfl⟩
        obtain ⟨m1, hm1⟩ : ∃ m : Int, m0 + 1 = m := ⟨_, rfl⟩
        obtain ⟨m2, hm2⟩ : ∃ m : Int, m0 + 2 = m := ⟨_, rfl⟩
        obtain ⟨m3, hm3⟩ : ∃ m : Int, m0 + 3 = m := ⟨_, rfl⟩
        have i0 : 0 ≤ m0 := by omega
        have j0 : m0 < 64 := by omega
        have i1 : 0 ≤ m1 := by omega
        have j1 : m1 < 64 := by omega
        have i2 : 0 ≤ m2 := by omega
        have j2 : m2 < 64 := by omega
        have i3 : 0 ≤ m3 := by omega
        have j3 : m3 < 64 := by omega
        rw [show 4 * k = m0.toNat by omega] at c0
        rw [show 4 * k + 1 = m1.toNat by omega] at c1
        rw [show 4 * k + 2 = m2.toNat by omega] at c2
        rw [show 4 * k + 3 = m3.toNat by omega] at c3
        have i4 : (0 : Int) ≤ (k : Int) := by omega
        have j4 : (k : Int) < 64 := by omega
        obtain ⟨z, hz⟩ : ∃ z : Int, (k : Int) = z := ⟨_, rfl⟩
        have hzk : k = z.toNat := by omega
        rw [hz] at hm0 i4 j4 hlt hlt16 ⊢
        have HZ := Lib.hid hz
        have HZk := Lib.hid hzk
        have H16 := Lib.hid h16
        have v0 : IntKind.i64.wrap (4 * z) = m0 := by rw [IntKind.wrap_i64]; omega
        have v1 : IntKind.i64.wrap (m0 + 1) = m1 := by rw [IntKind.wrap_i64]; omega
        have v2 : IntKind.i64.wrap (m0 + 2) = m2 := by rw [IntKind.wrap_i64]; omega
        have v3 : IntKind.i64.wrap (m0 + 3) = m3 := by rw [IntKind.wrap_i64]; omega
        rw [hzk] at hcl hfr
        have HM := Lib.hid (And.intro hm0 (And.intro hm1 (And.intro hm2 hm3)))
        clear hz hzk hm0 hm1 hm2 hm3 h16
        have HL := Lib.hid (And.intro l0 (And.intro l1 (And.intro l2 l3)))
        have HBe := Lib.hid hbe
        clear hbe
        go_wp2
        go_still_tail 31, (by kernel_rfl)
        change wpList _ _ _ _ _ wr.drew
        have hcl2 : wr.drew.cell? ⟨G6, z.toNat, none⟩ = some (.int .u32 0) := hcl
        have hfr2 : wr.drew.frozen? ⟨G6, z.toNat, none⟩ = false := hfr
        have HI2 := Lib.hid HI.out.drew
        clear hcl hfr c0 c1 c2 c3 HI l0 l1 l2 l3
        generalize wr.drew = w2 at *
        go_wp2
        rw [mul4 b0 b1 b2 b3 HL.out.1 HL.out.2.1 HL.out.2.2.1 HL.out.2.2.2, ← HBe.out]
        go_roundg g
        case measure => omega
        case rel =>
          refine ⟨k + 1, by show _ = _; have := HK.out; omega, by have := HZ.out; congr 1; omega, ?_⟩
          show ScInv _ _ _ _ _ _ _ _
          rw [← HZk.out]
          have h2 := HI2.out.set k (.int .u32 (beW b k : Nat))
          rw [words_set _ _ 64 _ (sched_len b k) (by have := HK.out; omega)] at h2
          rw [show sched b (k + 1) = sched b k ++ [beW b k] by rw [sched, if_pos H16.out]]
          exact h2
      · have hlt : ((k : Int) < 64) := by have := HK.out; omega
        have hlt16 : ¬ ((k : Int) < 16) := by omega
        have h16 : 16 ≤ k := by omega
        have N1 := n1
        have N2 := n2
        clear hA1 hA2 hA3 hA5 n1 n2 hBel
        have hk1 : k < 64 := by have := HK.out; omega
        have hk2 : 16 ≤ k := h16
        have HK16 := Lib.hid hk2
        obtain ⟨z, hz⟩ : ∃ z : Int, (k : Int) = z := ⟨_, rfl⟩
        have HZ := Lib.hid hz
        obtain ⟨m15, hm15⟩ : ∃ m : Int, z - 15 = m := ⟨_, rfl⟩
        obtain ⟨m2, hm2⟩ : ∃ m : Int, z - 2 = m := ⟨_, rfl⟩
        obtain ⟨m16, hm16⟩ : ∃ m : Int, z - 16 = m := ⟨_, rfl⟩
        obtain ⟨m7, hm7⟩ : ∃ m : Int, z - 7 = m := ⟨_, rfl⟩
        have c15 := hA6.cell (k - 15)
        have c2 := hA6.cell (k - 2)
        have c16 := hA6.cell (k - 16)
        have c7 := hA6.cell (k - 7)
        have ck := hA6.cell k
        have fk := hA6.frozen k
        rw [words_get _ _ _ (by rw [sched_len]; omega)] at c15 c2 c16 c7
        rw [words_at _ k 64 (sched_len b k) hk1] at ck
        have hbb := HBl.out
        have b15 := getD_lt _ (sched_lt b hbb k) (k - 15)
        have b2 := getD_lt _ (sched_lt b hbb k) (k - 2)
        have b16 := getD_lt _ (sched_lt b hbb k) (k - 16)
        have b7 := getD_lt _ (sched_lt b hbb k) (k - 7)
        have hnx : nextW (sched b k) k = ((sched b k).getD (k - 16) 0 + sg0 ((sched b k).getD (k - 15) 0) + (sched b k).getD (k - 7) 0 + sg1 ((sched b k).getD (k - 2) 0)) % 4294967296 := by unfold nextW; rfl
        generalize (sched b k).getD (k - 15) 0 = x15 at *
        generalize (sched b k).getD (k - 2) 0 = x2 at *
        generalize (sched b k).getD (k - 16) 0 = x16 at *
        generalize (sched b k).getD (k - 7) 0 = x7 at *
        rw [show k - 15 = m15.toNat by omega] at c15
        rw [show k - 2 = m2.toNat by omega] at c2
        rw [show k - 16 = m16.toNat by omega] at c16
        rw [show k - 7 = m7.toNat by omega] at c7
        rw [show k = z.toNat by omega] at ck fk
        have HNx := Lib.hid hnx
        have HB15 := Lib.hid b15
        have HB2 := Lib.hid b2
        have HB16 := Lib.hid b16
        have HB7 := Lib.hid b7
        have T7 := Lib.hid (right_q x15 7 7 rfl b15 (by omega) (by omega))
        have T18 := Lib.hid (right_q x15 18 18 rfl b15 (by omega) (by omega))
        have T17 := Lib.hid (right_q x2 17 17 rfl b2 (by omega) (by omega))
        have T19 := Lib.hid (right_q x2 19 19 rfl b2 (by omega) (by omega))
        have v15 : IntKind.i64.wrap (z - 15) = m15 := by rw [IntKind.wrap_i64]; omega
        have v2 : IntKind.i64.wrap (z - 2) = m2 := by rw [IntKind.wrap_i64]; omega
        have v16 : IntKind.i64.wrap (z - 16) = m16 := by rw [IntKind.wrap_i64]; omega
        have v7 : IntKind.i64.wrap (z - 7) = m7 := by rw [IntKind.wrap_i64]; omega
        have i15 : 0 ≤ m15 := by omega
        have j15 : m15 < 64 := by omega
        have i2 : 0 ≤ m2 := by omega
        have j2 : m2 < 64 := by omega
        have i16 : 0 ≤ m16 := by omega
        have j16 : m16 < 64 := by omega
        have i7 : 0 ≤ m7 := by omega
        have j7 : m7 < 64 := by omega
        have iz : 0 ≤ z := by omega
        have jz : z < 64 := by omega
        have N16 := Lib.hid (show m16.toNat ≠ z.toNat by omega)
        have N7 := Lib.hid (show m7.toNat ≠ z.toNat by omega)
        rw [hz] at hlt hlt16 ⊢
        clear hz hm15 hm2 hm16 hm7 hbb b15 b2 b16 b7 hnx hk1 hk2
        have N6 := Lib.hid hA6
        clear hA6
        go_wp2
        go_quiet (fail)
        generalize hw2 : World.drewN wr _ = w2
        have d16 : w2.cell? ⟨G6, m16.toNat, none⟩ = some (.int .u32 x16) := by rw [← hw2]; exact c16
        have d7 : w2.cell? ⟨G6, m7.toNat, none⟩ = some (.int .u32 x7) := by rw [← hw2]; exact c7
        have dk : w2.cell? ⟨G6, z.toNat, none⟩ = some (.int .u32 0) := by rw [← hw2]; exact ck
        have gk : w2.frozen? ⟨G6, z.toNat, none⟩ = false := by rw [← hw2]; exact fk
        have hi2 : ScInv w w2 K H b (words (sched b k) ++ List.replicate (64 - k) (.int .u32 0)) G5 G6 := by rw [← hw2]; exact HI.out.drewN _
        have HI2 := Lib.hid hi2
        clear hi2 hw2 c16 c7 c15 c2 ck fk HI N6
        go_wp2
        go_region_held3 (fun w' => w'.cell? ⟨G6, m16.toNat, none⟩ = some (.int .u32 x16) ∧ w'.cell? ⟨G6, m7.toNat, none⟩ = some (.int .u32 x7))
          (first | (refine ⟨?_, ?_⟩; · exact (cell_off _ _ _ _ _ N16.out).trans (by assumption)
                    · exact (cell_off _ _ _ _ _ N7.out).trans (by assumption)) | go_keep)
          ((go_at_call 240; (first | (with_reducible refine (T7.out _).mono ?_) | (with_reducible refine (T18.out _).mono ?_) | (with_reducible refine (T17.out _).mono ?_) | (with_reducible refine (T19.out _).mono ?_)); rintro e w' ⟨rfl, rfl⟩))
        rw [nx4R x16 x15 x7 x2 HB15.out HB2.out, ← HNx.out]
        go_wp2
        go_roundg g
        case measure => omega
        case rel =>
          refine ⟨k + 1, by show _ = _; have := HK.out; omega, by have := HZ.out; congr 1; omega, ?_⟩
          show ScInv _ _ _ _ _ _ _ _
          rw [show z.toNat = k by have := HZ.out; omega]
          have h2 := HI2.out.set k (.int .u32 (nextW (sched b k) k : Nat))
          rw [words_set _ _ 64 _ (sched_len b k) (by have := HK.out; omega)] at h2
          rw [show sched b (k + 1) = sched b k ++ [nextW (sched b k) k] by rw [sched, if_neg (by have := HK16.out; omega)]]
          exact h2.drew
end Go.Proofs.YthnbnckmeffkmaaGreat
/- plexusref02.Press, whole. -/
namespace Go.Proofs.YthnbnckmeffkmaaGreat
open Go.RowKit Go.Lib
set_option linter.unusedVariables false
set_option linter.unusedSimpArgs false

theorem three (w : World) (o1 o2 o3 : Obj) :
    (((w.alloc o1).alloc o2).alloc o3).heap[w.heap.size]? = some o1 ∧ (((w.alloc o1).alloc o2).alloc o3).heap[w.heap.size + 1]? = some o2 ∧
    (((w.alloc o1).alloc o2).alloc o3).heap[w.heap.size + 1 + 1]? = some o3 ∧ (((w.alloc o1).alloc o2).alloc o3).heap.size = w.heap.size + 1 + 1 + 1 ∧ Below w.heap.size w (((w.alloc o1).alloc o2).alloc o3) := by
  have e : ∀ (w : World) (o : Obj), (w.alloc o).heap = w.heap.push o := fun _ _ => rfl
  refine ⟨?_, ?_, ?_, ?_, (((Below.refl _ _).alloc (Nat.le_refl _) _).alloc (by simp) _).alloc (by simp; omega) _⟩
  · simp only [e, Array.getElem?_push, Array.size_push]
    rw [if_neg (by omega), if_neg (by omega), if_pos True.intro]
  · simp only [e, Array.getElem?_push, Array.size_push]
    rw [if_neg (by omega), if_pos True.intro]
  · simp only [e, Array.getElem?_push, Array.size_push]
    rw [if_pos True.intro]
  · simp only [e, Array.size_push]
theorem setCells_size (b : Nat) : ∀ (vs : List Value) (o : Nat) (w : World), (w.setCells b o vs).heap.size = w.heap.size
  | [], _, _ => rfl
  | v :: vs, o, w => by rw [World.setCells, setCells_size b vs (o + 1)]; simp

set_option maxRecDepth 100000 in
set_option maxHeartbeats 6400000 in
theorem rpress_any (H b : List Nat) (hH : H.length = 8) (hh32 : ∀ x ∈ H, x < 4294967296) (hbl : b.length = 64) (hbb : ∀ j, j < 64 → b.getD j 0 < 256) (w : World) :
    Calls Tryz.prog 202 #[.agg (words H).toArray, .agg (bys b).toArray] w fun e w' => e = .returned (.agg (words (pressF kTab H b)).toArray) ∧ Below w.heap.size w w' := by
  have hz64 := zero64
  have hz8 := zero8
  obtain ⟨K, hK⟩ : ∃ K, K = kTab := ⟨_, rfl⟩
  have hKl : K.length = 64 := by rw [hK]; rfl
  rw [← hK]
  have HKt := Lib.hid hK
  have HKl := Lib.hid hKl
  have o1 := Lib.hid (all_oneCell_toArray (words_one K))
  have s1 := Lib.hid (show (Tryz.prog.info? 266).map (·.size) = some (words K).toArray.size by rw [List.size_toArray, words_len, hKl]; exact size64)
  have HBb := Lib.hid hbb
  have HBl := Lib.hid hbl
  have HHl := Lib.hid hH
  have HH32 := Lib.hid hh32
  clear hK hKl hbb hbl hH hh32
  go_enter Tryz.func202, Tryz.ntmps202
  go_upto_region 1 with fail
  have h3 := three w (.cells (words H).toArray 268) (.cells (bys b).toArray 283) (.cells (List.replicate 8 (.int .u32 0)).toArray 268)
  have A1 : Arr _ w.heap.size 268 (words H) := h3.1
  have A2 : Arr _ (w.heap.size + 1) 283 (bys b) := h3.2.1
  have A3 : Arr _ (w.heap.size + 1 + 1) 268 (List.replicate 8 (.int .u32 0)) := h3.2.2.1
  have Bz := h3.2.2.2.1
  have B1 := h3.2.2.2.2
  clear h3
  have H3 := Lib.hid (And.intro A1 (And.intro A2 (And.intro A3 (And.intro Bz B1))))
  clear A1 A2 A3 Bz B1
  simp only [List.reduceReplicate] at H3
  generalize World.alloc (World.alloc (World.alloc w _) _) _ = w1 at H3 ⊢
  have HE := Lib.hid (show ([Value.int .u32 0, Value.int .u32 0, Value.int .u32 0, Value.int .u32 0, Value.int .u32 0, Value.int .u32 0, Value.int .u32 0, Value.int .u32 0] : List Value) = List.replicate 8 (.int .u32 0) from rfl)
  rw [HE.out] at H3
  go_wp2_with fail
  refine (consts_any _).mono ?_
  rintro e w2 ⟨rfl, hb2⟩
  have B2 := Lib.hid hb2
  clear hb2
  rw [← HKt.out]
  have hm5 := Arr.made w2 266 (List.replicate 64 (.int .u32 0))
  have M5 := Lib.hid (hm5.there (words K).toArray.size (by simp [words_len, HKl.out]))
  have S5 := Lib.hid (hm5.setAll (words K) (by simp [words_len, HKl.out]))
  have B3 := Lib.hid (below_sets w2.heap.size (Nat.le_refl _) (words K) 0 ((Below.refl w2.heap.size w2).alloc (Nat.le_refl _) (.cells (List.replicate 64 (.int .u32 0)).toArray 266)))
  clear hm5
  go_upto_region 2 with (refine wpList_store_mid (P := Tryz.prog) rfl 266 _ _ rfl w2.heap.size 0 (words K).toArray rfl rfl M5.out s1.out o1.out ?_)
  have hsz := setCells_size w2.heap.size (words K) 0 (w2.alloc (.cells (List.replicate 64 (.int .u32 0)).toArray 266))
  have hsz2 : (w2.alloc (.cells (List.replicate 64 (.int .u32 0)).toArray 266)).heap.size = w2.heap.size + 1 := by show (w2.heap.push _).size = _; simp
  rw [hsz2] at hsz
  have Sz := Lib.hid hsz
  clear hsz hsz2
  have HB12 := Lib.hid (H3.out.2.2.2.2.trans (B2.out.mono (by rw [H3.out.2.2.2.1]; omega)))
  have hpk := And.intro S5.out (And.intro B3.out Sz.out)
  simp only [List.reduceReplicate] at hpk
  have Pk := Lib.hid hpk
  clear hpk S5 B3 Sz M5
  generalize World.setCells _ _ _ _ = w3 at Pk ⊢
  have hsc : ScInv w (w3.alloc (.cells (List.replicate 64 (.int .u32 0)).toArray 266)) K H b (words (sched b 0) ++ List.replicate (64 - 0) (.int .u32 0)) w2.heap.size w3.heap.size := by
    obtain ⟨a5, b3, sz⟩ := Pk.out
    obtain ⟨a1, a2, a3, bz, b1⟩ := H3.out
    have b2 := B2.out
    have hs2 := b2.size
    have bal : Below w3.heap.size w3 (w3.alloc (.cells (List.replicate 64 (.int .u32 0)).toArray 266)) := (Below.refl _ _).alloc (Nat.le_refl _) _
    have go : ∀ {g : Nat} {t : TypeId} {vs : List Value}, Arr w1 g t vs → Arr (w3.alloc (.cells (List.replicate 64 (.int .u32 0)).toArray 266)) g t vs := fun h =>
      (((h.below b2 h.lt).below b3 (by have := h.lt; omega)).below bal (by have := h.lt; omega))
    refine ⟨go a1, go a2, go a3, a5.below bal (by omega), Arr.made w3 _ _, by omega, by omega, ?_⟩
    exact (HB12.out.trans (b3.mono (by have := HB12.out.size; omega))).alloc (by have := HB12.out.size; omega) _
  have HSc := Lib.hid hsc
  have hP : pressF kTab H b = pressF K H b := by rw [HKt.out]
  clear hsc
  repeat (first | (exact rpress_t1 K H b w2.heap.size w3.heap.size w _ HKl.out HHl.out HH32.out HBl.out HBb.out HSc.out) | go_values | go_skip | go_guarded | go_step | go_upon)
end Go.Proofs.YthnbnckmeffkmaaGreat
/- The hash, in plain words. -/
namespace Go.Proofs.YthnbnckmeffkmaaGreat
open Go.RowKit Go.Lib
set_option linter.unusedVariables false
set_option linter.unusedSimpArgs false

def be8 (n : Nat) : List Nat := [n / 72057594037927936 % 256, n / 281474976710656 % 256, n / 1099511627776 % 256, n / 4294967296 % 256, n / 16777216 % 256, n / 65536 % 256, n / 256 % 256, n % 256]
def padZ (n : Nat) : Nat := (119 - n % 64) % 64
def padT (n : Nat) : List Nat := 128 :: (List.replicate (padZ n) 0 ++ be8 (8 * n))
/-- So many blocks, pressed one behind the other. -/
def foldB (K : List Nat) : Nat → List Nat → List Nat → List Nat
  | 0, H, _ => H
  | n + 1, H, m => foldB K n (pressF K H (m.take 64)) (m.drop 64)
def wbytes (w : Nat) : List Nat := [w / 16777216 % 256, w / 65536 % 256, w / 256 % 256, w % 256]
def outF (S : List Nat) : List Nat := (S.map wbytes).flatten
def shaF (m : List Nat) : List Nat := outF (foldB kTab ((m ++ padT m.length).length / 64) hTab (m ++ padT m.length))

theorem outF_cons (x : Nat) (S : List Nat) : outF (x :: S) = wbytes x ++ outF S := rfl
theorem outF_len (S : List Nat) : (outF S).length = 4 * S.length := by
  induction S with
  | nil => rfl
  | cons x S ih => rw [outF_cons, List.length_append, ih]; simp [wbytes]; omega
theorem outF_get (S : List Nat) : ∀ (q r : Nat), q < S.length → r < 4 → (outF S)[4 * q + r]? = some ((wbytes (S.getD q 0)).getD r 0) := by
  induction S with
  | nil => intro q r h; simp at h
  | cons x S ih =>
    intro q r h hr
    rw [outF_cons]
    cases q with
    | zero =>
      rw [List.getElem?_append_left (by simp [wbytes]; omega)]
      have : r < (wbytes x).length := by simp [wbytes]; omega
      simp [List.getD, this]
    | succ q =>
      rw [List.getElem?_append_right (by simp [wbytes]; omega), show 4 * (q + 1) + r - (wbytes x).length = 4 * q + r by simp [wbytes]; omega, ih q r (by simpa using h) hr]
      simp [List.getD]
theorem outF_lt (S : List Nat) : ∀ x ∈ outF S, x < 256 := by
  intro x hx
  simp only [outF, List.mem_flatten, List.mem_map] at hx
  obtain ⟨l, ⟨a, _, rfl⟩, hx⟩ := hx
  simp only [wbytes, List.mem_cons, List.not_mem_nil, or_false] at hx
  rcases hx with rfl | rfl | rfl | rfl <;> exact Nat.mod_lt _ (by omega)
theorem bys_step (L : List Nat) (i n p : Nat) (hi : L[i]? = some p) (hn : i < n) (v : Value) :
    (bys (L.take i) ++ List.replicate (n - i) v).set i (.int .u8 (p : Nat)) = bys (L.take (i + 1)) ++ List.replicate (n - (i + 1)) v := by
  have hl : i < L.length := (List.getElem?_eq_some_iff.1 hi).1
  have e1 : (bys (L.take i)).length = i := by simp [bys]; omega
  rw [List.set_append_right _ _ (by omega), e1, Nat.sub_self, show n - i = (n - (i + 1)) + 1 by omega, List.replicate_succ, List.set_cons_zero, List.take_add_one, hi]
  simp [bys]
theorem bys_next (L : List Nat) (i n : Nat) (hL : L.length = n) (hn : i < n) (v : Value) : (bys (L.take i) ++ List.replicate (n - i) v)[i]? = some v := by
  have e1 : (bys (L.take i)).length = i := by simp [bys]; omega
  rw [List.getElem?_append_right (by omega), e1, Nat.sub_self, List.getElem?_replicate, if_pos (by omega)]
theorem foldB_len (K : List Nat) : ∀ (n : Nat) (H m : List Nat), H.length = 8 → (foldB K n H m).length = 8
  | 0, _, _, h => h
  | n + 1, H, m, h => foldB_len K n _ _ (pressF_len K H _ h)
theorem foldB_lt (K : List Nat) : ∀ (n : Nat) (H m : List Nat), (∀ x ∈ H, x < 4294967296) → ∀ x ∈ foldB K n H m, x < 4294967296
  | 0, _, _, h => h
  | n + 1, H, m, h => foldB_lt K n _ _ (pressF_lt K H _ h)
theorem foldB_next (K : List Nat) : ∀ (n : Nat) (H m : List Nat), foldB K (n + 1) H m = pressF K (foldB K n H m) ((m.drop (64 * n)).take 64)
  | 0, H, m => by simp [foldB]
  | n + 1, H, m => by
    rw [foldB, foldB_next K n, foldB, List.drop_drop, show 64 + 64 * n = 64 * (n + 1) by omega]
theorem foldB_app (K : List Nat) : ∀ (n : Nat) (H m r : List Nat), 64 * n ≤ m.length → foldB K n H (m ++ r) = foldB K n H m
  | 0, _, _, _, _ => rfl
  | n + 1, H, m, r, h => by
    rw [foldB, foldB, List.take_append_of_le_length (by omega), List.drop_append_of_le_length (by omega), foldB_app K n _ _ _ (by simp; omega)]
theorem foldB_split (K : List Nat) : ∀ (a b : Nat) (H m : List Nat), foldB K (a + b) H m = foldB K b (foldB K a H m) (m.drop (64 * a))
  | 0, b, H, m => by simp [foldB]
  | a + 1, b, H, m => by
    rw [show a + 1 + b = (a + b) + 1 by omega, foldB, foldB_split K a b, foldB, List.drop_drop, show 64 + 64 * a = 64 * (a + 1) by omega]
theorem zero32 : ∀ w, (zeroValue 24).run Tryz.prog w = .ok (.agg (List.replicate 32 (.int .u8 0)).toArray) w := by
  have := zero_of_info (P := Tryz.prog) (t := 24) (v := .agg (List.replicate 32 (.int .u8 0)).toArray) (n := 32) (by kernel_rfl)
  exact this.1
theorem size32 : (Tryz.prog.info? 24).map (·.size) = some 32 := by kernel_rfl
end Go.Proofs.YthnbnckmeffkmaaGreat
/- plexusref02.Sum: the last loop (the hash is laid), and the end. -/
namespace Go.Proofs.YthnbnckmeffkmaaGreat
open Go.RowKit Go.Lib
set_option linter.unusedVariables false
set_option linter.unusedSimpArgs false
attribute [local go_sem ↓] Go.wp_at_zero Go.wp_at_succ

/-- What lies there while the hash is laid. -/
def OuInv (w wr : World) (S : List Nat) (G6 G9 k : Nat) : Prop :=
  Arr wr w.heap.size 24 (List.replicate 32 (.int .u8 0)) ∧ Arr wr G6 268 (words S) ∧ Arr wr G9 24 (bys ((outF S).take k) ++ List.replicate (32 - k) (.int .u8 0)) ∧ w.heap.size < G6 ∧ G6 < G9 ∧ Below w.heap.size w wr
theorem OuInv.next {w wr : World} {S : List Nat} {G6 G9 k p : Nat} (h : OuInv w wr S G6 G9 k) (hk : k < 32) (hp : (outF S)[k]? = some p) : OuInv w (wr.setCell ⟨G9, k, none⟩ (.int .u8 (p : Nat))) S G6 G9 (k + 1) := by
  obtain ⟨h1, h2, h3, n1, n2, hb⟩ := h
  refine ⟨h1.other (by omega) _ _, h2.other (by omega) _ _, ?_, n1, n2, hb.setCell (by show _ ≤ G9; omega) _⟩
  have := h3.set k (.int .u8 (p : Nat))
  rw [bys_step _ k 32 p hp hk] at this
  exact this
theorem OuInv.drew {w wr : World} {S : List Nat} {G6 G9 k : Nat} (h : OuInv w wr S G6 G9 k) : OuInv w wr.drew S G6 G9 k :=
  ⟨h.1, h.2.1, h.2.2.1, h.2.2.2.1, h.2.2.2.2.1, h.2.2.2.2.2.drew⟩

theorem wb_int (x r : Nat) (hr : r < 4) : (x : Int) / 2 ^ (24 - 8 * r) % 256 = (((wbytes x).getD r 0 : Nat) : Int) := by
  match r, hr with
  | 0, _ => simp [wbytes]
  | 1, _ => simp [wbytes]
  | 2, _ => simp [wbytes]
  | 3, _ => simp [wbytes]
set_option maxRecDepth 100000 in
set_option maxHeartbeats 3200000 in
theorem rsum_t4 {u0 u1 u3 u4 u5 u7 u8 u9 u10 u11 u12 u13 u14 u15 u16 u17 u18 u19 u20 u21 u22 u23 u24 u25 u26 u27 u28 u29 u30 u31 u32 u33 u34 u35 u36 u37 u38 u39 u40 u41 u42 u43 u44 u45 u46 u47 u48 u49 u50 u51 u52 u53 u54 u55 u56 u57 u58 u59 u60 u61 u62 u63 u64 u65 u66 u67 u68 u69 u70 u71 u72 u73 : Value} (S R : List Nat) (G6 : Nat) (w wr : World) (hS : S.length = 8) (hR : R = outF S) (h32 : ∀ x ∈ S, x < 4294967296)
    (h1 : Arr wr w.heap.size 24 (List.replicate 32 (.int .u8 0))) (h2 : Arr wr G6 268 (words S)) (n1 : w.heap.size < G6) (hb : Below w.heap.size w wr) :
    Code.wp Tryz.prog (seqDrop 7 (bodyOf Tryz.f157)) (bodyPost Tryz.prog Tryz.f157 fun e w' => e = .returned (.agg (bys R).toArray) ∧ Below w.heap.size w w')
      ⟨#[u0, u1, .pointer (some ⟨w.heap.size, 0, none⟩), u3, u4, u5, .pointer (some ⟨G6, 0, none⟩), u7, u8, u9, u10, u11, u12, u13, u14, u15, u16, u17, u18, u19, u20, u21, u22, u23, u24, u25, u26, u27, u28, u29, u30, u31, u32, u33, u34, u35, u36, u37, u38, u39, u40, u41, u42, u43, u44, u45, u46, u47, u48, u49, u50, u51, u52, u53, u54, u55, u56, u57, u58, u59, u60, u61, u62, u63, u64, u65, u66, u67, u68, u69, u70, u71, u72, u73], []⟩ wr := by
  have hz := zero32
  have HS := Lib.hid hS
  have HR := Lib.hid hR
  have H32 := Lib.hid h32
  have hsc : OuInv w (wr.alloc (.cells (List.replicate 32 (.int .u8 0)).toArray 24)) S G6 wr.heap.size 0 := by
    have bal : Below wr.heap.size wr (wr.alloc (.cells (List.replicate 32 (.int .u8 0)).toArray 24)) := (Below.refl _ _).alloc (Nat.le_refl _) _
    exact ⟨h1.below bal h1.lt, h2.below bal h2.lt, Arr.made wr _ _, n1, h2.lt, hb.alloc (by have := h1.lt; omega) _⟩
  simp only [List.reduceReplicate] at hsc
  have HI := Lib.hid hsc
  clear hS hR h1 h2 n1 hb hsc h32
  conv => arg 2; whnf
  go_upto_block 2 with fail
  obtain ⟨G9, hG⟩ : ∃ G, wr.heap.size = G := ⟨_, rfl⟩
  rw [hG] at HI ⊢
  generalize World.alloc _ _ = w2 at HI ⊢
  clear hG hz
  go_wp2
  have HI0 := HI
  clear HI
  go_loopg [10] 32 (fun g vn wq => ∃ k : Nat, Hid (g + k = 32) ∧ vn = .int .i64 (k : Int) ∧ Hid (OuInv w wq S G6 G9 k))
  case atStart => exact ⟨0, rfl, rfl, HI0.out⟩
  case round =>
    obtain ⟨k, hk, rfl, hi⟩ := hrel
    have HK := Lib.hid hk.out
    have HI := Lib.hid hi.out
    clear hk hi HI0
    cases gk with
    | zero =>
      have ek : k = 32 := by have := HK.out; omega
      have hlt : ¬ ((k : Int) < 32) := by omega
      obtain ⟨h1, h2, h3, n1, n2, hb⟩ := HI.out
      have hl : (outF S).length = 32 := by rw [outF_len, HS.out]
      rw [ek, Nat.sub_self, List.replicate_zero, List.append_nil, ← hl, List.take_length, ← HR.out] at h3
      rw [← HR.out] at hl
      have HA1 := Lib.hid h1
      have HA3 := Lib.hid h3
      have HB := Lib.hid hb
      have HL := Lib.hid hl
      have hs : (Tryz.prog.info? 24).map (·.size) = some (bys R).length := by rw [bys_len, hl]; exact size32
      have hs2 : (Tryz.prog.info? 24).map (·.size) = some (bys R).toArray.size := by rw [List.size_toArray]; exact hs
      have Hs := Lib.hid hs
      have Hs2 := Lib.hid hs2
      have O1 := Lib.hid (all_oneCell_toArray (bys_one R))
      clear h1 h2 h3 n1 n2 hb hl hs hs2 ek HI
      go_wp2_with (first
        | refine wpList_load_mid (P := Tryz.prog) rfl 24 _ rfl G9 0 rfl _ _ HA3.out.range Tryz.underlying24 rfl Hs.out ?_
        | refine wpList_store_mid (P := Tryz.prog) rfl 24 _ _ rfl w.heap.size 0 _ rfl rfl (HA1.out.there _ (by simp [bys_len, HL.out])) Hs2.out O1.out ?_)
      have HA5 := Lib.hid (HA1.out.setAll (bys R) (by simp [bys_len, HL.out]))
      refine bodyPost_ret (results_cell_row (P := Tryz.prog) rfl _ _ w.heap.size 24 _ (0, 0) _ rfl HA5.out Tryz.underlying24 rfl (by rw [List.size_toArray]; exact Hs.out)) rfl ?_
      exact ⟨rfl, below_sets _ (Nat.le_refl _) _ _ HB.out⟩
    | succ g =>
      have hk32 : k < 32 := by have := HK.out; omega
      obtain ⟨q, r, hqr, hr, hq⟩ : ∃ q r, k = 4 * q + r ∧ r < 4 ∧ q < 8 := ⟨k / 4, k % 4, by omega, by omega, by omega⟩
      obtain ⟨h1, h2, h3, n1, n2, hb⟩ := HI.out
      have c1 := (h2.cell q).trans (words_getN S q (S.getD q 0) (by simp [HS.out, hq]))
      have hx := getD_lt _ H32.out q
      have hp := outF_get S q r (by rw [HS.out]; exact hq) hr
      rw [← hqr] at hp
      have c3 := (h3.cell k).trans (bys_next (outF S) k 32 (by rw [outF_len, HS.out]) hk32 _)
      have f3 := h3.frozen k
      obtain ⟨x, hxe⟩ : ∃ x, S.getD q 0 = x := ⟨_, rfl⟩
      rw [hxe] at c1 hx hp
      have HP := Lib.hid hp
      obtain ⟨z, hz⟩ : ∃ z : Int, (k : Int) = z := ⟨_, rfl⟩
      have HZ := Lib.hid hz
      have hkz : k = z.toNat := by omega
      have HKz := Lib.hid hkz
      obtain ⟨qz, hqz⟩ : ∃ qz : Int, (q : Int) = qz := ⟨_, rfl⟩
      have v4 : z / 4 = qz := by omega
      have hlt : z < 32 := by omega
      have iz : 0 ≤ z := by omega
      have iq : 0 ≤ qz := by omega
      have jq : qz < 8 := by omega
      rw [show q = qz.toNat by omega] at c1
      rw [hkz] at c3 f3
      have HX := Lib.hid hx
      rw [hz]
      have hr4 : z % 4 = (r : Int) := by omega
      have HNext := Lib.hid HI.out
      clear h1 h2 h3 n1 n2 hb hp hxe hz hkz hqz hqr hx HI hk32
      have HR4 := Lib.hid hr
      clear hr
      go_wp2
      rw [wb_int x r HR4.out]
      go_roundg g
      case measure => omega
      case rel =>
        refine ⟨k + 1, by show _ = _; have := HK.out; omega, by have := HZ.out; congr 1; omega, ?_⟩
        show OuInv _ _ _ _ _ _
        rw [← HKz.out]
        exact HNext.out.next (by have := HK.out; omega) HP.out
end Go.Proofs.YthnbnckmeffkmaaGreat
