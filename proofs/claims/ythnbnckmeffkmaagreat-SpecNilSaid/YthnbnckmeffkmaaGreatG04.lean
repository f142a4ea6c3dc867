/- plexusref02.Press: the last loop, and the end. -/
import Derived.Test.YthnbnckmeffkmaaGreatG03
import Derived.StillTailTactics
import Derived.BigRegion
import Derived.Test.YthnbnckmeffkmaaGreatG01
import Derived.Lib.AppendStr
import Derived.Laws.AppendOwnNone
import Derived.Lib.Hide
namespace Go.Proofs.YthnbnckmeffkmaaGreat
open Go.RowKit Go.Lib
set_option linter.unusedVariables false
set_option linter.unusedSimpArgs false
attribute [local go_sem ↓] Go.wp_at_zero Go.wp_at_succ

theorem addsTo_comm (H S : List Nat) (hH : H.length = 8) (hS : S.length = 8) : addsTo S H 8 = addsTo H S 8 := by
  unfold addsTo
  rw [List.drop_eq_nil_of_le (by omega), List.drop_eq_nil_of_le (by omega), List.append_nil, List.append_nil, List.zipWith_comm]
  congr 1
  funext a b; unfold addW; rw [Nat.add_comm]
/-- What lies there while the words are added. -/
def AdInvR (w wr : World) (H S : List Nat) (G k : Nat) : Prop :=
  Arr wr w.heap.size 268 (words H) ∧ Arr wr (w.heap.size + 1 + 1) 268 (List.replicate 8 (.int .u32 0)) ∧ Arr wr G 268 (words (addsTo S H k)) ∧ w.heap.size + 1 + 1 < G ∧ Below w.heap.size w wr
theorem AdInvR.drew {w wr : World} {H S : List Nat} {G k : Nat} (h : AdInvR w wr H S G k) : AdInvR w wr.drew H S G k := ⟨h.1, h.2.1, h.2.2.1, h.2.2.2.1, h.2.2.2.2.drew⟩
theorem AdInvR.next {w wr : World} {H S : List Nat} {G k : Nat} (h : AdInvR w wr H S G k) (hl : S.length = H.length) (hk : k < H.length) :
    AdInvR w (wr.setCell ⟨G, k, none⟩ (.int .u32 (addW (S.getD k 0) (H.getD k 0) : Nat))) H S G (k + 1) := by
  have hN := h.2.2.2.1
  refine ⟨h.1.other (by omega) _ _, h.2.1.other (by omega) _ _, ?_, h.2.2.2.1, h.2.2.2.2.setCell (by show _ ≤ G; omega) _⟩
  have := h.2.2.1.set k (.int .u32 (addW (S.getD k 0) (H.getD k 0) : Nat))
  rw [words_setN, addsTo_set S H k hl (by omega)] at this
  exact this

set_option maxRecDepth 100000 in
set_option maxHeartbeats 6400000 in
theorem rpress_t3 {u0 u1 u3 u5 u6 u7 u8 u9 u11 u12 u13 u14 u15 u16 u17 u18 u19 u20 u21 u22 u23 u24 u25 u26 u27 u28 u29 u30 u31 u32 u33 u34 u35 u36 u37 u38 u39 u40 u41 u42 u43 u44 u45 u46 u47 u48 u49 u50 u51 u52 u53 u54 u55 u56 u57 u58 u59 u60 u61 u62 u63 u64 u65 u66 u67 u68 u69 u70 u71 u72 u73 u74 u75 u76 u77 u78 u79 u80 u81 u82 u83 u84 u85 u86 u87 u88 u89 u90 u91 u92 u93 u94 u95 u96 u97 u98 u99 u100 u101 u102 u103 u104 u105 u106 u107 u108 u109 u110 u111 u112 u113 u114 u115 u116 u117 u118 u119 u120 u121 u122 u123 u124 u125 u126 u127 u128 u129 u130 u131 u132 u133 u134 u135 u136 u137 u138 u139 u140 u141 u142 u143 u144 u145 u146 u147 u148 u149 u150 u151 u152 u153 u154 u155 u156 u157 u158 u159 u160 u161 u162 u163 u164 u165 u166 u167 u168 u169 u170 u171 u172 u173 u174 u175 u176 u177 u178 u179 u180 u181 u182 u183 u184 u185 u186 u187 u188 : Value} (K H b S : List Nat) (G : Nat) (w wr : World) (hH : H.length = 8) (hSl : S.length = 8) (hF : pressF K H b = addsTo H S 8) (hi : AdInvR w wr H S G 0) :
    Code.wp Tryz.prog (seqDrop 6 (bodyOf Tryz.f202)) (bodyPost Tryz.prog Tryz.f202 fun e w' => e = .returned (.agg (words (pressF K H b)).toArray) ∧ Below w.heap.size w w')
      ⟨#[u0, u1, .pointer (some ⟨w.heap.size, 0, none⟩), u3, .pointer (some ⟨w.heap.size + 1 + 1, 0, none⟩), u5, u6, u7, u8, u9, .pointer (some ⟨G, 0, none⟩), u11, u12, u13, u14, u15, u16, u17, u18, u19, u20, u21, u22, u23, u24, u25, u26, u27, u28, u29, u30, u31, u32, u33, u34, u35, u36, u37, u38, u39, u40, u41, u42, u43, u44, u45, u46, u47, u48, u49, u50, u51, u52, u53, u54, u55, u56, u57, u58, u59, u60, u61, u62, u63, u64, u65, u66, u67, u68, u69, u70, u71, u72, u73, u74, u75, u76, u77, u78, u79, u80, u81, u82, u83, u84, u85, u86, u87, u88, u89, u90, u91, u92, u93, u94, u95, u96, u97, u98, u99, u100, u101, u102, u103, u104, u105, u106, u107, u108, u109, u110, u111, u112, u113, u114, u115, u116, u117, u118, u119, u120, u121, u122, u123, u124, u125, u126, u127, u128, u129, u130, u131, u132, u133, u134, u135, u136, u137, u138, u139, u140, u141, u142, u143, u144, u145, u146, u147, u148, u149, u150, u151, u152, u153, u154, u155, u156, u157, u158, u159, u160, u161, u162, u163, u164, u165, u166, u167, u168, u169, u170, u171, u172, u173, u174, u175, u176, u177, u178, u179, u180, u181, u182, u183, u184, u185, u186, u187, u188], []⟩ wr := by
  have hF2 : pressF K H b = addsTo S H 8 := by rw [hF, addsTo_comm H S hH hSl]
  have HSl := Lib.hid hSl
  have HHl := Lib.hid hH
  have HF := Lib.hid hF2
  have HA := Lib.hid hi
  clear hSl hH hF hF2 hi
  conv => arg 2; whnf
  go_wp2
  go_loopg [16] 8 (fun g vn wq => ∃ k : Nat, Hid (g + k = 8) ∧ vn = .int .i64 (k : Int) ∧ Hid (AdInvR w wq H S G k))
  case atStart => exact ⟨0, rfl, rfl, HA.out⟩
  case round =>
    obtain ⟨k, hk, rfl, hi⟩ := hrel
    have HK := Lib.hid hk.out
    have HI := Lib.hid hi.out
    clear hk hi HA
    cases gk with
    | zero =>
      have ek : k = 8 := by have := HK.out; omega
      have hlt : ¬ ((k : Int) < 8) := by omega
      have hA := HI.out
      rw [ek] at hA
      have hl8 : (addsTo S H 8).length = 8 := by rw [addsTo_len S H 8 (by rw [HHl.out, HSl.out]), HSl.out]
      have hFF := HF.out
      obtain ⟨M, hM⟩ : ∃ M, M = addsTo S H 8 := ⟨_, rfl⟩
      rw [← hM] at hl8 hFF
      have hA1 := hA.2.2.1
      rw [← hM] at hA1
      have HA2 := Lib.hid hA1
      have HB2 := Lib.hid hA.2.1
      have HBel := Lib.hid hA.2.2.2.2
      have HFF := Lib.hid hFF
      have HL2 := Lib.hid hl8
      clear hA hA1 hM hFF hl8 ek
      have h1 := Lib.hid (all_oneCell_toArray (words_one M))
      have hs : (Tryz.prog.info? 268).map (·.size) = some (words M).length := by rw [words_len, HL2.out]; exact size8
      have hs2 : (Tryz.prog.info? 268).map (·.size) = some (words M).toArray.size := by rw [List.size_toArray]; exact hs
      have Hs := Lib.hid hs
      have Hs2 := Lib.hid hs2
      clear hs hs2
      go_wp2_with (first
        | refine wpList_load_mid (P := Tryz.prog) rfl 268 _ rfl G 0 rfl _ _ HA2.out.range Tryz.underlying268 rfl Hs.out ?_
        | refine wpList_store_mid (P := Tryz.prog) rfl 268 _ _ rfl (w.heap.size + 1 + 1) 0 _ rfl rfl (HB2.out.there _ (by simp [words_len, HL2.out])) Hs2.out h1.out ?_)
      have HA3 := Lib.hid (HB2.out.setAll (words M) (by simp [words_len, HL2.out]))
      refine bodyPost_ret (results_cell_row (P := Tryz.prog) rfl _ _ (w.heap.size + 1 + 1) 268 _ (0, 0) _ rfl HA3.out Tryz.underlying268 rfl (by rw [List.size_toArray]; exact Hs.out)) rfl ?_
      exact ⟨by rw [HFF.out], below_sets _ (by omega) _ _ HBel.out⟩
    | succ g =>
      have hk8 : k < 8 := by have := HK.out; omega
      have hlt : ((k : Int) < 8) := by omega
      obtain ⟨z, hz⟩ : ∃ z : Int, (k : Int) = z := ⟨_, rfl⟩
      have HZ := Lib.hid hz
      have hkz : k = z.toNat := by omega
      have HKz := Lib.hid hkz
      have c1 := HI.out.2.2.1.cell k
      rw [words_getN _ k _ (addsTo_get S H k (by rw [HHl.out, HSl.out]) (by rw [HSl.out]; exact hk8))] at c1
      have f1 := HI.out.2.2.1.frozen k
      have c2 := HI.out.1.cell k
      rw [words_getN H k (H.getD k 0) (by simp [HHl.out, hk8])] at c2
      obtain ⟨x, hx⟩ : ∃ x, S.getD k 0 = x := ⟨_, rfl⟩
      obtain ⟨y, hy⟩ : ∃ y, H.getD k 0 = y := ⟨_, rfl⟩
      rw [hx] at c1
      rw [hy] at c2
      have HX := Lib.hid hx
      have HY := Lib.hid hy
      rw [hkz] at c1 f1 c2
      have iz : 0 ≤ z := by omega
      have jz : z < 8 := by omega
      rw [hz] at hlt ⊢
      clear hx hy hz hkz
      go_wp2
      go_still_tail 9, (by kernel_rfl)
      change wpList _ _ _ _ _ wr.drew
      have c3 : wr.drew.cell? ⟨G, z.toNat, none⟩ = some (.int .u32 x) := c1
      have f3 : wr.drew.frozen? ⟨G, z.toNat, none⟩ = false := f1
      have HI2 := Lib.hid HI.out.drew
      clear c1 c2 f1 HI
      generalize wr.drew = w2 at *
      go_wp2
      rw [mod_nat x y]
      go_roundg g
      case measure => omega
      case rel =>
        refine ⟨k + 1, by show _ = _; have := HK.out; omega, by have := HZ.out; congr 1; omega, ?_⟩
        show AdInvR _ _ _ _ _ _
        rw [← HKz.out]
        have h2 := HI2.out.next (by rw [HHl.out, HSl.out]) (by rw [HHl.out]; omega)
        rw [HX.out, HY.out] at h2
        exact h2
end Go.Proofs.YthnbnckmeffkmaaGreat
/- plexusref02.Press: the rounds, and what follows them. -/
namespace Go.Proofs.YthnbnckmeffkmaaGreat
open Go.RowKit Go.Lib
set_option linter.unusedVariables false
set_option linter.unusedSimpArgs false
attribute [local go_sem ↓] Go.wp_at_zero Go.wp_at_succ

/-- What lies there while the rounds go. -/
def RdInv (w wr : World) (K H W : List Nat) (s : St) (G5 G6 G : Nat) : Prop :=
  Arr wr w.heap.size 268 (words H) ∧ Arr wr (w.heap.size + 1 + 1) 268 (List.replicate 8 (.int .u32 0)) ∧ Arr wr G5 266 (words K) ∧ Arr wr G6 266 (words W) ∧
  Arr wr G 268 (words s.list) ∧ w.heap.size + 1 + 1 < G5 ∧ G5 < G6 ∧ G6 < G ∧ Below w.heap.size w wr
theorem RdInv.drew {w wr : World} {K H W : List Nat} {s : St} {G5 G6 G : Nat} (h : RdInv w wr K H W s G5 G6 G) : RdInv w wr.drew K H W s G5 G6 G :=
  ⟨h.1, h.2.1, h.2.2.1, h.2.2.2.1, h.2.2.2.2.1, h.2.2.2.2.2.1, h.2.2.2.2.2.2.1, h.2.2.2.2.2.2.2.1, h.2.2.2.2.2.2.2.2.drew⟩
theorem Arr.otherC {g g' : Nat} {t : TypeId} {vs : List Value} (hne : g ≠ g') : ∀ (us : List Value) (o : Nat) {w : World}, Arr w g t vs → Arr (w.setCells g' o us) g t vs
  | [], _, _, h => h
  | u :: us, o, _, h => Arr.otherC hne us (o + 1) (h.other hne o u)
theorem RdInv.set {w wr : World} {K H W : List Nat} {s s' : St} {G5 G6 G : Nat} (h : RdInv w wr K H W s G5 G6 G) : RdInv w (wr.setCells G 0 (words s'.list)) K H W s' G5 G6 G := by
  obtain ⟨h1, h2, h3, h4, h5, n1, n2, n3, hb⟩ := h
  refine ⟨h1.otherC (by omega) _ _, h2.otherC (by omega) _ _, h3.otherC (by omega) _ _, h4.otherC (by omega) _ _, h5.setAll _ (by simp [words, St.list]), n1, n2, n3, below_sets _ (by omega) _ _ hb⟩

theorem right_q (x n : Nat) (m : Int) (hm : m = (n : Int)) (hx : x < 4294967296) (h0 : 1 ≤ n) (hn : n ≤ 31) (w : World) :
    Calls Tryz.prog 240 #[.int .u32 x, .int .u64 m] w fun e w' => e = .returned (.int .u32 (rotr n x : Nat)) ∧ w' = w := by
  subst hm
  exact (right_any x n w hx h0 hn).mono fun _ _ ⟨h1, h2⟩ => ⟨h1, h2.symm⟩
theorem RdInv.drewN {w wr : World} {K H W : List Nat} {s : St} {G5 G6 G : Nat} (h : RdInv w wr K H W s G5 G6 G) (n : Nat) : RdInv w (wr.drewN n) K H W s G5 G6 G :=
  ⟨h.1, h.2.1, h.2.2.1, h.2.2.2.1, h.2.2.2.2.1, h.2.2.2.2.2.1, h.2.2.2.2.2.2.1, h.2.2.2.2.2.2.2.1, ⟨h.2.2.2.2.2.2.2.2.os, h.2.2.2.2.2.2.2.2.tape, h.2.2.2.2.2.2.2.2.output, h.2.2.2.2.2.2.2.2.size, h.2.2.2.2.2.2.2.2.block⟩⟩
theorem rx_intR (a b c d e f g h k w : Nat) (he : e < 4294967296) (hf : f < 4294967296) (hg : g < 4294967296) :
    (((h : Int) + bits BinOp.xor IntKind.u32 (bits BinOp.xor IntKind.u32 (rotr 6 e : Nat) (rotr 11 e : Nat)) (rotr 25 e : Nat) +
      bits BinOp.xor IntKind.u32 (bits BinOp.and IntKind.u32 (e : Int) (f : Int)) (bits BinOp.and IntKind.u32 ((4294967295 - (e : Int)) % 4294967296) (g : Int)) + (k : Int)) % 4294967296 + (w : Int)) % 4294967296 = ((rx k w ⟨a, b, c, d, e, f, g, h⟩ : Nat) : Int) := by
  have e1 : ((4294967295 - (e : Int)) % 4294967296) = ((4294967295 - e : Nat) : Int) := by omega
  rw [(bg1_int e he).1, e1, (ch_int e f g _ he hf hg rfl).1]
  unfold rx
  simp only
  generalize bg1 e = s
  generalize chF e f g = t
  omega
/-- A callee that leaves the world alone, in a quiet region behind a quiet region. -/
theorem quiet_more {P : Program} {f : FuncId} {args : Array Value} {w : World} {a n : Nat} {v : Value} (c : ∀ W : World, Calls P f args W fun e w' => e = .returned v ∧ w' = W) :
    Calls P f args (w.drewN (a + n)) fun e w'' => e = .returned v ∧ ∃ m, w'' = w.drewN (a + m) := (c _).mono fun _ _ ⟨he, hm⟩ => ⟨he, n, hm⟩
set_option maxRecDepth 100000 in
set_option maxHeartbeats 6400000 in
theorem rpress_t2 {u0 u1 u3 u7 u8 u9 u10 u11 u12 u13 u14 u15 u16 u17 u18 u19 u20 u21 u22 u23 u24 u25 u26 u27 u28 u29 u30 u31 u32 u33 u34 u35 u36 u37 u38 u39 u40 u41 u42 u43 u44 u45 u46 u47 u48 u49 u50 u51 u52 u53 u54 u55 u56 u57 u58 u59 u60 u61 u62 u63 u64 u65 u66 u67 u68 u69 u70 u71 u72 u73 u74 u75 u76 u77 u78 u79 u80 u81 u82 u83 u84 u85 u86 u87 u88 u89 u90 u91 u92 u93 u94 u95 u96 u97 u98 u99 u100 u101 u102 u103 u104 u105 u106 u107 u108 u109 u110 u111 u112 u113 u114 u115 u116 u117 u118 u119 u120 u121 u122 u123 u124 u125 u126 u127 u128 u129 u130 u131 u132 u133 u134 u135 u136 u137 u138 u139 u140 u141 u142 u143 u144 u145 u146 u147 u148 u149 u150 u151 u152 u153 u154 u155 u156 u157 u158 u159 u160 u161 u162 u163 u164 u165 u166 u167 u168 u169 u170 u171 u172 u173 u174 u175 u176 u177 u178 u179 u180 u181 u182 u183 u184 u185 u186 u187 u188 : Value} (K H b W : List Nat) (G5 G6 : Nat) (w wr : World) (hK : K.length = 64) (hH : H.length = 8) (hh32 : ∀ x ∈ H, x < 4294967296) (hW : W = sched b 64)
    (hWl : W.length = 64) (h1 : Arr wr w.heap.size 268 (words H)) (h2 : Arr wr (w.heap.size + 1 + 1) 268 (List.replicate 8 (.int .u32 0))) (h3 : Arr wr G5 266 (words K))
    (h4 : Arr wr G6 266 (words W)) (n1 : w.heap.size + 1 + 1 < G5) (n2 : G5 < G6) (hb : Below w.heap.size w wr) :
    Code.wp Tryz.prog (seqDrop 4 (bodyOf Tryz.f202)) (bodyPost Tryz.prog Tryz.f202 fun e w' => e = .returned (.agg (words (pressF K H b)).toArray) ∧ Below w.heap.size w w')
      ⟨#[u0, u1, .pointer (some ⟨w.heap.size, 0, none⟩), u3, .pointer (some ⟨w.heap.size + 1 + 1, 0, none⟩), .pointer (some ⟨G5, 0, none⟩), .pointer (some ⟨G6, 0, none⟩), u7, u8, u9, u10, u11, u12, u13, u14, u15, u16, u17, u18, u19, u20, u21, u22, u23, u24, u25, u26, u27, u28, u29, u30, u31, u32, u33, u34, u35, u36, u37, u38, u39, u40, u41, u42, u43, u44, u45, u46, u47, u48, u49, u50, u51, u52, u53, u54, u55, u56, u57, u58, u59, u60, u61, u62, u63, u64, u65, u66, u67, u68, u69, u70, u71, u72, u73, u74, u75, u76, u77, u78, u79, u80, u81, u82, u83, u84, u85, u86, u87, u88, u89, u90, u91, u92, u93, u94, u95, u96, u97, u98, u99, u100, u101, u102, u103, u104, u105, u106, u107, u108, u109, u110, u111, u112, u113, u114, u115, u116, u117, u118, u119, u120, u121, u122, u123, u124, u125, u126, u127, u128, u129, u130, u131, u132, u133, u134, u135, u136, u137, u138, u139, u140, u141, u142, u143, u144, u145, u146, u147, u148, u149, u150, u151, u152, u153, u154, u155, u156, u157, u158, u159, u160, u161, u162, u163, u164, u165, u166, u167, u168, u169, u170, u171, u172, u173, u174, u175, u176, u177, u178, u179, u180, u181, u182, u183, u184, u185, u186, u187, u188], []⟩ wr := by
  have hz8 := zero8
  have hs : (Tryz.prog.info? 268).map (·.size) = some (words H).length := by rw [words_len, hH]; exact size8
  have hs2 : (Tryz.prog.info? 268).map (·.size) = some (words H).toArray.size := by rw [List.size_toArray]; exact hs
  have o1 := all_oneCell_toArray (words_one H)
  have Hs := Lib.hid hs
  have Hs2 := Lib.hid hs2
  have O1 := Lib.hid o1
  have H1 := Lib.hid h1
  have H2 := Lib.hid h2
  have H3 := Lib.hid h3
  have H4 := Lib.hid h4
  have HB := Lib.hid hb
  have HHl := Lib.hid hH
  have HH32 := Lib.hid hh32
  have HKl := Lib.hid hK
  have HW := Lib.hid hW
  have HWl := Lib.hid hWl
  have HN1 := Lib.hid n1
  have HN2 := Lib.hid n2
  clear hs hs2 o1 h1 h2 h3 h4 hb hH hh32 hK hW hWl n1 n2
  conv => arg 2; whnf
  have hmd := Arr.made wr 268 (List.replicate 8 (.int .u32 0))
  have Hmd := Lib.hid (hmd.there (words H).toArray.size (by simp [words_len, HHl.out]))
  have Hst := Lib.hid (hmd.setAll (words H) (by simp [words_len, HHl.out]))
  clear hmd
  go_wp2_with (first
    | refine wpList_load_mid (P := Tryz.prog) rfl 268 _ rfl w.heap.size 0 rfl _ _ H1.out.range Tryz.underlying268 rfl Hs.out ?_
    | refine wpList_store_mid (P := Tryz.prog) rfl 268 _ _ rfl wr.heap.size 0 (words H).toArray rfl rfl Hmd.out Hs2.out O1.out ?_)
  have e8 : (stOf H).list = H := by
    obtain ⟨h0, h1, h2, h3, h4, h5, h6, h7, hHe⟩ := len8 H HHl.out
    rw [hHe]; rfl
  have hal : ∀ {g : Nat} {t : TypeId} {vs : List Value} (o : Obj), Arr wr g t vs → g ≠ wr.heap.size → Arr ((wr.alloc o).setCells wr.heap.size 0 (words H)) g t vs :=
    fun o h hne => (h.below ((Below.refl _ _).alloc (Nat.le_refl _) o) h.lt).otherC hne _ _
  have hrd : RdInv w ((wr.alloc (.cells (List.replicate 8 (Value.int .u32 0)).toArray 268)).setCells wr.heap.size 0 (words H)) K H W (stOf H) G5 G6 wr.heap.size := by
    have l1 := H1.out.lt
    have l2 := H2.out.lt
    have l3 := H3.out.lt
    have l4 := H4.out.lt
    refine ⟨hal _ H1.out (by omega), hal _ H2.out (by omega), hal _ H3.out (by omega), hal _ H4.out (by omega), by rw [e8]; exact Hst.out, HN1.out, HN2.out, l4, below_sets _ HB.out.size _ _ (HB.out.alloc HB.out.size _)⟩
  have HR := Lib.hid hrd
  simp only [List.reduceReplicate] at HR
  obtain ⟨G, hG⟩ : ∃ G, wr.heap.size = G := ⟨_, rfl⟩
  rw [hG] at HR ⊢
  clear hrd hal e8 hG Hst Hmd H1 H2 H3 H4 HB O1 Hs Hs2
  generalize World.setCells _ _ _ _ = w2 at *
  have hok0 : (stOf H).ok := by
    obtain ⟨h0, h1, h2, h3, h4, h5, h6, h7, hHe⟩ := len8 H HHl.out
    have h8 := HH32.out
    rw [hHe] at h8 ⊢
    show (St.mk h0 h1 h2 h3 h4 h5 h6 h7).ok
    exact ⟨h8 _ (by simp), h8 _ (by simp), h8 _ (by simp), h8 _ (by simp), h8 _ (by simp), h8 _ (by simp), h8 _ (by simp), h8 _ (by simp)⟩
  have HOk0 := Lib.hid hok0
  clear hok0
  go_loopg [11, 12, 13, 14, 15] 64 (fun g vn ve va vx vy wq => ∃ k : Nat, Hid (g + k = 64) ∧ ∃ s : St, Hid (s = rounds K W (stOf H) k) ∧ vn = .int .i64 (k : Int) ∧ Hid (RdInv w wq K H W s G5 G6 G))
  case atStart => exact ⟨0, rfl, stOf H, rfl, rfl, HR.out⟩
  case round =>
    obtain ⟨k, hk, s, hs, rfl, hi⟩ := hrel
    have HK := Lib.hid hk.out
    have HS := Lib.hid hs.out
    have HI := Lib.hid hi.out
    clear hk hs hi HR
    cases gk with
    | zero =>
      have hlt : ¬ ((k : Int) < 64) := by have := HK.out; omega
      have hF : pressF K H b = addsTo H s.list 8 := by
        unfold pressF
        rw [← HW.out, HS.out, show k = 64 by have := HK.out; omega]
      have HF := Lib.hid hF
      have hA : AdInvR w wr H s.list G 0 := by
        obtain ⟨h1, h2, h3, h4, h5, n1, n2, n3, hb⟩ := HI.out
        exact ⟨h1, h2, by rw [addsTo_zero]; exact h5, by omega, hb⟩
      have HA := Lib.hid hA
      clear hF hA
      go_upto_if 94 with fail
      repeat (first | (exact rpress_t3 K H b s.list G w _ HHl.out rfl HF.out HA.out) | go_step)
    | succ g =>
      have hk1 : k < 64 := by have := HK.out; omega
      obtain ⟨z, hz⟩ : ∃ z : Int, (k : Int) = z := ⟨_, rfl⟩
      have HZ := Lib.hid hz
      have hlt : z < 64 := by omega
      obtain ⟨h1, h2, h3, h4, h5, n1, n2, n3, hb⟩ := HI.out
      have ck := (h3.cell k).trans (words_nth K k (by rw [HKl.out]; exact hk1))
      have cw := (h4.cell k).trans (words_nth W k (by rw [HWl.out]; exact hk1))
      have hkz : k = z.toNat := by omega
      have hok : s.ok := by rw [HS.out]; exact rounds_ok _ _ _ HOk0.out _
      have hstep : Hid (rounds K W (stOf H) (k + 1) = stp (K.getD k 0) (W.getD k 0) s) := by show _ = _; rw [HS.out]; rfl
      have c0 := h5.cell 0
      have c1 := h5.cell 1
      have c2 := h5.cell 2
      have c3 := h5.cell 3
      have c4 := h5.cell 4
      have c5 := h5.cell 5
      have c6 := h5.cell 6
      have c7 := h5.cell 7
      have HTh := Lib.hid (h5.there 8 rfl)
      clear h1 h2 h3 h4 h5 n1 n2 n3 hb
      generalize K.getD k 0 = kk at *
      generalize W.getD k 0 = ww at *
      rw [hkz] at ck cw
      obtain ⟨sa, sb, sc, sd, se, sf, sg, sh⟩ := s
      obtain ⟨oa, ob, oc, od, oe, of, og, oh⟩ := hok
      simp only [St.list, words, List.map_cons, List.map_nil, List.getElem?_cons_zero, List.getElem?_cons_succ] at c0 c1 c2 c3 c4 c5 c6 c7
      simp only at oa ob oc od oe of og oh
      have T6 := Lib.hid (right_q se 6 6 rfl oe (by omega) (by omega))
      have T11 := Lib.hid (right_q se 11 11 rfl oe (by omega) (by omega))
      have T25 := Lib.hid (right_q se 25 25 rfl oe (by omega) (by omega))
      have T2 := Lib.hid (right_q sa 2 2 rfl oa (by omega) (by omega))
      have T13 := Lib.hid (right_q sa 13 13 rfl oa (by omega) (by omega))
      have T22 := Lib.hid (right_q sa 22 22 rfl oa (by omega) (by omega))
      have HO := Lib.hid (And.intro oa (And.intro ob (And.intro oc (And.intro od (And.intro oe (And.intro of (And.intro og oh)))))))
      have iz : 0 ≤ z := by omega
      rw [hz]
      clear hz hkz oa ob oc od oe of og oh hk1
      go_wp2
      go_quiet (fail)
      go_wp2
      go_quiet ((go_at_call 240; (first | with_reducible exact quiet_more T6.out | with_reducible exact quiet_more T11.out | with_reducible exact quiet_more T25.out)))
      rw [rx_intR sa sb sc sd se sf sg sh kk ww HO.out.2.2.2.2.1 HO.out.2.2.2.2.2.1 HO.out.2.2.2.2.2.2.1]
      obtain ⟨X, hX⟩ : ∃ X, X = rx kk ww ⟨sa, sb, sc, sd, se, sf, sg, sh⟩ := ⟨_, rfl⟩
      rw [← hX]
      have HX := Lib.hid hX
      clear hX
      go_wp2
      go_quiet ((go_at_call 240; (first | with_reducible exact quiet_more T2.out | with_reducible exact quiet_more T13.out | with_reducible exact quiet_more T22.out)))
      rw [ry_int2 sa sb sc sd se sf sg sh HO.out.1 HO.out.2.1 HO.out.2.2.1]
      obtain ⟨Y, hY⟩ : ∃ Y, Y = ry ⟨sa, sb, sc, sd, se, sf, sg, sh⟩ := ⟨_, rfl⟩
      rw [← hY]
      have HY := Lib.hid hY
      clear hY
      generalize hw3 : World.drewN (World.drewN (World.drewN wr _) _) _ = w3
      have d0 : w3.cell? ⟨G, 0, none⟩ = some (.int .u32 sa) := by rw [← hw3]; exact c0
      have d1 : w3.cell? ⟨G, 1, none⟩ = some (.int .u32 sb) := by rw [← hw3]; exact c1
      have d2 : w3.cell? ⟨G, 2, none⟩ = some (.int .u32 sc) := by rw [← hw3]; exact c2
      have d3 : w3.cell? ⟨G, 3, none⟩ = some (.int .u32 sd) := by rw [← hw3]; exact c3
      have d4 : w3.cell? ⟨G, 4, none⟩ = some (.int .u32 se) := by rw [← hw3]; exact c4
      have d5 : w3.cell? ⟨G, 5, none⟩ = some (.int .u32 sf) := by rw [← hw3]; exact c5
      have d6 : w3.cell? ⟨G, 6, none⟩ = some (.int .u32 sg) := by rw [← hw3]; exact c6
      have hi3 : RdInv w w3 K H W ⟨sa, sb, sc, sd, se, sf, sg, sh⟩ G5 G6 G := by rw [← hw3]; exact ((HI.out.drewN _).drewN _).drewN _
      have HI3 := Lib.hid hi3
      have HTh3 := Lib.hid (hi3.2.2.2.2.1.there 8 rfl)
      have Hs8 := Lib.hid size8
      clear hw3 hi3 c0 c1 c2 c3 c4 c5 c6 c7 ck cw HI HTh T6 T11 T25 T2 T13 T22
      have he : words (stp kk ww ⟨sa, sb, sc, sd, se, sf, sg, sh⟩).list = [.int .u32 (((X : Int) + (Y : Int)) % 4294967296), .int .u32 sa, .int .u32 sb, .int .u32 sc, .int .u32 (((sd : Int) + (X : Int)) % 4294967296), .int .u32 se, .int .u32 sf, .int .u32 sg] := by
        rw [mod_nat X Y, mod_nat sd X, HX.out, HY.out]; rfl
      have HE := Lib.hid he
      have ho8 := all_oneCell_toArray (words_one (stp kk ww ⟨sa, sb, sc, sd, se, sf, sg, sh⟩).list)
      rw [he] at ho8
      have HO8 := Lib.hid ho8
      clear he ho8
      go_upto_region 17 with fail
      iterate 61 (first | go_values | go_skip | go_guarded | go_step | go_upon)
      refine wpList_store_mid (P := Tryz.prog) rfl 268 _ _ rfl G 0 _ rfl rfl HTh3.out Hs8.out HO8.out ?_
      go_wp2
      go_roundg g
      case measure => omega
      case rel =>
        refine ⟨k + 1, by show _ = _; have := HK.out; omega, stp kk ww ⟨sa, sb, sc, sd, se, sf, sg, sh⟩, hstep.out.symm, by have := HZ.out; congr 1; omega, ?_⟩
        show RdInv _ _ _ _ _ _ _ _ _
        have h2 := HI3.out.set (s' := stp kk ww ⟨sa, sb, sc, sd, se, sf, sg, sh⟩)
        rw [HE.out] at h2
        exact h2
end Go.Proofs.YthnbnckmeffkmaaGreat
/- Byte slices: what one reads as, and append onto one of the call's own. Nothing of the dump stands here. -/
namespace Go.Proofs.YthnbnckmeffkmaaGreat
open Go.RowKit Go.Lib
set_option linter.unusedVariables false

/-- Bytes as values. -/
def bys (L : List Nat) : List Value := L.map fun p : Nat => Value.int .u8 (p : Int)
theorem bys_len (L : List Nat) : (bys L).length = L.length := by simp [bys]
theorem bys_get (L : List Nat) (j : Nat) (hj : j < L.length) : (bys L)[j]? = some (.int .u8 (L.getD j 0 : Nat)) := by simp [bys, hj]
theorem bys_one (vs : List Nat) : ∀ v ∈ bys vs, v.oneCell' = true := by
  intro v hv
  simp only [bys, List.mem_map] at hv
  obtain ⟨p, _, rfl⟩ := hv
  rfl
theorem bys_app (X Y : List Nat) : bys (X ++ Y) = bys X ++ bys Y := by simp [bys]

/-- A slice value that reads as these bytes (nil: none). -/
def Byts (w : World) (v : Value) (L : List Nat) : Prop :=
  (∀ x ∈ L, x < 256) ∧ ((v = .slice none 0 0 ∧ L = []) ∨ ∃ ad c, v = .slice (some ad) L.length c ∧ L.length ≤ c ∧ c ≤ maxLen ∧ ∀ j, j < L.length → w.cell? (ad.add j) = some (.int .u8 (L.getD j 0 : Nat)))
theorem Byts.below {w w' : World} {v : Value} {L : List Nat} (h : Byts w v L) (hb : Below w.heap.size w w') : Byts w' v L := by
  refine ⟨h.1, ?_⟩
  rcases h.2 with h1 | ⟨ad, c, h1, h2, h3, h4⟩
  · exact .inl h1
  · exact .inr ⟨ad, c, h1, h2, h3, fun j hj => cellb hb (h4 j hj)⟩
theorem Byts.nil (w : World) : Byts w (.slice none 0 0) [] := ⟨(fun _ h => by cases h), .inl ⟨rfl, rfl⟩⟩
theorem Byts.drew {w : World} {v : Value} {L : List Nat} (h : Byts w v L) : Byts w.drew v L := ⟨h.1, h.2⟩
theorem own_nil (w : World) (base : Nat) (e : TypeId) (size : Nat) : w.ownsRow base e size (.slice none 0 0) 0 [] := ⟨by simp, .inl ⟨rfl, rfl⟩⟩
theorem own_byts {w : World} {base : Nat} {e : TypeId} {v : Value} {L : List Nat} (h : w.ownsRow base e 1 v L.length (bys L)) (h256 : ∀ x ∈ L, x < 256) : Byts w v L := by
  refine ⟨h256, ?_⟩
  rcases h.2 with ⟨rfl, h0⟩ | ⟨g, cap, cur, rfl, hb, hg, hn, hc, hcur⟩
  · exact .inl ⟨rfl, List.eq_nil_of_length_eq_zero h0⟩
  · refine .inr ⟨_, cap, rfl, hn, hc, fun j hj => ?_⟩
    rw [add_nospot, World.ownsRow.cellAt h j (by omega), bys_get L j hj]

/-- append(v, y...), bytes onto a slice of the call's own. -/
theorem appB {P : Program} {ops : Array Oper} {rest : List Oper} {o : Oper} {a : Act} {Q : Exit → Act → World → Prop} {W : World} (base : Nat) (hgd : o.guard = none) (s x : Operand) (t e : TypeId)
    (ho : o.op = .call { callee := .builtin .append, args := #[s, x], argTypes := #[t, t] })
    (ht : P.underlying t = some (.slice e)) (hinfo : (P.info? e).map (fun i => (i.zero, i.size, i.bytes)) = some (some (.int .u8 0), 1, 1))
    (v y : Value) (X L Z : List Nat) (hZ : X ++ L = Z) (hs : a.eval s = v) (hx : a.eval x = y)
    (HO : W.ownsRow base e 1 v X.length (bys X)) (HY : Byts W y L) (hbase : base ≤ W.heap.size) (hl : X.length + L.length ≤ 140737488355328)
    (h : ∀ v1 w1, Hid (w1.ownsRow base e 1 v1 Z.length (bys Z)) → Hid (∀ B w0, Below B w0 W → B ≤ base → Below B w0 w1) → Hid (W.grownBy w1 v.ownBlock) → wpList P ops Q rest (a.put o.dst v1) w1) :
    wpList P ops Q (o :: rest) a W := by
  subst hZ
  obtain ⟨i0, hi, hzz⟩ := Option.map_eq_some_iff.1 hinfo
  simp only [Prod.mk.injEq] at hzz
  obtain ⟨hz0, hz1, hz2⟩ := hzz
  rcases HY.2 with ⟨rfl, rfl⟩ | ⟨ad, c, rfl, _, _, hcell⟩
  · refine wpList_append_own_none hgd s x t ho base e i0 1 ht hi v X.length (bys X) hs HO hx ?_
    exact h v W (by show World.ownsRow _ _ _ _ _ _ _; simpa using HO) (fun B w0 hB _ => hB) ⟨rfl, rfl, rfl, Nat.le_refl _, fun _ _ _ => rfl⟩
  · refine wpList_append_own W hgd s x t ho base e i0 (.int .u8 0) 1 1 ht hi hz0 hz1 hz2 rfl (by omega) v X.length (bys X) hs HO ad L.length c (bys L) hx (by rw [bys_len, Nat.mul_one])
      (fun j u hu => ?_) (bys_one L) (by unfold maxLen; omega) (by omega) hbase ?_
    · have hj : j < L.length := by have := (List.getElem?_eq_some_iff.1 hu).1; rw [bys_len] at this; exact this
      rw [bys_get L j hj] at hu
      rw [hcell j hj, ← hu]
    · intro v1 w1 hown hg _
      refine h v1 w1 (by show World.ownsRow _ _ _ _ _ _ _; rw [bys_app]; simpa using hown) (fun B w0 hB hbb => hB.grown hg (by omega) (fun k hk => Nat.le_trans hbb (HO.lt k hk).1)) hg

theorem strCells_bys (s : ByteArray) : strCells s = bys (s.data.toList.map (·.toNat)) := by
  simp [strCells, bys]
/-- append(v, s...), a string's bytes. -/
theorem appS {P : Program} {ops : Array Oper} {rest : List Oper} {o : Oper} {a : Act} {Q : Exit → Act → World → Prop} {W : World} (base : Nat) (hgd : o.guard = none) (s x : Operand) (t u e : TypeId)
    (ho : o.op = .call { callee := .builtin .append, args := #[s, x], argTypes := #[t, u] })
    (ht : P.underlying t = some (.slice e)) (hu : P.underlying u = some .string) (hinfo : (P.info? e).map (fun i => (i.zero, i.size, i.bytes)) = some (some (.int .u8 0), 1, 1))
    (v : Value) (X Z : List Nat) (y : ByteArray) (hZ : X ++ y.data.toList.map (·.toNat) = Z) (hs : a.eval s = v) (hx : a.eval x = .string y)
    (HO : W.ownsRow base e 1 v X.length (bys X)) (hbase : base ≤ W.heap.size) (hl : X.length + y.size ≤ 140737488355328)
    (h : ∀ v1 w1, Hid (w1.ownsRow base e 1 v1 Z.length (bys Z)) → Hid (∀ B w0, Below B w0 W → B ≤ base → Below B w0 w1) → Hid (W.grownBy w1 v.ownBlock) → wpList P ops Q rest (a.put o.dst v1) w1) :
    wpList P ops Q (o :: rest) a W := by
  subst hZ
  obtain ⟨i0, hi, hzz⟩ := Option.map_eq_some_iff.1 hinfo
  simp only [Prod.mk.injEq] at hzz
  obtain ⟨hz0, hz1, hz2⟩ := hzz
  refine wpList_append_own_string W hgd s x t u ho base e i0 ht hu hi hz0 hz1 hz2 v X.length (bys X) hs HO y hx (by unfold maxLen; omega) hl hbase ?_
  intro v1 w1 hown hg _
  refine h v1 w1 ?_ (fun B w0 hB hbb => hB.grown hg (by omega) (fun k hk => Nat.le_trans hbb (HO.lt k hk).1)) hg
  show World.ownsRow _ _ _ _ _ _ _
  rw [bys_app, ← strCells_bys, List.length_append, List.length_map, Array.length_toList]
  exact hown
end Go.Proofs.YthnbnckmeffkmaaGreat
