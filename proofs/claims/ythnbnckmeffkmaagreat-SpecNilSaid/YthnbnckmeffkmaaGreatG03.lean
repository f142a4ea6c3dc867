/- sha.press: the last loop (the words are added), and the end. -/
import Derived.Test.YthnbnckmeffkmaaGreatG02
namespace Go.Proofs.YthnbnckmeffkmaaGreat
open Go.RowKit Go.Lib
set_option linter.unusedVariables false
set_option linter.unusedSimpArgs false
attribute [local go_sem ↓] Go.wp_at_zero Go.wp_at_succ

set_option maxRecDepth 100000 in
set_option maxHeartbeats 6400000 in
theorem press_t4 {u0 u1 u2 u3 u5 u7 u8 u9 u10 u11 u20 u21 u22 u23 u24 u25 u26 u27 u28 u29 u30 u31 u32 u33 u34 u35 u36 u37 u38 u39 u40 u41 u42 u43 u44 u45 u46 u47 u48 u49 u50 u51 u52 u53 u54 u55 u56 u57 u58 u59 u60 u61 u62 u63 u64 u65 u66 u67 u68 u69 u70 u71 u72 u73 u74 u75 u76 u77 u78 u79 u80 u81 u82 u83 u84 u85 u86 u87 u88 u89 u90 u91 u92 u93 u94 u95 u96 u97 u98 u99 u100 u101 u102 u103 u104 u105 u106 u107 u108 u109 u110 u111 u112 u113 u114 u115 u116 u117 u118 u119 u120 u121 u122 u123 u124 u125 u126 u127 u128 u129 u130 u131 u132 u133 u134 u135 u136 u137 u138 u139 u140 u141 u142 u143 u144 u145 u146 u147 u148 u149 u150 u151 u152 u153 u154 u155 u156 u157 u158 u159 u160 u161 u162 u163 u164 u165 u166 u167 u168 u169 u170 u171 u172 u173 u174 u175 u176 u177 u178 u179 u180 u181 u182 u183 u184 u185 u186 u187 u188 u189 u190 u191 u192 u193 u194 u195 u196 u197 u198 u199 u200 u201 u202 u203 u204 u205 u206 : Value} (K H b S : List Nat) (W' : List Value) (s : St) (w wr : World) (hH : H.length = 8) (hS : S = s.list) (hF : pressF K H b = addsTo H S 8) (hi : PrInv w wr K H W') :
    Code.wp Tryz.prog (seqDrop 6 (bodyOf Tryz.f225)) (bodyPost Tryz.prog Tryz.f225 fun e w' => e = .returned (.agg (words (pressF K H b)).toArray) ∧ Below w.heap.size w w')
      ⟨#[u0, u1, u2, u3, .pointer (some ⟨w.heap.size + 1, 0, none⟩), u5, .pointer (some ⟨w.heap.size + 1 + 1, 0, none⟩), u7, u8, u9, u10, u11, .int .u32 s.a, .int .u32 s.b, .int .u32 s.c, .int .u32 s.d, .int .u32 s.e, .int .u32 s.f, .int .u32 s.g, .int .u32 s.h, u20, u21, u22, u23, u24, u25, u26, u27, u28, u29, u30, u31, u32, u33, u34, u35, u36, u37, u38, u39, u40, u41, u42, u43, u44, u45, u46, u47, u48, u49, u50, u51, u52, u53, u54, u55, u56, u57, u58, u59, u60, u61, u62, u63, u64, u65, u66, u67, u68, u69, u70, u71, u72, u73, u74, u75, u76, u77, u78, u79, u80, u81, u82, u83, u84, u85, u86, u87, u88, u89, u90, u91, u92, u93, u94, u95, u96, u97, u98, u99, u100, u101, u102, u103, u104, u105, u106, u107, u108, u109, u110, u111, u112, u113, u114, u115, u116, u117, u118, u119, u120, u121, u122, u123, u124, u125, u126, u127, u128, u129, u130, u131, u132, u133, u134, u135, u136, u137, u138, u139, u140, u141, u142, u143, u144, u145, u146, u147, u148, u149, u150, u151, u152, u153, u154, u155, u156, u157, u158, u159, u160, u161, u162, u163, u164, u165, u166, u167, u168, u169, u170, u171, u172, u173, u174, u175, u176, u177, u178, u179, u180, u181, u182, u183, u184, u185, u186, u187, u188, u189, u190, u191, u192, u193, u194, u195, u196, u197, u198, u199, u200, u201, u202, u203, u204, u205, u206], []⟩ wr := by
  have hSl : S.length = 8 := by rw [hS]; rfl
  have HS := Lib.hid hS
  have HSl := Lib.hid hSl
  have HHl := Lib.hid hH
  have HF := Lib.hid hF
  have HI := Lib.hid hi
  clear hS hSl hH hF hi
  conv => arg 2; whnf
  go_wp2
  have ha : AdInv w (wr.alloc (.cells #[.int .u32 s.a, .int .u32 s.b, .int .u32 s.c, .int .u32 s.d, .int .u32 s.e, .int .u32 s.f, .int .u32 s.g, .int .u32 s.h] 134)) H S wr.heap.size 0 := by
    have hb : Below w.heap.size w (wr.alloc (.cells #[.int .u32 s.a, .int .u32 s.b, .int .u32 s.c, .int .u32 s.d, .int .u32 s.e, .int .u32 s.f, .int .u32 s.g, .int .u32 s.h] 134)) := HI.out.2.2.2.2.alloc HI.out.2.2.2.2.size _
    have h1 := HI.out.2.2.1.lt
    refine ⟨?_, HI.out.2.2.1.below (Below.refl _ _ |>.alloc (Nat.le_refl _) _) h1, h1, fun j => ?_, hb⟩
    · rw [addsTo_zero]; exact HI.out.2.1.below (Below.refl _ _ |>.alloc (Nat.le_refl _) _) HI.out.2.1.lt
    · rw [cell_of_row _ wr.heap.size j _ _ _ (heap_alloc_last wr _), HS.out]; simp [words, St.list]
  have HA := Lib.hid ha
  obtain ⟨G, hG⟩ : ∃ G, wr.heap.size = G := ⟨_, rfl⟩
  rw [hG] at HA ⊢
  generalize World.alloc _ _ = w2 at *
  clear ha hG HI
  go_loopg [23, 24, 194] 8 (fun g vi vx vn wq => ∃ k : Nat, Hid (g + k = 8) ∧ vn = .int .i64 (k : Int) ∧ Hid (AdInv w wq H S G k))
  case atStart => exact ⟨0, rfl, rfl, HA.out⟩
  case round =>
    obtain ⟨k, hk, rfl, hi⟩ := hrel
    have HK := Lib.hid hk.out
    have HI := Lib.hid hi.out
    clear hk hi HA
    cases gk with
    | zero =>
      have ek : k = 8 := by have := HK.out; omega
      have hlt : ¬ ((k : Int) < 8) := by omega
      have hA := HI.out
      rw [ek] at hA
      have hl8 : (addsTo H S 8).length = 8 := by rw [addsTo_len H S 8 (by rw [HHl.out, HSl.out]), HHl.out]
      have hFF := HF.out
      obtain ⟨M, hM⟩ : ∃ M, M = addsTo H S 8 := ⟨_, rfl⟩
      rw [← hM] at hl8 hFF
      have hA1 := hA.1
      rw [← hM] at hA1
      have HA2 := Lib.hid hA1
      have HB2 := Lib.hid hA.2.1
      have HBel := Lib.hid hA.2.2.2.2
      have HFF := Lib.hid hFF
      have HL2 := Lib.hid hl8
      clear hA hA1 hM hFF hl8 ek
      have h1 := Lib.hid (all_oneCell_toArray (words_one M))
      have hs : (Tryz.prog.info? 268).map (·.size) = some (words M).length := by rw [words_len, HL2.out]; exact size8
      have hs2 : (Tryz.prog.info? 268).map (·.size) = some (words M).toArray.size := by rw [List.size_toArray]; exact hs
      have Hs := Lib.hid hs
      have Hs2 := Lib.hid hs2
      clear hs hs2
      go_wp2_with (first
        | refine wpList_load_mid (P := Tryz.prog) rfl 268 _ rfl (w.heap.size + 1) 0 rfl _ _ HA2.out.range Tryz.underlying268 rfl Hs.out ?_
        | refine wpList_store_mid (P := Tryz.prog) rfl 268 _ _ rfl (w.heap.size + 1 + 1) 0 _ rfl rfl (HB2.out.there _ (by simp [words_len, HL2.out])) Hs2.out h1.out ?_)
      have HA3 := Lib.hid (HB2.out.setAll (words M) (by simp [words_len, HL2.out]))
      refine bodyPost_ret (results_cell_row (P := Tryz.prog) rfl _ _ (w.heap.size + 1 + 1) 268 _ (0, 0) _ rfl HA3.out Tryz.underlying268 rfl (by rw [List.size_toArray]; exact Hs.out)) rfl ?_
      exact ⟨by rw [HFF.out], below_sets _ (by omega) _ _ HBel.out⟩
    | succ g =>
      have hk8 : k < 8 := by have := HK.out; omega
      have hlt : ((k : Int) < 8) := by omega
      obtain ⟨z, hz⟩ : ∃ z : Int, (k : Int) = z := ⟨_, rfl⟩
      have HZ := Lib.hid hz
      have hkz : k = z.toNat := by omega
      have HKz := Lib.hid hkz
      have c1 := HI.out.1.cell k
      rw [words_getN _ k _ (addsTo_get H S k (by rw [HHl.out, HSl.out]) (by rw [HHl.out]; exact hk8))] at c1
      have f1 := HI.out.1.frozen k
      have c2 := HI.out.2.2.2.1 k
      rw [words_getN S k (S.getD k 0) (by simp [HSl.out, hk8])] at c2
      have hN := HI.out.2.2.1
      obtain ⟨x, hx⟩ : ∃ x, H.getD k 0 = x := ⟨_, rfl⟩
      obtain ⟨y, hy⟩ : ∃ y, S.getD k 0 = y := ⟨_, rfl⟩
      rw [hx] at c1
      rw [hy] at c2
      have HX := Lib.hid hx
      have HY := Lib.hid hy
      rw [hkz] at c1 f1 c2
      have iz : 0 ≤ z := by omega
      have jz : z < 8 := by omega
      rw [hz] at hlt ⊢
      clear hx hy hz hkz
      go_wp2
      rw [mod_nat x y]
      go_roundg g
      case measure => omega
      case rel =>
        refine ⟨k + 1, by show _ = _; have := HK.out; omega, by have := HZ.out; congr 1; omega, ?_⟩
        show AdInv _ _ _ _ _ _
        rw [← HKz.out]
        have h2 := HI.out.next (by rw [HHl.out, HSl.out]) (by rw [HHl.out]; omega)
        rw [HX.out, HY.out] at h2
        exact h2
end Go.Proofs.YthnbnckmeffkmaaGreat
/- sha.press: the third loop (the rounds), and what follows it. -/
namespace Go.Proofs.YthnbnckmeffkmaaGreat
open Go.RowKit Go.Lib
set_option linter.unusedVariables false
set_option linter.unusedSimpArgs false
attribute [local go_sem ↓] Go.wp_at_zero Go.wp_at_succ

set_option maxRecDepth 100000 in
set_option maxHeartbeats 6400000 in
theorem press_t3 {u0 u1 u2 u5 u8 u9 u10 u11 u12 u13 u14 u15 u16 u17 u18 u19 u20 u21 u22 u23 u24 u25 u26 u27 u28 u29 u30 u31 u32 u33 u34 u35 u36 u37 u38 u39 u40 u41 u42 u43 u44 u45 u46 u47 u48 u49 u50 u51 u52 u53 u54 u55 u56 u57 u58 u59 u60 u61 u62 u63 u64 u65 u66 u67 u68 u69 u70 u71 u72 u73 u74 u75 u76 u77 u78 u79 u80 u81 u82 u83 u84 u85 u86 u87 u88 u89 u90 u91 u92 u93 u94 u95 u96 u97 u98 u99 u100 u101 u102 u103 u104 u105 u106 u107 u108 u109 u110 u111 u112 u113 u114 u115 u116 u117 u118 u119 u120 u121 u122 u123 u124 u125 u126 u127 u128 u129 u130 u131 u132 u133 u134 u135 u136 u137 u138 u139 u140 u141 u142 u143 u144 u145 u146 u147 u148 u149 u150 u151 u152 u153 u154 u155 u156 u157 u158 u159 u160 u161 u162 u163 u164 u165 u166 u167 u168 u169 u170 u171 u172 u173 u174 u175 u176 u177 u178 u179 u180 u181 u182 u183 u184 u185 u186 u187 u188 u189 u190 u191 u192 u193 u194 u195 u196 u197 u198 u199 u200 u201 u202 u203 u204 u205 u206 : Value} (K H b W : List Nat) (w wr : World) (hK : K.length = 64) (hH : H.length = 8) (hh32 : ∀ x ∈ H, x < 4294967296) (hW : W = sched b 64) (hWl : W.length = 64) (hi : PrInv w wr K H (words W)) :
    Code.wp Tryz.prog (seqDrop 4 (bodyOf Tryz.f225)) (bodyPost Tryz.prog Tryz.f225 fun e w' => e = .returned (.agg (words (pressF K H b)).toArray) ∧ Below w.heap.size w w')
      ⟨#[u0, u1, u2, .pointer (some ⟨w.heap.size, 0, none⟩), .pointer (some ⟨w.heap.size + 1, 0, none⟩), u5, .pointer (some ⟨w.heap.size + 1 + 1, 0, none⟩), .pointer (some ⟨w.heap.size + 1 + 1 + 1, 0, none⟩), u8, u9, u10, u11, u12, u13, u14, u15, u16, u17, u18, u19, u20, u21, u22, u23, u24, u25, u26, u27, u28, u29, u30, u31, u32, u33, u34, u35, u36, u37, u38, u39, u40, u41, u42, u43, u44, u45, u46, u47, u48, u49, u50, u51, u52, u53, u54, u55, u56, u57, u58, u59, u60, u61, u62, u63, u64, u65, u66, u67, u68, u69, u70, u71, u72, u73, u74, u75, u76, u77, u78, u79, u80, u81, u82, u83, u84, u85, u86, u87, u88, u89, u90, u91, u92, u93, u94, u95, u96, u97, u98, u99, u100, u101, u102, u103, u104, u105, u106, u107, u108, u109, u110, u111, u112, u113, u114, u115, u116, u117, u118, u119, u120, u121, u122, u123, u124, u125, u126, u127, u128, u129, u130, u131, u132, u133, u134, u135, u136, u137, u138, u139, u140, u141, u142, u143, u144, u145, u146, u147, u148, u149, u150, u151, u152, u153, u154, u155, u156, u157, u158, u159, u160, u161, u162, u163, u164, u165, u166, u167, u168, u169, u170, u171, u172, u173, u174, u175, u176, u177, u178, u179, u180, u181, u182, u183, u184, u185, u186, u187, u188, u189, u190, u191, u192, u193, u194, u195, u196, u197, u198, u199, u200, u201, u202, u203, u204, u205, u206], []⟩ wr := by
  obtain ⟨h0, h1, h2, h3, h4, h5, h6, h7, hHe⟩ := len8 H hH
  have HI3 := Lib.hid hi
  have HW := Lib.hid hW
  have HWl := Lib.hid hWl
  have HHe := Lib.hid hHe
  have HHl := Lib.hid hH
  have HH32 := Lib.hid hh32
  have HKl := Lib.hid hK
  have hc : ∀ j, wr.cell? ⟨w.heap.size + 1, j, none⟩ = (words H)[j]? := fun j => hi.2.1.cell j
  rw [hHe] at hc
  have d0 : wr.cell? ⟨w.heap.size + 1, 0, none⟩ = some (.int .u32 h0) := hc 0
  have d1 : wr.cell? ⟨w.heap.size + 1, 1, none⟩ = some (.int .u32 h1) := hc 1
  have d2 : wr.cell? ⟨w.heap.size + 1, 2, none⟩ = some (.int .u32 h2) := hc 2
  have d3 : wr.cell? ⟨w.heap.size + 1, 3, none⟩ = some (.int .u32 h3) := hc 3
  have d4 : wr.cell? ⟨w.heap.size + 1, 4, none⟩ = some (.int .u32 h4) := hc 4
  have d5 : wr.cell? ⟨w.heap.size + 1, 5, none⟩ = some (.int .u32 h5) := hc 5
  have d6 : wr.cell? ⟨w.heap.size + 1, 6, none⟩ = some (.int .u32 h6) := hc 6
  have d7 : wr.cell? ⟨w.heap.size + 1, 7, none⟩ = some (.int .u32 h7) := hc 7
  clear hi hW hWl hHe hh32 hK hH hc
  conv => arg 2; whnf
  go_wp2
  go_region_held3 (fun w' => w'.cell? ⟨w.heap.size + 1, 0, none⟩ = some (.int .u32 h0) ∧ w'.cell? ⟨w.heap.size + 1, 1, none⟩ = some (.int .u32 h1) ∧ w'.cell? ⟨w.heap.size + 1, 2, none⟩ = some (.int .u32 h2) ∧ w'.cell? ⟨w.heap.size + 1, 3, none⟩ = some (.int .u32 h3) ∧
      w'.cell? ⟨w.heap.size + 1, 4, none⟩ = some (.int .u32 h4) ∧ w'.cell? ⟨w.heap.size + 1, 5, none⟩ = some (.int .u32 h5) ∧ w'.cell? ⟨w.heap.size + 1, 6, none⟩ = some (.int .u32 h6) ∧ w'.cell? ⟨w.heap.size + 1, 7, none⟩ = some (.int .u32 h7)) (go_keep) (fail)
  clear d0 d1 d2 d3 d4 d5 d6 d7
  go_wp2
  have HI4 := Lib.hid HI3.out.drew
  generalize wr.drew = wr2 at *
  clear HI3
  have hso : stOf H = ⟨h0, h1, h2, h3, h4, h5, h6, h7⟩ := by rw [HHe.out]; rfl
  have h8 := HH32.out
  rw [HHe.out] at h8
  obtain ⟨s0, hs0⟩ : ∃ s : St, s = ⟨h0, h1, h2, h3, h4, h5, h6, h7⟩ := ⟨_, rfl⟩
  have hok0 : s0.ok := by rw [hs0]; exact ⟨h8 _ (by simp), h8 _ (by simp), h8 _ (by simp), h8 _ (by simp), h8 _ (by simp), h8 _ (by simp), h8 _ (by simp), h8 _ (by simp)⟩
  rw [← hs0] at hso
  have HSo := Lib.hid hso
  have HOk0 := Lib.hid hok0
  have HS0 := Lib.hid hs0
  clear hs0 hso hok0 h8
  go_loopg [12, 13, 14, 15, 16, 17, 18, 19, 20, 21, 22, 121] 64 (fun g va vb vc vd ve vf vg vh vi vx vy vn wq => ∃ k : Nat, Hid (g + k = 64) ∧ ∃ s : St, Hid (s = rounds K W s0 k) ∧ va = .int .u32 s.a ∧ vb = .int .u32 s.b ∧ vc = .int .u32 s.c ∧ vd = .int .u32 s.d ∧ ve = .int .u32 s.e ∧ vf = .int .u32 s.f ∧ vg = .int .u32 s.g ∧ vh = .int .u32 s.h ∧ vn = .int .i64 (k : Int) ∧ Hid (PrInv w wq K H (words W)))
  case atStart => exact ⟨0, rfl, s0, rfl, by rw [HS0.out], by rw [HS0.out], by rw [HS0.out], by rw [HS0.out], by rw [HS0.out], by rw [HS0.out], by rw [HS0.out], by rw [HS0.out], rfl, HI4.out⟩
  case round =>
    obtain ⟨k, hk, s, hs, rfl, rfl, rfl, rfl, rfl, rfl, rfl, rfl, rfl, hi⟩ := hrel
    have HK := Lib.hid hk.out
    have HS := Lib.hid hs.out
    have HI := Lib.hid hi.out
    clear hk hs hi HI4
    cases gk with
    | zero =>
      have hlt : ¬ ((k : Int) < 64) := by have := HK.out; omega
      have hF : pressF K H b = addsTo H s.list 8 := by
        unfold pressF
        rw [HSo.out, ← HW.out, HS.out, show k = 64 by have := HK.out; omega]
      have HF := Lib.hid hF
      clear hF
      go_upto_if 122 with fail
      repeat (first | (exact press_t4 K H b s.list _ s w _ HHl.out rfl HF.out HI.out) | go_step)
    | succ g =>
      have hk1 : k < 64 := by have := HK.out; omega
      obtain ⟨z, hz⟩ : ∃ z : Int, (k : Int) = z := ⟨_, rfl⟩
      have HZ := Lib.hid hz
      have ck : wr.cell? ⟨w.heap.size, k, none⟩ = _ := (HI.out.1.cell k).trans (words_nth K k (by rw [HKl.out]; exact hk1))
      have cw : wr.cell? ⟨w.heap.size + 1 + 1 + 1, k, none⟩ = _ := (HI.out.2.2.2.1.cell k).trans (words_nth W k (by rw [HWl.out]; exact hk1))
      have hkz : k = z.toNat := by omega
      have hok : s.ok := by rw [HS.out]; exact rounds_ok _ _ _ HOk0.out _
      have hstep : Hid (rounds K W s0 (k + 1) = stp (K.getD k 0) (W.getD k 0) s) := by show _ = _; rw [HS.out]; rfl
      generalize K.getD k 0 = kk at *
      generalize W.getD k 0 = ww at *
      rw [hkz] at ck cw
      obtain ⟨sa, sb, sc, sd, se, sf, sg, sh⟩ := s
      obtain ⟨oa, ob, oc, od, oe, of, og, oh⟩ := hok
      simp only at oa ob oc od oe of og oh
      have T6 := Lib.hid (fun w => turn_any se 6 w oe (by omega) (by omega))
      have T11 := Lib.hid (fun w => turn_any se 11 w oe (by omega) (by omega))
      have T25 := Lib.hid (fun w => turn_any se 25 w oe (by omega) (by omega))
      have T2 := Lib.hid (fun w => turn_any sa 2 w oa (by omega) (by omega))
      have T13 := Lib.hid (fun w => turn_any sa 13 w oa (by omega) (by omega))
      have T22 := Lib.hid (fun w => turn_any sa 22 w oa (by omega) (by omega))
      have HO := Lib.hid (And.intro oa (And.intro ob (And.intro oc (And.intro od (And.intro oe (And.intro of (And.intro og oh)))))))
      have iz : 0 ≤ z := by omega
      have jz : z < 64 := by omega
      rw [hz]
      clear hz hkz oa ob oc od oe of og oh hk1
      simp only
      go_wp2
      go_region_held3 (fun w' => w'.cell? ⟨w.heap.size, z.toNat, none⟩ = some (.int .u32 kk) ∧ w'.cell? ⟨w.heap.size + 1 + 1 + 1, z.toNat, none⟩ = some (.int .u32 ww)) (go_keep)
        ((go_at_call 257; (first | refine (T6.out _).mono ?_ | refine (T11.out _).mono ?_ | refine (T25.out _).mono ?_); rintro e w' ⟨rfl, rfl⟩))
      clear ck cw
      rw [rx_int sa sb sc sd se sf sg sh kk ww HO.out.2.2.2.2.1 HO.out.2.2.2.2.2.1 HO.out.2.2.2.2.2.2.1]
      obtain ⟨X, hX⟩ : ∃ X, X = rx kk ww ⟨sa, sb, sc, sd, se, sf, sg, sh⟩ := ⟨_, rfl⟩
      rw [← hX]
      have HX := Lib.hid hX
      clear hX
      go_wp2_with ((go_at_call 257; (first | refine (T2.out _).mono ?_ | refine (T13.out _).mono ?_ | refine (T22.out _).mono ?_); rintro e w' ⟨rfl, rfl⟩))
      rw [ry_int2 sa sb sc sd se sf sg sh HO.out.1 HO.out.2.1 HO.out.2.2.1]
      obtain ⟨Y, hY⟩ : ∃ Y, Y = ry ⟨sa, sb, sc, sd, se, sf, sg, sh⟩ := ⟨_, rfl⟩
      rw [← hY]
      have HY := Lib.hid hY
      clear hY
      rw [mod_nat X Y, mod_nat sd X]
      go_roundg g
      case measure => omega
      case rel =>
        refine ⟨k + 1, by show _ = _; have := HK.out; omega, stp kk ww ⟨sa, sb, sc, sd, se, sf, sg, sh⟩, hstep.out.symm, ?_, rfl, rfl, rfl, ?_, rfl, rfl, rfl, by have := HZ.out; congr 1; omega, HI.out.drew⟩
        · show _ = Value.int .u32 (((rx kk ww ⟨sa, sb, sc, sd, se, sf, sg, sh⟩ + ry ⟨sa, sb, sc, sd, se, sf, sg, sh⟩) % 4294967296 : Nat) : Int)
          rw [← HX.out, ← HY.out]
        · show _ = Value.int .u32 (((sd + rx kk ww ⟨sa, sb, sc, sd, se, sf, sg, sh⟩) % 4294967296 : Nat) : Int)
          rw [← HX.out]
end Go.Proofs.YthnbnckmeffkmaaGreat
/- sha.press: the second loop (the schedule), and what follows it. -/
namespace Go.Proofs.YthnbnckmeffkmaaGreat
open Go.RowKit Go.Lib
set_option linter.unusedVariables false
set_option linter.unusedSimpArgs false
attribute [local go_sem ↓] Go.wp_at_zero Go.wp_at_succ

set_option maxRecDepth 100000 in
set_option maxHeartbeats 6400000 in
theorem press_t2 {u0 u1 u2 u5 u8 u9 u10 u11 u12 u13 u14 u15 u16 u17 u18 u19 u20 u21 u22 u23 u24 u25 u26 u27 u28 u29 u30 u31 u32 u33 u34 u35 u36 u37 u38 u39 u40 u41 u42 u43 u44 u45 u46 u47 u48 u49 u50 u51 u52 u53 u54 u55 u56 u57 u58 u59 u60 u61 u62 u63 u64 u65 u66 u67 u68 u69 u70 u71 u72 u73 u74 u75 u76 u77 u78 u79 u80 u81 u82 u83 u84 u85 u86 u87 u88 u89 u90 u91 u92 u93 u94 u95 u96 u97 u98 u99 u100 u101 u102 u103 u104 u105 u106 u107 u108 u109 u110 u111 u112 u113 u114 u115 u116 u117 u118 u119 u120 u121 u122 u123 u124 u125 u126 u127 u128 u129 u130 u131 u132 u133 u134 u135 u136 u137 u138 u139 u140 u141 u142 u143 u144 u145 u146 u147 u148 u149 u150 u151 u152 u153 u154 u155 u156 u157 u158 u159 u160 u161 u162 u163 u164 u165 u166 u167 u168 u169 u170 u171 u172 u173 u174 u175 u176 u177 u178 u179 u180 u181 u182 u183 u184 u185 u186 u187 u188 u189 u190 u191 u192 u193 u194 u195 u196 u197 u198 u199 u200 u201 u202 u203 u204 u205 u206 : Value} (K H b : List Nat) (ad : Addr) (w wr : World) (hK : K.length = 64) (hH : H.length = 8) (hh32 : ∀ x ∈ H, x < 4294967296) (hb : IsBlk w ad b) (hi : PrInv w wr K H (words (sched b 16) ++ List.replicate (64 - 16) (.int .u32 0))) :
    Code.wp Tryz.prog (seqDrop 3 (bodyOf Tryz.f225)) (bodyPost Tryz.prog Tryz.f225 fun e w' => e = .returned (.agg (words (pressF K H b)).toArray) ∧ Below w.heap.size w w')
      ⟨#[u0, u1, u2, .pointer (some ⟨w.heap.size, 0, none⟩), .pointer (some ⟨w.heap.size + 1, 0, none⟩), u5, .pointer (some ⟨w.heap.size + 1 + 1, 0, none⟩), .pointer (some ⟨w.heap.size + 1 + 1 + 1, 0, none⟩), u8, u9, u10, u11, u12, u13, u14, u15, u16, u17, u18, u19, u20, u21, u22, u23, u24, u25, u26, u27, u28, u29, u30, u31, u32, u33, u34, u35, u36, u37, u38, u39, u40, u41, u42, u43, u44, u45, u46, u47, u48, u49, u50, u51, u52, u53, u54, u55, u56, u57, u58, u59, u60, u61, u62, u63, u64, u65, u66, u67, u68, u69, u70, u71, u72, u73, u74, u75, u76, u77, u78, u79, u80, u81, u82, u83, u84, u85, u86, u87, u88, u89, u90, u91, u92, u93, u94, u95, u96, u97, u98, u99, u100, u101, u102, u103, u104, u105, u106, u107, u108, u109, u110, u111, u112, u113, u114, u115, u116, u117, u118, u119, u120, u121, u122, u123, u124, u125, u126, u127, u128, u129, u130, u131, u132, u133, u134, u135, u136, u137, u138, u139, u140, u141, u142, u143, u144, u145, u146, u147, u148, u149, u150, u151, u152, u153, u154, u155, u156, u157, u158, u159, u160, u161, u162, u163, u164, u165, u166, u167, u168, u169, u170, u171, u172, u173, u174, u175, u176, u177, u178, u179, u180, u181, u182, u183, u184, u185, u186, u187, u188, u189, u190, u191, u192, u193, u194, u195, u196, u197, u198, u199, u200, u201, u202, u203, u204, u205, u206], []⟩ wr := by
  have HI := Lib.hid hi
  have HBl := Lib.hid hb
  have HHl := Lib.hid hH
  have HH32 := Lib.hid hh32
  have HKl := Lib.hid hK
  clear hi hb hH hh32 hK
  conv => arg 2; whnf
  go_wp2
  go_loopg [9, 10, 11] 48 (fun g i x y wr => ∃ k : Nat, Hid (g + k = 64) ∧ Hid (16 ≤ k) ∧ i = .int .i64 (k : Int) ∧ Hid (PrInv w wr K H (words (sched b k) ++ List.replicate (64 - k) (.int .u32 0))))
  case atStart => exact ⟨16, rfl, Nat.le_refl _, rfl, HI.out⟩
  case round =>
    clear HI
    obtain ⟨k, hk, hk16, rfl, hi⟩ := hrel
    have HK := Lib.hid hk.out
    have HK16 := Lib.hid hk16.out
    have HI := Lib.hid hi.out
    clear hk hk16 hi
    cases gk with
    | zero =>
      have ek : k = 64 := by have := HK.out; omega
      have hlt : ¬ ((k : Int) < 64) := by omega
      have hi := HI.out
      rw [ek, Nat.sub_self, List.replicate_zero, List.append_nil] at hi
      have HI3 := Lib.hid hi
      clear hi ek HI
      go_upto_if 65 with fail
      repeat (first | (exact press_t3 K H b (sched b 64) w _ HKl.out HHl.out HH32.out rfl (sched_len b 64) HI3.out) | go_step)
    | succ g =>
      have hk1 : k < 64 := by have := HK.out; omega
      have hk2 := HK16.out
      obtain ⟨z, hz⟩ : ∃ z : Int, (k : Int) = z := ⟨_, rfl⟩
      have HZ := Lib.hid hz
      obtain ⟨m15, hm15⟩ : ∃ m : Int, z - 15 = m := ⟨_, rfl⟩
      obtain ⟨m2, hm2⟩ : ∃ m : Int, z - 2 = m := ⟨_, rfl⟩
      obtain ⟨m16, hm16⟩ : ∃ m : Int, z - 16 = m := ⟨_, rfl⟩
      obtain ⟨m7, hm7⟩ : ∃ m : Int, z - 7 = m := ⟨_, rfl⟩
      have c15 := HI.out.2.2.2.1.cell (k - 15)
      have c2 := HI.out.2.2.2.1.cell (k - 2)
      have c16 := HI.out.2.2.2.1.cell (k - 16)
      have c7 := HI.out.2.2.2.1.cell (k - 7)
      have ck := HI.out.2.2.2.1.cell k
      have fk := HI.out.2.2.2.1.frozen k
      rw [words_get _ _ _ (by rw [sched_len]; omega)] at c15 c2 c16 c7
      rw [words_at _ k 64 (sched_len b k) hk1] at ck
      have hbb := fun j hj => (HBl.out.2 j hj).1
      have b15 := getD_lt _ (sched_lt b hbb k) (k - 15)
      have b2 := getD_lt _ (sched_lt b hbb k) (k - 2)
      have b16 := getD_lt _ (sched_lt b hbb k) (k - 16)
      have b7 := getD_lt _ (sched_lt b hbb k) (k - 7)
      have hnx : nextW (sched b k) k = ((sched b k).getD (k - 16) 0 + sg0 ((sched b k).getD (k - 15) 0) + (sched b k).getD (k - 7) 0 + sg1 ((sched b k).getD (k - 2) 0)) % 4294967296 := by unfold nextW; rfl
      generalize (sched b k).getD (k - 15) 0 = x15 at *
      generalize (sched b k).getD (k - 2) 0 = x2 at *
      generalize (sched b k).getD (k - 16) 0 = x16 at *
      generalize (sched b k).getD (k - 7) 0 = x7 at *
      rw [show k - 15 = m15.toNat by omega] at c15
      rw [show k - 2 = m2.toNat by omega] at c2
      rw [show k - 16 = m16.toNat by omega] at c16
      rw [show k - 7 = m7.toNat by omega] at c7
      rw [show k = z.toNat by omega] at ck fk
      have HNx := Lib.hid hnx
      have HB15 := Lib.hid b15
      have HB2 := Lib.hid b2
      have HB16 := Lib.hid b16
      have HB7 := Lib.hid b7
      have T7 := Lib.hid (fun w => turn_any x15 7 w b15 (by omega) (by omega))
      have T18 := Lib.hid (fun w => turn_any x15 18 w b15 (by omega) (by omega))
      have T17 := Lib.hid (fun w => turn_any x2 17 w b2 (by omega) (by omega))
      have T19 := Lib.hid (fun w => turn_any x2 19 w b2 (by omega) (by omega))
      have v15 : IntKind.i64.wrap (z - 15) = m15 := by rw [IntKind.wrap_i64]; omega
      have v2 : IntKind.i64.wrap (z - 2) = m2 := by rw [IntKind.wrap_i64]; omega
      have v16 : IntKind.i64.wrap (z - 16) = m16 := by rw [IntKind.wrap_i64]; omega
      have v7 : IntKind.i64.wrap (z - 7) = m7 := by rw [IntKind.wrap_i64]; omega
      have i15 : 0 ≤ m15 := by omega
      have j15 : m15 < 64 := by omega
      have i2 : 0 ≤ m2 := by omega
      have j2 : m2 < 64 := by omega
      have i16 : 0 ≤ m16 := by omega
      have j16 : m16 < 64 := by omega
      have i7 : 0 ≤ m7 := by omega
      have j7 : m7 < 64 := by omega
      have iz : 0 ≤ z := by omega
      have jz : z < 64 := by omega
      have N16 := Lib.hid (show m16.toNat ≠ z.toNat by omega)
      have N7 := Lib.hid (show m7.toNat ≠ z.toNat by omega)
      rw [hz]
      clear hz hm15 hm2 hm16 hm7 hbb b15 b2 b16 b7 hnx hk1 hk2
      go_wp2
      go_region_held3 (fun w' => w'.cell? ⟨w.heap.size + 1 + 1 + 1, m15.toNat, none⟩ = some (.int .u32 x15) ∧ w'.cell? ⟨w.heap.size + 1 + 1 + 1, m2.toNat, none⟩ = some (.int .u32 x2)) (go_keep) (fail)
      clear c15 c2
      go_wp2
      go_region_held3 (fun w' => w'.cell? ⟨w.heap.size + 1 + 1 + 1, m16.toNat, none⟩ = some (.int .u32 x16) ∧ w'.cell? ⟨w.heap.size + 1 + 1 + 1, m7.toNat, none⟩ = some (.int .u32 x7))
        (first | (refine ⟨?_, ?_⟩; · exact (cell_off _ _ _ _ _ N16.out).trans (by assumption)
                  · exact (cell_off _ _ _ _ _ N7.out).trans (by assumption)) | go_keep)
        ((go_at_call 257; (first | refine (T7.out _).mono ?_ | refine (T18.out _).mono ?_ | refine (T17.out _).mono ?_ | refine (T19.out _).mono ?_); rintro e w' ⟨rfl, rfl⟩))
      rw [nx4 x16 x15 x7 x2 HB15.out HB2.out, ← HNx.out]
      go_wp2
      go_roundg g
      case measure => omega
      case rel =>
        refine ⟨k + 1, by show _ = _; have := HK.out; omega, by show _ ≤ _; have := HK16.out; omega, by have := HZ.out; congr 1; omega, ?_⟩
        show PrInv _ _ _ _ _
        rw [show z.toNat = k by have := HZ.out; omega]
        have h2 := HI.out.set k (.int .u32 (nextW (sched b k) k : Nat))
        rw [words_set _ _ 64 _ (sched_len b k) (by have := HK.out; omega)] at h2
        rw [show sched b (k + 1) = sched b k ++ [nextW (sched b k) k] by rw [sched, if_neg (by have := HK16.out; omega)]]
        exact h2.drew.drew
end Go.Proofs.YthnbnckmeffkmaaGreat
/- sha.press, whole. -/
namespace Go.Proofs.YthnbnckmeffkmaaGreat
open Go.RowKit Go.Lib
set_option linter.unusedVariables false
set_option linter.unusedSimpArgs false
attribute [local go_sem ↓] Go.wp_at_zero Go.wp_at_succ

set_option maxRecDepth 100000 in
set_option maxHeartbeats 6400000 in
theorem press_any (K H b : List Nat) (hK : K.length = 64) (hH : H.length = 8) (hh32 : ∀ x ∈ H, x < 4294967296) (ad : Addr) (c : Nat) (w : World) (hb : IsBlk w ad b) :
    Calls Tryz.prog 225 #[.agg (words K).toArray, .agg (words H).toArray, .slice (some ad) 64 c] w fun e w' => e = .returned (.agg (words (pressF K H b)).toArray) ∧ Below w.heap.size w w' := by
  have hz64 := zero64
  have hz8 := zero8
  have HBl := Lib.hid hb
  have Hne := Lib.hid (show ad.block ≠ w.heap.size + 1 + 1 + 1 by
    have h := World.block_lt_of_cell? _ _ (hb.2 0 (by omega)).2
    rw [addr_block] at h; omega)
  have HHl := Lib.hid hH
  have HH32 := Lib.hid hh32
  have HKl := Lib.hid hK
  clear hb hH hh32 hK
  go_enter Tryz.func225, Tryz.ntmps225
  go_wp2_with fail
  have h4 := four w (.cells (words K).toArray 266) (.cells (words H).toArray 268) (.cells (List.replicate 8 (.int .u32 0)).toArray 268) (.cells (List.replicate 64 (.int .u32 0)).toArray 266)
  have hinv : PrInv w _ K H (List.replicate 64 (.int .u32 0)) := h4
  clear h4
  rw [show List.replicate 8 (Value.int .u32 0) = [.int .u32 0, .int .u32 0, .int .u32 0, .int .u32 0, .int .u32 0, .int .u32 0, .int .u32 0, .int .u32 0] from rfl] at hinv
  simp only [List.reduceReplicate] at hinv
  generalize World.alloc _ (.cells _ 266) = w1 at hinv ⊢
  have HI := Lib.hid hinv
  clear hinv hz64 hz8
  go_loopg [8, 25] 16 (fun g x8 i wr => ∃ k : Nat, Hid (g + k = 16) ∧ i = .int .i64 (k : Int) ∧ Hid (PrInv w wr K H (words (sched b k) ++ List.replicate (64 - k) (.int .u32 0))))
  case atStart => exact ⟨0, rfl, rfl, HI.out⟩
  case round =>
    clear HI
    obtain ⟨k, hk, rfl, hi⟩ := hrel
    have HK := Lib.hid hk.out
    have HI := Lib.hid hi.out
    clear hk hi
    cases gk with
    | zero =>
      have ek : k = 16 := by have := HK.out; omega
      have hlt : ¬ ((k : Int) < 16) := by omega
      rw [ek] at HI
      clear ek
      go_upto_if 26 with fail
      repeat (first | (exact press_t2 K H b ad w _ HKl.out HHl.out HH32.out HBl.out HI.out) | go_step)
    | succ g =>
      have hlt : ((k : Int) < 16) := by have := HK.out; omega
      have hb := HBl.out.below HI.out.2.2.2.2
      have c0 := (hb.2 (4 * k) (by omega)).2
      have c1 := (hb.2 (4 * k + 1) (by omega)).2
      have c2 := (hb.2 (4 * k + 2) (by omega)).2
      have c3 := (hb.2 (4 * k + 3) (by omega)).2
      have l0 := (hb.2 (4 * k) (by omega)).1
      have l1 := (hb.2 (4 * k + 1) (by omega)).1
      have l2 := (hb.2 (4 * k + 2) (by omega)).1
      have l3 := (hb.2 (4 * k + 3) (by omega)).1
      have hbe : beW b k = b.getD (4 * k) 0 * 16777216 + b.getD (4 * k + 1) 0 * 65536 + b.getD (4 * k + 2) 0 * 256 + b.getD (4 * k + 3) 0 := by unfold beW; rfl
      have hcl : wr.cell? ⟨w.heap.size + 1 + 1 + 1, k, none⟩ = some (.int .u32 0) := by
        rw [HI.out.2.2.2.1.cell, words_at _ k 64 (sched_len b k) (by omega)]
      have hfr := HI.out.2.2.2.1.frozen k
      clear hb
      generalize b.getD (4 * k) 0 = b0 at *
      generalize b.getD (4 * k + 1) 0 = b1 at *
      generalize b.getD (4 * k + 2) 0 = b2 at *
      generalize b.getD (4 * k + 3) 0 = b3 at *
      obtain ⟨m0, hm0⟩ : ∃ m : Int, 4 * (k : Int) = m := ⟨_, rfl⟩
      obtain ⟨m1, hm1⟩ : ∃ m : Int, m0 + 1 = m := ⟨_, rfl⟩
      obtain ⟨m2, hm2⟩ : ∃ m : Int, m0 + 2 = m := ⟨_, rfl⟩
      obtain ⟨m3, hm3⟩ : ∃ m : Int, m0 + 3 = m := ⟨_, rfl⟩
      have i0 : 0 ≤ m0 := by omega
      have j0 : m0 < 64 := by omega
      have i1 : 0 ≤ m1 := by omega
      have j1 : m1 < 64 := by omega
      have i2 : 0 ≤ m2 := by omega
      have j2 : m2 < 64 := by omega
      have i3 : 0 ≤ m3 := by omega
      have j3 : m3 < 64 := by omega
      rw [show 4 * k = m0.toNat by omega] at c0
      rw [show 4 * k + 1 = m1.toNat by omega] at c1
      rw [show 4 * k + 2 = m2.toNat by omega] at c2
      rw [show 4 * k + 3 = m3.toNat by omega] at c3
      have i4 : (0 : Int) ≤ (k : Int) := by omega
      have j4 : (k : Int) < 64 := by omega
      obtain ⟨z, hz⟩ : ∃ z : Int, (k : Int) = z := ⟨_, rfl⟩
      have hzk : k = z.toNat := by omega
      rw [hz] at hm0 i4 j4 hlt ⊢
      have HZ := Lib.hid hz
      have HZk := Lib.hid hzk
      have v0 : IntKind.i64.wrap (4 * z) = m0 := by rw [IntKind.wrap_i64]; omega
      have v1 : IntKind.i64.wrap (m0 + 1) = m1 := by rw [IntKind.wrap_i64]; omega
      have v2 : IntKind.i64.wrap (m0 + 2) = m2 := by rw [IntKind.wrap_i64]; omega
      have v3 : IntKind.i64.wrap (m0 + 3) = m3 := by rw [IntKind.wrap_i64]; omega
      have v0' : wrap64 (4 * z) = m0 := by unfold wrap64; omega
      have v1' : wrap64 (m0 + 1) = m1 := by unfold wrap64; omega
      have v2' : wrap64 (m0 + 2) = m2 := by unfold wrap64; omega
      have v3' : wrap64 (m0 + 3) = m3 := by unfold wrap64; omega
      rw [hzk] at hcl hfr
      have HM := Lib.hid (And.intro hm0 (And.intro hm1 (And.intro hm2 hm3)))
      clear hz hzk hm0 hm1 hm2 hm3 v0' v1' v2' v3'
      have HL := Lib.hid (And.intro l0 (And.intro l1 (And.intro l2 l3)))
      have HBe := Lib.hid hbe
      clear l0 l1 l2 l3 hbe
      go_wp2
      go_region_held3 (fun w' => w'.cell? (ad.add m0.toNat) = some (.int .u8 b0) ∧ w'.cell? (ad.add m1.toNat) = some (.int .u8 b1) ∧ w'.cell? (ad.add m2.toNat) = some (.int .u8 b2) ∧ w'.cell? (ad.add m3.toNat) = some (.int .u8 b3)) (first | (refine ⟨?_, ?_, ?_, ?_⟩ <;> exact (cell_far _ _ _ _ _ (by rw [addr_block]; exact Hne.out)).trans (by assumption)) | go_keep) (fail)
      rw [or4 b0 b1 b2 b3 HL.out.1 HL.out.2.1 HL.out.2.2.1 HL.out.2.2.2, ← HBe.out]
      go_wp2
      go_roundg g
      case measure => omega
      case rel =>
        refine ⟨k + 1, by show _ = _; have := HK.out; omega, by have := HZ.out; congr 1; omega, ?_⟩
        show PrInv _ _ _ _ _
        rw [← HZk.out]
        have h2 := HI.out.set k (.int .u32 (beW b k : Nat))
        rw [words_set _ _ 64 _ (sched_len b k) (by have := HK.out; omega)] at h2
        rw [show sched b (k + 1) = sched b k ++ [beW b k] by rw [sched, if_pos (by have := HK.out; omega)]]
        exact h2.drew
end Go.Proofs.YthnbnckmeffkmaaGreat
/- The reference's two tables. -/
namespace Go.Proofs.YthnbnckmeffkmaaGreat
open Go.RowKit Go.Lib
set_option linter.unusedVariables false
set_option linter.unusedSimpArgs false

set_option maxRecDepth 100000 in
set_option maxHeartbeats 3200000 in
theorem starts_any (w : World) :
    Calls Tryz.prog 201 #[] w fun e w' => e = .returned (.agg (words hTab).toArray) ∧ Below w.heap.size w w' := by
  have hz := zero8
  have hs : (Tryz.prog.info? 268).map (·.size) = some 8 := by kernel_rfl
  have Hs := Lib.hid hs
  clear hs
  go_enter Tryz.func201, Tryz.ntmps201
  go_wp2_with fail
  refine bodyPost_ret (results_cell_row (P := Tryz.prog) rfl _ _ w.heap.size 268 (words hTab).toArray (0, 0) _ rfl (heap_alloc_last w _) Tryz.underlying268 rfl (by rw [Hs.out]; rfl)) rfl ?_
  exact ⟨rfl, (Below.refl _ _).alloc (Nat.le_refl _) _⟩

set_option maxRecDepth 100000 in
set_option maxHeartbeats 3200000 in
theorem consts_any (w : World) :
    Calls Tryz.prog 239 #[] w fun e w' => e = .returned (.agg (words kTab).toArray) ∧ Below w.heap.size w w' := by
  have hz := zero64
  have hl : (words kTab).length = 64 := rfl
  obtain ⟨M, hM⟩ : ∃ M, M = words kTab := ⟨_, rfl⟩
  have h1 := all_oneCell_toArray (words_one kTab)
  rw [← hM] at hl h1
  have hs : (Tryz.prog.info? 266).map (·.size) = some M.length := by rw [hl]; exact size64
  have hs2 : (Tryz.prog.info? 266).map (·.size) = some M.toArray.size := by rw [List.size_toArray]; exact hs
  have Hs := Lib.hid hs
  have Hs2 := Lib.hid hs2
  have H1 := Lib.hid h1
  have HL := Lib.hid hl
  have HM := Lib.hid hM
  clear hs hs2 h1 hl hM
  go_enter Tryz.func239, Tryz.ntmps239
  go_upto_region 1 with fail
  have harr := Arr.made w 266 (List.replicate 64 (.int .u32 0))
  have hbel := (Below.refl w.heap.size w).alloc (Nat.le_refl _) (.cells (List.replicate 64 (.int .u32 0)).toArray 266)
  simp only [List.reduceReplicate] at harr hbel
  generalize w.alloc _ = w1 at *
  have HArr := Lib.hid harr
  have HBel := Lib.hid hbel
  clear harr hbel hz
  go_wp2_with (refine wpList_store_mid (P := Tryz.prog) rfl 266 _ _ rfl w.heap.size 0 M.toArray rfl (by rw [HM.out]; rfl) (HArr.out.there _ (by rw [List.size_toArray, HL.out]; rfl)) Hs2.out H1.out ?_)
  have HA3 := Lib.hid (HArr.out.setAll M (by rw [HL.out]; rfl))
  refine bodyPost_ret (results_cell_row (P := Tryz.prog) rfl _ _ w.heap.size 266 _ (0, 0) _ rfl HA3.out Tryz.underlying266 rfl (by rw [List.size_toArray]; exact Hs.out)) rfl ?_
  exact ⟨by rw [HM.out], below_sets _ (Nat.le_refl _) _ _ HBel.out⟩
end Go.Proofs.YthnbnckmeffkmaaGreat
