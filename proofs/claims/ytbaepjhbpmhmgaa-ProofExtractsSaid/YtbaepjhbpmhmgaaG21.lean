/- What merkle.Collide needs of nodes: going down. -/
import Derived.Test.YtbaepjhbpmhmgaaG20
namespace Go.Proofs.Ytbaepjhbpmhmgaa
open Go.RowKit Go.Lib
set_option linter.unusedVariables false
set_option linter.unusedSimpArgs false

theorem nd_cells {w : World} {b : Nat} {H : List Nat} {bv kv : Value} (h : Arr w b 80 (bys H ++ [bv, kv])) (hH : IsH H) : w.cell? ⟨b, 32, none⟩ = some bv ∧ w.cell? ⟨b, 33, none⟩ = some kv := by
  have hl : (bys H).length = 32 := by rw [bys_len]; exact hH.1
  refine ⟨?_, ?_⟩
  · rw [h.cell, List.getElem?_append_right (by omega), hl]; rfl
  · rw [h.cell, List.getElem?_append_right (by omega), hl]; rfl
def LvC (w : World) (b : Nat) : Prop := ∃ cs t, w.heap[b]? = some (.cells cs t (0, 0))
theorem Nd.live {C : Nat → Prop} {w : World} {b : Nat} {H B : List Nat} {bs : List Nat} (h : Nd C w b H B bs) : LvC w b := by
  obtain ⟨bv, kv, h1, _⟩ := h
  exact ⟨_, _, h1⟩
theorem PaAt.live {C : Nat → Prop} {w : World} {p : Pa} {b : Nat} {r : List Nat} (h : PaAt C w p (b :: r)) : LvC w b := by
  obtain ⟨b', r', ks, e, hn⟩ := h.nd
  cases e
  exact hn.live
/-- One step down. -/
theorem step_down {C : Nat → Prop} {w : World} {p : Pa} {t : Ta} {b o : Nat} {r : List Nat} (hp : PaAt C w p (b :: r)) (ht : TaAt (fun _ => True) w t o) (hf : Fit p t) (hb : p.b = t.b) :
    ∃ p' t' b1 r' ks kso i oN, r = b1 :: r' ∧ PaAt C w p' (b1 :: r') ∧ Nd C w b p.h p.b ks ∧ Nd (fun _ => True) w o t.h t.b kso ∧ i < ks.length ∧ ks.length ≤ 2 ∧ ks.getD i 0 = b1 ∧ (∀ j, j < i → ks.getD j 0 ≠ b1) ∧ (∀ j, j ≤ i → LvC w (ks.getD j 0)) ∧
      i < kso.length ∧ kso.length ≤ 2 ∧ kso.getD i 0 = oN ∧ TaAt (fun _ => True) w t' oN ∧ Fit p' t' ∧ p'.h = t'.h := by
  obtain ⟨p', t', hd, hf', hh⟩ := fit_down p t hf hb
  cases p with
  | leaf I => exact (by cases t <;> exact hd.elim)
  | kl q H =>
    cases t with
    | leaf I => exact hd.elim
    | top0 => exact hd.elim
    | top m t2 => exact hd.elim
    | knot l r2 =>
    obtain ⟨rfl, rfl⟩ := hd
    obtain ⟨b0, b1, r', b2, e, hn, hne, hq⟩ := hp
    cases e
    obtain ⟨bl, br, hno, hl, hr⟩ := ht
    refine ⟨_, _, b1, r', _, _, 0, bl, rfl, hq, hn, hno, by simp, by simp, rfl, fun j hj => absurd hj (by omega), fun j hj => ?_, by simp, by simp, rfl, hl, hf', hh⟩
    obtain rfl : j = 0 := by omega
    exact hq.live
  | kr H q =>
    cases t with
    | leaf I => exact hd.elim
    | top0 => exact hd.elim
    | top m t2 => exact hd.elim
    | knot l r2 =>
    obtain ⟨rfl, rfl⟩ := hd
    obtain ⟨b0, b1, r', b2, e, hn, ⟨hne, hlv⟩, hq⟩ := hp
    cases e
    obtain ⟨bl, br, hno, hl, hr⟩ := ht
    refine ⟨_, _, b1, r', _, _, 1, br, rfl, hq, hn, hno, by simp, by simp, rfl, fun j hj => ?_, fun j hj => ?_, by simp, by simp, rfl, hr, hf', hh⟩
    · obtain rfl : j = 0 := by omega
      exact hne
    · match j, hj with
      | 0, _ => exact hlv.2
      | 1, _ => exact hq.live
  | top n q =>
    cases t with
    | leaf I => exact hd.elim
    | top0 => exact hd.elim
    | knot l r2 => exact hd.elim
    | top m t2 =>
    obtain ⟨rfl, rfl⟩ := hd
    obtain ⟨b0, b1, r', e, hn, hq⟩ := hp
    cases e
    obtain ⟨bt, hno, hl⟩ := ht
    refine ⟨_, _, b1, r', _, _, 0, bt, rfl, hq, hn, hno, by simp, by simp, rfl, fun j hj => absurd hj (by omega), fun j hj => ?_, by simp, by simp, rfl, hl, hf', hh⟩
    obtain rfl : j = 0 := by omega
    exact hq.live
end Go.Proofs.Ytbaepjhbpmhmgaa
/- merkle.Collide: the way down. -/
namespace Go.Proofs.Ytbaepjhbpmhmgaa
open Go.RowKit Go.Lib
set_option linter.unusedVariables false
set_option linter.unusedSimpArgs false
attribute [local go_sem ↓] Go.wp_at_zero Go.wp_at_succ

/-- Two unlike texts of one hash. -/
def Coll (w : World) (a b : Value) : Prop := ∃ L1 L2, Byts w a L1 ∧ Byts w b L2 ∧ L1 ≠ L2 ∧ shaF L1 = shaF L2 ∧ L1.length ≤ 20000 ∧ L2.length ≤ 20000

set_option maxRecDepth 100000 in
set_option maxHeartbeats 6400000 in
theorem collide_t {u0 u1 u2 u3 u4 u5 u6 u7 u8 u11 u12 u13 u14 u15 u16 u17 u18 u19 u20 u21 u22 u23 u24 u25 u26 u27 u28 u29 u30 u31 u32 u33 u34 u35 u36 u37 u38 u39 u40 u41 u42 u43 u44 u45 u46 u47 u48 u49 u50 u51 u52 u53 u54 u55 u56 u57 u58 u59 u60 u61 u62 u63 u64 u65 u66 u67 u68 u69 u70 u71 u72 u73 u74 u75 u76 u77 u78 u79 u80 u81 u82 u83 u84 u85 u86 u87 u88 u89 u90 u91 u92 u93 u94 u95 u96 u97 : Value} (v9 : Value) (bs : List Nat) (o : Nat) (p0 : Pa) (t0 : Ta) (w wr : World) (hv : PtrsAt wr v9 bs) (hl : bs.length ≤ 1000000000) (hp : PaAt (fun _ => True) wr p0 bs) (ht : TaAt (fun _ => True) wr t0 o) (hf : Fit p0 t0) (hh : p0.h = t0.h) (hb : Below w.heap.size w wr) :
    Code.wp Try.prog (seqDrop 5 (bodyOf Try.f19)) (bodyPost Try.prog Try.f19 fun e w' => ∃ a b, e = .returned (.tuple #[a, b, .bool true]) ∧ Coll w' a b ∧ Below w.heap.size w w')
      ⟨#[u0, u1, u2, u3, u4, u5, u6, u7, u8, v9, .pointer (some ⟨o, 0, none⟩), u11, u12, u13, u14, u15, u16, u17, u18, u19, u20, u21, u22, u23, u24, u25, u26, u27, u28, u29, u30, u31, u32, u33, u34, u35, u36, u37, u38, u39, u40, u41, u42, u43, u44, u45, u46, u47, u48, u49, u50, u51, u52, u53, u54, u55, u56, u57, u58, u59, u60, u61, u62, u63, u64, u65, u66, u67, u68, u69, u70, u71, u72, u73, u74, u75, u76, u77, u78, u79, u80, u81, u82, u83, u84, u85, u86, u87, u88, u89, u90, u91, u92, u93, u94, u95, u96, u97], []⟩ wr := by
  obtain ⟨a9, c9, rfl⟩ := hv.form
  have HV := Lib.hid hv
  have HLl := Lib.hid hl
  have HP0 := Lib.hid hp
  have HT0 := Lib.hid ht
  have HF0 := Lib.hid hf
  have HH0 := Lib.hid hh
  have HB0 := Lib.hid hb
  clear hv hp ht hf hh hb hl
  conv => arg 2; whnf
  go_wp2
  go_loopg [10, 11, 12, 44] bs.length (fun g v10 v11 v12 v44 wq => ∃ (k : Nat) (p : Pa) (t : Ta) (o : Nat), Hid (g + k = bs.length) ∧ v10 = .pointer (some ⟨o, 0, none⟩) ∧ v44 = .int .i64 (k : Int) ∧ Hid (PaAt (fun _ => True) wq p (bs.drop k)) ∧ Hid (TaAt (fun _ => True) wq t o) ∧ Hid (Fit p t) ∧ Hid (p.h = t.h) ∧ Hid (PtrsAt wq (.slice a9 bs.length c9) bs) ∧ Hid (Below w.heap.size w wq))
  case atStart => exact ⟨0, p0, t0, o, rfl, rfl, rfl, by show PaAt _ _ _ _; rw [List.drop_zero]; exact HP0.out, HT0.out, HF0.out, HH0.out, HV.out, HB0.out⟩
  case round =>
    obtain ⟨k, p, t, o, hk, rfl, rfl, hp, ht, hf, hh, hv, hb⟩ := hrel
    have HK := Lib.hid hk.out
    have HP := Lib.hid hp.out
    have HT := Lib.hid ht.out
    have HF := Lib.hid hf.out
    have HH := Lib.hid hh.out
    have HV1 := Lib.hid hv.out
    have HB := Lib.hid hb.out
    clear hk hp ht hf hh hv hb HP0 HT0 HF0 HH0 HV HB0
    obtain ⟨b, r, ks0, hbr, hnx⟩ := HP.out.nd
    have hkl : k < bs.length := by
      have := congrArg List.length hbr
      rw [List.length_drop, List.length_cons] at this
      omega
    cases gk with
    | zero => have := HK.out; omega
    | succ g =>
      have hlt : (k : Int) < (bs.length : Int) := by omega
      have hll := HLl.out
      have HBr := Lib.hid hbr
      have hk0 : bs.getD k 0 = b := by
        have : (bs.drop k)[0]? = some b := by rw [hbr]; rfl
        rw [List.getElem?_drop, Nat.add_zero] at this
        simp only [List.getD, this, Option.getD_some]
      have HPb := Lib.hid (show PaAt (fun _ => True) wr p (b :: r) by rw [← hbr]; exact HP.out)
      obtain ⟨g3, off, c3, e1, q1, q2, q3⟩ : ∃ g off c, Value.slice a9 bs.length c9 = .slice (some ⟨g, off, none⟩) bs.length c ∧ bs.length ≤ c ∧ c ≤ maxLen ∧ ∀ j, j < bs.length → wr.cell? ⟨g, off + j, none⟩ = some (ptr (bs.getD j 0)) :=
        HV1.out.resolve_left (fun h => by rw [h.2] at hkl; simp at hkl)
      cases e1
      have hc := q3 k hkl
      rw [hk0] at hc
      unfold ptr at hc
      have HC := Lib.hid q3
      have HKl := Lib.hid hkl
      obtain ⟨bvx, kvx, hax, hIx, hyx, hkx, _, _, _, hlx⟩ := hnx
      obtain ⟨kso0, hno⟩ := HT.out.nd
      obtain ⟨bvo, kvo, hao, hIo, hyo, hko, _, _, _, hlo⟩ := hno
      have hcx := nd_cells hax hIx
      have hco := nd_cells hao hIo
      have HYx := Lib.hid hyx
      have HLx := Lib.hid (And.intro hlx hlo)
      have HYo := Lib.hid hyo
      have HS9 := Lib.hid (show wr.drew.cell? ⟨b, 32, none⟩ = some bvx ∧ wr.drew.cell? ⟨o, 32, none⟩ = some bvo ∧ (convert 34 9 bvx).run Try.prog wr.drew = .ok (.string (strL p.b)) wr.drew ∧ (convert 34 9 bvo).run Try.prog wr.drew = .ok (.string (strL t.b)) wr.drew from
        ⟨hcx.1, hco.1, conv_byts hyx.drew _ _ 5 Try.underlying34 Try.underlying5 Try.underlying9, conv_byts hyo.drew _ _ 5 Try.underlying34 Try.underlying5 Try.underlying9⟩)
      have HCx := Lib.hid hcx
      have HCo := Lib.hid hco
      clear hlx hlo hbr hk0 q1 q2 q3 hkl hax hIx hyx hkx hao hIo hyo hko hcx hco
      have hbq := strL_beq p.b t.b HYx.out.1 HYo.out.1
      have HS0 := HS9
      clear HS9
      go_upto_region 9 with fail
      clear hc
      refine wp_region_H (fun w' => w'.cell? ⟨b, 32, none⟩ = some bvx ∧ w'.cell? ⟨o, 32, none⟩ = some bvo ∧ (convert 34 9 bvx).run Try.prog w' = .ok (.string (strL p.b)) w' ∧ (convert 34 9 bvo).run Try.prog w' = .ok (.string (strL t.b)) w') (by kernel_rfl) ?_
      simp only [List.size_toArray, List.length_cons, List.length_nil, Nat.reduceAdd, Array.replicate_succ, Array.replicate_zero, List.push_toArray, List.nil_append, List.cons_append]
      refine wpAnyH_take (i := 0) (oi := ⟨some 49, _, _, _, _, _⟩) (v := ?_) rfl (by kernel_rfl) (by kernel_rfl) (by kernel_rfl) (fun _ _ _ h => h) (Or.inl ⟨by rfl, ?_⟩) HS0.out ?_
      rotate_left
      · intro w hSw
        go_simp <;> with_reducible rfl
      dsimp only [Act.put]
      simp only [List.setIfInBounds_toArray, List.set_cons_zero, List.set_cons_succ]
      refine wpAnyH_take (i := 1) (oi := ⟨some 50, _, _, _, _, _⟩) (v := ?_) rfl (by kernel_rfl) (by kernel_rfl) (by kernel_rfl) (fun _ _ _ h => h) (Or.inl ⟨by rfl, ?_⟩) HS0.out ?_
      rotate_left
      · intro w hSw
        go_simp <;> with_reducible rfl
      dsimp only [Act.put]
      simp only [List.setIfInBounds_toArray, List.set_cons_zero, List.set_cons_succ]
      refine wpAnyH_take (i := 2) (oi := ⟨some 51, _, _, _, _, _⟩) (v := ?_) rfl (by kernel_rfl) (by kernel_rfl) (by kernel_rfl) (fun _ _ _ h => h) (Or.inl ⟨by rfl, ?_⟩) HS0.out ?_
      rotate_left
      · intro w hSw
        go_simp <;> with_reducible rfl
      dsimp only [Act.put]
      simp only [List.setIfInBounds_toArray, List.set_cons_zero, List.set_cons_succ]
      refine wpAnyH_take (i := 3) (oi := ⟨some 52, _, _, _, _, _⟩) (v := bvx) rfl (by kernel_rfl) (by kernel_rfl) (by kernel_rfl) (fun _ _ _ h => h) (Or.inl ⟨by rfl, ?_⟩) HS0.out ?_
      · intro w hSw
        obtain ⟨hq1, hq2, hq3, hq4⟩ := hSw
        go_simp <;> with_reducible rfl
      dsimp only [Act.put]
      simp only [List.setIfInBounds_toArray, List.set_cons_zero, List.set_cons_succ]
      refine wpAnyH_take (i := 4) (oi := ⟨some 53, _, _, _, _, _⟩) (v := .string (strL p.b)) rfl (by kernel_rfl) (by kernel_rfl) (by kernel_rfl) (fun _ _ _ h => h) (Or.inl ⟨by rfl, ?_⟩) HS0.out ?_
      · intro w hSw
        obtain ⟨hq1, hq2, hq3, hq4⟩ := hSw
        go_simp <;> with_reducible rfl
      dsimp only [Act.put]
      simp only [List.setIfInBounds_toArray, List.set_cons_zero, List.set_cons_succ]
      refine wpAnyH_take (i := 5) (oi := ⟨some 54, _, _, _, _, _⟩) (v := ?_) rfl (by kernel_rfl) (by kernel_rfl) (by kernel_rfl) (fun _ _ _ h => h) (Or.inl ⟨by rfl, ?_⟩) HS0.out ?_
      rotate_left
      · intro w hSw
        go_simp <;> with_reducible rfl
      dsimp only [Act.put]
      simp only [List.setIfInBounds_toArray, List.set_cons_zero, List.set_cons_succ]
      refine wpAnyH_take (i := 6) (oi := ⟨some 55, _, _, _, _, _⟩) (v := ?_) rfl (by kernel_rfl) (by kernel_rfl) (by kernel_rfl) (fun _ _ _ h => h) (Or.inl ⟨by rfl, ?_⟩) HS0.out ?_
      rotate_left
      · intro w hSw
        go_simp <;> with_reducible rfl
      dsimp only [Act.put]
      simp only [List.setIfInBounds_toArray, List.set_cons_zero, List.set_cons_succ]
      refine wpAnyH_take (i := 7) (oi := ⟨some 56, _, _, _, _, _⟩) (v := ?_) rfl (by kernel_rfl) (by kernel_rfl) (by kernel_rfl) (fun _ _ _ h => h) (Or.inl ⟨by rfl, ?_⟩) HS0.out ?_
      rotate_left
      · intro w hSw
        go_simp <;> with_reducible rfl
      dsimp only [Act.put]
      simp only [List.setIfInBounds_toArray, List.set_cons_zero, List.set_cons_succ]
      refine wpAnyH_take (i := 8) (oi := ⟨some 57, _, _, _, _, _⟩) (v := bvo) rfl (by kernel_rfl) (by kernel_rfl) (by kernel_rfl) (fun _ _ _ h => h) (Or.inl ⟨by rfl, ?_⟩) HS0.out ?_
      · intro w hSw
        obtain ⟨hq1, hq2, hq3, hq4⟩ := hSw
        go_simp <;> with_reducible rfl
      dsimp only [Act.put]
      simp only [List.setIfInBounds_toArray, List.set_cons_zero, List.set_cons_succ]
      refine wpAnyH_take (i := 9) (oi := ⟨some 58, _, _, _, _, _⟩) (v := .string (strL t.b)) rfl (by kernel_rfl) (by kernel_rfl) (by kernel_rfl) (fun _ _ _ h => h) (Or.inl ⟨by rfl, ?_⟩) HS0.out ?_
      · intro w hSw
        obtain ⟨hq1, hq2, hq3, hq4⟩ := hSw
        go_simp <;> with_reducible rfl
      dsimp only [Act.put]
      simp only [List.setIfInBounds_toArray, List.set_cons_zero, List.set_cons_succ]
      by_cases hne : p.b = t.b
      · rw [decide_eq_true hne] at hbq
        refine wpAnyH_take (i := 10) (oi := ⟨some 59, _, _, _, _, _⟩) (v := .bool false) rfl (by kernel_rfl) (by kernel_rfl) (by kernel_rfl) (fun _ _ _ h => h) (Or.inl ⟨by rfl, ?_⟩) HS0.out ?_
        · intro w hSw
          go_simp <;> with_reducible rfl
        dsimp only [Act.put]
        simp only [List.setIfInBounds_toArray, List.set_cons_zero, List.set_cons_succ]
        refine wpAnyH_done (by kernel_rfl) ?_ _
        obtain ⟨p', t', b1, r', ks, kso, i, oN, hr1, hp1, hnx, hno, hi1, hi2, hi3, hi4, hi5, hj1, hj2, hj3, htn, hfn, hhn⟩ := step_down HPb.out HT.out HF.out hne
        obtain ⟨bvx', kvx', hax, hIx, _, hkx, _, _, _, _⟩ := hnx
        obtain ⟨bvo', kvo', hao, hIo, _, hko, _, _, _, _⟩ := hno
        have ex : kvx' = kvx := by have := (nd_cells hax hIx).2; rw [HCx.out.2] at this; exact (Option.some.inj this).symm
        have eo : kvo' = kvo := by have := (nd_cells hao hIo).2; rw [HCo.out.2] at this; exact (Option.some.inj this).symm
        rw [ex] at hkx
        rw [eo] at hko
        have hbr := HBr.out
        rw [hr1] at hbr
        have hlen := congrArg List.length hbr
        rw [List.length_drop, List.length_cons, List.length_cons] at hlen
        have hk1 : bs.getD (k + 1) 0 = b1 := by
          have : (bs.drop k)[1]? = some b1 := by rw [hbr]; rfl
          rw [List.getElem?_drop] at this
          simp only [List.getD, this, Option.getD_some]
        have hdr : bs.drop (k + 1) = b1 :: r' := by rw [← List.drop_drop, hbr]; rfl
        have hcu := HC.out (k + 1) (by omega)
        rw [hk1] at hcu
        unfold ptr at hcu
        obtain ⟨gx, ox, cx, rfl, _, _, hx3⟩ := hkx.resolve_left (fun h => by rw [h.2] at hi1; simp at hi1)
        obtain ⟨go, oo, co, rfl, _, _, ho3⟩ := hko.resolve_left (fun h => by rw [h.2] at hj1; simp at hj1)
        have hco := ho3 i hj1
        rw [hj3] at hco
        unfold ptr at hco
        have HIx := Lib.hid (And.intro (show PtrsAt wr.drew.drew (.slice (some ⟨gx, ox, none⟩) ks.length cx) ks from hkx) (And.intro hi1 (And.intro hi3 (And.intro hi4 (And.intro (show ks.length ≤ 1000000 by omega) (show ∀ j, j ≤ i → ∃ cs t, wr.drew.drew.heap[ks.getD j 0]? = some (.cells cs t (0, 0)) from hi5))))))
        have HNx := Lib.hid (show PaAt (fun _ => True) wr p' (bs.drop (k + 1)) ∧ TaAt (fun _ => True) wr t' oN ∧ Fit p' t' ∧ p'.h = t'.h from ⟨by rw [hdr]; exact hp1, htn, hfn, hhn⟩)
        have HSn := Lib.hid (show wr.drew.drew.cell? ⟨o, 33, none⟩ = some (.slice (some ⟨go, oo, none⟩) kso.length co) ∧ wr.drew.drew.cell? ⟨b, 33, none⟩ = some (.slice (some ⟨gx, ox, none⟩) ks.length cx) ∧ wr.drew.drew.cell? ⟨g3, off + (k + 1), none⟩ = some (.pointer (some ⟨b1, 0, none⟩)) ∧
          wr.drew.drew.cell? ⟨go, oo + i, none⟩ = some (.pointer (some ⟨oN, 0, none⟩)) ∧ PtrsAt wr.drew.drew (.slice (some ⟨gx, ox, none⟩) ks.length cx) ks from ⟨HCo.out.2, HCx.out.2, hcu, hco, hkx⟩)
        have HJ := Lib.hid (And.intro hj1 hj2)
        have hk2 : ((k : Int) + 1 == (bs.length : Int)) = false := beq_false_of_ne (by omega)
        have hwk : IntKind.i64.wrap ((k : Int) + 1) = (k : Int) + 1 := by rw [IntKind.wrap_i64]; omega
        have h0k : 0 ≤ (k : Int) + 1 := by omega
        have hlt2 : (k : Int) + 1 < (bs.length : Int) := by omega
        have hji : (i : Int) < (kso.length : Int) := by omega
        have htn2 : ((k : Int) + 1).toNat = k + 1 := by omega
        have hq33 : wr.drew.cell? ⟨o, 33, none⟩ = some (.slice (some ⟨go, oo, none⟩) kso.length co) := HCo.out.2
        have hks : (((kso.length : Nat) : Int) == 0) = false := beq_false_of_ne (by omega)
        clear hne hr1 hp1 hi1 hi2 hi3 hi4 hi5 hj1 hj2 hj3 htn hfn hhn hax hIx hkx hao hIo hko ex eo hbr hk1 hdr hcu hco hx3 ho3 hbq HS0 HP HT HF HH HBr HPb HC HCx HCo HYx HYo HLx
        go_upto_region 12 with fail
        have HS0 := HSn
        clear HSn hq33 hk2 hks
        refine wp_region_H (fun w' => w'.cell? ⟨o, 33, none⟩ = some (.slice (some ⟨go, oo, none⟩) kso.length co) ∧ w'.cell? ⟨b, 33, none⟩ = some (.slice (some ⟨gx, ox, none⟩) ks.length cx) ∧ w'.cell? ⟨g3, off + (k + 1), none⟩ = some (.pointer (some ⟨b1, 0, none⟩)) ∧
          w'.cell? ⟨go, oo + i, none⟩ = some (.pointer (some ⟨oN, 0, none⟩)) ∧ PtrsAt w' (.slice (some ⟨gx, ox, none⟩) ks.length cx) ks) (by kernel_rfl) ?_
        simp only [List.size_toArray, List.length_cons, List.length_nil, Nat.reduceAdd, Array.replicate_succ, Array.replicate_zero, List.push_toArray, List.nil_append, List.cons_append]
        refine wpAnyH_take (i := 0) (oi := ⟨some 81, _, _, _, _, _⟩) (v := ?_) rfl (by kernel_rfl) (by kernel_rfl) (by kernel_rfl) (fun _ _ _ h => h) (Or.inl ⟨by rfl, ?_⟩) HS0.out ?_
        rotate_left
        · intro w hSw
          go_simp <;> with_reducible rfl
        dsimp only [Act.put]
        simp only [List.setIfInBounds_toArray, List.set_cons_zero, List.set_cons_succ]
        refine wpAnyH_take (i := 1) (oi := ⟨some 82, _, _, _, _, _⟩) (v := ?_) rfl (by kernel_rfl) (by kernel_rfl) (by kernel_rfl) (fun _ _ _ h => h) (Or.inl ⟨by rfl, ?_⟩) HS0.out ?_
        rotate_left
        · intro w hSw
          go_simp <;> with_reducible rfl
        dsimp only [Act.put]
        simp only [List.setIfInBounds_toArray, List.set_cons_zero, List.set_cons_succ]
        refine wpAnyH_take (i := 2) (oi := ⟨some 83, _, _, _, _, _⟩) (v := ?_) rfl (by kernel_rfl) (by kernel_rfl) (by kernel_rfl) (fun _ _ _ h => h) (Or.inl ⟨by rfl, ?_⟩) HS0.out ?_
        rotate_left
        · intro w hSw
          go_simp <;> with_reducible rfl
        dsimp only [Act.put]
        simp only [List.setIfInBounds_toArray, List.set_cons_zero, List.set_cons_succ]
        refine wpAnyH_take (i := 3) (oi := ⟨some 84, _, _, _, _, _⟩) (v := .slice (some ⟨go, oo, none⟩) kso.length co) rfl (by kernel_rfl) (by kernel_rfl) (by kernel_rfl) (fun _ _ _ h => h) (Or.inl ⟨by rfl, ?_⟩) HS0.out ?_
        · intro w hSw
          obtain ⟨hq1, hq2, hq3, hq4, hq5⟩ := hSw
          go_simp <;> with_reducible rfl
        dsimp only [Act.put]
        simp only [List.setIfInBounds_toArray, List.set_cons_zero, List.set_cons_succ]
        refine wpAnyH_take (i := 4) (oi := ⟨some 85, _, _, _, _, _⟩) (v := ?_) rfl (by kernel_rfl) (by kernel_rfl) (by kernel_rfl) (fun _ _ _ h => h) (Or.inl ⟨by rfl, ?_⟩) HS0.out ?_
        rotate_left
        · intro w hSw
          go_simp <;> with_reducible rfl
        dsimp only [Act.put]
        simp only [List.setIfInBounds_toArray, List.set_cons_zero, List.set_cons_succ]
        refine wpAnyH_take (i := 5) (oi := ⟨some 86, _, _, _, _, _⟩) (v := ?_) rfl (by kernel_rfl) (by kernel_rfl) (by kernel_rfl) (fun _ _ _ h => h) (Or.inl ⟨by rfl, ?_⟩) HS0.out ?_
        rotate_left
        · intro w hSw
          go_simp <;> with_reducible rfl
        dsimp only [Act.put]
        simp only [List.setIfInBounds_toArray, List.set_cons_zero, List.set_cons_succ]
        refine wpAnyH_take (i := 6) (oi := ⟨some 87, _, _, _, _, _⟩) (v := ?_) rfl (by kernel_rfl) (by kernel_rfl) (by kernel_rfl) (fun _ _ _ h => h) (Or.inl ⟨by rfl, ?_⟩) HS0.out ?_
        rotate_left
        · intro w hSw
          go_simp <;> with_reducible rfl
        dsimp only [Act.put]
        simp only [List.setIfInBounds_toArray, List.set_cons_zero, List.set_cons_succ]
        refine wpAnyH_take (i := 7) (oi := ⟨some 88, _, _, _, _, _⟩) (v := .slice (some ⟨gx, ox, none⟩) ks.length cx) rfl (by kernel_rfl) (by kernel_rfl) (by kernel_rfl) (fun _ _ _ h => h) (Or.inl ⟨by rfl, ?_⟩) HS0.out ?_
        · intro w hSw
          obtain ⟨hq1, hq2, hq3, hq4, hq5⟩ := hSw
          go_simp <;> with_reducible rfl
        dsimp only [Act.put]
        simp only [List.setIfInBounds_toArray, List.set_cons_zero, List.set_cons_succ]
        refine wpAnyH_take (i := 8) (oi := ⟨some 89, _, _, _, _, _⟩) (v := ?_) rfl (by kernel_rfl) (by kernel_rfl) (by kernel_rfl) (fun _ _ _ h => h) (Or.inl ⟨by rfl, ?_⟩) HS0.out ?_
        rotate_left
        · intro w hSw
          go_simp <;> with_reducible rfl
        dsimp only [Act.put]
        simp only [List.setIfInBounds_toArray, List.set_cons_zero, List.set_cons_succ]
        refine wpAnyH_take (i := 9) (oi := ⟨some 90, _, _, _, _, _⟩) (v := ?_) rfl (by kernel_rfl) (by kernel_rfl) (by kernel_rfl) (fun _ _ _ h => h) (Or.inl ⟨by rfl, ?_⟩) HS0.out ?_
        rotate_left
        · intro w hSw
          go_simp <;> with_reducible rfl
        dsimp only [Act.put]
        simp only [List.setIfInBounds_toArray, List.set_cons_zero, List.set_cons_succ]
        refine wpAnyH_take (i := 10) (oi := ⟨some 91, _, _, _, _, _⟩) (v := ?_) rfl (by kernel_rfl) (by kernel_rfl) (by kernel_rfl) (fun _ _ _ h => h) (Or.inl ⟨by rfl, ?_⟩) HS0.out ?_
        rotate_left
        · intro w hSw
          go_simp <;> with_reducible rfl
        dsimp only [Act.put]
        simp only [List.setIfInBounds_toArray, List.set_cons_zero, List.set_cons_succ]
        refine wpAnyH_take (i := 11) (oi := ⟨some 92, _, _, _, _, _⟩) (v := ?_) rfl (by kernel_rfl) (by kernel_rfl) (by kernel_rfl) (fun _ _ _ h => h) (Or.inl ⟨by rfl, ?_⟩) HS0.out ?_
        rotate_left
        · intro w hSw
          go_simp <;> with_reducible rfl
        dsimp only [Act.put]
        simp only [List.setIfInBounds_toArray, List.set_cons_zero, List.set_cons_succ]
        refine wpAnyH_take (i := 12) (oi := ⟨some 93, _, _, _, _, _⟩) (v := .pointer (some ⟨b1, 0, none⟩)) rfl (by kernel_rfl) (by kernel_rfl) (by kernel_rfl) (fun _ _ _ h => h) (Or.inl ⟨by rfl, ?_⟩) HS0.out ?_
        · intro w hSw
          obtain ⟨hq1, hq2, hq3, hq4, hq5⟩ := hSw
          go_simp <;> with_reducible rfl
        dsimp only [Act.put]
        simp only [List.setIfInBounds_toArray, List.set_cons_zero, List.set_cons_succ]
        refine wpAnyH_one (i := 13) (oi := ⟨some 94, _, _, _, _, _⟩) (by kernel_rfl) rfl (by rfl) (fun K9 hK9 => ?_)
        have HK9 := Lib.hid hK9
        clear hK9
        go_simp
        refine (index_any _ ks b1 i _ HIx.out.1 HIx.out.2.1 HIx.out.2.2.1 HIx.out.2.2.2.1 HIx.out.2.2.2.2.1 HIx.out.2.2.2.2.2).mono ?_
        rintro e w3 ⟨rfl, rfl⟩
        dsimp only
        refine HK9.out _ _ HS0.out ?_
        clear HK9
        simp only [List.setIfInBounds_toArray, List.set_cons_zero, List.set_cons_succ]
        refine wpAnyH_take (i := 14) (oi := ⟨some 95, _, _, _, _, _⟩) (v := ?_) rfl (by kernel_rfl) (by kernel_rfl) (by kernel_rfl) (fun _ _ _ h => h) (Or.inl ⟨by rfl, ?_⟩) HS0.out ?_
        rotate_left
        · intro w hSw
          go_simp <;> with_reducible rfl
        dsimp only [Act.put]
        simp only [List.setIfInBounds_toArray, List.set_cons_zero, List.set_cons_succ]
        refine wpAnyH_take (i := 15) (oi := ⟨some 96, _, _, _, _, _⟩) (v := .pointer (some ⟨oN, 0, none⟩)) rfl (by kernel_rfl) (by kernel_rfl) (by kernel_rfl) (fun _ _ _ h => h) (Or.inl ⟨by rfl, ?_⟩) HS0.out ?_
        · intro w hSw
          obtain ⟨hq1, hq2, hq3, hq4, hq5⟩ := hSw
          go_simp <;> with_reducible rfl
        dsimp only [Act.put]
        simp only [List.setIfInBounds_toArray, List.set_cons_zero, List.set_cons_succ]
        refine wpAnyH_take (i := 16) (oi := ⟨some 10, _, _, _, _, _⟩) (v := ?_) rfl (by kernel_rfl) (by kernel_rfl) (by kernel_rfl) (fun _ _ _ h => h) (Or.inl ⟨by rfl, ?_⟩) HS0.out ?_
        rotate_left
        · intro w hSw
          go_simp <;> with_reducible rfl
        dsimp only [Act.put]
        simp only [List.setIfInBounds_toArray, List.set_cons_zero, List.set_cons_succ]
        refine wpAnyH_done (by kernel_rfl) ?_ _
        have HBn := Lib.hid (show Below w.heap.size w wr.drew.drew from HB.out.drew.drew)
        have HVn := Lib.hid (show PtrsAt wr.drew.drew (.slice (some ⟨g3, off, none⟩) bs.length c9) bs from HV1.out)
        have hnx := HNx.out
        have HPn := Lib.hid (show PaAt (fun _ => True) wr.drew.drew p' (bs.drop (k + 1)) from hnx.1.below (Below.refl _ wr).drew.drew)
        have HTn := Lib.hid (show TaAt (fun _ => True) wr.drew.drew t' oN from hnx.2.1.below (Below.refl _ wr).drew.drew)
        have HFn := Lib.hid hnx.2.2
        clear hnx HNx HV1 HB HS0 HIx HJ hlt2 hji htn2 hwk
        generalize wr.drew.drew = w9 at *
        go_wp2
        go_roundg g
        case measure => omega
        case rel => exact ⟨k + 1, p', t', oN, by show _ = _; have := HK.out; omega, rfl, congrArg (Value.int .i64) (by omega), HPn.out, HTn.out, HFn.out.1, HFn.out.2, HVn.out, HBn.out⟩
      · rw [decide_eq_false hne] at hbq
        refine wpAnyH_take (i := 10) (oi := ⟨some 59, _, _, _, _, _⟩) (v := .bool true) rfl (by kernel_rfl) (by kernel_rfl) (by kernel_rfl) (fun _ _ _ h => h) (Or.inl ⟨by rfl, ?_⟩) HS0.out ?_
        · intro w hSw
          go_simp <;> with_reducible rfl
        dsimp only [Act.put]
        simp only [List.setIfInBounds_toArray, List.set_cons_zero, List.set_cons_succ]
        refine wpAnyH_done (by kernel_rfl) ?_ _
        have HS9 := Lib.hid (show wr.drew.drew.cell? ⟨b, 32, none⟩ = some bvx ∧ wr.drew.drew.cell? ⟨o, 32, none⟩ = some bvo from ⟨HS0.out.1, HS0.out.2.1⟩)
        clear HS0
        have HS0 := HS9
        clear HS9
        go_upto_region 10 with fail
        refine wp_region_H (fun w' => w'.cell? ⟨b, 32, none⟩ = some bvx ∧ w'.cell? ⟨o, 32, none⟩ = some bvo) (by kernel_rfl) ?_
        simp only [List.size_toArray, List.length_cons, List.length_nil, Nat.reduceAdd, Array.replicate_succ, Array.replicate_zero, List.push_toArray, List.nil_append, List.cons_append]
        refine wpAnyH_take (i := 0) (oi := ⟨some 60, _, _, _, _, _⟩) (v := ?_) rfl (by kernel_rfl) (by kernel_rfl) (by kernel_rfl) (fun _ _ _ h => h) (Or.inl ⟨by rfl, ?_⟩) HS0.out ?_
        rotate_left
        · intro w hSw
          go_simp <;> with_reducible rfl
        dsimp only [Act.put]
        simp only [List.setIfInBounds_toArray, List.set_cons_zero, List.set_cons_succ]
        refine wpAnyH_take (i := 1) (oi := ⟨some 61, _, _, _, _, _⟩) (v := ?_) rfl (by kernel_rfl) (by kernel_rfl) (by kernel_rfl) (fun _ _ _ h => h) (Or.inl ⟨by rfl, ?_⟩) HS0.out ?_
        rotate_left
        · intro w hSw
          go_simp <;> with_reducible rfl
        dsimp only [Act.put]
        simp only [List.setIfInBounds_toArray, List.set_cons_zero, List.set_cons_succ]
        refine wpAnyH_take (i := 2) (oi := ⟨some 62, _, _, _, _, _⟩) (v := ?_) rfl (by kernel_rfl) (by kernel_rfl) (by kernel_rfl) (fun _ _ _ h => h) (Or.inl ⟨by rfl, ?_⟩) HS0.out ?_
        rotate_left
        · intro w hSw
          go_simp <;> with_reducible rfl
        dsimp only [Act.put]
        simp only [List.setIfInBounds_toArray, List.set_cons_zero, List.set_cons_succ]
        refine wpAnyH_take (i := 3) (oi := ⟨some 63, _, _, _, _, _⟩) (v := bvx) rfl (by kernel_rfl) (by kernel_rfl) (by kernel_rfl) (fun _ _ _ h => h) (Or.inl ⟨by rfl, ?_⟩) HS0.out ?_
        · intro w hSw
          obtain ⟨hq1, hq2⟩ := hSw
          go_simp <;> with_reducible rfl
        dsimp only [Act.put]
        simp only [List.setIfInBounds_toArray, List.set_cons_zero, List.set_cons_succ]
        refine wpAnyH_take (i := 4) (oi := ⟨some 64, _, _, _, _, _⟩) (v := ?_) rfl (by kernel_rfl) (by kernel_rfl) (by kernel_rfl) (fun _ _ _ h => h) (Or.inl ⟨by rfl, ?_⟩) HS0.out ?_
        rotate_left
        · intro w hSw
          go_simp <;> with_reducible rfl
        dsimp only [Act.put]
        simp only [List.setIfInBounds_toArray, List.set_cons_zero, List.set_cons_succ]
        refine wpAnyH_take (i := 5) (oi := ⟨some 65, _, _, _, _, _⟩) (v := ?_) rfl (by kernel_rfl) (by kernel_rfl) (by kernel_rfl) (fun _ _ _ h => h) (Or.inl ⟨by rfl, ?_⟩) HS0.out ?_
        rotate_left
        · intro w hSw
          go_simp <;> with_reducible rfl
        dsimp only [Act.put]
        simp only [List.setIfInBounds_toArray, List.set_cons_zero, List.set_cons_succ]
        refine wpAnyH_take (i := 6) (oi := ⟨some 66, _, _, _, _, _⟩) (v := ?_) rfl (by kernel_rfl) (by kernel_rfl) (by kernel_rfl) (fun _ _ _ h => h) (Or.inl ⟨by rfl, ?_⟩) HS0.out ?_
        rotate_left
        · intro w hSw
          go_simp <;> with_reducible rfl
        dsimp only [Act.put]
        simp only [List.setIfInBounds_toArray, List.set_cons_zero, List.set_cons_succ]
        refine wpAnyH_take (i := 7) (oi := ⟨some 67, _, _, _, _, _⟩) (v := bvo) rfl (by kernel_rfl) (by kernel_rfl) (by kernel_rfl) (fun _ _ _ h => h) (Or.inl ⟨by rfl, ?_⟩) HS0.out ?_
        · intro w hSw
          obtain ⟨hq1, hq2⟩ := hSw
          go_simp <;> with_reducible rfl
        dsimp only [Act.put]
        simp only [List.setIfInBounds_toArray, List.set_cons_zero, List.set_cons_succ]
        refine wpAnyH_take (i := 8) (oi := ⟨some 6, _, _, _, _, _⟩) (v := ?_) rfl (by kernel_rfl) (by kernel_rfl) (by kernel_rfl) (fun _ _ _ h => h) (Or.inl ⟨by rfl, ?_⟩) HS0.out ?_
        rotate_left
        · intro w hSw
          go_simp <;> with_reducible rfl
        dsimp only [Act.put]
        simp only [List.setIfInBounds_toArray, List.set_cons_zero, List.set_cons_succ]
        refine wpAnyH_take (i := 9) (oi := ⟨some 7, _, _, _, _, _⟩) (v := ?_) rfl (by kernel_rfl) (by kernel_rfl) (by kernel_rfl) (fun _ _ _ h => h) (Or.inl ⟨by rfl, ?_⟩) HS0.out ?_
        rotate_left
        · intro w hSw
          go_simp <;> with_reducible rfl
        dsimp only [Act.put]
        simp only [List.setIfInBounds_toArray, List.set_cons_zero, List.set_cons_succ]
        refine wpAnyH_take (i := 10) (oi := ⟨some 8, _, _, _, _, _⟩) (v := ?_) rfl (by kernel_rfl) (by kernel_rfl) (by kernel_rfl) (fun _ _ _ h => h) (Or.inl ⟨by rfl, ?_⟩) HS0.out ?_
        rotate_left
        · intro w hSw
          go_simp <;> with_reducible rfl
        dsimp only [Act.put]
        simp only [List.setIfInBounds_toArray, List.set_cons_zero, List.set_cons_succ]
        refine wpAnyH_done (by kernel_rfl) ?_ _
        have HB9 := Lib.hid (show Below w.heap.size w wr.drew.drew from HB.out.drew.drew)
        have HYx9 := Lib.hid (show Byts wr.drew.drew bvx p.b from HYx.out)
        have HYo9 := Lib.hid (show Byts wr.drew.drew bvo t.b from HYo.out)
        generalize wr.drew.drew = w9 at *
        clear hbq HS0
        go_wp2
        refine bodyPost_ret (results_tmp3 rfl _ _ _) rfl ?_
        exact ⟨bvx, bvo, rfl, ⟨p.b, t.b, HYx9.out, HYo9.out, hne, by rw [p.sha, t.sha]; exact HH.out, by have := HLx.out; omega, by have := HLx.out; omega⟩, HB9.out⟩
end Go.Proofs.Ytbaepjhbpmhmgaa
