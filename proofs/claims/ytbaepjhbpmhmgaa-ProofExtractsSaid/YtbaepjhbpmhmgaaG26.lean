/- plexusref06.HeaderBytes: behind the parents. -/
import Derived.Test.YtbaepjhbpmhmgaaG25
namespace Go.Proofs.Ytbaepjhbpmhmgaa
open Go.RowKit Go.Lib
set_option linter.unusedVariables false
set_option linter.unusedSimpArgs false
attribute [local go_sem ↓] Go.wp_at_zero Go.wp_at_succ

theorem range_flat {w : World} {g : Nat} {t : TypeId} (Q : List (List Nat)) (hQ : ∀ H ∈ Q, IsH H) (h : Arr w g t (bys Q.flatten)) (k : Nat) (hk : k < Q.length) : w.rangeAt g (k * 32) (bys (Q.getD k [])) := by
  intro i u hu
  have hi : i < 32 := by
    have := (List.getElem?_eq_some_iff.1 hu).1
    rw [bys_len, (IsH.getD hQ hk).1] at this; exact this
  rw [h.cell]
  unfold bys at hu ⊢
  rw [List.getElem?_map] at hu ⊢
  rw [flat_get Q hQ k i hk hi]; exact hu

set_option maxRecDepth 100000 in
set_option maxHeartbeats 1600000 in
theorem rhdr_t {u0 u2 u4 u5 u6 u7 u8 u9 u10 u11 u12 u13 u14 u15 u16 u17 u18 u19 u20 u21 u22 u23 u24 u25 u26 u27 u28 u29 u30 u31 u32 u33 u34 u35 u36 u37 u38 u39 u40 u41 u42 u43 u44 u45 u46 u47 u48 u49 : Value} (B g1 : Nat) (pv : Value) (h : Hdr) (L : List Nat) (v3 : Value) (w0 : World) (hk : h.ok) (hh : HdrAt w0 g1 pv h) (hg : g1 < B) (hB : B ≤ w0.heap.size) (ho : w0.ownsRow B 5 1 v3 L.length (bys L)) (hl : L.length ≤ 100000000) (Post : Ending → World → Prop) (hpo : ∀ e w', (∃ v' Z, e = .returned v' ∧ Z = L ++ (h.r ++ (h.a ++ (h.c ++ (h.m ++ le8 h.n)))) ∧ w'.ownsRow B 5 1 v' Z.length (bys Z) ∧ Below B w0 w') → Post e w') :
    Code.wp Try.prog (seqDrop 3 (bodyOf Try.f22)) (bodyPost Try.prog Try.f22 Post)
      ⟨#[u0, .pointer (some ⟨g1, 0, none⟩), u2, v3, u4, u5, u6, u7, u8, u9, u10, u11, u12, u13, u14, u15, u16, u17, u18, u19, u20, u21, u22, u23, u24, u25, u26, u27, u28, u29, u30, u31, u32, u33, u34, u35, u36, u37, u38, u39, u40, u41, u42, u43, u44, u45, u46, u47, u48, u49], []⟩ w0 := by
  have HOk := Lib.hid hk
  have HH := Lib.hid hh
  have HG := Lib.hid (And.intro hg hB)
  have HO := Lib.hid ho
  have HL := Lib.hid hl
  have HPo := Lib.hid hpo
  clear hk hh hg hB ho hl hpo
  have HSr := Lib.hid (size_hash _ HOk.out.r.1)
  have HSa := Lib.hid (size_hash _ HOk.out.a.1)
  have HSc := Lib.hid (size_hash _ HOk.out.c.1)
  have HSm := Lib.hid (size_hash _ HOk.out.m.1)
  have HBd := Lib.hid (four_build h.r h.a h.c h.m HOk.out.r.1 HOk.out.a.1 HOk.out.c.1 HOk.out.m.1 w0)
  obtain ⟨Q, hQ⟩ : ∃ Q, Q = [h.r, h.a, h.c, h.m] := ⟨_, rfl⟩
  have HQf := Lib.hid (show Q.flatten = h.r ++ (h.a ++ (h.c ++ h.m)) by rw [hQ]; simp)
  have HQh := Lib.hid (show ∀ H ∈ Q, IsH H by
    rw [hQ]
    intro H hm
    simp only [List.mem_cons, List.not_mem_nil, or_false] at hm
    rcases hm with rfl | rfl | rfl | rfl
    · exact HOk.out.r
    · exact HOk.out.a
    · exact HOk.out.c
    · exact HOk.out.m)
  have HQl := Lib.hid (show Q.length = 4 by rw [hQ]; rfl)
  clear hQ
  conv => arg 2; whnf
  go_upto_region 6 with fail
  go_step
  iterate 3 (first | go_values | go_skip | go_guarded | go_step | go_upon)
  refine wpList_load_mid (P := Try.prog) rfl 24 _ rfl g1 1 rfl _ _ HH.out.rr Try.underlying24 rfl HSr.out ?_
  iterate 3 (first | go_values | go_skip | go_guarded | go_step | go_upon)
  refine wpList_load_mid (P := Try.prog) rfl 24 _ rfl g1 33 rfl _ _ HH.out.ra Try.underlying24 rfl HSa.out ?_
  iterate 3 (first | go_values | go_skip | go_guarded | go_step | go_upon)
  refine wpList_load_mid (P := Try.prog) rfl 24 _ rfl g1 65 rfl _ _ HH.out.rc Try.underlying24 rfl HSc.out ?_
  iterate 3 (first | go_values | go_skip | go_guarded | go_step | go_upon)
  refine wpList_load_mid (P := Try.prog) rfl 24 _ rfl g1 97 rfl _ _ HH.out.rm Try.underlying24 rfl HSm.out ?_
  iterate 1 (first | go_values | go_skip | go_guarded | go_step | go_upon)
  refine wp_buildSlice_run (P := Try.prog) 86 4 _ rfl #[(0, .agg (bys h.r).toArray), (1, .agg (bys h.a).toArray), (2, .agg (bys h.c).toArray), (3, .agg (bys h.m).toArray)] (by simp [Act.eval, Act.put]) _ HBd.out ?_
  have hm := Arr.made w0 23 (bys (h.r ++ (h.a ++ (h.c ++ h.m))))
  have hb : Below w0.heap.size w0 (w0.alloc (.cells (bys (h.r ++ (h.a ++ (h.c ++ h.m)))).toArray 23)) := (Below.refl _ _).alloc (Nat.le_refl _) _
  rw [← HQf.out] at hm hb ⊢
  have HA5 := Lib.hid hm
  have HO5 := Lib.hid (own_below HO.out hb)
  have HH5 := Lib.hid (HH.out.below hb HH.out.1.lt)
  have HB5 := Lib.hid (hb.mono HG.out.2)
  clear hm hb HO HH HBd HSr HSa HSc HSm
  obtain ⟨g5, hg5⟩ : ∃ g5, w0.heap.size = g5 := ⟨_, rfl⟩
  have HG5 := Lib.hid (show B ≤ g5 by rw [← hg5]; exact HG.out.2)
  rw [hg5] at HA5 ⊢
  clear hg5
  generalize World.alloc _ _ = w5 at *
  go_wp2
  go_loopg [3, 6] 4 (fun g v3 v6 wq => ∃ k : Nat, Hid (g + k = 4) ∧ v6 = .int .i64 (k : Int) ∧ Hid (wq.ownsRow B 5 1 v3 (L ++ (Q.take k).flatten).length (bys (L ++ (Q.take k).flatten))) ∧ Hid (Arr wq g5 23 (bys Q.flatten)) ∧ Hid (HdrAt wq g1 pv h) ∧ Hid (Below B w0 wq))
  case atStart => exact ⟨0, rfl, rfl, by show World.ownsRow _ _ _ _ _ _ _; simpa using HO5.out, HA5.out, HH5.out, HB5.out⟩
  case round =>
    obtain ⟨k, hk, rfl, ho, ha, hh, hb⟩ := hrel
    have HK := Lib.hid hk.out
    have HOq := Lib.hid ho.out
    have HAq := Lib.hid ha.out
    have HHq := Lib.hid hh.out
    have HBq := Lib.hid hb.out
    clear hk ho ha hh hb HO5 HA5 HH5 HB5
    cases gk with
    | zero =>
      have hlt : ¬ ((k : Int) < 4) := by have := HK.out; omega
      obtain ⟨X, hX⟩ : ∃ X, L ++ Q.flatten = X := ⟨_, rfl⟩
      have HOx := Lib.hid (show wr.ownsRow B 5 1 u3 X.length (bys X) by
        have h := HOq.out
        rw [List.take_of_length_le (by rw [HQl.out]; have := HK.out; omega), hX] at h
        exact h)
      have HX := Lib.hid hX
      have hxl : X.length + 8 ≤ 140737488355328 := by
        rw [← hX, List.length_append, flat_len Q HQh.out, HQl.out]; have := HL.out; omega
      have HXl := Lib.hid hxl
      clear HOq hX hxl
      have hc := HHq.out.n
      go_wp2_with fail
      have HNm := Lib.hid (num8_any h.n HOk.out.n wr)
      with_reducible refine HNm.out.mono ?_
      rintro e w7 ⟨v7, rfl, ho7, hb7⟩
      dsimp only
      have HO7 := Lib.hid (own_below HOx.out hb7)
      have HY7 := Lib.hid (own_byts ho7 (fun x hx => le8_lt _ x (List.mem_of_mem_take hx)))
      have HB7 := Lib.hid (HBq.out.trans (hb7.mono (Nat.le_trans HG.out.2 HBq.out.size)))
      have HBs := Lib.hid (show B ≤ w7.heap.size from Nat.le_trans HG.out.2 HB7.out.size)
      obtain ⟨Z, hZ⟩ : ∃ Z, X ++ (le8 h.n).take 8 = Z := ⟨_, rfl⟩
      have HZ := Lib.hid hZ
      clear ho7 hb7 hc hZ HNm HOx HHq HAq HBq
      go_wp2_with (at_builtin; refine appB B rfl (.tmp 45) (.tmp 48) 34 5 rfl Try.underlying34 infoB u3 v7 X ((le8 h.n).take 8) Z HZ.out rfl rfl HO7.out HY7.out HBs.out HXl.out ?_)
      intro v8 w8 ho8 hb8 hg8
      have HO8 := Lib.hid ho8.out
      have HB8 := Lib.hid (hb8.out B w0 HB7.out (Nat.le_refl _))
      clear ho8 hb8 hg8
      go_wp2
      refine HPo.out _ _ ?_
      exact ⟨v8, Z, rfl, by rw [← HZ.out, ← HX.out, HQf.out, show (le8 h.n).take 8 = le8 h.n from rfl]; simp only [List.append_assoc], HO8.out, HB8.out⟩
    | succ g =>
      have hlt : ((k : Int) < 4) := by have := HK.out; omega
      have hkl : k < Q.length := by rw [HQl.out]; have := HK.out; omega
      have hH := IsH.getD HQh.out hkl
      obtain ⟨H, hHe⟩ : ∃ H, Q.getD k [] = H := ⟨_, rfl⟩
      have hrg := range_flat Q HQh.out HAq.out k hkl
      rw [hHe] at hH hrg
      obtain ⟨X, hX⟩ : ∃ X, L ++ (Q.take k).flatten = X := ⟨_, rfl⟩
      obtain ⟨Z, hZ⟩ : ∃ Z, L ++ (Q.take (k + 1)).flatten = Z := ⟨_, rfl⟩
      have HZ := Lib.hid (show X ++ H = Z by
        rw [← hX, ← hZ, List.take_succ_eq_append_getElem hkl, List.flatten_append, ← List.append_assoc, ← hHe]
        congr 1
        simp [List.getElem?_eq_getElem hkl])
      have HXl := Lib.hid (show X.length + H.length ≤ 140737488355328 by
        rw [← hX, List.length_append, flat_len _ (fun x hx => HQh.out x (List.mem_of_mem_take hx)), List.length_take, hH.1]; have := HL.out; have := HQl.out; omega)
      have HOx := Lib.hid (show wr.ownsRow B 5 1 u3 X.length (bys X) by rw [← hX]; exact HOq.out)
      have HYx := Lib.hid (rangeAt.byts hrg hH)
      have HBs := Lib.hid (show B ≤ wr.heap.size from Nat.le_trans HG.out.2 HBq.out.size)
      have HNe := Lib.hid (own_ne HOx.out HAq.out)
      have HZe := Lib.hid hZ
      clear hkl hH hHe hrg hX hZ HOq
      go_wp2_with (at_builtin; refine appB B rfl (.tmp 39) (.tmp 43) 34 5 rfl Try.underlying34 infoB u3 _ X H Z HZ.out rfl rfl HOx.out HYx.out HBs.out HXl.out ?_)
      intro v8 w8 ho8 hb8 hg8
      have HO8 := Lib.hid ho8.out
      have HB8 := Lib.hid (hb8.out B w0 HBq.out (Nat.le_refl _))
      have HA8 := Lib.hid (show Arr w8 g5 23 (bys Q.flatten) by
        have h9 : wr.heap[g5]? = some (.cells (bys Q.flatten).toArray 23 (0, 0)) := HAq.out
        show w8.heap[g5]? = _
        rw [hg8.out.block g5 HAq.out.lt (fun e => HNe.out e.symm)]; exact h9)
      have HH8 := Lib.hid (HHq.out.below (hb8.out B wr (Below.refl _ _) (Nat.le_refl _)) HG.out.1)
      clear ho8 hb8 hg8 HOx HYx HNe HAq HHq HBq
      go_wp2
      go_roundg g
      case measure => omega
      case rel => exact ⟨k + 1, by show _ = _; have := HK.out; omega, by go_num, by show World.ownsRow _ _ _ _ _ _ _; rw [HZe.out]; exact HO8.out, HA8.out, HH8.out, HB8.out⟩
end Go.Proofs.Ytbaepjhbpmhmgaa
/- plexusref06.HeaderBytes and ID. -/
namespace Go.Proofs.Ytbaepjhbpmhmgaa
open Go.RowKit Go.Lib
set_option linter.unusedVariables false
set_option linter.unusedSimpArgs false
attribute [local go_sem ↓] Go.wp_at_zero Go.wp_at_succ

set_option maxRecDepth 100000 in
set_option maxHeartbeats 1600000 in
theorem rheader_any (h : Hdr) (hk : h.ok) (hpl : h.P.length ≤ 100000) (pv : Value) (w : World) (hv : HsIs w pv h.P) :
    Calls Try.prog 22 #[.agg (hdC pv h).toArray] w fun e w' => ∃ v', e = .returned v' ∧ Byts w' v' (hdrF h) ∧ Below w.heap.size w w' := by
  obtain ⟨a0, c0, rfl⟩ := hv.form
  have HV := Lib.hid hv
  have HOk := Lib.hid hk
  have HPl := Lib.hid hpl
  have HFl := Lib.hid (hdrF_lt h hk hv.1)
  clear hv hk hpl
  go_enter Try.func22, Try.ntmps22
  go_upto_region 1 with fail
  have hm := Arr.made w 27 (hdC (.slice a0 h.P.length c0) h)
  have hb := (Below.refl w.heap.size w).alloc (Nat.le_refl _) (.cells (hdC (.slice a0 h.P.length c0) h).toArray 27)
  have HH1 := Lib.hid (show HdrAt _ w.heap.size (.slice a0 h.P.length c0) h from ⟨hm, HOk.out⟩)
  have HB1 := Lib.hid hb
  clear hm hb
  generalize World.alloc _ _ = w1 at *
  have hc0 := HH1.out.p
  obtain ⟨z, hz⟩ : ∃ z : Int, ((h.P.length : Nat) : Int) = z := ⟨_, rfl⟩
  have HZ := Lib.hid hz
  have hwz : IntKind.u64.wrap ((h.P.length : Nat) : Int) = ((h.P.length : Nat) : Int) := by rw [IntKind.wrap_u64]; have := HPl.out; omega
  clear hz
  obtain ⟨g1, hg1⟩ : ∃ g1, w.heap.size = g1 := ⟨_, rfl⟩
  have HG1 := Lib.hid hg1
  have HGl := Lib.hid (show g1 < w1.heap.size by rw [← hg1]; exact HH1.out.1.lt)
  rw [hg1] at HH1 hc0 ⊢
  clear hg1
  go_wp2_with fail
  clear hc0 hwz
  have HNm := Lib.hid (num2_any h.P.length (by have := HPl.out; omega) w1)
  with_reducible refine HNm.out.mono ?_
  rintro e w2 ⟨v2, rfl, ho2, hb2⟩
  dsimp only
  obtain ⟨B, hB⟩ : ∃ B, w1.heap.size = B := ⟨_, rfl⟩
  rw [hB] at ho2
  have HBe := Lib.hid hB
  have HG := Lib.hid (show g1 < B by rw [← hB]; exact HGl.out)
  obtain ⟨L0, hL0⟩ : ∃ L0, (le8 h.P.length).take 2 = L0 := ⟨_, rfl⟩
  rw [hL0] at ho2
  have HL0 := Lib.hid hL0
  have HO2 := Lib.hid ho2
  have HH2 := Lib.hid (HH1.out.below hb2 HGl.out)
  have HB2 := Lib.hid (hb2.mono (show B ≤ w1.heap.size by rw [hB]; exact Nat.le_refl _))
  clear ho2 hb2 hB hL0 HNm HH1 HGl
  go_wp2
  go_loopg [3, 4] h.P.length (fun g v3 v4 wq => ∃ k : Nat, Hid (g + k = h.P.length) ∧ v4 = .int .i64 (k : Int) ∧ Hid (wq.ownsRow B 5 1 v3 (L0 ++ (h.P.take k).flatten).length (bys (L0 ++ (h.P.take k).flatten))) ∧ Hid (HdrAt wq g1 (.slice a0 h.P.length c0) h) ∧ Hid (Below B w1 wq))
  case atStart => exact ⟨0, rfl, rfl, by show World.ownsRow _ _ _ _ _ _ _; simpa using HO2.out, HH2.out, HB2.out⟩
  case round =>
    obtain ⟨k, hk, rfl, ho, hh, hb⟩ := hrel
    have HK := Lib.hid hk.out
    have HOq := Lib.hid ho.out
    have HHq := Lib.hid hh.out
    have HBq := Lib.hid hb.out
    clear hk ho hh hb HO2 HH2 HB2
    have hpl := HPl.out
    have hc := HHq.out.p
    have HBs := Lib.hid (show B ≤ wr.heap.size by have := HBq.out.size; rw [HBe.out] at this; exact this)
    cases gk with
    | zero =>
      have hlt : ¬ ((k : Int) < ((h.P.length : Nat) : Int)) := by have := HK.out; omega
      obtain ⟨X, hX⟩ : ∃ X, L0 ++ h.P.flatten = X := ⟨_, rfl⟩
      have HOx := Lib.hid (show wr.ownsRow B 5 1 u3 X.length (bys X) by
        have h9 := HOq.out
        rw [List.take_of_length_le (by have := HK.out; omega), hX] at h9
        exact h9)
      have HXl := Lib.hid (show X.length ≤ 100000000 by rw [← hX, ← HL0.out, List.length_append, le8t, hdr_flat h HV.out.1]; omega)
      have HX := Lib.hid hX
      clear HOq hX
      have HFin := Lib.hid (show ∀ e w', (∃ v' Z, e = Ending.returned v' ∧ Z = X ++ (h.r ++ (h.a ++ (h.c ++ (h.m ++ le8 h.n)))) ∧ w'.ownsRow B 5 1 v' Z.length (bys Z) ∧ Below B wr w') → ∃ v', e = Ending.returned v' ∧ Byts w' v' (hdrF h) ∧ Below w.heap.size w w' from by
        rintro e w' ⟨v', Z, rfl, hz, ho, hb⟩
        have hZ : Z = hdrF h := by rw [hz, ← HX.out, ← HL0.out]; simp only [hdrF, List.append_assoc]
        rw [hZ] at ho
        exact ⟨v', rfl, own_byts ho HFl.out, HB1.out.trans ((HBq.out.trans hb).mono (by rw [← HBe.out]; exact HB1.out.size))⟩)
      have HBw := HBs.out
      go_upto_if 16 with fail
      repeat (first | (exact rhdr_t B g1 _ h X u3 wr HOk.out HHq.out HG.out HBw HOx.out HXl.out _ HFin.out) | go_step)
    | succ g =>
      have hkl : k < h.P.length := by have := HK.out; omega
      have hlt : ((k : Int) < ((h.P.length : Nat) : Int)) := by omega
      have hvq := HV.out.below (show Below w.heap.size w wr from HB1.out.trans (HBq.out.mono (by rw [← HBe.out]; exact HB1.out.size)))
      obtain ⟨b, off, rfl⟩ : ∃ b off, a0 = some ⟨b, off, none⟩ := by
        rcases HV.out.2 with ⟨_, h0⟩ | ⟨b, off, c, e1, _⟩
        · rw [h0] at hkl; simp at hkl
        · injection e1 with e1 _ _; exact ⟨b, off, e1⟩
      have hH := IsH.getD HV.out.1 hkl
      obtain ⟨H, hHe⟩ : ∃ H, h.P.getD k [] = H := ⟨_, rfl⟩
      have hrg := colS_at hvq hkl
      rw [hHe] at hH hrg
      obtain ⟨X, hX⟩ : ∃ X, L0 ++ (h.P.take k).flatten = X := ⟨_, rfl⟩
      obtain ⟨Z, hZ⟩ : ∃ Z, L0 ++ (h.P.take (k + 1)).flatten = Z := ⟨_, rfl⟩
      have HZe := Lib.hid hZ
      have HXZ := Lib.hid (show X ++ H = Z by
        rw [← hX, ← hZ, List.take_succ_eq_append_getElem hkl, List.flatten_append, ← List.append_assoc, ← hHe]
        congr 1
        simp [List.getElem?_eq_getElem hkl])
      have HXl := Lib.hid (show X.length + H.length ≤ 140737488355328 by
        rw [← hX, ← HL0.out, List.length_append, le8t, flat_len _ (fun x hx => HV.out.1 x (List.mem_of_mem_take hx)), List.length_take, hH.1]; omega)
      have HOx := Lib.hid (show wr.ownsRow B 5 1 u3 X.length (bys X) by rw [← hX]; exact HOq.out)
      have HYx := Lib.hid (rangeAt.byts hrg hH)
      clear hkl hvq hH hHe hrg hX hZ HOq
      go_wp2_with (at_builtin; refine appB B rfl (.tmp 19) (.tmp 24) 34 5 rfl Try.underlying34 infoB u3 _ X H Z HXZ.out rfl rfl HOx.out HYx.out HBs.out HXl.out ?_)
      intro v8 w8 ho8 hb8 hg8
      have HO8 := Lib.hid ho8.out
      have HB8 := Lib.hid (hb8.out B w1 HBq.out (Nat.le_refl _))
      have HH8 := Lib.hid (HHq.out.below (hb8.out B wr (Below.refl _ _) (Nat.le_refl _)) HG.out)
      clear ho8 hb8 hg8 HOx HYx HHq HBq hc
      go_wp2
      go_roundg g
      case measure => omega
      case rel => exact ⟨k + 1, by show _ = _; have := HK.out; omega, by go_num, by show World.ownsRow _ _ _ _ _ _ _; rw [HZe.out]; exact HO8.out, HH8.out, HB8.out⟩
end Go.Proofs.Ytbaepjhbpmhmgaa
/- plexusref06.ID. -/
namespace Go.Proofs.Ytbaepjhbpmhmgaa
open Go.RowKit Go.Lib
set_option linter.unusedVariables false
set_option linter.unusedSimpArgs false
attribute [local go_sem ↓] Go.wp_at_zero Go.wp_at_succ

set_option maxRecDepth 100000 in
set_option maxHeartbeats 1600000 in
theorem rid_any (h : Hdr) (hk : h.ok) (hP : h.P.length ≤ 255) (pv : Value) (w : World) (hv : HsIs w pv h.P) :
    Calls Try.prog 8 #[.agg (hdC pv h).toArray] w fun e w' => e = .returned (.agg (bys (idF h)).toArray) ∧ Below w.heap.size w w' := by
  have hz := zero32
  obtain ⟨a0, c0, rfl⟩ := hv.form
  have HV := Lib.hid hv
  have HOk := Lib.hid hk
  have HPl := Lib.hid hP
  have HFn := Lib.hid (hdrF_len h hk hv.1)
  have HSp := Lib.hid (size_hdr (.slice a0 h.P.length c0) h hk)
  clear hv hk hP
  go_enter Try.func8, Try.ntmps8
  go_upto_region 1 with fail
  have hpk := two w (.cells (hdC (.slice a0 h.P.length c0) h).toArray 27) (.cells (List.replicate 32 (.int .u8 0)).toArray 24)
  simp only [List.reduceReplicate] at hpk
  have HH1 := Lib.hid (show HdrAt _ w.heap.size (.slice a0 h.P.length c0) h from ⟨hpk.1, HOk.out⟩)
  have HA2 := Lib.hid (show ∃ Z : List Value, Z.length = 32 ∧ Arr _ (w.heap.size + 1) 24 Z from ⟨_, rfl, hpk.2.1⟩)
  have HB1 := Lib.hid hpk.2.2.2
  clear hpk hz
  generalize World.alloc (World.alloc _ _) _ = w1 at *
  have hc0 := HH1.out.p
  have hle : ¬ ((h.P.length : Nat) : Int) > 255 := by have := HPl.out; omega
  go_upto_region 3 with fail
  clear hc0 hle
  go_step
  refine wpList_load_mid (P := Try.prog) rfl 27 _ rfl w.heap.size 0 rfl _ _ HH1.out.1.range Try.underlying27 rfl HSp.out ?_
  have HCh := Lib.hid (rheader_any h HOk.out (by have := HPl.out; omega) (.slice a0 h.P.length c0) w1 (HV.out.below HB1.out))
  go_wp2_with fail
  with_reducible refine HCh.out.mono ?_
  rintro e w2 ⟨v2, rfl, hy2, hb2⟩
  dsimp only
  have HY2 := Lib.hid hy2
  obtain ⟨Zr, hZl, hZa⟩ := HA2.out
  have HZl := Lib.hid hZl
  have HA22 := Lib.hid (hZa.below hb2 hZa.lt)
  have HB2 := Lib.hid (HB1.out.trans (hb2.mono HB1.out.size))
  clear hy2 hb2 hZl hZa HA2 HB1 HCh
  go_wp2_with fail
  have HTg := Lib.hid (rtag_any ⟨#[98, 108, 111, 99, 107]⟩ v2 (hdrF h) w2 (by decide) (by rw [HFn.out]; have := HPl.out; omega) HY2.out)
  with_reducible refine HTg.out.mono ?_
  rintro e w4 ⟨rfl, hb4⟩
  rw [show tagF (nmB ⟨#[98, 108, 111, 99, 107]⟩) (hdrF h) = idF h from rfl]
  dsimp only
  have HAx := Lib.hid (HA22.out.below hb4 HA22.out.lt)
  have HBx := Lib.hid (HB2.out.trans (hb4.mono HB2.out.size))
  clear hb4 HTg HA22 HB2
  obtain ⟨R, hR⟩ : ∃ R, R = idF h := ⟨_, rfl⟩
  rw [← hR]
  have HRe := Lib.hid hR
  have HRh := Lib.hid (show IsH R by rw [hR]; exact tagF_h _ _)
  have HSr := Lib.hid (size_hash R HRh.out.1)
  have HSr2 := Lib.hid (show (Try.prog.info? 24).map (·.size) = some (bys R).toArray.size by rw [List.size_toArray]; exact HSr.out)
  have O1 := Lib.hid (all_oneCell_toArray (bys_one R))
  clear hR
  go_step
  refine wpList_store_mid (P := Try.prog) rfl 24 _ _ rfl (w.heap.size + 1) 0 (bys R).toArray rfl rfl (HAx.out.there _ (by rw [HZl.out]; simp [bys_len, HRh.out.1])) HSr2.out O1.out ?_
  rw [show (bys R).toArray.toList = bys R from rfl]
  have HA5 := Lib.hid (HAx.out.setAll (bys R) (by rw [HZl.out]; simp [bys_len, HRh.out.1]))
  have HB9 := Lib.hid (below_sets (w.heap.size + 1) (by omega) (bys R) 0 HBx.out)
  generalize World.setCells _ _ _ _ = w9 at *
  go_wp2
  refine bodyPost_ret (results_cell_row (P := Try.prog) rfl _ _ (w.heap.size + 1) 24 _ (0, 0) _ rfl HA5.out Try.underlying24 rfl (by rw [List.size_toArray]; exact HSr.out)) rfl ?_
  exact ⟨by rw [HRe.out], HB9.out⟩
end Go.Proofs.Ytbaepjhbpmhmgaa
/- slices.Equal of bytes. -/
namespace Go.Proofs.Ytbaepjhbpmhmgaa
open Go.RowKit Go.Lib
set_option linter.unusedVariables false
set_option linter.unusedSimpArgs false
attribute [local go_sem ↓] Go.wp_at_zero Go.wp_at_succ

set_option maxRecDepth 100000 in
set_option maxHeartbeats 1600000 in
theorem equal_any (A B : List Nat) (v1 v2 : Value) (w : World) (h1 : Byts w v1 A) (h2 : Byts w v2 B) (hl : A.length ≤ 1000000) :
    Calls Try.prog 17 #[v1, v2] w fun e w' => e = .returned (.bool (decide (A = B))) ∧ Below w.heap.size w w' := by
  obtain ⟨a1, c1, rfl⟩ := h1.form
  obtain ⟨a2, c2, rfl⟩ := h2.form
  have HA := Lib.hid h1
  have HB := Lib.hid h2
  have HL := Lib.hid hl
  clear h1 h2 hl
  by_cases hne : A.length = B.length
  · have HE := Lib.hid hne
    have HR := Lib.hid (show ∃ R : Bool, R = decide (A = B) from ⟨_, rfl⟩)
    rw [← hne]
    clear hne
    go_enter Try.func17, Try.ntmps17
    have hq0 : ((((A.length : Nat) : Int) == ((A.length : Nat) : Int))) = true := beq_self_eq_true _
    go_wp2
    clear hq0
    go_loopg [5, 13] A.length (fun g v5 v13 wq => ∃ k : Nat, Hid (g + k = A.length) ∧ v13 = .int .i64 (k : Int) ∧ Hid (∀ j, j < k → A.getD j 0 = B.getD j 0) ∧ Hid (Below w.heap.size w wq))
    case atStart => exact ⟨0, rfl, rfl, fun j hj => absurd hj (Nat.not_lt_zero j), Below.refl _ _⟩
    case round =>
      obtain ⟨k, hk, rfl, hj, hb⟩ := hrel
      have HK := Lib.hid hk.out
      have HJ := Lib.hid hj.out
      have HBq := Lib.hid hb.out
      clear hk hj hb
      have hll := HL.out
      cases gk with
      | zero =>
        have hlt : ¬ ((k : Int) < ((A.length : Nat) : Int)) := by have := HK.out; omega
        have HEq := Lib.hid (show A = B by
          apply List.ext_getElem?
          intro j
          rcases Nat.lt_or_ge j A.length with hj | hj
          · have h9 := HJ.out j (by have := HK.out; omega)
            have hjb : j < B.length := by rw [← HE.out]; exact hj
            rw [List.getElem?_eq_getElem hj, List.getElem?_eq_getElem hjb]
            simp only [List.getD, List.getElem?_eq_getElem hj, List.getElem?_eq_getElem hjb, Option.getD_some] at h9
            rw [h9]
          · rw [List.getElem?_eq_none hj, List.getElem?_eq_none (by rw [← HE.out]; exact hj)])
        go_wp2
        go_ret
        exact ⟨by rw [decide_eq_true HEq.out]; rfl, HBq.out⟩
      | succ g =>
        have hkl : k < A.length := by have := HK.out; omega
        have hkb : k < B.length := by rw [← HE.out]; exact hkl
        have hlt : ((k : Int) < ((A.length : Nat) : Int)) := by omega
        obtain ⟨d1, rfl, hc1⟩ : ∃ d1, a1 = some d1 ∧ ∀ j, j < A.length → wr.cell? (d1.add j) = some (.int .u8 (A.getD j 0 : Nat)) := by
          rcases (HA.out.below HBq.out).2 with ⟨_, h0⟩ | ⟨ad, c, e, _, _, q⟩
          · rw [h0] at hkl; simp at hkl
          · injection e with e1 _ _; exact ⟨ad, e1, q⟩
        obtain ⟨d2, rfl, hc2⟩ : ∃ d2, a2 = some d2 ∧ ∀ j, j < B.length → wr.cell? (d2.add j) = some (.int .u8 (B.getD j 0 : Nat)) := by
          rcases (HB.out.below HBq.out).2 with ⟨_, h0⟩ | ⟨ad, c, e, _, _, q⟩
          · rw [h0] at hkb; simp at hkb
          · injection e with e1 _ _; exact ⟨ad, e1, q⟩
        have hx := hc1 k hkl
        have hy := hc2 k hkb
        obtain ⟨x, hxe⟩ : ∃ x : Int, ((A.getD k 0 : Nat) : Int) = x := ⟨_, rfl⟩
        obtain ⟨y, hye⟩ : ∃ y : Int, ((B.getD k 0 : Nat) : Int) = y := ⟨_, rfl⟩
        rw [hxe] at hx
        rw [hye] at hy
        have HS0 := Lib.hid (show wr.drew.cell? (d1.add k) = some (.int .u8 x) ∧ wr.drew.cell? (d2.add k) = some (.int .u8 y) from ⟨hx, hy⟩)
        have HBd := Lib.hid HBq.out.drew
        have HX := Lib.hid hxe
        have HY := Lib.hid hye
        have HKl := Lib.hid (And.intro hkl hkb)
        clear hc1 hc2 hx hy hxe hye hkl hkb HBq
        go_upto_region 6 with fail
        refine wp_region_H (fun w' => w'.cell? (d1.add k) = some (.int .u8 x) ∧ w'.cell? (d2.add k) = some (.int .u8 y)) (by kernel_rfl) ?_
        generalize wr.drew = w9 at *
        simp only [List.size_toArray, List.length_cons, List.length_nil, Nat.reduceAdd, Array.replicate_succ, Array.replicate_zero, List.push_toArray, List.nil_append, List.cons_append]
        refine wpAnyH_take (i := 0) (oi := ⟨some 16, _, _, _, _, _⟩) (v := ?_) rfl (by kernel_rfl) (by kernel_rfl) (by kernel_rfl) (fun _ _ _ h => h) (Or.inl ⟨by rfl, ?_⟩) HS0.out ?_
        rotate_left
        · intro w hSw
          go_simp <;> with_reducible rfl
        dsimp only [Act.put]
        simp only [List.setIfInBounds_toArray, List.set_cons_zero, List.set_cons_succ]
        refine wpAnyH_take (i := 1) (oi := ⟨some 17, _, _, _, _, _⟩) (v := ?_) rfl (by kernel_rfl) (by kernel_rfl) (by kernel_rfl) (fun _ _ _ h => h) (Or.inl ⟨by rfl, ?_⟩) HS0.out ?_
        rotate_left
        · intro w hSw
          go_simp <;> with_reducible rfl
        dsimp only [Act.put]
        simp only [List.setIfInBounds_toArray, List.set_cons_zero, List.set_cons_succ]
        refine wpAnyH_take (i := 2) (oi := ⟨some 18, _, _, _, _, _⟩) (v := ?_) rfl (by kernel_rfl) (by kernel_rfl) (by kernel_rfl) (fun _ _ _ h => h) (Or.inl ⟨by rfl, ?_⟩) HS0.out ?_
        rotate_left
        · intro w hSw
          go_simp <;> with_reducible rfl
        dsimp only [Act.put]
        simp only [List.setIfInBounds_toArray, List.set_cons_zero, List.set_cons_succ]
        refine wpAnyH_take (i := 3) (oi := ⟨some 19, _, _, _, _, _⟩) (v := .int .u8 x) rfl (by kernel_rfl) (by kernel_rfl) (by kernel_rfl) (fun _ _ _ h => h) (Or.inl ⟨by rfl, ?_⟩) HS0.out ?_
        · intro w hSw
          obtain ⟨hq1, hq2⟩ := hSw
          go_simp <;> with_reducible rfl
        dsimp only [Act.put]
        simp only [List.setIfInBounds_toArray, List.set_cons_zero, List.set_cons_succ]
        refine wpAnyH_take (i := 4) (oi := ⟨some 20, _, _, _, _, _⟩) (v := ?_) rfl (by kernel_rfl) (by kernel_rfl) (by kernel_rfl) (fun _ _ _ h => h) (Or.inl ⟨by rfl, ?_⟩) HS0.out ?_
        rotate_left
        · intro w hSw
          go_simp <;> with_reducible rfl
        dsimp only [Act.put]
        simp only [List.setIfInBounds_toArray, List.set_cons_zero, List.set_cons_succ]
        refine wpAnyH_take (i := 5) (oi := ⟨some 21, _, _, _, _, _⟩) (v := ?_) rfl (by kernel_rfl) (by kernel_rfl) (by kernel_rfl) (fun _ _ _ h => h) (Or.inl ⟨by rfl, ?_⟩) HS0.out ?_
        rotate_left
        · intro w hSw
          go_simp <;> with_reducible rfl
        dsimp only [Act.put]
        simp only [List.setIfInBounds_toArray, List.set_cons_zero, List.set_cons_succ]
        refine wpAnyH_take (i := 6) (oi := ⟨some 22, _, _, _, _, _⟩) (v := ?_) rfl (by kernel_rfl) (by kernel_rfl) (by kernel_rfl) (fun _ _ _ h => h) (Or.inl ⟨by rfl, ?_⟩) HS0.out ?_
        rotate_left
        · intro w hSw
          go_simp <;> with_reducible rfl
        dsimp only [Act.put]
        simp only [List.setIfInBounds_toArray, List.set_cons_zero, List.set_cons_succ]
        refine wpAnyH_take (i := 7) (oi := ⟨some 23, _, _, _, _, _⟩) (v := .int .u8 y) rfl (by kernel_rfl) (by kernel_rfl) (by kernel_rfl) (fun _ _ _ h => h) (Or.inl ⟨by rfl, ?_⟩) HS0.out ?_
        · intro w hSw
          obtain ⟨hq1, hq2⟩ := hSw
          go_simp <;> with_reducible rfl
        dsimp only [Act.put]
        simp only [List.setIfInBounds_toArray, List.set_cons_zero, List.set_cons_succ]
        by_cases hxy : x = y
        · subst hxy
          have hq1 : (x == x) = true := beq_self_eq_true _
          refine wpAnyH_take (i := 8) (oi := ⟨some 24, _, _, _, _, _⟩) (v := .bool false) rfl (by kernel_rfl) (by kernel_rfl) (by kernel_rfl) (fun _ _ _ h => h) (Or.inl ⟨by rfl, ?_⟩) HS0.out ?_
          · intro w hSw
            go_simp <;> with_reducible rfl
          dsimp only [Act.put]
          simp only [List.setIfInBounds_toArray, List.set_cons_zero, List.set_cons_succ]
          refine wpAnyH_done (by kernel_rfl) ?_ _
          have HJ2 := Lib.hid (show ∀ j, j < k + 1 → A.getD j 0 = B.getD j 0 by
            intro j hj
            rcases Nat.lt_or_ge j k with h | h
            · exact HJ.out j h
            · obtain rfl : j = k := by omega
              have h1 := HX.out
              have h2 := HY.out
              omega)
          clear hq1
          go_wp2
          go_roundg g
          case measure => omega
          case rel => exact ⟨k + 1, by show _ = _; have := HK.out; omega, by go_num, HJ2.out, HBd.out⟩
        · have hq1 : (x == y) = false := beq_false_of_ne hxy
          have HNe := Lib.hid (show ¬ A = B from fun e => hxy (by rw [← HX.out, ← HY.out, e]))
          refine wpAnyH_take (i := 8) (oi := ⟨some 24, _, _, _, _, _⟩) (v := .bool true) rfl (by kernel_rfl) (by kernel_rfl) (by kernel_rfl) (fun _ _ _ h => h) (Or.inl ⟨by rfl, ?_⟩) HS0.out ?_
          · intro w hSw
            go_simp <;> with_reducible rfl
          dsimp only [Act.put]
          simp only [List.setIfInBounds_toArray, List.set_cons_zero, List.set_cons_succ]
          refine wpAnyH_done (by kernel_rfl) ?_ _
          clear hq1
          go_wp2
          go_ret
          exact ⟨by rw [decide_eq_false HNe.out]; rfl, HBd.out⟩
  · have hq0 : ((((A.length : Nat) : Int) == ((B.length : Nat) : Int))) = false := beq_false_of_ne (by omega)
    go_enter Try.func17, Try.ntmps17
    go_wp2
    go_ret
    exact ⟨by rw [decide_eq_false (fun e => hne (by rw [e]))]; rfl, Below.refl _ _⟩
end Go.Proofs.Ytbaepjhbpmhmgaa
/- proof.text. -/
namespace Go.Proofs.Ytbaepjhbpmhmgaa
open Go.RowKit Go.Lib
set_option linter.unusedVariables false
set_option linter.unusedSimpArgs false
attribute [local go_sem ↓] Go.wp_at_zero Go.wp_at_succ

set_option maxRecDepth 100000 in
set_option maxHeartbeats 1600000 in
theorem ptext_any (s : ByteArray) (v : Value) (Ps : List (List Nat)) (w : World) (hs : s.size ≤ 255) (hl : Ps.flatten.length ≤ 999999999000) (hv : PartsIs w v Ps) :
    Calls Try.prog 18 #[.string s, v] w fun e w' => ∃ v', e = .returned v' ∧ Byts w' v' (textF (nmB s) Ps.flatten) ∧ Low w' v' ∧ High w.heap.size v' ∧ Below w.heap.size w w' := by
  obtain ⟨a0, c0, rfl⟩ : ∃ a0 c0, v = .slice a0 Ps.length c0 := by
    rcases hv with ⟨rfl, rfl⟩ | ⟨ad, c, rfl, _⟩
    · exact ⟨_, _, rfl⟩
    · exact ⟨_, _, rfl⟩
  have hsz : (s.size : Int) ≤ 255 := by omega
  have hwr : IntKind.u8.wrap (s.size : Int) = (s.size : Int) := by rw [IntKind.wrap_u8]; omega
  have HV := Lib.hid hv
  have HLn := Lib.hid hl
  have HS := Lib.hid hs
  have HPl := Lib.hid (show Ps.length ≤ maxLen by
    rcases hv with ⟨_, h⟩ | ⟨ad, c, _, h1, h2, _⟩
    · rw [h]; unfold maxLen; simp
    · exact Nat.le_trans h1 h2)
  have H256 := Lib.hid (show ∀ j, j < Ps.length → ∀ x ∈ Ps.getD j [], x < 256 by
    intro j hj
    rcases hv with ⟨_, h⟩ | ⟨ad, c, _, _, _, h3⟩
    · rw [h] at hj; simp at hj
    · obtain ⟨u, _, hy, _⟩ := h3 j hj
      exact hy.1)
  clear hv hl hs
  go_enter Try.func18, Try.ntmps18
  have HO := Lib.hid (own_lit w 5 s.size)
  have HL := Lib.hid (show [s.size].length + s.size ≤ 140737488355328 by have := HS.out; simp; omega)
  have Hbs := Lib.hid (show w.heap.size ≤ (w.alloc (.cells #[.int .u8 (s.size : Nat)] 5)).heap.size by simp)
  obtain ⟨X1, hX1⟩ : ∃ X1, [s.size] ++ nmB s = X1 := ⟨_, rfl⟩
  have HX1 := Lib.hid hX1
  clear hX1
  go_wp2_with (at_builtin; refine appS w.heap.size rfl (.tmp 11) (.tmp 12) 34 9 5 rfl Try.underlying34 Try.underlying9 infoB _ [s.size] X1 s HX1.out rfl rfl HO.out Hbs.out HL.out ?_)
  intro v2 w2 ho2 hb2 hg2
  have hb12 : Below w.heap.size w w2 := hb2.out w.heap.size w ((Below.refl _ _).alloc (Nat.le_refl _) _) (Nat.le_refl _)
  have HB2 := Lib.hid hb12
  have HO2 := Lib.hid ho2.out
  clear hb12 ho2 hb2 hg2 HO HL Hbs hsz hwr
  go_wp2
  go_loopg [5, 7, 16] Ps.length (fun g v5 v7 vn wq => ∃ k : Nat, Hid (g + k = Ps.length) ∧ vn = .int .i64 (k : Int) ∧ Hid (wq.ownsRow w.heap.size 5 1 v5 (X1 ++ (Ps.take k).flatten).length (bys (X1 ++ (Ps.take k).flatten))) ∧ Hid (Below w.heap.size w wq))
  case atStart => exact ⟨0, rfl, rfl, by show World.ownsRow _ _ _ _ _ _ _; simpa using HO2.out, HB2.out⟩
  case round =>
    obtain ⟨k, hk, rfl, ho, hbq⟩ := hrel
    have HKk := Lib.hid hk.out
    have HO := Lib.hid ho.out
    have HB := Lib.hid hbq.out
    have hpl := HPl.out
    unfold maxLen at hpl
    clear hk ho hbq HO2 HB2
    have hx1 : X1.length = s.size + 1 := by rw [← HX1.out, List.length_append, nmB_len]; simp; omega
    cases gk with
    | zero =>
      have hlt : ¬ ((k : Int) < (Ps.length : Int)) := by have := HKk.out; omega
      have ho := HO.out
      rw [List.take_of_length_le (by have := HKk.out; omega)] at ho
      have h256 : ∀ x ∈ X1 ++ Ps.flatten, x < 256 := by
        intro x hx
        rcases List.mem_append.1 hx with h | h
        · rw [← HX1.out] at h
          rcases List.mem_append.1 h with h | h
          · simp at h; have := HS.out; omega
          · exact nmB_lt s x h
        · obtain ⟨P, hP, hx⟩ := List.mem_flatten.1 h
          obtain ⟨j, hj⟩ := List.mem_iff_getElem?.1 hP
          have hjl := (List.getElem?_eq_some_iff.1 hj).1
          exact H256.out j hjl x (by rw [show Ps.getD j [] = P by simp only [List.getD, hj, Option.getD_some]]; exact hx)
      have hby := own_byts ho h256
      rw [show X1 ++ Ps.flatten = textF (nmB s) Ps.flatten by rw [← HX1.out]; unfold textF; rw [nmB_len]; rfl] at hby
      have HBy := Lib.hid hby
      have HLw := Lib.hid (show Low wr u5 from fun a n k e => (ho.lt a.block (by rw [e]; rfl)).2)
      have HHi := Lib.hid (show High w.heap.size u5 from fun a n k e => (ho.lt a.block (by rw [e]; rfl)).1)
      clear hx1 ho h256 hby
      go_wp2
      go_ret
      exact ⟨_, rfl, HBy.out, HLw.out, HHi.out, HB.out⟩
    | succ g =>
      have hkl : k < Ps.length := by have := HKk.out; omega
      have hlt : ((k : Int) < (Ps.length : Int)) := by omega
      rcases HV.out with ⟨_, h0⟩ | ⟨ad, c, e1, q1, q2, q3⟩
      · rw [h0] at hkl; simp at hkl
      cases e1
      obtain ⟨u, hu, hy, hub⟩ := q3 k hkl
      have hcu := cellb HB.out hu
      have HY := Lib.hid (hy.below HB.out)
      have hfl : (Ps.take (k + 1)).flatten = (Ps.take k).flatten ++ Ps.getD k [] := by
        rw [List.take_succ_eq_append_getElem hkl, List.flatten_append]; simp [hkl]
      have hln : (Ps.take k).flatten.length + (Ps.getD k []).length ≤ Ps.flatten.length := by
        rw [← List.length_append, ← hfl]
        have : Ps.flatten.length = (Ps.take (k + 1)).flatten.length + (Ps.drop (k + 1)).flatten.length := by
          rw [← List.length_append, ← List.flatten_append, List.take_append_drop]
        omega
      obtain ⟨X, hX⟩ : ∃ X, X1 ++ (Ps.take k).flatten = X := ⟨_, rfl⟩
      obtain ⟨Z, hZ⟩ : ∃ Z, X1 ++ (Ps.take (k + 1)).flatten = Z := ⟨_, rfl⟩
      obtain ⟨L, hL⟩ : ∃ L, Ps.getD k [] = L := ⟨_, rfl⟩
      have HXZ := Lib.hid (show X ++ L = Z by rw [← hX, ← hZ, hfl, hL, List.append_assoc])
      have HLe := Lib.hid (show X.length + L.length ≤ 140737488355328 by
        rw [← hX, ← hL, List.length_append]; have := HLn.out; have := HS.out; omega)
      have HOx := Lib.hid (show wr.ownsRow w.heap.size 5 1 u5 X.length (bys X) by rw [← hX]; exact HO.out)
      have HYl := Lib.hid (show Byts wr u L by rw [← hL]; exact HY.out)
      have HZ := Lib.hid hZ
      clear hu hy hub hfl hln q1 q2 q3 hx1 hX hZ hL HO HY
      go_wp2_with (at_builtin; refine appB w.heap.size rfl (.tmp 20) (.tmp 21) 34 5 rfl Try.underlying34 infoB u5 u X L Z HXZ.out rfl rfl HOx.out HYl.out HB.out.size HLe.out ?_)
      intro v4 w4 ho4 hb4 hg4
      have HO4 := Lib.hid (show w4.ownsRow w.heap.size 5 1 v4 (X1 ++ (Ps.take (k + 1)).flatten).length (bys (X1 ++ (Ps.take (k + 1)).flatten)) by rw [HZ.out]; exact ho4.out)
      have HB4 := Lib.hid (hb4.out w.heap.size w HB.out (Nat.le_refl _))
      clear ho4 hb4 hg4 hcu
      go_wp2
      go_roundg g
      case measure => omega
      case rel =>
        exact ⟨k + 1, by show _ = _; have := HKk.out; omega, congrArg (Value.int .i64) (by omega), HO4.out, HB4.out⟩
end Go.Proofs.Ytbaepjhbpmhmgaa
