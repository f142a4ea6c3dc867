/- plexusref06.HeaderBytes: behind the parents. -/
import Derived.Test.YtndhmpeabfmfgaaGreatDoorG18
namespace Go.Proofs.YtndhmpeabfmfgaaGreatDoor
open Go.RowKit Go.Lib
set_option linter.unusedVariables false
set_option linter.unusedSimpArgs false
attribute [local go_sem ↓] Go.wp_at_zero Go.wp_at_succ

theorem range_flat {w : World} {g : Nat} {t : TypeId} (Q : List (List Nat)) (hQ : ∀ H ∈ Q, IsH H) (h : Arr w g t (bys Q.flatten)) (k : Nat) (hk : k < Q.length) : w.rangeAt g (k * 32) (bys (Q.getD k [])) := by
  intro i u hu
  have hi : i < 32 := by
    have := (List.getElem?_eq_some_iff.1 hu).1
    rw [bys_len, (IsH.getD hQ hk).1] at this; exact this
  rw [h.cell]
  unfold bys at hu ⊢
  rw [List.getElem?_map] at hu ⊢
  rw [flat_get Q hQ k i hk hi]; exact hu

set_option maxRecDepth 100000 in
set_option maxHeartbeats 1600000 in
theorem rhdr_t {u0 u2 u4 u5 u6 u7 u8 u9 u10 u11 u12 u13 u14 u15 u16 u17 u18 u19 u20 u21 u22 u23 u24 u25 u26 u27 u28 u29 u30 u31 u32 u33 u34 u35 u36 u37 u38 u39 u40 u41 u42 u43 u44 u45 u46 u47 u48 u49 : Value} (B g1 : Nat) (pv : Value) (h : Hdr) (L : List Nat) (v3 : Value) (w0 : World) (hk : h.ok) (hh : HdrAt w0 g1 pv h) (hg : g1 < B) (hB : B ≤ w0.heap.size) (ho : w0.ownsRow B 5 1 v3 L.length (bys L)) (hl : L.length ≤ 100000000) (Post : Ending → World → Prop) (hpo : ∀ e w', (∃ v' Z, e = .returned v' ∧ Z = L ++ (h.r ++ (h.a ++ (h.c ++ (h.m ++ le8 h.n)))) ∧ w'.ownsRow B 5 1 v' Z.length (bys Z) ∧ Below B w0 w') → Post e w') :
    Code.wp Tryz.prog (seqDrop 3 (bodyOf Tryz.f45)) (bodyPost Tryz.prog Tryz.f45 Post)
      ⟨#[u0, .pointer (some ⟨g1, 0, none⟩), u2, v3, u4, u5, u6, u7, u8, u9, u10, u11, u12, u13, u14, u15, u16, u17, u18, u19, u20, u21, u22, u23, u24, u25, u26, u27, u28, u29, u30, u31, u32, u33, u34, u35, u36, u37, u38, u39, u40, u41, u42, u43, u44, u45, u46, u47, u48, u49], []⟩ w0 := by
  have HOk := Lib.hid hk
  have HH := Lib.hid hh
  have HG := Lib.hid (And.intro hg hB)
  have HO := Lib.hid ho
  have HL := Lib.hid hl
  have HPo := Lib.hid hpo
  clear hk hh hg hB ho hl hpo
  have HSr := Lib.hid (size_hash _ HOk.out.r.1)
  have HSa := Lib.hid (size_hash _ HOk.out.a.1)
  have HSc := Lib.hid (size_hash _ HOk.out.c.1)
  have HSm := Lib.hid (size_hash _ HOk.out.m.1)
  have HBd := Lib.hid (four_build h.r h.a h.c h.m HOk.out.r.1 HOk.out.a.1 HOk.out.c.1 HOk.out.m.1 w0)
  obtain ⟨Q, hQ⟩ : ∃ Q, Q = [h.r, h.a, h.c, h.m] := ⟨_, rfl⟩
  have HQf := Lib.hid (show Q.flatten = h.r ++ (h.a ++ (h.c ++ h.m)) by rw [hQ]; simp)
  have HQh := Lib.hid (show ∀ H ∈ Q, IsH H by
    rw [hQ]
    intro H hm
    simp only [List.mem_cons, List.not_mem_nil, or_false] at hm
    rcases hm with rfl | rfl | rfl | rfl
    · exact HOk.out.r
    · exact HOk.out.a
    · exact HOk.out.c
    · exact HOk.out.m)
  have HQl := Lib.hid (show Q.length = 4 by rw [hQ]; rfl)
  clear hQ
  conv => arg 2; whnf
  go_upto_region 6 with fail
  go_step
  iterate 3 (first | go_values | go_skip | go_guarded | go_step | go_upon)
  refine wpList_load_mid (P := Tryz.prog) rfl 23 _ rfl g1 1 rfl _ _ HH.out.rr Tryz.underlying23 rfl HSr.out ?_
  iterate 3 (first | go_values | go_skip | go_guarded | go_step | go_upon)
  refine wpList_load_mid (P := Tryz.prog) rfl 23 _ rfl g1 33 rfl _ _ HH.out.ra Tryz.underlying23 rfl HSa.out ?_
  iterate 3 (first | go_values | go_skip | go_guarded | go_step | go_upon)
  refine wpList_load_mid (P := Tryz.prog) rfl 23 _ rfl g1 65 rfl _ _ HH.out.rc Tryz.underlying23 rfl HSc.out ?_
  iterate 3 (first | go_values | go_skip | go_guarded | go_step | go_upon)
  refine wpList_load_mid (P := Tryz.prog) rfl 23 _ rfl g1 97 rfl _ _ HH.out.rm Tryz.underlying23 rfl HSm.out ?_
  iterate 1 (first | go_values | go_skip | go_guarded | go_step | go_upon)
  refine wp_buildSlice_run (P := Tryz.prog) 149 4 _ rfl #[(0, .agg (bys h.r).toArray), (1, .agg (bys h.a).toArray), (2, .agg (bys h.c).toArray), (3, .agg (bys h.m).toArray)] (by simp [Act.eval, Act.put]) _ HBd.out ?_
  have hm := Arr.made w0 22 (bys (h.r ++ (h.a ++ (h.c ++ h.m))))
  have hb : Below w0.heap.size w0 (w0.alloc (.cells (bys (h.r ++ (h.a ++ (h.c ++ h.m)))).toArray 22)) := (Below.refl _ _).alloc (Nat.le_refl _) _
  rw [← HQf.out] at hm hb ⊢
  have HA5 := Lib.hid hm
  have HO5 := Lib.hid (own_below HO.out hb)
  have HH5 := Lib.hid (HH.out.below hb HH.out.1.lt)
  have HB5 := Lib.hid (hb.mono HG.out.2)
  clear hm hb HO HH HBd HSr HSa HSc HSm
  obtain ⟨g5, hg5⟩ : ∃ g5, w0.heap.size = g5 := ⟨_, rfl⟩
  have HG5 := Lib.hid (show B ≤ g5 by rw [← hg5]; exact HG.out.2)
  rw [hg5] at HA5 ⊢
  clear hg5
  generalize World.alloc _ _ = w5 at *
  go_wp2
  go_loopg [3, 6] 4 (fun g v3 v6 wq => ∃ k : Nat, Hid (g + k = 4) ∧ v6 = .int .i64 (k : Int) ∧ Hid (wq.ownsRow B 5 1 v3 (L ++ (Q.take k).flatten).length (bys (L ++ (Q.take k).flatten))) ∧ Hid (Arr wq g5 22 (bys Q.flatten)) ∧ Hid (HdrAt wq g1 pv h) ∧ Hid (Below B w0 wq))
  case atStart => exact ⟨0, rfl, rfl, by show World.ownsRow _ _ _ _ _ _ _; simpa using HO5.out, HA5.out, HH5.out, HB5.out⟩
  case round =>
    obtain ⟨k, hk, rfl, ho, ha, hh, hb⟩ := hrel
    have HK := Lib.hid hk.out
    have HOq := Lib.hid ho.out
    have HAq := Lib.hid ha.out
    have HHq := Lib.hid hh.out
    have HBq := Lib.hid hb.out
    clear hk ho ha hh hb HO5 HA5 HH5 HB5
    cases gk with
    | zero =>
      have hlt : ¬ ((k : Int) < 4) := by have := HK.out; omega
      obtain ⟨X, hX⟩ : ∃ X, L ++ Q.flatten = X := ⟨_, rfl⟩
      have HOx := Lib.hid (show wr.ownsRow B 5 1 u3 X.length (bys X) by
        have h := HOq.out
        rw [List.take_of_length_le (by rw [HQl.out]; have := HK.out; omega), hX] at h
        exact h)
      have HX := Lib.hid hX
      have hxl : X.length + 8 ≤ 140737488355328 := by
        rw [← hX, List.length_append, flat_len Q HQh.out, HQl.out]; have := HL.out; omega
      have HXl := Lib.hid hxl
      clear HOq hX hxl
      have hc := HHq.out.n
      go_wp2_with fail
      have HNm := Lib.hid (num8_any h.n HOk.out.n wr)
      with_reducible refine HNm.out.mono ?_
      rintro e w7 ⟨v7, rfl, ho7, hb7⟩
      dsimp only
      have HO7 := Lib.hid (own_below HOx.out hb7)
      have HY7 := Lib.hid (own_byts ho7 (fun x hx => le8_lt _ x (List.mem_of_mem_take hx)))
      have HB7 := Lib.hid (HBq.out.trans (hb7.mono (Nat.le_trans HG.out.2 HBq.out.size)))
      have HBs := Lib.hid (show B ≤ w7.heap.size from Nat.le_trans HG.out.2 HB7.out.size)
      obtain ⟨Z, hZ⟩ : ∃ Z, X ++ (le8 h.n).take 8 = Z := ⟨_, rfl⟩
      have HZ := Lib.hid hZ
      clear ho7 hb7 hc hZ HNm HOx HHq HAq HBq
      go_wp2_with (at_builtin; refine appB B rfl (.tmp 45) (.tmp 48) 44 5 rfl Tryz.underlying44 infoB u3 v7 X ((le8 h.n).take 8) Z HZ.out rfl rfl HO7.out HY7.out HBs.out HXl.out ?_)
      intro v8 w8 ho8 hb8 hg8
      have HO8 := Lib.hid ho8.out
      have HB8 := Lib.hid (hb8.out B w0 HB7.out (Nat.le_refl _))
      clear ho8 hb8 hg8
      go_wp2
      refine HPo.out _ _ ?_
      exact ⟨v8, Z, rfl, by rw [← HZ.out, ← HX.out, HQf.out, show (le8 h.n).take 8 = le8 h.n from rfl]; simp only [List.append_assoc], HO8.out, HB8.out⟩
    | succ g =>
      have hlt : ((k : Int) < 4) := by have := HK.out; omega
      have hkl : k < Q.length := by rw [HQl.out]; have := HK.out; omega
      have hH := IsH.getD HQh.out hkl
      obtain ⟨H, hHe⟩ : ∃ H, Q.getD k [] = H := ⟨_, rfl⟩
      have hrg := range_flat Q HQh.out HAq.out k hkl
      rw [hHe] at hH hrg
      obtain ⟨X, hX⟩ : ∃ X, L ++ (Q.take k).flatten = X := ⟨_, rfl⟩
      obtain ⟨Z, hZ⟩ : ∃ Z, L ++ (Q.take (k + 1)).flatten = Z := ⟨_, rfl⟩
      have HZ := Lib.hid (show X ++ H = Z by
        rw [← hX, ← hZ, List.take_succ_eq_append_getElem hkl, List.flatten_append, ← List.append_assoc, ← hHe]
        congr 1
        simp [List.getElem?_eq_getElem hkl])
      have HXl := Lib.hid (show X.length + H.length ≤ 140737488355328 by
        rw [← hX, List.length_append, flat_len _ (fun x hx => HQh.out x (List.mem_of_mem_take hx)), List.length_take, hH.1]; have := HL.out; have := HQl.out; omega)
      have HOx := Lib.hid (show wr.ownsRow B 5 1 u3 X.length (bys X) by rw [← hX]; exact HOq.out)
      have HYx := Lib.hid (rangeAt.byts hrg hH)
      have HBs := Lib.hid (show B ≤ wr.heap.size from Nat.le_trans HG.out.2 HBq.out.size)
      have HNe := Lib.hid (own_ne HOx.out HAq.out)
      have HZe := Lib.hid hZ
      clear hkl hH hHe hrg hX hZ HOq
      go_wp2_with (at_builtin; refine appB B rfl (.tmp 39) (.tmp 43) 44 5 rfl Tryz.underlying44 infoB u3 _ X H Z HZ.out rfl rfl HOx.out HYx.out HBs.out HXl.out ?_)
      intro v8 w8 ho8 hb8 hg8
      have HO8 := Lib.hid ho8.out
      have HB8 := Lib.hid (hb8.out B w0 HBq.out (Nat.le_refl _))
      have HA8 := Lib.hid (show Arr w8 g5 22 (bys Q.flatten) by
        have h9 : wr.heap[g5]? = some (.cells (bys Q.flatten).toArray 22 (0, 0)) := HAq.out
        show w8.heap[g5]? = _
        rw [hg8.out.block g5 HAq.out.lt (fun e => HNe.out e.symm)]; exact h9)
      have HH8 := Lib.hid (HHq.out.below (hb8.out B wr (Below.refl _ _) (Nat.le_refl _)) HG.out.1)
      clear ho8 hb8 hg8 HOx HYx HNe HAq HHq HBq
      go_wp2
      go_roundg g
      case measure => omega
      case rel => exact ⟨k + 1, by show _ = _; have := HK.out; omega, by go_num, by show World.ownsRow _ _ _ _ _ _ _; rw [HZe.out]; exact HO8.out, HA8.out, HH8.out, HB8.out⟩
end Go.Proofs.YtndhmpeabfmfgaaGreatDoor
/- plexusref06.HeaderBytes and ID. -/
namespace Go.Proofs.YtndhmpeabfmfgaaGreatDoor
open Go.RowKit Go.Lib
set_option linter.unusedVariables false
set_option linter.unusedSimpArgs false
attribute [local go_sem ↓] Go.wp_at_zero Go.wp_at_succ

set_option maxRecDepth 100000 in
set_option maxHeartbeats 1600000 in
theorem rheader_any (h : Hdr) (hk : h.ok) (hpl : h.P.length ≤ 100000) (pv : Value) (w : World) (hv : HsIs w pv h.P) :
    Calls Tryz.prog 45 #[.agg (hdC pv h).toArray] w fun e w' => ∃ v', e = .returned v' ∧ Byts w' v' (hdrF h) ∧ Below w.heap.size w w' := by
  obtain ⟨a0, c0, rfl⟩ := hv.form
  have HV := Lib.hid hv
  have HOk := Lib.hid hk
  have HPl := Lib.hid hpl
  have HFl := Lib.hid (hdrF_lt h hk hv.1)
  clear hv hk hpl
  go_enter Tryz.func45, Tryz.ntmps45
  go_upto_region 1 with fail
  have hm := Arr.made w 27 (hdC (.slice a0 h.P.length c0) h)
  have hb := (Below.refl w.heap.size w).alloc (Nat.le_refl _) (.cells (hdC (.slice a0 h.P.length c0) h).toArray 27)
  have HH1 := Lib.hid (show HdrAt _ w.heap.size (.slice a0 h.P.length c0) h from ⟨hm, HOk.out⟩)
  have HB1 := Lib.hid hb
  clear hm hb
  generalize World.alloc _ _ = w1 at *
  have hc0 := HH1.out.p
  obtain ⟨z, hz⟩ : ∃ z : Int, ((h.P.length : Nat) : Int) = z := ⟨_, rfl⟩
  have HZ := Lib.hid hz
  have hwz : IntKind.u64.wrap ((h.P.length : Nat) : Int) = ((h.P.length : Nat) : Int) := by rw [IntKind.wrap_u64]; have := HPl.out; omega
  clear hz
  obtain ⟨g1, hg1⟩ : ∃ g1, w.heap.size = g1 := ⟨_, rfl⟩
  have HG1 := Lib.hid hg1
  have HGl := Lib.hid (show g1 < w1.heap.size by rw [← hg1]; exact HH1.out.1.lt)
  rw [hg1] at HH1 hc0 ⊢
  clear hg1
  go_wp2_with fail
  clear hc0 hwz
  have HNm := Lib.hid (num2_any h.P.length (by have := HPl.out; omega) w1)
  with_reducible refine HNm.out.mono ?_
  rintro e w2 ⟨v2, rfl, ho2, hb2⟩
  dsimp only
  obtain ⟨B, hB⟩ : ∃ B, w1.heap.size = B := ⟨_, rfl⟩
  rw [hB] at ho2
  have HBe := Lib.hid hB
  have HG := Lib.hid (show g1 < B by rw [← hB]; exact HGl.out)
  obtain ⟨L0, hL0⟩ : ∃ L0, (le8 h.P.length).take 2 = L0 := ⟨_, rfl⟩
  rw [hL0] at ho2
  have HL0 := Lib.hid hL0
  have HO2 := Lib.hid ho2
  have HH2 := Lib.hid (HH1.out.below hb2 HGl.out)
  have HB2 := Lib.hid (hb2.mono (show B ≤ w1.heap.size by rw [hB]; exact Nat.le_refl _))
  clear ho2 hb2 hB hL0 HNm HH1 HGl
  go_wp2
  go_loopg [3, 4] h.P.length (fun g v3 v4 wq => ∃ k : Nat, Hid (g + k = h.P.length) ∧ v4 = .int .i64 (k : Int) ∧ Hid (wq.ownsRow B 5 1 v3 (L0 ++ (h.P.take k).flatten).length (bys (L0 ++ (h.P.take k).flatten))) ∧ Hid (HdrAt wq g1 (.slice a0 h.P.length c0) h) ∧ Hid (Below B w1 wq))
  case atStart => exact ⟨0, rfl, rfl, by show World.ownsRow _ _ _ _ _ _ _; simpa using HO2.out, HH2.out, HB2.out⟩
  case round =>
    obtain ⟨k, hk, rfl, ho, hh, hb⟩ := hrel
    have HK := Lib.hid hk.out
    have HOq := Lib.hid ho.out
    have HHq := Lib.hid hh.out
    have HBq := Lib.hid hb.out
    clear hk ho hh hb HO2 HH2 HB2
    have hpl := HPl.out
    have hc := HHq.out.p
    have HBs := Lib.hid (show B ≤ wr.heap.size by have := HBq.out.size; rw [HBe.out] at this; exact this)
    cases gk with
    | zero =>
      have hlt : ¬ ((k : Int) < ((h.P.length : Nat) : Int)) := by have := HK.out; omega
      obtain ⟨X, hX⟩ : ∃ X, L0 ++ h.P.flatten = X := ⟨_, rfl⟩
      have HOx := Lib.hid (show wr.ownsRow B 5 1 u3 X.length (bys X) by
        have h9 := HOq.out
        rw [List.take_of_length_le (by have := HK.out; omega), hX] at h9
        exact h9)
      have HXl := Lib.hid (show X.length ≤ 100000000 by rw [← hX, ← HL0.out, List.length_append, le8t, hdr_flat h HV.out.1]; omega)
      have HX := Lib.hid hX
      clear HOq hX
      have HFin := Lib.hid (show ∀ e w', (∃ v' Z, e = Ending.returned v' ∧ Z = X ++ (h.r ++ (h.a ++ (h.c ++ (h.m ++ le8 h.n)))) ∧ w'.ownsRow B 5 1 v' Z.length (bys Z) ∧ Below B wr w') → ∃ v', e = Ending.returned v' ∧ Byts w' v' (hdrF h) ∧ Below w.heap.size w w' from by
        rintro e w' ⟨v', Z, rfl, hz, ho, hb⟩
        have hZ : Z = hdrF h := by rw [hz, ← HX.out, ← HL0.out]; simp only [hdrF, List.append_assoc]
        rw [hZ] at ho
        exact ⟨v', rfl, own_byts ho HFl.out, HB1.out.trans ((HBq.out.trans hb).mono (by rw [← HBe.out]; exact HB1.out.size))⟩)
      have HBw := HBs.out
      go_upto_if 16 with fail
      repeat (first | (exact rhdr_t B g1 _ h X u3 wr HOk.out HHq.out HG.out HBw HOx.out HXl.out _ HFin.out) | go_step)
    | succ g =>
      have hkl : k < h.P.length := by have := HK.out; omega
      have hlt : ((k : Int) < ((h.P.length : Nat) : Int)) := by omega
      have hvq := HV.out.below (show Below w.heap.size w wr from HB1.out.trans (HBq.out.mono (by rw [← HBe.out]; exact HB1.out.size)))
      obtain ⟨b, off, rfl⟩ : ∃ b off, a0 = some ⟨b, off, none⟩ := by
        rcases HV.out.2 with ⟨_, h0⟩ | ⟨b, off, c, e1, _⟩
        · rw [h0] at hkl; simp at hkl
        · injection e1 with e1 _ _; exact ⟨b, off, e1⟩
      have hH := IsH.getD HV.out.1 hkl
      obtain ⟨H, hHe⟩ : ∃ H, h.P.getD k [] = H := ⟨_, rfl⟩
      have hrg := colS_at hvq hkl
      rw [hHe] at hH hrg
      obtain ⟨X, hX⟩ : ∃ X, L0 ++ (h.P.take k).flatten = X := ⟨_, rfl⟩
      obtain ⟨Z, hZ⟩ : ∃ Z, L0 ++ (h.P.take (k + 1)).flatten = Z := ⟨_, rfl⟩
      have HZe := Lib.hid hZ
      have HXZ := Lib.hid (show X ++ H = Z by
        rw [← hX, ← hZ, List.take_succ_eq_append_getElem hkl, List.flatten_append, ← List.append_assoc, ← hHe]
        congr 1
        simp [List.getElem?_eq_getElem hkl])
      have HXl := Lib.hid (show X.length + H.length ≤ 140737488355328 by
        rw [← hX, ← HL0.out, List.length_append, le8t, flat_len _ (fun x hx => HV.out.1 x (List.mem_of_mem_take hx)), List.length_take, hH.1]; omega)
      have HOx := Lib.hid (show wr.ownsRow B 5 1 u3 X.length (bys X) by rw [← hX]; exact HOq.out)
      have HYx := Lib.hid (rangeAt.byts hrg hH)
      clear hkl hvq hH hHe hrg hX hZ HOq
      go_wp2_with (at_builtin; refine appB B rfl (.tmp 19) (.tmp 24) 44 5 rfl Tryz.underlying44 infoB u3 _ X H Z HXZ.out rfl rfl HOx.out HYx.out HBs.out HXl.out ?_)
      intro v8 w8 ho8 hb8 hg8
      have HO8 := Lib.hid ho8.out
      have HB8 := Lib.hid (hb8.out B w1 HBq.out (Nat.le_refl _))
      have HH8 := Lib.hid (HHq.out.below (hb8.out B wr (Below.refl _ _) (Nat.le_refl _)) HG.out)
      clear ho8 hb8 hg8 HOx HYx HHq HBq hc
      go_wp2
      go_roundg g
      case measure => omega
      case rel => exact ⟨k + 1, by show _ = _; have := HK.out; omega, by go_num, by show World.ownsRow _ _ _ _ _ _ _; rw [HZe.out]; exact HO8.out, HH8.out, HB8.out⟩
end Go.Proofs.YtndhmpeabfmfgaaGreatDoor
/- plexusref06.ID. -/
namespace Go.Proofs.YtndhmpeabfmfgaaGreatDoor
open Go.RowKit Go.Lib
set_option linter.unusedVariables false
set_option linter.unusedSimpArgs false
attribute [local go_sem ↓] Go.wp_at_zero Go.wp_at_succ

set_option maxRecDepth 100000 in
set_option maxHeartbeats 1600000 in
theorem rid_any (h : Hdr) (hk : h.ok) (hP : h.P.length ≤ 255) (pv : Value) (w : World) (hv : HsIs w pv h.P) :
    Calls Tryz.prog 21 #[.agg (hdC pv h).toArray] w fun e w' => e = .returned (.agg (bys (idF h)).toArray) ∧ Below w.heap.size w w' := by
  have hz := zero32
  obtain ⟨a0, c0, rfl⟩ := hv.form
  have HV := Lib.hid hv
  have HOk := Lib.hid hk
  have HPl := Lib.hid hP
  have HFn := Lib.hid (hdrF_len h hk hv.1)
  have HSp := Lib.hid (size_hdr (.slice a0 h.P.length c0) h hk)
  clear hv hk hP
  go_enter Tryz.func21, Tryz.ntmps21
  go_upto_region 1 with fail
  have hpk := two w (.cells (hdC (.slice a0 h.P.length c0) h).toArray 27) (.cells (List.replicate 32 (.int .u8 0)).toArray 23)
  simp only [List.reduceReplicate] at hpk
  have HH1 := Lib.hid (show HdrAt _ w.heap.size (.slice a0 h.P.length c0) h from ⟨hpk.1, HOk.out⟩)
  have HA2 := Lib.hid (show ∃ Z : List Value, Z.length = 32 ∧ Arr _ (w.heap.size + 1) 23 Z from ⟨_, rfl, hpk.2.1⟩)
  have HB1 := Lib.hid hpk.2.2.2
  clear hpk hz
  generalize World.alloc (World.alloc _ _) _ = w1 at *
  have hc0 := HH1.out.p
  have hle : ¬ ((h.P.length : Nat) : Int) > 255 := by have := HPl.out; omega
  go_upto_region 3 with fail
  clear hc0 hle
  go_step
  refine wpList_load_mid (P := Tryz.prog) rfl 27 _ rfl w.heap.size 0 rfl _ _ HH1.out.1.range Tryz.underlying27 rfl HSp.out ?_
  have HCh := Lib.hid (rheader_any h HOk.out (by have := HPl.out; omega) (.slice a0 h.P.length c0) w1 (HV.out.below HB1.out))
  go_wp2_with fail
  with_reducible refine HCh.out.mono ?_
  rintro e w2 ⟨v2, rfl, hy2, hb2⟩
  dsimp only
  have HY2 := Lib.hid hy2
  obtain ⟨Zr, hZl, hZa⟩ := HA2.out
  have HZl := Lib.hid hZl
  have HA22 := Lib.hid (hZa.below hb2 hZa.lt)
  have HB2 := Lib.hid (HB1.out.trans (hb2.mono HB1.out.size))
  clear hy2 hb2 hZl hZa HA2 HB1 HCh
  go_wp2_with fail
  have HTg := Lib.hid (rtag_any ⟨#[98, 108, 111, 99, 107]⟩ v2 (hdrF h) w2 (by decide) (by rw [HFn.out]; have := HPl.out; omega) HY2.out)
  with_reducible refine HTg.out.mono ?_
  rintro e w4 ⟨rfl, hb4⟩
  rw [show tagF (nmB ⟨#[98, 108, 111, 99, 107]⟩) (hdrF h) = idF h from rfl]
  dsimp only
  have HAx := Lib.hid (HA22.out.below hb4 HA22.out.lt)
  have HBx := Lib.hid (HB2.out.trans (hb4.mono HB2.out.size))
  clear hb4 HTg HA22 HB2
  obtain ⟨R, hR⟩ : ∃ R, R = idF h := ⟨_, rfl⟩
  rw [← hR]
  have HRe := Lib.hid hR
  have HRh := Lib.hid (show IsH R by rw [hR]; exact tagF_h _ _)
  have HSr := Lib.hid (size_hash R HRh.out.1)
  have HSr2 := Lib.hid (show (Tryz.prog.info? 23).map (·.size) = some (bys R).toArray.size by rw [List.size_toArray]; exact HSr.out)
  have O1 := Lib.hid (all_oneCell_toArray (bys_one R))
  clear hR
  go_step
  refine wpList_store_mid (P := Tryz.prog) rfl 23 _ _ rfl (w.heap.size + 1) 0 (bys R).toArray rfl rfl (HAx.out.there _ (by rw [HZl.out]; simp [bys_len, HRh.out.1])) HSr2.out O1.out ?_
  rw [show (bys R).toArray.toList = bys R from rfl]
  have HA5 := Lib.hid (HAx.out.setAll (bys R) (by rw [HZl.out]; simp [bys_len, HRh.out.1]))
  have HB9 := Lib.hid (below_sets (w.heap.size + 1) (by omega) (bys R) 0 HBx.out)
  generalize World.setCells _ _ _ _ = w9 at *
  go_wp2
  refine bodyPost_ret (results_cell_row (P := Tryz.prog) rfl _ _ (w.heap.size + 1) 23 _ (0, 0) _ rfl HA5.out Tryz.underlying23 rfl (by rw [List.size_toArray]; exact HSr.out)) rfl ?_
  exact ⟨by rw [HRe.out], HB9.out⟩
end Go.Proofs.YtndhmpeabfmfgaaGreatDoor
/- slices.Equal of bytes. -/
namespace Go.Proofs.YtndhmpeabfmfgaaGreatDoor
open Go.RowKit Go.Lib
set_option linter.unusedVariables false
set_option linter.unusedSimpArgs false
attribute [local go_sem ↓] Go.wp_at_zero Go.wp_at_succ

end Go.Proofs.YtndhmpeabfmfgaaGreatDoor
/- proof.text. -/
namespace Go.Proofs.YtndhmpeabfmfgaaGreatDoor
open Go.RowKit Go.Lib
set_option linter.unusedVariables false
set_option linter.unusedSimpArgs false
attribute [local go_sem ↓] Go.wp_at_zero Go.wp_at_succ

end Go.Proofs.YtndhmpeabfmfgaaGreatDoor
/- Proofs; plexusref24.Much, Check; proof.Check. -/
namespace Go.Proofs.YtndhmpeabfmfgaaGreatDoor
open Go.RowKit Go.Lib
set_option linter.unusedVariables false
set_option linter.unusedSimpArgs false
attribute [local go_sem ↓] Go.wp_at_zero Go.wp_at_succ

/-- A path's cells. -/
def paC (n c : Int) (v : Value) : List Value := [.int .i64 n, .int .i64 c, v]
/-- A proof's cells. -/
def pfC (pv : Value) (h : Hdr) (n c : Int) (v : Value) : List Value := hdC pv h ++ paC n c v
theorem pfC_len (pv : Value) (h : Hdr) (hk : h.ok) (n c : Int) (v : Value) : (pfC pv h n c v).length = 133 := by rw [pfC, List.length_append, hdC_len pv h hk]; rfl
theorem size_pf (pv : Value) (h : Hdr) (hk : h.ok) (n c : Int) (v : Value) : (Tryz.prog.info? 31).map (·.size) = some (pfC pv h n c v).length := by
  rw [pfC_len pv h hk]; kernel_rfl
def PfAt (w : World) (g : Nat) (pv : Value) (h : Hdr) (n c : Int) (v : Value) : Prop := Arr w g 31 (pfC pv h n c v) ∧ h.ok
theorem PfAt.below {w w' : World} {g : Nat} {pv v : Value} {h : Hdr} {n c : Int} (hd : PfAt w g pv h n c v) {B : Nat} (hb : Below B w w') (hg : g < B) : PfAt w' g pv h n c v := ⟨hd.1.below hb hg, hd.2⟩
theorem PfAt.hr {w : World} {g : Nat} {pv v : Value} {h : Hdr} {n c : Int} (hd : PfAt w g pv h n c v) : w.rangeAt g 0 (hdC pv h) := range_app (X := []) hd.1 0 rfl
theorem PfAt.p {w : World} {g : Nat} {pv v : Value} {h : Hdr} {n c : Int} (hd : PfAt w g pv h n c v) : w.cell? ⟨g, 0, none⟩ = some pv := by
  have := hd.hr 0 pv rfl
  simpa using this
theorem PfAt.ra {w : World} {g : Nat} {pv v : Value} {h : Hdr} {n c : Int} (hd : PfAt w g pv h n c v) : w.rangeAt g 33 (bys h.a) := by
  refine range_app (X := [pv] ++ bys h.r) (Z := bys h.c ++ (bys h.m ++ ([.int .u64 (h.n : Nat)] ++ paC n c v))) (t := 31) ?_ 33 (by simp [bys_len, hd.2.r.1])
  have := hd.1
  simpa [pfC, hdC] using this
theorem PfAt.pa {w : World} {g : Nat} {pv v : Value} {h : Hdr} {n c : Int} (hd : PfAt w g pv h n c v) : w.rangeAt g 130 (paC n c v) := by
  have := range_app (X := hdC pv h) (Y := paC n c v) (Z := []) (w := w) (g := g) (t := 31) (by rw [List.append_nil]; exact hd.1) 130 (hdC_len pv h hd.2)
  exact this
theorem PfAt.pn {w : World} {g : Nat} {pv v : Value} {h : Hdr} {n c : Int} (hd : PfAt w g pv h n c v) : w.cell? ⟨g, 130, none⟩ = some (.int .i64 n) := hd.pa 0 _ rfl
theorem PfAt.pc {w : World} {g : Nat} {pv v : Value} {h : Hdr} {n c : Int} (hd : PfAt w g pv h n c v) : w.cell? ⟨g, 131, none⟩ = some (.int .i64 c) := hd.pa 1 _ rfl
theorem PfAt.ph {w : World} {g : Nat} {pv v : Value} {h : Hdr} {n c : Int} (hd : PfAt w g pv h n c v) : w.cell? ⟨g, 132, none⟩ = some v := hd.pa 2 _ rfl
theorem size_pa (n c : Int) (v : Value) : (Tryz.prog.info? 29).map (·.size) = some (paC n c v).length := by
  show _ = some 3; kernel_rfl

/-- Whether a proof checks. -/
def prOk (h : Hdr) (n c : Int) (Hs : List (List Nat)) (I T : List Nat) : Prop := h.P.length ≤ 255 ∧ idF h = T ∧ pathOk h.a I n c Hs
/-- What lies through a check. -/
def PrS (g3 g4 g5 : Nat) (pv v : Value) (h : Hdr) (n c : Int) (Hs : List (List Nat)) (I T : List Nat) (w' : World) : Prop :=
  PfAt w' g3 pv h n c v ∧ w'.rangeAt g4 0 (bys I) ∧ w'.rangeAt g5 0 (bys T) ∧ HsIs w' pv h.P ∧ HsIs w' v Hs
theorem PrS.below {g3 g4 g5 : Nat} {pv v : Value} {h : Hdr} {n c : Int} {Hs : List (List Nat)} {I T : List Nat} {w w' : World} (hs : PrS g3 g4 g5 pv v h n c Hs I T w) (hI : IsH I) (hT : IsH T) (hb : Below w.heap.size w w') : PrS g3 g4 g5 pv v h n c Hs I T w' :=
  ⟨hs.1.below hb hs.1.1.lt, rangeAt_below hs.2.1 hb (World.block_lt_of_cell? w _ (hs.2.1 0 _ (bys_get _ 0 (by rw [hI.1]; omega)))), rangeAt_below hs.2.2.1 hb (World.block_lt_of_cell? w _ (hs.2.2.1 0 _ (bys_get _ 0 (by rw [hT.1]; omega)))), hs.2.2.2.1.below hb, hs.2.2.2.2.below hb⟩

end Go.Proofs.YtndhmpeabfmfgaaGreatDoor
/- proof.Check. -/
namespace Go.Proofs.YtndhmpeabfmfgaaGreatDoor
open Go.RowKit Go.Lib
set_option linter.unusedVariables false
set_option linter.unusedSimpArgs false
attribute [local go_sem ↓] Go.wp_at_zero Go.wp_at_succ

open Classical in
set_option maxRecDepth 100000 in
set_option maxHeartbeats 3200000 in
theorem pcheck_any (pv v : Value) (h : Hdr) (hk : h.ok) (n c : Int) (Hs : List (List Nat)) (I T : List Nat) (hI : IsH I) (hT : IsH T) (w : World) (hv : HsIs w pv h.P) (hv2 : HsIs w v Hs) :
    Calls Tryz.prog 20 #[.agg (pfC pv h n c v).toArray, .agg (bys I).toArray, .agg (bys T).toArray] w fun e w' => e = .returned (.int .i64 (if prOk h n c Hs I T then 0 else 21)) ∧ Below w.heap.size w w' := by
  obtain ⟨a0, c0, rfl⟩ := hv.form
  obtain ⟨a1, c1, rfl⟩ := hv2.form
  have HV := Lib.hid hv
  have HV2 := Lib.hid hv2
  have HOk := Lib.hid hk
  have HI := Lib.hid hI
  have HT := Lib.hid hT
  have HSi := Lib.hid (size_hash I HI.out.1)
  have HSt := Lib.hid (size_hash T HT.out.1)
  have HSa := Lib.hid (size_hash h.a hk.a.1)
  have HSp := Lib.hid (size_hdr (.slice a0 h.P.length c0) h hk)
  have HSq := Lib.hid (size_pa n c (.slice a1 Hs.length c1))
  clear hv hv2 hk hI hT
  obtain ⟨E, hE⟩ : ∃ E : Int, E = if prOk h n c Hs I T then 0 else 21 := ⟨_, rfl⟩
  rw [← hE]
  have HE := Lib.hid hE
  clear hE
  go_enter Tryz.func20, Tryz.ntmps20
  go_upto_region 1 with fail
  have hpk := three_laid w (pfC (.slice a0 h.P.length c0) h n c (.slice a1 Hs.length c1)) (bys I) (bys T) 31 23 23 _ rfl
  have HS1 := Lib.hid (show PrS w.heap.size (w.heap.size + 1) (w.heap.size + 1 + 1) (.slice a0 h.P.length c0) (.slice a1 Hs.length c1) h n c Hs I T _ from ⟨⟨hpk.1, HOk.out⟩, hpk.2.1.range, hpk.2.2.1.range, HV.out.below hpk.2.2.2, HV2.out.below hpk.2.2.2⟩)
  have HB1 := Lib.hid hpk.2.2.2
  clear hpk HV HV2
  generalize World.alloc (World.alloc (World.alloc _ _) _) _ = w1 at *
  go_step
  iterate 3 (first | go_values | go_skip | go_guarded | go_step | go_upon)
  refine wpList_load_mid (P := Tryz.prog) rfl 27 _ rfl w.heap.size 0 rfl _ _ HS1.out.1.hr Tryz.underlying27 rfl HSp.out ?_
  by_cases hP : h.P.length ≤ 255
  · have HPl := Lib.hid hP
    have HCh := Lib.hid (header_ok h HOk.out hP (.slice a0 h.P.length c0) w1 HS1.out.2.2.2.1)
    go_wp2_with fail
    with_reducible refine HCh.out.mono ?_
    rintro e w2 ⟨v2, rfl, hy2, hlo2, hb2⟩
    dsimp only
    have HS2 := Lib.hid (HS1.out.below HI.out HT.out hb2)
    have HB2 := Lib.hid (HB1.out.trans (hb2.mono HB1.out.size))
    clear hy2 hlo2 hb2 HS1 HB1 HCh
    go_upto_region 2 with fail
    have HS0 := Lib.hid (show PrS w.heap.size (w.heap.size + 1) (w.heap.size + 1 + 1) (.slice a0 h.P.length c0) (.slice a1 Hs.length c1) h n c Hs I T w2.drew from HS2.out)
    have HBd := Lib.hid HB2.out.drew
    clear HS2 HB2
    refine wp_region_H (PrS w.heap.size (w.heap.size + 1) (w.heap.size + 1 + 1) (.slice a0 h.P.length c0) (.slice a1 Hs.length c1) h n c Hs I T) (by kernel_rfl) ?_
    generalize w2.drew = w3 at *
    simp only [List.size_toArray, List.length_cons, List.length_nil, Nat.reduceAdd, Array.replicate_succ, Array.replicate_zero, List.push_toArray, List.nil_append, List.cons_append]
    refine wpAnyH_take (i := 0) (oi := ⟨some 15, _, _, _, _, _⟩) (v := ?_) rfl (by kernel_rfl) (by kernel_rfl) (by kernel_rfl) (fun _ _ _ h => h) (Or.inl ⟨by rfl, ?_⟩) HS0.out ?_
    rotate_left
    · intro w hSw
      go_simp <;> with_reducible rfl
    dsimp only [Act.put]
    simp only [List.setIfInBounds_toArray, List.set_cons_zero, List.set_cons_succ]
    refine wpAnyH_take (i := 1) (oi := ⟨some 16, _, _, _, _, _⟩) (v := .bool false) rfl (by kernel_rfl) (by kernel_rfl) (by kernel_rfl) (fun _ _ _ h => h) (Or.inl ⟨by rfl, ?_⟩) HS0.out ?_
    · intro w hSw
      go_simp <;> with_reducible rfl
    dsimp only [Act.put]
    simp only [List.setIfInBounds_toArray, List.set_cons_zero, List.set_cons_succ]
    refine wpAnyH_take (i := 2) (oi := ⟨some 17, _, _, _, _, _⟩) (v := ?_) rfl (by kernel_rfl) (by kernel_rfl) (by kernel_rfl) (fun _ _ _ h => h) (Or.inl ⟨by rfl, ?_⟩) HS0.out ?_
    rotate_left
    · intro w hSw
      go_simp <;> with_reducible rfl
    dsimp only [Act.put]
    simp only [List.setIfInBounds_toArray, List.set_cons_zero, List.set_cons_succ]
    refine wpAnyH_take (i := 3) (oi := ⟨some 18, _, _, _, _, _⟩) (v := ?_) rfl (by kernel_rfl) (by kernel_rfl) (by kernel_rfl) (fun _ _ _ h => h) (Or.inl ⟨by rfl, ?_⟩) HS0.out ?_
    rotate_left
    · intro w hSw
      go_simp <;> with_reducible rfl
    dsimp only [Act.put]
    simp only [List.setIfInBounds_toArray, List.set_cons_zero, List.set_cons_succ]
    refine wpAnyH_take (i := 4) (oi := ⟨some 19, _, _, _, _, _⟩) rfl (by kernel_rfl) (by kernel_rfl) (by kernel_rfl) (fun _ _ _ h => h) (yieldsIf_load_mid (by rfl) 27 (.tmp 18) rfl (w.heap.size) (0) rfl (hdC (.slice a0 h.P.length c0) h) _ (fun w h => h.1.hr) Tryz.underlying27 rfl HSp.out) HS0.out ?_
    dsimp only [Act.put]
    simp only [List.setIfInBounds_toArray, List.set_cons_zero, List.set_cons_succ]
    refine wpAnyH_take (i := 6) (oi := ⟨some 21, _, _, _, _, _⟩) rfl (by kernel_rfl) (by kernel_rfl) (by kernel_rfl) (fun _ _ _ h => h) (yieldsIf_load_mid (by rfl) 23 (.tmp 5) rfl (w.heap.size + 1 + 1) (0) rfl (bys T) _ (fun w h => h.2.2.1) Tryz.underlying23 rfl HSt.out) HS0.out ?_
    dsimp only [Act.put]
    simp only [List.setIfInBounds_toArray, List.set_cons_zero, List.set_cons_succ]
    refine wpAnyH_one (i := 5) (oi := ⟨some 20, _, _, _, _, _⟩) (by kernel_rfl) rfl (by rfl) (fun K9 hK9 => ?_)
    have HK9 := Lib.hid hK9
    clear hK9
    go_simp
    have HCi := Lib.hid (bid_any h HOk.out HPl.out (.slice a0 h.P.length c0) w3 HS0.out.2.2.2.1)
    with_reducible refine HCi.out.mono ?_
    rintro e w4 ⟨rfl, hb4⟩
    dsimp only
    have hS4 := HS0.out.below HI.out HT.out hb4
    have HB4 := Lib.hid (HBd.out.trans (hb4.mono HBd.out.size))
    clear HS0 HBd HCi
    have HS0 := Lib.hid hS4
    clear hS4 hb4
    refine HK9.out _ _ HS0.out ?_
    clear HK9
    simp only [List.setIfInBounds_toArray, List.set_cons_zero, List.set_cons_succ]
    obtain ⟨D, hD⟩ : ∃ D, D = idF h := ⟨_, rfl⟩
    have HDh := Lib.hid (show IsH D by rw [hD]; exact tagF_h _ _)
    rw [← hD]
    have HDe := Lib.hid hD
    clear hD
    by_cases hid : idF h = T
    · have HEk := Lib.hid (show E = if pathOk h.a I n c Hs then 0 else 21 by
        rw [HE.out]
        by_cases hp : pathOk h.a I n c Hs
        · rw [if_pos ⟨hP, hid, hp⟩, if_pos hp]
        · rw [if_neg (fun hx => hp hx.2.2), if_neg hp])
      clear hP
      have hid2 := hid
      rw [← HDe.out] at hid2
      subst hid2
      refine wpAnyH_take (i := 7) (oi := ⟨some 22, _, _, _, _, _⟩) (v := .bool false) rfl (by kernel_rfl) (by kernel_rfl) (by kernel_rfl) (fun _ _ _ h => h) (Or.inl ⟨by rfl, ?_⟩) HS0.out ?_
      · intro w hSw
        have hne := equal_hash w D D HDh.out HDh.out
        rw [show decide (D = D) = true from decide_eq_true rfl] at hne
        go_simp <;> with_reducible rfl
      dsimp only [Act.put]
      simp only [List.setIfInBounds_toArray, List.set_cons_zero, List.set_cons_succ]
      refine wpAnyH_take (i := 8) (oi := ⟨some 23, _, _, _, _, _⟩) (v := .bool false) rfl (by kernel_rfl) (by kernel_rfl) (by kernel_rfl) (fun _ _ _ h => h) (Or.inl ⟨by rfl, ?_⟩) HS0.out ?_
      · intro w hSw
        go_simp <;> with_reducible rfl
      dsimp only [Act.put]
      simp only [List.setIfInBounds_toArray, List.set_cons_zero, List.set_cons_succ]
      refine wpAnyH_done (by kernel_rfl) ?_ _
      go_upto_region 4 with fail
      have HS9 := HS0
      go_step
      iterate 6 (first | go_values | go_skip | go_guarded | go_step | go_upon)
      refine wpList_load_mid (P := Tryz.prog) rfl 23 _ rfl w.heap.size 33 rfl _ _ HS9.out.1.ra Tryz.underlying23 rfl HSa.out ?_
      refine wpList_load_mid (P := Tryz.prog) rfl 23 _ rfl (w.heap.size + 1) 0 rfl _ _ HS9.out.2.1 Tryz.underlying23 rfl HSi.out ?_
      iterate 3 (first | go_values | go_skip | go_guarded | go_step | go_upon)
      refine wpList_load_mid (P := Tryz.prog) rfl 29 _ rfl w.heap.size 130 rfl _ _ HS9.out.1.pa Tryz.underlying29 rfl HSq.out ?_
      rw [show (paC n c (.slice a1 Hs.length c1)).toArray = #[.int .i64 n, .int .i64 c, .slice a1 Hs.length c1] from rfl]
      have HCk := Lib.hid (check_any h.a I HOk.out.a HI.out n c (.slice a1 Hs.length c1) Hs w4 HS9.out.2.2.2.2)
      rw [← HEk.out] at HCk
      go_wp2_with fail
      with_reducible refine HCk.out.mono ?_
      rintro e w6 ⟨rfl, hb6⟩
      dsimp only
      have HB6 := Lib.hid (HB4.out.trans (hb6.mono HB4.out.size))
      clear hb6 HS9 HCk HB4
      go_wp2
      refine bodyPost_ret (results_tmp rfl _ _ _) rfl ?_
      exact ⟨rfl, HB6.out⟩
    · have HE21 := Lib.hid (show E = 21 by rw [HE.out, if_neg (fun hx => hid hx.2.1)])
      clear hP
      have hid2 : ¬ D = T := by rw [HDe.out]; exact hid
      refine wpAnyH_take (i := 7) (oi := ⟨some 22, _, _, _, _, _⟩) (v := .bool true) rfl (by kernel_rfl) (by kernel_rfl) (by kernel_rfl) (fun _ _ _ h => h) (Or.inl ⟨by rfl, ?_⟩) HS0.out ?_
      · intro w hSw
        have hne := equal_hash w D T HDh.out HT.out
        rw [decide_eq_false hid2] at hne
        go_simp <;> with_reducible rfl
      dsimp only [Act.put]
      simp only [List.setIfInBounds_toArray, List.set_cons_zero, List.set_cons_succ]
      refine wpAnyH_take (i := 8) (oi := ⟨some 23, _, _, _, _, _⟩) (v := .bool true) rfl (by kernel_rfl) (by kernel_rfl) (by kernel_rfl) (fun _ _ _ h => h) (Or.inl ⟨by rfl, ?_⟩) HS0.out ?_
      · intro w hSw
        go_simp <;> with_reducible rfl
      dsimp only [Act.put]
      simp only [List.setIfInBounds_toArray, List.set_cons_zero, List.set_cons_succ]
      refine wpAnyH_done (by kernel_rfl) ?_ _
      go_wp2
      refine bodyPost_ret (results_tmp rfl _ _ _) rfl ?_
      exact ⟨by rw [HE21.out]; rfl, HB4.out⟩
  · have HE21 := Lib.hid (show E = 21 by rw [HE.out, if_neg (fun hx => hP hx.1)])
    have HCh := Lib.hid (header_bad h HOk.out (by omega) (.slice a0 h.P.length c0) w1 HS1.out.2.2.2.1)
    go_wp2_with fail
    with_reducible refine HCh.out.mono ?_
    rintro e w2 ⟨rfl, hb2⟩
    dsimp only
    have HS2 := Lib.hid (HS1.out.below HI.out HT.out hb2)
    have HB2 := Lib.hid (HB1.out.trans (hb2.mono HB1.out.size))
    clear hb2 HS1 HB1 HCh
    go_upto_region 2 with fail
    have HS0 := Lib.hid (show PrS w.heap.size (w.heap.size + 1) (w.heap.size + 1 + 1) (.slice a0 h.P.length c0) (.slice a1 Hs.length c1) h n c Hs I T w2.drew from HS2.out)
    have HBd := Lib.hid HB2.out.drew
    clear HS2 HB2
    refine wp_region_H (PrS w.heap.size (w.heap.size + 1) (w.heap.size + 1 + 1) (.slice a0 h.P.length c0) (.slice a1 Hs.length c1) h n c Hs I T) (by kernel_rfl) ?_
    generalize w2.drew = w3 at *
    simp only [List.size_toArray, List.length_cons, List.length_nil, Nat.reduceAdd, Array.replicate_succ, Array.replicate_zero, List.push_toArray, List.nil_append, List.cons_append]
    refine wpAnyH_take (i := 0) (oi := ⟨some 15, _, _, _, _, _⟩) (v := ?_) rfl (by kernel_rfl) (by kernel_rfl) (by kernel_rfl) (fun _ _ _ h => h) (Or.inl ⟨by rfl, ?_⟩) HS0.out ?_
    rotate_left
    · intro w hSw
      go_simp <;> with_reducible rfl
    dsimp only [Act.put]
    simp only [List.setIfInBounds_toArray, List.set_cons_zero, List.set_cons_succ]
    refine wpAnyH_take (i := 1) (oi := ⟨some 16, _, _, _, _, _⟩) (v := .bool true) rfl (by kernel_rfl) (by kernel_rfl) (by kernel_rfl) (fun _ _ _ h => h) (Or.inl ⟨by rfl, ?_⟩) HS0.out ?_
    · intro w hSw
      go_simp <;> with_reducible rfl
    dsimp only [Act.put]
    simp only [List.setIfInBounds_toArray, List.set_cons_zero, List.set_cons_succ]
    refine wpAnyH_take (i := 2) (oi := ⟨some 17, _, _, _, _, _⟩) (v := ?_) rfl (by kernel_rfl) (by kernel_rfl) (by kernel_rfl) (fun _ _ _ h => h) (Or.inl ⟨by rfl, ?_⟩) HS0.out ?_
    rotate_left
    · intro w hSw
      go_simp <;> with_reducible rfl
    dsimp only [Act.put]
    simp only [List.setIfInBounds_toArray, List.set_cons_zero, List.set_cons_succ]
    refine wpAnyH_take (i := 3) (oi := ⟨some 18, _, _, _, _, _⟩) (v := undef) rfl (by kernel_rfl) (by kernel_rfl) (by kernel_rfl) (fun _ _ _ h => h) (Or.inr ⟨by rfl, rfl⟩) HS0.out ?_
    dsimp only [Act.put]
    simp only [List.setIfInBounds_toArray, List.set_cons_zero, List.set_cons_succ]
    refine wpAnyH_take (i := 4) (oi := ⟨some 19, _, _, _, _, _⟩) (v := undef) rfl (by kernel_rfl) (by kernel_rfl) (by kernel_rfl) (fun _ _ _ h => h) (Or.inr ⟨by rfl, rfl⟩) HS0.out ?_
    dsimp only [Act.put]
    simp only [List.setIfInBounds_toArray, List.set_cons_zero, List.set_cons_succ]
    refine wpAnyH_take (i := 5) (oi := ⟨some 20, _, _, _, _, _⟩) (v := undef) rfl (by kernel_rfl) (by kernel_rfl) (by kernel_rfl) (fun _ _ _ h => h) (Or.inr ⟨by rfl, rfl⟩) HS0.out ?_
    dsimp only [Act.put]
    simp only [List.setIfInBounds_toArray, List.set_cons_zero, List.set_cons_succ]
    refine wpAnyH_take (i := 6) (oi := ⟨some 21, _, _, _, _, _⟩) (v := undef) rfl (by kernel_rfl) (by kernel_rfl) (by kernel_rfl) (fun _ _ _ h => h) (Or.inr ⟨by rfl, rfl⟩) HS0.out ?_
    dsimp only [Act.put]
    simp only [List.setIfInBounds_toArray, List.set_cons_zero, List.set_cons_succ]
    refine wpAnyH_take (i := 7) (oi := ⟨some 22, _, _, _, _, _⟩) (v := undef) rfl (by kernel_rfl) (by kernel_rfl) (by kernel_rfl) (fun _ _ _ h => h) (Or.inr ⟨by rfl, rfl⟩) HS0.out ?_
    dsimp only [Act.put]
    simp only [List.setIfInBounds_toArray, List.set_cons_zero, List.set_cons_succ]
    refine wpAnyH_take (i := 8) (oi := ⟨some 23, _, _, _, _, _⟩) (v := .bool true) rfl (by kernel_rfl) (by kernel_rfl) (by kernel_rfl) (fun _ _ _ h => h) (Or.inl ⟨by rfl, ?_⟩) HS0.out ?_
    · intro w hSw
      go_simp <;> with_reducible rfl
    dsimp only [Act.put]
    simp only [List.setIfInBounds_toArray, List.set_cons_zero, List.set_cons_succ]
    refine wpAnyH_done (by kernel_rfl) ?_ _
    go_wp2
    refine bodyPost_ret (results_tmp rfl _ _ _) rfl ?_
    exact ⟨by rw [HE21.out]; rfl, HBd.out⟩
end Go.Proofs.YtndhmpeabfmfgaaGreatDoor
/- proof.Extract. -/
namespace Go.Proofs.YtndhmpeabfmfgaaGreatDoor
open Go.RowKit Go.Lib
set_option linter.unusedVariables false
set_option linter.unusedSimpArgs false
attribute [local go_sem ↓] Go.wp_at_zero Go.wp_at_succ

/-- What lies through Extract. -/
def ExS (g4 g5 g6 : Nat) (pv v hv iv : Value) (p h : Hdr) (n c : Int) (Hs Is : List (List Nat)) (I : List Nat) (w' : World) : Prop :=
  PfAt w' g4 pv p n c v ∧ w'.rangeAt g5 0 (bys I) ∧ HdrAt w' g6 hv h ∧ HsIs w' pv p.P ∧ HsIs w' v Hs ∧ HsIs w' hv h.P ∧ HsIs w' iv Is
theorem ExS.below {g4 g5 g6 : Nat} {pv v hv iv : Value} {p h : Hdr} {n c : Int} {Hs Is : List (List Nat)} {I : List Nat} {w w' : World} (hs : ExS g4 g5 g6 pv v hv iv p h n c Hs Is I w) (hI : IsH I) (hb : Below w.heap.size w w') : ExS g4 g5 g6 pv v hv iv p h n c Hs Is I w' :=
  ⟨hs.1.below hb hs.1.1.lt, rangeAt_below hs.2.1 hb (World.block_lt_of_cell? w _ (hs.2.1 0 _ (bys_get _ 0 (by rw [hI.1]; omega)))), hs.2.2.1.below hb hs.2.2.1.1.lt, hs.2.2.2.1.below hb, hs.2.2.2.2.1.below hb, hs.2.2.2.2.2.1.below hb, hs.2.2.2.2.2.2.below hb⟩
theorem exs_below {g4 g5 g6 : Nat} {pv v hv iv : Value} {p h : Hdr} {n c : Int} {Hs Is : List (List Nat)} {I : List Nat} {w w' : World} {v2 : Value} {OL : List Nat} (hs : ExS g4 g5 g6 pv v hv iv p h n c Hs Is I w ∧ Byts w v2 OL ∧ Low w v2) (hI : IsH I) (hb : Below w.heap.size w w') :
    ExS g4 g5 g6 pv v hv iv p h n c Hs Is I w' ∧ Byts w' v2 OL ∧ Low w' v2 := ⟨hs.1.below hI hb, hs.2.1.below hb, hs.2.2.below hb⟩
/-- Whether a proof checks for what it is not of. -/
def extOk (p h : Hdr) (n c : Int) (Hs Is : List (List Nat)) (I : List Nat) : Prop :=
  h.P.length ≤ 255 ∧ prOk p n c Hs I (idF h) ∧ mrootF Is = h.a ∧ ¬ (c = (Is.length : Int) ∧ Is.getD n.toNat [] = I)
theorem hdrF_a (p h : Hdr) (hp : p.ok) (hk : h.ok) (hp2 : p.P.length ≤ 255) (hk2 : h.P.length ≤ 255) (h1 : ∀ H ∈ p.P, IsH H) (h2 : ∀ H ∈ h.P, IsH H) (he : hdrF p = hdrF h) : p.a = h.a := by
  unfold hdrF at he
  obtain ⟨e1, e2⟩ := List.append_inj he (by rw [le8t, le8t])
  have hl : p.P.length = h.P.length := by
    simp only [le8, List.take_succ_cons, List.take_zero, List.cons.injEq, and_true] at e1
    omega
  obtain ⟨_, e3⟩ := List.append_inj e2 (by rw [hdr_flat p h1, hdr_flat h h2, hl])
  obtain ⟨_, e4⟩ := List.append_inj e3 (by rw [hp.r.1, hk.r.1])
  exact (List.append_inj e4 (by rw [hp.a.1, hk.a.1])).1

end Go.Proofs.YtndhmpeabfmfgaaGreatDoor
/- proof.Extract, where it tells two texts. -/
namespace Go.Proofs.YtndhmpeabfmfgaaGreatDoor
open Go.RowKit Go.Lib
set_option linter.unusedVariables false
set_option linter.unusedSimpArgs false
attribute [local go_sem ↓] Go.wp_at_zero Go.wp_at_succ

theorem textB (X : List Nat) : textF (nmB ⟨#[98, 108, 111, 99, 107]⟩) [X].flatten = textF nBlock X := by rw [List.flatten_cons, List.flatten_nil, List.append_nil]; rfl
theorem textB_len (X : List Nat) : (textF nBlock X).length = 6 + X.length := by simp [textF, nBlock]; omega
end Go.Proofs.YtndhmpeabfmfgaaGreatDoor
