/- script.MayAct. -/
import Derived.Test.YtnohfondkcbdnaaGreatDoorG16
namespace Go.Proofs.YtnohfondkcbdnaaGreatDoor
open Go.RowKit Go.Lib
set_option linter.unusedVariables false
set_option linter.unusedSimpArgs false
attribute [local go_sem ↓] Go.wp_at_zero Go.wp_at_succ

theorem empt (nm : ByteArray) : nm.toList.isEmpty = decide (nm.size = 0) := by
  rw [ByteArray.toList_eq]
  obtain ⟨d⟩ := nm
  obtain ⟨l⟩ := d
  cases l <;> rfl
def kindA (a : ActM) : ActM := ⟨a.kind, .slice none 0 0, [], zeroH, 0, .slice none 0 0, [], .slice none 0 0, [], 0, 0, false⟩
theorem kindA_ok {w : World} {a : ActM} (h : a.ok w) : (kindA a).ok w := ⟨h.kind, byts_nil w, zeroH_h, by show 0 ≤ _; omega, nums_nil w, txs_nil w, ⟨by show _ ≤ (0 : Int); omega, by show (0 : Int) ≤ _; omega⟩, ⟨by show _ ≤ (0 : Int); omega, by show (0 : Int) ≤ _; omega⟩⟩
/-- What a kind's name and words are. -/
def Named (a : ActM) (nm s : ByteArray) : Prop :=
  (∀ w, Calls Tryz.prog 17 #[.int .i64 a.kind] w fun e w' => e = .returned (.agg [Value.string nm, .string s].toArray) ∧ Below w.heap.size w w') ∧ (∀ c ∈ runesOf s, c ∈ wordR) ∧ (runesOf s).foldl (keepF a) (kindA a) = bareF a ∧ (nm.size ≠ 0 ↔ (1 ≤ a.kind ∧ a.kind ≤ 9))
theorem named_of (a : ActM) : ∃ nm s, Named a nm s := by
  by_cases h : 1 ≤ a.kind ∧ a.kind ≤ 9
  · obtain ⟨K, hK⟩ : ∃ K : Nat, a.kind = (K : Int) := ⟨a.kind.toNat, by omega⟩
    have h1 : 1 ≤ K := by omega
    have h2 : K < 10 := by omega
    refine ⟨nmB K, wsB K, fun w => by rw [hK]; exact named_any K h1 h2 w, ?_⟩
    match K, h1, h2 with
    | 1, _, _ => exact ⟨by decide, by (obtain ⟨kind, bv, B, lock, nonce, pv, P, tv, T, n, m, bad⟩ := a); (obtain rfl : kind = 1 := hK); kernel_rfl, ⟨fun _ => h, fun _ => by decide⟩⟩
    | 2, _, _ => exact ⟨by decide, by (obtain ⟨kind, bv, B, lock, nonce, pv, P, tv, T, n, m, bad⟩ := a); (obtain rfl : kind = 2 := hK); kernel_rfl, ⟨fun _ => h, fun _ => by decide⟩⟩
    | 3, _, _ => exact ⟨by decide, by (obtain ⟨kind, bv, B, lock, nonce, pv, P, tv, T, n, m, bad⟩ := a); (obtain rfl : kind = 3 := hK); kernel_rfl, ⟨fun _ => h, fun _ => by decide⟩⟩
    | 4, _, _ => exact ⟨by decide, by (obtain ⟨kind, bv, B, lock, nonce, pv, P, tv, T, n, m, bad⟩ := a); (obtain rfl : kind = 4 := hK); kernel_rfl, ⟨fun _ => h, fun _ => by decide⟩⟩
    | 5, _, _ => exact ⟨by decide, by (obtain ⟨kind, bv, B, lock, nonce, pv, P, tv, T, n, m, bad⟩ := a); (obtain rfl : kind = 5 := hK); kernel_rfl, ⟨fun _ => h, fun _ => by decide⟩⟩
    | 6, _, _ => exact ⟨by decide, by (obtain ⟨kind, bv, B, lock, nonce, pv, P, tv, T, n, m, bad⟩ := a); (obtain rfl : kind = 6 := hK); kernel_rfl, ⟨fun _ => h, fun _ => by decide⟩⟩
    | 7, _, _ => exact ⟨by decide, by (obtain ⟨kind, bv, B, lock, nonce, pv, P, tv, T, n, m, bad⟩ := a); (obtain rfl : kind = 7 := hK); kernel_rfl, ⟨fun _ => h, fun _ => by decide⟩⟩
    | 8, _, _ => exact ⟨by decide, by (obtain ⟨kind, bv, B, lock, nonce, pv, P, tv, T, n, m, bad⟩ := a); (obtain rfl : kind = 8 := hK); kernel_rfl, ⟨fun _ => h, fun _ => by decide⟩⟩
    | 9, _, _ => exact ⟨by decide, by (obtain ⟨kind, bv, B, lock, nonce, pv, P, tv, T, n, m, bad⟩ := a); (obtain rfl : kind = 9 := hK); kernel_rfl, ⟨fun _ => h, fun _ => by decide⟩⟩
  · refine ⟨nmB 0, wsB 0, fun w => named_none a.kind (by omega) w, by decide, ?_, ⟨fun e => absurd rfl e, fun e => absurd e h⟩⟩
    have g1 : ¬ a.kind = 1 := by omega
    have g2 : ¬ a.kind = 2 := by omega
    have g3 : ¬ a.kind = 3 := by omega
    have g4 : ¬ a.kind = 4 := by omega
    have g5 : ¬ a.kind = 5 := by omega
    have g6 : ¬ a.kind = 6 := by omega
    have g7 : ¬ a.kind = 7 := by omega
    have g9 : ¬ a.kind = 9 := by omega
    unfold bareF
    simp [g1, g2, g3, g4, g5, g6, g7, g9]
    rfl
set_option maxRecDepth 100000 in
set_option maxHeartbeats 12800000 in
theorem smayact_any (a : ActM) (w : World) (ha : a.ok w) (R : Bool) (hR : R = true ↔ MayP a) :
    Calls Tryz.prog 7 #[.agg a.cells.toArray] w fun e w' => e = .returned (.bool R) ∧ Below w.heap.size w w' := by
  obtain ⟨nm, s, hN⟩ := named_of a
  have HN := Lib.hid hN
  have HR := Lib.hid hR
  have HA := Lib.hid ha
  have HA0 := Lib.hid ha
  obtain ⟨aB, cB, hbv⟩ := ha.B.form
  obtain ⟨aP, cP, hpv⟩ := ha.P.2.form
  obtain ⟨aT, cT, htv⟩ := ha.T.2.form
  have HV := Lib.hid (And.intro hbv (And.intro hpv htv))
  clear hR ha hbv hpv htv hN
  go_enter Tryz.func7, Tryz.ntmps7
  go_upto_region 1 with fail
  have hm := Arr.made w 30 a.cells
  have hb := (Below.refl w.heap.size w).alloc (Nat.le_refl _) (.cells a.cells.toArray 30)
  have HX := Lib.hid (show ActAt _ w.heap.size a from ⟨hm, HA.out.lock⟩)
  have HW := Lib.hid hb
  have HA1 := Lib.hid (HA.out.below hb)
  clear hm hb HA
  generalize World.alloc _ _ = w1 at *
  obtain ⟨g, hg⟩ : ∃ g, w.heap.size = g := ⟨_, rfl⟩
  rw [hg] at HX HW ⊢
  have HG := Lib.hid hg
  have HZ1 := Lib.hid (show g ≤ w1.heap.size from Nat.le_of_lt HX.out.lt)
  clear hg
  have kx_ := HX.out.kind
  have HC := Lib.hid (HN.out.1 w1)
  go_wp2_with fail
  refine HC.out.mono ?_
  rintro e w2 ⟨rfl, hb⟩
  dsimp only
  have HX2 := Lib.hid (HX.out.below hb HX.out.lt)
  have HW2 := Lib.hid (HW.out.trans (hb.mono HZ1.out))
  have HA2 := Lib.hid (HA1.out.below hb)
  have HZ2 := Lib.hid (Nat.le_trans HZ1.out hb.size)
  have HL2 := Lib.hid (show g < w2.heap.size from HX2.out.lt)
  clear hb HC HX HW HA1 HZ1 kx_
  iterate 4 (first | go_values | go_skip | go_guarded | go_step | go_upon)
  refine wpList_store_box (P := Tryz.prog) rfl 44 _ _ rfl w2 _ [.string nm, .string s] rfl rfl rfl size_nm (by simp [Value.oneCell']) ?_
  intro w3 hn3 hb3
  have HX3 := Lib.hid (HX2.out.below hb3.out HX2.out.lt)
  have HW3 := Lib.hid (HW2.out.trans (hb3.out.mono HZ2.out))
  have HA3 := Lib.hid (HA2.out.below hb3.out)
  have HZ3 := Lib.hid (Nat.le_trans HZ2.out hb3.out.size)
  have HN3 := Lib.hid hn3.out
  obtain ⟨g3, hg3⟩ : ∃ g, w2.heap.size = g := ⟨_, rfl⟩
  rw [hg3] at HN3 HL2 ⊢
  clear hn3 hb3 HX2 HW2 HA2 HZ2 hg3
  have kx_ := HX3.out.kind
  have hbu : ∀ w9, (Instr.build 30 #[(0, .int .i64 a.kind)]).run Tryz.prog w9 = .ok (.agg (kindA a).cells.toArray) w9 := fun w9 => bareO_b a HA3.out.lock.1 none none none 0 0 0 0 0 0 w9
  go_upto_region 2 with fail
  go_step
  iterate 6 (first | go_values | go_skip | go_guarded | go_step | go_upon)
  refine wpList_step (fun K9 hK9 => ?_)
  rw [if_pos (by kernel_rfl)]
  refine wp_build_run (P := Tryz.prog) 30 _ rfl #[(0, .int .i64 a.kind)] (by simp [Act.eval, Act.put]) _ (hbu _) ?_
  refine hK9 _ _ ?_
  clear hK9 K9
  dsimp only [Act.put]
  simp only [List.setIfInBounds_toArray, List.set_cons_zero, List.set_cons_succ]
  iterate 3 (first | go_values | go_skip | go_guarded | go_step | go_upon)
  refine wpList_store_box (P := Tryz.prog) rfl 30 _ _ rfl w3 _ (kindA a).cells rfl rfl (by rw [ActM.cells_len (kindA_ok HA3.out)]; rfl) (by rw [ActM.cells_len (kindA_ok HA3.out)]; exact size_act) (act_one (kindA_ok HA3.out)) ?_
  intro w4 hn4 hb4
  have HX4 := Lib.hid (HX3.out.below hb4.out HX3.out.lt)
  have HW4 := Lib.hid (HW3.out.trans (hb4.out.mono HZ3.out))
  have HA4 := Lib.hid (HA3.out.below hb4.out)
  have HZ4 := Lib.hid (Nat.le_trans HZ3.out hb4.out.size)
  have HN4 := Lib.hid (HN3.out.below hb4.out HN3.out.lt)
  have HK4 := Lib.hid (show ActAt w4 w3.heap.size (kindA a) from ⟨hn4.out, zeroH_h⟩)
  have HL3 := Lib.hid (show g3 < w3.heap.size from HN3.out.lt)
  obtain ⟨g4, hg4⟩ : ∃ g, w3.heap.size = g := ⟨_, rfl⟩
  rw [hg4] at HK4 HL3 ⊢
  clear hn4 hb4 HX3 HW3 HA3 HZ3 HN3 hg4 kx_ hbu
  have ks_ := HN4.out.cell 1
  dsimp only [List.getElem?_cons_zero, List.getElem?_cons_succ] at ks_
  have HXg := Lib.hid (Nat.lt_trans HL2.out HL3.out)
  go_wp2
  clear ks_
  have hit : (w4.iter s 0).heap[w4.heap.size]? = some (.stringIter s 0) := World.iter_heap w4 s 0
  have hbi : Below w4.heap.size w4 (w4.iter s 0) := (Below.refl _ _).alloc (Nat.le_refl _) _
  have HL4 := Lib.hid (show g4 < w4.heap.size from HK4.out.lt)
  have HX5 := Lib.hid (HX4.out.below hbi HX4.out.lt)
  have HW5 := Lib.hid (HW4.out.trans (hbi.mono HZ4.out))
  have HA5 := Lib.hid (HA4.out.below hbi)
  have HN5 := Lib.hid (HN4.out.below hbi HN4.out.lt)
  have HK5 := Lib.hid (HK4.out.below hbi HK4.out.lt)
  have HI5 := Lib.hid hit
  have HZ5 := Lib.hid (Nat.le_trans HZ4.out hbi.size)
  generalize w4.iter s 0 = w5 at *
  obtain ⟨r, hr⟩ : ∃ r, w4.heap.size = r := ⟨_, rfl⟩
  rw [hr] at HI5 HL4 ⊢
  clear hit hbi hr HX4 HW4 HA4 HN4 HK4 HZ4
  go_loopg [6] s.size (fun gg v6 wq => ∃ k : Nat, Hid (gg + k = s.size) ∧ Hid (wq.heap[r]? = some (.stringIter s k)) ∧ Hid (ActAt wq g4 (((runesOf s).take k).foldl (keepF a) (kindA a))) ∧ Hid (Below g4 w5 wq))
  case atStart => exact ⟨0, rfl, HI5.out, HK5.out, Below.refl _ _⟩
  case round =>
    obtain ⟨k, hk, hi, hact, hb⟩ := hrel
    have HK := Lib.hid hk.out
    have HI := Lib.hid hi.out
    have HB := Lib.hid hact.out
    have HBq := Lib.hid hb.out
    clear hk hi hact hb HI5 HK5
    have hrl : (runesOf s).length = s.size := by simp [runesOf]
    cases gk with
    | zero =>
      have hn := next_over (P := Tryz.prog) wr r s k 0 HI.out (by have := HK.out; omega)
      have HFin := Lib.hid (show ActAt wr g4 (bareF a) by
        have h := HB.out
        rw [List.take_of_length_le (by have := HK.out; omega), HN.out.2.2.1] at h
        exact h)
      clear HI HB hrl
      go_upto_region 9 with fail
      have HX9 := Lib.hid (HX5.out.below HBq.out HXg.out)
      have HW9 := Lib.hid (HW5.out.trans (HBq.out.mono (Nat.le_of_lt HXg.out)))
      have HA9 := Lib.hid (HA0.out.below (w' := wr) (by rw [HG.out]; exact HW9.out))
      have HZ9 := Lib.hid (Nat.le_of_lt HX9.out.lt)
      have hc0 := (HN5.out.below HBq.out HL3.out).cell 0
      dsimp only [List.getElem?_cons_zero] at hc0
      obtain ⟨S, hS⟩ : ∃ S, actEq a (bareF a) = S := ⟨_, rfl⟩
      have HC := Lib.hid (sact_any a (bareF a) wr HA9.out (bareF_ok HA9.out))
      rw [hS] at HC
      have HS := Lib.hid hS
      have HSa := Lib.hid (show (Tryz.prog.info? 30).map (·.size) = some a.cells.length by rw [ActM.cells_len HA9.out]; exact size_act)
      have HSb := Lib.hid (show (Tryz.prog.info? 30).map (·.size) = some (bareF a).cells.length by rw [ActM.cells_len (bareF_ok HA9.out)]; exact size_act)
      clear hS HX5 HW5 HA5 HBq HN5
      by_cases hin : 1 ≤ a.kind ∧ a.kind ≤ 9
      · have hne : nm.toList.isEmpty = false := by rw [empt]; exact decide_eq_false (HN.out.2.2.2.2 hin)
        have HIn := Lib.hid hin
        clear hin
        go_step
        iterate 12 (first | go_values | go_skip | go_guarded | go_step | go_upon)
        refine wpList_step (fun K9 hK9 => ?_)
        rw [if_pos (by kernel_rfl)]
        refine wp_load_mid (P := Tryz.prog) 30 _ rfl g 0 rfl _ _ HX9.out.1.range Tryz.underlying30 rfl HSa.out ?_
        refine hK9 _ _ ?_
        clear hK9 K9
        dsimp only [Act.put]
        simp only [List.setIfInBounds_toArray, List.set_cons_zero, List.set_cons_succ]
        refine wpList_step (fun K9 hK9 => ?_)
        rw [if_pos (by kernel_rfl)]
        refine wp_load_mid (P := Tryz.prog) 30 _ rfl g4 0 rfl _ _ HFin.out.1.range Tryz.underlying30 rfl HSb.out ?_
        refine hK9 _ _ ?_
        clear hK9 K9
        dsimp only [Act.put]
        simp only [List.setIfInBounds_toArray, List.set_cons_zero, List.set_cons_succ]
        cases S
        rotate_left
        · go_wp2_with fail
          with_reducible refine HC.out.mono ?_
          rintro e w6 ⟨rfl, hb⟩
          dsimp only
          have HX8 := Lib.hid (HX9.out.below hb HX9.out.lt)
          have HW8 := Lib.hid (HW9.out.trans (hb.mono HZ9.out))
          have HA8 := Lib.hid (HA9.out.below hb)
          have HZ8 := Lib.hid (Nat.le_trans HZ9.out hb.size)
          clear hb HC HX9 HW9 HA9 HZ9 hc0
          have HX9 := HX8
          have HW9 := HW8
          have HA9 := HA8
          have HZ9 := HZ8
          clear HX8 HW8 HA8 HZ8
          obtain ⟨wr, hwr⟩ : ∃ wr, w6 = wr := ⟨_, rfl⟩
          rw [hwr] at HX9 HW9 HA9 HZ9 ⊢
          clear hwr
          have fb := HX9.out.bv
          have fp := HX9.out.pv
          have ft := HX9.out.tv
          rw [HV.out.1] at fb
          rw [HV.out.2.1] at fp
          rw [HV.out.2.2] at ft
          by_cases h3 : a.B.length ≤ 1048576
          · have q3 : ((a.B.length : Nat) : Int) ≤ 1048576 := by omega
            have H3 := Lib.hid h3
            clear h3
            by_cases h4 : a.P.length ≤ 20
            · have q4 : ((a.P.length : Nat) : Int) ≤ 20 := by omega
              have H4 := Lib.hid h4
              clear h4
              obtain ⟨R1, hR1⟩ : ∃ R1 : Bool, R1 = true ↔ ∀ z ∈ a.P, inN z = true := ⟨a.P.all inN, List.all_eq_true⟩
              have HC := Lib.hid (odd_has a.P a.pv wr HA9.out.P R1 hR1)
              rw [HV.out.2.1] at HC
              have HR1 := Lib.hid hR1
              clear hR1
              cases R1
              rotate_left
              · go_wp2_with fail
                with_reducible refine HC.out.mono ?_
                rintro e w6 ⟨rfl, hb⟩
                dsimp only
                have HX8 := Lib.hid (HX9.out.below hb HX9.out.lt)
                have HW8 := Lib.hid (HW9.out.trans (hb.mono HZ9.out))
                have HA8 := Lib.hid (HA9.out.below hb)
                have HZ8 := Lib.hid (Nat.le_trans HZ9.out hb.size)
                clear hb HC HX9 HW9 HA9 HZ9 fb fp ft q3 q4
                have HX9 := HX8
                have HW9 := HW8
                have HA9 := HA8
                have HZ9 := HZ8
                clear HX8 HW8 HA8 HZ8
                obtain ⟨wr, hwr⟩ : ∃ wr, w6 = wr := ⟨_, rfl⟩
                rw [hwr] at HX9 HW9 HA9 HZ9 ⊢
                clear hwr
                have ft := HX9.out.tv
                rw [HV.out.2.2] at ft
                by_cases h5 : a.T.length ≤ 20
                · have q5 : ((a.T.length : Nat) : Int) ≤ 20 := by omega
                  have H5 := Lib.hid h5
                  clear h5
                  obtain ⟨R2, hR2⟩ : ∃ R2 : Bool, R2 = true ↔ ∀ z ∈ a.T, txOk z = true := ⟨a.T.all txOk, List.all_eq_true⟩
                  have HC := Lib.hid (badtx_has a.T a.tv wr HA9.out.T R2 hR2)
                  rw [HV.out.2.2] at HC
                  have HR2 := Lib.hid hR2
                  clear hR2
                  cases R2
                  rotate_left
                  · go_wp2_with fail
                    with_reducible refine HC.out.mono ?_
                    rintro e w6 ⟨rfl, hb⟩
                    dsimp only
                    have HX8 := Lib.hid (HX9.out.below hb HX9.out.lt)
                    have HW8 := Lib.hid (HW9.out.trans (hb.mono HZ9.out))
                    have HA8 := Lib.hid (HA9.out.below hb)
                    have HZ8 := Lib.hid (Nat.le_trans HZ9.out hb.size)
                    clear hb HC HX9 HW9 HA9 HZ9 ft q5
                    have HX9 := HX8
                    have HW9 := HW8
                    have HA9 := HA8
                    have HZ9 := HZ8
                    clear HX8 HW8 HA8 HZ8
                    obtain ⟨wr, hwr⟩ : ∃ wr, w6 = wr := ⟨_, rfl⟩
                    rw [hwr] at HX9 HW9 HA9 HZ9 ⊢
                    clear hwr
                    have fn := HX9.out.n
                    obtain ⟨Gn, hG⟩ : ∃ G, inN a.n = G := ⟨_, rfl⟩
                    have HC := Lib.hid (within_any a.n wr)
                    rw [hG] at HC
                    have HGn := Lib.hid hG
                    clear hG
                    cases Gn
                    rotate_left
                    · go_wp2_with fail
                      with_reducible refine HC.out.mono ?_
                      rintro e w6 ⟨rfl, hb⟩
                      dsimp only
                      have HX8 := Lib.hid (HX9.out.below hb HX9.out.lt)
                      have HW8 := Lib.hid (HW9.out.trans (hb.mono HZ9.out))
                      have HA8 := Lib.hid (HA9.out.below hb)
                      have HZ8 := Lib.hid (Nat.le_trans HZ9.out hb.size)
                      clear hb HC HX9 HW9 HA9 HZ9 fn
                      have HX9 := HX8
                      have HW9 := HW8
                      have HA9 := HA8
                      have HZ9 := HZ8
                      clear HX8 HW8 HA8 HZ8
                      obtain ⟨wr, hwr⟩ : ∃ wr, w6 = wr := ⟨_, rfl⟩
                      rw [hwr] at HX9 HW9 HA9 HZ9 ⊢
                      clear hwr
                      have fn := HX9.out.m
                      obtain ⟨Gm, hG⟩ : ∃ G, inN a.m = G := ⟨_, rfl⟩
                      have HC := Lib.hid (within_any a.m wr)
                      rw [hG] at HC
                      have HGm := Lib.hid hG
                      clear hG
                      cases Gm
                      rotate_left
                      · go_wp2_with fail
                        with_reducible refine HC.out.mono ?_
                        rintro e w6 ⟨rfl, hb⟩
                        dsimp only
                        have HX8 := Lib.hid (HX9.out.below hb HX9.out.lt)
                        have HW8 := Lib.hid (HW9.out.trans (hb.mono HZ9.out))
                        have HA8 := Lib.hid (HA9.out.below hb)
                        have HZ8 := Lib.hid (Nat.le_trans HZ9.out hb.size)
                        clear hb HC HX9 HW9 HA9 HZ9 fn
                        have HX9 := HX8
                        have HW9 := HW8
                        have HA9 := HA8
                        have HZ9 := HZ8
                        clear HX8 HW8 HA8 HZ8
                        obtain ⟨wr, hwr⟩ : ∃ wr, w6 = wr := ⟨_, rfl⟩
                        rw [hwr] at HX9 HW9 HA9 HZ9 ⊢
                        clear hwr
                        have HF := Lib.hid (show R = true from HR.out.2 ⟨HIn.out, HS.out, H3.out, H4.out, H5.out, (fun z hz => by
                          rcases List.mem_append.1 hz with hz | hz
                          · simp only [List.mem_cons, List.not_mem_nil, or_false] at hz
                            rcases hz with rfl | rfl
                            · exact HGn.out
                            · exact HGm.out
                          · exact (by simpa using HR1.out : ∀ z ∈ a.P, inN z = true) z hz), (by simpa using HR2.out : ∀ z ∈ a.T, txOk z = true)⟩)
                        go_wp2
                        go_ret
                        exact ⟨by rw [HF.out]; rfl, by rw [HG.out]; exact HW9.out⟩
                      · go_wp2_with fail
                        with_reducible refine HC.out.mono ?_
                        rintro e w6 ⟨rfl, hb⟩
                        dsimp only
                        have HX8 := Lib.hid (HX9.out.below hb HX9.out.lt)
                        have HW8 := Lib.hid (HW9.out.trans (hb.mono HZ9.out))
                        have HA8 := Lib.hid (HA9.out.below hb)
                        have HZ8 := Lib.hid (Nat.le_trans HZ9.out hb.size)
                        clear hb HC HX9 HW9 HA9 HZ9 fn
                        have HX9 := HX8
                        have HW9 := HW8
                        have HA9 := HA8
                        have HZ9 := HZ8
                        clear HX8 HW8 HA8 HZ8
                        obtain ⟨wr, hwr⟩ : ∃ wr, w6 = wr := ⟨_, rfl⟩
                        rw [hwr] at HX9 HW9 HA9 HZ9 ⊢
                        clear hwr
                        have HF := Lib.hid (bad_false HR.out (fun h => (by have := h.2.2.2.2.2.1 a.m (by simp); rw [HGm.out] at this; cases this)))
                        go_wp2
                        go_ret
                        exact ⟨by rw [HF.out]; rfl, by rw [HG.out]; exact HW9.out⟩
                    · go_wp2_with fail
                      with_reducible refine HC.out.mono ?_
                      rintro e w6 ⟨rfl, hb⟩
                      dsimp only
                      have HX8 := Lib.hid (HX9.out.below hb HX9.out.lt)
                      have HW8 := Lib.hid (HW9.out.trans (hb.mono HZ9.out))
                      have HA8 := Lib.hid (HA9.out.below hb)
                      have HZ8 := Lib.hid (Nat.le_trans HZ9.out hb.size)
                      clear hb HC HX9 HW9 HA9 HZ9 fn
                      have HX9 := HX8
                      have HW9 := HW8
                      have HA9 := HA8
                      have HZ9 := HZ8
                      clear HX8 HW8 HA8 HZ8
                      obtain ⟨wr, hwr⟩ : ∃ wr, w6 = wr := ⟨_, rfl⟩
                      rw [hwr] at HX9 HW9 HA9 HZ9 ⊢
                      clear hwr
                      have HF := Lib.hid (bad_false HR.out (fun h => (by have := h.2.2.2.2.2.1 a.n (by simp); rw [HGn.out] at this; cases this)))
                      go_wp2
                      go_ret
                      exact ⟨by rw [HF.out]; rfl, by rw [HG.out]; exact HW9.out⟩
                  · go_wp2_with fail
                    with_reducible refine HC.out.mono ?_
                    rintro e w6 ⟨rfl, hb⟩
                    dsimp only
                    have HX8 := Lib.hid (HX9.out.below hb HX9.out.lt)
                    have HW8 := Lib.hid (HW9.out.trans (hb.mono HZ9.out))
                    have HA8 := Lib.hid (HA9.out.below hb)
                    have HZ8 := Lib.hid (Nat.le_trans HZ9.out hb.size)
                    clear hb HC HX9 HW9 HA9 HZ9 ft q5
                    have HX9 := HX8
                    have HW9 := HW8
                    have HA9 := HA8
                    have HZ9 := HZ8
                    clear HX8 HW8 HA8 HZ8
                    obtain ⟨wr, hwr⟩ : ∃ wr, w6 = wr := ⟨_, rfl⟩
                    rw [hwr] at HX9 HW9 HA9 HZ9 ⊢
                    clear hwr
                    have HF := Lib.hid (bad_false HR.out (fun h => (by have := HR2.out.2 h.2.2.2.2.2.2; cases this)))
                    go_wp2
                    go_ret
                    exact ⟨by rw [HF.out]; rfl, by rw [HG.out]; exact HW9.out⟩
                · have q5 : ¬ (((a.T.length : Nat) : Int) ≤ 20) := by omega
                  have HF := Lib.hid (bad_false HR.out (fun h => h5 h.2.2.2.2.1))
                  clear h5
                  go_wp2
                  go_ret
                  exact ⟨by rw [HF.out]; rfl, by rw [HG.out]; exact HW9.out⟩
              · go_wp2_with fail
                with_reducible refine HC.out.mono ?_
                rintro e w6 ⟨rfl, hb⟩
                dsimp only
                have HX8 := Lib.hid (HX9.out.below hb HX9.out.lt)
                have HW8 := Lib.hid (HW9.out.trans (hb.mono HZ9.out))
                have HA8 := Lib.hid (HA9.out.below hb)
                have HZ8 := Lib.hid (Nat.le_trans HZ9.out hb.size)
                clear hb HC HX9 HW9 HA9 HZ9 fb fp ft q3 q4
                have HX9 := HX8
                have HW9 := HW8
                have HA9 := HA8
                have HZ9 := HZ8
                clear HX8 HW8 HA8 HZ8
                obtain ⟨wr, hwr⟩ : ∃ wr, w6 = wr := ⟨_, rfl⟩
                rw [hwr] at HX9 HW9 HA9 HZ9 ⊢
                clear hwr
                have HF := Lib.hid (bad_false HR.out (fun h => (by have := HR1.out.2 (fun z hz => h.2.2.2.2.2.1 z (List.mem_append_right _ hz)); cases this)))
                go_wp2
                go_ret
                exact ⟨by rw [HF.out]; rfl, by rw [HG.out]; exact HW9.out⟩
            · have q4 : ¬ (((a.P.length : Nat) : Int) ≤ 20) := by omega
              have HF := Lib.hid (bad_false HR.out (fun h => h4 h.2.2.2.1))
              clear h4
              go_wp2
              go_ret
              exact ⟨by rw [HF.out]; rfl, by rw [HG.out]; exact HW9.out⟩
          · have q3 : ¬ (((a.B.length : Nat) : Int) ≤ 1048576) := by omega
            have HF := Lib.hid (bad_false HR.out (fun h => h3 h.2.2.1))
            clear h3
            go_wp2
            go_ret
            exact ⟨by rw [HF.out]; rfl, by rw [HG.out]; exact HW9.out⟩
        · go_wp2_with fail
          with_reducible refine HC.out.mono ?_
          rintro e w6 ⟨rfl, hb⟩
          dsimp only
          have HX8 := Lib.hid (HX9.out.below hb HX9.out.lt)
          have HW8 := Lib.hid (HW9.out.trans (hb.mono HZ9.out))
          have HA8 := Lib.hid (HA9.out.below hb)
          have HZ8 := Lib.hid (Nat.le_trans HZ9.out hb.size)
          clear hb HC HX9 HW9 HA9 HZ9 hc0
          have HX9 := HX8
          have HW9 := HW8
          have HA9 := HA8
          have HZ9 := HZ8
          clear HX8 HW8 HA8 HZ8
          obtain ⟨wr, hwr⟩ : ∃ wr, w6 = wr := ⟨_, rfl⟩
          rw [hwr] at HX9 HW9 HA9 HZ9 ⊢
          clear hwr
          have HF := Lib.hid (bad_false HR.out (fun h => (by have := h.2.1; rw [HS.out] at this; cases this)))
          go_wp2
          go_ret
          exact ⟨by rw [HF.out]; rfl, by rw [HG.out]; exact HW9.out⟩
      · have hne : nm.toList.isEmpty = true := by rw [empt]; exact decide_eq_true (Classical.byContradiction (fun h => hin (HN.out.2.2.2.1 h)))
        have HF := Lib.hid (bad_false HR.out (fun h => hin h.1))
        clear hin
        go_wp2
        go_ret
        exact ⟨by rw [HF.out]; rfl, by rw [HG.out]; exact HW9.out⟩
    | succ gg =>
      obtain ⟨c, hc⟩ : ∃ c, (runesOf s)[k]? = some c := ⟨_, List.getElem?_eq_getElem (by have := HK.out; omega)⟩
      have hcw : c ∈ wordR := HN.out.2.1 c (List.mem_of_getElem? hc)
      have HCs := Lib.hid (show ((runesOf s).take (k + 1)).foldl (keepF a) (kindA a) = keepF a (((runesOf s).take k).foldl (keepF a) (kindA a)) c by
        rw [List.take_add_one, hc, List.foldl_append]; rfl)
      obtain ⟨b, hbb⟩ : ∃ b, ((runesOf s).take k).foldl (keepF a) (kindA a) = b := ⟨_, rfl⟩
      rw [hbb] at HB HCs
      clear hbb hrl
      have HRl := Lib.hid (show r < wr.heap.size from (Array.getElem?_eq_some_iff.1 HI.out).1)
      have HXq := Lib.hid (HX5.out.below HBq.out HXg.out)
      simp only [wordR, List.mem_cons, List.not_mem_nil, or_false] at hcw
      rcases hcw with rfl | rfl | rfl | rfl | rfl | rfl | rfl | rfl
      · obtain ⟨w6, hn, hi6, hb6⟩ := next_at (P := Tryz.prog) wr r s k 98 0 HI.out hc (by omega)
        have HI6 := Lib.hid hi6
        have HB6 := Lib.hid hb6
        clear hc hi6 hb6
        go_wp2_with fail
        with_reducible refine (keep_any w6).mono ?_
        rintro e w7 ⟨rfl, ho7, hb7⟩
        dsimp only
        have hl := keep_at_b ho7
        have HX7 := Lib.hid ((HXq.out.below HB6.out (Nat.lt_trans HXg.out HL4.out)).below hb7 (Nat.lt_of_lt_of_le HXq.out.lt HB6.out.size))
        have HB7 := Lib.hid ((HB.out.below HB6.out HL4.out).below hb7 (Nat.lt_of_lt_of_le HB.out.lt HB6.out.size))
        have HI7 := Lib.hid ((hb7.block r (Nat.lt_of_lt_of_le HRl.out HB6.out.size)).trans HI6.out)
        have HD7 := Lib.hid ((HBq.out.trans (HB6.out.mono (Nat.le_of_lt HL4.out))).trans (hb7.mono (Nat.le_trans (Nat.le_of_lt HB.out.lt) HB6.out.size)))
        have HCl := Lib.hid (keep1_any g g4 a b w7 HX7.out HB7.out aB _ cB HV.out.1)
        clear ho7 hb7 hn
        go_wp2_with fail
        refine HCl.out.mono ?_
        rintro e w8 ⟨rfl, ha8, hb8, hq8⟩
        dsimp only
        have HF8 := Lib.hid (And.intro ha8 (And.intro (HD7.out.trans hb8) ((hq8 r (Nat.ne_of_gt HL4.out)).trans HI7.out)))
        clear ha8 hb8 hq8 hl HCl
        go_wp2
        go_roundg gg
        case measure => omega
        case rel => exact ⟨k + 1, by show _ = _; have := HK.out; omega, HF8.out.2.2, by show ActAt _ _ _; rw [HCs.out]; exact HF8.out.1, HF8.out.2.1⟩
      · obtain ⟨w6, hn, hi6, hb6⟩ := next_at (P := Tryz.prog) wr r s k 104 0 HI.out hc (by omega)
        have HI6 := Lib.hid hi6
        have HB6 := Lib.hid hb6
        clear hc hi6 hb6
        go_wp2_with fail
        with_reducible refine (keep_any w6).mono ?_
        rintro e w7 ⟨rfl, ho7, hb7⟩
        dsimp only
        have hl := keep_at_h ho7
        have HX7 := Lib.hid ((HXq.out.below HB6.out (Nat.lt_trans HXg.out HL4.out)).below hb7 (Nat.lt_of_lt_of_le HXq.out.lt HB6.out.size))
        have HB7 := Lib.hid ((HB.out.below HB6.out HL4.out).below hb7 (Nat.lt_of_lt_of_le HB.out.lt HB6.out.size))
        have HI7 := Lib.hid ((hb7.block r (Nat.lt_of_lt_of_le HRl.out HB6.out.size)).trans HI6.out)
        have HD7 := Lib.hid ((HBq.out.trans (HB6.out.mono (Nat.le_of_lt HL4.out))).trans (hb7.mono (Nat.le_trans (Nat.le_of_lt HB.out.lt) HB6.out.size)))
        have HCl := Lib.hid (keep2_any g g4 a b w7 HX7.out HB7.out)
        clear ho7 hb7 hn
        go_wp2_with fail
        refine HCl.out.mono ?_
        rintro e w8 ⟨rfl, ha8, hb8, hq8⟩
        dsimp only
        have HF8 := Lib.hid (And.intro ha8 (And.intro (HD7.out.trans hb8) ((hq8 r (Nat.ne_of_gt HL4.out)).trans HI7.out)))
        clear ha8 hb8 hq8 hl HCl
        go_wp2
        go_roundg gg
        case measure => omega
        case rel => exact ⟨k + 1, by show _ = _; have := HK.out; omega, HF8.out.2.2, by show ActAt _ _ _; rw [HCs.out]; exact HF8.out.1, HF8.out.2.1⟩
      · obtain ⟨w6, hn, hi6, hb6⟩ := next_at (P := Tryz.prog) wr r s k 111 0 HI.out hc (by omega)
        have HI6 := Lib.hid hi6
        have HB6 := Lib.hid hb6
        clear hc hi6 hb6
        go_wp2_with fail
        with_reducible refine (keep_any w6).mono ?_
        rintro e w7 ⟨rfl, ho7, hb7⟩
        dsimp only
        have hl := keep_at_o ho7
        have HX7 := Lib.hid ((HXq.out.below HB6.out (Nat.lt_trans HXg.out HL4.out)).below hb7 (Nat.lt_of_lt_of_le HXq.out.lt HB6.out.size))
        have HB7 := Lib.hid ((HB.out.below HB6.out HL4.out).below hb7 (Nat.lt_of_lt_of_le HB.out.lt HB6.out.size))
        have HI7 := Lib.hid ((hb7.block r (Nat.lt_of_lt_of_le HRl.out HB6.out.size)).trans HI6.out)
        have HD7 := Lib.hid ((HBq.out.trans (HB6.out.mono (Nat.le_of_lt HL4.out))).trans (hb7.mono (Nat.le_trans (Nat.le_of_lt HB.out.lt) HB6.out.size)))
        have HCl := Lib.hid (keep3_any g g4 a b w7 HX7.out HB7.out)
        clear ho7 hb7 hn
        go_wp2_with fail
        refine HCl.out.mono ?_
        rintro e w8 ⟨rfl, ha8, hb8, hq8⟩
        dsimp only
        have HF8 := Lib.hid (And.intro ha8 (And.intro (HD7.out.trans hb8) ((hq8 r (Nat.ne_of_gt HL4.out)).trans HI7.out)))
        clear ha8 hb8 hq8 hl HCl
        go_wp2
        go_roundg gg
        case measure => omega
        case rel => exact ⟨k + 1, by show _ = _; have := HK.out; omega, HF8.out.2.2, by show ActAt _ _ _; rw [HCs.out]; exact HF8.out.1, HF8.out.2.1⟩
      · obtain ⟨w6, hn, hi6, hb6⟩ := next_at (P := Tryz.prog) wr r s k 112 0 HI.out hc (by omega)
        have HI6 := Lib.hid hi6
        have HB6 := Lib.hid hb6
        clear hc hi6 hb6
        go_wp2_with fail
        with_reducible refine (keep_any w6).mono ?_
        rintro e w7 ⟨rfl, ho7, hb7⟩
        dsimp only
        have hl := keep_at_p ho7
        have HX7 := Lib.hid ((HXq.out.below HB6.out (Nat.lt_trans HXg.out HL4.out)).below hb7 (Nat.lt_of_lt_of_le HXq.out.lt HB6.out.size))
        have HB7 := Lib.hid ((HB.out.below HB6.out HL4.out).below hb7 (Nat.lt_of_lt_of_le HB.out.lt HB6.out.size))
        have HI7 := Lib.hid ((hb7.block r (Nat.lt_of_lt_of_le HRl.out HB6.out.size)).trans HI6.out)
        have HD7 := Lib.hid ((HBq.out.trans (HB6.out.mono (Nat.le_of_lt HL4.out))).trans (hb7.mono (Nat.le_trans (Nat.le_of_lt HB.out.lt) HB6.out.size)))
        have HCl := Lib.hid (keep4_any g g4 a b w7 HX7.out HB7.out aP _ cP HV.out.2.1)
        clear ho7 hb7 hn
        go_wp2_with fail
        refine HCl.out.mono ?_
        rintro e w8 ⟨rfl, ha8, hb8, hq8⟩
        dsimp only
        have HF8 := Lib.hid (And.intro ha8 (And.intro (HD7.out.trans hb8) ((hq8 r (Nat.ne_of_gt HL4.out)).trans HI7.out)))
        clear ha8 hb8 hq8 hl HCl
        go_wp2
        go_roundg gg
        case measure => omega
        case rel => exact ⟨k + 1, by show _ = _; have := HK.out; omega, HF8.out.2.2, by show ActAt _ _ _; rw [HCs.out]; exact HF8.out.1, HF8.out.2.1⟩
      · obtain ⟨w6, hn, hi6, hb6⟩ := next_at (P := Tryz.prog) wr r s k 103 0 HI.out hc (by omega)
        have HI6 := Lib.hid hi6
        have HB6 := Lib.hid hb6
        clear hc hi6 hb6
        go_wp2_with fail
        with_reducible refine (keep_any w6).mono ?_
        rintro e w7 ⟨rfl, ho7, hb7⟩
        dsimp only
        have hl := keep_at_g ho7
        have HX7 := Lib.hid ((HXq.out.below HB6.out (Nat.lt_trans HXg.out HL4.out)).below hb7 (Nat.lt_of_lt_of_le HXq.out.lt HB6.out.size))
        have HB7 := Lib.hid ((HB.out.below HB6.out HL4.out).below hb7 (Nat.lt_of_lt_of_le HB.out.lt HB6.out.size))
        have HI7 := Lib.hid ((hb7.block r (Nat.lt_of_lt_of_le HRl.out HB6.out.size)).trans HI6.out)
        have HD7 := Lib.hid ((HBq.out.trans (HB6.out.mono (Nat.le_of_lt HL4.out))).trans (hb7.mono (Nat.le_trans (Nat.le_of_lt HB.out.lt) HB6.out.size)))
        have HCl := Lib.hid (keep5_any g g4 a b w7 HX7.out HB7.out)
        clear ho7 hb7 hn
        go_wp2_with fail
        refine HCl.out.mono ?_
        rintro e w8 ⟨rfl, ha8, hb8, hq8⟩
        dsimp only
        have HF8 := Lib.hid (And.intro ha8 (And.intro (HD7.out.trans hb8) ((hq8 r (Nat.ne_of_gt HL4.out)).trans HI7.out)))
        clear ha8 hb8 hq8 hl HCl
        go_wp2
        go_roundg gg
        case measure => omega
        case rel => exact ⟨k + 1, by show _ = _; have := HK.out; omega, HF8.out.2.2, by show ActAt _ _ _; rw [HCs.out]; exact HF8.out.1, HF8.out.2.1⟩
      · obtain ⟨w6, hn, hi6, hb6⟩ := next_at (P := Tryz.prog) wr r s k 110 0 HI.out hc (by omega)
        have HI6 := Lib.hid hi6
        have HB6 := Lib.hid hb6
        clear hc hi6 hb6
        go_wp2_with fail
        with_reducible refine (keep_any w6).mono ?_
        rintro e w7 ⟨rfl, ho7, hb7⟩
        dsimp only
        have hl := keep_at_n ho7
        have HX7 := Lib.hid ((HXq.out.below HB6.out (Nat.lt_trans HXg.out HL4.out)).below hb7 (Nat.lt_of_lt_of_le HXq.out.lt HB6.out.size))
        have HB7 := Lib.hid ((HB.out.below HB6.out HL4.out).below hb7 (Nat.lt_of_lt_of_le HB.out.lt HB6.out.size))
        have HI7 := Lib.hid ((hb7.block r (Nat.lt_of_lt_of_le HRl.out HB6.out.size)).trans HI6.out)
        have HD7 := Lib.hid ((HBq.out.trans (HB6.out.mono (Nat.le_of_lt HL4.out))).trans (hb7.mono (Nat.le_trans (Nat.le_of_lt HB.out.lt) HB6.out.size)))
        have HCl := Lib.hid (keep6_any g g4 a b w7 HX7.out HB7.out)
        clear ho7 hb7 hn
        go_wp2_with fail
        refine HCl.out.mono ?_
        rintro e w8 ⟨rfl, ha8, hb8, hq8⟩
        dsimp only
        have HF8 := Lib.hid (And.intro ha8 (And.intro (HD7.out.trans hb8) ((hq8 r (Nat.ne_of_gt HL4.out)).trans HI7.out)))
        clear ha8 hb8 hq8 hl HCl
        go_wp2
        go_roundg gg
        case measure => omega
        case rel => exact ⟨k + 1, by show _ = _; have := HK.out; omega, HF8.out.2.2, by show ActAt _ _ _; rw [HCs.out]; exact HF8.out.1, HF8.out.2.1⟩
      · obtain ⟨w6, hn, hi6, hb6⟩ := next_at (P := Tryz.prog) wr r s k 109 0 HI.out hc (by omega)
        have HI6 := Lib.hid hi6
        have HB6 := Lib.hid hb6
        clear hc hi6 hb6
        go_wp2_with fail
        with_reducible refine (keep_any w6).mono ?_
        rintro e w7 ⟨rfl, ho7, hb7⟩
        dsimp only
        have hl := keep_at_m ho7
        have HX7 := Lib.hid ((HXq.out.below HB6.out (Nat.lt_trans HXg.out HL4.out)).below hb7 (Nat.lt_of_lt_of_le HXq.out.lt HB6.out.size))
        have HB7 := Lib.hid ((HB.out.below HB6.out HL4.out).below hb7 (Nat.lt_of_lt_of_le HB.out.lt HB6.out.size))
        have HI7 := Lib.hid ((hb7.block r (Nat.lt_of_lt_of_le HRl.out HB6.out.size)).trans HI6.out)
        have HD7 := Lib.hid ((HBq.out.trans (HB6.out.mono (Nat.le_of_lt HL4.out))).trans (hb7.mono (Nat.le_trans (Nat.le_of_lt HB.out.lt) HB6.out.size)))
        have HCl := Lib.hid (keep7_any g g4 a b w7 HX7.out HB7.out)
        clear ho7 hb7 hn
        go_wp2_with fail
        refine HCl.out.mono ?_
        rintro e w8 ⟨rfl, ha8, hb8, hq8⟩
        dsimp only
        have HF8 := Lib.hid (And.intro ha8 (And.intro (HD7.out.trans hb8) ((hq8 r (Nat.ne_of_gt HL4.out)).trans HI7.out)))
        clear ha8 hb8 hq8 hl HCl
        go_wp2
        go_roundg gg
        case measure => omega
        case rel => exact ⟨k + 1, by show _ = _; have := HK.out; omega, HF8.out.2.2, by show ActAt _ _ _; rw [HCs.out]; exact HF8.out.1, HF8.out.2.1⟩
      · obtain ⟨w6, hn, hi6, hb6⟩ := next_at (P := Tryz.prog) wr r s k 116 0 HI.out hc (by omega)
        have HI6 := Lib.hid hi6
        have HB6 := Lib.hid hb6
        clear hc hi6 hb6
        go_wp2_with fail
        with_reducible refine (keep_any w6).mono ?_
        rintro e w7 ⟨rfl, ho7, hb7⟩
        dsimp only
        have hl := keep_at_t ho7
        have HX7 := Lib.hid ((HXq.out.below HB6.out (Nat.lt_trans HXg.out HL4.out)).below hb7 (Nat.lt_of_lt_of_le HXq.out.lt HB6.out.size))
        have HB7 := Lib.hid ((HB.out.below HB6.out HL4.out).below hb7 (Nat.lt_of_lt_of_le HB.out.lt HB6.out.size))
        have HI7 := Lib.hid ((hb7.block r (Nat.lt_of_lt_of_le HRl.out HB6.out.size)).trans HI6.out)
        have HD7 := Lib.hid ((HBq.out.trans (HB6.out.mono (Nat.le_of_lt HL4.out))).trans (hb7.mono (Nat.le_trans (Nat.le_of_lt HB.out.lt) HB6.out.size)))
        have HCl := Lib.hid (keep8_any g g4 a b w7 HX7.out HB7.out aT _ cT HV.out.2.2)
        clear ho7 hb7 hn
        go_wp2_with fail
        refine HCl.out.mono ?_
        rintro e w8 ⟨rfl, ha8, hb8, hq8⟩
        dsimp only
        have HF8 := Lib.hid (And.intro ha8 (And.intro (HD7.out.trans hb8) ((hq8 r (Nat.ne_of_gt HL4.out)).trans HI7.out)))
        clear ha8 hb8 hq8 hl HCl
        go_wp2
        go_roundg gg
        case measure => omega
        case rel => exact ⟨k + 1, by show _ = _; have := HK.out; omega, HF8.out.2.2, by show ActAt _ _ _; rw [HCs.out]; exact HF8.out.1, HF8.out.2.1⟩
end Go.Proofs.YtnohfondkcbdnaaGreatDoor
