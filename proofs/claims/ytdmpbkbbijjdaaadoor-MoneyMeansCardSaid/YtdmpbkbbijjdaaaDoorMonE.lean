import Derived.Test.YtdmpbkbbijjdaaaDoorMonC
import Derived.Laws.BitsAllLaws
import Derived.Test.YtdmpbkbbijjdaaaDoorMonK
import Derived.BigQuiet
import Derived.WalkSmall
import Derived.Deep.QuietTactic
namespace Go.Proofs.YtdmpbkbbijjdaaaDoor
open Go.Shelf Go.RowKit Go.Sort Go.Lib
set_option linter.unusedVariables false
set_option linter.unusedSimpArgs false

theorem div_small_core (lo y q r : Nat) (hlo : lo < 18446744073709551616) (hy : 1 ≤ y) (hy2 : y < 18446744073709551616) (w : World)
    (hw1 : IntKind.u64.wrap ((lo : Int) / (y : Int)) = (q : Int)) (hw2 : ((lo : Int) % (y : Int)) = (r : Int)) :
    Calls Tryd.prog 21 #[.int .u64 0, .int .u64 lo, .int .u64 y] w fun e w' => e = .returned (.tuple #[.int .u64 (q : Int), .int .u64 (r : Int)]) ∧ Below w.heap.size w w' := by
  have h1 : ((y : Int) == 0) = false := by simp; omega
  go_enter Tryd.func21, Tryd.ntmps21
  go_wp2
  go_quiet (fail)
  go_wp2
  go_ret2
  exact ⟨by simp [hw1, hw2], below_drewN (Below.refl _ _) _⟩

theorem div_small (lo y : Nat) (hlo : lo < 18446744073709551616) (hy : 1 ≤ y) (hy2 : y < 18446744073709551616) (w : World) :
    Calls Tryd.prog 21 #[.int .u64 0, .int .u64 lo, .int .u64 y] w fun e w' => e = .returned (.tuple #[.int .u64 ((lo / y : Nat) : Int), .int .u64 ((lo % y : Nat) : Int)]) ∧ Below w.heap.size w w' := by
  refine div_small_core lo y (lo / y) (lo % y) hlo hy hy2 w ?_ (by simp)
  have e : ((lo : Int) / (y : Int)) = ((lo / y : Nat) : Int) := by simp
  have := Nat.div_le_self lo y
  rw [e]
  generalize lo / y = q at *
  exact IntWalk.u64_in _ (by omega)

theorem len_facts (y : Nat) (h0 : 0 < y) (hy : y < 18446744073709551616) : 1 ≤ Lib.bitLen y ∧ Lib.bitLen y ≤ 64 ∧ 2 ^ (Lib.bitLen y - 1) ≤ y ∧ y < 2 ^ Lib.bitLen y := by
  have h := Lib.bitLenAux_bounds 64 y (by omega) (by omega)
  exact ⟨h.1, Lib.bitLen_le y 64 (Nat.le_refl _) (by omega), h.2.1, h.2.2⟩

theorem shift_facts (y s : Nat) (h0 : 0 < y) (hy : y < 18446744073709551616) (hs : s = 64 - Lib.bitLen y) : s ≤ 63 ∧ y * 2 ^ s < 18446744073709551616 ∧ 9223372036854775808 ≤ y * 2 ^ s := by
  obtain ⟨h1, h2, h3, h4⟩ := len_facts y h0 hy
  have e1 : 2 ^ (Lib.bitLen y - 1) * 2 ^ s = 2 ^ 63 := by rw [← Nat.pow_add]; congr 1; omega
  have e2 : 2 ^ Lib.bitLen y * 2 ^ s = 2 ^ 64 := by rw [← Nat.pow_add]; congr 1; omega
  have g1 := Nat.mul_le_mul_right (2 ^ s) h3
  have g2 := Nat.mul_lt_mul_of_pos_right h4 (Nat.two_pow_pos s)
  refine ⟨by omega, by omega, by omega⟩

/-- 'hi<<s | lo>>(64-s)', and 'lo<<s'. -/
theorem split_facts (hi lo s : Nat) (hs : s ≤ 63) (hlo : lo < 18446744073709551616) :
    lo / 2 ^ (64 - s) < 2 ^ s ∧ (hi * 2 ^ s + lo / 2 ^ (64 - s)) * 18446744073709551616 + lo * 2 ^ s % 18446744073709551616 = (hi * 18446744073709551616 + lo) * 2 ^ s := by
  have e : 2 ^ (64 - s) * 2 ^ s = 18446744073709551616 := by rw [← Nat.pow_add, show 64 - s + s = 64 by omega]
  have e1 : lo * 2 ^ s / 18446744073709551616 = lo / 2 ^ (64 - s) := by rw [← e, Nat.mul_div_mul_right _ _ (Nat.two_pow_pos s)]
  refine ⟨?_, ?_⟩
  · rw [Nat.div_lt_iff_lt_mul (Nat.two_pow_pos _), Nat.mul_comm, e]; exact hlo
  · rw [← e1]
    have h := Nat.div_add_mod (lo * 2 ^ s) 18446744073709551616
    rw [Nat.add_mul, Nat.add_mul]
    have e3 : hi * 18446744073709551616 * 2 ^ s = hi * 2 ^ s * 18446744073709551616 := by rw [Nat.mul_right_comm]
    rw [e3]
    generalize lo * 2 ^ s = L at *
    omega

theorem or_low (a b s : Nat) (hb : b < 2 ^ s) (h : a * 2 ^ s + b < 18446744073709551616) : bits .or .u64 ((a * 2 ^ s : Nat) : Int) (b : Int) = ((a * 2 ^ s + b : Nat) : Int) := by
  rw [u64_or_nat _ _ (by omega) (by omega)]
  congr 1
  rw [Nat.mul_comm, Nat.two_pow_add_eq_or_of_lt hb]

theorem and_low (a : Nat) (h : a < 18446744073709551616) : bits .and .u64 (a : Int) 4294967295 = ((a % 4294967296 : Nat) : Int) := by
  rw [show (4294967295 : Int) = ((4294967295 : Nat) : Int) from rfl, u64_and_nat _ _ h (by omega)]
  congr 1
  exact Nat.and_two_pow_sub_one_eq_mod a 32
set_option maxHeartbeats 1000000 in
set_option maxRecDepth 100000 in
theorem div_core (hi lo y s Y U H Q L R yn1 yn0 un1 un0 q0 r0 : Nat) (w : World)
    (hhi : 1 ≤ hi) (hlt : hi < y) (hlo : lo < 18446744073709551616) (hy2 : y < 18446744073709551616)
    (hsw : IntKind.u64.wrap (64 - ↑(Lib.bitLen y)) = (s : Int)) (hbl : Lib.bitLen y ≤ 64) (hs63 : s ≤ 63)
    (hYw : IntKind.u64.wrap ((y : Int) * 2 ^ s) = (Y : Int)) (hHw : IntKind.u64.wrap ((hi : Int) * 2 ^ s) = (H : Int)) (hLw : IntKind.u64.wrap ((lo : Int) * 2 ^ s) = (L : Int))
    (hQw : ((lo : Int) / 2 ^ (64 - s)) = (Q : Int)) (horw : bits .or .u64 (H : Int) (Q : Int) = (U : Int))
    (hyn1w : (Y : Int) / 4294967296 = (yn1 : Int)) (hun1w : (L : Int) / 4294967296 = (un1 : Int)) (hY0w : bits .and .u64 (Y : Int) 4294967295 = (yn0 : Int)) (hL0w : bits .and .u64 (L : Int) 4294967295 = (un0 : Int))
    (hqw : (U : Int) / (yn1 : Int) = (q0 : Int)) (hrw : IntKind.u64.wrap ((U : Int) - IntKind.u64.wrap ((q0 : Int) * (yn1 : Int))) = (r0 : Int)) (hrl : r0 < 4294967296) (hq1 : q0 ≤ 4294967297)
    (hst : Hid (KInv 4294967296 yn1 yn0 U un1 q0 r0))
    (hYlt : Y < 18446744073709551616) (hyn1p : 2147483648 ≤ yn1) (hyn1q : yn1 < 4294967296) (hyn0q : yn0 < 4294967296) (hun1q : un1 < 4294967296) (hun0q : un0 < 4294967296) (hUlt : U < Y)
    (HYsum : Hid (yn1 * 4294967296 + yn0 = Y)) (HLsum : Hid (un1 * 4294967296 + un0 = L)) (Hfin : Hid ((U * 18446744073709551616 + L) / Y = R)) :
    Calls Tryd.prog 21 #[.int .u64 hi, .int .u64 lo, .int .u64 y] w fun e w' => ∃ r : Int, e = .returned (.tuple #[.int .u64 (R : Int), .int .u64 r]) ∧ w = w' := by
  have h1 : ((y : Int) == 0) = false := by simp; omega
  have h2 : ((hi : Int) == 0) = false := by simp; omega
  have hmin : min s 64 = s := by omega
  have hmin2 : min (64 - s) 64 = 64 - s := by omega
  have hyn1z : ((yn1 : Int) == 0) = false := by simp; omega
  go_enter Tryd.func21, Tryd.ntmps21
  go_upto_block 0 with (go_at_call 25; refine (Tryd.bits_LeadingZeros64 (y : Int) _ (by omega) (by omega)).mono ?_; rintro e w' ⟨rfl, rfl⟩)
  go_cut [15] (fun v15 wx => ∃ q : Nat, v15 = .int .u64 q ∧ Hid (q = (U * 4294967296 + un1) / Y) ∧ w' = wx)
  case first =>
    go_wp2
    go_loopg [15, 16] q0 (fun g vq vr wr => ∃ (q r : Nat) (zq zr : Int), g = q ∧ vq = .int .u64 zq ∧ vr = .int .u64 zr ∧ Hid (zq = q) ∧ Hid (zr = r) ∧ Hid (r < 4294967296) ∧ Hid (q ≤ 4294967297) ∧ Hid (KInv 4294967296 yn1 yn0 U un1 q r) ∧ w' = wr)
    case atStart => exact ⟨q0, r0, _, _, rfl, rfl, rfl, rfl, rfl, hrl, hq1, hst, rfl⟩
    case round =>
      obtain ⟨q, r, zq, zr, rfl, rfl, rfl, hzq, hzr, hr, hq, hk, rfl⟩ := hrel
      have HK : KInv 4294967296 yn1 yn0 U un1 gk r := hk
      have HK := Lib.hid HK
      have HUlt := Lib.hid hUlt
      clear hk hlo hy2 hsw hYw hHw hLw hQw horw hyn1w hun1w hY0w hL0w hqw hrw hrl hYlt h1 h2 hbl hlt hhi hst hUlt hq1 hs63
      have Hr0 : zr < 4294967296 ∧ 0 ≤ zr := by have := hzr.out; have := hr.out; omega
      have Hq0 : zq ≤ 4294967297 ∧ 0 ≤ zq := by have := hzq.out; have := hq.out; omega
      have Hy0 : (yn0 : Int) < 4294967296 := by omega
      have Hy1 : (yn1 : Int) < 4294967296 := by omega
      have Hu1 : (un1 : Int) < 4294967296 := by omega
      obtain ⟨Hr0, Hr1⟩ := Hr0
      obtain ⟨Hq0, Hq1⟩ := Hq0
      obtain ⟨zP, hzP⟩ : ∃ z : Int, z = ((gk * yn0 : Nat) : Int) := ⟨_, rfl⟩
      have hzPw : zq < 4294967296 → IntKind.u64.wrap (zq * (yn0 : Int)) = zP := by
        intro h
        have hP2 : gk * yn0 ≤ 4294967295 * 4294967295 := Nat.mul_le_mul (by have := hzq.out; omega) (by omega)
        have e : zq * (yn0 : Int) = zP := by rw [hzP, hzq.out]; push_cast; rfl
        rw [e]; exact IntWalk.u64_in _ (by omega)
      have hzP0 : zq < 4294967296 → 0 ≤ zP ∧ zP ≤ 18446744065119617025 := by
        intro h
        have hP2 : gk * yn0 ≤ 4294967295 * 4294967295 := Nat.mul_le_mul (by have := hzq.out; omega) (by omega)
        omega
      have HP := Lib.hid hzP
      have hin : ∀ (h : 4294967296 ≤ zq ∨ 4294967296 * zr + un1 < zP), ∃ p : Nat, gk = p + 1 ∧ KInv 4294967296 yn1 yn0 U un1 p (r + yn1) ∧ p ≤ 4294967296 := by
        intro h
        have hc : 4294967296 ≤ gk ∨ 4294967296 * r + un1 < gk * yn0 := by
          have := hzq.out; have := hzr.out
          rcases h with h | h
          · exact .inl (by omega)
          · exact .inr (by omega)
        obtain ⟨hq1', hk', hq2'⟩ := kn_step 4294967296 yn1 yn0 U un1 gk r (by rw [HYsum.out]; exact HUlt.out) hun1q HK.out hc
        exact ⟨gk - 1, by omega, hk', hq2'⟩
      have Hin := Lib.hid hin
      have Hbr := Lib.hid fun (p : Nat) (k : KInv 4294967296 yn1 yn0 U un1 p (r + yn1)) (hq : p ≤ 4294967296) (hb : 4294967296 ≤ r + yn1) => kn_break 4294967296 yn1 yn0 U un1 p (r + yn1) hyn0q (by rw [HYsum.out]; exact HUlt.out) k hq hb
      have Hex := Lib.hid fun (hb : gk * yn0 ≤ 4294967296 * r + un1) => kn_exit 4294967296 yn1 yn0 U un1 gk r (by rw [HYsum.out]; exact HUlt.out) HK.out hb
      clear hin hzP hyn1q hyn1p hyn0q hun1q hun0q
      by_cases hbig : 4294967296 ≤ zq
      · obtain ⟨p, rfl, hkp, hp⟩ := Hin.out (.inl hbig)
        have HK' := Lib.hid hkp
        have Hp := Lib.hid hp
        clear hzPw hzP0 hkp hp
        by_cases hb : 4294967296 ≤ zr + yn1
        · go_wp2
          go_meet
          case rel => exact ⟨p, by have := hzq.out; go_num, by rw [← HYsum.out]; exact Hbr.out p HK'.out Hp.out (by have := hzr.out; omega), rfl⟩
        · go_wp2
          go_roundg p
          case measure => omega
          case rel => exact ⟨p, r + yn1, _, _, rfl, rfl, rfl, by have := hzq.out; show _ = _; omega, by have := hzr.out; show _ = _; omega, by have := hzr.out; show _ < _; omega, by have := Hp.out; show _ ≤ _; omega, HK'.out, rfl⟩
      · have hzP0 := hzP0 (by omega)
        have hzPw := hzPw (by omega)
        obtain ⟨hzP0, hzP1⟩ := hzP0
        by_cases hc : 4294967296 * zr + un1 < zP
        · obtain ⟨p, rfl, hkp, hp⟩ := Hin.out (.inr hc)
          have hq1' : 1 ≤ zq := by have := hzq.out; omega
          have HK' := Lib.hid hkp
          have Hp := Lib.hid hp
          clear hkp hp
          by_cases hb : 4294967296 ≤ zr + yn1
          · go_wp2
            go_meet
            case rel => exact ⟨p, by have := hzq.out; go_num, by rw [← HYsum.out]; exact Hbr.out p HK'.out Hp.out (by have := hzr.out; omega), rfl⟩
          · go_wp2
            go_roundg p
            case measure => omega
            case rel => exact ⟨p, r + yn1, _, _, rfl, rfl, rfl, by have := hzq.out; show _ = _; omega, by have := hzr.out; show _ = _; omega, by have := hzr.out; show _ < _; omega, by have := Hp.out; show _ ≤ _; omega, HK'.out, rfl⟩
        · go_wp2
          go_meet
          case rel => exact ⟨gk, by have := hzq.out; go_num, by rw [← HYsum.out]; exact Hex.out (by have := hzr.out; have := HP.out; omega), rfl⟩
  case rest =>
    obtain ⟨q1, rfl, hq1e, rfl⟩ := hcut
    have Hq1 : Hid (q1 = (U * 4294967296 + un1) / Y) := hq1e
    clear hq1e
    obtain ⟨V, hV⟩ : ∃ V : Nat, V = (U * 4294967296 + un1) % Y := ⟨_, rfl⟩
    have hY0 : 0 < Y := by omega
    have hVlt : V < Y := by rw [hV]; exact Nat.mod_lt _ hY0
    have hq1b : q1 < 4294967296 := by rw [Hq1.out]; exact kn_lt 4294967296 Y U un1 hUlt hun1q
    have hVw : IntKind.u64.wrap (IntKind.u64.wrap (IntKind.u64.wrap ((U : Int) * 4294967296) + (un1 : Int)) - IntKind.u64.wrap ((q1 : Int) * (Y : Int))) = (V : Int) := by
      have e : ((q1 : Int) * (Y : Int)) = ((q1 * Y : Nat) : Int) := by simp
      have e2 := Nat.div_add_mod (U * 4294967296 + un1) Y
      rw [← Hq1.out, ← hV, Nat.mul_comm] at e2
      rw [e]
      generalize q1 * Y = Z at e2 ⊢
      simp only [IntKind.wrap_u64]
      omega
    obtain ⟨q2, hq2⟩ : ∃ q2 : Nat, q2 = V / yn1 := ⟨_, rfl⟩
    obtain ⟨r2, hr2⟩ : ∃ r2 : Nat, r2 = V % yn1 := ⟨_, rfl⟩
    have hst2 := kn_start 4294967296 yn1 yn0 V un0 (by omega) hyn0q (by rw [HYsum.out]; exact hVlt) hun0q
    rw [← hq2, ← hr2] at hst2
    have hq2w : (V : Int) / (yn1 : Int) = (q2 : Int) := by rw [hq2]; simp
    have hq2b : q2 ≤ 4294967297 := hst2.2.2
    have hr2w : IntKind.u64.wrap ((V : Int) - IntKind.u64.wrap ((q2 : Int) * (yn1 : Int))) = (r2 : Int) := by
      have e : ((q2 : Int) * (yn1 : Int)) = ((q2 * yn1 : Nat) : Int) := by simp
      have e2 : q2 * yn1 + r2 = V := hst2.1
      rw [e]
      generalize q2 * yn1 = Z at e2 ⊢
      simp only [IntKind.wrap_u64]
      omega
    have hr2b : r2 < 4294967296 := by rw [hr2]; exact Nat.lt_trans (Nat.mod_lt _ (by omega)) hyn1q
    have Hst2 := Lib.hid hst2
    have HV := Lib.hid hV
    have HVlt := Lib.hid hVlt
    have HUlt := Lib.hid hUlt
    have Hq1b := Lib.hid hq1b
    have Hq2b := Lib.hid hq2b
    have Hr2b := Lib.hid hr2b
    have Hq2i : (q2 : Int) ≤ 4294967297 := by omega
    clear hV hq2 hr2 hst2 hVlt hUlt hq1b hq2b hr2b hlo hy2 hsw hYw hHw hLw hQw horw hyn1w hun1w hY0w hL0w hqw hrw hrl h1 h2 hbl hlt hhi hst hq1
    go_upto_block 2 with (fail)
    go_cut [18] (fun v18 wx => ∃ q : Nat, v18 = .int .u64 q ∧ Hid (q = (V * 4294967296 + un0) / Y) ∧ w' = wx)
    case first =>
      go_wp2
      go_loopg [18, 16] q2 (fun g vq vr wr => ∃ (q r : Nat) (zq zr : Int), g = q ∧ vq = .int .u64 zq ∧ vr = .int .u64 zr ∧ Hid (zq = q) ∧ Hid (zr = r) ∧ Hid (r < 4294967296) ∧ Hid (q ≤ 4294967297) ∧ Hid (KInv 4294967296 yn1 yn0 V un0 q r) ∧ w' = wr)
      case atStart => exact ⟨q2, r2, _, _, rfl, rfl, rfl, rfl, rfl, Hr2b.out, Hq2b.out, Hst2.out, rfl⟩
      case round =>
        obtain ⟨q, r, zq, zr, rfl, rfl, rfl, hzq, hzr, hr, hq, hk, rfl⟩ := hrel
        have HK : KInv 4294967296 yn1 yn0 V un0 gk r := hk
        have HK := Lib.hid HK
        clear hk hYlt hVw hq2w hr2w Hq2i hs63
        have Hr0 : zr < 4294967296 ∧ 0 ≤ zr := by have := hzr.out; have := hr.out; omega
        have Hq0 : zq ≤ 4294967297 ∧ 0 ≤ zq := by have := hzq.out; have := hq.out; omega
        have Hy0 : (yn0 : Int) < 4294967296 := by omega
        have Hy1 : (yn1 : Int) < 4294967296 := by omega
        have Hu1 : (un0 : Int) < 4294967296 := by omega
        obtain ⟨Hr0, Hr1⟩ := Hr0
        obtain ⟨Hq0, Hq1⟩ := Hq0
        obtain ⟨zP, hzP⟩ : ∃ z : Int, z = ((gk * yn0 : Nat) : Int) := ⟨_, rfl⟩
        have hzPw : zq < 4294967296 → IntKind.u64.wrap (zq * (yn0 : Int)) = zP := by
          intro h
          have hP2 : gk * yn0 ≤ 4294967295 * 4294967295 := Nat.mul_le_mul (by have := hzq.out; omega) (by omega)
          have e : zq * (yn0 : Int) = zP := by rw [hzP, hzq.out]; push_cast; rfl
          rw [e]; exact IntWalk.u64_in _ (by omega)
        have hzP0 : zq < 4294967296 → 0 ≤ zP ∧ zP ≤ 18446744065119617025 := by
          intro h
          have hP2 : gk * yn0 ≤ 4294967295 * 4294967295 := Nat.mul_le_mul (by have := hzq.out; omega) (by omega)
          omega
        have HP := Lib.hid hzP
        have hin : ∀ (h : 4294967296 ≤ zq ∨ 4294967296 * zr + un0 < zP), ∃ p : Nat, gk = p + 1 ∧ KInv 4294967296 yn1 yn0 V un0 p (r + yn1) ∧ p ≤ 4294967296 := by
          intro h
          have hc : 4294967296 ≤ gk ∨ 4294967296 * r + un0 < gk * yn0 := by
            have := hzq.out; have := hzr.out
            rcases h with h | h
            · exact .inl (by omega)
            · exact .inr (by omega)
          obtain ⟨hq1', hk', hq2'⟩ := kn_step 4294967296 yn1 yn0 V un0 gk r (by rw [HYsum.out]; exact HVlt.out) hun0q HK.out hc
          exact ⟨gk - 1, by omega, hk', hq2'⟩
        have Hin := Lib.hid hin
        have Hbr := Lib.hid fun (p : Nat) (k : KInv 4294967296 yn1 yn0 V un0 p (r + yn1)) (hq : p ≤ 4294967296) (hb : 4294967296 ≤ r + yn1) => kn_break 4294967296 yn1 yn0 V un0 p (r + yn1) hyn0q (by rw [HYsum.out]; exact HVlt.out) k hq hb
        have Hex := Lib.hid fun (hb : gk * yn0 ≤ 4294967296 * r + un0) => kn_exit 4294967296 yn1 yn0 V un0 gk r (by rw [HYsum.out]; exact HVlt.out) HK.out hb
        clear hin hzP hyn1q hyn1p hyn0q hun1q hun0q
        by_cases hbig : 4294967296 ≤ zq
        · obtain ⟨p, rfl, hkp, hp⟩ := Hin.out (.inl hbig)
          have HK' := Lib.hid hkp
          have Hp := Lib.hid hp
          clear hzPw hzP0 hkp hp
          by_cases hb : 4294967296 ≤ zr + yn1
          · go_wp2
            go_meet
            case rel => exact ⟨p, by have := hzq.out; go_num, by rw [← HYsum.out]; exact Hbr.out p HK'.out Hp.out (by have := hzr.out; omega), rfl⟩
          · go_wp2
            go_roundg p
            case measure => omega
            case rel => exact ⟨p, r + yn1, _, _, rfl, rfl, rfl, by have := hzq.out; show _ = _; omega, by have := hzr.out; show _ = _; omega, by have := hzr.out; show _ < _; omega, by have := Hp.out; show _ ≤ _; omega, HK'.out, rfl⟩
        · have hzP0 := hzP0 (by omega)
          have hzPw := hzPw (by omega)
          obtain ⟨hzP0, hzP1⟩ := hzP0
          by_cases hc : 4294967296 * zr + un0 < zP
          · obtain ⟨p, rfl, hkp, hp⟩ := Hin.out (.inr hc)
            have hq1' : 1 ≤ zq := by have := hzq.out; omega
            have HK' := Lib.hid hkp
            have Hp := Lib.hid hp
            clear hkp hp
            by_cases hb : 4294967296 ≤ zr + yn1
            · go_wp2
              go_meet
              case rel => exact ⟨p, by have := hzq.out; go_num, by rw [← HYsum.out]; exact Hbr.out p HK'.out Hp.out (by have := hzr.out; omega), rfl⟩
            · go_wp2
              go_roundg p
              case measure => omega
              case rel => exact ⟨p, r + yn1, _, _, rfl, rfl, rfl, by have := hzq.out; show _ = _; omega, by have := hzr.out; show _ = _; omega, by have := hzr.out; show _ < _; omega, by have := Hp.out; show _ ≤ _; omega, HK'.out, rfl⟩
          · go_wp2
            go_meet
            case rel => exact ⟨gk, by have := hzq.out; go_num, by rw [← HYsum.out]; exact Hex.out (by have := hzr.out; have := HP.out; omega), rfl⟩
    case rest =>
      obtain ⟨q3, rfl, hq3e, rfl⟩ := hcut
      have Hq3 : Hid (q3 = (V * 4294967296 + un0) / Y) := hq3e
      clear hq3e
      have h3 : q3 < 4294967296 := by rw [Hq3.out]; exact kn_lt 4294967296 Y V un0 HVlt.out hun0q
      have hR := kn_R q1 q3 R Hq1b.out h3 (kn_total 4294967296 Y U un1 un0 V q1 q3 R hY0 Hq1.out HV.out Hq3.out ((congrArg (· / Y) (kn_sum U un1 un0 L HLsum.out)).trans Hfin.out))
      clear h3
      clear Hq2i hVw hq2w hr2w
      go_wp2
      go_ret2
      exact ⟨_, rfl, rfl⟩

theorem div_next (hi lo y s Y U H L Q R : Nat) (w : World)
    (hhi : 1 ≤ hi) (hlt : hi < y) (hlo : lo < 18446744073709551616) (hy2 : y < 18446744073709551616)
    (hsw : IntKind.u64.wrap (64 - ↑(Lib.bitLen y)) = (s : Int)) (hbl : Lib.bitLen y ≤ 64) (hs63 : s ≤ 63)
    (hYw : IntKind.u64.wrap ((y : Int) * 2 ^ s) = (Y : Int)) (hHw : IntKind.u64.wrap ((hi : Int) * 2 ^ s) = (H : Int)) (hLw : IntKind.u64.wrap ((lo : Int) * 2 ^ s) = (L : Int))
    (hQw : ((lo : Int) / 2 ^ (64 - s)) = (Q : Int)) (horw : bits .or .u64 (H : Int) (Q : Int) = (U : Int))
    (hYlt : Y < 18446744073709551616) (hYge : 9223372036854775808 ≤ Y) (hUlt : U < Y) (hLlt : L < 18446744073709551616) (Hfin : (U * 18446744073709551616 + L) / Y = R) :
    Calls Tryd.prog 21 #[.int .u64 hi, .int .u64 lo, .int .u64 y] w fun e w' => ∃ r : Int, e = .returned (.tuple #[.int .u64 (R : Int), .int .u64 r]) ∧ w = w' := by
  obtain ⟨yn1, hyn1⟩ : ∃ n : Nat, n = Y / 4294967296 := ⟨_, rfl⟩
  obtain ⟨yn0, hyn0⟩ : ∃ n : Nat, n = Y % 4294967296 := ⟨_, rfl⟩
  obtain ⟨un1, hun1⟩ : ∃ n : Nat, n = L / 4294967296 := ⟨_, rfl⟩
  obtain ⟨un0, hun0⟩ : ∃ n : Nat, n = L % 4294967296 := ⟨_, rfl⟩
  have hY0w := and_low Y hYlt
  have hL0w := and_low L hLlt
  rw [← hyn0] at hY0w
  rw [← hun0] at hL0w
  have hYs : yn1 * 4294967296 + yn0 = Y := digits_sum _ _ _ _ hyn1 hyn0
  have hLs : un1 * 4294967296 + un0 = L := digits_sum _ _ _ _ hun1 hun0
  have hst := kn_start 4294967296 yn1 yn0 U un1 (by omega) (by omega) (by omega) (by omega)
  obtain ⟨q0, hq0⟩ : ∃ n : Nat, n = U / yn1 := ⟨_, rfl⟩
  obtain ⟨r0, hr0⟩ : ∃ n : Nat, n = U % yn1 := ⟨_, rfl⟩
  have hrl : r0 < yn1 := by rw [hr0]; exact Nat.mod_lt _ (by omega)
  have hqw : (U : Int) / (yn1 : Int) = (q0 : Int) := by rw [hq0]; simp
  rw [← hq0, ← hr0] at hst
  have hrw : IntKind.u64.wrap ((U : Int) - IntKind.u64.wrap ((q0 : Int) * (yn1 : Int))) = (r0 : Int) := by
    have e : ((q0 : Int) * (yn1 : Int)) = ((q0 * yn1 : Nat) : Int) := by simp
    have e2 : q0 * yn1 + r0 = U := hst.1
    rw [e]
    generalize q0 * yn1 = Z at e2 ⊢
    simp only [IntKind.wrap_u64]
    omega
  exact div_core hi lo y s Y U H Q L R yn1 yn0 un1 un0 q0 r0 w hhi hlt hlo hy2 hsw hbl hs63 hYw hHw hLw hQw horw (by omega) (by omega) hY0w hL0w hqw hrw (by omega) hst.2.2 hst hYlt (by omega) (by omega) (by omega) (by omega) (by omega) hUlt hYs hLs Hfin

theorem div_big (hi lo y : Nat) (hhi : 1 ≤ hi) (hlt : hi < y) (hlo : lo < 18446744073709551616) (hy2 : y < 18446744073709551616) (w : World) :
    Calls Tryd.prog 21 #[.int .u64 hi, .int .u64 lo, .int .u64 y] w fun e w' => ∃ r : Int, e = .returned (.tuple #[.int .u64 (((hi * 18446744073709551616 + lo) / y : Nat) : Int), .int .u64 r]) ∧ w = w' := by
  obtain ⟨s, hs⟩ : ∃ s : Nat, s = 64 - Lib.bitLen y := ⟨_, rfl⟩
  obtain ⟨hs63, hYlt, hYge⟩ := shift_facts y s (by omega) hy2 hs
  obtain ⟨hlow, hsum⟩ := split_facts hi lo s hs63 hlo
  have hbl := (len_facts y (by omega) hy2).2.1
  have hHle : (hi + 1) * 2 ^ s ≤ y * 2 ^ s := Nat.mul_le_mul_right _ hlt
  rw [Nat.add_mul, Nat.one_mul] at hHle
  have hfin : ((hi * 18446744073709551616 + lo) * 2 ^ s) / (y * 2 ^ s) = (hi * 18446744073709551616 + lo) / y := kn_scale _ _ _ (by omega)
  rw [← hsum] at hfin
  have horw := or_low hi (lo / 2 ^ (64 - s)) s hlow (by omega)
  have eH : ((hi : Int) * 2 ^ s) = ((hi * 2 ^ s : Nat) : Int) := by simp
  have eY : ((y : Int) * 2 ^ s) = ((y * 2 ^ s : Nat) : Int) := by simp
  have eL : ((lo : Int) * 2 ^ s) = ((lo * 2 ^ s : Nat) : Int) := by simp
  have eQ : ((lo : Int) / 2 ^ (64 - s)) = ((lo / 2 ^ (64 - s) : Nat) : Int) := by simp
  have hUlt : hi * 2 ^ s + lo / 2 ^ (64 - s) < y * 2 ^ s := by omega
  have hHlt : hi * 2 ^ s < y * 2 ^ s := Nat.mul_lt_mul_of_pos_right hlt (Nat.two_pow_pos s)
  have hLlt : lo * 2 ^ s % 18446744073709551616 < 18446744073709551616 := Nat.mod_lt _ (by omega)
  have hLw : IntKind.u64.wrap ((lo : Int) * 2 ^ s) = ((lo * 2 ^ s % 18446744073709551616 : Nat) : Int) := by
    rw [eL, IntKind.wrap_u64]; omega
  exact div_next hi lo y s (y * 2 ^ s) (hi * 2 ^ s + lo / 2 ^ (64 - s)) (hi * 2 ^ s) (lo * 2 ^ s % 18446744073709551616) (lo / 2 ^ (64 - s)) _ w hhi hlt hlo hy2
    (by rw [IntWalk.u64_in _ (by omega)]; omega) hbl hs63 (by rw [eY]; exact IntWalk.u64_in _ (by omega)) (by rw [eH]; exact IntWalk.u64_in _ (by omega)) hLw eQ horw hYlt hYge hUlt hLlt hfin
end Go.Proofs.YtdmpbkbbijjdaaaDoor
