import Derived.Test.YtdmpbkbbijjdaaaDoorMonF
namespace Go.Proofs.YtdmpbkbbijjdaaaDoor
open Go.Shelf Go.RowKit Go.Sort Go.Lib
set_option linter.unusedVariables false
set_option linter.unusedSimpArgs false

theorem refshare_bad (a p all : Nat) (ha : a < 18446744073709551616) (hp : p < 18446744073709551616) (hall : all < 18446744073709551616) (w : World) (h : 1125899906842624 < a ∨ 1125899906842624 < all ∨ all < p) :
    Calls Tryd.prog 13 #[.int .u64 a, .int .u64 p, .int .u64 all] w (ShareRes a p all w) := by
  have e1 : Hid (shareV a p all = 0 ∧ shareE a p all = 5) := by show _ ∧ _; rw [shareV, shareE, if_pos h, if_pos h]; exact ⟨rfl, rfl⟩
  by_cases h1 : 1125899906842624 < a
  · clear h
    go_enter Tryd.func13, Tryd.ntmps13
    go_wp2
    go_ret2
    exact ⟨by rw [e1.out.1, e1.out.2]; rfl, Below.refl _ _⟩
  · by_cases h2 : 1125899906842624 < all
    · clear h
      go_enter Tryd.func13, Tryd.ntmps13
      go_wp2
      go_ret2
      exact ⟨by rw [e1.out.1, e1.out.2]; rfl, Below.refl _ _⟩
    · have h3 : all < p := by omega
      clear h
      go_enter Tryd.func13, Tryd.ntmps13
      go_wp2
      go_ret2
      exact ⟨by rw [e1.out.1, e1.out.2]; rfl, Below.refl _ _⟩

theorem refshare_zero (a p all : Nat) (ha : a ≤ 1125899906842624) (hp : p = 0) (hall : all = 0) (w : World) :
    Calls Tryd.prog 13 #[.int .u64 a, .int .u64 p, .int .u64 all] w (ShareRes a p all w) := by
  have e1 : Hid (shareV a p all = 0 ∧ shareE a p all = 2) := by show _ ∧ _; rw [shareV, shareE, if_neg (by omega), if_pos hall, if_neg (by omega), if_pos hall]; exact ⟨rfl, rfl⟩
  have hz : ((all : Int) == 0) = true := by simp; omega
  have hle : all ≤ 1125899906842624 ∧ p ≤ all := by omega
  obtain ⟨hl1, hl2⟩ := hle
  clear hp hall
  go_enter Tryd.func13, Tryd.ntmps13
  go_wp2
  go_ret2
  exact ⟨by rw [e1.out.1, e1.out.2]; rfl, Below.refl _ _⟩

def SInv (a p all q r A : Nat) : Prop := q * all + r = A * p
theorem sinv_double (a p all q r A b : Nat) (h : SInv a p all q r A) : SInv a p all (2 * q) (2 * r + b * p) (2 * A + b) := by
  unfold SInv at *
  rw [Nat.add_mul, Nat.mul_assoc, Nat.mul_assoc, ← h]
  omega
theorem sinv_down (a p all q r A : Nat) (h : SInv a p all q r A) (hr : all ≤ r) : SInv a p all (q + 1) (r - all) A := by
  unfold SInv at *
  rw [Nat.add_mul]; omega
theorem sinv_bound (a p all q r A : Nat) (h : SInv a p all q r A) (hA : A ≤ 1125899906842624) (hp : p ≤ all) (h0 : 0 < all) : q ≤ 1125899906842624 := by
  unfold SInv at h
  have h1 : A * p ≤ 1125899906842624 * all := Nat.mul_le_mul hA hp
  have h2 : q * all ≤ 1125899906842624 * all := by omega
  exact Nat.le_of_mul_le_mul_right h2 h0
theorem sinv_end (a p all q r : Nat) (h : SInv a p all q r a) (hr : r < all) : q = a * p / all := by
  unfold SInv at h
  rw [← h, Nat.mul_comm, Nat.mul_add_div (by omega), Nat.div_eq_of_lt hr]; omega
theorem half_step (a n : Nat) : a / 2 ^ n = 2 * (a / 2 ^ (n + 1)) + a / 2 ^ n % 2 := by
  rw [Nat.pow_succ, ← Nat.div_div_eq_div_mul]; omega

set_option maxHeartbeats 1000000 in
theorem refshare_good (a p all : Nat) (ha : a ≤ 1125899906842624) (hp : p ≤ all) (hall : all ≤ 1125899906842624) (h0 : 0 < all) (w : World) :
    Calls Tryd.prog 13 #[.int .u64 a, .int .u64 p, .int .u64 all] w (ShareRes a p all w) := by
  have hz : ((all : Int) == 0) = false := by simp; omega
  have e1 : Hid (shareV a p all = a * p / all ∧ shareE a p all = 0) := by show _ ∧ _; rw [shareV, shareE, if_neg (by omega), if_neg (by omega), if_neg (by omega), if_neg (by omega)]; exact ⟨rfl, rfl⟩
  go_enter Tryd.func13, Tryd.ntmps13
  go_wp2
  go_loopg [10, 8, 9] 51 (fun g vi vq vr wr => ∃ (q r : Nat), vi = .int .i64 ((g : Int) - 1) ∧ vq = .int .u64 q ∧ vr = .int .u64 r ∧ Hid (SInv a p all q r (a / 2 ^ g)) ∧ g ≤ 51 ∧ r < all ∧ q ≤ 1125899906842624 ∧ w = wr)
  case atStart =>
    refine ⟨0, 0, rfl, rfl, rfl, ?_, Nat.le_refl _, h0, by omega, rfl⟩
    show SInv _ _ _ _ _ _
    rw [Nat.div_eq_of_lt (by omega)]; simp [SInv]
  case round =>
    obtain ⟨q, r, rfl, rfl, rfl, hinv, hg, hr, hq, rfl⟩ := hrel
    have HI := Lib.hid hinv.out
    clear hinv
    cases gk with
    | zero =>
      go_wp2
      go_ret2
      refine ⟨?_, Below.refl _ _⟩
      rw [e1.out.1, e1.out.2, ← sinv_end a p all q r (by simpa using HI.out) hr]
      rfl
    | succ n =>
      have ei : (((n + 1 : Nat) : Int) - 1) = (n : Int) := by omega
      rw [ei]
      have Ei := Lib.hid ei
      clear ei
      have hmin : min n 64 = n := by omega
      have hAle : a / 2 ^ n ≤ 1125899906842624 := Nat.le_trans (Nat.div_le_self _ _) ha
      have hd : ((a : Int) / 2 ^ n) = ((a / 2 ^ n : Nat) : Int) := by simp
      obtain ⟨A, hA⟩ : ∃ A, A = a / 2 ^ n := ⟨_, rfl⟩
      have hA2 := half_step a n
      rw [← hA] at hA2 hd hAle
      have HA := Lib.hid hA
      have HA2 := Lib.hid hA2
      clear hA hA2
      by_cases hbit : A % 2 = 1
      · have hb : ((A : Int) % 2 == 1) = true := by simp; omega
        go_wp2
        go_loopg [8, 9] (2 * r + p) (fun g vq vr wr => ∃ q' : Nat, vq = .int .u64 q' ∧ vr = .int .u64 g ∧ Hid (SInv a p all q' g A) ∧ g < 3 * all ∧ q' ≤ 1125899906842624 ∧ w = wr)
        case atStart =>
          have hs := sinv_double a p all q r (a / 2 ^ (n + 1)) 1 HI.out
          rw [show 2 * (a / 2 ^ (n + 1)) + 1 = A by have := HA2.out; omega, Nat.one_mul] at hs
          exact ⟨2 * q, by go_num, by go_num, hs, by omega, sinv_bound _ _ _ _ _ _ hs hAle hp h0, rfl⟩
        case round =>
          obtain ⟨q', rfl, rfl, hs, hlt3, hq', rfl⟩ := hrel
          have HS := Lib.hid hs.out
          clear hs
          by_cases hge : all ≤ gk
          · have hs := sinv_down a p all q' gk A HS.out hge
            have hb' := sinv_bound _ _ _ _ _ _ hs hAle hp h0
            have HS' := Lib.hid hs
            clear hs
            go_wp2
            go_roundg (gk - all)
            case measure => omega
            case rel => exact ⟨q' + 1, by go_num, by go_num, HS'.out, by omega, hb', rfl⟩
          · go_wp2
            go_roundg n
            case measure => omega
            case rel => exact ⟨q', gk, by go_num, rfl, rfl, by show SInv _ _ _ _ _ _; rw [← HA.out]; exact HS.out, by omega, by omega, hq', rfl⟩
      · have hb : ((A : Int) % 2 == 1) = false := by simp; omega
        go_wp2
        go_loopg [8, 9] (2 * r) (fun g vq vr wr => ∃ q' : Nat, vq = .int .u64 q' ∧ vr = .int .u64 g ∧ Hid (SInv a p all q' g A) ∧ g < 3 * all ∧ q' ≤ 1125899906842624 ∧ w = wr)
        case atStart =>
          have hs := sinv_double a p all q r (a / 2 ^ (n + 1)) 0 HI.out
          rw [show 2 * (a / 2 ^ (n + 1)) + 0 = A by have := HA2.out; omega, Nat.zero_mul, Nat.add_zero] at hs
          exact ⟨2 * q, by go_num, by go_num, hs, by omega, sinv_bound _ _ _ _ _ _ hs hAle hp h0, rfl⟩
        case round =>
          obtain ⟨q', rfl, rfl, hs, hlt3, hq', rfl⟩ := hrel
          have HS := Lib.hid hs.out
          clear hs
          by_cases hge : all ≤ gk
          · have hs := sinv_down a p all q' gk A HS.out hge
            have hb' := sinv_bound _ _ _ _ _ _ hs hAle hp h0
            have HS' := Lib.hid hs
            clear hs
            go_wp2
            go_roundg (gk - all)
            case measure => omega
            case rel => exact ⟨q' + 1, by go_num, by go_num, HS'.out, by omega, hb', rfl⟩
          · go_wp2
            go_roundg n
            case measure => omega
            case rel => exact ⟨q', gk, by go_num, rfl, rfl, by show SInv _ _ _ _ _ _; rw [← HA.out]; exact HS.out, by omega, by omega, hq', rfl⟩

theorem refshare_any (a p all : Nat) (ha : a < 18446744073709551616) (hp : p < 18446744073709551616) (hall : all < 18446744073709551616) (w : World) :
    Calls Tryd.prog 13 #[.int .u64 a, .int .u64 p, .int .u64 all] w (ShareRes a p all w) := by
  by_cases h : 1125899906842624 < a ∨ 1125899906842624 < all ∨ all < p
  · exact refshare_bad a p all ha hp hall w h
  · rcases Nat.eq_zero_or_pos all with h0 | h0
    · exact refshare_zero a p all (by omega) (by omega) h0 w
    · exact refshare_good a p all (by omega) (by omega) (by omega) h0 w
end Go.Proofs.YtdmpbkbbijjdaaaDoor
