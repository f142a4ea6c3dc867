import Derived.Test.YtdmpbkbbijjdaaaDoorProg
import Derived.WalkKit
import Derived.Below
import Derived.KernelRfl
import Derived.RowKit3
import Derived.Outline
import Derived.Lib.Hide
import Derived.Deep.LoopGhost
import Derived.Deep.DeepCutAuto
import Derived.Deep.CutBlock
import Derived.OwnWalk
namespace Go.Proofs.YtdmpbkbbijjdaaaDoor
open Go.RowKit
set_option linter.unusedVariables false
set_option linter.unusedSimpArgs false

theorem may_any (a : Int) (w : World) : Calls Tryd.prog 15 #[.int .u64 a] w fun e w' => e = .returned (.bool (decide (a ≤ 1125899906842624))) ∧ w = w' := by
  go_enter Tryd.func15, Tryd.ntmps15
  go_wp2
  go_ret
  exact ⟨rfl, rfl⟩

theorem may_yes (a : Int) (w : World) (h : a ≤ 1125899906842624) : Calls Tryd.prog 15 #[.int .u64 a] w fun e w' => e = .returned (.bool true) ∧ w = w' :=
  (may_any a w).mono fun _ _ ⟨h1, h2⟩ => ⟨by rw [h1, decide_eq_true h], h2⟩
theorem may_no (a : Int) (w : World) (h : 1125899906842624 < a) : Calls Tryd.prog 15 #[.int .u64 a] w fun e w' => e = .returned (.bool false) ∧ w = w' :=
  (may_any a w).mono fun _ _ ⟨h1, h2⟩ => ⟨by rw [h1, decide_eq_false (by omega)], h2⟩

theorem num_any (a : Int) (w : World) : Calls Tryd.prog 14 #[.int .i64 a] w fun e w' => e = .returned (.int .i64 a) ∧ w = w' := by
  go_enter Tryd.func14, Tryd.ntmps14
  go_wp2
  go_ret
  exact ⟨rfl, rfl⟩

def cap50 : Int := 1125899906842624
def sumGo : List Int → Int → Int × Int
  | [], n => (n, 0)
  | a :: r, n => if 1125899906842624 < a then (0, 5) else if 1125899906842624 < n + a then (0, 5) else sumGo r (n + a)

theorem wrap_u64 (n : Int) (h0 : 0 ≤ n) (h : n < 18446744073709551616) : IntKind.u64.wrap n = n := by
  exact IntWalk.u64_in n (by omega)

theorem sumGo_nil (n : Int) : sumGo [] n = (n, 0) := rfl
theorem sumGo_cons (a : Int) (r : List Int) (n : Int) : sumGo (a :: r) n = if 1125899906842624 < a then (0, 5) else if 1125899906842624 < n + a then (0, 5) else sumGo r (n + a) := rfl
theorem drop_at (xs : List Int) (k : Nat) (h : k < xs.length) : xs.drop k = xs.getD k 0 :: xs.drop (k + 1) := by
  rw [List.drop_eq_getElem_cons h]; simp [List.getD, h]

def Res (xs : List Int) (n : Int) (m : Int) : Prop := if 1125899906842624 < m then sumGo xs n = (0, 5) else sumGo xs n = (m, 0)


theorem res_add (xs : List Int) (n a : Int) (r : List Int) (h : sumGo xs 0 = sumGo (a :: r) n) (ha : ¬ 1125899906842624 < a) (hn : ¬ 1125899906842624 < n + a) : sumGo xs 0 = sumGo r (n + a) := by
  rw [h, sumGo_cons, if_neg ha, if_neg hn]

theorem sum_any (A : Option Addr) (c : Nat) (xs : List Int) (w : World) (hl : xs.length ≤ 9223372036854775807) (hp : ∀ x ∈ xs, 0 ≤ x ∧ x ≤ 18446744073709551615)
    (hc : 0 < xs.length → ∃ ad, A = some ad ∧ ∀ j, j < xs.length → w.cell? (ad.add j) = some (.int .u64 (xs.getD j 0))) :
    Calls Tryd.prog 7 #[.slice A xs.length c] w fun e w' => e = .returned (.tuple #[.int .u64 (sumGo xs 0).1, .int .i64 (sumGo xs 0).2]) ∧ w = w' := by
  go_enter Tryd.func7, Tryd.ntmps7
  go_wp2
  go_step3
  go_wp2
  go_step3
  go_upto_block 0 with (fail)
  go_cut [4] (fun m wx => ∃ n : Int, m = .int .u64 n ∧ 0 ≤ n ∧ Hid (Res xs 0 n) ∧ w = wx)
  case first =>
    go_wp2
    go_loopg [9, 4] xs.length (fun g i m wr => ∃ (k : Nat) (n : Int), g + k = xs.length ∧ i = .int .i64 k ∧ m = .int .u64 n ∧ 0 ≤ n ∧ n ≤ 1125899906842624 ∧ Hid (sumGo xs 0 = sumGo (xs.drop k) n) ∧ w = wr)
    case atStart => exact ⟨0, 0, by omega, rfl, rfl, by omega, by omega, rfl, rfl⟩
    case round => 
      obtain ⟨k, n, hk, rfl, rfl, h0, h1, hs, rfl⟩ := hrel
      by_cases hlt : k < xs.length
      · obtain ⟨ad, rfl, hcc⟩ := hc (by omega)
        have hcell := hcc k hlt
        have hx0 : 0 ≤ xs.getD k 0 ∧ xs.getD k 0 ≤ 18446744073709551615 := by
          have := hp (xs[k]) (List.getElem_mem ..); simpa [List.getD, hlt] using this
        have HD := Lib.hid (drop_at xs k hlt)
        generalize xs.getD k 0 = a at *
        obtain ⟨ha0, ha1⟩ := hx0
        clear hc hcc hp
        by_cases ha : 1125899906842624 < a
        · go_wp2_with (go_at_call 15; (first | refine (may_yes _ _ (by omega)).mono ?_ | refine (may_no _ _ (by omega)).mono ?_); rintro e w' ⟨rfl, rfl⟩)
          go_meet
          case rel => exact ⟨_, rfl, by omega, by
            show Res xs 0 _
            unfold Res; rw [if_pos (by omega), hs.out, HD.out, sumGo_cons, if_pos (by omega)], rfl⟩
        · by_cases hb : 1125899906842624 < n + a
          · go_wp2_with (go_at_call 15; (first | refine (may_yes _ _ (by omega)).mono ?_ | refine (may_no _ _ (by omega)).mono ?_); rintro e w' ⟨rfl, rfl⟩)
            go_meet
            case rel => exact ⟨_, rfl, by omega, by
              show Res xs 0 _
              unfold Res; rw [if_pos (by omega), hs.out, HD.out, sumGo_cons, if_neg (by omega), if_pos (by omega)], rfl⟩
          · go_wp2_with (go_at_call 15; (first | refine (may_yes _ _ (by omega)).mono ?_ | refine (may_no _ _ (by omega)).mono ?_); rintro e w' ⟨rfl, rfl⟩)
            go_roundg (gk - 1)
            case measure => omega
            case rel => exact ⟨k + 1, n + a, by omega, by go_num, rfl, by omega, by omega, by
              show _ = _
              rw [hs.out, HD.out, sumGo_cons, if_neg (by omega), if_neg (by omega)], rfl⟩
      · obtain rfl : k = xs.length := by omega
        go_wp2
        go_meet
        case rel => exact ⟨_, rfl, by omega, by
          show Res xs 0 _
          unfold Res; rw [if_neg (by omega), hs.out]; simp [sumGo_nil], rfl⟩
  case rest =>
    obtain ⟨n, rfl, h0, hr, rfl⟩ := hcut
    have hr : Hid (Res xs 0 n) := hr
    by_cases hn : 1125899906842624 < n
    · go_wp2_with (go_at_call 15; (first | refine (may_yes _ _ (by omega)).mono ?_ | refine (may_no _ _ (by omega)).mono ?_); rintro e w' ⟨rfl, rfl⟩)
      try rw [Exit.noGoto_ret]
      go_ret2
      have := hr.out; unfold Res at this; rw [if_pos (by omega)] at this
      exact ⟨by simp [this], rfl⟩
    · go_wp2_with (go_at_call 15; (first | refine (may_yes _ _ (by omega)).mono ?_ | refine (may_no _ _ (by omega)).mono ?_); rintro e w' ⟨rfl, rfl⟩)
      try rw [Exit.noGoto_ret]
      go_ret2
      have := hr.out; unfold Res at this; rw [if_neg (by omega)] at this
      exact ⟨by simp [this], rfl⟩
end Go.Proofs.YtdmpbkbbijjdaaaDoor
