import Derived.Test.YtdmpbkbbijjdaaaDoorMonA
namespace Go.Proofs.YtdmpbkbbijjdaaaDoor
open Go.RowKit
set_option linter.unusedVariables false
set_option linter.unusedSimpArgs false

theorem refsum_any (A : Option Addr) (c : Nat) (xs : List Int) (w : World) (hl : xs.length ≤ 9223372036854775807) (hp : ∀ x ∈ xs, 0 ≤ x ∧ x ≤ 18446744073709551615)
    (hc : 0 < xs.length → ∃ ad, A = some ad ∧ ∀ j, j < xs.length → w.cell? (ad.add j) = some (.int .u64 (xs.getD j 0))) :
    Calls Tryd.prog 8 #[.slice A xs.length c] w fun e w' => e = .returned (.tuple #[.int .u64 (sumGo xs 0).1, .int .i64 (sumGo xs 0).2]) ∧ w = w' := by
  go_enter Tryd.func8, Tryd.ntmps8
  go_wp2
  go_loopg [5, 4] xs.length (fun g i m wr => ∃ (k : Nat) (n : Int), g + k = xs.length ∧ i = .int .i64 k ∧ m = .int .u64 n ∧ 0 ≤ n ∧ n ≤ 1125899906842624 ∧ Hid (sumGo xs 0 = sumGo (xs.drop k) n) ∧ w = wr)
  case atStart => exact ⟨0, 0, by omega, rfl, rfl, by omega, by omega, rfl, rfl⟩
  case round =>
    obtain ⟨k, n, hk, rfl, rfl, h0, h1, hs, rfl⟩ := hrel
    by_cases hlt : k < xs.length
    · obtain ⟨ad, rfl, hcc⟩ := hc (by omega)
      have hcell := hcc k hlt
      have hx0 : 0 ≤ xs.getD k 0 ∧ xs.getD k 0 ≤ 18446744073709551615 := by
        have := hp (xs[k]) (List.getElem_mem ..); simpa [List.getD, hlt] using this
      have HD := Lib.hid (drop_at xs k hlt)
      generalize xs.getD k 0 = a at *
      obtain ⟨ha0, ha1⟩ := hx0
      clear hc hcc hp
      by_cases ha : 1125899906842624 < a
      · go_wp2
        go_ret2
        exact ⟨by have h := hs.out; rw [HD.out, sumGo_cons, if_pos (by omega)] at h; simp [h], rfl⟩
      · by_cases hb : 1125899906842624 < n + a
        · go_wp2
          go_ret2
          exact ⟨by have h := hs.out; rw [HD.out, sumGo_cons, if_neg (by omega), if_pos (by omega)] at h; simp [h], rfl⟩
        · go_wp2
          go_roundg (gk - 1)
          case measure => omega
          case rel => exact ⟨k + 1, n + a, by omega, by go_num, rfl, by omega, by omega, by
            show _ = _
            rw [hs.out, HD.out, sumGo_cons, if_neg (by omega), if_neg (by omega)], rfl⟩
    · obtain rfl : k = xs.length := by omega
      go_wp2
      go_ret2
      have := hs.out
      rw [List.drop_length, sumGo_nil] at this
      exact ⟨by simp [this], rfl⟩

theorem add_any (a b : Int) (w : World) (ha : 0 ≤ a ∧ a ≤ 18446744073709551615) (hb : 0 ≤ b ∧ b ≤ 18446744073709551615) :
    Calls Tryd.prog 9 #[.int .u64 a, .int .u64 b] w fun e w' => e = .returned (.tuple #[.int .u64 (sumGo [a, b] 0).1, .int .i64 (sumGo [a, b] 0).2]) ∧ Below w.heap.size w w' := by
  go_enter Tryd.func9, Tryd.ntmps9
  go_wp2_with fail
  refine (sum_any _ _ [a, b] _ (by simp) (by simpa using ⟨ha, hb⟩) ?_).mono ?_
  · intro _
    refine ⟨_, rfl, fun j hj => ?_⟩
    have : j = 0 ∨ j = 1 := by simp at hj; omega
    rcases this with rfl | rfl <;> go_simp
  · rintro e w' ⟨rfl, rfl⟩
    go_wp2
    go_ret2
    exact ⟨rfl, (Below.refl _ _).alloc (Nat.le_refl _) _⟩

def subV (a b : Int) : Int := if 1125899906842624 < a ∨ a < b then 0 else a - b
def subE (a b : Int) : Int := if 1125899906842624 < a ∨ a < b then 5 else 0

theorem sub_any0 (a b : Int) (w : World) (ha : 0 ≤ a ∧ a ≤ 18446744073709551615) (hb : 0 ≤ b ∧ b ≤ 18446744073709551615) :
    Calls Tryd.prog 10 #[.int .u64 a, .int .u64 b] w fun e w' => e = .returned (.tuple #[.int .u64 (if 1125899906842624 < a ∨ a < b then 0 else a - b), .int .i64 (if 1125899906842624 < a ∨ a < b then 5 else 0)]) ∧ w = w' := by
  obtain ⟨ha0, ha1⟩ := ha
  obtain ⟨hb0, hb1⟩ := hb
  by_cases h1 : 1125899906842624 < a
  · rw [if_pos (.inl h1), if_pos (.inl h1)]
    go_enter Tryd.func10, Tryd.ntmps10
    go_wp2_with (go_at_call 15; (first | refine (may_yes _ _ (by omega)).mono ?_ | refine (may_no _ _ (by omega)).mono ?_); rintro e w' ⟨rfl, rfl⟩)
    go_ret2
    exact ⟨rfl, rfl⟩
  · by_cases h2 : a < b
    · rw [if_pos (.inr h2), if_pos (.inr h2)]
      go_enter Tryd.func10, Tryd.ntmps10
      go_wp2_with (go_at_call 15; (first | refine (may_yes _ _ (by omega)).mono ?_ | refine (may_no _ _ (by omega)).mono ?_); rintro e w' ⟨rfl, rfl⟩)
      go_ret2
      exact ⟨rfl, rfl⟩
    · rw [if_neg (by omega), if_neg (by omega)]
      go_enter Tryd.func10, Tryd.ntmps10
      go_wp2_with (go_at_call 15; (first | refine (may_yes _ _ (by omega)).mono ?_ | refine (may_no _ _ (by omega)).mono ?_); rintro e w' ⟨rfl, rfl⟩)
      go_ret2
      exact ⟨rfl, rfl⟩

theorem sub_any (a b : Int) (w : World) (ha : 0 ≤ a ∧ a ≤ 18446744073709551615) (hb : 0 ≤ b ∧ b ≤ 18446744073709551615) :
    Calls Tryd.prog 10 #[.int .u64 a, .int .u64 b] w fun e w' => e = .returned (.tuple #[.int .u64 (subV a b), .int .i64 (subE a b)]) ∧ w = w' := sub_any0 a b w ha hb

theorem refsub_any0 (a b : Int) (w : World) (ha : 0 ≤ a ∧ a ≤ 18446744073709551615) (hb : 0 ≤ b ∧ b ≤ 18446744073709551615) :
    Calls Tryd.prog 11 #[.int .u64 a, .int .u64 b] w fun e w' => e = .returned (.tuple #[.int .u64 (if 1125899906842624 < a ∨ a < b then 0 else a - b), .int .i64 (if 1125899906842624 < a ∨ a < b then 5 else 0)]) ∧ w = w' := by
  obtain ⟨ha0, ha1⟩ := ha
  obtain ⟨hb0, hb1⟩ := hb
  by_cases h1 : 1125899906842624 < a
  · rw [if_pos (.inl h1), if_pos (.inl h1)]
    go_enter Tryd.func11, Tryd.ntmps11
    go_wp2
    go_ret2
    exact ⟨rfl, rfl⟩
  · by_cases h2 : a < b
    · rw [if_pos (.inr h2), if_pos (.inr h2)]
      go_enter Tryd.func11, Tryd.ntmps11
      go_wp2
      go_ret2
      exact ⟨rfl, rfl⟩
    · rw [if_neg (by omega), if_neg (by omega)]
      go_enter Tryd.func11, Tryd.ntmps11
      go_wp2
      go_ret2
      exact ⟨rfl, rfl⟩

theorem refsub_any (a b : Int) (w : World) (ha : 0 ≤ a ∧ a ≤ 18446744073709551615) (hb : 0 ≤ b ∧ b ≤ 18446744073709551615) :
    Calls Tryd.prog 11 #[.int .u64 a, .int .u64 b] w fun e w' => e = .returned (.tuple #[.int .u64 (subV a b), .int .i64 (subE a b)]) ∧ w = w' := refsub_any0 a b w ha hb
end Go.Proofs.YtdmpbkbbijjdaaaDoor
