import Derived.Test.YtdmpbkbbijjdaaaDoorMonB
import Derived.Test.YtdmpbkbbijjdaaaDoorMonE
namespace Go.Proofs.YtdmpbkbbijjdaaaDoor
open Go.Shelf Go.RowKit Go.Sort Go.Lib
set_option linter.unusedVariables false
set_option linter.unusedSimpArgs false

def shareV (a p all : Nat) : Nat := if 1125899906842624 < a ∨ 1125899906842624 < all ∨ all < p then 0 else if all = 0 then 0 else a * p / all
def shareE (a p all : Nat) : Int := if 1125899906842624 < a ∨ 1125899906842624 < all ∨ all < p then 5 else if all = 0 then 2 else 0

def ShareRes (a p all : Nat) (w : World) (e : Ending) (w' : World) : Prop :=
  e = .returned (.tuple #[.int .u64 (shareV a p all : Nat), .int .i64 (shareE a p all)]) ∧ Below w.heap.size w w'

set_option maxHeartbeats 1000000 in
theorem share_bad (a p all : Nat) (ha : a < 18446744073709551616) (hp : p < 18446744073709551616) (hall : all < 18446744073709551616) (w : World) (h : 1125899906842624 < a ∨ 1125899906842624 < all ∨ all < p) :
    Calls Tryd.prog 12 #[.int .u64 a, .int .u64 p, .int .u64 all] w (ShareRes a p all w) := by
  have e1 : Hid (shareV a p all = 0 ∧ shareE a p all = 5) := by show _ ∧ _; rw [shareV, shareE, if_pos h, if_pos h]; exact ⟨rfl, rfl⟩
  by_cases h1 : 1125899906842624 < a
  · clear h
    go_enter Tryd.func12, Tryd.ntmps12
    go_wp2_with (go_at_call 15; (first | refine (may_yes _ _ (by omega)).mono ?_ | refine (may_no _ _ (by omega)).mono ?_); rintro e w' ⟨rfl, rfl⟩)
    go_ret2
    exact ⟨by rw [e1.out.1, e1.out.2]; rfl, Below.refl _ _⟩
  · by_cases h2 : 1125899906842624 < all
    · clear h
      go_enter Tryd.func12, Tryd.ntmps12
      go_wp2_with (go_at_call 15; (first | refine (may_yes _ _ (by omega)).mono ?_ | refine (may_no _ _ (by omega)).mono ?_); rintro e w' ⟨rfl, rfl⟩)
      go_ret2
      exact ⟨by rw [e1.out.1, e1.out.2]; rfl, Below.refl _ _⟩
    · have h3 : all < p := by omega
      clear h
      go_enter Tryd.func12, Tryd.ntmps12
      go_wp2_with (go_at_call 15; (first | refine (may_yes _ _ (by omega)).mono ?_ | refine (may_no _ _ (by omega)).mono ?_); rintro e w' ⟨rfl, rfl⟩)
      go_ret2
      exact ⟨by rw [e1.out.1, e1.out.2]; rfl, Below.refl _ _⟩

theorem share_zero (a p all : Nat) (ha : a ≤ 1125899906842624) (hp : p = 0) (hall : all = 0) (w : World) :
    Calls Tryd.prog 12 #[.int .u64 a, .int .u64 p, .int .u64 all] w (ShareRes a p all w) := by
  have e1 : Hid (shareV a p all = 0 ∧ shareE a p all = 2) := by show _ ∧ _; rw [shareV, shareE, if_neg (by omega), if_pos hall, if_neg (by omega), if_pos hall]; exact ⟨rfl, rfl⟩
  have hz : ((all : Int) == 0) = true := by simp; omega
  have hle : all ≤ 1125899906842624 ∧ p ≤ all := by omega
  obtain ⟨hl1, hl2⟩ := hle
  clear hp hall
  go_enter Tryd.func12, Tryd.ntmps12
  go_wp2_with (go_at_call 15; (first | refine (may_yes _ _ (by omega)).mono ?_ | refine (may_no _ _ (by omega)).mono ?_); rintro e w' ⟨rfl, rfl⟩)
  go_ret2
  exact ⟨by rw [e1.out.1, e1.out.2]; rfl, Below.refl _ _⟩

def DivRes (q : Nat) (w : World) (e : Ending) (w' : World) : Prop := (∃ r : Int, e = .returned (.tuple #[.int .u64 (q : Int), .int .u64 r])) ∧ Below w.heap.size w w'

theorem div_any (hi lo y : Nat) (hlt : hi < y) (hlo : lo < 18446744073709551616) (hy2 : y < 18446744073709551616) (w : World) :
    Calls Tryd.prog 21 #[.int .u64 hi, .int .u64 lo, .int .u64 y] w (DivRes ((hi * 18446744073709551616 + lo) / y) w) := by
  rcases Nat.eq_zero_or_pos hi with rfl | h
  · refine (div_small lo y hlo (by omega) hy2 w).mono ?_
    rintro e w' ⟨rfl, hb⟩
    exact ⟨⟨_, by rw [Nat.zero_mul, Nat.zero_add]⟩, hb⟩
  · refine (div_big hi lo y h hlt hlo hy2 w).mono ?_
    rintro e w' ⟨r, rfl, rfl⟩
    exact ⟨⟨r, rfl⟩, Below.refl _ _⟩

theorem hi_small (a p all : Nat) (ha : a ≤ 1125899906842624) (hp : p ≤ all) (h0 : 0 < all) : a * p / 18446744073709551616 < all := by
  rw [Nat.div_lt_iff_lt_mul (by omega)]
  have h1 : a * p ≤ 1125899906842624 * all := Nat.mul_le_mul ha hp
  omega

theorem share_core (a p all hi lo R : Nat) (ha : a ≤ 1125899906842624) (hp : p ≤ all) (hall : all ≤ 1125899906842624) (h0 : 0 < all) (w : World)
    (hm : ∀ w, Calls Tryd.prog 20 #[.int .u64 a, .int .u64 p] w fun e w' => e = .returned (.tuple #[.int .u64 (hi : Int), .int .u64 (lo : Int)]) ∧ w' = w)
    (hd : ∀ w, Calls Tryd.prog 21 #[.int .u64 hi, .int .u64 lo, .int .u64 all] w (DivRes R w)) :
    Calls Tryd.prog 12 #[.int .u64 a, .int .u64 p, .int .u64 all] w fun e w' => e = .returned (.tuple #[.int .u64 (R : Int), .int .i64 0]) ∧ Below w.heap.size w w' := by
  have hz : ((all : Int) == 0) = false := by simp; omega
  have HM := Lib.hid hm
  have HD := Lib.hid hd
  clear hm hd
  go_enter Tryd.func12, Tryd.ntmps12
  go_wp2_with (first
    | (go_at_call 15; (first | refine (may_yes _ _ (by omega)).mono ?_ | refine (may_no _ _ (by omega)).mono ?_); rintro e w' ⟨rfl, rfl⟩)
    | (go_at_call 20; refine (HM.out _).mono ?_; rintro e w' ⟨rfl, rfl⟩)
    | (go_at_call 21; refine (HD.out _).mono ?_; rintro e w' ⟨⟨r, rfl⟩, hb⟩))
  go_ret2
  exact ⟨rfl, hb⟩

theorem share_any (a p all : Nat) (ha : a < 18446744073709551616) (hp : p < 18446744073709551616) (hall : all < 18446744073709551616) (w : World) :
    Calls Tryd.prog 12 #[.int .u64 a, .int .u64 p, .int .u64 all] w (ShareRes a p all w) := by
  by_cases h : 1125899906842624 < a ∨ 1125899906842624 < all ∨ all < p
  · exact share_bad a p all ha hp hall w h
  · rcases Nat.eq_zero_or_pos all with h0 | h0
    · exact share_zero a p all (by omega) (by omega) h0 w
    · have e := Nat.div_add_mod' (a * p) 18446744073709551616
      have hd := div_any (a * p / 18446744073709551616) (a * p % 18446744073709551616) all (hi_small a p all (by omega) (by omega) h0) (Nat.mod_lt _ (by omega)) (by omega)
      rw [e] at hd
      refine (share_core a p all _ _ _ (by omega) (by omega) (by omega) h0 w (Tryd.bits_Mul64 a p (by omega) (by omega)) hd).mono ?_
      rintro e w' ⟨rfl, hb⟩
      refine ⟨?_, hb⟩
      rw [shareV, shareE, if_neg h, if_neg h, if_neg (by omega), if_neg (by omega)]
end Go.Proofs.YtdmpbkbbijjdaaaDoor
