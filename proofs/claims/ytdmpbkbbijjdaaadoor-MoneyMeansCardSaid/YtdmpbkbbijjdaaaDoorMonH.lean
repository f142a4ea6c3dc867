import Derived.Test.YtdmpbkbbijjdaaaDoorMonD
import Derived.Test.YtdmpbkbbijjdaaaDoorBase
namespace Go.Proofs.YtdmpbkbbijjdaaaDoor
open Go.Shelf Go.RowKit Go.Sort Go.Lib
set_option linter.unusedVariables false
set_option linter.unusedSimpArgs false

theorem l15 : moneyL 150000000 = [49, 46, 53] := by
  unfold moneyL
  rw [decDigits_eq]
  decide +kernel
theorem l7 : moneyL 7 = [48, 46, 48, 48, 48, 48, 48, 48, 48, 55] := by
  unfold moneyL
  rw [decDigits_eq]
  decide +kernel

theorem text15 (w : World) (htab : Lib.TabIs Tryd.prog w "internal/strconv.uint64pow10" .u64 Lib.pow10Tab) :
    Calls Tryd.prog 16 #[.int .u64 150000000] w fun e w' => e = .returned (.tuple #[.string ⟨#[49, 46, 53]⟩, .int .i64 0]) ∧ Below w.heap.size w w' := by
  have h := text_any 150000000 (by omega) w htab
  rw [if_pos (by omega), if_pos (by omega), l15] at h
  exact h
theorem text7 (w : World) (htab : Lib.TabIs Tryd.prog w "internal/strconv.uint64pow10" .u64 Lib.pow10Tab) :
    Calls Tryd.prog 16 #[.int .u64 7] w fun e w' => e = .returned (.tuple #[.string ⟨#[48, 46, 48, 48, 48, 48, 48, 48, 48, 55]⟩, .int .i64 0]) ∧ Below w.heap.size w w' := by
  have h := text_any 7 (by omega) w htab
  rw [if_pos (by omega), if_pos (by omega), l7] at h
  exact h
theorem num_is (a : Int) (w : World) : Calls Tryd.prog 14 #[.int .i64 a] w fun e w' => e = .returned (.int .i64 a) ∧ w = w' := num_any a w

theorem known_any (w : World) (htab : Lib.TabIs Tryd.prog w "internal/strconv.uint64pow10" .u64 Lib.pow10Tab) :
    Calls Tryd.prog 6 #[] w fun e w' => e = .returned (.bool true) ∧ Below w.heap.size w w' := by
  go_enter Tryd.func6, Tryd.ntmps6
  go_wp2_with fail
  refine (text15 w htab).mono ?_
  rintro e w1 ⟨rfl, hb1⟩
  go_wp2_with fail
  refine (text7 w1 (tabIs_below htab hb1)).mono ?_
  rintro e w2 ⟨rfl, hb2⟩
  go_wp2_with (go_at_call 14; refine (num_any _ _).mono ?_; rintro e w' ⟨rfl, rfl⟩)
  go_ret
  exact ⟨rfl, hb1.trans (hb2.mono hb1.size)⟩
end Go.Proofs.YtdmpbkbbijjdaaaDoor
