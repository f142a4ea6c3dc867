import Derived.Test.YtdmpbkbbijjdaaaDoorMonG
import Derived.Test.YtdmpbkbbijjdaaaDoorMonH
import Derived.Test.YtdmpbkbbijjdaaaDoorRows
import Derived.LaidMore
import Derived.Lib.LaidTab
namespace Go.Proofs.YtdmpbkbbijjdaaaDoor
open Go.Shelf Go.RowKit Go.Sort Go.Lib
set_option linter.unusedVariables false
set_option linter.unusedSimpArgs false

def RdU (w : World) (A : Option Addr) (xs : List Int) : Prop :=
  xs.length ≤ 9223372036854775807 ∧ (∀ x ∈ xs, 0 ≤ x ∧ x ≤ 18446744073709551615) ∧ (0 < xs.length → ∃ ad, A = some ad ∧ ∀ j, j < xs.length → w.cell? (ad.add j) = some (.int .u64 (xs.getD j 0)))

theorem RdU.below {w w1 : World} {A : Option Addr} {xs : List Int} (h : RdU w A xs) (hb : Below w.heap.size w w1) : RdU w1 A xs :=
  ⟨h.1, h.2.1, fun hn => let ⟨ad, e, hc⟩ := h.2.2 hn; ⟨ad, e, fun j hj => cellb hb (hc j hj)⟩⟩

/-- The law with its long way, cut into what comes of each call. -/
theorem sums_long (A : Option Addr) (c : Nat) (xs : List Int) (a b d : Nat) (w : World) (hl : xs.length ≤ 2000) (hx : RdU w A xs)
    (ha : a < 18446744073709551616) (hb : b < 18446744073709551616) (hd : d < 18446744073709551616) (htab : Lib.TabIs Tryd.prog w "internal/strconv.uint64pow10" .u64 Lib.pow10Tab) :
    Calls Tryd.prog 3 #[.slice A xs.length c, .int .u64 a, .int .u64 b, .int .u64 d] w fun e w' => e = .returned (.bool true) ∧ Below w.heap.size w w' := by
  have hl' : ¬ ((2000 : Int) < (xs.length : Int)) := by omega
  go_enter Tryd.func3, Tryd.ntmps3
  go_wp2_with fail
  refine (sum_any A c xs _ hx.1 hx.2.1 hx.2.2).mono ?_
  rintro e w' ⟨rfl, rfl⟩
  go_wp2_with fail
  refine (refsum_any A c xs _ hx.1 hx.2.1 hx.2.2).mono ?_
  rintro e w' ⟨rfl, rfl⟩
  go_wp2_with fail
  refine (add_any a b _ (by omega) (by omega)).mono ?_
  rintro e w1 ⟨rfl, hb1⟩
  have htab1 := tabIs_below htab hb1
  have HX := Lib.hid hx
  have HT := Lib.hid htab1
  clear hx htab htab1
  go_wp2_with fail
  refine (refsum_any _ _ [(a : Int), (b : Int)] _ (by simp) (by simp; omega) ?_).mono ?_
  · intro _
    refine ⟨_, rfl, fun j hj => ?_⟩
    have : j = 0 ∨ j = 1 := by simp at hj; omega
    rcases this with rfl | rfl <;> go_simp
  rintro e w' ⟨rfl, rfl⟩
  have HT2 := Lib.hid (Lib.tabIs_alloc HT.out (.cells #[.int .u64 a, .int .u64 b] 23))
  have Hb2 := Lib.hid (hb1.alloc hb1.size (.cells #[.int .u64 a, .int .u64 b] 23))
  clear HT hb1
  go_wp2_with fail
  refine (sub_any a b _ (by omega) (by omega)).mono ?_
  rintro e w' ⟨rfl, rfl⟩
  go_wp2_with fail
  refine (refsub_any a b _ (by omega) (by omega)).mono ?_
  rintro e w' ⟨rfl, rfl⟩
  go_wp2_with fail
  refine (share_any a b d ha hb hd _).mono ?_
  rintro e w2 ⟨rfl, hb2⟩
  have HT3 := Lib.hid (tabIs_below HT2.out hb2)
  have Hb3 := Lib.hid (Hb2.out.trans (hb2.mono Hb2.out.size))
  clear hb2 HT2 Hb2
  go_wp2_with fail
  refine (refshare_any a b d ha hb hd _).mono ?_
  rintro e w3 ⟨rfl, hb3⟩
  have HT4 := Lib.hid (tabIs_below HT3.out hb3)
  have Hb4 := Lib.hid (Hb3.out.trans (hb3.mono Hb3.out.size))
  clear hb3 HT3 Hb3
  by_cases hm : a ≤ 1125899906842624
  · have hmd : decide ((a : Int) ≤ 1125899906842624) = true := by simp; omega
    go_wp2_with (first
      | (go_at_call 14; refine (num_any _ _).mono ?_; rintro e w' ⟨rfl, rfl⟩)
      | (go_at_call 15; (first | refine (may_yes _ _ (by omega)).mono ?_ | refine (may_no _ _ (by omega)).mono ?_); rintro e w' ⟨rfl, rfl⟩)
      | (go_at_call 6; refine (known_any _ HT4.out).mono ?_; rintro e w4 ⟨rfl, hb4⟩))
    go_ret
    exact ⟨rfl, Hb4.out.trans (hb4.mono Hb4.out.size)⟩
  · have hmd : decide ((a : Int) ≤ 1125899906842624) = false := by simp; omega
    go_wp2_with (first
      | (go_at_call 14; refine (num_any _ _).mono ?_; rintro e w' ⟨rfl, rfl⟩)
      | (go_at_call 15; (first | refine (may_yes _ _ (by omega)).mono ?_ | refine (may_no _ _ (by omega)).mono ?_); rintro e w' ⟨rfl, rfl⟩)
      | (go_at_call 6; refine (known_any _ HT4.out).mono ?_; rintro e w4 ⟨rfl, hb4⟩))
    go_ret
    exact ⟨rfl, Hb4.out.trans (hb4.mono Hb4.out.size)⟩

theorem sums_short (A : Option Addr) (n c : Nat) (a b d : Nat) (w : World) (hl : 2000 < n) (htab : Lib.TabIs Tryd.prog w "internal/strconv.uint64pow10" .u64 Lib.pow10Tab) :
    Calls Tryd.prog 3 #[.slice A n c, .int .u64 a, .int .u64 b, .int .u64 d] w fun e w' => e = .returned (.bool true) ∧ Below w.heap.size w w' := by
  have hl' : (2000 : Int) < (n : Int) := by omega
  go_enter Tryd.func3, Tryd.ntmps3
  go_wp2_with (go_at_call 6; refine (known_any _ htab).mono ?_; rintro e w4 ⟨rfl, hb4⟩)
  go_ret
  exact ⟨rfl, hb4⟩

theorem rd_of_row {w : World} {a : Option Addr} {len cap : Nat} {zs : List Int} (h : IsRow .u64 w a len cap zs) : (zs.take len).length = len ∧ RdU w a (zs.take len) := by
  rcases h with ⟨rfl, rfl, rfl, rfl⟩ | ⟨x, rfl, hl, hm, hz, hc, hw⟩
  · exact ⟨rfl, by simp [RdU]⟩
  · have hlen : (zs.take len).length = len := by rw [List.length_take]; omega
    refine ⟨hlen, by rw [hlen]; unfold maxLen at hm; omega, fun y hy => bounds_u64 (hw y (List.mem_of_mem_take hy)), fun _ => ⟨x, rfl, fun j hj => ?_⟩⟩
    rw [hlen] at hj
    rw [hc j (by omega)]
    simp [List.getD, hj]

theorem pow_laid {W : World} (h : laidMetH Tryd.prog [("math/bits.deBruijn32tab", Rows.laid_math_bits_deBruijn32tab), ("math/bits.deBruijn64tab", Rows.laid_math_bits_deBruijn64tab), ("internal/strconv.uint64pow10", Rows.laid_internal_strconv_uint64pow10)] W) :
    Lib.TabIs Tryd.prog W "internal/strconv.uint64pow10" .u64 Lib.pow10Tab := by
  rw [MakeChecks.laidMetH_plain _ _ _ (by kernel_rfl)] at h
  exact tab_of_laid h (List.mem_cons_of_mem _ (List.mem_cons_of_mem _ (List.mem_cons_self ..))) (show Tryd.prog.globalNamed "internal/strconv.uint64pow10" = some 2 by kernel_rfl) (show _ = some 70 by kernel_rfl)
    Tryd.underlying70 Tryd.underlying23 (by kernel_rfl) (by kernel_rfl)

theorem sums_walk (a0 : Option Addr) (len0 cap0 : Nat) (z0 : List Int) {W : World} (w0 : IsRow .u64 W a0 len0 cap0 z0) (a1 : Int) (w1 : (Lit.int .u64 a1).wf = true) (a2 : Int) (w2 : (Lit.int .u64 a2).wf = true) (a3 : Int) (w3 : (Lit.int .u64 a3).wf = true)
    (h : laidMetH Tryd.prog [("math/bits.deBruijn32tab", Rows.laid_math_bits_deBruijn32tab), ("math/bits.deBruijn64tab", Rows.laid_math_bits_deBruijn64tab), ("internal/strconv.uint64pow10", Rows.laid_internal_strconv_uint64pow10)] W) :
    Calls Tryd.prog 3 #[.slice a0 len0 cap0, .int .u64 a1, .int .u64 a2, .int .u64 a3] W fun e w' => e = .returned (.bool true) ∧ Below W.heap.size W w' := by
  have b1 := bounds_u64 w1
  have b2 := bounds_u64 w2
  have b3 := bounds_u64 w3
  obtain ⟨n1, rfl⟩ : ∃ n : Nat, a1 = n := ⟨a1.toNat, by omega⟩
  obtain ⟨n2, rfl⟩ : ∃ n : Nat, a2 = n := ⟨a2.toNat, by omega⟩
  obtain ⟨n3, rfl⟩ : ∃ n : Nat, a3 = n := ⟨a3.toNat, by omega⟩
  have ht := pow_laid h
  obtain ⟨hlen, hrd⟩ := rd_of_row w0
  by_cases hl : len0 ≤ 2000
  · have := sums_long a0 cap0 (z0.take len0) n1 n2 n3 W (by omega) hrd (by omega) (by omega) (by omega) ht
    rw [hlen] at this
    exact this
  · exact sums_short a0 len0 cap0 n1 n2 n3 W (by omega) ht
end Go.Proofs.YtdmpbkbbijjdaaaDoor
