import Derived.Test.YtdmpbkbbijjdaaaDoorMonV
import Derived.Test.YtdmpbkbbijjdaaaDoorMonL1
import Derived.Stop.LaidErr
namespace Go.Proofs.YtdmpbkbbijjdaaaDoor
open Go.Shelf Go.RowKit Go.Sort Go.Lib
set_option linter.unusedVariables false
set_option linter.unusedSimpArgs false

theorem texts_long (a : Nat) (s : ByteArray) (ha : a < 18446744073709551616) (hs : s.size ≤ 3000) (w : World) (hE : ErrVars w) (htab : Lib.TabIs Tryd.prog w "internal/strconv.uint64pow10" .u64 Lib.pow10Tab) :
    Calls Tryd.prog 4 #[.int .u64 a, .string s] w fun e w' => e = .returned (.bool true) ∧ Below w.heap.size w w' := by
  have hs' : ¬ ((3000 : Int) < (s.size : Int)) := by omega
  have HE := Lib.hid hE
  have HT := Lib.hid htab
  clear hE htab
  generalize hT : (if a ≤ 1125899906842624 then moneyL a else []) = T
  generalize hX : (if a ≤ 1125899906842624 then (0 : Int) else 5) = X
  have HTX := Lib.hid (And.intro hT hX)
  clear hT hX
  go_enter Tryd.func4, Tryd.ntmps4
  go_wp2_with fail
  refine (text_any a ha _ HT.out).mono ?_
  rw [HTX.out.1, HTX.out.2]
  rintro e w1 ⟨rfl, hb1⟩
  have HB1 := Lib.hid hb1
  have HE1 := Lib.hid (HE.out.below hb1)
  have HT1 := Lib.hid (tabIs_below HT.out hb1)
  clear hb1 HE HT
  go_wp2_with fail
  refine (reftext_any a ha _).mono ?_
  rw [HTX.out.1, HTX.out.2]
  rintro e w2 ⟨rfl, hb2⟩
  have HB2 := Lib.hid (HB1.out.trans (hb2.mono HB1.out.size))
  have HE2 := Lib.hid (HE1.out.below hb2)
  have HT2 := Lib.hid (tabIs_below HT1.out hb2)
  clear hb2 HB1 HE1 HT1
  go_wp2_with fail
  refine (of_any s hs _ HE2.out HT2.out).mono ?_
  rintro e w3 ⟨hb3, a3, x3, hr3, rfl⟩
  have HB3 := Lib.hid (HB2.out.trans (hb3.mono HB2.out.size))
  have HT3 := Lib.hid (tabIs_below HT2.out hb3)
  clear hb3 HB2 HE2 HT2
  have HR3 := Lib.hid hr3
  clear hr3
  go_wp2_with fail
  refine (refof_any s hs _).mono ?_
  rintro e w4 ⟨hb4, a4, x4, hr4, rfl⟩
  have HB4 := Lib.hid (HB3.out.trans (hb4.mono HB3.out.size))
  have HT4 := Lib.hid (tabIs_below HT3.out hb4)
  clear hb4 HB3 HT3
  obtain ⟨rfl, rfl⟩ := HR3.out.unique hr4
  clear hr4
  go_wp2_with (first
      | (go_at_call 14; refine (num_any _ _).mono ?_; rintro e w' ⟨rfl, rfl⟩)
      | (go_at_call 6; refine (known_any _ HT4.out).mono ?_; rintro e w5 ⟨rfl, hb5⟩))
  go_ret
  exact ⟨rfl, HB4.out.trans (hb5.mono HB4.out.size)⟩

theorem texts_short (a : Nat) (s : ByteArray) (hs : 3000 < s.size) (w : World) (htab : Lib.TabIs Tryd.prog w "internal/strconv.uint64pow10" .u64 Lib.pow10Tab) :
    Calls Tryd.prog 4 #[.int .u64 a, .string s] w fun e w' => e = .returned (.bool true) ∧ Below w.heap.size w w' := by
  have hs' : ((3000 : Int) < (s.size : Int)) := by omega
  go_enter Tryd.func4, Tryd.ntmps4
  go_wp2_with (go_at_call 6; refine (known_any _ htab).mono ?_; rintro e w5 ⟨rfl, hb5⟩)
  go_ret
  exact ⟨rfl, hb5⟩

def laid5 : List (String × DataW Unit) := [("math/bits.deBruijn32tab", Rows.laid_math_bits_deBruijn32tab), ("math/bits.deBruijn64tab", Rows.laid_math_bits_deBruijn64tab), ("internal/strconv.uint64pow10", Rows.laid_internal_strconv_uint64pow10), ("strconv.ErrRange", Rows.laid_strconv_ErrRange), ("strconv.ErrSyntax", Rows.laid_strconv_ErrSyntax)]

theorem err_names : ∀ u, Tryd.prog.typeName? 3 u = some "*errors.errorString" → u = 81 := by
  intro u h
  have star : "*" ++ "errors.errorString" = "*errors.errorString" := by decide
  exact typeName_ptr_named (nm := "errors.errorString") (by rw [star]; kernel_rfl) (by kernel_rfl) (by decide) u (by rw [star]; exact h)

theorem laid_errs {W : World} (h : laidMetH Tryd.prog laid5 W) : ErrVars W ∧ Lib.TabIs Tryd.prog W "internal/strconv.uint64pow10" .u64 Lib.pow10Tab := by
  rw [MakeChecks.laidMetH_plain _ _ _ (by kernel_rfl)] at h
  have h2 := laidMet.tail (laidMet.tail (show laidMet Tryd.prog (_ :: _ :: ("internal/strconv.uint64pow10", Lib.tabData .u64 Lib.pow10Tab) :: _) W from h))
  have h3 := laidMet.tail h2
  have h4 := laidMet.tail h3
  have ht := Lib.tabIs_of_head (show Tryd.prog.globalNamed "internal/strconv.uint64pow10" = some 2 by kernel_rfl) (show _ = some 70 by kernel_rfl)
    Tryd.underlying70 Tryd.underlying23 (by kernel_rfl) (by kernel_rfl) h2
  refine ⟨?_, ht⟩
  obtain ⟨a, s, h5, _⟩ := laid_sentinel h3 (show Tryd.prog.globalNamed "strconv.ErrRange" = some 4 by kernel_rfl) (show _ = some 52 by kernel_rfl) Tryd.underlying52 err_names
    Tryd.underlying81 Tryd.underlying83 rfl rfl Tryd.underlying9 (by kernel_rfl) (by kernel_rfl)
  obtain ⟨a', s', h6, _⟩ := laid_sentinel h4 (show Tryd.prog.globalNamed "strconv.ErrSyntax" = some 3 by kernel_rfl) (show _ = some 52 by kernel_rfl) Tryd.underlying52 err_names
    Tryd.underlying81 Tryd.underlying83 rfl rfl Tryd.underlying9 (by kernel_rfl) (by kernel_rfl)
  exact ⟨⟨_, _, h6⟩, ⟨_, _, h5⟩⟩

theorem texts_walk (a0 : Int) (w0 : (Lit.int .u64 a0).wf = true) (a1 : ByteArray) (w1 : a1.size ≤ maxLen) {W : World} (h : laidMetH Tryd.prog laid5 W) :
    Calls Tryd.prog 4 #[.int .u64 a0, .string a1] W fun e w' => e = .returned (.bool true) ∧ Below W.heap.size W w' := by
  have b0 := bounds_u64 w0
  obtain ⟨n0, rfl⟩ : ∃ n : Nat, a0 = n := ⟨a0.toNat, by omega⟩
  obtain ⟨hE, hT⟩ := laid_errs h
  by_cases hs : a1.size ≤ 3000
  · exact texts_long n0 a1 (by omega) hs W hE hT
  · exact texts_short n0 a1 (by omega) W hT
end Go.Proofs.YtdmpbkbbijjdaaaDoor
