import Derived.Test.YtdmpbkbbijjdaaaDoorMonL4
namespace Go.Proofs.YtdmpbkbbijjdaaaDoor
open Go.Shelf Go.RowKit Go.Sort Go.Lib
set_option linter.unusedVariables false
set_option linter.unusedSimpArgs false

set_option maxRecDepth 100000 in
theorem means_short (A : Option Addr) (n c : Nat) (a b d : Nat) (w : World) (hl : 200 < n) (htab : Lib.TabIs Tryd.prog w "internal/strconv.uint64pow10" .u64 Lib.pow10Tab) :
    Calls Tryd.prog 5 #[.slice A n c, .int .u64 a, .int .u64 b, .int .u64 d] w fun e w' => e = .returned (.bool true) ∧ Below w.heap.size w w' := by
  have hl' : (200 : Int) < (n : Int) := by omega
  go_enter Tryd.func5, Tryd.ntmps5
  go_wp2_with (go_at_call 6; refine (known_any _ htab).mono ?_; rintro e w4 ⟨rfl, hb4⟩)
  go_ret
  exact ⟨rfl, hb4⟩

theorem cap_of_row {k : IntKind} {w : World} {a : Option Addr} {len cap : Nat} {zs : List Int} (h : IsRow k w a len cap zs) : len ≤ cap := by
  rcases h with ⟨rfl, rfl, rfl, rfl⟩ | ⟨x, rfl, hl, _⟩
  · exact Nat.le_refl _
  · exact hl

theorem means_walk (a0 : Option Addr) (len0 cap0 : Nat) (z0 : List Int) {W : World} (w0 : IsRow .u64 W a0 len0 cap0 z0) (a1 : Int) (w1 : (Lit.int .u64 a1).wf = true) (a2 : Int) (w2 : (Lit.int .u64 a2).wf = true) (a3 : Int) (w3 : (Lit.int .u64 a3).wf = true)
    (h : laidMetH Tryd.prog laid5 W) :
    Calls Tryd.prog 5 #[.slice a0 len0 cap0, .int .u64 a1, .int .u64 a2, .int .u64 a3] W fun e w' => e = .returned (.bool true) ∧ Below W.heap.size W w' := by
  have b1 := bounds_u64 w1
  have b2 := bounds_u64 w2
  have b3 := bounds_u64 w3
  obtain ⟨n1, rfl⟩ : ∃ n : Nat, a1 = n := ⟨a1.toNat, by omega⟩
  obtain ⟨n2, rfl⟩ : ∃ n : Nat, a2 = n := ⟨a2.toNat, by omega⟩
  obtain ⟨n3, rfl⟩ : ∃ n : Nat, a3 = n := ⟨a3.toNat, by omega⟩
  obtain ⟨hE, ht⟩ := laid_errs h
  obtain ⟨hlen, hrd⟩ := rd_of_row w0
  have hcap := cap_of_row w0
  by_cases hl : len0 ≤ 200
  · have := means_long a0 cap0 (z0.take len0) n1 n2 n3 W (by omega) (by omega) hrd (by omega) (by omega) (by omega) hE ht
    rw [hlen] at this
    exact this
  · exact means_short a0 len0 cap0 n1 n2 n3 W (by omega) ht
end Go.Proofs.YtdmpbkbbijjdaaaDoor
