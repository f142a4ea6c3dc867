import Derived.Test.YtdmpbkbbijjdaaaDoorMonQ
namespace Go.Proofs.YtdmpbkbbijjdaaaDoor
open Go.Shelf Go.RowKit Go.Sort Go.Lib
set_option linter.unusedVariables false
set_option linter.unusedSimpArgs false

theorem dec_big (n : Nat) (h : 10 ≤ n) : decDigits n = decDigits (n / 10) ++ [UInt8.ofNat (48 + n % 10)] := by
  rw [decDigits]; rw [dif_neg (by omega)]
theorem dec_small (n : Nat) (h : n < 10) : decDigits n = [UInt8.ofNat (48 + n % 10)] := by
  rw [decDigits]; rw [dif_pos h]; rw [show n % 10 = n by omega]

theorem dig_nat (n : Nat) : (((UInt8.ofNat (48 + n % 10)).toNat : Nat) : Int) = 48 + (n : Int) % 10 := by
  have h : (UInt8.ofNat (48 + n % 10)).toNat = 48 + n % 10 := digit_toNat _ (Nat.mod_lt _ (by omega))
  rw [h]; omega

theorem conv1 (w : World) (d : UInt8) (x : Int) (hx : (d.toNat : Int) = x) :
    (convert 49 9 (.slice (some ⟨w.heap.size, 0, none⟩) 1 1)).run Tryd.prog (w.alloc (.cells #[.int .u8 x] 5)) = .ok (.string ⟨#[d]⟩) (w.alloc (.cells #[.int .u8 x] 5)) := by
  subst hx
  exact run_convert_bytes_back (P := Tryd.prog) _ 49 9 5 ⟨w.heap.size, 0, none⟩ 1 [d] Tryd.underlying49 Tryd.underlying5 Tryd.underlying9 (fun j hj => by
    obtain rfl : j = 0 := by simp at hj; omega
    go_simp)

theorem decimal_any (N : Nat) (hN : N < 18446744073709551616) (w : World) :
    Calls Tryd.prog 23 #[.int .u64 N] w fun e w' => e = .returned (.string ⟨(decDigits N).toArray⟩) ∧ Below w.heap.size w w' := by
  have HN := Lib.hid hN
  clear hN
  go_enter Tryd.func23, Tryd.ntmps23
  go_wp2
  go_loopg [0, 3] N (fun g vn vs wr => ∃ (n : Nat) (s : List UInt8), g = n ∧ vn = .int .u64 n ∧ vs = .string ⟨s.toArray⟩ ∧ Hid (decDigits N = decDigits n ++ s) ∧ Hid (n < 18446744073709551616) ∧ Hid (s.length ≤ 20) ∧ Below w.heap.size w wr)
  case atStart => exact ⟨N, [], rfl, rfl, rfl, by show _ = _; simp, HN.out, by show _ ≤ _; simp, Below.refl _ _⟩
  case round =>
    obtain ⟨n, s, rfl, rfl, rfl, hs, hn, hsl, hb⟩ := hrel
    have HS : Hid (decDigits N = decDigits gk ++ s) := hs
    have HB := Lib.hid hb
    have HL := Lib.hid hsl.out
    have hn' : (gk : Int) ≤ 18446744073709551615 := by have := hn.out; omega
    clear hs hb hn hsl
    obtain ⟨d, hd⟩ : ∃ d, d = UInt8.ofNat (48 + gk % 10) := ⟨_, rfl⟩
    have hcv := conv1 wr d (48 + (gk : Int) % 10) (by rw [hd]; exact dig_nat gk)
    have hadd := str_add (Tryd.prog) [d] s (by have := HL.out; simp; omega)
    have HD := Lib.hid hd
    clear hd
    by_cases h10 : gk < 10
    · have hz : (((gk : Int) / 10) == 0) = true := by simp; omega
      have hfin : Hid (d :: s = decDigits N) := by show _ = _; rw [HS.out, dec_small gk h10, ← HD.out]; rfl
      go_wp2
      go_ret
      refine ⟨?_, HB.out.alloc HB.out.size _⟩
      rw [← hfin.out]; rfl
    · have hz : (((gk : Int) / 10) == 0) = false := by rw [beq_eq_false_iff_ne]; omega
      have hlen : Hid ((d :: s).length ≤ 20) := by
        show _ ≤ _
        have h1 : (decDigits N).length ≤ 20 := decDigits_le N HN.out
        rw [HS.out, dec_big gk (by omega), ← HD.out] at h1
        have h2 : 0 < (decDigits (gk / 10)).length := List.length_pos_iff.2 (decDigits_ne _)
        simp at h1 ⊢; omega
      go_wp2
      go_roundg (gk / 10)
      case measure => omega
      case rel => exact ⟨gk / 10, d :: s, rfl, by go_num, rfl, by show _ = _; rw [HS.out, dec_big gk (by omega), ← HD.out]; simp, by show _ < _; omega, hlen.out, HB.out.alloc HB.out.size _⟩
end Go.Proofs.YtdmpbkbbijjdaaaDoor
