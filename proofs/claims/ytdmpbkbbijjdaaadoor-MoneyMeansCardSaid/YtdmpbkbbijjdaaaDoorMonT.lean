import Derived.Test.YtdmpbkbbijjdaaaDoorMonS
namespace Go.Proofs.YtdmpbkbbijjdaaaDoor
open Go.Shelf Go.RowKit Go.Sort Go.Lib
set_option linter.unusedVariables false
set_option linter.unusedSimpArgs false

theorem pdl_snoc (k r : Nat) : pdl (k + 1) r = pdl k (r / 10) ++ [UInt8.ofNat (48 + r % 10)] := by
  induction k with
  | zero => simp [pdl]
  | succ k ih =>
    rw [pdl, ih, pdl, Nat.div_div_eq_div_mul, Nat.pow_succ, Nat.mul_comm (10 ^ k) 10]
    rfl
theorem pdl_zero (k : Nat) : pdl k 0 = List.replicate k 48 := by
  induction k with
  | zero => rfl
  | succ k ih =>
    rw [pdl, ih, List.replicate_succ]
    congr 1
    simp
theorem pdl_dec (k : Nat) : ∀ r, r < 10 ^ (k + 1) → (decDigits r).length ≤ k + 1 ∧ pdl (k + 1) r = List.replicate (k + 1 - (decDigits r).length) 48 ++ decDigits r := by
  induction k with
  | zero =>
    intro r hr
    rw [dec_small r (by omega), pdl_snoc]; simp [pdl]
  | succ k ih =>
    intro r hr
    by_cases h : r < 10
    · rw [dec_small r h, pdl_snoc, show r / 10 = 0 by omega, pdl_zero]; simp
    · obtain ⟨h1, h2⟩ := ih (r / 10) (by rw [Nat.div_lt_iff_lt_mul (by omega)]; exact hr)
      rw [dec_big r (by omega), pdl_snoc, h2]
      refine ⟨by simp; omega, ?_⟩
      rw [List.append_assoc, List.length_append]
      congr 2
      simp

theorem BA_ext {a b : ByteArray} (h : a.data.toList = b.data.toList) : a = b := by
  cases a; cases b; simp at h; simp [h]
theorem cut_last (x : List UInt8) (b : UInt8) : (⟨(x ++ [b]).toArray⟩ : ByteArray).extract 0 x.length = ⟨x.toArray⟩ := by
  apply BA_ext
  rw [Lib.extract_data]
  simp
theorem idx_last (P : Program) (T : TypeId) (hT : P.underlying T = some .string) (x : List UInt8) (b : UInt8) : ∀ w, (Instr.index T (.string ⟨(x ++ [b]).toArray⟩) (.int .i64 (x.length : Int))).run P w = .ok (.int .u8 (b.toNat : Int)) w := by
  intro w
  go_simp
  rw [dif_pos (by omega)]
  have : (⟨(x ++ [b]).toArray⟩ : ByteArray)[x.length]'(by simp [ByteArray.size]) = b := by
    show (x ++ [b]).toArray[x.length]'(by simp) = b
    simp
  rw [this]

set_option maxHeartbeats 1000000 in
theorem reftext_any (a : Nat) (ha : a < 18446744073709551616) (w : World) :
    Calls Tryd.prog 17 #[.int .u64 a] w fun e w' => e = .returned (.tuple #[.string ⟨(if a ≤ 1125899906842624 then moneyL a else []).toArray⟩, .int .i64 (if a ≤ 1125899906842624 then 0 else 5)]) ∧ Below w.heap.size w w' := by
  by_cases h1 : 1125899906842624 < a
  · rw [if_neg (by omega), if_neg (by omega)]
    go_enter Tryd.func17, Tryd.ntmps17
    go_wp2
    go_ret2
    exact ⟨rfl, Below.refl _ _⟩
  · rw [if_pos (by omega), if_pos (by omega)]
    by_cases h2 : a % 100000000 = 0
    · have h2' : (((a : Int) % 100000000) == 0) = true := by simp; omega
      go_enter Tryd.func17, Tryd.ntmps17
      go_wp2_with (go_at_call 23; refine (decimal_any (a / 100000000) (by omega) _).mono ?_; rintro e w' ⟨rfl, hb⟩)
      go_ret2
      exact ⟨by simp [moneyL, h2], hb⟩
    · have h2' : (((a : Int) % 100000000) == 0) = false := by simp; omega
      obtain ⟨r, hr⟩ : ∃ r : Nat, r = a % 100000000 := ⟨_, rfl⟩
      have er : ((a : Int) % 100000000) = (r : Int) := by omega
      have hr0 : 0 < r := by omega
      have hr1 : r < 100000000 := by omega
      have HR := Lib.hid hr
      have ha8 := Lib.hid (show a / 100000000 < 18446744073709551616 by omega)
      have hq20 := Lib.hid (decDigits_le (a / 100000000) (by omega))
      rw [er] at h2'
      clear hr h2
      go_enter Tryd.func17, Tryd.ntmps17
      go_wp2_with fail
      refine (decimal_any (a / 100000000) ha8.out _).mono ?_
      rintro e w1 ⟨rfl, hb1⟩
      go_wp2_with fail
      refine (decimal_any r (by omega) _).mono ?_
      rintro e w2 ⟨rfl, hb2⟩
      have HB := Lib.hid (hb1.trans (hb2.mono hb1.size))
      clear hb1 hb2
      obtain ⟨hd1, hd2⟩ := pdl_dec 7 r hr1
      have Hd2 := Lib.hid hd2
      have Hd1 := Lib.hid hd1
      clear hd1 hd2
      go_wp2
      go_loopg [6] (8 - (decDigits r).length) (fun g vt wr => ∃ l : List UInt8, vt = .string ⟨l.toArray⟩ ∧ Hid (g + l.length = 8) ∧ Hid (pdl 8 r = List.replicate g 48 ++ l) ∧ w2 = wr)
      case atStart => exact ⟨_, rfl, by show _ = _; have := Hd1.out; omega, Hd2.out, rfl⟩
      case round =>
        obtain ⟨l, rfl, hg, hl, rfl⟩ := hrel
        have Hg := Lib.hid hg.out
        have Hl := Lib.hid hl.out
        clear hg hl
        cases gk with
        | succ g =>
          have hlt : (l.length : Int) < 8 := by have := Hg.out; omega
          have hadd := str_add (Tryd.prog) [48] l (by have := Hg.out; simp; omega)
          go_wp2
          go_roundg g
          case measure => omega
          case rel => exact ⟨48 :: l, rfl, by show _ = _; have := Hg.out; simp; omega, by show _ = _; rw [Hl.out, List.replicate_succ']; simp, rfl⟩
        | zero =>
          have hlt : ¬ ((l.length : Int) < 8) := by have := Hg.out; omega
          have hne : strip (pdl 8 r) ≠ [] := strip_pdl r hr0 hr1
          have hl' : l = pdl 8 r := by rw [Hl.out]; rfl
          have HL' := Lib.hid hl'
          have HNe := Lib.hid hne
          clear hl' hne
          go_wp2
          go_loopg [6] 8 (fun g vt wr => ∃ l : List UInt8, vt = .string ⟨l.toArray⟩ ∧ Hid (l.length = g) ∧ Hid (g ≤ 8) ∧ Hid (strip l = strip (pdl 8 r)) ∧ w2 = wr)
          case atStart => exact ⟨l, rfl, by show _ = _; have := Hg.out; omega, Nat.le_refl _, by show _ = _; rw [HL'.out], rfl⟩
          case round =>
            obtain ⟨m, rfl, hg, hg8, hm, rfl⟩ := hrel
            have Hg := Lib.hid hg.out
            have Hg8 := Lib.hid hg8.out
            have Hm := Lib.hid hm.out
            clear hg hg8 hm hlt
            rcases List.eq_nil_or_concat m with rfl | ⟨x, b, rfl⟩
            · exact absurd Hm.out (fun h => HNe.out h.symm)
            · have hx8 : (x.length : Int) ≤ 8 := by have := Hg.out; have := Hg8.out; simp at *; omega
              have hix := idx_last (Tryd.prog) 9 Tryd.underlying9 x b
              by_cases h48 : b = 48
              · subst h48
                have hb48 : (((48 : UInt8).toNat : Int) == 48) = true := rfl
                go_wp2
                go_roundg (gk - 1)
                case measure => have := Hg.out; simp at this; omega
                case rel => exact ⟨x, by rw [← cut_last x 48], by show _ = _; have := Hg.out; simp at this; omega, by show _ ≤ _; have := Hg8.out; omega, by show _ = _; rw [← Hm.out, List.concat_eq_append, strip_snoc_zero], rfl⟩
              · have hb48 : ((b.toNat : Int) == 48) = false := byte_ne48 b h48
                have hfin : Hid (x ++ [b] = strip (pdl 8 r)) := by
                  show _ = _
                  rw [← Hm.out, List.concat_eq_append, strip_snoc_other _ _ h48]
                have hc1 := str_add (Tryd.prog) (decDigits (a / 100000000)) [46] (by have := hq20.out; simp; omega)
                have hc2 := str_add (Tryd.prog) (decDigits (a / 100000000) ++ [46]) (x ++ [b]) (by have := hq20.out; simp; omega)
                go_wp2
                go_ret2
                refine ⟨?_, HB.out⟩
                have e := HR.out
                simp only [moneyL, ← e]
                rw [if_neg (by omega), ← hfin.out]
                simp
end Go.Proofs.YtdmpbkbbijjdaaaDoor
