import Derived.Test.YtdmpbkbbijjdaaaDoorMonT
namespace Go.Proofs.YtdmpbkbbijjdaaaDoor
open Go.Shelf Go.RowKit Go.Sort Go.Lib
set_option linter.unusedVariables false
set_option linter.unusedSimpArgs false

/-! ### The reference's way, as it goes -/
def mMax : Nat := 1125899906842624
theorem mMax_eq : mMax = 1125899906842624 := rfl
attribute [irreducible] mMax
def refBad (c : UInt8) (n : Nat) (b : Int) : Prop := c.toNat < 48 ∨ 57 < c.toNat ∨ mMax < n ∨ 8 ≤ b
instance (c : UInt8) (n : Nat) (b : Int) : Decidable (refBad c n b) := by unfold refBad; infer_instance
def refGo : List UInt8 → Nat → Int → Option (Nat × Int)
  | [], n, b => some (n, b)
  | c :: r, n, b => if c = 46 ∧ b < 0 then refGo r n 0 else if refBad c n b then none else refGo r (10 * n + (c.toNat - 48)) (if 0 ≤ b then b + 1 else b)
def refScale : Nat → Nat → Option Nat
  | 0, n => some n
  | k + 1, n => if mMax < n then none else refScale k (10 * n)

theorem go_dot (r : List UInt8) (n : Nat) (b : Int) (h : b < 0) : refGo (46 :: r) n b = refGo r n 0 := by
  rw [refGo, if_pos ⟨rfl, h⟩]
theorem go_bad (c : UInt8) (r : List UInt8) (n : Nat) (b : Int) (h1 : ¬ (c = 46 ∧ b < 0)) (h : refBad c n b) : refGo (c :: r) n b = none := by
  rw [refGo, if_neg h1, if_pos h]
theorem go_next (c : UInt8) (r : List UInt8) (n : Nat) (b : Int) (h1 : ¬ (c = 46 ∧ b < 0)) (h : ¬ refBad c n b) : refGo (c :: r) n b = refGo r (10 * n + (c.toNat - 48)) (if 0 ≤ b then b + 1 else b) := by
  rw [refGo, if_neg h1, if_neg h]

theorem dig_ok (c : UInt8) (n : Nat) (b : Int) (hc : isDig c) (hn : n ≤ mMax) (hb : 0 ≤ b → b ≤ 7) : ¬ (c = 46 ∧ b < 0) ∧ ¬ refBad c n b := by
  have hc' : 48 ≤ c.toNat ∧ c.toNat ≤ 57 := hc
  constructor
  · rintro ⟨h, _⟩
    have := congrArg UInt8.toNat h
    rw [show (46 : UInt8).toNat = 46 from rfl] at this
    omega
  · intro h
    rcases h with h | h | h | h
    · omega
    · omega
    · omega
    · have := hb (by omega); omega
theorem go_digs (d : List UInt8) (hd : ∀ c ∈ d, isDig c) : ∀ (r : List UInt8) (n : Nat) (b : Int), dval n d ≤ mMax → (0 ≤ b → b + d.length ≤ 8) →
    refGo (d ++ r) n b = refGo r (dval n d) (if 0 ≤ b then b + d.length else b) := by
  induction d with
  | nil =>
    intro r n b _ _
    rw [dval_nil, List.nil_append]
    by_cases h : 0 ≤ b
    · rw [if_pos h]; simp
    · rw [if_neg h]
  | cons c d ih =>
    intro r n b hv hb
    have hn : n ≤ mMax := Nat.le_trans (dval_ge n (c :: d)) hv
    rw [dval_cons] at hv
    obtain ⟨g1, g2⟩ := dig_ok c n b (hd c List.mem_cons_self) hn (fun h => by have := hb h; simp at this; omega)
    have hb2 : 0 ≤ (if 0 ≤ b then b + 1 else b) → (if 0 ≤ b then b + 1 else b) + (d.length : Int) ≤ 8 := by
      intro h
      by_cases h0 : 0 ≤ b
      · rw [if_pos h0]; have := hb h0; simp at this; omega
      · rw [if_neg h0] at h; omega
    have e := ih (fun x hx => hd x (List.mem_cons_of_mem _ hx)) r (n * 10 + (c.toNat - 48)) (if 0 ≤ b then b + 1 else b) hv hb2
    rw [List.cons_append, go_next c _ n b g1 g2, Nat.mul_comm 10 n, e, dval_cons]
    congr 1
    by_cases h0 : 0 ≤ b
    · rw [if_pos h0, if_pos (by omega), if_pos h0]; simp; omega
    · rw [if_neg h0, if_neg h0, if_neg h0]
theorem scale_ok (k : Nat) : ∀ n, n * 10 ^ k ≤ mMax → refScale k n = some (n * 10 ^ k) := by
  induction k with
  | zero => intro n _; simp [refScale]
  | succ k ih =>
    intro n h
    have e : n * 10 ^ (k + 1) = 10 * n * 10 ^ k := by rw [Nat.pow_succ, Nat.mul_comm (10 ^ k), ← Nat.mul_assoc, Nat.mul_comm n 10]
    have h1 : n ≤ n * 10 ^ (k + 1) := Nat.le_mul_of_pos_right _ (Nat.pow_pos (by omega))
    rw [refScale, if_neg (by omega), ih _ (by omega), e]
theorem dval_zeros (k : Nat) : ∀ n, dval n (List.replicate k 48) = n * 10 ^ k := by
  induction k with
  | zero => intro n; rw [List.replicate_zero, dval_nil]; simp
  | succ k ih =>
    intro n
    rw [List.replicate_succ]
    rw [dval_cons, show n * 10 + ((48 : UInt8).toNat - 48) = n * 10 from rfl, ih, Nat.pow_succ, Nat.mul_comm (10 ^ k), ← Nat.mul_assoc]

theorem ref_text (a : Nat) (h : a ≤ 1125899906842624) : ∃ n b, refGo (moneyL a) 0 (-1) = some (n, b) ∧ refScale (8 - b.toNat) n = some a := by
  have hq : dval 0 (decDigits (a / 100000000)) = a / 100000000 := dval_decDigits _
  unfold moneyL
  by_cases h0 : a % 100000000 = 0
  · rw [if_pos h0]
    refine ⟨a / 100000000, -1, ?_, ?_⟩
    · rw [go_digs _ (decDigits_dig _) [] 0 (-1) (by rw [hq, mMax_eq]; omega) (by omega), hq]; rfl
    · rw [show 8 - ((-1 : Int).toNat) = 8 from rfl, scale_ok 8 _ (by rw [mMax_eq]; omega)]; congr 1; omega
  · rw [if_neg h0, go_digs _ (decDigits_dig _) _ 0 (-1) (by rw [hq, mMax_eq]; omega) (by omega), hq, if_neg (by omega), go_dot _ _ _ (by omega)]
    have hs := strip_rest (pdl 8 (a % 100000000))
    rw [pdl_length] at hs
    have hl := strip_len (pdl 8 (a % 100000000))
    rw [pdl_length] at hl
    have hd : ∀ c ∈ strip (pdl 8 (a % 100000000)), isDig c := fun c hc => pdl_dig _ _ c (strip_sub _ c hc)
    have hv := dval_pdl 8 (a % 100000000) (a / 100000000)
    rw [← hs, dval_append, dval_zeros] at hv
    have ha : a / 100000000 * 10 ^ 8 + a % 100000000 % 10 ^ 8 = a := by omega
    rw [ha] at hv
    generalize strip (pdl 8 (a % 100000000)) = t at *
    have h1 : dval (a / 100000000) t ≤ dval (a / 100000000) t * 10 ^ (8 - t.length) := Nat.le_mul_of_pos_right _ (Nat.pow_pos (by omega))
    refine ⟨dval (a / 100000000) t, (t.length : Int), ?_, ?_⟩
    · have := go_digs t hd [] (a / 100000000) 0 (by rw [mMax_eq]; omega) (by omega)
      rw [List.append_nil] at this
      rw [this]; simp [refGo]
    · rw [show ((t.length : Int)).toNat = t.length by simp, scale_ok _ _ (by rw [mMax_eq]; omega), hv]

theorem ref_none1 (l : List UInt8) (h : refGo l 0 (-1) = none) : OfRel l 0 4 :=
  .inr ⟨fun b hb e => by
    subst e
    obtain ⟨n, x, h1, _⟩ := ref_text b hb
    rw [h] at h1; exact (by cases h1), rfl, rfl⟩
theorem ref_none2 (l : List UInt8) (n : Nat) (b : Int) (h : refGo l 0 (-1) = some (n, b)) (h2 : refScale (8 - b.toNat) n = none) : OfRel l 0 4 :=
  .inr ⟨fun a ha e => by
    subst e
    obtain ⟨n', x, h1, h3⟩ := ref_text a ha
    rw [h] at h1; cases h1
    rw [h2] at h3; exact (by cases h3), rfl, rfl⟩
theorem ref_back (l : List UInt8) (n m : Nat) (b : Int) (h : refGo l 0 (-1) = some (n, b)) (h2 : refScale (8 - b.toNat) n = some m)
    (h3 : ¬ (m ≤ 1125899906842624 ∧ moneyL m = l)) : OfRel l 0 4 :=
  .inr ⟨fun a ha e => by
    subst e
    obtain ⟨n', x, h1, h4⟩ := ref_text a ha
    rw [h] at h1; cases h1
    rw [h2] at h4; cases h4
    exact h3 ⟨ha, rfl⟩, rfl, rfl⟩
end Go.Proofs.YtdmpbkbbijjdaaaDoor
