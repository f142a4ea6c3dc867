/- Plain law: an amount is read from its text, in both ways. -/
import Derived.Test.YtdmpbkbbijjdaaaDoorMonD
import Derived.Lib.ParseIntB
namespace Go.Proofs.YtdmpbkbbijjdaaaDoor
open Go.Lib
set_option linter.unusedVariables false
set_option linter.unusedSimpArgs false

def isDig (c : UInt8) : Prop := 48 ≤ c.toNat ∧ c.toNat ≤ 57
def dstep (a : Nat) (c : UInt8) : Nat := a * 10 + (c.toNat - 48)
def dval (a : Nat) (l : List UInt8) : Nat := l.foldl dstep a
theorem dval_nil (n : Nat) : dval n [] = n := by rw [dval, List.foldl_nil]
theorem dval_cons (n : Nat) (c : UInt8) (d : List UInt8) : dval n (c :: d) = dval (n * 10 + (c.toNat - 48)) d := by rw [dval, dval, List.foldl_cons, dstep]
theorem dval_append (a : Nat) (l r : List UInt8) : dval a (l ++ r) = dval (dval a l) r := by rw [dval, dval, dval, List.foldl_append]
attribute [irreducible] dval
theorem dval_ge (a : Nat) (l : List UInt8) : a ≤ dval a l := by
  induction l generalizing a with
  | nil => rw [dval_nil]; exact Nat.le_refl _
  | cons c l ih => rw [dval_cons]; exact Nat.le_trans (show a ≤ a * 10 + (c.toNat - 48) by omega) (ih _)
theorem parse_ok (Mx : Nat) (hM : Mx < 1844674407370955162) (l : List UInt8) : ∀ acc, (∀ c ∈ l, isDig c) → dval acc l ≤ Mx → parseUintM Mx acc l = .ok (dval acc l) := by
  induction l with
  | nil => intro acc _ _; rw [dval_nil]; rfl
  | cons c r ih =>
    intro acc hd hle
    have hc := hd c List.mem_cons_self
    have h1 := dval_ge (acc * 10 + (c.toNat - 48)) r
    have hle' : dval (acc * 10 + (c.toNat - 48)) r ≤ Mx := by rw [← dval_cons]; exact hle
    have hc' : 48 ≤ c.toNat ∧ c.toNat ≤ 57 := hc
    have h2 : ¬ Mx < acc * 10 + (c.toNat - 48) := by omega
    have h3 : ¬ 1844674407370955162 ≤ acc := by omega
    have e := ih (acc * 10 + (c.toNat - 48)) (fun x hx => hd x (List.mem_cons_of_mem _ hx)) hle'
    rw [parseUintM, if_pos hc', if_neg h3, if_neg h2, e, dval_cons]
theorem digit_toNat (k : Nat) (h : k < 10) : (UInt8.ofNat (48 + k)).toNat = 48 + k := by simp; omega
theorem decDigits_dig (u : Nat) : ∀ c ∈ decDigits u, isDig c := by
  induction u using Nat.strongRecOn with
  | _ u ih =>
    intro c hc
    rw [decDigits] at hc
    split at hc
    · rename_i h
      simp only [List.mem_singleton] at hc
      subst hc; unfold isDig; rw [digit_toNat u h]; omega
    · rename_i h
      rcases List.mem_append.1 hc with hc | hc
      · exact ih (u / 10) (by omega) c hc
      · simp only [List.mem_singleton] at hc
        subst hc; unfold isDig; rw [digit_toNat _ (Nat.mod_lt _ (by omega))]; omega
theorem dval_decDigits (u : Nat) : dval 0 (decDigits u) = u := by
  induction u using Nat.strongRecOn with
  | _ u ih =>
    rw [decDigits]
    split
    · rename_i h
      rw [dval_cons, dval_nil]
      exact (show 0 * 10 + ((UInt8.ofNat (48 + u)).toNat - 48) = u by rw [digit_toNat u h]; omega)
    · rename_i h
      rw [dval_append, ih (u / 10) (by omega)]
      rw [dval_cons, dval_nil]
      exact (show u / 10 * 10 + ((UInt8.ofNat (48 + u % 10)).toNat - 48) = u by rw [digit_toNat _ (Nat.mod_lt _ (by omega))]; omega)
theorem decDigits_ne (u : Nat) : decDigits u ≠ [] := by
  rw [decDigits]; split <;> simp
theorem pdl_dig (k r : Nat) : ∀ c ∈ pdl k r, isDig c := by
  induction k with
  | zero => intro c hc; cases hc
  | succ k ih =>
    intro c hc
    rcases List.mem_cons.1 hc with rfl | hc
    · unfold isDig; rw [digit_toNat _ (Nat.mod_lt _ (by omega))]; omega
    · exact ih c hc
theorem dval_pdl (k r : Nat) : ∀ acc, dval acc (pdl k r) = acc * 10 ^ k + r % 10 ^ k := by
  induction k with
  | zero => intro acc; rw [pdl, dval_nil, Nat.pow_zero]; omega
  | succ k ih =>
    intro acc
    rw [pdl, dval_cons, digit_toNat _ (Nat.mod_lt _ (by omega)), ih, Nat.pow_succ, Nat.mod_mul]
    have e : acc * (10 ^ k * 10) = acc * 10 * 10 ^ k := by rw [Nat.mul_comm (10 ^ k), ← Nat.mul_assoc]
    have e2 : (acc * 10 + (48 + r / 10 ^ k % 10 - 48)) * 10 ^ k = acc * 10 * 10 ^ k + 10 ^ k * (r / 10 ^ k % 10) := by
      rw [Nat.add_mul, Nat.add_sub_cancel_left, Nat.mul_comm (r / 10 ^ k % 10)]
    rw [e, e2]; omega

/-- What strip takes away are noughts. -/
theorem strip_rest (l : List UInt8) : strip l ++ List.replicate (l.length - (strip l).length) 48 = l := by
  have key : ∀ m : List UInt8, List.replicate (m.length - (m.dropWhile (· == 48)).length) 48 ++ m.dropWhile (· == 48) = m ∧ (m.dropWhile (· == 48)).length ≤ m.length := by
    intro m
    induction m with
    | nil => exact ⟨rfl, Nat.le_refl _⟩
    | cons a r ih =>
      by_cases ha : (a == 48) = true
      · have e : (a :: r).dropWhile (· == 48) = r.dropWhile (· == 48) := by simp only [List.dropWhile, ha]
        rw [e]
        refine ⟨?_, by have := ih.2; simp; omega⟩
        have ha' : a = 48 := by simpa using ha
        subst ha'
        rw [List.length_cons, show r.length + 1 - (r.dropWhile (· == 48)).length = (r.length - (r.dropWhile (· == 48)).length) + 1 by have := ih.2; omega, List.replicate_succ, List.cons_append, ih.1]
      · have e : (a :: r).dropWhile (· == 48) = a :: r := by
          have : (a == 48) = false := by simpa using ha
          simp only [List.dropWhile, this]
        rw [e]; simp
  obtain ⟨h1, h2⟩ := key l.reverse
  have := congrArg List.reverse h1
  rw [List.reverse_append, List.reverse_reverse, List.reverse_replicate] at this
  have hl : (strip l).length = (l.reverse.dropWhile (· == 48)).length := by simp [strip]
  rw [hl]
  simpa [strip] using this
theorem strip_len (l : List UInt8) : (strip l).length ≤ l.length := by
  have := congrArg List.length (strip_rest l)
  rw [List.length_append] at this
  omega
theorem strip_sub (l : List UInt8) : ∀ c ∈ strip l, c ∈ l := by
  intro c hc
  rw [← strip_rest l]; exact List.mem_append_left _ hc

/-- What both ways of reading owe: the amount of this text; of none's a refusal. -/
def OfRel (l : List UInt8) (a : Nat) (e : Int) : Prop :=
  (a ≤ 1125899906842624 ∧ moneyL a = l ∧ e = 0) ∨ ((∀ b, b ≤ 1125899906842624 → moneyL b ≠ l) ∧ a = 0 ∧ e = 4)

/-- The program's way: the whole part, and what stands behind the point. -/
def wholeOf (l : List UInt8) : List UInt8 := l.takeWhile (· != 46)
def restOf (l : List UInt8) : List UInt8 := (l.dropWhile (· != 46)).drop 1
theorem dig_ne46 (c : UInt8) (h : isDig c) : (c != 46) = true := by
  unfold isDig at h
  simp only [bne_iff_ne, ne_eq]
  rintro rfl
  have : (46 : UInt8).toNat = 46 := rfl
  omega
theorem take_dig (l r : List UInt8) (h : ∀ c ∈ l, isDig c) : (l ++ 46 :: r).takeWhile (· != 46) = l ∧ (l ++ 46 :: r).dropWhile (· != 46) = 46 :: r := by
  induction l with
  | nil => exact ⟨rfl, rfl⟩
  | cons c l ih =>
    have hc := dig_ne46 c (h c List.mem_cons_self)
    obtain ⟨h1, h2⟩ := ih fun x hx => h x (List.mem_cons_of_mem _ hx)
    constructor
    · simp only [List.cons_append, List.takeWhile, hc]; rw [h1]
    · simp only [List.cons_append, List.dropWhile, hc]; rw [h2]
theorem take_all (l : List UInt8) (h : ∀ c ∈ l, isDig c) : l.takeWhile (· != 46) = l ∧ l.dropWhile (· != 46) = [] := by
  induction l with
  | nil => exact ⟨rfl, rfl⟩
  | cons c l ih =>
    have hc := dig_ne46 c (h c List.mem_cons_self)
    obtain ⟨h1, h2⟩ := ih fun x hx => h x (List.mem_cons_of_mem _ hx)
    constructor
    · simp only [List.takeWhile, hc]; rw [h1]
    · simp only [List.dropWhile, hc]; rw [h2]
theorem parts_of (a : Nat) : wholeOf (moneyL a) = decDigits (a / 100000000) ∧ restOf (moneyL a) = (if a % 100000000 = 0 then [] else strip (pdl 8 (a % 100000000))) := by
  unfold wholeOf restOf moneyL
  split
  · have h := take_all (decDigits (a / 100000000)) (decDigits_dig _)
    rw [List.append_nil, h.1, h.2]; exact ⟨rfl, rfl⟩
  · have h := take_dig (decDigits (a / 100000000)) (strip (pdl 8 (a % 100000000))) (decDigits_dig _)
    rw [h.1, h.2]; exact ⟨rfl, rfl⟩
theorem parse_whole (a : Nat) (h : a ≤ 1125899906842624) : parseUintB 32 (wholeOf (moneyL a)) = .ok (a / 100000000) := by
  rw [(parts_of a).1]
  unfold parseUintB
  rw [if_neg (decDigits_ne _), parse_ok _ (by decide) _ _ (decDigits_dig _) (by rw [dval_decDigits]; omega), dval_decDigits]
theorem parse_rest (a : Nat) (h : a ≤ 1125899906842624) (h0 : a % 100000000 ≠ 0) :
    (restOf (moneyL a)).length ≤ 8 ∧ restOf (moneyL a) ≠ [] ∧ parseUintB 32 (restOf (moneyL a) ++ List.replicate (8 - (restOf (moneyL a)).length) 48) = .ok (a % 100000000) := by
  have hr := (parts_of a).2
  rw [if_neg h0] at hr
  rw [hr]
  have h8 : (pdl 8 (a % 100000000)).length = 8 := pdl_length 8 _
  have hs := strip_rest (pdl 8 (a % 100000000))
  rw [h8] at hs
  refine ⟨by have := strip_len (pdl 8 (a % 100000000)); omega, strip_pdl _ (by omega) (by omega), ?_⟩
  rw [hs]
  unfold parseUintB
  rw [if_neg (by intro h'; rw [h'] at h8; simp at h8), parse_ok _ (by decide) _ _ (pdl_dig _ _) (by rw [dval_pdl]; omega), dval_pdl]
  simp
theorem rest_zero (a : Nat) (h0 : a % 100000000 = 0) : restOf (moneyL a) = [] := by
  have hr := (parts_of a).2
  rwa [if_pos h0] at hr

theorem money_inj (a b : Nat) (ha : a ≤ 1125899906842624) (hb : b ≤ 1125899906842624) (h : moneyL a = moneyL b) : a = b := by
  have h1 := parse_whole a ha
  rw [h, parse_whole b hb] at h1
  have e1 : b / 100000000 = a / 100000000 := by injection h1
  by_cases h0 : a % 100000000 = 0
  · have h2 := rest_zero a h0
    by_cases h3 : b % 100000000 = 0
    · omega
    · rw [h] at h2; exact absurd h2 (parse_rest b hb h3).2.1
  · obtain ⟨_, hn, hp⟩ := parse_rest a ha h0
    by_cases h3 : b % 100000000 = 0
    · rw [h] at hn; exact absurd (rest_zero b h3) hn
    · rw [h, (parse_rest b hb h3).2.2] at hp
      have e2 : b % 100000000 = a % 100000000 := by injection hp
      omega

theorem OfRel.unique {l : List UInt8} {a b : Nat} {e f : Int} (h : OfRel l a e) (k : OfRel l b f) : a = b ∧ e = f := by
  rcases h with ⟨h1, h2, h3⟩ | ⟨h1, h2, h3⟩ <;> rcases k with ⟨k1, k2, k3⟩ | ⟨k1, k2, k3⟩
  · exact ⟨money_inj a b h1 k1 (h2.trans k2.symm), h3.trans k3.symm⟩
  · exact absurd h2 (k1 a h1)
  · exact absurd k2 (h1 b k1)
  · exact ⟨h2.trans k2.symm, h3.trans k3.symm⟩

theorem parse_le (Mx : Nat) (l : List UInt8) : ∀ acc u, acc ≤ Mx → parseUintM Mx acc l = .ok u → u ≤ Mx := by
  induction l with
  | nil => intro acc u h1 h2; cases h2; exact h1
  | cons c r ih =>
    intro acc u h1 h2
    rw [parseUintM] at h2
    split at h2
    · split at h2
      · cases h2
      · split at h2
        · cases h2
        · rename_i h
          exact ih _ u (Nat.le_of_not_lt h) h2
    · cases h2
theorem parse32_le (l : List UInt8) (u : Nat) (h : parseUintB 32 l = .ok u) : u ≤ 4294967295 := by
  unfold parseUintB at h
  split at h
  · cases h
  · exact parse_le _ l 0 u (Nat.zero_le _) h

/-- Where the program refuses, there is no such text. -/
theorem no_whole (l : List UInt8) (h : ∀ u, parseUintB 32 (wholeOf l) ≠ .ok u) : OfRel l 0 4 :=
  .inr ⟨fun b hb e => h _ (by rw [← e]; exact parse_whole b hb), rfl, rfl⟩
theorem no_long (l : List UInt8) (h : 8 < (restOf l).length) : OfRel l 0 4 :=
  .inr ⟨fun b hb e => by
    subst e
    by_cases h0 : b % 100000000 = 0
    · rw [rest_zero b h0] at h; simp at h
    · have := (parse_rest b hb h0).1; omega, rfl, rfl⟩
theorem no_rest (l : List UInt8) (hne : restOf l ≠ []) (h : ∀ u, parseUintB 32 (restOf l ++ List.replicate (8 - (restOf l).length) 48) ≠ .ok u) : OfRel l 0 4 :=
  .inr ⟨fun b hb e => by
    subst e
    by_cases h0 : b % 100000000 = 0
    · exact hne (rest_zero b h0)
    · exact h _ (parse_rest b hb h0).2.2, rfl, rfl⟩
/-- What was read, and is read back otherwise, or is no amount. -/
theorem no_back (l : List UInt8) (n m : Nat) (hn : parseUintB 32 (wholeOf l) = .ok n)
    (hm : (restOf l = [] ∧ m = 0) ∨ (restOf l ≠ [] ∧ parseUintB 32 (restOf l ++ List.replicate (8 - (restOf l).length) 48) = .ok m))
    (h : ¬ (n * 100000000 + m ≤ 1125899906842624 ∧ moneyL (n * 100000000 + m) = l)) : OfRel l 0 4 :=
  .inr ⟨fun b hb e => by
    subst e
    have e1 : b / 100000000 = n := by have := parse_whole b hb; rw [hn] at this; injection this with this; exact this.symm
    have e2 : b % 100000000 = m := by
      rcases hm with ⟨h1, h2⟩ | ⟨h1, h2⟩
      · by_cases h0 : b % 100000000 = 0
        · omega
        · exact absurd h1 (parse_rest b hb h0).2.1
      · by_cases h0 : b % 100000000 = 0
        · exact absurd (rest_zero b h0) h1
        · have := (parse_rest b hb h0).2.2; rw [h2] at this; injection this with this; exact this.symm
    have e3 : n * 100000000 + m = b := by omega
    exact h (by rw [e3]; exact ⟨hb, rfl⟩), rfl, rfl⟩
end Go.Proofs.YtdmpbkbbijjdaaaDoor
