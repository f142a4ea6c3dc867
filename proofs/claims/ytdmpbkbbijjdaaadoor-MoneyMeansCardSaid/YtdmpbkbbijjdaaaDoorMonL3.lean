import Derived.Test.YtdmpbkbbijjdaaaDoorMonL2
namespace Go.Proofs.YtdmpbkbbijjdaaaDoor
open Go.Shelf Go.RowKit Go.Sort Go.Lib
set_option linter.unusedVariables false
set_option linter.unusedSimpArgs false

/-! ### The plain law of sums -/
def tot : List Int → Int
  | [] => 0
  | a :: r => a + tot r
theorem tot_nonneg (xs : List Int) (h : ∀ x ∈ xs, 0 ≤ x) : 0 ≤ tot xs := by
  induction xs with
  | nil => exact Int.le_refl _
  | cons a r ih =>
    have h1 := h a List.mem_cons_self
    have h2 := ih fun x hx => h x (List.mem_cons_of_mem _ hx)
    rw [tot]; omega
theorem tot_append (xs ys : List Int) : tot (xs ++ ys) = tot xs + tot ys := by
  induction xs with
  | nil => simp [tot]
  | cons a r ih => simp only [List.cons_append, tot, ih]; omega
theorem tot_reverse (xs : List Int) : tot xs.reverse = tot xs := by
  induction xs with
  | nil => rfl
  | cons a r ih => rw [List.reverse_cons, tot_append, ih]; simp only [tot]; omega
theorem sumGo_eq (xs : List Int) : ∀ n, (∀ x ∈ xs, 0 ≤ x) → 0 ≤ n → n ≤ 1125899906842624 → sumGo xs n = if n + tot xs ≤ 1125899906842624 then (n + tot xs, 0) else (0, 5) := by
  induction xs with
  | nil => intro n _ _ h; rw [sumGo, tot, Int.add_zero, if_pos h]
  | cons a r ih =>
    intro n hp h0 h1
    have ha := hp a List.mem_cons_self
    have hr : ∀ x ∈ r, 0 ≤ x := fun x hx => hp x (List.mem_cons_of_mem _ hx)
    have hs := tot_nonneg r hr
    rw [sumGo, tot]
    by_cases g1 : 1125899906842624 < a
    · rw [if_pos g1, if_neg (by omega)]
    · rw [if_neg g1]
      by_cases g2 : 1125899906842624 < n + a
      · rw [if_pos g2, if_neg (by omega)]
      · rw [if_neg g2, ih (n + a) hr (by omega) (by omega), Int.add_assoc]
theorem sum_total (xs : List Int) (h : ∀ x ∈ xs, 0 ≤ x) : sumGo xs 0 = if tot xs ≤ 1125899906842624 then (tot xs, 0) else (0, 5) := by
  have := sumGo_eq xs 0 h (by omega) (by omega)
  rwa [Int.zero_add] at this
theorem sum_back (xs : List Int) (h : ∀ x ∈ xs, 0 ≤ x) : sumGo xs.reverse 0 = sumGo xs 0 := by
  rw [sum_total xs h, sum_total xs.reverse (fun x hx => h x (List.mem_reverse.1 hx)), tot_reverse]

/-- What the halves' sums come to, against the whole's. -/
theorem sum_halves (xs : List Int) (k : Nat) (h : ∀ x ∈ xs, 0 ≤ x) :
    let p := sumGo (xs.take k) 0; let q := sumGo (xs.drop k) 0; let r := sumGo [p.1, q.1] 0; let s := sumGo xs 0
    (p.2 = 0 ∧ q.2 = 0 ∧ r.2 = 0 ∧ s.2 = 0 ∧ r.1 = s.1) ∨ (0 < p.2 + q.2 + r.2 ∧ p.2 + q.2 + r.2 ≤ 15 ∧ s.2 = 5) := by
  have h1 : ∀ x ∈ xs.take k, 0 ≤ x := fun x hx => h x (List.mem_of_mem_take hx)
  have h2 : ∀ x ∈ xs.drop k, 0 ≤ x := fun x hx => h x (List.mem_of_mem_drop hx)
  have t1 := tot_nonneg _ h1
  have t2 := tot_nonneg _ h2
  have e : tot xs = tot (xs.take k) + tot (xs.drop k) := by rw [← tot_append, List.take_append_drop]
  intro p q r s
  have hp : p = _ := sum_total _ h1
  have hq : q = _ := sum_total _ h2
  have hs : s = _ := sum_total _ h
  by_cases c1 : tot (xs.take k) ≤ 1125899906842624
  · rw [if_pos c1] at hp
    by_cases c2 : tot (xs.drop k) ≤ 1125899906842624
    · rw [if_pos c2] at hq
      have hr : r = sumGo [tot (xs.take k), tot (xs.drop k)] 0 := by show sumGo [p.1, q.1] 0 = _; rw [hp, hq]
      rw [sum_total _ (by simp; exact ⟨t1, t2⟩)] at hr
      simp only [tot, Int.add_zero] at hr
      rw [← e] at hr
      by_cases c3 : tot xs ≤ 1125899906842624
      · rw [if_pos c3] at hr hs
        rw [hp, hq, hr, hs]; exact .inl ⟨rfl, rfl, rfl, rfl, rfl⟩
      · rw [if_neg c3] at hr hs
        rw [hp, hq, hr, hs]; exact .inr ⟨by simp, by simp, rfl⟩
    · rw [if_neg c2] at hq
      have hr : r = sumGo [tot (xs.take k), 0] 0 := by show sumGo [p.1, q.1] 0 = _; rw [hp, hq]
      rw [sum_total _ (by simp; exact t1)] at hr
      simp only [tot, Int.add_zero] at hr
      rw [if_pos c1] at hr
      rw [if_neg (by omega)] at hs
      rw [hp, hq, hr, hs]; exact .inr ⟨by simp, by simp, rfl⟩
  · rw [if_neg c1] at hp
    rw [if_neg (by omega)] at hs
    by_cases c2 : tot (xs.drop k) ≤ 1125899906842624
    · rw [if_pos c2] at hq
      have hr : r = sumGo [0, tot (xs.drop k)] 0 := by show sumGo [p.1, q.1] 0 = _; rw [hp, hq]
      rw [sum_total _ (by simp; exact t2)] at hr
      simp only [tot, Int.add_zero, Int.zero_add] at hr
      rw [if_pos c2] at hr
      rw [hp, hq, hr, hs]; exact .inr ⟨by simp, by simp, rfl⟩
    · rw [if_neg c2] at hq
      have hr : r = sumGo [0, 0] 0 := by show sumGo [p.1, q.1] 0 = _; rw [hp, hq]
      have hr' : r = (0, 0) := by rw [hr]; rfl
      rw [hp, hq, hr', hs]; exact .inr ⟨by simp, by simp, rfl⟩

theorem two_sum (a b : Nat) : ((sumGo [(a : Int), (b : Int)] 0).2 = 0 ∧ (sumGo [(a : Int), (b : Int)] 0).1 = (a : Int) + b ∧ (a : Int) + b ≤ 1125899906842624) ∨ ((sumGo [(a : Int), (b : Int)] 0).2 = 5) := by
  rw [sum_total _ (by simp)]
  simp only [tot, Int.add_zero]
  by_cases h : (a : Int) + b ≤ 1125899906842624
  · rw [if_pos h]; exact .inl ⟨rfl, rfl, h⟩
  · rw [if_neg h]; exact .inr rfl

/-- A share, and the share of the rest. -/
theorem share_law (a b c : Nat) (h : shareE a b c = 0) : b ≤ c ∧ 0 < c ∧ c ≤ 1125899906842624 ∧ a ≤ 1125899906842624 ∧ shareE a (c - b) c = 0 ∧ shareV a b c + shareV a (c - b) c ≤ a ∧ a ≤ shareV a b c + shareV a (c - b) c + 1 ∧
    (b = c → shareV a b c = a) ∧ (b = 0 → shareV a b c = 0) := by
  unfold shareE at h
  by_cases h1 : 1125899906842624 < a ∨ 1125899906842624 < c ∨ c < b
  · rw [if_pos h1] at h; omega
  · rw [if_neg h1] at h
    by_cases h2 : c = 0
    · rw [if_pos h2] at h; omega
    · have e1 : shareV a b c = a * b / c := by rw [shareV, if_neg h1, if_neg h2]
      have e2 : shareV a (c - b) c = a * (c - b) / c := by rw [shareV, if_neg (by omega), if_neg h2]
      have e3 : shareE a (c - b) c = 0 := by rw [shareE, if_neg (by omega), if_neg h2]
      have hc : 0 < c := by omega
      have hs : a * b + a * (c - b) = a * c := by rw [← Nat.mul_add]; congr 1; omega
      have d1 := Nat.div_add_mod (a * b) c
      have d2 := Nat.div_add_mod (a * (c - b)) c
      have m1 := Nat.mod_lt (a * b) hc
      have m2 := Nat.mod_lt (a * (c - b)) hc
      rw [e1, e2]
      generalize a * b / c = x at *
      generalize a * (c - b) / c = y at *
      have k1 : c * (x + y) ≤ c * a := by rw [Nat.mul_add, Nat.mul_comm c a]; omega
      have k2 : c * a < c * (x + y + 2) := by rw [Nat.mul_add, Nat.mul_add, Nat.mul_comm c a]; omega
      have l1 := Nat.le_of_mul_le_mul_left k1 hc
      have l2 := Nat.lt_of_mul_lt_mul_left k2
      refine ⟨by omega, hc, by omega, by omega, e3, l1, by omega, ?_, ?_⟩
      · intro hb
        subst hb
        have : b * x = b * a := by
          rw [Nat.mul_comm a b, Nat.mul_mod_right] at d1
          omega
        exact Nat.eq_of_mul_eq_mul_left hc this
      · intro hb
        subst hb
        have h0 : c * x ≤ 0 := by omega
        rcases Nat.eq_zero_or_pos x with hx | hx
        · exact hx
        · have := Nat.mul_pos hc hx; omega
end Go.Proofs.YtdmpbkbbijjdaaaDoor
