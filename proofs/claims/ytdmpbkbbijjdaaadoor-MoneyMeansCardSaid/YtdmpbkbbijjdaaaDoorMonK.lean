/- Plain arithmetic: the two rounds of a long division by a two-digit divisor, of digits below B. -/
import Derived.IntWalk
namespace Go.Proofs.YtdmpbkbbijjdaaaDoor
set_option linter.unusedVariables false

theorem kn_key (q r yn1 yn0 u u1 B : Nat) (h : q * yn1 + r = u) : q * (yn1 * B + yn0) + r * B + u1 = u * B + u1 + q * yn0 := by
  subst h
  rw [Nat.mul_add, Nat.add_mul, Nat.mul_assoc]
  omega

/-- What the quotient's guess owes, at each round's head. -/
def KInv (B yn1 yn0 u u1 q r : Nat) : Prop :=
  q * yn1 + r = u ∧ (u * B + u1) / (yn1 * B + yn0) ≤ q ∧ q ≤ B + 1

theorem kn_start (B yn1 yn0 u u1 : Nat) (h1 : B ≤ 2 * yn1) (h0 : yn0 < B) (hu : u < yn1 * B + yn0) (hu1 : u1 < B) :
    KInv B yn1 yn0 u u1 (u / yn1) (u % yn1) := by
  refine ⟨by rw [Nat.mul_comm]; exact Nat.div_add_mod u yn1, ?_, ?_⟩
  · rw [Nat.le_div_iff_mul_le (by omega)]
    have := Nat.div_mul_le_self (u * B + u1) (yn1 * B + yn0)
    generalize (u * B + u1) / (yn1 * B + yn0) = Q at *
    rw [Nat.mul_add, ← Nat.mul_assoc] at this
    have h3 : Q * yn1 * B ≤ u * B + u1 := by omega
    have h4 : Q * yn1 * B < (u + 1) * B := by rw [Nat.add_mul]; omega
    have := Nat.lt_of_mul_lt_mul_right h4
    omega
  · rw [← Nat.lt_succ_iff, Nat.div_lt_iff_lt_mul (by omega)]
    have : (B + 1).succ * yn1 = yn1 * B + 2 * yn1 := by rw [Nat.succ_mul, Nat.add_mul, Nat.mul_comm B]; omega
    omega

theorem kn_lt (B y u u1 : Nat) (hu : u < y) (hu1 : u1 < B) : (u * B + u1) / y < B := by
  rw [Nat.div_lt_iff_lt_mul (by omega)]
  have : (u + 1) * B ≤ y * B := Nat.mul_le_mul_right _ (by omega)
  rw [Nat.add_mul] at this
  rw [Nat.mul_comm B y]
  omega

theorem kn_step (B yn1 yn0 u u1 q r : Nat) (hu : u < yn1 * B + yn0) (hu1 : u1 < B) (h : KInv B yn1 yn0 u u1 q r)
    (hc : B ≤ q ∨ B * r + u1 < q * yn0) : 1 ≤ q ∧ KInv B yn1 yn0 u u1 (q - 1) (r + yn1) ∧ q - 1 ≤ B := by
  obtain ⟨a, b, c⟩ := h
  have hlt : (u * B + u1) / (yn1 * B + yn0) < q := by
    rcases hc with hc | hc
    · exact Nat.lt_of_lt_of_le (kn_lt B _ u u1 hu hu1) hc
    · rw [Nat.div_lt_iff_lt_mul (by omega)]
      have := kn_key q r yn1 yn0 u u1 B a
      rw [Nat.mul_comm r B] at this
      omega
  have h1 : 1 ≤ q := Nat.lt_of_le_of_lt (Nat.zero_le _) hlt
  refine ⟨h1, ⟨?_, Nat.le_sub_one_of_lt hlt, by omega⟩, by omega⟩
  obtain ⟨p, rfl⟩ : ∃ p, q = p + 1 := ⟨q - 1, by omega⟩
  rw [Nat.add_mul] at a
  rw [Nat.add_sub_cancel]
  omega

theorem kn_exit (B yn1 yn0 u u1 q r : Nat) (hu : u < yn1 * B + yn0) (h : KInv B yn1 yn0 u u1 q r) (hc : q * yn0 ≤ B * r + u1) :
    q = (u * B + u1) / (yn1 * B + yn0) := by
  obtain ⟨a, b, c⟩ := h
  refine Nat.le_antisymm ?_ b
  rw [Nat.le_div_iff_mul_le (by omega)]
  have := kn_key q r yn1 yn0 u u1 B a
  rw [Nat.mul_comm r B] at this
  omega

theorem kn_break (B yn1 yn0 u u1 q r : Nat) (h0 : yn0 < B) (hu : u < yn1 * B + yn0) (h : KInv B yn1 yn0 u u1 q r) (hq : q ≤ B) (hr : B ≤ r) :
    q = (u * B + u1) / (yn1 * B + yn0) := by
  refine kn_exit B yn1 yn0 u u1 q r hu h ?_
  have : q * yn0 ≤ B * r := Nat.mul_le_mul hq (by omega)
  omega

/-- The two digits together. -/
theorem kn_two (B y u u1 u0 : Nat) (hy : 0 < y) :
    (u * B + u1) / y * B + ((u * B + u1) % y * B + u0) / y = ((u * B + u1) * B + u0) / y := by
  generalize u * B + u1 = T
  have h := Nat.div_add_mod T y
  have e : T * B + u0 = (T % y * B + u0) + y * (T / y * B) := by
    have : T * B = (y * (T / y) + T % y) * B := by rw [h]
    rw [this, Nat.add_mul, Nat.mul_assoc]; omega
  rw [e, Nat.add_mul_div_left _ _ hy]
  omega

theorem kn_total (B Y U un1 un0 V q1 q3 R : Nat) (hY : 0 < Y) (h1 : q1 = (U * B + un1) / Y) (hV : V = (U * B + un1) % Y) (h3 : q3 = (V * B + un0) / Y)
    (hR : ((U * B + un1) * B + un0) / Y = R) : q1 * B + q3 = R := by
  subst h1 hV h3 hR; exact kn_two B Y U un1 un0 hY

theorem kn_sum (U un1 un0 L : Nat) (h : un1 * 4294967296 + un0 = L) : (U * 4294967296 + un1) * 4294967296 + un0 = U * 18446744073709551616 + L := by
  subst h
  rw [Nat.add_mul, Nat.mul_assoc, Nat.add_assoc]

theorem kn_R (q1 q3 R : Nat) (h1 : q1 < 4294967296) (h3 : q3 < 4294967296) (h : q1 * 4294967296 + q3 = R) : IntKind.u64.wrap (IntKind.u64.wrap ((q1 : Int) * 4294967296) + (q3 : Int)) = (R : Int) := by
  rw [IntWalk.u64_in ((q1 : Int) * 4294967296) (by omega), IntWalk.u64_in _ (by omega)]
  omega

theorem digits_sum (B n a b : Nat) (ha : a = n / B) (hb : b = n % B) : a * B + b = n := by
  subst ha hb; exact Nat.div_add_mod' n B

theorem kn_scale (n y s : Nat) (hy : 0 < y) : n * 2 ^ s / (y * 2 ^ s) = n / y := Nat.mul_div_mul_right _ _ (Nat.two_pow_pos s)
end Go.Proofs.YtdmpbkbbijjdaaaDoor
