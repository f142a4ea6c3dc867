/- Plain lemmas on rows of hashes: the rows from below, and the halves from above, come to one root; likewise paths. Nothing of the dump stands here. -/
import Init
import Derived.Test.YthnbnckmeffkmaaGreatG09
import Derived.StillTailTactics
namespace Go.Proofs.YthnbnckmeffkmaaGreat
set_option linter.unusedVariables false

/-- The greatest power of two below a number of two or more. -/
def half (n : Nat) : Nat := if n ≤ 2 then 1 else 2 * half ((n + 1) / 2)
termination_by n
decreasing_by omega

theorem half_two (n : Nat) (h : n ≤ 2) : half n = 1 := by rw [half, if_pos h]
theorem half_more (n : Nat) (h : 2 < n) : half n = 2 * half ((n + 1) / 2) := by rw [half, if_neg (by omega)]
theorem half_pow (j : Nat) : ∀ n : Nat, 2 ^ j < n → n ≤ 2 * 2 ^ j → half n = 2 ^ j := by
  induction j with
  | zero => intro n h1 h2; exact half_two n (by simpa using h2)
  | succ j ih =>
    intro n h1 h2
    rw [Nat.pow_succ] at *
    have hp : 1 ≤ 2 ^ j := Nat.one_le_two_pow
    rw [half_more n (by omega), ih ((n + 1) / 2) (by omega) (by omega)]
    omega
theorem half_bounds (n : Nat) : 2 ≤ n → half n < n ∧ n ≤ 2 * half n ∧ 1 ≤ half n := by
  induction n using Nat.strongRecOn with
  | _ n ih =>
    intro h
    rcases Nat.lt_or_ge 2 n with h2 | h2
    · rw [half_more n h2]
      have := ih ((n + 1) / 2) (by omega) (by omega)
      omega
    · rw [half_two n h2]; omega

section
variable {α : Type} (d : α) (kn : α → α → α)

def above : List α → List α
  | a :: b :: r => kn a b :: above r
  | r => r
theorem above_len : ∀ l : List α, (above kn l).length = (l.length + 1) / 2
  | [] => by simp [above]
  | [_] => by simp [above]
  | a :: b :: r => by simp only [above, List.length_cons, above_len r]; omega
theorem above_append : ∀ (l r : List α), l.length % 2 = 0 → above kn (l ++ r) = above kn l ++ above kn r
  | [], r, _ => rfl
  | [_], r, h => by simp at h
  | a :: b :: l, r, h => by simp only [List.cons_append, above]; rw [above_append l r (by simp at h; omega)]

/-- From above: the halves. -/
def leftR (l : List α) : α := if l.length ≤ 1 then l.headD d else kn (leftR (l.take (half l.length))) (leftR (l.drop (half l.length)))
termination_by l.length
decreasing_by
  all_goals
    have := half_bounds l.length (by omega)
    simp only [List.length_take, List.length_drop]; omega
/-- From below: the rows. -/
def riseR (l : List α) : α := if l.length ≤ 1 then l.headD d else riseR (above kn l)
termination_by l.length
decreasing_by rw [above_len]; omega

theorem leftR_one (l : List α) (h : l.length ≤ 1) : leftR d kn l = l.headD d := by rw [leftR, if_pos h]
theorem leftR_more (l : List α) (h : 1 < l.length) : leftR d kn l = kn (leftR d kn (l.take (half l.length))) (leftR d kn (l.drop (half l.length))) := by
  rw [leftR, if_neg (by omega)]
theorem leftR_above (n : Nat) : ∀ l : List α, l.length = n → 1 < n → leftR d kn l = leftR d kn (above kn l) := by
  induction n using Nat.strongRecOn with
  | _ n ih =>
    intro l hl h1
    rcases Nat.lt_or_ge 2 n with h2 | h2
    · have hb := half_bounds n (by omega)
      have hm := half_more n h2
      have hb' := half_bounds ((n + 1) / 2) (by omega)
      obtain ⟨x, hx⟩ : ∃ x, half ((n + 1) / 2) = x := ⟨_, rfl⟩
      rw [hx] at hm hb'
      have e : above kn l = above kn (l.take (half n)) ++ above kn (l.drop (half n)) := by
        rw [← above_append kn _ _ (by simp; omega), List.take_append_drop]
      have l1 : (above kn (l.take (half n))).length = x := by rw [above_len]; simp; omega
      rw [leftR_more d kn l (by omega), leftR_more d kn (above kn l) (by rw [above_len]; omega), above_len, hl, hx, e,
        List.take_left' l1, List.drop_left' l1, ih (half n) (by omega) (l.take (half n)) (by simp; omega) (by omega)]
      rcases Nat.lt_or_ge 1 (n - half n) with h3 | h3
      · rw [ih (n - half n) (by omega) (l.drop (half n)) (by simp; omega) h3]
      · have : above kn (l.drop (half n)) = l.drop (half n) := by
          have hd : (l.drop (half n)).length = 1 := by simp; omega
          match h : l.drop (half n), hd with
          | [a], _ => rfl
        rw [this]
    · obtain ⟨a, b, rfl⟩ : ∃ a b, l = [a, b] := by
        match l, (show l.length = 2 by omega) with
        | [a, b], _ => exact ⟨a, b, rfl⟩
      rw [leftR_more d kn _ (by simp)]
      simp only [List.length_cons, List.length_nil, half_two 2 (Nat.le_refl _), above]
      rw [leftR_one _ _ _ (by simp), leftR_one _ _ _ (by simp), leftR_one _ _ _ (by simp)]
      rfl
theorem rise_left (n : Nat) : ∀ l : List α, l.length = n → riseR d kn l = leftR d kn l := by
  induction n using Nat.strongRecOn with
  | _ n ih =>
    intro l hl
    rw [riseR]
    split
    · rename_i h; rw [leftR_one d kn l h]
    · rename_i h
      rw [ih _ (by rw [above_len]; omega) (above kn l) rfl, ← leftR_above d kn l.length l rfl (by omega)]
end

/-- The number beside a number. -/
def sib (n : Nat) : Nat := if n % 2 = 1 then n - 1 else n + 1
section
variable {α H : Type} (d : H) (kl : α → H → α) (kr : H → α → α)
def sizeUp (n count : Nat) : Nat := if count ≤ 1 then 0 else (if sib n < count then 1 else 0) + sizeUp (n / 2) ((count + 1) / 2)
termination_by count
decreasing_by omega
def sizeDown (n count : Nat) : Nat := if count ≤ 1 then 0 else if n < half count then 1 + sizeDown n (half count) else 1 + sizeDown (n - half count) (count - half count)
termination_by count
decreasing_by
  all_goals
    have := half_bounds count (by omega)
    omega
def leadUp (at_ : α) (n count : Nat) (hs : List H) : α :=
  if count ≤ 1 then at_ else if count ≤ sib n then leadUp at_ (n / 2) ((count + 1) / 2) hs
  else if n % 2 = 1 then leadUp (kr (hs.headD d) at_) (n / 2) ((count + 1) / 2) hs.tail
  else leadUp (kl at_ (hs.headD d)) (n / 2) ((count + 1) / 2) hs.tail
termination_by count
decreasing_by all_goals omega
def leadDown (at_ : α) (n count : Nat) (hs : List H) : α :=
  if count ≤ 1 then at_ else if n < half count then kl (leadDown at_ n (half count) hs.dropLast) (hs.getLastD d)
  else kr (hs.getLastD d) (leadDown at_ (n - half count) (count - half count) hs.dropLast)
termination_by count
decreasing_by
  all_goals
    have := half_bounds count (by omega)
    omega

theorem sizeDown_step (count : Nat) : ∀ n, 1 < count → n < count → sizeDown n count = (if sib n < count then 1 else 0) + sizeDown (n / 2) ((count + 1) / 2) := by
  induction count using Nat.strongRecOn with
  | _ count ih =>
    intro n h1 hn
    rcases Nat.lt_or_ge 2 count with h2 | h2
    · have hb := half_bounds count (by omega)
      have hm := half_more count h2
      have hb' := half_bounds ((count + 1) / 2) (by omega)
      obtain ⟨x, hx⟩ : ∃ x, half ((count + 1) / 2) = x := ⟨_, rfl⟩
      obtain ⟨y, hy⟩ : ∃ y, half count = y := ⟨_, rfl⟩
      rw [sizeDown, if_neg (by omega), hy]
      conv => rhs; arg 2; rw [sizeDown, if_neg (by omega), hx]
      rw [hx, hy] at hm; rw [hy] at hb; rw [hx] at hb'
      by_cases hlt : n < y
      · rw [if_pos hlt, if_pos (show n / 2 < x by omega), ih y (by omega) n (by omega) hlt, if_pos (show sib n < y by unfold sib; split <;> omega), if_pos (show sib n < count by unfold sib; split <;> omega),
          show (y + 1) / 2 = x by omega]
      · rw [if_neg hlt, if_neg (show ¬ n / 2 < x by omega)]
        rcases Nat.lt_or_ge 1 (count - y) with h3 | h3
        · rw [ih (count - y) (by omega) (n - y) h3 (by omega), show (n - y) / 2 = n / 2 - x by omega, show (count - y + 1) / 2 = (count + 1) / 2 - x by omega]
          have : (sib (n - y) < count - y) ↔ (sib n < count) := by unfold sib; split <;> split <;> omega
          simp only [this]; omega
        · rw [if_neg (show ¬ sib n < count by unfold sib; split <;> omega), sizeDown, if_pos (by omega), sizeDown, if_pos (by omega)]
    · obtain rfl : count = 2 := by omega
      rw [sizeDown, if_neg (by omega), half_two 2 (Nat.le_refl _), if_pos (show sib n < 2 by unfold sib; split <;> omega)]
      have e : ∀ m, sizeDown m 1 = 0 := fun m => by rw [sizeDown, if_pos (Nat.le_refl _)]
      split <;> simp [e]
theorem size_same (count : Nat) : ∀ n, n < count → sizeUp n count = sizeDown n count := by
  induction count using Nat.strongRecOn with
  | _ count ih =>
    intro n hn
    rw [sizeUp]
    split
    · rename_i h; rw [sizeDown, if_pos h]
    · rw [ih _ (by omega) _ (by omega), ← sizeDown_step count n (by omega) hn]

theorem two_ends {hs : List H} (h : 2 ≤ hs.length) : hs.dropLast.headD d = hs.headD d ∧ hs.dropLast.tail = hs.tail.dropLast ∧ hs.tail.getLastD d = hs.getLastD d := by
  match hs, h with
  | a :: b :: r, _ => simp [List.dropLast, List.getLastD]
theorem leadDown_step (count : Nat) : ∀ (at_ : α) (n : Nat) (hs : List H), 1 < count → n < count → hs.length = sizeDown n count →
    leadDown d kl kr at_ n count hs = if count ≤ sib n then leadDown d kl kr at_ (n / 2) ((count + 1) / 2) hs
      else if n % 2 = 1 then leadDown d kl kr (kr (hs.headD d) at_) (n / 2) ((count + 1) / 2) hs.tail
      else leadDown d kl kr (kl at_ (hs.headD d)) (n / 2) ((count + 1) / 2) hs.tail := by
  induction count using Nat.strongRecOn with
  | _ count ih =>
    intro at_ n hs h1 hn hl
    rcases Nat.lt_or_ge 2 count with h2 | h2
    · have hb := half_bounds count (by omega)
      have hm := half_more count h2
      have hb' := half_bounds ((count + 1) / 2) (by omega)
      have hst := sizeDown_step count n h1 hn
      obtain ⟨x, hx⟩ : ∃ x, half ((count + 1) / 2) = x := ⟨_, rfl⟩
      obtain ⟨y, hy⟩ : ∃ y, half count = y := ⟨_, rfl⟩
      have unf : ∀ (b : α) (l : List H), leadDown d kl kr b (n / 2) ((count + 1) / 2) l =
          if n / 2 < x then kl (leadDown d kl kr b (n / 2) x l.dropLast) (l.getLastD d) else kr (l.getLastD d) (leadDown d kl kr b (n / 2 - x) ((count + 1) / 2 - x) l.dropLast) := by
        intro b l; rw [leadDown, if_neg (by omega), hx]
      rw [unf, unf, unf, leadDown, if_neg (by omega), hy]
      rw [sizeDown, if_neg (by omega), hy] at hl
      rw [hx, hy] at hm; rw [hy] at hb; rw [hx] at hb'
      by_cases hlt : n < y
      · have hs1 : sib n < y := by unfold sib; split <;> omega
        rw [if_pos hlt] at hl ⊢
        have hl2 : hs.dropLast.length = sizeDown n y := by rw [List.length_dropLast]; omega
        have hge : 2 ≤ hs.length := by
          rw [hl, sizeDown_step y n (by omega) hlt, if_pos hs1]; omega
        obtain ⟨t1, t2, t3⟩ := two_ends d hge
        rw [if_neg (by omega), ih y (by omega) at_ n hs.dropLast (by omega) hlt hl2, if_neg (by omega), t1, t2, t3, show (y + 1) / 2 = x by omega, if_pos (show n / 2 < x by omega), if_pos (show n / 2 < x by omega)]
        split <;> rfl
      · rw [if_neg hlt] at hl ⊢
        have hl2 : hs.dropLast.length = sizeDown (n - y) (count - y) := by rw [List.length_dropLast]; omega
        rw [if_neg (show ¬ n / 2 < x by omega), if_neg (show ¬ n / 2 < x by omega), if_neg (show ¬ n / 2 < x by omega)]
        rcases Nat.lt_or_ge 1 (count - y) with h3 | h3
        · have hiff : (count - y ≤ sib (n - y)) ↔ (count ≤ sib n) := by unfold sib; split <;> split <;> omega
          have hst2 := sizeDown_step (count - y) (n - y) h3 (by omega)
          rw [ih (count - y) (by omega) at_ (n - y) hs.dropLast h3 (by omega) hl2, show (n - y) / 2 = n / 2 - x by omega, show (count - y + 1) / 2 = (count + 1) / 2 - x by omega, show (n - y) % 2 = n % 2 by omega]
          simp only [hiff]
          by_cases hc : count ≤ sib n
          · rw [if_pos hc, if_pos hc]
          · have hge : 2 ≤ hs.length := by
              rw [if_pos (by omega)] at hst2; omega
            obtain ⟨t1, t2, t3⟩ := two_ends d hge
            rw [if_neg hc, if_neg hc, t1, t2, t3]
            split <;> rfl
        · have hc : count ≤ sib n := by unfold sib; split <;> omega
          have e : ∀ (b : α) (m c : Nat) (l : List H), c ≤ 1 → leadDown d kl kr b m c l = b := fun b m c l h => by rw [leadDown, if_pos h]
          rw [if_pos hc, e _ _ _ _ (by omega), e _ _ _ _ (by omega)]
    · obtain rfl : count = 2 := by omega
      have e : ∀ (b : α) (m : Nat) (l : List H), leadDown d kl kr b m 1 l = b := fun b m l => by rw [leadDown, if_pos (Nat.le_refl _)]
      rw [sizeDown, if_neg (by omega), half_two 2 (Nat.le_refl _)] at hl
      have e0 : ∀ m, sizeDown m 1 = 0 := fun m => by rw [sizeDown, if_pos (Nat.le_refl _)]
      have hl1 : hs.length = 1 := by simp only [e0] at hl; split at hl <;> simpa using hl
      obtain ⟨a, rfl⟩ : ∃ a, hs = [a] := by
        match hs, hl1 with
        | [a], _ => exact ⟨a, rfl⟩
      rw [leadDown, if_neg (by omega), half_two 2 (Nat.le_refl _), if_neg (show ¬ 2 ≤ sib n by unfold sib; split <;> omega)]
      simp only [e]
      by_cases h0 : n < 1
      · rw [if_pos h0, if_neg (by omega)]; rfl
      · rw [if_neg h0, if_pos (by omega)]; rfl
theorem lead_same (count : Nat) : ∀ (at_ : α) (n : Nat) (hs : List H), n < count → hs.length = sizeDown n count → leadUp d kl kr at_ n count hs = leadDown d kl kr at_ n count hs := by
  induction count using Nat.strongRecOn with
  | _ count ih =>
    intro at_ n hs hn hl
    rw [leadUp]
    split
    · rename_i h; rw [leadDown, if_pos h]
    · rename_i h
      have hst := sizeDown_step count n (by omega) hn
      rw [leadDown_step d kl kr count at_ n hs (by omega) hn hl]
      split
      · rename_i hc
        rw [if_neg (by omega)] at hst
        exact ih _ (by omega) _ _ _ (by omega) (by omega)
      · rename_i hc
        rw [if_pos (by omega)] at hst
        split
        · exact ih _ (by omega) _ _ _ (by omega) (by rw [List.length_tail]; omega)
        · exact ih _ (by omega) _ _ _ (by omega) (by rw [List.length_tail]; omega)
end
end Go.Proofs.YthnbnckmeffkmaaGreat
/- The hashes of leaves, knots and tops: the program's and the reference's. -/
namespace Go.Proofs.YthnbnckmeffkmaaGreat
open Go.RowKit Go.Lib
set_option linter.unusedVariables false
set_option linter.unusedSimpArgs false
attribute [local go_sem ↓] Go.wp_at_zero Go.wp_at_succ

def nLeaf : List Nat := [108, 101, 97, 102]
def nKnot : List Nat := [107, 110, 111, 116]
def nRoot : List Nat := [114, 111, 111, 116]
def leafF (id : List Nat) : List Nat := tagF nLeaf id
def knotF (a b : List Nat) : List Nat := tagF nKnot (a ++ b)
/-- A number's eight bytes, the least first. -/
def le8 (n : Nat) : List Nat := [n % 256, n / 256 % 256, n / 65536 % 256, n / 16777216 % 256, n / 4294967296 % 256, n / 1099511627776 % 256, n / 281474976710656 % 256, n / 72057594037927936 % 256]
def topF (n : Nat) (l : List Nat) : List Nat := tagF nRoot (le8 n ++ l)
/-- A hash's bytes. -/
def IsH (H : List Nat) : Prop := H.length = 32 ∧ ∀ x ∈ H, x < 256
theorem tagF_h (n m : List Nat) : IsH (tagF n m) := ⟨shaF_len _, shaF_lt _⟩
theorem le8_lt (n : Nat) : ∀ x ∈ le8 n, x < 256 := by
  intro x hx
  simp only [le8, List.mem_cons, List.not_mem_nil, or_false] at hx
  rcases hx with rfl | rfl | rfl | rfl | rfl | rfl | rfl | rfl <;> exact Nat.mod_lt _ (by omega)
theorem Arr.byts {w : World} {g : Nat} {t : TypeId} {L : List Nat} (h : Arr w g t (bys L)) (h256 : ∀ x ∈ L, x < 256) (n : Nat) (hn : n = L.length) (hm : n ≤ maxLen) : Byts w (.slice (some ⟨g, 0, none⟩) n n) L := by
  subst hn
  exact ⟨h256, .inr ⟨_, _, rfl, Nat.le_refl _, hm, fun j hj => by rw [add_nospot, h.cell, bys_get L j hj]⟩⟩
theorem Arr.low {w : World} {g : Nat} {t : TypeId} {vs : List Value} (h : Arr w g t vs) (n c : Nat) : Low w (.slice (some ⟨g, 0, none⟩) n c) := fun a n' k e => by cases e; exact h.lt
theorem Low.below {B : Nat} {w w' : World} {u : Value} (h : Low w u) (hb : Below B w w') : Low w' u := fun a n k e => Nat.lt_of_lt_of_le (h a n k e) hb.size
theorem parts1 {w : World} {u : Value} {L : List Nat} (t : TypeId) (h : Byts w u L) (hl : Low w u) : PartsIs (w.alloc (.cells #[u] t)) (.slice (some ⟨w.heap.size, 0, none⟩) 1 1) [L] := by
  have hb : Below w.heap.size w (w.alloc (.cells #[u] t)) := (Below.refl _ _).alloc (Nat.le_refl _) _
  have ha := Arr.made w t [u]
  refine .inr ⟨_, 1, rfl, Nat.le_refl _, by unfold maxLen; omega, fun j hj => ⟨u, ?_, ?_, hl.below hb⟩⟩
  · obtain rfl : j = 0 := by simpa using hj
    rw [add_nospot, ha.cell]; rfl
  · obtain rfl : j = 0 := by simpa using hj
    exact h.below hb
theorem parts2 {w : World} {u1 u2 : Value} {L1 L2 : List Nat} (t : TypeId) (h1 : Byts w u1 L1) (hl1 : Low w u1) (h2 : Byts w u2 L2) (hl2 : Low w u2) : PartsIs (w.alloc (.cells #[u1, u2] t)) (.slice (some ⟨w.heap.size, 0, none⟩) 2 2) [L1, L2] := by
  have hb : Below w.heap.size w (w.alloc (.cells #[u1, u2] t)) := (Below.refl _ _).alloc (Nat.le_refl _) _
  have ha := Arr.made w t [u1, u2]
  refine .inr ⟨_, 2, rfl, Nat.le_refl _, by unfold maxLen; omega, fun j hj => ?_⟩
  match j, hj with
  | 0, _ => exact ⟨u1, by rw [add_nospot, ha.cell]; rfl, h1.below hb, hl1.below hb⟩
  | 1, _ => exact ⟨u2, by rw [add_nospot, ha.cell]; rfl, h2.below hb, hl2.below hb⟩
theorem two (w : World) (o1 o2 : Obj) :
    ((w.alloc o1).alloc o2).heap[w.heap.size]? = some o1 ∧ ((w.alloc o1).alloc o2).heap[w.heap.size + 1]? = some o2 ∧ ((w.alloc o1).alloc o2).heap.size = w.heap.size + 1 + 1 ∧ Below w.heap.size w ((w.alloc o1).alloc o2) := by
  have e : ∀ (w : World) (o : Obj), (w.alloc o).heap = w.heap.push o := fun _ _ => rfl
  refine ⟨?_, ?_, ?_, ((Below.refl _ _).alloc (Nat.le_refl _) _).alloc (by simp) _⟩
  · simp only [e, Array.getElem?_push, Array.size_push]
    rw [if_neg (by omega), if_pos True.intro]
  · simp only [e, Array.getElem?_push, Array.size_push]
    rw [if_pos True.intro]
  · simp only [e, Array.size_push]

set_option maxRecDepth 100000 in
set_option maxHeartbeats 1600000 in
theorem leaf_any (I : List Nat) (hI : IsH I) (w : World) :
    Calls Tryz.prog 178 #[.agg (bys I).toArray] w fun e w' => e = .returned (.agg (bys (leafF I)).toArray) ∧ Below w.heap.size w w' := by
  have hz := zero32
  have HI := Lib.hid hI
  clear hI
  go_enter Tryz.func178, Tryz.ntmps178
  go_upto_region 1 with fail
  have hpk := two w (.cells (bys I).toArray 24) (.cells (List.replicate 32 (.int .u8 0)).toArray 24)
  simp only [List.reduceReplicate] at hpk
  have HA1 := Lib.hid (show Arr _ w.heap.size 24 (bys I) from hpk.1)
  have HA2 := Lib.hid (show Arr _ (w.heap.size + 1) 24 (List.replicate 32 (.int .u8 0)) from hpk.2.1)
  have HSz := Lib.hid hpk.2.2.1
  have HB1 := Lib.hid hpk.2.2.2
  clear hpk hz
  generalize World.alloc (World.alloc _ _) _ = w1 at *
  have HY1 := Lib.hid (HA1.out.byts HI.out.2 32 HI.out.1.symm (by unfold maxLen; omega))
  have HL1 := Lib.hid (HA1.out.low 32 32)
  have HP := Lib.hid (parts1 157 HY1.out HL1.out)
  have HBa := Lib.hid (show Below w1.heap.size w1 (w1.alloc (.cells #[.slice (some ⟨w.heap.size, 0, none⟩) 32 32] 157)) from (Below.refl _ _).alloc (Nat.le_refl _) _)
  go_wp2_with fail
  refine (tag_any ⟨#[108, 101, 97, 102]⟩ _ [I] _ (by decide) (by simp [HI.out.1]) (by simp) HP.out).mono ?_
  rintro e w4 ⟨rfl, hb4⟩
  rw [show tagF (nmB ⟨#[108, 101, 97, 102]⟩) [I].flatten = leafF I by rw [List.flatten_cons, List.flatten_nil, List.append_nil]; rfl]
  dsimp only
  have hb14 := HBa.out.trans (hb4.mono HBa.out.size)
  have HA9 := Lib.hid (HA2.out.below hb14 HA2.out.lt)
  have HB9 := Lib.hid (HB1.out.trans (hb14.mono HB1.out.size))
  clear hb4 hb14
  obtain ⟨R, hR⟩ : ∃ R, R = leafF I := ⟨_, rfl⟩
  have hRl : R.length = 32 := by rw [hR]; exact (tagF_h _ _).1
  rw [← hR]
  have HRe := Lib.hid hR
  have HRl := Lib.hid hRl
  have Hs := Lib.hid (show (Tryz.prog.info? 24).map (·.size) = some (bys R).length by rw [bys_len, hRl]; exact size32)
  have Hs2 := Lib.hid (show (Tryz.prog.info? 24).map (·.size) = some (bys R).toArray.size by rw [List.size_toArray, bys_len, hRl]; exact size32)
  have O1 := Lib.hid (all_oneCell_toArray (bys_one R))
  clear hR hRl
  go_step
  refine wpList_store_mid (P := Tryz.prog) rfl 24 _ _ rfl (w.heap.size + 1) 0 _ rfl rfl (HA9.out.there _ (by simp [bys_len, HRl.out])) Hs2.out O1.out ?_
  go_wp2
  have HA5 := Lib.hid (HA9.out.setAll (bys R) (by simp [bys_len, HRl.out]))
  refine bodyPost_ret (results_cell_row (P := Tryz.prog) rfl _ _ (w.heap.size + 1) 24 _ (0, 0) _ rfl HA5.out Tryz.underlying24 rfl (by rw [List.size_toArray]; exact Hs.out)) rfl ?_
  exact ⟨by rw [HRe.out], below_sets _ (by omega) _ _ HB9.out⟩

set_option maxRecDepth 100000 in
set_option maxHeartbeats 1600000 in
theorem rleaf_any (I : List Nat) (hI : IsH I) (w : World) :
    Calls Tryz.prog 154 #[.agg (bys I).toArray] w fun e w' => e = .returned (.agg (bys (leafF I)).toArray) ∧ Below w.heap.size w w' := by
  have hz := zero32
  have HI := Lib.hid hI
  clear hI
  go_enter Tryz.func154, Tryz.ntmps154
  go_upto_region 1 with fail
  have hpk := two w (.cells (bys I).toArray 24) (.cells (List.replicate 32 (.int .u8 0)).toArray 24)
  simp only [List.reduceReplicate] at hpk
  have HA1 := Lib.hid (show Arr _ w.heap.size 24 (bys I) from hpk.1)
  have HA2 := Lib.hid (show Arr _ (w.heap.size + 1) 24 (List.replicate 32 (.int .u8 0)) from hpk.2.1)
  have HSz := Lib.hid hpk.2.2.1
  have HB1 := Lib.hid hpk.2.2.2
  clear hpk hz
  generalize World.alloc (World.alloc _ _) _ = w1 at *
  have HY1 := Lib.hid (HA1.out.byts HI.out.2 32 HI.out.1.symm (by unfold maxLen; omega))
  have HL1 := Lib.hid (HA1.out.low 32 32)
  go_wp2_with fail
  refine (rtag_any ⟨#[108, 101, 97, 102]⟩ _ I _ (by decide) (by simp [HI.out.1]) HY1.out).mono ?_
  rintro e w4 ⟨rfl, hb4⟩
  rw [show tagF (nmB ⟨#[108, 101, 97, 102]⟩) I = leafF I from rfl]
  dsimp only
  have HA9 := Lib.hid (HA2.out.below hb4 HA2.out.lt)
  have HB9 := Lib.hid (HB1.out.trans (hb4.mono HB1.out.size))
  clear hb4
  obtain ⟨R, hR⟩ : ∃ R, R = leafF I := ⟨_, rfl⟩
  have hRl : R.length = 32 := by rw [hR]; exact (tagF_h _ _).1
  rw [← hR]
  have HRe := Lib.hid hR
  have HRl := Lib.hid hRl
  have Hs := Lib.hid (show (Tryz.prog.info? 24).map (·.size) = some (bys R).length by rw [bys_len, hRl]; exact size32)
  have Hs2 := Lib.hid (show (Tryz.prog.info? 24).map (·.size) = some (bys R).toArray.size by rw [List.size_toArray, bys_len, hRl]; exact size32)
  have O1 := Lib.hid (all_oneCell_toArray (bys_one R))
  clear hR hRl
  go_step
  refine wpList_store_mid (P := Tryz.prog) rfl 24 _ _ rfl (w.heap.size + 1) 0 _ rfl rfl (HA9.out.there _ (by simp [bys_len, HRl.out])) Hs2.out O1.out ?_
  go_wp2
  have HA5 := Lib.hid (HA9.out.setAll (bys R) (by simp [bys_len, HRl.out]))
  refine bodyPost_ret (results_cell_row (P := Tryz.prog) rfl _ _ (w.heap.size + 1) 24 _ (0, 0) _ rfl HA5.out Tryz.underlying24 rfl (by rw [List.size_toArray]; exact Hs.out)) rfl ?_
  exact ⟨by rw [HRe.out], below_sets _ (by omega) _ _ HB9.out⟩

/-- append(v, y...) as one operation. -/
theorem wp_appB {P : Program} {o : Oper} {a : Act} {K : Act → World → Prop} {Q : Exit → Act → World → Prop} {W : World} (base : Nat) (s x : Operand) (t e : TypeId)
    (ho : o.op = .call { callee := .builtin .append, args := #[s, x], argTypes := #[t, t] })
    (ht : P.underlying t = some (.slice e)) (hinfo : (P.info? e).map (fun i => (i.zero, i.size, i.bytes)) = some (some (.int .u8 0), 1, 1))
    (v y : Value) (X L Z : List Nat) (hZ : X ++ L = Z) (hs : a.eval s = v) (hx : a.eval x = y)
    (HO : W.ownsRow base e 1 v X.length (bys X)) (HY : Byts W y L) (hbase : base ≤ W.heap.size) (hl : X.length + L.length ≤ 140737488355328)
    (h : ∀ v1 w1, Hid (w1.ownsRow base e 1 v1 Z.length (bys Z)) → Hid (∀ B w0, Below B w0 W → B ≤ base → Below B w0 w1) → K (a.put o.dst v1) w1) : o.wp P a W K Q := by
  subst hZ
  obtain ⟨i0, hi, hzz⟩ := Option.map_eq_some_iff.1 hinfo
  simp only [Prod.mk.injEq] at hzz
  obtain ⟨hz0, hz1, hz2⟩ := hzz
  rcases HY.2 with ⟨rfl, rfl⟩ | ⟨ad, c, rfl, _, _, hcell⟩
  · have hrun := run_append_owned_none (P := P) (w := W) base t o.type e i0 1 ht hi v X.length (bys X) HO
    unfold Oper.wp
    simp [execOp, ho, resolve, invoke, builtin, hs, hx, hrun, Result.andThen]
    exact h v W (by show World.ownsRow _ _ _ _ _ _ _; simpa using HO) (fun B w0 hB _ => hB)
  · refine wp_append_own W s x t ho base e i0 (.int .u8 0) 1 1 ht hi hz0 hz1 hz2 rfl (by omega) v X.length (bys X) hs HO ad L.length c (bys L) hx (by rw [bys_len, Nat.mul_one])
      (fun j u hu => ?_) (bys_one L) (by unfold maxLen; omega) (by omega) hbase ?_
    · have hj : j < L.length := by have := (List.getElem?_eq_some_iff.1 hu).1; rw [bys_len] at this; exact this
      rw [bys_get L j hj] at hu
      rw [hcell j hj, ← hu]
    · intro v1 w1 hown hg _
      refine h v1 w1 (by show World.ownsRow _ _ _ _ _ _ _; rw [bys_app]; simpa using hown) (fun B w0 hB hbb => hB.grown hg (by omega) (fun k hk => Nat.le_trans hbb (HO.lt k hk).1))
set_option maxRecDepth 100000 in
set_option maxHeartbeats 1600000 in
theorem knot_any (I J : List Nat) (hI : IsH I) (hJ : IsH J) (w : World) :
    Calls Tryz.prog 179 #[.agg (bys I).toArray, .agg (bys J).toArray] w fun e w' => e = .returned (.agg (bys (knotF I J)).toArray) ∧ Below w.heap.size w w' := by
  have hz := zero32
  have HI := Lib.hid hI
  have HJ := Lib.hid hJ
  clear hI hJ
  go_enter Tryz.func179, Tryz.ntmps179
  go_upto_region 1 with fail
  have hpk := three w (.cells (bys I).toArray 24) (.cells (bys J).toArray 24) (.cells (List.replicate 32 (.int .u8 0)).toArray 24)
  simp only [List.reduceReplicate] at hpk
  have HA1 := Lib.hid (show Arr _ w.heap.size 24 (bys I) from hpk.1)
  have HA2 := Lib.hid (show Arr _ (w.heap.size + 1) 24 (bys J) from hpk.2.1)
  have HA3 := Lib.hid (show Arr _ (w.heap.size + 1 + 1) 24 (List.replicate 32 (.int .u8 0)) from hpk.2.2.1)
  have HSz := Lib.hid hpk.2.2.2.1
  have HB1 := Lib.hid hpk.2.2.2.2
  clear hpk hz
  generalize World.alloc (World.alloc (World.alloc _ _) _) _ = w1 at *
  go_still_tail 2, (by kernel_rfl)
  change wpList _ _ _ _ _ w1.drew
  have HA1d := Lib.hid (show Arr w1.drew w.heap.size 24 (bys I) from HA1.out)
  have HA2d := Lib.hid (show Arr w1.drew (w.heap.size + 1) 24 (bys J) from HA2.out)
  have HA3d := Lib.hid (show Arr w1.drew (w.heap.size + 1 + 1) 24 (List.replicate 32 (.int .u8 0)) from HA3.out)
  have HB1d := Lib.hid HB1.out.drew
  clear HA1 HA2 HA3 HB1 HSz
  generalize w1.drew = w2 at *
  have HY1 := Lib.hid (HA1d.out.byts HI.out.2 32 HI.out.1.symm (by unfold maxLen; omega))
  have HY2 := Lib.hid (HA2d.out.byts HJ.out.2 32 HJ.out.1.symm (by unfold maxLen; omega))
  have HP := Lib.hid (parts2 157 HY1.out (HA1d.out.low 32 32) HY2.out (HA2d.out.low 32 32))
  have HBa := Lib.hid (show Below w2.heap.size w2 (w2.alloc (.cells #[.slice (some ⟨w.heap.size, 0, none⟩) 32 32, .slice (some ⟨w.heap.size + 1, 0, none⟩) 32 32] 157)) from (Below.refl _ _).alloc (Nat.le_refl _) _)
  go_wp2_with fail
  refine (tag_any ⟨#[107, 110, 111, 116]⟩ _ [I, J] _ (by decide) (by simp [HI.out.1, HJ.out.1]) (by simp) HP.out).mono ?_
  rintro e w4 ⟨rfl, hb4⟩
  rw [show tagF (nmB ⟨#[107, 110, 111, 116]⟩) [I, J].flatten = knotF I J by rw [List.flatten_cons, List.flatten_cons, List.flatten_nil, List.append_nil]; rfl]
  dsimp only
  have hb14 := HBa.out.trans (hb4.mono HBa.out.size)
  have HA9 := Lib.hid (HA3d.out.below hb14 HA3d.out.lt)
  have HB9 := Lib.hid (HB1d.out.trans (hb14.mono HB1d.out.size))
  clear hb4 hb14
  obtain ⟨R, hR⟩ : ∃ R, R = knotF I J := ⟨_, rfl⟩
  have hRl : R.length = 32 := by rw [hR]; exact (tagF_h _ _).1
  rw [← hR]
  have HRe := Lib.hid hR
  have HRl := Lib.hid hRl
  have Hs := Lib.hid (show (Tryz.prog.info? 24).map (·.size) = some (bys R).length by rw [bys_len, hRl]; exact size32)
  have Hs2 := Lib.hid (show (Tryz.prog.info? 24).map (·.size) = some (bys R).toArray.size by rw [List.size_toArray, bys_len, hRl]; exact size32)
  have O1 := Lib.hid (all_oneCell_toArray (bys_one R))
  clear hR hRl
  go_step
  refine wpList_store_mid (P := Tryz.prog) rfl 24 _ _ rfl (w.heap.size + 1 + 1) 0 _ rfl rfl (HA9.out.there _ (by simp [bys_len, HRl.out])) Hs2.out O1.out ?_
  go_wp2
  have HA5 := Lib.hid (HA9.out.setAll (bys R) (by simp [bys_len, HRl.out]))
  refine bodyPost_ret (results_cell_row (P := Tryz.prog) rfl _ _ (w.heap.size + 1 + 1) 24 _ (0, 0) _ rfl HA5.out Tryz.underlying24 rfl (by rw [List.size_toArray]; exact Hs.out)) rfl ?_
  exact ⟨by rw [HRe.out], below_sets _ (by omega) _ _ HB9.out⟩

set_option maxRecDepth 100000 in
set_option maxHeartbeats 1600000 in
theorem rknot_any (I J : List Nat) (hI : IsH I) (hJ : IsH J) (w : World) :
    Calls Tryz.prog 156 #[.agg (bys I).toArray, .agg (bys J).toArray] w fun e w' => e = .returned (.agg (bys (knotF I J)).toArray) ∧ Below w.heap.size w w' := by
  have hz := zero32
  have HI := Lib.hid hI
  have HJ := Lib.hid hJ
  clear hI hJ
  go_enter Tryz.func156, Tryz.ntmps156
  go_upto_region 1 with fail
  have hpk := three w (.cells (bys I).toArray 24) (.cells (bys J).toArray 24) (.cells (List.replicate 32 (.int .u8 0)).toArray 24)
  simp only [List.reduceReplicate] at hpk
  have HA1 := Lib.hid (show Arr _ w.heap.size 24 (bys I) from hpk.1)
  have HA2 := Lib.hid (show Arr _ (w.heap.size + 1) 24 (bys J) from hpk.2.1)
  have HA3 := Lib.hid (show Arr _ (w.heap.size + 1 + 1) 24 (List.replicate 32 (.int .u8 0)) from hpk.2.2.1)
  have HSz := Lib.hid hpk.2.2.2.1
  have HB1 := Lib.hid hpk.2.2.2.2
  clear hpk hz
  generalize World.alloc (World.alloc (World.alloc _ _) _) _ = w1 at *
  have hby1 : Byts w1 (.slice (some ⟨w.heap.size, 0, none⟩) 32 32) I := HA1.out.byts HI.out.2 32 HI.out.1.symm (by unfold maxLen; omega)
  have hby2 : Byts w1 (.slice (some ⟨w.heap.size + 1, 0, none⟩) 32 32) J := HA2.out.byts HJ.out.2 32 HJ.out.1.symm (by unfold maxLen; omega)
  have HY1 := Lib.hid hby1
  have HY2 := Lib.hid hby2
  clear hby1 hby2
  refine wp_region_T (fun _ => True) 5 (by kernel_rfl) ?_
  simp only [Act.put, List.setIfInBounds_toArray, List.set_cons_zero, List.set_cons_succ, List.size_toArray, List.length_cons, List.length_nil, Nat.reduceAdd, Array.replicate_succ, Array.replicate_zero, List.push_toArray, List.nil_append, List.cons_append]
  refine wpAnyT_take (i := 0) (oi := ⟨some 5, _, _, _, _, _⟩) (v := ?_) rfl (by kernel_rfl) (by kernel_rfl) (by kernel_rfl) (by kernel_rfl) (fun _ _ _ h => h) (Or.inl ⟨by rfl, ?_⟩) trivial ?_
  rotate_left
  · intro w hSw; go_simp <;> with_reducible rfl
  dsimp only [Act.put]
  simp only [List.setIfInBounds_toArray, List.set_cons_zero, List.set_cons_succ]
  refine wpAnyT_take (i := 2) (oi := ⟨some 7, _, _, _, _, _⟩) (v := ?_) rfl (by kernel_rfl) (by kernel_rfl) (by kernel_rfl) (by kernel_rfl) (fun _ _ _ h => h) (Or.inl ⟨by rfl, ?_⟩) trivial ?_
  rotate_left
  · intro w hSw; go_simp <;> with_reducible rfl
  dsimp only [Act.put]
  simp only [List.setIfInBounds_toArray, List.set_cons_zero, List.set_cons_succ]
  refine wpAnyT_one (i := 1) (oi := ⟨some 6, _, _, _, _, _⟩) (by kernel_rfl) rfl rfl (fun K9 hK9 => ?_)
  have HK9 := Lib.hid hK9
  clear hK9
  refine wp_appB w1.heap.size (.const (.slice none 0 0)) (.tmp 5) 157 5 rfl Tryz.underlying157 infoB (.slice none 0 0) (.slice (some ⟨w.heap.size, 0, none⟩) 32 32) [] I I rfl rfl rfl (own_nil _ _ _ _) (show Byts w1.drew _ _ from HY1.out) (Nat.le_refl _) (by simp [HI.out.1]) ?_
  intro v2 w2 ho2 hb2
  refine HK9.out _ _ (fun _ => trivial) ?_
  have HB12 := Lib.hid (hb2.out w1.heap.size w1 (Below.refl _ _).drew (Nat.le_refl _))
  clear HK9
  dsimp only [Act.put]
  simp only [List.setIfInBounds_toArray, List.set_cons_zero, List.set_cons_succ]
  refine wpAnyT_one (i := 3) (oi := ⟨some 8, _, _, _, _, _⟩) (by kernel_rfl) rfl rfl (fun K9 hK9 => ?_)
  have HK9 := Lib.hid hK9
  clear hK9
  refine wp_appB w1.heap.size (.tmp 6) (.tmp 7) 157 5 rfl Tryz.underlying157 infoB v2 (.slice (some ⟨w.heap.size + 1, 0, none⟩) 32 32) I J (I ++ J) rfl rfl rfl ho2.out (HY2.out.below HB12.out) HB12.out.size (by simp [HI.out.1, HJ.out.1]) ?_
  intro v3 w3 ho3 hb3
  refine HK9.out _ _ (fun _ => trivial) ?_
  have HB13 := Lib.hid (hb3.out w1.heap.size w1 HB12.out (Nat.le_refl _))
  clear HK9
  dsimp only [Act.put]
  simp only [List.setIfInBounds_toArray, List.set_cons_zero, List.set_cons_succ]
  have HY3 := Lib.hid (own_byts ho3.out (fun x hx => (List.mem_append.1 hx).elim (HI.out.2 x) (HJ.out.2 x)))
  refine wpAnyT_one (i := 4) (oi := ⟨some 9, _, _, _, _, _⟩) (by kernel_rfl) rfl rfl (fun K9 hK9 => ?_)
  have HK9 := Lib.hid hK9
  clear hK9
  go_simp
  refine (rtag_any ⟨#[107, 110, 111, 116]⟩ v3 (I ++ J) w3 (by decide) (by simp [HI.out.1, HJ.out.1]) HY3.out).mono ?_
  rintro e w4 ⟨rfl, hb4⟩
  rw [show tagF (nmB ⟨#[107, 110, 111, 116]⟩) (I ++ J) = knotF I J from rfl]
  dsimp only
  refine HK9.out _ _ (fun _ => trivial) ?_
  clear HK9
  simp only [List.setIfInBounds_toArray, List.set_cons_zero, List.set_cons_succ]
  have HA9 := Lib.hid ((HA3.out.below HB13.out HA3.out.lt).below hb4 (by have := HA3.out.lt; have := HB13.out.size; omega))
  have HB9 := Lib.hid ((HB1.out.trans (HB13.out.mono HB1.out.size)).trans (hb4.mono (by have := HB13.out.size; have := HB1.out.size; omega)))
  clear hb4
  obtain ⟨R, hR⟩ : ∃ R, R = knotF I J := ⟨_, rfl⟩
  have hRl : R.length = 32 := by rw [hR]; exact (tagF_h _ _).1
  rw [← hR]
  have HRe := Lib.hid hR
  have HRl := Lib.hid hRl
  have Hs := Lib.hid (show (Tryz.prog.info? 24).map (·.size) = some (bys R).length by rw [bys_len, hRl]; exact size32)
  have Hs2 := Lib.hid (show (Tryz.prog.info? 24).map (·.size) = some (bys R).toArray.size by rw [List.size_toArray, bys_len, hRl]; exact size32)
  have O1 := Lib.hid (all_oneCell_toArray (bys_one R))
  clear hR hRl
  refine wpAnyT_one (i := 5) (oi := ⟨none, _, _, _, _, _⟩) (by kernel_rfl) rfl rfl (fun K9 hK9 => ?_)
  refine wp_store_mid (P := Tryz.prog) 24 (.tmp 4) (.tmp 9) rfl (w.heap.size + 1 + 1) 0 (bys R).toArray rfl rfl (HA9.out.there _ (by simp [bys_len, HRl.out])) Hs2.out O1.out ?_
  refine hK9 _ _ (fun h => absurd rfl h) ?_
  clear hK9
  refine wpAnyT_done (by kernel_rfl) ?_ _
  dsimp only [Act.put]
  go_wp2
  have HA5 := Lib.hid (HA9.out.setAll (bys R) (by simp [bys_len, HRl.out]))
  refine bodyPost_ret (results_cell_row (P := Tryz.prog) rfl _ _ (w.heap.size + 1 + 1) 24 _ (0, 0) _ rfl HA5.out Tryz.underlying24 rfl (by rw [List.size_toArray]; exact Hs.out)) rfl ?_
  exact ⟨by rw [HRe.out], below_sets _ (by omega) _ _ HB9.out⟩

end Go.Proofs.YthnbnckmeffkmaaGreat
