/- Small words that serve every claim of this project: rows of integers that came in; tables that a row lists. Nothing of the dump stands here. -/
import Derived.WalkKit
import Derived.Below
import Derived.Lib.LaidTab
import Derived.LaidLaws
import Derived.LaidMore
import Derived.OpenShut
import Derived.Laws.AppendOwn
import Derived.Laws.OwnMore
import Derived.OwnWalk
import Derived.Maps.AppendAt
import Derived.Deep.AppendLies
import Derived.Test.YthnbnckmeffkmaaGreatShelf
import Derived.Laws.BitsAllLaws
import Derived.BigQuiet
import Derived.Deep.QuietTactic
import Derived.Deep.LoopGhost
import Derived.Deep.DeepCutAuto
import Derived.Deep.CutBlock
import Derived.Lib.Hide
import Derived.Outline
import Derived.WalkSmall
import Derived.WalkSpells
import Derived.WalkLawsBesides
import Derived.Laws.Externs
namespace Go.Proofs.YthnbnckmeffkmaaGreat
open Go.RowKit Go.Lib
set_option linter.unusedVariables false

/-- A slice of integers that came in: nil; or a row of 'cap' cells, the numbers 'zs'. -/
def IsRow (k : IntKind) (w : World) (a : Option Addr) (len cap : Nat) (zs : List Int) : Prop :=
  (a = none ∧ len = 0 ∧ cap = 0 ∧ zs = []) ∨
  ∃ x, a = some x ∧ len ≤ cap ∧ cap ≤ maxLen ∧ zs.length = cap ∧ (∀ i, i < zs.length → w.cell? (x.add i) = some (.int k (zs.getD i 0))) ∧ ∀ n ∈ zs, (Lit.int k n).wf = true

theorem cellb {w w1 : World} (h : Below w.heap.size w w1) {a : Addr} {v : Value} (hc : w.cell? a = some v) : w1.cell? a = some v := (h.cell (World.block_lt_of_cell? w a hc)).trans hc

theorem laid_at {P : Program} {w : World} {n : String} {d : DataW Unit} : ∀ {l : List (String × DataW Unit)} {ps : List MemPlace}, DataW.LaidVars P w l ps → (n, d) ∈ l →
    ∃ g t cs fuel p, P.globalNamed n = some g ∧ (P.globals[g]?).map (·.type) = some t ∧ w.var? P n = some cs ∧ DataW.trod (fun _ => ()) P w 0 (fun _ => true) false fuel t cs.toList = some (d, p)
  | [], _, _, hm => by cases hm
  | (m, e) :: r, ps, h, hm => by
    obtain ⟨g, t, cs, fuel, p, q, h1, h2, h3, h4, h5, _⟩ := h
    rcases List.mem_cons.1 hm with e1 | hm
    · cases e1; exact ⟨g, t, cs, fuel, p, h1, h2, h3, h4⟩
    · exact laid_at h5 hm

/-- A listed table of integers: its cells. -/
theorem tab_of_laid {P : Program} {W : World} {name : String} {k : IntKind} {zs : List Int} {l : List (String × DataW Unit)} {g : Nat} {t e : TypeId} {n : Nat}
    (hp : laidMet P l W) (hm : (name, tabData k zs) ∈ l) (hg : P.globalNamed name = some g) (hty : (P.globals[g]?).map (·.type) = some t)
    (ht : P.underlying t = some (.array n e)) (he : P.underlying e = some (.int k)) (hce : P.cellsOf e = 1) (hct : P.cellsOf t = n) : TabIs P W name k zs := by
  obtain ⟨ps, hl, _⟩ := hp
  obtain ⟨g', t', cs, fuel, p, hg', ht', hvar, hd⟩ := laid_at hl hm
  obtain rfl := Option.some.inj (hg.symm.trans hg')
  obtain rfl := Option.some.inj (hty.symm.trans ht')
  unfold TabIs
  rw [hvar, ← cells_of_tab ht he hce hct hd]

theorem tabIs_below {P : Program} {w w' : World} {name : String} {k : IntKind} {zs : List Int} (h : TabIs P w name k zs) (hb : Below w.heap.size w w') : TabIs P w' name k zs := by
  unfold TabIs World.var? at *
  cases hg : P.globalNamed name with
  | none => simp [hg] at h
  | some g =>
    simp only [hg, Option.bind_some] at h ⊢
    have hlt : g < w.heap.size := by
      rcases Nat.lt_or_ge g w.heap.size with h' | h'
      · exact h'
      · rw [Array.getElem?_eq_none h'] at h; simp at h
    rw [hb.block g hlt]
    exact h

/-! ### Rows of the call's own -/
theorem add_nospot (g j : Nat) : (⟨g, 0, none⟩ : Addr).add j = ⟨g, j, none⟩ := by unfold Addr.add; split <;> simp_all
theorem own_base {w : World} {base : Nat} {e : TypeId} {size n : Nat} {v : Value} {xs : List Value} (h : w.ownsRow base e size v n xs) (k : Nat) (hk : v.ownBlock = some k) : base ≤ k ∧ k < w.heap.size :=
  h.lt k hk
theorem alloc_top (w : World) (o : Obj) : (w.alloc o).heap[w.heap.size]? = some o := by unfold World.alloc; exact Array.getElem?_push_size
/-- append(v, y), the variadic's box just laid. -/
theorem app1 {P : Program} {ops : Array Oper} {rest : List Oper} {o : Oper} {a : Act} {Q : Exit → Act → World → Prop} {W : World} (base : Nat) (hgd : o.guard = none) (s x : Operand) (t e : TypeId) (z : Value) (bytes : Nat)
    (ho : o.op = .call { callee := .builtin .append, args := #[s, x], argTypes := #[t, t] })
    (ht : P.underlying t = some (.slice e)) (hinfo : (P.info? e).map (fun i => (i.zero, i.size, i.bytes)) = some (some z, 1, bytes)) (hz : z.cells.size = 1) (hb0 : 0 < bytes)
    (v : Value) (xs : List Value) (y : Value) (hs : a.eval s = v) (hx : a.eval x = .slice (some ⟨W.heap.size, 0, none⟩) 1 1) (h1 : y.oneCell' = true)
    (HO : W.ownsRow base e 1 v xs.length xs) (hbase : base ≤ W.heap.size) (hl : (xs.length + 1) * bytes ≤ 140737488355328)
    (h : ∀ v1 w1, w1.ownsRow base e 1 v1 (xs ++ [y]).length (xs ++ [y]) → (∀ B w0, Below B w0 W → B ≤ base → Below B w0 w1) → W.grownBy w1 v.ownBlock → W.heap.size < w1.heap.size → wpList P ops Q rest (a.put o.dst v1) w1) :
    wpList P ops Q (o :: rest) a (W.alloc (.cells #[y] e)) := by
  obtain ⟨i0, hi, hzz⟩ := Option.map_eq_some_iff.1 hinfo
  simp only [Prod.mk.injEq] at hzz
  obtain ⟨hz0, hz1, hz2⟩ := hzz
  have hlen : xs.length + 1 ≤ 140737488355328 := Nat.le_trans (Nat.le_mul_of_pos_right _ hb0) hl
  refine wpList_append_own (W.alloc (.cells #[y] e)) hgd s x t ho base e i0 z 1 bytes ht hi hz0 hz1 hz2 hz (by omega) v xs.length xs hs (HO.alloc _) ⟨W.heap.size, 0, none⟩ 1 1 [y] hx rfl
    (World.news_of_block (cs := #[y]) (t := e) (fr := (0, 0)) (alloc_top W _)) (by simpa using h1) (by simp only [maxLen]; omega) hl (by simp; omega) ?_
  intro v1 w1 hown hg _
  have hg2 : W.grownBy w1 v.ownBlock := World.grownBy.trans (World.grownBy_alloc W _ _) hg
  have hsz : W.heap.size < w1.heap.size := by have := hg.size; simp at this; omega
  refine h v1 w1 (by simpa using hown) (fun B w0 HB hB => HB.grown hg2 (by omega) (fun k hk => Nat.le_trans hB (HO.lt k hk).1)) hg2 hsz
end Go.Proofs.YthnbnckmeffkmaaGreat
namespace Go.Proofs.YthnbnckmeffkmaaGreat
open Go.RowKit Go.Lib
set_option linter.unusedVariables false
set_option linter.unusedSimpArgs false

/-- A word turned right by n places. -/
def rotr (n x : Nat) : Nat := x / 2 ^ n + x * 2 ^ (32 - n) % 4294967296

theorem right_core (x n q l r : Nat) (w : World) (h0 : 1 ≤ n) (hn : n ≤ 31)
    (h1 : ((x : Int) / 2 ^ n) = (q : Int)) (h2 : IntKind.u32.wrap ((x : Int) * 2 ^ (32 - n)) = (l : Int)) (h3 : IntKind.u32.wrap ((q : Int) + (l : Int)) = (r : Int)) :
    Calls Tryz.prog 240 #[.int .u32 x, .int .u64 n] w fun e w' => e = .returned (.int .u32 r) ∧ w = w' := by
  have hm1 : min n 32 = n := by omega
  have hm2 : min (32 - n) 32 = 32 - n := by omega
  go_enter Tryz.func240, Tryz.ntmps240
  go_wp2
  go_ret
  exact ⟨rfl, rfl⟩

theorem rotr_lt (n x : Nat) (hx : x < 4294967296) (h0 : 1 ≤ n) (hn : n ≤ 31) : rotr n x < 4294967296 ∧ x / 2 ^ n < 2 ^ (32 - n) ∧ 2 ^ (32 - n) ∣ x * 2 ^ (32 - n) % 4294967296 := by
  have e : 2 ^ n * 2 ^ (32 - n) = 4294967296 := by rw [← Nat.pow_add, show n + (32 - n) = 32 by omega]
  have h1 : x / 2 ^ n < 2 ^ (32 - n) := by rw [Nat.div_lt_iff_lt_mul (Nat.two_pow_pos n), Nat.mul_comm, e]; exact hx
  have h2 : x * 2 ^ (32 - n) % 4294967296 = x % 2 ^ n * 2 ^ (32 - n) := by rw [← e, Nat.mul_mod_mul_right]
  have h3 : x % 2 ^ n + 1 ≤ 2 ^ n := Nat.mod_lt _ (Nat.two_pow_pos n)
  have h4 := Nat.mul_le_mul_right (2 ^ (32 - n)) h3
  rw [e, Nat.add_mul, Nat.one_mul] at h4
  refine ⟨?_, h1, ?_⟩
  · unfold rotr; rw [h2]; omega
  · rw [h2]; exact Nat.dvd_mul_left _ _

theorem wrap_mul (x m : Nat) : IntKind.u32.wrap ((x : Int) * 2 ^ m) = ((x * 2 ^ m % 4294967296 : Nat) : Int) := by
  have e : ((x : Int) * 2 ^ m) = ((x * 2 ^ m : Nat) : Int) := by simp
  rw [e]
  generalize x * 2 ^ m = y
  rw [IntKind.wrap_u32]; omega

theorem right_any (x n : Nat) (w : World) (hx : x < 4294967296) (h0 : 1 ≤ n) (hn : n ≤ 31) :
    Calls Tryz.prog 240 #[.int .u32 x, .int .u64 n] w fun e w' => e = .returned (.int .u32 (rotr n x : Nat)) ∧ w = w' := by
  have h := (rotr_lt n x hx h0 hn).1
  refine right_core x n (x / 2 ^ n) (x * 2 ^ (32 - n) % 4294967296) _ w h0 hn (by simp) ?_ ?_
  · exact wrap_mul x (32 - n)
  · rw [IntWalk.u32_in _ ?_]
    · unfold rotr; exact (Int.natCast_add _ _).symm
    · unfold rotr at h; revert h; generalize x / 2 ^ n = q; intro h; omega

theorem rot_core (x n m q l r : Nat) (w : World) (hm : m ≤ 31) (hmn : m + n = 32) (h0 : 1 ≤ n)
    (h4 : bits .and .u64 (IntKind.u64.wrap (-(n : Int))) 31 = (m : Int))
    (h1 : ((x : Int) / 2 ^ (32 - m)) = (q : Int)) (h2 : IntKind.u32.wrap ((x : Int) * 2 ^ m) = (l : Int)) (h3 : bits .or .u32 (l : Int) (q : Int) = (r : Int)) :
    Calls Tryz.prog 271 #[.int .u32 x, .int .i64 (-(n : Int))] w fun e w' => e = .returned (.int .u32 r) ∧ w = w' := by
  have hm1 : min m 32 = m := by omega
  have hm2 : min (32 - m) 32 = 32 - m := by omega
  clear hmn
  go_enter Tryz.func271, Tryz.ntmps271
  go_wp2
  go_ret
  exact ⟨rfl, rfl⟩

theorem turn_any (x n : Nat) (w : World) (hx : x < 4294967296) (h0 : 1 ≤ n) (hn : n ≤ 31) :
    Calls Tryz.prog 257 #[.int .u32 x, .int .i64 n] w fun e w' => e = .returned (.int .u32 (rotr n x : Nat)) ∧ w = w' := by
  obtain ⟨h, h1, h2⟩ := rotr_lt n x hx h0 hn
  have hrot : ∀ w, Calls Tryz.prog 271 #[.int .u32 x, .int .i64 (-(n : Int))] w fun e w' => e = .returned (.int .u32 (rotr n x : Nat)) ∧ w = w' := by
    intro w
    refine rot_core x n (32 - n) (x / 2 ^ n) (x * 2 ^ (32 - n) % 4294967296) _ w (by omega) (by omega) h0 ?_ ?_ ?_ ?_
    · have e : IntKind.u64.wrap (-(n : Int)) = ((18446744073709551616 - n : Nat) : Int) := by rw [IntKind.wrap_u64]; omega
      rw [e, show (31 : Int) = ((31 : Nat) : Int) from rfl, u64_and_nat _ _ (by omega) (by omega), show (31 : Nat) = 2 ^ 5 - 1 from rfl, Nat.and_two_pow_sub_one_eq_mod]
      congr 1; omega
    · rw [show 32 - (32 - n) = n by omega]; simp
    · exact wrap_mul x (32 - n)
    · rw [u32_or_nat _ _ (Nat.mod_lt _ (by omega)) (Nat.lt_of_le_of_lt (Nat.div_le_self _ _) hx)]
      congr 1
      obtain ⟨k, hk⟩ := h2
      unfold rotr
      rw [hk, ← Nat.two_pow_add_eq_or_of_lt h1, Nat.add_comm]
  have HR := Lib.hid hrot
  clear hrot h1 h2 h
  go_enter Tryz.func257, Tryz.ntmps257
  go_wp2_with fail
  refine (HR.out _).mono ?_
  rintro e w' ⟨rfl, rfl⟩
  go_wp2
  go_ret
  exact ⟨rfl, rfl⟩
end Go.Proofs.YthnbnckmeffkmaaGreat
namespace Go.Proofs.YthnbnckmeffkmaaGreat
open Go.RowKit Go.Lib
set_option linter.unusedVariables false
set_option linter.unusedSimpArgs false

theorem add64_law (x y : Nat) (w : World) :
    (callFunc 255 #[.int .u64 x, .int .u64 y, .int .u64 0]).run Tryz.prog w =
      .ok (.value (.tuple #[.int .u64 (((x + y) % 18446744073709551616 : Nat) : Int), .int .u64 (((x + y) / 18446744073709551616 : Nat) : Int)])) w := by
  rw [run_callFunc_extern Tryz.func255 (by kernel_rfl) (by kernel_rfl) (by kernel_rfl) (e := add64Entry) (by kernel_rfl), run_add64 x y 0 (by omega) (by omega) (by omega) (by omega)]
  simp only [Result.andThen]
  congr 5 <;> omega

/-- Whether a square is too great; whether a cube is. -/
def sqGreat (p x : Nat) : Bool := decide (p * 18446744073709551616 < x * x)
def cbGreat (p x : Nat) : Bool := decide (p * 4294967296 * 18446744073709551616 < x * x * x)

theorem sq_core (x p hi lo B : Nat) (b : Bool) (w : World) (hc : w.cell? ⟨B, 0, none⟩ = some (.int .u64 p))
    (HM : ∀ w, Calls Tryz.prog 254 #[.int .u64 x, .int .u64 x] w fun e w' => e = .returned (.tuple #[.int .u64 hi, .int .u64 lo]) ∧ w' = w)
    (hb : (p < hi ∧ b = true) ∨ (hi < p ∧ b = false) ∨ (hi = p ∧ 0 < lo ∧ b = true) ∨ (hi = p ∧ lo = 0 ∧ b = false)) :
    Calls Tryz.prog 256 #[.int .u64 x, .pointer (some ⟨B, 0, none⟩)] w fun e w' => e = .returned (.bool b) ∧ w' = w := by
  go_enter Tryz.func256, Tryz.ntmps256
  go_wp2_with (go_at_call 254; refine (HM _).mono ?_; rintro e w' ⟨rfl, rfl⟩)
  all_goals
    go_ret
    refine ⟨?_, rfl⟩
    rcases hb with ⟨h1, rfl⟩ | ⟨h1, rfl⟩ | ⟨h1, h2, rfl⟩ | ⟨h1, h2, rfl⟩
    all_goals first
      | (exfalso; omega)
      | (simp; omega)
      | simp

theorem sq_any (x p B : Nat) (w : World) (hx : x < 68719476736) (hc : w.cell? ⟨B, 0, none⟩ = some (.int .u64 p)) :
    Calls Tryz.prog 256 #[.int .u64 x, .pointer (some ⟨B, 0, none⟩)] w fun e w' => e = .returned (.bool (sqGreat p x)) ∧ w' = w := by
  refine sq_core x p (x * x / 18446744073709551616) (x * x % 18446744073709551616) B _ w hc (fun w => Tryz.bits_Mul64 x x (by omega) (by omega) w) ?_
  unfold sqGreat
  generalize x * x = y
  rcases Nat.lt_trichotomy p (y / 18446744073709551616) with h | h | h
  · exact Or.inl ⟨h, by simp; omega⟩
  · rcases Nat.eq_zero_or_pos (y % 18446744073709551616) with h2 | h2
    · exact Or.inr (Or.inr (Or.inr ⟨h.symm, h2, by simp; omega⟩))
    · exact Or.inr (Or.inr (Or.inl ⟨h.symm, h2, by simp; omega⟩))
  · exact Or.inr (Or.inl ⟨h, by simp; omega⟩)

theorem cb_core (x p hi lo a b d m s B : Nat) (r : Bool) (w : World) (hc : w.cell? ⟨B, 0, none⟩ = some (.int .u64 p))
    (HM1 : ∀ w, Calls Tryz.prog 254 #[.int .u64 x, .int .u64 x] w fun e w' => e = .returned (.tuple #[.int .u64 hi, .int .u64 lo]) ∧ w' = w)
    (HM2 : ∀ w, Calls Tryz.prog 254 #[.int .u64 lo, .int .u64 x] w fun e w' => e = .returned (.tuple #[.int .u64 a, .int .u64 b]) ∧ w' = w)
    (HM3 : ∀ w, Calls Tryz.prog 254 #[.int .u64 hi, .int .u64 x] w fun e w' => e = .returned (.tuple #[.int .u64 (0 : Nat), .int .u64 d]) ∧ w' = w)
    (HA : ∀ w, (callFunc 255 #[.int .u64 a, .int .u64 d, .int .u64 0]).run Tryz.prog w = .ok (.value (.tuple #[.int .u64 m, .int .u64 (0 : Nat)])) w)
    (hp : (p : Int) / 4294967296 = 0) (hs : IntKind.u64.wrap ((p : Int) * 4294967296) = (s : Int))
    (hb : (s < m ∧ r = true) ∨ (m < s ∧ r = false) ∨ (m = s ∧ 0 < b ∧ r = true) ∨ (m = s ∧ b = 0 ∧ r = false)) :
    Calls Tryz.prog 253 #[.int .u64 x, .pointer (some ⟨B, 0, none⟩)] w fun e w' => e = .returned (.bool r) ∧ w' = w := by
  go_enter Tryz.func253, Tryz.ntmps253
  go_wp2_with fail
  with_reducible refine (HM1 _).mono ?_
  rintro e w' ⟨rfl, rfl⟩
  go_wp2_with fail
  with_reducible refine (HM2 _).mono ?_
  rintro e w' ⟨rfl, rfl⟩
  go_wp2_with fail
  with_reducible refine (HM3 _).mono ?_
  rintro e w' ⟨rfl, rfl⟩
  go_wp2_with fail
  all_goals
    go_ret
    refine ⟨?_, rfl⟩
    rcases hb with ⟨h1, rfl⟩ | ⟨h1, rfl⟩ | ⟨h1, h2, rfl⟩ | ⟨h1, h2, rfl⟩
    all_goals first
      | (exfalso; omega)
      | (simp; omega)
      | simp

theorem cb_cmp (s y d : Nat) :
    (s < y / 18446744073709551616 + d ∧ decide (s * 18446744073709551616 < d * 18446744073709551616 + y) = true) ∨
    (y / 18446744073709551616 + d < s ∧ decide (s * 18446744073709551616 < d * 18446744073709551616 + y) = false) ∨
    (y / 18446744073709551616 + d = s ∧ 0 < y % 18446744073709551616 ∧ decide (s * 18446744073709551616 < d * 18446744073709551616 + y) = true) ∨
    (y / 18446744073709551616 + d = s ∧ y % 18446744073709551616 = 0 ∧ decide (s * 18446744073709551616 < d * 18446744073709551616 + y) = false) := by
  have hq : y / 18446744073709551616 * 18446744073709551616 + y % 18446744073709551616 = y := by omega
  rcases Nat.lt_trichotomy s (y / 18446744073709551616 + d) with h | h | h
  · exact Or.inl ⟨h, decide_eq_true (by omega)⟩
  · rcases Nat.eq_zero_or_pos (y % 18446744073709551616) with h2 | h2
    · exact Or.inr (Or.inr (Or.inr ⟨h.symm, h2, decide_eq_false (by omega)⟩))
    · exact Or.inr (Or.inr (Or.inl ⟨h.symm, h2, decide_eq_true (by omega)⟩))
  · exact Or.inr (Or.inl ⟨h, decide_eq_false (by omega)⟩)

theorem cb_any (x p B : Nat) (w : World) (hx : x < 68719476736) (hp : p < 4294967296) (hc : w.cell? ⟨B, 0, none⟩ = some (.int .u64 p)) :
    Calls Tryz.prog 253 #[.int .u64 x, .pointer (some ⟨B, 0, none⟩)] w fun e w' => e = .returned (.bool (cbGreat p x)) ∧ w' = w := by
  have hy : x * x / 18446744073709551616 < 256 := by
    have : x * x ≤ 68719476735 * 68719476735 := Nat.mul_le_mul (by omega) (by omega)
    omega
  have hlo : x * x % 18446744073709551616 < 18446744073709551616 := Nat.mod_lt _ (by omega)
  have e : x * x = x * x / 18446744073709551616 * 18446744073709551616 + x * x % 18446744073709551616 := by omega
  have hcb : x * x * x = (x * x / 18446744073709551616 * x) * 18446744073709551616 + (x * x % 18446744073709551616) * x := by
    have := congrArg (· * x) e
    simp only [Nat.add_mul, Nat.mul_assoc] at this ⊢
    rw [Nat.mul_comm x 18446744073709551616]
    exact this
  have HM1 := fun w => Tryz.bits_Mul64 x x (by omega) (by omega) w
  generalize hhi : x * x / 18446744073709551616 = hi at *
  generalize hlo' : x * x % 18446744073709551616 = lo at *
  clear e hhi hlo'
  have hd : hi * x < 17592186044416 := by
    have : hi * x ≤ 255 * 68719476735 := Nat.mul_le_mul (by omega) (by omega)
    omega
  have ha : lo * x / 18446744073709551616 < 68719476736 := by
    have : lo * x ≤ 18446744073709551615 * 68719476735 := Nat.mul_le_mul (by omega) (by omega)
    omega
  have HM2 := fun w => Tryz.bits_Mul64 lo x (by omega) (by omega) w
  have HM3 := fun w => Tryz.bits_Mul64 hi x (by omega) (by omega) w
  have HA := fun w => add64_law (lo * x / 18446744073709551616) (hi * x) w
  rw [show hi * x / 18446744073709551616 = 0 by omega, show hi * x % 18446744073709551616 = hi * x by omega] at HM3
  rw [show (lo * x / 18446744073709551616 + hi * x) / 18446744073709551616 = 0 by omega, show (lo * x / 18446744073709551616 + hi * x) % 18446744073709551616 = (lo * x / 18446744073709551616 + hi * x) by omega] at HA
  refine cb_core x p hi lo _ _ _ _ (p * 4294967296) B _ w hc HM1 HM2 HM3 HA (by omega) (by rw [IntKind.wrap_u64]; omega) ?_
  unfold cbGreat
  rw [hcb]
  exact cb_cmp (p * 4294967296) (lo * x) (hi * x)
end Go.Proofs.YthnbnckmeffkmaaGreat
namespace Go.Proofs.YthnbnckmeffkmaaGreat
open Go.RowKit Go.Lib
set_option linter.unusedVariables false
set_option linter.unusedSimpArgs false

/-- The greatest number below 2^36 that is not too great: its first n places. -/
def rootF (g : Nat → Bool) : Nat → Nat
  | 0 => 0
  | n + 1 => if g (rootF g n ||| 2 ^ (35 - n)) then rootF g n else rootF g n ||| 2 ^ (35 - n)
theorem rootF_or (x n : Nat) (hx : x < 68719476736) : x ||| 2 ^ (35 - n) < 68719476736 :=
  Nat.or_lt_two_pow (n := 36) hx (Nat.pow_lt_pow_right (by omega) (by omega))
theorem rootF_lt (g : Nat → Bool) (n : Nat) : rootF g n < 68719476736 := by
  induction n with
  | zero => simp [rootF]
  | succ n ih =>
    rw [rootF]
    split
    · exact ih
    · exact rootF_or _ _ ih
theorem rootF_bits (x n : Nat) (hx : x < 68719476736) : bits .or .u64 (x : Int) (IntKind.u64.wrap (2 ^ (35 - n))) = ((x ||| 2 ^ (35 - n) : Nat) : Int) := by
  have h : (2 : Nat) ^ (35 - n) < 2 ^ 36 := Nat.pow_lt_pow_right (by omega) (by omega)
  have e : IntKind.u64.wrap (2 ^ (35 - n)) = ((2 ^ (35 - n) : Nat) : Int) := by
    rw [show (2 : Int) ^ (35 - n) = ((2 ^ (35 - n) : Nat) : Int) by simp]
    revert h; generalize 2 ^ (35 - n) = y; intro h
    rw [IntKind.wrap_u64]; omega
  rw [e, u64_or_nat _ _ (by omega) (by omega)]

theorem root_any (K B : Nat) (p : Value) (g : Nat → Bool) (HK : ∀ args w, (callFunc K args).run Tryz.prog w = .ok (.enter K args) w) (HC : ∀ (x : Nat) w, x < 68719476736 → w.cell? ⟨B, 0, none⟩ = some p → Calls Tryz.prog K #[.int .u64 x, .pointer (some ⟨B, 0, none⟩)] w fun e w' => e = .returned (.bool (g x)) ∧ w' = w)
    (w : World) (hc : w.cell? ⟨B, 0, none⟩ = some p) :
    Calls Tryz.prog 252 #[.func (.func K) #[] #[.pointer (some ⟨B, 0, none⟩)]] w fun e w' => e = .returned (.int .u64 (rootF g 36 : Nat)) ∧ w' = w := by
  have HCl := Lib.hid HC
  have HC0 := Lib.hid hc
  clear HC hc
  go_enter Tryz.func252, Tryz.ntmps252
  go_wp2
  go_loopg [3, 4, 5, 6] 36 (fun k x i y vt wr => ∃ n : Nat, vt = .int .i64 (n : Int) ∧ Hid (n + k = 36) ∧ x = .int .u64 (rootF g n : Nat) ∧ w = wr)
  case atStart => exact ⟨0, rfl, rfl, rfl, rfl⟩
  case round =>
    obtain ⟨n, rfl, hn, rfl, rfl⟩ := hrel
    have Hn := Lib.hid hn.out
    cases gk with
    | zero =>
      have hlt : ¬ ((n : Int) < 36) := by have := Hn.out; omega
      go_wp2
      go_ret
      have en : n = 36 := by have := Hn.out; omega
      subst en
      exact ⟨rfl, rfl⟩
    | succ k =>
      have hlt : ((n : Int) < 36) := by have := Hn.out; omega
      have hlt2 : ((n : Int) ≤ 35) := by have := Hn.out; omega
      have hor := rootF_bits (rootF g n) n (rootF_lt g n)
      have hy := rootF_or (rootF g n) n (rootF_lt g n)
      have hgg := Lib.hid (show rootF g (n + 1) = if g (rootF g n ||| 2 ^ (35 - n)) then rootF g n else rootF g n ||| 2 ^ (35 - n) from rfl)
      generalize rootF g n ||| 2 ^ (35 - n) = y at *
      have HY := Lib.hid hy
      have hyu : (y : Int) < 68719476736 := by omega
      clear hy
      have HC1 := Lib.hid (HCl.out y)
      cases hg : g y with
      | true =>
        rw [hg] at hgg HC1
        go_wp2_with fail
        refine (HC1.out _ HY.out HC0.out).mono ?_
        rintro e w' ⟨rfl, rfl⟩
        go_wp2
        go_roundg k
        case measure => omega
        case rel => exact ⟨n + 1, rfl, by show _ = _; have := Hn.out; omega, by rw [hgg]; rfl, rfl⟩
      | false =>
        rw [hg] at hgg HC1
        go_wp2_with fail
        refine (HC1.out _ HY.out HC0.out).mono ?_
        rintro e w' ⟨rfl, rfl⟩
        go_wp2
        go_roundg k
        case measure => omega
        case rel => exact ⟨n + 1, rfl, by show _ = _; have := Hn.out; omega, by rw [hgg]; rfl, rfl⟩
end Go.Proofs.YthnbnckmeffkmaaGreat
namespace Go.Proofs.YthnbnckmeffkmaaGreat
open Go.RowKit Go.Lib
set_option linter.unusedVariables false
set_option linter.unusedSimpArgs false

def sqWord (p : Nat) : Nat := rootF (sqGreat p) 36 % 4294967296
def cbWord (p : Nat) : Nat := rootF (cbGreat p) 36 % 4294967296
attribute [irreducible] sqWord cbWord

theorem square_core (p r : Nat) (w : World)
    (HR : ∀ w1 : World, w1.cell? ⟨w.heap.size, 0, none⟩ = some (.int .u64 p) → Calls Tryz.prog 252 #[.func (.func 256) #[] #[.pointer (some ⟨w.heap.size, 0, none⟩)]] w1 fun e w' => e = .returned (.int .u64 r) ∧ w' = w1) :
    Calls Tryz.prog 224 #[.int .u64 p] w fun e w' => e = .returned (.int .u32 (r % 4294967296 : Nat)) ∧ Below w.heap.size w w' := by
  have hmf : ∀ (fn : Fn) (first cap : Array Value) (w : World), (Instr.makeFunc fn first cap).run Tryz.prog w = .ok (.func fn first cap) w := fun _ _ _ _ => rfl
  have HR1 := Lib.hid HR
  clear HR
  go_enter Tryz.func224, Tryz.ntmps224
  go_wp2_with fail
  refine (HR1.out _ ?_).mono ?_
  · simp
  rintro e w' ⟨rfl, rfl⟩
  go_wp2
  go_ret
  refine ⟨?_, (Below.refl _ _).alloc (Nat.le_refl _) _⟩
  show Ending.returned (Value.int .u32 ((r : Int) % 4294967296)) = _
  congr 2

theorem square_any (p : Nat) (w : World) (hp : p < 4294967296) :
    Calls Tryz.prog 224 #[.int .u64 p] w fun e w' => e = .returned (.int .u32 (sqWord p : Nat)) ∧ Below w.heap.size w w' := by
  unfold sqWord
  exact square_core p _ w fun w1 hc => root_any 256 w.heap.size (.int .u64 p) (sqGreat p) (enters_of Tryz.func256 (by kernel_rfl) rfl) (fun x w2 hx hc2 => sq_any x p _ w2 hx hc2) w1 hc

theorem cube_core (p r : Nat) (w : World)
    (HR : ∀ w1 : World, w1.cell? ⟨w.heap.size, 0, none⟩ = some (.int .u64 p) → Calls Tryz.prog 252 #[.func (.func 253) #[] #[.pointer (some ⟨w.heap.size, 0, none⟩)]] w1 fun e w' => e = .returned (.int .u64 r) ∧ w' = w1) :
    Calls Tryz.prog 223 #[.int .u64 p] w fun e w' => e = .returned (.int .u32 (r % 4294967296 : Nat)) ∧ Below w.heap.size w w' := by
  have hmf : ∀ (fn : Fn) (first cap : Array Value) (w : World), (Instr.makeFunc fn first cap).run Tryz.prog w = .ok (.func fn first cap) w := fun _ _ _ _ => rfl
  have HR1 := Lib.hid HR
  clear HR
  go_enter Tryz.func223, Tryz.ntmps223
  go_wp2_with fail
  refine (HR1.out _ ?_).mono ?_
  · simp
  rintro e w' ⟨rfl, rfl⟩
  go_wp2
  go_ret
  refine ⟨?_, (Below.refl _ _).alloc (Nat.le_refl _) _⟩
  show Ending.returned (Value.int .u32 ((r : Int) % 4294967296)) = _
  congr 2

theorem cube_any (p : Nat) (w : World) (hp : p < 4294967296) :
    Calls Tryz.prog 223 #[.int .u64 p] w fun e w' => e = .returned (.int .u32 (cbWord p : Nat)) ∧ Below w.heap.size w w' := by
  unfold cbWord
  exact cube_core p _ w fun w1 hc => root_any 253 w.heap.size (.int .u64 p) (cbGreat p) (enters_of Tryz.func253 (by kernel_rfl) rfl) (fun x w2 hx hc2 => cb_any x p _ w2 hx hp hc2) w1 hc
end Go.Proofs.YthnbnckmeffkmaaGreat
namespace Go.Proofs.YthnbnckmeffkmaaGreat
open Go.RowKit Go.Lib
set_option linter.unusedVariables false
set_option linter.unusedSimpArgs false

/-- The primes among 2 .. k + 1. -/
def pstep (L : List Nat) (x : Nat) : List Nat := if L.any (fun p => x % p == 0) then L else L ++ [x]
def pr : Nat → List Nat
  | 0 => []
  | k + 1 => pstep (pr k) (k + 2)
theorem pr_len : (pr 310).length = 64 := by decide +kernel
theorem pr_prefix (k j : Nat) : pr k <+: pr (k + j) := by
  induction j with
  | zero => exact List.prefix_refl _
  | succ j ih =>
    refine ih.trans ?_
    show pr (k + j) <+: pstep (pr (k + j)) (k + j + 2)
    unfold pstep; split
    · exact List.prefix_refl _
    · exact List.prefix_append _ _
theorem pr_small {k n : Nat} (h : (pr k).length < n) (hn : n ≤ 64) : k < 310 := by
  rcases Nat.lt_or_ge k 310 with h1 | h1
  · exact h1
  · have := (pr_prefix 310 (k - 310)).length_le
    rw [show 310 + (k - 310) = k by omega, pr_len] at this
    omega
theorem pr_take {k : Nat} (hk : k ≤ 310) : pr k = (pr 310).take (pr k).length := by
  have := pr_prefix k (310 - k)
  rw [show k + (310 - k) = 310 by omega] at this
  exact List.prefix_iff_eq_take.1 this
theorem pr_ge (k : Nat) : ∀ p ∈ pr k, 2 ≤ p ∧ p < k + 2 := by
  induction k with
  | zero => simp [pr]
  | succ k ih =>
    intro p hp
    rw [pr] at hp
    unfold pstep at hp
    split at hp
    · have := ih p hp; omega
    · rcases List.mem_append.1 hp with h | h
      · have := ih p h; omega
      · simp at h; omega
theorem pr_le (k : Nat) : (pr k).length ≤ k := by
  induction k with
  | zero => simp [pr]
  | succ k ih =>
    rw [pr]; unfold pstep; split
    · omega
    · simp; omega

def nums (L : List Nat) : List Value := L.map fun p : Nat => Value.int .u64 (p : Int)
theorem nums_len (L : List Nat) : (nums L).length = L.length := by simp [nums]
theorem info_u64 : (Tryz.prog.info? 22).map (fun i => (i.zero, i.size, i.bytes)) = some (some (.int .u64 0), 1, 8) := by kernel_rfl

theorem own_read {w : World} {base : Nat} {e : TypeId} {v : Value} {L : List Nat} (h : w.ownsRow base e 1 v L.length (nums L)) :
    ∃ A c, v = .slice A L.length c ∧ (∀ (i p : Nat), L[i]? = some p → ∃ ad, A = some ad ∧ w.cell? (ad.add i) = some (.int .u64 p)) := by
  rcases h.2 with ⟨rfl, h0⟩ | ⟨g, cap, cur, rfl, hb, hg, hn, hc, _⟩
  · rw [h0]
    refine ⟨none, 0, rfl, fun i p hi => ?_⟩
    rw [List.eq_nil_of_length_eq_zero h0] at hi; simp at hi
  · refine ⟨_, cap, rfl, fun i p hi => ⟨_, rfl, ?_⟩⟩
    have hi' : i < L.length := (List.getElem?_eq_some_iff.1 hi).1
    rw [add_nospot, World.ownsRow.cellAt h i (by omega)]
    simp [nums, hi]

theorem primes_any (n : Nat) (hn : n ≤ 64) (w : World) :
    Calls Tryz.prog 222 #[.int .i64 n] w fun e w' => ∃ v, e = .returned v ∧ w'.ownsRow w.heap.size 22 1 v n (nums ((pr 310).take n)) ∧ Below w.heap.size w w' := by
  have hn' : (n : Int) ≤ 64 := by omega
  have HN := Lib.hid hn
  clear hn
  go_enter Tryz.func222, Tryz.ntmps222
  go_wp2
  go_step3
  go_wp2
  go_step3
  go_wp2
  go_loopg [3, 4] 310 (fun g v x wr => ∃ k : Nat, Hid (g + k = 310) ∧ x = .int .u64 ((k + 2 : Nat) : Int) ∧ Hid (wr.ownsRow w.heap.size 22 1 v (pr k).length (nums (pr k))) ∧ Hid (Below w.heap.size w wr) ∧ Hid ((pr k).length ≤ n))
  case atStart => exact ⟨0, rfl, rfl, by show World.ownsRow _ _ _ _ _ _ _; exact World.ownsRow_nil _ _ _ _, Below.refl _ _, Nat.zero_le _⟩
  case round =>
    obtain ⟨k, hk, rfl, ho, hb, hle⟩ := hrel
    have HK := Lib.hid hk.out
    have HO := Lib.hid ho.out
    have HB := Lib.hid hb.out
    have HLe := Lib.hid hle.out
    clear hk ho hb hle
    obtain ⟨A, c, rfl, hrd⟩ := own_read HO.out
    have HRd := Lib.hid hrd
    clear hrd
    by_cases hlt : (pr k).length < n
    · have hk3 := pr_small hlt HN.out
      have hlt' : ((pr k).length : Int) < (n : Int) := by omega
      obtain ⟨m, rfl⟩ : ∃ m, gk = m + 1 := ⟨gk - 1, by have := HK.out; omega⟩
      obtain ⟨L, hL⟩ : ∃ L, L = pr k := ⟨_, rfl⟩
      have HL := Lib.hid hL
      have hstep := Lib.hid (show pr (k + 1) = if L.any (fun p => (k + 2) % p == 0) then L else L ++ [k + 2] by rw [hL]; rfl)
      have hge : ∀ p ∈ L, 2 ≤ p ∧ p < k + 2 := by rw [hL]; exact pr_ge k
      have HGe := Lib.hid hge
      rw [← hL] at HO HLe HRd hlt hlt'
      have hl64 : L.length < 64 := by have := HN.out; omega
      rw [← hL]
      clear hL hge
      go_wp2
      go_loopg [15, 6] L.length (fun g i p wx => ∃ j : Nat, Hid (g + j = L.length) ∧ i = .int .i64 (j : Int) ∧ Hid ((L.take j).any (fun p => (k + 2) % p == 0) = false) ∧ wr = wx)
      case atStart => exact ⟨0, rfl, rfl, by show _ = _; simp, rfl⟩
      case round =>
        obtain ⟨j, hj, rfl, hany, rfl⟩ := hrel
        have HJ := Lib.hid hj.out
        have HAny := Lib.hid hany.out
        clear hj hany
        by_cases hjl : j < L.length
        · obtain ⟨p, hp⟩ : ∃ p, L[j]? = some p := ⟨L[j], by simp [hjl]⟩
          obtain ⟨ad, rfl, hcell⟩ := HRd.out j p hp
          have hpm : p ∈ L := List.mem_of_getElem? hp
          obtain ⟨hp2, hpk⟩ := HGe.out p hpm
          have hjl' : (j : Int) < (L.length : Int) := by omega
          have HP := Lib.hid hp
          have HPm := Lib.hid hpm
          clear hp hpm
          by_cases hd : (k + 2) % p = 0
          · have hd1 : (((k : Int) + 2) % (p : Int) == 0) = true := by
              have : ((k : Int) + 2) % (p : Int) = (((k + 2) % p : Nat) : Int) := by simp
              rw [this, hd]; rfl
            have hpr : pr (k + 1) = L := by
              rw [hstep.out, if_pos (List.any_eq_true.2 ⟨p, HPm.out, by simp [hd]⟩)]
            have HPr := Lib.hid hpr
            have HD := Lib.hid hd
            clear hpr hd
            go_wp2
            go_roundg m
            case measure => omega
            case rel => exact ⟨k + 1, by show _ = _; have := HK.out; omega, by go_num, by show World.ownsRow _ _ _ _ _ _ _; rw [HPr.out]; exact HO.out, HB.out, by show _ ≤ _; rw [HPr.out]; exact HLe.out⟩
          · have hd1 : (((k : Int) + 2) % (p : Int) == 0) = false := by
              have : ((k : Int) + 2) % (p : Int) = (((k + 2) % p : Nat) : Int) := by simp
              rw [this]; revert hd; generalize (k + 2) % p = r; intro hd; simp; omega
            have HD := Lib.hid hd
            clear hd
            go_wp2
            go_roundg (gk - 1)
            case measure => (have := HJ.out; omega)
            case rel => exact ⟨j + 1, by show _ = _; have := HJ.out; omega, by go_num, by
              show _ = _
              rw [List.take_add_one, HP.out, List.any_append, HAny.out]
              simp [HD.out], rfl⟩
        · have ej : j = L.length := by have := HJ.out; omega
          have hjl' : ¬ (j : Int) < (L.length : Int) := by omega
          have hpr : pr (k + 1) = L ++ [k + 2] := by
            have h := HAny.out
            rw [ej, List.take_length] at h
            rw [hstep.out, h]; rfl
          have HPr := Lib.hid hpr
          clear hpr
          go_wp2_with (at_builtin; refine app1 w.heap.size rfl _ _ 60 22 (.int .u64 0) 8 rfl Tryz.underlying60 info_u64 rfl (by decide) _ (nums L) (.int .u64 ((k : Int) + 2)) rfl rfl rfl ?c1 ?c2 ?c3 ?_)
          case c1 => rw [nums_len]; exact HO.out
          case c2 => exact HB.out.size
          case c3 => rw [nums_len]; omega
          intro v1 w2 hown hbel hgr hsz
          have HO2 := Lib.hid hown
          have HB2 := Lib.hid (hbel _ _ HB.out (Nat.le_refl _))
          clear hown hbel hgr hsz
          go_wp2
          go_roundg m
          case measure => omega
          case rel => exact ⟨k + 1, by show _ = _; have := HK.out; omega, by go_num, by
            show World.ownsRow _ _ _ _ _ _ _
            have := HO2.out
            rw [HPr.out]
            simpa [nums] using this, HB2.out, by show _ ≤ _; rw [HPr.out]; simp; omega⟩
    · have en : (pr k).length = n := by have := HLe.out; omega
      have hlt' : ¬ ((pr k).length : Int) < (n : Int) := by omega
      go_wp2
      go_ret
      have ht := pr_take (k := k) (by have := HK.out; omega)
      have := HO.out
      rw [ht, en] at this
      refine ⟨_, rfl, ?_, HB.out⟩
      rw [List.length_take, pr_len] at this
      rw [show min n 64 = n by have := HN.out; omega] at this
      exact this
end Go.Proofs.YthnbnckmeffkmaaGreat
