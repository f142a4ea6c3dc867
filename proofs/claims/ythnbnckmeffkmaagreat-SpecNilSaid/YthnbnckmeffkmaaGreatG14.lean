/- Sets of coins that are empty; clones of maps. -/
import Derived.Test.YthnbnckmeffkmaaGreatG13
import Derived.Shelf.SlMaps.Clone
import Derived.Maps.RangeWalk
namespace Go.Proofs.YthnbnckmeffkmaaGreat
open Go.RowKit Go.Lib
set_option linter.unusedVariables false
set_option linter.unusedSimpArgs false
attribute [local go_sem ↓] Go.wp_at_zero Go.wp_at_succ

/-- A block that is a map without entries. -/
def EmpM (w : World) (b : Nat) : Prop := w.heap[b]? = some (.map #[] 0)
theorem EmpM.lt {w : World} {b : Nat} (h : EmpM w b) : b < w.heap.size := (Array.getElem?_eq_some_iff.1 h).1
theorem EmpM.below {w w' : World} {b : Nat} (h : EmpM w b) (hb : Below w.heap.size w w') : EmpM w' b := by
  unfold EmpM at *
  rw [hb.block b (EmpM.lt h), h]
theorem heap_below {w w' : World} {b : Nat} {o : Obj} (h : w.heap[b]? = some o) (hb : Below w.heap.size w w') : w'.heap[b]? = some o := by
  rw [hb.block b (Array.getElem?_eq_some_iff.1 h).1, h]
/-- A set of coins without coins. -/
def EmpS (w : World) (s : Nat) : Prop := ∃ c, Arr w s 194 [.map (some c)] ∧ EmpM w c
theorem EmpS.below {w w' : World} {s : Nat} (h : EmpS w s) (hb : Below w.heap.size w w') : EmpS w' s := by
  obtain ⟨c, h1, h2⟩ := h
  exact ⟨c, h1.below hb h1.lt, h2.below hb⟩
theorem EmpS.lt {w : World} {s : Nat} (h : EmpS w s) : s < w.heap.size := by obtain ⟨c, h1, _⟩ := h; exact h1.lt
theorem len_emp {w : World} {c : Nat} (hm : w.heap[c]? = some (.map #[] 0)) : (Builtin.len_ #[191] 3 #[.map (some c)]).run Tryz.prog w = .ok (.int .i64 0) w := by
  have hu := Tryz.underlying191
  simp [Builtin.len_, run_underlying hu, MapKept.run_getObj_map hm, goInt, Result.andThen]
theorem neq_map (c : Nat) (w : World) : (binOp .neq 191 (.map (some c)) (.map none)).run Tryz.prog w = .ok (.bool true) w := by kernel_rfl
set_option maxRecDepth 100000 in
theorem cnew_any (w : World) : Calls Tryz.prog 79 #[] w fun e w' => ∃ s, e = .returned (.pointer (some ⟨s, 0, none⟩)) ∧ w.heap.size ≤ s ∧ EmpS w' s ∧ Below w.heap.size w w' := by
  have hmm := @run_makeMap Tryz.prog
  go_enter Tryz.func79, Tryz.ntmps79
  go_wp2
  go_ret
  have hs : (w.alloc (.map #[] 0)).heap.size = w.heap.size + 1 := World.size_alloc _ _
  have h1 := Arr.made (w.alloc (.map #[] 0)) 194 [.map (some w.heap.size)]
  rw [hs] at h1
  have hb := (Below.refl (w.alloc (.map #[] 0)).heap.size (w.alloc (.map #[] 0))).alloc (Nat.le_refl _) (.cells [Value.map (some w.heap.size)].toArray 194)
  have h2 : EmpM (w.alloc (.map #[] 0)) w.heap.size := heap_alloc_last w _
  exact ⟨w.heap.size + 1, rfl, by omega, ⟨w.heap.size, h1, h2.below hb⟩, ((Below.refl w.heap.size w).alloc (Nat.le_refl _) _).trans (hb.mono (by rw [hs]; omega))⟩
set_option maxRecDepth 100000 in
theorem clen_emp (s : Nat) (w : World) (h : EmpS w s) : Calls Tryz.prog 181 #[.pointer (some ⟨s, 0, none⟩)] w fun e w' => e = .returned (.int .i64 0) ∧ Below w.heap.size w w' := by
  obtain ⟨c, h1, h2⟩ := h
  have hc := h1.cell 0
  dsimp only [List.getElem?_cons_zero] at hc
  have hl := len_emp h2
  go_enter Tryz.func181, Tryz.ntmps181
  go_wp2
  go_ret
  exact ⟨rfl, Below.refl _ _⟩
set_option maxRecDepth 100000 in
theorem cthere_emp (s : Nat) (w : World) (h : EmpS w s) : Calls Tryz.prog 113 #[.pointer (some ⟨s, 0, none⟩)] w fun e w' => e = .returned (.bool true) ∧ Below w.heap.size w w' := by
  obtain ⟨c, h1, h2⟩ := h
  have hc := h1.cell 0
  dsimp only [List.getElem?_cons_zero] at hc
  have hn := neq_map c
  go_enter Tryz.func113, Tryz.ntmps113
  go_wp2
  go_ret
  exact ⟨rfl, Below.refl _ _⟩
set_option maxRecDepth 100000 in
theorem mclone_coins (b : Nat) (es : Array MapEntry) (clock : Nat) (w : World) (hb : w.heap[b]? = some (.map es clock)) :
    Calls Tryz.prog 114 #[.map (some b)] w fun e w' => e = .returned (.map (some w.heap.size)) ∧ w' = w.alloc (.map es clock) := by
  have hq : ∀ w9, (binOp .eql 191 (.map (some b)) (.map none)).run Tryz.prog w9 = .ok (.bool false) w9 := fun w9 => by kernel_rfl
  go_enter Tryz.func114, Tryz.ntmps114
  go_wp2
  rw [run_callFunc_extern Tryz.func169 (by kernel_rfl) (by kernel_rfl) (by kernel_rfl) (e := Extern.MapsClone.clone) (by kernel_rfl), run_maps_clone_sl w 191 hb]
  simp only [Result.andThen]
  rw [Oper.upon_value]
  go_wp2
  rw [run_typeAssert_map_sl _ 191 20 _ _ _ Tryz.underlying191]
  simp only [Result.andThen]
  rw [Oper.upon_value]
  go_wp2
  go_ret
  exact ⟨rfl, rfl⟩
set_option maxRecDepth 100000 in
theorem mclone_set (b : Nat) (es : Array MapEntry) (clock : Nat) (w : World) (hb : w.heap[b]? = some (.map es clock)) :
    Calls Tryz.prog 147 #[.map (some b)] w fun e w' => e = .returned (.map (some w.heap.size)) ∧ w' = w.alloc (.map es clock) := by
  have hq : ∀ w9, (binOp .eql 121 (.map (some b)) (.map none)).run Tryz.prog w9 = .ok (.bool false) w9 := fun w9 => by kernel_rfl
  go_enter Tryz.func147, Tryz.ntmps147
  go_wp2
  rw [run_callFunc_extern Tryz.func169 (by kernel_rfl) (by kernel_rfl) (by kernel_rfl) (e := Extern.MapsClone.clone) (by kernel_rfl), run_maps_clone_sl w 121 hb]
  simp only [Result.andThen]
  rw [Oper.upon_value]
  go_wp2
  rw [run_typeAssert_map_sl _ 121 20 _ _ _ Tryz.underlying121]
  simp only [Result.andThen]
  rw [Oper.upon_value]
  go_wp2
  go_ret
  exact ⟨rfl, rfl⟩
set_option maxRecDepth 100000 in
theorem len64_0 (w : World) : Calls Tryz.prog 215 #[.int .u64 0] w fun e w' => ∃ k : Int, e = .returned (.int .i64 k) ∧ Below w.heap.size w w' := by
  go_enter Tryz.func215, Tryz.ntmps215
  go_wp2
  go_ret
  exact ⟨_, rfl, Below.refl _ _⟩
set_option maxRecDepth 100000 in
theorem len64_1 (w : World) : Calls Tryz.prog 215 #[.int .u64 1] w fun e w' => ∃ k : Int, e = .returned (.int .i64 k) ∧ Below w.heap.size w w' := by
  go_enter Tryz.func215, Tryz.ntmps215
  go_wp2
  go_ret
  exact ⟨_, rfl, Below.refl _ _⟩
set_option maxRecDepth 100000 in
theorem blen_0 (w : World) : Calls Tryz.prog 166 #[.int .u64 0] w fun e w' => ∃ k : Int, e = .returned (.int .i64 k) ∧ Below w.heap.size w w' := by
  have HC := Lib.hid (len64_0 w)
  go_enter Tryz.func166, Tryz.ntmps166
  go_wp2_with fail
  with_reducible refine HC.out.mono ?_
  rintro e w2 ⟨k, rfl, hb2⟩
  dsimp only
  have HB2 := Lib.hid hb2
  clear hb2 HC
  go_wp2
  go_ret
  exact ⟨_, rfl, HB2.out⟩
set_option maxRecDepth 100000 in
theorem blen_1 (w : World) : Calls Tryz.prog 166 #[.int .u64 1] w fun e w' => ∃ k : Int, e = .returned (.int .i64 k) ∧ Below w.heap.size w w' := by
  have HC := Lib.hid (len64_1 w)
  go_enter Tryz.func166, Tryz.ntmps166
  go_wp2_with fail
  with_reducible refine HC.out.mono ?_
  rintro e w2 ⟨k, rfl, hb2⟩
  dsimp only
  have HB2 := Lib.hid hb2
  clear hb2 HC
  go_wp2
  go_ret
  exact ⟨_, rfl, HB2.out⟩
set_option maxRecDepth 100000 in
theorem inss_h0 (v f : Value) (w : World) : Calls Tryz.prog 206 #[v, .int .i64 0, .int .i64 0, f] w fun e w' => e = .returned (.tuple #[]) ∧ Below w.heap.size w w' := by
  go_enter Tryz.func206, Tryz.ntmps206
  go_wp2
  refine wp_loop_rounds 1 ?_
  rw [rounds_succ]
  go_wp2
  go_end0
  exact ⟨rfl, Below.refl _ _⟩
set_option maxRecDepth 100000 in
theorem pdq_h0 (v f : Value) (k : Int) (w : World) : Calls Tryz.prog 165 #[v, .int .i64 0, .int .i64 0, .int .i64 k, f] w fun e w' => e = .returned (.tuple #[]) ∧ Below w.heap.size w w' := by
  have HC := Lib.hid (inss_h0 v f w)
  go_enter Tryz.func165, Tryz.ntmps165
  go_wp2
  refine wp_loop_rounds 1 ?_
  rw [rounds_succ]
  go_wp2_with fail
  with_reducible refine HC.out.mono ?_
  rintro e w2 ⟨rfl, hb2⟩
  dsimp only
  have HB2 := Lib.hid hb2
  clear hb2 HC
  go_wp2
  refine bodyPost_ret (results_none rfl _ _ _) rfl ?_
  exact ⟨rfl, HB2.out⟩
set_option maxRecDepth 100000 in
theorem inss_h1 (v f : Value) (w : World) : Calls Tryz.prog 206 #[v, .int .i64 0, .int .i64 1, f] w fun e w' => e = .returned (.tuple #[]) ∧ Below w.heap.size w w' := by
  go_enter Tryz.func206, Tryz.ntmps206
  go_wp2
  refine wp_loop_rounds 1 ?_
  rw [rounds_succ]
  go_wp2
  go_end0
  exact ⟨rfl, Below.refl _ _⟩
set_option maxRecDepth 100000 in
theorem pdq_h1 (v f : Value) (k : Int) (w : World) : Calls Tryz.prog 165 #[v, .int .i64 0, .int .i64 1, .int .i64 k, f] w fun e w' => e = .returned (.tuple #[]) ∧ Below w.heap.size w w' := by
  have HC := Lib.hid (inss_h1 v f w)
  go_enter Tryz.func165, Tryz.ntmps165
  go_wp2
  refine wp_loop_rounds 1 ?_
  rw [rounds_succ]
  go_wp2_with fail
  with_reducible refine HC.out.mono ?_
  rintro e w2 ⟨rfl, hb2⟩
  dsimp only
  have HB2 := Lib.hid hb2
  clear hb2 HC
  go_wp2
  refine bodyPost_ret (results_none rfl _ _ _) rfl ?_
  exact ⟨rfl, HB2.out⟩
set_option maxRecDepth 100000 in
theorem inss_e0 (v f : Value) (w : World) : Calls Tryz.prog 261 #[v, .int .i64 0, .int .i64 0, f] w fun e w' => e = .returned (.tuple #[]) ∧ Below w.heap.size w w' := by
  go_enter Tryz.func261, Tryz.ntmps261
  go_wp2
  refine wp_loop_rounds 1 ?_
  rw [rounds_succ]
  go_wp2
  go_end0
  exact ⟨rfl, Below.refl _ _⟩
set_option maxRecDepth 100000 in
theorem pdq_e0 (v f : Value) (k : Int) (w : World) : Calls Tryz.prog 248 #[v, .int .i64 0, .int .i64 0, .int .i64 k, f] w fun e w' => e = .returned (.tuple #[]) ∧ Below w.heap.size w w' := by
  have HC := Lib.hid (inss_e0 v f w)
  go_enter Tryz.func248, Tryz.ntmps248
  go_wp2
  refine wp_loop_rounds 1 ?_
  rw [rounds_succ]
  go_wp2_with fail
  with_reducible refine HC.out.mono ?_
  rintro e w2 ⟨rfl, hb2⟩
  dsimp only
  have HB2 := Lib.hid hb2
  clear hb2 HC
  go_wp2
  refine bodyPost_ret (results_none rfl _ _ _) rfl ?_
  exact ⟨rfl, HB2.out⟩
set_option maxRecDepth 100000 in
theorem inss_e1 (v f : Value) (w : World) : Calls Tryz.prog 261 #[v, .int .i64 0, .int .i64 1, f] w fun e w' => e = .returned (.tuple #[]) ∧ Below w.heap.size w w' := by
  go_enter Tryz.func261, Tryz.ntmps261
  go_wp2
  refine wp_loop_rounds 1 ?_
  rw [rounds_succ]
  go_wp2
  go_end0
  exact ⟨rfl, Below.refl _ _⟩
set_option maxRecDepth 100000 in
theorem pdq_e1 (v f : Value) (k : Int) (w : World) : Calls Tryz.prog 248 #[v, .int .i64 0, .int .i64 1, .int .i64 k, f] w fun e w' => e = .returned (.tuple #[]) ∧ Below w.heap.size w w' := by
  have HC := Lib.hid (inss_e1 v f w)
  go_enter Tryz.func248, Tryz.ntmps248
  go_wp2
  refine wp_loop_rounds 1 ?_
  rw [rounds_succ]
  go_wp2_with fail
  with_reducible refine HC.out.mono ?_
  rintro e w2 ⟨rfl, hb2⟩
  dsimp only
  have HB2 := Lib.hid hb2
  clear hb2 HC
  go_wp2
  refine bodyPost_ret (results_none rfl _ _ _) rfl ?_
  exact ⟨rfl, HB2.out⟩
set_option maxRecDepth 100000 in
theorem sortf_h0 (f : Value) (w : World) : Calls Tryz.prog 105 #[.slice none 0 0, f] w fun e w' => e = .returned (.tuple #[]) ∧ Below w.heap.size w w' := by
  have HC := Lib.hid (blen_0 w)
  go_enter Tryz.func105, Tryz.ntmps105
  go_wp2_with fail
  with_reducible refine HC.out.mono ?_
  rintro e w2 ⟨k, rfl, hb2⟩
  dsimp only
  have HB2 := Lib.hid hb2
  clear hb2 HC
  have HC := Lib.hid (pdq_h0 (.slice none 0 0) f k w2)
  go_wp2_with fail
  with_reducible refine HC.out.mono ?_
  rintro e w3 ⟨rfl, hb3⟩
  dsimp only
  have HB3 := Lib.hid (HB2.out.trans (hb3.mono HB2.out.size))
  clear hb3 HC
  go_wp2
  go_end0
  exact ⟨rfl, HB3.out⟩
set_option maxRecDepth 100000 in
theorem sortf_h1 (ad : Option Addr) (cp : Nat) (f : Value) (w : World) : Calls Tryz.prog 105 #[.slice ad 1 cp, f] w fun e w' => e = .returned (.tuple #[]) ∧ Below w.heap.size w w' := by
  have HC := Lib.hid (blen_1 w)
  go_enter Tryz.func105, Tryz.ntmps105
  go_wp2_with fail
  with_reducible refine HC.out.mono ?_
  rintro e w2 ⟨k, rfl, hb2⟩
  dsimp only
  have HB2 := Lib.hid hb2
  clear hb2 HC
  have HC := Lib.hid (pdq_h1 (.slice ad 1 cp) f k w2)
  go_wp2_with fail
  with_reducible refine HC.out.mono ?_
  rintro e w3 ⟨rfl, hb3⟩
  dsimp only
  have HB3 := Lib.hid (HB2.out.trans (hb3.mono HB2.out.size))
  clear hb3 HC
  go_wp2
  go_end0
  exact ⟨rfl, HB3.out⟩
set_option maxRecDepth 100000 in
theorem sortf_e0 (f : Value) (w : World) : Calls Tryz.prog 217 #[.slice none 0 0, f] w fun e w' => e = .returned (.tuple #[]) ∧ Below w.heap.size w w' := by
  have HC := Lib.hid (blen_0 w)
  go_enter Tryz.func217, Tryz.ntmps217
  go_wp2_with fail
  with_reducible refine HC.out.mono ?_
  rintro e w2 ⟨k, rfl, hb2⟩
  dsimp only
  have HB2 := Lib.hid hb2
  clear hb2 HC
  have HC := Lib.hid (pdq_e0 (.slice none 0 0) f k w2)
  go_wp2_with fail
  with_reducible refine HC.out.mono ?_
  rintro e w3 ⟨rfl, hb3⟩
  dsimp only
  have HB3 := Lib.hid (HB2.out.trans (hb3.mono HB2.out.size))
  clear hb3 HC
  go_wp2
  go_end0
  exact ⟨rfl, HB3.out⟩
set_option maxRecDepth 100000 in
theorem sortf_e1 (ad : Option Addr) (cp : Nat) (f : Value) (w : World) : Calls Tryz.prog 217 #[.slice ad 1 cp, f] w fun e w' => e = .returned (.tuple #[]) ∧ Below w.heap.size w w' := by
  have HC := Lib.hid (blen_1 w)
  go_enter Tryz.func217, Tryz.ntmps217
  go_wp2_with fail
  with_reducible refine HC.out.mono ?_
  rintro e w2 ⟨k, rfl, hb2⟩
  dsimp only
  have HB2 := Lib.hid hb2
  clear hb2 HC
  have HC := Lib.hid (pdq_e1 (.slice ad 1 cp) f k w2)
  go_wp2_with fail
  with_reducible refine HC.out.mono ?_
  rintro e w3 ⟨rfl, hb3⟩
  dsimp only
  have HB3 := Lib.hid (HB2.out.trans (hb3.mono HB2.out.size))
  clear hb3 HC
  go_wp2
  go_end0
  exact ⟨rfl, HB3.out⟩
end Go.Proofs.YthnbnckmeffkmaaGreat
/- merkle.text. -/
namespace Go.Proofs.YthnbnckmeffkmaaGreat
open Go.RowKit Go.Lib
set_option linter.unusedVariables false
set_option linter.unusedSimpArgs false
attribute [local go_sem ↓] Go.wp_at_zero Go.wp_at_succ

/-- A slice whose object is none of the first ones. -/
def High (B : Nat) (v : Value) : Prop := ∀ a n k, v = .slice (some a) n k → B ≤ a.block
theorem High.mono {B B' : Nat} {v : Value} (h : High B v) (hb : B' ≤ B) : High B' v := fun a n k e => Nat.le_trans hb (h a n k e)

end Go.Proofs.YthnbnckmeffkmaaGreat
/- plexusref03.half, Size. -/
namespace Go.Proofs.YthnbnckmeffkmaaGreat
open Go.RowKit Go.Lib
set_option linter.unusedVariables false
set_option linter.unusedSimpArgs false
attribute [local go_sem ↓] Go.wp_at_zero Go.wp_at_succ

set_option maxRecDepth 100000 in
set_option maxHeartbeats 1600000 in
theorem half_any (n : Nat) (w : World) (hn : n ≤ 1048576) :
    Calls Tryz.prog 155 #[.int .i64 (n : Int)] w fun e w' => e = .returned (.int .i64 (half n : Nat)) ∧ w' = w := by
  go_enter Tryz.func155, Tryz.ntmps155
  go_wp2
  go_loopg [3] (n + 1) (fun g v3 wq => ∃ j k : Nat, v3 = .int .i64 (k : Int) ∧ Hid (k = 2 ^ j ∧ (k < n ∨ k = 1) ∧ g + k = n + 2) ∧ wq = w)
  case atStart => exact ⟨0, 1, rfl, ⟨rfl, .inr rfl, by omega⟩, rfl⟩
  case round =>
    obtain ⟨j, k, rfl, hr, rfl⟩ := hrel
    have HR := Lib.hid hr.out
    clear hr
    have hk : k ≤ 1048577 := by have := HR.out.2.1; omega
    have hw : IntKind.i64.wrap (2 * (k : Int)) = ((2 * k : Nat) : Int) := by rw [IntKind.wrap_i64]; omega
    by_cases hc : 2 * k < n
    · have hlt : 2 * (k : Int) < (n : Int) := by omega
      go_wp2
      go_roundg (n + 2 - 2 * k)
      case measure => have h := HR.out; have : 1 ≤ 2 ^ j := Nat.one_le_two_pow; omega
      case rel =>
        have h := HR.out
        exact ⟨j + 1, 2 * k, congrArg (Value.int .i64) (by omega), ⟨by rw [h.1, Nat.pow_succ]; omega, .inl hc, by omega⟩, rfl⟩
    · have hlt : ¬ 2 * (k : Int) < (n : Int) := by omega
      have he : half n = k := by
        have h := HR.out
        rcases h.2.1 with h1 | h1
        · rw [h.1] at h1 hc ⊢
          exact half_pow j n h1 (by omega)
        · subst h1; exact half_two n (by omega)
      have HE := Lib.hid he
      clear he
      go_wp2
      go_ret
      exact ⟨by rw [HE.out]; rfl, rfl⟩

theorem sizeDown_le (c : Nat) : ∀ n, n < c → sizeDown n c ≤ c := fun n h => by
  rw [← size_same c n h]; exact sizeUp_le c n
theorem path_below {w w1 : World} {g : Nat} {t : TypeId} {vs : List Value} (h : Arr w1 g t vs) (nq : Nat) : Arr (w1.drewN nq) g t vs := h
end Go.Proofs.YthnbnckmeffkmaaGreat
/- wire.Writer.put. -/
namespace Go.Proofs.YthnbnckmeffkmaaGreat
open Go.RowKit Go.Lib
set_option linter.unusedVariables false
set_option linter.unusedSimpArgs false
attribute [local go_sem ↓] Go.wp_at_zero Go.wp_at_succ

/-- A writer at block g: what it has written, and whether it is bad. -/
def WrM (w : World) (g : Nat) (L : List Nat) (bad : Bool) : Prop :=
  ∃ v, Arr w g 209 [v, .bool bad] ∧ w.ownsRow (g + 1) 5 1 v L.length (bys L)
set_option maxRecDepth 100000 in
set_option maxHeartbeats 1600000 in
theorem put_ok (g : Nat) (L M Z : List Nat) (hZ : L ++ M = Z) (u : Value) (w : World) (hw : WrM w g L false) (hy : Byts w u M) (hne : ∀ ad n c, u = .slice (some ad) n c → ad.block ≠ g) (hl : L.length + M.length ≤ 140737488355328) :
    Calls Tryz.prog 183 #[.pointer (some ⟨g, 0, none⟩), u, .bool true] w fun e w' => e = .returned (.pointer (some ⟨g, 0, none⟩)) ∧ WrM w' g Z false ∧ Below g w w' := by
  obtain ⟨v, ha, ho⟩ := hw
  have HZ := Lib.hid hZ
  have HA := Lib.hid ha
  have HO := Lib.hid ho
  have HY := Lib.hid hy
  have HL := Lib.hid hl
  have HG := Lib.hid (show g + 1 ≤ w.heap.size from ha.lt)
  clear hZ ho hy hl
  have hc0 := ha.cell 0
  have hc1 := ha.cell 1
  dsimp only [List.getElem?_cons_zero, List.getElem?_cons_succ] at hc0 hc1
  have hf1 := ha.frozen 1
  clear ha
  go_enter Tryz.func183, Tryz.ntmps183
  go_upto_region 5 with fail
  have HA2 := Lib.hid (show Arr (w.setCell ⟨g, 1, none⟩ (.bool false)) g 209 [v, .bool false] from HA.out.set 1 _)
  have HO2 := Lib.hid (ownsRow_setCell_below HO.out (a := ⟨g, 1, none⟩) (Nat.lt_succ_self g) (.bool false))
  have HY2 := Lib.hid (HY.out.setCell hne 1 (.bool false))
  have HB2 := Lib.hid (show Below g w (w.setCell ⟨g, 1, none⟩ (.bool false)) from (Below.refl g w).setCell (Nat.le_refl _) _)
  generalize World.setCell _ _ _ = w2 at *
  have hb0 := HA2.out.cell 0
  have hb1 := HA2.out.cell 1
  dsimp only [List.getElem?_cons_zero, List.getElem?_cons_succ] at hb0 hb1
  have HG2 := Lib.hid (show g + 1 ≤ w2.heap.size from HA2.out.lt)
  clear hc0 hc1 hf1 hne HA HO HY HG
  go_wp2_with (at_builtin; refine appB (g + 1) rfl (.tmp 29) (.tmp 30) 157 5 rfl Tryz.underlying157 infoB v u L M Z HZ.out rfl rfl HO2.out HY2.out HG2.out HL.out ?_)
  intro v4 w4 ho4 hb4 hg4
  obtain ⟨a4, n4, c4, rfl⟩ : ∃ a4 n4 c4, v4 = .slice a4 n4 c4 := by
    rcases ho4.out.2 with ⟨h, _⟩ | ⟨g', cap, cur, h, _⟩
    · exact ⟨_, _, _, h⟩
    · exact ⟨_, _, _, h⟩
  have hbb := hb4.out (g + 1) w2 (Below.refl _ _) (Nat.le_refl _)
  have HA4 := Lib.hid (HA2.out.below hbb (Nat.lt_succ_self g))
  have HO4 := Lib.hid ho4.out
  have HB4 := Lib.hid (hb4.out g w HB2.out (Nat.le_succ g))
  have hd0 := HA4.out.cell 0
  have hd1 := HA4.out.cell 1
  have hdf := HA4.out.frozen 0
  dsimp only [List.getElem?_cons_zero, List.getElem?_cons_succ] at hd0 hd1
  clear hb0 hb1 HA2 HO2 HY2 HB2 HG2 hbb ho4 hb4 hg4
  go_wp2
  go_ret
  refine ⟨rfl, ⟨_, HA4.out.set 0 _, ownsRow_setCell_below HO4.out (a := ⟨g, 0, none⟩) (Nat.lt_succ_self g) _⟩, HB4.out.setCell (Nat.le_refl _) _⟩
end Go.Proofs.YthnbnckmeffkmaaGreat
/- wire.Writer.Hash. -/
namespace Go.Proofs.YthnbnckmeffkmaaGreat
open Go.RowKit Go.Lib
set_option linter.unusedVariables false
set_option linter.unusedSimpArgs false
attribute [local go_sem ↓] Go.wp_at_zero Go.wp_at_succ

theorem WrM.lt {w : World} {g : Nat} {L : List Nat} {bad : Bool} (h : WrM w g L bad) : g < w.heap.size := by
  obtain ⟨v, ha, _⟩ := h
  exact ha.lt
theorem WrM.below {w w' : World} {g : Nat} {L : List Nat} {bad : Bool} (h : WrM w g L bad) (hb : Below w.heap.size w w') : WrM w' g L bad := by
  obtain ⟨v, ha, ho⟩ := h
  exact ⟨v, ha.below hb ha.lt, own_below ho hb⟩
set_option maxRecDepth 100000 in
set_option maxHeartbeats 1600000 in
theorem whash_ok (g : Nat) (L H Z : List Nat) (hZ : L ++ H = Z) (hH : IsH H) (w : World) (hw : WrM w g L false) (hl : L.length + 32 ≤ 140737488355328) :
    Calls Tryz.prog 126 #[.pointer (some ⟨g, 0, none⟩), .agg (bys H).toArray] w fun e w' => e = .returned (.pointer (some ⟨g, 0, none⟩)) ∧ WrM w' g Z false ∧ Below g w w' := by
  have HZ := Lib.hid hZ
  have HH := Lib.hid hH
  have HW := Lib.hid hw
  have HL := Lib.hid hl
  clear hZ hH hw hl
  go_enter Tryz.func126, Tryz.ntmps126
  go_upto_region 1 with fail
  have hb : Below w.heap.size w (w.alloc (.cells (bys H).toArray 24)) := (Below.refl _ _).alloc (Nat.le_refl _) _
  have ha := Arr.made w 24 (bys H)
  have HW1 := Lib.hid (HW.out.below hb)
  have HB1 := Lib.hid (hb.mono (Nat.le_of_lt HW.out.lt))
  have HY1 := Lib.hid (ha.byts HH.out.2 32 HH.out.1.symm (by unfold maxLen; omega))
  have HG := Lib.hid HW.out.lt
  generalize World.alloc _ _ = w1 at *
  clear hb ha HW
  go_wp2_with fail
  refine (put_ok g L H Z HZ.out _ w1 HW1.out HY1.out (fun ad n c e => by cases e; have := HG.out; show w.heap.size ≠ g; omega) (by rw [HH.out.1]; exact HL.out)).mono ?_
  rintro e w3 ⟨rfl, hw3, hb3⟩
  dsimp only
  have HW3 := Lib.hid hw3
  have HB3 := Lib.hid (HB1.out.trans hb3)
  clear hw3 hb3
  go_wp2
  go_ret
  exact ⟨rfl, HW3.out, HB3.out⟩
end Go.Proofs.YthnbnckmeffkmaaGreat
/- wire.Writer.put, where the writer is bad or turns bad. -/
namespace Go.Proofs.YthnbnckmeffkmaaGreat
open Go.RowKit Go.Lib
set_option linter.unusedVariables false
set_option linter.unusedSimpArgs false
attribute [local go_sem ↓] Go.wp_at_zero Go.wp_at_succ

set_option maxRecDepth 100000 in
set_option maxHeartbeats 1600000 in
theorem put_bad (g : Nat) (L : List Nat) (u : Value) (good bad : Bool) (w : World) (hw : WrM w g L bad) (hb : (bad || !good) = true) :
    Calls Tryz.prog 183 #[.pointer (some ⟨g, 0, none⟩), u, .bool good] w fun e w' => e = .returned (.pointer (some ⟨g, 0, none⟩)) ∧ WrM w' g L true ∧ Below g w w' := by
  obtain ⟨v, ha, ho⟩ := hw
  have HA := Lib.hid ha
  have HO := Lib.hid ho
  clear ho
  have hc1 := ha.cell 1
  dsimp only [List.getElem?_cons_zero, List.getElem?_cons_succ] at hc1
  have hf1 := ha.frozen 1
  clear ha
  have hfin : WrM (w.setCell ⟨g, 1, none⟩ (.bool true)) g L true := ⟨v, HA.out.set 1 _, ownsRow_setCell_below HO.out (a := ⟨g, 1, none⟩) (Nat.lt_succ_self g) _⟩
  have HF := Lib.hid hfin
  have HB := Lib.hid (show Below g w (w.setCell ⟨g, 1, none⟩ (.bool true)) from (Below.refl g w).setCell (Nat.le_refl _) _)
  have hd1 : (w.setCell ⟨g, 1, none⟩ (.bool true)).cell? ⟨g, 1, none⟩ = some (.bool true) := (HA.out.set 1 (.bool true)).cell 1
  clear hfin HA HO
  go_enter Tryz.func183, Tryz.ntmps183
  cases bad
  · cases good
    · go_wp2
      go_ret
      exact ⟨rfl, HF.out, HB.out⟩
    · cases hb
  · clear hb
    go_wp2
    go_ret
    exact ⟨rfl, HF.out, HB.out⟩
end Go.Proofs.YthnbnckmeffkmaaGreat
/- wire.whole. -/
namespace Go.Proofs.YthnbnckmeffkmaaGreat
open Go.RowKit Go.Lib
set_option linter.unusedVariables false
set_option linter.unusedSimpArgs false
attribute [local go_sem ↓] Go.wp_at_zero Go.wp_at_succ

set_option maxRecDepth 100000 in
set_option maxHeartbeats 1600000 in
theorem whole_any (n : Int) (w : World) (h : n = 1 ∨ n = 2 ∨ n = 4 ∨ n = 8) :
    Calls Tryz.prog 184 #[.int .i64 n] w fun e w' => e = .returned (.bool true) ∧ w' = w := by
  rcases h with rfl | rfl | rfl | rfl
  · go_enter Tryz.func184, Tryz.ntmps184
    go_wp2
    go_ret
    exact ⟨rfl, rfl⟩
  · go_enter Tryz.func184, Tryz.ntmps184
    go_wp2
    go_ret
    exact ⟨rfl, rfl⟩
  · go_enter Tryz.func184, Tryz.ntmps184
    go_wp2
    go_ret
    exact ⟨rfl, rfl⟩
  · go_enter Tryz.func184, Tryz.ntmps184
    go_wp2
    go_ret
    exact ⟨rfl, rfl⟩
end Go.Proofs.YthnbnckmeffkmaaGreat
/- wire.number. -/
namespace Go.Proofs.YthnbnckmeffkmaaGreat
open Go.RowKit Go.Lib
set_option linter.unusedVariables false
set_option linter.unusedSimpArgs false
attribute [local go_sem ↓] Go.wp_at_zero Go.wp_at_succ

theorem bys_next_le (L : List Nat) (i n : Nat) (hL : n ≤ L.length) (hn : i < n) (v : Value) : (bys (L.take i) ++ List.replicate (n - i) v)[i]? = some v := by
  have e1 : (bys (L.take i)).length = i := by simp [bys]; omega
  rw [List.getElem?_append_right (by omega), e1, Nat.sub_self, List.getElem?_replicate, if_pos (by omega)]

set_option maxRecDepth 100000 in
set_option maxHeartbeats 1600000 in
theorem wnumber8_any (n : Nat) (w : World) (hn : n ≤ 18446744073709551615) :
    Calls Tryz.prog 185 #[.int .u64 n, .int .i64 8] w fun e w' => ∃ v', e = .returned v' ∧ Byts w' v' (le8 n) ∧ Low w' v' ∧ (∀ ad n c, v' = .slice (some ad) n c → w.heap.size ≤ ad.block) ∧ Below w.heap.size w w' := by
  have HN := Lib.hid hn
  have hmk : ∀ w, (Instr.makeSlice 157 (.int .i64 8) (.int .i64 8)).run Tryz.prog w = .ok (.slice (some ⟨w.heap.size, 0, none⟩) 8 8) (w.alloc (.cells #[.int .u8 0, .int .u8 0, .int .u8 0, .int .u8 0, .int .u8 0, .int .u8 0, .int .u8 0, .int .u8 0] 5)) := fun _ => by kernel_rfl
  clear hn
  go_enter Tryz.func185, Tryz.ntmps185
  go_upto_region 2 with fail
  have ha : Arr (w.alloc (.cells #[.int .u8 0, .int .u8 0, .int .u8 0, .int .u8 0, .int .u8 0, .int .u8 0, .int .u8 0, .int .u8 0] 5)) w.heap.size 5 (bys ((le8 n).take 0) ++ List.replicate (8 - 0) (.int .u8 0)) := Arr.made w _ _
  have hb : Below w.heap.size w (w.alloc (.cells #[.int .u8 0, .int .u8 0, .int .u8 0, .int .u8 0, .int .u8 0, .int .u8 0, .int .u8 0, .int .u8 0] 5)) := (Below.refl _ _).alloc (Nat.le_refl _) _
  have HA := Lib.hid ha
  have HB := Lib.hid hb
  clear ha hb hmk
  generalize World.alloc _ _ = w1 at *
  go_wp2
  obtain ⟨nz, hnz⟩ : ∃ nz : Int, (n : Int) = nz := ⟨_, rfl⟩
  have HNz := Lib.hid hnz
  have hn0 : 0 ≤ nz := by omega
  have hn1 : nz ≤ 18446744073709551615 := by have := HN.out; omega
  rw [hnz]
  clear hnz
  go_loopg [6, 11] 8 (fun g vi vn wq => ∃ k : Nat, Hid (g + k = 8) ∧ vn = .int .i64 (k : Int) ∧ Hid (Arr wq w.heap.size 5 (bys ((le8 n).take k) ++ List.replicate (8 - k) (.int .u8 0))) ∧ Hid (Below w.heap.size w wq))
  case atStart => exact ⟨0, rfl, rfl, HA.out, HB.out⟩
  case round =>
    obtain ⟨k, hk, rfl, ha, hb⟩ := hrel
    have HK := Lib.hid hk.out
    have HAq := Lib.hid ha.out
    have HBq := Lib.hid hb.out
    clear hk ha hb HA HB
    cases gk with
    | zero =>
      have hlt : ¬ ((k : Int) < 8) := by have := HK.out; omega
      have hA := HAq.out
      rw [show k = 8 by have := HK.out; omega, Nat.sub_self, List.replicate_zero, List.append_nil, show (le8 n).take 8 = le8 n from rfl] at hA
      have HA8 := Lib.hid hA
      clear hA
      go_wp2
      go_ret
      exact ⟨_, rfl, HA8.out.byts (le8_lt n) 8 rfl (by unfold maxLen; omega), HA8.out.low 8 8, fun ad n c e => by cases e; exact Nat.le_refl _, HBq.out⟩
    | succ g =>
      have hk8 : k < 8 := by have := HK.out; omega
      obtain ⟨z, hz⟩ : ∃ z : Int, (k : Int) = z := ⟨_, rfl⟩
      have hcl := (HAq.out.cell k).trans (bys_next (le8 n) k 8 rfl hk8 _)
      have hfr := HAq.out.frozen k
      have hlt : z < 8 := by omega
      have iz : 0 ≤ z := by omega
      have hkz : k = z.toNat := by omega
      rw [hkz] at hcl hfr
      have HZ := Lib.hid hz
      have HKz := Lib.hid hkz
      rw [hz]
      clear hz hkz hk8
      go_wp2
      rw [show nz / 2 ^ (8 * z).toNat % 256 = ((n / 2 ^ (8 * k) % 256 : Nat) : Int) by rw [show (8 * z).toNat = 8 * k by have := HZ.out; omega, ← HNz.out]; simp]
      go_roundg g
      case measure => omega
      case rel =>
        refine ⟨k + 1, by show _ = _; have := HK.out; omega, by have := HZ.out; congr 1; omega, ?_, HBq.out.setCell (Nat.le_refl _) _⟩
        show Arr _ _ _ _
        rw [← HKz.out, ← bys_step (le8 n) k 8 _ (le8_at n k (by have := HK.out; omega)) (by have := HK.out; omega)]
        exact HAq.out.set _ _

set_option maxRecDepth 100000 in
set_option maxHeartbeats 1600000 in
theorem wnumber4_any (n : Nat) (w : World) (hn : n ≤ 18446744073709551615) :
    Calls Tryz.prog 185 #[.int .u64 n, .int .i64 4] w fun e w' => ∃ v', e = .returned v' ∧ Byts w' v' ((le8 n).take 4) ∧ Low w' v' ∧ (∀ ad n c, v' = .slice (some ad) n c → w.heap.size ≤ ad.block) ∧ Below w.heap.size w w' := by
  have HN := Lib.hid hn
  have hmk : ∀ w, (Instr.makeSlice 157 (.int .i64 4) (.int .i64 4)).run Tryz.prog w = .ok (.slice (some ⟨w.heap.size, 0, none⟩) 4 4) (w.alloc (.cells #[.int .u8 0, .int .u8 0, .int .u8 0, .int .u8 0] 5)) := fun _ => by kernel_rfl
  clear hn
  go_enter Tryz.func185, Tryz.ntmps185
  go_upto_region 2 with fail
  have ha : Arr (w.alloc (.cells #[.int .u8 0, .int .u8 0, .int .u8 0, .int .u8 0] 5)) w.heap.size 5 (bys ((le8 n).take 0) ++ List.replicate (4 - 0) (.int .u8 0)) := Arr.made w _ _
  have hb : Below w.heap.size w (w.alloc (.cells #[.int .u8 0, .int .u8 0, .int .u8 0, .int .u8 0] 5)) := (Below.refl _ _).alloc (Nat.le_refl _) _
  have HA := Lib.hid ha
  have HB := Lib.hid hb
  clear ha hb hmk
  generalize World.alloc _ _ = w1 at *
  go_wp2
  obtain ⟨nz, hnz⟩ : ∃ nz : Int, (n : Int) = nz := ⟨_, rfl⟩
  have HNz := Lib.hid hnz
  have hn0 : 0 ≤ nz := by omega
  have hn1 : nz ≤ 18446744073709551615 := by have := HN.out; omega
  rw [hnz]
  clear hnz
  go_loopg [6, 11] 4 (fun g vi vn wq => ∃ k : Nat, Hid (g + k = 4) ∧ vn = .int .i64 (k : Int) ∧ Hid (Arr wq w.heap.size 5 (bys ((le8 n).take k) ++ List.replicate (4 - k) (.int .u8 0))) ∧ Hid (Below w.heap.size w wq))
  case atStart => exact ⟨0, rfl, rfl, HA.out, HB.out⟩
  case round =>
    obtain ⟨k, hk, rfl, ha, hb⟩ := hrel
    have HK := Lib.hid hk.out
    have HAq := Lib.hid ha.out
    have HBq := Lib.hid hb.out
    clear hk ha hb HA HB
    cases gk with
    | zero =>
      have hlt : ¬ ((k : Int) < 4) := by have := HK.out; omega
      have hA := HAq.out
      rw [show k = 4 by have := HK.out; omega, Nat.sub_self, List.replicate_zero, List.append_nil] at hA
      have HA8 := Lib.hid hA
      clear hA
      go_wp2
      go_ret
      exact ⟨_, rfl, HA8.out.byts (fun x hx => le8_lt n x (List.mem_of_mem_take hx)) 4 rfl (by unfold maxLen; omega), HA8.out.low 4 4, fun ad n c e => by cases e; exact Nat.le_refl _, HBq.out⟩
    | succ g =>
      have hk8 : k < 4 := by have := HK.out; omega
      obtain ⟨z, hz⟩ : ∃ z : Int, (k : Int) = z := ⟨_, rfl⟩
      have hcl := (HAq.out.cell k).trans (bys_next_le (le8 n) k 4 (by simp [le8]) hk8 _)
      have hfr := HAq.out.frozen k
      have hlt : z < 4 := by omega
      have iz : 0 ≤ z := by omega
      have hkz : k = z.toNat := by omega
      rw [hkz] at hcl hfr
      have HZ := Lib.hid hz
      have HKz := Lib.hid hkz
      rw [hz]
      clear hz hkz hk8
      go_wp2
      rw [show nz / 2 ^ (8 * z).toNat % 256 = ((n / 2 ^ (8 * k) % 256 : Nat) : Int) by rw [show (8 * z).toNat = 8 * k by have := HZ.out; omega, ← HNz.out]; simp]
      go_roundg g
      case measure => omega
      case rel =>
        refine ⟨k + 1, by show _ = _; have := HK.out; omega, by have := HZ.out; congr 1; omega, ?_, HBq.out.setCell (Nat.le_refl _) _⟩
        show Arr _ _ _ _
        rw [← HKz.out, ← bys_step (le8 n) k 4 _ (le8_at n k (by have := HK.out; omega)) (by have := HK.out; omega)]
        exact HAq.out.set _ _

set_option maxRecDepth 100000 in
set_option maxHeartbeats 1600000 in
theorem wnumber2_any (n : Nat) (w : World) (hn : n ≤ 18446744073709551615) :
    Calls Tryz.prog 185 #[.int .u64 n, .int .i64 2] w fun e w' => ∃ v', e = .returned v' ∧ Byts w' v' ((le8 n).take 2) ∧ Low w' v' ∧ (∀ ad n c, v' = .slice (some ad) n c → w.heap.size ≤ ad.block) ∧ Below w.heap.size w w' := by
  have HN := Lib.hid hn
  have hmk : ∀ w, (Instr.makeSlice 157 (.int .i64 2) (.int .i64 2)).run Tryz.prog w = .ok (.slice (some ⟨w.heap.size, 0, none⟩) 2 2) (w.alloc (.cells #[.int .u8 0, .int .u8 0] 5)) := fun _ => by kernel_rfl
  clear hn
  go_enter Tryz.func185, Tryz.ntmps185
  go_upto_region 2 with fail
  have ha : Arr (w.alloc (.cells #[.int .u8 0, .int .u8 0] 5)) w.heap.size 5 (bys ((le8 n).take 0) ++ List.replicate (2 - 0) (.int .u8 0)) := Arr.made w _ _
  have hb : Below w.heap.size w (w.alloc (.cells #[.int .u8 0, .int .u8 0] 5)) := (Below.refl _ _).alloc (Nat.le_refl _) _
  have HA := Lib.hid ha
  have HB := Lib.hid hb
  clear ha hb hmk
  generalize World.alloc _ _ = w1 at *
  go_wp2
  obtain ⟨nz, hnz⟩ : ∃ nz : Int, (n : Int) = nz := ⟨_, rfl⟩
  have HNz := Lib.hid hnz
  have hn0 : 0 ≤ nz := by omega
  have hn1 : nz ≤ 18446744073709551615 := by have := HN.out; omega
  rw [hnz]
  clear hnz
  go_loopg [6, 11] 2 (fun g vi vn wq => ∃ k : Nat, Hid (g + k = 2) ∧ vn = .int .i64 (k : Int) ∧ Hid (Arr wq w.heap.size 5 (bys ((le8 n).take k) ++ List.replicate (2 - k) (.int .u8 0))) ∧ Hid (Below w.heap.size w wq))
  case atStart => exact ⟨0, rfl, rfl, HA.out, HB.out⟩
  case round =>
    obtain ⟨k, hk, rfl, ha, hb⟩ := hrel
    have HK := Lib.hid hk.out
    have HAq := Lib.hid ha.out
    have HBq := Lib.hid hb.out
    clear hk ha hb HA HB
    cases gk with
    | zero =>
      have hlt : ¬ ((k : Int) < 2) := by have := HK.out; omega
      have hA := HAq.out
      rw [show k = 2 by have := HK.out; omega, Nat.sub_self, List.replicate_zero, List.append_nil] at hA
      have HA8 := Lib.hid hA
      clear hA
      go_wp2
      go_ret
      exact ⟨_, rfl, HA8.out.byts (fun x hx => le8_lt n x (List.mem_of_mem_take hx)) 2 rfl (by unfold maxLen; omega), HA8.out.low 2 2, fun ad n c e => by cases e; exact Nat.le_refl _, HBq.out⟩
    | succ g =>
      have hk8 : k < 2 := by have := HK.out; omega
      obtain ⟨z, hz⟩ : ∃ z : Int, (k : Int) = z := ⟨_, rfl⟩
      have hcl := (HAq.out.cell k).trans (bys_next_le (le8 n) k 2 (by simp [le8]) hk8 _)
      have hfr := HAq.out.frozen k
      have hlt : z < 2 := by omega
      have iz : 0 ≤ z := by omega
      have hkz : k = z.toNat := by omega
      rw [hkz] at hcl hfr
      have HZ := Lib.hid hz
      have HKz := Lib.hid hkz
      rw [hz]
      clear hz hkz hk8
      go_wp2
      rw [show nz / 2 ^ (8 * z).toNat % 256 = ((n / 2 ^ (8 * k) % 256 : Nat) : Int) by rw [show (8 * z).toNat = 8 * k by have := HZ.out; omega, ← HNz.out]; simp]
      go_roundg g
      case measure => omega
      case rel =>
        refine ⟨k + 1, by show _ = _; have := HK.out; omega, by have := HZ.out; congr 1; omega, ?_, HBq.out.setCell (Nat.le_refl _) _⟩
        show Arr _ _ _ _
        rw [← HKz.out, ← bys_step (le8 n) k 2 _ (le8_at n k (by have := HK.out; omega)) (by have := HK.out; omega)]
        exact HAq.out.set _ _

end Go.Proofs.YthnbnckmeffkmaaGreat
/- wire.Writer.Number. -/
namespace Go.Proofs.YthnbnckmeffkmaaGreat
open Go.RowKit Go.Lib
set_option linter.unusedVariables false
set_option linter.unusedSimpArgs false
attribute [local go_sem ↓] Go.wp_at_zero Go.wp_at_succ

set_option maxRecDepth 100000 in
set_option maxHeartbeats 1600000 in
theorem wnum8_ok (g n : Nat) (L Z : List Nat) (hZ : L ++ le8 n = Z) (w : World) (hw : WrM w g L false) (hn : n ≤ 18446744073709551615) (hl : L.length + 8 ≤ 140737488355328) :
    Calls Tryz.prog 127 #[.pointer (some ⟨g, 0, none⟩), .int .u64 n, .int .i64 8] w fun e w' => e = .returned (.pointer (some ⟨g, 0, none⟩)) ∧ WrM w' g Z false ∧ Below g w w' := by
  have HZ := Lib.hid hZ
  have HW := Lib.hid hw
  have HL := Lib.hid hl
  have HN := Lib.hid (show n ≤ 18446744073709551615 by omega)
  clear hZ hw hl hn
  go_enter Tryz.func127, Tryz.ntmps127
  go_wp2_with fail
  refine (whole_any 8 w (by omega)).mono ?_
  rintro e w1 ⟨rfl, rfl⟩
  dsimp only
  go_wp2_with fail
  refine (wnumber8_any n w1 HN.out).mono ?_
  rintro e w2 ⟨v2, rfl, hy2, hl2, hq2, hb2⟩
  dsimp only
  have HW2 := Lib.hid (HW.out.below hb2)
  have HY2 := Lib.hid hy2
  have HB2 := Lib.hid (hb2.mono (Nat.le_of_lt HW.out.lt))
  have HQ2 := Lib.hid (show ∀ ad n c, v2 = .slice (some ad) n c → ad.block ≠ g from fun ad n c e => by have := hq2 ad n c e; have := HW.out.lt; omega)
  have HLz := Lib.hid (show L.length + (le8 n).length ≤ 140737488355328 by have := HL.out; simp [le8]; omega)
  clear hy2 hl2 hb2 hq2
  go_wp2_with fail
  refine (put_ok g L (le8 n) Z HZ.out v2 w2 HW2.out HY2.out HQ2.out HLz.out).mono ?_
  rintro e w3 ⟨rfl, hw3, hb3⟩
  dsimp only
  have HW3 := Lib.hid hw3
  have HB3 := Lib.hid (HB2.out.trans hb3)
  clear hw3 hb3
  go_wp2
  go_ret
  exact ⟨rfl, HW3.out, HB3.out⟩

set_option maxRecDepth 100000 in
set_option maxHeartbeats 1600000 in
theorem wnum4_ok (g n : Nat) (L Z : List Nat) (hZ : L ++ (le8 n).take 4 = Z) (w : World) (hw : WrM w g L false) (hn : n ≤ 4294967295) (hl : L.length + 4 ≤ 140737488355328) :
    Calls Tryz.prog 127 #[.pointer (some ⟨g, 0, none⟩), .int .u64 n, .int .i64 4] w fun e w' => e = .returned (.pointer (some ⟨g, 0, none⟩)) ∧ WrM w' g Z false ∧ Below g w w' := by
  have HZ := Lib.hid hZ
  have HW := Lib.hid hw
  have HL := Lib.hid hl
  have HN := Lib.hid (show n ≤ 18446744073709551615 by omega)
  have hsh : (n : Int) / 4294967296 = 0 := by omega
  clear hZ hw hl hn
  go_enter Tryz.func127, Tryz.ntmps127
  go_wp2_with fail
  refine (whole_any 4 w (by omega)).mono ?_
  rintro e w1 ⟨rfl, rfl⟩
  dsimp only
  go_wp2_with fail
  refine (wnumber4_any n w1 HN.out).mono ?_
  rintro e w2 ⟨v2, rfl, hy2, hl2, hq2, hb2⟩
  dsimp only
  have HW2 := Lib.hid (HW.out.below hb2)
  have HY2 := Lib.hid hy2
  have HB2 := Lib.hid (hb2.mono (Nat.le_of_lt HW.out.lt))
  have HQ2 := Lib.hid (show ∀ ad n c, v2 = .slice (some ad) n c → ad.block ≠ g from fun ad n c e => by have := hq2 ad n c e; have := HW.out.lt; omega)
  have HLz := Lib.hid (show L.length + ((le8 n).take 4).length ≤ 140737488355328 by have := HL.out; simp [le8]; omega)
  clear hy2 hl2 hb2 hq2
  go_wp2_with fail
  refine (put_ok g L ((le8 n).take 4) Z HZ.out v2 w2 HW2.out HY2.out HQ2.out HLz.out).mono ?_
  rintro e w3 ⟨rfl, hw3, hb3⟩
  dsimp only
  have HW3 := Lib.hid hw3
  have HB3 := Lib.hid (HB2.out.trans hb3)
  clear hw3 hb3
  go_wp2
  go_ret
  exact ⟨rfl, HW3.out, HB3.out⟩

set_option maxRecDepth 100000 in
set_option maxHeartbeats 1600000 in
theorem wnum2_ok (g n : Nat) (L Z : List Nat) (hZ : L ++ (le8 n).take 2 = Z) (w : World) (hw : WrM w g L false) (hn : n ≤ 65535) (hl : L.length + 2 ≤ 140737488355328) :
    Calls Tryz.prog 127 #[.pointer (some ⟨g, 0, none⟩), .int .u64 n, .int .i64 2] w fun e w' => e = .returned (.pointer (some ⟨g, 0, none⟩)) ∧ WrM w' g Z false ∧ Below g w w' := by
  have HZ := Lib.hid hZ
  have HW := Lib.hid hw
  have HL := Lib.hid hl
  have HN := Lib.hid (show n ≤ 18446744073709551615 by omega)
  have hsh : (n : Int) / 65536 = 0 := by omega
  clear hZ hw hl hn
  go_enter Tryz.func127, Tryz.ntmps127
  go_wp2_with fail
  refine (whole_any 2 w (by omega)).mono ?_
  rintro e w1 ⟨rfl, rfl⟩
  dsimp only
  go_wp2_with fail
  refine (wnumber2_any n w1 HN.out).mono ?_
  rintro e w2 ⟨v2, rfl, hy2, hl2, hq2, hb2⟩
  dsimp only
  have HW2 := Lib.hid (HW.out.below hb2)
  have HY2 := Lib.hid hy2
  have HB2 := Lib.hid (hb2.mono (Nat.le_of_lt HW.out.lt))
  have HQ2 := Lib.hid (show ∀ ad n c, v2 = .slice (some ad) n c → ad.block ≠ g from fun ad n c e => by have := hq2 ad n c e; have := HW.out.lt; omega)
  have HLz := Lib.hid (show L.length + ((le8 n).take 2).length ≤ 140737488355328 by have := HL.out; simp [le8]; omega)
  clear hy2 hl2 hb2 hq2
  go_wp2_with fail
  refine (put_ok g L ((le8 n).take 2) Z HZ.out v2 w2 HW2.out HY2.out HQ2.out HLz.out).mono ?_
  rintro e w3 ⟨rfl, hw3, hb3⟩
  dsimp only
  have HW3 := Lib.hid hw3
  have HB3 := Lib.hid (HB2.out.trans hb3)
  clear hw3 hb3
  go_wp2
  go_ret
  exact ⟨rfl, HW3.out, HB3.out⟩
end Go.Proofs.YthnbnckmeffkmaaGreat
