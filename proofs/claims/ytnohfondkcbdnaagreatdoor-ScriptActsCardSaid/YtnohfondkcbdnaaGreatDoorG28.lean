/- How acts, transactions, inputs and outputs read as arguments. -/
import Derived.Test.YtnohfondkcbdnaaGreatDoorG11
import Derived.WalkKit
import Derived.ProofKit
import Derived.LaidMore
import Derived.OpenShut
import Derived.ShutString
import Derived.ChangeOld
import Derived.Below
import Derived.Deep.Slices
import Derived.WideShapes
import Derived.Test.YtnohfondkcbdnaaGreatDoorG27
import Derived.Test.YtnohfondkcbdnaaGreatDoorRows
import Derived.Lib.LaidTab
namespace Go.Proofs.YtnohfondkcbdnaaGreatDoor
open Go.RowKit Go.Lib
open Go.ChangeShapes Go.WideShapes Go.ChangeAt Go.WideMaps Go.WideElems
set_option linter.unusedVariables false
set_option linter.unusedSimpArgs false

section
variable {H : Type} {enc : TypeId × Value → H} {w : World} {base : Nat} {held : Bool}
theorem co_act : Tryz.prog.cellsOf 30 = 40 := by kernel_rfl
theorem co_kind : Tryz.prog.cellsOf 22 = 1 := by kernel_rfl
theorem co_u8s : Tryz.prog.cellsOf 23 = 1 := by kernel_rfl
theorem co_hash : Tryz.prog.cellsOf 25 = 32 := by kernel_rfl
theorem co_u64 : Tryz.prog.cellsOf 26 = 1 := by kernel_rfl
theorem co_u32 : Tryz.prog.cellsOf 71 = 1 := by kernel_rfl
theorem co_ints : Tryz.prog.cellsOf 27 = 1 := by kernel_rfl
theorem co_txs : Tryz.prog.cellsOf 28 = 1 := by kernel_rfl
theorem co_int : Tryz.prog.cellsOf 3 = 1 := by kernel_rfl
theorem co_bool : Tryz.prog.cellsOf 4 = 1 := by kernel_rfl
theorem co_tx : Tryz.prog.cellsOf 53 = 3 := by kernel_rfl
theorem co_ins : Tryz.prog.cellsOf 50 = 1 := by kernel_rfl
theorem co_outs : Tryz.prog.cellsOf 51 = 1 := by kernel_rfl
theorem co_in : Tryz.prog.cellsOf 75 = 34 := by kernel_rfl
theorem co_out : Tryz.prog.cellsOf 88 = 33 := by kernel_rfl
theorem co_op : Tryz.prog.cellsOf 73 = 33 := by kernel_rfl
theorem co_u8 : Tryz.prog.cellsOf 5 = 1 := by kernel_rfl
theorem bd_u8 {n : Int} (h : (Lit.int .u8 n).wf = true) : 0 ≤ n ∧ n ≤ 255 := by
  unfold Lit.wf at h
  rw [Bool.and_eq_true, decide_eq_true_eq, decide_eq_true_eq] at h
  have e1 : IntKind.u8.min = 0 := by decide
  have e2 : IntKind.u8.max = 255 := by decide
  rw [e1, e2] at h
  exact h
theorem bd_u32 {n : Int} (h : (Lit.int .u32 n).wf = true) : 0 ≤ n ∧ n ≤ 4294967295 := by
  unfold Lit.wf at h
  rw [Bool.and_eq_true, decide_eq_true_eq, decide_eq_true_eq] at h
  have e1 : IntKind.u32.min = 0 := by decide
  have e2 : IntKind.u32.max = 4294967295 := by decide
  rw [e1, e2] at h
  exact h
theorem bd_u64 {n : Int} (h : (Lit.int .u64 n).wf = true) : 0 ≤ n ∧ n ≤ 18446744073709551615 := by
  unfold Lit.wf at h
  rw [Bool.and_eq_true, decide_eq_true_eq, decide_eq_true_eq] at h
  have e1 : IntKind.u64.min = 0 := by decide
  have e2 : IntKind.u64.max = 18446744073709551615 := by decide
  rw [e1, e2] at h
  exact h
theorem bd_i64 {n : Int} (h : (Lit.int .i64 n).wf = true) : -9223372036854775808 ≤ n ∧ n ≤ 9223372036854775807 := by
  unfold Lit.wf at h
  rw [Bool.and_eq_true, decide_eq_true_eq, decide_eq_true_eq] at h
  have e1 : IntKind.i64.min = -9223372036854775808 := by decide
  have e2 : IntKind.i64.max = 9223372036854775807 := by decide
  rw [e1, e2] at h
  exact h
theorem add_sp (b o j : Nat) : (⟨b, o, none⟩ : Addr).add j = ⟨b, o + j, none⟩ := by
  unfold Addr.add
  split <;> simp_all
theorem take_one {cs : List Value} {i : Nat} {v : Value} (h : (cs.drop i).take 1 = [v]) : cs[i]? = some v := by
  have h9 : ((cs.drop i).take 1)[0]? = some v := by rw [h]; rfl
  rw [List.getElem?_take_of_lt (by omega), List.getElem?_drop, Nat.add_zero] at h9
  exact h9
theorem one_at {cs : List Value} {i : Nat} {v : Value} (h : cs[i]? = some v) : (cs.drop i).take 1 = [v] := by
  have hi := (List.getElem?_eq_some_iff.1 h).1
  apply List.ext_getElem?
  intro j
  match j with
  | 0 => rw [List.getElem?_take_of_lt (by omega), List.getElem?_drop, Nat.add_zero, h]; rfl
  | j + 1 => rw [List.getElem?_eq_none (by rw [List.length_take]; omega)]; rfl
theorem split_at (cs : List Value) (o n : Nat) : cs.drop o = (cs.drop o).take n ++ cs.drop (o + n) := by
  conv => lhs; rw [← List.take_append_drop n (cs.drop o)]
  rw [List.drop_drop]
theorem hash_of {fuel : Nat} {cs : List Value} {x : DataW H × List MemPlace} {sp : Nat → Bool} (h : DataW.trod enc Tryz.prog w base sp held fuel 25 cs = some x) : ∃ L, IsH L ∧ cs = bys L := by
  obtain ⟨xs, m, _, _, hl, hlx, hf⟩ := DataW.trod_array Tryz.underlying25 h
  rw [co_hash] at hl
  have hc : ∀ i, i < 32 → ∃ n : Int, cs[i]? = some (.int .u8 n) ∧ 0 ≤ n ∧ n ≤ 255 := by
    intro i hi
    have h1 := hf i hi
    rw [co_u8, Nat.mul_one, List.getElem?_eq_getElem (by omega)] at h1
    obtain ⟨n, e, _, hw⟩ := DataW.trod_int Tryz.underlying5 h1
    refine ⟨n, take_one e, ?_⟩
    exact bd_u8 hw
  refine ⟨cs.map (fun v => match v with | .int _ n => n.toNat | _ => 0), ⟨by rw [List.length_map, hl], fun y hy => ?_⟩, ?_⟩
  · obtain ⟨v, hv, rfl⟩ := List.mem_map.1 hy
    obtain ⟨i, hi⟩ := List.mem_iff_getElem?.1 hv
    have hil := (List.getElem?_eq_some_iff.1 hi).1
    obtain ⟨n, e, h0, h1⟩ := hc i (by omega)
    rw [hi] at e
    cases e
    show n.toNat < 256
    omega
  · apply List.ext_getElem?
    intro i
    rcases Nat.lt_or_ge i 32 with hi | hi
    · obtain ⟨n, e, h0, h1⟩ := hc i hi
      unfold bys
      rw [List.getElem?_map, List.getElem?_map, e]
      show some _ = some (Value.int .u8 ((n.toNat : Nat) : Int))
      rw [Int.toNat_of_nonneg h0]
    · rw [List.getElem?_eq_none (by omega), List.getElem?_eq_none (by unfold bys; rw [List.length_map, List.length_map]; omega)]
/-- Bytes. -/
theorem byts_of {fuel : Nat} {v : Value} {x : DataW H × List MemPlace} {sp : Nat → Bool} (h : DataW.trod enc Tryz.prog w base sp held fuel 23 [v] = some x) : ∃ L, Byts w v L := by
  rcases Go.Deep.open_slice1 Tryz.underlying23 co_u8 h with ⟨e, _⟩ | ⟨a, len, cap, m, n, V, D, Pl, e, hb, hl, hm, hmm, _, hx⟩
  · cases e
    exact ⟨[], Byts.nil w⟩
  · cases e
    have hlm : len ≤ m := by rw [hmm]; split <;> omega
    obtain ⟨F, hF⟩ := Go.Deep.choose_lt (α := Nat) (p := fun i y => y < 256 ∧ w.cell? (a.add i) = some (.int .u8 (y : Int))) (n := len) (fun i hi => by
      obtain ⟨h1, h2⟩ := hx i (by omega)
      obtain ⟨z, e, _, hw⟩ := DataW.trod_int Tryz.underlying5 h2
      have hb := bd_u8 hw
      have e1 : V i = .int .u8 z := by simpa using e
      refine ⟨z.toNat, by omega, ?_⟩
      rw [h1, e1, Int.toNat_of_nonneg hb.1])
    refine ⟨(List.range len).map F, fun y hy => ?_, .inr ⟨a, cap, by simp, by simpa using hl, hm, fun j hj => ?_⟩⟩
    · obtain ⟨i, hi, rfl⟩ := List.mem_map.1 hy
      exact (hF i (List.mem_range.1 hi)).1
    · rw [List.length_map, List.length_range] at hj
      have : ((List.range len).map F).getD j 0 = F j := by simp [List.getD, hj]
      rw [this]
      exact (hF j hj).2
/-- A slice whose elements read as elements. -/
theorem row_of {α : Type} [Inhabited α] {T E : TypeId} {k : Nat} {cells : α → List Value} {Pr : α → Prop} {fuel : Nat} {v : Value} {x : DataW H × List MemPlace}
    (hu : Tryz.prog.underlying T = some (.slice E)) (hk : Tryz.prog.cellsOf E = k) (hk0 : 0 < k)
    (elem : ∀ (fuel : Nat) (cs : List Value) (x : DataW H × List MemPlace), DataW.trod enc Tryz.prog w base (fun _ => true) held fuel E cs = some x → ∃ a, Pr a ∧ cs = cells a)
    (h : DataW.trod enc Tryz.prog w base (fun _ => true) held fuel T [v] = some x) : ∃ xs : List α, (∀ a ∈ xs, Pr a) ∧ RowL k cells w v xs := by
  subst hk
  rcases Go.Deep.open_slice hu h with ⟨e, _⟩ | ⟨a, len, cap, m, n, D, Pl, e, hb, hl, hm, hmm, _, hx⟩
  · cases e
    exact ⟨[], (fun _ h => by cases h), RowL.nil w⟩
  · cases e
    have hmm : m = cap := hmm
    subst hmm
    rcases Nat.eq_zero_or_pos m with h0 | h0
    · subst h0
      obtain rfl : len = 0 := by omega
      exact ⟨[], (fun _ h => by cases h), .inr ⟨a, rfl, rfl⟩⟩
    · have hsp : a.spot = none := by
        obtain ⟨cs', h1, _⟩ := hx 0 h0
        obtain ⟨_, hlen, hcell⟩ := World.cells?_some h1
        have h2 := hcell 0 (by omega)
        rw [Nat.zero_mul] at h2
        have h3 : w.cell? a = cs'[0]? := h2
        rw [List.getElem?_eq_getElem (by omega)] at h3
        exact World.cell?_spot h3
      obtain ⟨b, off, spot⟩ := a
      simp only at hsp
      subst hsp
      obtain ⟨F, hF⟩ := Go.Deep.choose_lt (α := α) (p := fun i y => Pr y ∧ w.rangeAt b (off + i * Tryz.prog.cellsOf E) (cells y)) (n := len) (fun i hi => by
        obtain ⟨cs', h1, h2⟩ := hx i (by omega)
        obtain ⟨y, hy, rfl⟩ := elem _ _ _ h2
        refine ⟨y, hy, fun j u hu => ?_⟩
        obtain ⟨_, hlen, hcell⟩ := World.cells?_some h1
        have hj := (List.getElem?_eq_some_iff.1 hu).1
        have := hcell j (by rw [← hlen]; exact hj)
        rw [hu, add_sp, add_sp] at this
        exact this)
      refine ⟨(List.range len).map F, fun y hy => ?_, .inl (.inr ⟨b, off, m, by simp, by simpa using hl, hm, fun j y hy => ?_⟩)⟩
      · obtain ⟨i, hi, rfl⟩ := List.mem_map.1 hy
        exact (hF i (List.mem_range.1 hi)).1
      · have hj := (List.getElem?_eq_some_iff.1 hy).1
        rw [List.length_map, List.length_range] at hj
        rw [List.getElem?_map, List.getElem?_range hj] at hy
        cases hy
        exact (hF j hj).2
theorem row_top {α : Type} {k : Nat} {cells : α → List Value} {v : Value} {xs : List α} (h : RowL k cells w v xs) (hsp : ∀ a n c, v = .slice (some a) n c → a.spot = none) : RowIs k cells w v xs := by
  rcases h with h | ⟨ad, rfl, rfl⟩
  · exact h
  · have h0 := hsp ad 0 0 rfl
    obtain ⟨b, off, spot⟩ := ad
    simp only at h0
    subst h0
    exact .inr ⟨b, off, 0, rfl, Nat.zero_le _, Nat.zero_le _, fun j x hx => by cases hx⟩
set_option maxRecDepth 100000 in
theorem op_fields {fuel : Nat} {cs : List Value} {x : DataW H × List MemPlace} {sp : Nat → Bool} (h : DataW.trod enc Tryz.prog w base sp held fuel 73 cs = some x) :
    cs.length = 33 ∧ ∃ m, (∃ y, DataW.trod enc Tryz.prog w base sp held m 25 ((cs.drop 0).take 32) = some y) ∧ (∃ y, DataW.trod enc Tryz.prog w base sp held m 71 ((cs.drop 32).take 1) = some y) := by
  obtain ⟨xs, m, _, _, hl, hlx, hf⟩ := DataW.trod_struct Tryz.underlying73 h
  rw [co_op] at hl
  have hlx : xs.length = 2 := hlx
  have f0 : DataW.trod enc Tryz.prog w base sp held m 25 ((cs.drop 0).take (Tryz.prog.cellsOf 25)) = xs[0]? := hf 0 _ rfl
  rw [co_hash, List.getElem?_eq_getElem (by omega)] at f0
  have f1 : DataW.trod enc Tryz.prog w base sp held m 71 ((cs.drop 32).take (Tryz.prog.cellsOf 71)) = xs[1]? := hf 1 _ rfl
  rw [co_u32, List.getElem?_eq_getElem (by omega)] at f1
  exact ⟨hl, m, ⟨_, f0⟩, ⟨_, f1⟩⟩
set_option maxRecDepth 100000 in
theorem in_fields {fuel : Nat} {cs : List Value} {x : DataW H × List MemPlace} {sp : Nat → Bool} (h : DataW.trod enc Tryz.prog w base sp held fuel 75 cs = some x) :
    cs.length = 34 ∧ ∃ m, (∃ y, DataW.trod enc Tryz.prog w base sp held m 73 ((cs.drop 0).take 33) = some y) ∧ (∃ y, DataW.trod enc Tryz.prog w base sp held m 23 ((cs.drop 33).take 1) = some y) := by
  obtain ⟨xs, m, _, _, hl, hlx, hf⟩ := DataW.trod_struct Tryz.underlying75 h
  rw [co_in] at hl
  have hlx : xs.length = 2 := hlx
  have f0 : DataW.trod enc Tryz.prog w base sp held m 73 ((cs.drop 0).take (Tryz.prog.cellsOf 73)) = xs[0]? := hf 0 _ rfl
  rw [co_op, List.getElem?_eq_getElem (by omega)] at f0
  have f1 : DataW.trod enc Tryz.prog w base sp held m 23 ((cs.drop 33).take (Tryz.prog.cellsOf 23)) = xs[1]? := hf 1 _ rfl
  rw [co_u8s, List.getElem?_eq_getElem (by omega)] at f1
  exact ⟨hl, m, ⟨_, f0⟩, ⟨_, f1⟩⟩
set_option maxRecDepth 100000 in
theorem out_fields {fuel : Nat} {cs : List Value} {x : DataW H × List MemPlace} {sp : Nat → Bool} (h : DataW.trod enc Tryz.prog w base sp held fuel 88 cs = some x) :
    cs.length = 33 ∧ ∃ m, (∃ y, DataW.trod enc Tryz.prog w base sp held m 26 ((cs.drop 0).take 1) = some y) ∧ (∃ y, DataW.trod enc Tryz.prog w base sp held m 25 ((cs.drop 1).take 32) = some y) := by
  obtain ⟨xs, m, _, _, hl, hlx, hf⟩ := DataW.trod_struct Tryz.underlying88 h
  rw [co_out] at hl
  have hlx : xs.length = 2 := hlx
  have f0 : DataW.trod enc Tryz.prog w base sp held m 26 ((cs.drop 0).take (Tryz.prog.cellsOf 26)) = xs[0]? := hf 0 _ rfl
  rw [co_u64, List.getElem?_eq_getElem (by omega)] at f0
  have f1 : DataW.trod enc Tryz.prog w base sp held m 25 ((cs.drop 1).take (Tryz.prog.cellsOf 25)) = xs[1]? := hf 1 _ rfl
  rw [co_hash, List.getElem?_eq_getElem (by omega)] at f1
  exact ⟨hl, m, ⟨_, f0⟩, ⟨_, f1⟩⟩
set_option maxRecDepth 100000 in
theorem tx_fields {fuel : Nat} {cs : List Value} {x : DataW H × List MemPlace} {sp : Nat → Bool} (h : DataW.trod enc Tryz.prog w base sp held fuel 53 cs = some x) :
    cs.length = 3 ∧ ∃ m, (∃ y, DataW.trod enc Tryz.prog w base sp held m 50 ((cs.drop 0).take 1) = some y) ∧ (∃ y, DataW.trod enc Tryz.prog w base sp held m 51 ((cs.drop 1).take 1) = some y) ∧ (∃ y, DataW.trod enc Tryz.prog w base sp held m 26 ((cs.drop 2).take 1) = some y) := by
  obtain ⟨xs, m, _, _, hl, hlx, hf⟩ := DataW.trod_struct Tryz.underlying53 h
  rw [co_tx] at hl
  have hlx : xs.length = 3 := hlx
  have f0 : DataW.trod enc Tryz.prog w base sp held m 50 ((cs.drop 0).take (Tryz.prog.cellsOf 50)) = xs[0]? := hf 0 _ rfl
  rw [co_ins, List.getElem?_eq_getElem (by omega)] at f0
  have f1 : DataW.trod enc Tryz.prog w base sp held m 51 ((cs.drop 1).take (Tryz.prog.cellsOf 51)) = xs[1]? := hf 1 _ rfl
  rw [co_outs, List.getElem?_eq_getElem (by omega)] at f1
  have f2 : DataW.trod enc Tryz.prog w base sp held m 26 ((cs.drop 2).take (Tryz.prog.cellsOf 26)) = xs[2]? := hf 2 _ rfl
  rw [co_u64, List.getElem?_eq_getElem (by omega)] at f2
  exact ⟨hl, m, ⟨_, f0⟩, ⟨_, f1⟩, ⟨_, f2⟩⟩
set_option maxRecDepth 100000 in
theorem act_fields {fuel : Nat} {cs : List Value} {x : DataW H × List MemPlace} {sp : Nat → Bool} (h : DataW.trod enc Tryz.prog w base sp held fuel 30 cs = some x) :
    cs.length = 40 ∧ ∃ m, (∃ y, DataW.trod enc Tryz.prog w base sp held m 22 ((cs.drop 0).take 1) = some y) ∧ (∃ y, DataW.trod enc Tryz.prog w base sp held m 23 ((cs.drop 1).take 1) = some y) ∧ (∃ y, DataW.trod enc Tryz.prog w base sp held m 25 ((cs.drop 2).take 32) = some y) ∧ (∃ y, DataW.trod enc Tryz.prog w base sp held m 26 ((cs.drop 34).take 1) = some y) ∧ (∃ y, DataW.trod enc Tryz.prog w base sp held m 27 ((cs.drop 35).take 1) = some y) ∧ (∃ y, DataW.trod enc Tryz.prog w base sp held m 28 ((cs.drop 36).take 1) = some y) ∧ (∃ y, DataW.trod enc Tryz.prog w base sp held m 3 ((cs.drop 37).take 1) = some y) ∧ (∃ y, DataW.trod enc Tryz.prog w base sp held m 3 ((cs.drop 38).take 1) = some y) ∧ (∃ y, DataW.trod enc Tryz.prog w base sp held m 4 ((cs.drop 39).take 1) = some y) := by
  obtain ⟨xs, m, _, _, hl, hlx, hf⟩ := DataW.trod_struct Tryz.underlying30 h
  rw [co_act] at hl
  have hlx : xs.length = 9 := hlx
  have f0 : DataW.trod enc Tryz.prog w base sp held m 22 ((cs.drop 0).take (Tryz.prog.cellsOf 22)) = xs[0]? := hf 0 _ rfl
  rw [co_kind, List.getElem?_eq_getElem (by omega)] at f0
  have f1 : DataW.trod enc Tryz.prog w base sp held m 23 ((cs.drop 1).take (Tryz.prog.cellsOf 23)) = xs[1]? := hf 1 _ rfl
  rw [co_u8s, List.getElem?_eq_getElem (by omega)] at f1
  have f2 : DataW.trod enc Tryz.prog w base sp held m 25 ((cs.drop 2).take (Tryz.prog.cellsOf 25)) = xs[2]? := hf 2 _ rfl
  rw [co_hash, List.getElem?_eq_getElem (by omega)] at f2
  have f3 : DataW.trod enc Tryz.prog w base sp held m 26 ((cs.drop 34).take (Tryz.prog.cellsOf 26)) = xs[3]? := hf 3 _ rfl
  rw [co_u64, List.getElem?_eq_getElem (by omega)] at f3
  have f4 : DataW.trod enc Tryz.prog w base sp held m 27 ((cs.drop 35).take (Tryz.prog.cellsOf 27)) = xs[4]? := hf 4 _ rfl
  rw [co_ints, List.getElem?_eq_getElem (by omega)] at f4
  have f5 : DataW.trod enc Tryz.prog w base sp held m 28 ((cs.drop 36).take (Tryz.prog.cellsOf 28)) = xs[5]? := hf 5 _ rfl
  rw [co_txs, List.getElem?_eq_getElem (by omega)] at f5
  have f6 : DataW.trod enc Tryz.prog w base sp held m 3 ((cs.drop 37).take (Tryz.prog.cellsOf 3)) = xs[6]? := hf 6 _ rfl
  rw [co_int, List.getElem?_eq_getElem (by omega)] at f6
  have f7 : DataW.trod enc Tryz.prog w base sp held m 3 ((cs.drop 38).take (Tryz.prog.cellsOf 3)) = xs[7]? := hf 7 _ rfl
  rw [co_int, List.getElem?_eq_getElem (by omega)] at f7
  have f8 : DataW.trod enc Tryz.prog w base sp held m 4 ((cs.drop 39).take (Tryz.prog.cellsOf 4)) = xs[8]? := hf 8 _ rfl
  rw [co_bool, List.getElem?_eq_getElem (by omega)] at f8
  exact ⟨hl, m, ⟨_, f0⟩, ⟨_, f1⟩, ⟨_, f2⟩, ⟨_, f3⟩, ⟨_, f4⟩, ⟨_, f5⟩, ⟨_, f6⟩, ⟨_, f7⟩, ⟨_, f8⟩⟩
theorem cut_all (cs : List Value) (n : Nat) (h : cs.length ≤ n) : cs.drop n = [] := List.drop_eq_nil_of_le h
theorem op_of {fuel : Nat} {cs : List Value} {x : DataW H × List MemPlace} {sp : Nat → Bool} (h : DataW.trod enc Tryz.prog w base sp held fuel 73 cs = some x) : ∃ L k, IsH L ∧ k ≤ 4294967295 ∧ cs = bys L ++ [.int .u32 ((k : Nat) : Int)] := by
  obtain ⟨hl, m, ⟨_, f0⟩, ⟨_, f1⟩⟩ := op_fields h
  obtain ⟨L, hL, q0⟩ := hash_of f0
  obtain ⟨n, q1, _, hw⟩ := DataW.trod_int Tryz.underlying71 f1
  have hb := bd_u32 hw
  refine ⟨L, n.toNat, hL, by omega, ?_⟩
  have s0 := split_at cs 0 32
  have s1 := split_at cs 32 1
  rw [List.drop_zero] at s0 q0
  rw [q0] at s0
  rw [q1, cut_all cs (32 + 1) (by omega), List.append_nil] at s1
  rw [s0, show 0 + 32 = 32 from rfl, s1, Int.toNat_of_nonneg hb.1]
theorem in_of {fuel : Nat} {cs : List Value} {x : DataW H × List MemPlace} {sp : Nat → Bool} (h : DataW.trod enc Tryz.prog w base sp held fuel 75 cs = some x) : ∃ i : InM, i.ok w ∧ cs = i.cells := by
  obtain ⟨hl, m, ⟨_, f0⟩, ⟨_, f1⟩⟩ := in_fields h
  obtain ⟨L, k, hL, hk, q0⟩ := op_of f0
  obtain ⟨wv, hwv⟩ : ∃ v, cs[33]? = some v := ⟨_, List.getElem?_eq_getElem (by omega)⟩
  have q1 := one_at hwv
  rw [q1] at f1
  obtain ⟨W, hW⟩ := byts_of f1
  refine ⟨⟨L, k, wv, W⟩, ⟨hL, hk, hW⟩, ?_⟩
  have s0 := split_at cs 0 33
  have s1 := split_at cs 33 1
  rw [List.drop_zero] at s0 q0
  rw [q0] at s0
  rw [q1, cut_all cs (33 + 1) (by omega), List.append_nil] at s1
  rw [s0, show 0 + 33 = 33 from rfl, s1]
  unfold InM.cells
  rw [List.append_assoc]
theorem out_of {fuel : Nat} {cs : List Value} {x : DataW H × List MemPlace} {sp : Nat → Bool} (h : DataW.trod enc Tryz.prog w base sp held fuel 88 cs = some x) : ∃ o : OutM, o.ok ∧ cs = o.cells := by
  obtain ⟨hl, m, ⟨_, f0⟩, ⟨_, f1⟩⟩ := out_fields h
  obtain ⟨n, q0, _, hw⟩ := DataW.trod_int Tryz.underlying26 f0
  have hb := bd_u64 hw
  obtain ⟨L, hL, q1⟩ := hash_of f1
  refine ⟨⟨n.toNat, L⟩, ⟨by show n.toNat ≤ _; omega, hL⟩, ?_⟩
  have s0 := split_at cs 0 1
  have s1 := split_at cs 1 32
  rw [List.drop_zero] at s0 q0
  rw [q0] at s0
  rw [q1, cut_all cs (1 + 32) (by omega), List.append_nil] at s1
  rw [s0, show 0 + 1 = 1 from rfl, s1]
  unfold OutM.cells
  rw [List.append_nil, Int.toNat_of_nonneg hb.1]
instance : Inhabited InM := ⟨⟨[], 0, .slice none 0 0, []⟩⟩
instance : Inhabited OutM := ⟨⟨0, []⟩⟩
instance : Inhabited TxM := ⟨⟨.slice none 0 0, .slice none 0 0, [], [], 0⟩⟩
theorem three_of {cs : List Value} (h : cs.length = 3) : ∃ x y z, cs = [x, y, z] := by
  match cs, h with
  | [x, y, z], _ => exact ⟨x, y, z, rfl⟩
theorem tx_of {fuel : Nat} {cs : List Value} {x : DataW H × List MemPlace} (h : DataW.trod enc Tryz.prog w base (fun _ => true) held fuel 53 cs = some x) : ∃ t : TxM, t.ok w ∧ cs = t.cells := by
  obtain ⟨hl, m, ⟨_, f0⟩, ⟨_, f1⟩, ⟨_, f2⟩⟩ := tx_fields h
  obtain ⟨iv, ov, nv, rfl⟩ := three_of hl
  have f0 : DataW.trod enc Tryz.prog w base (fun _ => true) held m 50 [iv] = some _ := f0
  have f1 : DataW.trod enc Tryz.prog w base (fun _ => true) held m 51 [ov] = some _ := f1
  have f2 : DataW.trod enc Tryz.prog w base (fun _ => true) held m 26 [nv] = some _ := f2
  obtain ⟨I, hI, rI⟩ := row_of (cells := InM.cells) (Pr := fun i => i.ok w) Tryz.underlying50 co_in (by omega) (fun _ _ _ h => in_of h) f0
  obtain ⟨O, hO, rO⟩ := row_of (cells := OutM.cells) (Pr := fun o => o.ok) Tryz.underlying51 co_out (by omega) (fun _ _ _ h => out_of h) f1
  obtain ⟨n, q2, _, hw⟩ := DataW.trod_int Tryz.underlying26 f2
  have hb := bd_u64 hw
  refine ⟨⟨iv, ov, I, O, n.toNat⟩, ⟨⟨hI, rI⟩, ⟨hO, rO⟩, by show n.toNat ≤ _; omega⟩, ?_⟩
  obtain rfl : nv = .int .u64 n := by simpa using q2
  show _ = [iv, ov, Value.int .u64 ((n.toNat : Nat) : Int)]
  rw [Int.toNat_of_nonneg hb.1]
theorem num_of {fuel : Nat} {cs : List Value} {x : DataW H × List MemPlace} {sp : Nat → Bool} (h : DataW.trod enc Tryz.prog w base sp held fuel 3 cs = some x) : ∃ z : Int, (-9223372036854775808 ≤ z ∧ z ≤ 9223372036854775807) ∧ cs = numC z := by
  obtain ⟨n, q, _, hw⟩ := DataW.trod_int Tryz.underlying3 h
  exact ⟨n, bd_i64 hw, q⟩
set_option maxRecDepth 100000 in
theorem act_of {fuel : Nat} {cs : List Value} {x : DataW H × List MemPlace} (h : DataW.trod enc Tryz.prog w base (fun _ => true) held fuel 30 cs = some x) (hsp : ∀ (i : Nat) (a : Addr) (n k : Nat), cs[i]? = some (Value.slice (some a) n k) → a.spot = none) : ∃ a : ActM, a.ok w ∧ cs = a.cells := by
  obtain ⟨hl, m, ⟨_, f0⟩, ⟨_, f1⟩, ⟨_, f2⟩, ⟨_, f3⟩, ⟨_, f4⟩, ⟨_, f5⟩, ⟨_, f6⟩, ⟨_, f7⟩, ⟨_, f8⟩⟩ := act_fields h
  obtain ⟨kd, q0, _, w0⟩ := DataW.trod_int Tryz.underlying22 f0
  have b0 := bd_i64 w0
  obtain ⟨bv, hbv⟩ : ∃ v, cs[1]? = some v := ⟨_, List.getElem?_eq_getElem (by omega)⟩
  have q1 := one_at hbv
  rw [q1] at f1
  obtain ⟨B, hB⟩ := byts_of f1
  obtain ⟨L, hL, q2⟩ := hash_of f2
  obtain ⟨nc, q3, _, w3⟩ := DataW.trod_int Tryz.underlying26 f3
  have b3 := bd_u64 w3
  obtain ⟨pv, hpv⟩ : ∃ v, cs[35]? = some v := ⟨_, List.getElem?_eq_getElem (by omega)⟩
  have q4 := one_at hpv
  rw [q4] at f4
  obtain ⟨P, hP, rP⟩ := row_of (cells := numC) (Pr := fun z => -9223372036854775808 ≤ z ∧ z ≤ 9223372036854775807) Tryz.underlying27 co_int (by omega) (fun _ _ _ h => num_of h) f4
  have rP := row_top rP (fun a n c e => hsp 35 a n c (by rw [hpv, e]))
  obtain ⟨tv, htv⟩ : ∃ v, cs[36]? = some v := ⟨_, List.getElem?_eq_getElem (by omega)⟩
  have q5 := one_at htv
  rw [q5] at f5
  obtain ⟨T, hT, rT⟩ := row_of (cells := TxM.cells) (Pr := fun t => t.ok w) Tryz.underlying28 co_tx (by omega) (fun _ _ _ h => tx_of h) f5
  have rT := row_top rT (fun a n c e => hsp 36 a n c (by rw [htv, e]))
  obtain ⟨n, q6, _, w6⟩ := DataW.trod_int Tryz.underlying3 f6
  have b6 := bd_i64 w6
  obtain ⟨mm, q7, _, w7⟩ := DataW.trod_int Tryz.underlying3 f7
  have b7 := bd_i64 w7
  obtain ⟨bd, q8, _⟩ := DataW.trod_bool Tryz.underlying4 f8
  refine ⟨⟨kd, bv, B, L, nc.toNat, pv, P, tv, T, n, mm, bd⟩, ⟨b0, hB, hL, by show nc.toNat ≤ _; omega, ⟨hP, rP⟩, ⟨hT, rT⟩, b6, b7⟩, ?_⟩
  have s0 := split_at cs 0 1
  have s1 := split_at cs 1 1
  have s2 := split_at cs 2 32
  have s3 := split_at cs 34 1
  have s4 := split_at cs 35 1
  have s5 := split_at cs 36 1
  have s6 := split_at cs 37 1
  have s7 := split_at cs 38 1
  have s8 := split_at cs 39 1
  rw [List.drop_zero] at s0 q0
  rw [q0] at s0
  rw [q1] at s1
  rw [q2] at s2
  rw [q3] at s3
  rw [q4] at s4
  rw [q5] at s5
  rw [q6] at s6
  rw [q7] at s7
  rw [q8, cut_all cs (39 + 1) (by omega), List.append_nil] at s8
  rw [s0, show 0 + 1 = 1 from rfl, s1, show 1 + 1 = 2 from rfl, s2, show 2 + 32 = 34 from rfl, s3, show 34 + 1 = 35 from rfl, s4, show 35 + 1 = 36 from rfl, s5, show 36 + 1 = 37 from rfl, s6, show 37 + 1 = 38 from rfl, s7, show 38 + 1 = 39 from rfl, s8]
  show _ = Value.int .i64 kd :: bv :: (bys L ++ [.int .u64 ((nc.toNat : Nat) : Int), pv, tv, .int .i64 n, .int .i64 mm, .bool bd])
  rw [Int.toNat_of_nonneg b3.1]
  rfl
/-- No address in a row of cells is within a cell. -/
theorem spot_cell {P : Program} {r : Reach} {b0 : Nat} {u : TypeId} {a : Addr} {n k : Nat} (h : Cell.okWide P w r b0 u (.slice (some a) n k)) : a.spot = none := by
  have h1 : Cell.ok P w r b0 u (.slice (some a) n k) := by
    unfold Cell.okWide at h
    split at h
    all_goals first | exact h | (rename_i hh; cases hh)
  unfold Cell.ok at h1
  split at h1
  all_goals first | (rename_i hh; cases hh; exact h1.2.2.2.1) | (rename_i hh; cases hh) | exact absurd h1 id
end
/-- A value of cells: each of its slices' addresses is no cell within a cell. -/
theorem agg_of {P : Program} {w : World} {r : Reach} {b0 : Nat} {t : TypeId} {v : Value} (hu : (∃ fs, P.underlying t = some (.struct fs)) ∨ (∃ n e, P.underlying t = some (.array n e))) (h : Value.okWide P w r b0 t v) :
    ∃ cs : Array Value, v = .agg cs ∧ ∀ (i : Nat) (a : Addr) (n k : Nat), cs.toList[i]? = some (Value.slice (some a) n k) → a.spot = none := by
  have h1 : ∃ cs : Array Value, v = .agg cs ∧ cs.size = P.cellsOf t ∧ Row.okWide P w r b0 t cs := by
    unfold Value.okWide at h
    rcases hu with ⟨fs, hu⟩ | ⟨n, e, hu⟩
    · rw [hu] at h; exact h
    · rw [hu] at h; exact h
  obtain ⟨cs, rfl, _, ts, _, _, hc⟩ := h1
  refine ⟨cs, rfl, fun i a n k e => ?_⟩
  rw [Array.getElem?_toList] at e
  obtain ⟨u, _, hk⟩ := hc i _ e
  exact spot_cell hk
set_option maxRecDepth 100000 in
theorem act_arg {H : Type} (enc : TypeId × Value → H) {W : World} {b0 base : Nat} {held : Bool} (v : Value) (d : DataW H) (p : List MemPlace) (o : Value.okWide Tryz.prog W .any b0 30 v) (h : DataW.Trod enc Tryz.prog W base (fun _ => true) held 30 v d p) :
    ∃ a : ActM, a.ok W ∧ v = .agg a.cells.toArray := by
  obtain ⟨c, rfl, s⟩ := agg_of (.inl ⟨_, Tryz.underlying30⟩) o
  obtain ⟨n, t⟩ := h
  obtain ⟨a, ha, e⟩ := act_of t s
  refine ⟨a, ha, ?_⟩
  rw [← e]; rfl
end Go.Proofs.YtnohfondkcbdnaaGreatDoor
/- The law ScriptActs of any arguments. -/
namespace Go.Proofs.YtnohfondkcbdnaaGreatDoor
open Go.RowKit Go.Lib
open Go.ChangeShapes Go.WideShapes Go.ChangeAt Go.WideMaps Go.WideElems
set_option linter.unusedVariables false
set_option linter.unusedSimpArgs false

theorem pow_laid {W : World} (h : laidMetH Tryz.prog [("math/bits.deBruijn32tab", Rows.laid_math_bits_deBruijn32tab), ("math/bits.deBruijn64tab", Rows.laid_math_bits_deBruijn64tab), ("internal/strconv.uint64pow10", Rows.laid_internal_strconv_uint64pow10)] W) : TabO W := by
  rw [MakeChecks.laidMetH_plain _ _ _ (by kernel_rfl)] at h
  exact tab_of_laid h (List.mem_cons_of_mem _ (List.mem_cons_of_mem _ (List.mem_cons_self ..))) (show Tryz.prog.globalNamed "internal/strconv.uint64pow10" = some 0 by kernel_rfl) (show _ = some 132 by kernel_rfl)
    Tryz.underlying132 Tryz.underlying26 (by kernel_rfl) (by kernel_rfl)
set_option maxRecDepth 100000 in
theorem acts_any {H : Type} (enc : TypeId × Value → H) {W : World} {b0 : Nat} {held : Bool}
    (v0 : Value) (d0 : DataW H) (p0 : List MemPlace) (o0 : Value.okWide Tryz.prog W .any b0 30 v0) (h0 : DataW.Trod enc Tryz.prog W 0 (fun _ => true) held 30 v0 d0 p0)
    (v1 : Value) (d1 : DataW H) (p1 : List MemPlace) (o1 : Value.okWide Tryz.prog W .any b0 30 v1) (h1 : DataW.Trod enc Tryz.prog W 0 (fun _ => true) held 30 v1 d1 p1)
    (a2 : Int) (w2 : (Lit.int .i64 a2).wf = true)
    (h : laidMetH Tryz.prog [("math/bits.deBruijn32tab", Rows.laid_math_bits_deBruijn32tab), ("math/bits.deBruijn64tab", Rows.laid_math_bits_deBruijn64tab), ("internal/strconv.uint64pow10", Rows.laid_internal_strconv_uint64pow10)] W) :
    Calls Tryz.prog 3 #[v0, v1, .int .i64 a2] W fun e w' => e = .returned (.bool true) ∧ Below W.heap.size W w' := by
  obtain ⟨a, ha, rfl⟩ := act_arg enc v0 d0 p0 o0 h0
  obtain ⟨b, hb, rfl⟩ := act_arg enc v1 d1 p1 o1 h1
  exact acts_walk a b a2 W ha hb (pow_laid h)
end Go.Proofs.YtnohfondkcbdnaaGreatDoor
