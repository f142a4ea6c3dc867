/- plexusref01.Put and Num, of sizes 2 and 8. -/
import Derived.Test.YtnohfondkcbdnaaGreatDoorG02
import Derived.Test.YtnohfondkcbdnaaGreatDoorG01
import Derived.Deep.Quiet
import Derived.Deep.QuietTactic
import Derived.Deep.MidRow
import Derived.ChangeKeysEq
import Derived.Laws.StructEq
import Derived.OrdersHeld
import Derived.StillTail
namespace Go.Proofs.YtnohfondkcbdnaaGreatDoor
open Go.RowKit Go.Lib
set_option linter.unusedVariables false
set_option linter.unusedSimpArgs false
attribute [local go_sem ↓] Go.wp_at_zero Go.wp_at_succ

theorem r1size_any (s : Nat) (hs : s = 2 ∨ s = 8) (w : World) : Calls Tryz.prog 103 #[.int .i64 (s : Int)] w fun e w' => e = .returned (.bool true) ∧ w' = w := by
  rcases hs with rfl | rfl
  · go_enter Tryz.func103, Tryz.ntmps103
    go_wp2
    go_ret
    exact ⟨rfl, rfl⟩
  · go_enter Tryz.func103, Tryz.ntmps103
    go_wp2
    go_ret
    exact ⟨rfl, rfl⟩

/-- What Put answers. -/
def PutR (B : Nat) (L : List Nat) (e : Ending) (w' : World) : Prop := ∃ v' b, e = .returned (.tuple #[v', .bool b]) ∧ w'.ownsRow B 5 1 v' L.length (bys L)
theorem le8_next (n k m : Nat) (hk : k < 8) (hm : m = n / 256 ^ k) : (le8 n).take k ++ [m % 256] = (le8 n).take (k + 1) := by
  rw [List.take_add_one, le8_at n k hk, hm, show (256 : Nat) = 2 ^ 8 by rfl, ← Nat.pow_mul]
  rfl
theorem byte_at (w : World) (m : Nat) (z : Int) (hz : (m : Int) = z) (hm : m < 256) : Byts (w.alloc (.cells #[.int .u8 z] 5)) (.slice (some ⟨w.heap.size, 0, none⟩) 1 1) [m] := by
  subst hz
  have ha := Arr.made w 5 [.int .u8 (m : Int)]
  refine ⟨fun x hx => by rw [List.mem_singleton] at hx; omega, .inr ⟨_, 1, rfl, Nat.le_refl _, by unfold maxLen; omega, fun j hj => ?_⟩⟩
  obtain rfl : j = 0 := by simpa using hj
  rw [add_nospot, ha.cell]; rfl

set_option maxRecDepth 100000 in
set_option maxHeartbeats 1600000 in
theorem put_any (s n : Nat) (hs : s = 2 ∨ s = 8) (hn : n ≤ 18446744073709551615) (w : World) :
    Calls Tryz.prog 91 #[.int .u64 (n : Int), .int .i64 (s : Int)] w fun e w' => PutR w.heap.size ((le8 n).take s) e w' ∧ Below w.heap.size w w' := by
  have HSz := Lib.hid hs
  have HN := Lib.hid hn
  have hsb : s ≤ 8 := by omega
  have HSb := Lib.hid hsb
  clear hs hn hsb
  go_enter Tryz.func91, Tryz.ntmps91
  go_wp2_with fail
  with_reducible refine (r1size_any s HSz.out w).mono ?_
  rintro e w2 ⟨rfl, rfl⟩
  dsimp only
  have HO0 := Lib.hid (show w2.ownsRow w2.heap.size 5 1 (.slice none 0 0) ([] : List Nat).length (bys []) from own_nil _ _ _ _)
  go_wp2
  go_loopg [0, 6, 7] s (fun g v0 v6 v7 wq => ∃ k m : Nat, Hid (g + k = s) ∧ v0 = .int .u64 (m : Int) ∧ Hid (m = n / 256 ^ k) ∧ v7 = .int .i64 (k : Int) ∧ Hid (wq.ownsRow w2.heap.size 5 1 v6 ((le8 n).take k).length (bys ((le8 n).take k))) ∧ Hid (Below w2.heap.size w2 wq))
  case atStart => exact ⟨0, n, rfl, rfl, by show _ = _; simp, rfl, HO0.out, Below.refl _ _⟩
  case round =>
    obtain ⟨k, m, hk, rfl, hm, rfl, ho, hb⟩ := hrel
    have HK := Lib.hid hk.out
    have HM := Lib.hid hm.out
    have HO := Lib.hid ho.out
    have HB := Lib.hid hb.out
    clear hk hm ho hb HO0
    cases gk with
    | zero =>
      have hlt : ¬ ((k : Int) < (s : Int)) := by have := HK.out; omega
      have HO9 := Lib.hid (show wr.ownsRow w2.heap.size 5 1 u6 ((le8 n).take s).length (bys ((le8 n).take s)) by
        have h := HO.out
        rw [show k = s by have := HK.out; omega] at h; exact h)
      go_wp2
      refine bodyPost_ret (results_tmp2 rfl _ _ _) rfl ?_
      exact ⟨⟨_, _, rfl, HO9.out⟩, HB.out⟩
    | succ g =>
      have hlt : ((k : Int) < (s : Int)) := by have := HK.out; omega
      have hmb : m ≤ 18446744073709551615 := by rw [HM.out]; exact Nat.le_trans (Nat.div_le_self _ _) HN.out
      obtain ⟨z, hz⟩ : ∃ z : Int, (m : Int) = z := ⟨_, rfl⟩
      have HZ := Lib.hid hz
      rw [hz]
      have z0 : 0 ≤ z := by omega
      have z1 : z < 18446744073709551616 := by omega
      have hkl : k < 8 := by have := HK.out; have := HSb.out; omega
      clear hz hmb
      have hr1 : IntKind.u64.wrap (z.tmod 256) = z % 256 := by rw [Int.tmod_eq_emod_of_nonneg z0, IntKind.wrap_u64]; omega
      have hr2 : IntKind.u8.wrap (z % 256) = z % 256 := by rw [IntKind.wrap_u8]; omega
      have hr3 : IntKind.u64.wrap (z.tdiv 256) = z / 256 := by rw [Int.tdiv_eq_ediv_of_nonneg z0, IntKind.wrap_u64]; omega
      obtain ⟨X, hX⟩ : ∃ X, X = (le8 n).take k := ⟨_, rfl⟩
      obtain ⟨Z, hZ⟩ : ∃ Z, Z = (le8 n).take (k + 1) := ⟨_, rfl⟩
      have HXZ := Lib.hid (show X ++ [m % 256] = Z by rw [hX, hZ]; exact le8_next n k m hkl HM.out)
      have HOx := Lib.hid (show wr.ownsRow w2.heap.size 5 1 u6 X.length (bys X) by rw [hX]; exact HO.out)
      have HXl := Lib.hid (show X.length + [m % 256].length ≤ 140737488355328 by rw [hX, List.length_take]; simp; omega)
      have HYb := Lib.hid (byte_at wr (m % 256) (z % 256) (by have := HZ.out; omega) (by omega))
      have HOa := Lib.hid (HOx.out.alloc (.cells #[.int .u8 (z % 256)] 5))
      have HBa := Lib.hid (show Below w2.heap.size w2 (wr.alloc (.cells #[.int .u8 (z % 256)] 5)) from HB.out.alloc HB.out.size _)
      have HZe := Lib.hid hZ
      clear hX hZ HO HOx hkl
      go_wp2_with (at_builtin; refine appB w2.heap.size rfl (.tmp 16) (.tmp 20) 23 5 rfl Tryz.underlying23 infoB u6 _ X [m % 256] Z HXZ.out rfl rfl HOa.out HYb.out HBa.out.size HXl.out ?_)
      intro v4 w4 ho4 hb4 hg4
      have HO4 := Lib.hid ho4.out
      have HB4 := Lib.hid (hb4.out w2.heap.size w2 HBa.out (Nat.le_refl _))
      clear ho4 hb4 hg4 HOa HYb HBa
      go_wp2
      go_roundg g
      case measure => omega
      case rel =>
        refine ⟨k + 1, m / 256, by show _ = _; have := HK.out; omega, congrArg (Value.int .u64) (by have := HZ.out; omega), ?_, congrArg (Value.int .i64) (by have h1 := HK.out; have h2 := HSb.out; unfold wrap64; omega), by rw [← HZe.out]; exact HO4.out, HB4.out⟩
        show _ = _
        rw [HM.out, Nat.div_div_eq_div_mul, Nat.pow_succ]

set_option maxRecDepth 100000 in
set_option maxHeartbeats 1600000 in
theorem num_any (s n : Nat) (hs : s = 2 ∨ s = 8) (hn : n ≤ 18446744073709551615) (w : World) :
    Calls Tryz.prog 59 #[.int .u64 (n : Int), .int .i64 (s : Int)] w fun e w' => ∃ v', e = .returned v' ∧ w'.ownsRow w.heap.size 5 1 v' ((le8 n).take s).length (bys ((le8 n).take s)) ∧ Below w.heap.size w w' := by
  have HP := Lib.hid (put_any s n hs hn w)
  clear hs hn
  go_enter Tryz.func59, Tryz.ntmps59
  go_wp2_with fail
  with_reducible refine HP.out.mono ?_
  rintro e w2 ⟨⟨v2, b2, rfl, ho2⟩, hb2⟩
  dsimp only
  have HO2 := Lib.hid ho2
  have HB2 := Lib.hid hb2
  clear HP ho2 hb2
  go_wp2
  go_ret
  exact ⟨v2, rfl, HO2.out, HB2.out⟩
end Go.Proofs.YtnohfondkcbdnaaGreatDoor
/- Drawn regions that read, and whose callees may lay blocks of their own: one walk in the text's order, for all worlds that keep what lay there. Nothing of the dump stands here. -/
namespace Go.Proofs.YtnohfondkcbdnaaGreatDoor
open Go.RowKit Go.Lib
set_option linter.unusedVariables false
/-- A world in which all that lay in w lies as it lay. -/
structure Beh (w : World) where
  x : World
  h : Below w.heap.size w x
section
variable {P : Program} {ops : Array Oper} {Q : Act → Prop} {C : World → Prop} {a : Act} {o : Oper} {rest : List Oper} {v : Value}
theorem wp_region_Q {id : Nat} {Q : Exit → Act → World → Prop} {w : World} {ops : Array Oper} (l : List Oper) (hl : ops.toList = l) (hm : P.follows .mixedOrders = true) (hB : Region.lexB .any ops = true)
    (h : wpQuiet P ops (fun w' => ∃ p : Beh w, w' = p.x) (fun a' => ∀ w', (∃ p : Beh w, w' = p.x) → Q .normal a' w') l a) : (Code.region id ops true).wp P Q a w :=
  wp_region_quiet (C := fun w' => ∃ p : Beh w, w' = p.x) hm hB ⟨⟨w.drew, (Below.refl _ w).drew⟩, rfl⟩ (by rw [hl]; exact h)
theorem wpQ_take (v : Value) (hw : Region.wanted o (yielded ops a.tmps) = true) (hy : ∀ w, C w → o.quietAt P a C w v) (h : wpQuiet P ops C Q rest (a.put o.dst v)) : wpQuiet P ops C Q (o :: rest) a := by
  unfold wpQuiet
  rw [if_pos hw]
  exact ⟨v, hy, h⟩
theorem wpQ_skip (hw : Region.wanted o (yielded ops a.tmps) = false) (h : wpQuiet P ops C Q rest (a.put o.dst undef)) : wpQuiet P ops C Q (o :: rest) a := by
  unfold wpQuiet
  rw [if_neg (by rw [hw]; exact Bool.false_ne_true)]
  exact h
/-- A load of a row of cells. -/
theorem wpQ_load (hw : Region.wanted o (yielded ops a.tmps) = true) (ty : TypeId) (x : Operand) (ho : o.op = .load ty x)
    (b off : Nat) (hx : a.eval x = .pointer (some ⟨b, off, none⟩)) (cs : List Value) (d : TypeDesc) (hS : ∀ w, C w → w.rangeAt b off cs)
    (hu : P.underlying ty = some d) (hd : d.isRow = true) (hi : (P.info? ty).map (·.size) = some cs.length) (h : wpQuiet P ops C Q rest (a.put o.dst (.agg cs.toArray))) : wpQuiet P ops C Q (o :: rest) a := by
  refine wpQ_take _ hw (fun w hC => ?_) h
  unfold Oper.quietAt execOp
  simp only [ho, hx, Instr.loadAt, Instr.sureAddr, Sem.run_bind, Sem.run_pure, Result.andThen_ok, run_loadVar_mid w b off ty cs d (hS w hC) hu hd hi, Oper.quietUpon, and_self]
/-- A callee that keeps what lay there. -/
theorem calls_beh {f : FuncId} {args : Array Value} {w : World} {p : Beh w} (h : Calls P f args p.x fun e w' => e = .returned v ∧ Below p.x.heap.size p.x w') : Calls P f args p.x fun e w'' => e = .returned v ∧ ∃ q : Beh w, w'' = q.x :=
  h.mono fun _ w' ⟨he, hb⟩ => ⟨he, ⟨w', p.h.trans (hb.mono p.h.size)⟩, rfl⟩
end
end Go.Proofs.YtnohfondkcbdnaaGreatDoor
/- Rows of elements of k cells; transactions as data. -/
namespace Go.Proofs.YtnohfondkcbdnaaGreatDoor
open Go.RowKit Go.Lib
set_option linter.unusedVariables false
set_option linter.unusedSimpArgs false

theorem range_below {w w' : World} {b o : Nat} {cs : List Value} (h : w.rangeAt b o cs) (hb : Below w.heap.size w w') : w'.rangeAt b o cs := fun j v hv => cellb hb (h j v hv)
theorem range_drew {w : World} {b o : Nat} {cs : List Value} (h : w.rangeAt b o cs) : w.drew.rangeAt b o cs := h
theorem range_part {w : World} {b o : Nat} {xs ys zs : List Value} (h : w.rangeAt b o (xs ++ (ys ++ zs))) : w.rangeAt b (o + xs.length) ys := fun j v hv => by
  have hj := (List.getElem?_eq_some_iff.1 hv).1
  have := h (xs.length + j) v (by rw [List.getElem?_append_right (by omega), show xs.length + j - xs.length = j by omega, List.getElem?_append_left hj]; exact hv)
  rw [← Nat.add_assoc] at this
  exact this
/-- A slice value that reads as these elements, each of k cells. -/
def RowIs {α : Type} (k : Nat) (cells : α → List Value) (w : World) (v : Value) (xs : List α) : Prop :=
  (v = .slice none 0 0 ∧ xs = []) ∨ ∃ b off cap, v = .slice (some ⟨b, off, none⟩) xs.length cap ∧ xs.length ≤ cap ∧ cap ≤ maxLen ∧ ∀ j x, xs[j]? = some x → w.rangeAt b (off + j * k) (cells x)
section
variable {α : Type} {k : Nat} {cells : α → List Value}
theorem RowIs.form {w : World} {v : Value} {xs : List α} (h : RowIs k cells w v xs) : ∃ a c, v = .slice a xs.length c := by
  rcases h with ⟨rfl, rfl⟩ | ⟨b, off, c, rfl, _⟩
  · exact ⟨_, _, rfl⟩
  · exact ⟨_, _, rfl⟩
theorem RowIs.below {w w' : World} {v : Value} {xs : List α} (h : RowIs k cells w v xs) (hb : Below w.heap.size w w') : RowIs k cells w' v xs := by
  rcases h with h | ⟨b, off, c, h1, h2, h3, h4⟩
  · exact .inl h
  · exact .inr ⟨b, off, c, h1, h2, h3, fun j x hx => range_below (h4 j x hx) hb⟩
theorem RowIs.len {w : World} {v : Value} {xs : List α} (h : RowIs k cells w v xs) : xs.length ≤ maxLen := by
  rcases h with ⟨rfl, rfl⟩ | ⟨b, off, c, h1, h2, h3, h4⟩
  · exact Nat.zero_le _
  · omega
/-- The element at j. -/
theorem RowIs.at {w : World} {a : Option Addr} {n c : Nat} {xs : List α} (h : RowIs k cells w (.slice a n c) xs) {j : Nat} {x : α} (hj : xs[j]? = some x) : ∃ b off, a = some ⟨b, off, none⟩ ∧ n = xs.length ∧ w.rangeAt b (off + j * k) (cells x) := by
  rcases h with ⟨e, rfl⟩ | ⟨b, off, c, h1, h2, h3, h4⟩
  · cases hj
  · cases h1
    exact ⟨b, off, rfl, rfl, h4 j x hj⟩
theorem RowIs.nil (w : World) : RowIs k cells w (.slice none 0 0) ([] : List α) := .inl ⟨rfl, rfl⟩
/-- The same, and an empty slice wherever it points. -/
def RowL {α : Type} (k : Nat) (cells : α → List Value) (w : World) (v : Value) (xs : List α) : Prop := RowIs k cells w v xs ∨ ∃ ad, v = .slice (some ad) 0 0 ∧ xs = []
theorem RowL.form {w : World} {v : Value} {xs : List α} (h : RowL k cells w v xs) : ∃ a c, v = .slice a xs.length c := by
  rcases h with h | ⟨ad, rfl, rfl⟩
  · exact h.form
  · exact ⟨_, _, rfl⟩
theorem RowL.below {w w' : World} {v : Value} {xs : List α} (h : RowL k cells w v xs) (hb : Below w.heap.size w w') : RowL k cells w' v xs := by
  rcases h with h | h
  · exact .inl (h.below hb)
  · exact .inr h
theorem RowL.len {w : World} {v : Value} {xs : List α} (h : RowL k cells w v xs) : xs.length ≤ maxLen := by
  rcases h with h | ⟨ad, rfl, rfl⟩
  · exact h.len
  · exact Nat.zero_le _
theorem RowL.at {w : World} {a : Option Addr} {n c : Nat} {xs : List α} (h : RowL k cells w (.slice a n c) xs) {j : Nat} {x : α} (hj : xs[j]? = some x) : ∃ b off, a = some ⟨b, off, none⟩ ∧ n = xs.length ∧ w.rangeAt b (off + j * k) (cells x) := by
  rcases h with h | ⟨ad, _, rfl⟩
  · exact h.at hj
  · cases hj
theorem RowL.nil (w : World) : RowL k cells w (.slice none 0 0) ([] : List α) := .inl (RowIs.nil w)
end
/-- An input: its outpoint, its witness's slice, and its witness. -/
structure InM where
  id : List Nat
  k : Nat
  wv : Value
  W : List Nat
def InM.cells (i : InM) : List Value := bys i.id ++ ([.int .u32 (i.k : Nat)] ++ [i.wv])
def InM.out (i : InM) : List Value := bys i.id ++ [.int .u32 (i.k : Nat)]
structure InM.ok (w : World) (i : InM) : Prop where
  id : IsH i.id
  k : i.k ≤ 4294967295
  W : Byts w i.wv i.W
theorem InM.ok.below {w w' : World} {i : InM} (h : i.ok w) (hb : Below w.heap.size w w') : i.ok w' := ⟨h.id, h.k, h.W.below hb⟩
/-- An output. -/
structure OutM where
  a : Nat
  l : List Nat
  deriving DecidableEq
def OutM.cells (o : OutM) : List Value := [.int .u64 (o.a : Nat)] ++ (bys o.l ++ [])
structure OutM.ok (o : OutM) : Prop where
  a : o.a ≤ 18446744073709551615
  l : IsH o.l
def InsIs (w : World) (v : Value) (I : List InM) : Prop := (∀ i ∈ I, i.ok w) ∧ RowL 34 InM.cells w v I
def OutsIs (w : World) (v : Value) (O : List OutM) : Prop := (∀ o ∈ O, o.ok) ∧ RowL 33 OutM.cells w v O
theorem InsIs.below {w w' : World} {v : Value} {I : List InM} (h : InsIs w v I) (hb : Below w.heap.size w w') : InsIs w' v I := ⟨fun i hi => (h.1 i hi).below hb, h.2.below hb⟩
theorem OutsIs.below {w w' : World} {v : Value} {O : List OutM} (h : OutsIs w v O) (hb : Below w.heap.size w w') : OutsIs w' v O := ⟨h.1, h.2.below hb⟩
/-- A transaction. -/
structure TxM where
  iv : Value
  ov : Value
  I : List InM
  O : List OutM
  n : Nat
def TxM.cells (t : TxM) : List Value := [t.iv, t.ov, .int .u64 (t.n : Nat)]
structure TxM.ok (w : World) (t : TxM) : Prop where
  I : InsIs w t.iv t.I
  O : OutsIs w t.ov t.O
  n : t.n ≤ 18446744073709551615
theorem TxM.ok.below {w w' : World} {t : TxM} (h : t.ok w) (hb : Below w.heap.size w w') : t.ok w' := ⟨h.I.below hb, h.O.below hb, h.n⟩
def TxsIs (w : World) (v : Value) (T : List TxM) : Prop := (∀ t ∈ T, t.ok w) ∧ RowIs 3 TxM.cells w v T
theorem TxsIs.below {w w' : World} {v : Value} {T : List TxM} (h : TxsIs w v T) (hb : Below w.heap.size w w') : TxsIs w' v T := ⟨fun i hi => (h.1 i hi).below hb, h.2.below hb⟩
/-- What two inputs, outputs, transactions are told apart by. -/
def InM.key (i : InM) : List Nat × Nat × List Nat := (i.id, i.k, i.W)
def TxM.key (t : TxM) : List (List Nat × Nat × List Nat) × List OutM × Nat := (t.I.map InM.key, t.O, t.n)
theorem InM.cells_len {w : World} {i : InM} (h : i.ok w) : i.cells.length = 34 := by
  unfold InM.cells; rw [List.length_append, bys_len, h.id.1]; rfl
theorem OutM.cells_len {o : OutM} (h : o.ok) : o.cells.length = 33 := by
  unfold OutM.cells; rw [List.length_append, List.length_append, bys_len, h.l.1]; rfl
theorem size_in : (Tryz.prog.info? 75).map (·.size) = some 34 := by kernel_rfl
theorem size_outp : (Tryz.prog.info? 73).map (·.size) = some 33 := by kernel_rfl
theorem size_out : (Tryz.prog.info? 88).map (·.size) = some 33 := by kernel_rfl
theorem size_tx : (Tryz.prog.info? 53).map (·.size) = some 3 := by kernel_rfl
theorem size_h : (Tryz.prog.info? 25).map (·.size) = some 32 := by kernel_rfl
end Go.Proofs.YtnohfondkcbdnaaGreatDoor
/- Hashes, outpoints and outputs, compared. -/
namespace Go.Proofs.YtnohfondkcbdnaaGreatDoor
open Go.RowKit Go.Lib
set_option linter.unusedVariables false
set_option linter.unusedSimpArgs false

theorem run_eqItems_bys {P : Program} {e : TypeId} (w : World) (he : P.plainKey e = true) (hu : P.underlying e = some (.int .u8)) (d : Nat) (A B : List Nat) : ∀ is : List Nat, (∀ i ∈ is, i < A.length ∧ i < B.length) →
    (Op.eqItems (d + 1) e 1 (bys A).toArray (bys B).toArray is).run P w = .ok (is.all fun i => A.getD i 0 == B.getD i 0) w
  | [], _ => by simp [Op.eqItems]
  | i :: is, h => by
    have h1 := h i (List.mem_cons_self ..)
    have ha : (bys A).toArray[i * 1]? = some (.int .u8 (A.getD i 0 : Nat)) := by rw [Nat.mul_one, List.getElem?_toArray]; exact bys_get A i h1.1
    have hb : (bys B).toArray[i * 1]? = some (.int .u8 (B.getD i 0 : Nat)) := by rw [Nat.mul_one, List.getElem?_toArray]; exact bys_get B i h1.2
    simp only [Op.eqItems, Sem.run_bind, run_part_plain w he ha, run_part_plain w he hb, Result.andThen_ok, run_equalIn_int w d e .u8 .u8 _ _ hu]
    have ih := run_eqItems_bys w he hu d A B is (fun j hj => h j (List.mem_cons_of_mem _ hj))
    by_cases hc : A.getD i 0 = B.getD i 0
    · rw [List.all_cons, hc]
      simpa using ih
    · have hc2 : (((A.getD i 0 : Nat) : Int) == ((B.getD i 0 : Nat) : Int)) = false := by
        rw [beq_eq_false_iff_ne]; omega
      rw [List.all_cons, hc2, show (A.getD i 0 == B.getD i 0) = false from by rw [beq_eq_false_iff_ne]; exact hc]
      simp
theorem all_eq (A B : List Nat) (h : A.length = B.length) : ((List.range A.length).all fun i => A.getD i 0 == B.getD i 0) = decide (A = B) := by
  rw [Bool.eq_iff_iff, List.all_eq_true, decide_eq_true_iff]
  constructor
  · intro hh
    refine List.ext_getElem h fun i h1 h2 => ?_
    have := hh i (List.mem_range.2 h1)
    simpa [List.getD, List.getElem?_eq_getElem h1, List.getElem?_eq_getElem h2] using this
  · rintro rfl i _
    simp
theorem cells_u8 : Tryz.prog.cellsOf 5 = 1 := by kernel_rfl
theorem plain_u8 : Tryz.prog.plainKey 5 = true := by kernel_rfl
theorem eqH (w : World) (d : Nat) (A B : List Nat) (hA : IsH A) (hB : IsH B) : (Op.equalIn (d + 1 + 1) 25 (.agg (bys A).toArray) (.agg (bys B).toArray)).run Tryz.prog w = .ok (decide (A = B)) w := by
  obtain ⟨i, hi⟩ : ∃ i, Tryz.prog.info? 5 = some i := Option.isSome_iff_exists.1 (by kernel_rfl)
  rw [run_equalIn_array w (d + 1) _ _ Tryz.underlying25 hi, cells_u8, run_eqItems_bys w plain_u8 Tryz.underlying5 d A B _ (fun i hi => ⟨by rw [hA.1]; exact List.mem_range.1 hi, by rw [hB.1]; exact List.mem_range.1 hi⟩)]
  have := all_eq A B (by rw [hA.1, hB.1])
  rw [hA.1] at this
  rw [this]
theorem part_h (w : World) (xs : Array Value) (off : Nat) : (part 25 xs off).run Tryz.prog w = .ok (.agg (xs.extract off (off + 32))) w := by
  simp only [part, Sem.run_bind, Tryz.isAgg25, Tryz.sizeOf25, Result.andThen_ok, if_true, Sem.run_pure]
theorem part_op (w : World) (xs : Array Value) (off : Nat) : (part 73 xs off).run Tryz.prog w = .ok (.agg (xs.extract off (off + 33))) w := by
  simp only [part, Sem.run_bind, Tryz.isAgg73, Tryz.sizeOf73, Result.andThen_ok, if_true, Sem.run_pure]
theorem ext_bys (X : List Value) (H : List Nat) (Y : List Value) (hH : IsH H) (n : Nat) (hn : n = X.length) : (X ++ (bys H ++ Y)).toArray.extract n (n + 32) = (bys H).toArray := by
  subst hn
  rw [List.extract_toArray, List.extract_eq_take_drop, List.drop_left, show X.length + 32 - X.length = (bys H).length by rw [bys_len, hH.1]; omega, List.take_left]
theorem flds_op : (Tryz.prog.fieldsOf 73).toList.map (fun f => (f.name, f.type, f.offset)) = [("ID", 25, 0), ("N", 71, 32)] := by kernel_rfl
theorem flds_out : (Tryz.prog.fieldsOf 88).toList.map (fun f => (f.name, f.type, f.offset)) = [("Amount", 26, 0), ("Lock", 25, 1)] := by kernel_rfl
theorem eqFields2 (d : Nat) (xs ys : Array Value) (w : World) (fs : List Field) (n1 n2 : String) (t1 t2 : TypeId) (o1 o2 : Nat) (h : fs.map (fun f => (f.name, f.type, f.offset)) = [(n1, t1, o1), (n2, t2, o2)]) (h1 : n1 ≠ "_") (h2 : n2 ≠ "_") (P : Program) (x1 y1 x2 y2 : Value) (r1 r2 : Bool)
    (p1 : (part t1 xs o1).run P w = .ok x1 w) (q1 : (part t1 ys o1).run P w = .ok y1 w) (e1 : (Op.equalIn d t1 x1 y1).run P w = .ok r1 w)
    (p2 : (part t2 xs o2).run P w = .ok x2 w) (q2 : (part t2 ys o2).run P w = .ok y2 w) (e2 : (Op.equalIn d t2 x2 y2).run P w = .ok r2 w) : (Op.eqFields d xs ys fs).run P w = .ok (r1 && r2) w := by
  match fs, h with
  | [f, g], h =>
    simp only [List.map_cons, List.map_nil, List.cons.injEq, Prod.mk.injEq, and_true] at h
    obtain ⟨⟨rfl, rfl, rfl⟩, rfl, rfl, rfl⟩ := h
    simp only [Op.eqFields]
    rw [if_pos h1, if_pos h2]
    simp only [Sem.run_bind, p1, q1, e1, Result.andThen_ok]
    cases r1
    · simp
    · simp only [Bool.not_true, Bool.false_eq_true, if_false, Sem.run_bind, p2, q2, e2, Result.andThen_ok]
      cases r2 <;> simp
theorem plain_u32 : Tryz.prog.plainKey 71 = true := by kernel_rfl
theorem plain_u64 : Tryz.prog.plainKey 26 = true := by kernel_rfl
theorem get_end (X : List Value) (v : Value) (n : Nat) (hn : n = X.length) : (X ++ [v]).toArray[n]? = some v := by
  subst hn; rw [List.getElem?_toArray, List.getElem?_append_right (Nat.le_refl _), Nat.sub_self]; rfl
theorem beq_cast (a b : Nat) : (((a : Nat) : Int) == ((b : Nat) : Int)) = decide (a = b) := by
  rw [Bool.eq_iff_iff, beq_iff_eq, decide_eq_true_iff]; omega
theorem eqOp (w : World) (d : Nat) (i j : InM) (hi : IsH i.id) (hj : IsH j.id) : (Op.equalIn (d + 1 + 1 + 1) 73 (.agg i.out.toArray) (.agg j.out.toArray)).run Tryz.prog w = .ok (decide (i.id = j.id) && decide (i.k = j.k)) w := by
  rw [run_equalIn_struct w _ _ _ _ (by kernel_rfl) (by kernel_rfl)]
  refine eqFields2 _ _ _ _ _ _ _ _ _ _ _ flds_op (by decide) (by decide) _ (.agg (bys i.id).toArray) (.agg (bys j.id).toArray) (.int .u32 (i.k : Nat)) (.int .u32 (j.k : Nat)) _ _ ?_ ?_ (eqH w d _ _ hi hj) ?_ ?_ ?_
  · rw [part_h]; congr 2; exact ext_bys [] i.id [.int .u32 (i.k : Nat)] hi 0 rfl
  · rw [part_h]; congr 2; exact ext_bys [] j.id [.int .u32 (j.k : Nat)] hj 0 rfl
  · exact run_part_plain w plain_u32 (get_end _ _ _ (by rw [bys_len, hi.1]))
  · exact run_part_plain w plain_u32 (get_end _ _ _ (by rw [bys_len, hj.1]))
  · rw [run_equalIn_int w (d + 1) _ _ _ _ _ Tryz.underlying71, beq_cast]
theorem eqOut (w : World) (d : Nat) (i j : OutM) (hi : i.ok) (hj : j.ok) : (Op.equalIn (d + 1 + 1 + 1) 88 (.agg i.cells.toArray) (.agg j.cells.toArray)).run Tryz.prog w = .ok (decide (i = j)) w := by
  rw [run_equalIn_struct w _ _ _ _ (by kernel_rfl) (by kernel_rfl)]
  have := eqFields2 (d + 1 + 1) i.cells.toArray j.cells.toArray w _ _ _ _ _ _ _ flds_out (by decide) (by decide) Tryz.prog (.int .u64 (i.a : Nat)) (.int .u64 (j.a : Nat)) (.agg (bys i.l).toArray) (.agg (bys j.l).toArray) _ _
    (run_part_plain w plain_u64 rfl) (run_part_plain w plain_u64 rfl) (run_equalIn_int w (d + 1) _ _ _ _ _ Tryz.underlying26)
    (by rw [part_h]; congr 2; exact ext_bys [.int .u64 (i.a : Nat)] i.l [] hi.l 1 rfl) (by rw [part_h]; congr 2; exact ext_bys [.int .u64 (j.a : Nat)] j.l [] hj.l 1 rfl) (eqH w d _ _ hi.l hj.l)
  have e : (decide (i.a = j.a) && decide (i.l = j.l)) = decide (i = j) := by
    rw [Bool.eq_iff_iff, Bool.and_eq_true, decide_eq_true_iff, decide_eq_true_iff, decide_eq_true_iff]
    cases i; cases j
    simp
  rw [this, beq_cast, e]
end Go.Proofs.YtnohfondkcbdnaaGreatDoor
/- A region that draws its order, whose last operation overwrites what the region reads: the condition on the world is asked behind every operation but that last one, for which all others are waited for. Nothing of the dump stands here. -/
namespace Go.Proofs.YtnohfondkcbdnaaGreatDoor
open Go.RowKit Go.Lib
set_option linter.unusedVariables false

section
variable {P : Program} {ops : Array Oper} {Q : Exit → Act → World → Prop} {md : Region.Mode} {S : World → Prop} {t : Nat}

/-- Whatever order is picked from here on, and S holds behind every operation but number t. -/
def wpAnyT (P : Program) (md : Region.Mode) (ops : Array Oper) (Q : Exit → Act → World → Prop) (S : World → Prop) (t : Nat) : Nat → Array Bool → Act → World → Prop
  | 0, listed, a, w => Region.ready md ops listed = [] ∧ Q .normal a w
  | fuel + 1, listed, a, w =>
    (Region.ready md ops listed = [] → Q .normal a w) ∧
    ∀ i ∈ Region.ready md ops listed, wpOp P ops Q i (fun a' w' => (i ≠ t → S w') ∧ wpAnyT P md ops Q S t fuel (listed.setIfInBounds i true) a' w') a w

theorem wpAny_of_T : ∀ (fuel : Nat) (listed : Array Bool) (a : Act) (w : World), wpAnyT P md ops Q S t fuel listed a w → wpAny P md ops Q fuel listed a w
  | 0, _, _, _, h => h
  | fuel + 1, _, _, _, h => ⟨h.1, fun i hi => wpOp_mono (fun a' w' h' => wpAny_of_T fuel _ a' w' h'.2) (h.2 i hi)⟩

theorem wpAnyT_first {i : Nat} {oi : Oper} {v : Value} (hi : ops[i]? = some oi) (hsel : ∀ (j : Nat) (o : Oper) cs b, ops[j]? = some o → o.op ≠ .select cs b)
    (hQ : ∀ c a w, Q (.panic c) (a.put oi.dst v) w → Q (.panic c) a w) (ht : Region.waitsFor md ops t i = true) :
    ∀ (fuel : Nat) (listed : Array Bool) (a : Act) (w : World),
      (∀ j oj, ops[j]? = some oj → j ≠ i → listed.getD j true = false → (∀ e ∈ oj.after, Region.binds md e = true → e.on ≠ i) → oi.apart ops oj = true) →
      i ∈ Region.ready md ops listed → YieldsIf P ops S oi v a → S w →
      wpAnyT P md ops Q S t fuel (listed.setIfInBounds i true) (a.put oi.dst v) w → wpAnyT P md ops Q S t (fuel + 1) listed a w := by
  intro fuel
  induction fuel with
  | zero =>
    intro listed a w _ hr hy hS H
    refine ⟨fun h => (by rw [h] at hr; cases hr), fun j hj => ?_⟩
    by_cases hji : j = i
    · subst hji; exact hy.wpOp hi hS ⟨fun _ => hS, H⟩
    · have := ready_mono hj hji
      rw [H.1] at this
      cases this
  | succ fuel ih =>
    intro listed a w hfree hr hy hS H
    refine ⟨fun h => (by rw [h] at hr; cases hr), fun j hj => ?_⟩
    by_cases hji : j = i
    · subst hji; exact hy.wpOp hi hS ⟨fun _ => hS, H⟩
    · have h1 := H.2 j (ready_mono hj hji)
      obtain ⟨hjun, oj, hoj, hall⟩ := mem_ready.1 hj
      have hnot : ∀ e ∈ oj.after, Region.binds md e = true → e.on ≠ i := fun e he hb heq => by
        have h1 := hall e he hb
        have h0 := (mem_ready.1 hr).1
        rw [heq] at h1
        rcases Nat.lt_or_ge i listed.size with h' | h'
        · simp [h'] at h0 h1; rw [h0] at h1; cases h1
        · simp [Array.getElem?_eq_none h'] at h1
      have hjt : j ≠ t := by
        rintro rfl
        obtain ⟨o', ho', e, he, hb, hon⟩ := Region.waitsFor_spec ht
        have : o' = oj := Option.some.inj (ho'.symm.trans hoj)
        subst this
        exact hnot e he hb hon
      have h2 := wpOp_putIf hoj (hfree j oj hoj hji hjun hnot) (fun cs b => hsel i oi cs b hi) (fun cs b => hsel j oj cs b hoj) hQ hy h1
      have hfree' : ∀ k ok, ops[k]? = some ok → k ≠ i → (listed.setIfInBounds j true).getD k true = false →
          (∀ e ∈ ok.after, Region.binds md e = true → e.on ≠ i) → oi.apart ops ok = true := fun k ok hk hki hun hno => by
        refine hfree k ok hk hki ?_ hno
        by_cases hjk : j = k
        · subst hjk; exact hjun
        · rw [getD_set_ne true hjk] at hun; exact hun
      refine wpOp_mono (fun a' w' h3 => ⟨fun _ => h3.2.1 hjt, ih (listed.setIfInBounds j true) a' w' hfree' (ready_mono hr (Ne.symm hji)) h3.1 (h3.2.1 hjt) ?_⟩) h2
      rw [Array.setIfInBounds_comm _ _ hji]
      exact h3.2.2

theorem wpAnyT_take {i : Nat} {oi : Oper} {v : Value} {fuel : Nat} {listed : Array Bool} {a : Act} {w : World} (hi : ops[i]? = some oi)
    (hs : Region.noSelect ops = true) (hf : Region.free md ops listed i = true) (hr : (Region.ready md ops listed).contains i = true) (ht : Region.waitsFor md ops t i = true)
    (hQ : ∀ c a w, Q (.panic c) (a.put oi.dst v) w → Q (.panic c) a w) (hy : YieldsIf P ops S oi v a) (hS : S w)
    (h : wpAnyT P md ops Q S t fuel (listed.setIfInBounds i true) (a.put oi.dst v) w) : wpAnyT P md ops Q S t (fuel + 1) listed a w :=
  wpAnyT_first hi (Region.noSelect_spec hs) hQ ht fuel listed a w (Region.free_spec hi hf) (by simpa using hr) hy hS h

/-- One alone may come up. -/
theorem wpAnyT_one {i : Nat} {oi : Oper} {fuel : Nat} {listed : Array Bool} {a : Act} {w : World} (hr : Region.ready md ops listed = [i]) (hi : ops[i]? = some oi) (hg : oi.guard = none)
    (h : ∀ K : Act → World → Prop, (∀ a' w', (i ≠ t → S w') → wpAnyT P md ops Q S t fuel (listed.setIfInBounds i true) a' w' → K a' w') → oi.wp P a w K Q) : wpAnyT P md ops Q S t (fuel + 1) listed a w := by
  refine ⟨(fun h0 => by rw [hr] at h0; cases h0), fun j hj => ?_⟩
  rw [hr] at hj
  obtain rfl : j = i := by simpa using hj
  unfold wpOp
  simp only [hi]
  rw [if_pos (by simp [Region.wanted, hg])]
  exact .inl <| h (fun a' w' => (j ≠ t → S w') ∧ wpAnyT P md ops Q S t fuel (listed.setIfInBounds j true) a' w') (fun a' w' h1 h2 => ⟨h1, h2⟩)
theorem wpAnyT_done {listed : Array Bool} {a : Act} {w : World} (hr : Region.ready md ops listed = []) (h : Q .normal a w) : ∀ fuel, wpAnyT P md ops Q S t fuel listed a w
  | 0 => ⟨hr, h⟩
  | _ + 1 => ⟨fun _ => h, by rw [hr]; simp⟩
theorem wp_region_T (S : World → Prop) (t : Nat) {id : Nat} {a : Act} {w : World} (hm : P.follows .mixedOrders = true)
    (h : wpAnyT P .any ops Q S t ops.size (Array.replicate ops.size false) a w.drew) : (Code.region id ops true).wp P Q a w :=
  wp_region_any hm (wpAny_of_T _ _ _ _ h)
end
end Go.Proofs.YtnohfondkcbdnaaGreatDoor
/- As XReg, but S is asked only while number t has not come; an operation that reads no memory may come behind it. -/
namespace Go.Proofs.YtnohfondkcbdnaaGreatDoor
open Go.RowKit Go.Lib
set_option linter.unusedVariables false

section
variable {P : Program} {ops : Array Oper} {Q : Exit → Act → World → Prop} {md : Region.Mode} {S : World → Prop} {t : Nat}

/-- Whatever order is picked from here on, and S holds behind every operation but number t. -/
def wpAnyU (P : Program) (md : Region.Mode) (ops : Array Oper) (Q : Exit → Act → World → Prop) (S : World → Prop) (t : Nat) : Nat → Array Bool → Act → World → Prop
  | 0, listed, a, w => Region.ready md ops listed = [] ∧ Q .normal a w
  | fuel + 1, listed, a, w =>
    (Region.ready md ops listed = [] → Q .normal a w) ∧
    ∀ i ∈ Region.ready md ops listed, wpOp P ops Q i (fun a' w' => (i ≠ t → listed.getD t true = false → S w') ∧ wpAnyU P md ops Q S t fuel (listed.setIfInBounds i true) a' w') a w

theorem wpAny_of_U : ∀ (fuel : Nat) (listed : Array Bool) (a : Act) (w : World), wpAnyU P md ops Q S t fuel listed a w → wpAny P md ops Q fuel listed a w
  | 0, _, _, _, h => h
  | fuel + 1, _, _, _, h => ⟨h.1, fun i hi => wpOp_mono (fun a' w' h' => wpAny_of_U fuel _ a' w' h'.2) (h.2 i hi)⟩

theorem wpAnyU_first {i : Nat} {oi : Oper} {v : Value} (hi : ops[i]? = some oi) (hsel : ∀ (j : Nat) (o : Oper) cs b, ops[j]? = some o → o.op ≠ .select cs b)
    (hQ : ∀ c a w, Q (.panic c) (a.put oi.dst v) w → Q (.panic c) a w) (ht : Region.waitsFor md ops t i = true) :
    ∀ (fuel : Nat) (listed : Array Bool) (a : Act) (w : World),
      (∀ j oj, ops[j]? = some oj → j ≠ i → listed.getD j true = false → (∀ e ∈ oj.after, Region.binds md e = true → e.on ≠ i) → oi.apart ops oj = true) →
      listed.getD t true = false → i ∈ Region.ready md ops listed → YieldsIf P ops S oi v a → S w →
      wpAnyU P md ops Q S t fuel (listed.setIfInBounds i true) (a.put oi.dst v) w → wpAnyU P md ops Q S t (fuel + 1) listed a w := by
  intro fuel
  induction fuel with
  | zero =>
    intro listed a w _ hl hr hy hS H
    refine ⟨fun h => (by rw [h] at hr; cases hr), fun j hj => ?_⟩
    by_cases hji : j = i
    · subst hji; exact hy.wpOp hi hS ⟨fun _ _ => hS, H⟩
    · have := ready_mono hj hji
      rw [H.1] at this
      cases this
  | succ fuel ih =>
    intro listed a w hfree hl hr hy hS H
    refine ⟨fun h => (by rw [h] at hr; cases hr), fun j hj => ?_⟩
    by_cases hji : j = i
    · subst hji; exact hy.wpOp hi hS ⟨fun _ _ => hS, H⟩
    · have h1 := H.2 j (ready_mono hj hji)
      obtain ⟨hjun, oj, hoj, hall⟩ := mem_ready.1 hj
      have hnot : ∀ e ∈ oj.after, Region.binds md e = true → e.on ≠ i := fun e he hb heq => by
        have h1 := hall e he hb
        have h0 := (mem_ready.1 hr).1
        rw [heq] at h1
        rcases Nat.lt_or_ge i listed.size with h' | h'
        · simp [h'] at h0 h1; rw [h0] at h1; cases h1
        · simp [Array.getElem?_eq_none h'] at h1
      have hjt : j ≠ t := by
        rintro rfl
        obtain ⟨o', ho', e, he, hb, hon⟩ := Region.waitsFor_spec ht
        have : o' = oj := Option.some.inj (ho'.symm.trans hoj)
        subst this
        exact hnot e he hb hon
      have h2 := wpOp_putIf hoj (hfree j oj hoj hji hjun hnot) (fun cs b => hsel i oi cs b hi) (fun cs b => hsel j oj cs b hoj) hQ hy h1
      have hfree' : ∀ k ok, ops[k]? = some ok → k ≠ i → (listed.setIfInBounds j true).getD k true = false →
          (∀ e ∈ ok.after, Region.binds md e = true → e.on ≠ i) → oi.apart ops ok = true := fun k ok hk hki hun hno => by
        refine hfree k ok hk hki ?_ hno
        by_cases hjk : j = k
        · subst hjk; exact hjun
        · rw [getD_set_ne true hjk] at hun; exact hun
      have hit : i ≠ t := by
        rintro rfl
        obtain ⟨o', ho', e, he, hb, hon⟩ := Region.waitsFor_spec ht
        have h9 := (mem_ready.1 hr)
        obtain ⟨hu, o9, ho9, hall9⟩ := h9
        have : o' = o9 := Option.some.inj (ho'.symm.trans ho9)
        subst this
        have := hall9 e he hb
        rw [hon] at this
        rcases Nat.lt_or_ge i listed.size with h' | h'
        · simp [h'] at hl this; rw [hl] at this; cases this
        · simp [Array.getElem?_eq_none h'] at hl
      have hlj : (listed.setIfInBounds j true).getD t true = false := by rw [getD_set_ne true hjt]; exact hl
      have hli : (listed.setIfInBounds i true).getD t true = false := by rw [getD_set_ne true hit]; exact hl
      refine wpOp_mono (fun a' w' h3 => ⟨fun _ _ => h3.2.1 hjt hli, ih (listed.setIfInBounds j true) a' w' hfree' hlj (ready_mono hr (Ne.symm hji)) h3.1 (h3.2.1 hjt hli) ?_⟩) h2
      rw [Array.setIfInBounds_comm _ _ hji]
      exact h3.2.2

theorem wpAnyU_take {i : Nat} {oi : Oper} {v : Value} {fuel : Nat} {listed : Array Bool} {a : Act} {w : World} (hi : ops[i]? = some oi)
    (hs : Region.noSelect ops = true) (hf : Region.free md ops listed i = true) (hr : (Region.ready md ops listed).contains i = true) (ht : Region.waitsFor md ops t i = true)
    (hl : listed.getD t true = false) (hQ : ∀ c a w, Q (.panic c) (a.put oi.dst v) w → Q (.panic c) a w) (hy : YieldsIf P ops S oi v a) (hS : S w)
    (h : wpAnyU P md ops Q S t fuel (listed.setIfInBounds i true) (a.put oi.dst v) w) : wpAnyU P md ops Q S t (fuel + 1) listed a w :=
  wpAnyU_first hi (Region.noSelect_spec hs) hQ ht fuel listed a w (Region.free_spec hi hf) hl (by simpa using hr) hy hS h

theorem wpAnyU_first0 {i : Nat} {oi : Oper} {v : Value} (hi : ops[i]? = some oi) (hsel : ∀ (j : Nat) (o : Oper) cs b, ops[j]? = some o → o.op ≠ .select cs b)
    (hQ : ∀ c a w, Q (.panic c) (a.put oi.dst v) w → Q (.panic c) a w) (hit : i ≠ t) :
    ∀ (fuel : Nat) (listed : Array Bool) (a : Act) (w : World),
      (∀ j oj, ops[j]? = some oj → j ≠ i → listed.getD j true = false → (∀ e ∈ oj.after, Region.binds md e = true → e.on ≠ i) → oi.apart ops oj = true) →
      i ∈ Region.ready md ops listed → YieldsIf P ops (fun _ => True) oi v a → (listed.getD t true = false → S w) →
      wpAnyU P md ops Q S t fuel (listed.setIfInBounds i true) (a.put oi.dst v) w → wpAnyU P md ops Q S t (fuel + 1) listed a w := by
  intro fuel
  induction fuel with
  | zero =>
    intro listed a w _ hr hy hS H
    refine ⟨fun h => (by rw [h] at hr; cases hr), fun j hj => ?_⟩
    by_cases hji : j = i
    · subst hji; exact hy.wpOp hi True.intro ⟨fun _ hl => hS hl, H⟩
    · have := ready_mono hj hji
      rw [H.1] at this
      cases this
  | succ fuel ih =>
    intro listed a w hfree hr hy hS H
    refine ⟨fun h => (by rw [h] at hr; cases hr), fun j hj => ?_⟩
    by_cases hji : j = i
    · subst hji; exact hy.wpOp hi True.intro ⟨fun _ hl => hS hl, H⟩
    · have h1 := H.2 j (ready_mono hj hji)
      obtain ⟨hjun, oj, hoj, hall⟩ := mem_ready.1 hj
      have hnot : ∀ e ∈ oj.after, Region.binds md e = true → e.on ≠ i := fun e he hb heq => by
        have h1 := hall e he hb
        have h0 := (mem_ready.1 hr).1
        rw [heq] at h1
        rcases Nat.lt_or_ge i listed.size with h' | h'
        · simp [h'] at h0 h1; rw [h0] at h1; cases h1
        · simp [Array.getElem?_eq_none h'] at h1
      have h2 := wpOp_putIf hoj (hfree j oj hoj hji hjun hnot) (fun cs b => hsel i oi cs b hi) (fun cs b => hsel j oj cs b hoj) hQ hy h1
      have hfree' : ∀ k ok, ops[k]? = some ok → k ≠ i → (listed.setIfInBounds j true).getD k true = false →
          (∀ e ∈ ok.after, Region.binds md e = true → e.on ≠ i) → oi.apart ops ok = true := fun k ok hk hki hun hno => by
        refine hfree k ok hk hki ?_ hno
        by_cases hjk : j = k
        · subst hjk; exact hjun
        · rw [getD_set_ne true hjk] at hun; exact hun
      have e1 : (listed.setIfInBounds i true).getD t true = listed.getD t true := getD_set_ne true hit
      refine wpOp_mono (fun a' w' h3 => ⟨fun hjt hl => h3.2.1 hjt (e1.trans hl), ih (listed.setIfInBounds j true) a' w' hfree' (ready_mono hr (Ne.symm hji)) h3.1 (fun hl => ?_) ?_⟩) h2
      · rcases Nat.decEq j t with hjt | hjt
        · exact h3.2.1 hjt (e1.trans (by rw [getD_set_ne true hjt] at hl; exact hl))
        · subst hjt
          rcases Nat.lt_or_ge j listed.size with h' | h'
          · simp [h'] at hl
          · simp at hl
      rw [Array.setIfInBounds_comm _ _ hji]
      exact h3.2.2

theorem wpAnyU_take0 {i : Nat} {oi : Oper} {v : Value} {fuel : Nat} {listed : Array Bool} {a : Act} {w : World} (hi : ops[i]? = some oi)
    (hs : Region.noSelect ops = true) (hf : Region.free md ops listed i = true) (hr : (Region.ready md ops listed).contains i = true) (hit : i ≠ t)
    (hQ : ∀ c a w, Q (.panic c) (a.put oi.dst v) w → Q (.panic c) a w) (hy : YieldsIf P ops (fun _ => True) oi v a) (hS : listed.getD t true = false → S w)
    (h : wpAnyU P md ops Q S t fuel (listed.setIfInBounds i true) (a.put oi.dst v) w) : wpAnyU P md ops Q S t (fuel + 1) listed a w :=
  wpAnyU_first0 hi (Region.noSelect_spec hs) hQ hit fuel listed a w (Region.free_spec hi hf) (by simpa using hr) hy hS h

/-- One alone may come up. -/
theorem wpAnyU_one {i : Nat} {oi : Oper} {fuel : Nat} {listed : Array Bool} {a : Act} {w : World} (hr : Region.ready md ops listed = [i]) (hi : ops[i]? = some oi) (hg : oi.guard = none)
    (h : ∀ K : Act → World → Prop, (∀ a' w', (i ≠ t → listed.getD t true = false → S w') → wpAnyU P md ops Q S t fuel (listed.setIfInBounds i true) a' w' → K a' w') → oi.wp P a w K Q) : wpAnyU P md ops Q S t (fuel + 1) listed a w := by
  refine ⟨(fun h0 => by rw [hr] at h0; cases h0), fun j hj => ?_⟩
  rw [hr] at hj
  obtain rfl : j = i := by simpa using hj
  unfold wpOp
  simp only [hi]
  rw [if_pos (by simp [Region.wanted, hg])]
  exact .inl <| h (fun a' w' => (j ≠ t → listed.getD t true = false → S w') ∧ wpAnyU P md ops Q S t fuel (listed.setIfInBounds j true) a' w') (fun a' w' h1 h2 => ⟨h1, h2⟩)
theorem wpAnyU_done {listed : Array Bool} {a : Act} {w : World} (hr : Region.ready md ops listed = []) (h : Q .normal a w) : ∀ fuel, wpAnyU P md ops Q S t fuel listed a w
  | 0 => ⟨hr, h⟩
  | _ + 1 => ⟨fun _ => h, by rw [hr]; simp⟩
theorem wp_region_U (S : World → Prop) (t : Nat) {id : Nat} {a : Act} {w : World} (hm : P.follows .mixedOrders = true)
    (h : wpAnyU P .any ops Q S t ops.size (Array.replicate ops.size false) a w.drew) : (Code.region id ops true).wp P Q a w :=
  wp_region_any hm (wpAny_of_U _ _ _ _ h)
end
end Go.Proofs.YtnohfondkcbdnaaGreatDoor
