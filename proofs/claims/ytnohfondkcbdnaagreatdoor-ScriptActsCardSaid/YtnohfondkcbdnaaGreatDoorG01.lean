/- Small words that serve every claim of this project: rows of integers that came in; tables that a row lists. Nothing of the dump stands here. -/
import Derived.WalkKit
import Derived.Below
import Derived.Lib.LaidTab
import Derived.LaidLaws
import Derived.LaidMore
import Derived.OpenShut
import Derived.Laws.AppendOwn
import Derived.Laws.OwnMore
import Derived.OwnWalk
import Derived.Maps.AppendAt
import Derived.Deep.AppendLies
import Derived.Lib.AppendStr
import Derived.Laws.AppendOwnNone
import Derived.Lib.Hide
import Derived.Test.YtnohfondkcbdnaaGreatDoorProg
import Derived.Deep.WholeRow
import Derived.Deep.MidRow
import Derived.Deep.DrawnRows
import Derived.Laws.BitsAllLaws
import Derived.BigQuiet
import Derived.Deep.QuietTactic
import Derived.Deep.LoopGhost
import Derived.Deep.DeepCutAuto
import Derived.Deep.CutBlock
import Derived.Outline
import Derived.WalkSmall
import Derived.WalkSpells
import Derived.WalkLawsBesides
import Derived.StillTailTactics
import Derived.Laws.Externs
import Derived.WalkMore
namespace Go.Proofs.YtnohfondkcbdnaaGreatDoor
open Go.RowKit Go.Lib
set_option linter.unusedVariables false

/-- A slice of integers that came in: nil; or a row of 'cap' cells, the numbers 'zs'. -/
def IsRow (k : IntKind) (w : World) (a : Option Addr) (len cap : Nat) (zs : List Int) : Prop :=
  (a = none ∧ len = 0 ∧ cap = 0 ∧ zs = []) ∨
  ∃ x, a = some x ∧ len ≤ cap ∧ cap ≤ maxLen ∧ zs.length = cap ∧ (∀ i, i < zs.length → w.cell? (x.add i) = some (.int k (zs.getD i 0))) ∧ ∀ n ∈ zs, (Lit.int k n).wf = true

theorem cellb {w w1 : World} (h : Below w.heap.size w w1) {a : Addr} {v : Value} (hc : w.cell? a = some v) : w1.cell? a = some v := (h.cell (World.block_lt_of_cell? w a hc)).trans hc

theorem laid_at {P : Program} {w : World} {n : String} {d : DataW Unit} : ∀ {l : List (String × DataW Unit)} {ps : List MemPlace}, DataW.LaidVars P w l ps → (n, d) ∈ l →
    ∃ g t cs fuel p, P.globalNamed n = some g ∧ (P.globals[g]?).map (·.type) = some t ∧ w.var? P n = some cs ∧ DataW.trod (fun _ => ()) P w 0 (fun _ => true) false fuel t cs.toList = some (d, p)
  | [], _, _, hm => by cases hm
  | (m, e) :: r, ps, h, hm => by
    obtain ⟨g, t, cs, fuel, p, q, h1, h2, h3, h4, h5, _⟩ := h
    rcases List.mem_cons.1 hm with e1 | hm
    · cases e1; exact ⟨g, t, cs, fuel, p, h1, h2, h3, h4⟩
    · exact laid_at h5 hm

/-- A listed table of integers: its cells. -/
theorem tab_of_laid {P : Program} {W : World} {name : String} {k : IntKind} {zs : List Int} {l : List (String × DataW Unit)} {g : Nat} {t e : TypeId} {n : Nat}
    (hp : laidMet P l W) (hm : (name, tabData k zs) ∈ l) (hg : P.globalNamed name = some g) (hty : (P.globals[g]?).map (·.type) = some t)
    (ht : P.underlying t = some (.array n e)) (he : P.underlying e = some (.int k)) (hce : P.cellsOf e = 1) (hct : P.cellsOf t = n) : TabIs P W name k zs := by
  obtain ⟨ps, hl, _⟩ := hp
  obtain ⟨g', t', cs, fuel, p, hg', ht', hvar, hd⟩ := laid_at hl hm
  obtain rfl := Option.some.inj (hg.symm.trans hg')
  obtain rfl := Option.some.inj (hty.symm.trans ht')
  unfold TabIs
  rw [hvar, ← cells_of_tab ht he hce hct hd]

theorem tabIs_below {P : Program} {w w' : World} {name : String} {k : IntKind} {zs : List Int} (h : TabIs P w name k zs) (hb : Below w.heap.size w w') : TabIs P w' name k zs := by
  unfold TabIs World.var? at *
  cases hg : P.globalNamed name with
  | none => simp [hg] at h
  | some g =>
    simp only [hg, Option.bind_some] at h ⊢
    have hlt : g < w.heap.size := by
      rcases Nat.lt_or_ge g w.heap.size with h' | h'
      · exact h'
      · rw [Array.getElem?_eq_none h'] at h; simp at h
    rw [hb.block g hlt]
    exact h

/-! ### Rows of the call's own -/
theorem add_nospot (g j : Nat) : (⟨g, 0, none⟩ : Addr).add j = ⟨g, j, none⟩ := by unfold Addr.add; split <;> simp_all
theorem own_base {w : World} {base : Nat} {e : TypeId} {size n : Nat} {v : Value} {xs : List Value} (h : w.ownsRow base e size v n xs) (k : Nat) (hk : v.ownBlock = some k) : base ≤ k ∧ k < w.heap.size :=
  h.lt k hk
theorem alloc_top (w : World) (o : Obj) : (w.alloc o).heap[w.heap.size]? = some o := by unfold World.alloc; exact Array.getElem?_push_size
/-- append(v, y), the variadic's box just laid. -/
theorem app1 {P : Program} {ops : Array Oper} {rest : List Oper} {o : Oper} {a : Act} {Q : Exit → Act → World → Prop} {W : World} (base : Nat) (hgd : o.guard = none) (s x : Operand) (t e : TypeId) (z : Value) (bytes : Nat)
    (ho : o.op = .call { callee := .builtin .append, args := #[s, x], argTypes := #[t, t] })
    (ht : P.underlying t = some (.slice e)) (hinfo : (P.info? e).map (fun i => (i.zero, i.size, i.bytes)) = some (some z, 1, bytes)) (hz : z.cells.size = 1) (hb0 : 0 < bytes)
    (v : Value) (xs : List Value) (y : Value) (hs : a.eval s = v) (hx : a.eval x = .slice (some ⟨W.heap.size, 0, none⟩) 1 1) (h1 : y.oneCell' = true)
    (HO : W.ownsRow base e 1 v xs.length xs) (hbase : base ≤ W.heap.size) (hl : (xs.length + 1) * bytes ≤ 140737488355328)
    (h : ∀ v1 w1, w1.ownsRow base e 1 v1 (xs ++ [y]).length (xs ++ [y]) → (∀ B w0, Below B w0 W → B ≤ base → Below B w0 w1) → W.grownBy w1 v.ownBlock → W.heap.size < w1.heap.size → wpList P ops Q rest (a.put o.dst v1) w1) :
    wpList P ops Q (o :: rest) a (W.alloc (.cells #[y] e)) := by
  obtain ⟨i0, hi, hzz⟩ := Option.map_eq_some_iff.1 hinfo
  simp only [Prod.mk.injEq] at hzz
  obtain ⟨hz0, hz1, hz2⟩ := hzz
  have hlen : xs.length + 1 ≤ 140737488355328 := Nat.le_trans (Nat.le_mul_of_pos_right _ hb0) hl
  refine wpList_append_own (W.alloc (.cells #[y] e)) hgd s x t ho base e i0 z 1 bytes ht hi hz0 hz1 hz2 hz (by omega) v xs.length xs hs (HO.alloc _) ⟨W.heap.size, 0, none⟩ 1 1 [y] hx rfl
    (World.news_of_block (cs := #[y]) (t := e) (fr := (0, 0)) (alloc_top W _)) (by simpa using h1) (by simp only [maxLen]; omega) hl (by simp; omega) ?_
  intro v1 w1 hown hg _
  have hg2 : W.grownBy w1 v.ownBlock := World.grownBy.trans (World.grownBy_alloc W _ _) hg
  have hsz : W.heap.size < w1.heap.size := by have := hg.size; simp at this; omega
  refine h v1 w1 (by simpa using hown) (fun B w0 HB hB => HB.grown hg2 (by omega) (fun k hk => Nat.le_trans hB (HO.lt k hk).1)) hg2 hsz
end Go.Proofs.YtnohfondkcbdnaaGreatDoor
/- Byte slices: what one reads as, and append onto one of the call's own. Nothing of the dump stands here. -/
namespace Go.Proofs.YtnohfondkcbdnaaGreatDoor
open Go.RowKit Go.Lib
set_option linter.unusedVariables false

/-- Bytes as values. -/
def bys (L : List Nat) : List Value := L.map fun p : Nat => Value.int .u8 (p : Int)
theorem bys_len (L : List Nat) : (bys L).length = L.length := by simp [bys]
theorem bys_get (L : List Nat) (j : Nat) (hj : j < L.length) : (bys L)[j]? = some (.int .u8 (L.getD j 0 : Nat)) := by simp [bys, hj]
theorem bys_one (vs : List Nat) : ∀ v ∈ bys vs, v.oneCell' = true := by
  intro v hv
  simp only [bys, List.mem_map] at hv
  obtain ⟨p, _, rfl⟩ := hv
  rfl
theorem bys_app (X Y : List Nat) : bys (X ++ Y) = bys X ++ bys Y := by simp [bys]

/-- A slice value that reads as these bytes (nil: none). -/
def Byts (w : World) (v : Value) (L : List Nat) : Prop :=
  (∀ x ∈ L, x < 256) ∧ ((v = .slice none 0 0 ∧ L = []) ∨ ∃ ad c, v = .slice (some ad) L.length c ∧ L.length ≤ c ∧ c ≤ maxLen ∧ ∀ j, j < L.length → w.cell? (ad.add j) = some (.int .u8 (L.getD j 0 : Nat)))
theorem Byts.below {w w' : World} {v : Value} {L : List Nat} (h : Byts w v L) (hb : Below w.heap.size w w') : Byts w' v L := by
  refine ⟨h.1, ?_⟩
  rcases h.2 with h1 | ⟨ad, c, h1, h2, h3, h4⟩
  · exact .inl h1
  · exact .inr ⟨ad, c, h1, h2, h3, fun j hj => cellb hb (h4 j hj)⟩
theorem Byts.nil (w : World) : Byts w (.slice none 0 0) [] := ⟨(fun _ h => by cases h), .inl ⟨rfl, rfl⟩⟩
theorem Byts.drew {w : World} {v : Value} {L : List Nat} (h : Byts w v L) : Byts w.drew v L := ⟨h.1, h.2⟩
theorem own_nil (w : World) (base : Nat) (e : TypeId) (size : Nat) : w.ownsRow base e size (.slice none 0 0) 0 [] := ⟨by simp, .inl ⟨rfl, rfl⟩⟩
theorem own_byts {w : World} {base : Nat} {e : TypeId} {v : Value} {L : List Nat} (h : w.ownsRow base e 1 v L.length (bys L)) (h256 : ∀ x ∈ L, x < 256) : Byts w v L := by
  refine ⟨h256, ?_⟩
  rcases h.2 with ⟨rfl, h0⟩ | ⟨g, cap, cur, rfl, hb, hg, hn, hc, hcur⟩
  · exact .inl ⟨rfl, List.eq_nil_of_length_eq_zero h0⟩
  · refine .inr ⟨_, cap, rfl, hn, hc, fun j hj => ?_⟩
    rw [add_nospot, World.ownsRow.cellAt h j (by omega), bys_get L j hj]

/-- append(v, y...), bytes onto a slice of the call's own. -/
theorem appB {P : Program} {ops : Array Oper} {rest : List Oper} {o : Oper} {a : Act} {Q : Exit → Act → World → Prop} {W : World} (base : Nat) (hgd : o.guard = none) (s x : Operand) (t e : TypeId)
    (ho : o.op = .call { callee := .builtin .append, args := #[s, x], argTypes := #[t, t] })
    (ht : P.underlying t = some (.slice e)) (hinfo : (P.info? e).map (fun i => (i.zero, i.size, i.bytes)) = some (some (.int .u8 0), 1, 1))
    (v y : Value) (X L Z : List Nat) (hZ : X ++ L = Z) (hs : a.eval s = v) (hx : a.eval x = y)
    (HO : W.ownsRow base e 1 v X.length (bys X)) (HY : Byts W y L) (hbase : base ≤ W.heap.size) (hl : X.length + L.length ≤ 140737488355328)
    (h : ∀ v1 w1, Hid (w1.ownsRow base e 1 v1 Z.length (bys Z)) → Hid (∀ B w0, Below B w0 W → B ≤ base → Below B w0 w1) → Hid (W.grownBy w1 v.ownBlock) → wpList P ops Q rest (a.put o.dst v1) w1) :
    wpList P ops Q (o :: rest) a W := by
  subst hZ
  obtain ⟨i0, hi, hzz⟩ := Option.map_eq_some_iff.1 hinfo
  simp only [Prod.mk.injEq] at hzz
  obtain ⟨hz0, hz1, hz2⟩ := hzz
  rcases HY.2 with ⟨rfl, rfl⟩ | ⟨ad, c, rfl, _, _, hcell⟩
  · refine wpList_append_own_none hgd s x t ho base e i0 1 ht hi v X.length (bys X) hs HO hx ?_
    exact h v W (by show World.ownsRow _ _ _ _ _ _ _; simpa using HO) (fun B w0 hB _ => hB) ⟨rfl, rfl, rfl, Nat.le_refl _, fun _ _ _ => rfl⟩
  · refine wpList_append_own W hgd s x t ho base e i0 (.int .u8 0) 1 1 ht hi hz0 hz1 hz2 rfl (by omega) v X.length (bys X) hs HO ad L.length c (bys L) hx (by rw [bys_len, Nat.mul_one])
      (fun j u hu => ?_) (bys_one L) (by unfold maxLen; omega) (by omega) hbase ?_
    · have hj : j < L.length := by have := (List.getElem?_eq_some_iff.1 hu).1; rw [bys_len] at this; exact this
      rw [bys_get L j hj] at hu
      rw [hcell j hj, ← hu]
    · intro v1 w1 hown hg _
      refine h v1 w1 (by show World.ownsRow _ _ _ _ _ _ _; rw [bys_app]; simpa using hown) (fun B w0 hB hbb => hB.grown hg (by omega) (fun k hk => Nat.le_trans hbb (HO.lt k hk).1)) hg

theorem strCells_bys (s : ByteArray) : strCells s = bys (s.data.toList.map (·.toNat)) := by
  simp [strCells, bys]
/-- append(v, s...), a string's bytes. -/
theorem appS {P : Program} {ops : Array Oper} {rest : List Oper} {o : Oper} {a : Act} {Q : Exit → Act → World → Prop} {W : World} (base : Nat) (hgd : o.guard = none) (s x : Operand) (t u e : TypeId)
    (ho : o.op = .call { callee := .builtin .append, args := #[s, x], argTypes := #[t, u] })
    (ht : P.underlying t = some (.slice e)) (hu : P.underlying u = some .string) (hinfo : (P.info? e).map (fun i => (i.zero, i.size, i.bytes)) = some (some (.int .u8 0), 1, 1))
    (v : Value) (X Z : List Nat) (y : ByteArray) (hZ : X ++ y.data.toList.map (·.toNat) = Z) (hs : a.eval s = v) (hx : a.eval x = .string y)
    (HO : W.ownsRow base e 1 v X.length (bys X)) (hbase : base ≤ W.heap.size) (hl : X.length + y.size ≤ 140737488355328)
    (h : ∀ v1 w1, Hid (w1.ownsRow base e 1 v1 Z.length (bys Z)) → Hid (∀ B w0, Below B w0 W → B ≤ base → Below B w0 w1) → Hid (W.grownBy w1 v.ownBlock) → wpList P ops Q rest (a.put o.dst v1) w1) :
    wpList P ops Q (o :: rest) a W := by
  subst hZ
  obtain ⟨i0, hi, hzz⟩ := Option.map_eq_some_iff.1 hinfo
  simp only [Prod.mk.injEq] at hzz
  obtain ⟨hz0, hz1, hz2⟩ := hzz
  refine wpList_append_own_string W hgd s x t u ho base e i0 ht hu hi hz0 hz1 hz2 v X.length (bys X) hs HO y hx (by unfold maxLen; omega) hl hbase ?_
  intro v1 w1 hown hg _
  refine h v1 w1 ?_ (fun B w0 hB hbb => hB.grown hg (by omega) (fun k hk => Nat.le_trans hbb (HO.lt k hk).1)) hg
  show World.ownsRow _ _ _ _ _ _ _
  rw [bys_app, ← strCells_bys, List.length_append, List.length_map, Array.length_toList]
  exact hown
end Go.Proofs.YtnohfondkcbdnaaGreatDoor
/- Small words of the other texts, pulled together for a seat that lacks their functions (tools/extract.py). -/
namespace Go.Proofs.YtnohfondkcbdnaaGreatDoor
open Go.RowKit Go.Lib
set_option linter.unusedVariables false
set_option linter.unusedSimpArgs false
attribute [local go_sem ↓] Go.wp_at_zero Go.wp_at_succ

/-- An array that lies in a block of its own. -/
def Arr (w : World) (g : Nat) (t : TypeId) (vs : List Value) : Prop := w.heap[g]? = some (.cells vs.toArray t (0, 0))
theorem Arr.lt {w : World} {g : Nat} {t : TypeId} {vs : List Value} (h : Arr w g t vs) : g < w.heap.size := by
  unfold Arr at h
  rcases Nat.lt_or_ge g w.heap.size with h1 | h1
  · exact h1
  · rw [Array.getElem?_eq_none h1] at h; simp at h
theorem Arr.cell {w : World} {g : Nat} {t : TypeId} {vs : List Value} (h : Arr w g t vs) (j : Nat) : w.cell? ⟨g, j, none⟩ = vs[j]? := by
  rw [cell_of_row w g j vs.toArray t (0, 0) h]; simp
theorem Arr.frozen {w : World} {g : Nat} {t : TypeId} {vs : List Value} (h : Arr w g t vs) (j : Nat) : w.frozen? ⟨g, j, none⟩ = false :=
  frozen_of_row w g j vs.toArray t h
theorem Arr.set {w : World} {g : Nat} {t : TypeId} {vs : List Value} (h : Arr w g t vs) (j : Nat) (u : Value) : Arr (w.setCell ⟨g, j, none⟩ u) g t (vs.set j u) := by
  have := heap_setCell_same w g j vs.toArray t u h
  unfold Arr
  rw [this]; simp
theorem Arr.below {B : Nat} {w w' : World} {g : Nat} {t : TypeId} {vs : List Value} (h : Arr w g t vs) (hb : Below B w w') (hg : g < B) : Arr w' g t vs := by
  unfold Arr at *
  rw [hb.block g hg]; exact h
theorem Arr.made (w : World) (t : TypeId) (vs : List Value) : Arr (w.alloc (.cells vs.toArray t)) w.heap.size t vs := heap_alloc_last w _
theorem Arr.range {w : World} {g : Nat} {t : TypeId} {vs : List Value} (h : Arr w g t vs) : w.rangeAt g 0 vs := by
  intro j v hv
  rw [Nat.zero_add, h.cell, hv]
theorem Arr.sets {g : Nat} {t : TypeId} : ∀ (us : List Value) (o : Nat) {w : World} {vs : List Value}, Arr w g t vs → o + us.length ≤ vs.length → Arr (w.setCells g o us) g t (vs.take o ++ us ++ vs.drop (o + us.length))
  | [], o, w, vs, h, _ => by simpa [World.setCells] using h
  | u :: us, o, w, vs, h, hl => by
    simp only [List.length_cons] at hl
    have := Arr.sets us (o + 1) (h.set o u) (by simp; omega)
    rw [World.setCells]
    have e : (vs.set o u).take (o + 1) ++ us ++ (vs.set o u).drop (o + 1 + us.length) = vs.take o ++ u :: us ++ vs.drop (o + (u :: us).length) := by
      rw [List.drop_set_of_lt (by omega), List.take_add_one, List.take_set_of_le (by omega), List.getElem?_set_self (by omega)]
      simp [Nat.add_assoc, Nat.add_comm 1]
    rw [e] at this
    exact this
theorem Arr.setAll {g : Nat} {t : TypeId} (us : List Value) {w : World} {vs : List Value} (h : Arr w g t vs) (hl : us.length = vs.length) : Arr (w.setCells g 0 us) g t us := by
  have := h.sets us 0 (by omega)
  simpa [hl] using this
theorem Arr.there {g : Nat} {t : TypeId} {w : World} {vs : List Value} (h : Arr w g t vs) (n : Nat) (hn : n = vs.length) : w.there g 0 n := by
  intro j hj
  rw [Nat.zero_add]
  exact ⟨by rw [h.cell]; simp; omega, h.frozen j⟩
theorem below_sets {B : Nat} {a : World} (b : Nat) (hb : B ≤ b) : ∀ (vs : List Value) (o : Nat) {w : World}, Below B a w → Below B a (w.setCells b o vs)
  | [], _, _, h => h
  | v :: vs, o, w, h => below_sets b hb vs (o + 1) (h.setCell (p := ⟨b, o, none⟩) hb v)
theorem addr_block (a : Addr) (n : Nat) : (a.add n).block = a.block := by unfold Addr.add; split <;> rfl
theorem cell_far (w : World) (g j : Nat) (u : Value) (p : Addr) (h : p.block ≠ g) : (w.setCell ⟨g, j, none⟩ u).cell? p = w.cell? p :=
  World.cell?_of_block (w := w) (heap_setCell_other w ⟨g, j, none⟩ p.block u h)
theorem Arr.other {w : World} {g g' : Nat} {t : TypeId} {vs : List Value} (h : Arr w g t vs) (hne : g ≠ g') (j : Nat) (u : Value) : Arr (w.setCell ⟨g', j, none⟩ u) g t vs := by
  unfold Arr at *
  rw [heap_setCell_other w ⟨g', j, none⟩ g u hne]; exact h
theorem Byts.setCell {w : World} {v : Value} {L : List Nat} {b : Nat} (h : Byts w v L) (hne : ∀ ad n c, v = .slice (some ad) n c → ad.block ≠ b) (o : Nat) (u : Value) : Byts (w.setCell ⟨b, o, none⟩ u) v L := by
  refine ⟨h.1, h.2.imp id ?_⟩
  rintro ⟨ad, c, h1, h2, h3, h4⟩
  refine ⟨ad, c, h1, h2, h3, fun j hj => ?_⟩
  rw [cell_far _ _ _ _ _ (by rw [addr_block]; exact hne ad _ c h1)]
  exact h4 j hj
/-- A slice of byte slices. -/
def PartsIs (w : World) (v : Value) (Ps : List (List Nat)) : Prop :=
  (v = .slice none 0 0 ∧ Ps = []) ∨ ∃ ad c, v = .slice (some ad) Ps.length c ∧ Ps.length ≤ c ∧ c ≤ maxLen ∧ ∀ j, j < Ps.length → ∃ u, w.cell? (ad.add j) = some u ∧ Byts w u (Ps.getD j []) ∧ ∀ a n k, u = .slice (some a) n k → a.block < w.heap.size
theorem PartsIs.below {w w' : World} {v : Value} {Ps : List (List Nat)} (h : PartsIs w v Ps) (hb : Below w.heap.size w w') : PartsIs w' v Ps := by
  refine h.imp id ?_
  rintro ⟨ad, c, h1, h2, h3, h4⟩
  refine ⟨ad, c, h1, h2, h3, fun j hj => ?_⟩
  obtain ⟨u, hu, hy, hl⟩ := h4 j hj
  exact ⟨u, cellb hb hu, hy.below hb, fun a n k e => Nat.lt_of_lt_of_le (hl a n k e) hb.size⟩
/-- Where a byte slice lies. -/
def Low (w : World) (u : Value) : Prop := ∀ a n k, u = .slice (some a) n k → a.block < w.heap.size
theorem bys_step (L : List Nat) (i n p : Nat) (hi : L[i]? = some p) (hn : i < n) (v : Value) :
    (bys (L.take i) ++ List.replicate (n - i) v).set i (.int .u8 (p : Nat)) = bys (L.take (i + 1)) ++ List.replicate (n - (i + 1)) v := by
  have hl : i < L.length := (List.getElem?_eq_some_iff.1 hi).1
  have e1 : (bys (L.take i)).length = i := by simp [bys]; omega
  rw [List.set_append_right _ _ (by omega), e1, Nat.sub_self, show n - i = (n - (i + 1)) + 1 by omega, List.replicate_succ, List.set_cons_zero, List.take_add_one, hi]
  simp [bys]
theorem bys_next (L : List Nat) (i n : Nat) (hL : L.length = n) (hn : i < n) (v : Value) : (bys (L.take i) ++ List.replicate (n - i) v)[i]? = some v := by
  have e1 : (bys (L.take i)).length = i := by simp [bys]; omega
  rw [List.getElem?_append_right (by omega), e1, Nat.sub_self, List.getElem?_replicate, if_pos (by omega)]
theorem zero32 : ∀ w, (zeroValue 25).run Tryz.prog w = .ok (.agg (List.replicate 32 (.int .u8 0)).toArray) w := by
  have := zero_of_info (P := Tryz.prog) (t := 25) (v := .agg (List.replicate 32 (.int .u8 0)).toArray) (n := 32) (by kernel_rfl)
  exact this.1
theorem size32 : (Tryz.prog.info? 25).map (·.size) = some 32 := by kernel_rfl
theorem infoB : (Tryz.prog.info? 5).map (fun i => (i.zero, i.size, i.bytes)) = some (some (.int .u8 0), 1, 1) := by kernel_rfl
/-- A number's eight bytes, the least first. -/
def le8 (n : Nat) : List Nat := [n % 256, n / 256 % 256, n / 65536 % 256, n / 16777216 % 256, n / 4294967296 % 256, n / 1099511627776 % 256, n / 281474976710656 % 256, n / 72057594037927936 % 256]
/-- A hash's bytes. -/
def IsH (H : List Nat) : Prop := H.length = 32 ∧ ∀ x ∈ H, x < 256
theorem le8_lt (n : Nat) : ∀ x ∈ le8 n, x < 256 := by
  intro x hx
  simp only [le8, List.mem_cons, List.not_mem_nil, or_false] at hx
  rcases hx with rfl | rfl | rfl | rfl | rfl | rfl | rfl | rfl <;> exact Nat.mod_lt _ (by omega)
theorem Arr.byts {w : World} {g : Nat} {t : TypeId} {L : List Nat} (h : Arr w g t (bys L)) (h256 : ∀ x ∈ L, x < 256) (n : Nat) (hn : n = L.length) (hm : n ≤ maxLen) : Byts w (.slice (some ⟨g, 0, none⟩) n n) L := by
  subst hn
  exact ⟨h256, .inr ⟨_, _, rfl, Nat.le_refl _, hm, fun j hj => by rw [add_nospot, h.cell, bys_get L j hj]⟩⟩
theorem Arr.low {w : World} {g : Nat} {t : TypeId} {vs : List Value} (h : Arr w g t vs) (n c : Nat) : Low w (.slice (some ⟨g, 0, none⟩) n c) := fun a n' k e => by cases e; exact h.lt
theorem Low.below {B : Nat} {w w' : World} {u : Value} (h : Low w u) (hb : Below B w w') : Low w' u := fun a n k e => Nat.lt_of_lt_of_le (h a n k e) hb.size
theorem parts1 {w : World} {u : Value} {L : List Nat} (t : TypeId) (h : Byts w u L) (hl : Low w u) : PartsIs (w.alloc (.cells #[u] t)) (.slice (some ⟨w.heap.size, 0, none⟩) 1 1) [L] := by
  have hb : Below w.heap.size w (w.alloc (.cells #[u] t)) := (Below.refl _ _).alloc (Nat.le_refl _) _
  have ha := Arr.made w t [u]
  refine .inr ⟨_, 1, rfl, Nat.le_refl _, by unfold maxLen; omega, fun j hj => ⟨u, ?_, ?_, hl.below hb⟩⟩
  · obtain rfl : j = 0 := by simpa using hj
    rw [add_nospot, ha.cell]; rfl
  · obtain rfl : j = 0 := by simpa using hj
    exact h.below hb
theorem two (w : World) (o1 o2 : Obj) :
    ((w.alloc o1).alloc o2).heap[w.heap.size]? = some o1 ∧ ((w.alloc o1).alloc o2).heap[w.heap.size + 1]? = some o2 ∧ ((w.alloc o1).alloc o2).heap.size = w.heap.size + 1 + 1 ∧ Below w.heap.size w ((w.alloc o1).alloc o2) := by
  have e : ∀ (w : World) (o : Obj), (w.alloc o).heap = w.heap.push o := fun _ _ => rfl
  refine ⟨?_, ?_, ?_, ((Below.refl _ _).alloc (Nat.le_refl _) _).alloc (by simp) _⟩
  · simp only [e, Array.getElem?_push, Array.size_push]
    rw [if_neg (by omega), if_pos True.intro]
  · simp only [e, Array.getElem?_push, Array.size_push]
    rw [if_pos True.intro]
  · simp only [e, Array.size_push]
theorem le8_at (n k : Nat) (hk : k < 8) : (le8 n)[k]? = some (n / 2 ^ (8 * k) % 256) := by
  match k, hk with
  | 0, _ => simp [le8]
  | 1, _ => simp [le8]
  | 2, _ => simp [le8]
  | 3, _ => simp [le8]
  | 4, _ => simp [le8]
  | 5, _ => simp [le8]
  | 6, _ => simp [le8]
  | 7, _ => simp [le8]
theorem IsH.getD {Hs : List (List Nat)} (h : ∀ H ∈ Hs, IsH H) {j : Nat} (hj : j < Hs.length) : IsH (Hs.getD j []) := by
  rw [show Hs.getD j [] = Hs[j] by simp only [List.getD, List.getElem?_eq_getElem hj, Option.getD_some]]
  exact h _ (List.getElem_mem hj)
theorem fold_cells_at : ∀ (L : List Value) (n : Nat) (zs : Array Value), zs.size = n + L.length → List.foldl (fun (cs : Array Value) (x : Value × Nat) => cs.setIfInBounds x.snd x.fst) zs (L.zipIdx n) = (zs.toList.take n ++ L).toArray
  | [], n, zs, h => by
    simp only [List.zipIdx_nil, List.foldl_nil, List.append_nil]
    rw [List.take_of_length_le (by simp at h; rw [Array.length_toList]; omega)]
  | x :: L, n, zs, h => by
    rw [List.zipIdx_cons, List.foldl_cons, fold_cells_at L (n + 1) _ (by rw [Array.size_setIfInBounds, h, List.length_cons]; omega)]
    congr 1
    rw [Array.toList_setIfInBounds, List.take_add_one, List.take_set_of_le (Nat.le_refl _), List.getElem?_set_self (by rw [Array.length_toList, h, List.length_cons]; omega)]
    simp
theorem fold_cells (L : List Value) (zs : Array Value) (h : zs.size = L.length) : List.foldl (fun (cs : Array Value) (x : Value × Nat) => cs.setIfInBounds x.snd x.fst) zs L.zipIdx = L.toArray := by
  rw [fold_cells_at L 0 zs (by omega)]; simp
theorem own_below {w w' : World} {base : Nat} {e : TypeId} {size : Nat} {v : Value} {n : Nat} {xs : List Value} (h : w.ownsRow base e size v n xs) (hb : Below w.heap.size w w') : w'.ownsRow base e size v n xs := by
  refine ⟨h.1, h.2.imp id ?_⟩
  rintro ⟨g, cap, cur, h1, h2, h3, h4⟩
  refine ⟨g, cap, cur, h1, h2, ?_, h4⟩
  have hl : g < w.heap.size := by
    rcases Nat.lt_or_ge g w.heap.size with h | h
    · exact h
    · rw [Array.getElem?_eq_none h] at h3; simp at h3
  rw [hb.block g hl]; exact h3
theorem and_one (n : Nat) (h : n < 9223372036854775807) : bits .and .i64 (n : Int) 1 = ((n % 2 : Nat) : Int) := by
  show IntKind.i64.wrap ((BitVec.ofInt 64 (n : Int) &&& BitVec.ofInt 64 (1 : Int)).toNat : Int) = _
  have e1 : (BitVec.ofInt 64 (n : Int)).toNat = n := by rw [BitVec.toNat_ofInt]; omega
  have e2 : (BitVec.ofInt 64 (1 : Int)).toNat = 1 := by decide
  rw [BitVec.toNat_and, e1, e2, Nat.and_one_is_mod, IntKind.wrap_i64]
  omega
theorem results_cell_row_tmp {P : Program} {fn : Func} {p u : Tmp} {ty : TypeId} (h : fn.results = #[.cell p ty, .tmp u]) (tmps : Array Value) (w : World) (g : Nat) (t : TypeId) (cs : Array Value) (fr : Nat × Nat) (d : TypeDesc)
    (hp : tmps.getD p undef = .pointer (some ⟨g, 0, none⟩)) (hg : w.heap[g]? = some (.cells cs t fr))
    (hu : P.underlying ty = some d) (hd : (match d with | .struct _ | .array _ _ => true | _ => false) = true) (hi : (P.info? ty).map (·.size) = some cs.size) :
    (results fn tmps).run P w = .ok (.tuple #[.agg cs, tmps.getD u undef]) w := by
  rw [results_cell_tmp h, hp]
  simp [asAddr, run_loadVar_row w g t ty cs fr d hg hu hd hi]
/-- Three objects laid, one upon the other. -/
theorem three_laid (w : World) (L1 L2 L3 : List Value) (t1 t2 t3 : TypeId) (W : World) (hW : W = ((w.alloc (.cells L1.toArray t1)).alloc (.cells L2.toArray t2)).alloc (.cells L3.toArray t3)) :
    Arr W w.heap.size t1 L1 ∧ Arr W (w.heap.size + 1) t2 L2 ∧ Arr W (w.heap.size + 1 + 1) t3 L3 ∧ Below w.heap.size w W := by
  subst hW
  have h1 := Arr.made w t1 L1
  have e1 : (w.alloc (.cells L1.toArray t1)).heap.size = w.heap.size + 1 := by show (w.heap.push _).size = _; simp
  have h2 := Arr.made (w.alloc (.cells L1.toArray t1)) t2 L2
  rw [e1] at h2
  have e2 : ((w.alloc (.cells L1.toArray t1)).alloc (.cells L2.toArray t2)).heap.size = w.heap.size + 1 + 1 := by show (Array.push _ _).size = _; rw [Array.size_push, e1]
  have h3 := Arr.made ((w.alloc (.cells L1.toArray t1)).alloc (.cells L2.toArray t2)) t3 L3
  rw [e2] at h3
  have b1 : Below w.heap.size w (w.alloc (.cells L1.toArray t1)) := (Below.refl _ _).alloc (Nat.le_refl _) _
  have b2 := (Below.refl (w.alloc (.cells L1.toArray t1)).heap.size (w.alloc (.cells L1.toArray t1))).alloc (Nat.le_refl _) (.cells L2.toArray t2)
  have b3 := (Below.refl _ ((w.alloc (.cells L1.toArray t1)).alloc (.cells L2.toArray t2))).alloc (Nat.le_refl _) (.cells L3.toArray t3)
  have b23 := b2.trans (b3.mono b2.size)
  exact ⟨h1.below b23 h1.lt, h2.below b3 h2.lt, h3, b1.trans (b23.mono b1.size)⟩
theorem Byts.form {w : World} {v : Value} {L : List Nat} (h : Byts w v L) : ∃ a c, v = .slice a L.length c := by
  rcases h.2 with ⟨rfl, rfl⟩ | ⟨ad, c, rfl, _⟩
  · exact ⟨_, _, rfl⟩
  · exact ⟨_, _, rfl⟩
end Go.Proofs.YtnohfondkcbdnaaGreatDoor
/- wire.Writer.put. -/
namespace Go.Proofs.YtnohfondkcbdnaaGreatDoor
open Go.RowKit Go.Lib
set_option linter.unusedVariables false
set_option linter.unusedSimpArgs false
attribute [local go_sem ↓] Go.wp_at_zero Go.wp_at_succ

/-- A writer at block g: what it has written, and whether it is bad. -/
def WrM (w : World) (g : Nat) (L : List Nat) (bad : Bool) : Prop :=
  ∃ v, Arr w g 137 [v, .bool bad] ∧ w.ownsRow (g + 1) 5 1 v L.length (bys L)
set_option maxRecDepth 100000 in
set_option maxHeartbeats 1600000 in
theorem put_ok (g : Nat) (L M Z : List Nat) (hZ : L ++ M = Z) (u : Value) (w : World) (hw : WrM w g L false) (hy : Byts w u M) (hne : ∀ ad n c, u = .slice (some ad) n c → ad.block ≠ g) (hl : L.length + M.length ≤ 140737488355328) :
    Calls Tryz.prog 113 #[.pointer (some ⟨g, 0, none⟩), u, .bool true] w fun e w' => e = .returned (.pointer (some ⟨g, 0, none⟩)) ∧ WrM w' g Z false ∧ Below g w w' := by
  obtain ⟨v, ha, ho⟩ := hw
  have HZ := Lib.hid hZ
  have HA := Lib.hid ha
  have HO := Lib.hid ho
  have HY := Lib.hid hy
  have HL := Lib.hid hl
  have HG := Lib.hid (show g + 1 ≤ w.heap.size from ha.lt)
  clear hZ ho hy hl
  have hc0 := ha.cell 0
  have hc1 := ha.cell 1
  dsimp only [List.getElem?_cons_zero, List.getElem?_cons_succ] at hc0 hc1
  have hf1 := ha.frozen 1
  clear ha
  go_enter Tryz.func113, Tryz.ntmps113
  go_upto_region 5 with fail
  have HA2 := Lib.hid (show Arr (w.setCell ⟨g, 1, none⟩ (.bool false)) g 137 [v, .bool false] from HA.out.set 1 _)
  have HO2 := Lib.hid (ownsRow_setCell_below HO.out (a := ⟨g, 1, none⟩) (Nat.lt_succ_self g) (.bool false))
  have HY2 := Lib.hid (HY.out.setCell hne 1 (.bool false))
  have HB2 := Lib.hid (show Below g w (w.setCell ⟨g, 1, none⟩ (.bool false)) from (Below.refl g w).setCell (Nat.le_refl _) _)
  generalize World.setCell _ _ _ = w2 at *
  have hb0 := HA2.out.cell 0
  have hb1 := HA2.out.cell 1
  dsimp only [List.getElem?_cons_zero, List.getElem?_cons_succ] at hb0 hb1
  have HG2 := Lib.hid (show g + 1 ≤ w2.heap.size from HA2.out.lt)
  clear hc0 hc1 hf1 hne HA HO HY HG
  go_wp2_with (at_builtin; refine appB (g + 1) rfl (.tmp 29) (.tmp 30) 23 5 rfl Tryz.underlying23 infoB v u L M Z HZ.out rfl rfl HO2.out HY2.out HG2.out HL.out ?_)
  intro v4 w4 ho4 hb4 hg4
  obtain ⟨a4, n4, c4, rfl⟩ : ∃ a4 n4 c4, v4 = .slice a4 n4 c4 := by
    rcases ho4.out.2 with ⟨h, _⟩ | ⟨g', cap, cur, h, _⟩
    · exact ⟨_, _, _, h⟩
    · exact ⟨_, _, _, h⟩
  have hbb := hb4.out (g + 1) w2 (Below.refl _ _) (Nat.le_refl _)
  have HA4 := Lib.hid (HA2.out.below hbb (Nat.lt_succ_self g))
  have HO4 := Lib.hid ho4.out
  have HB4 := Lib.hid (hb4.out g w HB2.out (Nat.le_succ g))
  have hd0 := HA4.out.cell 0
  have hd1 := HA4.out.cell 1
  have hdf := HA4.out.frozen 0
  dsimp only [List.getElem?_cons_zero, List.getElem?_cons_succ] at hd0 hd1
  clear hb0 hb1 HA2 HO2 HY2 HB2 HG2 hbb ho4 hb4 hg4
  go_wp2
  go_ret
  refine ⟨rfl, ⟨_, HA4.out.set 0 _, ownsRow_setCell_below HO4.out (a := ⟨g, 0, none⟩) (Nat.lt_succ_self g) _⟩, HB4.out.setCell (Nat.le_refl _) _⟩
end Go.Proofs.YtnohfondkcbdnaaGreatDoor
/- wire.Writer.Hash. -/
namespace Go.Proofs.YtnohfondkcbdnaaGreatDoor
open Go.RowKit Go.Lib
set_option linter.unusedVariables false
set_option linter.unusedSimpArgs false
attribute [local go_sem ↓] Go.wp_at_zero Go.wp_at_succ

theorem WrM.lt {w : World} {g : Nat} {L : List Nat} {bad : Bool} (h : WrM w g L bad) : g < w.heap.size := by
  obtain ⟨v, ha, _⟩ := h
  exact ha.lt
theorem WrM.below {w w' : World} {g : Nat} {L : List Nat} {bad : Bool} (h : WrM w g L bad) (hb : Below w.heap.size w w') : WrM w' g L bad := by
  obtain ⟨v, ha, ho⟩ := h
  exact ⟨v, ha.below hb ha.lt, own_below ho hb⟩
set_option maxRecDepth 100000 in
set_option maxHeartbeats 1600000 in
theorem whash_ok (g : Nat) (L H Z : List Nat) (hZ : L ++ H = Z) (hH : IsH H) (w : World) (hw : WrM w g L false) (hl : L.length + 32 ≤ 140737488355328) :
    Calls Tryz.prog 105 #[.pointer (some ⟨g, 0, none⟩), .agg (bys H).toArray] w fun e w' => e = .returned (.pointer (some ⟨g, 0, none⟩)) ∧ WrM w' g Z false ∧ Below g w w' := by
  have HZ := Lib.hid hZ
  have HH := Lib.hid hH
  have HW := Lib.hid hw
  have HL := Lib.hid hl
  clear hZ hH hw hl
  go_enter Tryz.func105, Tryz.ntmps105
  go_upto_region 1 with fail
  have hb : Below w.heap.size w (w.alloc (.cells (bys H).toArray 25)) := (Below.refl _ _).alloc (Nat.le_refl _) _
  have ha := Arr.made w 25 (bys H)
  have HW1 := Lib.hid (HW.out.below hb)
  have HB1 := Lib.hid (hb.mono (Nat.le_of_lt HW.out.lt))
  have HY1 := Lib.hid (ha.byts HH.out.2 32 HH.out.1.symm (by unfold maxLen; omega))
  have HG := Lib.hid HW.out.lt
  generalize World.alloc _ _ = w1 at *
  clear hb ha HW
  go_wp2_with fail
  refine (put_ok g L H Z HZ.out _ w1 HW1.out HY1.out (fun ad n c e => by cases e; have := HG.out; show w.heap.size ≠ g; omega) (by rw [HH.out.1]; exact HL.out)).mono ?_
  rintro e w3 ⟨rfl, hw3, hb3⟩
  dsimp only
  have HW3 := Lib.hid hw3
  have HB3 := Lib.hid (HB1.out.trans hb3)
  clear hw3 hb3
  go_wp2
  go_ret
  exact ⟨rfl, HW3.out, HB3.out⟩
end Go.Proofs.YtnohfondkcbdnaaGreatDoor
/- wire.Writer.put, where the writer is bad or turns bad. -/
namespace Go.Proofs.YtnohfondkcbdnaaGreatDoor
open Go.RowKit Go.Lib
set_option linter.unusedVariables false
set_option linter.unusedSimpArgs false
attribute [local go_sem ↓] Go.wp_at_zero Go.wp_at_succ

set_option maxRecDepth 100000 in
set_option maxHeartbeats 1600000 in
theorem put_bad (g : Nat) (L : List Nat) (u : Value) (good bad : Bool) (w : World) (hw : WrM w g L bad) (hb : (bad || !good) = true) :
    Calls Tryz.prog 113 #[.pointer (some ⟨g, 0, none⟩), u, .bool good] w fun e w' => e = .returned (.pointer (some ⟨g, 0, none⟩)) ∧ WrM w' g L true ∧ Below g w w' := by
  obtain ⟨v, ha, ho⟩ := hw
  have HA := Lib.hid ha
  have HO := Lib.hid ho
  clear ho
  have hc1 := ha.cell 1
  dsimp only [List.getElem?_cons_zero, List.getElem?_cons_succ] at hc1
  have hf1 := ha.frozen 1
  clear ha
  have hfin : WrM (w.setCell ⟨g, 1, none⟩ (.bool true)) g L true := ⟨v, HA.out.set 1 _, ownsRow_setCell_below HO.out (a := ⟨g, 1, none⟩) (Nat.lt_succ_self g) _⟩
  have HF := Lib.hid hfin
  have HB := Lib.hid (show Below g w (w.setCell ⟨g, 1, none⟩ (.bool true)) from (Below.refl g w).setCell (Nat.le_refl _) _)
  have hd1 : (w.setCell ⟨g, 1, none⟩ (.bool true)).cell? ⟨g, 1, none⟩ = some (.bool true) := (HA.out.set 1 (.bool true)).cell 1
  clear hfin HA HO
  go_enter Tryz.func113, Tryz.ntmps113
  cases bad
  · cases good
    · go_wp2
      go_ret
      exact ⟨rfl, HF.out, HB.out⟩
    · cases hb
  · clear hb
    go_wp2
    go_ret
    exact ⟨rfl, HF.out, HB.out⟩
end Go.Proofs.YtnohfondkcbdnaaGreatDoor
/- wire.whole. -/
namespace Go.Proofs.YtnohfondkcbdnaaGreatDoor
open Go.RowKit Go.Lib
set_option linter.unusedVariables false
set_option linter.unusedSimpArgs false
attribute [local go_sem ↓] Go.wp_at_zero Go.wp_at_succ

set_option maxRecDepth 100000 in
set_option maxHeartbeats 1600000 in
theorem whole_any (n : Int) (w : World) (h : n = 1 ∨ n = 2 ∨ n = 4 ∨ n = 8) :
    Calls Tryz.prog 114 #[.int .i64 n] w fun e w' => e = .returned (.bool true) ∧ w' = w := by
  rcases h with rfl | rfl | rfl | rfl
  · go_enter Tryz.func114, Tryz.ntmps114
    go_wp2
    go_ret
    exact ⟨rfl, rfl⟩
  · go_enter Tryz.func114, Tryz.ntmps114
    go_wp2
    go_ret
    exact ⟨rfl, rfl⟩
  · go_enter Tryz.func114, Tryz.ntmps114
    go_wp2
    go_ret
    exact ⟨rfl, rfl⟩
  · go_enter Tryz.func114, Tryz.ntmps114
    go_wp2
    go_ret
    exact ⟨rfl, rfl⟩
end Go.Proofs.YtnohfondkcbdnaaGreatDoor
