/- Trees of hashes, paths in them, and how they lie in memory; merkle.leafNode. -/
import Derived.Test.YthnbnckmeffkmaaGreatG14
import Derived.Test.YthnbnckmeffkmaaGreatG15
import Derived.Test.YthnbnckmeffkmaaGreatG02
import Derived.WalkMore
import Derived.BigQuiet
import Derived.LaidEqlPtr
import Derived.Test.YthnbnckmeffkmaaGreatG04
import Derived.Laws.IdiomStrings
import Derived.Laws.BytesArg
import Derived.Laws.StructEq
namespace Go.Proofs.YthnbnckmeffkmaaGreat
open Go.RowKit Go.Lib
set_option linter.unusedVariables false
set_option linter.unusedSimpArgs false
attribute [local go_sem ↓] Go.wp_at_zero Go.wp_at_succ

def ptr (b : Nat) : Value := .pointer (some ⟨b, 0, none⟩)
/-- A slice of pointers to these blocks. -/
def PtrsAt (w : World) (v : Value) (bs : List Nat) : Prop :=
  (v = .slice none 0 0 ∧ bs = []) ∨ ∃ g off c, v = .slice (some ⟨g, off, none⟩) bs.length c ∧ bs.length ≤ c ∧ c ≤ maxLen ∧ ∀ j, j < bs.length → w.cell? ⟨g, off + j, none⟩ = some (ptr (bs.getD j 0))
theorem PtrsAt.below {w w' : World} {v : Value} {bs : List Nat} (h : PtrsAt w v bs) (hb : Below w.heap.size w w') : PtrsAt w' v bs := by
  refine h.imp id ?_
  rintro ⟨g, off, c, h1, h2, h3, h4⟩
  exact ⟨g, off, c, h1, h2, h3, fun j hj => cellb hb (h4 j hj)⟩
theorem PtrsAt.form {w : World} {v : Value} {bs : List Nat} (h : PtrsAt w v bs) : ∃ a c, v = .slice a bs.length c := by
  rcases h with ⟨rfl, rfl⟩ | ⟨g, off, c, rfl, _⟩
  · exact ⟨_, _, rfl⟩
  · exact ⟨_, _, rfl⟩
theorem PtrsAt.made (w : World) (bs : List Nat) (t : TypeId) (hl : bs.length ≤ maxLen) : PtrsAt (w.alloc (.cells (bs.map ptr).toArray t)) (.slice (some ⟨w.heap.size, 0, none⟩) bs.length bs.length) bs := by
  have ha := Arr.made w t (bs.map ptr)
  refine .inr ⟨_, 0, _, rfl, Nat.le_refl _, hl, fun j hj => ?_⟩
  rw [ha.cell, Nat.zero_add, List.getElem?_map]
  simp [List.getElem?_eq_getElem hj]
theorem Byts.form {w : World} {v : Value} {L : List Nat} (h : Byts w v L) : ∃ a c, v = .slice a L.length c := by
  rcases h.2 with ⟨rfl, rfl⟩ | ⟨ad, c, rfl, _⟩
  · exact ⟨_, _, rfl⟩
  · exact ⟨_, _, rfl⟩
/-- A value's object is such, if it has one. -/
def Blk (C : Nat → Prop) (w : World) (v : Value) : Prop := ∀ a n k, v = .slice (some a) n k → C a.block ∧ a.block < w.heap.size
theorem Blk.nil (C : Nat → Prop) (w : World) (n k : Nat) : Blk C w (.slice none n k) := fun a n k e => by cases e
theorem Blk.of {B : Nat} {w : World} {v : Value} (h : High B v) (hl : Low w v) : Blk (B ≤ ·) w v := fun a n k e => ⟨h a n k e, hl a n k e⟩
theorem Blk.below {C : Nat → Prop} {B : Nat} {w w' : World} {v : Value} (h : Blk C w v) (hb : Below B w w') : Blk C w' v := fun a n k e => ⟨(h a n k e).1, Nat.lt_of_lt_of_le (h a n k e).2 hb.size⟩
/-- A way up from a leaf; a tree. -/
inductive Pa where
  | leaf (I : List Nat)
  | kl (p : Pa) (H : List Nat)
  | kr (H : List Nat) (p : Pa)
  | top (n : Nat) (p : Pa)
inductive Ta where
  | leaf (I : List Nat)
  | knot (l r : Ta)
  | top0
  | top (n : Nat) (t : Ta)
def Pa.h : Pa → List Nat
  | .leaf I => leafF I
  | .kl p H => knotF p.h H
  | .kr H p => knotF H p.h
  | .top n p => topF n p.h
def Pa.b : Pa → List Nat
  | .leaf I => textF nLeaf I
  | .kl p H => textF nKnot (p.h ++ H)
  | .kr H p => textF nKnot (H ++ p.h)
  | .top n p => textF nRoot (le8 n ++ p.h)
def Ta.h : Ta → List Nat
  | .leaf I => leafF I
  | .knot l r => knotF l.h r.h
  | .top0 => topF 0 []
  | .top n t => topF n t.h
def Ta.b : Ta → List Nat
  | .leaf I => textF nLeaf I
  | .knot l r => textF nKnot (l.h ++ r.h)
  | .top0 => textF nRoot (le8 0)
  | .top n t => textF nRoot (le8 n ++ t.h)
theorem Pa.sha (p : Pa) : shaF p.b = p.h := by cases p <;> rfl
theorem Ta.sha (t : Ta) : shaF t.b = t.h := by
  cases t <;> rfl
theorem Pa.isH (p : Pa) : IsH p.h := by cases p <;> exact tagF_h _ _
theorem Ta.isH (t : Ta) : IsH t.h := by cases t <;> exact tagF_h _ _

inductive Fit : Pa → Ta → Prop where
  | leaf (I J : List Nat) : I ≠ J → Fit (.leaf I) (.leaf J)
  | kl (p : Pa) (H : List Nat) (l r : Ta) : Fit p l → Fit (.kl p H) (.knot l r)
  | kr (H : List Nat) (p : Pa) (l r : Ta) : Fit p r → Fit (.kr H p) (.knot l r)
  | top (n : Nat) (p : Pa) (t : Ta) : Fit p t → Fit (.top n p) (.top n t)
  | topNe (n m : Nat) (p : Pa) (t : Ta) : n ≠ m → n < 18446744073709551616 → m < 18446744073709551616 → Fit (.top n p) (.top m t)
  | top0 (n : Nat) (p : Pa) : Fit (.top n p) .top0
theorem textF_inj (n a b : List Nat) (h : textF n a = textF n b) : a = b := by
  unfold textF at h
  exact List.append_cancel_left (List.cons.inj h).2
theorem le8_inj (n m : Nat) (hn : n < 18446744073709551616) (hm : m < 18446744073709551616) (h : le8 n = le8 m) : n = m := by
  unfold le8 at h
  simp only [List.cons.injEq, and_true] at h
  omega
/-- The kid into which the way goes down. -/
def Down : Pa → Ta → Pa → Ta → Prop
  | .kl p _, .knot l _, p', t' => p' = p ∧ t' = l
  | .kr _ p, .knot _ r, p', t' => p' = p ∧ t' = r
  | .top _ p, .top _ t, p', t' => p' = p ∧ t' = t
  | _, _, _, _ => False
theorem fit_down (x : Pa) (y : Ta) (h : Fit x y) (hb : x.b = y.b) : ∃ p t, Down x y p t ∧ Fit p t ∧ p.h = t.h := by
  cases h with
  | leaf I J hne => exact absurd (textF_inj _ _ _ hb) hne
  | kl p H l r hf =>
    have := textF_inj _ _ _ hb
    exact ⟨p, l, ⟨rfl, rfl⟩, hf, (List.append_inj this (by rw [p.isH.1, l.isH.1])).1⟩
  | kr H p l r hf =>
    have := textF_inj _ _ _ hb
    exact ⟨p, r, ⟨rfl, rfl⟩, hf, (List.append_inj' this (by rw [p.isH.1, r.isH.1])).2⟩
  | top n p t hf =>
    have := textF_inj _ _ _ hb
    exact ⟨p, t, ⟨rfl, rfl⟩, hf, List.append_cancel_left this⟩
  | topNe n m p t hne h1 h2 =>
    have := textF_inj _ _ _ hb
    exact absurd (le8_inj n m h1 h2 (List.append_inj this rfl).1) hne
  | top0 n p =>
    have := congrArg List.length (textF_inj _ _ _ hb)
    rw [List.length_append, p.isH.1] at this
    exact absurd this (by simp [le8])
theorem fit_of (c : Nat) : ∀ (n : Nat) (I : List Nat) (hs ids : List (List Nat)), n < c → ids.length = c → hs.length = sizeDown n c → ids.getD n [] ≠ I →
    Fit (leadDown [] Pa.kl Pa.kr (.leaf I) n c hs) (leftR .top0 Ta.knot (ids.map Ta.leaf)) := by
  induction c using Nat.strongRecOn with
  | _ c ih =>
    intro n I hs ids hn hl hsz hne
    by_cases h1 : c ≤ 1
    · obtain ⟨J, rfl⟩ : ∃ J, ids = [J] := by
        match ids, (show ids.length = 1 by omega) with
        | [J], _ => exact ⟨J, rfl⟩
      obtain rfl : n = 0 := by omega
      rw [leadDown, if_pos h1, leftR_one _ _ _ (by simp)]
      exact .leaf _ _ (fun e => hne e.symm)
    · have hb := half_bounds c (by omega)
      rw [sizeDown, if_neg h1] at hsz
      rw [leadDown, if_neg h1, leftR_more _ _ _ (by rw [List.length_map, hl]; omega), List.length_map, hl]
      by_cases hlt : n < half c
      · rw [if_pos hlt] at hsz ⊢
        refine .kl _ _ _ _ ?_
        rw [← List.map_take]
        refine ih (half c) hb.1 n I hs.dropLast (ids.take (half c)) hlt (by rw [List.length_take]; omega) (by rw [List.length_dropLast]; omega) ?_
        rw [List.getD_eq_getElem?_getD, List.getElem?_take_of_lt hlt, ← List.getD_eq_getElem?_getD]; exact hne
      · rw [if_neg hlt] at hsz ⊢
        refine .kr _ _ _ _ ?_
        rw [← List.map_drop]
        refine ih (c - half c) (by omega) (n - half c) I hs.dropLast (ids.drop (half c)) (by omega) (by rw [List.length_drop]; omega) (by rw [List.length_dropLast]; omega) ?_
        rw [List.getD_eq_getElem?_getD, List.getElem?_drop, ← List.getD_eq_getElem?_getD, show half c + (n - half c) = n by omega]; exact hne
theorem leadUp_h (c : Nat) : ∀ (a : Pa) (n : Nat) (hs : List (List Nat)), (leadUp [] Pa.kl Pa.kr a n c hs).h = leadUp [] knotF knotF a.h n c hs := by
  induction c using Nat.strongRecOn with
  | _ c ih =>
    intro a n hs
    rw [leadUp]
    conv => rhs; rw [leadUp]
    split
    · rfl
    · rename_i h1
      split
      · exact ih _ (by omega) _ _ _
      · split
        · exact ih _ (by omega) _ _ _
        · exact ih _ (by omega) _ _ _
theorem leftR_h (c : Nat) : ∀ l : List Ta, l.length = c → l ≠ [] → (leftR .top0 Ta.knot l).h = leftR [] knotF (l.map Ta.h) := by
  induction c using Nat.strongRecOn with
  | _ c ih =>
    intro l hl hne
    by_cases h1 : l.length ≤ 1
    · obtain ⟨J, rfl⟩ : ∃ J, l = [J] := by
        match l, h1 with
        | [], _ => exact absurd rfl hne
        | [J], _ => exact ⟨J, rfl⟩
      rw [leftR_one _ _ _ (by simp), leftR_one _ _ _ (by simp)]; rfl
    · have hb := half_bounds l.length (by omega)
      rw [leftR_more .top0 Ta.knot l (by omega), leftR_more [] knotF (l.map Ta.h) (by rw [List.length_map]; omega), List.length_map, ← List.map_take, ← List.map_drop,
        ← ih (half l.length) (by omega) (l.take (half l.length)) (by rw [List.length_take]; omega) (fun e => by have := congrArg List.length e; rw [List.length_take, List.length_nil] at this; omega),
        ← ih (l.length - half l.length) (by omega) (l.drop (half l.length)) (by rw [List.length_drop]) (fun e => by have := congrArg List.length e; rw [List.length_drop, List.length_nil] at this; omega)]
      rfl

/-- An object that can be told from others. -/
def Lv (C : Nat → Prop) (w : World) (b : Nat) : Prop := C b ∧ ∃ cs t, w.heap[b]? = some (.cells cs t (0, 0))
theorem Lv.lt {C : Nat → Prop} {w : World} {b : Nat} (h : Lv C w b) : b < w.heap.size := by
  obtain ⟨_, cs, t, h⟩ := h
  exact (Array.getElem?_eq_some_iff.1 h).1
theorem Lv.below {C : Nat → Prop} {w w' : World} {b : Nat} (h : Lv C w b) (hb : Below w.heap.size w w') : Lv C w' b := by
  have hl := h.lt
  obtain ⟨h1, cs, t, h2⟩ := h
  exact ⟨h1, cs, t, by rw [hb.block b hl]; exact h2⟩
theorem Lv.imp {C C' : Nat → Prop} {w : World} {b : Nat} (hC : ∀ k, k < w.heap.size → C k → C' k) (h : Lv C w b) : Lv C' w b := ⟨hC b h.lt h.1, h.2⟩
/-- Such objects stay as they are. -/
def Kept (C : Nat → Prop) (w w' : World) : Prop := w.heap.size ≤ w'.heap.size ∧ ∀ k, k < w.heap.size → C k → w'.heap[k]? = w.heap[k]?
theorem Lv.kept {C : Nat → Prop} {w w' : World} {b : Nat} (hk : Kept C w w') (h : Lv C w b) : Lv C w' b := by
  have hl := h.lt
  obtain ⟨h1, cs, t, h2⟩ := h
  exact ⟨h1, cs, t, by rw [hk.2 b hl h1]; exact h2⟩
theorem Kept.below {C : Nat → Prop} {w w' : World} (h : Below w.heap.size w w') : Kept C w w' := ⟨h.size, fun k hk _ => h.block k hk⟩
theorem PtrsAt.nil (w : World) : PtrsAt w (.slice none 0 0) [] := .inl ⟨rfl, rfl⟩
end Go.Proofs.YthnbnckmeffkmaaGreat
/- merkle.leafNode, knotNode, topNode. -/
namespace Go.Proofs.YthnbnckmeffkmaaGreat
open Go.RowKit Go.Lib
set_option linter.unusedVariables false
set_option linter.unusedSimpArgs false
attribute [local go_sem ↓] Go.wp_at_zero Go.wp_at_succ

theorem textL (I : List Nat) : textF (nmB ⟨#[108, 101, 97, 102]⟩) [I].flatten = textF nLeaf I := by rw [List.flatten_cons, List.flatten_nil, List.append_nil]; rfl
theorem textK (I J : List Nat) : textF (nmB ⟨#[107, 110, 111, 116]⟩) [I, J].flatten = textF nKnot (I ++ J) := by rw [List.flatten_cons, List.flatten_cons, List.flatten_nil, List.append_nil]; rfl
theorem textR0 (I : List Nat) : textF (nmB ⟨#[114, 111, 111, 116]⟩) [I].flatten = textF nRoot I := by rw [List.flatten_cons, List.flatten_nil, List.append_nil]; rfl
theorem textR (I J : List Nat) : textF (nmB ⟨#[114, 111, 111, 116]⟩) [I, J].flatten = textF nRoot (I ++ J) := by rw [List.flatten_cons, List.flatten_cons, List.flatten_nil, List.append_nil]; rfl
/-- The hash that a block's node has. -/
def HdAt (w : World) (b : Nat) (H : List Nat) : Prop := w.rangeAt b 0 (bys H) ∧ IsH H ∧ b < w.heap.size
theorem HdAt.below {w w' : World} {b : Nat} {H : List Nat} (h : HdAt w b H) (hb : Below w.heap.size w w') : HdAt w' b H := ⟨rangeAt_below h.1 hb h.2.2, h.2.1, Nat.lt_of_lt_of_le h.2.2 hb.size⟩
/-- Not past the last cell: a slice of the hash within a node. -/
theorem HdAt.slice {w : World} {b : Nat} {H : List Nat} (h : HdAt w b H) : Byts w (.slice (some ⟨b, 0, none⟩) 32 32) H ∧ Low w (.slice (some ⟨b, 0, none⟩) 32 32) := ⟨rangeAt.byts h.1 h.2.1, rangeAt.low h.1 h.2.1 32 32⟩

end Go.Proofs.YthnbnckmeffkmaaGreat
/- merkle.knotNode. -/
namespace Go.Proofs.YthnbnckmeffkmaaGreat
open Go.RowKit Go.Lib
set_option linter.unusedVariables false
set_option linter.unusedSimpArgs false
attribute [local go_sem ↓] Go.wp_at_zero Go.wp_at_succ

end Go.Proofs.YthnbnckmeffkmaaGreat
/- merkle.topNode. -/
namespace Go.Proofs.YthnbnckmeffkmaaGreat
open Go.RowKit Go.Lib
set_option linter.unusedVariables false
set_option linter.unusedSimpArgs false
attribute [local go_sem ↓] Go.wp_at_zero Go.wp_at_succ

end Go.Proofs.YthnbnckmeffkmaaGreat
/- Rows of nodes: append of a pointer. -/
namespace Go.Proofs.YthnbnckmeffkmaaGreat
open Go.RowKit Go.Lib
set_option linter.unusedVariables false
set_option linter.unusedSimpArgs false
attribute [local go_sem ↓] Go.wp_at_zero Go.wp_at_succ

/-- What append answers lies where it lay, or is new. -/
theorem append_blk {P : Program} {w : World} (base : Nat) (t ty e : TypeId) (i : TypeInfo) (z : Value) (size bytes : Nat) (ht : P.underlying t = some (.slice e)) (hi : P.info? e = some i) (hz : i.zero = some z)
    (hsize : i.size = size) (hby : i.bytes = bytes) (hzs : z.cells.size = size) (hsz : 0 < size)
    (v : Value) (n : Nat) (xs : List Value) (hown : w.ownsRow base e size v n xs)
    (a : Addr) (m c : Nat) (news : List Value) (hl : news.length = m * size) (hnews : ∀ j u, news[j]? = some u → w.cell? (a.add j) = some u) (h1 : ∀ u ∈ news, u.oneCell' = true)
    (h63 : n + m ≤ maxLen) (hbytes : (n + m) * bytes ≤ 140737488355328) (hm : m ≠ 0) (v' : Value) (w' : World) (hr : (Builtin.append_ #[t, t] ty #[v, .slice (some a) m c]).run P w = .ok v' w') :
    (∃ g n' c', v' = .slice (some ⟨g, 0, none⟩) n' c' ∧ (v.ownBlock = some g ∨ w.heap.size ≤ g)) := by
  subst hsize
  subst hby
  have hsmall : n + m ≤ 9223372036854775807 := by simp only [maxLen] at h63; omega
  rcases hown.2 with ⟨rfl, rfl⟩ | ⟨g, cap, cur, rfl, hbg, hg, hnc, hcm, hcs, htake⟩
  · have hr2 := run_append_nil (P := P) w t ty e i z ht hi hz a m c news hl hnews (by omega) (by omega) (by have hb := hbytes; simp only [Nat.zero_add] at hb; omega)
    have := hr.symm.trans hr2
    injection this with e1 e2
    exact ⟨_, _, _, e1, .inr (Nat.le_refl _)⟩
  · by_cases hroom : n + m ≤ cap
    · have hfit : n * i.size + news.length ≤ cur.size := by rw [hl, hcs, ← Nat.add_mul]; exact Nat.mul_le_mul_right _ hroom
      have hr2 := run_append_room (P := P) w t ty e i ht hi g n cap cur hg a m c news hl hnews h1 hroom hfit
      have := hr.symm.trans hr2
      injection this with e1 e2
      exact ⟨_, _, _, e1, .inl rfl⟩
    · have holds : ∀ j u, xs[j]? = some u → w.cell? ((⟨g, 0, none⟩ : Addr).add j) = some u := hown.cells (g := g) rfl
      have hr2 := run_append_grow (P := P) w t ty e i z ht hi hz ⟨g, 0, none⟩ n cap xs hown.1 holds a m c news hl hnews (by omega) (by omega) (growslice_fits (by omega) hbytes)
      have := hr.symm.trans hr2
      injection this with e1 e2
      exact ⟨_, _, _, e1, .inr (Nat.le_refl _)⟩

/-- None of these is the object of v. -/
def Off (v : Value) : Nat → Prop := fun k => v.ownBlock ≠ some k
end Go.Proofs.YthnbnckmeffkmaaGreat
/- merkle.tree. -/
namespace Go.Proofs.YthnbnckmeffkmaaGreat
open Go.RowKit Go.Lib
set_option linter.unusedVariables false
set_option linter.unusedSimpArgs false
attribute [local go_sem ↓] Go.wp_at_zero Go.wp_at_succ

theorem above_getT : ∀ (l : List Ta) (k : Nat), 2 * k < l.length → (above Ta.knot l)[k]? = some (if 2 * k + 1 < l.length then .knot (l.getD (2 * k) .top0) (l.getD (2 * k + 1) .top0) else l.getD (2 * k) .top0)
  | [], k, h => by simp at h
  | [a], k, h => by
    obtain rfl : k = 0 := by simp at h; omega
    rfl
  | a :: b :: r, 0, h => by
    rw [if_pos (by simp)]
    rfl
  | a :: b :: r, k + 1, h => by
    have ih := above_getT r k (by simp at h; omega)
    simp only [above, List.getElem?_cons_succ]
    rw [ih]
    have e1 : (a :: b :: r).getD (2 * (k + 1)) Ta.top0 = r.getD (2 * k) .top0 := by rw [show 2 * (k + 1) = 2 * k + 1 + 1 by omega]; rfl
    have e2 : (a :: b :: r).getD (2 * (k + 1) + 1) Ta.top0 = r.getD (2 * k + 1) .top0 := by rw [show 2 * (k + 1) + 1 = 2 * k + 1 + 1 + 1 by omega]; rfl
    rw [e1, e2]
    have : (2 * (k + 1) + 1 < (a :: b :: r).length) ↔ (2 * k + 1 < r.length) := by simp only [List.length_cons]; omega
    simp only [this]
theorem off_nil : Off (.slice none 0 0) = fun _ => True := by
  funext k
  simp [Off, Value.ownBlock]
theorem off_new {w : World} {base : Nat} {e : TypeId} {v : Value} {n : Nat} {xs : List Value} (h : w.ownsRow base e 1 v n xs) (k : Nat) (hk : w.heap.size ≤ k) : Off v k := fun e => by
  have := (h.lt k e).2
  omega
theorem PtrsAt.kept {w w' : World} {v : Value} {bs : List Nat} {C : Nat → Prop} (h : PtrsAt w v bs) (hb : Blk C w v) (hk : Kept C w w') : PtrsAt w' v bs := by
  rcases h with h | ⟨g, off, c, e, q1, q2, q3⟩
  · exact .inl h
  · refine .inr ⟨g, off, c, e, q1, q2, fun j hj => ?_⟩
    have := hb _ _ _ e
    rw [World.cell?_of_block (a := ⟨g, off + j, none⟩) (w := w) (w' := w') (hk.2 _ this.2 this.1)]; exact q3 j hj
theorem Blk.imp {C C' : Nat → Prop} {w w' : World} {v : Value} (h : Blk C w v) (hC : ∀ k, k < w.heap.size → C k → C' k) (hs : w.heap.size ≤ w'.heap.size) : Blk C' w' v := fun a n k e => ⟨hC _ (h a n k e).2 (h a n k e).1, Nat.lt_of_lt_of_le (h a n k e).2 hs⟩
theorem Kept.trans {C : Nat → Prop} {a b c : World} (h : Kept C a b) (h2 : Kept C b c) : Kept C a c := ⟨Nat.le_trans h.1 h2.1, fun k hk hC => (h2.2 k (Nat.lt_of_lt_of_le hk h.1) hC).trans (h.2 k hk hC)⟩
theorem Kept.lt {v6 v7 : Value} {w3 w4 : World} (hk : Kept (Off v6) w3 w4) : Kept (fun k => k < w3.heap.size ∧ Off v6 k) w3 w4 := ⟨hk.1, fun k h hC => hk.2 k h hC.2⟩
end Go.Proofs.YthnbnckmeffkmaaGreat
/- merkle.tree, whole. -/
namespace Go.Proofs.YthnbnckmeffkmaaGreat
open Go.RowKit Go.Lib
set_option linter.unusedVariables false
set_option linter.unusedSimpArgs false
attribute [local go_sem ↓] Go.wp_at_zero Go.wp_at_succ

/-- The whole tree of hashes. -/
def treeT (Is : List (List Nat)) : Ta := if Is.length = 0 then .top0 else .top Is.length (leftR .top0 Ta.knot (Is.map .leaf))
end Go.Proofs.YthnbnckmeffkmaaGreat
/- merkle.way. -/
namespace Go.Proofs.YthnbnckmeffkmaaGreat
open Go.RowKit Go.Lib
set_option linter.unusedVariables false
set_option linter.unusedSimpArgs false
attribute [local go_sem ↓] Go.wp_at_zero Go.wp_at_succ

theorem own_less {w : World} {base base' : Nat} {e : TypeId} {size n : Nat} {v : Value} {xs : List Value} (h : w.ownsRow base e size v n xs) (hb : base' ≤ base) : w.ownsRow base' e size v n xs := by
  refine ⟨h.1, h.2.imp id ?_⟩
  rintro ⟨g, cap, cur, h1, h2, h3⟩
  exact ⟨g, cap, cur, h1, Nat.le_trans hb h2, h3⟩
end Go.Proofs.YthnbnckmeffkmaaGreat
/- slices.Reverse of a row of nodes. -/
namespace Go.Proofs.YthnbnckmeffkmaaGreat
open Go.RowKit Go.Lib
set_option linter.unusedVariables false
set_option linter.unusedSimpArgs false
attribute [local go_sem ↓] Go.wp_at_zero Go.wp_at_succ

theorem kept_set (w : World) (g j : Nat) (u : Value) {n c : Nat} : Kept (Off (.slice (some ⟨g, 0, none⟩) n c)) w (w.setCell ⟨g, j, none⟩ u) := by
  refine ⟨((Below.refl 0 w).setCell (p := ⟨g, j, none⟩) (Nat.zero_le _) u).size, fun k _ hk => heap_setCell_other w ⟨g, j, none⟩ k u (fun e => hk (by rw [e]; rfl))⟩

end Go.Proofs.YthnbnckmeffkmaaGreat
/- slices.Index of a row of nodes. -/
namespace Go.Proofs.YthnbnckmeffkmaaGreat
open Go.RowKit Go.Lib
set_option linter.unusedVariables false
set_option linter.unusedSimpArgs false
attribute [local go_sem ↓] Go.wp_at_zero Go.wp_at_succ

end Go.Proofs.YthnbnckmeffkmaaGreat
/- string(b) of bytes, and how such are compared. Nothing of the dump stands here. -/
namespace Go.Proofs.YthnbnckmeffkmaaGreat
open Go.RowKit Go.Lib
set_option linter.unusedVariables false

/-- The string of these bytes. -/
def strL (L : List Nat) : ByteArray := ⟨(L.map UInt8.ofNat).toArray⟩
theorem strL_data (L : List Nat) : (strL L).data.toList = L.map UInt8.ofNat := rfl
theorem ofNat_inj : ∀ (A B : List Nat), (∀ x ∈ A, x < 256) → (∀ x ∈ B, x < 256) → A.map UInt8.ofNat = B.map UInt8.ofNat → A = B
  | [], [], _, _, _ => rfl
  | [], _ :: _, _, _, h => by simp at h
  | _ :: _, [], _, _, h => by simp at h
  | a :: A, b :: B, hA, hB, h => by
    simp only [List.map_cons, List.cons.injEq] at h
    have ha := hA a (List.mem_cons_self ..)
    have hb := hB b (List.mem_cons_self ..)
    have e : a = b := by
      have := congrArg UInt8.toNat h.1
      simp only [UInt8.toNat_ofNat'] at this
      omega
    rw [e, ofNat_inj A B (fun x hx => hA x (List.mem_cons_of_mem _ hx)) (fun x hx => hB x (List.mem_cons_of_mem _ hx)) h.2]
theorem strL_inj {A B : List Nat} (hA : ∀ x ∈ A, x < 256) (hB : ∀ x ∈ B, x < 256) (h : strL A = strL B) : A = B :=
  ofNat_inj A B hA hB (by rw [← strL_data, ← strL_data, h])
theorem strL_beq (A B : List Nat) (hA : ∀ x ∈ A, x < 256) (hB : ∀ x ∈ B, x < 256) : ((strL A).toList == (strL B).toList) = decide (A = B) := by
  rw [ByteArray.toList_eq, ByteArray.toList_eq, strL_data, strL_data]
  by_cases h : A = B
  · subst h
    simp
  · rw [decide_eq_false h, beq_eq_false_iff_ne]
    exact fun e => h (ofNat_inj A B hA hB e)
theorem conv_byts {P : Program} {w : World} {v : Value} {L : List Nat} (h : Byts w v L) (src dst e : TypeId) (hs : P.underlying src = some (.slice e)) (he : P.underlying e = some (.int .u8)) (hd : P.underlying dst = some .string) :
    (convert src dst v).run P w = .ok (.string (strL L)) w := by
  rcases h.2 with ⟨rfl, rfl⟩ | ⟨ad, c, rfl, _, _, hc⟩
  · rw [run_convert_bytes_nil w src e hs he 0 0 dst hd]; rfl
  · have := run_convert_bytes_back (P := P) w src dst e ad c (L.map UInt8.ofNat) hs he hd (fun j hj => by
      rw [List.length_map] at hj
      rw [hc j hj, List.getElem_map]
      have hx := h.1 (L[j]) (List.getElem_mem hj)
      have e1 : L.getD j 0 = L[j] := by simp only [List.getD, List.getElem?_eq_getElem hj, Option.getD_some]
      rw [e1]
      congr 2
      rw [UInt8.toNat_ofNat']
      omega)
    rw [List.length_map] at this
    exact this
end Go.Proofs.YthnbnckmeffkmaaGreat
/- Drawn regions in which a condition on the world holds throughout: one operation that alone may come up. Nothing of the dump stands here. -/
namespace Go.Proofs.YthnbnckmeffkmaaGreat
open Go.RowKit Go.Lib
set_option linter.unusedVariables false
section
variable {P : Program} {ops : Array Oper} {Q : Exit → Act → World → Prop} {md : Region.Mode} {S : World → Prop}
theorem wpAnyH_one {i : Nat} {oi : Oper} {fuel : Nat} {listed : Array Bool} {a : Act} {w : World} (hr : Region.ready md ops listed = [i]) (hi : ops[i]? = some oi) (hg : Region.wanted oi (yielded ops a.tmps) = true)
    (h : ∀ K : Act → World → Prop, (∀ a' w', S w' → wpAnyH P md ops Q S fuel (listed.setIfInBounds i true) a' w' → K a' w') → oi.wp P a w K Q) : wpAnyH P md ops Q S (fuel + 1) listed a w := by
  refine wpAnyH_all hr (by simp) (fun j hj => ?_)
  obtain rfl : j = i := by simpa using hj
  unfold wpOp
  simp only [hi]
  rw [if_pos hg]
  exact .inl (h _ (fun a' w' h1 h2 => ⟨h1, h2⟩))
theorem wp_region_H (S : World → Prop) {id : Nat} {a : Act} {w : World} (hm : P.follows .mixedOrders = true)
    (h : wpAnyH P .any ops Q S ops.size (Array.replicate ops.size false) a w.drew) : (Code.region id ops true).wp P Q a w := wp_region_held hm h
end
end Go.Proofs.YthnbnckmeffkmaaGreat
/- What merkle.Collide needs of nodes: going down. -/
namespace Go.Proofs.YthnbnckmeffkmaaGreat
open Go.RowKit Go.Lib
set_option linter.unusedVariables false
set_option linter.unusedSimpArgs false

def LvC (w : World) (b : Nat) : Prop := ∃ cs t, w.heap[b]? = some (.cells cs t (0, 0))
end Go.Proofs.YthnbnckmeffkmaaGreat
/- merkle.Collide: the way down. -/
namespace Go.Proofs.YthnbnckmeffkmaaGreat
open Go.RowKit Go.Lib
set_option linter.unusedVariables false
set_option linter.unusedSimpArgs false
attribute [local go_sem ↓] Go.wp_at_zero Go.wp_at_succ

/-- Two unlike texts of one hash. -/
def Coll (w : World) (a b : Value) : Prop := ∃ L1 L2, Byts w a L1 ∧ Byts w b L2 ∧ L1 ≠ L2 ∧ shaF L1 = shaF L2 ∧ L1.length ≤ 20000 ∧ L2.length ≤ 20000

end Go.Proofs.YthnbnckmeffkmaaGreat
/- merkle.Collide, where the path checks for what it is not of. -/
namespace Go.Proofs.YthnbnckmeffkmaaGreat
open Go.RowKit Go.Lib
set_option linter.unusedVariables false
set_option linter.unusedSimpArgs false
attribute [local go_sem ↓] Go.wp_at_zero Go.wp_at_succ

theorem fit_top (I : List Nat) (n c : Nat) (Hs Is : List (List Nat)) (hn : n < c) (hc : c ≤ 1048576) (hs : Hs.length = sizeUp n c) (hl : Is.length ≤ 1000000) (hne : ¬ (c = Is.length ∧ Is.getD n [] = I)) :
    Fit (.top c (leadUp [] Pa.kl Pa.kr (.leaf I) n c Hs)) (treeT Is) := by
  unfold treeT
  by_cases h0 : Is.length = 0
  · rw [if_pos h0]; exact .top0 _ _
  · rw [if_neg h0]
    by_cases hcl : c = Is.length
    · have hs2 : Hs.length = sizeDown n c := by rw [hs, size_same c n hn]
      rw [lead_same [] Pa.kl Pa.kr c (.leaf I) n Hs hn hs2]
      have hf := fit_of c n I Hs Is hn hcl.symm hs2 (fun e => hne ⟨hcl, e⟩)
      rw [← hcl]
      exact .top _ _ _ hf
    · exact .topNe _ _ _ _ hcl (by omega) (by omega)
theorem treeT_h (Is : List (List Nat)) : (treeT Is).h = mrootF Is := by
  unfold treeT mrootF
  by_cases h0 : Is.length = 0
  · rw [if_pos h0]
    obtain rfl := List.eq_nil_of_length_eq_zero h0
    rw [List.map_nil, leftR_one _ _ _ (by simp)]
    rfl
  · rw [if_neg h0]
    show topF Is.length (leftR .top0 Ta.knot (Is.map Ta.leaf)).h = _
    rw [leftR_h _ _ rfl (fun e => h0 (by have := congrArg List.length e; rw [List.length_map, List.length_nil] at this; exact this)), List.map_map]
    rfl
theorem top_h (I : List Nat) (n c : Nat) (Hs : List (List Nat)) : (Pa.top c (leadUp [] Pa.kl Pa.kr (.leaf I) n c Hs)).h = topF c (upF I n c Hs) := by
  show topF c (leadUp [] Pa.kl Pa.kr (.leaf I) n c Hs).h = _
  rw [leadUp_h]
  rfl
theorem colS_at {w : World} {b off c : Nat} {Is : List (List Nat)} {n : Nat} (h : HsIs w (.slice (some ⟨b, off, none⟩) Is.length c) Is) (hn : n < Is.length) : w.rangeAt b (off + n * 32) (bys (Is.getD n [])) := by
  rcases h.2 with ⟨e, _⟩ | ⟨b', off', c', e, _, _, q⟩
  · cases e
  · cases e; exact q n hn
end Go.Proofs.YthnbnckmeffkmaaGreat
