/- Trees of hashes, paths in them, and how they lie in memory; merkle.leafNode. -/
import Derived.Test.YtbaepjhbpmhmgaaG14
import Derived.Test.YtbaepjhbpmhmgaaG16
namespace Go.Proofs.Ytbaepjhbpmhmgaa
open Go.RowKit Go.Lib
set_option linter.unusedVariables false
set_option linter.unusedSimpArgs false
attribute [local go_sem ↓] Go.wp_at_zero Go.wp_at_succ

def ptr (b : Nat) : Value := .pointer (some ⟨b, 0, none⟩)
/-- A slice of pointers to these blocks. -/
def PtrsAt (w : World) (v : Value) (bs : List Nat) : Prop :=
  (v = .slice none 0 0 ∧ bs = []) ∨ ∃ g off c, v = .slice (some ⟨g, off, none⟩) bs.length c ∧ bs.length ≤ c ∧ c ≤ maxLen ∧ ∀ j, j < bs.length → w.cell? ⟨g, off + j, none⟩ = some (ptr (bs.getD j 0))
theorem PtrsAt.below {w w' : World} {v : Value} {bs : List Nat} (h : PtrsAt w v bs) (hb : Below w.heap.size w w') : PtrsAt w' v bs := by
  refine h.imp id ?_
  rintro ⟨g, off, c, h1, h2, h3, h4⟩
  exact ⟨g, off, c, h1, h2, h3, fun j hj => cellb hb (h4 j hj)⟩
theorem PtrsAt.form {w : World} {v : Value} {bs : List Nat} (h : PtrsAt w v bs) : ∃ a c, v = .slice a bs.length c := by
  rcases h with ⟨rfl, rfl⟩ | ⟨g, off, c, rfl, _⟩
  · exact ⟨_, _, rfl⟩
  · exact ⟨_, _, rfl⟩
theorem PtrsAt.made (w : World) (bs : List Nat) (t : TypeId) (hl : bs.length ≤ maxLen) : PtrsAt (w.alloc (.cells (bs.map ptr).toArray t)) (.slice (some ⟨w.heap.size, 0, none⟩) bs.length bs.length) bs := by
  have ha := Arr.made w t (bs.map ptr)
  refine .inr ⟨_, 0, _, rfl, Nat.le_refl _, hl, fun j hj => ?_⟩
  rw [ha.cell, Nat.zero_add, List.getElem?_map]
  simp [List.getElem?_eq_getElem hj]
theorem Byts.form {w : World} {v : Value} {L : List Nat} (h : Byts w v L) : ∃ a c, v = .slice a L.length c := by
  rcases h.2 with ⟨rfl, rfl⟩ | ⟨ad, c, rfl, _⟩
  · exact ⟨_, _, rfl⟩
  · exact ⟨_, _, rfl⟩
/-- A value's object is such, if it has one. -/
def Blk (C : Nat → Prop) (w : World) (v : Value) : Prop := ∀ a n k, v = .slice (some a) n k → C a.block ∧ a.block < w.heap.size
theorem Blk.nil (C : Nat → Prop) (w : World) (n k : Nat) : Blk C w (.slice none n k) := fun a n k e => by cases e
theorem Blk.of {B : Nat} {w : World} {v : Value} (h : High B v) (hl : Low w v) : Blk (B ≤ ·) w v := fun a n k e => ⟨h a n k e, hl a n k e⟩
theorem Blk.below {C : Nat → Prop} {B : Nat} {w w' : World} {v : Value} (h : Blk C w v) (hb : Below B w w') : Blk C w' v := fun a n k e => ⟨(h a n k e).1, Nat.lt_of_lt_of_le (h a n k e).2 hb.size⟩
/-- A node's object: its hash, its bytes, its kids; all its objects are such. -/
def Nd (C : Nat → Prop) (w : World) (b : Nat) (H B : List Nat) (bs : List Nat) : Prop :=
  ∃ bv kv, Arr w b 80 (bys H ++ [bv, kv]) ∧ IsH H ∧ Byts w bv B ∧ PtrsAt w kv bs ∧ C b ∧ Blk C w bv ∧ Blk C w kv ∧ B.length ≤ 100
theorem Nd.lt {C : Nat → Prop} {w : World} {b : Nat} {H B : List Nat} {bs : List Nat} (h : Nd C w b H B bs) : b < w.heap.size := by
  obtain ⟨bv, kv, h1, _⟩ := h
  exact h1.lt
theorem Nd.below {C : Nat → Prop} {w w' : World} {b : Nat} {H B : List Nat} {bs : List Nat} (h : Nd C w b H B bs) (hb : Below w.heap.size w w') : Nd C w' b H B bs := by
  obtain ⟨bv, kv, h1, h2, h3, h4, h5, h6, h7, h8⟩ := h
  exact ⟨bv, kv, h1.below hb h1.lt, h2, h3.below hb, h4.below hb, h5, h6.below hb, h7.below hb, h8⟩
theorem Nd.imp {C C' : Nat → Prop} {w : World} {b : Nat} {H B : List Nat} {bs : List Nat} (hC : ∀ k, k < w.heap.size → C k → C' k) (h : Nd C w b H B bs) : Nd C' w b H B bs := by
  obtain ⟨bv, kv, h1, h2, h3, h4, h5, h6, h7, h8⟩ := h
  exact ⟨bv, kv, h1, h2, h3, h4, hC _ h1.lt h5, fun a n k e => ⟨hC _ (h6 a n k e).2 (h6 a n k e).1, (h6 a n k e).2⟩, fun a n k e => ⟨hC _ (h7 a n k e).2 (h7 a n k e).1, (h7 a n k e).2⟩, h8⟩

/-- A way up from a leaf; a tree. -/
inductive Pa where
  | leaf (I : List Nat)
  | kl (p : Pa) (H : List Nat)
  | kr (H : List Nat) (p : Pa)
  | top (n : Nat) (p : Pa)
inductive Ta where
  | leaf (I : List Nat)
  | knot (l r : Ta)
  | top0
  | top (n : Nat) (t : Ta)
def Pa.h : Pa → List Nat
  | .leaf I => leafF I
  | .kl p H => knotF p.h H
  | .kr H p => knotF H p.h
  | .top n p => topF n p.h
def Pa.b : Pa → List Nat
  | .leaf I => textF nLeaf I
  | .kl p H => textF nKnot (p.h ++ H)
  | .kr H p => textF nKnot (H ++ p.h)
  | .top n p => textF nRoot (le8 n ++ p.h)
def Ta.h : Ta → List Nat
  | .leaf I => leafF I
  | .knot l r => knotF l.h r.h
  | .top0 => topF 0 []
  | .top n t => topF n t.h
def Ta.b : Ta → List Nat
  | .leaf I => textF nLeaf I
  | .knot l r => textF nKnot (l.h ++ r.h)
  | .top0 => textF nRoot (le8 0)
  | .top n t => textF nRoot (le8 n ++ t.h)
theorem Pa.sha (p : Pa) : shaF p.b = p.h := by cases p <;> rfl
theorem Ta.sha (t : Ta) : shaF t.b = t.h := by
  cases t <;> rfl
theorem Pa.isH (p : Pa) : IsH p.h := by cases p <;> exact tagF_h _ _
theorem Ta.isH (t : Ta) : IsH t.h := by cases t <;> exact tagF_h _ _

inductive Fit : Pa → Ta → Prop where
  | leaf (I J : List Nat) : I ≠ J → Fit (.leaf I) (.leaf J)
  | kl (p : Pa) (H : List Nat) (l r : Ta) : Fit p l → Fit (.kl p H) (.knot l r)
  | kr (H : List Nat) (p : Pa) (l r : Ta) : Fit p r → Fit (.kr H p) (.knot l r)
  | top (n : Nat) (p : Pa) (t : Ta) : Fit p t → Fit (.top n p) (.top n t)
  | topNe (n m : Nat) (p : Pa) (t : Ta) : n ≠ m → n < 18446744073709551616 → m < 18446744073709551616 → Fit (.top n p) (.top m t)
  | top0 (n : Nat) (p : Pa) : Fit (.top n p) .top0
theorem textF_inj (n a b : List Nat) (h : textF n a = textF n b) : a = b := by
  unfold textF at h
  exact List.append_cancel_left (List.cons.inj h).2
theorem le8_inj (n m : Nat) (hn : n < 18446744073709551616) (hm : m < 18446744073709551616) (h : le8 n = le8 m) : n = m := by
  unfold le8 at h
  simp only [List.cons.injEq, and_true] at h
  omega
/-- The kid into which the way goes down. -/
def Down : Pa → Ta → Pa → Ta → Prop
  | .kl p _, .knot l _, p', t' => p' = p ∧ t' = l
  | .kr _ p, .knot _ r, p', t' => p' = p ∧ t' = r
  | .top _ p, .top _ t, p', t' => p' = p ∧ t' = t
  | _, _, _, _ => False
theorem fit_down (x : Pa) (y : Ta) (h : Fit x y) (hb : x.b = y.b) : ∃ p t, Down x y p t ∧ Fit p t ∧ p.h = t.h := by
  cases h with
  | leaf I J hne => exact absurd (textF_inj _ _ _ hb) hne
  | kl p H l r hf =>
    have := textF_inj _ _ _ hb
    exact ⟨p, l, ⟨rfl, rfl⟩, hf, (List.append_inj this (by rw [p.isH.1, l.isH.1])).1⟩
  | kr H p l r hf =>
    have := textF_inj _ _ _ hb
    exact ⟨p, r, ⟨rfl, rfl⟩, hf, (List.append_inj' this (by rw [p.isH.1, r.isH.1])).2⟩
  | top n p t hf =>
    have := textF_inj _ _ _ hb
    exact ⟨p, t, ⟨rfl, rfl⟩, hf, List.append_cancel_left this⟩
  | topNe n m p t hne h1 h2 =>
    have := textF_inj _ _ _ hb
    exact absurd (le8_inj n m h1 h2 (List.append_inj this rfl).1) hne
  | top0 n p =>
    have := congrArg List.length (textF_inj _ _ _ hb)
    rw [List.length_append, p.isH.1] at this
    exact absurd this (by simp [le8])
theorem fit_of (c : Nat) : ∀ (n : Nat) (I : List Nat) (hs ids : List (List Nat)), n < c → ids.length = c → hs.length = sizeDown n c → ids.getD n [] ≠ I →
    Fit (leadDown [] Pa.kl Pa.kr (.leaf I) n c hs) (leftR .top0 Ta.knot (ids.map Ta.leaf)) := by
  induction c using Nat.strongRecOn with
  | _ c ih =>
    intro n I hs ids hn hl hsz hne
    by_cases h1 : c ≤ 1
    · obtain ⟨J, rfl⟩ : ∃ J, ids = [J] := by
        match ids, (show ids.length = 1 by omega) with
        | [J], _ => exact ⟨J, rfl⟩
      obtain rfl : n = 0 := by omega
      rw [leadDown, if_pos h1, leftR_one _ _ _ (by simp)]
      exact .leaf _ _ (fun e => hne e.symm)
    · have hb := half_bounds c (by omega)
      rw [sizeDown, if_neg h1] at hsz
      rw [leadDown, if_neg h1, leftR_more _ _ _ (by rw [List.length_map, hl]; omega), List.length_map, hl]
      by_cases hlt : n < half c
      · rw [if_pos hlt] at hsz ⊢
        refine .kl _ _ _ _ ?_
        rw [← List.map_take]
        refine ih (half c) hb.1 n I hs.dropLast (ids.take (half c)) hlt (by rw [List.length_take]; omega) (by rw [List.length_dropLast]; omega) ?_
        rw [List.getD_eq_getElem?_getD, List.getElem?_take_of_lt hlt, ← List.getD_eq_getElem?_getD]; exact hne
      · rw [if_neg hlt] at hsz ⊢
        refine .kr _ _ _ _ ?_
        rw [← List.map_drop]
        refine ih (c - half c) (by omega) (n - half c) I hs.dropLast (ids.drop (half c)) (by omega) (by rw [List.length_drop]; omega) (by rw [List.length_dropLast]; omega) ?_
        rw [List.getD_eq_getElem?_getD, List.getElem?_drop, ← List.getD_eq_getElem?_getD, show half c + (n - half c) = n by omega]; exact hne
theorem leadUp_h (c : Nat) : ∀ (a : Pa) (n : Nat) (hs : List (List Nat)), (leadUp [] Pa.kl Pa.kr a n c hs).h = leadUp [] knotF knotF a.h n c hs := by
  induction c using Nat.strongRecOn with
  | _ c ih =>
    intro a n hs
    rw [leadUp]
    conv => rhs; rw [leadUp]
    split
    · rfl
    · rename_i h1
      split
      · exact ih _ (by omega) _ _ _
      · split
        · exact ih _ (by omega) _ _ _
        · exact ih _ (by omega) _ _ _
theorem leftR_h (c : Nat) : ∀ l : List Ta, l.length = c → l ≠ [] → (leftR .top0 Ta.knot l).h = leftR [] knotF (l.map Ta.h) := by
  induction c using Nat.strongRecOn with
  | _ c ih =>
    intro l hl hne
    by_cases h1 : l.length ≤ 1
    · obtain ⟨J, rfl⟩ : ∃ J, l = [J] := by
        match l, h1 with
        | [], _ => exact absurd rfl hne
        | [J], _ => exact ⟨J, rfl⟩
      rw [leftR_one _ _ _ (by simp), leftR_one _ _ _ (by simp)]; rfl
    · have hb := half_bounds l.length (by omega)
      rw [leftR_more .top0 Ta.knot l (by omega), leftR_more [] knotF (l.map Ta.h) (by rw [List.length_map]; omega), List.length_map, ← List.map_take, ← List.map_drop,
        ← ih (half l.length) (by omega) (l.take (half l.length)) (by rw [List.length_take]; omega) (fun e => by have := congrArg List.length e; rw [List.length_take, List.length_nil] at this; omega),
        ← ih (l.length - half l.length) (by omega) (l.drop (half l.length)) (by rw [List.length_drop]) (fun e => by have := congrArg List.length e; rw [List.length_drop, List.length_nil] at this; omega)]
      rfl

/-- An object that can be told from others. -/
def Lv (C : Nat → Prop) (w : World) (b : Nat) : Prop := C b ∧ ∃ cs t, w.heap[b]? = some (.cells cs t (0, 0))
theorem Lv.lt {C : Nat → Prop} {w : World} {b : Nat} (h : Lv C w b) : b < w.heap.size := by
  obtain ⟨_, cs, t, h⟩ := h
  exact (Array.getElem?_eq_some_iff.1 h).1
theorem Lv.below {C : Nat → Prop} {w w' : World} {b : Nat} (h : Lv C w b) (hb : Below w.heap.size w w') : Lv C w' b := by
  have hl := h.lt
  obtain ⟨h1, cs, t, h2⟩ := h
  exact ⟨h1, cs, t, by rw [hb.block b hl]; exact h2⟩
theorem Lv.imp {C C' : Nat → Prop} {w : World} {b : Nat} (hC : ∀ k, k < w.heap.size → C k → C' k) (h : Lv C w b) : Lv C' w b := ⟨hC b h.lt h.1, h.2⟩
/-- A tree at a block; a way, its blocks from above. -/
def TaAt (C : Nat → Prop) (w : World) : Ta → Nat → Prop
  | .leaf I, b => Nd C w b (leafF I) (textF nLeaf I) []
  | .knot l r, b => ∃ bl br, Nd C w b (knotF l.h r.h) (textF nKnot (l.h ++ r.h)) [bl, br] ∧ TaAt C w l bl ∧ TaAt C w r br
  | .top0, b => Nd C w b (topF 0 []) (textF nRoot (le8 0)) []
  | .top n t, b => ∃ b1, Nd C w b (topF n t.h) (textF nRoot (le8 n ++ t.h)) [b1] ∧ TaAt C w t b1
def PaAt (C : Nat → Prop) (w : World) : Pa → List Nat → Prop
  | .leaf I, bs => ∃ b, bs = [b] ∧ Nd C w b (leafF I) (textF nLeaf I) []
  | .kl p H, bs => ∃ b b1 r b2, bs = b :: b1 :: r ∧ Nd C w b (knotF p.h H) (textF nKnot (p.h ++ H)) [b1, b2] ∧ b2 ≠ b1 ∧ PaAt C w p (b1 :: r)
  | .kr H p, bs => ∃ b b1 r b2, bs = b :: b1 :: r ∧ Nd C w b (knotF H p.h) (textF nKnot (H ++ p.h)) [b2, b1] ∧ (b2 ≠ b1 ∧ Lv C w b2) ∧ PaAt C w p (b1 :: r)
  | .top n p, bs => ∃ b b1 r, bs = b :: b1 :: r ∧ Nd C w b (topF n p.h) (textF nRoot (le8 n ++ p.h)) [b1] ∧ PaAt C w p (b1 :: r)
theorem TaAt.below {C : Nat → Prop} {w w' : World} (hb : Below w.heap.size w w') : ∀ {t : Ta} {b : Nat}, TaAt C w t b → TaAt C w' t b
  | .leaf I, b, h => Nd.below h hb
  | .knot l r, b, ⟨bl, br, h1, h2, h3⟩ => ⟨bl, br, h1.below hb, TaAt.below hb h2, TaAt.below hb h3⟩
  | .top0, b, h => Nd.below h hb
  | .top n t, b, ⟨b1, h1, h2⟩ => ⟨b1, h1.below hb, TaAt.below hb h2⟩
theorem PaAt.below {C : Nat → Prop} {w w' : World} (hb : Below w.heap.size w w') : ∀ {p : Pa} {bs : List Nat}, PaAt C w p bs → PaAt C w' p bs
  | .leaf I, b, ⟨b1, e, h⟩ => ⟨b1, e, h.below hb⟩
  | .kl p H, b, ⟨b0, b1, r, b2, e, h1, h2, h3⟩ => ⟨b0, b1, r, b2, e, h1.below hb, h2, PaAt.below hb h3⟩
  | .kr H p, b, ⟨b0, b1, r, b2, e, h1, h2, h3⟩ => ⟨b0, b1, r, b2, e, h1.below hb, ⟨h2.1, h2.2.below hb⟩, PaAt.below hb h3⟩
  | .top n p, b, ⟨b0, b1, r, e, h1, h2⟩ => ⟨b0, b1, r, e, h1.below hb, PaAt.below hb h2⟩
theorem TaAt.nd {C : Nat → Prop} {w : World} : ∀ {t : Ta} {b : Nat}, TaAt C w t b → ∃ bs, Nd C w b t.h t.b bs
  | .leaf I, b, h => ⟨_, h⟩
  | .knot l r, b, ⟨bl, br, h1, h2, h3⟩ => ⟨_, h1⟩
  | .top0, b, h => ⟨_, h⟩
  | .top n t, b, ⟨b1, h1, h2⟩ => ⟨_, h1⟩
theorem TaAt.imp {C C' : Nat → Prop} {w : World} (hC : ∀ k, k < w.heap.size → C k → C' k) : ∀ {t : Ta} {b : Nat}, TaAt C w t b → TaAt C' w t b
  | .leaf I, b, h => Nd.imp hC h
  | .knot l r, b, ⟨bl, br, h1, h2, h3⟩ => ⟨bl, br, h1.imp hC, TaAt.imp hC h2, TaAt.imp hC h3⟩
  | .top0, b, h => Nd.imp hC h
  | .top n t, b, ⟨b1, h1, h2⟩ => ⟨b1, h1.imp hC, TaAt.imp hC h2⟩
/-- Such objects stay as they are. -/
def Kept (C : Nat → Prop) (w w' : World) : Prop := w.heap.size ≤ w'.heap.size ∧ ∀ k, k < w.heap.size → C k → w'.heap[k]? = w.heap[k]?
theorem Lv.kept {C : Nat → Prop} {w w' : World} {b : Nat} (hk : Kept C w w') (h : Lv C w b) : Lv C w' b := by
  have hl := h.lt
  obtain ⟨h1, cs, t, h2⟩ := h
  exact ⟨h1, cs, t, by rw [hk.2 b hl h1]; exact h2⟩
theorem Nd.kept {C : Nat → Prop} {w w' : World} {b : Nat} {H B : List Nat} {bs : List Nat} (hk : Kept C w w') (h : Nd C w b H B bs) : Nd C w' b H B bs := by
  obtain ⟨bv, kv, h1, h2, h3, h4, h5, h6, h7, h8⟩ := h
  refine ⟨bv, kv, ?_, h2, ⟨h3.1, ?_⟩, ?_, h5, fun a n k e => ⟨(h6 a n k e).1, Nat.lt_of_lt_of_le (h6 a n k e).2 hk.1⟩, fun a n k e => ⟨(h7 a n k e).1, Nat.lt_of_lt_of_le (h7 a n k e).2 hk.1⟩, h8⟩
  · have h1' : w.heap[b]? = _ := h1
    show w'.heap[b]? = _
    rw [hk.2 b h1.lt h5]; exact h1'
  · rcases h3.2 with h | ⟨ad, c, e, q1, q2, q3⟩
    · exact .inl h
    · refine .inr ⟨ad, c, e, q1, q2, fun j hj => ?_⟩
      have := h6 ad _ _ e
      have hbl : (ad.add j).block = ad.block := by unfold Addr.add; split <;> rfl
      rw [World.cell?_of_block (a := ad.add j) (w := w) (w' := w') (by rw [hbl]; exact hk.2 _ this.2 this.1)]; exact q3 j hj
  · rcases h4 with h | ⟨g, off, c, e, q1, q2, q3⟩
    · exact .inl h
    · refine .inr ⟨g, off, c, e, q1, q2, fun j hj => ?_⟩
      have := h7 _ _ _ e
      rw [World.cell?_of_block (a := ⟨g, off + j, none⟩) (w := w) (w' := w') (hk.2 _ this.2 this.1)]; exact q3 j hj
theorem TaAt.kept {C : Nat → Prop} {w w' : World} (hk : Kept C w w') : ∀ {t : Ta} {b : Nat}, TaAt C w t b → TaAt C w' t b
  | .leaf I, b, h => Nd.kept hk h
  | .knot l r, b, ⟨bl, br, h1, h2, h3⟩ => ⟨bl, br, h1.kept hk, TaAt.kept hk h2, TaAt.kept hk h3⟩
  | .top0, b, h => Nd.kept hk h
  | .top n t, b, ⟨b1, h1, h2⟩ => ⟨b1, h1.kept hk, TaAt.kept hk h2⟩
theorem PaAt.kept {C : Nat → Prop} {w w' : World} (hk : Kept C w w') : ∀ {p : Pa} {bs : List Nat}, PaAt C w p bs → PaAt C w' p bs
  | .leaf I, b, ⟨b1, e, h⟩ => ⟨b1, e, h.kept hk⟩
  | .kl p H, b, ⟨b0, b1, r, b2, e, h1, h2, h3⟩ => ⟨b0, b1, r, b2, e, h1.kept hk, h2, PaAt.kept hk h3⟩
  | .kr H p, b, ⟨b0, b1, r, b2, e, h1, h2, h3⟩ => ⟨b0, b1, r, b2, e, h1.kept hk, ⟨h2.1, (Lv.kept hk h2.2)⟩, PaAt.kept hk h3⟩
  | .top n p, b, ⟨b0, b1, r, e, h1, h2⟩ => ⟨b0, b1, r, e, h1.kept hk, PaAt.kept hk h2⟩
theorem Kept.below {C : Nat → Prop} {w w' : World} (h : Below w.heap.size w w') : Kept C w w' := ⟨h.size, fun k hk _ => h.block k hk⟩
theorem PaAt.nd {C : Nat → Prop} {w : World} : ∀ {p : Pa} {bs : List Nat}, PaAt C w p bs → ∃ b r ks, bs = b :: r ∧ Nd C w b p.h p.b ks
  | .leaf I, b, ⟨b1, e, h⟩ => ⟨_, _, _, e, h⟩
  | .kl p H, b, ⟨b0, b1, r, b2, e, h1, h2, h3⟩ => ⟨_, _, _, e, h1⟩
  | .kr H p, b, ⟨b0, b1, r, b2, e, h1, h2, h3⟩ => ⟨_, _, _, e, h1⟩
  | .top n p, b, ⟨b0, b1, r, e, h1, h2⟩ => ⟨_, _, _, e, h1⟩
theorem PaAt.imp {C C' : Nat → Prop} {w : World} (hC : ∀ k, k < w.heap.size → C k → C' k) : ∀ {p : Pa} {bs : List Nat}, PaAt C w p bs → PaAt C' w p bs
  | .leaf I, b, ⟨b1, e, h⟩ => ⟨b1, e, h.imp hC⟩
  | .kl p H, b, ⟨b0, b1, r, b2, e, h1, h2, h3⟩ => ⟨b0, b1, r, b2, e, h1.imp hC, h2, PaAt.imp hC h3⟩
  | .kr H p, b, ⟨b0, b1, r, b2, e, h1, h2, h3⟩ => ⟨b0, b1, r, b2, e, h1.imp hC, ⟨h2.1, h2.2.imp hC⟩, PaAt.imp hC h3⟩
  | .top n p, b, ⟨b0, b1, r, e, h1, h2⟩ => ⟨b0, b1, r, e, h1.imp hC, PaAt.imp hC h2⟩

theorem node_build1 (H : List Nat) (hH : H.length = 32) (a : Option Addr) (n c : Nat) (w : World) :
    (Instr.build 80 #[(0, .agg (bys H).toArray), (1, .slice a n c)]).run Try.prog w = .ok (.agg (bys H ++ [Value.slice a n c, .slice none 0 0]).toArray) w := by
  match H, hH with
  | [x0, x1, x2, x3, x4, x5, x6, x7, x8, x9, x10, x11, x12, x13, x14, x15, x16, x17, x18, x19, x20, x21, x22, x23, x24, x25, x26, x27, x28, x29, x30, x31], _ => show _ = _; kernel_rfl
theorem node_build3 (H : List Nat) (hH : H.length = 32) (a a' : Option Addr) (n c n' c' : Nat) (w : World) :
    (Instr.build 80 #[(0, .agg (bys H).toArray), (1, .slice a n c), (2, .slice a' n' c')]).run Try.prog w = .ok (.agg (bys H ++ [Value.slice a n c, .slice a' n' c']).toArray) w := by
  match H, hH with
  | [x0, x1, x2, x3, x4, x5, x6, x7, x8, x9, x10, x11, x12, x13, x14, x15, x16, x17, x18, x19, x20, x21, x22, x23, x24, x25, x26, x27, x28, x29, x30, x31], _ => show _ = _; kernel_rfl
theorem node_build0 (H : List Nat) (hH : H.length = 32) (w : World) :
    (Instr.build 80 #[(0, .agg (bys H).toArray)]).run Try.prog w = .ok (.agg (bys H ++ [Value.slice none 0 0, .slice none 0 0]).toArray) w := by
  match H, hH with
  | [x0, x1, x2, x3, x4, x5, x6, x7, x8, x9, x10, x11, x12, x13, x14, x15, x16, x17, x18, x19, x20, x21, x22, x23, x24, x25, x26, x27, x28, x29, x30, x31], _ => show _ = _; kernel_rfl
theorem PtrsAt.nil (w : World) : PtrsAt w (.slice none 0 0) [] := .inl ⟨rfl, rfl⟩
theorem Nd.made {C : Nat → Prop} (w : World) (H B : List Nat) (bs : List Nat) (bv kv : Value) (hH : IsH H) (hb : Byts w bv B) (hk : PtrsAt w kv bs) (hC : C w.heap.size) (hCb : Blk C w bv) (hCk : Blk C w kv) (hBl : B.length ≤ 100) :
    Nd C (w.alloc (.cells (bys H ++ [bv, kv]).toArray 80)) w.heap.size H B bs := by
  have hbl : Below w.heap.size w (w.alloc (.cells (bys H ++ [bv, kv]).toArray 80)) := (Below.refl _ _).alloc (Nat.le_refl _) _
  exact ⟨bv, kv, Arr.made _ _ _, hH, hb.below hbl, hk.below hbl, hC, hCb.below hbl, hCk.below hbl, hBl⟩
end Go.Proofs.Ytbaepjhbpmhmgaa
/- merkle.leafNode, knotNode, topNode. -/
namespace Go.Proofs.Ytbaepjhbpmhmgaa
open Go.RowKit Go.Lib
set_option linter.unusedVariables false
set_option linter.unusedSimpArgs false
attribute [local go_sem ↓] Go.wp_at_zero Go.wp_at_succ

theorem textL (I : List Nat) : textF (nmB ⟨#[108, 101, 97, 102]⟩) [I].flatten = textF nLeaf I := by rw [List.flatten_cons, List.flatten_nil, List.append_nil]; rfl
theorem textK (I J : List Nat) : textF (nmB ⟨#[107, 110, 111, 116]⟩) [I, J].flatten = textF nKnot (I ++ J) := by rw [List.flatten_cons, List.flatten_cons, List.flatten_nil, List.append_nil]; rfl
theorem textR0 (I : List Nat) : textF (nmB ⟨#[114, 111, 111, 116]⟩) [I].flatten = textF nRoot I := by rw [List.flatten_cons, List.flatten_nil, List.append_nil]; rfl
theorem textR (I J : List Nat) : textF (nmB ⟨#[114, 111, 111, 116]⟩) [I, J].flatten = textF nRoot (I ++ J) := by rw [List.flatten_cons, List.flatten_cons, List.flatten_nil, List.append_nil]; rfl
/-- The hash that a block's node has. -/
def HdAt (w : World) (b : Nat) (H : List Nat) : Prop := w.rangeAt b 0 (bys H) ∧ IsH H ∧ b < w.heap.size
theorem HdAt.below {w w' : World} {b : Nat} {H : List Nat} (h : HdAt w b H) (hb : Below w.heap.size w w') : HdAt w' b H := ⟨rangeAt_below h.1 hb h.2.2, h.2.1, Nat.lt_of_lt_of_le h.2.2 hb.size⟩
theorem Nd.hd {C : Nat → Prop} {w : World} {b : Nat} {H B : List Nat} {bs : List Nat} (h : Nd C w b H B bs) : HdAt w b H := by
  obtain ⟨bv, kv, h1, h2, _⟩ := h
  refine ⟨fun j u hu => ?_, h2, h1.lt⟩
  rw [Nat.zero_add, h1.cell, List.getElem?_append_left (List.getElem?_eq_some_iff.1 hu).1]; exact hu
/-- Not past the last cell: a slice of the hash within a node. -/
theorem HdAt.slice {w : World} {b : Nat} {H : List Nat} (h : HdAt w b H) : Byts w (.slice (some ⟨b, 0, none⟩) 32 32) H ∧ Low w (.slice (some ⟨b, 0, none⟩) 32 32) := ⟨rangeAt.byts h.1 h.2.1, rangeAt.low h.1 h.2.1 32 32⟩

set_option maxRecDepth 100000 in
set_option maxHeartbeats 1600000 in
theorem leafNode_any (I : List Nat) (hI : IsH I) (w : World) :
    Calls Try.prog 58 #[.agg (bys I).toArray] w fun e w' => ∃ b, e = .returned (ptr b) ∧ Nd (w.heap.size ≤ ·) w' b (leafF I) (textF nLeaf I) [] ∧ Below w.heap.size w w' := by
  have HI := Lib.hid hI
  clear hI
  obtain ⟨B0, hB0⟩ : ∃ B0, B0 = w.heap.size := ⟨_, rfl⟩
  have HB0 := Lib.hid hB0
  clear hB0
  go_enter Try.func58, Try.ntmps58
  go_upto_region 1 with fail
  have ha := Arr.made w 24 (bys I)
  have hb : Below w.heap.size w (w.alloc (.cells (bys I).toArray 24)) := (Below.refl _ _).alloc (Nat.le_refl _) _
  have HA1 := Lib.hid ha
  have HB1 := Lib.hid hb
  clear ha hb
  generalize World.alloc _ _ = w1 at *
  have HSi := Lib.hid (size_hash I HI.out.1)
  refine wp_region_U (fun w' => Arr w' w.heap.size 24 (bys I)) 7 (by kernel_rfl) ?_
  simp only [List.size_toArray, List.length_cons, List.length_nil, Nat.reduceAdd, Array.replicate_succ, Array.replicate_zero, List.push_toArray, List.nil_append, List.cons_append]
  have HS0 := Lib.hid (show Arr w1.drew w.heap.size 24 (bys I) from HA1.out)
  refine wpAnyU_take (i := 0) (oi := ⟨some 3, _, _, _, _, _⟩) rfl (by kernel_rfl) (by kernel_rfl) (by kernel_rfl) (by kernel_rfl) (by kernel_rfl) (fun _ _ _ h => h) (yieldsIf_load_mid (by rfl) 24 (.tmp 1) rfl w.heap.size 0 rfl (bys I) _ (fun w h => h.range) Try.underlying24 rfl HSi.out) HS0.out ?_
  dsimp only [Act.put]
  simp only [List.setIfInBounds_toArray, List.set_cons_zero, List.set_cons_succ]
  refine wpAnyU_take0 (i := 2) (oi := ⟨some 5, _, _, _, _, _⟩) (v := ?_) rfl (by kernel_rfl) (by kernel_rfl) (by kernel_rfl) (by decide) (fun _ _ _ h => h) (Or.inl ⟨by rfl, ?_⟩) (fun _ => HS0.out) ?_
  rotate_left
  · intro w hSw; go_simp <;> with_reducible rfl
  dsimp only [Act.put]
  simp only [List.setIfInBounds_toArray, List.set_cons_zero, List.set_cons_succ]
  refine wpAnyU_facts [(1, some 4), (3, some 6), (4, some 7), (5, some 8), (6, some 9), (7, some 2)] (fun i v w => match i with
    | 1 => v = .agg (bys (leafF I)).toArray
    | 3 => PartsIs w v [I]
    | 4 => Byts w v (textF nLeaf I) ∧ Blk (B0 ≤ ·) w v
    | 5 => ∃ bv, v = .agg (bys (leafF I) ++ [bv, Value.slice none 0 0]).toArray ∧ Byts w bv (textF nLeaf I) ∧ Blk (B0 ≤ ·) w bv
    | _ => ∃ b, v = ptr b ∧ Nd (B0 ≤ ·) w b (leafF I) (textF nLeaf I) []) ?_ ?_ (by kernel_rfl) (by decide) (by kernel_rfl) ?_ ?_
  · intro i v w w' h hb
    match i, h with
    | 0, ⟨b, e, h⟩ => exact ⟨b, e, h.below hb⟩
    | 1, h => exact h
    | 2, ⟨b, e, h⟩ => exact ⟨b, e, h.below hb⟩
    | 3, h => exact PartsIs.below h hb
    | 4, ⟨h, h2⟩ => exact ⟨Byts.below h hb, Blk.below h2 hb⟩
    | 5, ⟨b, e, h, h2⟩ => exact ⟨b, e, h.below hb, h2.below hb⟩
    | _ + 6, ⟨b, e, h⟩ => exact ⟨b, e, h.below hb⟩
  · exact fun w' hb => HS0.out.below hb HS0.out.lt
  refine List.forall_mem_cons.2 ⟨?_, List.forall_mem_cons.2 ⟨?_, List.forall_mem_cons.2 ⟨?_, List.forall_mem_cons.2 ⟨?_, List.forall_mem_cons.2 ⟨?_, List.forall_mem_cons.2 ⟨?_, fun p hp => absurd hp List.not_mem_nil⟩⟩⟩⟩⟩⟩
  · refine stepF_of (oi := ⟨some 4, _, _, _, _, _⟩) rfl rfl ?_
    intro X w5 hB5 hd K hK
    have hs5 : B0 ≤ w5.heap.size := by rw [HB0.out]; exact Nat.le_trans HB1.out.size hB5.size
    simp only [putsA, putsT_some, putsT_nil, Act.put, List.setIfInBounds_toArray, List.set_cons_zero, List.set_cons_succ] at hK ⊢
    have HK := Lib.hid hK
    clear hK hd
    go_simp
    refine (leaf_any I HI.out _).mono ?_
    rintro e w6 ⟨rfl, hb6⟩
    dsimp only
    exact HK.out _ _ rfl hb6
  · refine stepF_of (oi := ⟨some 6, _, _, _, _, _⟩) rfl rfl ?_
    intro X w5 hB5 hd K hK
    have hs5 : B0 ≤ w5.heap.size := by rw [HB0.out]; exact Nat.le_trans HB1.out.size hB5.size
    simp only [putsA, putsT_some, putsT_nil, Act.put, List.setIfInBounds_toArray, List.set_cons_zero, List.set_cons_succ] at hK ⊢
    have HK := Lib.hid hK
    clear hK hd
    have HA5 := Lib.hid (HS0.out.below hB5 HS0.out.lt)
    have HP5 := Lib.hid (parts1 34 (HA5.out.byts HI.out.2 32 HI.out.1.symm (by unfold maxLen; omega)) (HA5.out.low 32 32))
    have HBa := Lib.hid (show Below w5.heap.size w5 (w5.alloc (.cells #[.slice (some ⟨w.heap.size, 0, none⟩) 32 32] 34)) from (Below.refl _ _).alloc (Nat.le_refl _) _)
    go_simp
    exact HK.out _ _ HP5.out HBa.out
  · refine stepF_of (oi := ⟨some 7, _, _, _, _, _⟩) rfl rfl ?_
    intro X w5 hB5 hd K hK
    have hs5 : B0 ≤ w5.heap.size := by rw [HB0.out]; exact Nat.le_trans HB1.out.size hB5.size
    have hp : PartsIs w5 (X 3) [I] := hd (3, some 6) (by decide) (by kernel_rfl)
    have HP := Lib.hid hp
    clear hp
    simp only [putsA, putsT_some, putsT_nil, Act.put, List.setIfInBounds_toArray, List.set_cons_zero, List.set_cons_succ] at hK ⊢
    have HK := Lib.hid hK
    clear hK hd
    go_simp
    refine (text_any ⟨#[108, 101, 97, 102]⟩ _ [I] _ (by decide) (by simp [HI.out.1]) HP.out).mono ?_
    rintro e w6 ⟨v6, rfl, hy, hlo, hhi, hb6⟩
    rw [textL] at hy
    dsimp only
    exact HK.out _ _ ⟨hy, Blk.of (hhi.mono hs5) hlo⟩ hb6
  · refine stepF_of (oi := ⟨some 8, _, _, _, _, _⟩) rfl rfl ?_
    intro X w5 hB5 hd K hK
    have hs5 : B0 ≤ w5.heap.size := by rw [HB0.out]; exact Nat.le_trans HB1.out.size hB5.size
    have hh : X 1 = .agg (bys (leafF I)).toArray := hd (1, some 4) (by decide) (by kernel_rfl)
    obtain ⟨hy, hyb⟩ : Byts w5 (X 4) (textF nLeaf I) ∧ Blk (B0 ≤ ·) w5 (X 4) := hd (4, some 7) (by decide) (by kernel_rfl)
    obtain ⟨a9, c9, h9⟩ := hy.form
    have HY := Lib.hid hy
    have HYb := Lib.hid hyb
    have H9 := Lib.hid h9
    have HH := Lib.hid hh
    clear hy hyb h9 hh
    simp only [putsA, putsT_some, putsT_nil, Act.put, List.setIfInBounds_toArray, List.set_cons_zero, List.set_cons_succ] at hK ⊢
    have HK := Lib.hid hK
    clear hK hd
    refine wp_build_run 80 _ rfl #[(0, X 1), (1, X 4)] (by simp only [List.map_toArray, List.map_cons, List.map_nil]; rfl) _ ?_ (HK.out _ _ ⟨X 4, rfl, HY.out, HYb.out⟩ (Below.refl _ _))
    have := node_build1 (leafF I) (tagF_h _ _).1 a9 (textF nLeaf I).length c9 w5
    rw [← H9.out, ← HH.out] at this
    exact this
  · refine stepF_of (oi := ⟨some 9, _, _, _, _, _⟩) rfl rfl ?_
    intro X w5 hB5 hd K hK
    have hs5 : B0 ≤ w5.heap.size := by rw [HB0.out]; exact Nat.le_trans HB1.out.size hB5.size
    obtain ⟨bv, h5, hy, hyb⟩ : ∃ bv, X 5 = .agg (bys (leafF I) ++ [bv, Value.slice none 0 0]).toArray ∧ Byts w5 bv (textF nLeaf I) ∧ Blk (B0 ≤ ·) w5 bv := hd (5, some 8) (by decide) (by kernel_rfl)
    have HN := Lib.hid (Nd.made (C := (B0 ≤ ·)) w5 _ _ _ bv (.slice none 0 0) (tagF_h nLeaf I) hy (PtrsAt.nil w5) hs5 hyb (Blk.nil _ _ _ _) (by rw [show (textF nLeaf I).length = 5 + I.length by simp [textF, nLeaf]; omega, HI.out.1]; omega))
    have HBa := Lib.hid (show Below w5.heap.size w5 (w5.alloc (.cells (bys (leafF I) ++ [bv, Value.slice none 0 0]).toArray 80)) from (Below.refl _ _).alloc (Nat.le_refl _) _)
    simp only [putsA, putsT_some, putsT_nil, Act.put, List.setIfInBounds_toArray, List.set_cons_zero, List.set_cons_succ] at hK ⊢
    rw [h5] at hK ⊢
    clear h5
    have HK := Lib.hid hK
    clear hK hd
    go_simp
    exact HK.out _ _ ⟨_, rfl, HN.out⟩ HBa.out
  · refine stepF_of (oi := ⟨some 2, _, _, _, _, _⟩) rfl rfl ?_
    intro X w5 hB5 hd K hK
    have hs5 : B0 ≤ w5.heap.size := by rw [HB0.out]; exact Nat.le_trans HB1.out.size hB5.size
    have h6 : ∃ b, X 6 = ptr b ∧ Nd (B0 ≤ ·) w5 b (leafF I) (textF nLeaf I) [] := hd (6, some 9) (by decide) (by kernel_rfl)
    have H6 := Lib.hid h6
    clear h6
    simp only [putsA, putsT_some, putsT_nil, Act.put, List.setIfInBounds_toArray, List.set_cons_zero, List.set_cons_succ] at hK ⊢
    have HK := Lib.hid hK
    clear hK hd
    go_simp
    exact HK.out _ _ H6.out (Below.refl _ _)
  · intro X w5 hB5 hF
    obtain ⟨b, h7, hn⟩ : ∃ b, X 7 = ptr b ∧ Nd (B0 ≤ ·) w5 b (leafF I) (textF nLeaf I) [] := hF (7, some 2) (by decide)
    simp only [putsA, putsT_some, putsT_nil, Act.put, List.setIfInBounds_toArray, List.set_cons_zero, List.set_cons_succ]
    rw [HB0.out] at hn
    have HN := Lib.hid hn
    have HB := Lib.hid (HB1.out.trans ((Below.refl w1.heap.size w1).drew.trans hB5 |>.mono HB1.out.size))
    clear hF hn hB5
    go_wp2
    go_ret
    exact ⟨b, congrArg Ending.returned h7, HN.out, HB.out⟩
end Go.Proofs.Ytbaepjhbpmhmgaa
