/- Rows of nodes: append of a pointer. -/
import Derived.Test.YtbaepjhbpmhmgaaG18
import Derived.Test.YtbaepjhbpmhmgaaG02
namespace Go.Proofs.Ytbaepjhbpmhmgaa
open Go.RowKit Go.Lib
set_option linter.unusedVariables false
set_option linter.unusedSimpArgs false
attribute [local go_sem ↓] Go.wp_at_zero Go.wp_at_succ

theorem infoN : (Try.prog.info? 77).map (fun i => (i.zero, i.size, i.bytes)) = some (some (.pointer none), 1, 8) := by kernel_rfl
/-- What append answers lies where it lay, or is new. -/
theorem append_blk {P : Program} {w : World} (base : Nat) (t ty e : TypeId) (i : TypeInfo) (z : Value) (size bytes : Nat) (ht : P.underlying t = some (.slice e)) (hi : P.info? e = some i) (hz : i.zero = some z)
    (hsize : i.size = size) (hby : i.bytes = bytes) (hzs : z.cells.size = size) (hsz : 0 < size)
    (v : Value) (n : Nat) (xs : List Value) (hown : w.ownsRow base e size v n xs)
    (a : Addr) (m c : Nat) (news : List Value) (hl : news.length = m * size) (hnews : ∀ j u, news[j]? = some u → w.cell? (a.add j) = some u) (h1 : ∀ u ∈ news, u.oneCell' = true)
    (h63 : n + m ≤ maxLen) (hbytes : (n + m) * bytes ≤ 140737488355328) (hm : m ≠ 0) (v' : Value) (w' : World) (hr : (Builtin.append_ #[t, t] ty #[v, .slice (some a) m c]).run P w = .ok v' w') :
    (∃ g n' c', v' = .slice (some ⟨g, 0, none⟩) n' c' ∧ (v.ownBlock = some g ∨ w.heap.size ≤ g)) := by
  subst hsize
  subst hby
  have hsmall : n + m ≤ 9223372036854775807 := by simp only [maxLen] at h63; omega
  rcases hown.2 with ⟨rfl, rfl⟩ | ⟨g, cap, cur, rfl, hbg, hg, hnc, hcm, hcs, htake⟩
  · have hr2 := run_append_nil (P := P) w t ty e i z ht hi hz a m c news hl hnews (by omega) (by omega) (by have hb := hbytes; simp only [Nat.zero_add] at hb; omega)
    have := hr.symm.trans hr2
    injection this with e1 e2
    exact ⟨_, _, _, e1, .inr (Nat.le_refl _)⟩
  · by_cases hroom : n + m ≤ cap
    · have hfit : n * i.size + news.length ≤ cur.size := by rw [hl, hcs, ← Nat.add_mul]; exact Nat.mul_le_mul_right _ hroom
      have hr2 := run_append_room (P := P) w t ty e i ht hi g n cap cur hg a m c news hl hnews h1 hroom hfit
      have := hr.symm.trans hr2
      injection this with e1 e2
      exact ⟨_, _, _, e1, .inl rfl⟩
    · have holds : ∀ j u, xs[j]? = some u → w.cell? ((⟨g, 0, none⟩ : Addr).add j) = some u := hown.cells (g := g) rfl
      have hr2 := run_append_grow (P := P) w t ty e i z ht hi hz ⟨g, 0, none⟩ n cap xs hown.1 holds a m c news hl hnews (by omega) (by omega) (growslice_fits (by omega) hbytes)
      have := hr.symm.trans hr2
      injection this with e1 e2
      exact ⟨_, _, _, e1, .inr (Nat.le_refl _)⟩

/-- None of these is the object of v. -/
def Off (v : Value) : Nat → Prop := fun k => v.ownBlock ≠ some k
/-- append(v, p) as one operation. -/
theorem wp_appN {o : Oper} {a : Act} {K : Act → World → Prop} {Q : Exit → Act → World → Prop} {w0 : World} (base : Nat) (s x : Operand)
    (ho : o.op = .call { callee := .builtin .append, args := #[s, x], argTypes := #[74, 74] }) (v : Value) (X Z : List Nat) (b : Nat) (hZ : X ++ [b] = Z) (hs : a.eval s = v)
    (g : Nat) (hx : a.eval x = .slice (some ⟨g, 0, none⟩) 1 1) (hg : w0.cell? ⟨g, 0, none⟩ = some (ptr b)) (HO : w0.ownsRow base 77 1 v X.length (X.map ptr)) (hbase : base ≤ w0.heap.size) (hl : X.length + 1 ≤ 1000000000000)
    (h : ∀ v1 w1, Hid (w1.ownsRow base 77 1 v1 Z.length (Z.map ptr)) → Hid (∀ B w9, Below B w9 w0 → B ≤ base → Below B w9 w1) → Hid (Kept (Off v) w0 w1) → Hid (∀ k, k < w0.heap.size → Off v k → Off v1 k) → K (a.put o.dst v1) w1) :
    o.wp Try.prog a w0 K Q := by
  subst hZ
  obtain ⟨i0, hi, hzz⟩ := Option.map_eq_some_iff.1 infoN
  simp only [Prod.mk.injEq] at hzz
  obtain ⟨hz0, hz1, hz2⟩ := hzz
  have hnews : ∀ j u, [ptr b][j]? = some u → w0.cell? ((⟨g, 0, none⟩ : Addr).add j) = some u := fun j u hu => by
    have hj := (List.getElem?_eq_some_iff.1 hu).1
    obtain rfl : j = 0 := by simpa using hj
    simp only [List.getElem?_cons_zero, Option.some.injEq] at hu
    subst hu
    rw [add_nospot]; exact hg
  have h1 : ∀ u ∈ [ptr b], u.oneCell' = true := by
    intro u hu
    rw [List.mem_singleton] at hu
    subst hu
    rfl
  obtain ⟨v', w', hr, h2, h3, h4⟩ := run_append_own (P := Try.prog) w0 base 74 o.type 77 i0 (.pointer none) 1 8 Try.underlying74 hi hz0 hz1 hz2 (by rfl) (by omega) v X.length (X.map ptr) HO
    ⟨g, 0, none⟩ 1 1 [ptr b] rfl hnews h1 (by unfold maxLen; omega) (by omega) hbase
  have hb := append_blk (P := Try.prog) (w := w0) base 74 o.type 77 i0 (.pointer none) 1 8 Try.underlying74 hi hz0 hz1 hz2 (by rfl) (by omega) v X.length (X.map ptr) HO
    ⟨g, 0, none⟩ 1 1 [ptr b] rfl hnews h1 (by unfold maxLen; omega) (by omega) (by omega) v' w' hr
  unfold Oper.wp execOp
  simp only [ho, resolve, invoke, builtin, Sem.run_bind, Sem.run_pure, Result.andThen_ok, List.map_toArray, List.map_cons, List.map_nil, hs, hx, hr]
  refine h v' w' (by show World.ownsRow _ _ _ _ _ _ _; rw [List.length_append, List.map_append]; exact h2) (fun B w9 hB hbb => hB.grown h3 (by omega) (fun k hk => Nat.le_trans hbb (HO.lt k hk).1)) ⟨h3.size, fun k hk hC => h3.block k hk (fun e => hC e.symm)⟩ ?_
  intro k hk hC e
  obtain ⟨g', n', c', rfl, h9⟩ := hb
  simp only [Value.ownBlock, Option.some.injEq] at e
  subst e
  rcases h9 with h9 | h9
  · exact hC h9
  · omega
theorem appN {ops : Array Oper} {rest : List Oper} {o : Oper} {a : Act} {Q : Exit → Act → World → Prop} {w0 : World} (base : Nat) (hgd : o.guard = none) (s x : Operand)
    (ho : o.op = .call { callee := .builtin .append, args := #[s, x], argTypes := #[74, 74] }) (v : Value) (X Z : List Nat) (b : Nat) (hZ : X ++ [b] = Z) (hs : a.eval s = v)
    (g : Nat) (hx : a.eval x = .slice (some ⟨g, 0, none⟩) 1 1) (hg : w0.cell? ⟨g, 0, none⟩ = some (ptr b)) (HO : w0.ownsRow base 77 1 v X.length (X.map ptr)) (hbase : base ≤ w0.heap.size) (hl : X.length + 1 ≤ 1000000000000)
    (h : ∀ v1 w1, Hid (w1.ownsRow base 77 1 v1 Z.length (Z.map ptr)) → Hid (∀ B w9, Below B w9 w0 → B ≤ base → Below B w9 w1) → Hid (Kept (Off v) w0 w1) → Hid (∀ k, k < w0.heap.size → Off v k → Off v1 k) → wpList Try.prog ops Q rest (a.put o.dst v1) w1) :
    wpList Try.prog ops Q (o :: rest) a w0 :=
  wpList_plain hgd fun _ hK => wp_appN base s x ho v X Z b hZ hs g hx hg HO hbase hl (fun v1 w1 q1 q2 q3 q4 => hK _ _ (h v1 w1 q1 q2 q3 q4))
theorem ptrs_of_own {w : World} {base : Nat} {v : Value} {bs : List Nat} (h : w.ownsRow base 77 1 v bs.length (bs.map ptr)) : PtrsAt w v bs := by
  rcases h.2 with ⟨rfl, h0⟩ | ⟨g, cap, cur, rfl, hb, hg, hn, hc, hcur⟩
  · exact .inl ⟨rfl, List.eq_nil_of_length_eq_zero h0⟩
  · refine .inr ⟨g, 0, cap, rfl, hn, hc, fun j hj => ?_⟩
    rw [Nat.zero_add, World.ownsRow.cellAt h j (by omega), List.getElem?_map]
    simp [List.getElem?_eq_getElem hj]
/-- A row of trees. -/
def RowAt (C : Nat → Prop) (w : World) (bs : List Nat) (ts : List Ta) : Prop := bs.length = ts.length ∧ ∀ j, j < ts.length → TaAt C w (ts.getD j .top0) (bs.getD j 0)
theorem RowAt.below {C : Nat → Prop} {w w' : World} {bs : List Nat} {ts : List Ta} (hb : Below w.heap.size w w') (h : RowAt C w bs ts) : RowAt C w' bs ts := ⟨h.1, fun j hj => (h.2 j hj).below hb⟩
theorem RowAt.kept {C : Nat → Prop} {w w' : World} {bs : List Nat} {ts : List Ta} (hb : Kept C w w') (h : RowAt C w bs ts) : RowAt C w' bs ts := ⟨h.1, fun j hj => (h.2 j hj).kept hb⟩
theorem RowAt.imp {C C' : Nat → Prop} {w : World} {bs : List Nat} {ts : List Ta} (hC : ∀ k, k < w.heap.size → C k → C' k) (h : RowAt C w bs ts) : RowAt C' w bs ts := ⟨h.1, fun j hj => (h.2 j hj).imp hC⟩
theorem RowAt.nil (C : Nat → Prop) (w : World) : RowAt C w [] [] := ⟨rfl, fun j hj => by simp at hj⟩
theorem RowAt.snoc {C : Nat → Prop} {w : World} {bs : List Nat} {ts : List Ta} {b : Nat} {t : Ta} (h : RowAt C w bs ts) (ht : TaAt C w t b) : RowAt C w (bs ++ [b]) (ts ++ [t]) := by
  refine ⟨by simp [h.1], fun j hj => ?_⟩
  rw [List.length_append, List.length_singleton] at hj
  rcases Nat.lt_or_ge j ts.length with hl | hl
  · have e1 : (ts ++ [t]).getD j .top0 = ts.getD j .top0 := by simp only [List.getD, List.getElem?_append_left hl]
    have e2 : (bs ++ [b]).getD j 0 = bs.getD j 0 := by simp only [List.getD, List.getElem?_append_left (show j < bs.length by rw [h.1]; exact hl)]
    rw [e1, e2]; exact h.2 j hl
  · obtain rfl : j = ts.length := by omega
    have e1 : (ts ++ [t]).getD ts.length .top0 = t := by simp [List.getD]
    have e2 : (bs ++ [b]).getD ts.length 0 = b := by rw [← h.1]; simp [List.getD]
    rw [e1, e2]; exact ht
end Go.Proofs.Ytbaepjhbpmhmgaa
/- merkle.tree. -/
namespace Go.Proofs.Ytbaepjhbpmhmgaa
open Go.RowKit Go.Lib
set_option linter.unusedVariables false
set_option linter.unusedSimpArgs false
attribute [local go_sem ↓] Go.wp_at_zero Go.wp_at_succ

theorem above_getT : ∀ (l : List Ta) (k : Nat), 2 * k < l.length → (above Ta.knot l)[k]? = some (if 2 * k + 1 < l.length then .knot (l.getD (2 * k) .top0) (l.getD (2 * k + 1) .top0) else l.getD (2 * k) .top0)
  | [], k, h => by simp at h
  | [a], k, h => by
    obtain rfl : k = 0 := by simp at h; omega
    rfl
  | a :: b :: r, 0, h => by
    rw [if_pos (by simp)]
    rfl
  | a :: b :: r, k + 1, h => by
    have ih := above_getT r k (by simp at h; omega)
    simp only [above, List.getElem?_cons_succ]
    rw [ih]
    have e1 : (a :: b :: r).getD (2 * (k + 1)) Ta.top0 = r.getD (2 * k) .top0 := by rw [show 2 * (k + 1) = 2 * k + 1 + 1 by omega]; rfl
    have e2 : (a :: b :: r).getD (2 * (k + 1) + 1) Ta.top0 = r.getD (2 * k + 1) .top0 := by rw [show 2 * (k + 1) + 1 = 2 * k + 1 + 1 + 1 by omega]; rfl
    rw [e1, e2]
    have : (2 * (k + 1) + 1 < (a :: b :: r).length) ↔ (2 * k + 1 < r.length) := by simp only [List.length_cons]; omega
    simp only [this]
theorem off_nil : Off (.slice none 0 0) = fun _ => True := by
  funext k
  simp [Off, Value.ownBlock]
theorem off_new {w : World} {base : Nat} {e : TypeId} {v : Value} {n : Nat} {xs : List Value} (h : w.ownsRow base e 1 v n xs) (k : Nat) (hk : w.heap.size ≤ k) : Off v k := fun e => by
  have := (h.lt k e).2
  omega
theorem PtrsAt.kept {w w' : World} {v : Value} {bs : List Nat} {C : Nat → Prop} (h : PtrsAt w v bs) (hb : Blk C w v) (hk : Kept C w w') : PtrsAt w' v bs := by
  rcases h with h | ⟨g, off, c, e, q1, q2, q3⟩
  · exact .inl h
  · refine .inr ⟨g, off, c, e, q1, q2, fun j hj => ?_⟩
    have := hb _ _ _ e
    rw [World.cell?_of_block (a := ⟨g, off + j, none⟩) (w := w) (w' := w') (hk.2 _ this.2 this.1)]; exact q3 j hj
theorem Blk.imp {C C' : Nat → Prop} {w w' : World} {v : Value} (h : Blk C w v) (hC : ∀ k, k < w.heap.size → C k → C' k) (hs : w.heap.size ≤ w'.heap.size) : Blk C' w' v := fun a n k e => ⟨hC _ (h a n k e).2 (h a n k e).1, Nat.lt_of_lt_of_le (h a n k e).2 hs⟩
theorem Kept.trans {C : Nat → Prop} {a b c : World} (h : Kept C a b) (h2 : Kept C b c) : Kept C a c := ⟨Nat.le_trans h.1 h2.1, fun k hk hC => (h2.2 k (Nat.lt_of_lt_of_le hk h.1) hC).trans (h.2 k hk hC)⟩
/-- What the inner loop holds. -/
structure InT (w wq : World) (v3 v6 : Value) (bs bs6 : List Nat) (R T : List Ta) : Prop where
  own : wq.ownsRow w.heap.size 77 1 v6 bs6.length (bs6.map ptr)
  row6 : RowAt (Off v6) wq bs6 T
  row : RowAt (Off v6) wq bs R
  ptrs : PtrsAt wq v3 bs
  blk : Blk (Off v6) wq v3
  below : Below w.heap.size w wq
theorem Kept.lt {v6 v7 : Value} {w3 w4 : World} (hk : Kept (Off v6) w3 w4) : Kept (fun k => k < w3.heap.size ∧ Off v6 k) w3 w4 := ⟨hk.1, fun k h hC => hk.2 k h hC.2⟩
theorem TaAt.push {v6 v7 : Value} {w3 w4 : World} (hk : Kept (Off v6) w3 w4) (hoff : ∀ k, k < w3.heap.size → Off v6 k → Off v7 k) {t : Ta} {b : Nat} (h : TaAt (Off v6) w3 t b) : TaAt (Off v7) w4 t b :=
  TaAt.imp (C := fun k => k < w3.heap.size ∧ Off v6 k) (fun k _ hC => hoff k hC.1 hC.2) (TaAt.kept (Kept.lt (v7 := v7) hk) (TaAt.imp (fun k hk hC => ⟨hk, hC⟩) h))
theorem RowAt.push {v6 v7 : Value} {w3 w4 : World} (hk : Kept (Off v6) w3 w4) (hoff : ∀ k, k < w3.heap.size → Off v6 k → Off v7 k) {ts : List Ta} {bs : List Nat} (h : RowAt (Off v6) w3 bs ts) : RowAt (Off v7) w4 bs ts :=
  ⟨h.1, fun j hj => TaAt.push hk hoff (h.2 j hj)⟩
/-- One more. -/
theorem InT.next {w wr w3 w4 : World} {v3 v6 v7 : Value} {bs bs6 Z : List Nat} {R T : List Ta} {b : Nat} {t : Ta} (h : InT w wr v3 v6 bs bs6 R T) (h3 : Below wr.heap.size wr w3) (ht : TaAt (Off v6) w3 t b)
    (hZ : bs6 ++ [b] = Z) (hown : w4.ownsRow w.heap.size 77 1 v7 Z.length (Z.map ptr)) (hb : ∀ B w9, Below B w9 w3 → B ≤ w.heap.size → Below B w9 w4) (hk : Kept (Off v6) w3 w4) (hoff : ∀ k, k < w3.heap.size → Off v6 k → Off v7 k) :
    InT w w4 v3 v7 bs Z R (T ++ [t]) := by
  subst hZ
  have hb3 : Below w.heap.size w w3 := h.below.trans (h3.mono h.below.size)
  refine ⟨hown, ?_, RowAt.push hk hoff (h.row.below h3), ?_, ?_, hb _ _ hb3 (Nat.le_refl _)⟩
  · exact RowAt.snoc (RowAt.push hk hoff (h.row6.below h3)) (TaAt.push hk hoff ht)
  · exact (h.ptrs.below h3).kept (h.blk.below h3) hk
  · exact (h.blk.below h3).imp hoff hk.1

theorem InT.start {w wr : World} {v3 : Value} {bs : List Nat} {T : List Ta} (hp : PtrsAt wr v3 bs) (hr : RowAt (fun _ => True) wr bs T) (hne : T ≠ []) (hb : Below w.heap.size w wr) : InT w wr v3 (.slice none 0 0) bs [] T ((above Ta.knot T).take 0) := by
  refine ⟨own_nil _ _ _ _, RowAt.nil _ _, by rw [off_nil]; exact hr, hp, ?_, hb⟩
  rw [off_nil]
  intro a n k e
  rcases hp with ⟨h, _⟩ | ⟨g, off, c, e2, q1, q2, q3⟩
  · rw [h] at e; cases e
  · rw [e2] at e
    cases e
    exact ⟨trivial, World.block_lt_of_cell? _ _ (q3 0 (by rw [hr.1]; exact List.length_pos_iff.2 hne))⟩

set_option maxRecDepth 100000 in
set_option maxHeartbeats 6400000 in
theorem tree_t2 {u1 u2 u4 u5 u6 u7 u8 u9 u10 u11 u12 u13 u14 u15 u16 u17 u18 u19 u20 u21 u22 u23 u24 u25 u26 u27 u28 u29 u30 u31 u32 u33 u34 u35 u36 u37 u38 u39 u40 u41 u42 u43 u44 u45 u46 u47 u48 u49 u50 u51 u52 u53 u54 u55 u56 u57 u58 u59 u60 u61 u62 u63 u64 : Value} (a0 : Option Addr) (n c0 : Nat) (v3 : Value) (bs : List Nat) (R : List Ta) (w wr : World) (hn : n ≤ 1000000) (hR : R ≠ []) (hRl : R.length ≤ 1000000) (hp : PtrsAt wr v3 bs) (hr : RowAt (fun _ => True) wr bs R) (hb : Below w.heap.size w wr) :
    Code.wp Try.prog (seqDrop 4 (bodyOf Try.f39)) (bodyPost Try.prog Try.f39 fun e w' => ∃ b, e = .returned (ptr b) ∧ TaAt (fun _ => True) w' (.top n (leftR .top0 Ta.knot R)) b ∧ Below w.heap.size w w')
      ⟨#[.slice a0 n c0, u1, u2, v3, u4, u5, u6, u7, u8, u9, u10, u11, u12, u13, u14, u15, u16, u17, u18, u19, u20, u21, u22, u23, u24, u25, u26, u27, u28, u29, u30, u31, u32, u33, u34, u35, u36, u37, u38, u39, u40, u41, u42, u43, u44, u45, u46, u47, u48, u49, u50, u51, u52, u53, u54, u55, u56, u57, u58, u59, u60, u61, u62, u63, u64], []⟩ wr := by
  have HN := Lib.hid hn
  have HP0 := Lib.hid hp
  have HR0 := Lib.hid hr
  have HB0 := Lib.hid hb
  have HRne := Lib.hid hR
  have HRl := Lib.hid hRl
  clear hp hr hb hn hR hRl
  conv => arg 2; whnf
  go_wp2
  go_loopg [3] R.length (fun g vv wq => ∃ (bs : List Nat) (T : List Ta), T.length = g ∧ Hid (PtrsAt wq vv bs) ∧ Hid (RowAt (fun _ => True) wq bs T) ∧ Hid (T ≠ [] ∧ T.length ≤ 1000000) ∧ Hid (leftR .top0 Ta.knot T = leftR .top0 Ta.knot R) ∧ Hid (Below w.heap.size w wq))
  case atStart => exact ⟨bs, R, rfl, HP0.out, HR0.out, ⟨HRne.out, HRl.out⟩, rfl, HB0.out⟩
  case round =>
    obtain ⟨bs, T, rfl, hp, hr, ht, hle, hb⟩ := hrel
    have HP := Lib.hid hp.out
    have HR := Lib.hid hr.out
    have HT := Lib.hid ht.out
    have HLe := Lib.hid hle.out
    have HB := Lib.hid hb.out
    clear hp hr ht hle hb HP0 HR0 HB0
    obtain ⟨a3, c3, hv3⟩ := HP.out.form
    rw [HR.out.1] at hv3
    subst hv3
    by_cases hc : 1 < T.length
    · have hlt : (1 : Int) < (T.length : Int) := by omega
      have HC := Lib.hid hc
      clear hc
      have hin0 := InT.start HP.out HR.out HT.out.1 HB.out
      have HI0 := Lib.hid hin0
      have hal := above_len Ta.knot T
      have HAl := Lib.hid hal
      clear hal hin0
      go_wp2
      go_loopg [6, 7] ((T.length + 1) / 2) (fun g v6 vi wq => ∃ (k : Nat) (bs6 : List Nat), Hid (g + k = (T.length + 1) / 2) ∧ vi = .int .i64 ((2 * k : Nat) : Int) ∧ Hid (InT w wq (.slice a3 T.length c3) v6 bs bs6 T ((above Ta.knot T).take k)))
      case atStart => exact ⟨0, [], rfl, rfl, HI0.out⟩
      case round =>
        obtain ⟨k, bs6, hk, rfl, hi⟩ := hrel
        have HK := Lib.hid hk.out
        have HI := Lib.hid hi.out
        clear hk hi HI0 HP HR HB
        obtain ⟨z, hz⟩ : ∃ z : Int, ((2 * k : Nat) : Int) = z := ⟨_, rfl⟩
        have hll := HT.out.2
        rw [hz]
        cases gk with
        | zero =>
          have hlt : ¬ (z < (T.length : Int)) := by have := HK.out; omega
          have HI2 := Lib.hid (show InT w _ _ _ bs bs6 T (above Ta.knot T) by
            have h := HI.out
            rw [List.take_of_length_le (by rw [HAl.out]; have := HK.out; omega)] at h
            exact h)
          clear hz HI
          go_wp2
          go_roundg ((T.length + 1) / 2)
          case measure => have := HC.out; omega
          case rel =>
            refine ⟨bs6, above Ta.knot T, HAl.out, ptrs_of_own HI2.out.own, HI2.out.row6.imp (fun _ _ _ => trivial), ⟨fun e => ?_, ?_⟩, ?_, HI2.out.below⟩
            · have h1 := HAl.out; rw [e, List.length_nil] at h1; have := HC.out; omega
            · rw [HAl.out]; omega
            · show _ = _
              rw [← HLe.out, leftR_above .top0 Ta.knot _ T rfl HC.out]
        | succ g =>
          have hkl : 2 * k < T.length := by have := HK.out; omega
          have hlt : (z < (T.length : Int)) := by omega
          have hget := above_getT T k hkl
          have iz : 0 ≤ z := by omega
          obtain ⟨z1, hz1⟩ : ∃ z1 : Int, z + 1 = z1 := ⟨_, rfl⟩
          have vz : IntKind.i64.wrap (z + 1) = z1 := by rw [IntKind.wrap_i64]; omega
          have vz2 : IntKind.i64.wrap (z + 2) = z + 2 := by rw [IntKind.wrap_i64]; omega
          have iz1 : 0 ≤ z1 := by omega
          have hp := HI.out.ptrs
          rcases hp with ⟨e0, h0⟩ | ⟨g3, off, c, e1, q1, q2, q3⟩
          · have := HI.out.row.1; rw [h0] at this; simp at this; omega
          injection e1 with e1 e2 e3
          subst e1 e3
          clear e2
          have hbl := HI.out.row.1
          have hc1 := q3 (2 * k) (by omega)
          obtain ⟨b1, hb1⟩ : ∃ b1, bs.getD (2 * k) 0 = b1 := ⟨_, rfl⟩
          obtain ⟨t1, ht1⟩ : ∃ t1, T.getD (2 * k) .top0 = t1 := ⟨_, rfl⟩
          have hta1 := HI.out.row.2 (2 * k) hkl
          rw [hb1, show 2 * k = z.toNat by omega] at hc1
          rw [hb1, ht1] at hta1
          rw [ht1] at hget
          have HTa1 := Lib.hid hta1
          obtain ⟨T1, hT1⟩ : ∃ T1, T1 = (above Ta.knot T).take k := ⟨_, rfl⟩
          obtain ⟨T2, hT2⟩ : ∃ T2, T2 = (above Ta.knot T).take (k + 1) := ⟨_, rfl⟩
          have hT12 : T2 = T1 ++ (above Ta.knot T)[k]?.toList := by rw [hT2, hT1, List.take_add_one]
          have hi := HI.out
          rw [← hT1] at hi
          have HI1 := Lib.hid hi
          have HT2 := Lib.hid hT2
          have HZ := Lib.hid hz
          have HX6 := Lib.hid (show bs6.length + 1 ≤ 1000000000000 by have := hi.row6.1; rw [this, hT1, List.length_take, HAl.out]; omega)
          have Hs6 := Lib.hid (show w.heap.size ≤ wr.heap.size from hi.below.size)
          by_cases hc2 : 2 * k + 1 < T.length
          · have hlt1 : z1 < (T.length : Int) := by omega
            obtain ⟨b2, hb2⟩ : ∃ b2, bs.getD (2 * k + 1) 0 = b2 := ⟨_, rfl⟩
            obtain ⟨t2, ht2⟩ : ∃ t2, T.getD (2 * k + 1) .top0 = t2 := ⟨_, rfl⟩
            have hc22 := q3 (2 * k + 1) (by omega)
            have hta2 := HI.out.row.2 (2 * k + 1) hc2
            rw [hb2, show 2 * k + 1 = z1.toNat by omega] at hc22
            rw [hb2, ht2] at hta2
            rw [if_pos hc2, ht2] at hget
            rw [hget] at hT12
            have HTa2 := Lib.hid hta2
            have HT12 := Lib.hid (show T2 = T1 ++ [Ta.knot t1 t2] from hT12)
            unfold ptr at hc1 hc22
            have HS0 := Lib.hid (show wr.drew.cell? ⟨g3, off + z.toNat, none⟩ = some (.pointer (some ⟨b1, 0, none⟩)) ∧ wr.drew.cell? ⟨g3, off + z1.toNat, none⟩ = some (.pointer (some ⟨b2, 0, none⟩)) from ⟨hc1, hc22⟩)
            clear hc1 hc22 hta1 hta2 hb1 hb2 ht1 ht2 hget hT1 hT2 hT12 hi hz hz1 hc2 q1 q2 q3 hkl hbl HI
            go_upto_region 15 with fail
            refine wp_region_U (fun w' => w'.cell? ⟨g3, off + z.toNat, none⟩ = some (.pointer (some ⟨b1, 0, none⟩)) ∧ w'.cell? ⟨g3, off + z1.toNat, none⟩ = some (.pointer (some ⟨b2, 0, none⟩))) 13 (by kernel_rfl) ?_
            simp only [List.size_toArray, List.length_cons, List.length_nil, Nat.reduceAdd, Array.replicate_succ, Array.replicate_zero, List.push_toArray, List.nil_append, List.cons_append]
            refine wpAnyU_take0 (i := 0) (oi := ⟨some 38, _, _, _, _, _⟩) (v := ?_) rfl (by kernel_rfl) (by kernel_rfl) (by kernel_rfl) (by decide) (fun _ _ _ h => h) (Or.inl ⟨by rfl, ?_⟩) (fun _ => HS0.out) ?_
            rotate_left
            · intro w hSw; go_simp <;> with_reducible rfl
            dsimp only [Act.put]
            simp only [List.setIfInBounds_toArray, List.set_cons_zero, List.set_cons_succ]
            refine wpAnyU_take0 (i := 1) (oi := ⟨some 39, _, _, _, _, _⟩) (v := ?_) rfl (by kernel_rfl) (by kernel_rfl) (by kernel_rfl) (by decide) (fun _ _ _ h => h) (Or.inl ⟨by rfl, ?_⟩) (fun _ => HS0.out) ?_
            rotate_left
            · intro w hSw; go_simp <;> with_reducible rfl
            dsimp only [Act.put]
            simp only [List.setIfInBounds_toArray, List.set_cons_zero, List.set_cons_succ]
            refine wpAnyU_take0 (i := 2) (oi := ⟨some 40, _, _, _, _, _⟩) (v := ?_) rfl (by kernel_rfl) (by kernel_rfl) (by kernel_rfl) (by decide) (fun _ _ _ h => h) (Or.inl ⟨by rfl, ?_⟩) (fun _ => HS0.out) ?_
            rotate_left
            · intro w hSw; go_simp <;> with_reducible rfl
            dsimp only [Act.put]
            simp only [List.setIfInBounds_toArray, List.set_cons_zero, List.set_cons_succ]
            refine wpAnyU_take0 (i := 3) (oi := ⟨some 41, _, _, _, _, _⟩) (v := ?_) rfl (by kernel_rfl) (by kernel_rfl) (by kernel_rfl) (by decide) (fun _ _ _ h => h) (Or.inl ⟨by rfl, ?_⟩) (fun _ => HS0.out) ?_
            rotate_left
            · intro w hSw; go_simp <;> with_reducible rfl
            dsimp only [Act.put]
            simp only [List.setIfInBounds_toArray, List.set_cons_zero, List.set_cons_succ]
            refine wpAnyU_take (i := 4) (oi := ⟨some 42, _, _, _, _, _⟩) (v := .pointer (some ⟨b1, 0, none⟩)) rfl (by kernel_rfl) (by kernel_rfl) (by kernel_rfl) (by kernel_rfl) (by kernel_rfl) (fun _ _ _ h => h) (Or.inl ⟨by rfl, ?_⟩) HS0.out ?_
            · intro w hSw
              obtain ⟨hc1, hc2⟩ := hSw
              go_simp <;> with_reducible rfl
            dsimp only [Act.put]
            simp only [List.setIfInBounds_toArray, List.set_cons_zero, List.set_cons_succ]
            refine wpAnyU_take0 (i := 5) (oi := ⟨some 43, _, _, _, _, _⟩) (v := ?_) rfl (by kernel_rfl) (by kernel_rfl) (by kernel_rfl) (by decide) (fun _ _ _ h => h) (Or.inl ⟨by rfl, ?_⟩) (fun _ => HS0.out) ?_
            rotate_left
            · intro w hSw; go_simp <;> with_reducible rfl
            dsimp only [Act.put]
            simp only [List.setIfInBounds_toArray, List.set_cons_zero, List.set_cons_succ]
            refine wpAnyU_take0 (i := 6) (oi := ⟨some 44, _, _, _, _, _⟩) (v := ?_) rfl (by kernel_rfl) (by kernel_rfl) (by kernel_rfl) (by decide) (fun _ _ _ h => h) (Or.inl ⟨by rfl, ?_⟩) (fun _ => HS0.out) ?_
            rotate_left
            · intro w hSw; go_simp <;> with_reducible rfl
            dsimp only [Act.put]
            simp only [List.setIfInBounds_toArray, List.set_cons_zero, List.set_cons_succ]
            refine wpAnyU_take0 (i := 7) (oi := ⟨some 45, _, _, _, _, _⟩) (v := ?_) rfl (by kernel_rfl) (by kernel_rfl) (by kernel_rfl) (by decide) (fun _ _ _ h => h) (Or.inl ⟨by rfl, ?_⟩) (fun _ => HS0.out) ?_
            rotate_left
            · intro w hSw; go_simp <;> with_reducible rfl
            dsimp only [Act.put]
            simp only [List.setIfInBounds_toArray, List.set_cons_zero, List.set_cons_succ]
            refine wpAnyU_take0 (i := 8) (oi := ⟨some 46, _, _, _, _, _⟩) (v := ?_) rfl (by kernel_rfl) (by kernel_rfl) (by kernel_rfl) (by decide) (fun _ _ _ h => h) (Or.inl ⟨by rfl, ?_⟩) (fun _ => HS0.out) ?_
            rotate_left
            · intro w hSw; go_simp <;> with_reducible rfl
            dsimp only [Act.put]
            simp only [List.setIfInBounds_toArray, List.set_cons_zero, List.set_cons_succ]
            refine wpAnyU_take (i := 9) (oi := ⟨some 47, _, _, _, _, _⟩) (v := .pointer (some ⟨b2, 0, none⟩)) rfl (by kernel_rfl) (by kernel_rfl) (by kernel_rfl) (by kernel_rfl) (by kernel_rfl) (fun _ _ _ h => h) (Or.inl ⟨by rfl, ?_⟩) HS0.out ?_
            · intro w hSw
              obtain ⟨hc1, hc2⟩ := hSw
              go_simp <;> with_reducible rfl
            dsimp only [Act.put]
            simp only [List.setIfInBounds_toArray, List.set_cons_zero, List.set_cons_succ]
            refine wpAnyU_one (i := 10) (oi := ⟨some 48, _, _, _, _, _⟩) (by kernel_rfl) rfl rfl (fun K9 hK9 => ?_)
            have HK9 := Lib.hid hK9
            clear hK9
            go_simp
            have hh1 : HdAt wr.drew b1 t1.h := by obtain ⟨_, h⟩ := TaAt.nd HTa1.out; exact h.hd
            have hh2 : HdAt wr.drew b2 t2.h := by obtain ⟨_, h⟩ := TaAt.nd HTa2.out; exact h.hd
            refine (knotNode_any t1.h t2.h b1 b2 _ hh1 hh2).mono ?_
            rintro e w3 ⟨b, rfl, hnd, hb3⟩
            clear hh1 hh2
            unfold ptr
            dsimp only
            have hbr : Below wr.heap.size wr w3 := (Below.refl _ _).drew.trans hb3
            have HBr := Lib.hid hbr
            have hta : TaAt (Off u6) w3 (.knot t1 t2) b := ⟨b1, b2, hnd.imp (fun k _ hk => off_new HI1.out.own k hk), HTa1.out.below hbr, HTa2.out.below hbr⟩
            have HTa := Lib.hid hta
            have HS3 := Lib.hid (And.intro (cellb hbr HS0.out.1) (cellb hbr HS0.out.2))
            clear hbr hta hnd hb3 HTa1 HTa2 HS0
            refine HK9.out _ _ (fun _ _ => HS3.out) ?_
            clear HK9
            simp only [List.setIfInBounds_toArray, List.set_cons_zero, List.set_cons_succ]
            refine wpAnyU_one (i := 11) (oi := ⟨some 49, _, _, _, _, _⟩) (by kernel_rfl) rfl rfl (fun K9 hK9 => ?_)
            have HK9 := Lib.hid hK9
            clear hK9
            go_simp
            have hal := Arr.made w3 77 [.pointer (some ⟨b, 0, none⟩)]
            have hba : Below w3.heap.size w3 (w3.alloc (.cells [Value.pointer (some ⟨b, 0, none⟩)].toArray 77)) := (Below.refl _ _).alloc (Nat.le_refl _) _
            have HAl3 := Lib.hid (hal.cell 0)
            have HBa := Lib.hid (HBr.out.trans (hba.mono HBr.out.size))
            have HTa4 := Lib.hid (HTa.out.below hba)
            have HS4 := Lib.hid (And.intro (cellb hba HS3.out.1) (cellb hba HS3.out.2))
            clear hal hba HTa HS3 HBr
            refine HK9.out _ _ (fun _ _ => HS4.out) ?_
            clear HK9
            generalize w3.heap.size = g9 at *
            generalize World.alloc _ _ = w5 at *
            simp only [List.setIfInBounds_toArray, List.set_cons_zero, List.set_cons_succ]
            obtain ⟨Z, hZ⟩ : ∃ Z, bs6 ++ [b] = Z := ⟨_, rfl⟩
            have HZZ := Lib.hid hZ
            clear hZ
            have HO5 := Lib.hid (own_below HI1.out.own HBa.out)
            refine wpAnyU_one (i := 12) (oi := ⟨some 50, _, _, _, _, _⟩) (by kernel_rfl) rfl rfl (fun K9 hK9 => ?_)
            have HK9 := Lib.hid hK9
            clear hK9
            refine wp_appN w.heap.size (.tmp 38) (.tmp 49) rfl u6 bs6 Z b HZZ.out rfl g9 rfl HAl3.out HO5.out (Nat.le_trans Hs6.out HBa.out.size) HX6.out ?_
            intro v7 w4 ho4 hb4 hk4 hf4
            have HI4 := Lib.hid (HI1.out.next HBa.out HTa4.out HZZ.out ho4.out hb4.out hk4.out hf4.out)
            have hb3 := (HI1.out.blk _ _ _ rfl)
            have hkk := hk4.out.2 g3 (Nat.lt_of_lt_of_le hb3.2 HBa.out.size) hb3.1
            have HS5 := Lib.hid (And.intro ((World.cell?_of_block (a := ⟨g3, off + z.toNat, none⟩) hkk).trans HS4.out.1) ((World.cell?_of_block (a := ⟨g3, off + z1.toNat, none⟩) hkk).trans HS4.out.2))
            clear ho4 hb4 hk4 hf4 hb3 hkk HO5 HI1 HBa HTa4 HS4
            refine HK9.out _ _ (fun _ _ => HS5.out) ?_
            clear HK9
            dsimp only [Act.put]
            simp only [List.setIfInBounds_toArray, List.set_cons_zero, List.set_cons_succ]
            refine wpAnyU_one (i := 13) (oi := ⟨some 6, _, _, _, _, _⟩) (by kernel_rfl) rfl rfl (fun K9 hK9 => ?_)
            have HK9 := Lib.hid hK9
            clear hK9
            go_simp
            refine HK9.out _ _ (fun h => absurd rfl h) ?_
            clear HK9
            refine wpAnyU_done (by kernel_rfl) ?_ _
            go_wp2
            go_roundg g
            case measure => omega
            case rel =>
              have hi4 := HI4.out
              rw [← HT12.out, HT2.out] at hi4
              exact ⟨k + 1, Z, by show _ = _; have := HK.out; omega, congrArg (Value.int .i64) (by have := HZ.out; omega), hi4⟩
          · have hlt1 : ¬ (z1 < (T.length : Int)) := by omega
            rw [if_neg hc2] at hget
            rw [hget] at hT12
            have HT12 := Lib.hid (show T2 = T1 ++ [t1] from hT12)
            unfold ptr at hc1
            have hcc : wr.cell? ⟨g3, off + z.toNat, none⟩ = some (.pointer (some ⟨b1, 0, none⟩)) := hc1
            obtain ⟨Z, hZ⟩ : ∃ Z, bs6 ++ [b1] = Z := ⟨_, rfl⟩
            have HZZ := Lib.hid hZ
            have hal := Arr.made wr 77 [.pointer (some ⟨b1, 0, none⟩)]
            have hba : Below wr.heap.size wr (wr.alloc (.cells [Value.pointer (some ⟨b1, 0, none⟩)].toArray 77)) := (Below.refl _ _).alloc (Nat.le_refl _) _
            have HAl3 := Lib.hid (hal.cell 0)
            have HBa := Lib.hid hba
            have HTa4 := Lib.hid (HTa1.out.below hba)
            have HO5 := Lib.hid (own_below HI1.out.own hba)
            have HSz := Lib.hid (Nat.le_trans Hs6.out hba.size)
            clear hc1 hta1 hb1 ht1 hget hT1 hT2 hT12 hi hz hz1 hc2 q1 q2 q3 hkl hbl HI hZ hal hba
            go_wp2_with (at_builtin; refine appN w.heap.size rfl (.tmp 51) (.tmp 56) rfl u6 bs6 Z b1 HZZ.out rfl wr.heap.size rfl HAl3.out HO5.out HSz.out HX6.out ?_)
            intro v7 w4 ho4 hb4 hk4 hf4
            have HI4 := Lib.hid (HI1.out.next HBa.out HTa4.out HZZ.out ho4.out hb4.out hk4.out (fun k hk => hf4.out k (by simpa using hk)))
            clear ho4 hb4 hk4 hf4 HO5 HI1 HBa HTa4 hcc
            go_wp2
            go_roundg g
            case measure => omega
            case rel =>
              have hi4 := HI4.out
              rw [← HT12.out, HT2.out] at hi4
              exact ⟨k + 1, Z, by show _ = _; have := HK.out; omega, congrArg (Value.int .i64) (by have := HZ.out; omega), hi4⟩
    · have hT1 : ∃ t0, T = [t0] := by
        have h1 : T.length = 1 := by have := List.length_pos_iff.2 HT.out.1; omega
        exact List.length_eq_one_iff.1 h1
      obtain ⟨t0, rfl⟩ := hT1
      have hp := HP.out
      rcases hp with ⟨e0, h0⟩ | ⟨g3, off, c, e1, q1, q2, q3⟩
      · have := HR.out.1; rw [h0] at this; simp at this
      injection e1 with e1 e2 e3
      subst e1 e3
      clear e2 hc
      have hcell := q3 0 (by rw [HR.out.1]; simp)
      have hta := HR.out.2 0 (by simp)
      obtain ⟨b0, hb0⟩ : ∃ b0, bs.getD 0 0 = b0 := ⟨_, rfl⟩
      rw [hb0] at hcell hta
      have HTa := Lib.hid (show TaAt (fun _ => True) wr t0 b0 from hta)
      unfold ptr at hcell
      rw [Nat.add_zero] at hcell
      have hhd : HdAt wr b0 t0.h := by obtain ⟨_, h⟩ := TaAt.nd HTa.out; exact h.hd
      have HHd := Lib.hid hhd
      rw [show [t0].length = 1 from rfl]
      clear q1 q2 q3 hta hb0 hhd
      have hlt : ¬ ((1 : Int) < 1) := by omega
      go_wp2_with fail
      have HNn := Lib.hid (show n ≤ 1152921504606846976 by have := HN.out; omega)
      refine (topNode_any n t0.h b0 wr HNn.out HHd.out).mono ?_
      rintro e w3 ⟨b, rfl, hnd, hb3⟩
      dsimp only
      have HTf := Lib.hid (show TaAt (fun _ => True) w3 (.top n (leftR .top0 Ta.knot R)) b by
        rw [← HLe.out, leftR_one _ _ _ (by simp)]
        exact ⟨b0, hnd.imp (fun _ _ _ => trivial), HTa.out.below hb3⟩)
      have HBf := Lib.hid (HB.out.trans (hb3.mono HB.out.size))
      clear hnd hb3 hcell
      go_wp2
      go_ret
      exact ⟨b, rfl, HTf.out, HBf.out⟩
end Go.Proofs.Ytbaepjhbpmhmgaa
/- merkle.tree, whole. -/
namespace Go.Proofs.Ytbaepjhbpmhmgaa
open Go.RowKit Go.Lib
set_option linter.unusedVariables false
set_option linter.unusedSimpArgs false
attribute [local go_sem ↓] Go.wp_at_zero Go.wp_at_succ

/-- The whole tree of hashes. -/
def treeT (Is : List (List Nat)) : Ta := if Is.length = 0 then .top0 else .top Is.length (leftR .top0 Ta.knot (Is.map .leaf))
theorem leaf_next {w3 w4 : World} {v3 v7 : Value} {bs Z : List Nat} {T : List Ta} {b : Nat} {t : Ta} (hr : RowAt (Off v3) w3 bs T) (ht : TaAt (Off v3) w3 t b) (hZ : bs ++ [b] = Z)
    (hk : Kept (Off v3) w3 w4) (hoff : ∀ k, k < w3.heap.size → Off v3 k → Off v7 k) : RowAt (Off v7) w4 Z (T ++ [t]) := by
  subst hZ
  exact RowAt.snoc (RowAt.push hk hoff hr) (TaAt.push hk hoff ht)

set_option maxRecDepth 100000 in
set_option maxHeartbeats 3200000 in
theorem tree_any (v : Value) (Is : List (List Nat)) (w : World) (hl : Is.length ≤ 1000000) (hv : HsIs w v Is) :
    Calls Try.prog 39 #[v] w fun e w' => ∃ b, e = .returned (ptr b) ∧ TaAt (fun _ => True) w' (treeT Is) b ∧ Below w.heap.size w w' := by
  have hz := zero32
  obtain ⟨a0, c0, rfl⟩ := hv.form
  have HV := Lib.hid hv
  have HLl := Lib.hid hl
  clear hv hl
  by_cases h0 : Is.length = 0
  · have hlt : ((Is.length : Nat) : Int) = 0 := by omega
    have HT := Lib.hid (show treeT Is = .top0 from if_pos h0)
    clear h0 hz
    go_enter Try.func39, Try.ntmps39
    go_wp2_with fail
    refine (topNode_nil w).mono ?_
    rintro e w3 ⟨b, rfl, hnd, hb3⟩
    dsimp only
    have HTf := Lib.hid (show TaAt (fun _ => True) w3 (treeT Is) b by rw [HT.out]; exact hnd.imp (fun _ _ _ => trivial))
    have HBf := Lib.hid hb3
    clear hnd hb3
    go_wp2
    go_ret
    exact ⟨b, rfl, HTf.out, HBf.out⟩
  · have hlt : ¬ ((Is.length : Nat) : Int) = 0 := by omega
    have HT := Lib.hid (show treeT Is = .top Is.length (leftR .top0 Ta.knot (Is.map .leaf)) from if_neg h0)
    have HN0 := Lib.hid h0
    clear h0
    rw [HT.out]
    go_enter Try.func39, Try.ntmps39
    have HO0 := Lib.hid (show w.ownsRow w.heap.size 77 1 (.slice none 0 0) ([] : List Nat).length (([] : List Nat).map ptr) from own_nil _ _ _ _)
    have hq : (((Is.length : Nat) : Int) == 0) = false := beq_false_of_ne hlt
    go_wp2
    clear hlt hq
    go_loopg [3, 5, 14] Is.length (fun g vv v5 vn wq => ∃ (k : Nat) (bs : List Nat), Hid (g + k = Is.length) ∧ vn = .int .i64 (k : Int) ∧ Hid (wq.ownsRow w.heap.size 77 1 vv bs.length (bs.map ptr)) ∧ Hid (RowAt (Off vv) wq bs ((Is.map Ta.leaf).take k)) ∧ Hid (Below w.heap.size w wq))
    case atStart => exact ⟨0, [], rfl, rfl, HO0.out, RowAt.nil _ _, Below.refl _ _⟩
    case round =>
      obtain ⟨k, bs, hk, rfl, ho, hr, hb⟩ := hrel
      have HK := Lib.hid hk.out
      have HO := Lib.hid ho.out
      have HR := Lib.hid hr.out
      have HB := Lib.hid hb.out
      clear hk ho hb hr HO0
      have hll := HLl.out
      cases gk with
      | zero =>
        have hlt : ¬ ((k : Int) < (Is.length : Int)) := by have := HK.out; omega
        have hR := HR.out
        rw [List.take_of_length_le (by rw [List.length_map]; have := HK.out; omega)] at hR
        have HR2 := Lib.hid (hR.imp (C' := fun _ => True) (fun _ _ _ => trivial))
        have HP2 := Lib.hid (ptrs_of_own HO.out)
        clear hR
        go_upto_if 15 with fail
        repeat (first | (exact tree_t2 a0 Is.length c0 _ bs (Is.map .leaf) w _ hll (fun e => HN0.out (by rw [← List.length_map (f := Ta.leaf), e]; rfl)) (by rw [List.length_map]; exact hll) HP2.out HR2.out HB.out) | go_step)
      | succ g =>
        have hkl : k < Is.length := by have := HK.out; omega
        have hlt : ((k : Int) < (Is.length : Int)) := by omega
        rcases HV.out.2 with ⟨_, h0⟩ | ⟨b, off, c, e1, q1, q2, q3⟩
        · rw [h0] at hkl; simp at hkl
        cases e1
        have hH := IsH.getD HV.out.1 hkl
        have hr := ((HV.out.below HB.out).2)
        obtain ⟨H, hHe⟩ : ∃ H, Is.getD k [] = H := ⟨_, rfl⟩
        have hrg : wr.rangeAt b (off + k * 32) (bys H) := by
          rw [← hHe]
          rcases hr with ⟨h, _⟩ | ⟨b', off', c', e2, _, _, q⟩
          · cases h
          · cases e2; exact q k hkl
        rw [hHe] at hH
        have HH := Lib.hid hH
        have HHe := Lib.hid hHe
        have HRg := Lib.hid hrg
        have HSh := Lib.hid (size_hash H hH.1)
        have HSh2 := Lib.hid (show (Try.prog.info? 24).map (·.size) = some (bys H).toArray.size by rw [List.size_toArray]; exact size_hash H hH.1)
        have O1 := Lib.hid (all_oneCell_toArray (bys_one H))
        have HKl := Lib.hid hkl
        clear hr hrg hHe hH q1 q2 q3 hkl
        go_upto_region 6 with fail
        go_step
        iterate 3 (first | go_values | go_skip | go_guarded | go_step | go_upon)
        refine wpList_load_mid (P := Try.prog) rfl 24 _ rfl b (off + k * 32) rfl _ _ HRg.out Try.underlying24 rfl HSh.out ?_
        iterate 3 (first | go_values | go_skip | go_guarded | go_step | go_upon)
        have hm := Arr.made wr 24 (List.replicate 32 (.int .u8 0))
        have hpk := And.intro (hm.there (bys H).toArray.size (by simp [bys_len, HH.out.1])) (And.intro (hm.setAll (bys H) (by simp [bys_len, HH.out.1])) (below_sets wr.heap.size (Nat.le_refl _) (bys H) 0 ((Below.refl wr.heap.size wr).alloc (Nat.le_refl _) (.cells (List.replicate 32 (.int .u8 0)).toArray 24))))
        have HPk := Lib.hid hpk
        clear hm hpk
        refine wpList_store_mid (P := Try.prog) rfl 24 _ _ rfl wr.heap.size 0 (bys H).toArray rfl rfl HPk.out.1 HSh2.out O1.out ?_
        have hpk := HPk.out.2
        simp only [List.reduceReplicate] at hpk
        have HPk2 := Lib.hid hpk
        clear HPk hpk
        obtain ⟨g5, hg5⟩ : ∃ g5, wr.heap.size = g5 := ⟨_, rfl⟩
        have HG5 := Lib.hid hg5
        rw [hg5] at HPk2 ⊢
        rw [show (bys H).toArray.toList = bys H from rfl]
        generalize World.setCells _ _ _ _ = w2 at *
        clear hg5
        go_upto_region 7 with fail
        go_step
        iterate 3 (first | go_values | go_skip | go_guarded | go_step | go_upon)
        refine wpList_load_mid (P := Try.prog) rfl 24 _ rfl g5 0 rfl _ _ HPk2.out.1.range Try.underlying24 rfl HSh.out ?_
        go_wp2_with fail
        refine (leafNode_any H HH.out w2).mono ?_
        rintro e w3 ⟨b9, rfl, hnd, hb3⟩
        unfold ptr
        dsimp only
        have hb13 : Below wr.heap.size wr w3 := by rw [HG5.out]; exact HPk2.out.2.trans (hb3.mono (by rw [← HG5.out]; exact HPk2.out.2.size))
        have hta : TaAt (Off u3) w3 (.leaf H) b9 := hnd.imp (fun k _ hk => off_new HO.out k (by have := HPk2.out.2.size; have := HG5.out; omega))
        have hal := Arr.made w3 77 [.pointer (some ⟨b9, 0, none⟩)]
        have hba : Below w3.heap.size w3 (w3.alloc (.cells [Value.pointer (some ⟨b9, 0, none⟩)].toArray 77)) := (Below.refl _ _).alloc (Nat.le_refl _) _
        have hbr := hb13.trans (hba.mono hb13.size)
        obtain ⟨Z, hZ⟩ : ∃ Z, bs ++ [b9] = Z := ⟨_, rfl⟩
        have HZZ := Lib.hid hZ
        have HAl3 := Lib.hid (hal.cell 0)
        have HTa4 := Lib.hid (hta.below hba)
        have HR4 := Lib.hid (HR.out.below hbr)
        have HO5 := Lib.hid (own_below HO.out hbr)
        have HB5 := Lib.hid (HB.out.trans (hbr.mono HB.out.size))
        have HX6 := Lib.hid (show bs.length + 1 ≤ 1000000000000 by have := HR.out.1; rw [this, List.length_take, List.length_map]; omega)
        have HT12 := Lib.hid (show (Is.map Ta.leaf).take (k + 1) = (Is.map Ta.leaf).take k ++ [Ta.leaf H] by
          rw [List.take_succ_eq_append_getElem (by rw [List.length_map]; exact HKl.out), List.getElem_map, ← HHe.out]
          congr 3
          simp only [List.getD, List.getElem?_eq_getElem HKl.out, Option.getD_some])
        clear hb13 hta hal hba hbr hZ hnd hb3 HO HR HB HPk2
        go_wp2_with (at_builtin; refine appN w.heap.size rfl (.tmp 18) (.tmp 21) rfl u3 bs Z b9 HZZ.out rfl w3.heap.size rfl HAl3.out HO5.out HB5.out.size HX6.out ?_)
        intro v7 w4 ho4 hb4 hk4 hf4
        have HR7 := Lib.hid (leaf_next HR4.out HTa4.out HZZ.out hk4.out (fun k hk => hf4.out k (by simpa using hk)))
        have HO7 := Lib.hid ho4.out
        have HB7 := Lib.hid (hb4.out _ _ HB5.out (Nat.le_refl _))
        clear ho4 hb4 hk4 hf4 HR4 HTa4 HO5 HB5
        go_wp2
        go_roundg g
        case measure => omega
        case rel =>
          have h7 := HR7.out
          rw [← HT12.out] at h7
          exact ⟨k + 1, Z, by show _ = _; have := HK.out; omega, by go_num, HO7.out, h7, HB7.out⟩
end Go.Proofs.Ytbaepjhbpmhmgaa
