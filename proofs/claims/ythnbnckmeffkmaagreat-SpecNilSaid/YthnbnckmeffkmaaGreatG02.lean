/- Parts of the proof. -/
import Derived.Test.YthnbnckmeffkmaaGreatG01
import Derived.Deep.MidRow
import Derived.Deep.WholeRow
import Derived.Deep.RegionHeld3
import Derived.Deep.DrawnRows
import Derived.Deep.DeepCutAuto
namespace Go.Proofs.YthnbnckmeffkmaaGreat
open Go.RowKit Go.Lib
set_option linter.unusedVariables false
set_option linter.unusedSimpArgs false

/-- An array that lies in a block of its own. -/
def Arr (w : World) (g : Nat) (t : TypeId) (vs : List Value) : Prop := w.heap[g]? = some (.cells vs.toArray t (0, 0))
theorem Arr.lt {w : World} {g : Nat} {t : TypeId} {vs : List Value} (h : Arr w g t vs) : g < w.heap.size := by
  unfold Arr at h
  rcases Nat.lt_or_ge g w.heap.size with h1 | h1
  · exact h1
  · rw [Array.getElem?_eq_none h1] at h; simp at h
theorem Arr.cell {w : World} {g : Nat} {t : TypeId} {vs : List Value} (h : Arr w g t vs) (j : Nat) : w.cell? ⟨g, j, none⟩ = vs[j]? := by
  rw [cell_of_row w g j vs.toArray t (0, 0) h]; simp
theorem Arr.frozen {w : World} {g : Nat} {t : TypeId} {vs : List Value} (h : Arr w g t vs) (j : Nat) : w.frozen? ⟨g, j, none⟩ = false :=
  frozen_of_row w g j vs.toArray t h
theorem Arr.set {w : World} {g : Nat} {t : TypeId} {vs : List Value} (h : Arr w g t vs) (j : Nat) (u : Value) : Arr (w.setCell ⟨g, j, none⟩ u) g t (vs.set j u) := by
  have := heap_setCell_same w g j vs.toArray t u h
  unfold Arr
  rw [this]; simp
theorem Arr.below {B : Nat} {w w' : World} {g : Nat} {t : TypeId} {vs : List Value} (h : Arr w g t vs) (hb : Below B w w') (hg : g < B) : Arr w' g t vs := by
  unfold Arr at *
  rw [hb.block g hg]; exact h
theorem Arr.made (w : World) (t : TypeId) (vs : List Value) : Arr (w.alloc (.cells vs.toArray t)) w.heap.size t vs := heap_alloc_last w _
theorem Arr.range {w : World} {g : Nat} {t : TypeId} {vs : List Value} (h : Arr w g t vs) : w.rangeAt g 0 vs := by
  intro j v hv
  rw [Nat.zero_add, h.cell, hv]
theorem Arr.load {P : Program} {w : World} {g : Nat} {t ty : TypeId} {vs : List Value} {d : TypeDesc} (h : Arr w g t vs) (hu : P.underlying ty = some d) (hd : d.isRow = true) (hi : (P.info? ty).map (·.size) = some vs.length) :
    (Instr.loadAt ty (.pointer (some ⟨g, 0, none⟩))).run P w = .ok (.agg vs.toArray) w :=
  run_loadAt_mid w g 0 ty vs d h.range hu hd hi

theorem Arr.sets {g : Nat} {t : TypeId} : ∀ (us : List Value) (o : Nat) {w : World} {vs : List Value}, Arr w g t vs → o + us.length ≤ vs.length → Arr (w.setCells g o us) g t (vs.take o ++ us ++ vs.drop (o + us.length))
  | [], o, w, vs, h, _ => by simpa [World.setCells] using h
  | u :: us, o, w, vs, h, hl => by
    simp only [List.length_cons] at hl
    have := Arr.sets us (o + 1) (h.set o u) (by simp; omega)
    rw [World.setCells]
    have e : (vs.set o u).take (o + 1) ++ us ++ (vs.set o u).drop (o + 1 + us.length) = vs.take o ++ u :: us ++ vs.drop (o + (u :: us).length) := by
      rw [List.drop_set_of_lt (by omega), List.take_add_one, List.take_set_of_le (by omega), List.getElem?_set_self (by omega)]
      simp [Nat.add_assoc, Nat.add_comm 1]
    rw [e] at this
    exact this
theorem Arr.setAll {g : Nat} {t : TypeId} (us : List Value) {w : World} {vs : List Value} (h : Arr w g t vs) (hl : us.length = vs.length) : Arr (w.setCells g 0 us) g t us := by
  have := h.sets us 0 (by omega)
  simpa [hl] using this
theorem Arr.there {g : Nat} {t : TypeId} {w : World} {vs : List Value} (h : Arr w g t vs) (n : Nat) (hn : n = vs.length) : w.there g 0 n := by
  intro j hj
  rw [Nat.zero_add]
  exact ⟨by rw [h.cell]; simp; omega, h.frozen j⟩
theorem below_sets {B : Nat} {a : World} (b : Nat) (hb : B ≤ b) : ∀ (vs : List Value) (o : Nat) {w : World}, Below B a w → Below B a (w.setCells b o vs)
  | [], _, _, h => h
  | v :: vs, o, w, h => below_sets b hb vs (o + 1) (h.setCell (p := ⟨b, o, none⟩) hb v)

theorem zero64 : ∀ w, (zeroValue 266).run Tryz.prog w = .ok (.agg (List.replicate 64 (.int .u32 0)).toArray) w := by
  have := zero_of_info (P := Tryz.prog) (t := 266) (v := .agg (List.replicate 64 (.int .u32 0)).toArray) (n := 64) (by kernel_rfl)
  exact this.1
theorem size64 : (Tryz.prog.info? 266).map (·.size) = some 64 := by kernel_rfl
theorem zero8 : ∀ w, (zeroValue 268).run Tryz.prog w = .ok (.agg (List.replicate 8 (.int .u32 0)).toArray) w := by
  have := zero_of_info (P := Tryz.prog) (t := 268) (v := .agg (List.replicate 8 (.int .u32 0)).toArray) (n := 8) (by kernel_rfl)
  exact this.1
theorem size8 : (Tryz.prog.info? 268).map (·.size) = some 8 := by kernel_rfl

def words (L : List Nat) : List Value := L.map fun p : Nat => Value.int .u32 (p : Int)


theorem addr_block (a : Addr) (n : Nat) : (a.add n).block = a.block := by unfold Addr.add; split <;> rfl
def Rdg (w : World) (lo : Nat) (A : Option Addr) (L : List Nat) : Prop := ∀ (i p : Nat), L[i]? = some p → ∃ ad, A = some ad ∧ lo < ad.block ∧ w.cell? (ad.add i) = some (.int .u64 p)
theorem own_read2 {w : World} {base : Nat} {e : TypeId} {v : Value} {L : List Nat} {n : Nat} (h : w.ownsRow base e 1 v n (nums L)) (hL : L.length = n) (lo : Nat) (hlo : lo < base) :
    ∃ A c, v = .slice A n c ∧ Rdg w lo A L := by
  rcases h.2 with ⟨rfl, h0⟩ | ⟨g, cap, cur, rfl, hb, hg, hn, hc, _⟩
  · subst h0
    refine ⟨none, 0, rfl, fun i p hi => ?_⟩
    rw [List.eq_nil_of_length_eq_zero hL] at hi; simp at hi
  · refine ⟨_, cap, rfl, fun i p hi => ⟨_, rfl, Nat.lt_of_lt_of_le hlo hb, ?_⟩⟩
    have hi' : i < L.length := (List.getElem?_eq_some_iff.1 hi).1
    rw [add_nospot, World.ownsRow.cellAt h i (by omega)]
    simp [nums, hi]
theorem Rdg.below {w w' : World} {lo : Nat} {A : Option Addr} {L : List Nat} (h : Rdg w lo A L) (hb : Below w.heap.size w w') : Rdg w' lo A L := by
  intro i p hi
  obtain ⟨ad, e, hl, hc⟩ := h i p hi
  exact ⟨ad, e, hl, cellb hb hc⟩
theorem Rdg.set {w : World} {lo : Nat} {A : Option Addr} {L : List Nat} (h : Rdg w lo A L) (j : Nat) (u : Value) : Rdg (w.setCell ⟨lo, j, none⟩ u) lo A L := by
  intro i p hi
  obtain ⟨ad, e, hl, hc⟩ := h i p hi
  refine ⟨ad, e, hl, ?_⟩
  rw [World.cell?_of_block (w := w) (heap_setCell_other w ⟨lo, j, none⟩ (ad.add i).block u (by rw [addr_block]; show ad.block ≠ lo; omega))]
  exact hc

theorem words_one (vs : List Nat) : ∀ v ∈ words vs, v.oneCell' = true := by
  intro v hv
  simp only [words, List.mem_map] at hv
  obtain ⟨p, _, rfl⟩ := hv
  rfl
theorem words_len (L : List Nat) : (words L).length = L.length := by simp [words]
theorem words_next (L : List Nat) (i n : Nat) (hL : L.length = n) (hn : i < n) (v : Value) (f : Nat → Nat) :
    (words ((L.take i).map f) ++ List.replicate (n - i) v)[i]? = some v := by
  have e1 : (words ((L.take i).map f)).length = i := by simp [words]; omega
  rw [List.getElem?_append_right (by omega), e1, Nat.sub_self, List.getElem?_replicate, if_pos (by omega)]
theorem words_step (L : List Nat) (i n p : Nat) (hi : L[i]? = some p) (hn : i < n) (v : Value) (f : Nat → Nat) :
    (words ((L.take i).map f) ++ List.replicate (n - i) v).set i (.int .u32 (f p : Nat)) = words ((L.take (i + 1)).map f) ++ List.replicate (n - (i + 1)) v := by
  have hl : i < L.length := (List.getElem?_eq_some_iff.1 hi).1
  have e1 : (words ((L.take i).map f)).length = i := by simp [words]; omega
  rw [List.set_append_right _ _ (by omega), e1, Nat.sub_self, show n - i = (n - (i + 1)) + 1 by omega, List.replicate_succ, List.set_cons_zero, List.take_add_one, hi]
  simp [words]
theorem pr_lt32 (n i p : Nat) (h : ((pr 310).take n)[i]? = some p) : p < 4294967296 := by
  have := pr_ge 310 p (List.mem_of_mem_take (List.mem_of_getElem? h))
  omega

theorem constants_any (w : World) :
    Calls Tryz.prog 187 #[] w fun e w' => e = .returned (.agg (words (((pr 310).take 64).map cbWord)).toArray) ∧ Below w.heap.size w w' := by
  have hz := zero64
  obtain ⟨L, hL⟩ : ∃ L, L = (pr 310).take 64 := ⟨_, rfl⟩
  rw [← hL]
  have HLL := Lib.hid hL
  clear hL
  go_enter Tryz.func187, Tryz.ntmps187
  go_wp2_with fail
  have harr := Arr.made w 266 (List.replicate 64 (.int .u32 0))
  have hbel := (Below.refl w.heap.size w).alloc (Nat.le_refl _) (.cells (List.replicate 64 (.int .u32 0)).toArray 266)
  have hsz : (w.alloc (.cells (List.replicate 64 (.int .u32 0)).toArray 266)).heap.size = w.heap.size + 1 := by show (w.heap.push _).size = _; simp
  simp only [List.reduceReplicate] at harr hbel hsz
  generalize w.alloc _ = w1 at *
  have HArr := Lib.hid harr
  have HBel := Lib.hid hbel
  have HSz := Lib.hid hsz
  clear harr hbel hsz hz
  refine (primes_any 64 (by omega) w1).mono ?_
  rintro e w2 ⟨v, rfl, ho, hb⟩
  have hlen : ((pr 310).take 64).length = 64 := by rw [List.length_take, pr_len]; rfl
  obtain ⟨A, c, rfl, hrd⟩ := own_read2 ho hlen w.heap.size (by rw [HSz.out]; omega)
  have HRd := Lib.hid hrd
  have HLen := Lib.hid hlen
  have HArr2 := Lib.hid (HArr.out.below hb HArr.out.lt)
  have HBel2 := Lib.hid (HBel.out.trans (hb.mono HBel.out.size))
  have h32 := Lib.hid (fun i p => pr_lt32 64 i p)
  rw [← HLL.out] at HRd HLen h32
  clear HArr HBel ho hb hlen hrd
  go_wp2
  go_loopg [1, 2, 5] 64 (fun g x1 x2 i wr => ∃ k : Nat, Hid (g + k = 64) ∧ i = .int .i64 (k : Int) ∧ Hid (Arr wr w.heap.size 266 (words ((L.take k).map cbWord) ++ List.replicate (64 - k) (.int .u32 0))) ∧ Hid (Rdg wr w.heap.size A L) ∧ Hid (Below w.heap.size w wr))
  case atStart => exact ⟨0, rfl, rfl, HArr2.out, HRd.out, HBel2.out⟩
  case round =>
    obtain ⟨k, hk, rfl, ha, hr, hb⟩ := hrel
    have HK := Lib.hid hk.out
    have HA := Lib.hid ha.out
    have HR := Lib.hid hr.out
    have HB := Lib.hid hb.out
    clear hk ha hr hb HArr2 HRd HBel2
    cases gk with
    | zero =>
      have hlt : ¬ ((k : Int) < 64) := by have := HK.out; omega
      have hA := HA.out
      have ek : k = 64 := by have := HK.out; omega
      rw [ek, ← HLen.out, List.take_length, Nat.sub_self, List.replicate_zero, List.append_nil] at hA
      have hl : (words (L.map cbWord)).length = 64 := by rw [words_len, List.length_map, HLen.out]
      have HA2 := Lib.hid hA
      have HL2 := Lib.hid hl
      clear hA hl
      obtain ⟨M, hM⟩ : ∃ M, M = L.map cbWord := ⟨_, rfl⟩
      rw [← hM] at HA2 HL2
      have HM := Lib.hid hM
      clear hM
      have h1 := Lib.hid (all_oneCell_toArray (words_one M))
      have hs : (Tryz.prog.info? 266).map (·.size) = some (words M).length := by rw [HL2.out]; exact size64
      have hs2 : (Tryz.prog.info? 266).map (·.size) = some (words M).toArray.size := by rw [List.size_toArray]; exact hs
      have Hs := Lib.hid hs
      have Hs2 := Lib.hid hs2
      clear hs hs2
      go_wp2_with (first
        | refine wpList_load_mid (P := Tryz.prog) rfl 266 _ rfl w.heap.size 0 rfl _ _ HA2.out.range Tryz.underlying266 rfl Hs.out ?_
        | refine wpList_store_mid (P := Tryz.prog) rfl 266 _ _ rfl w.heap.size 0 _ rfl rfl (HA2.out.there _ (by simp)) Hs2.out h1.out ?_)
      have HA3 := Lib.hid (HA2.out.setAll (words M) rfl)
      refine bodyPost_ret (results_cell_row (P := Tryz.prog) rfl _ _ w.heap.size 266 _ (0, 0) _ rfl HA3.out Tryz.underlying266 rfl (by rw [List.size_toArray]; exact Hs.out)) rfl ?_
      exact ⟨by rw [HM.out], below_sets _ (Nat.le_refl _) _ _ HB.out⟩
    | succ g =>
      have hlt : ((k : Int) < 64) := by have := HK.out; omega
      obtain ⟨p, hp⟩ : ∃ p, L[k]? = some p := ⟨L[k]'(by have := HK.out; have := HLen.out; omega), by simp⟩
      obtain ⟨ad, rfl, hbl, hcell⟩ := HR.out k p hp
      have HP := Lib.hid hp
      have hp32 := h32.out k p hp
      clear hp hbl
      go_wp2_with fail
      refine (cube_any p _ hp32).mono ?_
      rintro e w4 ⟨rfl, hb4⟩
      have HA4 := Lib.hid (HA.out.below hb4 HA.out.lt)
      have HR4 := Lib.hid (HR.out.below hb4)
      have HB4 := Lib.hid (HB.out.trans (hb4.mono HB.out.size))
      have hcl : w4.cell? ⟨w.heap.size, k, none⟩ = some (.int .u32 0) := by
        rw [HA4.out.cell, words_next L k 64 HLen.out (by have := HK.out; omega)]
      have hfr := HA4.out.frozen k
      go_wp2
      go_roundg g
      case measure => omega
      case rel => exact ⟨k + 1, by show _ = _; have := HK.out; omega, by go_num, by
        show Arr _ _ _ _
        rw [← words_step L k 64 p HP.out (by have := HK.out; omega)]
        exact HA4.out.set k _, HR4.out.set k _, HB4.out.setCell (Nat.le_refl _) _⟩
theorem start_any (w : World) :
    Calls Tryz.prog 188 #[] w fun e w' => e = .returned (.agg (words (((pr 310).take 8).map sqWord)).toArray) ∧ Below w.heap.size w w' := by
  have hz := zero8
  obtain ⟨L, hL⟩ : ∃ L, L = (pr 310).take 8 := ⟨_, rfl⟩
  rw [← hL]
  have HLL := Lib.hid hL
  clear hL
  go_enter Tryz.func188, Tryz.ntmps188
  go_wp2_with fail
  have harr := Arr.made w 268 (List.replicate 8 (.int .u32 0))
  have hbel := (Below.refl w.heap.size w).alloc (Nat.le_refl _) (.cells (List.replicate 8 (.int .u32 0)).toArray 268)
  have hsz : (w.alloc (.cells (List.replicate 8 (.int .u32 0)).toArray 268)).heap.size = w.heap.size + 1 := by show (w.heap.push _).size = _; simp
  simp only [List.reduceReplicate] at harr hbel hsz
  generalize w.alloc _ = w1 at *
  have HArr := Lib.hid harr
  have HBel := Lib.hid hbel
  have HSz := Lib.hid hsz
  clear harr hbel hsz hz
  refine (primes_any 8 (by omega) w1).mono ?_
  rintro e w2 ⟨v, rfl, ho, hb⟩
  have hlen : ((pr 310).take 8).length = 8 := by rw [List.length_take, pr_len]; rfl
  obtain ⟨A, c, rfl, hrd⟩ := own_read2 ho hlen w.heap.size (by rw [HSz.out]; omega)
  have HRd := Lib.hid hrd
  have HLen := Lib.hid hlen
  have HArr2 := Lib.hid (HArr.out.below hb HArr.out.lt)
  have HBel2 := Lib.hid (HBel.out.trans (hb.mono HBel.out.size))
  have h32 := Lib.hid (fun i p => pr_lt32 8 i p)
  rw [← HLL.out] at HRd HLen h32
  clear HArr HBel ho hb hlen hrd
  go_wp2
  go_loopg [1, 2, 5] 8 (fun g x1 x2 i wr => ∃ k : Nat, Hid (g + k = 8) ∧ i = .int .i64 (k : Int) ∧ Hid (Arr wr w.heap.size 268 (words ((L.take k).map sqWord) ++ List.replicate (8 - k) (.int .u32 0))) ∧ Hid (Rdg wr w.heap.size A L) ∧ Hid (Below w.heap.size w wr))
  case atStart => exact ⟨0, rfl, rfl, HArr2.out, HRd.out, HBel2.out⟩
  case round =>
    obtain ⟨k, hk, rfl, ha, hr, hb⟩ := hrel
    have HK := Lib.hid hk.out
    have HA := Lib.hid ha.out
    have HR := Lib.hid hr.out
    have HB := Lib.hid hb.out
    clear hk ha hr hb HArr2 HRd HBel2
    cases gk with
    | zero =>
      have hlt : ¬ ((k : Int) < 8) := by have := HK.out; omega
      have hA := HA.out
      have ek : k = 8 := by have := HK.out; omega
      rw [ek, ← HLen.out, List.take_length, Nat.sub_self, List.replicate_zero, List.append_nil] at hA
      have hl : (words (L.map sqWord)).length = 8 := by rw [words_len, List.length_map, HLen.out]
      have HA2 := Lib.hid hA
      have HL2 := Lib.hid hl
      clear hA hl
      obtain ⟨M, hM⟩ : ∃ M, M = L.map sqWord := ⟨_, rfl⟩
      rw [← hM] at HA2 HL2
      have HM := Lib.hid hM
      clear hM
      have h1 := Lib.hid (all_oneCell_toArray (words_one M))
      have hs : (Tryz.prog.info? 268).map (·.size) = some (words M).length := by rw [HL2.out]; exact size8
      have hs2 : (Tryz.prog.info? 268).map (·.size) = some (words M).toArray.size := by rw [List.size_toArray]; exact hs
      have Hs := Lib.hid hs
      have Hs2 := Lib.hid hs2
      clear hs hs2
      go_wp2_with (first
        | refine wpList_load_mid (P := Tryz.prog) rfl 268 _ rfl w.heap.size 0 rfl _ _ HA2.out.range Tryz.underlying268 rfl Hs.out ?_
        | refine wpList_store_mid (P := Tryz.prog) rfl 268 _ _ rfl w.heap.size 0 _ rfl rfl (HA2.out.there _ (by simp)) Hs2.out h1.out ?_)
      have HA3 := Lib.hid (HA2.out.setAll (words M) rfl)
      refine bodyPost_ret (results_cell_row (P := Tryz.prog) rfl _ _ w.heap.size 268 _ (0, 0) _ rfl HA3.out Tryz.underlying268 rfl (by rw [List.size_toArray]; exact Hs.out)) rfl ?_
      exact ⟨by rw [HM.out], below_sets _ (Nat.le_refl _) _ _ HB.out⟩
    | succ g =>
      have hlt : ((k : Int) < 8) := by have := HK.out; omega
      obtain ⟨p, hp⟩ : ∃ p, L[k]? = some p := ⟨L[k]'(by have := HK.out; have := HLen.out; omega), by simp⟩
      obtain ⟨ad, rfl, hbl, hcell⟩ := HR.out k p hp
      have HP := Lib.hid hp
      have hp32 := h32.out k p hp
      clear hp hbl
      go_wp2_with fail
      refine (square_any p _ hp32).mono ?_
      rintro e w4 ⟨rfl, hb4⟩
      have HA4 := Lib.hid (HA.out.below hb4 HA.out.lt)
      have HR4 := Lib.hid (HR.out.below hb4)
      have HB4 := Lib.hid (HB.out.trans (hb4.mono HB.out.size))
      have hcl : w4.cell? ⟨w.heap.size, k, none⟩ = some (.int .u32 0) := by
        rw [HA4.out.cell, words_next L k 8 HLen.out (by have := HK.out; omega)]
      have hfr := HA4.out.frozen k
      go_wp2
      go_roundg g
      case measure => omega
      case rel => exact ⟨k + 1, by show _ = _; have := HK.out; omega, by go_num, by
        show Arr _ _ _ _
        rw [← words_step L k 8 p HP.out (by have := HK.out; omega)]
        exact HA4.out.set k _, HR4.out.set k _, HB4.out.setCell (Nat.le_refl _) _⟩
end Go.Proofs.YthnbnckmeffkmaaGreat
namespace Go.Proofs.YthnbnckmeffkmaaGreat
open Go.RowKit Go.Lib
set_option linter.unusedVariables false
set_option linter.unusedSimpArgs false

def kTab : List Nat := [0x428a2f98, 0x71374491, 0xb5c0fbcf, 0xe9b5dba5, 0x3956c25b, 0x59f111f1, 0x923f82a4, 0xab1c5ed5,
  0xd807aa98, 0x12835b01, 0x243185be, 0x550c7dc3, 0x72be5d74, 0x80deb1fe, 0x9bdc06a7, 0xc19bf174,
  0xe49b69c1, 0xefbe4786, 0x0fc19dc6, 0x240ca1cc, 0x2de92c6f, 0x4a7484aa, 0x5cb0a9dc, 0x76f988da,
  0x983e5152, 0xa831c66d, 0xb00327c8, 0xbf597fc7, 0xc6e00bf3, 0xd5a79147, 0x06ca6351, 0x14292967,
  0x27b70a85, 0x2e1b2138, 0x4d2c6dfc, 0x53380d13, 0x650a7354, 0x766a0abb, 0x81c2c92e, 0x92722c85,
  0xa2bfe8a1, 0xa81a664b, 0xc24b8b70, 0xc76c51a3, 0xd192e819, 0xd6990624, 0xf40e3585, 0x106aa070,
  0x19a4c116, 0x1e376c08, 0x2748774c, 0x34b0bcb5, 0x391c0cb3, 0x4ed8aa4a, 0x5b9cca4f, 0x682e6ff3,
  0x748f82ee, 0x78a5636f, 0x84c87814, 0x8cc70208, 0x90befffa, 0xa4506ceb, 0xbef9a3f7, 0xc67178f2]
def hTab : List Nat := [0x6a09e667, 0xbb67ae85, 0x3c6ef372, 0xa54ff53a, 0x510e527f, 0x9b05688c, 0x1f83d9ab, 0x5be0cd19]

def rootG (g : Nat → Bool) : Nat → Nat → Nat → Nat
  | 0, _, x => x
  | m + 1, n, x => rootG g m (n + 1) (if g (x ||| 2 ^ (35 - n)) then x else x ||| 2 ^ (35 - n))
theorem rootG_eq (g : Nat → Bool) : ∀ m n, rootG g m n (rootF g n) = rootF g (n + m)
  | 0, n => rfl
  | m + 1, n => by
    rw [rootG, show (if g (rootF g n ||| 2 ^ (35 - n)) then rootF g n else rootF g n ||| 2 ^ (35 - n)) = rootF g (n + 1) from rfl, rootG_eq g m (n + 1)]
    congr 1; omega
theorem rootF_eq (g : Nat → Bool) : rootF g 36 = rootG g 36 0 0 := (rootG_eq g 36 0).symm

theorem hTab_eq : ((pr 310).take 8).map sqWord = hTab := by
  unfold sqWord
  simp only [rootF_eq]
  decide +kernel
theorem kTab_eq : ((pr 310).take 64).map cbWord = kTab := by
  unfold cbWord
  simp only [rootF_eq]
  decide +kernel
end Go.Proofs.YthnbnckmeffkmaaGreat
namespace Go.Proofs.YthnbnckmeffkmaaGreat
open Go.RowKit Go.Lib
set_option linter.unusedVariables false
set_option linter.unusedSimpArgs false

theorem w32 (n : Nat) (h : n < 4294967296) : IntKind.u32.wrap (n : Int) = (n : Int) := by rw [IntKind.wrap_u32]; omega
theorem or4 (a b c d : Nat) (ha : a < 256) (hb : b < 256) (hc : c < 256) (hd : d < 256) :
    bits BinOp.or IntKind.u32 (bits BinOp.or IntKind.u32 (bits BinOp.or IntKind.u32 (IntKind.u32.wrap (IntKind.u32.wrap (a : Int) * 16777216)) (IntKind.u32.wrap (IntKind.u32.wrap (b : Int) * 65536)))
      (IntKind.u32.wrap (IntKind.u32.wrap (c : Int) * 256))) (IntKind.u32.wrap (d : Int)) = ((a * 16777216 + b * 65536 + c * 256 + d : Nat) : Int) := by
  have e1 : IntKind.u32.wrap (IntKind.u32.wrap (a : Int) * 16777216) = ((a * 16777216 : Nat) : Int) := by
    rw [w32 a (by omega)]; exact w32 (a * 16777216) (by omega)
  have e2 : IntKind.u32.wrap (IntKind.u32.wrap (b : Int) * 65536) = ((b * 65536 : Nat) : Int) := by
    rw [w32 b (by omega)]; exact w32 (b * 65536) (by omega)
  have e3 : IntKind.u32.wrap (IntKind.u32.wrap (c : Int) * 256) = ((c * 256 : Nat) : Int) := by
    rw [w32 c (by omega)]; exact w32 (c * 256) (by omega)
  rw [e1, e2, e3, w32 d (by omega), u32_or_nat _ _ (by omega) (by omega)]
  have o1 : a * 16777216 ||| b * 65536 = a * 16777216 + b * 65536 := by
    have := Nat.two_pow_add_eq_or_of_lt (i := 24) (show b * 65536 < 2 ^ 24 by omega) a
    rw [Nat.mul_comm a]; exact this.symm
  rw [o1, u32_or_nat _ _ (by omega) (by omega)]
  have o2 : a * 16777216 + b * 65536 ||| c * 256 = a * 16777216 + b * 65536 + c * 256 := by
    have := Nat.two_pow_add_eq_or_of_lt (i := 16) (show c * 256 < 2 ^ 16 by omega) (a * 256 + b)
    rw [show a * 16777216 + b * 65536 = 2 ^ 16 * (a * 256 + b) by omega]; exact this.symm
  rw [o2, u32_or_nat _ _ (by omega) (by omega)]
  have o3 : a * 16777216 + b * 65536 + c * 256 ||| d = a * 16777216 + b * 65536 + c * 256 + d := by
    have := Nat.two_pow_add_eq_or_of_lt (i := 8) (show d < 2 ^ 8 by omega) (a * 65536 + b * 256 + c)
    rw [show a * 16777216 + b * 65536 + c * 256 = 2 ^ 8 * (a * 65536 + b * 256 + c) by omega]; exact this.symm
  rw [o3]
end Go.Proofs.YthnbnckmeffkmaaGreat
namespace Go.Proofs.YthnbnckmeffkmaaGreat
open Go.RowKit Go.Lib
set_option linter.unusedVariables false
set_option linter.unusedSimpArgs false
attribute [local go_sem ↓] Go.wp_at_zero Go.wp_at_succ

def sg0 (x : Nat) : Nat := (rotr 7 x ^^^ rotr 18 x) ^^^ x / 8
def sg1 (x : Nat) : Nat := (rotr 17 x ^^^ rotr 19 x) ^^^ x / 1024
def beW (b : List Nat) (i : Nat) : Nat := b.getD (4 * i) 0 * 16777216 + b.getD (4 * i + 1) 0 * 65536 + b.getD (4 * i + 2) 0 * 256 + b.getD (4 * i + 3) 0
def nextW (L : List Nat) (k : Nat) : Nat := (L.getD (k - 16) 0 + sg0 (L.getD (k - 15) 0) + L.getD (k - 7) 0 + sg1 (L.getD (k - 2) 0)) % 4294967296
def sched (b : List Nat) : Nat → List Nat
  | 0 => []
  | k + 1 => sched b k ++ [if k < 16 then beW b k else nextW (sched b k) k]
attribute [irreducible] sg0 sg1 beW nextW

theorem wrapN (n : Nat) : IntKind.u32.wrap (n : Int) = ((n % 4294967296 : Nat) : Int) := by rw [IntKind.wrap_u32]; omega
theorem sg0_int (x : Nat) (hx : x < 4294967296) : bits BinOp.xor IntKind.u32 (bits BinOp.xor IntKind.u32 (rotr 7 x : Nat) (rotr 18 x : Nat)) ((x : Int) / 8) = ((sg0 x : Nat) : Int) ∧ sg0 x < 4294967296 := by
  have h1 := (rotr_lt 7 x hx (by omega) (by omega)).1
  have h2 := (rotr_lt 18 x hx (by omega) (by omega)).1
  have h3 : rotr 7 x ^^^ rotr 18 x < 4294967296 := Nat.xor_lt_two_pow (n := 32) h1 h2
  have e : (x : Int) / 8 = ((x / 8 : Nat) : Int) := by omega
  rw [u32_xor_nat _ _ h1 h2, e, u32_xor_nat _ _ h3 (by omega)]
  unfold sg0
  exact ⟨rfl, Nat.xor_lt_two_pow (n := 32) h3 (by omega)⟩
theorem sg1_int (x : Nat) (hx : x < 4294967296) : bits BinOp.xor IntKind.u32 (bits BinOp.xor IntKind.u32 (rotr 17 x : Nat) (rotr 19 x : Nat)) ((x : Int) / 1024) = ((sg1 x : Nat) : Int) ∧ sg1 x < 4294967296 := by
  have h1 := (rotr_lt 17 x hx (by omega) (by omega)).1
  have h2 := (rotr_lt 19 x hx (by omega) (by omega)).1
  have h3 : rotr 17 x ^^^ rotr 19 x < 4294967296 := Nat.xor_lt_two_pow (n := 32) h1 h2
  have e : (x : Int) / 1024 = ((x / 1024 : Nat) : Int) := by omega
  rw [u32_xor_nat _ _ h1 h2, e, u32_xor_nat _ _ h3 (by omega)]
  unfold sg1
  exact ⟨rfl, Nat.xor_lt_two_pow (n := 32) h3 (by omega)⟩
theorem nx4 (a x b y : Nat) (hx : x < 4294967296) (hy : y < 4294967296) :
    IntKind.u32.wrap (IntKind.u32.wrap (IntKind.u32.wrap ((a : Int) + bits BinOp.xor IntKind.u32 (bits BinOp.xor IntKind.u32 (rotr 7 x : Nat) (rotr 18 x : Nat)) ((x : Int) / 8)) + (b : Int))
      + bits BinOp.xor IntKind.u32 (bits BinOp.xor IntKind.u32 (rotr 17 y : Nat) (rotr 19 y : Nat)) ((y : Int) / 1024)) = (((a + sg0 x + b + sg1 y) % 4294967296 : Nat) : Int) := by
  rw [(sg0_int x hx).1, (sg1_int y hy).1]
  generalize sg0 x = s
  generalize sg1 y = t
  rw [← Int.natCast_add, wrapN, ← Int.natCast_add, wrapN, ← Int.natCast_add, wrapN]
  congr 1; omega

theorem sched_len (b : List Nat) (k : Nat) : (sched b k).length = k := by
  induction k with
  | zero => rfl
  | succ k ih => simp [sched, ih]

theorem words_set (L : List Nat) (i n x : Nat) (hL : L.length = i) (hn : i < n) (v : Value) :
    (words L ++ List.replicate (n - i) v).set i (.int .u32 (x : Nat)) = words (L ++ [x]) ++ List.replicate (n - (i + 1)) v := by
  rw [List.set_append_right _ _ (by rw [words_len]; omega), words_len, hL, Nat.sub_self, show n - i = (n - (i + 1)) + 1 by omega, List.replicate_succ, List.set_cons_zero]
  simp [words]
theorem words_at (L : List Nat) (i n : Nat) (hL : L.length = i) (hn : i < n) (v : Value) : (words L ++ List.replicate (n - i) v)[i]? = some v := by
  rw [List.getElem?_append_right (by rw [words_len]; omega), words_len, hL, Nat.sub_self, List.getElem?_replicate, if_pos (by omega)]

theorem words_get (L : List Nat) (r : List Value) (j : Nat) (hj : j < L.length) : (words L ++ r)[j]? = some (.int .u32 (L.getD j 0 : Nat)) := by
  rw [List.getElem?_append_left (by rw [words_len]; exact hj)]
  simp [words, hj]
theorem sched_lt (b : List Nat) (hb : ∀ j, j < 64 → b.getD j 0 < 256) (k : Nat) : ∀ x ∈ sched b k, x < 4294967296 := by
  induction k with
  | zero => simp [sched]
  | succ k ih =>
    intro x hx
    rw [sched] at hx
    rcases List.mem_append.1 hx with h | h
    · exact ih x h
    · simp only [List.mem_singleton] at h
      rw [h]
      split
      · have h0 := hb (4 * k) (by omega)
        have h1 := hb (4 * k + 1) (by omega)
        have h2 := hb (4 * k + 2) (by omega)
        have h3 := hb (4 * k + 3) (by omega)
        unfold beW; omega
      · unfold nextW; omega
theorem getD_lt (L : List Nat) (h : ∀ x ∈ L, x < 4294967296) (j : Nat) : L.getD j 0 < 4294967296 := by
  rcases Nat.lt_or_ge j L.length with hj | hj
  · have := h L[j] (List.getElem_mem ..); simpa [List.getD, hj] using this
  · simp [List.getD, hj]

theorem cell_off (w : World) (g j i : Nat) (u : Value) (h : i ≠ j) : (w.setCell ⟨g, j, none⟩ u).cell? ⟨g, i, none⟩ = w.cell? ⟨g, i, none⟩ :=
  by rw [World.cell?_setCell_other]; intro e; exact h (by cases e; rfl)
def IsBlk (w : World) (ad : Addr) (b : List Nat) : Prop := b.length = 64 ∧ ∀ j, j < 64 → b.getD j 0 < 256 ∧ w.cell? (ad.add j) = some (.int .u8 (b.getD j 0 : Nat))
theorem IsBlk.below {w w' : World} {ad : Addr} {b : List Nat} (h : IsBlk w ad b) (hb : Below w.heap.size w w') : IsBlk w' ad b := ⟨h.1, fun j hj => ⟨(h.2 j hj).1, cellb hb (h.2 j hj).2⟩⟩

theorem four (w : World) (o1 o2 o3 o4 : Obj) :
    ((((w.alloc o1).alloc o2).alloc o3).alloc o4).heap[w.heap.size]? = some o1 ∧ ((((w.alloc o1).alloc o2).alloc o3).alloc o4).heap[w.heap.size + 1]? = some o2 ∧
    ((((w.alloc o1).alloc o2).alloc o3).alloc o4).heap[w.heap.size + 1 + 1]? = some o3 ∧ ((((w.alloc o1).alloc o2).alloc o3).alloc o4).heap[w.heap.size + 1 + 1 + 1]? = some o4 ∧
    Below w.heap.size w ((((w.alloc o1).alloc o2).alloc o3).alloc o4) := by
  have e : ∀ (w : World) (o : Obj), (w.alloc o).heap = w.heap.push o := fun _ _ => rfl
  refine ⟨?_, ?_, ?_, ?_, ((((Below.refl _ _).alloc (Nat.le_refl _) _).alloc (by simp) _).alloc (by simp; omega) _).alloc (by simp; omega) _⟩
  all_goals
    simp only [e, Array.getElem?_push, Array.size_push]
    simp
  rw [if_neg (by omega), if_neg (by omega)]

theorem cell_far (w : World) (g j : Nat) (u : Value) (p : Addr) (h : p.block ≠ g) : (w.setCell ⟨g, j, none⟩ u).cell? p = w.cell? p :=
  World.cell?_of_block (w := w) (heap_setCell_other w ⟨g, j, none⟩ p.block u h)
/-- What lies there while a block is pressed. -/
def PrInv (w wr : World) (K H : List Nat) (ws : List Value) : Prop :=
  Arr wr w.heap.size 266 (words K) ∧ Arr wr (w.heap.size + 1) 268 (words H) ∧ Arr wr (w.heap.size + 1 + 1) 268 (List.replicate 8 (.int .u32 0)) ∧ Arr wr (w.heap.size + 1 + 1 + 1) 266 ws ∧ Below w.heap.size w wr
theorem Arr.other {w : World} {g g' : Nat} {t : TypeId} {vs : List Value} (h : Arr w g t vs) (hne : g ≠ g') (j : Nat) (u : Value) : Arr (w.setCell ⟨g', j, none⟩ u) g t vs := by
  unfold Arr at *
  rw [heap_setCell_other w ⟨g', j, none⟩ g u hne]; exact h
theorem PrInv.set {w wr : World} {K H : List Nat} {ws : List Value} (h : PrInv w wr K H ws) (j : Nat) (u : Value) : PrInv w (wr.setCell ⟨w.heap.size + 1 + 1 + 1, j, none⟩ u) K H (ws.set j u) :=
  ⟨h.1.other (by omega) _ _, h.2.1.other (by omega) _ _, h.2.2.1.other (by omega) _ _, h.2.2.2.1.set _ _, h.2.2.2.2.setCell (by show _ ≤ _ + 1 + 1 + 1; omega) _⟩

theorem PrInv.drew {w wr : World} {K H : List Nat} {ws : List Value} (h : PrInv w wr K H ws) : PrInv w wr.drew K H ws := ⟨h.1, h.2.1, h.2.2.1, h.2.2.2.1, h.2.2.2.2.drew⟩

end Go.Proofs.YthnbnckmeffkmaaGreat
namespace Go.Proofs.YthnbnckmeffkmaaGreat
open Go.RowKit Go.Lib
set_option linter.unusedVariables false
set_option linter.unusedSimpArgs false

/-- The eight words while a block is pressed. -/
structure St where
  a : Nat
  b : Nat
  c : Nat
  d : Nat
  e : Nat
  f : Nat
  g : Nat
  h : Nat
def bg1 (e : Nat) : Nat := (rotr 6 e ^^^ rotr 11 e) ^^^ rotr 25 e
def bg0 (a : Nat) : Nat := (rotr 2 a ^^^ rotr 13 a) ^^^ rotr 22 a
def chF (e f g : Nat) : Nat := (e &&& f) ^^^ ((4294967295 - e) &&& g)
def mjF (a b c : Nat) : Nat := ((a &&& b) ^^^ (a &&& c)) ^^^ (b &&& c)
def rx (k w : Nat) (s : St) : Nat := (s.h + bg1 s.e + chF s.e s.f s.g + k + w) % 4294967296
def ry (s : St) : Nat := (bg0 s.a + mjF s.a s.b s.c) % 4294967296
def stp (k w : Nat) (s : St) : St := ⟨(rx k w s + ry s) % 4294967296, s.a, s.b, s.c, (s.d + rx k w s) % 4294967296, s.e, s.f, s.g⟩
def rounds (K W : List Nat) (s : St) : Nat → St
  | 0 => s
  | n + 1 => stp (K.getD n 0) (W.getD n 0) (rounds K W s n)

theorem x32 (a b : Nat) (ha : a < 4294967296) (hb : b < 4294967296) : a ^^^ b < 4294967296 := Nat.xor_lt_two_pow (n := 32) ha hb
theorem bg1_int (e : Nat) (he : e < 4294967296) : bits BinOp.xor IntKind.u32 (bits BinOp.xor IntKind.u32 (rotr 6 e : Nat) (rotr 11 e : Nat)) (rotr 25 e : Nat) = ((bg1 e : Nat) : Int) ∧ bg1 e < 4294967296 := by
  have h1 := (rotr_lt 6 e he (by omega) (by omega)).1
  have h2 := (rotr_lt 11 e he (by omega) (by omega)).1
  have h3 := (rotr_lt 25 e he (by omega) (by omega)).1
  have h4 := x32 _ _ h1 h2
  rw [u32_xor_nat _ _ h1 h2, u32_xor_nat _ _ h4 h3]
  exact ⟨rfl, x32 _ _ h4 h3⟩
theorem bg0_int (e : Nat) (he : e < 4294967296) : bits BinOp.xor IntKind.u32 (bits BinOp.xor IntKind.u32 (rotr 2 e : Nat) (rotr 13 e : Nat)) (rotr 22 e : Nat) = ((bg0 e : Nat) : Int) ∧ bg0 e < 4294967296 := by
  have h1 := (rotr_lt 2 e he (by omega) (by omega)).1
  have h2 := (rotr_lt 13 e he (by omega) (by omega)).1
  have h3 := (rotr_lt 22 e he (by omega) (by omega)).1
  have h4 := x32 _ _ h1 h2
  rw [u32_xor_nat _ _ h1 h2, u32_xor_nat _ _ h4 h3]
  exact ⟨rfl, x32 _ _ h4 h3⟩
theorem mj_int (a b c : Nat) (ha : a < 4294967296) (hb : b < 4294967296) (hc : c < 4294967296) :
    bits BinOp.xor IntKind.u32 (bits BinOp.xor IntKind.u32 (bits BinOp.and IntKind.u32 (a : Int) (b : Int)) (bits BinOp.and IntKind.u32 (a : Int) (c : Int))) (bits BinOp.and IntKind.u32 (b : Int) (c : Int)) = ((mjF a b c : Nat) : Int) ∧ mjF a b c < 4294967296 := by
  have l1 : a &&& b < 4294967296 := Nat.lt_of_le_of_lt Nat.and_le_left ha
  have l2 : a &&& c < 4294967296 := Nat.lt_of_le_of_lt Nat.and_le_left ha
  have l3 : b &&& c < 4294967296 := Nat.lt_of_le_of_lt Nat.and_le_left hb
  rw [u32_and_nat _ _ ha hb, u32_and_nat _ _ ha hc, u32_and_nat _ _ hb hc, u32_xor_nat _ _ l1 l2, u32_xor_nat _ _ (x32 _ _ l1 l2) l3]
  exact ⟨rfl, x32 _ _ (x32 _ _ l1 l2) l3⟩
theorem ch_int (e f g n : Nat) (he : e < 4294967296) (hf : f < 4294967296) (hg : g < 4294967296) (hn : n = 4294967295 - e) :
    bits BinOp.xor IntKind.u32 (bits BinOp.and IntKind.u32 (e : Int) (f : Int)) (bits BinOp.and IntKind.u32 (n : Int) (g : Int)) = ((chF e f g : Nat) : Int) ∧ chF e f g < 4294967296 := by
  subst hn
  have l1 : e &&& f < 4294967296 := Nat.lt_of_le_of_lt Nat.and_le_left he
  have l2 : (4294967295 - e) &&& g < 4294967296 := Nat.lt_of_le_of_lt Nat.and_le_right hg
  rw [u32_and_nat _ _ he hf, u32_and_nat _ _ (by omega) hg, u32_xor_nat _ _ l1 l2]
  exact ⟨rfl, x32 _ _ l1 l2⟩

def St.ok (s : St) : Prop := s.a < 4294967296 ∧ s.b < 4294967296 ∧ s.c < 4294967296 ∧ s.d < 4294967296 ∧ s.e < 4294967296 ∧ s.f < 4294967296 ∧ s.g < 4294967296 ∧ s.h < 4294967296
theorem stp_ok (k w : Nat) (s : St) (h : s.ok) : (stp k w s).ok := by
  obtain ⟨h1, h2, h3, h4, h5, h6, h7, h8⟩ := h
  exact ⟨Nat.mod_lt _ (by omega), h1, h2, h3, Nat.mod_lt _ (by omega), h5, h6, h7⟩
theorem rounds_ok (K W : List Nat) (s : St) (h : s.ok) (n : Nat) : (rounds K W s n).ok := by
  induction n with
  | zero => exact h
  | succ n ih => exact stp_ok _ _ _ ih
theorem words_nth (L : List Nat) (j : Nat) (hj : j < L.length) : (L.map fun p : Nat => Value.int .u32 (p : Int))[j]? = some (.int .u32 (L.getD j 0 : Nat)) := by
  simp [hj]

theorem not_nat (e : Nat) (he : e < 4294967296) : 4294967295 ^^^ e = 4294967295 - e := by
  have h := BitVec.toNat_not (x := BitVec.ofNat 32 e)
  have h2 : (~~~(BitVec.ofNat 32 e)) = BitVec.allOnes 32 ^^^ BitVec.ofNat 32 e := by first | rw [BitVec.allOnes_xor] | (apply BitVec.eq_of_getLsbD_eq; intro i hi; simp [hi])
  rw [h2, BitVec.toNat_xor, BitVec.toNat_allOnes, BitVec.toNat_ofNat, Nat.mod_eq_of_lt (by omega)] at h
  exact h
theorem not_int (e : Nat) (he : e < 4294967296) : bits BinOp.xor IntKind.u32 IntKind.u32.max (e : Int) = ((4294967295 - e : Nat) : Int) := by
  rw [show IntKind.u32.max = ((4294967295 : Nat) : Int) from rfl, u32_xor_nat _ _ (by omega) he, not_nat e he]
theorem wrap_nat (n : Nat) : IntKind.u32.wrap (n : Int) = ((n % 4294967296 : Nat) : Int) := by rw [IntKind.wrap_u32]; omega
theorem rx_int (a b c d e f g h k w : Nat) (he : e < 4294967296) (hf : f < 4294967296) (hg : g < 4294967296) :
    IntKind.u32.wrap (IntKind.u32.wrap (IntKind.u32.wrap (IntKind.u32.wrap ((h : Int) + bits BinOp.xor IntKind.u32 (bits BinOp.xor IntKind.u32 (rotr 6 e : Nat) (rotr 11 e : Nat)) (rotr 25 e : Nat)) +
      bits BinOp.xor IntKind.u32 (bits BinOp.and IntKind.u32 (e : Int) (f : Int)) (bits BinOp.and IntKind.u32 (bits BinOp.xor IntKind.u32 IntKind.u32.max (e : Int)) (g : Int))) + (k : Int)) + (w : Int)) = ((rx k w ⟨a, b, c, d, e, f, g, h⟩ : Nat) : Int) := by
  rw [(bg1_int e he).1, not_int e he, (ch_int e f g _ he hf hg rfl).1]
  unfold rx
  simp only
  generalize bg1 e = s
  generalize chF e f g = t
  rw [← Int.natCast_add, wrap_nat, ← Int.natCast_add, wrap_nat, ← Int.natCast_add, wrap_nat, ← Int.natCast_add, wrap_nat]
  congr 1; omega
theorem ry_int (a b c d e f g h : Nat) (ha : a < 4294967296) (hb : b < 4294967296) (hc : c < 4294967296) :
    IntKind.u32.wrap (bits BinOp.xor IntKind.u32 (bits BinOp.xor IntKind.u32 (rotr 2 a : Nat) (rotr 13 a : Nat)) (rotr 22 a : Nat) +
      bits BinOp.xor IntKind.u32 (bits BinOp.xor IntKind.u32 (bits BinOp.and IntKind.u32 (a : Int) (b : Int)) (bits BinOp.and IntKind.u32 (a : Int) (c : Int))) (bits BinOp.and IntKind.u32 (b : Int) (c : Int))) = ((ry ⟨a, b, c, d, e, f, g, h⟩ : Nat) : Int) := by
  rw [(bg0_int a ha).1, (mj_int a b c ha hb hc).1]
  unfold ry
  simp only
  rw [← Int.natCast_add, wrap_nat]
end Go.Proofs.YthnbnckmeffkmaaGreat
/- What a pressed block comes to, in plain words. -/
namespace Go.Proofs.YthnbnckmeffkmaaGreat
open Go.RowKit Go.Lib
set_option linter.unusedVariables false
set_option linter.unusedSimpArgs false

theorem len8 (H : List Nat) (h : H.length = 8) : ∃ a b c d e f g i, H = [a, b, c, d, e, f, g, i] := by
  match H, h with
  | [a, b, c, d, e, f, g, i], _ => exact ⟨a, b, c, d, e, f, g, i, rfl⟩
def stOf (H : List Nat) : St := ⟨H.getD 0 0, H.getD 1 0, H.getD 2 0, H.getD 3 0, H.getD 4 0, H.getD 5 0, H.getD 6 0, H.getD 7 0⟩
def St.list (s : St) : List Nat := [s.a, s.b, s.c, s.d, s.e, s.f, s.g, s.h]
def addW (x y : Nat) : Nat := (x + y) % 4294967296
def addsTo (H S : List Nat) (k : Nat) : List Nat := List.zipWith addW (H.take k) (S.take k) ++ H.drop k
def pressF (K H b : List Nat) : List Nat := addsTo H (rounds K (sched b 64) (stOf H) 64).list 8
theorem addsTo_zero (H S : List Nat) : addsTo H S 0 = H := by simp [addsTo]
theorem addsTo_len (H S : List Nat) (k : Nat) (h : H.length = S.length) : (addsTo H S k).length = H.length := by
  simp [addsTo]; omega
theorem addsTo_get (H S : List Nat) (k : Nat) (h : H.length = S.length) (hk : k < H.length) : (addsTo H S k)[k]? = some (H.getD k 0) := by
  unfold addsTo
  rw [List.getElem?_append_right (by simp; omega)]
  simp [List.getElem?_drop, h, Nat.min_eq_left (show k ≤ S.length by omega)]
  rw [List.getElem?_eq_getElem (by omega)]; simp
theorem addsTo_set (H S : List Nat) (k : Nat) (h : H.length = S.length) (hk : k < H.length) : (addsTo H S k).set k (addW (H.getD k 0) (S.getD k 0)) = addsTo H S (k + 1) := by
  unfold addsTo
  have e : (List.zipWith addW (H.take k) (S.take k)).length = k := by simp; omega
  rw [List.set_append_right _ _ (by omega), e, Nat.sub_self]
  have e1 : H.drop k = H.getD k 0 :: H.drop (k + 1) := by
    rw [List.drop_eq_getElem_cons hk]; simp [hk]
  have e2 : H.take (k + 1) = H.take k ++ [H.getD k 0] := by rw [List.take_succ_eq_append_getElem hk]; simp [hk]
  have e3 : S.take (k + 1) = S.take k ++ [S.getD k 0] := by rw [List.take_succ_eq_append_getElem (by omega)]; simp [show k < S.length by omega]
  rw [e1, List.set_cons_zero, e2, e3, List.zipWith_append (by simp; omega)]
  simp
theorem words_setN (L : List Nat) (k x : Nat) : (words L).set k (.int .u32 (x : Nat)) = words (L.set k x) := by
  simp [words, List.map_set]
theorem words_getN (L : List Nat) (k : Nat) (x : Nat) (h : L[k]? = some x) : (words L)[k]? = some (.int .u32 (x : Nat)) := by
  simp [words, h]
theorem pressF_len (K H b : List Nat) (h : H.length = 8) : (pressF K H b).length = 8 := by
  unfold pressF; rw [addsTo_len _ _ _ (by simp [St.list, h]), h]
theorem addsTo_lt (H S : List Nat) (hH : ∀ x ∈ H, x < 4294967296) (k : Nat) : ∀ x ∈ addsTo H S k, x < 4294967296 := by
  intro x hx
  unfold addsTo at hx
  rcases List.mem_append.1 hx with h | h
  · rw [List.zipWith_eq_zipWith_take_min] at h
    obtain ⟨i, hi, rfl⟩ := List.mem_iff_getElem.1 h
    rw [List.getElem_zipWith]; unfold addW; exact Nat.mod_lt _ (by omega)
  · exact hH x (List.mem_of_mem_drop h)
theorem pressF_lt (K H b : List Nat) (hH : ∀ x ∈ H, x < 4294967296) : ∀ x ∈ pressF K H b, x < 4294967296 := addsTo_lt _ _ hH _

theorem mod_nat (a b : Nat) : ((a : Int) + (b : Int)) % 4294967296 = (((a + b) % 4294967296 : Nat) : Int) := by omega
theorem ry_int2 (a b c d e f g h : Nat) (ha : a < 4294967296) (hb : b < 4294967296) (hc : c < 4294967296) :
    (bits BinOp.xor IntKind.u32 (bits BinOp.xor IntKind.u32 (rotr 2 a : Nat) (rotr 13 a : Nat)) (rotr 22 a : Nat) +
      bits BinOp.xor IntKind.u32 (bits BinOp.xor IntKind.u32 (bits BinOp.and IntKind.u32 (a : Int) (b : Int)) (bits BinOp.and IntKind.u32 (a : Int) (c : Int))) (bits BinOp.and IntKind.u32 (b : Int) (c : Int))) % 4294967296 = ((ry ⟨a, b, c, d, e, f, g, h⟩ : Nat) : Int) := by
  rw [← ry_int a b c d e f g h ha hb hc, IntKind.wrap_u32]
theorem ten4 (w : World) (o : Obj) : (w.alloc o).heap[w.heap.size]? = some o := heap_alloc_last w _
/-- What lies there while the words are added. -/
def AdInv (w wr : World) (H S : List Nat) (G k : Nat) : Prop :=
  Arr wr (w.heap.size + 1) 268 (words (addsTo H S k)) ∧ Arr wr (w.heap.size + 1 + 1) 268 (List.replicate 8 (.int .u32 0)) ∧ w.heap.size + 1 + 1 < G ∧ (∀ j, wr.cell? ⟨G, j, none⟩ = (words S)[j]?) ∧ Below w.heap.size w wr
theorem AdInv.drew {w wr : World} {H S : List Nat} {G k : Nat} (h : AdInv w wr H S G k) : AdInv w wr.drew H S G k := ⟨h.1, h.2.1, h.2.2.1, h.2.2.2.1, h.2.2.2.2.drew⟩
theorem AdInv.next {w wr : World} {H S : List Nat} {G k : Nat} (h : AdInv w wr H S G k) (hl : H.length = S.length) (hk : k < H.length) :
    AdInv w (wr.setCell ⟨w.heap.size + 1, k, none⟩ (.int .u32 (addW (H.getD k 0) (S.getD k 0) : Nat))) H S G (k + 1) := by
  refine ⟨?_, h.2.1.other (by omega) _ _, h.2.2.1, fun j => ?_, h.2.2.2.2.setCell (by show _ ≤ _ + 1; omega) _⟩
  · have := h.1.set k (.int .u32 (addW (H.getD k 0) (S.getD k 0) : Nat))
    rw [words_setN, addsTo_set H S k hl hk] at this
    exact this
  · rw [cell_far _ _ _ _ _ (by show G ≠ _; have := h.2.2.1; omega)]
    exact h.2.2.2.1 j
end Go.Proofs.YthnbnckmeffkmaaGreat
/- The body of sha.press, part by part. -/
namespace Go.Proofs.YthnbnckmeffkmaaGreat
open Go.RowKit Go.Lib
/-- The code behind the first n statements. -/
def seqDrop : Nat → Code → Code
  | 0, c => c
  | n + 1, .seq _ b => seqDrop n b
  | _ + 1, c => c
noncomputable def bodyOf (f : Func) : Code := f.body.getD .skip
end Go.Proofs.YthnbnckmeffkmaaGreat
