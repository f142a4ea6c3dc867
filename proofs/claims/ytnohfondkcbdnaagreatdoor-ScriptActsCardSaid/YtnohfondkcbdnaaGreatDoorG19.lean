/- script.list and plexusref29.parents. -/
import Derived.Test.YtnohfondkcbdnaaGreatDoorG18
namespace Go.Proofs.YtnohfondkcbdnaaGreatDoor
open Go.RowKit Go.Lib
set_option linter.unusedVariables false
set_option linter.unusedSimpArgs false
attribute [local go_sem ↓] Go.wp_at_zero Go.wp_at_succ

theorem info_str : (Tryz.prog.info? 9).map (fun i => (i.zero, i.size, i.bytes)) = some (some (.string ⟨#[]⟩), 1, 16) := by kernel_rfl
def strC (s : ByteArray) : List Value := [.string s]
def strsC (X : List ByteArray) : List Value := X.map .string
theorem strsC_app (X Y : List ByteArray) : strsC (X ++ Y) = strsC X ++ strsC Y := by simp [strsC]
theorem strsC_at (X : List ByteArray) (j : Nat) (s : ByteArray) (h : X[j]? = some s) : (strsC X)[j]? = some (.string s) := by simp [strsC, h]
def StrsIs (w : World) (v : Value) (X : List ByteArray) : Prop := RowIs 1 strC w v X
theorem strs_cell {w : World} {b off : Nat} {X : List ByteArray} (h : ∀ j x, X[j]? = some x → w.rangeAt b (off + j * 1) (strC x)) (j : Nat) (u : Value) (hu : (strsC X)[j]? = some u) : w.cell? ((⟨b, off, none⟩ : Addr).add j) = some u := by
  have hj : j < X.length := by have := (List.getElem?_eq_some_iff.1 hu).1; simpa [strsC] using this
  have h1 := h j X[j] (List.getElem?_eq_getElem hj) 0 _ rfl
  rw [Nat.mul_one, Nat.add_zero] at h1
  rw [show (⟨b, off, none⟩ : Addr).add j = ⟨b, off + j, none⟩ by unfold Addr.add; split <;> simp_all]
  rw [h1, ← hu]
  exact (strsC_at X j _ (List.getElem?_eq_getElem hj)).symm
/-- append of a row of strings. -/
theorem appStr {P : Program} {ops : Array Oper} {rest : List Oper} {o : Oper} {a : Act} {Q : Exit → Act → World → Prop} {W : World} (base : Nat) (hgd : o.guard = none) (s x : Operand) (t e : TypeId)
    (ho : o.op = .call { callee := .builtin .append, args := #[s, x], argTypes := #[t, t] })
    (ht : P.underlying t = some (.slice e)) (hinfo : (P.info? e).map (fun i => (i.zero, i.size, i.bytes)) = some (some (.string ⟨#[]⟩), 1, 16))
    (v y : Value) (X L Z : List ByteArray) (hZ : X ++ L = Z) (hs : a.eval s = v) (hx : a.eval x = y)
    (HO : W.ownsRow base e 1 v X.length (strsC X)) (HY : StrsIs W y L) (hbase : base ≤ W.heap.size) (hl : X.length + L.length ≤ 2000000)
    (h : ∀ v1 w1, Hid (w1.ownsRow base e 1 v1 Z.length (strsC Z)) → Hid (∀ B w0, Below B w0 W → B ≤ base → Below B w0 w1) → wpList P ops Q rest (a.put o.dst v1) w1) :
    wpList P ops Q (o :: rest) a W := by
  subst hZ
  obtain ⟨i0, hi, hzz⟩ := Option.map_eq_some_iff.1 hinfo
  simp only [Prod.mk.injEq] at hzz
  obtain ⟨hz0, hz1, hz2⟩ := hzz
  rcases HY with ⟨rfl, rfl⟩ | ⟨b, off, c, rfl, _, _, hcell⟩
  · refine wpList_append_own_none hgd s x t ho base e i0 1 ht hi v X.length (strsC X) hs HO hx ?_
    exact h v W (by show World.ownsRow _ _ _ _ _ _ _; simpa using HO) (fun B w0 hB _ => hB)
  · refine wpList_append_own W hgd s x t ho base e i0 (.string ⟨#[]⟩) 1 16 ht hi hz0 hz1 hz2 rfl (by omega) v X.length (strsC X) hs HO ⟨b, off, none⟩ L.length c (strsC L) hx (by simp [strsC])
      (strs_cell hcell) (fun u hu => by obtain ⟨z, _, rfl⟩ := List.mem_map.1 hu; rfl) (by unfold maxLen; omega) (by omega) hbase ?_
    intro v1 w1 hown hg _
    refine h v1 w1 (by show World.ownsRow _ _ _ _ _ _ _; rw [strsC_app, List.length_append]; exact hown) (fun B w0 hB hbb => hB.grown hg (by omega) (fun k hk => Nat.le_trans hbb (HO.lt k hk).1))
theorem strs_one (w : World) (s : ByteArray) : StrsIs (w.alloc (.cells #[.string s] 9)) (.slice (some ⟨w.heap.size, 0, none⟩) 1 1) [s] := by
  refine .inr ⟨_, 0, 1, rfl, Nat.le_refl _, by unfold maxLen; omega, fun j x hx => ?_⟩
  match j, hx with
  | 0, hx =>
    cases hx
    exact (Arr.made w 9 [.string s]).range
  | j + 1, hx => cases hx
theorem own_strs {w : World} {base : Nat} {v : Value} {X : List ByteArray} (h : w.ownsRow base 9 1 v X.length (strsC X)) : StrsIs w v X := by
  rcases h.2 with ⟨rfl, h0⟩ | ⟨g, cap, cur, rfl, hb, hg, hn, hc, hcur⟩
  · exact .inl ⟨rfl, List.eq_nil_of_length_eq_zero h0⟩
  · refine .inr ⟨g, 0, cap, rfl, hn, hc, fun j x hx i u hu => ?_⟩
    have hj := (List.getElem?_eq_some_iff.1 hx).1
    match i, hu with
    | 0, hu =>
      cases hu
      rw [show 0 + j * 1 + 0 = j by omega, World.ownsRow.cellAt h j (by omega)]
      exact strsC_at X j x hx
    | i + 1, hu => cases hu
/-- Texts joined. -/
def joinT (X : List ByteArray) (sep : ByteArray) : ByteArray := bsT (Lib.join (X.map (·.data.toList)) sep.data.toList)
theorem lens_le (M : Nat) : ∀ (r : List (List UInt8)), (∀ x ∈ r, x.length ≤ M) → Lib.lens r ≤ r.length * M
  | [], _ => by simp [Lib.lens]
  | y :: r, h => by
    have h1 := h y (by simp)
    have h2 := lens_le M r (fun x hx => h x (by simp [hx]))
    simp only [Lib.lens, List.map_cons, List.sum_cons, List.length_cons] at h2 ⊢
    rw [Nat.succ_mul]; omega
theorem join_len_le (X : List (List UInt8)) (sep : List UInt8) (hs : sep.length = 1) (M : Nat) (h : ∀ x ∈ X, x.length ≤ M) : (Lib.join X sep).length ≤ X.length * M + X.length := by
  cases X with
  | nil => simp [Lib.join_nil]
  | cons y r =>
    have h1 := lens_le M (y :: r) h
    rw [Lib.join_length, hs]
    simp only [List.length_cons] at h1 ⊢
    omega
theorem join_any (X : List ByteArray) (sep : ByteArray) (hs : sep.size = 1) (M : Nat) (hM : M ≤ 10000000) (hX : X.length ≤ 1000000) (h : ∀ x ∈ X, x.size ≤ M) (v : Value) (w : World) (hv : StrsIs w v X) :
    Calls Tryz.prog 40 #[v, .string sep] w fun e w' => e = .returned (.string (joinT X sep)) ∧ Below w.heap.size w w' := by
  rcases hv with ⟨rfl, rfl⟩ | ⟨b, off, c, rfl, hc, hm, hcell⟩
  · refine (Tryz.strings_Join_none none 0 sep w).mono ?_
    rintro e w' ⟨rfl, rfl⟩
    exact ⟨rfl, Below.refl _ _⟩
  · by_cases h0 : X.length = 0
    · obtain rfl := List.eq_nil_of_length_eq_zero h0
      refine (Tryz.strings_Join_none (some ⟨b, off, none⟩) c sep w).mono ?_
      rintro e w' ⟨rfl, rfl⟩
      exact ⟨rfl, Below.refl _ _⟩
    · have hcl : ∀ (j : Nat) x, X[j]? = some x → w.cell? ⟨b, off + j, none⟩ = some (.string x) := fun j x hx => by
        have := hcell j x hx 0 _ rfl
        rwa [Nat.mul_one, Nat.add_zero] at this
      have hb : b < w.heap.size := World.block_lt_of_cell? w _ (hcl 0 X[0] (List.getElem?_eq_getElem (by omega)))
      refine (Tryz.strings_Join b off c X sep w hcl hb (by omega) hc ?_).mono ?_
      · have h1 := join_len_le (X.map (·.data.toList)) sep.data.toList (by rw [Array.length_toList]; exact hs) M (fun x hx => by
          obtain ⟨y, hy, rfl⟩ := List.mem_map.1 hx
          rw [Array.length_toList]; exact h y hy)
        rw [List.length_map] at h1
        have h2 : X.length * M ≤ 1000000 * 10000000 := Nat.mul_le_mul hX hM
        omega
      · rintro e w' ⟨rfl, hb⟩
        exact ⟨rfl, hb⟩
def listB (P : List Int) : ByteArray := if P.length = 0 then ⟨#[45]⟩ else joinT (P.map itoaB) ⟨#[44]⟩
theorem itoaB_size (z : Int) (h : -9223372036854775808 ≤ z ∧ z ≤ 9223372036854775807) : (itoaB z).size ≤ 21 := by
  show (Lib.itoa z).toArray.size ≤ 21
  rw [List.size_toArray]
  exact Lib.itoa_length_le z h.1 h.2
theorem itoas_snoc (P : List Int) (k : Nat) (z : Int) (h : P[k]? = some z) : (P.take (k + 1)).map itoaB = (P.take k).map itoaB ++ [itoaB z] := by
  rw [List.take_add_one, h]; simp
set_option maxRecDepth 100000 in
set_option maxHeartbeats 1600000 in
theorem list_any (P : List Int) (v : Value) (w : World) (hP : NumsIs w v P) (hl : P.length ≤ 100000) (ht : TabO w) :
    Calls Tryz.prog 69 #[v] w fun e w' => e = .returned (.string (listB P)) ∧ Below w.heap.size w w' := by
  obtain ⟨a1, c1, rfl⟩ := hP.2.form
  have HP := Lib.hid hP
  have HT := Lib.hid ht
  have HL := Lib.hid hl
  have hll : P.length ≤ 9223372036854775807 := hP.2.len
  obtain ⟨B, hB⟩ : ∃ B, w.heap.size = B := ⟨_, rfl⟩
  have HB := Lib.hid hB
  have HO0 := Lib.hid (show w.ownsRow B 9 1 (.slice none 0 0) ([] : List ByteArray).length (strsC []) from own_nil _ _ _ _)
  clear hP hl ht hB
  go_enter Tryz.func69, Tryz.ntmps69
  go_wp2
  go_loopg [3, 8] P.length (fun g v3 v8 wq => ∃ k : Nat, Hid (g + k = P.length) ∧ v8 = .int .i64 (k : Int) ∧ Hid (wq.ownsRow B 9 1 v3 ((P.take k).map itoaB).length (strsC ((P.take k).map itoaB))) ∧ Hid (Below B w wq))
  case atStart => exact ⟨0, rfl, rfl, HO0.out, Below.refl _ _⟩
  case round =>
    obtain ⟨k, hk, rfl, ho, hb⟩ := hrel
    have HK := Lib.hid hk.out
    have HO := Lib.hid ho.out
    have HBq := Lib.hid hb.out
    clear hk ho hb HO0
    have HZq := Lib.hid (show B ≤ wr.heap.size by have := HBq.out.size; rw [HB.out] at this; exact this)
    have HBw := Lib.hid (show Below w.heap.size w wr by rw [HB.out]; exact HBq.out)
    cases gk with
    | zero =>
      have hlt : ¬ ((k : Int) < ((P.length : Nat) : Int)) := by have := HK.out; omega
      have hs := own_strs HO.out
      rw [List.take_of_length_le (by have := HK.out; omega)] at hs
      obtain ⟨a3, c3, hv3⟩ := hs.form
      rw [List.length_map] at hv3
      have HC := Lib.hid (join_any (P.map itoaB) ⟨#[44]⟩ rfl 21 (by omega) (by rw [List.length_map]; have := HL.out; omega) (fun x hx => by
        obtain ⟨z, hz, rfl⟩ := List.mem_map.1 hx
        exact itoaB_size z (HP.out.1 z hz)) u3 wr hs)
      subst hv3
      clear hs HO
      by_cases h : P.length = 0
      · have HS := Lib.hid (show listB P = ⟨#[45]⟩ by unfold listB; rw [if_pos h])
        have hq : ((P.length : Nat) : Int) = 0 := by omega
        clear h
        go_wp2
        go_ret
        exact ⟨by rw [HS.out]; rfl, HBw.out⟩
      · have HS := Lib.hid (show listB P = joinT (P.map itoaB) ⟨#[44]⟩ by unfold listB; rw [if_neg h])
        have hq : ¬ ((P.length : Nat) : Int) = 0 := by omega
        clear h
        go_wp2_with fail
        with_reducible refine HC.out.mono ?_
        rintro e w3 ⟨rfl, hb⟩
        dsimp only
        have HB3 := Lib.hid (HBw.out.trans (hb.mono HBw.out.size))
        clear hb hq
        go_wp2
        go_ret
        exact ⟨by rw [HS.out]; rfl, HB3.out⟩
    | succ g =>
      have hkl : k < P.length := by have := HK.out; omega
      have hlt : ((k : Int) < ((P.length : Nat) : Int)) := by omega
      obtain ⟨x, hx⟩ : ∃ x, P[k]? = some x := ⟨_, List.getElem?_eq_getElem hkl⟩
      have hPq := HP.out.below HBw.out
      have HXb := Lib.hid (HP.out.1 x (List.mem_of_getElem? hx))
      obtain ⟨b1, off1, rfl, hl1, hr1⟩ := hPq.2.at hx
      have hcx : wr.cell? ⟨b1, off1 + k, none⟩ = some (.int .i64 x) := by have := hr1 0 _ rfl; rwa [Nat.mul_one, Nat.add_zero] at this
      have HC := Lib.hid (itoa_any x HXb.out wr (HT.out.below HBw.out))
      obtain ⟨X, hX⟩ : ∃ X, (P.take k).map itoaB = X := ⟨_, rfl⟩
      obtain ⟨Z, hZ⟩ : ∃ Z, X ++ [itoaB x] = Z := ⟨_, rfl⟩
      have HZs := Lib.hid (show (P.take (k + 1)).map itoaB = Z by rw [itoas_snoc P k x hx, hX, hZ])
      have HXl := Lib.hid (show X.length ≤ 100000 by rw [← hX, List.length_map, List.length_take]; have := HL.out; omega)
      have HZ := Lib.hid hZ
      rw [hX] at HO
      clear hPq hl1 hr1 hx hX hZ
      go_wp2_with fail
      with_reducible refine HC.out.mono ?_
      rintro e w3 ⟨rfl, hb⟩
      dsimp only
      have HO3 := Lib.hid (own_below HO.out hb)
      have HB3 := Lib.hid (HBq.out.trans (hb.mono HZq.out))
      have HZ3 := Lib.hid (Nat.le_trans HZq.out hb.size)
      clear hb HC HBq HO HBw hcx
      iterate 4 (first | go_values | go_skip | go_guarded | go_step | go_upon)
      have HY4 := Lib.hid (strs_one w3 (itoaB x))
      have hb4 := (Below.refl w3.heap.size w3).alloc (Nat.le_refl _) (.cells #[.string (itoaB x)] 9)
      have HO4 := Lib.hid (own_below HO3.out hb4)
      have HB4 := Lib.hid (HB3.out.trans (hb4.mono HZ3.out))
      have HZ4 := Lib.hid (Nat.le_trans HZ3.out hb4.size)
      clear hb4 HO3 HB3 HZ3
      generalize World.alloc _ _ = w4 at *
      refine appStr B rfl (.tmp 12) (.tmp 15) 65 9 rfl Tryz.underlying65 info_str _ _ X [itoaB x] Z HZ.out rfl rfl HO4.out HY4.out HZ4.out (by have := HXl.out; simp only [List.length_cons, List.length_nil]; omega) ?_
      intro v5 w5 ho5 hb5
      have HO5 := Lib.hid ho5.out
      have HB5 := Lib.hid (hb5.out B w HB4.out (Nat.le_refl _))
      clear ho5 hb5 HO4 HB4 HY4
      go_wp2
      go_roundg g
      case measure => omega
      case rel => exact ⟨k + 1, by show _ = _; have := HK.out; omega, by go_num, by show World.ownsRow _ _ _ _ _ _ _; rw [HZs.out]; exact HO5.out, HB5.out⟩
theorem ba_ext {a b : ByteArray} (h : a.data.toList = b.data.toList) : a = b := by
  obtain ⟨⟨a⟩⟩ := a
  obtain ⟨⟨b⟩⟩ := b
  cases h
  rfl
theorem ba_app (a b : ByteArray) : (a ++ b).data.toList = a.data.toList ++ b.data.toList := by simp
theorem joinT_data (X : List ByteArray) (sep : ByteArray) : (joinT X sep).data.toList = Lib.join (X.map (·.data.toList)) sep.data.toList := rfl
theorem joinT_size (X : List ByteArray) (sep : ByteArray) (hs : sep.size = 1) (M : Nat) (h : ∀ x ∈ X, x.size ≤ M) : (joinT X sep).size ≤ X.length * M + X.length := by
  have h1 := join_len_le (X.map (·.data.toList)) sep.data.toList (by rw [Array.length_toList]; exact hs) M (fun x hx => by
    obtain ⟨y, hy, rfl⟩ := List.mem_map.1 hx
    rw [Array.length_toList]; exact h y hy)
  rw [List.length_map] at h1
  exact h1
theorem joinTail_snoc (sep : List UInt8) (r : List (List UInt8)) (y : List UInt8) : Lib.joinTail sep (r ++ [y]) = Lib.joinTail sep r ++ (sep ++ y) := by simp [Lib.joinTail]
theorem joinT_first (X : List ByteArray) (sep y : ByteArray) (h : X.length = 0) : joinT (X ++ [y]) sep = joinT X sep ++ y := by
  obtain rfl := List.eq_nil_of_length_eq_zero h
  refine ba_ext ?_
  rw [ba_app, joinT_data, joinT_data]
  show Lib.join [_] _ = Lib.join [] _ ++ _
  rw [Lib.join_one, Lib.join_nil]; rfl
theorem joinT_more (X : List ByteArray) (sep y : ByteArray) (h : X.length ≠ 0) : joinT (X ++ [y]) sep = joinT X sep ++ sep ++ y := by
  refine ba_ext ?_
  rw [ba_app, ba_app, joinT_data, joinT_data, List.map_append]
  cases X with
  | nil => exact absurd rfl h
  | cons x r =>
    rw [List.map_cons, List.cons_append, Lib.join_cons, Lib.join_cons]
    show _ ++ Lib.joinTail _ (_ ++ [y.data.toList]) = _
    rw [joinTail_snoc]
    simp only [List.append_assoc]
set_option maxRecDepth 100000 in
set_option maxHeartbeats 1600000 in
theorem parents_any (P : List Int) (v : Value) (w : World) (hP : NumsIs w v P) (hl : P.length ≤ 100000) (ht : TabO w) :
    Calls Tryz.prog 36 #[v] w fun e w' => e = .returned (.string (listB P)) ∧ Below w.heap.size w w' := by
  obtain ⟨a1, c1, rfl⟩ := hP.2.form
  have HP := Lib.hid hP
  have HT := Lib.hid ht
  have HL := Lib.hid hl
  have hll : P.length ≤ 9223372036854775807 := hP.2.len
  clear hP hl ht
  by_cases h : P.length = 0
  · have HS := Lib.hid (show listB P = ⟨#[45]⟩ by unfold listB; rw [if_pos h])
    have hq : ((P.length : Nat) : Int) = 0 := by omega
    clear h
    go_enter Tryz.func36, Tryz.ntmps36
    go_wp2
    go_ret
    exact ⟨by rw [HS.out]; rfl, Below.refl _ _⟩
  have HS := Lib.hid (show listB P = joinT (P.map itoaB) ⟨#[44]⟩ by unfold listB; rw [if_neg h])
  have hq : ¬ ((P.length : Nat) : Int) = 0 := by omega
  have HH := Lib.hid h
  clear h
  go_enter Tryz.func36, Tryz.ntmps36
  go_upto_region 5 with fail
  obtain ⟨b7, hb7⟩ : ∃ b7 : Bool, (((P.length : Nat) : Int) == 0) = b7 := ⟨_, rfl⟩
  rw [hb7]
  clear hq hb7
  go_loopg [3, 4] P.length (fun g v3 v4 wq => ∃ k : Nat, Hid (g + k = P.length) ∧ v4 = .int .i64 (k : Int) ∧ v3 = .string (joinT ((P.take k).map itoaB) ⟨#[44]⟩) ∧ Hid (Below w.heap.size w wq))
  case atStart => exact ⟨0, rfl, rfl, rfl, Below.refl _ _⟩
  case round =>
    obtain ⟨k, hk, rfl, rfl, hb⟩ := hrel
    have HK := Lib.hid hk.out
    have HBq := Lib.hid hb.out
    clear hk hb
    obtain ⟨S, hS⟩ : ∃ S, joinT ((P.take k).map itoaB) ⟨#[44]⟩ = S := ⟨_, rfl⟩
    rw [hS]
    have HSk := Lib.hid hS
    clear hS
    cases gk with
    | zero =>
      have hlt : ¬ ((k : Int) < ((P.length : Nat) : Int)) := by have := HK.out; omega
      have HF := Lib.hid (show listB P = S by rw [HS.out, ← HSk.out, List.take_of_length_le (by have := HK.out; omega)])
      go_wp2
      go_ret
      exact ⟨by rw [HF.out]; rfl, HBq.out⟩
    | succ g =>
      have hkl : k < P.length := by have := HK.out; omega
      have hlt : ((k : Int) < ((P.length : Nat) : Int)) := by omega
      obtain ⟨x, hx⟩ : ∃ x, P[k]? = some x := ⟨_, List.getElem?_eq_getElem hkl⟩
      have hPq := HP.out.below HBq.out
      have HXb := Lib.hid (HP.out.1 x (List.mem_of_getElem? hx))
      obtain ⟨b1, off1, rfl, hl1, hr1⟩ := hPq.2.at hx
      have hcx : wr.cell? ⟨b1, off1 + k, none⟩ = some (.int .i64 x) := by have := hr1 0 _ rfl; rwa [Nat.mul_one, Nat.add_zero] at this
      have HC := Lib.hid (itoa_any x HXb.out wr (HT.out.below HBq.out))
      have hs1 : (itoaB x).size ≤ 21 := itoaB_size x HXb.out
      have hs2 : S.size ≤ 2300000 := by
        have h1 := joinT_size ((P.take k).map itoaB) ⟨#[44]⟩ rfl 21 (fun y hy => by
          obtain ⟨z, hz, rfl⟩ := List.mem_map.1 hy
          exact itoaB_size z (HP.out.1 z (List.mem_of_mem_take hz)))
        rw [HSk.out, List.length_map, List.length_take] at h1
        have := HL.out
        omega
      by_cases h0 : k = 0
      · have hgt : ¬ ((k : Int) > 0) := by omega
        have HF := Lib.hid (show S ++ itoaB x = joinT ((P.take (k + 1)).map itoaB) ⟨#[44]⟩ by
          rw [itoas_snoc P k x hx, joinT_first _ _ _ (by rw [h0]; rfl), HSk.out])
        clear hPq hl1 hr1 hx h0
        go_wp2_with fail
        with_reducible refine HC.out.mono ?_
        rintro e w3 ⟨rfl, hb⟩
        dsimp only
        have HB3 := Lib.hid (HBq.out.trans (hb.mono HBq.out.size))
        clear hb HC HBq hcx
        go_wp2
        go_roundg g
        case measure => omega
        case rel => exact ⟨k + 1, by show _ = _; have := HK.out; omega, by go_num, by rw [← HF.out], HB3.out⟩
      · have hgt : ((k : Int) > 0) := by omega
        have HF := Lib.hid (show S ++ ⟨#[44]⟩ ++ itoaB x = joinT ((P.take (k + 1)).map itoaB) ⟨#[44]⟩ by
          rw [itoas_snoc P k x hx, joinT_more _ _ _ (by rw [List.length_map, List.length_take]; omega), HSk.out])
        clear hPq hl1 hr1 hx h0
        go_wp2_with fail
        with_reducible refine HC.out.mono ?_
        rintro e w3 ⟨rfl, hb⟩
        dsimp only
        have HB3 := Lib.hid (HBq.out.trans (hb.mono HBq.out.size))
        clear hb HC HBq hcx
        go_wp2
        go_roundg g
        case measure => omega
        case rel => exact ⟨k + 1, by show _ = _; have := HK.out; omega, by go_num, by rw [← HF.out], HB3.out⟩
end Go.Proofs.YtnohfondkcbdnaaGreatDoor
