/- plexusref01.Num and Blob; append of bytes in a drawn region; two operations that may come in either order. -/
import Derived.Test.YtnohfondkcbdnaaGreatDoorG09
namespace Go.Proofs.YtnohfondkcbdnaaGreatDoor
open Go.RowKit Go.Lib
set_option linter.unusedVariables false
set_option linter.unusedSimpArgs false
attribute [local go_sem ↓] Go.wp_at_zero Go.wp_at_succ

theorem num2r (n : Nat) (hn : n ≤ 18446744073709551615) (w : World) :
    Calls Tryz.prog 59 #[.int .u64 (n : Int), .int .i64 2] w fun e w' => ∃ v', e = .returned v' ∧ w'.ownsRow w.heap.size 5 1 v' ((le8 n).take 2).length (bys ((le8 n).take 2)) ∧ Below w.heap.size w w' := num_any 2 n (.inl rfl) hn w
theorem num4r (n : Nat) (hn : n ≤ 18446744073709551615) (w : World) :
    Calls Tryz.prog 59 #[.int .u64 (n : Int), .int .i64 4] w fun e w' => ∃ v', e = .returned v' ∧ w'.ownsRow w.heap.size 5 1 v' ((le8 n).take 4).length (bys ((le8 n).take 4)) ∧ Below w.heap.size w w' := num4s 4 n rfl hn w
theorem num8r (n : Nat) (hn : n ≤ 18446744073709551615) (w : World) :
    Calls Tryz.prog 59 #[.int .u64 (n : Int), .int .i64 8] w fun e w' => ∃ v', e = .returned v' ∧ w'.ownsRow w.heap.size 5 1 v' (le8 n).length (bys (le8 n)) ∧ Below w.heap.size w w' := num_any 8 n (.inr rfl) hn w
theorem le8_b (n : Nat) (m : Nat) : ∀ x ∈ (le8 n).take m, x < 256 := fun x hx => le8_lt _ x (List.mem_of_mem_take hx)
theorem rangeAt.byts {w : World} {b off : Nat} {H : List Nat} (h : w.rangeAt b off (bys H)) (hH : IsH H) : Byts w (.slice (some ⟨b, off, none⟩) 32 32) H := by
  refine ⟨hH.2, .inr ⟨⟨b, off, none⟩, 32, by rw [hH.1], by rw [hH.1]; exact Nat.le_refl _, by unfold maxLen; omega, fun j hj => ?_⟩⟩
  rw [show (⟨b, off, none⟩ : Addr).add j = ⟨b, off + j, none⟩ by unfold Addr.add; split <;> simp_all]
  have hj2 : j < H.length := hj
  rw [h j (.int .u8 (H[j] : Nat)) (by simp [bys, List.getElem?_eq_getElem hj2])]
  simp [List.getD, hj2]
theorem byts_grown {w w' : World} {u : Value} {L : List Nat} {r : Option Nat} (h : Byts w u L) (hg : w.grownBy w' r) (hne : ∀ ad n c, u = .slice (some ad) n c → some ad.block ≠ r) : Byts w' u L := by
  refine ⟨h.1, ?_⟩
  rcases h.2 with h2 | ⟨ad, c, h1, h2, h3, h4⟩
  · exact .inl h2
  · refine .inr ⟨ad, c, h1, h2, h3, fun j hj => ?_⟩
    have hc := h4 j hj
    have hl := World.block_lt_of_cell? w _ hc
    rw [addr_block] at hl
    rw [← hc]
    exact World.cell?_of_block (w := w) (by rw [addr_block]; exact hg.block ad.block hl (hne _ _ _ h1))
theorem wp_appBq {P : Program} {o : Oper} {a : Act} {K : Act → World → Prop} {Q : Exit → Act → World → Prop} {W : World} (base : Nat) (s x : Operand) (t e : TypeId)
    (ho : o.op = .call { callee := .builtin .append, args := #[s, x], argTypes := #[t, t] })
    (ht : P.underlying t = some (.slice e)) (hinfo : (P.info? e).map (fun i => (i.zero, i.size, i.bytes)) = some (some (.int .u8 0), 1, 1))
    (v y : Value) (X L Z : List Nat) (hZ : X ++ L = Z) (hs : a.eval s = v) (hx : a.eval x = y) (h0 : L ≠ [])
    (HO : W.ownsRow base e 1 v X.length (bys X)) (HY : Byts W y L) (hbase : base ≤ W.heap.size) (hl : X.length + L.length ≤ 140737488355328)
    (h : ∀ v1 w1, Hid (w1.ownsRow base e 1 v1 Z.length (bys Z)) → Hid (∀ B w0, Below B w0 W → B ≤ base → Below B w0 w1) → Hid (W.grownBy w1 v.ownBlock) → Hid (v1.ownBlock = v.ownBlock ∨ v1.ownBlock = some W.heap.size) → K (a.put o.dst v1) w1) :
    o.wp P a W K Q := by
  subst hZ
  obtain ⟨i0, hi, hzz⟩ := Option.map_eq_some_iff.1 hinfo
  simp only [Prod.mk.injEq] at hzz
  obtain ⟨hz0, hz1, hz2⟩ := hzz
  rcases HY.2 with ⟨rfl, h1⟩ | ⟨ad, c, rfl, _, _, hcell⟩
  · exact absurd h1 h0
  · obtain ⟨v', w', hr, h2, h3, h4, h5⟩ := run_append_own_at (P := P) W base t o.type e i0 (.int .u8 0) 1 1 ht hi hz0 hz1 hz2 rfl (by omega) v X.length (bys X) HO ad L.length c (bys L) (by rw [bys_len, Nat.mul_one])
      (fun j u hu => by
        have hj : j < L.length := by have := (List.getElem?_eq_some_iff.1 hu).1; rw [bys_len] at this; exact this
        rw [bys_get L j hj] at hu
        rw [hcell j hj, ← hu]) (bys_one L) (by unfold maxLen; omega) (by omega) hbase
    unfold Oper.wp execOp
    simp only [ho, resolve, invoke, builtin, Sem.run_bind, Sem.run_pure, Result.andThen_ok, List.map_toArray, List.map_cons, List.map_nil, hs, hx, hr]
    exact h v' w' (by show World.ownsRow _ _ _ _ _ _ _; rw [bys_app]; simpa using h2) (fun B w0 hB hbb => hB.grown h3 (by omega) (fun k hk => Nat.le_trans hbb (HO.lt k hk).1)) h3 h5
section
variable {P : Program} {ops : Array Oper} {Q : Exit → Act → World → Prop} {md : Region.Mode} {S : World → Prop}
theorem wpAnyH_two {i k : Nat} {oi ok : Oper} {fuel : Nat} {listed : Array Bool} {a : Act} {w : World} (hr : Region.ready md ops listed = [i, k]) (hi : ops[i]? = some oi) (hk : ops[k]? = some ok) (hg : Region.wanted oi (yielded ops a.tmps) = true) (hg2 : Region.wanted ok (yielded ops a.tmps) = true)
    (h : ∀ K : Act → World → Prop, (∀ a' w', S w' → wpAnyH P md ops Q S fuel (listed.setIfInBounds i true) a' w' → K a' w') → oi.wp P a w K Q)
    (h2 : ∀ K : Act → World → Prop, (∀ a' w', S w' → wpAnyH P md ops Q S fuel (listed.setIfInBounds k true) a' w' → K a' w') → ok.wp P a w K Q) : wpAnyH P md ops Q S (fuel + 1) listed a w := by
  refine wpAnyH_all hr (by simp) (fun j hj => ?_)
  rcases List.mem_cons.1 hj with rfl | hj
  · unfold wpOp
    simp only [hi]
    rw [if_pos hg]
    exact .inl (h _ (fun a' w' h1 h2 => ⟨h1, h2⟩))
  · obtain rfl : j = k := by simpa using hj
    unfold wpOp
    simp only [hk]
    rw [if_pos hg2]
    exact .inl (h2 _ (fun a' w' h1 h2 => ⟨h1, h2⟩))
end
set_option maxRecDepth 100000 in
set_option maxHeartbeats 1600000 in
theorem rblob_any (a : Option Addr) (c : Nat) (M : List Nat) (w : World) (hy : Byts w (.slice a M.length c) M) (hm : M.length ≤ 1000000) :
    Calls Tryz.prog 60 #[.slice a M.length c] w fun e w' => ∃ v', e = .returned v' ∧ w'.ownsRow w.heap.size 5 1 v' ((le8 M.length).take 4 ++ M).length (bys ((le8 M.length).take 4 ++ M)) ∧ Below w.heap.size w w' := by
  have HY := Lib.hid hy
  have HM := Lib.hid hm
  have hw : IntKind.u64.wrap (M.length : Int) = (M.length : Int) := by rw [IntKind.wrap_u64]; omega
  have HN := Lib.hid (num4r M.length (by omega) w)
  obtain ⟨B, hB⟩ : ∃ B, w.heap.size = B := ⟨_, rfl⟩
  obtain ⟨X, hX⟩ : ∃ X, (le8 M.length).take 4 = X := ⟨_, rfl⟩
  rw [hX, hB] at HN
  rw [hX, hB]
  have HX := Lib.hid (show X.length = 4 by rw [← hX]; rfl)
  obtain ⟨Z, hZ⟩ : ∃ Z, X ++ M = Z := ⟨_, rfl⟩
  rw [hZ]
  have HZ := Lib.hid hZ
  clear hZ
  have HB := Lib.hid hB
  clear hy hm hB hX
  go_enter Tryz.func60, Tryz.ntmps60
  go_wp2_with fail
  refine HN.out.mono ?_
  rintro e w2 ⟨v2, rfl, ho2, hb2⟩
  dsimp only
  have HO2 := Lib.hid ho2
  have HB2 := Lib.hid hb2
  have HY2 := Lib.hid (HY.out.below (by rw [HB.out]; exact hb2))
  have HZ2 := Lib.hid (show B ≤ w2.heap.size by rw [← HB.out]; exact hb2.size)
  clear ho2 hb2 HN
  go_wp2_with (at_builtin; refine appBq B rfl (.tmp 6) (.tmp 7) 23 5 rfl Tryz.underlying23 infoB v2 (.slice a M.length c) X M Z HZ.out rfl rfl HO2.out HY2.out HZ2.out (by have := HX.out; have := HM.out; omega) ?_)
  intro v4 w4 ho4 hb4 hg4 hat4
  have HO4 := Lib.hid ho4.out
  have HB4 := Lib.hid (hb4.out B w HB2.out (Nat.le_refl _))
  clear ho4 hb4 hg4 hat4 HO2 HB2 HY2
  go_wp2
  go_ret
  exact ⟨v4, rfl, HO4.out, HB4.out⟩
end Go.Proofs.YtnohfondkcbdnaaGreatDoor
