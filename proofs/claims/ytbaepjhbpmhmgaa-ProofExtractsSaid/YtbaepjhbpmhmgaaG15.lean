/- wire.number. -/
import Derived.Test.YtbaepjhbpmhmgaaG14
import Derived.Lib.SliceRun
namespace Go.Proofs.Ytbaepjhbpmhmgaa
open Go.RowKit Go.Lib
set_option linter.unusedVariables false
set_option linter.unusedSimpArgs false
attribute [local go_sem ↓] Go.wp_at_zero Go.wp_at_succ

theorem bys_next_le (L : List Nat) (i n : Nat) (hL : n ≤ L.length) (hn : i < n) (v : Value) : (bys (L.take i) ++ List.replicate (n - i) v)[i]? = some v := by
  have e1 : (bys (L.take i)).length = i := by simp [bys]; omega
  rw [List.getElem?_append_right (by omega), e1, Nat.sub_self, List.getElem?_replicate, if_pos (by omega)]

set_option maxRecDepth 100000 in
set_option maxHeartbeats 1600000 in
theorem wnumber8_any (n : Nat) (w : World) (hn : n ≤ 18446744073709551615) :
    Calls Try.prog 52 #[.int .u64 n, .int .i64 8] w fun e w' => ∃ v', e = .returned v' ∧ Byts w' v' (le8 n) ∧ Low w' v' ∧ (∀ ad n c, v' = .slice (some ad) n c → w.heap.size ≤ ad.block) ∧ Below w.heap.size w w' := by
  have HN := Lib.hid hn
  have hmk : ∀ w, (Instr.makeSlice 34 (.int .i64 8) (.int .i64 8)).run Try.prog w = .ok (.slice (some ⟨w.heap.size, 0, none⟩) 8 8) (w.alloc (.cells #[.int .u8 0, .int .u8 0, .int .u8 0, .int .u8 0, .int .u8 0, .int .u8 0, .int .u8 0, .int .u8 0] 5)) := fun _ => by kernel_rfl
  clear hn
  go_enter Try.func52, Try.ntmps52
  go_upto_region 2 with fail
  have ha : Arr (w.alloc (.cells #[.int .u8 0, .int .u8 0, .int .u8 0, .int .u8 0, .int .u8 0, .int .u8 0, .int .u8 0, .int .u8 0] 5)) w.heap.size 5 (bys ((le8 n).take 0) ++ List.replicate (8 - 0) (.int .u8 0)) := Arr.made w _ _
  have hb : Below w.heap.size w (w.alloc (.cells #[.int .u8 0, .int .u8 0, .int .u8 0, .int .u8 0, .int .u8 0, .int .u8 0, .int .u8 0, .int .u8 0] 5)) := (Below.refl _ _).alloc (Nat.le_refl _) _
  have HA := Lib.hid ha
  have HB := Lib.hid hb
  clear ha hb hmk
  generalize World.alloc _ _ = w1 at *
  go_wp2
  obtain ⟨nz, hnz⟩ : ∃ nz : Int, (n : Int) = nz := ⟨_, rfl⟩
  have HNz := Lib.hid hnz
  have hn0 : 0 ≤ nz := by omega
  have hn1 : nz ≤ 18446744073709551615 := by have := HN.out; omega
  rw [hnz]
  clear hnz
  go_loopg [6, 11] 8 (fun g vi vn wq => ∃ k : Nat, Hid (g + k = 8) ∧ vn = .int .i64 (k : Int) ∧ Hid (Arr wq w.heap.size 5 (bys ((le8 n).take k) ++ List.replicate (8 - k) (.int .u8 0))) ∧ Hid (Below w.heap.size w wq))
  case atStart => exact ⟨0, rfl, rfl, HA.out, HB.out⟩
  case round =>
    obtain ⟨k, hk, rfl, ha, hb⟩ := hrel
    have HK := Lib.hid hk.out
    have HAq := Lib.hid ha.out
    have HBq := Lib.hid hb.out
    clear hk ha hb HA HB
    cases gk with
    | zero =>
      have hlt : ¬ ((k : Int) < 8) := by have := HK.out; omega
      have hA := HAq.out
      rw [show k = 8 by have := HK.out; omega, Nat.sub_self, List.replicate_zero, List.append_nil, show (le8 n).take 8 = le8 n from rfl] at hA
      have HA8 := Lib.hid hA
      clear hA
      go_wp2
      go_ret
      exact ⟨_, rfl, HA8.out.byts (le8_lt n) 8 rfl (by unfold maxLen; omega), HA8.out.low 8 8, fun ad n c e => by cases e; exact Nat.le_refl _, HBq.out⟩
    | succ g =>
      have hk8 : k < 8 := by have := HK.out; omega
      obtain ⟨z, hz⟩ : ∃ z : Int, (k : Int) = z := ⟨_, rfl⟩
      have hcl := (HAq.out.cell k).trans (bys_next (le8 n) k 8 rfl hk8 _)
      have hfr := HAq.out.frozen k
      have hlt : z < 8 := by omega
      have iz : 0 ≤ z := by omega
      have hkz : k = z.toNat := by omega
      rw [hkz] at hcl hfr
      have HZ := Lib.hid hz
      have HKz := Lib.hid hkz
      rw [hz]
      clear hz hkz hk8
      go_wp2
      rw [show nz / 2 ^ (8 * z).toNat % 256 = ((n / 2 ^ (8 * k) % 256 : Nat) : Int) by rw [show (8 * z).toNat = 8 * k by have := HZ.out; omega, ← HNz.out]; simp]
      go_roundg g
      case measure => omega
      case rel =>
        refine ⟨k + 1, by show _ = _; have := HK.out; omega, by have := HZ.out; congr 1; omega, ?_, HBq.out.setCell (Nat.le_refl _) _⟩
        show Arr _ _ _ _
        rw [← HKz.out, ← bys_step (le8 n) k 8 _ (le8_at n k (by have := HK.out; omega)) (by have := HK.out; omega)]
        exact HAq.out.set _ _

set_option maxRecDepth 100000 in
set_option maxHeartbeats 1600000 in
theorem wnumber4_any (n : Nat) (w : World) (hn : n ≤ 18446744073709551615) :
    Calls Try.prog 52 #[.int .u64 n, .int .i64 4] w fun e w' => ∃ v', e = .returned v' ∧ Byts w' v' ((le8 n).take 4) ∧ Low w' v' ∧ (∀ ad n c, v' = .slice (some ad) n c → w.heap.size ≤ ad.block) ∧ Below w.heap.size w w' := by
  have HN := Lib.hid hn
  have hmk : ∀ w, (Instr.makeSlice 34 (.int .i64 4) (.int .i64 4)).run Try.prog w = .ok (.slice (some ⟨w.heap.size, 0, none⟩) 4 4) (w.alloc (.cells #[.int .u8 0, .int .u8 0, .int .u8 0, .int .u8 0] 5)) := fun _ => by kernel_rfl
  clear hn
  go_enter Try.func52, Try.ntmps52
  go_upto_region 2 with fail
  have ha : Arr (w.alloc (.cells #[.int .u8 0, .int .u8 0, .int .u8 0, .int .u8 0] 5)) w.heap.size 5 (bys ((le8 n).take 0) ++ List.replicate (4 - 0) (.int .u8 0)) := Arr.made w _ _
  have hb : Below w.heap.size w (w.alloc (.cells #[.int .u8 0, .int .u8 0, .int .u8 0, .int .u8 0] 5)) := (Below.refl _ _).alloc (Nat.le_refl _) _
  have HA := Lib.hid ha
  have HB := Lib.hid hb
  clear ha hb hmk
  generalize World.alloc _ _ = w1 at *
  go_wp2
  obtain ⟨nz, hnz⟩ : ∃ nz : Int, (n : Int) = nz := ⟨_, rfl⟩
  have HNz := Lib.hid hnz
  have hn0 : 0 ≤ nz := by omega
  have hn1 : nz ≤ 18446744073709551615 := by have := HN.out; omega
  rw [hnz]
  clear hnz
  go_loopg [6, 11] 4 (fun g vi vn wq => ∃ k : Nat, Hid (g + k = 4) ∧ vn = .int .i64 (k : Int) ∧ Hid (Arr wq w.heap.size 5 (bys ((le8 n).take k) ++ List.replicate (4 - k) (.int .u8 0))) ∧ Hid (Below w.heap.size w wq))
  case atStart => exact ⟨0, rfl, rfl, HA.out, HB.out⟩
  case round =>
    obtain ⟨k, hk, rfl, ha, hb⟩ := hrel
    have HK := Lib.hid hk.out
    have HAq := Lib.hid ha.out
    have HBq := Lib.hid hb.out
    clear hk ha hb HA HB
    cases gk with
    | zero =>
      have hlt : ¬ ((k : Int) < 4) := by have := HK.out; omega
      have hA := HAq.out
      rw [show k = 4 by have := HK.out; omega, Nat.sub_self, List.replicate_zero, List.append_nil] at hA
      have HA8 := Lib.hid hA
      clear hA
      go_wp2
      go_ret
      exact ⟨_, rfl, HA8.out.byts (fun x hx => le8_lt n x (List.mem_of_mem_take hx)) 4 rfl (by unfold maxLen; omega), HA8.out.low 4 4, fun ad n c e => by cases e; exact Nat.le_refl _, HBq.out⟩
    | succ g =>
      have hk8 : k < 4 := by have := HK.out; omega
      obtain ⟨z, hz⟩ : ∃ z : Int, (k : Int) = z := ⟨_, rfl⟩
      have hcl := (HAq.out.cell k).trans (bys_next_le (le8 n) k 4 (by simp [le8]) hk8 _)
      have hfr := HAq.out.frozen k
      have hlt : z < 4 := by omega
      have iz : 0 ≤ z := by omega
      have hkz : k = z.toNat := by omega
      rw [hkz] at hcl hfr
      have HZ := Lib.hid hz
      have HKz := Lib.hid hkz
      rw [hz]
      clear hz hkz hk8
      go_wp2
      rw [show nz / 2 ^ (8 * z).toNat % 256 = ((n / 2 ^ (8 * k) % 256 : Nat) : Int) by rw [show (8 * z).toNat = 8 * k by have := HZ.out; omega, ← HNz.out]; simp]
      go_roundg g
      case measure => omega
      case rel =>
        refine ⟨k + 1, by show _ = _; have := HK.out; omega, by have := HZ.out; congr 1; omega, ?_, HBq.out.setCell (Nat.le_refl _) _⟩
        show Arr _ _ _ _
        rw [← HKz.out, ← bys_step (le8 n) k 4 _ (le8_at n k (by have := HK.out; omega)) (by have := HK.out; omega)]
        exact HAq.out.set _ _

set_option maxRecDepth 100000 in
set_option maxHeartbeats 1600000 in
theorem wnumber2_any (n : Nat) (w : World) (hn : n ≤ 18446744073709551615) :
    Calls Try.prog 52 #[.int .u64 n, .int .i64 2] w fun e w' => ∃ v', e = .returned v' ∧ Byts w' v' ((le8 n).take 2) ∧ Low w' v' ∧ (∀ ad n c, v' = .slice (some ad) n c → w.heap.size ≤ ad.block) ∧ Below w.heap.size w w' := by
  have HN := Lib.hid hn
  have hmk : ∀ w, (Instr.makeSlice 34 (.int .i64 2) (.int .i64 2)).run Try.prog w = .ok (.slice (some ⟨w.heap.size, 0, none⟩) 2 2) (w.alloc (.cells #[.int .u8 0, .int .u8 0] 5)) := fun _ => by kernel_rfl
  clear hn
  go_enter Try.func52, Try.ntmps52
  go_upto_region 2 with fail
  have ha : Arr (w.alloc (.cells #[.int .u8 0, .int .u8 0] 5)) w.heap.size 5 (bys ((le8 n).take 0) ++ List.replicate (2 - 0) (.int .u8 0)) := Arr.made w _ _
  have hb : Below w.heap.size w (w.alloc (.cells #[.int .u8 0, .int .u8 0] 5)) := (Below.refl _ _).alloc (Nat.le_refl _) _
  have HA := Lib.hid ha
  have HB := Lib.hid hb
  clear ha hb hmk
  generalize World.alloc _ _ = w1 at *
  go_wp2
  obtain ⟨nz, hnz⟩ : ∃ nz : Int, (n : Int) = nz := ⟨_, rfl⟩
  have HNz := Lib.hid hnz
  have hn0 : 0 ≤ nz := by omega
  have hn1 : nz ≤ 18446744073709551615 := by have := HN.out; omega
  rw [hnz]
  clear hnz
  go_loopg [6, 11] 2 (fun g vi vn wq => ∃ k : Nat, Hid (g + k = 2) ∧ vn = .int .i64 (k : Int) ∧ Hid (Arr wq w.heap.size 5 (bys ((le8 n).take k) ++ List.replicate (2 - k) (.int .u8 0))) ∧ Hid (Below w.heap.size w wq))
  case atStart => exact ⟨0, rfl, rfl, HA.out, HB.out⟩
  case round =>
    obtain ⟨k, hk, rfl, ha, hb⟩ := hrel
    have HK := Lib.hid hk.out
    have HAq := Lib.hid ha.out
    have HBq := Lib.hid hb.out
    clear hk ha hb HA HB
    cases gk with
    | zero =>
      have hlt : ¬ ((k : Int) < 2) := by have := HK.out; omega
      have hA := HAq.out
      rw [show k = 2 by have := HK.out; omega, Nat.sub_self, List.replicate_zero, List.append_nil] at hA
      have HA8 := Lib.hid hA
      clear hA
      go_wp2
      go_ret
      exact ⟨_, rfl, HA8.out.byts (fun x hx => le8_lt n x (List.mem_of_mem_take hx)) 2 rfl (by unfold maxLen; omega), HA8.out.low 2 2, fun ad n c e => by cases e; exact Nat.le_refl _, HBq.out⟩
    | succ g =>
      have hk8 : k < 2 := by have := HK.out; omega
      obtain ⟨z, hz⟩ : ∃ z : Int, (k : Int) = z := ⟨_, rfl⟩
      have hcl := (HAq.out.cell k).trans (bys_next_le (le8 n) k 2 (by simp [le8]) hk8 _)
      have hfr := HAq.out.frozen k
      have hlt : z < 2 := by omega
      have iz : 0 ≤ z := by omega
      have hkz : k = z.toNat := by omega
      rw [hkz] at hcl hfr
      have HZ := Lib.hid hz
      have HKz := Lib.hid hkz
      rw [hz]
      clear hz hkz hk8
      go_wp2
      rw [show nz / 2 ^ (8 * z).toNat % 256 = ((n / 2 ^ (8 * k) % 256 : Nat) : Int) by rw [show (8 * z).toNat = 8 * k by have := HZ.out; omega, ← HNz.out]; simp]
      go_roundg g
      case measure => omega
      case rel =>
        refine ⟨k + 1, by show _ = _; have := HK.out; omega, by have := HZ.out; congr 1; omega, ?_, HBq.out.setCell (Nat.le_refl _) _⟩
        show Arr _ _ _ _
        rw [← HKz.out, ← bys_step (le8 n) k 2 _ (le8_at n k (by have := HK.out; omega)) (by have := HK.out; omega)]
        exact HAq.out.set _ _

end Go.Proofs.Ytbaepjhbpmhmgaa
/- wire.Writer.Number. -/
namespace Go.Proofs.Ytbaepjhbpmhmgaa
open Go.RowKit Go.Lib
set_option linter.unusedVariables false
set_option linter.unusedSimpArgs false
attribute [local go_sem ↓] Go.wp_at_zero Go.wp_at_succ

set_option maxRecDepth 100000 in
set_option maxHeartbeats 1600000 in
theorem wnum8_ok (g n : Nat) (L Z : List Nat) (hZ : L ++ le8 n = Z) (w : World) (hw : WrM w g L false) (hn : n ≤ 18446744073709551615) (hl : L.length + 8 ≤ 140737488355328) :
    Calls Try.prog 31 #[.pointer (some ⟨g, 0, none⟩), .int .u64 n, .int .i64 8] w fun e w' => e = .returned (.pointer (some ⟨g, 0, none⟩)) ∧ WrM w' g Z false ∧ Below g w w' := by
  have HZ := Lib.hid hZ
  have HW := Lib.hid hw
  have HL := Lib.hid hl
  have HN := Lib.hid (show n ≤ 18446744073709551615 by omega)
  clear hZ hw hl hn
  go_enter Try.func31, Try.ntmps31
  go_wp2_with fail
  refine (whole_any 8 w (by omega)).mono ?_
  rintro e w1 ⟨rfl, rfl⟩
  dsimp only
  go_wp2_with fail
  refine (wnumber8_any n w1 HN.out).mono ?_
  rintro e w2 ⟨v2, rfl, hy2, hl2, hq2, hb2⟩
  dsimp only
  have HW2 := Lib.hid (HW.out.below hb2)
  have HY2 := Lib.hid hy2
  have HB2 := Lib.hid (hb2.mono (Nat.le_of_lt HW.out.lt))
  have HQ2 := Lib.hid (show ∀ ad n c, v2 = .slice (some ad) n c → ad.block ≠ g from fun ad n c e => by have := hq2 ad n c e; have := HW.out.lt; omega)
  have HLz := Lib.hid (show L.length + (le8 n).length ≤ 140737488355328 by have := HL.out; simp [le8]; omega)
  clear hy2 hl2 hb2 hq2
  go_wp2_with fail
  refine (put_ok g L (le8 n) Z HZ.out v2 w2 HW2.out HY2.out HQ2.out HLz.out).mono ?_
  rintro e w3 ⟨rfl, hw3, hb3⟩
  dsimp only
  have HW3 := Lib.hid hw3
  have HB3 := Lib.hid (HB2.out.trans hb3)
  clear hw3 hb3
  go_wp2
  go_ret
  exact ⟨rfl, HW3.out, HB3.out⟩

set_option maxRecDepth 100000 in
set_option maxHeartbeats 1600000 in
theorem wnum4_ok (g n : Nat) (L Z : List Nat) (hZ : L ++ (le8 n).take 4 = Z) (w : World) (hw : WrM w g L false) (hn : n ≤ 4294967295) (hl : L.length + 4 ≤ 140737488355328) :
    Calls Try.prog 31 #[.pointer (some ⟨g, 0, none⟩), .int .u64 n, .int .i64 4] w fun e w' => e = .returned (.pointer (some ⟨g, 0, none⟩)) ∧ WrM w' g Z false ∧ Below g w w' := by
  have HZ := Lib.hid hZ
  have HW := Lib.hid hw
  have HL := Lib.hid hl
  have HN := Lib.hid (show n ≤ 18446744073709551615 by omega)
  have hsh : (n : Int) / 4294967296 = 0 := by omega
  clear hZ hw hl hn
  go_enter Try.func31, Try.ntmps31
  go_wp2_with fail
  refine (whole_any 4 w (by omega)).mono ?_
  rintro e w1 ⟨rfl, rfl⟩
  dsimp only
  go_wp2_with fail
  refine (wnumber4_any n w1 HN.out).mono ?_
  rintro e w2 ⟨v2, rfl, hy2, hl2, hq2, hb2⟩
  dsimp only
  have HW2 := Lib.hid (HW.out.below hb2)
  have HY2 := Lib.hid hy2
  have HB2 := Lib.hid (hb2.mono (Nat.le_of_lt HW.out.lt))
  have HQ2 := Lib.hid (show ∀ ad n c, v2 = .slice (some ad) n c → ad.block ≠ g from fun ad n c e => by have := hq2 ad n c e; have := HW.out.lt; omega)
  have HLz := Lib.hid (show L.length + ((le8 n).take 4).length ≤ 140737488355328 by have := HL.out; simp [le8]; omega)
  clear hy2 hl2 hb2 hq2
  go_wp2_with fail
  refine (put_ok g L ((le8 n).take 4) Z HZ.out v2 w2 HW2.out HY2.out HQ2.out HLz.out).mono ?_
  rintro e w3 ⟨rfl, hw3, hb3⟩
  dsimp only
  have HW3 := Lib.hid hw3
  have HB3 := Lib.hid (HB2.out.trans hb3)
  clear hw3 hb3
  go_wp2
  go_ret
  exact ⟨rfl, HW3.out, HB3.out⟩

set_option maxRecDepth 100000 in
set_option maxHeartbeats 1600000 in
theorem wnum2_ok (g n : Nat) (L Z : List Nat) (hZ : L ++ (le8 n).take 2 = Z) (w : World) (hw : WrM w g L false) (hn : n ≤ 65535) (hl : L.length + 2 ≤ 140737488355328) :
    Calls Try.prog 31 #[.pointer (some ⟨g, 0, none⟩), .int .u64 n, .int .i64 2] w fun e w' => e = .returned (.pointer (some ⟨g, 0, none⟩)) ∧ WrM w' g Z false ∧ Below g w w' := by
  have HZ := Lib.hid hZ
  have HW := Lib.hid hw
  have HL := Lib.hid hl
  have HN := Lib.hid (show n ≤ 18446744073709551615 by omega)
  have hsh : (n : Int) / 65536 = 0 := by omega
  clear hZ hw hl hn
  go_enter Try.func31, Try.ntmps31
  go_wp2_with fail
  refine (whole_any 2 w (by omega)).mono ?_
  rintro e w1 ⟨rfl, rfl⟩
  dsimp only
  go_wp2_with fail
  refine (wnumber2_any n w1 HN.out).mono ?_
  rintro e w2 ⟨v2, rfl, hy2, hl2, hq2, hb2⟩
  dsimp only
  have HW2 := Lib.hid (HW.out.below hb2)
  have HY2 := Lib.hid hy2
  have HB2 := Lib.hid (hb2.mono (Nat.le_of_lt HW.out.lt))
  have HQ2 := Lib.hid (show ∀ ad n c, v2 = .slice (some ad) n c → ad.block ≠ g from fun ad n c e => by have := hq2 ad n c e; have := HW.out.lt; omega)
  have HLz := Lib.hid (show L.length + ((le8 n).take 2).length ≤ 140737488355328 by have := HL.out; simp [le8]; omega)
  clear hy2 hl2 hb2 hq2
  go_wp2_with fail
  refine (put_ok g L ((le8 n).take 2) Z HZ.out v2 w2 HW2.out HY2.out HQ2.out HLz.out).mono ?_
  rintro e w3 ⟨rfl, hw3, hb3⟩
  dsimp only
  have HW3 := Lib.hid hw3
  have HB3 := Lib.hid (HB2.out.trans hb3)
  clear hw3 hb3
  go_wp2
  go_ret
  exact ⟨rfl, HW3.out, HB3.out⟩
end Go.Proofs.Ytbaepjhbpmhmgaa
/- wire.Writer.Count. -/
namespace Go.Proofs.Ytbaepjhbpmhmgaa
open Go.RowKit Go.Lib
set_option linter.unusedVariables false
set_option linter.unusedSimpArgs false
attribute [local go_sem ↓] Go.wp_at_zero Go.wp_at_succ

set_option maxRecDepth 100000 in
set_option maxHeartbeats 1600000 in
theorem wcount_ok (g n : Nat) (L Z : List Nat) (hZ : L ++ (le8 n).take 2 = Z) (w : World) (hw : WrM w g L false) (hn : n ≤ 65535) (hl : L.length + 2 ≤ 140737488355328) :
    Calls Try.prog 29 #[.pointer (some ⟨g, 0, none⟩), .int .i64 (n : Int)] w fun e w' => e = .returned (.pointer (some ⟨g, 0, none⟩)) ∧ WrM w' g Z false ∧ Below g w w' := by
  have H := Lib.hid (wnum2_ok g n L Z hZ w hw hn hl)
  have h1 : ¬ ((n : Int) < 0) := by omega
  have h2 : ¬ ((n : Int) > 65535) := by omega
  have h3 : IntKind.u64.wrap (n : Int) = (n : Int) := by rw [IntKind.wrap_u64]; omega
  clear hZ hw hn hl
  go_enter Try.func29, Try.ntmps29
  go_wp2_with fail
  refine H.out.mono ?_
  rintro e w3 ⟨rfl, hw3, hb3⟩
  dsimp only
  have HW3 := Lib.hid hw3
  have HB3 := Lib.hid hb3
  clear hw3 hb3
  go_wp2
  go_ret
  exact ⟨rfl, HW3.out, HB3.out⟩
set_option maxRecDepth 100000 in
set_option maxHeartbeats 1600000 in
theorem wcount_bad (g : Nat) (n : Int) (L : List Nat) (bad : Bool) (w : World) (hw : WrM w g L bad) (hn : n < 0 ∨ 65535 < n) :
    Calls Try.prog 29 #[.pointer (some ⟨g, 0, none⟩), .int .i64 n] w fun e w' => e = .returned (.pointer (some ⟨g, 0, none⟩)) ∧ WrM w' g L true ∧ Below g w w' := by
  have H := Lib.hid (put_bad g L (.slice none 0 0) false bad w hw (by simp))
  clear hw
  go_enter Try.func29, Try.ntmps29
  by_cases h1 : n < 0
  · clear hn
    go_wp2_with fail
    refine H.out.mono ?_
    rintro e w3 ⟨rfl, hw3, hb3⟩
    dsimp only
    have HW3 := Lib.hid hw3
    have HB3 := Lib.hid hb3
    clear hw3 hb3
    go_wp2
    go_ret
    exact ⟨rfl, HW3.out, HB3.out⟩
  · have h2 : n > 65535 := by omega
    clear hn
    go_wp2_with fail
    refine H.out.mono ?_
    rintro e w3 ⟨rfl, hw3, hb3⟩
    dsimp only
    have HW3 := Lib.hid hw3
    have HB3 := Lib.hid hb3
    clear hw3 hb3
    go_wp2
    go_ret
    exact ⟨rfl, HW3.out, HB3.out⟩
end Go.Proofs.Ytbaepjhbpmhmgaa
/- slices.Clone of bytes. -/
namespace Go.Proofs.Ytbaepjhbpmhmgaa
open Go.RowKit Go.Lib
set_option linter.unusedVariables false
set_option linter.unusedSimpArgs false
attribute [local go_sem ↓] Go.wp_at_zero Go.wp_at_succ
theorem own_empty (w : World) (e : TypeId) : (w.alloc (.cells #[] e)).ownsRow w.heap.size e 1 (.slice (some ⟨w.heap.size, 0, none⟩) 0 0) ([] : List Nat).length (bys []) :=
  ⟨by simp [bys], .inr ⟨w.heap.size, 0, #[], rfl, Nat.le_refl _, alloc_top w _, Nat.le_refl _, by unfold maxLen; omega, by simp, by simp [bys]⟩⟩
set_option maxRecDepth 100000 in
set_option maxHeartbeats 1600000 in
theorem clone_any (ad : Addr) (c : Nat) (L : List Nat) (w : World) (hy : Byts w (.slice (some ad) L.length c) L) (hl : L.length ≤ 1000000000) :
    Calls Try.prog 53 #[.slice (some ad) L.length c] w fun e w' => ∃ v', e = .returned v' ∧ Byts w' v' L ∧ Low w' v' ∧ Below w.heap.size w w' := by
  have hq : ∀ w a l c, (binOp .eql 34 (.slice a l c) (.slice none 0 0)).run Try.prog w = .ok (.bool a.isNone) w := fun w a l c => run_eql_slice_nil w _ _ _ _ _ _ _ Try.underlying34
  have HY := Lib.hid hy
  have HL := Lib.hid hl
  clear hy hl
  go_enter Try.func53, Try.ntmps53
  go_upto_region 3 with fail
  go_step
  iterate 3 (first | go_values | go_skip | go_guarded | go_step | go_upon)
  clear hq
  have HO := Lib.hid (own_empty w 5)
  have hb := (Below.refl w.heap.size w).alloc (Nat.le_refl _) (.cells #[] 5)
  have HB1 := Lib.hid hb
  have HY1 := Lib.hid (HY.out.below hb)
  have HG := Lib.hid (show w.heap.size ≤ (w.alloc (.cells #[] 5)).heap.size from hb.size)
  have HLl := Lib.hid (show ([] : List Nat).length + L.length ≤ 140737488355328 by have := HL.out; simp; omega)
  have HX := Lib.hid (show ([] : List Nat) ++ L = L from rfl)
  generalize World.alloc _ _ = w1 at *
  clear hb
  go_wp2_with (at_builtin; refine appB w.heap.size rfl (.tmp 5) (.tmp 6) 34 5 rfl Try.underlying34 infoB _ _ [] L L HX.out rfl rfl HO.out HY1.out HG.out HLl.out ?_)
  intro v4 w4 ho4 hb4 hg4
  have HB4 := Lib.hid (hb4.out w.heap.size w HB1.out (Nat.le_refl _))
  have HBy := Lib.hid (own_byts ho4.out HY.out.1)
  have HLw := Lib.hid (show Low w4 v4 from fun a n k e => (ho4.out.lt a.block (by rw [e]; rfl)).2)
  clear ho4 hb4 hg4
  go_wp2
  go_ret
  exact ⟨_, rfl, HBy.out, HLw.out, HB4.out⟩
end Go.Proofs.Ytbaepjhbpmhmgaa
/- wire.Writer.End of a good writer that has something. -/
namespace Go.Proofs.Ytbaepjhbpmhmgaa
open Go.RowKit Go.Lib
set_option linter.unusedVariables false
set_option linter.unusedSimpArgs false
attribute [local go_sem ↓] Go.wp_at_zero Go.wp_at_succ

set_option maxRecDepth 100000 in
set_option maxHeartbeats 1600000 in
theorem end_ok (g : Nat) (L : List Nat) (w : World) (hw : WrM w g L false) (h0 : L ≠ []) (h256 : ∀ x ∈ L, x < 256) (hl : L.length ≤ 1000000000) :
    Calls Try.prog 32 #[.pointer (some ⟨g, 0, none⟩)] w fun e w' => ∃ v', e = .returned (.tuple #[v', .int .i64 0]) ∧ Byts w' v' L ∧ Low w' v' ∧ Below w.heap.size w w' := by
  obtain ⟨v, ha, ho⟩ := hw
  have hby := own_byts ho h256
  obtain ⟨ad, c, rfl⟩ : ∃ ad c, v = .slice (some ad) L.length c := by
    rcases hby.2 with ⟨_, h⟩ | ⟨ad, c, h, _⟩
    · exact absurd h h0
    · exact ⟨ad, c, h⟩
  have H := Lib.hid (clone_any ad c L w hby hl)
  have hc0 := ha.cell 0
  have hc1 := ha.cell 1
  dsimp only [List.getElem?_cons_zero, List.getElem?_cons_succ] at hc0 hc1
  clear ha ho hby h0 h256 hl
  go_enter Try.func32, Try.ntmps32
  go_wp2_with fail
  refine H.out.mono ?_
  rintro e w3 ⟨v3, rfl, hy3, hl3, hb3⟩
  dsimp only
  have H3 := Lib.hid (And.intro hy3 (And.intro hl3 hb3))
  clear hy3 hl3 hb3 hc0 hc1
  go_wp2
  refine bodyPost_ret (results_tmp2 rfl _ _ _) rfl ?_
  exact ⟨_, rfl, H3.out.1, H3.out.2.1, H3.out.2.2⟩
end Go.Proofs.Ytbaepjhbpmhmgaa
