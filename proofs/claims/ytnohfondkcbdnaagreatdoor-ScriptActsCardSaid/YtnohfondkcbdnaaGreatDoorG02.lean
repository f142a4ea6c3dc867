/- wire.number. -/
import Derived.Test.YtnohfondkcbdnaaGreatDoorG01
import Derived.Lib.SliceRun
import Derived.Maps.AppendAt
namespace Go.Proofs.YtnohfondkcbdnaaGreatDoor
open Go.RowKit Go.Lib
set_option linter.unusedVariables false
set_option linter.unusedSimpArgs false
attribute [local go_sem ↓] Go.wp_at_zero Go.wp_at_succ

theorem bys_next_le (L : List Nat) (i n : Nat) (hL : n ≤ L.length) (hn : i < n) (v : Value) : (bys (L.take i) ++ List.replicate (n - i) v)[i]? = some v := by
  have e1 : (bys (L.take i)).length = i := by simp [bys]; omega
  rw [List.getElem?_append_right (by omega), e1, Nat.sub_self, List.getElem?_replicate, if_pos (by omega)]

set_option maxRecDepth 100000 in
set_option maxHeartbeats 1600000 in
theorem wnumber8_any (n : Nat) (w : World) (hn : n ≤ 18446744073709551615) :
    Calls Tryz.prog 115 #[.int .u64 n, .int .i64 8] w fun e w' => ∃ v', e = .returned v' ∧ Byts w' v' (le8 n) ∧ Low w' v' ∧ (∀ ad n c, v' = .slice (some ad) n c → w.heap.size ≤ ad.block) ∧ Below w.heap.size w w' := by
  have HN := Lib.hid hn
  have hmk : ∀ w, (Instr.makeSlice 23 (.int .i64 8) (.int .i64 8)).run Tryz.prog w = .ok (.slice (some ⟨w.heap.size, 0, none⟩) 8 8) (w.alloc (.cells #[.int .u8 0, .int .u8 0, .int .u8 0, .int .u8 0, .int .u8 0, .int .u8 0, .int .u8 0, .int .u8 0] 5)) := fun _ => by kernel_rfl
  clear hn
  go_enter Tryz.func115, Tryz.ntmps115
  go_upto_region 2 with fail
  have ha : Arr (w.alloc (.cells #[.int .u8 0, .int .u8 0, .int .u8 0, .int .u8 0, .int .u8 0, .int .u8 0, .int .u8 0, .int .u8 0] 5)) w.heap.size 5 (bys ((le8 n).take 0) ++ List.replicate (8 - 0) (.int .u8 0)) := Arr.made w _ _
  have hb : Below w.heap.size w (w.alloc (.cells #[.int .u8 0, .int .u8 0, .int .u8 0, .int .u8 0, .int .u8 0, .int .u8 0, .int .u8 0, .int .u8 0] 5)) := (Below.refl _ _).alloc (Nat.le_refl _) _
  have HA := Lib.hid ha
  have HB := Lib.hid hb
  clear ha hb hmk
  generalize World.alloc _ _ = w1 at *
  go_wp2
  obtain ⟨nz, hnz⟩ : ∃ nz : Int, (n : Int) = nz := ⟨_, rfl⟩
  have HNz := Lib.hid hnz
  have hn0 : 0 ≤ nz := by omega
  have hn1 : nz ≤ 18446744073709551615 := by have := HN.out; omega
  rw [hnz]
  clear hnz
  go_loopg [6, 11] 8 (fun g vi vn wq => ∃ k : Nat, Hid (g + k = 8) ∧ vn = .int .i64 (k : Int) ∧ Hid (Arr wq w.heap.size 5 (bys ((le8 n).take k) ++ List.replicate (8 - k) (.int .u8 0))) ∧ Hid (Below w.heap.size w wq))
  case atStart => exact ⟨0, rfl, rfl, HA.out, HB.out⟩
  case round =>
    obtain ⟨k, hk, rfl, ha, hb⟩ := hrel
    have HK := Lib.hid hk.out
    have HAq := Lib.hid ha.out
    have HBq := Lib.hid hb.out
    clear hk ha hb HA HB
    cases gk with
    | zero =>
      have hlt : ¬ ((k : Int) < 8) := by have := HK.out; omega
      have hA := HAq.out
      rw [show k = 8 by have := HK.out; omega, Nat.sub_self, List.replicate_zero, List.append_nil, show (le8 n).take 8 = le8 n from rfl] at hA
      have HA8 := Lib.hid hA
      clear hA
      go_wp2
      go_ret
      exact ⟨_, rfl, HA8.out.byts (le8_lt n) 8 rfl (by unfold maxLen; omega), HA8.out.low 8 8, fun ad n c e => by cases e; exact Nat.le_refl _, HBq.out⟩
    | succ g =>
      have hk8 : k < 8 := by have := HK.out; omega
      obtain ⟨z, hz⟩ : ∃ z : Int, (k : Int) = z := ⟨_, rfl⟩
      have hcl := (HAq.out.cell k).trans (bys_next (le8 n) k 8 rfl hk8 _)
      have hfr := HAq.out.frozen k
      have hlt : z < 8 := by omega
      have iz : 0 ≤ z := by omega
      have hkz : k = z.toNat := by omega
      rw [hkz] at hcl hfr
      have HZ := Lib.hid hz
      have HKz := Lib.hid hkz
      rw [hz]
      clear hz hkz hk8
      go_wp2
      rw [show nz / 2 ^ (8 * z).toNat % 256 = ((n / 2 ^ (8 * k) % 256 : Nat) : Int) by rw [show (8 * z).toNat = 8 * k by have := HZ.out; omega, ← HNz.out]; simp]
      go_roundg g
      case measure => omega
      case rel =>
        refine ⟨k + 1, by show _ = _; have := HK.out; omega, by have := HZ.out; congr 1; omega, ?_, HBq.out.setCell (Nat.le_refl _) _⟩
        show Arr _ _ _ _
        rw [← HKz.out, ← bys_step (le8 n) k 8 _ (le8_at n k (by have := HK.out; omega)) (by have := HK.out; omega)]
        exact HAq.out.set _ _

set_option maxRecDepth 100000 in
set_option maxHeartbeats 1600000 in
theorem wnumber4_any (n : Nat) (w : World) (hn : n ≤ 18446744073709551615) :
    Calls Tryz.prog 115 #[.int .u64 n, .int .i64 4] w fun e w' => ∃ v', e = .returned v' ∧ Byts w' v' ((le8 n).take 4) ∧ Low w' v' ∧ (∀ ad n c, v' = .slice (some ad) n c → w.heap.size ≤ ad.block) ∧ Below w.heap.size w w' := by
  have HN := Lib.hid hn
  have hmk : ∀ w, (Instr.makeSlice 23 (.int .i64 4) (.int .i64 4)).run Tryz.prog w = .ok (.slice (some ⟨w.heap.size, 0, none⟩) 4 4) (w.alloc (.cells #[.int .u8 0, .int .u8 0, .int .u8 0, .int .u8 0] 5)) := fun _ => by kernel_rfl
  clear hn
  go_enter Tryz.func115, Tryz.ntmps115
  go_upto_region 2 with fail
  have ha : Arr (w.alloc (.cells #[.int .u8 0, .int .u8 0, .int .u8 0, .int .u8 0] 5)) w.heap.size 5 (bys ((le8 n).take 0) ++ List.replicate (4 - 0) (.int .u8 0)) := Arr.made w _ _
  have hb : Below w.heap.size w (w.alloc (.cells #[.int .u8 0, .int .u8 0, .int .u8 0, .int .u8 0] 5)) := (Below.refl _ _).alloc (Nat.le_refl _) _
  have HA := Lib.hid ha
  have HB := Lib.hid hb
  clear ha hb hmk
  generalize World.alloc _ _ = w1 at *
  go_wp2
  obtain ⟨nz, hnz⟩ : ∃ nz : Int, (n : Int) = nz := ⟨_, rfl⟩
  have HNz := Lib.hid hnz
  have hn0 : 0 ≤ nz := by omega
  have hn1 : nz ≤ 18446744073709551615 := by have := HN.out; omega
  rw [hnz]
  clear hnz
  go_loopg [6, 11] 4 (fun g vi vn wq => ∃ k : Nat, Hid (g + k = 4) ∧ vn = .int .i64 (k : Int) ∧ Hid (Arr wq w.heap.size 5 (bys ((le8 n).take k) ++ List.replicate (4 - k) (.int .u8 0))) ∧ Hid (Below w.heap.size w wq))
  case atStart => exact ⟨0, rfl, rfl, HA.out, HB.out⟩
  case round =>
    obtain ⟨k, hk, rfl, ha, hb⟩ := hrel
    have HK := Lib.hid hk.out
    have HAq := Lib.hid ha.out
    have HBq := Lib.hid hb.out
    clear hk ha hb HA HB
    cases gk with
    | zero =>
      have hlt : ¬ ((k : Int) < 4) := by have := HK.out; omega
      have hA := HAq.out
      rw [show k = 4 by have := HK.out; omega, Nat.sub_self, List.replicate_zero, List.append_nil] at hA
      have HA8 := Lib.hid hA
      clear hA
      go_wp2
      go_ret
      exact ⟨_, rfl, HA8.out.byts (fun x hx => le8_lt n x (List.mem_of_mem_take hx)) 4 rfl (by unfold maxLen; omega), HA8.out.low 4 4, fun ad n c e => by cases e; exact Nat.le_refl _, HBq.out⟩
    | succ g =>
      have hk8 : k < 4 := by have := HK.out; omega
      obtain ⟨z, hz⟩ : ∃ z : Int, (k : Int) = z := ⟨_, rfl⟩
      have hcl := (HAq.out.cell k).trans (bys_next_le (le8 n) k 4 (by simp [le8]) hk8 _)
      have hfr := HAq.out.frozen k
      have hlt : z < 4 := by omega
      have iz : 0 ≤ z := by omega
      have hkz : k = z.toNat := by omega
      rw [hkz] at hcl hfr
      have HZ := Lib.hid hz
      have HKz := Lib.hid hkz
      rw [hz]
      clear hz hkz hk8
      go_wp2
      rw [show nz / 2 ^ (8 * z).toNat % 256 = ((n / 2 ^ (8 * k) % 256 : Nat) : Int) by rw [show (8 * z).toNat = 8 * k by have := HZ.out; omega, ← HNz.out]; simp]
      go_roundg g
      case measure => omega
      case rel =>
        refine ⟨k + 1, by show _ = _; have := HK.out; omega, by have := HZ.out; congr 1; omega, ?_, HBq.out.setCell (Nat.le_refl _) _⟩
        show Arr _ _ _ _
        rw [← HKz.out, ← bys_step (le8 n) k 4 _ (le8_at n k (by have := HK.out; omega)) (by have := HK.out; omega)]
        exact HAq.out.set _ _

set_option maxRecDepth 100000 in
set_option maxHeartbeats 1600000 in
theorem wnumber2_any (n : Nat) (w : World) (hn : n ≤ 18446744073709551615) :
    Calls Tryz.prog 115 #[.int .u64 n, .int .i64 2] w fun e w' => ∃ v', e = .returned v' ∧ Byts w' v' ((le8 n).take 2) ∧ Low w' v' ∧ (∀ ad n c, v' = .slice (some ad) n c → w.heap.size ≤ ad.block) ∧ Below w.heap.size w w' := by
  have HN := Lib.hid hn
  have hmk : ∀ w, (Instr.makeSlice 23 (.int .i64 2) (.int .i64 2)).run Tryz.prog w = .ok (.slice (some ⟨w.heap.size, 0, none⟩) 2 2) (w.alloc (.cells #[.int .u8 0, .int .u8 0] 5)) := fun _ => by kernel_rfl
  clear hn
  go_enter Tryz.func115, Tryz.ntmps115
  go_upto_region 2 with fail
  have ha : Arr (w.alloc (.cells #[.int .u8 0, .int .u8 0] 5)) w.heap.size 5 (bys ((le8 n).take 0) ++ List.replicate (2 - 0) (.int .u8 0)) := Arr.made w _ _
  have hb : Below w.heap.size w (w.alloc (.cells #[.int .u8 0, .int .u8 0] 5)) := (Below.refl _ _).alloc (Nat.le_refl _) _
  have HA := Lib.hid ha
  have HB := Lib.hid hb
  clear ha hb hmk
  generalize World.alloc _ _ = w1 at *
  go_wp2
  obtain ⟨nz, hnz⟩ : ∃ nz : Int, (n : Int) = nz := ⟨_, rfl⟩
  have HNz := Lib.hid hnz
  have hn0 : 0 ≤ nz := by omega
  have hn1 : nz ≤ 18446744073709551615 := by have := HN.out; omega
  rw [hnz]
  clear hnz
  go_loopg [6, 11] 2 (fun g vi vn wq => ∃ k : Nat, Hid (g + k = 2) ∧ vn = .int .i64 (k : Int) ∧ Hid (Arr wq w.heap.size 5 (bys ((le8 n).take k) ++ List.replicate (2 - k) (.int .u8 0))) ∧ Hid (Below w.heap.size w wq))
  case atStart => exact ⟨0, rfl, rfl, HA.out, HB.out⟩
  case round =>
    obtain ⟨k, hk, rfl, ha, hb⟩ := hrel
    have HK := Lib.hid hk.out
    have HAq := Lib.hid ha.out
    have HBq := Lib.hid hb.out
    clear hk ha hb HA HB
    cases gk with
    | zero =>
      have hlt : ¬ ((k : Int) < 2) := by have := HK.out; omega
      have hA := HAq.out
      rw [show k = 2 by have := HK.out; omega, Nat.sub_self, List.replicate_zero, List.append_nil] at hA
      have HA8 := Lib.hid hA
      clear hA
      go_wp2
      go_ret
      exact ⟨_, rfl, HA8.out.byts (fun x hx => le8_lt n x (List.mem_of_mem_take hx)) 2 rfl (by unfold maxLen; omega), HA8.out.low 2 2, fun ad n c e => by cases e; exact Nat.le_refl _, HBq.out⟩
    | succ g =>
      have hk8 : k < 2 := by have := HK.out; omega
      obtain ⟨z, hz⟩ : ∃ z : Int, (k : Int) = z := ⟨_, rfl⟩
      have hcl := (HAq.out.cell k).trans (bys_next_le (le8 n) k 2 (by simp [le8]) hk8 _)
      have hfr := HAq.out.frozen k
      have hlt : z < 2 := by omega
      have iz : 0 ≤ z := by omega
      have hkz : k = z.toNat := by omega
      rw [hkz] at hcl hfr
      have HZ := Lib.hid hz
      have HKz := Lib.hid hkz
      rw [hz]
      clear hz hkz hk8
      go_wp2
      rw [show nz / 2 ^ (8 * z).toNat % 256 = ((n / 2 ^ (8 * k) % 256 : Nat) : Int) by rw [show (8 * z).toNat = 8 * k by have := HZ.out; omega, ← HNz.out]; simp]
      go_roundg g
      case measure => omega
      case rel =>
        refine ⟨k + 1, by show _ = _; have := HK.out; omega, by have := HZ.out; congr 1; omega, ?_, HBq.out.setCell (Nat.le_refl _) _⟩
        show Arr _ _ _ _
        rw [← HKz.out, ← bys_step (le8 n) k 2 _ (le8_at n k (by have := HK.out; omega)) (by have := HK.out; omega)]
        exact HAq.out.set _ _

end Go.Proofs.YtnohfondkcbdnaaGreatDoor
/- wire.Writer.Number. -/
namespace Go.Proofs.YtnohfondkcbdnaaGreatDoor
open Go.RowKit Go.Lib
set_option linter.unusedVariables false
set_option linter.unusedSimpArgs false
attribute [local go_sem ↓] Go.wp_at_zero Go.wp_at_succ

set_option maxRecDepth 100000 in
set_option maxHeartbeats 1600000 in
theorem wnum8_ok (g n : Nat) (L Z : List Nat) (hZ : L ++ le8 n = Z) (w : World) (hw : WrM w g L false) (hn : n ≤ 18446744073709551615) (hl : L.length + 8 ≤ 140737488355328) :
    Calls Tryz.prog 106 #[.pointer (some ⟨g, 0, none⟩), .int .u64 n, .int .i64 8] w fun e w' => e = .returned (.pointer (some ⟨g, 0, none⟩)) ∧ WrM w' g Z false ∧ Below g w w' := by
  have HZ := Lib.hid hZ
  have HW := Lib.hid hw
  have HL := Lib.hid hl
  have HN := Lib.hid (show n ≤ 18446744073709551615 by omega)
  clear hZ hw hl hn
  go_enter Tryz.func106, Tryz.ntmps106
  go_wp2_with fail
  refine (whole_any 8 w (by omega)).mono ?_
  rintro e w1 ⟨rfl, rfl⟩
  dsimp only
  go_wp2_with fail
  refine (wnumber8_any n w1 HN.out).mono ?_
  rintro e w2 ⟨v2, rfl, hy2, hl2, hq2, hb2⟩
  dsimp only
  have HW2 := Lib.hid (HW.out.below hb2)
  have HY2 := Lib.hid hy2
  have HB2 := Lib.hid (hb2.mono (Nat.le_of_lt HW.out.lt))
  have HQ2 := Lib.hid (show ∀ ad n c, v2 = .slice (some ad) n c → ad.block ≠ g from fun ad n c e => by have := hq2 ad n c e; have := HW.out.lt; omega)
  have HLz := Lib.hid (show L.length + (le8 n).length ≤ 140737488355328 by have := HL.out; simp [le8]; omega)
  clear hy2 hl2 hb2 hq2
  go_wp2_with fail
  refine (put_ok g L (le8 n) Z HZ.out v2 w2 HW2.out HY2.out HQ2.out HLz.out).mono ?_
  rintro e w3 ⟨rfl, hw3, hb3⟩
  dsimp only
  have HW3 := Lib.hid hw3
  have HB3 := Lib.hid (HB2.out.trans hb3)
  clear hw3 hb3
  go_wp2
  go_ret
  exact ⟨rfl, HW3.out, HB3.out⟩

set_option maxRecDepth 100000 in
set_option maxHeartbeats 1600000 in
theorem wnum4_ok (g n : Nat) (L Z : List Nat) (hZ : L ++ (le8 n).take 4 = Z) (w : World) (hw : WrM w g L false) (hn : n ≤ 4294967295) (hl : L.length + 4 ≤ 140737488355328) :
    Calls Tryz.prog 106 #[.pointer (some ⟨g, 0, none⟩), .int .u64 n, .int .i64 4] w fun e w' => e = .returned (.pointer (some ⟨g, 0, none⟩)) ∧ WrM w' g Z false ∧ Below g w w' := by
  have HZ := Lib.hid hZ
  have HW := Lib.hid hw
  have HL := Lib.hid hl
  have HN := Lib.hid (show n ≤ 18446744073709551615 by omega)
  have hsh : (n : Int) / 4294967296 = 0 := by omega
  clear hZ hw hl hn
  go_enter Tryz.func106, Tryz.ntmps106
  go_wp2_with fail
  refine (whole_any 4 w (by omega)).mono ?_
  rintro e w1 ⟨rfl, rfl⟩
  dsimp only
  go_wp2_with fail
  refine (wnumber4_any n w1 HN.out).mono ?_
  rintro e w2 ⟨v2, rfl, hy2, hl2, hq2, hb2⟩
  dsimp only
  have HW2 := Lib.hid (HW.out.below hb2)
  have HY2 := Lib.hid hy2
  have HB2 := Lib.hid (hb2.mono (Nat.le_of_lt HW.out.lt))
  have HQ2 := Lib.hid (show ∀ ad n c, v2 = .slice (some ad) n c → ad.block ≠ g from fun ad n c e => by have := hq2 ad n c e; have := HW.out.lt; omega)
  have HLz := Lib.hid (show L.length + ((le8 n).take 4).length ≤ 140737488355328 by have := HL.out; simp [le8]; omega)
  clear hy2 hl2 hb2 hq2
  go_wp2_with fail
  refine (put_ok g L ((le8 n).take 4) Z HZ.out v2 w2 HW2.out HY2.out HQ2.out HLz.out).mono ?_
  rintro e w3 ⟨rfl, hw3, hb3⟩
  dsimp only
  have HW3 := Lib.hid hw3
  have HB3 := Lib.hid (HB2.out.trans hb3)
  clear hw3 hb3
  go_wp2
  go_ret
  exact ⟨rfl, HW3.out, HB3.out⟩

set_option maxRecDepth 100000 in
set_option maxHeartbeats 1600000 in
theorem wnum2_ok (g n : Nat) (L Z : List Nat) (hZ : L ++ (le8 n).take 2 = Z) (w : World) (hw : WrM w g L false) (hn : n ≤ 65535) (hl : L.length + 2 ≤ 140737488355328) :
    Calls Tryz.prog 106 #[.pointer (some ⟨g, 0, none⟩), .int .u64 n, .int .i64 2] w fun e w' => e = .returned (.pointer (some ⟨g, 0, none⟩)) ∧ WrM w' g Z false ∧ Below g w w' := by
  have HZ := Lib.hid hZ
  have HW := Lib.hid hw
  have HL := Lib.hid hl
  have HN := Lib.hid (show n ≤ 18446744073709551615 by omega)
  have hsh : (n : Int) / 65536 = 0 := by omega
  clear hZ hw hl hn
  go_enter Tryz.func106, Tryz.ntmps106
  go_wp2_with fail
  refine (whole_any 2 w (by omega)).mono ?_
  rintro e w1 ⟨rfl, rfl⟩
  dsimp only
  go_wp2_with fail
  refine (wnumber2_any n w1 HN.out).mono ?_
  rintro e w2 ⟨v2, rfl, hy2, hl2, hq2, hb2⟩
  dsimp only
  have HW2 := Lib.hid (HW.out.below hb2)
  have HY2 := Lib.hid hy2
  have HB2 := Lib.hid (hb2.mono (Nat.le_of_lt HW.out.lt))
  have HQ2 := Lib.hid (show ∀ ad n c, v2 = .slice (some ad) n c → ad.block ≠ g from fun ad n c e => by have := hq2 ad n c e; have := HW.out.lt; omega)
  have HLz := Lib.hid (show L.length + ((le8 n).take 2).length ≤ 140737488355328 by have := HL.out; simp [le8]; omega)
  clear hy2 hl2 hb2 hq2
  go_wp2_with fail
  refine (put_ok g L ((le8 n).take 2) Z HZ.out v2 w2 HW2.out HY2.out HQ2.out HLz.out).mono ?_
  rintro e w3 ⟨rfl, hw3, hb3⟩
  dsimp only
  have HW3 := Lib.hid hw3
  have HB3 := Lib.hid (HB2.out.trans hb3)
  clear hw3 hb3
  go_wp2
  go_ret
  exact ⟨rfl, HW3.out, HB3.out⟩
end Go.Proofs.YtnohfondkcbdnaaGreatDoor
/- wire.Writer.Count. -/
namespace Go.Proofs.YtnohfondkcbdnaaGreatDoor
open Go.RowKit Go.Lib
set_option linter.unusedVariables false
set_option linter.unusedSimpArgs false
attribute [local go_sem ↓] Go.wp_at_zero Go.wp_at_succ

set_option maxRecDepth 100000 in
set_option maxHeartbeats 1600000 in
theorem wcount_ok (g n : Nat) (L Z : List Nat) (hZ : L ++ (le8 n).take 2 = Z) (w : World) (hw : WrM w g L false) (hn : n ≤ 65535) (hl : L.length + 2 ≤ 140737488355328) :
    Calls Tryz.prog 104 #[.pointer (some ⟨g, 0, none⟩), .int .i64 (n : Int)] w fun e w' => e = .returned (.pointer (some ⟨g, 0, none⟩)) ∧ WrM w' g Z false ∧ Below g w w' := by
  have H := Lib.hid (wnum2_ok g n L Z hZ w hw hn hl)
  have h1 : ¬ ((n : Int) < 0) := by omega
  have h2 : ¬ ((n : Int) > 65535) := by omega
  have h3 : IntKind.u64.wrap (n : Int) = (n : Int) := by rw [IntKind.wrap_u64]; omega
  clear hZ hw hn hl
  go_enter Tryz.func104, Tryz.ntmps104
  go_wp2_with fail
  refine H.out.mono ?_
  rintro e w3 ⟨rfl, hw3, hb3⟩
  dsimp only
  have HW3 := Lib.hid hw3
  have HB3 := Lib.hid hb3
  clear hw3 hb3
  go_wp2
  go_ret
  exact ⟨rfl, HW3.out, HB3.out⟩
set_option maxRecDepth 100000 in
set_option maxHeartbeats 1600000 in
theorem wcount_bad (g : Nat) (n : Int) (L : List Nat) (bad : Bool) (w : World) (hw : WrM w g L bad) (hn : n < 0 ∨ 65535 < n) :
    Calls Tryz.prog 104 #[.pointer (some ⟨g, 0, none⟩), .int .i64 n] w fun e w' => e = .returned (.pointer (some ⟨g, 0, none⟩)) ∧ WrM w' g L true ∧ Below g w w' := by
  have H := Lib.hid (put_bad g L (.slice none 0 0) false bad w hw (by simp))
  clear hw
  go_enter Tryz.func104, Tryz.ntmps104
  by_cases h1 : n < 0
  · clear hn
    go_wp2_with fail
    refine H.out.mono ?_
    rintro e w3 ⟨rfl, hw3, hb3⟩
    dsimp only
    have HW3 := Lib.hid hw3
    have HB3 := Lib.hid hb3
    clear hw3 hb3
    go_wp2
    go_ret
    exact ⟨rfl, HW3.out, HB3.out⟩
  · have h2 : n > 65535 := by omega
    clear hn
    go_wp2_with fail
    refine H.out.mono ?_
    rintro e w3 ⟨rfl, hw3, hb3⟩
    dsimp only
    have HW3 := Lib.hid hw3
    have HB3 := Lib.hid hb3
    clear hw3 hb3
    go_wp2
    go_ret
    exact ⟨rfl, HW3.out, HB3.out⟩
end Go.Proofs.YtnohfondkcbdnaaGreatDoor
/- slices.Clone of bytes. -/
namespace Go.Proofs.YtnohfondkcbdnaaGreatDoor
open Go.RowKit Go.Lib
set_option linter.unusedVariables false
set_option linter.unusedSimpArgs false
attribute [local go_sem ↓] Go.wp_at_zero Go.wp_at_succ
theorem own_empty (w : World) (e : TypeId) : (w.alloc (.cells #[] e)).ownsRow w.heap.size e 1 (.slice (some ⟨w.heap.size, 0, none⟩) 0 0) ([] : List Nat).length (bys []) :=
  ⟨by simp [bys], .inr ⟨w.heap.size, 0, #[], rfl, Nat.le_refl _, alloc_top w _, Nat.le_refl _, by unfold maxLen; omega, by simp, by simp [bys]⟩⟩
set_option maxRecDepth 100000 in
set_option maxHeartbeats 1600000 in
theorem clone_any (ad : Addr) (c : Nat) (L : List Nat) (w : World) (hy : Byts w (.slice (some ad) L.length c) L) (hl : L.length ≤ 1000000000) :
    Calls Tryz.prog 117 #[.slice (some ad) L.length c] w fun e w' => ∃ v', e = .returned v' ∧ Byts w' v' L ∧ Low w' v' ∧ Below w.heap.size w w' := by
  have hq : ∀ w a l c, (binOp .eql 23 (.slice a l c) (.slice none 0 0)).run Tryz.prog w = .ok (.bool a.isNone) w := fun w a l c => run_eql_slice_nil w _ _ _ _ _ _ _ Tryz.underlying23
  have HY := Lib.hid hy
  have HL := Lib.hid hl
  clear hy hl
  go_enter Tryz.func117, Tryz.ntmps117
  go_upto_region 3 with fail
  go_step
  iterate 3 (first | go_values | go_skip | go_guarded | go_step | go_upon)
  clear hq
  have HO := Lib.hid (own_empty w 5)
  have hb := (Below.refl w.heap.size w).alloc (Nat.le_refl _) (.cells #[] 5)
  have HB1 := Lib.hid hb
  have HY1 := Lib.hid (HY.out.below hb)
  have HG := Lib.hid (show w.heap.size ≤ (w.alloc (.cells #[] 5)).heap.size from hb.size)
  have HLl := Lib.hid (show ([] : List Nat).length + L.length ≤ 140737488355328 by have := HL.out; simp; omega)
  have HX := Lib.hid (show ([] : List Nat) ++ L = L from rfl)
  generalize World.alloc _ _ = w1 at *
  clear hb
  go_wp2_with (at_builtin; refine appB w.heap.size rfl (.tmp 5) (.tmp 6) 23 5 rfl Tryz.underlying23 infoB _ _ [] L L HX.out rfl rfl HO.out HY1.out HG.out HLl.out ?_)
  intro v4 w4 ho4 hb4 hg4
  have HB4 := Lib.hid (hb4.out w.heap.size w HB1.out (Nat.le_refl _))
  have HBy := Lib.hid (own_byts ho4.out HY.out.1)
  have HLw := Lib.hid (show Low w4 v4 from fun a n k e => (ho4.out.lt a.block (by rw [e]; rfl)).2)
  clear ho4 hb4 hg4
  go_wp2
  go_ret
  exact ⟨_, rfl, HBy.out, HLw.out, HB4.out⟩
end Go.Proofs.YtnohfondkcbdnaaGreatDoor
/- wire.Writer.End of a good writer that has something. -/
namespace Go.Proofs.YtnohfondkcbdnaaGreatDoor
open Go.RowKit Go.Lib
set_option linter.unusedVariables false
set_option linter.unusedSimpArgs false
attribute [local go_sem ↓] Go.wp_at_zero Go.wp_at_succ

set_option maxRecDepth 100000 in
set_option maxHeartbeats 1600000 in
theorem end_ok (g : Nat) (L : List Nat) (w : World) (hw : WrM w g L false) (h0 : L ≠ []) (h256 : ∀ x ∈ L, x < 256) (hl : L.length ≤ 1000000000) :
    Calls Tryz.prog 108 #[.pointer (some ⟨g, 0, none⟩)] w fun e w' => ∃ v', e = .returned (.tuple #[v', .int .i64 0]) ∧ Byts w' v' L ∧ Low w' v' ∧ Below w.heap.size w w' := by
  obtain ⟨v, ha, ho⟩ := hw
  have hby := own_byts ho h256
  obtain ⟨ad, c, rfl⟩ : ∃ ad c, v = .slice (some ad) L.length c := by
    rcases hby.2 with ⟨_, h⟩ | ⟨ad, c, h, _⟩
    · exact absurd h h0
    · exact ⟨ad, c, h⟩
  have H := Lib.hid (clone_any ad c L w hby hl)
  have hc0 := ha.cell 0
  have hc1 := ha.cell 1
  dsimp only [List.getElem?_cons_zero, List.getElem?_cons_succ] at hc0 hc1
  clear ha ho hby h0 h256 hl
  go_enter Tryz.func108, Tryz.ntmps108
  go_wp2_with fail
  refine H.out.mono ?_
  rintro e w3 ⟨v3, rfl, hy3, hl3, hb3⟩
  dsimp only
  have H3 := Lib.hid (And.intro hy3 (And.intro hl3 hb3))
  clear hy3 hl3 hb3 hc0 hc1
  go_wp2
  refine bodyPost_ret (results_tmp2 rfl _ _ _) rfl ?_
  exact ⟨_, rfl, H3.out.1, H3.out.2.1, H3.out.2.2⟩
end Go.Proofs.YtnohfondkcbdnaaGreatDoor
/- wire.Writer.put, Hash, Number, Bytes, Blob, with one block named that they keep. -/
namespace Go.Proofs.YtnohfondkcbdnaaGreatDoor
open Go.RowKit Go.Lib
set_option linter.unusedVariables false
set_option linter.unusedSimpArgs false
attribute [local go_sem ↓] Go.wp_at_zero Go.wp_at_succ

/-- append of bytes; it says where the new slice lies. -/
theorem appBq {P : Program} {ops : Array Oper} {rest : List Oper} {o : Oper} {a : Act} {Q : Exit → Act → World → Prop} {W : World} (base : Nat) (hgd : o.guard = none) (s x : Operand) (t e : TypeId)
    (ho : o.op = .call { callee := .builtin .append, args := #[s, x], argTypes := #[t, t] })
    (ht : P.underlying t = some (.slice e)) (hinfo : (P.info? e).map (fun i => (i.zero, i.size, i.bytes)) = some (some (.int .u8 0), 1, 1))
    (v y : Value) (X L Z : List Nat) (hZ : X ++ L = Z) (hs : a.eval s = v) (hx : a.eval x = y)
    (HO : W.ownsRow base e 1 v X.length (bys X)) (HY : Byts W y L) (hbase : base ≤ W.heap.size) (hl : X.length + L.length ≤ 140737488355328)
    (h : ∀ v1 w1, Hid (w1.ownsRow base e 1 v1 Z.length (bys Z)) → Hid (∀ B w0, Below B w0 W → B ≤ base → Below B w0 w1) → Hid (W.grownBy w1 v.ownBlock) → Hid (v1.ownBlock = v.ownBlock ∨ v1.ownBlock = some W.heap.size) → wpList P ops Q rest (a.put o.dst v1) w1) :
    wpList P ops Q (o :: rest) a W := by
  subst hZ
  obtain ⟨i0, hi, hzz⟩ := Option.map_eq_some_iff.1 hinfo
  simp only [Prod.mk.injEq] at hzz
  obtain ⟨hz0, hz1, hz2⟩ := hzz
  rcases HY.2 with ⟨rfl, rfl⟩ | ⟨ad, c, rfl, _, _, hcell⟩
  · refine wpList_append_own_none hgd s x t ho base e i0 1 ht hi v X.length (bys X) hs HO hx ?_
    exact h v W (by show World.ownsRow _ _ _ _ _ _ _; simpa using HO) (fun B w0 hB _ => hB) ⟨rfl, rfl, rfl, Nat.le_refl _, fun _ _ _ => rfl⟩ (.inl rfl)
  · refine wpList_append_own_at W hgd s x t ho base e i0 (.int .u8 0) 1 1 ht hi hz0 hz1 hz2 rfl (by omega) v X.length (bys X) hs HO ad L.length c (bys L) hx (by rw [bys_len, Nat.mul_one])
      (fun j u hu => ?_) (bys_one L) (by unfold maxLen; omega) (by omega) hbase ?_
    · have hj : j < L.length := by have := (List.getElem?_eq_some_iff.1 hu).1; rw [bys_len] at this; exact this
      rw [bys_get L j hj] at hu
      rw [hcell j hj, ← hu]
    · intro v1 w1 hown hg _ hat
      refine h v1 w1 (by show World.ownsRow _ _ _ _ _ _ _; rw [bys_app]; simpa using hown) (fun B w0 hB hbb => hB.grown hg (by omega) (fun k hk => Nat.le_trans hbb (HO.lt k hk).1)) hg hat
/-- A writer at block g whose bytes do not lie in block q. -/
def WrQ (w : World) (g q : Nat) (L : List Nat) (bad : Bool) : Prop :=
  q ≠ g ∧ q < w.heap.size ∧ ∃ v, Arr w g 137 [v, .bool bad] ∧ w.ownsRow (g + 1) 5 1 v L.length (bys L) ∧ v.ownBlock ≠ some q
theorem WrQ.lt {w : World} {g q : Nat} {L : List Nat} {bad : Bool} (h : WrQ w g q L bad) : g < w.heap.size := by
  obtain ⟨_, _, v, ha, _⟩ := h
  exact ha.lt
theorem WrQ.below {w w' : World} {g q : Nat} {L : List Nat} {bad : Bool} (h : WrQ w g q L bad) (hb : Below w.heap.size w w') : WrQ w' g q L bad := by
  obtain ⟨h1, h2, v, ha, ho, hq⟩ := h
  exact ⟨h1, Nat.lt_of_lt_of_le h2 hb.size, v, ha.below hb ha.lt, own_below ho hb, hq⟩
theorem WrQ.wr {w : World} {g q : Nat} {L : List Nat} {bad : Bool} (h : WrQ w g q L bad) : WrM w g L bad := by
  obtain ⟨_, _, v, ha, ho, _⟩ := h
  exact ⟨v, ha, ho⟩
/-- A block laid last is none of a writer's own. -/
theorem WrM.at {w w' : World} {g q : Nat} {L : List Nat} {bad : Bool} (h : WrM w g L bad) (hq : w.heap.size ≤ q) (hb : Below w.heap.size w w') (hl : q < w'.heap.size) : WrQ w' g q L bad := by
  obtain ⟨v, ha, ho⟩ := h
  refine ⟨fun e => by have := ha.lt; omega, hl, v, ha.below hb ha.lt, own_below ho hb, fun e => ?_⟩
  have := (ho.lt q e).2
  omega
/-- What such a call leaves. -/
def KeptQ (g q : Nat) (Z : List Nat) (w w' : World) : Prop := WrQ w' g q Z false ∧ Below g w w' ∧ w'.heap[q]? = w.heap[q]?
theorem KeptQ.after {g q : Nat} {Z : List Nat} {w w1 w2 : World} (hb : Below w.heap.size w w1) (hg : g ≤ w.heap.size) (hq : q < w.heap.size) (h : KeptQ g q Z w1 w2) : KeptQ g q Z w w2 :=
  ⟨h.1, (hb.mono hg).trans h.2.1, h.2.2.trans (hb.block q hq)⟩
theorem KeptQ.next {g q : Nat} {Y Z : List Nat} {w w1 w2 : World} (h1 : KeptQ g q Y w w1) (h : KeptQ g q Z w1 w2) : KeptQ g q Z w w2 :=
  ⟨h.1, h1.2.1.trans h.2.1, h.2.2.trans h1.2.2⟩
theorem byts_setCell {w : World} {u : Value} {M : List Nat} {g : Nat} (h : Byts w u M) (hne : M ≠ [] → ∀ ad n c, u = .slice (some ad) n c → ad.block ≠ g) (j : Nat) (v : Value) : Byts (w.setCell ⟨g, j, none⟩ v) u M := by
  by_cases hM : M = []
  · subst hM
    refine ⟨h.1, ?_⟩
    rcases h.2 with h2 | ⟨ad, c, h1, h2, h3, h4⟩
    · exact .inl h2
    · exact .inr ⟨ad, c, h1, h2, h3, fun j hj => absurd hj (Nat.not_lt_zero j)⟩
  · exact h.setCell (hne hM) j v
theorem byts_off {w : World} {a : Option Addr} {n c g : Nat} {M : List Nat} (h : Byts w (.slice a n c) M) (hg : w.heap.size ≤ g) : M ≠ [] → ∀ ad, a = some ad → ad.block ≠ g := by
  intro hM ad e
  subst e
  rcases h.2 with ⟨h2, _⟩ | ⟨ad', c', h1, _, _, h4⟩
  · cases h2
  · cases h1
    have hc := h4 0 (List.length_pos_iff.2 hM)
    have := World.block_lt_of_cell? w _ hc
    have e2 : (ad.add 0).block = ad.block := addr_block ad 0
    omega
set_option maxRecDepth 100000 in
set_option maxHeartbeats 1600000 in
theorem putq_ok (g q : Nat) (L M Z : List Nat) (hZ : L ++ M = Z) (u : Value) (w : World) (hw : WrQ w g q L false) (hy : Byts w u M) (hne : M ≠ [] → ∀ ad n c, u = .slice (some ad) n c → ad.block ≠ g) (hl : L.length + M.length ≤ 140737488355328) :
    Calls Tryz.prog 113 #[.pointer (some ⟨g, 0, none⟩), u, .bool true] w fun e w' => e = .returned (.pointer (some ⟨g, 0, none⟩)) ∧ KeptQ g q Z w w' := by
  obtain ⟨hqg, hql, v, ha, ho, hqv⟩ := hw
  have HQ := Lib.hid (And.intro hqg (And.intro hql hqv))
  have HZ := Lib.hid hZ
  have HA := Lib.hid ha
  have HO := Lib.hid ho
  have HY := Lib.hid hy
  have HL := Lib.hid hl
  have HG := Lib.hid (show g + 1 ≤ w.heap.size from ha.lt)
  clear hZ ho hy hl hqg hql hqv
  have hc0 := ha.cell 0
  have hc1 := ha.cell 1
  dsimp only [List.getElem?_cons_zero, List.getElem?_cons_succ] at hc0 hc1
  have hf1 := ha.frozen 1
  clear ha
  go_enter Tryz.func113, Tryz.ntmps113
  go_upto_region 5 with fail
  have HA2 := Lib.hid (show Arr (w.setCell ⟨g, 1, none⟩ (.bool false)) g 137 [v, .bool false] from HA.out.set 1 _)
  have HO2 := Lib.hid (ownsRow_setCell_below HO.out (a := ⟨g, 1, none⟩) (Nat.lt_succ_self g) (.bool false))
  have HY2 := Lib.hid (byts_setCell HY.out hne 1 (.bool false))
  have HB2 := Lib.hid (show Below g w (w.setCell ⟨g, 1, none⟩ (.bool false)) from (Below.refl g w).setCell (Nat.le_refl _) _)
  have HK2 := Lib.hid (show (w.setCell ⟨g, 1, none⟩ (.bool false)).heap[q]? = w.heap[q]? from heap_setCell_other w ⟨g, 1, none⟩ q _ HQ.out.1)
  generalize World.setCell _ _ _ = w2 at *
  have hb0 := HA2.out.cell 0
  have hb1 := HA2.out.cell 1
  dsimp only [List.getElem?_cons_zero, List.getElem?_cons_succ] at hb0 hb1
  have HG2 := Lib.hid (show g + 1 ≤ w2.heap.size from HA2.out.lt)
  have HQ2 := Lib.hid (show q < w2.heap.size from Nat.lt_of_lt_of_le HQ.out.2.1 HB2.out.size)
  clear hc0 hc1 hf1 hne HA HO HY HG
  go_wp2_with (at_builtin; refine appBq (g + 1) rfl (.tmp 29) (.tmp 30) 23 5 rfl Tryz.underlying23 infoB v u L M Z HZ.out rfl rfl HO2.out HY2.out HG2.out HL.out ?_)
  intro v4 w4 ho4 hb4 hg4 hat4
  obtain ⟨a4, n4, c4, rfl⟩ : ∃ a4 n4 c4, v4 = .slice a4 n4 c4 := by
    rcases ho4.out.2 with ⟨h, _⟩ | ⟨g', cap, cur, h, _⟩
    · exact ⟨_, _, _, h⟩
    · exact ⟨_, _, _, h⟩
  have hbb := hb4.out (g + 1) w2 (Below.refl _ _) (Nat.le_refl _)
  have HA4 := Lib.hid (HA2.out.below hbb (Nat.lt_succ_self g))
  have HO4 := Lib.hid ho4.out
  have HB4 := Lib.hid (hb4.out g w HB2.out (Nat.le_succ g))
  have HK4 := Lib.hid ((hg4.out.block q HQ2.out (fun e => HQ.out.2.2 e.symm)).trans HK2.out)
  have HS4 := Lib.hid (show q < w4.heap.size from Nat.lt_of_lt_of_le HQ2.out hg4.out.size)
  have HV4 := Lib.hid (show (Value.slice a4 n4 c4).ownBlock ≠ some q by
    intro e
    rcases hat4.out with h | h
    · rw [e] at h; exact HQ.out.2.2 h.symm
    · rw [e] at h; have := Option.some.inj h; have := HQ2.out; omega)
  have hd0 := HA4.out.cell 0
  have hd1 := HA4.out.cell 1
  have hdf := HA4.out.frozen 0
  dsimp only [List.getElem?_cons_zero, List.getElem?_cons_succ] at hd0 hd1
  clear hb0 hb1 HA2 HO2 HY2 HB2 HG2 hbb ho4 hb4 hg4 hat4 HK2 HQ2
  go_wp2
  go_ret
  refine ⟨rfl, ⟨HQ.out.1, Nat.lt_of_lt_of_le HS4.out ((Below.refl 0 w4).setCell (p := ⟨g, 0, none⟩) (Nat.zero_le _) _).size, _, HA4.out.set 0 _, ownsRow_setCell_below HO4.out (a := ⟨g, 0, none⟩) (Nat.lt_succ_self g) _, HV4.out⟩, HB4.out.setCell (Nat.le_refl _) _, ?_⟩
  rw [heap_setCell_other w4 ⟨g, 0, none⟩ q _ HQ.out.1]
  exact HK4.out
end Go.Proofs.YtnohfondkcbdnaaGreatDoor
/- wire.Writer.Hash, Number, Bytes, Blob, with one block named that they keep. -/
namespace Go.Proofs.YtnohfondkcbdnaaGreatDoor
open Go.RowKit Go.Lib
set_option linter.unusedVariables false
set_option linter.unusedSimpArgs false
attribute [local go_sem ↓] Go.wp_at_zero Go.wp_at_succ

set_option maxRecDepth 100000 in
set_option maxHeartbeats 1600000 in
theorem whashq_ok (g q : Nat) (L H Z : List Nat) (hZ : L ++ H = Z) (hH : IsH H) (w : World) (hw : WrQ w g q L false) (hl : L.length + 32 ≤ 140737488355328) :
    Calls Tryz.prog 105 #[.pointer (some ⟨g, 0, none⟩), .agg (bys H).toArray] w fun e w' => e = .returned (.pointer (some ⟨g, 0, none⟩)) ∧ KeptQ g q Z w w' := by
  have HZ := Lib.hid hZ
  have HH := Lib.hid hH
  have HW := Lib.hid hw
  have HL := Lib.hid hl
  clear hZ hH hw hl
  go_enter Tryz.func105, Tryz.ntmps105
  go_upto_region 1 with fail
  have hb : Below w.heap.size w (w.alloc (.cells (bys H).toArray 25)) := (Below.refl _ _).alloc (Nat.le_refl _) _
  have ha := Arr.made w 25 (bys H)
  have HW1 := Lib.hid (HW.out.below hb)
  have HB1 := Lib.hid hb
  have HY1 := Lib.hid (ha.byts HH.out.2 32 HH.out.1.symm (by unfold maxLen; omega))
  have HG := Lib.hid HW.out.lt
  have HQl := Lib.hid HW.out.2.1
  generalize World.alloc _ _ = w1 at *
  clear hb ha HW
  go_wp2_with fail
  refine (putq_ok g q L H Z HZ.out _ w1 HW1.out HY1.out (fun _ ad n c e => by cases e; have := HG.out; show w.heap.size ≠ g; omega) (by rw [HH.out.1]; exact HL.out)).mono ?_
  rintro e w3 ⟨rfl, hk3⟩
  dsimp only
  have HK3 := Lib.hid (KeptQ.after HB1.out (Nat.le_of_lt HG.out) HQl.out hk3)
  clear hk3
  go_wp2
  go_ret
  exact ⟨rfl, HK3.out⟩
set_option maxRecDepth 100000 in
set_option maxHeartbeats 1600000 in
theorem wnumq8_ok (g q n : Nat) (L Z : List Nat) (hZ : L ++ le8 n = Z) (w : World) (hw : WrQ w g q L false) (hn : n ≤ 18446744073709551615) (hl : L.length + 8 ≤ 140737488355328) :
    Calls Tryz.prog 106 #[.pointer (some ⟨g, 0, none⟩), .int .u64 n, .int .i64 8] w fun e w' => e = .returned (.pointer (some ⟨g, 0, none⟩)) ∧ KeptQ g q Z w w' := by
  have HZ := Lib.hid hZ
  have HW := Lib.hid hw
  have HL := Lib.hid hl
  have HN := Lib.hid (show n ≤ 18446744073709551615 by omega)
  clear hZ hw hl hn
  go_enter Tryz.func106, Tryz.ntmps106
  go_wp2_with fail
  refine (whole_any 8 w (by omega)).mono ?_
  rintro e w1 ⟨rfl, rfl⟩
  dsimp only
  go_wp2_with fail
  refine (wnumber8_any n w1 HN.out).mono ?_
  rintro e w2 ⟨v2, rfl, hy2, hl2, hq2, hb2⟩
  dsimp only
  have HW2 := Lib.hid (HW.out.below hb2)
  have HY2 := Lib.hid hy2
  have HB2 := Lib.hid hb2
  have HQ2 := Lib.hid (show ∀ ad n c, v2 = .slice (some ad) n c → ad.block ≠ g from fun ad n c e => by have := hq2 ad n c e; have := HW.out.lt; omega)
  have HLz := Lib.hid (show L.length + (le8 n).length ≤ 140737488355328 by have := HL.out; simp [le8]; omega)
  clear hy2 hl2 hb2 hq2
  go_wp2_with fail
  refine (putq_ok g q L (le8 n) Z HZ.out v2 w2 HW2.out HY2.out (fun _ => HQ2.out) HLz.out).mono ?_
  rintro e w3 ⟨rfl, hk3⟩
  dsimp only
  have HK3 := Lib.hid (KeptQ.after HB2.out (Nat.le_of_lt HW.out.lt) HW.out.2.1 hk3)
  clear hk3
  go_wp2
  go_ret
  exact ⟨rfl, HK3.out⟩
set_option maxRecDepth 100000 in
set_option maxHeartbeats 1600000 in
theorem wnumq4_ok (g q n : Nat) (L Z : List Nat) (hZ : L ++ (le8 n).take 4 = Z) (w : World) (hw : WrQ w g q L false) (hn : n ≤ 4294967295) (hl : L.length + 4 ≤ 140737488355328) :
    Calls Tryz.prog 106 #[.pointer (some ⟨g, 0, none⟩), .int .u64 n, .int .i64 4] w fun e w' => e = .returned (.pointer (some ⟨g, 0, none⟩)) ∧ KeptQ g q Z w w' := by
  have HZ := Lib.hid hZ
  have HW := Lib.hid hw
  have HL := Lib.hid hl
  have HN := Lib.hid (show n ≤ 18446744073709551615 by omega)
  have hsh : (n : Int) / 4294967296 = 0 := by omega
  clear hZ hw hl hn
  go_enter Tryz.func106, Tryz.ntmps106
  go_wp2_with fail
  refine (whole_any 4 w (by omega)).mono ?_
  rintro e w1 ⟨rfl, rfl⟩
  dsimp only
  go_wp2_with fail
  refine (wnumber4_any n w1 HN.out).mono ?_
  rintro e w2 ⟨v2, rfl, hy2, hl2, hq2, hb2⟩
  dsimp only
  have HW2 := Lib.hid (HW.out.below hb2)
  have HY2 := Lib.hid hy2
  have HB2 := Lib.hid hb2
  have HQ2 := Lib.hid (show ∀ ad n c, v2 = .slice (some ad) n c → ad.block ≠ g from fun ad n c e => by have := hq2 ad n c e; have := HW.out.lt; omega)
  have HLz := Lib.hid (show L.length + ((le8 n).take 4).length ≤ 140737488355328 by have := HL.out; simp [le8]; omega)
  clear hy2 hl2 hb2 hq2
  go_wp2_with fail
  refine (putq_ok g q L ((le8 n).take 4) Z HZ.out v2 w2 HW2.out HY2.out (fun _ => HQ2.out) HLz.out).mono ?_
  rintro e w3 ⟨rfl, hk3⟩
  dsimp only
  have HK3 := Lib.hid (KeptQ.after HB2.out (Nat.le_of_lt HW.out.lt) HW.out.2.1 hk3)
  clear hk3
  go_wp2
  go_ret
  exact ⟨rfl, HK3.out⟩
set_option maxRecDepth 100000 in
set_option maxHeartbeats 1600000 in
theorem wbytesq_ok (g q : Nat) (L M Z : List Nat) (hZ : L ++ M = Z) (u : Value) (w : World) (hw : WrQ w g q L false) (hy : Byts w u M) (hne : M ≠ [] → ∀ ad n c, u = .slice (some ad) n c → ad.block ≠ g) (hl : L.length + M.length ≤ 140737488355328) :
    Calls Tryz.prog 116 #[.pointer (some ⟨g, 0, none⟩), u] w fun e w' => e = .returned (.pointer (some ⟨g, 0, none⟩)) ∧ KeptQ g q Z w w' := by
  have H := Lib.hid (putq_ok g q L M Z hZ u w hw hy hne hl)
  clear hZ hw hy hne hl
  go_enter Tryz.func116, Tryz.ntmps116
  go_wp2_with fail
  refine H.out.mono ?_
  rintro e w3 ⟨rfl, hk3⟩
  dsimp only
  have HK3 := Lib.hid hk3
  clear hk3
  go_wp2
  go_ret
  exact ⟨rfl, HK3.out⟩
set_option maxRecDepth 100000 in
set_option maxHeartbeats 1600000 in
theorem wblobq_ok (g q : Nat) (L M Z : List Nat) (hZ : L ++ ((le8 M.length).take 4 ++ M) = Z) (a : Option Addr) (c : Nat) (w : World) (hw : WrQ w g q L false) (hlow : M ≠ [] → ∀ ad, a = some ad → ad.block ≠ g) (hsep : ∀ w', Below g w w' → Byts w' (.slice a M.length c) M) (hm : M.length ≤ 16777216) (hl : L.length ≤ 1000000000) :
    Calls Tryz.prog 107 #[.pointer (some ⟨g, 0, none⟩), .slice a M.length c] w fun e w' => e = .returned (.pointer (some ⟨g, 0, none⟩)) ∧ KeptQ g q Z w w' := by
  have e4 : ((le8 M.length).take 4).length = 4 := by simp [le8]
  have H := Lib.hid (wnumq4_ok g q M.length L _ rfl w hw (by omega) (by omega))
  have H2 := Lib.hid (fun w1 (h1 : WrQ w1 g q (L ++ (le8 M.length).take 4) false) (h2 : Below g w w1) => wbytesq_ok g q (L ++ (le8 M.length).take 4) M Z (by rw [List.append_assoc]; exact hZ) (.slice a M.length c) w1 h1 (hsep w1 h2) (fun hM ad n c h => by cases h; exact hlow hM _ rfl) (by rw [List.length_append, e4]; omega))
  have h0 : ¬ ((M.length : Int) > 16777216) := by omega
  have h3 : IntKind.u64.wrap (M.length : Int) = (M.length : Int) := by rw [IntKind.wrap_u64]; omega
  clear hZ hw hlow hsep hm hl e4
  go_enter Tryz.func107, Tryz.ntmps107
  go_wp2_with fail
  refine H.out.mono ?_
  rintro e w1 ⟨rfl, hk1⟩
  dsimp only
  have HK1 := Lib.hid hk1
  clear hk1
  go_wp2_with fail
  refine (H2.out w1 HK1.out.1 HK1.out.2.1).mono ?_
  rintro e w3 ⟨rfl, hk3⟩
  dsimp only
  have HK3 := Lib.hid (HK1.out.next hk3)
  clear hk3
  go_wp2
  go_ret
  exact ⟨rfl, HK3.out⟩
end Go.Proofs.YtnohfondkcbdnaaGreatDoor
/- Nothing of its own: stands where a seat with block lays its texts. -/
namespace Go.Proofs.YtnohfondkcbdnaaGreatDoor
end Go.Proofs.YtnohfondkcbdnaaGreatDoor
