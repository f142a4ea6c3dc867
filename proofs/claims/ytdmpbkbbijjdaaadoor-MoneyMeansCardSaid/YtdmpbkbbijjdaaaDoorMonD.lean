import Derived.Test.YtdmpbkbbijjdaaaDoorMonC
import Derived.Laws.OwnMore
import Derived.WalkSpells
import Derived.Lib.ItoaLen
import Derived.Laws.Concat
namespace Go.Proofs.YtdmpbkbbijjdaaaDoor
open Go.Shelf Go.RowKit Go.Sort Go.Lib
set_option linter.unusedVariables false
set_option linter.unusedSimpArgs false

/-- The k last decimal digits of r, as letters. -/
def pdl : Nat → Nat → List UInt8
  | 0, _ => []
  | k + 1, r => UInt8.ofNat (48 + r / 10 ^ k % 10) :: pdl k r
theorem pdl_length (k r : Nat) : (pdl k r).length = k := by
  induction k with
  | zero => rfl
  | succ k ih => simp [pdl, ih]
def bvs (l : List UInt8) : List Value := l.map fun b => .int .u8 (b.toNat : Int)
def strip (l : List UInt8) : List UInt8 := (l.reverse.dropWhile (· == 48)).reverse
def dk (k r : Nat) : List UInt8 := List.replicate (8 - k) 0 ++ pdl k r
theorem dk_length (k r : Nat) (h : k ≤ 8) : (dk k r).length = 8 := by simp [dk, pdl_length]; omega
theorem dk_set (k r : Nat) (h : k < 8) : (dk k r).set (7 - k) (UInt8.ofNat (48 + r / 10 ^ k % 10)) = dk (k + 1) r := by
  unfold dk
  rw [show 8 - k = (7 - k) + 1 by omega, List.replicate_succ', List.append_assoc, List.set_append_right _ _ (by simp), show 8 - (k + 1) = 7 - k by omega]
  simp [pdl]

def moneyL (a : Nat) : List UInt8 := decDigits (a / 100000000) ++ (if a % 100000000 = 0 then [] else 46 :: strip (pdl 8 (a % 100000000)))

theorem strip_snoc_zero (l : List UInt8) : strip (l ++ [48]) = strip l := by simp [strip]
theorem strip_snoc_other (l : List UInt8) (x : UInt8) (h : x ≠ 48) : strip (l ++ [x]) = l ++ [x] := by simp [strip, h]

theorem str_add (P : Program) (x y : List UInt8) (h : x.length + y.length ≤ 9223372036854775807) : ∀ w, (Op.stringOp .add ⟨x.toArray⟩ ⟨y.toArray⟩).run P w = .ok (.string ⟨(x ++ y).toArray⟩) w := by
  intro w
  rw [run_string_add_sum w _ _ (by simp [ByteArray.size]; omega), ByteArray.mk_append_mk]
  try simp
theorem decDigits_le (u : Nat) (h : u < 18446744073709551616) : (decDigits u).length ≤ 20 := by
  rw [decDigits_length]; exact nDigits_le20 u h
theorem byte_ne48 (b : UInt8) (h : b ≠ 48) : ((b.toNat : Int) == 48) = false := by
  rw [beq_eq_false_iff_ne]
  intro h'
  exact h (UInt8.toNat_inj.1 (by show b.toNat = 48; omega))
theorem dropWhile_nil {α : Type} (p : α → Bool) (l : List α) (h : l.dropWhile p = []) : ∀ x ∈ l, p x = true := by
  induction l with
  | nil => intro x hx; cases hx
  | cons a r ih =>
    intro x hx
    cases ha : p a with
    | false => simp [List.dropWhile, ha] at h
    | true =>
      simp only [List.dropWhile, ha] at h
      rcases List.mem_cons.1 hx with rfl | hx
      · exact ha
      · exact ih h x hx
theorem strip_all (l : List UInt8) (h : strip l = []) : ∀ x ∈ l, x = 48 := by
  intro x hx
  have h' : l.reverse.dropWhile (· == 48) = [] := by simpa [strip] using h
  have := dropWhile_nil _ _ h' x (by simpa using hx)
  simpa using this
theorem pdl_all (k r : Nat) (h : ∀ x ∈ pdl k r, x = 48) : r % 10 ^ k = 0 := by
  induction k with
  | zero => omega
  | succ k ih =>
    have h1 := ih fun x hx => h x (by simp [pdl, hx])
    have h2 := h _ (by rw [pdl]; exact List.mem_cons_self)
    have h3 : r / 10 ^ k % 10 = 0 := by
      have := congrArg UInt8.toNat h2
      have e : (UInt8.ofNat (48 + r / 10 ^ k % 10)).toNat = 48 + r / 10 ^ k % 10 := by
        simp; omega
      rw [e] at this
      have e2 : (48 : UInt8).toNat = 48 := rfl
      omega
    rw [Nat.mod_pow_succ, h1, h3]
    simp
theorem strip_pdl (r : Nat) (h0 : 0 < r) (h1 : r < 100000000) : strip (pdl 8 r) ≠ [] := by
  intro h
  have := strip_all _ h
  have := pdl_all 8 r this
  omega

set_option maxHeartbeats 1000000 in
theorem text_any (a : Nat) (ha : a < 18446744073709551616) (w : World) (htab : Lib.TabIs Tryd.prog w "internal/strconv.uint64pow10" .u64 Lib.pow10Tab) :
    Calls Tryd.prog 16 #[.int .u64 a] w fun e w' => e = .returned (.tuple #[.string ⟨(if a ≤ 1125899906842624 then moneyL a else []).toArray⟩, .int .i64 (if a ≤ 1125899906842624 then 0 else 5)]) ∧ Below w.heap.size w w' := by
  by_cases h1 : 1125899906842624 < a
  · rw [if_neg (by omega), if_neg (by omega)]
    go_enter Tryd.func16, Tryd.ntmps16
    go_wp2_with (go_at_call 15; refine (may_no _ _ (by omega)).mono ?_; rintro e w' ⟨rfl, rfl⟩)
    go_ret2
    exact ⟨rfl, Below.refl _ _⟩
  · rw [if_pos (by omega), if_pos (by omega)]
    by_cases h2 : a % 100000000 = 0
    · have h2' : (((a : Int) % 100000000) == 0) = true := by simp; omega
      go_enter Tryd.func16, Tryd.ntmps16
      go_wp2_with (first | (go_at_call 15; refine (may_yes _ _ (by omega)).mono ?_; rintro e w' ⟨rfl, rfl⟩) | (go_at_call 22; refine (fmtuint (a / 100000000) (by omega) _ htab).mono ?_; rintro e w' ⟨rfl, hb⟩))
      go_ret2
      exact ⟨by simp [moneyL, h2], hb⟩
    · have h2' : (((a : Int) % 100000000) == 0) = false := by simp; omega
      have hmk : ∀ w, (Instr.makeSlice 49 (.int .i64 8) (.int .i64 8)).run Tryd.prog w = .ok (.slice (some ⟨w.heap.size, 0, none⟩) 8 8) (w.alloc (.cells #[.int .u8 0, .int .u8 0, .int .u8 0, .int .u8 0, .int .u8 0, .int .u8 0, .int .u8 0, .int .u8 0] 5)) := fun _ => by kernel_rfl
      go_enter Tryd.func16, Tryd.ntmps16
      go_wp2_with (first | (go_at_call 15; refine (may_yes _ _ (by omega)).mono ?_; rintro e w' ⟨rfl, rfl⟩) | (go_at_call 22; refine (fmtuint (a / 100000000) (by omega) _ htab).mono ?_; rintro e w1 ⟨rfl, hb⟩))
      clear hmk htab
      have hsz : w.heap.size ≤ w1.heap.size := hb.size
      obtain ⟨r, hr⟩ : ∃ r : Nat, r = a % 100000000 := ⟨_, rfl⟩
      have er : ((a : Int) % 100000000) = (r : Int) := by omega
      have hr0 : 0 < r := by omega
      have hr1 : r < 100000000 := by omega
      rw [er]
      have HR := Lib.hid hr
      clear er hr h2' h2
      go_loopg [5, 21] 8 (fun g rest i wr => ∃ k : Nat, g + k = 8 ∧ i = .int .i64 k ∧ rest = .int .u64 ((r / 10 ^ k : Nat) : Int) ∧
        wr.ownsRow w1.heap.size 5 1 (.slice (some ⟨w1.heap.size, 0, none⟩) 8 8) 8 (bvs (dk k r)) ∧ Below w1.heap.size w1 wr ∧ w1.heap.size < wr.heap.size)
      case atStart =>
        refine ⟨0, rfl, rfl, by simp, ?_, (Below.refl _ _).alloc (Nat.le_refl _) _, by simp⟩
        exact World.ownsRow_lit w1 _ 8 (Nat.le_refl _) (by decide) rfl
      case round =>
        obtain ⟨k, hk, rfl, rfl, hown, hbw, hsz2⟩ := hrel
        by_cases hlt : k < 8
        · have hcell : wr.cell? ⟨w1.heap.size, 7 - k, none⟩ = some ((bvs (dk k r))[7 - k]'(by simp [bvs, dk_length k r (by omega)]; omega)) := by
            rw [World.ownsRow.cellAt hown _ (by omega)]; exact List.getElem?_eq_getElem _
          generalize ((bvs (dk k r))[7 - k]'_) = old at hcell
          have hfr := World.ownsRow.frozenAt hown (7 - k)
          have Hown := Lib.hid hown
          have Hb := Lib.hid hbw
          clear hown hbw
          have hq : r / 10 ^ k ≤ 100000000 := Nat.le_trans (Nat.div_le_self _ _) (by omega)
          generalize hqe : r / 10 ^ k = q at *
          have Hq := Lib.hid hqe
          clear hqe
          go_wp2
          go_roundg (gk - 1)
          case measure => omega
          case rel =>
            refine ⟨k + 1, by omega, by go_num, ?_, ?_, ?_, ?_⟩
            · rw [Nat.pow_succ, ← Nat.div_div_eq_div_mul, Hq.out]; go_num
            · have := (World.ownsRow.stored Hown.out (7 - k) (.int .u8 ((48 + q % 10 : Nat) : Int))).1
              rw [show (bvs (dk k r)).set (7 - k) (Value.int .u8 ((48 + q % 10 : Nat) : Int)) = bvs (dk (k + 1) r) from ?_] at this
              · simpa using this
              · rw [← dk_set k r hlt, Hq.out]
                simp only [bvs, List.map_set]
                congr 2
                have : (48 + q % 10) < 256 := by omega
                simp [Nat.mod_eq_of_lt this]
            · exact Hb.out.setCell (Nat.le_refl _) _
            · simpa using hsz2
        · obtain rfl : k = 8 := by omega
          have Hown := Lib.hid hown
          have Hb := Lib.hid hbw
          clear hown hbw
          have Hd : Hid (dk 8 r = pdl 8 r) := by show _ = _; simp [dk]
          rw [Hd.out] at Hown
          have hne : strip (pdl 8 r) ≠ [] := strip_pdl r hr0 hr1
          have HDl := pdl_length 8 r
          generalize hD : pdl 8 r = D at *
          have HD := Lib.hid hD
          clear hD Hd
          have Hne := Lib.hid hne
          have HL := Lib.hid HDl
          clear hne HDl
          go_wp2
          go_loopg [8] 8 (fun g nv wx => ∃ n : Nat, g = n ∧ nv = .int .i64 n ∧ n ≤ 8 ∧ Hid (strip (D.take n) = strip D) ∧ wr = wx)
          case atStart => exact ⟨8, rfl, rfl, Nat.le_refl _, by show _ = _; rw [List.take_of_length_le (by rw [HL.out]; exact Nat.le_refl _)], rfl⟩
          case round =>
            obtain ⟨n, rfl, rfl, hn8, hst, rfl⟩ := hrel
            have Hst := Lib.hid hst.out
            clear hst
            cases gk with
            | zero => exact absurd (by rw [← Hst.out]; rfl) Hne.out
            | succ n =>
              obtain ⟨b, hb⟩ : ∃ b, D[n]? = some b := ⟨_, List.getElem?_eq_getElem (by rw [HL.out]; omega)⟩
              have hcell : wr.cell? ⟨w1.heap.size, n, none⟩ = some (.int .u8 (b.toNat : Int)) := by
                rw [World.ownsRow.cellAt Hown.out _ (by omega)]; simp [bvs, hb]
              have HB := Lib.hid hb
              clear hb
              by_cases h48 : b = 48
              · subst h48
                go_wp2
                go_roundg n
                case measure => omega
                case rel =>
                  refine ⟨n, rfl, rfl, by omega, ?_, rfl⟩
                  show _ = _
                  rw [← Hst.out, List.take_add_one, HB.out]
                  exact (strip_snoc_zero _).symm
              · have hb48 : ((b.toNat : Int) == 48) = false := byte_ne48 b h48
                have hfin : Hid (D.take (n + 1) = strip D) := by
                  show _ = _
                  rw [← Hst.out, List.take_add_one, HB.out]
                  exact (strip_snoc_other _ _ h48).symm
                have hlen : (D.take (n + 1)).length = n + 1 := by rw [List.length_take, HL.out]; omega
                have hcv : (convert 49 9 (.slice (some ⟨w1.heap.size, 0, none⟩) (n + 1) 8)).run Tryd.prog wr = .ok (.string ⟨(D.take (n + 1)).toArray⟩) wr := by
                  have h := run_convert_bytes_back (P := Tryd.prog) wr 49 9 5 ⟨w1.heap.size, 0, none⟩ 8 (D.take (n + 1)) Tryd.underlying49 Tryd.underlying5 Tryd.underlying9 (fun j hj => by
                    rw [Lib.add_plain, Nat.zero_add, World.ownsRow.cellAt Hown.out _ (by rw [hlen] at hj; omega)]
                    simp only [bvs, List.getElem?_map, List.getElem_take]
                    rw [List.getElem?_eq_getElem]; rfl)
                  rw [hlen] at h
                  exact h
                have hc1 := str_add (Tryd.prog) (decDigits (a / 100000000)) [46] (by have := decDigits_le (a / 100000000) (by omega); simp; omega)
                have hc2 := str_add (Tryd.prog) (decDigits (a / 100000000) ++ [46]) (D.take (n + 1)) (by have := decDigits_le (a / 100000000) (by omega); rw [hlen]; simp; omega)
                clear hlen
                go_wp2
                go_ret2
                refine ⟨?_, hb.trans (Hb.out.mono hsz)⟩
                rw [hfin.out, ← HD.out]
                have e := HR.out
                simp only [moneyL, ← e]
                rw [if_neg (by omega)]
                rfl
end Go.Proofs.YtdmpbkbbijjdaaaDoor
