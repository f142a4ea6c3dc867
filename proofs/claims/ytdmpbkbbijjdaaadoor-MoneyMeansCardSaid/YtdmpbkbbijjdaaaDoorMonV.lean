import Derived.Test.YtdmpbkbbijjdaaaDoorMonU
namespace Go.Proofs.YtdmpbkbbijjdaaaDoor
open Go.Shelf Go.RowKit Go.Sort Go.Lib
set_option linter.unusedVariables false
set_option linter.unusedSimpArgs false

theorem drop_get (l : List UInt8) (k : Nat) (c : UInt8) (h : l[k]? = some c) : l.drop k = c :: l.drop (k + 1) := by
  have hk : k < l.length := by
    rcases Nat.lt_or_ge k l.length with h' | h'
    · exact h'
    · rw [List.getElem?_eq_none h'] at h; cases h
  rw [List.getElem?_eq_getElem hk] at h
  injection h with h
  rw [List.drop_eq_getElem_cons hk, h]

set_option maxHeartbeats 2000000 in
theorem refof_any (s : ByteArray) (hs : s.size ≤ 3000) (w : World) :
    Calls Tryd.prog 19 #[.string s] w (MoRes s.data.toList w) := by
  go_enter Tryd.func19, Tryd.ntmps19
  go_wp2
  go_loopg [6, 4, 5] s.size (fun g vi vn vb wr => ∃ (k n : Nat) (b : Int), g + k = s.size ∧ vi = .int .i64 k ∧ vn = .int .u64 n ∧ vb = .int .i64 b ∧ Hid (refGo s.data.toList 0 (-1) = refGo (s.data.toList.drop k) n b) ∧ n ≤ 11258999068426249 ∧ -1 ≤ b ∧ b ≤ 8 ∧ w = wr)
  case atStart => exact ⟨0, 0, -1, by omega, rfl, rfl, rfl, by show _ = _; simp, by omega, by omega, by omega, rfl⟩
  case round =>
    obtain ⟨k, n, b, hk, rfl, rfl, rfl, hgo, hn, hb1, hb8, rfl⟩ := hrel
    have HG := Lib.hid hgo.out
    clear hgo
    by_cases hlt : k < s.size
    · have hget : s.data.toList[k]? = some s[k] := by
        rw [List.getElem?_eq_getElem (by simpa using hlt)]; rfl
      have HD := Lib.hid (drop_get _ _ _ hget)
      clear hget
      by_cases hdot : s[k] = 46 ∧ b < 0
      · have h46 : ((s[k].toNat : Int) == 46) = true := by rw [hdot.1]; rfl
        have hb0 : b < 0 := hdot.2
        have Hnext : Hid (refGo s.data.toList 0 (-1) = refGo (s.data.toList.drop (k + 1)) n 0) := by show _ = _; rw [HG.out, HD.out, hdot.1, go_dot _ _ _ hb0]
        clear hdot
        go_wp2
        go_roundg (gk - 1)
        case measure => omega
        case rel => exact ⟨k + 1, n, 0, by omega, by go_num, rfl, rfl, Hnext.out, by omega, by omega, by omega, rfl⟩
      · by_cases hbad : refBad s[k] n b
        · have HF := Lib.hid (ref_none1 s.data.toList (by rw [HG.out, HD.out, go_bad _ _ _ _ hdot hbad]))
          have hbad' : (s[k].toNat : Int) < 48 ∨ (57 : Int) < (s[k].toNat : Int) ∨ (1125899906842624 : Int) < (n : Int) ∨ 8 ≤ b := by
            rcases hbad with h | h | h | h
            · exact .inl (by omega)
            · exact .inr (.inl (by omega))
            · rw [mMax_eq] at h; exact .inr (.inr (.inl (by omega)))
            · exact .inr (.inr (.inr h))
          by_cases h46 : s[k] = 46
          · have hb0 : 0 ≤ b := by
              rcases Int.lt_or_le b 0 with h | h
              · exact absurd ⟨h46, h⟩ hdot
              · exact h
            have hc46 : ((s[k].toNat : Int) == 46) = true := by rw [h46]; rfl
            have hlow : (s[k].toNat : Int) < 48 := by rw [h46]; decide
            clear hbad hbad' hdot h46
            go_wp2
            go_ret2
            exact ⟨Below.refl _ _, 0, 4, HF.out, rfl⟩
          · have hc46 : ((s[k].toNat : Int) == 46) = false := by
              rw [beq_eq_false_iff_ne]; intro h'; exact h46 (UInt8.toNat_inj.1 (by show s[k].toNat = 46; omega))
            clear hbad hdot h46
            by_cases g1 : (s[k].toNat : Int) < 48
            · clear hbad'
              go_wp2
              go_ret2
              exact ⟨Below.refl _ _, 0, 4, HF.out, rfl⟩
            · by_cases g2 : (57 : Int) < (s[k].toNat : Int)
              · clear hbad'
                go_wp2
                go_ret2
                exact ⟨Below.refl _ _, 0, 4, HF.out, rfl⟩
              · by_cases g3 : (1125899906842624 : Int) < (n : Int)
                · clear hbad'
                  go_wp2
                  go_ret2
                  exact ⟨Below.refl _ _, 0, 4, HF.out, rfl⟩
                · have g4 : 8 ≤ b := by omega
                  clear hbad'
                  go_wp2
                  go_ret2
                  exact ⟨Below.refl _ _, 0, 4, HF.out, rfl⟩
        · have Hnext := Lib.hid (show refGo s.data.toList 0 (-1) = _ by rw [HG.out, HD.out, go_next _ _ _ _ hdot hbad])
          have hgood : (48 : Int) ≤ (s[k].toNat : Int) ∧ (s[k].toNat : Int) ≤ 57 ∧ (n : Int) ≤ 1125899906842624 ∧ b ≤ 7 := by
            unfold refBad at hbad
            rw [mMax_eq] at hbad
            omega
          obtain ⟨g1, g2, g3, g4⟩ := hgood
          have hc46 : ((s[k].toNat : Int) == 46) = false := by rw [beq_eq_false_iff_ne]; omega
          have en : (10 * n + (s[k].toNat - 48) : Nat) = 10 * (n : Int) + ((s[k].toNat : Int) - 48) := by omega
          have En := Lib.hid en
          clear hbad hdot en
          by_cases hb0 : 0 ≤ b
          · have Hn2 : Hid (refGo s.data.toList 0 (-1) = refGo (s.data.toList.drop (k + 1)) (10 * n + (s[k].toNat - 48)) (b + 1)) := by show _ = _; rw [Hnext.out, if_pos hb0]
            clear Hnext
            go_wp2
            go_roundg (gk - 1)
            case measure => omega
            case rel => exact ⟨k + 1, 10 * n + (s[k].toNat - 48), b + 1, by omega, by go_num, by rw [En.out], rfl, Hn2.out, by omega, by omega, by omega, rfl⟩
          · have Hn2 : Hid (refGo s.data.toList 0 (-1) = refGo (s.data.toList.drop (k + 1)) (10 * n + (s[k].toNat - 48)) b) := by show _ = _; rw [Hnext.out, if_neg hb0]
            clear Hnext
            go_wp2
            go_roundg (gk - 1)
            case measure => omega
            case rel => exact ⟨k + 1, 10 * n + (s[k].toNat - 48), b, by omega, by go_num, by rw [En.out], rfl, Hn2.out, by omega, by omega, by omega, rfl⟩
    · obtain rfl : k = s.size := by omega
      have hend : refGo s.data.toList 0 (-1) = some (n, b) := by
        rw [HG.out, List.drop_of_length_le (by simp)]; rfl
      have HEnd := Lib.hid hend
      clear hend
      obtain ⟨j0, hj0⟩ : ∃ j : Nat, j = b.toNat := ⟨_, rfl⟩
      have hmx : max b 0 = (j0 : Int) := by omega
      have hbt : j0 ≤ 8 := by omega
      have Hj0 := Lib.hid hj0
      clear hj0
      go_wp2
      go_loopg [7, 4] (8 - j0) (fun g vi vm wr => ∃ m : Nat, vi = .int .i64 (8 - (g : Int)) ∧ vm = .int .u64 m ∧ Hid (refScale (8 - j0) n = refScale g m) ∧ m ≤ 11258999068426249 ∧ g ≤ 8 ∧ w = wr)
      case atStart => exact ⟨n, by go_num, rfl, rfl, hn, by omega, rfl⟩
      case round =>
        obtain ⟨m, rfl, rfl, hsc, hm, hg, rfl⟩ := hrel
        have HSc := Lib.hid hsc.out
        clear hsc hlt hn hk hb1 hb8 hmx hbt
        cases gk with
        | succ g =>
          by_cases hbig : 1125899906842624 < m
          · have HF := Lib.hid (ref_none2 s.data.toList n b HEnd.out (by rw [← Hj0.out, HSc.out, refScale, if_pos (by rw [mMax_eq]; exact hbig)]))
            have hb' : (1125899906842624 : Int) < (m : Int) := by omega
            clear hbig
            go_wp2
            go_ret2
            exact ⟨Below.refl _ _, 0, 4, HF.out, rfl⟩
          · have HN : Hid (refScale (8 - j0) n = refScale g (10 * m)) := by show _ = _; rw [HSc.out, refScale, if_neg (by rw [mMax_eq]; exact hbig)]
            have hb' : (m : Int) ≤ (1125899906842624 : Int) := by omega
            clear hbig
            go_wp2
            go_roundg g
            case measure => omega
            case rel => exact ⟨10 * m, by go_num, by go_num, HN.out, by omega, by omega, rfl⟩
        | zero =>
          have hres : refScale (8 - b.toNat) n = some m := by rw [← Hj0.out, HSc.out]; rfl
          have HRes := Lib.hid hres
          clear hres
          have hmb : m < 18446744073709551616 := by omega
          have HMb := Lib.hid hmb
          clear hmb
          go_wp2_with fail
          refine (reftext_any m HMb.out _).mono ?_
          rintro e w9 ⟨rfl, hb9⟩
          have HW9 := Lib.hid hb9
          clear hb9
          by_cases hok : m ≤ 1125899906842624 ∧ moneyL m = s.data.toList
          · rw [if_pos hok.1, if_pos hok.1]
            have hse : (⟨(moneyL m).toArray⟩ : ByteArray) = s := by rw [hok.2]
            rw [hse]
            have HOk := Lib.hid hok
            clear hok hse
            go_wp2
            go_ret2
            exact ⟨HW9.out, m, 0, .inl ⟨HOk.out.1, HOk.out.2, rfl⟩, rfl⟩
          · have HF := Lib.hid (ref_back _ n m b HEnd.out HRes.out hok)
            by_cases hle : m ≤ 1125899906842624
            · rw [if_pos hle, if_pos hle]
              have hne : (moneyL m == s.toList) = false := by
                rw [beq_eq_false_iff_ne, BA_toList]
                exact fun h => hok ⟨hle, h⟩
              clear hok
              go_wp2
              go_ret2
              exact ⟨HW9.out, 0, 4, HF.out, rfl⟩
            · rw [if_neg hle, if_neg hle]
              clear hok
              go_wp2
              go_ret2
              exact ⟨HW9.out, 0, 4, HF.out, rfl⟩
end Go.Proofs.YtdmpbkbbijjdaaaDoor
