import Derived.Test.YtdmpbkbbijjdaaaDoorMonL3
namespace Go.Proofs.YtdmpbkbbijjdaaaDoor
open Go.Shelf Go.RowKit Go.Sort Go.Lib
set_option linter.unusedVariables false
set_option linter.unusedSimpArgs false

def nums64 (xs : List Int) : List Value := xs.map (Value.int .u64)
theorem info_u64 : (Tryd.prog.info? 23).map (fun i => (i.zero, i.size, i.bytes)) = some (some (.int .u64 0), 1, 8) := by kernel_rfl

theorem own_rdu {w : World} {base n : Nat} {e : TypeId} {v : Value} {xs : List Int} (h : w.ownsRow base e 1 v n (nums64 xs)) (hp : ∀ x ∈ xs, 0 ≤ x ∧ x ≤ 18446744073709551615) :
    ∃ A c, v = .slice A xs.length c ∧ RdU w A xs := by
  have hl : xs.length = n := by have := h.1; simpa [nums64] using this
  rcases h.2 with ⟨rfl, h0⟩ | ⟨g, cap, cur, rfl, hb, hg, hn, hc, _⟩
  · subst h0
    obtain rfl : xs = [] := List.eq_nil_of_length_eq_zero hl
    exact ⟨none, 0, rfl, by simp [RdU]⟩
  · refine ⟨_, cap, by rw [hl], by simp only [maxLen] at hc; omega, hp, fun _ => ⟨_, rfl, fun j hj => ?_⟩⟩
    rw [add_nospot, World.ownsRow.cellAt h j (by omega)]
    simp [nums64, hj, List.getD]

theorem RdU.take {w : World} {A : Option Addr} {xs : List Int} (hx : RdU w A xs) (h : Nat) : RdU w A (xs.take h) := by
  refine ⟨by rw [List.length_take]; have := hx.1; omega, fun x hm => hx.2.1 x (List.mem_of_mem_take hm), fun hp => ?_⟩
  rw [List.length_take] at hp
  obtain ⟨ad, e, hc⟩ := hx.2.2 (by omega)
  refine ⟨ad, e, fun j hj => ?_⟩
  rw [List.length_take] at hj
  rw [hc j (by omega)]
  simp [List.getD, List.getElem?_take, show j < h by omega]
theorem RdU.drop {w : World} {A : Option Addr} {xs : List Int} (hx : RdU w A xs) (h : Nat) : RdU w (A.map (fun x => x.add h)) (xs.drop h) := by
  refine ⟨by rw [List.length_drop]; have := hx.1; omega, fun x hm => hx.2.1 x (List.mem_of_mem_drop hm), fun hp => ?_⟩
  rw [List.length_drop] at hp
  obtain ⟨ad, e, hc⟩ := hx.2.2 (by omega)
  subst e
  refine ⟨ad.add h, rfl, fun j hj => ?_⟩
  rw [List.length_drop] at hj
  have e2 : (ad.add h).add j = ad.add (h + j) := by
    unfold Addr.add
    by_cases h0 : h = 0
    · subst h0; simp
    · by_cases j0 : j = 0
      · subst j0; simp [h0]
      · simp [h0, j0, show ¬ (h + j = 0) by omega, Nat.add_assoc]
  rw [e2, hc (h + j) (by omega)]
  simp [List.getD]
theorem sum_bound (xs : List Int) (h : ∀ x ∈ xs, 0 ≤ x) : 0 ≤ (sumGo xs 0).1 ∧ (sumGo xs 0).1 ≤ 1125899906842624 ∧ ((sumGo xs 0).2 = 0 ∨ (sumGo xs 0).2 = 5) := by
  have t := tot_nonneg xs h
  rw [sum_total xs h]
  by_cases c : tot xs ≤ 1125899906842624
  · rw [if_pos c]; exact ⟨t, c, .inl rfl⟩
  · rw [if_neg c]; exact ⟨Int.le_refl _, by simp, .inr rfl⟩
theorem money_size (a : Nat) (ha : a < 18446744073709551616) : (⟨(moneyL a).toArray⟩ : ByteArray).size ≤ 3000 := by
  have h1 := decDigits_le (a / 100000000) (by omega)
  have h2 := strip_len (pdl 8 (a % 100000000))
  rw [pdl_length] at h2
  show (moneyL a).toArray.size ≤ 3000
  unfold moneyL
  split <;> simp <;> omega
theorem rev_step (xs : List Int) (k : Nat) (h : k < xs.length) : nums64 ((xs.drop k).reverse) = nums64 ((xs.drop (k + 1)).reverse) ++ [.int .u64 (xs.getD k 0)] := by
  rw [drop_at xs k h]; simp [nums64]

set_option maxRecDepth 100000 in
set_option maxHeartbeats 4000000 in
theorem means_long (A : Option Addr) (c : Nat) (xs : List Int) (a b d : Nat) (w : World) (hl : xs.length ≤ 200) (hc : xs.length ≤ c) (hx : RdU w A xs)
    (ha : a < 18446744073709551616) (hb : b < 18446744073709551616) (hd : d < 18446744073709551616) (hE : ErrVars w) (htab : Lib.TabIs Tryd.prog w "internal/strconv.uint64pow10" .u64 Lib.pow10Tab) :
    Calls Tryd.prog 5 #[.slice A xs.length c, .int .u64 a, .int .u64 b, .int .u64 d] w fun e w' => e = .returned (.bool true) ∧ Below w.heap.size w w' := by
  have hl' : ((xs.length : Int) ≤ 200) := by omega
  have HX := Lib.hid hx
  have HE := Lib.hid hE
  have HT := Lib.hid htab
  have HA := Lib.hid ha
  have HB := Lib.hid hb
  have HD := Lib.hid hd
  clear hx hE htab ha hb hd
  go_enter Tryd.func5, Tryd.ntmps5
  go_wp2_with fail
  refine (known_any _ HT.out).mono ?_
  rintro e w1 ⟨rfl, hb1⟩
  have HW1 := Lib.hid hb1
  have HX1 := Lib.hid (HX.out.below hb1)
  have HE1 := Lib.hid (HE.out.below hb1)
  have HT1 := Lib.hid (tabIs_below HT.out hb1)
  clear hb1 HX HE HT
  go_wp2_with fail
  go_loopg [10, 9] xs.length (fun g vi vb wr => g ≤ xs.length ∧ vi = .int .i64 ((g : Int) - 1) ∧ Hid (wr.ownsRow w1.heap.size 23 1 vb ((xs.drop g).reverse).length (nums64 ((xs.drop g).reverse))) ∧ Hid (Below w1.heap.size w1 wr))
  case atStart => exact ⟨Nat.le_refl _, by go_num, by show World.ownsRow _ _ _ _ _ _ _; rw [List.drop_length]; exact World.ownsRow_nil _ _ _ _, Below.refl _ _⟩
  case round =>
    obtain ⟨hg, rfl, hown, hbw⟩ := hrel
    cases gk with
    | zero =>
      as_aux_lemma =>
      have hpos : ∀ x ∈ xs, 0 ≤ x := fun x hx => (HX1.out.2.1 x hx).1
      have HPos := Lib.hid hpos
      have HBw := Lib.hid hbw.out
      obtain ⟨A2, c2, rfl, hrd2⟩ := own_rdu hown.out (fun x hx => HX1.out.2.1 x (by simpa using hx))
      rw [List.drop_zero] at hrd2
      rw [List.drop_zero]
      have HRd2 := Lib.hid hrd2
      have HX2 := Lib.hid (HX1.out.below HBw.out)
      have HT2 := Lib.hid (tabIs_below HT1.out HBw.out)
      have HE2 := Lib.hid (HE1.out.below HBw.out)
      have HW2 := Lib.hid (HW1.out.trans (HBw.out.mono HW1.out.size))
      clear hpos hown hbw hrd2 hg HX1 HT1 HE1 HW1 HBw
      go_wp2_with fail
      refine (sum_any A c xs _ HX2.out.1 HX2.out.2.1 HX2.out.2.2).mono ?_
      rintro e w' ⟨rfl, rfl⟩
      have hs2 := sum_any A2 c2 xs.reverse wr HRd2.out.1 HRd2.out.2.1 HRd2.out.2.2
      rw [List.length_reverse, sum_back xs HPos.out] at hs2
      have HS2 := Lib.hid hs2
      clear hs2
      go_wp2_with fail
      with_reducible refine (HS2.out).mono ?_
      rintro e w' ⟨rfl, rfl⟩
      obtain ⟨h, hh⟩ : ∃ h : Nat, h = xs.length / 2 := ⟨_, rfl⟩
      have hhi : ((xs.length : Int) / 2) = (h : Int) := by omega
      have hhl : h ≤ xs.length := by omega
      have hhc : h ≤ c := by omega
      have HH := Lib.hid hh
      clear hh
      go_wp2_with (go_at_call 14; refine (num_any _ _).mono ?_; rintro e w' ⟨rfl, rfl⟩)
      have hs3 := sum_any A c (xs.take h) wr (HX2.out.take h).1 (HX2.out.take h).2.1 (HX2.out.take h).2.2
      rw [List.length_take, Nat.min_eq_left hhl] at hs3
      have HS3 := Lib.hid hs3
      clear hs3
      with_reducible refine (HS3.out).mono ?_
      rintro e w' ⟨rfl, rfl⟩
      go_upto_region 16 with (fail)
      go_cut [18, 19] (fun v18 v19 wx => v18 = .int .u64 (sumGo (xs.drop h) 0).1 ∧ v19 = .int .i64 (sumGo (xs.drop h) 0).2 ∧ wr = wx)
      case first =>
        as_aux_lemma =>
        by_cases hch : c = h
        · have hx0 : xs = [] := List.eq_nil_of_length_eq_zero (by have := HH.out; omega)
          subst hx0
          obtain rfl : h = 0 := by have := HH.out; simp at this; omega
          subst hch
          have hs4 := sum_any A 0 [] wr (by simp) (by simp) (by simp)
          have HS4 := Lib.hid hs4
          clear hs4
          go_wp2_with fail
          with_reducible refine (show Calls Tryd.prog 7 #[.slice A 0 0] wr _ from HS4.out).mono ?_
          rintro e w' ⟨rfl, rfl⟩
          go_wp2
          go_meet
          case rel => exact ⟨rfl, rfl, rfl⟩
        · have hlt : h < c := by omega
          have hs4 := sum_any (A.map (fun x => x.add h)) (c - h) (xs.drop h) wr (HX2.out.drop h).1 (HX2.out.drop h).2.1 (HX2.out.drop h).2.2
          rw [List.length_drop] at hs4
          have HS4 := Lib.hid hs4
          clear hs4
          go_wp2_with fail
          with_reducible refine (HS4.out).mono ?_
          rintro e w' ⟨rfl, rfl⟩
          go_wp2
          go_meet
          case rel => exact ⟨rfl, rfl, rfl⟩
      case rest =>
        as_aux_lemma =>
        obtain ⟨rfl, rfl, rfl⟩ := hcut
        have hcase := sum_halves xs h HPos.out
        have b1 := sum_bound (xs.take h) (fun x hx => HPos.out x (List.mem_of_mem_take hx))
        have b2 := sum_bound (xs.drop h) (fun x hx => HPos.out x (List.mem_of_mem_drop hx))
        have hadd := add_any (sumGo (xs.take h) 0).1 (sumGo (xs.drop h) 0).1 wr (by omega) (by omega)
        have b3 := sum_bound [(sumGo (xs.take h) 0).1, (sumGo (xs.drop h) 0).1] (by simp; omega)
        have b4 : (0 ≤ (sumGo (xs.take h) 0).2 ∧ (sumGo (xs.take h) 0).2 ≤ 5) ∧ (0 ≤ (sumGo (xs.drop h) 0).2 ∧ (sumGo (xs.drop h) 0).2 ≤ 5) ∧ (0 ≤ (sumGo [(sumGo (xs.take h) 0).1, (sumGo (xs.drop h) 0).1] 0).2 ∧ (sumGo [(sumGo (xs.take h) 0).1, (sumGo (xs.drop h) 0).1] 0).2 ≤ 5) := by omega
        dsimp only at hcase
        clear b3
        generalize (sumGo [(sumGo (xs.take h) 0).1, (sumGo (xs.drop h) 0).1] 0).1 = r1 at *
        generalize (sumGo [(sumGo (xs.take h) 0).1, (sumGo (xs.drop h) 0).1] 0).2 = r2 at *
        generalize (sumGo (xs.take h) 0).1 = p1 at *
        generalize (sumGo (xs.take h) 0).2 = p2 at *
        generalize (sumGo (xs.drop h) 0).1 = q1 at *
        generalize (sumGo (xs.drop h) 0).2 = q2 at *
        generalize (sumGo xs 0).1 = s1 at *
        generalize (sumGo xs 0).2 = s2 at *
        have HAdd := Lib.hid hadd
        have HCase := Lib.hid hcase
        have HB4 := Lib.hid b4
        clear hadd hcase b1 b2 b4
        go_wp2_with fail
        with_reducible refine (HAdd.out).mono ?_
        rintro e w3 ⟨rfl, hb3⟩
        have HT3 := Lib.hid (tabIs_below HT2.out hb3)
        have HE3 := Lib.hid (HE2.out.below hb3)
        have HW3 := Lib.hid (HW2.out.trans (hb3.mono HW2.out.size))
        clear hb3 HT2 HE2 HW2 HX2 HRd2 HS2 HS3
        go_upto_region 18 with (fail)
        go_cut [119] (fun v wx => v = .bool false ∧ w3 = wx)
        case first =>
          as_aux_lemma =>
          rcases HCase.out with ⟨h1, h2, h3, h4, h5⟩ | ⟨h1, h2, h3⟩
          · subst h1 h2 h3 h4 h5
            go_wp2_with (go_at_call 14; with_reducible refine (num_any _ _).mono ?_; rintro e w' ⟨rfl, rfl⟩)
            go_meet
            case rel => exact ⟨rfl, rfl⟩
          · have hne : ((p2 + q2 + r2) == 0) = false := by rw [beq_eq_false_iff_ne]; omega
            obtain ⟨⟨k1, k2⟩, ⟨k3, k4⟩, ⟨k5, k6⟩⟩ := HB4.out
            subst h3
            go_wp2_with (go_at_call 14; with_reducible refine (num_any _ _).mono ?_; rintro e w' ⟨rfl, rfl⟩)
            go_meet
            case rel => exact ⟨rfl, rfl⟩
        case rest =>
          as_aux_lemma =>
          obtain ⟨rfl, rfl⟩ := hcut
          have hadd2 := add_any (a : Int) (b : Int) w3 (by have := HA.out; omega) (by have := HB.out; omega)
          have h2 := two_sum a b
          generalize (sumGo [(a : Int), (b : Int)] 0).1 = s at *
          generalize (sumGo [(a : Int), (b : Int)] 0).2 = j at *
          have HAdd2 := Lib.hid hadd2
          have H2 := Lib.hid h2
          clear hadd2 h2
          go_wp2_with fail
          with_reducible refine (HAdd2.out).mono ?_
          rintro e w4 ⟨rfl, hb4⟩
          have HT4 := Lib.hid (tabIs_below HT3.out hb4)
          have HE4 := Lib.hid (HE3.out.below hb4)
          have HW4 := Lib.hid (HW3.out.trans (hb4.mono HW3.out.size))
          clear hb4 HT3 HE3 HW3
          go_upto_if 128 with (go_at_call 14; with_reducible refine (num_any _ _).mono ?_; rintro e w' ⟨rfl, rfl⟩)
          go_cut [] (fun wx => w4 = wx)
          case first =>
            as_aux_lemma =>
            rcases H2.out with ⟨h1, h2, h3⟩ | h1
            · subst h1 h2
              have hs5 := sub_any ((a : Int) + b) b w4 (by omega) (by omega)
              have e1 : subV ((a : Int) + b) b = a := by rw [subV, if_neg (by omega)]; omega
              have e2 : subE ((a : Int) + b) b = 0 := by rw [subE, if_neg (by omega)]
              rw [e1, e2] at hs5
              have HS5 := Lib.hid hs5
              clear hs5 e1 e2
              go_wp2_with (first
                | (go_at_call 14; with_reducible refine (num_any _ _).mono ?_; rintro e w' ⟨rfl, rfl⟩)
                | (go_at_call 10; with_reducible refine (HS5.out).mono ?_; rintro e w' ⟨rfl, rfl⟩))
              go_meet
              case rel => exact rfl
            · subst h1
              go_wp2
              go_meet
              case rel => exact rfl
          case rest =>
            as_aux_lemma =>
            obtain rfl := hcut
            have hs5 := share_any a b d HA.out HB.out HD.out w4
            unfold ShareRes at hs5
            generalize hxV : shareV a b d = x at hs5
            generalize hxE : shareE a b d = xe at hs5
            have HS5 := Lib.hid hs5
            have HXV := Lib.hid hxV
            have HXE := Lib.hid hxE
            clear hs5 hxV hxE
            go_wp2_with fail
            with_reducible refine (HS5.out).mono ?_
            rintro e w5 ⟨rfl, hb5⟩
            have HT5 := Lib.hid (tabIs_below HT4.out hb5)
            have HE5 := Lib.hid (HE4.out.below hb5)
            have HW5 := Lib.hid (HW4.out.trans (hb5.mono HW4.out.size))
            clear hb5 HT4 HE4 HW4
            go_upto_if 152 with (go_at_call 14; with_reducible refine (num_any _ _).mono ?_; rintro e w' ⟨rfl, rfl⟩)
            go_cut [] (fun wx => Below w5.heap.size w5 wx)
            case first =>
              as_aux_lemma =>
              by_cases hsh : xe = 0
              · subst hsh
                have hsh := HXE.out
                obtain ⟨l1, l2, l3, l4, l5, l6, l7, l8, l9⟩ := share_law a b d hsh
                obtain ⟨dd, hdd⟩ : ∃ dd : Nat, dd = d - b := ⟨_, rfl⟩
                rw [← hdd] at l5 l6 l7
                have hs6 := share_any a dd d HA.out (by have := HD.out; omega) HD.out w5
                unfold ShareRes at hs6
                rw [l5] at hs6
                have HS6 := Lib.hid hs6
                have ed : ((d : Int) - (b : Int)) = (dd : Int) := by omega
                have L8 := Lib.hid l8
                have L9 := Lib.hid l9
                rw [HXV.out] at L8 L9 l6 l7
                generalize shareV a dd d = y at *
                have hx' : (x : Int) + y ≤ a := by omega
                have hy' : (a : Int) ≤ (x : Int) + y + 1 := by omega
                have hbd : (b : Int) ≤ d := by omega
                have hd3 : (d : Int) ≤ 1125899906842624 := by omega
                have ha3 : (a : Int) ≤ 1125899906842624 := by omega
                clear hs6 l5 l8 l9 hsh l1 l2 l3 l4 l6 l7 hdd
                by_cases c1 : b = d
                · have c1' : ((b : Int) == (d : Int)) = true := by rw [c1]; simp
                  have cx := L8.out c1
                  by_cases c0 : b = 0
                  · have c0' : ((b : Int) == 0) = true := by rw [c0]; rfl
                    have cy := L9.out c0
                    have k1 : ((x : Int) != (a : Int)) = false := by rw [cx]; simp
                    have k2 : ((x : Int) != 0) = false := by rw [cy]; rfl
                    clear cx cy c1 c0
                    go_wp2_with (first
                      | (go_at_call 14; with_reducible refine (num_any _ _).mono ?_; rintro e w' ⟨rfl, rfl⟩)
                      | (go_at_call 12; with_reducible refine (HS6.out).mono ?_; rintro e w6 ⟨rfl, hb6⟩))
                    go_meet
                    case rel => exact hb6
                  · have c0' : ((b : Int) == 0) = false := by rw [beq_eq_false_iff_ne]; omega
                    have k1 : ((x : Int) != (a : Int)) = false := by rw [cx]; simp
                    clear cx c1 c0
                    go_wp2_with (first
                      | (go_at_call 14; with_reducible refine (num_any _ _).mono ?_; rintro e w' ⟨rfl, rfl⟩)
                      | (go_at_call 12; with_reducible refine (HS6.out).mono ?_; rintro e w6 ⟨rfl, hb6⟩))
                    go_meet
                    case rel => exact hb6
                · have c1' : ((b : Int) == (d : Int)) = false := by rw [beq_eq_false_iff_ne]; omega
                  by_cases c0 : b = 0
                  · have c0' : ((b : Int) == 0) = true := by rw [c0]; rfl
                    have cy := L9.out c0
                    have k2 : ((x : Int) != 0) = false := by rw [cy]; rfl
                    clear cy c1 c0
                    go_wp2_with (first
                      | (go_at_call 14; with_reducible refine (num_any _ _).mono ?_; rintro e w' ⟨rfl, rfl⟩)
                      | (go_at_call 12; with_reducible refine (HS6.out).mono ?_; rintro e w6 ⟨rfl, hb6⟩))
                    go_meet
                    case rel => exact hb6
                  · have c0' : ((b : Int) == 0) = false := by rw [beq_eq_false_iff_ne]; omega
                    clear c1 c0
                    go_wp2_with (first
                      | (go_at_call 14; with_reducible refine (num_any _ _).mono ?_; rintro e w' ⟨rfl, rfl⟩)
                      | (go_at_call 12; with_reducible refine (HS6.out).mono ?_; rintro e w6 ⟨rfl, hb6⟩))
                    go_meet
                    case rel => exact hb6
              · have hs0 : (xe == 0) = false := by rw [beq_eq_false_iff_ne]; exact hsh
                clear hsh
                go_wp2
                go_meet
                case rel => exact Below.refl _ _
            case rest =>
              as_aux_lemma =>
              have HT6 := Lib.hid (tabIs_below HT5.out hcut)
              have HE6 := Lib.hid (HE5.out.below hcut)
              have HW6 := Lib.hid (HW5.out.trans (hcut.mono HW5.out.size))
              clear hcut HT5 HE5 HW5
              have ht7 := text_any a HA.out wc HT6.out
              have ht8 : ∀ w, Lib.TabIs Tryd.prog w "internal/strconv.uint64pow10" .u64 Lib.pow10Tab → _ := fun w h => text_any b HB.out w h
              by_cases ham : a ≤ 1125899906842624
              · rw [if_pos ham, if_pos ham] at ht7
                have HT7 := Lib.hid ht7
                have HT8 := Lib.hid ht8
                clear ht7 ht8
                go_wp2_with fail
                with_reducible refine (HT7.out).mono ?_
                rintro e w7 ⟨rfl, hb7⟩
                have HT9 := Lib.hid (tabIs_below HT6.out hb7)
                have HE7 := Lib.hid (HE6.out.below hb7)
                have HW7 := Lib.hid (HW6.out.trans (hb7.mono HW6.out.size))
                clear hb7 HT6 HE6 HW6
                have ht10 := HT8.out w7 HT9.out
                generalize hT : (if b ≤ 1125899906842624 then moneyL b else []) = T at ht10
                generalize hX : (if b ≤ 1125899906842624 then (0 : Int) else 5) = X at ht10
                have HTX := Lib.hid (And.intro hT hX)
                have HT10 := Lib.hid ht10
                clear hT hX ht10 HT8
                go_wp2_with fail
                with_reducible refine (HT10.out).mono ?_
                rintro e w8 ⟨rfl, hb8⟩
                have HT11 := Lib.hid (tabIs_below HT9.out hb8)
                have HE8 := Lib.hid (HE7.out.below hb8)
                have HW8 := Lib.hid (HW7.out.trans (hb8.mono HW7.out.size))
                clear hb8 HT9 HE7 HW7
                have hsz : (⟨(moneyL a).toArray⟩ : ByteArray).size ≤ 3000 := money_size a HA.out
                have ho := of_any ⟨(moneyL a).toArray⟩ hsz w8 HE8.out HT11.out
                have HO := Lib.hid ho
                clear ho hsz
                go_wp2_with (go_at_call 14; with_reducible refine (num_any _ _).mono ?_; rintro e w' ⟨rfl, rfl⟩)
                with_reducible refine (HO.out).mono ?_
                rintro e w9 ⟨hb9, a9, x9, hr9, rfl⟩
                have hu := OfRel.unique hr9 (.inl ⟨ham, rfl, rfl⟩)
                rw [hu.1, hu.2]
                clear hu hr9
                have HW9 := Lib.hid (HW8.out.trans (hb9.mono HW8.out.size))
                clear hb9
                by_cases hbm : b ≤ 1125899906842624
                · obtain ⟨e1, e2⟩ := HTX.out
                  rw [if_pos hbm] at e1 e2
                  subst e2
                  by_cases hab : a = b
                  · have hq : ((a : Int) == (b : Int)) = true := by rw [hab]; simp
                    have hq2 : (moneyL a == T) = true := by rw [← e1, hab]; simp
                    clear e1 hab
                    go_wp2_with (go_at_call 14; with_reducible refine (num_any _ _).mono ?_; rintro e w' ⟨rfl, rfl⟩)
                    go_ret
                    exact ⟨rfl, HW9.out⟩
                  · have hq : ((a : Int) == (b : Int)) = false := by rw [beq_eq_false_iff_ne]; omega
                    have hq2 : (moneyL a == T) = false := by
                      rw [beq_eq_false_iff_ne, ← e1]
                      exact fun h => hab (money_inj a b ham hbm h)
                    clear e1
                    go_wp2_with (go_at_call 14; with_reducible refine (num_any _ _).mono ?_; rintro e w' ⟨rfl, rfl⟩)
                    go_ret
                    exact ⟨rfl, HW9.out⟩
                · obtain ⟨e1, e2⟩ := HTX.out
                  rw [if_neg hbm] at e1 e2
                  subst e2
                  clear e1
                  go_wp2_with (go_at_call 14; with_reducible refine (num_any _ _).mono ?_; rintro e w' ⟨rfl, rfl⟩)
                  go_ret
                  exact ⟨rfl, HW9.out⟩
              · rw [if_neg ham, if_neg ham] at ht7
                have HT7 := Lib.hid ht7
                clear ht7 ht8
                go_wp2_with fail
                with_reducible refine (HT7.out).mono ?_
                rintro e w7 ⟨rfl, hb7⟩
                have HT9 := Lib.hid (tabIs_below HT6.out hb7)
                have HW7 := Lib.hid (HW6.out.trans (hb7.mono HW6.out.size))
                clear hb7 HT6 HE6 HW6
                have ht10 := text_any b HB.out w7 HT9.out
                generalize (if b ≤ 1125899906842624 then moneyL b else []) = T at ht10
                generalize (if b ≤ 1125899906842624 then (0 : Int) else 5) = X at ht10
                have HT10 := Lib.hid ht10
                clear ht10
                go_wp2_with (first
                  | (go_at_call 14; with_reducible refine (num_any _ _).mono ?_; rintro e w' ⟨rfl, rfl⟩)
                  | (go_at_call 16; with_reducible refine (HT10.out).mono ?_; rintro e w8 ⟨rfl, hb8⟩))
                go_ret
                exact ⟨rfl, HW7.out.trans (hb8.mono HW7.out.size)⟩
    | succ k =>
      as_aux_lemma =>
      have ei : (((k + 1 : Nat) : Int) - 1) = (k : Int) := by omega
      rw [ei]
      have Ei := Lib.hid ei
      have HO := Lib.hid hown.out
      have HBw := Lib.hid hbw.out
      obtain ⟨ad, rfl, hcc⟩ := HX1.out.2.2 (by omega)
      have hcell := cellb HBw.out (hcc k (by omega))
      have hrev := rev_step xs k (by omega)
      generalize xs.getD k 0 = y at hcell hrev
      have HRev := Lib.hid hrev
      clear ei hown hbw hcc hrev
      go_wp2_with (at_builtin; refine app1 w1.heap.size rfl _ _ 22 23 (.int .u64 0) 8 rfl Tryd.underlying22 info_u64 rfl (by decide) _ (nums64 ((xs.drop (k + 1)).reverse)) (.int .u64 y) rfl rfl rfl ?c1 ?c2 ?c3 ?_)
      case c1 => rw [show (nums64 ((xs.drop (k + 1)).reverse)).length = ((xs.drop (k + 1)).reverse).length by simp [nums64]]; exact HO.out
      case c2 => exact HBw.out.size
      case c3 => simp [nums64]; omega
      intro v1 w2 hown hbel hgr hsz
      rw [← HRev.out] at hown
      have HO2 := Lib.hid hown
      have HB2 := Lib.hid (hbel _ _ HBw.out (Nat.le_refl _))
      clear hown hbel hgr hsz
      go_wp2
      go_roundg k
      case measure => omega
      case rel => exact ⟨by omega, by go_num, by have := HO2.out; rw [show (nums64 ((xs.drop (k + 1)).reverse)).length + 1 = ((xs.drop k).reverse).length by simp [nums64]; omega] at this; exact this, HB2.out⟩
end Go.Proofs.YtdmpbkbbijjdaaaDoor
