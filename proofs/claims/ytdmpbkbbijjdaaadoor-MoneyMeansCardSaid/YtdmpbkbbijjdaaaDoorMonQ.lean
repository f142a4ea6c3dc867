import Derived.Test.YtdmpbkbbijjdaaaDoorMonP
import Derived.Test.YtdmpbkbbijjdaaaDoorMonH
import Derived.Test.YtdmpbkbbijjdaaaDoorShelfP
import Derived.WalkSpells
import Derived.WalkLawsBesides
import Derived.BigQuiet
import Derived.Deep.QuietTactic
namespace Go.Proofs.YtdmpbkbbijjdaaaDoor
open Go.Shelf Go.RowKit Go.Sort Go.Lib
set_option linter.unusedVariables false
set_option linter.unusedSimpArgs false

theorem whole_nodot (l : List UInt8) (h : ∀ c ∈ l, c ≠ 46) : wholeOf l = l ∧ restOf l = [] := by
  unfold wholeOf restOf
  induction l with
  | nil => exact ⟨rfl, rfl⟩
  | cons c l ih =>
    have hc : (c != 46) = true := by simpa using h c List.mem_cons_self
    obtain ⟨h1, h2⟩ := ih fun x hx => h x (List.mem_cons_of_mem _ hx)
    constructor
    · simp only [List.takeWhile, hc]; rw [h1]
    · simp only [List.dropWhile, hc]; exact h2
theorem whole_dot (l : List UInt8) (k : Nat) (hk : l[k]? = some 46) (h : ∀ c ∈ l.take k, c ≠ 46) : wholeOf l = l.take k ∧ restOf l = l.drop (k + 1) := by
  unfold wholeOf restOf
  induction l generalizing k with
  | nil => simp at hk
  | cons c l ih =>
    cases k with
    | zero =>
      simp at hk
      subst hk
      exact ⟨rfl, rfl⟩
    | succ k =>
      have hc : (c != 46) = true := by simpa using h c (by simp)
      obtain ⟨h1, h2⟩ := ih k (by simpa using hk) (fun x hx => h x (by simp [hx]))
      constructor
      · simp only [List.takeWhile, hc, List.take_succ_cons]; rw [h1]
      · simp only [List.dropWhile, hc, List.drop_succ_cons]; exact h2

/-- The error variables, as the row lists them. -/
def ErrVars (w : World) : Prop := (∃ tp p, w.var? Tryd.prog "strconv.ErrSyntax" = some #[.iface tp p]) ∧ (∃ tq q, w.var? Tryd.prog "strconv.ErrRange" = some #[.iface tq q])
theorem var_below {P : Program} {w w' : World} {name : String} {cs : Array Value} (h : w.var? P name = some cs) (hb : Below w.heap.size w w') : w'.var? P name = some cs := by
  unfold World.var? at *
  cases hg : P.globalNamed name with
  | none => simp [hg] at h
  | some g =>
    simp only [hg, Option.bind_some] at h ⊢
    have hlt : g < w.heap.size := by
      rcases Nat.lt_or_ge g w.heap.size with h' | h'
      · exact h'
      · rw [Array.getElem?_eq_none h'] at h; simp at h
    rw [hb.block g hlt]
    exact h
theorem ErrVars.below {w w' : World} (h : ErrVars w) (hb : Below w.heap.size w w') : ErrVars w' := by
  obtain ⟨⟨tp, p, h1⟩, ⟨tq, q, h2⟩⟩ := h
  exact ⟨⟨tp, p, var_below h1 hb⟩, ⟨tq, q, var_below h2 hb⟩⟩
theorem parse32_any (s : ByteArray) (hlim : s.size ≤ 281474976710656) (w : World) (h : ErrVars w) :
    Calls Tryd.prog 24 #[.string s, .int .i64 10, .int .i64 32] w (PuRes s.data.toList w) := by
  obtain ⟨⟨tp, p, h1⟩, ⟨tq, q, h2⟩⟩ := h
  exact Tryd.parse32 s hlim tp p tq q w h1 h2

theorem BA_append (a b : ByteArray) : (a ++ b).data.toList = a.data.toList ++ b.data.toList := by simp
theorem zeros_cut (k : Nat) : (List.drop k [(48 : UInt8), 48, 48, 48, 48, 48, 48, 48]).take (8 - k) = List.replicate (8 - k) 48 := by
  show (List.drop k (List.replicate 8 (48 : UInt8))).take (8 - k) = _
  rw [List.drop_replicate, List.take_replicate]; simp
theorem BA_toList (s : ByteArray) : s.toList = s.data.toList := ByteArray.toList_eq s
def MoRes (l : List UInt8) (w : World) (e : Ending) (w' : World) : Prop :=
  Below w.heap.size w w' ∧ ∃ (a : Nat) (x : Int), OfRel l a x ∧ e = .returned (.tuple #[.int .u64 (a : Nat), .int .i64 x])

set_option maxHeartbeats 1000000 in
theorem of_any (s : ByteArray) (hs : s.size ≤ 3000) (w : World) (hE : ErrVars w) (htab : Lib.TabIs Tryd.prog w "internal/strconv.uint64pow10" .u64 Lib.pow10Tab) :
    Calls Tryd.prog 18 #[.string s] w (MoRes s.data.toList w) := by
  have HE := Lib.hid hE
  have HT := Lib.hid htab
  clear hE htab
  go_enter Tryd.func18, Tryd.ntmps18
  go_upto_block 0 with (fail)
  go_cut [4, 5] (fun v4 v5 wx => ∃ a b : ByteArray, v4 = .string a ∧ v5 = .string b ∧ Hid (a.data.toList = wholeOf s.data.toList) ∧ Hid (b.data.toList = restOf s.data.toList) ∧ Below w.heap.size w wx)
  case first =>
    go_wp2
    go_loopg [16, 4, 5] s.size (fun g i v4 v5 wr => ∃ k : Nat, g + k = s.size ∧ i = .int .i64 k ∧ v4 = .string s ∧ v5 = .string ⟨#[]⟩ ∧ Hid (∀ c ∈ s.data.toList.take k, c ≠ 46) ∧ w = wr)
    case atStart => exact ⟨0, by omega, rfl, rfl, rfl, by show ∀ c ∈ _, _; simp, rfl⟩
    case round =>
      obtain ⟨k, hk, rfl, rfl, rfl, hno, rfl⟩ := hrel
      have HNo := Lib.hid hno.out
      clear hno
      by_cases hlt : k < s.size
      · have hget : s.data.toList[k]? = some s[k] := by
          rw [List.getElem?_eq_getElem (by simpa using hlt)]; rfl
        have HG := Lib.hid hget
        clear hget
        by_cases hd : s[k] = 46
        · have hb : ((s[k].toNat : Int) == 46) = true := by rw [hd]; rfl
          have hk1 : (k : Int) + 1 ≤ (s.size : Int) := by omega
          go_wp2
          go_quiet (fail)
          go_wp2
          go_meet
          case rel =>
            obtain ⟨e1, e2⟩ := whole_dot s.data.toList k (by rw [HG.out, hd]) HNo.out
            exact ⟨_, _, rfl, rfl, by show _ = _; rw [e1]; simp, by show _ = _; rw [e2]; simp; rw [List.take_of_length_le (by simp)], below_drewN (Below.refl _ _) _⟩
        · have hb : ((s[k].toNat : Int) == 46) = false := by
            rw [beq_eq_false_iff_ne]; intro h'; exact hd (UInt8.toNat_inj.1 (by show s[k].toNat = 46; omega))
          go_wp2
          go_roundg (gk - 1)
          case measure => omega
          case rel =>
            refine ⟨k + 1, by omega, by go_num, rfl, rfl, ?_, rfl⟩
            show ∀ c ∈ _, _
            rw [List.take_add_one, HG.out]
            intro c hc
            rcases List.mem_append.1 hc with hc | hc
            · exact HNo.out c hc
            · simp at hc; rw [hc]; exact hd
      · obtain rfl : k = s.size := by omega
        go_wp2
        go_meet
        case rel =>
          have e := whole_nodot s.data.toList (by have := HNo.out; rwa [List.take_of_length_le (by simp)] at this)
          exact ⟨s, ⟨#[]⟩, rfl, rfl, by show _ = _; rw [e.1], by show _ = _; rw [e.2], Below.refl _ _⟩
  case rest =>
    obtain ⟨a, b, rfl, rfl, ha, hb, hbw⟩ := hcut
    have Ha := Lib.hid ha.out
    have Hb := Lib.hid hb.out
    have HE1 := Lib.hid (HE.out.below hbw)
    have HT1 := Lib.hid (tabIs_below HT.out hbw)
    have HW := Lib.hid hbw
    have hal : a.size ≤ 3000 := by
      have h1 : a.size = (wholeOf s.data.toList).length := by rw [← Ha.out]; simp
      have h2 : (wholeOf s.data.toList).length ≤ s.data.toList.length := (List.takeWhile_prefix _).length_le
      simp at h2; omega
    have hbl : b.size ≤ 3000 := by
      have h1 : b.size = (restOf s.data.toList).length := by rw [← Hb.out]; simp
      have h2 : (restOf s.data.toList).length ≤ s.data.toList.length := by
        unfold restOf
        have := (List.dropWhile_suffix (· != 46) (l := s.data.toList)).length_le
        simp only [List.length_drop]; omega
      simp at h2; omega
    clear ha hb hbw HE HT
    go_wp2_with fail
    refine (parse32_any a (by omega) _ HE1.out).mono ?_
    rintro e w2 ⟨hb2, hres⟩
    have HE2 := Lib.hid (HE1.out.below hb2)
    have HT2 := Lib.hid (tabIs_below HT1.out hb2)
    have HW2 := Lib.hid (HW.out.trans (hb2.mono HW.out.size))
    clear hb2 HE1 HT1 HW
    rcases hres with ⟨n, hn, rfl⟩ | ⟨hno, v, N, rfl⟩
    · rw [Ha.out] at hn
      have hn32 := parse32_le _ _ hn
      have HN := Lib.hid hn
      clear hn
      by_cases h8 : 8 < b.size
      · go_wp2
        go_ret2
        exact ⟨HW2.out, 0, 4, no_long _ (by rw [← Hb.out]; simpa using h8), rfl⟩
      · by_cases h0 : b = ⟨#[]⟩
        · subst h0
          have hr0 : restOf s.data.toList = [] := by rw [← Hb.out]
          have Hr0 := Lib.hid hr0
          clear hr0
          obtain ⟨q, hq⟩ : ∃ q : Nat, q = n * 100000000 + 0 := ⟨_, rfl⟩
          have eq1 : ((n : Int) * 100000000) = (q : Int) := by omega
          have Hq := Lib.hid hq
          have hqb : q < 18446744073709551616 := by omega
          have Hqb := Lib.hid hqb
          have Heq1 := Lib.hid eq1
          clear hq eq1 hqb
          go_wp2_with fail
          rw [Heq1.out]
          refine (text_any q Hqb.out _ HT2.out).mono ?_
          rintro e w9 ⟨rfl, hb9⟩
          have HW9 := Lib.hid (HW2.out.trans (hb9.mono HW2.out.size))
          clear hb9
          by_cases hok : q ≤ 1125899906842624 ∧ moneyL q = s.data.toList
          · rw [if_pos hok.1, if_pos hok.1]
            have hse : (⟨(moneyL q).toArray⟩ : ByteArray) = s := by rw [hok.2]
            rw [hse]
            go_wp2
            go_ret2
            exact ⟨HW9.out, q, 0, .inl ⟨hok.1, hok.2, rfl⟩, rfl⟩
          · have HF := Lib.hid (no_back _ n 0 HN.out (.inl ⟨Hr0.out, rfl⟩) (by rw [← Hq.out]; exact hok))
            by_cases hle : q ≤ 1125899906842624
            · rw [if_pos hle, if_pos hle]
              have hne : (moneyL q == s.toList) = false := by
                rw [beq_eq_false_iff_ne, BA_toList]
                exact fun h => hok ⟨hle, h⟩
              go_wp2
              go_ret2
              exact ⟨HW9.out, 0, 4, HF.out, rfl⟩
            · rw [if_neg hle, if_neg hle]
              go_wp2
              go_ret2
              exact ⟨HW9.out, 0, 4, HF.out, rfl⟩
        · have hbne : restOf s.data.toList ≠ [] := by
            rw [← Hb.out]; intro h'; apply h0
            have : b.data = #[] := by simpa using h'
            cases b; simp at this; subst this; rfl
          have hbn : b.toList.isEmpty = false := by
            rw [BA_toList, Hb.out]; cases hc : restOf s.data.toList with
            | nil => exact absurd hc hbne
            | cons x r => rfl
          have hz := Hb.out
          have HBne := Lib.hid hbne
          clear hbne h0 hz
          go_wp2_with fail
          have hcat : (b ++ (⟨#[48, 48, 48, 48, 48, 48, 48, 48]⟩ : ByteArray).extract b.size 8).data.toList = restOf s.data.toList ++ List.replicate (8 - (restOf s.data.toList).length) 48 := by
            have hsz : b.size = (restOf s.data.toList).length := by rw [← Hb.out]; simp
            rw [BA_append, Hb.out, Lib.extract_data, hsz, zeros_cut]
          refine (parse32_any _ ?_ _ HE2.out).mono ?_
          · have h1 : ∀ x : ByteArray, x.size = x.data.toList.length := fun x => by simp
            have hsz : b.size = (restOf s.data.toList).length := by rw [← Hb.out]; simp
            rw [h1, hcat, List.length_append, List.length_replicate]; omega
          rintro e w3 ⟨hb3, hres⟩
          rw [hcat] at hres
          clear hcat
          have HT3 := Lib.hid (tabIs_below HT2.out hb3)
          have HW3 := Lib.hid (HW2.out.trans (hb3.mono HW2.out.size))
          clear hb3 HE2 HT2 HW2
          rcases hres with ⟨m, hm, rfl⟩ | ⟨hno, v, N, rfl⟩
          · have hm32 := parse32_le _ _ hm
            have HM := Lib.hid hm
            clear hm
            obtain ⟨q, hq⟩ : ∃ q : Nat, q = n * 100000000 + m := ⟨_, rfl⟩
            have eq1 : ((n : Int) * 100000000 + (m : Int)) = (q : Int) := by omega
            have Hq := Lib.hid hq
            have hqb : q < 18446744073709551616 := by omega
            have Hqb := Lib.hid hqb
            have Heq1 := Lib.hid eq1
            clear hq eq1 hqb
            go_wp2_with fail
            rw [Heq1.out]
            refine (text_any q Hqb.out _ HT3.out).mono ?_
            rintro e w9 ⟨rfl, hb9⟩
            have HW9 := Lib.hid (HW3.out.trans (hb9.mono HW3.out.size))
            clear hb9
            by_cases hok : q ≤ 1125899906842624 ∧ moneyL q = s.data.toList
            · rw [if_pos hok.1, if_pos hok.1]
              have hse : (⟨(moneyL q).toArray⟩ : ByteArray) = s := by rw [hok.2]
              rw [hse]
              go_wp2
              go_ret2
              exact ⟨HW9.out, q, 0, .inl ⟨hok.1, hok.2, rfl⟩, rfl⟩
            · have HF := Lib.hid (no_back _ n m HN.out (.inr ⟨HBne.out, HM.out⟩) (by rw [← Hq.out]; exact hok))
              by_cases hle : q ≤ 1125899906842624
              · rw [if_pos hle, if_pos hle]
                have hne : (moneyL q == s.toList) = false := by
                  rw [beq_eq_false_iff_ne, BA_toList]
                  exact fun h => hok ⟨hle, h⟩
                go_wp2
                go_ret2
                exact ⟨HW9.out, 0, 4, HF.out, rfl⟩
              · rw [if_neg hle, if_neg hle]
                go_wp2
                go_ret2
                exact ⟨HW9.out, 0, 4, HF.out, rfl⟩
          · have HNo := Lib.hid hno
            clear hno
            go_wp2
            go_ret2
            exact ⟨HW3.out, 0, 4, no_rest _ HBne.out HNo.out, rfl⟩
    · rw [Ha.out] at hno
      have HNo := Lib.hid hno
      clear hno
      go_wp2
      go_ret2
      exact ⟨HW2.out, 0, 4, no_whole _ HNo.out, rfl⟩
end Go.Proofs.YtdmpbkbbijjdaaaDoor
