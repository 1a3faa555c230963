/- What typed forms say: splitting a text, reading a numeral (the reference). No condition. -/
import Derived.Test.YtmpmmodbigjdgaaDoorHText
import Derived.Test.YtmpmmodbigjdgaaDoorHDec
namespace Go.Proofs.YtmpmmodbigjdgaaDoor
open Go Go.RowKit
set_option linter.unusedSimpArgs false
set_option linter.unusedVariables false

theorem cut_same {s : List UInt8} {i : Nat} : cut s (i : Int) (i : Int) = [] := by
  simp [cut]

theorem cut_snoc {s : List UInt8} {a i : Nat} (h : a ≤ i) (hi : i < s.length) : cut s (a : Int) ((i + 1 : Nat) : Int) = cut s (a : Int) (i : Int) ++ [s[i]] := by
  simp only [cut, Int.toNat_natCast]
  rw [List.take_add_one, List.getElem?_eq_getElem hi, List.drop_append_of_le_length (by simp; omega)]
  rfl

theorem l01Split_is {s : List UInt8} (c : UInt8) (hl : s.length ≤ 1048576) : spec_l01Split s c = some (splitOn c s) := by
  unfold spec_l01Split
  obtain ⟨y, hy, hq⟩ := while_post (step := spec_l01Split_l1 s c) (fun st => ∃ a i : Nat, st.2.1 = (a : Int) ∧ st.2.2 = (i : Int) ∧ a ≤ i ∧ i ≤ s.length ∧ st.1.length ≤ i ∧ st.1 ++ splitAcc c (cut s (a : Int) (i : Int)) (s.drop i) = splitOn c s)
    (fun y => ∃ a : Nat, y.2 = (a : Int) ∧ a ≤ s.length ∧ y.1.length ≤ s.length ∧ y.1 ++ [cut s (a : Int) (s.length : Int)] = splitOn c s) (fun st => s.length - st.2.2.toNat) (by
    rintro ⟨out, fr, ii⟩ ⟨a, i, h1, h2, hai, hi, ho, he⟩
    simp only at h1 h2 ho he
    subst h1 h2
    by_cases hlt : i < s.length
    · left
      have hd : s.drop i = s[i] :: s.drop (i + 1) := List.drop_eq_getElem_cons hlt
      have hg : s.getD i 0 = s[i] := getD_lt hlt 0
      rw [hd, splitAcc] at he
      have hc2 : ((s[i].toNat : Int) == (c.toNat : Int)) = decide (s[i] = c) := by
        rw [Bool.eq_iff_iff]; simp only [beq_iff_eq, decide_eq_true_eq, ← UInt8.toNat_inj]; omega
      by_cases hc : s[i] = c
      · rw [if_pos hc] at he
        refine ⟨(out ++ [cut s (a : Int) (i : Int)], ((i + 1 : Nat) : Int), ((i + 1 : Nat) : Int)), ?_, ⟨i + 1, i + 1, rfl, rfl, Nat.le_refl _, by omega, by simp; omega, ?_⟩, by simp; omega⟩
        · simp only [spec_l01Split_l1, Int.ofNat_lt, hlt, decide_true, if_true, ixOk_nat, ck_true, Int.toNat_natCast, hg, hc, beq_self_eq_true, wrap_nat1 (show i < 9223372036854775807 by omega)]
          rw [cutOk_of (by omega) (by omega) (by omega), ck_true, appOk_of (by simp; omega), ck_true]
        · simp only
          rw [cut_same, List.append_assoc]
          exact he
      · rw [if_neg hc] at he
        refine ⟨(out, (a : Int), ((i + 1 : Nat) : Int)), ?_, ⟨a, i + 1, rfl, rfl, by omega, by omega, by show out.length ≤ i + 1; omega, ?_⟩, by simp; omega⟩
        · simp only [spec_l01Split_l1, Int.ofNat_lt, hlt, decide_true, if_true, ixOk_nat, ck_true, Int.toNat_natCast, hg, hc2, hc, decide_false, Bool.false_eq_true, if_false, wrap_nat1 (show i < 9223372036854775807 by omega)]
        · simp only
          rw [cut_snoc hai hlt]
          exact he
    · right
      have hie : i = s.length := by omega
      subst hie
      refine ⟨(out, (a : Int)), by simp [spec_l01Split_l1], a, rfl, hai, ho, ?_⟩
      rw [List.drop_length, splitAcc] at he
      exact he) (s := (([] : List (List UInt8)), 0, 0)) ⟨0, 0, rfl, rfl, Nat.le_refl _, Nat.zero_le _, by simp, by simp [cut, splitOn]⟩
  obtain ⟨a, h1, h2, h3, h4⟩ := hq
  obtain ⟨o, y2⟩ := y
  simp only at h1 h3 h4
  subst h1
  rw [hy]
  simp only [Option.bind_some]
  rw [cutOk_of (by omega) (by omega) (by omega), ck_true, appOk_of (by simp; omega), ck_true, h4]

/-! ### Numerals -/

theorem l01Digit_is (c : UInt8) : spec_l01Digit c = some (dig c) := id rfl

theorem dig_wrap {c : UInt8} (h : dig c = true) {n : Nat} (hn : n ≤ 100000000000000000) : IntKind.i64.wrap ((IntKind.i64.wrap (10 * (n : Int))) + (IntKind.i64.wrap (IntKind.u8.wrap ((c.toNat : Int) - 48)))) = ((n * 10 + (c.toNat - 48) : Nat) : Int) := by
  have hc := dig_iff.1 h
  have e1 : IntKind.u8.wrap ((c.toNat : Int) - 48) = ((c.toNat - 48 : Nat) : Int) := by
    have : ((c.toNat : Int) - 48) = ((c.toNat - 48 : Nat) : Int) := by omega
    rw [this]; exact wrap_u8 (by omega) (by omega)
  rw [e1, wrap_i64 (n := 10 * (n : Int)) (by omega) (by omega), wrap_i64 (n := ((c.toNat - 48 : Nat) : Int)) (by omega) (by omega), wrap_i64 (by omega) (by omega)]
  omega

theorem num_loop (s t : List UInt8) (ht : t.length ≤ 18) : ∀ (r : List UInt8) (i n : Nat), t.drop i = r → i + r.length = t.length → n < 10 ^ i →
    whileE (spec_l01Number_l1 s t) ((n : Int), (i : Int)) = some (if r.all dig = true then .inl ((valF n r : Nat) : Int) else .inr (0, false)) := by
  intro r
  induction r with
  | nil =>
    intro i n hd hi _
    have : i = t.length := by simpa using hi
    subst this
    refine whileE_done ?_
    simp [spec_l01Number_l1, valF_nil]
  | cons c r ih =>
    intro i n hd hi hn
    rw [List.length_cons] at hi
    have hlt : i < t.length := by omega
    have hc : t.getD i 0 = c := by
      rw [List.getD_eq_getElem?_getD]
      have : (t.drop i)[0]? = some c := by rw [hd]; rfl
      rw [List.getElem?_drop, Nat.add_zero] at this
      rw [this]; rfl
    have hd2 : t.drop (i + 1) = r := by
      have := congrArg List.tail hd
      rwa [List.tail_drop] at this
    by_cases hg : dig c = true
    · have hp := pow_small (show i ≤ 17 + 1 by omega)
      have hp17 : (10 : Nat) ^ i ≤ 10 ^ 17 := Nat.pow_le_pow_right (by omega) (by omega)
      have hcd := dig_iff.1 hg
      rw [whileE_next (s' := (((n * 10 + (c.toNat - 48) : Nat) : Int), ((i + 1 : Nat) : Int))) (by
        simp only [spec_l01Number_l1, Int.ofNat_lt, hlt, decide_true, if_true, ixOk_nat, ck_true, Int.toNat_natCast, hc, l01Digit_is, hg, Option.bind_some, Bool.not_true, Bool.false_eq_true, if_false, wrap_nat1 (show i < 9223372036854775807 by omega), dig_wrap hg (show n ≤ 100000000000000000 by omega)])]
      rw [ih (i + 1) (n * 10 + (c.toNat - 48)) hd2 (by omega) (by rw [Nat.pow_succ]; omega)]
      simp only [List.all_cons, hg, Bool.true_and, valF_cons]
    · have hg2 : dig c = false := by simpa using hg
      rw [whileE_done (r := .inr (0, false)) (by
        simp only [spec_l01Number_l1, Int.ofNat_lt, hlt, decide_true, if_true, ixOk_nat, ck_true, Int.toNat_natCast, hc, l01Digit_is, hg2, Option.bind_some, Bool.not_false])]
      simp only [List.all_cons, hg2, Bool.false_and, Bool.false_eq_true, if_false]

theorem num_loop2 : spec_l01Number_l2 = spec_l01Number_l1 := id rfl

theorem l01Number_is {s : List UInt8} (hl : s.length ≤ 1048576) : spec_l01Number s = some (rdDec s) := by
  unfold spec_l01Number
  cases s with
  | nil => simp [rdDec, Lib.trimPrefix, Lib.hasPrefix, ck_true]
  | cons c r =>
    have h0 : ((c :: r) == ([] : List UInt8)) = false := rfl
    have h1 : ixOk 0 (c :: r).length = true := ixOk_of (by omega) (by simp)
    have hc2 : ((((c :: r).getD 0 0).toNat : Int) == 45) = decide (c = 45) := by
      rw [Bool.eq_iff_iff]; simp only [List.getD_cons_zero, beq_iff_eq, decide_eq_true_eq, ← UInt8.toNat_inj]
      show (c.toNat : Int) = 45 ↔ c.toNat = 45
      omega
    simp only [h0, h1, Bool.or_true, ck_true, Bool.not_false, Bool.true_and, hc2]
    by_cases hc : c = 45
    · subst hc
      simp only [decide_true, if_true]
      have hcut : cut ((45 : UInt8) :: r) 1 ((((45 : UInt8) :: r).length : Nat) : Int) = r := by simp [cut]
      rw [cutOk_of (by omega) (by simp; omega) (by omega), ck_true, hcut, rdDec_minus]
      by_cases hb : r.length < 1 ∨ 18 < r.length
      · have e : (decide ((r.length : Int) < 1) || decide (18 < (r.length : Int))) = true := by simp; omega
        rw [if_pos hb, e]; rfl
      · have e : (decide ((r.length : Int) < 1) || decide (18 < (r.length : Int))) = false := by simp; omega
        rw [if_neg hb, e]
        simp only [Bool.false_eq_true, if_false]
        have hlp := num_loop ((45 : UInt8) :: r) r (by omega) r 0 0 rfl (by omega) (by simp)
        rw [show ((0 : Nat) : Int) = 0 from rfl] at hlp
        rw [hlp]
        by_cases hd : r.all dig = true
        · have hv := valF_lt (l := r) (n := 0) (a := 0) (by simp) hd
          have hv2 := pow_small (k := 0 + r.length) (by omega)
          have w : IntKind.i64.wrap (0 - ((valF 0 r : Nat) : Int)) = -((valF 0 r : Nat) : Int) := by rw [wrap_i64 (by omega) (by omega)]; omega
          have lt : decide ((r.length : Int) < (((45 : UInt8) :: r).length : Nat)) = true := by simp; omega
          simp only [hd, if_true, Option.bind_some, w, lt, l01Dec_is (n := -((valF 0 r : Nat) : Int)) ⟨by omega, by omega⟩]
          by_cases he : Lib.itoa (-((valF 0 r : Nat) : Int)) = 45 :: r
          · have : (Lib.itoa (-((valF 0 r : Nat) : Int)) == 45 :: r) = true := by simpa using he
            simp only [he, beq_self_eq_true, Bool.not_true, Bool.false_eq_true, if_false, if_true]
          · have : (Lib.itoa (-((valF 0 r : Nat) : Int)) == 45 :: r) = false := by simpa using he
            simp only [this, he, Bool.not_false, if_true, if_false]
        · simp only [hd, Bool.false_eq_true, if_false, Option.bind_some]
    · simp only [hc, decide_false, Bool.false_eq_true, if_false]
      rw [rdDec_other hc]
      by_cases hb : (c :: r).length < 1 ∨ 18 < (c :: r).length
      · have e : (decide (((c :: r).length : Int) < 1) || decide (18 < ((c :: r).length : Int))) = true := by simp at hb ⊢; omega
        rw [if_pos hb, e]; rfl
      · have e : (decide (((c :: r).length : Int) < 1) || decide (18 < ((c :: r).length : Int))) = false := by simp at hb ⊢; omega
        rw [if_neg hb, e]
        simp only [Bool.false_eq_true, if_false, num_loop2]
        have hlp := num_loop (c :: r) (c :: r) (by omega) (c :: r) 0 0 rfl (by omega) (by simp)
        rw [show ((0 : Nat) : Int) = 0 from rfl] at hlp
        rw [hlp]
        by_cases hd : (c :: r).all dig = true
        · have hv := valF_lt (l := c :: r) (n := 0) (a := 0) (by simp) hd
          have hv2 := pow_small (k := 0 + (c :: r).length) (by omega)
          have lt : decide (((c :: r).length : Int) < ((c :: r).length : Int)) = false := by simp
          simp only [hd, if_true, Option.bind_some, lt, Bool.false_eq_true, if_false, l01Dec_is (n := ((valF 0 (c :: r) : Nat) : Int)) ⟨by omega, by omega⟩]
          by_cases he : Lib.itoa ((valF 0 (c :: r) : Nat) : Int) = c :: r
          · have : (Lib.itoa ((valF 0 (c :: r) : Nat) : Int) == c :: r) = true := by simpa using he
            simp only [he, beq_self_eq_true, Bool.not_true, Bool.false_eq_true, if_false, if_true]
          · have : (Lib.itoa ((valF 0 (c :: r) : Nat) : Int) == c :: r) = false := by simpa using he
            simp only [this, he, Bool.not_false, if_true, if_false]
        · simp only [hd, Bool.false_eq_true, if_false, Option.bind_some]

theorem hRdDec_eq {s : List UInt8} (hl : s.length ≤ 1048576) : hRdDec s = some (rdDec s) := by
  unfold hRdDec; rw [if_pos (by omega)]

/-- A numeral that is read is the numeral of what is read. -/
theorem rdDec_itoa {s : List UInt8} (h : (rdDec s).2 = true) : Lib.itoa (rdDec s).1 = s ∧ R64 (rdDec s).1 := by
  cases s with
  | nil => simp [rdDec, Lib.trimPrefix, Lib.hasPrefix] at h
  | cons c r =>
    by_cases hc : c = 45
    · subst hc
      rw [rdDec_minus] at h ⊢
      split at h
      · cases h
      · rename_i hb
        rw [if_neg hb]
        split at h
        · rename_i hd
          rw [if_pos hd]
          split at h
          · rename_i he
            rw [if_pos he]
            have hv := valF_lt (l := r) (n := 0) (a := 0) (by simp) hd
            have hv2 := pow_small (k := 0 + r.length) (by omega)
            exact ⟨he, by show -9223372036854775808 ≤ -((valF 0 r : Nat) : Int); omega, by show -((valF 0 r : Nat) : Int) ≤ 9223372036854775807; omega⟩
          · cases h
        · cases h
    · rw [rdDec_other hc] at h ⊢
      split at h
      · cases h
      · rename_i hb
        rw [if_neg hb]
        split at h
        · rename_i hd
          rw [if_pos hd]
          split at h
          · rename_i he
            rw [if_pos he]
            have hv := valF_lt (l := c :: r) (n := 0) (a := 0) (by simp) hd
            have hv2 := pow_small (k := 0 + (c :: r).length) (by omega)
            exact ⟨he, by show -9223372036854775808 ≤ ((valF 0 (c :: r) : Nat) : Int); omega, by show ((valF 0 (c :: r) : Nat) : Int) ≤ 9223372036854775807; omega⟩
          · cases h
        · cases h

end Go.Proofs.YtmpmmodbigjdgaaDoor
