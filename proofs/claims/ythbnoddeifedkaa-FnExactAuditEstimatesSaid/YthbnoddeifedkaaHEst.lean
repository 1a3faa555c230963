/- What typed forms say: which lists of estimates are valid. No condition. -/
import Derived.Test.YthbnoddeifedkaaHName
import Derived.Test.YthbnoddeifedkaaHUtil
import Derived.Test.YthbnoddeifedkaaEngSH
namespace Go.Proofs.Ythbnoddeifedkaa
open Go Go.RowKit
set_option linter.unusedSimpArgs false
set_option linter.unusedVariables false

theorem bytes_cmp : ∀ (a b : List UInt8), (decide (Lib.compareBytes a b < 0) = Op.bytesLess a b) ∧ ((Lib.compareBytes a b == 0) = (a == b))
  | [], [] => by simp [Lib.compareBytes, Op.bytesLess]
  | [], _ :: _ => by simp [Lib.compareBytes, Op.bytesLess]
  | _ :: _, [] => by simp [Lib.compareBytes, Op.bytesLess]
  | x :: a, y :: b => by
    obtain ⟨h1, h2⟩ := bytes_cmp a b
    by_cases e : x = y
    · subst e
      have hx : ¬ x < x := UInt8.lt_irrefl x
      simp only [Lib.compareBytes, Op.bytesLess, hx, if_false, decide_false, Bool.false_or, beq_self_eq_true, Bool.true_and]
      refine ⟨h1, ?_⟩
      rw [h2, Bool.eq_iff_iff]; simp
    · by_cases hlt : x < y
      · simp [Lib.compareBytes, Op.bytesLess, hlt, e]
      · have hgt : y < x := UInt8.lt_of_le_of_ne (UInt8.not_lt.1 hlt) (Ne.symm e)
        simp [Lib.compareBytes, Op.bytesLess, hlt, hgt, e]

theorem Compare_is (a b : List UInt8) : strings_Compare a b = some (Lib.compareBytes a b) := id rfl

theorem CompareInt_is (a b : Int) : cmp_Compare_int64 a b = some (if a < b then -1 else if b < a then 1 else 0) := by
  unfold cmp_Compare_int64 cmp_isNaN_int64
  by_cases h1 : a < b
  · simp [h1]
  · by_cases h2 : b < a
    · simp [h1, h2]
    · simp [h1, h2]

theorem Or_is (a b c : Int) : cmp_Or_int [a, b, c] = some (if a ≠ 0 then a else if b ≠ 0 then b else c) := by
  unfold cmp_Or_int
  have hs := while_find (step := cmp_Or_int_l1 0 [a, b, c] (([a, b, c] : List Int).length : Int)) (fun i => !(([a, b, c] : List Int).getD i default == 0)) (fun i => ([a, b, c] : List Int).getD i default) 3
    (fun i hi => by
      have h1 : ixOk (i : Int) ([a, b, c] : List Int).length = true := by rw [ixOk_nat]; simpa using hi
      have h2 : decide ((i : Int) < (([a, b, c] : List Int).length : Int)) = true := by simp; omega
      simp only [cmp_Or_int_l1, h1, h2, ck_true, if_true, Int.toNat_natCast, wrap_nat1 (show i < 9223372036854775807 by omega)]
      cases (!(([a, b, c] : List Int).getD i default == 0)) <;> rfl)
    (by simp [cmp_Or_int_l1])
  rw [hs]
  by_cases ha : a = 0
  · by_cases hb : b = 0
    · by_cases hc : c = 0
      · subst ha; subst hb; subst hc; rfl
      · subst ha; subst hb
        have : (List.range 3).find? (fun i => !(([0, 0, c] : List Int).getD i default == 0)) = some 2 := by
          rw [List.find?_range_eq_some]
          refine ⟨by simpa using hc, by simp, fun j hj => ?_⟩
          match j, hj with
          | 0, _ => rfl
          | 1, _ => rfl
        rw [this]; simp
    · subst ha
      have : (List.range 3).find? (fun i => !(([0, b, c] : List Int).getD i default == 0)) = some 1 := by
        rw [List.find?_range_eq_some]
        refine ⟨by simpa using hb, by simp, fun j hj => ?_⟩
        match j, hj with
        | 0, _ => rfl
      rw [this]; simp [hb]
  · have : (List.range 3).find? (fun i => !(([a, b, c] : List Int).getD i default == 0)) = some 0 := by
      rw [List.find?_range_eq_some]
      exact ⟨by simpa using ha, by simp, fun j hj => by omega⟩
    rw [this]; simp [ha]

def beforeE (a b : Estimate) : Bool := if a.Time = b.Time then (if a.Star = b.Star then Op.bytesLess a.Observer b.Observer else Op.bytesLess a.Star b.Star) else decide (a.Time < b.Time)

theorem Before_is (a b : Estimate) : spec_l06Before a b = some (beforeE a b) := by
  unfold spec_l06Before beforeE
  by_cases h1 : a.Time = b.Time
  · by_cases h2 : a.Star = b.Star
    · simp [h1, h2]
    · simp [h1, h2]
  · simp [h1]

theorem compareE_is (a b : Estimate) : ∃ c, impl_compareEstimates a b = some c ∧ decide (c < 0) = beforeE a b := by
  unfold impl_compareEstimates
  simp only [CompareInt_is, Compare_is, Or_is, Option.bind_some]
  refine ⟨_, rfl, ?_⟩
  obtain ⟨s1, s2⟩ := bytes_cmp a.Star b.Star
  obtain ⟨o1, o2⟩ := bytes_cmp a.Observer b.Observer
  unfold beforeE
  by_cases h1 : a.Time = b.Time
  · simp only [h1, Int.lt_irrefl, if_false, ne_eq, not_true_eq_false, if_true]
    by_cases h2 : a.Star = b.Star
    · have e : Lib.compareBytes a.Star b.Star = 0 := by
        have : (a.Star == b.Star) = true := by simpa using h2
        rw [this] at s2; simpa using s2
      simp only [e, not_true_eq_false, if_false, h2, if_true]
      have e2 : Lib.compareBytes b.Star b.Star = 0 := by rw [← h2] at e ⊢; exact e
      simp [e2, o1]
    · have e : ¬ Lib.compareBytes a.Star b.Star = 0 := by
        have : (a.Star == b.Star) = false := by simpa using h2
        rw [this] at s2; simpa using s2
      simp [e, h2, s1]
  · by_cases h2 : a.Time < b.Time
    · simp [h1, h2]
    · have h3 : b.Time < a.Time := by omega
      simp [h1, h2, h3]

def oneE (e : Estimate) : Bool := (((decide (0 ≤ e.Time) && decide (e.Time ≤ 10000000)) && nameB e.Star) && nameB e.Observer) && (decide (-2000 ≤ e.Mag) && decide (e.Mag ≤ 20000))

theorem l06One_is (e : Estimate) : spec_l06One e = some (oneE e) := by
  unfold spec_l06One oneE
  simp only [spec_l06Time, spec_l02Mag, spec_l00In_is, spec_IsName_is, Option.bind_some, Option.isSome_some, Option.getD_some, Bool.or_true, ck_true]

theorem isEstimate_is (e : Estimate) : impl_isEstimate e = some (oneE e) := by
  unfold impl_isEstimate oneE
  simp only [impl_ValidTime, impl_ValidMag, impl_in_is, impl_IsName_is, Option.bind_some, Option.isSome_some, Option.getD_some, Bool.or_true, ck_true]

def okE (l : List Estimate) (i : Nat) : Bool := oneE (l.getD i default) && !(decide (0 < i) && !beforeE (l.getD (i - 1) default) (l.getD i default))
def goodE (l : List Estimate) : Bool := (List.range l.length).all (okE l)

theorem l06_step {l : List Estimate} (hl : l.length ≤ 1099511627776) {i : Nat} (hi : i < l.length) : spec_l06Ok_l1 l (i : Int) = some (if okE l i = true then .inl ((i + 1 : Nat) : Int) else .inr (.inr false)) := by
  simp only [spec_l06Ok_l1, ixOk_nat, hi, decide_true, ck_true, Int.ofNat_lt, if_true, Int.toNat_natCast, wrap_nat1 (show i < 9223372036854775807 by omega), l06One_is, Before_is, Option.bind_some, Option.isSome_some, Option.getD_some, Bool.or_true]
  unfold okE
  by_cases h0 : 0 < i
  · have e0 : decide ((0 : Int) < (i : Int)) = true := by simpa using h0
    have e1 : decide (0 < i) = true := by simpa using h0
    have w1 : IntKind.i64.wrap ((i : Int) - 1) = ((i - 1 : Nat) : Int) := by rw [wrap_i64 (by omega) (by omega)]; omega
    have ok1 : ixOk ((i - 1 : Nat) : Int) l.length = true := by rw [ixOk_nat]; simp; omega
    simp only [e0, e1, w1, ok1, Bool.or_true, ck_true, Bool.true_and, Int.toNat_natCast]
    generalize oneE (l.getD i default) = A
    generalize beforeE (l.getD (i - 1) default) (l.getD i default) = B
    cases A <;> cases B <;> rfl
  · have e0 : decide ((0 : Int) < (i : Int)) = false := by simpa using h0
    have e1 : decide (0 < i) = false := by simpa using h0
    simp only [e0, e1, Bool.false_and, Bool.and_false, Bool.not_false, Bool.true_or, ck_true, Bool.or_false, Bool.and_true]
    generalize oneE (l.getD i default) = A
    cases A <;> rfl

theorem l06Ok_is {l : List Estimate} (hl : l.length ≤ 1099511627776) : spec_l06Ok l = some (goodE l && decide (l.length ≤ 100)) := by
  unfold spec_l06Ok
  rw [while_all (step := spec_l06Ok_l1 l) (okE l) l.length (goodE l) (yes := .inl ()) (no := .inr false) (by unfold goodE; simp) (fun i hi => l06_step hl hi) (by simp [spec_l06Ok_l1])]
  have e : decide ((l.length : Int) ≤ 100) = decide (l.length ≤ 100) := by rw [Bool.eq_iff_iff]; simp; omega
  simp only [Option.bind_some, ite_b]
  cases goodE l <;> simp [e]

theorem valid_step {l : List Estimate} (hl : l.length ≤ 1099511627776) {i : Nat} (hi : i < l.length) : impl_ValidEstimates_l1 l l (l.length : Int) (i : Int) = some (if okE l i = true then .inl ((i + 1 : Nat) : Int) else .inr (.inr false)) := by
  obtain ⟨c, hc, hc2⟩ := compareE_is (l.getD (i - 1) default) (l.getD i default)
  simp only [impl_ValidEstimates_l1, ixOk_nat, hi, decide_true, ck_true, Int.ofNat_lt, if_true, Int.toNat_natCast, wrap_nat1 (show i < 9223372036854775807 by omega), isEstimate_is, Option.bind_some, Option.isSome_some, Option.getD_some, Bool.or_true]
  unfold okE
  by_cases h0 : 0 < i
  · have e0 : decide ((0 : Int) < (i : Int)) = true := by simpa using h0
    have e1 : decide (0 < i) = true := by simpa using h0
    have w1 : IntKind.i64.wrap ((i : Int) - 1) = ((i - 1 : Nat) : Int) := by rw [wrap_i64 (by omega) (by omega)]; omega
    have ok1 : ixOk ((i - 1 : Nat) : Int) l.length = true := by rw [ixOk_nat]; simp; omega
    simp only [e0, e1, w1, ok1, Bool.or_true, ck_true, Bool.true_and, Int.toNat_natCast, hc, Option.isSome_some, Option.getD_some]
    have e2 : decide (0 ≤ c) = !beforeE (l.getD (i - 1) default) (l.getD i default) := by
      rw [← hc2, ← decide_not]; congr 1; rw [Int.not_lt]
    rw [e2]
    generalize oneE (l.getD i default) = A
    generalize beforeE (l.getD (i - 1) default) (l.getD i default) = B
    cases A <;> cases B <;> rfl
  · have e0 : decide ((0 : Int) < (i : Int)) = false := by simpa using h0
    have e1 : decide (0 < i) = false := by simpa using h0
    simp only [e0, e1, Bool.false_and, Bool.and_false, Bool.not_false, Bool.true_or, ck_true, Bool.or_false, Bool.and_true]
    generalize oneE (l.getD i default) = A
    cases A <;> rfl

theorem ValidEstimates_is {l : List Estimate} (hl : l.length ≤ 1099511627776) : impl_ValidEstimates l = some (goodE l && decide (l.length ≤ 100)) := by
  unfold impl_ValidEstimates
  by_cases h : 100 < (l.length : Int)
  · have e : decide (l.length ≤ 100) = false := by simp; omega
    simp [h, e]
  · have e : decide (l.length ≤ 100) = true := by simp; omega
    simp only [h, decide_false, Bool.false_eq_true, if_false]
    rw [while_all (step := impl_ValidEstimates_l1 l l (l.length : Int)) (okE l) l.length (goodE l) (yes := .inl ()) (no := .inr false) (by unfold goodE; simp) (fun i hi => valid_step hl hi) (by simp [impl_ValidEstimates_l1])]
    simp only [Option.bind_some, ite_b, e]
    cases goodE l <;> rfl

end Go.Proofs.Ythbnoddeifedkaa
