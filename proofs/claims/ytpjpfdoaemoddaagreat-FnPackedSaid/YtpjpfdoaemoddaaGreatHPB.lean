/- Plain lemmas, several texts in one. No condition. -/
import Derived.Test.YtpjpfdoaemoddaaGreatPKT
import Derived.Test.YtpjpfdoaemoddaaGreatHPA
import Derived.Test.YtpjpfdoaemoddaaGreatEngSH
/- What typed forms say: names (the program). No condition. -/
namespace Go.Proofs.YtpjpfdoaemoddaaGreat
open Go Go.RowKit
set_option linter.unusedSimpArgs false
set_option linter.unusedVariables false

def okc (first : Bool) (c : UInt8) : Bool := (decide (97 ≤ c.toNat) && decide (c.toNat ≤ 122)) || (!first && ((decide (48 ≤ c.toNat) && decide (c.toNat ≤ 57)) || c.toNat == 45))

def nameB (s : List UInt8) : Bool := decide (1 ≤ s.length) && (decide (s.length ≤ 12) && ((List.range s.length).all fun i => okc (i == 0) (s.getD i 0)))

theorem all_range {n : Nat} {p : Nat → Bool} : ((List.range n).all p = true) ↔ ∀ i, i < n → p i = true := by simp

theorem okc_core (c : UInt8) (i : Nat) : (!((decide ((97 : Int) ≤ (c.toNat : Int))) && (decide ((c.toNat : Int) ≤ 122))) && (((i : Int) == 0) || (!(((decide ((48 : Int) ≤ (c.toNat : Int))) && (decide ((c.toNat : Int) ≤ 57))) || ((c.toNat : Int) == 45))))) = !okc (i == 0) c := by
  have b1 : decide ((97 : Int) ≤ (c.toNat : Int)) = decide (97 ≤ c.toNat) := by rw [decide_eq_decide]; omega
  have b2 : decide ((c.toNat : Int) ≤ 122) = decide (c.toNat ≤ 122) := by rw [decide_eq_decide]; omega
  have b3 : decide ((48 : Int) ≤ (c.toNat : Int)) = decide (48 ≤ c.toNat) := by rw [decide_eq_decide]; omega
  have b4 : decide ((c.toNat : Int) ≤ 57) = decide (c.toNat ≤ 57) := by rw [decide_eq_decide]; omega
  have b5 : ((c.toNat : Int) == 45) = (c.toNat == 45) := by rw [Bool.eq_iff_iff]; simp; omega
  have b6 : ((i : Int) == 0) = (i == 0) := by rw [Bool.eq_iff_iff]; simp
  rw [b1, b2, b3, b4, b5, b6]
  unfold okc
  cases decide (97 ≤ c.toNat) <;> cases decide (c.toNat ≤ 122) <;> cases decide (48 ≤ c.toNat) <;> cases decide (c.toNat ≤ 57) <;> cases (c.toNat == 45) <;> cases (i == 0) <;> rfl

theorem okc_core2 (c : UInt8) : (((!(decide (97 ≤ c.toNat) && decide (c.toNat ≤ 122))) && (!(decide (48 ≤ c.toNat) && decide (c.toNat ≤ 57)))) && (!((c.toNat : Int) == 45))) = !okc false c := by
  have b5 : ((c.toNat : Int) == 45) = (c.toNat == 45) := by rw [Bool.eq_iff_iff]; simp; omega
  rw [b5]
  unfold okc
  cases decide (97 ≤ c.toNat) <;> cases decide (c.toNat ≤ 122) <;> cases decide (48 ≤ c.toNat) <;> cases decide (c.toNat ≤ 57) <;> cases (c.toNat == 45) <;> rfl

theorem impl_IsName_is (s : List UInt8) : impl_IsName s = some (nameB s) := by
  unfold impl_IsName
  by_cases h : ((s.length : Int) < 1) ∨ ((12 : Int) < s.length)
  · have h1 : ((decide ((s.length : Int) < 1)) || (decide ((12 : Int) < (s.length : Int)))) = true := by simpa using h
    have h2 : nameB s = false := by unfold nameB; by_cases a : 1 ≤ s.length <;> by_cases b : s.length ≤ 12 <;> simp [a, b] <;> omega
    simp only [h1, if_true, h2]
  · have h1 : ((decide ((s.length : Int) < 1)) || (decide ((12 : Int) < (s.length : Int)))) = false := by simpa using h
    simp only [h1, Bool.false_eq_true, if_false]
    rw [while_all (step := impl_IsName_l1 s (s.length : Int)) (fun i => okc (i == 0) (s.getD i 0)) s.length ((List.range s.length).all fun i => okc (i == 0) (s.getD i 0)) (yes := .inl ()) (no := .inr false) all_range]
    · have a1 : 1 ≤ s.length := by omega
      have a2 : s.length ≤ 12 := by omega
      unfold nameB
      simp only [a1, a2, decide_true, Bool.true_and]
      cases ((List.range s.length).all fun i => okc (i == 0) (s.getD i 0)) <;> rfl
    · intro i hi
      simp only [impl_IsName_l1, Int.ofNat_lt, hi, decide_true, if_true, ixOk_nat, ck_true, Int.toNat_natCast, wrap_nat1 (show i < 9223372036854775807 by omega)]
      rw [okc_core]
      cases okc (i == 0) (s.getD i 0) <;> rfl
    · simp [impl_IsName_l1]

end Go.Proofs.YtpjpfdoaemoddaaGreat

/- What typed forms say: names (the reference). No condition. -/
namespace Go.Proofs.YtpjpfdoaemoddaaGreat
open Go Go.RowKit
set_option linter.unusedSimpArgs false
set_option linter.unusedVariables false

theorem spec_l01Small_is (c : UInt8) : spec_l01Small c = some (decide (97 ≤ c.toNat) && decide (c.toNat ≤ 122)) := by
  have h1 : ((97 : Int) ≤ (c.toNat : Int)) ↔ 97 ≤ c.toNat := by omega
  have h2 : ((c.toNat : Int) ≤ 122) ↔ c.toNat ≤ 122 := by omega
  simp [spec_l01Small, h1, h2]
theorem spec_l01Digit_is (c : UInt8) : spec_l01Digit c = some (decide (48 ≤ c.toNat) && decide (c.toNat ≤ 57)) := by
  have h1 : ((48 : Int) ≤ (c.toNat : Int)) ↔ 48 ≤ c.toNat := by omega
  have h2 : ((c.toNat : Int) ≤ 57) ↔ c.toNat ≤ 57 := by omega
  simp [spec_l01Digit, h1, h2]

/-- A name: one to twelve letters, digits and dashes, the first one a letter. -/
theorem spec_IsName_is (s : List UInt8) : spec_IsName s = some (nameB s) := by
  unfold spec_IsName
  by_cases h : s.length = 0 ∨ 12 < s.length
  · have h1 : ((s == ([] : List UInt8)) || (decide ((12 : Int) < (s.length : Int)))) = true := by
      rcases h with h | h
      · have : s = [] := List.eq_nil_of_length_eq_zero h
        simp [this]
      · simp; right; omega
    have h2 : nameB s = false := by unfold nameB; by_cases a : 1 ≤ s.length <;> by_cases b : s.length ≤ 12 <;> simp [a, b] <;> omega
    simp only [h1, h2, Bool.not_true, Bool.not_false, Bool.true_or, ck_true, if_true]
  · have h1 : ((s == ([] : List UInt8)) || (decide ((12 : Int) < (s.length : Int)))) = false := by
      rw [Bool.or_eq_false_iff]
      refine ⟨?_, by simp; omega⟩
      rw [beq_eq_false_iff_ne]; rintro rfl; simp at h
    have hi0 : ixOk 0 s.length = true := ixOk_of (by omega) (by omega)
    simp only [h1, hi0, spec_l01Small_is, Option.isSome_some, Option.getD_some, Bool.or_true, ck_true, Bool.false_or]
    by_cases hf : (decide (97 ≤ (s.getD 0 0).toNat) && decide ((s.getD 0 0).toNat ≤ 122)) = true
    · rw [hf]
      simp only [Bool.not_true, Bool.false_eq_true, if_false]
      rw [while_all (step := spec_IsName_l1 s) (fun i => okc false (s.getD i 0)) s.length ((List.range s.length).all fun i => okc (i == 0) (s.getD i 0)) (yes := .inl ()) (no := .inr false)]
      · have a1 : 1 ≤ s.length := by omega
        have a2 : s.length ≤ 12 := by omega
        unfold nameB
        simp only [a1, a2, decide_true, Bool.true_and]
        cases ((List.range s.length).all fun i => okc (i == 0) (s.getD i 0)) <;> rfl
      · rw [all_range]
        refine forall_congr' fun i => forall_congr' fun hi => ?_
        by_cases e : i = 0
        · subst e; simp only [okc, hf, Bool.true_or]
        · have : (i == 0) = false := by simpa using e
          rw [this]
      · intro i hi
        simp only [spec_IsName_l1, Int.ofNat_lt, hi, decide_true, if_true, ixOk_nat, ck_true, Int.toNat_natCast, wrap_nat1 (show i < 9223372036854775807 by omega), spec_l01Small_is, spec_l01Digit_is, Option.bind_some, Option.isSome_some, Option.getD_some, Bool.or_true]
        rw [okc_core2]
        cases okc false (s.getD i 0) <;> rfl
      · simp [spec_IsName_l1]
    · have hf' : (decide (97 ≤ (s.getD 0 0).toNat) && decide ((s.getD 0 0).toNat ≤ 122)) = false := by simpa using hf
      rw [hf']
      have : nameB s = false := by
        unfold nameB
        have : ((List.range s.length).all fun i => okc (i == 0) (s.getD i 0)) = false := by
          cases hq : ((List.range s.length).all fun i => okc (i == 0) (s.getD i 0)) with
          | false => rfl
          | true =>
            have := all_range.1 hq 0 (by omega)
            simp only [okc, hf', beq_self_eq_true, Bool.not_true, Bool.false_and, Bool.or_false, Bool.false_eq_true] at this
        simp only [this, Bool.and_false]
      rw [this]; rfl

end Go.Proofs.YtpjpfdoaemoddaaGreat

/- What typed forms say: which lists of estimates are valid. No condition. -/
namespace Go.Proofs.YtpjpfdoaemoddaaGreat
open Go Go.RowKit
set_option linter.unusedSimpArgs false
set_option linter.unusedVariables false

theorem bytes_cmp : ∀ (a b : List UInt8), (decide (Lib.compareBytes a b < 0) = Op.bytesLess a b) ∧ ((Lib.compareBytes a b == 0) = (a == b))
  | [], [] => by simp [Lib.compareBytes, Op.bytesLess]
  | [], _ :: _ => by simp [Lib.compareBytes, Op.bytesLess]
  | _ :: _, [] => by simp [Lib.compareBytes, Op.bytesLess]
  | x :: a, y :: b => by
    obtain ⟨h1, h2⟩ := bytes_cmp a b
    by_cases e : x = y
    · subst e
      have hx : ¬ x < x := UInt8.lt_irrefl x
      simp only [Lib.compareBytes, Op.bytesLess, hx, if_false, decide_false, Bool.false_or, beq_self_eq_true, Bool.true_and]
      refine ⟨h1, ?_⟩
      rw [h2, Bool.eq_iff_iff]; simp
    · by_cases hlt : x < y
      · simp [Lib.compareBytes, Op.bytesLess, hlt, e]
      · have hgt : y < x := UInt8.lt_of_le_of_ne (UInt8.not_lt.1 hlt) (Ne.symm e)
        simp [Lib.compareBytes, Op.bytesLess, hlt, hgt, e]

theorem Compare_is (a b : List UInt8) : strings_Compare a b = some (Lib.compareBytes a b) := id rfl

theorem CompareInt_is (a b : Int) : cmp_Compare_int64 a b = some (if a < b then -1 else if b < a then 1 else 0) := by
  unfold cmp_Compare_int64 cmp_isNaN_int64
  by_cases h1 : a < b
  · simp [h1]
  · by_cases h2 : b < a
    · simp [h1, h2]
    · simp [h1, h2]

theorem Or_is (a b c : Int) : cmp_Or_int [a, b, c] = some (if a ≠ 0 then a else if b ≠ 0 then b else c) := by
  unfold cmp_Or_int
  have hs := while_find (step := cmp_Or_int_l1 0 [a, b, c] (([a, b, c] : List Int).length : Int)) (fun i => !(([a, b, c] : List Int).getD i default == 0)) (fun i => ([a, b, c] : List Int).getD i default) 3
    (fun i hi => by
      have h1 : ixOk (i : Int) ([a, b, c] : List Int).length = true := by rw [ixOk_nat]; simpa using hi
      have h2 : decide ((i : Int) < (([a, b, c] : List Int).length : Int)) = true := by simp; omega
      simp only [cmp_Or_int_l1, h1, h2, ck_true, if_true, Int.toNat_natCast, wrap_nat1 (show i < 9223372036854775807 by omega)]
      cases (!(([a, b, c] : List Int).getD i default == 0)) <;> rfl)
    (by simp [cmp_Or_int_l1])
  rw [hs]
  by_cases ha : a = 0
  · by_cases hb : b = 0
    · by_cases hc : c = 0
      · subst ha; subst hb; subst hc; rfl
      · subst ha; subst hb
        have : (List.range 3).find? (fun i => !(([0, 0, c] : List Int).getD i default == 0)) = some 2 := by
          rw [List.find?_range_eq_some]
          refine ⟨by simpa using hc, by simp, fun j hj => ?_⟩
          match j, hj with
          | 0, _ => rfl
          | 1, _ => rfl
        rw [this]; simp
    · subst ha
      have : (List.range 3).find? (fun i => !(([0, b, c] : List Int).getD i default == 0)) = some 1 := by
        rw [List.find?_range_eq_some]
        refine ⟨by simpa using hb, by simp, fun j hj => ?_⟩
        match j, hj with
        | 0, _ => rfl
      rw [this]; simp [hb]
  · have : (List.range 3).find? (fun i => !(([a, b, c] : List Int).getD i default == 0)) = some 0 := by
      rw [List.find?_range_eq_some]
      exact ⟨by simpa using ha, by simp, fun j hj => by omega⟩
    rw [this]; simp [ha]

def beforeE (a b : Estimate) : Bool := if a.Time = b.Time then (if a.Star = b.Star then Op.bytesLess a.Observer b.Observer else Op.bytesLess a.Star b.Star) else decide (a.Time < b.Time)

theorem Before_is (a b : Estimate) : spec_l06Before a b = some (beforeE a b) := by
  unfold spec_l06Before beforeE
  by_cases h1 : a.Time = b.Time
  · by_cases h2 : a.Star = b.Star
    · simp [h1, h2]
    · simp [h1, h2]
  · simp [h1]

theorem compareE_is (a b : Estimate) : ∃ c, impl_compareEstimates a b = some c ∧ decide (c < 0) = beforeE a b := by
  unfold impl_compareEstimates
  simp only [CompareInt_is, Compare_is, Or_is, Option.bind_some]
  refine ⟨_, rfl, ?_⟩
  obtain ⟨s1, s2⟩ := bytes_cmp a.Star b.Star
  obtain ⟨o1, o2⟩ := bytes_cmp a.Observer b.Observer
  unfold beforeE
  by_cases h1 : a.Time = b.Time
  · simp only [h1, Int.lt_irrefl, if_false, ne_eq, not_true_eq_false, if_true]
    by_cases h2 : a.Star = b.Star
    · have e : Lib.compareBytes a.Star b.Star = 0 := by
        have : (a.Star == b.Star) = true := by simpa using h2
        rw [this] at s2; simpa using s2
      simp only [e, not_true_eq_false, if_false, h2, if_true]
      have e2 : Lib.compareBytes b.Star b.Star = 0 := by rw [← h2] at e ⊢; exact e
      simp [e2, o1]
    · have e : ¬ Lib.compareBytes a.Star b.Star = 0 := by
        have : (a.Star == b.Star) = false := by simpa using h2
        rw [this] at s2; simpa using s2
      simp [e, h2, s1]
  · by_cases h2 : a.Time < b.Time
    · simp [h1, h2]
    · have h3 : b.Time < a.Time := by omega
      simp [h1, h2, h3]

def oneE (e : Estimate) : Bool := (((decide (0 ≤ e.Time) && decide (e.Time ≤ 10000000)) && nameB e.Star) && nameB e.Observer) && (decide (-2000 ≤ e.Mag) && decide (e.Mag ≤ 20000))

theorem l06One_is (e : Estimate) : spec_l06One e = some (oneE e) := by
  unfold spec_l06One oneE
  simp only [spec_l06Time, spec_l02Mag, spec_l00In_is, spec_IsName_is, Option.bind_some, Option.isSome_some, Option.getD_some, Bool.or_true, ck_true]

theorem isEstimate_is (e : Estimate) : impl_isEstimate e = some (oneE e) := by
  unfold impl_isEstimate oneE
  simp only [impl_ValidTime, impl_ValidMag, impl_in_is, impl_IsName_is, Option.bind_some, Option.isSome_some, Option.getD_some, Bool.or_true, ck_true]

def okE (l : List Estimate) (i : Nat) : Bool := oneE (l.getD i default) && !(decide (0 < i) && !beforeE (l.getD (i - 1) default) (l.getD i default))
def goodE (l : List Estimate) : Bool := (List.range l.length).all (okE l)

theorem l06_step {l : List Estimate} (hl : l.length ≤ 1099511627776) {i : Nat} (hi : i < l.length) : spec_l06Ok_l1 l (i : Int) = some (if okE l i = true then .inl ((i + 1 : Nat) : Int) else .inr (.inr false)) := by
  simp only [spec_l06Ok_l1, ixOk_nat, hi, decide_true, ck_true, Int.ofNat_lt, if_true, Int.toNat_natCast, wrap_nat1 (show i < 9223372036854775807 by omega), l06One_is, Before_is, Option.bind_some, Option.isSome_some, Option.getD_some, Bool.or_true]
  unfold okE
  by_cases h0 : 0 < i
  · have e0 : decide ((0 : Int) < (i : Int)) = true := by simpa using h0
    have e1 : decide (0 < i) = true := by simpa using h0
    have w1 : IntKind.i64.wrap ((i : Int) - 1) = ((i - 1 : Nat) : Int) := by rw [wrap_i64 (by omega) (by omega)]; omega
    have ok1 : ixOk ((i - 1 : Nat) : Int) l.length = true := by rw [ixOk_nat]; simp; omega
    simp only [e0, e1, w1, ok1, Bool.or_true, ck_true, Bool.true_and, Int.toNat_natCast]
    generalize oneE (l.getD i default) = A
    generalize beforeE (l.getD (i - 1) default) (l.getD i default) = B
    cases A <;> cases B <;> rfl
  · have e0 : decide ((0 : Int) < (i : Int)) = false := by simpa using h0
    have e1 : decide (0 < i) = false := by simpa using h0
    simp only [e0, e1, Bool.false_and, Bool.and_false, Bool.not_false, Bool.true_or, ck_true, Bool.or_false, Bool.and_true]
    generalize oneE (l.getD i default) = A
    cases A <;> rfl

theorem l06Ok_is {l : List Estimate} (hl : l.length ≤ 1099511627776) : spec_l06Ok l = some (goodE l && decide (l.length ≤ 100)) := by
  unfold spec_l06Ok
  rw [while_all (step := spec_l06Ok_l1 l) (okE l) l.length (goodE l) (yes := .inl ()) (no := .inr false) (by unfold goodE; simp) (fun i hi => l06_step hl hi) (by simp [spec_l06Ok_l1])]
  have e : decide ((l.length : Int) ≤ 100) = decide (l.length ≤ 100) := by rw [Bool.eq_iff_iff]; simp; omega
  simp only [Option.bind_some, ite_b]
  cases goodE l <;> simp [e]

theorem valid_step {l : List Estimate} (hl : l.length ≤ 1099511627776) {i : Nat} (hi : i < l.length) : impl_ValidEstimates_l1 l l (l.length : Int) (i : Int) = some (if okE l i = true then .inl ((i + 1 : Nat) : Int) else .inr (.inr false)) := by
  obtain ⟨c, hc, hc2⟩ := compareE_is (l.getD (i - 1) default) (l.getD i default)
  simp only [impl_ValidEstimates_l1, ixOk_nat, hi, decide_true, ck_true, Int.ofNat_lt, if_true, Int.toNat_natCast, wrap_nat1 (show i < 9223372036854775807 by omega), isEstimate_is, Option.bind_some, Option.isSome_some, Option.getD_some, Bool.or_true]
  unfold okE
  by_cases h0 : 0 < i
  · have e0 : decide ((0 : Int) < (i : Int)) = true := by simpa using h0
    have e1 : decide (0 < i) = true := by simpa using h0
    have w1 : IntKind.i64.wrap ((i : Int) - 1) = ((i - 1 : Nat) : Int) := by rw [wrap_i64 (by omega) (by omega)]; omega
    have ok1 : ixOk ((i - 1 : Nat) : Int) l.length = true := by rw [ixOk_nat]; simp; omega
    simp only [e0, e1, w1, ok1, Bool.or_true, ck_true, Bool.true_and, Int.toNat_natCast, hc, Option.isSome_some, Option.getD_some]
    have e2 : decide (0 ≤ c) = !beforeE (l.getD (i - 1) default) (l.getD i default) := by
      rw [← hc2, ← decide_not]; congr 1; rw [Int.not_lt]
    rw [e2]
    generalize oneE (l.getD i default) = A
    generalize beforeE (l.getD (i - 1) default) (l.getD i default) = B
    cases A <;> cases B <;> rfl
  · have e0 : decide ((0 : Int) < (i : Int)) = false := by simpa using h0
    have e1 : decide (0 < i) = false := by simpa using h0
    simp only [e0, e1, Bool.false_and, Bool.and_false, Bool.not_false, Bool.true_or, ck_true, Bool.or_false, Bool.and_true]
    generalize oneE (l.getD i default) = A
    cases A <;> rfl

theorem ValidEstimates_is {l : List Estimate} (hl : l.length ≤ 1099511627776) : impl_ValidEstimates l = some (goodE l && decide (l.length ≤ 100)) := by
  unfold impl_ValidEstimates
  by_cases h : 100 < (l.length : Int)
  · have e : decide (l.length ≤ 100) = false := by simp; omega
    simp [h, e]
  · have e : decide (l.length ≤ 100) = true := by simp; omega
    simp only [h, decide_false, Bool.false_eq_true, if_false]
    rw [while_all (step := impl_ValidEstimates_l1 l l (l.length : Int)) (okE l) l.length (goodE l) (yes := .inl ()) (no := .inr false) (by unfold goodE; simp) (fun i hi => valid_step hl hi) (by simp [impl_ValidEstimates_l1])]
    simp only [Option.bind_some, ite_b, e]
    cases goodE l <;> rfl

end Go.Proofs.YtpjpfdoaemoddaaGreat

/- What typed forms say: the names in a list, rising, each once. No condition. -/
namespace Go.Proofs.YtpjpfdoaemoddaaGreat
open Go Go.RowKit
set_option linter.unusedSimpArgs false
set_option linter.unusedVariables false

abbrev Bs := List UInt8

theorem bl_lt : ∀ a b : Bs, Op.bytesLess a b = decide (a < b)
  | [], [] => by simp [Op.bytesLess]
  | _ :: _, [] => by simp [Op.bytesLess]
  | [], _ :: _ => by simp [Op.bytesLess]
  | x :: a, y :: b => by
    simp only [Op.bytesLess, bl_lt a b, List.cons_lt_cons_iff]
    by_cases c1 : x < y <;> by_cases c2 : x = y <;> by_cases c3 : a < b <;> simp [c1, c2, c3]
theorem lt_irr (a : Bs) : ¬ a < a := List.lt_irrefl a
theorem lt_tr {a b c : Bs} (h1 : a < b) (h2 : b < c) : a < c := List.lt_trans h1 h2
theorem lt_tri (a b : Bs) : a < b ∨ a = b ∨ b < a := by
  by_cases h : a < b
  · exact .inl h
  · by_cases h2 : b < a
    · exact .inr (.inr h2)
    · exact .inr (.inl (List.le_antisymm (List.not_lt.1 h2) (List.not_lt.1 h)))

def Strict (l : List Bs) : Prop := l.Pairwise (· < ·)

theorem strict_unique : ∀ {l1 l2 : List Bs}, Strict l1 → Strict l2 → (∀ x, x ∈ l1 ↔ x ∈ l2) → l1 = l2
  | [], [], _, _, _ => rfl
  | [], b :: l2, _, _, h => absurd ((h b).2 (by simp)) (by simp)
  | a :: l1, [], _, _, h => absurd ((h a).1 (by simp)) (by simp)
  | a :: l1, b :: l2, h1, h2, h => by
    obtain ⟨p1, q1⟩ := List.pairwise_cons.1 h1
    obtain ⟨p2, q2⟩ := List.pairwise_cons.1 h2
    have hab : a = b := by
      rcases List.mem_cons.1 ((h a).1 (by simp)) with e | e
      · exact e
      · rcases List.mem_cons.1 ((h b).2 (by simp)) with e2 | e2
        · exact e2.symm
        · exact absurd (lt_tr (p1 b e2) (p2 a e)) (lt_irr a)
    subst hab
    congr 1
    refine strict_unique q1 q2 fun x => ⟨fun hx => ?_, fun hx => ?_⟩
    · rcases List.mem_cons.1 ((h x).1 (by simp [hx])) with e | e
      · subst e; exact absurd (p1 _ hx) (lt_irr _)
      · exact e
    · rcases List.mem_cons.1 ((h x).2 (by simp [hx])) with e | e
      · subst e; exact absurd (p2 _ hx) (lt_irr _)
      · exact e

/-! ### Sorted, and each once -/

theorem sortS_mem (l : List Bs) (x : Bs) : x ∈ sortS l ↔ x ∈ l := by unfold sortS; exact List.mem_mergeSort
theorem sortS_len (l : List Bs) : (sortS l).length = l.length := by unfold sortS; exact List.length_mergeSort _
theorem sortS_le (l : List Bs) : (sortS l).Pairwise (· ≤ ·) := by
  unfold sortS
  have := List.pairwise_mergeSort (le := fun x y : Bs => decide (x ≤ y)) (fun a b c h1 h2 => by
    simp only [decide_eq_true_eq] at h1 h2 ⊢; exact List.le_trans h1 h2) (fun a b => by
    rcases List.le_total a b with h | h <;> simp [h]) l
  exact this.imp fun h => by simpa using h

theorem compS_mem {l : List Bs} (x : Bs) : x ∈ compS l ↔ x ∈ l := by
  unfold compS Lib.compact Lib.compactUpTo
  simp only [List.mem_map, List.mem_filter, List.mem_range]
  have hget : ∀ i (h : i < l.length), l.toArray[i]! = l[i] := fun i h => by rw [getElem!_pos _ i (by simpa using h)]; simp
  constructor
  · rintro ⟨i, ⟨hi, _⟩, e⟩
    rw [hget i hi] at e
    rw [← e]; exact List.getElem_mem hi
  · intro hx
    obtain ⟨i, hi, rfl⟩ := List.getElem_of_mem hx
    clear hx
    induction i with
    | zero => exact ⟨0, ⟨hi, by simp [Lib.keeps]⟩, hget 0 hi⟩
    | succ i ih =>
      by_cases c : Lib.keeps l.toArray (i + 1) = true
      · exact ⟨i + 1, ⟨hi, c⟩, hget _ hi⟩
      · have : l[i + 1] = l[i] := by
          unfold Lib.keeps at c
          simp only [decide_eq_true_eq, not_or] at c
          have h2 := c.2
          rw [hget _ hi, show i + 1 - 1 = i by omega, hget i (by omega)] at h2
          exact Classical.byContradiction h2
        rw [this]
        exact ih (by omega)

theorem compS_strict {l : List Bs} (h : l.Pairwise (· ≤ ·)) : Strict (compS l) := by
  unfold Strict compS Lib.compact Lib.compactUpTo
  have hget : ∀ i (h : i < l.length), l.toArray[i]! = l[i] := fun i h => by rw [getElem!_pos _ i (by simpa using h)]; simp
  have hle : ∀ i j (hi : i < l.length) (hj : j < l.length), i ≤ j → l[i] ≤ l[j] := fun i j hi hj hij => by
    rcases Nat.lt_or_ge i j with c | c
    · exact List.pairwise_iff_getElem.1 h i j hi hj c
    · have : i = j := by omega
      subst this; exact List.le_refl _
  rw [List.pairwise_map]
  refine List.Pairwise.imp_of_mem (R := (· < ·)) (fun {a b} ha hb hab => ?_) (List.pairwise_lt_range.filter _)
  have hb1 := (List.mem_filter.1 hb)
  have hbl : b < l.length := by simpa using hb1.1
  have hk := hb1.2
  unfold Lib.keeps at hk
  simp only [decide_eq_true_eq] at hk
  rcases hk with e | e
  · omega
  · rw [hget _ hbl, hget (b - 1) (by omega)] at e
    rw [hget a (by omega), hget b hbl]
    have h1 := hle a (b - 1) (by omega) (by omega) (by omega)
    have h2 := hle (b - 1) b (by omega) hbl (by omega)
    rcases lt_tri l[b - 1] l[b] with q | q | q
    · rcases lt_tri l[a] l[b - 1] with r | r | r
      · exact lt_tr r q
      · rw [r]; exact q
      · exact absurd r (List.not_lt.2 h1)
    · exact absurd q.symm e
    · exact absurd q (List.not_lt.2 h2)

/-! ### A name is put to its place -/

theorem putName_loop {l : List Bs} (hl : l.length ≤ 100000) (n : Bs) : ∀ k : Nat, k ≤ l.length → (∀ j (hj : j < l.length), k ≤ j → n < l[j]) →
    ∃ k' : Nat, k' ≤ l.length ∧ whileE (spec_l06PutName_l1 l n) (k : Int) = some (k' : Int) ∧ (∀ j (hj : j < l.length), k' ≤ j → n < l[j]) ∧ (∀ (h : 0 < k') (h2 : k' - 1 < l.length), ¬ n < l[k' - 1])
  | 0, hk, hb => ⟨0, hk, whileE_done (by simp [spec_l06PutName_l1, ck_true]), hb, fun h => by omega⟩
  | k + 1, hk, hb => by
    have e0 : decide ((0 : Int) < ((k + 1 : Nat) : Int)) = true := decide_eq_true (by omega)
    have w1 : IntKind.i64.wrap (((k + 1 : Nat) : Int) - 1) = (k : Int) := by rw [wrap_i64 (by omega) (by omega)]; omega
    have ok1 : ixOk (k : Int) l.length = true := by rw [ixOk_nat]; simp; omega
    have hkl : k < l.length := by omega
    have hcond : (!(Op.bytesLess (l.getD k default) n || (l.getD k default) == n)) = decide (n < l[k]) := by
      rw [getD_lt hkl, bl_lt]
      rcases lt_tri n l[k] with h | h | h
      · have h1 : ¬ l[k] < n := fun c => lt_irr _ (lt_tr h c)
        have h2 : l[k] ≠ n := fun c => by rw [c] at h; exact lt_irr _ h
        simp [h, h1, h2]
      · have h1 : ¬ n < l[k] := fun c => by rw [← h] at c; exact lt_irr _ c
        simp [← h, lt_irr]
      · have h1 : ¬ n < l[k] := fun c => lt_irr _ (lt_tr h c)
        simp [h, h1]
    by_cases hbe : n < l[k]
    · rw [whileE_next (s' := (k : Int)) (by
        simp only [spec_l06PutName_l1, e0, w1, ok1, Int.toNat_natCast, hcond, hbe, decide_true, Bool.not_true, Bool.false_or, ck_true, Bool.and_self, if_true])]
      refine putName_loop hl n k (by omega) fun j hj hkj => ?_
      rcases Nat.lt_or_ge k j with c | c
      · exact hb j hj (by omega)
      · have : j = k := by omega
        subst this; exact hbe
    · refine ⟨k + 1, hk, whileE_done ?_, hb, fun _ _ => by simpa using hbe⟩
      simp only [spec_l06PutName_l1, e0, w1, ok1, Int.toNat_natCast, hcond, hbe, decide_false, Bool.not_true, Bool.false_or, ck_true, Bool.and_false, Bool.false_eq_true, if_false]

theorem putName_is {l : List Bs} (hl : l.length ≤ 100000) (hs : Strict l) (n : Bs) : ∃ l', spec_l06PutName l n = some l' ∧ Strict l' ∧ l'.length ≤ l.length + 1 ∧ ∀ x, x ∈ l' ↔ x = n ∨ x ∈ l := by
  obtain ⟨k, hk, hw, h1, h2⟩ := putName_loop hl n l.length (Nat.le_refl _) (fun j hj h => by omega)
  unfold spec_l06PutName
  rw [hw]
  simp only [Option.bind_some]
  have hlt : ∀ j (hj : j < l.length), j < k → ∀ (hk2 : k - 1 < l.length), l[j] < l[k - 1] ∨ j = k - 1 := fun j hj hjk hk2 => by
    rcases Nat.lt_or_ge j (k - 1) with c | c
    · exact .inl (List.pairwise_iff_getElem.1 hs j (k - 1) hj hk2 c)
    · exact .inr (by omega)
  by_cases h0 : 0 < k
  · have e0 : decide ((0 : Int) < (k : Int)) = true := decide_eq_true (by omega)
    have w1 : IntKind.i64.wrap ((k : Int) - 1) = ((k - 1 : Nat) : Int) := by rw [wrap_i64 (by omega) (by omega)]; omega
    have hk2 : k - 1 < l.length := by omega
    have ok1 : ixOk ((k - 1 : Nat) : Int) l.length = true := by rw [ixOk_nat]; simp; omega
    simp only [e0, w1, ok1, Int.toNat_natCast, Bool.not_true, Bool.false_or, ck_true, Bool.true_and, getD_lt hk2]
    by_cases he : l[k - 1] = n
    · have : (l[k - 1] == n) = true := by simpa using he
      rw [if_pos this]
      exact ⟨l, rfl, hs, by omega, fun x => ⟨.inr, fun h => h.elim (fun e => by rw [e, ← he]; exact List.getElem_mem hk2) id⟩⟩
    · have : ¬ (l[k - 1] == n) = true := by simpa using he
      rw [if_neg this, cutOk_of (by omega) (by omega) (by omega), ck_true, appOk_of (by simp [cut]; omega), ck_true, appOk_of (by simp [cut]; omega), ck_true, cutOk_of (by omega) (by omega) (by omega), ck_true, appOk_of (by simp [cut]; omega), ck_true]
      have hn : l[k - 1] < n := by
        rcases lt_tri l[k - 1] n with c | c | c
        · exact c
        · exact absurd c he
        · exact absurd c (h2 h0 hk2)
      refine ⟨_, rfl, ?_, by simp [cut]; omega, fun x => ?_⟩
      · unfold Strict
        simp only [cut, Int.toNat_natCast, List.take_length, List.nil_append]
        rw [show ((0 : Int).toNat) = 0 from rfl, List.drop_zero, List.append_assoc]
        refine List.pairwise_append.2 ⟨hs.sublist (List.take_sublist _ _), ?_, fun a ha b hb => ?_⟩
        · refine List.pairwise_append.2 ⟨List.pairwise_singleton _ _, hs.sublist (List.drop_sublist _ _), fun a ha b hb => ?_⟩
          simp only [List.mem_singleton] at ha
          subst ha
          obtain ⟨i, hi, rfl⟩ := List.getElem_of_mem hb
          rw [List.getElem_drop]
          exact h1 _ _ (by omega)
        · obtain ⟨i, hi, rfl⟩ := List.getElem_of_mem ha
          have hi' : i < k := by simp at hi; omega
          rw [List.getElem_take]
          have han : l[i] < n := by
            rcases hlt i (by omega) hi' hk2 with c | c
            · exact lt_tr c hn
            · simp only [c]; exact hn
          rcases List.mem_append.1 hb with hb | hb
          · simp only [List.mem_singleton] at hb; rw [hb]; exact han
          · obtain ⟨j, hj, rfl⟩ := List.getElem_of_mem hb
            rw [List.getElem_drop]
            exact lt_tr han (h1 _ _ (by omega))
      · simp only [cut, Int.toNat_natCast, List.take_length, List.nil_append, List.mem_append, List.mem_singleton]
        rw [show ((0 : Int).toNat) = 0 from rfl, List.drop_zero]
        have hsplit : x ∈ l ↔ x ∈ l.take k ∨ x ∈ l.drop k := by rw [← List.mem_append, List.take_append_drop]
        rw [hsplit]
        constructor
        · rintro ((h | h) | h)
          · exact .inr (.inl h)
          · exact .inl h
          · exact .inr (.inr h)
        · rintro (h | h | h)
          · exact .inl (.inr h)
          · exact .inl (.inl h)
          · exact .inr h
  · obtain rfl : k = 0 := by omega
    have e0 : decide ((0 : Int) < ((0 : Nat) : Int)) = false := rfl
    simp only [e0, Bool.not_false, Bool.true_or, ck_true, Bool.false_and, Bool.false_eq_true, if_false]
    rw [cutOk_of (by omega) (by omega) (by omega), ck_true, appOk_of (by simp [cut]), ck_true, appOk_of (by simp [cut]), ck_true, cutOk_of (by omega) (by omega) (by omega), ck_true, appOk_of (by simp [cut]; omega), ck_true]
    refine ⟨_, rfl, ?_, by simp [cut], fun x => ?_⟩
    · unfold Strict
      simp only [cut]
      simp only [Int.toNat_natCast, List.take_length, List.take_zero, List.drop_nil, List.nil_append, List.drop_zero]
      refine List.pairwise_append.2 ⟨List.pairwise_singleton _ _, hs, fun a ha b hb => ?_⟩
      simp only [List.mem_singleton] at ha
      subst ha
      obtain ⟨i, hi, rfl⟩ := List.getElem_of_mem hb
      exact h1 i hi (by omega)
    · simp [cut]

end Go.Proofs.YtpjpfdoaemoddaaGreat

/- What typed forms say: the names of the observers. No condition. -/
namespace Go.Proofs.YtpjpfdoaemoddaaGreat
open Go Go.RowKit
set_option linter.unusedSimpArgs false
set_option linter.unusedVariables false

/-! ### Where a name stands -/

theorem find_is {l : List Bs} (hl : l.length ≤ 100000) (hs : Strict l) {i : Nat} (hi : i < l.length) : spec_l25Find l l[i] = some (i : Int) := by
  unfold spec_l25Find
  rw [while_find (step := spec_l25Find_l1 l l[i]) (fun k => l.getD k default == l[i]) (fun k => (k : Int)) l.length
    (fun k hk => by
      simp only [spec_l25Find_l1, ixOk_nat, hk, decide_true, ck_true, Int.ofNat_lt, if_true, Int.toNat_natCast, wrap_nat1 (show k < 9223372036854775807 by omega)]
      cases (l.getD k default == l[i]) <;> rfl)
    (by simp [spec_l25Find_l1])]
  have : (List.range l.length).find? (fun k => l.getD k default == l[i]) = some i := by
    rw [List.find?_range_eq_some]
    refine ⟨by rw [getD_lt hi]; simp, by simpa using hi, fun j hj => ?_⟩
    rw [getD_lt (show j < l.length by omega)]
    have h := List.pairwise_iff_getElem.1 hs j i (by omega) hi hj
    have hne : l[j] ≠ l[i] := fun e => by rw [e] at h; exact lt_irr _ h
    simpa using hne
  rw [this]; rfl

/-! ### The names of the observers -/

def obsL (l : List Estimate) : List Bs := l.map (·.Observer)

theorem obs_names {l : List Estimate} (hl : l.length ≤ 10000) : ∃ ns, spec_l25Names l false = some ns ∧ impl_namesOf__impl_observerOf l = some ns ∧ Strict ns ∧ ns.length ≤ l.length ∧ ∀ x, x ∈ ns ↔ x ∈ obsL l := by
  obtain ⟨ns, h1, h2, h3, h4⟩ : ∃ ns, spec_l25Names l false = some ns ∧ Strict ns ∧ ns.length ≤ l.length ∧ ∀ x, x ∈ ns ↔ x ∈ obsL l := by
    unfold spec_l25Names
    obtain ⟨y, hy, hq⟩ := while_post (step := spec_l25Names_l1 l false) (fun s => ∃ i : Nat, s.2 = (i : Int) ∧ i ≤ l.length ∧ Strict s.1 ∧ s.1.length ≤ i ∧ ∀ x, x ∈ s.1 ↔ x ∈ obsL (l.take i))
      (fun y => Strict y ∧ y.length ≤ l.length ∧ ∀ x, x ∈ y ↔ x ∈ obsL l) (fun s => l.length - s.2.toNat) (by
      rintro ⟨out, ii⟩ ⟨i, rfl, hi, hs, hlen, hm⟩
      simp only at hs hlen hm
      by_cases h : i < l.length
      · left
        obtain ⟨l', e, p1, p2, p3⟩ := putName_is (l := out) (by omega) hs (l.getD i default).Observer
        simp only [spec_l25Names_l1, ixOk_nat, h, decide_true, ck_true, Int.ofNat_lt, if_true, Bool.false_eq_true, if_false, Int.toNat_natCast, wrap_nat1 (show i < 9223372036854775807 by omega), e, Option.bind_some]
        refine ⟨_, rfl, ⟨i + 1, rfl, by omega, p1, by show l'.length ≤ i + 1; omega, fun x => ?_⟩, by simp only [Int.toNat_natCast]; omega⟩
        show x ∈ l' ↔ _
        rw [p3, hm, List.take_add_one, List.getElem?_eq_getElem h, getD_lt h]
        simp only [obsL, List.map_append, List.mem_append, Option.toList_some, List.map_cons, List.map_nil, List.mem_singleton]
        exact Or.comm
      · right
        obtain rfl : i = l.length := by omega
        rw [List.take_length] at hm
        exact ⟨out, by simp [spec_l25Names_l1], hs, hlen, hm⟩) (s := ([], 0)) ⟨0, rfl, by omega, List.Pairwise.nil, by simp, fun x => by simp [obsL]⟩
    rw [hy]
    exact ⟨y, rfl, hq⟩
  refine ⟨ns, h1, ?_, h2, h3, h4⟩
  unfold impl_namesOf__impl_observerOf
  have hw : whileE (impl_namesOf__impl_observerOf_l1 l (l.length : Int)) (([] : List Bs), 0) = some (obsL l) := by
    have := while_up (step := impl_namesOf__impl_observerOf_l1 l (l.length : Int)) (fun i => obsL (l.take i)) l.length (r := obsL l) (fun i hi => by
      have e1 : (obsL (l.take i)).length ≤ i := by simp [obsL]; omega
      simp only [impl_namesOf__impl_observerOf_l1, impl_observerOf, ixOk_nat, hi, decide_true, ck_true, Int.ofNat_lt, if_true, Int.toNat_natCast, wrap_nat1 (show i < 9223372036854775807 by omega), Option.bind_some]
      rw [appOk_of (by simp; omega), ck_true, List.take_add_one, List.getElem?_eq_getElem hi, getD_lt hi]
      simp only [obsL, List.map_append, Option.toList_some, List.map_cons, List.map_nil]) (by rw [List.take_length]; simp [impl_namesOf__impl_observerOf_l1])
    simpa [obsL] using this
  rw [hw]
  have l1 : (obsL l).length = l.length := by simp [obsL]
  simp only [Option.bind_some]
  unfold hSort
  rw [if_pos (by omega)]
  simp only [Option.bind_some]
  unfold hCompact
  rw [if_pos (by rw [sortS_len]; omega)]
  simp only [Option.bind_some, Option.some.injEq]
  refine strict_unique (compS_strict (sortS_le _)) h2 fun x => ?_
  rw [compS_mem, sortS_mem, h4]

end Go.Proofs.YtpjpfdoaemoddaaGreat

/- What typed forms say: the names of the stars. No condition. -/
namespace Go.Proofs.YtpjpfdoaemoddaaGreat
open Go Go.RowKit
set_option linter.unusedSimpArgs false
set_option linter.unusedVariables false

/-! ### The names of the stars -/

def starL (l : List Estimate) : List Bs := l.map (·.Star)

theorem star_names {l : List Estimate} (hl : l.length ≤ 10000) : ∃ ns, spec_l25Names l true = some ns ∧ impl_namesOf__impl_starOf l = some ns ∧ Strict ns ∧ ns.length ≤ l.length ∧ ∀ x, x ∈ ns ↔ x ∈ starL l := by
  obtain ⟨ns, h1, h2, h3, h4⟩ : ∃ ns, spec_l25Names l true = some ns ∧ Strict ns ∧ ns.length ≤ l.length ∧ ∀ x, x ∈ ns ↔ x ∈ starL l := by
    unfold spec_l25Names
    obtain ⟨y, hy, hq⟩ := while_post (step := spec_l25Names_l1 l true) (fun s => ∃ i : Nat, s.2 = (i : Int) ∧ i ≤ l.length ∧ Strict s.1 ∧ s.1.length ≤ i ∧ ∀ x, x ∈ s.1 ↔ x ∈ starL (l.take i))
      (fun y => Strict y ∧ y.length ≤ l.length ∧ ∀ x, x ∈ y ↔ x ∈ starL l) (fun s => l.length - s.2.toNat) (by
      rintro ⟨out, ii⟩ ⟨i, rfl, hi, hs, hlen, hm⟩
      simp only at hs hlen hm
      by_cases h : i < l.length
      · left
        obtain ⟨l', e, p1, p2, p3⟩ := putName_is (l := out) (by omega) hs (l.getD i default).Star
        simp only [spec_l25Names_l1, ixOk_nat, h, decide_true, ck_true, Int.ofNat_lt, if_true, Bool.false_eq_true, if_false, Int.toNat_natCast, wrap_nat1 (show i < 9223372036854775807 by omega), e, Option.bind_some]
        refine ⟨_, rfl, ⟨i + 1, rfl, by omega, p1, by show l'.length ≤ i + 1; omega, fun x => ?_⟩, by simp only [Int.toNat_natCast]; omega⟩
        show x ∈ l' ↔ _
        rw [p3, hm, List.take_add_one, List.getElem?_eq_getElem h, getD_lt h]
        simp only [starL, List.map_append, List.mem_append, Option.toList_some, List.map_cons, List.map_nil, List.mem_singleton]
        exact Or.comm
      · right
        obtain rfl : i = l.length := by omega
        rw [List.take_length] at hm
        exact ⟨out, by simp [spec_l25Names_l1], hs, hlen, hm⟩) (s := ([], 0)) ⟨0, rfl, by omega, List.Pairwise.nil, by simp, fun x => by simp [starL]⟩
    rw [hy]
    exact ⟨y, rfl, hq⟩
  refine ⟨ns, h1, ?_, h2, h3, h4⟩
  unfold impl_namesOf__impl_starOf
  have hw : whileE (impl_namesOf__impl_starOf_l1 l (l.length : Int)) (([] : List Bs), 0) = some (starL l) := by
    have := while_up (step := impl_namesOf__impl_starOf_l1 l (l.length : Int)) (fun i => starL (l.take i)) l.length (r := starL l) (fun i hi => by
      have e1 : (starL (l.take i)).length ≤ i := by simp [starL]; omega
      simp only [impl_namesOf__impl_starOf_l1, impl_starOf, ixOk_nat, hi, decide_true, ck_true, Int.ofNat_lt, if_true, Int.toNat_natCast, wrap_nat1 (show i < 9223372036854775807 by omega), Option.bind_some]
      rw [appOk_of (by simp; omega), ck_true, List.take_add_one, List.getElem?_eq_getElem hi, getD_lt hi]
      simp only [starL, List.map_append, Option.toList_some, List.map_cons, List.map_nil]) (by rw [List.take_length]; simp [impl_namesOf__impl_starOf_l1])
    simpa [starL] using this
  rw [hw]
  have l1 : (starL l).length = l.length := by simp [starL]
  simp only [Option.bind_some]
  unfold hSort
  rw [if_pos (by omega)]
  simp only [Option.bind_some]
  unfold hCompact
  rw [if_pos (by rw [sortS_len]; omega)]
  simp only [Option.bind_some, Option.some.injEq]
  refine strict_unique (compS_strict (sortS_le _)) h2 fun x => ?_
  rw [compS_mem, sortS_mem, h4]

end Go.Proofs.YtpjpfdoaemoddaaGreat

