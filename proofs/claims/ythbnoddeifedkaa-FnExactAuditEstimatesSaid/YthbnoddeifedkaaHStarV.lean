/- What typed forms say: valid stars, . No condition. -/
import Derived.Test.YthbnoddeifedkaaHEst
namespace Go.Proofs.Ythbnoddeifedkaa
open Go Go.RowKit
set_option linter.unusedSimpArgs false
set_option linter.unusedVariables false

def oneS (x : Star) : Bool := ((((nameB x.Name && (decide (0 ≤ x.Ascend) && decide (x.Ascend ≤ 86399))) && (decide (-324000 ≤ x.Decl) && decide (x.Decl ≤ 324000))) && (decide (-2000 ≤ x.Bright) && decide (x.Bright ≤ 20000))) && (decide (-2000 ≤ x.Faint) && decide (x.Faint ≤ 20000))) && decide (x.Bright ≤ x.Faint)

theorem l04One_is (x : Star) : spec_l04One x = some (oneS x) := by
  unfold spec_l04One oneS
  simp only [spec_l04Ascend, spec_l04Decl, spec_l02Mag, spec_l00In_is, spec_IsName_is, Option.bind_some, Option.isSome_some, Option.getD_some, Bool.or_true, ck_true]

theorem isStar_is (x : Star) : impl_isStar x = some (oneS x) := by
  unfold impl_isStar oneS
  simp only [impl_ValidMag, impl_in_is, impl_IsName_is, Option.bind_some, Option.isSome_some, Option.getD_some, Bool.or_true, ck_true, Bool.and_assoc]

def okS (l : List Star) (i : Nat) : Bool := oneS (l.getD i default) && !(decide (0 < i) && !(Op.bytesLess (l.getD (i - 1) default).Name (l.getD i default).Name))
def goodS (l : List Star) : Bool := (List.range l.length).all (okS l)

theorem l04_step {l : List Star} (hl : l.length ≤ 1099511627776) {i : Nat} (hi : i < l.length) : spec_l04Ok_l1 l (i : Int) = some (if okS l i = true then .inl ((i + 1 : Nat) : Int) else .inr (.inr false)) := by
  simp only [spec_l04Ok_l1, ixOk_nat, hi, decide_true, ck_true, Int.ofNat_lt, if_true, Int.toNat_natCast, wrap_nat1 (show i < 9223372036854775807 by omega), l04One_is, Option.bind_some, Option.isSome_some, Option.getD_some, Bool.or_true]
  unfold okS
  by_cases h0 : 0 < i
  · have e0 : decide ((0 : Int) < (i : Int)) = true := by simpa using h0
    have e1 : decide (0 < i) = true := by simpa using h0
    have w1 : IntKind.i64.wrap ((i : Int) - 1) = ((i - 1 : Nat) : Int) := by rw [wrap_i64 (by omega) (by omega)]; omega
    have ok1 : ixOk ((i - 1 : Nat) : Int) l.length = true := by rw [ixOk_nat]; simp; omega
    simp only [e0, e1, w1, ok1, Bool.or_true, ck_true, Bool.true_and, Int.toNat_natCast]
    generalize oneS (l.getD i default) = A
    generalize Op.bytesLess (l.getD (i - 1) default).Name (l.getD i default).Name = B
    cases A <;> cases B <;> rfl
  · have e0 : decide ((0 : Int) < (i : Int)) = false := by simpa using h0
    have e1 : decide (0 < i) = false := by simpa using h0
    simp only [e0, e1, Bool.false_and, Bool.and_false, Bool.not_false, Bool.true_or, ck_true, Bool.or_false, Bool.and_true]
    generalize oneS (l.getD i default) = A
    cases A <;> rfl

theorem l04Ok_is {l : List Star} (hl : l.length ≤ 1099511627776) : spec_l04Ok l = some (goodS l && decide (l.length ≤ 60)) := by
  unfold spec_l04Ok
  rw [while_all (step := spec_l04Ok_l1 l) (okS l) l.length (goodS l) (yes := .inl ()) (no := .inr false) (by unfold goodS; simp) (fun i hi => l04_step hl hi) (by simp [spec_l04Ok_l1])]
  have e : decide ((l.length : Int) ≤ 60) = decide (l.length ≤ 60) := by rw [Bool.eq_iff_iff]; simp; omega
  simp only [Option.bind_some, ite_b]
  cases goodS l <;> simp [e]

theorem risingS_step {l : List Star} (hl : l.length ≤ 1099511627776) {i : Nat} (hi : i < l.length) : impl_rising_impl_Star__impl_isStar__impl_starName_l1 l l (l.length : Int) (i : Int) = some (if okS l i = true then .inl ((i + 1 : Nat) : Int) else .inr (.inr false)) := by
  simp only [impl_rising_impl_Star__impl_isStar__impl_starName_l1, impl_starName, ixOk_nat, hi, decide_true, ck_true, Int.ofNat_lt, if_true, Int.toNat_natCast, wrap_nat1 (show i < 9223372036854775807 by omega), isStar_is, Option.bind_some, Option.isSome_some, Option.getD_some, Bool.or_true]
  unfold okS
  by_cases h0 : 0 < i
  · have e0 : decide ((0 : Int) < (i : Int)) = true := by simpa using h0
    have e1 : decide (0 < i) = true := by simpa using h0
    have w1 : IntKind.i64.wrap ((i : Int) - 1) = ((i - 1 : Nat) : Int) := by rw [wrap_i64 (by omega) (by omega)]; omega
    have ok1 : ixOk ((i - 1 : Nat) : Int) l.length = true := by rw [ixOk_nat]; simp; omega
    simp only [e0, e1, w1, ok1, Bool.or_true, ck_true, Bool.true_and, Int.toNat_natCast]
    generalize oneS (l.getD i default) = A
    generalize Op.bytesLess (l.getD (i - 1) default).Name (l.getD i default).Name = B
    cases A <;> cases B <;> rfl
  · have e0 : decide ((0 : Int) < (i : Int)) = false := by simpa using h0
    have e1 : decide (0 < i) = false := by simpa using h0
    simp only [e0, e1, Bool.false_and, Bool.and_false, Bool.not_false, Bool.true_or, ck_true, Bool.or_false, Bool.and_true]
    generalize oneS (l.getD i default) = A
    cases A <;> rfl

theorem ValidStars_is {l : List Star} (hl : l.length ≤ 1099511627776) : impl_ValidStars l = some (goodS l && decide (l.length ≤ 60)) := by
  unfold impl_ValidStars impl_rising_impl_Star__impl_isStar__impl_starName
  by_cases h : 60 < (l.length : Int)
  · have e : decide (l.length ≤ 60) = false := by simp; omega
    simp [h, e]
  · have e : decide (l.length ≤ 60) = true := by simp; omega
    simp only [h, decide_false, Bool.false_eq_true, if_false]
    rw [while_all (step := impl_rising_impl_Star__impl_isStar__impl_starName_l1 l l (l.length : Int)) (okS l) l.length (goodS l) (yes := .inl ()) (no := .inr false) (by unfold goodS; simp) (fun i hi => risingS_step hl hi) (by simp [impl_rising_impl_Star__impl_isStar__impl_starName_l1])]
    simp only [Option.bind_some, ite_b, e]
    cases goodS l <;> rfl

end Go.Proofs.Ythbnoddeifedkaa
