/- What typed forms say: valid light curves. No condition. -/
import Derived.Test.YtgbibhhblimfiabR6L
import Derived.Test.YtgbibhhblimfiabHUtil
namespace Go.Proofs.Ytgbibhhblimfiab
open Go Go.RowKit
set_option linter.unusedSimpArgs false
set_option linter.unusedVariables false

def okP (c : List Point) (i : Nat) : Bool :=
  ((decide (0 ≤ (c.getD i default).Time) && decide ((c.getD i default).Time ≤ 10000000)) && (decide (-2000 ≤ (c.getD i default).Mag) && decide ((c.getD i default).Mag ≤ 20000))) &&
  !(decide (0 < i) && decide ((c.getD i default).Time ≤ (c.getD (i - 1) default).Time))
def goodP (c : List Point) : Bool := (List.range c.length).all (okP c)

theorem l06Time_is (n : Int) : spec_l06Time n = some (decide (0 ≤ n) && decide (n ≤ 10000000)) := id rfl
theorem l02Mag_is (n : Int) : spec_l02Mag n = some (decide (-2000 ≤ n) && decide (n ≤ 20000)) := id rfl
theorem l08_step {c : List Point} (hl : c.length ≤ 1099511627776) {i : Nat} (hi : i < c.length) : spec_l08Ok_l1 c (i : Int) = some (if okP c i = true then .inl ((i + 1 : Nat) : Int) else .inr (.inr false)) := by
  simp only [spec_l08Ok_l1, ite_b, ixOk_nat, hi, decide_true, ck_true, Int.ofNat_lt, cond_true, Int.toNat_natCast, wrap_nat1 (show i < 9223372036854775807 by omega), l06Time_is, l02Mag_is, Option.bind_some, Option.isSome_some, Option.getD_some, Bool.or_true]
  unfold okP
  generalize (decide (0 ≤ (c.getD i default).Time) && decide ((c.getD i default).Time ≤ 10000000)) = A
  generalize (decide (-2000 ≤ (c.getD i default).Mag) && decide ((c.getD i default).Mag ≤ 20000)) = B
  by_cases h0 : 0 < i
  · have e0 : decide ((0 : Int) < (i : Int)) = true := by simpa using h0
    have e1 : decide (0 < i) = true := by simpa using h0
    have w1 : IntKind.i64.wrap ((i : Int) - 1) = ((i - 1 : Nat) : Int) := by rw [wrap_i64 (by omega) (by omega)]; omega
    have ok1 : ixOk ((i - 1 : Nat) : Int) c.length = true := by rw [ixOk_nat]; simp; omega
    simp only [e0, e1, w1, ok1, Bool.or_true, ck_true, Bool.true_and, Int.toNat_natCast]
    generalize decide ((c.getD i default).Time ≤ (c.getD (i - 1) default).Time) = D
    cases A <;> cases B <;> cases D <;> rfl
  · have e0 : decide ((0 : Int) < (i : Int)) = false := by simpa using h0
    have e1 : decide (0 < i) = false := by simpa using h0
    simp only [e0, e1, Bool.false_and, Bool.and_false, Bool.not_false, Bool.true_or, ck_true]
    cases A <;> cases B <;> rfl

theorem l08Ok_is {c : List Point} (hl : c.length ≤ 1099511627776) : spec_l08Ok c = some (goodP c && decide (c.length ≤ 100)) := by
  unfold spec_l08Ok
  rw [while_all (step := spec_l08Ok_l1 c) (okP c) c.length (goodP c) (yes := .inl ()) (no := .inr false) (by unfold goodP; simp) (fun i hi => l08_step hl hi) (by simp [spec_l08Ok_l1])]
  have e : decide ((c.length : Int) ≤ 100) = decide (c.length ≤ 100) := by rw [Bool.eq_iff_iff]; simp; omega
  simp only [Option.bind_some, ite_b]
  cases goodP c <;> simp [e]

theorem goodP_at {c : List Point} (h : goodP c = true) {i : Nat} (hi : i < c.length) : 0 ≤ (c.getD i default).Time ∧ (c.getD i default).Time ≤ 10000000 ∧ -2000 ≤ (c.getD i default).Mag ∧ (c.getD i default).Mag ≤ 20000 ∧ (0 < i → (c.getD (i - 1) default).Time < (c.getD i default).Time) := by
  unfold goodP at h
  have := all_range' h hi
  simp only [okP, Bool.and_eq_true, decide_eq_true_eq, Bool.not_eq_true', Bool.and_eq_false_iff, decide_eq_false_iff_not] at this
  refine ⟨this.1.1.1, this.1.1.2, this.1.2.1, this.1.2.2, fun h0 => ?_⟩
  rcases this.2 with c | c
  · exact absurd h0 c
  · omega

end Go.Proofs.Ytgbibhhblimfiab
