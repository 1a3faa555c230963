/- What typed forms say: faults. No condition. -/
import Derived.Test.YtpjpfdoaemoddaaSAL
namespace Go.Proofs.Ytpjpfdoaemoddaa
open Go Go.RowKit
set_option linter.unusedSimpArgs false
set_option linter.unusedVariables false

/-! ### Which lists of faults are good -/

def okF (c : Int) (f : List Fault) (i : Nat) : Bool :=
  ((decide (0 ≤ (f.getD i default).Index) && decide ((f.getD i default).Index ≤ c - 1)) && (decide (1 ≤ (f.getD i default).Kind) && decide ((f.getD i default).Kind ≤ 5))) &&
  !(decide (0 < i) && (decide ((f.getD i default).Index < (f.getD (i - 1) default).Index) || ((f.getD (i - 1) default).Index == (f.getD i default).Index && decide ((f.getD i default).Kind ≤ (f.getD (i - 1) default).Kind))))
def goodF (c : Int) (f : List Fault) : Bool := (List.range f.length).all (okF c f)

theorem l26Kind_is (n : Int) : spec_l26Kind n = some (decide (1 ≤ n) && decide (n ≤ 5)) := by simp [spec_l26Kind, spec_l00In_is]

theorem l26Faults_is {f : List Fault} {c : Int} (h0 : 0 ≤ c) (h1 : c ≤ 1099511627776) (hl : f.length ≤ 1099511627776) : spec_l26Faults f c = some (goodF c f) := by
  unfold spec_l26Faults
  rw [while_all (step := spec_l26Faults_l1 f c) (okF c f) f.length (goodF c f) (yes := .inl ()) (no := .inr false)]
  · simp only [Option.bind_some]
    cases goodF c f <;> rfl
  · unfold goodF; simp
  · intro i hi
    have w99 : IntKind.i64.wrap (c - 1) = c - 1 := wrap_i64 (by omega) (by omega)
    simp only [spec_l26Faults_l1, ixOk_nat, hi, decide_true, ck_true, Int.ofNat_lt, if_true, Int.toNat_natCast, wrap_nat1 (show i < 9223372036854775807 by omega), spec_l00In_is, l26Kind_is, Option.bind_some, Option.isSome_some, Option.getD_some, Bool.or_true, w99]
    unfold okF
    generalize hA : (decide (0 ≤ (f.getD i default).Index) && decide ((f.getD i default).Index ≤ c - 1)) = A
    generalize hB : (decide (1 ≤ (f.getD i default).Kind) && decide ((f.getD i default).Kind ≤ 5)) = B
    by_cases hAB : (A && B) = true
    · have hAB2 : (!A || !B) = false := by cases A <;> cases B <;> simp_all
      rw [hAB2, hAB]
      simp only [Bool.false_eq_true, if_false, Bool.true_and]
      by_cases h0 : 0 < i
      · have e0 : decide ((0 : Int) < (i : Int)) = true := by simpa using h0
        have e1 : decide (0 < i) = true := by simpa using h0
        have w1 : IntKind.i64.wrap ((i : Int) - 1) = ((i - 1 : Nat) : Int) := by rw [wrap_i64 (by omega) (by omega)]; omega
        have ok1 : ixOk ((i - 1 : Nat) : Int) f.length = true := by rw [ixOk_nat]; simp; omega
        simp only [e0, e1, w1, ok1, Bool.or_true, ck_true, Bool.true_and, Int.toNat_natCast]
        generalize (decide ((f.getD i default).Index < (f.getD (i - 1) default).Index) || ((f.getD (i - 1) default).Index == (f.getD i default).Index && decide ((f.getD i default).Kind ≤ (f.getD (i - 1) default).Kind))) = C
        cases C <;> rfl
      · have e0 : decide ((0 : Int) < (i : Int)) = false := by simpa using h0
        have e1 : decide (0 < i) = false := by simpa using h0
        simp only [e0, e1, Bool.false_and, Bool.not_false, Bool.true_or, ck_true, Bool.false_eq_true, if_false, if_true]
    · have hAB1 : (A && B) = false := by simpa using hAB
      have hAB2 : (!A || !B) = true := by cases A <;> cases B <;> simp_all
      rw [hAB2, hAB1]
      simp
  · simp [spec_l26Faults_l1]

theorem ordered_step (f : List Fault) (c : Int) : impl_ordered_l1 f c f (f.length : Int) = spec_l26Faults_l1 f c := by
  funext i
  simp only [impl_ordered_l1, spec_l26Faults_l1, impl_in_is, spec_l00In_is, l26Kind_is]

theorem ordered_is {f : List Fault} {c : Int} (h0 : 0 ≤ c) (h1 : c ≤ 1099511627776) (hl : f.length ≤ 1099511627776) : impl_ordered f c = some (goodF c f) := by
  rw [← l26Faults_is h0 h1 hl]
  unfold impl_ordered spec_l26Faults
  rw [ordered_step]

theorem goodF_kind {c : Int} {f : List Fault} (h : goodF c f = true) {i : Nat} (hi : i < f.length) : 1 ≤ (f.getD i default).Kind ∧ (f.getD i default).Kind ≤ 5 := by
  unfold goodF at h
  have := all_range' h hi
  simp only [okF, Bool.and_eq_true, decide_eq_true_eq] at this
  exact this.1.2

end Go.Proofs.Ytpjpfdoaemoddaa
