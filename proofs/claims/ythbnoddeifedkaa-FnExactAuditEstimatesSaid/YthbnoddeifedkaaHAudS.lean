/- What typed forms say: the specification's kinds of faults of an estimate. No condition. -/
import Derived.Test.YthbnoddeifedkaaHAud
namespace Go.Proofs.Ythbnoddeifedkaa
open Go Go.RowKit
set_option linter.unusedSimpArgs false
set_option linter.unusedVariables false

theorem l26Of_loops (l : List Estimate) (out : List Int) (e : Estimate) : spec_l26Of_l2 l out e = spec_l26Of_l1 l out e ∧ spec_l26Of_l3 l out e = spec_l26Of_l1 l out e ∧ spec_l26Of_l4 l out e = spec_l26Of_l1 l out e ∧ spec_l26Of_l5 l out e = spec_l26Of_l1 l out e ∧ spec_l26Of_l6 l out e = spec_l26Of_l1 l out e ∧ spec_l26Of_l7 l out e = spec_l26Of_l1 l out e ∧ spec_l26Of_l8 l out e = spec_l26Of_l1 l out e ∧ spec_l26Of_l9 l out e = spec_l26Of_l1 l out e ∧ spec_l26Of_l10 l out e = spec_l26Of_l1 l out e ∧ spec_l26Of_l11 l out e = spec_l26Of_l1 l out e ∧ spec_l26Of_l12 l out e = spec_l26Of_l1 l out e ∧ spec_l26Of_l13 l out e = spec_l26Of_l1 l out e ∧ spec_l26Of_l14 l out e = spec_l26Of_l1 l out e ∧ spec_l26Of_l15 l out e = spec_l26Of_l1 l out e ∧ spec_l26Of_l16 l out e = spec_l26Of_l1 l out e := ⟨rfl, rfl, rfl, rfl, rfl, rfl, rfl, rfl, rfl, rfl, rfl, rfl, rfl, rfl, rfl⟩

set_option maxHeartbeats 4000000 in
theorem l26Of_is {l : List Estimate} (hl : l.length ≤ 1099511627776) {s : List Star} (hs : s.length ≤ 1099511627776) {o : List Observer} (ho : o.length ≤ 1099511627776) (m : Int) {i : Nat} (hi : i < l.length) : spec_l26Of l (i : Int) s o m = some (kindsL l i s o m) := by
  unfold spec_l26Of kindsL
  obtain ⟨q2, q3, q4, q5, q6, q7, q8, q9, q10, q11, q12, q13, q14, q15, q16⟩ := (⟨rfl, rfl, rfl, rfl, rfl, rfl, rfl, rfl, rfl, rfl, rfl, rfl, rfl, rfl, rfl⟩ : @spec_l26Of_l2 = @spec_l26Of_l1 ∧ @spec_l26Of_l3 = @spec_l26Of_l1 ∧ @spec_l26Of_l4 = @spec_l26Of_l1 ∧ @spec_l26Of_l5 = @spec_l26Of_l1 ∧ @spec_l26Of_l6 = @spec_l26Of_l1 ∧ @spec_l26Of_l7 = @spec_l26Of_l1 ∧ @spec_l26Of_l8 = @spec_l26Of_l1 ∧ @spec_l26Of_l9 = @spec_l26Of_l1 ∧ @spec_l26Of_l10 = @spec_l26Of_l1 ∧ @spec_l26Of_l11 = @spec_l26Of_l1 ∧ @spec_l26Of_l12 = @spec_l26Of_l1 ∧ @spec_l26Of_l13 = @spec_l26Of_l1 ∧ @spec_l26Of_l14 = @spec_l26Of_l1 ∧ @spec_l26Of_l15 = @spec_l26Of_l1 ∧ @spec_l26Of_l16 = @spec_l26Of_l1)
  have dn := fun (out : List Int) (ho : out.length ≤ 100) => down_is hl (l.getD i default) (out := out) ho i (by omega)
  have a1 : appOk 1 8 = true := by decide
  have a2 : appOk 2 8 = true := by decide
  have a3 : appOk 3 8 = true := by decide
  have a4 : appOk 4 8 = true := by decide
  have ap : ∀ n : Nat, n ≤ 100 → appOk n 8 = true := fun n h => appOk_of (by omega)
  rw [ixOk_nat, decide_eq_true hi, ck_true, Int.toNat_natCast, l04Find_find hs, Option.bind_some, l05Find_is ho, Option.bind_some, Option.bind_some]
  cases h1 : findS s (l.getD i default).Star with
  | none =>
    have d1 : decide ((-1 : Int) < 0) = true := rfl
    have d2 : decide ((0 : Int) ≤ -1) = false := rfl
    cases h2 : findO o (l.getD i default).Observer with
    | none =>
      simp only [d1, d2, if_true, Bool.false_and, Bool.not_false, Bool.true_or, ck_true, Bool.false_eq_true, if_false, ap _ (show ([] : List Int).length + ([1] : List Int).length ≤ 100 by decide), ap _ (show (([] : List Int) ++ ([1] : List Int)).length + ([2] : List Int).length ≤ 100 by decide), q2, q3, q4, q5, q6, q7, q8, q9, q10, q11, q12, q13, q14, q15, q16]
      rw [dn _ (by simp), Option.bind_some]
      simp [kd]
    | some j =>
      have d3 : decide ((j : Int) < 0) = false := decide_eq_false (by omega)
      simp only [d1, d2, d3, if_true, Bool.false_and, Bool.not_false, Bool.true_or, ck_true, Bool.false_eq_true, if_false, ap _ (show ([] : List Int).length + ([1] : List Int).length ≤ 100 by decide), q2, q3, q4, q5, q6, q7, q8, q9, q10, q11, q12, q13, q14, q15, q16]
      rw [dn _ (by simp), Option.bind_some]
      simp [kd]
  | some k =>
    have hk := findS_lt h1
    have d1 : decide ((k : Int) < 0) = false := decide_eq_false (by omega)
    have d2 : decide ((0 : Int) ≤ (k : Int)) = true := decide_eq_true (by omega)
    have dk : decide (k < s.length) = true := decide_eq_true hk
    generalize hB : decide ((l.getD i default).Mag < IntKind.i64.wrap ((s.getD k default).Bright - m)) = B
    generalize hA : decide (IntKind.i64.wrap ((s.getD k default).Faint + m) < (l.getD i default).Mag) = A
    generalize hC : (l.getD i default).Fainter = C
    cases h2 : findO o (l.getD i default).Observer with
    | none =>
      have d3 : decide ((-1 : Int) < 0) = true := rfl
      simp only [d1, d2, d3, hB, hA, hC, ixOk_nat, dk, Int.toNat_natCast, if_true, Bool.true_and, Bool.or_true, ck_true, Bool.false_eq_true, if_false, q2, q3, q4, q5, q6, q7, q8, q9, q10, q11, q12, q13, q14, q15, q16]
      cases B <;> cases C <;> cases A <;>
        simp only [Bool.not_true, Bool.not_false, Bool.true_and, Bool.false_and, Bool.and_true, Bool.and_false, if_true, Bool.false_eq_true, if_false] <;>
        (rw [dn _ (by simp), Option.bind_some]; simp [kd, a1, a2, a3, a4, ck_true])
    | some j =>
      have d3 : decide ((j : Int) < 0) = false := decide_eq_false (by omega)
      simp only [d1, d2, d3, hB, hA, hC, ixOk_nat, dk, Int.toNat_natCast, if_true, Bool.true_and, Bool.or_true, ck_true, Bool.false_eq_true, if_false, q2, q3, q4, q5, q6, q7, q8, q9, q10, q11, q12, q13, q14, q15, q16]
      cases B <;> cases C <;> cases A <;>
        simp only [Bool.not_true, Bool.not_false, Bool.true_and, Bool.false_and, Bool.and_true, Bool.and_false, if_true, Bool.false_eq_true, if_false] <;>
        (rw [dn _ (by simp), Option.bind_some]; simp [kd, a1, a2, a3, a4, ck_true])

end Go.Proofs.Ythbnoddeifedkaa
