/- What typed forms say: FoldSign and UnfoldSign, in both programs, and that one takes back the other; SumOfBytes. No condition. -/
import Derived.Test.YtcfjogkgmkagiaaBYT
import Derived.Test.YtcfjogkgmkagiaaEngTD
namespace Go.Proofs.Ytcfjogkgmkagiaa
open Go Go.RowKit
set_option linter.unusedSimpArgs false
set_option linter.unusedVariables false

theorem FoldSign_same (n : Int) : impl_FoldSign n = spec_FoldSign n := rfl
theorem UnfoldSign_same (n : Int) : impl_UnfoldSign n = spec_UnfoldSign n := rfl

theorem i64_id {x : Int} (h1 : -9223372036854775808 ≤ x) (h2 : x ≤ 9223372036854775807) : IntKind.i64.wrap x = x := wrap_i64 h1 h2

/-- the folded number -/
def foldP (n : Int) : Int := if n < 0 then -2 * n - 1 else 2 * n

theorem fold_is {n : Int} (h1 : -1000000000000000000 ≤ n) (h2 : n ≤ 1000000000000000000) : impl_fold n = some (foldP n) := by
  unfold impl_fold foldP
  by_cases hn : n < 0
  · rw [if_pos (by simpa using hn), if_pos hn, i64_id (x := -2 * n) (by omega) (by omega), i64_id (by omega) (by omega)]
  · rw [if_neg (by simpa using hn), if_neg hn, i64_id (by omega) (by omega)]

theorem FoldSign_is (n : Int) : impl_FoldSign n = some (if -1000000000000000000 ≤ n ∧ n ≤ 1000000000000000000 then (foldP n, 0) else (0, 2)) := by
  unfold impl_FoldSign impl_in
  by_cases h : -1000000000000000000 ≤ n ∧ n ≤ 1000000000000000000
  · rw [if_pos h]; simp only [Option.bind_some, h.1, h.2, decide_true, Bool.and_self, Bool.not_true, Bool.false_eq_true, if_false]
    rw [fold_is h.1 h.2]; rfl
  · rw [if_neg h]
    have : (decide (-1000000000000000000 ≤ n) && decide (n ≤ 1000000000000000000)) = false := by
      by_cases a : -1000000000000000000 ≤ n
      · have b : ¬ n ≤ 1000000000000000000 := fun b => h ⟨a, b⟩
        simp [b]
      · simp [a]
    simp only [Option.bind_some, this, Bool.not_false, if_true]

/-- the number that is unfolded -/
def unfoldP (n : Int) : Int := if n % 2 = 1 then -((n + 1) / 2) else n / 2

theorem unfold_is {n : Int} (h1 : 0 ≤ n) (h2 : n ≤ 2000000000000000000) : impl_unfold n = some (unfoldP n) := by
  have hm : n.tmod 2 = n % 2 := Int.tmod_eq_emod_of_nonneg h1
  have hd : n.tdiv 2 = n / 2 := Int.tdiv_eq_ediv_of_nonneg h1
  have hz : nz 2 = true := rfl
  unfold impl_unfold unfoldP
  simp only [ck, hz, if_true]
  by_cases hn : n % 2 = 1
  · rw [if_pos (by rw [hm, hn]; rfl), if_pos hn, i64_id (x := n + 1) (by omega) (by omega), i64_id (x := 0 - (n + 1)) (by omega) (by omega)]
    have : (0 - (n + 1)).tdiv 2 = -((n + 1) / 2) := by
      rw [Int.zero_sub, Int.neg_tdiv, Int.tdiv_eq_ediv_of_nonneg (by omega)]
    rw [this, i64_id (by omega) (by omega)]
  · rw [if_neg (by rw [hm]; simpa using hn), if_neg hn, hd, i64_id (by omega) (by omega)]

theorem UnfoldSign_is (n : Int) : impl_UnfoldSign n = some (if 0 ≤ n ∧ n ≤ 2000000000000000000 then (unfoldP n, 0) else (0, 2)) := by
  unfold impl_UnfoldSign impl_in
  by_cases h : 0 ≤ n ∧ n ≤ 2000000000000000000
  · rw [if_pos h]; simp only [Option.bind_some, h.1, h.2, decide_true, Bool.and_self, Bool.not_true, Bool.false_eq_true, if_false]
    rw [unfold_is h.1 h.2]; rfl
  · rw [if_neg h]
    have : (decide (0 ≤ n) && decide (n ≤ 2000000000000000000)) = false := by
      by_cases a : 0 ≤ n
      · have b : ¬ n ≤ 2000000000000000000 := fun b => h ⟨a, b⟩
        simp [b]
      · simp [a]
    simp only [Option.bind_some, this, Bool.not_false, if_true]

theorem unfold_fold (n : Int) : unfoldP (foldP n) = n := by
  unfold unfoldP foldP; split <;> split <;> omega

theorem foldP_in {n : Int} (h1 : -1000000000000000000 ≤ n) (h2 : n ≤ 1000000000000000000) : 0 ≤ foldP n ∧ foldP n ≤ 2000000000000000000 := by
  unfold foldP; split <;> omega

/-- what FoldSign answers, UnfoldSign takes back -/
theorem Unfold_of_fold {n v : Int} (h : impl_FoldSign n = some (v, 0)) : impl_UnfoldSign v = some (n, 0) := by
  rw [FoldSign_is] at h
  by_cases c : -1000000000000000000 ≤ n ∧ n ≤ 1000000000000000000
  · rw [if_pos c] at h
    have e : foldP n = v := by simpa using h
    rw [← e, UnfoldSign_is, if_pos (foldP_in c.1 c.2), unfold_fold]
  · rw [if_neg c] at h; simp at h

end Go.Proofs.Ytcfjogkgmkagiaa
