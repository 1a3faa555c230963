/- What typed forms say: folded numbers, and bytes with their checksum. No condition. -/
import Derived.Test.YtgbopjgnggdhkaaHSum
namespace Go.Proofs.Ytgbopjgnggdhkaa
open Go Go.RowKit
set_option linter.unusedSimpArgs false
set_option linter.unusedVariables false

/-! ### Folded numbers -/

def foldN (n : Int) : Int := if n < 0 then -2 * n - 1 else 2 * n
theorem fold_is {n : Int} (h0 : -1000000000000000000 ≤ n) (h1 : n ≤ 1000000000000000000) : spec_l25Fold n = some (foldN n) ∧ impl_fold n = some (foldN n) := by
  unfold foldN
  have e1 : IntKind.i64.wrap ((-2) * n) = -2 * n := wrap_i64 (by omega) (by omega)
  have e2 : IntKind.i64.wrap (2 * n) = 2 * n := wrap_i64 (by omega) (by omega)
  by_cases h : n < 0
  · have e3 : IntKind.i64.wrap (-2 * n - 1) = -2 * n - 1 := wrap_i64 (by omega) (by omega)
    simp only [spec_l25Fold, impl_fold, h, decide_true, if_true, e1, e3, and_self]
  · simp only [spec_l25Fold, impl_fold, h, decide_false, Bool.false_eq_true, if_false, e2, and_self]
theorem foldN_in {n : Int} (h0 : -100000 ≤ n) (h1 : n ≤ 100000) : 0 ≤ foldN n ∧ foldN n ≤ 200000 := by unfold foldN; split <;> omega

/-! ### Closing -/

theorem close_is {b : List UInt8} (hl : b.length ≤ 10000000) : ∃ l, l.length ≤ b.length + 2 ∧ spec_l25Close b = some l ∧ impl_sealed b = some l := by
  obtain ⟨s, h1, h2, h3, h4⟩ := sum_is (b := b) (by omega)
  have t1 : s.tdiv 256 = s / 256 := Int.tdiv_eq_ediv_of_nonneg h2
  have t2 : s.tmod 256 = s % 256 := Int.tmod_eq_emod_of_nonneg h2
  have w1 : IntKind.i64.wrap (s / 256) = s / 256 := wrap_i64 (by omega) (by omega)
  refine ⟨b ++ [toU8 (IntKind.u8.wrap (s / 256)), toU8 (IntKind.u8.wrap (s % 256))], by simp, ?_, ?_⟩
  · unfold spec_l25Close
    simp only [h1, Option.bind_some, nz_of (show (256 : Int) ≠ 0 by decide), ck_true, t1, t2, w1]
    rw [appOk_of (by simp; omega), appOk_of (by simp; omega), ck_true, ck_true]
    simp
  · unfold impl_sealed
    simp only [h4, Option.bind_some, nz_of (show (256 : Int) ≠ 0 by decide), ck_true, t1, t2, w1]
    rw [appOk_of (by simp; omega), ck_true]

end Go.Proofs.Ytgbopjgnggdhkaa
