/- What typed forms say: checksums. No condition. -/
import Derived.Test.YtgbopjgnggdhkaaR9L
namespace Go.Proofs.Ytgbopjgnggdhkaa
open Go Go.RowKit
set_option linter.unusedSimpArgs false
set_option linter.unusedVariables false

theorem sum_step (b : List UInt8) : impl_SumOfBytes_l1 b (b.length : Int) = spec_l25Sum_l1 b := id rfl

theorem sum_is {b : List UInt8} (hl : b.length ≤ 1099511627776) : ∃ s, spec_l25Sum b = some s ∧ 0 ≤ s ∧ s ≤ 63000 ∧ impl_SumOfBytes b = some s := by
  obtain ⟨y, hy, h1, h2, h3, h4⟩ := while_post (step := spec_l25Sum_l1 b) (fun s => 0 ≤ s.1 ∧ s.1 ≤ 250 ∧ 0 ≤ s.2.1 ∧ s.2.1 ≤ 250 ∧ ∃ i : Nat, s.2.2 = (i : Int) ∧ i ≤ b.length) (fun y => 0 ≤ y.1 ∧ y.1 ≤ 250 ∧ 0 ≤ y.2 ∧ y.2 ≤ 250) (fun s => b.length - s.2.2.toNat) (by
    rintro ⟨s, t, i⟩ ⟨h1, h2, h3, h4, i, rfl, hi⟩
    simp only at h1 h2 h3 h4
    by_cases h : i < b.length
    · left
      have hb := u8_lt (b.getD i default)
      have hb0 : (0 : Int) ≤ ((b.getD i default).toNat : Int) := by omega
      have w1 : IntKind.i64.wrap (s + ((b.getD i default).toNat : Int)) = s + ((b.getD i default).toNat : Int) := wrap_i64 (by omega) (by omega)
      have t1 : (s + ((b.getD i default).toNat : Int)).tmod 251 = (s + ((b.getD i default).toNat : Int)) % 251 := Int.tmod_eq_emod_of_nonneg (by omega)
      have w2 : IntKind.i64.wrap (t + (s + ((b.getD i default).toNat : Int)) % 251) = t + (s + ((b.getD i default).toNat : Int)) % 251 := wrap_i64 (by omega) (by omega)
      have t2 : (t + (s + ((b.getD i default).toNat : Int)) % 251).tmod 251 = (t + (s + ((b.getD i default).toNat : Int)) % 251) % 251 := Int.tmod_eq_emod_of_nonneg (by omega)
      simp only [spec_l25Sum_l1, Int.ofNat_lt, h, decide_true, if_true, ixOk_nat, ck_true, Int.toNat_natCast, wrap_nat1 (show i < 9223372036854775807 by omega), nz_of (show (251 : Int) ≠ 0 by decide), w1, t1, w2, t2]
      refine ⟨_, rfl, ⟨by show 0 ≤ _ % 251; omega, by show _ % 251 ≤ 250; omega, by show 0 ≤ _ % 251; omega, by show _ % 251 ≤ 250; omega, i + 1, rfl, by omega⟩, by simp only [Int.toNat_natCast]; omega⟩
    · right
      exact ⟨(s, t), by simp [spec_l25Sum_l1, h], h1, h2, h3, h4⟩) (s := (1, 0, 0)) ⟨by decide, by decide, by decide, by decide, 0, rfl, by omega⟩
  have w1 : IntKind.i64.wrap (251 * y.2) = 251 * y.2 := wrap_i64 (by omega) (by omega)
  have w2 : IntKind.i64.wrap (251 * y.2 + y.1) = 251 * y.2 + y.1 := wrap_i64 (by omega) (by omega)
  refine ⟨251 * y.2 + y.1, ?_, by omega, by omega, ?_⟩
  · unfold spec_l25Sum; rw [hy]; simp only [Option.bind_some, w1, w2]
  · unfold impl_SumOfBytes; rw [sum_step, hy]; simp only [Option.bind_some, w1, w2]

end Go.Proofs.Ytgbopjgnggdhkaa
