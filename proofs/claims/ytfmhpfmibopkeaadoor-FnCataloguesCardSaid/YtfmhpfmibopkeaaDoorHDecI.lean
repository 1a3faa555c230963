/- (the program alone) What typed forms say: decimal numerals. No condition. -/
import Derived.Test.YtfmhpfmibopkeaaDoorCAL
import Derived.Test.YtfmhpfmibopkeaaDoorHUtil
import Derived.Test.YtfmhpfmibopkeaaDoorEngSH
namespace Go.Proofs.YtfmhpfmibopkeaaDoor
open Go Go.RowKit
set_option linter.unusedSimpArgs false
set_option linter.unusedVariables false

theorem nDigits_le : ∀ (k u : Nat), u < 10 ^ (k + 1) → Lib.nDigits u ≤ k + 1
  | 0, u, h => by rw [Lib.nDigits_small (by simpa using h)]; omega
  | k + 1, u, h => by
    by_cases c : u < 10
    · rw [Lib.nDigits_small c]; omega
    · rw [Lib.nDigits_big c]
      have := nDigits_le k (u / 10) (by rw [Nat.pow_succ] at h; omega)
      omega

theorem decDigits_len {u : Nat} (h : u ≤ 9223372036854775808) : (Lib.decDigits u).length ≤ 20 := by
  rw [Lib.decDigits_length]
  exact nDigits_le 19 u (by omega)

theorem itoa_len {n : Int} (h : R64 n) : (Lib.itoa n).length ≤ 21 := by
  obtain ⟨h1, h2⟩ := h
  unfold Lib.itoa
  split
  · have := decDigits_len (u := n.natAbs) (by omega)
    simp; omega
  · have := decDigits_len (u := n.toNat) (by omega)
    omega

theorem Decimal_is {n : Int} (hr : R64 n) : impl_Decimal n = some (Lib.itoa n) := by
  obtain ⟨h1, h2⟩ := hr
  unfold impl_Decimal strconv_FormatInt hFmt
  simp [h1, h2]

end Go.Proofs.YtfmhpfmibopkeaaDoor
