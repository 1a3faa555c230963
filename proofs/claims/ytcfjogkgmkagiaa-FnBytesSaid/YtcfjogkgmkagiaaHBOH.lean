/- What typed forms say: BytesOfHex in both programs. No condition. -/
import Derived.Test.YtcfjogkgmkagiaaBYT
import Derived.Test.YtcfjogkgmkagiaaHUtil
namespace Go.Proofs.Ytcfjogkgmkagiaa
open Go Go.RowKit
set_option linter.unusedSimpArgs false
set_option linter.unusedVariables false

noncomputable def hexV (c : UInt8) : Int := (spec_l25Digit c).getD 0
theorem digit_all : ∀ n : Fin 256, spec_l25Digit (UInt8.ofNat n.val) = some (hexV (UInt8.ofNat n.val)) ∧ strings_IndexByte [48, 49, 50, 51, 52, 53, 54, 55, 56, 57, 97, 98, 99, 100, 101, 102] (UInt8.ofNat n.val) = some (hexV (UInt8.ofNat n.val)) := by decide +kernel
theorem digit_is (c : UInt8) : spec_l25Digit c = some (hexV c) ∧ strings_IndexByte [48, 49, 50, 51, 52, 53, 54, 55, 56, 57, 97, 98, 99, 100, 101, 102] c = some (hexV c) := by
  have := digit_all ⟨c.toNat, c.toNat_lt⟩
  rwa [UInt8.ofNat_toNat] at this

theorem hex_step (s : List UInt8) : impl_BytesOfHex_l1 s = spec_BytesOfHex_l1 s := by
  funext x
  simp only [impl_BytesOfHex_l1, spec_BytesOfHex_l1, (digit_is _).1, (digit_is _).2]

theorem BytesOfHex_same {s : List UInt8} (hl : s.length ≤ 1048576) : ∃ l b, l.length ≤ 1048576 ∧ spec_BytesOfHex s = some (l, b) ∧ impl_BytesOfHex s = some (l, b) := by
  unfold spec_BytesOfHex impl_BytesOfHex
  rw [hex_step, nz_of (show (2 : Int) ≠ 0 by decide), ck_true]
  cases hc : ((!(((s.length : Int).tmod 2) == 0)) || (decide (16000 < (s.length : Int))))
  · simp only [Bool.or_eq_false_iff, Bool.not_eq_false', beq_iff_eq, decide_eq_false_iff_not] at hc
    obtain ⟨he, hs⟩ := hc
    rw [Int.tmod_eq_emod_of_nonneg (by omega)] at he
    obtain ⟨y, hy, hq⟩ := while_post (step := spec_BytesOfHex_l1 s) (fun x => ∃ i : Nat, x.2 = (i : Int) ∧ 2 ∣ i ∧ i ≤ s.length ∧ x.1.length ≤ i) (fun y => (∃ l, y = .inl l ∧ l.length ≤ 1048576) ∨ y = .inr ([], false)) (fun x => s.length - x.2.toNat) (by
      rintro ⟨out, ii⟩ ⟨i, rfl, hd, hi, ho⟩
      simp only at ho
      by_cases hlt : i < s.length
      · have hlt2 : i + 1 < s.length := by omega
        have w1 : IntKind.i64.wrap ((i : Int) + 1) = ((i + 1 : Nat) : Int) := wrap_nat1 (by omega)
        have w2 : IntKind.i64.wrap ((i : Int) + 2) = ((i + 2 : Nat) : Int) := by rw [wrap_i64 (by omega) (by omega)]; omega
        simp only [spec_BytesOfHex_l1, Int.ofNat_lt, hlt, decide_true, if_true, ixOk_nat, hlt2, ck_true, w1, w2, Int.toNat_natCast, (digit_is _).1, Option.bind_some]
        cases (decide (hexV (s.getD i 0) < 0) || decide (hexV (s.getD (i + 1) 0) < 0))
        · left
          rw [appOk_of (by simp; omega), ck_true]
          exact ⟨_, rfl, ⟨i + 2, rfl, by omega, by omega, by simp; omega⟩, by simp only [Int.toNat_natCast]; omega⟩
        · right
          exact ⟨_, rfl, .inr rfl⟩
      · right
        exact ⟨.inl out, by simp [spec_BytesOfHex_l1, hlt], .inl ⟨out, rfl, by omega⟩⟩) (s := (([] : List UInt8), 0)) ⟨0, rfl, by omega, by omega, by simp⟩
    simp only [Bool.false_eq_true, if_false, hy, Option.bind_some]
    rcases hq with ⟨l, rfl, hl2⟩ | rfl
    · exact ⟨l, true, hl2, rfl, rfl⟩
    · exact ⟨[], false, by simp, rfl, rfl⟩
  · simp only [if_true]
    exact ⟨[], false, by simp, rfl, rfl⟩

end Go.Proofs.Ytcfjogkgmkagiaa
