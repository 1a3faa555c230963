/- What typed forms say: the bytes of a number are read back. No condition. -/
import Derived.Test.YtcfjogkgmkagiaaHNum
import Derived.Test.YtcfjogkgmkagiaaHRead
namespace Go.Proofs.Ytcfjogkgmkagiaa
open Go Go.RowKit
set_option linter.unusedSimpArgs false
set_option linter.unusedVariables false

/-- the bytes of a number -/
def numP (n : Nat) : List UInt8 := if n < 128 then [UInt8.ofNat n] else UInt8.ofNat (n % 128 + 128) :: numP (n / 128)
termination_by n
decreasing_by omega

theorem numP_lo {n : Nat} (h : n < 128) : numP n = [UInt8.ofNat n] := by rw [numP, if_pos h]
theorem numP_hi {n : Nat} (h : ¬ n < 128) : numP n = UInt8.ofNat (n % 128 + 128) :: numP (n / 128) := by rw [numP, if_neg h]

theorem numStep_is (n : Nat) : numStep (n : Int) = UInt8.ofNat (n % 128 + 128) := by
  unfold numStep toU8
  rw [Int.tmod_eq_emod_of_nonneg (by omega), wrap_i64 (by omega) (by omega), wrap_u8 (by omega) (by omega)]
  congr 1

theorem num_list : ∀ (k n : Nat) (out : List UInt8), n < k → numInv ((n : Int), out) → ∃ m out', whileE spec_l25Number_l1 ((n : Int), out) = some (m, out') ∧ out' ++ [toU8 (IntKind.u8.wrap m)] = out ++ numP n ∧ out'.length ≤ out.length + n
  | 0, n, _, h, _ => absurd h (by omega)
  | k + 1, n, out, h, hi => by
    obtain ⟨e, h2⟩ := l25_step hi
    by_cases hn : n < 128
    · rw [if_neg (by omega)] at e
      refine ⟨(n : Int), out, whileE_done e, ?_, by omega⟩
      rw [numP_lo hn, wrap_u8 (by omega) (by omega)]
      simp [toU8]
    · have hn' : (128 : Int) ≤ (n : Int) := by omega
      rw [if_pos hn'] at e
      have hd : (n : Int) / 128 = ((n / 128 : Nat) : Int) := by omega
      rw [hd, numStep_is] at e
      have h3 := (h2 hn').1
      rw [hd, numStep_is] at h3
      obtain ⟨m, out', e2, e3, e4⟩ := num_list k (n / 128) (out ++ [UInt8.ofNat (n % 128 + 128)]) (by omega) h3
      refine ⟨m, out', by rw [whileE_next e, e2], ?_, ?_⟩
      · rw [e3, numP_hi hn, List.append_assoc]; rfl
      · simp only [List.length_append, List.length_singleton] at e4; omega

theorem number_numP {n : Nat} (h : n ≤ 9223372036854775807) : spec_l25Number (n : Int) = some (numP n) := by
  obtain ⟨l, hl, e, _⟩ := number_is (n := (n : Int)) (by omega) (by omega)
  obtain ⟨m, out, e1, e2, _⟩ := num_list (n + 1) n [] (by omega) ⟨by show (0 : Int) ≤ (n : Int); omega, by show (n : Int) * 128 ^ 0 ≤ _; omega⟩
  rw [e]
  unfold spec_l25Number at e
  rw [e1] at e
  simp only [Option.bind_some] at e
  unfold ck at e
  split at e
  · have : l = out ++ [toU8 (IntKind.u8.wrap m)] := by simpa using e.symm
    rw [this, e2]; rfl
  · cases e

theorem read_numP : ∀ (k n : Nat) (b pre : List UInt8) (acc : Nat), n < k → b = pre ++ numP n → acc < 2 ^ (7 * pre.length) → (pre.length = 0 ∨ 0 < n) → n * 2 ^ (7 * pre.length) < 2 ^ 63 →
    whileE (spec_l25Read_l1 b) ((acc : Int), (pre.length : Int)) = some (.inr (((acc + n * 2 ^ (7 * pre.length) : Nat) : Int), ((b.length : Nat) : Int), true))
  | 0, n, _, _, _, h, _, _, _, _ => absurd h (by omega)
  | k + 1, n, b, pre, acc, h, hb, ha, h0, hn => by
    have h9 : pre.length < 9 := by
      rcases h0 with h0 | h0
      · omega
      · have : 1 * 2 ^ (7 * pre.length) ≤ n * 2 ^ (7 * pre.length) := Nat.mul_le_mul_right _ h0
        have h3 : 2 ^ (7 * pre.length) < 2 ^ 63 := by omega
        have := (Nat.pow_lt_pow_iff_right (show 1 < 2 by decide)).1 h3
        omega
    by_cases hlo : n < 128
    · rw [numP_lo hlo] at hb
      have hl : b.length = pre.length + 1 := by rw [hb]; simp
      have hg : b.getD pre.length default = UInt8.ofNat n := by rw [hb]; simp
      have ht : (UInt8.ofNat n).toNat = n := by simp; omega
      obtain ⟨e, _, _⟩ := rd_step hg h9 (by omega) ha
      have c1 : UInt8.ofNat n < 128 := by rw [UInt8.lt_iff_toNat_lt, ht]; exact hlo
      have c2 : ¬ (0 < pre.length ∧ UInt8.ofNat n = 0) := by
        rintro ⟨a, c⟩
        have : (UInt8.ofNat n).toNat = 0 := by rw [c]; rfl
        omega
      rw [if_pos c1, if_neg c2, ht, Nat.mod_eq_of_lt hlo] at e
      rw [whileE_done e, hl]
    · rw [numP_hi hlo] at hb
      have hl : pre.length < b.length := by rw [hb]; simp
      have hg : b.getD pre.length default = UInt8.ofNat (n % 128 + 128) := by rw [hb]; simp
      have ht : (UInt8.ofNat (n % 128 + 128)).toNat = n % 128 + 128 := by simp; omega
      obtain ⟨e, _, e3⟩ := rd_step hg h9 hl ha
      have c1 : ¬ UInt8.ofNat (n % 128 + 128) < 128 := by rw [UInt8.lt_iff_toNat_lt, ht]; show ¬ n % 128 + 128 < 128; omega
      have hm : (n % 128 + 128) % 128 = n % 128 := by omega
      rw [if_neg c1, ht, hm] at e
      rw [ht, hm] at e3
      have hp : 2 ^ (7 * (pre.length + 1)) = 128 * 2 ^ (7 * pre.length) := (rd_pow h9).2
      have hq : n / 128 * 128 + n % 128 = n := by omega
      have hsum : n / 128 * (128 * 2 ^ (7 * pre.length)) + n % 128 * 2 ^ (7 * pre.length) = n * 2 ^ (7 * pre.length) := by
        rw [← Nat.mul_assoc, ← Nat.add_mul, hq]
      have := read_numP k (n / 128) b (pre ++ [UInt8.ofNat (n % 128 + 128)]) (acc + n % 128 * 2 ^ (7 * pre.length)) (by omega) (by rw [hb, List.append_assoc]; rfl)
        (by rw [List.length_append, List.length_singleton]; exact e3) (.inr (by omega)) (by rw [List.length_append, List.length_singleton, hp]; omega)
      rw [List.length_append, List.length_singleton, hp] at this
      rw [whileE_next e, this]
      have hs : acc + n % 128 * 2 ^ (7 * pre.length) + n / 128 * (128 * 2 ^ (7 * pre.length)) = acc + n * 2 ^ (7 * pre.length) := by omega
      rw [hs]

end Go.Proofs.Ytcfjogkgmkagiaa
