/- What typed forms say: the bytes of numbers. No condition. -/
import Derived.Test.YtcfjogkgmkagiaaBYT
import Derived.Test.YtcfjogkgmkagiaaEngTD
namespace Go.Proofs.Ytcfjogkgmkagiaa
open Go Go.RowKit
set_option linter.unusedSimpArgs false
set_option linter.unusedVariables false

/-! ### The bytes of a number -/

def numStep (n : Int) : UInt8 := toU8 (IntKind.u8.wrap (IntKind.i64.wrap ((n.tmod 128) + 128)))
def numInv (s : Int × List UInt8) : Prop := 0 ≤ s.1 ∧ s.1 * 128 ^ s.2.length ≤ 9223372036854775807

theorem pow1 (l : Nat) : (1 : Int) ≤ 128 ^ l := by
  have : 0 < (128 : Nat) ^ l := Nat.pow_pos (by decide)
  exact_mod_cast this
theorem num_bound {n : Int} {l : Nat} (h1 : 128 ≤ n) (h2 : n * 128 ^ l ≤ 9223372036854775807) : l ≤ 8 := by
  refine Classical.byContradiction fun hc => ?_
  have : (128 : Int) ^ 9 ≤ 128 ^ l := by
    have : (128 : Nat) ^ 9 ≤ 128 ^ l := Nat.pow_le_pow_right (by omega) (by omega)
    exact_mod_cast this
  have h3 : (128 : Int) * 128 ^ 9 ≤ n * 128 ^ l := Int.mul_le_mul h1 this (by decide) (by omega)
  have h4 : (128 : Int) * 128 ^ 9 > 9223372036854775807 := by decide
  omega

theorem l25_step {n : Int} {out : List UInt8} (h : numInv (n, out)) : spec_l25Number_l1 (n, out) = some (if 128 ≤ n then .inl (n / 128, out ++ [numStep n]) else .inr (n, out)) ∧ (128 ≤ n → numInv (n / 128, out ++ [numStep n]) ∧ out.length ≤ 8) := by
  obtain ⟨h0, h1⟩ := h
  simp only at h0 h1
  by_cases hn : 128 ≤ n
  · have hb := num_bound hn h1
    have ht : n.tdiv 128 = n / 128 := Int.tdiv_eq_ediv_of_nonneg h0
    have hbig : n ≤ 9223372036854775807 := by
      have : n * 1 ≤ n * 128 ^ out.length := Int.mul_le_mul_of_nonneg_left (pow1 _) h0
      omega
    refine ⟨?_, fun _ => ⟨⟨by show 0 ≤ n / 128; omega, ?_⟩, hb⟩⟩
    · simp only [spec_l25Number_l1, hn, decide_true, if_true, nz_of (show (128 : Int) ≠ 0 by decide), ck_true]
      rw [appOk_of (by simp; omega), ck_true, ht, wrap_i64 (n := n / 128) (by omega) (by omega)]
      rfl
    · show n / 128 * 128 ^ (out ++ [numStep n]).length ≤ _
      rw [List.length_append, List.length_singleton, Int.pow_succ, Int.mul_comm (128 ^ out.length) 128, ← Int.mul_assoc]
      have : n / 128 * 128 ≤ n := by omega
      exact Int.le_trans (Int.mul_le_mul_of_nonneg_right this (by exact_mod_cast Nat.zero_le _)) h1
  · exact ⟨by simp [spec_l25Number_l1, hn], fun c => absurd c hn⟩

theorem l25Number_some {n : Int} (h0 : 0 ≤ n) (h1 : n ≤ 9223372036854775807) : ∃ m out, whileE spec_l25Number_l1 (n, []) = some (m, out) ∧ out.length ≤ 9 ∧ 0 ≤ m ∧ m < 128 := by
  obtain ⟨y, hy, q⟩ := while_post (step := spec_l25Number_l1) (fun s => numInv s ∧ s.2.length ≤ 9) (fun y => y.2.length ≤ 9 ∧ 0 ≤ y.1 ∧ y.1 < 128) (fun s => s.1.toNat) (by
    rintro ⟨n, out⟩ ⟨h, hl⟩
    obtain ⟨e, h2⟩ := l25_step h
    rw [e]
    by_cases hn : 128 ≤ n
    · rw [if_pos hn]
      refine .inl ⟨_, rfl, ⟨(h2 hn).1, ?_⟩, ?_⟩
      · have := (h2 hn).2; simp; omega
      · show (n / 128).toNat < n.toNat; omega
    · rw [if_neg hn]
      exact .inr ⟨_, rfl, hl, h.1, by omega⟩) (s := (n, [])) ⟨⟨h0, by simpa using h1⟩, by simp⟩
  exact ⟨y.1, y.2, hy, q⟩

theorem appendNumber_loop {n : Int} {b : List UInt8} (h0 : 0 ≤ n) (h1 : n ≤ 9223372036854775807) (hb : b.length ≤ 1099511627776) {m : Int} {out : List UInt8} (h : whileE spec_l25Number_l1 (n, []) = some (m, out)) :
    whileE impl_appendNumber_l1 (b, n) = some (b ++ out, m) := by
  have := while_sim (step := spec_l25Number_l1) (step' := impl_appendNumber_l1) (fun s => (b ++ s.2, s.1)) (fun s => (b ++ s.2, s.1)) numInv (by
    rintro ⟨n, out⟩ hi
    obtain ⟨e, h2⟩ := l25_step hi
    rw [e]
    by_cases hn : 128 ≤ n
    · obtain ⟨h3, h4⟩ := h2 hn
      have ht : n.tdiv 128 = n / 128 := Int.tdiv_eq_ediv_of_nonneg hi.1
      have hbig : n ≤ 9223372036854775807 := by
        have : n * 1 ≤ n * 128 ^ out.length := Int.mul_le_mul_of_nonneg_left (pow1 _) hi.1
        have := hi.2
        simp only at this
        omega
      simp only [impl_appendNumber_l1, hn, decide_true, if_true, nz_of (show (128 : Int) ≠ 0 by decide), ck_true]
      rw [appOk_of (by simp; omega), ck_true, ht, wrap_i64 (n := n / 128) (by omega) (by omega)]
      simp [numStep]
    · simp [impl_appendNumber_l1, hn]) (by
    rintro ⟨n, out⟩ s' hi e
    obtain ⟨e2, h2⟩ := l25_step hi
    rw [e2] at e
    split at e
    · cases e; rename_i hn; exact (h2 hn).1
    · cases e) (s := (n, [])) ⟨h0, by simpa using h1⟩ h
  simpa using this

/-- The bytes of a number that is not negative. -/
theorem number_is {n : Int} (h0 : 0 ≤ n) (h1 : n ≤ 9223372036854775807) : ∃ l : List UInt8, l.length ≤ 10 ∧ spec_l25Number n = some l ∧ ∀ b : List UInt8, b.length ≤ 1099511627776 → impl_appendNumber b n = some (b ++ l) := by
  obtain ⟨m, out, h, hl, hm⟩ := l25Number_some h0 h1
  refine ⟨out ++ [toU8 (IntKind.u8.wrap m)], by simp; omega, ?_, fun b hb => ?_⟩
  · unfold spec_l25Number
    rw [h]
    simp only [Option.bind_some]
    rw [appOk_of (by simp; omega), ck_true]
  · unfold impl_appendNumber
    rw [appendNumber_loop h0 h1 hb h]
    simp only [Option.bind_some]
    rw [appOk_of (by simp; omega), ck_true, List.append_assoc]

end Go.Proofs.Ytcfjogkgmkagiaa
