/- What typed forms say: the text that HexOf writes is read back by BytesOfHex. No condition. -/
import Derived.Test.YtcfjogkgmkagiaaHHex
namespace Go.Proofs.Ytcfjogkgmkagiaa
open Go Go.RowKit
set_option linter.unusedSimpArgs false
set_option linter.unusedVariables false

theorem hex_back_all : ∀ n : Fin 256, spec_l25Digit (hxA (UInt8.ofNat n.val)) = some ((n.val / 16 : Nat) : Int) ∧ spec_l25Digit (hxB (UInt8.ofNat n.val)) = some ((n.val % 16 : Nat) : Int) ∧
    toU8 (IntKind.u8.wrap (IntKind.i64.wrap ((IntKind.i64.wrap (16 * ((n.val / 16 : Nat) : Int))) + ((n.val % 16 : Nat) : Int)))) = UInt8.ofNat n.val := by decide +kernel
theorem hex_back (c : UInt8) : spec_l25Digit (hxA c) = some ((c.toNat / 16 : Nat) : Int) ∧ spec_l25Digit (hxB c) = some ((c.toNat % 16 : Nat) : Int) ∧
    toU8 (IntKind.u8.wrap (IntKind.i64.wrap ((IntKind.i64.wrap (16 * ((c.toNat / 16 : Nat) : Int))) + ((c.toNat % 16 : Nat) : Int)))) = c := by
  have := hex_back_all ⟨c.toNat, c.toNat_lt⟩
  simpa only [UInt8.ofNat_toNat] using this

theorem hexP_at : ∀ (b : List UInt8) (k : Nat), k < b.length → (hexP b).getD (2 * k) 0 = hxA (b.getD k default) ∧ (hexP b).getD (2 * k + 1) 0 = hxB (b.getD k default)
  | [], k, h => absurd h (by simp)
  | c :: r, 0, _ => ⟨rfl, rfl⟩
  | c :: r, k + 1, h => by
    have := hexP_at r k (by simpa using h)
    have e1 : 2 * (k + 1) = 2 * k + 1 + 1 := by omega
    have e2 : 2 * (k + 1) + 1 = 2 * k + 1 + 1 + 1 := by omega
    rw [e2, e1]
    simp only [hexP, List.getD_cons_succ]
    exact this

theorem hex_loop (b : List UInt8) (hb : b.length ≤ 8000) : whileE (spec_BytesOfHex_l1 (hexP b)) (([] : List UInt8), 0) = some (.inl b) := by
  have hl := hexP_len b
  have := whileE_run (step := spec_BytesOfHex_l1 (hexP b)) (fun k => (b.take k, ((2 * k : Nat) : Int))) b.length (r := .inl b) ?_ ?_
  · simpa using this
  · intro k hk
    obtain ⟨a1, a2⟩ := hexP_at b k hk
    obtain ⟨d1, d2, d3⟩ := hex_back (b.getD k default)
    have hlt : 2 * k < (hexP b).length := by omega
    have hlt2 : 2 * k + 1 < (hexP b).length := by omega
    have w1 : IntKind.i64.wrap (((2 * k : Nat) : Int) + 1) = ((2 * k + 1 : Nat) : Int) := wrap_nat1 (by omega)
    have w2 : IntKind.i64.wrap (((2 * k : Nat) : Int) + 2) = ((2 * (k + 1) : Nat) : Int) := by rw [wrap_i64 (by omega) (by omega)]; omega
    have n1 : (decide ((((b.getD k default).toNat / 16 : Nat) : Int) < 0) || decide ((((b.getD k default).toNat % 16 : Nat) : Int) < 0)) = false := by
      rw [Bool.or_eq_false_iff, decide_eq_false_iff_not, decide_eq_false_iff_not]; omega
    simp only [spec_BytesOfHex_l1, Int.ofNat_lt, hlt, decide_true, if_true, ixOk_nat, hlt2, ck_true, w1, w2, Int.toNat_natCast, a1, a2, d1, d2, Option.bind_some, n1, Bool.false_eq_true, if_false, d3]
    rw [appOk_of (by simp; omega), ck_true, List.take_add_one, List.getElem?_eq_getElem hk, List.getD_eq_getElem?_getD, List.getElem?_eq_getElem hk]
    rfl
  · have : ¬ (2 * b.length < (hexP b).length) := by omega
    simp only [spec_BytesOfHex_l1, Int.ofNat_lt, this, decide_false, Bool.false_eq_true, if_false, List.take_length]

theorem spec_Hex_back (b : List UInt8) (hb : b.length ≤ 8000) : spec_BytesOfHex (hexP b) = some (b, true) := by
  have hl := hexP_len b
  unfold spec_BytesOfHex
  rw [nz_of (show (2 : Int) ≠ 0 by decide), ck_true, if_neg, hex_loop b hb]
  · rfl
  · rw [Int.tmod_eq_emod_of_nonneg (by omega)]
    simp only [Bool.or_eq_true, Bool.not_eq_true', beq_eq_false_iff_ne, decide_eq_true_eq, ne_eq]
    omega

end Go.Proofs.Ytcfjogkgmkagiaa
