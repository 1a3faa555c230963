/- Plain texts: a numeral reads as its number. No condition. -/
import Derived.Test.YtmpmmodbigjdgaaDoorHTextL
namespace Go.Proofs.YtmpmmodbigjdgaaDoor
open Go Go.RowKit
set_option linter.unusedSimpArgs false
set_option linter.unusedVariables false

/-! ### A numeral's own reading -/

theorem valF_app (n : Nat) (a b : List UInt8) : valF n (a ++ b) = valF (valF n a) b := by unfold valF; rw [List.foldl_append]

theorem val_dec : ∀ (k u : Nat), u < 10 ^ (k + 1) → valF 0 (Lib.decDigits u) = u
  | 0, u, h => by
    have h : u < 10 := by simpa using h
    rw [Lib.decDigits_one h, valF_cons, valF_nil, UInt8.toNat_ofNat']
    omega
  | k + 1, u, h => by
    by_cases c : u < 10
    · rw [Lib.decDigits_one c, valF_cons, valF_nil, UInt8.toNat_ofNat']
      omega
    · rw [Lib.decDigits, dif_neg c, valF_app, val_dec k (u / 10) (by rw [Nat.pow_succ] at h; omega), valF_cons, valF_nil, UInt8.toNat_ofNat']
      omega

theorem itoa_nat (u : Nat) : Lib.itoa (u : Int) = Lib.decDigits u := by unfold Lib.itoa; rw [if_neg (by omega)]; simp

theorem rdDec_small {n : Int} (h0 : 0 ≤ n) (h1 : n ≤ 65520) : rdDec (Lib.itoa n) = (n, true) := by
  obtain ⟨u, rfl⟩ := Int.eq_ofNat_of_zero_le h0
  rw [itoa_nat]
  have hl := Lib.decDigits_length u
  have hn := nDigits_le 4 u (by omega)
  have hne := decDigits_ne u
  have hall := dec_all u
  have hval := val_dec 4 u (by omega)
  cases hd : Lib.decDigits u with
  | nil => rw [hd] at hne; exact absurd hne (by simp)
  | cons c r =>
    rw [hd] at hl hall hval hne
    have hc : c ≠ 45 := fun e => by
      subst e
      have : dig 45 = true := (List.all_eq_true.1 hall) 45 (by simp)
      exact absurd this (by decide)
    rw [rdDec_other hc, if_neg (by omega), if_pos hall, hval, if_pos (by rw [itoa_nat, hd])]

theorem rdDec_any {n : Int} (h0 : -1000000000000000000 < n) (h1 : n < 1000000000000000000) : rdDec (Lib.itoa n) = (n, true) := by
  by_cases hn : 0 ≤ n
  · obtain ⟨u, rfl⟩ := Int.eq_ofNat_of_zero_le hn
    rw [itoa_nat]
    have hl := Lib.decDigits_length u
    have hnd := nDigits_le 17 u (by omega)
    have hne := decDigits_ne u
    have hall := dec_all u
    have hval := val_dec 17 u (by omega)
    cases hd : Lib.decDigits u with
    | nil => rw [hd] at hne; exact absurd hne (by simp)
    | cons c r =>
      rw [hd] at hl hall hval hne
      have hc : c ≠ 45 := fun e => by
        subst e
        have : dig 45 = true := (List.all_eq_true.1 hall) 45 (by simp)
        exact absurd this (by decide)
      rw [rdDec_other hc, if_neg (by omega), if_pos hall, hval, if_pos (by rw [itoa_nat, hd])]
  · obtain ⟨u, hu⟩ := Int.eq_ofNat_of_zero_le (show 0 ≤ -n by omega)
    obtain rfl : n = -(u : Int) := by omega
    have e : Lib.itoa (-(u : Int)) = 45 :: Lib.decDigits u := by unfold Lib.itoa; rw [if_pos (by omega)]; simp
    rw [e]
    have hl := Lib.decDigits_length u
    have hnd := nDigits_le 17 u (by omega)
    have hne := decDigits_ne u
    have hall := dec_all u
    have hval := val_dec 17 u (by omega)
    rw [rdDec_minus, if_neg (by omega), if_pos hall, hval, if_pos e]

theorem dec_free {c : UInt8} (hc : dig c = false) (u : Nat) : c ∉ Lib.decDigits u := fun h => by
  have := (List.all_eq_true.1 (dec_all u)) c h
  rw [hc] at this; cases this

end Go.Proofs.YtmpmmodbigjdgaaDoor
