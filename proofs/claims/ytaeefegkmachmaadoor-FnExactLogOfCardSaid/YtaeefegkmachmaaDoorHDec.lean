/- What typed forms say: decimal numerals. No condition. -/
import Derived.Test.YtaeefegkmachmaaDoorLOL
import Derived.Test.YtaeefegkmachmaaDoorHUtil
import Derived.Test.YtaeefegkmachmaaDoorEngSH
namespace Go.Proofs.YtaeefegkmachmaaDoor
open Go Go.RowKit
set_option linter.unusedSimpArgs false
set_option linter.unusedVariables false

theorem nDigits_le : ∀ (k u : Nat), u < 10 ^ (k + 1) → Lib.nDigits u ≤ k + 1
  | 0, u, h => by rw [Lib.nDigits_small (by simpa using h)]; omega
  | k + 1, u, h => by
    by_cases c : u < 10
    · rw [Lib.nDigits_small c]; omega
    · rw [Lib.nDigits_big c]
      have := nDigits_le k (u / 10) (by rw [Nat.pow_succ] at h; omega)
      omega

theorem decDigits_len {u : Nat} (h : u ≤ 9223372036854775808) : (Lib.decDigits u).length ≤ 20 := by
  rw [Lib.decDigits_length]
  exact nDigits_le 19 u (by omega)

theorem decDigits_ne (u : Nat) : 1 ≤ (Lib.decDigits u).length := by
  rw [Lib.decDigits_length]; exact Lib.nDigits_pos u

theorem itoa_len {n : Int} (h : R64 n) : (Lib.itoa n).length ≤ 21 := by
  obtain ⟨h1, h2⟩ := h
  unfold Lib.itoa
  split
  · have := decDigits_len (u := n.natAbs) (by omega)
    simp; omega
  · have := decDigits_len (u := n.toNat) (by omega)
    omega

theorem digit_u8 {d : Nat} (h : d < 10) : toU8 (IntKind.u8.wrap (IntKind.i64.wrap (48 + (d : Int)))) = UInt8.ofNat (48 + d) := by
  have : d = 0 ∨ d = 1 ∨ d = 2 ∨ d = 3 ∨ d = 4 ∨ d = 5 ∨ d = 6 ∨ d = 7 ∨ d = 8 ∨ d = 9 := by omega
  rcases this with rfl | rfl | rfl | rfl | rfl | rfl | rfl | rfl | rfl | rfl <;> decide +kernel

def decInv (n : Int) (m : Nat) (s : List UInt8 × Int) : Prop :=
  ∃ u : Nat, s.2 = (if n < 0 then -(u : Int) else (u : Int)) ∧ u ≤ m ∧ (if u = 0 then s.1 = Lib.decDigits m else Lib.decDigits m = Lib.decDigits u ++ s.1)

theorem dec_step {n : Int} {m : Nat} (hm : m ≤ 9223372036854775808) {out : List UInt8} {u : Nat} (hu : u ≤ m) (h0 : u ≠ 0) (h : Lib.decDigits m = Lib.decDigits u ++ out) :
    spec_l01Dec_l1 n (out, if n < 0 then -(u : Int) else (u : Int)) = some (.inl (UInt8.ofNat (48 + u % 10) :: out, if n < 0 then -((u / 10 : Nat) : Int) else ((u / 10 : Nat) : Int))) ∧
    (if u / 10 = 0 then UInt8.ofNat (48 + u % 10) :: out = Lib.decDigits m else Lib.decDigits m = Lib.decDigits (u / 10) ++ UInt8.ofNat (48 + u % 10) :: out) := by
  have hl : out.length ≤ 20 := by
    have := decDigits_len hm
    rw [h, List.length_append] at this; omega
  constructor
  · have t1 : ((u : Int)).tmod 10 = ((u % 10 : Nat) : Int) := by rw [Int.tmod_eq_emod_of_nonneg (by omega)]; omega
    have t2 : ((u : Int)).tdiv 10 = ((u / 10 : Nat) : Int) := by rw [Int.tdiv_eq_ediv_of_nonneg (by omega)]; omega
    have w : IntKind.i64.wrap ((u % 10 : Nat) : Int) = ((u % 10 : Nat) : Int) := wrap_i64 (by omega) (by omega)
    have ha : appOk (([UInt8.ofNat (48 + u % 10)] : List UInt8).length + out.length) 1 = true := appOk_of (by simp; omega)
    by_cases hn : n < 0
    · have k0 : ((-(u : Int)) == 0) = false := by rw [beq_eq_false_iff_ne]; omega
      have w2 : IntKind.i64.wrap (-((u / 10 : Nat) : Int)) = -((u / 10 : Nat) : Int) := wrap_i64 (by omega) (by omega)
      simp only [spec_l01Dec_l1, hn, if_true, k0, Bool.not_false, nz_of (show (10 : Int) ≠ 0 by decide), ck_true, Int.neg_tmod, Int.neg_tdiv, t1, t2, w2]
      by_cases hd : u % 10 = 0
      · have e : ¬ (-(((u % 10 : Nat)) : Int) < 0) := by omega
        simp only [e, decide_false, Bool.false_eq_true, if_false]
        have e2 : (-((u % 10 : Nat) : Int)) = ((u % 10 : Nat) : Int) := by omega
        rw [e2, digit_u8 (Nat.mod_lt _ (by omega)), ha, ck_true]; rfl
      · have e : (-(((u % 10 : Nat)) : Int) < 0) := by omega
        have e2 : (0 - -((u % 10 : Nat) : Int)) = ((u % 10 : Nat) : Int) := by omega
        simp only [e, decide_true, if_true, e2, w]
        rw [digit_u8 (Nat.mod_lt _ (by omega)), ha, ck_true]; rfl
    · have k0 : ((u : Int) == 0) = false := by rw [beq_eq_false_iff_ne]; omega
      have w2 : IntKind.i64.wrap ((u / 10 : Nat) : Int) = ((u / 10 : Nat) : Int) := wrap_i64 (by omega) (by omega)
      have e : ¬ ((((u % 10 : Nat)) : Int) < 0) := by omega
      simp only [spec_l01Dec_l1, hn, if_false, k0, Bool.not_false, if_true, nz_of (show (10 : Int) ≠ 0 by decide), ck_true, t1, t2, w2, e, decide_false, Bool.false_eq_true]
      rw [digit_u8 (Nat.mod_lt _ (by omega)), ha, ck_true]; rfl
  · by_cases c : u < 10
    · have e : u / 10 = 0 := by omega
      rw [if_pos e, h, Lib.decDigits_one c, Nat.mod_eq_of_lt c]; rfl
    · have e : ¬ u / 10 = 0 := by omega
      rw [if_neg e, h, Lib.decDigits, dif_neg c, List.append_assoc]; rfl

theorem l01Dec_is {n : Int} (hr : R64 n) : spec_l01Dec n = some (Lib.itoa n) := by
  obtain ⟨h1, h2⟩ := hr
  by_cases h0 : n = 0
  · subst h0
    unfold spec_l01Dec
    rw [whileE_done (r := ([] : List UInt8)) (by simp [spec_l01Dec_l1])]
    simp [Lib.itoa, Lib.decDigits]
  · obtain ⟨m, hm, hm0, hmn⟩ : ∃ m : Nat, m ≤ 9223372036854775808 ∧ m ≠ 0 ∧ n = (if n < 0 then -(m : Int) else (m : Int)) := by
      by_cases hn : n < 0
      · exact ⟨n.natAbs, by omega, by omega, by rw [if_pos hn]; omega⟩
      · exact ⟨n.toNat, by omega, by omega, by rw [if_neg hn]; omega⟩
    have hw : whileE (spec_l01Dec_l1 n) (([] : List UInt8), n) = some (Lib.decDigits m) := by
      obtain ⟨y, hy, hq⟩ := while_post (step := spec_l01Dec_l1 n) (decInv n m) (fun y => y = Lib.decDigits m) (fun s => s.2.natAbs) (by
        rintro ⟨out, k⟩ ⟨u, hk, hu, hd⟩
        simp only at hk hd
        subst hk
        by_cases hu0 : u = 0
        · subst hu0
          right
          rw [if_pos rfl] at hd
          refine ⟨out, ?_, hd⟩
          split <;> simp [spec_l01Dec_l1]
        · left
          rw [if_neg hu0] at hd
          obtain ⟨e1, e2⟩ := dec_step (n := n) hm hu hu0 hd
          refine ⟨_, e1, ⟨u / 10, rfl, by omega, e2⟩, ?_⟩
          show Int.natAbs (if n < 0 then _ else _) < Int.natAbs (if n < 0 then _ else _)
          split <;> omega) (s := (([] : List UInt8), n)) ⟨m, hmn, Nat.le_refl _, by rw [if_neg hm0, List.append_nil]⟩
      rw [hy, hq]
    unfold spec_l01Dec
    rw [hw]
    have hl1 := decDigits_ne m
    have hl2 := decDigits_len hm
    have e : (((Lib.decDigits m).length : Int) == 0) = false := by rw [beq_eq_false_iff_ne]; omega
    simp only [Option.bind_some, e, Bool.false_eq_true, if_false]
    unfold Lib.itoa
    by_cases hn : n < 0
    · rw [if_pos hn] at hmn
      have e2 : n.natAbs = m := by omega
      simp only [hn, decide_true, if_true, e2]
      rw [catOk_of (by simp; omega), ck_true]; rfl
    · rw [if_neg hn] at hmn
      have e2 : n.toNat = m := by omega
      simp [hn, e2]

theorem Decimal_is {n : Int} (hr : R64 n) : impl_Decimal n = some (Lib.itoa n) := by
  obtain ⟨h1, h2⟩ := hr
  unfold impl_Decimal strconv_FormatInt hFmt
  simp [h1, h2]

end Go.Proofs.YtaeefegkmachmaaDoor
