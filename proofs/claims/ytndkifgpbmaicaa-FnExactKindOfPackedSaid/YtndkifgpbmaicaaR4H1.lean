/- What typed forms say: checksums and kinds of packed forms. No condition. -/
import Derived.Test.YtndkifgpbmaicaaR4T
import Derived.Test.YtndkifgpbmaicaaEngTD
namespace Go.Proofs.Ytndkifgpbmaicaa
open Go Go.RowKit
set_option linter.unusedSimpArgs false
set_option linter.unusedVariables false

theorem spec_l00In_is (n a b : Int) : spec_l00In n a b = some (decide (a ≤ n) && decide (n ≤ b)) := id rfl
theorem impl_in_is (n a b : Int) : impl_in n a b = some (decide (a ≤ n) && decide (n ≤ b)) := id rfl

theorem eqByteS_is {a b : List UInt8} (h : a.length ≤ 1099511627776) : laws_eqByteS a b = some (decide (a = b)) := by
  unfold laws_eqByteS
  by_cases hl : a.length = b.length
  · have h1 : ((a.length : Int) == (b.length : Int)) = true := by simp [hl]
    rw [h1]
    have := while_all (step := laws_eqByteS_l1 a b) (fun i => a.getD i default == b.getD i default) a.length (decide (a = b)) (yes := .inl ()) (no := .inr false)
      (by rw [decide_eq_true_eq]; exact (getD_eq_iff hl).symm)
      (fun i hi => by
        have hi2 : i < b.length := by omega
        simp only [laws_eqByteS_l1, ixOk_nat, hi, hi2, decide_true, ck_true, Int.ofNat_lt, if_true, Int.toNat_natCast, wrap_nat1 (show i < 9223372036854775807 by omega)]
        have e : (((a.getD i default).toNat : Int) == ((b.getD i default).toNat : Int)) = (a.getD i default == b.getD i default) := by
          rw [Bool.eq_iff_iff]; simp [← UInt8.toNat_inj]; omega
        rw [e]
        cases (a.getD i default == b.getD i default) <;> rfl)
      (by simp [laws_eqByteS_l1])
    simp only [Bool.not_true, Bool.false_eq_true, if_false, this, Option.bind_some]
    by_cases hab : a = b <;> simp [hab]
  · have h1 : ((a.length : Int) == (b.length : Int)) = false := by simp; omega
    rw [h1]
    have : a ≠ b := fun c => hl (by rw [c])
    simp [this]

theorem toByteS_is {a : List UInt8} (h : a.length ≤ 1099511627776) : laws_toByteS a = some a := by
  unfold laws_toByteS
  rw [mkOk_of (by omega) (by omega) (by omega), ck_true, Int.toNat_natCast, copy_loop _ h]
  · rfl
  · intro out i ho hi
    simp only [laws_toByteS_l1, ixOk_nat, ho, hi, decide_true, ck_true, Int.ofNat_lt, if_true, Int.toNat_natCast, wrap_nat1 (show i < 9223372036854775807 by omega)]
  · intro out; simp [laws_toByteS_l1]

theorem sum_step (b : List UInt8) : impl_SumOfBytes_l1 b (b.length : Int) = spec_l25Sum_l1 b := id rfl

theorem sum_is {b : List UInt8} (hl : b.length ≤ 1099511627776) : ∃ s, spec_l25Sum b = some s ∧ 0 ≤ s ∧ s ≤ 63000 ∧ impl_SumOfBytes b = some s := by
  obtain ⟨y, hy, h1, h2, h3, h4⟩ := while_post (step := spec_l25Sum_l1 b) (fun s => 0 ≤ s.1 ∧ s.1 ≤ 250 ∧ 0 ≤ s.2.1 ∧ s.2.1 ≤ 250 ∧ ∃ i : Nat, s.2.2 = (i : Int) ∧ i ≤ b.length) (fun y => 0 ≤ y.1 ∧ y.1 ≤ 250 ∧ 0 ≤ y.2 ∧ y.2 ≤ 250) (fun s => b.length - s.2.2.toNat) (by
    rintro ⟨s, t, i⟩ ⟨h1, h2, h3, h4, i, rfl, hi⟩
    simp only at h1 h2 h3 h4
    by_cases h : i < b.length
    · left
      have hb := u8_lt (b.getD i default)
      have hb0 : (0 : Int) ≤ ((b.getD i default).toNat : Int) := by omega
      have w1 : IntKind.i64.wrap (s + ((b.getD i default).toNat : Int)) = s + ((b.getD i default).toNat : Int) := wrap_i64 (by omega) (by omega)
      have t1 : (s + ((b.getD i default).toNat : Int)).tmod 251 = (s + ((b.getD i default).toNat : Int)) % 251 := Int.tmod_eq_emod_of_nonneg (by omega)
      have w2 : IntKind.i64.wrap (t + (s + ((b.getD i default).toNat : Int)) % 251) = t + (s + ((b.getD i default).toNat : Int)) % 251 := wrap_i64 (by omega) (by omega)
      have t2 : (t + (s + ((b.getD i default).toNat : Int)) % 251).tmod 251 = (t + (s + ((b.getD i default).toNat : Int)) % 251) % 251 := Int.tmod_eq_emod_of_nonneg (by omega)
      simp only [spec_l25Sum_l1, Int.ofNat_lt, h, decide_true, if_true, ixOk_nat, ck_true, Int.toNat_natCast, wrap_nat1 (show i < 9223372036854775807 by omega), nz_of (show (251 : Int) ≠ 0 by decide), w1, t1, w2, t2]
      refine ⟨_, rfl, ⟨by show 0 ≤ _ % 251; omega, by show _ % 251 ≤ 250; omega, by show 0 ≤ _ % 251; omega, by show _ % 251 ≤ 250; omega, i + 1, rfl, by omega⟩, by simp only [Int.toNat_natCast]; omega⟩
    · right
      exact ⟨(s, t), by simp [spec_l25Sum_l1, h], h1, h2, h3, h4⟩) (s := (1, 0, 0)) ⟨by decide, by decide, by decide, by decide, 0, rfl, by omega⟩
  have w1 : IntKind.i64.wrap (251 * y.2) = 251 * y.2 := wrap_i64 (by omega) (by omega)
  have w2 : IntKind.i64.wrap (251 * y.2 + y.1) = 251 * y.2 + y.1 := wrap_i64 (by omega) (by omega)
  refine ⟨251 * y.2 + y.1, ?_, by omega, by omega, ?_⟩
  · unfold spec_l25Sum; rw [hy]; simp only [Option.bind_some, w1, w2]
  · unfold impl_SumOfBytes; rw [sum_step, hy]; simp only [Option.bind_some, w1, w2]

/-! ### KindOfPacked -/

theorem KindOfPacked_same {b : List UInt8} (hl : b.length ≤ 1048576) : ∃ r, spec_KindOfPacked b = some r ∧ impl_KindOfPacked b = some r := by
  unfold spec_KindOfPacked impl_KindOfPacked impl_checkPacked__impl_KindOfPacked_c1
  simp only [ite_b, impl_KindOfPacked_c1, Option.isSome_some, Option.getD_some, Bool.or_true, ck_true]
  by_cases h0 : b.length = 0
  · have e : b = [] := List.length_eq_zero_iff.1 h0
    subst e
    exact ⟨(0, 8), by simp [ixOk, ck_true], by simp [ixOk, ck_true]⟩
  · have hix : ixOk 0 b.length = true := (by rw [show (0 : Int) = ((0 : Nat) : Int) from rfl, ixOk_nat]; simp; omega)
    have hne : ((b.length : Int) == 0) = false := by rw [beq_eq_false_iff_ne]; omega
    unfold spec_l25Open
    simp only [ite_b, hix, Bool.or_true, ck_true, hne, Bool.false_or]
    generalize ((b.getD 0 default).toNat : Int) = k
    simp only [beq_self_eq_true, Bool.not_true, Bool.or_false]
    by_cases hkk : k = 69 ∨ k = 67
    · have e1 : ((!(k == 69)) && (!(k == 67))) = false := by rcases hkk with e | e <;> simp [e]
      have e2 : ((k == 69) || (k == 67)) = true := by rcases hkk with e | e <;> simp [e]
      simp only [e1, e2, cond_false, Bool.not_true, Bool.or_false]
      cases hsz : (decide ((b.length : Int) < 3) || decide (8000 < (b.length : Int)))
      · simp only [Bool.or_eq_false_iff, decide_eq_false_iff_not] at hsz
        have hw1 : IntKind.i64.wrap ((b.length : Int) - 2) = (b.length : Int) - 2 := wrap_i64 (by omega) (by omega)
        have hw2 : IntKind.i64.wrap ((b.length : Int) - 1) = (b.length : Int) - 1 := wrap_i64 (by omega) (by omega)
        have hw3 : IntKind.i64.wrap ((b.length : Int) - 2 + 1) = (b.length : Int) - 1 := by rw [show (b.length : Int) - 2 + 1 = (b.length : Int) - 1 by omega]; exact hw2
        have i1 : ixOk ((b.length : Int) - 2) b.length = true := ixOk_of (by omega) (by omega)
        have i2 : ixOk ((b.length : Int) - 1) b.length = true := ixOk_of (by omega) (by omega)
        have i3 : cutOk 0 ((b.length : Int) - 2) b.length = true := cutOk_of (by omega) (by omega) (by omega)
        obtain ⟨s, hs1, hs2, hs3, hs4⟩ := sum_is (b := cut b 0 ((b.length : Int) - 2)) (by simp only [cut, List.length_drop, List.length_take]; omega)
        simp only [hw1, hw2, hw3, i1, i2, i3, ck_true, hs1, hs4, Option.bind_some, cond_false]
        have c1 : (256 : Int) * ((b.getD ((b.length : Int) - 2).toNat default).toNat : Int) = ((b.getD ((b.length : Int) - 2).toNat default).toNat : Int) * 256 := Int.mul_comm _ _
        rw [c1]
        generalize IntKind.i64.wrap (IntKind.i64.wrap (((b.getD ((b.length : Int) - 2).toNat default).toNat : Int) * 256) + ((b.getD ((b.length : Int) - 1).toNat default).toNat : Int)) = q
        rw [beq_comm' q s]
        cases (s == q)
        · exact ⟨(0, 9), rfl, rfl⟩
        · exact ⟨(k, 0), rfl, rfl⟩
      · exact ⟨(0, 8), rfl, rfl⟩
    · have e1 : ((!(k == 69)) && (!(k == 67))) = true := by simp; omega
      have e2 : ((k == 69) || (k == 67)) = false := by simp; omega
      simp only [e1, e2, cond_true, Bool.not_false, Bool.or_true, Option.bind_some]
      exact ⟨(0, 8), rfl, rfl⟩

theorem law_KindOfPacked {b : List UInt8} (w : (tySl 1 tyByte).wf b) : laws_FnExactKindOfPacked b = some true := by
  unfold laws_FnExactKindOfPacked
  by_cases h : 1048576 < (b.length : Int)
  · simp [h]
  · obtain ⟨r, h1, h2⟩ := KindOfPacked_same (b := b) (by omega)
    simp only [h, decide_false, Bool.false_eq_true, if_false, toByteS_is (show b.length ≤ 1099511627776 by omega), Option.bind_some, h1, h2, eqByteS_is (show b.length ≤ 1099511627776 by omega), decide_true, beq_self_eq_true, Bool.not_true, Bool.or_self]

end Go.Proofs.Ytndkifgpbmaicaa
