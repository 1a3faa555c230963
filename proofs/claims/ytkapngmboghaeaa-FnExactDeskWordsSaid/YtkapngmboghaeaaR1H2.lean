/- What typed forms say: the words of the desk. No condition. -/
import Derived.Test.YtkapngmboghaeaaR1T
import Derived.Test.YtkapngmboghaeaaEngTD
namespace Go.Proofs.Ytkapngmboghaeaa
open Go Go.RowKit
set_option linter.unusedSimpArgs false
set_option linter.unusedVariables false

theorem eqStringS_is {a b : List (List UInt8)} (h : a.length ≤ 1099511627776) : laws_eqStringS a b = some (decide (a = b)) := by
  unfold laws_eqStringS
  by_cases hl : a.length = b.length
  · have h1 : ((a.length : Int) == (b.length : Int)) = true := by simp [hl]
    rw [h1]
    have := while_all (step := laws_eqStringS_l1 a b) (fun i => a.getD i default == b.getD i default) a.length (decide (a = b)) (yes := .inl ()) (no := .inr false)
      (by rw [decide_eq_true_eq]; exact (getD_eq_iff hl).symm)
      (fun i hi => by
        have hi2 : i < b.length := by omega
        simp only [laws_eqStringS_l1, ixOk_nat, hi, hi2, decide_true, ck_true, Int.ofNat_lt, if_true, Int.toNat_natCast, wrap_nat1 (show i < 9223372036854775807 by omega)]
        cases (a.getD i default == b.getD i default) <;> rfl)
      (by simp [laws_eqStringS_l1])
    simp only [Bool.not_true, Bool.false_eq_true, if_false, this, Option.bind_some]
    by_cases hab : a = b <;> simp [hab]
  · have h1 : ((a.length : Int) == (b.length : Int)) = false := by simp; omega
    rw [h1]
    have : a ≠ b := fun c => hl (by rw [c])
    simp [this]

/-! ### Marks that are texts -/

def mtInv (s : Int × List UInt8) : Prop := 0 ≤ s.1 ∧ s.1 * 10 ^ s.2.length ≤ 9223372036854775807 ∧ s.2.length ≤ 20

theorem pow10 (l : Nat) : (1 : Int) ≤ 10 ^ l := by
  have : 0 < (10 : Nat) ^ l := Nat.pow_pos (by decide)
  exact_mod_cast this

theorem markText_some {k : Int} (h : R64 k) : ∃ t, laws_markText k = some t := by
  unfold laws_markText
  by_cases h0 : k ≤ 0
  · exact ⟨_, by rw [decide_eq_true h0]; rfl⟩
  · rw [decide_eq_false h0]
    obtain ⟨y, hy, hl⟩ := while_post (step := laws_markText_l1) mtInv (fun y => y.length ≤ 20) (fun s => s.1.toNat) (by
      rintro ⟨k, out⟩ ⟨a1, a2, a3⟩
      simp only at a1 a2 a3
      by_cases hk : 0 < k
      · left
        have hb : out.length ≤ 18 := by
          refine Classical.byContradiction fun hc => ?_
          have h3 : (10 : Nat) ^ 19 ≤ 10 ^ out.length := Nat.pow_le_pow_right (by omega) (by omega)
          have h4 : (10 : Int) ^ 19 ≤ 10 ^ out.length := by exact_mod_cast h3
          have h5 : 1 * (10 : Int) ^ out.length ≤ k * 10 ^ out.length := Int.mul_le_mul_of_nonneg_right (by omega) (by have := pow10 out.length; omega)
          have h6 : (10 : Int) ^ 19 > 9223372036854775807 := by decide
          omega
        have hbig : k ≤ 9223372036854775807 := by
          have : k * 1 ≤ k * 10 ^ out.length := Int.mul_le_mul_of_nonneg_left (pow10 _) a1
          omega
        have ht : k.tdiv 10 = k / 10 := Int.tdiv_eq_ediv_of_nonneg a1
        simp only [laws_markText_l1, hk, decide_true, if_true, nz_of (show (10 : Int) ≠ 0 by decide), ck_true, ht]
        rw [catOk_of (by simp only [List.length_cons, List.length_nil]; omega), ck_true, wrap_i64 (n := k / 10) (by omega) (by omega)]
        refine ⟨_, rfl, ⟨by show 0 ≤ k / 10; omega, ?_, by simp; omega⟩, by show (k / 10).toNat < k.toNat; omega⟩
        show k / 10 * 10 ^ _ ≤ _
        simp only [List.length_append, List.length_cons, List.length_nil]
        rw [show 0 + 1 + out.length = out.length + 1 by omega, Int.pow_succ, Int.mul_comm (10 ^ out.length) 10, ← Int.mul_assoc]
        have : k / 10 * 10 ≤ k := by omega
        exact Int.le_trans (Int.mul_le_mul_of_nonneg_right this (by have := pow10 out.length; omega)) a2
      · right
        exact ⟨out, by simp [laws_markText_l1, hk], a3⟩) (s := (k, [])) ⟨by simp only; omega, by simpa using h.2, by simp⟩
    simp only [Bool.false_eq_true, if_false, hy, Option.bind_some]
    rw [catOk_of (by simp only [List.length_cons, List.length_nil]; omega), ck_true]
    exact ⟨_, rfl⟩

/-- The mark of a number. -/
noncomputable def mkT (k : Int) : List UInt8 := (laws_markText k).getD []
theorem markText_is {k : Int} (h : R64 k) : laws_markText k = some (mkT k) := by
  obtain ⟨t, e⟩ := markText_some h
  rw [mkT, e]; rfl

noncomputable def mkS (x : List UInt8) (k : Int) : List UInt8 := mkT k
theorem markStringS_is {a : List (List UInt8)} (hl : a.length ≤ 1099511627776) {k : Int} (h0 : 1 ≤ k) (h1 : k ≤ 1125899906842624) : laws_markStringS a k = some (k + ((1 : Nat) : Int) * a.length, markL mkS 1 a k) := by
  unfold laws_markStringS
  rw [mark_loopK mkS 1 (step := laws_markStringS_l1) (by omega) ?_ ?_ hl h0 h1]
  · simp [markL_len, ck_true]
  · intro l k i hi hl2 h1 h2
    have hk : IntKind.i64.wrap (k + 1) = k + ((1 : Nat) : Int) := wrap_i64 (by omega) (by omega)
    simp only [laws_markStringS_l1, ixOk_nat, hi, decide_true, ck_true, Int.ofNat_lt, if_true, Int.toNat_natCast, wrap_nat1 (show i < 9223372036854775807 by omega), hk, markText_is (show R64 k from ⟨by omega, by omega⟩), Option.bind_some, mkS]
  · intro l k; simp [laws_markStringS_l1]
theorem heldStringS_is {a : List (List UInt8)} (hl : a.length ≤ 1099511627776) {k0 : Int} (h0 : 1 ≤ k0) (h1 : k0 ≤ 1125899906842624) : laws_heldStringS (markL mkS 1 a k0) k0 = some (k0 + ((1 : Nat) : Int) * a.length) := by
  unfold laws_heldStringS
  rw [held_loopK (f := mkS) (c := 1) (a := a) (by omega) ?_ ?_ hl h0 h1]
  · rfl
  · intro x k i hi hg h1 h2
    have hk : IntKind.i64.wrap (k + 1) = k + ((1 : Nat) : Int) := wrap_i64 (by omega) (by omega)
    simp only [laws_heldStringS_l1, ixOk_nat, markL_len, hi, decide_true, ck_true, Int.ofNat_lt, if_true, Int.toNat_natCast, wrap_nat1 (show i < 9223372036854775807 by omega), hk, hg, mkS, markText_is (show R64 k from ⟨by omega, by omega⟩), Option.bind_some, beq_self_eq_true, Bool.not_true, Bool.false_eq_true, if_false]
  · intro k; simp [laws_heldStringS_l1, markL_len]

theorem law_DeskWords : laws_FnExactDeskWords = some true := by
  unfold laws_FnExactDeskWords
  have e : spec_DeskWords = impl_DeskWords := by simp [spec_DeskWords, spec_l28Words, impl_DeskWords]
  obtain ⟨l, hl, e2⟩ : ∃ l, l.length ≤ 1099511627776 ∧ impl_DeskWords = some l := ⟨_, by decide, rfl⟩
  rw [e, e2]
  simp only [Option.bind_some, eqStringS_is hl, decide_true, Bool.not_true, Bool.false_eq_true, if_false, markStringS_is hl (show (1 : Int) ≤ 1 by decide) (by decide), heldStringS_is hl (show (1 : Int) ≤ 1 by decide) (by decide), beq_self_eq_true]
  have h6 : ¬ (1 + ((1 : Nat) : Int) * (l.length : Int) < 0) := by omega
  simp only [h6, decide_false, Bool.false_eq_true, if_false]

theorem law_FaultName {n : Int} (w : R64 n) : laws_FnExactFaultName n = some true := by
  unfold laws_FnExactFaultName
  have e : spec_FaultName n = impl_FaultName n := by
    simp only [spec_FaultName, spec_l26Kind, impl_FaultName, spec_l00In, impl_in, spec_l26Names, impl_faultNames, Option.bind_some]
  have h : ∃ t, impl_FaultName n = some t := by
    unfold impl_FaultName
    simp only [impl_in, impl_faultNames, Option.bind_some]
    by_cases hk : 1 ≤ n ∧ n ≤ 5
    · have c : (decide (1 ≤ n) && decide (n ≤ 5)) = true := by simp [hk]
      rw [c, wrap_i64 (by omega) (by omega), ixOk_of (by omega) (by simp only [List.length_cons, List.length_nil]; omega)]
      exact ⟨_, rfl⟩
    · have c : (decide (1 ≤ n) && decide (n ≤ 5)) = false := by rw [Bool.and_eq_false_iff]; simp; omega
      rw [c]
      exact ⟨_, rfl⟩
  obtain ⟨t, h⟩ := h
  rw [e, h]
  simp
end Go.Proofs.Ytkapngmboghaeaa
