/- The plain law of ReadFault. No condition. -/
import Derived.Test.YtkdojfpjnnceiaaDoorHFault
import Derived.Test.YtkdojfpjnnceiaaDoorHTextL
namespace Go.Proofs.YtkdojfpjnnceiaaDoor
open Go Go.RowKit
set_option linter.unusedSimpArgs false
set_option linter.unusedVariables false

/-- Where a text stands in a list; -1 where it does not. -/
def placeI (l : List (List UInt8)) (x : List UInt8) : Int := match (List.range l.length).find? (fun k => l.getD k default == x) with | some j => (j : Int) | none => -1

theorem l25Find_is {l : List (List UInt8)} (hl : l.length ≤ 1099511627776) (x : List UInt8) : spec_l25Find l x = some (placeI l x) := by
  unfold spec_l25Find placeI
  rw [while_find (step := spec_l25Find_l1 l x) (fun k => l.getD k default == x) (fun k => (k : Int)) l.length
    (fun k hk => by
      simp only [spec_l25Find_l1, ixOk_nat, hk, decide_true, ck_true, Int.ofNat_lt, if_true, Int.toNat_natCast, wrap_nat1 (show k < 9223372036854775807 by omega)]
      cases (l.getD k default == x) <;> rfl)
    (by simp [spec_l25Find_l1])]
  cases (List.range l.length).find? (fun k => l.getD k default == x) <;> rfl

theorem Index_is {l : List (List UInt8)} (hl : l.length ≤ 1099511627776) (x : List UInt8) : slices_Index_string_string l x = some (placeI l x) := by
  unfold slices_Index_string_string placeI
  rw [while_find (step := slices_Index_string_string_l1 l x (l.length : Int)) (fun k => l.getD k default == x) (fun k => (k : Int)) l.length
    (fun k hk => by
      have e : (x == l.getD k default) = (l.getD k default == x) := by rw [Bool.eq_iff_iff]; simp only [beq_iff_eq]; exact eq_comm
      simp only [slices_Index_string_string_l1, ixOk_nat, hk, decide_true, ck_true, Int.ofNat_lt, if_true, Int.toNat_natCast, wrap_nat1 (show k < 9223372036854775807 by omega), e]
      cases (l.getD k default == x) <;> rfl)
    (by simp [slices_Index_string_string_l1])]
  cases (List.range l.length).find? (fun k => l.getD k default == x) <;> rfl

theorem placeI_cases (l : List (List UInt8)) (x : List UInt8) : (placeI l x = -1) ∨ ∃ j : Nat, j < l.length ∧ placeI l x = (j : Int) ∧ l.getD j default = x := by
  unfold placeI
  cases h : (List.range l.length).find? (fun k => l.getD k default == x) with
  | none => exact .inl rfl
  | some j =>
    have := List.find?_range_eq_some.1 h
    exact .inr ⟨j, by simpa using this.2.1, rfl, by simpa using this.1⟩

def fNames : List (List UInt8) := [[115, 116, 97, 114], [111, 98, 115, 101, 114, 118, 101, 114], [98, 114, 105, 103, 104, 116], [102, 97, 105, 110, 116], [116, 119, 105, 110]]

theorem fNames_free : ∀ j : Nat, j < 5 → (32 : UInt8) ∉ fNames.getD j default := by
  intro j hj
  match j, hj with
  | 0, _ => decide
  | 1, _ => decide
  | 2, _ => decide
  | 3, _ => decide
  | 4, _ => decide

theorem FaultText_at {x : Fault} (hr : R64 x.Index) : impl_FaultText x = some (if goodF 100 [x] = true then Lib.itoa x.Index ++ [32] ++ fNames.getD (x.Kind - 1).toNat default else []) := by
  unfold impl_FaultText
  rw [ordered_is (by omega) (by omega) (by simp)]
  simp only [Option.bind_some]
  cases hg : goodF 100 [x]
  · rfl
  · obtain ⟨k1, k2⟩ := goodF_kind hg (i := 0) (by simp)
    simp only [List.getD_cons_zero] at k1 k2
    have hlen := itoa_len hr
    have w : IntKind.i64.wrap (x.Kind - 1) = x.Kind - 1 := wrap_i64 (by omega) (by omega)
    have hn : impl_FaultName x.Kind = some (fNames.getD (x.Kind - 1).toNat default) := by
      unfold impl_FaultName impl_faultNames
      simp only [impl_in_is, Option.bind_some, k1, k2, decide_true, Bool.and_self, Bool.not_true, Bool.false_eq_true, if_false, w]
      rw [ixOk_of (by omega) (by simp; omega), ck_true]
      rfl
    have hnl : (fNames.getD (x.Kind - 1).toNat default).length ≤ 10 := by
      have : ∀ j : Nat, j < 5 → (fNames.getD j default).length ≤ 10 := by
        intro j hj
        match j, hj with
        | 0, _ => decide
        | 1, _ => decide
        | 2, _ => decide
        | 3, _ => decide
        | 4, _ => decide
      exact this _ (by omega)
    simp only [Bool.not_true, Bool.false_eq_true, if_false, if_true, Decimal_is hr, hn, Option.bind_some]
    rw [catOk_of (by simp only [List.length_cons, List.length_nil]; omega), catOk_of (by simp only [List.length_append, List.length_cons, List.length_nil]; omega), ck_true, ck_true]

theorem ReadFault_same {s : List UInt8} (hl : s.length ≤ 1048576) : ∃ x b, spec_ReadFault s = some (x, b) ∧ impl_ReadFault s = some (x, b) := by
  unfold spec_ReadFault impl_ReadFault
  rw [l01Split_is 32 hl, hCut_one (by omega)]
  have names1 : spec_l26Names = some fNames := rfl
  have names2 : impl_faultNames = some fNames := rfl
  have hm1 : IntKind.i64.wrap (-1 + 1) = 0 := by decide
  rcases idx_cases 32 s with ⟨_, hno⟩ | ⟨a, b, rfl, ha, _⟩
  · refine ⟨⟨0, 0⟩, false, ?_, ?_⟩
    · unfold splitOn
      rw [splitAcc_no hno]
      rfl
    · rw [cut_no hno]
      have hp : placeI fNames [] = -1 := by decide
      simp only [Option.bind_some, hRdDec_eq hl, names2, Index_is (l := fNames) (by decide), hp, hm1, beq_self_eq_true, Bool.or_true, Bool.not_true, Bool.not_false, Bool.true_or, ck_true, if_true]
  · have hla : a.length ≤ 1048576 := by simp at hl; omega
    rw [cut_yes ha]
    unfold splitOn
    rw [splitAcc_app ha]
    simp only [Option.bind_some, hRdDec_eq hla, names1, names2, Index_is (l := fNames) (by decide)]
    by_cases hb : (32 : UInt8) ∈ b
    · have hp : placeI fNames b = -1 := by
        rcases placeI_cases fNames b with h | ⟨j, hj, _, h⟩
        · exact h
        · exact absurd hb (by rw [← h]; exact fNames_free j hj)
      refine ⟨⟨0, 0⟩, false, ?_, ?_⟩
      · have h2 : 2 ≤ (splitAcc 32 [] b).length := by
          rcases idx_cases 32 b with ⟨_, h⟩ | ⟨a', b', rfl, h, _⟩
          · exact absurd hb h
          · rw [splitAcc_app h]
            have := splitAcc_len 32 b' []
            simp only [List.length_cons]; omega
        have e : ((((([] ++ a) :: splitAcc 32 [] b).length : Nat) : Int) == 2) = false := by
          rw [beq_eq_false_iff_ne]; simp only [List.length_cons]; omega
        simp only [e, Bool.not_false, if_true]
      · simp only [hp, hm1, beq_self_eq_true, Bool.or_true, Bool.not_true, Bool.not_false, Bool.true_or, ck_true, if_true]
    · rw [splitAcc_no hb]
      simp only [List.nil_append]
      have e : (((([a, b] : List (List UInt8)).length : Nat) : Int) == 2) = true := rfl
      have i0 : ixOk 0 ([a, b] : List (List UInt8)).length = true := rfl
      have i1 : ixOk 1 ([a, b] : List (List UInt8)).length = true := rfl
      simp only [e, i0, i1, Bool.not_true, Bool.false_eq_true, if_false, ck_true, List.getD_cons_zero, List.getD_cons_succ, l01Number_is hla, Option.bind_some, l25Find_is (l := fNames) (by decide)]
      cases hok : (rdDec a).2
      · exact ⟨⟨0, 0⟩, false, by simp [ck_true], by simp [ck_true]⟩
      · obtain ⟨hi, hr⟩ := rdDec_itoa hok
        rcases placeI_cases fNames b with hp | ⟨j, hj, hp, hjb⟩
        · refine ⟨⟨0, 0⟩, false, ?_, ?_⟩
          · rw [hp, hm1, l26Faults_is (by omega) (by omega) (by simp)]
            have hg : goodF 100 [⟨(rdDec a).1, 0⟩] = false := by
              cases h : goodF 100 [⟨(rdDec a).1, 0⟩] with
              | false => rfl
              | true => have := (goodF_kind h (i := 0) (by simp)).1; simp at this
            simp only [hg, Option.isSome_some, Option.getD_some, Bool.or_true, ck_true, Bool.not_false, if_true]
          · rw [hp, hm1]
            simp only [beq_self_eq_true, Bool.or_true, Bool.not_true, Bool.not_false, Bool.true_or, ck_true, if_true]
        · have hj5 : j < 5 := hj
          have w : IntKind.i64.wrap ((j : Int) + 1) = ((j + 1 : Nat) : Int) := wrap_nat1 (by omega)
          have hz : (((j + 1 : Nat) : Int) == 0) = false := by rw [beq_eq_false_iff_ne]; omega
          rw [hp, w, l26Faults_is (by omega) (by omega) (by simp), FaultText_at (x := ⟨(rdDec a).1, ((j + 1 : Nat) : Int)⟩) hr]
          simp only [Bool.not_true, Bool.false_or, hz, Option.isSome_some, Option.getD_some, Bool.or_true, ck_true, Bool.not_false]
          cases hg : goodF 100 [⟨(rdDec a).1, ((j + 1 : Nat) : Int)⟩]
          · refine ⟨⟨0, 0⟩, false, by simp, ?_⟩
            have : (([] : List UInt8) == a ++ 32 :: b) = false := by rw [beq_eq_false_iff_ne]; simp
            simp [this]
          · refine ⟨⟨(rdDec a).1, ((j + 1 : Nat) : Int)⟩, true, by simp, ?_⟩
            have e1 : (((j + 1 : Nat) : Int) - 1).toNat = j := by omega
            have : (Lib.itoa (rdDec a).1 ++ [32] ++ fNames.getD (((j + 1 : Nat) : Int) - 1).toNat default == a ++ 32 :: b) = true := by
              rw [beq_iff_eq, e1, hjb, hi]; simp
            simp only [if_true, this, Bool.not_true, Bool.false_eq_true, if_false]

theorem law_ReadFault {s : List UInt8} (w : s.length ≤ maxLen) : laws_FnExactReadFault s = some true := by
  unfold laws_FnExactReadFault
  by_cases h : 1048576 < (s.length : Int)
  · simp [h]
  · obtain ⟨x, b, e1, e2⟩ := ReadFault_same (s := s) (by omega)
    simp only [h, decide_false, Bool.false_eq_true, if_false, e1, e2, Option.bind_some, eqFault_is, decide_true, Bool.not_true, beq_self_eq_true, Bool.or_self]

end Go.Proofs.YtkdojfpjnnceiaaDoor
