/- The plain law of FaultText. No condition. -/
import Derived.Test.YtgbibhhblimfiaaDoorHFault
import Derived.Test.YtgbibhhblimfiaaDoorHDec
namespace Go.Proofs.YtgbibhhblimfiaaDoor
open Go Go.RowKit
set_option linter.unusedSimpArgs false
set_option linter.unusedVariables false

theorem names_same : spec_l26Names = impl_faultNames := id rfl

theorem FaultText_same {x : Fault} (h1 : R64 x.Index) (h2 : R64 x.Kind) : ∃ r, spec_FaultText x = some r ∧ impl_FaultText x = some r := by
  unfold spec_FaultText impl_FaultText
  rw [l26Faults_is (c := 100) (by omega) (by omega) (by simp), ordered_is (c := 100) (by omega) (by omega) (by simp)]
  simp only [Option.bind_some]
  cases hg : goodF 100 [x]
  · exact ⟨[], rfl, rfl⟩
  · have hk := goodF_kind hg (i := 0) (by simp)
    have e : ([x] : List Fault).getD 0 default = x := rfl
    rw [e] at hk
    obtain ⟨k1, k2⟩ := hk
    have hi : impl_in x.Kind 1 5 = some true := by rw [impl_in_is]; simp [k1, k2]
    have hl := itoa_len h1
    simp only [Bool.not_true, Bool.false_eq_true, if_false]
    unfold spec_l26Text impl_FaultName
    rw [hi, names_same, l01Dec_is h1, Decimal_is h1]
    unfold impl_faultNames
    have w : IntKind.i64.wrap (x.Kind - 1) = x.Kind - 1 := wrap_i64 (by omega) (by omega)
    have c1 : catOk (Lib.itoa x.Index).length ([32] : List UInt8).length = true := catOk_of (by simp; omega)
    simp only [Option.bind_some, Bool.not_true, Bool.false_eq_true, if_false, w, c1, ck_true]
    obtain ⟨k, hk, hk5⟩ : ∃ k : Nat, x.Kind - 1 = (k : Int) ∧ k < 5 := ⟨(x.Kind - 1).toNat, by omega, by omega⟩
    rw [hk]
    have ix : ixOk (k : Int) ([([115, 116, 97, 114] : List UInt8), ([111, 98, 115, 101, 114, 118, 101, 114] : List UInt8), ([98, 114, 105, 103, 104, 116] : List UInt8), ([102, 97, 105, 110, 116] : List UInt8), ([116, 119, 105, 110] : List UInt8)] : List (List UInt8)).length = true := by rw [ixOk_nat]; simp; omega
    have ln : (([([115, 116, 97, 114] : List UInt8), ([111, 98, 115, 101, 114, 118, 101, 114] : List UInt8), ([98, 114, 105, 103, 104, 116] : List UInt8), ([102, 97, 105, 110, 116] : List UInt8), ([116, 119, 105, 110] : List UInt8)] : List (List UInt8)).getD k default).length ≤ 8 := by
      have : k = 0 ∨ k = 1 ∨ k = 2 ∨ k = 3 ∨ k = 4 := by omega
      rcases this with rfl | rfl | rfl | rfl | rfl <;> decide
    rw [ix, Int.toNat_natCast, ck_true]
    simp only [Option.bind_some, ix, ck_true, Int.toNat_natCast]
    rw [catOk_of (by simp only [List.length_append, List.length_cons, List.length_nil]; omega), ck_true]
    exact ⟨_, rfl, rfl⟩

theorem law_FaultText {x : Fault} (w : R64 x.Index ∧ R64 x.Kind) : laws_FnExactFaultText x = some true := by
  unfold laws_FnExactFaultText
  obtain ⟨r, e1, e2⟩ := FaultText_same w.1 w.2
  simp only [toFault_is, Option.bind_some, e1, e2, beq_self_eq_true, Bool.not_true, Bool.false_eq_true, if_false]

end Go.Proofs.YtgbibhhblimfiaaDoor
