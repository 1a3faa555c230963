/- What typed forms say: estimates without faults. No condition. -/
import Derived.Test.YtcfjogkgmkagiabHEst
import Derived.Test.YtcfjogkgmkagiabHFault
namespace Go.Proofs.Ytcfjogkgmkagiab
open Go Go.RowKit
set_option linter.unusedSimpArgs false
set_option linter.unusedVariables false

theorem l26Has_is {f : List Fault} (hl : f.length ≤ 1099511627776) (i : Int) : spec_l26Has f i = some (f.any (·.Index == i)) := by
  unfold spec_l26Has
  rw [while_find (step := spec_l26Has_l1 f i) (fun k => (f.getD k default).Index == i) (fun _ => true) f.length
    (fun k hk => by
      simp only [spec_l26Has_l1, ixOk_nat, hk, decide_true, ck_true, Int.ofNat_lt, if_true, Int.toNat_natCast, wrap_nat1 (show k < 9223372036854775807 by omega)]
      cases ((f.getD k default).Index == i) <;> rfl)
    (by simp [spec_l26Has_l1]), ← find_any]
  cases (List.range f.length).find? (fun k => (f.getD k default).Index == i) <;> rfl

theorem isFaulty_is {f : List Fault} (hl : f.length ≤ 1099511627776) (i : Int) : impl_isFaulty f i = some (f.any (·.Index == i)) := by
  unfold impl_isFaulty slices_ContainsFunc_impl_Fault_impl_Fault__impl_isFaulty_c1 slices_IndexFunc_impl_Fault_impl_Fault__impl_isFaulty_c1
  rw [while_find (step := slices_IndexFunc_impl_Fault_impl_Fault__impl_isFaulty_c1_l1 f i (f.length : Int)) (fun k => (f.getD k default).Index == i) (fun k => (k : Int)) f.length
    (fun k hk => by
      simp only [slices_IndexFunc_impl_Fault_impl_Fault__impl_isFaulty_c1_l1, impl_isFaulty_c1, ixOk_nat, hk, decide_true, ck_true, Int.ofNat_lt, if_true, Int.toNat_natCast, wrap_nat1 (show k < 9223372036854775807 by omega), Option.bind_some]
      cases ((f.getD k default).Index == i) <;> rfl)
    (by simp [slices_IndexFunc_impl_Fault_impl_Fault__impl_isFaulty_c1_l1]), ← find_any]
  cases (List.range f.length).find? (fun k => (f.getD k default).Index == i) with
  | none => rfl
  | some j => simp

theorem code_is {l : List Estimate} {f : List Fault} (hl : l.length ≤ 1099511627776) (hf : f.length ≤ 1099511627776) : spec_l26Code l f = some (if (goodE l && decide (l.length ≤ 100)) = true then (if goodF l.length f = true then 0 else 2) else 1) := by
  unfold spec_l26Code
  rw [l06Ok_is hl, l26Faults_is (c := l.length) (by omega) (by omega) hf]
  simp only [Option.bind_some]
  cases (goodE l && decide (l.length ≤ 100)) <;> cases goodF l.length f <;> rfl

theorem audited_is {l : List Estimate} {f : List Fault} (hl : l.length ≤ 1099511627776) (hf : f.length ≤ 1099511627776) : impl_audited l f = some (if (goodE l && decide (l.length ≤ 100)) = true then (if goodF l.length f = true then 0 else 2) else 1) := by
  unfold impl_audited impl_count_impl_Estimate
  rw [ValidEstimates_is hl]
  simp only [Option.bind_some]
  rw [ordered_is (c := l.length) (by omega) (by omega) hf]
  simp only [Option.bind_some]
  cases (goodE l && decide (l.length ≤ 100)) <;> cases goodF l.length f <;> rfl

end Go.Proofs.Ytcfjogkgmkagiab
