/- The plain law of FnExactAuditEstimates. No condition. -/
import Derived.Test.YthbnoddeifedkaaHAudS
import Derived.Test.YthbnoddeifedkaaHStarV
namespace Go.Proofs.Ythbnoddeifedkaa
open Go Go.RowKit
set_option linter.unusedSimpArgs false
set_option linter.unusedVariables false

/-- What is found in the estimates below i, in order. -/
def audTo (l : List Estimate) (s : List Star) (o : List Observer) (m : Int) : Nat → List Fault
  | 0 => []
  | i + 1 => audTo l s o m i ++ (kindsL l i s o m).map (Fault.mk (i : Int))

theorem kd_le (k : Int) (b : Bool) : (kd k b).length ≤ 1 := by cases b <;> simp [kd]

theorem kindsL_len (l : List Estimate) (i : Nat) (s : List Star) (o : List Observer) (m : Int) : (kindsL l i s o m).length ≤ 5 := by
  unfold kindsL
  cases findS s (l.getD i default).Star with
  | none =>
    have h1 := kd_le 1 true; have h2 := kd_le 2 (findO o (l.getD i default).Observer).isNone; have h3 := kd_le 5 (twin l (l.getD i default) i)
    simp only [Option.isNone_none, List.length_append, List.length_nil]; omega
  | some k =>
    have h1 := kd_le 1 false; have h2 := kd_le 2 (findO o (l.getD i default).Observer).isNone; have h3 := kd_le 5 (twin l (l.getD i default) i)
    have h4 := kd_le 3 (decide ((l.getD i default).Mag < IntKind.i64.wrap ((s.getD k default).Bright - m)))
    have h5 := kd_le 4 (!(l.getD i default).Fainter && decide (IntKind.i64.wrap ((s.getD k default).Faint + m) < (l.getD i default).Mag))
    simp only [Option.isNone_some, List.length_append]; omega

theorem audTo_len (l : List Estimate) (s : List Star) (o : List Observer) (m : Int) : ∀ i, (audTo l s o m i).length ≤ 5 * i
  | 0 => by simp [audTo]
  | i + 1 => by
    have := audTo_len l s o m i
    have := kindsL_len l i s o m
    simp [audTo]; omega

/-- One estimate's faults are put behind the others. -/
theorem put_faults {step : List Fault × Int → Option ((List Fault × Int) ⊕ List Fault)} {ks : List Int} {i : Int} (hs : ∀ (out : List Fault) (k : Nat), k < ks.length → out.length ≤ 1000000 → step (out, (k : Int)) = some (.inl (out ++ [Fault.mk i (ks.getD k default)], ((k + 1 : Nat) : Int)))) (he : ∀ out, step (out, (ks.length : Int)) = some (.inr out)) {out : List Fault} (ho : out.length + ks.length ≤ 1000000) :
    whileE step (out, 0) = some (out ++ ks.map (Fault.mk i)) := by
  have key : ∀ n k : Nat, k + n = ks.length → whileE step (out ++ (ks.take k).map (Fault.mk i), (k : Int)) = some (out ++ ks.map (Fault.mk i)) := by
    intro n
    induction n with
    | zero =>
      intro k hk
      obtain rfl : k = ks.length := by omega
      rw [whileE_done (he _), List.take_length]
    | succ n ih =>
      intro k hk
      rw [whileE_next (hs _ k (by omega) (by simp; omega)), ← ih (k + 1) (by omega)]
      have : (ks.take (k + 1)).map (Fault.mk i) = (ks.take k).map (Fault.mk i) ++ [Fault.mk i (ks.getD k default)] := by
        rw [List.take_add_one, List.map_append]
        have hlt : k < ks.length := by omega
        simp [List.getD_eq_getElem?_getD, hlt]
      rw [this, List.append_assoc]
  have := key ks.length 0 (by omega)
  simpa using this

theorem Audit_same {l : List Estimate} {s : List Star} {o : List Observer} (hl : l.length ≤ 1048576) (hs : s.length ≤ 1048576) (ho : o.length ≤ 1048576) (m : Int) :
    ∃ r c, r.length ≤ 1048576 ∧ spec_AuditEstimates l s o m = some (r, c) ∧ impl_AuditEstimates l s o m = some (r, c) := by
  unfold spec_AuditEstimates impl_AuditEstimates
  rw [l06Ok_is (by omega), ValidEstimates_is (by omega), l04Ok_is (by omega), ValidStars_is (by omega), l05Ok_is (by omega), ValidObservers_is (by omega)]
  simp only [Option.bind_some, Option.isSome_some, Option.getD_some, Bool.or_true, ck_true, spec_l00In_is, impl_in_is]
  by_cases hv : ((!(goodE l && decide (l.length ≤ 100)) || !(goodS s && decide (s.length ≤ 60))) || !(validO o)) = true
  · rw [if_pos hv, if_pos hv]; exact ⟨[], 1, by simp, rfl, rfl⟩
  rw [if_neg hv, if_neg hv]
  by_cases hm : (!(decide (0 ≤ m) && decide (m ≤ 20000))) = true
  · rw [if_pos hm, if_pos hm]; exact ⟨[], 2, by simp, rfl, rfl⟩
  rw [if_neg hm, if_neg hm]
  have h100 : l.length ≤ 100 := by
    simp only [Bool.or_eq_true, Bool.not_eq_true', Bool.and_eq_false_iff, not_or] at hv
    have := hv.1.1.2
    simpa using this
  have e1 := whileE_run (step := spec_AuditEstimates_l1 l s o m) (fun i => (audTo l s o m i, (i : Int))) l.length (r := audTo l s o m l.length) (fun i hi => by
    have hk := kindsL_len l i s o m
    have ha := audTo_len l s o m i
    simp only [spec_AuditEstimates_l1, Int.ofNat_lt, hi, decide_true, if_true, l26Of_is (show l.length ≤ 1099511627776 by omega) (show s.length ≤ 1099511627776 by omega) (show o.length ≤ 1099511627776 by omega) m hi, Option.bind_some]
    rw [put_faults (ks := kindsL l i s o m) (i := (i : Int)) (fun out k hk' ho' => by
      simp only [spec_AuditEstimates_l2, Int.ofNat_lt, hk', decide_true, if_true, ixOk_nat, ck_true, Int.toNat_natCast, wrap_nat1 (show k < 9223372036854775807 by omega), appOk_of (show (out.length + ([(Fault.mk (i : Int) ((kindsL l i s o m).getD k default))] : List Fault).length) * 16 ≤ 140737488355328 by simp; omega)]) (fun out => by simp [spec_AuditEstimates_l2]) (by omega), Option.bind_some, wrap_nat1 (show i < 9223372036854775807 by omega)]
    rfl) (by simp [spec_AuditEstimates_l1])
  have e2 := whileE_run (step := impl_AuditEstimates_l1 l s o m (l.length : Int)) (fun i => (audTo l s o m i, (i : Int))) l.length (r := audTo l s o m l.length) (fun i hi => by
    have hk := kindsL_len l i s o m
    have ha := audTo_len l s o m i
    simp only [impl_AuditEstimates_l1, Int.ofNat_lt, hi, decide_true, if_true, kindsOf_is (show l.length ≤ 1099511627776 by omega) (show s.length ≤ 1099511627776 by omega) (show o.length ≤ 1099511627776 by omega) m hi, Option.bind_some]
    rw [put_faults (ks := kindsL l i s o m) (i := (i : Int)) (fun out k hk' ho' => by
      simp only [impl_AuditEstimates_l2, Int.ofNat_lt, hk', decide_true, if_true, ixOk_nat, ck_true, Int.toNat_natCast, wrap_nat1 (show k < 9223372036854775807 by omega), appOk_of (show (out.length + ([(Fault.mk (i : Int) ((kindsL l i s o m).getD k default))] : List Fault).length) * 16 ≤ 140737488355328 by simp; omega)]) (fun out => by simp [impl_AuditEstimates_l2]) (by omega), Option.bind_some, wrap_nat1 (show i < 9223372036854775807 by omega)]
    rfl) (by simp [impl_AuditEstimates_l1])
  refine ⟨audTo l s o m l.length, 0, by have := audTo_len l s o m l.length; omega, ?_, ?_⟩
  · have e1' : whileE (spec_AuditEstimates_l1 l s o m) ([], 0) = _ := e1
    rw [e1']; rfl
  · have e2' : whileE (impl_AuditEstimates_l1 l s o m (l.length : Int)) ([], 0) = _ := e2
    rw [e2']; rfl

theorem law_Audit {l : List Estimate} {s : List Star} {o : List Observer} {m : Int} (w : l.length ≤ maxLen ∧ ∀ x ∈ l, R64 x.Time ∧ x.Star.length ≤ maxLen ∧ x.Observer.length ≤ maxLen ∧ R64 x.Mag ∧ True) (u : s.length ≤ maxLen ∧ ∀ x ∈ s, x.Name.length ≤ maxLen ∧ R64 x.Ascend ∧ R64 x.Decl ∧ R64 x.Bright ∧ R64 x.Faint) (v : o.length ≤ maxLen ∧ ∀ x ∈ o, x.Name.length ≤ maxLen ∧ R64 x.Shift) (t : R64 m) : laws_FnExactAuditEstimates l s o m = some true := by
  unfold laws_FnExactAuditEstimates
  obtain ⟨z, hz, hz2⟩ := szEstimateS_is (a := l) (n := 1048576) (by decide) (by decide) w.1 (fun s hs => ⟨(w.2 s hs).2.1, (w.2 s hs).2.2.1⟩)
  simp only [hz, Option.bind_some]
  by_cases h : z < 0
  · simp [h]
  have hz2 := hz2 h
  obtain ⟨y, hy, hy2⟩ := szStarS_is (a := s) (n := z) (by omega) (by omega) u.1 (fun x hx => (u.2 x hx).1)
  simp only [h, decide_false, Bool.false_eq_true, if_false, hy, Option.bind_some]
  by_cases h' : y < 0
  · simp [h']
  have hy2 := hy2 h'
  obtain ⟨x, hx, hx2⟩ := szObserverS_is (a := o) (n := y) (by omega) (by omega) v.1 (fun x hx => (v.2 x hx).1)
  simp only [h', decide_false, Bool.false_eq_true, if_false, hx, Option.bind_some]
  by_cases h'' : x < 0
  · simp [h'']
  have hx2 := hx2 h''
  have hl : l.length ≤ 1048576 := by omega
  have hs : s.length ≤ 1048576 := by omega
  have ho : o.length ≤ 1048576 := by omega
  obtain ⟨r, c, hr, e1, e2⟩ := Audit_same hl hs ho m
  have b1 : l.length ≤ 1099511627776 := by omega
  have b2 : s.length ≤ 1099511627776 := by omega
  have b4 : o.length ≤ 1099511627776 := by omega
  have b3 : r.length ≤ 1099511627776 := by omega
  simp only [h'', decide_false, Bool.false_eq_true, if_false, toEstimateS_is b1, toStarS_is b2, toObserverS_is b4, Option.bind_some, e1, e2, eqEstimateS_is b1, eqStarS_is b2, eqObserverS_is b4, eqFaultS_is b3, decide_true, Bool.not_true, beq_self_eq_true, Bool.or_self,
    markEstimateS_is b1 (show (1 : Int) ≤ 1 by decide) (by decide), markStarS_is b2 (show (1 : Int) ≤ 1 + ((5 : Nat) : Int) * (l.length : Int) by omega) (by omega),
    markObserverS_is b4 (show (1 : Int) ≤ 1 + ((5 : Nat) : Int) * (l.length : Int) + ((5 : Nat) : Int) * (s.length : Int) by omega) (by omega),
    markFaultS_is b3 (show (1 : Int) ≤ 1 by decide) (by decide), heldFaultS_is b3 (show (1 : Int) ≤ 1 by decide) (by decide)]
  have h3 : ¬ (1 + ((5 : Nat) : Int) * (l.length : Int) + ((5 : Nat) : Int) * (s.length : Int) + ((2 : Nat) : Int) * (o.length : Int) < 0) := by omega
  have h4 : ¬ (1 + ((2 : Nat) : Int) * (r.length : Int) < 0) := by omega
  simp only [h3, h4, decide_false, Bool.or_self, Bool.false_eq_true, if_false]

end Go.Proofs.Ythbnoddeifedkaa
