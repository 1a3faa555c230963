/- The statement FnExactAuditEstimates: for every input the law returns true, and each argument reads as it did. No condition. -/
import Derived.Test.YthbnoddeifedkaaAUK
import Derived.Test.YthbnoddeifedkaaPAudit
import Derived.Test.YthbnoddeifedkaaEngTD
import Derived.Test.YthbnoddeifedkaaRows
import Derived.WalkKit
namespace Go.Proofs.Ythbnoddeifedkaa.fnExactAuditEstimates
open Go Go.ChangeShapes Go.WideShapes Go.ChangeAt Go.RowKit
set_option linter.unusedVariables false
set_option linter.unusedSimpArgs false

/-- Estimate -/
def tyEstimate : Ty Estimate := ⟨.st (.cons tyInt.sh (.cons tyStr.sh (.cons tyStr.sh (.cons tyInt.sh (.cons tyBool.sh (.nil)))))), Estimate_av, fun x => tyInt.wf x.Time ∧ tyStr.wf x.Star ∧ tyStr.wf x.Observer ∧ tyInt.wf x.Mag ∧ tyBool.wf x.Fainter, fun _ => rfl, fun cs h => by
  obtain ⟨l0, r0, rfl, h0, l1, r1, rfl, h1, l2, r2, rfl, h2, l3, r3, rfl, h3, l4, r4, rfl, h4, hn⟩ := h
  cases hn
  obtain ⟨x0, rfl, w0⟩ := tyInt.fits _ h0
  obtain ⟨x1, rfl, w1⟩ := tyStr.fits _ h1
  obtain ⟨x2, rfl, w2⟩ := tyStr.fits _ h2
  obtain ⟨x3, rfl, w3⟩ := tyInt.fits _ h3
  obtain ⟨x4, rfl, w4⟩ := tyBool.fits _ h4
  exact ⟨⟨x0, x1, x2, x3, x4⟩, rfl, w0, w1, w2, w3, w4⟩⟩

/-- Star -/
def tyStar : Ty Star := ⟨.st (.cons tyStr.sh (.cons tyInt.sh (.cons tyInt.sh (.cons tyInt.sh (.cons tyInt.sh (.nil)))))), Star_av, fun x => tyStr.wf x.Name ∧ tyInt.wf x.Ascend ∧ tyInt.wf x.Decl ∧ tyInt.wf x.Bright ∧ tyInt.wf x.Faint, fun _ => rfl, fun cs h => by
  obtain ⟨l0, r0, rfl, h0, l1, r1, rfl, h1, l2, r2, rfl, h2, l3, r3, rfl, h3, l4, r4, rfl, h4, hn⟩ := h
  cases hn
  obtain ⟨x0, rfl, w0⟩ := tyStr.fits _ h0
  obtain ⟨x1, rfl, w1⟩ := tyInt.fits _ h1
  obtain ⟨x2, rfl, w2⟩ := tyInt.fits _ h2
  obtain ⟨x3, rfl, w3⟩ := tyInt.fits _ h3
  obtain ⟨x4, rfl, w4⟩ := tyInt.fits _ h4
  exact ⟨⟨x0, x1, x2, x3, x4⟩, rfl, w0, w1, w2, w3, w4⟩⟩

/-- Observer -/
def tyObserver : Ty Observer := ⟨.st (.cons tyStr.sh (.cons tyInt.sh (.nil))), Observer_av, fun x => tyStr.wf x.Name ∧ tyInt.wf x.Shift, fun _ => rfl, fun cs h => by
  obtain ⟨l0, r0, rfl, h0, l1, r1, rfl, h1, hn⟩ := h
  cases hn
  obtain ⟨x0, rfl, w0⟩ := tyStr.fits _ h0
  obtain ⟨x1, rfl, w1⟩ := tyInt.fits _ h1
  exact ⟨⟨x0, x1⟩, rfl, w0, w1⟩⟩

theorem own : ownKnob Try.prog.godebug = none := by kernel_rfl
theorem laid : laidOutB Try.prog = true := by kernel_rfl
theorem sh0 : shO Try.prog (tySl 5 tyEstimate).sh (.inl 22) = true := by kernel_rfl
theorem sh1 : shO Try.prog (tySl 5 tyStar).sh (.inl 23) = true := by kernel_rfl
theorem sh2 : shO Try.prog (tySl 2 tyObserver).sh (.inl 24) = true := by kernel_rfl
theorem sh3 : shO Try.prog tyInt.sh (.inl 2) = true := by kernel_rfl
theorem rec2 : Try.prog.readableRec 2 = true := by kernel_rfl
theorem in2 : 2 < Try.prog.types.size := of_decide_eq_true (by kernel_rfl)
theorem rec22 : Try.prog.readableRec 22 = true := by kernel_rfl
theorem in22 : 22 < Try.prog.types.size := of_decide_eq_true (by kernel_rfl)
theorem rec23 : Try.prog.readableRec 23 = true := by kernel_rfl
theorem in23 : 23 < Try.prog.types.size := of_decide_eq_true (by kernel_rfl)
theorem rec24 : Try.prog.readableRec 24 = true := by kernel_rfl
theorem in24 : 24 < Try.prog.types.size := of_decide_eq_true (by kernel_rfl)

set_option maxRecDepth 100000 in
theorem lifted (os : Os) (started : os.Started) (H : Type) (enc : TypeId × Value → H) :
    ReturnsInHanded {} Try.checked os 3 .any (Rows.fnExactAuditEstimatesSpec.pre6 enc Try.prog Try.f3 Rows.fnExactAuditEstimatesRow.domain false) (Rows.fnExactAuditEstimatesSpec.post enc Try.prog Try.f3 false true false false) := by
  refine returnsInHanded_of_change (C := Try.checked) own started (by kernel_rfl) Try.func3
    (ChangeSpec.witness6 (enc := enc) (C := Try.checked) false ⟨#[], #[.slice none 0 0, .slice none 0 0, .slice none 0 0, .int .i64 0], []⟩ 8 (by kernel_rfl) (by kernel_rfl) (by kernel_rfl) (by kernel_rfl)) ?_
  intro W base args ds gs before hval0 hW hcnd _
  have hval : ∀ (j : Nat) t v, Try.f3.params[j]? = some t → args[j]? = some v → Value.okWide Try.prog W .any base t v := hval0
  have hW' := hW
  have hlt := hW'.lt
  obtain ⟨p, q, hA0, hV, rfl, hfz, hnd⟩ := hW
  have hA : DataW.TrodAll enc Try.prog W 0 (fun _ => true) true Try.f3.params.toList args.toList ds p := hA0
  rw [Try.params3] at hA hval
  obtain ⟨v0, vs0, d0, ds0, p0, q0, hargs0, e0a, e0b, h0, r0⟩ := trodAll_cons hA
  obtain ⟨v1, vs1, d1, ds1, p1, q1, hargs1, e1a, e1b, h1, r1⟩ := trodAll_cons r0
  obtain ⟨v2, vs2, d2, ds2, p2, q2, hargs2, e2a, e2b, h2, r2⟩ := trodAll_cons r1
  obtain ⟨v3, vs3, d3, ds3, p3, q3, hargs3, e3a, e3b, h3, r3⟩ := trodAll_cons r2
  obtain ⟨na, nb, nc⟩ := trodAll_nil r3
  subst na nb nc
  subst e3a e3b
  subst e2a e2b
  subst e1a e1b
  subst e0a e0b
  obtain ⟨ga, gb⟩ := trodVars_none hV
  subst ga gb
  have hargs : args = #[v0, v1, v2, v3] := by
    have : args.toList = [v0, v1, v2, v3] := by simp_all
    cases args; simp_all
  subst hargs
  obtain ⟨x0, z0, w0⟩ := arg_ty (tySl 5 tyEstimate) sh0 (hval 0 22 v0 rfl rfl) h0
  obtain ⟨x1, z1, w1⟩ := arg_ty (tySl 5 tyStar) sh1 (hval 1 23 v1 rfl rfl) h1
  obtain ⟨x2, z2, w2⟩ := arg_ty (tySl 2 tyObserver) sh2 (hval 2 24 v2 rfl rfl) h2
  obtain ⟨x3, z3, w3⟩ := arg_ty tyInt sh3 (hval 3 2 v3 rfl rfl) h3
  clear hA hA0 hval0
  refine (law_call s_laws_FnExactAuditEstimates Try.func3 rfl (by decide +kernel) (args := [(tySl 5 tyEstimate).f x0, (tySl 5 tyStar).f x1, (tySl 2 tyObserver).f x2, tyInt.f x3]) (vargs := #[v0, v1, v2, v3]) rfl (by rw [M_laws_FnExactAuditEstimates]; rfl) rfl (fun j hj => ?_) (fun q hq => by simp [tabs] at hq) (Fs_laws_FnExactAuditEstimates (law_Audit w0 w1 w2 w3))).mono fun e W' ⟨he, hs⟩ => ?_
  · have hj' : j < 4 := by simpa using hj
    match j, hj' with
    | 0, _ => exact z0
    | 1, _ => exact z1
    | 2, _ => exact z2
    | 3, _ => exact z3
  subst he
  refine ⟨_, rfl, post_kept (pa := p0 ++ (p1 ++ (p2 ++ (p3 ++ [])))) (pv := []) hW' hs (fun _ _ _ => (trodAll_cons_mk (shut_bool Try.underlying4 _) trodAll_mk0)) (fun sp hsp => ?_) (fun _ _ => rfl) ?_ (ok_one (by kernel_rfl) rfl (okWide_bool_mk Try.underlying4 _))⟩
  · exact (trodAll_cons_mk (stays laid rec22 in22 hs h0 (fun p hp => by simp [hp]) hlt hsp) (trodAll_cons_mk (stays laid rec23 in23 hs h1 (fun p hp => by simp [hp]) hlt hsp) (trodAll_cons_mk (stays laid rec24 in24 hs h2 (fun p hp => by simp [hp]) hlt hsp) (trodAll_cons_mk (stays laid rec2 in2 hs h3 (fun p hp => by simp [hp]) hlt hsp) trodAll_mk0))))
  · simp

theorem over : Rows.fnExactAuditEstimatesRow.holds Try.pinned (OpenSpec.ofChange Rows.fnExactAuditEstimatesSpec) :=
  OpenClaim.holds_of_wide 3 Try.f3 rfl rfl rfl rfl rfl rfl rfl ⟨rfl, rfl, rfl, rfl, rfl⟩ rfl rfl rfl rfl rfl (by kernel_rfl) Try.func3 (by kernel_rfl)
    (of_decide_eq_true (by kernel_rfl)) (by unfold Func.isWrapper; first | (rw [if_pos (by decide +kernel)]; kernel_rfl) | (rw [if_neg (by decide +kernel)]; exact ⟨rfl, rfl⟩))
    (fun os started H enc _ => lifted os started H enc)

/-- ████ THE STATEMENT ████ -/
theorem proved : Rows.FnExactAuditEstimatesSaid :=
  over

end Go.Proofs.Ythbnoddeifedkaa.fnExactAuditEstimates
