/- The statement FnCovered: for every input the law returns true, and each argument reads as it did. No condition. -/
import Derived.Test.YtikaacjlnkfebaaCVK
import Derived.Test.YtikaacjlnkfebaaPCovered
import Derived.Test.YtikaacjlnkfebaaEngTD
import Derived.Test.YtikaacjlnkfebaaRows
import Derived.WalkKit
namespace Go.Proofs.Ytikaacjlnkfebaa.fnCovered
open Go Go.ChangeShapes Go.WideShapes Go.ChangeAt Go.RowKit
set_option linter.unusedVariables false
set_option linter.unusedSimpArgs false


theorem own : ownKnob Try.prog.godebug = none := by kernel_rfl
theorem laid : laidOutB Try.prog = true := by kernel_rfl
theorem sh0 : shO Try.prog (tySl 1 tyByte).sh (.inl 22) = true := by kernel_rfl
theorem rec22 : Try.prog.readableRec 22 = true := by kernel_rfl
theorem in22 : 22 < Try.prog.types.size := of_decide_eq_true (by kernel_rfl)

set_option maxRecDepth 100000 in
theorem lifted (os : Os) (started : os.Started) (H : Type) (enc : TypeId × Value → H) :
    ReturnsInHanded {} Try.checked os 3 .any (Rows.fnCoveredSpec.pre6 enc Try.prog Try.f3 Rows.fnCoveredRow.domain false) (Rows.fnCoveredSpec.post enc Try.prog Try.f3 false true false false) := by
  refine returnsInHanded_of_change (C := Try.checked) own started (by kernel_rfl) Try.func3
    (ChangeSpec.witness6 (enc := enc) (C := Try.checked) false ⟨#[], #[.slice none 0 0], []⟩ 8 (by kernel_rfl) (by kernel_rfl) (by kernel_rfl) (by kernel_rfl)) ?_
  intro W base args ds gs before hval0 hW hcnd _
  have hval : ∀ (j : Nat) t v, Try.f3.params[j]? = some t → args[j]? = some v → Value.okWide Try.prog W .any base t v := hval0
  have hW' := hW
  have hlt := hW'.lt
  obtain ⟨p, q, hA0, hV, rfl, hfz, hnd⟩ := hW
  have hA : DataW.TrodAll enc Try.prog W 0 (fun _ => true) true Try.f3.params.toList args.toList ds p := hA0
  rw [Try.params3] at hA hval
  obtain ⟨v0, vs0, d0, ds0, p0, q0, hargs0, e0a, e0b, h0, r0⟩ := trodAll_cons hA
  obtain ⟨na, nb, nc⟩ := trodAll_nil r0
  subst na nb nc
  subst e0a e0b
  obtain ⟨ga, gb⟩ := trodVars_none hV
  subst ga gb
  have hargs : args = #[v0] := by
    have : args.toList = [v0] := by simp_all
    cases args; simp_all
  subst hargs
  obtain ⟨x0, z0, w0⟩ := arg_ty (tySl 1 tyByte) sh0 (hval 0 22 v0 rfl rfl) h0
  clear hA hA0 hval0
  refine (law_call s_laws_FnCovered Try.func3 rfl (by decide +kernel) (args := [(tySl 1 tyByte).f x0]) (vargs := #[v0]) rfl (by rw [M_laws_FnCovered]; rfl) rfl (fun j hj => ?_) (fun q hq => by simp [tabs] at hq) (Fs_laws_FnCovered (law_Covered w0.1))).mono fun e W' ⟨he, hs⟩ => ?_
  · have hj' : j < 1 := by simpa using hj
    match j, hj' with
    | 0, _ => exact z0
  subst he
  refine ⟨_, rfl, post_kept (pa := p0 ++ []) (pv := []) hW' hs (fun _ _ _ => (trodAll_cons_mk (shut_bool Try.underlying4 _) trodAll_mk0)) (fun sp hsp => ?_) (fun _ _ => rfl) ?_ (ok_one (by kernel_rfl) rfl (okWide_bool_mk Try.underlying4 _))⟩
  · exact (trodAll_cons_mk (stays laid rec22 in22 hs h0 (fun p hp => by simp [hp]) hlt hsp) trodAll_mk0)
  · simp

theorem over : Rows.fnCoveredRow.holds Try.pinned (OpenSpec.ofChange Rows.fnCoveredSpec) :=
  OpenClaim.holds_of_wide 3 Try.f3 rfl rfl rfl rfl rfl rfl rfl ⟨rfl, rfl, rfl, rfl, rfl⟩ rfl rfl rfl rfl rfl (by kernel_rfl) Try.func3 (by kernel_rfl)
    (of_decide_eq_true (by kernel_rfl)) (by unfold Func.isWrapper; first | (rw [if_pos (by decide +kernel)]; kernel_rfl) | (rw [if_neg (by decide +kernel)]; exact ⟨rfl, rfl⟩))
    (fun os started H enc _ => lifted os started H enc)

/-- ████ THE STATEMENT ████ -/
theorem proved : Rows.FnCoveredSaid :=
  over

end Go.Proofs.Ytikaacjlnkfebaa.fnCovered
