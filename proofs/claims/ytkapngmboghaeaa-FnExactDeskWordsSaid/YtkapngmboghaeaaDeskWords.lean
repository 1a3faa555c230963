/- The statement FnExactDeskWords: for every input the law returns true, and each argument reads as it did. No condition. -/
import Derived.Test.YtkapngmboghaeaaA1K
import Derived.Test.YtkapngmboghaeaaR1H2
import Derived.Test.YtkapngmboghaeaaEngTD
import Derived.Test.YtkapngmboghaeaaRows
import Derived.WalkKit
namespace Go.Proofs.Ytkapngmboghaeaa.fnExactDeskWords
open Go Go.ChangeShapes Go.WideShapes Go.ChangeAt Go.RowKit
set_option linter.unusedVariables false
set_option linter.unusedSimpArgs false


theorem own : ownKnob Try.prog.godebug = none := by kernel_rfl

set_option maxRecDepth 100000 in
theorem lifted (os : Os) (started : os.Started) (H : Type) (enc : TypeId × Value → H) :
    ReturnsInHanded {} Try.checked os 4 .any (Rows.fnExactDeskWordsSpec.pre6 enc Try.prog Try.f4 Rows.fnExactDeskWordsRow.domain false) (Rows.fnExactDeskWordsSpec.post enc Try.prog Try.f4 false true false false) := by
  refine returnsInHanded_of_change (C := Try.checked) own started (by kernel_rfl) Try.func4
    (ChangeSpec.witness6 (enc := enc) (C := Try.checked) false ⟨#[], #[], []⟩ 8 (by kernel_rfl) (by kernel_rfl) (by kernel_rfl) (by kernel_rfl)) ?_
  intro W base args ds gs before hval0 hW hcnd _
  have hval : ∀ (j : Nat) t v, Try.f4.params[j]? = some t → args[j]? = some v → Value.okWide Try.prog W .any base t v := hval0
  have hW' := hW
  have hlt := hW'.lt
  obtain ⟨p, q, hA0, hV, rfl, hfz, hnd⟩ := hW
  have hA : DataW.TrodAll enc Try.prog W 0 (fun _ => true) true Try.f4.params.toList args.toList ds p := hA0
  rw [Try.params4] at hA hval
  obtain ⟨na, nb, nc⟩ := trodAll_nil hA
  subst nb nc
  obtain ⟨ga, gb⟩ := trodVars_none hV
  subst ga gb
  have hargs : args = #[] := by
    have : args.toList = [] := by exact na
    cases args; simp_all
  subst hargs
  clear hA hA0 hval0
  refine (law_call s_laws_FnExactDeskWords Try.func4 rfl (by decide +kernel) (args := []) (vargs := #[]) rfl (by rw [M_laws_FnExactDeskWords]; rfl) rfl (fun j hj => ?_) (Fs_laws_FnExactDeskWords (law_DeskWords))).mono fun e W' ⟨he, hs⟩ => ?_
  · exact absurd hj (by simp)
  subst he
  refine ⟨_, rfl, post_kept (pa := []) (pv := []) hW' hs (fun _ _ _ => (trodAll_cons_mk (shut_bool Try.underlying4 _) trodAll_mk0)) (fun sp hsp => ?_) (fun _ _ => rfl) ?_ (ok_one (by kernel_rfl) rfl (okWide_bool_mk Try.underlying4 _))⟩
  · exact trodAll_mk0
  · simp

theorem over : Rows.fnExactDeskWordsRow.holds Try.pinned (OpenSpec.ofChange Rows.fnExactDeskWordsSpec) :=
  OpenClaim.holds_of_wide 4 Try.f4 rfl rfl rfl rfl rfl rfl rfl ⟨rfl, rfl, rfl, rfl, rfl⟩ rfl rfl rfl rfl rfl (by kernel_rfl) Try.func4 (by kernel_rfl)
    (of_decide_eq_true (by kernel_rfl)) (by unfold Func.isWrapper; first | (rw [if_pos (by decide +kernel)]; kernel_rfl) | (rw [if_neg (by decide +kernel)]; exact ⟨rfl, rfl⟩))
    (fun os started H enc _ => lifted os started H enc)

/-- ████ THE STATEMENT ████ -/
theorem proved : Rows.FnExactDeskWordsSaid :=
  over

end Go.Proofs.Ytkapngmboghaeaa.fnExactDeskWords
