/- The statement FnExactSampleOf: for every input the law returns true, and each argument reads as it did. No condition. -/
import Derived.Test.YtomdepgilgkpaaaA3K
import Derived.Test.YtomdepgilgkpaaaR3H1
import Derived.Test.YtomdepgilgkpaaaEngTD
import Derived.Test.YtomdepgilgkpaaaRows
import Derived.WalkKit
namespace Go.Proofs.Ytomdepgilgkpaaa.fnExactSampleOf
open Go Go.ChangeShapes Go.WideShapes Go.ChangeAt Go.RowKit
set_option linter.unusedVariables false
set_option linter.unusedSimpArgs false


theorem own : ownKnob Try.prog.godebug = none := by kernel_rfl
theorem laid : laidOutB Try.prog = true := by kernel_rfl
theorem sh0 : shO Try.prog tyInt.sh (.inl 2) = true := by kernel_rfl
theorem sh1 : shO Try.prog tyInt.sh (.inl 2) = true := by kernel_rfl
theorem sh2 : shO Try.prog tyInt.sh (.inl 2) = true := by kernel_rfl
theorem rec2 : Try.prog.readableRec 2 = true := by kernel_rfl
theorem in2 : 2 < Try.prog.types.size := of_decide_eq_true (by kernel_rfl)

set_option maxRecDepth 100000 in
theorem lifted (os : Os) (started : os.Started) (H : Type) (enc : TypeId × Value → H) :
    ReturnsInHanded {} Try.checked os 4 .any (Rows.fnExactSampleOfSpec.pre6 enc Try.prog Try.f4 Rows.fnExactSampleOfRow.domain false) (Rows.fnExactSampleOfSpec.post enc Try.prog Try.f4 false true false false) := by
  refine returnsInHanded_of_change (C := Try.checked) own started (by kernel_rfl) Try.func4
    (ChangeSpec.witness6 (enc := enc) (C := Try.checked) false ⟨#[], #[.int .i64 0, .int .i64 0, .int .i64 0], []⟩ 8 (by kernel_rfl) (by kernel_rfl) (by kernel_rfl) (by kernel_rfl)) ?_
  intro W base args ds gs before hval0 hW hcnd _
  have hval : ∀ (j : Nat) t v, Try.f4.params[j]? = some t → args[j]? = some v → Value.okWide Try.prog W .any base t v := hval0
  have hW' := hW
  have hlt := hW'.lt
  obtain ⟨p, q, hA0, hV, rfl, hfz, hnd⟩ := hW
  have hA : DataW.TrodAll enc Try.prog W 0 (fun _ => true) true Try.f4.params.toList args.toList ds p := hA0
  rw [Try.params4] at hA hval
  obtain ⟨v0, vs0, d0, ds0, p0, q0, hargs0, e0a, e0b, h0, r0⟩ := trodAll_cons hA
  obtain ⟨v1, vs1, d1, ds1, p1, q1, hargs1, e1a, e1b, h1, r1⟩ := trodAll_cons r0
  obtain ⟨v2, vs2, d2, ds2, p2, q2, hargs2, e2a, e2b, h2, r2⟩ := trodAll_cons r1
  obtain ⟨na, nb, nc⟩ := trodAll_nil r2
  subst na nb nc
  subst e2a e2b
  subst e1a e1b
  subst e0a e0b
  obtain ⟨ga, gb⟩ := trodVars_none hV
  subst ga gb
  have hargs : args = #[v0, v1, v2] := by
    have : args.toList = [v0, v1, v2] := by simp_all
    cases args; simp_all
  subst hargs
  obtain ⟨x0, z0, w0⟩ := arg_ty tyInt sh0 (hval 0 2 v0 rfl rfl) h0
  obtain ⟨x1, z1, w1⟩ := arg_ty tyInt sh1 (hval 1 2 v1 rfl rfl) h1
  obtain ⟨x2, z2, w2⟩ := arg_ty tyInt sh2 (hval 2 2 v2 rfl rfl) h2
  clear hA hA0 hval0
  refine (law_call s_laws_FnExactSampleOf Try.func4 rfl (by decide +kernel) (args := [tyInt.f x0, tyInt.f x1, tyInt.f x2]) (vargs := #[v0, v1, v2]) rfl (by rw [M_laws_FnExactSampleOf]; rfl) rfl (fun j hj => ?_) (Fs_laws_FnExactSampleOf (law_SampleOf))).mono fun e W' ⟨he, hs⟩ => ?_
  · have hj' : j < 3 := by simpa using hj
    match j, hj' with
    | 0, _ => exact z0
    | 1, _ => exact z1
    | 2, _ => exact z2
  subst he
  refine ⟨_, rfl, post_kept (pa := p0 ++ (p1 ++ (p2 ++ []))) (pv := []) hW' hs (fun _ _ _ => (trodAll_cons_mk (shut_bool Try.underlying4 _) trodAll_mk0)) (fun sp hsp => ?_) (fun _ _ => rfl) ?_ (ok_one (by kernel_rfl) rfl (okWide_bool_mk Try.underlying4 _))⟩
  · exact (trodAll_cons_mk (stays laid rec2 in2 hs h0 (fun p hp => by simp [hp]) hlt hsp) (trodAll_cons_mk (stays laid rec2 in2 hs h1 (fun p hp => by simp [hp]) hlt hsp) (trodAll_cons_mk (stays laid rec2 in2 hs h2 (fun p hp => by simp [hp]) hlt hsp) trodAll_mk0)))
  · simp

theorem over : Rows.fnExactSampleOfRow.holds Try.pinned (OpenSpec.ofChange Rows.fnExactSampleOfSpec) :=
  OpenClaim.holds_of_wide 4 Try.f4 rfl rfl rfl rfl rfl rfl rfl ⟨rfl, rfl, rfl, rfl, rfl⟩ rfl rfl rfl rfl rfl (by kernel_rfl) Try.func4 (by kernel_rfl)
    (of_decide_eq_true (by kernel_rfl)) (by unfold Func.isWrapper; first | (rw [if_pos (by decide +kernel)]; kernel_rfl) | (rw [if_neg (by decide +kernel)]; exact ⟨rfl, rfl⟩))
    (fun os started H enc _ => lifted os started H enc)

/-- ████ THE STATEMENT ████ -/
theorem proved : Rows.FnExactSampleOfSaid :=
  over

end Go.Proofs.Ytomdepgilgkpaaa.fnExactSampleOf
