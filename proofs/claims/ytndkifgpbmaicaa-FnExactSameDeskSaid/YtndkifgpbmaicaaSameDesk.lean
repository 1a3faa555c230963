/- The statement FnExactSameDesk: for every input the law returns true, and each argument reads as it did. No condition. -/
import Derived.Test.YtndkifgpbmaicaaC4K
import Derived.Test.YtndkifgpbmaicaaPSameDesk
import Derived.Test.YtndkifgpbmaicaaEngTD
import Derived.Test.YtndkifgpbmaicaaRows
import Derived.WalkKit
namespace Go.Proofs.Ytndkifgpbmaicaa.fnExactSameDesk
open Go Go.ChangeShapes Go.WideShapes Go.ChangeAt Go.RowKit
set_option linter.unusedVariables false
set_option linter.unusedSimpArgs false

/-- Star -/
def tyStar : Ty Star := ⟨.st (.cons tyStr.sh (.cons tyInt.sh (.cons tyInt.sh (.cons tyInt.sh (.cons tyInt.sh (.nil)))))), Star_av, fun x => tyStr.wf x.Name ∧ tyInt.wf x.Ascend ∧ tyInt.wf x.Decl ∧ tyInt.wf x.Bright ∧ tyInt.wf x.Faint, fun _ => rfl, fun cs h => by
  obtain ⟨l0, r0, rfl, h0, l1, r1, rfl, h1, l2, r2, rfl, h2, l3, r3, rfl, h3, l4, r4, rfl, h4, hn⟩ := h
  cases hn
  obtain ⟨x0, rfl, w0⟩ := tyStr.fits _ h0
  obtain ⟨x1, rfl, w1⟩ := tyInt.fits _ h1
  obtain ⟨x2, rfl, w2⟩ := tyInt.fits _ h2
  obtain ⟨x3, rfl, w3⟩ := tyInt.fits _ h3
  obtain ⟨x4, rfl, w4⟩ := tyInt.fits _ h4
  exact ⟨⟨x0, x1, x2, x3, x4⟩, rfl, w0, w1, w2, w3, w4⟩⟩

/-- Estimate -/
def tyEstimate : Ty Estimate := ⟨.st (.cons tyInt.sh (.cons tyStr.sh (.cons tyStr.sh (.cons tyInt.sh (.cons tyBool.sh (.nil)))))), Estimate_av, fun x => tyInt.wf x.Time ∧ tyStr.wf x.Star ∧ tyStr.wf x.Observer ∧ tyInt.wf x.Mag ∧ tyBool.wf x.Fainter, fun _ => rfl, fun cs h => by
  obtain ⟨l0, r0, rfl, h0, l1, r1, rfl, h1, l2, r2, rfl, h2, l3, r3, rfl, h3, l4, r4, rfl, h4, hn⟩ := h
  cases hn
  obtain ⟨x0, rfl, w0⟩ := tyInt.fits _ h0
  obtain ⟨x1, rfl, w1⟩ := tyStr.fits _ h1
  obtain ⟨x2, rfl, w2⟩ := tyStr.fits _ h2
  obtain ⟨x3, rfl, w3⟩ := tyInt.fits _ h3
  obtain ⟨x4, rfl, w4⟩ := tyBool.fits _ h4
  exact ⟨⟨x0, x1, x2, x3, x4⟩, rfl, w0, w1, w2, w3, w4⟩⟩

/-- Desk -/
def tyDesk : Ty Desk := ⟨.st (.cons (tySl 5 tyStar).sh (.cons (tySl 5 tyEstimate).sh (.cons tyStr.sh (.nil)))), Desk_av, fun x => (tySl 5 tyStar).wf x.Stars ∧ (tySl 5 tyEstimate).wf x.Estimates ∧ tyStr.wf x.Log, fun _ => rfl, fun cs h => by
  obtain ⟨l0, r0, rfl, h0, l1, r1, rfl, h1, l2, r2, rfl, h2, hn⟩ := h
  cases hn
  obtain ⟨x0, rfl, w0⟩ := (tySl 5 tyStar).fits _ h0
  obtain ⟨x1, rfl, w1⟩ := (tySl 5 tyEstimate).fits _ h1
  obtain ⟨x2, rfl, w2⟩ := tyStr.fits _ h2
  exact ⟨⟨x0, x1, x2⟩, rfl, w0, w1, w2⟩⟩

theorem own : ownKnob Try.prog.godebug = none := by kernel_rfl
theorem laid : laidOutB Try.prog = true := by kernel_rfl
theorem sh0 : shO Try.prog tyDesk.sh (.inl 44) = true := by kernel_rfl
theorem sh1 : shO Try.prog tyDesk.sh (.inl 44) = true := by kernel_rfl
theorem rec44 : Try.prog.readableRec 44 = true := by kernel_rfl
theorem in44 : 44 < Try.prog.types.size := of_decide_eq_true (by kernel_rfl)

set_option maxRecDepth 100000 in
theorem lifted (os : Os) (started : os.Started) (H : Type) (enc : TypeId × Value → H) :
    ReturnsInHanded {} Try.checked os 6 .any (Rows.fnExactSameDeskSpec.pre6 enc Try.prog Try.f6 Rows.fnExactSameDeskRow.domain false) (Rows.fnExactSameDeskSpec.post enc Try.prog Try.f6 false true false false) := by
  refine returnsInHanded_of_change (C := Try.checked) own started (by kernel_rfl) Try.func6
    (ChangeSpec.witness6 (enc := enc) (C := Try.checked) false ⟨#[], #[.agg #[.slice none 0 0, .slice none 0 0, .string ⟨#[]⟩], .agg #[.slice none 0 0, .slice none 0 0, .string ⟨#[]⟩]], []⟩ 8 (by kernel_rfl) (by kernel_rfl) (by kernel_rfl) (by kernel_rfl)) ?_
  intro W base args ds gs before hval0 hW hcnd _
  have hval : ∀ (j : Nat) t v, Try.f6.params[j]? = some t → args[j]? = some v → Value.okWide Try.prog W .any base t v := hval0
  have hW' := hW
  have hlt := hW'.lt
  obtain ⟨p, q, hA0, hV, rfl, hfz, hnd⟩ := hW
  have hA : DataW.TrodAll enc Try.prog W 0 (fun _ => true) true Try.f6.params.toList args.toList ds p := hA0
  rw [Try.params6] at hA hval
  obtain ⟨v0, vs0, d0, ds0, p0, q0, hargs0, e0a, e0b, h0, r0⟩ := trodAll_cons hA
  obtain ⟨v1, vs1, d1, ds1, p1, q1, hargs1, e1a, e1b, h1, r1⟩ := trodAll_cons r0
  obtain ⟨na, nb, nc⟩ := trodAll_nil r1
  subst na nb nc
  subst e1a e1b
  subst e0a e0b
  obtain ⟨ga, gb⟩ := trodVars_none hV
  subst ga gb
  have hargs : args = #[v0, v1] := by
    have : args.toList = [v0, v1] := by simp_all
    cases args; simp_all
  subst hargs
  obtain ⟨x0, z0, w0⟩ := arg_ty tyDesk sh0 (hval 0 44 v0 rfl rfl) h0
  obtain ⟨x1, z1, w1⟩ := arg_ty tyDesk sh1 (hval 1 44 v1 rfl rfl) h1
  clear hA hA0 hval0
  refine (law_call s_laws_FnExactSameDesk Try.func6 rfl (by decide +kernel) (args := [tyDesk.f x0, tyDesk.f x1]) (vargs := #[v0, v1]) rfl (by rw [M_laws_FnExactSameDesk]; rfl) rfl (fun j hj => ?_) (fun q hq => by simp [tabs] at hq) (Fs_laws_FnExactSameDesk (law_SameDesk w0 w1))).mono fun e W' ⟨he, hs⟩ => ?_
  · have hj' : j < 2 := by simpa using hj
    match j, hj' with
    | 0, _ => exact z0
    | 1, _ => exact z1
  subst he
  refine ⟨_, rfl, post_kept (pa := p0 ++ (p1 ++ [])) (pv := []) hW' hs (fun _ _ _ => (trodAll_cons_mk (shut_bool Try.underlying4 _) trodAll_mk0)) (fun sp hsp => ?_) (fun _ _ => rfl) ?_ (ok_one (by kernel_rfl) rfl (okWide_bool_mk Try.underlying4 _))⟩
  · exact (trodAll_cons_mk (stays laid rec44 in44 hs h0 (fun p hp => by simp [hp]) hlt hsp) (trodAll_cons_mk (stays laid rec44 in44 hs h1 (fun p hp => by simp [hp]) hlt hsp) trodAll_mk0))
  · simp

theorem over : Rows.fnExactSameDeskRow.holds Try.pinned (OpenSpec.ofChange Rows.fnExactSameDeskSpec) :=
  OpenClaim.holds_of_wide 6 Try.f6 rfl rfl rfl rfl rfl rfl rfl ⟨rfl, rfl, rfl, rfl, rfl⟩ rfl rfl rfl rfl rfl (by kernel_rfl) Try.func6 (by kernel_rfl)
    (of_decide_eq_true (by kernel_rfl)) (by unfold Func.isWrapper; first | (rw [if_pos (by decide +kernel)]; kernel_rfl) | (rw [if_neg (by decide +kernel)]; exact ⟨rfl, rfl⟩))
    (fun os started H enc _ => lifted os started H enc)

/-- ████ THE STATEMENT ████ -/
theorem proved : Rows.FnExactSameDeskSaid :=
  over

end Go.Proofs.Ytndkifgpbmaicaa.fnExactSameDesk
