/- The statement FnExactDeskText: for every input the law returns true, and each argument reads as it did. No condition. -/
import Derived.Test.YtbdghipedlldbaaGreatDoorDTK
import Derived.Test.YtbdghipedlldbaaGreatDoorPDeskText
import Derived.Test.YtbdghipedlldbaaGreatDoorEngTD
import Derived.Test.YtbdghipedlldbaaGreatDoorEngSX
import Derived.Test.YtbdghipedlldbaaGreatDoorCards
import Derived.Test.YtbdghipedlldbaaGreatDoorTie
import Derived.LaidMore
import Derived.Lay
import Derived.OpenShut
import Derived.Stop.Joined
import Derived.SevenTiedAt
import Derived.WalkKit
namespace Go.Proofs.YtbdghipedlldbaaGreatDoor.fnExactDeskText
open Go Go.ChangeShapes Go.WideShapes Go.ChangeAt Go.RowKit
set_option linter.unusedVariables false
set_option linter.unusedSimpArgs false

/-- Star -/
def tyStar : Ty Star := ⟨.st (.cons tyStr.sh (.cons tyInt.sh (.cons tyInt.sh (.cons tyInt.sh (.cons tyInt.sh (.nil)))))), Star_av, fun x => tyStr.wf x.Name ∧ tyInt.wf x.Ascend ∧ tyInt.wf x.Decl ∧ tyInt.wf x.Bright ∧ tyInt.wf x.Faint, fun _ => rfl, fun cs h => by
  obtain ⟨l0, r0, rfl, h0, l1, r1, rfl, h1, l2, r2, rfl, h2, l3, r3, rfl, h3, l4, r4, rfl, h4, hn⟩ := h
  cases hn
  obtain ⟨x0, rfl, w0⟩ := tyStr.fits _ h0
  obtain ⟨x1, rfl, w1⟩ := tyInt.fits _ h1
  obtain ⟨x2, rfl, w2⟩ := tyInt.fits _ h2
  obtain ⟨x3, rfl, w3⟩ := tyInt.fits _ h3
  obtain ⟨x4, rfl, w4⟩ := tyInt.fits _ h4
  exact ⟨⟨x0, x1, x2, x3, x4⟩, rfl, w0, w1, w2, w3, w4⟩⟩

/-- Estimate -/
def tyEstimate : Ty Estimate := ⟨.st (.cons tyInt.sh (.cons tyStr.sh (.cons tyStr.sh (.cons tyInt.sh (.cons tyBool.sh (.nil)))))), Estimate_av, fun x => tyInt.wf x.Time ∧ tyStr.wf x.Star ∧ tyStr.wf x.Observer ∧ tyInt.wf x.Mag ∧ tyBool.wf x.Fainter, fun _ => rfl, fun cs h => by
  obtain ⟨l0, r0, rfl, h0, l1, r1, rfl, h1, l2, r2, rfl, h2, l3, r3, rfl, h3, l4, r4, rfl, h4, hn⟩ := h
  cases hn
  obtain ⟨x0, rfl, w0⟩ := tyInt.fits _ h0
  obtain ⟨x1, rfl, w1⟩ := tyStr.fits _ h1
  obtain ⟨x2, rfl, w2⟩ := tyStr.fits _ h2
  obtain ⟨x3, rfl, w3⟩ := tyInt.fits _ h3
  obtain ⟨x4, rfl, w4⟩ := tyBool.fits _ h4
  exact ⟨⟨x0, x1, x2, x3, x4⟩, rfl, w0, w1, w2, w3, w4⟩⟩

/-- Desk -/
def tyDesk : Ty Desk := ⟨.st (.cons (tySl 5 tyStar).sh (.cons (tySl 5 tyEstimate).sh (.cons tyStr.sh (.nil)))), Desk_av, fun x => (tySl 5 tyStar).wf x.Stars ∧ (tySl 5 tyEstimate).wf x.Estimates ∧ tyStr.wf x.Log, fun _ => rfl, fun cs h => by
  obtain ⟨l0, r0, rfl, h0, l1, r1, rfl, h1, l2, r2, rfl, h2, hn⟩ := h
  cases hn
  obtain ⟨x0, rfl, w0⟩ := (tySl 5 tyStar).fits _ h0
  obtain ⟨x1, rfl, w1⟩ := (tySl 5 tyEstimate).fits _ h1
  obtain ⟨x2, rfl, w2⟩ := tyStr.fits _ h2
  exact ⟨⟨x0, x1, x2⟩, rfl, w0, w1, w2⟩⟩

theorem own : ownKnob Tryz.prog.godebug = none := by kernel_rfl
theorem laid : laidOutB Tryz.prog = true := by kernel_rfl
theorem sh0 : shO Tryz.prog tyDesk.sh (.inl 25) = true := by kernel_rfl
theorem rec25 : Tryz.prog.readableRec 25 = true := by kernel_rfl
theorem in25 : 25 < Tryz.prog.types.size := of_decide_eq_true (by kernel_rfl)

set_option maxRecDepth 100000 in
theorem tab_of {W : World} (hsh : W.ShapedOpen Tryz.prog) (h : laidMetH Tryz.prog Rows.fnExactDeskTextRow.laid W) : GT (fun _ => False) W := by
  rw [MakeChecks.laidMetH_plain _ _ _ (by kernel_rfl)] at h
  have e : (Rows.fnExactDeskTextRow.laid).filter (fun x => x.1 == (Tryz.prog.globals.getD 1 default).name) = [((Tryz.prog.globals.getD 1 default).name, Lib.tabData .u64 Lib.pow10Tab)] := by kernel_rfl
  have h2 := laidMet.filter (fun x => x.1 == (Tryz.prog.globals.getD 1 default).name) h
  rw [e] at h2
  have eErrSyntax : (Rows.fnExactDeskTextRow.laid).filter (fun x => x.1 == (Tryz.prog.globals.getD 4 default).name) = [((Tryz.prog.globals.getD 4 default).name, Rows.laid_strconv_ErrSyntax)] := by kernel_rfl
  have hErrSyntax := laidMet.filter (fun x => x.1 == (Tryz.prog.globals.getD 4 default).name) h
  rw [eErrSyntax] at hErrSyntax
  have eErrRange : (Rows.fnExactDeskTextRow.laid).filter (fun x => x.1 == (Tryz.prog.globals.getD 5 default).name) = [((Tryz.prog.globals.getD 5 default).name, Rows.laid_strconv_ErrRange)] := by kernel_rfl
  have hErrRange := laidMet.filter (fun x => x.1 == (Tryz.prog.globals.getD 5 default).name) h
  rw [eErrRange] at hErrRange
  exact tabs_met hsh (Lib.tabIs_of_head (g := 1) (t := 129) (e := 120) (n := 20) (by kernel_rfl) (by kernel_rfl) Tryz.underlying129 Tryz.underlying120 (by kernel_rfl) (by kernel_rfl) h2) (sentinel_of (g := 4) hErrSyntax (by kernel_rfl) (by kernel_rfl)) (sentinel_of (g := 5) hErrRange (by kernel_rfl) (by kernel_rfl))

set_option maxRecDepth 100000 in
theorem lifted (os : Os) (started : os.Started) (H : Type) (enc : TypeId × Value → H) :
    ReturnsInHanded {} Tryz.checked os 3 .any (fun w args => (Rows.fnExactDeskTextSpec.pre enc Tryz.prog Tryz.f3 [] false w args ∧ laidMetH Tryz.prog Rows.fnExactDeskTextRow.laid w) ∧ sizedMet enc Tryz.prog Tryz.f3 (OpenSpec.ofChange Rows.fnExactDeskTextSpec) false w args) (Rows.fnExactDeskTextSpec.post enc Tryz.prog Tryz.f3 false true false false) := by
  refine handed_and_shaped (C := Tryz.checked) (X := fun w _ => laidMetH Tryz.prog Rows.fnExactDeskTextRow.laid w) (fun _ _ _ hh h => h.of_heap hh) own started (by kernel_rfl) Tryz.func3
    (ChangeSpec.witness_shaped (enc := enc) (C := Tryz.checked) (os := os) (X := fun w _ => laidMetH Tryz.prog Rows.fnExactDeskTextRow.laid w) false (World.laidAll Tryz.prog os Rows.fnExactDeskTextRow.laid) #[.agg #[.slice none 0 0, .slice none 0 0, .string ⟨#[]⟩]] 8 (World.laidAll_os _ _ _) (World.shaped_of_ZipB (by kernel_rfl) (by kernel_rfl)) (by kernel_rfl) (by kernel_rfl) (by kernel_rfl)
      (by rw [MakeChecks.laidMetH_plain _ _ _ (by kernel_rfl)]; exact laidMet_laidAll _ (by kernel_rfl) (by kernel_rfl))) ?_
  intro W base args ds gs before hval0 hW hL hsh
  have hval : ∀ (j : Nat) t v, Tryz.f3.params[j]? = some t → args[j]? = some v → Value.okWide Tryz.prog W .any base t v := hval0
  have hW' := hW
  have hlt := hW'.lt
  obtain ⟨p, q, hA0, hV, rfl, hfz, hnd⟩ := hW
  have hA : DataW.TrodAll enc Tryz.prog W 0 (fun _ => true) true Tryz.f3.params.toList args.toList ds p := hA0
  rw [Tryz.params3] at hA hval
  obtain ⟨v0, vs0, d0, ds0, p0, q0, hargs0, e0a, e0b, h0, r0⟩ := trodAll_cons hA
  obtain ⟨na, nb, nc⟩ := trodAll_nil r0
  subst na nb nc
  subst e0a e0b
  obtain ⟨ga, gb⟩ := trodVars_none hV
  subst ga gb
  have hargs : args = #[v0] := by
    have : args.toList = [v0] := by simp_all
    cases args; simp_all
  subst hargs
  obtain ⟨x0, z0, w0⟩ := arg_ty tyDesk sh0 (hval 0 25 v0 rfl rfl) h0
  clear hA hA0 hval0
  refine (law_call s_laws_FnExactDeskText Tryz.func3 rfl (by decide +kernel) (args := [tyDesk.f x0]) (vargs := #[v0]) rfl (by rw [M_laws_FnExactDeskText]; rfl) rfl (fun j hj => ?_) (tab_of hsh hL) (Fs_laws_FnExactDeskText (law_DeskText w0))).mono fun e W' ⟨he, hs⟩ => ?_
  · have hj' : j < 1 := by simpa using hj
    match j, hj' with
    | 0, _ => exact z0
  subst he
  refine ⟨_, rfl, post_kept (pa := p0 ++ []) (pv := []) hW' hs (fun _ _ _ => (trodAll_cons_mk (shut_bool Tryz.underlying4 _) trodAll_mk0)) (fun sp hsp => ?_) (fun _ _ => rfl) ?_ (ok_one (by kernel_rfl) rfl (okWide_bool_mk Tryz.underlying4 _))⟩
  · exact (trodAll_cons_mk (stays laid rec25 in25 hs h0 (fun p hp => by simp [hp]) hlt hsp) trodAll_mk0)
  · simp

theorem over : Rows.fnExactDeskTextRow.holds Tryz.pinned (OpenSpec.ofChange Rows.fnExactDeskTextSpec) :=
  OpenClaim.holds_of_wide 3 Tryz.f3 rfl rfl rfl rfl rfl rfl rfl ⟨rfl, rfl, rfl, rfl, rfl⟩ rfl rfl rfl rfl rfl (by kernel_rfl) Tryz.func3 (by kernel_rfl)
    (of_decide_eq_true (by kernel_rfl)) (by unfold Func.isWrapper; first | (rw [if_pos (by decide +kernel)]; kernel_rfl) | (rw [if_neg (by decide +kernel)]; exact ⟨rfl, rfl⟩))
    (fun os started H enc _ => lifted os started H enc)

/-- ████ THE STATEMENT ████ -/
theorem proved : Rows.FnExactDeskTextCardSaid :=
  Claim7.holds_tied_plain_at .later [] [.data, .data, .data, .data, .sentinel, .sentinel, .pinned] true (true, "055c2219a012d61d9b2255cc54bb75a64bddddbbdc7ebbc3539b660814b3820b") true
    over (fun _ h => by cases h) (by kernel_rfl) (fun _ h => by cases h) fnExactDeskText_row_tie rfl ⟨rfl, rfl⟩ (by kernel_rfl) rfl
    (fun f fn hf hfn => by
      obtain rfl : f = 3 := Option.some.inj ((show Tryz.prog.funcNamed Rows.fnExactDeskTextRow.func = some 3 by kernel_rfl).symm.trans hf) |>.symm
      obtain rfl : fn = Tryz.f3 := (Option.some.inj (Tryz.func3.symm.trans hfn)).symm
      exact ⟨by kernel_rfl, fun j t ht => by
        rw [Tryz.params3] at ht
        have hm : t ∈ [25] := by simpa using Array.mem_of_getElem? ht
        have hall : ([25].all fun u => !Tryz.prog.wantsStandIn u) = true := by kernel_rfl
        exact (show Tryz.prog.wantsStandIn t = false by simpa using List.all_eq_true.1 hall t hm)⟩)
    (by kernel_rfl)

end Go.Proofs.YtbdghipedlldbaaGreatDoor.fnExactDeskText
