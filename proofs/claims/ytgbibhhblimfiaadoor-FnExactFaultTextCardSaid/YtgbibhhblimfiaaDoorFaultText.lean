/- The statement FnExactFaultText: for every input the law returns true, and each argument reads as it did. No condition. -/
import Derived.Test.YtgbibhhblimfiaaDoorA7K
import Derived.Test.YtgbibhhblimfiaaDoorPFaultText
import Derived.Test.YtgbibhhblimfiaaDoorEngTD
import Derived.Test.YtgbibhhblimfiaaDoorCards
import Derived.Test.YtgbibhhblimfiaaDoorTie
import Derived.LaidMore
import Derived.OpenShut
import Derived.Stop.Joined
import Derived.SevenTiedAt
import Derived.WalkKit
namespace Go.Proofs.YtgbibhhblimfiaaDoor.fnExactFaultText
open Go Go.ChangeShapes Go.WideShapes Go.ChangeAt Go.RowKit
set_option linter.unusedVariables false
set_option linter.unusedSimpArgs false

/-- Fault -/
def tyFault : Ty Fault := ⟨.st (.cons tyInt.sh (.cons tyInt.sh (.nil))), Fault_av, fun x => tyInt.wf x.Index ∧ tyInt.wf x.Kind, fun _ => rfl, fun cs h => by
  obtain ⟨l0, r0, rfl, h0, l1, r1, rfl, h1, hn⟩ := h
  cases hn
  obtain ⟨x0, rfl, w0⟩ := tyInt.fits _ h0
  obtain ⟨x1, rfl, w1⟩ := tyInt.fits _ h1
  exact ⟨⟨x0, x1⟩, rfl, w0, w1⟩⟩

theorem own : ownKnob Tryd.prog.godebug = none := by kernel_rfl
theorem laid : laidOutB Tryd.prog = true := by kernel_rfl
theorem sh0 : shO Tryd.prog tyFault.sh (.inl 23) = true := by kernel_rfl
theorem rec23 : Tryd.prog.readableRec 23 = true := by kernel_rfl
theorem in23 : 23 < Tryd.prog.types.size := of_decide_eq_true (by kernel_rfl)

set_option maxRecDepth 100000 in
theorem door_met (os : Os) (args : Array Value) : laidMetH Tryd.prog Rows.fnExactFaultTextRow.laid ((World.doorLaid Tryd.prog 24 os).forCall (fun _ _ => 0) ⟨#[], args, []⟩).memory :=
  laidMetH_of_parts3 (fuel := 8) (laidMet_of_run' 8 (by kernel_rfl) (by kernel_rfl)) (by kernel_rfl) (by kernel_rfl)

theorem tab_of {W : World} (h : laidMetH Tryd.prog Rows.fnExactFaultTextRow.laid W) : GT (fun _ => False) W := by
  rw [MakeChecks.laidMetH_plain _ _ _ (by kernel_rfl)] at h
  have e : (Rows.fnExactFaultTextRow.laid).filter (fun x => x.1 == (Tryd.prog.globals.getD 0 default).name) = [((Tryd.prog.globals.getD 0 default).name, Lib.tabData .u64 Lib.pow10Tab)] := by kernel_rfl
  have h2 := laidMet.filter (fun x => x.1 == (Tryd.prog.globals.getD 0 default).name) h
  rw [e] at h2
  exact tabs_met (Lib.tabIs_of_head (g := 0) (t := 65) (e := 58) (n := 20) (by kernel_rfl) (by kernel_rfl) Tryd.underlying65 Tryd.underlying58 (by kernel_rfl) (by kernel_rfl) h2)

set_option maxRecDepth 100000 in
theorem lifted (os : Os) (started : os.Started) (H : Type) (enc : TypeId × Value → H) :
    ReturnsInHanded {} Tryd.checked os 3 .any (fun w args => (Rows.fnExactFaultTextSpec.pre enc Tryd.prog Tryd.f3 [] false w args ∧ laidMetH Tryd.prog Rows.fnExactFaultTextRow.laid w) ∧ sizedMet enc Tryd.prog Tryd.f3 (OpenSpec.ofChange Rows.fnExactFaultTextSpec) false w args) (Rows.fnExactFaultTextSpec.post enc Tryd.prog Tryd.f3 false true false false) := by
  refine returnsInHanded_of_change_and (C := Tryd.checked) (X := fun w _ => laidMetH Tryd.prog Rows.fnExactFaultTextRow.laid w) (fun _ _ _ hh h => h.of_heap hh) own started (by kernel_rfl) Tryd.func3
    (ChangeSpec.witness_shaped (enc := enc) (C := Tryd.checked) (os := os) (X := fun w _ => laidMetH Tryd.prog Rows.fnExactFaultTextRow.laid w) false (World.doorLaid Tryd.prog 24 os) #[.agg #[.int .i64 0, .int .i64 0]] 8 rfl (World.shaped_of_RefB (by kernel_rfl) (by kernel_rfl)) (by kernel_rfl) (by kernel_rfl) (by kernel_rfl) (door_met os _)) ?_
  intro W base args ds gs before hval0 hW _ _ hL _
  have hval : ∀ (j : Nat) t v, Tryd.f3.params[j]? = some t → args[j]? = some v → Value.okWide Tryd.prog W .any base t v := hval0
  have hW' := hW
  have hlt := hW'.lt
  obtain ⟨p, q, hA0, hV, rfl, hfz, hnd⟩ := hW
  have hA : DataW.TrodAll enc Tryd.prog W 0 (fun _ => true) true Tryd.f3.params.toList args.toList ds p := hA0
  rw [Tryd.params3] at hA hval
  obtain ⟨v0, vs0, d0, ds0, p0, q0, hargs0, e0a, e0b, h0, r0⟩ := trodAll_cons hA
  obtain ⟨na, nb, nc⟩ := trodAll_nil r0
  subst na nb nc
  subst e0a e0b
  obtain ⟨ga, gb⟩ := trodVars_none hV
  subst ga gb
  have hargs : args = #[v0] := by
    have : args.toList = [v0] := by simp_all
    cases args; simp_all
  subst hargs
  obtain ⟨x0, z0, w0⟩ := arg_ty tyFault sh0 (hval 0 23 v0 rfl rfl) h0
  clear hA hA0 hval0
  refine (law_call s_laws_FnExactFaultText Tryd.func3 rfl (by decide +kernel) (args := [tyFault.f x0]) (vargs := #[v0]) rfl (by rw [M_laws_FnExactFaultText]; rfl) rfl (fun j hj => ?_) (tab_of hL) (Fs_laws_FnExactFaultText (law_FaultText w0))).mono fun e W' ⟨he, hs⟩ => ?_
  · have hj' : j < 1 := by simpa using hj
    match j, hj' with
    | 0, _ => exact z0
  subst he
  refine ⟨_, rfl, post_kept (pa := p0 ++ []) (pv := []) hW' hs (fun _ _ _ => (trodAll_cons_mk (shut_bool Tryd.underlying4 _) trodAll_mk0)) (fun sp hsp => ?_) (fun _ _ => rfl) ?_ (ok_one (by kernel_rfl) rfl (okWide_bool_mk Tryd.underlying4 _))⟩
  · exact (trodAll_cons_mk (stays laid rec23 in23 hs h0 (fun p hp => by simp [hp]) hlt hsp) trodAll_mk0)
  · simp

theorem over : Rows.fnExactFaultTextRow.holds Tryd.pinned (OpenSpec.ofChange Rows.fnExactFaultTextSpec) :=
  OpenClaim.holds_of_wide 3 Tryd.f3 rfl rfl rfl rfl rfl rfl rfl ⟨rfl, rfl, rfl, rfl, rfl⟩ rfl rfl rfl rfl rfl (by kernel_rfl) Tryd.func3 (by kernel_rfl)
    (of_decide_eq_true (by kernel_rfl)) (by unfold Func.isWrapper; first | (rw [if_pos (by decide +kernel)]; kernel_rfl) | (rw [if_neg (by decide +kernel)]; exact ⟨rfl, rfl⟩))
    (fun os started H enc _ => lifted os started H enc)

/-- ████ THE STATEMENT ████ -/
theorem proved : Rows.FnExactFaultTextCardSaid :=
  Claim7.holds_tied_plain_at .later [] [.data, .data, .data] true (true, "4242531ddcea39255eb5f431de09013164144b3fa1c8b6f4e801462a8430cecd") false
    over (fun _ h => by cases h) (by kernel_rfl) (fun _ h => by cases h) fnExactFaultText_row_tie rfl ⟨rfl, rfl⟩ (by kernel_rfl) rfl
    (fun f fn hf hfn => by
      obtain rfl : f = 3 := Option.some.inj ((show Tryd.prog.funcNamed Rows.fnExactFaultTextRow.func = some 3 by kernel_rfl).symm.trans hf) |>.symm
      obtain rfl : fn = Tryd.f3 := (Option.some.inj (Tryd.func3.symm.trans hfn)).symm
      exact ⟨by kernel_rfl, fun j t ht => by
        rw [Tryd.params3] at ht
        have hm : t ∈ [23] := by simpa using Array.mem_of_getElem? ht
        have hall : ([23].all fun u => !Tryd.prog.wantsStandIn u) = true := by kernel_rfl
        exact (show Tryd.prog.wantsStandIn t = false by simpa using List.all_eq_true.1 hall t hm)⟩)
    (by kernel_rfl)

end Go.Proofs.YtgbibhhblimfiaaDoor.fnExactFaultText
