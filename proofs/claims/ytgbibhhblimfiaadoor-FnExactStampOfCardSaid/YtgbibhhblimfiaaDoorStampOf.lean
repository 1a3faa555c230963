/- The statement FnExactStampOf: for every input the law returns true, and each argument reads as it did. No condition. -/
import Derived.Test.YtgbibhhblimfiaaDoorB7K
import Derived.Test.YtgbibhhblimfiaaDoorPStampOf
import Derived.Test.YtgbibhhblimfiaaDoorEngTD
import Derived.Test.YtgbibhhblimfiaaDoorCards
import Derived.Test.YtgbibhhblimfiaaDoorTie
import Derived.LaidMore
import Derived.OpenShut
import Derived.Stop.Joined
import Derived.SevenTiedAt
import Derived.WalkKit
namespace Go.Proofs.YtgbibhhblimfiaaDoor.fnExactStampOf
open Go Go.ChangeShapes Go.WideShapes Go.ChangeAt Go.RowKit
set_option linter.unusedVariables false
set_option linter.unusedSimpArgs false

/-- Entry -/
def tyEntry : Ty Entry := ⟨.st (.cons tyInt.sh (.cons tyStr.sh (.cons tyInt.sh (.nil)))), Entry_av, fun x => tyInt.wf x.Day ∧ tyStr.wf x.What ∧ tyInt.wf x.Value, fun _ => rfl, fun cs h => by
  obtain ⟨l0, r0, rfl, h0, l1, r1, rfl, h1, l2, r2, rfl, h2, hn⟩ := h
  cases hn
  obtain ⟨x0, rfl, w0⟩ := tyInt.fits _ h0
  obtain ⟨x1, rfl, w1⟩ := tyStr.fits _ h1
  obtain ⟨x2, rfl, w2⟩ := tyInt.fits _ h2
  exact ⟨⟨x0, x1, x2⟩, rfl, w0, w1, w2⟩⟩

theorem own : ownKnob Tryd.prog.godebug = none := by kernel_rfl
theorem laid : laidOutB Tryd.prog = true := by kernel_rfl
theorem sh0 : shO Tryd.prog tyInt.sh (.inl 2) = true := by kernel_rfl
theorem sh1 : shO Tryd.prog tyEntry.sh (.inl 29) = true := by kernel_rfl
theorem rec2 : Tryd.prog.readableRec 2 = true := by kernel_rfl
theorem in2 : 2 < Tryd.prog.types.size := of_decide_eq_true (by kernel_rfl)
theorem rec29 : Tryd.prog.readableRec 29 = true := by kernel_rfl
theorem in29 : 29 < Tryd.prog.types.size := of_decide_eq_true (by kernel_rfl)

set_option maxRecDepth 100000 in
theorem door_met (os : Os) (args : Array Value) : laidMetH Tryd.prog Rows.fnExactStampOfRow.laid ((World.doorLaid Tryd.prog 24 os).forCall (fun _ _ => 0) ⟨#[], args, []⟩).memory :=
  laidMetH_of_parts3 (fuel := 8) (laidMet_of_run' 8 (by kernel_rfl) (by kernel_rfl)) (by kernel_rfl) (by kernel_rfl)

theorem tab_of {W : World} (h : laidMetH Tryd.prog Rows.fnExactStampOfRow.laid W) : GT (fun _ => False) W := by
  rw [MakeChecks.laidMetH_plain _ _ _ (by kernel_rfl)] at h
  have e : (Rows.fnExactStampOfRow.laid).filter (fun x => x.1 == (Tryd.prog.globals.getD 0 default).name) = [((Tryd.prog.globals.getD 0 default).name, Lib.tabData .u64 Lib.pow10Tab)] := by kernel_rfl
  have h2 := laidMet.filter (fun x => x.1 == (Tryd.prog.globals.getD 0 default).name) h
  rw [e] at h2
  exact tabs_met (Lib.tabIs_of_head (g := 0) (t := 65) (e := 58) (n := 20) (by kernel_rfl) (by kernel_rfl) Tryd.underlying65 Tryd.underlying58 (by kernel_rfl) (by kernel_rfl) h2)

set_option maxRecDepth 100000 in
theorem lifted (os : Os) (started : os.Started) (H : Type) (enc : TypeId × Value → H) :
    ReturnsInHanded {} Tryd.checked os 4 .any (fun w args => (Rows.fnExactStampOfSpec.pre enc Tryd.prog Tryd.f4 [] false w args ∧ laidMetH Tryd.prog Rows.fnExactStampOfRow.laid w) ∧ sizedMet enc Tryd.prog Tryd.f4 (OpenSpec.ofChange Rows.fnExactStampOfSpec) false w args) (Rows.fnExactStampOfSpec.post enc Tryd.prog Tryd.f4 false true false false) := by
  refine returnsInHanded_of_change_and (C := Tryd.checked) (X := fun w _ => laidMetH Tryd.prog Rows.fnExactStampOfRow.laid w) (fun _ _ _ hh h => h.of_heap hh) own started (by kernel_rfl) Tryd.func4
    (ChangeSpec.witness_shaped (enc := enc) (C := Tryd.checked) (os := os) (X := fun w _ => laidMetH Tryd.prog Rows.fnExactStampOfRow.laid w) false (World.doorLaid Tryd.prog 24 os) #[.int .i64 0, .agg #[.int .i64 0, .string ⟨#[]⟩, .int .i64 0]] 8 rfl (World.shaped_of_RefB (by kernel_rfl) (by kernel_rfl)) (by kernel_rfl) (by kernel_rfl) (by kernel_rfl) (door_met os _)) ?_
  intro W base args ds gs before hval0 hW _ _ hL _
  have hval : ∀ (j : Nat) t v, Tryd.f4.params[j]? = some t → args[j]? = some v → Value.okWide Tryd.prog W .any base t v := hval0
  have hW' := hW
  have hlt := hW'.lt
  obtain ⟨p, q, hA0, hV, rfl, hfz, hnd⟩ := hW
  have hA : DataW.TrodAll enc Tryd.prog W 0 (fun _ => true) true Tryd.f4.params.toList args.toList ds p := hA0
  rw [Tryd.params4] at hA hval
  obtain ⟨v0, vs0, d0, ds0, p0, q0, hargs0, e0a, e0b, h0, r0⟩ := trodAll_cons hA
  obtain ⟨v1, vs1, d1, ds1, p1, q1, hargs1, e1a, e1b, h1, r1⟩ := trodAll_cons r0
  obtain ⟨na, nb, nc⟩ := trodAll_nil r1
  subst na nb nc
  subst e1a e1b
  subst e0a e0b
  obtain ⟨ga, gb⟩ := trodVars_none hV
  subst ga gb
  have hargs : args = #[v0, v1] := by
    have : args.toList = [v0, v1] := by simp_all
    cases args; simp_all
  subst hargs
  obtain ⟨x0, z0, w0⟩ := arg_ty tyInt sh0 (hval 0 2 v0 rfl rfl) h0
  obtain ⟨x1, z1, w1⟩ := arg_ty tyEntry sh1 (hval 1 29 v1 rfl rfl) h1
  clear hA hA0 hval0
  refine (law_call s_laws_FnExactStampOf Tryd.func4 rfl (by decide +kernel) (args := [tyInt.f x0, tyEntry.f x1]) (vargs := #[v0, v1]) rfl (by rw [M_laws_FnExactStampOf]; rfl) rfl (fun j hj => ?_) (tab_of hL) (Fs_laws_FnExactStampOf (law_StampOf w0 w1))).mono fun e W' ⟨he, hs⟩ => ?_
  · have hj' : j < 2 := by simpa using hj
    match j, hj' with
    | 0, _ => exact z0
    | 1, _ => exact z1
  subst he
  refine ⟨_, rfl, post_kept (pa := p0 ++ (p1 ++ [])) (pv := []) hW' hs (fun _ _ _ => (trodAll_cons_mk (shut_bool Tryd.underlying4 _) trodAll_mk0)) (fun sp hsp => ?_) (fun _ _ => rfl) ?_ (ok_one (by kernel_rfl) rfl (okWide_bool_mk Tryd.underlying4 _))⟩
  · exact (trodAll_cons_mk (stays laid rec2 in2 hs h0 (fun p hp => by simp [hp]) hlt hsp) (trodAll_cons_mk (stays laid rec29 in29 hs h1 (fun p hp => by simp [hp]) hlt hsp) trodAll_mk0))
  · simp

theorem over : Rows.fnExactStampOfRow.holds Tryd.pinned (OpenSpec.ofChange Rows.fnExactStampOfSpec) :=
  OpenClaim.holds_of_wide 4 Tryd.f4 rfl rfl rfl rfl rfl rfl rfl ⟨rfl, rfl, rfl, rfl, rfl⟩ rfl rfl rfl rfl rfl (by kernel_rfl) Tryd.func4 (by kernel_rfl)
    (of_decide_eq_true (by kernel_rfl)) (by unfold Func.isWrapper; first | (rw [if_pos (by decide +kernel)]; kernel_rfl) | (rw [if_neg (by decide +kernel)]; exact ⟨rfl, rfl⟩))
    (fun os started H enc _ => lifted os started H enc)

/-- ████ THE STATEMENT ████ -/
theorem proved : Rows.FnExactStampOfCardSaid :=
  Claim7.holds_tied_plain_at .later [] [.data, .data, .data] true (true, "4242531ddcea39255eb5f431de09013164144b3fa1c8b6f4e801462a8430cecd") false
    over (fun _ h => by cases h) (by kernel_rfl) (fun _ h => by cases h) fnExactStampOf_row_tie rfl ⟨rfl, rfl⟩ (by kernel_rfl) rfl
    (fun f fn hf hfn => by
      obtain rfl : f = 4 := Option.some.inj ((show Tryd.prog.funcNamed Rows.fnExactStampOfRow.func = some 4 by kernel_rfl).symm.trans hf) |>.symm
      obtain rfl : fn = Tryd.f4 := (Option.some.inj (Tryd.func4.symm.trans hfn)).symm
      exact ⟨by kernel_rfl, fun j t ht => by
        rw [Tryd.params4] at ht
        have hm : t ∈ [2, 29] := by simpa using Array.mem_of_getElem? ht
        have hall : ([2, 29].all fun u => !Tryd.prog.wantsStandIn u) = true := by kernel_rfl
        exact (show Tryd.prog.wantsStandIn t = false by simpa using List.all_eq_true.1 hall t hm)⟩)
    (by kernel_rfl)

end Go.Proofs.YtgbibhhblimfiaaDoor.fnExactStampOf
