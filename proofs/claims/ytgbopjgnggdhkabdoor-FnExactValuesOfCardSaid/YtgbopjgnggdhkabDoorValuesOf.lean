/- The statement FnExactValuesOf: for every input the law returns true, and each argument reads as it did. No condition. -/
import Derived.Test.YtgbopjgnggdhkabDoorAEK
import Derived.Test.YtgbopjgnggdhkabDoorPValuesOf
import Derived.Test.YtgbopjgnggdhkabDoorEngTD
import Derived.Test.YtgbopjgnggdhkabDoorEngSX
import Derived.Test.YtgbopjgnggdhkabDoorCards
import Derived.Test.YtgbopjgnggdhkabDoorTie
import Derived.LaidMore
import Derived.Lay
import Derived.OpenShut
import Derived.Stop.Joined
import Derived.SevenTiedAt
import Derived.WalkKit
namespace Go.Proofs.YtgbopjgnggdhkabDoor.fnExactValuesOf
open Go Go.ChangeShapes Go.WideShapes Go.ChangeAt Go.RowKit
set_option linter.unusedVariables false
set_option linter.unusedSimpArgs false


theorem own : ownKnob Tryd.prog.godebug = none := by kernel_rfl
theorem laid : laidOutB Tryd.prog = true := by kernel_rfl
theorem sh0 : shO Tryd.prog tyStr.sh (.inl 9) = true := by kernel_rfl
theorem sh1 : shO Tryd.prog tyStr.sh (.inl 9) = true := by kernel_rfl
theorem rec9 : Tryd.prog.readableRec 9 = true := by kernel_rfl
theorem in9 : 9 < Tryd.prog.types.size := of_decide_eq_true (by kernel_rfl)

set_option maxRecDepth 100000 in
theorem tab_of {W : World} (hsh : W.ShapedOpen Tryd.prog) (h : laidMetH Tryd.prog Rows.fnExactValuesOfRow.laid W) : GT (fun _ => False) W := by
  rw [MakeChecks.laidMetH_plain _ _ _ (by kernel_rfl)] at h
  have e : (Rows.fnExactValuesOfRow.laid).filter (fun x => x.1 == (Tryd.prog.globals.getD 1 default).name) = [((Tryd.prog.globals.getD 1 default).name, Lib.tabData .u64 Lib.pow10Tab)] := by kernel_rfl
  have h2 := laidMet.filter (fun x => x.1 == (Tryd.prog.globals.getD 1 default).name) h
  rw [e] at h2
  have eErrSyntax : (Rows.fnExactValuesOfRow.laid).filter (fun x => x.1 == (Tryd.prog.globals.getD 2 default).name) = [((Tryd.prog.globals.getD 2 default).name, Rows.laid_strconv_ErrSyntax)] := by kernel_rfl
  have hErrSyntax := laidMet.filter (fun x => x.1 == (Tryd.prog.globals.getD 2 default).name) h
  rw [eErrSyntax] at hErrSyntax
  have eErrRange : (Rows.fnExactValuesOfRow.laid).filter (fun x => x.1 == (Tryd.prog.globals.getD 3 default).name) = [((Tryd.prog.globals.getD 3 default).name, Rows.laid_strconv_ErrRange)] := by kernel_rfl
  have hErrRange := laidMet.filter (fun x => x.1 == (Tryd.prog.globals.getD 3 default).name) h
  rw [eErrRange] at hErrRange
  exact tabs_met hsh (Lib.tabIs_of_head (g := 1) (t := 105) (e := 94) (n := 20) (by kernel_rfl) (by kernel_rfl) Tryd.underlying105 Tryd.underlying94 (by kernel_rfl) (by kernel_rfl) h2) (sentinel_of (g := 2) hErrSyntax (by kernel_rfl) (by kernel_rfl)) (sentinel_of (g := 3) hErrRange (by kernel_rfl) (by kernel_rfl))

set_option maxRecDepth 100000 in
theorem lifted (os : Os) (started : os.Started) (H : Type) (enc : TypeId × Value → H) :
    ReturnsInHanded {} Tryd.checked os 5 .any (fun w args => (Rows.fnExactValuesOfSpec.pre enc Tryd.prog Tryd.f5 [] false w args ∧ laidMetH Tryd.prog Rows.fnExactValuesOfRow.laid w) ∧ sizedMet enc Tryd.prog Tryd.f5 (OpenSpec.ofChange Rows.fnExactValuesOfSpec) false w args) (Rows.fnExactValuesOfSpec.post enc Tryd.prog Tryd.f5 false true false false) := by
  refine handed_and_shaped (C := Tryd.checked) (X := fun w _ => laidMetH Tryd.prog Rows.fnExactValuesOfRow.laid w) (fun _ _ _ hh h => h.of_heap hh) own started (by kernel_rfl) Tryd.func5
    (ChangeSpec.witness_shaped (enc := enc) (C := Tryd.checked) (os := os) (X := fun w _ => laidMetH Tryd.prog Rows.fnExactValuesOfRow.laid w) false (World.laidAll Tryd.prog os Rows.fnExactValuesOfRow.laid) #[.string ⟨#[]⟩, .string ⟨#[]⟩] 8 (World.laidAll_os _ _ _) (World.shaped_of_ZipB (by kernel_rfl) (by kernel_rfl)) (by kernel_rfl) (by kernel_rfl) (by kernel_rfl)
      (by rw [MakeChecks.laidMetH_plain _ _ _ (by kernel_rfl)]; exact laidMet_laidAll _ (by kernel_rfl) (by kernel_rfl))) ?_
  intro W base args ds gs before hval0 hW hL hsh
  have hval : ∀ (j : Nat) t v, Tryd.f5.params[j]? = some t → args[j]? = some v → Value.okWide Tryd.prog W .any base t v := hval0
  have hW' := hW
  have hlt := hW'.lt
  obtain ⟨p, q, hA0, hV, rfl, hfz, hnd⟩ := hW
  have hA : DataW.TrodAll enc Tryd.prog W 0 (fun _ => true) true Tryd.f5.params.toList args.toList ds p := hA0
  rw [Tryd.params5] at hA hval
  obtain ⟨v0, vs0, d0, ds0, p0, q0, hargs0, e0a, e0b, h0, r0⟩ := trodAll_cons hA
  obtain ⟨v1, vs1, d1, ds1, p1, q1, hargs1, e1a, e1b, h1, r1⟩ := trodAll_cons r0
  obtain ⟨na, nb, nc⟩ := trodAll_nil r1
  subst na nb nc
  subst e1a e1b
  subst e0a e0b
  obtain ⟨ga, gb⟩ := trodVars_none hV
  subst ga gb
  have hargs : args = #[v0, v1] := by
    have : args.toList = [v0, v1] := by simp_all
    cases args; simp_all
  subst hargs
  obtain ⟨x0, z0, w0⟩ := arg_ty tyStr sh0 (hval 0 9 v0 rfl rfl) h0
  obtain ⟨x1, z1, w1⟩ := arg_ty tyStr sh1 (hval 1 9 v1 rfl rfl) h1
  clear hA hA0 hval0
  refine (law_call s_laws_FnExactValuesOf Tryd.func5 rfl (by decide +kernel) (args := [tyStr.f x0, tyStr.f x1]) (vargs := #[v0, v1]) rfl (by rw [M_laws_FnExactValuesOf]; rfl) rfl (fun j hj => ?_) (tab_of hsh hL) (Fs_laws_FnExactValuesOf (law_ValuesOf))).mono fun e W' ⟨he, hs⟩ => ?_
  · have hj' : j < 2 := by simpa using hj
    match j, hj' with
    | 0, _ => exact z0
    | 1, _ => exact z1
  subst he
  refine ⟨_, rfl, post_kept (pa := p0 ++ (p1 ++ [])) (pv := []) hW' hs (fun _ _ _ => (trodAll_cons_mk (shut_bool Tryd.underlying4 _) trodAll_mk0)) (fun sp hsp => ?_) (fun _ _ => rfl) ?_ (ok_one (by kernel_rfl) rfl (okWide_bool_mk Tryd.underlying4 _))⟩
  · exact (trodAll_cons_mk (stays laid rec9 in9 hs h0 (fun p hp => by simp [hp]) hlt hsp) (trodAll_cons_mk (stays laid rec9 in9 hs h1 (fun p hp => by simp [hp]) hlt hsp) trodAll_mk0))
  · simp

theorem over : Rows.fnExactValuesOfRow.holds Tryd.pinned (OpenSpec.ofChange Rows.fnExactValuesOfSpec) :=
  OpenClaim.holds_of_wide 5 Tryd.f5 rfl rfl rfl rfl rfl rfl rfl ⟨rfl, rfl, rfl, rfl, rfl⟩ rfl rfl rfl rfl rfl (by kernel_rfl) Tryd.func5 (by kernel_rfl)
    (of_decide_eq_true (by kernel_rfl)) (by unfold Func.isWrapper; first | (rw [if_pos (by decide +kernel)]; kernel_rfl) | (rw [if_neg (by decide +kernel)]; exact ⟨rfl, rfl⟩))
    (fun os started H enc _ => lifted os started H enc)

/-- ████ THE STATEMENT ████ -/
theorem proved : Rows.FnExactValuesOfCardSaid :=
  Claim7.holds_tied_plain_at .later [] [.data, .data, .data, .data, .sentinel, .sentinel, .pinned] true (true, "74dbd821f61ebbbe6beaf643fea703e41ad617bff50e40c92452d58793d39c0b") true
    over (fun _ h => by cases h) (by kernel_rfl) (fun _ h => by cases h) fnExactValuesOf_row_tie rfl ⟨rfl, rfl⟩ (by kernel_rfl) rfl
    (fun f fn hf hfn => by
      obtain rfl : f = 5 := Option.some.inj ((show Tryd.prog.funcNamed Rows.fnExactValuesOfRow.func = some 5 by kernel_rfl).symm.trans hf) |>.symm
      obtain rfl : fn = Tryd.f5 := (Option.some.inj (Tryd.func5.symm.trans hfn)).symm
      exact ⟨by kernel_rfl, fun j t ht => by
        rw [Tryd.params5] at ht
        have hm : t ∈ [9, 9] := by simpa using Array.mem_of_getElem? ht
        have hall : ([9, 9].all fun u => !Tryd.prog.wantsStandIn u) = true := by kernel_rfl
        exact (show Tryd.prog.wantsStandIn t = false by simpa using List.all_eq_true.1 hall t hm)⟩)
    (by kernel_rfl)

end Go.Proofs.YtgbopjgnggdhkabDoor.fnExactValuesOf
