/- The statement FnReports: for every input the law returns true, and each argument reads as it did. No condition. -/
import Derived.Test.YtbobhejdijcofaaGreatDoorRPK
import Derived.Test.YtbobhejdijcofaaGreatDoorPReports
import Derived.Test.YtbobhejdijcofaaGreatDoorEngTD
import Derived.Test.YtbobhejdijcofaaGreatDoorEngSX
import Derived.Test.YtbobhejdijcofaaGreatDoorCards
import Derived.Test.YtbobhejdijcofaaGreatDoorTie
import Derived.LaidMore
import Derived.Lay
import Derived.OpenShut
import Derived.Stop.Joined
import Derived.SevenTiedAt
import Derived.WalkKit
namespace Go.Proofs.YtbobhejdijcofaaGreatDoor.fnReports
open Go Go.ChangeShapes Go.WideShapes Go.ChangeAt Go.RowKit
set_option linter.unusedVariables false
set_option linter.unusedSimpArgs false


theorem own : ownKnob Tryz.prog.godebug = none := by kernel_rfl
theorem laid : laidOutB Tryz.prog = true := by kernel_rfl
theorem sh0 : shO Tryz.prog (tySl 1 tyByte).sh (.inl 22) = true := by kernel_rfl
theorem rec22 : Tryz.prog.readableRec 22 = true := by kernel_rfl
theorem in22 : 22 < Tryz.prog.types.size := of_decide_eq_true (by kernel_rfl)

set_option maxRecDepth 100000 in
theorem tab_of {W : World} (hsh : W.ShapedOpen Tryz.prog) (h : laidMetH Tryz.prog Rows.fnReportsRow.laid W) : GT (fun _ => False) W := by
  rw [MakeChecks.laidMetH_plain _ _ _ (by kernel_rfl)] at h
  have e : (Rows.fnReportsRow.laid).filter (fun x => x.1 == (Tryz.prog.globals.getD 1 default).name) = [((Tryz.prog.globals.getD 1 default).name, Lib.tabData .u64 Lib.pow10Tab)] := by kernel_rfl
  have h2 := laidMet.filter (fun x => x.1 == (Tryz.prog.globals.getD 1 default).name) h
  rw [e] at h2
  exact tabs_met hsh (Lib.tabIs_of_head (g := 1) (t := 145) (e := 69) (n := 20) (by kernel_rfl) (by kernel_rfl) Tryz.underlying145 Tryz.underlying69 (by kernel_rfl) (by kernel_rfl) h2)

set_option maxRecDepth 100000 in
theorem lifted (os : Os) (started : os.Started) (H : Type) (enc : TypeId × Value → H) :
    ReturnsInHanded {} Tryz.checked os 3 .any (fun w args => (Rows.fnReportsSpec.pre enc Tryz.prog Tryz.f3 [] false w args ∧ laidMetH Tryz.prog Rows.fnReportsRow.laid w) ∧ sizedMet enc Tryz.prog Tryz.f3 (OpenSpec.ofChange Rows.fnReportsSpec) false w args) (Rows.fnReportsSpec.post enc Tryz.prog Tryz.f3 false true false false) := by
  refine handed_and_shaped (C := Tryz.checked) (X := fun w _ => laidMetH Tryz.prog Rows.fnReportsRow.laid w) (fun _ _ _ hh h => h.of_heap hh) own started (by kernel_rfl) Tryz.func3
    (ChangeSpec.witness_shaped (enc := enc) (C := Tryz.checked) (os := os) (X := fun w _ => laidMetH Tryz.prog Rows.fnReportsRow.laid w) false (World.laidAll Tryz.prog os Rows.fnReportsRow.laid) #[.slice none 0 0] 8 (World.laidAll_os _ _ _) (World.shaped_of_ZipB (by kernel_rfl) (by kernel_rfl)) (by kernel_rfl) (by kernel_rfl) (by kernel_rfl)
      (by rw [MakeChecks.laidMetH_plain _ _ _ (by kernel_rfl)]; exact laidMet_laidAll _ (by kernel_rfl) (by kernel_rfl))) ?_
  intro W base args ds gs before hval0 hW hL hsh
  have hval : ∀ (j : Nat) t v, Tryz.f3.params[j]? = some t → args[j]? = some v → Value.okWide Tryz.prog W .any base t v := hval0
  have hW' := hW
  have hlt := hW'.lt
  obtain ⟨p, q, hA0, hV, rfl, hfz, hnd⟩ := hW
  have hA : DataW.TrodAll enc Tryz.prog W 0 (fun _ => true) true Tryz.f3.params.toList args.toList ds p := hA0
  rw [Tryz.params3] at hA hval
  obtain ⟨v0, vs0, d0, ds0, p0, q0, hargs0, e0a, e0b, h0, r0⟩ := trodAll_cons hA
  obtain ⟨na, nb, nc⟩ := trodAll_nil r0
  subst na nb nc
  subst e0a e0b
  obtain ⟨ga, gb⟩ := trodVars_none hV
  subst ga gb
  have hargs : args = #[v0] := by
    have : args.toList = [v0] := by simp_all
    cases args; simp_all
  subst hargs
  obtain ⟨x0, z0, w0⟩ := arg_ty (tySl 1 tyByte) sh0 (hval 0 22 v0 rfl rfl) h0
  clear hA hA0 hval0
  refine (law_call s_laws_FnReports Tryz.func3 rfl (by decide +kernel) (args := [(tySl 1 tyByte).f x0]) (vargs := #[v0]) rfl (by rw [M_laws_FnReports]; rfl) rfl (fun j hj => ?_) (tab_of hsh hL) (Fs_laws_FnReports (law_Reports))).mono fun e W' ⟨he, hs⟩ => ?_
  · have hj' : j < 1 := by simpa using hj
    match j, hj' with
    | 0, _ => exact z0
  subst he
  refine ⟨_, rfl, post_kept (pa := p0 ++ []) (pv := []) hW' hs (fun _ _ _ => (trodAll_cons_mk (shut_bool Tryz.underlying4 _) trodAll_mk0)) (fun sp hsp => ?_) (fun _ _ => rfl) ?_ (ok_one (by kernel_rfl) rfl (okWide_bool_mk Tryz.underlying4 _))⟩
  · exact (trodAll_cons_mk (stays laid rec22 in22 hs h0 (fun p hp => by simp [hp]) hlt hsp) trodAll_mk0)
  · simp

theorem over : Rows.fnReportsRow.holds Tryz.pinned (OpenSpec.ofChange Rows.fnReportsSpec) :=
  OpenClaim.holds_of_wide 3 Tryz.f3 rfl rfl rfl rfl rfl rfl rfl ⟨rfl, rfl, rfl, rfl, rfl⟩ rfl rfl rfl rfl rfl (by kernel_rfl) Tryz.func3 (by kernel_rfl)
    (of_decide_eq_true (by kernel_rfl)) (by unfold Func.isWrapper; first | (rw [if_pos (by decide +kernel)]; kernel_rfl) | (rw [if_neg (by decide +kernel)]; exact ⟨rfl, rfl⟩))
    (fun os started H enc _ => lifted os started H enc)

/-- ████ THE STATEMENT ████ -/
theorem proved : Rows.FnReportsCardSaid :=
  Claim7.holds_tied_plain_at .later [] [.data, .data, .data] true (true, "a5dc76ed0480149f8a68b4c2b840e5d16db79a6fc9b87a6f132df3fbc9adc9a4") false
    over (fun _ h => by cases h) (by kernel_rfl) (fun _ h => by cases h) fnReports_row_tie rfl ⟨rfl, rfl⟩ (by kernel_rfl) rfl
    (fun f fn hf hfn => by
      obtain rfl : f = 3 := Option.some.inj ((show Tryz.prog.funcNamed Rows.fnReportsRow.func = some 3 by kernel_rfl).symm.trans hf) |>.symm
      obtain rfl : fn = Tryz.f3 := (Option.some.inj (Tryz.func3.symm.trans hfn)).symm
      exact ⟨by kernel_rfl, fun j t ht => by
        rw [Tryz.params3] at ht
        have hm : t ∈ [22] := by simpa using Array.mem_of_getElem? ht
        have hall : ([22].all fun u => !Tryz.prog.wantsStandIn u) = true := by kernel_rfl
        exact (show Tryz.prog.wantsStandIn t = false by simpa using List.all_eq_true.1 hall t hm)⟩)
    (by kernel_rfl)

end Go.Proofs.YtbobhejdijcofaaGreatDoor.fnReports
