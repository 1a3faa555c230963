/- The statement FnExactLogOf: for every input the law returns true, and each argument reads as it did. No condition. -/
import Derived.Test.YtaeefegkmachmaaDoorLOK
import Derived.Test.YtaeefegkmachmaaDoorPLogOf
import Derived.Test.YtaeefegkmachmaaDoorEngTD
import Derived.Test.YtaeefegkmachmaaDoorEngSX
import Derived.Test.YtaeefegkmachmaaDoorCards
import Derived.Test.YtaeefegkmachmaaDoorTie
import Derived.LaidMore
import Derived.Lay
import Derived.OpenShut
import Derived.Stop.Joined
import Derived.SevenTiedAt
import Derived.WalkKit
namespace Go.Proofs.YtaeefegkmachmaaDoor.fnExactLogOf
open Go Go.ChangeShapes Go.WideShapes Go.ChangeAt Go.RowKit
set_option linter.unusedVariables false
set_option linter.unusedSimpArgs false

/-- Entry -/
def tyEntry : Ty Entry := ⟨.st (.cons tyInt.sh (.cons tyStr.sh (.cons tyInt.sh (.nil)))), Entry_av, fun x => tyInt.wf x.Day ∧ tyStr.wf x.What ∧ tyInt.wf x.Value, fun _ => rfl, fun cs h => by
  obtain ⟨l0, r0, rfl, h0, l1, r1, rfl, h1, l2, r2, rfl, h2, hn⟩ := h
  cases hn
  obtain ⟨x0, rfl, w0⟩ := tyInt.fits _ h0
  obtain ⟨x1, rfl, w1⟩ := tyStr.fits _ h1
  obtain ⟨x2, rfl, w2⟩ := tyInt.fits _ h2
  exact ⟨⟨x0, x1, x2⟩, rfl, w0, w1, w2⟩⟩

theorem own : ownKnob Tryd.prog.godebug = none := by kernel_rfl
theorem laid : laidOutB Tryd.prog = true := by kernel_rfl
theorem sh0 : shO Tryd.prog (tySl 3 tyEntry).sh (.inl 22) = true := by kernel_rfl
theorem rec22 : Tryd.prog.readableRec 22 = true := by kernel_rfl
theorem in22 : 22 < Tryd.prog.types.size := of_decide_eq_true (by kernel_rfl)

set_option maxRecDepth 100000 in
theorem tab_of {W : World} (hsh : W.ShapedOpen Tryd.prog) (h : laidMetH Tryd.prog Rows.fnExactLogOfRow.laid W) : GT (fun _ => False) W := by
  rw [MakeChecks.laidMetH_plain _ _ _ (by kernel_rfl)] at h
  have e : (Rows.fnExactLogOfRow.laid).filter (fun x => x.1 == (Tryd.prog.globals.getD 0 default).name) = [((Tryd.prog.globals.getD 0 default).name, Lib.tabData .u64 Lib.pow10Tab)] := by kernel_rfl
  have h2 := laidMet.filter (fun x => x.1 == (Tryd.prog.globals.getD 0 default).name) h
  rw [e] at h2
  exact tabs_met hsh (Lib.tabIs_of_head (g := 0) (t := 75) (e := 68) (n := 20) (by kernel_rfl) (by kernel_rfl) Tryd.underlying75 Tryd.underlying68 (by kernel_rfl) (by kernel_rfl) h2)

set_option maxRecDepth 100000 in
theorem lifted (os : Os) (started : os.Started) (H : Type) (enc : TypeId × Value → H) :
    ReturnsInHanded {} Tryd.checked os 3 .any (fun w args => (Rows.fnExactLogOfSpec.pre enc Tryd.prog Tryd.f3 [] false w args ∧ laidMetH Tryd.prog Rows.fnExactLogOfRow.laid w) ∧ sizedMet enc Tryd.prog Tryd.f3 (OpenSpec.ofChange Rows.fnExactLogOfSpec) false w args) (Rows.fnExactLogOfSpec.post enc Tryd.prog Tryd.f3 false true false false) := by
  refine handed_and_shaped (C := Tryd.checked) (X := fun w _ => laidMetH Tryd.prog Rows.fnExactLogOfRow.laid w) (fun _ _ _ hh h => h.of_heap hh) own started (by kernel_rfl) Tryd.func3
    (ChangeSpec.witness_shaped (enc := enc) (C := Tryd.checked) (os := os) (X := fun w _ => laidMetH Tryd.prog Rows.fnExactLogOfRow.laid w) false (World.laidAll Tryd.prog os Rows.fnExactLogOfRow.laid) #[.slice none 0 0] 8 (World.laidAll_os _ _ _) (World.shaped_of_ZipB (by kernel_rfl) (by kernel_rfl)) (by kernel_rfl) (by kernel_rfl) (by kernel_rfl)
      (by rw [MakeChecks.laidMetH_plain _ _ _ (by kernel_rfl)]; exact laidMet_laidAll _ (by kernel_rfl) (by kernel_rfl))) ?_
  intro W base args ds gs before hval0 hW hL hsh
  have hval : ∀ (j : Nat) t v, Tryd.f3.params[j]? = some t → args[j]? = some v → Value.okWide Tryd.prog W .any base t v := hval0
  have hW' := hW
  have hlt := hW'.lt
  obtain ⟨p, q, hA0, hV, rfl, hfz, hnd⟩ := hW
  have hA : DataW.TrodAll enc Tryd.prog W 0 (fun _ => true) true Tryd.f3.params.toList args.toList ds p := hA0
  rw [Tryd.params3] at hA hval
  obtain ⟨v0, vs0, d0, ds0, p0, q0, hargs0, e0a, e0b, h0, r0⟩ := trodAll_cons hA
  obtain ⟨na, nb, nc⟩ := trodAll_nil r0
  subst na nb nc
  subst e0a e0b
  obtain ⟨ga, gb⟩ := trodVars_none hV
  subst ga gb
  have hargs : args = #[v0] := by
    have : args.toList = [v0] := by simp_all
    cases args; simp_all
  subst hargs
  obtain ⟨x0, z0, w0⟩ := arg_ty (tySl 3 tyEntry) sh0 (hval 0 22 v0 rfl rfl) h0
  clear hA hA0 hval0
  refine (law_call s_laws_FnExactLogOf Tryd.func3 rfl (by decide +kernel) (args := [(tySl 3 tyEntry).f x0]) (vargs := #[v0]) rfl (by rw [M_laws_FnExactLogOf]; rfl) rfl (fun j hj => ?_) (tab_of hsh hL) (Fs_laws_FnExactLogOf (law_LogOf w0))).mono fun e W' ⟨he, hs⟩ => ?_
  · have hj' : j < 1 := by simpa using hj
    match j, hj' with
    | 0, _ => exact z0
  subst he
  refine ⟨_, rfl, post_kept (pa := p0 ++ []) (pv := []) hW' hs (fun _ _ _ => (trodAll_cons_mk (shut_bool Tryd.underlying4 _) trodAll_mk0)) (fun sp hsp => ?_) (fun _ _ => rfl) ?_ (ok_one (by kernel_rfl) rfl (okWide_bool_mk Tryd.underlying4 _))⟩
  · exact (trodAll_cons_mk (stays laid rec22 in22 hs h0 (fun p hp => by simp [hp]) hlt hsp) trodAll_mk0)
  · simp

theorem over : Rows.fnExactLogOfRow.holds Tryd.pinned (OpenSpec.ofChange Rows.fnExactLogOfSpec) :=
  OpenClaim.holds_of_wide 3 Tryd.f3 rfl rfl rfl rfl rfl rfl rfl ⟨rfl, rfl, rfl, rfl, rfl⟩ rfl rfl rfl rfl rfl (by kernel_rfl) Tryd.func3 (by kernel_rfl)
    (of_decide_eq_true (by kernel_rfl)) (by unfold Func.isWrapper; first | (rw [if_pos (by decide +kernel)]; kernel_rfl) | (rw [if_neg (by decide +kernel)]; exact ⟨rfl, rfl⟩))
    (fun os started H enc _ => lifted os started H enc)

/-- ████ THE STATEMENT ████ -/
theorem proved : Rows.FnExactLogOfCardSaid :=
  Claim7.holds_tied_plain_at .later [] [.data, .data, .data] true (true, "b64b1bbb995db5263d5fd034922beca712bfc5ea4c0b55672d9959d8259beb93") false
    over (fun _ h => by cases h) (by kernel_rfl) (fun _ h => by cases h) fnExactLogOf_row_tie rfl ⟨rfl, rfl⟩ (by kernel_rfl) rfl
    (fun f fn hf hfn => by
      obtain rfl : f = 3 := Option.some.inj ((show Tryd.prog.funcNamed Rows.fnExactLogOfRow.func = some 3 by kernel_rfl).symm.trans hf) |>.symm
      obtain rfl : fn = Tryd.f3 := (Option.some.inj (Tryd.func3.symm.trans hfn)).symm
      exact ⟨by kernel_rfl, fun j t ht => by
        rw [Tryd.params3] at ht
        have hm : t ∈ [22] := by simpa using Array.mem_of_getElem? ht
        have hall : ([22].all fun u => !Tryd.prog.wantsStandIn u) = true := by kernel_rfl
        exact (show Tryd.prog.wantsStandIn t = false by simpa using List.all_eq_true.1 hall t hm)⟩)
    (by kernel_rfl)

end Go.Proofs.YtaeefegkmachmaaDoor.fnExactLogOf
