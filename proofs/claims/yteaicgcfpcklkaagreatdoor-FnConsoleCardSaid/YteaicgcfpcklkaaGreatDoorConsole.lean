/- The statement FnConsole: for every input the law returns true, and each argument reads as it did. No condition. -/
import Derived.Test.YteaicgcfpcklkaaGreatDoorPD
import Derived.Test.YteaicgcfpcklkaaGreatDoorPE
import Derived.Test.YteaicgcfpcklkaaGreatDoorP5
import Derived.Test.YteaicgcfpcklkaaGreatDoorCards
import Derived.Test.YteaicgcfpcklkaaGreatDoorTie
import Derived.LaidMore
import Derived.Lay
import Derived.OpenShut
import Derived.Stop.Joined
import Derived.SevenTiedAt
import Derived.WalkKit
set_option linter.unusedSimpArgs false
set_option linter.unusedVariables false
namespace Go.Proofs.YteaicgcfpcklkaaGreatDoor.fnConsole
open Go Go.ChangeShapes Go.WideShapes Go.ChangeAt Go.RowKit
theorem own:ownKnob Tryz.prog.godebug=none:=by kernel_rfl
theorem laid:laidOutB Tryz.prog=true:=by kernel_rfl
theorem sh0:PH Tryz.prog (AGH 1 lH).sh (.inl 22)=true:=by kernel_rfl
theorem ANY:Tryz.prog.readableRec 22=true:=by kernel_rfl
theorem in22:22<Tryz.prog.types.size:=of_decide_eq_true (by kernel_rfl)
set_option maxRecDepth 100000 in
theorem AGI{W:World}(hsh:W.ShapedOpen Tryz.prog)(h:laidMetH Tryz.prog Rows.fnConsoleRow.laid W):GT (fun _=>False) W:=by
 rw[MakeChecks.laidMetH_plain _ _ _ (by kernel_rfl)] at h;have e:(Rows.fnConsoleRow.laid).filter (fun x=>x.1==(Tryz.prog.globals.getD 1 default).name)=[((Tryz.prog.globals.getD 1 default).name,Lib.tabData .u64 Lib.pow10Tab)]:=by kernel_rfl
 have h2:=laidMet.filter (fun x=>x.1==(Tryz.prog.globals.getD 1 default).name) h;rw[e] at h2;have eErrSyntax:(Rows.fnConsoleRow.laid).filter (fun x=>x.1==(Tryz.prog.globals.getD 2 default).name)=[((Tryz.prog.globals.getD 2 default).name,Rows.laid_strconv_ErrSyntax)]:=by kernel_rfl
 have hErrSyntax:=laidMet.filter (fun x=>x.1==(Tryz.prog.globals.getD 2 default).name) h;rw[eErrSyntax] at hErrSyntax;have eErrRange:(Rows.fnConsoleRow.laid).filter (fun x=>x.1==(Tryz.prog.globals.getD 3 default).name)=[((Tryz.prog.globals.getD 3 default).name,Rows.laid_strconv_ErrRange)]:=by kernel_rfl
 have hErrRange:=laidMet.filter (fun x=>x.1==(Tryz.prog.globals.getD 3 default).name) h;rw[eErrRange] at hErrRange;exact vk hsh (Lib.tabIs_of_head (g:=1) (t:=231) (e:=56) (n:=20) (by kernel_rfl) (by kernel_rfl) Tryz.underlying231 Tryz.underlying56 (by kernel_rfl) (by kernel_rfl) h2) (VJ (g:=2) hErrSyntax (by kernel_rfl) (by kernel_rfl)) (VJ (g:=3) hErrRange (by kernel_rfl) (by kernel_rfl))
set_option maxRecDepth 100000 in
theorem AGy(os:Os)(started:os.Started)(H:Type)(enc:TypeId×Value->H):
  ReturnsInHanded {} Tryz.checked os 3 .any (fun w args=>(Rows.fnConsoleSpec.pre enc Tryz.prog Tryz.f3 [] false w args∧laidMetH Tryz.prog Rows.fnConsoleRow.laid w)∧sizedMet enc Tryz.prog Tryz.f3 (OpenSpec.ofChange Rows.fnConsoleSpec) false w args) (Rows.fnConsoleSpec.post enc Tryz.prog Tryz.f3 false true false false):=by
 refine TA (C:=Tryz.checked) (X:=fun w _=>laidMetH Tryz.prog Rows.fnConsoleRow.laid w) (fun _ _ _ hh h=>h.of_heap hh) own started (by kernel_rfl) Tryz.func3
  (ChangeSpec.witness_shaped (enc:=enc) (C:=Tryz.checked) (os:=os) (X:=fun w _=>laidMetH Tryz.prog Rows.fnConsoleRow.laid w) false (World.laidAll Tryz.prog os Rows.fnConsoleRow.laid) #[.slice none 0 0] 8 (World.laidAll_os _ _ _) (World.shaped_of_ZipB (by kernel_rfl) (by kernel_rfl)) (by kernel_rfl) (by kernel_rfl) (by kernel_rfl)
   (by rw[MakeChecks.laidMetH_plain _ _ _ (by kernel_rfl)];exact laidMet_laidAll _ (by kernel_rfl) (by kernel_rfl))) ?_
 intro W base args ds gs before hval0 hW hL hsh;have hval:∀ (j:Nat) t v,Tryz.f3.params[j]? = some t->args[j]? = some v->Value.okWide Tryz.prog W .any base t v:=hval0;have hW':=hW;have hlt:=hW'.lt;obtain⟨p,q,hA0,hV,rfl,hfz,hnd⟩:=hW;have hA:DataW.TrodAll enc Tryz.prog W 0 (fun _=>true) true Tryz.f3.params.toList args.toList ds p:=hA0;rw[Tryz.params3] at hA hval;obtain⟨v0,vs0,d0,ds0,p0,q0,hargs0,e0a,e0b,h0,r0⟩:=trodAll_cons hA;obtain⟨na,nb,nc⟩:=trodAll_nil r0;subst na nb nc;subst e0a e0b;obtain⟨ga,gb⟩:=trodVars_none hV;subst ga gb
 have hargs:args = #[v0]:=by
  have:args.toList=[v0]:=by simp_all
  cases args;simp_all
 subst hargs;obtain⟨x0,z0,w0⟩:=AJW (AGH 1 lH) sh0 (hval 0 22 v0 rfl rfl) h0;clear hA hA0 hval0;refine (yc UU Tryz.func3 rfl (by decide +kernel) (args:=[(AGH 1 lH).f x0]) (vargs:=#[v0]) rfl (by rw[NF];rfl) rfl (fun j hj=>?_) (AGI hsh hL) (Tf (jO w0.1))).mono fun e W' ⟨he,hs⟩=>?_
 ·have hj':j<1:=by simpa using hj
  match j,hj' with
  | 0,_=>exact z0
 subst he;refine⟨_,rfl,qT (pa:=p0++[]) (pv:=[]) hW' hs (fun _ _ _=>(trodAll_cons_mk (shut_bool Tryz.underlying4 _) trodAll_mk0)) (fun sp hsp=>?_) (fun _ _=>rfl) ?_ (ok_one (by kernel_rfl) rfl (okWide_bool_mk Tryz.underlying4 _))⟩
 ·exact (trodAll_cons_mk (AMK laid ANY in22 hs h0 (fun p hp=>by simp[hp]) hlt hsp) trodAll_mk0)
 ·simp
theorem ABp:Rows.fnConsoleRow.holds Tryz.pinned (OpenSpec.ofChange Rows.fnConsoleSpec) :=
 OpenClaim.holds_of_wide 3 Tryz.f3 rfl rfl rfl rfl rfl rfl rfl ⟨rfl,rfl,rfl,rfl,rfl⟩ rfl rfl rfl rfl rfl (by kernel_rfl) Tryz.func3 (by kernel_rfl)
  (of_decide_eq_true (by kernel_rfl)) (by unfold Func.isWrapper;first|(rw[if_pos (by decide +kernel)];kernel_rfl)|(rw[if_neg (by decide +kernel)];exact⟨rfl,rfl⟩))
  (fun os started H enc _=>AGy os started H enc)
theorem proved:Rows.FnConsoleCardSaid :=
 Claim7.holds_tied_plain_at .later [] [.data,.data,.data,.data,.sentinel,.sentinel,.pinned] true (true,"cd40a5842d8a3564505fcc0ea783b5fd73df2b434e30f7e914b4a949b68f0602") true
  ABp (fun _ h=>by cases h) (by kernel_rfl) (fun _ h=>by cases h) fnConsole_row_tie rfl ⟨rfl,rfl⟩ (by kernel_rfl) rfl
  (fun f fn hf hfn=>by
   obtain rfl:f=3:=Option.some.inj ((show Tryz.prog.funcNamed Rows.fnConsoleRow.func=some 3 by kernel_rfl).symm.trans hf) |>.symm;obtain rfl:fn=Tryz.f3:=(Option.some.inj (Tryz.func3.symm.trans hfn)).symm
   exact⟨by kernel_rfl,fun j t ht=>by
    rw[Tryz.params3] at ht;have hm:t∈[22]:=by simpa using Array.mem_of_getElem? ht
    have hall:([22].all fun u=>!Tryz.prog.wantsStandIn u)=true:=by kernel_rfl
    exact (show Tryz.prog.wantsStandIn t=false by simpa using List.all_eq_true.1 hall t hm)⟩)
  (by kernel_rfl)
end Go.Proofs.YteaicgcfpcklkaaGreatDoor.fnConsole
