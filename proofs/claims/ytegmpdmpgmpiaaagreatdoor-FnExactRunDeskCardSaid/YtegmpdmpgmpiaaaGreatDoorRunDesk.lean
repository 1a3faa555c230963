/- The statement FnExactRunDesk: for every input the law returns true, and each argument reads as it did. No condition. -/
import Derived.Test.YtegmpdmpgmpiaaaGreatDoorPH
import Derived.Test.YtegmpdmpgmpiaaaGreatDoorPF
import Derived.Test.YtegmpdmpgmpiaaaGreatDoorP5
import Derived.Test.YtegmpdmpgmpiaaaGreatDoorCards
import Derived.Test.YtegmpdmpgmpiaaaGreatDoorTie
import Derived.LaidMore
import Derived.Lay
import Derived.OpenShut
import Derived.Stop.Joined
import Derived.SevenTiedAt
import Derived.WalkKit
open Go.Proofs.Tryz renaming prog->a1,f3->a7,func3->ad,checked->ao,underlying4->au,params3->av
open Inhabited renaming default->a6
set_option linter.defProp false
set_option linter.unusedSimpArgs false
set_option linter.unusedVariables false
namespace Go.Proofs.YtegmpdmpgmpiaaaGreatDoor.fnExactRunDesk
open Go Go.ChangeShapes Go.WideShapes Go.ChangeAt Go.RowKit
theorem own:ownKnob a1.godebug=none:=by kernel_rfl
theorem laid:laidOutB a1=true:=by kernel_rfl
theorem sh0:Rf a1 uq.sh (.inl 9)=true:=by kernel_rfl
theorem rec9:a1.readableRec 9=true:=by kernel_rfl
theorem in9:9<Tryz.prog.types.size:=of_decide_eq_true (by kernel_rfl)
set_option maxRecDepth 100000 in
theorem AFZ{W:World}(C:W.ShapedOpen a1)(h:laidMetH a1 Rows.fnExactRunDeskRow.laid W):GT (fun _=>False) W:=by
 rw[MakeChecks.laidMetH_plain _ _ _ (by kernel_rfl)] at h;have e:(Rows.fnExactRunDeskRow.laid).filter (fun x=>x.1==(a1.globals.getD 3 a6).name)=[((a1.globals.getD 3 a6).name,Lib.tabData .u64 Lib.pow10Tab)]:=by kernel_rfl
 have h2:=laidMet.filter (fun x=>x.1==(a1.globals.getD 3 a6).name) h;rw[e] at h2;have o:(Rows.fnExactRunDeskRow.laid).filter (fun x=>x.1==(a1.globals.getD 1 a6).name)=[((a1.globals.getD 1 a6).name,Rows.laid_strconv_ErrSyntax)]:=by kernel_rfl
 have i:=laidMet.filter (fun x=>x.1==(a1.globals.getD 1 a6).name) h;rw[o] at i;have p:(Rows.fnExactRunDeskRow.laid).filter (fun x=>x.1==(a1.globals.getD 2 a6).name)=[((a1.globals.getD 2 a6).name,Rows.laid_strconv_ErrRange)]:=by kernel_rfl
 have j:=laidMet.filter (fun x=>x.1==(a1.globals.getD 2 a6).name) h;rw[p] at j;exact uw C (Lib.tabIs_of_head (g:=3) (t:=280) (e:=253) (n:=20) (by kernel_rfl) (by kernel_rfl) Tryz.underlying280 Tryz.underlying253 (by kernel_rfl) (by kernel_rfl) h2) (Wm (g:=1) i (by kernel_rfl) (by kernel_rfl)) (Wm (g:=2) j (by kernel_rfl) (by kernel_rfl))
set_option maxRecDepth 100000 in
theorem AGS(os:Os)(g:os.Started)(H:Type)(enc:TypeId×Value->H):
  ReturnsInHanded {} ao os 3 .any (fun w args=>(Rows.fnExactRunDeskSpec.pre enc a1 a7 [] false w args∧laidMetH a1 Rows.fnExactRunDeskRow.laid w)∧sizedMet enc a1 a7 (OpenSpec.ofChange Rows.fnExactRunDeskSpec) false w args) (Rows.fnExactRunDeskSpec.post enc a1 a7 false true false false):=by
 refine Ui (C:=ao) (X:=fun w _=>laidMetH a1 Rows.fnExactRunDeskRow.laid w) (fun _ _ _ hh h=>h.of_heap hh) own g (by kernel_rfl) ad
  (ChangeSpec.witness_shaped (enc:=enc) (C:=ao) (os:=os) (X:=fun w _=>laidMetH a1 Rows.fnExactRunDeskRow.laid w) false (World.laidAll a1 os Rows.fnExactRunDeskRow.laid) #[.string ⟨#[]⟩] 8 (World.laidAll_os _ _ _) (World.shaped_of_ZipB (by kernel_rfl) (by kernel_rfl)) (by kernel_rfl) (by kernel_rfl) (by kernel_rfl)
   (by rw[MakeChecks.laidMetH_plain _ _ _ (by kernel_rfl)];exact laidMet_laidAll _ (by kernel_rfl) (by kernel_rfl))) ?_
 intro W base args ds gs T i hW hL aa;have o:∀ (j:Nat) t v,a7.params[j]? = some t->args[j]? = some v->Value.okWide a1 W .any base t v:=i;have J:=hW;have ab:=J.lt;obtain⟨p,q,P,hV,rfl,a8,a5⟩:=hW;have hA:DataW.TrodAll enc a1 W 0 (fun _=>true) true a7.params.toList args.toList ds p:=P;rw[av] at hA o;obtain⟨v0,ay,d0,bv,p0,q0,R,aj,ae,h0,r0⟩:=trodAll_cons hA;obtain⟨na,nb,nc⟩:=trodAll_nil r0;subst na nb nc;subst aj ae;obtain⟨ga,gb⟩:=trodVars_none hV;subst ga gb
 have I:args = #[v0]:=by
  have:args.toList=[v0]:=by simp_all
  cases args;simp_all
 subst I;obtain⟨x0,z0,w0⟩:=AIH uq sh0 (o 0 9 v0 rfl rfl) h0;clear hA P i;refine (wh QZ ad rfl (by decide +kernel) (args:=[uq.f x0]) (vargs:=#[v0]) rfl (by rw[Qf];rfl) rfl (fun j hj=>?_) (AFZ aa hL) (QO (kT))).mono fun e W' ⟨he,hs⟩=>?_
 ·have ac:j<1:=by simpa using hj
  match j,ac with
  | 0,_=>exact z0
 subst he;refine⟨_,rfl,sX (pa:=p0++[]) (pv:=[]) J hs (fun _ _ _=>(trodAll_cons_mk (shut_bool au _) trodAll_mk0)) (fun sp U=>?_) (fun _ _=>rfl) ?_ (ok_one (by kernel_rfl) rfl (okWide_bool_mk au _))⟩
 ·exact (trodAll_cons_mk (AJI laid rec9 in9 hs h0 (fun p hp=>by simp[hp]) ab U) trodAll_mk0)
 ·simp
theorem AFv:Rows.fnExactRunDeskRow.holds Tryz.pinned (OpenSpec.ofChange Rows.fnExactRunDeskSpec) :=
 OpenClaim.holds_of_wide 3 a7 rfl rfl rfl rfl rfl rfl rfl ⟨rfl,rfl,rfl,rfl,rfl⟩ rfl rfl rfl rfl rfl (by kernel_rfl) ad (by kernel_rfl)
  (of_decide_eq_true (by kernel_rfl)) (by unfold Func.isWrapper;first|(rw[if_pos (by decide +kernel)];kernel_rfl)|(rw[if_neg (by decide +kernel)];exact⟨rfl,rfl⟩))
  (fun os g H enc _=>AGS os g H enc)
theorem proved:Rows.FnExactRunDeskCardSaid :=
 Claim7.holds_tied_plain_at .later [] [.data,.data,.data,.data,.sentinel,.sentinel,.pinned] true (true,"973b580ce5c65ca494aa8476b30fa49a4a5ffe9952cf451b454cda01b1b40243") true
  AFv (fun _ h=>by cases h) (by kernel_rfl) (fun _ h=>by cases h) fnExactRunDesk_row_tie rfl ⟨rfl,rfl⟩ (by kernel_rfl) rfl
  (fun f fn p i=>by
   obtain rfl:f=3:=Option.some.inj ((show a1.funcNamed Rows.fnExactRunDeskRow.func=some 3 by kernel_rfl).symm.trans p) |>.symm;obtain rfl:fn=Tryz.f3:=(Option.some.inj (ad.symm.trans i)).symm
   exact⟨by kernel_rfl,fun j t o=>by
    rw[av] at o;have hm:t∈[9]:=by simpa using Array.mem_of_getElem? o
    have g:([9].all fun u=>!Tryz.prog.wantsStandIn u)=true:=by kernel_rfl
    exact (show a1.wantsStandIn t=false by simpa using List.all_eq_true.1 g t hm)⟩)
  (by kernel_rfl)
end Go.Proofs.YtegmpdmpgmpiaaaGreatDoor.fnExactRunDesk
