/- The statement FnExactDeskCommand: for every input the law returns true, and each argument reads as it did. No condition. -/
import Derived.Test.YtegmpdmpgmpiaaaGreatDoorPX
import Derived.Test.YtegmpdmpgmpiaaaGreatDoorPF
import Derived.Test.YtegmpdmpgmpiaaaGreatDoorPY
import Derived.Test.YtegmpdmpgmpiaaaGreatDoorCards
import Derived.Test.YtegmpdmpgmpiaaaGreatDoorTie
import Derived.LaidMore
import Derived.Lay
import Derived.OpenShut
import Derived.Stop.Joined
import Derived.SevenTiedAt
import Derived.WalkKit
open Go renaming trodAll_cons_mk->b0,laidMetH->b6
open Go.Proofs.Tryz renaming prog->a8,f4->ay,checked->b1,func4->b3,underlying4->b5,params4->b7
open Inhabited renaming default->ax
set_option linter.unusedSimpArgs false
set_option linter.unusedVariables false
namespace Go.Proofs.YtegmpdmpgmpiaaaGreatDoor.fnExactDeskCommand
open Go Go.ChangeShapes Go.WideShapes Go.ChangeAt Go.RowKit
def qG:Ty Star:=⟨.st (.cons PB.sh (.cons Ml.sh (.cons Ml.sh (.cons Ml.sh (.cons Ml.sh (.nil)))))),AN,fun x=>PB.wf x.Name∧Ml.wf x.Ascend∧Ml.wf x.Decl∧Ml.wf x.Bright∧Ml.wf x.Faint,fun _=>rfl,fun cs h=>by
 obtain⟨l0,r0,rfl,h0,l1,r1,rfl,h1,l2,r2,rfl,h2,l3,r3,rfl,h3,l4,r4,rfl,h4,hn⟩:=h;cases hn
 obtain⟨I,rfl,w0⟩:=PB.fits _ h0;obtain⟨x1,rfl,U⟩:=Ml.fits _ h1;obtain⟨x2,rfl,w2⟩:=Ml.fits _ h2;obtain⟨C,rfl,R⟩:=Ml.fits _ h3;obtain⟨j,rfl,J⟩:=Ml.fits _ h4;exact⟨⟨I,x1,x2,C,j⟩,rfl,w0,U,w2,R,J⟩⟩
def Ts:Ty AA:=⟨.st (.cons Ml.sh (.cons PB.sh (.cons PB.sh (.cons Ml.sh (.cons qH.sh (.nil)))))),AC,fun x=>Ml.wf x.Time∧PB.wf x.Star∧PB.wf x.Observer∧Ml.wf x.Mag∧qH.wf x.Fainter,fun _=>rfl,fun cs h=>by
 obtain⟨l0,r0,rfl,h0,l1,r1,rfl,h1,l2,r2,rfl,h2,l3,r3,rfl,h3,l4,r4,rfl,h4,hn⟩:=h;cases hn
 obtain⟨I,rfl,w0⟩:=Ml.fits _ h0;obtain⟨x1,rfl,U⟩:=PB.fits _ h1;obtain⟨x2,rfl,w2⟩:=PB.fits _ h2;obtain⟨C,rfl,R⟩:=Ml.fits _ h3;obtain⟨j,rfl,J⟩:=qH.fits _ h4;exact⟨⟨I,x1,x2,C,j⟩,rfl,w0,U,w2,R,J⟩⟩
def zC:Ty Ad:=⟨.st (.cons (wF 5 qG).sh (.cons (wF 5 Ts).sh (.cons PB.sh (.nil)))),BC,fun x=>(wF 5 qG).wf x.Stars∧(wF 5 Ts).wf x.Estimates∧PB.wf x.Log,fun _=>rfl,fun cs h=>by
 obtain⟨l0,r0,rfl,U,l1,r1,rfl,R,l2,r2,rfl,h2,J⟩:=h;cases J
 obtain⟨j,rfl,I⟩:=(wF 5 qG).fits _ U;obtain⟨x1,rfl,C⟩:=(wF 5 Ts).fits _ R;obtain⟨x2,rfl,w2⟩:=PB.fits _ h2;exact⟨⟨j,x1,x2⟩,rfl,I,C,w2⟩⟩
theorem own:ownKnob a8.godebug=none:=o'
theorem laid:laidOutB a8=true:=o'
theorem sh0:Rw a8 zC.sh (.inl 27)=true:=o'
theorem sh1:Rw a8 PB.sh (.inl 9)=true:=o'
theorem rec9:a8.readableRec 9=true:=o'
theorem in9:9<Tryz.prog.types.size:=of_decide_eq_true o'
theorem AOV:a8.readableRec 27=true:=o'
theorem in27:27<Tryz.prog.types.size:=of_decide_eq_true o'
set_option maxRecDepth 100000 in
theorem AKN{W:World}(R:W.ShapedOpen a8)(h:b6 a8 Rows.fnExactDeskCommandRow.laid W):GT C' W:=by
 rw[MakeChecks.laidMetH_plain _ _ _ o'] at h;have e:(Rows.fnExactDeskCommandRow.laid).filter (fun x=>x.1==(a8.globals.getD 3 ax).name)=[((a8.globals.getD 3 ax).name,Lib.tabData .u64 Lib.pow10Tab)]:=o'
 have h2:=laidMet.filter (fun x=>x.1==(a8.globals.getD 3 ax).name) h;rw[e] at h2;have I:(Rows.fnExactDeskCommandRow.laid).filter (fun x=>x.1==(a8.globals.getD 1 ax).name)=[((a8.globals.getD 1 ax).name,Rows.laid_strconv_ErrSyntax)]:=o'
 have j:=laidMet.filter (fun x=>x.1==(a8.globals.getD 1 ax).name) h;rw[I] at j;have J:(Rows.fnExactDeskCommandRow.laid).filter (fun x=>x.1==(a8.globals.getD 2 ax).name)=[((a8.globals.getD 2 ax).name,Rows.laid_strconv_ErrRange)]:=o'
 have C:=laidMet.filter (fun x=>x.1==(a8.globals.getD 2 ax).name) h;rw[J] at C;exact zI R (Lib.tabIs_of_head (g:=3) (t:=280) (e:=253) (n:=20) o' o' Tryz.underlying280 Tryz.underlying253 o' o' h2) (YF (g:=1) j o' o') (YF (g:=2) C o' o')
set_option maxRecDepth 100000 in
theorem ALF(os:Os)(I:os.Started)(H:Type)(enc:TypeId×Value->H):
  ReturnsInHanded {} b1 os 4 .any (fun w args=>(Rows.fnExactDeskCommandSpec.pre enc a8 ay [] false w args∧b6 a8 Rows.fnExactDeskCommandRow.laid w)∧sizedMet enc a8 ay (OpenSpec.ofChange Rows.fnExactDeskCommandSpec) false w args) (Rows.fnExactDeskCommandSpec.post enc a8 ay false true false false):=by
 refine WA (C:=b1) (X:=fun w _=>b6 a8 Rows.fnExactDeskCommandRow.laid w) (fun _ _ _ hh h=>h.of_heap hh) own I o' b3
  (ChangeSpec.witness_shaped (enc:=enc) (C:=b1) (os:=os) (X:=fun w _=>b6 a8 Rows.fnExactDeskCommandRow.laid w) false (World.laidAll a8 os Rows.fnExactDeskCommandRow.laid) #[.agg #[.slice none 0 0,.slice none 0 0,.string ⟨#[]⟩],.string ⟨#[]⟩] 8 (World.laidAll_os _ _ _) (World.shaped_of_ZipB o' o') o' o' o'
   (by rw[MakeChecks.laidMetH_plain _ _ _ o'];exact laidMet_laidAll _ o' o')) ?_
 intro W base args ds gs before J hW hL au;have R:∀ (j:Nat) t v,ay.params[j]? = some t->args[j]? = some v->Value.okWide a8 W .any base t v:=J;have ad:=hW;have ab:=ad.lt;obtain⟨p,q,ae,hV,rfl,b4,b2⟩:=hW;have hA:DataW.TrodAll enc a8 W 0 (fun _=>true) true ay.params.toList args.toList ds p:=ae;rw[b7] at hA R;obtain⟨v0,bs,d0,ca,p0,q0,ao,a7,a6,h0,r0⟩:=trodAll_cons hA;obtain⟨v1,bo,d1,b9,p1,q1,aj,a1,az,h1,r1⟩:=trodAll_cons r0;obtain⟨na,nb,nc⟩:=trodAll_nil r1;subst na nb nc;subst a1 az;subst a7 a6;obtain⟨ga,gb⟩:=trodVars_none hV;subst ga gb
 have U:args = #[v0,v1]:=by
  have:args.toList=[v0,v1]:=by simp_all
  cases args;simp_all
 subst U;obtain⟨x0,z0,w0⟩:=ADW zC sh0 (R 0 27 v0 rfl rfl) h0;obtain⟨x1,z1,w1⟩:=ADW PB sh1 (R 1 9 v1 rfl rfl) h1;clear hA ae J;refine (dsk.law_calls z0 z1 w0 (AKN au hL)).mono fun e W' ⟨he,hs⟩=>?_
 subst he;refine⟨_,rfl,xE (pa:=p0++(p1++[])) (pv:=[]) ad hs (fun _ _ _=>(b0 (shut_bool b5 _) trodAll_mk0)) (fun sp aa=>?_) (fun _ _=>rfl) ?_ (ok_one o' rfl (okWide_bool_mk b5 _))⟩
 ·exact (b0 (AGv laid AOV in27 hs h0 (fun p hp=>by simp[hp]) ab aa) (b0 (AGv laid rec9 in9 hs h1 (fun p hp=>by simp[hp]) ab aa) trodAll_mk0))
 ·simp
theorem AEf:Rows.fnExactDeskCommandRow.holds Tryz.pinned (OpenSpec.ofChange Rows.fnExactDeskCommandSpec) :=
 OpenClaim.holds_of_wide 4 ay rfl rfl rfl rfl rfl rfl rfl ⟨rfl,rfl,rfl,rfl,rfl⟩ rfl rfl rfl rfl rfl o' b3 ALf
  (of_decide_eq_true o') (by unfold Func.isWrapper;first|(rw[if_pos z'];kernel_rfl)|(rw[if_neg z'];exact⟨rfl,rfl⟩))
  (fun os started H enc _=>ALF os started H enc)
theorem proved:Rows.FnExactDeskCommandCardSaid :=
 Claim7.holds_tied_plain_at .later [] [.data,.data,.data,.data,.sentinel,.sentinel,.pinned] true (true,"973b580ce5c65ca494aa8476b30fa49a4a5ffe9952cf451b454cda01b1b40243") true
  AEf (fun _ h=>by cases h) o' (fun _ h=>by cases h) fnExactDeskCommand_row_tie rfl ⟨rfl,rfl⟩ o' rfl
  (fun f fn R I=>by
   obtain rfl:f=4:=Option.some.inj ((show a8.funcNamed Rows.fnExactDeskCommandRow.func=some 4 by kernel_rfl).symm.trans R) |>.symm;obtain rfl:fn=Tryz.f4:=(Option.some.inj (b3.symm.trans I)).symm
   exact⟨o',fun j t J=>by
    rw[b7] at J;have hm:t∈[27,9]:=by simpa using Array.mem_of_getElem? J
    have C:([27,9].all fun u=>!Tryz.prog.wantsStandIn u)=true:=o'
    exact (show a8.wantsStandIn t=false by simpa using List.all_eq_true.1 C t hm)⟩)
  o'
end Go.Proofs.YtegmpdmpgmpiaaaGreatDoor.fnExactDeskCommand
