/- Lemmas. No condition. -/
import Derived.Shelf.Strings.OnBuilder
import Derived.Shelf.Small.Strs
import Derived.Shelf.Strings.BuilderK
import Derived.Shelf.Strconv.Itoa3
import Derived.Shelf.Strconv.ParseIntPublic10
import Derived.Shelf.Strings.Shaped
import Derived.Shelf.Strings.Prefix
import Derived.Shelf.Strings.Split
import Derived.Shelf.Unicode.DecodeSlow
import Derived.Shelf.SlicesG.Turned
import Derived.Test.YtegmpdmpgmpiaaaGreatDoorP3
import Derived.Stop.LaidErr
import Derived.HandedShaped
import Derived.LaidMore
open Go renaming World->bo,Calls->eL
open Go.Lib renaming parseIntB->b8,hid->ca,itoa->cf,count->cA,pow10Tab->e5,TabIs->ef,join->eg,split->gn,trimPrefix->hG
open Go.Proofs renaming enters_of->b1
open Go.Proofs.Tryz renaming prog->a',underlying9->b2,underlying4->b3,underlying3->b4,zeroValue9->b5,zeroValue4->b6,zeroValue3->b7,underlying0->b9,sizeOf9->bb,sizeOf4->be,sizeOf3->bh,zeroValue0->bs,isAgg9->bI,isAgg4->bN,isAgg3->bR,underlying20->bS,zeroValue20->bX,underlying5->b',zeroValue5->c7,sizeOf0->c8,underlying220->cc,underlying195->cd,zeroValue220->cl,zeroValue195->cm,isAgg0->cn,sizeOf20->ct,underlying2->cw,sizeOf5->cI,isAgg20->cS,zeroValue2->c',sizeOf220->dc,sizeOf195->df,isAgg5->dw,isAgg220->dT,isAgg195->dU,underlying52->e0,sizeOf2->e3,func101->e4,zeroValue52->e6,isAgg2->e7,sizeOf52->e8,ntmps101->e9,isAgg52->ea,func230->ed,underlying297->ej,underlying296->ek,underlying281->en,underlying280->eo,underlying267->et,underlying264->eu,underlying253->ev,underlying221->ew,zeroValue297->e',zeroValue296->fa,zeroValue280->fi,zeroValue267->fm,zeroValue264->fp,zeroValue253->fs,zeroValue221->fu,underlying96->fx,underlying56->fy,underlying44->fA,underlying33->fB,underlying21->fI,zeroValue96->f',zeroValue56->ga,zeroValue44->gb,zeroValue33->gf,zeroValue21->gk,sizeOf297->gr,sizeOf296->gu,sizeOf281->gv,sizeOf280->g',sizeOf267->h4,sizeOf264->h5,sizeOf253->h6,sizeOf221->h7,sizeOf96->h9,sizeOf56->hf,sizeOf44->hh,sizeOf33->hj,sizeOf21->hk,isAgg297->ho,isAgg296->hq,isAgg281->ht,isAgg280->hA,isAgg267->hB,isAgg264->hC,isAgg253->hD,isAgg221->hE,isAgg96->hH,isAgg56->hI,isAgg44->hJ,isAgg33->hK,isAgg21->hL,func293->hM,func292->hN,func287->hO,func286->hQ,func285->hR,func284->hS,func283->hV,func262->hW,func261->hY,func260->hZ,func259->ih,func222->ir,func221->ix,func197->iB,func196->iI,func170->iN,func149->iR,func148->iS,func147->iZ,func146->i',func97->j1,func96->j2,func25->j3
open List renaming mem_cons_self->bz,length_map->c6,map->cb,map_map->cB,mem_cons_of_mem->db,mem_cons->dx,getElem?_map->d'
open Option renaming some->b0,bind->h8,none->j0
set_option linter.defProp false
set_option linter.unusedSimpArgs false
set_option linter.unusedVariables false
set_option maxRecDepth 100000
set_option maxHeartbeats 2000000
namespace Go.Proofs
open YtegmpdmpgmpiaaaGreatDoor(F' n' o' p' x')
open Go.Shelf
def Tryz.lays145_ren:Go.Shelf.Ren:=⟨fun|145=>25|220=>55|219=>96|217=>146|225=>147|224=>148|267=>149|266=>196|314=>197|n=>n,fun|9=>9|4=>4|59=>59|3=>3|5=>5|46=>195|146=>221|51=>220|n=>n,fun|1=>0|n=>n⟩
def Tryz.lays145:Go.Proofs.Lays.n145 a' Tryz.lays145_ren:={
 mixed:=o'
 f145:=F' j3
 f217:=F' i'
 f219:=F' j2
 f220:=F' Tryz.func55
 f224:=F' iS
 f225:=F' iZ
 f266:=F' iI
 f267:=F' iR
 f314:=F' iB
 t3:=b4
 a3:=bR
 z3:=bh
 v3:=b7
 t4:=b3
 a4:=bN
 z4:=be
 v4:=b6
 t5:=b'
 a5:=dw
 z5:=cI
 v5:=c7
 t9:=b2
 a9:=bI
 z9:=bb
 v9:=b5
 t46:=cd
 a46:=dU
 z46:=df
 v46:=cm
 t51:=cc
 a51:=dT
 z51:=dc
 v51:=cl
 t59:=Tryz.underlying59
 a59:=Tryz.isAgg59
 z59:=Tryz.sizeOf59
 v59:=Tryz.zeroValue59
 t146:=ew
 a146:=hE
 z146:=h7
 v146:=fu
 g1:=by kernel_rfl }
def Tryz.lays146_ren:Go.Shelf.Ren:=⟨fun|146=>97|221=>150|268=>198|138=>199|143=>200|195=>239|197=>240|218=>241|219=>96|260=>266|217=>146|225=>147|224=>148|267=>149|266=>196|314=>197|n=>n,fun|9=>9|31=>33|3=>3|4=>4|0=>0|105=>250|21=>21|5=>5|46=>195|119=>283|139=>286|138=>285|146=>221|51=>220|n=>n,fun|1=>0|3=>4|4=>5|n=>n⟩
def Tryz.lays146:Go.Proofs.Lays.n146 a' Tryz.lays146_ren:={
 mixed:=o'
 f138:=F' Tryz.func199
 f143:=F' Tryz.func200
 f146:=F' j1
 f195:=F' Tryz.func239
 f197:=F' Tryz.func240
 f217:=F' i'
 f218:=F' Tryz.func241
 f219:=F' j2
 f221:=F' Tryz.func150
 f224:=F' iS
 f225:=F' iZ
 f260:=F' Tryz.func266
 f266:=F' iI
 f267:=F' iR
 f268:=F' Tryz.func198
 f314:=F' iB
 t0:=b9
 a0:=cn
 z0:=c8
 v0:=bs
 t3:=b4
 a3:=bR
 z3:=bh
 v3:=b7
 t4:=b3
 a4:=bN
 z4:=be
 v4:=b6
 t5:=b'
 a5:=dw
 z5:=cI
 v5:=c7
 t9:=b2
 a9:=bI
 z9:=bb
 v9:=b5
 t21:=fI
 a21:=hL
 z21:=hk
 v21:=gk
 t31:=fB
 a31:=hK
 z31:=hj
 v31:=gf
 t46:=cd
 a46:=dU
 z46:=df
 v46:=cm
 t51:=cc
 a51:=dT
 z51:=dc
 v51:=cl
 t105:=Tryz.underlying250
 a105:=Tryz.isAgg250
 z105:=Tryz.sizeOf250
 v105:=Tryz.zeroValue250
 t119:=Tryz.underlying283
 a119:=Tryz.isAgg283
 z119:=Tryz.sizeOf283
 t138:=Tryz.underlying285
 a138:=Tryz.isAgg285
 z138:=Tryz.sizeOf285
 v138:=Tryz.zeroValue285
 t139:=Tryz.underlying286
 a139:=Tryz.isAgg286
 z139:=Tryz.sizeOf286
 v139:=Tryz.zeroValue286
 t146:=ew
 a146:=hE
 z146:=h7
 v146:=fu
 g1:=o'
 g3:=o'
 g4:=by kernel_rfl }
end Go.Proofs
namespace Go.Proofs.YtegmpdmpgmpiaaaGreatDoor
open Go Go.RowKit
def iV{w:bo}(h:GT C' w):∃m,w.cell? ⟨0,0,j0⟩=b0 (.int .i64 m):=by
 obtain⟨_,cs,T,fz,C,m,hm⟩:=h (0,fun cs=>∃m,cs = #[.int .i64 m]) (by
  unfold mo
  repeat(first|exact bz|apply db))
 refine⟨m,?_⟩;have j:cs = #[.int .i64 m]:=hm;subst j;simp only[World.cell?,C];rfl
def AFh:Cd a' 25 RM:=by
 refine rP fun s p w j C=>?_
 obtain⟨m,hm⟩:=iV C;have he:=b1 (P:=a') j3 o' rfl;have I:=Any.strings_Cut Tryz.lays145 ⟨s.toArray⟩ ⟨p.toArray⟩ m w j hm;unfold DJ;rw[he];refine I.mono fun e w' ⟨J,n,h2⟩=>⟨J,?_⟩
 subst h2;exact⟨rfl,rfl,rfl,Nat.le_refl _,fun _ _ _=>rfl⟩
def Zl(s p:L8):(Lib.splitB ⟨p.toArray⟩ 0 (cA s p) ⟨s.toArray⟩).map Value.string=(gn s p).map fun l=>Value.string ⟨l.toArray⟩:=by
 have h:=Lib.splitB_data ⟨p.toArray⟩ 0 (cA s p) ⟨s.toArray⟩;have j:(Lib.splitB ⟨p.toArray⟩ 0 (cA s p) ⟨s.toArray⟩).map (·.data.toList)=gn s p:=h;rw[←j,cB];refine List.map_congr_left fun b _=>?_
 rfl
def xl:Cd a' 97 Nd:=by
 refine kV (T:=9) fun s p w C j I=>?_
 obtain⟨m,hm⟩:=iV I;have he:=b1 (P:=a') j1 o' rfl;have J:=Any.strings_Split Tryz.lays146 o' ⟨s.toArray⟩ ⟨p.toArray⟩ m w C hm j;unfold DJ;rw[he]
 have hlen:cA s p+1=(gn s p).length:=by
  have:=Lib.splitB_all ⟨p.toArray⟩ j 0 (cA s p) ⟨s.toArray⟩ rfl;rw[←this,←c6 (f:=Value.string),Zl,c6]
 refine J.mono fun e w' ⟨R,h2⟩=>⟨?_,?_⟩
 .rw[R];show Ending.returned (.slice _ (cA s p+1) (cA s p+1))=_;rw[hlen]
 .rw[h2,←Zl];rfl
end Go.Proofs.YtegmpdmpgmpiaaaGreatDoor
namespace Go.Proofs
open YtegmpdmpgmpiaaaGreatDoor(F' n' o' p' x')
open Go.Shelf
def Tryz.laysM246_ren:Go.Shelf.Ren:=⟨fun|246=>230|283=>259|284=>260|285=>261|286=>262|129=>284|317=>283|318=>285|319=>286|320=>287|337=>292|338=>293|n=>n,fun|2=>2|3=>3|9=>9|4=>4|171=>264|0=>0|53=>253|37=>52|5=>5|173=>267|212=>280|51=>220|20=>20|213=>281|46=>195|232=>296|233=>297|n=>n,fun|17=>3|18=>6|19=>7|n=>n⟩
def Tryz.laysM246:Go.Proofs.LaysM.n246 a' Tryz.laysM246_ren:={
 mixed:=o'
 f129:=F' hS
 f246:=F' ed
 f283:=F' ih
 f284:=F' hZ
 f285:=F' hY
 f286:=F' hW
 f317:=F' hV
 f318:=F' hR
 f319:=F' hQ
 f320:=F' hO
 f337:=F' hN
 f338:=F' hM
 t0:=b9
 a0:=cn
 z0:=c8
 v0:=bs
 t2:=cw
 a2:=e7
 z2:=e3
 v2:=c'
 t3:=b4
 a3:=bR
 z3:=bh
 v3:=b7
 t4:=b3
 a4:=bN
 z4:=be
 v4:=b6
 t5:=b'
 a5:=dw
 z5:=cI
 v5:=c7
 t9:=b2
 a9:=bI
 z9:=bb
 v9:=b5
 t20:=bS
 a20:=cS
 z20:=ct
 v20:=bX
 t37:=e0
 a37:=ea
 z37:=e8
 v37:=e6
 t46:=cd
 a46:=dU
 z46:=df
 v46:=cm
 t51:=cc
 a51:=dT
 z51:=dc
 v51:=cl
 t53:=ev
 a53:=hD
 z53:=h6
 v53:=fs
 t171:=eu
 a171:=hC
 z171:=h5
 v171:=fp
 t173:=et
 a173:=hB
 z173:=h4
 v173:=fm
 t212:=eo
 a212:=hA
 z212:=g'
 v212:=fi
 t213:=en
 a213:=ht
 z213:=gv
 t232:=ek
 a232:=hq
 z232:=gu
 v232:=fa
 t233:=ej
 a233:=ho
 z233:=gr
 v233:=e'
 g17:=o'
 g18:=o'
 g19:=o'
 i0:=o'
 i2:=o'
 i3:=o'
 i4:=o'
 i5:=o'
 i9:=o'
 i20:=o'
 i37:=o'
 i46:=o'
 i51:=o'
 i53:=o'
 i171:=o'
 i173:=o'
 i212:=o'
 i232:=o'
 i233:=o'
 m17:=o'
 m18:=o'
 m19:=by kernel_rfl }
end Go.Proofs
namespace Go.Proofs.YtegmpdmpgmpiaaaGreatDoor
open Go Go.RowKit
theorem iH(w:bo)(k:Nat)(os:Array Obj):AD C' w (Go.Sort.grow (w.drewN k) os) where
 os:=rfl
 tape:=rfl
 output:=rfl
 size:=by
  show w.heap.size<=(w.heap++os).size;simp
 block:=fun b hb _=>by
  show(w.heap++os)[b]? = w.heap[b]?
  rw[Array.getElem?_append_left hb]
def AFf:Cd a' 230 RL:=by
 refine rO fun n w h0 U I=>?_
 have he:=b1 (P:=a') ed o' rfl
 have J:=Any.internal_strconv_FormatInt_10 Tryz.laysM246 n h0 U w (by
  unfold ef World.var?;rw[Tryz.laysM246.m17];unfold GT mo at I;obtain⟨_,cs,T,fz,C,j⟩:=I _ (bz);simp only at C j;subst j;show h8 (b0 3) _=_;simp only[obS,C];rw[e5,cB];rfl)
 unfold DJ;rw[he];refine J.mono fun e w' ⟨h2,k,os,R⟩=>⟨h2,?_⟩
 subst R;exact iH w k os
end Go.Proofs.YtegmpdmpgmpiaaaGreatDoor
namespace Go.Proofs
open YtegmpdmpgmpiaaaGreatDoor(F' n' o' p' x')
open Go.Shelf
def Tryz.lays156_ren:Go.Shelf.Ren:=⟨fun|156=>170|165=>229|166=>24|169=>28|240=>54|241=>258|276=>95|277=>282|n=>n,fun|31=>33|9=>9|3=>3|4=>4|0=>0|20=>20|72=>54|76=>57|70=>51|37=>52|75=>56|127=>96|164=>149|5=>5|80=>64|n=>n,fun|n=>n⟩
def Tryz.lays156:Go.Proofs.Lays.n156 a' Tryz.lays156_ren:={
 mixed:=o'
 f156:=F' iN
 f165:=F' Tryz.func229
 f166:=F' Tryz.func24
 f169:=F' Tryz.func28
 f240:=F' Tryz.func54
 f241:=F' Tryz.func258
 f276:=F' Tryz.func95
 f277:=F' Tryz.func282
 t0:=b9
 a0:=cn
 z0:=c8
 v0:=bs
 t3:=b4
 a3:=bR
 z3:=bh
 v3:=b7
 t4:=b3
 a4:=bN
 z4:=be
 v4:=b6
 t9:=b2
 a9:=bI
 z9:=bb
 v9:=b5
 t20:=bS
 a20:=cS
 z20:=ct
 v20:=bX
 t31:=fB
 a31:=hK
 z31:=hj
 v31:=gf
 t37:=e0
 a37:=ea
 z37:=e8
 v37:=e6
 t70:=Tryz.underlying51
 a70:=Tryz.isAgg51
 z70:=Tryz.sizeOf51
 v70:=Tryz.zeroValue51
 t72:=Tryz.underlying54
 a72:=Tryz.isAgg54
 z72:=Tryz.sizeOf54
 v72:=Tryz.zeroValue54
 t75:=fy
 a75:=hI
 z75:=hf
 v75:=ga
 t76:=Tryz.underlying57
 a76:=Tryz.isAgg57
 z76:=Tryz.sizeOf57
 v76:=Tryz.zeroValue57
 t127:=fx
 a127:=hH
 z127:=h9
 v127:=f'
 t164:=Tryz.underlying149
 a164:=Tryz.isAgg149
 z164:=Tryz.sizeOf149
 v164:=Tryz.zeroValue149 }
end Go.Proofs
namespace Go.Proofs.YtegmpdmpgmpiaaaGreatDoor
open Go Go.RowKit
def pD:Builder.Extra a' Tryz.lays156_ren where
 sizeBuilder:=o'
 liesBuilder:=o'
 t5:=b'
 a5:=dw
 z5:=cI
 v5:=c7
 infoByte:=o'
 cellsByte:=o'
 sizeByte:=o'
 neB5:=x'
def bC{args:List AV}(h:(SN args).ok=true):∃sz l p,l.length<=1048576/\(eg l p).length<=140737488355328/\args=[.sl sz (cb AV.str l),.str p]/\(SN args).r = .str (eg l p):=by
 unfold SN at h;split at h
 .rename_i sz els p;split at h
  .rename_i l j;have h:=Bool.and_eq_true_iff.1 h;refine⟨sz,l,p,of_decide_eq_true h.1,of_decide_eq_true h.2,by rw[hU j],?_⟩;simp only[SN,j]
  .cases h
 .cases h
def ABJ:Cd a' 170 Lj:=by
 refine⟨fun _=>rfl,fun F g0 w args vargs a8 ao aa R=>⟨fun _=>?_,?_⟩⟩
 .obtain⟨sz,l,p,_,_,rfl,hr⟩:=bC R;show PP (SN _).r=true;rw[hr];rfl
 .obtain⟨sz,l,p,hl,hlen,rfl,hr⟩:=bC R;have h0:=Hw aa (i:=0) p';have h1:=Hw aa (i:=1) p';rw[OG ao];generalize vargs.getD 0 undef=x at h0;generalize vargs.getD 1 undef=y at h1;have h0:VR _ w x (.sl sz (cb AV.str l)):=h0;have h1:VR _ w y (.str p):=h1;cases h1
  have done:∀e w',e = .returned (.string ⟨(eg l p).toArray⟩)->AD C' w w'->∃v g ob κ,e=Ending.returned v/\fH F g0 [.sl sz (cb AV.str l),.str p] Lj.modes w v w' (Lj.F [.sl sz (cb AV.str l),.str p]).r (Lj.F [.sl sz (cb AV.str l),.str p]).outs g ob κ:=by
   intro e w' he hs;refine⟨_,g0,[],id,he,?_⟩;have au:(Lj.F [.sl sz (cb AV.str l),.str p]).r = .str (eg l p):=hr;rw[au];exact Mf hs .str (fun i hi=>absurd hi.2 Bool.false_ne_true) (AGU rfl)
  cases h0 with
  | @sl a n cap _ _ b off rd hn ab a6 ha hc hw hv=>
   have ay:n=l.length:=by simpa using hn
   subst ay;have he:=b1 (P:=a') iN o' rfl;unfold DJ;rw[he];cases l with
   | nil=>
    refine(Any.strings_Join_none Tryz.lays156 pD a cap ⟨p.toArray⟩ w).mono fun e w' ⟨h2,C⟩=>?_
    subst C;exact done e w' h2 (AD.refl _ _)
   | cons s r=>
    obtain⟨rfl,hs⟩:=ha p'
    have one:∀i,i<(s::r).length->(cb AV.str (s::r)).getD i .any = .str ((s::r).getD i []):=fun i hi=>by
     rw[gdE,d',gdE,geE hi];rfl
    have J:sz=1:=by
     have:=(hc 0 p').1;rw[one 0 p']at this;exact this.symm
    subst J
    have cell:∀i,i<(s::r).length->w.cell? ⟨b,off+i,j0⟩=b0 (.string ⟨((s::r).getD i []).toArray⟩):=fun i hi=>by
     have h2:=hw i 0 (by simpa using hi) n';have C:=hv i 0 (by simpa using hi) n';rw[one i hi]at C;rw[Nat.mul_one,Nat.add_zero]at h2;have C:VR _ w (rd i 0) (.str ((s::r).getD i [])):=C;generalize rd i 0=u at h2 C;cases C
     exact h2
    have hb:b<w.heap.size:=World.block_lt_of_cell? w _ (cell 0 p')
    have hd:((s::r).map fun l=>(⟨l.toArray⟩:ByteArray)).map (·.data.toList)=s::r:=by
     rw[cB];have:((fun x:ByteArray=>x.data.toList) ∘ fun l:L8=>(⟨l.toArray⟩:ByteArray))=id:=by funext l;simp
     rw[this,List.map_id]
    have ad:=Any.strings_Join Tryz.lays156 pD b off cap ((s::r).map fun l=>(⟨l.toArray⟩:ByteArray)) ⟨p.toArray⟩ w (fun j x I=>by
     rw[d']at I;cases U:(s::r)[j]? with
     |none=>rw[U]at I;cases I
     | some t=>
      rw[U]at I;cases I
      have az:j<(s::r).length:=by
       rcases Nat.lt_or_ge j (s::r).length with h' |h'
       .exact h'
       .rw[List.getElem?_eq_none h']at U;cases U
      rw[cell j az,gdE,U];rfl) hb (by rw[c6];omega) (by rw[c6];exact ab) (by rw[hd];simpa using hlen)
    rw[hd,c6]at ad;refine ad.mono fun e w' ⟨h2,C⟩=>done e w' ?_ ⟨C.os,C.tape,C.output,C.size,fun b hb _=>C.block b hb⟩
    rw[h2]
end Go.Proofs.YtegmpdmpgmpiaaaGreatDoor
namespace Go.Proofs
open YtegmpdmpgmpiaaaGreatDoor(F' n' o' p' x')
open Go.Shelf
def Tryz.lMaxI_ren:Go.Shelf.Ren:=⟨fun|37=>221|n=>n,fun|22=>44|23=>2|3=>3|4=>4|9=>9|20=>20|0=>0|n=>n,fun|n=>n⟩
def Tryz.lMaxI:Go.Proofs.SlLaysN.n37 a' Tryz.lMaxI_ren:={
 mixed:=o'
 f37:=⟨Tryz.f221.name,x',F' ix⟩
 t0:=b9
 a0:=cn
 z0:=c8
 v0:=bs
 t3:=b4
 a3:=bR
 z3:=bh
 v3:=b7
 t4:=b3
 a4:=bN
 z4:=be
 v4:=b6
 t9:=b2
 a9:=bI
 z9:=bb
 v9:=b5
 t20:=bS
 a20:=cS
 z20:=ct
 v20:=bX
 t22:=fA
 a22:=hJ
 z22:=hh
 v22:=gb
 t23:=cw
 a23:=e7
 z23:=e3
 v23:=c' }
def Tryz.lMinI_ren:Go.Shelf.Ren:=⟨fun|39=>222|n=>n,fun|22=>44|23=>2|3=>3|4=>4|9=>9|20=>20|0=>0|n=>n,fun|n=>n⟩
def Tryz.lMinI:Go.Proofs.SlLaysN.n39 a' Tryz.lMinI_ren:={
 mixed:=o'
 f39:=⟨Tryz.f222.name,x',F' ir⟩
 t0:=b9
 a0:=cn
 z0:=c8
 v0:=bs
 t3:=b4
 a3:=bR
 z3:=bh
 v3:=b7
 t4:=b3
 a4:=bN
 z4:=be
 v4:=b6
 t9:=b2
 a9:=bI
 z9:=bb
 v9:=b5
 t20:=bS
 a20:=cS
 z20:=ct
 v20:=bX
 t22:=fA
 a22:=hJ
 z22:=hh
 v22:=gb
 t23:=cw
 a23:=e7
 z23:=e3
 v23:=c' }
end Go.Proofs
namespace Go.Proofs.YtegmpdmpgmpiaaaGreatDoor
open Go Go.RowKit
def nj{f:FuncId}{c:Ao}{op:List Int->Int}(hF:c.F=ec op)(hm:c.modes=[.bor])(he:∀args w,(callFunc f args).run a' w = .ok (.enter f args) w)
  (hc:∀(b off n k:Nat) (R:List Int) (w:bo),0<n->n<=R.length->n<=9223372036854775807->(∀j,j<R.length->w.cell? ⟨b,off+j,j0⟩=b0 (.int .i64 (R.getD j 0))) ->
   eL a' f #[.slice (b0 ⟨b,off,j0⟩) n k] w fun e w'=>e = .returned (.int .i64 (op (R.take n)))/\w'=w):Cd a' f c:=by
 refine⟨fun _=>by rw[hm];rfl,fun F g0 w args vargs a6 ab aj C=>⟨fun _=>?_,?_⟩⟩
 .rw[hF]at C ⊢;obtain⟨sz,l,_,_,rfl,hr⟩:=tU C;rw[hr];rfl
 .rw[hF]at C ⊢;obtain⟨sz,l,U,hl,rfl,hr⟩:=tU C;rw[hr];have h0:=Hw aj (i:=0) p';rw[Pm ab];generalize vargs.getD 0 undef=x at h0;have h0:VR _ w x (.sl sz (cb (AV.int .i64) l)):=h0;cases h0 with
  | @sl a n cap _ _ b off rd hn ax au ha ao hw hv=>
   have ae:n=l.length:=by simpa using hn
   subst ae;obtain⟨rfl,hs⟩:=ha (by simpa using U)
   have one:∀i,i<l.length->(cb (AV.int .i64) l).getD i .any = .int .i64 (l.getD i 0):=fun i hi=>by
    rw[gdE,d',gdE,geE hi];rfl
   have J:sz=1:=by
    have:=(ao 0 (by simpa using U)).1;rw[one 0 U]at this;exact this.symm
   subst J;unfold DJ;rw[he]
   have h1:=hc b off l.length cap l w U (Nat.le_refl _) hl (fun i hi=>by
    have h2:=hw i 0 (by simpa using hi) n';have I:=hv i 0 (by simpa using hi) n';rw[one i hi]at I;rw[Nat.mul_one,Nat.add_zero]at h2;have I:VR _ w (rd i 0) (.int .i64 (l.getD i 0)):=I;generalize rd i 0=u at h2 I;cases I
    exact h2)
   rw[List.take_length]at h1;refine h1.mono fun e w' ⟨h2,I⟩=>?_
   subst I;exact⟨_,g0,[],id,h2,Mf (AD.refl _ _) .int (fun i hi=>absurd hi.2 Bool.false_ne_true) (yc hm)⟩
def ABI:Cd a' 221 RK :=
 nj (op:=Lib.maxOf) rfl rfl (b1 (P:=a') ix o' rfl) fun b off n k j w=>AnyG.slices_Max_int Tryz.lMaxI b off n k j w
def ABH:Cd a' 222 PU :=
 nj (op:=Lib.minOf) rfl rfl (b1 (P:=a') ir o' rfl) fun b off n k j w=>AnyG.slices_Min_int Tryz.lMinI b off n k j w
end Go.Proofs.YtegmpdmpgmpiaaaGreatDoor
namespace Go.Proofs
open YtegmpdmpgmpiaaaGreatDoor(F' n' o' x')
open Go.Shelf
def Tryz.lays101_ren:Go.Shelf.Ren:=⟨fun|101=>152|208=>201|206=>205|n=>n,fun|9=>9|4=>4|3=>3|n=>n,fun|n=>n⟩
def Tryz.lays101:Go.Proofs.Lays.n101 a' Tryz.lays101_ren:={
 mixed:=o'
 f101:=F' Tryz.func152
 f206:=F' Tryz.func205
 f208:=F' Tryz.func201
 t3:=b4
 a3:=bR
 z3:=bh
 v3:=b7
 t4:=b3
 a4:=bN
 z4:=be
 v4:=b6
 t9:=b2
 a9:=bI
 z9:=bb
 v9:=b5 }
def Tryz.laysC174_ren:Go.Shelf.Ren:=⟨fun|174=>153|247=>202|245=>203|287=>242|279=>243|280=>244|281=>245|282=>246|321=>267|322=>268|316=>269|171=>271|205=>270|243=>288|246=>230|283=>259|284=>260|285=>261|286=>262|129=>284|317=>283|318=>285|319=>286|320=>287|337=>292|338=>293|n=>n,fun|9=>9|3=>3|2=>2|75=>56|85=>199|4=>4|167=>252|5=>5|53=>253|175=>254|46=>195|168=>256|37=>52|0=>0|210=>272|21=>21|127=>96|145=>289|143=>287|171=>264|173=>267|212=>280|51=>220|20=>20|213=>281|232=>296|233=>297|80=>64|n=>n,fun|15=>1|16=>2|17=>3|18=>6|19=>7|n=>n⟩
def Tryz.laysC174:Go.Proofs.LaysC.n174 a' Tryz.laysC174_ren:={
 mixed:=o'
 f129:=F' hS
 f171:=F' Tryz.func271
 f174:=F' Tryz.func153
 f205:=F' Tryz.func270
 f243:=F' Tryz.func288
 f245:=F' Tryz.func203
 f246:=F' ed
 f247:=F' Tryz.func202
 f279:=F' Tryz.func243
 f280:=F' Tryz.func244
 f281:=F' Tryz.func245
 f282:=F' Tryz.func246
 f283:=F' ih
 f284:=F' hZ
 f285:=F' hY
 f286:=F' hW
 f287:=F' Tryz.func242
 f316:=F' Tryz.func269
 f317:=F' hV
 f318:=F' hR
 f319:=F' hQ
 f320:=F' hO
 f321:=F' Tryz.func267
 f322:=F' Tryz.func268
 f337:=F' hN
 f338:=F' hM
 t0:=b9
 a0:=cn
 z0:=c8
 v0:=bs
 t2:=cw
 a2:=e7
 z2:=e3
 v2:=c'
 t3:=b4
 a3:=bR
 z3:=bh
 v3:=b7
 t4:=b3
 a4:=bN
 z4:=be
 v4:=b6
 t5:=b'
 a5:=dw
 z5:=cI
 v5:=c7
 t9:=b2
 a9:=bI
 z9:=bb
 v9:=b5
 t20:=bS
 a20:=cS
 z20:=ct
 v20:=bX
 t21:=fI
 a21:=hL
 z21:=hk
 v21:=gk
 t37:=e0
 a37:=ea
 z37:=e8
 v37:=e6
 t46:=cd
 a46:=dU
 z46:=df
 v46:=cm
 t51:=cc
 a51:=dT
 z51:=dc
 v51:=cl
 t53:=ev
 a53:=hD
 z53:=h6
 v53:=fs
 t75:=fy
 a75:=hI
 z75:=hf
 v75:=ga
 t85:=Tryz.underlying199
 a85:=Tryz.isAgg199
 z85:=Tryz.sizeOf199
 v85:=Tryz.zeroValue199
 t127:=fx
 a127:=hH
 z127:=h9
 v127:=f'
 t143:=Tryz.underlying287
 a143:=Tryz.isAgg287
 z143:=Tryz.sizeOf287
 v143:=Tryz.zeroValue287
 t145:=Tryz.underlying289
 a145:=Tryz.isAgg289
 z145:=Tryz.sizeOf289
 v145:=Tryz.zeroValue289
 t167:=Tryz.underlying252
 a167:=Tryz.isAgg252
 z167:=Tryz.sizeOf252
 v167:=Tryz.zeroValue252
 t168:=Tryz.underlying256
 a168:=Tryz.isAgg256
 z168:=Tryz.sizeOf256
 v168:=Tryz.zeroValue256
 t171:=eu
 a171:=hC
 z171:=h5
 v171:=fp
 t173:=et
 a173:=hB
 z173:=h4
 v173:=fm
 t175:=Tryz.underlying254
 a175:=Tryz.isAgg254
 z175:=Tryz.sizeOf254
 v175:=Tryz.zeroValue254
 t210:=Tryz.underlying272
 a210:=Tryz.isAgg272
 z210:=Tryz.sizeOf272
 v210:=Tryz.zeroValue272
 t212:=eo
 a212:=hA
 z212:=g'
 v212:=fi
 t213:=en
 a213:=ht
 z213:=gv
 t232:=ek
 a232:=hq
 z232:=gu
 v232:=fa
 t233:=ej
 a233:=ho
 z233:=gr
 v233:=e'
 g15:=o'
 g16:=o'
 g17:=o'
 g18:=o'
 g19:=o'
 t80:=Tryz.underlying64
 a80:=Tryz.isAgg64
 z80:=Tryz.sizeOf64
 v80:=Tryz.zeroValue64
 i0:=o'
 i2:=o'
 i3:=o'
 i4:=o'
 i5:=o'
 i9:=o'
 i20:=o'
 i21:=o'
 i37:=o'
 i46:=o'
 i51:=o'
 i53:=o'
 i75:=o'
 i80:=o'
 i85:=o'
 i127:=o'
 i143:=o'
 i145:=o'
 i167:=o'
 i168:=o'
 i171:=o'
 i173:=o'
 i175:=o'
 i210:=o'
 i212:=o'
 i232:=o'
 i233:=o'
 m15:=o'
 m16:=o'
 m17:=o'
 m18:=o'
 m19:=o'
 c0:=o'
 c2:=o'
 c3:=o'
 c4:=o'
 c5:=o'
 c9:=o'
 c20:=o'
 c21:=o'
 c37:=o'
 c46:=o'
 c51:=o'
 c53:=o'
 c75:=o'
 c80:=o'
 c85:=o'
 c127:=o'
 c143:=o'
 c145:=o'
 c167:=o'
 c168:=o'
 c171:=o'
 c173:=o'
 c175:=o'
 c210:=o'
 c212:=o'
 c213:=o'
 c232:=o'
 c233:=by kernel_rfl }
end Go.Proofs
namespace Go.Proofs.YtegmpdmpgmpiaaaGreatDoor
open Go Go.RowKit
variable{w:bo}
def UI{w':bo}(h:Below w.heap.size w w'):AD C' w w':=⟨h.os,h.tape,h.output,h.size,fun b hb _=>h.block b hb⟩
def km(h:GT C' w):∃j p,w.cell? ⟨1,0,j0⟩=b0 (.iface j p):=by
 obtain⟨_,cs,T,fz,I,j,p,hm⟩:=h (1,fun cs=>∃j p,cs = #[.iface j p]) (by
  unfold mo
  repeat(first|exact bz|apply db))
 have C:cs = #[.iface j p]:=hm;subst C;exact⟨j,p,by simp only[World.cell?,I];rfl⟩
def pJ(h:GT C' w):∃j p,w.cell? ⟨2,0,j0⟩=b0 (.iface j p):=by
 obtain⟨_,cs,T,fz,I,j,p,hm⟩:=h (2,fun cs=>∃j p,cs = #[.iface j p]) (by
  unfold mo
  repeat(first|exact bz|apply db))
 have C:cs = #[.iface j p]:=hm;subst C;exact⟨j,p,by simp only[World.cell?,I];rfl⟩
def gD(l:L8):(⟨l.toArray⟩:ByteArray).toList=l:=by
 rw[ByteArray.toList_eq]
def ADh(s:L8)(w:bo)(e:Ending)(w':bo):Prop :=AD C' w w'/\((∃v,b8 64 s = .ok v/\e = .returned (.tuple #[.int .i64 v,.nilIface]))\/((∀v,b8 64 s ≠ .ok v)/\∃n j p,e = .returned (.tuple #[.int .i64 n,.iface j (.pointer (b0 p))])))
def xF(s:L8)(w:bo)(J:s.length<=281474976710656)(R:GT C' w):
  eL a' 153 #[.string ⟨s.toArray⟩,.int .i64 10,.int .i64 64] w (ADh s w):=by
 rcases hp:b8 64 s with v|_|_
 .refine(Any.strconv_ParseInt_10_at64_ok Tryz.laysC174 ⟨s.toArray⟩ (show s.length<=_ by omega) v hp w).mono fun e w' ⟨j,h2⟩=>⟨?_,.inl ⟨v,hp,j⟩⟩
  rcases h2 with rfl|⟨t,rfl⟩
  .exact AD.refl _ _
  .exact UI (Lib.bytesWorld_below _ _ _)
 .obtain⟨C,p,I⟩:=km R;refine(Any.strconv_ParseInt_10_at64_syntax Tryz.laysC174 ⟨s.toArray⟩ J hp _ w I (.inr ⟨C,p,rfl⟩)).mono fun e w' ⟨N,j,_,_,h2⟩=>⟨UI h2,.inr ⟨(fun v c=>by rw[hp]at c;cases c),_,_,_,j⟩⟩
 .obtain⟨C,p,I⟩:=pJ R;refine(Any.strconv_ParseInt_10_at64_range Tryz.laysC174 ⟨s.toArray⟩ J hp _ w I (.inr ⟨C,p,rfl⟩)).mono fun e w' ⟨N,j,_,_,h2⟩=>⟨UI h2,.inr ⟨(fun v c=>by rw[hp]at c;cases c),_,_,_,j⟩⟩
def yi(s:L8)(w:bo)(e:Ending)(w':bo):Prop:=AD C' w w'/\e = .returned (.tuple #[.int .i64 (CQ s).1,.bool (CQ s).2])
def xw(n:Int)(w:bo)(h0:-9223372036854775808<=n)(U:n<=9223372036854775807)(I:GT C' w):
  eL a' 230 #[.int .i64 n,.int .i64 10] w fun e w'=>e = .returned (.string ⟨(cf n).toArray⟩)/\AD C' w w':=by
 have J:=Any.internal_strconv_FormatInt_10 Tryz.laysM246 n h0 U w (by
  unfold ef World.var?;rw[Tryz.laysM246.m17];unfold GT mo at I;obtain⟨_,cs,T,fz,C,j⟩:=I _ (bz);simp only at C j;subst j;show h8 (b0 3) _=_;simp only[obS,C];rw[e5,cB];rfl)
 refine J.mono fun e w' ⟨h2,k,os,R⟩=>⟨h2,?_⟩
 subst R;exact iH w k os
def jq(n:Int)(w:bo)(e:Ending)(w':bo):Prop:=e = .returned (.string ⟨(cf n).toArray⟩)/\AD C' w w'
set_option maxRecDepth 100000 in
def rS(n:Int)(w:bo)(U:-9223372036854775808<=n)(J:n<=9223372036854775807)(I:GT C' w):
  eL a' 175 #[.int .i64 n,.int .i64 10] w (jq n w):=by
 have hF:=xw n w U J I;obtain⟨y,j⟩:∃y:ByteArray,y=⟨(cf n).toArray⟩:=⟨_,rfl⟩;have R:∀w2,AD C' w w2->jq n w (.returned (.string y)) w2:=fun w2 h=>⟨by rw[j],h⟩
 have HR:=ca R;rw[←j]at hF;clear R j I U J
 go_enter Tryz.func175,Tryz.ntmps175
 go_wp2_with (go_at_call 230;refine hF.mono ?_;rintro e w2 ⟨rfl,C⟩)
 go_ret
 exact HR.out _ C
set_option maxRecDepth 100000 in
def yP(n:Int)(w:bo)(U:-9223372036854775808<=n)(J:n<=9223372036854775807)(I:GT C' w):
  eL a' 110 #[.int .i64 n] w (jq n w):=by
 have hF:=rS n w U J I;unfold jq at hF;obtain⟨y,j⟩:∃y:ByteArray,y=⟨(cf n).toArray⟩:=⟨_,rfl⟩;have R:∀w2,AD C' w w2->jq n w (.returned (.string y)) w2:=fun w2 h=>⟨by rw[j],h⟩
 have HR:=ca R;rw[←j]at hF;clear R j I U J
 go_enter Tryz.func110,Tryz.ntmps110
 go_wp2_with (go_at_call 175;refine hF.mono ?_;rintro e w2 ⟨rfl,C⟩)
 go_ret
 exact HR.out _ C
def AAI{s:L8}{v:Int}(h:b8 64 s = .ok v):-9223372036854775808<=v/\v<=9223372036854775807:=by
 unfold b8 at h;split at h
 .cases h
 .split at h
  .cases h
  .cases h
  .rename_i u _;simp only at h;split at h
   .cases h
   .split at h
    .cases h
    .rename_i C h2;have h:=Lib.NumEnd.ok.inj h;subst h;simp only[Nat.reduceSub,not_and,Nat.not_le,Nat.not_lt]at C h2;split
     .rename_i j;have:=h2 j;omega
     .rename_i j;have:=C j;omega
set_option maxRecDepth 100000 in
def zu(s:L8)(w:bo)(hl:s.length<=281474976710656)(hg:GT C' w):eL a' 101 #[.string ⟨s.toArray⟩] w (yi s w):=by
 obtain⟨d,hd⟩:∃d:ByteArray,d=⟨(hG s [45]).toArray⟩:=⟨_,rfl⟩
 have hT:eL a' 152 #[.string ⟨s.toArray⟩,.string ⟨#[45]⟩] w fun e w'=>e = .returned (.string d)/\w'=w:=by
  rw[hd];exact Any.strings_TrimPrefix Tryz.lays101 ⟨s.toArray⟩ ⟨#[45]⟩ w
 have J:(hG s [45]).length=d.size:=by rw[hd];rfl
 clear hd;obtain⟨b,hb⟩:∃b:ByteArray,b=⟨s.toArray⟩:=⟨_,rfl⟩;have hP:=xF s w hl hg;rw[←hb]at hT hP ⊢
 by_cases h1:d.size<1
 .have j:CQ s=(0,false):=by unfold CQ;rw[if_pos (.inl n')]
  have R:yi s w (.returned (.tuple #[.int .i64 0,.bool false])) w:=⟨AD.refl _ _,by rw[j]⟩;clear j J hP hg hb
  go_enter e4,e9
  go_wp2_with (go_at_call 152;refine hT.mono ?_;rintro e w' ⟨rfl,rfl⟩)
  go_ret2
  exact R
 .by_cases h2:18<d.size
  .have j:CQ s=(0,false):=by unfold CQ;rw[if_pos (.inr n')]
   have R:yi s w (.returned (.tuple #[.int .i64 0,.bool false])) w:=⟨AD.refl _ _,by rw[j]⟩;clear j J hP hg hb
   go_enter e4,e9
   go_wp2_with (go_at_call 152;refine hT.mono ?_;rintro e w' ⟨rfl,rfl⟩)
   go_ret2
   exact R
  .have ae:∀v,b8 64 s = .ok v->CQ s=if cf v=s then(v,true)else(0,false):=fun v e=>by
    unfold CQ;rw[if_neg n',e]
   have ad:(∀v,b8 64 s ≠ .ok v)->CQ s=(0,false):=fun e=>by
    unfold CQ;rw[if_neg n'];rcases h:b8 64 s with v|_|_
    .exact absurd h (e v)
    .rfl
    .rfl
   clear J;have HP:=ca hP;have HG:=ca hg;clear hP hg;have ba:=ca ae;have a8:=ca ad;have HB:=ca hb;clear ae ad hb
   go_enter e4,e9
   go_wp2_with (go_at_call 152;refine hT.mono ?_;rintro e w' ⟨rfl,rfl⟩)
   refine HP.out.mono ?_;rintro e w1 ⟨C,⟨v,hp,rfl⟩|⟨hp,n,tp,p,rfl⟩⟩
   .have hv:=AAI hp;have hF:=yP v w1 hv.1 hv.2 (HG.out.mono (C.mono fun _ _ c=>c) fun _ _ c=>c);have j:=ba.out v hp;have au:=ca C;obtain⟨y,hy⟩:∃y:ByteArray,y=⟨(cf v).toArray⟩:=⟨_,rfl⟩;unfold jq at hF;rw[←hy]at hF
    have I:(y.toList==b.toList)=decide (cf v=s):=by
     have e1:y.toList=cf v:=by rw[hy,gD]
     have e2:b.toList=s:=by rw[HB.out,gD]
     rw[e1,e2,Bool.eq_iff_iff];simp
    clear hv C hp hy
    by_cases hc:cf v=s
    .rw[if_pos hc]at j;have R:∀w2,AD C' w1 w2->yi s w' (.returned (.tuple #[.int .i64 v,.bool true])) w2:=fun w2 h=>⟨au.out.trans h,by rw[j]⟩
     have HR:=ca R;have a7:(y.toList==b.toList)=true:=by rw[I,decide_eq_true hc]
     clear j I R hc
     go_wp2_with (go_at_call 110;refine hF.mono ?_;rintro e w2 ⟨rfl,U⟩)
     go_ret2
     exact HR.out _ U
    .rw[if_neg hc]at j;have R:∀w2,AD C' w1 w2->yi s w' (.returned (.tuple #[.int .i64 0,.bool false])) w2:=fun w2 h=>⟨au.out.trans h,by rw[j]⟩
     have HR:=ca R;have a7:(y.toList==b.toList)=false:=by rw[I,decide_eq_false hc]
     clear j I R hc
     go_wp2_with (go_at_call 110;refine hF.mono ?_;rintro e w2 ⟨rfl,U⟩)
     go_ret2
     exact HR.out _ U
   .have j:=a8.out hp;have R:yi s w' (.returned (.tuple #[.int .i64 0,.bool false])) w1:=⟨C,by rw[j]⟩;have HR:=ca R;clear j hp C R
    go_wp2
    go_ret2
    exact HR.out
def xm:Cd a' 101 Me:=by
 refine kX fun s w j C=>?_
 have he:=b1 (P:=a') e4 o' rfl;unfold DJ;rw[he];exact(zu s w j C).mono fun e w' ⟨I,h2⟩=>⟨h2,I⟩
variable{W:bo}
def Zw{P:Program}{n:String}{g:Nat}{cs:Array Value}(C:P.globalNamed n=b0 g)(h:W.var? P n=b0 cs):∃T fz,W.heap[g]? = b0 (.cells cs T fz):=by
 unfold World.var? at h;rw[C]at h;simp only[obS]at h;split at h
 .rename_i I T fz j;cases h
  exact⟨T,fz,j⟩
 .cases h
def ABF{P:Program}{w:bo}{g:Nat}{t:TypeId}{zero:Array Value}{k:IntKind}
  (h:w.ShapedOpen P) (C:g<P.globals.size)
  (I:((begin P (fun _ _=>0) default).world.heap[g]?).bind Obj.row? = b0 (zero,t)) (J:zero.size=1)
  (hb:P.buildable t=true) (U:P.cellTypes P.depth t=b0 [t]) (R:P.underlying t=b0 (.int k)) :
  ∃m,w.heap[g]? = b0 (.cells #[.int k m] t):=by
 obtain⟨cs,j,hs,_⟩:=h.1 g zero t C I;obtain⟨m,hm⟩:=cell_of_shapedOpen_int h C I J hb U R;refine⟨m,?_⟩;have h1:cs.size=1:=n'
 obtain⟨l⟩:=cs
 match l,h1 with
 | [a],_=>
  simp only[World.cell?,j]at hm;have:a = .int k m:=by simpa using hm
  rw[j,this]
def zI(R:W.ShapedOpen a')
  (h:ef a' W (a'.globals.getD 3 default).name .u64 e5)
  (U:∃C p,W.var? a' (a'.globals.getD 1 default).name=b0 #[.iface C p])
  (h2:∃C p,W.var? a' (a'.globals.getD 2 default).name=b0 #[.iface C p])
 :GT C' W:=by
 intro q j;unfold mo at j;rcases dx.1 j with rfl|j
 .unfold ef World.var? at h;rw[show a'.globalNamed (a'.globals.getD 3 default).name=b0 3 by kernel_rfl]at h;simp only[obS]at h;split at h
  .rename_i cs T fz I;refine⟨id,cs,T,fz,I,?_⟩;simp only[Option.some.injEq]at h;show cs=_;rw[h,e5,cB];rfl
  .cases h
 rcases dx.1 j with rfl|j
 .obtain⟨C,p,J⟩:=U;obtain⟨T,fz,I⟩:=Zw (show a'.globalNamed (a'.globals.getD 1 default).name=b0 1 by kernel_rfl) J;exact⟨id,_,T,fz,I,C,p,rfl⟩
 rcases dx.1 j with rfl|j
 .obtain⟨C,p,J⟩:=h2;obtain⟨T,fz,I⟩:=Zw (show a'.globalNamed (a'.globals.getD 2 default).name=b0 2 by kernel_rfl) J;exact⟨id,_,T,fz,I,C,p,rfl⟩
 rcases dx.1 j with rfl|j
 .obtain⟨m,hm⟩:=ABF (g:=0) (t:=3) (zero:=#[.int .i64 0]) (k:=.i64) R (of_decide_eq_true o') o' rfl o' o' o';exact⟨id,_,_,_,hm,m,rfl⟩
 cases j
open Go Go.RowKit Go.ChangeShapes Go.WideShapes
def WA{H:Type}{enc:TypeId×Value->H}{a:Assume}{C:Checked}{os:Os}{f:FuncId}{fn:Func}{s:ChangeSpec}{ab:List PathCond}{I fresh J ad:Bool}{X:bo->Array Value->Prop}
  (hX:∀(w w':bo) (args:Array Value),w.heap=w'.heap->X w args->X w' args)
  (own:ownKnob C.prog.godebug=j0) (aa:os.Started) (ae:C.prog.inits.idxOf? f=j0) (a6:C.prog.funcs[f]? = b0 fn)
  (U:∃(w:bo) (tape:Tape) (i:Input),w.os=os/\(w.forCall tape i).Shaped C.prog/\i.vars=[]/\Input.okWide C.prog (w.forCall tape i) .any w.heap.size f i /\
   ((s.pre enc C.prog fn ab I (w.forCall tape i).memory i.args/\X (w.forCall tape i).memory i.args)/\sizedMet enc C.prog fn (OpenSpec.ofChange s) I (w.forCall tape i).memory i.args)/\a.holds C.prog (lone (Frame.enter C.prog f i.args .normal) [] (w.forCall tape i)))
  (R:∀(W:bo) (base:Nat) (args:Array Value) (ds gs:List (DataW H)) (before:List MemPlace),
   (∀(j:Nat) t v,fn.params[j]? = b0 t->args[j]? = b0 v->Value.okWide C.prog W .any base t v) ->
   DataW.Whole enc C.prog fn.params.toList s.vars I W args.toList ds gs before->X W args->W.ShapedOpen C.prog ->
   eL C.prog f args W fun e W'=>∃v,e = .returned v/\s.post enc C.prog fn I fresh J ad W args v W') :
  ReturnsInHanded a C os f .any (fun w args=>(s.pre enc C.prog fn ab I w args/\X w args)/\sizedMet enc C.prog fn (OpenSpec.ofChange s) I w args) (s.post enc C.prog fn I fresh J ad):=by
 refine returnsInHanded_of_calls own aa ae U ?_;intro w tape i _ az _ a1 ao ax;obtain⟨_,_,_,a7,au,_,_,_,_,aj⟩:=a1;have e:a7=fn:=Option.some.inj (au.symm.trans a6);subst e;obtain⟨⟨⟨ds,gs,before,hw,hc⟩,hx⟩,hz⟩:=ao;have ay:=DataW.Whole.of_heap (w':=w.forCall tape i) (by rfl) hw;refine(R (w.forCall tape i) w.heap.size i.args ds gs before aj ay (hX _ _ _ (by rfl) hx) az).mono fun e W' ⟨v,he,hp⟩=>?_
 subst he;exact ChangeSpec.post_blind hp
def nB: "*" ++ "errors.errorString" = "*errors.errorString":=x'
def AEU(u:TypeId)(h:a'.typeName? 3 u=b0 "*errors.errorString"):u=287 :=
 typeName_ptr_named (nm:= "errors.errorString") (by rw[nB];kernel_rfl) o' x' u (by rw[nB];exact h)
def zB:∃ms,a'.underlying 56=b0 (.interface ms):=by
 have h:(match a'.underlying 56 with
  |some (.interface _)=>true
  |_=>false)=true:=o'
 revert h;generalize a'.underlying 56=x;intro h;split at h
 .exact⟨_,rfl⟩
 .cases h
def AKL:a'.underlying 287=b0 (.pointer 289):=o'
def AOB:∃f:Field,a'.underlying 289=b0 (.struct #[f])/\f.type=9/\f.offset=0:=by
 have h:(match a'.underlying 289 with
  |some (.struct ⟨[f]⟩)=>decide (f.type=9)&&decide (f.offset=0)
  |_=>false)=true:=o'
 revert h;generalize a'.underlying 289=x;intro h;split at h
 .rename_i f;simp only[baT,dtE]at h;exact⟨f,rfl,h.1,h.2⟩
 .cases h
def AKK:a'.underlying 9=b0 .string:=o'
def YF{n:String}{j:L8}{W:bo}{g:Nat}(h:laidMet a' [(n,.iface "*errors.errorString" (.ptr (.agg [.lit (.string j)])))] W)(U:a'.globalNamed n=b0 g)(R:(a'.globals[g]?).map (·.type)=b0 56):
  ∃I p,W.var? a' n=b0 #[.iface I p]:=by
 obtain⟨ms,C⟩:=zB;obtain⟨f,h1,h2,h3⟩:=AOB;obtain⟨a,s,J,_⟩:=laid_sentinel h U R C AEU AKL h1 h2 h3 AKK o' o';exact⟨_,_,J⟩
end Go.Proofs.YtegmpdmpgmpiaaaGreatDoor
