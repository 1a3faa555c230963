/- Lemmas and walks, several texts in one. No condition. -/
import Derived.Shelf.Strings.Builder1
import Derived.Shelf.Small.Strs
import Derived.Shelf.Strconv.Itoa0
import Derived.Shelf.Strconv.Itoa1
import Derived.Shelf.LaysM
import Derived.Shelf.Strconv.Itoa2
import Derived.Shelf.Strconv.Itoa3
import Derived.Shelf.Strconv.ParseIntEmpty
import Derived.Shelf.Strconv.Clone
import Derived.Shelf.Strconv.SyntaxError
import Derived.Shelf.LaysC
import Derived.Shelf.Strconv.ToError
import Derived.Shelf.Strconv.Lower
import Derived.Shelf.Strconv.ParseUint10
import Derived.Shelf.Strconv.ParseUint10Empty
import Derived.Shelf.Strconv.ParseUint10Any
import Derived.Shelf.Strconv.ParseInt10
import Derived.Shelf.Strconv.RangeError
import Derived.Shelf.Strconv.ToErrorRange
import Derived.Shelf.Strconv.ParseUintEmpty
import Derived.Shelf.Strconv.ParseUint10b64
import Derived.Shelf.Strconv.ParseUint10b32
import Derived.Shelf.Strconv.ParseUint10b16
import Derived.Shelf.Strconv.ParseUint10b8
import Derived.Shelf.Strconv.ParseUint10At
import Derived.Shelf.Strconv.ParseInt10At64
import Derived.Shelf.Strconv.ParseInt10At32
import Derived.Shelf.Strconv.ParseInt10At16
import Derived.Shelf.Strconv.ParseInt10At8
import Derived.Shelf.Strconv.ParseInt10All
import Derived.Shelf.Strconv.ParseIntPublic10
import Derived.Shelf.Strings.Search1
import Derived.Shelf.Strings.Search2
import Derived.Shelf.Strings.Search3
import Derived.Shelf.Strings.Cut
import Derived.Shelf.Strings.Count
import Derived.Shelf.Strings.Shaped
import Derived.Shelf.Strings.Prefix
import Derived.Shelf.Strings.Split
import Derived.Shelf.Unicode.DecodeSlow
import Derived.Ground.SlgnProg
import Derived.Shelf.SlicesG.Turned
import Derived.Test.YtegmpdmpgmpiaaaGreatDoorProg
import Derived.Test.YtegmpdmpgmpiaaaGreatDoorP3
import Derived.Lib.SplitLaws
import Derived.Lib.LaidTab
import Derived.Shelf.Strings.OnBuilder
import Derived.WalkKit
import Derived.Lib.Hide
import Derived.Test.YtegmpdmpgmpiaaaGreatDoorRows
import Derived.Stop.LaidErr
import Derived.Shelf.Vars
import Derived.Handed
import Derived.HandedShaped
import Derived.LaidMore
open Go renaming World->bb,Calls->fa
open Go.Lib renaming parseIntB->b5,hid->c8,itoa->cd,count->cA,pow10Tab->e5,TabIs->ef,join->ej,split->gr,trimPrefix->hD
open Go.Proofs renaming enters_of->a8
open Go.Proofs.Tryz renaming prog->a6,underlying9->a',underlying4->b0,underlying3->b1,zeroValue9->b2,zeroValue4->b3,zeroValue3->b4,underlying0->b6,sizeOf9->b7,sizeOf4->b8,sizeOf3->b9,zeroValue0->be,isAgg9->bs,isAgg4->bI,isAgg3->bN,underlying20->bR,zeroValue20->bS,underlying5->bX,zeroValue5->c6,sizeOf0->c7,underlying220->cb,underlying195->cc,zeroValue220->cf,zeroValue195->cl,isAgg0->cm,sizeOf20->cn,underlying2->ct,sizeOf5->cL,isAgg20->cS,zeroValue2->c',sizeOf220->dc,sizeOf195->df,isAgg5->dw,isAgg220->dT,isAgg195->dX,underlying52->e0,sizeOf2->e3,func101->e4,zeroValue52->e6,isAgg2->e7,sizeOf52->e8,ntmps101->e9,isAgg52->ea,func230->ec,underlying297->ek,underlying296->en,underlying281->et,underlying280->eu,underlying267->ev,underlying264->ew,underlying253->eL,underlying221->e',zeroValue297->ff,zeroValue296->fi,zeroValue280->fm,zeroValue267->fs,zeroValue264->fu,zeroValue253->fx,zeroValue221->fy,underlying96->fA,underlying56->fI,underlying44->f',underlying33->ga,underlying21->gb,zeroValue96->gf,zeroValue56->gg,zeroValue44->gj,zeroValue33->gk,zeroValue21->gn,sizeOf297->gu,sizeOf296->gv,sizeOf281->gw,sizeOf280->g',sizeOf267->h3,sizeOf264->h4,sizeOf253->h5,sizeOf221->h6,sizeOf96->h8,sizeOf56->h9,sizeOf44->hf,sizeOf33->hg,sizeOf21->hh,isAgg297->hj,isAgg296->hk,isAgg281->ho,isAgg280->hq,isAgg267->ht,isAgg264->hA,isAgg253->hB,isAgg221->hC,isAgg96->hE,isAgg56->hG,isAgg44->hH,isAgg33->hI,isAgg21->hJ,func293->hK,func292->hL,func287->hM,func286->hN,func285->hO,func284->hQ,func283->hR,func262->hS,func261->hV,func260->hW,func259->hY,func222->hZ,func221->ic,func197->ih,func196->ik,func170->ir,func149->ix,func148->iB,func147->iI,func146->iN,func97->iS,func96->iZ,func25->i'
open List renaming mem_cons_self->bo,length_map->b',map->ca,map_map->cI,mem_cons_of_mem->db,mem_cons->dz,getElem?_map->d'
open Option renaming some->a7,bind->h7,none->iR
set_option linter.defProp false
set_option linter.unusedSimpArgs false
set_option linter.unusedVariables false
set_option maxRecDepth 100000
set_option maxHeartbeats 2000000
namespace Go.Proofs
open Go.Shelf
def Tryz.lays145_ren:Go.Shelf.Ren:=⟨fun|145=>25|220=>55|219=>96|217=>146|225=>147|224=>148|267=>149|266=>196|314=>197|n=>n,fun|9=>9|4=>4|59=>59|3=>3|5=>5|46=>195|146=>221|51=>220|n=>n,fun|1=>0|n=>n⟩
theorem Tryz.lays145:Go.Proofs.Lays.n145 a6 Tryz.lays145_ren:={
 mixed:=by kernel_rfl
 f145:=i'.trans (congrArg a7 (by kernel_rfl))
 f217:=iN.trans (congrArg a7 (by kernel_rfl))
 f219:=iZ.trans (congrArg a7 (by kernel_rfl))
 f220:=Tryz.func55.trans (congrArg a7 (by kernel_rfl))
 f224:=iB.trans (congrArg a7 (by kernel_rfl))
 f225:=iI.trans (congrArg a7 (by kernel_rfl))
 f266:=ik.trans (congrArg a7 (by kernel_rfl))
 f267:=ix.trans (congrArg a7 (by kernel_rfl))
 f314:=ih.trans (congrArg a7 (by kernel_rfl))
 t3:=b1
 a3:=bN
 z3:=b9
 v3:=b4
 t4:=b0
 a4:=bI
 z4:=b8
 v4:=b3
 t5:=bX
 a5:=dw
 z5:=cL
 v5:=c6
 t9:=a'
 a9:=bs
 z9:=b7
 v9:=b2
 t46:=cc
 a46:=dX
 z46:=df
 v46:=cl
 t51:=cb
 a51:=dT
 z51:=dc
 v51:=cf
 t59:=Tryz.underlying59
 a59:=Tryz.isAgg59
 z59:=Tryz.sizeOf59
 v59:=Tryz.zeroValue59
 t146:=e'
 a146:=hC
 z146:=h6
 v146:=fy
 g1:=by kernel_rfl }
def Tryz.lays146_ren:Go.Shelf.Ren:=⟨fun|146=>97|221=>150|268=>198|138=>199|143=>200|195=>239|197=>240|218=>241|219=>96|260=>266|217=>146|225=>147|224=>148|267=>149|266=>196|314=>197|n=>n,fun|9=>9|31=>33|3=>3|4=>4|0=>0|105=>250|21=>21|5=>5|46=>195|119=>283|139=>286|138=>285|146=>221|51=>220|n=>n,fun|1=>0|3=>4|4=>5|n=>n⟩
theorem Tryz.lays146:Go.Proofs.Lays.n146 a6 Tryz.lays146_ren:={
 mixed:=by kernel_rfl
 f138:=Tryz.func199.trans (congrArg a7 (by kernel_rfl))
 f143:=Tryz.func200.trans (congrArg a7 (by kernel_rfl))
 f146:=iS.trans (congrArg a7 (by kernel_rfl))
 f195:=Tryz.func239.trans (congrArg a7 (by kernel_rfl))
 f197:=Tryz.func240.trans (congrArg a7 (by kernel_rfl))
 f217:=iN.trans (congrArg a7 (by kernel_rfl))
 f218:=Tryz.func241.trans (congrArg a7 (by kernel_rfl))
 f219:=iZ.trans (congrArg a7 (by kernel_rfl))
 f221:=Tryz.func150.trans (congrArg a7 (by kernel_rfl))
 f224:=iB.trans (congrArg a7 (by kernel_rfl))
 f225:=iI.trans (congrArg a7 (by kernel_rfl))
 f260:=Tryz.func266.trans (congrArg a7 (by kernel_rfl))
 f266:=ik.trans (congrArg a7 (by kernel_rfl))
 f267:=ix.trans (congrArg a7 (by kernel_rfl))
 f268:=Tryz.func198.trans (congrArg a7 (by kernel_rfl))
 f314:=ih.trans (congrArg a7 (by kernel_rfl))
 t0:=b6
 a0:=cm
 z0:=c7
 v0:=be
 t3:=b1
 a3:=bN
 z3:=b9
 v3:=b4
 t4:=b0
 a4:=bI
 z4:=b8
 v4:=b3
 t5:=bX
 a5:=dw
 z5:=cL
 v5:=c6
 t9:=a'
 a9:=bs
 z9:=b7
 v9:=b2
 t21:=gb
 a21:=hJ
 z21:=hh
 v21:=gn
 t31:=ga
 a31:=hI
 z31:=hg
 v31:=gk
 t46:=cc
 a46:=dX
 z46:=df
 v46:=cl
 t51:=cb
 a51:=dT
 z51:=dc
 v51:=cf
 t105:=Tryz.underlying250
 a105:=Tryz.isAgg250
 z105:=Tryz.sizeOf250
 v105:=Tryz.zeroValue250
 t119:=Tryz.underlying283
 a119:=Tryz.isAgg283
 z119:=Tryz.sizeOf283
 t138:=Tryz.underlying285
 a138:=Tryz.isAgg285
 z138:=Tryz.sizeOf285
 v138:=Tryz.zeroValue285
 t139:=Tryz.underlying286
 a139:=Tryz.isAgg286
 z139:=Tryz.sizeOf286
 v139:=Tryz.zeroValue286
 t146:=e'
 a146:=hC
 z146:=h6
 v146:=fy
 g1:=by kernel_rfl
 g3:=by kernel_rfl
 g4:=by kernel_rfl }
end Go.Proofs
namespace Go.Proofs.YtegmpdmpgmpiaaaGreatDoor
open Go Go.RowKit
theorem da{w:bb}(h:GT (fun _=>False) w):∃ m,w.cell? ⟨0,0,iR⟩=a7 (.int .i64 m):=by
 obtain⟨_,cs,T,fz,i,m,hm⟩:=h (0,fun cs=>∃ m,cs = #[.int .i64 m]) (by
  unfold jV
  repeat (first|exact bo|apply db))
 refine⟨m,?_⟩;have g:cs = #[.int .i64 m]:=hm;subst g;simp only[World.cell?,i];rfl
theorem AAy:CF a6 25 QG:=by
 refine ng fun s p w g i=>?_
 obtain⟨m,hm⟩:=da i;have j:=a8 (P:=a6) i' (by kernel_rfl) rfl;have o:=Any.strings_Cut Tryz.lays145 ⟨s.toArray⟩ ⟨p.toArray⟩ m w g hm;unfold DD;rw[j];refine o.mono fun e w' ⟨C,n,h2⟩=>⟨C,?_⟩
 subst h2;exact⟨rfl,rfl,rfl,Nat.le_refl _,fun _ _ _=>rfl⟩
theorem YM(s p:List UInt8):(Lib.splitB ⟨p.toArray⟩ 0 (cA s p) ⟨s.toArray⟩).map Value.string=(gr s p).map fun l=>Value.string ⟨l.toArray⟩:=by
 have h:=Lib.splitB_data ⟨p.toArray⟩ 0 (cA s p) ⟨s.toArray⟩;have g:(Lib.splitB ⟨p.toArray⟩ 0 (cA s p) ⟨s.toArray⟩).map (·.data.toList)=gr s p:=h;rw[← g,cI];refine List.map_congr_left fun b _=>?_
 rfl
theorem tY:CF a6 97 MX:=by
 refine gA (T:=9) fun s p w j i o=>?_
 obtain⟨m,hm⟩:=da o;have C:=a8 (P:=a6) iS (by kernel_rfl) rfl;have I:=Any.strings_Split Tryz.lays146 (by kernel_rfl) ⟨s.toArray⟩ ⟨p.toArray⟩ m w j hm i;unfold DD;rw[C]
 have g:cA s p+1=(gr s p).length:=by
  have:=Lib.splitB_all ⟨p.toArray⟩ i 0 (cA s p) ⟨s.toArray⟩ rfl;rw[← this,← b' (f:=Value.string),YM,b']
 refine I.mono fun e w' ⟨J,h2⟩=>⟨?_,?_⟩
 ·rw[J];show Ending.returned (.slice _ (cA s p+1) (cA s p+1))=_;rw[g]
 ·rw[h2,← YM];rfl
end Go.Proofs.YtegmpdmpgmpiaaaGreatDoor
namespace Go.Proofs
open Go.Shelf
def Tryz.laysM246_ren:Go.Shelf.Ren:=⟨fun|246=>230|283=>259|284=>260|285=>261|286=>262|129=>284|317=>283|318=>285|319=>286|320=>287|337=>292|338=>293|n=>n,fun|2=>2|3=>3|9=>9|4=>4|171=>264|0=>0|53=>253|37=>52|5=>5|173=>267|212=>280|51=>220|20=>20|213=>281|46=>195|232=>296|233=>297|n=>n,fun|17=>3|18=>6|19=>7|n=>n⟩
theorem Tryz.laysM246:Go.Proofs.LaysM.n246 a6 Tryz.laysM246_ren:={
 mixed:=by kernel_rfl
 f129:=hQ.trans (congrArg a7 (by kernel_rfl))
 f246:=ec.trans (congrArg a7 (by kernel_rfl))
 f283:=hY.trans (congrArg a7 (by kernel_rfl))
 f284:=hW.trans (congrArg a7 (by kernel_rfl))
 f285:=hV.trans (congrArg a7 (by kernel_rfl))
 f286:=hS.trans (congrArg a7 (by kernel_rfl))
 f317:=hR.trans (congrArg a7 (by kernel_rfl))
 f318:=hO.trans (congrArg a7 (by kernel_rfl))
 f319:=hN.trans (congrArg a7 (by kernel_rfl))
 f320:=hM.trans (congrArg a7 (by kernel_rfl))
 f337:=hL.trans (congrArg a7 (by kernel_rfl))
 f338:=hK.trans (congrArg a7 (by kernel_rfl))
 t0:=b6
 a0:=cm
 z0:=c7
 v0:=be
 t2:=ct
 a2:=e7
 z2:=e3
 v2:=c'
 t3:=b1
 a3:=bN
 z3:=b9
 v3:=b4
 t4:=b0
 a4:=bI
 z4:=b8
 v4:=b3
 t5:=bX
 a5:=dw
 z5:=cL
 v5:=c6
 t9:=a'
 a9:=bs
 z9:=b7
 v9:=b2
 t20:=bR
 a20:=cS
 z20:=cn
 v20:=bS
 t37:=e0
 a37:=ea
 z37:=e8
 v37:=e6
 t46:=cc
 a46:=dX
 z46:=df
 v46:=cl
 t51:=cb
 a51:=dT
 z51:=dc
 v51:=cf
 t53:=eL
 a53:=hB
 z53:=h5
 v53:=fx
 t171:=ew
 a171:=hA
 z171:=h4
 v171:=fu
 t173:=ev
 a173:=ht
 z173:=h3
 v173:=fs
 t212:=eu
 a212:=hq
 z212:=g'
 v212:=fm
 t213:=et
 a213:=ho
 z213:=gw
 t232:=en
 a232:=hk
 z232:=gv
 v232:=fi
 t233:=ek
 a233:=hj
 z233:=gu
 v233:=ff
 g17:=by kernel_rfl
 g18:=by kernel_rfl
 g19:=by kernel_rfl
 i0:=by kernel_rfl
 i2:=by kernel_rfl
 i3:=by kernel_rfl
 i4:=by kernel_rfl
 i5:=by kernel_rfl
 i9:=by kernel_rfl
 i20:=by kernel_rfl
 i37:=by kernel_rfl
 i46:=by kernel_rfl
 i51:=by kernel_rfl
 i53:=by kernel_rfl
 i171:=by kernel_rfl
 i173:=by kernel_rfl
 i212:=by kernel_rfl
 i232:=by kernel_rfl
 i233:=by kernel_rfl
 m17:=by kernel_rfl
 m18:=by kernel_rfl
 m19:=by kernel_rfl }
end Go.Proofs
namespace Go.Proofs.YtegmpdmpgmpiaaaGreatDoor
open Go Go.RowKit
theorem dO(w:bb)(k:Nat)(os:Array Obj):AG (fun _=>False) w (Go.Sort.grow (w.drewN k) os) where
 os:=rfl
 tape:=rfl
 output:=rfl
 size:=by
  show w.heap.size<=(w.heap++os).size;simp
 block:=fun b g _=>by
  show (w.heap++os)[b]? = w.heap[b]?
  rw[Array.getElem?_append_left g]
theorem AAw:CF a6 230 QF:=by
 refine nf fun n w J I j=>?_
 have o:=a8 (P:=a6) ec (by kernel_rfl) rfl
 have p:=Any.internal_strconv_FormatInt_10 Tryz.laysM246 n J I w (by
  unfold ef World.var?;rw[Tryz.laysM246.m17];unfold GT jV at j;obtain⟨_,cs,T,fz,i,g⟩:=j _ (bo);simp only at i g;subst g;show h7 (a7 3) _=_;simp only[obS,i];rw[e5,cI];rfl)
 unfold DD;rw[o];refine p.mono fun e w' ⟨h2,k,os,C⟩=>⟨h2,?_⟩
 subst C;exact dO w k os
end Go.Proofs.YtegmpdmpgmpiaaaGreatDoor
namespace Go.Proofs
open Go.Shelf
def Tryz.lays156_ren:Go.Shelf.Ren:=⟨fun|156=>170|165=>229|166=>24|169=>28|240=>54|241=>258|276=>95|277=>282|n=>n,fun|31=>33|9=>9|3=>3|4=>4|0=>0|20=>20|72=>54|76=>57|70=>51|37=>52|75=>56|127=>96|164=>149|5=>5|80=>64|n=>n,fun|n=>n⟩
theorem Tryz.lays156:Go.Proofs.Lays.n156 a6 Tryz.lays156_ren:={
 mixed:=by kernel_rfl
 f156:=ir.trans (congrArg a7 (by kernel_rfl))
 f165:=Tryz.func229.trans (congrArg a7 (by kernel_rfl))
 f166:=Tryz.func24.trans (congrArg a7 (by kernel_rfl))
 f169:=Tryz.func28.trans (congrArg a7 (by kernel_rfl))
 f240:=Tryz.func54.trans (congrArg a7 (by kernel_rfl))
 f241:=Tryz.func258.trans (congrArg a7 (by kernel_rfl))
 f276:=Tryz.func95.trans (congrArg a7 (by kernel_rfl))
 f277:=Tryz.func282.trans (congrArg a7 (by kernel_rfl))
 t0:=b6
 a0:=cm
 z0:=c7
 v0:=be
 t3:=b1
 a3:=bN
 z3:=b9
 v3:=b4
 t4:=b0
 a4:=bI
 z4:=b8
 v4:=b3
 t9:=a'
 a9:=bs
 z9:=b7
 v9:=b2
 t20:=bR
 a20:=cS
 z20:=cn
 v20:=bS
 t31:=ga
 a31:=hI
 z31:=hg
 v31:=gk
 t37:=e0
 a37:=ea
 z37:=e8
 v37:=e6
 t70:=Tryz.underlying51
 a70:=Tryz.isAgg51
 z70:=Tryz.sizeOf51
 v70:=Tryz.zeroValue51
 t72:=Tryz.underlying54
 a72:=Tryz.isAgg54
 z72:=Tryz.sizeOf54
 v72:=Tryz.zeroValue54
 t75:=fI
 a75:=hG
 z75:=h9
 v75:=gg
 t76:=Tryz.underlying57
 a76:=Tryz.isAgg57
 z76:=Tryz.sizeOf57
 v76:=Tryz.zeroValue57
 t127:=fA
 a127:=hE
 z127:=h8
 v127:=gf
 t164:=Tryz.underlying149
 a164:=Tryz.isAgg149
 z164:=Tryz.sizeOf149
 v164:=Tryz.zeroValue149 }
end Go.Proofs
namespace Go.Proofs.YtegmpdmpgmpiaaaGreatDoor
open Go Go.RowKit
theorem lJ:Builder.Extra a6 Tryz.lays156_ren where
 sizeBuilder:=by kernel_rfl
 liesBuilder:=by kernel_rfl
 t5:=bX
 a5:=dw
 z5:=cL
 v5:=c6
 infoByte:=by kernel_rfl
 cellsByte:=by kernel_rfl
 sizeByte:=by kernel_rfl
 neB5:=by decide
theorem ZQ{args:List AV}(h:(RC args).ok=true):∃ sz l p,l.length<=1048576∧(ej l p).length<=140737488355328∧args=[.sl sz (ca AV.str l),.str p]∧(RC args).r = .str (ej l p):=by
 unfold RC at h;split at h
 ·rename_i sz els p;split at h
  ·rename_i l g;have h:=Bool.and_eq_true_iff.1 h;refine⟨sz,l,p,of_decide_eq_true h.1,of_decide_eq_true h.2,by rw[dI g],?_⟩;simp only[RC,g]
  ·cases h
 ·cases h
theorem xJ:CF a6 170 Kh:=by
 refine⟨fun _=>rfl,fun F g0 w args vargs a5 ae U J=>⟨fun _=>?_,?_⟩⟩
 ·obtain⟨sz,l,p,_,_,rfl,hr⟩:=ZQ J;show OJ (RC _).r=true;rw[hr];rfl
 ·obtain⟨sz,l,p,hl,R,rfl,hr⟩:=ZQ J;have h0:=GD U (i:=0) (by simp);have h1:=GD U (i:=1) (by simp);rw[NF ae];generalize vargs.getD 0 undef=x at h0;generalize vargs.getD 1 undef=y at h1;have h0:VR _ w x (.sl sz (ca AV.str l)):=h0;have h1:VR _ w y (.str p):=h1;cases h1
  have done:∀ e w',e = .returned (.string ⟨(ej l p).toArray⟩)->AG (fun _=>False) w w'->∃ v g ob κ,e=Ending.returned v∧bu F g0 [.sl sz (ca AV.str l),.str p] Kh.modes w v w' (Kh.F [.sl sz (ca AV.str l),.str p]).r (Kh.F [.sl sz (ca AV.str l),.str p]).outs g ob κ:=by
   intro e w' he hs;refine⟨_,g0,[],id,he,?_⟩;have aj:(Kh.F [.sl sz (ca AV.str l),.str p]).r = .str (ej l p):=hr;rw[aj];exact Kb hs .str (fun i hi=>absurd hi.2 Bool.false_ne_true) (ABi rfl)
  cases h0 with
  | @sl a n cap _ _ b off rd hn aa a1 ha hc hw hv=>
   have au:n=l.length:=by simpa using hn
   subst au;have he:=a8 (P:=a6) ir (by kernel_rfl) rfl;unfold DD;rw[he];cases l with
   | nil=>
    refine (Any.strings_Join_none Tryz.lays156 lJ a cap ⟨p.toArray⟩ w).mono fun e w' ⟨h2,o⟩=>?_
    subst o;exact done e w' h2 (AG.refl _ _)
   | cons s r=>
    obtain⟨rfl,hs⟩:=ha (by simp)
    have one:∀ i,i<(s::r).length->(ca AV.str (s::r)).getD i .any = .str ((s::r).getD i []):=fun i hi=>by
     rw[gdE,d',gdE,geE hi];rfl
    have I:sz=1:=by
     have:=(hc 0 (by simp)).1;rw[one 0 (by simp)] at this;exact this.symm
    subst I
    have cell:∀ i,i<(s::r).length->w.cell? ⟨b,off+i,iR⟩=a7 (.string ⟨((s::r).getD i []).toArray⟩):=fun i hi=>by
     have h2:=hw i 0 (by simpa using hi) (by omega);have o:=hv i 0 (by simpa using hi) (by omega);rw[one i hi] at o;rw[Nat.mul_one,Nat.add_zero] at h2;have o:VR _ w (rd i 0) (.str ((s::r).getD i [])):=o;generalize rd i 0=u at h2 o;cases o
     exact h2
    have hb:b<w.heap.size:=World.block_lt_of_cell? w _ (cell 0 (by simp))
    have hd:((s::r).map fun l=>(⟨l.toArray⟩:ByteArray)).map (·.data.toList)=s::r:=by
     rw[cI];have:((fun x:ByteArray=>x.data.toList) ∘ fun l:List UInt8=>(⟨l.toArray⟩:ByteArray))=id:=by funext l;simp
     rw[this,List.map_id]
    have ab:=Any.strings_Join Tryz.lays156 lJ b off cap ((s::r).map fun l=>(⟨l.toArray⟩:ByteArray)) ⟨p.toArray⟩ w (fun j x C=>by
     rw[d'] at C;cases T:(s::r)[j]? with
     | none=>rw[T] at C;cases C
     | some t=>
      rw[T] at C;cases C
      have av:j<(s::r).length:=by
       rcases Nat.lt_or_ge j (s::r).length with h' | h'
       ·exact h'
       ·rw[List.getElem?_eq_none h'] at T;cases T
      rw[cell j av,gdE,T];rfl) hb (by rw[b'];omega) (by rw[b'];exact aa) (by rw[hd];simpa using R)
    rw[hd,b'] at ab;refine ab.mono fun e w' ⟨h2,o⟩=>done e w' ?_ ⟨o.os,o.tape,o.output,o.size,fun b hb _=>o.block b hb⟩
    rw[h2]
end Go.Proofs.YtegmpdmpgmpiaaaGreatDoor
namespace Go.Proofs
open Go.Shelf
def Tryz.lMaxI_ren:Go.Shelf.Ren:=⟨fun|37=>221|n=>n,fun|22=>44|23=>2|3=>3|4=>4|9=>9|20=>20|0=>0|n=>n,fun|n=>n⟩
theorem Tryz.lMaxI:Go.Proofs.SlLaysN.n37 a6 Tryz.lMaxI_ren:={
 mixed:=by kernel_rfl
 f37:=⟨Tryz.f221.name,by decide,ic.trans (congrArg a7 (by kernel_rfl))⟩
 t0:=b6
 a0:=cm
 z0:=c7
 v0:=be
 t3:=b1
 a3:=bN
 z3:=b9
 v3:=b4
 t4:=b0
 a4:=bI
 z4:=b8
 v4:=b3
 t9:=a'
 a9:=bs
 z9:=b7
 v9:=b2
 t20:=bR
 a20:=cS
 z20:=cn
 v20:=bS
 t22:=f'
 a22:=hH
 z22:=hf
 v22:=gj
 t23:=ct
 a23:=e7
 z23:=e3
 v23:=c' }
def Tryz.lMinI_ren:Go.Shelf.Ren:=⟨fun|39=>222|n=>n,fun|22=>44|23=>2|3=>3|4=>4|9=>9|20=>20|0=>0|n=>n,fun|n=>n⟩
theorem Tryz.lMinI:Go.Proofs.SlLaysN.n39 a6 Tryz.lMinI_ren:={
 mixed:=by kernel_rfl
 f39:=⟨Tryz.f222.name,by decide,hZ.trans (congrArg a7 (by kernel_rfl))⟩
 t0:=b6
 a0:=cm
 z0:=c7
 v0:=be
 t3:=b1
 a3:=bN
 z3:=b9
 v3:=b4
 t4:=b0
 a4:=bI
 z4:=b8
 v4:=b3
 t9:=a'
 a9:=bs
 z9:=b7
 v9:=b2
 t20:=bR
 a20:=cS
 z20:=cn
 v20:=bS
 t22:=f'
 a22:=hH
 z22:=hf
 v22:=gj
 t23:=ct
 a23:=e7
 z23:=e3
 v23:=c' }
end Go.Proofs
namespace Go.Proofs.YtegmpdmpgmpiaaaGreatDoor
open Go Go.RowKit
theorem kG{f:FuncId}{c:Ar}{op:List Int->Int}(hF:c.F=wR op)(hm:c.modes=[.bor])(he:∀ args w,(callFunc f args).run a6 w = .ok (.enter f args) w)
  (hc:∀ (b off n k:Nat) (zs:List Int) (w:bb),0<n->n<=zs.length->n<=9223372036854775807->(∀ j,j<zs.length->w.cell? ⟨b,off+j,iR⟩=a7 (.int .i64 (zs.getD j 0))) ->
   fa a6 f #[.slice (a7 ⟨b,off,iR⟩) n k] w fun e w'=>e = .returned (.int .i64 (op (zs.take n)))∧w'=w):CF a6 f c:=by
 refine⟨fun _=>by rw[hm];rfl,fun F g0 w args vargs ao J T g=>⟨fun _=>?_,?_⟩⟩
 ·rw[hF] at g ⊢;obtain⟨sz,l,_,_,rfl,P⟩:=pX g;rw[P];rfl
 ·rw[hF] at g ⊢;obtain⟨sz,l,C,hl,rfl,P⟩:=pX g;rw[P];have I:=GD T (i:=0) (by simp);rw[NG J];generalize vargs.getD 0 undef=x at I;have I:VR _ w x (.sl sz (ca (AV.int .i64) l)):=I;cases I with
  | @sl a n cap _ _ b off rd hn ab aa ha U hw hv=>
   have R:n=l.length:=by simpa using hn
   subst R;obtain⟨rfl,hs⟩:=ha (by simpa using C)
   have one:∀ i,i<l.length->(ca (AV.int .i64) l).getD i .any = .int .i64 (l.getD i 0):=fun i hi=>by
    rw[gdE,d',gdE,geE hi];rfl
   have p:sz=1:=by
    have:=(U 0 (by simpa using C)).1;rw[one 0 C] at this;exact this.symm
   subst p;unfold DD;rw[he]
   have h1:=hc b off l.length cap l w C (Nat.le_refl _) hl (fun i hi=>by
    have h2:=hw i 0 (by simpa using hi) (by omega);have o:=hv i 0 (by simpa using hi) (by omega);rw[one i hi] at o;rw[Nat.mul_one,Nat.add_zero] at h2;have o:VR _ w (rd i 0) (.int .i64 (l.getD i 0)):=o;generalize rd i 0=u at h2 o;cases o
    exact h2)
   rw[List.take_length] at h1;refine h1.mono fun e w' ⟨h2,o⟩=>?_
   subst o;exact⟨_,g0,[],id,h2,Kb (AG.refl _ _) .int (fun i hi=>absurd hi.2 Bool.false_ne_true) (oY hm)⟩
theorem xI:CF a6 221 QE :=
 kG (op:=Lib.maxOf) rfl rfl (a8 (P:=a6) ic (by kernel_rfl) rfl) fun b off n k zs w=>AnyG.slices_Max_int Tryz.lMaxI b off n k zs w
theorem xH:CF a6 222 ON :=
 kG (op:=Lib.minOf) rfl rfl (a8 (P:=a6) hZ (by kernel_rfl) rfl) fun b off n k zs w=>AnyG.slices_Min_int Tryz.lMinI b off n k zs w
end Go.Proofs.YtegmpdmpgmpiaaaGreatDoor
namespace Go.Proofs
open Go.Shelf
def Tryz.lays101_ren:Go.Shelf.Ren:=⟨fun|101=>152|208=>201|206=>205|n=>n,fun|9=>9|4=>4|3=>3|n=>n,fun|n=>n⟩
theorem Tryz.lays101:Go.Proofs.Lays.n101 a6 Tryz.lays101_ren:={
 mixed:=by kernel_rfl
 f101:=Tryz.func152.trans (congrArg a7 (by kernel_rfl))
 f206:=Tryz.func205.trans (congrArg a7 (by kernel_rfl))
 f208:=Tryz.func201.trans (congrArg a7 (by kernel_rfl))
 t3:=b1
 a3:=bN
 z3:=b9
 v3:=b4
 t4:=b0
 a4:=bI
 z4:=b8
 v4:=b3
 t9:=a'
 a9:=bs
 z9:=b7
 v9:=b2 }
def Tryz.laysC174_ren:Go.Shelf.Ren:=⟨fun|174=>153|247=>202|245=>203|287=>242|279=>243|280=>244|281=>245|282=>246|321=>267|322=>268|316=>269|171=>271|205=>270|243=>288|246=>230|283=>259|284=>260|285=>261|286=>262|129=>284|317=>283|318=>285|319=>286|320=>287|337=>292|338=>293|n=>n,fun|9=>9|3=>3|2=>2|75=>56|85=>199|4=>4|167=>252|5=>5|53=>253|175=>254|46=>195|168=>256|37=>52|0=>0|210=>272|21=>21|127=>96|145=>289|143=>287|171=>264|173=>267|212=>280|51=>220|20=>20|213=>281|232=>296|233=>297|80=>64|n=>n,fun|15=>1|16=>2|17=>3|18=>6|19=>7|n=>n⟩
theorem Tryz.laysC174:Go.Proofs.LaysC.n174 a6 Tryz.laysC174_ren:={
 mixed:=by kernel_rfl
 f129:=hQ.trans (congrArg a7 (by kernel_rfl))
 f171:=Tryz.func271.trans (congrArg a7 (by kernel_rfl))
 f174:=Tryz.func153.trans (congrArg a7 (by kernel_rfl))
 f205:=Tryz.func270.trans (congrArg a7 (by kernel_rfl))
 f243:=Tryz.func288.trans (congrArg a7 (by kernel_rfl))
 f245:=Tryz.func203.trans (congrArg a7 (by kernel_rfl))
 f246:=ec.trans (congrArg a7 (by kernel_rfl))
 f247:=Tryz.func202.trans (congrArg a7 (by kernel_rfl))
 f279:=Tryz.func243.trans (congrArg a7 (by kernel_rfl))
 f280:=Tryz.func244.trans (congrArg a7 (by kernel_rfl))
 f281:=Tryz.func245.trans (congrArg a7 (by kernel_rfl))
 f282:=Tryz.func246.trans (congrArg a7 (by kernel_rfl))
 f283:=hY.trans (congrArg a7 (by kernel_rfl))
 f284:=hW.trans (congrArg a7 (by kernel_rfl))
 f285:=hV.trans (congrArg a7 (by kernel_rfl))
 f286:=hS.trans (congrArg a7 (by kernel_rfl))
 f287:=Tryz.func242.trans (congrArg a7 (by kernel_rfl))
 f316:=Tryz.func269.trans (congrArg a7 (by kernel_rfl))
 f317:=hR.trans (congrArg a7 (by kernel_rfl))
 f318:=hO.trans (congrArg a7 (by kernel_rfl))
 f319:=hN.trans (congrArg a7 (by kernel_rfl))
 f320:=hM.trans (congrArg a7 (by kernel_rfl))
 f321:=Tryz.func267.trans (congrArg a7 (by kernel_rfl))
 f322:=Tryz.func268.trans (congrArg a7 (by kernel_rfl))
 f337:=hL.trans (congrArg a7 (by kernel_rfl))
 f338:=hK.trans (congrArg a7 (by kernel_rfl))
 t0:=b6
 a0:=cm
 z0:=c7
 v0:=be
 t2:=ct
 a2:=e7
 z2:=e3
 v2:=c'
 t3:=b1
 a3:=bN
 z3:=b9
 v3:=b4
 t4:=b0
 a4:=bI
 z4:=b8
 v4:=b3
 t5:=bX
 a5:=dw
 z5:=cL
 v5:=c6
 t9:=a'
 a9:=bs
 z9:=b7
 v9:=b2
 t20:=bR
 a20:=cS
 z20:=cn
 v20:=bS
 t21:=gb
 a21:=hJ
 z21:=hh
 v21:=gn
 t37:=e0
 a37:=ea
 z37:=e8
 v37:=e6
 t46:=cc
 a46:=dX
 z46:=df
 v46:=cl
 t51:=cb
 a51:=dT
 z51:=dc
 v51:=cf
 t53:=eL
 a53:=hB
 z53:=h5
 v53:=fx
 t75:=fI
 a75:=hG
 z75:=h9
 v75:=gg
 t85:=Tryz.underlying199
 a85:=Tryz.isAgg199
 z85:=Tryz.sizeOf199
 v85:=Tryz.zeroValue199
 t127:=fA
 a127:=hE
 z127:=h8
 v127:=gf
 t143:=Tryz.underlying287
 a143:=Tryz.isAgg287
 z143:=Tryz.sizeOf287
 v143:=Tryz.zeroValue287
 t145:=Tryz.underlying289
 a145:=Tryz.isAgg289
 z145:=Tryz.sizeOf289
 v145:=Tryz.zeroValue289
 t167:=Tryz.underlying252
 a167:=Tryz.isAgg252
 z167:=Tryz.sizeOf252
 v167:=Tryz.zeroValue252
 t168:=Tryz.underlying256
 a168:=Tryz.isAgg256
 z168:=Tryz.sizeOf256
 v168:=Tryz.zeroValue256
 t171:=ew
 a171:=hA
 z171:=h4
 v171:=fu
 t173:=ev
 a173:=ht
 z173:=h3
 v173:=fs
 t175:=Tryz.underlying254
 a175:=Tryz.isAgg254
 z175:=Tryz.sizeOf254
 v175:=Tryz.zeroValue254
 t210:=Tryz.underlying272
 a210:=Tryz.isAgg272
 z210:=Tryz.sizeOf272
 v210:=Tryz.zeroValue272
 t212:=eu
 a212:=hq
 z212:=g'
 v212:=fm
 t213:=et
 a213:=ho
 z213:=gw
 t232:=en
 a232:=hk
 z232:=gv
 v232:=fi
 t233:=ek
 a233:=hj
 z233:=gu
 v233:=ff
 g15:=by kernel_rfl
 g16:=by kernel_rfl
 g17:=by kernel_rfl
 g18:=by kernel_rfl
 g19:=by kernel_rfl
 t80:=Tryz.underlying64
 a80:=Tryz.isAgg64
 z80:=Tryz.sizeOf64
 v80:=Tryz.zeroValue64
 i0:=by kernel_rfl
 i2:=by kernel_rfl
 i3:=by kernel_rfl
 i4:=by kernel_rfl
 i5:=by kernel_rfl
 i9:=by kernel_rfl
 i20:=by kernel_rfl
 i21:=by kernel_rfl
 i37:=by kernel_rfl
 i46:=by kernel_rfl
 i51:=by kernel_rfl
 i53:=by kernel_rfl
 i75:=by kernel_rfl
 i80:=by kernel_rfl
 i85:=by kernel_rfl
 i127:=by kernel_rfl
 i143:=by kernel_rfl
 i145:=by kernel_rfl
 i167:=by kernel_rfl
 i168:=by kernel_rfl
 i171:=by kernel_rfl
 i173:=by kernel_rfl
 i175:=by kernel_rfl
 i210:=by kernel_rfl
 i212:=by kernel_rfl
 i232:=by kernel_rfl
 i233:=by kernel_rfl
 m15:=by kernel_rfl
 m16:=by kernel_rfl
 m17:=by kernel_rfl
 m18:=by kernel_rfl
 m19:=by kernel_rfl
 c0:=by kernel_rfl
 c2:=by kernel_rfl
 c3:=by kernel_rfl
 c4:=by kernel_rfl
 c5:=by kernel_rfl
 c9:=by kernel_rfl
 c20:=by kernel_rfl
 c21:=by kernel_rfl
 c37:=by kernel_rfl
 c46:=by kernel_rfl
 c51:=by kernel_rfl
 c53:=by kernel_rfl
 c75:=by kernel_rfl
 c80:=by kernel_rfl
 c85:=by kernel_rfl
 c127:=by kernel_rfl
 c143:=by kernel_rfl
 c145:=by kernel_rfl
 c167:=by kernel_rfl
 c168:=by kernel_rfl
 c171:=by kernel_rfl
 c173:=by kernel_rfl
 c175:=by kernel_rfl
 c210:=by kernel_rfl
 c212:=by kernel_rfl
 c213:=by kernel_rfl
 c232:=by kernel_rfl
 c233:=by kernel_rfl }
end Go.Proofs
namespace Go.Proofs.YtegmpdmpgmpiaaaGreatDoor
open Go Go.RowKit
theorem Sz{w w':bb}(h:Below w.heap.size w w'):AG (fun _=>False) w w':=⟨h.os,h.tape,h.output,h.size,fun b g _=>h.block b g⟩
theorem gM{w:bb}(h:GT (fun _=>False) w):∃ g p,w.cell? ⟨1,0,iR⟩=a7 (.iface g p):=by
 obtain⟨_,cs,T,fz,j,g,p,hm⟩:=h (1,fun cs=>∃ g p,cs = #[.iface g p]) (by
  unfold jV
  repeat (first|exact bo|apply db))
 have i:cs = #[.iface g p]:=hm;subst i;exact⟨g,p,by simp only[World.cell?,j];rfl⟩
theorem lQ{w:bb}(h:GT (fun _=>False) w):∃ g p,w.cell? ⟨2,0,iR⟩=a7 (.iface g p):=by
 obtain⟨_,cs,T,fz,j,g,p,hm⟩:=h (2,fun cs=>∃ g p,cs = #[.iface g p]) (by
  unfold jV
  repeat (first|exact bo|apply db))
 have i:cs = #[.iface g p]:=hm;subst i;exact⟨g,p,by simp only[World.cell?,j];rfl⟩
theorem cj(l:List UInt8):(⟨l.toArray⟩:ByteArray).toList=l:=by
 rw[ByteArray.toList_eq]
def zH(s:List UInt8)(w:bb)(e:Ending)(w':bb):Prop :=AG (fun _=>False) w w'∧((∃ v,b5 64 s = .ok v∧e = .returned (.tuple #[.int .i64 v,.nilIface]))∨((∀ v,b5 64 s ≠ .ok v)∧∃ n g p,e = .returned (.tuple #[.int .i64 n,.iface g (.pointer (a7 p))])))
theorem sY(s:List UInt8)(w:bb)(o:s.length<=281474976710656)(C:GT (fun _=>False) w):
  fa a6 153 #[.string ⟨s.toArray⟩,.int .i64 10,.int .i64 64] w (zH s w):=by
 rcases hp:b5 64 s with v|_|_
 ·refine (Any.strconv_ParseInt_10_at64_ok Tryz.laysC174 ⟨s.toArray⟩ (show s.length<=_ by omega) v hp w).mono fun e w' ⟨g,h2⟩=>⟨?_,.inl ⟨v,hp,g⟩⟩
  rcases h2 with rfl|⟨t,rfl⟩
  ·exact AG.refl _ _
  ·exact Sz (Lib.bytesWorld_below _ _ _)
 ·obtain⟨i,p,j⟩:=gM C;refine (Any.strconv_ParseInt_10_at64_syntax Tryz.laysC174 ⟨s.toArray⟩ o hp _ w j (.inr ⟨i,p,rfl⟩)).mono fun e w' ⟨N,g,_,_,h2⟩=>⟨Sz h2,.inr ⟨(fun v c=>by rw[hp] at c;cases c),_,_,_,g⟩⟩
 ·obtain⟨i,p,j⟩:=lQ C;refine (Any.strconv_ParseInt_10_at64_range Tryz.laysC174 ⟨s.toArray⟩ o hp _ w j (.inr ⟨i,p,rfl⟩)).mono fun e w' ⟨N,g,_,_,h2⟩=>⟨Sz h2,.inr ⟨(fun v c=>by rw[hp] at c;cases c),_,_,_,g⟩⟩
def uX(s:List UInt8)(w:bb)(e:Ending)(w':bb):Prop:=AG (fun _=>False) w w'∧e = .returned (.tuple #[.int .i64 (CK s).1,.bool (CK s).2])
theorem tn(n:Int)(w:bb)(I:-9223372036854775808<=n)(C:n<=9223372036854775807)(j:GT (fun _=>False) w):
  fa a6 230 #[.int .i64 n,.int .i64 10] w fun e w'=>e = .returned (.string ⟨(cd n).toArray⟩)∧AG (fun _=>False) w w':=by
 have o:=Any.internal_strconv_FormatInt_10 Tryz.laysM246 n I C w (by
  unfold ef World.var?;rw[Tryz.laysM246.m17];unfold GT jV at j;obtain⟨_,cs,T,fz,i,g⟩:=j _ (bo);simp only at i g;subst g;show h7 (a7 3) _=_;simp only[obS,i];rw[e5,cI];rfl)
 refine o.mono fun e w' ⟨h2,k,os,p⟩=>⟨h2,?_⟩
 subst p;exact dO w k os
def fN(n:Int)(w:bb)(e:Ending)(w':bb):Prop:=e = .returned (.string ⟨(cd n).toArray⟩)∧AG (fun _=>False) w w'
set_option maxRecDepth 100000 in
theorem nj(n:Int)(w:bb)(p:-9223372036854775808<=n)(o:n<=9223372036854775807)(j:GT (fun _=>False) w):
  fa a6 175 #[.int .i64 n,.int .i64 10] w (fN n w):=by
 have hF:=tn n w p o j;obtain⟨y,g⟩:∃ y:ByteArray,y=⟨(cd n).toArray⟩:=⟨_,rfl⟩;have R:∀ w2,AG (fun _=>False) w w2->fN n w (.returned (.string y)) w2:=fun w2 h=>⟨by rw[g],h⟩
 have C:=c8 R;rw[← g] at hF;clear R g j p o
 go_enter Tryz.func175,Tryz.ntmps175
 go_wp2_with (go_at_call 230;refine hF.mono ?_;rintro e w2 ⟨rfl,i⟩)
 go_ret
 exact C.out _ i
set_option maxRecDepth 100000 in
theorem uG(n:Int)(w:bb)(p:-9223372036854775808<=n)(o:n<=9223372036854775807)(j:GT (fun _=>False) w):
  fa a6 110 #[.int .i64 n] w (fN n w):=by
 have hF:=nj n w p o j;unfold fN at hF;obtain⟨y,g⟩:∃ y:ByteArray,y=⟨(cd n).toArray⟩:=⟨_,rfl⟩;have R:∀ w2,AG (fun _=>False) w w2->fN n w (.returned (.string y)) w2:=fun w2 h=>⟨by rw[g],h⟩
 have C:=c8 R;rw[← g] at hF;clear R g j p o
 go_enter Tryz.func110,Tryz.ntmps110
 go_wp2_with (go_at_call 175;refine hF.mono ?_;rintro e w2 ⟨rfl,i⟩)
 go_ret
 exact C.out _ i
theorem vy{s:List UInt8}{v:Int}(h:b5 64 s = .ok v):-9223372036854775808<=v∧v<=9223372036854775807:=by
 unfold b5 at h;split at h
 ·cases h
 ·split at h
  ·cases h
  ·cases h
  ·rename_i u _;simp only at h;split at h
   ·cases h
   ·split at h
    ·cases h
    ·rename_i i h2;have h:=Lib.NumEnd.ok.inj h;subst h;simp only[Nat.reduceSub,not_and,Nat.not_le,Nat.not_lt] at i h2;split
     ·rename_i g;have:=h2 g;omega
     ·rename_i g;have:=i g;omega
set_option maxRecDepth 100000 in
theorem vh(s:List UInt8)(w:bb)(hl:s.length<=281474976710656)(U:GT (fun _=>False) w):fa a6 101 #[.string ⟨s.toArray⟩] w (uX s w):=by
 obtain⟨d,hd⟩:∃ d:ByteArray,d=⟨(hD s [45]).toArray⟩:=⟨_,rfl⟩
 have hT:fa a6 152 #[.string ⟨s.toArray⟩,.string ⟨#[45]⟩] w fun e w'=>e = .returned (.string d)∧w'=w:=by
  rw[hd];exact Any.strings_TrimPrefix Tryz.lays101 ⟨s.toArray⟩ ⟨#[45]⟩ w
 have o:(hD s [45]).length=d.size:=by rw[hd];rfl
 clear hd;obtain⟨b,hb⟩:∃ b:ByteArray,b=⟨s.toArray⟩:=⟨_,rfl⟩;have hP:=sY s w hl U;rw[← hb] at hT hP ⊢
 by_cases h1:d.size<1
 ·have g:CK s=(0,false):=by unfold CK;rw[if_pos (.inl (by omega))]
  have R:uX s w (.returned (.tuple #[.int .i64 0,.bool false])) w:=⟨AG.refl _ _,by rw[g]⟩;clear g o hP U hb
  go_enter e4,e9
  go_wp2_with (go_at_call 152;refine hT.mono ?_;rintro e w' ⟨rfl,rfl⟩)
  go_ret2
  exact R
 ·by_cases h2:18<d.size
  ·have g:CK s=(0,false):=by unfold CK;rw[if_pos (.inr (by omega))]
   have R:uX s w (.returned (.tuple #[.int .i64 0,.bool false])) w:=⟨AG.refl _ _,by rw[g]⟩;clear g o hP U hb
   go_enter e4,e9
   go_wp2_with (go_at_call 152;refine hT.mono ?_;rintro e w' ⟨rfl,rfl⟩)
   go_ret2
   exact R
  ·have T:∀ v,b5 64 s = .ok v->CK s=if cd v=s then (v,true) else (0,false):=fun v e=>by
    unfold CK;rw[if_neg (by omega),e]
   have P:(∀ v,b5 64 s ≠ .ok v)->CK s=(0,false):=fun e=>by
    unfold CK;rw[if_neg (by omega)];rcases h:b5 64 s with v|_|_
    ·exact absurd h (e v)
    ·rfl
    ·rfl
   clear o;have HP:=c8 hP;have HG:=c8 U;clear hP U;have ay:=c8 T;have ax:=c8 P;have HB:=c8 hb;clear T P hb
   go_enter e4,e9
   go_wp2_with (go_at_call 152;refine hT.mono ?_;rintro e w' ⟨rfl,rfl⟩)
   refine HP.out.mono ?_;rintro e w1 ⟨i,⟨v,I,rfl⟩|⟨I,n,tp,p,rfl⟩⟩
   ·have hv:=vy I;have hF:=uG v w1 hv.1 hv.2 (HG.out.mono (i.mono fun _ _ c=>c) fun _ _ c=>c);have g:=ay.out v I;have ac:=c8 i;obtain⟨y,hy⟩:∃ y:ByteArray,y=⟨(cd v).toArray⟩:=⟨_,rfl⟩;unfold fN at hF;rw[← hy] at hF
    have j:(y.toList==b.toList)=decide (cd v=s):=by
     have e1:y.toList=cd v:=by rw[hy,cj]
     have e2:b.toList=s:=by rw[HB.out,cj]
     rw[e1,e2,Bool.eq_iff_iff];simp
    clear hv i I hy
    by_cases J:cd v=s
    ·rw[if_pos J] at g;have R:∀ w2,AG (fun _=>False) w1 w2->uX s w' (.returned (.tuple #[.int .i64 v,.bool true])) w2:=fun w2 h=>⟨ac.out.trans h,by rw[g]⟩
     have HR:=c8 R;have av:(y.toList==b.toList)=true:=by rw[j,decide_eq_true J]
     clear g j R J
     go_wp2_with (go_at_call 110;refine hF.mono ?_;rintro e w2 ⟨rfl,C⟩)
     go_ret2
     exact HR.out _ C
    ·rw[if_neg J] at g;have R:∀ w2,AG (fun _=>False) w1 w2->uX s w' (.returned (.tuple #[.int .i64 0,.bool false])) w2:=fun w2 h=>⟨ac.out.trans h,by rw[g]⟩
     have HR:=c8 R;have av:(y.toList==b.toList)=false:=by rw[j,decide_eq_false J]
     clear g j R J
     go_wp2_with (go_at_call 110;refine hF.mono ?_;rintro e w2 ⟨rfl,C⟩)
     go_ret2
     exact HR.out _ C
   ·have g:=ax.out I;have R:uX s w' (.returned (.tuple #[.int .i64 0,.bool false])) w1:=⟨i,by rw[g]⟩;have HR:=c8 R;clear g I i R
    go_wp2
    go_ret2
    exact HR.out
theorem tZ:CF a6 101 Lg:=by
 refine gC fun s w g i=>?_
 have j:=a8 (P:=a6) e4 (by kernel_rfl) rfl;unfold DD;rw[j];exact (vh s w g i).mono fun e w' ⟨o,h2⟩=>⟨h2,o⟩
theorem YY{P:Program}{W:bb}{n:String}{g:Nat}{cs:Array Value}(j:P.globalNamed n=a7 g)(h:W.var? P n=a7 cs):∃ T fz,W.heap[g]? = a7 (.cells cs T fz):=by
 unfold World.var? at h;rw[j] at h;simp only[obS] at h;split at h
 ·rename_i o T fz i;cases h
  exact⟨T,fz,i⟩
 ·cases h
theorem xE{P:Program}{w:bb}{g:Nat}{t:TypeId}{zero:Array Value}{k:IntKind}
  (h:w.ShapedOpen P) (j:g<P.globals.size)
  (o:((begin P (fun _ _=>0) default).world.heap[g]?).bind Obj.row? = a7 (zero,t)) (p:zero.size=1)
  (J:P.buildable t=true) (I:P.cellTypes P.depth t=a7 [t]) (C:P.underlying t=a7 (.int k)) :
  ∃ m,w.heap[g]? = a7 (.cells #[.int k m] t):=by
 obtain⟨cs,i,hs,_⟩:=h.1 g zero t j o;obtain⟨m,hm⟩:=cell_of_shapedOpen_int h j o p J I C;refine⟨m,?_⟩;have R:cs.size=1:=by omega
 obtain⟨l⟩:=cs
 match l,R with
 | [a],_=>
  simp only[World.cell?,i] at hm;have:a = .int k m:=by simpa using hm
  rw[i,this]
theorem uw{W:bb}(I:W.ShapedOpen a6)
  (h:ef a6 W (a6.globals.getD 3 default).name .u64 e5)
  (J:∃ j p,W.var? a6 (a6.globals.getD 1 default).name=a7 #[.iface j p])
  (h2:∃ j p,W.var? a6 (a6.globals.getD 2 default).name=a7 #[.iface j p])
 :GT (fun _=>False) W:=by
 intro q i;unfold jV at i;rcases dz.1 i with rfl|i
 ·unfold ef World.var? at h;rw[show a6.globalNamed (a6.globals.getD 3 default).name=a7 3 by kernel_rfl] at h;simp only[obS] at h;split at h
  ·rename_i cs T fz o;refine⟨id,cs,T,fz,o,?_⟩;simp only[Option.some.injEq] at h;show cs=_;rw[h,e5,cI];rfl
  ·cases h
 rcases dz.1 i with rfl|i
 ·obtain⟨j,p,C⟩:=J;obtain⟨T,fz,o⟩:=YY (show a6.globalNamed (a6.globals.getD 1 default).name=a7 1 by kernel_rfl) C;exact⟨id,_,T,fz,o,j,p,rfl⟩
 rcases dz.1 i with rfl|i
 ·obtain⟨j,p,C⟩:=h2;obtain⟨T,fz,o⟩:=YY (show a6.globalNamed (a6.globals.getD 2 default).name=a7 2 by kernel_rfl) C;exact⟨id,_,T,fz,o,j,p,rfl⟩
 rcases dz.1 i with rfl|i
 ·obtain⟨m,hm⟩:=xE (g:=0) (t:=3) (zero:=#[.int .i64 0]) (k:=.i64) I (of_decide_eq_true (by kernel_rfl)) (by kernel_rfl) rfl (by kernel_rfl) (by kernel_rfl) (by kernel_rfl);exact⟨id,_,_,_,hm,m,rfl⟩
 cases i
open Go Go.RowKit Go.ChangeShapes Go.WideShapes
theorem Ui{H:Type}{enc:TypeId×Value->H}{a:Assume}{C:Checked}{os:Os}{f:FuncId}{fn:Func}{s:ChangeSpec}{R:List PathCond}{g fresh p T:Bool}{X:bb->Array Value->Prop}
  (hX:∀ (w w':bb) (args:Array Value),w.heap=w'.heap->X w args->X w' args)
  (own:ownKnob C.prog.godebug=iR) (P:os.Started) (U:C.prog.inits.idxOf? f=iR) (au:C.prog.funcs[f]? = a7 fn)
  (J:∃ (w:bb) (tape:Tape) (i:Input),w.os=os∧(w.forCall tape i).Shaped C.prog∧i.vars=[]∧Input.okWide C.prog (w.forCall tape i) .any w.heap.size f i ∧
   ((s.pre enc C.prog fn R g (w.forCall tape i).memory i.args∧X (w.forCall tape i).memory i.args)∧sizedMet enc C.prog fn (OpenSpec.ofChange s) g (w.forCall tape i).memory i.args)∧a.holds C.prog (lone (Frame.enter C.prog f i.args .normal) [] (w.forCall tape i)))
  (I:∀ (W:bb) (base:Nat) (args:Array Value) (ds gs:List (DataW H)) (o:List MemPlace),
   (∀ (j:Nat) t v,fn.params[j]? = a7 t->args[j]? = a7 v->Value.okWide C.prog W .any base t v) ->
   DataW.Whole enc C.prog fn.params.toList s.vars g W args.toList ds gs o->X W args->W.ShapedOpen C.prog ->
   fa C.prog f args W fun e W'=>∃ v,e = .returned v∧s.post enc C.prog fn g fresh p T W args v W') :
  ReturnsInHanded a C os f .any (fun w args=>(s.pre enc C.prog fn R g w args∧X w args)∧sizedMet enc C.prog fn (OpenSpec.ofChange s) g w args) (s.post enc C.prog fn g fresh p T):=by
 refine returnsInHanded_of_calls own P U J ?_;intro w tape i _ aj _ ao ab ad;obtain⟨_,_,_,av,ac,_,_,_,_,aa⟩:=ao;have e:av=fn:=Option.some.inj (ac.symm.trans au);subst e;obtain⟨⟨⟨ds,gs,o,hw,hc⟩,hx⟩,hz⟩:=ab;have ae:=DataW.Whole.of_heap (w':=w.forCall tape i) (by rfl) hw;refine (I (w.forCall tape i) w.heap.size i.args ds gs o aa ae (hX _ _ _ (by rfl) hx) aj).mono fun e W' ⟨v,he,hp⟩=>?_
 subst he;exact ChangeSpec.post_blind hp
theorem jd: "*" ++ "errors.errorString" = "*errors.errorString":=by decide
theorem zz(u:TypeId)(h:a6.typeName? 3 u=a7 "*errors.errorString"):u=287 :=
 typeName_ptr_named (nm:= "errors.errorString") (by rw[jd];kernel_rfl) (by kernel_rfl) (by decide) u (by rw[jd];exact h)
theorem uo:∃ ms,a6.underlying 56=a7 (.interface ms):=by
 have h:(match a6.underlying 56 with
  | some (.interface _)=>true
  | _=>false)=true:=by kernel_rfl
 revert h;generalize a6.underlying 56=x;intro h;split at h
 ·exact⟨_,rfl⟩
 ·cases h
theorem AFX:a6.underlying 287=a7 (.pointer 289):=by kernel_rfl
theorem AJE:∃ f:Field,a6.underlying 289=a7 (.struct #[f])∧f.type=9∧f.offset=0:=by
 have h:(match a6.underlying 289 with
  | some (.struct ⟨[f]⟩)=>decide (f.type=9)&&decide (f.offset=0)
  | _=>false)=true:=by kernel_rfl
 revert h;generalize a6.underlying 289=x;intro h;split at h
 ·rename_i f;simp only[baT,dtE] at h;exact⟨f,rfl,h.1,h.2⟩
 ·cases h
theorem AFW:a6.underlying 9=a7 .string:=by kernel_rfl
theorem Wm{n:String}{text:List UInt8}{W:bb}{g:Nat}(h:laidMet a6 [(n,.iface "*errors.errorString" (.ptr (.agg [.lit (.string text)])))] W)(I:a6.globalNamed n=a7 g)(C:(a6.globals[g]?).map (·.type)=a7 56):
  ∃ j p,W.var? a6 n=a7 #[.iface j p]:=by
 obtain⟨ms,i⟩:=uo;obtain⟨f,P,h2,J⟩:=AJE;obtain⟨a,s,o,_⟩:=laid_sentinel h I C i zz AFX P h2 J AFW (by kernel_rfl) (by kernel_rfl);exact⟨_,_,o⟩
end Go.Proofs.YtegmpdmpgmpiaaaGreatDoor
