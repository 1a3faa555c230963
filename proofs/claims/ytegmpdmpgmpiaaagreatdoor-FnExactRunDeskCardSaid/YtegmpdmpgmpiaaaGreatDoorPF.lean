/- Lemmas and walks, several texts in one. No condition. -/
import Derived.Test.YtegmpdmpgmpiaaaGreatDoorP3
import Derived.WideKeyArgs
import Derived.ChangeArms
open Bool renaming true->ao,not_true->b4,or_true->b9,false->bI,not_false->bR,true_and->bS,false_and->cb,eq_iff_iff->cd,and_true->cl,and_eq_true_iff->cn,false_or->cA,and_false->cL,true_or->c',not_eq_true'->e8,or_false->ew,not_and->gj,eq_false_iff->gk,not_eq_true->gv,and_self->h7,and_eq_false_iff->hC,not_eq_false'->hE,false_ne_true->hG,noConfusion->hO
open Decidable renaming decide->a7
open Go renaming TypeId->fa,Program->fx,World->hB,MemPlace->hS,undef->h',mapM_some_length->ix
open Go.Lib renaming decDigits->aj,itoa->bN,compareBytes->bX,decDigits_one->dw,decDigits_length->dX,trimPrefix->e9,parseUintM->fy,hasPrefix->gb,cut->h6,parseIntB->h9,index->hx,nDigits_small->hN,parseUintB->hZ,countFrom->ir
open Go.Op renaming bytesLess->c6
open Go.Proofs.YtegmpdmpgmpiaaaGreatDoor renaming obS->dT,bfT->ef,tnC->gg,cut->hR,baT->hX,gdE->ic,dtE->ik
open Inhabited renaming default->a8
open Int renaming ofNat_lt->ca,tmod_eq_emod_of_nonneg->cc,tdiv_eq_ediv_of_nonneg->cS,eq_ofNat_of_zero_le->ff,not_lt->hK
open List renaming range->b',length_cons->c7,length_append->c8,append_assoc->ct,all_eq_true->cI,find?_range_eq_some->db,mem_append->df,all_cons->ds,length->dz,length_drop->d',getElem?_drop->e3,count_eq_zero->e4,append_cancel_left->e5,getElem?_append_right->en,find?_eq_none->et,getElem?_append_left->ev,isPrefixOf->fi,take_append_drop->fm,getElem_of_mem->fA,mem_cons->fI,mem_singleton->ga,cons_append->gr,any_eq_true->gu,not_lt->gw,drop_drop->g',all_nil->hh,cons_lt_cons_iff->hz,count_cons_self->hD,count_append->hJ,le_antisymm->hL,getElem_mem->hM,nil_append->hP,length_nil->hQ,replicate->hT,mem_range->hV,lt_irrefl->hW,lt_trans->hY
open List.cons renaming inj->e7
open Nat renaming le_refl->cf,zero_le->e6,pow_succ->ej,lt_or_ge->ek,add_assoc->eL,pow_le_pow_right->fu,lt_of_lt_of_le->gf,mod_lt->hH,add_sub_cancel->hI
open Option renaming isSome_some->ax,getD_some->b8,some->bb,map_none->ea,map_some->gn,none->h8
open UInt8 renaming toNat_ofNat'->dc,toNat_inj->ec,ofNat->eu
set_option linter.defProp false
set_option linter.unusedSimpArgs false
set_option linter.unusedVariables false
open Go.IntKind (i64 u64)
noncomputable section
namespace Go.Proofs.YtegmpdmpgmpiaaaGreatDoor
open Go Go.RowKit Go.ChangeShapes Go.WideShapes Go.ChangeAt
inductive Sh where
 | bool|int (k:IntKind)|str
 | sl (sz:Nat) (agg:Bool) (e:Sh)
 | st (b:Sh)
 | nil|cons (a b:Sh)
def Xd:Sh->List AV->Prop
 | .bool,cs=>∃ b,cs=[.bool b]
 | .int k,cs=>∃ n,cs=[.int k n]∧(Lit.int k n).wf=ao
 | .str,cs=>∃ l:List UInt8,cs=[.str l]∧l.length<=maxLen
 | .sl sz agg e,cs=>∃ els:List AV,cs=[.sl sz els]∧els.length<=maxLen∧∀ el∈els,el.isAgg=agg∧Xd e el.cells
 | .st b,cs=>Xd b cs
 | .nil,cs=>cs=[]
 | .cons a b,cs=>∃ l r,cs=l++r∧Xd a l∧Xd b r
def wx(P:fx)(t:fa):Bool :=match P.underlying t with
 | some .string=>ao
 | _=>bI
def nW(P:fx)(t:fa):Bool :=match P.underlying t with
 | some .bool=>ao
 | _=>bI
def wy(P:fx)(t:fa)(k:IntKind):Bool :=match P.underlying t with
 | some (.int g)=>g==k
 | _=>bI
def AGW(P:fx)(t:fa):Option TypeId :=match P.underlying t with
 | some (.slice e)=>bb e
 | _=>h8
def wv(P:fx)(t:fa):Option (List Field) :=match P.underlying t with
 | some (.struct g)=>bb g.toList
 | _=>h8
def Rf(P:fx):Sh->fa⊕(List Field×Nat×Nat)->Bool
 | .bool,.inl t=>nW P t
 | .int k,.inl t=>wy P t k
 | .str,.inl t=>wx P t
 | .sl sz agg e,.inl t=>match AGW P t with
  | some el=>P.cellsOf el==sz&&(a7 (1<=sz)&&((agg||sz==1)&&Rf P e (.inl el)))
  | none=>bI
 | .st b,.inl t=>match wv P t with
  | some i=>Rf P b (.inr (i,0,P.cellsOf t))
  | none=>bI
 | .nil,.inr ([],off,g)=>off==g
 | .cons a b,.inr (f::r,off,g)=>f.offset==off&&(Rf P a (.inl f.type)&&Rf P b (.inr (r,off+P.cellsOf f.type,g)))
 | _,_=>bI
def gm(w:hB):List Value->List AV->Prop
 | [],[]=>True
 | v::vs,a::g=>VR (fun _=>False) w v a∧a.atom=ao∧gm w vs g
 | _,_=>False
theorem gm.append{w:hB}:∀ {j i:List Value} {a1 a2:List AV},gm w j a1->gm w i a2->gm w (j++i) (a1++a2)
 | [],_,[],_,_,h2=>h2
 | v::vs,_,a::o,_,g,h2=>⟨g.1,g.2.1,gm.append g.2.2 h2⟩
 | [],_,_::_,_,g,_=>g.elim
 | _::_,_,[],_,g,_=>g.elim
theorem gm.len{w:hB}:∀ {l:List Value} {a:List AV},gm w l a->l.length=a.length
 | [],[],_=>rfl
 | v::vs,a::g,h=>by simp[gm.len h.2.2]
 | [],_::_,h=>h.elim
 | _::_,[],h=>h.elim
theorem gm.get{w:hB}:∀ {l:List Value} {a:List AV},gm w l a->∀ j,j<a.length->VR (fun _=>False) w (l.getD j h') (a.getD j .any)∧(a.getD j .any).atom=ao
 | [],[],_,j,g=>by simp at g
 | v::vs,a::i,h,0,_=>⟨h.1,h.2.1⟩
 | v::vs,a::i,h,j+1,g=>by simpa using gm.get h.2.2 j (by simpa using g)
 | [],_::_,h,_,_=>h.elim
 | _::_,[],h,_,_=>h.elim
theorem aB{a:AV}(h:a.atom=ao):a.cells=[a]∧a.isAgg=bI:=by
 cases a<;>simp[AV.atom] at h<;>exact⟨rfl,rfl⟩
theorem gm.atoms{w:hB}:∀ {l:List Value} {a:List AV},gm w l a->a.all AV.atom=ao
 | [],[],_=>rfl
 | v::vs,a::g,h=>by simp[h.2.1,gm.atoms h.2.2]
 | [],_::_,h=>h.elim
 | _::_,[],h=>h.elim
section
variable {H:Type}{enc:fa×Value->H}{P:fx}{w:hB}{spare:Nat->Bool}{held:Bool}
theorem Yp{f:Nat->Option Value}{n:Nat}{l:List Value}(h:(b' n).mapM f=bb l){i:Nat}(hi:i<n):f i=l[i]? ∧ l.length=n:=by
 have g:=ix h;simp only[List.length_range] at g;exact⟨mapM_some_get h i i (by simp[hi]),g⟩
theorem Oj:∀ (sh:Sh) (q:fa⊕(List Field×Nat×Nat)) (cs:List Value),Rf P sh q=ao ->
  (match q with
   | .inl t=>∃ n x,DataW.trod enc P w 0 spare held n t cs=bb x
   | .inr (fs,off,J)=>off<=J∧cs.length=J∧∀ f,f∈fs->∃ n x,DataW.trod enc P w 0 spare held n f.type ((cs.drop f.offset).take (P.cellsOf f.type))=bb x) ->
  ∃ au,Xd sh au∧gm w (match q with | .inl _=>cs | .inr (_,off,_)=>cs.drop off) au
 | .bool,.inl t,cs,hs,⟨n,x,h⟩=>by
  simp only[Rf,nW] at hs;split at hs
  ·rename_i ht;obtain⟨b,rfl,_⟩:=DataW.trod_bool ht h;exact⟨[.bool b],⟨b,rfl⟩,.bool,rfl,trivial⟩
  ·cases hs
 | .int k,.inl t,cs,hs,⟨n,x,h⟩=>by
  simp only[Rf,wy] at hs;split at hs
  ·rename_i k' ht;have e:k'=k:=by simpa using hs
   subst e;obtain⟨m,rfl,_,hw⟩:=DataW.trod_int ht h;exact⟨[.int k' m],⟨m,rfl,hw⟩,.int,rfl,trivial⟩
  ·cases hs
 | .str,.inl t,cs,hs,⟨n,x,h⟩=>by
  simp only[Rf,wx] at hs;split at hs
  ·rename_i ht;obtain⟨s,rfl,_,hw⟩:=DataW.trod_string ht h;have e:s=⟨s.data.toList.toArray⟩:=by cases s;simp
   refine⟨[.str s.data.toList],⟨_,rfl,hw⟩,?_,rfl,trivial⟩;have:VR (fun _=>False) w (.string ⟨s.data.toList.toArray⟩) (.str s.data.toList):=.str
   rwa [← e] at this
  ·cases hs
 | .st b,.inl t,cs,hs,⟨n,x,h⟩=>by
  simp only[Rf] at hs;split at hs
  ·rename_i fs ht;simp only[wv] at ht;split at ht<;>try (cases ht;done)
   rename_i a5 hu;obtain rfl:=Option.some.inj ht;obtain⟨xs,m,rfl,_,hl,hn,hf⟩:=DataW.trod_struct hu h;have:=Oj b (.inr (a5.toList,0,P.cellsOf t)) cs hs ⟨e6 _,hl,fun f b1=>?_⟩
   ·simpa[Xd] using this
   ·obtain⟨i,hi,he⟩:=fA b1
    have C:a5[i]? = bb f:=by
     rw[← Array.getElem?_toList,geE hi,he]
    have h2:=hf i f C;have h3:i<xs.length:=by rw[hn];simpa using hi
    rw[geE h3] at h2;exact⟨m,_,h2⟩
  ·cases hs
 | .nil,.inr ([],off,J),cs,hs,⟨h0,C,h2⟩=>by
  simp only[Rf,beq_iff_eq] at hs;refine⟨[],rfl,?_⟩;show gm w (cs.drop off) [];rw[List.drop_eq_nil_of_le (by omega)];trivial
 | .cons a b,.inr (f::r,off,J),cs,hs,⟨h0,C,h2⟩=>by
  simp only[Rf,hX,beq_iff_eq] at hs;obtain⟨ho,ha,hb⟩:=hs;obtain⟨b7,f1,v1⟩:=Oj a (.inl f.type) _ ha (h2 f (by simp))
  by_cases hc:off+P.cellsOf f.type<=J
  ·obtain⟨b6,f2,v2⟩:=Oj b (.inr (r,off+P.cellsOf f.type,J)) cs hb ⟨hc,C,fun g hg=>h2 g (by simp[hg])⟩;refine⟨b7++b6,⟨_,_,rfl,f1,f2⟩,?_⟩
   have e:cs.drop off=(cs.drop f.offset).take (P.cellsOf f.type)++cs.drop (off+P.cellsOf f.type):=by
    rw[ho,← g',fm]
   show gm w (cs.drop off) _;rw[e];exact v1.append v2
  ·exfalso
   have key:∀ (sh:Sh) (fs:List Field) (o:Nat),Rf P sh (.inr (fs,o,J))=ao->o<=J:=by
    intro sh fs
    induction fs generalizing sh with
    | nil=>intro o h;cases sh<;>simp[Rf] at h;omega
    | cons f fs ih=>
     intro o h;cases sh<;>simp[Rf] at h
     have:=ih _ _ h.2.2;omega
   exact hc (key _ _ _ hb)
 | .sl sz agg e,.inl t,cs,hs,⟨n,x,h⟩=>by
  simp only[Rf] at hs;split at hs
  ·rename_i el R;simp only[AGW] at R;split at R<;>try (cases R;done)
   rename_i a6 hu;obtain rfl:=Option.some.inj R;simp only[hX,beq_iff_eq,ik,Bool.or_eq_true] at hs;obtain⟨be,ae,b3,bs⟩:=hs;rcases DataW.trod_slice hu h with⟨rfl,_⟩|⟨a,len,cap,b5,rest,m,rfl,rfl,_,_,b0,cm,R,a1,_,_⟩
   ·refine⟨[.sl sz []],⟨[],rfl,by simp,by simp⟩,?_,rfl,trivial⟩;exact .sl 0 0 (fun _ _=>h') rfl (cf _) ae (fun c=>by simp at c) (fun i hi=>by simp at hi) (fun i j hi=>by simp at hi) (fun i j hi=>by simp at hi)
   ·have a0:∀ i,i<len->∃ I y,w.cells? 0 (a.add (i*sz)) sz=bb I∧DataW.trod enc P w 0 spare held m a6 I=bb y:=by
     intro i hi;have:=a1 i hi;rw[geE (by omega),Option.bind_eq_some_iff,be] at this;obtain⟨I,c1,c2⟩:=this;exact⟨I,_,c1,c2⟩
    have a3:∀ i,∃ I au,i<len->w.cells? 0 (a.add (i*sz)) sz=bb I∧Xd e au∧gm w I au:=by
     intro i
     by_cases hi:i<len
     ·obtain⟨I,y,c1,c2⟩:=a0 i hi;obtain⟨au,f1,v1⟩:=Oj e (.inl a6) I bs ⟨m,y,c2⟩;exact⟨I,au,fun _=>⟨c1,f1,v1⟩⟩
     ·exact⟨[],[],fun c=>absurd c hi⟩
    obtain⟨rd,bv⟩:=Classical.axiomOfChoice a3;obtain⟨av,ac⟩:=Classical.axiomOfChoice bv
    have T:∀ i,i<len->(rd i).length=sz∧∀ j,j<sz->w.cell? ((a.add (i*sz)).add j)=bb ((rd i).getD j h'):=by
     intro i hi;have C:=(ac i hi).1;unfold World.cells? at C;split at C
     ·rename_i hb;refine⟨?_,fun j hj=>?_⟩
      ·have:=ix C;simpa using this
      ·obtain⟨h2,h3⟩:=Yp C hj;rw[h2,ic,geE (by omega)];rfl
     ·cases C
    have aa:0<len->a=⟨a.block,a.off,h8⟩:=by
     intro h0;have C:=(T 0 h0).2 0 (by omega);simp only[Nat.zero_mul,Addr.add,if_true] at C;unfold World.cell? at C;split at C
     ·split at C
      ·cases C
      ·rename_i bo;obtain⟨b,o,s⟩:=a;cases s
       ·rfl
       ·simp at bo
     ·cases C
    let U:Nat->AV:=fun i=>if agg=ao then .agg (av i) else (av i).getD 0 .any
    have ab:∀ i,i<len->(U i).cells=av i∧(U i).isAgg=agg∧(av i).length=sz:=by
     intro i hi;obtain⟨_,f1,v1⟩:=ac i hi;have hl:(av i).length=sz:=by rw[← v1.len];exact (T i hi).1
     by_cases hg:agg=ao
     ·simp only[U];rw[if_pos hg];exact⟨rfl,hg.symm,hl⟩
     ·have C:sz=1:=by
       rcases b3 with c|c
       ·exact absurd c hg
       ·exact c
      simp only[U];rw[if_neg hg]
      match hA:av i,hl with
      | [y],_=>
       have a4:=v1.atoms;rw[hA] at a4;have:=aB (a:=y) (by simpa using a4);exact⟨this.1,by simpa using this.2.trans (by cases agg<;>simp_all),by simp[C]⟩
      | [],hl=>simp at hl;omega
      | _::_::_,hl=>simp at hl;omega
    refine⟨[.sl sz ((b' len).map U)],⟨_,rfl,by simp;omega,fun el R=>?_⟩,?_,rfl,trivial⟩
    ·obtain⟨i,hi,rfl⟩:=List.mem_map.1 R;have p:i<len:=by simpa using hi
     obtain⟨c1,c2,_⟩:=ab i p;exact⟨c2,by rw[c1];exact (ac i p).2.1⟩
    ·have a2:∀ i,i<len->((b' len).map U).getD i .any=U i:=by
      intro i hi;simp[ic,List.getElem?_map,hi]
     refine .sl a.block a.off (fun i j=>(rd i).getD j h') (by simp) b0 ae (fun c=>⟨by rw[← aa (by simpa using c)],fun c=>c⟩) (fun i hi=>?_) (fun i j hi hj=>?_) (fun i j hi hj=>?_)
     ·have p:i<len:=by simpa using hi
      rw[a2 i p];obtain⟨c1,_,c3⟩:=ab i p;refine⟨by rw[c1,c3],?_⟩;unfold AV.atoms;rw[c1];exact (ac i p).2.2.atoms
     ·have p:i<len:=by simpa using hi
      have C:=(T i p).2 j hj;have hs:=aa (by omega)
      have:((a.add (i*sz)).add j)=⟨a.block,a.off+(i*sz+j),h8⟩:=by
       rw[hs];unfold Addr.add
       by_cases e1:i*sz=0<;>by_cases e2:j=0<;>simp[e1,e2]
       omega
      rw[← this];exact C
     ·have p:i<len:=by simpa using hi
      rw[a2 i p];obtain⟨c1,_,c3⟩:=ab i p;rw[c1];exact ((ac i p).2.2.get j (by omega)).1
  ·cases hs
 | .bool,.inr _,_,hs,_=>by simp[Rf] at hs
 | .int _,.inr _,_,hs,_=>by simp[Rf] at hs
 | .str,.inr _,_,hs,_=>by simp[Rf] at hs
 | .sl _ _ _,.inr _,_,hs,_=>by simp[Rf] at hs
 | .st _,.inr _,_,hs,_=>by simp[Rf] at hs
 | .nil,.inl _,_,hs,_=>by simp[Rf] at hs
 | .cons _ _,.inl _,_,hs,_=>by simp[Rf] at hs
 | .nil,.inr (_::_,_,_),_,hs,_=>by simp[Rf] at hs
 | .cons _ _,.inr ([],_,_),_,hs,_=>by simp[Rf] at hs
def ZC:Sh->Bool
 | .st _=>ao
 | _=>bI
theorem yz{r:Reach}{b0:Nat}{t:fa}{v:Value}{d:DataW H}{ps:List hS}{sh:Sh}(hs:Rf P sh (.inl t)=ao)(g:Value.okWide P w r b0 t v)(h:DataW.Trod enc P w 0 spare held t v d ps):
  ∃ a:AV,Xd sh a.cells∧a.isAgg=ZC sh∧VR (fun _=>False) w v a:=by
 obtain⟨n,U⟩:=h;obtain⟨J,I,v1⟩:=Oj sh (.inl t) _ hs ⟨n,_,U⟩
 have one:ZC sh=bI->v.cells = #[v]->∃ a:AV,Xd sh a.cells∧a.isAgg=ZC sh∧VR (fun _=>False) w v a:=by
  intro T R;rw[R] at v1
  match J,v1 with
  | [a],v1=>
   obtain⟨c1,c2⟩:=aB v1.2.1;exact⟨a,by rw[c1];exact I,by rw[c2,T],v1.1⟩
 cases sh
 case bool=>
  refine one rfl ?_;simp only[Rf,nW] at hs;split at hs<;>try (cases hs;done)
  rename_i i;obtain⟨b,rfl⟩:=okWide_bool i g;rfl
 case int k=>
  refine one rfl ?_;simp only[Rf,wy] at hs;split at hs<;>try (cases hs;done)
  rename_i i;obtain⟨b,rfl⟩:=okWide_int i g;rfl
 case str=>
  refine one rfl ?_;simp only[Rf,wx] at hs;split at hs<;>try (cases hs;done)
  rename_i i;obtain⟨b,rfl⟩:=okWide_string i g;rfl
 case sl sz agg e=>
  refine one rfl ?_;simp only[Rf] at hs;split at hs<;>try (cases hs;done)
  rename_i el p;simp only[AGW] at p;split at p<;>try (cases p;done)
  rename_i i;obtain⟨b,l,c,rfl⟩:=okWide_slice i g;rfl
 case st b=>
  simp only[Rf] at hs;split at hs<;>try (cases hs;done)
  rename_i fs o;simp only[wv] at o;split at o<;>try (cases o;done)
  rename_i i;obtain⟨cs,rfl,_⟩:=okWide_struct i g;refine⟨.agg J,I,rfl,.agg ?_ (fun j C=>(v1.get j C).2) fun j C=>?_⟩
  ·have:=v1.len;simpa[Value.cells] using this
  ·have:=(v1.get j C).1
   rwa [show (Value.agg cs).cells.toList.getD j h'=cs.getD j h' by simp[Value.cells,ic,agD]] at this
 case nil=>simp[Rf] at hs
 case cons=>simp[Rf] at hs
end
def SD(n:Int):Prop:=-9223372036854775808<=n∧n<=9223372036854775807
theorem AIG{a b:AV}(g:a.cells=b.cells)(h2:a.isAgg=b.isAgg):a=b:=by
 cases a<;>cases b<;>simp_all [AV.cells,AV.isAgg]
structure Ty(α:Type)where
 sh:Sh
 f:α->AV
 wf:α->Prop
 top:∀ x,(f x).isAgg=ZC sh
 fits:∀ cs,Xd sh cs->∃ x,cs=(f x).cells∧wf x
theorem Ty.of{α:Type}(T:Ty α){a:AV}(h:Xd T.sh a.cells)(i:a.isAgg=ZC T.sh):∃ x,a=T.f x∧T.wf x:=by
 obtain⟨x,e,g⟩:=T.fits _ h;exact⟨x,AIG e (by rw[i,T.top]),g⟩
def uq:Ty (List UInt8):=⟨.str,.str,fun l=>l.length<=maxLen,fun _=>rfl,fun cs ⟨n,e,h⟩=>⟨n,e,h⟩⟩
theorem AIH{α:Type}(T:Ty α){H:Type}{enc:fa×Value->H}{P:fx}{w:hB}{spare:Nat->Bool}{held:Bool}{r:Reach}{C:Nat}{t:fa}{v:Value}{d:DataW H}{ps:List hS}
  (hs:Rf P T.sh (.inl t)=ao) (g:Value.okWide P w r C t v) (h:DataW.Trod enc P w 0 spare held t v d ps):∃ x,VR (fun _=>False) w v (T.f x)∧T.wf x:=by
 obtain⟨a,p,o,j⟩:=yz hs g h;obtain⟨x,e,i⟩:=T.of p o;exact⟨x,e▸j,i⟩
theorem AG.sameAt{w w':hB}(h:AG (fun _=>False) w w'){p:hS}(i:p.block<w.heap.size):w.sameAt w' p:=by
 have g:=h.block p.block i fun c=>c
 cases p with
 | cell b off=>simp only[MemPlace.block] at g;simp only[World.sameAt,World.cell?,g]
 | map b=>simp only[MemPlace.block] at g;simp only[World.sameAt,g]
end Go.Proofs.YtegmpdmpgmpiaaaGreatDoor
namespace Go.Proofs.YtegmpdmpgmpiaaaGreatDoor
open Go Go.RowKit
theorem dy{α:Type}{c:Bool}[inst:Decidable (c=ao)](a b:α):@ite α (c=ao) inst a b=cond c a b:=by cases c<;>simp
theorem Af(i n:Nat):AU (i:Int) n=a7 (i<n):=by
 simp only[AU];by_cases h:i<n<;>simp[h]<;>omega
theorem Di{i:Int}{n:Nat}(g:0<=i)(h2:i<n):AU i n=ao:=by simp[AU,g,h2]
theorem Z2{i:Int}{n:Nat}(h:0<=i∧i<n):AU i n=true:=Di h.1 h.2
theorem Fs{a b:Int}{n:Nat}(i:0<=a)(h2:a<=b)(g:b<=n):If a b n=ao:=by simp[If,i,h2,g]
theorem Z3{a b:Int}{n:Nat}(h:0<=a∧a<=b∧b<=n):If a b n=true:=Fs h.1 h.2.1 h.2.2
theorem QS{n:Int}(h:n≠0):nz n=ao:=by simp[nz,h]
theorem Tu{n:Int}(h:0<=n):SL n=ao:=by simp[SL,h]
theorem Au{m n:Nat}(h:m+n<=9223372036854775807):CN m n=ao:=by simp[CN,h]
theorem Ba{n b:Nat}(h:n*b<=140737488355328):DH n b=ao:=by simp[DH,h]
theorem Aa{i:Nat}(h:i<9223372036854775807):i64.wrap ((i:Int)+1)=((i+1:Nat):Int):=by
 rw[Z1 (by omega)];simp
theorem nF:¬bI=true:=hG
theorem Z4(i:Nat)(h:i<9223372036854775807:=by omega):i64.wrap ((i:Int)+1)=((i+1:Nat):Int):=Aa h
theorem pC(n:Int):SD (i64.wrap n):=by
 unfold SD IntKind.wrap IntKind.bits;simp[IntKind.signed];omega
theorem Cm{α:Type}{xs:List α}{i:Nat}(h:i<xs.length)(d:α):xs.getD i d=xs[i]:=by
 simp[ic,geE h]
theorem Kr{ρ:Type}{step:Int->Option (Int⊕ρ)}(p:Nat->Bool)(n:Nat)(q:Bool){yes no:ρ}(I:q=ao ↔ ∀ i,i<n->p i=ao)(hs:∀ i:Nat,i<n->step (i:Int)=bb (if p i=ao then .inl ((i+1:Nat):Int) else .inr no))
  (T:step (n:Int)=bb (.inr yes)):AE step 0=bb (if q=ao then yes else no):=by
 have o:∀ m i:Nat,i+m=n->(∀ j,i<=j->j<n->p j=ao)->AE step (i:Int)=bb yes:=by
  intro m
  induction m with
  | zero=>
   intro i hi _;obtain rfl:i=n:=by omega
   exact Ae T
  | succ m C=>
   intro i hi h;rw[Ak (by rw[hs i (by omega),if_pos (h i (cf _) (by omega))])];exact C (i+1) (by omega) fun j R h2=>h j (by omega) h2
 have bad:∀ m i:Nat,i+m=n->(∃ j,i<=j∧j<n∧p j=bI)->AE step (i:Int)=bb no:=by
  intro m
  induction m with
  | zero=>rintro i hi ⟨j,R,h2,_⟩;omega
  | succ m C=>
   rintro i hi ⟨j,R,h2,J⟩
   by_cases g:p i=ao
   ·rw[Ak (by rw[hs i (by omega),if_pos g])];refine C (i+1) (by omega) ⟨j,?_,h2,J⟩;rcases ek i j with c|c
    ·omega
    ·obtain rfl:i=j:=by omega
     rw[J] at g;cases g
   ·exact Ae (by rw[hs i (by omega),if_neg g])
 cases q with
 | true=>exact o n 0 (by omega) fun j _ h=>I.1 rfl j h
 | false=>
  refine bad n 0 (by omega) ?_;refine Classical.byContradiction fun U=>?_
  have:bI=true:=I.2 fun i hi=>by
   cases g:p i with
   | true=>rfl
   | false=>exact absurd ⟨i,e6 _,hi,g⟩ U
  cases this
theorem LH{σ ρ:Type}{step:σ×Int->Option ((σ×Int)⊕ρ)}(f:Nat->σ)(n:Nat){r:ρ}(hs:∀ i:Nat,i<n->step (f i,(i:Int))=bb (.inl (f (i+1),((i+1:Nat):Int))))
  (g:step (f n,(n:Int))=bb (.inr r)):AE step (f 0,0)=bb r:=by
 have:=PZ (step:=step) (fun i=>(f i,(i:Int))) n (fun i hi=>hs i hi) g;exact this
theorem Dq{σ ρ:Type}{step:σ->Option (σ⊕ρ)}(g:σ->Prop)(Q:ρ->Prop)(μ:σ->Nat)
  (h:∀ s,g s->(∃ s',step s=bb (.inl s')∧g s'∧μ s'<μ s)∨∃ r,step s=bb (.inr r)∧Q r) {s:σ} (hs:g s):∃ y,AE step s=bb y∧Q y:=by
 generalize hm:μ s=m
 induction m using Nat.strongRecOn generalizing s with
 | _ m i=>
  rcases h s hs with⟨s',e,hi,o⟩|⟨r,e,j⟩
  ·rw[Ak e];exact i _ (by omega) hi rfl
  ·exact⟨r,Ae e,j⟩
theorem Qi{σ ρ:Type}{step step':σ->Option (σ⊕ρ)}(g:σ->Prop)(h:∀ s,g s->step s=step' s)(C:∀ s s',g s->step s=bb (.inl s')->g s'){s:σ}(hs:g s):AE step s=AE step' s:=by
 have one:∀ n s,g s->Jr step n s=Jr step' n s:=by
  intro n
  induction n with
  | zero=>intro s _;rfl
  | succ n p=>
   intro s hs;simp only[Jr,← h s hs];cases i:step s with
   | none=>rfl
   | some o=>
    cases o with
    | inl s'=>exact p s' (C s s' hs i)
    | inr r=>rfl
 apply Option.ext;intro r;constructor
 ·intro e;obtain⟨n,j⟩:=Ik e;exact Lr (n:=n) (by rw[← one n s hs];exact j)
 ·intro e;obtain⟨n,j⟩:=Ik e;exact Lr (n:=n) (by rw[one n s hs];exact j)
theorem Id{α:Type}{xs:List α}{i:Nat}(h:i<xs.length)(d:α):xs.getD i d∈xs:=by
 rw[Cm h];exact hM h
theorem QK{n:Nat}{p:Nat->Bool}(h:(b' n).all p=ao){i:Nat}(hi:i<n):p i=ao:=by
 simp only[cI,hV] at h;exact h i hi
section
variable {H:Type}{enc:fa×Value->H}{P:fx}
theorem AJI(U:laidOutB P=ao){t:fa}(T:P.readableRec t=ao)(j:t<P.types.size){W R:hB}(hs:AG (fun _=>False) W R){J:Nat->Bool}{v:Value}{d:DataW H}{ps g:List hS}
  (h:DataW.Trod enc P W 0 (fun _=>ao) ao t v d ps) (i:∀ p∈ps,p∈g) (I:∀ p∈g,p.block<W.heap.size) (o:∀ p∈g,J p.block=ao):DataW.Trod enc P R 0 J ao t v d ps :=
 WideElems.Trod_stays U T j h (fun p C=>hs.sameAt (I p (i p C))) (fun p C=>o p (i p C))
end
theorem De(n a b:Int):Bm n a b=bb (a7 (a<=n)&&a7 (n<=b)):=id rfl
theorem Es(n a b:Int):Dk n a b=bb (a7 (a<=n)&&a7 (n<=b)):=id rfl
def jP(first:Bool)(c:UInt8):Bool:=(a7 (97<=c.toNat)&&a7 (c.toNat<=122))||(!first&&((a7 (48<=c.toNat)&&a7 (c.toNat<=57))||c.toNat==45))
def Jf(s:List UInt8):Bool:=a7 (1<=s.length)&&(a7 (s.length<=12)&&((b' s.length).all fun i=>jP (i==0) (s.getD i 0)))
theorem Ry{n:Nat}{p:Nat->Bool}:((b' n).all p=ao) ↔ ∀ i,i<n->p i=ao:=by simp
theorem wF(c:UInt8)(i:Nat):(!((a7 ((97:Int)<=(c.toNat:Int)))&&(a7 ((c.toNat:Int)<=122)))&&(((i:Int)==0)||(!(((a7 ((48:Int)<=(c.toNat:Int)))&&(a7 ((c.toNat:Int)<=57)))||((c.toNat:Int)==45))))) = !jP (i==0) c:=by
 have I:a7 ((97:Int)<=(c.toNat:Int))=a7 (97<=c.toNat):=by rw[decide_eq_decide];omega
 have C:a7 ((c.toNat:Int)<=122)=a7 (c.toNat<=122):=by rw[decide_eq_decide];omega
 have p:a7 ((48:Int)<=(c.toNat:Int))=a7 (48<=c.toNat):=by rw[decide_eq_decide];omega
 have o:a7 ((c.toNat:Int)<=57)=a7 (c.toNat<=57):=by rw[decide_eq_decide];omega
 have j:((c.toNat:Int)==45)=(c.toNat==45):=by rw[cd];simp;omega
 have g:((i:Int)==0)=(i==0):=by rw[cd];simp
 rw[I,C,p,o,j,g];unfold jP;cases decide (97<=c.toNat)<;>cases decide (c.toNat<=122)<;>cases decide (48<=c.toNat)<;>cases decide (c.toNat<=57)<;>cases (c.toNat==45)<;>cases (i==0)<;>rfl
theorem sg(c:UInt8):(((!(a7 (97<=c.toNat)&&a7 (c.toNat<=122)))&&(!(a7 (48<=c.toNat)&&a7 (c.toNat<=57))))&&(!((c.toNat:Int)==45))) = !jP bI c:=by
 have g:((c.toNat:Int)==45)=(c.toNat==45):=by rw[cd];simp;omega
 rw[g];unfold jP;cases decide (97<=c.toNat)<;>cases decide (c.toNat<=122)<;>cases decide (48<=c.toNat)<;>cases decide (c.toNat<=57)<;>cases (c.toNat==45)<;>rfl
theorem Ib(s:List UInt8):By s=bb (Jf s):=by
 unfold By
 by_cases h:((s.length:Int)<1)∨((12:Int)<s.length)
 ·have g:((a7 ((s.length:Int)<1))||(a7 ((12:Int)<(s.length:Int))))=ao:=by simpa using h
  have h2:Jf s=bI:=by unfold Jf;by_cases a:1<=s.length<;>by_cases b:s.length<=12<;>simp[a,b]<;>omega
  simp only[g,if_true,h2]
 ·have g:((a7 ((s.length:Int)<1))||(a7 ((12:Int)<(s.length:Int))))=bI:=by simpa using h
  simp only[g,ef,if_false];rw[Kr (step:=Ia s (s.length:Int)) (fun i=>jP (i==0) (s.getD i 0)) s.length ((b' s.length).all fun i=>jP (i==0) (s.getD i 0)) (yes:=.inl ()) (no:=.inr bI) Ry]
  ·have a1:1<=s.length:=by omega
   have a2:s.length<=12:=by omega
   unfold Jf;simp only[a1,a2,decide_true,bS];cases ((b' s.length).all fun i=>jP (i==0) (s.getD i 0))<;>rfl
  ·intro i hi;simp only[Ia,ca,hi,decide_true,if_true,Af,AB,gg,(Z4 i)];rw[wF];cases jP (i==0) (s.getD i 0)<;>rfl
  ·simp[Ia]
theorem Oo(c:UInt8):GG c=bb (a7 (97<=c.toNat)&&a7 (c.toNat<=122)):=by
 have g:((97:Int)<=(c.toNat:Int)) ↔ 97<=c.toNat:=by omega
 have h2:((c.toNat:Int)<=122) ↔ c.toNat<=122:=by omega
 simp[GG,g,h2]
theorem Vl(c:UInt8):Dd c=bb (a7 (48<=c.toNat)&&a7 (c.toNat<=57)):=by
 have g:((48:Int)<=(c.toNat:Int)) ↔ 48<=c.toNat:=by omega
 have h2:((c.toNat:Int)<=57) ↔ c.toNat<=57:=by omega
 simp[Dd,g,h2]
theorem IU(s:List UInt8):CI s=bb (Jf s):=by
 unfold CI
 by_cases h:s.length=0∨12<s.length
 ·have p:((s==([]:List UInt8))||(a7 ((12:Int)<(s.length:Int))))=ao:=by
   rcases h with h|h
   ·have:s=[]:=List.eq_nil_of_length_eq_zero h;simp[this]
   ·simp;right;omega
  have h2:Jf s=bI:=by unfold Jf;by_cases a:1<=s.length<;>by_cases b:s.length<=12<;>simp[a,b]<;>omega
  simp only[p,h2,b4,bR,c',AB,if_true]
 ·have p:((s==([]:List UInt8))||(a7 ((12:Int)<(s.length:Int))))=bI:=by
   rw[Bool.or_eq_false_iff];refine⟨?_,by simp;omega⟩;rw[beq_eq_false_iff_ne];rintro rfl;simp at h
  have j:AU 0 s.length=true:=Z2 (by omega);simp only[p,j,Oo,ax,b8,b9,AB,cA]
  by_cases o:(a7 (97<=(s.getD 0 0).toNat)&&a7 ((s.getD 0 0).toNat<=122))=ao
  ·rw[o];simp only[b4,ef,if_false];rw[Kr (step:=IT s) (fun i=>jP bI (s.getD i 0)) s.length ((b' s.length).all fun i=>jP (i==0) (s.getD i 0)) (yes:=.inl ()) (no:=.inr bI)]
   ·have a1:1<=s.length:=by omega
    have a2:s.length<=12:=by omega
    unfold Jf;simp only[a1,a2,decide_true,bS];cases ((b' s.length).all fun i=>jP (i==0) (s.getD i 0))<;>rfl
   ·rw[Ry];refine forall_congr' fun i=>forall_congr' fun hi=>?_
    by_cases e:i=0
    ·subst e;simp only[jP,o,c']
    ·have:(i==0)=bI:=by simpa using e
     rw[this]
   ·intro i hi;simp only[IT,ca,hi,decide_true,if_true,Af,AB,gg,(Z4 i),Oo,Vl,dT,ax,b8,b9];rw[sg];cases jP false (s.getD i 0)<;>rfl
   ·simp[IT]
  ·have g:(a7 (97<=(s.getD 0 0).toNat)&&a7 ((s.getD 0 0).toNat<=122))=bI:=by simpa using o
   rw[g]
   have:Jf s=bI:=by
    unfold Jf
    have:((b' s.length).all fun i=>jP (i==0) (s.getD i 0))=bI:=by
     cases C:((b' s.length).all fun i=>jP (i==0) (s.getD i 0)) with
     | false=>rfl
     | true=>
      have:=Ry.1 C 0 (by omega);simp only[jP,g,beq_self_eq_true,b4,cb,ew,ef] at this
    simp only[this,cL]
   rw[this];rfl
theorem Lq{ρ:Type}{step:Int->Option (Int⊕(Unit⊕ρ))}(p:Nat->Bool)(g:Nat->ρ)(n:Nat)
  (hs:∀ i,i<n->step (i:Int)=bb (if p i=ao then .inr (.inr (g i)) else .inl ((i+1:Nat):Int))) (he:step (n:Int)=bb (.inr (.inl ()))) :
  AE step 0=bb (match (b' n).find? p with|some j=>.inr (g j)|none=>.inl ()):=by
 have key:∀ m i:Nat,i+m=n->(∀ k,k<i->p k=bI)->AE step (i:Int)=bb (match (b' n).find? p with|some j=>.inr (g j)|none=>.inl ()):=by
  intro m
  induction m with
  | zero=>
   intro i hi C;obtain rfl:i=n:=by omega
   rw[Ae he]
   have:(b' i).find? p=h8:=by
    rw[et];intro x R;rw[C x (by simpa using R)];exact hG
   rw[this]
  | succ m J=>
   intro i hi C;have o:i<n:=by omega
   by_cases I:p i=ao
   ·rw[Ae (by rw[hs i o,if_pos I])]
    have:(b' n).find? p=bb i:=by
     rw[db];exact⟨I,by simpa using o,fun j U=>by simp[C j U]⟩
    rw[this]
   ·rw[Ak (by rw[hs i o,if_neg I])];refine J (i+1) (by omega) fun k T=>?_
    rcases ek k i with c|c
    ·exact C k c
    ·obtain rfl:k=i:=by omega
     simpa using I
 exact key n 0 (by omega) fun k C=>by omega
theorem lH{α:Type}[Inhabited α](xs:List α)(f:α->Bool):((b' xs.length).find? fun i=>f (xs.getD i a8)).isSome=xs.any f:=by
 rw[cd,List.find?_isSome,gu];constructor
 ·rintro⟨i,hi,j⟩;have g:i<xs.length:=by simpa using hi
  exact⟨_,Id g a8,j⟩
 ·rintro⟨x,o,j⟩;obtain⟨i,hi,rfl⟩:=fA o;exact⟨i,by simpa using hi,by rw[Cm hi];exact j⟩
def Na{α β:Type}(p:Nat->Bool)(x:Nat->β)(n:Nat):List β:=((b' n).filter p).map x
theorem kY{β:Type}(p:Nat->Bool)(x:Nat->β)(n:Nat):Na (α:=β) p x (n+1)=if p n=ao then Na (α:=β) p x n++[x n] else Na (α:=β) p x n:=by
 unfold Na;rw[List.range_succ,List.filter_append,List.map_append]
 by_cases h:p n=ao
 ·simp[h]
 ·simp[h]
theorem Yz{β:Type}(p:Nat->Bool)(x:Nat->β)(n:Nat):(Na (α:=β) p x n).length<=n:=by
 unfold Na;rw[List.length_map];exact Nat.le_trans (List.length_filter_le _ _) (by simp)
theorem Sl{β ρ:Type}{step:List β×Int->Option ((List β×Int)⊕ρ)}(p:Nat->Bool)(x:Nat->β)(n:Nat){r:ρ}
  (hs:∀ (out:List β) (i:Nat),i<n->out.length<=i->step (out,(i:Int))=bb (.inl (if p i=ao then out++[x i] else out,((i+1:Nat):Int))))
  (g:step (Na (α:=β) p x n,(n:Int))=bb (.inr r)):AE step ([],0)=bb r:=by
 exact LH (step:=step) (fun i=>Na (α:=β) p x i) n (r:=r) (fun i hi=>by rw[hs _ i hi (Yz _ _ _),kY]) g
theorem PS:∀ (a b:List UInt8),(a7 (bX a b<0)=c6 a b)∧((bX a b==0)=(a==b))
 | [],[]=>by simp[bX,c6]
 | [],_::_=>by simp[bX,c6]
 | _::_,[]=>by simp[bX,c6]
 | x::a,y::b=>by
  obtain⟨o,h2⟩:=PS a b
  by_cases e:x=y
  ·subst e;have j:¬ x<x:=UInt8.lt_irrefl x;simp only[bX,c6,j,if_false,decide_false,cA,beq_self_eq_true,bS];refine⟨o,?_⟩;rw[h2,cd];simp
  ·by_cases g:x<y
   ·simp[bX,c6,g,e]
   ·have i:y<x:=UInt8.lt_of_le_of_ne (UInt8.not_lt.1 g) (Ne.symm e);simp[bX,c6,g,i,e]
theorem bt(a b:List UInt8):Gr a b=bb (bX a b):=id rfl
theorem Si(a b:Int):Fb a b=bb (if a<b then -1 else if b<a then 1 else 0):=by
 unfold Fb HJ
 by_cases g:a<b
 ·simp[g]
 ·by_cases h2:b<a
  ·simp[g,h2]
  ·simp[g,h2]
theorem AEf(a b c:Int):Kn [a,b,c]=bb (if a≠0 then a else if b≠0 then b else c):=by
 unfold Kn
 have hs:=Lq (step:=JT 0 [a,b,c] (([a,b,c]:List Int).length:Int)) (fun i=>!(([a,b,c]:List Int).getD i a8==0)) (fun i=>([a,b,c]:List Int).getD i a8) 3
  (fun i hi=>by
   have I:AU (i:Int) ([a,b,c]:List Int).length=ao:=by rw[Af];simpa using hi
   have h2:a7 ((i:Int)<(([a,b,c]:List Int).length:Int))=ao:=by simp;omega
   simp only[JT,I,h2,AB,if_true,gg,(Z4 i)];cases (!(([a,b,c]:List Int).getD i a8==0))<;>rfl)
  (by simp[JT])
 rw[hs]
 by_cases g:a=0
 ·by_cases p:b=0
  ·by_cases C:c=0
   ·subst g;subst p;subst C;rfl
   ·subst g;subst p
    have:(b' 3).find? (fun i=>!(([0,0,c]:List Int).getD i a8==0))=bb 2:=by
     rw[db];refine⟨by simpa using C,by simp,fun j o=>?_⟩
     match j,o with
     | 0,_=>rfl
     | 1,_=>rfl
    rw[this];simp
  ·subst g
   have:(b' 3).find? (fun i=>!(([0,b,c]:List Int).getD i a8==0))=bb 1:=by
    rw[db];refine⟨by simpa using p,by simp,fun j o=>?_⟩
    match j,o with
    | 0,_=>rfl
   rw[this];simp[p]
 ·have:(b' 3).find? (fun i=>!(([a,b,c]:List Int).getD i a8==0))=bb 0:=by
   rw[db];exact⟨by simpa using g,by simp,fun j o=>by omega⟩
  rw[this];simp[g]
def FK(a b:AA):Bool:=if a.Time=b.Time then (if a.Star=b.Star then c6 a.Observer b.Observer else c6 a.Star b.Star) else a7 (a.Time<b.Time)
theorem Wg(a b:AA):DF a b=bb (FK a b):=by
 unfold DF FK
 by_cases g:a.Time=b.Time
 ·by_cases h2:a.Star=b.Star
  ·simp[g,h2]
  ·simp[g,h2]
 ·simp[g]
theorem XD(a b:AA):∃ c,BV a b=bb c∧a7 (c<0)=FK a b:=by
 unfold BV;simp only[Si,bt,AEf,dT];refine⟨_,rfl,?_⟩;obtain⟨j,g⟩:=PS a.Star b.Star;obtain⟨o,I⟩:=PS a.Observer b.Observer;unfold FK
 by_cases i:a.Time=b.Time
 ·simp only[i,Int.lt_irrefl,if_false,ne_eq,not_true_eq_false,if_true]
  by_cases h2:a.Star=b.Star
  ·have e:bX a.Star b.Star=0:=by
    have:(a.Star==b.Star)=ao:=by simpa using h2
    rw[this] at g;simpa using g
   simp only[e,not_true_eq_false,if_false,h2,if_true];have C:bX b.Star b.Star=0:=by rw[← h2] at e ⊢;exact e
   simp[C,o]
  ·have e:¬ bX a.Star b.Star=0:=by
    have:(a.Star==b.Star)=bI:=by simpa using h2
    rw[this] at g;simpa using g
   simp[e,h2,j]
 ·by_cases h2:a.Time<b.Time
  ·simp[i,h2]
  ·have p:b.Time<a.Time:=by omega
   simp[i,h2,p]
def Mf(e:AA):Bool:=(((a7 (0<=e.Time)&&a7 (e.Time<=10000000))&&Jf e.Star)&&Jf e.Observer)&&(a7 (-2000<=e.Mag)&&a7 (e.Mag<=20000))
theorem dm(e:AA):Jm e=bb (Mf e):=by
 unfold Jm Mf;simp only[Ft,Bo,De,IU,dT,ax,b8,b9,AB]
theorem SW(e:AA):Fj e=bb (Mf e):=by
 unfold Fj Mf;simp only[ED,BT,Es,Ib,dT,ax,b8,b9,AB]
def wG(l:List AA)(i:Nat):Bool:=Mf (l.getD i a8) && !(a7 (0<i) && !FK (l.getD (i-1) a8) (l.getD i a8))
def FY(l:List AA):Bool:=(b' l.length).all (wG l)
theorem wo{l:List AA}(I:l.length<=1099511627776){i:Nat}(hi:i<l.length):IB l (i:Int)=bb (if wG l i=ao then .inl ((i+1:Nat):Int) else .inr (.inr bI)):=by
 simp only[IB,Af,hi,decide_true,AB,ca,if_true,gg,(Z4 i),dm,Wg,dT,ax,b8,b9];unfold wG
 by_cases g:0<i
 ·have p:a7 ((0:Int)<(i:Int))=ao:=by simpa using g
  have o:a7 (0<i)=ao:=by simpa using g
  have C:i64.wrap ((i:Int)-1)=((i-1:Nat):Int):=by rw[Z1 (by omega)];omega
  have j:AU ((i-1:Nat):Int) l.length=ao:=by rw[Af];simp;omega
  simp only[p,o,C,j,b9,AB,bS,gg];generalize Mf (l.getD i a8)=A;generalize FK (l.getD (i-1) a8) (l.getD i a8)=B;cases A<;>cases B<;>rfl
 ·have p:a7 ((0:Int)<(i:Int))=bI:=by simpa using g
  have o:a7 (0<i)=bI:=by simpa using g
  simp only[p,o,cb,cL,bR,c',AB,ew,cl];generalize Mf (l.getD i a8)=A;cases A<;>rfl
theorem UW{l:List AA}(g:l.length<=1099511627776):Is l=bb (FY l&&a7 (l.length<=100)):=by
 unfold Is;rw[Kr (step:=IB l) (wG l) l.length (FY l) (yes:=.inl ()) (no:=.inr bI) (by unfold FY;simp) (fun i hi=>wo g hi) (by simp[IB])];have e:a7 ((l.length:Int)<=100)=a7 (l.length<=100):=by rw[cd];simp;omega
 simp only[dT,dy];cases FY l<;>simp[e]
theorem mV{l:List AA}(T:l.length<=1099511627776){i:Nat}(hi:i<l.length):DB l l (l.length:Int) (i:Int)=bb (if wG l i=ao then .inl ((i+1:Nat):Int) else .inr (.inr bI)):=by
 obtain⟨c,J,o⟩:=XD (l.getD (i-1) a8) (l.getD i a8);simp only[DB,Af,hi,decide_true,AB,ca,if_true,gg,(Z4 i),SW,dT,ax,b8,b9];unfold wG
 by_cases g:0<i
 ·have C:a7 ((0:Int)<(i:Int))=ao:=by simpa using g
  have p:a7 (0<i)=ao:=by simpa using g
  have I:i64.wrap ((i:Int)-1)=((i-1:Nat):Int):=by rw[Z1 (by omega)];omega
  have j:AU ((i-1:Nat):Int) l.length=ao:=by rw[Af];simp;omega
  simp only[C,p,I,j,b9,AB,bS,gg,J,ax,b8]
  have R:a7 (0<=c) = !FK (l.getD (i-1) a8) (l.getD i a8):=by
   rw[← o,← decide_not];congr 1;rw[hK]
  rw[R];generalize Mf (l.getD i a8)=A;generalize FK (l.getD (i-1) a8) (l.getD i a8)=B;cases A<;>cases B<;>rfl
 ·have C:a7 ((0:Int)<(i:Int))=bI:=by simpa using g
  have p:a7 (0<i)=bI:=by simpa using g
  simp only[C,p,cb,cL,bR,c',AB,ew,cl];generalize Mf (l.getD i a8)=A;cases A<;>rfl
theorem Hu{l:List AA}(g:l.length<=1099511627776):BZ l=bb (FY l&&a7 (l.length<=100)):=by
 unfold BZ
 by_cases h:100<(l.length:Int)
 ·have e:a7 (l.length<=100)=bI:=by simp;omega
  simp[h,e]
 ·have e:a7 (l.length<=100)=ao:=by simp;omega
  simp only[h,decide_false,ef,if_false];rw[Kr (step:=DB l l (l.length:Int)) (wG l) l.length (FY l) (yes:=.inl ()) (no:=.inr bI) (by unfold FY;simp) (fun i hi=>mV g hi) (by simp[DB])];simp only[dT,dy,e];cases FY l<;>rfl
def Cq(c:UInt8):List UInt8->List UInt8->List (List UInt8)
 | acc,[]=>[acc]
 | acc,x::r=>if x=c then acc::Cq c [] r else Cq c (acc++[x]) r
def Am(c:UInt8)(s:List UInt8):List (List UInt8):=Cq c [] s
theorem MO{c:UInt8}:∀ {s acc:List UInt8},c ∉ s->Cq c acc s=[acc++s]
 | [],acc,_=>by simp[Cq]
 | x::r,acc,h=>by
  have g:x≠c:=fun e=>h (by simp[e])
  rw[Cq,if_neg g,MO (fun hm=>h (by simp[hm])),ct];rfl
theorem Ip{c:UInt8}:∀ {a acc b:List UInt8},c ∉ a->Cq c acc (a++c::b)=(acc++a)::Cq c [] b
 | [],acc,b,_=>by simp[Cq]
 | x::r,acc,b,h=>by
  have g:x≠c:=fun e=>h (by simp[e])
  rw[gr,Cq,if_neg g,Ip (fun hm=>h (by simp[hm])),ct];rfl
theorem Qn(c:UInt8):∀ s acc:List UInt8,Cq c acc s≠[]
 | [],acc=>by simp[Cq]
 | x::r,acc=>by
  rw[Cq];split
  ·simp
  ·exact Qn c r _
theorem LK(c:UInt8):∀ s acc:List UInt8,1<=(Cq c acc s).length∧(Cq c acc s).length<=s.length+1
 | [],acc=>by simp[Cq]
 | x::r,acc=>by
  rw[Cq];split
  ·have:=LK c r [];simp only[c7];omega
  ·have:=LK c r (acc++[x]);simp only[c7];omega
def Pr(c:UInt8):List (List UInt8)->List UInt8
 | []=>[]
 | [a]=>a
 | a::b::r=>a++c::Pr c (b::r)
theorem OY(c:UInt8):∀ s acc:List UInt8,Pr c (Cq c acc s)=acc++s
 | [],acc=>by simp[Cq,Pr]
 | x::r,acc=>by
  rw[Cq];split
  ·rename_i e;have h:=OY c r [];cases hs:Cq c [] r with
   | nil=>exact absurd hs (Qn c r [])
   | cons b t=>rw[hs] at h;rw[Pr,h,e];rfl
  ·rw[OY c r (acc++[x]),ct];rfl
theorem YN(c:UInt8):∀ (l:List (List UInt8)),l≠[]->(∀ p∈l,c ∉ p)->Am c (Pr c l)=l
 | [],h,_=>absurd rfl h
 | [a],_,h=>by
  unfold Am Pr;rw[MO (h a (by simp))];rfl
 | a::b::r,_,h=>by
  have g:=YN c (b::r) (by simp) (fun p i=>h p (by simp[i]));unfold Am at g ⊢;rw[Pr,Ip (h a (by simp)),g];rfl
theorem JR(c:UInt8):∀ s:List UInt8,(hx s [c]=-1∧c ∉ s)∨∃ a b,s=a++c::b∧c ∉ a∧hx s [c]=a.length
 | []=>.inl ⟨by simp[hx],by simp⟩
 | x::r=>by
  unfold hx
  by_cases e:x=c
  ·subst e;exact .inr ⟨[],r,rfl,by simp,by simp⟩
  ·have j:(fi [c] (x::r))=bI:=by
    simp only[fi,cl,beq_eq_false_iff_ne];exact fun h=>e h.symm
   rw[j];rcases JR c r with⟨i,h2⟩|⟨a,b,rfl,h2,g⟩
   ·exact .inl ⟨by simp[i],by simp only[fI,not_or];exact⟨fun h=>e h.symm,h2⟩⟩
   ·refine .inr ⟨x::a,b,rfl,by simp only[fI,not_or];exact⟨fun h=>e h.symm,h2⟩,?_⟩;rw[g];have:(((a.length:Int))==-1)=bI:=by rw[beq_eq_false_iff_ne];omega
    simp[this]
theorem TS{c:UInt8}{s:List UInt8}(h:c ∉ s):h6 s [c]=(s,[],bI):=by
 rcases JR c s with⟨g,_⟩|⟨a,b,rfl,_,_⟩
 ·unfold h6;rw[g,if_neg (by decide)]
 ·exact absurd (by simp) h
theorem QC{c:UInt8}{a b:List UInt8}(h:c ∉ a):h6 (a++c::b) [c]=(a,b,ao):=by
 rcases JR c (a++c::b) with⟨_,h2⟩|⟨a',j,e,h2,C⟩
 ·exact absurd (by simp) h2
 ·have p:a'=a∧j=b:=by
   have i:=Ip (acc:=[]) (b:=b) h;have o:=Ip (acc:=[]) (b:=j) h2;rw[e,o] at i;have:[]++a'=[]++a:=(e7 i).1;have g:a'=a:=by simpa using this
   subst g;exact⟨rfl,((e7 (e5 e)).2).symm⟩
  obtain⟨rfl,rfl⟩:=p;unfold h6;rw[C,if_pos (by omega)];simp
theorem sH(c:UInt8):∀ (k:Nat) (s:List UInt8),s.count c=k->Lib.splitK [c] 0 k s=Am c s:=by
 intro k
 induction k with
 | zero=>
  intro s h;have p:c ∉ s:=e4.1 h;unfold Am;rw[MO p];rfl
 | succ k j=>
  intro s h;rcases JR c s with⟨J,h2⟩|⟨a,b,rfl,h2,C⟩
  ·rw[e4.2 h2] at h;omega
  ·unfold Lib.splitK;have i:((a.length:Int)==-1)=bI:=by rw[beq_eq_false_iff_ne];omega
   rw[C];simp only[i,ef,if_false]
   have g:b.count c=k:=by
    rw[hJ,e4.2 h2,hD] at h;omega
   have I:(a++c::b).take ((a.length:Int).toNat+0)=a:=by simp
   have o:(a++c::b).drop ((a.length:Int).toNat+([c]:List UInt8).length)=b:=by simp
   unfold Am;rw[Ip h2]
   first
    | rw[I,o,j b g]
    | (rw[o,j b g];simp[Am])
   rfl
theorem uJ(c:UInt8):∀ (f:Nat) (s:List UInt8),s.length<f->ir [c] f s=s.count c:=by
 intro f
 induction f with
 | zero=>intro s h;omega
 | succ f i=>
  intro s h;unfold ir;rcases JR c s with⟨o,h2⟩|⟨a,b,rfl,h2,j⟩
  ·simp[o,e4.2 h2]
  ·have g:((a.length:Int)==-1)=bI:=by rw[beq_eq_false_iff_ne];omega
   rw[j];simp only[g,ef,if_false];have p:(a++c::b).drop ((a.length:Int).toNat+([c]:List UInt8).length)=b:=by simp
   rw[p,i b (by simp at h;omega),hJ,e4.2 h2,hD];omega
theorem vG(c:UInt8)(s:List UInt8):Lib.split s [c]=Am c s:=by
 unfold Lib.split Lib.count;rw[uJ c _ s (by omega)];exact sH c _ s rfl
theorem TP{c:UInt8}{s:List UInt8}(h:s.length<4294967281):WI s [c]=bb (Am c s):=by
 unfold WI;rw[vG];simp[h]
theorem Uk{c:UInt8}{s:List UInt8}(h:s.length<4294967281):cM s [c]=bb (h6 s [c]):=by
 unfold cM;rw[if_pos h]
def WO(c:UInt8):Bool:=a7 (48<=(c.toNat:Int))&&a7 ((c.toNat:Int)<=57)
theorem MM{c:UInt8}:WO c=ao ↔ 48<=c.toNat∧c.toNat<=57:=by
 unfold WO;simp only[hX,ik];omega
def valF(n:Nat)(l:List UInt8):Nat:=l.foldl (fun n c=>n*10+(c.toNat-48)) n
theorem Oi(n:Nat):valF n []=n:=by unfold valF;rw[List.foldl_nil]
theorem NH(n:Nat)(c:UInt8)(r:List UInt8):valF n (c::r)=valF (n*10+(c.toNat-48)) r:=by unfold valF;rw[List.foldl_cons]
theorem Rc{l:List UInt8}:∀ {n a:Nat},n<10^a->l.all WO=ao->valF n l<10^(a+l.length):=by
 induction l with
 | nil=>intro n a h _;rw[Oi];exact h
 | cons c r g=>
  intro n a h hd;simp only[ds,hX] at hd;have i:=MM.1 hd.1;have h2:n*10+(c.toNat-48)<10^(a+1):=by rw[ej];omega
  have:=g h2 hd.2;rw[NH,c7]
  rwa [eL,Nat.add_comm 1] at this
theorem KF{k:Nat}(h:k<=18):(10:Nat)^k<=1000000000000000000:=fu (by omega) h
def AJY:=fy 0 0 [0]
theorem UK{l:List UInt8}:∀ {n a:Nat},n<10^a->a+l.length<=18->fy (2^64-1) n l=if l.all WO=ao then .ok (valF n l) else AJY:=by
 induction l with
 | nil=>intro n a _ _;simp[fy,Oi]
 | cons c r i=>
  intro n a h o;rw[c7] at o;have p:=KF (show a<=18 by omega);have j:=KF (show a+1<=18 by omega);rw[fy]
  by_cases g:48<=c.toNat∧c.toNat<=57
  ·have h2:n*10+(c.toNat-48)<10^(a+1):=by rw[ej];omega
   rw[if_pos g,if_neg (by omega),if_neg (by omega),i h2 (by omega)];simp only[ds,MM.2 g,bS,NH]
  ·rw[if_neg g]
   have:WO c=bI:=by
    cases hd:WO c with
    | false=>rfl
    | true=>exact absurd (MM.1 hd) g
   simp only[ds,this,cb,ef,if_false];rfl
theorem qm:∀ (k u:Nat),u<10^(k+1)->(aj u).all WO=ao
 | 0,u,h=>by
  have h:u<10:=by simpa using h
  rw[dw h];simp only[ds,hh,cl,MM,dc];omega
 | k+1,u,h=>by
  by_cases c:u<10
  ·rw[dw c];simp only[ds,hh,cl,MM,dc];omega
  ·rw[aj,dif_neg c,List.all_append,qm k (u/10) (by rw[ej] at h;omega)];simp only[ds,hh,cl,bS,MM,dc];omega
theorem QB(u:Nat):(aj u).all WO=true:=qm u u (gf (Nat.lt_pow_self (by omega)) (fu (by omega) (by omega)))
theorem tR(n:Int)(r:List UInt8):bN n≠43::r:=by
 intro h;unfold bN at h;split at h
 ·have:=(e7 h).1;exact absurd this (by decide)
 ·have:=QB n.toNat;rw[h] at this;simp[WO] at this
theorem mY(r:List UInt8):e9 (45::r) [45]=r:=by simp[e9,gb]
theorem mX{c:UInt8}{r:List UInt8}(h:c≠45):e9 (c::r) [45]=c::r:=by
 unfold e9 gb
 have:(fi [45] (c::r))=bI:=by
  simp only[fi,cl,beq_eq_false_iff_ne];exact fun e=>h e.symm
 simp[this]
theorem Qt{r:List UInt8}:CK (45::r)=if r.length<1∨18<r.length then (0,bI) else if r.all WO=ao then (if bN (-(valF 0 r:Int))=45::r then (-(valF 0 r:Int),ao) else (0,bI)) else (0,bI):=by
 unfold CK;rw[mY]
 by_cases h:r.length<1∨18<r.length
 ·rw[if_pos h,if_pos h]
 ·rw[if_neg h,if_neg h];have g:r≠[]:=fun e=>h (.inl (by simp[e]))
  have o:=UK (l:=r) (n:=0) (a:=0) (by simp) (by omega);have j:((45:UInt8).toNat=43∨(45:UInt8).toNat=45):=.inr rfl;unfold h9;simp only[j,if_true,hZ,g,if_false,o]
  by_cases hd:r.all WO=ao
  ·have p:=Rc (l:=r) (n:=0) (a:=0) (by simp) hd;have RA:=KF (k:=0+r.length) (by omega);have i:((45:UInt8).toNat=45):=rfl;have n2:¬ (2^(64-1)<valF 0 r):=by omega
   simp only[hd,if_true,i,not_true_eq_false,false_and,if_false,true_and,n2]
  ·simp only[hd,ef,if_false];rfl
theorem OC{c:UInt8}{r:List UInt8}(p:c≠45):CK (c::r)=if (c::r).length<1∨18<(c::r).length then (0,bI) else if (c::r).all WO=ao then (if bN (valF 0 (c::r):Int)=c::r then ((valF 0 (c::r):Int),ao) else (0,bI)) else (0,bI):=by
 unfold CK;rw[mX p]
 by_cases h:(c::r).length<1∨18<(c::r).length
 ·rw[if_pos h,if_pos h]
 ·rw[if_neg h,if_neg h];have i:¬ (c.toNat=45):=fun e=>p (by rw[← ec];exact e)
  by_cases g:c=43
  ·subst g;have hd:((43:UInt8)::r).all WO=bI:=by simp[WO]
   rw[hd];simp only[ef,if_false];rcases o:h9 64 (43::r) with v|_|_
   ·simp only[if_neg (tR v r)]
   ·rfl
   ·rfl
  ·have j:¬ (c.toNat=43∨c.toNat=45):=fun e=>by
    rcases e with e|e
    ·exact g (by rw[← ec];exact e)
    ·exact i e
   have o:=UK (l:=c::r) (n:=0) (a:=0) (by simp) (by omega);unfold h9;simp only[j,if_false,hZ,List.cons_ne_nil,o]
   by_cases hd:(c::r).all WO=ao
   ·have C:=Rc (l:=c::r) (n:=0) (a:=0) (by simp) hd;have RA:=KF (k:=0+(c::r).length) (by omega);have n1:¬ (2^(64-1)<=valF 0 (c::r)):=by omega
    simp only[hd,if_true,i,not_false_eq_true,true_and,n1,false_and,if_false]
   ·simp only[hd,ef,if_false];rfl
theorem NW:∀ (k u:Nat),u<10^(k+1)->Lib.nDigits u<=k+1
 | 0,u,h=>by rw[hN (by simpa using h)];omega
 | k+1,u,h=>by
  by_cases c:u<10
  ·rw[hN c];omega
  ·rw[Lib.nDigits_big c];have:=NW k (u/10) (by rw[ej] at h;omega);omega
theorem EQ{u:Nat}(h:u<=9223372036854775808):(aj u).length<=20:=by
 rw[dX];exact NW 19 u (by omega)
theorem KL(u:Nat):1<=(aj u).length:=by
 rw[dX];exact Lib.nDigits_pos u
theorem FO{n:Int}(h:SD n):(bN n).length<=21:=by
 obtain⟨g,h2⟩:=h;unfold bN;split
 ·have:=EQ (u:=n.natAbs) (by omega);simp;omega
 ·have:=EQ (u:=n.toNat) (by omega);omega
theorem Ze{d:Nat}(h:d<10):rc (IntKind.u8.wrap (i64.wrap (48+(d:Int))))=eu (48+d):=by
 have:d=0∨d=1∨d=2∨d=3∨d=4∨d=5∨d=6∨d=7∨d=8∨d=9:=by omega
 rcases this with rfl|rfl|rfl|rfl|rfl|rfl|rfl|rfl|rfl|rfl<;>decide +kernel
def AGi(n:Int)(m:Nat)(s:List UInt8×Int):Prop := ∃ u:Nat,s.2=(if n<0 then -(u:Int) else (u:Int))∧u<=m∧(if u=0 then s.1=aj m else aj m=aj u++s.1)
theorem xf{n:Int}{m:Nat}(hm:m<=9223372036854775808){out:List UInt8}{u:Nat}(I:u<=m)(R:u≠0)(h:aj m=aj u++out):
  EA n (out,if n<0 then -(u:Int) else (u:Int))=bb (.inl (eu (48+u%10)::out,if n<0 then -((u/10:Nat):Int) else ((u/10:Nat):Int))) ∧
  (if u/10=0 then eu (48+u%10)::out=aj m else aj m=aj (u/10)++eu (48+u%10)::out):=by
 have J:out.length<=20:=by
  have:=EQ hm;rw[h,c8] at this;omega
 constructor
 ·have p:((u:Int)).tmod 10=((u%10:Nat):Int):=by rw[cc (by omega)];omega
  have o:((u:Int)).tdiv 10=((u/10:Nat):Int):=by rw[cS (by omega)];omega
  have w:i64.wrap ((u%10:Nat):Int)=((u%10:Nat):Int):=Z1 (by omega);have i:DH (([eu (48+u%10)]:List UInt8).length+out.length) 1=true:=Ba (by simp;omega)
  by_cases C:n<0
  ·have g:((-(u:Int))==0)=bI:=by rw[beq_eq_false_iff_ne];omega
   have w2:i64.wrap (-((u/10:Nat):Int))=-((u/10:Nat):Int):=Z1 (by omega);simp only[EA,C,if_true,g,bR,QS (show (10:Int)≠0 by decide),AB,Int.neg_tmod,Int.neg_tdiv,p,o,w2]
   by_cases hd:u%10=0
   ·have e:¬ (-(((u%10:Nat)):Int)<0):=by omega
    simp only[e,decide_false,ef,if_false];have j:(-((u%10:Nat):Int))=((u%10:Nat):Int):=by omega
    rw[j,Ze (hH _ (by omega)),i,AB];rfl
   ·have e:(-(((u%10:Nat)):Int)<0):=by omega
    have j:(0 - -((u%10:Nat):Int))=((u%10:Nat):Int):=by omega
    simp only[e,decide_true,if_true,j,w];rw[Ze (hH _ (by omega)),i,AB];rfl
  ·have g:((u:Int)==0)=bI:=by rw[beq_eq_false_iff_ne];omega
   have w2:i64.wrap ((u/10:Nat):Int)=((u/10:Nat):Int):=Z1 (by omega);have e:¬ ((((u%10:Nat)):Int)<0):=by omega
   simp only[EA,C,if_false,g,bR,if_true,QS (show (10:Int)≠0 by decide),AB,p,o,w2,e,decide_false,ef];rw[Ze (hH _ (by omega)),i,AB];rfl
 ·by_cases c:u<10
  ·have e:u/10=0:=by omega
   rw[if_pos e,h,dw c,Nat.mod_eq_of_lt c];rfl
  ·have e:¬ u/10=0:=by omega
   rw[if_neg e,h,aj,dif_neg c,ct];rfl
theorem JQ{n:Int}(T:SD n):BB n=bb (bN n):=by
 obtain⟨h1,h2⟩:=T
 by_cases h0:n=0
 ·subst h0;unfold BB;rw[Ae (r:=([]:List UInt8)) (by simp[EA])];simp[bN,aj]
 ·obtain⟨m,hm,p,j⟩:∃ m:Nat,m<=9223372036854775808∧m≠0∧n=(if n<0 then -(m:Int) else (m:Int)):=by
   by_cases i:n<0
   ·exact⟨n.natAbs,by omega,by omega,by rw[if_pos i];omega⟩
   ·exact⟨n.toNat,by omega,by omega,by rw[if_neg i];omega⟩
  have J:AE (EA n) (([]:List UInt8),n)=bb (aj m):=by
   obtain⟨y,I,U⟩:=Dq (step:=EA n) (AGi n m) (fun y=>y=aj m) (fun s=>s.2.natAbs) (by
    rintro⟨out,k⟩ ⟨u,C,R,hd⟩;simp only at C hd;subst C
    by_cases g:u=0
    ·subst g;right;rw[if_pos rfl] at hd;refine⟨out,?_,hd⟩;split<;>simp[EA]
    ·left;rw[if_neg g] at hd;obtain⟨e1,o⟩:=xf (n:=n) hm R g hd;refine⟨_,e1,⟨u/10,rfl,by omega,o⟩,?_⟩;show Int.natAbs (if n<0 then _ else _)<Int.natAbs (if n<0 then _ else _);split<;>omega) (s:=(([]:List UInt8),n)) ⟨m,j,cf _,by rw[if_neg p,List.append_nil]⟩
   rw[I,U]
  unfold BB;rw[J];have ab:=KL m;have aa:=EQ hm;have e:(((aj m).length:Int)==0)=bI:=by rw[beq_eq_false_iff_ne];omega
  simp only[dT,e,ef,if_false];unfold bN
  by_cases i:n<0
  ·rw[if_pos i] at j;have o:n.natAbs=m:=by omega
   simp only[i,decide_true,if_true,o];rw[Au (by simp;omega),AB];rfl
  ·rw[if_neg i] at j;have o:n.toNat=m:=by omega
   simp[i,o]
theorem Jy{n:Int}(g:SD n):BJ n=bb (bN n):=by
 obtain⟨i,h2⟩:=g;unfold BJ Hc AAx;simp[i,h2]
theorem xi{s:List UInt8}{i:Nat}:hR s (i:Int) (i:Int)=[]:=by
 simp[hR]
theorem xh{s:List UInt8}{a i:Nat}(h:a<=i)(hi:i<s.length):hR s (a:Int) ((i+1:Nat):Int)=hR s (a:Int) (i:Int)++[s[i]]:=by
 simp only[hR,gg];rw[List.take_add_one,geE hi,List.drop_append_of_le_length (by simp;omega)];rfl
theorem Kz{s:List UInt8}(c:UInt8)(hl:s.length<=1048576):Dc s c=bb (Am c s):=by
 unfold Dc
 obtain⟨y,hy,hq⟩:=Dq (step:=Eo s c) (fun st=>∃ a i:Nat,st.2.1=(a:Int)∧st.2.2=(i:Int)∧a<=i∧i<=s.length∧st.1.length<=i∧st.1++Cq c (hR s (a:Int) (i:Int)) (s.drop i)=Am c s)
  (fun y=>∃ a:Nat,y.2=(a:Int)∧a<=s.length∧y.1.length<=s.length∧y.1++[hR s (a:Int) (s.length:Int)]=Am c s) (fun st=>s.length-st.2.2.toNat) (by
  rintro⟨out,fr,ii⟩ ⟨a,i,C,h2,p,hi,T,j⟩;simp only at C h2 T j;subst C h2
  by_cases g:i<s.length
  ·left;have hd:s.drop i=s[i]::s.drop (i+1):=List.drop_eq_getElem_cons g;have U:s.getD i 0=s[i]:=Cm g 0;rw[hd,Cq] at j
   have R:((s[i].toNat:Int)==(c.toNat:Int))=a7 (s[i]=c):=by
    rw[cd];simp only[beq_iff_eq,ik,← ec];omega
   by_cases I:s[i]=c
   ·rw[if_pos I] at j;refine⟨(out++[hR s (a:Int) (i:Int)],((i+1:Nat):Int),((i+1:Nat):Int)),?_,⟨i+1,i+1,rfl,rfl,cf _,by omega,by simp;omega,?_⟩,by simp;omega⟩
    ·simp only[Eo,ca,g,decide_true,if_true,Af,AB,gg,U,I,beq_self_eq_true,(Z4 i)];rw[Z3 (by omega),AB,Ba (by simp;omega),AB]
    ·simp only;rw[xi,ct];exact j
   ·rw[if_neg I] at j;refine⟨(out,(a:Int),((i+1:Nat):Int)),?_,⟨a,i+1,rfl,rfl,by omega,by omega,by show out.length<=i+1;omega,?_⟩,by simp;omega⟩
    ·simp only[Eo,ca,g,decide_true,if_true,Af,AB,gg,U,R,I,decide_false,ef,if_false,(Z4 i)]
    ·simp only;rw[xh p g];exact j
  ·right;have J:i=s.length:=by omega
   subst J;refine⟨(out,(a:Int)),by simp[Eo],a,rfl,p,T,?_⟩;rw[List.drop_length,Cq] at j;exact j) (s:=(([]:List (List UInt8)),0,0)) ⟨0,0,rfl,rfl,cf _,e6 _,by simp,by simp[hR,Am]⟩
 obtain⟨a,C,h2,h3,h4⟩:=hq;obtain⟨o,y2⟩:=y;simp only at C h3 h4;subst C;rw[hy];simp only[dT];rw[Z3 (by omega),AB,Ba (by simp;omega),AB,h4]
theorem OG(c:UInt8):Dd c=bb (WO c):=id rfl
theorem xd{c:UInt8}(h:WO c=ao){n:Nat}(i:n<=100000000000000000):i64.wrap ((i64.wrap (10*(n:Int)))+(i64.wrap (IntKind.u8.wrap ((c.toNat:Int)-48))))=((n*10+(c.toNat-48):Nat):Int):=by
 have j:=MM.1 h
 have g:IntKind.u8.wrap ((c.toNat:Int)-48)=((c.toNat-48:Nat):Int):=by
  have:((c.toNat:Int)-48)=((c.toNat-48:Nat):Int):=by omega
  rw[this];exact za (by omega) (by omega)
 rw[g,Z1 (n:=10*(n:Int)) (by omega),Z1 (n:=((c.toNat-48:Nat):Int)) (by omega),Z1 (by omega)];omega
theorem kE(s t:List UInt8)(T:t.length<=18):∀ (r:List UInt8) (i n:Nat),t.drop i=r->i+r.length=t.length->n<10^i ->
  AE (Dt s t) ((n:Int),(i:Int))=bb (if r.all WO=ao then .inl ((valF n r:Nat):Int) else .inr (0,bI)):=by
 intro r
 induction r with
 | nil=>
  intro i n hd hi _;have:i=t.length:=by simpa using hi
  subst this;refine Ae ?_;simp[Dt,Oi]
 | cons c r J=>
  intro i n hd hi hn;rw[c7] at hi;have g:i<t.length:=by omega
  have I:t.getD i 0=c:=by
   rw[ic];have:(t.drop i)[0]? = bb c:=by rw[hd];rfl
   rw[e3,Nat.add_zero] at this;rw[this];rfl
  have p:t.drop (i+1)=r:=by
   have:=congrArg List.tail hd
   rwa [List.tail_drop] at this
  by_cases o:WO c=ao
  ·have U:=KF (show i<=17+1 by omega);have C:(10:Nat)^i<=10^17:=fu (by omega) (by omega);have R:=MM.1 o
   rw[Ak (s':=(((n*10+(c.toNat-48):Nat):Int),((i+1:Nat):Int))) (by
    simp only[Dt,ca,g,decide_true,if_true,Af,AB,gg,I,OG,o,dT,b4,ef,if_false,(Z4 i),xd o (show n<=100000000000000000 by omega)])]
   rw[J (i+1) (n*10+(c.toNat-48)) p (by omega) (by rw[ej];omega)];simp only[ds,o,bS,NH]
  ·have j:WO c=bI:=by simpa using o
   rw[Ae (r:=.inr (0,bI)) (by
    simp only[Dt,ca,g,decide_true,if_true,Af,AB,gg,I,OG,j,dT,bR])]
   simp only[ds,j,cb,ef,if_false]
theorem si:Je=Dt:=id rfl
theorem KH{s:List UInt8}(T:s.length<=1048576):Bi s=bb (CK s):=by
 unfold Bi;cases s with
 | nil=>simp[CK,e9,gb,AB]
 | cons c r=>
  have R:((c::r)==([]:List UInt8))=false:=rfl;have J:AU 0 (c::r).length=true:=Di (by omega) (by simp)
  have p:((((c::r).getD 0 0).toNat:Int)==45)=a7 (c=45):=by
   rw[cd];simp only[List.getD_cons_zero,beq_iff_eq,ik,← ec];show (c.toNat:Int)=45 ↔ c.toNat=45;omega
  simp only[R,J,b9,AB,bR,bS,p]
  by_cases C:c=45
  ·subst C;simp only[decide_true,if_true];have o:hR ((45:UInt8)::r) 1 ((((45:UInt8)::r).length:Nat):Int)=r:=by simp[hR]
   rw[Fs (by omega) (by simp;omega) (by omega),AB,o,Qt]
   by_cases j:r.length<1∨18<r.length
   ·have e:(a7 ((r.length:Int)<1)||a7 (18<(r.length:Int)))=ao:=by simp;omega
    rw[if_pos j,e];rfl
   ·have e:(a7 ((r.length:Int)<1)||a7 (18<(r.length:Int)))=bI:=by simp;omega
    rw[if_neg j,e];simp only[ef,if_false];have g:=kE ((45:UInt8)::r) r (by omega) r 0 0 rfl (by omega) (by simp);rw[show ((0:Nat):Int)=0 from rfl] at g;rw[g]
    by_cases hd:r.all WO=ao
    ·have I:=Rc (l:=r) (n:=0) (a:=0) (by simp) hd;have RA:=KF (k:=0+r.length) (by omega);have w:i64.wrap (0-((valF 0 r:Nat):Int))=-((valF 0 r:Nat):Int):=by rw[Z1 (by omega)];omega
     have lt:a7 ((r.length:Int)<(((45:UInt8)::r).length:Nat))=ao:=by simp;omega
     simp only[hd,if_true,dT,w,lt,JQ (n:=-((valF 0 r:Nat):Int)) ⟨by omega,by omega⟩]
     by_cases i:bN (-((valF 0 r:Nat):Int))=45::r
     ·have:(bN (-((valF 0 r:Nat):Int))==45::r)=ao:=by simpa using i
      simp only[i,beq_self_eq_true,b4,ef,if_false,if_true]
     ·have:(bN (-((valF 0 r:Nat):Int))==45::r)=bI:=by simpa using i
      simp only[this,i,bR,if_true,if_false]
    ·simp only[hd,ef,if_false,dT]
  ·simp only[C,decide_false,ef,if_false];rw[OC C]
   by_cases j:(c::r).length<1∨18<(c::r).length
   ·have e:(a7 (((c::r).length:Int)<1)||a7 (18<((c::r).length:Int)))=ao:=by simp at j ⊢;omega
    rw[if_pos j,e];rfl
   ·have e:(a7 (((c::r).length:Int)<1)||a7 (18<((c::r).length:Int)))=bI:=by simp at j ⊢;omega
    rw[if_neg j,e];simp only[ef,if_false,si];have g:=kE (c::r) (c::r) (by omega) (c::r) 0 0 rfl (by omega) (by simp);rw[show ((0:Nat):Int)=0 from rfl] at g;rw[g]
    by_cases hd:(c::r).all WO=ao
    ·have I:=Rc (l:=c::r) (n:=0) (a:=0) (by simp) hd;have RA:=KF (k:=0+(c::r).length) (by omega);have lt:a7 (((c::r).length:Int)<((c::r).length:Int))=bI:=by simp
     simp only[hd,if_true,dT,lt,ef,if_false,JQ (n:=((valF 0 (c::r):Nat):Int)) ⟨by omega,by omega⟩]
     by_cases i:bN ((valF 0 (c::r):Nat):Int)=c::r
     ·have:(bN ((valF 0 (c::r):Nat):Int)==c::r)=ao:=by simpa using i
      simp only[i,beq_self_eq_true,b4,ef,if_false,if_true]
     ·have:(bN ((valF 0 (c::r):Nat):Int)==c::r)=bI:=by simpa using i
      simp only[this,i,bR,if_true,if_false]
    ·simp only[hd,ef,if_false,dT]
theorem PJ{s:List UInt8}(g:s.length<=1048576):La s=bb (CK s):=by
 unfold La;rw[if_pos (by omega)]
theorem TD{s:List UInt8}(h:(CK s).2=ao):bN (CK s).1=s∧SD (CK s).1:=by
 cases s with
 | nil=>simp[CK,e9,gb] at h
 | cons c r=>
  by_cases j:c=45
  ·subst j;rw[Qt] at h ⊢;split at h
   ·cases h
   ·rename_i i;rw[if_neg i];split at h
    ·rename_i hd;rw[if_pos hd];split at h
     ·rename_i g;rw[if_pos g];have o:=Rc (l:=r) (n:=0) (a:=0) (by simp) hd;have RA:=KF (k:=0+r.length) (by omega);exact⟨g,by show -9223372036854775808<=-((valF 0 r:Nat):Int);omega,by show -((valF 0 r:Nat):Int)<=9223372036854775807;omega⟩
     ·cases h
    ·cases h
  ·rw[OC j] at h ⊢;split at h
   ·cases h
   ·rename_i i;rw[if_neg i];split at h
    ·rename_i hd;rw[if_pos hd];split at h
     ·rename_i g;rw[if_pos g];have o:=Rc (l:=c::r) (n:=0) (a:=0) (by simp) hd;have RA:=KF (k:=0+(c::r).length) (by omega);exact⟨g,by show -9223372036854775808<=((valF 0 (c::r):Nat):Int);omega,by show ((valF 0 (c::r):Nat):Int)<=9223372036854775807;omega⟩
     ·cases h
    ·cases h
theorem uj(n:Nat)(a b:List UInt8):valF n (a++b)=valF (valF n a) b:=by unfold valF;rw[List.foldl_append]
theorem Xf:∀ (k u:Nat),u<10^(k+1)->valF 0 (aj u)=u
 | 0,u,h=>by
  have h:u<10:=by simpa using h
  rw[dw h,NH,Oi,dc];omega
 | k+1,u,h=>by
  by_cases c:u<10
  ·rw[dw c,NH,Oi,dc];omega
  ·rw[aj,dif_neg c,uj,Xf k (u/10) (by rw[ej] at h;omega),NH,Oi,dc];omega
theorem Jq(u:Nat):bN (u:Int)=aj u:=by unfold bN;rw[if_neg (by omega)];simp
theorem js{n:Int}(C:0<=n)(J:n<=65520):CK (bN n)=(n,ao):=by
 obtain⟨u,rfl⟩:=ff C;rw[Jq];have o:=dX u;have I:=NW 4 u (by omega);have j:=KL u;have g:=QB u;have i:=Xf 4 u (by omega);cases hd:aj u with
 | nil=>rw[hd] at j;exact absurd j (by simp)
 | cons c r=>
  rw[hd] at o g i j
  have p:c≠45:=fun e=>by
   subst e;have:WO 45=true:=(cI.1 g) 45 (by simp);exact absurd this (by decide)
  rw[OC p,if_neg (by omega),if_pos g,i,if_pos (by rw[Jq,hd])]
theorem Rk{n:Int}(T:-1000000000000000000<n)(R:n<1000000000000000000):CK (bN n)=(n,ao):=by
 by_cases C:0<=n
 ·obtain⟨u,rfl⟩:=ff C;rw[Jq];have p:=dX u;have o:=NW 17 u (by omega);have j:=KL u;have g:=QB u;have i:=Xf 17 u (by omega);cases hd:aj u with
  | nil=>rw[hd] at j;exact absurd j (by simp)
  | cons c r=>
   rw[hd] at p g i j
   have I:c≠45:=fun e=>by
    subst e;have:WO 45=true:=(cI.1 g) 45 (by simp);exact absurd this (by decide)
   rw[OC I,if_neg (by omega),if_pos g,i,if_pos (by rw[Jq,hd])]
 ·obtain⟨u,J⟩:=ff (show 0<=-n by omega);obtain rfl:n=-(u:Int):=by omega
  have e:bN (-(u:Int))=45::aj u:=by unfold bN;rw[if_pos (by omega)];simp
  rw[e];have p:=dX u;have o:=NW 17 u (by omega);have j:=KL u;have g:=QB u;have i:=Xf 17 u (by omega);rw[Qt,if_neg (by omega),if_pos g,i,if_pos e]
def JY(e:AW):Bool:=((a7 (0<=e.Day)&&a7 (e.Day<=100000))&&Jf e.What)&&(a7 (-1000000<=e.Value)&&a7 (e.Value<=1000000))
theorem kV(e:AW):Hz e=bb (JY e):=by
 unfold Hz JY;simp only[MP,De,IU,dT,ax,b8,b9,AB]
theorem Of(e:AW):Eh e=bb (JY e):=by
 unfold Eh JY;simp only[Es,Ib,dT,ax,b8,b9,AB]
theorem Vx{s:List UInt8}(h:Jf s=ao):1<=s.length∧s.length<=12:=by
 unfold Jf at h;simp only[hX,ik] at h;exact⟨h.1,h.2.1⟩
theorem Rm{e:AW}(h:JY e=ao):0<=e.Day∧e.Day<=100000∧e.What.length<=12∧-1000000<=e.Value∧e.Value<=1000000:=by
 unfold JY at h;simp only[hX,ik] at h;obtain⟨⟨⟨o,h2⟩,j⟩,i,g⟩:=h;exact⟨o,h2,(Vx j).2,i,g⟩
def Hx(e:AW):List UInt8:=(((bN e.Day++[32])++e.What)++[32])++bN e.Value
theorem Lo{e:AW}(h:JY e=ao):(Hx e).length<=60:=by
 obtain⟨C,h2,p,o,j⟩:=Rm h;have i:=FO (n:=e.Day) ⟨by omega,by omega⟩;have g:=FO (n:=e.Value) ⟨by omega,by omega⟩;simp only[Hx,c8,c7,hQ];omega
theorem OF{e:AW}(h:JY e=ao):Dz e=bb (Hx e):=by
 obtain⟨C,h2,p,o,j⟩:=Rm h;have i:=FO (n:=e.Day) ⟨by omega,by omega⟩;have g:=FO (n:=e.Value) ⟨by omega,by omega⟩;unfold Dz;rw[JQ (n:=e.Day) ⟨by omega,by omega⟩,JQ (n:=e.Value) ⟨by omega,by omega⟩];simp only[dT];rw[Au (by simp;omega),AB,Au (by simp;omega),AB,Au (by simp;omega),AB,Au (by simp;omega),AB];rfl
theorem YG{e:AW}(h:JY e=ao):EI e=bb (Hx e):=by
 obtain⟨C,h2,p,o,j⟩:=Rm h;have i:=FO (n:=e.Day) ⟨by omega,by omega⟩;have g:=FO (n:=e.Value) ⟨by omega,by omega⟩;unfold EI;rw[Jy (n:=e.Day) ⟨by omega,by omega⟩,Jy (n:=e.Value) ⟨by omega,by omega⟩];simp only[dT];rw[Au (by simp;omega),AB,Au (by simp;omega),AB,Au (by simp;omega),AB,Au (by simp;omega),AB];rfl
theorem mb(w:List UInt8):MF w (w.length:Int)=EG w:=id rfl
theorem mc{w:List UInt8}(C:w.length<=1099511627776){n:Int}(p:0<=n)(g:n<=65520):∃ s,AE (EG w) (n,0)=bb s∧0<=s∧s<=65520 :=
 Dq (step:=EG w) (fun s=>0<=s.1∧s.1<=65520∧∃ i:Nat,s.2=(i:Int)∧i<=w.length) (fun s=>0<=s∧s<=65520) (fun s=>w.length-s.2.toNat) (by
  rintro⟨s,ii⟩ ⟨g,h2,i,rfl,hi⟩;simp only at g h2
  by_cases h:i<w.length
  ·left;have I:=ACI (w.getD i 0);have j:i64.wrap (31*s)=31*s:=Z1 (by omega);have w2:i64.wrap (31*s+((w.getD i 0).toNat:Int))=31*s+((w.getD i 0).toNat:Int):=Z1 (by omega);have o:(31*s+((w.getD i 0).toNat:Int)).tmod 65521=(31*s+((w.getD i 0).toNat:Int))%65521:=cc (by omega);simp only[EG,ca,h,decide_true,if_true,Af,AB,gg,(Z4 i),QS (show (65521:Int)≠0 by decide),j,w2,o];exact⟨_,rfl,⟨by show 0<=_%65521;omega,by show _%65521<=65520;omega,i+1,rfl,by omega⟩,by simp only[gg];omega⟩
  ·right;exact⟨s,by simp[EG,h],g,h2⟩) (s:=(n,0)) ⟨p,g,0,rfl,by omega⟩
theorem vE{e:AW}(h:JY e=ao){n:Int}(I:0<=n)(C:n<=65520):∃ s,Ez n (Hx e)=bb s∧IH n e=bb s∧0<=s∧s<=65520:=by
 have g:i64.wrap (n+23)=n+23:=Z1 (by omega);have i:(n+23).tmod 65521=(n+23)%65521:=cc (by omega);have p:=Lo h;obtain⟨s,hs,o,j⟩:=mc (w:=Hx e) (by omega) (n:=(n+23)%65521) (by omega) (by omega);refine⟨s,?_,?_,o,j⟩
 ·unfold Ez;rw[QS (show (65521:Int)≠0 by decide),AB,g,i,hs];rfl
 ·unfold IH;rw[QS (show (65521:Int)≠0 by decide),AB,YG h];simp only[dT,mb,g,i,hs]
def DE(g:Int)(e:AW):Int:=(IH g e).getD 0
theorem Ks{e:AW}(h:JY e=ao){n:Int}(p:0<=n)(o:n<=65520):Ez n (Hx e)=bb (DE n e)∧IH n e=bb (DE n e)∧0<=DE n e∧DE n e<=65520:=by
 obtain⟨s,h2,g,j,i⟩:=vE h p o;have:DE n e=s:=by unfold DE;rw[g];rfl
 rw[this];exact⟨h2,g,j,i⟩
theorem Yv{e:AW}(h:JY e=ao){n:Int}(o:0<=n)(j:n<=65520):He n e=bb (((Hx e++[32])++bN n)++[10]):=by
 have i:=Lo h;have g:=FO (n:=n) ⟨by omega,by omega⟩;unfold He;rw[OF h,JQ (n:=n) ⟨by omega,by omega⟩];simp only[dT];rw[Au (by simp;omega),AB,Au (by simp;omega),AB,Au (by simp;omega),AB]
theorem di{e:AW}(h:JY e=ao){n:Int}(o:0<=n)(j:n<=65520):LC e n=bb (((Hx e++[32])++bN n)++[10]):=by
 have i:=Lo h;have g:=FO (n:=n) ⟨by omega,by omega⟩;unfold LC;rw[YG h,Jy (n:=n) ⟨by omega,by omega⟩];simp only[dT];rw[Au (by simp;omega),AB,Au (by simp;omega),AB,Au (by simp;omega),AB]
def NZ(st:Int)(e:AW):List UInt8:=(Hx e++[32])++bN st
def Gm:Int->List AW->List UInt8
 | _,[]=>[]
 | last,e::es=>NZ (DE last e) e++10::Gm (DE last e) es
theorem tL{e:AW}(h:JY e=ao){st:Int}(o:0<=st)(j:st<=65520):1<=(NZ st e).length∧(NZ st e).length<=100:=by
 have i:=Lo h;have g:=FO (n:=st) ⟨by omega,by omega⟩;simp only[NZ,c8,List.length_singleton];omega
theorem dd:∀ (es:List AW) (last:Int),(∀ e,e∈es->JY e=ao)->0<=last->last<=65520->es.length<=(Gm last es).length∧(Gm last es).length<=101*es.length
 | [],_,_,_,_=>⟨cf _,by simp[Gm]⟩
 | e::es,last,o,I,C=>by
  have g:=o e (by simp);obtain⟨_,_,j,i⟩:=Ks g I C;have J:=dd es (DE last e) (fun x p=>o x (by simp[p])) j i;have R:=tL g j i;simp only[Gm,c8,c7];omega
def Yj(g p:Int)(i o j C:List UInt8):Option (AW×Int) :=if ((((CK i).2&&(CK j).2)&&JY ⟨(CK i).1,o,(CK j).1⟩)&&a7 (p<=(CK i).1))&&a7 (bN (DE g ⟨(CK i).1,o,(CK j).1⟩)=C) then bb (⟨(CK i).1,o,(CK j).1⟩,DE g ⟨(CK i).1,o,(CK j).1⟩) else h8
def psP (g i:Int):List (List UInt8)->Option (AW×Int)
 | [C,p,o,j]=>Yj g i C p o j
 | _=>h8
theorem vu{g i:Int}{ps:List (List UInt8)}(h:ps.length≠4):psP g i ps=h8:=by
 unfold psP;split
 ·exact absurd rfl h
 ·rfl
def Yu(g i:Int)(line:List UInt8):Option (AW×Int):=psP g i (Am 32 line)
def Ny(log:List UInt8)(i:Nat)(g j:Int):Option (Nat×AW×Int) :=match h6 (log.drop i) [10] with
 | (line,_,ao)=>(Yu g j line).map fun q=>(i+line.length+1,q.1,q.2)
 | _=>h8
def EK(es:List AW):Int:=if es.length=0 then 0 else (es.getD (es.length-1) a8).Day
theorem Zg(es:List AW)(e:AW):EK (es++[e])=e.Day:=by
 unfold EK;rw[if_neg (by simp)];simp
theorem jc{log:List UInt8}{i:Nat}{g I:Int}{i':Nat}{e:AW}{m:Int}(h:Ny log i g I=bb (i',e,m))(h0:0<=g)(h1:g<=65520)(hi:i<=log.length):
  i<i'∧i'<=log.length∧0<=m∧m<=65520∧JY e=ao∧I<=e.Day:=by
 unfold Ny at h;split at h
 ·rename_i line x J;rw[Option.map_eq_some_iff] at h;obtain⟨⟨e',m'⟩,o,T⟩:=h;simp only[Prod.mk.injEq] at T;obtain⟨rfl,rfl,rfl⟩:=T;unfold Yu psP at o;split at o
  ·unfold Yj at o;split at o
   ·rename_i U;cases o
    simp only[hX,ik] at U;obtain⟨⟨⟨_,j⟩,p⟩,_⟩:=U;obtain⟨_,_,s0,s1⟩:=Ks j h0 h1;refine⟨by omega,?_,s0,s1,j,p⟩;rcases JR 10 (log.drop i) with⟨_,R⟩|⟨a,b,C,R,_⟩
    ·rw[TS R] at J;cases J
    ·rw[C,QC R] at J;cases J
     have:=congrArg dz C;simp only[d',c8,c7] at this;omega
   ·cases o
  ·cases o
 ·cases h
def UB (log:List UInt8):Nat->List AW×Nat×Int->List AW×Nat×Int
 | 0,s=>s
 | f+1,s=>match Ny log s.2.1 s.2.2 (EK s.1) with
  | none=>s
  | some q=>UB log f (s.1++[q.2.1],q.1,q.2.2)
def Dw (log:List UInt8):List AW×Nat×Int:=UB log (log.length+1) ([],0,0)
structure VF(log:List UInt8)(s:List AW×Nat×Int):Prop where
 at_:s.2.1<=log.length
 few:s.1.length<=s.2.1
 lo:0<=s.2.2
 hi:s.2.2<=65520
 ok:∀ e,e∈s.1->JY e=ao
theorem VF.step{log:List UInt8}{s:List AW×Nat×Int}(h:VF log s){q:Nat×AW×Int}(i:Ny log s.2.1 s.2.2 (EK s.1)=bb q):VF log (s.1++[q.2.1],q.1,q.2.2):=by
 obtain⟨i',e,m⟩:=q;obtain⟨I,h2,p,o,j,C⟩:=jc i h.lo h.hi h.at_;have:=h.few;refine⟨h2,by simp;omega,p,o,fun x g=>?_⟩;rcases df.1 g with g|g
 ·exact h.ok x g
 ·rw[ga.1 g];exact j
theorem dS{log:List UInt8}:∀ (f:Nat) {s:List AW×Nat×Int},VF log s->VF log (UB log f s)
 | 0,_,h=>h
 | f+1,s,h=>by
  unfold UB;split
  ·exact h
  ·rename_i q g;exact dS f (h.step g)
theorem Vg(log:List UInt8):VF log ([],0,0):=⟨e6 _,cf _,Int.le_refl _,by decide,fun e g=>by simp at g⟩
theorem Qv(log:List UInt8):VF log (Dw log):=dS _ (Vg log)
theorem Vo{σ ρ:Type}{step:σ->Option (σ⊕ρ)}{log:List UInt8}(E:List AW×Nat×Int->σ)(R:List AW×Nat×Int->ρ)
  (hs:∀ s,VF log s->step (E s)=match Ny log s.2.1 s.2.2 (EK s.1) with
   | none=>bb (.inr (R s))
   | some q=>bb (.inl (E (s.1++[q.2.1],q.1,q.2.2)))) :
  ∀ (f:Nat) (s:List AW×Nat×Int),VF log s->log.length<f+s.2.1->AE step (E s)=bb (R (UB log f s))
 | 0,s,h,j=>by have:=h.at_;omega
 | f+1,s,h,j=>by
  have i:=hs s h;unfold UB;cases g:Ny log s.2.1 s.2.2 (EK s.1) with
  | none=>rw[g] at i;exact Ae i
  | some q=>
   rw[g] at i;rw[Ak i];obtain⟨g1,_⟩:=jc (i':=q.1) (e:=q.2.1) (m:=q.2.2) g h.lo h.hi h.at_;exact Vo E R hs f _ (h.step g) (by show log.length<f+q.1;omega)
theorem xc{s a r:List UInt8}{i j:Nat}(h:s.drop i=a++r)(o:j<a.length):i+j<s.length∧s.getD (i+j) 0=a.getD j 0:=by
 have g:=congrArg dz h;simp only[d',c8] at g;refine⟨by omega,?_⟩;have:=congrArg (fun l=>l[j]?) h;simp only[e3] at this;rw[ic,this,ev o,ic]
theorem lS{R:Gf}{i:Nat}{a r:List UInt8}(hd:R.s_.drop i=a++r)(C:10 ∉ a)(U:r=[]∨∃ b,r=10::b)(hi:i<=R.s_.length)(hl:R.s_.length<=1048576)(T:Bool):
  AE (DU R T) (i:Int)=bb ((i+a.length:Nat):Int):=by
 have g:=congrArg dz hd;simp only[d',c8] at g;have:=PZ (step:=DU R T) (fun j=>((i+j:Nat):Int)) a.length (r:=((i+a.length:Nat):Int)) (fun j p=>?_) ?_
 ·exact this
 ·obtain⟨I,h2⟩:=xc hd p
  have o:(((a.getD j 0).toNat:Int)==10)=bI:=by
   rw[beq_eq_false_iff_ne];intro c;refine C ?_;have hm:a.getD j 0∈a:=by rw[ic,geE p];exact hM p
   have:a.getD j 0=10:=by rw[← ec];exact Int.ofNat.inj c
   rwa [this] at hm
  simp only[DU,ca,I,decide_true,Af,b4,b9,AB,gg,h2,o,bR,h7,if_true,Aa (show i+j<9223372036854775807 by omega),eL]
 ·rcases U with rfl|⟨b,rfl⟩
  ·have e:¬ (i+a.length<R.s_.length):=by simp at g;omega
   simp only[DU,ca,e,decide_false,bR,c',AB,cb,ef,if_false]
  ·simp only[c7] at g;have I:i+a.length<R.s_.length:=by omega
   have h2:R.s_.getD (i+a.length) 0=10:=by
    have:=congrArg (fun l=>l[a.length]?) hd;simp only[e3] at this;rw[ic,this,en (cf _)];simp
   have J:(((10:UInt8).toNat:Int)==10)=true:=rfl;simp only[DU,ca,I,decide_true,Af,b4,b9,AB,gg,h2,J,cL,ef,if_false]
theorem xk{s a r:List UInt8}{i:Nat}(h:s.drop i=a++r):hR s (i:Int) ((i+a.length:Nat):Int)=a:=by
 simp only[hR,gg];rw[List.drop_take,h];simp
theorem xj{s:List UInt8}{i:Nat}:hR s (i:Int) (s.length:Int)=s.drop i:=by
 simp[hR]
def VY(log:List UInt8)(s:List AW×Nat×Int):Gf:=⟨log,(s.2.1:Int),s.2.2,s.1⟩
theorem xg{log:List UInt8}{s:List AW×Nat×Int}(g:s.1.length<=1048576):FA (VY log s)=bb (EK s.1):=by
 unfold FA EK VY
 by_cases h:s.1.length=0
 ·simp[h]
 ·have e:(((s.1.length:Nat):Int)==0)=bI:=by rw[beq_eq_false_iff_ne];omega
  have w:i64.wrap ((s.1.length:Int)-1)=((s.1.length-1:Nat):Int):=by rw[Z1 (by omega)];omega
  simp only[e,ef,if_false,w,if_neg h,gg];rw[Z2 (by omega),AB]
theorem dt{o j i g:List UInt8}:Pr 32 [o,j,i,g]=o++32::(j++32::(i++32::g)):=rfl
theorem YO{a o j i g:List UInt8}(h:Am 32 a=[o,j,i,g]):a=o++32::(j++32::(i++32::g)):=by
 have:=OY 32 a [];rw[hP] at this;rw[← this,← dt,← h];rfl
theorem ZU{ps:List (List UInt8)}(h:ps.length=4):∃ o j i g,ps=[o,j,i,g]:=by
 match ps,h with
 | [o,j,i,g],_=>exact⟨o,j,i,g,rfl⟩
theorem AAW{log:List UInt8}{s:List AW×Nat×Int}(h:VF log s)(hl:log.length<=1048576):
  IP (VY log s)=match Ny log s.2.1 s.2.2 (EK s.1) with
   | none=>bb (bI,VY log s)
   | some q=>bb (ao,VY log (s.1++[q.2.1],q.1,q.2.2)):=by
 obtain⟨es,i,last⟩:=s;have hi:i<=log.length:=h.at_;have ay:es.length<=i:=h.few;have h0:0<=last:=h.lo;have h1:last<=65520:=h.hi;have ad:=xg (log:=log) (s:=(es,i,last)) (by show es.length<=1048576;omega);unfold IP JF Ny;simp only;rcases JR 10 (log.drop i) with⟨_,hn⟩|⟨a,b,p,hn,_⟩
 ·have hw:=lS (R:=VY log (es,i,last)) (a:=log.drop i) (r:=[]) (by simp[VY]) hn (.inl rfl) hi hl bI;have e:i+(log.drop i).length=log.length:=by simp;omega
  rw[e] at hw;rw[show (VY log (es,i,last)).at_=(i:Int) from rfl,hw,TS hn];have T:a7 (((VY log (es,i,last)).s_.length:Int)<=((log.length:Nat):Int))=ao:=by simp[VY]
  simp only[dT,T,if_true]
 ·have hw:=lS (R:=VY log (es,i,last)) (a:=a) (r:=10::b) p hn (.inr ⟨b,rfl⟩) hi hl bI;have ac:=congrArg dz p;simp only[d',c8,c7] at ac;rw[show (VY log (es,i,last)).at_=(i:Int) from rfl,show (VY log (es,i,last)).s_=log from rfl,show (VY log (es,i,last)).stamp_=last from rfl,show (VY log (es,i,last)).list_=es from rfl,hw,p,QC hn];have T:a7 ((log.length:Int)<=((i+a.length:Nat):Int))=bI:=by simp;omega
  simp only[dT,T,ef,if_false];rw[Z3 (by omega),AB,xk p,Kz 32 (by omega)];simp only[dT];unfold Yu
  by_cases aa:(Am 32 a).length=4
  ·obtain⟨o,g,j,C,U⟩:=ZU aa;have ha:=YO U;have au:=congrArg dz ha;simp only[c8,c7] at au;rw[U];have q0:[o,g,j,C].getD 0 a8=o:=rfl;have q1:[o,g,j,C].getD 1 a8=g:=rfl;have q2:[o,g,j,C].getD 2 a8=j:=rfl;have k0:AU 0 [o,g,j,C].length=true:=rfl;have k1:AU 1 [o,g,j,C].length=true:=rfl;have k2:AU 2 [o,g,j,C].length=true:=rfl;have k4:((([o,g,j,C].length:Nat):Int)==4)=true:=rfl;simp only[k4,b4,ef,if_false,k0,k1,k2,q0,q1,q2,AB];rw[KH (s:=o) (by omega),KH (s:=j) (by omega)];simp only[dT,kV,ad,ax,b9,AB,b8];unfold psP Yj;simp only;generalize hd:(CK o).1=d;generalize hv:(CK j).1=v
   by_cases J:((((CK o).2&&(CK j).2)&&JY ⟨d,g,v⟩)&&a7 (EK es<=d))=ao
   ·have I:((((!(CK o).2)||(!(CK j).2))||(!(JY ⟨d,g,v⟩)))||a7 (d<EK es))=bI:=by
     simp only[hX,ik] at J;obtain⟨⟨⟨c1,c2⟩,c3⟩,c4⟩:=J;simp only[c1,c2,c3,b4,Bool.or_self,cA,decide_eq_false_iff_not];omega
    rw[J,I];simp only[hX,ik] at J;obtain⟨⟨⟨c1,c2⟩,c3⟩,c4⟩:=J;obtain⟨s1,s2,s3,s4⟩:=Ks c3 h0 h1;have e0:=(TD c1).1;have T:=(TD c2).1;rw[hd] at e0;rw[hv] at T;simp only[ef,if_false,OF c3,dT,s1,Yv c3 s3 s4]
    have w:i64.wrap (((i+a.length:Nat):Int)+1)=((i+(a++[10]).length:Nat):Int):=by
     rw[Aa (by omega)];simp[eL]
    rw[w,Fs (by omega) (by omega) (by simp;omega),AB,xk (a:=a++[10]) (r:=b) (by rw[p];simp)]
    have heq:((((Hx ⟨d,g,v⟩++[32])++bN (DE last ⟨d,g,v⟩))++[10])==a++[10])=a7 (bN (DE last ⟨d,g,v⟩)=C):=by
     rw[cd,beq_iff_eq,ik,List.append_cancel_right_eq,ha];simp only[Hx,e0,T,ct,List.singleton_append,gr,hP];constructor
     ·intro h;have h:=e5 h;have h:=e5 (e7 h).2;have h:=e5 (e7 h).2;exact (e7 h).2
     ·intro h;rw[h]
    rw[heq]
    by_cases hp:bN (DE last ⟨d,g,v⟩)=C
    ·simp only[hp,decide_true,b4,ef,if_false,h7,if_true,gn,dT];rw[Ba (by simp;omega),AB];rw[Aa (show i+a.length<9223372036854775807 by omega)];rfl
    ·simp only[hp,decide_false,bR,if_true,cL,ef,if_false,ea,dT]
   ·have ae:=gk.2 J
    have I:((((!(CK o).2)||(!(CK j).2))||(!(JY ⟨d,g,v⟩)))||a7 (d<EK es))=ao:=by
     have e:a7 (d<EK es) = !decide (EK es<=d):=by
      by_cases c:EK es<=d
      ·simp[c,hK.2 c]
      ·simp[c,Int.not_le.1 c]
     rw[e,← gj,← gj,← gj,ae];rfl
    rw[ae,I];simp only[if_true,cb,ef,if_false,ea,dT]
  ·have k4:(((((Am 32 a).length:Nat):Int))==4)=bI:=by rw[beq_eq_false_iff_ne];omega
   simp only[k4,bR,if_true,vu aa,ea,dT]
theorem nU{log:List UInt8}(g:log.length<=1048576):Hd log=bb (VY log (Dw log)):=by
 unfold Hd
 exact Vo (step:=Gs) (log:=log) (fun s=>VY log s) (fun s=>VY log s) (fun s hs=>by
  show (IP (VY log s)).bind _=_;rw[AAW hs g];cases Ny log s.2.1 s.2.2 (EK s.1) with
  | none=>rfl
  | some q=>rfl) (log.length+1) ([],0,0) (Vg log) (by show log.length<log.length+1+0;omega)
theorem yr{a b c o t z:Bool}(h:(c&&z)=bI):(((((a&&b)&&c)&&o)&&t)&&z)=bI:=by
 revert h;cases a<;>cases b<;>cases c<;>cases o<;>cases t<;>cases z<;>simp
theorem UC{line:List UInt8}(hl:line.length<=1048576):
  ∃ e m ok,FP line=bb (e,m,ok)∧∀ last C:Int,0<=last->last<=65520 ->
   ((ok&&a7 (C<=e.Day))=ao->JY e=ao) ∧
   Yu last C line=if (ok&&a7 (C<=e.Day))&&a7 (m=DE last e) then bb (e,m) else h8:=by
 unfold FP Yu;rw[TP (by omega)];simp only[dT]
 by_cases J:(Am 32 line).length=4
 ·obtain⟨p,i,o,g,I⟩:=ZU J;have ha:=YO I;have aa:=congrArg dz ha;simp only[c8,c7] at aa;rw[I];have q0:[p,i,o,g].getD 0 a8=p:=rfl;have q1:[p,i,o,g].getD 1 a8=i:=rfl;have q2:[p,i,o,g].getD 2 a8=o:=rfl;have q3:[p,i,o,g].getD 3 a8=g:=rfl;have k0:AU 0 [p,i,o,g].length=true:=rfl;have k1:AU 1 [p,i,o,g].length=true:=rfl;have k2:AU 2 [p,i,o,g].length=true:=rfl;have k3:AU 3 [p,i,o,g].length=true:=rfl;have T:((([p,i,o,g].length:Nat):Int)==4)=true:=rfl;simp only[T,b4,ef,if_false,k0,k1,k2,k3,q0,q1,q2,q3,AB];rw[PJ (s:=p) (by omega),PJ (s:=o) (by omega),PJ (s:=g) (by omega)];simp only[dT,Of,ax,b9,AB,b8];refine⟨_,_,_,rfl,fun last C h0 h1=>?_⟩;unfold psP Yj;simp only;generalize hd:(CK p).1=d;generalize hv:(CK o).1=v;refine⟨fun h=>?_,?_⟩
  ·simp only[hX] at h;exact h.1.2
  ·by_cases j:JY ⟨d,i,v⟩=ao
   ·obtain⟨_,_,s3,s4⟩:=Ks j h0 h1
    by_cases R:bN (DE last ⟨d,i,v⟩)=g
    ·have hr:CK g=(DE last ⟨d,i,v⟩,ao):=by rw[← R];exact js s3 s4
     simp only[hr,R,decide_true,cl]
    ·have hn:((CK g).2&&a7 ((CK g).1=DE last ⟨d,i,v⟩))=bI:=by
      cases c:(CK g).2 with
      | false=>rfl
      | true=>
       rw[bS,decide_eq_false_iff_not];intro e;exact R (by rw[← e];exact (TD c).1)
     have U:((((((CK p).2&&(CK o).2)&&(CK g).2)&&JY ⟨d,i,v⟩)&&a7 (C<=d))&&a7 ((CK g).1=DE last ⟨d,i,v⟩))=false:=yr hn;simp only[R,decide_false,cL,ef,if_false];rw[U];rfl
   ·have j:=gk.2 j;simp only[j,cL,cb,ef,if_false]
 ·have T:(((((Am 32 line).length:Nat):Int))==4)=bI:=by rw[beq_eq_false_iff_ne];omega
  simp only[T,bR,if_true,vu J];refine⟨_,_,_,rfl,fun last C _ _=>⟨fun h=>?_,?_⟩⟩
  ·simp at h
  ·simp
theorem fT{log:List UInt8}{s:List AW×Nat×Int}(h:VF log s)(hl:log.length<=1048576):
  Fi log (s.1,(s.2.1:Int),s.2.2,EK s.1)=match Ny log s.2.1 s.2.2 (EK s.1) with
   | none=>bb (.inr (s.1,(s.2.1:Int),s.2.2))
   | some q=>bb (.inl (s.1++[q.2.1],(q.1:Int),q.2.2,EK (s.1++[q.2.1]))):=by
 obtain⟨es,i,last⟩:=s;have hi:i<=log.length:=h.at_;have U:es.length<=i:=h.few;have h0:0<=last:=h.lo;have h1:last<=65520:=h.hi;unfold Fi Ny;simp only;rw[Z3 (by omega),AB,xj,Uk (by simp;omega)];simp only[dT];rcases JR 10 (log.drop i) with⟨_,I⟩|⟨a,b,C,I,_⟩
 ·rw[TS I];obtain⟨e,m,ok,J,_⟩:=UC (line:=log.drop i) (by simp;omega);simp only[J,dT,bR,c',b4,cA,AB,if_true]
 ·have p:=congrArg dz C;simp only[d',c8,c7] at p;rw[C,QC I];obtain⟨e,m,ok,J,R⟩:=UC (line:=a) (by omega);obtain⟨g,R⟩:=R last (EK es) h0 h1;simp only[J,dT,R,b4,cA]
  by_cases j:(ok&&a7 (EK es<=e.Day))=ao
  ·have g:=g j;obtain⟨s1,s2,s3,s4⟩:=Ks g h0 h1
   have o:((!ok)||a7 (e.Day<EK es))=bI:=by
    simp only[hX,ik] at j;simp only[j.1,b4,cA,decide_eq_false_iff_not];omega
   simp only[o,j,s2,ax,b9,AB,b8,cA,bS]
   by_cases hm:m=DE last e
   ·have T:(m==DE last e)=ao:=by rw[hm];exact beq_self_eq_true _
    simp only[T,hm,decide_true,b4,ef,if_false,if_true,gn];rw[Ba (by simp;omega),AB,Zg,Aa (show a.length<9223372036854775807 by omega),Z1 (by omega)];simp[eL]
   ·have T:(m==DE last e)=false:=beq_eq_false_iff_ne.2 hm;simp only[T,hm,decide_false,bR,if_true,ef,if_false,ea]
  ·have j:=gk.2 j
   have o:((!ok)||a7 (e.Day<EK es))=ao:=by
    have e2:a7 (e.Day<EK es) = !decide (EK es<=e.Day):=by
     by_cases c:EK es<=e.Day
     ·simp[c,hK.2 c]
     ·simp[c,Int.not_le.1 c]
    rw[e2,← gj,j];rfl
   simp only[o,j,b4,cA,AB,c',if_true,cb,ef,if_false,ea];rfl
theorem mw{log:List UInt8}(g:log.length<=1048576):Hn log=bb ((Dw log).1,((Dw log).2.1:Int),(Dw log).2.2):=by
 unfold Hn;have:=Vo (step:=Fi log) (log:=log) (fun s=>(s.1,(s.2.1:Int),s.2.2,EK s.1)) (fun s=>(s.1,(s.2.1:Int),s.2.2)) (fun s hs=>fT hs g) (log.length+1) ([],0,0) (Vg log) (by show log.length<log.length+1+0;omega);rw[show AE (Fi log) (([]:List AW),0,0,0)=_ from this];rfl
def Jh (log:List UInt8):Int:=if 4000<log.length then 5 else if (Dw log).2.1=log.length then 0 else 8
theorem Xt{log:List UInt8}(h:Jh log=0):log.length<=4000∧(Dw log).2.1=log.length∧(Dw log).1.length<=4000:=by
 unfold Jh at h;split at h
 ·exact absurd h (by decide)
 ·split at h
  ·rename_i g h2;have:=(Qv log).few;exact⟨by omega,h2,by omega⟩
  ·exact absurd h (by decide)
theorem TG{log:List UInt8}(i:log.length<=1048576):∃ r,ES log=bb (r,Jh log)∧(Jh log=0->r=VY log (Dw log)):=by
 unfold ES Jh
 by_cases h:4000<log.length
 ·have e:a7 ((4000:Int)<(log.length:Int))=true:=decide_eq_true (by omega);simp only[e,if_true,if_pos h];exact⟨_,rfl,fun c=>absurd c (by decide)⟩
 ·have e:a7 ((4000:Int)<(log.length:Int))=false:=decide_eq_false (by omega);simp only[e,ef,if_false,if_neg h,nU i,dT]
  by_cases h2:(Dw log).2.1=log.length
  ·have g:((VY log (Dw log)).at_==(log.length:Int))=ao:=by rw[beq_iff_eq];show (((Dw log).2.1:Nat):Int)=_;rw[h2]
   simp only[g,b4,ef,if_false,if_pos h2];exact⟨_,rfl,fun _=>rfl⟩
  ·have g:((VY log (Dw log)).at_==(log.length:Int))=bI:=by rw[beq_eq_false_iff_ne];show (((Dw log).2.1:Nat):Int)≠_;omega
   simp only[g,bR,if_true,if_neg h2];exact⟨_,rfl,fun c=>absurd c (by decide)⟩
theorem Qh{log:List UInt8}(i:log.length<=1048576):∃ es last,FG log=bb (es,last,Jh log)∧(Jh log=0->es=(Dw log).1∧last=(Dw log).2.2)∧(Jh log≠0->es=[]):=by
 unfold FG Jh;have hi:=(Qv log).at_
 by_cases h:4000<log.length
 ·have e:a7 ((4000:Int)<(log.length:Int))=true:=decide_eq_true (by omega);simp only[e,if_true,if_pos h];exact⟨_,_,rfl,fun c=>absurd c (by decide),fun _=>rfl⟩
 ·have e:a7 ((4000:Int)<(log.length:Int))=false:=decide_eq_false (by omega);simp only[e,ef,if_false,if_neg h,mw i,dT]
  by_cases h2:(Dw log).2.1=log.length
  ·have g:a7 (((Dw log).2.1:Int)<(log.length:Int))=false:=decide_eq_false (by omega);simp only[g,ef,if_false,if_pos h2];exact⟨_,_,rfl,fun _=>⟨rfl,rfl⟩,fun c=>absurd rfl c⟩
  ·have g:a7 (((Dw log).2.1:Int)<(log.length:Int))=true:=decide_eq_true (by omega);simp only[g,if_true,if_neg h2];exact⟨_,_,rfl,fun c=>absurd c (by decide),fun _=>rfl⟩
theorem VH{log:List UInt8}(g:log.length<=1048576):∃ es,FT log=bb (es,Jh log)∧(Jh log=0->es=(Dw log).1)∧(Jh log≠0->es=[]):=by
 unfold FT;obtain⟨es,last,j,h2,i⟩:=Qh g;rw[j];exact⟨es,rfl,fun c=>(h2 c).1,i⟩
def UO(x:Star):Bool:=((((Jf x.Name&&(a7 (0<=x.Ascend)&&a7 (x.Ascend<=86399)))&&(a7 (-324000<=x.Decl)&&a7 (x.Decl<=324000)))&&(a7 (-2000<=x.Bright)&&a7 (x.Bright<=20000)))&&(a7 (-2000<=x.Faint)&&a7 (x.Faint<=20000)))&&a7 (x.Bright<=x.Faint)
theorem dp(x:Star):Jn x=bb (UO x):=by
 unfold Jn UO;simp only[EU,Hg,Bo,De,IU,dT,ax,b8,b9,AB]
theorem eA(x:Star):Jt x=bb (UO x):=by
 unfold Jt UO;simp only[BT,Es,Ib,dT,ax,b8,b9,AB,Bool.and_assoc]
def ow(l:List Star)(i:Nat):Bool:=UO (l.getD i a8) && !(a7 (0<i) && !(c6 (l.getD (i-1) a8).Name (l.getD i a8).Name))
def KS(l:List Star):Bool:=(b' l.length).all (ow l)
theorem wq{l:List Star}(I:l.length<=1099511627776){i:Nat}(hi:i<l.length):IC l (i:Int)=bb (if ow l i=ao then .inl ((i+1:Nat):Int) else .inr (.inr bI)):=by
 simp only[IC,Af,hi,decide_true,AB,ca,if_true,gg,(Z4 i),dp,dT,ax,b8,b9];unfold ow
 by_cases g:0<i
 ·have p:a7 ((0:Int)<(i:Int))=ao:=by simpa using g
  have o:a7 (0<i)=ao:=by simpa using g
  have C:i64.wrap ((i:Int)-1)=((i-1:Nat):Int):=by rw[Z1 (by omega)];omega
  have j:AU ((i-1:Nat):Int) l.length=ao:=by rw[Af];simp;omega
  simp only[p,o,C,j,b9,AB,bS,gg];generalize UO (l.getD i a8)=A;generalize c6 (l.getD (i-1) a8).Name (l.getD i a8).Name=B;cases A<;>cases B<;>rfl
 ·have p:a7 ((0:Int)<(i:Int))=bI:=by simpa using g
  have o:a7 (0<i)=bI:=by simpa using g
  simp only[p,o,cb,cL,bR,c',AB,ew,cl];generalize UO (l.getD i a8)=A;cases A<;>rfl
theorem wt{l:List Star}(g:l.length<=1099511627776):Ls l=bb (KS l&&a7 (l.length<=60)):=by
 unfold Ls;rw[Kr (step:=IC l) (ow l) l.length (KS l) (yes:=.inl ()) (no:=.inr bI) (by unfold KS;simp) (fun i hi=>wq g hi) (by simp[IC])];have e:a7 ((l.length:Int)<=60)=a7 (l.length<=60):=by rw[cd];simp;omega
 simp only[dT,dy];cases KS l<;>simp[e]
theorem jm{l:List Star}(I:l.length<=1099511627776){i:Nat}(hi:i<l.length):Ac l l (l.length:Int) (i:Int)=bb (if ow l i=ao then .inl ((i+1:Nat):Int) else .inr (.inr bI)):=by
 simp only[Ac,Cx,Af,hi,decide_true,AB,ca,if_true,gg,(Z4 i),eA,dT,ax,b8,b9];unfold ow
 by_cases g:0<i
 ·have p:a7 ((0:Int)<(i:Int))=ao:=by simpa using g
  have o:a7 (0<i)=ao:=by simpa using g
  have C:i64.wrap ((i:Int)-1)=((i-1:Nat):Int):=by rw[Z1 (by omega)];omega
  have j:AU ((i-1:Nat):Int) l.length=ao:=by rw[Af];simp;omega
  simp only[p,o,C,j,b9,AB,bS,gg];generalize UO (l.getD i a8)=A;generalize c6 (l.getD (i-1) a8).Name (l.getD i a8).Name=B;cases A<;>cases B<;>rfl
 ·have p:a7 ((0:Int)<(i:Int))=bI:=by simpa using g
  have o:a7 (0<i)=bI:=by simpa using g
  simp only[p,o,cb,cL,bR,c',AB,ew,cl];generalize UO (l.getD i a8)=A;cases A<;>rfl
theorem cW{l:List Star}(g:l.length<=1099511627776):Gx l=bb (KS l&&a7 (l.length<=60)):=by
 unfold Gx BH
 by_cases h:60<(l.length:Int)
 ·have e:a7 (l.length<=60)=bI:=by simp;omega
  simp[h,e]
 ·have e:a7 (l.length<=60)=ao:=by simp;omega
  simp only[h,decide_false,ef,if_false];rw[Kr (step:=Ac l l (l.length:Int)) (ow l) l.length (KS l) (yes:=.inl ()) (no:=.inr bI) (by unfold KS;simp) (fun i hi=>jm g hi) (by simp[Ac])];simp only[dT,dy,e];cases KS l<;>rfl
def TO(l:List Star)(x:List UInt8):Bool:=l.any fun s=>s.Name==x
theorem Yx{l:List Star}(i:l.length<=1099511627776)(x:List UInt8):∃ z,Fu l x=bb z∧a7 (z<0) = !TO l x:=by
 unfold Fu TO
 rw[Lq (step:=Gu l x) (fun k=>(l.getD k a8).Name==x) (fun k=>(k:Int)) l.length
  (fun k g=>by
   simp only[Gu,Af,g,decide_true,AB,ca,if_true,gg,(Z4 k)];cases ((l.getD k a8).Name==x)<;>rfl)
  (by simp[Gu]),← lH l (fun s=>s.Name==x)]
 cases (b' l.length).find? (fun k=>(l.getD k a8).Name==x) with
 | none=>exact⟨-1,rfl,rfl⟩
 | some j=>exact⟨(j:Int),rfl,by simp⟩
theorem ZP{l:List Star}(i:l.length<=1099511627776)(x:List UInt8):Fz l x=bb (TO l x):=by
 unfold Fz Al Aw TO
 rw[Lq (step:=Ah l x (l.length:Int)) (fun k=>(l.getD k a8).Name==x) (fun k=>(k:Int)) l.length
  (fun k g=>by
   simp only[Ah,JL,Af,g,decide_true,AB,ca,if_true,gg,(Z4 k),dT];cases ((l.getD k a8).Name==x)<;>rfl)
  (by simp[Ah]),← lH l (fun s=>s.Name==x)]
 cases (b' l.length).find? (fun k=>(l.getD k a8).Name==x) with
 | none=>rfl
 | some j=>simp
theorem oZ:∀ a b:List UInt8,c6 a b=a7 (a<b)
 | [],[]=>rfl
 | [],_::_=>by simp[c6]
 | _::_,[]=>by simp[c6]
 | x::a,y::b=>by
  have g:=oZ a b;rw[c6,g,cd];simp[hz]
theorem UV(a:List UInt8):¬ a<a:=hW a
theorem wX{a b c:List UInt8}(g:a<b)(h2:b<c):a<c:=hY g h2
theorem pf(a b:List UInt8):a<b∨a=b∨b<a:=by
 by_cases h:a<b
 ·exact .inl h
 ·by_cases h2:b<a
  ·exact .inr (.inr h2)
  ·exact .inr (.inl (hL (gw.1 h2) (gw.1 h)))
def Xn(a b:AA):Prop:=a.Time<b.Time∨(a.Time=b.Time∧(a.Star<b.Star∨(a.Star=b.Star∧a.Observer<b.Observer)))
def uC(a b:AA):Prop:=a.Time=b.Time∧a.Star=b.Star∧a.Observer=b.Observer
theorem JC(a b:AA):FK a b=ao ↔ Xn a b:=by
 unfold FK Xn
 by_cases g:a.Time=b.Time
 ·rw[if_pos g]
  by_cases h2:a.Star=b.Star
  ·rw[if_pos h2,oZ,ik]
   exact⟨fun h=>.inr ⟨g,.inr ⟨h2,h⟩⟩,fun h=>by
    rcases h with h|⟨_,h|h⟩
    ·omega
    ·rw[h2] at h;exact absurd h (UV _)
    ·exact h.2⟩
  ·rw[if_neg h2,oZ,ik]
   exact⟨fun h=>.inr ⟨g,.inl h⟩,fun h=>by
    rcases h with h|⟨_,h|h⟩
    ·omega
    ·exact h
    ·exact absurd h.1 h2⟩
 ·rw[if_neg g,ik]
  exact⟨fun h=>.inl h,fun h=>by
   rcases h with h|h
   ·exact h
   ·exact absurd h.1 g⟩
theorem Yt{a b c:AA}(g:Xn a b)(h2:Xn b c):Xn a c:=by
 unfold Xn at *;rcases g with g|⟨p,g⟩
 ·rcases h2 with h2|⟨o,_⟩
  ·exact .inl (by omega)
  ·exact .inl (by omega)
 ·rcases h2 with h2|⟨o,h2⟩
  ·exact .inl (by omega)
  ·refine .inr ⟨by omega,?_⟩;rcases g with g|⟨j,g⟩
   ·rcases h2 with h2|⟨i,_⟩
    ·exact .inl (wX g h2)
    ·exact .inl (i▸g)
   ·rcases h2 with h2|⟨i,h2⟩
    ·exact .inl (j▸h2)
    ·exact .inr ⟨j.trans i,wX g h2⟩
theorem AAU(a:AA):¬ Xn a a:=by
 rintro (h|⟨_,h|⟨_,h⟩⟩)
 ·omega
 ·exact UV _ h
 ·exact UV _ h
theorem Xm(a b:AA):Xn a b∨uC a b∨Xn b a:=by
 unfold Xn uC;rcases Int.lt_trichotomy a.Time b.Time with h|h|h
 ·exact .inl (.inl h)
 ·rcases pf a.Star b.Star with h2|h2|h2
  ·exact .inl (.inr ⟨h,.inl h2⟩)
  ·rcases pf a.Observer b.Observer with g|g|g
   ·exact .inl (.inr ⟨h,.inr ⟨h2,g⟩⟩)
   ·exact .inr (.inl ⟨h,h2,g⟩)
   ·exact .inr (.inr (.inr ⟨h.symm,.inr ⟨h2.symm,g⟩⟩))
  ·exact .inr (.inr (.inr ⟨h.symm,.inl h2⟩))
 ·exact .inr (.inr (.inl h))
theorem Zd{a b:AA}(h:uC a b):¬ Xn a b:=by
 obtain⟨i,h2,g⟩:=h;rintro (h|⟨_,h|⟨_,h⟩⟩)
 ·omega
 ·rw[h2] at h;exact UV _ h
 ·rw[g] at h;exact UV _ h
theorem kt{l:List AA}(g:FY l=ao){i:Nat}(hi:i+1<l.length):Xn (l.getD i a8) (l.getD (i+1) a8):=by
 unfold FY at g;have:=QK g hi;unfold wG at this;simp only[hI,hX,e8] at this;rw[← JC];have h2:=this.2;have e:a7 (0<i+1)=true:=decide_eq_true (by omega);rw[e,bS] at h2;simpa using h2
theorem kr{l:List AA}(g:FY l=ao):∀ (d i:Nat),i+d+1<l.length->Xn (l.getD i a8) (l.getD (i+d+1) a8)
 | 0,i,h=>kt g h
 | d+1,i,h=>Yt (kr g d i (by omega)) (kt g (i:=i+d+1) h)
theorem NK{l:List AA}(o:FY l=ao){i j:Nat}(g:i<j)(p:j<l.length):Xn (l.getD i a8) (l.getD j a8):=by
 have:=kr o (j-i-1) i (by omega)
 rwa [show i+(j-i-1)+1=j by omega] at this
theorem Zj(a b:AA):∃ c,BV a b=bb c∧a7 (c<0)=FK a b∧((c==0)=ao ↔ uC a b):=by
 obtain⟨c,g,T⟩:=XD a b;refine⟨c,g,T,?_⟩;unfold BV at g;simp only[Si,bt,AEf,dT,Option.some.injEq] at g;obtain⟨_,I⟩:=PS a.Star b.Star;obtain⟨_,J⟩:=PS a.Observer b.Observer
 have p:bX a.Star b.Star=0 ↔ a.Star=b.Star:=by
  rw[← beq_iff_eq,I,beq_iff_eq]
 have C:bX a.Observer b.Observer=0 ↔ a.Observer=b.Observer:=by
  rw[← beq_iff_eq,J,beq_iff_eq]
 rw[beq_iff_eq,← g];unfold uC
 by_cases o:a.Time<b.Time
 ·simp only[o,if_true];constructor
  ·intro h;simp at h
  ·intro h;omega
 ·by_cases h2:b.Time<a.Time
  ·simp only[o,h2,if_true,if_false];constructor
   ·intro h;simp at h
   ·intro h;omega
  ·simp only[o,h2,if_false,ne_eq,not_true_eq_false];have R:a.Time=b.Time:=by omega
   by_cases j:bX a.Star b.Star=0
   ·simp only[j,not_true_eq_false,if_false];have hs:=p.1 j
    by_cases i:bX a.Observer b.Observer=0
    ·simp only[i,not_true_eq_false,if_false];exact⟨fun _=>⟨R,hs,C.1 i⟩,fun _=>trivial⟩
    ·simp only[i,not_false_eq_true,if_true];exact⟨fun h=>h.elim,fun h=>i (C.2 h.2.2)⟩
   ·simp only[j,not_false_eq_true,if_true];exact⟨fun h=>h.elim,fun h=>j (p.2 h.2.1)⟩
def Ke(l:List AA)(e:AA)(k:Nat):Prop:=k<=l.length∧(∀ i,i<k->Xn (l.getD i a8) e)∧∀ i,k<=i->i<l.length->¬ Xn (l.getD i a8) e
theorem AGP{i j n:Nat}(g:i<j)(p:j<=n)(o:n<=1000000):hF ((i:Int)+(j:Int))=(((i+j)/2:Nat):Int):=by
 unfold hF
 rw[Z1 (n:=(i:Int)+(j:Int)) (by omega)]
 have:u64.wrap ((i:Int)+(j:Int))=(i:Int)+(j:Int):=by
  have:=IntKind.wrap_u64 ((i:Int)+(j:Int));rw[this];omega
 rw[this,show (2:Int)^(min 1 64)=2 from rfl,Int.fdiv_eq_ediv_of_nonneg _ (by omega),Z1 (by omega)];omega
theorem Xu{l:List AA}{e:AA}(C:FY l=ao)(R:l.length<=1000000):∀ (m i j:Nat),j-i<=m->i<=j->j<=l.length->(∀ a,a<i->Xn (l.getD a a8) e)->(∀ a,j<=a->a<l.length->¬ Xn (l.getD a a8) e) ->
  ∃ k:Nat,AE (AI l e (l.length:Int)) ((i:Int),(j:Int))=bb (k:Int)∧Ke l e k
 | 0,i,j,hm,o,p,T,h2=>by
  have o:i=j:=by omega
  subst o;exact⟨i,Ae (by simp[AI]),p,T,h2⟩
 | m+1,i,j,hm,o,p,T,h2=>by
  by_cases U:i<j
  ·have hk:(i+j)/2<l.length:=by omega
   obtain⟨c,hc,J,_⟩:=Zj (l.getD ((i+j)/2) a8) e
   have hs:AI l e (l.length:Int) ((i:Int),(j:Int))=bb (if a7 (c<0)=ao then .inl ((((i+j)/2+1:Nat):Int),(j:Int)) else .inl ((i:Int),(((i+j)/2:Nat):Int))):=by
    simp only[AI];rw[if_pos (decide_eq_true (by omega)),Tu (by decide),AB,AGP U p R,Af,decide_eq_true hk,AB,gg,hc];simp only[dT];rw[Aa (by omega)];split<;>rfl
   cases I:a7 (c<0) with
   | true=>
    rw[I] at hs J;rw[Ak hs];have g:=(JC _ _).1 J.symm;refine Xu C R m ((i+j)/2+1) j (by omega) (by omega) p (fun a ha=>?_) h2;rcases ek a ((i+j)/2) with h|h
    ·exact Yt (NK C h hk) g
    ·obtain rfl:a=(i+j)/2:=by omega
     exact g
   | false=>
    rw[I] at hs J;rw[Ak hs]
    have g:¬ Xn (l.getD ((i+j)/2) a8) e:=fun h=>by
     rw[(JC _ _).2 h] at J;exact hO J
    refine Xu C R m i ((i+j)/2) (by omega) (by omega) (by omega) T (fun a ha aa h=>?_);rcases ek ((i+j)/2) a with c|c
    ·exact g (Yt (NK C c aa) h)
    ·obtain rfl:a=(i+j)/2:=by omega
     exact g h
  ·exact Xu C R m i j (by omega) o p T h2
theorem Zt{l:List AA}(e:AA)(o:FY l=ao)(j:l.length<=1000000):
  ∃ (k:Nat) (f:Bool),AL l e=bb ((k:Int),f)∧Ke l e k∧(f=ao ↔ k<l.length∧uC (l.getD k a8) e):=by
 obtain⟨k,g,i⟩:=Xu (e:=e) o j l.length 0 l.length (by omega) (by omega) (cf _) (fun a C=>absurd C (by omega)) (fun a R h2=>absurd h2 (by omega));have g:AE (AI l e (l.length:Int)) (0,(l.length:Int))=bb (k:Int):=g;obtain⟨c,p,_,I⟩:=Zj (l.getD k a8) e;unfold AL;rw[g];simp only[dT,gg,p,ax,b8,b9,AB];have J:a7 ((k:Int)<(l.length:Int))=a7 (k<l.length):=by rw[cd];simp
 refine⟨k,a7 (k<l.length)&&(c==0),?_,i,?_⟩
 ·rw[J,Af];cases decide (k<l.length)<;>simp[AB]
 ·rw[hX,ik,I]
theorem Rq{l:List Star}:KS l=ao ↔ ∀ i,i<l.length->UO (l.getD i a8)=ao∧(0<i->c6 (l.getD (i-1) a8).Name (l.getD i a8).Name=ao):=by
 unfold KS ow;simp only[cI,hV,hX,e8,hC,decide_eq_false_iff_not,hE];constructor
 ·intro h i hi;obtain⟨a,b⟩:=h i hi;refine⟨a,fun g=>?_⟩;rcases b with b|b
  ·exact absurd g b
  ·exact b
 ·intro h i hi;obtain⟨a,b⟩:=h i hi;refine⟨a,?_⟩
  by_cases g:0<i
  ·exact .inr (b g)
  ·exact .inl g
def eW(l:List Star)(n:List UInt8):Option Nat:=(b' l.length).find? fun i=>(l.getD i a8).Name==n
theorem ZY{l:List Star}{n:List UInt8}(h:eW l n=h8):∀ i,i<l.length->(l.getD i a8).Name≠n:=by
 unfold eW at h;rw[et] at h;intro i hi;simpa using h i (by simpa using hi)
theorem Zw:∀ a b:List UInt8,c6 a b=a7 (a<b)
 | [],[]=>by simp[c6]
 | _::_,[]=>by simp[c6]
 | [],_::_=>by simp[c6]
 | x::a,y::b=>by
  simp only[c6,Zw a b,hz]
  by_cases c1:x<y<;>by_cases c2:x=y<;>by_cases c3:a<b<;>simp[c1,c2,c3]
theorem pd(a:List UInt8):¬ a<a:=hW a
theorem Ys{a b c:List UInt8}(g:a<b)(h2:b<c):a<c:=hY g h2
theorem pZ(a b:List UInt8):a<b∨a=b∨b<a:=by
 by_cases h:a<b
 ·exact .inl h
 ·by_cases h2:b<a
  ·exact .inr (.inr h2)
  ·exact .inr (.inl (hL (gw.1 h2) (gw.1 h)))
theorem Xk{l:List Star}(g:KS l=ao){i:Nat}(j:0<i)(hi:i<l.length):(l.getD (i-1) a8).Name<(l.getD i a8).Name:=by
 have:=(Rq.1 g i hi).2 j;rw[Zw] at this;exact of_decide_eq_true this
theorem ACH{l:List Star}(g:KS l=ao):∀ (d i:Nat),i+d+1<l.length->(l.getD i a8).Name<(l.getD (i+d+1) a8).Name
 | 0,i,h=>by have:=Xk g (i:=i+1) (by omega) h;simpa using this
 | d+1,i,h=>by
  have j:=ACH g d i (by omega);have h2:=Xk g (i:=i+d+1+1) (by omega) h;rw[hI] at h2;rw[show i+(d+1)+1=i+d+1+1 by omega];exact Ys j h2
theorem ul{l:List Star}(o:KS l=ao){i j:Nat}(g:i<j)(p:j<l.length):(l.getD i a8).Name<(l.getD j a8).Name:=by
 have:=ACH o (j-i-1) i (by omega);rw[show i+(j-i-1)+1=j by omega] at this;exact this
def Me(l:List Star)(n:List UInt8)(k:Nat):Prop:=k<=l.length∧(∀ i,i<k->(l.getD i a8).Name<n)∧∀ i,k<=i->i<l.length->n<(l.getD i a8).Name
theorem Wt{l:List Star}(U:l.length<=1000000)(R:KS l=ao){x:Star}(T:eW l x.Name=h8):∃ k:Nat,AE (As l x) 0=bb (k:Int)∧Me l x.Name k:=by
 have j:=ZY T
 obtain⟨y,I,k,rfl,g⟩:=Dq (step:=As l x) (fun s=>∃ k:Nat,s=(k:Int)∧k<=l.length∧∀ i,i<k->(l.getD i a8).Name<x.Name) (fun r=>∃ k:Nat,r=(k:Int)∧Me l x.Name k) (fun s=>l.length-s.toNat) (by
  rintro s ⟨k,rfl,C,h2⟩
  by_cases c:k<l.length
  ·have p:(k:Int)<(l.length:Int):=by omega
   simp only[As,Cx,ax,b8,b9,AB,Af,c,decide_true,p,bS,gg,Zw]
   by_cases c2:(l.getD k a8).Name<x.Name
   ·left;rw[if_pos (by simpa using c2),(Z4 k)]
    exact⟨_,rfl,⟨k+1,rfl,c,fun i hi=>by
     by_cases e:i=k
     ·subst e;exact c2
     ·exact h2 i (by omega)⟩,by simp only[gg];omega⟩
   ·right;rw[if_neg (by simpa using c2)];refine⟨_,rfl,k,rfl,C,h2,fun i J o=>?_⟩
    have g:x.Name<(l.getD k a8).Name:=by
     rcases pZ (l.getD k a8).Name x.Name with h|h|h
     ·exact absurd h c2
     ·exact absurd h (j k c)
     ·exact h
    by_cases e:i=k
    ·subst e;exact g
    ·exact Ys g (ul R (by omega) o)
  ·right;have p:¬ (k:Int)<(l.length:Int):=by omega
   simp only[As,Cx,ax,b8,b9,AB,p,decide_false,bR,c',cb,ef,if_false];exact⟨_,rfl,k,rfl,C,h2,fun i a b=>by omega⟩) (s:=(0:Int)) ⟨0,rfl,e6 _,fun i h=>by omega⟩
 exact⟨k,I,g⟩
def cH(l:List Star)(k:Nat)(x:Star):List Star:=l.take k++x::l.drop k
theorem jw{l:List Star}{k:Nat}(g:k<=l.length)(x:Star):(cH l k x).length=l.length+1:=by unfold cH;simp;omega
theorem jx{l:List Star}{k:Nat}(j:k<=l.length)(x:Star)(i:Nat):(cH l k x).getD i a8=if i<k then l.getD i a8 else if i=k then x else l.getD (i-1) a8:=by
 unfold cH;have g:(l.take k).length=k:=by rw[List.length_take];omega
 rw[ic]
 by_cases c:i<k
 ·rw[if_pos c,ev (by omega),List.getElem?_take,if_pos c,ic]
 ·rw[if_neg c,en (by omega),g]
  by_cases c2:i=k
  ·subst c2;simp
  ·rw[if_neg c2,show i-k=(i-1-k)+1 by omega,List.getElem?_cons_succ,e3,show k+(i-1-k)=i-1 by omega,ic]
theorem sW{l:List Star}(g:KS l=ao){x:Star}(o:UO x=ao){k:Nat}(p:Me l x.Name k):KS (cH l k x)=ao:=by
 obtain⟨j,h2,C⟩:=p;refine Rq.2 fun i hi=>?_
 rw[jw j] at hi;rw[jx j,jx j];refine⟨?_,fun I=>?_⟩
 ·split
  ·exact (Rq.1 g i (by omega)).1
  ·split
   ·exact o
   ·exact (Rq.1 g (i-1) (by omega)).1
 ·rw[Zw,ik]
  by_cases c1:i<k
  ·rw[if_pos (by omega),if_pos c1];exact Xk g I (by omega)
  ·rw[if_neg c1]
   by_cases c2:i=k
   ·subst c2;rw[if_pos (by omega),if_pos rfl];exact h2 _ (by omega)
   ·rw[if_neg c2]
    by_cases c3:i-1=k
    ·rw[if_neg (by omega),if_pos c3];exact C _ (by omega) (by omega)
    ·rw[if_neg (by omega),if_neg c3];exact Xk g (by omega) (by omega)
theorem lW{l:List Star}(g:l.length<=1000000):CG l=bb l:=by
 unfold CG;rw[Ba (by simp;omega),AB];rfl
theorem WK{l:List Star}{n:List UInt8}(h:TO l n=bI):eW l n=h8:=by
 unfold eW;rw[et];intro i hi;have g:i<l.length:=by simpa using hi
 unfold TO at h;rw[← gv,gu] at h;intro c;exact h ⟨_,Id g a8,c⟩
theorem cJ{l:List Star}{n:List UInt8}{k g:Nat}(h:Me l n k)(o:Me l n g):k=g:=by
 have one:∀ {a b:Nat},Me l n a->Me l n b->¬ a<b:=fun p i c=>by
  have j:=i.2.1 _ c;have h2:=p.2.2 _ (cf _) (gf c i.1);exact pd _ (Ys j h2)
 have j:=one h o;have h2:=one o h;omega
open Classical in
def nG(l:List Star)(n:List UInt8):Nat:=if h:∃ k,Me l n k then Classical.choose h else 0
theorem Vq{l:List Star}{n:List UInt8}{k:Nat}(h:Me l n k):nG l n=k:=by
 unfold nG;have g:∃ k,Me l n k:=⟨k,h⟩;rw[dif_pos g];exact cJ (Classical.choose_spec g) h
def XV(l:List Star)(x:Star):List Star×Int :=if (KS l&&a7 (l.length<=60))=ao then if UO x=ao then if TO l x.Name=ao then ([],4) else if l.length=60 then ([],5) else (cH l (nG l x.Name) x,0) else ([],2) else ([],1)
theorem pB{l:List Star}(I:l.length<=1000000)(x:Star):Iz l x=bb (XV l x):=by
 unfold Iz XV;rw[cW (by omega),dT,eA,dT,ZP (by omega),dT];cases o:(KS l&&a7 (l.length<=60)) with
 | false=>simp
 | true=>
  cases C:UO x with
  | false=>simp
  | true=>
   simp only[b4,ef,if_false,if_true];cases h:TO l x.Name with
   | true=>simp
   | false=>
    simp only[ef,if_false]
    by_cases g:l.length=60
    ·rw[if_pos g,if_pos (by simp;omega)]
    ·rw[if_neg g,if_neg (by simp;omega)];have i:=(cn.1 o).1;obtain⟨k,p,j⟩:=Wt (l:=l) (by omega) i (x:=x) (WK h);rw[Vq j];unfold Bk;rw[p,dT,lW (by omega),dT];unfold gE;have J:=j.1;rw[if_pos (by simp[kj];omega)];simp only[dT,gg];unfold cH;simp
theorem ABo{l:List Star}{x:Star}(T:l.length<=1000000)(h:(XV l x).2=0):KS (XV l x).1=ao∧(XV l x).1.length<=60∧∀ n,TO l n=ao->TO (XV l x).1 n=ao:=by
 unfold XV at h ⊢;split at h
 ·rename_i R;split at h
  ·rename_i C;split at h
   ·exact absurd h (by decide)
   ·rename_i J;split at h
    ·exact absurd h (by decide)
    ·rename_i o;have g:=cn.1 R;have I:=of_decide_eq_true g.2;rw[if_pos R,if_pos C,if_neg J,if_neg o];obtain⟨k,e1,i⟩:=Wt (l:=l) T g.1 (x:=x) (WK (by simpa using J));rw[Vq i];refine⟨sW g.1 C i,by rw[jw i.1];omega,fun n j=>?_⟩;unfold TO at j ⊢;rw[gu] at j ⊢;obtain⟨s,U,h2⟩:=j;refine⟨s,?_,h2⟩;unfold cH;have p:s∈l.take k++l.drop k:=by rw[fm];exact U
     rcases df.1 p with c|c
     ·exact df.2 (.inl c)
     ·exact df.2 (.inr (List.mem_cons_of_mem _ c))
  ·exact absurd h (by decide)
 ·exact absurd h (by decide)
theorem zD{l:List Star}{x:Star}(g:l.length<=1000000):(XV l x).1.length<=l.length+1:=by
 unfold XV;split
 ·split
  ·split
   ·simp
   ·split
    ·simp
    ·unfold cH;simp;omega
  ·simp
 ·simp
theorem ju(l:List AA)(e:AA){k:Nat}(o:k<=l.length)(i:Nat):(((l.take k)++[e])++l.drop k).getD i a8=if i<k then l.getD i a8 else if i=k then e else l.getD (i-1) a8:=by
 have g:(l.take k).length=k:=by simp;omega
 rw[ct]
 by_cases c:i<k
 ·rw[if_pos c,ic,ic,ev (by omega),List.getElem?_take_of_lt c]
 ·rw[if_neg c,ic,en (by omega),g]
  by_cases c2:i=k
  ·subst c2;rw[if_pos rfl,Nat.sub_self];rfl
  ·rw[if_neg c2];obtain⟨j,rfl⟩:∃ j,i=k+(j+1):=⟨i-k-1,by omega⟩;rw[show k+(j+1)-k=j+1 by omega];show ((l.drop k)[j]?).getD a8=_;rw[e3,ic,show k+(j+1)-1=k+j by omega]
theorem tc{l:List AA}{e:AA}(C:FY l=ao)(J:Mf e=ao){k:Nat}(p:k<=l.length)(U:k<l.length->FK e (l.getD k a8)=ao)(h2:0<k->FK (l.getD (k-1) a8) e=ao):
  FY (((l.take k)++[e])++l.drop k)=ao:=by
 have g:∀ i,i<l.length->Mf (l.getD i a8)=ao∧(0<i->FK (l.getD (i-1) a8) (l.getD i a8)=ao):=by
  intro i hi;unfold FY at C;have:=QK C hi;unfold wG at this;simp only[hX,e8,hC,decide_eq_false_iff_not,hE] at this;exact⟨this.1,fun o=>this.2.elim (fun c=>absurd o c) id⟩
 unfold FY;rw[cI];intro i hi
 have I:i<l.length+1:=by
  have:(((l.take k)++[e])++l.drop k).length=l.length+1:=by simp;omega
  rw[this] at hi;simpa using hi
 have j:∀ A B:Bool,A=ao->(0<i->B=ao)->(A && !(a7 (0<i) && !B))=ao:=by
  intro A B T R;rw[T,bS]
  by_cases c:0<i
  ·rw[R c];simp
  ·simp[c]
 unfold wG;rw[ju l e p,ju l e p];refine j _ _ ?_ (fun o=>?_)
 ·by_cases c:i<k
  ·rw[if_pos c];exact (g i (by omega)).1
  ·rw[if_neg c]
   by_cases c2:i=k
   ·rw[if_pos c2];exact J
   ·rw[if_neg c2];exact (g (i-1) (by omega)).1
 ·by_cases c:i<k
  ·rw[if_pos (show i-1<k by omega),if_pos c];exact (g i (by omega)).2 o
  ·rw[if_neg c]
   by_cases c2:i=k
   ·rw[if_pos c2,if_pos (show i-1<k by omega),c2];exact h2 (by omega)
   ·rw[if_neg c2]
    by_cases c3:i-1=k
    ·rw[if_neg (show ¬ i-1<k by omega),if_pos c3,c3];exact U (by omega)
    ·rw[if_neg (show ¬ i-1<k by omega),if_neg c3];exact (g (i-1) (by omega)).2 (by omega)
theorem lX{l:List AA}(g:l.length<=1000000):Bb l=bb l:=by
 unfold Bb;rw[Ba (by simp;omega),AB];rfl
def fX(l:List AA)(k:Nat)(e:AA):List AA:=((l.take k)++[e])++l.drop k
theorem ft{l:List AA}{k:Nat}(e:AA)(i:k<=l.length)(g:l.length<=1000):gE 56 l (k:Int) ([e]:List AA)=bb (fX l k e):=by
 unfold gE kj;rw[if_pos (by simp;omega)];simp[fX]
theorem vp{l:List AA}{e:AA}{k:Nat}(o:FY l=ao)(p:Mf e=ao)(j:Ke l e k)(g:¬ (k<l.length∧uC (l.getD k a8) e)):FY (fX l k e)=ao:=by
 obtain⟨I,C,h2⟩:=j;refine tc o p I (fun i=>?_) (fun i=>(JC _ _).2 (C (k-1) (by omega)));rw[JC];rcases Xm (l.getD k a8) e with h|h|h
 ·exact absurd h (h2 k (cf _) i)
 ·exact absurd ⟨i,h⟩ g
 ·exact h
theorem Yh{l:List AA}{e:AA}{k g:Nat}(h:Ke l e k)(j:Ke l e g):k=g:=by
 have one:∀ {a b:Nat},Ke l e a->Ke l e b->¬ a<b:=fun o i c=>o.2.2 _ (cf _) (gf c i.1) (i.2.1 _ c)
 have p:=one h j;have h2:=one j h;omega
open Classical in
def Yi(l:List AA)(e:AA):Nat:=if h:∃ k,Ke l e k then Classical.choose h else 0
theorem Vr{l:List AA}{e:AA}{k:Nat}(h:Ke l e k):Yi l e=k:=by
 unfold Yi;have g:∃ k,Ke l e k:=⟨k,h⟩;rw[dif_pos g];exact Yh (Classical.choose_spec g) h
open Classical in
def XW(l:List AA)(e:AA):List AA×Int :=if (FY l&&a7 (l.length<=100))=ao then if Mf e=ao then if Yi l e<l.length∧uC (l.getD (Yi l e) a8) e then ([],4) else if l.length=100 then ([],5) else (fX l (Yi l e) e,0) else ([],2) else ([],1)
theorem bx{l:List AA}(C:l.length<=1000000)(e:AA):Dm l e=bb (XW l e):=by
 unfold Dm XW;rw[Hu (by omega),dT,SW,dT];cases J:(FY l&&a7 (l.length<=100)) with
 | false=>simp
 | true=>
  cases T:Mf e with
  | false=>simp
  | true=>
   simp only[b4,ef,if_false,if_true];obtain⟨o,i⟩:=cn.1 J;have i:=of_decide_eq_true i;obtain⟨k,f,R,p,I⟩:=Zt (l:=l) e o C;rw[R,dT,Vr p];cases f with
   | true=>rw[if_pos (I.1 rfl)];simp
   | false=>
    rw[if_neg (fun h=>hO (I.2 h))]
    by_cases g:l.length=100
    ·rw[if_pos g];simp[g]
    ·have j:((l.length:Int)==100)=bI:=by rw[beq_eq_false_iff_ne];omega
     rw[if_neg g,lX C];simp only[dT,ef,if_false,j,ft e p.1 (show l.length<=1000 by omega)]
theorem AAQ{l:List AA}{k:Nat}{e x:AA}:x∈fX l k e ↔ x=e∨x∈l:=by
 unfold fX
 have:x∈l ↔ x∈l.take k∨x∈l.drop k:=by
  rw[← df,fm]
 rw[this];simp only[df,ga];constructor
 ·rintro ((h|h)|h)
  ·exact .inr (.inl h)
  ·exact .inl h
  ·exact .inr (.inr h)
 ·rintro (h|h|h)
  ·exact .inl (.inr h)
  ·exact .inl (.inl h)
  ·exact .inr h
theorem ABp{l:List AA}{e:AA}(J:l.length<=1000000)(h:(XW l e).2=0):FY (XW l e).1=ao∧(XW l e).1.length<=100∧∀ x,x∈(XW l e).1->x=e∨x∈l:=by
 unfold XW at h ⊢;split at h
 ·rename_i I;split at h
  ·rename_i j;split at h
   ·exact absurd h (by decide)
   ·rename_i p;split at h
    ·exact absurd h (by decide)
    ·rename_i i;have g:=cn.1 I;have C:=of_decide_eq_true g.2;rw[if_pos I,if_pos j,if_neg p,if_neg i];obtain⟨k,f,T,o,R⟩:=Zt (l:=l) e g.1 J;rw[Vr o] at p ⊢;exact⟨vp g.1 j o p,by unfold fX;simp;have:=o.1;omega,fun x j=>AAQ.1 j⟩
  ·exact absurd h (by decide)
 ·exact absurd h (by decide)
theorem zF{l:List AA}{e:AA}:(XW l e).1.length<=l.length+1:=by
 unfold XW;split
 ·split
  ·split
   ·simp
   ·split
    ·simp
    ·unfold fX;simp;omega
  ·simp
 ·simp
theorem AGl{α:Type}(l:List α)(n:Nat):hR l 0 (n:Int)=l.take n:=by simp[hR]
theorem AGm{α:Type}(l:List α)(n:Nat):hR l (n:Int) (l.length:Int)=l.drop n:=by simp[hR]
theorem nE{k:Nat}(h:k+1<=9223372036854775807):i64.wrap (((k+1:Nat):Int)-1)=(k:Int):=by rw[Z1 (by omega)];omega
theorem je{l:List Star}(T:l.length<=1000000)(p:KS l=ao){x:Star}(C:eW l x.Name=h8):∃ k:Nat,AE (Gv l x) (l.length:Int)=bb (k:Int)∧Me l x.Name k:=by
 have j:=ZY C
 obtain⟨y,o,k,rfl,g⟩:=Dq (step:=Gv l x) (fun s=>∃ k:Nat,s=(k:Int)∧k<=l.length∧∀ i,k<=i->i<l.length->x.Name<(l.getD i a8).Name) (fun r=>∃ k:Nat,r=(k:Int)∧Me l x.Name k) (fun s=>s.toNat) (by
  rintro s ⟨k,rfl,R,h2⟩;cases k with
  | zero=>exact .inr ⟨_,rfl,0,rfl,e6 _,fun i hi=>absurd hi (Nat.not_lt_zero i),fun i _ hi=>h2 i (e6 _) hi⟩
  | succ k=>
   have c:a7 ((0:Int)<((k+1:Nat):Int))=true:=decide_eq_true (by omega);have g:k<l.length:=by omega
   simp only[Gv,c,nE (show k+1<=9223372036854775807 by omega),Af,g,decide_true,b4,cA,AB,bS,gg,Zw];rcases pZ (l.getD k a8).Name x.Name with h|h|h
   ·right;rw[if_neg (by rw[decide_eq_true h];simp)]
    exact⟨_,rfl,k+1,rfl,R,fun i hi=>by
     by_cases e:i=k
     ·subst e;exact h
     ·exact Ys (ul p (show i<k by omega) g) h,h2⟩
   ·exact absurd h (j k g)
   ·left;have J:¬ (l.getD k a8).Name<x.Name:=fun c=>pd _ (Ys c h)
    have I:¬ (l.getD k a8).Name=x.Name:=j k g;rw[if_pos (by rw[decide_eq_false J,beq_eq_false_iff_ne.2 I];rfl)]
    exact⟨_,rfl,⟨k,rfl,by omega,fun i a b=>by
     by_cases e:i=k
     ·subst e;exact h
     ·exact h2 i (by omega) b⟩,by simp only[gg];omega⟩) (s:=(l.length:Int)) ⟨l.length,rfl,cf _,fun i a b=>by omega⟩
 exact⟨k,o,g⟩
theorem XN{l:List Star}(R:l.length<=1000000)(x:Star):Fw l x=bb (XV l x):=by
 unfold Fw XV;obtain⟨z,C,g⟩:=Yx (l:=l) (by omega) x.Name;rw[wt (by omega),dT,dp,dT,C,dT]
 have j:a7 ((0:Int)<=z)=TO l x.Name:=by
  cases h:TO l x.Name<;>rw[h] at g<;>simp at g ⊢<;>omega
 rw[j];cases p:(KS l&&a7 (l.length<=60)) with
 | false=>simp
 | true=>
  cases J:UO x with
  | false=>simp
  | true=>
   simp only[b4,ef,if_false,if_true];cases h:TO l x.Name with
   | true=>simp
   | false=>
    simp only[ef,if_false];have U:=of_decide_eq_true (cn.1 p).2
    by_cases i:l.length=60
    ·rw[if_pos i,if_pos (by simp;omega)]
    ·rw[if_neg i,if_neg (by simp;omega)];obtain⟨k,I,o⟩:=je (l:=l) (by omega) (cn.1 p).1 (x:=x) (WK h);have T:=o.1;rw[I,dT,Vq o,Z3 (by omega),Z3 (by omega),AGl,AGm]
     repeat rw[AB]
     rw[Ba (by simp;omega),Ba (by simp;omega),Ba (by simp;omega)];unfold cH;simp[AB]
theorem mg{l:List AA}(hl:l.length<=1000000)(hg:FY l=ao)(e:AA){k:Nat}(hp:Ke l e k):∃ z,KC l e=bb z∧(a7 ((0:Int)<=z)=ao ↔ k<l.length∧uC (l.getD k a8) e):=by
 unfold KC
 rw[Lq (step:=Gt l e) (fun i=>!FK (l.getD i a8) e && !FK e (l.getD i a8)) (fun i=>(i:Int)) l.length (fun i hi=>by
  simp only[Gt,ca,hi,decide_true,if_true,Af,AB,gg,Wg,dT,ax,b8,b9,(Z4 i)];split<;>rfl) (by simp[Gt])]
 have key:∀ i,i<l.length->((!FK (l.getD i a8) e && !FK e (l.getD i a8))=ao ↔ uC (l.getD i a8) e):=fun i hi=>by
  rw[hX,e8,e8,← gv,← gv,JC,JC];constructor
  ·rintro⟨a,b⟩;rcases Xm (l.getD i a8) e with h|h|h
   ·exact absurd h a
   ·exact h
   ·exact absurd h b
  ·exact fun h=>⟨Zd h,Zd ⟨h.1.symm,h.2.1.symm,h.2.2.symm⟩⟩
 obtain⟨p0,p1,U⟩:=hp
 have o:∀ i,i<l.length->uC (l.getD i a8) e->i=k:=fun i hi g=>by
  have a:¬ i<k:=fun c=>Zd g (p1 i c)
  have b:¬ k<i:=fun c=>by
   have I:=NK hg c hi;have h2:=U k (cf _) (by omega);rcases Xm (l.getD k a8) e with h|h|h
   ·exact h2 h
   ·have h5:Xn e (l.getD i a8):=by
     obtain⟨T,R,J⟩:=h;unfold Xn at I ⊢;rw[← T,← R,← J];exact I
    exact Zd ⟨g.1.symm,g.2.1.symm,g.2.2.symm⟩ h5
   ·exact Zd ⟨g.1.symm,g.2.1.symm,g.2.2.symm⟩ (Yt h I)
  omega
 cases p:(b' l.length).find? (fun i=>!FK (l.getD i a8) e && !FK e (l.getD i a8)) with
 | none=>
  refine⟨-1,rfl,⟨fun h=>absurd h (by decide),fun h=>?_⟩⟩;rw[et] at p;exact absurd ((key k h.1).2 h.2) (p k (by simpa using h.1))
 | some j=>
  rw[db] at p;have C:j<l.length:=by simpa using p.2.1
  have g:=(key j C).1 p.1;refine⟨(j:Int),rfl,⟨fun _=>?_,fun _=>by simp⟩⟩;rw[← o j C g];exact⟨C,g⟩
theorem jf{l:List AA}(hl:l.length<=1000000)(hg:FY l=ao){e:AA}{g:Nat}(o:Ke l e g)(p:¬ (g<l.length∧uC (l.getD g a8) e)):AE (IS l e) (l.length:Int)=bb (g:Int):=by
 obtain⟨p0,p1,J⟩:=o
 obtain⟨y,hy,rfl⟩:=Dq (step:=IS l e) (fun s=>∃ k:Nat,s=(k:Int)∧g<=k∧k<=l.length) (fun r=>r=(g:Int)) (fun s=>s.toNat) (by
  rintro s ⟨k,rfl,h1,h2⟩;cases k with
  | zero=>
   obtain rfl:g=0:=by omega
   exact .inr ⟨_,rfl,rfl⟩
  | succ k=>
   have c:a7 ((0:Int)<((k+1:Nat):Int))=true:=decide_eq_true (by omega);have i:k<l.length:=by omega
   simp only[IS,c,nE (show k+1<=9223372036854775807 by omega),Af,i,decide_true,b4,cA,AB,bS,gg,Wg,ax,b8]
   by_cases j:FK e (l.getD k a8)=ao
   ·left;rw[if_pos j];refine⟨_,rfl,⟨k,rfl,?_,by omega⟩,by simp only[gg];omega⟩;have:=(JC _ _).1 j;rcases ek k g with c3|c3
    ·exact absurd (Yt this (p1 k c3)) (AAU _)
    ·exact c3
   ·right;rw[if_neg j];refine⟨_,rfl,?_⟩;have I:¬ Xn e (l.getD k a8):=fun c=>j ((JC _ _).2 c)
    have:¬ g<=k:=fun c3=>by
     have h3:=J k c3 i;rcases Xm (l.getD k a8) e with h|h|h
     ·exact h3 h
     ·have C:g=k:=by
       rcases ek g k with c4|c4
       ·have R:=NK hg c4 i
        have h5:Xn (l.getD g a8) e:=by
         obtain⟨q1,U,T⟩:=h;unfold Xn at R ⊢;rw[← q1,← U,← T];exact R
        exact absurd h5 (J g (cf _) (by omega))
       ·omega
      rw[← C] at h i;exact p ⟨i,h⟩
     ·exact I h
    rw[show g=k+1 by omega]) (s:=(l.length:Int)) ⟨l.length,rfl,p0,cf _⟩
 exact hy
theorem SK{l:List AA}(I:l.length<=1000000)(e:AA):Dh l e=bb (XW l e):=by
 unfold Dh XW;rw[UW (by omega),dT,dm,dT];cases R:(FY l&&a7 (l.length<=100)) with
 | false=>simp
 | true=>
  cases T:Mf e with
  | false=>simp
  | true=>
   simp only[b4,ef,if_false,if_true];obtain⟨i,o⟩:=cn.1 R;have o:=of_decide_eq_true o;obtain⟨k,f,e1,C,hf⟩:=Zt (l:=l) e i I;obtain⟨z,J,j⟩:=mg I i e C;rw[J,dT,Vr C]
   by_cases p:k<l.length∧uC (l.getD k a8) e
   ·rw[if_pos p,if_pos (j.2 p)]
   ·rw[if_neg p,if_neg (fun h=>p (j.1 h))]
    by_cases g:l.length=100
    ·rw[if_pos g,if_pos (by simp;omega)]
    ·rw[if_neg g,if_neg (by simp;omega)];have U:=C.1;unfold MQ;rw[jf I i C p,dT,Z3 (by omega),Z3 (by omega),AGl,AGm]
     repeat rw[AB]
     rw[Ba (by simp;omega),Ba (by simp;omega),Ba (by simp;omega)];unfold fX;simp[AB]
def dg(n:Nat):UInt8:=eu (48+n)
def d2(n:Nat):List UInt8:=[dg (n/10),dg (n%10)]
def d3(n:Nat):List UInt8:=[dg (n/100),dg (n/10%10),dg (n%10)]
theorem ABM{n:Nat}(h:n<10):aj n=[dg n]:=dw h
theorem AGj{n:Nat}(h:¬ n<10):aj n=aj (n/10)++[dg (n%10)]:=by rw[aj,dif_neg h];rfl
theorem kC(k:Nat)(j:k<=100)(s:List UInt8)(hs:s.length<=100):AE (IV (k:Int)) s=bb (hT (k-s.length) 48++s):=by
 generalize hm:k-s.length=m
 induction m generalizing s with
 | zero=>
  refine Ae ?_;have:¬ (s.length:Int)<(k:Int):=by omega
  simp[IV,this]
 | succ m i=>
  have g:(s.length:Int)<(k:Int):=by omega
  rw[Ak (s':=[48]++s) (by
   simp only[IV,g,decide_true,if_true];rw[Au (by simp;omega),AB]),i ([48]++s) (by simp;omega) (by simp;omega)]
  rw[List.replicate_succ',ct]
theorem sZ{n k:Nat}(g:k<=100)(h:n<=1000000000):Im (n:Int) (k:Int)=bb (hT (k-(aj n).length) 48++aj n):=by
 unfold Im;have i:=EQ (u:=n) (by omega);rw[Jy (n:=(n:Int)) ⟨by omega,by omega⟩,Jq];simp only[dT];rw[kC k g _ (by omega)];rfl
theorem AAI{n:Nat}(h:n<=999):Im (n:Int) 3=bb (d3 n):=by
 have:=sZ (n:=n) (k:=3) (by omega) (by omega);rw[show ((3:Nat):Int)=3 by rfl] at this;rw[this]
 by_cases c:n<10
 ·rw[ABM c];have i:n/10%10=0:=by omega
  have j:n%10=n:=by omega
  have g:n/100=0:=by omega
  simp only[d3,i,j,g];rfl
 ·by_cases c2:n<100
  ·rw[AGj c,ABM (show n/10<10 by omega)];have i:n/10%10=n/10:=by omega
   have g:n/100=0:=by omega
   simp only[d3,i,g];rfl
  ·rw[AGj c,AGj (show ¬ n/10<10 by omega),ABM (show n/10/10<10 by omega)];have g:n/10/10=n/100:=by omega
   simp only[d3,g];rfl
def Oy(m:Int):List UInt8:=(if m<0 then ([45]:List UInt8) else [])++aj (m.natAbs/1000)++[46]++d3 (m.natAbs%1000)
theorem Od(u:Nat):∀ c,c∈aj u->48<=c.toNat∧c.toNat<=57:=fun c g=>MM.1 (cI.1 (QB u) c g)
theorem RL(u:Nat):∃ c r,aj u=c::r∧48<=c.toNat∧c.toNat<=57:=by
 have g:=KL u;cases hd:aj u with
 | nil=>rw[hd] at g;exact absurd g (by simp)
 | cons c r=>exact⟨c,r,rfl,Od u c (by rw[hd];simp)⟩
theorem fc{c d:UInt8}(h:48<=d.toNat∧d.toNat<=57)(g:c.toNat<48∨57<c.toNat):d≠c:=fun e=>by subst e;omega
theorem Ox{m:Int}(i:-2000<=m)(g:m<=20000):1<=(Oy m).length∧(Oy m).length<=30:=by
 have:=EQ (u:=m.natAbs/1000) (by omega);unfold Oy d3;simp only[c8,c7,hQ];split<;>simp<;>omega
theorem QN{m:Int}(J:-2000<=m)(I:m<=20000):DT m=bb (Oy m):=by
 have C:BT m=bb ao:=by
  unfold BT;rw[Es];simp[J,I]
 have R:=EQ (u:=m.natAbs/1000) (by omega);unfold DT;rw[C];simp only[dT,b4,ef,if_false]
 have hd:∀ z:Int,z=(m.natAbs:Int)->i64.wrap (z.tdiv 1000)=((m.natAbs/1000:Nat):Int)∧z.tmod 1000=((m.natAbs%1000:Nat):Int):=by
  rintro z rfl;rw[cS (by omega),cc (by omega),Z1 (by omega)];omega
 have o:=AAI (n:=m.natAbs%1000) (by omega);have p:BJ ((m.natAbs/1000:Nat):Int)=bb (aj (m.natAbs/1000)):=by rw[Jy ⟨by omega,by omega⟩,Jq]
 have T:(d3 (m.natAbs%1000)).length=3:=rfl
 by_cases g:m<0
 ·have i:EC m=bb (m.natAbs:Int):=by
   unfold EC;rw[if_pos (by simpa using g),Z1 (by omega)]
   congr 1;omega
  obtain⟨j,d2⟩:=hd _ rfl;rw[if_pos (by simpa using g),i];simp only[dT,j,d2,p,o];rw[QS (by decide),AB,Au (by simp;omega),AB,Au (by simp;omega),AB,Au (by simp;omega),AB];unfold Oy;rw[if_pos g]
 ·have i:EC m=bb (m.natAbs:Int):=by
   unfold EC;rw[if_neg (by simpa using g)]
   congr 1;omega
  obtain⟨j,d2⟩:=hd _ rfl;rw[if_neg (by simpa using g),i];simp only[dT,j,d2,p,o];rw[QS (by decide),AB,Au (by simp;omega),AB,Au (by simp;omega),AB,Au (by simp;omega),AB];unfold Oy;rw[if_neg g]
theorem oC{n:Nat}(h:n<10):BB (n:Int)=bb [dg n]:=by
 rw[JQ (n:=(n:Int)) ⟨by omega,by omega⟩,Jq,ABM h]
theorem kW{n:Nat}(h:n<=999):ID (n:Int)=bb (d3 n):=by
 unfold ID;have j:i64.wrap ((n:Int).tdiv 100)=((n/100:Nat):Int):=by rw[cS (by omega),Z1 (by omega)];omega
 have i:(i64.wrap ((n:Int).tdiv 10)).tmod 10=((n/10%10:Nat):Int):=by rw[cS (by omega),Z1 (by omega),cc (by omega)];omega
 have g:(n:Int).tmod 10=((n%10:Nat):Int):=by rw[cc (by omega)];omega
 rw[j,i,g,oC (show n/100<10 by omega),oC (show n/10%10<10 by omega),oC (show n%10<10 by omega)];rfl
theorem Pp{m:Int}(J:-2000<=m)(I:m<=20000):CY m=bb (Oy m):=by
 have p:=EQ (u:=m.natAbs/1000) (by omega)
 have hd:∀ z:Int,z=(m.natAbs:Int)->i64.wrap (z.tdiv 1000)=((m.natAbs/1000:Nat):Int)∧z.tmod 1000=((m.natAbs%1000:Nat):Int):=by
  rintro z rfl;rw[cS (by omega),cc (by omega),Z1 (by omega)];omega
 have j:=kW (n:=m.natAbs%1000) (by omega);have o:BB ((m.natAbs/1000:Nat):Int)=bb (aj (m.natAbs/1000)):=by rw[JQ ⟨by omega,by omega⟩,Jq]
 have C:(d3 (m.natAbs%1000)).length=3:=rfl;unfold CY
 by_cases g:m<0
 ·obtain⟨i,d2⟩:=hd (i64.wrap (0-m)) (by rw[Z1 (by omega)];omega);rw[if_pos (by simpa using g)];simp only[i,d2,o,j,dT];rw[QS (by decide),AB,Au (by simp;omega),AB,Au (by simp;omega),AB,Au (by simp;omega),AB];unfold Oy;rw[if_pos g]
 ·obtain⟨i,d2⟩:=hd m (by omega);rw[if_neg (by simpa using g)];simp only[i,d2,o,j,dT];rw[QS (by decide),AB,Au (by simp;omega),AB,Au (by simp;omega),AB,Au (by simp;omega),AB];unfold Oy;rw[if_neg g]
theorem xe{c:UInt8}(h:WO c=ao):c≠32∧c≠10:=by
 have:=MM.1 h;constructor<;>(rintro rfl;simp at this)
theorem Rp(n:Int):∀ c,c∈bN n->c≠32∧c≠10:=by
 intro c g;unfold bN at g;split at g
 ·rcases fI.1 g with rfl|g
  ·decide
  ·exact xe (cI.1 (QB _) c g)
 ·exact xe (cI.1 (QB _) c g)
theorem pW{s:List UInt8}(h:Jf s=ao):∀ c,c∈s->c≠32∧c≠10:=by
 intro c g;unfold Jf at h;simp only[hX] at h;obtain⟨i,hi,rfl⟩:=fA g;have:=Ry.1 h.2.2 i hi;rw[Cm hi] at this;unfold jP at this;constructor
 ·intro e;rw[e] at this;revert this;cases (i==0)<;>decide
 ·intro e;rw[e] at this;revert this;cases (i==0)<;>decide
theorem Vt{e:AW}(h:JY e=ao):Jf e.What=ao:=by
 unfold JY at h;simp only[hX] at h;exact h.1.2
theorem kP{e:AW}(h:JY e=ao)(st:Int):Am 32 (NZ st e)=[bN e.Day,e.What,bN e.Value,bN st]:=by
 have i:NZ st e=Pr 32 [bN e.Day,e.What,bN e.Value,bN st]:=by
  rw[dt];simp[NZ,Hx]
 rw[i];refine YN 32 _ (by simp) fun p g=>?_
 simp only[fI,List.not_mem_nil,or_false] at g;rcases g with rfl|rfl|rfl|rfl
 ·exact fun c=>(Rp _ _ c).1 rfl
 ·exact fun c=>(pW (Vt h) _ c).1 rfl
 ·exact fun c=>(Rp _ _ c).1 rfl
 ·exact fun c=>(Rp _ _ c).1 rfl
theorem we{e:AW}(h:JY e=ao)(st:Int):10 ∉ NZ st e:=by
 intro g;simp only[NZ,Hx,df,ga] at g;rcases g with (((((g|g)|g)|g)|g)|g)|g
 ·exact (Rp _ _ g).2 rfl
 ·exact absurd g (by decide)
 ·exact (pW (Vt h) _ g).2 rfl
 ·exact absurd g (by decide)
 ·exact (Rp _ _ g).2 rfl
 ·exact absurd g (by decide)
 ·exact (Rp _ _ g).2 rfl
theorem tM{e:AW}(h:JY e=ao){g i:Int}(hd:i<=e.Day):Yu g i (NZ (DE g e) e)=bb (e,DE g e):=by
 have j:=Rm h;unfold Yu;rw[kP h];unfold psP Yj;dsimp only;rw[Rk (n:=e.Day) (by omega) (by omega),Rk (n:=e.Value) (by omega) (by omega)];obtain⟨d,s,v⟩:=e;simp only[h,h7,decide_true,cl,bS,hd,if_true]
def Re:Int->List AW->Prop
 | _,[]=>True
 | d,e::es=>d<=e.Day∧Re e.Day es
def Wr:Int->List AW->Int
 | last,[]=>last
 | last,e::es=>Wr (DE last e) es
theorem Yc{log:List UInt8}:∀ (es done:List AW) (i:Nat) (last:Int) (f:Nat),log.drop i=Gm last es->i<=log.length->Re (EK done) es->(∀ e,e∈es->JY e=ao)->0<=last->last<=65520->es.length<f ->
  UB log f (done,i,last)=(done++es,log.length,Wr last es)
 | [],done,i,last,f,hd,hi,_,_,_,_,C=>by
  obtain⟨f',rfl⟩:∃ f',f=f'+1:=⟨f-1,by simp at C;omega⟩;have hd:log.drop i=[]:=hd;have j:i=log.length:=by have:=congrArg dz hd;simp at this;omega
  unfold UB Ny;simp only[hd];rw[TS (by simp)];simp[j,Wr]
 | e::es,done,i,last,f,hd,hi,hs,I,h0,U,C=>by
  obtain⟨f',rfl⟩:∃ f',f=f'+1:=⟨f-1,by simp at C;omega⟩;have g:=I e (by simp);obtain⟨_,_,R,J⟩:=Ks g h0 U;have hd:log.drop i=NZ (DE last e) e++10::Gm (DE last e) es:=hd;have j:=congrArg dz hd;simp only[d',c8,c7] at j
  have o:Ny log i last (EK done)=bb (i+(NZ (DE last e) e).length+1,e,DE last e):=by
   unfold Ny;rw[hd,QC (we g _)];simp only[tM g hs.1,gn]
  have p:log.drop (i+(NZ (DE last e) e).length+1)=Gm (DE last e) es:=by
   rw[eL,← g',hd,← g',List.drop_left];rfl
  have hm:=Yc es (done++[e]) (i+(NZ (DE last e) e).length+1) (DE last e) f' p (by omega) (by rw[Zg];exact hs.2) (fun x T=>I x (by simp[T])) R J (by simp at C;omega);unfold UB;simp only[o];rw[hm];simp[Wr]
theorem dh{es:List AW}(hs:Re 0 es)(g:∀ e,e∈es->JY e=ao):(Dw (Gm 0 es)).1=es∧(Dw (Gm 0 es)).2.1=(Gm 0 es).length∧(Dw (Gm 0 es)).2.2=Wr 0 es:=by
 have hm:=Yc (log:=Gm 0 es) es [] 0 0 ((Gm 0 es).length+1) rfl (e6 _) hs g (by omega) (by omega) (by have:=dd es 0 g (by omega) (by omega);omega);unfold Dw;rw[hm];exact⟨rfl,rfl,rfl⟩
theorem wi{es:List AW}{d:Int}(i:0<=d)(g:es.length<=1048576):
  ((a7 (0<(es.length:Int)))&&(a7 (d<((es.getD (i64.wrap ((es.length:Int)-1)).toNat a8).Day))))=a7 (d<EK es):=by
 unfold EK
 by_cases h:es.length=0
 ·have e:a7 ((0:Int)<(es.length:Int))=false:=decide_eq_false (by omega);rw[e,if_pos h,cb];exact (decide_eq_false (by omega)).symm
 ·have e:a7 ((0:Int)<(es.length:Int))=true:=decide_eq_true (by omega);have w:i64.wrap ((es.length:Int)-1)=((es.length-1:Nat):Int):=by rw[Z1 (by omega)];omega
  rw[e,if_neg h,bS,w,gg]
theorem Yq:∀ (es:List AW) (last:Int) (e:AW),Gm last (es++[e])=Gm last es++(((Hx e++[32])++bN (DE (Wr last es) e))++[10])
 | [],last,e=>by simp[Gm,NZ,Wr]
 | x::es,last,e=>by
  have g:=Yq es (DE last x) e;simp only[gr,Gm,g,Wr];simp
theorem AAZ{es:List AW}{d:Int}(i:0<=d)(g:es.length<=1048576):
  ((a7 (0<(es.length:Int)))&&(a7 (d<((es.getD (i64.wrap ((es.length:Int)-1)).toNat a8).Day))))=a7 (d<EK es):=by
 unfold EK
 by_cases h:es.length=0
 ·have e:a7 ((0:Int)<(es.length:Int))=false:=decide_eq_false (by omega);rw[e,if_pos h,cb];exact (decide_eq_false (by omega)).symm
 ·have e:a7 ((0:Int)<(es.length:Int))=true:=decide_eq_true (by omega);have w:i64.wrap ((es.length:Int)-1)=((es.length-1:Nat):Int):=by rw[Z1 (by omega)];omega
  rw[e,if_neg h,bS,w,gg]
theorem cZ{log:List UInt8}{e:AW}(C:log.length<=1048576):∃ (out:List UInt8) (c:Int),FE log e=bb (out,c)∧FI log e=bb (out,c):=by
 unfold FE FI;obtain⟨r,e1,R⟩:=TG C;obtain⟨es,last,U,T,h2⟩:=Qh C;rw[e1,U];simp only[dT]
 by_cases h:Jh log=0
 ·obtain⟨rfl,rfl⟩:=T h;obtain rfl:=R h;obtain⟨b1,b2,b3⟩:=Xt h;have hi:=Qv log;have j:(Jh log==0)=ao:=by rw[h];rfl
  simp only[j,b4,ef,if_false,kV,Of,dT];cases g:JY e
  ·exact⟨_,_,rfl,rfl⟩
  ·have i:=Rm g
   have k:(!(a7 (0<((Dw log).1.length:Int)))||AU (i64.wrap (((Dw log).1.length:Int)-1)) (Dw log).1.length)=ao:=by
    by_cases c:(Dw log).1.length=0
    ·simp[c]
    ·rw[Z1 (by omega),Z2 (by omega),b9]
   rw[xg (log:=log) (s:=Dw log) (by omega)];simp only[b4,ef,if_false,k,AB,dT,AAZ (es:=(Dw log).1) (d:=e.Day) i.1 (by omega)];cases hd:a7 (e.Day<EK (Dw log).1)
   ·obtain⟨J,I,p,o⟩:=Ks g hi.lo hi.hi;have lw:=Lo g;have ls:=FO (n:=DE (Dw log).2.2 e) ⟨by omega,by omega⟩;simp only[ef,if_false,OF g,dT,show (VY log (Dw log)).stamp_=(Dw log).2.2 from rfl,J,I,Yv g p o,di g p o];rw[Au (by simp;omega),AB];split
    ·exact⟨_,_,rfl,rfl⟩
    ·exact⟨_,_,rfl,rfl⟩
   ·exact⟨_,_,rfl,rfl⟩
 ·have j:(Jh log==0)=false:=beq_eq_false_iff_ne.2 h;simp only[j,bR,if_true];exact⟨_,_,rfl,rfl⟩
