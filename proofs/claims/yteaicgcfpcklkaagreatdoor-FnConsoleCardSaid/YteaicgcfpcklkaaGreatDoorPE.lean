/- Lemmas and walks, several texts in one. No condition. -/
import Derived.Test.YteaicgcfpcklkaaGreatDoorP3
import Derived.WideKeyArgs
import Derived.ChangeArms
set_option linter.unusedSimpArgs false
set_option linter.unusedVariables false
open Go.IntKind (i64 u64)
noncomputable section
namespace Go.Proofs.YteaicgcfpcklkaaGreatDoor
open Go Go.RowKit Go.ChangeShapes Go.WideShapes Go.ChangeAt
inductive Sh where
 | bool|int (k:IntKind)|str
 | sl (sz:Nat) (agg:Bool) (e:Sh)
 | st (b:Sh)
 | nil|cons (a b:Sh)
def WE:Sh->List AV->Prop
 | .bool,cs=>∃ b,cs=[.bool b]
 | .int k,cs=>∃ n,cs=[.int k n]∧(Lit.int k n).wf=true
 | .str,cs=>∃ l:List UInt8,cs=[.str l]∧l.length<=maxLen
 | .sl sz agg e,cs=>∃ els:List AV,cs=[.sl sz els]∧els.length<=maxLen∧∀ el∈els,el.isAgg=agg∧WE e el.cells
 | .st b,cs=>WE b cs
 | .nil,cs=>cs=[]
 | .cons a b,cs=>∃ l r,cs=l++r∧WE a l∧WE b r
def yl(P:Program)(t:TypeId):Bool :=
 match P.underlying t with
 | some .string=>true
 | _=>false
def mt(P:Program)(t:TypeId):Bool :=
 match P.underlying t with
 | some .bool=>true
 | _=>false
def ym(P:Program)(t:TypeId)(k:IntKind):Bool :=
 match P.underlying t with
 | some (.int k')=>k'==k
 | _=>false
def AHA(P:Program)(t:TypeId):Option TypeId :=
 match P.underlying t with
 | some (.slice e)=>some e
 | _=>none
def yk(P:Program)(t:TypeId):Option (List Field) :=
 match P.underlying t with
 | some (.struct fs)=>some fs.toList
 | _=>none
def PH(P:Program):Sh->TypeId⊕(List Field×Nat×Nat)->Bool
 | .bool,.inl t=>mt P t
 | .int k,.inl t=>ym P t k
 | .str,.inl t=>yl P t
 | .sl sz agg e,.inl t=>match AHA P t with
  | some el=>P.cellsOf el==sz&&(decide (1<=sz)&&((agg||sz==1)&&PH P e (.inl el)))
  | none=>false
 | .st b,.inl t=>match yk P t with
  | some fs=>PH P b (.inr (fs,0,P.cellsOf t))
  | none=>false
 | .nil,.inr ([],off,tot)=>off==tot
 | .cons a b,.inr (f::r,off,tot)=>f.offset==off&&(PH P a (.inl f.type)&&PH P b (.inr (r,off+P.cellsOf f.type,tot)))
 | _,_=>false
def gl(w:World):List Value->List AV->Prop
 | [],[]=>True
 | v::vs,a::as=>VR (fun _=>False) w v a∧a.atom=true∧gl w vs as
 | _,_=>False
theorem gl.append{w:World}:∀ {l1 l2:List Value} {a1 a2:List AV},gl w l1 a1->gl w l2 a2->gl w (l1++l2) (a1++a2)
 | [],_,[],_,_,h2=>h2
 | v::vs,_,a::as,_,h1,h2=>⟨h1.1,h1.2.1,gl.append h1.2.2 h2⟩
 | [],_,_::_,_,h1,_=>h1.elim
 | _::_,_,[],_,h1,_=>h1.elim
theorem gl.len{w:World}:∀ {l:List Value} {a:List AV},gl w l a->l.length=a.length
 | [],[],_=>rfl
 | v::vs,a::as,h=>by simp[gl.len h.2.2]
 | [],_::_,h=>h.elim
 | _::_,[],h=>h.elim
theorem gl.get{w:World}:∀ {l:List Value} {a:List AV},gl w l a->∀ j,j<a.length->VR (fun _=>False) w (l.getD j undef) (a.getD j .any)∧(a.getD j .any).atom=true
 | [],[],_,j,hj=>by simp at hj
 | v::vs,a::as,h,0,_=>⟨h.1,h.2.1⟩
 | v::vs,a::as,h,j+1,hj=>by simpa using gl.get h.2.2 j (by simpa using hj)
 | [],_::_,h,_,_=>h.elim
 | _::_,[],h,_,_=>h.elim
theorem af{a:AV}(h:a.atom=true):a.cells=[a]∧a.isAgg=false:=by
 cases a<;>simp[AV.atom] at h<;>exact⟨rfl,rfl⟩
theorem gl.atoms{w:World}:∀ {l:List Value} {a:List AV},gl w l a->a.all AV.atom=true
 | [],[],_=>rfl
 | v::vs,a::as,h=>by simp[h.2.1,gl.atoms h.2.2]
 | [],_::_,h=>h.elim
 | _::_,[],h=>h.elim
section
variable {H:Type}{enc:TypeId×Value->H}{P:Program}{w:World}{spare:Nat->Bool}{held:Bool}
theorem Yx{f:Nat->Option Value}{n:Nat}{l:List Value}(h:(List.range n).mapM f=some l){i:Nat}(hi:i<n):f i=l[i]? ∧ l.length=n:=by
 have hl:=mapM_some_length h;simp only[List.length_range] at hl;exact⟨mapM_some_get h i i (by simp[hi]),hl⟩
theorem MR:∀ (sh:Sh) (q:TypeId⊕(List Field×Nat×Nat)) (cs:List Value),PH P sh q=true ->
  (match q with
   | .inl t=>∃ n x,DataW.trod enc P w 0 spare held n t cs=some x
   | .inr (fs,off,tot)=>off<=tot∧cs.length=tot∧∀ f,f∈fs->∃ n x,DataW.trod enc P w 0 spare held n f.type ((cs.drop f.offset).take (P.cellsOf f.type))=some x) ->
  ∃ as,WE sh as∧gl w (match q with | .inl _=>cs | .inr (_,off,_)=>cs.drop off) as
 | .bool,.inl t,cs,hs,⟨n,x,h⟩=>by
  simp only[PH,mt] at hs;split at hs
  ·rename_i ht;obtain⟨b,rfl,_⟩:=DataW.trod_bool ht h;exact⟨[.bool b],⟨b,rfl⟩,.bool,rfl,trivial⟩
  ·cases hs
 | .int k,.inl t,cs,hs,⟨n,x,h⟩=>by
  simp only[PH,ym] at hs;split at hs
  ·rename_i k' ht;have e:k'=k:=by simpa using hs
   subst e;obtain⟨m,rfl,_,hw⟩:=DataW.trod_int ht h;exact⟨[.int k' m],⟨m,rfl,hw⟩,.int,rfl,trivial⟩
  ·cases hs
 | .str,.inl t,cs,hs,⟨n,x,h⟩=>by
  simp only[PH,yl] at hs;split at hs
  ·rename_i ht;obtain⟨s,rfl,_,hw⟩:=DataW.trod_string ht h;have e:s=⟨s.data.toList.toArray⟩:=by cases s;simp
   refine⟨[.str s.data.toList],⟨_,rfl,hw⟩,?_,rfl,trivial⟩;have:VR (fun _=>False) w (.string ⟨s.data.toList.toArray⟩) (.str s.data.toList):=.str
   rwa [← e] at this
  ·cases hs
 | .st b,.inl t,cs,hs,⟨n,x,h⟩=>by
  simp only[PH] at hs;split at hs
  ·rename_i fs ht;simp only[yk] at ht;split at ht<;>try (cases ht;done)
   rename_i fs' hu;obtain rfl:=Option.some.inj ht;obtain⟨xs,m,rfl,_,hl,hn,hf⟩:=DataW.trod_struct hu h;have:=MR b (.inr (fs'.toList,0,P.cellsOf t)) cs hs ⟨Nat.zero_le _,hl,fun f hfm=>?_⟩
   ·simpa[WE] using this
   ·obtain⟨i,hi,he⟩:=List.getElem_of_mem hfm
    have h1:fs'[i]? = some f:=by
     rw[← Array.getElem?_toList,geE hi,he]
    have h2:=hf i f h1;have h3:i<xs.length:=by rw[hn];simpa using hi
    rw[geE h3] at h2;exact⟨m,_,h2⟩
  ·cases hs
 | .nil,.inr ([],off,tot),cs,hs,⟨h0,h1,h2⟩=>by
  simp only[PH,beq_iff_eq] at hs;refine⟨[],rfl,?_⟩;show gl w (cs.drop off) [];rw[List.drop_eq_nil_of_le (by omega)];trivial
 | .cons a b,.inr (f::r,off,tot),cs,hs,⟨h0,h1,h2⟩=>by
  simp only[PH,baT,beq_iff_eq] at hs;obtain⟨ho,ha,hb⟩:=hs;obtain⟨as1,f1,v1⟩:=MR a (.inl f.type) _ ha (h2 f (by simp))
  by_cases hc:off+P.cellsOf f.type<=tot
  ·obtain⟨as2,f2,v2⟩:=MR b (.inr (r,off+P.cellsOf f.type,tot)) cs hb ⟨hc,h1,fun g hg=>h2 g (by simp[hg])⟩;refine⟨as1++as2,⟨_,_,rfl,f1,f2⟩,?_⟩
   have e:cs.drop off=(cs.drop f.offset).take (P.cellsOf f.type)++cs.drop (off+P.cellsOf f.type):=by
    rw[ho,← List.drop_drop,List.take_append_drop]
   show gl w (cs.drop off) _;rw[e];exact v1.append v2
  ·exfalso
   have key:∀ (sh:Sh) (fs:List Field) (o:Nat),PH P sh (.inr (fs,o,tot))=true->o<=tot:=by
    intro sh fs
    induction fs generalizing sh with
    | nil=>intro o h;cases sh<;>simp[PH] at h;omega
    | cons f fs ih=>
     intro o h;cases sh<;>simp[PH] at h
     have:=ih _ _ h.2.2;omega
   exact hc (key _ _ _ hb)
 | .sl sz agg e,.inl t,cs,hs,⟨n,x,h⟩=>by
  simp only[PH] at hs;split at hs
  ·rename_i el hel;simp only[AHA] at hel;split at hel<;>try (cases hel;done)
   rename_i el' hu;obtain rfl:=Option.some.inj hel;simp only[baT,beq_iff_eq,dtE,Bool.or_eq_true] at hs;obtain⟨hsz,hpos,hag,hse⟩:=hs;rcases DataW.trod_slice hu h with⟨rfl,_⟩|⟨a,len,cap,elems,rest,m,rfl,rfl,_,_,hlc,hcm,hel,hget,_,_⟩
   ·refine⟨[.sl sz []],⟨[],rfl,by simp,by simp⟩,?_,rfl,trivial⟩;exact .sl 0 0 (fun _ _=>undef) rfl (Nat.le_refl _) hpos (fun c=>by simp at c) (fun i hi=>by simp at hi) (fun i j hi=>by simp at hi) (fun i j hi=>by simp at hi)
   ·have hone:∀ i,i<len->∃ cs' y,w.cells? 0 (a.add (i*sz)) sz=some cs'∧DataW.trod enc P w 0 spare held m el' cs'=some y:=by
     intro i hi;have:=hget i hi;rw[geE (by omega),Option.bind_eq_some_iff,hsz] at this;obtain⟨cs',c1,c2⟩:=this;exact⟨cs',_,c1,c2⟩
    have hfit:∀ i,∃ cs' as,i<len->w.cells? 0 (a.add (i*sz)) sz=some cs'∧WE e as∧gl w cs' as:=by
     intro i
     by_cases hi:i<len
     ·obtain⟨cs',y,c1,c2⟩:=hone i hi;obtain⟨as,f1,v1⟩:=MR e (.inl el') cs' hse ⟨m,y,c2⟩;exact⟨cs',as,fun _=>⟨c1,f1,v1⟩⟩
     ·exact⟨[],[],fun c=>absurd c hi⟩
    obtain⟨rd,hrd⟩:=Classical.axiomOfChoice hfit;obtain⟨av,hav⟩:=Classical.axiomOfChoice hrd
    have hclen:∀ i,i<len->(rd i).length=sz∧∀ j,j<sz->w.cell? ((a.add (i*sz)).add j)=some ((rd i).getD j undef):=by
     intro i hi;have h1:=(hav i hi).1;unfold World.cells? at h1;split at h1
     ·rename_i hb;refine⟨?_,fun j hj=>?_⟩
      ·have:=mapM_some_length h1;simpa using this
      ·obtain⟨h2,h3⟩:=Yx h1 hj;rw[h2,gdE,geE (by omega)];rfl
     ·cases h1
    have hspot:0<len->a=⟨a.block,a.off,none⟩:=by
     intro h0;have h1:=(hclen 0 h0).2 0 (by omega);simp only[Nat.zero_mul,Addr.add,if_true] at h1;unfold World.cell? at h1;split at h1
     ·split at h1
      ·cases h1
      ·rename_i hsp;obtain⟨b,o,s⟩:=a;cases s
       ·rfl
       ·simp at hsp
     ·cases h1
    let elv:Nat->AV:=fun i=>if agg=true then .agg (av i) else (av i).getD 0 .any
    have helc:∀ i,i<len->(elv i).cells=av i∧(elv i).isAgg=agg∧(av i).length=sz:=by
     intro i hi;obtain⟨_,f1,v1⟩:=hav i hi;have hl:(av i).length=sz:=by rw[← v1.len];exact (hclen i hi).1
     by_cases hg:agg=true
     ·simp only[elv];rw[if_pos hg];exact⟨rfl,hg.symm,hl⟩
     ·have h1:sz=1:=by
       rcases hag with c|c
       ·exact absurd c hg
       ·exact c
      simp only[elv];rw[if_neg hg]
      match hA:av i,hl with
      | [y],_=>
       have hat:=v1.atoms;rw[hA] at hat;have:=af (a:=y) (by simpa using hat);exact⟨this.1,by simpa using this.2.trans (by cases agg<;>simp_all),by simp[h1]⟩
      | [],hl=>simp at hl;omega
      | _::_::_,hl=>simp at hl;omega
    refine⟨[.sl sz ((List.range len).map elv)],⟨_,rfl,by simp;omega,fun el hel=>?_⟩,?_,rfl,trivial⟩
    ·obtain⟨i,hi,rfl⟩:=List.mem_map.1 hel;have hi':i<len:=by simpa using hi
     obtain⟨c1,c2,_⟩:=helc i hi';exact⟨c2,by rw[c1];exact (hav i hi').2.1⟩
    ·have hgD:∀ i,i<len->((List.range len).map elv).getD i .any=elv i:=by
      intro i hi;simp[gdE,List.getElem?_map,hi]
     refine .sl a.block a.off (fun i j=>(rd i).getD j undef) (by simp) hlc hpos (fun c=>⟨by rw[← hspot (by simpa using c)],fun c=>c⟩) (fun i hi=>?_) (fun i j hi hj=>?_) (fun i j hi hj=>?_)
     ·have hi':i<len:=by simpa using hi
      rw[hgD i hi'];obtain⟨c1,_,c3⟩:=helc i hi';refine⟨by rw[c1,c3],?_⟩;unfold AV.atoms;rw[c1];exact (hav i hi').2.2.atoms
     ·have hi':i<len:=by simpa using hi
      have h1:=(hclen i hi').2 j hj;have hs:=hspot (by omega)
      have:((a.add (i*sz)).add j)=⟨a.block,a.off+(i*sz+j),none⟩:=by
       rw[hs];unfold Addr.add
       by_cases e1:i*sz=0<;>by_cases e2:j=0<;>simp[e1,e2]
       omega
      rw[← this];exact h1
     ·have hi':i<len:=by simpa using hi
      rw[hgD i hi'];obtain⟨c1,_,c3⟩:=helc i hi';rw[c1];exact ((hav i hi').2.2.get j (by omega)).1
  ·cases hs
 | .bool,.inr _,_,hs,_=>by simp[PH] at hs
 | .int _,.inr _,_,hs,_=>by simp[PH] at hs
 | .str,.inr _,_,hs,_=>by simp[PH] at hs
 | .sl _ _ _,.inr _,_,hs,_=>by simp[PH] at hs
 | .st _,.inr _,_,hs,_=>by simp[PH] at hs
 | .nil,.inl _,_,hs,_=>by simp[PH] at hs
 | .cons _ _,.inl _,_,hs,_=>by simp[PH] at hs
 | .nil,.inr (_::_,_,_),_,hs,_=>by simp[PH] at hs
 | .cons _ _,.inr ([],_,_),_,hs,_=>by simp[PH] at hs
def ZG:Sh->Bool
 | .st _=>true
 | _=>false
theorem AAY{r:Reach}{b0:Nat}{t:TypeId}{v:Value}{d:DataW H}{ps:List MemPlace}{sh:Sh}(hs:PH P sh (.inl t)=true)(hval:Value.okWide P w r b0 t v)(h:DataW.Trod enc P w 0 spare held t v d ps):
  ∃ a:AV,WE sh a.cells∧a.isAgg=ZG sh∧VR (fun _=>False) w v a:=by
 obtain⟨n,hn⟩:=h;obtain⟨as,f1,v1⟩:=MR sh (.inl t) _ hs ⟨n,_,hn⟩
 have one:ZG sh=false->v.cells = #[v]->∃ a:AV,WE sh a.cells∧a.isAgg=ZG sh∧VR (fun _=>False) w v a:=by
  intro ht hv;rw[hv] at v1
  match as,v1 with
  | [a],v1=>
   obtain⟨c1,c2⟩:=af v1.2.1;exact⟨a,by rw[c1];exact f1,by rw[c2,ht],v1.1⟩
 cases sh
 case bool=>
  refine one rfl ?_;simp only[PH,mt] at hs;split at hs<;>try (cases hs;done)
  rename_i hu;obtain⟨b,rfl⟩:=okWide_bool hu hval;rfl
 case int k=>
  refine one rfl ?_;simp only[PH,ym] at hs;split at hs<;>try (cases hs;done)
  rename_i hu;obtain⟨b,rfl⟩:=okWide_int hu hval;rfl
 case str=>
  refine one rfl ?_;simp only[PH,yl] at hs;split at hs<;>try (cases hs;done)
  rename_i hu;obtain⟨b,rfl⟩:=okWide_string hu hval;rfl
 case sl sz agg e=>
  refine one rfl ?_;simp only[PH] at hs;split at hs<;>try (cases hs;done)
  rename_i el hel;simp only[AHA] at hel;split at hel<;>try (cases hel;done)
  rename_i hu;obtain⟨b,l,c,rfl⟩:=okWide_slice hu hval;rfl
 case st b=>
  simp only[PH] at hs;split at hs<;>try (cases hs;done)
  rename_i fs hfs;simp only[yk] at hfs;split at hfs<;>try (cases hfs;done)
  rename_i hu;obtain⟨cs,rfl,_⟩:=okWide_struct hu hval;refine⟨.agg as,f1,rfl,.agg ?_ (fun j hj=>(v1.get j hj).2) fun j hj=>?_⟩
  ·have:=v1.len;simpa[Value.cells] using this
  ·have:=(v1.get j hj).1
   rwa [show (Value.agg cs).cells.toList.getD j undef=cs.getD j undef by simp[Value.cells,gdE,agD]] at this
 case nil=>simp[PH] at hs
 case cons=>simp[PH] at hs
end
def Pk(n:Int):Prop:=-9223372036854775808<=n∧n<=9223372036854775807
theorem AGD{n:Int}(h:(Lit.int .i64 n).wf=true):Pk n:=by
 simp[Lit.wf,IntKind.min,IntKind.max,IntKind.signed,IntKind.bits] at h;unfold Pk;omega
theorem ALU{n:Int}(h:(Lit.int .u8 n).wf=true):0<=n∧n<256:=by
 simp[Lit.wf,IntKind.min,IntKind.max,IntKind.signed,IntKind.bits] at h;omega
theorem AJV{a b:AV}(h1:a.cells=b.cells)(h2:a.isAgg=b.isAgg):a=b:=by
 cases a<;>cases b<;>simp_all [AV.cells,AV.isAgg]
structure Ty(α:Type)where
 sh:Sh
 f:α->AV
 wf:α->Prop
 top:∀ x,(f x).isAgg=ZG sh
 fits:∀ cs,WE sh cs->∃ x,cs=(f x).cells∧wf x
theorem Ty.of{α:Type}(T:Ty α){a:AV}(h:WE T.sh a.cells)(ht:a.isAgg=ZG T.sh):∃ x,a=T.f x∧T.wf x:=by
 obtain⟨x,e,hw⟩:=T.fits _ h;exact⟨x,AJV e (by rw[ht,T.top]),hw⟩
def tyInt:Ty Int:=⟨.int .i64,fun n=>.int .i64 n,Pk,fun _=>rfl,fun cs ⟨n,e,h⟩=>⟨n,e,AGD h⟩⟩
def tyBool:Ty Bool:=⟨.bool,.bool,fun _=>True,fun _=>rfl,fun cs ⟨n,e⟩=>⟨n,e,trivial⟩⟩
def tyStr:Ty (List UInt8):=⟨.str,.str,fun l=>l.length<=maxLen,fun _=>rfl,fun cs ⟨n,e,h⟩=>⟨n,e,h⟩⟩
def lH:Ty UInt8:=⟨.int .u8,Dv,fun _=>True,fun _=>rfl,fun cs ⟨n,e,h⟩=>⟨UInt8.ofNat n.toNat,by
 obtain⟨h1,h2⟩:=ALU h;have:(((UInt8.ofNat n.toNat).toNat:Nat):Int)=n:=by rw[UInt8.toNat_ofNat'];omega
 subst e;show [AV.int .u8 n]=[AV.int .u8 _];rw[this],trivial⟩⟩
theorem kG{α:Type}(T:Ty α):∀ els:List AV,(∀ el∈els,el.isAgg=ZG T.sh∧WE T.sh el.cells)->∃ xs:List α,els=xs.map T.f∧∀ x∈xs,T.wf x
 | [],_=>⟨[],rfl,by simp⟩
 | a::r,h=>by
  obtain⟨x,e,hw⟩:=T.of (h a (by simp)).2 (h a (by simp)).1;obtain⟨xs,e2,hw2⟩:=kG T r fun el hel=>h el (by simp[hel])
  exact⟨x::xs,by simp[e,e2],by simpa using⟨hw,hw2⟩⟩
def AGH{α:Type}(sz:Nat)(T:Ty α):Ty (List α):=⟨.sl sz (ZG T.sh) T.sh,fun xs=>.sl sz (xs.map T.f),fun xs=>xs.length<=maxLen∧∀ x∈xs,T.wf x,fun _=>rfl,fun cs ⟨els,e,hl,h⟩=>by
 obtain⟨xs,e2,hw⟩:=kG T els h;exact⟨xs,by rw[e,e2];rfl,by rw[e2] at hl;simpa using hl,hw⟩⟩
theorem AJW{α:Type}(T:Ty α){H:Type}{enc:TypeId×Value->H}{P:Program}{w:World}{spare:Nat->Bool}{held:Bool}{r:Reach}{b0:Nat}{t:TypeId}{v:Value}{d:DataW H}{ps:List MemPlace}
  (hs:PH P T.sh (.inl t)=true) (hval:Value.okWide P w r b0 t v) (h:DataW.Trod enc P w 0 spare held t v d ps):∃ x,VR (fun _=>False) w v (T.f x)∧T.wf x:=by
 obtain⟨a,f1,f2,f3⟩:=AAY hs hval h;obtain⟨x,e,hw⟩:=T.of f1 f2;exact⟨x,e▸f3,hw⟩
theorem AR.sameAt{w w':World}(h:AR (fun _=>False) w w'){p:MemPlace}(hp:p.block<w.heap.size):w.sameAt w' p:=by
 have hb:=h.block p.block hp fun c=>c
 cases p with
 | cell b off=>simp only[MemPlace.block] at hb;simp only[World.sameAt,World.cell?,hb]
 | map b=>simp only[MemPlace.block] at hb;simp only[World.sameAt,hb]
end Go.Proofs.YteaicgcfpcklkaaGreatDoor
namespace Go.Proofs.YteaicgcfpcklkaaGreatDoor
open Go Go.RowKit
theorem ZF{α:Type}{c:Bool}[inst:Decidable (c=true)](a b:α):@ite α (c=true) inst a b=cond c a b:=by cases c<;>simp
theorem Av(i n:Nat):BC (i:Int) n=decide (i<n):=by
 simp only[BC];by_cases h:i<n<;>simp[h]<;>omega
theorem CX{i:Int}{n:Nat}(h1:0<=i)(h2:i<n):BC i n=true:=by simp[BC,h1,h2]
theorem KR{a b:Int}{n:Nat}(h1:0<=a)(h2:a<=b)(h3:b<=n):JG a b n=true:=by simp[JG,h1,h2,h3]
theorem MY{n:Int}(h:n≠0):nz n=true:=by simp[nz,h]
theorem od{n:Int}(h:0<=n):UT n=true:=by simp[UT,h]
theorem BR{m n:Nat}(h:m+n<=9223372036854775807):DW m n=true:=by simp[DW,h]
theorem DM{n b:Nat}(h:n*b<=140737488355328):EY n b=true:=by simp[EY,h]
theorem At{i:Nat}(h:i<9223372036854775807):i64.wrap ((i:Int)+1)=((i+1:Nat):Int):=by
 rw[wrap_i64 (by omega) (by omega)];simp
theorem oN(n:Int):Pk (i64.wrap n):=by
 unfold Pk IntKind.wrap IntKind.bits;simp[IntKind.signed];omega
theorem Kq{α:Type}{xs:List α}{i:Nat}(h:i<xs.length)(d:α):xs.getD i d=xs[i]:=by
 simp[gdE,geE h]
theorem IH{ρ:Type}{step:Int->Option (Int⊕ρ)}(p:Nat->Bool)(n:Nat)(q:Bool){yes no:ρ}(hq:q=true ↔ ∀ i,i<n->p i=true)(hs:∀ i:Nat,i<n->step (i:Int)=some (if p i=true then .inl ((i+1:Nat):Int) else .inr no))
  (he:step (n:Int)=some (.inr yes)):AS step 0=some (if q=true then yes else no):=by
 have good:∀ m i:Nat,i+m=n->(∀ j,i<=j->j<n->p j=true)->AS step (i:Int)=some yes:=by
  intro m
  induction m with
  | zero=>
   intro i hi _;obtain rfl:i=n:=by omega
   exact Cm he
  | succ m ih=>
   intro i hi h;rw[Dh (by rw[hs i (by omega),if_pos (h i (Nat.le_refl _) (by omega))])];exact ih (i+1) (by omega) fun j h1 h2=>h j (by omega) h2
 have bad:∀ m i:Nat,i+m=n->(∃ j,i<=j∧j<n∧p j=false)->AS step (i:Int)=some no:=by
  intro m
  induction m with
  | zero=>rintro i hi ⟨j,h1,h2,_⟩;omega
  | succ m ih=>
   rintro i hi ⟨j,h1,h2,h3⟩
   by_cases hp:p i=true
   ·rw[Dh (by rw[hs i (by omega),if_pos hp])];refine ih (i+1) (by omega) ⟨j,?_,h2,h3⟩;rcases Nat.lt_or_ge i j with c|c
    ·omega
    ·obtain rfl:i=j:=by omega
     rw[h3] at hp;cases hp
   ·exact Cm (by rw[hs i (by omega),if_neg hp])
 cases q with
 | true=>exact good n 0 (by omega) fun j _ h=>hq.1 rfl j h
 | false=>
  refine bad n 0 (by omega) ?_;refine Classical.byContradiction fun hc=>?_
  have:false=true:=hq.2 fun i hi=>by
   cases hp:p i with
   | true=>rfl
   | false=>exact absurd ⟨i,Nat.zero_le _,hi,hp⟩ hc
  cases this
theorem YT{σ ρ:Type}{step:σ×Int->Option ((σ×Int)⊕ρ)}(f:Nat->σ)(n:Nat){r:ρ}(hs:∀ i:Nat,i<n->step (f i,(i:Int))=some (.inl (f (i+1),((i+1:Nat):Int))))
  (he:step (f n,(n:Int))=some (.inr r)):AS step (f 0,0)=some r:=by
 have:=YU (step:=step) (fun i=>(f i,(i:Int))) n (fun i hi=>hs i hi) he;exact this
theorem CT{σ ρ:Type}{step:σ->Option (σ⊕ρ)}(inv:σ->Prop)(Q:ρ->Prop)(μ:σ->Nat)
  (h:∀ s,inv s->(∃ s',step s=some (.inl s')∧inv s'∧μ s'<μ s)∨∃ r,step s=some (.inr r)∧Q r) {s:σ} (hs:inv s):∃ y,AS step s=some y∧Q y:=by
 generalize hm:μ s=m
 induction m using Nat.strongRecOn generalizing s with
 | _ m ih=>
  rcases h s hs with⟨s',e,hi,hl⟩|⟨r,e,hq⟩
  ·rw[Dh e];exact ih _ (by omega) hi rfl
  ·exact⟨r,Cm e,hq⟩
def ANf{α:Type}(f:α->Int->α)(c:Nat):List α->Int->List α
 | [],_=>[]
 | x::r,k=>f x k::ANf f c r (k+c)
theorem EH{α:Type}{xs:List α}{i:Nat}(h:i<xs.length)(d:α):xs.getD i d∈xs:=by
 rw[Kq h];exact List.getElem_mem h
theorem La{n:Nat}{p:Nat->Bool}(h:(List.range n).all p=true){i:Nat}(hi:i<n):p i=true:=by
 simp only[List.all_eq_true,List.mem_range] at h;exact h i hi
section
variable {H:Type}{enc:TypeId×Value->H}{P:Program}
theorem AMK(hl:laidOutB P=true){t:TypeId}(hr:P.readableRec t=true)(hrow:t<P.types.size){W W':World}(hs:AR (fun _=>False) W W'){sp:Nat->Bool}{v:Value}{d:DataW H}{ps before:List MemPlace}
  (h:DataW.Trod enc P W 0 (fun _=>true) true t v d ps) (hsub:∀ p∈ps,p∈before) (hlt:∀ p∈before,p.block<W.heap.size) (hsp:∀ p∈before,sp p.block=true):DataW.Trod enc P W' 0 sp true t v d ps :=
 WideElems.Trod_stays hl hr hrow h (fun p hp=>hs.sameAt (hlt p (hsub p hp))) (fun p hp=>hsp p (hsub p hp))
end
theorem Lz(n a b:Int):GD n a b=some (decide (a<=n)&&decide (n<=b)):=id rfl
theorem GF(n a b:Int):DG n a b=some (decide (a<=n)&&decide (n<=b)):=id rfl
def iA(first:Bool)(c:UInt8):Bool:=(decide (97<=c.toNat)&&decide (c.toNat<=122))||(!first&&((decide (48<=c.toNat)&&decide (c.toNat<=57))||c.toNat==45))
def JV(s:List UInt8):Bool:=decide (1<=s.length)&&(decide (s.length<=12)&&((List.range s.length).all fun i=>iA (i==0) (s.getD i 0)))
theorem PU{n:Nat}{p:Nat->Bool}:((List.range n).all p=true) ↔ ∀ i,i<n->p i=true:=by simp
theorem wu(c:UInt8)(i:Nat):(!((decide ((97:Int)<=(c.toNat:Int)))&&(decide ((c.toNat:Int)<=122)))&&(((i:Int)==0)||(!(((decide ((48:Int)<=(c.toNat:Int)))&&(decide ((c.toNat:Int)<=57)))||((c.toNat:Int)==45))))) = !iA (i==0) c:=by
 have b1:decide ((97:Int)<=(c.toNat:Int))=decide (97<=c.toNat):=by rw[decide_eq_decide];omega
 have b2:decide ((c.toNat:Int)<=122)=decide (c.toNat<=122):=by rw[decide_eq_decide];omega
 have b3:decide ((48:Int)<=(c.toNat:Int))=decide (48<=c.toNat):=by rw[decide_eq_decide];omega
 have b4:decide ((c.toNat:Int)<=57)=decide (c.toNat<=57):=by rw[decide_eq_decide];omega
 have b5:((c.toNat:Int)==45)=(c.toNat==45):=by rw[Bool.eq_iff_iff];simp;omega
 have b6:((i:Int)==0)=(i==0):=by rw[Bool.eq_iff_iff];simp
 rw[b1,b2,b3,b4,b5,b6];unfold iA;cases decide (97<=c.toNat)<;>cases decide (c.toNat<=122)<;>cases decide (48<=c.toNat)<;>cases decide (c.toNat<=57)<;>cases (c.toNat==45)<;>cases (i==0)<;>rfl
theorem qY(c:UInt8):(((!(decide (97<=c.toNat)&&decide (c.toNat<=122)))&&(!(decide (48<=c.toNat)&&decide (c.toNat<=57))))&&(!((c.toNat:Int)==45))) = !iA false c:=by
 have b5:((c.toNat:Int)==45)=(c.toNat==45):=by rw[Bool.eq_iff_iff];simp;omega
 rw[b5];unfold iA;cases decide (97<=c.toNat)<;>cases decide (c.toNat<=122)<;>cases decide (48<=c.toNat)<;>cases decide (c.toNat<=57)<;>cases (c.toNat==45)<;>rfl
theorem Ge(s:List UInt8):Bz s=some (JV s):=by
 unfold Bz
 by_cases h:((s.length:Int)<1)∨((12:Int)<s.length)
 ·have h1:((decide ((s.length:Int)<1))||(decide ((12:Int)<(s.length:Int))))=true:=by simpa using h
  have h2:JV s=false:=by unfold JV;by_cases a:1<=s.length<;>by_cases b:s.length<=12<;>simp[a,b]<;>omega
  simp only[h1,if_true,h2]
 ·have h1:((decide ((s.length:Int)<1))||(decide ((12:Int)<(s.length:Int))))=false:=by simpa using h
  simp only[h1,bfT,if_false];rw[IH (step:=Gd s (s.length:Int)) (fun i=>iA (i==0) (s.getD i 0)) s.length ((List.range s.length).all fun i=>iA (i==0) (s.getD i 0)) (yes:=.inl ()) (no:=.inr false) PU]
  ·have a1:1<=s.length:=by omega
   have a2:s.length<=12:=by omega
   unfold JV;simp only[a1,a2,decide_true,Bool.true_and];cases ((List.range s.length).all fun i=>iA (i==0) (s.getD i 0))<;>rfl
  ·intro i hi;simp only[Gd,Int.ofNat_lt,hi,decide_true,if_true,Av,AG,tnC,At (show i<9223372036854775807 by omega)];rw[wu];cases iA (i==0) (s.getD i 0)<;>rfl
  ·simp[Gd]
theorem MT(c:UInt8):GC c=some (decide (97<=c.toNat)&&decide (c.toNat<=122)):=by
 have h1:((97:Int)<=(c.toNat:Int)) ↔ 97<=c.toNat:=by omega
 have h2:((c.toNat:Int)<=122) ↔ c.toNat<=122:=by omega
 simp[GC,h1,h2]
theorem UR(c:UInt8):Dw c=some (decide (48<=c.toNat)&&decide (c.toNat<=57)):=by
 have h1:((48:Int)<=(c.toNat:Int)) ↔ 48<=c.toNat:=by omega
 have h2:((c.toNat:Int)<=57) ↔ c.toNat<=57:=by omega
 simp[Dw,h1,h2]
theorem LJ(s:List UInt8):Co s=some (JV s):=by
 unfold Co
 by_cases h:s.length=0∨12<s.length
 ·have h1:((s==([]:List UInt8))||(decide ((12:Int)<(s.length:Int))))=true:=by
   rcases h with h|h
   ·have:s=[]:=List.eq_nil_of_length_eq_zero h;simp[this]
   ·simp;right;omega
  have h2:JV s=false:=by unfold JV;by_cases a:1<=s.length<;>by_cases b:s.length<=12<;>simp[a,b]<;>omega
  simp only[h1,h2,Bool.not_true,Bool.not_false,Bool.true_or,AG,if_true]
 ·have h1:((s==([]:List UInt8))||(decide ((12:Int)<(s.length:Int))))=false:=by
   rw[Bool.or_eq_false_iff];refine⟨?_,by simp;omega⟩;rw[beq_eq_false_iff_ne];rintro rfl;simp at h
  have hi0:BC 0 s.length=true:=CX (by omega) (by omega);simp only[h1,hi0,MT,Option.isSome_some,Option.getD_some,Bool.or_true,AG,Bool.false_or]
  by_cases hf:(decide (97<=(s.getD 0 0).toNat)&&decide ((s.getD 0 0).toNat<=122))=true
  ·rw[hf];simp only[Bool.not_true,bfT,if_false];rw[IH (step:=GW s) (fun i=>iA false (s.getD i 0)) s.length ((List.range s.length).all fun i=>iA (i==0) (s.getD i 0)) (yes:=.inl ()) (no:=.inr false)]
   ·have a1:1<=s.length:=by omega
    have a2:s.length<=12:=by omega
    unfold JV;simp only[a1,a2,decide_true,Bool.true_and];cases ((List.range s.length).all fun i=>iA (i==0) (s.getD i 0))<;>rfl
   ·rw[PU];refine forall_congr' fun i=>forall_congr' fun hi=>?_
    by_cases e:i=0
    ·subst e;simp only[iA,hf,Bool.true_or]
    ·have:(i==0)=false:=by simpa using e
     rw[this]
   ·intro i hi;simp only[GW,Int.ofNat_lt,hi,decide_true,if_true,Av,AG,tnC,At (show i<9223372036854775807 by omega),MT,UR,obS,Option.isSome_some,Option.getD_some,Bool.or_true];rw[qY];cases iA false (s.getD i 0)<;>rfl
   ·simp[GW]
  ·have hf':(decide (97<=(s.getD 0 0).toNat)&&decide ((s.getD 0 0).toNat<=122))=false:=by simpa using hf
   rw[hf']
   have:JV s=false:=by
    unfold JV
    have:((List.range s.length).all fun i=>iA (i==0) (s.getD i 0))=false:=by
     cases hq:((List.range s.length).all fun i=>iA (i==0) (s.getD i 0)) with
     | false=>rfl
     | true=>
      have:=PU.1 hq 0 (by omega);simp only[iA,hf',beq_self_eq_true,Bool.not_true,Bool.false_and,Bool.or_false,bfT] at this
    simp only[this,Bool.and_false]
   rw[this];rfl
theorem LF{ρ:Type}{step:Int->Option (Int⊕(Unit⊕ρ))}(p:Nat->Bool)(g:Nat->ρ)(n:Nat)
  (hs:∀ i,i<n->step (i:Int)=some (if p i=true then .inr (.inr (g i)) else .inl ((i+1:Nat):Int))) (he:step (n:Int)=some (.inr (.inl ()))) :
  AS step 0=some (match (List.range n).find? p with|some j=>.inr (g j)|none=>.inl ()):=by
 have key:∀ m i:Nat,i+m=n->(∀ k,k<i->p k=false)->AS step (i:Int)=some (match (List.range n).find? p with|some j=>.inr (g j)|none=>.inl ()):=by
  intro m
  induction m with
  | zero=>
   intro i hi hk;obtain rfl:i=n:=by omega
   rw[Cm he]
   have:(List.range i).find? p=none:=by
    rw[List.find?_eq_none];intro x hx;rw[hk x (by simpa using hx)];exact Bool.false_ne_true
   rw[this]
  | succ m ih=>
   intro i hi hk;have hlt:i<n:=by omega
   by_cases hp:p i=true
   ·rw[Cm (by rw[hs i hlt,if_pos hp])]
    have:(List.range n).find? p=some i:=by
     rw[List.find?_range_eq_some];exact⟨hp,by simpa using hlt,fun j hj=>by simp[hk j hj]⟩
    rw[this]
   ·rw[Dh (by rw[hs i hlt,if_neg hp])];refine ih (i+1) (by omega) fun k hk2=>?_
    rcases Nat.lt_or_ge k i with c|c
    ·exact hk k c
    ·obtain rfl:k=i:=by omega
     simpa using hp
 exact key n 0 (by omega) fun k hk=>by omega
theorem jt{α:Type}[Inhabited α](xs:List α)(f:α->Bool):((List.range xs.length).find? fun i=>f (xs.getD i default)).isSome=xs.any f:=by
 rw[Bool.eq_iff_iff,List.find?_isSome,List.any_eq_true];constructor
 ·rintro⟨i,hi,hf⟩;have hi':i<xs.length:=by simpa using hi
  exact⟨_,EH hi' default,hf⟩
 ·rintro⟨x,hx,hf⟩;obtain⟨i,hi,rfl⟩:=List.getElem_of_mem hx;exact⟨i,by simpa using hi,by rw[Kq hi];exact hf⟩
def KZ{α β:Type}(p:Nat->Bool)(x:Nat->β)(n:Nat):List β:=((List.range n).filter p).map x
theorem jS{β:Type}(p:Nat->Bool)(x:Nat->β)(n:Nat):KZ (α:=β) p x (n+1)=if p n=true then KZ (α:=β) p x n++[x n] else KZ (α:=β) p x n:=by
 unfold KZ;rw[List.range_succ,List.filter_append,List.map_append]
 by_cases h:p n=true
 ·simp[h]
 ·simp[h]
theorem QT{β:Type}(p:Nat->Bool)(x:Nat->β)(n:Nat):(KZ (α:=β) p x n).length<=n:=by
 unfold KZ;rw[List.length_map];exact Nat.le_trans (List.length_filter_le _ _) (by simp)
theorem QD{β ρ:Type}{step:List β×Int->Option ((List β×Int)⊕ρ)}(p:Nat->Bool)(x:Nat->β)(n:Nat){r:ρ}
  (hs:∀ (out:List β) (i:Nat),i<n->out.length<=i->step (out,(i:Int))=some (.inl (if p i=true then out++[x i] else out,((i+1:Nat):Int))))
  (he:step (KZ (α:=β) p x n,(n:Int))=some (.inr r)):AS step ([],0)=some r:=by
 exact YT (step:=step) (fun i=>KZ (α:=β) p x i) n (r:=r) (fun i hi=>by rw[hs _ i hi (QT _ _ _),jS]) he
theorem NC:∀ (a b:List UInt8),(decide (Lib.compareBytes a b<0)=Op.bytesLess a b)∧((Lib.compareBytes a b==0)=(a==b))
 | [],[]=>by simp[Lib.compareBytes,Op.bytesLess]
 | [],_::_=>by simp[Lib.compareBytes,Op.bytesLess]
 | _::_,[]=>by simp[Lib.compareBytes,Op.bytesLess]
 | x::a,y::b=>by
  obtain⟨h1,h2⟩:=NC a b
  by_cases e:x=y
  ·subst e;have hx:¬ x<x:=UInt8.lt_irrefl x;simp only[Lib.compareBytes,Op.bytesLess,hx,if_false,decide_false,Bool.false_or,beq_self_eq_true,Bool.true_and];refine⟨h1,?_⟩;rw[h2,Bool.eq_iff_iff];simp
  ·by_cases hlt:x<y
   ·simp[Lib.compareBytes,Op.bytesLess,hlt,e]
   ·have hgt:y<x:=UInt8.lt_of_le_of_ne (UInt8.not_lt.1 hlt) (Ne.symm e);simp[Lib.compareBytes,Op.bytesLess,hlt,hgt,e]
theorem bC(a b:List UInt8):HD a b=some (Lib.compareBytes a b):=id rfl
theorem QB(a b:Int):Ft a b=some (if a<b then -1 else if b<a then 1 else 0):=by
 unfold Ft HT
 by_cases h1:a<b
 ·simp[h1]
 ·by_cases h2:b<a
  ·simp[h1,h2]
  ·simp[h1,h2]
theorem AFf(a b c:Int):LX [a,b,c]=some (if a≠0 then a else if b≠0 then b else c):=by
 unfold LX
 have hs:=LF (step:=Hh 0 [a,b,c] (([a,b,c]:List Int).length:Int)) (fun i=>!(([a,b,c]:List Int).getD i default==0)) (fun i=>([a,b,c]:List Int).getD i default) 3
  (fun i hi=>by
   have h1:BC (i:Int) ([a,b,c]:List Int).length=true:=by rw[Av];simpa using hi
   have h2:decide ((i:Int)<(([a,b,c]:List Int).length:Int))=true:=by simp;omega
   simp only[Hh,h1,h2,AG,if_true,tnC,At (show i<9223372036854775807 by omega)];cases (!(([a,b,c]:List Int).getD i default==0))<;>rfl)
  (by simp[Hh])
 rw[hs]
 by_cases ha:a=0
 ·by_cases hb:b=0
  ·by_cases hc:c=0
   ·subst ha;subst hb;subst hc;rfl
   ·subst ha;subst hb
    have:(List.range 3).find? (fun i=>!(([0,0,c]:List Int).getD i default==0))=some 2:=by
     rw[List.find?_range_eq_some];refine⟨by simpa using hc,by simp,fun j hj=>?_⟩
     match j,hj with
     | 0,_=>rfl
     | 1,_=>rfl
    rw[this];simp
  ·subst ha
   have:(List.range 3).find? (fun i=>!(([0,b,c]:List Int).getD i default==0))=some 1:=by
    rw[List.find?_range_eq_some];refine⟨by simpa using hb,by simp,fun j hj=>?_⟩
    match j,hj with
    | 0,_=>rfl
   rw[this];simp[hb]
 ·have:(List.range 3).find? (fun i=>!(([a,b,c]:List Int).getD i default==0))=some 0:=by
   rw[List.find?_range_eq_some];exact⟨by simpa using ha,by simp,fun j hj=>by omega⟩
  rw[this];simp[ha]
def Hs(a b:AD):Bool:=if a.Time=b.Time then (if a.Star=b.Star then Op.bytesLess a.Observer b.Observer else Op.bytesLess a.Star b.Star) else decide (a.Time<b.Time)
theorem vT(a b:AD):GU a b=some (Hs a b):=by
 unfold GU Hs
 by_cases h1:a.Time=b.Time
 ·by_cases h2:a.Star=b.Star
  ·simp[h1,h2]
  ·simp[h1,h2]
 ·simp[h1]
theorem Vc(a b:AD):∃ c,BT a b=some c∧decide (c<0)=Hs a b:=by
 unfold BT;simp only[QB,bC,AFf,obS];refine⟨_,rfl,?_⟩;obtain⟨s1,s2⟩:=NC a.Star b.Star;obtain⟨o1,o2⟩:=NC a.Observer b.Observer;unfold Hs
 by_cases h1:a.Time=b.Time
 ·simp only[h1,Int.lt_irrefl,if_false,ne_eq,not_true_eq_false,if_true]
  by_cases h2:a.Star=b.Star
  ·have e:Lib.compareBytes a.Star b.Star=0:=by
    have:(a.Star==b.Star)=true:=by simpa using h2
    rw[this] at s2;simpa using s2
   simp only[e,not_true_eq_false,if_false,h2,if_true];have e2:Lib.compareBytes b.Star b.Star=0:=by rw[← h2] at e ⊢;exact e
   simp[e2,o1]
  ·have e:¬ Lib.compareBytes a.Star b.Star=0:=by
    have:(a.Star==b.Star)=false:=by simpa using h2
    rw[this] at s2;simpa using s2
   simp[e,h2,s1]
 ·by_cases h2:a.Time<b.Time
  ·simp[h1,h2]
  ·have h3:b.Time<a.Time:=by omega
   simp[h1,h2,h3]
def OM(e:AD):Bool:=(((decide (0<=e.Time)&&decide (e.Time<=10000000))&&JV e.Star)&&JV e.Observer)&&(decide (-2000<=e.Mag)&&decide (e.Mag<=20000))
theorem tP(e:AD):KH e=some (OM e):=by
 unfold KH OM;simp only[Kj,ED,Lz,LJ,obS,Option.isSome_some,Option.getD_some,Bool.or_true,AG]
theorem Pn(e:AD):FY e=some (OM e):=by
 unfold FY OM;simp only[EG,Bb,GF,Ge,obS,Option.isSome_some,Option.getD_some,Bool.or_true,AG]
def vU(l:List AD)(i:Nat):Bool:=OM (l.getD i default) && !(decide (0<i) && !Hs (l.getD (i-1) default) (l.getD i default))
def FB(l:List AD):Bool:=(List.range l.length).all (vU l)
theorem yg{l:List AD}(hl:l.length<=1099511627776){i:Nat}(hi:i<l.length):GA l (i:Int)=some (if vU l i=true then .inl ((i+1:Nat):Int) else .inr (.inr false)):=by
 simp only[GA,Av,hi,decide_true,AG,Int.ofNat_lt,if_true,tnC,At (show i<9223372036854775807 by omega),tP,vT,obS,Option.isSome_some,Option.getD_some,Bool.or_true];unfold vU
 by_cases h0:0<i
 ·have e0:decide ((0:Int)<(i:Int))=true:=by simpa using h0
  have e1:decide (0<i)=true:=by simpa using h0
  have w1:i64.wrap ((i:Int)-1)=((i-1:Nat):Int):=by rw[wrap_i64 (by omega) (by omega)];omega
  have ok1:BC ((i-1:Nat):Int) l.length=true:=by rw[Av];simp;omega
  simp only[e0,e1,w1,ok1,Bool.or_true,AG,Bool.true_and,tnC];generalize OM (l.getD i default)=A;generalize Hs (l.getD (i-1) default) (l.getD i default)=B;cases A<;>cases B<;>rfl
 ·have e0:decide ((0:Int)<(i:Int))=false:=by simpa using h0
  have e1:decide (0<i)=false:=by simpa using h0
  simp only[e0,e1,Bool.false_and,Bool.and_false,Bool.not_false,Bool.true_or,AG,Bool.or_false,Bool.and_true];generalize OM (l.getD i default)=A;cases A<;>rfl
theorem yh{l:List AD}(hl:l.length<=1099511627776):Js l=some (FB l&&decide (l.length<=100)):=by
 unfold Js;rw[IH (step:=GA l) (vU l) l.length (FB l) (yes:=.inl ()) (no:=.inr false) (by unfold FB;simp) (fun i hi=>yg hl hi) (by simp[GA])];have e:decide ((l.length:Int)<=100)=decide (l.length<=100):=by rw[Bool.eq_iff_iff];simp;omega
 simp only[obS,ZF];cases FB l<;>simp[e]
theorem lG{l:List AD}(hl:l.length<=1099511627776){i:Nat}(hi:i<l.length):CU l l (l.length:Int) (i:Int)=some (if vU l i=true then .inl ((i+1:Nat):Int) else .inr (.inr false)):=by
 obtain⟨c,hc,hc2⟩:=Vc (l.getD (i-1) default) (l.getD i default);simp only[CU,Av,hi,decide_true,AG,Int.ofNat_lt,if_true,tnC,At (show i<9223372036854775807 by omega),Pn,obS,Option.isSome_some,Option.getD_some,Bool.or_true];unfold vU
 by_cases h0:0<i
 ·have e0:decide ((0:Int)<(i:Int))=true:=by simpa using h0
  have e1:decide (0<i)=true:=by simpa using h0
  have w1:i64.wrap ((i:Int)-1)=((i-1:Nat):Int):=by rw[wrap_i64 (by omega) (by omega)];omega
  have ok1:BC ((i-1:Nat):Int) l.length=true:=by rw[Av];simp;omega
  simp only[e0,e1,w1,ok1,Bool.or_true,AG,Bool.true_and,tnC,hc,Option.isSome_some,Option.getD_some]
  have e2:decide (0<=c) = !Hs (l.getD (i-1) default) (l.getD i default):=by
   rw[← hc2,← decide_not];congr 1;rw[Int.not_lt]
  rw[e2];generalize OM (l.getD i default)=A;generalize Hs (l.getD (i-1) default) (l.getD i default)=B;cases A<;>cases B<;>rfl
 ·have e0:decide ((0:Int)<(i:Int))=false:=by simpa using h0
  have e1:decide (0<i)=false:=by simpa using h0
  simp only[e0,e1,Bool.false_and,Bool.and_false,Bool.not_false,Bool.true_or,AG,Bool.or_false,Bool.and_true];generalize OM (l.getD i default)=A;cases A<;>rfl
theorem Fv{l:List AD}(hl:l.length<=1099511627776):BK l=some (FB l&&decide (l.length<=100)):=by
 unfold BK
 by_cases h:100<(l.length:Int)
 ·have e:decide (l.length<=100)=false:=by simp;omega
  simp[h,e]
 ·have e:decide (l.length<=100)=true:=by simp;omega
  simp only[h,decide_false,bfT,if_false];rw[IH (step:=CU l l (l.length:Int)) (vU l) l.length (FB l) (yes:=.inl ()) (no:=.inr false) (by unfold FB;simp) (fun i hi=>lG hl hi) (by simp[CU])];simp only[obS,ZF,e];cases FB l<;>rfl
def CJ(c:UInt8):List UInt8->List UInt8->List (List UInt8)
 | acc,[]=>[acc]
 | acc,x::r=>if x=c then acc::CJ c [] r else CJ c (acc++[x]) r
def DX(c:UInt8)(s:List UInt8):List (List UInt8):=CJ c [] s
theorem OH{c:UInt8}:∀ {s acc:List UInt8},c ∉ s->CJ c acc s=[acc++s]
 | [],acc,_=>by simp[CJ]
 | x::r,acc,h=>by
  have hx:x≠c:=fun e=>h (by simp[e])
  rw[CJ,if_neg hx,OH (fun hm=>h (by simp[hm])),List.append_assoc];rfl
theorem JL{c:UInt8}:∀ {a acc b:List UInt8},c ∉ a->CJ c acc (a++c::b)=(acc++a)::CJ c [] b
 | [],acc,b,_=>by simp[CJ]
 | x::r,acc,b,h=>by
  have hx:x≠c:=fun e=>h (by simp[e])
  rw[List.cons_append,CJ,if_neg hx,JL (fun hm=>h (by simp[hm])),List.append_assoc];rfl
theorem VI(c:UInt8):∀ s acc:List UInt8,CJ c acc s≠[]
 | [],acc=>by simp[CJ]
 | x::r,acc=>by
  rw[CJ];split
  ·simp
  ·exact VI c r _
theorem NK(c:UInt8):∀ s acc:List UInt8,1<=(CJ c acc s).length∧(CJ c acc s).length<=s.length+1
 | [],acc=>by simp[CJ]
 | x::r,acc=>by
  rw[CJ];split
  ·have:=NK c r [];simp only[List.length_cons];omega
  ·have:=NK c r (acc++[x]);simp only[List.length_cons];omega
def NZ(c:UInt8):List (List UInt8)->List UInt8
 | []=>[]
 | [a]=>a
 | a::b::r=>a++c::NZ c (b::r)
theorem MH(c:UInt8):∀ s acc:List UInt8,NZ c (CJ c acc s)=acc++s
 | [],acc=>by simp[CJ,NZ]
 | x::r,acc=>by
  rw[CJ];split
  ·rename_i e;have h:=MH c r [];cases hs:CJ c [] r with
   | nil=>exact absurd hs (VI c r [])
   | cons b t=>rw[hs] at h;rw[NZ,h,e];rfl
  ·rw[MH c r (acc++[x]),List.append_assoc];rfl
theorem YZ(c:UInt8):∀ (l:List (List UInt8)),l≠[]->(∀ p∈l,c ∉ p)->DX c (NZ c l)=l
 | [],h,_=>absurd rfl h
 | [a],_,h=>by
  unfold DX NZ;rw[OH (h a (by simp))];rfl
 | a::b::r,_,h=>by
  have ih:=YZ c (b::r) (by simp) (fun p hp=>h p (by simp[hp]));unfold DX at ih ⊢;rw[NZ,JL (h a (by simp)),ih];rfl
theorem IV(c:UInt8):∀ s:List UInt8,(Lib.index s [c]=-1∧c ∉ s)∨∃ a b,s=a++c::b∧c ∉ a∧Lib.index s [c]=a.length
 | []=>.inl ⟨by simp[Lib.index],by simp⟩
 | x::r=>by
  unfold Lib.index
  by_cases e:x=c
  ·subst e;exact .inr ⟨[],r,rfl,by simp,by simp⟩
  ·have e1:(List.isPrefixOf [c] (x::r))=false:=by
    simp only[List.isPrefixOf,Bool.and_true,beq_eq_false_iff_ne];exact fun h=>e h.symm
   rw[e1];rcases IV c r with⟨h1,h2⟩|⟨a,b,rfl,h2,h3⟩
   ·exact .inl ⟨by simp[h1],by simp only[List.mem_cons,not_or];exact⟨fun h=>e h.symm,h2⟩⟩
   ·refine .inr ⟨x::a,b,rfl,by simp only[List.mem_cons,not_or];exact⟨fun h=>e h.symm,h2⟩,?_⟩;rw[h3];have:(((a.length:Int))==-1)=false:=by rw[beq_eq_false_iff_ne];omega
    simp[this]
theorem aK{c:UInt8}{s:List UInt8}(h:c ∉ s):Lib.cut s [c]=(s,[],false):=by
 rcases IV c s with⟨h1,_⟩|⟨a,b,rfl,_,_⟩
 ·unfold Lib.cut;rw[h1,if_neg (by decide)]
 ·exact absurd (by simp) h
theorem PT{c:UInt8}{a b:List UInt8}(h:c ∉ a):Lib.cut (a++c::b) [c]=(a,b,true):=by
 rcases IV c (a++c::b) with⟨_,h2⟩|⟨a',b',e,h2,h3⟩
 ·exact absurd (by simp) h2
 ·have ha:a'=a∧b'=b:=by
   have s1:=JL (acc:=[]) (b:=b) h;have s2:=JL (acc:=[]) (b:=b') h2;rw[e,s2] at s1;have:[]++a'=[]++a:=(List.cons.inj s1).1;have hab:a'=a:=by simpa using this
   subst hab;exact⟨rfl,((List.cons.inj (List.append_cancel_left e)).2).symm⟩
  obtain⟨rfl,rfl⟩:=ha;unfold Lib.cut;rw[h3,if_pos (by omega)];simp
theorem qH(c:UInt8):∀ (k:Nat) (s:List UInt8),s.count c=k->Lib.splitK [c] 0 k s=DX c s:=by
 intro k
 induction k with
 | zero=>
  intro s h;have hc:c ∉ s:=List.count_eq_zero.1 h;unfold DX;rw[OH hc];rfl
 | succ k ih=>
  intro s h;rcases IV c s with⟨h1,h2⟩|⟨a,b,rfl,h2,h3⟩
  ·rw[List.count_eq_zero.2 h2] at h;omega
  ·unfold Lib.splitK;have hne:((a.length:Int)==-1)=false:=by rw[beq_eq_false_iff_ne];omega
   rw[h3];simp only[hne,bfT,if_false]
   have hcnt:b.count c=k:=by
    rw[List.count_append,List.count_eq_zero.2 h2,List.count_cons_self] at h;omega
   have e1:(a++c::b).take ((a.length:Int).toNat+0)=a:=by simp
   have e2:(a++c::b).drop ((a.length:Int).toNat+([c]:List UInt8).length)=b:=by simp
   unfold DX;rw[JL h2]
   first
    | rw[e1,e2,ih b hcnt]
    | (rw[e2,ih b hcnt];simp[DX])
   rfl
theorem tv(c:UInt8):∀ (f:Nat) (s:List UInt8),s.length<f->Lib.countFrom [c] f s=s.count c:=by
 intro f
 induction f with
 | zero=>intro s h;omega
 | succ f ih=>
  intro s h;unfold Lib.countFrom;rcases IV c s with⟨h1,h2⟩|⟨a,b,rfl,h2,h3⟩
  ·simp[h1,List.count_eq_zero.2 h2]
  ·have hne:((a.length:Int)==-1)=false:=by rw[beq_eq_false_iff_ne];omega
   rw[h3];simp only[hne,bfT,if_false];have e2:(a++c::b).drop ((a.length:Int).toNat+([c]:List UInt8).length)=b:=by simp
   rw[e2,ih b (by simp at h;omega),List.count_append,List.count_eq_zero.2 h2,List.count_cons_self];omega
theorem wF(c:UInt8)(s:List UInt8):Lib.split s [c]=DX c s:=by
 unfold Lib.split Lib.count;rw[tv c _ s (by omega)];exact qH c _ s rfl
theorem Zu{c:UInt8}{s:List UInt8}(h:s.length<4294967281):Uo s [c]=some (DX c s):=by
 unfold Uo;rw[wF];simp[h]
theorem jj{c:UInt8}{s:List UInt8}(h:s.length<4294967281):Vr s [c]=some (Lib.cut s [c]):=by
 unfold Vr;rw[if_pos h]
def Vu(c:UInt8):Bool:=decide (48<=(c.toNat:Int))&&decide ((c.toNat:Int)<=57)
theorem Kr{c:UInt8}:Vu c=true ↔ 48<=c.toNat∧c.toNat<=57:=by
 unfold Vu;simp only[baT,dtE];omega
def valF(n:Nat)(l:List UInt8):Nat:=l.foldl (fun n c=>n*10+(c.toNat-48)) n
theorem MQ(n:Nat):valF n []=n:=by unfold valF;rw[List.foldl_nil]
theorem LA(n:Nat)(c:UInt8)(r:List UInt8):valF n (c::r)=valF (n*10+(c.toNat-48)) r:=by unfold valF;rw[List.foldl_cons]
theorem PF{l:List UInt8}:∀ {n a:Nat},n<10^a->l.all Vu=true->valF n l<10^(a+l.length):=by
 induction l with
 | nil=>intro n a h _;rw[MQ];exact h
 | cons c r ih=>
  intro n a h hd;simp only[List.all_cons,baT] at hd;have hc:=Kr.1 hd.1;have h2:n*10+(c.toNat-48)<10^(a+1):=by rw[Nat.pow_succ];omega
  have:=ih h2 hd.2;rw[LA,List.length_cons]
  rwa [Nat.add_assoc,Nat.add_comm 1] at this
theorem IM{k:Nat}(h:k<=18):(10:Nat)^k<=1000000000000000000:=Nat.pow_le_pow_right (by omega) h
def ANb:=Lib.parseUintM 0 0 [0]
theorem RH{l:List UInt8}:∀ {n a:Nat},n<10^a->a+l.length<=18->Lib.parseUintM (2^64-1) n l=if l.all Vu=true then .ok (valF n l) else ANb:=by
 induction l with
 | nil=>intro n a _ _;simp[Lib.parseUintM,MQ]
 | cons c r ih=>
  intro n a h hl;rw[List.length_cons] at hl;have hp:=IM (show a<=18 by omega);have hp1:=IM (show a+1<=18 by omega);rw[Lib.parseUintM]
  by_cases hc:48<=c.toNat∧c.toNat<=57
  ·have h2:n*10+(c.toNat-48)<10^(a+1):=by rw[Nat.pow_succ];omega
   rw[if_pos hc,if_neg (by omega),if_neg (by omega),ih h2 (by omega)];simp only[List.all_cons,Kr.2 hc,Bool.true_and,LA]
  ·rw[if_neg hc]
   have:Vu c=false:=by
    cases hd:Vu c with
    | false=>rfl
    | true=>exact absurd (Kr.1 hd) hc
   simp only[List.all_cons,this,Bool.false_and,bfT,if_false];rfl
theorem pj:∀ (k u:Nat),u<10^(k+1)->(Lib.decDigits u).all Vu=true
 | 0,u,h=>by
  have h:u<10:=by simpa using h
  rw[Lib.decDigits_one h];simp only[List.all_cons,List.all_nil,Bool.and_true,Kr,UInt8.toNat_ofNat'];omega
 | k+1,u,h=>by
  by_cases c:u<10
  ·rw[Lib.decDigits_one c];simp only[List.all_cons,List.all_nil,Bool.and_true,Kr,UInt8.toNat_ofNat'];omega
  ·rw[Lib.decDigits,dif_neg c,List.all_append,pj k (u/10) (by rw[Nat.pow_succ] at h;omega)];simp only[List.all_cons,List.all_nil,Bool.and_true,Bool.true_and,Kr,UInt8.toNat_ofNat'];omega
theorem PS(u:Nat):(Lib.decDigits u).all Vu=true:=pj u u (Nat.lt_of_lt_of_le (Nat.lt_pow_self (by omega)) (Nat.pow_le_pow_right (by omega) (by omega)))
theorem tR(n:Int)(r:List UInt8):Lib.itoa n≠43::r:=by
 intro h;unfold Lib.itoa at h;split at h
 ·have:=(List.cons.inj h).1;exact absurd this (by decide)
 ·have:=PS n.toNat;rw[h] at this;simp[Vu] at this
theorem lJ(r:List UInt8):Lib.trimPrefix (45::r) [45]=r:=by simp[Lib.trimPrefix,Lib.hasPrefix]
theorem lI{c:UInt8}{r:List UInt8}(h:c≠45):Lib.trimPrefix (c::r) [45]=c::r:=by
 unfold Lib.trimPrefix Lib.hasPrefix
 have:(List.isPrefixOf [45] (c::r))=false:=by
  simp only[List.isPrefixOf,Bool.and_true,beq_eq_false_iff_ne];exact fun e=>h e.symm
 simp[this]
theorem OK{r:List UInt8}:CD (45::r)=if r.length<1∨18<r.length then (0,false) else if r.all Vu=true then (if Lib.itoa (-(valF 0 r:Int))=45::r then (-(valF 0 r:Int),true) else (0,false)) else (0,false):=by
 unfold CD;rw[lJ]
 by_cases h:r.length<1∨18<r.length
 ·rw[if_pos h,if_pos h]
 ·rw[if_neg h,if_neg h];have hne:r≠[]:=fun e=>h (.inl (by simp[e]))
  have hp:=RH (l:=r) (n:=0) (a:=0) (by simp) (by omega);have e43:((45:UInt8).toNat=43∨(45:UInt8).toNat=45):=.inr rfl;unfold Lib.parseIntB;simp only[e43,if_true,Lib.parseUintB,hne,if_false,hp]
  by_cases hd:r.all Vu=true
  ·have hv:=PF (l:=r) (n:=0) (a:=0) (by simp) hd;have hv2:=IM (k:=0+r.length) (by omega);have e45:((45:UInt8).toNat=45):=rfl;have n2:¬ (2^(64-1)<valF 0 r):=by omega
   simp only[hd,if_true,e45,not_true_eq_false,false_and,if_false,true_and,n2]
  ·simp only[hd,bfT,if_false];rfl
theorem Lo{c:UInt8}{r:List UInt8}(hc:c≠45):CD (c::r)=if (c::r).length<1∨18<(c::r).length then (0,false) else if (c::r).all Vu=true then (if Lib.itoa (valF 0 (c::r):Int)=c::r then ((valF 0 (c::r):Int),true) else (0,false)) else (0,false):=by
 unfold CD;rw[lI hc]
 by_cases h:(c::r).length<1∨18<(c::r).length
 ·rw[if_pos h,if_pos h]
 ·rw[if_neg h,if_neg h];have e45:¬ (c.toNat=45):=fun e=>hc (by rw[← UInt8.toNat_inj];exact e)
  by_cases h43:c=43
  ·subst h43;have hd:((43:UInt8)::r).all Vu=false:=by simp[Vu]
   rw[hd];simp only[bfT,if_false];rcases hp:Lib.parseIntB 64 (43::r) with v|_|_
   ·simp only[if_neg (tR v r)]
   ·rfl
   ·rfl
  ·have e43:¬ (c.toNat=43∨c.toNat=45):=fun e=>by
    rcases e with e|e
    ·exact h43 (by rw[← UInt8.toNat_inj];exact e)
    ·exact e45 e
   have hp:=RH (l:=c::r) (n:=0) (a:=0) (by simp) (by omega);unfold Lib.parseIntB;simp only[e43,if_false,Lib.parseUintB,List.cons_ne_nil,hp]
   by_cases hd:(c::r).all Vu=true
   ·have hv:=PF (l:=c::r) (n:=0) (a:=0) (by simp) hd;have hv2:=IM (k:=0+(c::r).length) (by omega);have n1:¬ (2^(64-1)<=valF 0 (c::r)):=by omega
    simp only[hd,if_true,e45,not_false_eq_true,true_and,n1,false_and,if_false]
   ·simp only[hd,bfT,if_false];rfl
theorem LM:∀ (k u:Nat),u<10^(k+1)->Lib.nDigits u<=k+1
 | 0,u,h=>by rw[Lib.nDigits_small (by simpa using h)];omega
 | k+1,u,h=>by
  by_cases c:u<10
  ·rw[Lib.nDigits_small c];omega
  ·rw[Lib.nDigits_big c];have:=LM k (u/10) (by rw[Nat.pow_succ] at h;omega);omega
theorem GH{u:Nat}(h:u<=9223372036854775808):(Lib.decDigits u).length<=20:=by
 rw[Lib.decDigits_length];exact LM 19 u (by omega)
theorem Ks(u:Nat):1<=(Lib.decDigits u).length:=by
 rw[Lib.decDigits_length];exact Lib.nDigits_pos u
theorem Hy{n:Int}(h:Pk n):(Lib.itoa n).length<=21:=by
 obtain⟨h1,h2⟩:=h;unfold Lib.itoa;split
 ·have:=GH (u:=n.natAbs) (by omega);simp;omega
 ·have:=GH (u:=n.toNat) (by omega);omega
theorem aI{d:Nat}(h:d<10):qA (IntKind.u8.wrap (i64.wrap (48+(d:Int))))=UInt8.ofNat (48+d):=by
 have:d=0∨d=1∨d=2∨d=3∨d=4∨d=5∨d=6∨d=7∨d=8∨d=9:=by omega
 rcases this with rfl|rfl|rfl|rfl|rfl|rfl|rfl|rfl|rfl|rfl<;>decide +kernel
def AJB(n:Int)(m:Nat)(s:List UInt8×Int):Prop :=
 ∃ u:Nat,s.2=(if n<0 then -(u:Int) else (u:Int))∧u<=m∧(if u=0 then s.1=Lib.decDigits m else Lib.decDigits m=Lib.decDigits u++s.1)
theorem zx{n:Int}{m:Nat}(hm:m<=9223372036854775808){out:List UInt8}{u:Nat}(hu:u<=m)(h0:u≠0)(h:Lib.decDigits m=Lib.decDigits u++out):
  DK n (out,if n<0 then -(u:Int) else (u:Int))=some (.inl (UInt8.ofNat (48+u%10)::out,if n<0 then -((u/10:Nat):Int) else ((u/10:Nat):Int))) ∧
  (if u/10=0 then UInt8.ofNat (48+u%10)::out=Lib.decDigits m else Lib.decDigits m=Lib.decDigits (u/10)++UInt8.ofNat (48+u%10)::out):=by
 have hl:out.length<=20:=by
  have:=GH hm;rw[h,List.length_append] at this;omega
 constructor
 ·have t1:((u:Int)).tmod 10=((u%10:Nat):Int):=by rw[Int.tmod_eq_emod_of_nonneg (by omega)];omega
  have t2:((u:Int)).tdiv 10=((u/10:Nat):Int):=by rw[Int.tdiv_eq_ediv_of_nonneg (by omega)];omega
  have w:i64.wrap ((u%10:Nat):Int)=((u%10:Nat):Int):=wrap_i64 (by omega) (by omega);have ha:EY (([UInt8.ofNat (48+u%10)]:List UInt8).length+out.length) 1=true:=DM (by simp;omega)
  by_cases hn:n<0
  ·have k0:((-(u:Int))==0)=false:=by rw[beq_eq_false_iff_ne];omega
   have w2:i64.wrap (-((u/10:Nat):Int))=-((u/10:Nat):Int):=wrap_i64 (by omega) (by omega);simp only[DK,hn,if_true,k0,Bool.not_false,MY (show (10:Int)≠0 by decide),AG,Int.neg_tmod,Int.neg_tdiv,t1,t2,w2]
   by_cases hd:u%10=0
   ·have e:¬ (-(((u%10:Nat)):Int)<0):=by omega
    simp only[e,decide_false,bfT,if_false];have e2:(-((u%10:Nat):Int))=((u%10:Nat):Int):=by omega
    rw[e2,aI (Nat.mod_lt _ (by omega)),ha,AG];rfl
   ·have e:(-(((u%10:Nat)):Int)<0):=by omega
    have e2:(0 - -((u%10:Nat):Int))=((u%10:Nat):Int):=by omega
    simp only[e,decide_true,if_true,e2,w];rw[aI (Nat.mod_lt _ (by omega)),ha,AG];rfl
  ·have k0:((u:Int)==0)=false:=by rw[beq_eq_false_iff_ne];omega
   have w2:i64.wrap ((u/10:Nat):Int)=((u/10:Nat):Int):=wrap_i64 (by omega) (by omega);have e:¬ ((((u%10:Nat)):Int)<0):=by omega
   simp only[DK,hn,if_false,k0,Bool.not_false,if_true,MY (show (10:Int)≠0 by decide),AG,t1,t2,w2,e,decide_false,bfT];rw[aI (Nat.mod_lt _ (by omega)),ha,AG];rfl
 ·by_cases c:u<10
  ·have e:u/10=0:=by omega
   rw[if_pos e,h,Lib.decDigits_one c,Nat.mod_eq_of_lt c];rfl
  ·have e:¬ u/10=0:=by omega
   rw[if_neg e,h,Lib.decDigits,dif_neg c,List.append_assoc];rfl
theorem Mb{n:Int}(hr:Pk n):Di n=some (Lib.itoa n):=by
 obtain⟨h1,h2⟩:=hr
 by_cases h0:n=0
 ·subst h0;unfold Di;rw[Cm (r:=([]:List UInt8)) (by simp[DK])];simp[Lib.itoa,Lib.decDigits]
 ·obtain⟨m,hm,hm0,hmn⟩:∃ m:Nat,m<=9223372036854775808∧m≠0∧n=(if n<0 then -(m:Int) else (m:Int)):=by
   by_cases hn:n<0
   ·exact⟨n.natAbs,by omega,by omega,by rw[if_pos hn];omega⟩
   ·exact⟨n.toNat,by omega,by omega,by rw[if_neg hn];omega⟩
  have hw:AS (DK n) (([]:List UInt8),n)=some (Lib.decDigits m):=by
   obtain⟨y,hy,hq⟩:=CT (step:=DK n) (AJB n m) (fun y=>y=Lib.decDigits m) (fun s=>s.2.natAbs) (by
    rintro⟨out,k⟩ ⟨u,hk,hu,hd⟩;simp only at hk hd;subst hk
    by_cases hu0:u=0
    ·subst hu0;right;rw[if_pos rfl] at hd;refine⟨out,?_,hd⟩;split<;>simp[DK]
    ·left;rw[if_neg hu0] at hd;obtain⟨e1,e2⟩:=zx (n:=n) hm hu hu0 hd;refine⟨_,e1,⟨u/10,rfl,by omega,e2⟩,?_⟩;show Int.natAbs (if n<0 then _ else _)<Int.natAbs (if n<0 then _ else _);split<;>omega) (s:=(([]:List UInt8),n)) ⟨m,hmn,Nat.le_refl _,by rw[if_neg hm0,List.append_nil]⟩
   rw[hy,hq]
  unfold Di;rw[hw];have hl1:=Ks m;have hl2:=GH hm;have e:(((Lib.decDigits m).length:Int)==0)=false:=by rw[beq_eq_false_iff_ne];omega
  simp only[obS,e,bfT,if_false];unfold Lib.itoa
  by_cases hn:n<0
  ·rw[if_pos hn] at hmn;have e2:n.natAbs=m:=by omega
   simp only[hn,decide_true,if_true,e2];rw[BR (by simp;omega),AG];rfl
  ·rw[if_neg hn] at hmn;have e2:n.toNat=m:=by omega
   simp[hn,e2]
theorem KA{n:Int}(hr:Pk n):BP n=some (Lib.itoa n):=by
 obtain⟨h1,h2⟩:=hr;unfold BP Hp ADz;simp[h1,h2]
theorem zz{s:List UInt8}{i:Nat}:cut s (i:Int) (i:Int)=[]:=by
 simp[cut]
theorem zy{s:List UInt8}{a i:Nat}(h:a<=i)(hi:i<s.length):cut s (a:Int) ((i+1:Nat):Int)=cut s (a:Int) (i:Int)++[s[i]]:=by
 simp only[cut,tnC];rw[List.take_add_one,geE hi,List.drop_append_of_le_length (by simp;omega)];rfl
theorem jQ{s:List UInt8}(c:UInt8)(hl:s.length<=1048576):Ig s c=some (DX c s):=by
 unfold Ig
 obtain⟨y,hy,hq⟩:=CT (step:=Dp s c) (fun st=>∃ a i:Nat,st.2.1=(a:Int)∧st.2.2=(i:Int)∧a<=i∧i<=s.length∧st.1.length<=i∧st.1++CJ c (cut s (a:Int) (i:Int)) (s.drop i)=DX c s)
  (fun y=>∃ a:Nat,y.2=(a:Int)∧a<=s.length∧y.1.length<=s.length∧y.1++[cut s (a:Int) (s.length:Int)]=DX c s) (fun st=>s.length-st.2.2.toNat) (by
  rintro⟨out,fr,ii⟩ ⟨a,i,h1,h2,hai,hi,ho,he⟩;simp only at h1 h2 ho he;subst h1 h2
  by_cases hlt:i<s.length
  ·left;have hd:s.drop i=s[i]::s.drop (i+1):=List.drop_eq_getElem_cons hlt;have hg:s.getD i 0=s[i]:=Kq hlt 0;rw[hd,CJ] at he
   have hc2:((s[i].toNat:Int)==(c.toNat:Int))=decide (s[i]=c):=by
    rw[Bool.eq_iff_iff];simp only[beq_iff_eq,dtE,← UInt8.toNat_inj];omega
   by_cases hc:s[i]=c
   ·rw[if_pos hc] at he;refine⟨(out++[cut s (a:Int) (i:Int)],((i+1:Nat):Int),((i+1:Nat):Int)),?_,⟨i+1,i+1,rfl,rfl,Nat.le_refl _,by omega,by simp;omega,?_⟩,by simp;omega⟩
    ·simp only[Dp,Int.ofNat_lt,hlt,decide_true,if_true,Av,AG,tnC,hg,hc,beq_self_eq_true,At (show i<9223372036854775807 by omega)];rw[KR (by omega) (by omega) (by omega),AG,DM (by simp;omega),AG]
    ·simp only;rw[zz,List.append_assoc];exact he
   ·rw[if_neg hc] at he;refine⟨(out,(a:Int),((i+1:Nat):Int)),?_,⟨a,i+1,rfl,rfl,by omega,by omega,by show out.length<=i+1;omega,?_⟩,by simp;omega⟩
    ·simp only[Dp,Int.ofNat_lt,hlt,decide_true,if_true,Av,AG,tnC,hg,hc2,hc,decide_false,bfT,if_false,At (show i<9223372036854775807 by omega)]
    ·simp only;rw[zy hai hlt];exact he
  ·right;have hie:i=s.length:=by omega
   subst hie;refine⟨(out,(a:Int)),by simp[Dp],a,rfl,hai,ho,?_⟩;rw[List.drop_length,CJ] at he;exact he) (s:=(([]:List (List UInt8)),0,0)) ⟨0,0,rfl,rfl,Nat.le_refl _,Nat.zero_le _,by simp,by simp[cut,DX]⟩
 obtain⟨a,h1,h2,h3,h4⟩:=hq;obtain⟨o,y2⟩:=y;simp only at h1 h3 h4;subst h1;rw[hy];simp only[obS];rw[KR (by omega) (by omega) (by omega),AG,DM (by simp;omega),AG,h4]
theorem VQ(c:UInt8):Dw c=some (Vu c):=id rfl
theorem zu{c:UInt8}(h:Vu c=true){n:Nat}(hn:n<=100000000000000000):i64.wrap ((i64.wrap (10*(n:Int)))+(i64.wrap (IntKind.u8.wrap ((c.toNat:Int)-48))))=((n*10+(c.toNat-48):Nat):Int):=by
 have hc:=Kr.1 h
 have e1:IntKind.u8.wrap ((c.toNat:Int)-48)=((c.toNat-48:Nat):Int):=by
  have:((c.toNat:Int)-48)=((c.toNat-48:Nat):Int):=by omega
  rw[this];exact ABK (by omega) (by omega)
 rw[e1,wrap_i64 (n:=10*(n:Int)) (by omega) (by omega),wrap_i64 (n:=((c.toNat-48:Nat):Int)) (by omega) (by omega),wrap_i64 (by omega) (by omega)];omega
theorem jD(s t:List UInt8)(ht:t.length<=18):∀ (r:List UInt8) (i n:Nat),t.drop i=r->i+r.length=t.length->n<10^i ->
  AS (DD s t) ((n:Int),(i:Int))=some (if r.all Vu=true then .inl ((valF n r:Nat):Int) else .inr (0,false)):=by
 intro r
 induction r with
 | nil=>
  intro i n hd hi _;have:i=t.length:=by simpa using hi
  subst this;refine Cm ?_;simp[DD,MQ]
 | cons c r ih=>
  intro i n hd hi hn;rw[List.length_cons] at hi;have hlt:i<t.length:=by omega
  have hc:t.getD i 0=c:=by
   rw[gdE];have:(t.drop i)[0]? = some c:=by rw[hd];rfl
   rw[List.getElem?_drop,Nat.add_zero] at this;rw[this];rfl
  have hd2:t.drop (i+1)=r:=by
   have:=congrArg List.tail hd
   rwa [List.tail_drop] at this
  by_cases hg:Vu c=true
  ·have hp:=IM (show i<=17+1 by omega);have hp17:(10:Nat)^i<=10^17:=Nat.pow_le_pow_right (by omega) (by omega);have hcd:=Kr.1 hg
   rw[Dh (s':=(((n*10+(c.toNat-48):Nat):Int),((i+1:Nat):Int))) (by
    simp only[DD,Int.ofNat_lt,hlt,decide_true,if_true,Av,AG,tnC,hc,VQ,hg,obS,Bool.not_true,bfT,if_false,At (show i<9223372036854775807 by omega),zu hg (show n<=100000000000000000 by omega)])]
   rw[ih (i+1) (n*10+(c.toNat-48)) hd2 (by omega) (by rw[Nat.pow_succ];omega)];simp only[List.all_cons,hg,Bool.true_and,LA]
  ·have hg2:Vu c=false:=by simpa using hg
   rw[Cm (r:=.inr (0,false)) (by
    simp only[DD,Int.ofNat_lt,hlt,decide_true,if_true,Av,AG,tnC,hc,VQ,hg2,obS,Bool.not_false])]
   simp only[List.all_cons,hg2,Bool.false_and,bfT,if_false]
theorem qZ:Hq=DD:=id rfl
theorem RR{s:List UInt8}(hl:s.length<=1048576):GV s=some (CD s):=by
 unfold GV;cases s with
 | nil=>simp[CD,Lib.trimPrefix,Lib.hasPrefix,AG]
 | cons c r=>
  have h0:((c::r)==([]:List UInt8))=false:=rfl;have h1:BC 0 (c::r).length=true:=CX (by omega) (by simp)
  have hc2:((((c::r).getD 0 0).toNat:Int)==45)=decide (c=45):=by
   rw[Bool.eq_iff_iff];simp only[List.getD_cons_zero,beq_iff_eq,dtE,← UInt8.toNat_inj];show (c.toNat:Int)=45 ↔ c.toNat=45;omega
  simp only[h0,h1,Bool.or_true,AG,Bool.not_false,Bool.true_and,hc2]
  by_cases hc:c=45
  ·subst hc;simp only[decide_true,if_true];have hcut:cut ((45:UInt8)::r) 1 ((((45:UInt8)::r).length:Nat):Int)=r:=by simp[cut]
   rw[KR (by omega) (by simp;omega) (by omega),AG,hcut,OK]
   by_cases hb:r.length<1∨18<r.length
   ·have e:(decide ((r.length:Int)<1)||decide (18<(r.length:Int)))=true:=by simp;omega
    rw[if_pos hb,e];rfl
   ·have e:(decide ((r.length:Int)<1)||decide (18<(r.length:Int)))=false:=by simp;omega
    rw[if_neg hb,e];simp only[bfT,if_false];have hlp:=jD ((45:UInt8)::r) r (by omega) r 0 0 rfl (by omega) (by simp);rw[show ((0:Nat):Int)=0 from rfl] at hlp;rw[hlp]
    by_cases hd:r.all Vu=true
    ·have hv:=PF (l:=r) (n:=0) (a:=0) (by simp) hd;have hv2:=IM (k:=0+r.length) (by omega);have w:i64.wrap (0-((valF 0 r:Nat):Int))=-((valF 0 r:Nat):Int):=by rw[wrap_i64 (by omega) (by omega)];omega
     have lt:decide ((r.length:Int)<(((45:UInt8)::r).length:Nat))=true:=by simp;omega
     simp only[hd,if_true,obS,w,lt,Mb (n:=-((valF 0 r:Nat):Int)) ⟨by omega,by omega⟩]
     by_cases he:Lib.itoa (-((valF 0 r:Nat):Int))=45::r
     ·have:(Lib.itoa (-((valF 0 r:Nat):Int))==45::r)=true:=by simpa using he
      simp only[he,beq_self_eq_true,Bool.not_true,bfT,if_false,if_true]
     ·have:(Lib.itoa (-((valF 0 r:Nat):Int))==45::r)=false:=by simpa using he
      simp only[this,he,Bool.not_false,if_true,if_false]
    ·simp only[hd,bfT,if_false,obS]
  ·simp only[hc,decide_false,bfT,if_false];rw[Lo hc]
   by_cases hb:(c::r).length<1∨18<(c::r).length
   ·have e:(decide (((c::r).length:Int)<1)||decide (18<((c::r).length:Int)))=true:=by simp at hb ⊢;omega
    rw[if_pos hb,e];rfl
   ·have e:(decide (((c::r).length:Int)<1)||decide (18<((c::r).length:Int)))=false:=by simp at hb ⊢;omega
    rw[if_neg hb,e];simp only[bfT,if_false,qZ];have hlp:=jD (c::r) (c::r) (by omega) (c::r) 0 0 rfl (by omega) (by simp);rw[show ((0:Nat):Int)=0 from rfl] at hlp;rw[hlp]
    by_cases hd:(c::r).all Vu=true
    ·have hv:=PF (l:=c::r) (n:=0) (a:=0) (by simp) hd;have hv2:=IM (k:=0+(c::r).length) (by omega);have lt:decide (((c::r).length:Int)<((c::r).length:Int))=false:=by simp
     simp only[hd,if_true,obS,lt,bfT,if_false,Mb (n:=((valF 0 (c::r):Nat):Int)) ⟨by omega,by omega⟩]
     by_cases he:Lib.itoa ((valF 0 (c::r):Nat):Int)=c::r
     ·have:(Lib.itoa ((valF 0 (c::r):Nat):Int)==c::r)=true:=by simpa using he
      simp only[he,beq_self_eq_true,Bool.not_true,bfT,if_false,if_true]
     ·have:(Lib.itoa ((valF 0 (c::r):Nat):Int)==c::r)=false:=by simpa using he
      simp only[this,he,Bool.not_false,if_true,if_false]
    ·simp only[hd,bfT,if_false,obS]
theorem Up{s:List UInt8}(hl:s.length<=1048576):Jw s=some (CD s):=by
 unfold Jw;rw[if_pos (by omega)]
theorem QP{s:List UInt8}(h:(CD s).2=true):Lib.itoa (CD s).1=s∧Pk (CD s).1:=by
 cases s with
 | nil=>simp[CD,Lib.trimPrefix,Lib.hasPrefix] at h
 | cons c r=>
  by_cases hc:c=45
  ·subst hc;rw[OK] at h ⊢;split at h
   ·cases h
   ·rename_i hb;rw[if_neg hb];split at h
    ·rename_i hd;rw[if_pos hd];split at h
     ·rename_i he;rw[if_pos he];have hv:=PF (l:=r) (n:=0) (a:=0) (by simp) hd;have hv2:=IM (k:=0+r.length) (by omega);exact⟨he,by show -9223372036854775808<=-((valF 0 r:Nat):Int);omega,by show -((valF 0 r:Nat):Int)<=9223372036854775807;omega⟩
     ·cases h
    ·cases h
  ·rw[Lo hc] at h ⊢;split at h
   ·cases h
   ·rename_i hb;rw[if_neg hb];split at h
    ·rename_i hd;rw[if_pos hd];split at h
     ·rename_i he;rw[if_pos he];have hv:=PF (l:=c::r) (n:=0) (a:=0) (by simp) hd;have hv2:=IM (k:=0+(c::r).length) (by omega);exact⟨he,by show -9223372036854775808<=((valF 0 (c::r):Nat):Int);omega,by show ((valF 0 (c::r):Nat):Int)<=9223372036854775807;omega⟩
     ·cases h
    ·cases h
theorem vZ(n:Nat)(a b:List UInt8):valF n (a++b)=valF (valF n a) b:=by unfold valF;rw[List.foldl_append]
theorem WG:∀ (k u:Nat),u<10^(k+1)->valF 0 (Lib.decDigits u)=u
 | 0,u,h=>by
  have h:u<10:=by simpa using h
  rw[Lib.decDigits_one h,LA,MQ,UInt8.toNat_ofNat'];omega
 | k+1,u,h=>by
  by_cases c:u<10
  ·rw[Lib.decDigits_one c,LA,MQ,UInt8.toNat_ofNat'];omega
  ·rw[Lib.decDigits,dif_neg c,vZ,WG k (u/10) (by rw[Nat.pow_succ] at h;omega),LA,MQ,UInt8.toNat_ofNat'];omega
theorem LP(u:Nat):Lib.itoa (u:Int)=Lib.decDigits u:=by unfold Lib.itoa;rw[if_neg (by omega)];simp
theorem ip{n:Int}(h0:0<=n)(h1:n<=65520):CD (Lib.itoa n)=(n,true):=by
 obtain⟨u,rfl⟩:=Int.eq_ofNat_of_zero_le h0;rw[LP];have hl:=Lib.decDigits_length u;have hn:=LM 4 u (by omega);have hne:=Ks u;have hall:=PS u;have hval:=WG 4 u (by omega);cases hd:Lib.decDigits u with
 | nil=>rw[hd] at hne;exact absurd hne (by simp)
 | cons c r=>
  rw[hd] at hl hall hval hne
  have hc:c≠45:=fun e=>by
   subst e;have:Vu 45=true:=(List.all_eq_true.1 hall) 45 (by simp);exact absurd this (by decide)
  rw[Lo hc,if_neg (by omega),if_pos hall,hval,if_pos (by rw[LP,hd])]
theorem cP{n:Int}(h0:-1000000000000000000<n)(h1:n<1000000000000000000):CD (Lib.itoa n)=(n,true):=by
 by_cases hn:0<=n
 ·obtain⟨u,rfl⟩:=Int.eq_ofNat_of_zero_le hn;rw[LP];have hl:=Lib.decDigits_length u;have hnd:=LM 17 u (by omega);have hne:=Ks u;have hall:=PS u;have hval:=WG 17 u (by omega);cases hd:Lib.decDigits u with
  | nil=>rw[hd] at hne;exact absurd hne (by simp)
  | cons c r=>
   rw[hd] at hl hall hval hne
   have hc:c≠45:=fun e=>by
    subst e;have:Vu 45=true:=(List.all_eq_true.1 hall) 45 (by simp);exact absurd this (by decide)
   rw[Lo hc,if_neg (by omega),if_pos hall,hval,if_pos (by rw[LP,hd])]
 ·obtain⟨u,hu⟩:=Int.eq_ofNat_of_zero_le (show 0<=-n by omega);obtain rfl:n=-(u:Int):=by omega
  have e:Lib.itoa (-(u:Int))=45::Lib.decDigits u:=by unfold Lib.itoa;rw[if_pos (by omega)];simp
  rw[e];have hl:=Lib.decDigits_length u;have hnd:=LM 17 u (by omega);have hne:=Ks u;have hall:=PS u;have hval:=WG 17 u (by omega);rw[OK,if_neg (by omega),if_pos hall,hval,if_pos e]
def IP(e:Ac):Bool:=((decide (0<=e.Day)&&decide (e.Day<=100000))&&JV e.What)&&(decide (-1000000<=e.Value)&&decide (e.Value<=1000000))
theorem yf(e:Ac):Ir e=some (IP e):=by
 unfold Ir IP;simp only[Lk,Lz,LJ,obS,Option.isSome_some,Option.getD_some,Bool.or_true,AG]
theorem Pz(e:Ac):EQ e=some (IP e):=by
 unfold EQ IP;simp only[GF,Ge,obS,Option.isSome_some,Option.getD_some,Bool.or_true,AG]
theorem Ud{s:List UInt8}(h:JV s=true):1<=s.length∧s.length<=12:=by
 unfold JV at h;simp only[baT,dtE] at h;exact⟨h.1,h.2.1⟩
theorem RL{e:Ac}(h:IP e=true):0<=e.Day∧e.Day<=100000∧e.What.length<=12∧-1000000<=e.Value∧e.Value<=1000000:=by
 unfold IP at h;simp only[baT,dtE] at h;obtain⟨⟨⟨h1,h2⟩,h3⟩,h4,h5⟩:=h;exact⟨h1,h2,(Ud h3).2,h4,h5⟩
def Hw(e:Ac):List UInt8:=(((Lib.itoa e.Day++[32])++e.What)++[32])++Lib.itoa e.Value
theorem Ky{e:Ac}(h:IP e=true):(Hw e).length<=60:=by
 obtain⟨h1,h2,h3,h4,h5⟩:=RL h;have l1:=Hy (n:=e.Day) ⟨by omega,by omega⟩;have l2:=Hy (n:=e.Value) ⟨by omega,by omega⟩;simp only[Hw,List.length_append,List.length_cons,List.length_nil];omega
theorem VP{e:Ac}(h:IP e=true):Ha e=some (Hw e):=by
 obtain⟨h1,h2,h3,h4,h5⟩:=RL h;have l1:=Hy (n:=e.Day) ⟨by omega,by omega⟩;have l2:=Hy (n:=e.Value) ⟨by omega,by omega⟩;unfold Ha;rw[Mb (n:=e.Day) ⟨by omega,by omega⟩,Mb (n:=e.Value) ⟨by omega,by omega⟩];simp only[obS];rw[BR (by simp;omega),AG,BR (by simp;omega),AG,BR (by simp;omega),AG,BR (by simp;omega),AG];rfl
theorem YS{e:Ac}(h:IP e=true):Ds e=some (Hw e):=by
 obtain⟨h1,h2,h3,h4,h5⟩:=RL h;have l1:=Hy (n:=e.Day) ⟨by omega,by omega⟩;have l2:=Hy (n:=e.Value) ⟨by omega,by omega⟩;unfold Ds;rw[KA (n:=e.Day) ⟨by omega,by omega⟩,KA (n:=e.Value) ⟨by omega,by omega⟩];simp only[obS];rw[BR (by simp;omega),AG,BR (by simp;omega),AG,BR (by simp;omega),AG,BR (by simp;omega),AG];rfl
theorem lN(w:List UInt8):KD w (w.length:Int)=DP w:=id rfl
theorem lO{w:List UInt8}(hl:w.length<=1099511627776){n:Int}(h0:0<=n)(h1:n<=65520):∃ s,AS (DP w) (n,0)=some s∧0<=s∧s<=65520 :=
 CT (step:=DP w) (fun s=>0<=s.1∧s.1<=65520∧∃ i:Nat,s.2=(i:Int)∧i<=w.length) (fun s=>0<=s∧s<=65520) (fun s=>w.length-s.2.toNat) (by
  rintro⟨s,ii⟩ ⟨h1,h2,i,rfl,hi⟩;simp only at h1 h2
  by_cases h:i<w.length
  ·left;have hb:=vg (w.getD i 0);have w1:i64.wrap (31*s)=31*s:=wrap_i64 (by omega) (by omega);have w2:i64.wrap (31*s+((w.getD i 0).toNat:Int))=31*s+((w.getD i 0).toNat:Int):=wrap_i64 (by omega) (by omega);have t1:(31*s+((w.getD i 0).toNat:Int)).tmod 65521=(31*s+((w.getD i 0).toNat:Int))%65521:=Int.tmod_eq_emod_of_nonneg (by omega);simp only[DP,Int.ofNat_lt,h,decide_true,if_true,Av,AG,tnC,At (show i<9223372036854775807 by omega),MY (show (65521:Int)≠0 by decide),w1,w2,t1];exact⟨_,rfl,⟨by show 0<=_%65521;omega,by show _%65521<=65520;omega,i+1,rfl,by omega⟩,by simp only[tnC];omega⟩
  ·right;exact⟨s,by simp[DP,h],h1,h2⟩) (s:=(n,0)) ⟨h0,h1,0,rfl,by omega⟩
theorem wE{e:Ac}(h:IP e=true){n:Int}(h0:0<=n)(h1:n<=65520):∃ s,Hb n (Hw e)=some s∧Gv n e=some s∧0<=s∧s<=65520:=by
 have w1:i64.wrap (n+23)=n+23:=wrap_i64 (by omega) (by omega);have t1:(n+23).tmod 65521=(n+23)%65521:=Int.tmod_eq_emod_of_nonneg (by omega);have hl:=Ky h;obtain⟨s,hs,s0,s1⟩:=lO (w:=Hw e) (by omega) (n:=(n+23)%65521) (by omega) (by omega);refine⟨s,?_,?_,s0,s1⟩
 ·unfold Hb;rw[MY (show (65521:Int)≠0 by decide),AG,w1,t1,hs];rfl
 ·unfold Gv;rw[MY (show (65521:Int)≠0 by decide),AG,YS h];simp only[obS,lN,w1,t1,hs]
def Cf (last:Int) (e:Ac):Int:=(Gv last e).getD 0
theorem Jr{e:Ac}(h:IP e=true){n:Int}(h0:0<=n)(h1:n<=65520):Hb n (Hw e)=some (Cf n e)∧Gv n e=some (Cf n e)∧0<=Cf n e∧Cf n e<=65520:=by
 obtain⟨s,h2,h3,h4,h5⟩:=wE h h0 h1;have:Cf n e=s:=by unfold Cf;rw[h3];rfl
 rw[this];exact⟨h2,h3,h4,h5⟩
theorem mn{e:Ac}(h:IP e=true){n:Int}(h0:0<=n)(h1:n<=65520):JN n e=some (((Hw e++[32])++Lib.itoa n)++[10]):=by
 have l1:=Ky h;have l2:=Hy (n:=n) ⟨by omega,by omega⟩;unfold JN;rw[VP h,Mb (n:=n) ⟨by omega,by omega⟩];simp only[obS];rw[BR (by simp;omega),AG,BR (by simp;omega),AG,BR (by simp;omega),AG]
theorem tL{e:Ac}(h:IP e=true){n:Int}(h0:0<=n)(h1:n<=65520):KO e n=some (((Hw e++[32])++Lib.itoa n)++[10]):=by
 have l1:=Ky h;have l2:=Hy (n:=n) ⟨by omega,by omega⟩;unfold KO;rw[YS h,KA (n:=n) ⟨by omega,by omega⟩];simp only[obS];rw[BR (by simp;omega),AG,BR (by simp;omega),AG,BR (by simp;omega),AG]
def LO(st:Int)(e:Ac):List UInt8:=(Hw e++[32])++Lib.itoa st
def FL:Int->List Ac->List UInt8
 | _,[]=>[]
 | last,e::es=>LO (Cf last e) e++10::FL (Cf last e) es
theorem tJ{e:Ac}(h:IP e=true){st:Int}(h0:0<=st)(h1:st<=65520):1<=(LO st e).length∧(LO st e).length<=100:=by
 have l1:=Ky h;have l2:=Hy (n:=st) ⟨by omega,by omega⟩;simp only[LO,List.length_append,List.length_singleton];omega
theorem cY:∀ (es:List Ac) (last:Int),(∀ e,e∈es->IP e=true)->0<=last->last<=65520->es.length<=(FL last es).length∧(FL last es).length<=101*es.length
 | [],_,_,_,_=>⟨Nat.le_refl _,by simp[FL]⟩
 | e::es,last,ho,h0,h1=>by
  have hone:=ho e (by simp);obtain⟨_,_,s0,s1⟩:=Jr hone h0 h1;have ih:=cY es (Cf last e) (fun x hx=>ho x (by simp[hx])) s0 s1;have hl:=tJ hone s0 s1;simp only[FL,List.length_append,List.length_cons];omega
def Ys (last day:Int) (p0 p1 p2 p3:List UInt8):Option (Ac×Int) :=
 if ((((CD p0).2&&(CD p2).2)&&IP ⟨(CD p0).1,p1,(CD p2).1⟩)&&decide (day<=(CD p0).1))&&decide (Lib.itoa (Cf last ⟨(CD p0).1,p1,(CD p2).1⟩)=p3)
 then some (⟨(CD p0).1,p1,(CD p2).1⟩,Cf last ⟨(CD p0).1,p1,(CD p2).1⟩) else none
def psP (last day:Int):List (List UInt8)->Option (Ac×Int)
 | [p0,p1,p2,p3]=>Ys last day p0 p1 p2 p3
 | _=>none
theorem wj{last day:Int}{ps:List (List UInt8)}(h:ps.length≠4):psP last day ps=none:=by
 unfold psP;split
 ·exact absurd rfl h
 ·rfl
def ZA (last day:Int) (line:List UInt8):Option (Ac×Int):=psP last day (DX 32 line)
def Li (log:List UInt8) (i:Nat) (last day:Int):Option (Nat×Ac×Int) :=
 match Lib.cut (log.drop i) [10] with
 | (line,_,true)=>(ZA last day line).map fun q=>(i+line.length+1,q.1,q.2)
 | _=>none
def Dl(es:List Ac):Int:=if es.length=0 then 0 else (es.getD (es.length-1) default).Day
theorem aJ(es:List Ac)(e:Ac):Dl (es++[e])=e.Day:=by
 unfold Dl;rw[if_neg (by simp)];simp
theorem iV{log:List UInt8}{i:Nat}{last day:Int}{i':Nat}{e:Ac}{m:Int}(h:Li log i last day=some (i',e,m))(h0:0<=last)(h1:last<=65520)(hi:i<=log.length):
  i<i'∧i'<=log.length∧0<=m∧m<=65520∧IP e=true∧day<=e.Day:=by
 unfold Li at h;split at h
 ·rename_i line x hc;rw[Option.map_eq_some_iff] at h;obtain⟨⟨e',m'⟩,hl,he⟩:=h;simp only[Prod.mk.injEq] at he;obtain⟨rfl,rfl,rfl⟩:=he;unfold ZA psP at hl;split at hl
  ·unfold Ys at hl;split at hl
   ·rename_i hb;cases hl
    simp only[baT,dtE] at hb;obtain⟨⟨⟨_,hone⟩,hday⟩,_⟩:=hb;obtain⟨_,_,s0,s1⟩:=Jr hone h0 h1;refine⟨by omega,?_,s0,s1,hone,hday⟩;rcases IV 10 (log.drop i) with⟨_,hn⟩|⟨a,b,hab,hn,_⟩
    ·rw[aK hn] at hc;cases hc
    ·rw[hab,PT hn] at hc;cases hc
     have:=congrArg List.length hab;simp only[List.length_drop,List.length_append,List.length_cons] at this;omega
   ·cases hl
  ·cases hl
 ·cases h
def Qy (log:List UInt8):Nat->List Ac×Nat×Int->List Ac×Nat×Int
 | 0,s=>s
 | f+1,s=>match Li log s.2.1 s.2.2 (Dl s.1) with
  | none=>s
  | some q=>Qy log f (s.1++[q.2.1],q.1,q.2.2)
def Et (log:List UInt8):List Ac×Nat×Int:=Qy log (log.length+1) ([],0,0)
structure Te(log:List UInt8)(s:List Ac×Nat×Int):Prop where
 at_:s.2.1<=log.length
 few:s.1.length<=s.2.1
 lo:0<=s.2.2
 hi:s.2.2<=65520
 ok:∀ e,e∈s.1->IP e=true
theorem Te.step{log:List UInt8}{s:List Ac×Nat×Int}(h:Te log s){q:Nat×Ac×Int}(hq:Li log s.2.1 s.2.2 (Dl s.1)=some q):Te log (s.1++[q.2.1],q.1,q.2.2):=by
 obtain⟨i',e,m⟩:=q;obtain⟨h1,h2,h3,h4,h5,h6⟩:=iV hq h.lo h.hi h.at_;have:=h.few;refine⟨h2,by simp;omega,h3,h4,fun x hx=>?_⟩;rcases List.mem_append.1 hx with hx|hx
 ·exact h.ok x hx
 ·rw[List.mem_singleton.1 hx];exact h5
theorem cL{log:List UInt8}:∀ (f:Nat) {s:List Ac×Nat×Int},Te log s->Te log (Qy log f s)
 | 0,_,h=>h
 | f+1,s,h=>by
  unfold Qy;split
  ·exact h
  ·rename_i q hq;exact cL f (h.step hq)
theorem UN(log:List UInt8):Te log ([],0,0):=⟨Nat.zero_le _,Nat.le_refl _,Int.le_refl _,by decide,fun e he=>by simp at he⟩
theorem RQ(log:List UInt8):Te log (Et log):=cL _ (UN log)
theorem UW{σ ρ:Type}{step:σ->Option (σ⊕ρ)}{log:List UInt8}(E:List Ac×Nat×Int->σ)(R:List Ac×Nat×Int->ρ)
  (hs:∀ s,Te log s->step (E s)=match Li log s.2.1 s.2.2 (Dl s.1) with
   | none=>some (.inr (R s))
   | some q=>some (.inl (E (s.1++[q.2.1],q.1,q.2.2)))) :
  ∀ (f:Nat) (s:List Ac×Nat×Int),Te log s->log.length<f+s.2.1->AS step (E s)=some (R (Qy log f s))
 | 0,s,h,hf=>by have:=h.at_;omega
 | f+1,s,h,hf=>by
  have h1:=hs s h;unfold Qy;cases hq:Li log s.2.1 s.2.2 (Dl s.1) with
  | none=>rw[hq] at h1;exact Cm h1
  | some q=>
   rw[hq] at h1;rw[Dh h1];obtain⟨g1,_⟩:=iV (i':=q.1) (e:=q.2.1) (m:=q.2.2) hq h.lo h.hi h.at_;exact UW E R hs f _ (h.step hq) (by show log.length<f+q.1;omega)
theorem zt{s a r:List UInt8}{i j:Nat}(h:s.drop i=a++r)(hj:j<a.length):i+j<s.length∧s.getD (i+j) 0=a.getD j 0:=by
 have hl:=congrArg List.length h;simp only[List.length_drop,List.length_append] at hl;refine⟨by omega,?_⟩;have:=congrArg (fun l=>l[j]?) h;simp only[List.getElem?_drop] at this;rw[gdE,this,List.getElem?_append_left hj,gdE]
theorem kF{R:Hu}{i:Nat}{a r:List UInt8}(hd:R.s_.drop i=a++r)(h10:10 ∉ a)(hr:r=[]∨∃ b,r=10::b)(hi:i<=R.s_.length)(hl:R.s_.length<=1048576)(t2:Bool):
  AS (Cn R t2) (i:Int)=some ((i+a.length:Nat):Int):=by
 have hlen:=congrArg List.length hd;simp only[List.length_drop,List.length_append] at hlen;have:=YU (step:=Cn R t2) (fun j=>((i+j:Nat):Int)) a.length (r:=((i+a.length:Nat):Int)) (fun j hj=>?_) ?_
 ·exact this
 ·obtain⟨h1,h2⟩:=zt hd hj
  have hne:(((a.getD j 0).toNat:Int)==10)=false:=by
   rw[beq_eq_false_iff_ne];intro c;refine h10 ?_;have hm:a.getD j 0∈a:=by rw[gdE,geE hj];exact List.getElem_mem hj
   have:a.getD j 0=10:=by rw[← UInt8.toNat_inj];exact Int.ofNat.inj c
   rwa [this] at hm
  simp only[Cn,Int.ofNat_lt,h1,decide_true,Av,Bool.not_true,Bool.or_true,AG,tnC,h2,hne,Bool.not_false,Bool.and_self,if_true,At (show i+j<9223372036854775807 by omega),Nat.add_assoc]
 ·rcases hr with rfl|⟨b,rfl⟩
  ·have e:¬ (i+a.length<R.s_.length):=by simp at hlen;omega
   simp only[Cn,Int.ofNat_lt,e,decide_false,Bool.not_false,Bool.true_or,AG,Bool.false_and,bfT,if_false]
  ·simp only[List.length_cons] at hlen;have h1:i+a.length<R.s_.length:=by omega
   have h2:R.s_.getD (i+a.length) 0=10:=by
    have:=congrArg (fun l=>l[a.length]?) hd;simp only[List.getElem?_drop] at this;rw[gdE,this,List.getElem?_append_right (Nat.le_refl _)];simp
   have e10:(((10:UInt8).toNat:Int)==10)=true:=rfl;simp only[Cn,Int.ofNat_lt,h1,decide_true,Av,Bool.not_true,Bool.or_true,AG,tnC,h2,e10,Bool.and_false,bfT,if_false]
theorem AAB{s a r:List UInt8}{i:Nat}(h:s.drop i=a++r):cut s (i:Int) ((i+a.length:Nat):Int)=a:=by
 simp only[cut,tnC];rw[List.drop_take,h];simp
theorem AAA{s:List UInt8}{i:Nat}:cut s (i:Int) (s.length:Int)=s.drop i:=by
 simp[cut]
def bG(log:List UInt8)(s:List Ac×Nat×Int):Hu:=⟨log,(s.2.1:Int),s.2.2,s.1⟩
theorem AJE{log:List UInt8}{s:List Ac×Nat×Int}(hl:s.1.length<=1048576):Hc (bG log s)=some (Dl s.1):=by
 unfold Hc Dl bG
 by_cases h:s.1.length=0
 ·simp[h]
 ·have e:(((s.1.length:Nat):Int)==0)=false:=by rw[beq_eq_false_iff_ne];omega
  have w:i64.wrap ((s.1.length:Int)-1)=((s.1.length-1:Nat):Int):=by rw[wrap_i64 (by omega) (by omega)];omega
  simp only[e,bfT,if_false,w,if_neg h,tnC];rw[CX (by omega) (by omega),AG]
theorem ce{p0 p1 p2 p3:List UInt8}:NZ 32 [p0,p1,p2,p3]=p0++32::(p1++32::(p2++32::p3)):=rfl
theorem Ya{a p0 p1 p2 p3:List UInt8}(h:DX 32 a=[p0,p1,p2,p3]):a=p0++32::(p1++32::(p2++32::p3)):=by
 have:=MH 32 a [];rw[List.nil_append] at this;rw[← this,← ce,← h];rfl
theorem aA{ps:List (List UInt8)}(h:ps.length=4):∃ p0 p1 p2 p3,ps=[p0,p1,p2,p3]:=by
 match ps,h with
 | [p0,p1,p2,p3],_=>exact⟨p0,p1,p2,p3,rfl⟩
theorem ACL{log:List UInt8}{s:List Ac×Nat×Int}(h:Te log s)(hl:log.length<=1048576):
  GS (bG log s)=match Li log s.2.1 s.2.2 (Dl s.1) with
   | none=>some (false,bG log s)
   | some q=>some (true,bG log (s.1++[q.2.1],q.1,q.2.2)):=by
 obtain⟨es,i,last⟩:=s;have hi:i<=log.length:=h.at_;have hfew:es.length<=i:=h.few;have h0:0<=last:=h.lo;have h1:last<=65520:=h.hi;have hday:=AJE (log:=log) (s:=(es,i,last)) (by show es.length<=1048576;omega);unfold GS HE Li;simp only;rcases IV 10 (log.drop i) with⟨_,hn⟩|⟨a,b,hab,hn,_⟩
 ·have hw:=kF (R:=bG log (es,i,last)) (a:=log.drop i) (r:=[]) (by simp[bG]) hn (.inl rfl) hi hl false;have e:i+(log.drop i).length=log.length:=by simp;omega
  rw[e] at hw;rw[show (bG log (es,i,last)).at_=(i:Int) from rfl,hw,aK hn];have e2:decide (((bG log (es,i,last)).s_.length:Int)<=((log.length:Nat):Int))=true:=by simp[bG]
  simp only[obS,e2,if_true]
 ·have hw:=kF (R:=bG log (es,i,last)) (a:=a) (r:=10::b) hab hn (.inr ⟨b,rfl⟩) hi hl false;have hlen:=congrArg List.length hab;simp only[List.length_drop,List.length_append,List.length_cons] at hlen;rw[show (bG log (es,i,last)).at_=(i:Int) from rfl,show (bG log (es,i,last)).s_=log from rfl,show (bG log (es,i,last)).stamp_=last from rfl,show (bG log (es,i,last)).list_=es from rfl,hw,hab,PT hn];have e2:decide ((log.length:Int)<=((i+a.length:Nat):Int))=false:=by simp;omega
  simp only[obS,e2,bfT,if_false];rw[KR (by omega) (by omega) (by omega),AG,AAB hab,jQ 32 (by omega)];simp only[obS];unfold ZA
  by_cases hps:(DX 32 a).length=4
  ·obtain⟨p0,p1,p2,p3,hsp⟩:=aA hps;have ha:=Ya hsp;have hla:=congrArg List.length ha;simp only[List.length_append,List.length_cons] at hla;rw[hsp];have q0:[p0,p1,p2,p3].getD 0 default=p0:=rfl;have q1:[p0,p1,p2,p3].getD 1 default=p1:=rfl;have q2:[p0,p1,p2,p3].getD 2 default=p2:=rfl;have k0:BC 0 [p0,p1,p2,p3].length=true:=rfl;have k1:BC 1 [p0,p1,p2,p3].length=true:=rfl;have k2:BC 2 [p0,p1,p2,p3].length=true:=rfl;have k4:((([p0,p1,p2,p3].length:Nat):Int)==4)=true:=rfl;simp only[k4,Bool.not_true,bfT,if_false,k0,k1,k2,q0,q1,q2,AG];rw[RR (s:=p0) (by omega),RR (s:=p2) (by omega)];simp only[obS,yf,hday,Option.isSome_some,Bool.or_true,AG,Option.getD_some];unfold psP Ys;simp only;generalize hd:(CD p0).1=d;generalize hv:(CD p2).1=v
   by_cases hc:((((CD p0).2&&(CD p2).2)&&IP ⟨d,p1,v⟩)&&decide (Dl es<=d))=true
   ·have hc2:((((!(CD p0).2)||(!(CD p2).2))||(!(IP ⟨d,p1,v⟩)))||decide (d<Dl es))=false:=by
     simp only[baT,dtE] at hc;obtain⟨⟨⟨c1,c2⟩,c3⟩,c4⟩:=hc;simp only[c1,c2,c3,Bool.not_true,Bool.or_self,Bool.false_or,decide_eq_false_iff_not];omega
    rw[hc,hc2];simp only[baT,dtE] at hc;obtain⟨⟨⟨c1,c2⟩,c3⟩,c4⟩:=hc;obtain⟨s1,s2,s3,s4⟩:=Jr c3 h0 h1;have e0:=(QP c1).1;have e2:=(QP c2).1;rw[hd] at e0;rw[hv] at e2;simp only[bfT,if_false,VP c3,obS,s1,mn c3 s3 s4]
    have w:i64.wrap (((i+a.length:Nat):Int)+1)=((i+(a++[10]).length:Nat):Int):=by
     rw[At (by omega)];simp[Nat.add_assoc]
    rw[w,KR (by omega) (by omega) (by simp;omega),AG,AAB (a:=a++[10]) (r:=b) (by rw[hab];simp)]
    have heq:((((Hw ⟨d,p1,v⟩++[32])++Lib.itoa (Cf last ⟨d,p1,v⟩))++[10])==a++[10])=decide (Lib.itoa (Cf last ⟨d,p1,v⟩)=p3):=by
     rw[Bool.eq_iff_iff,beq_iff_eq,dtE,List.append_cancel_right_eq,ha];simp only[Hw,e0,e2,List.append_assoc,List.singleton_append,List.cons_append,List.nil_append];constructor
     ·intro h;have h:=List.append_cancel_left h;have h:=List.append_cancel_left (List.cons.inj h).2;have h:=List.append_cancel_left (List.cons.inj h).2;exact (List.cons.inj h).2
     ·intro h;rw[h]
    rw[heq]
    by_cases hp:Lib.itoa (Cf last ⟨d,p1,v⟩)=p3
    ·simp only[hp,decide_true,Bool.not_true,bfT,if_false,Bool.and_self,if_true,Option.map_some,obS];rw[DM (by simp;omega),AG];rw[At (show i+a.length<9223372036854775807 by omega)];rfl
    ·simp only[hp,decide_false,Bool.not_false,if_true,Bool.and_false,bfT,if_false,Option.map_none,obS]
   ·have hc1:=Bool.eq_false_iff.2 hc
    have hc2:((((!(CD p0).2)||(!(CD p2).2))||(!(IP ⟨d,p1,v⟩)))||decide (d<Dl es))=true:=by
     have e:decide (d<Dl es) = !decide (Dl es<=d):=by
      by_cases c:Dl es<=d
      ·simp[c,Int.not_lt.2 c]
      ·simp[c,Int.not_le.1 c]
     rw[e,← Bool.not_and,← Bool.not_and,← Bool.not_and,hc1];rfl
    rw[hc1,hc2];simp only[if_true,Bool.false_and,bfT,if_false,Option.map_none,obS]
  ·have k4:(((((DX 32 a).length:Nat):Int))==4)=false:=by rw[beq_eq_false_iff_ne];omega
   simp only[k4,Bool.not_false,if_true,wj hps,Option.map_none,obS]
theorem mm{log:List UInt8}(hl:log.length<=1048576):Fh log=some (bG log (Et log)):=by
 unfold Fh
 exact UW (step:=FT) (log:=log) (fun s=>bG log s) (fun s=>bG log s) (fun s hs=>by
  show (GS (bG log s)).bind _=_;rw[ACL hs hl];cases Li log s.2.1 s.2.2 (Dl s.1) with
  | none=>rfl
  | some q=>rfl) (log.length+1) ([],0,0) (UN log) (by show log.length<log.length+1+0;omega)
theorem AAS{a b c o t z:Bool}(h:(c&&z)=false):(((((a&&b)&&c)&&o)&&t)&&z)=false:=by
 revert h;cases a<;>cases b<;>cases c<;>cases o<;>cases t<;>cases z<;>simp
theorem Qz{line:List UInt8}(hl:line.length<=1048576):
  ∃ e m ok,IA line=some (e,m,ok)∧∀ last day:Int,0<=last->last<=65520 ->
   ((ok&&decide (day<=e.Day))=true->IP e=true) ∧
   ZA last day line=if (ok&&decide (day<=e.Day))&&decide (m=Cf last e) then some (e,m) else none:=by
 unfold IA ZA;rw[Zu (by omega)];simp only[obS]
 by_cases hps:(DX 32 line).length=4
 ·obtain⟨p0,p1,p2,p3,hsp⟩:=aA hps;have ha:=Ya hsp;have hla:=congrArg List.length ha;simp only[List.length_append,List.length_cons] at hla;rw[hsp];have q0:[p0,p1,p2,p3].getD 0 default=p0:=rfl;have q1:[p0,p1,p2,p3].getD 1 default=p1:=rfl;have q2:[p0,p1,p2,p3].getD 2 default=p2:=rfl;have q3:[p0,p1,p2,p3].getD 3 default=p3:=rfl;have k0:BC 0 [p0,p1,p2,p3].length=true:=rfl;have k1:BC 1 [p0,p1,p2,p3].length=true:=rfl;have k2:BC 2 [p0,p1,p2,p3].length=true:=rfl;have k3:BC 3 [p0,p1,p2,p3].length=true:=rfl;have k4:((([p0,p1,p2,p3].length:Nat):Int)==4)=true:=rfl;simp only[k4,Bool.not_true,bfT,if_false,k0,k1,k2,k3,q0,q1,q2,q3,AG];rw[Up (s:=p0) (by omega),Up (s:=p2) (by omega),Up (s:=p3) (by omega)];simp only[obS,Pz,Option.isSome_some,Bool.or_true,AG,Option.getD_some];refine⟨_,_,_,rfl,fun last day h0 h1=>?_⟩;unfold psP Ys;simp only;generalize hd:(CD p0).1=d;generalize hv:(CD p2).1=v;refine⟨fun h=>?_,?_⟩
  ·simp only[baT] at h;exact h.1.2
  ·by_cases hone:IP ⟨d,p1,v⟩=true
   ·obtain⟨_,_,s3,s4⟩:=Jr hone h0 h1
    by_cases hp:Lib.itoa (Cf last ⟨d,p1,v⟩)=p3
    ·have hr:CD p3=(Cf last ⟨d,p1,v⟩,true):=by rw[← hp];exact ip s3 s4
     simp only[hr,hp,decide_true,Bool.and_true]
    ·have hn:((CD p3).2&&decide ((CD p3).1=Cf last ⟨d,p1,v⟩))=false:=by
      cases c:(CD p3).2 with
      | false=>rfl
      | true=>
       rw[Bool.true_and,decide_eq_false_iff_not];intro e;exact hp (by rw[← e];exact (QP c).1)
     have hn2:((((((CD p0).2&&(CD p2).2)&&(CD p3).2)&&IP ⟨d,p1,v⟩)&&decide (day<=d))&&decide ((CD p3).1=Cf last ⟨d,p1,v⟩))=false:=AAS hn;simp only[hp,decide_false,Bool.and_false,bfT,if_false];rw[hn2];rfl
   ·have hone:=Bool.eq_false_iff.2 hone;simp only[hone,Bool.and_false,Bool.false_and,bfT,if_false]
 ·have k4:(((((DX 32 line).length:Nat):Int))==4)=false:=by rw[beq_eq_false_iff_ne];omega
  simp only[k4,Bool.not_false,if_true,wj hps];refine⟨_,_,_,rfl,fun last day _ _=>⟨fun h=>?_,?_⟩⟩
  ·simp at h
  ·simp
theorem ex{log:List UInt8}{s:List Ac×Nat×Int}(h:Te log s)(hl:log.length<=1048576):
  EP log (s.1,(s.2.1:Int),s.2.2,Dl s.1)=match Li log s.2.1 s.2.2 (Dl s.1) with
   | none=>some (.inr (s.1,(s.2.1:Int),s.2.2))
   | some q=>some (.inl (s.1++[q.2.1],(q.1:Int),q.2.2,Dl (s.1++[q.2.1]))):=by
 obtain⟨es,i,last⟩:=s;have hi:i<=log.length:=h.at_;have hfew:es.length<=i:=h.few;have h0:0<=last:=h.lo;have h1:last<=65520:=h.hi;unfold EP Li;simp only;rw[KR (by omega) (by omega) (by omega),AG,AAA,jj (by simp;omega)];simp only[obS];rcases IV 10 (log.drop i) with⟨_,hn⟩|⟨a,b,hab,hn,_⟩
 ·rw[aK hn];obtain⟨e,m,ok,he,_⟩:=Qz (line:=log.drop i) (by simp;omega);simp only[he,obS,Bool.not_false,Bool.true_or,Bool.not_true,Bool.false_or,AG,if_true]
 ·have hlen:=congrArg List.length hab;simp only[List.length_drop,List.length_append,List.length_cons] at hlen;rw[hab,PT hn];obtain⟨e,m,ok,he,hP⟩:=Qz (line:=a) (by omega);obtain⟨hone,hP⟩:=hP last (Dl es) h0 h1;simp only[he,obS,hP,Bool.not_true,Bool.false_or]
  by_cases hc:(ok&&decide (Dl es<=e.Day))=true
  ·have hone:=hone hc;obtain⟨s1,s2,s3,s4⟩:=Jr hone h0 h1
   have hc2:((!ok)||decide (e.Day<Dl es))=false:=by
    simp only[baT,dtE] at hc;simp only[hc.1,Bool.not_true,Bool.false_or,decide_eq_false_iff_not];omega
   simp only[hc2,hc,s2,Option.isSome_some,Bool.or_true,AG,Option.getD_some,Bool.false_or,Bool.true_and]
   by_cases hm:m=Cf last e
   ·have e1:(m==Cf last e)=true:=by rw[hm];exact beq_self_eq_true _
    simp only[e1,hm,decide_true,Bool.not_true,bfT,if_false,if_true,Option.map_some];rw[DM (by simp;omega),AG,aJ,At (show a.length<9223372036854775807 by omega),wrap_i64 (by omega) (by omega)];simp[Nat.add_assoc]
   ·have e1:(m==Cf last e)=false:=beq_eq_false_iff_ne.2 hm;simp only[e1,hm,decide_false,Bool.not_false,if_true,bfT,if_false,Option.map_none]
  ·have hc:=Bool.eq_false_iff.2 hc
   have hc2:((!ok)||decide (e.Day<Dl es))=true:=by
    have e2:decide (e.Day<Dl es) = !decide (Dl es<=e.Day):=by
     by_cases c:Dl es<=e.Day
     ·simp[c,Int.not_lt.2 c]
     ·simp[c,Int.not_le.1 c]
    rw[e2,← Bool.not_and,hc];rfl
   simp only[hc2,hc,Bool.not_true,Bool.false_or,AG,Bool.true_or,if_true,Bool.false_and,bfT,if_false,Option.map_none];rfl
theorem lY{log:List UInt8}(hl:log.length<=1048576):Jc log=some ((Et log).1,((Et log).2.1:Int),(Et log).2.2):=by
 unfold Jc;have:=UW (step:=EP log) (log:=log) (fun s=>(s.1,(s.2.1:Int),s.2.2,Dl s.1)) (fun s=>(s.1,(s.2.1:Int),s.2.2)) (fun s hs=>ex hs hl) (log.length+1) ([],0,0) (UN log) (by show log.length<log.length+1+0;omega);rw[show AS (EP log) (([]:List Ac),0,0,0)=_ from this];rfl
def Ie (log:List UInt8):Int:=if 4000<log.length then 5 else if (Et log).2.1=log.length then 0 else 8
theorem gS{log:List UInt8}(h:Ie log=0):log.length<=4000∧(Et log).2.1=log.length∧(Et log).1.length<=4000:=by
 unfold Ie at h;split at h
 ·exact absurd h (by decide)
 ·split at h
  ·rename_i h1 h2;have:=(RQ log).few;exact⟨by omega,h2,by omega⟩
  ·exact absurd h (by decide)
theorem mo{log:List UInt8}(hl:log.length<=1048576):∃ r,JO log=some (r,Ie log)∧(Ie log=0->r=bG log (Et log)):=by
 unfold JO Ie
 by_cases h:4000<log.length
 ·have e:decide ((4000:Int)<(log.length:Int))=true:=decide_eq_true (by omega);simp only[e,if_true,if_pos h];exact⟨_,rfl,fun c=>absurd c (by decide)⟩
 ·have e:decide ((4000:Int)<(log.length:Int))=false:=decide_eq_false (by omega);simp only[e,bfT,if_false,if_neg h,mm hl,obS]
  by_cases h2:(Et log).2.1=log.length
  ·have e2:((bG log (Et log)).at_==(log.length:Int))=true:=by rw[beq_iff_eq];show (((Et log).2.1:Nat):Int)=_;rw[h2]
   simp only[e2,Bool.not_true,bfT,if_false,if_pos h2];exact⟨_,rfl,fun _=>rfl⟩
  ·have e2:((bG log (Et log)).at_==(log.length:Int))=false:=by rw[beq_eq_false_iff_ne];show (((Et log).2.1:Nat):Int)≠_;omega
   simp only[e2,Bool.not_false,if_true,if_neg h2];exact⟨_,rfl,fun c=>absurd c (by decide)⟩
theorem VG{log:List UInt8}(hl:log.length<=1048576):∃ es last,Hd log=some (es,last,Ie log)∧(Ie log=0->es=(Et log).1∧last=(Et log).2.2)∧(Ie log≠0->es=[]):=by
 unfold Hd Ie;have hi:=(RQ log).at_
 by_cases h:4000<log.length
 ·have e:decide ((4000:Int)<(log.length:Int))=true:=decide_eq_true (by omega);simp only[e,if_true,if_pos h];exact⟨_,_,rfl,fun c=>absurd c (by decide),fun _=>rfl⟩
 ·have e:decide ((4000:Int)<(log.length:Int))=false:=decide_eq_false (by omega);simp only[e,bfT,if_false,if_neg h,lY hl,obS]
  by_cases h2:(Et log).2.1=log.length
  ·have e2:decide (((Et log).2.1:Int)<(log.length:Int))=false:=decide_eq_false (by omega);simp only[e2,bfT,if_false,if_pos h2];exact⟨_,_,rfl,fun _=>⟨rfl,rfl⟩,fun c=>absurd rfl c⟩
  ·have e2:decide (((Et log).2.1:Int)<(log.length:Int))=true:=decide_eq_true (by omega);simp only[e2,if_true,if_neg h2];exact⟨_,_,rfl,fun c=>absurd c (by decide),fun _=>rfl⟩
theorem Nu{log:List UInt8}(hl:log.length<=1048576):∃ es,FA log=some (es,Ie log)∧(Ie log=0->es=(Et log).1)∧(Ie log≠0->es=[]):=by
 unfold FA;obtain⟨es,last,h1,h2,h3⟩:=VG hl;rw[h1];exact⟨es,rfl,fun c=>(h2 c).1,h3⟩
def Ua(x:Star):Bool:=((((JV x.Name&&(decide (0<=x.Ascend)&&decide (x.Ascend<=86399)))&&(decide (-324000<=x.Decl)&&decide (x.Decl<=324000)))&&(decide (-2000<=x.Bright)&&decide (x.Bright<=20000)))&&(decide (-2000<=x.Faint)&&decide (x.Faint<=20000)))&&decide (x.Bright<=x.Faint)
theorem tQ(x:Star):KI x=some (Ua x):=by
 unfold KI Ua;simp only[EC,Gs,ED,Lz,LJ,obS,Option.isSome_some,Option.getD_some,Bool.or_true,AG]
theorem cn(x:Star):JF x=some (Ua x):=by
 unfold JF Ua;simp only[Bb,GF,Ge,obS,Option.isSome_some,Option.getD_some,Bool.or_true,AG,Bool.and_assoc]
def okS(l:List Star)(i:Nat):Bool:=Ua (l.getD i default) && !(decide (0<i) && !(Op.bytesLess (l.getD (i-1) default).Name (l.getD i default).Name))
def ID(l:List Star):Bool:=(List.range l.length).all (okS l)
theorem yi{l:List Star}(hl:l.length<=1099511627776){i:Nat}(hi:i<l.length):GB l (i:Int)=some (if okS l i=true then .inl ((i+1:Nat):Int) else .inr (.inr false)):=by
 simp only[GB,Av,hi,decide_true,AG,Int.ofNat_lt,if_true,tnC,At (show i<9223372036854775807 by omega),tQ,obS,Option.isSome_some,Option.getD_some,Bool.or_true];unfold okS
 by_cases h0:0<i
 ·have e0:decide ((0:Int)<(i:Int))=true:=by simpa using h0
  have e1:decide (0<i)=true:=by simpa using h0
  have w1:i64.wrap ((i:Int)-1)=((i-1:Nat):Int):=by rw[wrap_i64 (by omega) (by omega)];omega
  have ok1:BC ((i-1:Nat):Int) l.length=true:=by rw[Av];simp;omega
  simp only[e0,e1,w1,ok1,Bool.or_true,AG,Bool.true_and,tnC];generalize Ua (l.getD i default)=A;generalize Op.bytesLess (l.getD (i-1) default).Name (l.getD i default).Name=B;cases A<;>cases B<;>rfl
 ·have e0:decide ((0:Int)<(i:Int))=false:=by simpa using h0
  have e1:decide (0<i)=false:=by simpa using h0
  simp only[e0,e1,Bool.false_and,Bool.and_false,Bool.not_false,Bool.true_or,AG,Bool.or_false,Bool.and_true];generalize Ua (l.getD i default)=A;cases A<;>rfl
theorem yj{l:List Star}(hl:l.length<=1099511627776):LI l=some (ID l&&decide (l.length<=60)):=by
 unfold LI;rw[IH (step:=GB l) (okS l) l.length (ID l) (yes:=.inl ()) (no:=.inr false) (by unfold ID;simp) (fun i hi=>yi hl hi) (by simp[GB])];have e:decide ((l.length:Int)<=60)=decide (l.length<=60):=by rw[Bool.eq_iff_iff];simp;omega
 simp only[obS,ZF];cases ID l<;>simp[e]
theorem ie{l:List Star}(hl:l.length<=1099511627776){i:Nat}(hi:i<l.length):Ad l l (l.length:Int) (i:Int)=some (if okS l i=true then .inl ((i+1:Nat):Int) else .inr (.inr false)):=by
 simp only[Ad,Cd,Av,hi,decide_true,AG,Int.ofNat_lt,if_true,tnC,At (show i<9223372036854775807 by omega),cn,obS,Option.isSome_some,Option.getD_some,Bool.or_true];unfold okS
 by_cases h0:0<i
 ·have e0:decide ((0:Int)<(i:Int))=true:=by simpa using h0
  have e1:decide (0<i)=true:=by simpa using h0
  have w1:i64.wrap ((i:Int)-1)=((i-1:Nat):Int):=by rw[wrap_i64 (by omega) (by omega)];omega
  have ok1:BC ((i-1:Nat):Int) l.length=true:=by rw[Av];simp;omega
  simp only[e0,e1,w1,ok1,Bool.or_true,AG,Bool.true_and,tnC];generalize Ua (l.getD i default)=A;generalize Op.bytesLess (l.getD (i-1) default).Name (l.getD i default).Name=B;cases A<;>cases B<;>rfl
 ·have e0:decide ((0:Int)<(i:Int))=false:=by simpa using h0
  have e1:decide (0<i)=false:=by simpa using h0
  simp only[e0,e1,Bool.false_and,Bool.and_false,Bool.not_false,Bool.true_or,AG,Bool.or_false,Bool.and_true];generalize Ua (l.getD i default)=A;cases A<;>rfl
theorem Py{l:List Star}(hl:l.length<=1099511627776):Fa l=some (ID l&&decide (l.length<=60)):=by
 unfold Fa BQ
 by_cases h:60<(l.length:Int)
 ·have e:decide (l.length<=60)=false:=by simp;omega
  simp[h,e]
 ·have e:decide (l.length<=60)=true:=by simp;omega
  simp only[h,decide_false,bfT,if_false];rw[IH (step:=Ad l l (l.length:Int)) (okS l) l.length (ID l) (yes:=.inl ()) (no:=.inr false) (by unfold ID;simp) (fun i hi=>ie hl hi) (by simp[Ad])];simp only[obS,ZF,e];cases ID l<;>rfl
def Nc(l:List Star)(x:List UInt8):Bool:=l.any fun s=>s.Name==x
theorem mp{l:List Star}(hl:l.length<=1099511627776)(x:List UInt8):∃ z,JP l x=some z∧decide (z<0) = !Nc l x:=by
 unfold JP Nc
 rw[LF (step:=FU l x) (fun k=>(l.getD k default).Name==x) (fun k=>(k:Int)) l.length
  (fun k hk=>by
   simp only[FU,Av,hk,decide_true,AG,Int.ofNat_lt,if_true,tnC,At (show k<9223372036854775807 by omega)];cases ((l.getD k default).Name==x)<;>rfl)
  (by simp[FU]),← jt l (fun s=>s.Name==x)]
 cases (List.range l.length).find? (fun k=>(l.getD k default).Name==x) with
 | none=>exact⟨-1,rfl,rfl⟩
 | some j=>exact⟨(j:Int),rfl,by simp⟩
theorem Qc{l:List Star}(hl:l.length<=1099511627776)(x:List UInt8):Gw l x=some (Nc l x):=by
 unfold Gw BE BJ Nc
 rw[LF (step:=Af l x (l.length:Int)) (fun k=>(l.getD k default).Name==x) (fun k=>(k:Int)) l.length
  (fun k hk=>by
   simp only[Af,Io,Av,hk,decide_true,AG,Int.ofNat_lt,if_true,tnC,At (show k<9223372036854775807 by omega),obS];cases ((l.getD k default).Name==x)<;>rfl)
  (by simp[Af]),← jt l (fun s=>s.Name==x)]
 cases (List.range l.length).find? (fun k=>(l.getD k default).Name==x) with
 | none=>rfl
 | some j=>simp
def OG(d:Bc):Bool:=(List.range d.Estimates.length).all fun i=>Nc d.Stars (d.Estimates.getD i default).Star
def dU (d:Bc):Bool:=(((ID d.Stars&&decide (d.Stars.length<=60))&&(FB d.Estimates&&decide (d.Estimates.length<=100)))&&decide (Ie d.Log=0))&&OG d
theorem ye{d:Bc}(h1:d.Stars.length<=1048576)(h2:d.Estimates.length<=1048576)(h3:d.Log.length<=1048576):LH d=some (dU d):=by
 unfold LH dU;obtain⟨r,e1,_⟩:=mo h3;simp only[e1,obS,yj (l:=d.Stars) (by omega),yh (l:=d.Estimates) (by omega),Option.isSome_some,Bool.or_true,AG,Option.getD_some];have hc:(Ie d.Log==0)=decide (Ie d.Log=0):=by rw[Bool.eq_iff_iff];simp
 rw[hc,IH (step:=HW d) (fun i=>Nc d.Stars (d.Estimates.getD i default).Star) d.Estimates.length (OG d) (yes:=.inl ()) (no:=.inr false) (by unfold OG;simp) (fun i hi=>by
  obtain⟨z,e2,e3⟩:=mp (l:=d.Stars) (by omega) (d.Estimates.getD i default).Star;simp only[HW,Av,hi,decide_true,AG,Int.ofNat_lt,if_true,tnC,At (show i<9223372036854775807 by omega),e2,obS,e3];cases Nc d.Stars (d.Estimates.getD i default).Star<;>rfl) (by simp[HW])]
 generalize (ID d.Stars&&decide (d.Stars.length<=60))=A;generalize (FB d.Estimates&&decide (d.Estimates.length<=100))=B;generalize decide (Ie d.Log=0)=C;simp only[obS,ZF];cases A<;>cases B<;>cases C<;>cases OG d<;>rfl
theorem TH{d:Bc}(h1:d.Stars.length<=1048576)(h2:d.Estimates.length<=1048576)(h3:d.Log.length<=1048576):Gc d=some (dU d):=by
 unfold Gc dU;obtain⟨es,e1,_⟩:=Nu h3;simp only[e1,obS,Py (l:=d.Stars) (by omega),Fv (l:=d.Estimates) (by omega),Option.isSome_some,Bool.or_true,AG,Option.getD_some];have hc:(Ie d.Log==0)=decide (Ie d.Log=0):=by rw[Bool.eq_iff_iff];simp
 rw[hc,IH (step:=EL d d.Estimates (d.Estimates.length:Int)) (fun i=>Nc d.Stars (d.Estimates.getD i default).Star) d.Estimates.length (OG d) (yes:=.inl ()) (no:=.inr false) (by unfold OG;simp) (fun i hi=>by
  simp only[EL,Av,hi,decide_true,AG,Int.ofNat_lt,if_true,tnC,At (show i<9223372036854775807 by omega),Qc (l:=d.Stars) (by omega),obS];cases Nc d.Stars (d.Estimates.getD i default).Star<;>rfl) (by simp[EL])]
 generalize (ID d.Stars&&decide (d.Stars.length<=60))=A;generalize (FB d.Estimates&&decide (d.Estimates.length<=100))=B;generalize decide (Ie d.Log=0)=C;simp only[obS,ZF];cases A<;>cases B<;>cases C<;>cases OG d<;>rfl
theorem PP{l:List Star}:ID l=true ↔ ∀ i,i<l.length->Ua (l.getD i default)=true∧(0<i->Op.bytesLess (l.getD (i-1) default).Name (l.getD i default).Name=true):=by
 unfold ID okS;simp only[List.all_eq_true,List.mem_range,baT,Bool.not_eq_true',Bool.and_eq_false_iff,decide_eq_false_iff_not,Bool.not_eq_false'];constructor
 ·intro h i hi;obtain⟨a,b⟩:=h i hi;refine⟨a,fun h0=>?_⟩;rcases b with b|b
  ·exact absurd h0 b
  ·exact b
 ·intro h i hi;obtain⟨a,b⟩:=h i hi;refine⟨a,?_⟩
  by_cases h0:0<i
  ·exact .inr (b h0)
  ·exact .inl h0
def ju(l:List Star)(n:List UInt8):Option Nat:=(List.range l.length).find? fun i=>(l.getD i default).Name==n
theorem nP{l:List Star}{n:List UInt8}(h:ju l n=none):∀ i,i<l.length->(l.getD i default).Name≠n:=by
 unfold ju at h;rw[List.find?_eq_none] at h;intro i hi;simpa using h i (by simpa using hi)
theorem gi:∀ a b:List UInt8,Op.bytesLess a b=decide (a<b)
 | [],[]=>by simp[Op.bytesLess]
 | _::_,[]=>by simp[Op.bytesLess]
 | [],_::_=>by simp[Op.bytesLess]
 | x::a,y::b=>by
  simp only[Op.bytesLess,gi a b,List.cons_lt_cons_iff]
  by_cases c1:x<y<;>by_cases c2:x=y<;>by_cases c3:a<b<;>simp[c1,c2,c3]
theorem ABx(a:List UInt8):¬ a<a:=List.lt_irrefl a
theorem lp{a b c:List UInt8}(h1:a<b)(h2:b<c):a<c:=List.lt_trans h1 h2
theorem ABw(a b:List UInt8):a<b∨a=b∨b<a:=by
 by_cases h:a<b
 ·exact .inl h
 ·by_cases h2:b<a
  ·exact .inr (.inr h2)
  ·exact .inr (.inl (List.le_antisymm (List.not_lt.1 h2) (List.not_lt.1 h)))
theorem WJ{l:List Star}(hg:ID l=true){i:Nat}(h0:0<i)(hi:i<l.length):(l.getD (i-1) default).Name<(l.getD i default).Name:=by
 have:=(PP.1 hg i hi).2 h0;rw[gi] at this;exact of_decide_eq_true this
theorem AEl{l:List Star}(hg:ID l=true):∀ (d i:Nat),i+d+1<l.length->(l.getD i default).Name<(l.getD (i+d+1) default).Name
 | 0,i,h=>by have:=WJ hg (i:=i+1) (by omega) h;simpa using this
 | d+1,i,h=>by
  have h1:=AEl hg d i (by omega);have h2:=WJ hg (i:=i+d+1+1) (by omega) h;rw[Nat.add_sub_cancel] at h2;rw[show i+(d+1)+1=i+d+1+1 by omega];exact lp h1 h2
theorem AGE{l:List Star}(hg:ID l=true){i j:Nat}(hij:i<j)(hj:j<l.length):(l.getD i default).Name<(l.getD j default).Name:=by
 have:=AEl hg (j-i-1) i (by omega);rw[show i+(j-i-1)+1=j by omega] at this;exact this
def MF(l:List Star)(n:List UInt8)(k:Nat):Prop:=k<=l.length∧(∀ i,i<k->(l.getD i default).Name<n)∧∀ i,k<=i->i<l.length->n<(l.getD i default).Name
theorem VT{l:List Star}(hl:l.length<=1000000)(hg:ID l=true){x:Star}(hf:ju l x.Name=none):∃ k:Nat,AS (Ao l x) 0=some (k:Int)∧MF l x.Name k:=by
 have hne:=nP hf
 obtain⟨y,hy,k,rfl,hk⟩:=CT (step:=Ao l x) (fun s=>∃ k:Nat,s=(k:Int)∧k<=l.length∧∀ i,i<k->(l.getD i default).Name<x.Name) (fun r=>∃ k:Nat,r=(k:Int)∧MF l x.Name k) (fun s=>l.length-s.toNat) (by
  rintro s ⟨k,rfl,h1,h2⟩
  by_cases c:k<l.length
  ·have c':(k:Int)<(l.length:Int):=by omega
   simp only[Ao,Cd,Option.isSome_some,Option.getD_some,Bool.or_true,AG,Av,c,decide_true,c',Bool.true_and,tnC,gi]
   by_cases c2:(l.getD k default).Name<x.Name
   ·left;rw[if_pos (by simpa using c2),At (show k<9223372036854775807 by omega)]
    exact⟨_,rfl,⟨k+1,rfl,c,fun i hi=>by
     by_cases e:i=k
     ·subst e;exact c2
     ·exact h2 i (by omega)⟩,by simp only[tnC];omega⟩
   ·right;rw[if_neg (by simpa using c2)];refine⟨_,rfl,k,rfl,h1,h2,fun i hi1 hi2=>?_⟩
    have hk:x.Name<(l.getD k default).Name:=by
     rcases ABw (l.getD k default).Name x.Name with h|h|h
     ·exact absurd h c2
     ·exact absurd h (hne k c)
     ·exact h
    by_cases e:i=k
    ·subst e;exact hk
    ·exact lp hk (AGE hg (by omega) hi2)
  ·right;have c':¬ (k:Int)<(l.length:Int):=by omega
   simp only[Ao,Cd,Option.isSome_some,Option.getD_some,Bool.or_true,AG,c',decide_false,Bool.not_false,Bool.true_or,Bool.false_and,bfT,if_false];exact⟨_,rfl,k,rfl,h1,h2,fun i a b=>by omega⟩) (s:=(0:Int)) ⟨0,rfl,Nat.zero_le _,fun i h=>by omega⟩
 exact⟨k,hy,hk⟩
def fB(l:List Star)(k:Nat)(x:Star):List Star:=l.take k++x::l.drop k
theorem iw{l:List Star}{k:Nat}(hk:k<=l.length)(x:Star):(fB l k x).length=l.length+1:=by unfold fB;simp;omega
theorem iy{l:List Star}{k:Nat}(hk:k<=l.length)(x:Star)(i:Nat):(fB l k x).getD i default=if i<k then l.getD i default else if i=k then x else l.getD (i-1) default:=by
 unfold fB;have hl:(l.take k).length=k:=by rw[List.length_take];omega
 rw[gdE]
 by_cases c:i<k
 ·rw[if_pos c,List.getElem?_append_left (by omega),List.getElem?_take,if_pos c,gdE]
 ·rw[if_neg c,List.getElem?_append_right (by omega),hl]
  by_cases c2:i=k
  ·subst c2;simp
  ·rw[if_neg c2,show i-k=(i-1-k)+1 by omega,List.getElem?_cons_succ,List.getElem?_drop,show k+(i-1-k)=i-1 by omega,gdE]
theorem qS{l:List Star}(hg:ID l=true){x:Star}(hx:Ua x=true){k:Nat}(hp:MF l x.Name k):ID (fB l k x)=true:=by
 obtain⟨h1,h2,h3⟩:=hp;refine PP.2 fun i hi=>?_
 rw[iw h1] at hi;rw[iy h1,iy h1];refine⟨?_,fun h0=>?_⟩
 ·split
  ·exact (PP.1 hg i (by omega)).1
  ·split
   ·exact hx
   ·exact (PP.1 hg (i-1) (by omega)).1
 ·rw[gi,dtE]
  by_cases c1:i<k
  ·rw[if_pos (by omega),if_pos c1];exact WJ hg h0 (by omega)
  ·rw[if_neg c1]
   by_cases c2:i=k
   ·subst c2;rw[if_pos (by omega),if_pos rfl];exact h2 _ (by omega)
   ·rw[if_neg c2]
    by_cases c3:i-1=k
    ·rw[if_neg (by omega),if_pos c3];exact h3 _ (by omega) (by omega)
    ·rw[if_neg (by omega),if_neg c3];exact WJ hg (by omega) (by omega)
theorem kK{l:List Star}(hl:l.length<=1000000):DJ l=some l:=by
 unfold DJ;rw[DM (by simp;omega),AG];rfl
theorem dO{l:List Star}{n:List UInt8}(h:Nc l n=false):ju l n=none:=by
 unfold ju;rw[List.find?_eq_none];intro i hi;have hi':i<l.length:=by simpa using hi
 unfold Nc at h;rw[← Bool.not_eq_true,List.any_eq_true] at h;intro c;exact h ⟨_,EH hi' default,c⟩
theorem bO{l:List Star}{n:List UInt8}{k k':Nat}(h:MF l n k)(h':MF l n k'):k=k':=by
 have one:∀ {a b:Nat},MF l n a->MF l n b->¬ a<b:=fun ha hb c=>by
  have h1:=hb.2.1 _ c;have h2:=ha.2.2 _ (Nat.le_refl _) (Nat.lt_of_lt_of_le c hb.1);exact ABx _ (lp h1 h2)
 have h1:=one h h';have h2:=one h' h;omega
open Classical in
def lj (l:List Star) (n:List UInt8):Nat:=if h:∃ k,MF l n k then Classical.choose h else 0
theorem cR{l:List Star}{n:List UInt8}{k:Nat}(h:MF l n k):lj l n=k:=by
 unfold lj;have hx:∃ k,MF l n k:=⟨k,h⟩;rw[dif_pos hx];exact bO (Classical.choose_spec hx) h
def bg (l:List Star) (x:Star):List Star×Int :=
 if (ID l&&decide (l.length<=60))=true then
  if Ua x=true then
   if Nc l x.Name=true then ([],4) else if l.length=60 then ([],5) else (fB l (lj l x.Name) x,0)
  else ([],2)
 else ([],1)
theorem oL{l:List Star}(hl:l.length<=1000000)(x:Star):Jf l x=some (bg l x):=by
 unfold Jf bg;rw[Py (by omega),obS,cn,obS,Qc (by omega),obS];cases hg:(ID l&&decide (l.length<=60)) with
 | false=>simp
 | true=>
  cases hx:Ua x with
  | false=>simp
  | true=>
   simp only[Bool.not_true,bfT,if_false,if_true];cases h:Nc l x.Name with
   | true=>simp
   | false=>
    simp only[bfT,if_false]
    by_cases h60:l.length=60
    ·rw[if_pos h60,if_pos (by simp;omega)]
    ·rw[if_neg h60,if_neg (by simp;omega)];have hg':=(Bool.and_eq_true_iff.1 hg).1;obtain⟨k,e1,hp⟩:=VT (l:=l) (by omega) hg' (x:=x) (dO h);rw[cR hp];unfold By;rw[e1,obS,kK (by omega),obS];unfold gF;have hk:=hp.1;rw[if_pos (by simp[jf];omega)];simp only[obS,tnC];unfold fB;simp
theorem AEV{l:List Star}{x:Star}(hl:l.length<=1000000)(h:(bg l x).2=0):ID (bg l x).1=true∧(bg l x).1.length<=60∧∀ n,Nc l n=true->Nc (bg l x).1 n=true:=by
 unfold bg at h ⊢;split at h
 ·rename_i hg;split at h
  ·rename_i hx;split at h
   ·exact absurd h (by decide)
   ·rename_i hh;split at h
    ·exact absurd h (by decide)
    ·rename_i h60;have hg2:=Bool.and_eq_true_iff.1 hg;have hlen:=of_decide_eq_true hg2.2;rw[if_pos hg,if_pos hx,if_neg hh,if_neg h60];obtain⟨k,e1,hp⟩:=VT (l:=l) hl hg2.1 (x:=x) (dO (by simpa using hh));rw[cR hp];refine⟨qS hg2.1 hx hp,by rw[iw hp.1];omega,fun n hn=>?_⟩;unfold Nc at hn ⊢;rw[List.any_eq_true] at hn ⊢;obtain⟨s,h1,h2⟩:=hn;refine⟨s,?_,h2⟩;unfold fB;have h1':s∈l.take k++l.drop k:=by rw[List.take_append_drop];exact h1
     rcases List.mem_append.1 h1' with c|c
     ·exact List.mem_append.2 (.inl c)
     ·exact List.mem_append.2 (.inr (List.mem_cons_of_mem _ c))
  ·exact absurd h (by decide)
 ·exact absurd h (by decide)
theorem AAc{l:List Star}{x:Star}(hl:l.length<=1000000):(bg l x).1.length<=l.length+1:=by
 unfold bg;split
 ·split
  ·split
   ·simp
   ·split
    ·simp
    ·unfold fB;simp;omega
  ·simp
 ·simp
theorem nw:∀ a b:List UInt8,Op.bytesLess a b=decide (a<b)
 | [],[]=>rfl
 | [],_::_=>by simp[Op.bytesLess]
 | _::_,[]=>by simp[Op.bytesLess]
 | x::a,y::b=>by
  have ih:=nw a b;rw[Op.bytesLess,ih,Bool.eq_iff_iff];simp[List.cons_lt_cons_iff]
theorem ABz(a:List UInt8):¬ a<a:=List.lt_irrefl a
theorem xH{a b c:List UInt8}(h1:a<b)(h2:b<c):a<c:=List.lt_trans h1 h2
theorem oy(a b:List UInt8):a<b∨a=b∨b<a:=by
 by_cases h:a<b
 ·exact .inl h
 ·by_cases h2:b<a
  ·exact .inr (.inr h2)
  ·exact .inr (.inl (List.le_antisymm (List.not_lt.1 h2) (List.not_lt.1 h)))
def jJ(a b:AD):Prop:=a.Time<b.Time∨(a.Time=b.Time∧(a.Star<b.Star∨(a.Star=b.Star∧a.Observer<b.Observer)))
def eqK(a b:AD):Prop:=a.Time=b.Time∧a.Star=b.Star∧a.Observer=b.Observer
theorem LY(a b:AD):Hs a b=true ↔ jJ a b:=by
 unfold Hs jJ
 by_cases h1:a.Time=b.Time
 ·rw[if_pos h1]
  by_cases h2:a.Star=b.Star
  ·rw[if_pos h2,nw,dtE]
   exact⟨fun h=>.inr ⟨h1,.inr ⟨h2,h⟩⟩,fun h=>by
    rcases h with h|⟨_,h|h⟩
    ·omega
    ·rw[h2] at h;exact absurd h (ABz _)
    ·exact h.2⟩
  ·rw[if_neg h2,nw,dtE]
   exact⟨fun h=>.inr ⟨h1,.inl h⟩,fun h=>by
    rcases h with h|⟨_,h|h⟩
    ·omega
    ·exact h
    ·exact absurd h.1 h2⟩
 ·rw[if_neg h1,dtE]
  exact⟨fun h=>.inl h,fun h=>by
   rcases h with h|h
   ·exact h
   ·exact absurd h.1 h1⟩
theorem lq{a b c:AD}(h1:jJ a b)(h2:jJ b c):jJ a c:=by
 unfold jJ at *;rcases h1 with h1|⟨e1,h1⟩
 ·rcases h2 with h2|⟨e2,_⟩
  ·exact .inl (by omega)
  ·exact .inl (by omega)
 ·rcases h2 with h2|⟨e2,h2⟩
  ·exact .inl (by omega)
  ·refine .inr ⟨by omega,?_⟩;rcases h1 with h1|⟨f1,h1⟩
   ·rcases h2 with h2|⟨f2,_⟩
    ·exact .inl (xH h1 h2)
    ·exact .inl (f2▸h1)
   ·rcases h2 with h2|⟨f2,h2⟩
    ·exact .inl (f1▸h2)
    ·exact .inr ⟨f1.trans f2,xH h1 h2⟩
theorem ABy(a b:AD):jJ a b∨eqK a b∨jJ b a:=by
 unfold jJ eqK;rcases Int.lt_trichotomy a.Time b.Time with h|h|h
 ·exact .inl (.inl h)
 ·rcases oy a.Star b.Star with h2|h2|h2
  ·exact .inl (.inr ⟨h,.inl h2⟩)
  ·rcases oy a.Observer b.Observer with h3|h3|h3
   ·exact .inl (.inr ⟨h,.inr ⟨h2,h3⟩⟩)
   ·exact .inr (.inl ⟨h,h2,h3⟩)
   ·exact .inr (.inr (.inr ⟨h.symm,.inr ⟨h2.symm,h3⟩⟩))
  ·exact .inr (.inr (.inr ⟨h.symm,.inl h2⟩))
 ·exact .inr (.inr (.inl h))
theorem jl{l:List AD}(hg:FB l=true){i:Nat}(hi:i+1<l.length):jJ (l.getD i default) (l.getD (i+1) default):=by
 unfold FB at hg;have:=La hg hi;unfold vU at this;simp only[Nat.add_sub_cancel,baT,Bool.not_eq_true'] at this;rw[← LY];have h2:=this.2;have e:decide (0<i+1)=true:=decide_eq_true (by omega);rw[e,Bool.true_and] at h2;simpa using h2
theorem jk{l:List AD}(hg:FB l=true):∀ (d i:Nat),i+d+1<l.length->jJ (l.getD i default) (l.getD (i+d+1) default)
 | 0,i,h=>jl hg h
 | d+1,i,h=>lq (jk hg d i (by omega)) (jl hg (i:=i+d+1) h)
theorem dH{l:List AD}(hg:FB l=true){i j:Nat}(hij:i<j)(hj:j<l.length):jJ (l.getD i default) (l.getD j default):=by
 have:=jk hg (j-i-1) i (by omega)
 rwa [show i+(j-i-1)+1=j by omega] at this
theorem aN(a b:AD):∃ c,BT a b=some c∧decide (c<0)=Hs a b∧((c==0)=true ↔ eqK a b):=by
 obtain⟨c,hc,hb⟩:=Vc a b;refine⟨c,hc,hb,?_⟩;unfold BT at hc;simp only[QB,bC,AFf,obS,Option.some.injEq] at hc;obtain⟨_,s2⟩:=NC a.Star b.Star;obtain⟨_,o2⟩:=NC a.Observer b.Observer
 have s3:Lib.compareBytes a.Star b.Star=0 ↔ a.Star=b.Star:=by
  rw[← beq_iff_eq,s2,beq_iff_eq]
 have o3:Lib.compareBytes a.Observer b.Observer=0 ↔ a.Observer=b.Observer:=by
  rw[← beq_iff_eq,o2,beq_iff_eq]
 rw[beq_iff_eq,← hc];unfold eqK
 by_cases h1:a.Time<b.Time
 ·simp only[h1,if_true];constructor
  ·intro h;simp at h
  ·intro h;omega
 ·by_cases h2:b.Time<a.Time
  ·simp only[h1,h2,if_true,if_false];constructor
   ·intro h;simp at h
   ·intro h;omega
  ·simp only[h1,h2,if_false,ne_eq,not_true_eq_false];have ht:a.Time=b.Time:=by omega
   by_cases h3:Lib.compareBytes a.Star b.Star=0
   ·simp only[h3,not_true_eq_false,if_false];have hs:=s3.1 h3
    by_cases h4:Lib.compareBytes a.Observer b.Observer=0
    ·simp only[h4,not_true_eq_false,if_false];exact⟨fun _=>⟨ht,hs,o3.1 h4⟩,fun _=>trivial⟩
    ·simp only[h4,not_false_eq_true,if_true];exact⟨fun h=>h.elim,fun h=>h4 (o3.2 h.2.2)⟩
   ·simp only[h3,not_false_eq_true,if_true];exact⟨fun h=>h.elim,fun h=>h3 (s3.2 h.2.1)⟩
def KB(l:List AD)(e:AD)(k:Nat):Prop:=k<=l.length∧(∀ i,i<k->jJ (l.getD i default) e)∧∀ i,k<=i->i<l.length->¬ jJ (l.getD i default) e
theorem AGw{i j n:Nat}(hij:i<j)(hj:j<=n)(hn:n<=1000000):i64.wrap ((u64.wrap (i64.wrap ((i:Int)+(j:Int)))).fdiv (2^(min 1 64)))=(((i+j)/2:Nat):Int):=by
 rw[wrap_i64 (n:=(i:Int)+(j:Int)) (by omega) (by omega)]
 have:u64.wrap ((i:Int)+(j:Int))=(i:Int)+(j:Int):=by
  have:=IntKind.wrap_u64 ((i:Int)+(j:Int));rw[this];omega
 rw[this,show (2:Int)^(min 1 64)=2 from rfl,Int.fdiv_eq_ediv_of_nonneg _ (by omega),wrap_i64 (by omega) (by omega)];omega
theorem XQ{l:List AD}{e:AD}(hg:FB l=true)(hl:l.length<=1000000):∀ (m i j:Nat),j-i<=m->i<=j->j<=l.length->(∀ a,a<i->jJ (l.getD a default) e)->(∀ a,j<=a->a<l.length->¬ jJ (l.getD a default) e) ->
  ∃ k:Nat,AS (AJ l e (l.length:Int)) ((i:Int),(j:Int))=some (k:Int)∧KB l e k
 | 0,i,j,hm,hij,hj,h1,h2=>by
  have hij:i=j:=by omega
  subst hij;exact⟨i,Cm (by simp[AJ]),hj,h1,h2⟩
 | m+1,i,j,hm,hij,hj,h1,h2=>by
  by_cases hlt:i<j
  ·have hk:(i+j)/2<l.length:=by omega
   obtain⟨c,hc,hb,_⟩:=aN (l.getD ((i+j)/2) default) e
   have hs:AJ l e (l.length:Int) ((i:Int),(j:Int))=some (if decide (c<0)=true then .inl ((((i+j)/2+1:Nat):Int),(j:Int)) else .inl ((i:Int),(((i+j)/2:Nat):Int))):=by
    simp only[AJ];rw[if_pos (decide_eq_true (by omega)),od (by decide),AG,AGw hlt hj hl,Av,decide_eq_true hk,AG,tnC,hc];simp only[obS];rw[At (by omega)];split<;>rfl
   cases hcn:decide (c<0) with
   | true=>
    rw[hcn] at hs hb;rw[Dh hs];have hk2:=(LY _ _).1 hb.symm;refine XQ hg hl m ((i+j)/2+1) j (by omega) (by omega) hj (fun a ha=>?_) h2;rcases Nat.lt_or_ge a ((i+j)/2) with h|h
    ·exact lq (dH hg h hk) hk2
    ·obtain rfl:a=(i+j)/2:=by omega
     exact hk2
   | false=>
    rw[hcn] at hs hb;rw[Dh hs]
    have hk2:¬ jJ (l.getD ((i+j)/2) default) e:=fun h=>by
     rw[(LY _ _).2 h] at hb;exact Bool.noConfusion hb
    refine XQ hg hl m i ((i+j)/2) (by omega) (by omega) (by omega) h1 (fun a ha hal h=>?_);rcases Nat.lt_or_ge ((i+j)/2) a with c|c
    ·exact hk2 (lq (dH hg c hal) h)
    ·obtain rfl:a=(i+j)/2:=by omega
     exact hk2 h
  ·exact XQ hg hl m i j (by omega) hij hj h1 h2
theorem AFd{l:List AD}(e:AD)(hg:FB l=true)(hl:l.length<=1000000):
  ∃ (k:Nat) (f:Bool),AY l e=some ((k:Int),f)∧KB l e k∧(f=true ↔ k<l.length∧eqK (l.getD k default) e):=by
 obtain⟨k,hw,hp⟩:=XQ (e:=e) hg hl l.length 0 l.length (by omega) (by omega) (Nat.le_refl _) (fun a ha=>absurd ha (by omega)) (fun a h1 h2=>absurd h2 (by omega));have hw:AS (AJ l e (l.length:Int)) (0,(l.length:Int))=some (k:Int):=hw;obtain⟨c,hc,_,h0⟩:=aN (l.getD k default) e;unfold AY;rw[hw];simp only[obS,tnC,hc,Option.isSome_some,Option.getD_some,Bool.or_true,AG];have e1:decide ((k:Int)<(l.length:Int))=decide (k<l.length):=by rw[Bool.eq_iff_iff];simp
 refine⟨k,decide (k<l.length)&&(c==0),?_,hp,?_⟩
 ·rw[e1,Av];cases decide (k<l.length)<;>simp[AG]
 ·rw[baT,dtE,h0]
theorem iu(l:List AD)(e:AD){k:Nat}(hk:k<=l.length)(i:Nat):(((l.take k)++[e])++l.drop k).getD i default=if i<k then l.getD i default else if i=k then e else l.getD (i-1) default:=by
 have hlen:(l.take k).length=k:=by simp;omega
 rw[List.append_assoc]
 by_cases c:i<k
 ·rw[if_pos c,gdE,gdE,List.getElem?_append_left (by omega),List.getElem?_take_of_lt c]
 ·rw[if_neg c,gdE,List.getElem?_append_right (by omega),hlen]
  by_cases c2:i=k
  ·subst c2;rw[if_pos rfl,Nat.sub_self];rfl
  ·rw[if_neg c2];obtain⟨j,rfl⟩:∃ j,i=k+(j+1):=⟨i-k-1,by omega⟩;rw[show k+(j+1)-k=j+1 by omega];show ((l.drop k)[j]?).getD default=_;rw[List.getElem?_drop,gdE,show k+(j+1)-1=k+j by omega]
theorem tg{l:List AD}{e:AD}(hg:FB l=true)(he:OM e=true){k:Nat}(hk:k<=l.length)(h1:k<l.length->Hs e (l.getD k default)=true)(h2:0<k->Hs (l.getD (k-1) default) e=true):
  FB (((l.take k)++[e])++l.drop k)=true:=by
 have hat:∀ i,i<l.length->OM (l.getD i default)=true∧(0<i->Hs (l.getD (i-1) default) (l.getD i default)=true):=by
  intro i hi;unfold FB at hg;have:=La hg hi;unfold vU at this;simp only[baT,Bool.not_eq_true',Bool.and_eq_false_iff,decide_eq_false_iff_not,Bool.not_eq_false'] at this;exact⟨this.1,fun h0=>this.2.elim (fun c=>absurd h0 c) id⟩
 unfold FB;rw[List.all_eq_true];intro i hi
 have hi':i<l.length+1:=by
  have:(((l.take k)++[e])++l.drop k).length=l.length+1:=by simp;omega
  rw[this] at hi;simpa using hi
 have okmk:∀ A B:Bool,A=true->(0<i->B=true)->(A && !(decide (0<i) && !B))=true:=by
  intro A B hA hB;rw[hA,Bool.true_and]
  by_cases c:0<i
  ·rw[hB c];simp
  ·simp[c]
 unfold vU;rw[iu l e hk,iu l e hk];refine okmk _ _ ?_ (fun h0=>?_)
 ·by_cases c:i<k
  ·rw[if_pos c];exact (hat i (by omega)).1
  ·rw[if_neg c]
   by_cases c2:i=k
   ·rw[if_pos c2];exact he
   ·rw[if_neg c2];exact (hat (i-1) (by omega)).1
 ·by_cases c:i<k
  ·rw[if_pos (show i-1<k by omega),if_pos c];exact (hat i (by omega)).2 h0
  ·rw[if_neg c]
   by_cases c2:i=k
   ·rw[if_pos c2,if_pos (show i-1<k by omega),c2];exact h2 (by omega)
   ·rw[if_neg c2]
    by_cases c3:i-1=k
    ·rw[if_neg (show ¬ i-1<k by omega),if_pos c3,c3];exact h1 (by omega)
    ·rw[if_neg (show ¬ i-1<k by omega),if_neg c3];exact (hat (i-1) (by omega)).2 (by omega)
theorem kL{l:List AD}(hl:l.length<=1000000):CS l=some l:=by
 unfold CS;rw[DM (by simp;omega),AG];rfl
def iz(l:List AD)(k:Nat)(e:AD):List AD:=((l.take k)++[e])++l.drop k
theorem AIx{l:List AD}{k:Nat}(e:AD)(hk:k<=l.length)(hl:l.length<=1000):gF 56 l (k:Int) ([e]:List AD)=some (iz l k e):=by
 unfold gF jf;rw[if_pos (by simp;omega)];simp[iz]
theorem we{l:List AD}{e:AD}{k:Nat}(hg:FB l=true)(he:OM e=true)(hp:KB l e k)(hne:¬ (k<l.length∧eqK (l.getD k default) e)):FB (iz l k e)=true:=by
 obtain⟨h0,h1,h2⟩:=hp;refine tg hg he h0 (fun hk=>?_) (fun hk=>(LY _ _).2 (h1 (k-1) (by omega)));rw[LY];rcases ABy (l.getD k default) e with h|h|h
 ·exact absurd h (h2 k (Nat.le_refl _) hk)
 ·exact absurd ⟨hk,h⟩ hne
 ·exact h
theorem Yq{l:List AD}{e:AD}{k k':Nat}(h:KB l e k)(h':KB l e k'):k=k':=by
 have one:∀ {a b:Nat},KB l e a->KB l e b->¬ a<b:=fun ha hb c=>ha.2.2 _ (Nat.le_refl _) (Nat.lt_of_lt_of_le c hb.1) (hb.2.1 _ c)
 have h1:=one h h';have h2:=one h' h;omega
open Classical in
def Yr (l:List AD) (e:AD):Nat:=if h:∃ k,KB l e k then Classical.choose h else 0
theorem cT{l:List AD}{e:AD}{k:Nat}(h:KB l e k):Yr l e=k:=by
 unfold Yr;have hx:∃ k,KB l e k:=⟨k,h⟩;rw[dif_pos hx];exact Yq (Classical.choose_spec hx) h
open Classical in
def bh (l:List AD) (e:AD):List AD×Int :=
 if (FB l&&decide (l.length<=100))=true then
  if OM e=true then
   if Yr l e<l.length∧eqK (l.getD (Yr l e) default) e then ([],4) else if l.length=100 then ([],5) else (iz l (Yr l e) e,0)
  else ([],2)
 else ([],1)
theorem bF{l:List AD}(hl:l.length<=1000000)(e:AD):Gi l e=some (bh l e):=by
 unfold Gi bh;rw[Fv (by omega),obS,Pn,obS];cases hg:(FB l&&decide (l.length<=100)) with
 | false=>simp
 | true=>
  cases hx:OM e with
  | false=>simp
  | true=>
   simp only[Bool.not_true,bfT,if_false,if_true];obtain⟨hg',hl'⟩:=Bool.and_eq_true_iff.1 hg;have hl':=of_decide_eq_true hl';obtain⟨k,f,e1,hp,hf⟩:=AFd (l:=l) e hg' hl;rw[e1,obS,cT hp];cases f with
   | true=>rw[if_pos (hf.1 rfl)];simp
   | false=>
    rw[if_neg (fun h=>Bool.noConfusion (hf.2 h))]
    by_cases h100:l.length=100
    ·rw[if_pos h100];simp[h100]
    ·have c100:((l.length:Int)==100)=false:=by rw[beq_eq_false_iff_ne];omega
     rw[if_neg h100,kL hl];simp only[obS,bfT,if_false,c100,AIx e hp.1 (show l.length<=1000 by omega)]
theorem ABv{l:List AD}{k:Nat}{e x:AD}:x∈iz l k e ↔ x=e∨x∈l:=by
 unfold iz
 have:x∈l ↔ x∈l.take k∨x∈l.drop k:=by
  rw[← List.mem_append,List.take_append_drop]
 rw[this];simp only[List.mem_append,List.mem_singleton];constructor
 ·rintro ((h|h)|h)
  ·exact .inr (.inl h)
  ·exact .inl h
  ·exact .inr (.inr h)
 ·rintro (h|h|h)
  ·exact .inl (.inr h)
  ·exact .inl (.inl h)
  ·exact .inr h
theorem AEW{l:List AD}{e:AD}(hl:l.length<=1000000)(h:(bh l e).2=0):FB (bh l e).1=true∧(bh l e).1.length<=100∧∀ x,x∈(bh l e).1->x=e∨x∈l:=by
 unfold bh at h ⊢;split at h
 ·rename_i hg;split at h
  ·rename_i hx;split at h
   ·exact absurd h (by decide)
   ·rename_i hh;split at h
    ·exact absurd h (by decide)
    ·rename_i h100;have hg2:=Bool.and_eq_true_iff.1 hg;have hlen:=of_decide_eq_true hg2.2;rw[if_pos hg,if_pos hx,if_neg hh,if_neg h100];obtain⟨k,f,e1,hp,hf⟩:=AFd (l:=l) e hg2.1 hl;rw[cT hp] at hh ⊢;exact⟨we hg2.1 hx hp hh,by unfold iz;simp;have:=hp.1;omega,fun x hx=>ABv.1 hx⟩
  ·exact absurd h (by decide)
 ·exact absurd h (by decide)
theorem AAd{l:List AD}{e:AD}:(bh l e).1.length<=l.length+1:=by
 unfold bh;split
 ·split
  ·split
   ·simp
   ·split
    ·simp
    ·unfold iz;simp;omega
  ·simp
 ·simp
theorem tm{a b:Int}(h:0<=a):a.tmod b=a%b:=Int.tmod_eq_emod_of_nonneg h
theorem td{a b:Int}(h:0<=a):a.tdiv b=a/b:=Int.tdiv_eq_ediv_of_nonneg h
theorem jo{a b:Int}(hb:0<b)(ha:-4611686018427387904<=a)(ha2:a<=4611686018427387904):Ei a b=some (a/b):=by
 unfold Ei;have hne:b≠0:=by omega
 rw[MY hne,AG];have h2:=Int.mul_ediv_add_emod a b;have h3:=Int.emod_nonneg a hne;have h4:=Int.emod_lt_of_pos a hb
 have h8:-4611686018427387904<=a.tdiv b∧a.tdiv b<=4611686018427387904:=by
  have:(a.tdiv b).natAbs<=a.natAbs:=by rw[Int.natAbs_tdiv];exact Nat.div_le_self _ _
  omega
 rw[wrap_i64 (n:=a.tdiv b) (by omega) (by omega)]
 by_cases h0:0<=a
 ·have e1:=td (b:=b) h0;have e2:=tm (b:=b) h0;have:¬ a.tmod b<0:=by omega
  simp[this,e1]
 ·have e1:a.tdiv b=-((-a)/b):=by
   have:=Int.neg_tdiv a b;rw[td (by omega)] at this;omega
  have e2:a.tmod b=-((-a)%b):=by
   have:=Int.neg_tmod a b;rw[tm (by omega)] at this;omega
  have h5:=Int.mul_ediv_add_emod (-a) b;have h6:=Int.emod_nonneg (-a) hne;have h7:=Int.emod_lt_of_pos (-a) hb
  by_cases c:(-a)%b=0
  ·have:¬ a.tmod b<0:=by omega
   simp only[this,decide_false,bfT,if_false,Option.some.injEq]
   have hd:a/b=-((-a)/b):=by
    have hdvd:b∣-a:=Int.dvd_of_emod_eq_zero c;obtain⟨k,hk⟩:=hdvd;have:a=b*(-k):=by rw[Int.mul_neg,← hk];omega
    rw[hk,Int.mul_ediv_cancel_left _ hne,this,Int.mul_ediv_cancel_left _ hne]
   rw[e1,hd]
  ·have:a.tmod b<0:=by omega
   simp only[this,decide_true,if_true,Option.some.injEq];rw[wrap_i64 (by omega) (by omega),e1]
   have hd:a/b=-((-a)/b)-1:=by
    have key:a=b*(-((-a)/b)-1)+(b-(-a)%b):=by
     rw[Int.mul_sub,Int.mul_neg,Int.mul_one];omega
    have:=Int.add_mul_ediv_left (b-(-a)%b) (-((-a)/b)-1) hne;rw[Int.add_comm,← key] at this;rw[this,Int.ediv_eq_zero_of_lt (by omega) (by omega)];omega
   rw[hd]
theorem AGt{a b:Int}(hb:0<b)(hb2:b<=1000000)(ha:-1000000000<=a)(ha2:a<=1000000000):Of a b=some (a%b):=by
 unfold Of;rw[jo hb (by omega) (by omega),obS];have h2:=Int.mul_ediv_add_emod a b;have h3:=Int.emod_nonneg a (show b≠0 by omega);have h4:=Int.emod_lt_of_pos a hb;rw[Int.mul_comm] at h2;rw[wrap_i64 (n:=a/b*b) (by omega) (by omega),wrap_i64 (by omega) (by omega)]
 congr 1;omega
def phF(e:AX)(c:List Aa)(k:Nat):Int:=((c.getD k default).Time-e.Epoch)%e.Period
theorem Yt{e:AX}{c:List Aa}(hp0:1<=e.Period)(hp1:e.Period<=1000000)(he0:0<=e.Epoch)(he1:e.Epoch<=10000000)(hg:∀ i,i<c.length->0<=(c.getD i default).Time∧(c.getD i default).Time<=10000000){k:Nat}(hk:k<c.length):EK (k:Int) e c=some (phF e c k):=by
 have h:=hg k hk;unfold EK phF Fp;rw[Av,decide_eq_true hk,AG,tnC,wrap_i64 (by omega) (by omega),AGt (by omega) hp1 (by omega) (by omega)];rfl
theorem nI{n:Nat}(hn:n<=1000):Bi (n:Int)=some ((List.range n).map fun i:Nat=>(i:Int)):=by
 have:=QD (step:=BM (n:Int)) (fun _=>true) (fun i:Nat=>(i:Int)) n (r:=(List.range n).map fun i:Nat=>(i:Int)) (fun out i hi ho=>by
  simp only[BM,In,Int.ofNat_lt,hi,decide_true,if_true,obS,At (show i<9223372036854775807 by omega)];rw[DM (by simp;omega),AG]) (by
  have:(List.range n).filter (fun _=>true)=List.range n:=List.filter_eq_self.2 (fun _ _=>rfl);simp[BM,KZ,this])
 unfold Bi;rw[this];rfl
def oB(c:List Aa)(l:List Int):Prop:=l.length=c.length∧∀ x∈l,∃ k:Nat,x=(k:Int)∧k<c.length
theorem oB.at{c:List Aa}{l:List Int}(h:oB c l){i:Nat}(hi:i<c.length):∃ k:Nat,l.getD i default=(k:Int)∧k<c.length:=h.2 _ (EH (by rw[h.1];exact hi) default)
theorem oB.set{c:List Aa}{l:List Int}(h:oB c l)(i:Nat){x:Int}(hx:∃ k:Nat,x=(k:Int)∧k<c.length):oB c (l.set i x) :=
 ⟨by rw[List.length_set,h.1],fun y hy=>by
  rcases List.mem_or_eq_of_mem_set hy with q|rfl
  ·exact h.2 y q
  ·exact hx⟩
theorem tw{e:AX}{c:List Aa}(hp0:1<=e.Period)(hp1:e.Period<=1000000)(he0:0<=e.Epoch)(he1:e.Epoch<=10000000)(hg:∀ i,i<c.length->0<=(c.getD i default).Time∧(c.getD i default).Time<=10000000){x y:Int}(hx:∃ k:Nat,x=(k:Int)∧k<c.length)(hy:∃ k:Nat,y=(k:Int)∧k<c.length):∃ v,Cr x y e c=some v:=by
 obtain⟨a,rfl,ha⟩:=hx;obtain⟨b,rfl,hb⟩:=hy;unfold Cr;rw[Yt hp0 hp1 he0 he1 hg ha,obS,Yt hp0 hp1 he0 he1 hg hb,obS];split
 ·split<;>exact⟨_,rfl⟩
 ·exact⟨_,rfl⟩
theorem qW{e:AX}{c:List Aa}(hp0:1<=e.Period)(hp1:e.Period<=1000000)(he0:0<=e.Epoch)(he1:e.Epoch<=10000000)(hg:∀ i,i<c.length->0<=(c.getD i default).Time∧(c.getD i default).Time<=10000000)(hl:c.length<=19):∃ o,CE (c.length:Int) e c=some o∧oB c o:=by
 have h0:oB c ((List.range c.length).map fun i:Nat=>(i:Int)):=⟨by simp,fun x hx=>by
  obtain⟨i,hi,rfl⟩:=List.mem_map.1 hx;exact⟨i,rfl,by simpa using hi⟩⟩
 unfold CE BN Be;rw[nI (by omega),obS];generalize (List.range c.length).map (fun i:Nat=>(i:Int))=d at h0;have hd:=h0.1;have c20:¬ (20:Int)<=(d.length:Int):=by omega
 have c21:¬ (20:Int)<(d.length:Int):=by omega
 rw[Cm (r:=(d,0)) (by simp[Ba,c20]),obS]
 have key:∃ o,Al d 0 (d.length:Int) e c=some o∧oB c o:=by
  obtain⟨o,ho,hP⟩:=CT (step:=Aj 0 (d.length:Int) e c) (fun s=>∃ i:Nat,s.2=(i:Int)∧i<=1+c.length∧oB c s.1) (oB c) (fun s=>c.length+1-s.2.toNat) (by
   rintro⟨q,z⟩ ⟨i,hi,hle,hq⟩;have hi:z=(i:Int):=hi;have hq:oB c q:=hq;subst hi
   by_cases ci:i<c.length
   ·left
    obtain⟨v,hv,hvP⟩:=CT (step:=Ai 0 (d.length:Int) e c (i:Int)) (fun s=>∃ j:Nat,s.2=(j:Int)∧j<c.length∧oB c s.1) (oB c) (fun s=>s.2.toNat) (by
     rintro⟨q,z⟩ ⟨j,hj,hjl,hq⟩;have hj:z=(j:Int):=hj;have hq:oB c q:=hq;subst hj;have hql:q.length=c.length:=hq.1;have hjl:j<c.length:=hjl
     by_cases cj:0<j
     ·have e0:decide ((0:Int)<(j:Int))=true:=by simpa using cj
      have w1:i64.wrap ((j:Int)-1)=((j-1:Nat):Int):=by rw[wrap_i64 (by omega) (by omega)];omega
      have ok1:BC ((j-1:Nat):Int) q.length=true:=by rw[Av];simp;omega
      have ok0:BC (j:Int) q.length=true:=by rw[Av];simp;omega
      obtain⟨v,hv⟩:=tw hp0 hp1 he0 he1 hg (hq.at hjl) (hq.at (show j-1<c.length by omega));simp only[Ai,e0,w1,ok0,ok1,tnC,hv,Bool.not_true,Bool.false_or,Option.isSome_some,Option.getD_some,AG,Bool.true_and]
      by_cases cv:decide (v<0)=true
      ·left;rw[if_pos cv];exact⟨_,rfl,⟨j-1,rfl,by omega,(hq.set _ (hq.at (by omega))).set _ (hq.at hjl)⟩,by simp only[tnC];omega⟩
      ·right;rw[if_neg cv];exact⟨_,rfl,hq⟩
     ·right;have e0:decide ((0:Int)<(j:Int))=false:=by simpa using cj
      simp only[Ai,e0,Bool.not_false,Bool.true_or,AG,Bool.false_and,bfT,if_false];exact⟨_,rfl,hq⟩) (s:=(q,(i:Int))) ⟨i,rfl,ci,hq⟩
    have c':(i:Int)<(d.length:Int):=by omega
    simp only[Aj,c',decide_true,if_true,hv,obS,At (show i<9223372036854775807 by omega)];exact⟨_,rfl,⟨i+1,rfl,by omega,hvP⟩,by simp only[tnC];omega⟩
   ·right;have c':¬ (i:Int)<(d.length:Int):=by omega
    simp only[Aj,c',decide_false,bfT,if_false];exact⟨_,rfl,hq⟩) (s:=(d,i64.wrap (0+1))) ⟨1,(show i64.wrap (0+1)=((1:Nat):Int) from (wrap_i64 (n:=0+1) (by omega) (by omega)).trans rfl),by omega,h0⟩
  unfold Al;rw[ho,obS];have:(o.length==d.length)=true:=by rw[hP.1,hd];simp
  rw[this,AG];exact⟨o,rfl,hP⟩
 obtain⟨o,ho,hP⟩:=key;have hl2:(o.length==d.length)=true:=by rw[hP.1,hd];simp
 simp only;rw[ho,obS,Cm (r:=o) (by simp[BZ,c21]),obS,hl2,AG,obS,hl2,AG];exact⟨o,rfl,hP⟩
def AGr(p:Aa):Bool:=(decide (0<=p.Time)&&decide (p.Time<=10000000))&&(decide (-2000<=p.Mag)&&decide (p.Mag<=20000))
def okP(c:List Aa)(i:Nat):Bool:=AGr (c.getD i default) && !(decide (0<i)&&decide ((c.getD i default).Time<=(c.getD (i-1) default).Time))
def TB(c:List Aa):Bool:=(List.range c.length).all (okP c)
theorem iF{c:List Aa}(hl:c.length<=1099511627776){i:Nat}(hi:i<c.length):DO c c (c.length:Int) (i:Int)=some (if okP c i=true then .inl ((i+1:Nat):Int) else .inr (.inr false)):=by
 simp only[DO,EG,Bb,GF,Av,hi,decide_true,AG,Int.ofNat_lt,if_true,tnC,At (show i<9223372036854775807 by omega),obS,Option.isSome_some,Option.getD_some,Bool.or_true];unfold okP AGr
 by_cases h0:0<i
 ·have e0:decide ((0:Int)<(i:Int))=true:=by simpa using h0
  have e1:decide (0<i)=true:=by simpa using h0
  have w1:i64.wrap ((i:Int)-1)=((i-1:Nat):Int):=by rw[wrap_i64 (by omega) (by omega)];omega
  have ok1:BC ((i-1:Nat):Int) c.length=true:=by rw[Av];simp;omega
  simp only[e0,e1,w1,ok1,Bool.or_true,AG,Bool.true_and,tnC];generalize (decide (0<=(c.getD i default).Time)&&decide ((c.getD i default).Time<=10000000))=A;generalize (decide (-2000<=(c.getD i default).Mag)&&decide ((c.getD i default).Mag<=20000))=B;generalize decide ((c.getD i default).Time<=(c.getD (i-1) default).Time)=C;cases A<;>cases B<;>cases C<;>rfl
 ·have e0:decide ((0:Int)<(i:Int))=false:=by simpa using h0
  have e1:decide (0<i)=false:=by simpa using h0
  simp only[e0,e1,Bool.false_and,Bool.and_false,Bool.not_false,Bool.true_or,AG,Bool.or_false,Bool.and_true];generalize (decide (0<=(c.getD i default).Time)&&decide ((c.getD i default).Time<=10000000))=A;generalize (decide (-2000<=(c.getD i default).Mag)&&decide ((c.getD i default).Mag<=20000))=B;cases A<;>cases B<;>rfl
theorem MN{c:List Aa}(hl:c.length<=1099511627776):Dj c=some (TB c&&decide (c.length<=100)):=by
 unfold Dj
 by_cases h:100<(c.length:Int)
 ·have e:decide (c.length<=100)=false:=by simp;omega
  simp[h,e]
 ·have e:decide (c.length<=100)=true:=by simp;omega
  simp only[h,decide_false,bfT,if_false];rw[IH (step:=DO c c (c.length:Int)) (okP c) c.length (TB c) (yes:=.inl ()) (no:=.inr false) (by unfold TB;simp) (fun i hi=>iF hl hi) (by simp[DO])];simp only[obS,ZF,e];cases TB c<;>rfl
theorem dG{c:List Aa}(h:TB c=true){i:Nat}(hi:i<c.length):0<=(c.getD i default).Time∧(c.getD i default).Time<=10000000∧-2000<=(c.getD i default).Mag∧(c.getD i default).Mag<=20000:=by
 unfold TB at h;have:=La h hi;unfold okP AGr at this;simp only[baT,dtE] at this;omega
theorem nX{l:List AD}(hl:l.length<=1000)(s:List UInt8):∃ y,BO l s=some y∧y.length<=l.length∧∀ e∈y,e∈l:=by
 have:=QD (step:=Au s l (l.length:Int)) (fun i=>((l.getD i default).Star==s) && !(l.getD i default).Fainter) (fun i=>l.getD i default) l.length (r:=KZ (α:=AD) (fun i=>((l.getD i default).Star==s) && !(l.getD i default).Fainter) (fun i=>l.getD i default) l.length) (fun out i hi ho=>by
  simp only[Au,Ip,Int.ofNat_lt,hi,decide_true,if_true,Av,AG,tnC,obS,At (show i<9223372036854775807 by omega)];rw[DM (by simp;omega),AG];split<;>rfl) (by simp[Au])
 unfold BO;rw[this];refine⟨_,rfl,QT _ _ _,fun e he=>?_⟩;unfold KZ at he;obtain⟨i,hi,rfl⟩:=List.mem_map.1 he;have:=(List.mem_filter.1 hi).1;exact EH (by simpa using this) default
theorem bT{a b:Int}(hb:b≠0):∃ y,Ei a b=some y:=by
 unfold Ei;rw[MY hb,AG];split<;>exact⟨_,rfl⟩
theorem iP{l:List Int}(hl:l.length<=1099511627776):∃ y,Mr l=some y∧Pk y:=by
 obtain⟨y,hy,hR⟩:=CT (step:=JD l (l.length:Int)) (fun s=>(∃ i:Nat,s.2=(i:Int)∧i<=l.length)∧Pk s.1) Pk (fun s=>l.length-s.2.toNat) (by
  rintro⟨n,z⟩ ⟨⟨i,hi,hle⟩,hn⟩;have hi:z=(i:Int):=hi;have hn:Pk n:=hn;subst hi
  by_cases c:i<l.length
  ·left;have c':(i:Int)<(l.length:Int):=by omega
   simp only[JD,c',decide_true,if_true,Av,c,AG,At (show i<9223372036854775807 by omega)];exact⟨_,rfl,⟨⟨i+1,rfl,c⟩,oN _⟩,by simp only[tnC];omega⟩
  ·right;have c':¬ (i:Int)<(l.length:Int):=by omega
   simp only[JD,c',decide_false,bfT,if_false];exact⟨_,rfl,hn⟩) (s:=(0,0)) ⟨⟨0,rfl,Nat.zero_le _⟩,by unfold Pk;decide⟩
 unfold Mr;rw[hy];exact⟨_,rfl,hR⟩
theorem qe{l:List Int}(h0:l≠[])(hl:l.length<=1099511627776):∃ y,Mt l=some y:=by
 obtain⟨s,hs,_⟩:=iP hl
 have hn:(l.length:Int)≠0:=by
  have:0<l.length:=List.length_pos_iff.2 h0;omega
 obtain⟨q,hq⟩:=bT (a:=s) hn;unfold Mt IS Kp;rw[hs,obS,obS,hq,obS];split<;>exact⟨_,rfl⟩
theorem nV{seen:List AD}(hl:seen.length<=1000)(out:List Aa){i:Nat}(hi:i<seen.length):∃ (j:Nat) (m:List Int),AS (ER seen out ((seen.getD i default).Time)) ((i:Int),[])=some ((j:Int),m)∧i<j∧j<=seen.length∧m≠[]∧m.length<=1000:=by
 obtain⟨y,hy,j,m,rfl,h⟩:=CT (step:=ER seen out ((seen.getD i default).Time)) (fun s=>∃ (j:Nat) (m:List Int),s=((j:Int),m)∧i<=j∧j<=seen.length∧(j=i∨m≠[])∧m.length<=j) (fun r=>∃ (j:Nat) (m:List Int),r=((j:Int),m)∧i<j∧j<=seen.length∧m≠[]∧m.length<=1000) (fun s=>seen.length-s.1.toNat) (by
  rintro _ ⟨j,m,rfl,h1,h2,h3,h4⟩
  by_cases c:j<seen.length
  ·have c':(j:Int)<(seen.length:Int):=by omega
   simp only[ER,c',decide_true,Bool.not_true,Bool.false_or,Av,c,AG,Bool.true_and,tnC]
   by_cases e:((seen.getD j default).Time==(seen.getD i default).Time)=true
   ·left;rw[if_pos e,DM (by simp;omega),AG,At (by omega)];exact⟨_,rfl,⟨j+1,_,rfl,by omega,c,.inr (by simp),by simp;omega⟩,by simp only[tnC];omega⟩
   ·right;rw[if_neg e];have hne:j≠i:=fun q=>e (by rw[q];simp)
    exact⟨_,rfl,j,m,rfl,by omega,h2,h3.resolve_left hne,by omega⟩
  ·right;have c':¬ (j:Int)<(seen.length:Int):=by omega
   simp only[ER,c',decide_false,Bool.not_false,Bool.true_or,AG,Bool.false_and,bfT,if_false];exact⟨_,rfl,j,m,rfl,by omega,h2,h3.resolve_left (by omega),by omega⟩) (s:=((i:Int),[])) ⟨i,[],rfl,Nat.le_refl _,by omega,.inl rfl,by simp⟩
 exact⟨j,m,hy,h⟩
theorem hZ{l:List AD}(hl:l.length<=19)(s:List UInt8):∃ c z,Je l s=some (c,z)∧c.length<=19∧∀ p∈c,Pk p.Time:=by
 unfold Je;rw[Fv (by omega),obS,Ge,obS];split
 ·exact⟨_,_,rfl,by simp,by simp⟩
 ·rename_i hv
  have hg:FB l=true:=by
   cases hh:FB l with
   | true=>rfl
   | false=>rw[hh] at hv;simp at hv
  split
  ·exact⟨_,_,rfl,by simp,by simp⟩
  ·obtain⟨seen,e1,h1,hm⟩:=nX (l:=l) (by omega) s;rw[e1,obS]
   obtain⟨y,hy,hq⟩:=CT (step:=Fd seen) (fun s=>∃ i:Nat,s.2=(i:Int)∧i<=seen.length∧s.1.length<=i∧∀ p∈s.1,Pk p.Time) (fun r=>r.length<=19∧∀ p∈r,Pk p.Time) (fun s=>seen.length-s.2.toNat) (by
    rintro⟨out,z⟩ ⟨i,hi,h2,h3,h4⟩;have hi:z=(i:Int):=hi;have h3:out.length<=i:=h3;have h4:∀ p∈out,Pk p.Time:=h4;subst hi
    by_cases c:i<seen.length
    ·left;have c':(i:Int)<(seen.length:Int):=by omega
     obtain⟨j,m,e2,q1,q2,q3,q4⟩:=nV (by omega) out c;obtain⟨v,hv⟩:=qe q3 (by omega);simp only[Fd,c',decide_true,if_true,Av,c,AG,tnC,e2,obS,hv];rw[DM (by simp;omega),AG];refine⟨_,rfl,⟨j,rfl,q2,by simp;omega,fun p hp=>?_⟩,by simp only[tnC];omega⟩;rcases List.mem_append.1 hp with q|q
     ·exact h4 p q
     ·obtain rfl:p=⟨(seen.getD i default).Time,v⟩:=by simpa using q
      obtain⟨k,hk,ek⟩:=List.getElem_of_mem (hm _ (EH c default));unfold FB at hg;have h5:=La hg hk;unfold vU OM at h5;rw[Kq hk,ek] at h5;simp only[baT,dtE] at h5;have:=h5.1.1.1.1;exact⟨by simp only;omega,by simp only;omega⟩
    ·right;have c':¬ (i:Int)<(seen.length:Int):=by omega
     simp only[Fd,c',decide_false,bfT,if_false];exact⟨_,rfl,by omega,h4⟩) (s:=([],0)) ⟨0,rfl,Nat.zero_le _,by simp,by simp⟩
   rw[hy];exact⟨_,_,rfl,hq⟩
theorem qh{c:List Aa}(hl:c.length<=1000):∃ y,KN c=some y∧y.length=c.length:=by
 have:=YT (step:=GY c (c.length:Int)) (fun i=>(c.take i).map Aa.Mag) c.length (r:=c.map Aa.Mag) (fun i hi=>by
  simp only[GY,Int.ofNat_lt,hi,decide_true,if_true,Av,AG,tnC,At (show i<9223372036854775807 by omega)];rw[DM (by simp;omega),AG,List.take_succ_eq_append_getElem hi,Kq hi,List.map_append];rfl) (by simp[GY])
 unfold KN;have h0:((c.take 0).map Aa.Mag)=[]:=by simp
 rw[h0] at this;rw[this];exact⟨_,rfl,by simp⟩
theorem bE{c:List Aa}(hl:c.length<=100):∃ v z,Gg c=some (v,z)∧Pk v:=by
 unfold Gg;rw[MN (by omega),obS];split
 ·exact⟨_,_,rfl,by unfold Pk;decide⟩
 ·split
  ·exact⟨_,_,rfl,by unfold Pk;decide⟩
  ·rename_i h0;have h0:c.length≠0:=by intro e;apply h0;simp[e]
   obtain⟨y,hy,hn⟩:=qh (c:=c) (by omega);have hm:jG y=true:=by unfold jG;simp;omega
   rw[hy,obS];unfold pc cz;rw[if_pos hm,obS,if_pos hm,obS];exact⟨_,_,rfl,oN _⟩
theorem Ol{e:AX}{c:List Aa}(hp0:1<=e.Period)(hp1:e.Period<=1000000)(he0:0<=e.Epoch)(he1:e.Epoch<=10000000)(hg:TB c=true)(hl:c.length<=19):∃ o,Gb e c=some o∧oB c o:=by
 obtain⟨o,h1,h2⟩:=qW hp0 hp1 he0 he1 (fun i hi=>⟨(dG hg hi).1,(dG hg hi).2.1⟩) hl;unfold Gb;rw[h1];exact⟨o,rfl,h2⟩
theorem bA{e:AX}{c:List Aa}(hl:c.length<=19):∃ o z,IC e c=some (o,z)∧o.length<=100∧∀ x∈o,0<=x∧x<=100:=by
 unfold IC GO EG;simp only[GF,obS,Option.isSome_some,Option.getD_some,Bool.or_true,AG,MN (show c.length<=1099511627776 by omega)];split
 ·exact⟨_,_,rfl,by simp,by simp⟩
 ·rename_i h;simp only[Bool.or_eq_true,Bool.not_eq_true',not_or,Bool.not_eq_false,baT,dtE] at h;obtain⟨o,h1,h2⟩:=Ol (e:=e) (c:=c) (by omega) (by omega) (by omega) (by omega) h.2.1 hl;rw[h1];refine⟨_,_,rfl,by rw[h2.1];omega,fun x hx=>?_⟩;obtain⟨k,rfl,hk⟩:=h2.2 x hx;omega
theorem fF{x:If}(h0:1<=x.From)(h1:x.From<=x.To)(h2:x.To<=1000000)(h3:1<=x.Step)(h4:x.Step<=1000000):∃ y,EW x=some y∧y≠[]∧y.length<=2000000∧∀ p∈y,1<=p∧p<=1000000:=by
 obtain⟨y,hy,hq⟩:=CT (step:=Cw x) (fun s=>(s.1.length:Int)<=s.2∧x.From<=s.2∧s.2<=2000000∧(s.1=[]->s.2=x.From)∧∀ p∈s.1,1<=p∧p<=1000000) (fun r=>r≠[]∧r.length<=2000000∧∀ p∈r,1<=p∧p<=1000000) (fun s=>(3000000-s.2).toNat) (by
  rintro⟨out,p⟩ ⟨a1,a2,a3,a4,a5⟩;simp only at a1 a2 a3 a4 a5
  by_cases c:p<=x.To
  ·left;simp only[Cw,c,decide_true,if_true];rw[DM (by simp;omega),AG,wrap_i64 (by omega) (by omega)];refine⟨_,rfl,⟨by simp;omega,by simp only;omega,by simp only;omega,by simp,fun q hq=>?_⟩,by simp only;omega⟩;rcases List.mem_append.1 hq with hq|hq
   ·exact a5 q hq
   ·obtain rfl:q=p:=by simpa using hq
    omega
  ·right;simp only[Cw,c,decide_false,bfT,if_false];refine⟨_,rfl,fun e=>?_,by omega,a5⟩;have:=a4 e;omega) (s:=([],x.From)) ⟨by simp;omega,Int.le_refl _,by omega,fun _=>rfl,by simp⟩
 unfold EW;rw[hy];exact⟨_,rfl,hq⟩
theorem jN{c:List Aa}{p:Int}(hp0:1<=p)(hp1:p<=1000000)(hg:TB c=true)(h0:0<c.length)(hl:c.length<=19):∃ v,Fl c p=some v:=by
 obtain⟨q,h1,hq⟩:=Ol (e:=⟨0,p⟩) (c:=c) hp0 hp1 (by simp) (by simp) hg hl;unfold Fl;rw[h1,obS];have hlen:=hq.1;have hat:∀ i,i<c.length->∃ k:Nat,q.getD i default=(k:Int)∧k<c.length:=fun i hi=>hq.at hi
 obtain⟨y,hy,_⟩:=CT (step:=DR c q (q.length:Int)) (fun s=>∃ i:Nat,s.2=(i:Int)∧i<=c.length) (fun _=>True) (fun s=>c.length-s.2.toNat) (by
  rintro⟨n,z⟩ ⟨i,hi,hle⟩;have hi:z=(i:Int):=hi;subst hi
  by_cases c':i<c.length
  ·left;obtain⟨k,e1,k1⟩:=hat i c';have hm:(((i+1:Nat):Int)).tmod (c.length:Int)=(((i+1)%c.length:Nat):Int):=by rw[tm (by omega)];omega
   have hml:(i+1)%c.length<c.length:=Nat.mod_lt _ h0;obtain⟨k2,e2,k3⟩:=hat _ hml;simp only[DR,hlen,Int.ofNat_lt,c',decide_true,if_true,Av,AG,At (show i<9223372036854775807 by omega),hm,hml,MY (show (c.length:Int)≠0 by omega),tnC,e1,e2,k1,k3];unfold EV;split
   ·exact⟨_,rfl,⟨i+1,rfl,c'⟩,by simp only[tnC];omega⟩
   ·exact⟨_,rfl,⟨i+1,rfl,c'⟩,by simp only[tnC];omega⟩
  ·right;have c2:¬ (i:Int)<(c.length:Int):=by omega
   simp only[DR,hlen,c2,decide_false,bfT,if_false];exact⟨_,rfl,trivial⟩) (s:=(0,0)) ⟨0,rfl,Nat.zero_le _⟩
 rw[hy];exact⟨_,rfl⟩
theorem fN{c:List Aa}{ps:List Int}(hp:∀ p∈ps,1<=p∧p<=1000000)(hg:TB c=true)(h0:0<c.length)(hl:c.length<=19)(hn:ps.length<=2000000):∃ v,Ey c ps=some v∧v.length=ps.length:=by
 obtain⟨y,hy,hq⟩:=CT (step:=DI c ps (ps.length:Int)) (fun s=>∃ i:Nat,s.2=(i:Int)∧i<=ps.length∧s.1.length=i) (fun r=>r.length=ps.length) (fun s=>ps.length-s.2.toNat) (by
  rintro⟨out,z⟩ ⟨i,hi,hle,hlo⟩;have hi:z=(i:Int):=hi;have hlo:out.length=i:=hlo;subst hi
  by_cases c':i<ps.length
  ·left;obtain⟨v,hv⟩:=jN (hp _ (EH c' default)).1 (hp _ (EH c' default)).2 hg h0 hl;simp only[DI,Int.ofNat_lt,c',decide_true,if_true,Av,AG,tnC,hv,obS,At (show i<9223372036854775807 by omega)];rw[DM (by simp;omega),AG];exact⟨_,rfl,⟨i+1,rfl,c',by simp;omega⟩,by simp only[tnC];omega⟩
  ·right;have c2:¬ (i:Int)<(ps.length:Int):=by omega
   simp only[DI,c2,decide_false,bfT,if_false];exact⟨_,rfl,by omega⟩) (s:=([],0)) ⟨0,rfl,Nat.zero_le _,rfl⟩
 unfold Ey;rw[hy];exact⟨_,rfl,hq⟩
theorem Pq:∀ (l:List Int) (a:Int),l.foldl min a=a∨l.foldl min a∈l
 | [],a=>.inl rfl
 | x::r,a=>by
  rcases Pq r (min a x) with h|h
  ·rw[List.foldl_cons,h]
   by_cases c:a<=x
   ·rw[Int.min_eq_left c];exact .inl rfl
   ·rw[Int.min_eq_right (by omega)];exact .inr List.mem_cons_self
  ·exact .inr (List.mem_cons_of_mem _ h)
theorem qd{l:List Int}(h:l≠[]):Lib.minOf l∈l:=by
 unfold Lib.minOf;cases l with
 | nil=>exact absurd rfl h
 | cons x r=>
  rcases Pq (x::r) ((x::r).headD 0) with e|e
  ·rw[e];exact List.mem_cons_self
  ·exact e
theorem vP{l:List Int}(hl:l.length<=1099511627776){v:Int}(h:v∈l):∃ j:Nat,DL l v=some (j:Int)∧j<l.length:=by
 unfold DL
 rw[LF (step:=CC l v (l.length:Int)) (fun i=>v==l.getD i default) (fun j=>(j:Int)) l.length (fun i hi=>by
  simp only[CC,Int.ofNat_lt,hi,decide_true,if_true,Av,AG,tnC,At (show i<9223372036854775807 by omega)];cases (v==l.getD i default)<;>rfl) (by simp[CC])]
 cases hf:(List.range l.length).find? (fun i=>v==l.getD i default) with
 | none=>
  rw[List.find?_eq_none] at hf;obtain⟨i,hi,rfl⟩:=List.getElem_of_mem h;exact absurd (by rw[Kq hi];simp) (hf i (by simpa using hi))
 | some j=>
  rw[List.find?_range_eq_some] at hf;exact⟨j,rfl,by simpa using hf.2.1⟩
theorem WF{c:List Aa}{x:If}(hl:c.length<=19):∃ v z,HM c x=some (v,z)∧Pk v:=by
 unfold HM Im;rw[MN (by omega),obS]
 have hs:∃ b,Eu x=some b∧(b=true->1<=x.From∧x.From<=x.To∧x.To<=1000000∧1<=x.Step∧x.Step<=1000000):=by
  unfold Eu;simp only[GF,obS,Option.isSome_some,Option.getD_some,Bool.or_true,AG];split
  ·exact⟨_,rfl,fun h=>by cases h⟩
  ·rename_i h;simp only[Bool.or_eq_true,Bool.not_eq_true',not_or,Bool.not_eq_false,baT,dtE] at h;rw[MY (by omega),AG];exact⟨_,rfl,fun _=>by omega⟩
 obtain⟨b,hb,hx⟩:=hs;simp only[hb,Option.isSome_some,Option.getD_some,Bool.or_true,AG];split
 ·exact⟨_,_,rfl,by unfold Pk;decide⟩
 ·rename_i hv;simp only[Bool.or_eq_true,Bool.not_eq_true',not_or,Bool.not_eq_false,baT,dtE] at hv;obtain⟨⟨hg,_⟩,hbt⟩:=hv;obtain⟨q1,q2,q3,q4,q5⟩:=hx hbt;split
  ·exact⟨_,_,rfl,by unfold Pk;decide⟩
  ·split
   ·exact⟨_,_,rfl,by unfold Pk;decide⟩
   ·rename_i h3;have h3:¬ (c.length:Int)<3:=by simpa using h3
    obtain⟨ps,e1,n1,n2,n3⟩:=fF q1 q2 q3 q4 q5;obtain⟨ls,e2,m1⟩:=fN n3 hg (by omega) hl n2;have hpl:0<ps.length:=List.length_pos_iff.2 n1;have hm:jG ls=true:=by unfold jG;simp;omega
    have hne:ls≠[]:=List.length_pos_iff.1 (by omega);obtain⟨j,e3,m2⟩:=vP (l:=ls) (by omega) (qd hne);simp only[obS,beq_self_eq_true,Bool.not_true,bfT,if_false,e1];unfold KE cz;rw[e2,obS,if_pos hm,obS,e3,obS,Av,decide_eq_true (by omega),AG];refine⟨_,_,rfl,?_⟩;have:=n3 _ (EH (show j<ps.length by omega) default);rw[tnC];unfold Pk;omega
theorem zw{c:UInt8}(h:Vu c=true):c≠32∧c≠10:=by
 have:=Kr.1 h;constructor<;>(rintro rfl;simp at this)
theorem PN(n:Int):∀ c,c∈Lib.itoa n->c≠32∧c≠10:=by
 intro c hc;unfold Lib.itoa at hc;split at hc
 ·rcases List.mem_cons.1 hc with rfl|hc
  ·decide
  ·exact zw (List.all_eq_true.1 (PS _) c hc)
 ·exact zw (List.all_eq_true.1 (PS _) c hc)
theorem ov{s:List UInt8}(h:JV s=true):∀ c,c∈s->c≠32∧c≠10:=by
 intro c hc;unfold JV at h;simp only[baT] at h;obtain⟨i,hi,rfl⟩:=List.getElem_of_mem hc;have:=PU.1 h.2.2 i hi;rw[Kq hi] at this;unfold iA at this;constructor
 ·intro e;rw[e] at this;revert this;cases (i==0)<;>decide
 ·intro e;rw[e] at this;revert this;cases (i==0)<;>decide
theorem cV{e:Ac}(h:IP e=true):JV e.What=true:=by
 unfold IP at h;simp only[baT] at h;exact h.1.2
theorem jM{e:Ac}(h:IP e=true)(st:Int):DX 32 (LO st e)=[Lib.itoa e.Day,e.What,Lib.itoa e.Value,Lib.itoa st]:=by
 have e1:LO st e=NZ 32 [Lib.itoa e.Day,e.What,Lib.itoa e.Value,Lib.itoa st]:=by
  rw[ce];simp[LO,Hw]
 rw[e1];refine YZ 32 _ (by simp) fun p hp=>?_
 simp only[List.mem_cons,List.not_mem_nil,or_false] at hp;rcases hp with rfl|rfl|rfl|rfl
 ·exact fun c=>(PN _ _ c).1 rfl
 ·exact fun c=>(ov (cV h) _ c).1 rfl
 ·exact fun c=>(PN _ _ c).1 rfl
 ·exact fun c=>(PN _ _ c).1 rfl
theorem ya{e:Ac}(h:IP e=true)(st:Int):10 ∉ LO st e:=by
 intro hc;simp only[LO,Hw,List.mem_append,List.mem_singleton] at hc;rcases hc with (((((hc|hc)|hc)|hc)|hc)|hc)|hc
 ·exact (PN _ _ hc).2 rfl
 ·exact absurd hc (by decide)
 ·exact (ov (cV h) _ hc).2 rfl
 ·exact absurd hc (by decide)
 ·exact (PN _ _ hc).2 rfl
 ·exact absurd hc (by decide)
 ·exact (PN _ _ hc).2 rfl
theorem tK{e:Ac}(h:IP e=true){last day:Int}(hd:day<=e.Day):ZA last day (LO (Cf last e) e)=some (e,Cf last e):=by
 have hin:=RL h;unfold ZA;rw[jM h];unfold psP Ys;dsimp only;rw[cP (n:=e.Day) (by omega) (by omega),cP (n:=e.Value) (by omega) (by omega)];obtain⟨d,s,v⟩:=e;simp only[h,Bool.and_self,decide_true,Bool.and_true,Bool.true_and,hd,if_true]
def PG:Int->List Ac->Prop
 | _,[]=>True
 | d,e::es=>d<=e.Day∧PG e.Day es
def VN:Int->List Ac->Int
 | last,[]=>last
 | last,e::es=>VN (Cf last e) es
theorem Yl{log:List UInt8}:∀ (es done:List Ac) (i:Nat) (last:Int) (f:Nat),log.drop i=FL last es->i<=log.length->PG (Dl done) es->(∀ e,e∈es->IP e=true)->0<=last->last<=65520->es.length<f ->
  Qy log f (done,i,last)=(done++es,log.length,VN last es)
 | [],done,i,last,f,hd,hi,_,_,_,_,hf=>by
  obtain⟨f',rfl⟩:∃ f',f=f'+1:=⟨f-1,by simp at hf;omega⟩;have hd:log.drop i=[]:=hd;have hlen:i=log.length:=by have:=congrArg List.length hd;simp at this;omega
  unfold Qy Li;simp only[hd];rw[aK (by simp)];simp[hlen,VN]
 | e::es,done,i,last,f,hd,hi,hs,ho,h0,h1,hf=>by
  obtain⟨f',rfl⟩:∃ f',f=f'+1:=⟨f-1,by simp at hf;omega⟩;have hone:=ho e (by simp);obtain⟨_,_,s0,s1⟩:=Jr hone h0 h1;have hd:log.drop i=LO (Cf last e) e++10::FL (Cf last e) es:=hd;have hlen:=congrArg List.length hd;simp only[List.length_drop,List.length_append,List.length_cons] at hlen
  have hstep:Li log i last (Dl done)=some (i+(LO (Cf last e) e).length+1,e,Cf last e):=by
   unfold Li;rw[hd,PT (ya hone _)];simp only[tK hone hs.1,Option.map_some]
  have hdrop:log.drop (i+(LO (Cf last e) e).length+1)=FL (Cf last e) es:=by
   rw[Nat.add_assoc,← List.drop_drop,hd,← List.drop_drop,List.drop_left];rfl
  have hm:=Yl es (done++[e]) (i+(LO (Cf last e) e).length+1) (Cf last e) f' hdrop (by omega) (by rw[aJ];exact hs.2) (fun x hx=>ho x (by simp[hx])) s0 s1 (by simp at hf;omega);unfold Qy;simp only[hstep];rw[hm];simp[VN]
theorem cc{es:List Ac}(hs:PG 0 es)(ho:∀ e,e∈es->IP e=true):(Et (FL 0 es)).1=es∧(Et (FL 0 es)).2.1=(FL 0 es).length∧(Et (FL 0 es)).2.2=VN 0 es:=by
 have hm:=Yl (log:=FL 0 es) es [] 0 0 ((FL 0 es).length+1) rfl (Nat.zero_le _) hs ho (by omega) (by omega) (by have:=cY es 0 ho (by omega) (by omega);omega);unfold Et;rw[hm];exact⟨rfl,rfl,rfl⟩
theorem Te.whole{log:List UInt8}{n:Nat}{s:List Ac×Nat×Int}(h:Te (log.take n) s):Te log s :=
 ⟨by have:=h.at_;simp at this;omega,h.few,h.lo,h.hi,h.ok⟩
theorem yd{es:List Ac}{d:Int}(h0:0<=d)(hl:es.length<=1048576):
  ((decide (0<(es.length:Int)))&&(decide (d<((es.getD (i64.wrap ((es.length:Int)-1)).toNat default).Day))))=decide (d<Dl es):=by
 unfold Dl
 by_cases h:es.length=0
 ·have e:decide ((0:Int)<(es.length:Int))=false:=decide_eq_false (by omega);rw[e,if_pos h,Bool.false_and];exact (decide_eq_false (by omega)).symm
 ·have e:decide ((0:Int)<(es.length:Int))=true:=decide_eq_true (by omega);have w:i64.wrap ((es.length:Int)-1)=((es.length-1:Nat):Int):=by rw[wrap_i64 (by omega) (by omega)];omega
  rw[e,if_neg h,Bool.true_and,w,tnC]
theorem Yy:∀ (es:List Ac) (last:Int) (e:Ac),FL last (es++[e])=FL last es++(((Hw e++[32])++Lib.itoa (Cf (VN last es) e))++[10])
 | [],last,e=>by simp[FL,LO,VN]
 | x::es,last,e=>by
  have ih:=Yy es (Cf last x) e;simp only[List.cons_append,FL,ih,VN];simp
def dg(n:Nat):UInt8:=UInt8.ofNat (48+n)
def d2(n:Nat):List UInt8:=[dg (n/10),dg (n%10)]
def d3(n:Nat):List UInt8:=[dg (n/100),dg (n/10%10),dg (n%10)]
theorem AJD{n:Nat}(h:n<10):Lib.decDigits n=[dg n]:=Lib.decDigits_one h
theorem AJC{n:Nat}(h:¬ n<10):Lib.decDigits n=Lib.decDigits (n/10)++[dg (n%10)]:=by rw[Lib.decDigits,dif_neg h];rfl
theorem jB(k:Nat)(hk:k<=100)(s:List UInt8)(hs:s.length<=100):AS (GX (k:Int)) s=some (List.replicate (k-s.length) 48++s):=by
 generalize hm:k-s.length=m
 induction m generalizing s with
 | zero=>
  refine Cm ?_;have:¬ (s.length:Int)<(k:Int):=by omega
  simp[GX,this]
 | succ m ih=>
  have hlt:(s.length:Int)<(k:Int):=by omega
  rw[Dh (s':=[48]++s) (by
   simp only[GX,hlt,decide_true,if_true];rw[BR (by simp;omega),AG]),ih ([48]++s) (by simp;omega) (by simp;omega)]
  rw[List.replicate_succ',List.append_assoc]
theorem qV{n:Nat}{k:Nat}(hk:k<=100)(h:n<=1000000000):IB (n:Int) (k:Int)=some (List.replicate (k-(Lib.decDigits n).length) 48++Lib.decDigits n):=by
 unfold IB;have hl:=GH (u:=n) (by omega);rw[KA (n:=(n:Int)) ⟨by omega,by omega⟩,LP];simp only[obS];rw[jB k hk _ (by omega)];rfl
theorem ABo{n:Nat}(h:n<=999):IB (n:Int) 3=some (d3 n):=by
 have:=qV (n:=n) (k:=3) (by omega) (by omega);rw[show ((3:Nat):Int)=3 by rfl] at this;rw[this]
 by_cases c:n<10
 ·rw[AJD c];have e1:n/10%10=0:=by omega
  have e2:n%10=n:=by omega
  have e3:n/100=0:=by omega
  simp only[d3,e1,e2,e3];rfl
 ·by_cases c2:n<100
  ·rw[AJC c,AJD (show n/10<10 by omega)];have e1:n/10%10=n/10:=by omega
   have e3:n/100=0:=by omega
   simp only[d3,e1,e3];rfl
  ·rw[AJC c,AJC (show ¬ n/10<10 by omega),AJD (show n/10/10<10 by omega)];have e3:n/10/10=n/100:=by omega
   simp only[d3,e3];rfl
def qi(m:Int):List UInt8:=(if m<0 then ([45]:List UInt8) else [])++Lib.decDigits (m.natAbs/1000)++[46]++d3 (m.natAbs%1000)
theorem xG{m:Int}(h0:-2000<=m)(h1:m<=20000):1<=(qi m).length∧(qi m).length<=30:=by
 have:=GH (u:=m.natAbs/1000) (by omega);unfold qi d3;simp only[List.length_append,List.length_cons,List.length_nil];split<;>simp<;>omega
theorem oD{m:Int}(h0:-2000<=m)(h1:m<=20000):Dz m=some (qi m):=by
 have hv:Bb m=some true:=by
  unfold Bb;rw[GF];simp[h0,h1]
 have hl:=GH (u:=m.natAbs/1000) (by omega);unfold Dz;rw[hv];simp only[obS,Bool.not_true,bfT,if_false]
 have hd:∀ z:Int,z=(m.natAbs:Int)->i64.wrap (z.tdiv 1000)=((m.natAbs/1000:Nat):Int)∧z.tmod 1000=((m.natAbs%1000:Nat):Int):=by
  rintro z rfl;rw[Int.tdiv_eq_ediv_of_nonneg (by omega),Int.tmod_eq_emod_of_nonneg (by omega),wrap_i64 (by omega) (by omega)];omega
 have hp:=ABo (n:=m.natAbs%1000) (by omega);have hD:BP ((m.natAbs/1000:Nat):Int)=some (Lib.decDigits (m.natAbs/1000)):=by rw[KA ⟨by omega,by omega⟩,LP]
 have h3:(d3 (m.natAbs%1000)).length=3:=rfl
 by_cases hn:m<0
 ·have ha:EV m=some (m.natAbs:Int):=by
   unfold EV;rw[if_pos (by simpa using hn),wrap_i64 (by omega) (by omega)]
   congr 1;omega
  obtain⟨d1,d2⟩:=hd _ rfl;rw[if_pos (by simpa using hn),ha];simp only[obS,d1,d2,hD,hp];rw[MY (by decide),AG,BR (by simp;omega),AG,BR (by simp;omega),AG,BR (by simp;omega),AG];unfold qi;rw[if_pos hn]
 ·have ha:EV m=some (m.natAbs:Int):=by
   unfold EV;rw[if_neg (by simpa using hn)]
   congr 1;omega
  obtain⟨d1,d2⟩:=hd _ rfl;rw[if_neg (by simpa using hn),ha];simp only[obS,d1,d2,hD,hp];rw[MY (by decide),AG,BR (by simp;omega),AG,BR (by simp;omega),AG,BR (by simp;omega),AG];unfold qi;rw[if_neg hn]
def Vl(log:List UInt8):Prop:=∃ es,log=FL 0 es∧PG 0 es∧(∀ x,x∈es->IP x=true)∧log.length<=4000
theorem Vl.code{log:List UInt8}(h:Vl log):Ie log=0:=by
 obtain⟨es,rfl,h1,h2,h3⟩:=h;obtain⟨p1,p2,p3⟩:=cc h1 h2;unfold Ie;rw[if_neg (by omega),if_pos p2]
theorem Vl.len{log:List UInt8}(h:Vl log):log.length<=4000:=by obtain⟨_,_,_,_,h⟩:=h;exact h
theorem Qv:∀ (es:List Ac) (d:Int) (e:Ac),PG d es->(if es.length=0 then d else Dl es)<=e.Day->PG d (es++[e])
 | [],d,e,_,h=>⟨by simpa using h,trivial⟩
 | x::r,d,e,hs,h=>by
  refine⟨hs.1,Qv r x.Day e hs.2 ?_⟩;have h:Dl (x::r)<=e.Day:=by simpa using h
  cases r with
  | nil=>simpa[Dl] using h
  | cons y q=>
   have e1:Dl (x::y::q)=Dl (y::q):=by
    unfold Dl;simp[gdE]
   rw[e1] at h;simpa using h
theorem bp{log:List UInt8}(h:Vl log)(e:Ac):∃ out c,Ij log e=some (out,c)∧(c=0->Vl out):=by
 have hcode:=h.code;obtain⟨es,rfl,hs,ho,hlen⟩:=h;obtain⟨p1,p2,p3⟩:=cc hs ho;have hi:=RQ (FL 0 es);obtain⟨es',last,e2,h1,h2⟩:=VG (log:=FL 0 es) (by omega);obtain⟨rfl,rfl⟩:=h1 hcode;obtain⟨b1,b2,b3⟩:=gS hcode;unfold Ij;rw[e2];simp only[obS,hcode,beq_self_eq_true,Bool.not_true,bfT,if_false,Pz];cases hone:IP e
 ·exact⟨_,_,rfl,fun c=>absurd c (by decide)⟩
 ·have hin:=RL hone;obtain⟨s1,s2,s3,s4⟩:=Jr hone hi.lo hi.hi;have lw:=Ky hone;have ls:=Hy (n:=Cf (Et (FL 0 es)).2.2 e) ⟨by omega,by omega⟩
  have k:(!(decide (0<((Et (FL 0 es)).1.length:Int)))||BC (i64.wrap (((Et (FL 0 es)).1.length:Int)-1)) (Et (FL 0 es)).1.length)=true:=by
   by_cases c:(Et (FL 0 es)).1.length=0
   ·simp[c]
   ·rw[wrap_i64 (by omega) (by omega),CX (by omega) (by omega),Bool.or_true]
  simp only[Bool.not_true,bfT,if_false,k,AG,yd (es:=(Et (FL 0 es)).1) (d:=e.Day) hin.1 (by omega)];cases hd:decide (e.Day<Dl (Et (FL 0 es)).1)
  ·simp only[bfT,if_false,s2,obS,tL hone s3 s4];rw[BR (by simp;omega),AG];split
   ·exact⟨_,_,rfl,fun c=>absurd c (by decide)⟩
   ·rename_i h4;refine⟨_,_,rfl,fun _=>⟨es++[e],?_,?_,fun x hx=>?_,?_⟩⟩
    ·rw[Yy,p3]
    ·refine Qv es 0 e hs ?_;have hd:=of_decide_eq_false hd;rw[p1] at hd;split
     ·exact hin.1
     ·omega
    ·rcases List.mem_append.1 hx with c|c
     ·exact ho x c
     ·obtain rfl:x=e:=by simpa using c
      exact hone
    ·have h4:¬ (4000:Int)<((FL 0 es++(((Hw e++[32])++Lib.itoa (Cf (Et (FL 0 es)).2.2 e))++[10])).length:Int):=by simpa using h4
     omega
  ·exact⟨_,_,rfl,fun c=>absurd c (by decide)⟩
theorem bi{log:List UInt8}(h:Vl log)(what:List UInt8):∃ l c,Ii log what=some (l,c)∧l.length<=4000:=by
 have hcode:=h.code;have hlen:=h.len;unfold Ii;obtain⟨es,e2,h1,h2⟩:=Nu (log:=log) (by omega);obtain rfl:=h1 hcode;obtain⟨b1,b2,b3⟩:=gS hcode;rw[e2];simp only[obS,hcode,beq_self_eq_true,Bool.not_true,bfT,if_false,Ge];split
 ·exact⟨_,_,rfl,by simp⟩
 ·have hk:=QD (step:=BX what (Et log).1 ((Et log).1.length:Int)) (fun i=>((Et log).1.getD i default).What==what) (fun i=>((Et log).1.getD i default).Value) (Et log).1.length (r:=KZ (α:=Int) (fun i=>((Et log).1.getD i default).What==what) (fun i=>((Et log).1.getD i default).Value) (Et log).1.length) (fun out i hi ho=>by
   simp only[BX,IT,Int.ofNat_lt,hi,decide_true,if_true,Av,AG,tnC,obS,At (show i<9223372036854775807 by omega)];rw[DM (by simp;omega),AG];split<;>rfl) (by simp[BX])
  unfold Cl;rw[hk];exact⟨_,_,rfl,Nat.le_trans (QT _ _ _) b3⟩
def Nz(out:List (List UInt8)):Prop:=out.length<=5000∧∀ s∈out,s.length<=5000
theorem KC{s:List UInt8}(h:s.length<=5000):Nz [s]:=⟨by simp,by simpa using h⟩
theorem EB{n:Int}(h:Pk n):∃ s,BP n=some s∧s.length<=21:=⟨_,KA h,Hy h⟩
theorem Kv(m:Int):∃ s,Dz m=some s∧s.length<=30:=by
 by_cases h:-2000<=m∧m<=20000
 ·exact⟨_,oD h.1 h.2,(xG h.1 h.2).2⟩
 ·refine⟨[],?_,by simp⟩;unfold Dz Bb;rw[GF,obS];have e:(decide (-2000<=m)&&decide (m<=20000))=false:=by simp;omega
  rw[e];rfl
theorem Ld{d:Bc}(h1:d.Stars.length<=1000000)(h2:d.Estimates.length<=1000000):∃ s,Dc d=some s∧s.length<=100:=by
 unfold Dc Fm Dy;obtain⟨a,e1,l1⟩:=EB (n:=(d.Stars.length:Int)) ⟨by omega,by omega⟩;obtain⟨b,e2,l2⟩:=EB (n:=(d.Estimates.length:Int)) ⟨by omega,by omega⟩;rw[obS,e1,obS,BR (by simp;omega),AG,obS,e2,obS,BR (by simp;omega),AG,BR (by simp;omega),AG];exact⟨_,rfl,by simp;omega⟩
theorem hU{d:Bc}{s:List UInt8}(h:Dc d=some s):s≠[]:=by
 unfold Dc at h;obtain⟨a,_,h⟩:=AB h;obtain⟨b,_,h⟩:=AB h;obtain⟨_,h⟩:=AC h;obtain⟨c,_,h⟩:=AB h;obtain⟨e,_,h⟩:=AB h;obtain⟨_,h⟩:=AC h;obtain⟨_,h⟩:=AC h;cases h
 simp
theorem jU(p:List UInt8){m:Nat}:∀ {l:List (List UInt8)},(∀ s∈l,s.length<=m)->(Lib.join l p).length<=l.length*(m+p.length)
 | [],_=>by simp[Lib.join]
 | [x],h=>by
  have:=h x (by simp);have e:Lib.join [x] p=x:=by simp[Lib.join]
  rw[e];simp;omega
 | x::y::r,h=>by
  have h1:=h x (by simp);have h2:=jU p (m:=m) (l:=y::r) (fun s hs=>h s (List.mem_cons_of_mem _ hs));have e:Lib.join (x::y::r) p=x++p++Lib.join (y::r) p:=by simp[Lib.join]
  rw[e,List.length_append,List.length_append,List.length_cons,Nat.add_mul,Nat.one_mul];omega
theorem Zv{l:List (List UInt8)}{p:List UInt8}{m:Nat}(h:∀ s∈l,s.length<=m)(hl:l.length<=1000)(hm:m+p.length<=1000):∃ s,VX l p=some s∧s.length<=l.length*(m+p.length):=by
 have hj:=jU p h;have h2:l.length*(m+p.length)<=1000*1000:=Nat.mul_le_mul hl hm;unfold VX mq;rw[if_pos (by simp;omega)];exact⟨_,rfl,hj⟩
theorem jT{l:List Int}(hl:l.length<=100)(h:∀ x∈l,Pk x):∃ s,KP l=some s∧s.length<=2200:=by
 obtain⟨y,hy,h1,h2⟩:=CT (step:=GZ l (l.length:Int)) (fun s=>∃ i:Nat,s.2=(i:Int)∧i<=l.length∧s.1.length=i∧∀ w∈s.1,w.length<=21) (fun r=>r.length<=100∧∀ w∈r,w.length<=21) (fun s=>l.length-s.2.toNat) (by
  rintro⟨out,z⟩ ⟨i,hi,hle,hlo,hw⟩;have hi:z=(i:Int):=hi;have hlo:out.length=i:=hlo;have hw:∀ w∈out,w.length<=21:=hw;subst hi
  by_cases c':i<l.length
  ·left;obtain⟨v,hv,hvl⟩:=EB (h _ (EH c' default));simp only[GZ,Int.ofNat_lt,c',decide_true,if_true,Av,AG,tnC,hv,obS,At (show i<9223372036854775807 by omega)];rw[DM (by simp;omega),AG];refine⟨_,rfl,⟨i+1,rfl,c',by simp;omega,fun w hw2=>?_⟩,by simp only[tnC];omega⟩;rcases List.mem_append.1 hw2 with q|q
   ·exact hw w q
   ·obtain rfl:w=v:=by simpa using q
    exact hvl
  ·right;have c2:¬ (i:Int)<(l.length:Int):=by omega
   simp only[GZ,c2,decide_false,bfT,if_false];exact⟨_,rfl,by omega,hw⟩) (s:=([],0)) ⟨0,rfl,Nat.zero_le _,rfl,by simp⟩
 unfold KP;rw[hy,obS];obtain⟨s,e1,e2⟩:=Zv (p:=[32]) h2 (by omega) (by simp);rw[e1];refine⟨s,rfl,Nat.le_trans e2 ?_⟩;have:y.length*(21+([32]:List UInt8).length)<=100*22:=Nat.mul_le_mul h1 (by simp);omega
theorem VM{l:List (List UInt8)}(hl:l.length<=4000)(h:∀ s∈l,s.length<=200):∃ out,JE l=some out∧Nz out∧out≠[]:=by
 obtain⟨a,e1,l1⟩:=EB (n:=(l.length:Int)) ⟨by omega,by omega⟩;unfold JE Hr;rw[obS,e1,obS,BR (by simp;omega),AG,DM (by simp;omega),AG];refine⟨_,rfl,⟨by simp;omega,fun s hs=>?_⟩,by simp⟩;rcases List.mem_append.1 hs with q|q
 ·have:=h s q;omega
 ·obtain rfl:s=[111,107,32]++a:=by simpa using q
  simp;omega
theorem tI{e:AD}(h1:Pk e.Time)(h2:e.Star.length<=100)(h3:e.Observer.length<=100):∃ s,Ez e=some s∧s.length<=1000:=by
 obtain⟨a,e1,l1⟩:=Kv e.Mag;obtain⟨b,e2,l2⟩:=EB h1
 have key:∀ w:List UInt8,w.length<=100->∃ s,VX [b,e.Star,e.Observer,w] [32]=some s∧s.length<=1000:=fun w hw=>by
  obtain⟨s,q1,q2⟩:=Zv (l:=[b,e.Star,e.Observer,w]) (p:=[32]) (m:=100) (fun x hx=>by
   simp only[List.mem_cons,List.not_mem_nil,or_false] at hx;rcases hx with rfl|rfl|rfl|rfl<;>omega) (by simp) (by simp)
  exact⟨s,q1,Nat.le_trans q2 (by simp)⟩
 unfold Ez;rw[e1,obS];split
 ·rw[BR (by simp;omega),AG,e2,obS];obtain⟨s,q1,q2⟩:=key ([60]++a) (by simp;omega);rw[q1];exact⟨s,rfl,q2⟩
 ·rw[e2,obS];obtain⟨s,q1,q2⟩:=key a (by omega);rw[q1];exact⟨s,rfl,q2⟩
theorem bn(z:Int):∃ s,GG z=some s∧s.length<=20:=by
 unfold GG;generalize hL:([[111,107],[105,110,118,97,108,105,100],[114,97,110,103,101],[110,111,116,45,102,111,117,110,100],[101,120,105,115,116,115],[102,117,108,108],[115,116,97,116,101],[115,121,110,116,97,120],[102,111,114,109,97,116],[99,108,97,115,104],[99,108,111,117,100,121]]:List (List UInt8))=L;have hb:∀ s∈L,s.length<=20:=by rw[← hL];decide
 split
 ·exact⟨_,rfl,by simp⟩
 ·rename_i h;simp only[Bool.or_eq_true,dtE,not_or,Int.not_lt,Int.not_le] at h;rw[CX h.1 h.2,AG];exact⟨_,rfl,hb _ (EH (by omega) default)⟩
theorem lk{l:List AD}(hl:l.length<=100)(ap y:Int):∃ ps z,EX l ap y=some (ps,z)∧ps.length<=1000000:=by
 have hc:∀ i k:Nat,i<l.length->k<l.length->∃ b,Dd (i:Int) (k:Int) l ap y=some b:=fun i k hi hk=>by
  have ha:∀ n,(EV n).isSome=true:=fun n=>by unfold EV;split<;>rfl
  have hd:∀ a b:AD,(FZ a b y).isSome=true:=fun a b=>by
   unfold FZ;split
   ·rfl
   ·split
    ·rfl
    ·split
     ·rfl
     ·obtain⟨v,hv⟩:=isX (ha (i64.wrap (a.Mag-b.Mag)));rw[hv];rfl
  unfold Dd;simp only[Av,hi,hk,decide_true,AG,ha,hd,Bool.or_true];exact⟨_,rfl⟩
 unfold EX;rw[Fv (by omega),obS];simp only[GF,obS,Option.isSome_some,Option.getD_some,Bool.or_true,AG];split
 ·exact⟨_,_,rfl,by simp⟩
 ·split
  ·exact⟨_,_,rfl,by simp⟩
  ·obtain⟨r,hr,hq⟩:=CT (step:=BB (l.length:Int) l ap y (l.length:Int)) (fun s=>∃ i:Nat,s.2=(i:Int)∧i<=l.length∧s.1.length<=100*i) (fun r=>r.length<=1000000) (fun s=>l.length-s.2.toNat) (by
    rintro⟨out,z⟩ ⟨i,hi,hle,hlo⟩;have hi:z=(i:Int):=hi;have hlo:out.length<=100*i:=hlo;subst hi
    by_cases c':i<l.length
    ·left
     obtain⟨v,hv,hvl⟩:=CT (step:=BA (l.length:Int) l ap y (i:Int) (l.length:Int) (i:Int)) (fun s=>∃ k:Nat,s.2=(k:Int)∧k<=l.length∧s.1.length<=100*i+k) (fun r=>r.length<=100*(i+1)) (fun s=>l.length-s.2.toNat) (by
      rintro⟨o2,z2⟩ ⟨k,hk,hke,hko⟩;have hk:z2=(k:Int):=hk;have hko:o2.length<=100*i+k:=hko;subst hk
      by_cases c2:k<l.length
      ·left;obtain⟨b,hb⟩:=hc i k c' c2;simp only[BA,Int.ofNat_lt,c2,decide_true,if_true,hb,obS,At (show k<9223372036854775807 by omega)];cases b with
       | true=>
        simp only[if_true];rw[DM (by simp;omega),AG];exact⟨_,rfl,⟨k+1,rfl,c2,by simp;omega⟩,by simp only[tnC];omega⟩
       | false=>
        simp only[bfT,if_false];exact⟨_,rfl,⟨k+1,rfl,c2,by simp only;omega⟩,by simp only[tnC];omega⟩
      ·right;have c3:¬ (k:Int)<(l.length:Int):=by omega
       simp only[BA,c3,decide_false,bfT,if_false];exact⟨_,rfl,by omega⟩) (s:=(out,((i+1:Nat):Int))) ⟨i+1,rfl,c',by simp only;omega⟩
     simp only[BB,Int.ofNat_lt,c',decide_true,if_true,At (show i<9223372036854775807 by omega),hv,obS];exact⟨_,rfl,⟨i+1,rfl,c',hvl⟩,by simp only[tnC];omega⟩
    ·right;have c2:¬ (i:Int)<(l.length:Int):=by omega
     simp only[BB,c2,decide_false,bfT,if_false];exact⟨_,rfl,by omega⟩) (s:=([],0)) ⟨0,rfl,Nat.zero_le _,by simp⟩
   unfold Bn;rw[hr];exact⟨_,_,rfl,hq⟩
theorem PE(c:UInt8){s:List UInt8}(hl:s.length<=1048576):∃ t b,DC s [c]=some (t,b)∧t.length<=s.length:=by
 unfold DC Cu Ct
 by_cases h:(([c]:List UInt8).length:Int)<=(s.length:Int)
 ·rw[KR (by omega) (by simp) h];simp only[Bool.or_true,AG,obS];split
  ·exact⟨_,_,rfl,Nat.le_refl _⟩
  ·rw[KR (by simp) h (by omega),AG];exact⟨_,_,rfl,by unfold cut;simp⟩
 ·have e:decide ((([c]:List UInt8).length:Int)<=(s.length:Int))=false:=decide_eq_false h;rw[e];exact⟨_,_,rfl,Nat.le_refl _⟩
theorem cO{s:List UInt8}(hl:s.length<=1048576):∃ q,Jw s=some q:=by
 unfold Jw;rw[if_pos (by omega)];exact⟨_,rfl⟩
theorem TJ{s:List UInt8}(hl:s.length<=1048576):∃ q,Ee s=some q:=by
 obtain⟨t,b,e1,l1⟩:=PE 45 hl;unfold Ee;rw[e1,obS];have e2:Vr t [46]=some (Lib.cut t [46]):=by unfold Vr;rw[if_pos (by omega)]
 have l2:(Lib.cut t [46]).1.length<=1048576:=by
  by_cases h:(46:UInt8)∈t
  ·rcases IV 46 t with⟨_,q⟩|⟨x,y,rfl,q,_⟩
   ·exact absurd h q
   ·rw[PT q];simp at l1;simp only;omega
  ·rw[aK h];simp only;omega
 rw[e2,obS];obtain⟨q,e3⟩:=cO l2;rw[e3,obS];simp only[GF,Option.isSome_some,Bool.or_true,AG,Option.getD_some];generalize hr:(Lib.cut t [46]).2.1=rest;split
 ·exact⟨_,rfl⟩
 ·rename_i h
  have h3:rest.length=3:=by
   simp only[Bool.or_eq_true,not_or,Bool.not_eq_true',Bool.not_eq_false,beq_iff_eq] at h;omega
  have hL:([100,10,1]:List Int).length=3:=rfl;generalize ([100,10,1]:List Int)=L at hL
  obtain⟨y,hy,_⟩:=CT (step:=Fb s b rest L (L.length:Int)) (fun s=>∃ i:Nat,s.2=(i:Int)∧i<=3) (fun _=>True) (fun s=>3-s.2.toNat) (by
   rintro⟨n,z⟩ ⟨i,hi,hle⟩;have hi:z=(i:Int):=hi;subst hi
   by_cases c:i<3
   ·left;have c':(i:Int)<((3:Nat):Int):=by omega
    simp only[Fb,c',decide_true,if_true,Av,h3,hL,c,AG,At (show i<9223372036854775807 by omega)];refine⟨_,rfl,⟨i+1,rfl,c⟩,?_⟩;simp only[tnC];omega
   ·right;have c':¬ (i:Int)<(L.length:Int):=by omega
    simp only[Fb,c',decide_false,bfT,if_false];exact⟨_,rfl,trivial⟩) (s:=(i64.wrap (q.1*1000),0)) ⟨0,rfl,by omega⟩
  rw[hy,obS];split
  ·obtain⟨v,hv,_⟩:=Kv (i64.wrap (0-y));rw[hv,obS];split<;>exact⟨_,rfl⟩
  ·obtain⟨v,hv,_⟩:=Kv y;rw[hv,obS];split<;>exact⟨_,rfl⟩
theorem QO(kinds:List UInt8):∀ (l:List (List UInt8)) (i:Nat) (ns:List Int) (f b:Bool),i+l.length<=kinds.length->i+l.length+1<=ns.length->(∀ s∈l,s.length<=1048576)->∃ y,As kinds i l ns f b=some y∧y.1.length=ns.length
 | [],i,ns,f,b,_,_,_=>⟨_,rfl,rfl⟩
 | w::r,i,ns,f,b,h1,h2,h3=>by
  rw[List.length_cons] at h1 h2;have hw:=h3 w (by simp);have hr:∀ s∈r,s.length<=1048576:=fun s hs=>h3 s (List.mem_cons_of_mem _ hs)
  have go:∀ (z:Int) (f' b':Bool),∃ y,As kinds (i+1) r (ns.set (i+1) z) f' b'=some y∧y.1.length=ns.length:=fun z f' b'=>by
   obtain⟨y,e,l⟩:=QO kinds r (i+1) (ns.set (i+1) z) f' b' (by omega) (by rw[List.length_set];omega) hr;exact⟨y,e,by rw[l,List.length_set]⟩
  rw[As,decide_eq_true (by omega),AG,decide_eq_true (by omega),AG];split
  ·obtain⟨q,e⟩:=cO hw;rw[e,obS];exact go _ _ _
  ·split
   ·obtain⟨q,e⟩:=TJ hw;rw[e,obS];exact go _ _ _
   ·split
    ·obtain⟨t,c,e,l⟩:=PE 60 hw;obtain⟨q,e2⟩:=TJ (s:=t) (by omega);rw[e,obS,e2,obS];exact go _ _ _
    ·exact QO kinds r (i+1) ns f b (by omega) (by omega) hr
theorem Ly(c:UInt8):∀ (s acc:List UInt8),∀ p∈CJ c acc s,p.length<=acc.length+s.length
 | [],acc,p,h=>by
  have:p=acc:=by simpa[CJ] using h
  rw[this];simp
 | x::r,acc,p,h=>by
  rw[CJ] at h;split at h
  ·rcases List.mem_cons.1 h with rfl|h
   ·simp
   ·have:=Ly c r [] p h;simp at this ⊢;omega
  ·have:=Ly c r (acc++[x]) p h;simp at this ⊢;omega
theorem bm{l:List (List UInt8)}(hl:l.length<=1000)(s:List UInt8):∃ b,CQ l s=some b∧(b=true->s∈l):=by
 unfold CQ DY
 rw[LF (step:=Bj l s (l.length:Int)) (fun i=>s==l.getD i default) (fun j=>(j:Int)) l.length (fun i hi=>by
  simp only[Bj,Int.ofNat_lt,hi,decide_true,if_true,Av,AG,tnC,At (show i<9223372036854775807 by omega)];cases (s==l.getD i default)<;>rfl) (by simp[Bj])]
 cases hf:(List.range l.length).find? (fun i=>s==l.getD i default) with
 | none=>exact⟨_,rfl,fun h=>by simp at h⟩
 | some j=>
  rw[List.find?_range_eq_some] at hf;have hj:j<l.length:=by simpa using hf.2.1
  refine⟨_,rfl,fun _=>?_⟩;have:s=l.getD j default:=by simpa using hf.1
  rw[this];exact EH hj default
def aO:List (List UInt8):=[[97,109,112],[98,101,115,116],[99,117,114,118,101],[101,110,116,101,114],[101,115,116],[102,111,108,100],[108,97,115,116],[108,111,103],[112,97,105,114,115],[115,116,97,114]]
structure ABF(c:HA):Prop where
 first:c.words_.getD 0 default∈aO
 same:c.numbers_.length=c.words_.length
 many:∃ kinds,BS (c.words_.getD 0 default)=some kinds∧c.words_.length=kinds.length+1
theorem UX{line:List UInt8}(hl:line.length<=1048576):∃ c ok,Cv line=some (c,ok)∧(ok=true->ABF c):=by
 unfold Cv;rw[Zu (by omega),obS];obtain⟨l1,l2⟩:=NK 32 line [];have hp:=Ly 32 line [];have l1:1<=(DX 32 line).length:=l1;have l2:(DX 32 line).length<=line.length+1:=l2;have hp:∀ p∈DX 32 line,p.length<=1048576:=fun p h=>by have:=hp p h;simp at this;omega
 generalize DX 32 line=words at l1 l2 hp;have hck:(decide (0<words.length)&&decide (words.length<=1099511627776))=true:=by simp;omega
 rw[hck,AG]
 obtain⟨kinds,hk⟩:∃ k,BS (words.getD 0 default)=some k:=by
  unfold BS
  repeat' (first|exact⟨_,rfl⟩|split)
 obtain⟨b,hb,hm⟩:=bm (l:=aO) (by decide) (words.getD 0 default);rw[hk,obS,show Jd=some aO from rfl,obS,hb,obS];split
 ·exact⟨_,_,rfl,fun h=>by cases h⟩
 ·rename_i hc
  have hbt:b=true∧(words.length:Int)=(kinds.length:Int)+1:=by
   cases b with
   | false=>exact absurd rfl hc
   | true=>exact⟨rfl,by simpa using hc⟩
  obtain⟨rfl,hlen⟩:=hbt;obtain⟨y,e,hy⟩:=QO kinds (words.drop 1) 0 (List.replicate words.length 0) false false (by simp;omega) (by simp;omega) (fun s hs=>hp s (List.mem_of_mem_drop hs));rw[e,obS];exact⟨_,_,rfl,fun _=>⟨hm rfl,by simpa using hy,kinds,hk,by simp only;omega⟩⟩
structure bk(n:Nat)(d:Bc):Prop where
 gs:ID d.Stars=true
 ls:d.Stars.length<=60
 ge:FB d.Estimates=true
 le:d.Estimates.length<=n
 ln:n<=19
 st:∀ e∈d.Estimates,Nc d.Stars e.Star=true
 lo:Vl d.Log
theorem bk.desk{n:Nat}{d:Bc}(h:bk n d):dU d=true:=by
 unfold dU OG;have hc:=h.lo.code
 have:((List.range d.Estimates.length).all fun i=>Nc d.Stars (d.Estimates.getD i default).Star)=true:=by
  rw[List.all_eq_true];intro i hi;exact h.st _ (EH (by simpa using hi) default)
 rw[h.gs,h.ge,this,decide_eq_true h.ls,decide_eq_true (show d.Estimates.length<=100 by have:=h.le;have:=h.ln;omega),decide_eq_true hc];rfl
theorem Kh(s:List UInt8)(z:Int):FW s z=some ([s],z):=rfl
theorem wq{e:AD}(h:OM e=true):Pk e.Time∧e.Star.length<=100∧e.Observer.length<=100:=by
 unfold OM at h;simp only[baT,dtE] at h;obtain⟨⟨⟨⟨h1,h2⟩,h3⟩,h4⟩,_⟩:=h;have a:=(Ud h3).2;have b:=(Ud h4).2;exact⟨⟨by omega,by omega⟩,by omega,by omega⟩
theorem tN{n:Nat}{d:Bc}(hd:bk n d)(w:List UInt8):∃ e z,Fo d.Estimates w=some (e,z)∧Pk e.Time∧e.Star.length<=100∧e.Observer.length<=100:=by
 unfold Fo;have hv:BK d.Estimates=some true:=by rw[Fv (by have:=hd.le;have:=hd.ln;omega),hd.ge,decide_eq_true (by have:=hd.le;have:=hd.ln;omega)];rfl
 rw[hv,obS,Ge,obS];have h0:Pk (0:Int)∧([]:List UInt8).length<=100∧([]:List UInt8).length<=100:=⟨by unfold Pk;decide,by simp,by simp⟩;split
 ·exact⟨_,_,rfl,h0⟩
 ·split
  ·exact⟨_,_,rfl,h0⟩
  ·split
   ·rename_i e he
    have hm:e∈d.Estimates:=by
     have:=List.mem_of_find?_eq_some he;simpa using this
    obtain⟨i,hi,rfl⟩:=List.getElem_of_mem hm;have hg:=hd.ge;unfold FB at hg;have h1:=La hg hi;unfold vU at h1;rw[Kq hi] at h1;exact⟨_,_,rfl,wq (Bool.and_eq_true_iff.1 h1).1⟩
   ·exact⟨_,_,rfl,h0⟩
theorem fJ{n:Nat}{d:Bc}{c:HA}(hd:bk n d)(h2:2<=c.words_.length)(hb:c.words_.getD 0 default=[98,101,115,116]->5<=c.numbers_.length)(hf:c.words_.getD 0 default=[102,111,108,100]->3<=c.numbers_.length):
  ∃ out z,Ci d c=some (out,z)∧Nz out∧(z=0->out≠[]):=by
 obtain⟨cu,z,e1,l1,r1⟩:=hZ (Nat.le_trans hd.le hd.ln) (c.words_.getD 1 default);unfold Ci;rw[CX (by omega) (by omega),AG,e1,obS];split
 ·rename_i h;exact⟨_,_,rfl,⟨by simp,by simp⟩,fun e=>by simp only at e h;rw[e] at h;exact absurd h (by decide)⟩
 ·rw[CX (by omega) (by omega),AG];split
  ·obtain⟨v,z2,e2,r2⟩:=bE (show cu.length<=100 by omega);obtain⟨s,e3,l3⟩:=EB r2;rw[e2,obS,e3,obS,Kh,obS];exact⟨_,_,rfl,KC (by omega),fun _=>by simp⟩
  ·split
   ·rename_i hw;have h5:=hb (by simpa using hw);obtain⟨v,z2,e2,r2⟩:=WF (x:=⟨c.numbers_.getD 2 default,c.numbers_.getD 3 default,c.numbers_.getD 4 default⟩) l1;obtain⟨s,e3,l3⟩:=EB r2;rw[CX (by omega) (by omega),AG,CX (by omega) (by omega),AG,CX (by omega) (by omega),AG,e2,obS,e3,obS,Kh,obS];exact⟨_,_,rfl,KC (by omega),fun _=>by simp⟩
   ·split
    ·rename_i hw;have h3:=hf (by simpa using hw);obtain⟨o,z2,e2,l2,m2⟩:=bA (e:=⟨0,c.numbers_.getD 2 default⟩) l1;rw[CX (by omega) (by omega),AG,e2,obS];split
     ·rw[Kh,obS];exact⟨_,_,rfl,KC (by simp),fun _=>by simp⟩
     ·obtain⟨s,e3,l3⟩:=jT l2 (fun x hx=>⟨by have:=m2 x hx;omega,by have:=m2 x hx;omega⟩);rw[e3,obS,Kh,obS];exact⟨_,_,rfl,KC (by omega),fun _=>by simp⟩
    ·obtain⟨y,hy,h1,h2⟩:=CT (step:=DS cu (cu.length:Int)) (fun s=>∃ i:Nat,s.2=(i:Int)∧i<=cu.length∧s.1.length=i∧∀ w∈s.1,w.length<=200) (fun r=>r.length<=100∧∀ w∈r,w.length<=200) (fun s=>cu.length-s.2.toNat) (by
      rintro⟨out,z⟩ ⟨i,hi,hle,hlo,hw⟩;have hi:z=(i:Int):=hi;have hlo:out.length=i:=hlo;have hw:∀ w∈out,w.length<=200:=hw;subst hi
      by_cases c':i<cu.length
      ·left;obtain⟨a,ha,la⟩:=EB (r1 _ (EH c' default));obtain⟨b,hb,lb⟩:=Kv (cu.getD i default).Mag;simp only[DS,Int.ofNat_lt,c',decide_true,if_true,Av,AG,tnC,ha,hb,obS,At (show i<9223372036854775807 by omega)];rw[BR (by simp;omega),AG,BR (by simp;omega),AG,DM (by simp;omega),AG];refine⟨_,rfl,⟨i+1,rfl,c',by simp;omega,fun w hw2=>?_⟩,by simp only[tnC];omega⟩;rcases List.mem_append.1 hw2 with q|q
       ·exact hw w q
       ·obtain rfl:w=(a++[32])++b:=by simpa using q
        simp;omega
      ·right;have c2:¬ (i:Int)<(cu.length:Int):=by omega
       simp only[DS,c2,decide_false,bfT,if_false];exact⟨_,rfl,by omega,hw⟩) (s:=([],0)) ⟨0,rfl,Nat.zero_le _,rfl,by simp⟩
     rw[hy,obS];obtain⟨out,e2,ok,ne⟩:=VM (by omega) h2;rw[e2,obS];exact⟨_,_,rfl,ok,fun _=>ne⟩
theorem bk.up{n:Nat}{d:Bc}(h:bk n d)(hn:n<=18):bk (n+1) d:=⟨h.gs,h.ls,h.ge,Nat.le_succ_of_le h.le,by omega,h.st,h.lo⟩
theorem kP{n:Nat}{d:Bc}{c:HA}(hd:bk n d)(hn18:n<=18)(hc:ABF c)(hw:c.words_.getD 0 default=[115,116,97,114]∨c.words_.getD 0 default=[101,115,116]∨c.words_.getD 0 default=[101,110,116,101,114]):
  ∃ out z d',DU d c=some (out,z,d')∧Nz out∧(z=0->out≠[]∧bk (n+1) d'):=by
 obtain⟨kinds,hk,hlen⟩:=hc.many;have hsame:=hc.same;have hls:=hd.ls;have hle:=hd.le;have hln:=hd.ln;unfold DU;rw[CX (by omega) (by omega),AG];rcases hw with hw|hw|hw
 ·rw[hw] at hk ⊢
  have hkl:kinds.length=5:=by
   have:BS [115,116,97,114]=some [119,110,110,109,109]:=by unfold BS;rfl
   rw[this] at hk;cases hk;rfl
  rw[if_pos (by decide),CX (by omega) (by omega),AG,CX (by omega) (by omega),AG,CX (by omega) (by omega),AG,CX (by omega) (by omega),AG,CX (by omega) (by omega),AG,oL (by omega),obS];have hl2:=AAc (l:=d.Stars) (x:=⟨c.words_.getD 1 default,c.numbers_.getD 2 default,c.numbers_.getD 3 default,c.numbers_.getD 4 default,c.numbers_.getD 5 default⟩) (by omega);have hok:=AEV (l:=d.Stars) (x:=⟨c.words_.getD 1 default,c.numbers_.getD 2 default,c.numbers_.getD 3 default,c.numbers_.getD 4 default,c.numbers_.getD 5 default⟩) (by omega);generalize bg d.Stars ⟨c.words_.getD 1 default,c.numbers_.getD 2 default,c.numbers_.getD 3 default,c.numbers_.getD 4 default,c.numbers_.getD 5 default⟩=r at hl2 hok;obtain⟨s,e1,l1⟩:=Ld (d:=⟨r.1,d.Estimates,d.Log⟩) (by simp only;omega) (by simp only;omega);rw[e1,obS,Kh,obS];refine⟨_,_,_,rfl,KC (by omega),fun hz=>⟨by simp,?_⟩⟩;obtain⟨g1,g2,g3⟩:=hok hz;exact⟨g1,g2,hd.ge,by simp only;omega,by omega,fun e he=>g3 _ (hd.st e he),hd.lo⟩
 ·rw[hw] at hk ⊢
  have hkl:kinds.length=4:=by
   have:BS [101,115,116]=some [110,119,119,102]:=by unfold BS;rfl
   rw[this] at hk;cases hk;rfl
  rw[if_neg (by decide),if_pos (by decide),CX (by omega) (by omega),AG,Qc (by omega),obS];cases hs:Nc d.Stars (c.words_.getD 2 default) with
  | false=>exact⟨_,_,_,rfl,⟨by simp,by simp⟩,fun h=>absurd h (by decide)⟩
  | true=>
   rw[if_neg (by decide),CX (by omega) (by omega),AG,CX (by omega) (by omega),AG,CX (by omega) (by omega),AG,bF (by omega),obS];have hl2:=AAd (l:=d.Estimates) (e:=⟨c.numbers_.getD 1 default,c.words_.getD 2 default,c.words_.getD 3 default,c.numbers_.getD 4 default,c.fainter_⟩);have hok:=AEW (l:=d.Estimates) (e:=⟨c.numbers_.getD 1 default,c.words_.getD 2 default,c.words_.getD 3 default,c.numbers_.getD 4 default,c.fainter_⟩) (by omega);generalize bh d.Estimates ⟨c.numbers_.getD 1 default,c.words_.getD 2 default,c.words_.getD 3 default,c.numbers_.getD 4 default,c.fainter_⟩=r at hl2 hok;obtain⟨s,e1,l1⟩:=Ld (d:=⟨d.Stars,r.1,d.Log⟩) (by simp only;omega) (by simp only;omega);rw[e1,obS,Kh,obS];refine⟨_,_,_,rfl,KC (by omega),fun hz=>⟨by simp,?_⟩⟩;obtain⟨g1,g2,g3⟩:=hok hz;refine⟨hd.gs,hd.ls,g1,by simp only;omega,by omega,fun e he=>?_,hd.lo⟩;rcases g3 e he with rfl|h
   ·exact hs
   ·exact hd.st e h
 ·rw[hw] at hk ⊢
  have hkl:kinds.length=3:=by
   have:BS [101,110,116,101,114]=some [110,119,110]:=by unfold BS;rfl
   rw[this] at hk;cases hk;rfl
  obtain⟨lg,z,e1,ok⟩:=bp hd.lo ⟨c.numbers_.getD 1 default,c.words_.getD 2 default,c.numbers_.getD 3 default⟩;rw[if_neg (by decide),if_neg (by decide),CX (by omega) (by omega),AG,CX (by omega) (by omega),AG,CX (by omega) (by omega),AG,e1,obS]
  by_cases hz:z=0
  ·subst hz;obtain⟨vs,z2,e2,l2⟩:=bi (ok rfl) (c.words_.getD 2 default);obtain⟨v,e3,r3⟩:=iP (l:=vs) (by omega);obtain⟨s,e4,l4⟩:=EB r3;rw[if_neg (by simp),e2,obS,e3,obS,e4,obS,Kh,obS];exact⟨_,_,_,rfl,KC (by omega),fun _=>⟨by simp,hd.gs,hd.ls,hd.ge,by simp only;omega,by omega,hd.st,ok rfl⟩⟩
  ·rw[if_pos (by simpa using hz)];exact⟨_,_,_,rfl,⟨by simp,by simp⟩,fun h=>absurd h hz⟩
theorem gK{n:Nat}{d:Bc}{c:HA}(hd:bk n d)(hn18:n<=18)(hc:ABF c):∃ out z d',Fq d c=some (out,z,d')∧Nz out∧(z=0->out≠[]∧bk (n+1) d'):=by
 obtain⟨kinds,hk,hlen⟩:=hc.many;have hsame:=hc.same;have hfirst:=hc.first;have hls:=hd.ls;have hle:=hd.le;have hln:=hd.ln;unfold Fq;rw[CX (by omega) (by omega),AG]
 have kf:∀ w ks,c.words_.getD 0 default=w->BS w=some ks->c.words_.length=ks.length+1:=fun w ks e h=>by
  rw[e,h] at hk;cases hk;exact hlen
 have ch:(c.words_.getD 0 default=[115,116,97,114]∨c.words_.getD 0 default=[101,115,116]∨c.words_.getD 0 default=[101,110,116,101,114])->∃ out z d',((DU d c).bind fun y=>some (y.1,y.2.1,y.2.2))=some (out,z,d')∧Nz out∧(z=0->out≠[]∧bk (n+1) d'):=fun h=>by
  obtain⟨out,z,d',e,h2⟩:=kP hd hn18 hc h;exact⟨out,z,d',by rw[e];rfl,h2⟩
 have cu:2<=c.words_.length->(c.words_.getD 0 default=[98,101,115,116]->5<=c.numbers_.length)->(c.words_.getD 0 default=[102,111,108,100]->3<=c.numbers_.length)->∃ out z d',((Ci d c).bind fun y=>some (y.1,y.2,d))=some (out,z,d')∧Nz out∧(z=0->out≠[]∧bk (n+1) d'):=fun h1 h2 h3=>by
  obtain⟨out,z,e,q1,q2⟩:=fJ hd h1 h2 h3;exact⟨out,z,d,by rw[e];rfl,q1,fun hz=>⟨q2 hz,hd.up hn18⟩⟩
 by_cases hw:c.words_.getD 0 default=[115,116,97,114]
 ·rw[if_pos (show (c.words_.getD 0 default==([115,116,97,114]:List UInt8))=true by rw[hw];rfl)];exact ch (.inl hw)
 ·rw[if_neg (show ¬ (c.words_.getD 0 default==([115,116,97,114]:List UInt8))=true by simpa using hw)]
  by_cases hw:c.words_.getD 0 default=[101,115,116]
  ·rw[if_pos (show (c.words_.getD 0 default==([101,115,116]:List UInt8))=true by rw[hw];rfl)];exact ch (.inr (.inl hw))
  ·rw[if_neg (show ¬ (c.words_.getD 0 default==([101,115,116]:List UInt8))=true by simpa using hw)]
   by_cases hw:c.words_.getD 0 default=[101,110,116,101,114]
   ·rw[if_pos (show (c.words_.getD 0 default==([101,110,116,101,114]:List UInt8))=true by rw[hw];rfl)];exact ch (.inr (.inr hw))
   ·rw[if_neg (show ¬ (c.words_.getD 0 default==([101,110,116,101,114]:List UInt8))=true by simpa using hw)]
    by_cases hw:c.words_.getD 0 default=[99,117,114,118,101]
    ·rw[if_pos (show (c.words_.getD 0 default==([99,117,114,118,101]:List UInt8))=true by rw[hw];rfl)];have:=kf _ [119] hw (by unfold BS;rfl);refine cu (by rw[this];simp) (fun h=>?_) (fun h=>?_)<;>(rw[hw] at h;exact absurd h (by decide))
    ·rw[if_neg (show ¬ (c.words_.getD 0 default==([99,117,114,118,101]:List UInt8))=true by simpa using hw)]
     by_cases hw:c.words_.getD 0 default=[97,109,112]
     ·rw[if_pos (show (c.words_.getD 0 default==([97,109,112]:List UInt8))=true by rw[hw];rfl)];have:=kf _ [119] hw (by unfold BS;rfl);refine cu (by rw[this];simp) (fun h=>?_) (fun h=>?_)<;>(rw[hw] at h;exact absurd h (by decide))
     ·rw[if_neg (show ¬ (c.words_.getD 0 default==([97,109,112]:List UInt8))=true by simpa using hw)]
      by_cases hw:c.words_.getD 0 default=[98,101,115,116]
      ·rw[if_pos (show (c.words_.getD 0 default==([98,101,115,116]:List UInt8))=true by rw[hw];rfl)];have:=kf _ [119,110,110,110] hw (by unfold BS;rfl);refine cu (by rw[this];simp) (fun _=>by rw[hsame,this];simp) (fun h=>?_);rw[hw] at h;exact absurd h (by decide)
      ·rw[if_neg (show ¬ (c.words_.getD 0 default==([98,101,115,116]:List UInt8))=true by simpa using hw)]
       by_cases hw:c.words_.getD 0 default=[102,111,108,100]
       ·rw[if_pos (show (c.words_.getD 0 default==([102,111,108,100]:List UInt8))=true by rw[hw];rfl)];have:=kf _ [119,110] hw (by unfold BS;rfl);refine cu (by rw[this];simp) (fun h=>?_) (fun _=>by rw[hsame,this];simp);rw[hw] at h;exact absurd h (by decide)
       ·rw[if_neg (show ¬ (c.words_.getD 0 default==([102,111,108,100]:List UInt8))=true by simpa using hw)]
        by_cases hw:c.words_.getD 0 default=[108,97,115,116]
        ·rw[if_pos (show (c.words_.getD 0 default==([108,97,115,116]:List UInt8))=true by rw[hw];rfl)];have:=kf _ [119] hw (by unfold BS;rfl);have hn:2=c.words_.length:=by rw[this];simp
         obtain⟨e,z,e1,r1,r2,r3⟩:=tN hd (c.words_.getD 1 default);obtain⟨s,e2,l2⟩:=tI r1 r2 r3;rw[CX (by omega) (by omega),AG,e1,obS,e2,obS,Kh,obS];exact⟨_,_,_,rfl,KC (by omega),fun _=>⟨by simp,hd.up hn18⟩⟩
        ·rw[if_neg (show ¬ (c.words_.getD 0 default==([108,97,115,116]:List UInt8))=true by simpa using hw)]
         by_cases hw:c.words_.getD 0 default=[112,97,105,114,115]
         ·rw[if_pos (show (c.words_.getD 0 default==([112,97,105,114,115]:List UInt8))=true by rw[hw];rfl)];have:=kf _ [110,110] hw (by unfold BS;rfl);have hn:3=c.words_.length:=by rw[this];simp
          obtain⟨ps,z,e1,l1⟩:=lk (show d.Estimates.length<=100 by omega) (c.numbers_.getD 1 default) (c.numbers_.getD 2 default);obtain⟨s,e2,l2⟩:=EB (n:=(ps.length:Int)) ⟨by omega,by omega⟩;rw[CX (by omega) (by omega),AG,CX (by omega) (by omega),AG,e1,obS];unfold Gx;rw[obS,e2,obS,Kh,obS];exact⟨_,_,_,rfl,KC (by omega),fun _=>⟨by simp,hd.up hn18⟩⟩
         ·rw[if_neg (show ¬ (c.words_.getD 0 default==([112,97,105,114,115]:List UInt8))=true by simpa using hw)];have hcode:=hd.lo.code;have hll:=hd.lo.len;obtain⟨es,e1,q1,q2⟩:=Nu (log:=d.Log) (by omega);obtain rfl:=q1 hcode;obtain⟨b1,b2,b3⟩:=gS hcode;have hone:∀ e∈(Et d.Log).1,IP e=true:=(RQ d.Log).ok
          obtain⟨y,hy,h1,h2⟩:=CT (step:=DT d (Ie d.Log) (Et d.Log).1 ((Et d.Log).1.length:Int)) (fun s=>∃ i:Nat,s.2=(i:Int)∧i<=(Et d.Log).1.length∧s.1.length=i∧∀ w∈s.1,w.length<=200) (fun r=>r.length<=4000∧∀ w∈r,w.length<=200) (fun s=>(Et d.Log).1.length-s.2.toNat) (by
           rintro⟨out,z⟩ ⟨i,hi,hle,hlo,hw⟩;have hi:z=(i:Int):=hi;have hlo:out.length=i:=hlo;have hw:∀ w∈out,w.length<=200:=hw;subst hi
           by_cases c':i<(Et d.Log).1.length
           ·left;have ho:=hone _ (EH c' default);have lw:=Ky ho;simp only[DT,Int.ofNat_lt,c',decide_true,if_true,Av,AG,tnC,YS ho,obS,At (show i<9223372036854775807 by omega)];rw[DM (by simp;omega),AG];refine⟨_,rfl,⟨i+1,rfl,c',by simp;omega,fun w hw2=>?_⟩,by simp only[tnC];omega⟩;rcases List.mem_append.1 hw2 with q|q
            ·exact hw w q
            ·obtain rfl:w=Hw ((Et d.Log).1.getD i default):=by simpa using q
             omega
           ·right;have c2:¬ (i:Int)<((Et d.Log).1.length:Int):=by omega
            simp only[DT,c2,decide_false,bfT,if_false];exact⟨_,rfl,by omega,hw⟩) (s:=([],0)) ⟨0,rfl,Nat.zero_le _,rfl,by simp⟩
          obtain⟨out,e2,ok,ne⟩:=VM (l:=y) h1 h2;rw[e1,obS];simp only;rw[hy,obS,e2,obS];exact⟨_,_,_,rfl,ok,fun _=>⟨ne,hd.up hn18⟩⟩
theorem cC{n:Nat}{d:Bc}{line:List UInt8}(hd:bk n d)(hn18:n<=18)(hl:line.length<=1048576):∃ d' out ok,He d line=some (d',out,ok)∧Nz out∧(ok=true->out≠[]∧bk (n+1) d'):=by
 have hls:=hd.ls;have hle:=hd.le;have hln:=hd.ln;obtain⟨c,k,e1,h1⟩:=UX hl
 have err:∀ z:Int,∃ d' out ok,((GG z).bind fun y=>ck (DW ([101,114,114,111,114,32]:List UInt8).length y.length) <| some ((Bc.mk d.Stars d.Estimates d.Log),([(([101,114,114,111,114,32]:List UInt8)++y)]:List (List UInt8)),true))=some (d',out,ok)∧Nz out∧(ok=true->out≠[]∧bk (n+1) d'):=fun z=>by
  obtain⟨s,e,l⟩:=bn z;rw[e,obS,BR (by simp;omega),AG];exact⟨_,_,_,rfl,KC (by simp;omega),fun _=>⟨by simp,hd.up hn18⟩⟩
 unfold He;rw[kK (by omega),obS,kL (by omega),obS,e1,obS];split
 ·exact⟨_,_,_,rfl,⟨by simp,by simp⟩,fun h=>by cases h⟩
 ·rename_i hk;have hk:k=true:=by simpa using hk
  have hc:=h1 hk;split
  ·obtain⟨out,z,d',e2,ok,h2⟩:=gK (d:=⟨d.Stars,d.Estimates,d.Log⟩) hd hn18 hc;rw[e2,obS];split
   ·exact err z
   ·rename_i hz;have hz:z=0:=by simpa using hz
    exact⟨_,_,_,rfl,ok,fun _=>h2 hz⟩
  ·exact err 7
theorem VF{n:Nat}{d:Bc}{line:List UInt8}(hd:bk n d)(hn18:n<=18)(hl:line.length<=1048576):∃ d' out ok,He d line=some (d',out,ok)∧Nz out∧(ok=true->out≠[]∧bk (n+1) d') ∧
  Gf d line=some (if ok=true then (d',out,0) else (⟨[],[],[]⟩,[],7)):=by
 obtain⟨d',out,ok,e,h1,h2⟩:=cC hd hn18 hl;refine⟨d',out,ok,e,h1,h2,?_⟩;have hls:=hd.ls;have hle:=hd.le;have hln:=hd.ln;have hll:=hd.lo.len;unfold Gf;rw[TH (by omega) (by omega) (by omega),hd.desk,obS,if_neg (by decide),e,obS];cases ok<;>rfl
theorem aH:∀ {l:List (List UInt8)},(∀ s∈l,s.length<=5000)->(Ck l).length<=5001*l.length
 | [],_=>by simp[Ck]
 | x::r,h=>by
  have h1:=h x (by simp);have h2:=aH (l:=r) fun s hs=>h s (List.mem_cons_of_mem _ hs)
  simp only[Ck,List.length_append,List.length_cons];omega
theorem oo{l:List (List UInt8)}(h:Nz l):(Ck l).length<=25005000:=by
 have:=aH h.2;have:=h.1;omega
def Oz(m:Nat)(s:Cq):Prop:=0<=s.at_∧s.at_+m<=1000000000000∧s.code_.length<=1099511627776
theorem Oz.le{m n:Nat}{s:Cq}(h:Oz m s)(hn:n<=m):Oz n s:=⟨h.1,by have:=h.2.1;omega,h.2.2⟩
theorem AEf(c:List UInt8):Kk c=some ⟨c,0,0⟩:=id rfl
theorem qG{c:List UInt8}(h:c.length<=1099511627776):Oz 900000000000 ⟨c,0,0⟩:=⟨by show (0:Int)<=0;omega,by show (0:Int)+_<=_;omega,h⟩
theorem oA(n:Int):0<=u64.wrap (BitVec.ofInt (IntKind.bits .u64) n &&& BitVec.ofInt (IntKind.bits .u64) 255).toNat∧u64.wrap (BitVec.ofInt (IntKind.bits .u64) n &&& BitVec.ofInt (IntKind.bits .u64) 255).toNat<=255:=by
 have h:(BitVec.ofInt (IntKind.bits .u64) n &&& BitVec.ofInt (IntKind.bits .u64) 255).toNat<=255:=by
  rw[BitVec.toNat_and];refine Nat.le_trans Nat.and_le_right ?_;decide
 generalize (BitVec.ofInt (IntKind.bits .u64) n &&& BitVec.ofInt (IntKind.bits .u64) 255).toNat=q at h ⊢;unfold IntKind.wrap IntKind.bits;simp[IntKind.signed];omega
theorem ou{m:Nat}{s:Cq}(h:Oz (m+1) s):∃ v s',El s=some (v,s')∧0<=v∧v<=255∧Oz m s':=by
 obtain⟨c,at_,seed⟩:=s;obtain⟨h1,h2,h3⟩:=h;simp only at h1 h2 h3;have w:i64.wrap (at_+1)=at_+1:=wrap_i64 (by omega) (by omega);have hn:∀ z,Oz m ⟨c,at_+1,z⟩:=fun z=>⟨by show 0<=at_+1;omega,by show at_+1+(m:Int)<=_;omega,h3⟩
 have w255:∀ n,i64.wrap (u64.wrap (BitVec.ofInt (IntKind.bits .u64) n &&& BitVec.ofInt (IntKind.bits .u64) 255).toNat)=u64.wrap (BitVec.ofInt (IntKind.bits .u64) n &&& BitVec.ofInt (IntKind.bits .u64) 255).toNat:=fun n=>by
  have:=oA n;exact wrap_i64 (by omega) (by omega)
 unfold El;simp only[w]
 by_cases c1:at_<(c.length:Int)
 ·have b:=vg (c.getD at_.toNat default);have c2:at_+1<=(c.length:Int):=by omega
  rw[CX h1 (by omega)];simp only[c1,c2,decide_true,if_true,AG];exact⟨_,_,rfl,by omega,by omega,hn _⟩
 ·simp only[c1,decide_false,bfT,if_false];have c2:¬ at_+1<=(c.length:Int):=by omega
  simp only[c2,decide_false,bfT,if_false];rw[od (by omega),AG,w255];exact⟨_,_,rfl,(oA _).1,(oA _).2,hn _⟩
theorem fD{m:Nat}{s:Cq}(h:Oz (m+2) s){n:Int}(hn:n<=9223372036854775807):∃ v s',Dq s n=some (v,s')∧0<=v∧(1<=n->v<n)∧(n<=1->v=0)∧Oz m s':=by
 unfold Dq
 by_cases c:n<=1
 ·simp only[c,decide_true,if_true];exact⟨0,s,rfl,by omega,by omega,fun _=>rfl,h.le (by omega)⟩
 ·obtain⟨v1,s1,e1,a1,b1,h1⟩:=ou h;obtain⟨v2,s2,e2,a2,b2,h2⟩:=ou h1;simp only[c,decide_false,bfT,if_false,e1,obS]
  by_cases c2:200<n
  ·have w1:i64.wrap (v1*256)=v1*256:=wrap_i64 (by omega) (by omega);have w2:i64.wrap (v1*256+v2)=v1*256+v2:=wrap_i64 (by omega) (by omega);simp only[c2,decide_true,if_true,e2,obS,MY (show n≠0 by omega),AG,w1,w2,Int.tmod_eq_emod_of_nonneg (show 0<=v1*256+v2 by omega)];exact⟨_,_,rfl,Int.emod_nonneg _ (by omega),fun _=>Int.emod_lt_of_pos _ (by omega),fun hc=>hc.elim,h2⟩
  ·simp only[c2,decide_false,bfT,if_false,MY (show n≠0 by omega),AG,Int.tmod_eq_emod_of_nonneg a1];exact⟨_,_,rfl,Int.emod_nonneg _ (by omega),fun _=>Int.emod_lt_of_pos _ (by omega),fun hc=>hc.elim,h1.le (by omega)⟩
theorem ABN{m:Nat}{s:Cq}(h:Oz (m+2) s){l:List (List UInt8)}(h1:1<=l.length)(h2:l.length<=1000):∃ v s',Bh s l=some (v,s')∧v∈l∧Oz m s':=by
 obtain⟨v,s',e,a,b,_,h'⟩:=fD h (n:=(l.length:Int)) (by omega);have:=b (by omega);unfold Bh;rw[e];simp only[obS];rw[CX a (by omega),AG];exact⟨_,s',rfl,EH (by omega) _,h'⟩
def Ma(l:List UInt8):Bool:=decide (l.length<=100)&&l.all fun c=>c != 10
theorem ZB{l:List UInt8}(h:Ma l=true):l.length<=100∧10 ∉ l:=by
 unfold Ma at h;simp only[baT,dtE,List.all_eq_true,bne_iff_ne] at h;exact⟨h.1,fun c=>h.2 _ c rfl⟩
theorem Iz{m:Nat}{s:Cq}(h:Oz (m+2) s){L:List (List UInt8)}(hL:((decide (1<=L.length)&&decide (L.length<=1000))&&L.all Ma)=true):∃ v s',((Bh s L).bind fun y=>some (y.1,y.2))=some (v,s')∧Ma v=true∧Oz m s':=by
 simp only[baT,dtE] at hL;obtain⟨v,s',e,hv,hs⟩:=ABN h hL.1.1 hL.1.2;exact⟨v,s',by rw[e];rfl,List.all_eq_true.1 hL.2 v hv,hs⟩
theorem ml{m:Nat}{s:Cq}(h:Oz (m+4) s):∃ v s',JM s=some (v,s')∧Ma v=true∧Oz m s':=by
 obtain⟨p,s1,e1,_,_,_,h1⟩:=fD (m:=m+2) h (n:=8) (by omega);unfold JM;rw[e1,obS];split
 ·exact Iz h1 (by decide)
 ·split
  ·exact Iz h1 (by decide)
  ·split
   ·exact Iz h1 (by decide)
   ·split
    ·exact Iz h1 (by decide)
    ·split
     ·exact Iz h1 (by decide)
     ·split
      ·exact Iz h1 (by decide)
      ·split
       ·exact Iz h1 (by decide)
       ·exact Iz h1 (by decide)
theorem oM{c:List UInt8}(hc:c.length<=1099511627776):∃ l,JQ c=some l∧l.length<=11∧∀ x∈l,Ma x=true:=by
 obtain⟨p,s1,e1,q0,q1,_,h1⟩:=fD (m:=1000) ((qG hc).le (by omega)) (n:=10) (by omega);have q1:=q1 (by omega);unfold JQ;rw[AEf,obS,e1,obS];have hw:i64.wrap (1+p)=1+p:=wrap_i64 (by omega) (by omega);simp only[hw]
 obtain⟨y,hy,l1,l2⟩:=CT (step:=HF) (fun s=>∃ k:Nat,s.2.2=(k:Int)∧k<=10∧s.2.1.length+k<=11∧Oz (4*k) s.1∧∀ x∈s.2.1,Ma x=true) (fun r=>r.length<=11∧∀ x∈r,Ma x=true) (fun s=>s.2.2.toNat) (by
  rintro⟨s,out,z⟩ ⟨k,hk,hk2,hl,hs,ho⟩;have hk:z=(k:Int):=hk;have hl:out.length+k<=11:=hl;have hs:Oz (4*k) s:=hs;have ho:∀ x∈out,Ma x=true:=ho;subst hk;cases k with
  | zero=>
   right;exact⟨_,rfl,by omega,ho⟩
  | succ k=>
   left;obtain⟨v,s',e,hv,hs'⟩:=ml (m:=4*k) hs;have c:(0:Int)<((k+1:Nat):Int):=by omega
   simp only[HF,c,decide_true,if_true,e,obS];rw[DM (by simp;omega),AG,wrap_i64 (by omega) (by omega)];refine⟨_,rfl,⟨k,by simp only;omega,by omega,by simp;omega,hs',fun x hx=>?_⟩,by simp only;omega⟩;rcases List.mem_append.1 hx with q|q
   ·exact ho x q
   ·obtain rfl:x=v:=by simpa using q
    exact hv) (s:=(s1,[[115,116,97,114,32,109,105,114,97,32,56,51,54,48,32,45,49,48,55,50,51,32,50,46,48,48,48,32,49,48,46,49,48,48]],1+p)) ⟨(1+p).toNat,by simp only;omega,by omega,by simp;omega,h1.le (by omega),(fun x hx=>by
   have hx:x∈([[115,116,97,114,32,109,105,114,97,32,56,51,54,48,32,45,49,48,55,50,51,32,50,46,48,48,48,32,49,48,46,49,48,48]]:List (List UInt8)):=hx;rw[List.mem_singleton.1 hx];decide)⟩
 rw[hy];exact⟨_,rfl,l1,l2⟩
def VH (d:Bc) (line:List UInt8):Bc×List (List UInt8)×Bool:=(He d line).getD default
def fG:Bc->List (List UInt8)->List UInt8
 | _,[]=>[]
 | d,l::r=>Ck (if (VH d l).2.2=true then (VH d l).2.1 else [[63]])++fG (if (VH d l).2.2=true then (VH d l).1 else d) r
theorem wR:∀ (lines:List (List UInt8)) (n k:Nat) (d:Bc) (acc:List UInt8),lines.length<=k->k<=60->bk n d->n+lines.length<=18->(∀ x∈lines,Ma x=true)->acc.length+30000000*lines.length<=10000000000->CK k (Ck lines) d acc=some (acc++fG d lines)
 | [],n,k,d,acc,_,_,_,_,_,_=>by
  cases k<;>(rw[CK,if_pos (show Ck []=[] from rfl)];simp[fG])
 | l::r,n,0,d,acc,h,_,_,_,_,_=>by simp at h
 | l::r,n,k+1,d,acc,h1,h2,hd,hn,hl,hb=>by
  rw[List.length_cons] at hn;obtain⟨q1,q2⟩:=ZB (hl l (by simp));obtain⟨d',out,ok,e,ho,hok⟩:=cC hd (by omega) (line:=l) (by omega);have hv:VH d l=(d',out,ok):=by unfold VH;rw[e];rfl
  have hr:∀ x∈r,Ma x=true:=fun x hx=>hl x (List.mem_cons_of_mem _ hx)
  have hlen:(Ck (l::r)).length<4294967281:=by
   have:∀ m:List (List UInt8),(∀ x∈m,Ma x=true)->(Ck m).length<=101*m.length:=fun m hm=>by
    induction m with
    | nil=>simp[Ck]
    | cons a b ih=>
     have:=(ZB (hm a (by simp))).1;have:=ih fun x hx=>hm x (List.mem_cons_of_mem _ hx)
     simp only[Ck,List.length_append,List.length_cons];omega
   have:=this (l::r) hl;simp at h1;simp only[List.length_cons] at this ⊢;omega
  have hcut:Vr (Ck (l::r)) [10]=some (l,Ck r,true):=by
   rw[jj hlen];show some (Lib.cut (l++10::Ck r) [10])=_;rw[PT q2]
  have hne:Ck (l::r)≠[]:=by unfold Ck;simp
  rw[CK,if_neg hne,hcut,obS,e,obS];have ho2:=oo ho
  have hbo:(Ck (if ok=true then out else [[63]])).length<=25005000:=by
   split
   ·exact ho2
   ·simp[Ck]
  simp only[List.length_cons] at h1 hb
  have hck:(decide ((acc++Ck (if ok=true then out else [[63]])).length<=1099511627776)&&decide (out.length<=1099511627776))=true:=by
   have:=ho.1;rw[List.length_append];simp;omega
  simp only
  rw[hck,AG,wR r (n+1) k _ _ (by omega) (by omega) (by
   split
   ·rename_i c;exact (hok c).2
   ·exact hd.up (by omega)) (by omega) hr (by rw[List.length_append];omega)]
  rw[fG,hv,List.append_assoc]
theorem nT{l:List (List UInt8)}{j:Nat}(h:j<l.length):Ck (l.take (j+1))=Ck (l.take j)++(l.getD j default++[10]):=by
 have happ:∀ a b:List (List UInt8),Ck (a++b)=Ck a++Ck b:=fun a b=>by
  induction a with
  | nil=>rfl
  | cons x r ih=>show x++10::Ck (r++b)=(x++10::Ck r)++Ck b;rw[ih];simp
 rw[List.take_succ_eq_append_getElem h,happ,Kq h];simp[Ck]
theorem pu{lines:List (List UInt8)}{d d':Bc}{text:List UInt8}{i:Int}{out:List (List UInt8)}(ho:Nz out){want:List UInt8}(hw:want.length<=1000000000000):AS (Da lines d text i d' out) (want,0)=some (want++Ck out):=by
 have hl:=ho.1
 have:=YT (step:=Da lines d text i d' out) (fun j=>want++Ck (out.take j)) out.length (r:=want++Ck out) (fun j hj=>by
  have h1:=ho.2 _ (EH hj default)
  have h2:(Ck (out.take j)).length<=25005000:=by
   have:=aH (l:=out.take j) fun s hs=>ho.2 s (List.mem_of_mem_take hs)
   have:(out.take j).length<=5000:=by rw[List.length_take];omega
   omega
  simp only[Da,Int.ofNat_lt,hj,decide_true,if_true,Av,AG,tnC,At (show j<9223372036854775807 by omega)];rw[BR (by simp only[List.length_cons,List.length_nil];omega),AG,BR (by simp only[List.length_append,List.length_cons,List.length_nil];omega),AG,nT hj,List.append_assoc]) (by simp[Da])
 simpa[Ck] using this
theorem ZC{lines:List (List UInt8)}(hn:lines.length<=11)(hl:∀ x∈lines,Ma x=true):∀ (r:List (List UInt8)) (i:Nat) (d:Bc) (text want:List UInt8),lines.drop i=r->i<=lines.length->bk i d->text.length<=101*i->want.length<=30000000*i ->
  AS (Db lines) (d,text,want,(i:Int))=some (.inl (text++Ck r,want++fG d r))
 | [],i,d,text,want,h,hi,hd,ht,hw=>by
  have hi2:i=lines.length:=by
   have:=congrArg List.length h;simp at this;omega
  subst hi2;rw[Cm (r:=.inl (text,want)) (by simp[Db])];simp[Ck,fG]
 | l::r,i,d,text,want,h,hi,hd,ht,hw=>by
  have hi2:i<lines.length:=by
   have:=congrArg List.length h;simp at this;omega
  have hli:lines.getD i default=l:=by
   have:(lines.drop i).getD 0 default=l:=by rw[h];rfl
   rw[← this,gdE,gdE,List.getElem?_drop];rfl
  have hdr:lines.drop (i+1)=r:=by rw[← List.drop_drop,h];rfl
  have hlb:=ZB (hl l (by rw[← hli];exact EH hi2 default));obtain⟨d',out,ok,e,ho,hok,ec⟩:=VF hd (by omega) (line:=l) (by omega);have hv:VH d l=(d',out,ok):=by unfold VH;rw[e];rfl
  have ho2:=oo ho;cases ok with
  | false=>
   rw[Dh (s':=(d,text++(l++[10]),want++[63,10],((i+1:Nat):Int))) (by
    simp only[Db,Int.ofNat_lt,hi2,decide_true,if_true,Av,AG,tnC,hli,ec,obS,At (show i<9223372036854775807 by omega),bfT,if_false,beq_self_eq_true];rw[BR (by simp;omega),AG,BR (by simp;omega),AG,BR (by simp;omega),AG])]
   rw[ZC hn hl r (i+1) d _ _ hdr hi2 (hd.up (by omega)) (by simp;omega) (by simp;omega),fG,hv];simp[Ck]
  | true=>
   obtain⟨hne,hd'⟩:=hok rfl;have hls:=hd'.ls;have hle:=hd'.le;have hln:=hd'.ln;have hll:=hd'.lo.len
   have hsv:Ev d'=some true:=by
    unfold Ev;rw[ye (by omega) (by omega) (by omega),hd'.desk];rfl
   obtain⟨t,et,lt⟩:=Ld (d:=d') (by omega) (by omega);have htn:=hU et
   have hdt:Hf d'=some t:=by
    unfold Hf;rw[TH (by omega) (by omega) (by omega),hd'.desk,obS,if_neg (by decide),et];rfl
   have hol:¬ ((out.length:Int)<1):=by
    have:=List.length_pos_iff.2 hne;omega
   have htb:(t==([]:List UInt8))=false:=by rw[beq_eq_false_iff_ne];exact htn
   have hwl:=pu (lines:=lines) (d:=d) (d':=d') (text:=text++(l++[10])) (i:=(i:Int)) ho (want:=want) (by omega)
   rw[Dh (s':=(d',text++(l++[10]),want++Ck out,((i+1:Nat):Int))) (by
    simp only[Db,Int.ofNat_lt,hi2,decide_true,if_true,Av,AG,tnC,hli,ec,obS,At (show i<9223372036854775807 by omega)];rw[BR (by simp;omega),AG,BR (by simp;omega),AG,if_neg (by decide)];simp only[hsv,hdt,hol,htb,beq_self_eq_true,Bool.not_true,Bool.not_false,Option.isSome_some,Option.getD_some,Bool.or_true,Bool.or_false,Bool.true_or,AG,decide_false,bfT,if_false,hwl,obS])]
   rw[ZC hn hl r (i+1) d' _ _ hdr hi2 hd' (by simp;omega) (by simp;omega),fG,hv];simp[Ck]
theorem pr:bk 0 ⟨[],[],[]⟩:=⟨rfl,by simp,rfl,by simp,by omega,by simp,[],rfl,trivial,by simp,by simp⟩
theorem jO{code:List UInt8}(w:code.length<=maxLen):JX code=some true:=by
 unfold JX Lr;rw[obS];split
 ·rfl
 ·rename_i h
  have hc:code.length<=1099511627776:=by
   simp only[Bool.or_eq_true,dtE,not_or] at h;omega
  obtain⟨l,e1,l1,l2⟩:=oM hc;rw[e1,obS,show IU=some ⟨[],[],[]⟩ from rfl,obS];have hlp:=ZC l1 l2 l 0 ⟨[],[],[]⟩ [] [] rfl (Nat.zero_le _) pr (by simp) (by simp);have h0:((0:Nat):Int)=0:=rfl;rw[h0] at hlp;rw[hlp,obS]
  have hr:Ed (Ck l)=some (fG ⟨[],[],[]⟩ l):=by
   unfold Ed;rw[show IU=some ⟨[],[],[]⟩ from rfl,obS,wR l 0 60 _ _ (by omega) (by omega) pr (by omega) l2 (by simp;omega)];rfl
  simp only[List.nil_append,hr,obS,beq_self_eq_true]
