/- Lemmas. No condition. -/
import Derived.Test.YtegmpdmpgmpiaaaGreatDoorPT
import Derived.Test.YtegmpdmpgmpiaaaGreatDoorPL
open And renaming intro->bR
open Go renaming World->bS,bodyPost_ret->c6,heap_alloc2_old->c7,heap_alloc2_new->c8,heap_alloc_new->cm,TypeId->ds,run_append_own_at->dw
open Go.Lib renaming hid->a'
open List renaming map->bI,getElem?_range->cB,range->cI,getElem?_map->c',getElem_mem->dc,all_eq_true->df
open Nat renaming zero_add->bX,zero_le->b',mul_comm->cd,lt_or_ge->cf,mul_le_mul_right->cn,div_lt_of_lt_mul->cA,mod_lt->cS,add_comm->dx,le_refl->dT
open Option renaming some->bs,none->bN
set_option linter.defProp false
set_option linter.unusedSimpArgs false
set_option linter.unusedVariables false
set_option maxRecDepth 100000
namespace Go.Proofs.YtegmpdmpgmpiaaaGreatDoor.dsk
open Go Go.RowKit plot
variable{S:Nat->Prop}{w:bS}{v:Value}
def ABS{a:AV}(h:VR S w v a)(j:Kb a=true):v.oneCell'=true:=by
 cases h<;>first|rfl|(exact absurd j x')|(simp[Kb]at j)
def AFu{K i j:Nat}(C:j<K):(i*K+j)/K=i/\(i*K+j)%K=j:=by
 have I:0<K:=n'
 constructor
 .rw[dx,Nat.add_mul_div_right _ _ I,Nat.div_eq_of_lt C,bX]
 .rw[dx,Nat.add_mul_mod_self_right,Nat.mod_eq_of_lt C]
variable{K n:Nat}
def AAf{i j:Nat}(hi:i<n)(C:j<K):i*K+j<n*K:=by
 have:(i+1)*K<=n*K:=cn K hi;rw[Nat.add_mul,Nat.one_mul]at this;omega
variable{els:List AV}
def AKR(h:VR C' w v (.sl K els))(fl:∀i,i<els.length->(((els.getD i .any).cells).all Kb)=true):
  ∃ (a:Option Addr) (cap:Nat) (news:List Value),v = .slice a els.length cap/\news.length=els.length*K/\(0<els.length->∃ad:Addr,a=bs ad/\∀j u,news[j]? = bs u->w.cell? (ad.add j)=bs u)/\(∀u∈news,u.oneCell'=true) /\
   (∀i,i<els.length->((els.getD i .any).cells).length=K/\(els.getD i .any).atoms=true)/\∀(S:Nat->Prop) (W:bS) i j,i<els.length->j<K->VR S W (news.getD (i*K+j) undef) ((els.getD i .any).cells.getD j .any):=by
 cases h with
 | @sl a n cap _ _ b off rd hn U I ha hc hw h=>
  subst hn
  have J:∀i j,i<els.length->j<K->Kb ((els.getD i .any).cells.getD j .any)=true:=fun i j hi C=>by
   have h1:=(hc i hi).1;have h2:=fl i hi;revert h1 h2;generalize(els.getD i .any).cells=cs;intro h1 h2;exact df.1 h2 _ (by rw[gdE,geE n'];exact dc _)
  have hlen:((cI (els.length*K)).map fun q=>rd (q/K) (q%K)).length=els.length*K:=p'
  refine⟨a,cap,(cI (els.length*K)).map fun q=>rd (q/K) (q%K),rfl,hlen,fun h0=>⟨⟨b,off,bN⟩,(ha h0).1,fun j u hu=>?_⟩,fun u hu=>?_,hc,fun S W i j hi C=>?_⟩
  .have C:j<els.length*K:=by
    rcases cf j (els.length*K)with c|c
    .exact c
    .rw[List.getElem?_eq_none (by rw[hlen];exact c)]at hu;cases hu
   rw[c',cB C]at hu;injection hu with hu
   subst hu;have R:j/K<els.length:=cA (by rw[cd];exact C);have e:=hw (j/K) (j%K) R (cS _ I);have e2:j/K*K+j%K=j:=by rw[cd];exact Nat.div_add_mod j K
   rw[e2]at e;have ea:Addr.add ⟨b,off,bN⟩ j=⟨b,off+j,bN⟩:=by simp[Addr.add]
   rw[ea];exact e
  .obtain⟨j,C,rfl⟩:=List.mem_map.1 hu;have C:=List.mem_range.1 C;have R:j/K<els.length:=cA (by rw[cd];exact C);exact ABS (h (j/K) (j%K) R (cS _ I)) (J _ _ R (cS _ I))
  .obtain⟨d1,d2⟩:=AFu (i:=i) C
   have e:(((cI (els.length*K)).map fun q=>rd (q/K) (q%K)).getD (i*K+j) undef)=rd i j:=by
    rw[gdE,c',cB (AAf hi C)];show rd ((i*K+j)/K) ((i*K+j)%K)=rd i j;rw[d1,d2]
   rw[e];exact WE (J i j hi C) (h i j hi C)
def UL{base:Nat}{e:ds}{news:List Value}(R:1<=K)(h:w.ownsRow base e K v n news)(hn:n=els.length)
  (hc:∀i,i<els.length->((els.getD i .any).cells).length=K/\(els.getD i .any).atoms=true) (hv:∀(S:Nat->Prop) (W:bS) i j,i<els.length->j<K->VR S W (news.getD (i*K+j) undef) ((els.getD i .any).cells.getD j .any))
  (hS:∀b,v.ownBlock=bs b->¬ S b):VR S w v (.sl K els):=by
 rcases h.2 with⟨rfl,e0⟩|⟨g,cap,cur,rfl,h1,h2,U,h4,h5,h6⟩
 .have e1:els=[]:=List.length_eq_zero_iff.1 n';subst e1;exact .sl 0 0 (fun _ _=>.bool false) rfl (dT _) R (fun c=>absurd c p') (fun i hi=>absurd hi p') (fun i j hi=>absurd hi p') (fun i j hi=>absurd hi p')
 .subst hn;refine .sl g 0 (fun i j=>news.getD (i*K+j) undef) rfl U R (fun _=>⟨rfl,hS g rfl⟩) hc (fun i j hi J=>?_) (fun i j hi J=>hv S w i j hi J);have I:=AAf hi J
  have C:i*K+j<cur.size:=by
   have:els.length*K<=cap*K:=cn K U;omega
  unfold World.cell?;rw[h2];show cur[0+(i*K+j)]? = _;rw[bX,←h6,gdE,List.getElem?_take_of_lt I,Array.getElem?_toList,Array.getElem?_eq_getElem C];rfl
section
variable {P:Program}
def append_nil{w:bS}(base:Nat)(t ty e:ds)(i:TypeInfo)(size:Nat)(j:P.underlying t=bs (.slice e))(hi:P.info? e=bs i){g c:Nat}{cur:Array Value}:(Builtin.append_ #[t,t] ty #[.slice (bs ⟨g,0,bN⟩) 0 0,.slice bN 0 c]).run P w = .ok (.slice (bs ⟨g,0,bN⟩) 0 0) w:=by
 simp[Builtin.append_,run_underlying j,sizeOf,typeInfo,hi,Builtin.lenOf,Builtin.firstCells,storeCells]
def iC{aj:Array Oper}{o:Oper}{a:Act}{w:bS}{K:Act->bS->Prop}{Q:Exit->Act->bS->Prop}{E:Prop}(bb:o.guard=bN)(s x:Operand)(t:ds)
  (ho:o.op = .call { callee:=.builtin .append,args:=#[s,x],argTypes:=#[t,t] }) (e:ds) (i:TypeInfo) (z:Value) (size bytes:Nat) (ht:P.underlying t=bs (.slice e)) (hi:P.info? e=bs i) (hz:i.zero=bs z)
  (U:i.size=size) (az:i.bytes=bytes) (ao:z.cells.size=size) (ax:0<size) (g:Nat) (hs:a.eval s = .slice (bs ⟨g,0,bN⟩) 0 0) (hg:w.heap[g]? = bs (.cells #[] e (0,0)))
  (v:Value) (els:List AV) (hx:a.eval x=v) (hv:VR C' w v (.sl size els)) (fl:∀i,i<els.length->(((els.getD i .any).cells).all Kb)=true) (b6:els.length<=maxLen) (I:els.length*bytes<=140737488355328)
  (h:∀J w',AD (fun k=>k=g) w w'->(∀S:Nat->Prop,(∀b,S b->b<w.heap.size/\b≠g)->VR S w' J (.sl size els))->K (a.put o.dst J) w') :
  if Region.wanted o (yielded aj a.tmps)=true then Oper.wp P o a w K Q else E:=by
 have hw:Region.wanted o (yielded aj a.tmps)=true:=by simp[Region.wanted,bb]
 rw[if_pos hw];obtain⟨A,cap,news,rfl,hl,bh,h1,hc,au⟩:=AKR hv fl
 have b3:g<w.heap.size:=by
  rcases cf g w.heap.size with c|c
  .exact c
  .rw[Array.getElem?_eq_none c]at hg;cases hg
 have aa:w.ownsRow 0 e size (.slice (bs ⟨g,0,bN⟩) 0 0) 0 []:=⟨p',.inr ⟨g,0,#[],rfl,b' _,hg,dT _,b' _,p',p'⟩⟩
 obtain⟨J,w',C,h2,h3,h4⟩:∃J w',(Builtin.append_ #[t,t] o.type #[.slice (bs ⟨g,0,bN⟩) 0 0,.slice A els.length cap]).run P w = .ok J w'/\w'.ownsRow 0 e size J els.length news/\AD (fun k=>k=g) w w'/\(J.ownBlock=bs g\/J.ownBlock=bs w.heap.size):=by
  rcases Nat.eq_zero_or_pos els.length with h0|h0
  .have hn:news=[]:=List.eq_nil_of_length_eq_zero (by rw[hl,h0,Nat.zero_mul]);cases A with
   | none=>
    rw[h0];exact⟨_,w,append_nil 0 t o.type e i size ht hi (cur:=#[]),by rw[hn];exact aa,AD.refl _ _,.inl rfl⟩
   | some ad=>
    obtain⟨J,w',C,k2,R,_,k5⟩:=dw (P:=P) w 0 t o.type e i z size bytes ht hi hz U az ao ax _ 0 [] aa ad els.length cap news hl (fun j u hu=>by rw[hn]at hu;simp at hu) h1 n' (by rw[bX];exact I) (b' _);exact⟨J,w',C,by simpa using k2,⟨R.os,R.tape,R.output,R.size,fun k hk hn=>R.block k hk fun c=>hn (Option.some.inj c)⟩,k5⟩
  .obtain⟨ad,rfl,ab⟩:=bh h0;obtain⟨J,w',C,k2,R,_,k5⟩:=dw (P:=P) w 0 t o.type e i z size bytes ht hi hz U az ao ax _ 0 [] aa ad els.length cap news hl ab h1 n' (by rw[bX];exact I) (b' _);exact⟨J,w',C,by simpa using k2,⟨R.os,R.tape,R.output,R.size,fun k hk hn=>R.block k hk fun c=>hn (Option.some.inj c)⟩,k5⟩
 have ay:=h J w' h3 fun S hS=>UL n' h2 rfl hc au fun b hb c=>by
  have:=hS b c;rcases h4 with e|e
  .rw[e]at hb;injection hb with hb;exact this.2 hb.symm
  .rw[e]at hb;injection hb with hb;omega
 unfold Oper.wp execOp;simp only[ho,resolve,invoke,builtin,Sem.run_bind,Sem.run_pure,Result.andThen_ok,List.map_toArray,List.map_cons,List.map_nil,hs,hx,C];exact ay
end
end Go.Proofs.YtegmpdmpgmpiaaaGreatDoor.dsk
namespace Go.Proofs.YtegmpdmpgmpiaaaGreatDoor.dsk
open Go Go.RowKit plot rdc
set_option maxHeartbeats 8000000
def wg:(Tryz.prog.info? 86).map (fun i=>(i.zero,i.size,i.bytes))=bs (bs (.agg #[.string ⟨#[]⟩,.int .i64 0,.int .i64 0,.int .i64 0,.int .i64 0]),5,48):=o'
def ABb:(Tryz.prog.info? 89).map (fun i=>(i.zero,i.size,i.bytes))=bs (bs (.agg #[.int .i64 0,.string ⟨#[]⟩,.string ⟨#[]⟩,.int .i64 0,.bool false]),5,56):=o'
def wE:Tryz.prog.underlying 29=bs (.slice 86):=o'
def zA:Tryz.prog.underlying 30=bs (.slice 89):=o'
variable{d:Ad}{va vb:Value}{w:bS}
attribute [local irreducible] Calls in
def ABp{db:Nat}(hd:w.heap[db]? = bs (.cells #[va,vb,.string ⟨d.Log.toArray⟩] 32 (0,0)))(ha:VR C' w va (.sl 5 (bI AN d.Stars)))(hb:VR C' w vb (.sl 5 (bI AC d.Estimates)))(hg:GT C' w)(l1:d.Stars.length<=1048576)(l2:d.Estimates.length<=1048576):
    Calls Tryz.prog 32 #[.pointer (bs ⟨db,0,bN⟩)] w fun e w'=>∃b4 b0,e = .returned (.agg #[b4,b0,.string ⟨d.Log.toArray⟩])/\AD C' w w'/\VR C' w' b4 (.sl 5 (bI AN d.Stars))/\VR C' w' b0 (.sl 5 (bI AC d.Estimates)):=by
  obtain⟨a1,a2,a3,rfl⟩:=l28.sl_of ha;obtain⟨b1,b2,b3,rfl⟩:=l28.sl_of hb;obtain⟨i0,ca,b6,a6,a8⟩:=info_parts wg;obtain⟨i1,b9,b5,az,a7⟩:=info_parts ABb
  have ay:db<w.heap.size:=by
    rcases cf db w.heap.size with q|q
    · exact q
    · rw[Array.getElem?_eq_none q]at hd;cases hd
  have s1:=AD.alloc C' w zC;have au:=cm w zC;have bo:=(s1.block db ay id).trans hd;have ax:(w.alloc zC).heap.size=w.heap.size+1:=p'
  have VA:=a' (ha.mono s1 fun _ _ c=>c);have VB:=a' (hb.mono s1 fun _ _ c=>c);have S1:=a' s1;have HI:=a' (bR ca (bR b6 (bR a6 a8)));have HJ:=a' (bR b9 (bR b5 (bR az a7)));have L1:=a' (show(bI AN d.Stars).length<=1048576 by simpa using l1);have L2:=a' (show(bI AC d.Estimates).length<=1048576 by simpa using l2);clear ha hb hg s1 ca b6 a6 a8 b9 b5 az a7 l1 l2 hd
  go_enter Tryz.func32,Tryz.ntmps32
  go_wp2
  obtain⟨j,b7⟩:∃x,x=w.alloc zC:=⟨_,rfl⟩;obtain⟨R,hR⟩:∃x,x=w.heap.size:=⟨_,rfl⟩;rw[←hR]at au ay ax ⊢;rw[←b7]at VA VB S1 au bo ax ⊢;obtain⟨p0,p1,p2⟩:=II bo;have cw:=a' au;have C:=a' ax;have ct:=a' hR;have bz:=a' ay;have nR:db≠R:=n'
  clear b7 hR au bo ax ay;have ab:db≠j.heap.size:=by have:=bz.out;have:=C.out;omega
  have aa:db≠j.heap.size+1:=by have:=bz.out;have:=C.out;omega
  go_region_held3 (fun w'=>w'.cell? ⟨db,0,bN⟩=bs (.slice a1 a2 a3)/\w'.cell? ⟨db,1,bN⟩=bs (.slice b1 b2 b3)/\w'.cell? ⟨db,2,bN⟩=bs (.string ⟨d.Log.toArray⟩)) (with_reducible first|exact⟨dr p0,dr p1,dr p2⟩|exact⟨l28.al (dr p0),l28.al (dr p1),l28.al (dr p2)⟩|exact⟨dr (l28.al p0),dr (l28.al p1),dr (l28.al p2)⟩|exact⟨l28.al (l28.al (dr p0)),l28.al (l28.al (dr p1)),l28.al (l28.al (dr p2))⟩|exact⟨dr (l28.al (l28.al p0)),dr (l28.al (l28.al p1)),dr (l28.al (l28.al p2))⟩|exact⟨I.out.1,I.out.2.1,I.out.2.2⟩|exact⟨l28.al I.out.1,l28.al I.out.2.1,l28.al I.out.2.2⟩|exact⟨l28.se (l28.se (l28.se I.out.1 nR) nR) nR,l28.se (l28.se (l28.se I.out.2.1 nR) nR) nR,l28.se (l28.se (l28.se I.out.2.2 nR) nR) nR⟩) (first
    | (refine iC (by rfl) _ _ _ (by rfl) 86 i0 _ 5 48 wE HI.out.1 HI.out.2.1 HI.out.2.2.1 HI.out.2.2.2 rfl n' _ (by rfl) (by first|exact c7 j.drew _ _|exact c8 j.drew _ _|exact cm j.drew _) _ _ (by rfl) (VA.out.mono (S:=fun _=>False) (by first|exact(AD.drew _ _).trans (AD.alloc _ _ _)|exact((AD.drew _ _).trans (AD.alloc _ _ _)).trans (AD.alloc _ _ _)|exact(AD.alloc _ _ _).trans (AD.drew _ _)|exact((AD.alloc _ _ _).trans (AD.alloc _ _ _)).trans (AD.drew _ _)) fun _ _ c=>c) (flS _) (by have:=L1.out;unfold maxLen;omega) (by have:=L1.out;omega) ?_
       intro v5 w5 U ao;first
       | (have cc:=a' ((U.block (j.heap.size+1) p' n').trans (c8 j.drew (.cells #[] 86 (0,0)) (.cells #[] 89 (0,0))))
          have V5:=a' (ao (fun k=>k=R\/k=j.heap.size+1) fun b c=>(by have c:b=R\/b=j.heap.size+1:=c;have:=C.out;constructor;simp;omega;show b≠j.heap.size;omega)))
       | (have cc:=a' ((U.block j.heap.size t' p').trans (c7 j.drew (.cells #[] 89 (0,0)) (.cells #[] 86 (0,0))))
          have V5:=a' (ao (fun k=>k=R\/k=j.heap.size) fun b c=>(by have c:b=R\/b=j.heap.size:=c;have:=C.out;constructor;simp;omega;show b≠j.heap.size+1;omega)))
       |(have V5:=a' (ao (fun k=>k=R) fun b c=>(by have c:b=R:=c;have:=C.out;constructor;simp;omega;show b≠j.heap.size;omega)))
       obtain⟨r1,r2,r3,rfl⟩:=l28.sl_of V5.out;have I:=a' (show _/\_/\_ from⟨U.cell (by first|exact ab|exact aa) (by first|exact l28.al (dr p0)|exact l28.al (l28.al (dr p0))),U.cell (by first|exact ab|exact aa) (by first|exact l28.al (dr p1)|exact l28.al (l28.al (dr p1))),U.cell (by first|exact ab|exact aa) (by first|exact l28.al (dr p2)|exact l28.al (l28.al (dr p2)))⟩);have ae:=a' (Cs (K:=fun _=>False) (by first|exact(AD.drew _ _).trans (AD.alloc _ _ _)|exact((AD.drew _ _).trans (AD.alloc _ _ _)).trans (AD.alloc _ _ _)|exact(AD.alloc _ _ _).trans (AD.drew _ _)|exact((AD.alloc _ _ _).trans (AD.alloc _ _ _)).trans (AD.drew _ _)) U fun x hx c=>(by first|(have c:x=j.heap.size:=c;omega)|(have c:x=j.heap.size+1:=c;omega)));clear U ao)
    | (refine iC (by rfl) _ _ _ (by rfl) 89 i1 _ 5 56 zA HJ.out.1 HJ.out.2.1 HJ.out.2.2.1 HJ.out.2.2.2 rfl n' _ (by rfl) (by first|exact cc.out|exact cm w5 _) _ _ (by rfl) (VB.out.mono (S:=fun _=>False) (by first|exact ae.out|exact ae.out.trans (AD.alloc _ _ _)) fun _ _ c=>c) (flE _) (by have:=L2.out;unfold maxLen;omega) (by have:=L2.out;omega) ?_
       intro v6 w6 J b8;have cl:=ae.out.size;have V6:=a' (b8 (fun k=>k=R) fun b c=>(by have c:b=R:=c;have:=C.out;exact⟨(by first|(simp;omega)|omega),(by first|(show b≠j.heap.size;omega)|(show b≠j.heap.size+1;omega)|(show b≠w5.heap.size;omega))⟩));have V5:=a' (show VR (fun k=>k=R) w6 (.slice r1 r2 r3) (.sl 5 (bI AN d.Stars))from(by first|exact V5.out.mono (J.mono fun _ _ c=>.inr c) (fun _ _ c=>.inl c)|exact(V5.out.mono (S':=fun k=>k=R\/k=w5.heap.size) (AD.alloc (fun k=>k=R) w5 (.cells #[] 89)) (fun b hb c=>(by have c:b=R\/b=w5.heap.size:=c;show b=R;omega))).mono (J.mono fun _ _ c=>.inr c) (fun _ _ c=>.inl c)));have bh:db≠w5.heap.size:=by have:=bz.out;have:=C.out;omega
       have I:=a' (show _/\_/\_ from⟨J.cell (by first|exact ab|exact aa|exact bh) (by first|exact I.out.1|exact l28.al I.out.1),J.cell (by first|exact ab|exact aa|exact bh) (by first|exact I.out.2.1|exact l28.al I.out.2.1),J.cell (by first|exact ab|exact aa|exact bh) (by first|exact I.out.2.2|exact l28.al I.out.2.2)⟩);have cb:=a' (Cs (K:=fun _=>False) (by first|exact ae.out|exact ae.out.trans (AD.alloc _ _ _)) J fun x hx c=>(by first|(have c:x=j.heap.size:=c;omega)|(have c:x=j.heap.size+1:=c;omega)|(have c:x=w5.heap.size:=c;omega)));have Z6:=a' ((cb.out.block R (by have:=C.out;omega) id).trans cw.out);obtain⟨q0,q1,q2,f0,f1,f2⟩:=GF Z6.out;obtain⟨t1,t2,t3,rfl⟩:=l28.sl_of V6.out;clear J b8 cl))
  all_goals
    go_wp2
    obtain⟨h1,h2⟩:=Re (.slice r1 r2 r3) (.slice t1 t2 t3) (.string ⟨d.Log.toArray⟩) Z6.out;have en:=ct.out;refine c6 (results_cell_row rfl _ _ R _ _ _ _ (by rfl) h1 Tryz.underlying32 rfl o') rfl ?_;exact⟨_,_,rfl,Cs (S1.out.trans cb.out) h2 fun x hx c=>(by have c:x=R:=c;omega),V5.out.mono h2 fun _ _ c=>c.elim,V6.out.mono h2 fun _ _ c=>c.elim⟩
set_option maxHeartbeats 8000000
def bY{b:Nat}{I C:Value}(hd:w.heap[b]? = bs (.cells #[I,C,.string ⟨d.Log.toArray⟩] 32 (0,0)))(R:VR C' w I (.sl 5 (bI AN d.Stars)))(hb:VR C' w C (.sl 5 (bI AC d.Estimates))):VR C' w (.pointer (bs ⟨b,0,bN⟩)) (.ptr 3 [BC d] 0 0):=by
 obtain⟨c0,c1,c2⟩:=II hd;refine VR.ptr (sz:=3) (els:=[BC d]) (i0:=0) (o0:=0) b 0 (fun _ j=>match j with|0=>I|1=>C|_=>.string ⟨d.Log.toArray⟩) x' Nat.one_pos id (fun i hi=>?_) (fun i j hi J=>?_) (fun i j hi J=>?_)
 .match i,hi with
  |0,_=>exact⟨rfl,rfl⟩
 .match i,hi,j,J with
  |0,_,0,_=>exact c0
  |0,_,1,_=>exact c1
  |0,_,2,_=>exact c2
 .match i,hi,j,J with
  |0,_,0,_=>exact R
  |0,_,1,_=>exact hb
  |0,_,2,_=>exact .str
def AOW{S:Nat->Prop}{R:Nat}{v x y z:Value}{T:ds}{els:List AV}(h:VR S w v (.sl 5 els))(fl:∀i,i<els.length->(((els.getD i .any).cells).all Kb)=true)(hz:w.heap[R]? = bs (.cells #[x,y,z] T (0,0))):VR (fun k=>k=R) w v (.sl 5 els):=by
 have hs:VR C' w v (.sl 5 els):=h.mono (AD.refl _ _) fun _ _ c=>c.elim
 cases hs with
 | @sl a n cap _ _ b off rd hn C I ha J hw h9=>
  refine .sl b off rd hn C I (fun q=>⟨(ha q).1,fun e=>?_⟩) J hw fun i j hi hj=>WE ?_ (h9 i j hi hj)
  .have e:b=R:=e;subst e;have:=hw 0 4 q n';unfold World.cell? at this;rw[hz]at this;simp at this
  .have U:=(J i hi).1;have h2:=fl i hi;revert U h2;generalize(els.getD i .any).cells=cs;intro U h2;exact df.1 h2 _ (by rw[gdE,geE n'];exact dc _)
attribute [local irreducible] Calls in
def AKS{line:L8}{W:Ad×List L8×Int}(hr:VK d line=bs W)(ha:VR C' w va (.sl 5 (bI AN d.Stars)))(hb:VR C' w vb (.sl 5 (bI AC d.Estimates)))(hg:GT C' w)(l1:d.Stars.length<=1048576)(l2:d.Estimates.length<=1048576):
  Calls Tryz.prog 8 #[.agg #[va,vb,.string ⟨d.Log.toArray⟩],.string ⟨line.toArray⟩] w fun e w'=>∃vd vo,e = .returned (.tuple #[vd,vo,.int .i64 W.2.2])/\AD C' w w'/\VR C' w' vd (BC W.1)/\VR C' w' vo (.sl 1 (bI AV.str W.2.1)):=by
 obtain⟨ok,bo,be⟩:=AO hr;obtain⟨a1,a2,a3,rfl⟩:=l28.sl_of ha;obtain⟨b1,b2,b3,rfl⟩:=l28.sl_of hb;have s1:=(AD.alloc C' w (dC (.slice a1 a2 a3) (.slice b1 b2 b3) d.Log)).trans (AD.alloc C' (w.alloc (dC (.slice a1 a2 a3) (.slice b1 b2 b3) d.Log)) zC);have h0:=c7 w (dC (.slice a1 a2 a3) (.slice b1 b2 b3) d.Log) zC;have h1:=c8 w (dC (.slice a1 a2 a3) (.slice b1 b2 b3) d.Log) zC;have ay:=a' bo;have HR:=a' be;have VA:=a' (ha.mono s1 fun _ _ c=>c);have VB:=a' (hb.mono s1 fun _ _ c=>c);have GG:=a' (gS hg s1);have S1:=a' s1;have Z0:=a' h0;have Z1:=a' h1;clear bo hr be ha hb hg s1 h0 h1;cases ok with
 | false=>
  obtain rfl:=AX (show bs _=bs W from HR.out)
  go_enter Tryz.func8,Tryz.ntmps8
  go_wp2_with (go_at_call 31;refine(kL ay.out (bY Z0.out VA.out VB.out) GG.out).mono ?_;rintro e w2 ⟨rfl,I⟩;have S2:=a' I;have Z2:=a' ((I.block (w.heap.size+1) p' id).trans Z1.out);obtain⟨q0,q1,q2,f0,f1,f2⟩:=GF Z2.out;clear I)
  obtain⟨h1,h2⟩:=Re (.slice bN 0 0) (.slice bN 0 0) (.string ⟨#[]⟩) Z2.out;refine c6 (Eb rfl _ _ (w.heap.size+1) _ _ _ (by rfl) h1) rfl ?_;exact⟨_,_,rfl,Cs (S1.out.trans S2.out) h2 fun x hx c=>(by have c:x=w.heap.size+1:=c;omega),(Rl.none 0 _).vd,(Rl.none 0 _).vo⟩
 | true=>
  obtain⟨⟨zk,z⟩,hz,bb⟩:=AO (show(l28.doL ⟨d,[],[],[],false⟩ line).bind _=bs W from HR.out);have HZ:=a' hz;have b7:=a' bb;clear hz bb HR;cases zk with
  | false=>
   obtain rfl:=AX (show bs _=bs W from b7.out)
   go_enter Tryz.func8,Tryz.ntmps8
   go_wp2_with (first
    |(go_at_call 31;refine(kL ay.out (bY Z0.out VA.out VB.out) GG.out).mono ?_;rintro e w2 ⟨rfl,I⟩;have S2:=a' I;clear I)
    |(go_at_call 32;refine(ABp ((S2.out.block w.heap.size t' id).trans Z0.out) (VA.out.mono S2.out fun _ _ c=>c) (VB.out.mono S2.out fun _ _ c=>c) (gS GG.out S2.out) l1 l2).mono ?_;rintro e w3 ⟨cc,cb,rfl,U,R,J⟩;obtain⟨k1,k2,k3,rfl⟩:=l28.sl_of R;obtain⟨m1,m2,m3,rfl⟩:=l28.sl_of J;have az:=a' (show l28.At _ _ _ _ from⟨_,_,_,l28.init_q (gS GG.out (S2.out.trans U)) R J⟩);have S3:=a' (S2.out.trans U);clear U R J)
    |(go_at_call 20;refine(l28.do_c az.out HZ.out).mono ?_;rintro e w5 ⟨rfl,O5,a5,b5,x5,h5⟩;have ab:=S3.out.size;have ax:w.heap.size+2<=w3.heap.size:=(by simpa using ab);have S5:=a' (Cs (K:=fun _=>False) ((S1.out.trans S3.out).trans (AD.alloc _ _ _)) x5 fun x hx c=>(by have c:x=w3.heap.size:=c;omega));have Z5:=a' ((x5.block (w.heap.size+1) t' (fun c=>by have c:w.heap.size+1=w3.heap.size:=c;omega)).trans (((S3.out.trans (AD.alloc C' w3 _)).block (w.heap.size+1) p' id).trans Z1.out));have A5:=a' h5;clear x5 h5 ab ax;obtain⟨q0,q1,q2,f0,f1,f2⟩:=GF Z5.out))
   obtain⟨h1,h2⟩:=Re (.slice bN 0 0) (.slice bN 0 0) (.string ⟨#[]⟩) Z5.out;refine c6 (Eb rfl _ _ (w.heap.size+1) _ _ _ (by rfl) h1) rfl ?_;exact⟨_,_,rfl,Cs S5.out h2 fun x hx c=>(by have c:x=w.heap.size+1:=c;omega),(Rl.none 0 _).vd,(Rl.none 0 _).vo⟩
  | true=>
   obtain rfl:=AX (show bs (z.d,z.out,0)=bs W from b7.out)
   go_enter Tryz.func8,Tryz.ntmps8
   go_wp2_with (first
    |(go_at_call 31;refine(kL ay.out (bY Z0.out VA.out VB.out) GG.out).mono ?_;rintro e w2 ⟨rfl,I⟩;have S2:=a' I;clear I)
    |(go_at_call 32;refine(ABp ((S2.out.block w.heap.size t' id).trans Z0.out) (VA.out.mono S2.out fun _ _ c=>c) (VB.out.mono S2.out fun _ _ c=>c) (gS GG.out S2.out) l1 l2).mono ?_;rintro e w3 ⟨cc,cb,rfl,U,R,J⟩;obtain⟨k1,k2,k3,rfl⟩:=l28.sl_of R;obtain⟨m1,m2,m3,rfl⟩:=l28.sl_of J;have az:=a' (show l28.At _ _ _ _ from⟨_,_,_,l28.init_q (gS GG.out (S2.out.trans U)) R J⟩);have S3:=a' (S2.out.trans U);clear U R J)
    |(go_at_call 20;refine(l28.do_c az.out HZ.out).mono ?_;rintro e w5 ⟨rfl,O5,a5,b5,x5,h5⟩;have ab:=S3.out.size;have ax:w.heap.size+2<=w3.heap.size:=(by simpa using ab);have S5:=a' (Cs (K:=fun _=>False) ((S1.out.trans S3.out).trans (AD.alloc _ _ _)) x5 fun x hx c=>(by have c:x=w3.heap.size:=c;omega));have Z5:=a' ((x5.block (w.heap.size+1) t' (fun c=>by have c:w.heap.size+1=w3.heap.size:=c;omega)).trans (((S3.out.trans (AD.alloc C' w3 _)).block (w.heap.size+1) p' id).trans Z1.out));have A5:=a' h5;clear x5 h5 ab ax))
   obtain⟨eo,ek,v5,q5⟩:=A5.out;obtain⟨c0,c1,c2,c3,-⟩:=q5.cells;obtain⟨e1,e2,e3,rfl⟩:=l28.sl_of q5.sa;obtain⟨g1,g2,g3,rfl⟩:=l28.sl_of q5.se
   obtain⟨n1,n2,n3,en⟩:∃a n c,v5 0 = .slice a n c:=by
    rcases(q5.row 0).2 with⟨e,_⟩|⟨g,cap,cur,e,_⟩
    .exact⟨_,_,_,e⟩
    .exact⟨_,_,_,e⟩
   rw[en]at c3;obtain⟨q0,q1,q2,f0,f1,f2⟩:=GF (w:=w5.drew) Z5.out;obtain⟨q3,q4,et,f3,f4,f5⟩:=GF Z5.out;have Q5:=a' q5;have EN:=a' en;clear q5 en;obtain⟨sb,ba⟩:∃x,x=w3.heap.size:=⟨_,rfl⟩;rw[←ba]at c0 c1 c2 c3 Q5 ⊢;have C:sb≠w.heap.size+1:=by have:=S3.out.size;simp at this;omega
   clear ba
   go_region_held3 (fun w'=>w'.cell? ⟨sb,0,bN⟩=bs (.slice e1 e2 e3)/\w'.cell? ⟨sb,1,bN⟩=bs (.slice g1 g2 g3)/\w'.cell? ⟨sb,2,bN⟩=bs (.string ⟨z.d.Log.toArray⟩)/\w'.cell? ⟨sb,3,bN⟩=bs (.slice n1 n2 n3)) (with_reducible first|exact⟨dr c0,dr c1,dr c2,dr c3⟩|exact⟨dr (l28.se (l28.se (l28.se c0 C) C) C),dr (l28.se (l28.se (l28.se c1 C) C) C),dr (l28.se (l28.se (l28.se c2 C) C) C),dr (l28.se (l28.se (l28.se c3 C) C) C)⟩|exact⟨l28.se (l28.se (l28.se (dr c0) C) C) C,l28.se (l28.se (l28.se (dr c1) C) C) C,l28.se (l28.se (l28.se (dr c2) C) C) C,l28.se (l28.se (l28.se (dr c3) C) C) C⟩) (first|(fail))
   go_wp2
   obtain⟨h1,h2⟩:=Re (.slice e1 e2 e3) (.slice g1 g2 g3) (.string ⟨z.d.Log.toArray⟩) Z5.out;have hd:=h2.trans (AD.drew _ _);refine c6 (Eb rfl _ _ (w.heap.size+1) _ _ _ (by rfl) h1) rfl ?_
   have hr:=LG (Q5.out.row 0) hd fun b hb c=>(by
    obtain⟨x,f,hx⟩:=Pb (Q5.out.row 0) hb;exact l28.ne_ty hx Z5.out x' c)
   rw[EN.out]at hr;refine⟨_,_,rfl,Cs S5.out hd fun x hx c=>(by have c:x=w.heap.size+1:=c;omega),PA ((AOW Q5.out.sa (flS _) Z5.out).mono hd fun _ _ c=>c.elim) ((AOW Q5.out.se (flE _) Z5.out).mono hd fun _ _ c=>c.elim),l28.row_VR ?_⟩;simpa[l28.xs,MQ,RZ,l28.ty]using hr
end Go.Proofs.YtegmpdmpgmpiaaaGreatDoor.dsk
