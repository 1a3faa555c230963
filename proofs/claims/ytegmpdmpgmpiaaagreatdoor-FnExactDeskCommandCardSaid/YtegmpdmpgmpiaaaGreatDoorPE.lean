/- Lemmas. No condition. -/
import Derived.Test.YtegmpdmpgmpiaaaGreatDoorPD
open Decidable renaming decide->bS
open Go renaming World->bI,Calls->bN,results_none->bR,bodyPost_end->ca,heap_alloc_old->cm,wpList_append_own_at->cA,heap_alloc_new->cS,ownsRow_setCell_other->dw,info_parts->dU,heap_setCell_same->e9,maxLen->ea
open Go.Lib renaming hid->a'
open Go.Proofs.Tryz renaming prog->b9,ntmps45->e6,func45->e8,ntmps50->ed,ntmps19->ef,func50->ej,func19->ek
open Go.Proofs.YtegmpdmpgmpiaaaGreatDoor.AD renaming drew->bX,alloc->dT,refl->d'
open Go.Value renaming oneCell'->cB
open Go.World renaming news_of_block->cw,cell?->e7
open Go.World.ownsRow renaming alloc->cl
open List renaming map->b',getElem?_map->dx
open Nat renaming lt_of_lt_of_le->cI,le_trans->eg
open Option renaming some->b0,none->b7
open UInt8 renaming toNat_inj->c'
set_option linter.defProp false
set_option linter.unusedSimpArgs false
set_option linter.unusedVariables false
set_option maxRecDepth 100000
set_option maxHeartbeats 4000000
noncomputable section
namespace Go.Proofs.YtegmpdmpgmpiaaaGreatDoor.l28
open Go Go.RowKit plot rdc
structure GV where
 d:Ad
 out:List L8
 nums:List Int
 texts:List L8
 faint:Bool
def xs(s:GV):Fin 3->List Value
 |0=>MQ s.out
 |1=>XQ s.nums
 |2=>MQ s.texts
def ty:Fin 3->TypeId
 |0=>9
 |1=>2
 |2=>9
def sc(va vb:Value)(v:Fin 3->Value)(s:GV):Array Value:=#[va,vb,.string ⟨s.d.Log.toArray⟩,v 0,v 1,v 2,.bool s.faint]
structure Q(O:Nat->Prop)(sb:Nat)(va vb:Value)(v:Fin 3->Value)(s:GV)(w:bI):Prop where
 hd:w.heap[sb]? = b0 (.cells (sc va vb v s) 46 (0,0))
 row:∀i,w.ownsRow 0 (ty i) 1 (v i) (xs s i).length (xs s i)
 ne:∀i j,i≠j->∀b,(v i).ownBlock=b0 b->(v j).ownBlock≠b0 b
 own:∀i b,(v i).ownBlock=b0 b->O b
 os:O sb
 sa:VR O w va (.sl 5 (b' AN s.d.Stars))
 se:VR O w vb (.sl 5 (b' AC s.d.Estimates))
 lo:∀b,O b->b<w.heap.size
 gt:GT O w
def At(O:Nat->Prop)(sb:Nat)(s:GV)(w:bI):Prop:=∃va vb v,Q O sb va vb v s w
def GI(O:Nat->Prop)(sb:Nat)(w:bI)(s:GV)(w':bI):Prop := ∃j:Nat->Prop,(∀b,O b->j b)/\(∀b,j b->O b\/w.heap.size<=b)/\AD O w w'/\At j sb s w'
variable{O:Nat->Prop}{w w':bI}
def VR.ext{j:Nat->Prop}{v:Value}{a:AV}(h:VR O w v a)(hs:AD O w w')(h2:∀b,j b->O b\/w.heap.size<=b):VR j w' v a :=
 h.mono hs fun b hb c=>(h2 b c).resolve_right n'
def YG(h:AD C' w w'):AD O w w':=h.mono fun _ _ c=>c.elim
variable{b:Nat}{T:TypeId}
def Ul{U v1 v2 R J I C:Value}(h:w.heap[b]? = b0 (.cells #[U,v1,v2,R,J,I,C] T (0,0))):
  w.cell? ⟨b,0,b7⟩=b0 U/\w.cell? ⟨b,1,b7⟩=b0 v1/\w.cell? ⟨b,2,b7⟩=b0 v2/\w.cell? ⟨b,3,b7⟩=b0 R/\w.cell? ⟨b,4,b7⟩=b0 J/\w.cell? ⟨b,5,b7⟩=b0 I/\w.cell? ⟨b,6,b7⟩=b0 C/\∀j,w.frozen? ⟨b,j,b7⟩=false:=by
 refine⟨?_,?_,?_,?_,?_,?_,?_,fun j=>?_⟩;all_goals first|(unfold e7;rw[h];rfl)|(unfold World.frozen?;rw[h];rfl)
def ne_ty{c:Nat}{x y:Array Value}{S:TypeId}{J I:Nat×Nat}(h:w.heap[b]? = b0 (.cells x S J))(j:w.heap[c]? = b0 (.cells y T I))(C:S≠T):b≠c:=by
 rintro rfl;rw[h]at j;injection j with j
 injection j with _ j _
 exact C j
def Rq:(b9.info? 9).map (fun i=>(i.zero,i.size,i.bytes))=b0 (b0 (.string ⟨#[]⟩),1,16):=o'
def Rp:b9.underlying 33=b0 (.slice 9):=o'
section
variable {O:Nat->Prop}{sb:Nat}{va vb:Value}{v:Fin 3->Value}{s s':GV}{w w' w2:bI}
def Q.lt(h:Q O sb va vb v s w):sb<w.heap.size:=h.lo sb h.os
def Q.still(h:Q O sb va vb v s w)(hs:AD C' w w'):Q O sb va vb v s w' :=
 ⟨by rw[hs.block sb h.lt id,h.hd],fun i=>LG (h.row i) hs (fun _ _=>id),h.ne,h.own,h.os,
  h.sa.mono (YG hs) fun _ _ c=>c,h.se.mono (YG hs) fun _ _ c=>c,fun b c=>cI (h.lo b c) hs.size,h.gt.mono (YG hs) fun _ _ c=>c⟩
def AGt(i:Fin 3):ty i≠46:=by revert i;decide
def Q.neo(h:Q O sb va vb v s w)(i:Fin 3):(v i).ownBlock≠b0 sb:=fun c=>by
 obtain⟨x,f,j⟩:=Pb (h.row i) c;exact ne_ty j h.hd (AGt i) rfl
def Q.put(h:Q O sb va vb v s w)(i:Fin 3){u:Value}(hs:AD (fun b=>b0 b=(v i).ownBlock) w w2)(hu:w2.ownsRow 0 (ty i) 1 u (xs s' i).length (xs s' i))(ha:∀g,u.ownBlock=b0 g->(v i).ownBlock=b0 g\/w.heap.size<=g)
  (hx:∀j,j≠i->xs s' j=xs s j) (hd:s'.d=s.d) (hf:s'.faint=s.faint):GI O sb w s' (w2.setCell ⟨sb,3+i.val,b7⟩ u):=by
 have e2:w2.heap[sb]? = b0 (.cells (sc va vb v s) 46 (0,0)):=by rw[hs.block sb h.lt (fun e=>h.neo i e.symm),h.hd]
 have aj:AD O w w2:=hs.mono fun b _ c=>h.own i b c.symm
 have I:AD O w (w2.setCell ⟨sb,3+i.val,b7⟩ u):=aj.trans ((CB _ _).mono fun b _ c=>by rw[show b=sb from c];exact h.os);have ao:∀b,u.ownBlock=b0 b->O b\/w.heap.size<=b:=fun b hb=>(ha b hb).imp (h.own i b) id
 have ad:u.ownBlock≠b0 sb:=fun c=>by
  obtain⟨x,f,hx⟩:=Pb hu c;exact ne_ty hx e2 (AGt i) rfl
 have J:∀b,(O b\/u.ownBlock=b0 b)->O b\/w.heap.size<=b:=fun b c=>c.elim .inl (ao b)
 have R:∀j,j≠i->∀b,u.ownBlock=b0 b->(v j).ownBlock≠b0 b:=fun j C b hb c=>(ha b hb).elim (fun e=>h.ne i j (Ne.symm C) b e c) fun e=>by
  have:=(Kh (h.row j) c).2;omega
 refine⟨fun b=>O b\/u.ownBlock=b0 b,fun b c=>.inl c,J,I,va,vb,fun j=>if j=i then u else v j,?_⟩;refine⟨?_,fun j=>?_,fun j k aa b=>?_,fun j b=>?_,.inl h.os,by rw[hd];exact VR.ext h.sa I J,by rw[hd];exact VR.ext h.se I J,?_,h.gt.mono I fun b hb c=>(J b c).resolve_right n'⟩
 .rw[e9 w2 sb (3+i.val) _ _ _ e2];unfold sc;rw[hd,hf]
  match i with
  |0=>rfl
  |1=>rfl
  |2=>rfl
 .by_cases C:j=i
  .subst C;rw[if_pos rfl];exact dw (a:=⟨sb,3+j.val,b7⟩) hu ad _
  .rw[if_neg C,hx j C];exact dw (a:=⟨sb,3+i.val,b7⟩) (LG (h.row j) hs fun b hb c=>h.ne j i C b hb c.symm) (h.neo j) _
 .by_cases C:j=i<;>by_cases U:k=i
  .exact absurd (C.trans U.symm) aa
  .rw[if_pos C,if_neg U];exact R k U b
  .rw[if_neg C,if_pos U];exact fun hb c=>R j C b c hb
  .rw[if_neg C,if_neg U];exact h.ne j k aa b
 .by_cases C:j=i
  .rw[if_pos C];exact .inr
  .rw[if_neg C];exact fun c=>.inl (h.own j b c)
 .rintro b (c|c)
  .exact cI (h.lo b c) I.size
  .simpa[World.setCell]using (Kh hu c).2
def Q.cell(h:Q O sb va vb v s w){I C u:Value}(k:Nat)(R:(sc va vb v s).setIfInBounds k u=sc I C v s')(J:∀j,xs s' j=xs s j)(sa:VR O w I (.sl 5 (b' AN s'.d.Stars)))(se:VR O w C (.sl 5 (b' AC s'.d.Estimates))):
  GI O sb w s' (w.setCell ⟨sb,k,b7⟩ u):=by
 have hs:AD O w (w.setCell ⟨sb,k,b7⟩ u):=(CB _ _).mono fun b _ c=>by rw[show b=sb from c];exact h.os
 refine⟨O,fun _=>id,fun _=>.inl,hs,I,C,v,⟨by rw[e9 w sb k _ _ _ h.hd,R],fun i=>?_,h.ne,h.own,h.os,sa.mono hs fun _ _=>id,se.mono hs fun _ _=>id,fun b c=>cI (h.lo b c) hs.size,h.gt.mono hs fun _ _=>id⟩⟩;rw[J i];exact dw (a:=⟨sb,k,b7⟩) (h.row i) (h.neo i) _
def GI.refl(h:At O sb s w):GI O sb w s w:=⟨O,fun _=>id,fun _=>.inl,d' _ _,h⟩
def GI.still(h:At O sb s w)(hs:AD C' w w'):GI O sb w s w':=by
 obtain⟨va,vb,v,q⟩:=h;exact⟨O,fun _=>id,fun _=>.inl,YG hs,va,vb,v,q.still hs⟩
def GI.then{C:Nat->Prop}(a:∀b,O b->C b)(b:∀b,C b->O b\/w.heap.size<=b)(c:AD O w w')(h:GI C sb w' s w2):GI O sb w s w2:=by
 obtain⟨R,a2,J,c2,q⟩:=h;refine⟨R,fun x j=>a2 x (a x j),fun x j=>(J x j).elim (fun y=>b x y) fun y=>.inr (eg c.size y),⟨c2.os.trans c.os,c2.tape.trans c.tape,c2.output.trans c.output,eg c.size c2.size,fun x j I=>?_⟩,q⟩;rw[c2.block x (cI j c.size) (fun y=>(b x y).elim I n'),c.block x j I]
end
def few(n:Nat):Bool:=bS (n<1099511627776)
def Nq(s:GV)(t:L8):Option GV:=ck (few s.out.length) (b0 { s with out:=s.out++[t] })
def JD(s:GV)(j:Int):Option (Bool×GV) :=if j==0 then b0 (false,s)else(Fj j).bind fun n=>ck (CM 6 n.length)<|(Nq s ([101,114,114,111,114,32]++n)).bind fun s=>b0 (true,s)
def listed(s:GV)(l:List L8):Option GV :=ck (few (s.out.length+l.length))<|(BE (l.length:Int)).bind fun n=>ck (CM 3 n.length)<|Nq { s with out:=s.out++l } ([111,107,32]++n)
def Zf(s:GV)(n j:Int):Option GV :=(JD s j).bind fun r=>if r.1 then b0 r.2 else(BE n).bind fun t=>Nq r.2 t
def NJ(form:UInt8)(w:L8):Bool:=form==101&&bS (0<w.length)&&(w.getD 0 0==60)
def word(s:GV)(form:UInt8)(w:L8):Option (Bool×GV) :=if form==120 then ck (few s.texts.length) (b0 (true,{ s with texts:=s.texts++[w] }))else if form==110 then(Bo w).bind fun y=>ck (few s.nums.length) (b0 (y.2,{ s with nums:=s.nums++[y.1] }))else(Ci (if NJ form w then w.drop 1 else w)).bind fun y=>ck (few s.nums.length) (b0 (y.2,{ s with nums:=s.nums++[y.1],faint:=NJ form w }))
def star (s:GV):Option GV :=ck (bS (1<=s.texts.length)&&bS (4<=s.nums.length))<|(Ge s.d.Stars ⟨s.texts.getD 0 [],s.nums.getD 0 0,s.nums.getD 1 0,s.nums.getD 2 0,s.nums.getD 3 0⟩).bind fun y=>(JD s y.2).bind fun r=>if r.1 then b0 r.2 else(Ep { r.2.d with Stars:=y.1 }).bind fun t=>Nq { r.2 with d:={ r.2.d with Stars:=y.1 } } t
def est (s:GV):Option GV :=ck (bS (1<=s.texts.length))<|(Fh s.d.Stars (s.texts.getD 0 [])).bind fun k=>if bS (k<0)then(JD s 3).bind fun r=>b0 r.2 else ck (bS (2<=s.texts.length)&&bS (2<=s.nums.length))<|(Dx s.d.Estimates ⟨s.nums.getD 0 0,s.texts.getD 0 [],s.texts.getD 1 [],s.nums.getD 1 0,s.faint⟩).bind fun y=>(JD s y.2).bind fun r=>if r.1 then b0 r.2 else(Ep { r.2.d with Estimates:=y.1 }).bind fun t=>Nq { r.2 with d:={ r.2.d with Estimates:=y.1 } } t
def Se (acc:List L8):List AJ->Option (List L8)
 |[]=>b0 acc
 |p::r=>(BE p.Time).bind fun a=>ck (CM a.length 1)<|(Ch p.Mag).bind fun b=>ck (CM (a.length+1) b.length&&few acc.length)<|Se (acc++[a++[32]++b]) r
def curve(s:GV)(l:List AJ):Option GV:=(Se [] l).bind fun q=>listed s q
def WC(i:Nat)(acc:L8):List Int->Option L8
 |[]=>b0 acc
 |n::r=>ck (bS (acc.length<1099511627776))<|(BE n).bind fun t=>ck (CM (acc.length+1) t.length)<|WC (i+1) ((if 0<i then acc++[32]else acc)++t) r
def ABQ(s:GV)(l:List AJ):Option GV :=ck (bS (1<=s.nums.length))<|(Et ⟨0,s.nums.getD 0 0⟩ l).bind fun y=>(JD s y.2).bind fun r=>if r.1 then b0 r.2 else ck (few y.1.length)<|(WC 0 [] y.1).bind fun t=>Nq r.2 (if t=[]then [45]else t)
def Sp(s:GV)(w:L8):Option GV :=ck (bS (1<=s.texts.length))<|(Gd s.d.Estimates (s.texts.getD 0 [])).bind fun y=>(JD s y.2).bind fun r=>if r.1 then b0 r.2 else if w==[99,117,114,118,101]then ck (few y.1.length)<|curve r.2 y.1 else if w==[97,109,112]then(DB y.1).bind fun a=>Zf r.2 a.1 a.2 else if w==[98,101,115,116]then ck (bS (3<=r.2.nums.length))<|(Cz y.1 ⟨r.2.nums.getD 0 0,r.2.nums.getD 1 0,r.2.nums.getD 2 0⟩).bind fun a=>Zf r.2 a.1 a.2 else ABQ r.2 y.1
def last (s:GV):Option GV :=ck (bS (1<=s.texts.length))<|(Gp s.d.Estimates (s.texts.getD 0 [])).bind fun y=>(JD s y.2).bind fun r=>if r.1 then b0 r.2 else(Fg [y.1]).bind fun t=>ck (bS (0<t.length)&&bS (t.length<1099511627776))<|Nq r.2 (t.take (t.length-1))
def enter (s:GV):Option GV :=ck (bS (1<=s.texts.length)&&bS (2<=s.nums.length))<|(Fk s.d.Log ⟨s.nums.getD 0 0,s.texts.getD 0 [],s.nums.getD 1 0⟩).bind fun y=>(JD s y.2).bind fun r=>if r.1 then b0 r.2 else(Em y.1 (r.2.texts.getD 0 [])).bind fun v=>(Jg v.1).bind fun n=>(BE n).bind fun t=>ck (bS (1<=r.2.texts.length))<|Nq { r.2 with d:={ r.2.d with Log:=y.1 } } t
def nx (acc:List L8):List AU->Option (List L8)
 |[]=>b0 acc
 |e::r=>(EQ e).bind fun t=>ck (few acc.length)<|nx (acc++[t]) r
def log (s:GV):Option GV :=(Ea s.d.Log).bind fun y=>ck (few y.1.list_.length)<|(nx [] y.1.list_).bind fun q=>listed s q
def WK(s:GV)(w:L8):Option GV :=if w==[115,116,97,114]then star s else if w==[101,115,116]then est s else if w==[108,97,115,116]then last s else if w==[112,97,105,114,115]then ck (bS (2<=s.nums.length))<|(Cw s.d.Estimates (s.nums.getD 0 0) (s.nums.getD 1 0)).bind fun y=>Zf s (y.1.length:Int) y.2 else if w==[101,110,116,101,114]then enter s else if w==[108,111,103]then log s else Sp s w
def Lk:L8->List L8->GV->Option (Bool×GV)
 |[],_,s=>b0 (true,s)
 |_::_,[],_=>b7
 |f::j,x::r,s=>ck (bS (x.length<9223372036854775807))<|(word s f x).bind fun q=>if q.1 then Lk j r q.2 else b0 (false,q.2)
def doL(s:GV)(line:L8):Option (Bool×GV) :=(ER line 32).bind fun w=>ck (bS (0<w.length)&&few w.length)<|(Bz (w.getD 0 [])).bind fun form=>if form==[45] || !((form.length:Int)==(w.length:Int)-1)then b0 (false,s)else(Lk form (w.drop 1) { s with nums:=[],texts:=[],faint:=false }).bind fun q=>if !q.1 then(JD q.2 7).bind fun r=>b0 (true,r.2)else(WK q.2 (w.getD 0 [])).bind fun s=>b0 (true,s)
def Q.app{O:Nat->Prop}{sb n:Nat}{va vb I u:Value}{v:Fin 3->Value}{s s':GV}{w C w2:bI}{news:List Value}(h:Q O sb va vb v s w)(i:Fin 3)(hv:v i=I)(h1:AD C' w C)(U:w2.ownsRow 0 (ty i) 1 u n (xs s i++news))
  (hx:xs s' i=xs s i++news) (J:∀j,j≠i->xs s' j=xs s j) (hd:s'.d=s.d) (hf:s'.faint=s.faint) (gr:C.grownBy w2 I.ownBlock) (R:u.ownBlock=I.ownBlock\/u.ownBlock=b0 C.heap.size):GI O sb w s' (w2.setCell ⟨sb,3+i.val,b7⟩ u):=by
 refine h.put i ?_ ?_ ?_ J hd hf
 .rw[hv];exact(YG h1).trans (qU gr)
 .rw[hx];have:=U.1;rw[Nat.mul_one]at this;rw[this];exact U
 .intro b hb;rw[hv];rcases R with e|e
  .exact .inl (e.symm.trans hb)
  .have:C.heap.size=b:=by rw[hb]at e;exact(Option.some.inj e).symm
   exact .inr (by have:=h1.size;omega)
def Q.outs{O:Nat->Prop}{sb n:Nat}{va vb I u:Value}{v:Fin 3->Value}{s:GV}{w C w2:bI}{l:List L8}(h:Q O sb va vb v s w)(U:v 0=I)(h1:AD C' w C)(R:w2.ownsRow 0 9 1 u n (MQ s.out++MQ l))
  (gr:C.grownBy w2 I.ownBlock) (J:u.ownBlock=I.ownBlock\/u.ownBlock=b0 C.heap.size):GI O sb w { s with out:=s.out++l } (w2.setCell ⟨sb,3,b7⟩ u) :=
 h.app (s':={ s with out:=s.out++l }) 0 U h1 R (by simp[xs,MQ]) (fun j hj=>by match j,hj with|1,_=>rfl|2,_=>rfl) rfl rfl gr J
variable{O:Nat->Prop}{sb n:Nat}{va vb I u:Value}{v:Fin 3->Value}{s:GV}{w C w2:bI}
def Q.num{z:Int}(h:Q O sb va vb v s w)(U:v 1=I)(h1:AD C' w C)(R:w2.ownsRow 0 2 1 u n (XQ s.nums++[.int .i64 z]))
  (gr:C.grownBy w2 I.ownBlock) (J:u.ownBlock=I.ownBlock\/u.ownBlock=b0 C.heap.size):GI O sb w { s with nums:=s.nums++[z] } (w2.setCell ⟨sb,4,b7⟩ u) :=
 h.app (s':={ s with nums:=s.nums++[z] }) 1 U h1 R (by simp[xs,XQ]) (fun j hj=>by match j,hj with|0,_=>rfl|2,_=>rfl|1,h=>exact absurd rfl h) rfl rfl gr J
def Q.text{x:L8}(h:Q O sb va vb v s w)(U:v 2=I)(h1:AD C' w C)(R:w2.ownsRow 0 9 1 u n (MQ s.texts++[.string ⟨x.toArray⟩]))
  (gr:C.grownBy w2 I.ownBlock) (J:u.ownBlock=I.ownBlock\/u.ownBlock=b0 C.heap.size):GI O sb w { s with texts:=s.texts++[x] } (w2.setCell ⟨sb,5,b7⟩ u) :=
 h.app (s':={ s with texts:=s.texts++[x] }) 2 U h1 R (by simp[xs,MQ,strV]) (fun j hj=>by match j,hj with|0,_=>rfl|1,_=>rfl|2,h=>exact absurd rfl h) rfl rfl gr J
def Ys(u:Value)(sb:Nat)(w w':bI):Prop:=∀b k z,w.cell? ⟨b,k,b7⟩=b0 z->u.ownBlock≠b0 b->(b=sb->k≠3)->w'.cell? ⟨b,k,b7⟩=b0 z
def Ys.behind{j:bI}(hs:AD C' w j)(h:Ys u sb j w2):Ys u sb w w2:=fun b k z C=>h b k z (hs.cell id C)
def Ys.still{u:Value}{sb:Nat}{w j:bI}(hs:AD C' w j):Ys u sb w j:=fun b k z C _ _=>hs.cell id C
attribute [local irreducible] bN in
def zU{t:L8}{s':GV}(h:Q O sb va vb v s w)(j:Nq s t=b0 s'):
  bN b9 21 #[.pointer (b0 ⟨sb,0,b7⟩),.string ⟨t.toArray⟩] w fun e w'=>e = .returned (.tuple #[])/\GI O sb w s' w'/\Ys (v 0) sb w w':=by
 obtain⟨hl,e⟩:=AY j;obtain rfl:=Option.some.inj e;clear e j;have hl:s.out.length<1099511627776:=of_decide_eq_true hl;obtain⟨c0,c1,c2,c3,c4,c5,c6,cf⟩:=Ul h.hd;obtain⟨i0,hi,U,R,J⟩:=dU Rq;have H:=a' h;have HI:=a' hi;have HZ:=a' U;have H1:=a' R;have H2:=a' J;have ae:=h.lt;have hr:RZ 0 w (v 0) s.out:=by have:=h.row 0;simpa[xs,MQ,RZ,ty]using this
 have HR:=a' hr;have bh:=cf 3;clear c0 c1 c2 c4 c5 c6 cf h hi U R J hr;obtain⟨vo,C⟩:∃x,v 0=x:=⟨_,rfl⟩;rw[C]at c3 HR;have HV:=a' C;clear C
 go_enter Tryz.func21,Tryz.ntmps21
 go_wp2_with (at_builtin;refine wpList_append_lies _ rfl _ _ 33 rfl 0 9 i0 _ 1 16 Rp HI.out HZ.out H1.out H2.out rfl n' vo s.out.length (MQ s.out) rfl (cl HR.out _) ⟨w.heap.size,0,b7⟩ 1 1 [.string ⟨t.toArray⟩] rfl rfl (cw (cs:=#[.string ⟨t.toArray⟩]) (t:=9) (fr:=(0,0)) (cS w _)) (by simp[cB]) n' (by unfold ea;omega) n' n' (w.heap.size+1) p' ?_;intro g cap w2 o2 I aj a6;have e2:=(I.block sb t' (fun e=>H.out.neo 0 (HV.out▸e.symm))).trans ((cm w _ ae).trans H.out.hd);obtain⟨_,_,_,k3,_,_,_,kf⟩:=Ul e2;rw[HV.out]at k3;have a7:=kf 3;clear kf e2)
 refine ca (bR rfl _ _ _) rfl ?_;exact⟨rfl,H.out.outs (l:=[t]) HV.out (dT _ w _) o2 I (aj.imp Eq.symm fun e=>by rw[e];simp[Value.ownBlock]),fun b k z hz ho hk=>(World.cell?_setCell_other _ _ _ _ (fun e=>by injection e with e1 e2;exact hk e1.symm e2.symm)).trans (by have lb:b<w.heap.size:=World.block_lt_of_cell? w ⟨b,k,b7⟩ hz;have:=(I.block b t' (fun e=>ho (HV.out▸e.symm))).trans (cm w _ lb);unfold e7 at hz ⊢;rw[this];exact hz)⟩
def Zq{O:Nat->Prop}{sb:Nat}{s:GV}{w:bI}{t:L8}{s':GV}(h:At O sb s w)(j:Nq s t=b0 s'):
  bN b9 21 #[.pointer (b0 ⟨sb,0,b7⟩),.string ⟨t.toArray⟩] w fun e w'=>e = .returned (.tuple #[])/\GI O sb w s' w':=by
 obtain⟨va,vb,v,h⟩:=h;exact(zU h j).mono fun _ _ h=>⟨h.1,h.2.1⟩
section
variable {O:Nat->Prop}{sb:Nat}{s s':GV}{w w':bI}
def hv1{a:Value}{x:AV}(h:VR O w a x):∀j,j < [x].length->VR O w (#[a].getD j undef) ([x].getD j .any)
 |0,_=>h
def hv2{a b:Value}{x y:AV}(h:VR O w a x)(C:VR O w b y):∀j,j < [x,y].length->VR O w (#[a,b].getD j undef) ([x,y].getD j .any)
 |0,_=>h
 |1,_=>C
def tup2_inv{S:Nat->Prop}{u:Value}{x:AV}{z:Int}(h:VR S w u (.tup [x,.int .i64 z])):∃a,u = .tuple #[a,.int .i64 z]/\VR S w a x:=by
 cases h with
 | @tup cs J C h=>
  have I:=h 0 p';have j:=h 1 p';obtain⟨l⟩:=cs
  match l,C with
  | [a,c],_=>
   have j:VR S w c (.int .i64 z):=j;cases j
   exact⟨a,rfl,I⟩
variable{n:L8}
def rl{j:Int}(h:Fj j=b0 n)(lo:∀b,O b->b<w.heap.size)(gt:GT O w):
  bN b9 43 #[.int .i64 j] w fun e w'=>e = .returned (.string ⟨n.toArray⟩)/\AD C' w w' :=
 (DR s_182.s Tryz.func43 rfl z' (args:=[.int .i64 j]) (vargs:=#[.int .i64 j]) rfl (by rw[APu];rfl) rfl (hv1 .int) lo gt (ANM h)).mono fun e w' ⟨u,I,h2,C⟩=>by cases C;exact⟨I,h2⟩
def jX{k:Int}(h:BE k=b0 n)(lo:∀b,O b->b<w.heap.size)(gt:GT O w):
  bN b9 84 #[.int .i64 k] w fun e w'=>e = .returned (.string ⟨n.toArray⟩)/\AD C' w w' :=
 (DR s_164.s Tryz.func84 rfl z' (args:=[.int .i64 k]) (vargs:=#[.int .i64 k]) rfl (by rw[AQF];rfl) rfl (hv1 .int) lo gt (ANW h)).mono fun e w' ⟨u,C,h2,j⟩=>by cases j;exact⟨C,h2⟩
def At.lo(h:At O sb s w):∀b,O b->b<w.heap.size:=by obtain⟨_,_,_,q⟩:=h;exact q.lo
def At.gt(h:At O sb s w):GT O w:=by obtain⟨_,_,_,q⟩:=h;exact q.gt
def At.still(h:At O sb s w)(hs:AD C' w w'):At O sb s w':=by obtain⟨_,_,_,q⟩:=h;exact⟨_,_,_,q.still hs⟩
def GI.behind(hs:AD C' w w'){w2:bI}(h:GI O sb w' s w2):GI O sb w s w2:=GI.then (fun _=>id) (fun _=>.inl) (YG hs) h
end
variable{O:Nat->Prop}{sb:Nat}{va vb:Value}{v:Fin 3->Value}{s:GV}{w:bI}{C:Int}{r:Bool×GV}
attribute [local irreducible] bN in
def Zz(h:Q O sb va vb v s w)(j:JD s C=b0 r):
  bN b9 19 #[.pointer (b0 ⟨sb,0,b7⟩),.int .i64 C] w fun e w'=>e = .returned (.bool r.1)/\GI O sb w r.2 w'/\Ys (v 0) sb w w'/\(r.1=false->r.2=s/\AD C' w w'):=by
 unfold JD at j;rcases Au j with⟨hc,j⟩|⟨hc,j⟩
 .obtain rfl:=AX j;obtain rfl:C=0:=by simpa using hc
  clear j hc;have H:=a' h;clear h
  go_enter ek,ef
  go_wp2
  go_ret
  exact⟨rfl,GI.refl ⟨_,_,_,H.out⟩,Ys.still (d' _ _),d' _ _⟩
 .obtain⟨n,hn,j⟩:=AO j;obtain⟨I,j⟩:=AY j;obtain⟨s',R,j⟩:=AO j;obtain rfl:=AX j;have hc:¬ C=0:=by simpa using hc
  have I:6+n.length<=9223372036854775807:=by simpa[CM]using I
  have H:=a' h;have HN:=a' hn;have HS:=a' R;clear j h hn R
  go_enter ek,ef
  go_wp2_with (first
   |(go_at_call 43;refine(rl HN.out H.out.lo H.out.gt).mono ?_;rintro e w1 ⟨rfl,J⟩;have S1:=a' J;clear J)
   |(go_at_call 21;refine(zU (H.out.still S1.out) HS.out).mono ?_;rintro e w2 ⟨rfl,aa,U⟩;have E2:=a' aa;have K2:=a' U;clear aa U))
  go_ret
  exact⟨rfl,GI.behind S1.out E2.out,Ys.behind S1.out K2.out,fun c=>by cases c⟩
variable{j:Int}
def Ii(h:At O sb s w)(C:JD s j=b0 r):
  bN b9 19 #[.pointer (b0 ⟨sb,0,b7⟩),.int .i64 j] w fun e w'=>e = .returned (.bool r.1)/\GI O sb w r.2 w':=by
 obtain⟨va,vb,v,h⟩:=h;exact(Zz h C).mono fun _ _ h=>⟨h.1,h.2.1⟩
variable{s':GV}{n:Int}
attribute [local irreducible] bN in
def zG(h:Q O sb va vb v s w)(j:Zf s n C=b0 s'):
  bN b9 50 #[.pointer (b0 ⟨sb,0,b7⟩),.int .i64 n,.int .i64 C] w fun e w'=>e = .returned (.tuple #[])/\GI O sb w s' w'/\Ys (v 0) sb w w':=by
 obtain⟨⟨b,s1⟩,hq,j⟩:=AO j;have H:=a' h;have R:=a' hq;clear h hq;cases b with
 | true=>
  obtain rfl:=AX j;clear j
  go_enter ej,ed
  go_wp2_with (go_at_call 19;refine(Zz H.out R.out).mono ?_;rintro e w1 ⟨rfl,he,J,-⟩;have E1:=a' he;have K1:=a' J;clear he J)
  refine ca (bR rfl _ _ _) rfl ?_;exact⟨rfl,E1.out,K1.out⟩
 | false=>
  obtain⟨t,ht,j⟩:=AO j;have HT:=a' ht;have HR:=a' j;clear j ht
  have q9:s1=s:=by
   unfold JD at R;rcases Au R.out with⟨hc,j⟩|⟨hc,j⟩
   .exact(Prod.mk.inj (AX j)).2.symm
   .obtain⟨n,hn,j⟩:=AO j;obtain⟨aj,j⟩:=AY j;obtain⟨s',ax,j⟩:=AO j;cases AX j
  subst q9
  go_enter ej,ed
  go_wp2_with (first
   |(go_at_call 19;refine(Zz H.out R.out).mono ?_;rintro e w1 ⟨rfl,-,-,hz⟩;have S1:=a' (hz rfl).2;clear hz)
   |(go_at_call 84;refine(jX HT.out (H.out.still S1.out).lo (H.out.still S1.out).gt).mono ?_;rintro e w2 ⟨rfl,I⟩;have U:=a' (S1.out.trans I);clear I)
   |(go_at_call 21;refine(zU (H.out.still U.out) HR.out).mono ?_;rintro e w3 ⟨rfl,he,J⟩;have E3:=a' he;have K3:=a' J;clear he J))
  refine ca (bR rfl _ _ _) rfl ?_;exact⟨rfl,GI.behind U.out E3.out,Ys.behind U.out K3.out⟩
def zH(h:At O sb s w)(C:Zf s n j=b0 s'):
  bN b9 50 #[.pointer (b0 ⟨sb,0,b7⟩),.int .i64 n,.int .i64 j] w fun e w'=>e = .returned (.tuple #[])/\GI O sb w s' w':=by
 obtain⟨va,vb,v,h⟩:=h;exact(zG h C).mono fun _ _ h=>⟨h.1,h.2.1⟩
def Q.cells{O:Nat->Prop}{sb:Nat}{va vb:Value}{v:Fin 3->Value}{s:GV}{w:bI}(h:Q O sb va vb v s w):
  w.cell? ⟨sb,0,b7⟩=b0 va/\w.cell? ⟨sb,1,b7⟩=b0 vb/\w.cell? ⟨sb,2,b7⟩=b0 (.string ⟨s.d.Log.toArray⟩)/\w.cell? ⟨sb,3,b7⟩=b0 (v 0)/\w.cell? ⟨sb,4,b7⟩=b0 (v 1)/\w.cell? ⟨sb,5,b7⟩=b0 (v 2)/\w.cell? ⟨sb,6,b7⟩=b0 (.bool s.faint)/\∀j,w.frozen? ⟨sb,j,b7⟩=false:=Ul h.hd
attribute [local irreducible] bN in
def oB{O:Nat->Prop}{sb ab off:Nat}{s s':GV}{w:bI}{l:List L8}{cap:Nat}(h:At O sb s w)(hl:OD w ab off l)(I:listed s l=b0 s'):
  bN b9 89 #[.pointer (b0 ⟨sb,0,b7⟩),.slice (b0 ⟨ab,off,b7⟩) l.length cap] w fun e w'=>e = .returned (.tuple #[])/\GI O sb w s' w':=by
 obtain⟨hf,I⟩:=AY I;obtain⟨n,ax,I⟩:=AO I;obtain⟨J,I⟩:=AY I;have hf:s.out.length+l.length<1099511627776:=of_decide_eq_true hf;have J:3+n.length<=9223372036854775807:=by simpa[CM]using J
 obtain⟨va,vb,v,h⟩:=h;obtain⟨c0,c1,c2,c3,c4,c5,c6,cf⟩:=h.cells;obtain⟨i0,hi,aj,ae,ad⟩:=dU Rq;have H:=a' h;have HI:=a' hi;have HZ:=a' aj;have H1:=a' ae;have H2:=a' ad;have HN:=a' ax;have HR:=a' I;have a7:=h.lt;have au:RZ 0 w (v 0) s.out:=by have:=h.row 0;simpa[xs,MQ,RZ,ty]using this
 have HW:=a' au
 have C:∀j u,(MQ l)[j]? = b0 u->w.cell? ((⟨ab,off,b7⟩:Addr).add j)=b0 u:=fun j u hu=>by
  have hj:j<l.length:=by
   rcases Nat.lt_or_ge j l.length with c|c
   .exact c
   .rw[List.getElem?_eq_none (by simpa[MQ]using c)]at hu;cases hu
  have ay:(⟨ab,off,b7⟩:Addr).add j=⟨ab,off+j,b7⟩:=by unfold Addr.add;split<;>simp_all
  rw[ay,hl j hj]
  have:(MQ l)[j]? = b0 (strV (l.getD j default)):=by
   rw[MQ,dx,gdE,geE hj];rfl
  rw[this]at hu;exact hu
 have ba:=a' C;have b8:=cf 3;clear c0 c1 c2 c4 c5 c6 cf h hi aj ae ad au ax I hl C;obtain⟨vo,R⟩:∃x,v 0=x:=⟨_,rfl⟩;rw[R]at c3 HW;have HV:=a' R;clear R
 go_enter Tryz.func89,Tryz.ntmps89
 go_wp2_with (first
  |(at_builtin;refine cA _ rfl _ _ 33 rfl 0 9 i0 _ 1 16 Rp HI.out HZ.out H1.out H2.out rfl n' vo s.out.length (MQ s.out) rfl HW.out ⟨ab,off,b7⟩ l.length cap (MQ l) rfl (by simp[MQ]) ba.out (by simp[MQ,strV,cB]) (by unfold ea;omega) n' n' ?_;intro u w2 o2 U _ az;obtain⟨ga,gc,rfl⟩:=Oo o2;have e2:=(U.block sb a7 (fun e=>H.out.neo 0 (HV.out▸e.symm))).trans H.out.hd;obtain⟨_,_,_,k3,_,_,_,kf⟩:=Ul e2;rw[HV.out]at k3;have b6:=kf 3;have HE:=a' (H.out.outs (l:=l) HV.out (d' _ _) o2 U az);clear kf e2 o2 U az)
  |(go_at_call 84;obtain⟨O1,a1,b1,c1,h1⟩:=HE.out;have A1:=a' a1;have B1:=a' b1;have C1:=a' c1;have H9:=a' h1;clear a1 b1 c1 h1;refine(jX HN.out H9.out.lo H9.out.gt).mono ?_;rintro e w3 ⟨rfl,ao⟩;have S3:=a' ao;clear ao)
  |(go_at_call 21;refine(Zq (H9.out.still S3.out) HR.out).mono ?_;rintro e w4 ⟨rfl,he⟩;have E4:=a' he;clear he))
 refine ca (bR rfl _ _ _) rfl ?_;exact⟨rfl,GI.then A1.out B1.out C1.out (GI.behind S3.out E4.out)⟩
variable{x:L8}{y:Int×Bool}
def AAR(h:Bo x=b0 y)(lo:∀b,O b->b<w.heap.size)(gt:GT O w):
  bN b9 76 #[.string ⟨x.toArray⟩] w fun e w'=>e = .returned (.tuple #[.int .i64 y.1,.bool y.2])/\AD C' w w' :=
 (DR s_169.s Tryz.func76 rfl z' (args:=[.str x]) (vargs:=#[.string ⟨x.toArray⟩]) rfl (by rw[AQC];rfl) rfl (hv1 .str) lo gt (Xx h)).mono fun e w' ⟨u,j,h2,C⟩=>by rw[ZB C]at j;exact⟨j,h2⟩
def AOf(h:Ci x=b0 y)(lo:∀b,O b->b<w.heap.size)(gt:GT O w):
  bN b9 77 #[.string ⟨x.toArray⟩] w fun e w'=>e = .returned (.tuple #[.int .i64 y.1,.bool y.2])/\AD C' w w' :=
 (DR s_181.s Tryz.func77 rfl z' (args:=[.str x]) (vargs:=#[.string ⟨x.toArray⟩]) rfl (by rw[APv];rfl) rfl (hv1 .str) lo gt (ANN h)).mono fun e w' ⟨u,j,h2,C⟩=>by rw[ZB C]at j;exact⟨j,h2⟩
def AOS(h:Q O sb va vb v s w):RZ 0 w (v 2) s.texts:=by have:=h.row 2;simpa[xs,MQ,RZ,ty]using this
def AKb(h:Q O sb va vb v s w):w.ownsRow 0 2 1 (v 1) s.nums.length (XQ s.nums):=by have:=h.row 1;simpa[xs,XQ,ty]using this
attribute [local irreducible] bN in
def QZ(h:At O sb s w)(hf:s.texts.length<1099511627776):
  bN b9 45 #[.pointer (b0 ⟨sb,0,b7⟩),.int .u8 120,.string ⟨x.toArray⟩] w fun e w'=>e = .returned (.bool true)/\GI O sb w { s with texts:=s.texts++[x] } w':=by
 obtain⟨va,vb,v,h⟩:=h;obtain⟨c0,c1,c2,c3,c4,c5,c6,cf⟩:=h.cells;obtain⟨i0,hi,R,J,I⟩:=dU Rq;have H:=a' h;have HI:=a' hi;have HZ:=a' R;have H1:=a' J;have H2:=a' I;have ab:=h.lt;have HR:=a' (AOS h);have az:=cf 5;clear c0 c1 c2 c3 c4 c6 cf h hi R J I;obtain⟨vo,j⟩:∃x,v 2=x:=⟨_,rfl⟩;rw[j]at c5 HR;have HV:=a' j;clear j
 go_enter e8,e6
 go_wp2_with (at_builtin;refine cA _ rfl _ _ 33 rfl 0 9 i0 _ 1 16 Rp HI.out HZ.out H1.out H2.out rfl n' vo s.texts.length (MQ s.texts) rfl (cl HR.out _) ⟨w.heap.size,0,b7⟩ 1 1 [.string ⟨x.toArray⟩] rfl rfl (cw (cs:=#[.string ⟨x.toArray⟩]) (t:=9) (fr:=(0,0)) (cS w _)) (by simp[cB]) (by unfold ea;omega) n' n' ?_;intro u w2 o2 C _ U;obtain⟨ga,gc,rfl⟩:=Oo o2;have e2:=(C.block sb t' (fun e=>H.out.neo 2 (HV.out▸e.symm))).trans ((cm w _ ab).trans H.out.hd);obtain⟨_,_,_,_,_,k5,_,kf⟩:=Ul e2;rw[HV.out]at k5;have ax:=kf 5;have HE:=a' (H.out.text HV.out (dT _ w _) o2 C U);clear kf e2 o2 C U)
 go_ret
 exact⟨rfl,HE.out⟩
attribute [local irreducible] bN in
def Mt(h:At O sb s w)(hy:Bo x=b0 y)(hf:s.nums.length<1099511627776):
  bN b9 45 #[.pointer (b0 ⟨sb,0,b7⟩),.int .u8 110,.string ⟨x.toArray⟩] w fun e w'=>e = .returned (.bool y.2)/\GI O sb w { s with nums:=s.nums++[y.1] } w':=by
 obtain⟨i0,hi,U,R,J⟩:=dU aq;have H:=a' h;have HY:=a' hy;have HI:=a' hi;have HZ:=a' U;have H1:=a' R;have H2:=a' J;clear h hi U R J hy
 go_enter e8,e6
 go_wp2_with (first
  |(go_at_call 76;refine(AAR HY.out H.out.lo H.out.gt).mono ?_;rintro e w1 ⟨rfl,C⟩;obtain⟨va,vb,v,h⟩:=H.out.still C;obtain⟨_,_,_,_,c4,_,_,cf⟩:=h.cells;have a8:=cf 4;have ae:=h.lt;have HR:=a' (AKb h);have HQ:=a' h;have S1:=a' C;obtain⟨vo,j⟩:∃x,v 1=x:=⟨_,rfl⟩;rw[j]at c4 HR;have HV:=a' j;clear j cf h C)
  |(at_builtin;refine cA _ rfl _ _ 44 rfl 0 2 i0 _ 1 8 Uw HI.out HZ.out H1.out H2.out rfl n' vo s.nums.length (XQ s.nums) rfl (cl HR.out _) ⟨w1.heap.size,0,b7⟩ 1 1 [.int .i64 y.1] rfl rfl (cw (cs:=#[.int .i64 y.1]) (t:=2) (fr:=(0,0)) (cS w1 _)) (by simp[cB]) (by unfold ea;omega) n' n' ?_;intro u w2 o2 I _ aa;obtain⟨ga,gc,rfl⟩:=Oo o2;have e2:=(I.block sb t' (fun e=>HQ.out.neo 1 (HV.out▸e.symm))).trans ((cm w1 _ ae).trans HQ.out.hd);obtain⟨_,_,_,_,k4,_,_,kf⟩:=Ul e2;rw[HV.out]at k4;have a6:=kf 4;have HE:=a' (HQ.out.num HV.out (dT _ w1 _) o2 I aa);clear kf e2 o2 I aa))
 go_ret
 exact⟨rfl,GI.behind S1.out HE.out⟩
def APN(c:UInt8)(r:L8):∀h,(⟨(c::r).toArray⟩:ByteArray)[0]'h=c:=fun _=>rfl
def APS(c:UInt8)(r:L8):(⟨(c::r).toArray⟩:ByteArray).extract 1 (r.length+1)=⟨r.toArray⟩:=by
 apply ByteArray.ext;simp[ByteArray.data_extract]
attribute [local irreducible] bN in
theorem jr{form:UInt8}{J:L8}{b:Bool}(h:At O sb s w)(h1:¬ (form.toNat:Int)=120)(h2:¬ (form.toNat:Int)=110)(bo:x.length<9223372036854775807)(hb:b=NJ form x)(C:J=if b then x.drop 1 else x)(hy:Ci J=b0 y)(hf:s.nums.length<1099511627776):
  bN b9 45 #[.pointer (b0 ⟨sb,0,b7⟩),.int .u8 (form.toNat:Int),.string ⟨x.toArray⟩] w fun e w'=>e = .returned (.bool y.2)/\GI O sb w { s with nums:=s.nums++[y.1],faint:=b } w':=by
 obtain⟨j0,hi,ae,ad,ab⟩:=dU aq;obtain⟨va,vb,v,h⟩:=h;have hE:GI O sb w { s with faint:=b } (w.setCell ⟨sb,6,b7⟩ (.bool b)):=h.cell (s':={ s with faint:=b }) 6 rfl (fun j=>by match j with|0=>rfl|1=>rfl|2=>rfl) h.sa h.se;obtain⟨_,_,_,_,_,_,c6,cf⟩:=h.cells;have cb:=cf 6;have b8:=h.lt;have HE:=a' hE;have HY:=a' hy;have HI:=a' hi;have HZ:=a' ae;have H1:=a' ad;have H2:=a' ab;clear hE h hi ae ad ab hy cf
 have I:(¬ (form.toNat:Int)=101/\b=false/\J=x)\/((form.toNat:Int)=101/\((x=[]/\b=false/\J=[])\/∃c r,x=c::r/\((¬ (c.toNat:Int)=60/\b=false/\J=c::r)\/((c.toNat:Int)=60/\b=true/\J=r)))):=by
  by_cases h3:form=101
  .refine .inr ⟨by rw[h3];rfl,?_⟩;subst h3;cases x with
   |nil=>exact .inl ⟨rfl,hb,by rw[C,hb];rfl⟩
   | cons c r=>
    refine .inr ⟨c,r,rfl,?_⟩;have hi:NJ 101 (c::r)=(c==60):=by simp[NJ]
    rw[hi]at hb
    by_cases h4:c=60
    .subst h4;refine .inr ⟨rfl,hb,by rw[C,hb];rfl⟩
    .refine .inl ⟨fun e=>h4 (c'.1 (by have:((60:UInt8).toNat:Int)=60:=rfl;omega)),?_⟩;have:b=false:=by rw[hb];simpa using h4
     exact⟨this,by rw[C,this];rfl⟩
  .refine .inl ⟨fun e=>h3 (c'.1 (by have:((101:UInt8).toNat:Int)=101:=rfl;omega)),?_⟩;have:b=false:=by rw[hb];unfold NJ;simp[h3]
   exact⟨this,by rw[C,this];rfl⟩
 obtain⟨F,hF⟩:∃F,(form.toNat:Int)=F:=⟨_,rfl⟩;rw[hF]at h1 h2 I ⊢;clear hF hb C;rcases I with⟨h3,rfl,rfl⟩|⟨rfl,⟨rfl,rfl,rfl⟩|⟨c,r,rfl,⟨h4,rfl,rfl⟩|⟨h4,rfl,rfl⟩⟩⟩
 all_goals
  try have hg:=APN c r
  try have hex:=APS c r
  try have hg:=APN c J
  try have hex:=APS c J
  go_enter e8,e6
  go_wp2_with (first
   |(go_at_call 77;obtain⟨O1,a1,b1,c1,h9⟩:=HE.out;refine(AOf HY.out h9.lo h9.gt).mono ?_;rintro e w1 ⟨rfl,U⟩;obtain⟨b4,b3,v1,h⟩:=h9.still U;obtain⟨_,_,_,_,c4,_,_,cf⟩:=h.cells;have cc:=cf 4;have aj:=h.lt;have HR:=a' (AKb h);have HQ:=a' h;have S1:=a' U;have A1:=a' a1;have B1:=a' b1;have C1:=a' c1;obtain⟨vo,R⟩:∃x,v1 1=x:=⟨_,rfl⟩;rw[R]at c4 HR;have HV:=a' R;clear R cf h U a1 b1 c1 h9)
   |(at_builtin;refine cA _ rfl _ _ 44 rfl 0 2 j0 _ 1 8 Uw HI.out HZ.out H1.out H2.out rfl n' vo s.nums.length (XQ s.nums) rfl (cl HR.out _) ⟨w1.heap.size,0,b7⟩ 1 1 [.int .i64 y.1] rfl rfl (cw (cs:=#[.int .i64 y.1]) (t:=2) (fr:=(0,0)) (cS w1 _)) (by simp[cB]) (by unfold ea;omega) n' n' ?_;intro u w2 o2 aa _ ay;obtain⟨ga,gc,rfl⟩:=Oo o2;have e2:=(aa.block sb t' (fun e=>HQ.out.neo 1 (HV.out▸e.symm))).trans ((cm w1 _ aj).trans HQ.out.hd);obtain⟨_,_,_,_,k4,_,_,kf⟩:=Ul e2;rw[HV.out]at k4;have b5:=kf 4;have bb:=a' (HQ.out.num HV.out (dT _ w1 _) o2 aa ay);clear kf e2 o2 aa ay))
  go_ret
  exact⟨rfl,GI.then A1.out B1.out C1.out (GI.behind S1.out bb.out)⟩
theorem AKI{form:UInt8}(h:At O sb s w)(C:x.length<9223372036854775807)(j:word s form x=b0 r):
  bN b9 45 #[.pointer (b0 ⟨sb,0,b7⟩),.int .u8 (form.toNat:Int),.string ⟨x.toArray⟩] w fun e w'=>e = .returned (.bool r.1)/\GI O sb w r.2 w':=by
 unfold word at j;rcases Au j with⟨J,j⟩|⟨J,j⟩
 .obtain rfl:form=120:=by simpa using J
  obtain⟨I,j⟩:=AY j;obtain rfl:=AX j;exact QZ h (of_decide_eq_true I)
 .have n1:¬ (form.toNat:Int)=120:=fun e=>by
   have:form=120:=c'.1 (by have:((120:UInt8).toNat:Int)=120:=rfl;omega);rw[this]at J;cases J
  rcases Au j with⟨h2,j⟩|⟨h2,j⟩
  .obtain rfl:form=110:=by simpa using h2
   obtain⟨y,R,j⟩:=AO j;obtain⟨I,j⟩:=AY j;obtain rfl:=AX j;exact Mt h R (of_decide_eq_true I)
  .have n2:¬ (form.toNat:Int)=110:=fun e=>by
    have:form=110:=c'.1 (by have:((110:UInt8).toNat:Int)=110:=rfl;omega);rw[this]at h2;cases h2
   obtain⟨y,R,j⟩:=AO j;obtain⟨I,j⟩:=AY j;obtain rfl:=AX j;exact jr h n1 n2 C rfl rfl R (of_decide_eq_true I)
variable{j:List Star}
def agg5{a b c d e:Value}{x1 x2 I C j:AV}(h1:VR O w a x1)(h2:VR O w b x2)(h3:VR O w c I)(U:VR O w d C)(R:VR O w e j)(hs:[x1,x2,I,C,j].all AV.atom=true):VR O w (.agg #[a,b,c,d,e]) (.agg [x1,x2,I,C,j]):=by
 simp only[List.all_cons,List.all_nil,Bool.and_true,baT]at hs;refine .agg rfl (fun k J=>?_) (fun k J=>?_)
 .match k,J with
  |0,_=>exact hs.1
  |1,_=>exact hs.2.1
  |2,_=>exact hs.2.2.1
  |3,_=>exact hs.2.2.2.1
  |4,_=>exact hs.2.2.2.2
 .match k,J with
  |0,_=>exact h1
  |1,_=>exact h2
  |2,_=>exact h3
  |3,_=>exact U
  |4,_=>exact R
def yf{x:Star}{y:List Star×Int}(h:Ge j x=b0 y)(C:VR O w va (.sl 5 (b' AN j)))(lo:∀b,O b->b<w.heap.size)(gt:GT O w):
  bN b9 78 #[va,.agg #[.string ⟨x.Name.toArray⟩,.int .i64 x.Ascend,.int .i64 x.Decl,.int .i64 x.Bright,.int .i64 x.Faint]] w fun e w'=>∃u,e = .returned (.tuple #[u,.int .i64 y.2])/\AD C' w w'/\VR O w' u (.sl 5 (b' AN y.1)) :=
 (DR s_128.s Tryz.func78 rfl z' (args:=[.sl 5 (b' AN j),AN x]) (vargs:=#[va,.agg #[.string ⟨x.Name.toArray⟩,.int .i64 x.Ascend,.int .i64 x.Decl,.int .i64 x.Bright,.int .i64 x.Faint]]) rfl (by rw[AQN];rfl) rfl (hv2 C (agg5 .str .int .int .int .int rfl)) lo gt (ANg h)).mono fun e w' ⟨u,R,h2,J⟩=>by
  obtain⟨a,rfl,I⟩:=tup2_inv J;exact⟨a,R,h2,I⟩
def sl_of{S:Nat->Prop}{v:Value}{sz:Nat}{els:List AV}(h:VR S w v (.sl sz els)):∃a n c,v = .slice a n c:=by
 cases h;exact⟨_,_,_,rfl⟩
def ij{t:L8}(h:Ep s.d=b0 t)(I:At O sb s w):
  bN b9 79 #[.pointer (b0 ⟨sb,0,b7⟩)] w fun e w'=>e = .returned (.string ⟨t.toArray⟩)/\AD C' w w':=by
 obtain⟨va,vb,v,q⟩:=I;obtain⟨c0,c1,c2,_,_,_,_,_⟩:=q.cells;have lift:∀{v:Value} {x:AV},VR O w v x->VR C' w v x:=fun h=>h.mono (d' _ _) fun _ _ c=>c.elim
 have J:VR C' w (.pointer (b0 ⟨sb,0,b7⟩)) (.ptr 3 [BC s.d] 0 0):=by
  refine VR.ptr (sz:=3) (els:=[BC s.d]) (i0:=0) (o0:=0) sb 0 (fun _ j=>match j with|0=>va|1=>vb|_=>.string ⟨s.d.Log.toArray⟩) x' Nat.one_pos id (fun i hi=>?_) (fun i j hi C=>?_) (fun i j hi C=>?_)
  .match i,hi with
   |0,_=>exact⟨rfl,rfl⟩
  .match i,hi,j,C with
   |0,_,0,_=>exact c0
   |0,_,1,_=>exact c1
   |0,_,2,_=>exact c2
  .match i,hi,j,C with
   |0,_,0,_=>exact lift q.sa
   |0,_,1,_=>exact lift q.se
   |0,_,2,_=>exact .str
 exact(DR s_184.s Tryz.func79 rfl z' (args:=[.ptr 3 [BC s.d] 0 0]) (vargs:=#[.pointer (b0 ⟨sb,0,b7⟩)]) rfl (by rw[APt];rfl) rfl (hv1 J) (fun _ c=>c.elim) (q.gt.mono (d' _ _) fun _ _ c=>c.elim) (ANL h)).mono fun e w' ⟨u,U,h2,R⟩=>by cases R;exact⟨U,h2⟩
def TC(h:Q O sb va vb v s w)(C:0<s.nums.length):∃g c,v 1 = .slice (b0 ⟨g,0,b7⟩) s.nums.length c/\g<w.heap.size/\∀i,i<s.nums.length->w.cell? ⟨g,i,b7⟩=b0 (.int .i64 (s.nums.getD i 0)):=by
 have j:=AKb h;obtain⟨g,c,e⟩:=Tc j C;rw[e]at j;refine⟨g,c,e,(Kh j rfl).2,fun i hi=>?_⟩;rw[Nz j hi,XQ,gdE,dx,gdE,geE hi];rfl
def Pp(h:Q O sb va vb v s w)(C:0<s.texts.length):∃g c,v 2 = .slice (b0 ⟨g,0,b7⟩) s.texts.length c/\g<w.heap.size/\∀i,i<s.texts.length->w.cell? ⟨g,i,b7⟩=b0 (.string ⟨(s.texts.getD i []).toArray⟩):=by
 have j:=AOS h;obtain⟨g,c,e⟩:=Tc j C;unfold RZ at j;rw[e]at j;refine⟨g,c,e,(Kh j rfl).2,fun i hi=>?_⟩;rw[Nz j hi,MQ,gdE,dx,gdE,geE hi];rfl
attribute [local irreducible] bN in
def AKP(h:At O sb s w)(J:star s=b0 s'):
  bN b9 46 #[.pointer (b0 ⟨sb,0,b7⟩)] w fun e w'=>e = .returned (.tuple #[])/\GI O sb w s' w':=by
 obtain⟨hb,J⟩:=AY J;simp only[baT,dtE]at hb;obtain⟨a7,a6⟩:=hb;obtain⟨y,R,J⟩:=AO J;obtain⟨⟨b,s1⟩,hq,J⟩:=AO J;obtain⟨va,vb,v,h⟩:=h;obtain⟨c0,_,_,_,c4,c5,_,_⟩:=h.cells;obtain⟨gn,cn,en,ln,I⟩:=TC h n';obtain⟨gt,ct,et,lt,ae⟩:=Pp h n';rw[en]at c4;rw[et]at c5;have n0:=I 0 n';have n1:=I 1 n';have n2:=I 2 n';have n3:=I 3 n';have t0:=ae 0 n';obtain⟨nn,ad⟩:∃n,n=s.nums.length:=⟨_,rfl⟩;obtain⟨nt,ab⟩:∃n,n=s.texts.length:=⟨_,rfl⟩;obtain⟨N0,e0⟩:∃x,s.nums.getD 0 0=x:=⟨_,rfl⟩;obtain⟨N1,e1⟩:∃x,s.nums.getD 1 0=x:=⟨_,rfl⟩;obtain⟨N2,e2⟩:∃x,s.nums.getD 2 0=x:=⟨_,rfl⟩;obtain⟨N3,e3⟩:∃x,s.nums.getD 3 0=x:=⟨_,rfl⟩;obtain⟨T0,e4⟩:∃x,s.texts.getD 0 []=x:=⟨_,rfl⟩;rw[e0]at n0 R;rw[e1]at n1 R;rw[e2]at n2 R;rw[e3]at n3 R;rw[e4]at t0 R;rw[←ad]at c4;rw[←ab]at c5;have i5:0<nt:=n'
 have i0:0<nn:=n'
 have i1:(1:Int)<(nn:Int):=n'
 have i2:(2:Int)<(nn:Int):=n'
 have i3:(3:Int)<(nn:Int):=n'
 have H:=a' h;have HY:=a' R;have HQ:=a' hq;have HR:=a' J;have c6:=h.lt;clear h R hq J I ae e0 e1 e2 e3 e4 ad ab a7 a6 en et;obtain⟨an,mn,kn,rfl⟩:=sl_of H.out.sa
 go_enter Tryz.func46,Tryz.ntmps46
 go_wp2
 go_region_held3 (fun w'=>w'.cell? ⟨sb,0,b7⟩=b0 (.slice an mn kn)/\w'.cell? ⟨sb,5,b7⟩=b0 (.slice (b0 ⟨gt,0,b7⟩) nt ct)/\w'.cell? ⟨gt,0,b7⟩=b0 (.string ⟨T0.toArray⟩)/\w'.cell? ⟨gn,0,b7⟩=b0 (.int .i64 N0)/\w'.cell? ⟨gn,1,b7⟩=b0 (.int .i64 N1)/\w'.cell? ⟨gn,2,b7⟩=b0 (.int .i64 N2)/\w'.cell? ⟨gn,3,b7⟩=b0 (.int .i64 N3)) (first|exact ba.out|exact⟨c0,c5,t0,n0,n1,n2,n3⟩) (first
  |(go_at_call 78;refine(yf HY.out (H.out.still (bX _ _)).sa (H.out.still (bX _ _)).lo (H.out.still (bX _ _)).gt).mono ?_;rintro e w1 ⟨u,rfl,C,hu⟩;have ba:=a' (show _/\_/\_/\_/\_/\_/\_ from⟨C.cell id c0,C.cell id c5,C.cell id t0,C.cell id n0,C.cell id n1,C.cell id n2,C.cell id n3⟩);have S1:=a' ((bX C' w).trans C);have HU:=a' hu;clear C hu))
 cases b with
 | true=>
  obtain rfl:=AX (show b0 s1=b0 s' from HR.out)
  go_wp2_with (go_at_call 19;refine(Ii ⟨_,_,_,H.out.still S1.out⟩ HQ.out).mono ?_;rintro e w2 ⟨rfl,he⟩;have E2:=a' he;clear he)
  refine ca (bR rfl _ _ _) rfl ?_;exact⟨rfl,GI.behind S1.out E2.out⟩
 | false=>
  obtain⟨t,ht,aa⟩:=AO (show(Ep { s1.d with Stars:=y.1 }).bind (fun t=>Nq { s1 with d:={ s1.d with Stars:=y.1 } } t)=b0 s' from HR.out);have HT:=a' ht;have HS:=a' aa;obtain⟨au,mu,ku,rfl⟩:=sl_of HU.out;clear ht aa HR c0 c4 c5 n0 n1 n2 n3 t0
  go_wp2_with (first
   |(go_at_call 19;refine(Ii ⟨_,_,_,H.out.still S1.out⟩ HQ.out).mono ?_;rintro e w2 ⟨rfl,O1,a1,b1,x1,cf,cd,v1,q1⟩;obtain⟨d0,_,_,_,_,_,_,df⟩:=q1.cells;have c7:=df 0;have A1:=a' a1;have B1:=a' b1;have X1:=a' x1;have E3:=a' (q1.cell (s':={ s1 with d:={ s1.d with Stars:=y.1 } }) (u:=.slice au mu ku) 0 rfl (fun j=>by match j with|0=>rfl|1=>rfl|2=>rfl) (VR.ext HU.out x1 b1) q1.se);clear df a1 b1 x1 q1)
   |(go_at_call 79;obtain⟨O2,a2,b2,x2,q2⟩:=E3.out;have A2:=a' a2;have B2:=a' b2;have X2:=a' x2;have Q2:=a' q2;clear a2 b2 x2 q2;refine(ij HT.out Q2.out).mono ?_;rintro e w4 ⟨rfl,U⟩;have S4:=a' U;clear U)
   |(go_at_call 21;refine(Zq (Q2.out.still S4.out) HS.out).mono ?_;rintro e w5 ⟨rfl,he⟩;have E5:=a' he;clear he))
  refine ca (bR rfl _ _ _) rfl ?_;exact⟨rfl,GI.behind S1.out (GI.then A1.out B1.out X1.out (GI.then A2.out B2.out X2.out (GI.behind S4.out E5.out)))⟩
def ru{b:Nat}{I v1 v2 C j:Value}{T:TypeId}(h:w.heap[b]? = b0 (.cells #[I,v1,v2,C,j] T (0,0))):
  w.cell? ⟨b,0,b7⟩=b0 I/\w.cell? ⟨b,1,b7⟩=b0 v1/\w.cell? ⟨b,2,b7⟩=b0 v2/\w.cell? ⟨b,3,b7⟩=b0 C/\w.cell? ⟨b,4,b7⟩=b0 j:=by
 refine⟨?_,?_,?_,?_,?_⟩;all_goals(unfold e7;rw[h];rfl)
def ALT{k:Int}(h:Fh j x=b0 k)(C:VR O w va (.sl 5 (b' AN j)))(lo:∀b,O b->b<w.heap.size)(gt:GT O w):
  bN b9 66 #[va,.string ⟨x.toArray⟩] w fun e w'=>e = .returned (.int .i64 k)/\AD C' w w' :=
 (DR s_127.s Tryz.func66 rfl z' (args:=[.sl 5 (b' AN j),.str x]) (vargs:=#[va,.string ⟨x.toArray⟩]) rfl (by rw[AQO];rfl) rfl (hv2 C .str) lo gt (ANh h)).mono fun e w' ⟨u,J,h2,I⟩=>by cases I;exact⟨J,h2⟩
def ADd{j:List AA}{x:AA}{y:List AA×Int}(h:Dx j x=b0 y)(C:VR O w va (.sl 5 (b' AC j)))(lo:∀b,O b->b<w.heap.size)(gt:GT O w):
  bN b9 80 #[va,.agg #[.int .i64 x.Time,.string ⟨x.Star.toArray⟩,.string ⟨x.Observer.toArray⟩,.int .i64 x.Mag,.bool x.Fainter]] w fun e w'=>∃u,e = .returned (.tuple #[u,.int .i64 y.2])/\AD C' w w'/\VR O w' u (.sl 5 (b' AC y.1)) :=
 (DR s_135.s Tryz.func80 rfl z' (args:=[.sl 5 (b' AC j),AC x]) (vargs:=#[va,.agg #[.int .i64 x.Time,.string ⟨x.Star.toArray⟩,.string ⟨x.Observer.toArray⟩,.int .i64 x.Mag,.bool x.Fainter]]) rfl (by rw[AQM];rfl) rfl (hv2 C (agg5 .int .str .str .int .bool rfl)) lo gt (ANe h)).mono fun e w' ⟨u,R,h2,J⟩=>by
  obtain⟨a,rfl,I⟩:=tup2_inv J;exact⟨a,R,h2,I⟩
attribute [local irreducible] bN in
def APT(h:At O sb s w)(hr:est s=b0 s'):
  bN b9 47 #[.pointer (b0 ⟨sb,0,b7⟩)] w fun e w'=>e = .returned (.tuple #[])/\GI O sb w s' w':=by
 obtain⟨az,hr⟩:=AY hr;have az:1<=s.texts.length:=of_decide_eq_true az;obtain⟨k,hk,hr⟩:=AO hr;obtain⟨va,vb,v,h⟩:=h;obtain⟨c0,c1,_,_,c4,c5,c6,_⟩:=h.cells;obtain⟨gt,ct,et,lt,ax⟩:=Pp h n';rw[et]at c5;have t0:=ax 0 n';obtain⟨nt,ao⟩:∃n,n=s.texts.length:=⟨_,rfl⟩;obtain⟨T0,e4⟩:∃x,s.texts.getD 0 []=x:=⟨_,rfl⟩;rw[e4]at t0 hk;rw[←ao]at c5;have i5:0<nt:=n'
 have H:=a' h;have HK:=a' hk;have HR:=a' hr;have b3:=a' ax;have dc:=a' ao;have ds:=a' e4;have ga:=h.lt;clear hk hr ax e4 ao az et;obtain⟨an,mn,kn,rfl⟩:=sl_of H.out.sa;obtain⟨ae,me,ke,rfl⟩:=sl_of H.out.se
 go_enter Tryz.func47,Tryz.ntmps47
 go_wp2
 go_region_held3 (fun w'=>w'.cell? ⟨sb,0,b7⟩=b0 (.slice an mn kn)/\w'.cell? ⟨sb,5,b7⟩=b0 (.slice (b0 ⟨gt,0,b7⟩) nt ct)/\w'.cell? ⟨gt,0,b7⟩=b0 (.string ⟨T0.toArray⟩)) (first|exact db.out|exact⟨c0,c5,t0⟩) (first
  |(go_at_call 66;refine(ALT HK.out (H.out.still (bX _ _)).sa (H.out.still (bX _ _)).lo (H.out.still (bX _ _)).gt).mono ?_;rintro e w1 ⟨rfl,R⟩;have db:=a' (show _/\_/\_ from⟨R.cell id c0,R.cell id c5,R.cell id t0⟩);have J:=a' ((bX C' w).trans R);clear R))
 by_cases bs:k<0
 .have C:=HR.out;rw[if_pos (by simpa using bs)]at C;obtain⟨r,hq,C⟩:=AO C;obtain rfl:=AX C;have HQ:=a' hq;clear C hq HR
  go_wp2_with (go_at_call 19;refine(Ii ⟨_,_,_,H.out.still J.out⟩ HQ.out).mono ?_;rintro e w2 ⟨rfl,he⟩;have E2:=a' he;clear he)
  refine bodyPost_ret (bR rfl _ _ _) rfl ?_;exact⟨rfl,GI.behind J.out E2.out⟩
 .have C:=HR.out;rw[if_neg (by simpa using bs)]at C;clear HR;obtain⟨hb,C⟩:=AY C;simp only[baT,dtE]at hb;obtain⟨aa,cf⟩:=hb;obtain⟨y,hy,C⟩:=AO C;obtain⟨⟨b,s1⟩,hq,C⟩:=AO C;obtain⟨gn,cn,en,ln,ay⟩:=TC h n';rw[en]at c4;have n0:=ay 0 n';have n1:=ay 1 n';have t1:=b3.out 1 n';obtain⟨nn,bo⟩:∃n,n=s.nums.length:=⟨_,rfl⟩;obtain⟨N0,e0⟩:∃x,s.nums.getD 0 0=x:=⟨_,rfl⟩;obtain⟨N1,e1⟩:∃x,s.nums.getD 1 0=x:=⟨_,rfl⟩;obtain⟨T1,e5⟩:∃x,s.texts.getD 1 []=x:=⟨_,rfl⟩;rw[e0]at n0 hy;rw[e1]at n1 hy;rw[e5]at t1 hy;rw[ds.out]at hy;rw[←bo]at c4;have i6:(1:Int)<(nt:Int):=by have:=dc.out;omega
  have i0:0<nn:=n'
  have i1:(1:Int)<(nn:Int):=n'
  have HY:=a' hy;have HQ:=a' hq;have HR:=a' C;obtain⟨F,hF⟩:∃x,s.faint=x:=⟨_,rfl⟩;rw[hF]at c6 HY;clear h hy hq C ay e0 e1 e5 bo aa cf en hF b3;have k0:=J.out.cell id c0;have k1:=J.out.cell id c1;have k4:=J.out.cell id c4;have k5:=J.out.cell id c5;have k6:=J.out.cell id c6;have m0:=J.out.cell id n0;have m1:=J.out.cell id n1;have p0:=J.out.cell id t0;have p1:=J.out.cell id t1;clear c0 c1 c4 c5 c6 n0 n1 t0 t1;have a6:=a' (show ∀W,AD C' w1 W->_/\_/\_/\_/\_/\_/\_ from fun W hs=>⟨hs.cell id k4,hs.cell id k5,hs.cell id k6,hs.cell id m0,hs.cell id m1,hs.cell id p0,hs.cell id p1⟩)
  go_wp2
  go_region_held3 (fun w'=>w'.cell? ⟨sb,4,b7⟩=b0 (.slice (b0 ⟨gn,0,b7⟩) nn cn)/\w'.cell? ⟨sb,5,b7⟩=b0 (.slice (b0 ⟨gt,0,b7⟩) nt ct)/\w'.cell? ⟨sb,6,b7⟩=b0 (.bool F)/\w'.cell? ⟨gn,0,b7⟩=b0 (.int .i64 N0)/\w'.cell? ⟨gn,1,b7⟩=b0 (.int .i64 N1)/\w'.cell? ⟨gt,0,b7⟩=b0 (.string ⟨T0.toArray⟩)/\w'.cell? ⟨gt,1,b7⟩=b0 (.string ⟨T1.toArray⟩))
   (first|exact a6.out _ (bX _ _)|exact a6.out _ ((bX _ _).trans (dT _ _ _))) (fail)
  obtain⟨w2,U⟩:∃w2,w2=(w1.alloc (.cells #[.int .i64 N0,.string ⟨T0.toArray⟩,.string ⟨T1.toArray⟩,.int .i64 N1,.bool F] 89)).drew:=⟨_,rfl⟩;have aj:AD C' w1 w2:=by rw[U];exact(dT _ _ _).trans (bX _ _)
  have aa:w2.heap[w1.heap.size]? = b0 (.cells #[.int .i64 N0,.string ⟨T0.toArray⟩,.string ⟨T1.toArray⟩,.int .i64 N1,.bool F] 89 (0,0)):=by rw[U];exact cS w1 _
  obtain⟨g0,g1,g2,g3,g4⟩:=ru aa;have S2:=a' (J.out.trans aj);have ad:=aj.cell id k1;obtain⟨eb,bz⟩:∃b,b=w1.heap.size:=⟨_,rfl⟩;rw[←bz]at g0 g1 g2 g3 g4 ⊢;rw[←U];clear U aj aa bz k0 k1 k4 k5 k6 m0 m1 p0 p1 a6
  go_wp2
  go_region_held3 (fun w'=>w'.cell? ⟨sb,1,b7⟩=b0 (.slice ae me ke)/\w'.cell? ⟨eb,0,b7⟩=b0 (.int .i64 N0)/\w'.cell? ⟨eb,1,b7⟩=b0 (.string ⟨T0.toArray⟩)/\w'.cell? ⟨eb,2,b7⟩=b0 (.string ⟨T1.toArray⟩)/\w'.cell? ⟨eb,3,b7⟩=b0 (.int .i64 N1)/\w'.cell? ⟨eb,4,b7⟩=b0 (.bool F))
   (first|exact⟨ad,g0,g1,g2,g3,g4⟩|exact c8.out) (first
   |(go_at_call 80;refine(ADd HY.out (H.out.still (S2.out.trans (bX _ _))).se (H.out.still (S2.out.trans (bX _ _))).lo (H.out.still (S2.out.trans (bX _ _))).gt).mono ?_;rintro e w3 ⟨u,rfl,I,hu⟩;have c8:=a' (show _/\_/\_/\_/\_/\_ from⟨I.cell id ad,I.cell id g0,I.cell id g1,I.cell id g2,I.cell id g3,I.cell id g4⟩);have S3:=a' ((S2.out.trans (bX _ _)).trans I);have HU:=a' hu;clear I hu))
  cases b with
  | true=>
   obtain rfl:=AX (show b0 s1=b0 s' from HR.out)
   go_wp2_with (go_at_call 19;refine(Ii ⟨_,_,_,H.out.still S3.out⟩ HQ.out).mono ?_;rintro e w4 ⟨rfl,he⟩;have E4:=a' he;clear he)
   refine ca (bR rfl _ _ _) rfl ?_;exact⟨rfl,GI.behind S3.out E4.out⟩
  | false=>
   obtain⟨t,ht,be⟩:=AO (show(Ep { s1.d with Estimates:=y.1 }).bind (fun t=>Nq { s1 with d:={ s1.d with Estimates:=y.1 } } t)=b0 s' from HR.out);have HT:=a' ht;have HS:=a' be;obtain⟨au,mu,ku,rfl⟩:=sl_of HU.out;clear ht be HR ad g0 g1 g2 g3 g4
   go_wp2_with (first
    |(go_at_call 19;refine(Ii ⟨_,_,_,H.out.still S3.out⟩ HQ.out).mono ?_;rintro e w4 ⟨rfl,O1,a1,b1,x1,fm,fi,v1,q1⟩;obtain⟨_,d1,_,_,_,_,_,df⟩:=q1.cells;have gb:=df 1;have A1:=a' a1;have B1:=a' b1;have X1:=a' x1;have E3:=a' (q1.cell (s':={ s1 with d:={ s1.d with Estimates:=y.1 } }) (u:=.slice au mu ku) 1 rfl (fun j=>by match j with|0=>rfl|1=>rfl|2=>rfl) q1.sa (VR.ext HU.out x1 b1));clear df a1 b1 x1 q1)
    |(go_at_call 79;obtain⟨O2,a2,b2,x2,q2⟩:=E3.out;have A2:=a' a2;have B2:=a' b2;have X2:=a' x2;have Q2:=a' q2;clear a2 b2 x2 q2;refine(ij HT.out Q2.out).mono ?_;rintro e w5 ⟨rfl,bb⟩;have S5:=a' bb;clear bb)
    |(go_at_call 21;refine(Zq (Q2.out.still S5.out) HS.out).mono ?_;rintro e w6 ⟨rfl,he⟩;have E6:=a' he;clear he))
   refine ca (bR rfl _ _ _) rfl ?_;exact⟨rfl,GI.behind S3.out (GI.then A1.out B1.out X1.out (GI.then A2.out B2.out X2.out (GI.behind S5.out E6.out)))⟩
