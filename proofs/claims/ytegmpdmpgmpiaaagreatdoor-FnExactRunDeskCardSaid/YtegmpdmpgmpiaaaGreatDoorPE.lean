/- Lemmas and walks, several texts in one. No condition. -/
import Derived.Test.YtegmpdmpgmpiaaaGreatDoorP3
import Derived.Test.YtegmpdmpgmpiaaaGreatDoorP7
import Derived.Test.YtegmpdmpgmpiaaaGreatDoorPC
import Derived.Maps.AppendAt
import Derived.Test.YtegmpdmpgmpiaaaGreatDoorPD
import Derived.LoopTactic
open Decidable renaming decide->b6
open Go renaming World->b0,Calls->b5,results_none->b7,bodyPost_end->bI,heap_alloc_old->bR,wpList_append_own_at->bX,heap_alloc_new->cd,ownsRow_setCell_other->cI,info_parts->c',heap_setCell_same->dz,maxLen->dT
open Go.Lib renaming hid->a8
open Go.Proofs.Tryz renaming prog->a',ntmps45->dc,func45->dw,ntmps50->dX,ntmps19->d',func50->e7,func19->e8
open Go.Proofs.YtegmpdmpgmpiaaaGreatDoor.AG renaming drew->b8,alloc->cS,refl->db
open Go.Value renaming oneCell'->b'
open Go.World renaming news_of_block->bS,cell?->ds
open Go.World.ownsRow renaming alloc->bN
open List renaming map->bs,getElem?_map->cL
open Nat renaming lt_of_lt_of_le->cc,le_trans->e6
open Option renaming some->aj,none->ax
open UInt8 renaming toNat_inj->cA
set_option linter.defProp false
set_option linter.unusedSimpArgs false
set_option linter.unusedVariables false
set_option maxRecDepth 100000
set_option maxHeartbeats 4000000
noncomputable section
namespace Go.Proofs.YtegmpdmpgmpiaaaGreatDoor.l28
open Go Go.RowKit Go.Proofs.YtegmpdmpgmpiaaaGreatDoor Go.Proofs.YtegmpdmpgmpiaaaGreatDoor.plot Go.Proofs.YtegmpdmpgmpiaaaGreatDoor.rdc
structure FL where
 d:Bp
 out:List (List UInt8)
 nums:List Int
 texts:List (List UInt8)
 faint:Bool
def xs(s:FL):Fin 3->List Value
 | 0=>Kk s.out
 | 1=>Vu s.nums
 | 2=>Kk s.texts
def ty:Fin 3->TypeId
 | 0=>9
 | 1=>2
 | 2=>9
def sc(va vb:Value)(v:Fin 3->Value)(s:FL):Array Value:=#[va,vb,.string ⟨s.d.Log.toArray⟩,v 0,v 1,v 2,.bool s.faint]
structure Q(O:Nat->Prop)(sb:Nat)(va vb:Value)(v:Fin 3->Value)(s:FL)(w:b0):Prop where
 hd:w.heap[sb]? = aj (.cells (sc va vb v s) 46 (0,0))
 row:∀ i,w.ownsRow 0 (ty i) 1 (v i) (xs s i).length (xs s i)
 ne:∀ i j,i≠j->∀ b,(v i).ownBlock=aj b->(v j).ownBlock≠aj b
 own:∀ i b,(v i).ownBlock=aj b->O b
 os:O sb
 sa:VR O w va (.sl 5 (bs Ao s.d.Stars))
 se:VR O w vb (.sl 5 (bs AC s.d.Estimates))
 lo:∀ b,O b->b<w.heap.size
 gt:GT O w
def At(O:Nat->Prop)(sb:Nat)(s:FL)(w:b0):Prop:=∃ va vb v,Q O sb va vb v s w
def Em(O:Nat->Prop)(sb:Nat)(w:b0)(s:FL)(w':b0):Prop := ∃ g:Nat->Prop,(∀ b,O b->g b)∧(∀ b,g b->O b∨w.heap.size<=b)∧AG O w w'∧At g sb s w'
theorem VR.ext{O g:Nat->Prop}{w w':b0}{v:Value}{a:AV}(h:VR O w v a)(hs:AG O w w')(h2:∀ b,g b->O b∨w.heap.size<=b):VR g w' v a :=
 h.mono hs fun b i c=>(h2 b c).resolve_right (by omega)
theorem Tv{O:Nat->Prop}{w w':b0}(h:AG (fun _=>False) w w'):AG O w w':=h.mono fun _ _ c=>c.elim
theorem TV{w:b0}{b:Nat}{C v1 v2 p o i g:Value}{T:TypeId}(h:w.heap[b]? = aj (.cells #[C,v1,v2,p,o,i,g] T (0,0))):
  w.cell? ⟨b,0,ax⟩=aj C∧w.cell? ⟨b,1,ax⟩=aj v1∧w.cell? ⟨b,2,ax⟩=aj v2∧w.cell? ⟨b,3,ax⟩=aj p∧w.cell? ⟨b,4,ax⟩=aj o∧w.cell? ⟨b,5,ax⟩=aj i∧w.cell? ⟨b,6,ax⟩=aj g∧∀ j,w.frozen? ⟨b,j,ax⟩=false:=by
 refine⟨?_,?_,?_,?_,?_,?_,?_,fun j=>?_⟩;all_goals first|(unfold ds;rw[h];rfl)|(unfold World.frozen?;rw[h];rfl)
theorem ACS{w:b0}{b c:Nat}{x y:Array Value}{S T:TypeId}{o j:Nat×Nat}(h:w.heap[b]? = aj (.cells x S o))(g:w.heap[c]? = aj (.cells y T j))(i:S≠T):b≠c:=by
 rintro rfl;rw[h] at g;injection g with g
 injection g with _ g _
 exact i g
theorem Ql:(a'.info? 9).map (fun i=>(i.zero,i.size,i.bytes))=aj (aj (.string ⟨#[]⟩),1,16):=by kernel_rfl
theorem Qk:a'.underlying 33=aj (.slice 9):=by kernel_rfl
section
variable {O:Nat->Prop}{sb:Nat}{va vb:Value}{v:Fin 3->Value}{s s':FL}{w w' w2:b0}
theorem Q.lt(h:Q O sb va vb v s w):sb<w.heap.size:=h.lo sb h.os
theorem Q.still(h:Q O sb va vb v s w)(hs:AG (fun _=>False) w w'):Q O sb va vb v s w' :=
 ⟨by rw[hs.block sb h.lt id,h.hd],fun i=>Iu (h.row i) hs (fun _ _=>id),h.ne,h.own,h.os,
  h.sa.mono (Tv hs) fun _ _ c=>c,h.se.mono (Tv hs) fun _ _ c=>c,fun b c=>cc (h.lo b c) hs.size,h.gt.mono (Tv hs) fun _ _ c=>c⟩
theorem ACJ(i:Fin 3):ty i≠46:=by revert i;decide
theorem Q.neo(h:Q O sb va vb v s w)(i:Fin 3):(v i).ownBlock≠aj sb:=fun c=>by
 obtain⟨x,f,g⟩:=MA (h.row i) c;exact ACS g h.hd (ACJ i) rfl
theorem Q.put(h:Q O sb va vb v s w)(i:Fin 3){u:Value}(hs:AG (fun b=>aj b=(v i).ownBlock) w w2)(hu:w2.ownsRow 0 (ty i) 1 u (xs s' i).length (xs s' i))(ha:∀ g,u.ownBlock=aj g->(v i).ownBlock=aj g∨w.heap.size<=g)
  (T:∀ j,j≠i->xs s' j=xs s j) (hd:s'.d=s.d) (hf:s'.faint=s.faint):Em O sb w s' (w2.setCell ⟨sb,3+i.val,ax⟩ u):=by
 have e2:w2.heap[sb]? = aj (.cells (sc va vb v s) 46 (0,0)):=by rw[hs.block sb h.lt (fun e=>h.neo i e.symm),h.hd]
 have ab:AG O w w2:=hs.mono fun b _ c=>h.own i b c.symm
 have p:AG O w (w2.setCell ⟨sb,3+i.val,ax⟩ u):=ab.trans ((DP _ _).mono fun b _ c=>by rw[show b=sb from c];exact h.os);have ac:∀ b,u.ownBlock=aj b->O b∨w.heap.size<=b:=fun b I=>(ha b I).imp (h.own i b) id
 have U:u.ownBlock≠aj sb:=fun c=>by
  obtain⟨x,f,T⟩:=MA hu c;exact ACS T e2 (ACJ i) rfl
 have C:∀ b,(O b∨u.ownBlock=aj b)->O b∨w.heap.size<=b:=fun b c=>c.elim .inl (ac b)
 have J:∀ j,j≠i->∀ b,u.ownBlock=aj b->(v j).ownBlock≠aj b:=fun j o b I c=>(ha b I).elim (fun e=>h.ne i j (Ne.symm o) b e c) fun e=>by
  have:=(Iv (h.row j) c).2;omega
 refine⟨fun b=>O b∨u.ownBlock=aj b,fun b c=>.inl c,C,p,va,vb,fun j=>if j=i then u else v j,?_⟩;refine⟨?_,fun j=>?_,fun j k R b=>?_,fun j b=>?_,.inl h.os,by rw[hd];exact VR.ext h.sa p C,by rw[hd];exact VR.ext h.se p C,?_,h.gt.mono p fun b I c=>(C b c).resolve_right (by omega)⟩
 ·rw[dz w2 sb (3+i.val) _ _ _ e2];unfold sc;rw[hd,hf]
  match i with
  | 0=>rfl
  | 1=>rfl
  | 2=>rfl
 ·by_cases o:j=i
  ·subst o;rw[if_pos rfl];exact cI (a:=⟨sb,3+j.val,ax⟩) hu U _
  ·rw[if_neg o,T j o];exact cI (a:=⟨sb,3+i.val,ax⟩) (Iu (h.row j) hs fun b I c=>h.ne j i o b I c.symm) (h.neo j) _
 ·by_cases o:j=i<;>by_cases P:k=i
  ·exact absurd (o.trans P.symm) R
  ·rw[if_pos o,if_neg P];exact J k P b
  ·rw[if_neg o,if_pos P];exact fun I c=>J j o b c I
  ·rw[if_neg o,if_neg P];exact h.ne j k R b
 ·by_cases o:j=i
  ·rw[if_pos o];exact .inr
  ·rw[if_neg o];exact fun c=>.inl (h.own j b c)
 ·rintro b (c|c)
  ·exact cc (h.lo b c) p.size
  ·simpa[World.setCell] using (Iv hu c).2
theorem Q.cell(h:Q O sb va vb v s w){o g u:Value}(k:Nat)(C:(sc va vb v s).setIfInBounds k u=sc o g v s')(p:∀ j,xs s' j=xs s j)(sa:VR O w o (.sl 5 (bs Ao s'.d.Stars)))(se:VR O w g (.sl 5 (bs AC s'.d.Estimates))):
  Em O sb w s' (w.setCell ⟨sb,k,ax⟩ u):=by
 have hs:AG O w (w.setCell ⟨sb,k,ax⟩ u):=(DP _ _).mono fun b _ c=>by rw[show b=sb from c];exact h.os
 refine⟨O,fun _=>id,fun _=>.inl,hs,o,g,v,⟨by rw[dz w sb k _ _ _ h.hd,C],fun i=>?_,h.ne,h.own,h.os,sa.mono hs fun _ _=>id,se.mono hs fun _ _=>id,fun b c=>cc (h.lo b c) hs.size,h.gt.mono hs fun _ _=>id⟩⟩;rw[p i];exact cI (a:=⟨sb,k,ax⟩) (h.row i) (h.neo i) _
theorem Em.refl(h:At O sb s w):Em O sb w s w:=⟨O,fun _=>id,fun _=>.inl,db _ _,h⟩
theorem Em.still(h:At O sb s w)(hs:AG (fun _=>False) w w'):Em O sb w s w':=by
 obtain⟨va,vb,v,q⟩:=h;exact⟨O,fun _=>id,fun _=>.inl,Tv hs,va,vb,v,q.still hs⟩
theorem Em.then{i:Nat->Prop}(a:∀ b,O b->i b)(b:∀ b,i b->O b∨w.heap.size<=b)(c:AG O w w')(h:Em i sb w' s w2):Em O sb w s w2:=by
 obtain⟨p,a2,o,c2,q⟩:=h;refine⟨p,fun x g=>a2 x (a x g),fun x g=>(o x g).elim (fun y=>b x y) fun y=>.inr (e6 c.size y),⟨c2.os.trans c.os,c2.tape.trans c.tape,c2.output.trans c.output,e6 c.size c2.size,fun x g j=>?_⟩,q⟩;rw[c2.block x (cc g c.size) (fun y=>(b x y).elim j (by omega)),c.block x g j]
end
def few(n:Nat):Bool:=b6 (n<1099511627776)
def Mv(s:FL)(t:List UInt8):Option FL:=ck (few s.out.length) (aj { s with out:=s.out++[t] })
def IF(s:FL)(g:Int):Option (Bool×FL) :=if g==0 then aj (false,s) else (FD g).bind fun n=>ck (CN 6 n.length) <|(Mv s ([101,114,114,111,114,32]++n)).bind fun s=>aj (true,s)
def listed(s:FL)(l:List (List UInt8)):Option FL :=ck (few (s.out.length+l.length)) <|(BB (l.length:Int)).bind fun n=>ck (CN 3 n.length) <|Mv { s with out:=s.out++l } ([111,107,32]++n)
def YH(s:FL)(n g:Int):Option FL :=(IF s g).bind fun r=>if r.1 then aj r.2 else (BB n).bind fun t=>Mv r.2 t
def ME(form:UInt8)(w:List UInt8):Bool:=form==101&&b6 (0<w.length)&&(w.getD 0 0==60)
def word(s:FL)(form:UInt8)(w:List UInt8):Option (Bool×FL) :=if form==120 then ck (few s.texts.length) (aj (true,{ s with texts:=s.texts++[w] })) else if form==110 then (Bi w).bind fun y=>ck (few s.nums.length) (aj (y.2,{ s with nums:=s.nums++[y.1] })) else (CZ (if ME form w then w.drop 1 else w)).bind fun y=>ck (few s.nums.length) (aj (y.2,{ s with nums:=s.nums++[y.1],faint:=ME form w }))
def star (s:FL):Option FL :=ck (b6 (1<=s.texts.length)&&b6 (4<=s.nums.length)) <|(Fw s.d.Stars ⟨s.texts.getD 0 [],s.nums.getD 0 0,s.nums.getD 1 0,s.nums.getD 2 0,s.nums.getD 3 0⟩).bind fun y=>(IF s y.2).bind fun r=>if r.1 then aj r.2 else (ER { r.2.d with Stars:=y.1 }).bind fun t=>Mv { r.2 with d:={ r.2.d with Stars:=y.1 } } t
def est (s:FL):Option FL :=ck (b6 (1<=s.texts.length)) <|(Fu s.d.Stars (s.texts.getD 0 [])).bind fun k=>if b6 (k<0) then (IF s 3).bind fun r=>aj r.2 else ck (b6 (2<=s.texts.length)&&b6 (2<=s.nums.length)) <|(Dh s.d.Estimates ⟨s.nums.getD 0 0,s.texts.getD 0 [],s.texts.getD 1 [],s.nums.getD 1 0,s.faint⟩).bind fun y=>(IF s y.2).bind fun r=>if r.1 then aj r.2 else (ER { r.2.d with Estimates:=y.1 }).bind fun t=>Mv { r.2 with d:={ r.2.d with Estimates:=y.1 } } t
def RM (acc:List (List UInt8)):List AJ->Option (List (List UInt8))
 | []=>aj acc
 | p::r=>(BB p.Time).bind fun a=>ck (CN a.length 1) <|(CY p.Mag).bind fun b=>ck (CN (a.length+1) b.length&&few acc.length) <|RM (acc++[a++[32]++b]) r
def curve(s:FL)(l:List AJ):Option FL:=(RM [] l).bind fun q=>listed s q
def Ul(i:Nat)(acc:List UInt8):List Int->Option (List UInt8)
 | []=>aj acc
 | n::r=>ck (b6 (acc.length<1099511627776)) <|(BB n).bind fun t=>ck (CN (acc.length+1) t.length) <|Ul (i+1) ((if 0<i then acc++[32] else acc)++t) r
def xP(s:FL)(l:List AJ):Option FL :=ck (b6 (1<=s.nums.length)) <|(EV ⟨0,s.nums.getD 0 0⟩ l).bind fun y=>(IF s y.2).bind fun r=>if r.1 then aj r.2 else ck (few y.1.length) <| (Ul 0 [] y.1).bind fun t=>Mv r.2 (if t=[] then [45] else t)
def RX(s:FL)(w:List UInt8):Option FL :=ck (b6 (1<=s.texts.length)) <|(Fv s.d.Estimates (s.texts.getD 0 [])).bind fun y=>(IF s y.2).bind fun r=>if r.1 then aj r.2 else if w==[99,117,114,118,101] then ck (few y.1.length) <| curve r.2 y.1 else if w==[97,109,112] then (Cr y.1).bind fun a=>YH r.2 a.1 a.2 else if w==[98,101,115,116] then ck (b6 (3<=r.2.nums.length)) <| (Co y.1 ⟨r.2.nums.getD 0 0,r.2.nums.getD 1 0,r.2.nums.getD 2 0⟩).bind fun a=>YH r.2 a.1 a.2 else xP r.2 y.1
def last (s:FL):Option FL :=ck (b6 (1<=s.texts.length)) <|(GH s.d.Estimates (s.texts.getD 0 [])).bind fun y=>(IF s y.2).bind fun r=>if r.1 then aj r.2 else (FB [y.1]).bind fun t=>ck (b6 (0<t.length)&&b6 (t.length<1099511627776)) <| Mv r.2 (t.take (t.length-1))
def enter (s:FL):Option FL :=ck (b6 (1<=s.texts.length)&&b6 (2<=s.nums.length)) <|(FE s.d.Log ⟨s.nums.getD 0 0,s.texts.getD 0 [],s.nums.getD 1 0⟩).bind fun y=>(IF s y.2).bind fun r=>if r.1 then aj r.2 else (EO y.1 (r.2.texts.getD 0 [])).bind fun v=>(Il v.1).bind fun n=>(BB n).bind fun t=>ck (b6 (1<=r.2.texts.length)) <| Mv { r.2 with d:={ r.2.d with Log:=y.1 } } t
def kL (acc:List (List UInt8)):List AW->Option (List (List UInt8))
 | []=>aj acc
 | e::r=>(Dz e).bind fun t=>ck (few acc.length) <| kL (acc++[t]) r
def log (s:FL):Option FL :=(ES s.d.Log).bind fun y=>ck (few y.1.list_.length) <| (kL [] y.1.list_).bind fun q=>listed s q
def Up(s:FL)(w:List UInt8):Option FL :=if w==[115,116,97,114] then star s else if w==[101,115,116] then est s else if w==[108,97,115,116] then last s else if w==[112,97,105,114,115] then ck (b6 (2<=s.nums.length)) <| (Ck s.d.Estimates (s.nums.getD 0 0) (s.nums.getD 1 0)).bind fun y=>YH s (y.1.length:Int) y.2 else if w==[101,110,116,101,114] then enter s else if w==[108,111,103] then log s else RX s w
def Ki:List UInt8->List (List UInt8)->FL->Option (Bool×FL)
 | [],_,s=>aj (true,s)
 | _::_,[],_=>ax
 | f::g,x::r,s=>ck (b6 (x.length<9223372036854775807)) <| (word s f x).bind fun q=>if q.1 then Ki g r q.2 else aj (false,q.2)
def zs(s:FL)(line:List UInt8):Option (Bool×FL) :=(Dc line 32).bind fun w=>ck (b6 (0<w.length)&&few w.length) <|(Bu (w.getD 0 [])).bind fun form=>if form==[45] || !((form.length:Int)==(w.length:Int)-1) then aj (false,s) else (Ki form (w.drop 1) { s with nums:=[],texts:=[],faint:=false }).bind fun q=>if !q.1 then (IF q.2 7).bind fun r=>aj (true,r.2) else (Up q.2 (w.getD 0 [])).bind fun s=>aj (true,s)
def runL:Nat->List (List UInt8)->FL->Option FL
 | _,[],s=>aj s
 | i,x::r,s=>if 60<=i then (IF s 5).bind fun q=>aj q.2 else (zs s x).bind fun q=>if q.1 then runL (i+1) r q.2 else (Mv q.2 [63]).bind fun s=>runL (i+1) r s
def runDesk (text:List UInt8):Option (List UInt8) :=Jl.bind fun d=>(Dc text 10).bind fun l=>ck (b6 (0<l.length)&&few l.length) <|(runL 0 (if l.getD (l.length-1) []==[] then l.take (l.length-1) else l) ⟨d,[],[],[],false⟩).bind fun s=>GE s.out
theorem Q.app{O:Nat->Prop}{sb n:Nat}{va vb o u:Value}{v:Fin 3->Value}{s s':FL}{w g w2:b0}{news:List Value}(h:Q O sb va vb v s w)(i:Fin 3)(J:v i=o)(R:AG (fun _=>False) w g)(I:w2.ownsRow 0 (ty i) 1 u n (xs s i++news))
  (T:xs s' i=xs s i++news) (p:∀ j,j≠i->xs s' j=xs s j) (hd:s'.d=s.d) (U:s'.faint=s.faint) (gr:g.grownBy w2 o.ownBlock) (C:u.ownBlock=o.ownBlock∨u.ownBlock=aj g.heap.size):Em O sb w s' (w2.setCell ⟨sb,3+i.val,ax⟩ u):=by
 refine h.put i ?_ ?_ ?_ p hd U
 ·rw[J];exact (Tv R).trans (mi gr)
 ·rw[T];have:=I.1;rw[Nat.mul_one] at this;rw[this];exact I
 ·intro b P;rw[J];rcases C with e|e
  ·exact .inl (e.symm.trans P)
  ·have:g.heap.size=b:=by rw[P] at e;exact (Option.some.inj e).symm
   exact .inr (by have:=R.size;omega)
theorem Q.outs{O:Nat->Prop}{sb n:Nat}{va vb i u:Value}{v:Fin 3->Value}{s:FL}{w g w2:b0}{l:List (List UInt8)}(h:Q O sb va vb v s w)(C:v 0=i)(J:AG (fun _=>False) w g)(p:w2.ownsRow 0 9 1 u n (Kk s.out++Kk l))
  (P:g.grownBy w2 i.ownBlock) (o:u.ownBlock=i.ownBlock∨u.ownBlock=aj g.heap.size):Em O sb w { s with out:=s.out++l } (w2.setCell ⟨sb,3,ax⟩ u) :=
 h.app (s':={ s with out:=s.out++l }) 0 C J p (by simp[xs,Kk]) (fun j I=>by match j,I with|1,_=>rfl|2,_=>rfl) rfl rfl P o
theorem Q.num{O:Nat->Prop}{sb n:Nat}{va vb i u:Value}{v:Fin 3->Value}{s:FL}{w g w2:b0}{z:Int}(h:Q O sb va vb v s w)(C:v 1=i)(J:AG (fun _=>False) w g)(p:w2.ownsRow 0 2 1 u n (Vu s.nums++[.int .i64 z]))
  (P:g.grownBy w2 i.ownBlock) (o:u.ownBlock=i.ownBlock∨u.ownBlock=aj g.heap.size):Em O sb w { s with nums:=s.nums++[z] } (w2.setCell ⟨sb,4,ax⟩ u) :=
 h.app (s':={ s with nums:=s.nums++[z] }) 1 C J p (by simp[xs,Vu]) (fun j I=>by match j,I with|0,_=>rfl|2,_=>rfl|1,h=>exact absurd rfl h) rfl rfl P o
theorem Q.text{O:Nat->Prop}{sb n:Nat}{va vb i u:Value}{v:Fin 3->Value}{s:FL}{w g w2:b0}{x:List UInt8}(h:Q O sb va vb v s w)(C:v 2=i)(J:AG (fun _=>False) w g)(p:w2.ownsRow 0 9 1 u n (Kk s.texts++[.string ⟨x.toArray⟩]))
  (P:g.grownBy w2 i.ownBlock) (o:u.ownBlock=i.ownBlock∨u.ownBlock=aj g.heap.size):Em O sb w { s with texts:=s.texts++[x] } (w2.setCell ⟨sb,5,ax⟩ u) :=
 h.app (s':={ s with texts:=s.texts++[x] }) 2 C J p (by simp[xs,Kk,strV]) (fun j I=>by match j,I with|0,_=>rfl|1,_=>rfl|2,h=>exact absurd rfl h) rfl rfl P o
def XX(u:Value)(sb:Nat)(w w':b0):Prop:=∀ b k z,w.cell? ⟨b,k,ax⟩=aj z->u.ownBlock≠aj b->(b=sb->k≠3)->w'.cell? ⟨b,k,ax⟩=aj z
theorem XX.behind{u:Value}{sb:Nat}{w g w2:b0}(hs:AG (fun _=>False) w g)(h:XX u sb g w2):XX u sb w w2:=fun b k z i=>h b k z (hs.cell id i)
theorem XX.still{u:Value}{sb:Nat}{w g:b0}(hs:AG (fun _=>False) w g):XX u sb w g:=fun b k z i _ _=>hs.cell id i
attribute [local irreducible] b5 in
theorem vJ{O:Nat->Prop}{sb:Nat}{va vb:Value}{v:Fin 3->Value}{s:FL}{w:b0}{t:List UInt8}{s':FL}(h:Q O sb va vb v s w)(i:Mv s t=aj s'):
  b5 a' 21 #[.pointer (aj ⟨sb,0,ax⟩),.string ⟨t.toArray⟩] w fun e w'=>e = .returned (.tuple #[])∧Em O sb w s' w'∧XX (v 0) sb w w':=by
 obtain⟨hl,e⟩:=AO i;obtain rfl:=Option.some.inj e;clear e i;have hl:s.out.length<1099511627776:=of_decide_eq_true hl;obtain⟨c0,c1,c2,c3,c4,c5,c6,cf⟩:=TV h.hd;obtain⟨i0,hi,I,C,p⟩:=c' Ql;have H:=a8 h;have HI:=a8 hi;have HZ:=a8 I;have H1:=a8 C;have H2:=a8 p;have T:=h.lt;have hr:Mr 0 w (v 0) s.out:=by have:=h.row 0;simpa[xs,Kk,Mr,ty] using this
 have HR:=a8 hr;have a2:=cf 3;clear c0 c1 c2 c4 c5 c6 cf h hi I C p hr;obtain⟨vo,j⟩:∃ x,v 0=x:=⟨_,rfl⟩;rw[j] at c3 HR;have P:=a8 j;clear j
 go_enter Tryz.func21,Tryz.ntmps21
 go_wp2_with (at_builtin;refine wpList_append_lies _ rfl _ _ 33 rfl 0 9 i0 _ 1 16 Qk HI.out HZ.out H1.out H2.out rfl (by omega) vo s.out.length (Kk s.out) rfl (bN HR.out _) ⟨w.heap.size,0,ax⟩ 1 1 [.string ⟨t.toArray⟩] rfl rfl (bS (cs:=#[.string ⟨t.toArray⟩]) (t:=9) (fr:=(0,0)) (cd w _)) (by simp[b']) (by omega) (by unfold dT;omega) (by omega) (by omega) (w.heap.size+1) (by simp) ?_;intro g cap w2 o2 o U au;have J:=(o.block sb (by simp;omega) (fun e=>H.out.neo 0 (P.out▸e.symm))).trans ((bR w _ T).trans H.out.hd);obtain⟨_,_,_,k3,_,_,_,kf⟩:=TV J;rw[P.out] at k3;have av:=kf 3;clear kf J)
 refine bI (b7 rfl _ _ _) rfl ?_;exact⟨rfl,H.out.outs (l:=[t]) P.out (cS _ w _) o2 o (U.imp Eq.symm fun e=>by rw[e];simp[Value.ownBlock]),fun b k z R ho hk=>(World.cell?_setCell_other _ _ _ _ (fun e=>by injection e with e1 J;exact hk e1.symm J.symm)).trans (by have lb:b<w.heap.size:=World.block_lt_of_cell? w ⟨b,k,ax⟩ R;have:=(o.block b (by simp;omega) (fun e=>ho (P.out▸e.symm))).trans (bR w _ lb);unfold ds at R ⊢;rw[this];exact R)⟩
theorem Wn{O:Nat->Prop}{sb:Nat}{s:FL}{w:b0}{t:List UInt8}{s':FL}(h:At O sb s w)(g:Mv s t=aj s'):
  b5 a' 21 #[.pointer (aj ⟨sb,0,ax⟩),.string ⟨t.toArray⟩] w fun e w'=>e = .returned (.tuple #[])∧Em O sb w s' w':=by
 obtain⟨va,vb,v,h⟩:=h;exact (vJ h g).mono fun _ _ h=>⟨h.1,h.2.1⟩
section
variable {O:Nat->Prop}{sb:Nat}{s s':FL}{w w':b0}
theorem Xr{a:Value}{x:AV}(h:VR O w a x):∀ j,j < [x].length->VR O w (#[a].getD j undef) ([x].getD j .any)
 | 0,_=>h
theorem RA{a b:Value}{x y:AV}(h:VR O w a x)(g:VR O w b y):∀ j,j < [x,y].length->VR O w (#[a,b].getD j undef) ([x,y].getD j .any)
 | 0,_=>h
 | 1,_=>g
theorem KU{S:Nat->Prop}{u:Value}{x:AV}{z:Int}(h:VR S w u (.tup [x,.int .i64 z])):∃ a,u = .tuple #[a,.int .i64 z]∧VR S w a x:=by
 cases h with
 | @tup cs o i h=>
  have j:=h 0 (by simp);have g:=h 1 (by simp);obtain⟨l⟩:=cs
  match l,i with
  | [a,c],_=>
   have g:VR S w c (.int .i64 z):=g;cases g
   exact⟨a,rfl,j⟩
theorem oE{g:Int}{n:List UInt8}(h:FD g=aj n)(lo:∀ b,O b->b<w.heap.size)(gt:GT O w):
  b5 a' 43 #[.int .i64 g] w fun e w'=>e = .returned (.string ⟨n.toArray⟩)∧AG (fun _=>False) w w' :=
 (DG s_182.s Tryz.func43 rfl (by decide +kernel) (args:=[.int .i64 g]) (vargs:=#[.int .i64 g]) rfl (by rw[AKk];rfl) rfl (Xr .int) lo gt (AIR h)).mono fun e w' ⟨u,j,h2,i⟩=>by cases i;exact⟨j,h2⟩
theorem eg{k:Int}{n:List UInt8}(h:BB k=aj n)(lo:∀ b,O b->b<w.heap.size)(gt:GT O w):
  b5 a' 84 #[.int .i64 k] w fun e w'=>e = .returned (.string ⟨n.toArray⟩)∧AG (fun _=>False) w w' :=
 (DG s_164.s Tryz.func84 rfl (by decide +kernel) (args:=[.int .i64 k]) (vargs:=#[.int .i64 k]) rfl (by rw[AKv];rfl) rfl (Xr .int) lo gt (AIb h)).mono fun e w' ⟨u,i,h2,g⟩=>by cases g;exact⟨i,h2⟩
theorem At.lo(h:At O sb s w):∀ b,O b->b<w.heap.size:=by obtain⟨_,_,_,q⟩:=h;exact q.lo
theorem At.gt(h:At O sb s w):GT O w:=by obtain⟨_,_,_,q⟩:=h;exact q.gt
theorem At.still(h:At O sb s w)(hs:AG (fun _=>False) w w'):At O sb s w':=by obtain⟨_,_,_,q⟩:=h;exact⟨_,_,_,q.still hs⟩
theorem Em.behind(hs:AG (fun _=>False) w w'){w2:b0}(h:Em O sb w' s w2):Em O sb w s w2:=Em.then (fun _=>id) (fun _=>.inl) (Tv hs) h
end
attribute [local irreducible] b5 in
theorem Yb{O:Nat->Prop}{sb:Nat}{va vb:Value}{v:Fin 3->Value}{s:FL}{w:b0}{i:Int}{r:Bool×FL}(h:Q O sb va vb v s w)(g:IF s i=aj r):
  b5 a' 19 #[.pointer (aj ⟨sb,0,ax⟩),.int .i64 i] w fun e w'=>e = .returned (.bool r.1)∧Em O sb w r.2 w'∧XX (v 0) sb w w'∧(r.1=false->r.2=s∧AG (fun _=>False) w w'):=by
 unfold IF at g;rcases Ab g with⟨J,g⟩|⟨J,g⟩
 ·obtain rfl:=AR g;obtain rfl:i=0:=by simpa using J
  clear g J;have H:=a8 h;clear h
  go_enter e8,d'
  go_wp2
  go_ret
  exact⟨rfl,Em.refl ⟨_,_,_,H.out⟩,XX.still (db _ _),db _ _⟩
 ·obtain⟨n,R,g⟩:=AN g;obtain⟨j,g⟩:=AO g;obtain⟨s',p,g⟩:=AN g;obtain rfl:=AR g;have J:¬ i=0:=by simpa using J
  have j:6+n.length<=9223372036854775807:=by simpa[CN] using j
  have H:=a8 h;have HN:=a8 R;have U:=a8 p;clear g h R p
  go_enter e8,d'
  go_wp2_with (first
   | (go_at_call 43;refine (oE HN.out H.out.lo H.out.gt).mono ?_;rintro e w1 ⟨rfl,o⟩;have P:=a8 o;clear o)
   | (go_at_call 21;refine (vJ (H.out.still P.out) U.out).mono ?_;rintro e w2 ⟨rfl,I,C⟩;have E2:=a8 I;have T:=a8 C;clear I C))
  go_ret
  exact⟨rfl,Em.behind P.out E2.out,XX.behind P.out T.out,fun c=>by cases c⟩
theorem GV{O:Nat->Prop}{sb:Nat}{s:FL}{w:b0}{g:Int}{r:Bool×FL}(h:At O sb s w)(i:IF s g=aj r):
  b5 a' 19 #[.pointer (aj ⟨sb,0,ax⟩),.int .i64 g] w fun e w'=>e = .returned (.bool r.1)∧Em O sb w r.2 w':=by
 obtain⟨va,vb,v,h⟩:=h;exact (Yb h i).mono fun _ _ h=>⟨h.1,h.2.1⟩
attribute [local irreducible] b5 in
theorem uu{O:Nat->Prop}{sb:Nat}{va vb:Value}{v:Fin 3->Value}{s s':FL}{w:b0}{n i:Int}(h:Q O sb va vb v s w)(g:YH s n i=aj s'):
  b5 a' 50 #[.pointer (aj ⟨sb,0,ax⟩),.int .i64 n,.int .i64 i] w fun e w'=>e = .returned (.tuple #[])∧Em O sb w s' w'∧XX (v 0) sb w w':=by
 obtain⟨⟨b,s1⟩,T,g⟩:=AN g;have H:=a8 h;have C:=a8 T;clear h T;cases b with
 | true=>
  obtain rfl:=AR g;clear g
  go_enter e7,dX
  go_wp2_with (go_at_call 19;refine (Yb H.out C.out).mono ?_;rintro e w1 ⟨rfl,p,o,-⟩;have E1:=a8 p;have K1:=a8 o;clear p o)
  refine bI (b7 rfl _ _ _) rfl ?_;exact⟨rfl,E1.out,K1.out⟩
 | false=>
  obtain⟨t,R,g⟩:=AN g;have HT:=a8 R;have HR:=a8 g;clear g R
  have q9:s1=s:=by
   unfold IF at C;rcases Ab C.out with⟨hc,g⟩|⟨hc,g⟩
   ·exact (Prod.mk.inj (AR g)).2.symm
   ·obtain⟨n,hn,g⟩:=AN g;obtain⟨U,g⟩:=AO g;obtain⟨s',ad,g⟩:=AN g;cases AR g
  subst q9
  go_enter e7,dX
  go_wp2_with (first
   | (go_at_call 19;refine (Yb H.out C.out).mono ?_;rintro e w1 ⟨rfl,-,-,P⟩;have J:=a8 (P rfl).2;clear P)
   | (go_at_call 84;refine (eg HT.out (H.out.still J.out).lo (H.out.still J.out).gt).mono ?_;rintro e w2 ⟨rfl,j⟩;have I:=a8 (J.out.trans j);clear j)
   | (go_at_call 21;refine (vJ (H.out.still I.out) HR.out).mono ?_;rintro e w3 ⟨rfl,p,o⟩;have E3:=a8 p;have K3:=a8 o;clear p o))
  refine bI (b7 rfl _ _ _) rfl ?_;exact⟨rfl,Em.behind I.out E3.out,XX.behind I.out K3.out⟩
theorem uv{O:Nat->Prop}{sb:Nat}{s s':FL}{w:b0}{n g:Int}(h:At O sb s w)(i:YH s n g=aj s'):
  b5 a' 50 #[.pointer (aj ⟨sb,0,ax⟩),.int .i64 n,.int .i64 g] w fun e w'=>e = .returned (.tuple #[])∧Em O sb w s' w':=by
 obtain⟨va,vb,v,h⟩:=h;exact (uu h i).mono fun _ _ h=>⟨h.1,h.2.1⟩
theorem Q.cells{O:Nat->Prop}{sb:Nat}{va vb:Value}{v:Fin 3->Value}{s:FL}{w:b0}(h:Q O sb va vb v s w):
  w.cell? ⟨sb,0,ax⟩=aj va∧w.cell? ⟨sb,1,ax⟩=aj vb∧w.cell? ⟨sb,2,ax⟩=aj (.string ⟨s.d.Log.toArray⟩)∧w.cell? ⟨sb,3,ax⟩=aj (v 0)∧w.cell? ⟨sb,4,ax⟩=aj (v 1)∧w.cell? ⟨sb,5,ax⟩=aj (v 2)∧w.cell? ⟨sb,6,ax⟩=aj (.bool s.faint)∧∀ j,w.frozen? ⟨sb,j,ax⟩=false:=TV h.hd
attribute [local irreducible] b5 in
theorem kO{O:Nat->Prop}{sb I off:Nat}{s s':FL}{w:b0}{l:List (List UInt8)}{cap:Nat}(h:At O sb s w)(hl:Li w I off l)(i:listed s l=aj s'):
  b5 a' 89 #[.pointer (aj ⟨sb,0,ax⟩),.slice (aj ⟨I,off,ax⟩) l.length cap] w fun e w'=>e = .returned (.tuple #[])∧Em O sb w s' w':=by
 obtain⟨hf,i⟩:=AO i;obtain⟨n,aa,i⟩:=AN i;obtain⟨o,i⟩:=AO i;have hf:s.out.length+l.length<1099511627776:=of_decide_eq_true hf;have o:3+n.length<=9223372036854775807:=by simpa[CN] using o
 obtain⟨va,vb,v,h⟩:=h;obtain⟨c0,c1,c2,c3,c4,c5,c6,cf⟩:=h.cells;obtain⟨i0,hi,R,P,J⟩:=c' Ql;have H:=a8 h;have HI:=a8 hi;have HZ:=a8 R;have H1:=a8 P;have H2:=a8 J;have HN:=a8 aa;have HR:=a8 i;have ao:=h.lt;have U:Mr 0 w (v 0) s.out:=by have:=h.row 0;simpa[xs,Kk,Mr,ty] using this
 have HW:=a8 U
 have g:∀ j u,(Kk l)[j]? = aj u->w.cell? ((⟨I,off,ax⟩:Addr).add j)=aj u:=fun j u hu=>by
  have hj:j<l.length:=by
   rcases Nat.lt_or_ge j l.length with c|c
   ·exact c
   ·rw[List.getElem?_eq_none (by simpa[Kk] using c)] at hu;cases hu
  have ac:(⟨I,off,ax⟩:Addr).add j=⟨I,off+j,ax⟩:=by unfold Addr.add;split<;>simp_all
  rw[ac,hl j hj]
  have:(Kk l)[j]? = aj (strV (l.getD j default)):=by
   rw[Kk,cL,gdE,geE hj];rfl
  rw[this] at hu;exact hu
 have av:=a8 g;have bv:=cf 3;clear c0 c1 c2 c4 c5 c6 cf h hi R P J U aa i hl g;obtain⟨vo,p⟩:∃ x,v 0=x:=⟨_,rfl⟩;rw[p] at c3 HW;have HV:=a8 p;clear p
 go_enter Tryz.func89,Tryz.ntmps89
 go_wp2_with (first
  | (at_builtin;refine bX _ rfl _ _ 33 rfl 0 9 i0 _ 1 16 Qk HI.out HZ.out H1.out H2.out rfl (by omega) vo s.out.length (Kk s.out) rfl HW.out ⟨I,off,ax⟩ l.length cap (Kk l) rfl (by simp[Kk]) av.out (by simp[Kk,strV,b']) (by unfold dT;omega) (by omega) (by omega) ?_;intro u w2 o2 C _ ad;obtain⟨ga,gc,rfl⟩:=Nn o2;have e2:=(C.block sb ao (fun e=>H.out.neo 0 (HV.out▸e.symm))).trans H.out.hd;obtain⟨_,_,_,k3,_,_,_,kf⟩:=TV e2;rw[HV.out] at k3;have bo:=kf 3;have HE:=a8 (H.out.outs (l:=l) HV.out (db _ _) o2 C ad);clear kf e2 o2 C ad)
  | (go_at_call 84;obtain⟨O1,a1,b1,c1,h1⟩:=HE.out;have A1:=a8 a1;have B1:=a8 b1;have C1:=a8 c1;have H9:=a8 h1;clear a1 b1 c1 h1;refine (eg HN.out H9.out.lo H9.out.gt).mono ?_;rintro e w3 ⟨rfl,T⟩;have S3:=a8 T;clear T)
  | (go_at_call 21;refine (Wn (H9.out.still S3.out) HR.out).mono ?_;rintro e w4 ⟨rfl,he⟩;have E4:=a8 he;clear he))
 refine bI (b7 rfl _ _ _) rfl ?_;exact⟨rfl,Em.then A1.out B1.out C1.out (Em.behind S3.out E4.out)⟩
theorem wI{O:Nat->Prop}{w:b0}{x:List UInt8}{y:Int×Bool}(h:Bi x=aj y)(lo:∀ b,O b->b<w.heap.size)(gt:GT O w):
  b5 a' 76 #[.string ⟨x.toArray⟩] w fun e w'=>e = .returned (.tuple #[.int .i64 y.1,.bool y.2])∧AG (fun _=>False) w w' :=
 (DG s_169.s Tryz.func76 rfl (by decide +kernel) (args:=[.str x]) (vargs:=#[.string ⟨x.toArray⟩]) rfl (by rw[AKs];rfl) rfl (Xr .str) lo gt (Wf h)).mono fun e w' ⟨u,g,h2,i⟩=>by rw[Xg i] at g;exact⟨g,h2⟩
theorem AJi{O:Nat->Prop}{w:b0}{x:List UInt8}{y:Int×Bool}(h:CZ x=aj y)(lo:∀ b,O b->b<w.heap.size)(gt:GT O w):
  b5 a' 77 #[.string ⟨x.toArray⟩] w fun e w'=>e = .returned (.tuple #[.int .i64 y.1,.bool y.2])∧AG (fun _=>False) w w' :=
 (DG s_181.s Tryz.func77 rfl (by decide +kernel) (args:=[.str x]) (vargs:=#[.string ⟨x.toArray⟩]) rfl (by rw[AKl];rfl) rfl (Xr .str) lo gt (AIS h)).mono fun e w' ⟨u,g,h2,i⟩=>by rw[Xg i] at g;exact⟨g,h2⟩
theorem AJU{O:Nat->Prop}{sb:Nat}{va vb:Value}{v:Fin 3->Value}{s:FL}{w:b0}(h:Q O sb va vb v s w):Mr 0 w (v 2) s.texts:=by have:=h.row 2;simpa[xs,Kk,Mr,ty] using this
theorem AFo{O:Nat->Prop}{sb:Nat}{va vb:Value}{v:Fin 3->Value}{s:FL}{w:b0}(h:Q O sb va vb v s w):w.ownsRow 0 2 1 (v 1) s.nums.length (Vu s.nums):=by have:=h.row 1;simpa[xs,Vu,ty] using this
attribute [local irreducible] b5 in
theorem PY{O:Nat->Prop}{sb:Nat}{s:FL}{w:b0}{x:List UInt8}(h:At O sb s w)(hf:s.texts.length<1099511627776):
  b5 a' 45 #[.pointer (aj ⟨sb,0,ax⟩),.int .u8 120,.string ⟨x.toArray⟩] w fun e w'=>e = .returned (.bool true)∧Em O sb w { s with texts:=s.texts++[x] } w':=by
 obtain⟨va,vb,v,h⟩:=h;obtain⟨c0,c1,c2,c3,c4,c5,c6,U⟩:=h.cells;obtain⟨i0,hi,p,o,j⟩:=c' Ql;have H:=a8 h;have HI:=a8 hi;have HZ:=a8 p;have H1:=a8 o;have H2:=a8 j;have J:=h.lt;have HR:=a8 (AJU h);have ae:=U 5;clear c0 c1 c2 c3 c4 c6 U h hi p o j;obtain⟨vo,g⟩:∃ x,v 2=x:=⟨_,rfl⟩;rw[g] at c5 HR;have P:=a8 g;clear g
 go_enter dw,dc
 go_wp2_with (at_builtin;refine bX _ rfl _ _ 33 rfl 0 9 i0 _ 1 16 Qk HI.out HZ.out H1.out H2.out rfl (by omega) vo s.texts.length (Kk s.texts) rfl (bN HR.out _) ⟨w.heap.size,0,ax⟩ 1 1 [.string ⟨x.toArray⟩] rfl rfl (bS (cs:=#[.string ⟨x.toArray⟩]) (t:=9) (fr:=(0,0)) (cd w _)) (by simp[b']) (by unfold dT;omega) (by omega) (by omega) ?_;intro u w2 I i _ C;obtain⟨ga,gc,rfl⟩:=Nn I;have T:=(i.block sb (by simp;omega) (fun e=>H.out.neo 2 (P.out▸e.symm))).trans ((bR w _ J).trans H.out.hd);obtain⟨_,_,_,_,_,k5,_,R⟩:=TV T;rw[P.out] at k5;have ac:=R 5;have HE:=a8 (H.out.text P.out (cS _ w _) I i C);clear R T I i C)
 go_ret
 exact⟨rfl,HE.out⟩
attribute [local irreducible] b5 in
theorem Lp{O:Nat->Prop}{sb:Nat}{s:FL}{w:b0}{x:List UInt8}{y:Int×Bool}(h:At O sb s w)(hy:Bi x=aj y)(hf:s.nums.length<1099511627776):
  b5 a' 45 #[.pointer (aj ⟨sb,0,ax⟩),.int .u8 110,.string ⟨x.toArray⟩] w fun e w'=>e = .returned (.bool y.2)∧Em O sb w { s with nums:=s.nums++[y.1] } w':=by
 obtain⟨i0,hi,C,p,o⟩:=c' ZN;have H:=a8 h;have HY:=a8 hy;have HI:=a8 hi;have HZ:=a8 C;have H1:=a8 p;have H2:=a8 o;clear h hi C p o hy
 go_enter dw,dc
 go_wp2_with (first
  | (go_at_call 76;refine (wI HY.out H.out.lo H.out.gt).mono ?_;rintro e J ⟨rfl,i⟩;obtain⟨va,vb,v,h⟩:=H.out.still i;obtain⟨_,_,_,_,c4,_,_,cf⟩:=h.cells;have av:=cf 4;have R:=h.lt;have HR:=a8 (AFo h);have U:=a8 h;have S1:=a8 i;obtain⟨vo,g⟩:∃ x,v 1=x:=⟨_,rfl⟩;rw[g] at c4 HR;have T:=a8 g;clear g cf h i)
  | (at_builtin;refine bX _ rfl _ _ 44 rfl 0 2 i0 _ 1 8 Tg HI.out HZ.out H1.out H2.out rfl (by omega) vo s.nums.length (Vu s.nums) rfl (bN HR.out _) ⟨J.heap.size,0,ax⟩ 1 1 [.int .i64 y.1] rfl rfl (bS (cs:=#[.int .i64 y.1]) (t:=2) (fr:=(0,0)) (cd J _)) (by simp[b']) (by unfold dT;omega) (by omega) (by omega) ?_;intro u w2 P j _ I;obtain⟨ga,gc,rfl⟩:=Nn P;have e2:=(j.block sb (by simp;omega) (fun e=>U.out.neo 1 (T.out▸e.symm))).trans ((bR J _ R).trans U.out.hd);obtain⟨_,_,_,_,k4,_,_,kf⟩:=TV e2;rw[T.out] at k4;have ao:=kf 4;have HE:=a8 (U.out.num T.out (cS _ J _) P j I);clear kf e2 P j I))
 go_ret
 exact⟨rfl,Em.behind S1.out HE.out⟩
theorem AKJ(c:UInt8)(r:List UInt8):∀ h,(⟨(c::r).toArray⟩:ByteArray)[0]'h=c:=fun _=>rfl
theorem AKN(c:UInt8)(r:List UInt8):(⟨(c::r).toArray⟩:ByteArray).extract 1 (r.length+1)=⟨r.toArray⟩:=by
 apply ByteArray.ext;simp[ByteArray.data_extract]
attribute [local irreducible] b5 in
theorem fO{O:Nat->Prop}{sb:Nat}{s:FL}{w:b0}{form:UInt8}{x o:List UInt8}{b:Bool}{y:Int×Bool}(h:At O sb s w)(h1:¬ (form.toNat:Int)=120)(h2:¬ (form.toNat:Int)=110)(a3:x.length<9223372036854775807)(p:b=ME form x)(g:o=if b then x.drop 1 else x)(hy:CZ o=aj y)(hf:s.nums.length<1099511627776):
  b5 a' 45 #[.pointer (aj ⟨sb,0,ax⟩),.int .u8 (form.toNat:Int),.string ⟨x.toArray⟩] w fun e w'=>e = .returned (.bool y.2)∧Em O sb w { s with nums:=s.nums++[y.1],faint:=b } w':=by
 obtain⟨j0,hi,T,R,P⟩:=c' ZN;obtain⟨va,vb,v,h⟩:=h;have hE:Em O sb w { s with faint:=b } (w.setCell ⟨sb,6,ax⟩ (.bool b)):=h.cell (s':={ s with faint:=b }) 6 rfl (fun j=>by match j with|0=>rfl|1=>rfl|2=>rfl) h.sa h.se;obtain⟨_,_,_,_,_,_,c6,cf⟩:=h.cells;have b3:=cf 6;have bv:=h.lt;have HE:=a8 hE;have HY:=a8 hy;have HI:=a8 hi;have HZ:=a8 T;have H1:=a8 R;have H2:=a8 P;clear hE h hi T R P hy cf
 have i:(¬ (form.toNat:Int)=101∧b=false∧o=x)∨((form.toNat:Int)=101∧((x=[]∧b=false∧o=[])∨∃ c r,x=c::r∧((¬ (c.toNat:Int)=60∧b=false∧o=c::r)∨((c.toNat:Int)=60∧b=true∧o=r)))):=by
  by_cases h3:form=101
  ·refine .inr ⟨by rw[h3];rfl,?_⟩;subst h3;cases x with
   | nil=>exact .inl ⟨rfl,p,by rw[g,p];rfl⟩
   | cons c r=>
    refine .inr ⟨c,r,rfl,?_⟩;have hi:ME 101 (c::r)=(c==60):=by simp[ME]
    rw[hi] at p
    by_cases h4:c=60
    ·subst h4;refine .inr ⟨rfl,p,by rw[g,p];rfl⟩
    ·refine .inl ⟨fun e=>h4 (cA.1 (by have:((60:UInt8).toNat:Int)=60:=rfl;omega)),?_⟩;have:b=false:=by rw[p];simpa using h4
     exact⟨this,by rw[g,this];rfl⟩
  ·refine .inl ⟨fun e=>h3 (cA.1 (by have:((101:UInt8).toNat:Int)=101:=rfl;omega)),?_⟩;have:b=false:=by rw[p];unfold ME;simp[h3]
   exact⟨this,by rw[g,this];rfl⟩
 obtain⟨F,hF⟩:∃ F,(form.toNat:Int)=F:=⟨_,rfl⟩;rw[hF] at h1 h2 i ⊢;clear hF p g;rcases i with⟨h3,rfl,rfl⟩|⟨rfl,⟨rfl,rfl,rfl⟩|⟨c,r,rfl,⟨h4,rfl,rfl⟩|⟨h4,rfl,rfl⟩⟩⟩
 all_goals
  try have hg:=AKJ c r
  try have au:=AKN c r
  try have hg:=AKJ c o
  try have au:=AKN c o
  go_enter dw,dc
  go_wp2_with (first
   | (go_at_call 77;obtain⟨O1,a1,b1,c1,h9⟩:=HE.out;refine (AJi HY.out h9.lo h9.gt).mono ?_;rintro e w1 ⟨rfl,I⟩;obtain⟨bb,a9,v1,h⟩:=h9.still I;obtain⟨_,_,_,_,c4,_,_,cf⟩:=h.cells;have b4:=cf 4;have U:=h.lt;have HR:=a8 (AFo h);have HQ:=a8 h;have S1:=a8 I;have A1:=a8 a1;have B1:=a8 b1;have C1:=a8 c1;obtain⟨vo,C⟩:∃ x,v1 1=x:=⟨_,rfl⟩;rw[C] at c4 HR;have HV:=a8 C;clear C cf h I a1 b1 c1 h9)
   | (at_builtin;refine bX _ rfl _ _ 44 rfl 0 2 j0 _ 1 8 Tg HI.out HZ.out H1.out H2.out rfl (by omega) vo s.nums.length (Vu s.nums) rfl (bN HR.out _) ⟨w1.heap.size,0,ax⟩ 1 1 [.int .i64 y.1] rfl rfl (bS (cs:=#[.int .i64 y.1]) (t:=2) (fr:=(0,0)) (cd w1 _)) (by simp[b']) (by unfold dT;omega) (by omega) (by omega) ?_;intro u w2 o2 J _ ad;obtain⟨ga,gc,rfl⟩:=Nn o2;have e2:=(J.block sb (by simp;omega) (fun e=>HQ.out.neo 1 (HV.out▸e.symm))).trans ((bR w1 _ U).trans HQ.out.hd);obtain⟨_,_,_,_,k4,_,_,kf⟩:=TV e2;rw[HV.out] at k4;have be:=kf 4;have ay:=a8 (HQ.out.num HV.out (cS _ w1 _) o2 J ad);clear kf e2 o2 J ad))
  go_ret
  exact⟨rfl,Em.then A1.out B1.out C1.out (Em.behind S1.out ay.out)⟩
theorem AFU{O:Nat->Prop}{sb:Nat}{s:FL}{w:b0}{form:UInt8}{x:List UInt8}{r:Bool×FL}(h:At O sb s w)(i:x.length<9223372036854775807)(g:word s form x=aj r):
  b5 a' 45 #[.pointer (aj ⟨sb,0,ax⟩),.int .u8 (form.toNat:Int),.string ⟨x.toArray⟩] w fun e w'=>e = .returned (.bool r.1)∧Em O sb w r.2 w':=by
 unfold word at g;rcases Ab g with⟨o,g⟩|⟨o,g⟩
 ·obtain rfl:form=120:=by simpa using o
  obtain⟨j,g⟩:=AO g;obtain rfl:=AR g;exact PY h (of_decide_eq_true j)
 ·have n1:¬ (form.toNat:Int)=120:=fun e=>by
   have:form=120:=cA.1 (by have:((120:UInt8).toNat:Int)=120:=rfl;omega);rw[this] at o;cases o
  rcases Ab g with⟨h2,g⟩|⟨h2,g⟩
  ·obtain rfl:form=110:=by simpa using h2
   obtain⟨y,p,g⟩:=AN g;obtain⟨j,g⟩:=AO g;obtain rfl:=AR g;exact Lp h p (of_decide_eq_true j)
  ·have n2:¬ (form.toNat:Int)=110:=fun e=>by
    have:form=110:=cA.1 (by have:((110:UInt8).toNat:Int)=110:=rfl;omega);rw[this] at h2;cases h2
   obtain⟨y,p,g⟩:=AN g;obtain⟨j,g⟩:=AO g;obtain rfl:=AR g;exact fO h n1 n2 i rfl rfl p (of_decide_eq_true j)
theorem AKd{O:Nat->Prop}{w:b0}{a b c d e:Value}{x1 x2 j i g:AV}(J:VR O w a x1)(h2:VR O w b x2)(I:VR O w c j)(C:VR O w d i)(p:VR O w e g)(hs:[x1,x2,j,i,g].all AV.atom=true):VR O w (.agg #[a,b,c,d,e]) (.agg [x1,x2,j,i,g]):=by
 simp only[List.all_cons,List.all_nil,Bool.and_true,baT] at hs;refine .agg rfl (fun k o=>?_) (fun k o=>?_)
 ·match k,o with
  | 0,_=>exact hs.1
  | 1,_=>exact hs.2.1
  | 2,_=>exact hs.2.2.1
  | 3,_=>exact hs.2.2.2.1
  | 4,_=>exact hs.2.2.2.2
 ·match k,o with
  | 0,_=>exact J
  | 1,_=>exact h2
  | 2,_=>exact I
  | 3,_=>exact C
  | 4,_=>exact p
theorem uU{O:Nat->Prop}{w:b0}{g:List Star}{x:Star}{y:List Star×Int}{va:Value}(h:Fw g x=aj y)(i:VR O w va (.sl 5 (bs Ao g)))(lo:∀ b,O b->b<w.heap.size)(gt:GT O w):
  b5 a' 78 #[va,.agg #[.string ⟨x.Name.toArray⟩,.int .i64 x.Ascend,.int .i64 x.Decl,.int .i64 x.Bright,.int .i64 x.Faint]] w fun e w'=>∃ u,e = .returned (.tuple #[u,.int .i64 y.2])∧AG (fun _=>False) w w'∧VR O w' u (.sl 5 (bs Ao y.1)) :=
 (DG s_128.s Tryz.func78 rfl (by decide +kernel) (args:=[.sl 5 (bs Ao g),Ao x]) (vargs:=#[va,.agg #[.string ⟨x.Name.toArray⟩,.int .i64 x.Ascend,.int .i64 x.Decl,.int .i64 x.Bright,.int .i64 x.Faint]]) rfl (by rw[ALD];rfl) rfl (RA i (AKd .str .int .int .int .int rfl)) lo gt (AIl h)).mono fun e w' ⟨u,p,h2,o⟩=>by
  obtain⟨a,rfl,j⟩:=KU o;exact⟨a,p,h2,j⟩
theorem sl_of{S:Nat->Prop}{w:b0}{v:Value}{sz:Nat}{els:List AV}(h:VR S w v (.sl sz els)):∃ a n c,v = .slice a n c:=by
 cases h;exact⟨_,_,_,rfl⟩
theorem dk{O:Nat->Prop}{sb:Nat}{w:b0}{s:FL}{t:List UInt8}(h:ER s.d=aj t)(o:At O sb s w):
  b5 a' 79 #[.pointer (aj ⟨sb,0,ax⟩)] w fun e w'=>e = .returned (.string ⟨t.toArray⟩)∧AG (fun _=>False) w w':=by
 obtain⟨va,vb,v,q⟩:=o;obtain⟨c0,c1,c2,_,_,_,_,_⟩:=q.cells;have lift:∀ {v:Value} {x:AV},VR O w v x->VR (fun _=>False) w v x:=fun h=>h.mono (db _ _) fun _ _ c=>c.elim
 have p:VR (fun _=>False) w (.pointer (aj ⟨sb,0,ax⟩)) (.ptr 3 [EL s.d] 0 0):=by
  refine VR.ptr (sz:=3) (els:=[EL s.d]) (i0:=0) (o0:=0) sb 0 (fun _ j=>match j with|0=>va|1=>vb|_=>.string ⟨s.d.Log.toArray⟩) (by decide) Nat.one_pos id (fun i hi=>?_) (fun i j hi g=>?_) (fun i j hi g=>?_)
  ·match i,hi with
   | 0,_=>exact⟨rfl,rfl⟩
  ·match i,hi,j,g with
   | 0,_,0,_=>exact c0
   | 0,_,1,_=>exact c1
   | 0,_,2,_=>exact c2
  ·match i,hi,j,g with
   | 0,_,0,_=>exact lift q.sa
   | 0,_,1,_=>exact lift q.se
   | 0,_,2,_=>exact .str
 exact (DG s_184.s Tryz.func79 rfl (by decide +kernel) (args:=[.ptr 3 [EL s.d] 0 0]) (vargs:=#[.pointer (aj ⟨sb,0,ax⟩)]) rfl (by rw[AKi];rfl) rfl (Xr p) (fun _ c=>c.elim) (q.gt.mono (db _ _) fun _ _ c=>c.elim) (AIP h)).mono fun e w' ⟨u,I,h2,C⟩=>by cases C;exact⟨I,h2⟩
theorem Rn{O:Nat->Prop}{sb:Nat}{va vb:Value}{v:Fin 3->Value}{s:FL}{w:b0}(h:Q O sb va vb v s w)(o:0<s.nums.length):∃ g c,v 1 = .slice (aj ⟨g,0,ax⟩) s.nums.length c∧g<w.heap.size∧∀ i,i<s.nums.length->w.cell? ⟨g,i,ax⟩=aj (.int .i64 (s.nums.getD i 0)):=by
 have j:=AFo h;obtain⟨g,c,e⟩:=SV j o;rw[e] at j;refine⟨g,c,e,(Iv j rfl).2,fun i hi=>?_⟩;rw[Mz j hi,Vu,gdE,cL,gdE,geE hi];rfl
theorem Ok{O:Nat->Prop}{sb:Nat}{va vb:Value}{v:Fin 3->Value}{s:FL}{w:b0}(h:Q O sb va vb v s w)(o:0<s.texts.length):∃ g c,v 2 = .slice (aj ⟨g,0,ax⟩) s.texts.length c∧g<w.heap.size∧∀ i,i<s.texts.length->w.cell? ⟨g,i,ax⟩=aj (.string ⟨(s.texts.getD i []).toArray⟩):=by
 have j:=AJU h;obtain⟨g,c,e⟩:=SV j o;unfold Mr at j;rw[e] at j;refine⟨g,c,e,(Iv j rfl).2,fun i hi=>?_⟩;rw[Mz j hi,Kk,gdE,cL,gdE,geE hi];rfl
attribute [local irreducible] b5 in
theorem AFb{O:Nat->Prop}{sb:Nat}{s s':FL}{w:b0}(h:At O sb s w)(o:star s=aj s'):
  b5 a' 46 #[.pointer (aj ⟨sb,0,ax⟩)] w fun e w'=>e = .returned (.tuple #[])∧Em O sb w s' w':=by
 obtain⟨hb,o⟩:=AO o;simp only[baT,dtE] at hb;obtain⟨av,ao⟩:=hb;obtain⟨y,p,o⟩:=AN o;obtain⟨⟨b,C⟩,hq,o⟩:=AN o;obtain⟨va,vb,v,h⟩:=h;obtain⟨c0,_,_,_,c4,c5,_,_⟩:=h.cells;obtain⟨gn,cn,en,ln,i⟩:=Rn h (by omega);obtain⟨gt,ct,et,lt,U⟩:=Ok h (by omega);rw[en] at c4;rw[et] at c5;have n0:=i 0 (by omega);have n1:=i 1 (by omega);have n2:=i 2 (by omega);have n3:=i 3 (by omega);have t0:=U 0 (by omega);obtain⟨nn,R⟩:∃ n,n=s.nums.length:=⟨_,rfl⟩;obtain⟨nt,P⟩:∃ n,n=s.texts.length:=⟨_,rfl⟩;obtain⟨N0,e0⟩:∃ x,s.nums.getD 0 0=x:=⟨_,rfl⟩;obtain⟨N1,e1⟩:∃ x,s.nums.getD 1 0=x:=⟨_,rfl⟩;obtain⟨N2,e2⟩:∃ x,s.nums.getD 2 0=x:=⟨_,rfl⟩;obtain⟨N3,e3⟩:∃ x,s.nums.getD 3 0=x:=⟨_,rfl⟩;obtain⟨T0,e4⟩:∃ x,s.texts.getD 0 []=x:=⟨_,rfl⟩;rw[e0] at n0 p;rw[e1] at n1 p;rw[e2] at n2 p;rw[e3] at n3 p;rw[e4] at t0 p;rw[← R] at c4;rw[← P] at c5;have i5:0<nt:=by omega
 have i0:0<nn:=by omega
 have i1:(1:Int)<(nn:Int):=by omega
 have i2:(2:Int)<(nn:Int):=by omega
 have i3:(3:Int)<(nn:Int):=by omega
 have H:=a8 h;have HY:=a8 p;have HQ:=a8 hq;have HR:=a8 o;have cl:=h.lt;clear h p hq o i U e0 e1 e2 e3 e4 R P av ao en et;obtain⟨an,mn,kn,rfl⟩:=sl_of H.out.sa
 go_enter Tryz.func46,Tryz.ntmps46
 go_wp2
 go_region_held3 (fun w'=>w'.cell? ⟨sb,0,ax⟩=aj (.slice an mn kn)∧w'.cell? ⟨sb,5,ax⟩=aj (.slice (aj ⟨gt,0,ax⟩) nt ct)∧w'.cell? ⟨gt,0,ax⟩=aj (.string ⟨T0.toArray⟩)∧w'.cell? ⟨gn,0,ax⟩=aj (.int .i64 N0)∧w'.cell? ⟨gn,1,ax⟩=aj (.int .i64 N1)∧w'.cell? ⟨gn,2,ax⟩=aj (.int .i64 N2)∧w'.cell? ⟨gn,3,ax⟩=aj (.int .i64 N3)) (first|exact ay.out|exact⟨c0,c5,t0,n0,n1,n2,n3⟩) (first
  | (go_at_call 78;refine (uU HY.out (H.out.still (b8 _ _)).sa (H.out.still (b8 _ _)).lo (H.out.still (b8 _ _)).gt).mono ?_;rintro e w1 ⟨u,rfl,g,hu⟩;have ay:=a8 (show _∧_∧_∧_∧_∧_∧_ from ⟨g.cell id c0,g.cell id c5,g.cell id t0,g.cell id n0,g.cell id n1,g.cell id n2,g.cell id n3⟩);have S1:=a8 ((b8 (fun _=>False) w).trans g);have HU:=a8 hu;clear g hu))
 cases b with
 | true=>
  obtain rfl:=AR (show aj C=aj s' from HR.out)
  go_wp2_with (go_at_call 19;refine (GV ⟨_,_,_,H.out.still S1.out⟩ HQ.out).mono ?_;rintro e w2 ⟨rfl,T⟩;have E2:=a8 T;clear T)
  refine bI (b7 rfl _ _ _) rfl ?_;exact⟨rfl,Em.behind S1.out E2.out⟩
 | false=>
  obtain⟨t,ht,J⟩:=AN (show (ER { C.d with Stars:=y.1 }).bind (fun t=>Mv { C with d:={ C.d with Stars:=y.1 } } t)=aj s' from HR.out);have HT:=a8 ht;have HS:=a8 J;obtain⟨au,mu,ku,rfl⟩:=sl_of HU.out;clear ht J HR c0 c4 c5 n0 n1 n2 n3 t0
  go_wp2_with (first
   | (go_at_call 19;refine (GV ⟨_,_,_,H.out.still S1.out⟩ HQ.out).mono ?_;rintro e w2 ⟨rfl,O1,a1,b1,x1,ca,b9,v1,q1⟩;obtain⟨d0,_,_,_,_,_,_,df⟩:=q1.cells;have cm:=df 0;have A1:=a8 a1;have B1:=a8 b1;have X1:=a8 x1;have E3:=a8 (q1.cell (s':={ C with d:={ C.d with Stars:=y.1 } }) (u:=.slice au mu ku) 0 rfl (fun j=>by match j with|0=>rfl|1=>rfl|2=>rfl) (VR.ext HU.out x1 b1) q1.se);clear df a1 b1 x1 q1)
   | (go_at_call 79;obtain⟨O2,a2,b2,x2,q2⟩:=E3.out;have A2:=a8 a2;have B2:=a8 b2;have X2:=a8 x2;have Q2:=a8 q2;clear a2 b2 x2 q2;refine (dk HT.out Q2.out).mono ?_;rintro e w4 ⟨rfl,I⟩;have S4:=a8 I;clear I)
   | (go_at_call 21;refine (Wn (Q2.out.still S4.out) HS.out).mono ?_;rintro e w5 ⟨rfl,T⟩;have E5:=a8 T;clear T))
  refine bI (b7 rfl _ _ _) rfl ?_;exact⟨rfl,Em.behind S1.out (Em.then A1.out B1.out X1.out (Em.then A2.out B2.out X2.out (Em.behind S4.out E5.out)))⟩
theorem oI{w:b0}{b:Nat}{j v1 v2 i g:Value}{T:TypeId}(h:w.heap[b]? = aj (.cells #[j,v1,v2,i,g] T (0,0))):
  w.cell? ⟨b,0,ax⟩=aj j∧w.cell? ⟨b,1,ax⟩=aj v1∧w.cell? ⟨b,2,ax⟩=aj v2∧w.cell? ⟨b,3,ax⟩=aj i∧w.cell? ⟨b,4,ax⟩=aj g:=by
 refine⟨?_,?_,?_,?_,?_⟩;all_goals (unfold ds;rw[h];rfl)
theorem AGh{O:Nat->Prop}{w:b0}{g:List Star}{x:List UInt8}{k:Int}{va:Value}(h:Fu g x=aj k)(i:VR O w va (.sl 5 (bs Ao g)))(lo:∀ b,O b->b<w.heap.size)(gt:GT O w):
  b5 a' 66 #[va,.string ⟨x.toArray⟩] w fun e w'=>e = .returned (.int .i64 k)∧AG (fun _=>False) w w' :=
 (DG s_127.s Tryz.func66 rfl (by decide +kernel) (args:=[.sl 5 (bs Ao g),.str x]) (vargs:=#[va,.string ⟨x.toArray⟩]) rfl (by rw[ALE];rfl) rfl (RA i .str) lo gt (AIm h)).mono fun e w' ⟨u,o,h2,j⟩=>by cases j;exact⟨o,h2⟩
theorem zE{O:Nat->Prop}{w:b0}{g:List AA}{x:AA}{y:List AA×Int}{va:Value}(h:Dh g x=aj y)(i:VR O w va (.sl 5 (bs AC g)))(lo:∀ b,O b->b<w.heap.size)(gt:GT O w):
  b5 a' 80 #[va,.agg #[.int .i64 x.Time,.string ⟨x.Star.toArray⟩,.string ⟨x.Observer.toArray⟩,.int .i64 x.Mag,.bool x.Fainter]] w fun e w'=>∃ u,e = .returned (.tuple #[u,.int .i64 y.2])∧AG (fun _=>False) w w'∧VR O w' u (.sl 5 (bs AC y.1)) :=
 (DG s_135.s Tryz.func80 rfl (by decide +kernel) (args:=[.sl 5 (bs AC g),AC x]) (vargs:=#[va,.agg #[.int .i64 x.Time,.string ⟨x.Star.toArray⟩,.string ⟨x.Observer.toArray⟩,.int .i64 x.Mag,.bool x.Fainter]]) rfl (by rw[ALC];rfl) rfl (RA i (AKd .int .str .str .int .bool rfl)) lo gt (AIj h)).mono fun e w' ⟨u,p,h2,o⟩=>by
  obtain⟨a,rfl,j⟩:=KU o;exact⟨a,p,h2,j⟩
attribute [local irreducible] b5 in
theorem AKO{O:Nat->Prop}{sb:Nat}{s s':FL}{w:b0}(h:At O sb s w)(hr:est s=aj s'):
  b5 a' 47 #[.pointer (aj ⟨sb,0,ax⟩)] w fun e w'=>e = .returned (.tuple #[])∧Em O sb w s' w':=by
 obtain⟨ac,hr⟩:=AO hr;have ac:1<=s.texts.length:=of_decide_eq_true ac;obtain⟨k,hk,hr⟩:=AN hr;obtain⟨va,vb,v,h⟩:=h;obtain⟨c0,c1,_,_,c4,c5,c6,_⟩:=h.cells;obtain⟨gt,ct,et,lt,aa⟩:=Ok h (by omega);rw[et] at c5;have t0:=aa 0 (by omega);obtain⟨nt,U⟩:∃ n,n=s.texts.length:=⟨_,rfl⟩;obtain⟨T0,e4⟩:∃ x,s.texts.getD 0 []=x:=⟨_,rfl⟩;rw[e4] at t0 hk;rw[← U] at c5;have i5:0<nt:=by omega
 have H:=a8 h;have HK:=a8 hk;have P:=a8 hr;have a9:=a8 aa;have c7:=a8 U;have c8:=a8 e4;have fi:=h.lt;clear hk hr aa e4 U ac et;obtain⟨an,mn,kn,rfl⟩:=sl_of H.out.sa;obtain⟨ae,me,ke,rfl⟩:=sl_of H.out.se
 go_enter Tryz.func47,Tryz.ntmps47
 go_wp2
 go_region_held3 (fun w'=>w'.cell? ⟨sb,0,ax⟩=aj (.slice an mn kn)∧w'.cell? ⟨sb,5,ax⟩=aj (.slice (aj ⟨gt,0,ax⟩) nt ct)∧w'.cell? ⟨gt,0,ax⟩=aj (.string ⟨T0.toArray⟩)) (first|exact cs.out|exact⟨c0,c5,t0⟩) (first
  | (go_at_call 66;refine (AGh HK.out (H.out.still (b8 _ _)).sa (H.out.still (b8 _ _)).lo (H.out.still (b8 _ _)).gt).mono ?_;rintro e w1 ⟨rfl,p⟩;have cs:=a8 (show _∧_∧_ from ⟨p.cell id c0,p.cell id c5,p.cell id t0⟩);have o:=a8 ((b8 (fun _=>False) w).trans p);clear p))
 by_cases a6:k<0
 ·have g:=P.out;rw[if_pos (by simpa using a6)] at g;obtain⟨r,hq,g⟩:=AN g;obtain rfl:=AR g;have HQ:=a8 hq;clear g hq P
  go_wp2_with (go_at_call 19;refine (GV ⟨_,_,_,H.out.still o.out⟩ HQ.out).mono ?_;rintro e w2 ⟨rfl,J⟩;have E2:=a8 J;clear J)
  refine bodyPost_ret (b7 rfl _ _ _) rfl ?_;exact⟨rfl,Em.behind o.out E2.out⟩
 ·have g:=P.out;rw[if_neg (by simpa using a6)] at g;clear P;obtain⟨hb,g⟩:=AO g;simp only[baT,dtE] at hb;obtain⟨I,cb⟩:=hb;obtain⟨y,hy,g⟩:=AN g;obtain⟨⟨b,s1⟩,hq,g⟩:=AN g;obtain⟨gn,cn,en,ln,ab⟩:=Rn h (by omega);rw[en] at c4;have n0:=ab 0 (by omega);have n1:=ab 1 (by omega);have t1:=a9.out 1 (by omega);obtain⟨nn,a5⟩:∃ n,n=s.nums.length:=⟨_,rfl⟩;obtain⟨N0,e0⟩:∃ x,s.nums.getD 0 0=x:=⟨_,rfl⟩;obtain⟨N1,e1⟩:∃ x,s.nums.getD 1 0=x:=⟨_,rfl⟩;obtain⟨T1,e5⟩:∃ x,s.texts.getD 1 []=x:=⟨_,rfl⟩;rw[e0] at n0 hy;rw[e1] at n1 hy;rw[e5] at t1 hy;rw[c8.out] at hy;rw[← a5] at c4;have i6:(1:Int)<(nt:Int):=by have:=c7.out;omega
  have i0:0<nn:=by omega
  have i1:(1:Int)<(nn:Int):=by omega
  have HY:=a8 hy;have HQ:=a8 hq;have P:=a8 g;obtain⟨F,hF⟩:∃ x,s.faint=x:=⟨_,rfl⟩;rw[hF] at c6 HY;clear h hy hq g ab e0 e1 e5 a5 I cb en hF a9;have k0:=o.out.cell id c0;have k1:=o.out.cell id c1;have k4:=o.out.cell id c4;have k5:=o.out.cell id c5;have k6:=o.out.cell id c6;have m0:=o.out.cell id n0;have m1:=o.out.cell id n1;have p0:=o.out.cell id t0;have p1:=o.out.cell id t1;clear c0 c1 c4 c5 c6 n0 n1 t0 t1;have ad:=a8 (show ∀ W,AG (fun _=>False) w1 W->_∧_∧_∧_∧_∧_∧_ from fun W hs=>⟨hs.cell id k4,hs.cell id k5,hs.cell id k6,hs.cell id m0,hs.cell id m1,hs.cell id p0,hs.cell id p1⟩)
  go_wp2
  go_region_held3 (fun w'=>w'.cell? ⟨sb,4,ax⟩=aj (.slice (aj ⟨gn,0,ax⟩) nn cn)∧w'.cell? ⟨sb,5,ax⟩=aj (.slice (aj ⟨gt,0,ax⟩) nt ct)∧w'.cell? ⟨sb,6,ax⟩=aj (.bool F)∧w'.cell? ⟨gn,0,ax⟩=aj (.int .i64 N0)∧w'.cell? ⟨gn,1,ax⟩=aj (.int .i64 N1)∧w'.cell? ⟨gt,0,ax⟩=aj (.string ⟨T0.toArray⟩)∧w'.cell? ⟨gt,1,ax⟩=aj (.string ⟨T1.toArray⟩))
   (first|exact ad.out _ (b8 _ _)|exact ad.out _ ((b8 _ _).trans (cS _ _ _))) (fail)
  obtain⟨w2,C⟩:∃ w2,w2=(w1.alloc (.cells #[.int .i64 N0,.string ⟨T0.toArray⟩,.string ⟨T1.toArray⟩,.int .i64 N1,.bool F] 89)).drew:=⟨_,rfl⟩;have T:AG (fun _=>False) w1 w2:=by rw[C];exact (cS _ _ _).trans (b8 _ _)
  have I:w2.heap[w1.heap.size]? = aj (.cells #[.int .i64 N0,.string ⟨T0.toArray⟩,.string ⟨T1.toArray⟩,.int .i64 N1,.bool F] 89 (0,0)):=by rw[C];exact cd w1 _
  obtain⟨g0,g1,g2,g3,g4⟩:=oI I;have S2:=a8 (o.out.trans T);have R:=T.cell id k1;obtain⟨eb,a7⟩:∃ b,b=w1.heap.size:=⟨_,rfl⟩;rw[← a7] at g0 g1 g2 g3 g4 ⊢;rw[← C];clear C T I a7 k0 k1 k4 k5 k6 m0 m1 p0 p1 ad
  go_wp2
  go_region_held3 (fun w'=>w'.cell? ⟨sb,1,ax⟩=aj (.slice ae me ke)∧w'.cell? ⟨eb,0,ax⟩=aj (.int .i64 N0)∧w'.cell? ⟨eb,1,ax⟩=aj (.string ⟨T0.toArray⟩)∧w'.cell? ⟨eb,2,ax⟩=aj (.string ⟨T1.toArray⟩)∧w'.cell? ⟨eb,3,ax⟩=aj (.int .i64 N1)∧w'.cell? ⟨eb,4,ax⟩=aj (.bool F))
   (first|exact⟨R,g0,g1,g2,g3,g4⟩|exact cm.out) (first
   | (go_at_call 80;refine (zE HY.out (H.out.still (S2.out.trans (b8 _ _))).se (H.out.still (S2.out.trans (b8 _ _))).lo (H.out.still (S2.out.trans (b8 _ _))).gt).mono ?_;rintro e w3 ⟨u,rfl,i,hu⟩;have cm:=a8 (show _∧_∧_∧_∧_∧_ from ⟨i.cell id R,i.cell id g0,i.cell id g1,i.cell id g2,i.cell id g3,i.cell id g4⟩);have S3:=a8 ((S2.out.trans (b8 _ _)).trans i);have HU:=a8 hu;clear i hu))
  cases b with
  | true=>
   obtain rfl:=AR (show aj s1=aj s' from P.out)
   go_wp2_with (go_at_call 19;refine (GV ⟨_,_,_,H.out.still S3.out⟩ HQ.out).mono ?_;rintro e w4 ⟨rfl,J⟩;have E4:=a8 J;clear J)
   refine bI (b7 rfl _ _ _) rfl ?_;exact⟨rfl,Em.behind S3.out E4.out⟩
  | false=>
   obtain⟨t,ht,a3⟩:=AN (show (ER { s1.d with Estimates:=y.1 }).bind (fun t=>Mv { s1 with d:={ s1.d with Estimates:=y.1 } } t)=aj s' from P.out);have HT:=a8 ht;have HS:=a8 a3;obtain⟨au,mu,ku,rfl⟩:=sl_of HU.out;clear ht a3 P R g0 g1 g2 g3 g4
   go_wp2_with (first
    | (go_at_call 19;refine (GV ⟨_,_,_,H.out.still S3.out⟩ HQ.out).mono ?_;rintro e w4 ⟨rfl,O1,a1,b1,x1,e3,e2,v1,q1⟩;obtain⟨_,d1,_,_,_,_,_,df⟩:=q1.cells;have fm:=df 1;have A1:=a8 a1;have B1:=a8 b1;have X1:=a8 x1;have E3:=a8 (q1.cell (s':={ s1 with d:={ s1.d with Estimates:=y.1 } }) (u:=.slice au mu ku) 1 rfl (fun j=>by match j with|0=>rfl|1=>rfl|2=>rfl) q1.sa (VR.ext HU.out x1 b1));clear df a1 b1 x1 q1)
    | (go_at_call 79;obtain⟨O2,a2,b2,x2,q2⟩:=E3.out;have A2:=a8 a2;have B2:=a8 b2;have X2:=a8 x2;have Q2:=a8 q2;clear a2 b2 x2 q2;refine (dk HT.out Q2.out).mono ?_;rintro e w5 ⟨rfl,a0⟩;have S5:=a8 a0;clear a0)
    | (go_at_call 21;refine (Wn (Q2.out.still S5.out) HS.out).mono ?_;rintro e w6 ⟨rfl,J⟩;have E6:=a8 J;clear J))
   refine bI (b7 rfl _ _ _) rfl ?_;exact⟨rfl,Em.behind S3.out (Em.then A1.out B1.out X1.out (Em.then A2.out B2.out X2.out (Em.behind S5.out E6.out)))⟩
