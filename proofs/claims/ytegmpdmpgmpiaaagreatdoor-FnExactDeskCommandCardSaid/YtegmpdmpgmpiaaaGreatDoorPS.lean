/- Lemmas. No condition. -/
import Derived.Test.YtegmpdmpgmpiaaaGreatDoorPR
open Bool renaming false_ne_true->a1,true->ad
open Inhabited renaming default->a6
open List renaming map->a7
open Option renaming some->a8
set_option linter.defProp false
set_option linter.unusedSimpArgs false
set_option linter.unusedVariables false
set_option maxRecDepth 100000
namespace Go.Proofs.YtegmpdmpgmpiaaaGreatDoor.dsk
open Go Go.RowKit plot rdc
set_option maxHeartbeats 64000000
noncomputable def exB(d:Ad)(c:Cm):Option ((List L8)×Int) :=ck (AS 0 c.words_.length)<|ck (!(c.words_.getD 0 a6==([115,116,97,114]:L8)))<|ck (!(c.words_.getD 0 a6==([101,115,116]:L8)))<|ck (!(c.words_.getD 0 a6==([101,110,116,101,114]:L8)))<|if(c.words_.getD 0 a6==([99,117,114,118,101]:L8))then(BX d c).bind fun y=>a8 (y.1,y.2)else if(c.words_.getD 0 a6==([97,109,112]:L8))then(BX d c).bind fun y=>a8 (y.1,y.2)else if(c.words_.getD 0 a6==([98,101,115,116]:L8))then(BX d c).bind fun y=>a8 (y.1,y.2)else if(c.words_.getD 0 a6==([102,111,108,100]:L8))then(BX d c).bind fun y=>a8 (y.1,y.2)else if(c.words_.getD 0 a6==([108,97,115,116]:L8))then ck (AS 1 c.words_.length)<|(Gt d.Estimates (c.words_.getD 1 a6)).bind fun I=>(Ee I.1).bind fun ab=>(DY ab I.2).bind fun y=>a8 (y.1,y.2)else if(c.words_.getD 0 a6==([112,97,105,114,115]:L8))then ck (AS 1 c.numbers_.length)<|ck (AS 2 c.numbers_.length)<|(CU d.Estimates (c.numbers_.getD 1 a6) (c.numbers_.getD 2 a6)).bind fun C=>(FW C.1).bind fun aa=>(Av aa).bind fun U=>(DY U C.2).bind fun y=>a8 (y.1,y.2)else(EY d.Log).bind fun j=>(AE (CE d j.2 j.1 (j.1.length:Int)) (([]:List L8),0)).bind fun R=>(Gs R).bind fun J=>a8 (J,j.2)
variable{d:Ad}{c:Cm}{y:List L8×Int×Ad}
def ALU(h:Ab d c=a8 y)(R:(c.words_.getD 0 a6==([115,116,97,114]:L8))=false)(J:(c.words_.getD 0 a6==([101,115,116]:L8))=false)(I:(c.words_.getD 0 a6==([101,110,116,101,114]:L8))=false):exB d c=a8 (y.1,y.2.1)/\y.2.2=d:=by
  unfold Ab at h;obtain⟨k,h⟩:=AY h;rw[if_neg (by rw[R];exact a1),if_neg (by rw[J];exact a1),if_neg (by rw[I];exact a1)]at h;unfold exB;rw[k,R,J,I];simp only[Bool.not_false,AB]
  have one:∀{o:Option (List L8×Int)},(o.bind fun q=>a8 (q.1,q.2,d))=a8 y->(o.bind fun q=>a8 (q.1,q.2))=a8 (y.1,y.2.1)/\y.2.2=d:=fun{o} h=>by
    obtain⟨v,rfl,h⟩:=AO h;obtain rfl:=AX h;exact⟨rfl,rfl⟩
  rcases Au h with⟨z,h⟩|⟨z,h⟩
  · rw[if_pos z];exact one h
  rw[if_neg (by rw[z];exact a1)];rcases Au h with⟨z,h⟩|⟨z,h⟩
  · rw[if_pos z];exact one h
  rw[if_neg (by rw[z];exact a1)];rcases Au h with⟨z,h⟩|⟨z,h⟩
  · rw[if_pos z];exact one h
  rw[if_neg (by rw[z];exact a1)];rcases Au h with⟨z,h⟩|⟨z,h⟩
  · rw[if_pos z];exact one h
  rw[if_neg (by rw[z];exact a1)];rcases Au h with⟨z,h⟩|⟨z,h⟩
  · rw[if_pos z];obtain⟨k1,h⟩:=AY h;obtain⟨v1,j,h⟩:=AO h;obtain⟨v2,h2,h⟩:=AO h;rw[k1,AB,j,obS,h2,obS];exact one h
  rw[if_neg (by rw[z];exact a1)];rcases Au h with⟨z,h⟩|⟨z,h⟩
  · rw[if_pos z];obtain⟨k1,h⟩:=AY h;obtain⟨k2,h⟩:=AY h;obtain⟨v1,j,h⟩:=AO h;obtain⟨v2,h2,h⟩:=AO h;obtain⟨v3,C,h⟩:=AO h;rw[k1,AB,k2,AB,j,obS,h2,obS,C,obS];exact one h
  · rw[if_neg (by rw[z];exact a1)];obtain⟨v1,j,h⟩:=AO h;obtain⟨v2,h2,h⟩:=AO h;obtain⟨v3,C,h⟩:=AO h;obtain rfl:=AX h;rw[j,obS,h2,obS,C];exact⟨rfl,rfl⟩
def ALg(h:Ab d c=a8 y)(e:(c.words_.getD 0 a6==([115,116,97,114]:L8))=ad\/(c.words_.getD 0 a6==([101,115,116]:L8))=ad\/(c.words_.getD 0 a6==([101,110,116,101,114]:L8))=ad):DE d c=a8 y:=by
  unfold Ab at h;obtain⟨_,h⟩:=AY h
  have one:∀{o:Option (List L8×Int×Ad)},(o.bind fun q=>a8 (q.1,q.2.1,q.2.2))=a8 y->o=a8 y:=fun{o} h=>by
    obtain⟨v,rfl,h⟩:=AO h;exact h
  rcases Au h with⟨z,h⟩|⟨z,h⟩
  · exact one h
  rcases Au h with⟨j,h⟩|⟨j,h⟩
  · exact one h
  rcases Au h with⟨z2,h⟩|⟨z2,h⟩
  · exact one h
  · rcases e with e|e|e
    · rw[e]at z;cases z
    · rw[e]at j;cases j
    · rw[e]at z2;cases z2
noncomputable abbrev ACA:Ao:=CV Tb oM [.bor,.bor]
instance s_exB:Sd Tryz.prog 59 ACA:=Am
def ADt(d:Ad)(j:Int)(I:List AU)(C:Int):((List L8)×Int)->St
 |(lines,t94)=>⟨[.ptr 3 [BC d] 0 0,.any,.any,.any,.any,.any,.any,.any,.any,.any,.int .i64 j,.own 3200000,.any,.any,.any,.any,.own 3200032,.int .i64 C,.int .i64 t94,.any],[],[(3200000,⟨1,a7 AV.str lines⟩),(3200032,⟨3,a7 Br I⟩)],ad⟩
def ADg(d:Ad)(j:Int)(I:List AU)(C:Int)(y:(List L8)):FM:=(.exit 1,⟨[.ptr 3 [BC d] 0 0,.any,.any,.any,.any,.any,.any,.any,.any,.any,.int .i64 j,.own 3200000,.any,.any,.any,.any,.any,.any,.any,.any],[],[(3200000,⟨1,a7 AV.str y⟩)],ad⟩)
attribute [local go_sem] CE Tb ADt ADg in
def yE{d:Ad}{j:Int}{R:List AU}{J:Int}{C:(List L8)×Int}{I:(List L8)}(h:AE (CE d j R J) C=a8 I):∃U,∀L,U<=L->Hf Tb L oM 0 (ADt d j R J C)=ADg d j R J I:=Jd oM trivial
variable{C:Nat}
attribute [local go_sem] exB Tb ADt ADg in
def AQQ{J:List Star}{j:List AA}{aa:L8}{U:List L8}{C:List Int}{I R:Bool}(h:(exB (Ad.mk J j aa) (Cm.mk U C I R)).isSome=ad):ACA.F [.ptr 3 [(.agg ([.sl 5 (a7 AN J),.sl 5 (a7 AC j),.str aa]))] 0 0,.agg ([.sl 1 (a7 AV.str U),.sl 1 (a7 (AV.int .i64) C),.bool I,.bool R])]=⟨ad,.tup [.fresh 1 (a7 AV.str ((gd (exB (Ad.mk J j aa) (Cm.mk U C I R))).1)),.int .i64 ((gd (exB (Ad.mk J j aa) (Cm.mk U C I R))).2)],[.any,.any]⟩:=CK oM @yE
def AMv{j:(List L8)×Int}(h:exB d c=a8 j):ACA.F [.ptr 3 [BC d] 0 0,JH c]=⟨ad,.tup [.fresh 1 (a7 AV.str j.1),.int .i64 j.2],[.any,.any]⟩:=by
 have q:=AQQ (Kw h);simp only[h,Aj]at q;exact q
def Dk.ptr{N I ba ca bb U:Nat}{R J:Value}{d:Ad}{w:World}(h:Dk N I R J d ba ca bb U w):VR C' w (.pointer (a8 ⟨I,0,none⟩)) (.ptr 3 [BC d] 0 0):=by
  obtain⟨c0,c1,c2,_⟩:=h.cells;refine VR.ptr (sz:=3) (els:=[BC d]) (i0:=0) (o0:=0) I 0 (fun _ j=>match j with|0=>R|1=>J|_=>.string ⟨d.Log.toArray⟩) x' Nat.one_pos id (fun i hi=>?_) (fun i j hi C=>?_) (fun i j hi C=>?_)
  · match i,hi with
    |0,_=>exact⟨rfl,rfl⟩
  · match i,hi,j,C with
    |0,_,0,_=>exact c0
    |0,_,1,_=>exact c1
    |0,_,2,_=>exact c2
  · match i,hi,j,C with
    |0,_,0,_=>exact h.rva
    |0,_,1,_=>exact h.rvb
    |0,_,2,_=>exact .str
variable{w:World}
def ALe{C I:Value}{S:Nat->Prop}(J:VR S w C (.sl 1 (a7 AV.str c.words_)))(R:VR S w I (.sl 1 (a7 (AV.int .i64) c.numbers_))):VR S w (.agg #[C,I,.bool c.fainter_,.bool c.wrong_]) (JH c):=by
  refine .agg rfl (fun k j=>?_) (fun k j=>?_)
  · match k,j with
    |0,_=>rfl
    |1,_=>rfl
    |2,_=>rfl
    |3,_=>rfl
  · match k,j with
    |0,_=>exact J
    |1,_=>exact R
    |2,_=>exact .bool
    |3,_=>exact .bool
variable{N:Nat}
def pz.behind{j w':World}{o:List L8}{k:Int}{e:Ending}(hs:AD C' w j)(h:pz N C j o k d e w'):pz N C w o k d e w':=by
  obtain⟨J,I,ba,ca,bb,cb,vo,bo,co,h1,h2,h3,U,R⟩:=h;exact⟨J,I,ba,ca,bb,cb,vo,bo,co,h1,(hs.mono fun _ _ c=>c.elim).trans h2,h3,U.mono hs.size,R⟩
attribute [local irreducible] Calls in
def xz{ba ca bb cb:Nat}{va vb vw vn:Value}(hr:Ab d c=a8 y)(h:Dk N C va vb d ba ca bb cb w)(hN:N<=w.heap.size)
    (hw:VR (fun x=>x=C) w vw (.sl 1 (a7 AV.str c.words_))) (hn:VR (fun x=>x=C) w vn (.sl 1 (a7 (AV.int .i64) c.numbers_))) (hg:GT (fun x=>x=C) w) :
    Calls Tryz.prog 59 #[.pointer (a8 ⟨C,0,none⟩),.agg #[vw,vn,.bool c.fainter_,.bool c.wrong_]] w (pz N C w y.1 y.2.1 y.2.2):=by
  by_cases j:(c.words_.getD 0 a6==([115,116,97,114]:L8))=ad\/(c.words_.getD 0 a6==([101,115,116]:L8))=ad\/(c.words_.getD 0 a6==([101,110,116,101,114]:L8))=ad
  · have hc:=ALg hr j;obtain⟨h0,-⟩:=In (k:=0) hr;obtain⟨b,off,cap,rfl,hb,hO,U,R⟩:=words_of hw h0;obtain⟨X,hX⟩:∃x,c.words_.getD 0 a6=x:=⟨_,rfl⟩;rw[hX]at j;have x0:w.cell? ⟨b,off,none⟩=a8 (.string ⟨X.toArray⟩):=(U 0 h0).trans (congrArg (fun z=>a8 (strV z)) hX);obtain⟨n1,n2,n3,rfl⟩:=l28.sl_of hn;have hs:=AD.alloc C' w (.cells #[.slice (a8 ⟨b,off,none⟩) c.words_.length cap,.slice n1 n2 n3,.bool c.fainter_,.bool c.wrong_] 91);have I:AD (fun x=>x=C) w (w.alloc (.cells #[.slice (a8 ⟨b,off,none⟩) c.words_.length cap,.slice n1 n2 n3,.bool c.fainter_,.bool c.wrong_] 91)):=hs.mono fun _ _ c=>c.elim
    have HC:=Lib.hid (ABv hc (h.still hs) (Nat.le_trans hN hs.size) (hw.mono I fun _ _=>id) (hn.mono I fun _ _=>id) (hg.mono I fun _ _=>id));have HS:=Lib.hid hs;obtain⟨nw,J⟩:∃n,n=c.words_.length:=⟨_,rfl⟩;rw[←J]at h0 HC HS ⊢;clear hr h hw hn hg U R hs I hc hX J;rcases j with e0|e0|e0
    all_goals
      have e1:(X==([115,116,97,114]:L8))=ad\/(X==([115,116,97,114]:L8))=false:=by cases(X==([115,116,97,114]:L8))<;>simp
      have e2:(X==([101,115,116]:L8))=ad\/(X==([101,115,116]:L8))=false:=by cases(X==([101,115,116]:L8))<;>simp
      rcases e1 with e1|e1<;>rcases e2 with e2|e2 <;>
      (go_enter Tryz.func59,Tryz.ntmps59
       go_wp2_with (go_at_call 104;refine HC.out.mono ?_;rintro e w2 ⟨au,ao,b0,bh,bz,be,vo,bo,co,rfl,k2,k3,k4,k5⟩;have HD:=Lib.hid (show pz N C w y.1 y.2.1 y.2.2 _ w2 from pz.behind HS.out ⟨au,ao,b0,bh,bz,be,vo,bo,co,rfl,k2,k3,k4,k5⟩);clear k2 k3 k4 k5)
       refine bodyPost_ret (results_tmp2 rfl _ _ _) rfl ?_;exact HD.out)
  · have hx:∀{b:Bool},¬ b=ad->b=false:=fun{b} h=>by cases b<;>simp_all
    obtain⟨hB,hd⟩:=ALU hr (hx fun e=>j (.inl e)) (hx fun e=>j (.inr (.inl e))) (hx fun e=>j (.inr (.inr e)));have sub:∀{u:Value} {a:AV},VR (fun x=>x=C) w u a->VR C' w u a:=fun h=>h.mono (AD.refl _ _) fun _ _ c=>c.elim
    refine(PS s_exB.s Tryz.func59 rfl z' (args:=[.ptr 3 [BC d] 0 0,JH c]) (vargs:=#[.pointer (a8 ⟨C,0,none⟩),.agg #[vw,vn,.bool c.fainter_,.bool c.wrong_]]) rfl (by rw[iU];rfl) rfl (l28.hv2 h.ptr (ALe (sub hw) (sub hn))) (gF hg (AD.refl _ _)) (AMv hB)).mono fun e w' ⟨u,h1,h2,h3⟩=>?_
    obtain⟨a,bo,co,rfl,ho⟩:=AEe h3 (flT _);rw[hd];exact⟨va,vb,ba,ca,bb,cb,a,bo,co,h1,h2.mono fun _ _ c=>c.elim,h.still h2,ho,fun p=>⟨fun q e=>by have:=ho.ge p;have:=h.sa.lt q;omega,fun q e=>by have:=ho.ge p;have:=h.sb.lt q;omega⟩⟩
end Go.Proofs.YtegmpdmpgmpiaaaGreatDoor.dsk
