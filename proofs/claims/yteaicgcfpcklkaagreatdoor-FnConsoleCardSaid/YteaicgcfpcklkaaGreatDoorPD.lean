/- Lemmas and walks, several texts in one. No condition. -/
import Derived.Test.YteaicgcfpcklkaaGreatDoorPB
import Derived.Test.YteaicgcfpcklkaaGreatDoorPC
import Derived.Test.YteaicgcfpcklkaaGreatDoorRows
import Derived.WalkKit
set_option linter.unusedSimpArgs false
set_option linter.unusedVariables false
set_option maxRecDepth 100000
set_option maxHeartbeats 64000000
noncomputable section
namespace Go.Proofs.YteaicgcfpcklkaaGreatDoor
open Go Go.RowKit
def wS:List AV->Rs
 | [.str l]=>match Ed l with
  | some y=>⟨true,.str y,[.any]⟩
  | none=>Rs.bad
 | _=>Rs.bad
def Gm:Ak:=⟨[.bor],true,wS⟩
theorem Kb{text:List UInt8}{y_:List UInt8}(h:Ed text=some y_):Gm.F [.str text]=⟨true,.str y_,[.any]⟩:=by
 show (match Ed text with
  | some y=>(⟨true,.str y,[.any]⟩:Rs)
  | none=>Rs.bad)=_
 rw[h]
theorem ar:Gm.modes=[.bor]:=rfl
theorem WC:Gm.flat=true:=rfl
attribute [go_sem] ar WC
theorem qM{args:List AV}(h:(wS args).ok=true):∃ l y,Ed l=some y∧args=[.str l]:=by
 unfold wS at h;split at h
 ·rename_i l;split at h
  ·rename_i y hy;exact⟨l,y,hy,rfl⟩
  ·cases h
 ·cases h
theorem kJ{S:Nat->Prop}{w:World}{u:Value}{d:Bc}(h:VR S w u (Cj d)):∃ va vb,u = .agg #[va,vb,.string ⟨d.Log.toArray⟩]∧VR S w va (.sl 5 (List.map BV d.Stars))∧VR S w vb (.sl 5 (List.map AN d.Estimates)):=by
 have h:VR S w u (.agg [.sl 5 (List.map BV d.Stars),.sl 5 (List.map AN d.Estimates),.str d.Log]):=h;cases h with
 | @agg cs as_ hn ha h=>
  have h0:=h 0 (by simp);have h1:=h 1 (by simp);have h2:=h 2 (by simp);obtain⟨l⟩:=cs
  match l,hn with
  | [a,b,c],_=>
   have h2:VR S w c (.str d.Log):=h2;cases h2
   exact⟨a,b,rfl,h0,h1⟩
theorem AEG{S:Nat->Prop}{w:World}{d:Bc}{va vb:Value}(h0:VR S w va (.sl 5 (List.map BV d.Stars)))(h1:VR S w vb (.sl 5 (List.map AN d.Estimates))):VR S w (.agg #[va,vb,.string ⟨d.Log.toArray⟩]) (Cj d):=by
 refine .agg rfl (fun k hk=>?_) (fun k hk=>?_)
 ·match k,hk with
  | 0,_=>rfl
  | 1,_=>rfl
  | 2,_=>rfl
 ·match k,hk with
  | 0,_=>exact h0
  | 1,_=>exact h1
  | 2,_=>exact .str
theorem iH{S:Nat->Prop}{w:World}{u:Value}{x y:AV}{b:Bool}(h:VR S w u (.tup [x,y,.bool b])):∃ a c,u = .tuple #[a,c,.bool b]∧VR S w a x∧VR S w c y:=by
 cases h with
 | @tup cs as_ hn h=>
  have h0:=h 0 (by simp);have h1:=h 1 (by simp);have h2:=h 2 (by simp);obtain⟨l⟩:=cs
  match l,hn with
  | [a,c,e],_=>
   have h2:VR S w e (.bool b):=h2;cases h2
   exact⟨a,c,rfl,h0,h1⟩
theorem vi{S:Nat->Prop}{w:World}{u:Value}{x y:List UInt8}{b:Bool}(h:VR S w u (.tup [.str x,.str y,.bool b])):u = .tuple #[.string ⟨x.toArray⟩,.string ⟨y.toArray⟩,.bool b]:=by
 obtain⟨a,c,rfl,h0,h1⟩:=iH h;cases h0;cases h1;rfl
theorem lS{text r:List UInt8}(h:Ed text=some r){w:World}(hg:GT (fun _=>False) w):Calls Tryz.prog 10 #[.string ⟨text.toArray⟩] w (rund.RunEnd r w):=by
 unfold Ed at h;obtain⟨d0,hd0,h⟩:=AB h;refine rund.run_all text d0 r w h hg ?_ ?_ ?_
 ·refine (NA AFK Tryz.func6 rfl (by decide +kernel) (args:=[]) (vargs:=#[]) rfl (by rw[AFi];rfl) rfl (fun j hj=>absurd hj (by simp)) hg (AAw hd0)).mono fun e w' ⟨u,h1,h2,h3⟩=>?_
  obtain⟨va,vb,rfl,ha,hb⟩:=kJ (d:=d0) h3;exact⟨va,vb,h1,CW h2,ha,hb⟩
 ·intro t y W hB hy;refine (NA lQ Tryz.func19 rfl (by decide +kernel) (args:=[.str t,.str [10]]) (vargs:=#[.string ⟨t.toArray⟩,.string ⟨#[10]⟩]) rfl (by rw[AAg];rfl) rfl (fun j hj=>?_) (hg.mono (FM hB) fun _ _ c=>c) (gq hy)).mono fun e w' ⟨u,h1,h2,h3⟩=>?_
  ·have hj':j<2:=by simpa using hj
   match j,hj' with
   | 0,_=>exact .str
   | 1,_=>exact .str
  ·rw[vi h3] at h1;exact⟨h1,h2⟩
 ·intro O d line z va vb W hO hgO ha hb hz;refine (kS AFL Tryz.func15 rfl (by decide +kernel) (args:=[Cj d,.str line]) (vargs:=#[.agg #[va,vb,.string ⟨d.Log.toArray⟩],.string ⟨line.toArray⟩]) rfl (by rw[AFj];rfl) rfl (fun j hj=>?_) hO hgO (AAy hz)).mono fun e w' ⟨u,h1,h2,h3⟩=>?_
  ·have hj':j<2:=by simpa using hj
   match j,hj' with
   | 0,_=>exact AEG ha hb
   | 1,_=>exact .str
  ·obtain⟨a,c,rfl,q0,q1⟩:=iH h3;obtain⟨va',vb',rfl,qa,qb⟩:=kJ (d:=z.1) q0;exact⟨va',vb',c,h1,h2,qa,qb,q1⟩
theorem Yf:AQ Tryz.prog 10 Gm:=by
 refine⟨fun _=>rfl,fun F g0 w args vargs hsh hsz hfr hok=>?_⟩;obtain⟨l,y,hy,rfl⟩:=qM hok;refine⟨fun _=>by rw[Kb hy];rfl,?_⟩;have h0:=FD hfr (i:=0) (by simp);rw[MP hsz];generalize vargs.getD 0 undef=v at h0;cases h0
 have he:=Go.Proofs.enters_of (P:=Tryz.prog) Tryz.func10 (by kernel_rfl) rfl;unfold CZ;rw[he,Kb hy];refine (lS hy (hfr.tab.mono (AR.refl _ _) fun _ _ c=>c.elim)).mono ?_;rintro e' w' ⟨rfl,hB⟩;exact⟨_,g0,[],id,rfl,Jj (FM hB) .str (fun i hi=>absurd hi.2 Bool.false_ne_true) (vI rfl)⟩
def nC:IR:=.seq (.test false [ PM 61 10,PM 62 8,PO 63 (.len false S0),PO 64 (B1 S2 S0)] S0 (.skip) (.exit 2)) (.seq (.block 3 (.region false [ PM 67 5,PM 68 8,PM 69 10,PO 70 (.ixAddr 1 S1 S0),PO 71 (L1 S0),PO 72 (B0 S0 (.c (.str [10]))),PO 73 (B0 S5 S0),VS 5 6 0])) (.region false [ PM 65 10,PO 66 (B0 S0 (I6 1)),VS 10 11 0]))
def ZK:List Bool:=[false,false,true,true,true,true,true,true,true,false,true]
def ZJ:List Bool:=[false,false,true,true,true,true,true,true,false,false,false]
def ZI:List Bool:=[false,true,false,false,false,false,false,false,false,false,false]
def nD:IR:=.seq (.test false [ PM 17 6,PM 18 2,PO 19 (.len false S0),PO 20 (B1 S2 S0)] S0 (.skip) (.exit 0)) (.seq (.block 1 (.seq (.region false [ PM 23 4,PM 24 2,PM 25 6,PO 26 (.ixAddr 1 S1 S0),PO 27 (L1 S0),PO 28 (B0 S0 (.c (.str [10]))),PO 29 (B0 S5 S0),VS 4 5 0]) (.seq (.anyo 10 [ SO 0 31 (.safe [8] (L3 V3)),SO 1 32 (.safe [8] (.mov V2)),SO 2 33 (.flat (.mov V6)),SO 3 34 (.safe [8] (.ixAddr 1 S1 S2)),SO 4 35 (.safe [8] (L1 S3)),SO 5
 36 (.call 7 [S0,S4]),SO 6 30 (.safe [8] (.mov S5)),SO 7 37 (.safe [8] (.ext S6 0)),SO 8 38 (.safe [8] (.ext S6 1)),SO 9 39 (.safe [8] (.ext S6 2)),VO 7 8 (.alloc (.agg [.sl 5 [],.sl 5 [],.str []])),⟨.no,0,none,.store 3 V7 S7⟩,VO 8 9 (.safe [8] (.mov S8)),VO 9 10 (.flat (.mov S9))] [[0,1,2,3,4,5,6,7,10,8,9,11,12,13],[0,1,2,3,4,5,6,7,10,8,11,9,12,13],[0,1,2,3,4,5,6,7,10,9,8,11,12,13],[0,1,2,3,4,5,6,7,10,9,11,8,12,13],[0,1,2,3,4,5,6,7,10,11,8,9,12,13],[0,1,2,3,4,10,5,
 6,7,8,9,11,12,13],[0,1,2,3,4,10,5,6,7,8,11,9,12,13],[0,1,2,3,4,10,5,6,7,9,8,11,12,13],[0,1,2,3,4,10,5,6,7,9,11,8,12,13],[0,1,2,3,4,10,5,6,7,11,8,9,12,13]] .skip) (.seq (.test false [ PM 40 9,PO 41 (B2 S0 (I6 7))] S0 (.seq (.region false [ PM 42 5,PO 43 (B0 S0 (.c (.str [63,10]))),VS 5 6 0]) (.exit 1)) (.skip)) (.seq (.test false [ PM 44 9,PO 45 (B7 S0 (I6 0)),PO 46 (.mov S0),⟨.push,47,(G0 0),L3 V7⟩,⟨.push,48,(G0 1),
 .call 8 [S0]⟩,⟨.push,49,(G0 2),.un .not S0⟩,PO 50 (.pick S3 C1 S0),PO 51 (.mov S0),⟨.push,52,(G0 0),.mov V8⟩,⟨.push,53,(G0 1),.len false S0⟩,⟨.push,54,(G0 2),B1 S0 (I6 1)⟩,PO 55 (.pick S3 C1 S0),PO 56 (.mov S0),⟨.push,57,(G0 0),L3 V7⟩,⟨.push,58,(G0 1),.call 9 [S0]⟩,⟨.push,59,(G0 2),B2 S0 C2⟩,PO 60 (.pick S3 (.c
 (.bool true)) S0)] S0 (.seq (.region false [ VO 1 2 (.mov C0)]) (.ret)) (.skip)) (.seq (.seq (.region false [ VO 10 11 (.mov (I6 0))]) (.block 2 (.loop ZK ZJ ZI nC))) (.region false [ PO 74 (L3 V7),⟨.no,0,none,.store 3 V3 S0⟩]))))))) (.region false [ PM 21 6,PO 22 (B0 S0 (I6 1)),VS 6 7 0]))
def fo:List Bool:=[false,false,true,true,true,true,true,false,false,false,false]
def fl:List Bool:=[false,false,false,false,true,true,false,false,false,false,false]
def fk:List Bool:=[false,true,false,false,false,false,false,false,false,false,false]
def ANn:List Nat:=[0,2,3,4,5,6,7,8,9,10,11]
def ir3:CN:=⟨1,11,.seq (.region false [ VO 1 2 (.mov C0)]) (.seq (.test false [ PM 12 0,PO 13 (.call 4 [S0,(.c (.sl 1 []))])] S0 (.seq (.region false [ VO 1 2 (.mov C1)]) (.ret)) (.skip)) (.seq (.region false [ PM 14 0,PO 15 (.call 5 [S0]),VS 2 3 0]) (.seq (.region false [ PO 16 (.call 6 []),VO 3 4 (.alloc (.agg [.sl 5 [],.sl 5 [],.str []])),⟨.no,0,none,.store 3 V3 S0⟩]) (.seq (.region false [ VO 4 5 (.mov C2)]) (.seq (.region false [ VO 5 6 (.mov C2)]) (.seq (.seq (.region false [ VO 6 7 (.mov (I6
 0))]) (.block 0 (.loop fo fl fk nD))) (.seq (.region false [ PM 75 4,PO 76 (.call 10 [S0]),PM 77 5,PO 78 (B2 S1 S0),VS 1 2 0]) (.ret)))))))),[.t 1]⟩
def Ca:List (Nat×Ak):=[(4,eL),(5,eG),(6,eF),(7,eM),(8,de),(9,dd),(10,Gm)]
theorem Pi:AP Ca 4=some eL:=rfl
theorem Ph:AP Ca 5=some eG:=rfl
theorem Pg:AP Ca 6=some eF:=rfl
theorem Pf:AP Ca 7=some eM:=rfl
theorem Pe:AP Ca 8=some de:=rfl
theorem Pd:AP Ca 9=some dd:=rfl
theorem ON:AP Ca 10=some Gm:=rfl
def IX:Ak:=DN Ca ir3 [.bor]
theorem UU:AQ Tryz.prog 3 IX:=AI _ rfl (AF ANJ (AF ANE (AF AFK (AF ANK (AF AMj (AF AMi (AF Yf AL))))))) (by kernel_rfl:Ab Tryz.prog 3 ir3 ANn=true)
theorem NF:IX.modes=[.bor]:=rfl
theorem Th:IX.flat=true:=rfl
attribute [go_sem] NF Th Pi Ph Pg Pf Pe Pd ON
def Ea(lines:List (List UInt8))(d:Bc)(text:List UInt8)(i:Int)(next_:Bc)(out:List (List UInt8)):((List UInt8)×Int)->St
 | (want,k)=>⟨[.any,.any,.own 3200000,.ref 3200032 0 0,.str text,.str want,.int .i64 i,.ref 3200064 0 0,.sl 1 (List.map AV.str out),.any,.int .i64 k],[],[(3200000,⟨1,List.map AV.str lines⟩),(3200032,⟨3,[Cj d]⟩),(3200064,⟨3,[Cj next_]⟩)],true⟩
def EZ(lines:List (List UInt8))(d:Bc)(text:List UInt8)(i:Int)(next_:Bc)(out:List (List UInt8))(y:(List UInt8)):Fw:=(.exit 2,⟨[.any,.any,.own 3200000,.ref 3200032 0 0,.str text,.str y,.int .i64 i,.ref 3200064 0 0,.any,.any,.any],[],[(3200000,⟨1,List.map AV.str lines⟩),(3200032,⟨3,[Cj d]⟩),(3200064,⟨3,[Cj next_]⟩)],true⟩)
attribute [local go_sem] ir3 Ea EZ nC ZK ZJ ZI in
theorem OO{lines:List (List UInt8)}{d:Bc}{text:List UInt8}{i:Int}{next_:Bc}{out:List (List UInt8)}{sgm_:(List UInt8)×Int}{rho_:(List UInt8)}(h:AS (Da lines d text i next_ out) sgm_=some rho_):∃ L0,∀ L,L0<=L->CV (Aq (AP Ca) L nC) ZK ZJ ZI L (Ea lines d text i next_ out sgm_)=EZ lines d text i next_ out rho_:=by
 refine Ax (E:=Ea lines d text i next_ out) (R:=EZ lines d text i next_ out) (fun y=>by first|(intro c;cases c)|(rcases y with y|y<;>(intro c;cases c))|(rcases y with y|y|y<;>(intro c;cases c))) ?_ h;clear h;rintro⟨want,k⟩ o_ h;dsimp only[Da] at h;rcases AE h with⟨z15,h⟩|⟨z15,h⟩
 ·try simp only[go_sem,n1,n2,n3,n4] at z15
  all_goals
  obtain⟨z16,h⟩:=AC h;have lz16:=Az z16;have xz16:=Mw AV.str out lz16;try simp only[go_sem] at lz16
  try simp only[go_sem] at xz16
  try simp only[go_sem,n1,n2,n3,n4,z15] at z16
  all_goals
  obtain⟨z17,h⟩:=AC h;try simp only[go_sem,n1,n2,n3,n4,z15,z16] at z17
  all_goals
  obtain⟨z18,h⟩:=AC h;try simp only[go_sem,n1,n2,n3,n4,z15,z16,z17] at z18
  all_goals
  obtain rfl:=AA h;refine⟨0,fun L hL=>?_⟩;simp only[go_sem,z15,z16,lz16,xz16,z17,z18]
 ·try simp only[go_sem,n1,n2,n3,n4] at z15
  all_goals
  obtain rfl:=AA h;refine⟨0,fun L hL=>?_⟩;simp only[go_sem,z15]
def GQ(lines:List (List UInt8)):(Bc×(List UInt8)×(List UInt8)×Int)->St
 | (d,text,want,i)=>⟨[.any,.any,.own 3200000,.ref 3200032 0 0,.str text,.str want,.int .i64 i,.any,.any,.any,.any],[],[(3200000,⟨1,List.map AV.str lines⟩),(3200032,⟨3,[Cj d]⟩)],true⟩
def GP(lines:List (List UInt8)):(((List UInt8)×(List UInt8))⊕Bool)->Fw
 | .inl y=>(.exit 0,⟨[.any,.any,.any,.any,.str y.1,.str y.2,.any,.any,.any,.any,.any],[],[],true⟩)
 | .inr y=>(.ret,⟨[.any,.bool y,.any,.any,.any,.any,.any,.any,.any,.any,.any],[],[],true⟩)
attribute [local go_sem] ir3 GQ GP nD fo fl fk Ea EZ ZK ZJ ZI in
theorem OP{lines:List (List UInt8)}{sgm_:Bc×(List UInt8)×(List UInt8)×Int}{rho_:((List UInt8)×(List UInt8))⊕Bool}(h:AS (Db lines) sgm_=some rho_):∃ L0,∀ L,L0<=L->CV (Aq (AP Ca) L nD) fo fl fk L (GQ lines sgm_)=GP lines rho_:=by
 refine Ax (E:=GQ lines) (R:=GP lines) (fun y=>by first|(intro c;cases c)|(rcases y with y|y<;>(intro c;cases c))|(rcases y with y|y|y<;>(intro c;cases c))) ?_ h;clear h;rintro⟨d,text,want,i⟩ o_ h;dsimp only[Db] at h;rcases AE h with⟨z5,h⟩|⟨z5,h⟩
 ·try simp only[go_sem,n1,n2,n3,n4] at z5
  all_goals
  obtain⟨z6,h⟩:=AC h;have lz6:=Az z6;have xz6:=Mw AV.str lines lz6;try simp only[go_sem] at lz6
  try simp only[go_sem] at xz6
  try simp only[go_sem,n1,n2,n3,n4,z5] at z6
  all_goals
  obtain⟨z7,h⟩:=AC h;try simp only[go_sem,n1,n2,n3,n4,z5,z6] at z7
  all_goals
  obtain⟨z8,h⟩:=AC h;try simp only[go_sem,n1,n2,n3,n4,z5,z6,z7] at z8
  all_goals
  obtain⟨y_9,z9,h⟩:=AB h;have fz9:=AJz z9;try simp only[go_sem,z5,z6,z7,z8] at fz9
  rcases AE h with⟨z10,h⟩|⟨z10,h⟩
  ·try simp only[go_sem,n1,n2,n3,n4,z5,z6,z7,z8] at z10
   all_goals
   obtain⟨z11,h⟩:=AC h;try simp only[go_sem,n1,n2,n3,n4,z5,z6,z7,z8,z10] at z11
   all_goals
   obtain rfl:=AA h;refine⟨0,fun L hL=>?_⟩;simp only[go_sem,z5,z6,lz6,xz6,z7,z8,fz9,z10,z11]
  ·try simp only[go_sem,n1,n2,n3,n4,z5,z6,z7,z8] at z10
   all_goals
   obtain⟨z12,h⟩:=AC h;rcases Ag z12 with⟨gz12,z12⟩|gz12
   ·try simp only[go_sem,n1,n2,n3,n4,z5,z6,z7,z8,z10] at gz12
    all_goals
    obtain⟨y_12,hz12⟩:=isX z12;have fz12:=AJe hz12;try simp only[go_sem,n1,n2,n3,n4,z5,z6,z7,z8,z10,gz12] at hz12
    all_goals
    try simp only[go_sem,z5,z6,z7,z8,z10,gz12] at fz12
    obtain⟨z13,h⟩:=AC h;rcases Ag z13 with⟨gz13,z13⟩|gz13
    ·try simp only[go_sem,n1,n2,n3,n4,z5,z6,z7,z8,z10,gz12,hz12] at gz13
     all_goals
     obtain⟨y_13,hz13⟩:=isX z13;have fz13:=AJd hz13;try simp only[go_sem,n1,n2,n3,n4,z5,z6,z7,z8,z10,gz12,hz12,gz13] at hz13
     all_goals
     try simp only[go_sem,z5,z6,z7,z8,z10,gz12,hz12,gz13] at fz13
     rcases AE h with⟨z14,h⟩|⟨z14,h⟩
     ·try simp only[go_sem,n1,n2,n3,n4,z5,z6,z7,z8,z10,gz12,hz12,gz13,hz13] at z14
      all_goals
      obtain rfl:=AA h;refine⟨0,fun L hL=>?_⟩;simp only[go_sem,z5,z6,lz6,xz6,z7,z8,fz9,z10,gz12,hz12,fz12,gz13,hz13,fz13,z14]
     ·try simp only[go_sem,n1,n2,n3,n4,z5,z6,z7,z8,z10,gz12,hz12,gz13,hz13] at z14
      all_goals
      obtain⟨y_19,z19,h⟩:=AB h;obtain⟨Lz19,ez19⟩:=OO z19;obtain rfl:=AA h;refine⟨Lz19,fun L hL=>?_⟩;have ez19:=ez19 L (by omega);try simp only[go_sem,z5,z6,z7,z8,z10,gz12,hz12,gz13,hz13,z14] at ez19
      simp only[go_sem,z5,z6,lz6,xz6,z7,z8,fz9,z10,gz12,hz12,fz12,gz13,hz13,fz13,z14,ez19]
    ·have gz13n:=FO gz13;rcases bP gz13n with gz13na|⟨gz13na,gz13nb⟩
     ·rcases bP gz13na with gz13naa|⟨gz13naa,gz13nab⟩
      ·try simp only[go_sem,n1,n2,n3,n4,z5,z6,z7,z8,z10,gz12,hz12] at gz13naa
       all_goals
       (simp_all)
      ·have gz13naan:=FO gz13naa;have gz13nabn:=Is gz13nab;try simp only[go_sem,n1,n2,n3,n4,z5,z6,z7,z8,z10,gz12,hz12] at gz13naan
       all_goals
       try simp only[go_sem,n1,n2,n3,n4,z5,z6,z7,z8,z10,gz12,hz12,gz13naan] at gz13nabn
       all_goals
       rcases AE h with⟨z14,h⟩|⟨z14,h⟩
       ·try simp only[go_sem,n1,n2,n3,n4,z5,z6,z7,z8,z10,gz12,hz12,gz13naan,gz13nabn] at z14
        all_goals
        obtain rfl:=AA h;refine⟨0,fun L hL=>?_⟩;simp only[go_sem,z5,z6,lz6,xz6,z7,z8,fz9,z10,gz12,hz12,fz12,gz13naan,gz13nabn,z14]
       ·try simp only[go_sem,n1,n2,n3,n4,z5,z6,z7,z8,z10,gz12,hz12,gz13naan,gz13nabn] at z14
        all_goals
        (simp_all)
     ·obtain⟨gz13naa,gz13nab⟩:=ABq gz13na;have gz13naan:=FO gz13naa;have gz13nabn:=FO gz13nab;try simp only[go_sem,n1,n2,n3,n4,z5,z6,z7,z8,z10,gz12,hz12] at gz13naan
      all_goals
      try simp only[go_sem,n1,n2,n3,n4,z5,z6,z7,z8,z10,gz12,hz12,gz13naan] at gz13nabn
      all_goals
      try simp only[go_sem,n1,n2,n3,n4,z5,z6,z7,z8,z10,gz12,hz12,gz13naan,gz13nabn] at gz13nb
      all_goals
      rcases AE h with⟨z14,h⟩|⟨z14,h⟩
      ·try simp only[go_sem,n1,n2,n3,n4,z5,z6,z7,z8,z10,gz12,hz12,gz13naan,gz13nabn,gz13nb] at z14
       all_goals
       obtain rfl:=AA h;refine⟨0,fun L hL=>?_⟩;simp only[go_sem,z5,z6,lz6,xz6,z7,z8,fz9,z10,gz12,hz12,fz12,gz13naan,gz13nabn,gz13nb,z14]
      ·try simp only[go_sem,n1,n2,n3,n4,z5,z6,z7,z8,z10,gz12,hz12,gz13naan,gz13nabn,gz13nb] at z14
       all_goals
       (simp_all)
   ·have gz12n:=FO gz12;have gz12nn:=Is gz12n;try simp only[go_sem,n1,n2,n3,n4,z5,z6,z7,z8,z10] at gz12nn
    all_goals
    obtain⟨z13,h⟩:=AC h;rcases AE h with⟨z14,h⟩|⟨z14,h⟩
    ·try simp only[go_sem,n1,n2,n3,n4,z5,z6,z7,z8,z10,gz12nn] at z14
     all_goals
     obtain rfl:=AA h;refine⟨0,fun L hL=>?_⟩;simp only[go_sem,z5,z6,lz6,xz6,z7,z8,fz9,z10,gz12nn,z14]
    ·try simp only[go_sem,n1,n2,n3,n4,z5,z6,z7,z8,z10,gz12nn] at z14
     all_goals
     (simp_all)
 ·try simp only[go_sem,n1,n2,n3,n4] at z5
  all_goals
  obtain rfl:=AA h;refine⟨0,fun L hL=>?_⟩;simp only[go_sem,z5]
attribute [local go_sem] ir3 Ea EZ ZK ZJ ZI GQ GP fo fl fk in
theorem Tf{code:List UInt8}{y_:Bool}(h:JX code=some y_):IX.F [.sl 1 (List.map Dv code)]=⟨true,.bool y_,[.any]⟩:=by
 refine Ah rfl ?_;dsimp only[JX] at h;obtain⟨y_1,z1,h⟩:=AB h;have fz1:=AJy z1;try simp only[go_sem] at fz1
 rcases AE h with⟨z2,h⟩|⟨z2,h⟩
 ·try simp only[go_sem,N1] at z2
  obtain rfl:=AA h;refine⟨0,fun L hL=>?_⟩;simp only[go_sem, *]
 ·try simp only[go_sem,N1] at z2
  obtain⟨y_3,z3,h⟩:=AB h;have fz3:=AJv z3;try simp only[go_sem,z2] at fz3
  obtain⟨y_4,z4,h⟩:=AB h;have fz4:=AAw z4;try simp only[go_sem,z2] at fz4
  obtain⟨y_20,z20,h⟩:=AB h;obtain⟨Lz20,ez20⟩:=OP z20;rcases y_20 with y_20a|y_20b
  ·dsimp only at h;obtain⟨y_21,z21,h⟩:=AB h;have fz21:=Kb z21;try simp only[go_sem,z2] at fz21
   obtain rfl:=AA h;refine⟨Lz20,fun L hL=>?_⟩;have ez20:=ez20 L (by omega);try simp only[go_sem,z2] at ez20
   simp only[go_sem, *]
  ·dsimp only at h;obtain rfl:=AA h;refine⟨Lz20,fun L hL=>?_⟩;have ez20:=ez20 L (by omega);try simp only[go_sem,z2] at ez20
   simp only[go_sem, *]
