/- Lemmas and walks, several texts in one. No condition. -/
import Derived.Test.YtegmpdmpgmpiaaaGreatDoorPO
open Go.Lib renaming hid->a6
open Option renaming some->aa,none->ab
set_option linter.defProp false
set_option linter.unusedSimpArgs false
set_option linter.unusedVariables false
set_option maxRecDepth 100000
set_option maxHeartbeats 8000000
open Go.IntKind (i64 u64)
namespace Go.Proofs.YtegmpdmpgmpiaaaGreatDoor.l28
open Go Go.RowKit Go.Proofs.YtegmpdmpgmpiaaaGreatDoor Go.Proofs.YtegmpdmpgmpiaaaGreatDoor.plot Go.Proofs.YtegmpdmpgmpiaaaGreatDoor.rdc
theorem pP{O:Nat->Prop}{w:World}{x:List UInt8}{c:UInt8}{y:List (List UInt8)}(h:Dc x c=aa y)(lo:∀ b,O b->b<w.heap.size)(gt:GT O w):
    Calls Tryz.prog 18 #[.string ⟨x.toArray⟩,.int .u8 (c.toNat:Int)] w fun e w'=>∃ u,e = .returned u∧AG (fun _=>False) w w'∧VR O w' u (.sl 1 (List.map AV.str y)) :=
  (DG s_168.s Tryz.func18 rfl (by decide +kernel) (args:=[.str x,.int .u8 (c.toNat:Int)]) (vargs:=#[.string ⟨x.toArray⟩,.int .u8 (c.toNat:Int)]) rfl (by rw[AKt];rfl) rfl (RA .str .int) lo gt (ox h)).mono fun e w' ⟨u,i,h2,g⟩=>⟨u,i,h2,g⟩
theorem AGf{O:Nat->Prop}{w:World}{x y:List UInt8}(h:Bu x=aa y)(lo:∀ b,O b->b<w.heap.size)(gt:GT O w):
    Calls Tryz.prog 44 #[.string ⟨x.toArray⟩] w fun e w'=>e = .returned (.string ⟨y.toArray⟩)∧AG (fun _=>False) w w' :=
  (DG s_180.s Tryz.func44 rfl (by decide +kernel) (args:=[.str x]) (vargs:=#[.string ⟨x.toArray⟩]) rfl (by rw[AKm];rfl) rfl (Xr .str) lo gt (AIT h)).mono fun e w' ⟨u,i,h2,g⟩=>by cases g;exact⟨i,h2⟩
section
variable {O:Nat->Prop}{sb:Nat}{va vb:Value}{v:Fin 3->Value}{s:FL}{w:World}
theorem Q.new(h:Q O sb va vb v s w)(i:Fin 3){s':FL}(I:xs s' i=[])(o:∀ j,j≠i->xs s' j=xs s j)(hd:s'.d=s.d)(C:s'.faint=s.faint):
    Em O sb w s' ((w.alloc (.cells #[] (ty i))).setCell ⟨sb,3+i.val,ab⟩ (.slice (aa ⟨w.heap.size,0,ab⟩) 0 0)) :=
  h.put i (AG.alloc _ w _) (by rw[I];exact Pi (fg w) (Nat.zero_le _)) (fun g p=>.inr (by have e:w.heap.size=g:=Option.some.inj p;omega)) o hd C
theorem Q.nums0(h:Q O sb va vb v s w):Em O sb w { s with nums:=[] } ((w.alloc (.cells #[] 2)).setCell ⟨sb,4,ab⟩ (.slice (aa ⟨w.heap.size,0,ab⟩) 0 0)) :=
  h.new 1 (s':={ s with nums:=[] }) rfl (fun j g=>by match j,g with|0,_=>rfl|2,_=>rfl|1,h=>exact absurd rfl h) rfl rfl
theorem Q.texts0(h:Q O sb va vb v s w):Em O sb w { s with texts:=[] } ((w.alloc (.cells #[] 9)).setCell ⟨sb,5,ab⟩ (.slice (aa ⟨w.heap.size,0,ab⟩) 0 0)) :=
  h.new 2 (s':={ s with texts:=[] }) rfl (fun j g=>by match j,g with|0,_=>rfl|1,_=>rfl|2,h=>exact absurd rfl h) rfl rfl
theorem Q.faint0(h:Q O sb va vb v s w):Em O sb w { s with faint:=false } (w.setCell ⟨sb,6,ab⟩ (.bool false)) :=
  h.cell (s':={ s with faint:=false }) 6 rfl (fun j=>by match j with|0=>rfl|1=>rfl|2=>rfl) h.sa h.se
theorem szS{w:World}{b k:Nat}{u:Value}:(w.setCell ⟨b,k,ab⟩ u).heap.size=w.heap.size:=by unfold World.setCell;simp
theorem szA{w:World}{o:Obj}:(w.alloc o).heap.size=w.heap.size+1:=by unfold World.alloc;simp
theorem vx{w:World}{o:Obj}{b k:Nat}{u:Value}(h:b<w.heap.size):(w.alloc o).setCell ⟨b,k,ab⟩ u=(w.setCell ⟨b,k,ab⟩ u).alloc o:=World.setCell_alloc_past o b k u h
theorem Q.reset(h:Q O sb va vb v s w):Em O sb w { s with nums:=[],texts:=[],faint:=false }
    (((((w.setCell ⟨sb,4,ab⟩ (.slice (aa ⟨w.heap.size,0,ab⟩) 0 0)).setCell ⟨sb,5,ab⟩ (.slice (aa ⟨w.heap.size+1,0,ab⟩) 0 0)).setCell ⟨sb,6,ab⟩ (.bool false)).alloc (.cells #[] 2)).alloc (.cells #[] 9)):=by
  have I:=h.lt;obtain⟨T,a1,P,x1,o,i,v1,C⟩:=h.nums0;obtain⟨R,a2,J,x2,j,g,v2,p⟩:=C.texts0;have e:=Em.then a1 P x1 (Em.then a2 J x2 p.faint0);rw[szS,szA,vx I,vx (by simp only[szS,szA];omega),vx (by simp only[szS,szA];omega),vx (by simp only[szS,szA];omega),vx (by simp only[szS,szA];omega)] at e;exact e
end
attribute [local irreducible] Calls in
theorem AKR{O:Nat->Prop}{sb:Nat}{s:FL}{w:World}{line:List UInt8}{r:Bool×FL}(h:At O sb s w)(p:zs s line=aa r):
    Calls Tryz.prog 20 #[.pointer (aa ⟨sb,0,ab⟩),.string ⟨line.toArray⟩] w fun e w'=>e = .returned (.bool r.1)∧Em O sb w r.2 w':=by
  obtain⟨I,hw,p⟩:=AN p;obtain⟨hk,p⟩:=AO p;simp only[baT,dtE] at hk;obtain⟨h0,hf⟩:=hk;have hf:I.length<1099511627776:=of_decide_eq_true hf;obtain⟨form,a8,p⟩:=AN p;obtain⟨va,vb,v,h⟩:=h;obtain⟨X,hX⟩:∃ x,I.getD 0 []=x:=⟨_,rfl⟩;rw[hX] at a8
  have b5:(form==[45]||((form.length:Int) != (I.length:Int)-1))=true->r=(false,s):=fun e=>by
    rw[if_pos (show (form==[45] || !((form.length:Int)==(I.length:Int)-1))=true from e)] at p;exact (AR p).symm
  have ao:=(show ¬ (form==[45]||((form.length:Int) != (I.length:Int)-1))=true->_ from fun e=>by
    rw[if_neg (show ¬ (form==[45] || !((form.length:Int)==(I.length:Int)-1))=true from e)] at p;exact p)
  have H:=a6 h;have HW:=a6 hw;have HF:=a6 a8;have HX:=a6 hX;have H0:=a6 h0;have HN:=a6 b5;have HY:=a6 ao;clear h hw a8 hX h0 p b5 ao;have f7:=H.out.lt
  go_enter Tryz.func20,Tryz.ntmps20
  go_wp2_with (first
    | (go_at_call 18;refine (pP (c:=32) HW.out H.out.lo H.out.gt).mono ?_;rintro e w1 ⟨u,rfl,b0,hu⟩;obtain⟨b,off,cap,rfl,hb,hO,bb,ex⟩:=words_of hu H0.out;have x0:w1.cell? ⟨b,off,ab⟩=aa (.string ⟨X.toArray⟩):=(bb 0 H0.out).trans (congrArg (fun z=>aa (strV z)) HX.out);have S1:=a6 b0;have be:=a6 (And.intro hb bb);have n0:=H0.out;clear b0 hu bb)
    | (go_at_call 44;refine (AGf HF.out (H.out.still S1.out).lo (H.out.still S1.out).gt).mono ?_;rintro e w2 ⟨rfl,P⟩;have ax:=be.out.2.same P be.out.1 id;have d0:b<w2.heap.size:=Nat.lt_of_lt_of_le hb P.size;have U:=a6 (And.intro d0 ax);have S2:=a6 (S1.out.trans P);obtain⟨-,-,-,-,c4,c5,c6,cf⟩:=(H.out.still (S1.out.trans P)).cells;have ef:=cf 4;have ec:=cf 5;have ea:=cf 6;have f4:sb<w2.heap.size:=(H.out.still (S1.out.trans P)).lt;clear P ax x0 cf be))
  all_goals first
    | (have hn:r=(false,s):=HN.out (by rw[Bool.or_eq_true];first|assumption|simp[*])
       subst hn
       go_ret
       exact⟨rfl,Em.still ⟨_,_,_,H.out⟩ S2.out⟩)
    | skip
  have ad:(form==[45])=false∧((form.length:Int) != (I.length:Int)-1)=false:=by assumption
  obtain⟨q,hq,p⟩:=AN (HY.out (by rw[Bool.or_eq_true,ad.1,ad.2];simp));have av:form.length+1=I.length:=by have:=ad.2;simp only[bne_eq_false_iff_eq] at this;omega
  have HR:=a6 p;have E0:=a6 (Q.reset (H.out.still S2.out));obtain⟨w3,bv⟩:∃ x,x=(((((w2.setCell ⟨sb,4,ab⟩ (.slice (aa ⟨w2.heap.size,0,ab⟩) 0 0)).setCell ⟨sb,5,ab⟩ (.slice (aa ⟨w2.heap.size+1,0,ab⟩) 0 0)).setCell ⟨sb,6,ab⟩ (.bool false)).alloc (.cells #[] 2)).alloc (.cells #[] 9)):=⟨_,rfl⟩;rw[← bv] at E0 ⊢;have HQ:=a6 hq;obtain⟨n,hn⟩:∃ n,n=form.length:=⟨_,rfl⟩;have HL:=a6 av;have C:=a6 hn;clear HY HN ad p hq c4 c5 c6 ef ec ea bv av
  go_loopw [7] (fun i wr=>∃ (j:Nat) (sj:FL),j<=n∧i = .int .i64 j∧Hid (Em O sb w2 sj wr)∧Hid (Ki (form.drop j) (I.drop (j+1)) sj=aa q)) (fun i _=>n-(intOf i).toNat)
  case atStart=>exact⟨0,_,Nat.zero_le _,rfl,E0,by simpa using HQ⟩
  case round=>
    obtain⟨j,sj,hj,rfl,o,hq⟩:=hrel;obtain⟨O1,a1,b1,x1,h1⟩:=o.out;have A1:=a6 a1;have B1:=a6 b1;have X1:=a6 x1;have H1:=a6 h1;have d4:¬ O1 b:=fun c=>(b1 b c).elim hO (by have:=U.out.1;omega)
    by_cases dz:j<n
    · have g:=hq.out;rw[Rw (l:=form) (by rw[← C.out];exact dz),Rw (l:=I) (j:=j+1) (by have:=HL.out;rw[← C.out] at this;omega),Ki] at g;obtain⟨R,g⟩:=AO g;have R:=of_decide_eq_true R;obtain⟨⟨ok,s2⟩,ac,g⟩:=AN g;have x0:=x1.cell hO (U.out.2 (j+1) (by have:=HL.out;rw[← C.out] at this;omega));obtain⟨Y,hY⟩:∃ y,I.getD (j+1) default=y:=⟨_,rfl⟩;obtain⟨F,hF⟩:∃ y,form.getD j default=y:=⟨_,rfl⟩;rw[hY] at x0 ac R;rw[hF] at ac;have ej:=a6 R;have el:=a6 ac;have cl:=a6 g;have j0:(0:Int)<=(j:Int):=by omega
      have j1:(j:Int)<(form.length:Int):=by have:=C.out;omega
      have k0:(0:Int)<=(j:Int)+1:=by omega
      have k1:(j:Int)+1<(I.length:Int):=by have:=HL.out;have:=C.out;omega
      have k2:i64.wrap ((j:Int)+1)=(j:Int)+1:=Z1 (by omega);have x0:wr.cell? ⟨b,off+(j+1),ab⟩=aa (.string ⟨Y.toArray⟩):=x0;clear a1 b1 x1 h1 R ac g hq o hY;have a7:j<form.length:=by have:=C.out;omega
      have b7:j<(⟨form.toArray⟩:ByteArray).size:=by simpa[ByteArray.size] using a7
      have b8:(⟨form.toArray⟩:ByteArray)[j]'b7=F:=by
        rw[← hF,gdE,geE a7];rfl
      have cc:=a6 (show word sj ((⟨form.toArray⟩:ByteArray)[j]'b7) Y=aa (ok,s2) from b8.symm▸el.out);clear hF b8 a7
      go_wp2
      go_region_held3 (fun w'=>w'.cell? ⟨b,off+(j+1),ab⟩=aa (.string ⟨Y.toArray⟩)) (with_reducible first|exact aj.out|exact dr x0) (first
        | (go_at_call 45;refine (AFU (H1.out.still (AG.drew _ _)) ej.out cc.out).mono ?_;rintro e w4 ⟨rfl,O2,a2,b2,x2,h2⟩;have A2:=a6 a2;have B2:=a6 b2;have X2:=a6 x2;have H2:=a6 h2;have aj:=a6 (x2.cell d4 (dr x0));clear a2 b2 x2 h2))
      cases ok with
      | true=>
        go_wp2
        go_roundw
        case rel=>exact⟨j+1,by omega,by go_num,s2,a6 (Em.then A1.out B1.out X1.out (Em.behind (AG.drew _ _) ⟨O2,A2.out,B2.out,X2.out,H2.out⟩)),a6 (show Ki (form.drop (j+1)) (I.drop (j+1+1)) s2=aa q from cl.out)⟩
        case measure=>simp[intOf];omega
      | false=>
        obtain rfl:=AR (show aa (false,s2)=aa q from cl.out);obtain⟨⟨b3,s3⟩,au,p⟩:=AN (show (IF s2 7).bind (fun r=>aa (true,r.2))=aa r from HR.out);obtain rfl:=AR p;have cd:=a6 au;clear au p
        go_wp2_with (go_at_call 19;refine (GV H2.out cd.out).mono ?_;rintro e w5 ⟨rfl,b9⟩;have E5:=a6 b9;clear b9)
        go_ret
        exact⟨rfl,Em.behind S2.out (Em.then A1.out B1.out X1.out (Em.behind (AG.drew _ _) (Em.then A2.out B2.out X2.out E5.out)))⟩
    · obtain rfl:j=n:=by omega
      have g:=hq.out;rw[C.out,List.drop_length,Ki] at g;obtain rfl:=AR g;obtain⟨s9,T,p⟩:=AN (show (Up sj (I.getD 0 [])).bind (fun s=>aa (true,s))=aa r from HR.out);obtain rfl:=AR p;rw[HX.out] at T;have HC:=a6 T;have x0:wr.cell? ⟨b,off,ab⟩=aa (.string ⟨X.toArray⟩):=(x1.cell hO (U.out.2 0 H0.out)).trans (congrArg (fun z=>aa (strV z)) HX.out);have n0:=H0.out;clear hq g T p a1 b1 x1 h1
      go_wp2_with (first
      | (go_at_call 46;refine (AFb H1.out (by have z:=HC.out;unfold Up at z;simp only[*,bfT,↓reduceIte] at z;exact z)).mono ?_;rintro e w4 ⟨rfl,o⟩;have E4:=a6 o;clear o)
      | (go_at_call 47;refine (AKO H1.out (by have z:=HC.out;unfold Up at z;simp only[*,bfT,↓reduceIte] at z;exact z)).mono ?_;rintro e w4 ⟨rfl,o⟩;have E4:=a6 o;clear o)
      | (go_at_call 48;refine (AGU H1.out (by have z:=HC.out;unfold Up at z;simp only[*,bfT,↓reduceIte] at z;exact z)).mono ?_;rintro e w4 ⟨rfl,o⟩;have E4:=a6 o;clear o)
      | (go_at_call 51;refine (ABH H1.out (by have z:=HC.out;unfold Up at z;simp only[*,bfT,↓reduceIte] at z;exact z)).mono ?_;rintro e w4 ⟨rfl,o⟩;have E4:=a6 o;clear o)
      | (go_at_call 52;refine (AJj H1.out (by have z:=HC.out;unfold Up at z;simp only[*,bfT,↓reduceIte] at z;exact z)).mono ?_;rintro e w4 ⟨rfl,o⟩;have E4:=a6 o;clear o)
      | (go_at_call 53;refine (ABq H1.out (by have z:=HC.out;unfold Up at z;simp only[*,bfT,↓reduceIte] at z;exact z)).mono ?_;rintro e w4 ⟨rfl,o⟩;have E4:=a6 o;clear o))
      all_goals first
        | (go_ret
           exact⟨rfl,Em.behind S2.out (Em.then A1.out B1.out X1.out E4.out)⟩)
        | skip
      have z:=HC.out;unfold Up at z;simp only[*,bfT,↓reduceIte] at z;obtain⟨hk,z⟩:=AO z;obtain⟨y,hy,b4⟩:=AN z;have hk:2<=sj.nums.length:=of_decide_eq_true hk;obtain⟨f1,f0,v1,q1⟩:=H1.out;obtain⟨-,c1,-,-,c4,-,-,-⟩:=q1.cells;obtain⟨gn,cn,en,ln,a9⟩:=Rn q1 (by omega);rw[en] at c4;have m0:=a9 0 (by omega);have m1:=a9 1 (by omega);obtain⟨nn,b6⟩:∃ n,n=sj.nums.length:=⟨_,rfl⟩;obtain⟨N0,e0⟩:∃ x,sj.nums.getD 0 0=x:=⟨_,rfl⟩;obtain⟨N1,e1⟩:∃ x,sj.nums.getD 1 0=x:=⟨_,rfl⟩;rw[e0] at m0;rw[e1] at m1;rw[e0,e1] at hy;rw[← b6] at c4 hk;have i0:0<nn:=by omega
      have i1:(1:Int)<(nn:Int):=by omega
      have et:=a6 hy;have HS:=a6 b4;have Q1:=a6 q1;obtain⟨ae,me,ke,rfl⟩:=sl_of q1.se;clear z hy b4 e0 e1 b6 a9 en hk ln q1 x0 HC
      go_region_held3 (fun w'=>w'.cell? ⟨sb,1,ab⟩=aa (.slice ae me ke)∧w'.cell? ⟨sb,4,ab⟩=aa (.slice (aa ⟨gn,0,ab⟩) nn cn)∧w'.cell? ⟨gn,0,ab⟩=aa (.int .i64 N0)∧w'.cell? ⟨gn,1,ab⟩=aa (.int .i64 N1)) (with_reducible first|exact aj.out|exact⟨dr c1,dr c4,dr m0,dr m1⟩) (first
        | (go_at_call 49;refine (AAH et.out Q1.out (AG.drew _ _)).mono ?_;rintro e w4 ⟨pp,pc,rfl,J⟩;have aj:=a6 (show _∧_∧_∧_ from ⟨J.cell id c1,J.cell id c4,J.cell id m0,J.cell id m1⟩);have S4:=a6 J;clear J))
      clear c1 c4 m0 m1 aj
      go_wp2_with (go_at_call 50;refine (uv ⟨_,_,_,Q1.out.still S4.out⟩ HS.out).mono ?_;rintro e w5 ⟨rfl,o⟩;have E4:=a6 (Em.behind S4.out o);clear o)
      go_ret
      exact⟨rfl,Em.behind S2.out (Em.then A1.out B1.out X1.out E4.out)⟩
end Go.Proofs.YtegmpdmpgmpiaaaGreatDoor.l28
