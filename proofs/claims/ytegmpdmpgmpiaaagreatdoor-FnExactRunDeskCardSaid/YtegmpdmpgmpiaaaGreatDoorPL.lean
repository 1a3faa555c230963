/- Lemmas and walks, several texts in one. No condition. -/
import Derived.Test.YtegmpdmpgmpiaaaGreatDoorPK
import Derived.Test.YtegmpdmpgmpiaaaGreatDoorPD
open Go.Lib renaming hid->aa
open List renaming map->ae,length_take->a'
set_option linter.defProp false
set_option linter.unusedSimpArgs false
set_option linter.unusedVariables false
set_option maxRecDepth 100000
set_option maxHeartbeats 8000000
open Go.IntKind (i64 u64)
namespace Go.Proofs.YtegmpdmpgmpiaaaGreatDoor.l28
open Go Go.RowKit Go.Proofs.YtegmpdmpgmpiaaaGreatDoor Go.Proofs.YtegmpdmpgmpiaaaGreatDoor.plot Go.Proofs.YtegmpdmpgmpiaaaGreatDoor.rdc
theorem vS{w:World}{u:Value}{l:List (List UInt8)}(h:Mr 0 w u l):VR (fun _=>False) w u (.sl 1 (ae AV.str l)):=by
  have I:(ae AV.str l).length=l.length:=by simp
  have o:∀ k,k<l.length->(ae AV.str l).getD k .any = .str (l.getD k default):=fun k p=>by simp[gdE,p]
  have C:∀ k,k<(ae AV.str l).length->((ae AV.str l).getD k .any).cells.length=1∧((ae AV.str l).getD k .any).atoms=true:=fun k p=>by
    rw[o k (by omega)];exact⟨rfl,rfl⟩
  rcases h.2 with⟨rfl,e⟩|⟨g,cap,T,rfl,h1,h2,P,U⟩
  · have R:l=[]:=List.length_eq_zero_iff.1 e;subst R;exact .sl 0 0 (fun _ _=>.bool false) rfl (Nat.le_refl _) (Nat.le_refl _) (fun c=>absurd c (by simp)) C (fun i j hi=>absurd hi (by simp)) (fun i j hi=>absurd hi (by simp))
  · refine .sl g 0 (fun i _=>strV (l.getD i default)) I.symm P (Nat.le_refl _) (fun _=>⟨rfl,id⟩) C (fun i j hi J=>?_) (fun i j hi J=>?_)
    · obtain rfl:j=0:=by omega
      rw[Nat.mul_one,Nat.add_zero,Nat.zero_add,Mz h (i:=i) (by omega),Kk,gdE,List.getElem?_map,gdE,geE (by omega)];rfl
    · obtain rfl:j=0:=by omega
      rw[o i (by omega)];exact .str
theorem AJZ{d:Bp}{w:World}(h:Jl=some d)(C:GT (fun _=>False) w):Calls Tryz.prog 17 #[] w fun e o=>∃ i g,e = .returned (.agg #[i,g,.string ⟨d.Log.toArray⟩])∧AG (fun _=>False) w o∧VR (fun _=>False) o i (.sl 5 (ae Ao d.Stars))∧VR (fun _=>False) o g (.sl 5 (ae AC d.Estimates)) :=
  (MW s_183.s Tryz.func17 rfl (by decide +kernel) (args:=[]) (vargs:=#[]) rfl (by rw[AKj];rfl) rfl (fun j p=>absurd p (by simp)) C (AIQ h)).mono fun e w' ⟨u,R,h2,P⟩=>by
    obtain⟨i,g,rfl,J,I⟩:=Zf (d:=d) P;exact⟨i,g,R,h2,J,I⟩
theorem pi{l:List (List UInt8)}{y:List UInt8}{u:Value}{w:World}(h:GE l=some y)(i:Mr 0 w u l)(j:GT (fun _=>False) w):Calls Tryz.prog 22 #[u] w fun e g=>e = .returned (.string ⟨y.toArray⟩)∧AG (fun _=>False) w g :=
  (MW s_185.s Tryz.func22 rfl (by decide +kernel) (args:=[.sl 1 (ae AV.str l)]) (vargs:=#[u]) rfl (by rw[AKh];rfl) rfl (Xr (vS i)) j (AIO h)).mono fun e w' ⟨u,p,h2,o⟩=>by cases o;exact⟨p,h2⟩
theorem Em.below{O:Nat->Prop}{sb:Nat}{i w w':World}{s:FL}(g:Below i.heap.size i w)(o:∀ b,O b->i.heap.size<=b)(h:Em O sb w s w'):Below i.heap.size i w':=by
  obtain⟨p,a,b,x,q⟩:=h;exact⟨x.os.trans g.os,x.tape.trans g.tape,x.output.trans g.output,Nat.le_trans g.size x.size,fun k j=>(x.block k (Nat.lt_of_lt_of_le j g.size) (fun c=>by have:=o k c;omega)).trans (g.block k j)⟩
theorem AGc{d:Bp}{o g:Value}{w:World}(C:GT (fun _=>False) w)(I:VR (fun _=>False) w o (.sl 5 (ae Ao d.Stars)))(p:VR (fun _=>False) w g (.sl 5 (ae AC d.Estimates))):
    Q (fun b=>b=w.heap.size) w.heap.size o g (fun _=>.slice none 0 0) ⟨d,[],[],[],false⟩ (w.alloc (.cells #[o,g,.string ⟨d.Log.toArray⟩,.slice none 0 0,.slice none 0 0,.slice none 0 0,.bool false] 46)):=by
  have hs:=AG.alloc (fun _=>False) w (.cells #[o,g,.string ⟨d.Log.toArray⟩,.slice none 0 0,.slice none 0 0,.slice none 0 0,.bool false] 46);refine⟨heap_alloc_new w _,fun i=>?_,fun i j _ b h=>(by cases h),fun i b h=>(by cases h),rfl,I.mono hs fun b p c=>(by omega),p.mono hs fun b p c=>(by omega),fun b c=>by rw[c];simp,C.mono hs fun b p c=>(by omega)⟩
  match i with
  | 0=>exact World.ownsRow_nil _ _ _ _
  | 1=>exact World.ownsRow_nil _ _ _ _
  | 2=>exact World.ownsRow_nil _ _ _ _
theorem rowO{O:Nat->Prop}{sb:Nat}{i g:Value}{v:Fin 3->Value}{s:FL}{w:World}(h:Q O sb i g v s w):Mr 0 w (v 0) s.out:=by
  have:=h.row 0;simpa[xs,Kk,Mr,ty] using this
theorem wA{O:Nat->Prop}{sb:Nat}{s:FL}{w:World}(h:At O sb s w):∃ a n c,w.cell? ⟨sb,3,none⟩=some (.slice a n c)∧Mr 0 w (.slice a n c) s.out∧GT (fun _=>False) w:=by
  obtain⟨p,o,v,q⟩:=h;obtain⟨-,-,-,c3,-,-,-,-⟩:=q.cells;have i:=rowO q
  obtain⟨a,n,c,e⟩:∃ a n c,v 0 = .slice a n c:=by
    rcases i.2 with⟨e,_⟩|⟨g,cap,j,e,_⟩
    · exact⟨_,_,_,e⟩
    · exact⟨_,_,_,e⟩
  rw[e] at c3 i;exact⟨a,n,c,c3,i,q.gt.mono (AG.refl _ _) fun _ _ c=>c.elim⟩
attribute [local irreducible] Calls in
theorem run_c{text r:List UInt8}{w:World}(U:runDesk text=some r)(hg:GT (fun _=>False) w):
    Calls Tryz.prog 5 #[.string ⟨text.toArray⟩] w (rund.RunEnd r w):=by
  obtain⟨d,hd,U⟩:=AN U;obtain⟨l,hl,U⟩:=AN U;obtain⟨hk,U⟩:=AO U;simp only[baT,dtE] at hk;obtain⟨h0,hf⟩:=hk;have hf:l.length<1099511627776:=of_decide_eq_true hf;obtain⟨s,hs,U⟩:=AN U;have HD:=aa hd;have HL:=aa hl;have HS:=aa hs;have HR:=aa U;have HG:=aa hg;clear hd hl hs U hg
  go_enter Tryz.func5,Tryz.ntmps5
  obtain⟨m,hm⟩:∃ m,l.length=m+1:=⟨l.length-1,by omega⟩;have e5:m<1099511627776:=by omega
  obtain⟨X,hX⟩:∃ x,l.getD m []=x:=⟨_,rfl⟩
  go_wp2_with (first
    | (go_at_call 17;refine (AJZ HD.out HG.out).mono ?_;rintro e w1 ⟨va,vb,rfl,a8,ao,aj⟩;obtain⟨a1,n1,c1,rfl⟩:=sl_of ao;obtain⟨a2,n2,c2,rfl⟩:=sl_of aj;have b9:=aa ao;have b8:=aa aj;have S1:=aa a8;clear ao aj a8)
    | (go_at_call 18;have hq:=AGc (d:=d) (HG.out.mono (Tv S1.out) fun _ _ c=>c) b9.out b8.out;refine (pP (c:=10) HL.out hq.lo hq.gt).mono ?_;rintro e w2 ⟨u,rfl,au,hu⟩;obtain⟨b,off,cap,a6,hb,hO,p,ej⟩:=words_of hu h0;rw[hm] at a6;subst a6;have x0:w2.cell? ⟨b,off+m,none⟩=some (.string ⟨X.toArray⟩):=(p m (by omega)).trans (congrArg (fun z=>some (strV z)) hX);have HQ:=aa (hq.still au);have HB:=aa au;have C:=aa (And.intro hb (And.intro hO p));clear hq au hu p))
  all_goals
    have SB:=aa (show Below w.heap.size w w2 from CE ((S1.out.trans (AG.alloc _ w1 _)).trans HB.out));have bo:w.heap.size<=w1.heap.size:=S1.out.size;obtain⟨sb,a7⟩:∃ x,x=w1.heap.size:=⟨_,rfl⟩;have p:=C.out.2.2;have e7:=C.out.1;have b2:=C.out.2.1
    have b0:(l.getD (l.length-1) []==[])=X.isEmpty:=by
      rw[hm,Nat.add_sub_cancel,hX];cases X<;>rfl
    have o:=HS.out;rw[b0] at o;rw[← a7] at HQ bo b2 ⊢;clear C HB S1 b9 b8 HL HD HS b0 x0
  all_goals first
    | (have hx:X.isEmpty=true:=by assumption
       obtain⟨L,n,hn,hL,T,av⟩:∃ (L:List (List UInt8)) (n:Nat),n=m∧n=L.length∧Li w2 b off L∧l28.runL 0 L ⟨d,[],[],[],false⟩=some s:=by
         refine⟨l.take (l.length-1),m,rfl,by rw[a'];omega,fun k hk=>?_,by rw[if_pos hx] at o;exact o⟩;have c8:k<l.length-1:=by rw[a'] at hk;omega
         rw[p k (by omega),gdE,gdE,List.getElem?_take_of_lt c8]
       rw[← hn,hx];clear hx)
    | (have hx:X.isEmpty=false:=by assumption
       obtain⟨L,n,hn,hL,T,av⟩:∃ (L:List (List UInt8)) (n:Nat),n=m+1∧n=L.length∧Li w2 b off L∧l28.runL 0 L ⟨d,[],[],[],false⟩=some s:=by
         refine⟨l,m+1,rfl,hm.symm,p,by rw[if_neg (by rw[hx];exact Bool.false_ne_true)] at o;exact o⟩
       rw[← hn,hx];clear hx)
  all_goals
    have e4:n<2000000000000:=by omega
    have C:=aa T;have cb:=aa av;have cf:=aa hL;have E0:=aa (Em.refl (w:=w2) ⟨_,_,_,HQ.out⟩);have b3:∀ (w':World) (s':FL),Em (fun b=>b=sb) sb w2 s' w'->Below w.heap.size w w':=fun _ _ h=>Em.below SB.out (fun b hb=>by rw[hb];exact bo) h
    have ab:=aa b3;clear p T av o hL HQ hX hn b3 a7
    go_loopw [5] (fun i wr=>∃ (j:Nat) (sj:FL),j<=n∧i = .int .i64 j∧Hid (Em (fun b=>b=sb) sb w2 sj wr)∧Hid (l28.runL j (L.drop j) sj=some s)) (fun i _=>n-(intOf i).toNat)
    case atStart=>exact⟨0,_,Nat.zero_le _,rfl,E0,by simpa using cb⟩
    case round=>
      obtain⟨j,sj,hj,rfl,he,hq⟩:=hrel;obtain⟨O1,a1,b1,x1,h1⟩:=he.out;have A1:=aa a1;have B1:=aa b1;have X1:=aa x1;have H1:=aa h1
      by_cases e6:j<n
      · have g:=hq.out;have be:j<L.length:=by have:=cf.out;omega
        rw[Rw (l:=L) be,l28.runL] at g
        by_cases b4:60<=j
        · rw[if_pos b4] at g;obtain⟨⟨bb,s5⟩,ad,g⟩:=AN g;obtain rfl:=AR (show some s5=some s from g);have cc:=aa ad;have df:(60:Int)<=(j:Int):=by omega
          have gj:(j:Int)<(n:Int):=by omega
          clear a1 b1 x1 h1 g ad he hq
          go_wp2_with (first
            | (go_at_call 19;refine (GV H1.out cc.out).mono ?_;rintro e w5 ⟨rfl,R⟩;have E5:=aa (Em.then A1.out B1.out X1.out R);obtain⟨O5,-,-,-,h5⟩:=R;obtain⟨qa,qn,qc,c3,J,P⟩:=wA h5;have ay:=aa J;have a0:=aa P;clear h5 J P)
            | (go_at_call 22;refine (pi HR.out ay.out a0.out).mono ?_;rintro e w6 ⟨rfl,I⟩;have S6:=aa I;clear I))
          go_ret
          exact⟨rfl,(ab.out _ _ E5.out).trans ((CE S6.out).mono (ab.out _ _ E5.out).size)⟩
        · rw[if_neg b4] at g;obtain⟨⟨ok,s5⟩,ax,g⟩:=AN g;obtain⟨Y,hY⟩:∃ y,L.getD j default=y:=⟨_,rfl⟩;have x0:=x1.cell b2 (C.out j be);rw[hY] at x0 ax;have x0:wr.cell? ⟨b,off+j,none⟩=some (.string ⟨Y.toArray⟩):=x0;have cl:=aa ax;have cd:=aa g;have df:¬ (60:Int)<=(j:Int):=by omega
          have gj:(j:Int)<(n:Int):=by omega
          have fa:(0:Int)<=(j:Int):=by omega
          have gw:i64.wrap ((j:Int)+1)=(j:Int)+1:=Z1 (by omega);clear a1 b1 x1 h1 g ax he hq hY;cases ok with
          | true=>
            go_wp2_with (go_at_call 20;refine (AKR H1.out cl.out).mono ?_;rintro e w5 ⟨rfl,R⟩;have E5:=aa (Em.then A1.out B1.out X1.out R);clear R)
            go_roundw
            case rel=>exact⟨j+1,s5,by omega,by go_num,E5,aa (show l28.runL (j+1) (L.drop (j+1)) s5=some s from cd.out)⟩
            case measure=>simp[intOf];omega
          | false=>
            obtain⟨s6,ac,a9⟩:=AN (show (Mv s5 [63]).bind (fun s=>l28.runL (j+1) (L.drop (j+1)) s)=some s from cd.out);have ca:=aa ac;have dz:=aa a9;clear ac a9
            go_wp2_with (first
              | (go_at_call 20;refine (AKR H1.out cl.out).mono ?_;rintro e w5 ⟨rfl,O5,a5,b5,x5,h5⟩;have A5:=aa a5;have B5:=aa b5;have X5:=aa x5;have H5:=aa h5;clear a5 b5 x5 h5)
              | (go_at_call 21;refine (Wn H5.out ca.out).mono ?_;rintro e w6 ⟨rfl,bs⟩;have E6:=aa (Em.then A1.out B1.out X1.out (Em.then A5.out B5.out X5.out bs));clear bs))
            go_roundw
            case rel=>exact⟨j+1,s6,by omega,by go_num,E6,dz⟩
            case measure=>simp[intOf];omega
      · obtain rfl:j=n:=by omega
        have g:=hq.out;rw[cf.out,List.drop_length,l28.runL] at g;obtain rfl:=AR g;obtain⟨qa,qn,qc,c3,J,P⟩:=wA h1;have ay:=aa J;have a0:=aa P;clear J P g a1 b1 x1 h1
        go_wp2_with (go_at_call 22;refine (pi HR.out ay.out a0.out).mono ?_;rintro e w6 ⟨rfl,I⟩;have S6:=aa I;clear I)
        go_ret
        exact⟨rfl,(ab.out _ _ he.out).trans ((CE S6.out).mono (ab.out _ _ he.out).size)⟩
end Go.Proofs.YtegmpdmpgmpiaaaGreatDoor.l28
namespace Go.Proofs.YtegmpdmpgmpiaaaGreatDoor
open Go Go.RowKit
noncomputable abbrev Hh (text:List UInt8):Option (List UInt8):=l28.runDesk text
noncomputable def vF:List AV->Rs
 | [.str l]=>match Hh l with
  | some y=>⟨true,.str y,[.any]⟩
  | none=>Rs.bad
 | _=>Rs.bad
noncomputable def Gd:Ar:=⟨[.bor],true,vF⟩
theorem Mm{text g:List UInt8}(h:Hh text=some g):Gd.F [.str text]=⟨true,.str g,[.any]⟩:=by
 show (match Hh text with
  | some y=>(⟨true,.str y,[.any]⟩:Rs)
  | none=>Rs.bad)=_
 rw[h]
theorem bA:Gd.modes=[.bor]:=rfl
theorem Xa:Gd.flat=true:=rfl
attribute [go_sem] bA Xa
theorem sG{args:List AV}(h:(vF args).ok=true):∃ l y,Hh l=some y∧args=[.str l]:=by
 unfold vF at h;split at h
 ·rename_i l;split at h
  ·rename_i y g;exact⟨l,y,g,rfl⟩
  ·cases h
 ·cases h
theorem YU:CF Tryz.prog 5 Gd:=by
 refine⟨fun _=>rfl,fun F T w args vargs I o g p=>?_⟩;obtain⟨l,y,j,rfl⟩:=sG p;refine⟨fun _=>by rw[Mm j];rfl,?_⟩;have C:=GD g (i:=0) (by simp);rw[NG o];generalize vargs.getD 0 undef=v at C;cases C
 have J:=Go.Proofs.enters_of (P:=Tryz.prog) Tryz.func5 (by kernel_rfl) rfl;unfold DD;rw[J,Mm j];refine (l28.run_c j (g.tab.mono (AG.refl _ _) fun _ _ c=>c.elim)).mono ?_;rintro U w' ⟨rfl,R⟩;exact⟨_,T,[],id,rfl,Kb (GU R) .str (fun i hi=>absurd hi.2 Bool.false_ne_true) (oY rfl)⟩
end Go.Proofs.YtegmpdmpgmpiaaaGreatDoor
