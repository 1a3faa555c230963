/- The plain law of FnFaults. No condition. -/
import Derived.Test.YtfaenphcgfocnaaGreatDoorHPC
import Derived.Test.YtfaenphcgfocnaaGreatDoorHPD
import Derived.Test.YtfaenphcgfocnaaGreatDoorHPE
import Derived.Test.YtfaenphcgfocnaaGreatDoorHPF
namespace Go.Proofs.YtfaenphcgfocnaaGreatDoor
open Go Go.RowKit
set_option linter.unusedSimpArgs false
set_option linter.unusedVariables false
theorem cx {a:List AA} (h:a.length ≤ 1099511627776):Bl a a = some true:=by
 unfold Bl
 have e:(!((a.length:Int) == (a.length:Int))) = false:=by simp
 rw [e]
 simp only [Bool.false_eq_true,if_false]
 rw [Ek (step:=Cj a a) (fun i => true) a.length true (yes:=.inl ()) (no:=.inr false) (by simp) (fun i hi => by
  simp only [Cj,Int.ofNat_lt,hi,decide_true,if_true,Ak,AH,Int.toNat_natCast,Ar (show i < 9223372036854775807 by omega),beq_self_eq_true,Bool.and_self,Bool.not_true,Bool.false_eq_true,if_false]) (by simp [Cj])]
 rfl
theorem Xy {a:List Ac} (h:a.length ≤ 1099511627776):CX a a = some true:=by
 unfold CX
 have e:(!((a.length:Int) == (a.length:Int))) = false:=by simp
 rw [e]
 simp only [Bool.false_eq_true,if_false]
 rw [Ek (step:=DP a a) (fun i => true) a.length true (yes:=.inl ()) (no:=.inr false) (by simp) (fun i hi => by
  simp only [DP,Int.ofNat_lt,hi,decide_true,if_true,Ak,AH,Int.toNat_natCast,Ar (show i < 9223372036854775807 by omega),beq_self_eq_true,Bool.and_self,Bool.not_true,Bool.false_eq_true,if_false]) (by simp [DP])]
 rfl
theorem Yf {k:Int} (h0:-1 ≤ k) (h1:k ≤ 6):∃ r,EX k = some r ∧ CR k = some r:=by
 unfold EX CR
 rw [On,GC]
 simp only [Option.bind_some]
 by_cases h:1 ≤ k ∧ k ≤ 5
 ·obtain ⟨a,b⟩:=h
  have n1:EK = some Dc:=rfl
  have n2:CT = some Dc:=rfl
  have w:IntKind.i64.wrap (k - 1) = k - 1:=wrap_i64 (by omega) (by omega)
  have e:(k - 1).toNat < Dc.length:=by show _ < 5; omega
  simp only [a,b,decide_true,Bool.and_self,Bool.not_true,Bool.false_eq_true,if_false,n1,n2,Option.bind_some,w]
  rw [GA (by omega) (by show k - 1 < ((5:Nat):Int); omega),AH]
  exact ⟨_,rfl,rfl⟩
 ·have:(decide (1 ≤ k) && decide (k ≤ 5)) = false:=by
   rw [Bool.and_eq_false_iff]
   by_cases a:1 ≤ k
   ·right; simp; omega
   ·left; simp [a]
  rw [this]
  exact ⟨[],rfl,rfl⟩
theorem jr {c:UInt8} (h:Vm c = true):c ≠ 32:=by
 have:=Jv.1 h
 rintro rfl; simp at this
theorem mz (n:Int):(32:UInt8) ∉ Lib.itoa n:=by
 intro hc
 unfold Lib.itoa at hc
 split at hc
 ·rcases List.mem_cons.1 hc with h | hc
  ·exact absurd h (by decide)
  ·exact jr (List.all_eq_true.1 (Qw _) _ hc) rfl
 ·exact jr (List.all_eq_true.1 (Qw _) _ hc) rfl
theorem YZ {x:AJ} (hr:Yv x.Index):∃ t y b,Cn x = some t ∧ t.length ≤ 100 ∧ Dm t = some (y,b) ∧ b = !(t == []) ∧ (b = true → y = x):=by
 rw [MR hr]
 cases hg:FW 100 [x]
 ·refine ⟨[],⟨0,0⟩,false,rfl,by simp,?_,rfl,by simp⟩
  obtain ⟨y,b,e1,e2⟩:=NK (s:=[]) (by simp)
  rw [e2]
  have:EV [] = some (⟨0,0⟩,false):=by
   unfold EV
   rw [TB 32 (by simp)]
   rfl
  rw [this] at e1
  rw [← Option.some.inj e1]
 ·obtain ⟨k1,k2⟩:=MG hg (i:=0) (by simp)
  simp only [List.getD_cons_zero] at k1 k2
  obtain ⟨j,hj,hj5⟩:∃ j:Nat,x.Kind = ((j + 1:Nat):Int) ∧ j < 5:=⟨(x.Kind - 1).toNat,by omega,by omega⟩
  have e1:(x.Kind - 1).toNat = j:=by omega
  have hn:=TJ j hj5
  have hln:(Dc.getD j default).length ≤ 8:=by
   match j,hj5 with
   | 0,_ => decide
   | 1,_ => decide
   | 2,_ => decide
   | 3,_ => decide
   | 4,_ => decide
  have hil:=XT hr
  have hix:(0 ≤ x.Index) ∧ x.Index ≤ 99:=by
   unfold FW at hg
   have:=KR hg (i:=0) (by simp)
   simp only [okF,Bool.and_eq_true,decide_eq_true_eq,List.getD_cons_zero] at this
   omega
  have hfree:(32:UInt8) ∉ Lib.itoa x.Index:=mz _
  have ht:Lib.itoa x.Index ++ [32] ++ Dc.getD j default = Lib.itoa x.Index ++ 32 :: Dc.getD j default:=by simp
  refine ⟨Lib.itoa x.Index ++ [32] ++ Dc.getD j default,x,true,by rw [if_pos rfl,e1],by simp only [List.length_append,List.length_cons,List.length_nil]; omega,?_,?_,fun _ => rfl⟩
  ·have hrd:Dl (Lib.itoa x.Index) = (x.Index,true):=kW (by omega) (by omega)
   have hp:LA Dc (Dc.getD j default) = (j:Int):=by
    match j,hj5 with
    | 0,_ => decide
    | 1,_ => decide
    | 2,_ => decide
    | 3,_ => decide
    | 4,_ => decide
   have w:IntKind.i64.wrap ((j:Int) + 1) = ((j + 1:Nat):Int):=Ar (by omega)
   have hz:(((j + 1:Nat):Int) == 0) = false:=by rw [beq_eq_false_iff_ne]; omega
   have names2:CT = some Dc:=rfl
   have hx:(⟨x.Index,((j + 1:Nat):Int)⟩:AJ) = x:=by rw [← hj]
   unfold Dm
   rw [eV (by simp only [List.length_append,List.length_cons,List.length_nil]; omega)]
   rw [ht,ju hfree]
   simp only [Option.bind_some,Se (show (Lib.itoa x.Index).length ≤ 1048576 by omega),hrd,names2,Yd (l:=Dc) (by decide),hp,w,hx,hz,MR hr,hg,e1,if_true]
   rw [← ht]
   simp only [Bool.not_true,Bool.or_self,Option.isSome_some,Option.getD_some,Bool.or_true,AH,beq_self_eq_true,Bool.false_eq_true,if_false]
  ·have:((Lib.itoa x.Index ++ [32] ++ Dc.getD j default) == ([]:List UInt8)) = false:=by rw [beq_eq_false_iff_ne]; simp
   rw [this]; rfl
theorem gn {c:List UInt8}:JW c = some true:=by
 unfold JW Lx
 simp only [Option.bind_some]
 by_cases hc:4096 < (c.length:Int)
 ·simp [hc]
 have hc':c.length ≤ 1099511627776:=by omega
 simp only [hc,decide_false,Bool.false_eq_true,if_false]
 obtain ⟨l,s,o,m,d1,hl,hs,ho⟩:=dE hc'
 obtain ⟨a,f,d2,ha,hf⟩:=dD hc'
 obtain ⟨k,d3,k0,k1⟩:=Sv hc'
 obtain ⟨t,d4,t1,t2⟩:=Su hc'
 obtain ⟨r,q,hr,a1,a2,hq⟩:=vJ (l:=l) (s:=s) (o:=o) (by omega) (by omega) (by omega) m
 obtain ⟨r2,q2,hr2,b1,b2⟩:=OC (l:=a) (f:=f) (by omega) (by omega)
 obtain ⟨r3,q3,hr3,c1,c2⟩:=Ss (l:=a) (f:=f) (by omega) (by omega)
 obtain ⟨r4,q4,e1,e2⟩:=PF (l:=a) (f:=f) (by omega) (by omega)
 obtain ⟨r5,f1,f2⟩:=Yf k0 k1
 obtain ⟨r6,g1,g2⟩:=Ye t1 t2
 obtain ⟨tx,y,b,g3,htx,g4,hb,hy⟩:=YZ t1
 have htr:tx = r6:=by rw [g2] at g3; exact (Option.some.inj g3).symm
 subst htr
 obtain ⟨w,d5,hw⟩:∃ w,EY c = some w ∧ w.length ≤ 1000:=by
  unfold EY
  rw [RZ,Option.bind_some,d4,Option.bind_some,g1,Option.bind_some]
  obtain ⟨b,s1,e1,h1⟩:=FU (m:=10000) ((LL hc').le (by omega)) (n:=3) (by omega)
  rw [e1,Option.bind_some]
  cases b
  ·exact ⟨_,rfl,by omega⟩
  ·obtain ⟨w,s2,e2,hw⟩:=eH (m:=9000) (h1.le (by omega)) (t:=tx) (by omega)
   simp only [if_true]
   rw [e2]
   exact ⟨_,rfl,by show w.length ≤ 1000; omega⟩
 obtain ⟨u,v,h1,h2⟩:=NK (s:=w) (by omega)
 have hyb:(b && !((y.Index == t.Index) && (y.Kind == t.Kind))) = false:=by
  cases b
  ·rfl
  ·rw [hy rfl]; simp
 simp only [d1,d2,d3,d4,d5,a1,a2,b1,b2,c1,c2,e1,e2,f1,f2,g1,g2,g4,h1,h2,Option.bind_some,cx (show r2.length ≤ 1099511627776 by omega),Xy (show r3.length ≤ 1099511627776 by omega),beq_self_eq_true,Bool.not_true,Bool.or_self,Bool.or_false,Bool.false_or,Option.isSome_some,Option.getD_some,Bool.or_true,Bool.not_false,AH,Bool.and_self,hb.symm,hyb,Bool.false_eq_true,if_false]
 rw [Ek (step:=EQ l s o m r q r) (fun i => true) r.length true (yes:=.inl ()) (no:=.inr false) (by simp) (fun i hi => by
  simp only [EQ,Int.ofNat_lt,hi,decide_true,if_true,Ak,AH,Int.toNat_natCast,Ar (show i < 9223372036854775807 by omega),beq_self_eq_true,Bool.and_self,Bool.not_true,Bool.false_eq_true,if_false]) (by simp [EQ])]
 simp only [if_true,Option.bind_some]
 by_cases h0:q = 0
 ·obtain ⟨er,hg,hn⟩:=hq h0
  subst h0
  simp only [beq_self_eq_true,Bool.not_true,Bool.false_eq_true,if_false]
  have hgE:CZ l = true:=by rw [Bool.and_eq_true] at hg; exact hg.1
  have h100:l.length ≤ 100:=by rw [Bool.and_eq_true,decide_eq_true_eq] at hg; exact hg.2
  rw [vI (by omega) (by omega) hg (by rw [er]; exact iq l s o m),Option.bind_some]
  simp only
  rw [hn _ (iM hgE _) (Nat.le_trans (Oq _ _ _) h100),Option.bind_some]
  rw [iU hgE s o m _ (by rw [er])]
  rfl
 ·have:(!(q == 0)) = true:=by simpa using h0
  rw [this]; rfl
end Go.Proofs.YtfaenphcgfocnaaGreatDoor
