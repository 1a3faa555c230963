/- Plain lemmas, several texts in one. No condition. -/
import Derived.Test.YtfaenphcgfocnaaGreatDoorFAL
import Derived.Test.YtfaenphcgfocnaaGreatDoorHPA
import Derived.Test.YtfaenphcgfocnaaGreatDoorEngSH
import Derived.Test.YtfaenphcgfocnaaGreatDoorHPC
import Derived.Test.YtfaenphcgfocnaaGreatDoorEngSI
import Derived.Test.YtfaenphcgfocnaaGreatDoorEngTD
namespace Go.Proofs.YtfaenphcgfocnaaGreatDoor
open Go Go.RowKit
set_option linter.unusedSimpArgs false
set_option linter.unusedVariables false
theorem Lu:∀ (k u:Nat),u < 10 ^ (k + 1) → Lib.nDigits u ≤ k + 1
 | 0,u,h => by rw [Lib.nDigits_small (by simpa using h)]; omega
 | k + 1,u,h => by
  by_cases c:u < 10
  ·rw [Lib.nDigits_small c]; omega
  ·rw [Lib.nDigits_big c]
   have:=Lu k (u / 10) (by rw [Nat.pow_succ] at h; omega)
   omega
theorem JY {u:Nat} (h:u ≤ 9223372036854775808):(Lib.decDigits u).length ≤ 20:=by
 rw [Lib.decDigits_length]
 exact Lu 19 u (by omega)
theorem MK (u:Nat):1 ≤ (Lib.decDigits u).length:=by
 rw [Lib.decDigits_length]; exact Lib.nDigits_pos u
theorem XT {n:Int} (h:Yv n):(Lib.itoa n).length ≤ 21:=by
 obtain ⟨h1,h2⟩:=h
 unfold Lib.itoa
 split
 ·have:=JY (u:=n.natAbs) (by omega)
  simp; omega
 ·have:=JY (u:=n.toNat) (by omega)
  omega
theorem YF {d:Nat} (h:d < 10):MY (IntKind.u8.wrap (IntKind.i64.wrap (48 + (d:Int)))) = UInt8.ofNat (48 + d):=by
 have:d = 0 ∨ d = 1 ∨ d = 2 ∨ d = 3 ∨ d = 4 ∨ d = 5 ∨ d = 6 ∨ d = 7 ∨ d = 8 ∨ d = 9:=by omega
 rcases this with rfl | rfl | rfl | rfl | rfl | rfl | rfl | rfl | rfl | rfl <;> decide +kernel
def ACn (n:Int) (m:Nat) (s:List UInt8 × Int):Prop :=
 ∃ u:Nat,s.2 = (if n < 0 then -(u:Int) else (u:Int)) ∧ u ≤ m ∧ (if u = 0 then s.1 = Lib.decDigits m else Lib.decDigits m = Lib.decDigits u ++ s.1)
theorem uD {n:Int} {m:Nat} (hm:m ≤ 9223372036854775808) {out:List UInt8} {u:Nat} (hu:u ≤ m) (h0:u ≠ 0) (h:Lib.decDigits m = Lib.decDigits u ++ out) :
  Cl n (out,if n < 0 then -(u:Int) else (u:Int)) = some (.inl (UInt8.ofNat (48 + u % 10) :: out,if n < 0 then -((u / 10:Nat):Int) else ((u / 10:Nat):Int))) ∧
  (if u / 10 = 0 then UInt8.ofNat (48 + u % 10) :: out = Lib.decDigits m else Lib.decDigits m = Lib.decDigits (u / 10) ++ UInt8.ofNat (48 + u % 10) :: out):=by
 have hl:out.length ≤ 20:=by
  have:=JY hm
  rw [h,List.length_append] at this; omega
 constructor
 ·have t1:((u:Int)).tmod 10 = ((u % 10:Nat):Int):=by rw [Int.tmod_eq_emod_of_nonneg (by omega)]; omega
  have t2:((u:Int)).tdiv 10 = ((u / 10:Nat):Int):=by rw [Int.tdiv_eq_ediv_of_nonneg (by omega)]; omega
  have w:IntKind.i64.wrap ((u % 10:Nat):Int) = ((u % 10:Nat):Int):=wrap_i64 (by omega) (by omega)
  have ha:BW (([UInt8.ofNat (48 + u % 10)]:List UInt8).length + out.length) 1 = true:=Bf (by simp; omega)
  by_cases hn:n < 0
  ·have k0:((-(u:Int)) == 0) = false:=by rw [beq_eq_false_iff_ne]; omega
   have w2:IntKind.i64.wrap (-((u / 10:Nat):Int)) = -((u / 10:Nat):Int):=wrap_i64 (by omega) (by omega)
   simp only [Cl,hn,if_true,k0,Bool.not_false,Pp (show (10:Int) ≠ 0 by decide),AH,Int.neg_tmod,Int.neg_tdiv,t1,t2,w2]
   by_cases hd:u % 10 = 0
   ·have e:¬ (-(((u % 10:Nat)):Int) < 0):=by omega
    simp only [e,decide_false,Bool.false_eq_true,if_false]
    have e2:(-((u % 10:Nat):Int)) = ((u % 10:Nat):Int):=by omega
    rw [e2,YF (Nat.mod_lt _ (by omega)),ha,AH]; rfl
   ·have e:(-(((u % 10:Nat)):Int) < 0):=by omega
    have e2:(0 - -((u % 10:Nat):Int)) = ((u % 10:Nat):Int):=by omega
    simp only [e,decide_true,if_true,e2,w]
    rw [YF (Nat.mod_lt _ (by omega)),ha,AH]; rfl
  ·have k0:((u:Int) == 0) = false:=by rw [beq_eq_false_iff_ne]; omega
   have w2:IntKind.i64.wrap ((u / 10:Nat):Int) = ((u / 10:Nat):Int):=wrap_i64 (by omega) (by omega)
   have e:¬ ((((u % 10:Nat)):Int) < 0):=by omega
   simp only [Cl,hn,if_false,k0,Bool.not_false,if_true,Pp (show (10:Int) ≠ 0 by decide),AH,t1,t2,w2,e,decide_false,Bool.false_eq_true]
   rw [YF (Nat.mod_lt _ (by omega)),ha,AH]; rfl
 ·by_cases c:u < 10
  ·have e:u / 10 = 0:=by omega
   rw [if_pos e,h,Lib.decDigits_one c,Nat.mod_eq_of_lt c]; rfl
  ·have e:¬ u / 10 = 0:=by omega
   rw [if_neg e,h,Lib.decDigits,dif_neg c,List.append_assoc]; rfl
theorem SX {n:Int} (hr:Yv n):EL n = some (Lib.itoa n):=by
 obtain ⟨h1,h2⟩:=hr
 by_cases h0:n = 0
 ·subst h0
  unfold EL
  rw [Br (r:=([]:List UInt8)) (by simp [Cl])]
  simp [Lib.itoa,Lib.decDigits]
 ·obtain ⟨m,hm,hm0,hmn⟩:∃ m:Nat,m ≤ 9223372036854775808 ∧ m ≠ 0 ∧ n = (if n < 0 then -(m:Int) else (m:Int)):=by
   by_cases hn:n < 0
   ·exact ⟨n.natAbs,by omega,by omega,by rw [if_pos hn]; omega⟩
   ·exact ⟨n.toNat,by omega,by omega,by rw [if_neg hn]; omega⟩
  have hw:AL (Cl n) (([]:List UInt8),n) = some (Lib.decDigits m):=by
   obtain ⟨y,hy,hq⟩:=ES (step:=Cl n) (ACn n m) (fun y => y = Lib.decDigits m) (fun s => s.2.natAbs) (by
    rintro ⟨out,k⟩ ⟨u,hk,hu,hd⟩
    simp only at hk hd
    subst hk
    by_cases hu0:u = 0
    ·subst hu0
     right
     rw [if_pos rfl] at hd
     refine ⟨out,?_,hd⟩
     split <;> simp [Cl]
    ·left
     rw [if_neg hu0] at hd
     obtain ⟨e1,e2⟩:=uD (n:=n) hm hu hu0 hd
     refine ⟨_,e1,⟨u / 10,rfl,by omega,e2⟩,?_⟩
     show Int.natAbs (if n < 0 then _ else _) < Int.natAbs (if n < 0 then _ else _)
     split <;> omega) (s:=(([]:List UInt8),n)) ⟨m,hmn,Nat.le_refl _,by rw [if_neg hm0,List.append_nil]⟩
   rw [hy,hq]
  unfold EL
  rw [hw]
  have hl1:=MK m
  have hl2:=JY hm
  have e:(((Lib.decDigits m).length:Int) == 0) = false:=by rw [beq_eq_false_iff_ne]; omega
  simp only [Option.bind_some,e,Bool.false_eq_true,if_false]
  unfold Lib.itoa
  by_cases hn:n < 0
  ·rw [if_pos hn] at hmn
   have e2:n.natAbs = m:=by omega
   simp only [hn,decide_true,if_true,e2]
   rw [KP (by simp; omega),AH]; rfl
  ·rw [if_neg hn] at hmn
   have e2:n.toNat = m:=by omega
   simp [hn,e2]
theorem Yg {n:Int} (hr:Yv n):Ip n = some (Lib.itoa n):=by
 obtain ⟨h1,h2⟩:=hr
 unfold Ip Gd yB
 simp [h1,h2]
end Go.Proofs.YtfaenphcgfocnaaGreatDoor
namespace Go.Proofs.YtfaenphcgfocnaaGreatDoor
open Go Go.RowKit
set_option linter.unusedSimpArgs false
set_option linter.unusedVariables false
theorem gV:EK = CT:=id rfl
theorem Ye {x:AJ} (h1:Yv x.Index) (h2:Yv x.Kind):∃ r,EW x = some r ∧ Cn x = some r:=by
 unfold EW Cn
 rw [HI (c:=100) (by omega) (by omega) (by simp),Og (c:=100) (by omega) (by omega) (by simp)]
 simp only [Option.bind_some]
 cases hg:FW 100 [x]
 ·exact ⟨[],rfl,rfl⟩
 ·have hk:=MG hg (i:=0) (by simp)
  have e:([x]:List AJ).getD 0 default = x:=rfl
  rw [e] at hk
  obtain ⟨k1,k2⟩:=hk
  have hi:Ee x.Kind 1 5 = some true:=by rw [GC]; simp [k1,k2]
  have hl:=XT h1
  simp only [Bool.not_true,Bool.false_eq_true,if_false]
  unfold Jr CR
  rw [hi,gV,SX h1,Yg h1]
  unfold CT
  have w:IntKind.i64.wrap (x.Kind - 1) = x.Kind - 1:=wrap_i64 (by omega) (by omega)
  have c1:IJ (Lib.itoa x.Index).length ([32]:List UInt8).length = true:=KP (by simp; omega)
  simp only [Option.bind_some,Bool.not_true,Bool.false_eq_true,if_false,w,c1,AH]
  obtain ⟨k,hk,hk5⟩:∃ k:Nat,x.Kind - 1 = (k:Int) ∧ k < 5:=⟨(x.Kind - 1).toNat,by omega,by omega⟩
  rw [hk]
  have ix:BA (k:Int) ([([115,116,97,114]:List UInt8),([111,98,115,101,114,118,101,114]:List UInt8),([98,114,105,103,104,116]:List UInt8),([102,97,105,110,116]:List UInt8),([116,119,105,110]:List UInt8)]:List (List UInt8)).length = true:=by rw [Ak]; simp; omega
  have ln:(([([115,116,97,114]:List UInt8),([111,98,115,101,114,118,101,114]:List UInt8),([98,114,105,103,104,116]:List UInt8),([102,97,105,110,116]:List UInt8),([116,119,105,110]:List UInt8)]:List (List UInt8)).getD k default).length ≤ 8:=by
   have:k = 0 ∨ k = 1 ∨ k = 2 ∨ k = 3 ∨ k = 4:=by omega
   rcases this with rfl | rfl | rfl | rfl | rfl <;> decide
  rw [ix,Int.toNat_natCast,AH]
  simp only [Option.bind_some,ix,AH,Int.toNat_natCast]
  rw [KP (by simp only [List.length_append,List.length_cons,List.length_nil]; omega),AH]
  exact ⟨_,rfl,rfl⟩
end Go.Proofs.YtfaenphcgfocnaaGreatDoor
namespace Go.Proofs.YtfaenphcgfocnaaGreatDoor
open Go Go.RowKit
set_option linter.unusedSimpArgs false
set_option linter.unusedVariables false
def DB (c:UInt8):List UInt8 → List UInt8 → List (List UInt8)
 | acc,[] => [acc]
 | acc,x :: r => if x = c then acc :: DB c [] r else DB c (acc ++ [x]) r
def NS (c:UInt8) (s:List UInt8):List (List UInt8):=DB c [] s
theorem Mf {c:UInt8}:∀ {s acc:List UInt8},c ∉ s → DB c acc s = [acc ++ s]
 | [],acc,_ => by simp [DB]
 | x :: r,acc,h => by
  have hx:x ≠ c:=fun e => h (by simp [e])
  rw [DB,if_neg hx,Mf (fun hm => h (by simp [hm])),List.append_assoc]; rfl
theorem IM {c:UInt8}:∀ {a acc b:List UInt8},c ∉ a → DB c acc (a ++ c :: b) = (acc ++ a) :: DB c [] b
 | [],acc,b,_ => by simp [DB]
 | x :: r,acc,b,h => by
  have hx:x ≠ c:=fun e => h (by simp [e])
  rw [List.cons_append,DB,if_neg hx,IM (fun hm => h (by simp [hm])),List.append_assoc]; rfl
theorem Ln (c:UInt8):∀ s acc:List UInt8,1 ≤ (DB c acc s).length ∧ (DB c acc s).length ≤ s.length + 1
 | [],acc => by simp [DB]
 | x :: r,acc => by
  rw [DB]
  split
  ·have:=Ln c r []
   simp only [List.length_cons]; omega
  ·have:=Ln c r (acc ++ [x])
   simp only [List.length_cons]; omega
def AAY (c:UInt8):List (List UInt8) → List UInt8
 | [] => []
 | [a] => a
 | a :: b :: r => a ++ c :: AAY c (b :: r)
theorem LV (c:UInt8):∀ s:List UInt8,(Lib.index s [c] = -1 ∧ c ∉ s) ∨ ∃ a b,s = a ++ c :: b ∧ c ∉ a ∧ Lib.index s [c] = a.length
 | [] => .inl ⟨by simp [Lib.index],by simp⟩
 | x :: r => by
  unfold Lib.index
  by_cases e:x = c
  ·subst e
   exact .inr ⟨[],r,rfl,by simp,by simp⟩
  ·have e1:(List.isPrefixOf [c] (x :: r)) = false:=by
    simp only [List.isPrefixOf,Bool.and_true,beq_eq_false_iff_ne]; exact fun h => e h.symm
   rw [e1]
   rcases LV c r with ⟨h1,h2⟩ | ⟨a,b,rfl,h2,h3⟩
   ·exact .inl ⟨by simp [h1],by simp only [List.mem_cons,not_or]; exact ⟨fun h => e h.symm,h2⟩⟩
   ·refine .inr ⟨x :: a,b,rfl,by simp only [List.mem_cons,not_or]; exact ⟨fun h => e h.symm,h2⟩,?_⟩
    rw [h3]
    have:(((a.length:Int)) == -1) = false:=by rw [beq_eq_false_iff_ne]; omega
    simp [this]
theorem ACo {c:UInt8} {s:List UInt8} (h:c ∉ s):Lib.cut s [c] = (s,[],false):=by
 rcases LV c s with ⟨h1,_⟩ | ⟨a,b,rfl,_,_⟩
 ·unfold Lib.cut; rw [h1,if_neg (by decide)]
 ·exact absurd (by simp) h
theorem ju {c:UInt8} {a b:List UInt8} (h:c ∉ a):Lib.cut (a ++ c :: b) [c] = (a,b,true):=by
 rcases LV c (a ++ c :: b) with ⟨_,h2⟩ | ⟨a',b',e,h2,h3⟩
 ·exact absurd (by simp) h2
 ·have ha:a' = a ∧ b' = b:=by
   have s1:=IM (acc:=[]) (b:=b) h
   have s2:=IM (acc:=[]) (b:=b') h2
   rw [e,s2] at s1
   have:[] ++ a' = [] ++ a:=(List.cons.inj s1).1
   have hab:a' = a:=by simpa using this
   subst hab
   exact ⟨rfl,((List.cons.inj (List.append_cancel_left e)).2).symm⟩
  obtain ⟨rfl,rfl⟩:=ha
  unfold Lib.cut
  rw [h3,if_pos (by omega)]
  simp
theorem eV {c:UInt8} {s:List UInt8} (h:s.length < 4294967281):tn s [c] = some (Lib.cut s [c]):=by
 unfold tn; rw [if_pos h]
def Vm (c:UInt8):Bool:=decide (48 ≤ (c.toNat:Int)) && decide ((c.toNat:Int) ≤ 57)
theorem Jv {c:UInt8}:Vm c = true ↔ 48 ≤ c.toNat ∧ c.toNat ≤ 57:=by
 unfold Vm
 simp only [Bool.and_eq_true,decide_eq_true_eq]
 omega
def valF (n:Nat) (l:List UInt8):Nat:=l.foldl (fun n c => n * 10 + (c.toNat - 48)) n
theorem LJ (n:Nat):valF n [] = n:=by unfold valF; rw [List.foldl_nil]
theorem Jz (n:Nat) (c:UInt8) (r:List UInt8):valF n (c :: r) = valF (n * 10 + (c.toNat - 48)) r:=by unfold valF; rw [List.foldl_cons]
theorem NR {l:List UInt8}:∀ {n a:Nat},n < 10 ^ a → l.all Vm = true → valF n l < 10 ^ (a + l.length):=by
 induction l with
 | nil => intro n a h _; rw [LJ]; exact h
 | cons c r ih =>
  intro n a h hd
  simp only [List.all_cons,Bool.and_eq_true] at hd
  have hc:=Jv.1 hd.1
  have h2:n * 10 + (c.toNat - 48) < 10 ^ (a + 1):=by rw [Nat.pow_succ]; omega
  have:=ih h2 hd.2
  rw [Jz,List.length_cons]
  rwa [Nat.add_assoc,Nat.add_comm 1] at this
theorem HH {k:Nat} (h:k ≤ 18):(10:Nat) ^ k ≤ 1000000000000000000:=Nat.pow_le_pow_right (by omega) h
def AGL:=Lib.parseUintM 0 0 [0]
theorem Pj {l:List UInt8}:∀ {n a:Nat},n < 10 ^ a → a + l.length ≤ 18 → Lib.parseUintM (2 ^ 64 - 1) n l = if l.all Vm = true then .ok (valF n l) else AGL:=by
 induction l with
 | nil => intro n a _ _; simp [Lib.parseUintM,LJ]
 | cons c r ih =>
  intro n a h hl
  rw [List.length_cons] at hl
  have hp:=HH (show a ≤ 18 by omega)
  have hp1:=HH (show a + 1 ≤ 18 by omega)
  rw [Lib.parseUintM]
  by_cases hc:48 ≤ c.toNat ∧ c.toNat ≤ 57
  ·have h2:n * 10 + (c.toNat - 48) < 10 ^ (a + 1):=by rw [Nat.pow_succ]; omega
   rw [if_pos hc,if_neg (by omega),if_neg (by omega),ih h2 (by omega)]
   simp only [List.all_cons,Jv.2 hc,Bool.true_and,Jz]
  ·rw [if_neg hc]
   have:Vm c = false:=by
    cases hd:Vm c with
    | false => rfl
    | true => exact absurd (Jv.1 hd) hc
   simp only [List.all_cons,this,Bool.false_and,Bool.false_eq_true,if_false]
   rfl
theorem jt:∀ (k u:Nat),u < 10 ^ (k + 1) → (Lib.decDigits u).all Vm = true
 | 0,u,h => by
  have h:u < 10:=by simpa using h
  rw [Lib.decDigits_one h]
  simp only [List.all_cons,List.all_nil,Bool.and_true,Jv,UInt8.toNat_ofNat']
  omega
 | k + 1,u,h => by
  by_cases c:u < 10
  ·rw [Lib.decDigits_one c]
   simp only [List.all_cons,List.all_nil,Bool.and_true,Jv,UInt8.toNat_ofNat']
   omega
  ·rw [Lib.decDigits,dif_neg c,List.all_append,jt k (u / 10) (by rw [Nat.pow_succ] at h; omega)]
   simp only [List.all_cons,List.all_nil,Bool.and_true,Bool.true_and,Jv,UInt8.toNat_ofNat']
   omega
theorem Qw (u:Nat):(Lib.decDigits u).all Vm = true:=jt u u (Nat.lt_of_lt_of_le (Nat.lt_pow_self (by omega)) (Nat.pow_le_pow_right (by omega) (by omega)))
theorem my (n:Int) (r:List UInt8):Lib.itoa n ≠ 43 :: r:=by
 intro h
 unfold Lib.itoa at h
 split at h
 ·have:=(List.cons.inj h).1
  exact absurd this (by decide)
 ·have:=Qw n.toNat
  rw [h] at this
  simp [Vm] at this
theorem gA (r:List UInt8):Lib.trimPrefix (45 :: r) [45] = r:=by simp [Lib.trimPrefix,Lib.hasPrefix]
theorem fy {c:UInt8} {r:List UInt8} (h:c ≠ 45):Lib.trimPrefix (c :: r) [45] = c :: r:=by
 unfold Lib.trimPrefix Lib.hasPrefix
 have:(List.isPrefixOf [45] (c :: r)) = false:=by
  simp only [List.isPrefixOf,Bool.and_true,beq_eq_false_iff_ne]; exact fun e => h e.symm
 simp [this]
theorem Mn {r:List UInt8}:Dl (45 :: r) = if r.length < 1 ∨ 18 < r.length then (0,false) else if r.all Vm = true then (if Lib.itoa (-(valF 0 r:Int)) = 45 :: r then (-(valF 0 r:Int),true) else (0,false)) else (0,false):=by
 unfold Dl
 rw [gA]
 by_cases h:r.length < 1 ∨ 18 < r.length
 ·rw [if_pos h,if_pos h]
 ·rw [if_neg h,if_neg h]
  have hne:r ≠ []:=fun e => h (.inl (by simp [e]))
  have hp:=Pj (l:=r) (n:=0) (a:=0) (by simp) (by omega)
  have e43:((45:UInt8).toNat = 43 ∨ (45:UInt8).toNat = 45):=.inr rfl
  unfold Lib.parseIntB
  simp only [e43,if_true,Lib.parseUintB,hne,if_false,hp]
  by_cases hd:r.all Vm = true
  ·have hv:=NR (l:=r) (n:=0) (a:=0) (by simp) hd
   have hv2:=HH (k:=0 + r.length) (by omega)
   have e45:((45:UInt8).toNat = 45):=rfl
   have n2:¬ (2 ^ (64 - 1) < valF 0 r):=by omega
   simp only [hd,if_true,e45,not_true_eq_false,false_and,if_false,true_and,n2]
  ·simp only [hd,Bool.false_eq_true,if_false]
   rfl
theorem Mm {c:UInt8} {r:List UInt8} (hc:c ≠ 45):Dl (c :: r) = if (c :: r).length < 1 ∨ 18 < (c :: r).length then (0,false) else if (c :: r).all Vm = true then (if Lib.itoa (valF 0 (c :: r):Int) = c :: r then ((valF 0 (c :: r):Int),true) else (0,false)) else (0,false):=by
 unfold Dl
 rw [fy hc]
 by_cases h:(c :: r).length < 1 ∨ 18 < (c :: r).length
 ·rw [if_pos h,if_pos h]
 ·rw [if_neg h,if_neg h]
  have e45:¬ (c.toNat = 45):=fun e => hc (by rw [← UInt8.toNat_inj]; exact e)
  by_cases h43:c = 43
  ·subst h43
   have hd:((43:UInt8) :: r).all Vm = false:=by simp [Vm]
   rw [hd]
   simp only [Bool.false_eq_true,if_false]
   rcases hp:Lib.parseIntB 64 (43 :: r) with v | _ | _
   ·simp only [if_neg (my v r)]
   ·rfl
   ·rfl
  ·have e43:¬ (c.toNat = 43 ∨ c.toNat = 45):=fun e => by
    rcases e with e | e
    ·exact h43 (by rw [← UInt8.toNat_inj]; exact e)
    ·exact e45 e
   have hp:=Pj (l:=c :: r) (n:=0) (a:=0) (by simp) (by omega)
   unfold Lib.parseIntB
   simp only [e43,if_false,Lib.parseUintB,List.cons_ne_nil,hp]
   by_cases hd:(c :: r).all Vm = true
   ·have hv:=NR (l:=c :: r) (n:=0) (a:=0) (by simp) hd
    have hv2:=HH (k:=0 + (c :: r).length) (by omega)
    have n1:¬ (2 ^ (64 - 1) ≤ valF 0 (c :: r)):=by omega
    simp only [hd,if_true,e45,not_false_eq_true,true_and,n1,false_and,if_false]
   ·simp only [hd,Bool.false_eq_true,if_false]
    rfl
end Go.Proofs.YtfaenphcgfocnaaGreatDoor
namespace Go.Proofs.YtfaenphcgfocnaaGreatDoor
open Go Go.RowKit
set_option linter.unusedSimpArgs false
set_option linter.unusedVariables false
theorem uF {s:List UInt8} {i:Nat}:cut s (i:Int) (i:Int) = []:=by
 simp [cut]
theorem uE {s:List UInt8} {a i:Nat} (h:a ≤ i) (hi:i < s.length):cut s (a:Int) ((i + 1:Nat):Int) = cut s (a:Int) (i:Int) ++ [s[i]]:=by
 simp only [cut,Int.toNat_natCast]
 rw [List.take_add_one,List.getElem?_eq_getElem hi,List.drop_append_of_le_length (by simp; omega)]
 rfl
theorem TB {s:List UInt8} (c:UInt8) (hl:s.length ≤ 1048576):Hf s c = some (NS c s):=by
 unfold Hf
 obtain ⟨y,hy,hq⟩:=ES (step:=DZ s c) (fun st => ∃ a i:Nat,st.2.1 = (a:Int) ∧ st.2.2 = (i:Int) ∧ a ≤ i ∧ i ≤ s.length ∧ st.1.length ≤ i ∧ st.1 ++ DB c (cut s (a:Int) (i:Int)) (s.drop i) = NS c s)
  (fun y => ∃ a:Nat,y.2 = (a:Int) ∧ a ≤ s.length ∧ y.1.length ≤ s.length ∧ y.1 ++ [cut s (a:Int) (s.length:Int)] = NS c s) (fun st => s.length - st.2.2.toNat) (by
  rintro ⟨out,fr,ii⟩ ⟨a,i,h1,h2,hai,hi,ho,he⟩
  simp only at h1 h2 ho he
  subst h1 h2
  by_cases hlt:i < s.length
  ·left
   have hd:s.drop i = s[i] :: s.drop (i + 1):=List.drop_eq_getElem_cons hlt
   have hg:s.getD i 0 = s[i]:=Ch hlt 0
   rw [hd,DB] at he
   have hc2:((s[i].toNat:Int) == (c.toNat:Int)) = decide (s[i] = c):=by
    rw [Bool.eq_iff_iff]; simp only [beq_iff_eq,decide_eq_true_eq,← UInt8.toNat_inj]; omega
   by_cases hc:s[i] = c
   ·rw [if_pos hc] at he
    refine ⟨(out ++ [cut s (a:Int) (i:Int)],((i + 1:Nat):Int),((i + 1:Nat):Int)),?_,⟨i + 1,i + 1,rfl,rfl,Nat.le_refl _,by omega,by simp; omega,?_⟩,by simp; omega⟩
    ·simp only [DZ,Int.ofNat_lt,hlt,decide_true,if_true,Ak,AH,Int.toNat_natCast,hg,hc,beq_self_eq_true,Ar (show i < 9223372036854775807 by omega)]
     rw [FH (by omega) (by omega) (by omega),AH,Bf (by simp; omega),AH]
    ·simp only
     rw [uF,List.append_assoc]
     exact he
   ·rw [if_neg hc] at he
    refine ⟨(out,(a:Int),((i + 1:Nat):Int)),?_,⟨a,i + 1,rfl,rfl,by omega,by omega,by show out.length ≤ i + 1; omega,?_⟩,by simp; omega⟩
    ·simp only [DZ,Int.ofNat_lt,hlt,decide_true,if_true,Ak,AH,Int.toNat_natCast,hg,hc2,hc,decide_false,Bool.false_eq_true,if_false,Ar (show i < 9223372036854775807 by omega)]
    ·simp only
     rw [uE hai hlt]
     exact he
  ·right
   have hie:i = s.length:=by omega
   subst hie
   refine ⟨(out,(a:Int)),by simp [DZ],a,rfl,hai,ho,?_⟩
   rw [List.drop_length,DB] at he
   exact he) (s:=(([]:List (List UInt8)),0,0)) ⟨0,0,rfl,rfl,Nat.le_refl _,Nat.zero_le _,by simp,by simp [cut,NS]⟩
 obtain ⟨a,h1,h2,h3,h4⟩:=hq
 obtain ⟨o,y2⟩:=y
 simp only at h1 h3 h4
 subst h1
 rw [hy]
 simp only [Option.bind_some]
 rw [FH (by omega) (by omega) (by omega),AH,Bf (by simp; omega),AH,h4]
theorem TC (c:UInt8):De c = some (Vm c):=id rfl
theorem uC {c:UInt8} (h:Vm c = true) {n:Nat} (hn:n ≤ 100000000000000000):IntKind.i64.wrap ((IntKind.i64.wrap (10 * (n:Int))) + (IntKind.i64.wrap (IntKind.u8.wrap ((c.toNat:Int) - 48)))) = ((n * 10 + (c.toNat - 48):Nat):Int):=by
 have hc:=Jv.1 h
 have e1:IntKind.u8.wrap ((c.toNat:Int) - 48) = ((c.toNat - 48:Nat):Int):=by
  have:((c.toNat:Int) - 48) = ((c.toNat - 48:Nat):Int):=by omega
  rw [this]; exact vO (by omega) (by omega)
 rw [e1,wrap_i64 (n:=10 * (n:Int)) (by omega) (by omega),wrap_i64 (n:=((c.toNat - 48:Nat):Int)) (by omega) (by omega),wrap_i64 (by omega) (by omega)]
 omega
theorem dw (s t:List UInt8) (ht:t.length ≤ 18):∀ (r:List UInt8) (i n:Nat),t.drop i = r → i + r.length = t.length → n < 10 ^ i →
  AL (Ce s t) ((n:Int),(i:Int)) = some (if r.all Vm = true then .inl ((valF n r:Nat):Int) else .inr (0,false)):=by
 intro r
 induction r with
 | nil =>
  intro i n hd hi _
  have:i = t.length:=by simpa using hi
  subst this
  refine Br ?_
  simp [Ce,LJ]
 | cons c r ih =>
  intro i n hd hi hn
  rw [List.length_cons] at hi
  have hlt:i < t.length:=by omega
  have hc:t.getD i 0 = c:=by
   rw [List.getD_eq_getElem?_getD]
   have:(t.drop i)[0]? = some c:=by rw [hd]; rfl
   rw [List.getElem?_drop,Nat.add_zero] at this
   rw [this]; rfl
  have hd2:t.drop (i + 1) = r:=by
   have:=congrArg List.tail hd
   rwa [List.tail_drop] at this
  by_cases hg:Vm c = true
  ·have hp:=HH (show i ≤ 17 + 1 by omega)
   have hp17:(10:Nat) ^ i ≤ 10 ^ 17:=Nat.pow_le_pow_right (by omega) (by omega)
   have hcd:=Jv.1 hg
   rw [DU (s':=(((n * 10 + (c.toNat - 48):Nat):Int),((i + 1:Nat):Int))) (by
    simp only [Ce,Int.ofNat_lt,hlt,decide_true,if_true,Ak,AH,Int.toNat_natCast,hc,TC,hg,Option.bind_some,Bool.not_true,Bool.false_eq_true,if_false,Ar (show i < 9223372036854775807 by omega),uC hg (show n ≤ 100000000000000000 by omega)])]
   rw [ih (i + 1) (n * 10 + (c.toNat - 48)) hd2 (by omega) (by rw [Nat.pow_succ]; omega)]
   simp only [List.all_cons,hg,Bool.true_and,Jz]
  ·have hg2:Vm c = false:=by simpa using hg
   rw [Br (r:=.inr (0,false)) (by
    simp only [Ce,Int.ofNat_lt,hlt,decide_true,if_true,Ak,AH,Int.toNat_natCast,hc,TC,hg2,Option.bind_some,Bool.not_false])]
   simp only [List.all_cons,hg2,Bool.false_and,Bool.false_eq_true,if_false]
theorem kh:Ge = Ce:=id rfl
theorem bM {s:List UInt8} (hl:s.length ≤ 1048576):Gm s = some (Dl s):=by
 unfold Gm
 cases s with
 | nil => simp [Dl,Lib.trimPrefix,Lib.hasPrefix,AH]
 | cons c r =>
  have h0:((c :: r) == ([]:List UInt8)) = false:=rfl
  have h1:BA 0 (c :: r).length = true:=GA (by omega) (by simp)
  have hc2:((((c :: r).getD 0 0).toNat:Int) == 45) = decide (c = 45):=by
   rw [Bool.eq_iff_iff]; simp only [List.getD_cons_zero,beq_iff_eq,decide_eq_true_eq,← UInt8.toNat_inj]
   show (c.toNat:Int) = 45 ↔ c.toNat = 45
   omega
  simp only [h0,h1,Bool.or_true,AH,Bool.not_false,Bool.true_and,hc2]
  by_cases hc:c = 45
  ·subst hc
   simp only [decide_true,if_true]
   have hcut:cut ((45:UInt8) :: r) 1 ((((45:UInt8) :: r).length:Nat):Int) = r:=by simp [cut]
   rw [FH (by omega) (by simp; omega) (by omega),AH,hcut,Mn]
   by_cases hb:r.length < 1 ∨ 18 < r.length
   ·have e:(decide ((r.length:Int) < 1) || decide (18 < (r.length:Int))) = true:=by simp; omega
    rw [if_pos hb,e]; rfl
   ·have e:(decide ((r.length:Int) < 1) || decide (18 < (r.length:Int))) = false:=by simp; omega
    rw [if_neg hb,e]
    simp only [Bool.false_eq_true,if_false]
    have hlp:=dw ((45:UInt8) :: r) r (by omega) r 0 0 rfl (by omega) (by simp)
    rw [show ((0:Nat):Int) = 0 from rfl] at hlp
    rw [hlp]
    by_cases hd:r.all Vm = true
    ·have hv:=NR (l:=r) (n:=0) (a:=0) (by simp) hd
     have hv2:=HH (k:=0 + r.length) (by omega)
     have w:IntKind.i64.wrap (0 - ((valF 0 r:Nat):Int)) = -((valF 0 r:Nat):Int):=by rw [wrap_i64 (by omega) (by omega)]; omega
     have lt:decide ((r.length:Int) < (((45:UInt8) :: r).length:Nat)) = true:=by simp; omega
     simp only [hd,if_true,Option.bind_some,w,lt,SX (n:=-((valF 0 r:Nat):Int)) ⟨by omega,by omega⟩]
     by_cases he:Lib.itoa (-((valF 0 r:Nat):Int)) = 45 :: r
     ·have:(Lib.itoa (-((valF 0 r:Nat):Int)) == 45 :: r) = true:=by simpa using he
      simp only [he,beq_self_eq_true,Bool.not_true,Bool.false_eq_true,if_false,if_true]
     ·have:(Lib.itoa (-((valF 0 r:Nat):Int)) == 45 :: r) = false:=by simpa using he
      simp only [this,he,Bool.not_false,if_true,if_false]
    ·simp only [hd,Bool.false_eq_true,if_false,Option.bind_some]
  ·simp only [hc,decide_false,Bool.false_eq_true,if_false]
   rw [Mm hc]
   by_cases hb:(c :: r).length < 1 ∨ 18 < (c :: r).length
   ·have e:(decide (((c :: r).length:Int) < 1) || decide (18 < ((c :: r).length:Int))) = true:=by simp at hb ⊢; omega
    rw [if_pos hb,e]; rfl
   ·have e:(decide (((c :: r).length:Int) < 1) || decide (18 < ((c :: r).length:Int))) = false:=by simp at hb ⊢; omega
    rw [if_neg hb,e]
    simp only [Bool.false_eq_true,if_false,kh]
    have hlp:=dw (c :: r) (c :: r) (by omega) (c :: r) 0 0 rfl (by omega) (by simp)
    rw [show ((0:Nat):Int) = 0 from rfl] at hlp
    rw [hlp]
    by_cases hd:(c :: r).all Vm = true
    ·have hv:=NR (l:=c :: r) (n:=0) (a:=0) (by simp) hd
     have hv2:=HH (k:=0 + (c :: r).length) (by omega)
     have lt:decide (((c :: r).length:Int) < ((c :: r).length:Int)) = false:=by simp
     simp only [hd,if_true,Option.bind_some,lt,Bool.false_eq_true,if_false,SX (n:=((valF 0 (c :: r):Nat):Int)) ⟨by omega,by omega⟩]
     by_cases he:Lib.itoa ((valF 0 (c :: r):Nat):Int) = c :: r
     ·have:(Lib.itoa ((valF 0 (c :: r):Nat):Int) == c :: r) = true:=by simpa using he
      simp only [he,beq_self_eq_true,Bool.not_true,Bool.false_eq_true,if_false,if_true]
     ·have:(Lib.itoa ((valF 0 (c :: r):Nat):Int) == c :: r) = false:=by simpa using he
      simp only [this,he,Bool.not_false,if_true,if_false]
    ·simp only [hd,Bool.false_eq_true,if_false,Option.bind_some]
theorem Se {s:List UInt8} (hl:s.length ≤ 1048576):Xs s = some (Dl s):=by
 unfold Xs; rw [if_pos (by omega)]
theorem gN {s:List UInt8} (h:(Dl s).2 = true):Lib.itoa (Dl s).1 = s ∧ Yv (Dl s).1:=by
 cases s with
 | nil => simp [Dl,Lib.trimPrefix,Lib.hasPrefix] at h
 | cons c r =>
  by_cases hc:c = 45
  ·subst hc
   rw [Mn] at h ⊢
   split at h
   ·cases h
   ·rename_i hb
    rw [if_neg hb]
    split at h
    ·rename_i hd
     rw [if_pos hd]
     split at h
     ·rename_i he
      rw [if_pos he]
      have hv:=NR (l:=r) (n:=0) (a:=0) (by simp) hd
      have hv2:=HH (k:=0 + r.length) (by omega)
      exact ⟨he,by show -9223372036854775808 ≤ -((valF 0 r:Nat):Int); omega,by show -((valF 0 r:Nat):Int) ≤ 9223372036854775807; omega⟩
     ·cases h
    ·cases h
  ·rw [Mm hc] at h ⊢
   split at h
   ·cases h
   ·rename_i hb
    rw [if_neg hb]
    split at h
    ·rename_i hd
     rw [if_pos hd]
     split at h
     ·rename_i he
      rw [if_pos he]
      have hv:=NR (l:=c :: r) (n:=0) (a:=0) (by simp) hd
      have hv2:=HH (k:=0 + (c :: r).length) (by omega)
      exact ⟨he,by show -9223372036854775808 ≤ ((valF 0 (c :: r):Nat):Int); omega,by show ((valF 0 (c :: r):Nat):Int) ≤ 9223372036854775807; omega⟩
     ·cases h
    ·cases h
end Go.Proofs.YtfaenphcgfocnaaGreatDoor
namespace Go.Proofs.YtfaenphcgfocnaaGreatDoor
open Go Go.RowKit
set_option linter.unusedSimpArgs false
set_option linter.unusedVariables false
def LA (l:List (List UInt8)) (x:List UInt8):Int:=match (List.range l.length).find? (fun k => l.getD k default == x) with | some j => (j:Int) | none => -1
theorem go {l:List (List UInt8)} (hl:l.length ≤ 1099511627776) (x:List UInt8):Ew l x = some (LA l x):=by
 unfold Ew LA
 rw [Dq (step:=Cp l x) (fun k => l.getD k default == x) (fun k => (k:Int)) l.length
  (fun k hk => by
   simp only [Cp,Ak,hk,decide_true,AH,Int.ofNat_lt,if_true,Int.toNat_natCast,Ar (show k < 9223372036854775807 by omega)]
   cases (l.getD k default == x) <;> rfl)
  (by simp [Cp])]
 cases (List.range l.length).find? (fun k => l.getD k default == x) <;> rfl
theorem Yd {l:List (List UInt8)} (hl:l.length ≤ 1099511627776) (x:List UInt8):CQ l x = some (LA l x):=by
 unfold CQ LA
 rw [Dq (step:=Bg l x (l.length:Int)) (fun k => l.getD k default == x) (fun k => (k:Int)) l.length
  (fun k hk => by
   have e:(x == l.getD k default) = (l.getD k default == x):=by rw [Bool.eq_iff_iff]; simp only [beq_iff_eq]; exact eq_comm
   simp only [Bg,Ak,hk,decide_true,AH,Int.ofNat_lt,if_true,Int.toNat_natCast,Ar (show k < 9223372036854775807 by omega),e]
   cases (l.getD k default == x) <;> rfl)
  (by simp [Bg])]
 cases (List.range l.length).find? (fun k => l.getD k default == x) <;> rfl
theorem Ph (l:List (List UInt8)) (x:List UInt8):(LA l x = -1) ∨ ∃ j:Nat,j < l.length ∧ LA l x = (j:Int) ∧ l.getD j default = x:=by
 unfold LA
 cases h:(List.range l.length).find? (fun k => l.getD k default == x) with
 | none => exact .inl rfl
 | some j =>
  have:=List.find?_range_eq_some.1 h
  exact .inr ⟨j,by simpa using this.2.1,rfl,by simpa using this.1⟩
def Dc:List (List UInt8):=[[115,116,97,114],[111,98,115,101,114,118,101,114],[98,114,105,103,104,116],[102,97,105,110,116],[116,119,105,110]]
theorem TJ:∀ j:Nat,j < 5 → (32:UInt8) ∉ Dc.getD j default:=by
 intro j hj
 match j,hj with
 | 0,_ => decide
 | 1,_ => decide
 | 2,_ => decide
 | 3,_ => decide
 | 4,_ => decide
theorem MR {x:AJ} (hr:Yv x.Index):Cn x = some (if FW 100 [x] = true then Lib.itoa x.Index ++ [32] ++ Dc.getD (x.Kind - 1).toNat default else []):=by
 unfold Cn
 rw [Og (by omega) (by omega) (by simp)]
 simp only [Option.bind_some]
 cases hg:FW 100 [x]
 ·rfl
 ·obtain ⟨k1,k2⟩:=MG hg (i:=0) (by simp)
  simp only [List.getD_cons_zero] at k1 k2
  have hlen:=XT hr
  have w:IntKind.i64.wrap (x.Kind - 1) = x.Kind - 1:=wrap_i64 (by omega) (by omega)
  have hn:CR x.Kind = some (Dc.getD (x.Kind - 1).toNat default):=by
   unfold CR CT
   simp only [GC,Option.bind_some,k1,k2,decide_true,Bool.and_self,Bool.not_true,Bool.false_eq_true,if_false,w]
   rw [GA (by omega) (by simp; omega),AH]
   rfl
  have hnl:(Dc.getD (x.Kind - 1).toNat default).length ≤ 10:=by
   have:∀ j:Nat,j < 5 → (Dc.getD j default).length ≤ 10:=by
    intro j hj
    match j,hj with
    | 0,_ => decide
    | 1,_ => decide
    | 2,_ => decide
    | 3,_ => decide
    | 4,_ => decide
   exact this _ (by omega)
  simp only [Bool.not_true,Bool.false_eq_true,if_false,if_true,Yg hr,hn,Option.bind_some]
  rw [KP (by simp only [List.length_cons,List.length_nil]; omega),KP (by simp only [List.length_append,List.length_cons,List.length_nil]; omega),AH,AH]
theorem NK {s:List UInt8} (hl:s.length ≤ 1048576):∃ x b,EV s = some (x,b) ∧ Dm s = some (x,b):=by
 unfold EV Dm
 rw [TB 32 hl,eV (by omega)]
 have names1:EK = some Dc:=rfl
 have names2:CT = some Dc:=rfl
 have hm1:IntKind.i64.wrap (-1 + 1) = 0:=by decide
 rcases LV 32 s with ⟨_,hno⟩ | ⟨a,b,rfl,ha,_⟩
 ·refine ⟨⟨0,0⟩,false,?_,?_⟩
  ·unfold NS
   rw [Mf hno]
   rfl
  ·rw [ACo hno]
   have hp:LA Dc [] = -1:=by decide
   simp only [Option.bind_some,Se hl,names2,Yd (l:=Dc) (by decide),hp,hm1,beq_self_eq_true,Bool.or_true,Bool.not_true,Bool.not_false,Bool.true_or,AH,if_true]
 ·have hla:a.length ≤ 1048576:=by simp at hl; omega
  rw [ju ha]
  unfold NS
  rw [IM ha]
  simp only [Option.bind_some,Se hla,names1,names2,Yd (l:=Dc) (by decide)]
  by_cases hb:(32:UInt8) ∈ b
  ·have hp:LA Dc b = -1:=by
    rcases Ph Dc b with h | ⟨j,hj,_,h⟩
    ·exact h
    ·exact absurd hb (by rw [← h]; exact TJ j hj)
   refine ⟨⟨0,0⟩,false,?_,?_⟩
   ·have h2:2 ≤ (DB 32 [] b).length:=by
     rcases LV 32 b with ⟨_,h⟩ | ⟨a',b',rfl,h,_⟩
     ·exact absurd hb h
     ·rw [IM h]
      have:=Ln 32 b' []
      simp only [List.length_cons]; omega
    have e:((((([] ++ a) :: DB 32 [] b).length:Nat):Int) == 2) = false:=by
     rw [beq_eq_false_iff_ne]; simp only [List.length_cons]; omega
    simp only [e,Bool.not_false,if_true]
   ·simp only [hp,hm1,beq_self_eq_true,Bool.or_true,Bool.not_true,Bool.not_false,Bool.true_or,AH,if_true]
  ·rw [Mf hb]
   simp only [List.nil_append]
   have e:(((([a,b]:List (List UInt8)).length:Nat):Int) == 2) = true:=rfl
   have i0:BA 0 ([a,b]:List (List UInt8)).length = true:=rfl
   have i1:BA 1 ([a,b]:List (List UInt8)).length = true:=rfl
   simp only [e,i0,i1,Bool.not_true,Bool.false_eq_true,if_false,AH,List.getD_cons_zero,List.getD_cons_succ,bM hla,Option.bind_some,go (l:=Dc) (by decide)]
   cases hok:(Dl a).2
   ·exact ⟨⟨0,0⟩,false,by simp [AH],by simp [AH]⟩
   ·obtain ⟨hi,hr⟩:=gN hok
    rcases Ph Dc b with hp | ⟨j,hj,hp,hjb⟩
    ·refine ⟨⟨0,0⟩,false,?_,?_⟩
     ·rw [hp,hm1,HI (by omega) (by omega) (by simp)]
      have hg:FW 100 [⟨(Dl a).1,0⟩] = false:=by
       cases h:FW 100 [⟨(Dl a).1,0⟩] with
       | false => rfl
       | true => have:=(MG h (i:=0) (by simp)).1; simp at this
      simp only [hg,Option.isSome_some,Option.getD_some,Bool.or_true,AH,Bool.not_false,if_true]
     ·rw [hp,hm1]
      simp only [beq_self_eq_true,Bool.or_true,Bool.not_true,Bool.not_false,Bool.true_or,AH,if_true]
    ·have hj5:j < 5:=hj
     have w:IntKind.i64.wrap ((j:Int) + 1) = ((j + 1:Nat):Int):=Ar (by omega)
     have hz:(((j + 1:Nat):Int) == 0) = false:=by rw [beq_eq_false_iff_ne]; omega
     rw [hp,w,HI (by omega) (by omega) (by simp),MR (x:=⟨(Dl a).1,((j + 1:Nat):Int)⟩) hr]
     simp only [Bool.not_true,Bool.false_or,hz,Option.isSome_some,Option.getD_some,Bool.or_true,AH,Bool.not_false]
     cases hg:FW 100 [⟨(Dl a).1,((j + 1:Nat):Int)⟩]
     ·refine ⟨⟨0,0⟩,false,by simp,?_⟩
      have:(([]:List UInt8) == a ++ 32 :: b) = false:=by rw [beq_eq_false_iff_ne]; simp
      simp [this]
     ·refine ⟨⟨(Dl a).1,((j + 1:Nat):Int)⟩,true,by simp,?_⟩
      have e1:(((j + 1:Nat):Int) - 1).toNat = j:=by omega
      have:(Lib.itoa (Dl a).1 ++ [32] ++ Dc.getD (((j + 1:Nat):Int) - 1).toNat default == a ++ 32 :: b) = true:=by
       rw [beq_iff_eq,e1,hjb,hi]; simp
      simp only [if_true,this,Bool.not_true,Bool.false_eq_true,if_false]
end Go.Proofs.YtfaenphcgfocnaaGreatDoor
namespace Go.Proofs.YtfaenphcgfocnaaGreatDoor
open Go Go.RowKit
set_option linter.unusedSimpArgs false
set_option linter.unusedVariables false
theorem pV (n:Nat) (a b:List UInt8):valF n (a ++ b) = valF (valF n a) b:=by unfold valF; rw [List.foldl_append]
theorem aq:∀ (k u:Nat),u < 10 ^ (k + 1) → valF 0 (Lib.decDigits u) = u
 | 0,u,h => by
  have h:u < 10:=by simpa using h
  rw [Lib.decDigits_one h,Jz,LJ,UInt8.toNat_ofNat']
  omega
 | k + 1,u,h => by
  by_cases c:u < 10
  ·rw [Lib.decDigits_one c,Jz,LJ,UInt8.toNat_ofNat']
   omega
  ·rw [Lib.decDigits,dif_neg c,pV,aq k (u / 10) (by rw [Nat.pow_succ] at h; omega),Jz,LJ,UInt8.toNat_ofNat']
   omega
theorem eM (u:Nat):Lib.itoa (u:Int) = Lib.decDigits u:=by unfold Lib.itoa; rw [if_neg (by omega)]; simp
theorem kW {n:Int} (h0:-1000000000000000000 < n) (h1:n < 1000000000000000000):Dl (Lib.itoa n) = (n,true):=by
 by_cases hn:0 ≤ n
 ·obtain ⟨u,rfl⟩:=Int.eq_ofNat_of_zero_le hn
  rw [eM]
  have hl:=Lib.decDigits_length u
  have hnd:=Lu 17 u (by omega)
  have hne:=MK u
  have hall:=Qw u
  have hval:=aq 17 u (by omega)
  cases hd:Lib.decDigits u with
  | nil => rw [hd] at hne; exact absurd hne (by simp)
  | cons c r =>
   rw [hd] at hl hall hval hne
   have hc:c ≠ 45:=fun e => by
    subst e
    have:Vm 45 = true:=(List.all_eq_true.1 hall) 45 (by simp)
    exact absurd this (by decide)
   rw [Mm hc,if_neg (by omega),if_pos hall,hval,if_pos (by rw [eM,hd])]
 ·obtain ⟨u,hu⟩:=Int.eq_ofNat_of_zero_le (show 0 ≤ -n by omega)
  obtain rfl:n = -(u:Int):=by omega
  have e:Lib.itoa (-(u:Int)) = 45 :: Lib.decDigits u:=by unfold Lib.itoa; rw [if_pos (by omega)]; simp
  rw [e]
  have hl:=Lib.decDigits_length u
  have hnd:=Lu 17 u (by omega)
  have hne:=MK u
  have hall:=Qw u
  have hval:=aq 17 u (by omega)
  rw [Mn,if_neg (by omega),if_pos hall,hval,if_pos e]
end Go.Proofs.YtfaenphcgfocnaaGreatDoor
