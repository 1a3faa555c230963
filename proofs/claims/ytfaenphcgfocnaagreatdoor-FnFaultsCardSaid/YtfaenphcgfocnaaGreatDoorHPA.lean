/- Plain lemmas, several texts in one. No condition. -/
import Derived.Test.YtfaenphcgfocnaaGreatDoorEngTD
import Derived.Test.YtfaenphcgfocnaaGreatDoorFAL
import Derived.Test.YtfaenphcgfocnaaGreatDoorEngSH
namespace Go.Proofs.YtfaenphcgfocnaaGreatDoor
open Go Go.RowKit
set_option linter.unusedSimpArgs false
set_option linter.unusedVariables false
theorem Dq {ρ:Type} {step:Int → Option (Int ⊕ (Unit ⊕ ρ))} (p:Nat → Bool) (g:Nat → ρ) (n:Nat)
  (hs:∀ i,i < n → step (i:Int) = some (if p i = true then .inr (.inr (g i)) else .inl ((i + 1:Nat):Int))) (he:step (n:Int) = some (.inr (.inl ()))) :
  AL step 0 = some (match (List.range n).find? p with | some j => .inr (g j) | none => .inl ()):=by
 have key:∀ m i:Nat,i + m = n → (∀ k,k < i → p k = false) → AL step (i:Int) = some (match (List.range n).find? p with | some j => .inr (g j) | none => .inl ()):=by
  intro m
  induction m with
  | zero =>
   intro i hi hk
   obtain rfl:i = n:=by omega
   rw [Br he]
   have:(List.range i).find? p = none:=by
    rw [List.find?_eq_none]
    intro x hx; rw [hk x (by simpa using hx)]; exact Bool.false_ne_true
   rw [this]
  | succ m ih =>
   intro i hi hk
   have hlt:i < n:=by omega
   by_cases hp:p i = true
   ·rw [Br (by rw [hs i hlt,if_pos hp])]
    have:(List.range n).find? p = some i:=by
     rw [List.find?_range_eq_some]
     exact ⟨hp,by simpa using hlt,fun j hj => by simp [hk j hj]⟩
    rw [this]
   ·rw [DU (by rw [hs i hlt,if_neg hp])]
    refine ih (i + 1) (by omega) fun k hk2 => ?_
    rcases Nat.lt_or_ge k i with c | c
    ·exact hk k c
    ·obtain rfl:k = i:=by omega
     simpa using hp
 exact key n 0 (by omega) fun k hk => by omega
theorem ei {α:Type} [Inhabited α] (xs:List α) (f:α → Bool):((List.range xs.length).find? fun i => f (xs.getD i default)).isSome = xs.any f:=by
 rw [Bool.eq_iff_iff,List.find?_isSome,List.any_eq_true]
 constructor
 ·rintro ⟨i,hi,hf⟩
  have hi':i < xs.length:=by simpa using hi
  exact ⟨_,LW hi' default,hf⟩
 ·rintro ⟨x,hx,hf⟩
  obtain ⟨i,hi,rfl⟩:=List.getElem_of_mem hx
  exact ⟨i,by simpa using hi,by rw [Ch hi]; exact hf⟩
def Hx {α β:Type} (p:Nat → Bool) (x:Nat → β) (n:Nat):List β:=((List.range n).filter p).map x
theorem eL {β:Type} (p:Nat → Bool) (x:Nat → β) (n:Nat):Hx (α:=β) p x (n + 1) = if p n = true then Hx (α:=β) p x n ++ [x n] else Hx (α:=β) p x n:=by
 unfold Hx
 rw [List.range_succ,List.filter_append,List.map_append]
 by_cases h:p n = true
 ·simp [h]
 ·simp [h]
theorem Oq {β:Type} (p:Nat → Bool) (x:Nat → β) (n:Nat):(Hx (α:=β) p x n).length ≤ n:=by
 unfold Hx
 rw [List.length_map]
 exact Nat.le_trans (List.length_filter_le _ _) (by simp)
theorem OL {β ρ:Type} {step:List β × Int → Option ((List β × Int) ⊕ ρ)} (p:Nat → Bool) (x:Nat → β) (n:Nat) {r:ρ}
  (hs:∀ (out:List β) (i:Nat),i < n → out.length ≤ i → step (out,(i:Int)) = some (.inl (if p i = true then out ++ [x i] else out,((i + 1:Nat):Int))))
  (he:step (Hx (α:=β) p x n,(n:Int)) = some (.inr r)):AL step ([],0) = some r:=by
 exact PJ (step:=step) (fun i => Hx (α:=β) p x i) n (r:=r) (fun i hi => by rw [hs _ i hi (Oq _ _ _),eL]) he
end Go.Proofs.YtfaenphcgfocnaaGreatDoor
namespace Go.Proofs.YtfaenphcgfocnaaGreatDoor
open Go Go.RowKit
set_option linter.unusedSimpArgs false
set_option linter.unusedVariables false
def dq (first:Bool) (c:UInt8):Bool:=(decide (97 ≤ c.toNat) && decide (c.toNat ≤ 122)) || (!first && ((decide (48 ≤ c.toNat) && decide (c.toNat ≤ 57)) || c.toNat == 45))
def IG (s:List UInt8):Bool:=decide (1 ≤ s.length) && (decide (s.length ≤ 12) && ((List.range s.length).all fun i => dq (i == 0) (s.getD i 0)))
theorem Sp {n:Nat} {p:Nat → Bool}:((List.range n).all p = true) ↔ ∀ i,i < n → p i = true:=by simp
theorem qV (c:UInt8) (i:Nat):(!((decide ((97:Int) ≤ (c.toNat:Int))) && (decide ((c.toNat:Int) ≤ 122))) && (((i:Int) == 0) || (!(((decide ((48:Int) ≤ (c.toNat:Int))) && (decide ((c.toNat:Int) ≤ 57))) || ((c.toNat:Int) == 45))))) = !dq (i == 0) c:=by
 have b1:decide ((97:Int) ≤ (c.toNat:Int)) = decide (97 ≤ c.toNat):=by rw [decide_eq_decide]; omega
 have b2:decide ((c.toNat:Int) ≤ 122) = decide (c.toNat ≤ 122):=by rw [decide_eq_decide]; omega
 have b3:decide ((48:Int) ≤ (c.toNat:Int)) = decide (48 ≤ c.toNat):=by rw [decide_eq_decide]; omega
 have b4:decide ((c.toNat:Int) ≤ 57) = decide (c.toNat ≤ 57):=by rw [decide_eq_decide]; omega
 have b5:((c.toNat:Int) == 45) = (c.toNat == 45):=by rw [Bool.eq_iff_iff]; simp; omega
 have b6:((i:Int) == 0) = (i == 0):=by rw [Bool.eq_iff_iff]; simp
 rw [b1,b2,b3,b4,b5,b6]
 unfold dq
 cases decide (97 ≤ c.toNat) <;> cases decide (c.toNat ≤ 122) <;> cases decide (48 ≤ c.toNat) <;> cases decide (c.toNat ≤ 57) <;> cases (c.toNat == 45) <;> cases (i == 0) <;> rfl
theorem kg (c:UInt8):(((!(decide (97 ≤ c.toNat) && decide (c.toNat ≤ 122))) && (!(decide (48 ≤ c.toNat) && decide (c.toNat ≤ 57)))) && (!((c.toNat:Int) == 45))) = !dq false c:=by
 have b5:((c.toNat:Int) == 45) = (c.toNat == 45):=by rw [Bool.eq_iff_iff]; simp; omega
 rw [b5]
 unfold dq
 cases decide (97 ≤ c.toNat) <;> cases decide (c.toNat ≤ 122) <;> cases decide (48 ≤ c.toNat) <;> cases decide (c.toNat ≤ 57) <;> cases (c.toNat == 45) <;> rfl
theorem KM (s:List UInt8):Cz s = some (IG s):=by
 unfold Cz
 by_cases h:((s.length:Int) < 1) ∨ ((12:Int) < s.length)
 ·have h1:((decide ((s.length:Int) < 1)) || (decide ((12:Int) < (s.length:Int)))) = true:=by simpa using h
  have h2:IG s = false:=by unfold IG; by_cases a:1 ≤ s.length <;> by_cases b:s.length ≤ 12 <;> simp [a,b] <;> omega
  simp only [h1,if_true,h2]
 ·have h1:((decide ((s.length:Int) < 1)) || (decide ((12:Int) < (s.length:Int)))) = false:=by simpa using h
  simp only [h1,Bool.false_eq_true,if_false]
  rw [Ek (step:=Fk s (s.length:Int)) (fun i => dq (i == 0) (s.getD i 0)) s.length ((List.range s.length).all fun i => dq (i == 0) (s.getD i 0)) (yes:=.inl ()) (no:=.inr false) Sp]
  ·have a1:1 ≤ s.length:=by omega
   have a2:s.length ≤ 12:=by omega
   unfold IG
   simp only [a1,a2,decide_true,Bool.true_and]
   cases ((List.range s.length).all fun i => dq (i == 0) (s.getD i 0)) <;> rfl
  ·intro i hi
   simp only [Fk,Int.ofNat_lt,hi,decide_true,if_true,Ak,AH,Int.toNat_natCast,Ar (show i < 9223372036854775807 by omega)]
   rw [qV]
   cases dq (i == 0) (s.getD i 0) <;> rfl
  ·simp [Fk]
end Go.Proofs.YtfaenphcgfocnaaGreatDoor
namespace Go.Proofs.YtfaenphcgfocnaaGreatDoor
open Go Go.RowKit
set_option linter.unusedSimpArgs false
set_option linter.unusedVariables false
theorem LO (c:UInt8):FT c = some (decide (97 ≤ c.toNat) && decide (c.toNat ≤ 122)):=by
 have h1:((97:Int) ≤ (c.toNat:Int)) ↔ 97 ≤ c.toNat:=by omega
 have h2:((c.toNat:Int) ≤ 122) ↔ c.toNat ≤ 122:=by omega
 simp [FT,h1,h2]
theorem SL (c:UInt8):De c = some (decide (48 ≤ c.toNat) && decide (c.toNat ≤ 57)):=by
 have h1:((48:Int) ≤ (c.toNat:Int)) ↔ 48 ≤ c.toNat:=by omega
 have h2:((c.toNat:Int) ≤ 57) ↔ c.toNat ≤ 57:=by omega
 simp [De,h1,h2]
theorem KF (s:List UInt8):Cw s = some (IG s):=by
 unfold Cw
 by_cases h:s.length = 0 ∨ 12 < s.length
 ·have h1:((s == ([]:List UInt8)) || (decide ((12:Int) < (s.length:Int)))) = true:=by
   rcases h with h | h
   ·have:s = []:=List.eq_nil_of_length_eq_zero h
    simp [this]
   ·simp; right; omega
  have h2:IG s = false:=by unfold IG; by_cases a:1 ≤ s.length <;> by_cases b:s.length ≤ 12 <;> simp [a,b] <;> omega
  simp only [h1,h2,Bool.not_true,Bool.not_false,Bool.true_or,AH,if_true]
 ·have h1:((s == ([]:List UInt8)) || (decide ((12:Int) < (s.length:Int)))) = false:=by
   rw [Bool.or_eq_false_iff]
   refine ⟨?_,by simp; omega⟩
   rw [beq_eq_false_iff_ne]; rintro rfl; simp at h
  have hi0:BA 0 s.length = true:=GA (by omega) (by omega)
  simp only [h1,hi0,LO,Option.isSome_some,Option.getD_some,Bool.or_true,AH,Bool.false_or]
  by_cases hf:(decide (97 ≤ (s.getD 0 0).toNat) && decide ((s.getD 0 0).toNat ≤ 122)) = true
  ·rw [hf]
   simp only [Bool.not_true,Bool.false_eq_true,if_false]
   rw [Ek (step:=Fg s) (fun i => dq false (s.getD i 0)) s.length ((List.range s.length).all fun i => dq (i == 0) (s.getD i 0)) (yes:=.inl ()) (no:=.inr false)]
   ·have a1:1 ≤ s.length:=by omega
    have a2:s.length ≤ 12:=by omega
    unfold IG
    simp only [a1,a2,decide_true,Bool.true_and]
    cases ((List.range s.length).all fun i => dq (i == 0) (s.getD i 0)) <;> rfl
   ·rw [Sp]
    refine forall_congr' fun i => forall_congr' fun hi => ?_
    by_cases e:i = 0
    ·subst e; simp only [dq,hf,Bool.true_or]
    ·have:(i == 0) = false:=by simpa using e
     rw [this]
   ·intro i hi
    simp only [Fg,Int.ofNat_lt,hi,decide_true,if_true,Ak,AH,Int.toNat_natCast,Ar (show i < 9223372036854775807 by omega),LO,SL,Option.bind_some,Option.isSome_some,Option.getD_some,Bool.or_true]
    rw [kg]
    cases dq false (s.getD i 0) <;> rfl
   ·simp [Fg]
  ·have hf':(decide (97 ≤ (s.getD 0 0).toNat) && decide ((s.getD 0 0).toNat ≤ 122)) = false:=by simpa using hf
   rw [hf']
   have:IG s = false:=by
    unfold IG
    have:((List.range s.length).all fun i => dq (i == 0) (s.getD i 0)) = false:=by
     cases hq:((List.range s.length).all fun i => dq (i == 0) (s.getD i 0)) with
     | false => rfl
     | true =>
      have:=Sp.1 hq 0 (by omega)
      simp only [dq,hf',beq_self_eq_true,Bool.not_true,Bool.false_and,Bool.or_false,Bool.false_eq_true] at this
    simp only [this,Bool.and_false]
   rw [this]; rfl
end Go.Proofs.YtfaenphcgfocnaaGreatDoor
namespace Go.Proofs.YtfaenphcgfocnaaGreatDoor
open Go Go.RowKit
set_option linter.unusedSimpArgs false
set_option linter.unusedVariables false
theorem Sn:∀ (a b:List UInt8),(decide (Lib.compareBytes a b < 0) = Op.bytesLess a b) ∧ ((Lib.compareBytes a b == 0) = (a == b))
 | [],[] => by simp [Lib.compareBytes,Op.bytesLess]
 | [],_ :: _ => by simp [Lib.compareBytes,Op.bytesLess]
 | _ :: _,[] => by simp [Lib.compareBytes,Op.bytesLess]
 | x :: a,y :: b => by
  obtain ⟨h1,h2⟩:=Sn a b
  by_cases e:x = y
  ·subst e
   have hx:¬ x < x:=UInt8.lt_irrefl x
   simp only [Lib.compareBytes,Op.bytesLess,hx,if_false,decide_false,Bool.false_or,beq_self_eq_true,Bool.true_and]
   refine ⟨h1,?_⟩
   rw [h2,Bool.eq_iff_iff]; simp
  ·by_cases hlt:x < y
   ·simp [Lib.compareBytes,Op.bytesLess,hlt,e]
   ·have hgt:y < x:=UInt8.lt_of_le_of_ne (UInt8.not_lt.1 hlt) (Ne.symm e)
    simp [Lib.compareBytes,Op.bytesLess,hlt,hgt,e]
theorem iz (a b:List UInt8):GM a b = some (Lib.compareBytes a b):=id rfl
theorem Yx (a b:Int):FJ a b = some (if a < b then -1 else if b < a then 1 else 0):=by
 unfold FJ GR
 by_cases h1:a < b
 ·simp [h1]
 ·by_cases h2:b < a
  ·simp [h1,h2]
  ·simp [h1,h2]
theorem AGl (a b c:Int):KO [a,b,c] = some (if a ≠ 0 then a else if b ≠ 0 then b else c):=by
 unfold KO
 have hs:=Dq (step:=GW 0 [a,b,c] (([a,b,c]:List Int).length:Int)) (fun i => !(([a,b,c]:List Int).getD i default == 0)) (fun i => ([a,b,c]:List Int).getD i default) 3
  (fun i hi => by
   have h1:BA (i:Int) ([a,b,c]:List Int).length = true:=by rw [Ak]; simpa using hi
   have h2:decide ((i:Int) < (([a,b,c]:List Int).length:Int)) = true:=by simp; omega
   simp only [GW,h1,h2,AH,if_true,Int.toNat_natCast,Ar (show i < 9223372036854775807 by omega)]
   cases (!(([a,b,c]:List Int).getD i default == 0)) <;> rfl)
  (by simp [GW])
 rw [hs]
 by_cases ha:a = 0
 ·by_cases hb:b = 0
  ·by_cases hc:c = 0
   ·subst ha; subst hb; subst hc; rfl
   ·subst ha; subst hb
    have:(List.range 3).find? (fun i => !(([0,0,c]:List Int).getD i default == 0)) = some 2:=by
     rw [List.find?_range_eq_some]
     refine ⟨by simpa using hc,by simp,fun j hj => ?_⟩
     match j,hj with
     | 0,_ => rfl
     | 1,_ => rfl
    rw [this]; simp
  ·subst ha
   have:(List.range 3).find? (fun i => !(([0,b,c]:List Int).getD i default == 0)) = some 1:=by
    rw [List.find?_range_eq_some]
    refine ⟨by simpa using hb,by simp,fun j hj => ?_⟩
    match j,hj with
    | 0,_ => rfl
   rw [this]; simp [hb]
 ·have:(List.range 3).find? (fun i => !(([a,b,c]:List Int).getD i default == 0)) = some 0:=by
   rw [List.find?_range_eq_some]
   exact ⟨by simpa using ha,by simp,fun j hj => by omega⟩
  rw [this]; simp [ha]
def DM (a b:AA):Bool:=if a.Time = b.Time then (if a.Star = b.Star then Op.bytesLess a.Observer b.Observer else Op.bytesLess a.Star b.Star) else decide (a.Time < b.Time)
theorem Ng (a b:AA):CP a b = some (DM a b):=by
 unfold CP DM
 by_cases h1:a.Time = b.Time
 ·by_cases h2:a.Star = b.Star
  ·simp [h1,h2]
  ·simp [h1,h2]
 ·simp [h1]
theorem fD (a b:AA):∃ c,Ck a b = some c ∧ decide (c < 0) = DM a b:=by
 unfold Ck
 simp only [Yx,iz,AGl,Option.bind_some]
 refine ⟨_,rfl,?_⟩
 obtain ⟨s1,s2⟩:=Sn a.Star b.Star
 obtain ⟨o1,o2⟩:=Sn a.Observer b.Observer
 unfold DM
 by_cases h1:a.Time = b.Time
 ·simp only [h1,Int.lt_irrefl,if_false,ne_eq,not_true_eq_false,if_true]
  by_cases h2:a.Star = b.Star
  ·have e:Lib.compareBytes a.Star b.Star = 0:=by
    have:(a.Star == b.Star) = true:=by simpa using h2
    rw [this] at s2; simpa using s2
   simp only [e,not_true_eq_false,if_false,h2,if_true]
   have e2:Lib.compareBytes b.Star b.Star = 0:=by rw [← h2] at e ⊢; exact e
   simp [e2,o1]
  ·have e:¬ Lib.compareBytes a.Star b.Star = 0:=by
    have:(a.Star == b.Star) = false:=by simpa using h2
    rw [this] at s2; simpa using s2
   simp [e,h2,s1]
 ·by_cases h2:a.Time < b.Time
  ·simp [h1,h2]
  ·have h3:b.Time < a.Time:=by omega
   simp [h1,h2,h3]
def Mp (e:AA):Bool:=(((decide (0 ≤ e.Time) && decide (e.Time ≤ 10000000)) && IG e.Star) && IG e.Observer) && (decide (-2000 ≤ e.Mag) && decide (e.Mag ≤ 20000))
theorem ZX (e:AA):IC e = some (Mp e):=by
 unfold IC Mp
 simp only [Jt,Dk,EM,KF,Option.bind_some,Option.isSome_some,Option.getD_some,Bool.or_true,AH]
theorem Yl (e:AA):GP e = some (Mp e):=by
 unfold GP Mp
 simp only [Io,Cm,GC,KM,Option.bind_some,Option.isSome_some,Option.getD_some,Bool.or_true,AH]
def pR (l:List AA) (i:Nat):Bool:=Mp (l.getD i default) && !(decide (0 < i) && !DM (l.getD (i - 1) default) (l.getD i default))
def CZ (l:List AA):Bool:=(List.range l.length).all (pR l)
theorem su {l:List AA} (hl:l.length ≤ 1099511627776) {i:Nat} (hi:i < l.length):FO l (i:Int) = some (if pR l i = true then .inl ((i + 1:Nat):Int) else .inr (.inr false)):=by
 simp only [FO,Ak,hi,decide_true,AH,Int.ofNat_lt,if_true,Int.toNat_natCast,Ar (show i < 9223372036854775807 by omega),ZX,Ng,Option.bind_some,Option.isSome_some,Option.getD_some,Bool.or_true]
 unfold pR
 by_cases h0:0 < i
 ·have e0:decide ((0:Int) < (i:Int)) = true:=by simpa using h0
  have e1:decide (0 < i) = true:=by simpa using h0
  have w1:IntKind.i64.wrap ((i:Int) - 1) = ((i - 1:Nat):Int):=by rw [wrap_i64 (by omega) (by omega)]; omega
  have ok1:BA ((i - 1:Nat):Int) l.length = true:=by rw [Ak]; simp; omega
  simp only [e0,e1,w1,ok1,Bool.or_true,AH,Bool.true_and,Int.toNat_natCast]
  generalize Mp (l.getD i default) = A
  generalize DM (l.getD (i - 1) default) (l.getD i default) = B
  cases A <;> cases B <;> rfl
 ·have e0:decide ((0:Int) < (i:Int)) = false:=by simpa using h0
  have e1:decide (0 < i) = false:=by simpa using h0
  simp only [e0,e1,Bool.false_and,Bool.and_false,Bool.not_false,Bool.true_or,AH,Bool.or_false,Bool.and_true]
  generalize Mp (l.getD i default) = A
  cases A <;> rfl
theorem XO {l:List AA} (hl:l.length ≤ 1099511627776):Gl l = some (CZ l && decide (l.length ≤ 100)):=by
 unfold Gl
 rw [Ek (step:=FO l) (pR l) l.length (CZ l) (yes:=.inl ()) (no:=.inr false) (by unfold CZ; simp) (fun i hi => su hl hi) (by simp [FO])]
 have e:decide ((l.length:Int) ≤ 100) = decide (l.length ≤ 100):=by rw [Bool.eq_iff_iff]; simp; omega
 simp only [Option.bind_some,Ze]
 cases CZ l <;> simp [e]
theorem fw {l:List AA} (hl:l.length ≤ 1099511627776) {i:Nat} (hi:i < l.length):CF l l (l.length:Int) (i:Int) = some (if pR l i = true then .inl ((i + 1:Nat):Int) else .inr (.inr false)):=by
 obtain ⟨c,hc,hc2⟩:=fD (l.getD (i - 1) default) (l.getD i default)
 simp only [CF,Ak,hi,decide_true,AH,Int.ofNat_lt,if_true,Int.toNat_natCast,Ar (show i < 9223372036854775807 by omega),Yl,Option.bind_some,Option.isSome_some,Option.getD_some,Bool.or_true]
 unfold pR
 by_cases h0:0 < i
 ·have e0:decide ((0:Int) < (i:Int)) = true:=by simpa using h0
  have e1:decide (0 < i) = true:=by simpa using h0
  have w1:IntKind.i64.wrap ((i:Int) - 1) = ((i - 1:Nat):Int):=by rw [wrap_i64 (by omega) (by omega)]; omega
  have ok1:BA ((i - 1:Nat):Int) l.length = true:=by rw [Ak]; simp; omega
  simp only [e0,e1,w1,ok1,Bool.or_true,AH,Bool.true_and,Int.toNat_natCast,hc,Option.isSome_some,Option.getD_some]
  have e2:decide (0 ≤ c) = !DM (l.getD (i - 1) default) (l.getD i default):=by
   rw [← hc2,← decide_not]; congr 1; rw [Int.not_lt]
  rw [e2]
  generalize Mp (l.getD i default) = A
  generalize DM (l.getD (i - 1) default) (l.getD i default) = B
  cases A <;> cases B <;> rfl
 ·have e0:decide ((0:Int) < (i:Int)) = false:=by simpa using h0
  have e1:decide (0 < i) = false:=by simpa using h0
  simp only [e0,e1,Bool.false_and,Bool.and_false,Bool.not_false,Bool.true_or,AH,Bool.or_false,Bool.and_true]
  generalize Mp (l.getD i default) = A
  cases A <;> rfl
theorem Iv {l:List AA} (hl:l.length ≤ 1099511627776):DS l = some (CZ l && decide (l.length ≤ 100)):=by
 unfold DS
 by_cases h:100 < (l.length:Int)
 ·have e:decide (l.length ≤ 100) = false:=by simp; omega
  simp [h,e]
 ·have e:decide (l.length ≤ 100) = true:=by simp; omega
  simp only [h,decide_false,Bool.false_eq_true,if_false]
  rw [Ek (step:=CF l l (l.length:Int)) (pR l) l.length (CZ l) (yes:=.inl ()) (no:=.inr false) (by unfold CZ; simp) (fun i hi => fw hl hi) (by simp [CF])]
  simp only [Option.bind_some,Ze,e]
  cases CZ l <;> rfl
end Go.Proofs.YtfaenphcgfocnaaGreatDoor
