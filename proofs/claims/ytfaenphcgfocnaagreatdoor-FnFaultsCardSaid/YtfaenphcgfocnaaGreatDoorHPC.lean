/- Plain lemmas, several texts in one. No condition. -/
import Derived.Test.YtfaenphcgfocnaaGreatDoorFAL
import Derived.Test.YtfaenphcgfocnaaGreatDoorHPA
import Derived.Test.YtfaenphcgfocnaaGreatDoorHPB
namespace Go.Proofs.YtfaenphcgfocnaaGreatDoor
open Go Go.RowKit
set_option linter.unusedSimpArgs false
set_option linter.unusedVariables false
def okF (c:Int) (f:List AJ) (i:Nat):Bool :=
 ((decide (0 ≤ (f.getD i default).Index) && decide ((f.getD i default).Index ≤ c - 1)) && (decide (1 ≤ (f.getD i default).Kind) && decide ((f.getD i default).Kind ≤ 5))) &&
 !(decide (0 < i) && (decide ((f.getD i default).Index < (f.getD (i - 1) default).Index) || ((f.getD (i - 1) default).Index == (f.getD i default).Index && decide ((f.getD i default).Kind ≤ (f.getD (i - 1) default).Kind))))
def FW (c:Int) (f:List AJ):Bool:=(List.range f.length).all (okF c f)
theorem On (n:Int):Fv n = some (decide (1 ≤ n) && decide (n ≤ 5)):=by simp [Fv,EM]
theorem HI {f:List AJ} {c:Int} (h0:0 ≤ c) (h1:c ≤ 1099511627776) (hl:f.length ≤ 1099511627776):CH f c = some (FW c f):=by
 unfold CH
 rw [Ek (step:=Cd f c) (okF c f) f.length (FW c f) (yes:=.inl ()) (no:=.inr false)]
 ·simp only [Option.bind_some]
  cases FW c f <;> rfl
 ·unfold FW; simp
 ·intro i hi
  have w99:IntKind.i64.wrap (c - 1) = c - 1:=wrap_i64 (by omega) (by omega)
  simp only [Cd,Ak,hi,decide_true,AH,Int.ofNat_lt,if_true,Int.toNat_natCast,Ar (show i < 9223372036854775807 by omega),EM,On,Option.bind_some,Option.isSome_some,Option.getD_some,Bool.or_true,w99]
  unfold okF
  generalize hA:(decide (0 ≤ (f.getD i default).Index) && decide ((f.getD i default).Index ≤ c - 1)) = A
  generalize hB:(decide (1 ≤ (f.getD i default).Kind) && decide ((f.getD i default).Kind ≤ 5)) = B
  by_cases hAB:(A && B) = true
  ·have hAB2:(!A || !B) = false:=by cases A <;> cases B <;> simp_all
   rw [hAB2,hAB]
   simp only [Bool.false_eq_true,if_false,Bool.true_and]
   by_cases h0:0 < i
   ·have e0:decide ((0:Int) < (i:Int)) = true:=by simpa using h0
    have e1:decide (0 < i) = true:=by simpa using h0
    have w1:IntKind.i64.wrap ((i:Int) - 1) = ((i - 1:Nat):Int):=by rw [wrap_i64 (by omega) (by omega)]; omega
    have ok1:BA ((i - 1:Nat):Int) f.length = true:=by rw [Ak]; simp; omega
    simp only [e0,e1,w1,ok1,Bool.or_true,AH,Bool.true_and,Int.toNat_natCast]
    generalize (decide ((f.getD i default).Index < (f.getD (i - 1) default).Index) || ((f.getD (i - 1) default).Index == (f.getD i default).Index && decide ((f.getD i default).Kind ≤ (f.getD (i - 1) default).Kind))) = C
    cases C <;> rfl
   ·have e0:decide ((0:Int) < (i:Int)) = false:=by simpa using h0
    have e1:decide (0 < i) = false:=by simpa using h0
    simp only [e0,e1,Bool.false_and,Bool.not_false,Bool.true_or,AH,Bool.false_eq_true,if_false,if_true]
  ·have hAB1:(A && B) = false:=by simpa using hAB
   have hAB2:(!A || !B) = true:=by cases A <;> cases B <;> simp_all
   rw [hAB2,hAB1]
   simp
 ·simp [Cd]
theorem bD (f:List AJ) (c:Int):GN f c f (f.length:Int) = Cd f c:=by
 funext i
 simp only [GN,Cd,GC,EM,On]
theorem Og {f:List AJ} {c:Int} (h0:0 ≤ c) (h1:c ≤ 1099511627776) (hl:f.length ≤ 1099511627776):HJ f c = some (FW c f):=by
 rw [← HI h0 h1 hl]
 unfold HJ CH
 rw [bD]
theorem MG {c:Int} {f:List AJ} (h:FW c f = true) {i:Nat} (hi:i < f.length):1 ≤ (f.getD i default).Kind ∧ (f.getD i default).Kind ≤ 5:=by
 unfold FW at h
 have:=KR h hi
 simp only [okF,Bool.and_eq_true,decide_eq_true_eq] at this
 exact this.1.2
end Go.Proofs.YtfaenphcgfocnaaGreatDoor
namespace Go.Proofs.YtfaenphcgfocnaaGreatDoor
open Go Go.RowKit
set_option linter.unusedSimpArgs false
set_option linter.unusedVariables false
theorem ZV {f:List AJ} (hl:f.length ≤ 1099511627776) (i:Int):IA f i = some (f.any (·.Index == i)):=by
 unfold IA
 rw [Dq (step:=Ff f i) (fun k => (f.getD k default).Index == i) (fun _ => true) f.length
  (fun k hk => by
   simp only [Ff,Ak,hk,decide_true,AH,Int.ofNat_lt,if_true,Int.toNat_natCast,Ar (show k < 9223372036854775807 by omega)]
   cases ((f.getD k default).Index == i) <;> rfl)
  (by simp [Ff]),← ei]
 cases (List.range f.length).find? (fun k => (f.getD k default).Index == i) <;> rfl
theorem Mt {f:List AJ} (hl:f.length ≤ 1099511627776) (i:Int):GU f i = some (f.any (·.Index == i)):=by
 unfold GU BF BI
 rw [Dq (step:=Aj f i (f.length:Int)) (fun k => (f.getD k default).Index == i) (fun k => (k:Int)) f.length
  (fun k hk => by
   simp only [Aj,HM,Ak,hk,decide_true,AH,Int.ofNat_lt,if_true,Int.toNat_natCast,Ar (show k < 9223372036854775807 by omega),Option.bind_some]
   cases ((f.getD k default).Index == i) <;> rfl)
  (by simp [Aj]),← ei]
 cases (List.range f.length).find? (fun k => (f.getD k default).Index == i) with
 | none => rfl
 | some j => simp
theorem ci {l:List AA} {f:List AJ} (hl:l.length ≤ 1099511627776) (hf:f.length ≤ 1099511627776):Fw l f = some (if (CZ l && decide (l.length ≤ 100)) = true then (if FW l.length f = true then 0 else 2) else 1):=by
 unfold Fw
 rw [XO hl,HI (c:=l.length) (by omega) (by omega) hf]
 simp only [Option.bind_some]
 cases (CZ l && decide (l.length ≤ 100)) <;> cases FW l.length f <;> rfl
theorem MP {l:List AA} {f:List AJ} (hl:l.length ≤ 1099511627776) (hf:f.length ≤ 1099511627776):GD l f = some (if (CZ l && decide (l.length ≤ 100)) = true then (if FW l.length f = true then 0 else 2) else 1):=by
 unfold GD Dg
 rw [Iv hl]
 simp only [Option.bind_some]
 rw [Og (c:=l.length) (by omega) (by omega) hf]
 simp only [Option.bind_some]
 cases (CZ l && decide (l.length ≤ 100)) <;> cases FW l.length f <;> rfl
end Go.Proofs.YtfaenphcgfocnaaGreatDoor
namespace Go.Proofs.YtfaenphcgfocnaaGreatDoor
open Go Go.RowKit
set_option linter.unusedSimpArgs false
set_option linter.unusedVariables false
theorem ik:∀ a b:List UInt8,Op.bytesLess a b = decide (a < b)
 | [],[] => rfl
 | [],_ :: _ => by simp [Op.bytesLess]
 | _ :: _,[] => by simp [Op.bytesLess]
 | x :: a,y :: b => by
  have ih:=ik a b
  rw [Op.bytesLess,ih,Bool.eq_iff_iff]
  simp [List.cons_lt_cons_iff]
theorem wH (a:List UInt8):¬ a < a:=List.lt_irrefl a
theorem qd {a b c:List UInt8} (h1:a < b) (h2:b < c):a < c:=List.lt_trans h1 h2
def wG (a b:AA):Prop:=a.Time < b.Time ∨ (a.Time = b.Time ∧ (a.Star < b.Star ∨ (a.Star = b.Star ∧ a.Observer < b.Observer)))
def eqK (a b:AA):Prop:=a.Time = b.Time ∧ a.Star = b.Star ∧ a.Observer = b.Observer
theorem YQ (a b:AA):DM a b = true ↔ wG a b:=by
 unfold DM wG
 by_cases h1:a.Time = b.Time
 ·rw [if_pos h1]
  by_cases h2:a.Star = b.Star
  ·rw [if_pos h2,ik,decide_eq_true_eq]
   exact ⟨fun h => .inr ⟨h1,.inr ⟨h2,h⟩⟩,fun h => by
    rcases h with h | ⟨_,h | h⟩
    ·omega
    ·rw [h2] at h; exact absurd h (wH _)
    ·exact h.2⟩
  ·rw [if_neg h2,ik,decide_eq_true_eq]
   exact ⟨fun h => .inr ⟨h1,.inl h⟩,fun h => by
    rcases h with h | ⟨_,h | h⟩
    ·omega
    ·exact h
    ·exact absurd h.1 h2⟩
 ·rw [if_neg h1,decide_eq_true_eq]
  exact ⟨fun h => .inl h,fun h => by
   rcases h with h | h
   ·exact h
   ·exact absurd h.1 h1⟩
theorem AAW {a b c:AA} (h1:wG a b) (h2:wG b c):wG a c:=by
 unfold wG at *
 rcases h1 with h1 | ⟨e1,h1⟩
 ·rcases h2 with h2 | ⟨e2,_⟩
  ·exact .inl (by omega)
  ·exact .inl (by omega)
 ·rcases h2 with h2 | ⟨e2,h2⟩
  ·exact .inl (by omega)
  ·refine .inr ⟨by omega,?_⟩
   rcases h1 with h1 | ⟨f1,h1⟩
   ·rcases h2 with h2 | ⟨f2,_⟩
    ·exact .inl (qd h1 h2)
    ·exact .inl (f2 ▸ h1)
   ·rcases h2 with h2 | ⟨f2,h2⟩
    ·exact .inl (f1 ▸ h2)
    ·exact .inr ⟨f1.trans f2,qd h1 h2⟩
theorem eY {l:List AA} (hg:CZ l = true) {i:Nat} (hi:i + 1 < l.length):wG (l.getD i default) (l.getD (i + 1) default):=by
 unfold CZ at hg
 have:=KR hg hi
 unfold pR at this
 simp only [Nat.add_sub_cancel,Bool.and_eq_true,Bool.not_eq_true'] at this
 rw [← YQ]
 have h2:=this.2
 have e:decide (0 < i + 1) = true:=decide_eq_true (by omega)
 rw [e,Bool.true_and] at h2
 simpa using h2
theorem eX {l:List AA} (hg:CZ l = true):∀ (d i:Nat),i + d + 1 < l.length → wG (l.getD i default) (l.getD (i + d + 1) default)
 | 0,i,h => eY hg h
 | d + 1,i,h => AAW (eX hg d i (by omega)) (eY hg (i:=i + d + 1) h)
theorem nO {l:List AA} (hg:CZ l = true) {i j:Nat} (hij:i < j) (hj:j < l.length):wG (l.getD i default) (l.getD j default):=by
 have:=eX hg (j - i - 1) i (by omega)
 rwa [show i + (j - i - 1) + 1 = j by omega] at this
end Go.Proofs.YtfaenphcgfocnaaGreatDoor
namespace Go.Proofs.YtfaenphcgfocnaaGreatDoor
open Go Go.RowKit
set_option linter.unusedSimpArgs false
set_option linter.unusedVariables false
def Gn (p:Nat → Bool) (n:Nat):List Nat:=(List.range n).filter p
theorem eK {β:Type} (p:Nat → Bool) (x:Nat → β) (n:Nat):Hx (α:=β) p x n = (Gn p n).map x:=id rfl
theorem SY {p:Nat → Bool} {n k:Nat} (h:k < (Gn p n).length):(Gn p n)[k] < n ∧ p (Gn p n)[k] = true:=by
 have:=List.getElem_mem h
 unfold Gn at this
 rw [List.mem_filter,List.mem_range] at this
 exact this
theorem Zb {p:Nat → Bool} {n i j:Nat} (hij:i < j) (hj:j < (Gn p n).length):(Gn p n)[i] < (Gn p n)[j]:=by
 have:(Gn p n).Pairwise (· < ·):=List.Pairwise.filter p List.pairwise_lt_range
 exact List.pairwise_iff_getElem.1 this i j (by omega) hj hij
theorem Mq {l:List AA} {p:Nat → Bool} {n k:Nat} (h:k < (Gn p n).length):(Hx (α:=AA) p (fun i => l.getD i default) n).getD k default = l.getD (Gn p n)[k] default:=by
 rw [eK,Ch (by simpa using h)]
 simp
theorem TD {l:List AA} {p:Nat → Bool} {n:Nat}:(Hx (α:=AA) p (fun i => l.getD i default) n).length = (Gn p n).length:=by
 rw [eK]; simp
theorem nQ {l:List AA} (hg:CZ l = true) {i:Nat} (hi:i < l.length):Mp (l.getD i default) = true:=by
 unfold CZ at hg
 have:=KR hg hi
 unfold pR at this
 rw [Bool.and_eq_true] at this
 exact this.1
theorem iM {l:List AA} (hg:CZ l = true) (p:Nat → Bool):CZ (Hx (α:=AA) p (fun i => l.getD i default) l.length) = true:=by
 unfold CZ
 rw [List.all_eq_true]
 intro k hk
 have hk:k < (Gn p l.length).length:=by rw [List.mem_range,TD] at hk; exact hk
 unfold pR
 rw [Mq hk]
 have h1:=(nQ hg (SY hk).1)
 rw [h1,Bool.true_and]
 by_cases h0:0 < k
 ·rw [Mq (show k - 1 < (Gn p l.length).length by omega)]
  have:=nO hg (Zb (show k - 1 < k by omega) hk) (SY hk).1
  rw [← YQ] at this
  rw [this]; simp
 ·simp [h0]
def ltF (x y:AJ):Prop:=x.Index < y.Index ∨ (x.Index = y.Index ∧ x.Kind < y.Kind)
theorem tr {n:Int} {f:List AJ} (h1:∀ x ∈ f,(0 ≤ x.Index ∧ x.Index ≤ n - 1) ∧ 1 ≤ x.Kind ∧ x.Kind ≤ 5) (h2:f.Pairwise ltF):FW n f = true:=by
 unfold FW
 rw [List.all_eq_true]
 intro i hi
 rw [List.mem_range] at hi
 unfold okF
 obtain ⟨⟨a,b⟩,c,d⟩:=h1 _ (LW hi default)
 simp only [a,b,c,d,decide_true,Bool.and_self,Bool.true_and]
 by_cases h0:0 < i
 ·have:=List.pairwise_iff_getElem.1 h2 (i - 1) i (by omega) hi (by omega)
  rw [Ch hi,Ch (show i - 1 < f.length by omega)]
  generalize f[i] = x at this ⊢
  generalize f[i - 1] = y at this ⊢
  rcases this with h | ⟨h,h'⟩
  ·simp [h0]; omega
  ·simp [h0]; omega
 ·simp [h0]
theorem bP {k x:Int} {b:Bool} (h:x ∈ kd k b):x = k:=by
 unfold kd at h
 cases b
 ·simp at h
 ·simpa using h
theorem bN (a b c d e:Bool) (q:Bool):(kd 1 a ++ kd 2 b ++ (if q = true then kd 3 c ++ kd 4 d else []) ++ kd 5 e).Pairwise (· < ·):=by
 cases a <;> cases b <;> cases c <;> cases d <;> cases e <;> cases q <;> decide
theorem Ps (l:List AA) (i:Nat) (s:List Star) (o:List Observer) (m:Int):∃ a b c d q,Dw l i s o m = kd 1 a ++ kd 2 b ++ (if q = true then kd 3 c ++ kd 4 d else []) ++ kd 5 (Lh l (l.getD i default) i):=by
 unfold Dw
 cases LX s (l.getD i default).Star with
 | none => exact ⟨_,_,false,false,false,rfl⟩
 | some k => exact ⟨_,_,_,_,true,rfl⟩
theorem Yj (l:List AA) (i:Nat) (s:List Star) (o:List Observer) (m:Int):(Dw l i s o m).Pairwise (· < ·):=by
 obtain ⟨a,b,c,d,q,e⟩:=Ps l i s o m
 rw [e]; exact bN a b c d _ q
theorem mw {l:List AA} {i:Nat} {s:List Star} {o:List Observer} {m x:Int} (h:x ∈ Dw l i s o m):1 ≤ x ∧ x ≤ 5:=by
 obtain ⟨a,b,c,d,q,e⟩:=Ps l i s o m
 rw [e] at h
 simp only [List.mem_append] at h
 rcases h with ((h | h) | h) | h
 ·have:=bP h; omega
 ·have:=bP h; omega
 ·cases q
  ·simp at h
  ·simp only [if_true,List.mem_append] at h
   rcases h with h | h <;> (have:=bP h; omega)
 ·have:=bP h; omega
theorem YS {l:List AA} {s:List Star} {o:List Observer} {m:Int}:∀ {i:Nat} {x:AJ},x ∈ Eh l s o m i → (0 ≤ x.Index ∧ x.Index ≤ (i:Int) - 1) ∧ 1 ≤ x.Kind ∧ x.Kind ≤ 5
 | 0,x,h => by simp [Eh] at h
 | i + 1,x,h => by
  unfold Eh at h
  rcases List.mem_append.1 h with h | h
  ·have:=YS h; omega
  ·obtain ⟨k,hk,rfl⟩:=List.mem_map.1 h
   have:=mw hk
   simp only
   omega
theorem Qz (l:List AA) (s:List Star) (o:List Observer) (m:Int):∀ i:Nat,(Eh l s o m i).Pairwise ltF
 | 0 => by simp [Eh]
 | i + 1 => by
  unfold Eh
  rw [List.pairwise_append]
  refine ⟨Qz l s o m i,?_,?_⟩
  ·rw [List.pairwise_map]
   exact (Yj l i s o m).imp (fun h => .inr ⟨rfl,h⟩)
  ·intro x hx y hy
   have:=YS hx
   obtain ⟨k,hk,rfl⟩:=List.mem_map.1 hy
   left
   simp only
   omega
theorem iq (l:List AA) (s:List Star) (o:List Observer) (m:Int):FW (l.length:Int) (Eh l s o m l.length) = true :=
 tr (fun x hx => YS hx) (Qz l s o m l.length)
theorem ai {l:List AA} {s:List Star} {o:List Observer} {m:Int}:∀ {n i:Nat},i < n → Dw l i s o m ≠ [] → (Eh l s o m n).any (·.Index == (i:Int)) = true
 | 0,i,h,_ => by omega
 | n + 1,i,h,hk => by
  unfold Eh
  rw [List.any_append]
  by_cases e:i = n
  ·subst e
   rw [Bool.or_eq_true]
   right
   cases hq:Dw l i s o m with
   | nil => exact absurd hq hk
   | cons x r => simp
  ·rw [ai (show i < n by omega) hk]; rfl
theorem ah {l:List AA} {s:List Star} {o:List Observer} {m:Int}:∀ {n:Nat},(∀ i,i < n → Dw l i s o m = []) → Eh l s o m n = []
 | 0,_ => rfl
 | n + 1,h => by
  unfold Eh
  rw [ah (fun i hi => h i (by omega)),h n (by omega)]
  rfl
theorem gz {l l':List AA} {i j:Nat} {s:List Star} {o:List Observer} {m:Int} (he:l'.getD i default = l.getD j default) (ht:Lh l' (l'.getD i default) i = true → Lh l (l.getD j default) j = true) (h:Dw l j s o m = []):Dw l' i s o m = []:=by
 unfold Dw at h ⊢
 rw [he] at ht ⊢
 simp only [List.append_eq_nil_iff] at h ⊢
 refine ⟨h.1,?_⟩
 cases hq:Lh l' (l.getD j default) i with
 | false => rfl
 | true =>
  have:=h.2
  rw [ht hq] at this
  exact absurd this (by decide)
theorem iU {l:List AA} (hg:CZ l = true) (s:List Star) (o:List Observer) (m:Int) :
  ∀ l',l' = Hx (α:=AA) (fun i => !((Eh l s o m l.length).any (·.Index == (i:Int)))) (fun i => l.getD i default) l.length → Eh l' s o m l'.length = []:=by
 intro l' hl'
 refine ah fun i hi => ?_
 subst hl'
 rw [TD] at hi
 have hq:=SY hi
 have hk:Dw l (Gn (fun i => !((Eh l s o m l.length).any (·.Index == (i:Int)))) l.length)[i] s o m = []:=by
  cases hc:Dw l (Gn (fun i => !((Eh l s o m l.length).any (·.Index == (i:Int)))) l.length)[i] s o m with
  | nil => rfl
  | cons x r =>
   have:=ai (l:=l) (s:=s) (o:=o) (m:=m) hq.1 (by rw [hc]; simp)
   rw [this] at hq
   exact absurd hq.2 (by decide)
 refine gz (Mq hi) ?_ hk
 intro ht
 rw [Mq hi] at ht
 unfold Lh at ht ⊢
 rw [List.any_eq_true] at ht ⊢
 obtain ⟨j,hj,hp⟩:=ht
 rw [List.mem_range] at hj
 rw [Mq (show j < (Gn (fun i => !((Eh l s o m l.length).any (·.Index == (i:Int)))) l.length).length by omega)] at hp
 exact ⟨_,List.mem_range.2 (Zb hj hi),hp⟩
theorem vI {l:List AA} {f:List AJ} (hl:l.length ≤ 1048576) (hf:f.length ≤ 1048576) (hg:(CZ l && decide (l.length ≤ 100)) = true) (hq:FW l.length f = true) :
  CM l f = some (Hx (α:=AA) (fun i => !(f.any (·.Index == (i:Int)))) (fun i => l.getD i default) l.length,0):=by
 unfold CM
 rw [MP (by omega) (by omega),if_pos hg,if_pos hq]
 simp only [Option.bind_some,beq_self_eq_true,Bool.not_true,Bool.false_eq_true,if_false]
 rw [OL (step:=Bd f l (l.length:Int)) (fun i => !(f.any (·.Index == (i:Int)))) (fun i => l.getD i default) l.length (fun out i hi ho => by
  simp only [Bd,Ak,hi,decide_true,AH,Int.ofNat_lt,if_true,Int.toNat_natCast,Ar (show i < 9223372036854775807 by omega),Mt (show f.length ≤ 1099511627776 by omega),Option.bind_some,
   Bf (show (out.length + ([l.getD i default]:List AA).length) * 56 ≤ 140737488355328 by simp; omega)]
  cases f.any (·.Index == (i:Int)) <;> rfl) (by simp [Bd]; rfl)]
 rfl
theorem vJ {l:List AA} {s:List Star} {o:List Observer} (hl:l.length ≤ 1048576) (hs:s.length ≤ 1048576) (ho:o.length ≤ 1048576) (m:Int) :
  ∃ r c,r.length ≤ 1048576 ∧ DO l s o m = some (r,c) ∧ Bj l s o m = some (r,c) ∧
   (c = 0 → r = Eh l s o m l.length ∧ (CZ l && decide (l.length ≤ 100)) = true ∧ ∀ l',CZ l' = true → l'.length ≤ 100 → Bj l' s o m = some (Eh l' s o m l'.length,0)):=by
 obtain ⟨r,c,hr,e1,e2⟩:=jA hl hs ho m
 refine ⟨r,c,hr,e1,e2,fun hc => ?_⟩
 subst hc
 have key:∀ l',l'.length ≤ 1048576 → Bj l' s o m = some (if ((!(CZ l' && decide (l'.length ≤ 100)) || !(MT s && decide (s.length ≤ 60))) || !(Me o)) = true then (([]:List AJ),(1:Int)) else if (!(decide (0 ≤ m) && decide (m ≤ 20000))) = true then ([],2) else (Eh l' s o m l'.length,0)):=by
  intro l hl
  unfold Bj
  rw [Iv (by omega),OI (by omega),Ks (by omega)]
  simp only [Option.bind_some,Option.isSome_some,Option.getD_some,Bool.or_true,AH,EM,GC]
  by_cases hv:((!(CZ l && decide (l.length ≤ 100)) || !(MT s && decide (s.length ≤ 60))) || !(Me o)) = true
  ·rw [if_pos hv,if_pos hv]
  rw [if_neg hv,if_neg hv]
  by_cases hm:(!(decide (0 ≤ m) && decide (m ≤ 20000))) = true
  ·rw [if_pos hm,if_pos hm]
  rw [if_neg hm,if_neg hm]
  have h100:l.length ≤ 100:=by
   simp only [Bool.or_eq_true,Bool.not_eq_true',Bool.and_eq_false_iff,not_or] at hv
   have:=hv.1.1.2
   simpa using this
  have e2:=JD (step:=BS l s o m (l.length:Int)) (fun i => (Eh l s o m i,(i:Int))) l.length (r:=Eh l s o m l.length) (fun i hi => by
   have hk:=Ly l i s o m
   have ha:=Le l s o m i
   simp only [BS,Int.ofNat_lt,hi,decide_true,if_true,XQ (show l.length ≤ 1099511627776 by omega) (show s.length ≤ 1099511627776 by omega) (show o.length ≤ 1099511627776 by omega) m hi,Option.bind_some]
   rw [Oe (ks:=Dw l i s o m) (i:=(i:Int)) (fun out k hk' ho' => by
    simp only [CG,Int.ofNat_lt,hk',decide_true,if_true,Ak,AH,Int.toNat_natCast,Ar (show k < 9223372036854775807 by omega),Bf (show (out.length + ([(AJ.mk (i:Int) ((Dw l i s o m).getD k default))]:List AJ).length) * 16 ≤ 140737488355328 by simp; omega)]) (fun out => by simp [CG]) (by omega),Option.bind_some,Ar (show i < 9223372036854775807 by omega)]
   rfl) (by simp [BS])
  have e2':AL (BS l s o m (l.length:Int)) ([],0) = _:=e2
  rw [e2']; rfl
 rw [key l hl] at e2
 by_cases hv:((!(CZ l && decide (l.length ≤ 100)) || !(MT s && decide (s.length ≤ 60))) || !(Me o)) = true
 ·rw [if_pos hv] at e2
  simp at e2
 rw [if_neg hv] at e2
 by_cases hm:(!(decide (0 ≤ m) && decide (m ≤ 20000))) = true
 ·rw [if_pos hm] at e2
  simp at e2
 rw [if_neg hm] at e2
 simp only [Option.some.injEq,Prod.mk.injEq,and_true] at e2
 simp only [Bool.or_eq_true,Bool.not_eq_true',not_or,Bool.not_eq_false] at hv
 refine ⟨e2.symm,hv.1.1,fun l' hg' hl' => ?_⟩
 have h1:(CZ l' && decide (l'.length ≤ 100)) = true:=by simp [hg',hl']
 rw [key l' (by omega),if_neg (by rw [h1,hv.1.2,hv.2]; decide),if_neg hm]
end Go.Proofs.YtfaenphcgfocnaaGreatDoor
