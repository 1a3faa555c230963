/- One instruction. No condition. -/
import Derived.Test.YtfaenphcgfocnaaGreatDoorEngS
namespace Go.Proofs.YtfaenphcgfocnaaGreatDoor
open Go Go.RowKit
set_option linter.unusedSimpArgs false
set_option linter.unusedVariables false
theorem iN {s:St} {k:Nat} {h:Option Hm}:(freezeH s k h).ok = s.ok:=by cases h <;> rfl
theorem FG:∀ (ks:List Nat) (s:St),(freezeAll s ks).ok = s.ok
 | [],_ => rfl
 | k :: r,s => by simp only [freezeAll]; rw [FG r,iN]
theorem kO {s:St} {sz:Nat} {x p:AV} (h:(IL s sz x p).ok = true):s.ok = true:=by
 cases p <;> simp only [IL,fail] at h <;> try (cases h; done)
 rename_i k i off
 cases ho:AN k s.ob with
 | none => rw [ho] at h; simp [ON,fail] at h
 | some hm =>
  rw [ho] at h
  simp only [ON,PQ,Bool.and_eq_true] at h
  exact h.1
theorem yQ {s:St} {key:Nat} {D:Gk} {sz bytes:Nat} {y:Ap} {a:AV} (h:(PC s key D sz bytes y a).ok = true):s.ok = true:=by
 cases a <;> simp only [PC,fail] at h <;> try (cases h; done)
 case nilsl => exact (FY h).1
 case own k =>
  cases ho:AN k s.ob with
  | none => rw [ho] at h; simp [So,fail] at h
  | some hm => rw [ho] at h; exact (Pg h).1
theorem kH {s:St} {D:Gk} {sz:Nat} {n:Int} {a:AV} (h:(IK s D sz n a).ok = true):s.ok = true:=by
 cases a <;> simp only [IK,fail] at h <;> try (cases h; done)
 rename_i k
 cases ho:AN k s.ob with
 | none => rw [ho] at h; simp [Ry,fail] at h
 | some hm => rw [ho] at h; exact (Pg h).1
theorem Gx:∀ (ms:List Md) (as os:List AV) (s:St),(Am s ms as os).ok = true → s.ok = true
 | [],[],[],s,h => h
 | [],[],q :: os,s,h => by simp [Am,fail] at h
 | [],a :: as,os,s,h => by simp [Am,fail] at h
 | m :: ms,[],os,s,h => by cases m <;> simp [Am,fail] at h
 | m :: ms,a :: as,[],s,h => by cases m <;> cases a <;> simp [Am,fail] at h
 | .bor :: ms,a :: as,q :: os,s,h => Gx ms as os s h
 | .io :: ms,a :: as,q :: os,s,h => by
  unfold Am at h
  split at h
  ·simp_all
  ·rename_i e1 e2 e3; simp only [List.cons.injEq] at e1 e2 e3; obtain ⟨_,rfl⟩:=e1; obtain ⟨_,rfl⟩:=e2; obtain ⟨_,rfl⟩:=e3; have:=Gx _ _ _ _ h; exact this
  ·rename_i e1 e2 e3; simp only [List.cons.injEq] at e1 e2 e3; obtain ⟨_,rfl⟩:=e1; obtain ⟨_,rfl⟩:=e2; obtain ⟨_,rfl⟩:=e3; have:=Gx _ _ _ _ h; exact this
  ·simp_all
  ·simp_all
  ·simp_all
  ·simp [fail] at h
 | .mov :: ms,a :: as,q :: os,s,h => by
  cases a <;> simp only [Am,fail] at h <;> try (cases h; done)
  ·have:=Gx _ _ _ _ h; exact this
  ·have:=Gx _ _ _ _ h; exact this
theorem uO {s:St} {key:Nat} {D:Gk} {as:List AV} {C:Option Ax} (h:(Kr s key D as C).ok = true):s.ok = true:=by
 cases C with
 | none => simp [Kr,fail] at h
 | some C =>
  simp only [Kr,Lb] at h
  have h1:=Gx _ _ _ _ (FY h).1
  unfold PK at h1
  rw [AO] at h1
  split at h1
  ·exact h1
  ·rwa [FG] at h1
theorem LZ {T:Ht} {s:St} {key:Nat} {D:Gk} {c:zh} (h:(Hy T s key D c).ok = true):s.ok = true ∧ c.ok = true:=by
 have:=uO h
 simpa using this
theorem yI {T:Ht} {s:St} {key:Nat} {D:Gk} {a:Hc} (h:(By T s key D a).ok = true):s.ok = true:=by
 cases a <;> simp only [By] at h
 case callw => cases h
 case store => have:=kO h; rwa [FG] at this
 case app => exact yQ h
 case call => exact (LZ h).1
 case callv => exact (LZ h).1
 case box => have:=(FY h).1; rwa [FG] at this
 case build => have:=(FY h).1; rwa [FG] at this
 case mkSl => have:=(FY h).1; rwa [FG] at this
 case slice => have:=(FY h).1; rwa [FG] at this
 case movz => have:=(FY h).1; rwa [FG] at this
 case trunc => exact kH h
 all_goals exact (FY h).1
theorem bB {s:St} {w:Bool} {D:Gk} {m:Mk} (h:(Kz s w D m).ok = true):s.ok = true ∧ (w = true → m.ok = true ∧ m.hs = [] ∧ m.v.lone = true):=by
 obtain ⟨h1,h2⟩:=Pg h
 refine ⟨h1,fun e => ?_⟩
 subst e
 simpa using h2
theorem eS {T:Ht} {s:St} {key:Nat} {D:Gk} {w:Bool} {a:Hc} (h:(Jp T s key D w a).ok = true):s.ok = true:=by
 unfold Jp at h
 split at h
 ·unfold iI at h
  split at h
  ·exact (LZ h).1
  ·exact (bB h).1
 ·exact (bB h).1
theorem fB {T:Ht} {s:St} {i:Jx} (h:(CS T s i).ok = true):s.ok = true:=by
 unfold CS Sb at h
 split at h
 ·exact yI h
 ·have:=eS h; simp at this; exact this.1
theorem KB {T:Ht}:∀ (is:List Jx) {s:St},(EG T is s).ok = true → s.ok = true
 | [],_,h => h
 | i :: r,s,h => fB (KB r h)
def dG (P:Program) (vm ss:List Nat) (D:Gk) (op:Op) (a:Hc):Bool :=
 match a with
 | .store sz p x => D == .no && iZ P vm ss sz p x op
 | .app sz bytes z a x => yO P vm ss sz bytes z a x op
 | .call f args => NH vm ss f args op
 | .callv f args => Sm vm ss f args op
 | .callp f args => NH vm ss f args op
 | .pur (.call f args) => NH vm ss f args op
 | .pur (.callv f args) => Sm vm ss f args op
 | .pur a => BB a && LF P vm ss op a
 | .pick c a b => ae vm ss c a b op
 | .flat a => dG P vm ss D op a
 | .trunc sz x hi => iY P vm ss sz x hi op
 | .movz x => LF P vm ss op (.mov x)
 | .safe _ a => dG P vm ss D op a
 | a => LF P vm ss op a
section
variable {F Iow:Nat → Prop} {w0:World} {g0:Gh} {o0:CB} {g:Gh} {w w':World} {tmps:Array Value} {ds:List Deferred} {vm ss ss':List Nat} {s:St} {P:Program} {o:Oper} {key:Nat} {T:Ht} {D:Gk}
 {K:Act → World → Prop} {Q:Exit → Act → World → Prop}
theorem II (h:FR F g w tmps vm ss s) {xs:Array Operand} {ys:List CA} (hc:Ma vm ss xs.toList ys = true):(xs.map ({ tmps:=tmps,defers:=ds }:Act).eval).size = (ys.map (rd s)).length ∧
  ∀ j,j < (ys.map (rd s)).length → SR (AW F g s.ob) w g s.ob ((xs.map ({ tmps:=tmps,defers:=ds }:Act).eval).getD j undef) ((ys.map (rd s)).getD j .any):=by
 refine ⟨by simpa using NC hc,fun j hj => ?_⟩
 have:=ND (ds:=ds) h j hc (by simpa using hj)
 rw [← DV,Array.toList_map]
 exact this
theorem PB {S:Nat → Prop} {ob:CB} {v1 vals v2:Array Value} {a1 as a2:List AV} (n1:v1.size = a1.length) (n:vals.size = as.length) (n2:v2.size = a2.length)
  (h1:∀ j,j < a1.length → SR S w g ob (v1.getD j undef) (a1.getD j .any)) (h:∀ j,j < as.length → SR S w g ob (vals.getD j undef) (as.getD j .any)) (h2:∀ j,j < a2.length → SR S w g ob (v2.getD j undef) (a2.getD j .any)) :
  (v1 ++ vals ++ v2).size = (a1 ++ as ++ a2).length ∧ ∀ j,j < (a1 ++ as ++ a2).length → SR S w g ob ((v1 ++ vals ++ v2).getD j undef) ((a1 ++ as ++ a2).getD j .any):=by
 refine ⟨by simp [n1,n,n2],fun j hj => ?_⟩
 simp only [List.length_append] at hj
 rw [NI,NI,GE,GE]
 simp only [Array.size_append,List.length_append,n1,n]
 by_cases c1:j < a1.length + as.length
 ·rw [if_pos c1,if_pos c1]
  by_cases c2:j < a1.length
  ·rw [if_pos c2,if_pos c2]; exact h1 j c2
  ·rw [if_neg c2,if_neg c2]; exact h _ (by omega)
 ·rw [if_neg c1,if_neg c1]; exact h2 _ (by omega)
theorem NE {args:List AV} {a:AV} (h:(Hr args a).ok = true):∃ f a1 a2,a = .fn (.func f) a1 a2 ∧ Hr args a = ⟨true,f,a1 ++ args ++ a2⟩:=by
 unfold Hr at h ⊢
 split
 ·exact ⟨_,_,_,rfl,rfl⟩
 ·rename_i hne
  split at h
  ·exact absurd rfl (hne _ _ _)
  ·cases h
theorem OO (h:FX F Iow w0 g0 o0 g w tmps vm ss s) (hnd:MQ vm) (hd:Dd vm ss o.dst D = some ss') (hfit:∀ d,o.dst = some d → d < tmps.size) {m:Mk} (hp:BG (AW F g s.ob) w g s.ob key m ((execOp ({ tmps:=tmps,defers:=ds }:Act).eval o).run P w))
  (hK:∀ tmps' w' g',tmps'.size = tmps.size → FX F Iow w0 g0 o0 g' w' tmps' vm ss' (Ca s key D m) → K ⟨tmps',ds⟩ w'):o.upon P ⟨tmps,ds⟩ K Q ((execOp ({ tmps:=tmps,defers:=ds }:Act).eval o).run P w):=by
 obtain ⟨v,w',g',hr,hfx⟩:=h.still hnd hd hfit hp
 rw [hr,Oper.upon_value,Ls]
 exact hK _ _ _ (IE _ _ _) hfx
theorem jo {a:AV} (h:Cf a = true) (ob:CB):a.dv ob = a:=by cases a <;> first | rfl | (cases h)
theorem OG:∀ (ms:List Md) (as:List AV) (ob ob':CB),(∀ a,a ∈ as → Cf a = true) → BV ob ms as = BV ob' ms as
 | [],_,_,_,_ => rfl
 | _ :: _,[],_,_,_ => rfl
 | m :: ms,a :: as,ob,ob',h => by
  have h1:=h a (by simp)
  simp only [BV]
  rw [OG ms as ob ob' fun x hx => h x (by simp [hx])]
  congr 1
  cases m
  ·simp only [DI]; rw [jo h1,jo h1]
  ·cases a <;> first | rfl | (cases h1)
  ·cases a <;> first | rfl | (cases h1)
theorem iX {T:Ht} {f:Nat} {as:List AV} {ob ob':CB} (h:∀ a,a ∈ as → Cf a = true):CJ T ob ⟨true,f,as⟩ = CJ T ob' ⟨true,f,as⟩:=by
 simp only [CJ]
 cases T f with
 | none => rfl
 | some C => simp only [YM]; rw [OG C.modes as ob ob' h]
theorem tz {b:Bool} {m:Mk} (h:(Ko b m).ok = true):b = true ∧ Ko b m = m:=by
 unfold Ko at h ⊢
 rw [AO] at h ⊢
 split at h
 ·rename_i hb
  simp only [Bool.and_eq_true,List.isEmpty_iff] at hb
  rw [if_pos (by simp [hb.1,hb.2.1,hb.2.2])]
  refine ⟨hb.1,?_⟩
  cases m
  simp only at hb ⊢
  rw [hb.2.1]
 ·cases h
theorem nW {T:Ht} {s:St} {key:Nat} {D:Gk} {a:Hc} (hok:(By T s key D (.flat a)).ok = true):By T s key D (.flat a) = By T s key D a:=by
 simp only [By] at hok ⊢
 obtain ⟨_,hm⟩:=FY hok
 obtain ⟨hb,he⟩:=tz hm
 rw [he] at hm ⊢
 have hs:∀ x,x ∈ Dp a → Cf (rd s x) = true:=fun x hx => List.all_eq_true.1 hb x hx
 cases a <;> simp only [Gt] at hm ⊢ <;> (try (cases hm; done))
 case callp f args =>
  rw [iX (ob':=s.ob) fun y hy => by
   obtain ⟨x,hx,rfl⟩:=List.mem_map.1 hy
   exact hs x hx]
 case pur b =>
  cases b <;> simp only [Gt] at hm ⊢ <;> (try (cases hm; done))
  rfl
 case len st x =>
  have h1:=hs x (by simp [Dp,BK])
  have e:AS (rd s) [] key (.len st x) = AS (rd s) s.ob key (.len st x):=by
   simp only [AS]
   revert h1
   generalize rd s x = y
   intro h1
   cases y <;> first | rfl | (cases h1)
  show Ca s key D (AS (rd s) [] key (.len st x)) = Ca s key D (AS (rd s) s.ob key (.len st x))
  rw [e]
 all_goals rfl
theorem jL {T:Ht} {s:St} {key:Nat} {a:Hc}:HU T s key a = Mo T (rd s) s.ob key a:=by cases a <;> rfl
theorem uB {ob ob':CB} {a:AV} (h:∀ k,k ∈ a.key1 → AN k ob = AN k ob'):a.dv1 ob = a.dv1 ob':=by
 cases a <;> (try rfl)
 ·rename_i k; simp only [AV.dv1]; rw [h k (by simp [AV.key1])]
 ·rename_i k i off; simp only [AV.dv1]; rw [h k (by simp [AV.key1])]
theorem AGj {ob ob':CB} {a:AV} (h:∀ k,k ∈ a.keys → AN k ob = AN k ob'):a.dv ob = a.dv ob':=by
 cases a <;> (try rfl)
 ·rename_i f fi ca
  simp only [AV.keys,List.mem_flatMap,List.mem_append] at h
  simp only [AV.dv]
  rw [List.map_congr_left (l:=fi) (g:=AV.dv1 ob') fun x hx => uB fun k hk => h k ⟨x,.inl hx,hk⟩,List.map_congr_left (l:=ca) (g:=AV.dv1 ob') fun x hx => uB fun k hk => h k ⟨x,.inr hx,hk⟩]
 ·rename_i k; simp only [AV.dv]; rw [h k (by simp [AV.keys])]
 ·rename_i k i off; simp only [AV.dv]; rw [h k (by simp [AV.keys])]
theorem eQ {ob ob':CB} {a:AV} (h:∀ k,k ∈ a.keys → AN k ob = AN k ob'):IH ob a = IH ob' a:=by
 cases a <;> (try rfl)
 ·rename_i k; simp only [IH]; rw [h k (by simp [AV.keys])]
 ·rename_i k i off
  cases off <;> (try rfl)
  simp only [IH]; rw [h k (by simp [AV.keys])]
theorem TG:∀ (ms:List Md) (as:List AV) {ob ob':CB},(∀ a,a ∈ as → ∀ k,k ∈ a.keys → AN k ob = AN k ob') → BV ob ms as = BV ob' ms as
 | [],_,_,_,_ => rfl
 | _ :: _,[],_,_,_ => rfl
 | m :: ms,a :: as,ob,ob',h => by
  simp only [BV]
  rw [TG ms as fun x hx => h x (by simp [hx])]
  congr 1
  cases m
  ·exact AGj (h a (by simp))
  ·exact eQ (h a (by simp))
  ·exact eQ (h a (by simp))
theorem fJ {T:Ht} {f:Nat} {as:List AV} {ob ob':CB} (h:∀ a,a ∈ as → ∀ k,k ∈ a.keys → AN k ob = AN k ob'):CJ T ob ⟨true,f,as⟩ = CJ T ob' ⟨true,f,as⟩:=by
 simp only [CJ]
 cases T f with
 | none => rfl
 | some C => simp only [YM]; rw [TG C.modes as h]
theorem dU {r:CA → AV} {ob ob':CB} {key:Nat} {a:Hc} (h:∀ x,x ∈ BK a → ∀ k,k ∈ (r x).keys → AN k ob = AN k ob'):AS r ob key a = AS r ob' key a:=by
 cases a <;> (try rfl)
 case load agg sz p =>
  have h1:=h p (by simp [BK])
  simp only [AS]
  revert h1
  generalize r p = y
  intro h1
  cases y <;> (try rfl)
  rename_i k i off
  simp only [Kl]; rw [h1 k (by simp [AV.keys])]
 case b2s x =>
  have h1:=h x (by simp [BK])
  simp only [AS]
  revert h1
  generalize r x = y
  intro h1
  cases y <;> (try rfl)
  rename_i k
  simp only [Ti]; rw [h1 k (by simp [AV.keys])]
 case ixAddr sz x i =>
  have h1:=h x (by simp [BK])
  simp only [AS]
  revert h1
  generalize r x = y
  intro h1
  cases y <;> (try rfl)
  rename_i k
  simp only [Im]; rw [h1 k (by simp [AV.keys])]
 case len st x =>
  have h1:=h x (by simp [BK])
  simp only [AS]
  revert h1
  generalize r x = y
  intro h1
  cases y <;> (try rfl)
  rename_i k
  simp only [Tb]; rw [h1 k (by simp [AV.keys])]
theorem px {T:Ht} {r:CA → AV} {ob ob':CB} {key:Nat} {a:Hc} (h:∀ x,x ∈ DG a → ∀ k,k ∈ (r x).keys → AN k ob = AN k ob'):HT T r ob key a = HT T r ob' key a:=by
 have hm:∀ l:List CA,(∀ x,x ∈ l → x ∈ DG a) → ∀ y,y ∈ l.map r → ∀ k,k ∈ y.keys → AN k ob = AN k ob':=fun l hl y hy => by
  obtain ⟨x,hx,rfl⟩:=List.mem_map.1 hy
  exact h x (hl x hx)
 cases a <;> (try rfl)
 case callp f args => simp only [HT]; rw [fJ (hm args fun x hx => hx)]
 case pur b =>
  have h':∀ x,x ∈ BK b → ∀ k,k ∈ (r x).keys → AN k ob = AN k ob':=h
  clear h
  cases b
  case callv => rfl
  case call f args => simp only [HT,Mo]; rw [fJ (hm args fun x hx => hx)]
  all_goals
   simp only [HT,Mo]
   rw [dU h']
 all_goals
  simp only [HT]
  rw [dU (by simpa only [DG] using h)]
theorem Po {d k:Nat} (hk:k / 32 ≠ d):∀ ob:CB,AN k (DW d ob) = AN k ob
 | [] => rfl
 | p :: r => by
  have ih:=Po hk r
  by_cases c:p.1 / 32 = d
  ·have hne:(p.1 == k) = false:=by rw [beq_eq_false_iff_ne]; intro e; exact hk (by rw [← e]; exact c)
   simp only [DW,AN,c,beq_self_eq_true,cond_true,hne,cond_false,ih]
  ·have:(p.1 / 32 == d) = false:=by simpa using c
   simp only [DW,AN,this,cond_false,ih]
theorem Pn {k:Nat}:∀ (ds:List Nat) (ob:CB),(∀ d,d ∈ ds → k / 32 ≠ d) → AN k (JK ds ob) = AN k ob
 | [],_,_ => rfl
 | d :: ds,ob,h => by
  simp only [JK]
  rw [Pn ds _ fun e he => h e (by simp [he]),Po (h d (by simp))]
theorem dr {ds:List Nat} {a:AV} (h:Lt ds a = true) {k:Nat} (hk:k ∈ a.keys):∀ d,d ∈ ds → k / 32 ≠ d:=by
 intro d hd e
 simp only [Lt,Bool.and_eq_true,Bool.not_eq_true',List.any_eq_false] at h
 have:=h.2 k hk
 apply this
 rw [List.any_eq_true]
 exact ⟨d,hd,by simpa using e.symm⟩
theorem pw {b:Bool} {ds:List Nat} {m:Mk} (h:(XC b ds m).ok = true):b = true ∧ m.hs = [] ∧ XC b ds m = m:=by
 unfold XC at h ⊢
 rw [AO] at h ⊢
 split at h
 ·rename_i hc
  simp only [Bool.and_eq_true,List.isEmpty_iff] at hc
  refine ⟨hc.1,hc.2.1,?_⟩
  rw [if_pos (by simp [hc.1,hc.2.1,hc.2.2])]
  obtain ⟨a,b,c⟩:=m
  obtain ⟨_,rfl,_⟩:=hc
  rfl
 ·cases h
theorem kT {T:Ht} {s:St} {key:Nat} {D:Gk} {ks:List Nat} {a:Hc} (hok:(By T s key D (.safe ks a)).ok = true):By T s key D (.safe ks a) = By T s key D a:=by
 simp only [By] at hok ⊢
 obtain ⟨_,hm⟩:=FY hok
 unfold JB at hm ⊢
 obtain ⟨hb,-,he⟩:=pw hm
 rw [he] at hm ⊢
 have hs:∀ x,x ∈ DG a → ∀ k,k ∈ (rd s x).keys → AN k (JK ks s.ob) = AN k s.ob:=fun x hx k hk =>
  Pn ks _ (dr (List.all_eq_true.1 hb x hx) hk)
 rw [px hs] at hm ⊢
 cases a
 case pur b =>
  cases b
  case callv => simp [HT,bad] at hm
  all_goals
   simp only [HT,By,jL]
 case pick => rfl
 case callp => rfl
 all_goals first
  | rfl
  | (simp [HT,EE,bad] at hm; done)
theorem bE (hT:JL P T) (h:FX F Iow w0 g0 o0 g w tmps vm ss s) (hnd:MQ vm) (hd:Dd vm ss o.dst D = some ss') (hfit:∀ d,o.dst = some d → d < tmps.size) {a:Hc} (hc:dG P vm ss D o.op a = true) (hok:(By T s key D a).ok = true)
  (hK:∀ tmps' w' g',tmps'.size = tmps.size → FX F Iow w0 g0 o0 g' w' tmps' vm ss' (By T s key D a) → K ⟨tmps',ds⟩ w'):o.upon P ⟨tmps,ds⟩ K Q ((execOp ({ tmps:=tmps,defers:=ds }:Act).eval o).run P w):=by
 have still:∀ {a:Hc},LF P vm ss o.op a = true → (Ca s key D (AS (rd s) s.ob key a)).ok = true → (∀ tmps' w' g',tmps'.size = tmps.size → FX F Iow w0 g0 o0 g' w' tmps' vm ss' (Ca s key D (AS (rd s) s.ob key a)) → K ⟨tmps',ds⟩ w') →
   o.upon P ⟨tmps,ds⟩ K Q ((execOp ({ tmps:=tmps,defers:=ds }:Act).eval o).run P w):=fun hc hok hK =>
  OO h hnd hd hfit (PR (ds:=ds) (key:=key) h.toFR hc (FY hok).2) hK
 have frozen:∀ {a:Hc} (ks:List Nat),LF P vm ss o.op a = true → (Ca (freezeAll s ks) key D (AS (rd (freezeAll s ks)) (freezeAll s ks).ob key a)).ok = true →
   (∀ tmps' w' g',tmps'.size = tmps.size → FX F Iow w0 g0 o0 g' w' tmps' vm ss' (Ca (freezeAll s ks) key D (AS (rd (freezeAll s ks)) (freezeAll s ks).ob key a)) → K ⟨tmps',ds⟩ w') →
   o.upon P ⟨tmps,ds⟩ K Q ((execOp ({ tmps:=tmps,defers:=ds }:Act).eval o).run P w):=fun ks hc hok hK =>
  OO (h.freezeAll ks) hnd hd hfit (PR (ds:=ds) (key:=key) (h.freezeAll ks).toFR hc (FY hok).2) hK
 cases a
 case store sz p x =>
  simp only [dG,Bool.and_eq_true,beq_iff_eq] at hc
  obtain ⟨rfl,hc⟩:=hc
  simp only [By] at hok hK
  obtain ⟨w',hr,hfx⟩:=(h.freezeAll (rd s x).keys).store (ds:=ds) hc hok
  rw [hr,Oper.upon_skip,Ls]
  have hdn:o.dst = none ∧ ss' = ss:=by
   revert hd
   cases o.dst with
   | none => intro hd; exact ⟨rfl,by simpa [Dd] using hd.symm⟩
   | some d => intro hd; simp [Dd] at hd
  rw [hdn.1]
  rw [hdn.2] at hK
  exact hK _ _ _ rfl hfx
 case app sz bytes z a x =>
  simp only [dG] at hc
  simp only [By] at hok hK
  obtain ⟨v,w',g',hr,hfx⟩:=h.app (ds:=ds) hnd hd hfit hc hok
  rw [hr,Oper.upon_value,Ls]
  exact hK _ _ _ (IE _ _ _) hfx
 case call f args =>
  simp only [dG] at hc
  simp only [By] at hok hK
  unfold NH at hc
  split at hc
  ·rename_i f' xs tys he
   simp only [Bool.and_eq_true,beq_iff_eq] at hc
   obtain ⟨rfl,hc⟩:=hc
   obtain ⟨e1,e2⟩:=II (ds:=ds) h.toFR hc
   have hcr:=Gu (P:=P) (w:=w) (o:=o) (ρ:=({ tmps:=tmps,defers:=ds }:Act).eval) (f:=f') (v1:=#[]) (v2:=#[]) rfl he
   rw [Array.empty_append,Array.append_empty] at hcr
   rw [hcr]
   exact SB hT h hnd hd hfit e1 e2 hok hK
  ·cases hc
 case callp f args =>
  simp only [dG] at hc
  simp only [By] at hok hK
  obtain ⟨hsok,hm⟩:=FY hok
  simp only [IF,Bool.and_eq_true,List.isEmpty_iff] at hm
  unfold NH at hc
  split at hc
  ·rename_i f' xs tys he
   simp only [Bool.and_eq_true,beq_iff_eq] at hc
   obtain ⟨rfl,hc⟩:=hc
   obtain ⟨e1,e2⟩:=II (ds:=ds) h.toFR hc
   have hcr:=Gu (P:=P) (w:=w) (o:=o) (ρ:=({ tmps:=tmps,defers:=ds }:Act).eval) (f:=f') (v1:=#[]) (v2:=#[]) rfl he
   rw [Array.empty_append,Array.append_empty] at hcr
   rw [hcr]
   have:=KD (s:=s) (c:=⟨true,f',args.map (rd s)⟩) hT h e1 e2 hm.1 hm.2.2 hm.2.1
   refine Gw this (fun v w' hR => ?_) (fun c w' hR => ?_) (fun w' hR => ?_)
   ·obtain ⟨v',e,hw,hv⟩:=hR
    cases e
    rw [Ls]
    refine hK _ _ g (IE _ _ _) ?_
    have h1:=(h.toFR.grow hw).put hnd hd hfit (IF (CJ T s.ob ⟨true,f',args.map (rd s)⟩)).ok (v:=v) (a:=(CJ T s.ob ⟨true,f',args.map (rd s)⟩).v) (fun _ => hv)
    have hob:(Ca s key D (IF (CJ T s.ob ⟨true,f',args.map (rd s)⟩))).ob = s.ob:=by cases D <;> rfl
    exact FX.mk' (w:=w) h1 h.same (hw.mono fun _ _ c => c.elim) (fun k hk => h.hio k (by rw [hob] at hk; exact hk)) h.fio (by rw [hob]; exact h.par)
   ·obtain ⟨v',e,_⟩:=hR; cases e
   ·obtain ⟨v',e,_⟩:=hR; cases e
  ·cases hc
 case callv f args =>
  simp only [dG] at hc
  simp only [By] at hok hK
  unfold Sm at hc
  split at hc
  ·rename_i y xs tys he
   simp only [Bool.and_eq_true] at hc
   obtain ⟨hcf,hc⟩:=hc
   obtain ⟨e1,e2⟩:=II (ds:=ds) h.toFR hc
   have hvf:=h.toFR.src (ds:=ds) hcf
   obtain ⟨fid,a1,a2,ea,ecal⟩:=NE (LZ hok).2
   rw [ea] at hvf
   obtain ⟨v1,v2,ev,n1,n2,h1,h2⟩:=hvf
   rw [Gu (P:=P) (w:=w) (ρ:=({ tmps:=tmps,defers:=ds }:Act).eval) ev he]
   rw [ecal] at hok hK
   obtain ⟨q1,q2⟩:=PB (w:=w) (g:=g) n1 e1 n2 (fun j hj => (h1 j hj).toSR) e2 (fun j hj => (h2 j hj).toSR)
   exact SB hT h hnd hd hfit (c:=⟨true,fid,a1 ++ args.map (rd s) ++ a2⟩) q1 q2 hok hK
  ·cases hc
 case pick c a b =>
  simp only [dG] at hc
  simp only [By] at hok hK
  have hcv:SR (AW F g s.ob) w g s.ob (({ tmps:=tmps,defers:=ds }:Act).eval (match o.op with | .pick x _ _ => x | _ => .const undef)) (rd s c):=by
   unfold ae at hc
   split at hc
   ·rename_i x y z he
    simp only [Bool.and_eq_true] at hc
    rw [he]
    exact h.toFR.src hc.1
   ·cases hc
  exact OO h hnd hd hfit (py (ds:=ds) (key:=key) h.toFR hc hcv (FY hok).2) hK
 case pur a =>
  simp only [By] at hok hK
  obtain ⟨hsok,hm⟩:=FY hok
  have fin:∀ (v:Value) (w':World),(HU T s key a).hs = [] → At (fun _ => False) w w' → SR (AW F g s.ob) w' g s.ob v (HU T s key a).v → K (({ tmps:=tmps,defers:=ds }:Act).put o.dst v) w':=by
   intro v w' hh hw hv
   rw [Ls]
   refine hK _ _ g (IE _ _ _) ?_
   have h1:=(h.toFR.grow hw).put hnd hd hfit (HU T s key a).ok (v:=v) (a:=(HU T s key a).v) (fun _ => hv)
   have e:Ca s key D (HU T s key a) = BE s (HU T s key a).ok (HU T s key a).v D:=by unfold Ca; rw [hh]; rfl
   have hob:(BE s (HU T s key a).ok (HU T s key a).v D).ob = s.ob:=by cases D <;> rfl
   rw [e]
   exact FX.mk' (w:=w) h1 h.same (hw.mono fun _ _ c => c.elim) (fun k hk => h.hio k (by rw [hob] at hk; exact hk)) h.fio (by rw [hob]; exact h.par)
  have still2:BB a = true → LF P vm ss o.op a = true → HU T s key a = IF (OB (AS (rd s) s.ob key a)) → o.upon P ⟨tmps,ds⟩ K Q ((execOp ({ tmps:=tmps,defers:=ds }:Act).eval o).run P w):=by
   intro hg hc he
   rw [he] at hm fin
   simp only [IF,Bool.and_eq_true] at hm fin
   obtain ⟨v,w',hr,hw,hv⟩:=BG.frz h.toFR (PR (ds:=ds) (key:=key) h.toFR hc hm.1)
   rw [hr,Oper.upon_value]
   exact fin v w' trivial hw hv
  cases a
  case call f args =>
   simp only [dG] at hc
   simp only [HU,IF,Bool.and_eq_true,List.isEmpty_iff] at hm fin
   unfold NH at hc
   split at hc
   ·rename_i f' xs tys he
    simp only [Bool.and_eq_true,beq_iff_eq] at hc
    obtain ⟨rfl,hc⟩:=hc
    obtain ⟨e1,e2⟩:=II (ds:=ds) h.toFR hc
    have hcr:=Gu (P:=P) (w:=w) (o:=o) (ρ:=({ tmps:=tmps,defers:=ds }:Act).eval) (f:=f') (v1:=#[]) (v2:=#[]) rfl he
    rw [Array.empty_append,Array.append_empty] at hcr
    rw [hcr]
    have:=KD (s:=s) (c:=⟨true,f',args.map (rd s)⟩) hT h e1 e2 hm.1 hm.2.2 hm.2.1
    refine Gw this (fun v w' hR => ?_) (fun c w' hR => ?_) (fun w' hR => ?_)
    ·obtain ⟨v',e,hw,hv⟩:=hR; cases e; exact fin _ _ trivial hw hv
    ·obtain ⟨v',e,_⟩:=hR; cases e
    ·obtain ⟨v',e,_⟩:=hR; cases e
   ·cases hc
  case callv f args =>
   simp only [dG] at hc
   simp only [HU,IF,Bool.and_eq_true,List.isEmpty_iff] at hm fin
   unfold Sm at hc
   split at hc
   ·rename_i y xs tys he
    simp only [Bool.and_eq_true] at hc
    obtain ⟨hcf,hc⟩:=hc
    obtain ⟨e1,e2⟩:=II (ds:=ds) h.toFR hc
    have hvf:=h.toFR.src (ds:=ds) hcf
    have hcok:(Hr (args.map (rd s)) (rd s f)).ok = true:=by
     have:=hm.1
     simp only [CJ,Ej,Bool.and_eq_true] at this
     exact this.1
    obtain ⟨fid,a1,a2,ea,ecal⟩:=NE hcok
    rw [ea] at hvf
    obtain ⟨v1,v2,ev,n1,n2,h1,h2⟩:=hvf
    rw [Gu (P:=P) (w:=w) (ρ:=({ tmps:=tmps,defers:=ds }:Act).eval) ev he]
    rw [ecal] at hm fin
    obtain ⟨q1,q2⟩:=PB (w:=w) (g:=g) n1 e1 n2 (fun j hj => (h1 j hj).toSR) e2 (fun j hj => (h2 j hj).toSR)
    have:=KD (s:=s) (c:=⟨true,fid,a1 ++ args.map (rd s) ++ a2⟩) hT h q1 q2 hm.1 hm.2.2 hm.2.1
    refine Gw this (fun v w' hR => ?_) (fun c w' hR => ?_) (fun w' hR => ?_)
    ·obtain ⟨v',e,hw,hv⟩:=hR; cases e; exact fin _ _ trivial hw hv
    ·obtain ⟨v',e,_⟩:=hR; cases e
    ·obtain ⟨v',e,_⟩:=hR; cases e
   ·cases hc
  all_goals
   simp only [dG,Bool.and_eq_true] at hc
   first
   | exact still2 hc.1 hc.2 rfl
   | exact absurd hc.1 Bool.false_ne_true
 case callw f args => simp [By,fail] at hok
 case flat b =>
  have e:=nW hok
  rw [e] at hok hK
  exact bE hT h hnd hd hfit (by simpa only [dG] using hc) hok hK
 case trunc sz x hi =>
  simp only [dG] at hc
  simp only [By] at hok hK
  obtain ⟨v,w',g',hr,hfx⟩:=h.trunc (ds:=ds) hnd hd hfit hc hok
  rw [hr,Oper.upon_value,Ls]
  exact hK _ _ _ (IE _ _ _) hfx
 case movz x => exact frozen (rd s x).keys (a:=.mov x) (by simpa only [dG] using hc) hok hK
 case safe ks b =>
  have e:=kT hok
  rw [e] at hok hK
  exact bE hT h hnd hd hfit (by simpa only [dG] using hc) hok hK
 case box x => exact frozen (rd s x).keys (a:=.box x) hc hok hK
 case build z ps => exact frozen _ (a:=.build z ps) hc hok hK
 case mkSl sz z n ps => exact frozen _ (a:=.mkSl sz z n ps) hc hok hK
 case slice sz x lo hi => exact frozen _ (a:=.slice sz x lo hi) hc hok hK
 all_goals
  simp only [dG] at hc
  simp only [By] at hok hK
  exact still hc hok hK
end
end Go.Proofs.YtfaenphcgfocnaaGreatDoor
