/- A statement whose operations may come in several orders. No condition. -/
import Derived.Test.YtfaenphcgfocnaaGreatDoorEngFl
import Derived.Orders
namespace Go.Proofs.YtfaenphcgfocnaaGreatDoor
open Go Go.RowKit
set_option linter.unusedSimpArgs false
set_option linter.unusedVariables false
def SZ:Hc → Bool
 | .mov _ => true
 | .load _ _ _ => true
 | .nilck _ => true
 | .bin _ _ _ _ => true
 | .eqA _ _ _ _ => true
 | .un _ _ => true
 | .conv _ _ => true
 | .b2s _ => true
 | .mkFn _ _ _ => true
 | .fldAddr _ _ => true
 | .fld _ _ _ _ => true
 | .ixAddr _ _ _ => true
 | .ixStr _ _ => true
 | .ext _ _ => true
 | .len _ _ => true
 | .minmax _ _ => true
 | .pick _ _ _ => true
 | .callp _ _ => true
 | .pur _ => true
 | .safe _ _ => true
 | _ => false
def bQ:Hc → Bool
 | .pick _ _ _ => true
 | _ => false
def MJ (i:Jx):Bool:=match i.guard with
 | some _ => BB i.op || bQ i.op
 | none => SZ i.op
def Jm:Hc → List CA
 | .mkFn _ fi ca => fi ++ ca
 | .pick c a b => [c,a,b]
 | .callp _ args => args
 | .pur a => BK a
 | .safe _ a => DG a
 | a => BK a
def ZP (i:Jx):List CA:=(match i.guard with | some g => [g.1] | none => []) ++ Jm i.op
def zE (i j:Jx):Bool:=Bq i.dst && (Bq j.dst && (!Ml i.dst j.dst && ((KK j).all (fun x => !Sd i.dst x) && (KK i).all (fun x => !Sd j.dst x))))
def LQ (r:CA → AV):CA → AV
 | .c a => a
 | x => Gc (r x)
theorem vy {T:Ht} {r:CA → AV} {ob:CB} {key:Nat} {a:Hc}:(Mo T r ob key a).hs = []:=by cases a <;> simp only [Mo,AO] <;> (try split) <;> rfl
noncomputable def iR (T:Ht) (r:CA → AV) (ob:CB) (key:Nat):Hc → Bool × AV
 | .pur a => ((Mo T r ob key a).ok,(Mo T r ob key a).v)
 | .pick c a b => ((KH true (r a) (r b) (r c)).ok,(KH true (r a) (r b) (r c)).v)
 | .callp f args => ((IF (CJ T ob ⟨true,f,args.map r⟩)).ok,(IF (CJ T ob ⟨true,f,args.map r⟩)).v)
 | .safe ds a => ((JB T r ob key ds a).ok,(JB T r ob key ds a).v)
 | op => ((AS r ob key op).ok,(AS r ob key op).v)
noncomputable def Fm (T:Ht) (r:CA → AV) (ob:CB) (w:Bool) (key:Nat):Hc → Mk
 | .pick c a b => Ej (CO w (r c)) (KH w (r a) (r b) (LQ r c))
 | .call f args => Ej ((BK (.call f args)).all fun x => CO w (r x)) (CJ T ob ⟨true,f,args.map (LQ r)⟩)
 | .callv f args => Ej ((BK (.callv f args)).all fun x => CO w (r x)) (CJ T ob (Hr (args.map (LQ r)) (LQ r f)))
 | op => Ej (BB op && (BK op).all fun x => CO w (r x)) (OB (AS (LQ r) ob key op))
noncomputable def eff (T:Ht) (r:CA → AV) (ob:CB) (i:Jx):Bool × AV :=
 match i.guard with
 | none => iR T r ob i.key i.op
 | some g => (Mx (r g.1) && (!eZ g.2 (r g.1) || ((Fm T r ob (eZ g.2 (r g.1)) i.key i.op).ok && ((Fm T r ob (eZ g.2 (r g.1)) i.key i.op).hs.isEmpty && (Fm T r ob (eZ g.2 (r g.1)) i.key i.op).v.lone))),
   .opt (eZ g.2 (r g.1)) (Fm T r ob (eZ g.2 (r g.1)) i.key i.op).v)
theorem qF (s:St):LQ (rd s) = Rv s:=by funext x; cases x <;> rfl
theorem vx {T:Ht} {r:CA → AV} {ob:CB} {key:Nat} {a:Hc} (h:SZ a = true) (hp:∀ x y z,a ≠ .pick x y z) (hc:∀ f l,a ≠ .callp f l) (hu:∀ x,a ≠ .pur x) (hsf:∀ q x,a ≠ .safe q x):(AS r ob key a).hs = []:=by
 cases a <;> simp only [SZ] at h <;> (try (cases h; done)) <;> simp only [AS]
 case mov => rfl
 case load agg sz p =>
  cases r p <;> simp only [Kl] <;> try rfl
  ·exact Pi _ _ _ _
  ·rename_i k i off
   cases AN k ob <;> first | rfl | exact Pi _ _ _ _
 case nilck x => cases r x <;> simp only [LC] <;> (try rfl) <;> (rename_i f _ _; cases f <;> rfl)
 case bin bl op x y =>
  unfold YO
  split
  ·rw [AO]
   split
   ·unfold yr; split <;> rfl
   ·simp only [Ej]; unfold KZ; split <;> rfl
  ·unfold SA; split <;> rfl
  ·simp only [Ej]; unfold af; split <;> rfl
  ·rfl
 case eqA neg ks x y => unfold NB; split <;> rfl
 case un op x => unfold vK; split <;> (try rfl) <;> (split <;> rfl)
 case conv k x => unfold YG; split <;> rfl
 case b2s x => cases r x <;> simp only [Ti] <;> (try rfl); rename_i k; cases AN k ob <;> rfl
 case mkFn => rfl
 case fldAddr off p => unfold Jh; split <;> rfl
 case fld agg off sz x => simp only [Ej]; exact Pi _ _ _ _
 case ixAddr sz x i => cases r x <;> simp only [Im] <;> (try rfl); rename_i k; cases AN k ob <;> rfl
 case ixStr x i => unfold Ms; split <;> rfl
 case ext x i => unfold ep; split <;> rfl
 case len st x => cases r x <;> simp only [Tb] <;> (try rfl); rename_i k; cases AN k ob <;> rfl
 case minmax mx xs => unfold wC; split <;> rfl
 case pick c a b => exact absurd rfl (hp _ _ _)
 case callp f l => exact absurd rfl (hc _ _)
 case pur x => exact absurd rfl (hu _)
 case safe q x => exact absurd rfl (hsf _ _)
theorem dY {T:Ht} {r:CA → AV} {ob:CB} {key:Nat} {ds:List Nat} {a:Hc}:(JB T r ob key ds a).hs = []:=by
 unfold JB XC; rw [AO]; split <;> rfl
theorem qP {w:Bool} {a b c:AV}:(KH w a b c).hs = []:=by unfold KH; split <;> rfl
theorem LR {s:St} {key:Nat} {D:Gk} {m:Mk} (h:m.hs = []):Ca s key D m = BE s m.ok m.v D:=by unfold Ca; rw [h]; rfl
theorem nL {T:Ht} {s:St} {w:Bool} {key:Nat} {a:Hc}:CY T s w key a = Fm T (rd s) s.ob w key a:=by
 cases a <;> simp only [CY,Fm,qF]
theorem Nd {T:Ht} {s:St} {i:Jx} (h:MJ i = true):CS T s i = BE s (eff T (rd s) s.ob i).1 (eff T (rd s) s.ob i).2 i.dst:=by
 unfold CS eff
 cases hg:i.guard with
 | some g =>
  have hnw:∀ f l,i.op ≠ .callw f l:=fun f l e => by simp [MJ,hg,e,BB,bQ] at h
  have e1:∀ s' w,Jp T s' i.key i.dst w i.op = Kz s' w i.dst (CY T s' w i.key i.op):=by
   intro s' w
   unfold Jp
   split
   ·rename_i f l e; exact absurd e (hnw f l)
   ·rfl
  simp only [Sb]
  rw [e1]
  have e2:CY T { s with ok:=s.ok && Mx (rd s g.1) } (eZ g.2 (rd s g.1)) i.key i.op = CY T s (eZ g.2 (rd s g.1)) i.key i.op:=rfl
  rw [e2,nL]
  simp only [Kz]
  cases i.dst <;> simp [BE,Bool.and_assoc]
 | none =>
  simp only [MJ,hg] at h
  simp only [Sb]
  generalize i.op = a at h
  cases a <;> simp only [SZ] at h <;> (try (cases h; done)) <;> simp only [By,iR]
  case pick => rw [LR qP]
  case callp => rw [LR rfl]
  case pur => rw [jL,LR vy]
  case safe => rw [LR dY]
  all_goals
   rw [LR (vx (T:=T) rfl (fun _ _ _ e => by cases e) (fun _ _ e => by cases e) (fun _ e => by cases e) (fun _ _ e => by cases e))]
theorem jN {s:St} {c:Bool} {a:AV} {D:Gk}:(BE s c a D).ob = s.ob:=by cases D <;> rfl
theorem ZR {s:St} {c d:Bool} {a b:AV} {D E:Gk} (h1:Bq D = true) (h2:Bq E = true) (h3:Ml D E = false):BE (BE s c a D) d b E = BE (BE s d b E) c a D:=by
 have hb:(s.ok && c && d) = (s.ok && d && c):=Bool.and_right_comm _ _ _
 cases D <;> simp only [Bq] at h1 <;> (try (cases h1; done)) <;> cases E <;> simp only [Bq] at h2 <;> (try (cases h2; done)) <;> simp only [BE,hb] <;>
  (try (simp only [Ml,beq_eq_false_iff_ne] at h3; rw [List.set_comm _ _ h3]))
theorem Wy {r r':CA → AV} {ob:CB} {d:Nat} {a:Hc} (hg:SZ a = true) (hp:∀ x y z,a ≠ .pick x y z) (hc:∀ f l,a ≠ .callp f l) (hu:∀ x,a ≠ .pur x) (hsf:∀ q x,a ≠ .safe q x) (h:∀ x,x ∈ Jm a → r x = r' x):AS r ob d a = AS r' ob d a:=by
 cases a <;> simp only [SZ] at hg <;> (try (cases hg; done)) <;> simp only [Jm,BK] at h <;> simp only [AS]
 case minmax mx xs => rw [List.map_congr_left h]
 case mkFn f fi ca =>
  rw [List.map_congr_left (l:=fi) fun x hx => h x (List.mem_append.2 (.inl hx)),List.map_congr_left (l:=ca) fun x hx => h x (List.mem_append.2 (.inr hx))]
 all_goals first | (exact absurd rfl (hp _ _ _)) | (exact absurd rfl (hc _ _)) | (exact absurd rfl (hu _)) | (exact absurd rfl (hsf _ _)) | simp_all
theorem Kj {r r':CA → AV} {x:CA} (h:r x = r' x):LQ r x = LQ r' x:=by cases x <;> simp [LQ,h]
theorem Xv {T:Ht} {r r':CA → AV} {ob:CB} {w:Bool} {key:Nat} {a:Hc} (hg:BB a = true ∨ bQ a = true) (h:∀ x,x ∈ Jm a → r x = r' x):Fm T r ob w key a = Fm T r' ob w key a:=by
 have hall:∀ l:List CA,(∀ x,x ∈ l → r x = r' x) → (l.all fun x => CO w (r x)) = (l.all fun x => CO w (r' x)):=by
  intro l hl
  induction l with
  | nil => rfl
  | cons y l ih => simp only [List.all_cons]; rw [hl y (by simp),ih fun x hx => hl x (by simp [hx])]
 have hmap:∀ l:List CA,(∀ x,x ∈ l → r x = r' x) → l.map (LQ r) = l.map (LQ r'):=fun l hl => List.map_congr_left fun x hx => Kj (hl x hx)
 have still:BB a = true → (∀ x,x ∈ BK a → r x = r' x) → Ej (BB a && (BK a).all fun x => CO w (r x)) (OB (AS (LQ r) ob key a)) = Ej (BB a && (BK a).all fun x => CO w (r' x)) (OB (AS (LQ r') ob key a)):=by
  intro hcg hh
  rw [hall _ hh,FN hcg fun x hx => Kj (hh x hx)]
 cases a
 case pick c x y =>
  simp only [Jm] at h
  simp only [Fm]
  rw [h c (by simp),h x (by simp),h y (by simp),Kj (h c (by simp))]
 case call f args =>
  simp only [Jm,BK] at h
  simp only [Fm,BK]
  rw [hall _ h,hmap _ h]
 case callv f args =>
  simp only [Jm,BK] at h
  simp only [Fm,BK]
  rw [hall _ h,hmap _ fun x hx => h x (List.mem_cons_of_mem _ hx),Kj (h f (by simp))]
 all_goals
  first
  | (exfalso; rcases hg with hg | hg <;> simp [BB,bQ] at hg; done)
  | exact still rfl h
theorem Zv {T:Ht} {r r':CA → AV} {ob:CB} {i:Jx} (he:MJ i = true) (h:∀ x,x ∈ ZP i → r x = r' x):eff T r ob i = eff T r' ob i:=by
 unfold ZP at h
 unfold MJ at he
 unfold eff
 cases hg:i.guard with
 | some g =>
  rw [hg] at he h
  simp only at he h ⊢
  have h1:r g.1 = r' g.1:=h _ (by simp)
  have h2:∀ w,Fm T r ob w i.key i.op = Fm T r' ob w i.key i.op:=fun w => Xv (by simpa using he) fun x hx => h x (List.mem_append.2 (.inr hx))
  rw [h1,h2]
 | none =>
  rw [hg] at he h
  simp only [List.nil_append] at he h ⊢
  generalize i.op = a at he h
  cases a
  case pick c x y =>
   simp only [Jm] at h
   simp only [iR]
   rw [h c (by simp),h x (by simp),h y (by simp)]
  case callp f args =>
   simp only [Jm] at h
   simp only [iR]
   rw [List.map_congr_left h]
  case pur x =>
   simp only [Jm] at h
   simp only [iR]
   rw [XH h]
  case safe q x =>
   simp only [Jm] at h
   simp only [iR]
   rw [Sy h]
  all_goals
   simp only [iR]
   rw [Wy he (fun _ _ _ e => by cases e) (fun _ _ e => by cases e) (fun _ e => by cases e) (fun _ _ e => by cases e) h]
def Pu (d:Nat) (i:Jx):Bool:=i.guard.isNone && (match i.op with
 | .safe ds _ => ds.any (· == d)
 | _ => false)
def Tq (i:Jx):Bool:=i.guard.isNone && (match i.op with
 | .alloc _ => true
 | _ => false)
theorem PA (d:Nat):∀ ob:CB,DW d (DW d ob) = DW d ob
 | [] => rfl
 | p :: r => by
  have ih:=PA d r
  by_cases c:p.1 / 32 = d
  ·simp only [DW,c,beq_self_eq_true,cond_true,ih]
  ·have:(p.1 / 32 == d) = false:=by simpa using c
   simp only [DW,this,cond_false,ih]
theorem YJ (d e:Nat):∀ ob:CB,DW d (DW e ob) = DW e (DW d ob)
 | [] => rfl
 | p :: r => by
  have ih:=YJ d e r
  by_cases c:p.1 / 32 = d <;> by_cases c2:p.1 / 32 = e
  ·simp only [DW,c,c2,beq_self_eq_true,cond_true,ih]
   try (subst c2; subst c; simp only [beq_self_eq_true,cond_true,ih])
   try (rw [← c] at c2; simp_all)
  ·have h2:(p.1 / 32 == e) = false:=by simpa using c2
   have h1:(p.1 / 32 == d) = true:=by simpa using c
   simp only [DW,h1,h2,cond_true,cond_false,ih]
  ·have h1:(p.1 / 32 == d) = false:=by simpa using c
   have h2:(p.1 / 32 == e) = true:=by simpa using c2
   simp only [DW,h1,h2,cond_true,cond_false,ih]
  ·have h1:(p.1 / 32 == d) = false:=by simpa using c
   have h2:(p.1 / 32 == e) = false:=by simpa using c2
   simp only [DW,h1,h2,cond_false,ih]
theorem Zx {d k:Nat} {h:Hm} (hk:k / 32 = d):∀ ob:CB,DW d (CD k h ob) = DW d ob
 | [] => by simp [CD,DW,hk]
 | p :: r => by
  have ih:=Zx (h:=h) hk r
  simp only [CD,AO,beq_iff_eq,decide_eq_true_eq]
  split
  ·rename_i e; simp [DW,e,hk]
  ·split
   ·simp [DW,hk]
   ·simp only [DW,ih]
theorem Si {d:Nat}:∀ {ds:List Nat} (ob:CB),ds.any (· == d) = true → JK ds (DW d ob) = JK ds ob
 | [],_,h => by simp at h
 | e :: r,ob,h => by
  simp only [JK]
  by_cases c:e = d
  ·subst c; rw [PA]
  ·have:r.any (· == d) = true:=by
    simp only [List.any_cons,Bool.or_eq_true,beq_iff_eq] at h
    exact h.resolve_left c
   rw [YJ,Si _ this]
theorem YI {d:Nat}:∀ {ob:CB},Mv d ob = false → DW d ob = ob
 | [],_ => rfl
 | p :: r,h => by
  simp only [Mv,Bool.or_eq_false_iff] at h
  simp only [DW,h.1,cond_false,YI h.2]
theorem uJ (s:St) (d:Nat):(clear s d).ob = DW d s.ob:=by
 unfold Go.Proofs.YtfaenphcgfocnaaGreatDoor.clear
 rw [AO]
 split
 ·rfl
 ·rename_i h
  rw [YI (by simpa using h)]
theorem cl (d:Nat):YK d .any = .any:=by simp [YK,AV.keys]
theorem qW (ds:List Nat):Lt ds .any = false:=by simp [Lt,JC]
theorem cj {d:Nat} {ds:List Nat} (hd:ds.any (· == d) = true) (a:AV):(Lt ds a = true → YK d a = a) ∧ Lt ds (YK d a) = Lt ds a:=by
 unfold YK
 rw [AO]
 by_cases c:a.keys.any (fun k => k / 32 == d) = true
 ·have hf:Lt ds a = false:=by
   rw [Bool.eq_false_iff]
   intro ho
   rw [List.any_eq_true] at c hd
   obtain ⟨k,hk,e⟩:=c
   obtain ⟨d',hd',e'⟩:=hd
   simp only [beq_iff_eq] at e e'
   exact dr ho hk d' hd' (by rw [e,e'])
  rw [if_pos c,qW,hf]
  exact ⟨fun h => Bool.noConfusion h,rfl⟩
 ·rw [if_neg c]; exact ⟨fun _ => rfl,rfl⟩
theorem qG (s:St) (d:Nat) (x:CA):rd (clear s d) x = rd s x ∨ rd (clear s d) x = YK d (rd s x):=by
 unfold Go.Proofs.YtfaenphcgfocnaaGreatDoor.clear
 rw [AO]
 split
 ·cases x
  ·exact .inr (Be _ (cl d) _ _)
  ·exact .inr (Be _ (cl d) _ _)
  ·exact .inl rfl
 ·exact .inl rfl
theorem gR {s:St} {c:Bool} {v:AV} {D:Gk} {d:Nat} (hv:YK d v = v) (hp:Bq D = true):clear (BE s c v D) d = BE (clear s d) c v D:=by
 unfold Go.Proofs.YtfaenphcgfocnaaGreatDoor.clear
 rw [Ei,AO,AO]
 split
 ·cases D <;> simp only [BE,List.map_set,hv]
  cases hp
 ·rfl
theorem XB {T:Ht} {s:St} {i j:Jx} (hi:Pu j.key i = true) (hj:Tq j = true) (h1:Bq i.dst = true) (h2:Bq j.dst = true) (h3:Ml i.dst j.dst = false) (h5:∀ x,x ∈ KK i → Sd j.dst x = false) :
  CS T (CS T s i) j = CS T (CS T s j) i:=by
 obtain ⟨D,key,gd,op⟩:=i
 obtain ⟨E,d,gd2,op2⟩:=j
 simp only [Pu,Bool.and_eq_true,Option.isNone_iff_eq_none] at hi
 simp only [Tq,Bool.and_eq_true,Option.isNone_iff_eq_none] at hj
 obtain ⟨rfl,hop⟩:=hi
 obtain ⟨rfl,hop2⟩:=hj
 cases op <;> (try (cases hop; done))
 cases op2 <;> (try (cases hop2; done))
 rename_i ds a z
 simp only at hop h1 h2 h3
 have hI:∀ s:St,CS T s ⟨D,key,none,.safe ds a⟩ = BE s (JB T (rd s) s.ob key ds a).ok (JB T (rd s) s.ob key ds a).v D:=fun s => by
  simp only [CS,Sb,By]
  rw [LR dY]
 have hJ:∀ s:St,CS T s ⟨E,d,none,.alloc z⟩ = BE { clear s d with ob:=CD (Ba d) ⟨z.cells.length,[z]⟩ (clear s d).ob } (decide (1 ≤ z.cells.length) && z.atoms) (.ref (Ba d) 0 0) E:=fun s => rfl
 have hkd:Ba d / 32 = d:=by simp [Ba]
 have hM:JB T (rd (CS T s ⟨E,d,none,.alloc z⟩)) (CS T s ⟨E,d,none,.alloc z⟩).ob key ds a = JB T (rd s) s.ob key ds a:=by
  have hob:JK ds (CS T s ⟨E,d,none,.alloc z⟩).ob = JK ds s.ob:=by
   rw [hJ,Ei]
   show JK ds (CD (Ba d) _ (clear s d).ob) = _
   rw [← Si _ hop,Zx hkd,uJ,PA,Si _ hop]
  have hrd:∀ x,x ∈ DG a → rd (CS T s ⟨E,d,none,.alloc z⟩) x = rd s x ∨ rd (CS T s ⟨E,d,none,.alloc z⟩) x = YK d (rd s x):=fun x hx => by
   rw [hJ,Lr h2 (h5 x (by simpa [KK,Bi] using hx))]
   have e:rd ({ clear s d with ob:=CD (Ba d) ⟨z.cells.length,[z]⟩ (clear s d).ob }:St) x = rd (clear s d) x:=by cases x <;> rfl
   rw [e]
   exact qG s d x
  unfold JB
  have hall:((DG a).all fun x => Lt ds (rd (CS T s ⟨E,d,none,.alloc z⟩) x)) = (DG a).all fun x => Lt ds (rd s x):=by
   have:∀ l:List CA,(∀ x,x ∈ l → x ∈ DG a) → (l.all fun x => Lt ds (rd (CS T s ⟨E,d,none,.alloc z⟩) x)) = l.all fun x => Lt ds (rd s x):=by
    intro l hl
    induction l with
    | nil => rfl
    | cons y l ih =>
     simp only [List.all_cons]
     rw [ih fun x hx => hl x (by simp [hx])]
     congr 1
     rcases hrd y (hl y (by simp)) with e | e
     ·rw [e]
     ·rw [e,(cj hop _).2]
   exact this _ fun x hx => hx
  rw [hall,hob]
  by_cases hs:((DG a).all fun x => Lt ds (rd s x)) = true
  ·rw [Sz (r:=rd (CS T s ⟨E,d,none,.alloc z⟩)) (r':=rd s) fun x hx => by
    rcases hrd x hx with e | e
    ·exact e
    ·rw [e]; exact (cj hop _).1 (List.all_eq_true.1 hs x hx)]
  ·have hs':((DG a).all fun x => Lt ds (rd s x)) = false:=by simpa using hs
   rw [hs']
   rfl
 have hv:YK d (JB T (rd s) s.ob key ds a).v = (JB T (rd s) s.ob key ds a).v:=by
  unfold JB XC
  rw [AO]
  split
  ·rename_i hc
   simp only [Bool.and_eq_true] at hc
   exact (cj hop _).1 hc.2.2
  ·exact cl d
 rw [hI (CS T s ⟨E,d,none,.alloc z⟩),hM,hI s,hJ,hJ,gR hv h1]
 have e:∀ (b:Bool) (v:AV) (ob:CB),({ BE (clear s d) b v D with ob:=ob }:St) = BE { clear s d with ob:=ob } b v D:=fun b v ob => SP ob
 rw [Ei,e]
 exact (ZR h2 h1 (by rw [Od]; exact h3)).symm
def com (i j:Jx):Bool:=zE i j && (((MJ i && MJ j) || (bR i || bR j)) || ((Pu j.key i && Tq j) || (Pu i.key j && Tq i)))
theorem ACt {T:Ht} {s:St} {i j:Jx} (h:com i j = true):CS T (CS T s i) j = CS T (CS T s j) i:=by
 simp only [com,zE,Bool.and_eq_true,Bool.or_eq_true,Bool.not_eq_true',List.all_eq_true] at h
 obtain ⟨⟨h1,h2,h3,h4',h5'⟩,hh⟩:=h
 have hsub:∀ (k:Jx) x,x ∈ ZP k → x ∈ KK k:=fun k x hx => by
  unfold ZP at hx
  unfold KK
  rcases List.mem_append.1 hx with hx | hx
  ·exact List.mem_append_left _ hx
  ·refine List.mem_append_right _ ?_
   generalize k.op = a at hx
   cases a <;> first | exact hx | (simp [Jm,BK] at hx)
 rcases hh with (⟨h6,h7⟩ | hi | hj) | ⟨hi,hj⟩ | ⟨hj,hi⟩
 rotate_left
 ·exact (ed hi h2 h1 h3 h5' h4').symm
 ·refine ed hj h1 h2 ?_ h4' h5'
  rw [Od]; exact h3
 ·exact XB hi hj h1 h2 h3 h5'
 ·exact (XB hj hi h2 h1 (by rw [Od]; exact h3) h4').symm
 have h4:∀ x,x ∈ ZP j → Sd i.dst x = false:=fun x hx => h4' x (hsub j x hx)
 have h5:∀ x,x ∈ ZP i → Sd j.dst x = false:=fun x hx => h5' x (hsub i x hx)
 rw [Nd h6,Nd (s:=s) h7,Nd h7,Nd h6]
 rw [jN,jN,Zv (r:=rd (BE s _ _ i.dst)) (r':=rd s) h7 fun x hx => Lr h1 (h4 x hx),Zv (r:=rd (BE s _ _ j.dst)) (r':=rd s) h6 fun x hx => Lr h2 (h5 x hx)]
 exact ZR h1 h2 h3
open Go Go.RowKit
set_option linter.unusedSimpArgs false
set_option linter.unusedVariables false
def pT (dep:Nat → Nat → Bool) (l:List Nat):Prop:=l.Pairwise fun a b => dep b a = false
def js (dep:Nat → Nat → Bool) (j:Nat):List Nat → List Nat → List Nat
 | acc,[] => acc
 | acc,i :: r => js dep j (bif dep j i || acc.any (fun k => dep k i) then i :: acc else acc) r
def hO (dep cm:Nat → Nat → Bool) (rem:List Nat) (j:Nat):Bool :=
 rem.all fun i => i == j || ((js dep j [] rem).contains i || cm j i)
def ready (dep:Nat → Nat → Bool) (rem:List Nat):List Nat:=rem.filter fun j => rem.all fun i => !dep i j
def MI (dep cm:Nat → Nat → Bool):Nat → List Nat → List (List Nat)
 | 0,_ => [[]]
 | n + 1,rem =>
  match rem with
  | [] => [[]]
  | _ => match (ready dep rem).find? (hO dep cm rem) with
   | some j => (MI dep cm n (rem.erase j)).map (j :: ·)
   | none => (ready dep rem).flatMap fun j => (MI dep cm n (rem.erase j)).map (j :: ·)
section
variable {dep cm:Nat → Nat → Bool}
theorem Zw {j:Nat} {p q:List Nat} (hl:pT dep (p ++ j :: q)):∀ (r acc:List Nat),(∀ i,i ∈ acc → i ∉ p ∧ i ∈ p ++ j :: q) → (∀ i,i ∈ r → i ∈ p ++ j :: q) → ∀ i,i ∈ js dep j acc r → i ∉ p
 | [],acc,ha,_,i,hi => (ha i hi).1
 | a :: r,acc,ha,hr,i,hi => by
  simp only [js] at hi
  refine Zw hl r _ (fun k hk => ?_) (fun k hk => hr k (by simp [hk])) i hi
  cases hc:dep j a || acc.any (fun k => dep k a) with
  | false => rw [hc] at hk; exact ha k hk
  | true =>
   rw [hc] at hk
   simp only [cond_true,List.mem_cons] at hk
   rcases hk with rfl | hk
   ·refine ⟨fun hp => ?_,hr k (by simp)⟩
    unfold pT at hl
    rw [List.pairwise_append] at hl
    have hcross:=hl.2.2 k hp
    simp only [Bool.or_eq_true,List.any_eq_true] at hc
    rcases hc with hc | ⟨m,hm,hc⟩
    ·have:=hcross j (by simp); rw [hc] at this; cases this
    ·obtain ⟨hmp,hmm⟩:=ha m hm
     have hmq:m ∈ j :: q:=by
      rcases List.mem_append.1 hmm with h | h
      ·exact absurd h hmp
      ·exact h
     have:=hcross m hmq; rw [hc] at this; cases this
   ·exact ha k hk
theorem eq {σ:Type} {f:Nat → σ → σ} (hcm:∀ i j s,cm i j = true → f j (f i s) = f i (f j s)) (hirr:∀ i,dep i i = false) :
  ∀ (n:Nat) (rem:List Nat),rem.length ≤ n → rem.Nodup → ∀ π,π.Perm rem → pT dep π → ∃ ρ ∈ MI dep cm n rem,∀ s,π.foldl (fun s i => f i s) s = ρ.foldl (fun s i => f i s) s:=by
 intro n
 induction n with
 | zero =>
  intro rem hn _ π hp _
  have:rem = []:=List.length_eq_zero_iff.1 (by omega)
  subst this
  have:=hp.eq_nil
  subst this
  exact ⟨[],by simp [MI],fun s => rfl⟩
 | succ n ih =>
  intro rem hn hnd π hp hl
  cases rem with
  | nil =>
   have:=hp.eq_nil
   subst this
   exact ⟨[],by simp [MI],fun s => rfl⟩
  | cons r0 rr =>
   have hnd':π.Nodup:=hp.nodup_iff.2 hnd
   simp only [MI]
   cases hfind:(ready dep (r0 :: rr)).find? (hO dep cm (r0 :: rr)) with
   | some j =>
    have hj:j ∈ r0 :: rr:=by
     have:=List.mem_of_find?_eq_some hfind
     exact (List.mem_filter.1 this).1
    have hfree:=List.find?_some hfind
    obtain ⟨p,q,rfl⟩:=List.append_of_mem (hp.mem_iff.2 hj)
    have hjp:j ∉ p:=by
     intro c
     rw [List.nodup_append] at hnd'
     exact hnd'.2.2 j c j (by simp) rfl
    have hcom:∀ i,i ∈ p → cm j i = true:=by
     intro i hi
     simp only [hO,List.all_eq_true] at hfree
     have hir:i ∈ r0 :: rr:=hp.mem_iff.1 (by simp [hi])
     have:=hfree i hir
     simp only [Bool.or_eq_true,beq_iff_eq,List.contains_eq_mem,decide_eq_true_eq] at this
     rcases this with e | e | e
     ·exact absurd hi (e ▸ hjp)
     ·exact absurd hi (Zw hl (r0 :: rr) [] (fun k hk => by simp at hk) (fun k hk => hp.mem_iff.2 hk) i e)
     ·exact e
    have hmove:∀ (p:List Nat),(∀ i,i ∈ p → cm j i = true) → ∀ s,f j (p.foldl (fun s i => f i s) s) = p.foldl (fun s i => f i s) (f j s):=by
     intro p
     induction p with
     | nil => intro _ s; rfl
     | cons a p ihp =>
      intro hc s
      simp only [List.foldl_cons]
      rw [ihp (fun i hi => hc i (by simp [hi])),hcm j a s (hc a (by simp))]
    have hperm:(p ++ q).Perm ((r0 :: rr).erase j):=by
     have h1:(p ++ j :: q).Perm (j :: (p ++ q)):=List.perm_middle
     have h2:=(h1.symm.trans hp).erase j
     simpa using h2
    have hlin:pT dep (p ++ q):=by
     unfold pT at hl ⊢
     exact hl.sublist (List.Sublist.append (List.Sublist.refl p) (List.sublist_cons_self j q))
    obtain ⟨ρ,hρ,he⟩:=ih _ (by rw [List.length_erase_of_mem hj]; simp at hn ⊢; omega) (hnd.erase j) (p ++ q) hperm hlin
    refine ⟨j :: ρ,List.mem_map.2 ⟨ρ,hρ,rfl⟩,fun s => ?_⟩
    rw [List.foldl_append,List.foldl_cons,hmove p hcom,List.foldl_cons,← he,List.foldl_append]
   | none =>
    cases π with
    | nil => have:=hp.symm.eq_nil; cases this
    | cons j π' =>
     have hj:j ∈ r0 :: rr:=hp.mem_iff.1 (by simp)
     have hready:j ∈ ready dep (r0 :: rr):=by
      refine List.mem_filter.2 ⟨hj,List.all_eq_true.2 fun i hi => ?_⟩
      have hiπ:i ∈ j :: π':=hp.mem_iff.2 hi
      rcases List.mem_cons.1 hiπ with e | hiπ
      ·rw [e,hirr]; rfl
      ·unfold pT at hl
       rw [List.pairwise_cons] at hl
       rw [hl.1 i hiπ]; rfl
     have hperm:π'.Perm ((r0 :: rr).erase j):=by
      have h2:=hp.erase j
      simpa using h2
     have hlin:pT dep π':=by unfold pT at hl ⊢; exact (List.pairwise_cons.1 hl).2
     obtain ⟨ρ,hρ,he⟩:=ih _ (by rw [List.length_erase_of_mem hj]; simp at hn ⊢; omega) (hnd.erase j) π' hperm hlin
     refine ⟨j :: ρ,List.mem_flatMap.2 ⟨j,hready,List.mem_map.2 ⟨ρ,hρ,rfl⟩⟩,fun s => ?_⟩
     rw [List.foldl_cons,List.foldl_cons,he]
end
open Go Go.RowKit
set_option linter.unusedSimpArgs false
set_option linter.unusedVariables false
def cg:Jx:=⟨.no,0,none,.mov (.c .any)⟩
def Kp (ops:Array Oper) (i j:Nat):Bool :=
 match ops[j]? with
 | some o => o.after.any fun e => Region.binds .any e && e.on == i
 | none => false
def cmOf (is:List Jx) (i j:Nat):Bool:=com (is.getD i cg) (is.getD j cg)
def AAA (vm:List Nat) (ops:Array Oper):List Nat:=((ops.toList.filterMap (·.dst)).filter fun d => !vm.contains d).eraseDups
def aA (P:Program) (n:Nat) (ops:Array Oper) (vm ss:List Nat) (is:List Jx) (j:Nat):Bool :=
 match ops[j]? with
 | some o => o.after.all (fun e => !Region.binds .any e || decide (e.on < j)) && cn P n ops vm ss o (is.getD j cg) == some ss
 | none => false
def co (P:Program) (n:Nat) (ops:Array Oper) (vm ss:List Nat) (k:Nat) (is:List Jx) (alts:List (List Nat)):Bool :=
 P.follows .mixedOrders && (ss.length == k && (ss.all (fun t => decide (t < n)) && (is.length == ops.size && ((List.range ops.size).all (aA P n ops vm ss is) &&
  (MI (Kp ops) (cmOf is) ops.size (List.range ops.size)).all fun ρ => ρ == List.range ops.size || alts.contains ρ))))
noncomputable def gL (T:Ht) (is:List Jx) (s:St) (l:List Nat):St:=l.foldl (fun s i => CS T s (is.getD i cg)) s
theorem SN {T:Ht} {is:List Jx}:∀ (l:List Nat) (s:St),EG T (SQ is l) s = gL T is s l
 | [],s => rfl
 | i :: l,s => SN l (CS T s (is.getD i cg))
theorem bC (is:List Jx):SQ is (List.range is.length) = is:=by
 unfold SQ
 apply List.ext_getElem
 ·simp
 ·intro i h1 h2
  simp [List.getD_eq_getElem?_getD,List.getElem?_eq_getElem h2]
theorem jJ {T:Ht} {is:List Jx}:∀ (l:List Nat) {s:St},(gL T is s l).ok = true → s.ok = true
 | [],_,h => h
 | i :: l,s,h => fB (jJ l (s:=CS T s (is.getD i cg)) h)
theorem YV {T:Ht} {is:List Jx} {s r:St}:∀ {alts:List (List Nat)},NJ T is s r alts = true → ∀ l,l ∈ alts → EG T (SQ is l) s = r
 | [],_,l,h => by simp at h
 | a :: alts,h,l,hl => by
  simp only [NJ,Bool.and_eq_true,decide_eq_true_eq] at h
  rcases List.mem_cons.1 hl with e | hl
  ·subst e; exact h.1
  ·exact YV h.2 l hl
section
variable {F Iow:Nat → Prop} {w0:World} {g0:Gh} {o0:CB} {g:Gh} {w w':World} {tmps:Array Value} {ds:List Deferred} {vm ss ss':List Nat} {s:St} {P:Program} {T:Ht}
 {Q:Exit → Act → World → Prop} {ops:Array Oper} {n:Nat}
theorem FX.grow (h:FX F Iow w0 g0 o0 g w tmps vm ss s) (hw:At (fun _ => False) w w'):FX F Iow w0 g0 o0 g w' tmps vm ss s :=
 FX.mk' (w:=w) (h.toFR.grow hw) h.same (hw.mono fun _ _ c => c.elim) h.hio h.fio h.par
theorem FX.slots (h:FX F Iow w0 g0 o0 g w tmps vm [] s) {k:Nat} (hk:ss.length = k) (hf:∀ t,t ∈ ss → t < tmps.size):FX F Iow w0 g0 o0 g w tmps vm ss (slots k s):=by
 refine ⟨⟨h.home,h.inj,h.nF,h.fb,h.vl,by simp [Go.Proofs.YtfaenphcgfocnaaGreatDoor.slots,hk],h.vs,fun i hi => ?_,fun t ht => ?_,h.tab⟩,h.same,h.hio,h.fio,h.par⟩
 ·simp only [Go.Proofs.YtfaenphcgfocnaaGreatDoor.slots]
  have:(List.replicate k AV.any).getD i .any = .any:=by rw [List.getD_eq_getElem?_getD,List.getElem?_replicate]; split <;> rfl
  rw [this]; exact SR.any
 ·rcases ht with ht | ht
  ·exact h.fit t (.inl ht)
  ·exact hf t ht
theorem ud (hT:JL P T) (hnd:MQ vm) {is:List Jx} (hchk:∀ j,j < ops.size → aA P n ops vm ss is j = true) {r:St} (hrok:r.ok = true)
  (hQ:∀ tmps' w' g',tmps'.size = n → FX F Iow w0 g0 o0 g' w' tmps' vm ss r → Q .normal ⟨tmps',ds⟩ w') :
  ∀ (fuel:Nat) (rem:List Nat) (listed:Array Bool) {s:St} {g:Gh} {w:World} {tmps:Array Value},rem.Pairwise (· < ·) → (∀ i,i ∈ rem → i < ops.size) → listed.size = ops.size → (∀ i,i < ops.size → (listed.getD i true = true ↔ i ∉ rem)) → rem.length ≤ fuel →
   (∀ π,π.Perm rem → pT (Kp ops) π → gL T is s π = r) → FX F Iow w0 g0 o0 g w tmps vm ss s → tmps.size = n → wpAny P .any ops Q fuel listed ⟨tmps,ds⟩ w:=by
 have hdep:∀ i j,Kp ops i j = true → i < j:=by
  intro i j hd
  unfold Kp at hd
  split at hd
  ·rename_i o ho
   have hj:j < ops.size:=by
    rcases Nat.lt_or_ge j ops.size with h' | h'
    ·exact h'
    ·rw [Array.getElem?_eq_none h'] at ho; cases ho
   have hc:=hchk j hj
   unfold aA at hc
   rw [ho] at hc
   simp only [Bool.and_eq_true,Array.all_eq_true,Array.any_eq_true] at hc hd
   obtain ⟨x,hx,hb,he⟩:=hd
   have:=hc.1 x hx
   simp only [Bool.or_eq_true,Bool.not_eq_true',decide_eq_true_eq,beq_iff_eq] at this he
   rcases this with e | e
   ·rw [hb] at e; cases e
   ·omega
  ·cases hd
 have hlinS:∀ (l:List Nat),l.Pairwise (· < ·) → pT (Kp ops) l:=fun l hl => hl.imp fun {a b} hab => by
  cases hd:Kp ops b a with
  | false => rfl
  | true => have:=hdep b a hd; omega
 have hready:∀ (rem:List Nat) (listed:Array Bool),(∀ i,i ∈ rem → i < ops.size) → listed.size = ops.size → (∀ i,i < ops.size → (listed.getD i true = true ↔ i ∉ rem)) → ∀ i,i ∈ Region.ready .any ops listed → i ∈ rem ∧ ∀ k,k ∈ rem → Kp ops k i = false:=by
  intro rem listed hb hsz hl i hi
  obtain ⟨h1,h2⟩:=List.mem_filter.1 hi
  have hiN:i < ops.size:=by simpa using h1
  simp only [Bool.and_eq_true,Bool.not_eq_true',Array.getElem?_eq_getElem hiN,Option.map_some,Option.getD_some,Array.all_eq_true] at h2
  obtain ⟨h3,h4⟩:=h2
  refine ⟨?_,fun k hk => ?_⟩
  ·by_cases hm:i ∈ rem
   ·exact hm
   ·have:=(hl i hiN).2 hm; rw [h3] at this; cases this
  ·cases hd:Kp ops k i with
   | false => rfl
   | true =>
    unfold Kp at hd
    rw [Array.getElem?_eq_getElem hiN] at hd
    simp only [Array.any_eq_true,Bool.and_eq_true,beq_iff_eq] at hd
    obtain ⟨x,hx,hbd,he⟩:=hd
    have h5:=h4 x hx
    rw [hbd,he] at h5
    simp only [Bool.not_true,Bool.false_or] at h5
    have hkN:=hb k hk
    have h6:listed.getD k true = true:=by
     rw [← h5,Array.getD_eq_getD_getElem?,Array.getD_eq_getD_getElem?,Array.getElem?_eq_getElem (by omega)]; rfl
    exact absurd hk ((hl k hkN).1 h6)
 have hsome:∀ (rem:List Nat) (listed:Array Bool),rem.Pairwise (· < ·) → (∀ i,i ∈ rem → i < ops.size) → listed.size = ops.size → (∀ i,i < ops.size → (listed.getD i true = true ↔ i ∉ rem)) → Region.ready .any ops listed = [] → rem = []:=by
  intro rem listed hs hb hsz hl h0
  cases rem with
  | nil => rfl
  | cons a r =>
   exfalso
   have haN:=hb a (by simp)
   have hc:=hchk a haN
   unfold aA at hc
   rw [Array.getElem?_eq_getElem haN] at hc
   simp only [Bool.and_eq_true,Array.all_eq_true] at hc
   have hmem:a ∈ Region.ready .any ops listed:=by
    refine List.mem_filter.2 ⟨by simpa using haN,?_⟩
    simp only [Bool.and_eq_true,Bool.not_eq_true',Array.getElem?_eq_getElem haN,Option.map_some,Option.getD_some,Array.all_eq_true]
    refine ⟨?_,fun x hx => ?_⟩
    ·cases hla:listed.getD a true with
     | false => rfl
     | true => exact absurd (List.mem_cons_self) ((hl a haN).1 hla)
    ·have h5:=hc.1 x hx
     simp only [Bool.or_eq_true,Bool.not_eq_true',decide_eq_true_eq] at h5 ⊢
     refine h5.imp id fun hlt => ?_
     have hk:(ops[a].after[x]).on < ops.size:=by omega
     have hnm:(ops[a].after[x]).on ∉ a :: r:=by
      intro hm
      rcases List.mem_cons.1 hm with e | hm
      ·omega
      ·have:=(List.pairwise_cons.1 hs).1 _ hm; omega
     have h6:=(hl _ hk).2 hnm
     rw [← h6,Array.getD_eq_getD_getElem?,Array.getD_eq_getD_getElem?,Array.getElem?_eq_getElem (by omega)]; rfl
   rw [h0] at hmem; simp at hmem
 intro fuel
 induction fuel with
 | zero =>
  intro rem listed s g w tmps hs hb hsz hl hf H hfx hn
  have hr0:rem = []:=List.length_eq_zero_iff.1 (by omega)
  subst hr0
  have e:=H [] (List.Perm.refl _) List.Pairwise.nil
  have e':s = r:=e
  subst e'
  refine ⟨?_,hQ _ _ _ hn hfx⟩
  rw [List.eq_nil_iff_forall_not_mem]
  intro i hi
  exact absurd (hready [] listed hb hsz hl i hi).1 (by simp)
 | succ fuel ih =>
  intro rem listed s g w tmps hs hb hsz hl hf H hfx hn
  refine ⟨fun h0 => ?_,fun i hi => ?_⟩
  ·have hr0:=hsome rem listed hs hb hsz hl h0
   subst hr0
   have e:=H [] (List.Perm.refl _) List.Pairwise.nil
   have e':s = r:=e
   subst e'
   exact hQ _ _ _ hn hfx
  ·obtain ⟨him,hdi⟩:=hready rem listed hb hsz hl i hi
   have hiN:=hb i him
   have hc:=hchk i hiN
   unfold aA at hc
   rw [Array.getElem?_eq_getElem hiN] at hc
   simp only [Bool.and_eq_true,beq_iff_eq] at hc
   have hnodup:rem.Nodup:=hs.imp fun {a b} h => Nat.ne_of_lt h
   have hes:(rem.erase i).Pairwise (· < ·):=hs.sublist List.erase_sublist
   have hlin:∀ π,π.Perm (rem.erase i) → pT (Kp ops) π → pT (Kp ops) (i :: π):=fun π hp hl => List.pairwise_cons.2 ⟨fun k hk => hdi k (List.mem_of_mem_erase (hp.mem_iff.1 hk)),hl⟩
   have hperm:∀ π,π.Perm (rem.erase i) → (i :: π).Perm rem:=fun π hp => (hp.cons i).trans (List.perm_cons_erase him).symm
   have hok:(CS T s (is.getD i cg)).ok = true:=by
    have e:=H (i :: rem.erase i) (hperm _ (List.Perm.refl _)) (hlin _ (List.Perm.refl _) (hlinS _ hes))
    refine jJ (T:=T) (is:=is) (rem.erase i) ?_
    have e2:gL T is (CS T s (is.getD i cg)) (rem.erase i) = r:=e
    rw [e2]; exact hrok
   have hstep:=eR (ds:=ds) (Q:=Q) (K:=wpAny P .any ops Q fuel (listed.setIfInBounds i true)) hT hfx hnd hn hc.2 hok fun tmps' w' g' hn' hfx' => ?_
   ·unfold wpOp
    rw [Array.getElem?_eq_getElem hiN]
    simp only
    split
    ·rename_i hw; rw [if_pos hw] at hstep; exact .inl hstep
    ·rename_i hw; rw [if_neg hw] at hstep; exact hstep
   ·refine ih (rem.erase i) _ hes (fun k hk => hb k (List.mem_of_mem_erase hk)) (by simpa using hsz) (fun k hk => ?_) (by rw [List.length_erase_of_mem him]; omega) (fun π hp hl => H (i :: π) (hperm π hp) (hlin π hp hl)) hfx' hn'
    rw [hnodup.mem_erase_iff]
    by_cases e:i = k
    ·subst e
     simp [Array.getD_eq_getD_getElem?,hsz,hiN]
    ·rw [Array.getD_eq_getD_getElem?,Array.getElem?_setIfInBounds_ne e,← Array.getD_eq_getD_getElem?,hl k hk]
     simp [Ne.symm e]
theorem ue (hT:JL P T) (hnd:MQ vm) {k id:Nat} {is:List Jx} {alts:List (List Nat)} (hc:co P n ops vm ss k is alts = true) (h:FX F Iow w0 g0 o0 g w tmps vm [] s) (hn:tmps.size = n) (hok:(RB T k is alts s).ok = true)
  (hQ:∀ tmps' w' g',tmps'.size = n → FX F Iow w0 g0 o0 g' w' tmps' vm ss (RB T k is alts s) → Q .normal ⟨tmps',ds⟩ w'):(Code.region id ops true).wp P Q ⟨tmps,ds⟩ w:=by
 simp only [co,Bool.and_eq_true,beq_iff_eq,List.all_eq_true,decide_eq_true_eq,Bool.or_eq_true,List.contains_eq_mem,List.mem_range] at hc
 obtain ⟨hm,hk,hss,hil,hat,hex⟩:=hc
 have hboth:(EG T is (slots k s)).ok = true ∧ NJ T is (slots k s) (EG T is (slots k s)) alts = true:=by
  simpa [RB,kC] using hok
 have hdr:({ w with drawn:=w.drawn + 1 }:World) = w.drew:=rfl
 have hfx:=(h.slots (ss:=ss) hk (fun t ht => by rw [hn]; exact hss t ht)).grow (w':={ w with drawn:=w.drawn + 1 }) (by rw [hdr]; exact At.drew _ _)
 have hrange:gL T is (slots k s) (List.range ops.size) = EG T is (slots k s):=by
  rw [← SN,← hil,bC]
 refine wp_region_any hm (ud hT hnd (is:=is) (r:=EG T is (slots k s)) (fun j hj => hat j hj) hboth.1 (fun tmps' w' g' hn' hf => hQ tmps' w' g' hn' ?_) ops.size (List.range ops.size) _ List.pairwise_lt_range (fun i hi => by simpa using hi) (by simp) (fun i hi => ?_) (by simp) (fun π hp hl => ?_) hfx hn)
 ·exact hf.setOk _
 ·simp [Array.getD_eq_getD_getElem?,hi]
 ·have hirr:∀ i,Kp ops i i = false:=by
   intro i
   cases hd:Kp ops i i with
   | false => rfl
   | true =>
    unfold Kp at hd
    split at hd
    ·rename_i o ho
     have hj:i < ops.size:=by
      rcases Nat.lt_or_ge i ops.size with h' | h'
      ·exact h'
      ·rw [Array.getElem?_eq_none h'] at ho; cases ho
     have hc:=hat i hj
     unfold aA at hc
     rw [ho] at hc
     simp only [Bool.and_eq_true,Array.all_eq_true,Array.any_eq_true] at hc hd
     obtain ⟨x,hx,hb,he⟩:=hd
     have:=hc.1 x hx
     simp only [Bool.or_eq_true,Bool.not_eq_true',decide_eq_true_eq,beq_iff_eq] at this he
     rcases this with e | e
     ·rw [hb] at e; cases e
     ·omega
    ·cases hd
  obtain ⟨ρ,hρ,he⟩:=eq (f:=fun i s => CS T s (is.getD i cg)) (fun i j s hcm => ACt hcm) hirr ops.size (List.range ops.size) (by simp) List.nodup_range π hp hl
  have h1:gL T is (slots k s) π = gL T is (slots k s) ρ:=he _
  rw [h1]
  rcases hex ρ hρ with e | e
  ·rw [e]; exact hrange
  ·rw [← SN]; exact YV hboth.2 ρ e
end
end Go.Proofs.YtfaenphcgfocnaaGreatDoor
