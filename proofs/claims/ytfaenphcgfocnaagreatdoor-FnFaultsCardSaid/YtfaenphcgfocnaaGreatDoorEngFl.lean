/- Operations that read scalars alone commute with every other operation. No condition. (Under way: see NOTES.) -/
import Derived.Test.YtfaenphcgfocnaaGreatDoorEngU
namespace Go.Proofs.YtfaenphcgfocnaaGreatDoor
open Go Go.RowKit
set_option linter.unusedSimpArgs false
set_option linter.unusedVariables false
def Jn:AV → Bool
 | .any => true
 | a => Cf a
def Nb (a b:AV):Prop:=(Cf a = true → b = a) ∧ (Cf b = true → Cf a = true)
theorem Nb.refl (a:AV):Nb a a:=⟨fun _ => rfl,id⟩
theorem Nb.trans {a b c:AV} (h:Nb a b) (k:Nb b c):Nb a c:=⟨fun e => by
 have e1:=h.1 e
 have e2:=k.1 (by rw [e1]; exact e)
 rw [e2,e1],fun e => h.2 (k.2 e)⟩
def zO (φ:AV → AV):Prop:=(∀ a,Jn a = true → φ a = a) ∧ ∀ a,Cf (φ a) = true → Cf a = true
theorem dX {a:AV} (h:Cf a = true):Jn a = true:=by cases a <;> simp_all [Jn,Cf]
theorem zO.nb {φ:AV → AV} (h:zO φ) (a:AV):Nb a (φ a):=⟨fun e => h.1 a (dX e),h.2 a⟩
theorem jM (d:Nat):zO (YK d):=by
 refine ⟨fun a h => ?_,fun a h => ?_⟩
 ·cases a <;> simp [Jn,Cf] at h <;> simp [YK,AV.keys,AV.key1]
 ·unfold YK at h
  rw [AO] at h
  split at h
  ·cases h
  ·exact h
theorem LS (k:Nat):zO (AV.kill k):=by
 refine ⟨fun a h => ?_,fun a h => ?_⟩
 ·cases a <;> simp [Jn,Cf] at h <;> simp [AV.kill,AV.names,AV.keys,AV.key1]
 ·unfold AV.kill at h
  rw [AO] at h
  split at h
  ·cases h
  ·exact h
theorem qQ (k:Nat) (hm:Hm):zO (AV.fz k hm):=by
 refine ⟨fun a h => ?_,fun a h => ?_⟩
 ·cases a <;> simp [Jn,Cf] at h <;> rfl
 ·cases a <;> simp only [AV.fz] at h <;> first | rfl | (cases h; done) | (rw [AO] at h; split at h <;> cases h)
def Bq:Gk → Bool
 | .push => false
 | _ => true
section
variable {s:St} {c:Bool} {v:AV} {D:Gk}
theorem vi {φ:AV → AV} (hφ:zO φ) (hv:Jn v = true) (l:List AV) (n:Nat):(l.set n v).map φ = (l.map φ).set n v:=by
 rw [List.map_set,hφ.1 v hv]
theorem Pd {φ:AV → AV} (hφ:zO φ) (hv:Jn v = true) (hp:Bq D = true) (ob:CB) :
  ({ vs:=(BE s c v D).vs.map φ,st:=(BE s c v D).st.map φ,ob:=ob,ok:=(BE s c v D).ok }:St) = BE { vs:=s.vs.map φ,st:=s.st.map φ,ob:=ob,ok:=s.ok } c v D:=by
 cases D <;> simp only [BE,vi hφ hv]
 cases hp
theorem Ei:(BE s c v D).ob = s.ob:=by cases D <;> rfl
theorem qK (b:Bool):({ BE s c v D with ok:=(BE s c v D).ok && b }:St) = BE { s with ok:=s.ok && b } c v D:=by
 cases D <;> simp only [BE,Bool.and_right_comm]
theorem dl (hv:Jn v = true) (hp:Bq D = true) (k:Nat) (h:Option Hm):freezeH (BE s c v D) k h = BE (freezeH s k h) c v D:=by
 cases h with
 | none => rfl
 | some h => simp only [freezeH,Ei]; exact Pd (qQ k h) hv hp _
theorem EN (hv:Jn v = true) (hp:Bq D = true):∀ (ks:List Nat) (s:St),freezeAll (BE s c v D) ks = BE (freezeAll s ks) c v D
 | [],_ => rfl
 | k :: r,s => by
  simp only [freezeAll,Ei]
  rw [dl hv hp]
  exact EN hv hp r _
theorem qL (hv:Jn v = true) (hp:Bq D = true) (k:Nat):killAll (BE s c v D) k = BE (killAll s k) c v D:=by
 simp only [killAll,Ei]; exact Pd (LS k) hv hp _
theorem kZ (hv:Jn v = true) (hp:Bq D = true) (d:Nat):clear (BE s c v D) d = BE (clear s d) c v D:=by
 unfold Go.Proofs.YtfaenphcgfocnaaGreatDoor.clear
 rw [Ei,AO,AO]
 split
 ·exact Pd (jM d) hv hp _
 ·rfl
theorem gO (hs:CB):OK (BE s c v D) hs = BE (OK s hs) c v D:=by
 cases D <;> rfl
theorem SP (ob:CB):({ BE s c v D with ob:=ob }:St) = BE { s with ob:=ob } c v D:=by cases D <;> rfl
theorem Eb:fail (BE s c v D) = BE (fail s) c v D:=by cases D <;> simp [fail,BE]
def Ml:Gk → Gk → Bool
 | .var n,.var m => n == m
 | .slot n,.slot m => n == m
 | _,_ => false
theorem Od (D E:Gk):Ml D E = Ml E D:=by
 cases D <;> cases E <;> first | rfl | (simp only [Ml]; rw [Bool.eq_iff_iff,beq_iff_eq,beq_iff_eq]; exact eq_comm)
theorem Pc {E:Gk} {c':Bool} {a:AV} (hp:Bq D = true) (he:Bq E = true) (h:Ml D E = false):BE (BE s c v D) c' a E = BE (BE s c' a E) c v D:=by
 have hb:(s.ok && c && c') = (s.ok && c' && c):=Bool.and_right_comm _ _ _
 cases D <;> simp only [Bq] at hp <;> (try (cases hp; done)) <;> cases E <;> simp only [Bq] at he <;> (try (cases he; done)) <;> simp only [BE,hb] <;>
  (try (simp only [Ml,beq_eq_false_iff_ne] at h; rw [List.set_comm _ _ h]))
def Hz (D E:Gk):Bool:=Bq E && !Ml D E
theorem qJ (hv:Jn v = true) (hp:Bq D = true) {E:Gk} (he:Hz D E = true) (key:Nat) (c':Bool) (a:AV) (hs:CB):Pf (BE s c v D) key E c' a hs = BE (Pf s key E c' a hs) c v D:=by
 simp only [Hz,Bool.and_eq_true,Bool.not_eq_true'] at he
 cases hs with
 | nil => exact Pc hp he.1 he.2
 | cons h hs =>
  simp only [Pf]
  rw [kZ hv hp,gO]
  exact Pc hp he.1 he.2
theorem Ii (hv:Jn v = true) (hp:Bq D = true) {E:Gk} (he:Hz D E = true) (key:Nat) (m:Mk):Ca (BE s c v D) key E m = BE (Ca s key E m) c v D:=qJ hv hp he key _ _ _
theorem bA (hv:Jn v = true) (hp:Bq D = true):∀ (ms:List Md) (as os:List AV) (s:St),Am (BE s c v D) ms as os = BE (Am s ms as os) c v D:=by
 intro ms
 induction ms with
 | nil =>
  intro as os s
  cases as <;> cases os <;> simp only [Am] <;> first | rfl | exact Eb
 | cons m ms ih =>
  intro as os s
  cases m <;> cases as <;> (try (simp only [Am]; exact Eb)) <;> cases os <;> (try (simp only [Am]; exact Eb))
  ·simp only [Am]; exact ih _ _ _
  ·rename_i a as o os
   cases a <;> (try (simp only [Am]; exact Eb))
   ·cases o <;> (try (simp only [Am]; exact Eb))
    simp only [Am,Ei,SP]
    exact ih _ _ _
   ·rename_i k i off
    cases off <;> cases o <;> (try (simp only [Am]; exact Eb))
    simp only [Am,Ei,SP]
    exact ih _ _ _
  ·rename_i a as o os
   cases a <;> (try (simp only [Am]; exact Eb))
   ·simp only [Am]; exact ih _ _ _
   ·simp only [Am]
    rw [qL hv hp]
    exact ih _ _ _
theorem qI (hv:Jn v = true) (hp:Bq D = true) (C:Ax) (args:List AV):PK C (BE s c v D) args = BE (PK C s args) c v D:=by
 unfold PK
 rw [AO,AO]
 split
 ·rfl
 ·exact EN hv hp _ _
theorem ka (hv:Jn v = true) (hp:Bq D = true) {E:Gk} (he:Hz D E = true) (key:Nat) (args:List AV) (C:Option Ax):Kr (BE s c v D) key E args C = BE (Kr s key E args C) c v D:=by
 cases C with
 | none => exact Eb
 | some C =>
  simp only [Kr,Lb,Ei]
  rw [qI hv hp,bA hv hp,Ii hv hp he]
theorem Of {T:Ht} (hv:Jn v = true) (hp:Bq D = true) {E:Gk} (he:Hz D E = true) (key:Nat) (q:zh):Hy T (BE s c v D) key E q = BE (Hy T s key E q) c v D:=by
 unfold Hy
 rw [qK]
 exact ka hv hp he _ _ _
theorem gQ (sz:Nat) (x p:AV):IL (BE s c v D) sz x p = BE (IL s sz x p) c v D:=by
 cases p <;> (try exact Eb)
 rename_i k i off
 simp only [IL,Ei]
 cases AN k s.ob with
 | none => exact Eb
 | some h =>
  simp only [ON,PQ,Ei]
  cases D <;> simp only [BE,Bool.and_right_comm]
theorem qN (hv:Jn v = true) (hp:Bq D = true) {E:Gk} (he:Hz D E = true) (key sz bytes:Nat) (y:Ap) (a:AV):PC (BE s c v D) key E sz bytes y a = BE (PC s key E sz bytes y a) c v D:=by
 cases a <;> (try exact Eb)
 ·exact Ii hv hp he _ _
 ·rename_i k
  simp only [PC,Ei]
  cases AN k s.ob with
  | none => exact Eb
  | some h =>
   simp only [So]
   rw [Pd (LS k) hv hp]
   simp only [Hz,Bool.and_eq_true,Bool.not_eq_true'] at he
   simp only [Ei]
   exact Pc hp he.1 he.2
end
theorem gP {s:St} {c:Bool} {v:AV} {D:Gk} (hv:Jn v = true) (hp:Bq D = true) {E:Gk} (he:Hz D E = true) (sz:Nat) (n:Int) (a:AV):IK (BE s c v D) E sz n a = BE (IK s E sz n a) c v D:=by
 cases a <;> (try exact Eb)
 rename_i k
 simp only [IK,Ei]
 cases AN k s.ob with
 | none => exact Eb
 | some h =>
  simp only [Ry]
  rw [Pd (LS k) hv hp]
  simp only [Hz,Bool.and_eq_true,Bool.not_eq_true'] at he
  simp only [Ei]
  exact Pc hp he.1 he.2
def Sd:Gk → CA → Bool
 | .var n,.v m => n == m
 | .slot n,.s m => n == m
 | _,_ => false
theorem Lr {s:St} {c:Bool} {a:AV} {D:Gk} {x:CA} (hp:Bq D = true) (hx:Sd D x = false):rd (BE s c a D) x = rd s x:=by
 cases D <;> simp only [Bq] at hp <;> (try (cases hp; done)) <;> cases x <;> simp only [BE,rd] <;> simp only [Sd,beq_eq_false_iff_ne] at hx
 ·rename_i n m
  simp only [List.getD_eq_getElem?_getD,List.getElem?_set_ne hx]
 ·rename_i n m
  simp only [List.getD_eq_getElem?_getD,List.getElem?_set_ne hx]
def Bi:Hc → List CA
 | .store _ p x => [p,x]
 | .app _ _ _ a x => [a,x]
 | .callp _ args => args
 | .callw _ args => args
 | .pur a => BK a
 | .pick c a b => [c,a,b]
 | .mkFn _ fi ca => fi ++ ca
 | .flat a => Dp a
 | .safe _ a => DG a
 | a => BK a
section
variable {s:St} {c:Bool} {v:AV} {D:Gk} {T:Ht}
theorem Jq {r r':CA → AV} {ob:CB} {d:Nat} {a:Hc} (h:∀ x,x ∈ Bi a → r x = r' x):AS r ob d a = AS r' ob d a:=by
 cases a <;> simp only [Bi,BK] at h <;> (try (simp only [AS]; done))
 case mkFn f fi ca =>
  simp only [AS]
  rw [List.map_congr_left (l:=fi) fun x hx => h x (List.mem_append.2 (.inl hx)),List.map_congr_left (l:=ca) fun x hx => h x (List.mem_append.2 (.inr hx))]
 all_goals exact FN rfl (by simpa only [BK] using h)
theorem gT {s s':St} {key:Nat} {a:Hc} (hob:s'.ob = s.ob) (h:∀ x,x ∈ BK a → rd s' x = rd s x):HU T s' key a = HU T s key a:=by
 cases a
 case call f args => simp only [BK] at h; simp only [HU,hob]; rw [List.map_congr_left h]
 case callv f args =>
  simp only [BK] at h
  simp only [HU,hob]
  rw [List.map_congr_left (l:=args) fun x hx => h x (List.mem_cons_of_mem _ hx),h f (by simp)]
 all_goals first
  | (simp only [HU,hob]; rw [FN rfl h]; done)
  | rfl
theorem eh {r r':CA → AV} {key:Nat} {a:Hc} (h:∀ x,x ∈ Dp a → r x = r' x):Gt T r key a = Gt T r' key a:=by
 cases a <;> simp only [Dp] at h <;> (try rfl)
 case callp f args => simp only [Gt]; rw [List.map_congr_left h]
 case pur b =>
  cases b <;> (try rfl)
  rename_i sz x lo hi
  simp only [Gt]
  rw [FN (a:=.slice sz x lo hi) rfl h]
 all_goals
  simp only [Gt]
  rw [FN rfl h]
theorem TI {s s':St} {key:Nat} {a:Hc} (h:∀ x,x ∈ Dp a → rd s' x = rd s x):Ko ((Dp a).all fun x => Cf (rd s' x)) (Gt T (rd s') key a) = Ko ((Dp a).all fun x => Cf (rd s x)) (Gt T (rd s) key a):=by
 rw [eh h]
 congr 1
 have:∀ l:List CA,(∀ x,x ∈ l → rd s' x = rd s x) → (l.all fun x => Cf (rd s' x)) = l.all fun x => Cf (rd s x):=by
  intro l hl
  induction l with
  | nil => rfl
  | cons y l ih => simp only [List.all_cons]; rw [hl y (by simp),ih fun x hx => hl x (by simp [hx])]
 exact this _ h
theorem XH {r r':CA → AV} {ob:CB} {d:Nat} {a:Hc} (h:∀ x,x ∈ BK a → r x = r' x):Mo T r ob d a = Mo T r' ob d a:=by
 by_cases hg:BB a = true
 ·cases a
  case call f args =>
   simp only [BK] at h
   simp only [Mo]; rw [List.map_congr_left h]
  case callv f args =>
   simp only [BK] at h
   simp only [Mo]
   rw [List.map_congr_left (l:=args) fun x hx => h x (List.mem_cons_of_mem _ hx),h f (by simp)]
  all_goals first
   | (exfalso; simp [BB] at hg; done)
   | (simp only [Mo]; rw [FN hg h])
 ·have hg':BB a = false:=by simpa using hg
  cases a
  case call f args => simp [BB] at hg
  case callv f args => simp [BB] at hg
  all_goals (simp only [Mo]; rw [hg']; rfl)
theorem Sz {r r':CA → AV} {ob:CB} {key:Nat} {a:Hc} (h:∀ x,x ∈ DG a → r x = r' x):HT T r ob key a = HT T r' ob key a:=by
 cases a
 case pur b =>
  have h':∀ x,x ∈ BK b → r x = r' x:=h
  clear h
  cases b
  case callv => rfl
  all_goals
   simp only [HT]
   exact XH h'
 case pick c x y =>
  simp only [DG] at h
  simp only [HT]
  rw [h c (by simp),h x (by simp),h y (by simp)]
 case callp f args =>
  simp only [DG] at h
  simp only [HT]
  rw [List.map_congr_left h]
 case mkFn f fi ca =>
  simp only [HT]
  rw [Jq (a:=.mkFn f fi ca) h]
 all_goals first
  | rfl
  | (simp only [HT]; rw [Jq (by simpa only [Bi,DG] using h)])
theorem Sy {r r':CA → AV} {ob:CB} {key:Nat} {ds:List Nat} {a:Hc} (h:∀ x,x ∈ DG a → r x = r' x):JB T r ob key ds a = JB T r' ob key ds a:=by
 unfold JB
 rw [Sz h]
 congr 1
 have:∀ l:List CA,(∀ x,x ∈ l → r x = r' x) → (l.all fun x => Lt ds (r x)) = l.all fun x => Lt ds (r' x):=by
  intro l hl
  induction l with
  | nil => rfl
  | cons y l ih => simp only [List.all_cons]; rw [hl y (by simp),ih fun x hx => hl x (by simp [hx])]
 exact this _ h
theorem qM (hv:Jn v = true) (hp:Bq D = true) {E:Gk} (he:Hz D E = true) {key:Nat} {a:Hc} (hr:∀ x,x ∈ Bi a → Sd D x = false):By T (BE s c v D) key E a = BE (By T s key E a) c v D:=by
 have hrd:∀ x,x ∈ Bi a → ∀ s c,rd (BE s c v D) x = rd s x:=fun x hx s c => Lr hp (hr x hx)
 have hmap:∀ l:List CA,(∀ x,x ∈ l → x ∈ Bi a) → l.map (rd (BE s c v D)) = l.map (rd s):=fun l hl => List.map_congr_left fun x hx => hrd x (hl x hx) s c
 have st:∀ b:Hc,Bi b = Bi a → ∀ s:St,Ca (BE s c v D) key E (AS (rd (BE s c v D)) (BE s c v D).ob key b) = BE (Ca s key E (AS (rd s) s.ob key b)) c v D:=fun b hb s => by
  rw [Ei,Jq (r':=rd s) fun x hx => hrd x (hb ▸ hx) s c]
  exact Ii hv hp he _ _
 cases a
 case store sz p x =>
  simp only [By]
  rw [hrd x (by simp [Bi]),EN hv hp,hrd x (by simp [Bi]),hrd p (by simp [Bi])]
  exact gQ _ _ _
 case app sz bytes z y x =>
  simp only [By,Ei]
  rw [hrd x (by simp [Bi]),hrd y (by simp [Bi])]
  exact qN hv hp he _ _ _ _ _
 case call f args =>
  simp only [By]
  rw [hmap args fun x hx => by simpa [Bi,BK] using hx]
  exact Of hv hp he _ _
 case callv f args =>
  simp only [By]
  rw [hmap args fun x hx => by simp [Bi,BK,hx],hrd f (by simp [Bi,BK])]
  exact Of hv hp he _ _
 case callp f args =>
  simp only [By,Ei]
  rw [hmap args fun x hx => by simpa [Bi] using hx]
  exact Ii hv hp he _ _
 case pur b =>
  simp only [By]
  rw [gT (s:=s) Ei fun x hx => hrd x (by simpa [Bi] using hx) s c]
  exact Ii hv hp he _ _
 case callw f args => exact Eb
 case flat b =>
  simp only [By]
  rw [TI (s:=s) (s':=BE s c v D) fun x hx => hrd x (by simpa [Bi] using hx) s c]
  exact Ii hv hp he _ _
 case pick q x y =>
  simp only [By]
  rw [hrd q (by simp [Bi]),hrd x (by simp [Bi]),hrd y (by simp [Bi])]
  exact Ii hv hp he _ _
 case trunc sz x y =>
  simp only [By]
  rw [hrd x (by simp [Bi,BK]),hrd y (by simp [Bi,BK])]
  exact gP hv hp he _ _ _
 case movz x =>
  simp only [By]
  rw [hrd x (by simp [Bi,BK]),EN hv hp]
  exact st (.mov x) rfl _
 case safe ks b =>
  simp only [By]
  rw [Ei,Sy (r':=rd s) fun x hx => hrd x (by simpa [Bi] using hx) s c]
  exact Ii hv hp he _ _
 case box x =>
  simp only [By]
  rw [hrd x (by simp [Bi,BK]),EN hv hp,hrd x (by simp [Bi,BK])]
  exact Ii hv hp he _ _
 case build z ps =>
  simp only [By]
  have hk:CN (BE s c v D) (.build z ps) = CN s (.build z ps):=by
   simp only [CN,List.flatMap_def]
   rw [List.map_congr_left fun p hq => by rw [hrd p.2.2 (List.mem_map.2 ⟨p,hq,rfl⟩) s c]]
  rw [hk,EN hv hp]
  exact st _ rfl _
 case mkSl sz z n ps =>
  simp only [By]
  have hk:CN (BE s c v D) (.mkSl sz z n ps) = CN s (.mkSl sz z n ps):=by
   simp only [CN,List.flatMap_def]
   rw [List.map_congr_left fun p hq => by rw [hrd p.2 (List.mem_map.2 ⟨p,hq,rfl⟩) s c]]
  rw [hk,EN hv hp]
  exact st _ rfl _
 case slice sz x lo hi =>
  simp only [By]
  rw [hrd x (by simp [Bi,BK]),EN hv hp]
  exact st _ rfl _
 all_goals
  simp only [By]
  exact st _ rfl _
theorem qD {s:St} {x:CA}:Rv s x = (match x with | .c a => a | x => Gc (rd s x)):=by cases x <;> rfl
theorem qE {s s':St} {x:CA} (h:rd s' x = rd s x):Rv s' x = Rv s x:=by
 rw [qD,qD]
 cases x <;> simp only [h]
theorem kf {a:Hc} {x:CA} (h:x ∈ BK a):x ∈ Bi a:=by
 cases a <;> first | exact h | (simp [BK] at h)
theorem PD {f g:CA → Bool}:∀ {l:List CA},(∀ x,x ∈ l → f x = g x) → l.all f = l.all g
 | [],_ => rfl
 | x :: l,h => by simp only [List.all_cons]; rw [h x (by simp),PD fun y hy => h y (by simp [hy])]
theorem Xu {s s':St} {w:Bool} {key:Nat} {a:Hc} (hob:s'.ob = s.ob) (h:∀ x,x ∈ Bi a → rd s' x = rd s x):CY T s' w key a = CY T s w key a:=by
 have hu:∀ x,x ∈ Bi a → Rv s' x = Rv s x:=fun x hx => qE (h x hx)
 have hall:((BK a).all fun x => CO w (rd s' x)) = (BK a).all fun x => CO w (rd s x):=PD fun x hx => by rw [h x (kf hx)]
 have dflt:Ej (BB a && (BK a).all fun x => CO w (rd s' x)) (OB (AS (Rv s') s'.ob key a)) = Ej (BB a && (BK a).all fun x => CO w (rd s x)) (OB (AS (Rv s) s.ob key a)):=by
  rw [hall,hob,Jq hu]
 cases a
 case pick q x y =>
  simp only [CY]
  rw [h q (by simp [Bi]),h x (by simp [Bi]),h y (by simp [Bi]),hu q (by simp [Bi])]
 case call f args =>
  simp only [CY,hob]
  rw [hall,List.map_congr_left (l:=args) fun x hx => hu x (by simpa [Bi,BK] using hx)]
 case callv f args =>
  simp only [CY,hob]
  rw [hall,List.map_congr_left (l:=args) fun x hx => hu x (by simp [Bi,BK,hx]),hu f (by simp [Bi,BK])]
 all_goals exact dflt
theorem dh (hv:Jn v = true) (hp:Bq D = true) {E:Gk} (he:Hz D E = true) (w:Bool) (m:Mk):Kz (BE s c v D) w E m = BE (Kz s w E m) c v D:=by
 simp only [Hz,Bool.and_eq_true,Bool.not_eq_true'] at he
 exact Pc hp he.1 he.2
theorem kX (hv:Jn v = true) (hp:Bq D = true) {E:Gk} (he:Hz D E = true) {key:Nat} {w:Bool} {a:Hc} (hr:∀ x,x ∈ Bi a → Sd D x = false):Jp T (BE s c v D) key E w a = BE (Jp T s key E w a) c v D:=by
 have hrd:∀ x,x ∈ Bi a → rd (BE s c v D) x = rd s x:=fun x hx => Lr hp (hr x hx)
 have dflt:∀ b:Hc,b = a → Kz (BE s c v D) w E (CY T (BE s c v D) w key b) = BE (Kz s w E (CY T s w key b)) c v D:=fun b hb => by
  subst hb
  rw [Xu Ei hrd]
  exact dh hv hp he _ _
 cases a
 case callw f args =>
  simp only [Jp,iI]
  split
  ·have e1:(args.all fun x => CO true (rd (BE s c v D) x)) = args.all fun x => CO true (rd s x):=PD fun x hx => by rw [hrd x (by simpa [Bi] using hx)]
   rw [e1,List.map_congr_left (l:=args) fun x hx => qE (hrd x (by simpa [Bi] using hx))]
   exact Of hv hp he _ _
  ·exact dh hv hp he _ _
 all_goals exact dflt _ rfl
def KK (i:Jx):List CA:=(match i.guard with | some g => [g.1] | none => []) ++ Bi i.op
theorem kY (hv:Jn v = true) (hp:Bq D = true) {i:Jx} (he:Hz D i.dst = true) (hr:∀ x,x ∈ KK i → Sd D x = false):CS T (BE s c v D) i = BE (CS T s i) c v D:=by
 unfold CS
 unfold KK at hr
 cases hg:i.guard with
 | none => rw [hg] at hr; simp only [Sb]; exact qM hv hp he fun x hx => hr x (by simpa using hx)
 | some g =>
  rw [hg] at hr
  simp only [Sb]
  rw [Lr hp (hr g.1 (by simp)),qK]
  exact kX hv hp he fun x hx => hr x (by simp [hx])
def TX (s s':St):Prop:=∀ x,Nb (rd s x) (rd s' x)
theorem TX.refl (s:St):TX s s:=fun x => Nb.refl _
theorem TX.trans {a b d:St} (h:TX a b) (k:TX b d):TX a d:=fun x => (h x).trans (k x)
theorem XJ {φ:AV → AV} (hφ:zO φ) (s:St) (ob:CB) (ok:Bool):TX s { vs:=s.vs.map φ,st:=s.st.map φ,ob:=ob,ok:=ok }:=by
 have ha:φ .any = .any:=hφ.1 _ rfl
 intro x
 cases x
 ·simp only [rd]; rw [Be φ ha]; exact hφ.nb _
 ·simp only [rd]; rw [Be φ ha]; exact hφ.nb _
 ·exact Nb.refl _
theorem Df {s s':St} (h1:s'.vs = s.vs) (h2:s'.st = s.st):TX s s':=by
 intro x
 cases x <;> simp only [rd,h1,h2] <;> exact Nb.refl _
theorem FB:∀ (ks:List Nat) (s:St),TX s (freezeAll s ks)
 | [],s => TX.refl s
 | k :: r,s => by
  simp only [freezeAll]
  refine TX.trans ?_ (FB r _)
  cases AN k s.ob with
  | none => exact TX.refl _
  | some h => exact XJ (qQ k h) _ _ _
theorem qb (d:Nat) (s:St):TX s (clear s d):=by
 unfold Go.Proofs.YtfaenphcgfocnaaGreatDoor.clear
 rw [AO]
 split
 ·exact XJ (jM d) _ _ _
 ·exact TX.refl _
def zP (E:Gk) (s s':St):Prop:=∀ x,Sd E x = false → Nb (rd s x) (rd s' x)
theorem NX {E:Gk} (he:Bq E = true) {s s':St} (h:TX s s') (c:Bool) (a:AV):zP E s (BE s' c a E):=fun x hx => by
 rw [Lr he hx]; exact h x
theorem Kk {E:Gk} (he:Bq E = true) {s s':St} (h:TX s s') (key:Nat) (m:Mk):zP E s (Ca s' key E m):=by
 unfold Ca
 cases m.hs with
 | nil => exact NX he h _ _
 | cons p r =>
  simp only [Pf]
  refine NX he ?_ _ _
  refine h.trans ((qb key s').trans ?_)
  exact Df rfl rfl
theorem dx:∀ (ms:List Md) (as os:List AV) (s:St),TX s (Am s ms as os):=by
 intro ms
 induction ms with
 | nil =>
  intro as os s
  cases as <;> cases os <;> simp only [Am] <;> exact Df rfl rfl
 | cons m ms ih =>
  intro as os s
  cases m <;> cases as <;> (try (simp only [Am]; exact Df rfl rfl)) <;> cases os <;> (try (simp only [Am]; exact Df rfl rfl))
  ·simp only [Am]; exact ih _ _ _
  ·rename_i a as o os
   cases a <;> (try (simp only [Am]; exact Df rfl rfl))
   ·cases o <;> (try (simp only [Am]; exact Df rfl rfl))
    simp only [Am]
    refine TX.trans ?_ (ih _ _ _)
    exact Df rfl rfl
   ·rename_i k i off
    cases off <;> cases o <;> (try (simp only [Am]; exact Df rfl rfl))
    simp only [Am]
    refine TX.trans ?_ (ih _ _ _)
    exact Df rfl rfl
  ·rename_i a as o os
   cases a <;> (try (simp only [Am]; exact Df rfl rfl))
   ·simp only [Am]; exact ih _ _ _
   ·simp only [Am]
    exact TX.trans (XJ (LS _) _ _ _) (ih _ _ _)
theorem ST {E:Gk} (he:Bq E = true) (s:St) (key:Nat) (q:zh):zP E s (Hy T s key E q):=by
 unfold Hy
 cases T q.f with
 | none => exact fun x _ => Df (s:=s) rfl rfl x
 | some C =>
  simp only [Kr,Lb]
  refine Kk he ?_ _ _
  refine TX.trans ?_ (dx _ _ _ _)
  unfold PK
  rw [AO]
  split
  ·exact Df rfl rfl
  ·refine TX.trans ?_ (FB _ _)
   exact Df rfl rfl
theorem qZ (s:St) (sz:Nat) (x p:AV):TX s (IL s sz x p):=by
 cases p <;> (try exact Df rfl rfl)
 rename_i k i off
 simp only [IL]
 cases AN k s.ob <;> exact Df rfl rfl
theorem AAT {E:Gk} (he:Bq E = true) (s:St) (key sz bytes:Nat) (y:Ap) (a:AV):zP E s (PC s key E sz bytes y a):=by
 cases a <;> (try (exact fun x _ => Df (s:=s) rfl rfl x))
 ·exact Kk he (TX.refl s) _ _
 ·rename_i k
  simp only [PC]
  cases AN k s.ob with
  | none => exact fun x _ => Df (s:=s) rfl rfl x
  | some h => exact NX he (XJ (LS k) _ _ _) _ _
theorem qY {E:Gk} (he:Bq E = true) (s:St) (sz:Nat) (n:Int) (a:AV):zP E s (IK s E sz n a):=by
 cases a <;> (try (exact fun x _ => Df (s:=s) rfl rfl x))
 rename_i k
 simp only [IK]
 cases AN k s.ob with
 | none => exact fun x _ => Df (s:=s) rfl rfl x
 | some h => exact NX he (XJ (LS k) _ _ _) _ _
theorem wB {E:Gk} (he:Bq E = true) (s:St) (key:Nat) (a:Hc):zP E s (By T s key E a):=by
 cases a <;> simp only [By]
 case store => exact fun x _ => ((FB _ s).trans (qZ _ _ _ _)) x
 case app => exact AAT he _ _ _ _ _ _
 case call => exact ST he _ _ _
 case callv => exact ST he _ _ _
 case callw => exact fun x _ => Df (s:=s) rfl rfl x
 case box => exact Kk he (FB _ s) _ _
 case build => exact Kk he (FB _ s) _ _
 case mkSl => exact Kk he (FB _ s) _ _
 case slice => exact Kk he (FB _ s) _ _
 case movz => exact Kk he (FB _ s) _ _
 case trunc => exact qY he _ _ _ _
 all_goals exact Kk he (TX.refl s) _ _
theorem qa {i:Jx} (he:Bq i.dst = true) (s:St):zP i.dst s (CS T s i):=by
 unfold CS
 cases i.guard with
 | none => exact wB he s _ _
 | some g =>
  simp only [Sb]
  have h0:TX s { s with ok:=s.ok && Mx (rd s g.1) }:=Df rfl rfl
  have dflt:∀ m,zP i.dst s (Kz { s with ok:=s.ok && Mx (rd s g.1) } (eZ g.2 (rd s g.1)) i.dst m):=fun m => NX he h0 _ _
  cases i.op
  case callw f args =>
   simp only [Jp,iI]
   split
   ·exact fun x hx => (h0 x).trans (ST he _ _ _ x hx)
   ·exact NX he h0 _ _
  all_goals exact dflt _
theorem yE {s s':St} {key:Nat} {a:Hc} (h:∀ x,x ∈ Dp a → Nb (rd s x) (rd s' x)):Ko ((Dp a).all fun x => Cf (rd s' x)) (Gt T (rd s') key a) = Ko ((Dp a).all fun x => Cf (rd s x)) (Gt T (rd s) key a):=by
 by_cases hs:∀ x,x ∈ Dp a → Cf (rd s x) = true
 ·exact TI fun x hx => (h x hx).1 (hs x hx)
 ·have e1:((Dp a).all fun x => Cf (rd s x)) = false:=by
   rw [Bool.eq_false_iff]
   exact fun c => hs (List.all_eq_true.1 c)
  have e2:((Dp a).all fun x => Cf (rd s' x)) = false:=by
   rw [Bool.eq_false_iff]
   exact fun c => hs fun x hx => (h x hx).2 (List.all_eq_true.1 c x hx)
  rw [e1,e2]
  rfl
theorem Zs {b:Bool} {m:Mk}:Jn (Ko b m).v = true ∧ (Ko b m).hs = []:=by
 unfold Ko
 rw [AO]
 split
 ·rename_i h
  simp only [Bool.and_eq_true] at h
  exact ⟨dX h.2.2,rfl⟩
 ·exact ⟨rfl,rfl⟩
def bR (i:Jx):Bool:=i.guard.isNone && (match i.op with
 | .flat _ => true
 | _ => false)
theorem ed {s:St} {i j:Jx} (hj:bR j = true) (hp:Bq i.dst = true) (hq:Bq j.dst = true) (hd:Ml j.dst i.dst = false) (h1:∀ x,x ∈ KK j → Sd i.dst x = false) (h2:∀ x,x ∈ KK i → Sd j.dst x = false) :
  CS T (CS T s i) j = CS T (CS T s j) i:=by
 obtain ⟨D,key,gd,op⟩:=j
 simp only [bR,Bool.and_eq_true,Option.isNone_iff_eq_none] at hj
 obtain ⟨rfl,hop⟩:=hj
 cases op <;> (try (cases hop; done))
 rename_i a
 have hj:∀ s:St,CS T s ⟨D,key,none,.flat a⟩ = BE s (Ko ((Dp a).all fun x => Cf (rd s x)) (Gt T (rd s) key a)).ok (Ko ((Dp a).all fun x => Cf (rd s x)) (Gt T (rd s) key a)).v D:=fun s => by
  simp only [CS,Sb,By]
  unfold Ca
  rw [Zs.2]
  rfl
 rw [hj,hj,yE (s:=s) fun x hx => qa hp s x (h1 x (by simpa [KK,Bi] using hx))]
 refine (kY Zs.1 hq ?_ h2).symm
 simp only [Hz,Bool.and_eq_true,Bool.not_eq_true']
 exact ⟨hp,hd⟩
end
end Go.Proofs.YtfaenphcgfocnaaGreatDoor
