/- Operations that read scalars alone commute with every other operation. No condition. (Under way: see NOTES.) -/
import Derived.Test.YthdmeanbdohehaaGreatDoorEngU
namespace Go.Proofs.YthdmeanbdohehaaGreatDoor
open Go Go.RowKit
set_option linter.unusedSimpArgs false
set_option linter.unusedVariables false
def Hl : AV → Bool
 | .any => true
 | a => Ce a
def Nb (a b : AV) : Prop := (Ce a = true → b = a) ∧ (Ce b = true → Ce a = true)
theorem Nb.refl (a : AV) : Nb a a := ⟨fun _ => rfl, id⟩
theorem Nb.trans {a b c : AV} (h : Nb a b) (k : Nb b c) : Nb a c := ⟨fun e => by
 have e1 := h.1 e
 have e2 := k.1 (by rw [e1]; exact e)
 rw [e2, e1], fun e => h.2 (k.2 e)⟩
def oP (φ : AV → AV) : Prop := (∀ a, Hl a = true → φ a = a) ∧ ∀ a, Ce (φ a) = true → Ce a = true
theorem Xz {a : AV} (h : Ce a = true) : Hl a = true := by cases a <;> simp_all [Hl, Ce]
theorem oP.nb {φ : AV → AV} (h : oP φ) (a : AV) : Nb a (φ a) := ⟨fun e => h.1 a (Xz e), h.2 a⟩
theorem bJ (d : Nat) : oP (UT d) := by
 refine ⟨fun a h => ?_, fun a h => ?_⟩
 ·cases a <;> simp [Hl, Ce] at h <;> simp [UT, AV.keys, AV.key1]
 ·unfold UT at h
  rw [AM] at h
  split at h
  ·cases h
  ·exact h
theorem JQ (k : Nat) : oP (AV.kill k) := by
 refine ⟨fun a h => ?_, fun a h => ?_⟩
 ·cases a <;> simp [Hl, Ce] at h <;> simp [AV.kill, AV.names, AV.keys, AV.key1]
 ·unfold AV.kill at h
  rw [AM] at h
  split at h
  ·cases h
  ·exact h
theorem gU (k : Nat) (hm : Hm) : oP (AV.fz k hm) := by
 refine ⟨fun a h => ?_, fun a h => ?_⟩
 ·cases a <;> simp [Hl, Ce] at h <;> rfl
 ·cases a <;> simp only [AV.fz] at h <;> first | rfl | (cases h; done) | (rw [AM] at h; split at h <;> cases h)
def Bv : Fh → Bool
 | .push => false
 | _ => true
section
variable {s : St} {c : Bool} {v : AV} {D : Fh}
theorem ly {φ : AV → AV} (hφ : oP φ) (hv : Hl v = true) (l : List AV) (n : Nat) : (l.set n v).map φ = (l.map φ).set n v := by
 rw [List.map_set, hφ.1 v hv]
theorem ND {φ : AV → AV} (hφ : oP φ) (hv : Hl v = true) (hp : Bv D = true) (ob : CC) :
  ({ vs := (Ar s c v D).vs.map φ, st := (Ar s c v D).st.map φ, ob := ob, ok := (Ar s c v D).ok } : St) = Ar { vs := s.vs.map φ, st := s.st.map φ, ob := ob, ok := s.ok } c v D := by
 cases D <;> simp only [Ar, ly hφ hv]
 cases hp
theorem ET : (Ar s c v D).ob = s.ob := by cases D <;> rfl
theorem gM (b : Bool) : ({ Ar s c v D with ok := (Ar s c v D).ok && b } : St) = Ar { s with ok := s.ok && b } c v D := by
 cases D <;> simp only [Ar, Bool.and_right_comm]
theorem YK (hv : Hl v = true) (hp : Bv D = true) (k : Nat) (h : Option Hm) : freezeH (Ar s c v D) k h = Ar (freezeH s k h) c v D := by
 cases h with
 | none => rfl
 | some h => simp only [freezeH, ET]; exact ND (gU k h) hv hp _
theorem EI (hv : Hl v = true) (hp : Bv D = true) : ∀ (ks : List Nat) (s : St), freezeAll (Ar s c v D) ks = Ar (freezeAll s ks) c v D
 | [], _ => rfl
 | k :: r, s => by
  simp only [freezeAll, ET]
  rw [YK hv hp]
  exact EI hv hp r _
theorem gN (hv : Hl v = true) (hp : Bv D = true) (k : Nat) : killAll (Ar s c v D) k = Ar (killAll s k) c v D := by
 simp only [killAll, ET]; exact ND (JQ k) hv hp _
theorem cc (hv : Hl v = true) (hp : Bv D = true) (d : Nat) : clear (Ar s c v D) d = Ar (clear s d) c v D := by
 unfold Go.Proofs.YthdmeanbdohehaaGreatDoor.clear
 rw [ET, AM, AM]
 split
 ·exact ND (bJ d) hv hp _
 ·rfl
theorem Zp (hs : CC) : MB (Ar s c v D) hs = Ar (MB s hs) c v D := by
 cases D <;> rfl
theorem PF (ob : CC) : ({ Ar s c v D with ob := ob } : St) = Ar { s with ob := ob } c v D := by cases D <;> rfl
theorem EO : Ct (Ar s c v D) = Ar (Ct s) c v D := by cases D <;> simp [Ct, Ar]
def Kh : Fh → Fh → Bool
 | .var n, .var m => n == m
 | .slot n, .slot m => n == m
 | _, _ => false
theorem MR (D E : Fh) : Kh D E = Kh E D := by
 cases D <;> cases E <;> first | rfl | (simp only [Kh]; rw [Bool.eq_iff_iff, beq_iff_eq, beq_iff_eq]; exact eq_comm)
theorem NC {E : Fh} {c' : Bool} {a : AV} (hp : Bv D = true) (he : Bv E = true) (h : Kh D E = false) : Ar (Ar s c v D) c' a E = Ar (Ar s c' a E) c v D := by
 have hb : (s.ok && c && c') = (s.ok && c' && c) := Bool.and_right_comm _ _ _
 cases D <;> simp only [Bv] at hp <;> (try (cases hp; done)) <;> cases E <;> simp only [Bv] at he <;> (try (cases he; done)) <;> simp only [Ar, hb] <;>
  (try (simp only [Kh, beq_eq_false_iff_ne] at h; rw [List.set_comm _ _ h]))
def GZ (D E : Fh) : Bool := Bv E && !Kh D E
theorem gL (hv : Hl v = true) (hp : Bv D = true) {E : Fh} (he : GZ D E = true) (key : Nat) (c' : Bool) (a : AV) (hs : CC) : NE (Ar s c v D) key E c' a hs = Ar (NE s key E c' a hs) c v D := by
 simp only [GZ, Bool.and_eq_true, Bool.not_eq_true'] at he
 cases hs with
 | nil => exact NC hp he.1 he.2
 | cons h hs =>
  simp only [NE]
  rw [cc hv hp, Zp]
  exact NC hp he.1 he.2
theorem Gn (hv : Hl v = true) (hp : Bv D = true) {E : Fh} (he : GZ D E = true) (key : Nat) (m : Mk) : CZ (Ar s c v D) key E m = Ar (CZ s key E m) c v D := gL hv hp he key _ _ _
theorem WK (hv : Hl v = true) (hp : Bv D = true) : ∀ (ms : List Md) (as os : List AV) (s : St), Ac (Ar s c v D) ms as os = Ar (Ac s ms as os) c v D := by
 intro ms
 induction ms with
 | nil =>
  intro as os s
  cases as <;> cases os <;> simp only [Ac] <;> first | rfl | exact EO
 | cons m ms ih =>
  intro as os s
  cases m <;> cases as <;> (try (simp only [Ac]; exact EO)) <;> cases os <;> (try (simp only [Ac]; exact EO))
  ·simp only [Ac]; exact ih _ _ _
  ·rename_i a as o os
   cases a <;> (try (simp only [Ac]; exact EO))
   ·cases o <;> (try (simp only [Ac]; exact EO))
    simp only [Ac, ET, PF]
    exact ih _ _ _
   ·rename_i k i off
    cases off <;> cases o <;> (try (simp only [Ac]; exact EO))
    simp only [Ac, ET, PF]
    exact ih _ _ _
  ·rename_i a as o os
   cases a <;> (try (simp only [Ac]; exact EO))
   ·simp only [Ac]; exact ih _ _ _
   ·simp only [Ac]
    rw [gN hv hp]
    exact ih _ _ _
theorem gK (hv : Hl v = true) (hp : Bv D = true) (C : Bf) (args : List AV) : Mp C (Ar s c v D) args = Ar (Mp C s args) c v D := by
 unfold Mp
 rw [AM, AM]
 split
 ·rfl
 ·exact EI hv hp _ _
theorem cd (hv : Hl v = true) (hp : Bv D = true) {E : Fh} (he : GZ D E = true) (key : Nat) (args : List AV) (C : Option Bf) : Ir (Ar s c v D) key E args C = Ar (Ir s key E args C) c v D := by
 cases C with
 | none => exact EO
 | some C =>
  simp only [Ir, Jj, ET]
  rw [gK hv hp, WK hv hp, Gn hv hp he]
theorem MT {T : GW} (hv : Hl v = true) (hp : Bv D = true) {E : Fh} (he : GZ D E = true) (key : Nat) (q : oo) : GY T (Ar s c v D) key E q = Ar (GY T s key E q) c v D := by
 unfold GY
 rw [gM]
 exact cd hv hp he _ _ _
theorem Zr (sz : Nat) (x p : AV) : Gl (Ar s c v D) sz x p = Ar (Gl s sz x p) c v D := by
 cases p <;> (try exact EO)
 rename_i k i off
 simp only [Gl, ET]
 cases AL k s.ob with
 | none => exact EO
 | some h =>
  simp only [ME, Ms, ET]
  cases D <;> simp only [Ar, Bool.and_right_comm]
theorem gQ (hv : Hl v = true) (hp : Bv D = true) {E : Fh} (he : GZ D E = true) (key sz bytes : Nat) (y : Ap) (a : AV) : Mi (Ar s c v D) key E sz bytes y a = Ar (Mi s key E sz bytes y a) c v D := by
 cases a <;> (try exact EO)
 ·exact Gn hv hp he _ _
 ·rename_i k
  simp only [Mi, ET]
  cases AL k s.ob with
  | none => exact EO
  | some h =>
   simp only [Pl]
   rw [ND (JQ k) hv hp]
   simp only [GZ, Bool.and_eq_true, Bool.not_eq_true'] at he
   simp only [ET]
   exact NC hp he.1 he.2
end
theorem Zq {s : St} {c : Bool} {v : AV} {D : Fh} (hv : Hl v = true) (hp : Bv D = true) {E : Fh} (he : GZ D E = true) (sz : Nat) (n : Int) (a : AV) : Gk (Ar s c v D) E sz n a = Ar (Gk s E sz n a) c v D := by
 cases a <;> (try exact EO)
 rename_i k
 simp only [Gk, ET]
 cases AL k s.ob with
 | none => exact EO
 | some h =>
  simp only [Ox]
  rw [ND (JQ k) hv hp]
  simp only [GZ, Bool.and_eq_true, Bool.not_eq_true'] at he
  simp only [ET]
  exact NC hp he.1 he.2
def Pc : Fh → CA → Bool
 | .var n, .v m => n == m
 | .slot n, .s m => n == m
 | _, _ => false
theorem Jv {s : St} {c : Bool} {a : AV} {D : Fh} {x : CA} (hp : Bv D = true) (hx : Pc D x = false) : rd (Ar s c a D) x = rd s x := by
 cases D <;> simp only [Bv] at hp <;> (try (cases hp; done)) <;> cases x <;> simp only [Ar, rd] <;> simp only [Pc, beq_eq_false_iff_ne] at hx
 ·rename_i n m
  simp only [List.getD_eq_getElem?_getD, List.getElem?_set_ne hx]
 ·rename_i n m
  simp only [List.getD_eq_getElem?_getD, List.getElem?_set_ne hx]
def Bj : GO → List CA
 | .store _ p x => [p, x]
 | .app _ _ _ a x => [a, x]
 | .callp _ args => args
 | .callw _ args => args
 | .pur a => BA a
 | .pick c a b => [c, a, b]
 | .mkFn _ fi ca => fi ++ ca
 | .flat a => Dt a
 | .safe _ a => Cz a
 | a => BA a
section
variable {s : St} {c : Bool} {v : AV} {D : Fh} {T : GW}
theorem Hr {r r' : CA → AV} {ob : CC} {d : Nat} {a : GO} (h : ∀ x, x ∈ Bj a → r x = r' x) : AO r ob d a = AO r' ob d a := by
 cases a <;> simp only [Bj, BA] at h <;> (try (simp only [AO]; done))
 case mkFn f fi ca =>
  simp only [AO]
  rw [List.map_congr_left (l := fi) fun x hx => h x (List.mem_append.2 (.inl hx)), List.map_congr_left (l := ca) fun x hx => h x (List.mem_append.2 (.inr hx))]
 all_goals exact Eg rfl (by simpa only [BA] using h)
theorem Zt {s s' : St} {key : Nat} {a : GO} (hob : s'.ob = s.ob) (h : ∀ x, x ∈ BA a → rd s' x = rd s x) : GK T s' key a = GK T s key a := by
 cases a
 case call f args => simp only [BA] at h; simp only [GK, hob]; rw [List.map_congr_left h]
 case callv f args =>
  simp only [BA] at h
  simp only [GK, hob]
  rw [List.map_congr_left (l := args) fun x hx => h x (List.mem_cons_of_mem _ hx), h f (by simp)]
 all_goals first
  | (simp only [GK, hob]; rw [Eg rfl h]; done)
  | rfl
theorem Yr {r r' : CA → AV} {key : Nat} {a : GO} (h : ∀ x, x ∈ Dt a → r x = r' x) : Fr T r key a = Fr T r' key a := by
 cases a <;> simp only [Dt] at h <;> (try rfl)
 case callp f args => simp only [Fr]; rw [List.map_congr_left h]
 case pur b =>
  cases b <;> (try rfl)
  rename_i sz x lo hi
  simp only [Fr]
  rw [Eg (a := .slice sz x lo hi) rfl h]
 all_goals
  simp only [Fr]
  rw [Eg rfl h]
theorem QA {s s' : St} {key : Nat} {a : GO} (h : ∀ x, x ∈ Dt a → rd s' x = rd s x) : In ((Dt a).all fun x => Ce (rd s' x)) (Fr T (rd s') key a) = In ((Dt a).all fun x => Ce (rd s x)) (Fr T (rd s) key a) := by
 rw [Yr h]
 congr 1
 have : ∀ l : List CA, (∀ x, x ∈ l → rd s' x = rd s x) → (l.all fun x => Ce (rd s' x)) = l.all fun x => Ce (rd s x) := by
  intro l hl
  induction l with
  | nil => rfl
  | cons y l ih => simp only [List.all_cons]; rw [hl y (by simp), ih fun x hx => hl x (by simp [hx])]
 exact this _ h
theorem TW {r r' : CA → AV} {ob : CC} {d : Nat} {a : GO} (h : ∀ x, x ∈ BA a → r x = r' x) : Km T r ob d a = Km T r' ob d a := by
 by_cases hg : Al a = true
 ·cases a
  case call f args =>
   simp only [BA] at h
   simp only [Km]; rw [List.map_congr_left h]
  case callv f args =>
   simp only [BA] at h
   simp only [Km]
   rw [List.map_congr_left (l := args) fun x hx => h x (List.mem_cons_of_mem _ hx), h f (by simp)]
  all_goals first
   | (exfalso; simp [Al] at hg; done)
   | (simp only [Km]; rw [Eg hg h])
 ·have hg' : Al a = false := by simpa using hg
  cases a
  case call f args => simp [Al] at hg
  case callv f args => simp [Al] at hg
  all_goals (simp only [Km]; rw [hg']; rfl)
theorem Ps {r r' : CA → AV} {ob : CC} {key : Nat} {a : GO} (h : ∀ x, x ∈ Cz a → r x = r' x) : GJ T r ob key a = GJ T r' ob key a := by
 cases a
 case pur b =>
  have h' : ∀ x, x ∈ BA b → r x = r' x := h
  clear h
  cases b
  case callv => rfl
  all_goals
   simp only [GJ]
   exact TW h'
 case pick c x y =>
  simp only [Cz] at h
  simp only [GJ]
  rw [h c (by simp), h x (by simp), h y (by simp)]
 case callp f args =>
  simp only [Cz] at h
  simp only [GJ]
  rw [List.map_congr_left h]
 case mkFn f fi ca =>
  simp only [GJ]
  rw [Hr (a := .mkFn f fi ca) h]
 all_goals first
  | rfl
  | (simp only [GJ]; rw [Hr (by simpa only [Bj, Cz] using h)])
theorem Pr {r r' : CA → AV} {ob : CC} {key : Nat} {ds : List Nat} {a : GO} (h : ∀ x, x ∈ Cz a → r x = r' x) : HI T r ob key ds a = HI T r' ob key ds a := by
 unfold HI
 rw [Ps h]
 congr 1
 have : ∀ l : List CA, (∀ x, x ∈ l → r x = r' x) → (l.all fun x => Jy ds (r x)) = l.all fun x => Jy ds (r' x) := by
  intro l hl
  induction l with
  | nil => rfl
  | cons y l ih => simp only [List.all_cons]; rw [hl y (by simp), ih fun x hx => hl x (by simp [hx])]
 exact this _ h
theorem gP (hv : Hl v = true) (hp : Bv D = true) {E : Fh} (he : GZ D E = true) {key : Nat} {a : GO} (hr : ∀ x, x ∈ Bj a → Pc D x = false) : By T (Ar s c v D) key E a = Ar (By T s key E a) c v D := by
 have hrd : ∀ x, x ∈ Bj a → ∀ s c, rd (Ar s c v D) x = rd s x := fun x hx s c => Jv hp (hr x hx)
 have hmap : ∀ l : List CA, (∀ x, x ∈ l → x ∈ Bj a) → l.map (rd (Ar s c v D)) = l.map (rd s) := fun l hl => List.map_congr_left fun x hx => hrd x (hl x hx) s c
 have st : ∀ b : GO, Bj b = Bj a → ∀ s : St, CZ (Ar s c v D) key E (AO (rd (Ar s c v D)) (Ar s c v D).ob key b) = Ar (CZ s key E (AO (rd s) s.ob key b)) c v D := fun b hb s => by
  rw [ET, Hr (r' := rd s) fun x hx => hrd x (hb ▸ hx) s c]
  exact Gn hv hp he _ _
 cases a
 case store sz p x =>
  simp only [By]
  rw [hrd x (by simp [Bj]), EI hv hp, hrd x (by simp [Bj]), hrd p (by simp [Bj])]
  exact Zr _ _ _
 case app sz bytes z y x =>
  simp only [By, ET]
  rw [hrd x (by simp [Bj]), hrd y (by simp [Bj])]
  exact gQ hv hp he _ _ _ _ _
 case call f args =>
  simp only [By]
  rw [hmap args fun x hx => by simpa [Bj, BA] using hx]
  exact MT hv hp he _ _
 case callv f args =>
  simp only [By]
  rw [hmap args fun x hx => by simp [Bj, BA, hx], hrd f (by simp [Bj, BA])]
  exact MT hv hp he _ _
 case callp f args =>
  simp only [By, ET]
  rw [hmap args fun x hx => by simpa [Bj] using hx]
  exact Gn hv hp he _ _
 case pur b =>
  simp only [By]
  rw [Zt (s := s) ET fun x hx => hrd x (by simpa [Bj] using hx) s c]
  exact Gn hv hp he _ _
 case callw f args => exact EO
 case flat b =>
  simp only [By]
  rw [QA (s := s) (s' := Ar s c v D) fun x hx => hrd x (by simpa [Bj] using hx) s c]
  exact Gn hv hp he _ _
 case pick q x y =>
  simp only [By]
  rw [hrd q (by simp [Bj]), hrd x (by simp [Bj]), hrd y (by simp [Bj])]
  exact Gn hv hp he _ _
 case trunc sz x y =>
  simp only [By]
  rw [hrd x (by simp [Bj, BA]), hrd y (by simp [Bj, BA])]
  exact Zq hv hp he _ _ _
 case movz x =>
  simp only [By]
  rw [hrd x (by simp [Bj, BA]), EI hv hp]
  exact st (.mov x) rfl _
 case safe ks b =>
  simp only [By]
  rw [ET, Pr (r' := rd s) fun x hx => hrd x (by simpa [Bj] using hx) s c]
  exact Gn hv hp he _ _
 case box x =>
  simp only [By]
  rw [hrd x (by simp [Bj, BA]), EI hv hp, hrd x (by simp [Bj, BA])]
  exact Gn hv hp he _ _
 case build z ps =>
  simp only [By]
  have hk : CO (Ar s c v D) (.build z ps) = CO s (.build z ps) := by
   simp only [CO, List.flatMap_def]
   rw [List.map_congr_left fun p hq => by rw [hrd p.2.2 (List.mem_map.2 ⟨p, hq, rfl⟩) s c]]
  rw [hk, EI hv hp]
  exact st _ rfl _
 case mkSl sz z n ps =>
  simp only [By]
  have hk : CO (Ar s c v D) (.mkSl sz z n ps) = CO s (.mkSl sz z n ps) := by
   simp only [CO, List.flatMap_def]
   rw [List.map_congr_left fun p hq => by rw [hrd p.2 (List.mem_map.2 ⟨p, hq, rfl⟩) s c]]
  rw [hk, EI hv hp]
  exact st _ rfl _
 case slice sz x lo hi =>
  simp only [By]
  rw [hrd x (by simp [Bj, BA]), EI hv hp]
  exact st _ rfl _
 all_goals
  simp only [By]
  exact st _ rfl _
theorem gF {s : St} {x : CA} : Ow s x = (match x with | .c a => a | x => FY (rd s x)) := by cases x <;> rfl
theorem gG {s s' : St} {x : CA} (h : rd s' x = rd s x) : Ow s' x = Ow s x := by
 rw [gF, gF]
 cases x <;> simp only [h]
theorem ch {a : GO} {x : CA} (h : x ∈ BA a) : x ∈ Bj a := by
 cases a <;> first | exact h | (simp [BA] at h)
theorem Mj {f g : CA → Bool} : ∀ {l : List CA}, (∀ x, x ∈ l → f x = g x) → l.all f = l.all g
 | [], _ => rfl
 | x :: l, h => by simp only [List.all_cons]; rw [h x (by simp), Mj fun y hy => h y (by simp [hy])]
theorem UC {s s' : St} {w : Bool} {key : Nat} {a : GO} (hob : s'.ob = s.ob) (h : ∀ x, x ∈ Bj a → rd s' x = rd s x) : CW T s' w key a = CW T s w key a := by
 have hu : ∀ x, x ∈ Bj a → Ow s' x = Ow s x := fun x hx => gG (h x hx)
 have hall : ((BA a).all fun x => CQ w (rd s' x)) = (BA a).all fun x => CQ w (rd s x) := Mj fun x hx => by rw [h x (ch hx)]
 have dflt : EU (Al a && (BA a).all fun x => CQ w (rd s' x)) (Lp (AO (Ow s') s'.ob key a)) = EU (Al a && (BA a).all fun x => CQ w (rd s x)) (Lp (AO (Ow s) s.ob key a)) := by
  rw [hall, hob, Hr hu]
 cases a
 case pick q x y =>
  simp only [CW]
  rw [h q (by simp [Bj]), h x (by simp [Bj]), h y (by simp [Bj]), hu q (by simp [Bj])]
 case call f args =>
  simp only [CW, hob]
  rw [hall, List.map_congr_left (l := args) fun x hx => hu x (by simpa [Bj, BA] using hx)]
 case callv f args =>
  simp only [CW, hob]
  rw [hall, List.map_congr_left (l := args) fun x hx => hu x (by simp [Bj, BA, hx]), hu f (by simp [Bj, BA])]
 all_goals exact dflt
theorem YJ (hv : Hl v = true) (hp : Bv D = true) {E : Fh} (he : GZ D E = true) (w : Bool) (m : Mk) : Iz (Ar s c v D) w E m = Ar (Iz s w E m) c v D := by
 simp only [GZ, Bool.and_eq_true, Bool.not_eq_true'] at he
 exact NC hp he.1 he.2
theorem cY (hv : Hl v = true) (hp : Bv D = true) {E : Fh} (he : GZ D E = true) {key : Nat} {w : Bool} {a : GO} (hr : ∀ x, x ∈ Bj a → Pc D x = false) : Hp T (Ar s c v D) key E w a = Ar (Hp T s key E w a) c v D := by
 have hrd : ∀ x, x ∈ Bj a → rd (Ar s c v D) x = rd s x := fun x hx => Jv hp (hr x hx)
 have dflt : ∀ b : GO, b = a → Iz (Ar s c v D) w E (CW T (Ar s c v D) w key b) = Ar (Iz s w E (CW T s w key b)) c v D := fun b hb => by
  subst hb
  rw [UC ET hrd]
  exact YJ hv hp he _ _
 cases a
 case callw f args =>
  simp only [Hp, aD]
  split
  ·have e1 : (args.all fun x => CQ true (rd (Ar s c v D) x)) = args.all fun x => CQ true (rd s x) := Mj fun x hx => by rw [hrd x (by simpa [Bj] using hx)]
   rw [e1, List.map_congr_left (l := args) fun x hx => gG (hrd x (by simpa [Bj] using hx))]
   exact MT hv hp he _ _
  ·exact YJ hv hp he _ _
 all_goals exact dflt _ rfl
def IY (i : Hx) : List CA := (match i.guard with | some g => [g.1] | none => []) ++ Bj i.op
theorem cZ (hv : Hl v = true) (hp : Bv D = true) {i : Hx} (he : GZ D i.dst = true) (hr : ∀ x, x ∈ IY i → Pc D x = false) : CT T (Ar s c v D) i = Ar (CT T s i) c v D := by
 unfold CT
 unfold IY at hr
 cases hg : i.guard with
 | none => rw [hg] at hr; simp only [Pa]; exact gP hv hp he fun x hx => hr x (by simpa using hx)
 | some g =>
  rw [hg] at hr
  simp only [Pa]
  rw [Jv hp (hr g.1 (by simp)), gM]
  exact cY hv hp he fun x hx => hr x (by simp [hx])
def QF (s s' : St) : Prop := ∀ x, Nb (rd s x) (rd s' x)
theorem QF.refl (s : St) : QF s s := fun x => Nb.refl _
theorem QF.trans {a b d : St} (h : QF a b) (k : QF b d) : QF a d := fun x => (h x).trans (k x)
theorem TZ {φ : AV → AV} (hφ : oP φ) (s : St) (ob : CC) (ok : Bool) : QF s { vs := s.vs.map φ, st := s.st.map φ, ob := ob, ok := ok } := by
 have ha : φ .any = .any := hφ.1 _ rfl
 intro x
 cases x
 ·simp only [rd]; rw [Bi φ ha]; exact hφ.nb _
 ·simp only [rd]; rw [Bi φ ha]; exact hφ.nb _
 ·exact Nb.refl _
theorem Da {s s' : St} (h1 : s'.vs = s.vs) (h2 : s'.st = s.st) : QF s s' := by
 intro x
 cases x <;> simp only [rd, h1, h2] <;> exact Nb.refl _
theorem EZ : ∀ (ks : List Nat) (s : St), QF s (freezeAll s ks)
 | [], s => QF.refl s
 | k :: r, s => by
  simp only [freezeAll]
  refine QF.trans ?_ (EZ r _)
  cases AL k s.ob with
  | none => exact QF.refl _
  | some h => exact TZ (gU k h) _ _ _
theorem gh (d : Nat) (s : St) : QF s (clear s d) := by
 unfold Go.Proofs.YthdmeanbdohehaaGreatDoor.clear
 rw [AM]
 split
 ·exact TZ (bJ d) _ _ _
 ·exact QF.refl _
def oQ (E : Fh) (s s' : St) : Prop := ∀ x, Pc E x = false → Nb (rd s x) (rd s' x)
theorem LU {E : Fh} (he : Bv E = true) {s s' : St} (h : QF s s') (c : Bool) (a : AV) : oQ E s (Ar s' c a E) := fun x hx => by
 rw [Jv he hx]; exact h x
theorem Ik {E : Fh} (he : Bv E = true) {s s' : St} (h : QF s s') (key : Nat) (m : Mk) : oQ E s (CZ s' key E m) := by
 unfold CZ
 cases m.hs with
 | nil => exact LU he h _ _
 | cons p r =>
  simp only [NE]
  refine LU he ?_ _ _
  refine h.trans ((gh key s').trans ?_)
  exact Da rfl rfl
theorem YP : ∀ (ms : List Md) (as os : List AV) (s : St), QF s (Ac s ms as os) := by
 intro ms
 induction ms with
 | nil =>
  intro as os s
  cases as <;> cases os <;> simp only [Ac] <;> exact Da rfl rfl
 | cons m ms ih =>
  intro as os s
  cases m <;> cases as <;> (try (simp only [Ac]; exact Da rfl rfl)) <;> cases os <;> (try (simp only [Ac]; exact Da rfl rfl))
  ·simp only [Ac]; exact ih _ _ _
  ·rename_i a as o os
   cases a <;> (try (simp only [Ac]; exact Da rfl rfl))
   ·cases o <;> (try (simp only [Ac]; exact Da rfl rfl))
    simp only [Ac]
    refine QF.trans ?_ (ih _ _ _)
    exact Da rfl rfl
   ·rename_i k i off
    cases off <;> cases o <;> (try (simp only [Ac]; exact Da rfl rfl))
    simp only [Ac]
    refine QF.trans ?_ (ih _ _ _)
    exact Da rfl rfl
  ·rename_i a as o os
   cases a <;> (try (simp only [Ac]; exact Da rfl rfl))
   ·simp only [Ac]; exact ih _ _ _
   ·simp only [Ac]
    exact QF.trans (TZ (JQ _) _ _ _) (ih _ _ _)
theorem PI {E : Fh} (he : Bv E = true) (s : St) (key : Nat) (q : oo) : oQ E s (GY T s key E q) := by
 unfold GY
 cases T q.f with
 | none => exact fun x _ => Da (s := s) rfl rfl x
 | some C =>
  simp only [Ir, Jj]
  refine Ik he ?_ _ _
  refine QF.trans ?_ (YP _ _ _ _)
  unfold Mp
  rw [AM]
  split
  ·exact Da rfl rfl
  ·refine QF.trans ?_ (EZ _ _)
   exact Da rfl rfl
theorem ge (s : St) (sz : Nat) (x p : AV) : QF s (Gl s sz x p) := by
 cases p <;> (try exact Da rfl rfl)
 rename_i k i off
 simp only [Gl]
 cases AL k s.ob <;> exact Da rfl rfl
theorem ph {E : Fh} (he : Bv E = true) (s : St) (key sz bytes : Nat) (y : Ap) (a : AV) : oQ E s (Mi s key E sz bytes y a) := by
 cases a <;> (try (exact fun x _ => Da (s := s) rfl rfl x))
 ·exact Ik he (QF.refl s) _ _
 ·rename_i k
  simp only [Mi]
  cases AL k s.ob with
  | none => exact fun x _ => Da (s := s) rfl rfl x
  | some h => exact LU he (TZ (JQ k) _ _ _) _ _
theorem gc {E : Fh} (he : Bv E = true) (s : St) (sz : Nat) (n : Int) (a : AV) : oQ E s (Gk s E sz n a) := by
 cases a <;> (try (exact fun x _ => Da (s := s) rfl rfl x))
 rename_i k
 simp only [Gk]
 cases AL k s.ob with
 | none => exact fun x _ => Da (s := s) rfl rfl x
 | some h => exact LU he (TZ (JQ k) _ _ _) _ _
theorem mP {E : Fh} (he : Bv E = true) (s : St) (key : Nat) (a : GO) : oQ E s (By T s key E a) := by
 cases a <;> simp only [By]
 case store => exact fun x _ => ((EZ _ s).trans (ge _ _ _ _)) x
 case app => exact ph he _ _ _ _ _ _
 case call => exact PI he _ _ _
 case callv => exact PI he _ _ _
 case callw => exact fun x _ => Da (s := s) rfl rfl x
 case box => exact Ik he (EZ _ s) _ _
 case build => exact Ik he (EZ _ s) _ _
 case mkSl => exact Ik he (EZ _ s) _ _
 case slice => exact Ik he (EZ _ s) _ _
 case movz => exact Ik he (EZ _ s) _ _
 case trunc => exact gc he _ _ _ _
 all_goals exact Ik he (QF.refl s) _ _
theorem gg {i : Hx} (he : Bv i.dst = true) (s : St) : oQ i.dst s (CT T s i) := by
 unfold CT
 cases i.guard with
 | none => exact mP he s _ _
 | some g =>
  simp only [Pa]
  have h0 : QF s { s with ok := s.ok && LB (rd s g.1) } := Da rfl rfl
  have dflt : ∀ m, oQ i.dst s (Iz { s with ok := s.ok && LB (rd s g.1) } (Yl g.2 (rd s g.1)) i.dst m) := fun m => LU he h0 _ _
  cases i.op
  case callw f args =>
   simp only [Hp, aD]
   split
   ·exact fun x hx => (h0 x).trans (PI he _ _ _ x hx)
   ·exact LU he h0 _ _
  all_goals exact dflt _
theorem nV {s s' : St} {key : Nat} {a : GO} (h : ∀ x, x ∈ Dt a → Nb (rd s x) (rd s' x)) : In ((Dt a).all fun x => Ce (rd s' x)) (Fr T (rd s') key a) = In ((Dt a).all fun x => Ce (rd s x)) (Fr T (rd s) key a) := by
 by_cases hs : ∀ x, x ∈ Dt a → Ce (rd s x) = true
 ·exact QA fun x hx => (h x hx).1 (hs x hx)
 ·have e1 : ((Dt a).all fun x => Ce (rd s x)) = false := by
   rw [Bool.eq_false_iff]
   exact fun c => hs (List.all_eq_true.1 c)
  have e2 : ((Dt a).all fun x => Ce (rd s' x)) = false := by
   rw [Bool.eq_false_iff]
   exact fun c => hs fun x hx => (h x hx).2 (List.all_eq_true.1 c x hx)
  rw [e1, e2]
  rfl
theorem Vn {b : Bool} {m : Mk} : Hl (In b m).v = true ∧ (In b m).hs = [] := by
 unfold In
 rw [AM]
 split
 ·rename_i h
  simp only [Bool.and_eq_true] at h
  exact ⟨Xz h.2.2, rfl⟩
 ·exact ⟨rfl, rfl⟩
def WV (i : Hx) : Bool := i.guard.isNone && (match i.op with
 | .flat _ => true
 | _ => false)
theorem Yo {s : St} {i j : Hx} (hj : WV j = true) (hp : Bv i.dst = true) (hq : Bv j.dst = true) (hd : Kh j.dst i.dst = false) (h1 : ∀ x, x ∈ IY j → Pc i.dst x = false) (h2 : ∀ x, x ∈ IY i → Pc j.dst x = false) :
  CT T (CT T s i) j = CT T (CT T s j) i := by
 obtain ⟨D, key, gd, op⟩ := j
 simp only [WV, Bool.and_eq_true, Option.isNone_iff_eq_none] at hj
 obtain ⟨rfl, hop⟩ := hj
 cases op <;> (try (cases hop; done))
 rename_i a
 have hj : ∀ s : St, CT T s ⟨D, key, none, .flat a⟩ = Ar s (In ((Dt a).all fun x => Ce (rd s x)) (Fr T (rd s) key a)).ok (In ((Dt a).all fun x => Ce (rd s x)) (Fr T (rd s) key a)).v D := fun s => by
  simp only [CT, Pa, By]
  unfold CZ
  rw [Vn.2]
  rfl
 rw [hj, hj, nV (s := s) fun x hx => gg hp s x (h1 x (by simpa [IY, Bj] using hx))]
 refine (cZ Vn.1 hq ?_ h2).symm
 simp only [GZ, Bool.and_eq_true, Bool.not_eq_true']
 exact ⟨hp, hd⟩
end
end Go.Proofs.YthdmeanbdohehaaGreatDoor
