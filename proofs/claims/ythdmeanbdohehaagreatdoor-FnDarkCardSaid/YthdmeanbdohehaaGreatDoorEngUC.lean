/- A statement whose operations may come in several orders. No condition. -/
import Derived.Test.YthdmeanbdohehaaGreatDoorEngFl
import Derived.Orders
namespace Go.Proofs.YthdmeanbdohehaaGreatDoor
open Go Go.RowKit
set_option linter.unusedSimpArgs false
set_option linter.unusedVariables false
def PU : GO → Bool
 | .mov _ => true
 | .load _ _ _ => true
 | .nilck _ => true
 | .bin _ _ _ _ => true
 | .eqA _ _ _ _ => true
 | .un _ _ => true
 | .conv _ _ => true
 | .b2s _ => true
 | .mkFn _ _ _ => true
 | .fldAddr _ _ => true
 | .fld _ _ _ _ => true
 | .ixAddr _ _ _ => true
 | .ixStr _ _ => true
 | .ext _ _ => true
 | .len _ _ => true
 | .minmax _ _ => true
 | .pick _ _ _ => true
 | .callp _ _ => true
 | .pur _ => true
 | .safe _ _ => true
 | _ => false
def WU : GO → Bool
 | .pick _ _ _ => true
 | _ => false
def KO (i : Hx) : Bool := match i.guard with
 | some _ => Al i.op || WU i.op
 | none => PU i.op
def Hj : GO → List CA
 | .mkFn _ fi ca => fi ++ ca
 | .pick c a b => [c, a, b]
 | .callp _ args => args
 | .pur a => BA a
 | .safe _ a => Cz a
 | a => BA a
def VI (i : Hx) : List CA := (match i.guard with | some g => [g.1] | none => []) ++ Hj i.op
def oI (i j : Hx) : Bool := Bv i.dst && (Bv j.dst && (!Kh i.dst j.dst && ((IY j).all (fun x => !Pc i.dst x) && (IY i).all (fun x => !Pc j.dst x))))
def JO (r : CA → AV) : CA → AV
 | .c a => a
 | x => FY (r x)
theorem mM {T : GW} {r : CA → AV} {ob : CC} {key : Nat} {a : GO} : (Km T r ob key a).hs = [] := by cases a <;> simp only [Km, AM] <;> (try split) <;> rfl
noncomputable def aM (T : GW) (r : CA → AV) (ob : CC) (key : Nat) : GO → Bool × AV
 | .pur a => ((Km T r ob key a).ok, (Km T r ob key a).v)
 | .pick c a b => ((IQ true (r a) (r b) (r c)).ok, (IQ true (r a) (r b) (r c)).v)
 | .callp f args => ((Gc (CJ T ob ⟨true, f, args.map r⟩)).ok, (Gc (CJ T ob ⟨true, f, args.map r⟩)).v)
 | .safe ds a => ((HI T r ob key ds a).ok, (HI T r ob key ds a).v)
 | op => ((AO r ob key op).ok, (AO r ob key op).v)
noncomputable def Er (T : GW) (r : CA → AV) (ob : CC) (w : Bool) (key : Nat) : GO → Mk
 | .pick c a b => EU (CQ w (r c)) (IQ w (r a) (r b) (JO r c))
 | .call f args => EU ((BA (.call f args)).all fun x => CQ w (r x)) (CJ T ob ⟨true, f, args.map (JO r)⟩)
 | .callv f args => EU ((BA (.callv f args)).all fun x => CQ w (r x)) (CJ T ob (GV (args.map (JO r)) (JO r f)))
 | op => EU (Al op && (BA op).all fun x => CQ w (r x)) (Lp (AO (JO r) ob key op))
noncomputable def sr (T : GW) (r : CA → AV) (ob : CC) (i : Hx) : Bool × AV :=
 match i.guard with
 | none => aM T r ob i.key i.op
 | some g => (LB (r g.1) && (!Yl g.2 (r g.1) || ((Er T r ob (Yl g.2 (r g.1)) i.key i.op).ok && ((Er T r ob (Yl g.2 (r g.1)) i.key i.op).hs.isEmpty && (Er T r ob (Yl g.2 (r g.1)) i.key i.op).v.lone))),
   .opt (Yl g.2 (r g.1)) (Er T r ob (Yl g.2 (r g.1)) i.key i.op).v)
theorem gH (s : St) : JO (rd s) = Ow s := by funext x; cases x <;> rfl
theorem mL {T : GW} {r : CA → AV} {ob : CC} {key : Nat} {a : GO} (h : PU a = true) (hp : ∀ x y z, a ≠ .pick x y z) (hc : ∀ f l, a ≠ .callp f l) (hu : ∀ x, a ≠ .pur x) (hsf : ∀ q x, a ≠ .safe q x) : (AO r ob key a).hs = [] := by
 cases a <;> simp only [PU] at h <;> (try (cases h; done)) <;> simp only [AO]
 case mov => rfl
 case load agg sz p =>
  cases r p <;> simp only [Il] <;> try rfl
  ·exact NG _ _ _ _
  ·rename_i k i off
   cases AL k ob <;> first | rfl | exact NG _ _ _ _
 case nilck x => cases r x <;> simp only [JC] <;> (try rfl) <;> (rename_i f _ _; cases f <;> rfl)
 case bin bl op x y =>
  unfold UY
  split
  ·rw [AM]
   split
   ·unfold oC; split <;> rfl
   ·simp only [EU]; unfold If; split <;> rfl
  ·unfold Oy; split <;> rfl
  ·simp only [EU]; unfold Vy; split <;> rfl
  ·rfl
 case eqA neg ks x y => unfold LF; split <;> rfl
 case un op x => unfold lV; split <;> (try rfl) <;> (split <;> rfl)
 case conv k x => unfold UP; split <;> rfl
 case b2s x => cases r x <;> simp only [QR] <;> (try rfl); rename_i k; cases AL k ob <;> rfl
 case mkFn => rfl
 case fldAddr off p => unfold Hg; split <;> rfl
 case fld agg off sz x => simp only [EU]; exact NG _ _ _ _
 case ixAddr sz x i => cases r x <;> simp only [Gt] <;> (try rfl); rename_i k; cases AL k ob <;> rfl
 case ixStr x i => unfold Ko; split <;> rfl
 case ext x i => unfold Yu; split <;> rfl
 case len st x => cases r x <;> simp only [QJ] <;> (try rfl); rename_i k; cases AL k ob <;> rfl
 case minmax mx xs => unfold mQ; split <;> rfl
 case pick c a b => exact absurd rfl (hp _ _ _)
 case callp f l => exact absurd rfl (hc _ _)
 case pur x => exact absurd rfl (hu _)
 case safe q x => exact absurd rfl (hsf _ _)
theorem YA {T : GW} {r : CA → AV} {ob : CC} {key : Nat} {ds : List Nat} {a : GO} : (HI T r ob key ds a).hs = [] := by
 unfold HI TR; rw [AM]; split <;> rfl
theorem gT {w : Bool} {a b c : AV} : (IQ w a b c).hs = [] := by unfold IQ; split <;> rfl
theorem JP {s : St} {key : Nat} {D : Fh} {m : Mk} (h : m.hs = []) : CZ s key D m = Ar s m.ok m.v D := by unfold CZ; rw [h]; rfl
theorem dN {T : GW} {s : St} {w : Bool} {key : Nat} {a : GO} : CW T s w key a = Er T (rd s) s.ob w key a := by
 cases a <;> simp only [CW, Er, gH]
theorem Lf {T : GW} {s : St} {i : Hx} (h : KO i = true) : CT T s i = Ar s (sr T (rd s) s.ob i).1 (sr T (rd s) s.ob i).2 i.dst := by
 unfold CT sr
 cases hg : i.guard with
 | some g =>
  have hnw : ∀ f l, i.op ≠ .callw f l := fun f l e => by simp [KO, hg, e, Al, WU] at h
  have e1 : ∀ s' w, Hp T s' i.key i.dst w i.op = Iz s' w i.dst (CW T s' w i.key i.op) := by
   intro s' w
   unfold Hp
   split
   ·rename_i f l e; exact absurd e (hnw f l)
   ·rfl
  simp only [Pa]
  rw [e1]
  have e2 : CW T { s with ok := s.ok && LB (rd s g.1) } (Yl g.2 (rd s g.1)) i.key i.op = CW T s (Yl g.2 (rd s g.1)) i.key i.op := rfl
  rw [e2, dN]
  simp only [Iz]
  cases i.dst <;> simp [Ar, Bool.and_assoc]
 | none =>
  simp only [KO, hg] at h
  simp only [Pa]
  generalize i.op = a at h
  cases a <;> simp only [PU] at h <;> (try (cases h; done)) <;> simp only [By, aM]
  case pick => rw [JP gT]
  case callp => rw [JP rfl]
  case pur => rw [bH, JP mM]
  case safe => rw [JP YA]
  all_goals
   rw [JP (mL (T := T) rfl (fun _ _ _ e => by cases e) (fun _ _ e => by cases e) (fun _ e => by cases e) (fun _ _ e => by cases e))]
theorem bK {s : St} {c : Bool} {a : AV} {D : Fh} : (Ar s c a D).ob = s.ob := by cases D <;> rfl
theorem VK {s : St} {c d : Bool} {a b : AV} {D E : Fh} (h1 : Bv D = true) (h2 : Bv E = true) (h3 : Kh D E = false) : Ar (Ar s c a D) d b E = Ar (Ar s d b E) c a D := by
 have hb : (s.ok && c && d) = (s.ok && d && c) := Bool.and_right_comm _ _ _
 cases D <;> simp only [Bv] at h1 <;> (try (cases h1; done)) <;> cases E <;> simp only [Bv] at h2 <;> (try (cases h2; done)) <;> simp only [Ar, hb] <;>
  (try (simp only [Kh, beq_eq_false_iff_ne] at h3; rw [List.set_comm _ _ h3]))
theorem TN {r r' : CA → AV} {ob : CC} {d : Nat} {a : GO} (hg : PU a = true) (hp : ∀ x y z, a ≠ .pick x y z) (hc : ∀ f l, a ≠ .callp f l) (hu : ∀ x, a ≠ .pur x) (hsf : ∀ q x, a ≠ .safe q x) (h : ∀ x, x ∈ Hj a → r x = r' x) : AO r ob d a = AO r' ob d a := by
 cases a <;> simp only [PU] at hg <;> (try (cases hg; done)) <;> simp only [Hj, BA] at h <;> simp only [AO]
 case minmax mx xs => rw [List.map_congr_left h]
 case mkFn f fi ca =>
  rw [List.map_congr_left (l := fi) fun x hx => h x (List.mem_append.2 (.inl hx)), List.map_congr_left (l := ca) fun x hx => h x (List.mem_append.2 (.inr hx))]
 all_goals first | (exact absurd rfl (hp _ _ _)) | (exact absurd rfl (hc _ _)) | (exact absurd rfl (hu _)) | (exact absurd rfl (hsf _ _)) | simp_all
theorem Ii {r r' : CA → AV} {x : CA} (h : r x = r' x) : JO r x = JO r' x := by cases x <;> simp [JO, h]
theorem UD {T : GW} {r r' : CA → AV} {ob : CC} {w : Bool} {key : Nat} {a : GO} (hg : Al a = true ∨ WU a = true) (h : ∀ x, x ∈ Hj a → r x = r' x) : Er T r ob w key a = Er T r' ob w key a := by
 have hall : ∀ l : List CA, (∀ x, x ∈ l → r x = r' x) → (l.all fun x => CQ w (r x)) = (l.all fun x => CQ w (r' x)) := by
  intro l hl
  induction l with
  | nil => rfl
  | cons y l ih => simp only [List.all_cons]; rw [hl y (by simp), ih fun x hx => hl x (by simp [hx])]
 have hmap : ∀ l : List CA, (∀ x, x ∈ l → r x = r' x) → l.map (JO r) = l.map (JO r') := fun l hl => List.map_congr_left fun x hx => Ii (hl x hx)
 have still : Al a = true → (∀ x, x ∈ BA a → r x = r' x) → EU (Al a && (BA a).all fun x => CQ w (r x)) (Lp (AO (JO r) ob key a)) = EU (Al a && (BA a).all fun x => CQ w (r' x)) (Lp (AO (JO r') ob key a)) := by
  intro hcg hh
  rw [hall _ hh, Eg hcg fun x hx => Ii (hh x hx)]
 cases a
 case pick c x y =>
  simp only [Hj] at h
  simp only [Er]
  rw [h c (by simp), h x (by simp), h y (by simp), Ii (h c (by simp))]
 case call f args =>
  simp only [Hj, BA] at h
  simp only [Er, BA]
  rw [hall _ h, hmap _ h]
 case callv f args =>
  simp only [Hj, BA] at h
  simp only [Er, BA]
  rw [hall _ h, hmap _ fun x hx => h x (List.mem_cons_of_mem _ hx), Ii (h f (by simp))]
 all_goals
  first
  | (exfalso; rcases hg with hg | hg <;> simp [Al, WU] at hg; done)
  | exact still rfl h
theorem Vq {T : GW} {r r' : CA → AV} {ob : CC} {i : Hx} (he : KO i = true) (h : ∀ x, x ∈ VI i → r x = r' x) : sr T r ob i = sr T r' ob i := by
 unfold VI at h
 unfold KO at he
 unfold sr
 cases hg : i.guard with
 | some g =>
  rw [hg] at he h
  simp only at he h ⊢
  have h1 : r g.1 = r' g.1 := h _ (by simp)
  have h2 : ∀ w, Er T r ob w i.key i.op = Er T r' ob w i.key i.op := fun w => UD (by simpa using he) fun x hx => h x (List.mem_append.2 (.inr hx))
  rw [h1, h2]
 | none =>
  rw [hg] at he h
  simp only [List.nil_append] at he h ⊢
  generalize i.op = a at he h
  cases a
  case pick c x y =>
   simp only [Hj] at h
   simp only [aM]
   rw [h c (by simp), h x (by simp), h y (by simp)]
  case callp f args =>
   simp only [Hj] at h
   simp only [aM]
   rw [List.map_congr_left h]
  case pur x =>
   simp only [Hj] at h
   simp only [aM]
   rw [TW h]
  case safe q x =>
   simp only [Hj] at h
   simp only [aM]
   rw [Pr h]
  all_goals
   simp only [aM]
   rw [TN he (fun _ _ _ e => by cases e) (fun _ _ e => by cases e) (fun _ e => by cases e) (fun _ _ e => by cases e) h]
def Nq (d : Nat) (i : Hx) : Bool := i.guard.isNone && (match i.op with
 | .safe ds _ => ds.any (· == d)
 | _ => false)
def QZ (i : Hx) : Bool := i.guard.isNone && (match i.op with
 | .alloc _ => true
 | _ => false)
theorem Mf (d : Nat) : ∀ ob : CC, DJ d (DJ d ob) = DJ d ob
 | [] => rfl
 | p :: r => by
  have ih := Mf d r
  by_cases c : p.1 / 32 = d
  ·simp only [DJ, c, beq_self_eq_true, cond_true, ih]
  ·have : (p.1 / 32 == d) = false := by simpa using c
   simp only [DJ, this, cond_false, ih]
theorem US (d e : Nat) : ∀ ob : CC, DJ d (DJ e ob) = DJ e (DJ d ob)
 | [] => rfl
 | p :: r => by
  have ih := US d e r
  by_cases c : p.1 / 32 = d <;> by_cases c2 : p.1 / 32 = e
  ·simp only [DJ, c, c2, beq_self_eq_true, cond_true, ih]
   try (subst c2; subst c; simp only [beq_self_eq_true, cond_true, ih])
   try (rw [← c] at c2; simp_all)
  ·have h2 : (p.1 / 32 == e) = false := by simpa using c2
   have h1 : (p.1 / 32 == d) = true := by simpa using c
   simp only [DJ, h1, h2, cond_true, cond_false, ih]
  ·have h1 : (p.1 / 32 == d) = false := by simpa using c
   have h2 : (p.1 / 32 == e) = true := by simpa using c2
   simp only [DJ, h1, h2, cond_true, cond_false, ih]
  ·have h1 : (p.1 / 32 == d) = false := by simpa using c
   have h2 : (p.1 / 32 == e) = false := by simpa using c2
   simp only [DJ, h1, h2, cond_false, ih]
theorem Vt {d k : Nat} {h : Hm} (hk : k / 32 = d) : ∀ ob : CC, DJ d (CD k h ob) = DJ d ob
 | [] => by simp [CD, DJ, hk]
 | p :: r => by
  have ih := Vt (h := h) hk r
  simp only [CD, AM, beq_iff_eq, decide_eq_true_eq]
  split
  ·rename_i e; simp [DJ, e, hk]
  ·split
   ·simp [DJ, hk]
   ·simp only [DJ, ih]
theorem Pf {d : Nat} : ∀ {ds : List Nat} (ob : CC), ds.any (· == d) = true → HQ ds (DJ d ob) = HQ ds ob
 | [], _, h => by simp at h
 | e :: r, ob, h => by
  simp only [HQ]
  by_cases c : e = d
  ·subst c; rw [Mf]
  ·have : r.any (· == d) = true := by
    simp only [List.any_cons, Bool.or_eq_true, beq_iff_eq] at h
    exact h.resolve_left c
   rw [US, Pf _ this]
theorem UR {d : Nat} : ∀ {ob : CC}, Ky d ob = false → DJ d ob = ob
 | [], _ => rfl
 | p :: r, h => by
  simp only [Ky, Bool.or_eq_false_iff] at h
  simp only [DJ, h.1, cond_false, UR h.2]
theorem ki (s : St) (d : Nat) : (clear s d).ob = DJ d s.ob := by
 unfold Go.Proofs.YthdmeanbdohehaaGreatDoor.clear
 rw [AM]
 split
 ·rfl
 ·rename_i h
  rw [UR (by simpa using h)]
theorem XS (d : Nat) : UT d .any = .any := by simp [UT, AV.keys]
theorem gZ (ds : List Nat) : Jy ds .any = false := by simp [Jy, HJ]
theorem XR {d : Nat} {ds : List Nat} (hd : ds.any (· == d) = true) (a : AV) : (Jy ds a = true → UT d a = a) ∧ Jy ds (UT d a) = Jy ds a := by
 unfold UT
 rw [AM]
 by_cases c : a.keys.any (fun k => k / 32 == d) = true
 ·have hf : Jy ds a = false := by
   rw [Bool.eq_false_iff]
   intro ho
   rw [List.any_eq_true] at c hd
   obtain ⟨k, hk, e⟩ := c
   obtain ⟨d', hd', e'⟩ := hd
   simp only [beq_iff_eq] at e e'
   exact YM ho hk d' hd' (by rw [e, e'])
  rw [if_pos c, gZ, hf]
  exact ⟨fun h => Bool.noConfusion h, rfl⟩
 ·rw [if_neg c]; exact ⟨fun _ => rfl, rfl⟩
theorem gI (s : St) (d : Nat) (x : CA) : rd (clear s d) x = rd s x ∨ rd (clear s d) x = UT d (rd s x) := by
 unfold Go.Proofs.YthdmeanbdohehaaGreatDoor.clear
 rw [AM]
 split
 ·cases x
  ·exact .inr (Bi _ (XS d) _ _)
  ·exact .inr (Bi _ (XS d) _ _)
  ·exact .inl rfl
 ·exact .inl rfl
theorem Zs {s : St} {c : Bool} {v : AV} {D : Fh} {d : Nat} (hv : UT d v = v) (hp : Bv D = true) : clear (Ar s c v D) d = Ar (clear s d) c v D := by
 unfold Go.Proofs.YthdmeanbdohehaaGreatDoor.clear
 rw [ET, AM, AM]
 split
 ·cases D <;> simp only [Ar, List.map_set, hv]
  cases hp
 ·rfl
theorem TQ {T : GW} {s : St} {i j : Hx} (hi : Nq j.key i = true) (hj : QZ j = true) (h1 : Bv i.dst = true) (h2 : Bv j.dst = true) (h3 : Kh i.dst j.dst = false) (h5 : ∀ x, x ∈ IY i → Pc j.dst x = false) :
  CT T (CT T s i) j = CT T (CT T s j) i := by
 obtain ⟨D, key, gd, op⟩ := i
 obtain ⟨E, d, gd2, op2⟩ := j
 simp only [Nq, Bool.and_eq_true, Option.isNone_iff_eq_none] at hi
 simp only [QZ, Bool.and_eq_true, Option.isNone_iff_eq_none] at hj
 obtain ⟨rfl, hop⟩ := hi
 obtain ⟨rfl, hop2⟩ := hj
 cases op <;> (try (cases hop; done))
 cases op2 <;> (try (cases hop2; done))
 rename_i ds a z
 simp only at hop h1 h2 h3
 have hI : ∀ s : St, CT T s ⟨D, key, none, .safe ds a⟩ = Ar s (HI T (rd s) s.ob key ds a).ok (HI T (rd s) s.ob key ds a).v D := fun s => by
  simp only [CT, Pa, By]
  rw [JP YA]
 have hJ : ∀ s : St, CT T s ⟨E, d, none, .alloc z⟩ = Ar { clear s d with ob := CD (BQ d) ⟨z.cells.length, [z]⟩ (clear s d).ob } (decide (1 ≤ z.cells.length) && z.atoms) (.ref (BQ d) 0 0) E := fun s => rfl
 have hkd : BQ d / 32 = d := by simp [BQ]
 have hM : HI T (rd (CT T s ⟨E, d, none, .alloc z⟩)) (CT T s ⟨E, d, none, .alloc z⟩).ob key ds a = HI T (rd s) s.ob key ds a := by
  have hob : HQ ds (CT T s ⟨E, d, none, .alloc z⟩).ob = HQ ds s.ob := by
   rw [hJ, ET]
   show HQ ds (CD (BQ d) _ (clear s d).ob) = _
   rw [← Pf _ hop, Vt hkd, ki, Mf, Pf _ hop]
  have hrd : ∀ x, x ∈ Cz a → rd (CT T s ⟨E, d, none, .alloc z⟩) x = rd s x ∨ rd (CT T s ⟨E, d, none, .alloc z⟩) x = UT d (rd s x) := fun x hx => by
   rw [hJ, Jv h2 (h5 x (by simpa [IY, Bj] using hx))]
   have e : rd ({ clear s d with ob := CD (BQ d) ⟨z.cells.length, [z]⟩ (clear s d).ob } : St) x = rd (clear s d) x := by cases x <;> rfl
   rw [e]
   exact gI s d x
  unfold HI
  have hall : ((Cz a).all fun x => Jy ds (rd (CT T s ⟨E, d, none, .alloc z⟩) x)) = (Cz a).all fun x => Jy ds (rd s x) := by
   have : ∀ l : List CA, (∀ x, x ∈ l → x ∈ Cz a) → (l.all fun x => Jy ds (rd (CT T s ⟨E, d, none, .alloc z⟩) x)) = l.all fun x => Jy ds (rd s x) := by
    intro l hl
    induction l with
    | nil => rfl
    | cons y l ih =>
     simp only [List.all_cons]
     rw [ih fun x hx => hl x (by simp [hx])]
     congr 1
     rcases hrd y (hl y (by simp)) with e | e
     ·rw [e]
     ·rw [e, (XR hop _).2]
   exact this _ fun x hx => hx
  rw [hall, hob]
  by_cases hs : ((Cz a).all fun x => Jy ds (rd s x)) = true
  ·rw [Ps (r := rd (CT T s ⟨E, d, none, .alloc z⟩)) (r' := rd s) fun x hx => by
    rcases hrd x hx with e | e
    ·exact e
    ·rw [e]; exact (XR hop _).1 (List.all_eq_true.1 hs x hx)]
  ·have hs' : ((Cz a).all fun x => Jy ds (rd s x)) = false := by simpa using hs
   rw [hs']
   rfl
 have hv : UT d (HI T (rd s) s.ob key ds a).v = (HI T (rd s) s.ob key ds a).v := by
  unfold HI TR
  rw [AM]
  split
  ·rename_i hc
   simp only [Bool.and_eq_true] at hc
   exact (XR hop _).1 hc.2.2
  ·exact XS d
 rw [hI (CT T s ⟨E, d, none, .alloc z⟩), hM, hI s, hJ, hJ, Zs hv h1]
 have e : ∀ (b : Bool) (v : AV) (ob : CC), ({ Ar (clear s d) b v D with ob := ob } : St) = Ar { clear s d with ob := ob } b v D := fun b v ob => PF ob
 rw [ET, e]
 exact (VK h2 h1 (by rw [MR]; exact h3)).symm
def com (i j : Hx) : Bool := oI i j && (((KO i && KO j) || (WV i || WV j)) || ((Nq j.key i && QZ j) || (Nq i.key j && QZ i)))
theorem sA {T : GW} {s : St} {i j : Hx} (h : com i j = true) : CT T (CT T s i) j = CT T (CT T s j) i := by
 simp only [com, oI, Bool.and_eq_true, Bool.or_eq_true, Bool.not_eq_true', List.all_eq_true] at h
 obtain ⟨⟨h1, h2, h3, h4', h5'⟩, hh⟩ := h
 have hsub : ∀ (k : Hx) x, x ∈ VI k → x ∈ IY k := fun k x hx => by
  unfold VI at hx
  unfold IY
  rcases List.mem_append.1 hx with hx | hx
  ·exact List.mem_append_left _ hx
  ·refine List.mem_append_right _ ?_
   generalize k.op = a at hx
   cases a <;> first | exact hx | (simp [Hj, BA] at hx)
 rcases hh with (⟨h6, h7⟩ | hi | hj) | ⟨hi, hj⟩ | ⟨hj, hi⟩
 rotate_left
 ·exact (Yo hi h2 h1 h3 h5' h4').symm
 ·refine Yo hj h1 h2 ?_ h4' h5'
  rw [MR]; exact h3
 ·exact TQ hi hj h1 h2 h3 h5'
 ·exact (TQ hj hi h2 h1 (by rw [MR]; exact h3) h4').symm
 have h4 : ∀ x, x ∈ VI j → Pc i.dst x = false := fun x hx => h4' x (hsub j x hx)
 have h5 : ∀ x, x ∈ VI i → Pc j.dst x = false := fun x hx => h5' x (hsub i x hx)
 rw [Lf h6, Lf (s := s) h7, Lf h7, Lf h6]
 rw [bK, bK, Vq (r := rd (Ar s _ _ i.dst)) (r' := rd s) h7 fun x hx => Jv h1 (h4 x hx), Vq (r := rd (Ar s _ _ j.dst)) (r' := rd s) h6 fun x hx => Jv h2 (h5 x hx)]
 exact VK h1 h2 h3
open Go Go.RowKit
set_option linter.unusedSimpArgs false
set_option linter.unusedVariables false
def fJ (dep : Nat → Nat → Bool) (l : List Nat) : Prop := l.Pairwise fun a b => dep b a = false
def bi (dep : Nat → Nat → Bool) (j : Nat) : List Nat → List Nat → List Nat
 | acc, [] => acc
 | acc, i :: r => bi dep j (bif dep j i || acc.any (fun k => dep k i) then i :: acc else acc) r
def Zz (dep cm : Nat → Nat → Bool) (rem : List Nat) (j : Nat) : Bool :=
 rem.all fun i => i == j || ((bi dep j [] rem).contains i || cm j i)
def ready (dep : Nat → Nat → Bool) (rem : List Nat) : List Nat := rem.filter fun j => rem.all fun i => !dep i j
def KN (dep cm : Nat → Nat → Bool) : Nat → List Nat → List (List Nat)
 | 0, _ => [[]]
 | n + 1, rem =>
  match rem with
  | [] => [[]]
  | _ => match (ready dep rem).find? (Zz dep cm rem) with
   | some j => (KN dep cm n (rem.erase j)).map (j :: ·)
   | none => (ready dep rem).flatMap fun j => (KN dep cm n (rem.erase j)).map (j :: ·)
section
variable {dep cm : Nat → Nat → Bool}
theorem Vr {j : Nat} {p q : List Nat} (hl : fJ dep (p ++ j :: q)) : ∀ (r acc : List Nat), (∀ i, i ∈ acc → i ∉ p ∧ i ∈ p ++ j :: q) → (∀ i, i ∈ r → i ∈ p ++ j :: q) → ∀ i, i ∈ bi dep j acc r → i ∉ p
 | [], acc, ha, _, i, hi => (ha i hi).1
 | a :: r, acc, ha, hr, i, hi => by
  simp only [bi] at hi
  refine Vr hl r _ (fun k hk => ?_) (fun k hk => hr k (by simp [hk])) i hi
  cases hc : dep j a || acc.any (fun k => dep k a) with
  | false => rw [hc] at hk; exact ha k hk
  | true =>
   rw [hc] at hk
   simp only [cond_true, List.mem_cons] at hk
   rcases hk with rfl | hk
   ·refine ⟨fun hp => ?_, hr k (by simp)⟩
    unfold fJ at hl
    rw [List.pairwise_append] at hl
    have hcross := hl.2.2 k hp
    simp only [Bool.or_eq_true, List.any_eq_true] at hc
    rcases hc with hc | ⟨m, hm, hc⟩
    ·have := hcross j (by simp); rw [hc] at this; cases this
    ·obtain ⟨hmp, hmm⟩ := ha m hm
     have hmq : m ∈ j :: q := by
      rcases List.mem_append.1 hmm with h | h
      ·exact absurd h hmp
      ·exact h
     have := hcross m hmq; rw [hc] at this; cases this
   ·exact ha k hk
theorem Yv {σ : Type} {f : Nat → σ → σ} (hcm : ∀ i j s, cm i j = true → f j (f i s) = f i (f j s)) (hirr : ∀ i, dep i i = false) :
  ∀ (n : Nat) (rem : List Nat), rem.length ≤ n → rem.Nodup → ∀ π, π.Perm rem → fJ dep π → ∃ ρ ∈ KN dep cm n rem, ∀ s, π.foldl (fun s i => f i s) s = ρ.foldl (fun s i => f i s) s := by
 intro n
 induction n with
 | zero =>
  intro rem hn _ π hp _
  have : rem = [] := List.length_eq_zero_iff.1 (by omega)
  subst this
  have := hp.eq_nil
  subst this
  exact ⟨[], by simp [KN], fun s => rfl⟩
 | succ n ih =>
  intro rem hn hnd π hp hl
  cases rem with
  | nil =>
   have := hp.eq_nil
   subst this
   exact ⟨[], by simp [KN], fun s => rfl⟩
  | cons r0 rr =>
   have hnd' : π.Nodup := hp.nodup_iff.2 hnd
   simp only [KN]
   cases hfind : (ready dep (r0 :: rr)).find? (Zz dep cm (r0 :: rr)) with
   | some j =>
    have hj : j ∈ r0 :: rr := by
     have := List.mem_of_find?_eq_some hfind
     exact (List.mem_filter.1 this).1
    have hfree := List.find?_some hfind
    obtain ⟨p, q, rfl⟩ := List.append_of_mem (hp.mem_iff.2 hj)
    have hjp : j ∉ p := by
     intro c
     rw [List.nodup_append] at hnd'
     exact hnd'.2.2 j c j (by simp) rfl
    have hcom : ∀ i, i ∈ p → cm j i = true := by
     intro i hi
     simp only [Zz, List.all_eq_true] at hfree
     have hir : i ∈ r0 :: rr := hp.mem_iff.1 (by simp [hi])
     have := hfree i hir
     simp only [Bool.or_eq_true, beq_iff_eq, List.contains_eq_mem, decide_eq_true_eq] at this
     rcases this with e | e | e
     ·exact absurd hi (e ▸ hjp)
     ·exact absurd hi (Vr hl (r0 :: rr) [] (fun k hk => by simp at hk) (fun k hk => hp.mem_iff.2 hk) i e)
     ·exact e
    have hmove : ∀ (p : List Nat), (∀ i, i ∈ p → cm j i = true) → ∀ s, f j (p.foldl (fun s i => f i s) s) = p.foldl (fun s i => f i s) (f j s) := by
     intro p
     induction p with
     | nil => intro _ s; rfl
     | cons a p ihp =>
      intro hc s
      simp only [List.foldl_cons]
      rw [ihp (fun i hi => hc i (by simp [hi])), hcm j a s (hc a (by simp))]
    have hperm : (p ++ q).Perm ((r0 :: rr).erase j) := by
     have h1 : (p ++ j :: q).Perm (j :: (p ++ q)) := List.perm_middle
     have h2 := (h1.symm.trans hp).erase j
     simpa using h2
    have hlin : fJ dep (p ++ q) := by
     unfold fJ at hl ⊢
     exact hl.sublist (List.Sublist.append (List.Sublist.refl p) (List.sublist_cons_self j q))
    obtain ⟨ρ, hρ, he⟩ := ih _ (by rw [List.length_erase_of_mem hj]; simp at hn ⊢; omega) (hnd.erase j) (p ++ q) hperm hlin
    refine ⟨j :: ρ, List.mem_map.2 ⟨ρ, hρ, rfl⟩, fun s => ?_⟩
    rw [List.foldl_append, List.foldl_cons, hmove p hcom, List.foldl_cons, ← he, List.foldl_append]
   | none =>
    cases π with
    | nil => have := hp.symm.eq_nil; cases this
    | cons j π' =>
     have hj : j ∈ r0 :: rr := hp.mem_iff.1 (by simp)
     have hready : j ∈ ready dep (r0 :: rr) := by
      refine List.mem_filter.2 ⟨hj, List.all_eq_true.2 fun i hi => ?_⟩
      have hiπ : i ∈ j :: π' := hp.mem_iff.2 hi
      rcases List.mem_cons.1 hiπ with e | hiπ
      ·rw [e, hirr]; rfl
      ·unfold fJ at hl
       rw [List.pairwise_cons] at hl
       rw [hl.1 i hiπ]; rfl
     have hperm : π'.Perm ((r0 :: rr).erase j) := by
      have h2 := hp.erase j
      simpa using h2
     have hlin : fJ dep π' := by unfold fJ at hl ⊢; exact (List.pairwise_cons.1 hl).2
     obtain ⟨ρ, hρ, he⟩ := ih _ (by rw [List.length_erase_of_mem hj]; simp at hn ⊢; omega) (hnd.erase j) π' hperm hlin
     refine ⟨j :: ρ, List.mem_flatMap.2 ⟨j, hready, List.mem_map.2 ⟨ρ, hρ, rfl⟩⟩, fun s => ?_⟩
     rw [List.foldl_cons, List.foldl_cons, he]
end
open Go Go.RowKit
set_option linter.unusedSimpArgs false
set_option linter.unusedVariables false
def XO : Hx := ⟨.no, 0, none, .mov (.c .any)⟩
def Ip (ops : Array Oper) (i j : Nat) : Bool :=
 match ops[j]? with
 | some o => o.after.any fun e => Region.binds .any e && e.on == i
 | none => false
def cmOf (is : List Hx) (i j : Nat) : Bool := com (is.getD i XO) (is.getD j XO)
def pP (vm : List Nat) (ops : Array Oper) : List Nat := ((ops.toList.filterMap (·.dst)).filter fun d => !vm.contains d).eraseDups
def Vw (P : Program) (n : Nat) (ops : Array Oper) (vm ss : List Nat) (is : List Hx) (j : Nat) : Bool :=
 match ops[j]? with
 | some o => o.after.all (fun e => !Region.binds .any e || decide (e.on < j)) && XT P n ops vm ss o (is.getD j XO) == some ss
 | none => false
def XU (P : Program) (n : Nat) (ops : Array Oper) (vm ss : List Nat) (k : Nat) (is : List Hx) (alts : List (List Nat)) : Bool :=
 P.follows .mixedOrders && (ss.length == k && (ss.all (fun t => decide (t < n)) && (is.length == ops.size && ((List.range ops.size).all (Vw P n ops vm ss is) &&
  (KN (Ip ops) (cmOf is) ops.size (List.range ops.size)).all fun ρ => ρ == List.range ops.size || alts.contains ρ))))
noncomputable def Zn (T : GW) (is : List Hx) (s : St) (l : List Nat) : St := l.foldl (fun s i => CT T s (is.getD i XO)) s
theorem PE {T : GW} {is : List Hx} : ∀ (l : List Nat) (s : St), EF T (PG is l) s = Zn T is s l
 | [], s => rfl
 | i :: l, s => PE l (CT T s (is.getD i XO))
theorem WM (is : List Hx) : PG is (List.range is.length) = is := by
 unfold PG
 apply List.ext_getElem
 ·simp
 ·intro i h1 h2
  simp [List.getD_eq_getElem?_getD, List.getElem?_eq_getElem h2]
theorem bE {T : GW} {is : List Hx} : ∀ (l : List Nat) {s : St}, (Zn T is s l).ok = true → s.ok = true
 | [], _, h => h
 | i :: l, s, h => Yz (bE l (s := CT T s (is.getD i XO)) h)
theorem Ue {T : GW} {is : List Hx} {s r : St} : ∀ {alts : List (List Nat)}, LN T is s r alts = true → ∀ l, l ∈ alts → EF T (PG is l) s = r
 | [], _, l, h => by simp at h
 | a :: alts, h, l, hl => by
  simp only [LN, Bool.and_eq_true, decide_eq_true_eq] at h
  rcases List.mem_cons.1 hl with e | hl
  ·subst e; exact h.1
  ·exact Ue h.2 l hl
section
variable {F Iow : Nat → Prop} {w0 : World} {g0 : Gh} {o0 : CC} {g : Gh} {w w' : World} {tmps : Array Value} {ds : List Deferred} {vm ss ss' : List Nat} {s : St} {P : Program} {T : GW}
 {Q : Exit → Act → World → Prop} {ops : Array Oper} {n : Nat}
theorem FX.grow (h : FX F Iow w0 g0 o0 g w tmps vm ss s) (hw : Aj (fun _ => False) w w') : FX F Iow w0 g0 o0 g w' tmps vm ss s :=
 FX.mk' (w := w) (h.toFR.grow hw) h.same (hw.mono fun _ _ c => c.elim) h.hio h.fio h.par
theorem FX.slots (h : FX F Iow w0 g0 o0 g w tmps vm [] s) {k : Nat} (hk : ss.length = k) (hf : ∀ t, t ∈ ss → t < tmps.size) : FX F Iow w0 g0 o0 g w tmps vm ss (slots k s) := by
 refine ⟨⟨h.home, h.inj, h.nF, h.fb, h.vl, by simp [Go.Proofs.YthdmeanbdohehaaGreatDoor.slots, hk], h.vs, fun i hi => ?_, fun t ht => ?_, h.tab⟩, h.same, h.hio, h.fio, h.par⟩
 ·simp only [Go.Proofs.YthdmeanbdohehaaGreatDoor.slots]
  have : (List.replicate k AV.any).getD i .any = .any := by rw [List.getD_eq_getElem?_getD, List.getElem?_replicate]; split <;> rfl
  rw [this]; exact SR.any
 ·rcases ht with ht | ht
  ·exact h.fit t (.inl ht)
  ·exact hf t ht
theorem lH (hT : HT P T) (hnd : KU vm) {is : List Hx} (hchk : ∀ j, j < ops.size → Vw P n ops vm ss is j = true) {r : St} (hrok : r.ok = true)
  (hQ : ∀ tmps' w' g', tmps'.size = n → FX F Iow w0 g0 o0 g' w' tmps' vm ss r → Q .normal ⟨tmps', ds⟩ w') :
  ∀ (fuel : Nat) (rem : List Nat) (listed : Array Bool) {s : St} {g : Gh} {w : World} {tmps : Array Value}, rem.Pairwise (· < ·) → (∀ i, i ∈ rem → i < ops.size) → listed.size = ops.size → (∀ i, i < ops.size → (listed.getD i true = true ↔ i ∉ rem)) → rem.length ≤ fuel →
   (∀ π, π.Perm rem → fJ (Ip ops) π → Zn T is s π = r) → FX F Iow w0 g0 o0 g w tmps vm ss s → tmps.size = n → wpAny P .any ops Q fuel listed ⟨tmps, ds⟩ w := by
 have hdep : ∀ i j, Ip ops i j = true → i < j := by
  intro i j hd
  unfold Ip at hd
  split at hd
  ·rename_i o ho
   have hj : j < ops.size := by
    rcases Nat.lt_or_ge j ops.size with h' | h'
    ·exact h'
    ·rw [Array.getElem?_eq_none h'] at ho; cases ho
   have hc := hchk j hj
   unfold Vw at hc
   rw [ho] at hc
   simp only [Bool.and_eq_true, Array.all_eq_true, Array.any_eq_true] at hc hd
   obtain ⟨x, hx, hb, he⟩ := hd
   have := hc.1 x hx
   simp only [Bool.or_eq_true, Bool.not_eq_true', decide_eq_true_eq, beq_iff_eq] at this he
   rcases this with e | e
   ·rw [hb] at e; cases e
   ·omega
  ·cases hd
 have hlinS : ∀ (l : List Nat), l.Pairwise (· < ·) → fJ (Ip ops) l := fun l hl => hl.imp fun {a b} hab => by
  cases hd : Ip ops b a with
  | false => rfl
  | true => have := hdep b a hd; omega
 have hready : ∀ (rem : List Nat) (listed : Array Bool), (∀ i, i ∈ rem → i < ops.size) → listed.size = ops.size → (∀ i, i < ops.size → (listed.getD i true = true ↔ i ∉ rem)) → ∀ i, i ∈ Region.ready .any ops listed → i ∈ rem ∧ ∀ k, k ∈ rem → Ip ops k i = false := by
  intro rem listed hb hsz hl i hi
  obtain ⟨h1, h2⟩ := List.mem_filter.1 hi
  have hiN : i < ops.size := by simpa using h1
  simp only [Bool.and_eq_true, Bool.not_eq_true', Array.getElem?_eq_getElem hiN, Option.map_some, Option.getD_some, Array.all_eq_true] at h2
  obtain ⟨h3, h4⟩ := h2
  refine ⟨?_, fun k hk => ?_⟩
  ·by_cases hm : i ∈ rem
   ·exact hm
   ·have := (hl i hiN).2 hm; rw [h3] at this; cases this
  ·cases hd : Ip ops k i with
   | false => rfl
   | true =>
    unfold Ip at hd
    rw [Array.getElem?_eq_getElem hiN] at hd
    simp only [Array.any_eq_true, Bool.and_eq_true, beq_iff_eq] at hd
    obtain ⟨x, hx, hbd, he⟩ := hd
    have h5 := h4 x hx
    rw [hbd, he] at h5
    simp only [Bool.not_true, Bool.false_or] at h5
    have hkN := hb k hk
    have h6 : listed.getD k true = true := by
     rw [← h5, Array.getD_eq_getD_getElem?, Array.getD_eq_getD_getElem?, Array.getElem?_eq_getElem (by omega)]; rfl
    exact absurd hk ((hl k hkN).1 h6)
 have hsome : ∀ (rem : List Nat) (listed : Array Bool), rem.Pairwise (· < ·) → (∀ i, i ∈ rem → i < ops.size) → listed.size = ops.size → (∀ i, i < ops.size → (listed.getD i true = true ↔ i ∉ rem)) → Region.ready .any ops listed = [] → rem = [] := by
  intro rem listed hs hb hsz hl h0
  cases rem with
  | nil => rfl
  | cons a r =>
   exfalso
   have haN := hb a (by simp)
   have hc := hchk a haN
   unfold Vw at hc
   rw [Array.getElem?_eq_getElem haN] at hc
   simp only [Bool.and_eq_true, Array.all_eq_true] at hc
   have hmem : a ∈ Region.ready .any ops listed := by
    refine List.mem_filter.2 ⟨by simpa using haN, ?_⟩
    simp only [Bool.and_eq_true, Bool.not_eq_true', Array.getElem?_eq_getElem haN, Option.map_some, Option.getD_some, Array.all_eq_true]
    refine ⟨?_, fun x hx => ?_⟩
    ·cases hla : listed.getD a true with
     | false => rfl
     | true => exact absurd (List.mem_cons_self) ((hl a haN).1 hla)
    ·have h5 := hc.1 x hx
     simp only [Bool.or_eq_true, Bool.not_eq_true', decide_eq_true_eq] at h5 ⊢
     refine h5.imp id fun hlt => ?_
     have hk : (ops[a].after[x]).on < ops.size := by omega
     have hnm : (ops[a].after[x]).on ∉ a :: r := by
      intro hm
      rcases List.mem_cons.1 hm with e | hm
      ·omega
      ·have := (List.pairwise_cons.1 hs).1 _ hm; omega
     have h6 := (hl _ hk).2 hnm
     rw [← h6, Array.getD_eq_getD_getElem?, Array.getD_eq_getD_getElem?, Array.getElem?_eq_getElem (by omega)]; rfl
   rw [h0] at hmem; simp at hmem
 intro fuel
 induction fuel with
 | zero =>
  intro rem listed s g w tmps hs hb hsz hl hf H hfx hn
  have hr0 : rem = [] := List.length_eq_zero_iff.1 (by omega)
  subst hr0
  have e := H [] (List.Perm.refl _) List.Pairwise.nil
  have e' : s = r := e
  subst e'
  refine ⟨?_, hQ _ _ _ hn hfx⟩
  rw [List.eq_nil_iff_forall_not_mem]
  intro i hi
  exact absurd (hready [] listed hb hsz hl i hi).1 (by simp)
 | succ fuel ih =>
  intro rem listed s g w tmps hs hb hsz hl hf H hfx hn
  refine ⟨fun h0 => ?_, fun i hi => ?_⟩
  ·have hr0 := hsome rem listed hs hb hsz hl h0
   subst hr0
   have e := H [] (List.Perm.refl _) List.Pairwise.nil
   have e' : s = r := e
   subst e'
   exact hQ _ _ _ hn hfx
  ·obtain ⟨him, hdi⟩ := hready rem listed hb hsz hl i hi
   have hiN := hb i him
   have hc := hchk i hiN
   unfold Vw at hc
   rw [Array.getElem?_eq_getElem hiN] at hc
   simp only [Bool.and_eq_true, beq_iff_eq] at hc
   have hnodup : rem.Nodup := hs.imp fun {a b} h => Nat.ne_of_lt h
   have hes : (rem.erase i).Pairwise (· < ·) := hs.sublist List.erase_sublist
   have hlin : ∀ π, π.Perm (rem.erase i) → fJ (Ip ops) π → fJ (Ip ops) (i :: π) := fun π hp hl => List.pairwise_cons.2 ⟨fun k hk => hdi k (List.mem_of_mem_erase (hp.mem_iff.1 hk)), hl⟩
   have hperm : ∀ π, π.Perm (rem.erase i) → (i :: π).Perm rem := fun π hp => (hp.cons i).trans (List.perm_cons_erase him).symm
   have hok : (CT T s (is.getD i XO)).ok = true := by
    have e := H (i :: rem.erase i) (hperm _ (List.Perm.refl _)) (hlin _ (List.Perm.refl _) (hlinS _ hes))
    refine bE (T := T) (is := is) (rem.erase i) ?_
    have e2 : Zn T is (CT T s (is.getD i XO)) (rem.erase i) = r := e
    rw [e2]; exact hrok
   have hstep := OL (ds := ds) (Q := Q) (K := wpAny P .any ops Q fuel (listed.setIfInBounds i true)) hT hfx hnd hn hc.2 hok fun tmps' w' g' hn' hfx' => ?_
   ·unfold wpOp
    rw [Array.getElem?_eq_getElem hiN]
    simp only
    split
    ·rename_i hw; rw [if_pos hw] at hstep; exact .inl hstep
    ·rename_i hw; rw [if_neg hw] at hstep; exact hstep
   ·refine ih (rem.erase i) _ hes (fun k hk => hb k (List.mem_of_mem_erase hk)) (by simpa using hsz) (fun k hk => ?_) (by rw [List.length_erase_of_mem him]; omega) (fun π hp hl => H (i :: π) (hperm π hp) (hlin π hp hl)) hfx' hn'
    rw [hnodup.mem_erase_iff]
    by_cases e : i = k
    ·subst e
     simp [Array.getD_eq_getD_getElem?, hsz, hiN]
    ·rw [Array.getD_eq_getD_getElem?, Array.getElem?_setIfInBounds_ne e, ← Array.getD_eq_getD_getElem?, hl k hk]
     simp [Ne.symm e]
theorem lI (hT : HT P T) (hnd : KU vm) {k id : Nat} {is : List Hx} {alts : List (List Nat)} (hc : XU P n ops vm ss k is alts = true) (h : FX F Iow w0 g0 o0 g w tmps vm [] s) (hn : tmps.size = n) (hok : (Ob T k is alts s).ok = true)
  (hQ : ∀ tmps' w' g', tmps'.size = n → FX F Iow w0 g0 o0 g' w' tmps' vm ss (Ob T k is alts s) → Q .normal ⟨tmps', ds⟩ w') : (Code.region id ops true).wp P Q ⟨tmps, ds⟩ w := by
 simp only [XU, Bool.and_eq_true, beq_iff_eq, List.all_eq_true, decide_eq_true_eq, Bool.or_eq_true, List.contains_eq_mem, List.mem_range] at hc
 obtain ⟨hm, hk, hss, hil, hat, hex⟩ := hc
 have hboth : (EF T is (slots k s)).ok = true ∧ LN T is (slots k s) (EF T is (slots k s)) alts = true := by
  simpa [Ob, bt] using hok
 have hdr : ({ w with drawn := w.drawn + 1 } : World) = w.drew := rfl
 have hfx := (h.slots (ss := ss) hk (fun t ht => by rw [hn]; exact hss t ht)).grow (w' := { w with drawn := w.drawn + 1 }) (by rw [hdr]; exact Aj.drew _ _)
 have hrange : Zn T is (slots k s) (List.range ops.size) = EF T is (slots k s) := by
  rw [← PE, ← hil, WM]
 refine wp_region_any hm (lH hT hnd (is := is) (r := EF T is (slots k s)) (fun j hj => hat j hj) hboth.1 (fun tmps' w' g' hn' hf => hQ tmps' w' g' hn' ?_) ops.size (List.range ops.size) _ List.pairwise_lt_range (fun i hi => by simpa using hi) (by simp) (fun i hi => ?_) (by simp) (fun π hp hl => ?_) hfx hn)
 ·exact hf.setOk _
 ·simp [Array.getD_eq_getD_getElem?, hi]
 ·have hirr : ∀ i, Ip ops i i = false := by
   intro i
   cases hd : Ip ops i i with
   | false => rfl
   | true =>
    unfold Ip at hd
    split at hd
    ·rename_i o ho
     have hj : i < ops.size := by
      rcases Nat.lt_or_ge i ops.size with h' | h'
      ·exact h'
      ·rw [Array.getElem?_eq_none h'] at ho; cases ho
     have hc := hat i hj
     unfold Vw at hc
     rw [ho] at hc
     simp only [Bool.and_eq_true, Array.all_eq_true, Array.any_eq_true] at hc hd
     obtain ⟨x, hx, hb, he⟩ := hd
     have := hc.1 x hx
     simp only [Bool.or_eq_true, Bool.not_eq_true', decide_eq_true_eq, beq_iff_eq] at this he
     rcases this with e | e
     ·rw [hb] at e; cases e
     ·omega
    ·cases hd
  obtain ⟨ρ, hρ, he⟩ := Yv (f := fun i s => CT T s (is.getD i XO)) (fun i j s hcm => sA hcm) hirr ops.size (List.range ops.size) (by simp) List.nodup_range π hp hl
  have h1 : Zn T is (slots k s) π = Zn T is (slots k s) ρ := he _
  rw [h1]
  rcases hex ρ hρ with e | e
  ·rw [e]; exact hrange
  ·rw [← PE]; exact Ue hboth.2 ρ e
end
end Go.Proofs.YthdmeanbdohehaaGreatDoor
