/- A statement whose operations may come in several orders. No condition. -/
import Derived.Test.YtbobhejdijcofaaGreatDoorEngFl
import Derived.Orders
namespace Go.Proofs.YtbobhejdijcofaaGreatDoor
open Go Go.RowKit
set_option linter.unusedSimpArgs false
set_option linter.unusedVariables false

/-! ### Which operations commute -/

def isRead : AOp → Bool
  | .mov _ => true
  | .load _ _ _ => true
  | .nilck _ => true
  | .bin _ _ _ _ => true
  | .eqA _ _ _ _ => true
  | .un _ _ => true
  | .conv _ _ => true
  | .b2s _ => true
  | .mkFn _ _ _ => true
  | .fldAddr _ _ => true
  | .fld _ _ _ _ => true
  | .ixAddr _ _ _ => true
  | .ixStr _ _ => true
  | .ext _ _ => true
  | .len _ _ => true
  | .minmax _ _ => true
  | .pick _ _ _ => true
  | .callp _ _ => true
  | .pur _ => true
  | .safe _ _ => true
  | _ => false

def isPick : AOp → Bool
  | .pick _ _ _ => true
  | _ => false

def effFree (i : Ins) : Bool := match i.guard with
  | some _ => canGuard i.op || isPick i.op
  | none => isRead i.op

/-- All operands of an operation that only reads. -/
def srcsOf : AOp → List Src
  | .mkFn _ fi ca => fi ++ ca
  | .pick c a b => [c, a, b]
  | .callp _ args => args
  | .pur a => opsOf a
  | .safe _ a => safeSrc a
  | a => opsOf a

def rdsOf (i : Ins) : List Src := (match i.guard with | some g => [g.1] | none => []) ++ srcsOf i.op

def indep (i j : Ins) : Bool := noPush i.dst && (noPush j.dst && (!sameD i.dst j.dst && ((insSrc j).all (fun x => !hits i.dst x) && (insSrc i).all (fun x => !hits j.dst x))))

def rduOf (r : Src → AV) : Src → AV
  | .c a => a
  | x => unopt (r x)

theorem purR_hs {T : Tbl} {r : Src → AV} {ob : Obs} {key : Nat} {a : AOp} : (purR T r ob key a).hs = [] := by cases a <;> simp only [purR, cond_eq_if] <;> (try split) <;> rfl

noncomputable def eff1 (T : Tbl) (r : Src → AV) (ob : Obs) (key : Nat) : AOp → Bool × AV
  | .pur a => ((purR T r ob key a).ok, (purR T r ob key a).v)
  | .pick c a b => ((pickM true (r a) (r b) (r c)).ok, (pickM true (r a) (r b) (r c)).v)
  | .callp f args => ((pureM (doCallG T ob ⟨true, f, args.map r⟩)).ok, (pureM (doCallG T ob ⟨true, f, args.map r⟩)).v)
  | .safe ds a => ((safeM T r ob key ds a).ok, (safeM T r ob key ds a).v)
  | op => ((stillOp r ob key op).ok, (stillOp r ob key op).v)

noncomputable def guardedR (T : Tbl) (r : Src → AV) (ob : Obs) (w : Bool) (key : Nat) : AOp → Mk
  | .pick c a b => also (optOk w (r c)) (pickM w (r a) (r b) (rduOf r c))
  | .call f args => also ((opsOf (.call f args)).all fun x => optOk w (r x)) (doCallG T ob ⟨true, f, args.map (rduOf r)⟩)
  | .callv f args => also ((opsOf (.callv f args)).all fun x => optOk w (r x)) (doCallG T ob (calleeV (args.map (rduOf r)) (rduOf r f)))
  | op => also (canGuard op && (opsOf op).all fun x => optOk w (r x)) (frzM (stillOp (rduOf r) ob key op))

noncomputable def eff (T : Tbl) (r : Src → AV) (ob : Obs) (i : Ins) : Bool × AV :=
  match i.guard with
  | none => eff1 T r ob i.key i.op
  | some g => (gdOk (r g.1) && (!gdV g.2 (r g.1) || ((guardedR T r ob (gdV g.2 (r g.1)) i.key i.op).ok && ((guardedR T r ob (gdV g.2 (r g.1)) i.key i.op).hs.isEmpty && (guardedR T r ob (gdV g.2 (r g.1)) i.key i.op).v.lone))),
      .opt (gdV g.2 (r g.1)) (guardedR T r ob (gdV g.2 (r g.1)) i.key i.op).v)

theorem rduOf_rd (s : St) : rduOf (rd s) = rdu s := by funext x; cases x <;> rfl

theorem read_hs {T : Tbl} {r : Src → AV} {ob : Obs} {key : Nat} {a : AOp} (h : isRead a = true) (hp : ∀ x y z, a ≠ .pick x y z) (hc : ∀ f l, a ≠ .callp f l) (hu : ∀ x, a ≠ .pur x) (hsf : ∀ q x, a ≠ .safe q x) : (stillOp r ob key a).hs = [] := by
  cases a <;> simp only [isRead] at h <;> (try (cases h; done)) <;> simp only [stillOp]
  case mov => rfl
  case load agg sz p =>
    cases r p <;> simp only [loadA] <;> try rfl
    · exact part_hs _ _ _ _
    · rename_i k i off
      cases obGet k ob <;> first | rfl | exact part_hs _ _ _ _
  case nilck x => cases r x <;> simp only [nilckA] <;> (try rfl) <;> (rename_i f _ _; cases f <;> rfl)
  case bin bl op x y =>
    unfold binA
    split
    · rw [cond_eq_if]
      split
      · unfold shB; split <;> rfl
      · simp only [also]; unfold intB; split <;> rfl
    · unfold strB; split <;> rfl
    · simp only [also]; unfold boolB; split <;> rfl
    · rfl
  case eqA neg ks x y => unfold cmpAgg; split <;> rfl
  case un op x => unfold unA; split <;> (try rfl) <;> (split <;> rfl)
  case conv k x => unfold convA; split <;> rfl
  case b2s x => cases r x <;> simp only [b2sA] <;> (try rfl); rename_i k; cases obGet k ob <;> rfl
  case mkFn => rfl
  case fldAddr off p => unfold fldAddrA; split <;> rfl
  case fld agg off sz x => simp only [also]; exact part_hs _ _ _ _
  case ixAddr sz x i => cases r x <;> simp only [ixAddrA] <;> (try rfl); rename_i k; cases obGet k ob <;> rfl
  case ixStr x i => unfold ixStrA; split <;> rfl
  case ext x i => unfold extA; split <;> rfl
  case len st x => cases r x <;> simp only [lenA] <;> (try rfl); rename_i k; cases obGet k ob <;> rfl
  case minmax mx xs => unfold mmA; split <;> rfl
  case pick c a b => exact absurd rfl (hp _ _ _)
  case callp f l => exact absurd rfl (hc _ _)
  case pur x => exact absurd rfl (hu _)
  case safe q x => exact absurd rfl (hsf _ _)

theorem safeM_hs {T : Tbl} {r : Src → AV} {ob : Obs} {key : Nat} {ds : List Nat} {a : AOp} : (safeM T r ob key ds a).hs = [] := by
  unfold safeM safeG; rw [cond_eq_if]; split <;> rfl

theorem pickM_hs {w : Bool} {a b c : AV} : (pickM w a b c).hs = [] := by unfold pickM; split <;> rfl

theorem putM_nil {s : St} {key : Nat} {D : Dst} {m : Mk} (h : m.hs = []) : putM s key D m = putD s m.ok m.v D := by unfold putM; rw [h]; rfl

theorem guarded_R {T : Tbl} {s : St} {w : Bool} {key : Nat} {a : AOp} : guarded T s w key a = guardedR T (rd s) s.ob w key a := by
  cases a <;> simp only [guarded, guardedR, rduOf_rd]

/-- An operation that only reads puts its value, and does nothing else. -/
theorem doIns_eff {T : Tbl} {s : St} {i : Ins} (h : effFree i = true) : doIns T s i = putD s (eff T (rd s) s.ob i).1 (eff T (rd s) s.ob i).2 i.dst := by
  unfold doIns eff
  cases hg : i.guard with
  | some g =>
    have hnw : ∀ f l, i.op ≠ .callw f l := fun f l e => by simp [effFree, hg, e, canGuard, isPick] at h
    have e1 : ∀ s' w, insGG T s' i.key i.dst w i.op = putG s' w i.dst (guarded T s' w i.key i.op) := by
      intro s' w
      unfold insGG
      split
      · rename_i f l e; exact absurd e (hnw f l)
      · rfl
    simp only [insG]
    rw [e1]
    have e2 : guarded T { s with ok := s.ok && gdOk (rd s g.1) } (gdV g.2 (rd s g.1)) i.key i.op = guarded T s (gdV g.2 (rd s g.1)) i.key i.op := rfl
    rw [e2, guarded_R]
    simp only [putG]
    cases i.dst <;> simp [putD, Bool.and_assoc]
  | none =>
    simp only [effFree, hg] at h
    simp only [insG]
    generalize i.op = a at h
    cases a <;> simp only [isRead] at h <;> (try (cases h; done)) <;> simp only [doOp, eff1]
    case pick => rw [putM_nil pickM_hs]
    case callp => rw [putM_nil rfl]
    case pur => rw [purOp_R, putM_nil purR_hs]
    case safe => rw [putM_nil safeM_hs]
    all_goals
      rw [putM_nil (read_hs (T := T) rfl (fun _ _ _ e => by cases e) (fun _ _ e => by cases e) (fun _ e => by cases e) (fun _ _ e => by cases e))]

/-! ### They commute -/

theorem ob_putD {s : St} {c : Bool} {a : AV} {D : Dst} : (putD s c a D).ob = s.ob := by cases D <;> rfl

theorem putD_comm {s : St} {c d : Bool} {a b : AV} {D E : Dst} (h1 : noPush D = true) (h2 : noPush E = true) (h3 : sameD D E = false) : putD (putD s c a D) d b E = putD (putD s d b E) c a D := by
  have hb : (s.ok && c && d) = (s.ok && d && c) := Bool.and_right_comm _ _ _
  cases D <;> simp only [noPush] at h1 <;> (try (cases h1; done)) <;> cases E <;> simp only [noPush] at h2 <;> (try (cases h2; done)) <;> simp only [putD, hb] <;>
    (try (simp only [sameD, beq_eq_false_iff_ne] at h3; rw [List.set_comm _ _ h3]))

theorem stillOp_congr2 {r r' : Src → AV} {ob : Obs} {d : Nat} {a : AOp} (hg : isRead a = true) (hp : ∀ x y z, a ≠ .pick x y z) (hc : ∀ f l, a ≠ .callp f l) (hu : ∀ x, a ≠ .pur x) (hsf : ∀ q x, a ≠ .safe q x) (h : ∀ x, x ∈ srcsOf a → r x = r' x) : stillOp r ob d a = stillOp r' ob d a := by
  cases a <;> simp only [isRead] at hg <;> (try (cases hg; done)) <;> simp only [srcsOf, opsOf] at h <;> simp only [stillOp]
  case minmax mx xs => rw [List.map_congr_left h]
  case mkFn f fi ca =>
    rw [List.map_congr_left (l := fi) fun x hx => h x (List.mem_append.2 (.inl hx)), List.map_congr_left (l := ca) fun x hx => h x (List.mem_append.2 (.inr hx))]
  all_goals first | (exact absurd rfl (hp _ _ _)) | (exact absurd rfl (hc _ _)) | (exact absurd rfl (hu _)) | (exact absurd rfl (hsf _ _)) | simp_all

theorem rduOf_congr {r r' : Src → AV} {x : Src} (h : r x = r' x) : rduOf r x = rduOf r' x := by cases x <;> simp [rduOf, h]

theorem guardedR_congr {T : Tbl} {r r' : Src → AV} {ob : Obs} {w : Bool} {key : Nat} {a : AOp} (hg : canGuard a = true ∨ isPick a = true) (h : ∀ x, x ∈ srcsOf a → r x = r' x) : guardedR T r ob w key a = guardedR T r' ob w key a := by
  have hall : ∀ l : List Src, (∀ x, x ∈ l → r x = r' x) → (l.all fun x => optOk w (r x)) = (l.all fun x => optOk w (r' x)) := by
    intro l hl
    induction l with
    | nil => rfl
    | cons y l ih => simp only [List.all_cons]; rw [hl y (by simp), ih fun x hx => hl x (by simp [hx])]
  have hmap : ∀ l : List Src, (∀ x, x ∈ l → r x = r' x) → l.map (rduOf r) = l.map (rduOf r') := fun l hl => List.map_congr_left fun x hx => rduOf_congr (hl x hx)
  have still : canGuard a = true → (∀ x, x ∈ opsOf a → r x = r' x) → also (canGuard a && (opsOf a).all fun x => optOk w (r x)) (frzM (stillOp (rduOf r) ob key a)) = also (canGuard a && (opsOf a).all fun x => optOk w (r' x)) (frzM (stillOp (rduOf r') ob key a)) := by
    intro hcg hh
    rw [hall _ hh, stillOp_congr hcg fun x hx => rduOf_congr (hh x hx)]
  cases a
  case pick c x y =>
    simp only [srcsOf] at h
    simp only [guardedR]
    rw [h c (by simp), h x (by simp), h y (by simp), rduOf_congr (h c (by simp))]
  case call f args =>
    simp only [srcsOf, opsOf] at h
    simp only [guardedR, opsOf]
    rw [hall _ h, hmap _ h]
  case callv f args =>
    simp only [srcsOf, opsOf] at h
    simp only [guardedR, opsOf]
    rw [hall _ h, hmap _ fun x hx => h x (List.mem_cons_of_mem _ hx), rduOf_congr (h f (by simp))]
  all_goals
    first
    | (exfalso; rcases hg with hg | hg <;> simp [canGuard, isPick] at hg; done)
    | exact still rfl h

/-- What an operation that only reads gives hangs on what it reads. -/
theorem eff_congr {T : Tbl} {r r' : Src → AV} {ob : Obs} {i : Ins} (he : effFree i = true) (h : ∀ x, x ∈ rdsOf i → r x = r' x) : eff T r ob i = eff T r' ob i := by
  unfold rdsOf at h
  unfold effFree at he
  unfold eff
  cases hg : i.guard with
  | some g =>
    rw [hg] at he h
    simp only at he h ⊢
    have h1 : r g.1 = r' g.1 := h _ (by simp)
    have h2 : ∀ w, guardedR T r ob w i.key i.op = guardedR T r' ob w i.key i.op := fun w => guardedR_congr (by simpa using he) fun x hx => h x (List.mem_append.2 (.inr hx))
    rw [h1, h2]
  | none =>
    rw [hg] at he h
    simp only [List.nil_append] at he h ⊢
    generalize i.op = a at he h
    cases a
    case pick c x y =>
      simp only [srcsOf] at h
      simp only [eff1]
      rw [h c (by simp), h x (by simp), h y (by simp)]
    case callp f args =>
      simp only [srcsOf] at h
      simp only [eff1]
      rw [List.map_congr_left h]
    case pur x =>
      simp only [srcsOf] at h
      simp only [eff1]
      rw [purR_congr h]
    case safe q x =>
      simp only [srcsOf] at h
      simp only [eff1]
      rw [safeM_congr h]
    all_goals
      simp only [eff1]
      rw [stillOp_congr2 he (fun _ _ _ e => by cases e) (fun _ _ e => by cases e) (fun _ e => by cases e) (fun _ _ e => by cases e) h]

/-! ### What only reads, apart from a block that is made, commutes with its making -/

def isSafeOf (d : Nat) (i : Ins) : Bool := i.guard.isNone && (match i.op with
  | .safe ds _ => ds.any (· == d)
  | _ => false)

def isAlloc (i : Ins) : Bool := i.guard.isNone && (match i.op with
  | .alloc _ => true
  | _ => false)

theorem clrOb_idem (d : Nat) : ∀ ob : Obs, clrOb d (clrOb d ob) = clrOb d ob
  | [] => rfl
  | p :: r => by
    have ih := clrOb_idem d r
    by_cases c : p.1 / 32 = d
    · simp only [clrOb, c, beq_self_eq_true, cond_true, ih]
    · have : (p.1 / 32 == d) = false := by simpa using c
      simp only [clrOb, this, cond_false, ih]

theorem clrOb_comm (d e : Nat) : ∀ ob : Obs, clrOb d (clrOb e ob) = clrOb e (clrOb d ob)
  | [] => rfl
  | p :: r => by
    have ih := clrOb_comm d e r
    by_cases c : p.1 / 32 = d <;> by_cases c2 : p.1 / 32 = e
    · simp only [clrOb, c, c2, beq_self_eq_true, cond_true, ih]
      try (subst c2; subst c; simp only [beq_self_eq_true, cond_true, ih])
      try (rw [← c] at c2; simp_all)
    · have h2 : (p.1 / 32 == e) = false := by simpa using c2
      have h1 : (p.1 / 32 == d) = true := by simpa using c
      simp only [clrOb, h1, h2, cond_true, cond_false, ih]
    · have h1 : (p.1 / 32 == d) = false := by simpa using c
      have h2 : (p.1 / 32 == e) = true := by simpa using c2
      simp only [clrOb, h1, h2, cond_true, cond_false, ih]
    · have h1 : (p.1 / 32 == d) = false := by simpa using c
      have h2 : (p.1 / 32 == e) = false := by simpa using c2
      simp only [clrOb, h1, h2, cond_false, ih]

theorem clrOb_set {d k : Nat} {h : Hm} (hk : k / 32 = d) : ∀ ob : Obs, clrOb d (obSet k h ob) = clrOb d ob
  | [] => by simp [obSet, clrOb, hk]
  | p :: r => by
    have ih := clrOb_set (h := h) hk r
    simp only [obSet, cond_eq_if, beq_iff_eq, decide_eq_true_eq]
    split
    · rename_i e; simp [clrOb, e, hk]
    · split
      · simp [clrOb, hk]
      · simp only [clrOb, ih]

theorem clrObs_of {d : Nat} : ∀ {ds : List Nat} (ob : Obs), ds.any (· == d) = true → clrObs ds (clrOb d ob) = clrObs ds ob
  | [], _, h => by simp at h
  | e :: r, ob, h => by
    simp only [clrObs]
    by_cases c : e = d
    · subst c; rw [clrOb_idem]
    · have : r.any (· == d) = true := by
        simp only [List.any_cons, Bool.or_eq_true, beq_iff_eq] at h
        exact h.resolve_left c
      rw [clrOb_comm, clrObs_of _ this]

theorem clrOb_none {d : Nat} : ∀ {ob : Obs}, hasKey d ob = false → clrOb d ob = ob
  | [], _ => rfl
  | p :: r, h => by
    simp only [hasKey, Bool.or_eq_false_iff] at h
    simp only [clrOb, h.1, cond_false, clrOb_none h.2]

theorem clear_ob (s : St) (d : Nat) : (clear s d).ob = clrOb d s.ob := by
  unfold Go.Proofs.YtbobhejdijcofaaGreatDoor.clear
  rw [cond_eq_if]
  split
  · rfl
  · rename_i h
    rw [clrOb_none (by simpa using h)]

theorem clr_any (d : Nat) : clr d .any = .any := by simp [clr, AV.keys]

theorem offA_any (ds : List Nat) : offA ds .any = false := by simp [offA, isAny]

theorem clr_off {d : Nat} {ds : List Nat} (hd : ds.any (· == d) = true) (a : AV) : (offA ds a = true → clr d a = a) ∧ offA ds (clr d a) = offA ds a := by
  unfold clr
  rw [cond_eq_if]
  by_cases c : a.keys.any (fun k => k / 32 == d) = true
  · have hf : offA ds a = false := by
      rw [Bool.eq_false_iff]
      intro ho
      rw [List.any_eq_true] at c hd
      obtain ⟨k, hk, e⟩ := c
      obtain ⟨d', hd', e'⟩ := hd
      simp only [beq_iff_eq] at e e'
      exact offA_key ho hk d' hd' (by rw [e, e'])
    rw [if_pos c, offA_any, hf]
    exact ⟨fun h => Bool.noConfusion h, rfl⟩
  · rw [if_neg c]; exact ⟨fun _ => rfl, rfl⟩

theorem rd_clear (s : St) (d : Nat) (x : Src) : rd (clear s d) x = rd s x ∨ rd (clear s d) x = clr d (rd s x) := by
  unfold Go.Proofs.YtbobhejdijcofaaGreatDoor.clear
  rw [cond_eq_if]
  split
  · cases x
    · exact .inr (getD_map_any _ (clr_any d) _ _)
    · exact .inr (getD_map_any _ (clr_any d) _ _)
    · exact .inl rfl
  · exact .inl rfl

theorem put_clear2 {s : St} {c : Bool} {v : AV} {D : Dst} {d : Nat} (hv : clr d v = v) (hp : noPush D = true) : clear (putD s c v D) d = putD (clear s d) c v D := by
  unfold Go.Proofs.YtbobhejdijcofaaGreatDoor.clear
  rw [put_ob, cond_eq_if, cond_eq_if]
  split
  · cases D <;> simp only [putD, List.map_set, hv]
    cases hp
  · rfl

theorem safe_alloc {T : Tbl} {s : St} {i j : Ins} (hi : isSafeOf j.key i = true) (hj : isAlloc j = true) (h1 : noPush i.dst = true) (h2 : noPush j.dst = true) (h3 : sameD i.dst j.dst = false) (h5 : ∀ x, x ∈ insSrc i → hits j.dst x = false) :
    doIns T (doIns T s i) j = doIns T (doIns T s j) i := by
  obtain ⟨D, key, gd, op⟩ := i
  obtain ⟨E, d, gd2, op2⟩ := j
  simp only [isSafeOf, Bool.and_eq_true, Option.isNone_iff_eq_none] at hi
  simp only [isAlloc, Bool.and_eq_true, Option.isNone_iff_eq_none] at hj
  obtain ⟨rfl, hop⟩ := hi
  obtain ⟨rfl, hop2⟩ := hj
  cases op <;> (try (cases hop; done))
  cases op2 <;> (try (cases hop2; done))
  rename_i ds a z
  simp only at hop h1 h2 h3
  have hI : ∀ s : St, doIns T s ⟨D, key, none, .safe ds a⟩ = putD s (safeM T (rd s) s.ob key ds a).ok (safeM T (rd s) s.ob key ds a).v D := fun s => by
    simp only [doIns, insG, doOp]
    rw [putM_nil safeM_hs]
  have hJ : ∀ s : St, doIns T s ⟨E, d, none, .alloc z⟩ = putD { clear s d with ob := obSet (keyOf d) ⟨z.cells.length, [z]⟩ (clear s d).ob } (decide (1 ≤ z.cells.length) && z.atoms) (.ref (keyOf d) 0 0) E := fun s => rfl
  have hkd : keyOf d / 32 = d := by simp [keyOf]
  have hM : safeM T (rd (doIns T s ⟨E, d, none, .alloc z⟩)) (doIns T s ⟨E, d, none, .alloc z⟩).ob key ds a = safeM T (rd s) s.ob key ds a := by
    have hob : clrObs ds (doIns T s ⟨E, d, none, .alloc z⟩).ob = clrObs ds s.ob := by
      rw [hJ, put_ob]
      show clrObs ds (obSet (keyOf d) _ (clear s d).ob) = _
      rw [← clrObs_of _ hop, clrOb_set hkd, clear_ob, clrOb_idem, clrObs_of _ hop]
    have hrd : ∀ x, x ∈ safeSrc a → rd (doIns T s ⟨E, d, none, .alloc z⟩) x = rd s x ∨ rd (doIns T s ⟨E, d, none, .alloc z⟩) x = clr d (rd s x) := fun x hx => by
      rw [hJ, rd_putD h2 (h5 x (by simpa [insSrc, allSrc] using hx))]
      have e : rd ({ clear s d with ob := obSet (keyOf d) ⟨z.cells.length, [z]⟩ (clear s d).ob } : St) x = rd (clear s d) x := by cases x <;> rfl
      rw [e]
      exact rd_clear s d x
    unfold safeM
    have hall : ((safeSrc a).all fun x => offA ds (rd (doIns T s ⟨E, d, none, .alloc z⟩) x)) = (safeSrc a).all fun x => offA ds (rd s x) := by
      have : ∀ l : List Src, (∀ x, x ∈ l → x ∈ safeSrc a) → (l.all fun x => offA ds (rd (doIns T s ⟨E, d, none, .alloc z⟩) x)) = l.all fun x => offA ds (rd s x) := by
        intro l hl
        induction l with
        | nil => rfl
        | cons y l ih =>
          simp only [List.all_cons]
          rw [ih fun x hx => hl x (by simp [hx])]
          congr 1
          rcases hrd y (hl y (by simp)) with e | e
          · rw [e]
          · rw [e, (clr_off hop _).2]
      exact this _ fun x hx => hx
    rw [hall, hob]
    by_cases hs : ((safeSrc a).all fun x => offA ds (rd s x)) = true
    · rw [safe0_congr (r := rd (doIns T s ⟨E, d, none, .alloc z⟩)) (r' := rd s) fun x hx => by
        rcases hrd x hx with e | e
        · exact e
        · rw [e]; exact (clr_off hop _).1 (List.all_eq_true.1 hs x hx)]
    · have hs' : ((safeSrc a).all fun x => offA ds (rd s x)) = false := by simpa using hs
      rw [hs']
      rfl
  have hv : clr d (safeM T (rd s) s.ob key ds a).v = (safeM T (rd s) s.ob key ds a).v := by
    unfold safeM safeG
    rw [cond_eq_if]
    split
    · rename_i hc
      simp only [Bool.and_eq_true] at hc
      exact (clr_off hop _).1 hc.2.2
    · exact clr_any d
  rw [hI (doIns T s ⟨E, d, none, .alloc z⟩), hM, hI s, hJ, hJ, put_clear2 hv h1]
  have e : ∀ (b : Bool) (v : AV) (ob : Obs), ({ putD (clear s d) b v D with ob := ob } : St) = putD { clear s d with ob := ob } b v D := fun b v ob => put_setOb ob
  rw [put_ob, e]
  exact (putD_comm h2 h1 (by rw [sameD_comm]; exact h3)).symm

/-- Two operations that commute, whatever the state. -/
def com (i j : Ins) : Bool := indep i j && (((effFree i && effFree j) || (isFlat i || isFlat j)) || ((isSafeOf j.key i && isAlloc j) || (isSafeOf i.key j && isAlloc i)))

theorem com_ok {T : Tbl} {s : St} {i j : Ins} (h : com i j = true) : doIns T (doIns T s i) j = doIns T (doIns T s j) i := by
  simp only [com, indep, Bool.and_eq_true, Bool.or_eq_true, Bool.not_eq_true', List.all_eq_true] at h
  obtain ⟨⟨h1, h2, h3, h4', h5'⟩, hh⟩ := h
  have hsub : ∀ (k : Ins) x, x ∈ rdsOf k → x ∈ insSrc k := fun k x hx => by
    unfold rdsOf at hx
    unfold insSrc
    rcases List.mem_append.1 hx with hx | hx
    · exact List.mem_append_left _ hx
    · refine List.mem_append_right _ ?_
      generalize k.op = a at hx
      cases a <;> first | exact hx | (simp [srcsOf, opsOf] at hx)
  rcases hh with (⟨h6, h7⟩ | hi | hj) | ⟨hi, hj⟩ | ⟨hj, hi⟩
  rotate_left
  · exact (flat_com hi h2 h1 h3 h5' h4').symm
  · refine flat_com hj h1 h2 ?_ h4' h5'
    rw [sameD_comm]; exact h3
  · exact safe_alloc hi hj h1 h2 h3 h5'
  · exact (safe_alloc hj hi h2 h1 (by rw [sameD_comm]; exact h3) h4').symm
  have h4 : ∀ x, x ∈ rdsOf j → hits i.dst x = false := fun x hx => h4' x (hsub j x hx)
  have h5 : ∀ x, x ∈ rdsOf i → hits j.dst x = false := fun x hx => h5' x (hsub i x hx)
  rw [doIns_eff h6, doIns_eff (s := s) h7, doIns_eff h7, doIns_eff h6]
  rw [ob_putD, ob_putD, eff_congr (r := rd (putD s _ _ i.dst)) (r' := rd s) h7 fun x hx => rd_putD h1 (h4 x hx), eff_congr (r := rd (putD s _ _ j.dst)) (r' := rd s) h6 fun x hx => rd_putD h2 (h5 x hx)]
  exact putD_comm h1 h2 h3


open Go Go.RowKit
set_option linter.unusedSimpArgs false
set_option linter.unusedVariables false

/-- No later one is asked for by an earlier one. -/
def Lin (dep : Nat → Nat → Bool) (l : List Nat) : Prop := l.Pairwise fun a b => dep b a = false

/-- Those that hang on j, through others of the list; the list is rising. -/
def descs (dep : Nat → Nat → Bool) (j : Nat) : List Nat → List Nat → List Nat
  | acc, [] => acc
  | acc, i :: r => descs dep j (bif dep j i || acc.any (fun k => dep k i) then i :: acc else acc) r

def isFree (dep cm : Nat → Nat → Bool) (rem : List Nat) (j : Nat) : Bool :=
  rem.all fun i => i == j || ((descs dep j [] rem).contains i || cm j i)

def ready (dep : Nat → Nat → Bool) (rem : List Nat) : List Nat := rem.filter fun j => rem.all fun i => !dep i j

def explore (dep cm : Nat → Nat → Bool) : Nat → List Nat → List (List Nat)
  | 0, _ => [[]]
  | n + 1, rem =>
    match rem with
    | [] => [[]]
    | _ => match (ready dep rem).find? (isFree dep cm rem) with
      | some j => (explore dep cm n (rem.erase j)).map (j :: ·)
      | none => (ready dep rem).flatMap fun j => (explore dep cm n (rem.erase j)).map (j :: ·)

section
variable {dep cm : Nat → Nat → Bool}

theorem descs_sub {j : Nat} {p q : List Nat} (hl : Lin dep (p ++ j :: q)) : ∀ (r acc : List Nat), (∀ i, i ∈ acc → i ∉ p ∧ i ∈ p ++ j :: q) → (∀ i, i ∈ r → i ∈ p ++ j :: q) → ∀ i, i ∈ descs dep j acc r → i ∉ p
  | [], acc, ha, _, i, hi => (ha i hi).1
  | a :: r, acc, ha, hr, i, hi => by
    simp only [descs] at hi
    refine descs_sub hl r _ (fun k hk => ?_) (fun k hk => hr k (by simp [hk])) i hi
    cases hc : dep j a || acc.any (fun k => dep k a) with
    | false => rw [hc] at hk; exact ha k hk
    | true =>
      rw [hc] at hk
      simp only [cond_true, List.mem_cons] at hk
      rcases hk with rfl | hk
      · refine ⟨fun hp => ?_, hr k (by simp)⟩
        unfold Lin at hl
        rw [List.pairwise_append] at hl
        have hcross := hl.2.2 k hp
        simp only [Bool.or_eq_true, List.any_eq_true] at hc
        rcases hc with hc | ⟨m, hm, hc⟩
        · have := hcross j (by simp); rw [hc] at this; cases this
        · obtain ⟨hmp, hmm⟩ := ha m hm
          have hmq : m ∈ j :: q := by
            rcases List.mem_append.1 hmm with h | h
            · exact absurd h hmp
            · exact h
          have := hcross m hmq; rw [hc] at this; cases this
      · exact ha k hk

/-- Each order is one of those that are looked at, up to what commutes. -/
theorem explore_all {σ : Type} {f : Nat → σ → σ} (hcm : ∀ i j s, cm i j = true → f j (f i s) = f i (f j s)) (hirr : ∀ i, dep i i = false) :
    ∀ (n : Nat) (rem : List Nat), rem.length ≤ n → rem.Nodup → ∀ π, π.Perm rem → Lin dep π → ∃ ρ ∈ explore dep cm n rem, ∀ s, π.foldl (fun s i => f i s) s = ρ.foldl (fun s i => f i s) s := by
  intro n
  induction n with
  | zero =>
    intro rem hn _ π hp _
    have : rem = [] := List.length_eq_zero_iff.1 (by omega)
    subst this
    have := hp.eq_nil
    subst this
    exact ⟨[], by simp [explore], fun s => rfl⟩
  | succ n ih =>
    intro rem hn hnd π hp hl
    cases rem with
    | nil =>
      have := hp.eq_nil
      subst this
      exact ⟨[], by simp [explore], fun s => rfl⟩
    | cons r0 rr =>
      have hnd' : π.Nodup := hp.nodup_iff.2 hnd
      simp only [explore]
      cases hfind : (ready dep (r0 :: rr)).find? (isFree dep cm (r0 :: rr)) with
      | some j =>
        have hj : j ∈ r0 :: rr := by
          have := List.mem_of_find?_eq_some hfind
          exact (List.mem_filter.1 this).1
        have hfree := List.find?_some hfind
        obtain ⟨p, q, rfl⟩ := List.append_of_mem (hp.mem_iff.2 hj)
        have hjp : j ∉ p := by
          intro c
          rw [List.nodup_append] at hnd'
          exact hnd'.2.2 j c j (by simp) rfl
        -- what stands ahead of j commutes with it
        have hcom : ∀ i, i ∈ p → cm j i = true := by
          intro i hi
          simp only [isFree, List.all_eq_true] at hfree
          have hir : i ∈ r0 :: rr := hp.mem_iff.1 (by simp [hi])
          have := hfree i hir
          simp only [Bool.or_eq_true, beq_iff_eq, List.contains_eq_mem, decide_eq_true_eq] at this
          rcases this with e | e | e
          · exact absurd hi (e ▸ hjp)
          · exact absurd hi (descs_sub hl (r0 :: rr) [] (fun k hk => by simp at hk) (fun k hk => hp.mem_iff.2 hk) i e)
          · exact e
        have hmove : ∀ (p : List Nat), (∀ i, i ∈ p → cm j i = true) → ∀ s, f j (p.foldl (fun s i => f i s) s) = p.foldl (fun s i => f i s) (f j s) := by
          intro p
          induction p with
          | nil => intro _ s; rfl
          | cons a p ihp =>
            intro hc s
            simp only [List.foldl_cons]
            rw [ihp (fun i hi => hc i (by simp [hi])), hcm j a s (hc a (by simp))]
        have hperm : (p ++ q).Perm ((r0 :: rr).erase j) := by
          have h1 : (p ++ j :: q).Perm (j :: (p ++ q)) := List.perm_middle
          have h2 := (h1.symm.trans hp).erase j
          simpa using h2
        have hlin : Lin dep (p ++ q) := by
          unfold Lin at hl ⊢
          exact hl.sublist (List.Sublist.append (List.Sublist.refl p) (List.sublist_cons_self j q))
        obtain ⟨ρ, hρ, he⟩ := ih _ (by rw [List.length_erase_of_mem hj]; simp at hn ⊢; omega) (hnd.erase j) (p ++ q) hperm hlin
        refine ⟨j :: ρ, List.mem_map.2 ⟨ρ, hρ, rfl⟩, fun s => ?_⟩
        rw [List.foldl_append, List.foldl_cons, hmove p hcom, List.foldl_cons, ← he, List.foldl_append]
      | none =>
        cases π with
        | nil => have := hp.symm.eq_nil; cases this
        | cons j π' =>
          have hj : j ∈ r0 :: rr := hp.mem_iff.1 (by simp)
          have hready : j ∈ ready dep (r0 :: rr) := by
            refine List.mem_filter.2 ⟨hj, List.all_eq_true.2 fun i hi => ?_⟩
            have hiπ : i ∈ j :: π' := hp.mem_iff.2 hi
            rcases List.mem_cons.1 hiπ with e | hiπ
            · rw [e, hirr]; rfl
            · unfold Lin at hl
              rw [List.pairwise_cons] at hl
              rw [hl.1 i hiπ]; rfl
          have hperm : π'.Perm ((r0 :: rr).erase j) := by
            have h2 := hp.erase j
            simpa using h2
          have hlin : Lin dep π' := by unfold Lin at hl ⊢; exact (List.pairwise_cons.1 hl).2
          obtain ⟨ρ, hρ, he⟩ := ih _ (by rw [List.length_erase_of_mem hj]; simp at hn ⊢; omega) (hnd.erase j) π' hperm hlin
          refine ⟨j :: ρ, List.mem_flatMap.2 ⟨j, hready, List.mem_map.2 ⟨ρ, hρ, rfl⟩⟩, fun s => ?_⟩
          rw [List.foldl_cons, List.foldl_cons, he]

end

open Go Go.RowKit
set_option linter.unusedSimpArgs false
set_option linter.unusedVariables false

def dIns : Ins := ⟨.no, 0, none, .mov (.c .any)⟩

def depOf (ops : Array Oper) (i j : Nat) : Bool :=
  match ops[j]? with
  | some o => o.after.any fun e => Region.binds .any e && e.on == i
  | none => false

def cmOf (is : List Ins) (i j : Nat) : Bool := com (is.getD i dIns) (is.getD j dIns)

def ssOf (vm : List Nat) (ops : Array Oper) : List Nat := ((ops.toList.filterMap (·.dst)).filter fun d => !vm.contains d).eraseDups

def chkAt (P : Program) (n : Nat) (ops : Array Oper) (vm ss : List Nat) (is : List Ins) (j : Nat) : Bool :=
  match ops[j]? with
  | some o => o.after.all (fun e => !Region.binds .any e || decide (e.on < j)) && chkIns P n ops vm ss o (is.getD j dIns) == some ss
  | none => false

/-- The operations are those of the text, and every order of theirs is looked at. -/
def chkAny (P : Program) (n : Nat) (ops : Array Oper) (vm ss : List Nat) (k : Nat) (is : List Ins) (alts : List (List Nat)) : Bool :=
  P.follows .mixedOrders && (ss.length == k && (ss.all (fun t => decide (t < n)) && (is.length == ops.size && ((List.range ops.size).all (chkAt P n ops vm ss is) &&
    (explore (depOf ops) (cmOf is) ops.size (List.range ops.size)).all fun ρ => ρ == List.range ops.size || alts.contains ρ))))

noncomputable def runL (T : Tbl) (is : List Ins) (s : St) (l : List Nat) : St := l.foldl (fun s i => doIns T s (is.getD i dIns)) s

theorem runL_pick {T : Tbl} {is : List Ins} : ∀ (l : List Nat) (s : St), doList T (pickIs is l) s = runL T is s l
  | [], s => rfl
  | i :: l, s => runL_pick l (doIns T s (is.getD i dIns))

theorem pickIs_range (is : List Ins) : pickIs is (List.range is.length) = is := by
  unfold pickIs
  apply List.ext_getElem
  · simp
  · intro i h1 h2
    simp [List.getD_eq_getElem?_getD, List.getElem?_eq_getElem h2]

theorem runL_ok {T : Tbl} {is : List Ins} : ∀ (l : List Nat) {s : St}, (runL T is s l).ok = true → s.ok = true
  | [], _, h => h
  | i :: l, s, h => doIns_ok (runL_ok l (s := doIns T s (is.getD i dIns)) h)

theorem altsOk_get {T : Tbl} {is : List Ins} {s r : St} : ∀ {alts : List (List Nat)}, altsOk T is s r alts = true → ∀ l, l ∈ alts → doList T (pickIs is l) s = r
  | [], _, l, h => by simp at h
  | a :: alts, h, l, hl => by
    simp only [altsOk, Bool.and_eq_true, decide_eq_true_eq] at h
    rcases List.mem_cons.1 hl with e | hl
    · subst e; exact h.1
    · exact altsOk_get h.2 l hl

section
variable {F Iow : Nat → Prop} {w0 : World} {g0 : Gh} {o0 : Obs} {g : Gh} {w w' : World} {tmps : Array Value} {ds : List Deferred} {vm ss ss' : List Nat} {s : St} {P : Program} {T : Tbl}
  {Q : Exit → Act → World → Prop} {ops : Array Oper} {n : Nat}

theorem FX.grow (h : FX F Iow w0 g0 o0 g w tmps vm ss s) (hw : Same (fun _ => False) w w') : FX F Iow w0 g0 o0 g w' tmps vm ss s :=
  FX.mk' (w := w) (h.toFR.grow hw) h.same (hw.mono fun _ _ c => c.elim) h.hio h.fio h.par

theorem FX.slots (h : FX F Iow w0 g0 o0 g w tmps vm [] s) {k : Nat} (hk : ss.length = k) (hf : ∀ t, t ∈ ss → t < tmps.size) : FX F Iow w0 g0 o0 g w tmps vm ss (slots k s) := by
  refine ⟨⟨h.home, h.inj, h.nF, h.fb, h.vl, by simp [Go.Proofs.YtbobhejdijcofaaGreatDoor.slots, hk], h.vs, fun i hi => ?_, fun t ht => ?_, h.tab⟩, h.same, h.hio, h.fio, h.par⟩
  · simp only [Go.Proofs.YtbobhejdijcofaaGreatDoor.slots]
    have : (List.replicate k AV.any).getD i .any = .any := by rw [List.getD_eq_getElem?_getD, List.getElem?_replicate]; split <;> rfl
    rw [this]; exact SR.any
  · rcases ht with ht | ht
    · exact h.fit t (.inl ht)
    · exact hf t ht

theorem any_step (hT : TSound P T) (hnd : NdOk vm) {is : List Ins} (hchk : ∀ j, j < ops.size → chkAt P n ops vm ss is j = true) {r : St} (hrok : r.ok = true)
    (hQ : ∀ tmps' w' g', tmps'.size = n → FX F Iow w0 g0 o0 g' w' tmps' vm ss r → Q .normal ⟨tmps', ds⟩ w') :
    ∀ (fuel : Nat) (rem : List Nat) (listed : Array Bool) {s : St} {g : Gh} {w : World} {tmps : Array Value}, rem.Pairwise (· < ·) → (∀ i, i ∈ rem → i < ops.size) → listed.size = ops.size → (∀ i, i < ops.size → (listed.getD i true = true ↔ i ∉ rem)) → rem.length ≤ fuel →
      (∀ π, π.Perm rem → Lin (depOf ops) π → runL T is s π = r) → FX F Iow w0 g0 o0 g w tmps vm ss s → tmps.size = n → wpAny P .any ops Q fuel listed ⟨tmps, ds⟩ w := by
  have hdep : ∀ i j, depOf ops i j = true → i < j := by
    intro i j hd
    unfold depOf at hd
    split at hd
    · rename_i o ho
      have hj : j < ops.size := by
        rcases Nat.lt_or_ge j ops.size with h' | h'
        · exact h'
        · rw [Array.getElem?_eq_none h'] at ho; cases ho
      have hc := hchk j hj
      unfold chkAt at hc
      rw [ho] at hc
      simp only [Bool.and_eq_true, Array.all_eq_true, Array.any_eq_true] at hc hd
      obtain ⟨x, hx, hb, he⟩ := hd
      have := hc.1 x hx
      simp only [Bool.or_eq_true, Bool.not_eq_true', decide_eq_true_eq, beq_iff_eq] at this he
      rcases this with e | e
      · rw [hb] at e; cases e
      · omega
    · cases hd
  have hlinS : ∀ (l : List Nat), l.Pairwise (· < ·) → Lin (depOf ops) l := fun l hl => hl.imp fun {a b} hab => by
    cases hd : depOf ops b a with
    | false => rfl
    | true => have := hdep b a hd; omega
  have hready : ∀ (rem : List Nat) (listed : Array Bool), (∀ i, i ∈ rem → i < ops.size) → listed.size = ops.size → (∀ i, i < ops.size → (listed.getD i true = true ↔ i ∉ rem)) → ∀ i, i ∈ Region.ready .any ops listed → i ∈ rem ∧ ∀ k, k ∈ rem → depOf ops k i = false := by
    intro rem listed hb hsz hl i hi
    obtain ⟨h1, h2⟩ := List.mem_filter.1 hi
    have hiN : i < ops.size := by simpa using h1
    simp only [Bool.and_eq_true, Bool.not_eq_true', Array.getElem?_eq_getElem hiN, Option.map_some, Option.getD_some, Array.all_eq_true] at h2
    obtain ⟨h3, h4⟩ := h2
    refine ⟨?_, fun k hk => ?_⟩
    · by_cases hm : i ∈ rem
      · exact hm
      · have := (hl i hiN).2 hm; rw [h3] at this; cases this
    · cases hd : depOf ops k i with
      | false => rfl
      | true =>
        unfold depOf at hd
        rw [Array.getElem?_eq_getElem hiN] at hd
        simp only [Array.any_eq_true, Bool.and_eq_true, beq_iff_eq] at hd
        obtain ⟨x, hx, hbd, he⟩ := hd
        have h5 := h4 x hx
        rw [hbd, he] at h5
        simp only [Bool.not_true, Bool.false_or] at h5
        have hkN := hb k hk
        have h6 : listed.getD k true = true := by
          rw [← h5, Array.getD_eq_getD_getElem?, Array.getD_eq_getD_getElem?, Array.getElem?_eq_getElem (by omega)]; rfl
        exact absurd hk ((hl k hkN).1 h6)
  have hsome : ∀ (rem : List Nat) (listed : Array Bool), rem.Pairwise (· < ·) → (∀ i, i ∈ rem → i < ops.size) → listed.size = ops.size → (∀ i, i < ops.size → (listed.getD i true = true ↔ i ∉ rem)) → Region.ready .any ops listed = [] → rem = [] := by
    intro rem listed hs hb hsz hl h0
    cases rem with
    | nil => rfl
    | cons a r =>
      exfalso
      have haN := hb a (by simp)
      have hc := hchk a haN
      unfold chkAt at hc
      rw [Array.getElem?_eq_getElem haN] at hc
      simp only [Bool.and_eq_true, Array.all_eq_true] at hc
      have hmem : a ∈ Region.ready .any ops listed := by
        refine List.mem_filter.2 ⟨by simpa using haN, ?_⟩
        simp only [Bool.and_eq_true, Bool.not_eq_true', Array.getElem?_eq_getElem haN, Option.map_some, Option.getD_some, Array.all_eq_true]
        refine ⟨?_, fun x hx => ?_⟩
        · cases hla : listed.getD a true with
          | false => rfl
          | true => exact absurd (List.mem_cons_self) ((hl a haN).1 hla)
        · have h5 := hc.1 x hx
          simp only [Bool.or_eq_true, Bool.not_eq_true', decide_eq_true_eq] at h5 ⊢
          refine h5.imp id fun hlt => ?_
          have hk : (ops[a].after[x]).on < ops.size := by omega
          have hnm : (ops[a].after[x]).on ∉ a :: r := by
            intro hm
            rcases List.mem_cons.1 hm with e | hm
            · omega
            · have := (List.pairwise_cons.1 hs).1 _ hm; omega
          have h6 := (hl _ hk).2 hnm
          rw [← h6, Array.getD_eq_getD_getElem?, Array.getD_eq_getD_getElem?, Array.getElem?_eq_getElem (by omega)]; rfl
      rw [h0] at hmem; simp at hmem
  intro fuel
  induction fuel with
  | zero =>
    intro rem listed s g w tmps hs hb hsz hl hf H hfx hn
    have hr0 : rem = [] := List.length_eq_zero_iff.1 (by omega)
    subst hr0
    have e := H [] (List.Perm.refl _) List.Pairwise.nil
    have e' : s = r := e
    subst e'
    refine ⟨?_, hQ _ _ _ hn hfx⟩
    rw [List.eq_nil_iff_forall_not_mem]
    intro i hi
    exact absurd (hready [] listed hb hsz hl i hi).1 (by simp)
  | succ fuel ih =>
    intro rem listed s g w tmps hs hb hsz hl hf H hfx hn
    refine ⟨fun h0 => ?_, fun i hi => ?_⟩
    · have hr0 := hsome rem listed hs hb hsz hl h0
      subst hr0
      have e := H [] (List.Perm.refl _) List.Pairwise.nil
      have e' : s = r := e
      subst e'
      exact hQ _ _ _ hn hfx
    · obtain ⟨him, hdi⟩ := hready rem listed hb hsz hl i hi
      have hiN := hb i him
      have hc := hchk i hiN
      unfold chkAt at hc
      rw [Array.getElem?_eq_getElem hiN] at hc
      simp only [Bool.and_eq_true, beq_iff_eq] at hc
      have hnodup : rem.Nodup := hs.imp fun {a b} h => Nat.ne_of_lt h
      have hes : (rem.erase i).Pairwise (· < ·) := hs.sublist List.erase_sublist
      have hlin : ∀ π, π.Perm (rem.erase i) → Lin (depOf ops) π → Lin (depOf ops) (i :: π) := fun π hp hl => List.pairwise_cons.2 ⟨fun k hk => hdi k (List.mem_of_mem_erase (hp.mem_iff.1 hk)), hl⟩
      have hperm : ∀ π, π.Perm (rem.erase i) → (i :: π).Perm rem := fun π hp => (hp.cons i).trans (List.perm_cons_erase him).symm
      have hok : (doIns T s (is.getD i dIns)).ok = true := by
        have e := H (i :: rem.erase i) (hperm _ (List.Perm.refl _)) (hlin _ (List.Perm.refl _) (hlinS _ hes))
        refine runL_ok (T := T) (is := is) (rem.erase i) ?_
        have e2 : runL T is (doIns T s (is.getD i dIns)) (rem.erase i) = r := e
        rw [e2]; exact hrok
      have hstep := ins_step (ds := ds) (Q := Q) (K := wpAny P .any ops Q fuel (listed.setIfInBounds i true)) hT hfx hnd hn hc.2 hok fun tmps' w' g' hn' hfx' => ?_
      · unfold wpOp
        rw [Array.getElem?_eq_getElem hiN]
        simp only
        split
        · rename_i hw; rw [if_pos hw] at hstep; exact .inl hstep
        · rename_i hw; rw [if_neg hw] at hstep; exact hstep
      · refine ih (rem.erase i) _ hes (fun k hk => hb k (List.mem_of_mem_erase hk)) (by simpa using hsz) (fun k hk => ?_) (by rw [List.length_erase_of_mem him]; omega) (fun π hp hl => H (i :: π) (hperm π hp) (hlin π hp hl)) hfx' hn'
        rw [hnodup.mem_erase_iff]
        by_cases e : i = k
        · subst e
          simp [Array.getD_eq_getD_getElem?, hsz, hiN]
        · rw [Array.getD_eq_getD_getElem?, Array.getElem?_setIfInBounds_ne e, ← Array.getD_eq_getD_getElem?, hl k hk]
          simp [Ne.symm e]

theorem any_ok (hT : TSound P T) (hnd : NdOk vm) {k id : Nat} {is : List Ins} {alts : List (List Nat)} (hc : chkAny P n ops vm ss k is alts = true) (h : FX F Iow w0 g0 o0 g w tmps vm [] s) (hn : tmps.size = n) (hok : (anyS T k is alts s).ok = true)
    (hQ : ∀ tmps' w' g', tmps'.size = n → FX F Iow w0 g0 o0 g' w' tmps' vm ss (anyS T k is alts s) → Q .normal ⟨tmps', ds⟩ w') : (Code.region id ops true).wp P Q ⟨tmps, ds⟩ w := by
  simp only [chkAny, Bool.and_eq_true, beq_iff_eq, List.all_eq_true, decide_eq_true_eq, Bool.or_eq_true, List.contains_eq_mem, List.mem_range] at hc
  obtain ⟨hm, hk, hss, hil, hat, hex⟩ := hc
  have hboth : (doList T is (slots k s)).ok = true ∧ altsOk T is (slots k s) (doList T is (slots k s)) alts = true := by
    simpa [anyS, andOk] using hok
  have hdr : ({ w with drawn := w.drawn + 1 } : World) = w.drew := rfl
  have hfx := (h.slots (ss := ss) hk (fun t ht => by rw [hn]; exact hss t ht)).grow (w' := { w with drawn := w.drawn + 1 }) (by rw [hdr]; exact Same.drew _ _)
  have hrange : runL T is (slots k s) (List.range ops.size) = doList T is (slots k s) := by
    rw [← runL_pick, ← hil, pickIs_range]
  refine wp_region_any hm (any_step hT hnd (is := is) (r := doList T is (slots k s)) (fun j hj => hat j hj) hboth.1 (fun tmps' w' g' hn' hf => hQ tmps' w' g' hn' ?_) ops.size (List.range ops.size) _ List.pairwise_lt_range (fun i hi => by simpa using hi) (by simp) (fun i hi => ?_) (by simp) (fun π hp hl => ?_) hfx hn)
  · exact hf.setOk _
  · simp [Array.getD_eq_getD_getElem?, hi]
  · have hirr : ∀ i, depOf ops i i = false := by
      intro i
      cases hd : depOf ops i i with
      | false => rfl
      | true =>
        unfold depOf at hd
        split at hd
        · rename_i o ho
          have hj : i < ops.size := by
            rcases Nat.lt_or_ge i ops.size with h' | h'
            · exact h'
            · rw [Array.getElem?_eq_none h'] at ho; cases ho
          have hc := hat i hj
          unfold chkAt at hc
          rw [ho] at hc
          simp only [Bool.and_eq_true, Array.all_eq_true, Array.any_eq_true] at hc hd
          obtain ⟨x, hx, hb, he⟩ := hd
          have := hc.1 x hx
          simp only [Bool.or_eq_true, Bool.not_eq_true', decide_eq_true_eq, beq_iff_eq] at this he
          rcases this with e | e
          · rw [hb] at e; cases e
          · omega
        · cases hd
    obtain ⟨ρ, hρ, he⟩ := explore_all (f := fun i s => doIns T s (is.getD i dIns)) (fun i j s hcm => com_ok hcm) hirr ops.size (List.range ops.size) (by simp) List.nodup_range π hp hl
    have h1 : runL T is (slots k s) π = runL T is (slots k s) ρ := he _
    rw [h1]
    rcases hex ρ hρ with e | e
    · rw [e]; exact hrange
    · rw [← runL_pick]; exact altsOk_get hboth.2 ρ e

end

end Go.Proofs.YtbobhejdijcofaaGreatDoor
