/- Operations that may be done in any order. No condition. -/
import Derived.Test.YtgbopjgnggdhkaaEngU
namespace Go.Proofs.Ytgbopjgnggdhkaa
open Go Go.RowKit
set_option linter.unusedSimpArgs false
set_option linter.unusedVariables false

/-! ### Which operations commute -/

def isRead : AOp → Bool
  | .mov _ => true
  | .load _ _ _ => true
  | .nilck _ => true
  | .bin _ _ _ _ => true
  | .eqA _ _ _ _ => true
  | .un _ _ => true
  | .conv _ _ => true
  | .b2s _ => true
  | .mkFn _ _ _ => true
  | .fldAddr _ _ => true
  | .fld _ _ _ _ => true
  | .ixAddr _ _ _ => true
  | .ixStr _ _ => true
  | .ext _ _ => true
  | .len _ _ => true
  | .minmax _ _ => true
  | .pick _ _ _ => true
  | .callp _ _ => true
  | .pur _ => true
  | _ => false

def isPick : AOp → Bool
  | .pick _ _ _ => true
  | _ => false

def effFree (i : Ins) : Bool := match i.guard with
  | some _ => canGuard i.op || isPick i.op
  | none => isRead i.op

/-- All operands of an operation that only reads. -/
def srcsOf : AOp → List Src
  | .mkFn _ fi ca => fi ++ ca
  | .pick c a b => [c, a, b]
  | .callp _ args => args
  | .pur a => opsOf a
  | a => opsOf a

def rdsOf (i : Ins) : List Src := (match i.guard with | some g => [g.1] | none => []) ++ srcsOf i.op

def hits : Dst → Src → Bool
  | .var n, .v m => n == m
  | .slot n, .s m => n == m
  | _, _ => false

def sameD : Dst → Dst → Bool
  | .var n, .var m => n == m
  | .slot n, .slot m => n == m
  | _, _ => false

def noPush : Dst → Bool
  | .push => false
  | _ => true

def indep (i j : Ins) : Bool := noPush i.dst && (noPush j.dst && (!sameD i.dst j.dst && ((rdsOf j).all (fun x => !hits i.dst x) && (rdsOf i).all (fun x => !hits j.dst x))))

/-- Two operations that commute, whatever the state. -/
def com (i j : Ins) : Bool := indep i j && (effFree i && effFree j)

def rduOf (r : Src → AV) : Src → AV
  | .c a => a
  | x => unopt (r x)

/-- What an operation that only reads gives. -/
noncomputable def purR (T : Tbl) (r : Src → AV) (ob : Obs) (key : Nat) : AOp → Mk
  | .call f args => pureM (doCallG T ob ⟨true, f, args.map r⟩)
  | .callv f args => pureM (doCallG T ob (calleeV (args.map r) (r f)))
  | op => bif canGuard op then pureM (frzM (stillOp r ob key op)) else bad

theorem purOp_R {T : Tbl} {s : St} {key : Nat} {a : AOp} : purOp T s key a = purR T (rd s) s.ob key a := by cases a <;> rfl
theorem purR_hs {T : Tbl} {r : Src → AV} {ob : Obs} {key : Nat} {a : AOp} : (purR T r ob key a).hs = [] := by cases a <;> simp only [purR, cond_eq_if] <;> (try split) <;> rfl

noncomputable def eff1 (T : Tbl) (r : Src → AV) (ob : Obs) (key : Nat) : AOp → Bool × AV
  | .pur a => ((purR T r ob key a).ok, (purR T r ob key a).v)
  | .pick c a b => ((pickM true (r a) (r b) (r c)).ok, (pickM true (r a) (r b) (r c)).v)
  | .callp f args => ((pureM (doCallG T ob ⟨true, f, args.map r⟩)).ok, (pureM (doCallG T ob ⟨true, f, args.map r⟩)).v)
  | op => ((stillOp r ob key op).ok, (stillOp r ob key op).v)

noncomputable def guardedR (T : Tbl) (r : Src → AV) (ob : Obs) (w : Bool) (key : Nat) : AOp → Mk
  | .pick c a b => also (optOk w (r c)) (pickM w (r a) (r b) (rduOf r c))
  | .call f args => also ((opsOf (.call f args)).all fun x => optOk w (r x)) (doCallG T ob ⟨true, f, args.map (rduOf r)⟩)
  | .callv f args => also ((opsOf (.callv f args)).all fun x => optOk w (r x)) (doCallG T ob (calleeV (args.map (rduOf r)) (rduOf r f)))
  | op => also (canGuard op && (opsOf op).all fun x => optOk w (r x)) (frzM (stillOp (rduOf r) ob key op))

noncomputable def eff (T : Tbl) (r : Src → AV) (ob : Obs) (i : Ins) : Bool × AV :=
  match i.guard with
  | none => eff1 T r ob i.key i.op
  | some g => (gdOk (r g.1) && (!gdV g.2 (r g.1) || ((guardedR T r ob (gdV g.2 (r g.1)) i.key i.op).ok && ((guardedR T r ob (gdV g.2 (r g.1)) i.key i.op).hs.isEmpty && (guardedR T r ob (gdV g.2 (r g.1)) i.key i.op).v.lone))),
      .opt (gdV g.2 (r g.1)) (guardedR T r ob (gdV g.2 (r g.1)) i.key i.op).v)

theorem rduOf_rd (s : St) : rduOf (rd s) = rdu s := by funext x; cases x <;> rfl

theorem read_hs {T : Tbl} {r : Src → AV} {ob : Obs} {key : Nat} {a : AOp} (h : isRead a = true) (hp : ∀ x y z, a ≠ .pick x y z) (hc : ∀ f l, a ≠ .callp f l) (hu : ∀ x, a ≠ .pur x) : (stillOp r ob key a).hs = [] := by
  cases a <;> simp only [isRead] at h <;> (try (cases h; done)) <;> simp only [stillOp]
  case mov => rfl
  case load agg sz p =>
    cases r p <;> simp only [loadA] <;> try rfl
    · exact part_hs _ _ _ _
    · rename_i k i off
      cases obGet k ob <;> first | rfl | exact part_hs _ _ _ _
  case nilck x => cases r x <;> simp only [nilckA] <;> (try rfl) <;> (rename_i f _ _; cases f <;> rfl)
  case bin bl op x y =>
    unfold binA
    split
    · rw [cond_eq_if]
      split
      · unfold shB; split <;> rfl
      · simp only [also]; unfold intB; split <;> rfl
    · unfold strB; split <;> rfl
    · simp only [also]; unfold boolB; split <;> rfl
    · rfl
  case eqA neg ks x y => unfold cmpAgg; split <;> rfl
  case un op x => unfold unA; split <;> (try rfl) <;> (split <;> rfl)
  case conv k x => unfold convA; split <;> rfl
  case b2s x => cases r x <;> simp only [b2sA] <;> (try rfl); rename_i k; cases obGet k ob <;> rfl
  case mkFn => rfl
  case fldAddr off p => unfold fldAddrA; split <;> rfl
  case fld agg off sz x => simp only [also]; exact part_hs _ _ _ _
  case ixAddr sz x i => cases r x <;> simp only [ixAddrA] <;> (try rfl); rename_i k; cases obGet k ob <;> rfl
  case ixStr x i => unfold ixStrA; split <;> rfl
  case ext x i => unfold extA; split <;> rfl
  case len st x => cases r x <;> simp only [lenA] <;> (try rfl); rename_i k; cases obGet k ob <;> rfl
  case minmax mx xs => unfold mmA; split <;> rfl
  case pick c a b => exact absurd rfl (hp _ _ _)
  case callp f l => exact absurd rfl (hc _ _)
  case pur x => exact absurd rfl (hu _)

theorem pickM_hs {w : Bool} {a b c : AV} : (pickM w a b c).hs = [] := by unfold pickM; split <;> rfl

theorem putM_nil {s : St} {key : Nat} {D : Dst} {m : Mk} (h : m.hs = []) : putM s key D m = putD s m.ok m.v D := by unfold putM; rw [h]; rfl

theorem guarded_R {T : Tbl} {s : St} {w : Bool} {key : Nat} {a : AOp} : guarded T s w key a = guardedR T (rd s) s.ob w key a := by
  cases a <;> simp only [guarded, guardedR, rduOf_rd]

/-- An operation that only reads puts its value, and does nothing else. -/
theorem doIns_eff {T : Tbl} {s : St} {i : Ins} (h : effFree i = true) : doIns T s i = putD s (eff T (rd s) s.ob i).1 (eff T (rd s) s.ob i).2 i.dst := by
  unfold doIns eff
  cases hg : i.guard with
  | some g =>
    have hnw : ∀ f l, i.op ≠ .callw f l := fun f l e => by simp [effFree, hg, e, canGuard, isPick] at h
    have e1 : ∀ s' w, insGG T s' i.key i.dst w i.op = putG s' w i.dst (guarded T s' w i.key i.op) := by
      intro s' w
      unfold insGG
      split
      · rename_i f l e; exact absurd e (hnw f l)
      · rfl
    simp only [insG]
    rw [e1]
    have e2 : guarded T { s with ok := s.ok && gdOk (rd s g.1) } (gdV g.2 (rd s g.1)) i.key i.op = guarded T s (gdV g.2 (rd s g.1)) i.key i.op := rfl
    rw [e2, guarded_R]
    simp only [putG]
    cases i.dst <;> simp [putD, Bool.and_assoc]
  | none =>
    simp only [effFree, hg] at h
    simp only [insG]
    generalize i.op = a at h
    cases a <;> simp only [isRead] at h <;> (try (cases h; done)) <;> simp only [doOp, eff1]
    case pick => rw [putM_nil pickM_hs]
    case callp => rw [putM_nil rfl]
    case pur => rw [purOp_R, putM_nil purR_hs]
    all_goals
      rw [putM_nil (read_hs (T := T) rfl (fun _ _ _ e => by cases e) (fun _ _ e => by cases e) (fun _ e => by cases e))]

/-! ### They commute -/

theorem rd_putD {s : St} {c : Bool} {a : AV} {D : Dst} {x : Src} (hp : noPush D = true) (hx : hits D x = false) : rd (putD s c a D) x = rd s x := by
  cases D <;> simp only [noPush] at hp <;> (try (cases hp; done)) <;> cases x <;> simp only [putD, rd] <;> simp only [hits, beq_eq_false_iff_ne] at hx
  · rename_i n m
    simp only [List.getD_eq_getElem?_getD, List.getElem?_set_ne hx]
  · rename_i n m
    simp only [List.getD_eq_getElem?_getD, List.getElem?_set_ne hx]

theorem ob_putD {s : St} {c : Bool} {a : AV} {D : Dst} : (putD s c a D).ob = s.ob := by cases D <;> rfl

theorem putD_comm {s : St} {c d : Bool} {a b : AV} {D E : Dst} (h1 : noPush D = true) (h2 : noPush E = true) (h3 : sameD D E = false) : putD (putD s c a D) d b E = putD (putD s d b E) c a D := by
  have hb : (s.ok && c && d) = (s.ok && d && c) := Bool.and_right_comm _ _ _
  cases D <;> simp only [noPush] at h1 <;> (try (cases h1; done)) <;> cases E <;> simp only [noPush] at h2 <;> (try (cases h2; done)) <;> simp only [putD, hb] <;>
    (try (simp only [sameD, beq_eq_false_iff_ne] at h3; rw [List.set_comm _ _ h3]))

theorem stillOp_congr2 {r r' : Src → AV} {ob : Obs} {d : Nat} {a : AOp} (hg : isRead a = true) (hp : ∀ x y z, a ≠ .pick x y z) (hc : ∀ f l, a ≠ .callp f l) (hu : ∀ x, a ≠ .pur x) (h : ∀ x, x ∈ srcsOf a → r x = r' x) : stillOp r ob d a = stillOp r' ob d a := by
  cases a <;> simp only [isRead] at hg <;> (try (cases hg; done)) <;> simp only [srcsOf, opsOf] at h <;> simp only [stillOp]
  case minmax mx xs => rw [List.map_congr_left h]
  case mkFn f fi ca =>
    rw [List.map_congr_left (l := fi) fun x hx => h x (List.mem_append.2 (.inl hx)), List.map_congr_left (l := ca) fun x hx => h x (List.mem_append.2 (.inr hx))]
  all_goals first | (exact absurd rfl (hp _ _ _)) | (exact absurd rfl (hc _ _)) | (exact absurd rfl (hu _)) | simp_all

theorem purR_congr {T : Tbl} {r r' : Src → AV} {ob : Obs} {d : Nat} {a : AOp} (h : ∀ x, x ∈ opsOf a → r x = r' x) : purR T r ob d a = purR T r' ob d a := by
  by_cases hg : canGuard a = true
  · cases a
    case call f args =>
      simp only [opsOf] at h
      simp only [purR]; rw [List.map_congr_left h]
    case callv f args =>
      simp only [opsOf] at h
      simp only [purR]
      rw [List.map_congr_left (l := args) fun x hx => h x (List.mem_cons_of_mem _ hx), h f (by simp)]
    all_goals first
      | (exfalso; simp [canGuard] at hg; done)
      | (simp only [purR]; rw [stillOp_congr hg h])
  · have hg' : canGuard a = false := by simpa using hg
    cases a
    case call f args => simp [canGuard] at hg
    case callv f args => simp [canGuard] at hg
    all_goals (simp only [purR]; rw [hg']; rfl)

theorem rduOf_congr {r r' : Src → AV} {x : Src} (h : r x = r' x) : rduOf r x = rduOf r' x := by cases x <;> simp [rduOf, h]

theorem guardedR_congr {T : Tbl} {r r' : Src → AV} {ob : Obs} {w : Bool} {key : Nat} {a : AOp} (hg : canGuard a = true ∨ isPick a = true) (h : ∀ x, x ∈ srcsOf a → r x = r' x) : guardedR T r ob w key a = guardedR T r' ob w key a := by
  have hall : ∀ l : List Src, (∀ x, x ∈ l → r x = r' x) → (l.all fun x => optOk w (r x)) = (l.all fun x => optOk w (r' x)) := by
    intro l hl
    induction l with
    | nil => rfl
    | cons y l ih => simp only [List.all_cons]; rw [hl y (by simp), ih fun x hx => hl x (by simp [hx])]
  have hmap : ∀ l : List Src, (∀ x, x ∈ l → r x = r' x) → l.map (rduOf r) = l.map (rduOf r') := fun l hl => List.map_congr_left fun x hx => rduOf_congr (hl x hx)
  have still : canGuard a = true → (∀ x, x ∈ opsOf a → r x = r' x) → also (canGuard a && (opsOf a).all fun x => optOk w (r x)) (frzM (stillOp (rduOf r) ob key a)) = also (canGuard a && (opsOf a).all fun x => optOk w (r' x)) (frzM (stillOp (rduOf r') ob key a)) := by
    intro hcg hh
    rw [hall _ hh, stillOp_congr hcg fun x hx => rduOf_congr (hh x hx)]
  cases a
  case pick c x y =>
    simp only [srcsOf] at h
    simp only [guardedR]
    rw [h c (by simp), h x (by simp), h y (by simp), rduOf_congr (h c (by simp))]
  case call f args =>
    simp only [srcsOf, opsOf] at h
    simp only [guardedR, opsOf]
    rw [hall _ h, hmap _ h]
  case callv f args =>
    simp only [srcsOf, opsOf] at h
    simp only [guardedR, opsOf]
    rw [hall _ h, hmap _ fun x hx => h x (List.mem_cons_of_mem _ hx), rduOf_congr (h f (by simp))]
  all_goals
    first
    | (exfalso; rcases hg with hg | hg <;> simp [canGuard, isPick] at hg; done)
    | exact still rfl h

/-- What an operation that only reads gives hangs on what it reads. -/
theorem eff_congr {T : Tbl} {r r' : Src → AV} {ob : Obs} {i : Ins} (he : effFree i = true) (h : ∀ x, x ∈ rdsOf i → r x = r' x) : eff T r ob i = eff T r' ob i := by
  unfold rdsOf at h
  unfold effFree at he
  unfold eff
  cases hg : i.guard with
  | some g =>
    rw [hg] at he h
    simp only at he h ⊢
    have h1 : r g.1 = r' g.1 := h _ (by simp)
    have h2 : ∀ w, guardedR T r ob w i.key i.op = guardedR T r' ob w i.key i.op := fun w => guardedR_congr (by simpa using he) fun x hx => h x (List.mem_append.2 (.inr hx))
    rw [h1, h2]
  | none =>
    rw [hg] at he h
    simp only [List.nil_append] at he h ⊢
    generalize i.op = a at he h
    cases a
    case pick c x y =>
      simp only [srcsOf] at h
      simp only [eff1]
      rw [h c (by simp), h x (by simp), h y (by simp)]
    case callp f args =>
      simp only [srcsOf] at h
      simp only [eff1]
      rw [List.map_congr_left h]
    case pur x =>
      simp only [srcsOf] at h
      simp only [eff1]
      rw [purR_congr h]
    all_goals
      simp only [eff1]
      rw [stillOp_congr2 he (fun _ _ _ e => by cases e) (fun _ _ e => by cases e) (fun _ e => by cases e) h]

theorem com_ok {T : Tbl} {s : St} {i j : Ins} (h : com i j = true) : doIns T (doIns T s i) j = doIns T (doIns T s j) i := by
  simp only [com, indep, Bool.and_eq_true, Bool.not_eq_true', List.all_eq_true] at h
  obtain ⟨⟨h1, h2, h3, h4, h5⟩, h6, h7⟩ := h
  rw [doIns_eff h6, doIns_eff (s := s) h7, doIns_eff h7, doIns_eff h6]
  rw [ob_putD, ob_putD, eff_congr (r := rd (putD s _ _ i.dst)) (r' := rd s) h7 fun x hx => rd_putD h1 (h4 x hx), eff_congr (r := rd (putD s _ _ j.dst)) (r' := rd s) h6 fun x hx => rd_putD h2 (h5 x hx)]
  exact putD_comm h1 h2 h3

end Go.Proofs.Ytgbopjgnggdhkaa
